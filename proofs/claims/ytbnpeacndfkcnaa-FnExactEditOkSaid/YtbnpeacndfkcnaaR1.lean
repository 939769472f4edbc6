/- The law FnExactEditOk. No condition. -/
import Derived.Test.YtbnpeacndfkcnaaE2
import Derived.Test.YtbnpeacndfkcnaaAm25
import Derived.Test.YtbnpeacndfkcnaaRows
namespace Go.Proofs.Ytbnpeacndfkcnaa
open Am Go.RowKit

theorem edit_arg {cs : List CV} (h : ShCs TryT [23] cs) : ∃ (k v p : Int) (ob key : ByteArray), cs = [.agg [.int .i64 k, .str ob, .str key, .int .i64 v, .int .i64 p]] ∧ ob.size ≤ 9223372036854775807 ∧ key.size ≤ 9223372036854775807 := by
  match cs, h with
  | [c], h =>
    simp only [ShCs, ShC, TryT_23] at h
    obtain ⟨⟨ps, rfl, hs⟩, _⟩ := h
    have h1 := Sh_struct TryT_23 hs
    obtain ⟨x1, r1, rfl, s1, h1⟩ := ShL_cons h1
    obtain ⟨x2, r2, rfl, s2, h1⟩ := ShL_cons h1
    obtain ⟨x3, r3, rfl, s3, h1⟩ := ShL_cons h1
    obtain ⟨x4, r4, rfl, s4, h1⟩ := ShL_cons h1
    obtain ⟨x5, r5, rfl, s5, h1⟩ := ShL_cons h1
    obtain rfl := ShL_nil h1
    obtain ⟨k, rfl, _⟩ := Sh_int TryT_3 s1
    obtain ⟨ob, rfl, g1⟩ := Sh_str TryT_9 s2
    obtain ⟨key, rfl, g2⟩ := Sh_str TryT_9 s3
    obtain ⟨v, rfl, _⟩ := Sh_int TryT_3 s4
    obtain ⟨p, rfl, _⟩ := Sh_int TryT_3 s5
    exact ⟨k, v, p, ob, key, rfl, g1, g2⟩

theorem Try.own : ownKnob Try.prog.godebug = none := by kernel_rfl
theorem Try.laidOut : laidOutB Try.prog = true := by kernel_rfl

set_option maxRecDepth 100000 in
theorem fnExactEditOk_lifted (os : Os) (started : os.Started) (H : Type) (enc : TypeId × Value → H) :
    ReturnsInHanded {} Try.checked os 3 .any (Rows.fnExactEditOkSpec.pre6 enc Try.prog Try.f3 Rows.fnExactEditOkRow.domain false) (Rows.fnExactEditOkSpec.post enc Try.prog Try.f3 false true false false) := by
  refine lifted (C := Try.checked) (T := TryT) (tb := 4) TryT_ok Try.own Try.laidOut started (by kernel_rfl) Try.func3 rfl ?_ rfl (by kernel_rfl) (by kernel_rfl) (by kernel_rfl)
    (ChangeSpec.witness6 (enc := enc) (C := Try.checked) false ⟨#[], #[.agg #[.int .i64 0, .string ⟨#[]⟩, .string ⟨#[]⟩, .int .i64 0, .int .i64 0]], []⟩ 8 (by kernel_rfl) (by kernel_rfl) (by kernel_rfl) (by kernel_rfl)) ?_
  · intro ds hd
    match ds, hd with
    | [d], _ => rfl
  · intro cs hcs
    obtain ⟨k, v, p, ob, key, rfl, h1, h2⟩ := edit_arg hcs
    exact f3_ok k v p ob key h1 h2

theorem fnExactEditOk_holds : Rows.FnExactEditOkSaid :=
  OpenClaim.holds_of_wide 3 Try.f3 rfl rfl rfl rfl rfl rfl rfl ⟨rfl, rfl, rfl, rfl, rfl⟩ rfl rfl rfl rfl rfl (by kernel_rfl) Try.func3 (by kernel_rfl)
    (of_decide_eq_true (by kernel_rfl)) (by unfold Func.isWrapper; first | (rw [if_pos (by decide +kernel)]; kernel_rfl) | (rw [if_neg (by decide +kernel)]; exact ⟨rfl, rfl⟩))
    (fun os started H enc _ => fnExactEditOk_lifted os started H enc)
end Go.Proofs.Ytbnpeacndfkcnaa
