/- Tallies put together: the reference's. No condition. -/
import Derived.Test.YtpgnllakcjajjaaGreatT
import Derived.Test.YtpgnllakcjajjaaGreatD
import Derived.Test.YtpgnllakcjajjaaGreatE53
import Derived.Test.YtpgnllakcjajjaaGreatE52
import Derived.Test.YtpgnllakcjajjaaGreatE5
import Derived.Test.YtpgnllakcjajjaaGreatE7
import Derived.Test.YtpgnllakcjajjaaGreatAm31
namespace Am
open Go Go.Proofs
open Cel (cells)
set_option maxRecDepth 100000
set_option linter.unusedSimpArgs false
set_option linter.unusedVariables false

@[simp] def h124 : Hts := { merge := fun _ => false, dr := fun id => if id = 5 then [{}, {}, {}, {}, {}, {}, {}, {}, {}, {}, { wr := [640002] }, { wr := [640002] }, { wr := [640002] }] else [] }
set_option maxHeartbeats 2000000 in
theorem f124_ok (u0 u2 u3 : Value) (l : List GTally) (o : ByteArray) (r v : Int) (ha : l.length ≤ 3000000000) : FnW Tryz.prog 124 [.ptr [.tk u0, .ow 118 3 l.length (flat l), .tk u2, .tk u3], .v (.str o), .v (.int .i64 r), .v (.int .i64 v)] (.tup []) [.ptr [.tk u0, .ow 118 3 (addT l o r v).length (flat (addT l o r v)), .tk u2, .tk u3], .any, .any, .any] := by
  refine FnW.of_AW TryzT_ok 1 (fn := Tryz.f124) (by kernel_rfl) rfl (by kernel_rfl) rfl rfl rfl ?_
  refine AW_of h124 TryzT_ok (by kernel_rfl) ?_
  simp -dsimp
  refine AWh_loop (fun i : Nat => i ≤ l.length ∧ ∀ j : Nat, j < i → talIs o r (nth l j) = false) (fun i => mkE [(0, .box 640000 0), (1, .c (.str o)), (2, .c (.int .i64 r)), (3, .c (.int .i64 v)), (8, .c (.int .i64 i))] [(640000, .box [.c (.tk u0), .arr 640002, .c (.tk u2), .c (.tk u3)]), (640002, .arr 0 118 3 l.length (flat l))]) (fun i => l.length - i) 0 (Wk_to [0, 1, 2, 3, 8] [(640000, 640000), (640002, 640002)] rfl rfl (by simp)) (by simp) ?_
  rintro i ⟨hi, hall⟩
  refine AW_of h124 TryzT_ok (by kernel_rfl) ?_
  rcases Nat.lt_or_ge i l.length with h1 | h1
  · by_cases e1 : (nth l i).obj = o
    · by_cases e2 : (nth l i).rep = r
      · have b2 : ((nth l i).rep == r) = true := by simp [e2]
        simp -dsimp [h1, ne_of_lt h1, e1, e2]
        repeat (first | refine ⟨by omega, ?_⟩ | refine ⟨by simp [capMax]; omega, ?_⟩ | refine ⟨⟨by omega, by omega⟩, ?_⟩)
        have hr : addT l o r v = l.set i ⟨o, r, (IntKind.i64.wrap ((nth l i).sum + v)).tmod 1000000⟩ := by
          have hix : idx (talIs o r) l = i := idx_here h1 hall (by simp [talIs, e1, e2])
          simp [addT, hix]
        rw [hr]
        exact ⟨by simp, rfl⟩
      · have b2 : ((nth l i).rep == r) = false := by simp [e2]
        simp -dsimp [h1, ne_of_lt h1, e1, e2]
        repeat (first | refine ⟨by omega, ?_⟩ | refine ⟨by simp [capMax]; omega, ?_⟩ | refine ⟨⟨by omega, by omega⟩, ?_⟩)
        exact Back_of (i + 1) [0, 1, 2, 3, 8] [(640000, 640000), (640002, 640002)] rfl rfl (by simp; rw [wrap64 (by omega) (by omega)]) ⟨by omega, fun j hj => by
          by_cases e3 : j = i
          · subst e3; simp [talIs, e2]
          · exact hall j (by omega)⟩ (by omega)
    · simp -dsimp [h1, ne_of_lt h1, e1]
      repeat (first | refine ⟨by omega, ?_⟩ | refine ⟨by simp [capMax]; omega, ?_⟩ | refine ⟨⟨by omega, by omega⟩, ?_⟩)
      exact Back_of (i + 1) [0, 1, 2, 3, 8] [(640000, 640000), (640002, 640002)] rfl rfl (by simp; rw [wrap64 (by omega) (by omega)]) ⟨by omega, fun j hj => by
        by_cases e3 : j = i
        · subst e3; simp [talIs, e1]
        · exact hall j (by omega)⟩ (by omega)
  · obtain rfl : i = l.length := by omega
    have hno : idx (talIs o r) l = -1 := idx_none hall
    clear hi h1
    simp -dsimp
    refine AWh_loop (fun i : Nat => i ≤ l.length) (fun i => mkE [(0, .box 640000 0), (1, .c (.str o)), (2, .c (.int .i64 r)), (3, .c (.int .i64 v)), (10, .arr 3328), (11, .c (.bool (insK tallyLt ⟨o, r, v⟩ l i).2)), (12, .c (.int .i64 i))] [(640000, .box [.c (.tk u0), .arr 640002, .c (.tk u2), .c (.tk u3)]), (640002, .arr 0 118 3 l.length (flat l)), (3328, .arr 0 118 3 (insK tallyLt ⟨o, r, v⟩ l i).1.length (flat (insK tallyLt ⟨o, r, v⟩ l i).1))]) (fun i => l.length - i) 0 (Wk_to [0, 1, 2, 3, 10, 11, 12] [(640000, 640000), (640002, 640002), (3328, 3328)] rfl rfl (by simp [insK])) (by simp) ?_
    rintro i hi
    have hkl := insK_len (lt := tallyLt) ⟨o, r, v⟩ l i
    have hkl' : (insK tallyLt ⟨o, r, v⟩ l i).1.length ≤ i + 1 := by split at hkl <;> omega
    refine AW_of h124 TryzT_ok (by kernel_rfl) ?_
    rcases Nat.lt_or_ge i l.length with h1 | h1
    · cases g : (insK tallyLt ⟨o, r, v⟩ l i).2
      · by_cases e1 : (nth l i).obj = o
        · subst e1
          rcases Int.lt_or_le r (nth l i).rep with e2 | e2
          · have g3 : tallyLt ⟨(nth l i).obj, r, v⟩ (nth l i) = true := by simp [tallyLt, e2]
            simp -dsimp [h1, ne_of_lt h1, e2]
            repeat (first | refine ⟨by omega, ?_⟩ | refine ⟨by simp [capMax]; omega, ?_⟩ | refine ⟨⟨by omega, by omega⟩, ?_⟩)
            exact Back_of (i + 1) [0, 1, 2, 3, 10, 11, 12] [(640000, 640000), (640002, 640002), (3328, 6336)] rfl rfl (by simp [insK, g, g3]; rw [wrap64 (by omega) (by omega)]) (by omega) (by omega)
          · have g3 : tallyLt ⟨(nth l i).obj, r, v⟩ (nth l i) = false := by simp [tallyLt]; exact ⟨strLt_self _, e2⟩
            have e2' : ¬ r < (nth l i).rep := by omega
            simp -dsimp [h1, ne_of_lt h1, e2, e2']
            repeat (first | refine ⟨by omega, ?_⟩ | refine ⟨by simp [capMax]; omega, ?_⟩ | refine ⟨⟨by omega, by omega⟩, ?_⟩)
            exact Back_of (i + 1) [0, 1, 2, 3, 10, 11, 12] [(640000, 640000), (640002, 640002), (3328, 6336)] rfl rfl (by simp [insK, g, g3]; rw [wrap64 (by omega) (by omega)]) (by omega) (by omega)
        · cases g4 : Op.bytesLess (nth l i).obj.toList o.toList
          · have g5 : strLt o (nth l i).obj = true := by
              cases g6 : strLt o (nth l i).obj
              · exact absurd (strLt_tri g4 g6) e1
              · rfl
            have g3 : tallyLt ⟨o, r, v⟩ (nth l i) = true := by simp [tallyLt, g5]
            simp -dsimp [h1, ne_of_lt h1, e1, g4]
            repeat (first | refine ⟨by omega, ?_⟩ | refine ⟨by simp [capMax]; omega, ?_⟩ | refine ⟨⟨by omega, by omega⟩, ?_⟩)
            exact Back_of (i + 1) [0, 1, 2, 3, 10, 11, 12] [(640000, 640000), (640002, 640002), (3328, 6336)] rfl rfl (by simp [insK, g, g3]; rw [wrap64 (by omega) (by omega)]) (by omega) (by omega)
          · have g5 : strLt o (nth l i).obj = false := strLt_asymm g4
            have g3 : tallyLt ⟨o, r, v⟩ (nth l i) = false := by simp [tallyLt, g5]; exact fun h => absurd h.symm e1
            simp -dsimp [h1, ne_of_lt h1, e1, g4]
            repeat (first | refine ⟨by omega, ?_⟩ | refine ⟨by simp [capMax]; omega, ?_⟩ | refine ⟨⟨by omega, by omega⟩, ?_⟩)
            exact Back_of (i + 1) [0, 1, 2, 3, 10, 11, 12] [(640000, 640000), (640002, 640002), (3328, 6336)] rfl rfl (by simp [insK, g, g3]; rw [wrap64 (by omega) (by omega)]) (by omega) (by omega)
      · simp -dsimp [h1, ne_of_lt h1]
        repeat (first | refine ⟨by omega, ?_⟩ | refine ⟨by simp [capMax]; omega, ?_⟩ | refine ⟨⟨by omega, by omega⟩, ?_⟩)
        exact Back_of (i + 1) [0, 1, 2, 3, 10, 11, 12] [(640000, 640000), (640002, 640002), (3328, 6336)] rfl rfl (by simp [insK, g]; rw [wrap64 (by omega) (by omega)]) (by omega) (by omega)
    · obtain rfl : i = l.length := by omega
      cases g : (insK tallyLt ⟨o, r, v⟩ l l.length).2
      · have hr : addT l o r v = insF tallyLt ⟨o, r, v⟩ l := by simp [addT, hno]
        simp -dsimp [g]
        repeat (first | refine ⟨by omega, ?_⟩ | refine ⟨by simp [capMax]; omega, ?_⟩ | refine ⟨⟨by omega, by omega⟩, ?_⟩)
        simp [hr, insF, g]
      · have hr : addT l o r v = insF tallyLt ⟨o, r, v⟩ l := by simp [addT, hno]
        simp -dsimp [g]
        repeat (first | refine ⟨by omega, ?_⟩ | refine ⟨by simp [capMax]; omega, ?_⟩ | refine ⟨⟨by omega, by omega⟩, ?_⟩)
        simp [hr, insF, g]

def addN (p : GTally → Bool) (base l : List GTally) : Nat → List GTally
  | 0 => base
  | n + 1 => if p (nth l n) = true then addT (addN p base l n) (nth l n).obj (nth l n).rep (nth l n).sum else addN p base l n
theorem addT_len (l : List GTally) (o : ByteArray) (r v : Int) : (addT l o r v).length ≤ l.length + 1 := by
  unfold addT
  split
  · simp
  · rw [insF_len]; omega
theorem addN_len (p : GTally → Bool) (base l : List GTally) : ∀ n, (addN p base l n).length ≤ base.length + n
  | 0 => by simp [addN]
  | n + 1 => by
    have := addN_len p base l n
    have := addT_len (addN p base l n) (nth l n).obj (nth l n).rep (nth l n).sum
    simp only [addN]; split <;> omega
/-- the tallies of a that b knows no more of, then those of b that b knows more of -/
def noMore (ka kb : List Int) (t : GTally) : Bool := decide (nth kb t.rep.toNat ≤ nth ka t.rep.toNat)
def more (ka kb : List Int) (t : GTally) : Bool := decide (nth ka t.rep.toNat < nth kb t.rep.toNat)
def repsIn (l : List GTally) : Prop := ∀ i : Nat, i < l.length → 0 ≤ (nth l i).rep ∧ (nth l i).rep < 3
def talTwo (ka kb : List Int) (x y : List GTally) : List GTally := addN (more ka kb) (addN (noMore ka kb) [] x x.length) y y.length
@[simp] def h44 : Hts := { merge := fun _ => false, lend := fun f => if f = 124 then [.box [0, 2, 3]] else [], dr := fun id => if id = 6 then [{}, {}, {}, {}, {}, {}, {}, {}, {}, {}, {}, {}, {}] else if id = 12 then [{}, {}, {}, {}, {}, {}, {}, {}, {}, {}, {}, {}, {}] else [] }
set_option maxHeartbeats 2000000 in
theorem f44_ok (a b : GState) (ha : a.Ok) (hb : b.Ok) (hk1 : a.know.length = 3) (hk2 : b.know.length = 3) (hr1 : repsIn a.tallies) (hr2 : repsIn b.tallies) : FnR Tryz.prog 44 [.agg [.im a.know.length (flat a.know), .im a.tallies.length (flat a.tallies), .im a.lives.length (flat a.lives), .im a.cs.length (flat a.cs)], .agg [.im b.know.length (flat b.know), .im b.tallies.length (flat b.tallies), .im b.lives.length (flat b.lives), .im b.cs.length (flat b.cs)]] (.v (.ow 118 3 (talTwo a.know b.know a.tallies b.tallies).length (flat (talTwo a.know b.know a.tallies b.tallies)))) := by
  refine FnW.of_AW TryzT_ok 0 (fn := Tryz.f44) (by kernel_rfl) rfl (by kernel_rfl) rfl rfl rfl ?_
  refine AW_of h44 TryzT_ok (by kernel_rfl) ?_
  simp -dsimp
  have hb1 : a.tallies.length ≤ 1073741824 := by simp only [GState.Ok] at ha; omega
  have hb2 : b.tallies.length ≤ 1073741824 := by simp only [GState.Ok] at hb; omega
  refine AWh_loop (fun i : Nat => i ≤ a.tallies.length) (fun i => mkE [(2, .box 128 0), (3, .box 192 0), (5, .box 320 0), (6, .c (.int .i64 i))] [(321, .arr 0 118 3 (addN (noMore a.know b.know) [] a.tallies i).length (flat (addN (noMore a.know b.know) [] a.tallies i))), (128, .box [.c (.im a.know.length (flat a.know)), .c (.im a.tallies.length (flat a.tallies)), .c (.im a.lives.length (flat a.lives)), .c (.im a.cs.length (flat a.cs))]), (192, .box [.c (.im b.know.length (flat b.know)), .c (.im b.tallies.length (flat b.tallies)), .c (.im b.lives.length (flat b.lives)), .c (.im b.cs.length (flat b.cs))]), (320, .box [.nil, .arr 321, .nil, .nil])]) (fun i => a.tallies.length - i) 0 (Wk_toA [2, 3, 5, 6] [(128, 128), (192, 192), (320, 320)] [.cell 320 1 321 118 3] rfl rfl (by simp [addN])) (by simp) ?_
  rintro i hi
  have hal := addN_len (noMore a.know b.know) [] a.tallies i
  simp only [List.length_nil] at hal
  refine AW_of h44 TryzT_ok (by kernel_rfl) ?_
  rcases Nat.lt_or_ge i a.tallies.length with h1 | h1
  · have hr := hr1 i h1
    have q1 : (nth a.tallies i).rep.toNat < a.know.length := by omega
    have q2 : (nth a.tallies i).rep.toNat < b.know.length := by omega
    by_cases g : nth b.know (nth a.tallies i).rep.toNat ≤ nth a.know (nth a.tallies i).rep.toNat
    · have hs : addN (noMore a.know b.know) [] a.tallies (i + 1) = addT (addN (noMore a.know b.know) [] a.tallies i) (nth a.tallies i).obj (nth a.tallies i).rep (nth a.tallies i).sum := by simp [addN, noMore, g]
      simp -dsimp [h1, ne_of_lt h1, q1, q2, g, ne_of_lt q1, ne_of_lt q2]
      repeat (first | refine ⟨by omega, ?_⟩ | refine ⟨by simp [capMax]; omega, ?_⟩ | refine ⟨⟨by omega, by omega⟩, ?_⟩)
      refine ACallW_args (by intro us; simp -dsimp; exact ⟨rfl, rfl, rfl⟩) ?_
      refine ACallC_of (fun us => f124_ok _ _ _ _ _ _ _ (by omega)) (by intro us; simp -dsimp; exact ⟨rfl, rfl⟩) ?_
      simp -dsimp
      exact Back_of (i + 1) [2, 3, 5, 6] [(321, 2729), (128, 128), (192, 192), (320, 320)] rfl rfl (by simp [hs]; rw [wrap64 (by omega) (by omega)]) (by omega) (by omega)
    · have hs : addN (noMore a.know b.know) [] a.tallies (i + 1) = (addN (noMore a.know b.know) [] a.tallies i) := by simp [addN, noMore, g]
      simp -dsimp [h1, ne_of_lt h1, q1, q2, g, ne_of_lt q1, ne_of_lt q2]
      repeat (first | refine ⟨by omega, ?_⟩ | refine ⟨by simp [capMax]; omega, ?_⟩ | refine ⟨⟨by omega, by omega⟩, ?_⟩)
      exact Back_of (i + 1) [2, 3, 5, 6] [(321, 321), (128, 128), (192, 192), (320, 320)] rfl rfl (by simp [hs]; rw [wrap64 (by omega) (by omega)]) (by omega) (by omega)
  · obtain rfl : i = a.tallies.length := by omega
    clear hi h1
    simp -dsimp
    refine AWh_loop (fun i : Nat => i ≤ b.tallies.length) (fun i => mkE [(2, .box 128 0), (3, .box 192 0), (5, .box 320 0), (8, .c (.int .i64 i))] [(321, .arr 0 118 3 (addN (more a.know b.know) (addN (noMore a.know b.know) [] a.tallies a.tallies.length) b.tallies i).length (flat (addN (more a.know b.know) (addN (noMore a.know b.know) [] a.tallies a.tallies.length) b.tallies i))), (128, .box [.c (.im a.know.length (flat a.know)), .c (.im a.tallies.length (flat a.tallies)), .c (.im a.lives.length (flat a.lives)), .c (.im a.cs.length (flat a.cs))]), (192, .box [.c (.im b.know.length (flat b.know)), .c (.im b.tallies.length (flat b.tallies)), .c (.im b.lives.length (flat b.lives)), .c (.im b.cs.length (flat b.cs))]), (320, .box [.nil, .arr 321, .nil, .nil])]) (fun i => b.tallies.length - i) 0 (Wk_to [2, 3, 5, 8] [(321, 321), (128, 128), (192, 192), (320, 320)] rfl rfl (by simp [addN])) (by simp) ?_
    rintro i hi
    have hal2 := addN_len (more a.know b.know) (addN (noMore a.know b.know) [] a.tallies a.tallies.length) b.tallies i
    refine AW_of h44 TryzT_ok (by kernel_rfl) ?_
    rcases Nat.lt_or_ge i b.tallies.length with h1 | h1
    · have hr := hr2 i h1
      have q1 : (nth b.tallies i).rep.toNat < a.know.length := by omega
      have q2 : (nth b.tallies i).rep.toNat < b.know.length := by omega
      by_cases g : nth a.know (nth b.tallies i).rep.toNat < nth b.know (nth b.tallies i).rep.toNat
      · have hs : addN (more a.know b.know) (addN (noMore a.know b.know) [] a.tallies a.tallies.length) b.tallies (i + 1) = addT (addN (more a.know b.know) (addN (noMore a.know b.know) [] a.tallies a.tallies.length) b.tallies i) (nth b.tallies i).obj (nth b.tallies i).rep (nth b.tallies i).sum := by simp [addN, more, g]
        simp -dsimp [h1, ne_of_lt h1, q1, q2, g, ne_of_lt q1, ne_of_lt q2]
        repeat (first | refine ⟨by omega, ?_⟩ | refine ⟨by simp [capMax]; omega, ?_⟩ | refine ⟨⟨by omega, by omega⟩, ?_⟩)
        refine ACallW_args (by intro us; simp -dsimp; exact ⟨rfl, rfl, rfl⟩) ?_
        refine ACallC_of (fun us => f124_ok _ _ _ _ _ _ _ (by omega)) (by intro us; simp -dsimp; exact ⟨rfl, rfl⟩) ?_
        simp -dsimp
        exact Back_of (i + 1) [2, 3, 5, 8] [(321, 4777), (128, 128), (192, 192), (320, 320)] rfl rfl (by simp [hs]; rw [wrap64 (by omega) (by omega)]) (by omega) (by omega)
      · have hs : addN (more a.know b.know) (addN (noMore a.know b.know) [] a.tallies a.tallies.length) b.tallies (i + 1) = (addN (more a.know b.know) (addN (noMore a.know b.know) [] a.tallies a.tallies.length) b.tallies i) := by simp [addN, more, g]
        simp -dsimp [h1, ne_of_lt h1, q1, q2, g, ne_of_lt q1, ne_of_lt q2]
        repeat (first | refine ⟨by omega, ?_⟩ | refine ⟨by simp [capMax]; omega, ?_⟩ | refine ⟨⟨by omega, by omega⟩, ?_⟩)
        exact Back_of (i + 1) [2, 3, 5, 8] [(321, 321), (128, 128), (192, 192), (320, 320)] rfl rfl (by simp [hs]; rw [wrap64 (by omega) (by omega)]) (by omega) (by omega)
    · obtain rfl : i = b.tallies.length := by omega
      simp -dsimp
      exact ⟨rfl, rfl⟩
end Am
