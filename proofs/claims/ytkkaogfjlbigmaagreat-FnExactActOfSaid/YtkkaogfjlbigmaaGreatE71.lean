/- Rows: of both. No condition. -/
import Derived.Test.YtkkaogfjlbigmaaGreatT
import Derived.Test.YtkkaogfjlbigmaaGreatD
import Derived.Test.YtkkaogfjlbigmaaGreatE70
import Derived.Test.YtkkaogfjlbigmaaGreatE56
import Derived.Test.YtkkaogfjlbigmaaGreatAm31
namespace Am
open Go Go.Proofs Go.Sort
open Cel (cells)
set_option maxRecDepth 100000
set_option linter.unusedSimpArgs false
set_option linter.unusedVariables false

@[simp] def h118 : Hts := { merge := fun _ => false }
set_option maxHeartbeats 1000000 in
theorem f118_ok (x y : GCell) : FnR Tryz.prog 118 [.agg [.str x.obj, .int .i64 x.dot.rep, .int .i64 x.dot.seq, .int .i64 x.time, .int .i64 x.ref.rep, .int .i64 x.ref.seq, .int .i64 x.val, .bool x.gone], .agg [.str y.obj, .int .i64 y.dot.rep, .int .i64 y.dot.seq, .int .i64 y.time, .int .i64 y.ref.rep, .int .i64 y.ref.seq, .int .i64 y.val, .bool y.gone]] (.v (.bool (later x y))) := by
  refine FnW.of_AW TryzT_ok 0 (fn := Tryz.f118) (by kernel_rfl) rfl (by kernel_rfl) rfl rfl rfl ?_; refine AW_of h118 TryzT_ok (by kernel_rfl) ?_
  by_cases e1 : x.time = y.time
  case neg =>
    have b1 : (x.time != y.time) = true := by simp [e1]
    simp -dsimp [b1]
    simp [later, e1]
  have b1 : (x.time != y.time) = false := by simp [e1]
  by_cases e2 : x.dot.rep = y.dot.rep
  case neg =>
    have b2 : (x.dot.rep != y.dot.rep) = true := by simp [e2]
    have e2' : ¬ y.dot.rep = x.dot.rep := fun h => e2 h.symm
    simp -dsimp [b1, b2]
    simp [later, e1, before, e2']
  have b2 : (x.dot.rep != y.dot.rep) = false := by simp [e2]
  simp -dsimp [b1, b2]
  simp [later, e1, before, e2]

def emit (cs : List GCell) (o : ByteArray) (n : Nat) (ks : List GCell) (j : Nat) : List GCell := (ks.take j).flatMap fun k => k :: pre cs o n k.dot
theorem emit_succ {cs : List GCell} {o : ByteArray} {n : Nat} {ks : List GCell} {j : Nat} (h : j < ks.length) : emit cs o n ks (j + 1) = emit cs o n ks j ++ nth ks j :: pre cs o n (nth ks j).dot := by
  unfold emit
  rw [take_snoc h, List.flatMap_append]
  simp [List.flatMap_cons]
theorem emit_all (cs : List GCell) (o : ByteArray) (n : Nat) (r : GDot) : emit cs o n (kids cs o r) (kids cs o r).length = pre cs o (n + 1) r := by
  unfold emit
  rw [List.take_length]
  rfl
theorem emit_len (cs : List GCell) (o : ByteArray) (n : Nat) (r : GDot) (j : Nat) : (emit cs o n (kids cs o r) j).length ≤ (pre cs o (n + 1) r).length := by
  have h : pre cs o (n + 1) r = emit cs o n (kids cs o r) j ++ ((kids cs o r).drop j).flatMap fun k => k :: pre cs o n k.dot := by
    unfold emit
    rw [← List.flatMap_append, List.take_append_drop]
    rfl
  rw [h, List.length_append]
  omega
def outJ (cs : List GCell) (o : ByteArray) (n : Nat) (ks out : List GCell) (j : Nat) : List GCell := out ++ emit cs o n ks j
def kidsK (cs : List GCell) (o : ByteArray) (r : GDot) (i : Nat) : List GCell := insN later (kidP o r) [] cs i
theorem kidsK_len (cs : List GCell) (o : ByteArray) (r : GDot) (i : Nat) : (kidsK cs o r i).length ≤ i := by
  have := insN_len later (kidP o r) [] cs i
  simpa [kidsK] using this

@[simp] def h105 : Hts := { merge := fun _ => false, mergeF := fun _ => false, lend := fun f => if f = 105 then [.view, .view, .view, .lend] else [], dr := fun id => if id = 12 then [{}, {}, {}, {}, {}, {}, {}, {}, { cr := true }, {}] else if id = 23 then [{}, {}, {}, {}, {}, {}, {}, {}, { wr := [5504], cr := true }, {}] else [] }
set_option maxHeartbeats 8000000 in
theorem f105_ok (s : GState) (o : ByteArray) (hR : RowF s.cs) : ∀ (n : Nat) (r : GDot) (out : List GCell), fuelOk s.cs n r → out.length + (pre s.cs o n r).length ≤ 1000000 →
    FnW Tryz.prog 105 [.agg [.im s.know.length (flat s.know), .im s.tallies.length (flat s.tallies), .im s.lives.length (flat s.lives), .im s.cs.length (flat s.cs)], .v (.str o), .agg [.int .i64 r.rep, .int .i64 r.seq], .v (.ow 116 8 out.length (flat out))] (.v (.ow 116 8 (out ++ pre s.cs o n r).length (flat (out ++ pre s.cs o n r)))) [.any, .any, .any, .any]
  | 0, r, out, hf, _ => absurd hf (fuel0 hR)
  | n + 1, r, out, hf, hlen => by
    have few := hR.few
    refine FnW.of_AW TryzT_ok 0 (fn := Tryz.f105) (by kernel_rfl) rfl (by kernel_rfl) rfl rfl rfl ?_; refine AW_of h105 TryzT_ok (by kernel_rfl) ?_
    simp -dsimp
    refine AWh_loop (fun i : Nat => i ≤ s.cs.length) (fun i => mkE [(1, .c (.str o)), (3, .arr 640192), (4, .box 256 0), (6, .box 384 0), (9, .arr 900002), (10, .c (.int .i64 i))] [(640192, .arr 0 116 8 out.length (flat out)), (256, .box [.c (.im s.know.length (flat s.know)), .c (.im s.tallies.length (flat s.tallies)), .c (.im s.lives.length (flat s.lives)), .c (.im s.cs.length (flat s.cs))]), (384, .box [.c (.int .i64 r.rep), .c (.int .i64 r.seq)]), (900002, .arr 0 116 8 (kidsK s.cs o r i).length (flat (kidsK s.cs o r i)))]) (fun i => s.cs.length - i) 0 (Wk_to [1, 3, 4, 6, 9, 10] [(640192, 640192), (256, 256), (384, 384), (900002, 1024)] rfl rfl (by simp [kidsK, insN])) (by simp) ?_
    rintro i hi
    have hkl := kidsK_len s.cs o r i
    refine AW_of h105 TryzT_ok (by kernel_rfl) ?_
    rcases Nat.lt_or_ge i s.cs.length with h1 | h1
    · by_cases e1 : (nth s.cs i).obj = o
      case neg =>
        have hn : kidsK s.cs o r (i + 1) = kidsK s.cs o r i := by simp [kidsK, insN, kidP, e1]
        simp -dsimp [h1, ne_of_lt h1, e1]
        repeat (first | refine ⟨by omega, ?_⟩ | refine ⟨by simp [capMax]; omega, ?_⟩ | refine ⟨⟨by omega, by omega⟩, ?_⟩)
        exact Back_of (i + 1) [1, 3, 4, 6, 9, 10] [(640192, 640192), (256, 256), (384, 384), (900002, 900002)] rfl rfl (by simp [hn]; rw [wrap64 (by omega) (by omega)]) (by omega) (by omega)
      by_cases e2 : (nth s.cs i).ref = r
      case neg =>
        have hn : kidsK s.cs o r (i + 1) = kidsK s.cs o r i := by simp [kidsK, insN, kidP, e2]
        have b2 : ((nth s.cs i).ref.rep == r.rep && (nth s.cs i).ref.seq == r.seq) = false := by
          rw [Bool.eq_false_iff]; intro h; exact e2 (by simpa [GDot.ext_iff] using h)
        simp -dsimp [h1, ne_of_lt h1, e1, b2]
        repeat (first | refine ⟨by omega, ?_⟩ | refine ⟨by simp [capMax]; omega, ?_⟩ | refine ⟨⟨by omega, by omega⟩, ?_⟩)
        exact Back_of (i + 1) [1, 3, 4, 6, 9, 10] [(640192, 640192), (256, 256), (384, 384), (900002, 900002)] rfl rfl (by simp [hn]; rw [wrap64 (by omega) (by omega)]) (by omega) (by omega)
      have e3 : (nth s.cs i).ref.rep = r.rep := by rw [e2]
      have e4 : (nth s.cs i).ref.seq = r.seq := by rw [e2]
      have hn : kidsK s.cs o r (i + 1) = insF later (nth s.cs i) (kidsK s.cs o r i) := by simp [kidsK, insN, kidP, e1, e2]
      simp -dsimp [h1, ne_of_lt h1, e1, e3, e4]
      repeat (first | refine ⟨by omega, ?_⟩ | refine ⟨by simp [capMax]; omega, ?_⟩ | refine ⟨⟨by omega, by omega⟩, ?_⟩)
      refine AWh_loop (fun j : Nat => j ≤ (kidsK s.cs o r i).length) (fun j => mkE [(1, .c (.str o)), (3, .arr 640192), (4, .box 256 0), (6, .box 384 0), (9, .arr 900002), (10, .c (.int .i64 i)), (11, .box 704 0), (12, .arr 900003), (13, .c (.bool (insK later (nth s.cs i) (kidsK s.cs o r i) j).2)), (14, .c (.int .i64 j))] [(640192, .arr 0 116 8 out.length (flat out)), (256, .box [.c (.im s.know.length (flat s.know)), .c (.im s.tallies.length (flat s.tallies)), .c (.im s.lives.length (flat s.lives)), .c (.im s.cs.length (flat s.cs))]), (384, .box [.c (.int .i64 r.rep), .c (.int .i64 r.seq)]), (900002, .arr 0 116 8 (kidsK s.cs o r i).length (flat (kidsK s.cs o r i))), (704, .box [.c (.str ((nth s.cs i)).obj), .c (.int .i64 ((nth s.cs i)).dot.rep), .c (.int .i64 ((nth s.cs i)).dot.seq), .c (.int .i64 ((nth s.cs i)).time), .c (.int .i64 ((nth s.cs i)).ref.rep), .c (.int .i64 ((nth s.cs i)).ref.seq), .c (.int .i64 ((nth s.cs i)).val), .c (.bool ((nth s.cs i)).gone)]), (900003, .arr 0 116 8 (insK later (nth s.cs i) (kidsK s.cs o r i) j).1.length (flat (insK later (nth s.cs i) (kidsK s.cs o r i) j).1))]) (fun j => (kidsK s.cs o r i).length - j) 0 (Wk_to [1, 3, 4, 6, 9, 10, 11, 12, 13, 14] [(640192, 640192), (256, 256), (384, 384), (900002, 900002), (704, 704), (900003, 2496)] rfl rfl (by simp [insK, e1, e2, e3, e4])) (by simp) ?_
      rintro j hj
      have hil := insK_len (lt := later) (nth s.cs i) (kidsK s.cs o r i) j
      have hil' : (insK later (nth s.cs i) (kidsK s.cs o r i) j).1.length ≤ j + 1 := by split at hil <;> omega
      refine AW_of h105 TryzT_ok (by kernel_rfl) ?_
      rcases Nat.lt_or_ge j (kidsK s.cs o r i).length with p1 | p1
      · cases g : (insK later (nth s.cs i) (kidsK s.cs o r i) j).2
        · simp -dsimp [p1, ne_of_lt p1]
          repeat (first | refine ⟨by omega, ?_⟩ | refine ⟨by simp [capMax]; omega, ?_⟩ | refine ⟨⟨by omega, by omega⟩, ?_⟩)
          refine ACallK_of (f118_ok _ _) ?_
          cases g2 : later (nth s.cs i) (nth (kidsK s.cs o r i) j)
          · simp -dsimp [p1, ne_of_lt p1]
            repeat (first | refine ⟨by omega, ?_⟩ | refine ⟨by simp [capMax]; omega, ?_⟩ | refine ⟨⟨by omega, by omega⟩, ?_⟩)
            exact Back_of (j + 1) [1, 3, 4, 6, 9, 10, 11, 12, 13, 14] [(640192, 640192), (256, 256), (384, 384), (900002, 900002), (704, 704), (900003, 4224)] rfl rfl (by simp [insK, g, g2]; rw [wrap64 (by omega) (by omega)]) (by omega) (by omega)
          · simp -dsimp [p1, ne_of_lt p1]
            repeat (first | refine ⟨by omega, ?_⟩ | refine ⟨by simp [capMax]; omega, ?_⟩ | refine ⟨⟨by omega, by omega⟩, ?_⟩)
            exact Back_of (j + 1) [1, 3, 4, 6, 9, 10, 11, 12, 13, 14] [(640192, 640192), (256, 256), (384, 384), (900002, 900002), (704, 704), (900003, 4224)] rfl rfl (by simp [insK, g, g2]; rw [wrap64 (by omega) (by omega)]) (by omega) (by omega)
        · simp -dsimp [p1, ne_of_lt p1]
          repeat (first | refine ⟨by omega, ?_⟩ | refine ⟨by simp [capMax]; omega, ?_⟩ | refine ⟨⟨by omega, by omega⟩, ?_⟩)
          exact Back_of (j + 1) [1, 3, 4, 6, 9, 10, 11, 12, 13, 14] [(640192, 640192), (256, 256), (384, 384), (900002, 900002), (704, 704), (900003, 4224)] rfl rfl (by simp [insK, g]; rw [wrap64 (by omega) (by omega)]) (by omega) (by omega)
      · obtain rfl : j = (kidsK s.cs o r i).length := by omega
        cases g : (insK later (nth s.cs i) (kidsK s.cs o r i) (kidsK s.cs o r i).length).2
        · have hn2 : kidsK s.cs o r (i + 1) = (insK later (nth s.cs i) (kidsK s.cs o r i) (kidsK s.cs o r i).length).1 ++ [nth s.cs i] := by rw [hn]; simp [insF, g]
          simp -dsimp [g]
          repeat (first | refine ⟨by omega, ?_⟩ | refine ⟨by simp [capMax]; omega, ?_⟩ | refine ⟨⟨by omega, by omega⟩, ?_⟩)
          exact Back_of (i + 1) [1, 3, 4, 6, 9, 10] [(640192, 640192), (256, 256), (384, 384), (900002, 4608)] rfl rfl (by simp [hn2]; rw [wrap64 (by omega) (by omega)]) (by omega) (by omega)
        · have hn2 : kidsK s.cs o r (i + 1) = (insK later (nth s.cs i) (kidsK s.cs o r i) (kidsK s.cs o r i).length).1 := by rw [hn]; simp [insF, g]
          simp -dsimp [g]
          repeat (first | refine ⟨by omega, ?_⟩ | refine ⟨by simp [capMax]; omega, ?_⟩ | refine ⟨⟨by omega, by omega⟩, ?_⟩)
          exact Back_of (i + 1) [1, 3, 4, 6, 9, 10] [(640192, 640192), (256, 256), (384, 384), (900002, 900003)] rfl rfl (by simp [hn2]; rw [wrap64 (by omega) (by omega)]) (by omega) (by omega)
    obtain rfl : i = s.cs.length := by omega
    clear hi h1
    simp -dsimp
    refine AWh_loop (fun j : Nat => j ≤ (kids s.cs o r).length) (fun j => mkE [(1, .c (.str o)), (3, .arr 900001), (4, .box 256 0), (9, .arr 900002), (15, .c (.int .i64 j))] [(900001, .arr 0 116 8 (outJ s.cs o n (kids s.cs o r) out j).length (flat (outJ s.cs o n (kids s.cs o r) out j))), (256, .box [.c (.im s.know.length (flat s.know)), .c (.im s.tallies.length (flat s.tallies)), .c (.im s.lives.length (flat s.lives)), .c (.im s.cs.length (flat s.cs))]), (900002, .arr 0 116 8 (kids s.cs o r).length (flat (kids s.cs o r)))]) (fun j => (kids s.cs o r).length - j) 0 (Wk_to [1, 3, 4, 9, 15] [(900001, 640192), (256, 256), (900002, 900002)] rfl rfl (by simp [outJ, emit, kidsK, kids])) (by simp) ?_
    rintro j hj
    have hel := emit_len s.cs o n r j
    refine AW_of h105 TryzT_ok (by kernel_rfl) ?_
    rcases Nat.lt_or_ge j (kids s.cs o r).length with h1 | h1
    · have hs : outJ s.cs o n (kids s.cs o r) out (j + 1) = outJ s.cs o n (kids s.cs o r) out j ++ [nth (kids s.cs o r) j] ++ pre s.cs o n (nth (kids s.cs o r) j).dot := by
        unfold outJ
        rw [emit_succ h1]; simp
      have hel2 := emit_len s.cs o n r (j + 1)
      have hkn := kids_len s.cs o r
      have hel3 : (outJ s.cs o n (kids s.cs o r) out (j + 1)).length = out.length + (emit s.cs o n (kids s.cs o r) (j + 1)).length := by simp [outJ]
      have hel4 := congrArg List.length hs
      simp only [List.length_append, List.length_singleton] at hel4
      simp -dsimp [h1, ne_of_lt h1]
      repeat (first | refine ⟨by omega, ?_⟩ | refine ⟨by simp [capMax]; omega, ?_⟩ | refine ⟨⟨by omega, by omega⟩, ?_⟩)
      have hcall := f105_ok s o hR n (nth (kids s.cs o r) j).dot (outJ s.cs o n (kids s.cs o r) out j ++ [nth (kids s.cs o r) j]) (fuel_kid hR hf (nth_mem h1)) (by simp; omega)
      rw [← hs] at hcall
      simp only [List.length_append, List.length_singleton] at hcall
      refine ACallW_args (by intro us; simp -dsimp; exact ⟨rfl, rfl, rfl⟩) ?_
      refine ACallC_of (fun us => hcall) (by intro us; simp -dsimp; exact ⟨rfl, rfl⟩) ?_
      simp -dsimp
      exact Back_of (j + 1) [1, 3, 4, 9, 15] [(900001, 6080), (256, 256), (900002, 900002)] rfl rfl (by simp; rw [wrap64 (by omega) (by omega)]) (by omega) (by omega)
    · obtain rfl : j = (kids s.cs o r).length := by omega
      have hfin : outJ s.cs o n (kids s.cs o r) out (kids s.cs o r).length = out ++ pre s.cs o (n + 1) r := by unfold outJ; rw [emit_all]
      simp -dsimp
      rw [hfin]
      exact ⟨by simp, rfl⟩
end Am
