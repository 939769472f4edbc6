/- Rows told: of both. No condition. -/
import Derived.Test.YtkkaogfjlbigmaaGreatT
import Derived.Test.YtkkaogfjlbigmaaGreatD
import Derived.Test.YtkkaogfjlbigmaaGreatE71
import Derived.Test.YtkkaogfjlbigmaaGreatAm31
namespace Am
open Go Go.Proofs Go.Sort
open Cel (cells)
set_option maxRecDepth 100000
set_option linter.unusedSimpArgs false
set_option linter.unusedVariables false

theorem zero_fuel (cs : List GCell) : fuelOk cs 10001 zeroDot := .inl ⟨rfl, by omega⟩
@[simp] def h76 : Hts := { lend := fun f => if f = 105 then [.view, .view, .view, .lend] else [] }
theorem f76_ok (s : GState) (o : ByteArray) (hR : RowF s.cs) : FnR Tryz.prog 76 [.agg [.im s.know.length (flat s.know), .im s.tallies.length (flat s.tallies), .im s.lives.length (flat s.lives), .im s.cs.length (flat s.cs)], .v (.str o)] (.v (.ow 116 8 (preO s.cs o zeroDot).length (flat (preO s.cs o zeroDot)))) := by
  have few := hR.few
  have hl := preO_len hR o
  have hcall := f105_ok s o hR 10001 zeroDot [] (zero_fuel _) (by simp only [List.length_nil]; unfold preO at hl; omega)
  simp only [List.length_nil, List.nil_append, zeroDot, flat_nil] at hcall
  refine FnW.of_AW TryzT_ok 0 (fn := Tryz.f76) (by kernel_rfl) rfl (by kernel_rfl) rfl rfl rfl ?_; refine AW_of h76 TryzT_ok (by kernel_rfl) ?_
  simp -dsimp
  refine ACallW_args (by intro us; simp -dsimp; exact ⟨rfl, rfl, rfl⟩) ?_
  refine ACallC_of (fun us => hcall) (by intro us; simp -dsimp; exact ⟨rfl, rfl⟩) ?_
  simp -dsimp
  exact ⟨rfl, rfl⟩

def cmpCell (a b : GCell) : Int := orInt [cmpInt b.time a.time, cmpDot b.dot a.dot]
theorem later_cmp (a b : GCell) : later a b = decide (cmpCell a b < 0) := by
  have h := before_cmp b.dot a.dot
  simp only [later, cmpCell, orInt, cmpInt]
  rw [h]
  rw [Bool.eq_iff_iff]
  simp only [Bool.or_eq_true, Bool.and_eq_true, decide_eq_true_eq]
  split <;> rename_i h1
  · simp; omega
  · split <;> rename_i h2
    · simp; omega
    · have h3 : a.time = b.time := by omega
      simp [h3]
      split <;> rename_i h4
      · rw [h4]
      · rfl
theorem ltOf_cmpCell : Go.Proofs.ltOf cmpCell = later := by
  funext x y; simp only [ltOf, later_cmp]
theorem swo_cmpCell : SWO (Go.Proofs.ltOf cmpCell) := by
  rw [ltOf_cmpCell]; exact swo_of later_Lt later_ntrans
@[simp] def h123 : Hts := { dr := fun id => if id = 1 then [{}, {}, {}, {}, { cr := true }, { mb := [9] }, { mb := [9] }, { mb := [9] }, { mb := [9] }, { cr := true }, { cr := true }, { cr := true }, {}] else [] }
theorem f123_ok (a b : GCell) : FnR Tryz.prog 123 [.agg [.str a.obj, .int .i64 a.dot.rep, .int .i64 a.dot.seq, .int .i64 a.time, .int .i64 a.ref.rep, .int .i64 a.ref.seq, .int .i64 a.val, .bool a.gone], .agg [.str b.obj, .int .i64 b.dot.rep, .int .i64 b.dot.seq, .int .i64 b.time, .int .i64 b.ref.rep, .int .i64 b.ref.seq, .int .i64 b.val, .bool b.gone]] (.v (.int .i64 (cmpCell a b))) := by
  refine FnW.of_AW TryzT_ok 0 (fn := Tryz.f123) (by kernel_rfl) rfl (by kernel_rfl) rfl rfl rfl ?_; refine AW_of h123 TryzT_ok (by kernel_rfl) ?_
  simp -dsimp
  refine ACallK_of (f121_ok _ _) ?_
  simp -dsimp
  refine ACallK_of (f109_ok _ _) ?_
  simp -dsimp
  refine ACallK_of (f119_ok [cmpInt b.time a.time, cmpDot b.dot a.dot] (by simp)) ?_
  simp -dsimp
  rfl

theorem objS_len (cs : List GCell) (o : ByteArray) : (objS cs o).length ≤ cs.length := by
  have := insN_len later (fun x : GCell => decide (x.obj = o)) [] cs cs.length
  simpa [objS] using this
/-- the kids that are still to be laid -/
def kidD (cs : List GCell) (o : ByteArray) (t : GDot) (i : Nat) : List GDot := (((objS cs o).drop i).filter fun x => decide (x.ref = t)).map (·.dot)
theorem kidD_end (cs : List GCell) (o : ByteArray) (t : GDot) : kidD cs o t (objS cs o).length = [] := by simp [kidD]
theorem kidD_all {cs : List GCell} (h : RowF cs) (o : ByteArray) (t : GDot) : kidD cs o t 0 = (kids cs o t).map (·.dot) := by
  unfold kidD; rw [List.drop_zero, objS_kids h]
theorem kidD_step (cs : List GCell) (o : ByteArray) (t : GDot) {i : Nat} (h : i < (objS cs o).length) : kidD cs o t i = if (nth (objS cs o) i).ref = t then (nth (objS cs o) i).dot :: kidD cs o t (i + 1) else kidD cs o t (i + 1) := by
  unfold kidD
  rw [List.drop_eq_getElem_cons h, ← nth_eq h, List.filter_cons]
  split <;> rename_i h1
  · simp at h1; simp [h1]
  · simp at h1; simp [h1]
theorem kidD_len (cs : List GCell) (o : ByteArray) (t : GDot) (i : Nat) : (kidD cs o t i).length ≤ (objS cs o).length := by
  unfold kidD
  rw [List.length_map]
  exact Nat.le_trans (List.length_filter_le _ _) (by simp)

@[simp] def h112 : Hts := { merge := fun _ => false, mergeF := fun _ => false, lend := fun f => if f = 122 then [.lend] else [], dr := fun id => if id = 21 then [{}, {}, {}, {}, {}, {}, {}] else [] }
set_option maxHeartbeats 8000000 in
theorem f112_ok (s : GState) (o : ByteArray) (hs : s.Ok) : FnR Tryz.prog 112 [.agg [.im s.know.length (flat s.know), .im s.tallies.length (flat s.tallies), .im s.lives.length (flat s.lives), .im s.cs.length (flat s.cs)], .v (.str o)] (.v (.ow 33 2 (rowDots s o).length (flat (rowDots s o)))) := by
  refine FnW.of_AW TryzT_ok 0 (fn := Tryz.f112) (by kernel_rfl) rfl (by kernel_rfl) rfl rfl rfl ?_; refine AW_of h112 TryzT_ok (by kernel_rfl) ?_
  simp -dsimp
  refine ACallK_of (f42_ok _ hs) ?_
  rw [stateOkM_eq]
  cases ks : stateOk s
  · simp -dsimp
    simp [rowDots, row, ks]
  have hR := rowF_of ks
  have few := hR.few
  simp -dsimp
  refine AWh_loop (fun i : Nat => i ≤ s.cs.length) (fun i => mkE [(1, .c (.str o)), (5, .arr 900001), (6, .arr 900002), (19, .c (.im s.cs.length (flat s.cs))), (20, .c (.int .i64 s.cs.length)), (21, .c (.int .i64 i))] [(900001, .arr 0 33 2 0 []), (900002, .arr 0 116 8 (filK (fun x => decide (x.obj = o)) [] s.cs i).length (flat (filK (fun x => decide (x.obj = o)) [] s.cs i)))]) (fun i => s.cs.length - i) 0 (Wk_to [1, 5, 6, 19, 20, 21] [(900001, 768), (900002, 1088)] rfl rfl (by simp [filK])) (by simp) ?_
  rintro i hi
  have hfl := filK_len (fun x : GCell => decide (x.obj = o)) [] s.cs i
  simp only [List.length_nil] at hfl
  refine AW_of h112 TryzT_ok (by kernel_rfl) ?_
  rcases Nat.lt_or_ge i s.cs.length with h1 | h1
  · by_cases e1 : (nth s.cs i).obj = o
    · have hn : filK (fun x => decide (x.obj = o)) [] s.cs (i + 1) = filK (fun x => decide (x.obj = o)) [] s.cs i ++ [nth s.cs i] := by simp [filK, e1]
      subst e1
      simp -dsimp [h1, ne_of_lt h1]
      repeat (first | refine ⟨by omega, ?_⟩ | refine ⟨by simp [capMax]; omega, ?_⟩ | refine ⟨⟨by omega, by omega⟩, ?_⟩)
      exact Back_of (i + 1) [1, 5, 6, 19, 20, 21] [(900001, 900001), (900002, 2048)] rfl rfl (by simp [hn]; rw [wrap64 (by omega) (by omega)]) (by omega) (by omega)
    · have hn : filK (fun x => decide (x.obj = o)) [] s.cs (i + 1) = filK (fun x => decide (x.obj = o)) [] s.cs i := by simp [filK, e1]
      simp -dsimp [h1, ne_of_lt h1, e1]
      repeat (first | refine ⟨by omega, ?_⟩ | refine ⟨by simp [capMax]; omega, ?_⟩ | refine ⟨⟨by omega, by omega⟩, ?_⟩)
      exact Back_of (i + 1) [1, 5, 6, 19, 20, 21] [(900001, 900001), (900002, 900002)] rfl rfl (by simp [hn]; rw [wrap64 (by omega) (by omega)]) (by omega) (by omega)
  obtain rfl : i = s.cs.length := by omega
  clear hi h1
  simp -dsimp
  have sS := insLater_sorted hR (fun x => decide (x.obj = o)) s.cs.length (Nat.le_refl _)
  have hol := objS_len s.cs o
  refine ACallW_args (by intro us; simp -dsimp; exact ⟨rfl, rfl, rfl⟩) ?_
  refine ACallC_of (fun us => f122_ok cmpCell swo_cmpCell (enters_of Tryz.func123 (by kernel_rfl) rfl) f123_ok (filK (fun x => decide (x.obj = o)) [] s.cs s.cs.length) (objS s.cs o) (by omega) (fun zs h1 h2 => sorted_uniq later_Lt sS (h1.trans (insN_perm later _ [] s.cs _).symm) (by rw [← ltOf_cmpCell]; exact h2))) (by intro us; simp -dsimp; exact ⟨rfl, rfl⟩) ?_
  simp -dsimp
  refine AWh_loop (fun q : List GDot × List GDot => Dfs s.cs o (q.1, q.2.reverse)) (fun q => mkE [(5, .arr 900001), (6, .arr 900002), (9, .arr 900003)] [(900001, .arr 0 33 2 q.1.length (flat q.1)), (900002, .arr 0 116 8 (objS s.cs o).length (flat (objS s.cs o))), (900003, .arr 0 33 2 q.2.length (flat q.2))]) (fun q => dfsMu s.cs (q.1, q.2.reverse)) ([], [zeroDot]) (Wk_to [5, 6, 9] [(900001, 900001), (900002, 900002), (900003, 2368)] rfl rfl (by simp [zeroDot]; rfl)) (by simpa using Dfs.start s.cs o) ?_
  rintro ⟨dots, gs⟩ hq
  simp only at hq
  have hl1 := hq.len
  have hl2 := hq.len1
  simp only [List.length_reverse] at hl1 hl2
  refine AW_of h112 TryzT_ok (by kernel_rfl) ?_
  rcases List.eq_nil_or_concat gs with rfl | ⟨rest, t, rfl⟩
  · simp -dsimp
    have hall := hq.all
    simp only [List.reverse_nil, List.flatMap_nil, List.append_nil] at hall
    have hfin : dots = rowDots s o := by rw [hall]; simp [rowDots, row, ks, preD]
    rw [hfin]
    exact ⟨rfl, rfl⟩
  · simp only [List.concat_eq_append, List.reverse_append, List.reverse_cons, List.reverse_nil, List.nil_append, List.cons_append] at hq
    simp only [List.concat_eq_append, List.length_append, List.length_singleton] at hl1
    have w1 : IntKind.i64.wrap (rest.length : Int) = rest.length := wrap64 (by omega) (by omega)
    have w2 : IntKind.i64.wrap (((objS s.cs o).length : Int) - 1) = ((objS s.cs o).length : Int) - 1 := wrap64 (by omega) (by omega)
    have hnt : nth (rest ++ [t]) rest.length = t := by rw [nth_eq (by simp)]; simp
    have hlt : rest.length < (rest ++ [t]).length := by simp
    have hft : List.take (rest.length * 2) (flat (rest ++ [t])) = flat rest := by have h := flat_take (rest ++ [t]) rest.length; rw [List.take_left' rfl] at h; exact h
    by_cases hz : t = zeroDot
    · have z1 : t.rep = 0 := by rw [hz]; rfl
      have z2 : t.seq = 0 := by rw [hz]; rfl
      simp -dsimp [w1, w2, hnt, hlt, ne_of_lt hlt, z1, z2]
      repeat (first | refine ⟨by omega, ?_⟩ | refine ⟨by simp [capMax]; omega, ?_⟩ | refine ⟨⟨by omega, by omega⟩, ?_⟩)
      refine AWh_loop (fun k : Nat => k ≤ (objS s.cs o).length) (fun k => mkE [(5, .arr 900001), (6, .arr 900002), (9, .arr 900003), (10, .box 640 0), (11, .c (.int .i64 ((k : Int) - 1)))] [(900001, .arr 0 33 2 dots.length (flat dots)), (900002, .arr 0 116 8 (objS s.cs o).length (flat (objS s.cs o))), (900003, .arr 0 33 2 (rest ++ (kidD s.cs o t k).reverse).length (flat (rest ++ (kidD s.cs o t k).reverse))), (640, .box [.c (.int .i64 t.rep), .c (.int .i64 t.seq)])]) (fun k => k) (objS s.cs o).length (Wk_to [5, 6, 9, 10, 11] [(900001, 900001), (900002, 900002), (900003, 3264), (640, 640)] rfl rfl (by simp [kidD_end, z1, z2, hft])) (by simp) ?_
      rintro k hk
      refine AW_of h112 TryzT_ok (by kernel_rfl) ?_
      rcases k with _ | m
      · simp -dsimp
        have hst := hq.step hR
        have hls := hq.less hR
        have hfin : (rest ++ (kidD s.cs o t 0).reverse).reverse = (kids s.cs o t).map (·.dot) ++ rest.reverse := by rw [List.reverse_append, List.reverse_reverse, kidD_all hR]
        exact Back_of (dots, rest ++ (kidD s.cs o t 0).reverse) [5, 6, 9] [(900001, 900001), (900002, 900002), (900003, 900003)] rfl rfl (by simp) (by simp only; rw [hfin]; simpa [dfsStep, hz] using hst) (by simp only; rw [hfin]; simpa [dfsStep, hz] using hls)
      · have hm : m < (objS s.cs o).length := by omega
        have hks := kidD_step s.cs o t hm
        have hkl := kidD_len s.cs o t (m + 1)
        by_cases e : (nth (objS s.cs o) m).ref = t
        · rw [if_pos e] at hks
          have e1 : (nth (objS s.cs o) m).ref.rep = t.rep := by rw [e]
          have e2 : (nth (objS s.cs o) m).ref.seq = t.seq := by rw [e]
          simp -dsimp [hm, ne_of_lt hm, e1, e2]
          repeat (first | refine ⟨by omega, ?_⟩ | refine ⟨by simp [capMax]; omega, ?_⟩ | refine ⟨⟨by omega, by omega⟩, ?_⟩)
          exact Back_of m [5, 6, 9, 10, 11] [(900001, 900001), (900002, 900002), (900003, 5120), (640, 640)] rfl rfl (by simp [hks]; rw [wrap64 (by omega) (by omega)]; simp [Nat.add_assoc]) (by omega) (by omega)
        · rw [if_neg e] at hks
          have b2 : ((nth (objS s.cs o) m).ref.rep == t.rep && (nth (objS s.cs o) m).ref.seq == t.seq) = false := by
            rw [Bool.eq_false_iff]; intro h; exact e (by simpa [GDot.ext_iff] using h)
          simp -dsimp [hm, ne_of_lt hm, b2]
          repeat (first | refine ⟨by omega, ?_⟩ | refine ⟨by simp [capMax]; omega, ?_⟩ | refine ⟨⟨by omega, by omega⟩, ?_⟩)
          exact Back_of m [5, 6, 9, 10, 11] [(900001, 900001), (900002, 900002), (900003, 900003), (640, 640)] rfl rfl (by simp [hks]; rw [wrap64 (by omega) (by omega)]) (by omega) (by omega)
    · have b1 : (t.rep == 0 && t.seq == 0) = false := by
        rw [Bool.eq_false_iff]; intro h; exact hz (by simpa [GDot.ext_iff, zeroDot] using h)
      simp -dsimp [w1, w2, hnt, hlt, ne_of_lt hlt, b1]
      repeat (first | refine ⟨by omega, ?_⟩ | refine ⟨by simp [capMax]; omega, ?_⟩ | refine ⟨⟨by omega, by omega⟩, ?_⟩)
      refine AWh_loop (fun k : Nat => k ≤ (objS s.cs o).length) (fun k => mkE [(5, .arr 900001), (6, .arr 900002), (9, .arr 900003), (10, .box 640 0), (11, .c (.int .i64 ((k : Int) - 1)))] [(900001, .arr 0 33 2 (dots ++ [t]).length (flat (dots ++ [t]))), (900002, .arr 0 116 8 (objS s.cs o).length (flat (objS s.cs o))), (900003, .arr 0 33 2 (rest ++ (kidD s.cs o t k).reverse).length (flat (rest ++ (kidD s.cs o t k).reverse))), (640, .box [.c (.int .i64 t.rep), .c (.int .i64 t.seq)])]) (fun k => k) (objS s.cs o).length (Wk_to [5, 6, 9, 10, 11] [(900001, 3712), (900002, 900002), (900003, 3264), (640, 640)] rfl rfl (by simp [kidD_end, hft])) (by simp) ?_
      rintro k hk
      refine AW_of h112 TryzT_ok (by kernel_rfl) ?_
      rcases k with _ | m
      · simp -dsimp
        have hst := hq.step hR
        have hls := hq.less hR
        have hfin : (rest ++ (kidD s.cs o t 0).reverse).reverse = (kids s.cs o t).map (·.dot) ++ rest.reverse := by rw [List.reverse_append, List.reverse_reverse, kidD_all hR]
        exact Back_of ((dots ++ [t]), rest ++ (kidD s.cs o t 0).reverse) [5, 6, 9] [(900001, 900001), (900002, 900002), (900003, 900003)] rfl rfl (by simp) (by simp only; rw [hfin]; simpa [dfsStep, hz] using hst) (by simp only; rw [hfin]; simpa [dfsStep, hz] using hls)
      · have hm : m < (objS s.cs o).length := by omega
        have hks := kidD_step s.cs o t hm
        have hkl := kidD_len s.cs o t (m + 1)
        by_cases e : (nth (objS s.cs o) m).ref = t
        · rw [if_pos e] at hks
          have e1 : (nth (objS s.cs o) m).ref.rep = t.rep := by rw [e]
          have e2 : (nth (objS s.cs o) m).ref.seq = t.seq := by rw [e]
          simp -dsimp [hm, ne_of_lt hm, e1, e2]
          repeat (first | refine ⟨by omega, ?_⟩ | refine ⟨by simp [capMax]; omega, ?_⟩ | refine ⟨⟨by omega, by omega⟩, ?_⟩)
          exact Back_of m [5, 6, 9, 10, 11] [(900001, 900001), (900002, 900002), (900003, 5120), (640, 640)] rfl rfl (by simp [hks]; rw [wrap64 (by omega) (by omega)]; simp [Nat.add_assoc]) (by omega) (by omega)
        · rw [if_neg e] at hks
          have b2 : ((nth (objS s.cs o) m).ref.rep == t.rep && (nth (objS s.cs o) m).ref.seq == t.seq) = false := by
            rw [Bool.eq_false_iff]; intro h; exact e (by simpa [GDot.ext_iff] using h)
          simp -dsimp [hm, ne_of_lt hm, b2]
          repeat (first | refine ⟨by omega, ?_⟩ | refine ⟨by simp [capMax]; omega, ?_⟩ | refine ⟨⟨by omega, by omega⟩, ?_⟩)
          exact Back_of m [5, 6, 9, 10, 11] [(900001, 900001), (900002, 900002), (900003, 900003), (640, 640)] rfl rfl (by simp [hks]; rw [wrap64 (by omega) (by omega)]) (by omega) (by omega)
end Am
