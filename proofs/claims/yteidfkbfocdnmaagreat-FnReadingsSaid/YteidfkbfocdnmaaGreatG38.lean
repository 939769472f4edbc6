/- What is read is what is: the law. No condition. -/
import Derived.Test.YteidfkbfocdnmaaGreatT
import Derived.Test.YteidfkbfocdnmaaGreatD
import Derived.Test.YteidfkbfocdnmaaGreatV16
import Derived.Test.YteidfkbfocdnmaaGreatV7
import Derived.Test.YteidfkbfocdnmaaGreatU24
import Derived.Test.YteidfkbfocdnmaaGreatE18
import Derived.Test.YteidfkbfocdnmaaGreatE64
import Derived.Test.YteidfkbfocdnmaaGreatE75
namespace Am
open Go Go.Proofs
open Cel (cells)
set_option maxRecDepth 100000
set_option linter.unusedSimpArgs false
set_option linter.unusedVariables false

def atK (l : List GDot) (r : GDot) : Nat → Int
  | 0 => -1
  | j + 1 => if nth l j = r then j else atK l r j
theorem atK_none {l : List GDot} {r : GDot} : ∀ {n : Nat}, (∀ j : Nat, j < n → nth l j ≠ r) → atK l r n = -1
  | 0, _ => rfl
  | n + 1, h => by
    rw [atK, if_neg (h n (by omega)), atK_none fun j hj => h j (by omega)]
theorem atK_one {l : List GDot} {r : GDot} {j : Nat} (e : nth l j = r) : ∀ {n : Nat}, j < n → (∀ k : Nat, k < n → nth l k = r → k = j) → atK l r n = j
  | 0, h, _ => by omega
  | n + 1, h, hu => by
    rw [atK]
    split
    · rename_i q; have := hu n (by omega) q; omega
    · rename_i q
      have : j ≠ n := fun e2 => q (by rw [← e2]; exact e)
      exact atK_one e (by omega) fun k hk => hu k (by omega)
def cntO (cs : List GCell) (o : ByteArray) (i : Nat) : Nat := ((cs.take i).filter fun x => decide (x.obj = o)).length
theorem cntO_succ {cs : List GCell} {o : ByteArray} {i : Nat} (h : i < cs.length) : cntO cs o (i + 1) = if (nth cs i).obj = o then cntO cs o i + 1 else cntO cs o i := by
  unfold cntO
  rw [take_snoc h, List.filter_append, List.length_append]
  split
  · rename_i q; rw [List.filter_cons_of_pos (by simp [q])]; rfl
  · rename_i q; rw [List.filter_cons_of_neg (by simp [q])]; rfl
theorem cntO_le (cs : List GCell) (o : ByteArray) (i : Nat) : cntO cs o i ≤ i := by
  have h1 := List.length_filter_le (fun x : GCell => decide (x.obj = o)) (cs.take i)
  rw [List.length_take] at h1
  unfold cntO; omega
structure RowIs (s : GState) (o : ByteArray) (D : List GDot) (RV : List Int) (lv : Nat → Nat) : Prop where
  few : D.length ≤ 120
  few2 : RV.length ≤ 120
  at0 : ∀ i : Nat, i < D.length → ∃ j : Nat, j < s.cs.length ∧ cellAt s.cs (nth D i) = j ∧ (nth s.cs j).obj = o ∧ atK D (nth s.cs j).ref D.length < i ∧ (atK D (nth s.cs j).ref D.length < 0 → (nth s.cs j).ref.seq = 0) ∧ ((nth s.cs j).gone = false → lv i < RV.length ∧ placeIn s o (lv i) = (nth D i, true) ∧ nth RV (lv i) = (nth s.cs j).val ∧ lv (i + 1) = lv i + 1) ∧ ((nth s.cs j).gone = true → lv (i + 1) = lv i)
  nd : ∀ j i : Nat, j < i → i < D.length → nth D j ≠ nth D i
  lv0 : lv 0 = 0
  lve : lv D.length = RV.length
  lvb : ∀ i, lv i ≤ i
  cnt : D.length = cntO s.cs o s.cs.length
theorem rowIs {s : GState} (h : SOK s) (o : ByteArray) : RowIs s o (rowDots s o) (rowOf s o) (fun i => (liveK s o i).length) := by
  have hR := rowF_of (of_sok h)
  have hN := preD_nodup hR o
  have he := row_eq h o
  have hD : rowDots s o = preD s.cs o zeroDot := by unfold rowDots preD; rw [he]
  have hl : (rowOf s o).length = (rowLive s o).length := by simp [rowOf]
  rw [← hD] at hN
  have nd : ∀ j i : Nat, j < i → i < (rowDots s o).length → nth (rowDots s o) j ≠ nth (rowDots s o) i := fun j i hji hi => pw_nth hN.1 hji hi
  refine ⟨by rw [rowDots_len]; exact row_len s o, by rw [hl]; exact rowLive_len s o, fun i hi => ?_, nd, rfl, ?_, fun i => liveK_len s o i, ?_⟩
  · have hi2 : i < (row s o).length := by rwa [rowDots_len] at hi
    obtain ⟨j, hj, e1, e2⟩ := row_at hi2
    refine ⟨j, hj, by rw [rowDots_nth hi2]; exact e1, ?_, ?_⟩
    · rw [e2]
      have := nth_mem hi2
      rw [he] at this
      rw [he]
      exact ((preO_mem hR).1 this).2
    · rw [e2]
      have ho : (nth (row s o) i).ref ∈ [zeroDot] ∨ ∃ j : Nat, j < i ∧ (nth (row s o) j).dot = (nth (row s o) i).ref := by
        refine ordL_at ?_ hi2
        rw [he]
        exact pre_ord _ _ _ _ _ (by simp)
      have hat : (atK (rowDots s o) (nth (row s o) i).ref (rowDots s o).length < i) ∧ (atK (rowDots s o) (nth (row s o) i).ref (rowDots s o).length < 0 → (nth (row s o) i).ref.seq = 0) := by
        rcases ho with q | ⟨k, hk, ek⟩
        · have q : (nth (row s o) i).ref = zeroDot := by simpa using q
          rw [q, atK_none fun k hk e => hN.2 (by rw [← e]; exact nth_mem hk)]
          exact ⟨by omega, fun _ => rfl⟩
        · have hk2 : k < (row s o).length := by omega
          have ek2 : nth (rowDots s o) k = (nth (row s o) i).ref := by rw [rowDots_nth hk2, ek]
          rw [atK_one ek2 (by omega) fun m hm em => ?_]
          · exact ⟨by omega, by omega⟩
          · rcases Nat.lt_trichotomy m k with q | q | q
            · exact absurd (em.trans ek2.symm) (nd m k q (by omega))
            · exact q
            · exact absurd (ek2.trans em.symm) (nd k m q hm)
      refine ⟨hat.1, hat.2, fun g => ?_, fun g => ?_⟩
      · obtain ⟨p1, p2⟩ := liveK_nth hi2 g
        refine ⟨by rw [hl]; exact p1, ?_, ?_, ?_⟩
        · unfold placeIn
          rw [if_pos ⟨by omega, by omega⟩, Int.toNat_natCast, p2, rowDots_nth hi2]
        · have : nth (rowOf s o) (liveK s o i).length = (nth (rowLive s o) (liveK s o i).length).val := by
            rw [nth_eq (by rw [hl]; exact p1), nth_eq p1]; simp [rowOf]
          rw [this, p2]
        · show (liveK s o (i + 1)).length = _
          simp [liveK, filK, g]
      · show (liveK s o (i + 1)).length = _
        simp [liveK, filK, g]
  · show (liveK s o (rowDots s o).length).length = _
    rw [rowDots_len, liveK_all, hl]
  · rw [rowDots_len, row_count h, cntO, List.take_length]

@[simp] def h5 : Hts := { merge := fun _ => false, mergeF := fun _ => false, dr := fun id => if id = 12 then [{}, {}, {}, {}, {}, { cr := true }, {}] else if id = 19 then [{}, {}, {}, {}, {}, {}, {}, {}, {}, {}, {}] else if id = 21 then [{}, {}, {}, {}, {}, {}, {}, {}, {}, {}, {}, {}, {}, {}] else if id = 27 then [{}, {}, {}, {}, {}, {}, {}, {}, {}, {}, {}, {}, {}, {}, {}, {}, {}, {}, {}, {}, {}, {}, {}] else if id = 41 then [{}, {}, {}, {}, {}, {}, {}, {}, {}, {}, {}, {}, {}, { cr := true }, { mb := [221] }, { mb := [221] }, { cr := true }, {}, {}, {}, {}, {}, { cr := true }, { mb := [230] }, { mb := [230] }, { cr := true }, { cr := true }, {}, {}, {}, {}, { cr := true }, { mb := [239] }, { mb := [239] }, { cr := true }, { cr := true }, {}, {}, {}, {}, {}, { cr := true }, { mb := [249] }, { mb := [249] }, { mb := [249] }, { cr := true }, { cr := true }, {}, {}, {}, {}, {}, {}, {}, {}, {}, {}, {}, {}, {}, {}, { cr := true }, { mb := [269] }, { mb := [269] }, { cr := true }, { cr := true }, {}, {}, {}, {}, { cr := true }, { mb := [278] }, { mb := [278] }, { cr := true }, { cr := true }, {}, {}] else [] }
set_option maxHeartbeats 16000000 in
theorem f5_ok (b : List UInt8) (hb0 : b.length ≤ 9223372036854775807) : FnR Tryz.prog 5 [.v (.im b.length (flat b))] (.v (.bool true)) := by
  refine FnW.of_AW TryzT_ok 0 (fn := Tryz.f5) (by kernel_rfl) rfl (by kernel_rfl) rfl rfl rfl ?_; refine AW_of h5 TryzT_ok (by kernel_rfl) ?_
  simp -dsimp
  refine ACallK_of (f12_ok b) ?_
  by_cases hb : 1048576 < b.length
  · simp -dsimp [hb]
  have hb : b.length ≤ 1048576 := by omega
  have hb' : ¬ 1048576 < b.length := by omega
  simp -dsimp [hb']
  refine ACallK_of (f27_ok b hb) ?_
  have hS : SOK (drawState b) := stateD_sok _
  have hO := sok_Ok hS
  generalize drawState b = s at *
  have hO2 := hO
  simp only [GState.Ok] at hO2
  simp -dsimp
  refine ACallK_of (f14_ok b hb) ?_
  have hp := drawsK_len (curB (curNew b)).2 10000 12
  have hpb := drawsK_bd (curB (curNew b)).2 (n := 10000) (by decide) 12
  generalize (drawsK (curB (curNew b)).2 10000 12).1 = p at *
  have p0 : 0 < p.length := by omega
  have pn : ¬ p = [] := fun e => by rw [e] at hp; simp at hp
  have b0 := hpb _ (nth_mem p0)
  have t0 := tmod_bd b0.1 (n := 3) (by omega)
  obtain ⟨k, hk⟩ := Int.eq_ofNat_of_zero_le t0.1
  rw [hk] at t0
  have hk3 : k < 3 := by omega
  have hall : ∀ (k : Nat) (h : k < 3), ∃ o, ([PV.str ⟨#[97]⟩, PV.str ⟨#[98]⟩, PV.str ⟨#[116, 97, 108, 108, 121]⟩] : List PV)[k]'h = PV.str o := by
    intro k h
    match k, h with
    | 0, _ => exact ⟨_, rfl⟩
    | 1, _ => exact ⟨_, rfl⟩
    | 2, _ => exact ⟨_, rfl⟩
  obtain ⟨o, ho⟩ := hall k hk3
  simp -dsimp [p0, pn, ne_of_lt p0, hk, hk3, t0.2, ho]
  refine ACallK_of (f43_ok s o hO) ?_
  simp -dsimp
  refine ACallK_of (f44_ok s o hO) ?_
  have hrow := rowIs hS o
  generalize (fun i => (liveK s o i).length) = lv at *
  generalize rowDots s o = D at *
  generalize rowOf s o = RV at *
  obtain ⟨few, few2, at0, nd, lv0, lve, lvb, cnt⟩ := hrow
  simp -dsimp
  refine AWh_loop (fun i : Nat => i ≤ D.length) (fun i => mkE [(0, .c (.im b.length (flat b))), (3, .box 192 0), (5, .c (.str o)), (6, .arr 2816), (7, .arr 3008), (8, .c (.int .i64 (lv i))), (9, .c (.int .i64 i))] [(192, .box [.arr 2048, .arr 2049, .arr 2050, .arr 2051]), (2048, .arr 0 3 1 s.know.length (flat s.know)), (2049, .arr 0 179 3 s.tallies.length (flat s.tallies)), (2050, .arr 0 159 6 s.lives.length (flat s.lives)), (2051, .arr 0 72 8 s.cs.length (flat s.cs)), (2816, .arr 0 29 2 D.length (flat D)), (3008, .arr 0 3 1 RV.length (flat RV))]) (fun i => D.length - i) 0 (Wk_to [0, 3, 5, 6, 7, 8, 9] [(192, 192), (2048, 2048), (2049, 2049), (2050, 2050), (2051, 2051), (2816, 2816), (3008, 3008)] rfl rfl (by simp [lv0])) (by simp) ?_
  rintro i hi
  have hlb := lvb i
  have wi : IntKind.i64.wrap ((i : Int) + 1) = i + 1 := wrap64 (by omega) (by omega)
  refine AW_of h5 TryzT_ok (by kernel_rfl) ?_
  rcases Nat.lt_or_ge i D.length with h1 | h1
  · obtain ⟨c, hc, e1, e2, e3, e4, e5, e6⟩ := at0 i h1
    simp -dsimp [h1, ne_of_lt h1]
    repeat (first | refine ⟨by omega, ?_⟩ | refine ⟨by simp [capMax]; omega, ?_⟩ | refine ⟨⟨by omega, by omega⟩, ?_⟩)
    refine ACallK_of (f45_ok s (nth D i) (by omega)) ?_
    rw [e1]
    simp -dsimp [hc, ne_of_lt hc, eq_true e2, eq_false (by omega : ¬ (c : Int) < 0)]
    refine AWh_loop (fun j : Nat => j ≤ D.length) (fun j => mkE [(0, .c (.im b.length (flat b))), (3, .box 192 0), (5, .c (.str o)), (6, .arr 2816), (7, .arr 3008), (8, .c (.int .i64 (lv i))), (9, .c (.int .i64 i)), (10, .c (.int .i64 c)), (11, .c (.int .i64 (atK D (nth s.cs c).ref j))), (12, .c (.int .i64 j))] [(192, .box [.arr 2048, .arr 2049, .arr 2050, .arr 2051]), (2048, .arr 0 3 1 s.know.length (flat s.know)), (2049, .arr 0 179 3 s.tallies.length (flat s.tallies)), (2050, .arr 0 159 6 s.lives.length (flat s.lives)), (2051, .arr 0 72 8 s.cs.length (flat s.cs)), (2816, .arr 0 29 2 D.length (flat D)), (3008, .arr 0 3 1 RV.length (flat RV))]) (fun j => D.length - j) 0 (Wk_to [0, 3, 5, 6, 7, 8, 9, 10, 11, 12] [(192, 192), (2048, 2048), (2049, 2049), (2050, 2050), (2051, 2051), (2816, 2816), (3008, 3008)] rfl rfl (by simp [atK])) (by simp) ?_
    rintro j hj
    have wj : IntKind.i64.wrap ((j : Int) + 1) = j + 1 := wrap64 (by omega) (by omega)
    refine AW_of h5 TryzT_ok (by kernel_rfl) ?_
    rcases Nat.lt_or_ge j D.length with g1 | g1
    · have hnd := nd j i
      by_cases q : nth D j = (nth s.cs c).ref
      · have ea : atK D (nth s.cs c).ref (j + 1) = j := by rw [atK, if_pos q]
        have q1 : (nth D j).rep = (nth s.cs c).ref.rep := by rw [q]
        have q2 : (nth D j).seq = (nth s.cs c).ref.seq := by rw [q]
        by_cases hji : j < i
        · have b2 : ((nth s.cs c).ref.rep == (nth D i).rep && (nth s.cs c).ref.seq == (nth D i).seq) = false := by
            rw [Bool.eq_false_iff]; intro h; exact hnd hji h1 (by rw [q]; simpa [GDot.ext_iff] using h)
          simp -dsimp [g1, ne_of_lt g1, h1, ne_of_lt h1, hc, ne_of_lt hc, q1, q2, hji, b2, wj]
          repeat (first | refine ⟨by omega, ?_⟩ | refine ⟨by simp [capMax]; omega, ?_⟩ | refine ⟨⟨by omega, by omega⟩, ?_⟩)
          exact Back_of (j + 1) [0, 3, 5, 6, 7, 8, 9, 10, 11, 12] [(192, 192), (2048, 2048), (2049, 2049), (2050, 2050), (2051, 2051), (2816, 2816), (3008, 3008)] rfl rfl (by simp [ea]) (by omega) (by omega)
        · simp -dsimp [g1, ne_of_lt g1, h1, ne_of_lt h1, hc, ne_of_lt hc, q1, q2, hji, wj]
          repeat (first | refine ⟨by omega, ?_⟩ | refine ⟨by simp [capMax]; omega, ?_⟩ | refine ⟨⟨by omega, by omega⟩, ?_⟩)
          exact Back_of (j + 1) [0, 3, 5, 6, 7, 8, 9, 10, 11, 12] [(192, 192), (2048, 2048), (2049, 2049), (2050, 2050), (2051, 2051), (2816, 2816), (3008, 3008)] rfl rfl (by simp [ea]) (by omega) (by omega)
      · have ea : atK D (nth s.cs c).ref (j + 1) = atK D (nth s.cs c).ref j := by rw [atK, if_neg q]
        have b1 : ((nth D j).rep == (nth s.cs c).ref.rep && (nth D j).seq == (nth s.cs c).ref.seq) = false := by
          rw [Bool.eq_false_iff]; intro h; exact q (by simpa [GDot.ext_iff] using h)
        by_cases hji : j < i
        · have b2 : ((nth D j).rep == (nth D i).rep && (nth D j).seq == (nth D i).seq) = false := by
            rw [Bool.eq_false_iff]; intro h; exact hnd hji h1 (by simpa [GDot.ext_iff] using h)
          simp -dsimp [g1, ne_of_lt g1, h1, ne_of_lt h1, hc, ne_of_lt hc, b1, hji, b2, wj]
          repeat (first | refine ⟨by omega, ?_⟩ | refine ⟨by simp [capMax]; omega, ?_⟩ | refine ⟨⟨by omega, by omega⟩, ?_⟩)
          exact Back_of (j + 1) [0, 3, 5, 6, 7, 8, 9, 10, 11, 12] [(192, 192), (2048, 2048), (2049, 2049), (2050, 2050), (2051, 2051), (2816, 2816), (3008, 3008)] rfl rfl (by simp [ea]) (by omega) (by omega)
        · simp -dsimp [g1, ne_of_lt g1, h1, ne_of_lt h1, hc, ne_of_lt hc, b1, hji, wj]
          repeat (first | refine ⟨by omega, ?_⟩ | refine ⟨by simp [capMax]; omega, ?_⟩ | refine ⟨⟨by omega, by omega⟩, ?_⟩)
          exact Back_of (j + 1) [0, 3, 5, 6, 7, 8, 9, 10, 11, 12] [(192, 192), (2048, 2048), (2049, 2049), (2050, 2050), (2051, 2051), (2816, 2816), (3008, 3008)] rfl rfl (by simp [ea]) (by omega) (by omega)
    obtain rfl : j = D.length := by omega
    generalize atK D (nth s.cs c).ref D.length = t at *
    have nt : ¬ (i : Int) ≤ t := by omega
    have tail : ∀ u : Int, True := fun _ => trivial
    cases hg : (nth s.cs c).gone
    · obtain ⟨f1, f2, f3, f4⟩ := e5 hg
      have wl : IntKind.i64.wrap ((lv i : Int) + 1) = lv i + 1 := wrap64 (by omega) (by omega)
      by_cases ht : t < 0
      · have e4' := e4 ht
        simp -dsimp [nt, ht, hc, ne_of_lt hc, e4', hg]
        repeat (first | refine ⟨by omega, ?_⟩ | refine ⟨by simp [capMax]; omega, ?_⟩ | refine ⟨⟨by omega, by omega⟩, ?_⟩)
        refine ACallK_of (f46_ok s o (lv i) hO) ?_
        rw [f2]
        simp -dsimp [h1, ne_of_lt h1, f1, ne_of_lt f1, hc, ne_of_lt hc, f3, wi, wl]
        repeat (first | refine ⟨by omega, ?_⟩ | refine ⟨by simp [capMax]; omega, ?_⟩ | refine ⟨⟨by omega, by omega⟩, ?_⟩)
        exact Back_of (i + 1) [0, 3, 5, 6, 7, 8, 9] [(192, 192), (2048, 2048), (2049, 2049), (2050, 2050), (2051, 2051), (2816, 2816), (3008, 3008)] rfl rfl (by simp [f4]) (by omega) (by omega)
      · simp -dsimp [nt, ht, hc, ne_of_lt hc, hg]
        repeat (first | refine ⟨by omega, ?_⟩ | refine ⟨by simp [capMax]; omega, ?_⟩ | refine ⟨⟨by omega, by omega⟩, ?_⟩)
        refine ACallK_of (f46_ok s o (lv i) hO) ?_
        rw [f2]
        simp -dsimp [h1, ne_of_lt h1, f1, ne_of_lt f1, hc, ne_of_lt hc, f3, wi, wl]
        repeat (first | refine ⟨by omega, ?_⟩ | refine ⟨by simp [capMax]; omega, ?_⟩ | refine ⟨⟨by omega, by omega⟩, ?_⟩)
        exact Back_of (i + 1) [0, 3, 5, 6, 7, 8, 9] [(192, 192), (2048, 2048), (2049, 2049), (2050, 2050), (2051, 2051), (2816, 2816), (3008, 3008)] rfl rfl (by simp [f4]) (by omega) (by omega)
    · have f4 := e6 hg
      by_cases ht : t < 0
      · have e4' := e4 ht
        simp -dsimp [nt, ht, hc, ne_of_lt hc, e4', hg, wi]
        repeat (first | refine ⟨by omega, ?_⟩ | refine ⟨by simp [capMax]; omega, ?_⟩ | refine ⟨⟨by omega, by omega⟩, ?_⟩)
        exact Back_of (i + 1) [0, 3, 5, 6, 7, 8, 9] [(192, 192), (2048, 2048), (2049, 2049), (2050, 2050), (2051, 2051), (2816, 2816), (3008, 3008)] rfl rfl (by simp [f4]) (by omega) (by omega)
      · simp -dsimp [nt, ht, hc, ne_of_lt hc, hg, wi]
        repeat (first | refine ⟨by omega, ?_⟩ | refine ⟨by simp [capMax]; omega, ?_⟩ | refine ⟨⟨by omega, by omega⟩, ?_⟩)
        exact Back_of (i + 1) [0, 3, 5, 6, 7, 8, 9] [(192, 192), (2048, 2048), (2049, 2049), (2050, 2050), (2051, 2051), (2816, 2816), (3008, 3008)] rfl rfl (by simp [f4]) (by omega) (by omega)
  obtain rfl : i = D.length := by omega
  rw [lve]
  simp -dsimp
  refine AWh_loop (fun i : Nat => i ≤ s.cs.length) (fun i => mkE [(0, .c (.im b.length (flat b))), (3, .box 192 0), (5, .c (.str o)), (6, .arr 2816), (7, .arr 3008), (8, .c (.int .i64 RV.length)), (15, .c (.int .i64 (cntO s.cs o i))), (16, .c (.int .i64 i))] [(192, .box [.arr 2048, .arr 2049, .arr 2050, .arr 2051]), (2048, .arr 0 3 1 s.know.length (flat s.know)), (2049, .arr 0 179 3 s.tallies.length (flat s.tallies)), (2050, .arr 0 159 6 s.lives.length (flat s.lives)), (2051, .arr 0 72 8 s.cs.length (flat s.cs)), (2816, .arr 0 29 2 D.length (flat D)), (3008, .arr 0 3 1 RV.length (flat RV))]) (fun i => s.cs.length - i) 0 (Wk_to [0, 3, 5, 6, 7, 8, 15, 16] [(192, 192), (2048, 2048), (2049, 2049), (2050, 2050), (2051, 2051), (2816, 2816), (3008, 3008)] rfl rfl (by simp [cntO])) (by simp) ?_
  rintro i hi2
  have hcb := cntO_le s.cs o i
  have wi : IntKind.i64.wrap ((i : Int) + 1) = i + 1 := wrap64 (by omega) (by omega)
  have wc : IntKind.i64.wrap ((cntO s.cs o i : Int) + 1) = cntO s.cs o i + 1 := wrap64 (by omega) (by omega)
  refine AW_of h5 TryzT_ok (by kernel_rfl) ?_
  rcases Nat.lt_or_ge i s.cs.length with h1 | h1
  · have es := cntO_succ (o := o) h1
    by_cases q : (nth s.cs i).obj = o
    · rw [if_pos q] at es
      simp -dsimp [h1, ne_of_lt h1, eq_true q, wi, wc]
      repeat (first | refine ⟨by omega, ?_⟩ | refine ⟨by simp [capMax]; omega, ?_⟩ | refine ⟨⟨by omega, by omega⟩, ?_⟩)
      exact Back_of (i + 1) [0, 3, 5, 6, 7, 8, 15, 16] [(192, 192), (2048, 2048), (2049, 2049), (2050, 2050), (2051, 2051), (2816, 2816), (3008, 3008)] rfl rfl (by simp [es]) (by omega) (by omega)
    · rw [if_neg q] at es
      simp -dsimp [h1, ne_of_lt h1, eq_false q, wi]
      repeat (first | refine ⟨by omega, ?_⟩ | refine ⟨by simp [capMax]; omega, ?_⟩ | refine ⟨⟨by omega, by omega⟩, ?_⟩)
      exact Back_of (i + 1) [0, 3, 5, 6, 7, 8, 15, 16] [(192, 192), (2048, 2048), (2049, 2049), (2050, 2050), (2051, 2051), (2816, 2816), (3008, 3008)] rfl rfl (by simp [es]) (by omega) (by omega)
  obtain rfl : i = s.cs.length := by omega
  rw [← cnt]
  simp -dsimp
  have hP := pairS_Ok b
  have hP2 := hP
  simp only [GState.Ok] at hP2
  refine ACallK_of (f47_ok b hb) ?_
  simp -dsimp
  refine ACallK_of (f48_ok b hb) ?_
  simp -dsimp
  refine ACallK_of (f49_ok b hb) ?_
  have hn := curN_bd (curNew b) (n := 6) (by decide)
  generalize pairS b = v at *
  generalize pairO b = w at *
  generalize (curPick (curNew b) keys).1 = ky at *
  have hz : (curN (curNew b) 6).1 - 1 ≤ 5 := by omega
  clear hn
  generalize (curN (curNew b) 6).1 - 1 = z at *
  simp -dsimp
  refine ACallK_of (f46_ok v w z hP) ?_
  simp -dsimp
  refine ACallK_of (f50_ok v w z hP (by omega)) ?_
  simp -dsimp
  refine ACallK_of (f51_ok v w (by omega)) ?_
  simp -dsimp
  refine ACallK_of (f38_ok v w (by omega)) ?_
  simp -dsimp
  refine ACallK_of (f53_ok v w (by omega)) ?_
  simp -dsimp
  refine ACallK_of (f54_ok v w (by omega)) ?_
  simp -dsimp
  refine ACallK_of (f52_ok (keysS v false w) (by have := keysUpto_len v false w v.lives.length; unfold keysS; omega)) ?_
  simp -dsimp
  refine ACallK_of (f55_ok v w (by omega)) ?_
  simp -dsimp
  refine ACallK_of (f56_ok v w (by omega)) ?_
  simp -dsimp
  refine ACallK_of (f52_ok (keysS v true w) (by have := keysUpto_len v true w v.lives.length; unfold keysS; omega)) ?_
  simp -dsimp
  refine ACallK_of (f57_ok v w ky (by omega)) ?_
  simp -dsimp
  refine ACallK_of (f41_ok v w ky (by omega)) ?_
  simp -dsimp
  refine ACallK_of (f40_ok (mapOf v w ky) (by have := mapOf_len v w ky; omega)) ?_
  simp -dsimp
  refine ACallK_of (f43_ok v w hP) ?_
  simp -dsimp
  refine ACallK_of (f59_ok v w hP) ?_
  simp -dsimp
  refine ACallK_of (f58_ok (rowDots v w) (by have := row_len v w; have := rowDots_len v w; omega)) ?_
  simp -dsimp
  refine ACallK_of (f44_ok v w hP) ?_
  simp -dsimp
  refine ACallK_of (f42_ok v w hP) ?_
  simp -dsimp
  refine ACallK_of (f40_ok (rowOf v w) (by have := rowLive_len v w; have e : (rowOf v w).length = (rowLive v w).length := (by simp [rowOf]); omega)) ?_
  simp -dsimp
end Am
