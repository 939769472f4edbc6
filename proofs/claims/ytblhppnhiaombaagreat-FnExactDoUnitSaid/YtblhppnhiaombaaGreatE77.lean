/- A tally more; what an act is about: of both. No condition. -/
import Derived.Test.YtblhppnhiaombaaGreatT
import Derived.Test.YtblhppnhiaombaaGreatD
import Derived.Test.YtblhppnhiaombaaGreatE76
import Derived.Test.YtblhppnhiaombaaGreatAm31
namespace Am
open Go Go.Proofs
open Cel (cells)
set_option maxRecDepth 100000
set_option linter.unusedSimpArgs false
set_option linter.unusedVariables false

theorem cmpTally_zero (a b : GTally) : cmpTally a b = 0 ↔ talIs b.obj b.rep a = true := by
  simp only [cmpTally, orInt, cmpStr, cmpInt, talIs, Bool.and_eq_true, decide_eq_true_eq, beq_iff_eq]
  by_cases h1 : strLt a.obj b.obj = true
  · have e : a.obj ≠ b.obj := fun e => by rw [e, strLt_self] at h1; cases h1
    simp [e, h1]
  · by_cases h2 : strLt b.obj a.obj = true
    · have e : a.obj ≠ b.obj := fun e => by rw [e, strLt_self] at h2; cases h2
      simp [e, h1, h2]
    · have e := strLt_tri (by simpa using h1) (by simpa using h2)
      simp [e, strLt_self]
      by_cases h3 : a.rep < b.rep
      · simp [h3]; omega
      · by_cases h4 : b.rep < a.rep
        · simp [h3, h4]; omega
        · simp [h3, h4]; omega
theorem addT_in {l : List GTally} {o : ByteArray} {r v : Int} {i : Nat} (hi : i < l.length) (h1 : ∀ k : Nat, k < i → tallyLt (nth l k) ⟨o, r, 0⟩ = true) (h2 : talIs o r (nth l i) = true) :
    addT l o r v = l.take i ++ ⟨o, r, (IntKind.i64.wrap ((nth l i).sum + v)).tmod 1000000⟩ :: l.drop (i + 1) := by
  have hx : idx (talIs o r) l = i := idx_here hi (fun j hj => by
    cases e : talIs o r (nth l j)
    · rfl
    · have h3 := h1 j hj
      simp only [talIs, Bool.and_eq_true, decide_eq_true_eq, beq_iff_eq] at e
      simp only [tallyLt, e.1, e.2, strLt_self, Int.lt_irrefl, decide_false, Bool.and_false, Bool.or_self] at h3
      cases h3) h2
  unfold addT
  rw [hx, if_pos (by omega)]
  simp only [Int.toNat_natCast]
  rw [List.set_eq_take_append_cons_drop, if_pos hi]
theorem addT_out {l : List GTally} (hs : l.Pairwise fun a b => tallyLt a b = true) {o : ByteArray} {r v : Int} {i : Nat} (hi : i ≤ l.length) (h1 : ∀ k : Nat, k < i → tallyLt (nth l k) ⟨o, r, 0⟩ = true) (h2 : i < l.length → tallyLt (nth l i) ⟨o, r, 0⟩ = false) (h3 : i < l.length → talIs o r (nth l i) = false) :
    addT l o r v = l.take i ++ ⟨o, r, v⟩ :: l.drop i := by
  have same : ∀ x : GTally, tallyLt x ⟨o, r, 0⟩ = tallyLt x ⟨o, r, v⟩ := fun x => rfl
  have same2 : ∀ x : GTally, tallyLt ⟨o, r, 0⟩ x = tallyLt ⟨o, r, v⟩ x := fun x => rfl
  have no : ∀ k : Nat, k < l.length → talIs o r (nth l k) = false := by
    intro k hk
    cases e : talIs o r (nth l k)
    · rfl
    · exfalso
      have e2 := e
      simp only [talIs, Bool.and_eq_true, decide_eq_true_eq, beq_iff_eq] at e2
      rcases Nat.lt_trichotomy k i with h | h | h
      · have h4 := h1 k h
        simp only [tallyLt, e2.1, e2.2, strLt_self, Int.lt_irrefl, decide_false, Bool.and_false, Bool.or_self] at h4
        cases h4
      · subst h
        rw [h3 hk] at e; cases e
      · have h4 := pw_nth hs h hk
        have h5 := h2 (by omega)
        simp only [tallyLt, e2.1, e2.2] at h4
        simp only [tallyLt] at h5
        rw [h5] at h4; cases h4
  have hx : idx (talIs o r) l = -1 := idx_none no
  unfold addT
  rw [hx, if_neg (by omega)]
  refine (insF_at (x := (⟨o, r, v⟩ : GTally)) tallyLt_Lt hi (fun k hk => by have := h1 k hk; exact this) (fun h => by have := h2 h; exact this) fun k hk h => ?_).symm
  cases e : tallyLt ⟨o, r, v⟩ (nth l k)
  · have := tallyLt_tri h e
    have h4 := no k hk
    simp only [talIs] at h4
    simp [this.1, this.2] at h4
  · rfl

@[simp] def h159 : Hts := { merge := fun _ => false, mergeF := fun _ => false, dr := fun id => if id = 3 then [{}, {}, {}, {}, {}, {}, {}, {}, {}, {}, { cr := true }, {}, {}] else if id = 6 then [{}, {}, {}, {}, {}, {}, {}, {}, { cr := true }, {}, {}] else if id = 10 then [{ cr := true, mb := [61, 64] }, { mb := [58, 64] }, { mb := [58, 64] }, { cr := true, mb := [58, 64] }, { wr := [3712], cr := true, mb := [64] }, { mn := [3712], mb := [58, 61, 62] }, { mn := [3712], cr := true, mb := [58, 61, 62] }, { wr := [3968], cr := true }, {}] else [] }
set_option maxHeartbeats 4000000 in
theorem f159_ok (l : List GTally) (o : ByteArray) (r v : Int) (ha : l.length ≤ 1000000) (hs : l.Pairwise fun a b => tallyLt a b = true) (hv0 : 0 ≤ v) (hv1 : v ≤ 999999) : FnR Tryz.prog 159 [.v (.im l.length (flat l)), .v (.str o), .v (.int .i64 r), .v (.int .i64 v)] (.v (.ow 179 3 (addT l o r v).length (flat (addT l o r v)))) := by
  refine FnW.of_AW TryzT_ok 0 (fn := Tryz.f159) (by kernel_rfl) rfl (by kernel_rfl) rfl rfl rfl ?_; refine AW_of h159 TryzT_ok (by kernel_rfl) ?_
  simp -dsimp
  refine AWh_loop (fun i : Nat => i ≤ l.length ∧ ∀ k : Nat, k < i → tallyLt (nth l k) ⟨o, r, 0⟩ = true) (fun i => mkE [(0, .c (.im l.length (flat l))), (3, .c (.int .i64 v)), (9, .c (.int .i64 i)), (10, .box 640 0)] [(640, .box [.c (.str o), .c (.int .i64 r), .c (.int .i64 0)])]) (fun i => l.length - i) 0 (Wk_to [0, 3, 9, 10] [(640, 640)] rfl rfl (by simp)) (by simp) ?_
  rintro i ⟨hi, hall⟩
  have hft : List.take (i * 3) (flat l) = flat (l.take i) := flat_take l i
  have hfd : List.drop (i * 3) (flat l) = flat (l.drop i) := flat_drop l i
  have hfd2 : List.take ((l.length - i) * 3) (flat (l.drop i)) = flat (l.drop i) := by
    have h := flat_take (l.drop i) (l.length - i)
    have e := List.take_of_length_le (i := l.length - i) (l := l.drop i) (by simp)
    rw [e] at h
    exact h
  refine AW_of h159 TryzT_ok (by kernel_rfl) ?_
  rcases Nat.lt_or_ge i l.length with h1 | h1
  · have hcz := cmpTally_zero (nth l i) ⟨o, r, 0⟩
    have hct := tallyLt_cmp (nth l i) ⟨o, r, 0⟩
    have hd0 : nth (l.drop i) 0 = nth l i := by rw [nth_eq (by simp; omega), nth_eq h1]; simp
    have hdl : 0 < (l.drop i).length := by simp; omega
    have hdc : List.drop 3 (flat (l.drop i)) = flat (l.drop (i + 1)) := by
      have h := flat_drop (l.drop i) 1
      rw [List.drop_drop] at h
      exact h
    have hnl : ¬ l.length ≤ i := by omega
    have ht3 : List.take 3 (flat (l.drop i)) = [.str (nth l i).obj, .int .i64 (nth l i).rep, .int .i64 (nth l i).sum] := by
      have h := flat_one (xs := l.drop i) (i := 0) hdl
      rw [hd0, Nat.zero_mul, List.drop_zero] at h
      exact h
    have hg2 : (flat (l.drop i))[2]? = some (.int .i64 (nth l i).sum) := by
      have h := flat_get (xs := l.drop i) (i := 0) (j := 2) hdl (by decide)
      rw [hd0, Nat.zero_mul, Nat.zero_add] at h
      exact h
    have hdp : 0 < l.length - i := by omega
    simp -dsimp [h1, ne_of_lt h1]
    repeat (first | refine ⟨by omega, ?_⟩ | refine ⟨by simp [capMax]; omega, ?_⟩ | refine ⟨⟨by omega, by omega⟩, ?_⟩)
    refine ACallK_of (f235_ok (nth l i) ⟨o, r, 0⟩) ?_
    by_cases g : cmpTally (nth l i) ⟨o, r, 0⟩ < 0
    · have hlt : tallyLt (nth l i) ⟨o, r, 0⟩ = true := by rw [hct]; simp [g]
      simp -dsimp [h1, ne_of_lt h1, g]
      repeat (first | refine ⟨by omega, ?_⟩ | refine ⟨by simp [capMax]; omega, ?_⟩ | refine ⟨⟨by omega, by omega⟩, ?_⟩)
      exact Back_of (i + 1) [0, 3, 9, 10] [(640, 640)] rfl rfl (by simp; rw [wrap64 (by omega) (by omega)]) ⟨by omega, fun k hk => by
        by_cases e : k = i
        · subst e; exact hlt
        · exact hall k (by omega)⟩ (by omega)
    · have hlt : tallyLt (nth l i) ⟨o, r, 0⟩ = false := by rw [hct]; simp [g]
      simp -dsimp [h1, ne_of_lt h1, g, hft, hfd, hfd2, hdp, hdl, hnl, ht3, hg2]
      repeat (first | refine ⟨by omega, ?_⟩ | refine ⟨by simp [capMax]; omega, ?_⟩ | refine ⟨⟨by omega, by omega⟩, ?_⟩)
      refine ACallK_of (f235_ok (nth l i) ⟨o, r, 0⟩) ?_
      have hfd3 : List.take ((l.length - i - 1) * 3) (flat (l.drop (i + 1))) = flat (l.drop (i + 1)) := by
        have h := flat_take (l.drop (i + 1)) (l.length - i - 1)
        have e := List.take_of_length_le (i := l.length - i - 1) (l := l.drop (i + 1)) (by simp; omega)
        rw [e] at h
        exact h
      by_cases g2 : cmpTally (nth l i) ⟨o, r, 0⟩ = 0
      · have he := addT_in (v := v) h1 hall (hcz.1 g2)
        have b2 : (cmpTally (nth l i) ⟨o, r, 0⟩ == 0) = true := by simp [g2]
        simp -dsimp [b2, hft, hfd, hfd2, hfd3, hdp, hdl, hnl, ht3, hg2, hdc]
        repeat (first | refine ⟨by omega, ?_⟩ | refine ⟨by simp [capMax]; omega, ?_⟩ | refine ⟨⟨by omega, by omega⟩, ?_⟩)
        rw [he, ← flat_append]
        exact ⟨by simp; omega, by simp⟩
      · have hno : talIs o r (nth l i) = false := by
          cases e : talIs o r (nth l i)
          · rfl
          · exact absurd (hcz.2 e) g2
        have he := addT_out (v := v) hs hi hall (fun _ => hlt) (fun _ => hno)
        have wv : (IntKind.i64.wrap v).tmod 1000000 = v := by rw [wrap64 (by omega) (by omega)]; exact Int.tmod_eq_of_lt hv0 (by omega)
        have b2 : (cmpTally (nth l i) ⟨o, r, 0⟩ == 0) = false := by simp [g2]
        simp -dsimp [b2, hft, hfd, hfd2, hdp, hdl, hnl, ht3, hg2, wv]
        repeat (first | refine ⟨by omega, ?_⟩ | refine ⟨by simp [capMax]; omega, ?_⟩ | refine ⟨⟨by omega, by omega⟩, ?_⟩)
        rw [he, ← flat_append]
        exact ⟨by simp; omega, by simp⟩
  · obtain rfl : i = l.length := by omega
    have he := addT_out (v := v) hs hi hall (fun h => absurd h (by omega)) (fun h => absurd h (by omega))
    have wv : (IntKind.i64.wrap v).tmod 1000000 = v := by rw [wrap64 (by omega) (by omega)]; exact Int.tmod_eq_of_lt hv0 (by omega)
    simp -dsimp [hft, hfd, wv]
    repeat (first | refine ⟨by omega, ?_⟩ | refine ⟨by simp [capMax]; omega, ?_⟩ | refine ⟨⟨by omega, by omega⟩, ?_⟩)
    rw [he]
    simp

/-- what an act is about, the cell's number -/
def refAtI (s : GState) (a : GAct) : Nat := (cellAt s.cs a.ref).toNat
def actRefOk (s : GState) (a : GAct) : Bool := if a.kind = 7 ∨ (a.kind = 6 ∧ ¬ a.ref = zeroDot) then decide (0 ≤ cellAt s.cs a.ref) && (decide ((nth s.cs (refAtI s a)).obj = a.obj) && (a.kind == 7 || decide ((nth s.cs (refAtI s a)).time < a.time))) else true
@[simp] def h138 : Hts := { merge := fun _ => false, mergeF := fun _ => false, dr := fun id => if id = 4 then [{}, {}, {}, {}, {}, {}, {}, {}, {}, {}, {}, {}, {}, {}, {}, {}, {}, {}, {}, {}, {}, {}, {}, {}, {}, {}, {}, {}, {}, {}] else [] }
set_option maxHeartbeats 4000000 in
theorem f138_ok (s : GState) (a : GAct) (hs : s.cs.length ≤ 1073741824) : FnR Tryz.prog 138 [.agg [.im s.know.length (flat s.know), .im s.tallies.length (flat s.tallies), .im s.lives.length (flat s.lives), .im s.cs.length (flat s.cs)], .agg [.int .i64 a.dot.rep, .int .i64 a.dot.seq, .int .i64 a.time, .im a.knew.length (flat a.knew), .int .i64 a.kind, .str a.obj, .str a.key, .int .i64 a.val, .int .i64 a.ref.rep, .int .i64 a.ref.seq]] (.v (.bool (actRefOk s a))) := by
  obtain ⟨dot, time, knew, kind, obj, key, val, ref⟩ := a
  refine FnW.of_AW TryzT_ok 0 (fn := Tryz.f138) (by kernel_rfl) rfl (by kernel_rfl) rfl rfl rfl ?_; refine AW_of h138 TryzT_ok (by kernel_rfl) ?_
  have goon : (kind = 7 ∨ (kind = 6 ∧ ¬ ref = zeroDot)) → actRefOk s ⟨dot, time, knew, kind, obj, key, val, ref⟩ = (decide (0 ≤ cellAt s.cs ref) && (decide ((nth s.cs (cellAt s.cs ref).toNat).obj = obj) && (kind == 7 || decide ((nth s.cs (cellAt s.cs ref).toNat).time < time)))) := fun h => by simp only [actRefOk, refAtI]; rw [if_pos h]; rfl
  by_cases k7 : kind = 7
  · subst k7
    have hg := goon (.inl rfl)
    simp -dsimp
    refine ACallK_of (f220_ok s ref hs) ?_
    rcases cellAt_cases s.cs ref with c1 | ⟨j, hj, c1⟩
    · rw [c1] at hg ⊢
      simp -dsimp
      simp [hg]
    · rw [c1] at hg ⊢
      have jn : ¬ (j : Int) < 0 := by omega
      by_cases o1 : (nth s.cs j).obj = obj
      · simp -dsimp [hj, ne_of_lt hj, jn, eq_true o1]
        repeat (first | refine ⟨by omega, ?_⟩ | refine ⟨by simp [capMax]; omega, ?_⟩ | refine ⟨⟨by omega, by omega⟩, ?_⟩)
        simp [hg, o1]
      · simp -dsimp [hj, ne_of_lt hj, jn, o1]
        repeat (first | refine ⟨by omega, ?_⟩ | refine ⟨by simp [capMax]; omega, ?_⟩ | refine ⟨⟨by omega, by omega⟩, ?_⟩)
        simp [hg, o1]
  have b7 : (kind != 7) = true := by simp [k7]
  have b7' : (kind == 7) = false := by simp [k7]
  by_cases k6 : kind = 6
  case neg =>
    have b6 : (kind != 6) = true := by simp [k6]
    simp -dsimp [b7, b6]
    simp [actRefOk, k6, k7]
  subst k6
  by_cases rz : ref = zeroDot
  · have z1 : ref.rep = 0 := by rw [rz]; rfl
    have z2 : ref.seq = 0 := by rw [rz]; rfl
    simp -dsimp [z1, z2]
    simp [actRefOk, rz]
  have rz' : (ref.rep == 0 && ref.seq == 0) = false := by
    rw [Bool.eq_false_iff]; intro h; exact rz (by simpa [GDot.ext_iff, zeroDot] using h)
  have hg := goon (.inr ⟨rfl, rz⟩)
  simp -dsimp [rz']
  refine ACallK_of (f220_ok s ref hs) ?_
  rcases cellAt_cases s.cs ref with c1 | ⟨j, hj, c1⟩
  · rw [c1] at hg ⊢
    simp -dsimp
    simp [hg]
  · rw [c1] at hg ⊢
    have jn : ¬ (j : Int) < 0 := by omega
    by_cases o1 : (nth s.cs j).obj = obj
    · simp -dsimp [hj, ne_of_lt hj, jn, eq_true o1]
      repeat (first | refine ⟨by omega, ?_⟩ | refine ⟨by simp [capMax]; omega, ?_⟩ | refine ⟨⟨by omega, by omega⟩, ?_⟩)
      simp [hg, o1]
    · simp -dsimp [hj, ne_of_lt hj, jn, o1]
      repeat (first | refine ⟨by omega, ?_⟩ | refine ⟨by simp [capMax]; omega, ?_⟩ | refine ⟨⟨by omega, by omega⟩, ?_⟩)
      simp [hg, o1]
end Am
