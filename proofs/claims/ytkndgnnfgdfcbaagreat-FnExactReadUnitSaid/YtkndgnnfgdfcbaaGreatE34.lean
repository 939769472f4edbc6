/- What reads: lists. No condition. -/
import Derived.Test.YtkndgnnfgdfcbaaGreatT
import Derived.Test.YtkndgnnfgdfcbaaGreatD
import Derived.Test.YtkndgnnfgdfcbaaGreatE33
import Derived.Test.YtkndgnnfgdfcbaaGreatAm31
namespace Am
open Go Go.Proofs
open Cel (cells)
set_option maxRecDepth 100000
set_option linter.unusedSimpArgs false
set_option linter.unusedVariables false

theorem numM_pos {s : GScan} (h : 0 ≤ s.pos) : 0 ≤ (numM s).2.pos := by
  unfold numM
  split
  · exact h
  · cases g : rd s.t s.pos with
    | none => exact h
    | some x => obtain ⟨n, a⟩ := x; have := rd_spec g; simp only; omega
theorem numM_nn (s : GScan) : 0 ≤ (numM s).1 := by
  unfold numM
  split
  · exact Int.le_refl 0
  · cases g : rd s.t s.pos with
    | none => exact Int.le_refl 0
    | some x => obtain ⟨n, a⟩ := x; have := rd_spec g; simp only; omega
theorem shM_t (s : GScan) : (shM s).2.t = s.t := by
  unfold shM
  split
  · rfl
  · split <;> rfl
theorem rs_spec {t : ByteArray} {p : Int} {x : ByteArray} {a : Int} (h : rs t p = some (x, a)) : ∃ n b : Int, rd t p = some (n, b) ∧ n ≤ 20000 ∧ b + n ≤ t.size ∧ x = t.extract b.toNat (b + n).toNat ∧ a = b + n := by
  unfold rs at h
  cases g : rd t p with
  | none => rw [g] at h; cases h
  | some y =>
    obtain ⟨n, b⟩ := y
    rw [g] at h
    simp only at h
    split at h
    · cases h
    · cases h
      exact ⟨n, b, rfl, by omega, by omega, rfl, rfl⟩
theorem shM_pos {s : GScan} (h : 0 ≤ s.pos) : 0 ≤ (shM s).2.pos := by
  unfold shM
  split
  · exact h
  · cases g : rs s.t s.pos with
    | none => exact h
    | some x =>
      obtain ⟨y, a⟩ := x
      obtain ⟨n, b, h1, _, _, _, rfl⟩ := rs_spec g
      have := rd_spec h1
      simp only; omega
theorem shM_size (s : GScan) : (shM s).1.size ≤ 20000 := by
  unfold shM
  split
  · exact Nat.zero_le _
  · cases g : rs s.t s.pos with
    | none => exact Nat.zero_le _
    | some x =>
      obtain ⟨y, a⟩ := x
      obtain ⟨n, b, h1, h2, h3, rfl, rfl⟩ := rs_spec g
      have := rd_spec h1
      simp only [ByteArray.size_extract]
      omega
theorem dotM_t (s : GScan) : (dotM s).2.t = s.t := by rw [dotM, numM_t, numM_t]
theorem dotM_pos {s : GScan} (h : 0 ≤ s.pos) : 0 ≤ (dotM s).2.pos := numM_pos (numM_pos h)
theorem setBad_t (s : GScan) : (setBad s).t = s.t := rfl
theorem flagM_t (s : GScan) : (flagM s).2.t = s.t := by
  unfold flagM
  simp only
  split
  · rw [setBad_t, numM_t]
  · rw [numM_t]
theorem flagM_pos {s : GScan} (h : 0 ≤ s.pos) : 0 ≤ (flagM s).2.pos := by
  unfold flagM
  simp only
  split
  · exact numM_pos h
  · exact numM_pos h
theorem boolS_t (s : GScan) : (boolS s).2.t = s.t := by
  unfold boolS
  split <;> rfl
theorem boolS_pos {s : GScan} (h : 0 ≤ s.pos) : 0 ≤ (boolS s).2.pos := by
  unfold boolS
  split
  · exact h
  · simp only; omega
theorem cntM_t (s : GScan) : (cntM s).2.t = s.t := by
  unfold cntM
  split
  · rw [setBad_t, numM_t]
  · rw [numM_t]
theorem cntM_pos {s : GScan} (h : 0 ≤ s.pos) : 0 ≤ (cntM s).2.pos := by
  unfold cntM
  split
  · exact numM_pos h
  · exact numM_pos h
theorem cntM_N (s : GScan) : ∃ N : Nat, (cntM s).1 = N ∧ N ≤ 120 := by
  have := numM_nn s
  unfold cntM
  split
  · exact ⟨0, rfl, by omega⟩
  · exact ⟨(numM s).1.toNat, by omega, by omega⟩

/-- so many, one after the other -/
def lsM {α : Type} (r : GScan → α × GScan) (s : GScan) : Nat → List α × GScan
  | 0 => ([], s)
  | i + 1 => ((lsM r s i).1 ++ [(r (lsM r s i).2).1], (r (lsM r s i).2).2)
/-- .. until it is bad -/
def lsS {α : Type} (r : GScan → α × GScan) (s : GScan) : Nat → List α × GScan
  | 0 => ([], s)
  | i + 1 => if (lsS r s i).2.bad = true then lsS r s i else ((lsS r s i).1 ++ [(r (lsS r s i).2).1], (r (lsS r s i).2).2)
section
variable {α : Type} {r : GScan → α × GScan}
theorem lsM_t (hr : ∀ s, (r s).2.t = s.t) (s : GScan) : ∀ i, (lsM r s i).2.t = s.t
  | 0 => rfl
  | i + 1 => by rw [lsM, hr, lsM_t hr s i]
theorem lsM_pos (hr : ∀ s, 0 ≤ s.pos → 0 ≤ (r s).2.pos) {s : GScan} (h : 0 ≤ s.pos) : ∀ i, 0 ≤ (lsM r s i).2.pos
  | 0 => h
  | i + 1 => by rw [lsM]; exact hr _ (lsM_pos hr h i)
theorem lsM_len (s : GScan) : ∀ i, (lsM r s i).1.length = i
  | 0 => rfl
  | i + 1 => by simp [lsM, lsM_len s i]
theorem lsS_eq {s : GScan} : ∀ {i : Nat}, (∀ j : Nat, j < i → (lsM r s j).2.bad = false) → lsS r s i = lsM r s i
  | 0, _ => rfl
  | i + 1, h => by
    have ih := lsS_eq (i := i) fun j hj => h j (by omega)
    rw [lsS, ih, h i (by omega), lsM]
    simp
theorem lsS_stop {s : GScan} {i : Nat} (h : ∀ j : Nat, j < i → (lsM r s j).2.bad = false) (hb : (lsM r s i).2.bad = true) : ∀ n : Nat, i ≤ n → lsS r s n = lsM r s i
  | 0, hn => by
    obtain rfl : i = 0 := by omega
    rfl
  | n + 1, hn => by
    by_cases e : i = n + 1
    · subst e; exact lsS_eq h
    · rw [lsS, lsS_stop h hb n (by omega), if_pos hb]
end
def talM (s : GScan) : GTally × GScan := (⟨(shM s).1, (numM (shM s).2).1, (numM (numM (shM s).2).2).1⟩, (numM (numM (shM s).2).2).2)
def liveM (fl : GScan → Bool × GScan) (s : GScan) : GLive × GScan :=
  (⟨(fl s).1, (shM (fl s).2).1, (shM (shM (fl s).2).2).1, (numM (shM (shM (fl s).2).2).2).1, (dotM (numM (shM (shM (fl s).2).2).2).2).1⟩, (dotM (numM (shM (shM (fl s).2).2).2).2).2)
def cellM (fl : GScan → Bool × GScan) (s : GScan) : GCell × GScan :=
  (⟨(shM s).1, (dotM (shM s).2).1, (numM (dotM (shM s).2).2).1, (dotM (numM (dotM (shM s).2).2).2).1, (numM (dotM (numM (dotM (shM s).2).2).2).2).1, (fl (numM (dotM (numM (dotM (shM s).2).2).2).2).2).1⟩,
    (fl (numM (dotM (numM (dotM (shM s).2).2).2).2).2).2)
theorem talM_t (s : GScan) : (talM s).2.t = s.t := by rw [talM, numM_t, numM_t, shM_t]
theorem talM_pos (s : GScan) (h : 0 ≤ s.pos) : 0 ≤ (talM s).2.pos := numM_pos (numM_pos (shM_pos h))
theorem liveM_t {fl : GScan → Bool × GScan} (hf : ∀ s, (fl s).2.t = s.t) (s : GScan) : (liveM fl s).2.t = s.t := by rw [liveM, dotM_t, numM_t, shM_t, shM_t, hf]
theorem liveM_pos {fl : GScan → Bool × GScan} (hf : ∀ s : GScan, 0 ≤ s.pos → 0 ≤ (fl s).2.pos) (s : GScan) (h : 0 ≤ s.pos) : 0 ≤ (liveM fl s).2.pos := dotM_pos (numM_pos (shM_pos (shM_pos (hf s h))))
theorem cellM_t {fl : GScan → Bool × GScan} (hf : ∀ s, (fl s).2.t = s.t) (s : GScan) : (cellM fl s).2.t = s.t := by rw [cellM, hf, numM_t, dotM_t, numM_t, dotM_t, shM_t]
theorem cellM_pos {fl : GScan → Bool × GScan} (hf : ∀ s : GScan, 0 ≤ s.pos → 0 ≤ (fl s).2.pos) (s : GScan) (h : 0 ≤ s.pos) : 0 ≤ (cellM fl s).2.pos := hf _ (numM_pos (dotM_pos (numM_pos (dotM_pos (shM_pos h)))))

@[simp] def h131 : Hts := { merge := fun _ => false, lend := fun f => [.box []] }
set_option maxHeartbeats 2000000 in
theorem f131_ok (s : GScan) (ht : s.t.size ≤ 1073741824) (hp : 0 ≤ s.pos) : FnW Tryz.prog 131 [.ptr [.str (s).t, .int .i64 (s).pos, .bool (s).bad]] (.v (.ow 146 3 ((lsS talM (cntM s).2 (cntM s).1.toNat).1).length (flat ((lsS talM (cntM s).2 (cntM s).1.toNat).1)))) [.ptr [.str ((lsS talM (cntM s).2 (cntM s).1.toNat).2).t, .int .i64 ((lsS talM (cntM s).2 (cntM s).1.toNat).2).pos, .bool ((lsS talM (cntM s).2 (cntM s).1.toNat).2).bad]] := by
  obtain ⟨N, hN, hN2⟩ := cntM_N s
  have hNt : (cntM s).1.toNat = N := by omega
  rw [hNt]
  refine FnW.of_AW TryzT_ok 1 (fn := Tryz.f131) (by kernel_rfl) rfl (by kernel_rfl) rfl rfl rfl ?_
  refine AW_of h131 TryzT_ok (by kernel_rfl) ?_
  simp -dsimp
  refine ACallW_args (by intro us; simp -dsimp; exact ⟨rfl, rfl, rfl⟩) ?_
  refine ACallC_of (fun us => f133_ok s ht) (by intro us; simp -dsimp; exact ⟨rfl, rfl⟩) ?_
  simp -dsimp [hN]
  refine AWh_loop (fun i : Nat => i ≤ N ∧ ∀ j : Nat, j < i → (lsM talM (cntM s).2 j).2.bad = false) (fun i => mkE [(0, .box 640000 0), (3, .arr 192), (4, .c (.int .i64 N)), (5, .c (.int .i64 i))] [(640000, .box [.c (.str (lsM talM (cntM s).2 i).2.t), .c (.int .i64 (lsM talM (cntM s).2 i).2.pos), .c (.bool (lsM talM (cntM s).2 i).2.bad)]), (192, .arr 0 146 3 (lsM talM (cntM s).2 i).1.length (flat (lsM talM (cntM s).2 i).1))]) (fun i => N - i) 0 (Wk_to [0, 3, 4, 5] [(640000, 640000), (192, 448)] rfl rfl (by simp [lsM])) (by simp) ?_
  rintro i ⟨hi, hall⟩
  have hl := lsM_len (r := talM) (cntM s).2 i
  have he : (lsM talM (cntM s).2 i).2.t = s.t := by rw [lsM_t talM_t, cntM_t]
  have hp0 : 0 ≤ (lsM talM (cntM s).2 i).2.pos := lsM_pos talM_pos (cntM_pos hp) i
  refine AW_of h131 TryzT_ok (by kernel_rfl) ?_
  rcases Nat.lt_or_ge i N with h1 | h1
  · cases hb : (lsM talM (cntM s).2 i).2.bad
    · simp -dsimp [h1, hb]
      refine ACallW_args (by intro us; simp -dsimp; exact ⟨rfl, rfl, rfl⟩) ?_
      have h0 := f178_ok ((lsM talM (cntM s).2 i).2) (by simp only [numM_t, shM_t, dotM_t, boolS_t, flagM_t, he]; exact ht)
      rw [hb] at h0
      refine ACallC_of (fun us => h0) (by intro us; simp -dsimp; exact ⟨rfl, rfl⟩) ?_
      simp -dsimp [h1, hb]
      refine ACallW_args (by intro us; simp -dsimp; exact ⟨rfl, rfl, rfl⟩) ?_
      refine ACallC_of (fun us => f177_ok ((shM ((lsM talM (cntM s).2 i).2)).2) (by simp only [numM_t, shM_t, dotM_t, boolS_t, flagM_t, he]; exact ht)) (by intro us; simp -dsimp; exact ⟨rfl, rfl⟩) ?_
      simp -dsimp [h1, hb]
      refine ACallW_args (by intro us; simp -dsimp; exact ⟨rfl, rfl, rfl⟩) ?_
      refine ACallC_of (fun us => f177_ok ((numM ((shM ((lsM talM (cntM s).2 i).2)).2)).2) (by simp only [numM_t, shM_t, dotM_t, boolS_t, flagM_t, he]; exact ht)) (by intro us; simp -dsimp; exact ⟨rfl, rfl⟩) ?_
      simp -dsimp [h1, hb]
      refine ⟨by simp [capMax]; omega, ?_⟩
      exact Back_of (i + 1) [0, 3, 4, 5] [(640000, 640000), (192, 2176)] rfl rfl (by simp [lsM, talM, liveM, cellM]; rw [wrap64 (by omega) (by omega)]) ⟨by omega, fun j hj => by
        by_cases e : j = i
        · subst e; exact hb
        · exact hall j (by omega)⟩ (by omega)
    · simp -dsimp [h1, hb]
      rw [lsS_stop hall hb N (by omega)]
      refine ⟨⟨rfl, rfl⟩, ?_⟩
      simp [hb]
  · obtain rfl : i = N := by omega
    simp -dsimp
    rw [lsS_eq hall]
    exact ⟨⟨rfl, rfl⟩, rfl, rfl, rfl⟩

@[simp] def h142 : Hts := { merge := fun _ => false, lend := fun f => [.box []] }
set_option maxHeartbeats 2000000 in
theorem f142_ok (s : GScan) (ht : s.t.size ≤ 1073741824) (hp : 0 ≤ s.pos) : FnW Tryz.prog 142 [.ptr [.str (s).t, .int .i64 (s).pos, .bool (s).bad]] (.v (.ow 146 3 ((lsM talM (cntM s).2 (cntM s).1.toNat).1).length (flat ((lsM talM (cntM s).2 (cntM s).1.toNat).1)))) [.ptr [.str ((lsM talM (cntM s).2 (cntM s).1.toNat).2).t, .int .i64 ((lsM talM (cntM s).2 (cntM s).1.toNat).2).pos, .bool ((lsM talM (cntM s).2 (cntM s).1.toNat).2).bad]] := by
  obtain ⟨N, hN, hN2⟩ := cntM_N s
  have hNt : (cntM s).1.toNat = N := by omega
  rw [hNt]
  refine FnW.of_AW TryzT_ok 1 (fn := Tryz.f142) (by kernel_rfl) rfl (by kernel_rfl) rfl rfl rfl ?_
  refine AW_of h142 TryzT_ok (by kernel_rfl) ?_
  simp -dsimp
  refine ACallW_args (by intro us; simp -dsimp; exact ⟨rfl, rfl, rfl⟩) ?_
  refine ACallC_of (fun us => f144_ok s ht) (by intro us; simp -dsimp; exact ⟨rfl, rfl⟩) ?_
  simp -dsimp [hN]
  refine AWh_loop (fun i : Nat => i ≤ N) (fun i => mkE [(0, .box 640000 0), (3, .arr 192), (9, .c (.int .i64 N)), (10, .c (.int .i64 i))] [(640000, .box [.c (.str (lsM talM (cntM s).2 i).2.t), .c (.int .i64 (lsM talM (cntM s).2 i).2.pos), .c (.bool (lsM talM (cntM s).2 i).2.bad)]), (192, .arr 0 146 3 (lsM talM (cntM s).2 i).1.length (flat (lsM talM (cntM s).2 i).1))]) (fun i => N - i) 0 (Wk_to [0, 3, 9, 10] [(640000, 640000), (192, 384)] rfl rfl (by simp [lsM])) (by simp) ?_
  rintro i hi
  have hl := lsM_len (r := talM) (cntM s).2 i
  have he : (lsM talM (cntM s).2 i).2.t = s.t := by rw [lsM_t talM_t, cntM_t]
  have hp0 : 0 ≤ (lsM talM (cntM s).2 i).2.pos := lsM_pos talM_pos (cntM_pos hp) i
  refine AW_of h142 TryzT_ok (by kernel_rfl) ?_
  rcases Nat.lt_or_ge i N with h1 | h1
  · simp -dsimp [h1]
    refine ACallW_args (by intro us; simp -dsimp; exact ⟨rfl, rfl, rfl⟩) ?_
    refine ACallC_of (fun us => f140_ok ((lsM talM (cntM s).2 i).2) (by simp only [numM_t, shM_t, dotM_t, boolS_t, flagM_t, he]; exact ht)) (by intro us; simp -dsimp; exact ⟨rfl, rfl⟩) ?_
    simp -dsimp [h1]
    refine ACallW_args (by intro us; simp -dsimp; exact ⟨rfl, rfl, rfl⟩) ?_
    refine ACallC_of (fun us => f138_ok ((shM ((lsM talM (cntM s).2 i).2)).2) (by simp only [numM_t, shM_t, dotM_t, boolS_t, flagM_t, he]; exact ht)) (by intro us; simp -dsimp; exact ⟨rfl, rfl⟩) ?_
    simp -dsimp [h1]
    refine ACallW_args (by intro us; simp -dsimp; exact ⟨rfl, rfl, rfl⟩) ?_
    refine ACallC_of (fun us => f138_ok ((numM ((shM ((lsM talM (cntM s).2 i).2)).2)).2) (by simp only [numM_t, shM_t, dotM_t, boolS_t, flagM_t, he]; exact ht)) (by intro us; simp -dsimp; exact ⟨rfl, rfl⟩) ?_
    simp -dsimp [h1]
    refine ⟨by simp [capMax]; omega, ?_⟩
    exact Back_of (i + 1) [0, 3, 9, 10] [(640000, 640000), (192, 1600)] rfl rfl (by simp [lsM, talM, liveM, cellM]; rw [wrap64 (by omega) (by omega)]) (by omega) (by omega)
  · obtain rfl : i = N := by omega
    simp -dsimp
    try exact ⟨⟨rfl, rfl⟩, rfl, rfl, rfl⟩

@[simp] def h132 : Hts := { merge := fun _ => false, lend := fun f => [.box []] }
set_option maxHeartbeats 2000000 in
theorem f132_ok (s : GScan) (ht : s.t.size ≤ 1073741824) (hp : 0 ≤ s.pos) : FnW Tryz.prog 132 [.ptr [.str (s).t, .int .i64 (s).pos, .bool (s).bad]] (.v (.ow 148 6 ((lsS (liveM boolS) (cntM s).2 (cntM s).1.toNat).1).length (flat ((lsS (liveM boolS) (cntM s).2 (cntM s).1.toNat).1)))) [.ptr [.str ((lsS (liveM boolS) (cntM s).2 (cntM s).1.toNat).2).t, .int .i64 ((lsS (liveM boolS) (cntM s).2 (cntM s).1.toNat).2).pos, .bool ((lsS (liveM boolS) (cntM s).2 (cntM s).1.toNat).2).bad]] := by
  obtain ⟨N, hN, hN2⟩ := cntM_N s
  have hNt : (cntM s).1.toNat = N := by omega
  rw [hNt]
  refine FnW.of_AW TryzT_ok 1 (fn := Tryz.f132) (by kernel_rfl) rfl (by kernel_rfl) rfl rfl rfl ?_
  refine AW_of h132 TryzT_ok (by kernel_rfl) ?_
  simp -dsimp
  refine ACallW_args (by intro us; simp -dsimp; exact ⟨rfl, rfl, rfl⟩) ?_
  refine ACallC_of (fun us => f133_ok s ht) (by intro us; simp -dsimp; exact ⟨rfl, rfl⟩) ?_
  simp -dsimp [hN]
  refine AWh_loop (fun i : Nat => i ≤ N ∧ ∀ j : Nat, j < i → (lsM (liveM boolS) (cntM s).2 j).2.bad = false) (fun i => mkE [(0, .box 640000 0), (3, .arr 192), (4, .c (.int .i64 N)), (5, .c (.int .i64 i))] [(640000, .box [.c (.str (lsM (liveM boolS) (cntM s).2 i).2.t), .c (.int .i64 (lsM (liveM boolS) (cntM s).2 i).2.pos), .c (.bool (lsM (liveM boolS) (cntM s).2 i).2.bad)]), (192, .arr 0 148 6 (lsM (liveM boolS) (cntM s).2 i).1.length (flat (lsM (liveM boolS) (cntM s).2 i).1))]) (fun i => N - i) 0 (Wk_to [0, 3, 4, 5] [(640000, 640000), (192, 448)] rfl rfl (by simp [lsM])) (by simp) ?_
  rintro i ⟨hi, hall⟩
  have hl := lsM_len (r := (liveM boolS)) (cntM s).2 i
  have he : (lsM (liveM boolS) (cntM s).2 i).2.t = s.t := by rw [lsM_t (liveM_t boolS_t), cntM_t]
  have hp0 : 0 ≤ (lsM (liveM boolS) (cntM s).2 i).2.pos := lsM_pos (liveM_pos fun _ => boolS_pos) (cntM_pos hp) i
  refine AW_of h132 TryzT_ok (by kernel_rfl) ?_
  rcases Nat.lt_or_ge i N with h1 | h1
  · cases hb : (lsM (liveM boolS) (cntM s).2 i).2.bad
    · simp -dsimp [h1, hb]
      refine ACallW_args (by intro us; simp -dsimp; exact ⟨rfl, rfl, rfl⟩) ?_
      have h0 := f179_ok ((lsM (liveM boolS) (cntM s).2 i).2) (by simp only [numM_t, shM_t, dotM_t, boolS_t, flagM_t, he]; exact ht) (by repeat (first | exact hp0 | apply numM_pos | apply shM_pos | apply dotM_pos | apply boolS_pos | apply flagM_pos))
      rw [hb] at h0
      refine ACallC_of (fun us => h0) (by intro us; simp -dsimp; exact ⟨rfl, rfl⟩) ?_
      simp -dsimp [h1, hb]
      refine ACallW_args (by intro us; simp -dsimp; exact ⟨rfl, rfl, rfl⟩) ?_
      refine ACallC_of (fun us => f178_ok ((boolS ((lsM (liveM boolS) (cntM s).2 i).2)).2) (by simp only [numM_t, shM_t, dotM_t, boolS_t, flagM_t, he]; exact ht)) (by intro us; simp -dsimp; exact ⟨rfl, rfl⟩) ?_
      simp -dsimp [h1, hb]
      refine ACallW_args (by intro us; simp -dsimp; exact ⟨rfl, rfl, rfl⟩) ?_
      refine ACallC_of (fun us => f178_ok ((shM ((boolS ((lsM (liveM boolS) (cntM s).2 i).2)).2)).2) (by simp only [numM_t, shM_t, dotM_t, boolS_t, flagM_t, he]; exact ht)) (by intro us; simp -dsimp; exact ⟨rfl, rfl⟩) ?_
      simp -dsimp [h1, hb]
      refine ACallW_args (by intro us; simp -dsimp; exact ⟨rfl, rfl, rfl⟩) ?_
      refine ACallC_of (fun us => f177_ok ((shM ((shM ((boolS ((lsM (liveM boolS) (cntM s).2 i).2)).2)).2)).2) (by simp only [numM_t, shM_t, dotM_t, boolS_t, flagM_t, he]; exact ht)) (by intro us; simp -dsimp; exact ⟨rfl, rfl⟩) ?_
      simp -dsimp [h1, hb]
      refine ACallW_args (by intro us; simp -dsimp; exact ⟨rfl, rfl, rfl⟩) ?_
      refine ACallC_of (fun us => f134_ok ((numM ((shM ((shM ((boolS ((lsM (liveM boolS) (cntM s).2 i).2)).2)).2)).2)).2) (by simp only [numM_t, shM_t, dotM_t, boolS_t, flagM_t, he]; exact ht)) (by intro us; simp -dsimp; exact ⟨rfl, rfl⟩) ?_
      simp -dsimp [h1, hb]
      refine ⟨by simp [capMax]; omega, ?_⟩
      exact Back_of (i + 1) [0, 3, 4, 5] [(640000, 640000), (192, 2560)] rfl rfl (by simp [lsM, talM, liveM, cellM]; rw [wrap64 (by omega) (by omega)]) ⟨by omega, fun j hj => by
        by_cases e : j = i
        · subst e; exact hb
        · exact hall j (by omega)⟩ (by omega)
    · simp -dsimp [h1, hb]
      rw [lsS_stop hall hb N (by omega)]
      refine ⟨⟨rfl, rfl⟩, ?_⟩
      simp [hb]
  · obtain rfl : i = N := by omega
    simp -dsimp
    rw [lsS_eq hall]
    exact ⟨⟨rfl, rfl⟩, rfl, rfl, rfl⟩

@[simp] def h143 : Hts := { merge := fun _ => false, lend := fun f => [.box []] }
set_option maxHeartbeats 2000000 in
theorem f143_ok (s : GScan) (ht : s.t.size ≤ 1073741824) (hp : 0 ≤ s.pos) : FnW Tryz.prog 143 [.ptr [.str (s).t, .int .i64 (s).pos, .bool (s).bad]] (.v (.ow 148 6 ((lsM (liveM flagM) (cntM s).2 (cntM s).1.toNat).1).length (flat ((lsM (liveM flagM) (cntM s).2 (cntM s).1.toNat).1)))) [.ptr [.str ((lsM (liveM flagM) (cntM s).2 (cntM s).1.toNat).2).t, .int .i64 ((lsM (liveM flagM) (cntM s).2 (cntM s).1.toNat).2).pos, .bool ((lsM (liveM flagM) (cntM s).2 (cntM s).1.toNat).2).bad]] := by
  obtain ⟨N, hN, hN2⟩ := cntM_N s
  have hNt : (cntM s).1.toNat = N := by omega
  rw [hNt]
  refine FnW.of_AW TryzT_ok 1 (fn := Tryz.f143) (by kernel_rfl) rfl (by kernel_rfl) rfl rfl rfl ?_
  refine AW_of h143 TryzT_ok (by kernel_rfl) ?_
  simp -dsimp
  refine ACallW_args (by intro us; simp -dsimp; exact ⟨rfl, rfl, rfl⟩) ?_
  refine ACallC_of (fun us => f144_ok s ht) (by intro us; simp -dsimp; exact ⟨rfl, rfl⟩) ?_
  simp -dsimp [hN]
  refine AWh_loop (fun i : Nat => i ≤ N) (fun i => mkE [(0, .box 640000 0), (3, .arr 192), (9, .c (.int .i64 N)), (10, .c (.int .i64 i))] [(640000, .box [.c (.str (lsM (liveM flagM) (cntM s).2 i).2.t), .c (.int .i64 (lsM (liveM flagM) (cntM s).2 i).2.pos), .c (.bool (lsM (liveM flagM) (cntM s).2 i).2.bad)]), (192, .arr 0 148 6 (lsM (liveM flagM) (cntM s).2 i).1.length (flat (lsM (liveM flagM) (cntM s).2 i).1))]) (fun i => N - i) 0 (Wk_to [0, 3, 9, 10] [(640000, 640000), (192, 384)] rfl rfl (by simp [lsM])) (by simp) ?_
  rintro i hi
  have hl := lsM_len (r := (liveM flagM)) (cntM s).2 i
  have he : (lsM (liveM flagM) (cntM s).2 i).2.t = s.t := by rw [lsM_t (liveM_t flagM_t), cntM_t]
  have hp0 : 0 ≤ (lsM (liveM flagM) (cntM s).2 i).2.pos := lsM_pos (liveM_pos fun _ => flagM_pos) (cntM_pos hp) i
  refine AW_of h143 TryzT_ok (by kernel_rfl) ?_
  rcases Nat.lt_or_ge i N with h1 | h1
  · simp -dsimp [h1]
    refine ACallW_args (by intro us; simp -dsimp; exact ⟨rfl, rfl, rfl⟩) ?_
    refine ACallC_of (fun us => f180_ok ((lsM (liveM flagM) (cntM s).2 i).2) (by simp only [numM_t, shM_t, dotM_t, boolS_t, flagM_t, he]; exact ht)) (by intro us; simp -dsimp; exact ⟨rfl, rfl⟩) ?_
    simp -dsimp [h1]
    refine ACallW_args (by intro us; simp -dsimp; exact ⟨rfl, rfl, rfl⟩) ?_
    refine ACallC_of (fun us => f140_ok ((flagM ((lsM (liveM flagM) (cntM s).2 i).2)).2) (by simp only [numM_t, shM_t, dotM_t, boolS_t, flagM_t, he]; exact ht)) (by intro us; simp -dsimp; exact ⟨rfl, rfl⟩) ?_
    simp -dsimp [h1]
    refine ACallW_args (by intro us; simp -dsimp; exact ⟨rfl, rfl, rfl⟩) ?_
    refine ACallC_of (fun us => f140_ok ((shM ((flagM ((lsM (liveM flagM) (cntM s).2 i).2)).2)).2) (by simp only [numM_t, shM_t, dotM_t, boolS_t, flagM_t, he]; exact ht)) (by intro us; simp -dsimp; exact ⟨rfl, rfl⟩) ?_
    simp -dsimp [h1]
    refine ACallW_args (by intro us; simp -dsimp; exact ⟨rfl, rfl, rfl⟩) ?_
    refine ACallC_of (fun us => f138_ok ((shM ((shM ((flagM ((lsM (liveM flagM) (cntM s).2 i).2)).2)).2)).2) (by simp only [numM_t, shM_t, dotM_t, boolS_t, flagM_t, he]; exact ht)) (by intro us; simp -dsimp; exact ⟨rfl, rfl⟩) ?_
    simp -dsimp [h1]
    refine ACallW_args (by intro us; simp -dsimp; exact ⟨rfl, rfl, rfl⟩) ?_
    refine ACallC_of (fun us => f137_ok ((numM ((shM ((shM ((flagM ((lsM (liveM flagM) (cntM s).2 i).2)).2)).2)).2)).2) (by simp only [numM_t, shM_t, dotM_t, boolS_t, flagM_t, he]; exact ht)) (by intro us; simp -dsimp; exact ⟨rfl, rfl⟩) ?_
    simp -dsimp [h1]
    refine ⟨by simp [capMax]; omega, ?_⟩
    exact Back_of (i + 1) [0, 3, 9, 10] [(640000, 640000), (192, 1984)] rfl rfl (by simp [lsM, talM, liveM, cellM]; rw [wrap64 (by omega) (by omega)]) (by omega) (by omega)
  · obtain rfl : i = N := by omega
    simp -dsimp
    try exact ⟨⟨rfl, rfl⟩, rfl, rfl, rfl⟩

@[simp] def h135 : Hts := { merge := fun _ => false, lend := fun f => [.box []] }
set_option maxHeartbeats 2000000 in
theorem f135_ok (s : GScan) (ht : s.t.size ≤ 1073741824) (hp : 0 ≤ s.pos) : FnW Tryz.prog 135 [.ptr [.str (s).t, .int .i64 (s).pos, .bool (s).bad]] (.v (.ow 150 8 ((lsS (cellM boolS) (cntM s).2 (cntM s).1.toNat).1).length (flat ((lsS (cellM boolS) (cntM s).2 (cntM s).1.toNat).1)))) [.ptr [.str ((lsS (cellM boolS) (cntM s).2 (cntM s).1.toNat).2).t, .int .i64 ((lsS (cellM boolS) (cntM s).2 (cntM s).1.toNat).2).pos, .bool ((lsS (cellM boolS) (cntM s).2 (cntM s).1.toNat).2).bad]] := by
  obtain ⟨N, hN, hN2⟩ := cntM_N s
  have hNt : (cntM s).1.toNat = N := by omega
  rw [hNt]
  refine FnW.of_AW TryzT_ok 1 (fn := Tryz.f135) (by kernel_rfl) rfl (by kernel_rfl) rfl rfl rfl ?_
  refine AW_of h135 TryzT_ok (by kernel_rfl) ?_
  simp -dsimp
  refine ACallW_args (by intro us; simp -dsimp; exact ⟨rfl, rfl, rfl⟩) ?_
  refine ACallC_of (fun us => f133_ok s ht) (by intro us; simp -dsimp; exact ⟨rfl, rfl⟩) ?_
  simp -dsimp [hN]
  refine AWh_loop (fun i : Nat => i ≤ N ∧ ∀ j : Nat, j < i → (lsM (cellM boolS) (cntM s).2 j).2.bad = false) (fun i => mkE [(0, .box 640000 0), (3, .arr 192), (4, .c (.int .i64 N)), (5, .c (.int .i64 i))] [(640000, .box [.c (.str (lsM (cellM boolS) (cntM s).2 i).2.t), .c (.int .i64 (lsM (cellM boolS) (cntM s).2 i).2.pos), .c (.bool (lsM (cellM boolS) (cntM s).2 i).2.bad)]), (192, .arr 0 150 8 (lsM (cellM boolS) (cntM s).2 i).1.length (flat (lsM (cellM boolS) (cntM s).2 i).1))]) (fun i => N - i) 0 (Wk_to [0, 3, 4, 5] [(640000, 640000), (192, 448)] rfl rfl (by simp [lsM])) (by simp) ?_
  rintro i ⟨hi, hall⟩
  have hl := lsM_len (r := (cellM boolS)) (cntM s).2 i
  have he : (lsM (cellM boolS) (cntM s).2 i).2.t = s.t := by rw [lsM_t (cellM_t boolS_t), cntM_t]
  have hp0 : 0 ≤ (lsM (cellM boolS) (cntM s).2 i).2.pos := lsM_pos (cellM_pos fun _ => boolS_pos) (cntM_pos hp) i
  refine AW_of h135 TryzT_ok (by kernel_rfl) ?_
  rcases Nat.lt_or_ge i N with h1 | h1
  · cases hb : (lsM (cellM boolS) (cntM s).2 i).2.bad
    · simp -dsimp [h1, hb]
      refine ACallW_args (by intro us; simp -dsimp; exact ⟨rfl, rfl, rfl⟩) ?_
      have h0 := f178_ok ((lsM (cellM boolS) (cntM s).2 i).2) (by simp only [numM_t, shM_t, dotM_t, boolS_t, flagM_t, he]; exact ht)
      rw [hb] at h0
      refine ACallC_of (fun us => h0) (by intro us; simp -dsimp; exact ⟨rfl, rfl⟩) ?_
      simp -dsimp [h1, hb]
      refine ACallW_args (by intro us; simp -dsimp; exact ⟨rfl, rfl, rfl⟩) ?_
      refine ACallC_of (fun us => f134_ok ((shM ((lsM (cellM boolS) (cntM s).2 i).2)).2) (by simp only [numM_t, shM_t, dotM_t, boolS_t, flagM_t, he]; exact ht)) (by intro us; simp -dsimp; exact ⟨rfl, rfl⟩) ?_
      simp -dsimp [h1, hb]
      refine ACallW_args (by intro us; simp -dsimp; exact ⟨rfl, rfl, rfl⟩) ?_
      refine ACallC_of (fun us => f177_ok ((dotM ((shM ((lsM (cellM boolS) (cntM s).2 i).2)).2)).2) (by simp only [numM_t, shM_t, dotM_t, boolS_t, flagM_t, he]; exact ht)) (by intro us; simp -dsimp; exact ⟨rfl, rfl⟩) ?_
      simp -dsimp [h1, hb]
      refine ACallW_args (by intro us; simp -dsimp; exact ⟨rfl, rfl, rfl⟩) ?_
      refine ACallC_of (fun us => f134_ok ((numM ((dotM ((shM ((lsM (cellM boolS) (cntM s).2 i).2)).2)).2)).2) (by simp only [numM_t, shM_t, dotM_t, boolS_t, flagM_t, he]; exact ht)) (by intro us; simp -dsimp; exact ⟨rfl, rfl⟩) ?_
      simp -dsimp [h1, hb]
      refine ACallW_args (by intro us; simp -dsimp; exact ⟨rfl, rfl, rfl⟩) ?_
      refine ACallC_of (fun us => f177_ok ((dotM ((numM ((dotM ((shM ((lsM (cellM boolS) (cntM s).2 i).2)).2)).2)).2)).2) (by simp only [numM_t, shM_t, dotM_t, boolS_t, flagM_t, he]; exact ht)) (by intro us; simp -dsimp; exact ⟨rfl, rfl⟩) ?_
      simp -dsimp [h1, hb]
      refine ACallW_args (by intro us; simp -dsimp; exact ⟨rfl, rfl, rfl⟩) ?_
      refine ACallC_of (fun us => f179_ok ((numM ((dotM ((numM ((dotM ((shM ((lsM (cellM boolS) (cntM s).2 i).2)).2)).2)).2)).2)).2) (by simp only [numM_t, shM_t, dotM_t, boolS_t, flagM_t, he]; exact ht) (by repeat (first | exact hp0 | apply numM_pos | apply shM_pos | apply dotM_pos | apply boolS_pos | apply flagM_pos))) (by intro us; simp -dsimp; exact ⟨rfl, rfl⟩) ?_
      simp -dsimp [h1, hb]
      refine ⟨by simp [capMax]; omega, ?_⟩
      exact Back_of (i + 1) [0, 3, 4, 5] [(640000, 640000), (192, 2752)] rfl rfl (by simp [lsM, talM, liveM, cellM]; rw [wrap64 (by omega) (by omega)]) ⟨by omega, fun j hj => by
        by_cases e : j = i
        · subst e; exact hb
        · exact hall j (by omega)⟩ (by omega)
    · simp -dsimp [h1, hb]
      rw [lsS_stop hall hb N (by omega)]
      refine ⟨⟨rfl, rfl⟩, ?_⟩
      simp [hb]
  · obtain rfl : i = N := by omega
    simp -dsimp
    rw [lsS_eq hall]
    exact ⟨⟨rfl, rfl⟩, rfl, rfl, rfl⟩

@[simp] def h145 : Hts := { merge := fun _ => false, lend := fun f => [.box []] }
set_option maxHeartbeats 2000000 in
theorem f145_ok (s : GScan) (ht : s.t.size ≤ 1073741824) (hp : 0 ≤ s.pos) : FnW Tryz.prog 145 [.ptr [.str (s).t, .int .i64 (s).pos, .bool (s).bad]] (.v (.ow 150 8 ((lsM (cellM flagM) (cntM s).2 (cntM s).1.toNat).1).length (flat ((lsM (cellM flagM) (cntM s).2 (cntM s).1.toNat).1)))) [.ptr [.str ((lsM (cellM flagM) (cntM s).2 (cntM s).1.toNat).2).t, .int .i64 ((lsM (cellM flagM) (cntM s).2 (cntM s).1.toNat).2).pos, .bool ((lsM (cellM flagM) (cntM s).2 (cntM s).1.toNat).2).bad]] := by
  obtain ⟨N, hN, hN2⟩ := cntM_N s
  have hNt : (cntM s).1.toNat = N := by omega
  rw [hNt]
  refine FnW.of_AW TryzT_ok 1 (fn := Tryz.f145) (by kernel_rfl) rfl (by kernel_rfl) rfl rfl rfl ?_
  refine AW_of h145 TryzT_ok (by kernel_rfl) ?_
  simp -dsimp
  refine ACallW_args (by intro us; simp -dsimp; exact ⟨rfl, rfl, rfl⟩) ?_
  refine ACallC_of (fun us => f144_ok s ht) (by intro us; simp -dsimp; exact ⟨rfl, rfl⟩) ?_
  simp -dsimp [hN]
  refine AWh_loop (fun i : Nat => i ≤ N) (fun i => mkE [(0, .box 640000 0), (3, .arr 192), (9, .c (.int .i64 N)), (10, .c (.int .i64 i))] [(640000, .box [.c (.str (lsM (cellM flagM) (cntM s).2 i).2.t), .c (.int .i64 (lsM (cellM flagM) (cntM s).2 i).2.pos), .c (.bool (lsM (cellM flagM) (cntM s).2 i).2.bad)]), (192, .arr 0 150 8 (lsM (cellM flagM) (cntM s).2 i).1.length (flat (lsM (cellM flagM) (cntM s).2 i).1))]) (fun i => N - i) 0 (Wk_to [0, 3, 9, 10] [(640000, 640000), (192, 384)] rfl rfl (by simp [lsM])) (by simp) ?_
  rintro i hi
  have hl := lsM_len (r := (cellM flagM)) (cntM s).2 i
  have he : (lsM (cellM flagM) (cntM s).2 i).2.t = s.t := by rw [lsM_t (cellM_t flagM_t), cntM_t]
  have hp0 : 0 ≤ (lsM (cellM flagM) (cntM s).2 i).2.pos := lsM_pos (cellM_pos fun _ => flagM_pos) (cntM_pos hp) i
  refine AW_of h145 TryzT_ok (by kernel_rfl) ?_
  rcases Nat.lt_or_ge i N with h1 | h1
  · simp -dsimp [h1]
    refine ACallW_args (by intro us; simp -dsimp; exact ⟨rfl, rfl, rfl⟩) ?_
    refine ACallC_of (fun us => f140_ok ((lsM (cellM flagM) (cntM s).2 i).2) (by simp only [numM_t, shM_t, dotM_t, boolS_t, flagM_t, he]; exact ht)) (by intro us; simp -dsimp; exact ⟨rfl, rfl⟩) ?_
    simp -dsimp [h1]
    refine ACallW_args (by intro us; simp -dsimp; exact ⟨rfl, rfl, rfl⟩) ?_
    refine ACallC_of (fun us => f137_ok ((shM ((lsM (cellM flagM) (cntM s).2 i).2)).2) (by simp only [numM_t, shM_t, dotM_t, boolS_t, flagM_t, he]; exact ht)) (by intro us; simp -dsimp; exact ⟨rfl, rfl⟩) ?_
    simp -dsimp [h1]
    refine ACallW_args (by intro us; simp -dsimp; exact ⟨rfl, rfl, rfl⟩) ?_
    refine ACallC_of (fun us => f138_ok ((dotM ((shM ((lsM (cellM flagM) (cntM s).2 i).2)).2)).2) (by simp only [numM_t, shM_t, dotM_t, boolS_t, flagM_t, he]; exact ht)) (by intro us; simp -dsimp; exact ⟨rfl, rfl⟩) ?_
    simp -dsimp [h1]
    refine ACallW_args (by intro us; simp -dsimp; exact ⟨rfl, rfl, rfl⟩) ?_
    refine ACallC_of (fun us => f137_ok ((numM ((dotM ((shM ((lsM (cellM flagM) (cntM s).2 i).2)).2)).2)).2) (by simp only [numM_t, shM_t, dotM_t, boolS_t, flagM_t, he]; exact ht)) (by intro us; simp -dsimp; exact ⟨rfl, rfl⟩) ?_
    simp -dsimp [h1]
    refine ACallW_args (by intro us; simp -dsimp; exact ⟨rfl, rfl, rfl⟩) ?_
    refine ACallC_of (fun us => f138_ok ((dotM ((numM ((dotM ((shM ((lsM (cellM flagM) (cntM s).2 i).2)).2)).2)).2)).2) (by simp only [numM_t, shM_t, dotM_t, boolS_t, flagM_t, he]; exact ht)) (by intro us; simp -dsimp; exact ⟨rfl, rfl⟩) ?_
    simp -dsimp [h1]
    refine ACallW_args (by intro us; simp -dsimp; exact ⟨rfl, rfl, rfl⟩) ?_
    refine ACallC_of (fun us => f180_ok ((numM ((dotM ((numM ((dotM ((shM ((lsM (cellM flagM) (cntM s).2 i).2)).2)).2)).2)).2)).2) (by simp only [numM_t, shM_t, dotM_t, boolS_t, flagM_t, he]; exact ht)) (by intro us; simp -dsimp; exact ⟨rfl, rfl⟩) ?_
    simp -dsimp [h1]
    refine ⟨by simp [capMax]; omega, ?_⟩
    exact Back_of (i + 1) [0, 3, 9, 10] [(640000, 640000), (192, 2176)] rfl rfl (by simp [lsM, talM, liveM, cellM]; rw [wrap64 (by omega) (by omega)]) (by omega) (by omega)
  · obtain rfl : i = N := by omega
    simp -dsimp
    try exact ⟨⟨rfl, rfl⟩, rfl, rfl, rfl⟩
end Am
