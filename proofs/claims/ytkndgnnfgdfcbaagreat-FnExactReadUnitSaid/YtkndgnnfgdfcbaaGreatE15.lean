/- The text of what changed, of both. No condition. -/
import Derived.Test.YtkndgnnfgdfcbaaGreatT
import Derived.Test.YtkndgnnfgdfcbaaGreatD
import Derived.Test.YtkndgnnfgdfcbaaGreatE14
import Derived.Test.YtkndgnnfgdfcbaaGreatAm31
namespace Am
open Go Go.Proofs
open Cel (cells)
set_option maxRecDepth 100000
set_option linter.unusedSimpArgs false
set_option linter.unusedVariables false

theorem nameOk_size {s : ByteArray} (h : nameOk s = true) : s.size ≤ 8 := by
  simp [nameOk, spIn] at h; omega
theorem spIn_num {x lo hi : Int} (h : spIn x lo hi = true) (h1 : 0 ≤ lo) (h2 : hi ≤ 1000000000) : numOk x := by
  simp [spIn] at h; exact ⟨by omega, by omega⟩
theorem knowOk_facts {k : List Int} (h : knowOk k = true) : k.length = 3 ∧ ∀ i : Nat, i < k.length → numOk (nth k i) := by
  simp [knowOk] at h
  exact ⟨h.1, fun i hi => ⟨(h.2 i hi).1, by have := (h.2 i hi).2; omega⟩⟩
theorem dotOk_R {d : GDot} (h : dotOk d = true) : dotR d := by
  simp [dotOk] at h
  exact ⟨spIn_num h.1 (by decide) (by decide), spIn_num h.2 (by decide) (by decide)⟩
theorem knows_R {k : List Int} {d : GDot} (h : knows k d = true) : dotR d := by
  simp [knows] at h
  exact dotOk_R h.1.2
theorem talliesOk_facts {l : List GTally} (h : talliesOk l = true) : l.length ≤ 120 ∧ ∀ i : Nat, i < l.length → talR (nth l i) := by
  simp only [talliesOk, Bool.and_eq_true, decide_eq_true_eq, allB_iff, talAt, tallyOk] at h
  exact ⟨h.1, fun i hi => ⟨nameOk_size (h.2 i hi).1.1.1, spIn_num (h.2 i hi).1.1.2 (by decide) (by decide), spIn_num (h.2 i hi).1.2 (by decide) (by decide)⟩⟩
theorem livKsOk_facts {l : List GLive} {k : List Int} (h : livKsOk l k = true) : l.length ≤ 120 ∧ ∀ i : Nat, i < l.length → liveR (nth l i) := by
  simp only [livKsOk, Bool.and_eq_true, decide_eq_true_eq, allB_iff, livKAt, liveOk] at h
  exact ⟨h.1, fun i hi => ⟨nameOk_size (h.2 i hi).1.2.1.1.1, nameOk_size (h.2 i hi).1.2.1.1.2, spIn_num (h.2 i hi).1.2.1.2 (by decide) (by decide), knows_R (h.2 i hi).1.1⟩⟩
theorem celKsOk_facts {l : List GCell} {k : List Int} (h : celKsOk l k = true) (hr : ∀ i : Nat, i < l.length → dotR (nth l i).ref) : l.length ≤ 120 ∧ ∀ i : Nat, i < l.length → cellR (nth l i) := by
  simp only [celKsOk, Bool.and_eq_true, decide_eq_true_eq, allB_iff, celKAt, cellOk'] at h
  exact ⟨h.1, fun i hi => ⟨nameOk_size (h.2 i hi).1.2.1.1, knows_R (h.2 i hi).1.1, spIn_num (h.2 i hi).1.2.1.2 (by decide) (by decide), hr i hi, spIn_num (h.2 i hi).1.2.2 (by decide) (by decide)⟩⟩
theorem refZ_R {d : GDot} (h : (d.rep == 0 && d.seq == 0 || dotOk d) = true) : dotR d := by
  simp only [Bool.or_eq_true, Bool.and_eq_true, beq_iff_eq] at h
  rcases h with h | h
  · exact ⟨by rw [h.1]; exact ⟨by decide, by decide⟩, by rw [h.2]; exact ⟨by decide, by decide⟩⟩
  · exact dotOk_R h

theorem deltaOk_facts {d : GDelta} (h : deltaOk d = true) :
    (d.base.length = 3 ∧ ∀ i : Nat, i < d.base.length → numOk (nth d.base i)) ∧ (d.know.length = 3 ∧ ∀ i : Nat, i < d.know.length → numOk (nth d.know i)) ∧
    (d.tallies.length ≤ 120 ∧ ∀ i : Nat, i < d.tallies.length → talR (nth d.tallies i)) ∧ (d.lives.length ≤ 120 ∧ ∀ i : Nat, i < d.lives.length → liveR (nth d.lives i)) ∧
    (d.dead.length ≤ 120 ∧ ∀ i : Nat, i < d.dead.length → dotR (nth d.dead i)) ∧ (d.cs.length ≤ 120 ∧ ∀ i : Nat, i < d.cs.length → cellR (nth d.cs i)) := by
  simp only [deltaOk, Bool.and_eq_true, decide_eq_true_eq] at h
  obtain ⟨⟨⟨⟨⟨⟨⟨h1, h2⟩, h3⟩, h4⟩, h5⟩, h6⟩, h7⟩, h8⟩ := h
  simp only [knowIn, Bool.and_eq_true] at h1
  rw [allB_iff] at h7 h8
  refine ⟨knowOk_facts h1.1.1, knowOk_facts h1.1.2, talliesOk_facts h2, livKsOk_facts h3, ⟨h5, fun i hi => ?_⟩, celKsOk_facts h4 fun i hi => refZ_R (h8 i hi)⟩
  have := h7 i hi
  simp only [eDead, Bool.and_eq_true] at this
  exact knows_R this.1
theorem varsS_size {xs : List Int} (hx : ∀ i : Nat, i < xs.length → numOk (nth xs i)) : (varsS xs).size ≤ xs.length * 5 := catN_size fun i hi => varS_five (hx i hi).2
theorem talsS_size {l : List GTally} (h : l.length ≤ 120 ∧ ∀ i : Nat, i < l.length → talR (nth l i)) : (talsS l).size ≤ 12005 := by
  have h1 := catN_size (f := talF l) (b := 100) fun i hi => talS_size (h.2 i hi)
  have hv : (varS l.length).size ≤ 5 := varS_five (by omega)
  rw [talsS, ByteArray.size_append]; omega
theorem livesS_size {l : List GLive} (h : l.length ≤ 120 ∧ ∀ i : Nat, i < l.length → liveR (nth l i)) : (livesS l).size ≤ 12005 := by
  have h1 := catN_size (f := liveF l) (b := 100) fun i hi => liveS_size (h.2 i hi)
  have hv : (varS l.length).size ≤ 5 := varS_five (by omega)
  rw [livesS, ByteArray.size_append]; omega
theorem cellsS_size {l : List GCell} (h : l.length ≤ 120 ∧ ∀ i : Nat, i < l.length → cellR (nth l i)) : (cellsS l).size ≤ 12005 := by
  have h1 := catN_size (f := cellF l) (b := 100) fun i hi => cellS_size (h.2 i hi)
  have hv : (varS l.length).size ≤ 5 := varS_five (by omega)
  rw [cellsS, ByteArray.size_append]; omega
theorem dotsS_size {l : List GDot} (h : l.length ≤ 120 ∧ ∀ i : Nat, i < l.length → dotR (nth l i)) : (dotsS l).size ≤ 12005 := by
  have h1 := catN_size (f := dotF l) (b := 100) fun i hi => Nat.le_trans (dotS_size (h.2 i hi)) (by decide)
  have hv : (varS l.length).size ≤ 5 := varS_five (by omega)
  rw [dotsS, ByteArray.size_append]; omega

def deltaS (d : GDelta) : ByteArray := varsS d.base ++ (varsS d.know ++ (talsS d.tallies ++ (livesS d.lives ++ (dotsS d.dead ++ cellsS d.cs))))
def deltaText (d : GDelta) : ByteArray := if deltaOk d = true then sealS (deltaS d) else ⟨#[]⟩
def deltaTextOk (d : GDelta) : Bool := deltaOk d && sealOk (deltaS d)

@[simp] def h30 : Hts := { dr := fun id => if id = 3 then [{}, {}, { cr := true }, { mb := [11] }, { mb := [11] }, { cr := true }, { mb := [18, 22, 27] }, { mb := [11, 14] }, { mb := [11, 14] }, { cr := true }, { mb := [22, 27] }, { mb := [11, 14, 18] }, { mb := [11, 14, 18] }, { cr := true }, { mb := [27] }, { mb := [11, 14, 18, 22] }, { mb := [11, 14, 18, 22] }, { mb := [11, 14, 18, 22] }, { cr := true }, {}, {}] else [] }
set_option maxHeartbeats 2000000 in
theorem f30_ok (d : GDelta) (hd : d.Ok) : FnR Tryz.prog 30 [.agg [.im d.base.length (flat d.base), .im d.know.length (flat d.know), .im d.tallies.length (flat d.tallies), .im d.lives.length (flat d.lives), .im d.dead.length (flat d.dead), .im d.cs.length (flat d.cs)]] (.tup [.v (.str (deltaText d)), .v (.bool (deltaTextOk d))]) := by
  refine FnW.of_AW TryzT_ok 0 (fn := Tryz.f30) (by kernel_rfl) rfl (by kernel_rfl) rfl rfl rfl ?_
  refine AW_of h30 TryzT_ok (by kernel_rfl) ?_
  simp -dsimp
  refine ACallK_of (f84_ok _ hd) ?_
  rw [deltaOkS_eq]
  cases hk : deltaOk d
  · simp -dsimp
    simp [deltaText, deltaTextOk, hk]
  · simp -dsimp
    obtain ⟨⟨b0, b1⟩, ⟨k0, k1⟩, t, l, e, c⟩ := deltaOk_facts hk
    have z1 := varsS_size b1
    have z2 := varsS_size k1
    have z3 := talsS_size t
    have z4 := livesS_size l
    have z6 := cellsS_size c
    have zv : (varS d.dead.length).size ≤ 5 := varS_five (by omega)
    have ze := catN_size (f := dotF d.dead) (b := 100) fun i hi => Nat.le_trans (dotS_size (e.2 i hi)) (by decide)
    refine ACallK_of (f88_ok _ (by omega) b1) ?_
    simp -dsimp
    repeat (first | refine ⟨by omega, ?_⟩ | refine ⟨by simp [capMax, ByteArray.size_append]; omega, ?_⟩)
    refine ACallK_of (f88_ok _ (by omega) k1) ?_
    simp -dsimp
    repeat (first | refine ⟨by omega, ?_⟩ | refine ⟨by simp [capMax, ByteArray.size_append]; omega, ?_⟩)
    refine ACallK_of (f89_ok _ t.1 t.2) ?_
    simp -dsimp
    repeat (first | refine ⟨by omega, ?_⟩ | refine ⟨by simp [capMax, ByteArray.size_append]; omega, ?_⟩)
    refine ACallK_of (f90_ok _ l.1 l.2) ?_
    simp -dsimp
    repeat (first | refine ⟨by omega, ?_⟩ | refine ⟨by simp [capMax, ByteArray.size_append]; omega, ?_⟩)
    refine ACallK_of (f91_ok _ (by omega) (by omega)) ?_
    simp -dsimp
    repeat (first | refine ⟨by omega, ?_⟩ | refine ⟨by simp [capMax, ByteArray.size_append]; omega, ?_⟩)
    refine AWh_loop (fun i : Nat => i ≤ d.dead.length) (fun i => mkE [(1, .box 64 0), (4, .c (.str (varsS d.base ++ varsS d.know ++ talsS d.tallies ++ livesS d.lives ++ varS d.dead.length ++ catN (dotF d.dead) i))), (5, .c (.int .i64 i))] [(64, .box [.c (.im d.base.length (flat d.base)), .c (.im d.know.length (flat d.know)), .c (.im d.tallies.length (flat d.tallies)), .c (.im d.lives.length (flat d.lives)), .c (.im d.dead.length (flat d.dead)), .c (.im d.cs.length (flat d.cs))])]) (fun i => d.dead.length - i) 0 (Wk_to [1, 4, 5] [(64, 64)] rfl rfl (by simp [catN, app_nil])) (by simp) ?_
    rintro i hi
    have hs : (catN (dotF d.dead) i).size ≤ i * 100 := catN_size fun j hj => Nat.le_trans (dotS_size (e.2 j (by omega))) (by decide)
    refine AW_of h30 TryzT_ok (by kernel_rfl) ?_
    rcases Nat.lt_or_ge i d.dead.length with h1 | h1
    · have hr := e.2 i h1
      have q1 := dotS_size hr
      simp -dsimp [h1, ne_of_lt h1]
      repeat (first | refine ⟨by omega, ?_⟩ | refine ⟨by simp [capMax, ByteArray.size_append]; omega, ?_⟩)
      refine ACallK_of (f92_ok _ hr.1 hr.2) ?_
      simp -dsimp [h1, ne_of_lt h1]
      repeat (first | refine ⟨by omega, ?_⟩ | refine ⟨by simp [capMax, ByteArray.size_append]; omega, ?_⟩)
      exact Back_of (i + 1) [1, 4, 5] [(64, 64)] rfl rfl (by simp [catN, dotF, app_assoc]; rw [wrap64 (by omega) (by omega)]) (by omega) (by omega)
    · obtain rfl : i = d.dead.length := by omega
      simp -dsimp
      refine ACallK_of (f93_ok _ c.1 c.2) ?_
      simp -dsimp
      repeat (first | refine ⟨by omega, ?_⟩ | refine ⟨by simp [capMax, ByteArray.size_append]; omega, ?_⟩)
      refine ACallK_of (f31_ok _ (by simp [ByteArray.size_append]; omega)) ?_
      simp -dsimp
      simp [deltaText, deltaTextOk, hk, deltaS, dotsS, app_assoc]

@[simp] def h39 : Hts := { dr := fun id => if id = 9 then [{}, {}, { cr := true }, { mb := [29] }, { mb := [29] }, { cr := true }, { mb := [36, 40, 46] }, { mb := [29, 32] }, { mb := [29, 32] }, { cr := true }, { mb := [40, 46] }, { mb := [29, 32, 36] }, { mb := [29, 32, 36] }, { cr := true }, { mb := [46] }, { mb := [29, 32, 36, 40, 46] }, { mb := [46] }, { mb := [29, 32, 36, 40] }, { mb := [29, 32, 36, 40] }, { cr := true }, {}, { cr := true }, {}, {}, {}, {}] else [] }
set_option maxHeartbeats 2000000 in
theorem f39_ok (d : GDelta) (hd : d.Ok) : FnR Tryz.prog 39 [.agg [.im d.base.length (flat d.base), .im d.know.length (flat d.know), .im d.tallies.length (flat d.tallies), .im d.lives.length (flat d.lives), .im d.dead.length (flat d.dead), .im d.cs.length (flat d.cs)]] (.tup [.v (.str (deltaText d)), .v (.bool (deltaTextOk d))]) := by
  refine FnW.of_AW TryzT_ok 0 (fn := Tryz.f39) (by kernel_rfl) rfl (by kernel_rfl) rfl rfl rfl ?_
  refine AW_of h39 TryzT_ok (by kernel_rfl) ?_
  simp -dsimp
  refine ACallK_of (f101_ok _ hd) ?_
  cases hk : deltaOk d
  · simp -dsimp
    simp [deltaText, deltaTextOk, hk]
  · simp -dsimp
    obtain ⟨⟨b0, b1⟩, ⟨k0, k1⟩, t, l, e, c⟩ := deltaOk_facts hk
    have z1 := varsS_size b1
    have z2 := varsS_size k1
    have z3 := talsS_size t
    have z4 := livesS_size l
    have z6 := cellsS_size c
    have zv : (varS d.dead.length).size ≤ 5 := varS_five (by omega)
    have ze := catN_size (f := dotF d.dead) (b := 100) fun i hi => Nat.le_trans (dotS_size (e.2 i hi)) (by decide)
    refine ACallK_of (f105_ok [(d.dead.length : Int)] (by simp) (by intro i hi; match i, hi with | 0, _ => exact ⟨show (0 : Int) ≤ d.dead.length by omega, show (d.dead.length : Int) ≤ 1000000000 by omega⟩)) ?_
    simp -dsimp [varsS_one]
    refine AWh_loop (fun i : Nat => i ≤ d.dead.length) (fun i => mkE [(1, .box 64 0), (4, .c (.str (varS d.dead.length ++ catN (dotF d.dead) i))), (16, .c (.im d.dead.length (flat d.dead))), (17, .c (.int .i64 d.dead.length)), (18, .c (.int .i64 i))] [(64, .box [.c (.im d.base.length (flat d.base)), .c (.im d.know.length (flat d.know)), .c (.im d.tallies.length (flat d.tallies)), .c (.im d.lives.length (flat d.lives)), .c (.im d.dead.length (flat d.dead)), .c (.im d.cs.length (flat d.cs))])]) (fun i => d.dead.length - i) 0 (Wk_to [1, 4, 16, 17, 18] [(64, 64)] rfl rfl (by simp [catN, app_nil])) (by simp) ?_
    rintro i hi
    have hs : (catN (dotF d.dead) i).size ≤ i * 100 := catN_size fun j hj => Nat.le_trans (dotS_size (e.2 j (by omega))) (by decide)
    refine AW_of h39 TryzT_ok (by kernel_rfl) ?_
    rcases Nat.lt_or_ge i d.dead.length with h1 | h1
    · have hr := e.2 i h1
      have q1 := dotS_size hr
      simp -dsimp [h1, ne_of_lt h1]
      repeat (first | refine ⟨by omega, ?_⟩ | refine ⟨by simp [capMax, ByteArray.size_append]; omega, ?_⟩)
      refine ACallK_of (f109_ok _ hr.1 hr.2) ?_
      simp -dsimp [h1, ne_of_lt h1]
      repeat (first | refine ⟨by omega, ?_⟩ | refine ⟨by simp [capMax, ByteArray.size_append]; omega, ?_⟩)
      exact Back_of (i + 1) [1, 4, 16, 17, 18] [(64, 64)] rfl rfl (by simp [catN, dotF, app_assoc]; rw [wrap64 (by omega) (by omega)]) (by omega) (by omega)
    · obtain rfl : i = d.dead.length := by omega
      simp -dsimp
      refine ACallK_of (f105_ok _ (by omega) b1) ?_
      simp -dsimp
      repeat (first | refine ⟨by omega, ?_⟩ | refine ⟨by simp [capMax, ByteArray.size_append]; omega, ?_⟩)
      refine ACallK_of (f105_ok _ (by omega) k1) ?_
      simp -dsimp
      repeat (first | refine ⟨by omega, ?_⟩ | refine ⟨by simp [capMax, ByteArray.size_append]; omega, ?_⟩)
      refine ACallK_of (f110_ok _ t.1 t.2) ?_
      simp -dsimp
      repeat (first | refine ⟨by omega, ?_⟩ | refine ⟨by simp [capMax, ByteArray.size_append]; omega, ?_⟩)
      refine ACallK_of (f111_ok _ l.1 l.2) ?_
      simp -dsimp
      repeat (first | refine ⟨by omega, ?_⟩ | refine ⟨by simp [capMax, ByteArray.size_append]; omega, ?_⟩)
      refine ACallK_of (f112_ok _ c.1 c.2) ?_
      simp -dsimp
      repeat (first | refine ⟨by omega, ?_⟩ | refine ⟨by simp [capMax, ByteArray.size_append]; omega, ?_⟩)
      refine ACallK_of (f38_ok _ (by simp [ByteArray.size_append]; omega)) ?_
      simp -dsimp
      simp [deltaText, deltaTextOk, hk, deltaS, dotsS, app_assoc]
end Am
