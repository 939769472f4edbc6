/- LackOf: the law. No condition. -/
import Derived.Test.YtkndgnnfgdfcbaaGreatT
import Derived.Test.YtkndgnnfgdfcbaaGreatF1
import Derived.Test.YtkndgnnfgdfcbaaGreatF2
import Derived.Test.YtkndgnnfgdfcbaaGreatE26
namespace Am
open Go Go.Proofs
set_option linter.unusedSimpArgs false
set_option linter.unusedVariables false

theorem mkS_ub {α : Type} {f : α → Int → α × Int} {c : Int} (hf : ∀ x k, (f x k).2 ≤ k + c) : ∀ (xs : List α) (k : Int), (mkS f xs k).2 ≤ k + xs.length * c
  | [], k => by simp [mkS]
  | x :: xs, k => by
    have h1 := hf x k
    have h2 := mkS_ub hf xs (f x k).2
    simp only [mkS, List.length_cons]
    push_cast
    rw [Int.add_mul]
    omega
theorem GAct.mt_ub (a : GAct) (h : a.Ok) (k : Int) : (a.mt k).2 ≤ k + 2000000000 := by
  simp only [GAct.Ok] at h
  have u1 := mkS_ub (f := mkInt) (c := 1) (fun x k => by simp [mkInt]) a.knew k
  simp only [GAct.mt]
  omega
theorem GDelta.mt_ub (s : GDelta) (h : s.Ok) (k : Int) : (s.mt k).2 ≤ k + 30000000000 := by
  simp only [GDelta.Ok] at h
  obtain ⟨o0, o1, o2, _, o4, _, o6, o7, _⟩ := h
  have u0 := mkS_ub (f := mkInt) (c := 1) (fun x k => by simp [mkInt]) s.base k
  have u1 := mkS_ub (f := mkInt) (c := 1) (fun x k => by simp [mkInt]) s.know (mkS mkInt s.base k).2
  have u2 := mkS_ub (f := GTally.mar) (c := 3) (fun x k => by simp [GTally.mar]; omega) s.tallies (mkS mkInt s.know (mkS mkInt s.base k).2).2
  have u3 := mkS_ub (f := GLive.mar) (c := 6) (fun x k => by simp [GLive.mar]; omega) s.lives (mkS GTally.mar s.tallies (mkS mkInt s.know (mkS mkInt s.base k).2).2).2
  have u4 := mkS_ub (f := GDot.mar) (c := 2) (fun x k => by simp [GDot.mar]; omega) s.dead (mkS GLive.mar s.lives (mkS GTally.mar s.tallies (mkS mkInt s.know (mkS mkInt s.base k).2).2).2).2
  have u5 := mkS_ub (f := GCell.mar) (c := 8) (fun x k => by simp [GCell.mar]; omega) s.cs (mkS GDot.mar s.dead (mkS GLive.mar s.lives (mkS GTally.mar s.tallies (mkS mkInt s.know (mkS mkInt s.base k).2).2).2).2).2
  simp only [GDelta.mt]
  omega
theorem GUnit.mt_ub (u : GUnit) (h : u.Ok) (k : Int) : (u.mt k).2 ≤ k + 40000000000 := by
  simp only [GUnit.Ok] at h
  have u1 := GAct.mt_ub u.act h.1 k
  have u2 := GDelta.mt_ub u.delta h.2 (u.act.mt k).2
  simp only [GUnit.mt]
  omega

theorem GAct.mar_ub (a : GAct) (h : a.knew.length ≤ 1073741824) (k : Int) : (a.mar k).2 ≤ k + 2000000000 := by
  have u1 := mkS_ub (f := mkInt) (c := 1) (fun x k => by simp [mkInt]) a.knew (k + 1 + 1 + 1)
  simp only [GAct.mar]
  omega
theorem GDelta.mar_ub (s : GDelta) (h : s.Ok) (k : Int) : (s.mar k).2 ≤ k + 30000000000 := by
  have := GDelta.mt_ub s h k
  simp only [GDelta.mt] at this
  simp only [GDelta.mar]
  exact this
def GUnit.Fine (u : GUnit) : Prop := u.act.knew.length ≤ 1048576 ∧ u.delta.base.length ≤ 1048576 ∧ u.delta.know.length ≤ 1048576 ∧ u.delta.tallies.length ≤ 1048576 ∧ u.delta.lives.length ≤ 1048576 ∧ u.delta.dead.length ≤ 1048576 ∧ u.delta.cs.length ≤ 1048576
theorem GUnit.sz_fine {x : GUnit} {l : Int} (h0 : 0 ≤ l) (h1 : l ≤ 1048576) (h : 0 ≤ x.sz l) : x.Fine := by
  unfold GUnit.sz at h
  obtain ⟨p0, h⟩ := szq_pos h
  obtain ⟨p1, h⟩ := szq_pos h
  have q0 := GAct.sz_le x.act _ h0
  have a0 := p0
  unfold GAct.sz at a0
  obtain ⟨a0, _⟩ := szq_pos a0
  have b0 := szLen_len a0
  have ra := szLen_le x.act.knew _ h0
  unfold GDelta.sz at p1
  obtain ⟨d0, p1⟩ := szq_pos p1
  obtain ⟨d1, p1⟩ := szq_pos p1
  obtain ⟨d2, p1⟩ := szq_pos p1
  obtain ⟨d3, p1⟩ := szq_pos p1
  obtain ⟨d4, p1⟩ := szq_pos p1
  obtain ⟨d5, p1⟩ := szq_pos p1
  have e0 := szLen_le x.delta.base _ p0
  have c0 := szLen_len d0
  have e1 := szLen_le x.delta.know _ d0
  have c1 := szLen_len d1
  have e2 := szS_le GTally.sz_le x.delta.tallies _ d1
  have c2 := szS_len d2
  have e3 := szS_le GLive.sz_le x.delta.lives _ d2
  have c3 := szS_len d3
  have e4 := szLen_le x.delta.dead _ d3
  have c4 := szLen_len d4
  have e5 := szS_le GCell.sz_le x.delta.cs _ d4
  have c5 := szS_len d5
  exact ⟨by omega, by omega, by omega, by omega, by omega, by omega, by omega⟩
def GLog.Fine (l : GLog) : Prop := l.units.length ≤ 1048576 ∧ (∀ y, y ∈ l.units → y.Fine) ∧ l.waits.length ≤ 1048576 ∧ (∀ y, y ∈ l.waits → y.Fine)
theorem GLog.sz_fine {x : GLog} {l : Int} (h0 : 0 ≤ l) (h1 : l ≤ 1048576) (h : 0 ≤ x.sz l) : x.Fine := by
  unfold GLog.sz at h
  obtain ⟨p0, h⟩ := szq_pos h
  obtain ⟨p1, h⟩ := szq_pos h
  obtain ⟨p2, h⟩ := szq_pos h
  have q0 := GState.sz_le x.state _ h0
  have q1 := szS_le GUnit.sz_le x.units _ p0
  have b1 := szS_len p1
  have q2 := szS_le GUnit.sz_le x.waits _ p1
  have b2 := szS_len p2
  exact ⟨by omega, szS_all GUnit.sz_le (fun _ _ => GUnit.sz_fine) (by omega) p1, by omega, szS_all GUnit.sz_le (fun _ _ => GUnit.sz_fine) (by omega) p2⟩
theorem delta_ub (s : GDelta) (k : Int) : (mkS GCell.mar s.cs (mkS GDot.mar s.dead (mkS GLive.mar s.lives (mkS GTally.mar s.tallies (mkS mkInt s.know (mkS mkInt s.base k).2).2).2).2).2).2 ≤
    k + (s.base.length + s.know.length + 3 * s.tallies.length + 6 * s.lives.length + 2 * s.dead.length + 8 * s.cs.length) := by
  have u0 := mkS_ub (f := mkInt) (c := 1) (fun x k => by simp [mkInt]) s.base k
  have u1 := mkS_ub (f := mkInt) (c := 1) (fun x k => by simp [mkInt]) s.know (mkS mkInt s.base k).2
  have u2 := mkS_ub (f := GTally.mar) (c := 3) (fun x k => by simp [GTally.mar]; omega) s.tallies (mkS mkInt s.know (mkS mkInt s.base k).2).2
  have u3 := mkS_ub (f := GLive.mar) (c := 6) (fun x k => by simp [GLive.mar]; omega) s.lives (mkS GTally.mar s.tallies (mkS mkInt s.know (mkS mkInt s.base k).2).2).2
  have u4 := mkS_ub (f := GDot.mar) (c := 2) (fun x k => by simp [GDot.mar]; omega) s.dead (mkS GLive.mar s.lives (mkS GTally.mar s.tallies (mkS mkInt s.know (mkS mkInt s.base k).2).2).2).2
  have u5 := mkS_ub (f := GCell.mar) (c := 8) (fun x k => by simp [GCell.mar]; omega) s.cs (mkS GDot.mar s.dead (mkS GLive.mar s.lives (mkS GTally.mar s.tallies (mkS mkInt s.know (mkS mkInt s.base k).2).2).2).2).2
  omega
theorem GUnit.mar_ub (u : GUnit) (h : u.Fine) (k : Int) : (u.mar k).2 ≤ k + 30000000 := by
  obtain ⟨h0, h1, h2, h3, h4, h5, h6⟩ := h
  have u1 := mkS_ub (f := mkInt) (c := 1) (fun x k => by simp [mkInt]) u.act.knew (k + 1 + 1 + 1 + 1)
  have u2 := delta_ub u.delta ((mkS mkInt u.act.knew (k + 1 + 1 + 1 + 1)).2 + 1 + 1 + 1 + 1 + 1 + 1)
  simp only [GUnit.mar]
  omega
theorem units_ub : ∀ (xs : List GUnit), (∀ x, x ∈ xs → x.Fine) → ∀ k : Int, (mkS GUnit.mar xs k).2 ≤ k + xs.length * 30000000
  | [], _, k => by simp [mkS]
  | x :: xs, h, k => by
    have h1 := GUnit.mar_ub x (h x (by simp)) k
    have h2 := units_ub xs (fun y hy => h y (by simp [hy])) (x.mar k).2
    simp only [mkS, List.length_cons]
    push_cast
    rw [Int.add_mul]
    omega
theorem GState.mt_ub (s : GState) (h : s.Ok) (k : Int) : (s.mt k).2 ≤ k + 20000000000 := by
  simp only [GState.Ok] at h
  obtain ⟨o0, o1, _, o2, _, o3, _⟩ := h
  have u1 := mkS_ub (f := mkInt) (c := 1) (fun x k => by simp [mkInt]) s.know k
  have u2 := mkS_ub (f := GTally.mar) (c := 3) (fun x k => by simp [GTally.mar]; omega) s.tallies (mkS mkInt s.know k).2
  have u3 := mkS_ub (f := GLive.mar) (c := 6) (fun x k => by simp [GLive.mar]; omega) s.lives (mkS GTally.mar s.tallies (mkS mkInt s.know k).2).2
  have u4 := mkS_ub (f := GCell.mar) (c := 8) (fun x k => by simp [GCell.mar]; omega) s.cs (mkS GLive.mar s.lives (mkS GTally.mar s.tallies (mkS mkInt s.know k).2).2).2
  simp only [GState.mt]
  omega
theorem GLog.mt_ub (l : GLog) (h : l.Ok) (hf : l.Fine) (k : Int) : (l.mt k).2 ≤ k + 100000000000000 := by
  simp only [GLog.Ok] at h
  obtain ⟨f1, f2, f3, f4⟩ := hf
  have u1 := GState.mt_ub l.state h.1 k
  have u2 := units_ub l.units f2 (l.state.mt k).2
  have u3 := units_ub l.waits f4 (mkS GUnit.mar l.units (l.state.mt k).2).2
  simp only [GLog.mt]
  omega
theorem lackK_mem (l : GLog) (k : List Int) : ∀ n : Nat, n ≤ l.units.length → ∀ x, x ∈ lackK l k n → x ∈ l.units
  | 0, _, x, h => by simp [lackK] at h
  | n + 1, hn, x, h => by
    simp only [lackK] at h
    split at h
    · exact lackK_mem l k n (by omega) x h
    · rcases List.mem_append.1 h with h | h
      · exact lackK_mem l k n (by omega) x h
      · simp only [List.mem_singleton] at h
        subst h
        exact nth_mem (by omega)
theorem lackOf_mem (l : GLog) (k : List Int) {x : GUnit} (h : x ∈ lackOf l k) : x ∈ l.units := by
  unfold lackOf at h
  split at h
  · exact lackK_mem l k _ (Nat.le_refl _) x h
  · simp at h
theorem lackOf_len (l : GLog) (k : List Int) : (lackOf l k).length ≤ l.units.length := by
  unfold lackOf
  split
  · exact lackK_len l k _
  · simp

@[simp] def h4 : Hts := { lend := fun f => if f = 19 then [.lend] else if f = 20 then [.lend] else if f = 21 then [.lend] else [], dr := fun id => if id = 13 then [{ mb := [40] }, {}, { cr := true }, { cr := true }, {}] else [] }
set_option maxHeartbeats 4000000 in
theorem f4_ok (l : GLog) (k : List Int) (hd : l.Fit) (hfk : k.length ≤ 9223372036854775807) : FnR Tryz.prog 4 [.agg [.int .i64 l.rep, .int .i64 l.time, .im l.state.know.length (flat l.state.know), .im l.state.tallies.length (flat l.state.tallies), .im l.state.lives.length (flat l.state.lives), .im l.state.cs.length (flat l.state.cs), .im l.units.length (flat l.units), .im l.waits.length (flat l.waits)], .v (.im k.length (flat k))] (.v (.bool true)) := by
  refine FnW.of_AW TryzT_ok 0 (fn := Tryz.f4) (by kernel_rfl) rfl (by kernel_rfl) rfl rfl rfl ?_
  refine AW_of h4 TryzT_ok (by kernel_rfl) ?_
  simp -dsimp
  intro hkk
  have hk : k.length ≤ 1048576 := by omega
  have hk' : k.length ≤ 1073741824 := by omega
  refine ACallK_of (f11_ok _ _ hd (by omega) (by omega)) ?_
  simp -dsimp
  refine fun hs => ?_
  have ho := GLog.sz_ok (by omega) (by omega) hs
  have hf := GLog.sz_fine (by omega) (by omega) hs
  have ho' := ho
  simp only [GLog.Ok] at ho'
  have hwl : (lackOf l k).length ≤ 1048576 := Nat.le_trans (lackOf_len l k) hf.1
  have hwl' : (lackOf l k).length ≤ 1073741824 := by omega
  have hwo : ∀ x, x ∈ lackOf l k → x.Ok := fun x hx => ho'.2.2.1 x (lackOf_mem l k hx)
  have b1 := GLog.mt_ub l ho hf 1
  have l1 := GLog.mt_le l 1 (by omega)
  have b3 := mkS_ub (f := mkInt) (c := 1) (fun x k => by simp [mkInt]) k (l.mt 1).2
  have l3 := mkS_le mkInt_le k (l.mt 1).2 (by omega)
  have b2 := units_ub (lackOf l k) (fun x hx => hf.2.1 x (lackOf_mem l k hx)) 1
  have l2 := mkS_le (f := GUnit.mar) GUnit.mar_le (lackOf l k) 1 (by omega)
  refine ACallK_of (f13_ok _ ho) ?_
  simp -dsimp
  refine ACallK_of (f14_ok _ hk') ?_
  simp -dsimp
  refine ACallK_of (f12_ok _ _ ho hk') ?_
  simp -dsimp
  refine ACallK_of (f13_ok _ ho) ?_
  simp -dsimp
  refine ACallK_of (f14_ok _ hk') ?_
  simp -dsimp
  refine ACallK_of (f15_ok _ _ ho hk') ?_
  simp -dsimp
  refine ACallK_of (f16_ok _ _ hwl' hwo) ?_
  simp -dsimp
  refine ACallK_of (f13_ok _ ho) ?_
  simp -dsimp
  refine ACallK_of (f17_ok _ _ ho) ?_
  simp -dsimp
  refine ACallK_of (f14_ok _ hk') ?_
  simp -dsimp
  refine ACallK_of (f18_ok _ _ hk') ?_
  simp -dsimp
  refine ACallW_args (by intro us; simp -dsimp; exact ⟨rfl, rfl, rfl⟩) ?_
  refine ACallC_of (fun us => f19_ok _ _ ho (by omega) (by omega)) (by intro us; simp -dsimp; exact ⟨rfl, rfl⟩) ?_
  simp -dsimp
  refine ACallW_args (by intro us; simp -dsimp; exact ⟨rfl, rfl, rfl⟩) ?_
  refine ACallC_of (fun us => f20_ok _ _ hk' (by omega) (by omega)) (by intro us; simp -dsimp; exact ⟨rfl, rfl⟩) ?_
  have m0 : ¬ (mkS mkInt k (l.mt 1).2).2 < 0 := by omega
  have m1 : 0 ≤ (mkS mkInt k (l.mt 1).2).2 := by omega
  simp -dsimp [m0, m1]
  repeat (first | refine ⟨by omega, ?_⟩ | refine fun _ => ?_)
  refine ACallK_of (f16_ok _ _ hwl' hwo) ?_
  simp -dsimp
  repeat (first | refine ⟨by omega, ?_⟩ | refine fun _ => ?_)
  refine ACallW_args (by intro us; simp -dsimp; exact ⟨rfl, rfl, rfl⟩) ?_
  refine ACallC_of (fun us => f21_ok _ _ hwl' (by omega) (by omega) hwo) (by intro us; simp -dsimp; exact ⟨rfl, rfl⟩) ?_
  simp -dsimp
  refine ACallK_of (f22_ok _ _ hwl' (by omega) (by omega) hwo) ?_
  simp -dsimp
  repeat (first | refine ⟨by omega, ?_⟩ | refine fun _ => ?_)
  refine ACallK_of (f13_ok _ ho) ?_
  simp -dsimp
  refine ACallK_of (f14_ok _ hk') ?_
  simp -dsimp
  refine ACallK_of (f15_ok _ _ ho hk') ?_
  simp -dsimp
  refine ACallK_of (f16_ok _ _ hwl' hwo) ?_
  simp -dsimp
  refine ACallK_of (f22_ok _ _ hwl' (by omega) (by omega) hwo) ?_
  simp -dsimp
  repeat (first | refine ⟨by omega, ?_⟩ | refine fun _ => ?_)
  omega
end Am
