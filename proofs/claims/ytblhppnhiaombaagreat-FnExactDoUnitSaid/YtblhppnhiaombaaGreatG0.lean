/- How many marks there are. No condition. -/
import Derived.Test.YtblhppnhiaombaaGreatT
import Derived.Test.YtblhppnhiaombaaGreatF1
import Derived.Test.YtblhppnhiaombaaGreatF2
namespace Am
open Go Go.Proofs
set_option linter.unusedSimpArgs false
set_option linter.unusedVariables false

theorem mkS_ub {α : Type} {f : α → Int → α × Int} {c : Int} (hf : ∀ x k, (f x k).2 ≤ k + c) : ∀ (xs : List α) (k : Int), (mkS f xs k).2 ≤ k + xs.length * c
  | [], k => by simp [mkS]
  | x :: xs, k => by
    have h1 := hf x k
    have h2 := mkS_ub hf xs (f x k).2
    simp only [mkS, List.length_cons]
    push_cast
    rw [Int.add_mul]
    omega
theorem GState.mt_ub (s : GState) (h : s.Ok) (k : Int) : (s.mt k).2 ≤ k + 20000000000 := by
  simp only [GState.Ok] at h
  obtain ⟨o0, o1, _, o2, _, o3, _⟩ := h
  have u1 := mkS_ub (f := mkInt) (c := 1) (fun x k => by simp [mkInt]) s.know k
  have u2 := mkS_ub (f := GTally.mar) (c := 3) (fun x k => by simp [GTally.mar]; omega) s.tallies (mkS mkInt s.know k).2
  have u3 := mkS_ub (f := GLive.mar) (c := 6) (fun x k => by simp [GLive.mar]; omega) s.lives (mkS GTally.mar s.tallies (mkS mkInt s.know k).2).2
  have u4 := mkS_ub (f := GCell.mar) (c := 8) (fun x k => by simp [GCell.mar]; omega) s.cs (mkS GLive.mar s.lives (mkS GTally.mar s.tallies (mkS mkInt s.know k).2).2).2
  simp only [GState.mt]
  omega

end Am
namespace Am
open Go Go.Proofs
set_option linter.unusedSimpArgs false
set_option linter.unusedVariables false

theorem delta_ub (s : GDelta) (k : Int) : (mkS GCell.mar s.cs (mkS GDot.mar s.dead (mkS GLive.mar s.lives (mkS GTally.mar s.tallies (mkS mkInt s.know (mkS mkInt s.base k).2).2).2).2).2).2 ≤
    k + (s.base.length + s.know.length + 3 * s.tallies.length + 6 * s.lives.length + 2 * s.dead.length + 8 * s.cs.length) := by
  have u0 := mkS_ub (f := mkInt) (c := 1) (fun x k => by simp [mkInt]) s.base k
  have u1 := mkS_ub (f := mkInt) (c := 1) (fun x k => by simp [mkInt]) s.know (mkS mkInt s.base k).2
  have u2 := mkS_ub (f := GTally.mar) (c := 3) (fun x k => by simp [GTally.mar]; omega) s.tallies (mkS mkInt s.know (mkS mkInt s.base k).2).2
  have u3 := mkS_ub (f := GLive.mar) (c := 6) (fun x k => by simp [GLive.mar]; omega) s.lives (mkS GTally.mar s.tallies (mkS mkInt s.know (mkS mkInt s.base k).2).2).2
  have u4 := mkS_ub (f := GDot.mar) (c := 2) (fun x k => by simp [GDot.mar]; omega) s.dead (mkS GLive.mar s.lives (mkS GTally.mar s.tallies (mkS mkInt s.know (mkS mkInt s.base k).2).2).2).2
  have u5 := mkS_ub (f := GCell.mar) (c := 8) (fun x k => by simp [GCell.mar]; omega) s.cs (mkS GDot.mar s.dead (mkS GLive.mar s.lives (mkS GTally.mar s.tallies (mkS mkInt s.know (mkS mkInt s.base k).2).2).2).2).2
  omega
theorem GDelta.mt_ub (d : GDelta) (h : d.Ok) (k : Int) : (d.mt k).2 ≤ k + 100000000000 := by
  simp only [GDelta.Ok] at h
  have := delta_ub d k
  simp only [GDelta.mt]
  omega
end Am
namespace Am
open Go Go.Proofs
set_option linter.unusedSimpArgs false
set_option linter.unusedVariables false

def GUnit.Fine (u : GUnit) : Prop := u.act.knew.length ≤ 1048576 ∧ u.delta.base.length ≤ 1048576 ∧ u.delta.know.length ≤ 1048576 ∧ u.delta.tallies.length ≤ 1048576 ∧ u.delta.lives.length ≤ 1048576 ∧ u.delta.dead.length ≤ 1048576 ∧ u.delta.cs.length ≤ 1048576
theorem GUnit.sz_fine {x : GUnit} {l : Int} (h0 : 0 ≤ l) (h1 : l ≤ 1048576) (h : 0 ≤ x.sz l) : x.Fine := by
  unfold GUnit.sz at h
  obtain ⟨p0, h⟩ := szq_pos h
  obtain ⟨p1, h⟩ := szq_pos h
  have q0 := GAct.sz_le x.act _ h0
  have a0 := p0
  unfold GAct.sz at a0
  obtain ⟨a0, _⟩ := szq_pos a0
  have b0 := szLen_len a0
  have ra := szLen_le x.act.knew _ h0
  unfold GDelta.sz at p1
  obtain ⟨d0, p1⟩ := szq_pos p1
  obtain ⟨d1, p1⟩ := szq_pos p1
  obtain ⟨d2, p1⟩ := szq_pos p1
  obtain ⟨d3, p1⟩ := szq_pos p1
  obtain ⟨d4, p1⟩ := szq_pos p1
  obtain ⟨d5, p1⟩ := szq_pos p1
  have e0 := szLen_le x.delta.base _ p0
  have c0 := szLen_len d0
  have e1 := szLen_le x.delta.know _ d0
  have c1 := szLen_len d1
  have e2 := szS_le GTally.sz_le x.delta.tallies _ d1
  have c2 := szS_len d2
  have e3 := szS_le GLive.sz_le x.delta.lives _ d2
  have c3 := szS_len d3
  have e4 := szLen_le x.delta.dead _ d3
  have c4 := szLen_len d4
  have e5 := szS_le GCell.sz_le x.delta.cs _ d4
  have c5 := szS_len d5
  exact ⟨by omega, by omega, by omega, by omega, by omega, by omega, by omega⟩
theorem GUnit.mt_ub (u : GUnit) (h : u.Fine) (k : Int) : (u.mt k).2 ≤ k + 30000000 := by
  obtain ⟨h0, h1, h2, h3, h4, h5, h6⟩ := h
  have u1 := mkS_ub (f := mkInt) (c := 1) (fun x k => by simp [mkInt]) u.act.knew k
  have u2 := delta_ub u.delta (mkS mkInt u.act.knew k).2
  simp only [GUnit.mt, GAct.mt, GDelta.mt]
  omega
end Am
