/- How many marks there are. No condition. -/
import Derived.Test.YtblhppnhiaombaaGreatT
import Derived.Test.YtblhppnhiaombaaGreatF1
import Derived.Test.YtblhppnhiaombaaGreatF2
namespace Am
open Go Go.Proofs
set_option linter.unusedSimpArgs false
set_option linter.unusedVariables false

theorem mkS_ub {α : Type} {f : α → Int → α × Int} {c : Int} (hf : ∀ x k, (f x k).2 ≤ k + c) : ∀ (xs : List α) (k : Int), (mkS f xs k).2 ≤ k + xs.length * c
  | [], k => by simp [mkS]
  | x :: xs, k => by
    have h1 := hf x k
    have h2 := mkS_ub hf xs (f x k).2
    simp only [mkS, List.length_cons]
    push_cast
    rw [Int.add_mul]
    omega
theorem GState.mt_ub (s : GState) (h : s.Ok) (k : Int) : (s.mt k).2 ≤ k + 20000000000 := by
  simp only [GState.Ok] at h
  obtain ⟨o0, o1, _, o2, _, o3, _⟩ := h
  have u1 := mkS_ub (f := mkInt) (c := 1) (fun x k => by simp [mkInt]) s.know k
  have u2 := mkS_ub (f := GTally.mar) (c := 3) (fun x k => by simp [GTally.mar]; omega) s.tallies (mkS mkInt s.know k).2
  have u3 := mkS_ub (f := GLive.mar) (c := 6) (fun x k => by simp [GLive.mar]; omega) s.lives (mkS GTally.mar s.tallies (mkS mkInt s.know k).2).2
  have u4 := mkS_ub (f := GCell.mar) (c := 8) (fun x k => by simp [GCell.mar]; omega) s.cs (mkS GLive.mar s.lives (mkS GTally.mar s.tallies (mkS mkInt s.know k).2).2).2
  simp only [GState.mt]
  omega

end Am
namespace Am
open Go Go.Proofs
set_option linter.unusedSimpArgs false
set_option linter.unusedVariables false

theorem mkS_ubP {α : Type} {f : α → Int → α × Int} {c : Int} {p : α → Prop} (hf : ∀ x k, p x → (f x k).2 ≤ k + c) : ∀ (xs : List α) (k : Int), (∀ x, x ∈ xs → p x) → (mkS f xs k).2 ≤ k + xs.length * c
  | [], k, _ => by simp [mkS]
  | x :: xs, k, h => by
    have h1 := hf x k (h x (by simp))
    have h2 := mkS_ubP hf xs (f x k).2 (fun y hy => h y (by simp [hy]))
    simp only [mkS, List.length_cons]
    push_cast
    rw [Int.add_mul]
    omega
def GState.Fine (s : GState) : Prop := s.know.length ≤ 1048576 ∧ s.tallies.length ≤ 1048576 ∧ s.lives.length ≤ 1048576 ∧ s.cs.length ≤ 1048576
theorem GState.sz_fine {x : GState} {l : Int} (h0 : 0 ≤ l) (h1 : l ≤ 1048576) (h : 0 ≤ x.sz l) : x.Fine := by
  unfold GState.sz at h
  obtain ⟨p0, h⟩ := szq_pos h
  obtain ⟨p1, h⟩ := szq_pos h
  obtain ⟨p2, h⟩ := szq_pos h
  obtain ⟨p3, h⟩ := szq_pos h
  have q0 := szLen_le x.know _ h0
  have b0 := szLen_len p0
  have q1 := szS_le GTally.sz_le x.tallies _ p0
  have b1 := szS_len p1
  have q2 := szS_le GLive.sz_le x.lives _ p1
  have b2 := szS_len p2
  have b3 := szS_len p3
  exact ⟨by omega, by omega, by omega, by omega⟩
def GCommit.Fine (c : GCommit) : Prop := c.ups.length ≤ 1048576 ∧ c.state.Fine
theorem GCommit.sz_fine (x : GCommit) (l : Int) (h0 : 0 ≤ l) (h1 : l ≤ 1048576) (h : 0 ≤ x.sz l) : x.Fine := by
  unfold GCommit.sz at h
  obtain ⟨p0, h⟩ := szq_pos h
  obtain ⟨p1, h⟩ := szq_pos h
  have q0 := szLen_le x.ups _ h0
  have b0 := szLen_len p0
  exact ⟨by omega, GState.sz_fine p0 (by omega) p1⟩
theorem GCommit.mar_ub (c : GCommit) (k : Int) (h : c.Fine) : (c.mar k).2 ≤ k + 30000000 := by
  obtain ⟨h0, h1, h2, h3, h4⟩ := h
  simp only [GCommit.mar]
  have u0 := mkS_ub (f := mkInt) (c := 1) (fun x k => by simp [mkInt]) c.ups (k + 1 + 1)
  generalize (mkS mkInt c.ups (k + 1 + 1)).2 = k0 at u0 ⊢
  have u1 := mkS_ub (f := mkInt) (c := 1) (fun x k => by simp [mkInt]) c.state.know k0
  generalize (mkS mkInt c.state.know k0).2 = k1 at u1 ⊢
  have u2 := mkS_ub (f := GTally.mar) (c := 3) (fun x k => by simp [GTally.mar]; omega) c.state.tallies k1
  generalize (mkS GTally.mar c.state.tallies k1).2 = k2 at u2 ⊢
  have u3 := mkS_ub (f := GLive.mar) (c := 6) (fun x k => by simp [GLive.mar]; omega) c.state.lives k2
  generalize (mkS GLive.mar c.state.lives k2).2 = k3 at u3 ⊢
  have u4 := mkS_ub (f := GCell.mar) (c := 8) (fun x k => by simp [GCell.mar]; omega) c.state.cs k3
  omega
def GGraph.Fine (g : GGraph) : Prop := g.commits.length ≤ 1048576 ∧ ∀ c, c ∈ g.commits → c.Fine
theorem GGraph.sz_fine {x : GGraph} {l : Int} (h0 : 0 ≤ l) (h1 : l ≤ 1048576) (h : 0 ≤ x.sz l) : x.Fine := by
  unfold GGraph.sz at h
  obtain ⟨p0, h⟩ := szq_pos h
  have b0 := szS_len p0
  exact ⟨by omega, szS_all GCommit.sz_le GCommit.sz_fine (by omega) p0⟩
theorem GGraph.mt_ub (g : GGraph) (h : g.Fine) (k : Int) : (g.mt k).2 ≤ k + 100000000000000 := by
  have u := mkS_ubP (f := GCommit.mar) (c := 30000000) (fun x k hx => GCommit.mar_ub x k hx) g.commits k h.2
  have := h.1
  simp only [GGraph.mt]
  omega
end Am
