/- A result's inner parts given up: looked at alone. No condition. -/
import Derived.Test.YtmedpldnoehoiaaGreatAm31
namespace Am
open Go
set_option linter.unusedSimpArgs false
set_option linter.unusedVariables false
theorem FnW.frz_res {P : Program} {f : Nat} {args outs : List CV} {e s n : Nat} {cs : List PV} (h : FnW P f args (.v (.ow e s n cs)) outs) : FnW P f args (.v (.ow e s n (frzs cs))) outs := by
  refine ⟨h.fin, fun w V vals F h1 h2 h3 h4 => (h.call w V vals F h1 h2 h3 h4).mono ?_⟩
  rintro ex w' ⟨v, Fr, Fo, rfl, hg, hres, hout, hnd, hfr⟩
  simp only [CR, R] at hres
  obtain ⟨xs, F', hown, hr, rfl⟩ := hres
  have hUU : ∀ k, (k < w'.heap.size ∧ (V k ∨ w.heap.size ≤ k ∨ k ∈ F) ∧ k ∉ (v.ownBlock.toList ++ F') ++ Fo) → (k < w'.heap.size ∧ (V k ∨ w.heap.size ≤ k ∨ k ∈ F) ∧ k ∉ v.ownBlock.toList ++ Fo) := fun k hk => ⟨hk.1, hk.2.1, fun hm => hk.2.2 (by
    rcases List.mem_append.1 hm with hm | hm
    · exact List.mem_append_left _ (List.mem_append_left _ hm)
    · exact List.mem_append_right _ hm)⟩
  have hn := List.nodup_append.1 hnd
  have hn1 := List.nodup_append.1 hn.1
  refine ⟨v, v.ownBlock.toList, Fo, rfl, hg, ?_, CRs_U hUU _ _ _ hout, ?_, fun k hk => hfr k ?_⟩
  · simp only [CR, R]
    refine ⟨xs, [], hown, Rs_frz hUU _ _ _ hr (fun k hk => ?_), by simp⟩
    have := hfr k (List.mem_append_left _ (List.mem_append_right _ hk))
    refine ⟨this.1, this.2.elim (fun h => .inr (.inl h)) (fun h => .inr (.inr h)), fun hm => ?_⟩
    rcases List.mem_append.1 hm with hm | hm
    · exact hn1.2.2 k hm k hk rfl
    · exact hn.2.2 k (List.mem_append_right _ hk) k hm rfl
  · refine List.nodup_append.2 ⟨hn1.1, hn.2.1, fun a ha b hb => hn.2.2 a (List.mem_append_left _ ha) b hb⟩
  · rcases List.mem_append.1 hk with hk | hk
    · exact List.mem_append_left _ (List.mem_append_left _ hk)
    · exact List.mem_append_right _ hk
end Am
