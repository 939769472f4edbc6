/- What the arguments of the laws are. No condition. -/
import Derived.Test.YtkkaogfjlbigmaaAm25
import Derived.Test.YtkkaogfjlbigmaaAm28
import Derived.Test.YtkkaogfjlbigmaaT
import Derived.Test.YtkkaogfjlbigmaaD
namespace Am
open Go Go.Proofs
open Cel (cells)
theorem unflat {α : Type} [Cel α] {q : α → Prop} {p : List PV → Prop} (h : ∀ x, p x → ∃ y : α, x = cells y ∧ q y) : ∀ xss : List (List PV), (∀ x, x ∈ xss → p x) → ∃ ys : List α, xss.flatten = flat ys ∧ xss.length = ys.length ∧ ∀ y, y ∈ ys → q y
  | [], _ => ⟨[], rfl, rfl, fun _ h => by cases h⟩
  | x :: xss, hp => by
    obtain ⟨y, rfl, hq⟩ := h x (hp x (by simp))
    obtain ⟨ys, h1, h2, h3⟩ := unflat h xss (fun z hz => hp z (by simp [hz]))
    exact ⟨y :: ys, by rw [List.flatten_cons, h1]; rfl, by simp [h2], fun z hz => by
      rcases List.mem_cons.1 hz with rfl | hz
      · exact hq
      · exact h3 z hz⟩
theorem inv_int {ps : List PV} (h : Sh TryT 3 ps) : ∃ x : Int, ps = cells x ∧ True := by
  obtain ⟨n, rfl, _⟩ := Sh_int TryT_3 h
  exact ⟨n, rfl, trivial⟩
theorem inv_str {ps : List PV} (h : Sh TryT 9 ps) : ∃ x : ByteArray, ps = cells x ∧ x.size ≤ 9223372036854775807 := by
  obtain ⟨n, rfl, g⟩ := Sh_str TryT_9 h
  exact ⟨n, rfl, g⟩

theorem inv_73 {ps : List PV} (h : Sh TryT 73 ps) : ∃ x : GTally, ps = cells x ∧ x.Fit := by
  have h1 := Sh_struct TryT_73 h
  obtain ⟨x0, r0, rfl, s0, h1⟩ := ShL_cons h1
  obtain ⟨x1, r1, rfl, s1, h1⟩ := ShL_cons h1
  obtain ⟨x2, r2, rfl, s2, h1⟩ := ShL_cons h1
  obtain rfl := ShL_nil h1
  obtain ⟨f0, rfl, g0⟩ := Sh_str TryT_9 s0
  obtain ⟨f1, rfl, _⟩ := Sh_int TryT_3 s1
  obtain ⟨f2, rfl, _⟩ := Sh_int TryT_3 s2
  exact ⟨⟨f0, f1, f2⟩, by rfl, g0⟩

theorem inv_75 {ps : List PV} (h : Sh TryT 75 ps) : ∃ x : GDot, ps = cells x ∧ True := by
  have h1 := Sh_struct TryT_75 h
  obtain ⟨x0, r0, rfl, s0, h1⟩ := ShL_cons h1
  obtain ⟨x1, r1, rfl, s1, h1⟩ := ShL_cons h1
  obtain rfl := ShL_nil h1
  obtain ⟨f0, rfl, _⟩ := Sh_int TryT_3 s0
  obtain ⟨f1, rfl, _⟩ := Sh_int TryT_3 s1
  exact ⟨⟨f0, f1⟩, by rfl, trivial⟩

theorem inv_77 {ps : List PV} (h : Sh TryT 77 ps) : ∃ x : GLive, ps = cells x ∧ x.Fit := by
  have h1 := Sh_struct TryT_77 h
  obtain ⟨x0, r0, rfl, s0, h1⟩ := ShL_cons h1
  obtain ⟨x1, r1, rfl, s1, h1⟩ := ShL_cons h1
  obtain ⟨x2, r2, rfl, s2, h1⟩ := ShL_cons h1
  obtain ⟨x3, r3, rfl, s3, h1⟩ := ShL_cons h1
  obtain ⟨x4, r4, rfl, s4, h1⟩ := ShL_cons h1
  obtain rfl := ShL_nil h1
  obtain ⟨f0, rfl⟩ := Sh_bool TryT_4 s0
  obtain ⟨f1, rfl, g1⟩ := Sh_str TryT_9 s1
  obtain ⟨f2, rfl, g2⟩ := Sh_str TryT_9 s2
  obtain ⟨f3, rfl, _⟩ := Sh_int TryT_3 s3
  obtain ⟨f4, rfl, g4⟩ := inv_75 s4
  exact ⟨⟨f0, f1, f2, f3, f4⟩, by rfl, ⟨g1, g2⟩⟩

theorem inv_80 {ps : List PV} (h : Sh TryT 80 ps) : ∃ x : GCell, ps = cells x ∧ x.Fit := by
  have h1 := Sh_struct TryT_80 h
  obtain ⟨x0, r0, rfl, s0, h1⟩ := ShL_cons h1
  obtain ⟨x1, r1, rfl, s1, h1⟩ := ShL_cons h1
  obtain ⟨x2, r2, rfl, s2, h1⟩ := ShL_cons h1
  obtain ⟨x3, r3, rfl, s3, h1⟩ := ShL_cons h1
  obtain ⟨x4, r4, rfl, s4, h1⟩ := ShL_cons h1
  obtain ⟨x5, r5, rfl, s5, h1⟩ := ShL_cons h1
  obtain rfl := ShL_nil h1
  obtain ⟨f0, rfl, g0⟩ := Sh_str TryT_9 s0
  obtain ⟨f1, rfl, g1⟩ := inv_75 s1
  obtain ⟨f2, rfl, _⟩ := Sh_int TryT_3 s2
  obtain ⟨f3, rfl, g3⟩ := inv_75 s3
  obtain ⟨f4, rfl, _⟩ := Sh_int TryT_3 s4
  obtain ⟨f5, rfl⟩ := Sh_bool TryT_4 s5
  exact ⟨⟨f0, f1, f2, f3, f4, f5⟩, by rfl, g0⟩

theorem inv_27 {ps : List PV} (h : Sh TryT 27 ps) : ∃ x : GState, ps = cells x ∧ x.Fit := by
  have h1 := Sh_struct TryT_27 h
  obtain ⟨x0, r0, rfl, s0, h1⟩ := ShL_cons h1
  obtain ⟨x1, r1, rfl, s1, h1⟩ := ShL_cons h1
  obtain ⟨x2, r2, rfl, s2, h1⟩ := ShL_cons h1
  obtain ⟨x3, r3, rfl, s3, h1⟩ := ShL_cons h1
  obtain rfl := ShL_nil h1
  obtain ⟨xss0, rfl, g0, k0⟩ := Sh_slice TryT_22 s0
  obtain ⟨f0, e0, l0, q0⟩ := unflat (fun x hx => inv_int hx) xss0 k0
  rw [l0] at g0
  obtain ⟨xss1, rfl, g1, k1⟩ := Sh_slice TryT_23 s1
  obtain ⟨f1, e1, l1, q1⟩ := unflat (fun x hx => inv_73 hx) xss1 k1
  rw [l1] at g1
  obtain ⟨xss2, rfl, g2, k2⟩ := Sh_slice TryT_24 s2
  obtain ⟨f2, e2, l2, q2⟩ := unflat (fun x hx => inv_77 hx) xss2 k2
  rw [l2] at g2
  obtain ⟨xss3, rfl, g3, k3⟩ := Sh_slice TryT_25 s3
  obtain ⟨f3, e3, l3, q3⟩ := unflat (fun x hx => inv_80 hx) xss3 k3
  rw [l3] at g3
  exact ⟨⟨f0, f1, f2, f3⟩, by simp only [e0, l0, e1, l1, e2, l2, e3, l3]; rfl, ⟨g0, g1, q1, g2, q2, g3, q3⟩⟩

end Am
