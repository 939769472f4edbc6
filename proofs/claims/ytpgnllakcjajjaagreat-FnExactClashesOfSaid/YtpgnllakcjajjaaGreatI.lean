/- What the arguments of the laws are. No condition. -/
import Derived.Test.YtpgnllakcjajjaaGreatAm25
import Derived.Test.YtpgnllakcjajjaaGreatAm28
import Derived.Test.YtpgnllakcjajjaaGreatT
import Derived.Test.YtpgnllakcjajjaaGreatD
namespace Am
open Go Go.Proofs
open Cel (cells)
theorem unflat {α : Type} [Cel α] {q : α → Prop} {p : List PV → Prop} (h : ∀ x, p x → ∃ y : α, x = cells y ∧ q y) : ∀ xss : List (List PV), (∀ x, x ∈ xss → p x) → ∃ ys : List α, xss.flatten = flat ys ∧ xss.length = ys.length ∧ ∀ y, y ∈ ys → q y
  | [], _ => ⟨[], rfl, rfl, fun _ h => by cases h⟩
  | x :: xss, hp => by
    obtain ⟨y, rfl, hq⟩ := h x (hp x (by simp))
    obtain ⟨ys, h1, h2, h3⟩ := unflat h xss (fun z hz => hp z (by simp [hz]))
    exact ⟨y :: ys, by rw [List.flatten_cons, h1]; rfl, by simp [h2], fun z hz => by
      rcases List.mem_cons.1 hz with rfl | hz
      · exact hq
      · exact h3 z hz⟩
theorem inv_int {ps : List PV} (h : Sh TryzT 3 ps) : ∃ x : Int, ps = cells x ∧ True := by
  obtain ⟨n, rfl, _⟩ := Sh_int TryzT_3 h
  exact ⟨n, rfl, trivial⟩
theorem inv_str {ps : List PV} (h : Sh TryzT 9 ps) : ∃ x : ByteArray, ps = cells x ∧ x.size ≤ 9223372036854775807 := by
  obtain ⟨n, rfl, g⟩ := Sh_str TryzT_9 h
  exact ⟨n, rfl, g⟩

theorem inv_139 {ps : List PV} (h : Sh TryzT 139 ps) : ∃ x : GTally, ps = cells x ∧ x.Fit := by
  have h1 := Sh_struct TryzT_139 h
  obtain ⟨x0, r0, rfl, s0, h1⟩ := ShL_cons h1
  obtain ⟨x1, r1, rfl, s1, h1⟩ := ShL_cons h1
  obtain ⟨x2, r2, rfl, s2, h1⟩ := ShL_cons h1
  obtain rfl := ShL_nil h1
  obtain ⟨f0, rfl, g0⟩ := Sh_str TryzT_9 s0
  obtain ⟨f1, rfl, _⟩ := Sh_int TryzT_3 s1
  obtain ⟨f2, rfl, _⟩ := Sh_int TryzT_3 s2
  exact ⟨⟨f0, f1, f2⟩, by rfl, g0⟩

theorem inv_141 {ps : List PV} (h : Sh TryzT 141 ps) : ∃ x : GDot, ps = cells x ∧ True := by
  have h1 := Sh_struct TryzT_141 h
  obtain ⟨x0, r0, rfl, s0, h1⟩ := ShL_cons h1
  obtain ⟨x1, r1, rfl, s1, h1⟩ := ShL_cons h1
  obtain rfl := ShL_nil h1
  obtain ⟨f0, rfl, _⟩ := Sh_int TryzT_3 s0
  obtain ⟨f1, rfl, _⟩ := Sh_int TryzT_3 s1
  exact ⟨⟨f0, f1⟩, by rfl, trivial⟩

theorem inv_143 {ps : List PV} (h : Sh TryzT 143 ps) : ∃ x : GLive, ps = cells x ∧ x.Fit := by
  have h1 := Sh_struct TryzT_143 h
  obtain ⟨x0, r0, rfl, s0, h1⟩ := ShL_cons h1
  obtain ⟨x1, r1, rfl, s1, h1⟩ := ShL_cons h1
  obtain ⟨x2, r2, rfl, s2, h1⟩ := ShL_cons h1
  obtain ⟨x3, r3, rfl, s3, h1⟩ := ShL_cons h1
  obtain ⟨x4, r4, rfl, s4, h1⟩ := ShL_cons h1
  obtain rfl := ShL_nil h1
  obtain ⟨f0, rfl⟩ := Sh_bool TryzT_4 s0
  obtain ⟨f1, rfl, g1⟩ := Sh_str TryzT_9 s1
  obtain ⟨f2, rfl, g2⟩ := Sh_str TryzT_9 s2
  obtain ⟨f3, rfl, _⟩ := Sh_int TryzT_3 s3
  obtain ⟨f4, rfl, g4⟩ := inv_141 s4
  exact ⟨⟨f0, f1, f2, f3, f4⟩, by rfl, ⟨g1, g2⟩⟩

theorem inv_146 {ps : List PV} (h : Sh TryzT 146 ps) : ∃ x : GCell, ps = cells x ∧ x.Fit := by
  have h1 := Sh_struct TryzT_146 h
  obtain ⟨x0, r0, rfl, s0, h1⟩ := ShL_cons h1
  obtain ⟨x1, r1, rfl, s1, h1⟩ := ShL_cons h1
  obtain ⟨x2, r2, rfl, s2, h1⟩ := ShL_cons h1
  obtain ⟨x3, r3, rfl, s3, h1⟩ := ShL_cons h1
  obtain ⟨x4, r4, rfl, s4, h1⟩ := ShL_cons h1
  obtain ⟨x5, r5, rfl, s5, h1⟩ := ShL_cons h1
  obtain rfl := ShL_nil h1
  obtain ⟨f0, rfl, g0⟩ := Sh_str TryzT_9 s0
  obtain ⟨f1, rfl, g1⟩ := inv_141 s1
  obtain ⟨f2, rfl, _⟩ := Sh_int TryzT_3 s2
  obtain ⟨f3, rfl, g3⟩ := inv_141 s3
  obtain ⟨f4, rfl, _⟩ := Sh_int TryzT_3 s4
  obtain ⟨f5, rfl⟩ := Sh_bool TryzT_4 s5
  exact ⟨⟨f0, f1, f2, f3, f4, f5⟩, by rfl, g0⟩

theorem inv_27 {ps : List PV} (h : Sh TryzT 27 ps) : ∃ x : GState, ps = cells x ∧ x.Fit := by
  have h1 := Sh_struct TryzT_27 h
  obtain ⟨x0, r0, rfl, s0, h1⟩ := ShL_cons h1
  obtain ⟨x1, r1, rfl, s1, h1⟩ := ShL_cons h1
  obtain ⟨x2, r2, rfl, s2, h1⟩ := ShL_cons h1
  obtain ⟨x3, r3, rfl, s3, h1⟩ := ShL_cons h1
  obtain rfl := ShL_nil h1
  obtain ⟨xss0, rfl, g0, k0⟩ := Sh_slice TryzT_22 s0
  obtain ⟨f0, e0, l0, q0⟩ := unflat (fun x hx => inv_int hx) xss0 k0
  rw [l0] at g0
  obtain ⟨xss1, rfl, g1, k1⟩ := Sh_slice TryzT_23 s1
  obtain ⟨f1, e1, l1, q1⟩ := unflat (fun x hx => inv_139 hx) xss1 k1
  rw [l1] at g1
  obtain ⟨xss2, rfl, g2, k2⟩ := Sh_slice TryzT_24 s2
  obtain ⟨f2, e2, l2, q2⟩ := unflat (fun x hx => inv_143 hx) xss2 k2
  rw [l2] at g2
  obtain ⟨xss3, rfl, g3, k3⟩ := Sh_slice TryzT_25 s3
  obtain ⟨f3, e3, l3, q3⟩ := unflat (fun x hx => inv_146 hx) xss3 k3
  rw [l3] at g3
  exact ⟨⟨f0, f1, f2, f3⟩, by simp only [e0, l0, e1, l1, e2, l2, e3, l3]; rfl, ⟨g0, g1, q1, g2, q2, g3, q3⟩⟩

theorem inv_53 {ps : List PV} (h : Sh TryzT 53 ps) : ∃ x : GDelta, ps = cells x ∧ x.Fit := by
  have h1 := Sh_struct TryzT_53 h
  obtain ⟨x0, r0, rfl, s0, h1⟩ := ShL_cons h1
  obtain ⟨x1, r1, rfl, s1, h1⟩ := ShL_cons h1
  obtain ⟨x2, r2, rfl, s2, h1⟩ := ShL_cons h1
  obtain ⟨x3, r3, rfl, s3, h1⟩ := ShL_cons h1
  obtain ⟨x4, r4, rfl, s4, h1⟩ := ShL_cons h1
  obtain ⟨x5, r5, rfl, s5, h1⟩ := ShL_cons h1
  obtain rfl := ShL_nil h1
  obtain ⟨xss0, rfl, g0, k0⟩ := Sh_slice TryzT_22 s0
  obtain ⟨f0, e0, l0, q0⟩ := unflat (fun x hx => inv_int hx) xss0 k0
  rw [l0] at g0
  obtain ⟨xss1, rfl, g1, k1⟩ := Sh_slice TryzT_22 s1
  obtain ⟨f1, e1, l1, q1⟩ := unflat (fun x hx => inv_int hx) xss1 k1
  rw [l1] at g1
  obtain ⟨xss2, rfl, g2, k2⟩ := Sh_slice TryzT_23 s2
  obtain ⟨f2, e2, l2, q2⟩ := unflat (fun x hx => inv_139 hx) xss2 k2
  rw [l2] at g2
  obtain ⟨xss3, rfl, g3, k3⟩ := Sh_slice TryzT_24 s3
  obtain ⟨f3, e3, l3, q3⟩ := unflat (fun x hx => inv_143 hx) xss3 k3
  rw [l3] at g3
  obtain ⟨xss4, rfl, g4, k4⟩ := Sh_slice TryzT_51 s4
  obtain ⟨f4, e4, l4, q4⟩ := unflat (fun x hx => inv_141 hx) xss4 k4
  rw [l4] at g4
  obtain ⟨xss5, rfl, g5, k5⟩ := Sh_slice TryzT_25 s5
  obtain ⟨f5, e5, l5, q5⟩ := unflat (fun x hx => inv_146 hx) xss5 k5
  rw [l5] at g5
  exact ⟨⟨f0, f1, f2, f3, f4, f5⟩, by simp only [e0, l0, e1, l1, e2, l2, e3, l3, e4, l4, e5, l5]; rfl, ⟨g0, g1, g2, q2, g3, q3, g4, g5, q5⟩⟩

theorem inv_189 {ps : List PV} (h : Sh TryzT 189 ps) : ∃ x : GCommit, ps = cells x ∧ x.Fit := by
  have h1 := Sh_struct TryzT_189 h
  obtain ⟨x0, r0, rfl, s0, h1⟩ := ShL_cons h1
  obtain ⟨x1, r1, rfl, s1, h1⟩ := ShL_cons h1
  obtain ⟨x2, r2, rfl, s2, h1⟩ := ShL_cons h1
  obtain rfl := ShL_nil h1
  obtain ⟨f0, rfl, g0⟩ := inv_141 s0
  obtain ⟨xss1, rfl, g1, k1⟩ := Sh_slice TryzT_22 s1
  obtain ⟨f1, e1, l1, q1⟩ := unflat (fun x hx => inv_int hx) xss1 k1
  rw [l1] at g1
  obtain ⟨f2, rfl, g2⟩ := inv_27 s2
  exact ⟨⟨f0, f1, f2⟩, by simp only [e1, l1]; rfl, ⟨g1, g2⟩⟩

theorem inv_61 {ps : List PV} (h : Sh TryzT 61 ps) : ∃ x : GGraph, ps = cells x ∧ x.Fit := by
  have h1 := Sh_struct TryzT_61 h
  obtain ⟨x0, r0, rfl, s0, h1⟩ := ShL_cons h1
  obtain ⟨x1, r1, rfl, s1, h1⟩ := ShL_cons h1
  obtain rfl := ShL_nil h1
  obtain ⟨xss0, rfl, g0, k0⟩ := Sh_slice TryzT_59 s0
  obtain ⟨f0, e0, l0, q0⟩ := unflat (fun x hx => inv_189 hx) xss0 k0
  rw [l0] at g0
  obtain ⟨f1, rfl, _⟩ := Sh_int TryzT_3 s1
  exact ⟨⟨f0, f1⟩, by simp only [e0, l0]; rfl, ⟨g0, q0⟩⟩

end Am
