/- Numbers read out of bytes: what is read is what is written. No condition. -/
import Derived.Test.YtkndgnnfgdfcbaaGreatT
import Derived.Test.YtkndgnnfgdfcbaaGreatD
import Derived.Test.YtkndgnnfgdfcbaaGreatE10
namespace Am
open Go Go.Proofs
open Cel (cells)
set_option maxRecDepth 100000
set_option linter.unusedSimpArgs false
set_option linter.unusedVariables false

/-- what bytes tell -/
def decL : List UInt8 → Nat
  | [] => 0
  | c :: r => c.toNat % 128 + 128 * decL r
theorem u8_toNat (c : UInt8) : u8 (c.toNat : Int) = c := by
  have := c.toNat_lt
  unfold u8
  apply UInt8.toNat_inj.1
  rw [UInt8.toNat_ofNat']
  omega
theorem decL_snoc (c : UInt8) : ∀ ds : List UInt8, decL (ds ++ [c]) = decL ds + c.toNat % 128 * 128 ^ ds.length
  | [] => by simp [decL]
  | d :: r => by
    have ih := decL_snoc c r
    simp only [List.cons_append, decL, ih, List.length_cons, Nat.pow_succ]
    rw [Nat.mul_add, ← Nat.mul_assoc, Nat.mul_comm 128 (c.toNat % 128), Nat.mul_assoc, Nat.mul_comm 128 (128 ^ r.length)]
    omega
theorem decL_pos {c : UInt8} (hc : c.toNat ≤ 127) (h0 : c.toNat ≠ 0) : ∀ ds : List UInt8, 1 ≤ decL (ds ++ [c])
  | [] => by simp [decL]; omega
  | d :: r => by
    have := decL_pos hc h0 r
    simp only [List.cons_append, decL]
    omega
theorem varB_dec {c : UInt8} (hc : c.toNat ≤ 127) : ∀ ds : List UInt8, (∀ d, d ∈ ds → 127 < d.toNat) → (ds = [] ∨ c.toNat ≠ 0) → varB (decL (ds ++ [c])) = ds ++ [c]
  | [], _, _ => by
    have e : decL ([] ++ [c]) = c.toNat := by simp [decL]; omega
    rw [e, varB_small hc, u8_toNat]; rfl
  | d :: r, hd, h0 => by
    have h0 := h0.resolve_left (by simp)
    have hp := decL_pos hc h0 r
    have hdd := hd d (by simp)
    have hlt := d.toNat_lt
    have ih := varB_dec hc r (fun x hx => hd x (by simp [hx])) (.inr h0)
    have e : decL (d :: r ++ [c]) = d.toNat % 128 + 128 * decL (r ++ [c]) := rfl
    rw [e, varB_great (by omega)]
    have e1 : (((d.toNat % 128 + 128 * decL (r ++ [c]) : Nat) : Int) % 128 + 128) = (d.toNat : Int) := by omega
    have e2 : (d.toNat % 128 + 128 * decL (r ++ [c])) / 128 = decL (r ++ [c]) := by omega
    rw [e1, e2, ih, u8_toNat]
    rfl
theorem u8_ne {n : Nat} (h : 1 ≤ n) (h' : n ≤ 255) : (u8 (n : Int)).toNat ≠ 0 := by
  unfold u8
  rw [UInt8.toNat_ofNat']
  omega
theorem varB_last : ∀ (n : Nat) (ds : List UInt8) (c : UInt8), varB n = ds ++ [c] → ds = [] ∨ c.toNat ≠ 0 := by
  intro n
  induction n using Nat.strongRecOn with
  | _ n ih =>
    intro ds c h
    by_cases h1 : n ≤ 127
    · rw [varB_small h1] at h
      cases ds with
      | nil => exact .inl rfl
      | cons d r => simp at h
    · rw [varB_great h1] at h
      cases ds with
      | nil => exact .inl rfl
      | cons d r =>
        refine .inr ?_
        simp only [List.cons_append, List.cons.injEq] at h
        rcases ih (n / 128) (by omega) r c h.2 with e | e
        · subst e
          have h2 := h.2
          by_cases h3 : n / 128 ≤ 127
          · rw [varB_small h3] at h2
            simp only [List.nil_append, List.cons.injEq, and_true] at h2
            rw [← h2]
            exact u8_ne (by omega) (by omega)
          · rw [varB_great h3] at h2
            simp only [List.nil_append, List.cons.injEq] at h2
            have h4 := h2.2
            have : (varB (n / 128 / 128)).length ≠ 0 := by
              by_cases h5 : n / 128 / 128 ≤ 127
              · rw [varB_small h5]; simp
              · rw [varB_great h5]; simp
            rw [h4] at this
            simp at this
        · exact e
/-- A number's bytes, and no other's: those that tell it with no nought at the end. -/
theorem varB_iff {c : UInt8} (hc : c.toNat ≤ 127) (ds : List UInt8) (hd : ∀ d, d ∈ ds → 127 < d.toNat) : varB (decL (ds ++ [c])) = ds ++ [c] ↔ (ds = [] ∨ c.toNat ≠ 0) :=
  ⟨varB_last _ _ _, varB_dec hc ds hd⟩
end Am
