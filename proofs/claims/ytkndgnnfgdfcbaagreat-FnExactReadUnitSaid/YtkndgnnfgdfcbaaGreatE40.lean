/- A unit read, of both. No condition. -/
import Derived.Test.YtkndgnnfgdfcbaaGreatT
import Derived.Test.YtkndgnnfgdfcbaaGreatD
import Derived.Test.YtkndgnnfgdfcbaaGreatE37
import Derived.Test.YtkndgnnfgdfcbaaGreatE39
import Derived.Test.YtkndgnnfgdfcbaaGreatAm31
namespace Am
open Go Go.Proofs
open Cel (cells)
set_option maxRecDepth 100000
set_option linter.unusedSimpArgs false
set_option linter.unusedVariables false

def GUnit.empty : GUnit := ⟨false, zeroAct, zeroDelta⟩
def rdUnM (t : ByteArray) : GUnit × Bool :=
  if unOk t = true ∧ 0 < (unS t).size then
    if bt (unS t) 0 = 0 then
      if (rdAct (unS t) 1).2.2 = true ∧ (rdAct (unS t) 1).2.1 = (unS t).size then (⟨false, (rdAct (unS t) 1).1, zeroDelta⟩, true) else (GUnit.empty, false)
    else if bt (unS t) 0 = 1 then
      if (rs (unS t) 1).isSome = true ∧ (rdDlM (rsS (rs (unS t) 1))).2 = true ∧ rsN (rs (unS t) 1) = (unS t).size then (⟨true, zeroAct, (rdDlM (rsS (rs (unS t) 1))).1⟩, true) else (GUnit.empty, false)
    else (GUnit.empty, false)
  else (GUnit.empty, false)
def bk (u : GUnit) (t : ByteArray) : Prop := unitTextOk u = true ∧ unitText u = t
instance (u : GUnit) (t : ByteArray) : Decidable (bk u t) := inferInstanceAs (Decidable (_ ∧ _))
def rdUnS (t : ByteArray) : GUnit × Bool :=
  if unOk t = true ∧ 0 < (unS t).size then
    if bt (unS t) 0 = 1 then
      if ((rdDlM (rsS (rs (unS t) 1))).2 = true ∧ (rs (unS t) 1).isSome = true) ∧ bk ⟨true, zeroAct, (rdDlM (rsS (rs (unS t) 1))).1⟩ t then (⟨true, zeroAct, (rdDlM (rsS (rs (unS t) 1))).1⟩, true) else (GUnit.empty, false)
    else
      if (rdAct (unS t) 1).2.2 = true ∧ bk ⟨false, (rdAct (unS t) 1).1, zeroDelta⟩ t then (⟨false, (rdAct (unS t) 1).1, zeroDelta⟩, true) else (GUnit.empty, false)
  else (GUnit.empty, false)
theorem rdDl_facts {x : ByteArray} (h : (rdDlM x).2 = true) : deltaOk (rdDlM x).1 = true ∧ deltaTextOk (rdDlM x).1 = true ∧ deltaText (rdDlM x).1 = x := by
  rw [← rdDl_eq] at h ⊢
  unfold rdDlS resDS at h ⊢
  split at h
  · rename_i hc
    rw [if_pos hc]
    refine ⟨hc.2.1.1, by simp only [deltaTextOk, hc.2.1.1, hc.2.1.2]; rfl, ?_⟩
    rw [deltaText, if_pos hc.2.1.1]
    exact hc.2.2
  · cases h
theorem rdAct_facts {t : ByteArray} {p : Int} (h0 : 0 ≤ p) (h1 : p ≤ t.size) (h : (rdAct t p).2.2 = true) : actOk (rdAct t p).1 = true ∧ p ≤ (rdAct t p).2.1 ∧ (rdAct t p).2.1 ≤ t.size ∧ t.extract p.toNat (rdAct t p).2.1.toNat = actS (rdAct t p).1 := by
  have sg := actM_rdr.g ⟨t, p, false⟩ ⟨h0, h1⟩
  unfold rdAct at h ⊢
  split at h
  · rename_i hc
    rw [if_pos hc]
    have sg := sg hc.1
    exact ⟨hc.2, sg.l, sg.h, sg.e⟩
  · cases h
theorem rdAct_Ok (t : ByteArray) (p : Int) : (rdAct t p).1.Ok := by
  unfold rdAct
  split
  · exact actM_Ok _
  · simp [zeroAct, GAct.Ok]; decide
theorem unit_iff {u : GUnit} {t : ByteArray} (hu : unOk t = true) (ho : unitTOk u = true) : bk u t ↔ unS t = unitS u := by
  unfold bk unitTextOk unitText
  rw [if_pos ho, ho, Bool.true_and]
  constructor
  · rintro ⟨h1, h2⟩; exact seal_unS h1 h2 hu
  · intro h
    have := unS_seal hu
    rw [h] at this
    exact ⟨this.2, this.1⟩
theorem unitTOk_of {u : GUnit} {t : ByteArray} (h : bk u t) : unitTOk u = true := by
  have := h.1
  simp only [unitTextOk, Bool.and_eq_true] at this
  exact this.1
theorem lead {x : ByteArray} (h : 0 < x.size) : x = str [u8 (bt x 0)] ++ x.extract 1 x.size := by
  obtain ⟨c, h1, h2⟩ := bt_at (t := x) (k := 0) h
  have h2' : bt x 0 = c.toNat := h2
  rw [h2', u8_toNat, extract_str]
  apply ByteArray.ext
  apply Array.ext'
  rw [ByteArray.data_append]
  have e : x.data.toList = c :: x.data.toList.drop 1 := by simpa using h1
  have e2 : (x.data.toList.drop 1).take (x.size - 1) = x.data.toList.drop 1 := by
    apply List.take_of_length_le
    rw [List.length_drop]
    exact Nat.le_refl _
  rw [e2]
  simp only [str, Array.toList_append]
  exact e
theorem bt_lead {c : UInt8} {y : ByteArray} : bt (str [c] ++ y) 0 = c.toNat := by
  have hs : 0 < (str [c] ++ y).size := by rw [ByteArray.size_append, str_size]; simp; omega
  obtain ⟨d, h1, h2⟩ := bt_at (t := str [c] ++ y) (k := 0) hs
  have h2' : bt (str [c] ++ y) 0 = d.toNat := h2
  rw [h2']
  rw [ByteArray.data_append] at h1
  simp [str] at h1
  rw [h1]
theorem one_str : (⟨#[1]⟩ : ByteArray) = str [1] := rfl
theorem nought_str : (⟨#[0]⟩ : ByteArray) = str [0] := rfl
theorem whole_iff {x y : ByteArray} {n : Int} {c : UInt8} (hs : 0 < x.size) (hc : u8 (bt x 0) = c) (h1 : 1 ≤ n) (h2 : n ≤ x.size) (he : x.extract 1 n.toNat = y) : x = str [c] ++ y ↔ n = x.size := by
  have hy : y.size = n.toNat - 1 := by rw [← he, ByteArray.size_extract]; omega
  constructor
  · intro h
    have := congrArg ByteArray.size h
    rw [ByteArray.size_append, str_size, hy] at this
    simp at this
    omega
  · intro h
    have e := lead hs
    rw [hc] at e
    have : n.toNat = x.size := by omega
    rw [this] at he
    rw [he] at e
    exact e
theorem rs_facts {t : ByteArray} (h : (rs t 1).isSome = true) : 1 ≤ rsN (rs t 1) ∧ rsN (rs t 1) ≤ t.size ∧ t.extract 1 (rsN (rs t 1)).toNat = shortS (rsS (rs t 1)) := by
  cases g : rs t 1 with
  | none => rw [g] at h; cases h
  | some x =>
    obtain ⟨y, a⟩ := x
    obtain ⟨n, b, h1, h2, h3, rfl, rfl⟩ := rs_spec g
    have sp := rd_spec h1
    refine ⟨by simp only [rsN]; omega, by simp only [rsN]; omega, ?_⟩
    simp only [rsN, rsS]
    have e : ((t.extract b.toNat (b + n).toNat).size : Int) = n := by
      rw [ByteArray.size_extract]; omega
    have e2 := rd_canon h1
    rw [shortS, e, ← e2, ByteArray.extract_append_extract]
    congr 1 <;> omega
theorem rdUn_eq (t : ByteArray) : rdUnS t = rdUnM t := by
  unfold rdUnS rdUnM
  by_cases hc : unOk t = true ∧ 0 < (unS t).size
  · rw [if_pos hc, if_pos hc]
    by_cases b1 : bt (unS t) 0 = 1
    · have b0 : ¬ bt (unS t) 0 = 0 := by omega
      rw [if_pos b1, if_neg b0, if_pos b1]
      by_cases hr : (rs (unS t) 1).isSome = true
      · by_cases hd : (rdDlM (rsS (rs (unS t) 1))).2 = true
        · obtain ⟨f1, f2, f3⟩ := rdDl_facts hd
          have ho : unitTOk ⟨true, zeroAct, (rdDlM (rsS (rs (unS t) 1))).1⟩ = true := by simp [unitTOk, unitOk, f1, f2]
          have hi := unit_iff hc.1 ho
          obtain ⟨g1, g2, g3⟩ := rs_facts hr
          have hw := whole_iff (c := 1) hc.2 (by rw [b1]; rfl) g1 g2 g3
          have e : unitS ⟨true, zeroAct, (rdDlM (rsS (rs (unS t) 1))).1⟩ = str [1] ++ shortS (rsS (rs (unS t) 1)) := by
            simp only [unitS, if_true, f3]; rfl
          rw [e, hw] at hi
          by_cases hn : rsN (rs (unS t) 1) = (unS t).size
          · rw [if_pos ⟨⟨hd, hr⟩, hi.2 hn⟩, if_pos ⟨hr, hd, hn⟩]
          · rw [if_neg fun h => hn (hi.1 h.2), if_neg fun h => hn h.2.2]
        · rw [if_neg fun h => hd h.1.1, if_neg fun h => hd h.2.1]
      · rw [if_neg fun h => hr h.1.2, if_neg fun h => hr h.1]
    · rw [if_neg b1]
      by_cases ha : (rdAct (unS t) 1).2.2 = true
      · obtain ⟨g0, g1, g2, g3⟩ := rdAct_facts (by omega) (by omega) ha
        have ho : unitTOk ⟨false, (rdAct (unS t) 1).1, zeroDelta⟩ = true := by simp [unitTOk, unitOk, g0]
        have hi := unit_iff hc.1 ho
        have e : unitS ⟨false, (rdAct (unS t) 1).1, zeroDelta⟩ = str [0] ++ actS (rdAct (unS t) 1).1 := by
          simp [unitS]; rfl
        rw [e] at hi
        by_cases b0 : bt (unS t) 0 = 0
        · rw [if_pos b0]
          have hw := whole_iff (c := 0) hc.2 (by rw [b0]; rfl) g1 g2 g3
          rw [hw] at hi
          by_cases hn : (rdAct (unS t) 1).2.1 = (unS t).size
          · rw [if_pos ⟨ha, hi.2 hn⟩, if_pos ⟨ha, hn⟩]
          · rw [if_neg fun h => hn (hi.1 h.2), if_neg fun h => hn h.2]
        · rw [if_neg b0, if_neg b1, if_neg fun h => b0 (by rw [hi.1 h.2, bt_lead]; rfl)]
      · rw [if_neg fun h => ha h.1]
        split
        · rw [if_neg fun h => ha h.1]
        · rfl
  · rw [if_neg hc, if_neg hc]
theorem rdDlM_Ok (t : ByteArray) : (rdDlM t).1.Ok := by
  unfold rdDlM resDM
  split
  · exact dlM_Ok _
  · simp [GDelta.empty, GDelta.Ok]

end Am
