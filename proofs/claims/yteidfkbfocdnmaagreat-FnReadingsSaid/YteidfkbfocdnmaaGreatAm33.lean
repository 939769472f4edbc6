/- The library's sort and compaction of strings, as contracts here. No condition. -/
import Derived.Test.YteidfkbfocdnmaaGreatAm32
import Derived.Sort.OwnSorted
import Derived.Lib.OwnBridge
namespace Am
open Go Go.Proofs Go.Sort
set_option linter.unusedSimpArgs false
set_option linter.unusedVariables false
open Cel (cells)

/-- Strings as their bytes' lists, in order. -/
def sortL (zs : List (List UInt8)) : List (List UInt8) := zs.mergeSort fun x y => decide (x ≤ y)
def byts (xs : List ByteArray) : List (List UInt8) := xs.map (·.data.toList)
def strs' (zs : List (List UInt8)) : List ByteArray := zs.map fun z => ⟨z.toArray⟩
def sortS (xs : List ByteArray) : List ByteArray := strs' (sortL (byts xs))

theorem enc_byts (xs : List ByteArray) : (byts xs).map encStr = xs.map Value.string := by
  simp only [byts, List.map_map]
  apply List.map_congr_left
  intro x _
  simp [encStr]
theorem enc_strs (zs : List (List UInt8)) : zs.map encStr = (strs' zs).map Value.string := by
  simp [strs', encStr, Function.comp_def]
theorem Rs_strs {w : World} {U : Nat → Prop} : ∀ (xs : List ByteArray), Rs w U (flat xs) (xs.map Value.string) []
  | [] => by simp [Rs]
  | x :: xs => by
    rw [flat_cons]
    show Rs w U (PV.str x :: flat xs) (Value.string x :: xs.map Value.string) []
    simp only [Rs]
    exact ⟨[], [], ⟨rfl, rfl⟩, Rs_strs xs, rfl⟩
theorem Rs_strs_inv {w : World} {U : Nat → Prop} : ∀ {xs : List ByteArray} {vs : List Value} {F : List Nat}, Rs w U (flat xs) vs F → vs = xs.map Value.string ∧ F = []
  | [], [], F, h => by simp only [flat_nil, Rs] at h; exact ⟨rfl, h⟩
  | [], _ :: _, F, h => by simp [Rs] at h
  | x :: xs, [], F, h => by
    rw [flat_cons] at h
    exact absurd (show Rs w U (PV.str x :: flat xs) [] F from h) (by simp [Rs])
  | x :: xs, v :: vs, F, h => by
    rw [flat_cons] at h
    replace h : Rs w U (PV.str x :: flat xs) (v :: vs) F := h
    simp only [Rs, R] at h
    obtain ⟨F1, F2, ⟨h1, h2⟩, h3, h4⟩ := h
    obtain ⟨e1, e2⟩ := Rs_strs_inv h3
    subst h2; subst e2; subst h4; subst h1; subst e1
    exact ⟨rfl, rfl⟩

theorem GrownF_of {w w' : World} {g : Nat} (h : w.grownBy w' (some g)) (hd : w.drawn ≤ w'.drawn) : GrownF w w' [g] :=
  ⟨h.os, ⟨h.tape, hd⟩, h.output, h.size, fun k hk hn => h.block k hk (fun e => hn (by cases e; simp))⟩

theorem sortL_len (zs : List (List UInt8)) : (sortL zs).length = zs.length := List.length_mergeSort zs
theorem sortS_len (xs : List ByteArray) : (sortS xs).length = xs.length := by simp [sortS, strs', sortL_len, byts]

/-- slices.Sort of strings. -/
theorem FnW_sort {P : Program} {f : Nat} {ety : Nat} (hfin : FnIn P f)
    (hnone : ∀ (p : Option Addr) (cap : Nat) (w : World), Calls P f #[.slice p 0 cap] w fun e w' => e = .returned (.tuple #[]) ∧ w' = w)
    (hsort : ∀ (blk off cap : Nat) (zs : List (List UInt8)) (w : World), Holds encStr w blk off zs.toArray → blk < w.heap.size → zs.length < 4611686018427387904 →
      Calls P f #[.slice (some ⟨blk, off, none⟩) zs.length cap] w fun e w' => e = .returned (.tuple #[]) ∧ ∃ n os, w' = grow (putRow encStr (Sort.ahead w n) blk off (zs.mergeSort fun x y => decide (x ≤ y)).toArray) os)
    (xs : List ByteArray) (hx : xs.length ≤ 1073741824) : FnW P f [.v (.ow ety 1 xs.length (flat xs))] (.tup []) [.v (.ow ety 1 xs.length (flat (sortS xs)))] := by
  refine ⟨hfin, fun w V vals F hargs hnd hV hF => ?_⟩
  match vals, hargs with
  | [v], hargs =>
    simp only [CRs] at hargs
    obtain ⟨F1, F2, hR, rfl, rfl⟩ := hargs
    simp only [CR, R] at hR
    obtain ⟨us, F', hown, hrs, rfl⟩ := hR
    obtain ⟨rfl, rfl⟩ := Rs_strs_inv hrs
    rcases hown.2 with ⟨rfl, hn⟩ | ⟨g, cap, cur, rfl, hbase, hb, h1, h2, h3, h4⟩
    · have hx0 : xs = [] := List.eq_nil_of_length_eq_zero hn
      subst hx0
      refine (hnone none 0 w).mono ?_
      rintro e w' ⟨rfl, rfl⟩
      refine ⟨_, [], [], rfl, ⟨rfl, Tp.refl _, rfl, Nat.le_refl _, fun _ _ _ => rfl⟩, by simp [CR, CRs], ?_, by simp, by simp⟩
      simp only [CRs, CR, R]
      refine ⟨[], [], ⟨_, [], hown, ?_, rfl⟩, rfl, rfl⟩
      have e0 : sortS [] = [] := by simp [sortS, strs', sortL, byts]
      rw [e0]
      exact Rs_strs (w := w') []
    · have hlen : (byts xs).length = xs.length := by simp [byts]
      have hH : Holds encStr w g 0 (byts xs).toArray := holds_of_block hb (by rw [hlen, enc_byts]; simpa using h4)
      have hgl : g < w.heap.size := (Array.getElem?_eq_some_iff.1 hb).1
      have hc := hsort g 0 cap (byts xs) w hH hgl (by omega)
      rw [hlen] at hc
      refine hc.mono ?_
      rintro e w' ⟨rfl, n, os, rfl⟩
      have hrow := ownsRow_sorted (n := n) (os := os) (ss := byts xs) (ts := sortL (byts xs)) (sortL_len _) hbase hb (by omega) h2 h3
      have hgr := grownBy_sorted (w := w) (g := g) (n := n) (os := os) (sortL (byts xs)).toArray
      rw [hlen] at hrow
      refine ⟨_, [], [g], rfl, by simpa [Value.ownBlock, sortL] using GrownF_of hgr (by simp [grow, putRow, mapBlock, Sort.ahead]), by simp [CR, CRs], ?_, by simp, ?_⟩
      · simp only [CRs, CR, R]
        refine ⟨[g], [], ⟨_, [], hrow, ?_, by simp [Value.ownBlock]⟩, rfl, by simp⟩
        rw [enc_strs]
        exact Rs_strs _
      · intro k hk
        simp only [List.nil_append, List.mem_singleton] at hk
        subst hk
        exact ⟨Nat.lt_of_lt_of_le hgl hgr.size, .inr (by simp [Value.ownBlock])⟩
  | [], h => simp [CRs] at h
  | _ :: _ :: _, h =>
    simp only [CRs] at h
    obtain ⟨F1, F2, _, h2, _⟩ := h
    exact h2.elim

def compactS (xs : List ByteArray) : List ByteArray := strs' (Lib.compact (byts xs))
/-- slices.Compact of strings. -/
theorem FnW_compact {P : Program} {f : Nat} {ety : Nat} (hfin : FnIn P f)
    (hnone : ∀ (a : Option Addr) (cap : Nat) (w : World), Calls P f #[.slice a 0 cap] w fun e w' => e = .returned (.slice a 0 cap) ∧ w' = w)
    (hcomp : ∀ (blk off cap : Nat) (zs : List (List UInt8)) (w : World), Holds encStr w blk off zs.toArray → zs.length ≤ 9223372036854775807 → zs.length ≤ cap →
      Calls P f #[.slice (some ⟨blk, off, none⟩) zs.length cap] w fun e w' => e = .returned (.slice (some ⟨blk, off, none⟩) (Lib.compact zs).length cap) ∧ ∃ q, w' = putRow encStr (Sort.ahead w q) blk off (Lib.compact zs ++ List.replicate (zs.length - (Lib.compact zs).length) []).toArray)
    (xs : List ByteArray) (hx : xs.length ≤ 1073741824) : FnW P f [.v (.ow ety 1 xs.length (flat xs))] (.v (.ow ety 1 (compactS xs).length (flat (compactS xs)))) [.any] := by
  have hcl : (compactS xs).length = (Lib.compact (byts xs)).length := by simp [compactS, strs']
  refine ⟨hfin, fun w V vals F hargs hnd hV hF => ?_⟩
  match vals, hargs with
  | [v], hargs =>
    simp only [CRs] at hargs
    obtain ⟨F1, F2, hR, rfl, rfl⟩ := hargs
    simp only [CR, R] at hR
    obtain ⟨us, F', hown, hrs, rfl⟩ := hR
    obtain ⟨rfl, rfl⟩ := Rs_strs_inv hrs
    rcases hown.2 with ⟨rfl, hn⟩ | ⟨g, cap, cur, rfl, hbase, hb, h1, h2, h3, h4⟩
    · have hx0 : xs = [] := List.eq_nil_of_length_eq_zero hn
      subst hx0
      refine (hnone none 0 w).mono ?_
      rintro e w' ⟨rfl, rfl⟩
      have e0 : compactS [] = [] := by simp only [compactS, strs', byts, List.map_nil]; rfl
      refine ⟨_, [], [], rfl, ⟨rfl, Tp.refl _, rfl, Nat.le_refl _, fun _ _ _ => rfl⟩, ?_, by simp [CR, CRs], by simp, by simp⟩
      rw [e0]
      simp only [CR, R]
      exact ⟨_, [], hown, Rs_strs (w := w') [], rfl⟩
    · have hlen : (byts xs).length = xs.length := by simp [byts]
      have hH : Holds encStr w g 0 (byts xs).toArray := holds_of_block hb (by rw [hlen, enc_byts]; simpa using h4)
      have hgl : g < w.heap.size := (Array.getElem?_eq_some_iff.1 hb).1
      have hc := hcomp g 0 cap (byts xs) w hH (by omega) (by omega)
      rw [hlen] at hc
      refine hc.mono ?_
      rintro e w' ⟨rfl, q, rfl⟩
      have hle := Lib.compact_length_le (byts xs)
      have hown' : w.ownsRow 0 ety 1 (.slice (some ⟨g, 0, none⟩) xs.length cap) xs.length ((byts xs).map encStr) := by rw [enc_byts]; exact hown
      have hrow := Lib.ownsRow_putRow (q := q) (k := (Lib.compact (byts xs)).length) (ys := Lib.compact (byts xs) ++ List.replicate (xs.length - (Lib.compact (byts xs)).length) []) hown' (by simp; omega) (by omega)
      rw [List.take_left] at hrow
      refine ⟨_, [g], [], rfl, ?_, ?_, by simp [CR, CRs], by simp, ?_⟩
      · refine ⟨rfl, ⟨rfl, by simp [putRow, mapBlock, Sort.ahead]⟩, rfl, by simp [putRow, mapBlock, Sort.ahead], fun k hk hn => ?_⟩
        have : g ≠ k := fun e => hn (by simp [Value.ownBlock, e])
        simp [putRow, mapBlock, Sort.ahead, Array.getElem?_modify, this]
      · rw [hcl]
        simp only [CR, R]
        refine ⟨_, [], hrow, ?_, by simp [Value.ownBlock]⟩
        rw [enc_strs]
        exact Rs_strs _
      · intro k hk
        simp only [List.append_nil, List.mem_singleton] at hk
        subst hk
        exact ⟨by simpa [putRow, mapBlock, Sort.ahead] using hgl, .inr (by simp [Value.ownBlock])⟩
  | [], h => simp [CRs] at h
  | _ :: _ :: _, h =>
    simp only [CRs] at h
    obtain ⟨F1, F2, _, h2, _⟩ := h
    exact h2.elim
end Am
