/- The types' table against the program's. No condition. -/
import Derived.Test.YtlkkgdealgceeaaAm2
import Derived.Laws.StructEq
namespace Am
open Go

def zmatch : AV → Value → Bool
  | .c (.int k n), .int k' n' => decide (k = k') && decide (n = n')
  | .c (.bool b), .bool b' => b == b'
  | .c (.str s), .string s' => decide (s.size = 0) && decide (s'.size = 0)
  | .nil, .slice none 0 0 => true
  | _, _ => false

def zmatches : List AV → List Value → Bool
  | [], [] => true
  | a :: as, v :: vs => zmatch a v && zmatches as vs
  | _, _ => false

def kmatch : TyK → TypeDesc → Bool
  | .int k, .int k' => decide (k = k')
  | .bool, .bool => true
  | .str, .string => true
  | .slice e, .slice e' => e == e'
  | .struct fs, .struct fields => (fields.toList.map fun f => (f.offset, f.type)) == fs
  | .other, _ => true
  | _, _ => false

/-- A struct's cells are its fields', one behind the other, of the kinds of these zeros. -/
def eqFs (P : Program) (rec_ : Nat → List AV → Bool) : List Field → Nat → List AV → Bool
  | [], _, zs => zs.isEmpty
  | f :: r, pos, zs => f.name != "_" && f.offset == pos && (match P.underlying f.type, zs with
    | some (.int _), .c (.int _ _) :: zs => eqFs P rec_ r (pos + 1) zs
    | some .bool, .c (.bool _) :: zs => eqFs P rec_ r (pos + 1) zs
    | some .string, .c (.str _) :: zs => eqFs P rec_ r (pos + 1) zs
    | some (.struct _), zs => (P.info? f.type).isSome && decide (P.cellsOf f.type ≤ zs.length) && rec_ f.type (zs.take (P.cellsOf f.type)) && eqFs P rec_ r (pos + P.cellsOf f.type) (zs.drop (P.cellsOf f.type))
    | _, _ => false)

def eqB (P : Program) : Nat → Nat → List AV → Bool
  | 0, _, _ => false
  | d + 1, t, zs => decide (0 < d) && (match P.underlying t with | some (.struct _) => true | _ => false) && !P.stoodInHeld t && eqFs P (eqB P d) (P.fieldsOf t).toList 0 zs

def tyB (P : Program) (t : Nat) (i : TyI) : Bool :=
  match P.info? t, P.underlying t with
  | some ti, some d => ti.size == i.size && ti.bytes == i.bytes && kmatch i.k d && (match ti.zero with
    | some z => (match i.k with | .other => true | _ => zmatches i.zero z.cells.toList) && (match i.k, z with | .struct _, .agg _ => true | .struct _, _ => false | _, .agg _ => false | _, .tuple _ => false | _, _ => true)
    | none => false) && (match d with | .struct fields => fields.toList.all (fun f => (P.info? f.type).isSome) | _ => true) && (!i.eq || (eqB P 50 t i.zero && !P.eqGuardType P.depth t))
  | _, _ => false

def TyOK (P : Program) (T : Ty) : Prop := P.follows .mixedOrders = true ∧ (T.all fun x => tyB P x.1 x.2) = true

structure TyM (P : Program) (t : Nat) (i : TyI) : Prop where
  info : ∃ ti z, P.info? t = some ti ∧ ti.size = i.size ∧ ti.bytes = i.bytes ∧ ti.zero = some z ∧ (i.k ≠ .other → zmatches i.zero z.cells.toList = true) ∧ ((∃ fs, i.k = .struct fs) → ∃ cs, z = .agg cs)
  und : ∃ d, P.underlying t = some d ∧ kmatch i.k d = true
  fld : ∀ fields : Array Field, P.underlying t = some (.struct fields) → ∀ f, f ∈ fields.toList → (P.info? f.type).isSome = true
  eq : i.eq = true → eqB P 50 t i.zero = true ∧ P.eqGuardType P.depth t = false

theorem lookup_mem {T : Ty} {t : Nat} {i : TyI} (h : T.lookup t = some i) : (t, i) ∈ T := by
  induction T with
  | nil => simp at h
  | cons x T ih =>
    obtain ⟨k, j⟩ := x
    simp only [List.lookup] at h
    split at h
    · rename_i hk
      have : t = k := by simpa using hk
      subst this
      cases h
      exact List.mem_cons_self
    · exact List.mem_cons_of_mem _ (ih h)

theorem TyOK.m {P : Program} {T : Ty} (hT : TyOK P T) {t : Nat} {i : TyI} (h : T.lookup t = some i) : TyM P t i := by
  have hb := List.all_eq_true.1 hT.2 _ (lookup_mem h)
  simp only [tyB] at hb
  split at hb
  · rename_i ti d hi hd
    simp only [Bool.and_eq_true, Bool.or_eq_true, Bool.not_eq_true', beq_iff_eq] at hb
    obtain ⟨⟨⟨⟨⟨h1, h2⟩, h3⟩, h4⟩, h6⟩, h5⟩ := hb
    split at h4
    · rename_i z hz
      simp only [Bool.and_eq_true] at h4
      refine ⟨⟨ti, z, hi, h1, h2, hz, fun hk => ?_, fun ⟨fs, hfs⟩ => ?_⟩, ⟨d, hd, h3⟩, fun fields hfl f hf => ?_, fun he => ?_⟩
      · have h6 := h4.1
        split at h6
        · rename_i hk'; exact absurd hk' hk
        · exact h6
      · have h7 := h4.2
        rw [hfs] at h7
        cases z <;> first | exact ⟨_, rfl⟩ | (simp at h7)
      · rw [hd] at hfl
        cases hfl
        exact List.all_eq_true.1 h6 f hf
      · rw [he] at h5
        simpa using h5
    · cases h4
  · cases hb

theorem TyM.int {P : Program} {t : Nat} {i : TyI} (h : TyM P t i) {k : IntKind} (hk : i.k = .int k) : P.underlying t = some (.int k) := by
  obtain ⟨d, hd, hm⟩ := h.und
  rw [hk] at hm
  cases d <;> simp [kmatch] at hm
  rw [hd, hm]

theorem TyM.bool {P : Program} {t : Nat} {i : TyI} (h : TyM P t i) (hk : i.k = .bool) : P.underlying t = some .bool := by
  obtain ⟨d, hd, hm⟩ := h.und
  rw [hk] at hm
  cases d <;> simp [kmatch] at hm
  exact hd

theorem TyM.str {P : Program} {t : Nat} {i : TyI} (h : TyM P t i) (hk : i.k = .str) : P.underlying t = some .string := by
  obtain ⟨d, hd, hm⟩ := h.und
  rw [hk] at hm
  cases d <;> simp [kmatch] at hm
  exact hd

theorem TyM.slice {P : Program} {t : Nat} {i : TyI} (h : TyM P t i) {e : Nat} (hk : i.k = .slice e) : P.underlying t = some (.slice e) := by
  obtain ⟨d, hd, hm⟩ := h.und
  rw [hk] at hm
  cases d <;> simp [kmatch] at hm
  rw [hd, hm]

theorem TyM.struct {P : Program} {t : Nat} {i : TyI} (h : TyM P t i) {fs : List (Nat × Nat)} (hk : i.k = .struct fs) :
    ∃ fields : Array Field, P.underlying t = some (.struct fields) ∧ (fields.toList.map fun f => (f.offset, f.type)) = fs := by
  obtain ⟨d, hd, hm⟩ := h.und
  rw [hk] at hm
  cases d <;> simp [kmatch] at hm
  exact ⟨_, hd, by simpa using hm⟩

section
variable {P : Program} {t : Nat} {i : TyI} (w : World)
theorem TyM.run_sizeOf (h : TyM P t i) : (Go.sizeOf t).run P w = .ok i.size w := by
  obtain ⟨ti, z, hi, h1, _⟩ := h.info
  simp [Go.sizeOf, typeInfo, hi, h1]

theorem TyM.run_isAgg (h : TyM P t i) (hk : i.k ≠ .other) : (isAgg t).run P w = .ok (match i.k with | .struct _ => true | _ => false) w := by
  obtain ⟨d, hd, hm⟩ := h.und
  cases hk' : i.k with
  | other => exact absurd hk' hk
  | int k => have := h.int hk'; simp [isAgg, run_underlying this]
  | bool => have := h.bool hk'; simp [isAgg, run_underlying this]
  | str => have := h.str hk'; simp [isAgg, run_underlying this]
  | slice e => have := h.slice hk'; simp [isAgg, run_underlying this]
  | struct fs => obtain ⟨fields, h1, _⟩ := h.struct hk'; simp [isAgg, run_underlying h1]
end

theorem zmatch_AR {w : World} {U : Nat → Prop} {O : Nat → AObj} {ι : Nat → Value} {a : AV} {v : Value} (h : zmatch a v = true) : AR w U O ι a v ∧ v.oneCell' = true := by
  unfold zmatch at h
  split at h
  · simp only [Bool.and_eq_true, decide_eq_true_eq] at h; obtain ⟨rfl, rfl⟩ := h; exact ⟨by simp [AR, R], rfl⟩
  · rename_i b b'
    have : b = b' := by simpa using h
    subst this; exact ⟨by simp [AR, R], rfl⟩
  · rename_i s s'
    simp only [Bool.and_eq_true, decide_eq_true_eq] at h
    have e : ∀ (s : ByteArray), s.size = 0 → s = ⟨#[]⟩ := fun s h => by
      obtain ⟨d⟩ := s
      have : d.size = 0 := h
      rw [Array.size_eq_zero_iff.1 this]
    rw [e s h.1, e s' h.2]
    exact ⟨by simp [AR, R], rfl⟩
  · exact ⟨by simp [AR], rfl⟩
  · cases h

theorem zmatches_ARs {w : World} {U : Nat → Prop} {O : Nat → AObj} {ι : Nat → Value} : ∀ {as : List AV} {vs : List Value}, zmatches as vs = true → ARs w U O ι as vs ∧ ∀ x ∈ vs, x.oneCell' = true
  | [], [], _ => ⟨by simp [ARs], by simp⟩
  | a :: as, v :: vs, h => by
    simp only [zmatches, Bool.and_eq_true] at h
    have h1 := zmatch_AR (w := w) (U := U) (O := O) (ι := ι) h.1
    have h2 := zmatches_ARs (w := w) (U := U) (O := O) (ι := ι) h.2
    refine ⟨by simp only [ARs]; exact ⟨h1.1, h2.1⟩, ?_⟩
    intro x hx
    simp at hx
    rcases hx with rfl | hx
    · exact h1.2
    · exact h2.2 x hx
  | [], _ :: _, h => by simp [zmatches] at h
  | _ :: _, [], h => by simp [zmatches] at h

end Am
