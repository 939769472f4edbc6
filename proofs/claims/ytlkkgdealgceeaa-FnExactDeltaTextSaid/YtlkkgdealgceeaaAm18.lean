/- A region whose order is drawn. No condition. -/
import Derived.Test.YtlkkgdealgceeaaAm17
namespace Am
open Go
set_option linter.unusedSimpArgs false
set_option linter.unusedVariables false
set_option linter.unnecessarySimpa false

/-- Of one operation of a drawn region: which objects that are there it writes; does it make new ones; which objects, and whose slots' objects, are not to be looked at by it. -/
structure DH where
  wr : List Nat := []
  cr : Bool := false
  mn : List Nat := []
  mb : List Nat := []
  deriving Inhabited

def DH.masked (h : DH) (x : Nat) : Bool := h.mn.contains x || h.mb.contains (x / 64)

def msk (h : DH) (O : Nat → AObj) (x : Nat) : AObj := match h.masked x with
  | true => .none
  | false => O x

def oeOk (h : DH) (dst : Option Nat) : List (Nat × AObj) → Prop
  | [] => True
  | (x, _) :: r => (h.wr.contains x = true ∨ (h.cr = true ∧ dst = some (x / 64))) ∧ h.masked x = false ∧ oeOk h dst r

/-- What runs ahead of an operation, as bits. -/
def befMask (acc : List Nat) : List Edge → Nat → Nat
  | [], m => m
  | e :: r, m => befMask acc r (m ||| 2 ^ e.on ||| acc.getD e.on 0)

def befGo : List Oper → List Nat → List Nat
  | [], acc => acc
  | o :: r, acc => befGo r (acc ++ [befMask acc (o.after.toList.filter (Region.binds .any)) 0])

def befs (ops : Array Oper) : List Nat := befGo ops.toList []

def unordered (bs : List Nat) (j k : Nat) : Bool := j != k && !(bs.getD j 0).testBit k && !(bs.getD k 0).testBit j

def pairOk (ops : Array Oper) (hs : List DH) (j k : Nat) : Bool :=
  match ops[j]?, ops[k]?, hs[j]?, hs[k]? with
  | some oj, some ok, some hj, some hk =>
    (match ok.dst with
     | some d => !(oj.looksAt ops).contains d && oj.dst != some d
     | none => true) &&
    hk.wr.all hj.mn.contains &&
    (!hk.cr || match ok.dst with | some d => hj.mb.contains d | none => false)
  | _, _, _, _ => false

def oneOk (N : Nat × Nat) (ops : Array Oper) (hs : List DH) (j : Nat) : Bool :=
  match ops[j]?, hs[j]? with
  | some o, some h => (o.after.toList.all fun e => !Region.binds .any e || decide (e.on < j)) &&
    (match o.dst with
     | some d => decide (N.1 ≤ d) && decide (d < N.2) && !h.masked (64 * d + 63)
     | none => true)
  | _, _ => false

def drawOk (N : Nat × Nat) (ops : Array Oper) (hs : List DH) : Bool :=
  let bs := befs ops
  hs.length == ops.size && (List.range ops.size).all fun j => oneOk N ops hs j && (List.range ops.size).all fun k => !unordered bs j k || pairOk ops hs j k

def adraw (P : Program) (T : Ty) (H : Hints) (ops : Array Oper) : List (Oper × DH) → AEnv → (AEnv → Prop) → Prop
  | [], σ, K => K σ
  | (o, h) :: r, σ, K => ao1 P T H ops σ (msk h σ.o) o (fun v oe => oeOk h o.dst oe ∧ adraw P T H ops r ((AEnv.wr oe σ).set o.dst v) K)

abbrev Eft := Option Nat × AV × List (Nat × AObj)

def Eft.on (e : Eft) (σ : AEnv) : AEnv := (AEnv.wr e.2.2 σ).set e.1 e.2.1

/-- The effects of those that have run, in the order of the text. -/
def appS (S : Nat → Bool) : List Eft → Nat → AEnv → AEnv
  | [], _, σ => σ
  | e :: r, i, σ => appS S r (i + 1) (if S i = true then e.on σ else σ)

/-- What each operation came to, run in the order of the text. -/
def Tr (P : Program) (T : Ty) (H : Hints) (ops : Array Oper) : List (Oper × DH) → AEnv → List Eft → Prop
  | [], _, [] => True
  | (o, h) :: r, σ, e :: L => e.1 = o.dst ∧ SG P T H ops σ (msk h σ.o) o e.2.1 e.2.2 ∧ oeOk h o.dst e.2.2 ∧ Tr P T H ops r (e.on σ) L
  | [], _, _ :: _ => False
  | _ :: _, _, [] => False

def appL : List Eft → AEnv → AEnv
  | [], σ => σ
  | e :: r, σ => appL r (e.on σ)

section
variable {P : Program} {T : Ty} {H : Hints} {ops : Array Oper} {C : Ctx} {σ σ' : AEnv} {a : Act} {w : World} {ι : Nat → Value} {Fs : Nat → List Nat} {τ : Nat → AObj} {o : Oper}

theorem adraw_trace {K : AEnv → Prop} : ∀ {l : List (Oper × DH)} {σ : AEnv}, adraw P T H ops l σ K → ∃ L, Tr P T H ops l σ L ∧ K (appL L σ)
  | [], σ, h => ⟨[], trivial, h⟩
  | (o, hh) :: r, σ, h => by
    simp only [adraw] at h
    obtain ⟨v, oe, h1, h2, h3⟩ := ao1_SG h
    obtain ⟨L, h4, h5⟩ := adraw_trace h3
    exact ⟨(o.dst, v, oe) :: L, ⟨rfl, h1, h2, h4⟩, h5⟩

theorem Tr_length : ∀ {l : List (Oper × DH)} {σ : AEnv} {L : List Eft}, Tr P T H ops l σ L → L.length = l.length
  | [], _, [], _ => rfl
  | (o, h) :: r, σ, e :: L, h' => by simp only [Tr] at h'; simp [Tr_length h'.2.2.2]
  | [], _, _ :: _, h => by simp only [Tr] at h
  | _ :: _, _, [], h => by simp only [Tr] at h

theorem appS_all {S : Nat → Bool} : ∀ (L : List Eft) (i : Nat) (σ : AEnv), (∀ k, i ≤ k → k < i + L.length → S k = true) → appS S L i σ = appL L σ
  | [], _, _, _ => rfl
  | e :: r, i, σ, h => by
    simp only [appS, appL]
    rw [if_pos (h i (Nat.le_refl _) (by simp)), appS_all r (i + 1) _ (fun k h1 h2 => h k (by omega) (by simp; omega))]

theorem appS_none {S : Nat → Bool} : ∀ (L : List Eft) (i : Nat) (σ : AEnv), (∀ k, i ≤ k → S k = false) → appS S L i σ = σ
  | [], _, _, _ => rfl
  | e :: r, i, σ, h => by
    simp only [appS]
    rw [if_neg (by simp [h i (Nat.le_refl _)]), appS_none r (i + 1) _ (fun k h1 => h k (by omega))]

theorem Tr_get : ∀ {l : List (Oper × DH)} {σ : AEnv} {L : List Eft} {i : Nat}, Tr P T H ops l σ L → ∀ {j : Nat} {o : Oper} {h : DH}, l[j]? = some (o, h) →
    ∃ e, L[j]? = some e ∧ e.1 = o.dst ∧ SG P T H ops (appS (fun k => decide (k < i + j)) L i σ) (msk h (appS (fun k => decide (k < i + j)) L i σ).o) o e.2.1 e.2.2 ∧ oeOk h o.dst e.2.2
  | [], _, [], _, _, j, o, h, hj => by simp at hj
  | (o, h) :: r, σ, e :: L, i, htr, j, o', h', hj => by
    simp only [Tr] at htr
    cases j with
    | zero =>
      simp at hj
      obtain ⟨rfl, rfl⟩ := hj
      refine ⟨e, rfl, htr.1, ?_, htr.2.2.1⟩
      have : appS (fun k => decide (k < i + 0)) (e :: L) i σ = σ := appS_none _ _ _ (fun k hk => by simp; omega)
      rw [this]
      exact htr.2.1
    | succ j =>
      obtain ⟨e', h1, h2, h3, h4⟩ := Tr_get (i := i + 1) htr.2.2.2 (j := j) (by simpa using hj)
      refine ⟨e', by simpa using h1, h2, ?_, h4⟩
      have : appS (fun k => decide (k < i + (j + 1))) (e :: L) i σ = appS (fun k => decide (k < i + 1 + j)) L (i + 1) (e.on σ) := by
        simp only [appS]
        rw [if_pos (by simp)]
        congr 1
        funext k
        congr 1
        simp only [eq_iff_iff]
        omega
      rw [this]
      exact h3
  | [], _, _ :: _, _, h, _, _, _, _ => by simp only [Tr] at h
  | _ :: _, _, [], _, h, _, _, _, _ => by simp only [Tr] at h

theorem wr_o_same {oe : List (Nat × AObj)} {x : Nat} (h : ∃ ob, (x, ob) ∈ oe) : ∀ (σ σ' : AEnv), (AEnv.wr oe σ).o x = (AEnv.wr oe σ').o x := by
  intro σ σ'
  induction oe with
  | nil => obtain ⟨_, h⟩ := h; cases h
  | cons y r ih =>
    obtain ⟨k, ob'⟩ := y
    simp only [AEnv.wr, AEnv.upd]
    by_cases hx : x = k
    · simp [hx]
    · simp only [hx, if_false]
      obtain ⟨ob, h⟩ := h
      rcases List.mem_cons.1 h with h | h
      · cases h; exact absurd rfl hx
      · exact ih ⟨ob, h⟩

theorem set_o (σ : AEnv) (d : Option Nat) (x : AV) : (σ.set d x).o = σ.o := by cases d <;> rfl
theorem set_t_ne (σ : AEnv) (d : Option Nat) (x : AV) {i : Nat} (h : d ≠ some i) : (σ.set d x).t i = σ.t i := by
  cases d with
  | none => rfl
  | some d => simp only [AEnv.set]; rw [if_neg]; intro e; exact h (by rw [e])
theorem set_t_eq (σ : AEnv) (d : Nat) (x : AV) : (σ.set (some d) x).t d = x := by simp [AEnv.set]

theorem on_t (e : Eft) {σ σ' : AEnv} {i : Nat} (h : σ.t i = σ'.t i) : (e.on σ).t i = (e.on σ').t i := by
  unfold Eft.on
  by_cases hd : e.1 = some i
  · rw [hd, set_t_eq, set_t_eq]
  · rw [set_t_ne _ _ _ hd, set_t_ne _ _ _ hd, wr_t, wr_t, h]

theorem on_o (e : Eft) {σ σ' : AEnv} {x : Nat} (h : σ.o x = σ'.o x) : (e.on σ).o x = (e.on σ').o x := by
  unfold Eft.on
  rw [set_o, set_o]
  by_cases hx : ∃ ob, (x, ob) ∈ e.2.2
  · exact wr_o_same hx _ _
  · rw [wr_o_other (fun k ob hm hk => hx ⟨ob, by subst hk; exact hm⟩), wr_o_other (fun k ob hm hk => hx ⟨ob, by subst hk; exact hm⟩), h]

theorem on_t_ne (e : Eft) (σ : AEnv) {i : Nat} (h : e.1 ≠ some i) : (e.on σ).t i = σ.t i := by unfold Eft.on; rw [set_t_ne _ _ _ h, wr_t]
theorem on_o_ne (e : Eft) (σ : AEnv) {x : Nat} (h : ∀ ob, (x, ob) ∉ e.2.2) : (e.on σ).o x = σ.o x := by
  unfold Eft.on; rw [set_o, wr_o_other (fun k ob hm hk => h ob (by subst hk; exact hm))]

theorem appS_t {S S' : Nat → Bool} {t : Nat} : ∀ (L : List Eft) (i : Nat) {σ σ' : AEnv}, σ.t t = σ'.t t → (∀ k e, L[k]? = some e → e.1 = some t → S (i + k) = S' (i + k)) → (appS S L i σ).t t = (appS S' L i σ').t t
  | [], _, _, _, h, _ => h
  | e :: r, i, σ, σ', h, hk => by
    simp only [appS]
    refine appS_t r (i + 1) ?_ (fun k e' h1 h2 => by have := hk (k + 1) e' (by simpa using h1) h2; rw [show i + (k + 1) = i + 1 + k by omega] at this; exact this)
    by_cases hd : e.1 = some t
    · have := hk 0 e rfl hd
      rw [Nat.add_zero] at this
      rw [this]
      split
      · exact on_t e h
      · exact h
    · have e1 : ∀ (b : Bool) (σ : AEnv), (if b = true then e.on σ else σ).t t = σ.t t := by
        intro b σ; split
        · exact on_t_ne e σ hd
        · rfl
      rw [e1, e1, h]

theorem appS_o {S S' : Nat → Bool} {x : Nat} : ∀ (L : List Eft) (i : Nat) {σ σ' : AEnv}, σ.o x = σ'.o x → (∀ k e, L[k]? = some e → (∃ ob, (x, ob) ∈ e.2.2) → S (i + k) = S' (i + k)) → (appS S L i σ).o x = (appS S' L i σ').o x
  | [], _, _, _, h, _ => h
  | e :: r, i, σ, σ', h, hk => by
    simp only [appS]
    refine appS_o r (i + 1) ?_ (fun k e' h1 h2 => by have := hk (k + 1) e' (by simpa using h1) h2; rw [show i + (k + 1) = i + 1 + k by omega] at this; exact this)
    by_cases hd : ∃ ob, (x, ob) ∈ e.2.2
    · have := hk 0 e rfl hd
      rw [Nat.add_zero] at this
      rw [this]
      split
      · exact on_o e h
      · exact h
    · have e1 : ∀ (b : Bool) (σ : AEnv), (if b = true then e.on σ else σ).o x = σ.o x := by
        intro b σ; split
        · exact on_o_ne e σ (fun ob hm => hd ⟨ob, hm⟩)
        · rfl
      rw [e1, e1, h]

/-- One more has run: the last to write where it writes. -/
theorem appS_insert {S : Nat → Bool} {j : Nat} {ej : Eft} (hS : S j = false) : ∀ (L : List Eft) (i : Nat) (σ : AEnv), L[j - i]? = some ej → i ≤ j →
    (∀ k e, L[k]? = some e → i + k ≠ j → S (i + k) = true → j < i + k → e.1 ≠ ej.1 ∨ e.1 = none) → (∀ k e, L[k]? = some e → S (i + k) = true → j < i + k → ∀ x ob ob', (x, ob) ∈ e.2.2 → (x, ob') ∉ ej.2.2) →
    appS (fun k => decide (k = j) || S k) L i σ = ej.on (appS S L i σ)
  | [], i, σ, h, _, _, _ => by simp at h
  | e :: r, i, σ, h, hi, h1, h2 => by
    by_cases he : i = j
    · subst he
      simp only [Nat.sub_self] at h
      simp at h
      subst h
      simp only [appS]
      rw [if_pos (by simp), if_neg (by simp [hS])]
      -- the rest of those that have run write elsewhere
      have key : ∀ (r : List Eft) (i' : Nat) (σ : AEnv), i < i' → (∀ k e', r[k]? = some e' → S (i' + k) = true → (e'.1 ≠ e.1 ∨ e'.1 = none)) →
          (∀ k e', r[k]? = some e' → S (i' + k) = true → ∀ x ob ob', (x, ob) ∈ e'.2.2 → (x, ob') ∉ e.2.2) →
          appS (fun k => decide (k = i) || S k) r i' (e.on σ) = e.on (appS S r i' σ) := by
        intro r
        induction r with
        | nil => intro i' σ _ _ _; rfl
        | cons f r ih =>
          intro i' σ hi' h1 h2
          simp only [appS]
          have hne : decide (i' = i) = false := by simp; omega
          simp only [hne, Bool.false_or]
          have ih' := fun σ => ih (i' + 1) σ (by omega) (fun k e' hk hs => h1 (k + 1) e' (by simpa using hk) (by rw [show i' + (k + 1) = i' + 1 + k by omega]; exact hs))
            (fun k e' hk hs => h2 (k + 1) e' (by simpa using hk) (by rw [show i' + (k + 1) = i' + 1 + k by omega]; exact hs))
          by_cases hs : S i' = true
          · rw [if_pos hs, if_pos hs]
            have hc : f.on (e.on σ) = e.on (f.on σ) := by
              have g1 := h1 0 f rfl (by simpa using hs)
              have g2 := h2 0 f rfl (by simpa using hs)
              have et : (f.on (e.on σ)).t = (e.on (f.on σ)).t := by
                funext t
                by_cases ht : f.1 = some t
                · have : e.1 ≠ some t := by
                    rcases g1 with g1 | g1
                    · rw [← ht]; exact Ne.symm g1
                    · rw [g1] at ht; cases ht
                  rw [on_t_ne e _ this]
                  exact on_t f (on_t_ne e _ this)
                · rw [on_t_ne f _ ht]
                  exact on_t e (on_t_ne f _ ht).symm
              have eo : (f.on (e.on σ)).o = (e.on (f.on σ)).o := by
                funext x
                by_cases hx : ∃ ob, (x, ob) ∈ f.2.2
                · obtain ⟨ob, hx⟩ := hx
                  have : ∀ ob', (x, ob') ∉ e.2.2 := fun ob' => g2 x ob ob' hx
                  rw [on_o_ne e _ this]
                  exact on_o f (on_o_ne e _ this)
                · have : ∀ ob, (x, ob) ∉ f.2.2 := fun ob hm => hx ⟨ob, hm⟩
                  rw [on_o_ne f _ this]
                  exact on_o e (on_o_ne f _ this).symm
              calc f.on (e.on σ) = ⟨(f.on (e.on σ)).t, (f.on (e.on σ)).o⟩ := rfl
                _ = ⟨(e.on (f.on σ)).t, (e.on (f.on σ)).o⟩ := by rw [et, eo]
            rw [hc]
            exact ih' _
          · rw [if_neg hs, if_neg hs]
            exact ih' _
      exact key r (i + 1) σ (by omega) (fun k e' hk hs => h1 (k + 1) e' (by simpa using hk) (by omega) (by rw [show i + (k + 1) = i + 1 + k by omega]; exact hs) (by omega))
        (fun k e' hk hs => h2 (k + 1) e' (by simpa using hk) (by rw [show i + (k + 1) = i + 1 + k by omega]; exact hs) (by omega))
    · simp only [appS]
      have hne : decide (i = j) = false := by simp [he]
      simp only [hne, Bool.false_or]
      refine appS_insert hS r (i + 1) _ ?_ (by omega) (fun k e' hk h3 h4 h5 => ?_) (fun k e' hk h4 h5 => ?_)
      · rw [show j - i = (j - (i + 1)) + 1 by omega] at h
        simpa using h
      · exact h1 (k + 1) e' (by simpa using hk) (by omega) (by rw [show i + (k + 1) = i + 1 + k by omega]; exact h4) (by omega)
      · exact h2 (k + 1) e' (by simpa using hk) (by rw [show i + (k + 1) = i + 1 + k by omega]; exact h4) (by omega)

end
end Am
