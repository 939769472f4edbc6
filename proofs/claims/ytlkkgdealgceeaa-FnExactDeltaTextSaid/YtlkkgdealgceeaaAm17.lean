/- Operations behind guards; a list of operations in its order. No condition. -/
import Derived.Test.YtlkkgdealgceeaaAm16
namespace Am
open Go
set_option linter.unusedSimpArgs false
set_option linter.unusedVariables false
set_option linter.unnecessarySimpa false

/-- Does the guard hold? -/
def aguard (ops : Array Oper) (t : Nat → AV) (j : Nat) (want : Bool) : Option Bool :=
  match (ops[j]?).bind (·.dst) with
  | some d => match t d with
    | .c (.bool b) => some (b == want)
    | .gd b0 (.c (.bool b)) => some (b0 && (b == want))
    | .gd false _ => some false
    | _ => none
  | none => none

/-- A call whose arguments are looked at alone. -/
def ACallV (P : Program) (f : Nat) (cargs : List CV) (vw : List Nat) (own : Bool) (d : Nat) (O : Nat → AObj) (K : AV → List (Nat × AObj) → Prop) : Prop :=
  ∃ cres, FnR P f cargs cres ∧ (vw ≠ [] → noImC cres) ∧ small cres = true ∧ O (64 * d + 63) = .none ∧ freeOE O (imp own (64 * d) cres).2 ∧ K (imp own (64 * d) cres).1 (imp own (64 * d) cres).2

/-- A call to which something is handed over. -/
def ACallL (P : Program) (f : Nat) (lm : List LM) (avs : List AV) (own : Bool) (d : Nat) (O : Nat → AObj) (K : AV → List (Nat × AObj) → Prop) : Prop :=
  ∃ (cargs : (Nat → Value) → List CV) (vw ln : List Nat) (cres : CV) (outs : (Nat → Value) → List CV) (b1 b2 : List (Nat × AObj)), (∀ us, argsL us O lm avs = some (cargs us, vw, ln)) ∧ ln.Nodup ∧ (∀ x, x ∈ vw → x ∉ ln) ∧ (∀ us, FnW P f (cargs us) cres (outs us)) ∧
    (∀ us, argsBack O (64 * d + 40) lm avs (outs us) = some (b1, b2)) ∧ (∀ us, tokOk us lm (outs us)) ∧ (vw ≠ [] → noImC cres ∧ ∀ us, noImCs (outs us)) ∧
    small cres = true ∧ small2 b2 cres = true ∧ O (64 * d + 63) = .none ∧ freeOE O (imp own (64 * d) cres).2 ∧ freeOE O b2.tail ∧ K (imp own (64 * d) cres).1 (b2 ++ ((imp own (64 * d) cres).2 ++ b1))

def ACall (P : Program) (G : Prop) (own : Bool) (lm : List LM) (O : Nat → AObj) (d f : Nat) (sd : Prop) (avs : List AV) (K : AV → List (Nat × AObj) → Prop) : Prop :=
  (G → sd) ∧ match lm with
    | [] => (match argsView O avs with
      | some (cargs, vw) => ACallV P f cargs vw own d O K
      | none => False)
    | m :: ms => ACallL P f (m :: ms) avs own d O K

theorem argsL1_view {O : Nat → AObj} : ∀ {avs : List AV} {cargs : List CV} {vw : List Nat}, argsView O avs = some (cargs, vw) → argsL1 O [] avs = some (cargs, vw, []) ∧ argsBack1 O [] avs (cargs.map fun _ => .any) = some []
  | [], cargs, vw, h => by simp [argsView] at h; obtain ⟨rfl, rfl⟩ := h; simp [argsL1, argsBack1]
  | x :: xs, cargs, vw, h => by
    simp only [argsView] at h
    split at h
    · rename_i p b ps b' h1 h2
      cases h
      obtain ⟨h3, h4⟩ := argsL1_view h2
      simp [argsL1, argL, h1, h3, argsBack1, argBack, h4]
    · cases h

theorem ACallV.toL {P : Program} {f : Nat} {cargs : List CV} {vw : List Nat} {own : Bool} {d : Nat} {O : Nat → AObj} {K : AV → List (Nat × AObj) → Prop} {avs : List AV} (he : argsView O avs = some (cargs, vw)) (h : ACallV P f cargs vw own d O K) : ACallL P f [] avs own d O K := by
  obtain ⟨cres, h1, h2, h3, h4, h5, h6⟩ := h
  obtain ⟨g1, g2⟩ := argsL1_view he
  refine ⟨fun _ => cargs, vw, [], cres, fun _ => cargs.map fun _ => .any, [], [], fun _ => g1, by simp, by simp, fun _ => h1, fun _ => ?_, fun _ => trivial, fun hv => ⟨h2 hv, fun _ => ?_⟩, h3, ?_, h4, h5, by simp [freeOE], by simpa using h6⟩
  · unfold argsBack; simp [g2]
  · have : ∀ l : List CV, noImCs (l.map fun _ => CV.any) := fun l => by induction l with
      | nil => trivial
      | cons x l ih => exact ⟨trivial, ih⟩
    exact this cargs
  · cases cres <;> simp [small2]

theorem ACall.toL {P : Program} {G : Prop} {own : Bool} {lm : List LM} {O : Nat → AObj} {d f : Nat} {sd : Prop} {avs : List AV} {K : AV → List (Nat × AObj) → Prop} (h : ACall P G own lm O d f sd avs K) : (G → sd) ∧ ACallL P f lm avs own d O K := by
  obtain ⟨h0, h⟩ := h
  refine ⟨h0, ?_⟩
  cases lm with
  | nil =>
    simp only at h
    split at h
    · rename_i cargs vw he
      exact h.toL he
    · cases h
  | cons m ms => exact h

def aop1 (P : Program) (T : Ty) (H : Hints) (G : Prop) (ρ : Operand → AV) (O : Nat → AObj) (o : Oper) (K : AV → List (Nat × AObj) → Prop) : Prop :=
  match o.op with
  | .call ⟨.value x, args, _⟩ => match calleeOf ρ x, o.dst with
    | some (s, f, cap), some d => ACall P G (H.own d) (H.lend f) O d f (s ∧ sides ρ args.toList) ((args.toList.map fun x => (ρ x).ug.2) ++ cap) K
    | _, _ => False
  | _ => match astep T (H.mv (o.dst.getD 0)) ρ O o with
    | some e => (G → e.side) ∧ K e.val e.oe
    | none => False

/-- Nothing is told of it. -/
def isAny : AV → Bool
  | .any => true
  | .gd _ v => isAny v
  | _ => false

/-- May it be kept under its guard: it only computes. -/
def isPure (H : Hints) (ρ : Operand → AV) : Op → Bool
  | .move _ | .assign _ | .pick _ _ _ | .nilCheck _ | .fieldAddr _ _ _ | .extract _ _ | .index _ _ _ => true
  | .unOp _ _ a => !isAny (ρ a)
  | .convert _ _ a => !isAny (ρ a)
  | .binOp op _ a b _ => match op with
    | .quo | .rem | .shl | .shr => false
    | _ => !isAny (ρ a) && !isAny (ρ b)
  | .load _ a => match (ρ a).ug.2 with
    | .box _ _ => true
    | _ => false
  | .call ⟨.value x, args, _⟩ => match (ρ x).ug.2 with
    | .fn f _ => H.mergeF f && args.toList.all fun x => !isAny (ρ x)
    | _ => false
  | .call ⟨.builtin .len, _, _⟩ => true
  | _ => false

/-- What one operation of a region comes to, its guard looked at. -/
inductive SG (P : Program) (T : Ty) (H : Hints) (ops : Array Oper) (σ : AEnv) (τ : Nat → AObj) (o : Oper) : AV → List (Nat × AObj) → Prop
  | run {v : AV} {oe : List (Nat × AObj)} (hg : o.guard = none ∨ ∃ j want, o.guard = some (j, want) ∧ aguard ops σ.t j want = some true) (h : StepR P T H (ev σ) τ o v oe) : SG P T H ops σ τ o v oe
  | off {j : Nat} {want : Bool} (hg : o.guard = some (j, want)) (h : aguard ops σ.t j want = some false) : SG P T H ops σ τ o (.gd false .any) []
  | mrg {j : Nat} {want g : Bool} {v : AV} (hg : o.guard = some (j, want)) (h : aguard ops σ.t j want = some g) (hs : g = true → StepR P T H (ev σ) τ o v []) : SG P T H ops σ τ o (.gd g v) []

def ao1 (P : Program) (T : Ty) (H : Hints) (ops : Array Oper) (σ : AEnv) (τ : Nat → AObj) (o : Oper) (K : AV → List (Nat × AObj) → Prop) : Prop :=
  match o.guard with
  | none => aop1 P T H True (ev σ) τ o K
  | some (j, want) => match aguard ops σ.t j want with
    | some g => match H.merge (o.dst.getD 0) && isPure H (ev σ) o.op with
      | true => aop1 P T H (g = true) (ev σ) τ o (fun v oe => oe = [] ∧ K (.gd g v) [])
      | false => (g = true → aop1 P T H True (ev σ) τ o K) ∧ (g = false → K (.gd false .any) [])
    | none => False

section
variable {P : Program} {T : Ty} {H : Hints} {ops : Array Oper} {C : Ctx} {σ : AEnv} {a : Act} {w : World} {ι : Nat → Value} {Fs : Nat → List Nat} {τ : Nat → AObj} {o : Oper} {K : AV → List (Nat × AObj) → Prop}

theorem aop1_step {G : Prop} {ρ : Operand → AV} (h : aop1 P T H G ρ τ o K) : ∃ v oe, (G → StepR P T H ρ τ o v oe) ∧ K v oe := by
  unfold aop1 at h
  split at h
  · rename_i x args ts ho
    split at h
    · rename_i s f cap d hx hd
      obtain ⟨hs, cargs, vw, ln, cres, outs, b1, b2, h1, h2, h3, h4, h5, h6, h7, h8, h9, h10, h11, h12, h13⟩ := h.toL
      exact ⟨_, _, fun hG => .call ho hx hd ⟨hs hG, ⟨cargs, vw, ln, outs, h1, h2, h3, h4, h5, h6, h7⟩, h8, h9, h10, h11, h12⟩, h13⟩
    · cases h
  · split at h
    · rename_i e he
      exact ⟨_, _, fun hG => .op he (h.1 hG), h.2⟩
    · cases h

theorem ao1_SG (h : ao1 P T H ops σ τ o K) : ∃ v oe, SG P T H ops σ τ o v oe ∧ K v oe := by
  unfold ao1 at h
  split at h
  · rename_i hg
    obtain ⟨v, oe, h1, h2⟩ := aop1_step h
    exact ⟨v, oe, .run (.inl hg) (h1 trivial), h2⟩
  · rename_i j want hg
    split at h
    · rename_i g hgd
      split at h
      · obtain ⟨v, oe, h1, h2, h3⟩ := aop1_step h
        subst h2
        exact ⟨_, _, .mrg hg hgd h1, h3⟩
      · cases g with
        | true =>
          obtain ⟨v, oe, h1, h2⟩ := aop1_step (h.1 rfl)
          exact ⟨v, oe, .run (.inr ⟨j, want, hg, hgd⟩) (h1 trivial), h2⟩
        | false => exact ⟨_, _, .off hg hgd, h.2 rfl⟩
    · cases h

theorem aguard_wanted (h : Sim C σ a w ι Fs) {j : Nat} {want g : Bool} (hg : o.guard = some (j, want)) (ha : aguard ops σ.t j want = some g) : Region.wanted o (yielded ops a.tmps) = g := by
  unfold aguard at ha
  unfold Region.wanted
  rw [hg]
  simp only
  split at ha
  · rename_i d hd
    have ht := h.tm d
    have hu : ∀ v, a.tmps.getD d undef = v → yielded ops a.tmps j = match v with | .bool b => some b | _ => none := by
      intro v hv
      unfold yielded
      rw [hd]
      simp only [Option.bind_some]
      by_cases hlt : d < a.tmps.size
      · have : a.tmps[d]? = some v := by rw [Array.getElem?_eq_getElem hlt]; simpa [hlt] using hv
        rw [this]
        cases v <;> rfl
      · have : a.tmps[d]? = none := Array.getElem?_eq_none (Nat.le_of_not_lt hlt)
        rw [this]
        have : v = undef := by rw [← hv]; simp [hlt]
        rw [this]
        rfl
    split at ha
    · rename_i b hb
      rw [hb] at ht
      simp only [AR, R] at ht
      rw [hu _ ht.1]
      cases ha
      cases b <;> cases want <;> rfl
    · rename_i b0 b hb
      rw [hb] at ht
      simp only [AR, R] at ht
      cases ha
      cases b0 with
      | true => rw [hu _ (ht.1 rfl).1]; cases b <;> cases want <;> rfl
      | false => rw [hu _ (ht.2 rfl)]; cases b <;> cases want <;> rfl
    · rename_i x hb
      rw [hb] at ht
      simp only [AR] at ht
      cases ha
      rw [hu _ (ht.2 trivial)]
      cases want <;> rfl
    · cases ha
  · cases ha

theorem AR_gd_true {U : Nat → Prop} {O : Nat → AObj} {x : AV} {v : Value} (h : AR w U O ι x v) : AR w U O ι (.gd true x) v := by
  simp only [AR]; exact ⟨fun _ => h, fun e => by simp at e⟩

theorem AR_gd_false {U : Nat → Prop} {O : Nat → AObj} {x : AV} : AR w U O ι (.gd false x) undef := by
  simp only [AR]; exact ⟨fun e => by simp at e, fun _ => trivial⟩

/-- One operation of a region. -/
theorem SG_sound (hT : TyOK P T) (h : Sim C σ a w ι Fs) (ha : Agr σ.o τ) {v : AV} {oe : List (Nat × AObj)} (he : SG P T H ops σ τ o v oe)
    (hf : ∀ k ob, (k, ob) ∈ oe → τ k = .none → σ.o k = .none) (hgh : ∀ d, o.dst = some d → τ (64 * d + 63) = .none → σ.o (64 * d + 63) = .none) (hN : ∀ d, o.dst = some d → C.N.1 ≤ d ∧ d < C.N.2)
    {K : Act → World → Prop} {Q : Exit → Act → World → Prop} (hK : ∀ a' w', Post C ((AEnv.wr oe σ).set o.dst v) a' w' → K a' w') :
    if Region.wanted o (yielded ops a.tmps) = true then o.wp P a w K Q else K (a.put o.dst undef) w := by
  cases he with
  | run hg hs =>
    have : Region.wanted o (yielded ops a.tmps) = true := by
      rcases hg with hg | ⟨j, want, hg, hga⟩
      · simp [Region.wanted, hg]
      · exact aguard_wanted h hg hga
    rw [if_pos this]
    exact stepR_sound hT h ha hs hf hgh hN hK
  | off hg hga =>
    have := aguard_wanted h hg hga
    rw [this, if_neg (by simp)]
    exact hK _ _ ⟨ι, Fs, h.put o.dst hN AR_gd_false⟩
  | @mrg j want g v hg hga hs =>
    have hw := aguard_wanted h hg hga
    rw [hw]
    cases g with
    | true =>
      rw [if_pos rfl]
      refine stepR_sound hT h ha (hs rfl) hf hgh hN (fun a' w' hP => hK _ _ ?_)
      obtain ⟨ι', Fs', hS⟩ := hP
      refine ⟨ι', Fs', hS.kept, fun i => ?_, ?_, hS.dis, hS.nd, hS.own, hS.df, hS.sz, hS.kp⟩
      · have hi := hS.tm i
        cases hd : o.dst with
        | none => simpa only [hd, AEnv.set] using hi
        | some d =>
          simp only [hd, AEnv.set] at hi ⊢
          by_cases e : i = d
          · simp only [e, if_true] at hi ⊢
            exact AR_gd_true hi
          · simpa only [e, if_false] using hi
      · have := hS.ob
        cases hd : o.dst with
        | none => simpa only [hd, AEnv.set] using this
        | some d => simpa only [hd, AEnv.set] using this
    | false =>
      rw [if_neg (by simp)]
      exact hK _ _ ⟨ι, Fs, h.put o.dst hN AR_gd_false⟩

def aops (P : Program) (T : Ty) (H : Hints) (ops : Array Oper) : List Oper → AEnv → (AEnv → Prop) → Prop
  | [], σ, K => K σ
  | o :: r, σ, K => ao1 P T H ops σ σ.o o (fun v oe => aops P T H ops r ((AEnv.wr oe σ).set o.dst v) K)

def dstOk (N : Nat × Nat) (l : List Oper) : Bool := l.all fun o => match o.dst with
  | some d => decide (N.1 ≤ d) && decide (d < N.2)
  | none => true

theorem Agr.refl (O : Nat → AObj) : Agr O O := fun _ _ _ => rfl

theorem aops_sound (hT : TyOK P T) {K : AEnv → Prop} {Q : Exit → Act → World → Prop} (hK : ∀ σ' a' w', K σ' → Post C σ' a' w' → Q .normal a' w') :
    ∀ (l : List Oper) (σ : AEnv) (a : Act) (w : World), dstOk C.N l = true → aops P T H ops l σ K → Post C σ a w → wpList P ops Q l a w
  | [], σ, a, w, _, h, hP => hK σ a w h hP
  | o :: r, σ, a, w, hd, h, ⟨ι, Fs, hS⟩ => by
    simp only [dstOk, List.all_cons, Bool.and_eq_true] at hd
    obtain ⟨v, oe, h1, h2⟩ := ao1_SG h
    have := SG_sound (Q := Q) (K := wpList P ops Q r) hT hS (Agr.refl _) h1 (fun _ _ _ e => e) (fun _ _ e => e) (fun d hdd => by simpa [hdd] using hd.1)
      (fun a' w' hP' => aops_sound hT hK r _ a' w' hd.2 h2 hP')
    simp only [wpList]
    split
    · rename_i hw
      rw [if_pos hw] at this
      exact .inl this
    · rename_i hw
      rw [if_neg hw] at this
      exact this

end
end Am
