/- Contracts of functions; a call. No condition. -/
import Derived.Test.YtbnpeacndfkcnaaAm13
namespace Am
open Go
set_option linter.unusedSimpArgs false
set_option linter.unusedVariables false

inductive CV where
  | any
  | v (p : PV)
  | agg (ps : List PV)
  | ptr (ps : List PV)
  | tup (xs : List CV)
  deriving Inhabited

mutual
def CR (w : World) (U : Nat → Prop) : CV → Value → List Nat → Prop
  | .any, _, F => F = []
  | .v p, v, F => R w U p v F
  | .agg ps, v, F => ∃ vs, v = .agg vs ∧ Rs w U ps vs.toList F
  | .ptr ps, v, F => ∃ b vals ty F', v = .pointer (some ⟨b, 0, none⟩) ∧ w.heap[b]? = some (.cells vals ty (0, 0)) ∧ Rs w U ps vals.toList F' ∧ F = b :: F'
  | .tup xs, v, F => ∃ vs, v = .tuple vs ∧ CRs w U xs vs.toList F
def CRs (w : World) (U : Nat → Prop) : List CV → List Value → List Nat → Prop
  | [], [], F => F = []
  | x :: xs, v :: vs, F => ∃ F1 F2, CR w U x v F1 ∧ CRs w U xs vs F2 ∧ F = F1 ++ F2
  | [], _ :: _, _ => False
  | _ :: _, [], _ => False
end

structure FnIn (P : Program) (f : Nat) : Prop where
  ex : ∃ fn, P.funcs[f]? = some fn ∧ fn.body.isNone = false ∧ (fn.name == "runtime.NumGoroutine") = false

/-- What a function that writes nothing of what it is handed comes to: called with what stands for these arguments, it returns what stands for this, in memory of its own or in what it may look at; all that was there is as it was. -/
structure FnR (P : Program) (f : Nat) (args : List CV) (res : CV) : Prop where
  fin : FnIn P f
  call : ∀ (w : World) (V : Nat → Prop) (vals : List Value), CRs w V args vals [] → (∀ k, V k → k < w.heap.size) →
    Calls P f vals.toArray w (fun e w' => ∃ v Fr, e = .returned v ∧ w.grownBy w' none ∧ CR w' (fun k => k < w'.heap.size ∧ (V k ∨ w.heap.size ≤ k) ∧ k ∉ Fr) res v Fr ∧ Fr.Nodup ∧ ∀ k, k ∈ Fr → w.heap.size ≤ k ∧ k < w'.heap.size)

/-- A cell as an argument: its value; is something of our own looked at? -/
def cellView (O : Nat → AObj) : AV → Option (PV × Bool)
  | .c p => if isFree p = true then some (p, false) else none
  | .nil => some (.im 0 [], false)
  | .arr o => match O o with
    | .arr _ _ n cs => some (.im n (frzs cs), true)
    | _ => none
  | .inr o off => match O o with
    | .arr _ _ _ cs => match cs[off]? with
      | some (.ow _ _ n c) => some (.im n (frzs c), true)
      | _ => none
    | _ => none
  | _ => none

def cellsView (O : Nat → AObj) : List AV → Option (List PV × Bool)
  | [] => some ([], false)
  | x :: xs => match cellView O x, cellsView O xs with
    | some (p, b), some (ps, b') => some (p :: ps, b || b')
    | _, _ => none

def argView (O : Nat → AObj) : AV → Option (CV × Bool)
  | .agg cs => match cellsView O cs with
    | some (ps, b) => some (.agg ps, b)
    | none => none
  | x => match cellView O x with
    | some (p, b) => some (.v p, b)
    | none => none

def argsView (O : Nat → AObj) : List AV → Option (List CV × Bool)
  | [] => some ([], false)
  | x :: xs => match argView O x, argsView O xs with
    | some (p, b), some (ps, b') => some (p :: ps, b || b')
    | _, _ => none

/-- A result's cell as it comes in: what is owned under this name, or looked at alone. -/
def impCell (own : Bool) (k : Nat) : PV → AV × List (Nat × AObj)
  | .ow e s n cs => if own then (.arr k, [(k, .arr e s n cs)]) else (.c (.im n (frzs cs)), [])
  | p => (.c p, [])

def impCells (own : Bool) : Nat → List PV → List AV × List (Nat × AObj)
  | _, [] => ([], [])
  | k, p :: ps => ((impCell own k p).1 :: (impCells own (k + 1) ps).1, (impCell own k p).2 ++ (impCells own (k + 1) ps).2)

def impOne (own : Bool) (k : Nat) : CV → AV × List (Nat × AObj)
  | .v p => impCell own k p
  | .agg ps => (.agg (impCells own k ps).1, (impCells own k ps).2)
  | _ => (.any, [])

def impTup (own : Bool) : Nat → List CV → List AV × List (Nat × AObj)
  | _, [] => ([], [])
  | k, x :: xs => ((impOne own k x).1 :: (impTup own (k + 20) xs).1, (impOne own k x).2 ++ (impTup own (k + 20) xs).2)

def imp (own : Bool) (k : Nat) : CV → AV × List (Nat × AObj)
  | .tup xs => (.tup (impTup own k xs).1, (impTup own k xs).2)
  | x => impOne own k x

mutual
/-- Nothing in it is looked at alone. -/
def noIm : PV → Prop
  | .im _ cs => cs = []
  | .ow _ _ _ cs => noIms cs
  | _ => True
def noIms : List PV → Prop
  | [] => True
  | p :: ps => noIm p ∧ noIms ps
end

def noImC1 : CV → Prop
  | .v p => noIm p
  | .agg ps => noIms ps
  | .any => True
  | _ => False
def noImCs : List CV → Prop
  | [] => True
  | x :: xs => noImC1 x ∧ noImCs xs
def noImC : CV → Prop
  | .tup xs => noImCs xs
  | x => noImC1 x

mutual
theorem R_noIm {w : World} {U U' : Nat → Prop} : ∀ (p : PV) (v : Value) (F : List Nat), R w U p v F → noIm p → R w U' p v F
  | .int k n, v, F, h, _ => by simpa only [R] using h
  | .bool b, v, F, h, _ => by simpa only [R] using h
  | .str s, v, F, h, _ => by simpa only [R] using h
  | .im n cs, v, F, h, hn => by
    simp only [R, noIm] at h hn ⊢
    obtain ⟨hF, a, cap, hv, hc, _⟩ := h
    exact ⟨hF, a, cap, hv, hc, .inl hn⟩
  | .ow e s n cs, v, F, h, hn => by
    simp only [R, noIm] at h hn ⊢
    obtain ⟨xs, F', ho, hr, hF⟩ := h
    exact ⟨xs, F', ho, Rs_noIm cs xs F' hr hn, hF⟩
theorem Rs_noIm {w : World} {U U' : Nat → Prop} : ∀ (ps : List PV) (vs : List Value) (F : List Nat), Rs w U ps vs F → noIms ps → Rs w U' ps vs F
  | [], [], F, h, _ => by simpa only [Rs] using h
  | p :: ps, v :: vs, F, h, hn => by
    simp only [Rs, noIms] at h hn ⊢
    obtain ⟨F1, F2, h1, h2, hF⟩ := h
    exact ⟨F1, F2, R_noIm p v F1 h1 hn.1, Rs_noIm ps vs F2 h2 hn.2, hF⟩
  | [], _ :: _, F, h, _ => by simp only [Rs] at h
  | _ :: _, [], F, h, _ => by simp only [Rs] at h
end

section
variable {P : Program} {T : Ty} {C : Ctx} {σ : AEnv} {a : Act} {w w' : World} {ι : Nat → Value} {Fs : Nat → List Nat} {τ : Nat → AObj}

/-- What our own may be looked at, too, for the time of a call. -/
def Vw (C : Ctx) (w : World) (Fs : Nat → List Nat) (viewed : Bool) (k : Nat) : Prop := Un C w Fs k ∨ (viewed = true ∧ k < w.heap.size ∧ ∃ o, k ∈ Fs o)

theorem Vw_un {v : Bool} {k : Nat} (h : Un C w Fs k) : Vw C w Fs v k := .inl h

theorem cellView_R (h : Sim C σ a w ι Fs) (ha : Agr σ.o τ) {x : AV} {v : Value} {p : PV} {b : Bool} (hx : AR w (Un C w Fs) σ.o ι x v) (hc : cellView τ x = some (p, b)) (b' : Bool) (hb : b = true → b' = true) : R w (Vw C w Fs b') p v [] := by
  unfold cellView at hc
  split at hc
  · split at hc
    · cases hc
      exact R_mono (fun k hk => Vw_un hk) (fun k _ => rfl) _ _ _ (AR_c.1 hx) (by simp)
    · cases hc
  · cases hc
    simp only [AR] at hx
    subst hx
    simp [R]
  · rename_i o
    split at hc
    · rename_i e1 s1 n1 cs hτ
      cases hc
      obtain ⟨ho, hv⟩ := agr_arr ha hx hτ
      have hob := h.ob o
      rw [ho] at hob
      obtain ⟨xs, F', hown, hr, hF⟩ := hob
      have h2 : R w (Un C w Fs) (.ow e1 s1 n1 cs) (ι o) (Fs o) := by simp only [R]; exact ⟨xs, F', hown, hr, hF⟩
      subst hv
      have := R_frz (U := Un C w Fs) (U' := Vw C w Fs b') (fun k hk => Vw_un hk) _ _ _ h2 (fun k hk => .inr ⟨hb rfl, (h.own o k hk).1, o, hk⟩)
      simpa only [frz] using this
    · cases hc
  · rename_i o off
    split at hc
    · rename_i e1 s1 n1 cs hτ
      split at hc
      · rename_i e2 s2 n2 c2 hcs
        cases hc
        obtain ⟨ho, hv⟩ := agr_inr ha hx hτ
        obtain ⟨k, hk, hcell⟩ := hv ⟨_, _, _, _, hcs⟩
        obtain ⟨xs, F', hown, hm, hr, hF⟩ := arr_mem h ho hk
        obtain ⟨u, F1, hu, hur, hsub⟩ := Rs_get hr hcs
        have := hm off u hu
        rw [Nat.zero_add, hcell] at this
        cases this
        have := R_frz (U := Un C w Fs) (U' := Vw C w Fs b') (fun k hk => Vw_un hk) _ _ _ hur (fun k hk => by
          have : k ∈ Fs o := by rw [hF]; exact List.mem_cons_of_mem _ (hsub k hk)
          exact .inr ⟨hb rfl, (h.own o k this).1, o, this⟩)
        simpa only [frz] using this
      · cases hc
    · cases hc
  · cases hc

theorem cellsView_R (h : Sim C σ a w ι Fs) (ha : Agr σ.o τ) : ∀ {xs : List AV} {vs : List Value} {ps : List PV} {b : Bool}, ARs w (Un C w Fs) σ.o ι xs vs → cellsView τ xs = some (ps, b) → ∀ b', (b = true → b' = true) → Rs w (Vw C w Fs b') ps vs []
  | [], [], ps, b, _, hc, b', _ => by simp [cellsView] at hc; rw [hc.1]; simp [Rs]
  | x :: xs, v :: vs, ps, b, hx, hc, b', hb => by
    simp only [ARs] at hx
    simp only [cellsView] at hc
    split at hc
    · rename_i p b1 ps' b2 h1 h2
      cases hc
      simp only [Rs]
      exact ⟨[], [], cellView_R h ha hx.1 h1 b' (fun e => hb (by simp [e])), cellsView_R h ha hx.2 h2 b' (fun e => hb (by simp [e])), rfl⟩
    · cases hc
  | [], _ :: _, _, _, hx, _, _, _ => by simp only [ARs] at hx
  | _ :: _, [], _, _, hx, _, _, _ => by simp only [ARs] at hx

theorem argView_R (h : Sim C σ a w ι Fs) (ha : Agr σ.o τ) {x : AV} {v : Value} {p : CV} {b : Bool} (hx : AR w (Un C w Fs) σ.o ι x v) (hc : argView τ x = some (p, b)) (b' : Bool) (hb : b = true → b' = true) : CR w (Vw C w Fs b') p v [] := by
  unfold argView at hc
  split at hc
  · split at hc
    · rename_i cs _ ps b1 h1
      cases hc
      simp only [AR] at hx
      obtain ⟨vs, rfl, hs⟩ := hx
      simp only [CR]
      exact ⟨vs, rfl, cellsView_R h ha hs h1 b' hb⟩
    · cases hc
  · split at hc
    · rename_i p1 b1 h1
      cases hc
      simp only [CR]
      exact cellView_R h ha hx h1 b' hb
    · cases hc

theorem argsView_R (h : Sim C σ a w ι Fs) (ha : Agr σ.o τ) : ∀ {xs : List AV} {vs : List Value} {ps : List CV} {b : Bool}, ARs w (Un C w Fs) σ.o ι xs vs → argsView τ xs = some (ps, b) → ∀ b', (b = true → b' = true) → CRs w (Vw C w Fs b') ps vs []
  | [], [], ps, b, _, hc, b', _ => by simp [argsView] at hc; rw [hc.1]; simp [CRs]
  | x :: xs, v :: vs, ps, b, hx, hc, b', hb => by
    simp only [ARs] at hx
    simp only [argsView] at hc
    split at hc
    · rename_i p b1 ps' b2 h1 h2
      cases hc
      simp only [CRs]
      exact ⟨[], [], argView_R h ha hx.1 h1 b' (fun e => hb (by simp [e])), argsView_R h ha hx.2 h2 b' (fun e => hb (by simp [e])), rfl⟩
    · cases hc
  | [], _ :: _, _, _, hx, _, _, _ => by simp only [ARs] at hx
  | _ :: _, [], _, _, hx, _, _, _ => by simp only [ARs] at hx

end
end Am
