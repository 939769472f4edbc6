/- Contracts of functions; a call. No condition. -/
import Derived.Test.YtlkkgdealgceeaaAm13
namespace Am
open Go
set_option linter.unusedSimpArgs false
set_option linter.unusedVariables false

inductive CV where
  | any
  | v (p : PV)
  | agg (ps : List PV)
  | ptr (ps : List PV)
  | pc (ps : List PV)
  | fn (f : Nat) (caps : List CV)
  | tup (xs : List CV)
  deriving Inhabited

mutual
def CR (w : World) (U : Nat → Prop) : CV → Value → List Nat → Prop
  | .any, _, F => F = []
  | .v p, v, F => R w U p v F
  | .agg ps, v, F => ∃ vs, v = .agg vs ∧ Rs w U ps vs.toList F
  | .ptr ps, v, F => ∃ b vals ty F', v = .pointer (some ⟨b, 0, none⟩) ∧ w.heap[b]? = some (.cells vals ty (0, 0)) ∧ (∀ x ∈ vals.toList, x.oneCell' = true) ∧ Rs w U ps vals.toList F' ∧ F = b :: F'
  | .pc ps, v, F => F = [] ∧ ∃ b o0 xs, v = .pointer (some ⟨b, o0, none⟩) ∧ U b ∧ memAt w b o0 xs ∧ Rs w U ps xs []
  | .fn f caps, v, F => F = [] ∧ ∃ xs, v = .func (.func f) #[] xs ∧ CRs w U caps xs.toList []
  | .tup xs, v, F => ∃ vs, v = .tuple vs ∧ CRs w U xs vs.toList F
def CRs (w : World) (U : Nat → Prop) : List CV → List Value → List Nat → Prop
  | [], [], F => F = []
  | x :: xs, v :: vs, F => ∃ F1 F2, CR w U x v F1 ∧ CRs w U xs vs F2 ∧ F = F1 ++ F2
  | [], _ :: _, _ => False
  | _ :: _, [], _ => False
end

structure FnIn (P : Program) (f : Nat) : Prop where
  ex : ∃ fn, P.funcs[f]? = some fn ∧ fn.body.isNone = false ∧ (fn.name == "runtime.NumGoroutine") = false

/-- Nothing but these blocks has turned; new ones may have come. -/
structure GrownF (w w' : World) (F : List Nat) : Prop where
  os : w'.os = w.os
  tape : w'.tape = w.tape
  output : w'.output = w.output
  size : w.heap.size ≤ w'.heap.size
  block : ∀ k, k < w.heap.size → k ∉ F → w'.heap[k]? = w.heap[k]?

/-- What a function comes to: called with what stands for these arguments (some of it handed over: F), it returns what stands for this; what was handed over stands for this then. -/
structure FnW (P : Program) (f : Nat) (args : List CV) (res : CV) (outs : List CV) : Prop where
  fin : FnIn P f
  call : ∀ (w : World) (V : Nat → Prop) (vals : List Value) (F : List Nat), CRs w V args vals F → F.Nodup → (∀ k, V k → k < w.heap.size ∧ k ∉ F) → (∀ k, k ∈ F → k < w.heap.size) →
    Calls P f vals.toArray w (fun e w' => ∃ v Fr Fo, e = .returned v ∧ GrownF w w' F ∧ CR w' (fun k => k < w'.heap.size ∧ (V k ∨ w.heap.size ≤ k ∨ k ∈ F) ∧ k ∉ Fr ++ Fo) res v Fr ∧
      CRs w' (fun k => k < w'.heap.size ∧ (V k ∨ w.heap.size ≤ k ∨ k ∈ F) ∧ k ∉ Fr ++ Fo) outs vals Fo ∧ (Fr ++ Fo).Nodup ∧ ∀ k, k ∈ Fr ++ Fo → k < w'.heap.size ∧ (w.heap.size ≤ k ∨ k ∈ F))

/-- .. that writes nothing of what it is handed. -/
abbrev FnR (P : Program) (f : Nat) (args : List CV) (res : CV) : Prop := FnW P f args res (args.map fun _ => .any)

/-- A cell as an argument: its value; what of our own is looked at. -/
def cellView (O : Nat → AObj) : AV → Option (PV × List Nat)
  | .c p => if isFree p = true then some (p, []) else none
  | .nil => some (.im 0 [], [])
  | .arr o => match O o with
    | .arr _ _ _ n cs => some (.im n (frzs cs), [o])
    | _ => none
  | .inr o g off => match O o with
    | .arr g' _ _ _ cs => if g = g' then match cs[off]? with
      | some (.ow _ _ n c) => some (.im n (frzs c), [o])
      | _ => none
      else none
    | _ => none
  | _ => none

def cellsView (O : Nat → AObj) : List AV → Option (List PV × List Nat)
  | [] => some ([], [])
  | x :: xs => match cellView O x, cellsView O xs with
    | some (p, b), some (ps, b') => some (p :: ps, b ++ b')
    | _, _ => none

def argView0 (O : Nat → AObj) : AV → Option (CV × List Nat)
  | .agg cs => match cellsView O cs with
    | some (ps, b) => some (.agg ps, b)
    | none => none
  | .box o 0 => match O o with
    | .box cs => match cellsView O cs with
      | some (ps, b) => some (.pc ps, o :: b)
      | none => none
    | _ => none
  | .pc cs off => some (.pc (cs.drop off), [])
  | x => match cellView O x with
    | some (p, b) => some (.v p, b)
    | none => none

def argsView0 (O : Nat → AObj) : List AV → Option (List CV × List Nat)
  | [] => some ([], [])
  | x :: xs => match argView0 O x, argsView0 O xs with
    | some (p, b), some (ps, b') => some (p :: ps, b ++ b')
    | _, _ => none

def argView (O : Nat → AObj) : AV → Option (CV × List Nat)
  | .fn f caps => match argsView0 O caps with
    | some (cs, b) => some (.fn f cs, b)
    | none => none
  | x => argView0 O x

def argsView (O : Nat → AObj) : List AV → Option (List CV × List Nat)
  | [] => some ([], [])
  | x :: xs => match argView O x, argsView O xs with
    | some (p, b), some (ps, b') => some (p :: ps, b ++ b')
    | _, _ => none

/-- A result's cell as it comes in: what is owned under this name, or looked at alone. -/
def impCell (own : Bool) (k : Nat) : PV → AV × List (Nat × AObj)
  | .ow e s n cs => if own then (.arr k, [(k, .arr 0 e s n cs)]) else (.c (.im n (frzs cs)), [])
  | p => (.c p, [])

def impCells (own : Bool) : Nat → List PV → List AV × List (Nat × AObj)
  | _, [] => ([], [])
  | k, p :: ps => ((impCell own k p).1 :: (impCells own (k + 1) ps).1, (impCell own k p).2 ++ (impCells own (k + 1) ps).2)

def impOne (own : Bool) (k : Nat) : CV → AV × List (Nat × AObj)
  | .v p => impCell own k p
  | .agg ps => (.agg (impCells own k ps).1, (impCells own k ps).2)
  | _ => (.any, [])

def impTup (own : Bool) : Nat → List CV → List AV × List (Nat × AObj)
  | _, [] => ([], [])
  | k, x :: xs => ((impOne own k x).1 :: (impTup own (k + 20) xs).1, (impOne own k x).2 ++ (impTup own (k + 20) xs).2)

def imp (own : Bool) (k : Nat) : CV → AV × List (Nat × AObj)
  | .tup xs => (.tup (impTup own k xs).1, (impTup own k xs).2)
  | x => impOne own k x

mutual
/-- Nothing in it is looked at alone. -/
def noIm : PV → Prop
  | .im _ cs => cs = []
  | .ow _ _ _ cs => noIms cs
  | _ => True
def noIms : List PV → Prop
  | [] => True
  | p :: ps => noIm p ∧ noIms ps
end

def noImC1 : CV → Prop
  | .v p => noIm p
  | .agg ps => noIms ps
  | .ptr ps => noIms ps
  | .any => True
  | _ => False
def noImCs : List CV → Prop
  | [] => True
  | x :: xs => noImC1 x ∧ noImCs xs
def noImC : CV → Prop
  | .tup xs => noImCs xs
  | x => noImC1 x

mutual
theorem R_noIm {w : World} {U U' : Nat → Prop} : ∀ (p : PV) (v : Value) (F : List Nat), R w U p v F → noIm p → R w U' p v F
  | .int k n, v, F, h, _ => by simpa only [R] using h
  | .bool b, v, F, h, _ => by simpa only [R] using h
  | .str s, v, F, h, _ => by simpa only [R] using h
  | .im n cs, v, F, h, hn => by
    simp only [R, noIm] at h hn ⊢
    obtain ⟨hF, a, cap, hv, hc, _⟩ := h
    exact ⟨hF, a, cap, hv, hc, .inl hn⟩
  | .ow e s n cs, v, F, h, hn => by
    simp only [R, noIm] at h hn ⊢
    obtain ⟨xs, F', ho, hr, hF⟩ := h
    exact ⟨xs, F', ho, Rs_noIm cs xs F' hr hn, hF⟩
  | .any, v, F, h, _ => by simpa only [R] using h
  | .tk u, v, F, h, _ => by simpa only [R] using h
theorem Rs_noIm {w : World} {U U' : Nat → Prop} : ∀ (ps : List PV) (vs : List Value) (F : List Nat), Rs w U ps vs F → noIms ps → Rs w U' ps vs F
  | [], [], F, h, _ => by simpa only [Rs] using h
  | p :: ps, v :: vs, F, h, hn => by
    simp only [Rs, noIms] at h hn ⊢
    obtain ⟨F1, F2, h1, h2, hF⟩ := h
    exact ⟨F1, F2, R_noIm p v F1 h1 hn.1, Rs_noIm ps vs F2 h2 hn.2, hF⟩
  | [], _ :: _, F, h, _ => by simp only [Rs] at h
  | _ :: _, [], F, h, _ => by simp only [Rs] at h
end

theorem CR1_noIm {w : World} {U U' : Nat → Prop} {c : CV} {v : Value} {F : List Nat} (hs : noImC1 c) (h : CR w U c v F) : CR w U' c v F := by
  cases c with
  | v p => simp only [CR, noImC1] at h hs ⊢; exact R_noIm p v F h hs
  | agg ps => simp only [CR, noImC1] at h hs ⊢; obtain ⟨us, e, hr⟩ := h; exact ⟨us, e, Rs_noIm ps _ F hr hs⟩
  | ptr ps => simp only [CR, noImC1] at h hs ⊢; obtain ⟨b, us, ty, F', e1, e2, e3, hr, e4⟩ := h; exact ⟨b, us, ty, F', e1, e2, e3, Rs_noIm ps _ F' hr hs, e4⟩
  | any => simpa only [CR] using h
  | _ => simp [noImC1] at hs

theorem CRs_noIm {w : World} {U U' : Nat → Prop} : ∀ {cs : List CV} {vs : List Value} {F : List Nat}, noImCs cs → CRs w U cs vs F → CRs w U' cs vs F
  | [], [], F, _, h => by simpa only [CRs] using h
  | c :: cs, v :: vs, F, hn, h => by
    simp only [CRs, noImCs] at h hn ⊢
    obtain ⟨F1, F2, h1, h2, hF⟩ := h
    exact ⟨F1, F2, CR1_noIm hn.1 h1, CRs_noIm hn.2 h2, hF⟩
  | [], _ :: _, F, _, h => by simp only [CRs] at h
  | _ :: _, [], F, _, h => by simp only [CRs] at h

section
variable {P : Program} {T : Ty} {C : Ctx} {σ : AEnv} {a : Act} {w w' : World} {ι : Nat → Value} {Fs : Nat → List Nat} {τ : Nat → AObj}

/-- What our own may be looked at, too, for the time of a call. -/
def Vw (C : Ctx) (w : World) (Fs : Nat → List Nat) (vw : List Nat) (k : Nat) : Prop := Un C w Fs k ∨ (k < w.heap.size ∧ ∃ o, o ∈ vw ∧ k ∈ Fs o)

theorem Vw_un {v : List Nat} {k : Nat} (h : Un C w Fs k) : Vw C w Fs v k := .inl h

theorem cellView_R (h : Sim C σ a w ι Fs) (ha : Agr σ.o τ) {x : AV} {v : Value} {p : PV} {b : List Nat} (hx : AR w (Un C w Fs) σ.o ι x v) (hc : cellView τ x = some (p, b)) (b' : List Nat) (hb : ∀ o, o ∈ b → o ∈ b') : R w (Vw C w Fs b') p v [] := by
  unfold cellView at hc
  split at hc
  · split at hc
    · cases hc
      exact R_mono (fun k hk => Vw_un hk) (fun k _ => rfl) _ _ _ (AR_c.1 hx) (by simp)
    · cases hc
  · cases hc
    simp only [AR] at hx
    subst hx
    simp [R]
  · rename_i o
    split at hc
    · rename_i g1 e1 s1 n1 cs hτ
      cases hc
      obtain ⟨ho, hv⟩ := agr_arr ha hx hτ
      have hob := h.ob o
      rw [ho] at hob
      obtain ⟨xs, F', hown, hr, hF⟩ := hob
      have h2 : R w (Un C w Fs) (.ow e1 s1 n1 cs) (ι o) (Fs o) := by simp only [R]; exact ⟨xs, F', hown, hr, hF⟩
      subst hv
      have := R_frz (U := Un C w Fs) (U' := Vw C w Fs b') (fun k hk => Vw_un hk) _ _ _ h2 (fun k hk => .inr ⟨(h.own o k hk).1, o, hb o (by simp), hk⟩)
      simpa only [frz] using this
    · cases hc
  · rename_i o gq off
    split at hc
    · rename_i g1 e1 s1 n1 cs hτ
      by_cases hgg : ¬ gq = g1
      · rw [if_neg hgg] at hc; cases hc
      have hgg := Decidable.not_not.1 hgg
      rw [if_pos hgg] at hc
      split at hc
      · rename_i e2 s2 n2 c2 hcs
        cases hc
        obtain ⟨ho, hv⟩ := agr_inr ha hx hτ
        obtain ⟨k, hk, hcell⟩ := hv hgg ⟨_, _, _, _, hcs⟩
        obtain ⟨xs, F', hown, hm, hr, hF⟩ := arr_mem h ho hk
        obtain ⟨u, F1, hu, hur, hsub⟩ := Rs_get hr hcs
        have := hm off u hu
        rw [Nat.zero_add, hcell] at this
        cases this
        have := R_frz (U := Un C w Fs) (U' := Vw C w Fs b') (fun k hk => Vw_un hk) _ _ _ hur (fun k hk => by
          have : k ∈ Fs o := by rw [hF]; exact List.mem_cons_of_mem _ (hsub k hk)
          exact .inr ⟨(h.own o k this).1, o, hb o (by simp), this⟩)
        simpa only [frz] using this
      · cases hc
    · cases hc
  · cases hc

theorem cellsView_R (h : Sim C σ a w ι Fs) (ha : Agr σ.o τ) : ∀ {xs : List AV} {vs : List Value} {ps : List PV} {b : List Nat}, ARs w (Un C w Fs) σ.o ι xs vs → cellsView τ xs = some (ps, b) → ∀ b' : List Nat, (∀ o, o ∈ b → o ∈ b') → Rs w (Vw C w Fs b') ps vs []
  | [], [], ps, b, _, hc, b', _ => by simp [cellsView] at hc; rw [hc.1]; simp [Rs]
  | x :: xs, v :: vs, ps, b, hx, hc, b', hb => by
    simp only [ARs] at hx
    simp only [cellsView] at hc
    split at hc
    · rename_i p b1 ps' b2 h1 h2
      cases hc
      simp only [Rs]
      exact ⟨[], [], cellView_R h ha hx.1 h1 b' (fun o e => hb o (by simp [e])), cellsView_R h ha hx.2 h2 b' (fun o e => hb o (by simp [e])), rfl⟩
    · cases hc
  | [], _ :: _, _, _, hx, _, _, _ => by simp only [ARs] at hx
  | _ :: _, [], _, _, hx, _, _, _ => by simp only [ARs] at hx

theorem argView0_R (h : Sim C σ a w ι Fs) (ha : Agr σ.o τ) {x : AV} {v : Value} {p : CV} {b : List Nat} (hx : AR w (Un C w Fs) σ.o ι x v) (hc : argView0 τ x = some (p, b)) (b' : List Nat) (hb : ∀ o, o ∈ b → o ∈ b') : CR w (Vw C w Fs b') p v [] := by
  unfold argView0 at hc
  split at hc
  · split at hc
    · rename_i cs _ ps b1 h1
      cases hc
      simp only [AR] at hx
      obtain ⟨vs, rfl, hs⟩ := hx
      simp only [CR]
      exact ⟨vs, rfl, cellsView_R h ha hs h1 b' hb⟩
    · cases hc
  · rename_i o
    split at hc
    · rename_i cs hτ
      split at hc
      · rename_i ps b1 h1
        cases hc
        obtain ⟨ho, k, hk, hv⟩ := agr_box ha hx hτ
        obtain ⟨vals, ty, hh, hm, hr, _, hF⟩ := box_mem h ho hk
        simp only [CR]
        exact ⟨trivial, k, 0, vals.toList, hv, .inr ⟨(h.own o k (by rw [hF]; simp)).1, o, hb o (by simp), by rw [hF]; simp⟩, hm, cellsView_R h ha hr h1 b' (fun o' e => hb o' (by simp [e]))⟩
      · cases hc
    · cases hc
  · rename_i cs off
    cases hc
    simp only [AR] at hx
    obtain ⟨b, o0, xs, hv, hU, hm, hr⟩ := hx
    simp only [CR]
    exact ⟨trivial, b, o0 + off, xs.drop off, hv, Vw_un hU, memAt_drop hm off, Rs_mono (fun k hk => Vw_un hk) (fun _ _ => rfl) _ _ _ (Rs_drop hr off) (by simp)⟩
  · split at hc
    · rename_i p1 b1 h1
      cases hc
      simp only [CR]
      exact cellView_R h ha hx h1 b' hb
    · cases hc

theorem argsView0_R (h : Sim C σ a w ι Fs) (ha : Agr σ.o τ) : ∀ {xs : List AV} {vs : List Value} {ps : List CV} {b : List Nat}, ARs w (Un C w Fs) σ.o ι xs vs → argsView0 τ xs = some (ps, b) → ∀ b' : List Nat, (∀ o, o ∈ b → o ∈ b') → CRs w (Vw C w Fs b') ps vs []
  | [], [], ps, b, _, hc, b', _ => by simp [argsView0] at hc; rw [hc.1]; simp [CRs]
  | x :: xs, v :: vs, ps, b, hx, hc, b', hb => by
    simp only [ARs] at hx
    simp only [argsView0] at hc
    split at hc
    · rename_i p b1 ps' b2 h1 h2
      cases hc
      simp only [CRs]
      exact ⟨[], [], argView0_R h ha hx.1 h1 b' (fun o e => hb o (by simp [e])), argsView0_R h ha hx.2 h2 b' (fun o e => hb o (by simp [e])), rfl⟩
    · cases hc
  | [], _ :: _, _, _, hx, _, _, _ => by simp only [ARs] at hx
  | _ :: _, [], _, _, hx, _, _, _ => by simp only [ARs] at hx

theorem argView_R (h : Sim C σ a w ι Fs) (ha : Agr σ.o τ) {x : AV} {v : Value} {p : CV} {b : List Nat} (hx : AR w (Un C w Fs) σ.o ι x v) (hc : argView τ x = some (p, b)) (b' : List Nat) (hb : ∀ o, o ∈ b → o ∈ b') : CR w (Vw C w Fs b') p v [] := by
  unfold argView at hc
  split at hc
  · split at hc
    · rename_i f caps _ cs b1 h1
      cases hc
      simp only [AR] at hx
      obtain ⟨xs, rfl, hs⟩ := hx
      simp only [CR]
      exact ⟨trivial, xs, rfl, argsView0_R h ha hs h1 b' hb⟩
    · cases hc
  · exact argView0_R h ha hx hc b' hb

theorem argsView_R (h : Sim C σ a w ι Fs) (ha : Agr σ.o τ) : ∀ {xs : List AV} {vs : List Value} {ps : List CV} {b : List Nat}, ARs w (Un C w Fs) σ.o ι xs vs → argsView τ xs = some (ps, b) → ∀ b' : List Nat, (∀ o, o ∈ b → o ∈ b') → CRs w (Vw C w Fs b') ps vs []
  | [], [], ps, b, _, hc, b', _ => by simp [argsView] at hc; rw [hc.1]; simp [CRs]
  | x :: xs, v :: vs, ps, b, hx, hc, b', hb => by
    simp only [ARs] at hx
    simp only [argsView] at hc
    split at hc
    · rename_i p b1 ps' b2 h1 h2
      cases hc
      simp only [CRs]
      exact ⟨[], [], argView_R h ha hx.1 h1 b' (fun o e => hb o (by simp [e])), argsView_R h ha hx.2 h2 b' (fun o e => hb o (by simp [e])), rfl⟩
    · cases hc
  | [], _ :: _, _, _, hx, _, _, _ => by simp only [ARs] at hx
  | _ :: _, [], _, _, hx, _, _, _ => by simp only [ARs] at hx

end
end Am
