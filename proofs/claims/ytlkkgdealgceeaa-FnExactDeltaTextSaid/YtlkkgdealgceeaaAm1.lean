/- The abstract machine's values, objects, surroundings; what they stand for. No condition. -/
import Derived.Test.YtlkkgdealgceeaaAm0
namespace Am
open Go

inductive AV where
  | any
  | c (p : PV)
  | nil
  | agg (cs : List AV)
  | box (o off : Nat)
  | arr (o : Nat)
  | pa (o off : Nat)
  | inr (o g off : Nat)
  | pc (cs : List PV) (off : Nat)
  | tup (vs : List AV)
  | fn (f : Nat) (cap : List AV)
  | gd (b : Bool) (v : AV)
  | mp (o : Nat)
  deriving Inhabited

inductive AObj where
  | none
  | dead
  | box (cs : List AV)
  | arr (g ety esz n : Nat) (cs : List PV)
  | mp (Q : Obj → Prop)
  deriving Inhabited

structure AEnv where
  t : Nat → AV
  o : Nat → AObj

def isOw (cs : List PV) (i : Nat) : Prop := ∃ e s n c, cs[i]? = some (.ow e s n c)

mutual
def AR (w : World) (U : Nat → Prop) (O : Nat → AObj) (ι : Nat → Value) : AV → Value → Prop
  | .any, _ => True
  | .c p, v => R w U p v []
  | .nil, v => v = .slice none 0 0
  | .agg cs, v => ∃ vs, v = .agg vs ∧ ARs w U O ι cs vs.toList
  | .box o off, v => match O o with
    | .box _ => ∃ b, ι o = .pointer (some ⟨b, 0, none⟩) ∧ v = .pointer (some ⟨b, off, none⟩)
    | .dead => True
    | _ => False
  | .arr o, v => match O o with
    | .arr _ _ _ _ _ => v = ι o
    | .dead => True
    | _ => False
  | .pa o off, v => match O o with
    | .arr _ _ _ _ _ => ∃ b, (ι o).ownBlock = some b ∧ v = .pointer (some ⟨b, off, none⟩)
    | .dead => True
    | _ => False
  | .inr o g off, v => match O o with
    | .arr g' _ _ _ cs => g ≤ g' ∧ (g = g' → isOw cs off → ∃ b, (ι o).ownBlock = some b ∧ w.cell? ⟨b, off, none⟩ = some v)
    | .dead => True
    | _ => False
  | .pc cs off, v => ∃ b o0 xs, v = .pointer (some ⟨b, o0 + off, none⟩) ∧ U b ∧ memAt w b o0 xs ∧ Rs w U cs xs []
  | .tup vs, v => ∃ xs, v = .tuple xs ∧ ARs w U O ι vs xs.toList
  | .fn f cap, v => ∃ xs, v = .func (.func f) #[] xs ∧ ARs w U O ι cap xs.toList
  | .gd b x, v => (b = true → AR w U O ι x v) ∧ (b = false → v = undef)
  | .mp o, v => match O o with
    | .mp _ => v = ι o
    | .dead => True
    | _ => False
def ARs (w : World) (U : Nat → Prop) (O : Nat → AObj) (ι : Nat → Value) : List AV → List Value → Prop
  | [], [] => True
  | a :: as, v :: vs => AR w U O ι a v ∧ ARs w U O ι as vs
  | [], _ :: _ => False
  | _ :: _, [] => False
end

def ObR (w : World) (U : Nat → Prop) (O : Nat → AObj) (ι : Nat → Value) : AObj → Value → List Nat → Prop
  | .none, _, _ => True
  | .dead, _, F => F = []
  | .box cs, v, F => ∃ b vals ty, v = .pointer (some ⟨b, 0, none⟩) ∧ w.heap[b]? = some (.cells vals ty (0, 0)) ∧ ARs w U O ι cs vals.toList ∧ (∀ x ∈ vals.toList, x.oneCell' = true) ∧ F = [b]
  | .arr _ ety esz n cs, v, F => ∃ xs F', w.ownsRow 0 ety esz v n xs ∧ Rs w U cs xs F' ∧ F = v.ownBlock.toList ++ F'
  | .mp Q, v, F => ∃ b ob, v = .map (some b) ∧ w.heap[b]? = some ob ∧ Q ob ∧ F = [b]

structure Ctx where
  w0 : World          -- when the call began
  V : Nat → Prop      -- blocks that may be looked at as never written
  S : Nat → Prop      -- blocks of what was handed over
  N : Nat × Nat       -- from where slots are written; how many slots
  A : Nat → Value     -- what the slots below hold

def Un (C : Ctx) (w : World) (Fs : Nat → List Nat) (k : Nat) : Prop := k < w.heap.size ∧ (C.V k ∨ C.S k ∨ C.w0.heap.size ≤ k) ∧ ∀ o, k ∉ Fs o

structure Kept (C : Ctx) (w : World) : Prop where
  os : w.os = C.w0.os
  tape : w.tape = C.w0.tape
  output : w.output = C.w0.output
  size : C.w0.heap.size ≤ w.heap.size
  block : ∀ k, k < C.w0.heap.size → ¬ C.S k → w.heap[k]? = C.w0.heap[k]?

structure Sim (C : Ctx) (σ : AEnv) (a : Act) (w : World) (ι : Nat → Value) (Fs : Nat → List Nat) : Prop where
  kept : Kept C w
  tm : ∀ i, AR w (Un C w Fs) σ.o ι (σ.t i) (a.tmps.getD i undef)
  ob : ∀ o, ObR w (Un C w Fs) σ.o ι (σ.o o) (ι o) (Fs o)
  dis : ∀ o o', o ≠ o' → ∀ b, b ∈ Fs o → b ∉ Fs o'
  nd : ∀ o, (Fs o).Nodup
  own : ∀ o b, b ∈ Fs o → b < w.heap.size ∧ (C.w0.heap.size ≤ b ∨ C.S b)
  df : a.defers = []
  sz : a.tmps.size = C.N.2
  kp : ∀ i, i < C.N.1 → a.tmps.getD i undef = C.A i

/-- A list of values stands for a list of cells. -/
theorem ARs_length {w : World} {U : Nat → Prop} {O : Nat → AObj} {ι : Nat → Value} : ∀ (as : List AV) (vs : List Value), ARs w U O ι as vs → as.length = vs.length
  | [], [], _ => rfl
  | a :: as, v :: vs, h => by simp only [ARs] at h; simp [ARs_length as vs h.2]
  | [], _ :: _, h => by simp only [ARs] at h
  | _ :: _, [], h => by simp only [ARs] at h

theorem ARs_get {w : World} {U : Nat → Prop} {O : Nat → AObj} {ι : Nat → Value} : ∀ {as : List AV} {vs : List Value}, ARs w U O ι as vs → ∀ {i : Nat} {a : AV}, as[i]? = some a → ∃ v, vs[i]? = some v ∧ AR w U O ι a v
  | [], [], _, i, a, ha => by simp at ha
  | a :: as, v :: vs, h, i, x, ha => by
    simp only [ARs] at h
    cases i with
    | zero => simp at ha; subst ha; exact ⟨v, rfl, h.1⟩
    | succ i => simpa using ARs_get h.2 (by simpa using ha)
  | [], _ :: _, h, _, _, _ => by simp only [ARs] at h
  | _ :: _, [], h, _, _, _ => by simp only [ARs] at h

theorem ARs_of_get {w : World} {U : Nat → Prop} {O : Nat → AObj} {ι : Nat → Value} : ∀ {as : List AV} {vs : List Value}, as.length = vs.length → (∀ (i : Nat) (a : AV) (v : Value), as[i]? = some a → vs[i]? = some v → AR w U O ι a v) → ARs w U O ι as vs
  | [], [], _, _ => by simp [ARs]
  | a :: as, v :: vs, hl, h => by
    simp only [ARs]
    exact ⟨h 0 a v rfl rfl, ARs_of_get (by simpa using hl) (fun i a' v' ha hv => h (i + 1) a' v' (by simpa using ha) (by simpa using hv))⟩
  | [], _ :: _, hl, _ => by simp at hl
  | _ :: _, [], hl, _ => by simp at hl

theorem ARs_take {w : World} {U : Nat → Prop} {O : Nat → AObj} {ι : Nat → Value} {as : List AV} {vs : List Value} (h : ARs w U O ι as vs) (n : Nat) : ARs w U O ι (as.take n) (vs.take n) :=
  ARs_of_get (by simp [ARs_length _ _ h]) (fun i a v ha hv => by
    rw [List.getElem?_take] at ha hv
    split at ha
    · rename_i hi
      rw [if_pos hi] at hv
      obtain ⟨v', hv', hr⟩ := ARs_get h ha
      rw [hv] at hv'; cases hv'; exact hr
    · cases ha)

theorem ARs_drop {w : World} {U : Nat → Prop} {O : Nat → AObj} {ι : Nat → Value} {as : List AV} {vs : List Value} (h : ARs w U O ι as vs) (n : Nat) : ARs w U O ι (as.drop n) (vs.drop n) :=
  ARs_of_get (by simp [ARs_length _ _ h]) (fun i a v ha hv => by
    rw [List.getElem?_drop] at ha hv
    obtain ⟨v', hv', hr⟩ := ARs_get h ha
    rw [hv] at hv'; cases hv'; exact hr)

theorem ARs_append {w : World} {U : Nat → Prop} {O : Nat → AObj} {ι : Nat → Value} : ∀ {as bs : List AV} {vs us : List Value}, ARs w U O ι as vs → ARs w U O ι bs us → ARs w U O ι (as ++ bs) (vs ++ us)
  | [], _, [], _, _, h' => by simpa using h'
  | a :: as, bs, v :: vs, us, h, h' => by simp only [ARs, List.cons_append] at h ⊢; exact ⟨h.1, ARs_append h.2 h'⟩
  | [], _, _ :: _, _, h, _ => by simp only [ARs] at h
  | _ :: _, _, [], _, h, _ => by simp only [ARs] at h

/-- What an abstract value stands for does not turn while: no object that it may name is turned into another one (a name that was free may be taken), the memory of what is looked at stays. -/
structure Later (w w' : World) (U U' : Nat → Prop) (O O' : Nat → AObj) (ι ι' : Nat → Value) : Prop where
  u : ∀ k, U k → U' k
  heap : ∀ k, U k → w'.heap[k]? = w.heap[k]?
  -- of each name: free before; or dead now; or of the same kind, in the same place
  name : ∀ o, O o = .none ∨ O' o = .dead ∨ (∃ cs cs', O o = .box cs ∧ O' o = .box cs' ∧ ι' o = ι o) ∨
    (∃ g ety esz n cs g' ety' esz' n' cs', O o = .arr g ety esz n cs ∧ O' o = .arr g' ety' esz' n' cs' ∧ ι' o = ι o ∧ g ≤ g' ∧
      (g = g' → ∀ off, isOw cs' off → isOw cs off ∧ ∀ b, (ι o).ownBlock = some b → w'.cell? ⟨b, off, none⟩ = w.cell? ⟨b, off, none⟩)) ∨
    (∃ Q Q', O o = .mp Q ∧ O' o = .mp Q' ∧ ι' o = ι o)

theorem AR_none_false {w : World} {U : Nat → Prop} {O : Nat → AObj} {ι : Nat → Value} {o : Nat} (h : O o = .none) {g off : Nat} {v : Value} :
    ¬ AR w U O ι (.box o off) v ∧ ¬ AR w U O ι (.arr o) v ∧ ¬ AR w U O ι (.pa o off) v ∧ ¬ AR w U O ι (.inr o g off) v ∧ ¬ AR w U O ι (.mp o) v := by
  refine ⟨?_, ?_, ?_, ?_, ?_⟩ <;> (simp only [AR, h]; exact id)

mutual
theorem AR_later {w w' : World} {U U' : Nat → Prop} {O O' : Nat → AObj} {ι ι' : Nat → Value} (L : Later w w' U U' O O' ι ι') : ∀ (a : AV) (v : Value), AR w U O ι a v → AR w' U' O' ι' a v
  | .any, _, _ => by simp only [AR]
  | .c p, v, h => by simp only [AR] at h ⊢; exact R_mono L.u L.heap p v [] h (by simp)
  | .nil, v, h => by simpa only [AR] using h
  | .agg cs, v, h => by
    simp only [AR] at h ⊢
    obtain ⟨vs, rfl, hs⟩ := h
    exact ⟨vs, rfl, ARs_later L cs vs.toList hs⟩
  | .box o off, v, h => by
    rcases L.name o with hn | hn | ⟨cs, cs', h1, h2, h3⟩ | ⟨g1, ety, esz, n, cs, g2, ety', esz', n', cs', h1, h2, h3, h5, h4⟩ | ⟨Q, Q', h1, h2, h3⟩
    · exact absurd h (AR_none_false (g := 0) hn).1
    · simp only [AR, hn]
    · simp only [AR, h1] at h; simp only [AR, h2, h3]; exact h
    · simp only [AR, h1] at h
    · simp only [AR, h1] at h
  | .arr o, v, h => by
    rcases L.name o with hn | hn | ⟨cs, cs', h1, h2, h3⟩ | ⟨g1, ety, esz, n, cs, g2, ety', esz', n', cs', h1, h2, h3, h5, h4⟩ | ⟨Q, Q', h1, h2, h3⟩
    · exact absurd h (AR_none_false (g := 0) (off := 0) hn).2.1
    · simp only [AR, hn]
    · simp only [AR, h1] at h
    · simp only [AR, h1] at h; simp only [AR, h2, h3]; exact h
    · simp only [AR, h1] at h
  | .pa o off, v, h => by
    rcases L.name o with hn | hn | ⟨cs, cs', h1, h2, h3⟩ | ⟨g1, ety, esz, n, cs, g2, ety', esz', n', cs', h1, h2, h3, h5, h4⟩ | ⟨Q, Q', h1, h2, h3⟩
    · exact absurd h (AR_none_false (g := 0) hn).2.2.1
    · simp only [AR, hn]
    · simp only [AR, h1] at h
    · simp only [AR, h1] at h; simp only [AR, h2, h3]; exact h
    · simp only [AR, h1] at h
  | .mp o, v, h => by
    rcases L.name o with hn | hn | ⟨cs, cs', h1, h2, h3⟩ | ⟨g1, ety, esz, n, cs, g2, ety', esz', n', cs', h1, h2, h3, h5, h4⟩ | ⟨Q, Q', h1, h2, h3⟩
    · exact absurd h (AR_none_false (g := 0) (off := 0) hn).2.2.2.2
    · simp only [AR, hn]
    · simp only [AR, h1] at h
    · simp only [AR, h1] at h
    · simp only [AR, h1] at h; simp only [AR, h2, h3]; exact h
  | .inr o g off, v, h => by
    rcases L.name o with hn | hn | ⟨cs, cs', h1, h2, h3⟩ | ⟨g1, ety, esz, n, cs, g2, ety', esz', n', cs', h1, h2, h3, h5, h4⟩ | ⟨Q, Q', h1, h2, h3⟩
    · exact absurd h (AR_none_false hn).2.2.2.1
    · simp only [AR, hn]
    · simp only [AR, h1] at h
    · simp only [AR, h1] at h
      simp only [AR, h2, h3]
      refine ⟨Nat.le_trans h.1 h5, fun hg hi => ?_⟩
      have hg1 : g1 = g2 := Nat.le_antisymm h5 (hg ▸ h.1)
      obtain ⟨h7, h6⟩ := h4 hg1 off hi
      obtain ⟨b, hb, hc⟩ := h.2 (hg.trans hg1.symm) h7
      exact ⟨b, hb, (h6 b hb).trans hc⟩
    · simp only [AR, h1] at h
  | .pc cs off, v, h => by
    simp only [AR] at h ⊢
    obtain ⟨b, o0, xs, hv, hb, hm, hr⟩ := h
    exact ⟨b, o0, xs, hv, L.u _ hb, memAt_mono hm (L.heap _ hb), Rs_mono L.u L.heap cs xs [] hr (by simp)⟩
  | .tup vs, v, h => by
    simp only [AR] at h ⊢
    obtain ⟨xs, rfl, hs⟩ := h
    exact ⟨xs, rfl, ARs_later L vs xs.toList hs⟩
  | .fn f cap, v, h => by
    simp only [AR] at h ⊢
    obtain ⟨xs, rfl, hs⟩ := h
    exact ⟨xs, rfl, ARs_later L cap xs.toList hs⟩
  | .gd b x, v, h => by
    simp only [AR] at h ⊢
    exact ⟨fun hb => AR_later L x v (h.1 hb), h.2⟩
theorem ARs_later {w w' : World} {U U' : Nat → Prop} {O O' : Nat → AObj} {ι ι' : Nat → Value} (L : Later w w' U U' O O' ι ι') : ∀ (as : List AV) (vs : List Value), ARs w U O ι as vs → ARs w' U' O' ι' as vs
  | [], [], _ => by simp only [ARs]
  | a :: as, v :: vs, h => by simp only [ARs] at h ⊢; exact ⟨AR_later L a v h.1, ARs_later L as vs h.2⟩
  | [], _ :: _, h => by simp only [ARs] at h
  | _ :: _, [], h => by simp only [ARs] at h
end

/-- What changes in one step: the objects X, and nothing else that was there. -/
structure Move (C : Ctx) (O O' : Nat → AObj) (w w' : World) (ι ι' : Nat → Value) (Fs Fs' : Nat → List Nat) (X : Nat → Prop) : Prop where
  os : w'.os = w.os
  tape : w'.tape = w.tape
  output : w'.output = w.output
  size : w.heap.size ≤ w'.heap.size
  block : ∀ k, k < w.heap.size → (∀ o, X o → k ∉ Fs o) → w'.heap[k]? = w.heap[k]?
  same : ∀ o, ¬ X o → O' o = O o ∧ ι' o = ι o ∧ Fs' o = Fs o
  name : ∀ o, X o → O o = .none ∨ O' o = .dead ∨ (∃ cs cs', O o = .box cs ∧ O' o = .box cs' ∧ ι' o = ι o) ∨
    (∃ g ety esz n cs g' ety' esz' n' cs', O o = .arr g ety esz n cs ∧ O' o = .arr g' ety' esz' n' cs' ∧ ι' o = ι o ∧ g ≤ g' ∧
      (g = g' → ∀ off, isOw cs' off → isOw cs off ∧ ∀ b, (ι o).ownBlock = some b → w'.cell? ⟨b, off, none⟩ = w.cell? ⟨b, off, none⟩)) ∨
    (∃ Q Q', O o = .mp Q ∧ O' o = .mp Q' ∧ ι' o = ι o)
  ob : ∀ o, X o → ObR w' (Un C w' Fs') O' ι' (O' o) (ι' o) (Fs' o)
  nd : ∀ o, X o → (Fs' o).Nodup
  own : ∀ o, X o → ∀ b, b ∈ Fs' o → b < w'.heap.size ∧ (w.heap.size ≤ b ∨ ∃ o1, X o1 ∧ b ∈ Fs o1)
  dis : ∀ o o', X o → X o' → o ≠ o' → ∀ b, b ∈ Fs' o → b ∉ Fs' o'

theorem ObR_later {w w' : World} {U U' : Nat → Prop} {O O' : Nat → AObj} {ι ι' : Nat → Value} (L : Later w w' U U' O O' ι ι') {ob : AObj} {v : Value} {F : List Nat}
    (h : ObR w U O ι ob v F) (hF : ∀ k, k ∈ F → w'.heap[k]? = w.heap[k]?) : ObR w' U' O' ι' ob v F := by
  cases ob with
  | none => exact h
  | dead => exact h
  | box cs =>
    obtain ⟨b, vals, ty, hv, hh, hr, h1, rfl⟩ := h
    exact ⟨b, vals, ty, hv, by rw [hF b (by simp)]; exact hh, ARs_later L cs vals.toList hr, h1, rfl⟩
  | arr g ety esz n cs =>
    obtain ⟨xs, F', ho, hr, rfl⟩ := h
    exact ⟨xs, F', ownsRow_mono ho (fun k hk => hF k (by simp [hk])), Rs_mono L.u L.heap cs xs F' hr (fun k hk => hF k (by simp [hk])), rfl⟩
  | mp Q =>
    obtain ⟨b, ob, hv, hh, hq, rfl⟩ := h
    exact ⟨b, ob, hv, by rw [hF b (by simp)]; exact hh, hq, rfl⟩

theorem Move.un {C : Ctx} {O O' : Nat → AObj} {w w' : World} {ι ι' : Nat → Value} {Fs Fs' : Nat → List Nat} {X : Nat → Prop} (M : Move C O O' w w' ι ι' Fs Fs' X) (k : Nat) (h : Un C w Fs k) : Un C w' Fs' k := by
  obtain ⟨h1, h2, h3⟩ := h
  refine ⟨Nat.lt_of_lt_of_le h1 M.size, h2, fun o hk => ?_⟩
  by_cases hX : X o
  · rcases (M.own o hX k hk).2 with h4 | ⟨o1, _, h4⟩
    · omega
    · exact h3 o1 h4
  · rw [(M.same o hX).2.2] at hk
    exact h3 o hk

theorem Move.later {C : Ctx} {O O' : Nat → AObj} {w w' : World} {ι ι' : Nat → Value} {Fs Fs' : Nat → List Nat} {X : Nat → Prop} (M : Move C O O' w w' ι ι' Fs Fs' X)
    (hob : ∀ o, ObR w (Un C w Fs) O ι (O o) (ι o) (Fs o)) (hdis : ∀ o o', o ≠ o' → ∀ b, b ∈ Fs o → b ∉ Fs o') (hown : ∀ o b, b ∈ Fs o → b < w.heap.size) :
    Later w w' (Un C w Fs) (Un C w' Fs') O O' ι ι' where
  u := M.un
  heap k hk := M.block k hk.1 (fun o _ => hk.2.2 o)
  name o := by
    by_cases hX : X o
    · exact M.name o hX
    · obtain ⟨h1, h2, h3⟩ := M.same o hX
      have hob' := hob o
      cases hO : O o with
      | none => exact .inl rfl
      | dead => exact .inr (.inl (by rw [h1, hO]))
      | box cs => exact .inr (.inr (.inl ⟨cs, cs, rfl, by rw [h1, hO], h2⟩))
      | mp Q => exact .inr (.inr (.inr (.inr ⟨Q, Q, rfl, by rw [h1, hO], h2⟩)))
      | arr g ety esz n cs =>
        refine .inr (.inr (.inr (.inl ⟨g, ety, esz, n, cs, g, ety, esz, n, cs, rfl, by rw [h1, hO], h2, Nat.le_refl _, fun _ off hi => ⟨hi, fun b hb => ?_⟩⟩)))
        rw [hO] at hob'
        obtain ⟨xs, F', ho, _, hF⟩ := hob'
        have hbm : b ∈ Fs o := by rw [hF]; simp [hb]
        refine World.cell?_of_block (w := w) (w' := w') (a := ⟨b, off, none⟩) (M.block b (hown o b hbm) (fun o1 hX1 hb1 => ?_))
        by_cases he : o = o1
        · exact hX (he ▸ hX1)
        · exact hdis o o1 he b hbm hb1

theorem Sim.later {C : Ctx} {σ : AEnv} {a : Act} {w w' : World} {ι ι' : Nat → Value} {Fs Fs' : Nat → List Nat} {O' : Nat → AObj} {X : Nat → Prop} (h : Sim C σ a w ι Fs)
    (M : Move C σ.o O' w w' ι ι' Fs Fs' X) : Later w w' (Un C w Fs) (Un C w' Fs') σ.o O' ι ι' := M.later h.ob h.dis (fun o b hb => (h.own o b hb).1)

theorem Sim.move {C : Ctx} {σ : AEnv} {a : Act} {w w' : World} {ι ι' : Nat → Value} {Fs Fs' : Nat → List Nat} {O' : Nat → AObj} {X : Nat → Prop} (h : Sim C σ a w ι Fs)
    (M : Move C σ.o O' w w' ι ι' Fs Fs' X) : Sim C ⟨σ.t, O'⟩ a w' ι' Fs' := by
  have L := h.later M
  refine ⟨⟨M.os.trans h.kept.os, M.tape.trans h.kept.tape, M.output.trans h.kept.output, Nat.le_trans h.kept.size M.size, fun k hk hS => ?_⟩, fun i => AR_later L _ _ (h.tm i), fun o => ?_, fun o o' hne b hb hb' => ?_, fun o => ?_, fun o b hb => ?_, h.df, h.sz, h.kp⟩
  · rw [M.block k (Nat.lt_of_lt_of_le hk h.kept.size) (fun o hX hb => ?_), h.kept.block k hk hS]
    rcases (h.own o k hb).2 with h1 | h1
    · omega
    · exact hS h1
  · by_cases hX : X o
    · exact M.ob o hX
    · obtain ⟨h1, h2, h3⟩ := M.same o hX
      simp only [h1, h2, h3]
      exact ObR_later L (h.ob o) (fun k hk => M.block k (h.own o k hk).1 (fun o1 hX1 hb1 => by
        by_cases he : o = o1
        · exact hX (he ▸ hX1)
        · exact h.dis o o1 he k hk hb1))
  · by_cases hX : X o
    · by_cases hX' : X o'
      · exact M.dis o o' hX hX' hne b hb hb'
      · rw [(M.same o' hX').2.2] at hb'
        rcases (M.own o hX b hb).2 with h1 | ⟨o1, hX1, h1⟩
        · have := (h.own o' b hb').1; omega
        · exact h.dis o' o1 (fun e => hX' (e ▸ hX1)) b hb' h1
    · rw [(M.same o hX).2.2] at hb
      by_cases hX' : X o'
      · rcases (M.own o' hX' b hb').2 with h1 | ⟨o1, hX1, h1⟩
        · have := (h.own o b hb).1; omega
        · exact h.dis o o1 (fun e => hX (e ▸ hX1)) b hb h1
      · rw [(M.same o' hX').2.2] at hb'
        exact h.dis o o' hne b hb hb'
  · by_cases hX : X o
    · exact M.nd o hX
    · rw [(M.same o hX).2.2]; exact h.nd o
  · by_cases hX : X o
    · obtain ⟨h1, h2⟩ := M.own o hX b hb
      refine ⟨h1, ?_⟩
      rcases h2 with h2 | ⟨o1, hX1, h2⟩
      · exact .inl (Nat.le_trans h.kept.size h2)
      · exact (h.own o1 b h2).2
    · rw [(M.same o hX).2.2] at hb
      exact ⟨Nat.lt_of_lt_of_le (h.own o b hb).1 M.size, (h.own o b hb).2⟩

/-- A new value in a slot. -/
def AEnv.set (σ : AEnv) (d : Option Nat) (x : AV) : AEnv := match d with
  | some d => ⟨fun i => if i = d then x else σ.t i, σ.o⟩
  | none => σ

theorem Sim.put {C : Ctx} {σ : AEnv} {a : Act} {w : World} {ι : Nat → Value} {Fs : Nat → List Nat} (h : Sim C σ a w ι Fs) (d : Option Nat) {x : AV} {v : Value}
    (hd : ∀ k, d = some k → C.N.1 ≤ k ∧ k < C.N.2) (hx : AR w (Un C w Fs) σ.o ι x v) : Sim C (σ.set d x) (a.put d v) w ι Fs := by
  cases d with
  | none => exact h
  | some d =>
    have hd' : d < a.tmps.size := by rw [h.sz]; exact (hd d rfl).2
    refine ⟨h.kept, fun i => ?_, h.ob, h.dis, h.nd, h.own, h.df, by simp [Act.put, h.sz], fun i hi => ?_⟩
    rotate_left
    · have hi' : d ≠ i := fun e => by have := (hd d rfl).1; omega
      rw [← h.kp i hi]
      simp [Act.put, Array.getElem?_setIfInBounds_ne hi']
    simp only [AEnv.set, Act.put]
    by_cases hi : i = d
    · subst hi; simp [hd', hx]
    · have hi' : d ≠ i := fun e => hi e.symm
      simp only [hi, if_false]
      simpa [Array.getElem?_setIfInBounds_ne hi'] using h.tm i

/-- The world has grown, or drawn: nothing that is known has turned. -/
theorem Sim.grown {C : Ctx} {σ : AEnv} {a : Act} {w w' : World} {ι : Nat → Value} {Fs : Nat → List Nat} (h : Sim C σ a w ι Fs) (hg : w.grownBy w' none) : Sim C σ a w' ι Fs :=
  h.move (X := fun _ => False) ⟨hg.os, hg.tape, hg.output, hg.size, fun k hk _ => hg.block k hk (by simp), fun o _ => ⟨rfl, rfl, rfl⟩, fun _ h => h.elim, fun _ h => h.elim, fun _ h => h.elim, fun _ h => h.elim, fun _ _ h => h.elim⟩

end Am
