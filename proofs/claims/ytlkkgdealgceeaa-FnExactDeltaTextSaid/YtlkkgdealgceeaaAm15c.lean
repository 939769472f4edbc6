/- Arguments that are handed over, and what comes back of them. No condition. -/
import Derived.Test.YtlkkgdealgceeaaAm15b
namespace Am
open Go
set_option linter.unusedSimpArgs false
set_option linter.unusedVariables false
set_option linter.unnecessarySimpa false

/-- How an argument goes: looked at; handed over; a box handed over (these cells of it only carried along). -/
inductive LM where
  | view
  | lend
  | box (toks : List Nat)
  deriving Inhabited

def lendCell (O : Nat → AObj) : AV → Option (PV × List Nat)
  | .c p => if isFree p = true then some (p, []) else none
  | .nil => some (.im 0 [], [])
  | .arr o => match O o with
    | .arr _ e s n cs => some (.ow e s n cs, [o])
    | _ => none
  | .inr o g off => match O o with
    | .arr g' _ _ _ cs => if g = g' then match cs[off]? with
      | some (.ow e s n c) => some (.ow e s n c, [o])
      | _ => none
      else none
    | _ => none
  | _ => none

def lendCells (O : Nat → AObj) : List AV → Option (List PV × List Nat)
  | [] => some ([], [])
  | x :: xs => match lendCell O x, lendCells O xs with
    | some (p, l), some (ps, ls) => some (p :: ps, l ++ ls)
    | _, _ => none

def boxCells (us : Nat → Value) (toks : List Nat) (O : Nat → AObj) : Nat → List AV → Option (List PV × List Nat)
  | _, [] => some ([], [])
  | j, x :: xs => match (if toks.contains j then some (PV.tk (us j), []) else toPV O x), boxCells us toks O (j + 1) xs with
    | some (p, l), some (ps, ls) => some (p :: ps, l ++ ls)
    | _, _ => none

def argL (O : Nat → AObj) : LM → AV → Option (CV × List Nat × List Nat)
  | .view, x => match argView O x with
    | some (c, b) => some (c, b, [])
    | none => none
  | .lend, .agg cs => match lendCells O cs with
    | some (ps, l) => some (.agg ps, [], l)
    | none => none
  | .lend, x => match lendCell O x with
    | some (p, l) => some (.v p, [], l)
    | none => none
  | _, _ => none

def argsL1 (O : Nat → AObj) : List LM → List AV → Option (List CV × List Nat × List Nat)
  | _, [] => some ([], [], [])
  | ms, x :: xs => match argL O (ms.headD .view) x, argsL1 O ms.tail xs with
    | some (c, b, l), some (cs, bs, ls) => some (c :: cs, b ++ bs, l ++ ls)
    | _, _ => none

def argsL (us : Nat → Value) (O : Nat → AObj) : List LM → List AV → Option (List CV × List Nat × List Nat)
  | .box toks :: ms, .box o 0 :: xs => match O o with
    | .box cs => match boxCells us toks O 0 cs, argsL1 O ms xs with
      | some (ps, l), some (cs, bs, ls) => some (.ptr ps :: cs, bs, o :: l ++ ls)
      | _, _ => none
    | _ => none
  | ms, xs => argsL1 O ms xs

def inPV : PV → PV
  | .ow e s n cs => .ow e s n cs
  | _ => .any

def backCell (O : Nat → AObj) : AV → PV → List (Nat × AObj)
  | .arr o, .ow e s n cs => match O o with
    | .arr g _ _ _ _ => [(o, .arr (g + 1) e s n cs)]
    | _ => []
  | .arr o, _ => [(o, .dead)]
  | .inr o _ off, p => match O o with
    | .arr g e s n cs => [(o, .arr g e s n (cs.set off (inPV p)))]
    | _ => []
  | _, _ => []

def backCells (O : Nat → AObj) : List AV → List PV → List (Nat × AObj)
  | x :: xs, p :: ps => backCell O x p ++ backCells O xs ps
  | _, _ => []

def deadBox (toks : List Nat) : Nat → List AV → List (Nat × AObj)
  | _, [] => []
  | j, x :: xs => (match toks.contains j, x with
    | false, .arr o => [(o, AObj.dead)]
    | _, _ => []) ++ deadBox toks (j + 1) xs

/-- What holds at once behind a call, of one argument. -/
def argBack (O : Nat → AObj) : LM → AV → CV → Option (List (Nat × AObj))
  | .view, _, .any => some []
  | .lend, .agg cs, .agg ps => if ps.length = cs.length then some (backCells O cs ps) else none
  | .lend, .agg cs, .any => some (backCells O cs (cs.map fun _ => .any))
  | .lend, .agg _, _ => none
  | .lend, x, .v p => some (backCell O x p)
  | .lend, x, .any => some (backCell O x .any)
  | _, _, _ => none

def argsBack1 (O : Nat → AObj) : List LM → List AV → List CV → Option (List (Nat × AObj))
  | _, [], [] => some []
  | ms, x :: xs, c :: cs => match argBack O (ms.headD .view) x c, argsBack1 O ms.tail xs cs with
    | some b, some bs => some (b ++ bs)
    | _, _ => none
  | _, _, _ => none

/-- A box's cells behind the call. -/
def boxNew (toks : List Nat) (k : Nat) : Nat → List AV → List PV → List AV × List (Nat × AObj)
  | j, x :: xs, p :: ps => match toks.contains j with
    | true => (x :: (boxNew toks k (j + 1) xs ps).1, (boxNew toks k (j + 1) xs ps).2)
    | false => ((impCell true (k + j) p).1 :: (boxNew toks k (j + 1) xs ps).1, (impCell true (k + j) p).2 ++ (boxNew toks k (j + 1) xs ps).2)
  | _, _, _ => ([], [])

/-- .. of all: at once; and in the box behind that. -/
def argsBack (O : Nat → AObj) (k : Nat) : List LM → List AV → List CV → Option (List (Nat × AObj) × List (Nat × AObj))
  | .box toks :: ms, .box o 0 :: xs, .ptr ps :: cs => match O o with
    | .box bs => match argsBack1 O ms xs cs with
      | some r => if ps.length = bs.length ∧ bs.length ≤ 20 then some (((o, .box (bs.map fun _ => .any)) :: deadBox toks 0 bs) ++ r, (o, .box (boxNew toks k 0 bs ps).1) :: (boxNew toks k 0 bs ps).2) else none
      | none => none
    | _ => none
  | .box _ :: _, _, _ => none
  | ms, xs, cs => match argsBack1 O ms xs cs with
    | some r => some (r, [])
    | none => none

section
variable {P : Program} {T : Ty} {C : Ctx} {σ : AEnv} {a : Act} {w w' : World} {ι : Nat → Value} {Fs : Nat → List Nat} {τ : Nat → AObj}

theorem Rs_at2 {U : Nat → Prop} : ∀ {ps : List PV} {vs : List Value} {F : List Nat} {j : Nat} {p : PV}, Rs w U ps vs F → ps[j]? = some p →
    ∃ v F1 F2 F3, vs[j]? = some v ∧ R w U p v F2 ∧ F = F1 ++ F2 ++ F3 ∧ (∀ (w' : World) (U' : Nat → Prop) (q : PV) (G : List Nat), (∀ k, U k → U' k) → (∀ k, U k → w'.heap[k]? = w.heap[k]?) → (∀ k, k ∈ F1 ++ F3 → w'.heap[k]? = w.heap[k]?) →
      R w' U' q v G → Rs w' U' (ps.set j q) vs (F1 ++ G ++ F3))
  | [], _, _, j, p, _, h => by simp at h
  | q :: ps, [], _, _, _, h, _ => by simp only [Rs] at h
  | q :: ps, v :: vs, F, j, p, h, hp => by
    simp only [Rs] at h
    obtain ⟨G1, G2, h1, h2, rfl⟩ := h
    cases j with
    | zero =>
      simp at hp
      subst hp
      refine ⟨v, [], G1, G2, rfl, h1, by simp, fun w' U' r G hU hh hk hr => ?_⟩
      simp only [List.set_cons_zero, Rs]
      exact ⟨G, G2, hr, Rs_mono hU hh _ _ _ h2 (fun k hk' => hk k (by simp [hk'])), by simp⟩
    | succ j =>
      obtain ⟨u, F1, F2, F3, e1, e2, rfl, e3⟩ := Rs_at2 h2 (by simpa using hp)
      refine ⟨u, G1 ++ F1, F2, F3, by simpa using e1, e2, by simp, fun w' U' r G hU hh hk hr => ?_⟩
      simp only [List.set_cons_succ, Rs]
      exact ⟨G1, F1 ++ G ++ F3, R_mono hU hh _ _ _ h1 (fun k hk' => hk k (by simp [hk'])), e3 w' U' r G hU hh (fun k hk' => hk k (by simp only [List.mem_append] at hk' ⊢; rcases hk' with h | h; exact .inl (.inr h); exact .inr h)) hr, by simp⟩

/-- What came back of what was handed over (F), under these names. -/
def Back1 (C : Ctx) (σ : AEnv) (w : World) (ι : Nat → Value) (Fs : Nat → List Nat) (l : List Nat) (w' : World) (U' : Nat → Prop) (Fall : List Nat) (bk : List (Nat × AObj)) (Fo : List Nat) : Prop :=
  ∃ L G, bkOf L = bk ∧ L.map Ent.name = l ∧ (L.flatMap Ent.piece ++ G).Perm Fo ∧ ∀ e, e ∈ L → EntOk C σ w ι Fs Fall w' U' e

theorem Back1.nil {w' : World} {U' : Nat → Prop} {Fall Fo : List Nat} : Back1 C σ w ι Fs [] w' U' Fall [] Fo := ⟨[], Fo, rfl, rfl, by simp, by simp⟩

theorem perm4 {A B A' B' X Y : List Nat} (h1 : (A ++ B).Perm X) (h2 : (A' ++ B').Perm Y) : ((A ++ A') ++ (B ++ B')).Perm (X ++ Y) := by
  have e : ((A ++ A') ++ (B ++ B')).Perm ((A ++ B) ++ (A' ++ B')) := by
    rw [List.append_assoc, List.append_assoc]
    refine List.Perm.append_left A ?_
    rw [← List.append_assoc, ← List.append_assoc]
    exact List.Perm.append_right B' List.perm_append_comm
  exact e.trans (h1.append h2)

theorem Back1.app {w' : World} {U' : Nat → Prop} {Fall : List Nat} {l1 l2 : List Nat} {b1 b2 : List (Nat × AObj)} {F1 F2 : List Nat} (h1 : Back1 C σ w ι Fs l1 w' U' Fall b1 F1) (h2 : Back1 C σ w ι Fs l2 w' U' Fall b2 F2) :
    Back1 C σ w ι Fs (l1 ++ l2) w' U' Fall (b1 ++ b2) (F1 ++ F2) := by
  obtain ⟨L1, G1, r1, r2, r3, r4⟩ := h1
  obtain ⟨L2, G2, s1, s2, s3, s4⟩ := h2
  refine ⟨L1 ++ L2, G1 ++ G2, by simp [bkOf] at r1 s1 ⊢; rw [r1, s1], by simp [r2, s2], ?_, fun e he => ?_⟩
  · rw [List.flatMap_append]; exact perm4 r3 s3
  · rcases List.mem_append.1 he with he | he
    · exact r4 e he
    · exact s4 e he

theorem lendCell_R (h : Sim C σ a w ι Fs) (ha : Agr σ.o τ) {x : AV} {v : Value} {p : PV} {l : List Nat} (hx : AR w (Un C w Fs) σ.o ι x v) (hc : lendCell τ x = some (p, l)) :
    ∃ F, R w (Un C w Fs) p v F ∧ F.Nodup ∧ (∀ k, k ∈ F → ∃ o, o ∈ l ∧ k ∈ Fs o) ∧ (∀ o, o ∈ l → σ.o o ≠ .none) ∧
      ∀ (w' : World) (U' : Nat → Prop) (Fall : List Nat) (q : PV) (Fo : List Nat), GrownF w w' Fall → (∀ k, Un C w Fs k → k ∉ Fall) → (∀ o, o ∈ l → ∀ k, k ∈ Fs o → k ∈ Fall → k ∈ F) → R w' U' q v Fo → Back1 C σ w ι Fs l w' U' Fall (backCell τ x q) Fo := by
  unfold lendCell at hc
  split at hc
  · split at hc
    · cases hc
      exact ⟨[], AR_c.1 hx, by simp, by simp, by simp, fun w' U' Fall q Fo _ _ _ _ => by simp only [backCell]; exact Back1.nil⟩
    · cases hc
  · cases hc
    simp only [AR] at hx
    subst hx
    exact ⟨[], by simp [R], by simp, by simp, by simp, fun w' U' Fall q Fo _ _ _ _ => by simp only [backCell]; exact Back1.nil⟩
  · rename_i o
    split at hc
    · rename_i g1 e1 s1 n1 cs hτ
      cases hc
      obtain ⟨ho, hv⟩ := agr_arr ha hx hτ
      have hob := h.ob o
      rw [ho] at hob
      obtain ⟨xs, F', hown, hr, hF⟩ := hob
      subst hv
      refine ⟨Fs o, by simp only [R]; exact ⟨xs, F', hown, hr, hF⟩, h.nd o, fun k hk => ⟨o, by simp, hk⟩, by intro y hy; simp at hy; subst hy; rw [ho]; simp, fun w' U' Fall q Fo hg hUF hin hR => ?_⟩
      by_cases hq : ∃ e s n c, q = .ow e s n c
      · obtain ⟨e, s, n, c, rfl⟩ := hq
        refine ⟨[⟨o, .arr (g1 + 1) e s n c, [], Fo, Fo⟩], [], by simp [bkOf, backCell, hτ], rfl, by simp, fun en hen => ?_⟩
        simp at hen
        subst hen
        refine ⟨by rw [ho]; simp, by simp, by simp, by simp, by simp, .inr (.inr ⟨_, _, _, _, _, _, _, _, _, _, ho, rfl, by omega, fun hgg => by omega⟩), fun U'' O'' h1 h2 => ?_⟩
        simp only [R] at hR
        obtain ⟨ys, G, q1, q2, q3⟩ := hR
        exact ⟨ys, G, q1, Rs_mono h1 (fun _ _ => rfl) _ _ _ q2 (fun _ _ => rfl), q3⟩
      · refine ⟨[⟨o, .dead, [], [], []⟩], Fo, ?_, rfl, by simp, fun en hen => ?_⟩
        · cases q <;> first | rfl | exact absurd ⟨_, _, _, _, rfl⟩ hq
        · simp at hen
          subst hen
          exact ⟨by rw [ho]; simp, by simp, by simp, by simp, by simp, .inl rfl, fun U'' O'' h1 h2 => by simp only [ObR]⟩
    · cases hc
  · rename_i o gq off
    split at hc
    · rename_i g1 e1 s1 n1 cs hτ
      by_cases hgg : ¬ gq = g1
      · rw [if_neg hgg] at hc; cases hc
      have hgg := Decidable.not_not.1 hgg
      rw [if_pos hgg] at hc
      split at hc
      · rename_i e2 s2 n2 c2 hcs
        cases hc
        obtain ⟨ho, hv⟩ := agr_inr ha hx hτ
        obtain ⟨k, hk, hcell⟩ := hv hgg ⟨_, _, _, _, hcs⟩
        obtain ⟨xs, F', hown, hm, hr, hF⟩ := arr_mem h ho hk
        obtain ⟨u, F1, F2, F3, hu, hur, rfl, hset⟩ := Rs_at2 hr hcs
        have := hm off u hu
        rw [Nat.zero_add, hcell] at this
        cases this
        have hnd := h.nd o
        rw [hF, List.nodup_cons] at hnd
        have hnd2 := List.nodup_append.1 hnd.2
        have hnd3 := List.nodup_append.1 hnd2.1
        refine ⟨F2, hur, hnd3.2.1, fun y hy => ⟨o, by simp, by rw [hF]; simp [hy]⟩, by intro y hy; simp at hy; subst hy; rw [ho]; simp, fun w' U' Fall q Fo hg hUF hin hR => ?_⟩
        have hk13 : ∀ y, y ∈ k :: (F1 ++ F3) → y ∉ Fall := fun y hy hyF => by
          have h1 := hin o (by simp) y (by
            rw [hF]; simp only [List.mem_cons, List.mem_append] at hy ⊢
            rcases hy with hy | hy | hy
            · exact .inl hy
            · exact .inr (.inl (.inl hy))
            · exact .inr (.inr hy)) hyF
          simp only [List.mem_cons, List.mem_append] at hy
          rcases hy with hy | hy | hy
          · subst hy; exact hnd.1 (by simp [h1])
          · exact hnd3.2.2 y hy y h1 rfl
          · exact hnd2.2.2 y (by simp [h1]) y hy rfl
        have hsame : ∀ y, y ∈ k :: (F1 ++ F3) → w'.heap[y]? = w.heap[y]? := fun y hy => hg.block y (h.own o y (by
            rw [hF]; simp only [List.mem_cons, List.mem_append] at hy ⊢
            rcases hy with hy | hy | hy
            · exact .inl hy
            · exact .inr (.inl (.inl hy))
            · exact .inr (.inr hy))).1 (hk13 y hy)
        have hkeep : ∀ y, y ∈ k :: (F1 ++ F3) → y ∈ Fs o := fun y hy => by
            rw [hF]; simp only [List.mem_cons, List.mem_append] at hy ⊢
            rcases hy with hy | hy | hy
            · exact .inl hy
            · exact .inr (.inl (.inl hy))
            · exact .inr (.inr hy)
        have hkn : (k :: (F1 ++ F3)).Nodup := by
          rw [List.nodup_cons, List.nodup_append]
          refine ⟨fun hy => hnd.1 (by simp only [List.mem_append] at hy ⊢; rcases hy with hy | hy; exact .inl (.inl hy); exact .inr hy), hnd3.1, hnd2.2.1, fun y hy z hz => hnd2.2.2 y (by simp [hy]) z hz⟩
        have hown' : w'.ownsRow 0 e1 s1 (ι o) n1 xs := ownsRow_mono hown (fun y hy => hsame y (by rw [hk] at hy; cases hy; simp))
        have hkind : ∀ q', g1 = g1 → ∀ off', isOw (cs.set off q') off' → isOw cs off' ∧ ∀ b, (ι o).ownBlock = some b → w'.cell? ⟨b, off', none⟩ = w.cell? ⟨b, off', none⟩ := fun q' _ off' hi => by
          refine ⟨?_, fun b hb => ?_⟩
          · by_cases e : off = off'
            · subst e; exact ⟨_, _, _, _, hcs⟩
            · obtain ⟨a1, a2, a3, a4, hi⟩ := hi
              rw [List.getElem?_set_ne e] at hi
              exact ⟨a1, a2, a3, a4, hi⟩
          · rw [hk] at hb; cases hb
            exact World.cell?_of_block (w := w) (w' := w') (a := ⟨k, off', none⟩) (hsame k (by simp))
        by_cases hq : ∃ e s n c, q = .ow e s n c
        · have e3 : inPV q = q := by obtain ⟨e, s, n, c, rfl⟩ := hq; rfl
          refine ⟨[⟨o, .arr g1 e1 s1 n1 (cs.set off q), k :: (F1 ++ F3), Fo, k :: (F1 ++ Fo ++ F3)⟩], [], by simp [bkOf, backCell, hτ, e3], rfl, by simp, fun en hen => ?_⟩
          simp at hen
          subst hen
          refine ⟨by rw [ho]; simp, hkeep, hk13, hkn, ?_, .inr (.inr ⟨_, _, _, _, _, _, _, _, _, _, ho, rfl, Nat.le_refl _, hkind q⟩), fun U'' O'' h1 h2 => ?_⟩
          · simp only [List.cons_append, List.append_assoc]
            exact List.Perm.cons _ (List.Perm.append_left _ List.perm_append_comm)
          · exact ⟨xs, F1 ++ Fo ++ F3, hown', hset w' U'' q Fo h2 (fun y hy => hg.block y hy.1 (hUF y hy)) (fun y hy => hsame y (by simp only [List.mem_cons]; exact .inr hy)) (R_mono h1 (fun _ _ => rfl) _ _ _ hR (fun _ _ => rfl)), by rw [hk]; simp⟩
        · have e3 : inPV q = .any := by cases q <;> first | rfl | exact absurd ⟨_, _, _, _, rfl⟩ hq
          refine ⟨[⟨o, .arr g1 e1 s1 n1 (cs.set off .any), k :: (F1 ++ F3), [], k :: (F1 ++ [] ++ F3)⟩], Fo, by simp [bkOf, backCell, hτ, e3], rfl, by simp, fun en hen => ?_⟩
          simp at hen
          subst hen
          refine ⟨by rw [ho]; simp, hkeep, hk13, hkn, by simp, .inr (.inr ⟨_, _, _, _, _, _, _, _, _, _, ho, rfl, Nat.le_refl _, hkind .any⟩), fun U'' O'' h1 h2 => ?_⟩
          exact ⟨xs, F1 ++ [] ++ F3, hown', hset w' U'' .any [] h2 (fun y hy => hg.block y hy.1 (hUF y hy)) (fun y hy => hsame y (by simp only [List.mem_cons]; exact .inr hy)) (by simp only [R]; exact ⟨R_oneCell hur, trivial⟩), by rw [hk]; simp⟩
      · cases hc
    · cases hc
  · cases hc

theorem lendCells_R (h : Sim C σ a w ι Fs) (ha : Agr σ.o τ) : ∀ {xs : List AV} {vs : List Value} {ps : List PV} {l : List Nat}, ARs w (Un C w Fs) σ.o ι xs vs → lendCells τ xs = some (ps, l) → l.Nodup →
    ∃ F, Rs w (Un C w Fs) ps vs F ∧ F.Nodup ∧ (∀ k, k ∈ F → ∃ o, o ∈ l ∧ k ∈ Fs o) ∧ (∀ o, o ∈ l → σ.o o ≠ .none) ∧
      ∀ (w' : World) (U' : Nat → Prop) (Fall : List Nat) (qs : List PV) (Fo : List Nat), GrownF w w' Fall → (∀ k, Un C w Fs k → k ∉ Fall) → (∀ o, o ∈ l → ∀ k, k ∈ Fs o → k ∈ Fall → k ∈ F) → Rs w' U' qs vs Fo → Back1 C σ w ι Fs l w' U' Fall (backCells τ xs qs) Fo
  | [], [], ps, l, _, hc, _ => by
    simp [lendCells] at hc
    obtain ⟨rfl, rfl⟩ := hc
    exact ⟨[], by simp [Rs], by simp, by simp, by simp, fun w' U' Fall qs Fo _ _ _ _ => by simp only [backCells]; exact Back1.nil⟩
  | x :: xs, v :: vs, ps, l, hx, hc, hn => by
    simp only [ARs] at hx
    simp only [lendCells] at hc
    split at hc
    · rename_i p l1 ps' l2 h1 h2
      cases hc
      have hn' := List.nodup_append.1 hn
      obtain ⟨F1, r1, r2, r3, r4, r5⟩ := lendCell_R h ha hx.1 h1
      obtain ⟨F2, s1, s2, s3, s4, s5⟩ := lendCells_R h ha hx.2 h2 hn'.2.1
      have hcross : ∀ o o' k, o ∈ l1 → o' ∈ l2 → k ∈ Fs o → k ∉ Fs o' := fun o o' k ho ho' hk => h.dis o o' (hn'.2.2 o ho o' ho') k hk
      refine ⟨F1 ++ F2, by simp only [Rs]; exact ⟨F1, F2, r1, s1, rfl⟩, ?_, ?_, ?_, fun w' U' Fall qs Fo hg hUF hin hR => ?_⟩
      · rw [List.nodup_append]
        refine ⟨r2, s2, fun y hy z hz e => ?_⟩
        subst e
        obtain ⟨o, ho, hk⟩ := r3 y hy
        obtain ⟨o', ho', hk'⟩ := s3 y hz
        exact hcross o o' y ho ho' hk hk'
      · intro k hk
        rcases List.mem_append.1 hk with hk | hk
        · obtain ⟨o, ho, hk⟩ := r3 k hk; exact ⟨o, by simp [ho], hk⟩
        · obtain ⟨o, ho, hk⟩ := s3 k hk; exact ⟨o, by simp [ho], hk⟩
      · intro o ho
        rcases List.mem_append.1 ho with ho | ho
        · exact r4 o ho
        · exact s4 o ho
      · cases qs with
        | nil => simp only [Rs] at hR
        | cons q qs =>
          simp only [Rs] at hR
          obtain ⟨G1, G2, g1, g2, rfl⟩ := hR
          simp only [backCells]
          refine Back1.app (r5 w' U' Fall q G1 hg hUF (fun o ho k hk hkF => ?_) g1) (s5 w' U' Fall qs G2 hg hUF (fun o ho k hk hkF => ?_) g2)
          · rcases List.mem_append.1 (hin o (by simp [ho]) k hk hkF) with h3 | h3
            · exact h3
            · obtain ⟨o', ho', hk'⟩ := s3 k h3
              exact absurd hk' (hcross o o' k ho ho' hk)
          · rcases List.mem_append.1 (hin o (by simp [ho]) k hk hkF) with h3 | h3
            · obtain ⟨o', ho', hk'⟩ := r3 k h3
              exact absurd hk (hcross o' o k ho' ho hk')
            · exact h3
    · cases hc
  | [], _ :: _, _, _, hx, _, _ => by simp only [ARs] at hx
  | _ :: _, [], _, _, hx, _, _ => by simp only [ARs] at hx

theorem Rs_anys {U : Nat → Prop} {w1 : World} {U1 : Nat → Prop} : ∀ {ps : List PV} {vs : List Value} {F : List Nat} {α : Type} {xs : List α}, Rs w1 U1 ps vs F → xs.length = vs.length → Rs w U (xs.map fun _ => PV.any) vs []
  | [], [], _, _, [], _, _ => by simp [Rs]
  | p :: ps, v :: vs, F, _, x :: xs, h, hl => by
    simp only [Rs] at h
    obtain ⟨F1, F2, h1, h2, _⟩ := h
    simp only [List.map_cons, Rs, R]
    exact ⟨[], [], ⟨R_oneCell h1, rfl⟩, Rs_anys h2 (by simpa using hl), rfl⟩
  | [], _ :: _, _, _, _, h, _ => by simp only [Rs] at h
  | _ :: _, [], _, _, _, h, _ => by simp only [Rs] at h
  | [], [], _, _, _ :: _, _, hl => by simp at hl
  | _ :: _, _ :: _, _, _, [], _, hl => by simp at hl

theorem argL_R (h : Sim C σ a w ι Fs) (ha : Agr σ.o τ) {m : LM} {x : AV} {v : Value} {c : CV} {b l : List Nat} (hx : AR w (Un C w Fs) σ.o ι x v) (hc : argL τ m x = some (c, b, l)) (hn : l.Nodup) (b' : List Nat) (hb : ∀ o, o ∈ b → o ∈ b') :
    ∃ F, CR w (Vw C w Fs b') c v F ∧ F.Nodup ∧ (∀ k, k ∈ F → ∃ o, o ∈ l ∧ k ∈ Fs o) ∧ (∀ o, o ∈ l → σ.o o ≠ .none) ∧
      ∀ (w' : World) (U' : Nat → Prop) (Fall : List Nat) (q : CV) (Fo : List Nat) (bk : List (Nat × AObj)), GrownF w w' Fall → (∀ k, Un C w Fs k → k ∉ Fall) → (∀ o, o ∈ l → ∀ k, k ∈ Fs o → k ∈ Fall → k ∈ F) → CR w' U' q v Fo → argBack τ m x q = some bk →
        Back1 C σ w ι Fs l w' U' Fall bk Fo := by
  have hone : ∀ {x : AV} {p : PV} {l : List Nat}, AR w (Un C w Fs) σ.o ι x v → lendCell τ x = some (p, l) → (∀ cs, x ≠ .agg cs) → argBack τ .lend x = (fun q => match q with | .v p => some (backCell τ x p) | .any => some (backCell τ x .any) | _ => none) →
      ∃ F, CR w (Vw C w Fs b') (.v p) v F ∧ F.Nodup ∧ (∀ k, k ∈ F → ∃ o, o ∈ l ∧ k ∈ Fs o) ∧ (∀ o, o ∈ l → σ.o o ≠ .none) ∧
      ∀ (w' : World) (U' : Nat → Prop) (Fall : List Nat) (q : CV) (Fo : List Nat) (bk : List (Nat × AObj)), GrownF w w' Fall → (∀ k, Un C w Fs k → k ∉ Fall) → (∀ o, o ∈ l → ∀ k, k ∈ Fs o → k ∈ Fall → k ∈ F) → CR w' U' q v Fo → argBack τ .lend x q = some bk →
        Back1 C σ w ι Fs l w' U' Fall bk Fo := by
    intro x p l hx h1 _ hbk
    obtain ⟨F, r1, r2, r3, r4, r5⟩ := lendCell_R h ha hx h1
    refine ⟨F, by simp only [CR]; exact R_mono (fun k hk => Vw_un hk) (fun _ _ => rfl) _ _ _ r1 (fun _ _ => rfl), r2, r3, r4, fun w' U' Fall q Fo bk hg hUF hin hR hB => ?_⟩
    rw [hbk] at hB
    cases q with
    | v p' => cases hB; simp only [CR] at hR; exact r5 w' U' Fall p' Fo hg hUF hin hR
    | any =>
      cases hB
      simp only [CR] at hR
      subst hR
      exact r5 w' U' Fall .any [] hg hUF hin (by simp only [R]; exact ⟨R_oneCell r1, trivial⟩)
    | _ => simp at hB
  unfold argL at hc
  split at hc
  · split at hc
    · rename_i c1 b1 h1
      cases hc
      refine ⟨[], argView_R h ha hx h1 b' hb, by simp, by simp, by simp, fun w' U' Fall q Fo bk _ _ _ hR hB => ?_⟩
      cases q <;> simp [argBack] at hB
      subst hB
      exact Back1.nil
    · cases hc
  · rename_i cs
    split at hc
    · rename_i ps l1 h1
      cases hc
      simp only [AR] at hx
      obtain ⟨vs, rfl, hs⟩ := hx
      obtain ⟨F, r1, r2, r3, r4, r5⟩ := lendCells_R h ha hs h1 hn
      refine ⟨F, by simp only [CR]; exact ⟨vs, rfl, Rs_mono (fun k hk => Vw_un hk) (fun _ _ => rfl) _ _ _ r1 (fun _ _ => rfl)⟩, r2, r3, r4, fun w' U' Fall q Fo bk hg hUF hin hR hB => ?_⟩
      cases q with
      | agg qs =>
        simp only [argBack] at hB
        split at hB
        · cases hB
          simp only [CR] at hR
          obtain ⟨us, he, hR⟩ := hR
          cases he
          exact r5 w' U' Fall qs Fo hg hUF hin hR
        · cases hB
      | any =>
        simp only [argBack] at hB
        cases hB
        simp only [CR] at hR
        subst hR
        exact r5 w' U' Fall _ [] hg hUF hin (Rs_anys r1 (ARs_length _ _ hs))
      | _ => simp [argBack] at hB
    · cases hc
  · rename_i hna
    split at hc
    · rename_i p l1 h1
      cases hc
      refine hone hx h1 (fun cs e => hna cs e) ?_
      funext q
      cases x <;> first | exact absurd rfl (hna _) | (cases q <;> rfl)
    · cases hc
  · cases hc

theorem argsL1_R (h : Sim C σ a w ι Fs) (ha : Agr σ.o τ) : ∀ {ms : List LM} {xs : List AV} {vs : List Value} {cs : List CV} {b l : List Nat}, ARs w (Un C w Fs) σ.o ι xs vs → argsL1 τ ms xs = some (cs, b, l) → l.Nodup → ∀ b' : List Nat, (∀ o, o ∈ b → o ∈ b') →
    ∃ F, CRs w (Vw C w Fs b') cs vs F ∧ F.Nodup ∧ (∀ k, k ∈ F → ∃ o, o ∈ l ∧ k ∈ Fs o) ∧ (∀ o, o ∈ l → σ.o o ≠ .none) ∧
      ∀ (w' : World) (U' : Nat → Prop) (Fall : List Nat) (qs : List CV) (Fo : List Nat) (bk : List (Nat × AObj)), GrownF w w' Fall → (∀ k, Un C w Fs k → k ∉ Fall) → (∀ o, o ∈ l → ∀ k, k ∈ Fs o → k ∈ Fall → k ∈ F) → CRs w' U' qs vs Fo → argsBack1 τ ms xs qs = some bk →
        Back1 C σ w ι Fs l w' U' Fall bk Fo
  | ms, [], [], cs, b, l, _, hc, _, b', hb => by
    simp [argsL1] at hc
    obtain ⟨rfl, rfl, rfl⟩ := hc
    refine ⟨[], by simp [CRs], by simp, by simp, by simp, fun w' U' Fall qs Fo bk _ _ _ hR hB => ?_⟩
    cases qs with
    | nil => simp [argsBack1] at hB; subst hB; exact Back1.nil
    | cons q qs => simp only [CRs] at hR
  | ms, x :: xs, v :: vs, cs, b, l, hx, hc, hn, b', hb => by
    simp only [ARs] at hx
    simp only [argsL1] at hc
    split at hc
    · rename_i c1 b1 l1 cs2 b2 l2 h1 h2
      cases hc
      have hn' := List.nodup_append.1 hn
      obtain ⟨F1, r1, r2, r3, r4, r5⟩ := argL_R h ha hx.1 h1 hn'.1 b' (fun o ho => hb o (by simp [ho]))
      obtain ⟨F2, s1, s2, s3, s4, s5⟩ := argsL1_R h ha hx.2 h2 hn'.2.1 b' (fun o ho => hb o (by simp [ho]))
      have hcross : ∀ o o' k, o ∈ l1 → o' ∈ l2 → k ∈ Fs o → k ∉ Fs o' := fun o o' k ho ho' hk => h.dis o o' (hn'.2.2 o ho o' ho') k hk
      refine ⟨F1 ++ F2, by simp only [CRs]; exact ⟨F1, F2, r1, s1, rfl⟩, ?_, ?_, ?_, fun w' U' Fall qs Fo bk hg hUF hin hR hB => ?_⟩
      · rw [List.nodup_append]
        refine ⟨r2, s2, fun y hy z hz e => ?_⟩
        subst e
        obtain ⟨o, ho, hk⟩ := r3 y hy
        obtain ⟨o', ho', hk'⟩ := s3 y hz
        exact hcross o o' y ho ho' hk hk'
      · intro k hk
        rcases List.mem_append.1 hk with hk | hk
        · obtain ⟨o, ho, hk⟩ := r3 k hk; exact ⟨o, by simp [ho], hk⟩
        · obtain ⟨o, ho, hk⟩ := s3 k hk; exact ⟨o, by simp [ho], hk⟩
      · intro o ho
        rcases List.mem_append.1 ho with ho | ho
        · exact r4 o ho
        · exact s4 o ho
      · cases qs with
        | nil => simp only [CRs] at hR
        | cons q qs =>
          simp only [CRs] at hR
          obtain ⟨G1, G2, g1, g2, rfl⟩ := hR
          simp only [argsBack1] at hB
          split at hB
          · rename_i bb bbs e1 e2
            cases hB
            refine Back1.app (r5 w' U' Fall q G1 _ hg hUF (fun o ho k hk hkF => ?_) g1 e1) (s5 w' U' Fall qs G2 _ hg hUF (fun o ho k hk hkF => ?_) g2 e2)
            · rcases List.mem_append.1 (hin o (by simp [ho]) k hk hkF) with h3 | h3
              · exact h3
              · obtain ⟨o', ho', hk'⟩ := s3 k h3
                exact absurd hk' (hcross o o' k ho ho' hk)
            · rcases List.mem_append.1 (hin o (by simp [ho]) k hk hkF) with h3 | h3
              · obtain ⟨o', ho', hk'⟩ := r3 k h3
                exact absurd hk (hcross o' o k ho' ho hk')
              · exact h3
          · cases hB
    · cases hc
  | _, [], _ :: _, _, _, _, hx, _, _, _, _ => by simp only [ARs] at hx
  | _, _ :: _, [], _, _, _, hx, _, _, _, _ => by simp only [ARs] at hx

end
end Am
