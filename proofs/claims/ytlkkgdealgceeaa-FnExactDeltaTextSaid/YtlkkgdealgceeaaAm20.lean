/- Code: from what the abstract machine comes to. No condition. -/
import Derived.Test.YtlkkgdealgceeaaAm19
namespace Am
open Go
set_option linter.unusedSimpArgs false
set_option linter.unusedVariables false
set_option linter.unnecessarySimpa false

/-- As 'aguard', the slots alone known. -/
def aguardD (ds : List (Option Nat)) (t : Nat → AV) (j : Nat) (want : Bool) : Option Bool :=
  match ds[j]? with
  | some (some d) => (match t d with
    | .c (.bool b) => some (b == want)
    | .gd b0 (.c (.bool b)) => some (b0 && (b == want))
    | .gd false _ => some false
    | _ => none)
  | _ => none

theorem aguardD_eq (ops : Array Oper) (t : Nat → AV) (j : Nat) (want : Bool) : aguardD (ops.toList.map (·.dst)) t j want = aguard ops t j want := by
  unfold aguardD aguard
  rw [List.getElem?_map, Array.getElem?_toList]
  cases h : ops[j]? with
  | none => rfl
  | some o =>
    simp only [Option.map_some, Option.bind_some]
    cases o.dst with
    | none => rfl
    | some d => rfl

/-- Two ways, by what is told of it: the one that is not taken is not looked at. -/
def Sp (g : Bool) (A B : Unit → Prop) : Prop := (g = true → A ()) ∧ (g = false → B ())

def ao1D (P : Program) (T : Ty) (H : Hints) (ds : List (Option Nat)) (σ : AEnv) (τ : Nat → AObj) (o : Oper) (K : AV → List (Nat × AObj) → Prop) : Prop :=
  match o.guard with
  | none => aop1 P T H True (ev σ) τ o K
  | some (j, want) => match aguardD ds σ.t j want with
    | some g => match H.merge (o.dst.getD 0) && isPure H (ev σ) o.op with
      | true => aop1 P T H (g = true) (ev σ) τ o (fun v oe => oe = [] ∧ K (.gd g v) [])
      | false => Sp g (fun _ => aop1 P T H True (ev σ) τ o K) (fun _ => K (.gd false .any) [])
    | none => False

theorem ao1D_eq (P : Program) (T : Ty) (H : Hints) (ops : Array Oper) (σ : AEnv) (τ : Nat → AObj) (o : Oper) (K : AV → List (Nat × AObj) → Prop) :
    ao1D P T H (ops.toList.map (·.dst)) σ τ o K = ao1 P T H ops σ τ o K := by
  unfold ao1D ao1
  simp only [aguardD_eq]
  rfl

def aopsD (P : Program) (T : Ty) (H : Hints) (ds : List (Option Nat)) : List Oper → AEnv → (AEnv → Prop) → Prop
  | [], σ, K => K σ
  | o :: r, σ, K => ao1D P T H ds σ σ.o o (fun v oe => aopsD P T H ds r ((AEnv.wr oe σ).set o.dst v) K)

theorem aopsD_eq (P : Program) (T : Ty) (H : Hints) (ops : Array Oper) : ∀ (l : List Oper) (σ : AEnv) (K : AEnv → Prop), aopsD P T H (ops.toList.map (·.dst)) l σ K = aops P T H ops l σ K
  | [], _, _ => rfl
  | o :: r, σ, K => by simp only [aopsD, aops, ao1D_eq, aopsD_eq P T H ops r]

def adrawD (P : Program) (T : Ty) (H : Hints) (ds : List (Option Nat)) : List (Oper × DH) → AEnv → (AEnv → Prop) → Prop
  | [], σ, K => K σ
  | (o, h) :: r, σ, K => ao1D P T H ds σ (msk h σ.o) o (fun v oe => oeOk h o.dst oe ∧ adrawD P T H ds r ((AEnv.wr oe σ).set o.dst v) K)

theorem adrawD_eq (P : Program) (T : Ty) (H : Hints) (ops : Array Oper) : ∀ (l : List (Oper × DH)) (σ : AEnv) (K : AEnv → Prop), adrawD P T H (ops.toList.map (·.dst)) l σ K = adraw P T H ops l σ K
  | [], _, _ => rfl
  | (o, h) :: r, σ, K => by simp only [adrawD, adraw, ao1D_eq, adrawD_eq P T H ops r]

inductive AEx where
  | normal
  | exit (id : Nat)
  | ret

def AEx.ex : AEx → Exit
  | .normal => .normal
  | .exit id => .exit id
  | .ret => .ret

/-- Whatever is as the first has it is as the second has it. -/
def Wk (σ σ' : AEnv) : Prop := ∀ (C : Ctx) (a : Act) (w : World), Post C σ a w → Post C σ' a w

theorem Wk.refl (σ : AEnv) : Wk σ σ := fun _ _ _ h => h
theorem Wk.trans {σ σ' σ'' : AEnv} (h : Wk σ σ') (h' : Wk σ' σ'') : Wk σ σ'' := fun C a w hP => h' C a w (h C a w hP)

/-- From what is as σ has it the code comes to an exit at which what K says holds. -/
def AW (P : Program) (N : Nat × Nat) (c : Code) (σ : AEnv) (K : AEx → AEnv → Prop) : Prop :=
  ∀ (C : Ctx) (a : Act) (w : World) (Q : Exit → Act → World → Prop), C.N = N → Post C σ a w → (∀ e σ' a' w', K e σ' → Post C σ' a' w' → Q e.ex a' w') → c.wp P Q a w

def athen (k : AEnv → Prop) (K : AEx → AEnv → Prop) : AEx → AEnv → Prop
  | .normal, σ => k σ
  | .exit id, σ => K (.exit id) σ
  | .ret, σ => K .ret σ

def ablk (id : Nat) (K : AEx → AEnv → Prop) : AEx → AEnv → Prop
  | .normal, σ => K .normal σ
  | .exit i, σ => if i = id then K .normal σ else K (.exit i) σ
  | .ret, σ => K .ret σ

structure Hts extends Hints where
  dr : Nat → List DH := fun _ => []

section
variable {P : Program} {T : Ty} {H : Hts} {N : Nat × Nat} {σ σ' : AEnv} {K : AEx → AEnv → Prop}

theorem AW.mono {c : Code} {K' : AEx → AEnv → Prop} (h : AW P N c σ K) (hK : ∀ e σ, K e σ → K' e σ) : AW P N c σ K' :=
  fun C a w Q hN hP hQ => h C a w Q hN hP (fun e σ' a' w' hk => hQ e σ' a' w' (hK e σ' hk))

theorem AW.wk {c : Code} (hw : Wk σ σ') (h : AW P N c σ' K) : AW P N c σ K :=
  fun C a w Q hN hP hQ => h C a w Q hN (hw C a w hP) hQ

theorem AW_skip (h : K .normal σ) : AW P N .skip σ K := fun C a w Q hN hP hQ => wp_skip (hQ .normal σ a w h hP)
theorem AW_ret (h : K .ret σ) : AW P N .ret σ K := fun C a w Q hN hP hQ => wp_ret (hQ .ret σ a w h hP)
theorem AW_exit {id : Nat} (h : K (.exit id) σ) : AW P N (.exit id) σ K := fun C a w Q hN hP hQ => wp_exit (hQ (.exit id) σ a w h hP)

theorem AW_seq {x y : Code} (h : AW P N x σ (athen (fun σ' => AW P N y σ' K) K)) : AW P N (.seq x y) σ K :=
  fun C a w Q hN hP hQ => wp_seq (h C a w _ hN hP (fun e σ' a' w' hk hP' => by
    cases e with
    | normal => exact hk C a' w' Q hN hP' hQ
    | exit id => exact hQ (.exit id) σ' a' w' hk hP'
    | ret => exact hQ .ret σ' a' w' hk hP'))

theorem AW_block {id : Nat} {c : Code} (h : AW P N c σ (ablk id K)) : AW P N (.block id c) σ K :=
  fun C a w Q hN hP hQ => wp_block (h C a w _ hN hP (fun e σ' a' w' hk hP' => by
    cases e with
    | normal => exact hQ .normal σ' a' w' hk hP'
    | exit i =>
      simp only [AEx.ex, Exit.inBlock]
      simp only [ablk] at hk
      split
      · rename_i he; rw [if_pos he] at hk; exact hQ .normal σ' a' w' hk hP'
      · rename_i he; rw [if_neg he] at hk; exact hQ (.exit i) σ' a' w' hk hP'
    | ret => exact hQ .ret σ' a' w' hk hP'))

theorem AW_cond {c : Operand} {x y : Code} {t : Bool} (hc : ev σ c = .c (.bool t)) (hx : t = true → AW P N x σ K) (hy : t = false → AW P N y σ K) : AW P N (.cond c x y) σ K :=
  fun C a w Q hN hP hQ => by
    obtain ⟨ι, Fs, hS⟩ := hP
    have := ev_AR hS c
    rw [hc] at this
    exact wp_cond_split (AR_bool this) (fun e => hx e C a w Q hN ⟨ι, Fs, hS⟩ hQ) (fun e => hy e C a w Q hN ⟨ι, Fs, hS⟩ hQ)

/-- A loop, by what holds whenever a round begins, and how many rounds there may be yet. -/
theorem AW_loop {c : Code} (I : Nat → AEnv → Prop) {n : Nat} {σ₀ : AEnv} (hw : Wk σ σ₀) (h₀ : I n σ₀)
    (round : ∀ n σ₁, I n σ₁ → AW P N c σ₁ (athen (fun σ' => ∃ n' σ₂, n' < n ∧ Wk σ' σ₂ ∧ I n' σ₂) K)) : AW P N (.loop c) σ K := by
  intro C a w Q hN hP hQ b k cs
  have key : ∀ n σ₁ a w, I n σ₁ → Post C σ₁ a w → ∃ e a' w', Q e a' w' ∧ Arrives P (lone (b.at a (.code c :: .inLoop c :: k)) cs w) b k cs e a' w' := by
    intro n
    induction n using Nat.strongRecOn with
    | _ n ih =>
      intro σ₁ a w hI hP
      have hr := round n σ₁ hI C a w (Exit.then (fun a' w' => ∃ n' σ₂, n' < n ∧ I n' σ₂ ∧ Post C σ₂ a' w') Q) hN hP (fun e σ' a' w' hk hP' => by
        cases e with
        | normal =>
          obtain ⟨n', σ₂, h1, h2, h3⟩ := hk
          exact ⟨n', σ₂, h1, h3, h2 C a' w' hP'⟩
        | exit id => exact hQ (.exit id) σ' a' w' hk hP'
        | ret => exact hQ .ret σ' a' w' hk hP')
      obtain ⟨e, a₁, w₁, hq, harr⟩ := hr b (.inLoop c :: k) cs
      cases e with
      | normal =>
        obtain ⟨n', σ₂, hlt, hI₁, hP₁⟩ := hq
        obtain ⟨e₂, a₂, w₂, hq₂, harr₂⟩ := ih n' hlt σ₂ a₁ w₁ hI₁ hP₁
        exact ⟨e₂, a₂, w₂, hq₂, .of_steps (Steps.trans harr (.one step_inLoop)) harr₂⟩
      | exit id => exact ⟨_, a₁, w₁, hq, .pass (x := .inLoop c) rfl (fun _ _ => .inl (by simp)) harr⟩
      | goto l => exact ⟨_, a₁, w₁, hq, .pass (x := .inLoop c) rfl (fun _ _ => .inl (by simp)) harr⟩
      | ret => exact ⟨_, a₁, w₁, hq, .pass (x := .inLoop c) rfl (fun _ _ => .inl (by simp)) harr⟩
      | panic ch => exact ⟨_, a₁, w₁, hq, .pass (x := .inLoop c) rfl (fun _ _ => .inl (by simp)) harr⟩
      | outgrown => exact ⟨_, a₁, w₁, hq, .pass (x := .inLoop c) rfl (fun _ _ => .inl (by simp)) harr⟩
  obtain ⟨e, a', w', hq, harr⟩ := key n σ₀ a w h₀ (hw C a w hP)
  exact ⟨e, a', w', hq, .of_steps (.one step_loop) harr⟩

/-- What is fixed in the text: slots, and what a drawn region wants. -/
def codeOk (N : Nat × Nat) (dr : Nat → List DH) : Code → Bool
  | .skip | .ret | .exit _ => true
  | .region id ops false => dstOk N ops.toList
  | .region id ops true => drawOk N ops (dr id)
  | .seq x y => codeOk N dr x && codeOk N dr y
  | .cond _ x y => codeOk N dr x && codeOk N dr y
  | .block _ c => codeOk N dr c
  | .loop c => codeOk N dr c
  | _ => false

/-- So that a walk does not go into what it holds. -/
structure Hold {α : Type} (x : α) : Type where

def AWh (P : Program) (N : Nat × Nat) (c : Code) (σ : AEnv) (K : AEx → AEnv → Prop) (_ : Hold K) : Prop := AW P N c σ K

/-- The abstract machine over code; a loop is left as it is. -/
def awp (P : Program) (T : Ty) (H : Hts) (N : Nat × Nat) : Code → AEnv → (AEx → AEnv → Prop) → Prop
  | .skip, σ, K => K .normal σ
  | .ret, σ, K => K .ret σ
  | .exit id, σ, K => K (.exit id) σ
  | .region _ ops false, σ, K => aopsD P T H.toHints (ops.toList.map (·.dst)) ops.toList σ (K .normal)
  | .region id ops true, σ, K => adrawD P T H.toHints (ops.toList.map (·.dst)) (ops.toList.zip (H.dr id)) σ (K .normal)
  | .seq x y, σ, K => awp P T H N x σ (athen (fun σ' => awp P T H N y σ' K) K)
  | .cond c x y, σ, K => match ev σ c with
    | .c (.bool t) => (t = true → awp P T H N x σ K) ∧ (t = false → awp P T H N y σ K)
    | _ => False
  | .block id c, σ, K => awp P T H N c σ (ablk id K)
  | .loop c, σ, K => AWh P N (.loop c) σ K ⟨⟩
  | _, _, _ => False

theorem awp_sound (hT : TyOK P T) : ∀ (c : Code) (σ : AEnv) (K : AEx → AEnv → Prop), codeOk N H.dr c = true → awp P T H N c σ K → AW P N c σ K := by
  have hm : P.follows .mixedOrders = true := hT.1
  intro c
  induction c with
  | skip => intro σ K _ h; exact AW_skip h
  | ret => intro σ K _ h; exact AW_ret h
  | exit id => intro σ K _ h; exact AW_exit h
  | region id ops draw =>
    intro σ K hok h C a w Q hN hP hQ
    cases draw with
    | false =>
      simp only [codeOk] at hok
      simp only [awp, aopsD_eq] at h
      exact wp_region_list (aops_sound hT (fun σ' a' w' hk hP' => hQ .normal σ' a' w' hk hP') _ _ _ _ (hN ▸ hok) h hP)
    | true =>
      simp only [codeOk] at hok
      simp only [awp, adrawD_eq] at h
      exact adraw_sound hT (hN ▸ hok) (fun σ' a' w' hk hP' => hQ .normal σ' a' w' hk hP') h hm hP
  | seq x y ihx ihy =>
    intro σ K hok h
    simp only [codeOk, Bool.and_eq_true] at hok
    simp only [awp] at h
    refine AW_seq ((ihx _ _ hok.1 h).mono (fun e σ' hk => ?_))
    cases e with
    | normal => exact ihy _ _ hok.2 hk
    | exit id => exact hk
    | ret => exact hk
  | cond c x y ihx ihy =>
    intro σ K hok h
    simp only [codeOk, Bool.and_eq_true] at hok
    simp only [awp] at h
    split at h
    · rename_i t hc
      exact AW_cond hc (fun e => ihx _ _ hok.1 (h.1 e)) (fun e => ihy _ _ hok.2 (h.2 e))
    · cases h
  | block id c ih =>
    intro σ K hok h
    simp only [codeOk] at hok
    simp only [awp] at h
    exact AW_block (ih _ _ hok h)
  | loop c ih => intro σ K _ h; exact h
  | _ => intro σ K hok h; simp [awp] at h

/-- A value that a function returns. -/
def resAV (T : Ty) (σ : AEnv) : ResultVar → Option AV
  | .tmp t => some (σ.t t)
  | .cell a t => match T.lookup t, σ.t a with
    | some i, .box b off => match σ.o b with
      | .box cs => match i.k with
        | .struct _ => if off + i.size ≤ cs.length then some (.agg ((cs.drop off).take i.size)) else none
        | .other => none
        | _ => cs[off]?
      | _ => none
    | _, _ => none

def avCV (O : Nat → AObj) : AV → Option (CV × List Nat)
  | .agg cs => match toPVs O cs with
    | some (ps, l) => some (.agg ps, l)
    | none => none
  | x => match toPV O x with
    | some (p, l) => some (.v p, l)
    | none => none

def avCVs (O : Nat → AObj) : List AV → Option (List CV × List Nat)
  | [] => some ([], [])
  | x :: xs => match avCV O x, avCVs O xs with
    | some (c, l), some (cs, ls) => some (c :: cs, l ++ ls)
    | _, _ => none

def outCell (O : Nat → AObj) : PV → AV → Option (PV × List Nat)
  | .any, _ => some (.any, [])
  | _, x => toPV O x

def outCells (O : Nat → AObj) : List PV → List AV → Option (List PV × List Nat)
  | [], [] => some ([], [])
  | q :: qs, x :: xs => match outCell O q x, outCells O qs xs with
    | some (p, l), some (ps, ls) => some (p :: ps, l ++ ls)
    | _, _ => none
  | _, _ => none

/-- What a handed-over argument stands for behind the call. -/
def outCV (O : Nat → AObj) : CV → AV → Option (CV × List Nat)
  | .any, _ => some (.any, [])
  | .ptr _, .box o 0 => match O o with
    | .box cs => match toPVs O cs with
      | some (ps, l) => some (.ptr ps, o :: l)
      | none => none
    | _ => none
  | .agg qs, .agg cs => match outCells O qs cs with
    | some (ps, l) => some (.agg ps, l)
    | none => none
  | .v _, x => match toPV O x with
    | some (p, l) => some (.v p, l)
    | none => none
  | _, _ => none

def outCVs (σ : AEnv) : Nat → List CV → Option (List CV × List Nat)
  | _, [] => some ([], [])
  | i, c :: cs => match outCV σ.o c (σ.t i), outCVs σ (i + 1) cs with
    | some (x, l), some (xs, ls) => some (x :: xs, l ++ ls)
    | _, _ => none

/-- A value as what is wanted: on what terms, and what goes with it. -/
def fitPV (O : Nat → AObj) : PV → AV → Prop × List Nat
  | .ow _ _ n cs, .nil => (n = 0 ∧ cs = [], [])
  | .im n cs, .nil => (n = 0 ∧ cs = [], [])
  | want, x => match toPV O x with
    | some (p, l) => (p = want, l)
    | none => (False, [])

def fitPVs (O : Nat → AObj) : List PV → List AV → Prop × List Nat
  | [], [] => (True, [])
  | p :: ps, x :: xs => ((fitPV O p x).1 ∧ (fitPVs O ps xs).1, (fitPV O p x).2 ++ (fitPVs O ps xs).2)
  | _, _ => (False, [])

def fitCV (O : Nat → AObj) : CV → AV → Prop × List Nat
  | .agg ps, .agg cs => fitPVs O ps cs
  | .v p, x => fitPV O p x
  | _, _ => (False, [])

def fitCVs (O : Nat → AObj) : List CV → List AV → Prop × List Nat
  | [], [] => (True, [])
  | p :: ps, x :: xs => ((fitCV O p x).1 ∧ (fitCVs O ps xs).1, (fitCV O p x).2 ++ (fitCVs O ps xs).2)
  | _, _ => (False, [])

def fitRes (O : Nat → AObj) : CV → List AV → Prop × List Nat
  | .tup cs, [] => fitCVs O cs []
  | .tup cs, x :: y :: xs => fitCVs O cs (x :: y :: xs)
  | c, [x] => fitCV O c x
  | _, _ => (False, [])

def resOk (T : Ty) (rs : List ResultVar) (σ : AEnv) (cres : CV) (outs : List CV) : Prop :=
  match allSome (rs.map (resAV T σ)) with
  | some avs => match outCVs σ 0 outs with
    | some (os, gone') => (fitRes σ.o cres avs).1 ∧ ((fitRes σ.o cres avs).2 ++ gone').Nodup ∧ os = outs
    | none => False
  | none => False

/-- A function is done: with these results. -/
def fnK (T : Ty) (rs : List ResultVar) (cres : CV) (outs : List CV) : AEx → AEnv → Prop
  | .normal, σ => resOk T rs σ cres outs
  | .ret, σ => resOk T rs σ cres outs
  | .exit _, _ => False

/-- What a function's arguments are at first: a cell, and the objects that come with it. -/
def argCell (k : Nat) : PV → AV × List (Nat × AObj)
  | .ow e s n cs => (.arr k, [(k, .arr 0 e s n cs)])
  | p => (.c p, [])

def argCells (k : Nat) : List PV → List AV × List (Nat × AObj)
  | [] => ([], [])
  | p :: ps => ((argCell k p).1 :: (argCells (k + 1) ps).1, (argCell k p).2 ++ (argCells (k + 1) ps).2)

def argAV0 (k : Nat) : CV → AV × List (Nat × AObj)
  | .v p => argCell k p
  | .agg ps => (.agg (argCells k ps).1, (argCells k ps).2)
  | .ptr ps => (.box k 0, (k, .box (argCells (k + 1) ps).1) :: (argCells (k + 1) ps).2)
  | .pc ps => (.pc ps 0, [])
  | _ => (.any, [])

/-- What a function value holds is looked at alone. -/
def capAV : CV → AV
  | .v p => .c p
  | .agg ps => .agg (ps.map .c)
  | .pc ps => .pc ps 0
  | _ => .any

def argAV (k : Nat) : CV → AV × List (Nat × AObj)
  | .fn f caps => (.fn f (caps.map capAV), [])
  | c => argAV0 k c

def argsAV : Nat → List CV → List (Nat × AV)
  | _, [] => []
  | i, c :: cs => (i, (argAV (640000 + 64 * i) c).1) :: argsAV (i + 1) cs

def argsO : Nat → List CV → List (Nat × AObj)
  | _, [] => []
  | i, c :: cs => (argAV (640000 + 64 * i) c).2 ++ argsO (i + 1) cs

/-- Arguments of at most so many cells. -/
def argSmall : CV → Bool
  | .agg ps => decide (ps.length ≤ 40)
  | .ptr ps => decide (ps.length ≤ 40)
  | _ => true

def look (i : Nat) : List (Nat × AV) → AV
  | [] => .any
  | (j, v) :: r => if i = j then v else look i r

def lookO (i : Nat) : List (Nat × AObj) → AObj
  | [] => .none
  | (j, v) :: r => if i = j then v else lookO i r

def mkE (l : List (Nat × AV)) (lo : List (Nat × AObj)) : AEnv := ⟨fun i => look i l, fun o => lookO o lo⟩

end
attribute [irreducible] AWh
end Am
