/- Each operation does in the machine what it does here: pure ones. No condition. -/
import Derived.Test.YtlkkgdealgceeaaAm3
import Derived.Laws.MakeOwn
import Derived.Laws.Unary
import Derived.Laws.Concat
namespace Am
open Go
set_option linter.unusedSimpArgs false
set_option linter.unusedVariables false

def AEnv.upd (σ : AEnv) (k : Nat) (ob : AObj) : AEnv := ⟨σ.t, fun x => if x = k then ob else σ.o x⟩
def AEnv.wr : List (Nat × AObj) → AEnv → AEnv
  | [], σ => σ
  | (k, ob) :: r, σ => (AEnv.wr r σ).upd k ob

def Snd (P : Program) (C : Ctx) (σ : AEnv) (a : Act) (w : World) (o : Oper) (e : Eff) : Prop :=
  ∃ r w' ι' Fs' v, (execOp a.eval o).run P w = .ok r w' ∧ (r = .value v ∨ (r = .skip ∧ v = undef)) ∧ Sim C (AEnv.wr e.oe σ) a w' ι' Fs' ∧ AR w' (Un C w' Fs') (AEnv.wr e.oe σ).o ι' e.val v

/-- The reference objects and those that are there agree where both are. -/
def Agr (O τ : Nat → AObj) : Prop := ∀ k, O k ≠ .none → τ k ≠ .none → O k = τ k

section
variable {P : Program} {T : Ty} {mv : Bool} {C : Ctx} {σ : AEnv} {a : Act} {w : World} {ι : Nat → Value} {Fs : Nat → List Nat} {τ : Nat → AObj} {e : Eff}

theorem Snd.pure {o : Oper} {s : Prop} {x : AV} {v : Value} (h : Sim C σ a w ι Fs) (hr : (execOp a.eval o).run P w = .ok (.value v) w) (hx : AR w (Un C w Fs) σ.o ι x v) : Snd P C σ a w o ⟨s, x, []⟩ :=
  ⟨_, w, ι, Fs, v, hr, .inl rfl, h, hx⟩

theorem ofConst_AR {U : Nat → Prop} {O : Nat → AObj} (v : Value) : AR w U O ι (ofConst v) v := by
  unfold ofConst
  split
  · simp [AR, R]
  · simp [AR, R]
  · simp [AR, R]
  · simp [AR]
  · rename_i cs
    simp only [AR]
    refine ⟨cs, rfl, ?_⟩
    generalize cs.toList = l
    induction l with
    | nil => simp [ARs]
    | cons v l ih =>
      simp only [List.map_cons, ARs]
      refine ⟨?_, ih⟩
      split <;> simp [AR, R]
  · simp [AR]

theorem ev_AR (h : Sim C σ a w ι Fs) (x : Operand) : AR w (Un C w Fs) σ.o ι (ev σ x) (a.eval x) := by
  cases x with
  | tmp t => exact h.tm t
  | const v => exact ofConst_AR v
  | global g => simp [ev, AR]
  | func f => simp only [ev, AR, Act.eval]; exact ⟨#[], rfl, by simp [ARs]⟩

theorem ug_AR {U : Nat → Prop} {O : Nat → AObj} {x : AV} {v : Value} (h : AR w U O ι x v) (hs : x.ug.1) : AR w U O ι x.ug.2 v := by
  cases x with
  | gd b y => simp only [AV.ug] at hs ⊢; simp only [AR] at h; exact h.1 hs
  | _ => exact h

theorem ev_ug (h : Sim C σ a w ι Fs) (x : Operand) {s : Prop} {y : AV} (he : (ev σ x).ug = (s, y)) (hs : s) : AR w (Un C w Fs) σ.o ι y (a.eval x) := by
  have := ug_AR (ev_AR h x) (by rw [he]; exact hs)
  rwa [he] at this

theorem AR_int {U : Nat → Prop} {O : Nat → AObj} {k : IntKind} {n : Int} {v : Value} (h : AR w U O ι (.c (.int k n)) v) : v = .int k n := by simp only [AR, R] at h; exact h.1
theorem AR_bool {U : Nat → Prop} {O : Nat → AObj} {b : Bool} {v : Value} (h : AR w U O ι (.c (.bool b)) v) : v = .bool b := by simp only [AR, R] at h; exact h.1
theorem AR_str {U : Nat → Prop} {O : Nat → AObj} {s : ByteArray} {v : Value} (h : AR w U O ι (.c (.str s)) v) : v = .string s := by simp only [AR, R] at h; exact h.1
theorem AR_mkint {U : Nat → Prop} {O : Nat → AObj} {k : IntKind} {n : Int} : AR w U O ι (.c (.int k n)) (.int k n) := by simp [AR, R]
theorem AR_mkbool {U : Nat → Prop} {O : Nat → AObj} {b : Bool} : AR w U O ι (.c (.bool b)) (.bool b) := by simp [AR, R]
theorem AR_mkstr {U : Nat → Prop} {O : Nat → AObj} {s : ByteArray} : AR w U O ι (.c (.str s)) (.string s) := by simp [AR, R]

theorem agr_box {U : Nat → Prop} {O : Nat → AObj} (ha : Agr O τ) {b off : Nat} {v : Value} (h : AR w U O ι (.box b off) v) {cs : List AV} (hτ : τ b = .box cs) :
    O b = .box cs ∧ ∃ k, ι b = .pointer (some ⟨k, 0, none⟩) ∧ v = .pointer (some ⟨k, off, none⟩) := by
  have hn : O b ≠ .none := fun hn => (AR_none_false (g := 0) hn).1 h
  have he : O b = τ b := ha b hn (by rw [hτ]; simp)
  rw [hτ] at he
  simp only [AR, he] at h
  exact ⟨he, h⟩
theorem agr_arr {U : Nat → Prop} {O : Nat → AObj} (ha : Agr O τ) {b : Nat} {v : Value} (h : AR w U O ι (.arr b) v) {g e s n : Nat} {cs : List PV} (hτ : τ b = .arr g e s n cs) :
    O b = .arr g e s n cs ∧ v = ι b := by
  have hn : O b ≠ .none := fun hn => (AR_none_false (g := 0) (off := 0) hn).2.1 h
  have he : O b = τ b := ha b hn (by rw [hτ]; simp)
  rw [hτ] at he
  simp only [AR, he] at h
  exact ⟨he, h⟩
theorem agr_pa {U : Nat → Prop} {O : Nat → AObj} (ha : Agr O τ) {b off : Nat} {v : Value} (h : AR w U O ι (.pa b off) v) {g e s n : Nat} {cs : List PV} (hτ : τ b = .arr g e s n cs) :
    O b = .arr g e s n cs ∧ ∃ k, (ι b).ownBlock = some k ∧ v = .pointer (some ⟨k, off, none⟩) := by
  have hn : O b ≠ .none := fun hn => (AR_none_false (g := 0) hn).2.2.1 h
  have he : O b = τ b := ha b hn (by rw [hτ]; simp)
  rw [hτ] at he
  simp only [AR, he] at h
  exact ⟨he, h⟩
theorem agr_inr {U : Nat → Prop} {O : Nat → AObj} (ha : Agr O τ) {b g off : Nat} {v : Value} (h : AR w U O ι (.inr b g off) v) {g' e s n : Nat} {cs : List PV} (hτ : τ b = .arr g' e s n cs) :
    O b = .arr g' e s n cs ∧ (g = g' → isOw cs off → ∃ k, (ι b).ownBlock = some k ∧ w.cell? ⟨k, off, none⟩ = some v) := by
  have hn : O b ≠ .none := fun hn => (AR_none_false hn).2.2.2.1 h
  have he : O b = τ b := ha b hn (by rw [hτ]; simp)
  rw [hτ] at he
  simp only [AR, he] at h
  exact ⟨he, h.2⟩

theorem agr_mp {U : Nat → Prop} {O : Nat → AObj} (ha : Agr O τ) {b : Nat} {v : Value} (h : AR w U O ι (.mp b) v) {Q : Obj → Prop} (hτ : τ b = .mp Q) :
    O b = .mp Q ∧ v = ι b := by
  have hn : O b ≠ .none := fun hn => (AR_none_false (g := 0) (off := 0) hn).2.2.2.2 h
  have he : O b = τ b := ha b hn (by rw [hτ]; simp)
  rw [hτ] at he
  simp only [AR, he] at h
  exact ⟨he, h⟩

variable {dst : Option Tmp} {type : TypeId} {pos : String} {after : Array Edge} {guard : Option (Nat × Bool)}

theorem snd_move (h : Sim C σ a w ι Fs) {x : Operand} (he : astep T mv (ev σ) τ ⟨dst, .move x, type, pos, after, guard⟩ = some e) (hs : e.side) : Snd P C σ a w ⟨dst, .move x, type, pos, after, guard⟩ e := by
  simp only [astep] at he
  cases he
  exact Snd.pure h (by simp [execOp]) (ug_AR (ev_AR h x) hs)

theorem snd_assign (h : Sim C σ a w ι Fs) {x : Operand} (he : astep T mv (ev σ) τ ⟨dst, .assign x, type, pos, after, guard⟩ = some e) (hs : e.side) : Snd P C σ a w ⟨dst, .assign x, type, pos, after, guard⟩ e := by
  simp only [astep] at he
  cases he
  exact Snd.pure h (by simp [execOp]) (ug_AR (ev_AR h x) hs)

theorem snd_nilCheck (h : Sim C σ a w ι Fs) {x : Operand} (he : astep T mv (ev σ) τ ⟨dst, .nilCheck x, type, pos, after, guard⟩ = some e) (ha : Agr σ.o τ) : Snd P C σ a w ⟨dst, .nilCheck x, type, pos, after, guard⟩ e := by
  have hx := ev_AR h x
  simp only [astep] at he
  split at he
  · rename_i b off hb
    split at he
    · rename_i cs hτ
      cases he
      rw [hb] at hx
      obtain ⟨h1, k, h2, h3⟩ := agr_box ha hx hτ
      exact Snd.pure h (v := a.eval x) (by simp [execOp, h3]) hx
    · cases he
  · rename_i b off hb
    split at he
    · rename_i g ety esz n cs hτ
      cases he
      rw [hb] at hx
      obtain ⟨h1, k, h2, h3⟩ := agr_pa ha hx hτ
      exact Snd.pure h (v := a.eval x) (by simp [execOp, h3]) hx
    · cases he
  · rename_i cs off hb
    cases he
    rw [hb] at hx
    have hx' := hx
    simp only [AR] at hx'
    obtain ⟨b, o0, xs, hv, _⟩ := hx'
    exact Snd.pure h (v := a.eval x) (by simp [execOp, hv]) hx
  · cases he

theorem apickV_AR {U : Nat → Prop} {O : Nat → AObj} {t : Bool} {x y r : AV} {v u : Value} (hr : apickV t x y = some r) (hx : t = true → AR w U O ι x v) (hy : t = false → AR w U O ι y u) : AR w U O ι r (if t then v else u) := by
  unfold apickV at hr
  split at hr
  · cases hr
    cases t
    · simpa using hy rfl
    · simpa using hx rfl
  · split at hr
    · rename_i hk
      subst hk
      cases hr
      cases t
      · simpa using hy rfl
      · simpa using hx rfl
    · cases hr
  · cases hr
    cases t
    · simpa using hy rfl
    · simpa using hx rfl
  · cases t
    · cases hr; simpa using hy rfl
    · cases hr
  · cases t
    · cases hr
    · cases hr; simpa using hx rfl
  · cases hr

theorem snd_pick (h : Sim C σ a w ι Fs) {c x y : Operand} (he : astep T mv (ev σ) τ ⟨dst, .pick c x y, type, pos, after, guard⟩ = some e) (hs : e.side) : Snd P C σ a w ⟨dst, .pick c x y, type, pos, after, guard⟩ e := by
  simp only [astep] at he
  split at he
  · rename_i s0 t s1 x' s2 y' h0 h1 h2
    split at he
    · rename_i v hv
      cases he
      obtain ⟨hs0, hs1, hs2⟩ := hs
      have hc := AR_bool (ev_ug h c h0 hs0)
      refine Snd.pure h (v := if t then a.eval x else a.eval y) (by simp [execOp, hc, asBool]) (apickV_AR hv (fun ht => ev_ug h x h1 (hs1 ht)) (fun ht => ev_ug h y h2 (hs2 ht)))
    · cases he
  · cases he


theorem abin_run {op : BinOp} {t : Nat} {p q r : PV} {s : Prop} {x y : Value} (hx : R w (Un C w Fs) p x []) (hy : R w (Un C w Fs) q y []) (h : abin op p q = some (s, r)) (hs : s) (xo yo : Operand) :
    ∃ v, (do eqGuard op t xo yo x y; binOp op t x y : Sem Value).run P w = .ok v w ∧ R w (Un C w Fs) r v [] := by
  unfold abin at h
  split at h
  · rename_i k a k' b
    simp only [R] at hx hy
    obtain ⟨rfl, _⟩ := hx
    obtain ⟨rfl, _⟩ := hy
    split at h
    · cases h
      have hs' : ¬ b < 0 := by omega
      exact ⟨_, by simp [eqGuard, binOp, Op.shift, hs']; rfl, by simp [R]⟩
    · cases h
      have hs' : ¬ b < 0 := by omega
      exact ⟨_, by simp [eqGuard, binOp, Op.shift, hs']; rfl, by simp [R]⟩
    · split at h
      · rename_i hk
        subst hk
        split at h <;> cases h
        case h_4 => exact ⟨_, by simp [eqGuard, binOp, Op.intDiv, show ¬ b = 0 from hs]; rfl, by simp [R]⟩
        case h_5 => exact ⟨_, by simp [eqGuard, binOp, Op.intDiv, hs]; rfl, by simp [R]⟩
        all_goals exact ⟨_, by simp [eqGuard, binOp, Op.intArith, Op.intBits, Op.intCmp]; rfl, by simp [R, abits]⟩
      · cases h
  · rename_i a b
    simp only [R] at hx hy
    obtain ⟨rfl, _⟩ := hx
    obtain ⟨rfl, _⟩ := hy
    split at h <;> cases h
    · have h1 : ¬ (((a.size + b.size : Nat) : Int) > IntKind.i64.max) := by
        have : a.size + b.size ≤ 1099511627776 := hs
        have e : IntKind.i64.max = 9223372036854775807 := by decide
        rw [e]; omega
      exact ⟨_, by simp only [eqGuard, binOp, Op.stringOp]; simp only [h1, if_false]; rfl, by simp [R]⟩
    all_goals exact ⟨_, by simp [eqGuard, binOp, Op.stringOp]; rfl, by simp [R]⟩
  · cases h

theorem snd_unOp (h : Sim C σ a w ι Fs) {op : UnOp} {t : Nat} {x : Operand} (he : astep T mv (ev σ) τ ⟨dst, .unOp op t x, type, pos, after, guard⟩ = some e) (hs : e.side) : Snd P C σ a w ⟨dst, .unOp op t x, type, pos, after, guard⟩ e := by
  simp only [astep] at he
  split at he
  · rename_i s b hx
    cases he
    have hv := AR_bool (ev_ug h x hx hs)
    exact Snd.pure h (by simp [execOp, hv, Op.unary]) AR_mkbool
  · rename_i s k n hx
    cases he
    have hv := AR_int (ev_ug h x hx hs)
    exact Snd.pure h (by simp [execOp, hv, Op.unary, Op.intArith]) AR_mkint
  · cases he


theorem eqCells_len : ∀ {zs as bs : List AV} {r : Bool}, eqCells zs as bs = some r → as.length = zs.length ∧ bs.length = zs.length
  | [], [], [], _, _ => by simp
  | z :: zs, x :: xs, y :: ys, r, h => by
    simp only [eqCells] at h
    split at h
    · rename_i h1 h2; have := eqCells_len h2; simp [this]
    · cases h
  | [], _ :: _, _, _, h => by simp [eqCells] at h
  | [], [], _ :: _, _, h => by simp [eqCells] at h
  | _ :: _, [], _, _, h => by simp [eqCells] at h
  | _ :: _, _ :: _, [], _, h => by simp [eqCells] at h

theorem eqCells_cons {z x y : AV} {zs as bs : List AV} {r : Bool} (h : eqCells (z :: zs) (x :: as) (y :: bs) = some r) :
    ∃ r1 r2, eqCell z x y = some r1 ∧ eqCells zs as bs = some r2 ∧ r = (r1 && r2) := by
  simp only [eqCells] at h
  split at h
  · rename_i a b h1 h2
    cases h
    exact ⟨a, b, h1, h2, rfl⟩
  · cases h

theorem eqCells_split : ∀ (n : Nat) {zs as bs : List AV} {r : Bool}, eqCells zs as bs = some r →
    ∃ r1 r2, eqCells (zs.take n) (as.take n) (bs.take n) = some r1 ∧ eqCells (zs.drop n) (as.drop n) (bs.drop n) = some r2 ∧ r = (r1 && r2)
  | 0, zs, as, bs, r, h => ⟨true, r, by simp [eqCells], by simpa using h, by simp⟩
  | n + 1, [], [], [], r, h => ⟨true, r, by simp [eqCells], by simpa using h, by simp⟩
  | n + 1, z :: zs, x :: xs, y :: ys, r, h => by
    obtain ⟨r1, r2, h1, h2, rfl⟩ := eqCells_cons h
    obtain ⟨r3, r4, h3, h4, rfl⟩ := eqCells_split n h2
    exact ⟨r1 && r3, r4, by simp [eqCells, h1, h3], by simpa using h4, by simp [Bool.and_assoc]⟩
  | _ + 1, [], _ :: _, _, _, h => by simp [eqCells] at h
  | _ + 1, [], [], _ :: _, _, h => by simp [eqCells] at h
  | _ + 1, _ :: _, [], _, _, h => by simp [eqCells] at h
  | _ + 1, _ :: _, _ :: _, [], _, h => by simp [eqCells] at h

theorem run_part_leaf {t : Nat} (ht : (∃ k, P.underlying t = some (.int k)) ∨ P.underlying t = some .bool ∨ P.underlying t = some .string) (cs : Array Value) (off : Nat) (v : Value) (hv : cs[off]? = some v) :
    (part t cs off).run P w = .ok v w := by
  rcases ht with ⟨k, ht⟩ | ht | ht <;> simp [part, isAgg, run_underlying ht, hv]

theorem run_part_agg {t : Nat} {fs : Array Field} (ht : P.underlying t = some (.struct fs)) (hi : (P.info? t).isSome = true) (cs : Array Value) (off : Nat) :
    (part t cs off).run P w = .ok (.agg (cs.extract off (off + P.cellsOf t))) w := by
  obtain ⟨i, hi⟩ := Option.isSome_iff_exists.1 hi
  simp [part, isAgg, run_underlying ht, Go.sizeOf, typeInfo, hi, Program.cellsOf]

theorem ARs_extract {U : Nat → Prop} {O : Nat → AObj} {as : List AV} {xs : Array Value} {pos n : Nat} (h : ARs w U O ι as (xs.toList.drop pos)) : ARs w U O ι (as.take n) (xs.extract pos (pos + n)).toList := by
  rw [Array.toList_extract]
  have := ARs_take h n
  simpa [List.extract, Nat.add_sub_cancel_left] using this

theorem run_eqFs {U : Nat → Prop} {O : Nat → AObj} {d : Nat}
    (ih : ∀ (t : Nat) (zs as bs : List AV) (xs ys : Array Value) (r : Bool), eqB P d t zs = true → eqCells zs as bs = some r → ARs w U O ι as xs.toList → ARs w U O ι bs ys.toList → (Op.equalIn d t (.agg xs) (.agg ys)).run P w = .ok r w) (hd : 0 < d)
    (xs ys : Array Value) : ∀ (fs : List Field) (pos : Nat) (zs as bs : List AV) (r : Bool), eqFs P (eqB P d) fs pos zs = true → eqCells zs as bs = some r →
      ARs w U O ι as (xs.toList.drop pos) → ARs w U O ι bs (ys.toList.drop pos) → (Op.eqFields d xs ys fs).run P w = .ok r w
  | [], pos, zs, as, bs, r, hf, he, hx, hy => by
    simp only [eqFs, List.isEmpty_iff] at hf
    subst hf
    cases as <;> cases bs <;> simp [eqCells] at he
    subst he
    simp [Op.eqFields]
  | f :: fs, pos, zs, as, bs, r, hf, he, hx, hy => by
    obtain ⟨d, rfl⟩ : ∃ m, d = m + 1 := ⟨d - 1, by omega⟩
    simp only [eqFs, Bool.and_eq_true, bne_iff_ne, beq_iff_eq] at hf
    obtain ⟨⟨hname, hoff⟩, hf⟩ := hf
    have leaf : ∀ (z : AV) (zs' : List AV), zs = z :: zs' → eqFs P (eqB P (d + 1)) fs (pos + 1) zs' = true →
        ((∃ k, P.underlying f.type = some (.int k)) ∨ P.underlying f.type = some .bool ∨ P.underlying f.type = some .string) →
        (∀ (x y : AV) (v u : Value) (b : Bool), eqCell z x y = some b → AR w U O ι x v → AR w U O ι y u → (Op.equalIn (d + 1) f.type v u).run P w = .ok b w) →
        (Op.eqFields (d + 1) xs ys (f :: fs)).run P w = .ok r w := by
      rintro z zs' rfl hrest ht hone
      cases as with
      | nil => simp [eqCells] at he
      | cons x as =>
        cases bs with
        | nil => simp [eqCells] at he
        | cons y bs =>
          obtain ⟨r1, r2, h1, h2, rfl⟩ := eqCells_cons he
          cases hxd : xs.toList.drop pos with
          | nil => rw [hxd] at hx; simp [ARs] at hx
          | cons v vs =>
            cases hyd : ys.toList.drop pos with
            | nil => rw [hyd] at hy; simp [ARs] at hy
            | cons u us =>
              rw [hxd] at hx; rw [hyd] at hy
              simp only [ARs] at hx hy
              have hv : xs[pos]? = some v := by
                have : (xs.toList.drop pos)[0]? = some v := by rw [hxd]; rfl
                simpa [List.getElem?_drop] using this
              have hu : ys[pos]? = some u := by
                have : (ys.toList.drop pos)[0]? = some u := by rw [hyd]; rfl
                simpa [List.getElem?_drop] using this
              have hvs : xs.toList.drop (pos + 1) = vs := by rw [← List.drop_drop, hxd]; rfl
              have hus : ys.toList.drop (pos + 1) = us := by rw [← List.drop_drop, hyd]; rfl
              have hrec := run_eqFs ih hd xs ys fs (pos + 1) zs' as bs r2 hrest h2 (by rw [hvs]; exact hx.2) (by rw [hus]; exact hy.2)
              have hth := hone x y v u r1 h1 hx.1 hy.1
              simp only [Op.eqFields, if_pos hname, Sem.run_bind, hoff, run_part_leaf ht xs pos v hv, run_part_leaf ht ys pos u hu, Result.andThen_ok, hth]
              cases r1
              · simp
              · simpa using hrec
    split at hf
    · rename_i _ k k' n zs' hty
      refine leaf _ _ rfl hf (.inl ⟨k, hty⟩) (fun x y v u b hb hv hu => ?_)
      unfold eqCell at hb
      split at hb
      · rename_i h1; cases h1
        split at hb
        · rename_i hk; subst hk; cases hb
          rw [AR_int hv, AR_int hu]; exact run_equalIn_int w d f.type _ _ _ _ hty
        · cases hb
      all_goals first | (cases ‹AV.c _ = AV.c _›; done) | (cases hb; done)
    · rename_i _ k' zs' hty
      refine leaf _ _ rfl hf (.inr (.inl hty)) (fun x y v u b hb hv hu => ?_)
      unfold eqCell at hb
      split at hb
      · rename_i h1; cases h1
      · cases hb
        rw [AR_bool hv, AR_bool hu]; exact run_equalIn_bool' w d f.type _ _ hty
      all_goals first | (cases ‹AV.c _ = AV.c _›; done) | (cases hb; done)
    · rename_i _ k' zs' hty
      refine leaf _ _ rfl hf (.inr (.inr hty)) (fun x y v u b hb hv hu => ?_)
      unfold eqCell at hb
      split at hb
      · rename_i h1; cases h1
      · rename_i h1; cases h1
      · cases hb
        rw [AR_str hv, AR_str hu]; exact run_equalIn_string w d f.type _ _ hty
      · cases hb
    · rename_i fs' zs' hty
      simp only [Bool.and_eq_true, decide_eq_true_eq] at hf
      obtain ⟨⟨⟨hinfo, hle⟩, hsub⟩, hrest⟩ := hf
      obtain ⟨r1, r2, h1, h2, rfl⟩ := eqCells_split (P.cellsOf f.type) he
      have hth := ih f.type _ _ _ (xs.extract pos (pos + P.cellsOf f.type)) (ys.extract pos (pos + P.cellsOf f.type)) r1 hsub h1 (ARs_extract hx) (ARs_extract hy)
      have hrec := run_eqFs ih hd xs ys fs (pos + P.cellsOf f.type) _ _ _ r2 hrest h2 (by rw [← List.drop_drop]; exact ARs_drop hx _) (by rw [← List.drop_drop]; exact ARs_drop hy _)
      simp only [Op.eqFields, if_pos hname, Sem.run_bind, hoff, run_part_agg hty hinfo, Result.andThen_ok, hth]
      cases r1
      · simp
      · simpa using hrec
    · cases hf

theorem run_eqB {U : Nat → Prop} {O : Nat → AObj} : ∀ (d : Nat) (t : Nat) (zs as bs : List AV) (xs ys : Array Value) (r : Bool), eqB P d t zs = true → eqCells zs as bs = some r →
    ARs w U O ι as xs.toList → ARs w U O ι bs ys.toList → (Op.equalIn d t (.agg xs) (.agg ys)).run P w = .ok r w
  | 0, _, _, _, _, _, _, _, h, _, _, _ => by simp [eqB] at h
  | d + 1, t, zs, as, bs, xs, ys, r, h, he, hx, hy => by
    simp only [eqB, Bool.and_eq_true, Bool.not_eq_true'] at h
    obtain ⟨⟨⟨hd, h0⟩, h1⟩, h2⟩ := h
    have ht : P.underlying t = some (.struct (P.fieldsOf t)) := by
      unfold Program.fieldsOf
      cases hu : P.underlying t with
      | none => rw [hu] at h0; cases h0
      | some d => cases d <;> first | rfl | (rw [hu] at h0; cases h0)
    rw [run_equalIn_struct w d t xs ys ht h1]
    exact run_eqFs (run_eqB d) (by simpa using hd) xs ys _ 0 zs as bs r h2 he (by simpa using hx) (by simpa using hy)


theorem eqFs_mono {f g : Nat → List AV → Bool} (hfg : ∀ t zs, f t zs = true → g t zs = true) : ∀ (fs : List Field) (pos : Nat) (zs : List AV), eqFs P f fs pos zs = true → eqFs P g fs pos zs = true
  | [], pos, zs, h => by simpa only [eqFs] using h
  | x :: fs, pos, zs, h => by
    simp only [eqFs, Bool.and_eq_true] at h ⊢
    obtain ⟨h1, h2⟩ := h
    refine ⟨h1, ?_⟩
    split at h2
    · exact eqFs_mono hfg fs _ _ h2
    · exact eqFs_mono hfg fs _ _ h2
    · exact eqFs_mono hfg fs _ _ h2
    · simp only [Bool.and_eq_true] at h2 ⊢
      exact ⟨⟨h2.1.1, hfg _ _ h2.1.2⟩, eqFs_mono hfg fs _ _ h2.2⟩
    · cases h2

theorem eqB_mono : ∀ (d : Nat) (t : Nat) (zs : List AV), eqB P d t zs = true → eqB P (d + 1) t zs = true
  | 0, _, _, h => by simp [eqB] at h
  | d + 1, t, zs, h => by
    unfold eqB at h ⊢
    simp only [Bool.and_eq_true] at h ⊢
    exact ⟨⟨⟨by simp, h.1.1.2⟩, h.1.2⟩, eqFs_mono (eqB_mono d) _ _ _ h.2⟩

theorem eqB_le {d d' : Nat} (hd : d ≤ d') {t : Nat} {zs : List AV} (h : eqB P d t zs = true) : eqB P d' t zs = true := by
  induction hd with
  | refl => exact h
  | step _ ih => exact eqB_mono _ _ _ ih

end
end Am
