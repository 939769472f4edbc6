/- A function's contract, from its code. No condition. -/
import Derived.Test.YtlkkgdealgceeaaAm20
namespace Am
open Go
set_option linter.unusedSimpArgs false
set_option linter.unusedVariables false
set_option linter.unnecessarySimpa false

section
variable {P : Program} {T : Ty} {C : Ctx} {σ : AEnv} {a : Act} {w w' : World} {ι : Nat → Value} {Fs : Nat → List Nat}

theorem loadVar_of_loadAt {t : Nat} {b off : Nat} {r : Result Value} (h : (Instr.loadAt t (.pointer (some ⟨b, off, none⟩))).run P w = r) : (loadVar t ⟨b, off, none⟩).run P w = r := by
  simpa [Instr.loadAt, Instr.sureAddr] using h

/-- One result as it is read. -/
def readRes (tmps : Array Value) : ResultVar → Sem Value
  | .tmp t => pure (tmps.getD t undef)
  | .cell a t => do loadVar t (← asAddr (tmps.getD a undef))

theorem results_eq (fn : Func) (tmps : Array Value) : results fn tmps = (do let vs ← fn.results.mapM (readRes tmps); pure (if h : vs.size = 1 then vs[0] else .tuple vs)) := by
  unfold results
  congr 1

theorem resAV_run (hT : TyOK P T) (h : Sim C σ a w ι Fs) {r : ResultVar} {av : AV} (hr : resAV T σ r = some av) : ∃ v, (readRes a.tmps r).run P w = .ok v w ∧ AR w (Un C w Fs) σ.o ι av v := by
  cases r with
  | tmp t =>
    simp only [resAV] at hr
    cases hr
    exact ⟨_, by simp [readRes], h.tm t⟩
  | cell at' t =>
    simp only [resAV] at hr
    split at hr
    · rename_i i b off hl ht
      have hi := hT.m hl
      split at hr
      · rename_i cs ho
        have hta := h.tm at'
        rw [ht] at hta
        simp only [AR, ho] at hta
        obtain ⟨k, hkb, hv⟩ := hta
        obtain ⟨vals, ty, hh, hm, hrr, _, _⟩ := box_mem h ho hkb
        have hread : ∀ {u : Value}, (Instr.loadAt t (.pointer (some ⟨k, off, none⟩))).run P w = .ok u w → (readRes a.tmps (.cell at' t)).run P w = .ok u w := by
          intro u hu
          have := loadVar_of_loadAt hu
          simp only [readRes, hv]
          simp [asAddr, this]
        split at hr
        · rename_i fs hk
          split at hr
          · rename_i hle
            cases hr
            have hlen := ARs_length _ _ hrr
            have hm' := memAt_drop hm off
            rw [Nat.zero_add] at hm'
            refine ⟨.agg ((vals.toList.drop off).take i.size).toArray, hread (loadAt_struct hi hk hm' (by simp only [List.length_drop]; omega)), ?_⟩
            simp only [AR]; exact ⟨_, rfl, by simpa using ARs_take (ARs_drop hrr off) i.size⟩
          · cases hr
        · cases hr
        · rename_i hk1 hk2
          obtain ⟨u, hu, hur⟩ := ARs_get hrr hr
          have hc := hm off u hu
          rw [Nat.zero_add] at hc
          exact ⟨u, hread (loadAt_cell hi (fun hk => hk2 hk) (fun fs hk => hk1 fs hk) hc), hur⟩
      · cases hr
    · cases hr

theorem resAVs_run (hT : TyOK P T) (h : Sim C σ a w ι Fs) : ∀ {rs : List ResultVar} {avs : List AV}, allSome (rs.map (resAV T σ)) = some avs → ∃ vs : List Value, (rs.mapM (readRes a.tmps)).run P w = .ok vs w ∧ ARs w (Un C w Fs) σ.o ι avs vs
  | [], avs, hr => by
    simp [allSome] at hr
    subst hr
    exact ⟨[], by simp, by simp [ARs]⟩
  | r :: rs, avs, hr => by
    simp only [List.map_cons] at hr
    cases h1 : resAV T σ r with
    | none => rw [h1] at hr; simp [allSome] at hr
    | some av =>
      rw [h1] at hr
      simp only [allSome] at hr
      split at hr
      · rename_i l hl
        cases hr
        obtain ⟨v, hv, hav⟩ := resAV_run hT h h1
        obtain ⟨vs, hvs, hars⟩ := resAVs_run hT h hl
        exact ⟨v :: vs, by simp [List.mapM_cons, hv, hvs], by simp only [ARs]; exact ⟨hav, hars⟩⟩
      · cases hr

theorem avCV_R (h : Sim C σ a w ι Fs) {x : AV} {v : Value} {c : CV} {gone : List Nat} (hx : AR w (Un C w Fs) σ.o ι x v) (hp : avCV σ.o x = some (c, gone)) :
    CR w (Un C w Fs) c v (gone.flatMap Fs) ∧ (∀ g, g ∈ gone → σ.o g ≠ .none) ∧ small1 c = small1 c := by
  unfold avCV at hp
  split at hp
  · split at hp
    · rename_i cs _ ps l h1
      cases hp
      simp only [AR] at hx
      obtain ⟨vs, rfl, hs⟩ := hx
      obtain ⟨h2, h3⟩ := toPVs_R h (Agr.refl _) hs h1
      exact ⟨by simp only [CR]; exact ⟨vs, rfl, h2⟩, h3, rfl⟩
    · cases hp
  · split at hp
    · rename_i p l h1
      cases hp
      obtain ⟨h2, h3⟩ := toPV_R h (Agr.refl _) hx h1
      exact ⟨by simp only [CR]; exact h2, h3, rfl⟩
    · cases hp

theorem avCVs_R (h : Sim C σ a w ι Fs) : ∀ {xs : List AV} {vs : List Value} {cs : List CV} {gone : List Nat}, ARs w (Un C w Fs) σ.o ι xs vs → avCVs σ.o xs = some (cs, gone) →
    CRs w (Un C w Fs) cs vs (gone.flatMap Fs) ∧ ∀ g, g ∈ gone → σ.o g ≠ .none
  | [], [], cs, gone, _, hp => by simp [avCVs] at hp; obtain ⟨rfl, rfl⟩ := hp; exact ⟨by simp [CRs], by simp⟩
  | x :: xs, v :: vs, cs, gone, hx, hp => by
    simp only [ARs] at hx
    simp only [avCVs] at hp
    split at hp
    · rename_i c l cs' ls h1 h2
      cases hp
      obtain ⟨g1, g2, _⟩ := avCV_R h hx.1 h1
      obtain ⟨g3, g4⟩ := avCVs_R h hx.2 h2
      refine ⟨by simp only [CRs, List.flatMap_append]; exact ⟨_, _, g1, g3, rfl⟩, ?_⟩
      intro g hg
      simp only [List.mem_append] at hg
      rcases hg with hg | hg
      · exact g2 g hg
      · exact g4 g hg
    · cases hp
  | [], _ :: _, _, _, hx, _ => by simp only [ARs] at hx
  | _ :: _, [], _, _, hx, _ => by simp only [ARs] at hx

theorem look_none {i : Nat} : ∀ {l : List (Nat × AV)}, (∀ j v, (j, v) ∈ l → i ≠ j) → look i l = .any
  | [], _ => rfl
  | (j, v) :: r, h => by
    simp only [look]
    rw [if_neg (h j v (by simp)), look_none (fun j' v' hm => h j' v' (by simp [hm]))]

/-- An object that comes with an argument. -/
structure Obj0 where
  name : Nat
  ob : AObj
  val : Value
  fp : List Nat

def o0 (L : List Obj0) : List (Nat × AObj) := L.map fun e => (e.name, e.ob)
def At0 (O : Nat → AObj) (ι : Nat → Value) (L : List Obj0) : Prop := ∀ e, e ∈ L → O e.name = e.ob ∧ ι e.name = e.val

/-- What comes with arguments under names from lo to hi. -/
structure Came0 (w : World) (U : Nat → Prop) (L : List Obj0) (os : List (Nat × AObj)) (lo hi : Nat) (F : List Nat) (ok : (Nat → AObj) → (Nat → Value) → Prop) : Prop where
  os : o0 L = os
  rng : ∀ e, e ∈ L → lo ≤ e.name ∧ e.name < hi
  nd : (L.map Obj0.name).Nodup
  fp : L.flatMap Obj0.fp = F
  ob : ∀ O ι, At0 O ι L → ∀ e, e ∈ L → ObR w U O ι e.ob e.val e.fp
  ok : ∀ O ι, At0 O ι L → ok O ι

theorem Came0.app {w : World} {U : Nat → Prop} {L1 L2 : List Obj0} {o1 o2 : List (Nat × AObj)} {lo m1 m hi : Nat} {F1 F2 : List Nat} {k1 k2 : (Nat → AObj) → (Nat → Value) → Prop} (h1 : Came0 w U L1 o1 lo m F1 k1) (h2 : Came0 w U L2 o2 m1 hi F2 k2) (hm : m ≤ m1) (hlo : lo ≤ m1) (hhi : m ≤ hi) :
    Came0 w U (L1 ++ L2) (o1 ++ o2) lo hi (F1 ++ F2) (fun O ι => k1 O ι ∧ k2 O ι) where
  os := by rw [← h1.os, ← h2.os]; simp [o0]
  rng e he := by
    rcases List.mem_append.1 he with he | he
    · have := h1.rng e he; omega
    · have := h2.rng e he; omega
  nd := by
    rw [List.map_append, List.nodup_append]
    refine ⟨h1.nd, h2.nd, fun x hx y hy e => ?_⟩
    obtain ⟨a, ha, rfl⟩ := List.mem_map.1 hx
    obtain ⟨b, hb, rfl⟩ := List.mem_map.1 hy
    have q1 := h1.rng a ha
    have q2 := h2.rng b hb
    omega
  fp := by rw [List.flatMap_append, h1.fp, h2.fp]
  ob O ι h e he := by
    rcases List.mem_append.1 he with he | he
    · exact h1.ob O ι (fun e' he' => h e' (by simp [he'])) e he
    · exact h2.ob O ι (fun e' he' => h e' (by simp [he'])) e he
  ok O ι h := ⟨h1.ok O ι (fun e' he' => h e' (by simp [he'])), h2.ok O ι (fun e' he' => h e' (by simp [he']))⟩

theorem argCell_R {U : Nat → Prop} (k : Nat) {p : PV} {v : Value} {F : List Nat} (h : R w U p v F) : ∃ L, Came0 w U L (argCell k p).2 k (k + 1) F (fun O ι => AR w U O ι (argCell k p).1 v) := by
  by_cases hp : isFree p = true
  · have h1 : argCell k p = (.c p, []) := by cases p <;> first | rfl | simp [isFree] at hp
    have := R_free h hp
    subst this
    rw [h1]
    exact ⟨[], rfl, by simp, by simp, rfl, by simp, fun O ι _ => AR_c.2 h⟩
  · cases p with
    | ow e s n cs =>
      refine ⟨[⟨k, .arr 0 e s n cs, v, F⟩], rfl, by simp, by simp, by simp, fun O ι h0 e he => ?_, fun O ι h0 => ?_⟩
      · simp at he
        subst he
        simp only [R] at h
        exact h
      · have := h0 ⟨k, .arr 0 e s n cs, v, F⟩ (by simp)
        simp only [argCell, AR, this.1, this.2]
    | _ => simp [isFree] at hp

theorem argCells_R {U : Nat → Prop} : ∀ (k : Nat) {ps : List PV} {vs : List Value} {F : List Nat}, Rs w U ps vs F → ∃ L, Came0 w U L (argCells k ps).2 k (k + ps.length) F (fun O ι => ARs w U O ι (argCells k ps).1 vs)
  | k, [], [], F, h => by
    simp only [Rs] at h
    subst h
    exact ⟨[], rfl, by simp, by simp, rfl, by simp, fun O ι _ => by simp [argCells, ARs]⟩
  | k, p :: ps, v :: vs, F, h => by
    simp only [Rs] at h
    obtain ⟨F1, F2, h1, h2, rfl⟩ := h
    obtain ⟨L1, c1⟩ := argCell_R k h1
    obtain ⟨L2, c2⟩ := argCells_R (k + 1) h2
    refine ⟨L1 ++ L2, ?_⟩
    have := c1.app c2 (Nat.le_refl _) (by omega) (by omega)
    simp only [argCells, ARs, List.length_cons]
    rwa [show k + (ps.length + 1) = k + 1 + ps.length by omega]
  | _, [], _ :: _, _, h => by simp only [Rs] at h
  | _, _ :: _, [], _, h => by simp only [Rs] at h

theorem capAVs_R {U : Nat → Prop} {O : Nat → AObj} : ∀ {cs : List CV} {vs : List Value}, CRs w U cs vs [] → ARs w U O ι (cs.map capAV) vs
  | [], [], h => by simp [ARs]
  | c :: cs, v :: vs, h => by
    simp only [CRs] at h
    obtain ⟨F1, F2, h1, h2, hF⟩ := h
    obtain ⟨rfl, rfl⟩ := List.append_eq_nil_iff.1 hF.symm
    simp only [List.map_cons, ARs]
    refine ⟨?_, capAVs_R h2⟩
    cases c with
    | v p => simp only [capAV]; simp only [CR] at h1; exact AR_c.2 h1
    | agg ps =>
      simp only [capAV, AR]
      simp only [CR] at h1
      obtain ⟨us, rfl, hr⟩ := h1
      exact ⟨us, rfl, map_c_ARs hr⟩
    | pc ps =>
      simp only [capAV, AR]
      simp only [CR] at h1
      obtain ⟨_, b, o0, xs, e1, e2, e3, e4⟩ := h1
      exact ⟨b, o0, xs, by simpa using e1, e2, e3, e4⟩
    | _ => simp only [capAV, AR]
  | [], _ :: _, h => by simp only [CRs] at h
  | _ :: _, [], h => by simp only [CRs] at h

theorem argAV_R {U : Nat → Prop} (k : Nat) {c : CV} {v : Value} {F : List Nat} (h : CR w U c v F) (hs : argSmall c = true) : ∃ L G, Came0 w U L (argAV k c).2 k (k + 64) G (fun O ι => AR w U O ι (argAV k c).1 v) ∧ (∀ x, x ∈ G → x ∈ F) ∧ (F.Nodup → G.Nodup) := by
  cases c with
  | any => exact ⟨[], [], ⟨rfl, by simp, by simp, rfl, by simp, fun O ι _ => by simp [argAV, argAV0, AR]⟩, by simp, by simp⟩
  | tup xs => exact ⟨[], [], ⟨rfl, by simp, by simp, rfl, by simp, fun O ι _ => by simp [argAV, argAV0, AR]⟩, by simp, by simp⟩
  | v p =>
    simp only [CR] at h
    obtain ⟨L, c⟩ := argCell_R k h
    exact ⟨L, F, ⟨c.os, fun e he => by have := c.rng e he; omega, c.nd, c.fp, c.ob, c.ok⟩, fun _ h => h, fun h => h⟩
  | agg ps =>
    simp only [CR] at h
    obtain ⟨vs, rfl, hr⟩ := h
    simp only [argSmall, decide_eq_true_eq] at hs
    obtain ⟨L, c⟩ := argCells_R k hr
    exact ⟨L, F, ⟨c.os, fun e he => by have := c.rng e he; omega, c.nd, c.fp, c.ob, fun O ι h0 => by simp only [argAV, argAV0, AR]; exact ⟨vs, rfl, c.ok O ι h0⟩⟩, fun _ h => h, fun h => h⟩
  | ptr ps =>
    simp only [CR] at h
    obtain ⟨b, vals, ty, F', rfl, h2, h3, hr, rfl⟩ := h
    simp only [argSmall, decide_eq_true_eq] at hs
    obtain ⟨L, c⟩ := argCells_R (k + 1) hr
    refine ⟨⟨k, .box (argCells (k + 1) ps).1, .pointer (some ⟨b, 0, none⟩), [b]⟩ :: L, b :: F', ⟨?_, fun e he => ?_, ?_, ?_, fun O ι h0 e he => ?_, fun O ι h0 => ?_⟩, fun _ h => h, fun h => h⟩
    · simp only [argAV, argAV0, ← c.os, o0, List.map_cons]
    · rcases List.mem_cons.1 he with rfl | he
      · simp
      · have := c.rng e he; omega
    · rw [List.map_cons, List.nodup_cons]
      refine ⟨fun hm => ?_, c.nd⟩
      obtain ⟨e, he, hk⟩ := List.mem_map.1 hm
      have := c.rng e he
      simp only at hk
      omega
    · simp [c.fp]
    · rcases List.mem_cons.1 he with rfl | he
      · exact ⟨b, vals, ty, rfl, h2, c.ok O ι (fun e he => h0 e (by simp [he])), h3, rfl⟩
      · exact c.ob O ι (fun e he => h0 e (by simp [he])) e he
    · have := h0 ⟨k, .box (argCells (k + 1) ps).1, .pointer (some ⟨b, 0, none⟩), [b]⟩ (by simp)
      simp only [argAV, argAV0, AR, this.1, this.2]
      exact ⟨b, rfl, rfl⟩
  | pc ps =>
    simp only [CR] at h
    obtain ⟨_, b, o0, xs, e1, e2, e3, e4⟩ := h
    exact ⟨[], [], ⟨rfl, by simp, by simp, rfl, by simp, fun O ι _ => by simp only [argAV, argAV0, AR]; exact ⟨b, o0, xs, by simpa using e1, e2, e3, e4⟩⟩, by simp, by simp⟩
  | fn f caps =>
    simp only [CR] at h
    obtain ⟨_, xs, e1, e2⟩ := h
    exact ⟨[], [], ⟨rfl, by simp, by simp, rfl, by simp, fun O ι _ => by simp only [argAV, AR]; exact ⟨xs, e1, capAVs_R e2⟩⟩, by simp, by simp⟩

theorem argsAV_R {U : Nat → Prop} : ∀ {cs : List CV} {vs : List Value} {F : List Nat} {k : Nat}, CRs w U cs vs F → cs.all argSmall = true →
    ∃ L G, Came0 w U L (argsO k cs) (640000 + 64 * k) (640000 + 64 * (k + cs.length)) G (fun O ι => ∀ i, AR w U O ι (look i (argsAV k cs)) (if i < k then undef else vs.getD (i - k) undef)) ∧ (∀ x, x ∈ G → x ∈ F) ∧ (F.Nodup → G.Nodup)
  | [], [], F, k, h, _ => ⟨[], [], ⟨rfl, by simp, by simp, rfl, by simp, fun O ι _ i => by simp [argsAV, look, AR]⟩, by simp, by simp⟩
  | c :: cs, v :: vs, F, k, h, hs => by
    simp only [List.all_cons, Bool.and_eq_true] at hs
    simp only [CRs] at h
    obtain ⟨F1, F2, h1, h2, rfl⟩ := h
    obtain ⟨L1, G1, c1, s1, n1⟩ := argAV_R (640000 + 64 * k) h1 hs.1
    obtain ⟨L2, G2, c2, s2, n2⟩ := argsAV_R (k := k + 1) h2 hs.2
    have c := c1.app c2 (by omega) (by omega) (by omega)
    refine ⟨L1 ++ L2, G1 ++ G2, ⟨c.os, fun e he => by have := c.rng e he; simp only [List.length_cons]; omega, c.nd, c.fp, c.ob, fun O ι h0 i => ?_⟩, fun x hx => ?_, fun hn => ?_⟩
    · obtain ⟨q1, q2⟩ := c.ok O ι h0
      simp only [argsAV, look]
      by_cases hi : i = k
      · subst hi
        rw [if_pos rfl, if_neg (by omega)]
        simpa using q1
      · rw [if_neg hi]
        have := q2 i
        by_cases hlt : i < k
        · rw [if_pos hlt]; rw [if_pos (by omega)] at this; exact this
        · rw [if_neg hlt]; rw [if_neg (by omega)] at this
          rw [show i - k = (i - (k + 1)) + 1 by omega]
          simpa using this
    · simp only [List.mem_append] at hx ⊢
      rcases hx with hx | hx
      · exact .inl (s1 x hx)
      · exact .inr (s2 x hx)
    · rw [List.nodup_append] at hn ⊢
      exact ⟨n1 hn.1, n2 hn.2.1, fun x hx y hy => hn.2.2 x (s1 x hx) y (s2 y hy)⟩
  | [], _ :: _, _, _, h, _ => by simp only [CRs] at h
  | _ :: _, [], _, _, h, _ => by simp only [CRs] at h

theorem look0 : ∀ {L : List Obj0}, (L.map Obj0.name).Nodup → ∀ e, e ∈ L → lookO e.name (o0 L) = e.ob
  | [], _, e, h => by cases h
  | x :: L, hn, e, h => by
    simp only [List.map_cons, List.nodup_cons] at hn
    simp only [o0, List.map_cons, lookO]
    rcases List.mem_cons.1 h with rfl | h
    · rw [if_pos rfl]
    · rw [if_neg (fun e' => hn.1 (by rw [← e']; exact List.mem_map_of_mem h))]
      exact look0 hn.2 e h

theorem look0_none : ∀ {L : List Obj0} {o : Nat}, o ∉ L.map Obj0.name → lookO o (o0 L) = .none
  | [], o, _ => rfl
  | x :: L, o, h => by
    simp only [List.map_cons, List.mem_cons, not_or] at h
    simp only [o0, List.map_cons, lookO]
    rw [if_neg h.1]
    exact look0_none h.2

def find0 (L : List Obj0) (o : Nat) : Option Obj0 := L.find? (fun x => x.name == o)
theorem find0_mem {L : List Obj0} (hn : (L.map Obj0.name).Nodup) {e : Obj0} (he : e ∈ L) : find0 L e.name = some e := by
  unfold find0
  induction L with
  | nil => cases he
  | cons x L ih =>
    simp only [List.map_cons, List.nodup_cons] at hn
    rcases List.mem_cons.1 he with rfl | he
    · simp
    · rw [List.find?_cons_of_neg]
      · exact ih hn.2 he
      · intro hx
        have : x.name = e.name := by simpa using hx
        exact hn.1 (by rw [this]; exact List.mem_map_of_mem he)
theorem find0_some {L : List Obj0} {o : Nat} {e : Obj0} (h : find0 L o = some e) : e ∈ L ∧ e.name = o := by
  unfold find0 at h
  exact ⟨List.mem_of_find?_eq_some h, by have := List.find?_some h; simpa using this⟩

/-- The handed-over arguments stand in slots that are never written. -/
def outsOk (m : Nat) : Nat → List CV → Bool
  | _, [] => true
  | i, .any :: cs => outsOk m (i + 1) cs
  | i, _ :: cs => decide (i < m) && outsOk m (i + 1) cs

theorem fitPV_R (h : Sim C σ a w ι Fs) {p : PV} {x : AV} {v : Value} (hx : AR w (Un C w Fs) σ.o ι x v) (hf : (fitPV σ.o p x).1) : R w (Un C w Fs) p v ((fitPV σ.o p x).2.flatMap Fs) ∧ ∀ g, g ∈ (fitPV σ.o p x).2 → σ.o g ≠ .none := by
  unfold fitPV at hf ⊢
  split at hf
  · obtain ⟨rfl, rfl⟩ := hf
    simp only [AR] at hx
    subst hx
    refine ⟨?_, by simp⟩
    simp only [R, List.flatMap_nil]
    exact ⟨[], [], World.ownsRow_nil w 0 _ _, by simp [Rs], by simp [Value.ownBlock]⟩
  · obtain ⟨rfl, rfl⟩ := hf
    simp only [AR] at hx
    subst hx
    exact ⟨by simp [R], by simp⟩
  · split at hf
    · rename_i p' l e
      simp only at hf
      subst hf
      simp only [e]
      exact toPV_R h (Agr.refl _) hx e
    · exact hf.elim

theorem fitPVs_R (h : Sim C σ a w ι Fs) : ∀ {ps : List PV} {xs : List AV} {vs : List Value}, ARs w (Un C w Fs) σ.o ι xs vs → (fitPVs σ.o ps xs).1 → Rs w (Un C w Fs) ps vs ((fitPVs σ.o ps xs).2.flatMap Fs) ∧ ∀ g, g ∈ (fitPVs σ.o ps xs).2 → σ.o g ≠ .none
  | [], [], [], _, _ => by simp [fitPVs, Rs]
  | p :: ps, x :: xs, v :: vs, hx, hf => by
    simp only [ARs] at hx
    simp only [fitPVs] at hf ⊢
    obtain ⟨r1, r2⟩ := fitPV_R h hx.1 hf.1
    obtain ⟨s1, s2⟩ := fitPVs_R h hx.2 hf.2
    refine ⟨by simp only [Rs, List.flatMap_append]; exact ⟨_, _, r1, s1, rfl⟩, fun g hg => ?_⟩
    rcases List.mem_append.1 hg with hg | hg
    · exact r2 g hg
    · exact s2 g hg
  | [], _ :: _, _, _, hf => by simp [fitPVs] at hf
  | _ :: _, [], _, _, hf => by simp [fitPVs] at hf
  | [], [], _ :: _, hx, _ => by simp only [ARs] at hx
  | _ :: _, _ :: _, [], hx, _ => by simp only [ARs] at hx

theorem fitCV_R (h : Sim C σ a w ι Fs) {c : CV} {x : AV} {v : Value} (hx : AR w (Un C w Fs) σ.o ι x v) (hf : (fitCV σ.o c x).1) : CR w (Un C w Fs) c v ((fitCV σ.o c x).2.flatMap Fs) ∧ ∀ g, g ∈ (fitCV σ.o c x).2 → σ.o g ≠ .none := by
  unfold fitCV at hf ⊢
  split at hf
  · simp only [AR] at hx
    obtain ⟨vs, rfl, hs⟩ := hx
    obtain ⟨r1, r2⟩ := fitPVs_R h hs hf
    exact ⟨by simp only [CR]; exact ⟨vs, rfl, r1⟩, r2⟩
  · simp only [CR]; exact fitPV_R h hx hf
  · exact hf.elim

theorem fitCVs_R (h : Sim C σ a w ι Fs) : ∀ {ps : List CV} {xs : List AV} {vs : List Value}, ARs w (Un C w Fs) σ.o ι xs vs → (fitCVs σ.o ps xs).1 → CRs w (Un C w Fs) ps vs ((fitCVs σ.o ps xs).2.flatMap Fs) ∧ ∀ g, g ∈ (fitCVs σ.o ps xs).2 → σ.o g ≠ .none
  | [], [], [], _, _ => by simp [fitCVs, CRs]
  | p :: ps, x :: xs, v :: vs, hx, hf => by
    simp only [ARs] at hx
    simp only [fitCVs] at hf ⊢
    obtain ⟨r1, r2⟩ := fitCV_R h hx.1 hf.1
    obtain ⟨s1, s2⟩ := fitCVs_R h hx.2 hf.2
    refine ⟨by simp only [CRs, List.flatMap_append]; exact ⟨_, _, r1, s1, rfl⟩, fun g hg => ?_⟩
    rcases List.mem_append.1 hg with hg | hg
    · exact r2 g hg
    · exact s2 g hg
  | [], _ :: _, _, _, hf => by simp [fitCVs] at hf
  | _ :: _, [], _, _, hf => by simp [fitCVs] at hf
  | [], [], _ :: _, hx, _ => by simp only [ARs] at hx
  | _ :: _, _ :: _, [], hx, _ => by simp only [ARs] at hx

/-- The results, as one value. -/
theorem fitRes_R (h : Sim C σ a w ι Fs) {c : CV} {xs : List AV} {vs : List Value} (hx : ARs w (Un C w Fs) σ.o ι xs vs) (hf : (fitRes σ.o c xs).1) :
    CR w (Un C w Fs) c (if h : vs.toArray.size = 1 then vs.toArray[0] else .tuple vs.toArray) ((fitRes σ.o c xs).2.flatMap Fs) := by
  unfold fitRes at hf ⊢
  split at hf
  · cases vs with
    | nil => obtain ⟨r1, _⟩ := fitCVs_R h hx hf; simp only [CR]; exact ⟨#[], by simp, by simpa using r1⟩
    | cons => simp only [ARs] at hx
  · rename_i cs x y xs
    match vs, hx with
    | v :: u :: vs, hx =>
      obtain ⟨r1, _⟩ := fitCVs_R h hx hf
      simp only [CR]
      exact ⟨(v :: u :: vs).toArray, by simp, by simpa using r1⟩
    | [], hx => simp only [ARs] at hx
    | [v], hx => simp only [ARs] at hx; exact hx.2.elim
  · rename_i c x _
    match vs, hx with
    | [v], hx =>
      simp only [ARs] at hx
      obtain ⟨r1, _⟩ := fitCV_R h hx.1 hf
      simpa using r1
    | [], hx => simp only [ARs] at hx
    | _ :: _ :: _, hx => simp only [ARs] at hx; exact hx.2.elim
  · exact hf.elim

theorem outCells_R (h : Sim C σ a w ι Fs) : ∀ {qs : List PV} {xs : List AV} {vs : List Value} {ps : List PV} {l : List Nat}, ARs w (Un C w Fs) σ.o ι xs vs → (∀ x ∈ vs, x.oneCell' = true) → outCells σ.o qs xs = some (ps, l) → Rs w (Un C w Fs) ps vs (l.flatMap Fs) ∧ ∀ g, g ∈ l → σ.o g ≠ .none
  | [], [], [], ps, l, _, _, hc => by simp [outCells] at hc; obtain ⟨rfl, rfl⟩ := hc; simp [Rs]
  | q :: qs, x :: xs, v :: vs, ps, l, hx, h1, hc => by
    simp only [ARs] at hx
    simp only [outCells] at hc
    split at hc
    · rename_i p l1 ps' l2 e3 e4
      cases hc
      obtain ⟨r1, r2⟩ := outCells_R h hx.2 (fun y hy => h1 y (by simp [hy])) e4
      have hv := h1 v (by simp)
      have key : R w (Un C w Fs) p v (l1.flatMap Fs) ∧ ∀ g, g ∈ l1 → σ.o g ≠ .none := by
        unfold outCell at e3
        split at e3
        · cases e3; exact ⟨by simp only [R]; exact ⟨⟨hv, oneCell_cells hv⟩, rfl⟩, by simp⟩
        · exact toPV_R h (Agr.refl _) hx.1 e3
      refine ⟨by simp only [Rs, List.flatMap_append]; exact ⟨_, _, key.1, r1, rfl⟩, fun g hg => ?_⟩
      rcases List.mem_append.1 hg with hg | hg
      · exact key.2 g hg
      · exact r2 g hg
    · cases hc
  | [], _ :: _, _, _, _, _, _, hc => by simp [outCells] at hc
  | _ :: _, [], _, _, _, _, _, hc => by simp [outCells] at hc
  | [], [], _ :: _, _, _, hx, _, _ => by simp only [ARs] at hx
  | _ :: _, _ :: _, [], _, _, hx, _, _ => by simp only [ARs] at hx

theorem outCV_R (h : Sim C σ a w ι Fs) {c o : CV} {x : AV} {v : Value} {l : List Nat} (hx : c ≠ .any → AR w (Un C w Fs) σ.o ι x v) (h1 : ∀ qs, c = .agg qs → ∀ vs, v = .agg vs → ∀ y ∈ vs.toList, y.oneCell' = true) (hc : outCV σ.o c x = some (o, l)) :
    CR w (Un C w Fs) o v (l.flatMap Fs) ∧ ∀ g, g ∈ l → σ.o g ≠ .none := by
  unfold outCV at hc
  split at hc
  · cases hc; simp [CR]
  · rename_i ps o'
    have hx := hx (by simp)
    split at hc
    · rename_i cs ho
      split at hc
      · rename_i ps' l' e
        cases hc
        obtain ⟨_, k, hk, hv⟩ := agr_box (Agr.refl _) hx ho
        obtain ⟨vals, ty, hh, hm, hr, hone, hF⟩ := box_mem h ho hk
        obtain ⟨r1, r2⟩ := toPVs_R h (Agr.refl _) hr e
        refine ⟨by simp only [CR]; exact ⟨k, vals, ty, _, hv, hh, hone, r1, by simp [hF]⟩, fun g hg => ?_⟩
        rcases List.mem_cons.1 hg with rfl | hg
        · rw [ho]; simp
        · exact r2 g hg
      · cases hc
    · cases hc
  · rename_i qs cs
    have hx := hx (by simp)
    split at hc
    · rename_i ps l' e
      cases hc
      simp only [AR] at hx
      obtain ⟨vs, rfl, hs⟩ := hx
      obtain ⟨r1, r2⟩ := outCells_R h hs (h1 _ rfl vs rfl) e
      exact ⟨by simp only [CR]; exact ⟨vs, rfl, r1⟩, r2⟩
    · cases hc
  · rename_i p
    have hx := hx (by simp)
    split at hc
    · rename_i p' l' e
      cases hc
      obtain ⟨r1, r2⟩ := toPV_R h (Agr.refl _) hx e
      exact ⟨by simp only [CR]; exact r1, r2⟩
    · cases hc
  · cases hc

theorem outCVs_R (h : Sim C σ a w ι Fs) : ∀ {cs os : List CV} {vs : List Value} {i : Nat} {l : List Nat}, cs.length = vs.length → (∀ (j : Nat) c v, cs[j]? = some c → vs[j]? = some v → c ≠ .any → a.tmps.getD (i + j) undef = v) →
    (∀ (j : Nat) qs v, cs[j]? = some (CV.agg qs) → vs[j]? = some v → ∀ us, v = .agg us → ∀ y ∈ us.toList, y.oneCell' = true) → outCVs σ i cs = some (os, l) → CRs w (Un C w Fs) os vs (l.flatMap Fs) ∧ ∀ g, g ∈ l → σ.o g ≠ .none
  | [], os, [], i, l, _, _, _, hc => by simp [outCVs] at hc; obtain ⟨rfl, rfl⟩ := hc; simp [CRs]
  | c :: cs, os, v :: vs, i, l, hl, ht, h1, hc => by
    simp only [outCVs] at hc
    split at hc
    · rename_i o l1 os' l2 e1 e2
      cases hc
      obtain ⟨r1, r2⟩ := outCV_R h (c := c) (x := σ.t i) (v := v) (fun hne => by have := ht 0 c v rfl rfl hne; rw [Nat.add_zero] at this; rw [← this]; exact h.tm i) (fun qs hq => by subst hq; exact h1 0 qs v rfl rfl) e1
      obtain ⟨s1, s2⟩ := outCVs_R h (i := i + 1) (by simpa using hl) (fun j c' v' hc' hv' hne => by have := ht (j + 1) c' v' (by simpa using hc') (by simpa using hv') hne; rwa [show i + (j + 1) = i + 1 + j by omega] at this) (fun j qs v' hj hv' => h1 (j + 1) qs v' (by simpa using hj) (by simpa using hv')) e2
      refine ⟨by simp only [CRs, List.flatMap_append]; exact ⟨_, _, r1, s1, rfl⟩, fun g hg => ?_⟩
      rcases List.mem_append.1 hg with hg | hg
      · exact r2 g hg
      · exact s2 g hg
    · cases hc
  | [], _, _ :: _, _, _, hl, _, _, _ => by simp at hl
  | _ :: _, _, [], _, _, hl, _, _, _ => by simp at hl

theorem outsOk_lt {m : Nat} : ∀ {cs : List CV} {i : Nat}, outsOk m i cs = true → ∀ (j : Nat) c, cs[j]? = some c → c ≠ .any → i + j < m
  | [], i, _, j, c, hj, _ => by simp at hj
  | c0 :: cs, i, h, j, c, hj, hne => by
    have hrest : outsOk m (i + 1) cs = true := by
      cases c0 <;> simp [outsOk] at h <;> first | exact h | exact h.2
    cases j with
    | zero =>
      simp at hj
      subst hj
      cases c0 <;> simp [outsOk] at h <;> first | exact absurd rfl hne | omega
    | succ j =>
      have := outsOk_lt hrest j c (by simpa using hj) hne
      omega

theorem CRs_agg {U : Nat → Prop} : ∀ {cs : List CV} {vs : List Value} {F : List Nat}, CRs w U cs vs F → ∀ (j : Nat) c v, cs[j]? = some c → vs[j]? = some v → ∃ F', CR w U c v F'
  | [], [], _, _, j, c, v, hj, _ => by simp at hj
  | c0 :: cs, v0 :: vs, F, h, j, c, v, hj, hv => by
    simp only [CRs] at h
    obtain ⟨F1, F2, h1, h2, _⟩ := h
    cases j with
    | zero => simp at hj hv; subst hj hv; exact ⟨F1, h1⟩
    | succ j => exact CRs_agg h2 j c v (by simpa using hj) (by simpa using hv)
  | [], _ :: _, _, h, _, _, _, _, _ => by simp only [CRs] at h
  | _ :: _, [], _, h, _, _, _, _, _ => by simp only [CRs] at h

theorem CRs_length {U : Nat → Prop} : ∀ {cs : List CV} {vs : List Value} {F : List Nat}, CRs w U cs vs F → cs.length = vs.length
  | [], [], _, _ => rfl
  | c0 :: cs, v0 :: vs, F, h => by
    simp only [CRs] at h
    obtain ⟨F1, F2, h1, h2, _⟩ := h
    simp [CRs_length h2]
  | [], _ :: _, _, h => by simp only [CRs] at h
  | _ :: _, [], _, h => by simp only [CRs] at h

theorem Rs_oneCell' {U : Nat → Prop} : ∀ {ps : List PV} {vs : List Value} {F : List Nat}, Rs w U ps vs F → ∀ y ∈ vs, y.oneCell' = true
  | [], [], _, _, y, hy => by cases hy
  | p :: ps, v :: vs, F, h, y, hy => by
    simp only [Rs] at h
    obtain ⟨F1, F2, h1, h2, _⟩ := h
    rcases List.mem_cons.1 hy with rfl | hy
    · exact (R_oneCell h1).1
    · exact Rs_oneCell' h2 y hy
  | [], _ :: _, _, h, _, _ => by simp only [Rs] at h
  | _ :: _, [], _, h, _, _ => by simp only [Rs] at h

/-- By-value structs among the arguments are told cell by cell. -/
def aggsOk : List CV → List CV → Bool
  | [], [] => true
  | c :: cs, .agg _ :: os => (match c with | .agg _ => true | _ => false) && aggsOk cs os
  | _ :: cs, _ :: os => aggsOk cs os
  | _, _ => false

theorem aggsOk_get : ∀ {cs os : List CV}, aggsOk cs os = true → ∀ (j : Nat) qs, os[j]? = some (.agg qs) → ∃ ps, cs[j]? = some (.agg ps)
  | [], [], _, j, qs, hj => by simp at hj
  | c :: cs, o :: os, h, j, qs, hj => by
    cases j with
    | zero =>
      simp at hj
      subst hj
      simp only [aggsOk, Bool.and_eq_true] at h
      cases c <;> simp at h
      exact ⟨_, rfl⟩
    | succ j =>
      have : aggsOk cs os = true := by
        cases o <;> simp only [aggsOk, Bool.and_eq_true] at h <;> first | exact h.2 | exact h
      exact aggsOk_get this j qs (by simpa using hj)
  | [], _ :: _, h, _, _, _ => by simp [aggsOk] at h
  | _ :: _, [], h, _, _, hj => by simp at hj

theorem Later.ofU {U U' : Nat → Prop} {O : Nat → AObj} (hU : ∀ k, U k → U' k) : Later w w U U' O O ι ι :=
  ⟨hU, fun _ _ => rfl, fun o => by
    cases hO : O o with
    | none => exact .inl rfl
    | dead => exact .inr (.inl rfl)
    | box c => exact .inr (.inr (.inl ⟨c, c, rfl, rfl, rfl⟩))
    | arr g1 e1 s1 n1 c => exact .inr (.inr (.inr (.inl ⟨g1, e1, s1, n1, c, g1, e1, s1, n1, c, rfl, rfl, rfl, Nat.le_refl _, fun _ off hi => ⟨hi, fun _ _ => rfl⟩⟩)))
    | mp Q => exact .inr (.inr (.inr (.inr ⟨Q, Q, rfl, rfl, rfl⟩)))⟩

/-- A function keeps its contract if its body, from its arguments, comes to its results. -/
theorem FnW.of_AW (hT : TyOK P T) {f : Nat} {fn : Func} {c : Code} {cargs outs : List CV} {cres : CV} (m : Nat) (hf : P.funcs[f]? = some fn) (hb : fn.body = some c) (hname : (fn.name == "runtime.NumGoroutine") = false)
    {rs : List ResultVar} (hrs : fn.results.toList = rs) {N : Nat} (hN : fn.ntmps = N)
    (hn : (decide (cargs.length ≤ N) && decide (cargs.length = outs.length) && cargs.all argSmall && outsOk m 0 outs && aggsOk cargs outs) = true) (h : AW P (m, N) c (mkE (argsAV 0 cargs) (argsO 0 cargs)) (fnK T rs cres outs)) : FnW P f cargs cres outs := by
  subst hrs hN
  simp only [Bool.and_eq_true, decide_eq_true_eq] at hn
  obtain ⟨⟨⟨⟨hn, hlo⟩, hsml⟩, hom⟩, hagg⟩ := hn
  refine ⟨⟨fn, hf, by rw [hb]; rfl, hname⟩, fun w V vals F hargs hF hV hFs => ?_⟩
  have hlen : cargs.length = vals.length := CRs_length hargs
  refine calls_of_wp hf hb ?_
  let C : Ctx := ⟨w, V, fun k => k ∈ F, (m, fn.ntmps), fun i => vals.getD i undef⟩
  obtain ⟨L, G, c0, hGF, hGn⟩ := argsAV_R (k := 0) hargs hsml
  let ι0 : Nat → Value := fun o => match find0 L o with | some e => e.val | none => undef
  let Fs0 : Nat → List Nat := fun o => match find0 L o with | some e => e.fp | none => []
  have hFe : ∀ e, e ∈ L → Fs0 e.name = e.fp := fun e he => by show (match find0 L e.name with | some e => e.fp | none => []) = _; rw [find0_mem c0.nd he]
  have hFn : ∀ o, o ∉ L.map Obj0.name → Fs0 o = [] := fun o ho => by
    show (match find0 L o with | some e => e.fp | none => []) = _
    cases hf0 : find0 L o with
    | none => rfl
    | some e => obtain ⟨h1, h2⟩ := find0_some hf0; exact absurd (h2 ▸ List.mem_map_of_mem h1) ho
  have hin : ∀ o k, k ∈ Fs0 o → ∃ e, e ∈ L ∧ e.name = o ∧ k ∈ e.fp := fun o k hk => by
    by_cases ho : o ∈ L.map Obj0.name
    · obtain ⟨e, he, rfl⟩ := List.mem_map.1 ho
      rw [hFe e he] at hk; exact ⟨e, he, rfl, hk⟩
    · rw [hFn o ho] at hk; cases hk
  have hG : ∀ o k, k ∈ Fs0 o → k ∈ F := fun o k hk => by
    obtain ⟨e, he, _, hk⟩ := hin o k hk
    exact hGF k (by rw [← c0.fp]; exact List.mem_flatMap.2 ⟨e, he, hk⟩)
  have hGnd := hGn hF
  rw [← c0.fp] at hGnd
  have hU : ∀ k, V k → Un C w Fs0 k := fun k hk => ⟨(hV k hk).1, .inl hk, fun o ho => (hV k hk).2 (hG o k ho)⟩
  have hAt : At0 (mkE (argsAV 0 cargs) (argsO 0 cargs)).o ι0 L := fun e he => by
    refine ⟨?_, ?_⟩
    · show lookO e.name (argsO 0 cargs) = e.ob
      rw [← c0.os]; exact look0 c0.nd e he
    · show (match find0 L e.name with | some e => e.val | none => undef) = _
      rw [find0_mem c0.nd he]
  -- footprints
  have hfpn : ∀ e, e ∈ L → e.fp.Nodup := by
    intro e he
    clear hU hAt hG hin hFn hFe hGF hGn h
    have := hGnd
    clear hGnd
    clear c0
    induction L with
    | nil => cases he
    | cons y L ih =>
      simp only [List.flatMap_cons, List.nodup_append] at this
      rcases List.mem_cons.1 he with rfl | he
      · exact this.1
      · exact ih he this.2.1
  have hfpd : ∀ e1 e2, e1 ∈ L → e2 ∈ L → e1.name ≠ e2.name → ∀ k, k ∈ e1.fp → k ∉ e2.fp := by
    intro e1 e2 he1 he2 hne k h1 h2
    have := hGnd
    clear hU hAt hG hin hFn hFe hGF hGn h hGnd c0 hfpn
    induction L with
    | nil => cases he1
    | cons y L ih =>
      simp only [List.flatMap_cons, List.nodup_append] at this
      rcases List.mem_cons.1 he1 with hm1 | hm1 <;> rcases List.mem_cons.1 he2 with hm2 | hm2
      · exact hne (by rw [hm1, hm2])
      · subst hm1; exact this.2.2 k h1 k (List.mem_flatMap.2 ⟨e2, hm2, h2⟩) rfl
      · subst hm2; exact this.2.2 k h2 k (List.mem_flatMap.2 ⟨e1, hm1, h1⟩) rfl
      · exact ih hm1 hm2 this.2.1
  have hS : Sim C (mkE (argsAV 0 cargs) (argsO 0 cargs)) { tmps := vals.toArray ++ Array.replicate (fn.ntmps - vals.toArray.size) undef, defers := [] } w ι0 Fs0 := by
    have eT : ∀ i, (vals.toArray ++ Array.replicate (fn.ntmps - vals.toArray.size) undef).getD i undef = vals.getD i undef := fun i => by
      simp only [Array.getD_eq_getD_getElem?, List.getD_eq_getElem?_getD]
      by_cases hi : i < vals.length
      · rw [Array.getElem?_append_left (by simpa using hi)]; simp
      · rw [Array.getElem?_append_right (by simpa using hi), List.getElem?_eq_none (by omega), Array.getElem?_replicate]
        split <;> rfl
    refine ⟨⟨rfl, rfl, rfl, Nat.le_refl _, fun _ _ _ => rfl⟩, fun i => ?_, fun o => ?_, fun o o' hne b hb hb' => ?_, fun o => ?_, fun o b hb => ?_, rfl, ?_, fun i _ => eT i⟩
    · have := c0.ok _ _ hAt i
      rw [if_neg (by omega), Nat.sub_zero] at this
      rw [eT]
      exact AR_later (Later.ofU hU) _ _ this
    · by_cases ho : o ∈ L.map Obj0.name
      · obtain ⟨e, he, rfl⟩ := List.mem_map.1 ho
        have := c0.ob _ _ hAt e he
        rw [hFe e he, (hAt e he).1, (hAt e he).2]
        exact ObR_later (Later.ofU hU) this (fun _ _ => rfl)
      · have : (mkE (argsAV 0 cargs) (argsO 0 cargs)).o o = .none := by
          show lookO o (argsO 0 cargs) = .none
          rw [← c0.os]; exact look0_none ho
        rw [this]; exact trivial
    · obtain ⟨e1, he1, rfl, h1⟩ := hin o b hb
      obtain ⟨e2, he2, rfl, h2⟩ := hin o' b hb'
      exact hfpd e1 e2 he1 he2 hne b h1 h2
    · by_cases ho : o ∈ L.map Obj0.name
      · obtain ⟨e, he, rfl⟩ := List.mem_map.1 ho
        rw [hFe e he]; exact hfpn e he
      · rw [hFn o ho]; exact List.nodup_nil
    · exact ⟨hFs b (hG o b hb), .inr (hG o b hb)⟩
    · simp only [Array.size_append, List.size_toArray, Array.size_replicate]
      show _ = fn.ntmps
      omega
  refine h C _ w _ rfl ⟨_, _, hS⟩ (fun e σ' a' w' hk hP => ?_)
  have hne : ∀ id, e ≠ .exit id := fun id he => by subst he; exact hk
  have hres : resOk T fn.results.toList σ' cres outs := by cases e with
    | normal => exact hk
    | exit id => exact absurd rfl (hne id)
    | ret => exact hk
  obtain ⟨ι', Fs', hS'⟩ := hP
  unfold resOk at hres
  split at hres
  · rename_i avs havs
    split at hres
    · rename_i os gone' hos
      obtain ⟨hfit, hnd, rfl⟩ := hres
      obtain ⟨vs, hvs, hars⟩ := resAVs_run hT hS' havs
      have hcr := fitRes_R hS' hars hfit
      generalize (fitRes σ'.o cres avs).2 = gone at hcr hnd
      obtain ⟨hco, hgone2⟩ := outCVs_R hS' (vs := vals) (i := 0) (by rw [← hlo]; exact hlen) (fun j c v hj hv hne => by
          have hlt := outsOk_lt hom j c hj hne
          rw [hS'.kp (0 + j) hlt]
          show vals.getD (0 + j) undef = v
          rw [Nat.zero_add, List.getD_eq_getElem?_getD, hv]; rfl) (fun j qs v hj hv us he y hy => by
            obtain ⟨ps, hcj⟩ := aggsOk_get hagg j qs hj
            obtain ⟨F', hcr'⟩ := CRs_agg hargs j _ v hcj hv
            subst he
            simp only [CR] at hcr'
            obtain ⟨us', e', hr⟩ := hcr'
            cases e'
            exact Rs_oneCell' hr y hy) hos
      have hrun : (results fn a'.tmps).run P w' = .ok (if h : vs.toArray.size = 1 then vs.toArray[0] else .tuple vs.toArray) w' := by
        rw [results_eq]
        have : (fn.results.mapM (readRes a'.tmps)).run P w' = .ok vs.toArray w' := by
          rw [Array.mapM_eq_mapM_toList]
          simp [hvs]
        simp [this]
      have hnd2 : ((gone.flatMap Fs') ++ (gone'.flatMap Fs')).Nodup := by
        have := gone_nodup hS' hnd
        rwa [List.flatMap_append] at this
      have hU' : ∀ k, Un C w' Fs' k → k < w'.heap.size ∧ (V k ∨ w.heap.size ≤ k ∨ k ∈ F) ∧ k ∉ (gone.flatMap Fs') ++ (gone'.flatMap Fs') := by
        intro k hk
        refine ⟨hk.1, ?_, fun hm => ?_⟩
        · rcases hk.2.1 with h1 | h1 | h1
          · exact .inl h1
          · exact .inr (.inr h1)
          · exact .inr (.inl h1)
        · rw [← List.flatMap_append] at hm
          obtain ⟨g, _, hkg⟩ := List.mem_flatMap.1 hm
          exact hk.2.2 g hkg
      have hfin : a'.defers = [] ∧ ∃ v, (results fn a'.tmps).run P w' = .ok v w' ∧ ∃ u Fr Fo, Ending.returned v = .returned u ∧ GrownF w w' F ∧
          CR w' (fun k => k < w'.heap.size ∧ (V k ∨ w.heap.size ≤ k ∨ k ∈ F) ∧ k ∉ Fr ++ Fo) cres u Fr ∧ CRs w' (fun k => k < w'.heap.size ∧ (V k ∨ w.heap.size ≤ k ∨ k ∈ F) ∧ k ∉ Fr ++ Fo) os vals Fo ∧ (Fr ++ Fo).Nodup ∧
          ∀ k, k ∈ Fr ++ Fo → k < w'.heap.size ∧ (w.heap.size ≤ k ∨ k ∈ F) := by
        refine ⟨hS'.df, _, hrun, _, gone.flatMap Fs', gone'.flatMap Fs', rfl, ?_, ?_, CRs_U hU' _ _ _ hco, hnd2, ?_⟩
        · have hk := hS'.kept
          exact ⟨hk.os, hk.tape, hk.output, hk.size, fun k hk1 hk2 => hk.block k hk1 hk2⟩
        · exact CR_U hU' _ _ _ hcr
        · intro k hk
          rw [← List.flatMap_append] at hk
          obtain ⟨g, hg, hkg⟩ := List.mem_flatMap.1 hk
          have := hS'.own g k hkg
          exact ⟨this.1, by rcases this.2 with h1 | h1; exact .inl h1; exact .inr h1⟩
      cases e with
      | normal => exact hfin
      | exit id => exact absurd rfl (hne id)
      | ret => exact hfin
    · cases hres
  · cases hres

end
end Am
