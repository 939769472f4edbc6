/- A region whose order is drawn: sound. No condition. -/
import Derived.Test.YtlkkgdealgceeaaAm18
namespace Am
open Go
set_option linter.unusedSimpArgs false
set_option linter.unusedVariables false
set_option linter.unnecessarySimpa false

section
variable {P : Program} {T : Ty} {mv : Bool} {H : Hints} {ops : Array Oper} {C : Ctx} {σ σ' : AEnv} {a : Act} {w : World} {ι : Nat → Value} {Fs : Nat → List Nat} {τ : Nat → AObj} {o : Oper}

theorem bnd_congr {ρ ρ' : Operand → AV} {lo : Option Operand} (h : ∀ x ∈ lo.toArray, ρ x = ρ' x) (d : Int) : bnd ρ d lo = bnd ρ' d lo := by
  cases lo with
  | none => rfl
  | some l => simp only [bnd]; rw [h l (by simp)]

theorem astep_congr {ρ ρ' : Operand → AV} (o : Oper) (h : ∀ x ∈ o.op.operands, ρ x = ρ' x) : astep T mv ρ τ o = astep T mv ρ' τ o := by
  obtain ⟨dst, op, type, pos, after, guard⟩ := o
  cases op <;> simp only [Op.operands] at h <;> simp only [astep]
  case build t ps =>
    have : ∀ fs, ps.toList.map (part1 T ρ τ fs) = ps.toList.map (part1 T ρ' τ fs) := fun fs =>
      List.map_congr_left fun p hp => by
        unfold part1
        rw [h p.2 (by simp only [List.mem_toArray, List.mem_map]; exact ⟨p, hp, rfl⟩)]
    simp only [this]
  case buildSlice t n ps =>
    have : ∀ k, ps.toList.map (partS ρ τ k) = ps.toList.map (partS ρ' τ k) := fun k =>
      List.map_congr_left fun p hp => by
        unfold partS
        rw [h p.2 (by simp only [List.mem_toArray, List.mem_map]; exact ⟨p, hp, rfl⟩)]
    simp only [this]
  case makeFunc fn first caps =>
    have : caps.toList.map ρ = caps.toList.map ρ' := List.map_congr_left fun x hx => h x (by simp only [Array.mem_append]; exact .inr (by simpa using hx))
    generalize caps.toList = l at this
    unfold amake
    split
    · rw [this]
    · rfl
  case call c =>
    obtain ⟨callee, args, tys⟩ := c
    cases callee with
    | value f => rfl
    | invoke r m => rfl
    | builtin b =>
      simp only
      have : args.toList.map ρ = args.toList.map ρ' := List.map_congr_left fun x hx => h x (by simp [Call.operands]; simpa using hx)
      rw [this]
  case slice t x lo hi mx =>
    have hx : ρ x = ρ' x := h x (by simp)
    have hl := fun d => bnd_congr (ρ := ρ) (ρ' := ρ') (lo := lo) (fun y hy => h y (by simp only [Array.mem_append]; exact .inl (.inl (.inr hy)))) d
    have hh := fun d => bnd_congr (ρ := ρ) (ρ' := ρ') (lo := hi) (fun y hy => h y (by simp only [Array.mem_append]; exact .inl (.inr hy))) d
    cases mx with
    | some m => rfl
    | none =>
      simp only [hx, hl, hh]
      cases hi with
      | none => cases lo <;> cases dst <;> cases T.lookup t <;> (first | rfl | skip) <;> (repeat' split) <;> (first | rfl | (simp_all; done) | (simp_all; rename_i hx; exact hx _ Iff.rfl) | (simp_all; rename_i hx hy; exact hx _ Iff.rfl))
      | some hi' =>
        have := h hi' (by simp)
        cases lo <;> cases dst <;> cases T.lookup t <;> (first | rfl | skip) <;> (repeat' split) <;> (first | rfl | (simp_all; done) | (simp_all; rename_i hx; exact hx _ Iff.rfl) | (simp_all; rename_i hx hy; exact hx _ Iff.rfl))
  all_goals (first | rfl | (simp_all; done) | (simp_all; rename_i hx; exact hx _ Iff.rfl) | (simp_all; rename_i hx hy; exact hx _ Iff.rfl))

theorem sides_congr {ρ ρ' : Operand → AV} : ∀ {xs : List Operand}, (∀ x ∈ xs, ρ x = ρ' x) → sides ρ xs → sides ρ' xs
  | [], _, _ => trivial
  | x :: xs, h, hs => by
    simp only [sides] at hs ⊢
    exact ⟨by rw [← h x (by simp)]; exact hs.1, sides_congr (fun y hy => h y (by simp [hy])) hs.2⟩

theorem StepR_congr {ρ ρ' : Operand → AV} {o : Oper} {v : AV} {oe : List (Nat × AObj)} (h : ∀ x ∈ o.op.operands, ρ x = ρ' x) (hs : StepR P T H ρ τ o v oe) : StepR P T H ρ' τ o v oe := by
  cases hs with
  | op he hsd => exact .op (by rw [← astep_congr o h]; exact he) hsd
  | call ho hx hd hc =>
    rename_i x s f d cap args ts cres b1 b2
    have h' : ∀ x ∈ args.toList, ρ x = ρ' x := fun x hx => h x (by rw [ho]; simp [Op.operands, Call.operands]; exact .inr (by simpa using hx))
    have hx' : ρ x = ρ' x := h x (by rw [ho]; simp [Op.operands, Call.operands])
    have e : (args.toList.map fun x => (ρ x).ug.2) = args.toList.map fun x => (ρ' x).ug.2 := List.map_congr_left fun x hx => by rw [h' x hx]
    refine .call (s := s) (f := f) (cap := cap) ho (by unfold calleeOf at hx ⊢; rw [← hx']; exact hx) hd ⟨⟨hc.sd.1, sides_congr h' hc.sd.2⟩, ?_, hc.sm, hc.sm2, hc.gh, hc.fr, hc.fr2⟩
    rw [← e]
    exact hc.ar

theorem aguard_congr {t t' : Nat → AV} {j : Nat} {want : Bool} (h : ∀ d, (ops[j]?).bind (·.dst) = some d → t d = t' d) : aguard ops t j want = aguard ops t' j want := by
  unfold aguard
  split
  · rename_i d hd
    rw [h d hd]
  · rfl

theorem SG_congr {v : AV} {oe : List (Nat × AObj)} (h : ∀ d ∈ o.looksAt ops, σ.t d = σ'.t d) (hs : SG P T H ops σ τ o v oe) : SG P T H ops σ' τ o v oe := by
  have hev : ∀ x ∈ o.op.operands, ev σ x = ev σ' x := fun x hx => by
    cases x with
    | tmp t => simp only [ev]; exact h t (by simp only [Oper.looksAt, List.mem_append, List.mem_filterMap]; exact .inl ⟨.tmp t, by simpa using hx, rfl⟩)
    | _ => rfl
  have hgd : ∀ j want, o.guard = some (j, want) → aguard ops σ.t j want = aguard ops σ'.t j want := fun j want hg =>
    aguard_congr fun d hd => h d (by simp only [Oper.looksAt, List.mem_append, hg, hd]; exact .inr (by simp))
  cases hs with
  | run hg hr =>
    refine .run ?_ (StepR_congr hev hr)
    rcases hg with hg | ⟨j, want, hg, hga⟩
    · exact .inl hg
    · exact .inr ⟨j, want, hg, by rw [← hgd j want hg]; exact hga⟩
  | off hg hga => exact .off hg (by rw [← hgd _ _ hg]; exact hga)
  | mrg hg hga hr => exact .mrg hg (by rw [← hgd _ _ hg]; exact hga) (fun e => StepR_congr hev (hr e))

def Closed (ops : Array Oper) (S : Nat → Bool) : Prop := ∀ j o, ops[j]? = some o → S j = true → ∀ e ∈ o.after, Region.binds .any e = true → S e.on = true

theorem befMask_spec {acc : List Nat} {k : Nat} : ∀ {l : List Edge} {m : Nat}, (befMask acc l m).testBit k = true → m.testBit k = true ∨ ∃ e, e ∈ l ∧ (k = e.on ∨ (acc.getD e.on 0).testBit k = true)
  | [], m, h => .inl h
  | e :: r, m, h => by
    simp only [befMask] at h
    rcases befMask_spec h with h1 | ⟨e', h1, h2⟩
    · rw [Nat.testBit_or, Nat.testBit_or, Bool.or_eq_true, Bool.or_eq_true, Nat.testBit_two_pow, decide_eq_true_eq] at h1
      rcases h1 with (h1 | h1) | h1
      · exact .inl h1
      · exact .inr ⟨e, by simp, .inl h1.symm⟩
      · exact .inr ⟨e, by simp, .inr h1⟩
    · exact .inr ⟨e', by simp [h1], h2⟩

theorem befGo_spec : ∀ (l : List Oper) (acc : List Nat), (∀ j, l[j]? = ops[acc.length + j]?) →
    (∀ j bl, acc[j]? = some bl → (∀ S, Closed ops S → S j = true → ∀ k, bl.testBit k = true → S k = true)) →
    ∀ j bl, (befGo l acc)[j]? = some bl → (∀ S, Closed ops S → S j = true → ∀ k, bl.testBit k = true → S k = true)
  | [], acc, _, h => h
  | o :: r, acc, hl, h => by
    have h0 : ops[acc.length]? = some o := by simpa using (hl 0).symm
    simp only [befGo]
    refine befGo_spec r _ (fun j => ?_) (fun j bl hj S hc hs k hk => ?_)
    · have := hl (j + 1)
      rw [List.length_append, List.length_singleton, show acc.length + 1 + j = acc.length + (j + 1) by omega]
      simpa using this
    · by_cases hlt : j < acc.length
      · rw [List.getElem?_append_left hlt] at hj
        exact h j bl hj S hc hs k hk
      · by_cases he : j = acc.length
        · subst he
          rw [List.getElem?_append_right (Nat.le_refl _)] at hj
          simp at hj
          subst hj
          rcases befMask_spec hk with hk | ⟨e, hem, hk⟩
          · simp at hk
          · obtain ⟨he1, he2⟩ := List.mem_filter.1 hem
            have hSe := hc _ o h0 hs e (by simpa using he1) he2
            rcases hk with rfl | hk
            · exact hSe
            · cases hg : acc[e.on]? with
              | none => simp [List.getD, hg] at hk
              | some bl' =>
                simp only [List.getD, hg, Option.getD_some] at hk
                exact h e.on bl' hg S hc hSe k hk
        · rw [List.getElem?_append_right (by omega)] at hj
          have : j - acc.length ≥ 1 := by omega
          rw [List.getElem?_eq_none (by simpa using this)] at hj
          cases hj

theorem befs_spec {S : Nat → Bool} (hc : Closed ops S) {j k : Nat} (hs : S j = true) (hk : ((befs ops).getD j 0).testBit k = true) : S k = true := by
  cases hg : (befs ops)[j]? with
  | none => simp [List.getD, hg] at hk
  | some bl =>
    simp only [List.getD, hg, Option.getD_some] at hk
    exact befGo_spec ops.toList [] (by simp) (by simp) j bl hg S hc hs k hk


def lst (listed : Array Bool) (k : Nat) : Bool := listed.getD k false

theorem drawOk_one {N : Nat × Nat} {hs : List DH} (h : drawOk N ops hs = true) {j : Nat} {o : Oper} (hj : ops[j]? = some o) : oneOk N ops hs j = true ∧ ∀ k, k < ops.size → unordered (befs ops) j k = true → pairOk ops hs j k = true := by
  simp only [drawOk, Bool.and_eq_true, List.all_eq_true, List.mem_range, Bool.or_eq_true, Bool.not_eq_true'] at h
  have hlt : j < ops.size := (Array.getElem?_eq_some_iff.1 hj).1
  obtain ⟨h1, h2⟩ := h.2 j hlt
  refine ⟨h1, fun k hk hu => ?_⟩
  rcases h2 k hk with h3 | h3
  · rw [hu] at h3; cases h3
  · exact h3

theorem befs_lt {N : Nat × Nat} {hs : List DH} (h : drawOk N ops hs = true) {j k : Nat} (hj : j < ops.size) (hk : ((befs ops).getD j 0).testBit k = true) : k < j ∨ k = j := by
  -- the set of all that are not behind j is closed
  have hc : Closed ops (fun x => decide (x ≤ j)) := by
    intro x o hx hS e he hb
    have h1 := (drawOk_one h hx).1
    simp only [oneOk, hx] at h1
    split at h1
    · rename_i o' h' e1 e2
      cases e1
      simp only [Bool.and_eq_true, List.all_eq_true] at h1
      have := h1.1 e (by simpa using he)
      simp only [hb, Bool.not_true, Bool.false_or, decide_eq_true_eq] at this hS ⊢
      omega
    · cases h1
  have := befs_spec hc (j := j) (by simp) hk
  simp at this
  omega

theorem draw_inv (hT : TyOK P T) {hs : List DH} (hok : drawOk C.N ops hs = true) {L : List Eft} (htr : Tr P T H ops (ops.toList.zip hs) σ L) {Q : Exit → Act → World → Prop}
    (hQ : ∀ a w, Post C (appL L σ) a w → Q .normal a w) :
    ∀ (fuel : Nat) (listed : Array Bool) (a : Act) (w : World), listed.size = ops.size → (∃ l : List Nat, l.length ≤ fuel ∧ ∀ i, i < ops.size → lst listed i = false → i ∈ l) →
      Closed ops (lst listed) → Post C (appS (lst listed) L 0 σ) a w → wpAny P .any ops Q fuel listed a w := by
  have hlen : hs.length = ops.size := by
    simp only [drawOk, Bool.and_eq_true, beq_iff_eq] at hok; exact hok.1
  have hL : L.length = ops.size := by rw [Tr_length htr]; simp [hlen]
  have done : ∀ (listed : Array Bool) (a : Act) (w : World), (∀ i, i < ops.size → lst listed i = true) → Post C (appS (lst listed) L 0 σ) a w → Q .normal a w := by
    intro listed a w hall hP
    rw [appS_all L 0 σ (fun k _ hk => hall k (by omega))] at hP
    exact hQ a w hP
  have unlisted : ∀ (listed : Array Bool) (i : Nat), listed.size = ops.size → i < ops.size → (listed.getD i true = false ↔ lst listed i = false) := by
    intro listed i hs hi
    unfold lst
    have : i < listed.size := by omega
    simp [Array.getD, this]
  have allof : ∀ (listed : Array Bool), listed.size = ops.size → Region.ready .any ops listed = [] → ∀ i, i < ops.size → lst listed i = true := by
    intro listed hsz hr i
    induction i using Nat.strongRecOn with
    | _ i ih =>
      intro hi
      cases hb : lst listed i with
      | true => rfl
      | false =>
        exfalso
        have ho : ops[i]? = some ops[i] := Array.getElem?_eq_getElem hi
        have : i ∈ Region.ready .any ops listed := by
          refine mem_ready.2 ⟨(unlisted listed i hsz hi).2 hb, ops[i], ho, fun e he hbd => ?_⟩
          have h1 := (drawOk_one hok ho).1
          simp only [oneOk, ho] at h1
          split at h1
          · rename_i o' h' e1 e2
            cases e1
            simp only [Bool.and_eq_true, List.all_eq_true] at h1
            have := h1.1 e (by simpa using he)
            simp only [hbd, Bool.not_true, Bool.false_or, decide_eq_true_eq] at this
            exact ih e.on this (by omega)
          · cases h1
        rw [hr] at this
        cases this
  intro fuel
  induction fuel with
  | zero =>
    intro listed a w hsz ⟨l, hl, hin⟩ hc hP
    have hall : ∀ i, i < ops.size → lst listed i = true := fun i hi => by
      cases hb : lst listed i with
      | true => rfl
      | false => have := hin i hi hb; rw [List.length_eq_zero_iff.1 (Nat.le_zero.1 hl)] at this; cases this
    refine ⟨?_, done listed a w hall hP⟩
    cases hr : Region.ready .any ops listed with
    | nil => rfl
    | cons x xs =>
      have hx : x ∈ Region.ready .any ops listed := by rw [hr]; exact List.mem_cons_self ..
      obtain ⟨h1, o, ho, _⟩ := mem_ready.1 hx
      have hlt := (Array.getElem?_eq_some_iff.1 ho).1
      have := (unlisted listed x hsz hlt).1 h1
      rw [hall x hlt] at this
      cases this
  | succ fuel ih =>
    intro listed a w hsz ⟨l, hl, hin⟩ hc hP
    refine ⟨fun hr => done listed a w (allof listed hsz hr) hP, fun j hj => ?_⟩
    obtain ⟨hun, o, ho, hpre⟩ := mem_ready.1 hj
    have hlt := (Array.getElem?_eq_some_iff.1 ho).1
    have hSj := (unlisted listed j hsz hlt).1 hun
    have hS' : lst (listed.setIfInBounds j true) = fun k => decide (k = j) || lst listed k := by
      funext k
      unfold lst
      by_cases hk : k = j
      · subst hk
        have : k < listed.size := by omega
        simp [Array.getD, this]
      · have := Array.getElem?_setIfInBounds_ne (xs := listed) (i := j) (j := k) (a := true) (fun e => hk e.symm)
        simp [this, hk]
    have hc' : Closed ops (lst (listed.setIfInBounds j true)) := by
      rw [hS']
      intro x ox hx hSx e he hb
      simp only [Bool.or_eq_true, decide_eq_true_eq] at hSx ⊢
      rcases hSx with rfl | hSx
      · rw [ho] at hx; cases hx
        exact .inr (hpre e he hb)
      · exact .inr (hc x ox hx hSx e he hb)
    -- who is ordered to j has run, or has not, by its place
    have hord : ∀ k, k < ops.size → k ≠ j → unordered (befs ops) j k = false → lst listed k = decide (k < j) := by
      intro k hk hkj hu
      simp only [unordered, Bool.and_eq_false_iff, bne_eq_false_iff_eq, Bool.not_eq_false', List.contains_iff_mem] at hu
      rcases hu with (hu | hu) | hu
      · exact absurd hu.symm hkj
      · have h1 := befs_spec hc' (j := j) (by rw [hS']; simp) hu
        rw [hS'] at h1
        simp only [Bool.or_eq_true, decide_eq_true_eq] at h1
        rcases h1 with h1 | h1
        · exact absurd h1 hkj
        · rw [h1]
          rcases befs_lt hok hlt hu with h2 | h2
          · simp [h2]
          · exact absurd h2 hkj
      · have hkl : lst listed k = false := by
          cases hb : lst listed k with
          | false => rfl
          | true => have := befs_spec hc (j := k) hb hu; rw [hSj] at this; cases this
        rw [hkl]
        rcases befs_lt hok hk hu with h2 | h2
        · simp; omega
        · exact absurd h2.symm hkj
    have hj2 : ∃ h, hs[j]? = some h := ⟨hs[j]'(by omega), List.getElem?_eq_getElem (by omega)⟩
    obtain ⟨h, hh⟩ := hj2
    have hz : (ops.toList.zip hs)[j]? = some (o, h) := by
      rw [List.getElem?_zip_eq_some]
      exact ⟨by simpa using ho, hh⟩
    obtain ⟨e, hLe, hed, hSG, hoe⟩ := Tr_get (i := 0) htr hz
    simp only [Nat.zero_add] at hSG
    -- what each other operation may have to do with j
    have hLk : ∀ (k : Nat) (ek : Eft), L[k]? = some ek → ∃ (ok : Oper) (hk : DH), ops[k]? = some ok ∧ hs[k]? = some hk ∧ ek.1 = ok.dst ∧ oeOk hk ok.dst ek.2.2 := by
      intro k ek hk
      have hlt' : k < ops.size := by have := (List.getElem?_eq_some_iff.1 hk).1; omega
      have h1 : ops[k]? = some ops[k] := Array.getElem?_eq_getElem hlt'
      have h2 : hs[k]? = some (hs[k]'(by omega)) := List.getElem?_eq_getElem (by omega)
      have hz' : (ops.toList.zip hs)[k]? = some (ops[k], hs[k]'(by omega)) := by
        rw [List.getElem?_zip_eq_some]
        exact ⟨by simpa using h1, h2⟩
      obtain ⟨e', h3, h4, _, h5⟩ := Tr_get (i := 0) htr hz'
      rw [hk] at h3
      cases h3
      exact ⟨_, _, h1, h2, h4, h5⟩
    have hpair : ∀ (k : Nat) (ek : Eft), L[k]? = some ek → unordered (befs ops) j k = true → (∀ d, ek.1 = some d → d ∉ o.looksAt ops ∧ o.dst ≠ some d) ∧ (∀ x ob, (x, ob) ∈ ek.2.2 → h.masked x = true) := by
      intro k ek hk hu
      obtain ⟨ok, hk', h1, h2, h3, h4⟩ := hLk k ek hk
      have hp := (drawOk_one hok ho).2 k (Array.getElem?_eq_some_iff.1 h1).1 hu
      simp only [pairOk, ho, h1, hh, h2, Bool.and_eq_true] at hp
      obtain ⟨⟨p1, p2⟩, p3⟩ := hp
      refine ⟨fun d hd => ?_, fun x ob hm => ?_⟩
      · rw [h3] at hd
        rw [hd] at p1
        simp only [Bool.and_eq_true, Bool.not_eq_true', bne_iff_ne, ne_eq] at p1
        exact ⟨fun hm => by rw [List.contains_iff_mem.2 hm] at p1; exact absurd p1.1 (by simp), p1.2⟩
      · have key : ∀ (oe : List (Nat × AObj)), oeOk hk' ok.dst oe → (x, ob) ∈ oe → hk'.wr.contains x = true ∨ (hk'.cr = true ∧ ok.dst = some (x / 64)) := by
          intro oe
          induction oe with
          | nil => intro _ h; cases h
          | cons y r ih =>
            intro hoe hm
            simp only [oeOk] at hoe
            rcases List.mem_cons.1 hm with hm | hm
            · cases hm; exact hoe.1
            · exact ih hoe.2.2 hm
        unfold DH.masked
        rcases key _ h4 hm with hw | ⟨hcr, hd⟩
        · rw [List.all_eq_true] at p2
          rw [p2 x (List.contains_iff_mem.1 hw), Bool.true_or]
        · rw [hcr, hd] at p3
          simp only [Bool.not_true, Bool.false_or] at p3
          rw [p3, Bool.or_true]
    have hoem : ∀ x ob, (x, ob) ∈ e.2.2 → h.masked x = false := by
      have key : ∀ (oe : List (Nat × AObj)), oeOk h o.dst oe → ∀ x ob, (x, ob) ∈ oe → h.masked x = false := by
        intro oe
        induction oe with
        | nil => intro _ _ _ h; cases h
        | cons y r ih =>
          intro hoe x ob hm
          simp only [oeOk] at hoe
          rcases List.mem_cons.1 hm with hm | hm
          · cases hm; exact hoe.2.1
          · exact ih hoe.2.2 x ob hm
      exact key _ hoe
    -- the state is, at what j looks at, as in the order of the text
    have ht : ∀ d ∈ o.looksAt ops, (appS (fun k => decide (k < j)) L 0 σ).t d = (appS (lst listed) L 0 σ).t d := by
      intro d hd
      refine appS_t L 0 rfl (fun k ek hk hkd => ?_)
      rw [Nat.zero_add]
      have hkn : k < ops.size := by have := (List.getElem?_eq_some_iff.1 hk).1; omega
      by_cases hkj : k = j
      · subst hkj; rw [hSj]; simp
      · cases hu : unordered (befs ops) j k with
        | true => exact absurd hd ((hpair k ek hk hu).1 d hkd).1
        | false => exact (hord k hkn hkj hu).symm
    have hobj : ∀ x, h.masked x = false → (appS (fun k => decide (k < j)) L 0 σ).o x = (appS (lst listed) L 0 σ).o x := by
      intro x hx
      refine appS_o L 0 rfl (fun k ek hk hkx => ?_)
      rw [Nat.zero_add]
      have hkn : k < ops.size := by have := (List.getElem?_eq_some_iff.1 hk).1; omega
      by_cases hkj : k = j
      · subst hkj; rw [hSj]; simp
      · cases hu : unordered (befs ops) j k with
        | true => obtain ⟨ob, hm⟩ := hkx; have := (hpair k ek hk hu).2 x ob hm; rw [hx] at this; cases this
        | false => exact (hord k hkn hkj hu).symm
    have hSG' := SG_congr ht hSG
    have hagr : Agr (appS (lst listed) L 0 σ).o (msk h (appS (fun k => decide (k < j)) L 0 σ).o) := by
      intro x h1 h2
      unfold msk at h2 ⊢
      cases hx : h.masked x with
      | true => rw [hx] at h2; exact absurd rfl h2
      | false => exact (hobj x hx).symm
    have hone := (drawOk_one hok ho).1
    simp only [oneOk, ho, hh, Bool.and_eq_true] at hone
    obtain ⟨ι, Fs, hSim⟩ := hP
    have hins : appS (lst (listed.setIfInBounds j true)) L 0 σ = (AEnv.wr e.2.2 (appS (lst listed) L 0 σ)).set o.dst e.2.1 := by
      rw [hS', appS_insert hSj L 0 σ hLe (Nat.zero_le _) (fun k ek hk hkj hSk hlt' => ?_) (fun k ek hk hSk hlt' x ob ob' hm hm' => ?_)]
      · rw [← hed]; rfl
      · rw [Nat.zero_add] at hkj hSk hlt'
        have hkn : k < ops.size := by have := (List.getElem?_eq_some_iff.1 hk).1; omega
        cases hu : unordered (befs ops) j k with
        | true =>
          cases hd : ek.1 with
          | none => exact .inr rfl
          | some d => refine .inl (fun he => ?_); rw [hed] at he; exact ((hpair k ek hk hu).1 d hd).2 he.symm
        | false =>
          have := hord k hkn hkj hu
          rw [hSk] at this
          simp at this
          omega
      · rw [Nat.zero_add] at hSk hlt'
        have hkn : k < ops.size := by have := (List.getElem?_eq_some_iff.1 hk).1; omega
        cases hu : unordered (befs ops) j k with
        | true => have h1 := (hpair k ek hk hu).2 x ob hm; rw [hoem x ob' hm'] at h1; cases h1
        | false =>
          have := hord k hkn (by omega) hu
          rw [hSk] at this
          simp at this
          omega
    have hfin := SG_sound (Q := Q) (K := wpAny P .any ops Q fuel (listed.setIfInBounds j true)) hT hSim hagr hSG'
      (fun x ob hm h1 => by
        have hx := hoem x ob hm
        unfold msk at h1
        rw [hx] at h1
        rw [← hobj x hx]; exact h1)
      (fun d hd h1 => by
        rw [hd] at hone
        simp only [Bool.and_eq_true, Bool.not_eq_true'] at hone
        have hx := hone.2.2
        unfold msk at h1
        rw [hx] at h1
        rw [← hobj _ hx]; exact h1)
      (fun d hd => by
        rw [hd] at hone
        simp only [Bool.and_eq_true, decide_eq_true_eq] at hone
        exact hone.2.1)
      (fun a' w' hP' => ih _ a' w' (by simpa using hsz) ⟨l.erase j, by
          have := hin j hlt hSj
          have h1 := List.length_erase_of_mem this
          have h2 := List.length_pos_of_mem this
          omega, fun i hi hb => by
          have hij : i ≠ j := fun e => by subst e; rw [hS'] at hb; simp at hb
          rw [hS'] at hb
          simp only [Bool.or_eq_false_iff] at hb
          exact (List.mem_erase_of_ne hij).2 (hin i hi hb.2)⟩ hc' (by rw [hins]; exact hP'))
    unfold wpOp
    rw [ho]
    simp only
    split
    · rename_i hw
      rw [if_pos hw] at hfin
      exact .inl hfin
    · rename_i hw
      rw [if_neg hw] at hfin
      exact hfin

theorem Post_drew (h : Post C σ a w) : Post C σ a { w with drawn := w.drawn + 1 } := by
  obtain ⟨ι, Fs, h⟩ := h
  refine ⟨ι, Fs, h.move (O' := σ.o) (X := fun _ => False) ⟨rfl, rfl, rfl, Nat.le_refl _, fun _ _ _ => rfl, fun _ _ => ⟨rfl, rfl, rfl⟩, fun _ hX => hX.elim, fun _ hX => hX.elim, fun _ hX => hX.elim, fun _ hX => hX.elim, fun _ _ hX => hX.elim⟩⟩

/-- A region whose order is drawn: run in the order of the text it comes to what any order comes to. -/
theorem adraw_sound (hT : TyOK P T) {hs : List DH} (hok : drawOk C.N ops hs = true) {K : AEnv → Prop} {Q : Exit → Act → World → Prop} {id : Nat}
    (hK : ∀ σ' a' w', K σ' → Post C σ' a' w' → Q .normal a' w') (h : adraw P T H ops (ops.toList.zip hs) σ K) (hm : P.follows .mixedOrders = true) (hP : Post C σ a w) :
    (Code.region id ops true).wp P Q a w := by
  obtain ⟨L, htr, hKL⟩ := adraw_trace h
  refine wp_region_any hm (draw_inv hT hok htr (fun a w hP => hK _ a w hKL hP) ops.size _ a _ (by simp) ⟨List.range ops.size, by simp, fun i hi _ => by simpa using hi⟩ ?_ ?_)
  · intro j o ho hS
    simp [lst, Array.getD] at hS
  · rw [appS_none L 0 σ (fun k _ => by simp [lst, Array.getD])]
    exact Post_drew hP

end
end Am
