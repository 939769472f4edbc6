/- Logs, plainly: what is right, what is heard. No condition. -/
import Derived.Test.YteidfkbfocdnmaaGreatD
import Derived.Test.YteidfkbfocdnmaaGreatU1
import Derived.Test.YteidfkbfocdnmaaGreatE63
import Derived.Test.YteidfkbfocdnmaaGreatE93a
import Derived.Test.YteidfkbfocdnmaaGreatE9
import Derived.Test.YteidfkbfocdnmaaGreatV1
namespace Am
open Go
set_option linter.unusedSimpArgs false
set_option linter.unusedVariables false

def unitTime (u : GUnit) : Int := if u.batch = true then timeK u.delta.cs u.delta.cs.length else u.act.time
def runU (l : List GUnit) : Nat → GState
  | 0 => stateNew
  | i + 1 => (doUnit (runU l i) (nth l i)).1
def goodU (T : Int) (l : List GUnit) (i : Nat) : Bool := unitOk (nth l i) && decide (unitTime (nth l i) ≤ T) && decide ((doUnit (runU l i) (nth l i)).2 = 0)
def logHead (l : GLog) : Bool := spIn l.rep 0 2 && spIn l.time 0 10000 && decide (l.units.length ≤ 60) && decide (l.waits.length ≤ 6) && decide (timeOf l.state ≤ l.time)
def waitsOk (l : List GUnit) : Bool := allB (fun i => unitOk (nth l i)) l.length
def logOk (l : GLog) : Bool := logHead l && waitsOk l.waits && allB (goodU l.time l.units) l.units.length && decide (runU l.units l.units.length = l.state)

def noteM (l : GLog) (u : GUnit) : GLog := if 6 ≤ l.waits.length ∨ u ∈ l.waits then l else { l with waits := l.waits ++ [u] }
def doneM (l : GLog) (u : GUnit) : GLog := { l with state := (doUnit l.state u).1, units := l.units ++ [u], time := max l.time (unitTime u) }
def canM (l : GLog) (u : GUnit) : Bool := decide ((doUnit l.state u).2 = 0 ∧ l.units.length < 60)
/-- One time over what waits. -/
def wkK (ws : List GUnit) (l : GLog) : Nat → GLog × List GUnit × Bool
  | 0 => (l, [], false)
  | i + 1 => if canM (wkK ws l i).1 (nth ws i) = true then (doneM (wkK ws l i).1 (nth ws i), (wkK ws l i).2.1, true)
    else if (doUnit (wkK ws l i).1.state (nth ws i)).2 = 1 then wkK ws l i else ((wkK ws l i).1, (wkK ws l i).2.1 ++ [nth ws i], (wkK ws l i).2.2)
def passM (l : GLog) : GLog := { (wkK l.waits l l.waits.length).1 with waits := (wkK l.waits l l.waits.length).2.1 }
def someM (l : GLog) : Bool := (wkK l.waits l l.waits.length).2.2
def wakeM : Nat → GLog → GLog
  | 0, l => l
  | f + 1, l => if someM l = true then wakeM f (passM l) else passM l
def wake (l : GLog) : GLog := wakeM (l.waits.length + 1) l
def heardM (l : GLog) (u : GUnit) : GLog × Int :=
  if (unitOk u && logOk l) = false then (l, 3) else if (doUnit l.state u).2 = 2 then (noteM l u, 2) else if ¬ (doUnit l.state u).2 = 0 then (l, (doUnit l.state u).2)
  else if 60 ≤ l.units.length then (l, 4) else (wake (doneM l u), 0)
def actU (a : GAct) : GUnit := ⟨false, a, zeroDelta⟩
def editedM (l : GLog) (e : GEdit) : GLog × GUnit × Int :=
  if logOk l = false then (l, actU zeroAct, 3) else if ¬ (actOf l.state l.rep (l.time + 1) e).2 = 0 then (l, actU zeroAct, (actOf l.state l.rep (l.time + 1) e).2)
  else if ¬ (doAct l.state (actOf l.state l.rep (l.time + 1) e).1).2 = 0 ∨ 60 ≤ l.units.length then (l, actU zeroAct, 4)
  else ({ l with state := (doAct l.state (actOf l.state l.rep (l.time + 1) e).1).1, time := l.time + 1, units := l.units ++ [actU (actOf l.state l.rep (l.time + 1) e).1] }, actU (actOf l.state l.rep (l.time + 1) e).1, 0)
def logNew (r : Int) : GLog := ⟨r, 0, stateNew, [], []⟩

/-- No more waits than before, fewer where some was done. -/
theorem wk_len (ws : List GUnit) (l : GLog) : ∀ i : Nat, (wkK ws l i).2.1.length ≤ i ∧ ((wkK ws l i).2.2 = true → (wkK ws l i).2.1.length < i)
  | 0 => by simp [wkK]
  | i + 1 => by
    obtain ⟨h1, h2⟩ := wk_len ws l i
    rw [wkK]
    split
    · exact ⟨by simp only; omega, fun _ => by simp only; omega⟩
    split
    · exact ⟨by omega, fun _ => by omega⟩
    · simp only [List.length_append, List.length_singleton]
      exact ⟨by omega, fun h => by have := h2 h; omega⟩
theorem pass_len (l : GLog) : (passM l).waits.length ≤ l.waits.length ∧ (someM l = true → (passM l).waits.length < l.waits.length) := wk_len l.waits l l.waits.length
/-- Acts alone. -/
def plainU (l : List GUnit) : Prop := ∀ u, u ∈ l → u.batch = false
def actsOf (l : List GUnit) : List GAct := l.map (·.act)
theorem actsOf_len (l : List GUnit) : (actsOf l).length = l.length := by simp [actsOf]
theorem actsOf_nth {l : List GUnit} {i : Nat} (h : i < l.length) : nth (actsOf l) i = (nth l i).act := by
  unfold nth actsOf
  rw [List.getD_eq_getElem?_getD, List.getD_eq_getElem?_getD, List.getElem?_map, List.getElem?_eq_getElem h]
  rfl
theorem doUnit_act {s : GState} {u : GUnit} (h : u.batch = false) : doUnit s u = doAct s u.act := by simp [doUnit, h]
theorem runU_doK {l : List GUnit} (h : plainU l) : ∀ i : Nat, i ≤ l.length → runU l i = doK (actsOf l) newS i
  | 0, _ => rfl
  | i + 1, hi => by
    rw [runU, doK, runU_doK h i (by omega), doUnit_act (h _ (nth_mem (by omega))), actsOf_nth (by omega)]
structure LOk (l : GLog) : Prop where
  r0 : 0 ≤ l.rep
  r1 : l.rep ≤ 2
  t0 : 0 ≤ l.time
  t1 : l.time ≤ 10000
  u : l.units.length ≤ 60
  w : l.waits.length ≤ 6
  ts : timeOf l.state ≤ l.time
  wu : ∀ u, u ∈ l.waits → unitOk u = true
  g : ∀ i : Nat, i < l.units.length → goodU l.time l.units i = true
  s : runU l.units l.units.length = l.state
theorem waitsOk_iff {l : List GUnit} : waitsOk l = true ↔ ∀ u, u ∈ l → unitOk u = true := by
  unfold waitsOk
  rw [allB_iff]
  constructor
  · intro h u hu
    obtain ⟨j, hj, rfl⟩ := mem_nth hu
    exact h j hj
  · intro h i hi
    exact h _ (nth_mem hi)
theorem logOk_iff {l : GLog} : logOk l = true ↔ LOk l := by
  simp only [logOk, logHead, spIn, Bool.and_eq_true, decide_eq_true_eq, waitsOk_iff, allB_iff]
  constructor
  · rintro ⟨⟨⟨⟨⟨⟨⟨⟨a1, a2⟩, a3, a4⟩, a5⟩, a6⟩, a7⟩, a8⟩, a9⟩, a10⟩
    exact ⟨a1, a2, a3, a4, a5, a6, a7, a8, a9, a10⟩
  · rintro ⟨a1, a2, a3, a4, a5, a6, a7, a8, a9, a10⟩
    exact ⟨⟨⟨⟨⟨⟨⟨⟨a1, a2⟩, a3, a4⟩, a5⟩, a6⟩, a7⟩, a8⟩, a9⟩, a10⟩
theorem goodU_iff {T : Int} {l : List GUnit} {i : Nat} : goodU T l i = true ↔ unitOk (nth l i) = true ∧ unitTime (nth l i) ≤ T ∧ (doUnit (runU l i) (nth l i)).2 = 0 := by
  simp only [goodU, Bool.and_eq_true, decide_eq_true_eq]
  constructor
  · rintro ⟨⟨a, b⟩, c⟩; exact ⟨a, b, c⟩
  · rintro ⟨a, b, c⟩; exact ⟨⟨a, b⟩, c⟩
theorem log_whole {l : GLog} (h : LOk l) (hp : plainU l.units) : whole (actsOf l.units) ∧ Canon (actsOf l.units).reverse l.state := by
  have hw : whole (actsOf l.units) := fun i hi => by
    rw [actsOf_len] at hi
    have := (goodU_iff.1 (h.g i hi)).2.2
    rw [doUnit_act (hp _ (nth_mem hi)), runU_doK hp i (by omega)] at this
    rw [actsOf_nth hi]; exact this
  have hc := canon_whole hw (actsOf l.units).length (Nat.le_refl _)
  rw [List.take_length, actsOf_len, ← runU_doK hp _ (Nat.le_refl _), h.s] at hc
  exact ⟨hw, hc⟩
theorem runU_app (l : List GUnit) (u : GUnit) : ∀ i : Nat, i ≤ l.length → runU (l ++ [u]) i = runU l i
  | 0, _ => rfl
  | i + 1, hi => by rw [runU, runU, runU_app l u i (by omega), nth_app_l (by omega)]
theorem unitTime_act {u : GUnit} (h : u.batch = false) : unitTime u = u.act.time := by simp [unitTime, h]
theorem unitOk_act {u : GUnit} (h : u.batch = false) (hu : unitOk u = true) : actOk u.act = true ∧ u.delta = zeroDelta := by
  simpa [unitOk, h] using hu
theorem act_time {a : GAct} (h : actOk a = true) : 1 ≤ a.time ∧ a.time ≤ 10000 := by
  have := plain_of h
  omega
theorem done_timeOf {s : GState} {a : GAct} (hd : Done s a) {m : Int} (h1 : timeOf s ≤ m) (h2 : a.time ≤ m) : timeOf (doneAct s a) ≤ m := by
  have h0 := (timeOf_bd hd.s0).1
  refine timeOf_le (by omega) fun x hx => ?_
  rcases done_time hd hx with ⟨y, hy, e⟩ | e
  · have := time_le hy; omega
  · omega
/-- An act more, done. -/
theorem done_LOk {l : GLog} (h : LOk l) {u : GUnit} (hb : u.batch = false) (hu : unitOk u = true) (hd : (doUnit l.state u).2 = 0) (hl : l.units.length < 60) {t : Int} (ht : l.time ≤ t) (ha : u.act.time ≤ t) (hm : t ≤ 10000) :
    LOk { l with state := (doUnit l.state u).1, units := l.units ++ [u], time := t } := by
  have h0 := h.t0
  rw [doUnit_act hb] at hd
  obtain ⟨d1, d2⟩ := done_of hd
  refine ⟨h.r0, h.r1, by show 0 ≤ t; omega, hm, by simp only [List.length_append, List.length_singleton]; omega, h.w, ?_, h.wu, ?_, ?_⟩
  · show timeOf (doUnit l.state u).1 ≤ t
    rw [doUnit_act hb, d2]
    have := h.ts
    exact done_timeOf d1 (by omega) ha
  · intro i hi
    simp only [List.length_append, List.length_singleton] at hi
    rw [goodU_iff]
    show unitOk (nth (l.units ++ [u]) i) = true ∧ unitTime (nth (l.units ++ [u]) i) ≤ t ∧ (doUnit (runU (l.units ++ [u]) i) (nth (l.units ++ [u]) i)).2 = 0
    rw [runU_app l.units u i (by omega)]
    rcases Nat.lt_or_ge i l.units.length with h1 | h1
    · rw [nth_app_l h1]
      obtain ⟨g1, g2, g3⟩ := goodU_iff.1 (h.g i h1)
      exact ⟨g1, by omega, g3⟩
    · obtain rfl : i = l.units.length := by omega
      rw [nth_app_at, h.s, doUnit_act hb, unitTime_act hb]
      exact ⟨hu, ha, hd⟩
  · show runU (l.units ++ [u]) (l.units ++ [u]).length = (doUnit l.state u).1
    rw [List.length_append, List.length_singleton, runU, runU_app _ _ _ (Nat.le_refl _), nth_app_at, h.s]
theorem doneM_LOk {l : GLog} (h : LOk l) {u : GUnit} (hb : u.batch = false) (hu : unitOk u = true) (hc : canM l u = true) : LOk (doneM l u) := by
  simp only [canM, decide_eq_true_eq] at hc
  have ht := act_time (unitOk_act hb hu).1
  have h1 := h.t1
  have e := unitTime_act hb
  exact done_LOk h hb hu hc.1 hc.2 (by omega) (by omega) (by omega)

/-- Logs whose units are acts of one whole list. -/
structure LG (out : List GAct) (l : GLog) : Prop where
  ok : LOk l
  un : ∀ u, u ∈ l.units → u.batch = false ∧ u.act ∈ out
  wt : ∀ u, u ∈ l.waits → u.batch = false ∧ u.act ∈ out ∧ unitOk u = true
theorem LG.plain {out : List GAct} {l : GLog} (h : LG out l) : plainU l.units := fun u hu => (h.un u hu).1
theorem LG.done {out : List GAct} {l : GLog} (h : LG out l) {u : GUnit} (hb : u.batch = false) (ha : u.act ∈ out) (hu : unitOk u = true) (hc : canM l u = true) : LG out (doneM l u) := by
  refine ⟨doneM_LOk h.ok hb hu hc, fun v hv => ?_, h.wt⟩
  rcases List.mem_append.1 hv with hv | hv
  · exact h.un v hv
  · rw [List.mem_singleton.1 hv]; exact ⟨hb, ha⟩
/-- What a log becomes: nothing is lost, what is more comes of a list. -/
structure Grew (P : GUnit → Prop) (l m : GLog) : Prop where
  r : m.rep = l.rep
  u : ∀ u, u ∈ l.units → u ∈ m.units
  n : ∀ u, u ∈ m.units → u ∈ l.units ∨ P u
theorem Grew.refl {P : GUnit → Prop} (l : GLog) : Grew P l l := ⟨rfl, fun _ h => h, fun _ h => .inl h⟩
theorem Grew.trans {P : GUnit → Prop} {l m n : GLog} (h : Grew P l m) (g : Grew P m n) : Grew P l n :=
  ⟨g.r.trans h.r, fun u hu => g.u u (h.u u hu), fun u hu => (g.n u hu).elim (fun h1 => h.n u h1) .inr⟩
theorem Grew.mono {P Q : GUnit → Prop} {l m : GLog} (h : Grew P l m) (hq : ∀ u, P u → Q u) : Grew Q l m := ⟨h.r, h.u, fun u hu => (h.n u hu).imp id (hq u)⟩
theorem doneM_grew (l : GLog) (u : GUnit) : Grew (fun v => v = u) l (doneM l u) :=
  ⟨rfl, fun v hv => List.mem_append.2 (.inl hv), fun v hv => (List.mem_append.1 hv).imp id fun h => List.mem_singleton.1 h⟩
theorem wk_log {out : List GAct} {ws : List GUnit} {l : GLog} (h : LG out l) (hw : ∀ u, u ∈ ws → u.batch = false ∧ u.act ∈ out ∧ unitOk u = true) : ∀ i : Nat, i ≤ ws.length →
    LG out (wkK ws l i).1 ∧ Grew (fun u => u ∈ ws) l (wkK ws l i).1 ∧ (wkK ws l i).1.waits = l.waits ∧ (∀ u, u ∈ (wkK ws l i).2.1 → u ∈ ws) ∧ ((wkK ws l i).2.2 = false → (wkK ws l i).1 = l)
  | 0, _ => ⟨h, Grew.refl l, rfl, by simp [wkK], fun _ => rfl⟩
  | i + 1, hi => by
    obtain ⟨h1, h2, h3, h4, h5⟩ := wk_log h hw i (by omega)
    have hm := nth_mem (show i < ws.length by omega)
    obtain ⟨w1, w2, w3⟩ := hw _ hm
    rw [wkK]
    split
    · rename_i hc
      refine ⟨h1.done w1 w2 w3 hc, h2.trans ((doneM_grew _ _).mono fun u hu => by rw [hu]; exact hm), h3, h4, fun h => by cases h⟩
    split
    · exact ⟨h1, h2, h3, h4, h5⟩
    · refine ⟨h1, h2, h3, fun u hu => ?_, h5⟩
      rcases List.mem_append.1 hu with hu | hu
      · exact h4 u hu
      · rw [List.mem_singleton.1 hu]; exact hm
theorem LG.waits {out : List GAct} {l : GLog} (h : LG out l) {ws : List GUnit} (hl : ws.length ≤ 6) (hw : ∀ u, u ∈ ws → u.batch = false ∧ u.act ∈ out ∧ unitOk u = true) : LG out { l with waits := ws } :=
  ⟨⟨h.ok.r0, h.ok.r1, h.ok.t0, h.ok.t1, h.ok.u, hl, h.ok.ts, fun u hu => (hw u hu).2.2, h.ok.g, h.ok.s⟩, h.un, hw⟩
theorem pass_log {out : List GAct} {l : GLog} (h : LG out l) : LG out (passM l) ∧ Grew (fun u => u ∈ l.waits) l (passM l) ∧ (∀ u, u ∈ (passM l).waits → u ∈ l.waits) := by
  obtain ⟨h1, h2, h3, h4, h5⟩ := wk_log h h.wt l.waits.length (Nat.le_refl _)
  have hl := (wk_len l.waits l l.waits.length).1
  have h6 := h.ok.w
  exact ⟨h1.waits (by omega) fun u hu => h.wt u (h4 u hu), ⟨h2.r, h2.u, h2.n⟩, h4⟩
theorem wakeM_log {out : List GAct} : ∀ (f : Nat) {l : GLog}, LG out l → LG out (wakeM f l) ∧ Grew (fun u => u ∈ l.waits) l (wakeM f l) ∧ (∀ u, u ∈ (wakeM f l).waits → u ∈ l.waits)
  | 0, l, h => ⟨h, Grew.refl l, fun _ h => h⟩
  | f + 1, l, h => by
    obtain ⟨h1, h2, h3⟩ := pass_log h
    rw [wakeM]
    split
    · obtain ⟨q1, q2, q3⟩ := wakeM_log f h1
      exact ⟨q1, h2.trans (q2.mono h3), fun u hu => h3 u (q3 u hu)⟩
    · exact ⟨h1, h2, h3⟩
theorem wake_none {l : GLog} (h : l.waits = []) : wake l = l := by
  have e : passM l = l := by
    unfold passM
    rw [h]
    cases l
    simp only at h
    subst h
    rfl
  have e2 : someM l = false := by unfold someM; rw [h]; rfl
  rw [wake, wakeM, e2, e]
  rfl
end Am
namespace Am
open Go
set_option linter.unusedSimpArgs false
set_option linter.unusedVariables false

/-- Acts that can be done in their order, each made of what was known where it was made. -/
structure Wd (out : List GAct) : Prop where
  w : whole out
  m : made out
  l : out.length ≤ 60
theorem wd_made {out : List GAct} (h : Wd out) {a : GAct} (ha : a ∈ out) : ∃ D0 s0, Canon D0 s0 ∧ Done s0 a ∧ a.knew = s0.know ∧ ∀ b, b ∈ D0 → b ∈ out := by
  obtain ⟨i, hi, rfl⟩ := mem_nth ha
  obtain ⟨D0, s0, q1, q2, q3, q4⟩ := h.m i hi
  refine ⟨D0, s0, q1, q2, q3, fun b hb => ?_⟩
  obtain ⟨j, hj, rfl⟩ := q4 b hb
  exact nth_mem (by omega)
theorem wd_one {out : List GAct} (h : Wd out) {a b : GAct} (ha : a ∈ out) (hb : b ∈ out) (e : a.dot = b.dot) : a = b := nodup_inj (whole_nod h.w) ha hb e
theorem wd_len {out D : List GAct} (h : Wd out) (hn : (D.map (·.dot)).Nodup) (hs : ∀ a, a ∈ D → a ∈ out) : D.length ≤ 60 := by
  have := nodup_len (m := out.map (·.dot)) hn (fun d hd => by
    obtain ⟨x, hx, rfl⟩ := List.mem_map.1 hd
    exact List.mem_map.2 ⟨x, hs x hx, rfl⟩)
  have h2 := h.l
  simp only [List.length_map] at this
  omega
/-- What becomes of an act: done, known, or early. -/
theorem code3 {out D : List GAct} {s : GState} (h : Wd out) (hc : Canon D s) (hs : ∀ a, a ∈ D → a ∈ out) {a : GAct} (ha : a ∈ out) :
    (knows s.know a.dot = true ∧ doAct s a = (s, 1)) ∨ (knows s.know a.dot = false ∧ knowIn a.knew s.know = true ∧ (doAct s a).2 = 0) ∨ (knows s.know a.dot = false ∧ knowIn a.knew s.know = false ∧ doAct s a = (s, 2)) := by
  obtain ⟨D0, s0, q1, q2, q3, q4⟩ := wd_made h ha
  have ks := of_sok hc.sok
  have ka := q2.a0
  cases hk : knows s.know a.dot
  · right
    cases hi : knowIn a.knew s.know
    · right
      exact ⟨rfl, rfl, by simp [doAct, ks, ka, hk, hi]⟩
    · left
      refine ⟨rfl, rfl, ?_⟩
      have hl := wd_len h hc.nod hs
      refine can_do q1 q2 hc (fun b hb => ?_) hk (by omega)
      have hb0 : knows s0.know b.dot = true := (q1.know _).2 ⟨b, hb, rfl⟩
      rw [← q3] at hb0
      obtain ⟨x, hx, e⟩ := (hc.know _).1 (knows_in hi hb0)
      rw [← wd_one h (hs x hx) (q4 b hb) e]
      exact hx
  · left
    exact ⟨rfl, by simp [doAct, ks, ka, hk]⟩
/-- The acts of a log. -/
theorem LG.canon {out : List GAct} {l : GLog} (h : LG out l) : ∃ D, Canon D l.state ∧ D.length = l.units.length ∧ (∀ a, a ∈ D ↔ ∃ u, u ∈ l.units ∧ u.act = a) ∧ ∀ a, a ∈ D → a ∈ out := by
  obtain ⟨_, hc⟩ := log_whole h.ok h.plain
  have hm : ∀ a, a ∈ (actsOf l.units).reverse ↔ ∃ u, u ∈ l.units ∧ u.act = a := fun a => by
    rw [List.mem_reverse, actsOf, List.mem_map]
  refine ⟨_, hc, by rw [List.length_reverse, actsOf_len], hm, fun a ha => ?_⟩
  obtain ⟨u, hu, rfl⟩ := (hm a).1 ha
  exact (h.un u hu).2
theorem LG.knows {out : List GAct} {l : GLog} (hW : Wd out) (h : LG out l) {a : GAct} (ha : a ∈ out) : knows l.state.know a.dot = true ↔ ∃ u, u ∈ l.units ∧ u.act = a := by
  obtain ⟨D, hc, _, hm, hs⟩ := h.canon
  rw [hc.know, ← hm]
  constructor
  · rintro ⟨b, hb, e⟩
    rw [← wd_one hW (hs b hb) ha e]; exact hb
  · exact fun h => ⟨a, h, rfl⟩
theorem LG.code {out : List GAct} {l : GLog} (hW : Wd out) (h : LG out l) {u : GUnit} (hb : u.batch = false) (ha : u.act ∈ out) :
    (Am.knows l.state.know u.act.dot = true ∧ doUnit l.state u = (l.state, 1)) ∨ (Am.knows l.state.know u.act.dot = false ∧ knowIn u.act.knew l.state.know = true ∧ (doUnit l.state u).2 = 0 ∧ canM l u = true) ∨ (Am.knows l.state.know u.act.dot = false ∧ knowIn u.act.knew l.state.know = false ∧ doUnit l.state u = (l.state, 2)) := by
  obtain ⟨D, hc, hl, hm, hs⟩ := h.canon
  have e := doUnit_act (s := l.state) hb
  rcases code3 hW hc hs ha with ⟨h1, h2⟩ | ⟨h1, h2, h3⟩ | ⟨h1, h2, h3⟩
  · exact .inl ⟨h1, by rw [e, h2]⟩
  · refine .inr (.inl ⟨h1, h2, by rw [e]; exact h3, ?_⟩)
    have hn : ∀ b, b ∈ D → b.dot ≠ u.act.dot := fun b hb' e => by
      have := (hc.know u.act.dot).2 ⟨b, hb', e⟩
      rw [h1] at this; cases this
    have hl2 := wd_len hW (D := u.act :: D) (by
      rw [List.map_cons, List.nodup_cons]
      refine ⟨fun hx => ?_, hc.nod⟩
      obtain ⟨b, hb', e⟩ := List.mem_map.1 hx
      exact hn b hb' e) (fun a ha' => by
      rcases List.mem_cons.1 ha' with rfl | ha'
      · exact ha
      · exact hs a ha')
    simp only [List.length_cons] at hl2
    simp only [canM, decide_eq_true_eq]
    exact ⟨by rw [e]; exact h3, by omega⟩
  · exact .inr (.inr ⟨h1, h2, by rw [e, h3]⟩)
theorem grew_knows {out : List GAct} {P : GUnit → Prop} {l m : GLog} (hW : Wd out) (h : LG out l) (hm : LG out m) (g : Grew P l m) {d : GDot} (hd : knows l.state.know d = true) : knows m.state.know d = true := by
  obtain ⟨D, hc, _, q, hs⟩ := h.canon
  obtain ⟨a, ha, rfl⟩ := (hc.know d).1 hd
  obtain ⟨u, hu, e⟩ := (q a).1 ha
  exact (hm.knows hW (hs a ha)).2 ⟨u, g.u u hu, e⟩
theorem logNew_log {out : List GAct} {r : Int} (h0 : 0 ≤ r) (h2 : r ≤ 2) : LG out (logNew r) :=
  ⟨⟨h0, h2, Int.le_refl 0, by show (0 : Int) ≤ 10000; decide, by show 0 ≤ 60; decide, by show 0 ≤ 6; decide, by show timeOf stateNew ≤ 0; decide, by simp [logNew], by simp [logNew], rfl⟩, by simp [logNew], by simp [logNew]⟩
theorem note_log {out : List GAct} {l : GLog} (h : LG out l) {u : GUnit} (hb : u.batch = false) (ha : u.act ∈ out) (hu : unitOk u = true) : LG out (noteM l u) := by
  unfold noteM
  split
  · exact h
  · rename_i hc
    refine h.waits (by simp only [List.length_append, List.length_singleton]; have := h.ok.w; omega) fun v hv => ?_
    rcases List.mem_append.1 hv with hv | hv
    · exact h.wt v hv
    · rw [List.mem_singleton.1 hv]; exact ⟨hb, ha, hu⟩
theorem note_same (l : GLog) (u : GUnit) : (noteM l u).state = l.state ∧ (noteM l u).units = l.units ∧ (noteM l u).rep = l.rep := by
  unfold noteM; split <;> exact ⟨rfl, rfl, rfl⟩
theorem note_grew {P : GUnit → Prop} (l : GLog) (u : GUnit) : Grew P l (noteM l u) := by
  obtain ⟨h1, h2, h3⟩ := note_same l u
  exact ⟨h3, by rw [h2]; exact fun _ h => h, by rw [h2]; exact fun _ h => .inl h⟩
/-- What becomes of a log that hears an act. -/
theorem heard_log {out : List GAct} {l : GLog} (hW : Wd out) (h : LG out l) {u : GUnit} (hb : u.batch = false) (ha : u.act ∈ out) (hu : unitOk u = true) :
    LG out (heardM l u).1 ∧ Grew (fun v => v = u ∨ v ∈ l.waits) l (heardM l u).1 ∧
    ((heardM l u = (wake (doneM l u), 0) ∧ canM l u = true ∧ knows (heardM l u).1.state.know u.act.dot = true ∧ (l.waits = [] → (heardM l u).1 = doneM l u)) ∨ (heardM l u = (l, 1) ∧ knows l.state.know u.act.dot = true) ∨
      (heardM l u = (noteM l u, 2) ∧ doUnit l.state u = (l.state, 2) ∧ knowIn u.act.knew l.state.know = false)) := by
  have ho := logOk_iff.2 h.ok
  rcases h.code hW hb ha with ⟨h1, h2⟩ | ⟨h1, h2, h3, h4⟩ | ⟨h1, h2, h3⟩
  · have e : heardM l u = (l, 1) := by simp [heardM, hu, ho, h2]
    rw [e]
    exact ⟨h, Grew.refl l, .inr (.inl ⟨rfl, h1⟩)⟩
  · have hl : ¬ 60 ≤ l.units.length := by
      simp only [canM, decide_eq_true_eq] at h4
      omega
    have e : heardM l u = (wake (doneM l u), 0) := by simp [heardM, hu, ho, h3, hl]
    rw [e]
    have hd := h.done hb ha hu h4
    obtain ⟨q1, q2, q3⟩ := wakeM_log ((doneM l u).waits.length + 1) hd
    have hg : Grew (fun v => v = u ∨ v ∈ l.waits) l (wake (doneM l u)) := ((doneM_grew l u).mono fun v hv => .inl hv).trans (q2.mono fun v hv => .inr hv)
    refine ⟨q1, hg, .inl ⟨rfl, h4, (LG.knows hW q1 ha).2 ⟨u, q2.u u (List.mem_append.2 (.inr (List.mem_singleton.2 rfl))), rfl⟩, fun hw => wake_none hw⟩⟩
  · have e : heardM l u = (noteM l u, 2) := by simp [heardM, hu, ho, h3]
    rw [e]
    exact ⟨note_log h hb ha hu, note_grew l u, .inr (.inr ⟨rfl, h3, h2⟩)⟩
/-- Heard one behind the other. -/
def hearK (us : List GUnit) (l : GLog) : Nat → GLog
  | 0 => l
  | i + 1 => (heardM (hearK us l i) (nth us i)).1
theorem knowIn_trans {a b c : List Int} (h : knowIn a b = true) (g : knowIn b c = true) : knowIn a c = true := by
  obtain ⟨a1, b1, h1⟩ := knowIn_at h
  obtain ⟨_, c1, g1⟩ := knowIn_at g
  exact knowIn_of a1 c1 fun j hj => Int.le_trans (h1 j hj) (g1 j hj)
/-- Where all that was done ahead of a unit is known, it is not early. -/
theorem not_early {out : List GAct} (hW : Wd out) {b l : GLog} (hb : LG out b) (h : LG out l) {i : Nat} (hi : i < b.units.length) (hk : ∀ j : Nat, j < i → knows l.state.know (nth b.units j).act.dot = true) : knowIn (nth b.units i).act.knew l.state.know = true := by
  obtain ⟨hw, _⟩ := log_whole hb.ok hb.plain
  have hl := actsOf_len b.units
  obtain ⟨d1, _⟩ := done_of (hw i (by omega))
  rw [actsOf_nth hi] at d1
  have hc := canon_whole hw i (by omega)
  obtain ⟨D, q1, _, q2, q3⟩ := h.canon
  refine knowIn_trans d1.ki (know_sub hc q1 fun x hx => ?_)
  rw [List.mem_reverse] at hx
  obtain ⟨j, hj, rfl⟩ := mem_nth hx
  rw [List.length_take] at hj
  have e : nth ((actsOf b.units).take i) j = (nth b.units j).act := by
    rw [← actsOf_nth (by omega)]
    unfold nth
    rw [List.getD_eq_getElem?_getD, List.getD_eq_getElem?_getD, List.getElem?_take_of_lt (by omega)]
  rw [e]
  have hu := hb.un _ (nth_mem (show j < b.units.length by omega))
  exact (q2 _).2 ((h.knows hW hu.2).1 (hk j (by omega)))
theorem unit_right {out : List GAct} {l : GLog} (h : LG out l) {u : GUnit} (hu : u ∈ l.units) : unitOk u = true := by
  obtain ⟨i, hi, rfl⟩ := mem_nth hu
  exact (goodU_iff.1 (h.ok.g i hi)).1
end Am
namespace Am
open Go
set_option linter.unusedSimpArgs false
set_option linter.unusedVariables false

theorem LG.mono {out out' : List GAct} {l : GLog} (h : LG out l) (hs : ∀ a, a ∈ out → a ∈ out') : LG out' l :=
  ⟨h.ok, fun u hu => ⟨(h.un u hu).1, hs _ (h.un u hu).2⟩, fun u hu => ⟨(h.wt u hu).1, hs _ (h.wt u hu).2.1, (h.wt u hu).2.2⟩⟩
/-- A log that has all that its own replica did. -/
structure LOwn (out : List GAct) (r : Int) (l : GLog) : Prop where
  lg : LG out l
  rep : l.rep = r
  own : ∀ a, a ∈ out → a.dot.rep = r → ∃ u, u ∈ l.units ∧ u.act = a
theorem heard_own {out : List GAct} {r : Int} {l : GLog} (hW : Wd out) (h : LOwn out r l) {u : GUnit} (hb : u.batch = false) (ha : u.act ∈ out) (hu : unitOk u = true) : LOwn out r (heardM l u).1 := by
  obtain ⟨q1, q2, _⟩ := heard_log hW h.lg hb ha hu
  refine ⟨q1, q2.r.trans h.rep, fun a ha hr => ?_⟩
  obtain ⟨v, hv, e⟩ := h.own a ha hr
  exact ⟨v, q2.u v hv, e⟩
theorem edited_log {out : List GAct} {r : Int} {l : GLog} (hW : Wd out) (hl : out.length ≤ 59) (h : LOwn out r l) (e : GEdit) :
    ∃ out', Wd out' ∧ out'.length ≤ out.length + 1 ∧ (∀ a, a ∈ out → a ∈ out') ∧ (∀ a, a ∈ out' → a ∈ out ∨ a.dot.rep = r) ∧ LOwn out' r (editedM l e).1 := by
  have hok := logOk_iff.2 h.lg.ok
  obtain ⟨D, c1, c2, c3, c4⟩ := h.lg.canon
  have hD := wd_len hW c1.nod c4
  have same : ∀ {l' : GLog}, l' = l → ∃ out', Wd out' ∧ out'.length ≤ out.length + 1 ∧ (∀ a, a ∈ out → a ∈ out') ∧ (∀ a, a ∈ out' → a ∈ out ∨ a.dot.rep = r) ∧ LOwn out' r l' := fun e => by
    subst e; exact ⟨out, hW, by omega, fun _ h => h, fun _ h => .inl h, h⟩
  unfold editedM
  rw [hok]
  simp only [Bool.true_eq_false, if_false]
  split
  · exact same rfl
  rename_i hc
  simp only [Decidable.not_not] at hc
  split
  · exact same rfl
  rename_i hd
  simp only [not_or, Decidable.not_not] at hd
  obtain ⟨hd, hu⟩ := hd
  have hlt := h.lg.ok.ts
  rcases actOf_cases l.state l.rep (l.time + 1) e with ⟨_, _, _, a3, a4⟩ | ⟨a1, _⟩
  rotate_left
  · exact absurd hc a1
  obtain ⟨d1, d2⟩ := done_of hd
  have ek : (actOf l.state l.rep (l.time + 1) e).1.knew = l.state.know := actOf_knewS hc
  have er : (actOf l.state l.rep (l.time + 1) e).1.dot.rep = r := by rw [a4, ← h.rep]; rfl
  have et : (actOf l.state l.rep (l.time + 1) e).1.time = l.time + 1 := by rw [a4]; rfl
  generalize (actOf l.state l.rep (l.time + 1) e).1 = a at *
  have hn : ∀ b, b ∈ out → b.dot ≠ a.dot := fun b hb ee => by
    obtain ⟨u, hu, rfl⟩ := h.own b hb (by rw [ee]; exact er)
    have := (h.lg.knows hW hb).2 ⟨u, hu, rfl⟩
    rw [ee, d1.n] at this; cases this
  have hW' : Wd (out ++ [a]) := ⟨whole_snoc hW.w c1 d1 c4 hn (by omega), made_snoc hW.m c1 d1 ek c4, by rw [List.length_append, List.length_singleton]; omega⟩
  have hsub : ∀ b, b ∈ out → b ∈ out ++ [a] := fun b hb => List.mem_append.2 (.inl hb)
  have hat := act_time d1.a0
  have hda : doUnit l.state (actU a) = doAct l.state a := doUnit_act rfl
  have hL := done_LOk h.lg.ok (u := actU a) rfl (by simp [unitOk, actU, d1.a0]) (by rw [hda]; exact hd) (by omega) (t := l.time + 1) (by omega) (by show a.time ≤ _; omega) (by omega)
  rw [hda] at hL
  refine ⟨out ++ [a], hW', by rw [List.length_append, List.length_singleton]; omega, hsub, fun b hb => ?_, ⟨⟨hL, fun u hu => ?_, fun u hu => ?_⟩, h.rep, fun b hb hr => ?_⟩⟩
  · rcases List.mem_append.1 hb with hb | hb
    · exact .inl hb
    · rw [List.mem_singleton.1 hb]; exact .inr er
  · rcases List.mem_append.1 hu with hu | hu
    · exact ⟨(h.lg.un u hu).1, hsub _ (h.lg.un u hu).2⟩
    · rw [List.mem_singleton.1 hu]; exact ⟨rfl, List.mem_append.2 (.inr (List.mem_singleton.2 rfl))⟩
  · exact ⟨(h.lg.wt u hu).1, hsub _ (h.lg.wt u hu).2.1, (h.lg.wt u hu).2.2⟩
  · rcases List.mem_append.1 hb with hb | hb
    · obtain ⟨u, hu, e⟩ := h.own b hb hr
      exact ⟨u, List.mem_append.2 (.inl hu), e⟩
    · rw [List.mem_singleton.1 hb]
      exact ⟨actU a, List.mem_append.2 (.inr (List.mem_singleton.2 rfl)), rfl⟩

abbrev G3 := GLog × GLog × GLog
def getL (r : Int) (p : G3) : GLog := if r = 0 then p.1 else if r = 1 then p.2.1 else p.2.2
def putL (r : Int) (p : G3) (x : GLog) : G3 := if r = 0 then (x, p.2.1, p.2.2) else if r = 1 then (p.1, x, p.2.2) else (p.1, p.2.1, x)
structure LS where
  lg : G3
  c : GCur
def lsR (a : LS) : Int × GCur := curN a.c 3
def lsO (a : LS) : Int × GCur := curN (lsR a).2 3
def lsF (a : LS) : Int × GCur := curN (lsO a).2 3
def lsFrom (a : LS) : GLog := getL (lsF a).1 a.lg
def lsU (a : LS) : Int × GCur := curN (lsF a).2 (lsFrom a).units.length
def lsE (a : LS) : GEdit × GCur := editD (lsO a).2
def lsN (a : LS) : LS :=
  if ((lsO a).1 == 0) = true then (if 0 < (lsFrom a).units.length then ⟨putL (lsR a).1 a.lg (heardM (getL (lsR a).1 a.lg) (nth (lsFrom a).units (lsU a).1.toNat)).1, (lsU a).2⟩ else ⟨a.lg, (lsF a).2⟩)
  else ⟨putL (lsR a).1 a.lg (editedM (getL (lsR a).1 a.lg) (lsE a).1).1, (lsE a).2⟩
def logsK (c : GCur) : Nat → LS
  | 0 => ⟨(logNew 0, logNew 1, logNew 2), c⟩
  | i + 1 => lsN (logsK c i)
structure L3 (out : List GAct) (p : G3) : Prop where
  w : Wd out
  a : LOwn out 0 p.1
  b : LOwn out 1 p.2.1
  c : LOwn out 2 p.2.2
theorem L3.get {out : List GAct} {p : G3} (h : L3 out p) {r : Int} (hr : r = 0 ∨ r = 1 ∨ r = 2) : LOwn out r (getL r p) := by
  rcases hr with rfl | rfl | rfl
  · exact h.a
  · exact h.b
  · exact h.c
theorem L3.put {out : List GAct} {p : G3} (h : L3 out p) {r : Int} (hr : r = 0 ∨ r = 1 ∨ r = 2) {x : GLog} (hx : LOwn out r x) : L3 out (putL r p x) := by
  rcases hr with rfl | rfl | rfl
  · exact ⟨h.w, hx, h.b, h.c⟩
  · exact ⟨h.w, h.a, hx, h.c⟩
  · exact ⟨h.w, h.a, h.b, hx⟩
theorem LOwn.more {out out' : List GAct} {r q : Int} {l : GLog} (h : LOwn out q l) (hs : ∀ a, a ∈ out → a ∈ out') (hn : ∀ a, a ∈ out' → a ∈ out ∨ a.dot.rep = r) (hq : q ≠ r) : LOwn out' q l :=
  ⟨h.lg.mono hs, h.rep, fun a ha hr => (hn a ha).elim (fun h1 => h.own a h1 hr) fun h1 => absurd (hr.symm.trans h1) hq⟩
theorem L3.edit {out out' : List GAct} {p : G3} (h : L3 out p) {r : Int} (hr : r = 0 ∨ r = 1 ∨ r = 2) (hW : Wd out') (hs : ∀ a, a ∈ out → a ∈ out') (hn : ∀ a, a ∈ out' → a ∈ out ∨ a.dot.rep = r) {x : GLog} (hx : LOwn out' r x) : L3 out' (putL r p x) := by
  rcases hr with rfl | rfl | rfl
  · exact ⟨hW, hx, h.b.more hs hn (by decide), h.c.more hs hn (by decide)⟩
  · exact ⟨hW, h.a.more hs hn (by decide), hx, h.c.more hs hn (by decide)⟩
  · exact ⟨hW, h.a.more hs hn (by decide), h.b.more hs hn (by decide), hx⟩
theorem lsN_ok {a : LS} (h : a.c.Ok) : (lsN a).c.Ok := by
  have h1 : (lsO a).2.Ok := curN_ok (curN_ok h _) _
  unfold lsN
  split
  · split
    · exact curN_ok (curN_ok h1 _) _
    · exact curN_ok h1 _
  · exact editD_ok h1
theorem logsK_ok {c : GCur} (h : c.Ok) : ∀ i, (logsK c i).c.Ok
  | 0 => h
  | i + 1 => lsN_ok (logsK_ok h i)
theorem three (c : GCur) : (curN c 3).1 = 0 ∨ (curN c 3).1 = 1 ∨ (curN c 3).1 = 2 := by
  have := curN_bd c (n := 3) (by decide)
  omega
theorem lsU_bd {a : LS} (h : 0 < (lsFrom a).units.length) : (lsU a).1.toNat < (lsFrom a).units.length ∧ 0 ≤ (lsU a).1 := by
  have := curN_bd (lsF a).2 (n := ((lsFrom a).units.length : Int)) (by omega)
  unfold lsU
  omega
theorem lsN_log {out : List GAct} {a : LS} (h : L3 out a.lg) (hl : out.length ≤ 59) : ∃ out', out'.length ≤ out.length + 1 ∧ L3 out' (lsN a).lg := by
  have hr := three a.c
  unfold lsN
  split
  · split
    · rename_i hu
      have hF := (h.get (three (lsO a).2)).lg
      have hm := nth_mem (lsU_bd hu).1
      obtain ⟨u1, u2⟩ := hF.un _ hm
      exact ⟨out, by omega, h.put hr (heard_own h.w (h.get hr) u1 u2 (unit_right hF hm))⟩
    · exact ⟨out, by omega, h⟩
  · obtain ⟨out', q1, q2, q3, q4, q5⟩ := edited_log h.w hl (h.get hr) (lsE a).1
    exact ⟨out', q2, h.edit hr q1 q3 q4 q5⟩
theorem wd_nil : Wd [] := ⟨fun i hi => by simp at hi, fun i hi => by simp at hi, by simp⟩
theorem logsK_log (c : GCur) : ∀ i : Nat, i ≤ 60 → ∃ out, out.length ≤ i ∧ L3 out (logsK c i).lg
  | 0, _ => ⟨[], by simp, wd_nil, ⟨logNew_log (by decide) (by decide), rfl, by simp⟩, ⟨logNew_log (by decide) (by decide), rfl, by simp⟩, ⟨logNew_log (by decide) (by decide), rfl, by simp⟩⟩
  | i + 1, hi => by
    obtain ⟨out, h1, h2⟩ := logsK_log c i (by omega)
    obtain ⟨out', q1, q2⟩ := lsN_log h2 (by omega)
    exact ⟨out', by omega, q2⟩
theorem act_Ok {a : GAct} (h : actOk a = true) : a.Ok := by
  have hp := plain_of h
  simp only [actOk, plain, Bool.and_eq_true] at h
  obtain ⟨⟨⟨⟨⟨_, hk⟩, _⟩, ht⟩, ⟨⟨_, ho⟩, hy⟩, hv⟩, _⟩ := h
  simp only [knowOk, Bool.and_eq_true, decide_eq_true_eq] at hk
  have h1 := nameOk_size ho
  have h2 : a.key.size ≤ 8 := by
    split at hy
    · exact nameOk_size hy
    · simp only [decide_eq_true_eq] at hy
      rw [str_nil.1 hy]
      exact Nat.zero_le _
  simp only [GAct.Ok]
  omega
theorem zeroDelta_Ok : zeroDelta.Ok := by simp [GDelta.Ok, zeroDelta]
theorem unit_Ok {u : GUnit} (h : unitOk u = true) (hb : u.batch = false) : u.Ok := by
  obtain ⟨h1, h2⟩ := unitOk_act hb h
  simp only [GUnit.Ok, h2]
  exact ⟨act_Ok h1, zeroDelta_Ok⟩
theorem LG.Ok {out : List GAct} {l : GLog} (h : LG out l) : l.Ok := by
  obtain ⟨D, c1, _⟩ := h.canon
  have h1 := h.ok.u
  have h2 := h.ok.w
  refine ⟨sok_Ok c1.sok, by omega, fun u hu => ?_, by omega, fun u hu => ?_⟩
  · exact unit_Ok (unit_right h hu) (h.un u hu).1
  · exact unit_Ok (h.wt u hu).2.2 (h.wt u hu).1
end Am
namespace Am
open Go
set_option linter.unusedSimpArgs false
set_option linter.unusedVariables false

theorem hearK_app (l m : List GUnit) (a : GLog) : ∀ i : Nat, i ≤ l.length → hearK (l ++ m) a i = hearK l a i
  | 0, _ => rfl
  | i + 1, hi => by rw [hearK, hearK, hearK_app l m a i (by omega), nth_app_l (by omega)]
theorem knowAll_act {u : GUnit} {k : List Int} (h : unitOk u = true) (hb : u.batch = false) : knowAll k u = knows k u.act.dot := by
  have e : coversD u = [u.act.dot] := by simp [coversD, h, hb]
  have e1 : allB (knowAt k u) 1 = knowAt k u 0 := by
    cases hc : knowAt k u 0
    · exact allB_false (i := 0) (by omega) hc
    · rw [allB_iff]
      intro i hi
      obtain rfl : i = 0 := by omega
      exact hc
  unfold knowAll
  rw [e, List.length_singleton, e1, knowAt, e]
  rfl
structure Lacks (out : List GAct) (a b : GLog) (i : Nat) (l : List GUnit) : Prop where
  lg : LG out (hearK l a l.length)
  gr : Grew (fun v => v ∈ b.units ∨ v ∈ a.waits) a (hearK l a l.length)
  wt : ∀ v, v ∈ (hearK l a l.length).waits → v ∈ a.waits
  cd : ∀ j : Nat, j < l.length → (heardM (hearK l a j) (nth l j)).2 = 0 ∨ (heardM (hearK l a j) (nth l j)).2 = 1
  kn : ∀ j : Nat, j < i → knows (hearK l a l.length).state.know (nth b.units j).act.dot = true
  no : a.waits = [] → ∀ v, v ∈ (hearK l a l.length).units → v ∈ a.units ∨ v ∈ b.units
theorem lacks_step {out : List GAct} (hW : Wd out) {a b : GLog} (ha : LG out a) (hb : LG out b) : ∀ i : Nat, i ≤ b.units.length → Lacks out a b i (lackK b a.state.know i)
  | 0, _ => ⟨ha, Grew.refl a, fun _ h => h, fun j hj => by simp [lackK] at hj, fun j hj => by omega, fun _ v hv => .inl hv⟩
  | i + 1, hi => by
    have ih := lacks_step hW ha hb i (by omega)
    have hm := nth_mem (show i < b.units.length by omega)
    obtain ⟨u1, u2⟩ := hb.un _ hm
    have u3 := unit_right hb hm
    rw [lackK]
    split
    · rename_i hk
      rw [knowAll_act u3 u1] at hk
      refine ⟨ih.lg, ih.gr, ih.wt, ih.cd, fun j hj => ?_, ih.no⟩
      rcases Nat.lt_or_ge j i with h1 | h1
      · exact ih.kn j h1
      · obtain rfl : j = i := by omega
        exact grew_knows hW ha ih.lg ih.gr hk
    · generalize lackK b a.state.know i = l at *
      obtain ⟨q1, q2, q3⟩ := heard_log hW ih.lg u1 u2 u3
      have e : hearK (l ++ [nth b.units i]) a (l ++ [nth b.units i]).length = (heardM (hearK l a l.length) (nth b.units i)).1 := by
        rw [List.length_append, List.length_singleton, hearK, hearK_app _ _ _ _ (Nat.le_refl _), nth_app_at]
      have hne := not_early hW hb ih.lg (show i < b.units.length by omega) ih.kn
      have q4 : ((heardM (hearK l a l.length) (nth b.units i)).2 = 0 ∨ (heardM (hearK l a l.length) (nth b.units i)).2 = 1) ∧ knows (heardM (hearK l a l.length) (nth b.units i)).1.state.know (nth b.units i).act.dot = true := by
        rcases q3 with ⟨e, _, c, _⟩ | ⟨e, c⟩ | ⟨_, _, c⟩
        · exact ⟨.inl (by rw [e]), c⟩
        · rw [e]; exact ⟨.inr rfl, c⟩
        · rw [hne] at c; cases c
      refine ⟨by rw [e]; exact q1, by rw [e]; exact ih.gr.trans (q2.mono fun v hv => hv.elim (fun h => .inl (h ▸ hm)) fun h => .inr (ih.wt v h)), ?_, fun j hj => ?_, fun j hj => ?_, fun hw v hv => ?_⟩
      · rw [e]
        intro v hv
        rcases q3 with ⟨e, c4, _, _⟩ | ⟨e, _⟩ | ⟨_, _, c⟩
        · rw [e] at hv
          exact ih.wt v ((wakeM_log ((doneM (hearK l a l.length) (nth b.units i)).waits.length + 1) (ih.lg.done u1 u2 u3 c4)).2.2 v hv)
        · rw [e] at hv; exact ih.wt v hv
        · rw [hne] at c; cases c
      · rw [List.length_append, List.length_singleton] at hj
        rw [hearK_app _ _ _ _ (by omega)]
        rcases Nat.lt_or_ge j l.length with h1 | h1
        · rw [nth_app_l h1]; exact ih.cd j h1
        · obtain rfl : j = l.length := by omega
          rw [nth_app_at]; exact q4.1
      · rw [e]
        rcases Nat.lt_or_ge j i with h1 | h1
        · exact grew_knows hW ih.lg q1 q2 (ih.kn j h1)
        · obtain rfl : j = i := by omega
          exact q4.2
      · rw [e] at hv
        have hw' : (hearK l a l.length).waits = [] := by
          apply List.eq_nil_iff_forall_not_mem.2
          intro v hv
          have := ih.wt v hv
          rw [hw] at this; cases this
        rcases q3 with ⟨_, _, _, c⟩ | ⟨e, _⟩ | ⟨_, _, c⟩
        · rw [c hw'] at hv
          rcases List.mem_append.1 hv with hv | hv
          · exact ih.no hw v hv
          · rw [List.mem_singleton.1 hv]; exact .inr hm
        · rw [e] at hv; exact ih.no hw v hv
        · rw [hne] at c; cases c
theorem lackK_none {l : GLog} {k : List Int} (h : ∀ u, u ∈ l.units → knowAll k u = true) : ∀ i : Nat, i ≤ l.units.length → lackK l k i = []
  | 0, _ => rfl
  | i + 1, hi => by rw [lackK, if_pos (h _ (nth_mem (by omega))), lackK_none h i (by omega)]
theorem lacks_law {out : List GAct} (hW : Wd out) {a b m : GLog} {l : List GUnit} (ha : LG out a) (hb : LG out b) (hl : l = lackOf b a.state.know) (hm : m = hearK l a l.length) :
    (∀ j : Nat, j < l.length → (heardM (hearK l a j) (nth l j)).2 = 0 ∨ (heardM (hearK l a j) (nth l j)).2 = 1) ∧ LG out m ∧ knowIn b.state.know m.state.know = true ∧ lackOf b m.state.know = [] ∧ l.length ≤ b.units.length ∧
    behind (mergeState a.state b.state) m.state = true ∧ (a.waits = [] → m.state = mergeState a.state b.state) := by
  obtain ⟨A, a1, a2, a3, a4⟩ := ha.canon
  obtain ⟨B, b1, b2, b3, b4⟩ := hb.canon
  have hka := a1.sok.k
  have e1 : l = lackK b a.state.know b.units.length := by rw [hl, lackOf, if_pos hka]
  have hL := lacks_step hW ha hb b.units.length (Nat.le_refl _)
  rw [← e1] at hL
  have hlen : l.length ≤ b.units.length := by rw [e1]; exact lackK_len _ _ _
  obtain ⟨g1, g2, g3, g4, g5, g6⟩ := hL
  rw [← hm] at g1 g2 g3 g5 g6
  obtain ⟨M, m1, m2, m3, m4⟩ := g1.canon
  have hkn : ∀ u, u ∈ b.units → knows m.state.know u.act.dot = true := fun u hu => by
    obtain ⟨j, hj, rfl⟩ := mem_nth hu
    exact g5 j hj
  have BM : ∀ x, x ∈ B → x ∈ M := fun x hx => by
    obtain ⟨u, hu, rfl⟩ := (b3 x).1 hx
    exact (m3 _).2 ((g1.knows hW (hb.un u hu).2).1 (hkn u hu))
  have AM : ∀ x, x ∈ A → x ∈ M := fun x hx => by
    obtain ⟨u, hu, rfl⟩ := (a3 x).1 hx
    exact (m3 _).2 ⟨u, g2.u u hu, rfl⟩
  have lA := wd_len hW a1.nod a4
  have lB := wd_len hW b1.nod b4
  have lM := wd_len hW m1.nod m4
  obtain ⟨D, d1, d2, d3, _⟩ := merge_all a1 b1 (fun x y hx hy e => wd_one hW (a4 x hx) (b4 y hy) e) (by omega)
  have DM : ∀ x, x ∈ D → x ∈ M := fun x hx => ((d1 x).1 hx).elim (AM x) (BM x)
  have DO : ∀ x, x ∈ D → x ∈ out := fun x hx => m4 x (DM x hx)
  have lD := wd_len hW d3.nod DO
  refine ⟨g4, g1, know_sub b1 m1 BM, ?_, hlen, behind_sub d3 m1 DM (by omega), fun hw => ?_⟩
  · rw [lackOf, if_pos m1.sok.k]
    refine lackK_none (fun u hu => ?_) _ (Nat.le_refl _)
    rw [knowAll_act (unit_right hb hu) (hb.un u hu).1]
    exact hkn u hu
  · refine canon_eq m1 d3 fun x => ⟨fun hx => ?_, DM x⟩
    obtain ⟨u, hu, rfl⟩ := (m3 x).1 hx
    rcases g6 hw u hu with hu | hu
    · exact (d1 _).2 (.inl ((a3 _).2 ⟨u, hu, rfl⟩))
    · exact (d1 _).2 (.inr ((b3 _).2 ⟨u, hu, rfl⟩))
end Am
