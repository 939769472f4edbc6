/- Logs,plainly: what is right,what is heard. No condition. -/
import Derived.Test.YteidfkbfocdnmaaGreatD
import Derived.Test.YteidfkbfocdnmaaGreatU1
import Derived.Test.YteidfkbfocdnmaaGreatE62
import Derived.Test.YteidfkbfocdnmaaGreatE93a
import Derived.Test.YteidfkbfocdnmaaGreatE9
import Derived.Test.YteidfkbfocdnmaaGreatV1
set_option linter.unusedSimpArgs false
set_option linter.unusedVariables false
set_option linter.unnecessarySimpa false
set_option linter.unusedSectionVars false
namespace Am
open Go
def unitTime (u:GUnit):Int:=if u.batch = true then timeK u.delta.cs u.delta.cs.length else u.act.time
def runU (l:List GUnit):Nat → GState
  | 0 => stateNew
  | i + 1 => (doUnit (runU l i) (nth l i)).1
def goodU (T:Int) (l:List GUnit) (i:Nat):Bool:=unitOk (nth l i) && decide (unitTime (nth l i) ≤ T) && decide ((doUnit (runU l i) (nth l i)).2 = 0)
def logHead (l:GLog):Bool:=spIn l.rep 0 2 && spIn l.time 0 10000 && decide (l.units.length ≤ 60) && decide (l.waits.length ≤ 6) && decide (timeOf l.state ≤ l.time)
def waitsOk (l:List GUnit):Bool:=allB (fun i => unitOk (nth l i)) l.length
def logOk (l:GLog):Bool:=logHead l && waitsOk l.waits && allB (goodU l.time l.units) l.units.length && decide (runU l.units l.units.length = l.state)
def noteM (l:GLog) (u:GUnit):GLog:=if 6 ≤ l.waits.length ∨ u ∈ l.waits then l else { l with waits:=l.waits ++ [u] }
def doneM (l:GLog) (u:GUnit):GLog:={ l with state:=(doUnit l.state u).1,units:=l.units ++ [u],time:=max l.time (unitTime u) }
def canM (l:GLog) (u:GUnit):Bool:=decide ((doUnit l.state u).2 = 0 ∧ l.units.length < 60)
def wkK (ws:List GUnit) (l:GLog):Nat → GLog × List GUnit × Bool
  | 0 => (l,[],false)
  | i + 1 => if canM (wkK ws l i).1 (nth ws i) = true then (doneM (wkK ws l i).1 (nth ws i),(wkK ws l i).2.1,true)
    else if (doUnit (wkK ws l i).1.state (nth ws i)).2 = 1 then wkK ws l i else ((wkK ws l i).1,(wkK ws l i).2.1 ++ [nth ws i],(wkK ws l i).2.2)
def passM (l:GLog):GLog:={ (wkK l.waits l l.waits.length).1 with waits:=(wkK l.waits l l.waits.length).2.1 }
def someM (l:GLog):Bool:=(wkK l.waits l l.waits.length).2.2
def wakeM:Nat → GLog → GLog
  | 0,l => l
  | f + 1,l => if someM l = true then wakeM f (passM l) else passM l
def wake (l:GLog):GLog:=wakeM (l.waits.length + 1) l
def heardM (l:GLog) (u:GUnit):GLog × Int :=
  if (unitOk u && logOk l) = false then (l,3) else if (doUnit l.state u).2 = 2 then (noteM l u,2) else if ¬ (doUnit l.state u).2 = 0 then (l,(doUnit l.state u).2)
  else if 60 ≤ l.units.length then (l,4) else (wake (doneM l u),0)
def actU (a:GAct):GUnit:=⟨false,a,zeroDelta⟩
def editedM (l:GLog) (e:GEdit):GLog × GUnit × Int :=
  if logOk l = false then (l,actU zeroAct,3) else if ¬ (actOf l.state l.rep (l.time + 1) e).2 = 0 then (l,actU zeroAct,(actOf l.state l.rep (l.time + 1) e).2)
  else if ¬ (doAct l.state (actOf l.state l.rep (l.time + 1) e).1).2 = 0 ∨ 60 ≤ l.units.length then (l,actU zeroAct,4)
  else ({ l with state:=(doAct l.state (actOf l.state l.rep (l.time + 1) e).1).1,time:=l.time + 1,units:=l.units ++ [actU (actOf l.state l.rep (l.time + 1) e).1] },actU (actOf l.state l.rep (l.time + 1) e).1,0)
def logNew (r:Int):GLog:=⟨r,0,stateNew,[],[]⟩
theorem wk_len (ws:List GUnit) (l:GLog):∀ i:Nat,(wkK ws l i).2.1.length ≤ i ∧ ((wkK ws l i).2.2 = true → (wkK ws l i).2.1.length < i)
  | 0 => by simp [wkK]
  | i + 1 => by
    obtain ⟨h1,h2⟩:=wk_len ws l i
    rw [wkK]
    split
    · exact ⟨by simp only; omega,fun _ => by simp only; omega⟩
    split
    · exact ⟨by omega,fun _ => by omega⟩
    · simp only [List.length_append,List.length_singleton]
      exact ⟨by omega,fun h => by have:=h2 h; omega⟩
theorem pass_len (l:GLog):(passM l).waits.length ≤ l.waits.length ∧ (someM l = true → (passM l).waits.length < l.waits.length):=wk_len l.waits l l.waits.length
def plainU (l:List GUnit):Prop:=∀ u,u ∈ l → u.batch = false
theorem doUnit_act {s:GState} {u:GUnit} (h:u.batch = false):doUnit s u = doAct s u.act:=by simp [doUnit,h]
structure LOk (l:GLog):Prop where
  r0:0 ≤ l.rep
  r1:l.rep ≤ 2
  t0:0 ≤ l.time
  t1:l.time ≤ 10000
  u:l.units.length ≤ 60
  w:l.waits.length ≤ 6
  ts:timeOf l.state ≤ l.time
  wu:∀ u,u ∈ l.waits → unitOk u = true
  g:∀ i:Nat,i < l.units.length → goodU l.time l.units i = true
  s:runU l.units l.units.length = l.state
theorem waitsOk_iff {l:List GUnit}:waitsOk l = true ↔ ∀ u,u ∈ l → unitOk u = true:=by
  unfold waitsOk
  rw [allB_iff]
  constructor
  · intro h u hu
    obtain ⟨j,hj,rfl⟩:=mem_nth hu
    exact h j hj
  · intro h i hi
    exact h _ (nth_mem hi)
theorem logOk_iff {l:GLog}:logOk l = true ↔ LOk l:=by
  simp only [logOk,logHead,spIn,Bool.and_eq_true,decide_eq_true_eq,waitsOk_iff,allB_iff]
  constructor
  · rintro ⟨⟨⟨⟨⟨⟨⟨⟨a1,a2⟩,a3,a4⟩,a5⟩,a6⟩,a7⟩,a8⟩,a9⟩,a10⟩
    exact ⟨a1,a2,a3,a4,a5,a6,a7,a8,a9,a10⟩
  · rintro ⟨a1,a2,a3,a4,a5,a6,a7,a8,a9,a10⟩
    exact ⟨⟨⟨⟨⟨⟨⟨⟨a1,a2⟩,a3,a4⟩,a5⟩,a6⟩,a7⟩,a8⟩,a9⟩,a10⟩
theorem goodU_iff {T:Int} {l:List GUnit} {i:Nat}:goodU T l i = true ↔ unitOk (nth l i) = true ∧ unitTime (nth l i) ≤ T ∧ (doUnit (runU l i) (nth l i)).2 = 0:=by
  simp only [goodU,Bool.and_eq_true,decide_eq_true_eq]
  constructor
  · rintro ⟨⟨a,b⟩,c⟩; exact ⟨a,b,c⟩
  · rintro ⟨a,b,c⟩; exact ⟨⟨a,b⟩,c⟩
theorem runU_app (l:List GUnit) (u:GUnit):∀ i:Nat,i ≤ l.length → runU (l ++ [u]) i = runU l i
  | 0,_ => rfl
  | i + 1,hi => by rw [runU,runU,runU_app l u i (by omega),nth_app_l (by omega)]
theorem unitTime_act {u:GUnit} (h:u.batch = false):unitTime u = u.act.time:=by simp [unitTime,h]
theorem unitOk_act {u:GUnit} (h:u.batch = false) (hu:unitOk u = true):actOk u.act = true ∧ u.delta = zeroDelta:=by
  simpa [unitOk,h] using hu
theorem act_time {a:GAct} (h:actOk a = true):1 ≤ a.time ∧ a.time ≤ 10000:=by
  have:=plain_of h
  omega
theorem done_timeOf {s:GState} {a:GAct} (hd:Done s a) {m:Int} (h1:timeOf s ≤ m) (h2:a.time ≤ m):timeOf (doneAct s a) ≤ m:=by
  have h0:=(timeOf_bd hd.s0).1
  refine timeOf_le (by omega) fun x hx => ?_
  rcases done_time hd hx with ⟨y,hy,e⟩ | e
  · have:=time_le hy; omega
  · omega
theorem done_LOk {l:GLog} (h:LOk l) {u:GUnit} (hb:u.batch = false) (hu:unitOk u = true) (hd:(doUnit l.state u).2 = 0) (hl:l.units.length < 60) {t:Int} (ht:l.time ≤ t) (ha:u.act.time ≤ t) (hm:t ≤ 10000) :
    LOk { l with state:=(doUnit l.state u).1,units:=l.units ++ [u],time:=t }:=by
  have h0:=h.t0
  rw [doUnit_act hb] at hd
  obtain ⟨d1,d2⟩:=done_of hd
  refine ⟨h.r0,h.r1,by show 0 ≤ t; omega,hm,by simp only [List.length_append,List.length_singleton]; omega,h.w,?_,h.wu,?_,?_⟩
  · show timeOf (doUnit l.state u).1 ≤ t
    rw [doUnit_act hb,d2]
    have:=h.ts
    exact done_timeOf d1 (by omega) ha
  · intro i hi
    simp only [List.length_append,List.length_singleton] at hi
    rw [goodU_iff]
    show unitOk (nth (l.units ++ [u]) i) = true ∧ unitTime (nth (l.units ++ [u]) i) ≤ t ∧ (doUnit (runU (l.units ++ [u]) i) (nth (l.units ++ [u]) i)).2 = 0
    rw [runU_app l.units u i (by omega)]
    rcases Nat.lt_or_ge i l.units.length with h1 | h1
    · rw [nth_app_l h1]
      obtain ⟨g1,g2,g3⟩:=goodU_iff.1 (h.g i h1)
      exact ⟨g1,by omega,g3⟩
    · obtain rfl:i = l.units.length:=by omega
      rw [nth_app_at,h.s,doUnit_act hb,unitTime_act hb]
      exact ⟨hu,ha,hd⟩
  · show runU (l.units ++ [u]) (l.units ++ [u]).length = (doUnit l.state u).1
    rw [List.length_append,List.length_singleton,runU,runU_app _ _ _ (Nat.le_refl _),nth_app_at,h.s]
theorem doneM_LOk {l:GLog} (h:LOk l) {u:GUnit} (hb:u.batch = false) (hu:unitOk u = true) (hc:canM l u = true):LOk (doneM l u):=by
  simp only [canM,decide_eq_true_eq] at hc
  have ht:=act_time (unitOk_act hb hu).1
  have h1:=h.t1
  have e:=unitTime_act hb
  exact done_LOk h hb hu hc.1 hc.2 (by omega) (by omega) (by omega)
structure LG (out:List GAct) (l:GLog):Prop where
  ok:LOk l
  un:∀ u,u ∈ l.units → u.batch = false ∧ u.act ∈ out
  wt:∀ u,u ∈ l.waits → u.batch = false ∧ u.act ∈ out ∧ unitOk u = true
theorem LG.plain {out:List GAct} {l:GLog} (h:LG out l):plainU l.units:=fun u hu => (h.un u hu).1
theorem LG.done {out:List GAct} {l:GLog} (h:LG out l) {u:GUnit} (hb:u.batch = false) (ha:u.act ∈ out) (hu:unitOk u = true) (hc:canM l u = true):LG out (doneM l u):=by
  refine ⟨doneM_LOk h.ok hb hu hc,fun v hv => ?_,h.wt⟩
  rcases List.mem_append.1 hv with hv | hv
  · exact h.un v hv
  · rw [List.mem_singleton.1 hv]; exact ⟨hb,ha⟩
structure Grew (P:GUnit → Prop) (l m:GLog):Prop where
  r:m.rep = l.rep
  u:∀ u,u ∈ l.units → u ∈ m.units
  n:∀ u,u ∈ m.units → u ∈ l.units ∨ P u
theorem Grew.refl {P:GUnit → Prop} (l:GLog):Grew P l l:=⟨rfl,fun _ h => h,fun _ h => .inl h⟩
theorem Grew.trans {P:GUnit → Prop} {l m n:GLog} (h:Grew P l m) (g:Grew P m n):Grew P l n :=
  ⟨g.r.trans h.r,fun u hu => g.u u (h.u u hu),fun u hu => (g.n u hu).elim (fun h1 => h.n u h1) .inr⟩
theorem Grew.mono {P Q:GUnit → Prop} {l m:GLog} (h:Grew P l m) (hq:∀ u,P u → Q u):Grew Q l m:=⟨h.r,h.u,fun u hu => (h.n u hu).imp id (hq u)⟩
theorem LG.waits {out:List GAct} {l:GLog} (h:LG out l) {ws:List GUnit} (hl:ws.length ≤ 6) (hw:∀ u,u ∈ ws → u.batch = false ∧ u.act ∈ out ∧ unitOk u = true):LG out { l with waits:=ws } :=
  ⟨⟨h.ok.r0,h.ok.r1,h.ok.t0,h.ok.t1,h.ok.u,hl,h.ok.ts,fun u hu => (hw u hu).2.2,h.ok.g,h.ok.s⟩,h.un,hw⟩
end Am
namespace Am
open Go
abbrev G3:=GLog × GLog × GLog
def getL (r:Int) (p:G3):GLog:=if r = 0 then p.1 else if r = 1 then p.2.1 else p.2.2
def putL (r:Int) (p:G3) (x:GLog):G3:=if r = 0 then (x,p.2.1,p.2.2) else if r = 1 then (p.1,x,p.2.2) else (p.1,p.2.1,x)
structure LS where
  lg:G3
  c:GCur
def lsR (a:LS):Int × GCur:=curN a.c 3
def lsO (a:LS):Int × GCur:=curN (lsR a).2 3
def lsF (a:LS):Int × GCur:=curN (lsO a).2 3
def lsFrom (a:LS):GLog:=getL (lsF a).1 a.lg
def lsU (a:LS):Int × GCur:=curN (lsF a).2 (lsFrom a).units.length
def lsE (a:LS):GEdit × GCur:=editD (lsO a).2
def lsN (a:LS):LS :=
  if ((lsO a).1 == 0) = true then (if 0 < (lsFrom a).units.length then ⟨putL (lsR a).1 a.lg (heardM (getL (lsR a).1 a.lg) (nth (lsFrom a).units (lsU a).1.toNat)).1,(lsU a).2⟩ else ⟨a.lg,(lsF a).2⟩)
  else ⟨putL (lsR a).1 a.lg (editedM (getL (lsR a).1 a.lg) (lsE a).1).1,(lsE a).2⟩
def logsK (c:GCur):Nat → LS
  | 0 => ⟨(logNew 0,logNew 1,logNew 2),c⟩
  | i + 1 => lsN (logsK c i)
theorem lsN_ok {a:LS} (h:a.c.Ok):(lsN a).c.Ok:=by
  have h1:(lsO a).2.Ok:=curN_ok (curN_ok h _) _
  unfold lsN
  split
  · split
    · exact curN_ok (curN_ok h1 _) _
    · exact curN_ok h1 _
  · exact editD_ok h1
theorem logsK_ok {c:GCur} (h:c.Ok):∀ i,(logsK c i).c.Ok
  | 0 => h
  | i + 1 => lsN_ok (logsK_ok h i)
theorem lsU_bd {a:LS} (h:0 < (lsFrom a).units.length):(lsU a).1.toNat < (lsFrom a).units.length ∧ 0 ≤ (lsU a).1:=by
  have:=curN_bd (lsF a).2 (n:=((lsFrom a).units.length:Int)) (by omega)
  unfold lsU
  omega
theorem zeroDelta_Ok:zeroDelta.Ok:=by simp [GDelta.Ok,zeroDelta]
structure LPl (l:GLog):Prop where
  ok:l.Ok
  pu:plainU l.units
  pw:plainU l.waits
  u:l.units.length ≤ 60
  w:l.waits.length ≤ 6
theorem LPl.uo {l:GLog} (h:LPl l) {u:GUnit} (hu:u ∈ l.units):u.Ok:=by
  have:=h.ok
  simp only [GLog.Ok] at this
  exact this.2.2.1 u hu
theorem LPl.wo {l:GLog} (h:LPl l) {u:GUnit} (hu:u ∈ l.waits):u.Ok:=by
  have:=h.ok
  simp only [GLog.Ok] at this
  exact this.2.2.2.2 u hu
theorem plainU_app {l:List GUnit} (h:plainU l) {u:GUnit} (hu:u.batch = false):plainU (l ++ [u]):=fun v hv => by
  rcases List.mem_append.1 hv with hv | hv
  · exact h v hv
  · rw [List.mem_singleton.1 hv]; exact hu
theorem unitOk_app {l:List GUnit} (h:∀ v,v ∈ l → v.Ok) {u:GUnit} (hu:u.Ok):∀ v,v ∈ l ++ [u] → v.Ok:=fun v hv => by
  rcases List.mem_append.1 hv with hv | hv
  · exact h v hv
  · rw [List.mem_singleton.1 hv]; exact hu
theorem LPl.done {l:GLog} (h:LPl l) {u:GUnit} (hu:u.Ok) (hb:u.batch = false) (hl:l.units.length < 60):LPl (doneM l u):=by
  have ho:=h.ok
  simp only [GLog.Ok] at ho
  obtain ⟨h0,h1,h2,h3,h4⟩:=ho
  have hle:(l.units ++ [u]).length ≤ 60:=by simp only [List.length_append,List.length_singleton]; omega
  exact ⟨⟨doUnit_ok h0 hu,Nat.le_trans hle (by decide),unitOk_app h2 hu,h3,h4⟩,plainU_app h.pu hb,h.pw,hle,h.w⟩
theorem LPl.set {l:GLog} (h:LPl l) {ws:List GUnit} (hl:ws.length ≤ 6) (hw:∀ u,u ∈ ws → u.Ok ∧ u.batch = false):LPl { l with waits:=ws }:=by
  have ho:=h.ok
  simp only [GLog.Ok] at ho
  obtain ⟨h0,h1,h2,h3,h4⟩:=ho
  exact ⟨⟨h0,h1,h2,Nat.le_trans hl (by decide),fun u hu => (hw u hu).1⟩,h.pu,fun u hu => (hw u hu).2,h.u,hl⟩
theorem wk_pl {ws:List GUnit} {l:GLog} (h:LPl l) (hw:∀ u,u ∈ ws → u.Ok ∧ u.batch = false):∀ i:Nat,i ≤ ws.length → LPl (wkK ws l i).1 ∧ (∀ u,u ∈ (wkK ws l i).2.1 → u ∈ ws)
  | 0,_ => ⟨h,by simp [wkK]⟩
  | i + 1,hi => by
    obtain ⟨h1,h2⟩:=wk_pl h hw i (by omega)
    have hm:=nth_mem (show i < ws.length by omega)
    rw [wkK]
    split
    · rename_i hc
      simp only [canM,decide_eq_true_eq] at hc
      exact ⟨h1.done (hw _ hm).1 (hw _ hm).2 hc.2,h2⟩
    split
    · exact ⟨h1,h2⟩
    · refine ⟨h1,fun u hu => ?_⟩
      rcases List.mem_append.1 hu with hu | hu
      · exact h2 u hu
      · rw [List.mem_singleton.1 hu]; exact hm
theorem pass_pl {l:GLog} (h:LPl l):LPl (passM l):=by
  have hw:∀ u,u ∈ l.waits → u.Ok ∧ u.batch = false:=fun u hu => ⟨h.wo hu,h.pw u hu⟩
  obtain ⟨h1,h2⟩:=wk_pl h hw l.waits.length (Nat.le_refl _)
  have hl:=(wk_len l.waits l l.waits.length).1
  have:=h.w
  exact h1.set (by omega) fun u hu => hw u (h2 u hu)
theorem wake_pl:∀ (f:Nat) {l:GLog},LPl l → LPl (wakeM f l)
  | 0,_,h => h
  | f + 1,l,h => by
    rw [wakeM]
    split
    · exact wake_pl f (pass_pl h)
    · exact pass_pl h
theorem heard_pl {l:GLog} (h:LPl l) {u:GUnit} (hu:u.Ok) (hb:u.batch = false):LPl (heardM l u).1:=by
  unfold heardM
  split
  · exact h
  split
  · unfold noteM
    split
    · exact h
    · rename_i hc
      refine h.set (by simp only [List.length_append,List.length_singleton]; have:=h.w; omega) fun v hv => ?_
      rcases List.mem_append.1 hv with hv | hv
      · exact ⟨h.wo hv,h.pw v hv⟩
      · rw [List.mem_singleton.1 hv]; exact ⟨hu,hb⟩
  split
  · exact h
  split
  · exact h
  · exact wake_pl _ (h.done hu hb (by omega))
theorem edited_pl {l:GLog} (h:LPl l) {e:GEdit} (o1:e.obj.size ≤ 1073741824) (o2:e.key.size ≤ 1073741824):LPl (editedM l e).1:=by
  have ho:=h.ok
  simp only [GLog.Ok] at ho
  obtain ⟨h0,h1,h2,h3,h4⟩:=ho
  have hA:(actOf l.state l.rep (l.time + 1) e).1.Ok:=actOf_ok h0 o1 o2
  unfold editedM
  split
  · exact h
  split
  · exact h
  split
  · exact h
  · rename_i hc
    simp only [not_or,Nat.not_le] at hc
    have hle:(l.units ++ [actU (actOf l.state l.rep (l.time + 1) e).1]).length ≤ 60:=by simp only [List.length_append,List.length_singleton]; omega
    exact ⟨⟨doAct_ok h0 hA,Nat.le_trans hle (by decide),unitOk_app h2 ⟨hA,zeroDelta_Ok⟩,h3,h4⟩,plainU_app h.pu rfl,h.pw,hle,h.w⟩
theorem logNew_pl (r:Int):LPl (logNew r):=⟨by simp [logNew,GLog.Ok,stateNew,GState.Ok],by simp [logNew,plainU],by simp [logNew,plainU],by simp [logNew],by simp [logNew]⟩
structure P3 (p:G3):Prop where
  a:LPl p.1
  b:LPl p.2.1
  c:LPl p.2.2
theorem P3.get {p:G3} (h:P3 p) (r:Int):LPl (getL r p):=by
  unfold getL
  split
  · exact h.a
  split
  · exact h.b
  · exact h.c
theorem P3.put {p:G3} (h:P3 p) (r:Int) {x:GLog} (hx:LPl x):P3 (putL r p x):=by
  unfold putL
  split
  · exact ⟨hx,h.b,h.c⟩
  split
  · exact ⟨h.a,hx,h.c⟩
  · exact ⟨h.a,h.b,hx⟩
theorem lsN_pl {a:LS} (h:P3 a.lg):P3 (lsN a).lg:=by
  unfold lsN
  split
  · split
    · rename_i hu
      have hF:LPl (lsFrom a):=h.get _
      have hm:=nth_mem (lsU_bd hu).1
      exact h.put _ (heard_pl (h.get _) (hF.uo hm) (hF.pu _ hm))
    · exact h
  · obtain ⟨_,s1,s2,_⟩:=editD_good (lsO a).2
    exact h.put _ (edited_pl (h.get _) (by show (editD _).1.obj.size ≤ _; omega) (by show (editD _).1.key.size ≤ _; omega))
theorem logsK_pl (c:GCur):∀ i:Nat,P3 (logsK c i).lg
  | 0 => ⟨logNew_pl 0,logNew_pl 1,logNew_pl 2⟩
  | i + 1 => lsN_pl (logsK_pl c i)
end Am
namespace Am
open Go
end Am
namespace Am
open Go
theorem deltaOf_ok {p c:GState} (hp:p.Ok) (hc:c.Ok):(deltaOf p c).1.Ok:=by
  unfold deltaOf
  split
  · simp only [GState.Ok] at hp hc
    simp only [GDelta.Ok]
    have h1:=dTal_len p c c.tallies.length
    have h2:=dLivs_len p c c.lives.length
    have h3:=deadK_len c p.lives p.lives.length
    have h4:=dCels_len p c c.cs.length
    refine ⟨hp.1,hc.1,?_,?_,?_,?_,?_,?_,?_⟩
    · simp only [deltaRaw]; omega
    · intro y hy
      rcases (filK_mem (Nat.le_refl _)).1 hy with h | ⟨i,hi,rfl,_⟩
      · cases h
      · exact hc.2.2.1 _ (nth_mem hi)
    · simp only [deltaRaw]; omega
    · intro y hy
      rcases (filK_mem (Nat.le_refl _)).1 hy with h | ⟨i,hi,rfl,_⟩
      · cases h
      · exact hc.2.2.2.2.1 _ (nth_mem hi)
    · simp only [deltaRaw]; omega
    · simp only [deltaRaw]; omega
    · intro y hy
      rcases (filK_mem (Nat.le_refl _)).1 hy with h | ⟨i,hi,rfl,_⟩
      · cases h
      · exact hc.2.2.2.2.2.2 _ (nth_mem hi)
  · simp [noDelta,GDelta.Ok]
end Am
