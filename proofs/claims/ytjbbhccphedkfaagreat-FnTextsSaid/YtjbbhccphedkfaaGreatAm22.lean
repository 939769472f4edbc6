/- What the abstract machine is walked with. No condition. -/
import Derived.Test.YtjbbhccphedkfaaGreatL1
set_option linter.unusedSimpArgs false
set_option linter.unusedVariables false
set_option linter.unnecessarySimpa false
set_option linter.unusedSectionVars false
namespace Am
open Go
@[simp] theorem mkE_t (l:List (Nat × AV)) (lo:List (Nat × AObj)) (i:Nat):(mkE l lo).t i = look i l:=rfl
@[simp] theorem mkE_o (l:List (Nat × AV)) (lo:List (Nat × AObj)) (i:Nat):(mkE l lo).o i = lookO i lo:=rfl
@[simp] theorem mkE_ofun (l:List (Nat × AV)) (lo:List (Nat × AObj)):(mkE l lo).o = fun i => lookO i lo:=rfl
@[simp] theorem mkE_tfun (l:List (Nat × AV)) (lo:List (Nat × AObj)):(mkE l lo).t = fun i => look i l:=rfl
@[simp] theorem set_mkE (l:List (Nat × AV)) (lo:List (Nat × AObj)) (d:Nat) (v:AV):(mkE l lo).set (some d) v = mkE ((d,v) :: l) lo:=rfl
@[simp] theorem set_none (σ:AEnv) (v:AV):σ.set none v = σ:=rfl
@[simp] theorem wr_nil (σ:AEnv):AEnv.wr [] σ = σ:=rfl
@[simp] theorem wr_cons (k:Nat) (ob:AObj) (r:List (Nat × AObj)) (σ:AEnv):AEnv.wr ((k,ob) :: r) σ = (AEnv.wr r σ).upd k ob:=rfl
@[simp] theorem upd_mkE (l:List (Nat × AV)) (lo:List (Nat × AObj)) (k:Nat) (ob:AObj):(mkE l lo).upd k ob = mkE l ((k,ob) :: lo):=rfl
@[simp] theorem look_cons (i j:Nat) (v:AV) (r:List (Nat × AV)):look i ((j,v) :: r) = if i = j then v else look i r:=rfl
@[simp] theorem lookO_cons (i j:Nat) (v:AObj) (r:List (Nat × AObj)):lookO i ((j,v) :: r) = if i = j then v else lookO i r:=rfl
@[simp] theorem look_nil (i:Nat):look i [] = .any:=rfl
@[simp] theorem lookO_nil (i:Nat):lookO i [] = .none:=rfl
@[simp] theorem ev_tmp (σ:AEnv) (t:Nat):ev σ (.tmp t) = σ.t t:=rfl
@[simp] theorem ev_const (σ:AEnv) (v:Value):ev σ (.const v) = ofConst v:=rfl
@[simp] theorem ev_func (σ:AEnv) (f:Nat):ev σ (.func f) = .fn f []:=rfl
@[simp] theorem ev_mkE (l:List (Nat × AV)) (lo:List (Nat × AObj)) (t:Nat):ev (mkE l lo) (.tmp t) = look t l:=rfl
@[simp] theorem ug_c (p:PV):(AV.c p).ug = (True,.c p):=rfl
@[simp] theorem ug_any:AV.any.ug = (True,.any):=rfl
@[simp] theorem ug_nil:AV.nil.ug = (True,.nil):=rfl
@[simp] theorem ug_agg (cs:List AV):(AV.agg cs).ug = (True,.agg cs):=rfl
@[simp] theorem ug_box (o i:Nat):(AV.box o i).ug = (True,.box o i):=rfl
@[simp] theorem ug_arr (o:Nat):(AV.arr o).ug = (True,.arr o):=rfl
@[simp] theorem ug_pa (o i:Nat):(AV.pa o i).ug = (True,.pa o i):=rfl
@[simp] theorem ug_inr (o g i:Nat):(AV.inr o g i).ug = (True,.inr o g i):=rfl
@[simp] theorem ug_pc (cs:List PV) (i:Nat):(AV.pc cs i).ug = (True,.pc cs i):=rfl
@[simp] theorem ug_tup (cs:List AV):(AV.tup cs).ug = (True,.tup cs):=rfl
@[simp] theorem ug_fn (f:Nat) (cs:List AV):(AV.fn f cs).ug = (True,.fn f cs):=rfl
@[simp] theorem ug_gd (b:Bool) (v:AV):(AV.gd b v).ug = (b = true,v):=rfl
@[simp] theorem ug_mp (o:Nat):(AV.mp o).ug = (True,.mp o):=rfl
@[simp] theorem callee_fn {ρ:Operand → AV} {x:Operand}:calleeOf ρ x = match (ρ x).ug with
  | (s,.fn f cap) => some (s,f,cap)
  | _ => none:=rfl
def ACallK (P:Program) (f:Nat) (cargs:List CV) (vw:List Nat) (own:Bool) (d:Nat) (O:Nat → AObj) (K:AV → List (Nat × AObj) → Prop) (_:Hold K):Prop:=ACallV P f cargs vw own d O K
def ACallW (P:Program) (f:Nat) (lm:List LM) (avs:List AV) (own:Bool) (d:Nat) (O:Nat → AObj) (K:AV → List (Nat × AObj) → Prop) (_:Hold K):Prop:=ACallL P f lm avs own d O K
theorem ACall_eq (P:Program) (G:Prop) (own:Bool) (lm:List LM) (O:Nat → AObj) (d f:Nat) (sd:Prop) (avs:List AV) (K:AV → List (Nat × AObj) → Prop):ACall P G own lm O d f sd avs K =
    ((G → sd) ∧ match lm with
    | [] => (match argsView O avs with
      | some (cargs,vw) => ACallK P f cargs vw own d O K ⟨⟩
      | none => False)
    | m :: ms => ACallW P f (m :: ms) avs own d O K ⟨⟩):=rfl
theorem ACallK_of {P:Program} {f:Nat} {cargs:List CV} {cres:CV} {vw:List Nat} {own:Bool} {d:Nat} {O:Nat → AObj} {K:AV → List (Nat × AObj) → Prop} {hk:Hold K} (c:FnR P f cargs cres)
    (h:(vw ≠ [] → noImC cres) ∧ small cres = true ∧ O (64 * d + 63) = .none ∧ freeOE O (imp own (64 * d) cres).2 ∧ K (imp own (64 * d) cres).1 (imp own (64 * d) cres).2):ACallK P f cargs vw own d O K hk:=⟨cres,c,h⟩
def ACallC (P:Program) (f:Nat) (lm:List LM) (avs:List AV) (cargs:(Nat → Value) → List CV) (vw ln:List Nat) (own:Bool) (d:Nat) (O:Nat → AObj) (K:AV → List (Nat × AObj) → Prop) (_:Hold K):Prop :=
  (∀ us,argsL us O lm avs = some (cargs us,vw,ln)) → ACallL P f lm avs own d O K
theorem ACallW_args {P:Program} {f:Nat} {lm:List LM} {avs:List AV} {own:Bool} {d:Nat} {O:Nat → AObj} {K:AV → List (Nat × AObj) → Prop} {hk:Hold K} {cargs:(Nat → Value) → List CV} {vw ln:List Nat}
    (ha:∀ us,argsL us O lm avs = some (cargs us,vw,ln)) (h:ACallC P f lm avs cargs vw ln own d O K ⟨⟩):ACallW P f lm avs own d O K hk:=h ha
theorem ACallC_of {P:Program} {f:Nat} {lm:List LM} {avs:List AV} {own:Bool} {d:Nat} {O:Nat → AObj} {K:AV → List (Nat × AObj) → Prop} {hk:Hold K} {cargs:(Nat → Value) → List CV} {vw ln:List Nat} {cres:CV} {outs:(Nat → Value) → List CV} {b1 b2:List (Nat × AObj)}
    (c:∀ us,FnW P f (cargs us) cres (outs us)) (hb:∀ us,argsBack O (64 * d + 40) lm avs (outs us) = some (b1,b2))
    (h:ln.Nodup ∧ (∀ x,x ∈ vw → x ∉ ln) ∧ (∀ us,tokOk us lm (outs us)) ∧ (vw ≠ [] → noImC cres ∧ ∀ us,noImCs (outs us)) ∧ small cres = true ∧ small2 b2 cres = true ∧ O (64 * d + 63) = .none ∧ freeOE O (imp own (64 * d) cres).2 ∧ freeOE O b2.tail ∧ K (imp own (64 * d) cres).1 (b2 ++ ((imp own (64 * d) cres).2 ++ b1))) :
    ACallC P f lm avs cargs vw ln own d O K hk:=fun ha => ⟨cargs,vw,ln,cres,outs,b1,b2,ha,h.1,h.2.1,c,hb,h.2.2.1,h.2.2.2.1,h.2.2.2.2⟩
theorem ACallW_go {P:Program} {f:Nat} {lm:List LM} {avs:List AV} {own:Bool} {d:Nat} {O:Nat → AObj} {K:AV → List (Nat × AObj) → Prop} {hk:Hold K} {cargs:(Nat → Value) → List CV} {vw ln:List Nat}
    (h:ACallC P f lm avs cargs vw ln own d O K ⟨⟩) (ha:∀ us,argsL us O lm avs = some (cargs us,vw,ln):=by intro us; simp -dsimp; exact ⟨rfl,rfl,rfl⟩):ACallW P f lm avs own d O K hk:=h ha
theorem ACallC_go {P:Program} {f:Nat} {lm:List LM} {avs:List AV} {own:Bool} {d:Nat} {O:Nat → AObj} {K:AV → List (Nat × AObj) → Prop} {hk:Hold K} {cargs:(Nat → Value) → List CV} {vw ln:List Nat} {cres:CV} {outs:(Nat → Value) → List CV} {b1 b2:List (Nat × AObj)}
    (c:∀ us,FnW P f (cargs us) cres (outs us)) (h:ln.Nodup ∧ (∀ x,x ∈ vw → x ∉ ln) ∧ (∀ us,tokOk us lm (outs us)) ∧ (vw ≠ [] → noImC cres ∧ ∀ us,noImCs (outs us)) ∧ small cres = true ∧ small2 b2 cres = true ∧ O (64 * d + 63) = .none ∧ freeOE O (imp own (64 * d) cres).2 ∧ freeOE O b2.tail ∧ K (imp own (64 * d) cres).1 (b2 ++ ((imp own (64 * d) cres).2 ++ b1))) (hb:∀ us,argsBack O (64 * d + 40) lm avs (outs us) = some (b1,b2):=by intro us; simp -dsimp; exact ⟨rfl,rfl⟩):ACallC P f lm avs cargs vw ln own d O K hk:=ACallC_of c hb h
section
variable (P:Program) (T:Ty) (H:Hts) (N:Nat × Nat) (G:Hints) (ds:List (Option Nat))
def aopsH (l:List Oper) (σ:AEnv) (K:AEnv → Prop) (_:Hold K):Prop:=aopsD P T G ds l σ K
def adrawH (l:List (Oper × DH)) (σ:AEnv) (K:AEnv → Prop) (_:Hold K):Prop:=adrawD P T G ds l σ K
def awpH (c:Code) (σ:AEnv) (K:AEx → AEnv → Prop) (_:Hold K):Prop:=awp P T H N c σ K
@[simp] theorem aopsH_nil (σ:AEnv) (K:AEnv → Prop) (h:Hold K):aopsH P T G ds [] σ K h = K σ:=rfl
@[simp] theorem aopsH_cons (o:Oper) (r:List Oper) (σ:AEnv) (K:AEnv → Prop) (h:Hold K):aopsH P T G ds (o :: r) σ K h = ao1D P T G ds σ σ.o o (fun v oe => aopsH P T G ds r ((AEnv.wr oe σ).set o.dst v) K ⟨⟩):=rfl
@[simp] theorem adrawH_nil (σ:AEnv) (K:AEnv → Prop) (h:Hold K):adrawH P T G ds [] σ K h = K σ:=rfl
@[simp] theorem adrawH_cons (o:Oper) (d:DH) (r:List (Oper × DH)) (σ:AEnv) (K:AEnv → Prop) (h:Hold K) :
    adrawH P T G ds ((o,d) :: r) σ K h = ao1D P T G ds σ (msk d σ.o) o (fun v oe => oeOk d o.dst oe ∧ adrawH P T G ds r ((AEnv.wr oe σ).set o.dst v) K ⟨⟩):=rfl
variable (σ:AEnv) (K:AEx → AEnv → Prop) (h:Hold K)
@[simp] theorem awpH_skip:awpH P T H N .skip σ K h = K .normal σ:=rfl
@[simp] theorem awpH_ret:awpH P T H N .ret σ K h = K .ret σ:=rfl
@[simp] theorem awpH_exit (id:Nat):awpH P T H N (.exit id) σ K h = K (.exit id) σ:=rfl
@[simp] theorem awpH_region (id:Nat) (ops:Array Oper):awpH P T H N (.region id ops false) σ K h = aopsH P T H.toHints (ops.toList.map (·.dst)) ops.toList σ (K .normal) ⟨⟩:=rfl
@[simp] theorem awpH_draw (id:Nat) (ops:Array Oper):awpH P T H N (.region id ops true) σ K h = adrawH P T H.toHints (ops.toList.map (·.dst)) (ops.toList.zip (H.dr id)) σ (K .normal) ⟨⟩:=rfl
@[simp] theorem awpH_seq (x y:Code):awpH P T H N (.seq x y) σ K h = awpH P T H N x σ (athen (fun σ' => awpH P T H N y σ' K ⟨⟩) K) ⟨⟩:=rfl
@[simp] theorem awpH_cond (c:Operand) (x y:Code):awpH P T H N (.cond c x y) σ K h = match ev σ c with
    | .c (.bool t) => Sp t (fun _ => awpH P T H N x σ K ⟨⟩) (fun _ => awpH P T H N y σ K ⟨⟩)
    | _ => False:=rfl
@[simp] theorem awpH_block (id:Nat) (c:Code):awpH P T H N (.block id c) σ K h = awpH P T H N c σ (ablk id K) ⟨⟩:=rfl
@[simp] theorem awpH_loop (c:Code):awpH P T H N (.loop c) σ K h = AWh P N (.loop c) σ K ⟨⟩:=rfl
end
theorem AW_of {P:Program} {T:Ty} (H:Hts) {N:Nat × Nat} {c:Code} {σ:AEnv} {K:AEx → AEnv → Prop} (hT:TyOK P T) (hok:codeOk N H.dr c = true) (h:awpH P T H N c σ K ⟨⟩):AW P N c σ K :=
  awp_sound hT c σ K hok h
attribute [simp ↓] athen ablk fnK ao1D aop1 abyt ACall_eq
attribute [simp] astep ofConst aguardD apickV resOk resAV avCV avCVs allSome toPV toPVs isFree abin argsAV argsO argAV argAV0 argCell argCells capAV abuiltin isPure isAny amake outPV outPVs leftPV
attribute [simp] eqCell eqCells cellOk cellsOf ofPV ofPVs fillA lenA readA part1 partS bnd isOther sides argsView argView argsView0 argView0 cellsView cellView small smallP small1 tupStep small2 imp impOne impCell impCells impTup freeOE noImC noImC1 noImCs noIm noIms msk DH.masked oeOk frz frzs
attribute [simp] lendCell lendCells boxCells argL argsL1 argsL inPV backCell backCells deadBox argBack argsBack1 boxNew argsBack tokOk outCell outCells outCV outCVs fitPV fitPVs fitCV fitCVs fitRes
@[simp low] theorem splice_eq {α:Type} (l:List α) (off:Nat) (xs:List α):splice l off xs = l.take off ++ xs ++ l.drop (off + xs.length):=rfl
@[congr] theorem Sp_congr {g g':Bool} {A B:Unit → Prop} (h:g = g'):Sp g A B = Sp g' A B:=by rw [h]
@[simp] theorem Sp_true (A B:Unit → Prop):Sp true A B = A ():=by simp [Sp]
@[simp] theorem Sp_false (A B:Unit → Prop):Sp false A B = B ():=by simp [Sp]
@[simp low] theorem Sp_conj (g:Bool) (A B:Unit → Prop):Sp g A B = ((g = true → A ()) ∧ (g = false → B ())):=rfl
attribute [irreducible] ACallK ACallW ACallC
end Am
