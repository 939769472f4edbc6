/- States and changes come back from their bytes; with one byte turned they are none: the law. No condition. -/
import Derived.Test.YtjbbhccphedkfaaGreatT
import Derived.Test.YtjbbhccphedkfaaGreatD
import Derived.Test.YtjbbhccphedkfaaGreatE17
import Derived.Test.YtjbbhccphedkfaaGreatU31
import Derived.Test.YtjbbhccphedkfaaGreatE62
set_option linter.unusedSimpArgs false
set_option linter.unusedVariables false
set_option linter.unnecessarySimpa false
set_option linter.unusedSectionVars false
namespace Am
open Go Go.Proofs
open Cel (cells)
set_option maxRecDepth 100000
@[simp] def h3:Hts:={ merge:=fun _ => false,mergeF:=fun _ => false,own:=fun _ => false,byt:=true,dr:=fun id => if id = 18 then [{},{},{},{},{},{},{},{},{},{},{},{},{},{},{},{},{},{},{},{},{},{},{},{ wr:=[5184] },{ wr:=[5184] }] else [] }
set_option maxHeartbeats 32000000 in
theorem f3_ok (b:List UInt8) (hb0:b.length ≤ 9223372036854775807):FnR Tryz.prog 3 [.v (.im b.length (flat b))] (.v (.bool true)):=by
  refine FnW.of_AW TryzT_ok 0 (fn:=Tryz.f3) (by kernel_rfl) rfl (by kernel_rfl) rfl rfl rfl ?_; refine AW_of h3 TryzT_ok (by kernel_rfl) ?_
  simp -dsimp
  refine ACallK_of (f5_ok b) ?_
  by_cases hb:1048576 < b.length
  · simp -dsimp [hb]
  have hb:b.length ≤ 1048576:=by omega
  have hb':¬ 1048576 < b.length:=by omega
  have hc:=curNew_ok hb
  simp -dsimp [hb']
  refine ACallK_of (f6_ok b hb) ?_
  have sO:=anyD_Ok (curNew b)
  generalize (anyD (curNew b)).1 = s at *
  have sz:=stateText_size s
  simp -dsimp
  have c1:=f7_ok s sO
  rw [stateTextOk_eq] at c1
  refine ACallK_of (c1) ?_
  simp -dsimp
  refine ACallK_of (f8_ok (stateText s) (by omega)) ?_
  simp -dsimp
  refine ACallK_of (f9_ok b hb) ?_
  have dO:=anyDl_Ok hc
  generalize (anyDl (curNew b)).1 = d at *
  have dz:=deltaText_size d
  simp -dsimp
  have c2:=f10_ok d dO
  rw [deltaTextOk_eq] at c2
  refine ACallK_of (c2) ?_
  simp -dsimp
  refine ACallK_of (f11_ok (deltaText d) (by omega)) ?_
  simp -dsimp
  refine ACallK_of (f12_ok b hb) ?_
  have az:(drsT b).size ≤ 20005:=garble_size _ _ (stateText_size _)
  generalize drsT b = a at *
  simp -dsimp
  refine ACallK_of (f8_ok a (by omega)) ?_
  simp -dsimp
  have c3:=f13_ok a (by omega)
  rw [rdSt_eq] at c3
  refine ACallK_of (c3) ?_
  have bO:=rdStM_OkT a
  generalize rdStM a = B at *
  simp -dsimp
  refine ACallK_of (f14_ok b hb) ?_
  have ez:(drdT b).size ≤ 20005:=garble_size _ _ (deltaText_size _)
  generalize drdT b = e at *
  simp -dsimp
  refine ACallK_of (f11_ok e (by omega)) ?_
  simp -dsimp
  have c4:=f15_ok e (by omega)
  rw [rdDl_eq] at c4
  refine ACallK_of (c4) ?_
  have fO:=rdDlM_OkT e
  generalize rdDlM e = F at *
  simp -dsimp
  refine ACallK_of (f16_ok b hb) ?_
  have pl:=drawsK_len (curB (curNew b)).2 10000 12
  have pb:=drawsK_bd (curB (curNew b)).2 (n:=10000) (by decide) 12
  generalize (drawsK (curB (curNew b)).2 10000 12).1 = p at *
  have cS:=f17_ok s sO
  have cD:=f19_ok d dO
  rw [stateOkS_eq] at cS
  rw [deltaOkS_eq] at cD
  have cE:=f18_ok B.1 B.1 bO
  rw [decide_eq_true rfl] at cE
  have cF:=f20_ok F.1 fO
  cases ks:stateOk s
  case false =>
    rw [ks] at cS
    cases kd:deltaOk d
    · rw [kd] at cD
      simp -dsimp
      refine ACallK_of (cS) ?_
      simp -dsimp
      refine ACallK_of (cD) ?_
      simp -dsimp
      refine ACallK_of (cE) ?_
      simp -dsimp
      refine ACallK_of (cF) ?_
      simp -dsimp
    · rw [kd] at cD
      rw [delta_back kd]
      simp -dsimp
      refine ACallK_of (cS) ?_
      simp -dsimp
      refine ACallK_of (cD) ?_
      simp -dsimp
      refine ACallK_of (f20_ok d dO) ?_
      simp -dsimp
      refine ACallK_of (cE) ?_
      simp -dsimp
      refine ACallK_of (cF) ?_
      simp -dsimp
  rw [ks] at cS
  rw [state_back ks]
  have hp0:0 < p.length:=by omega
  have hp1:1 < p.length:=by omega
  have q0:=pb _ (nth_mem hp0)
  have q1:=pb _ (nth_mem hp1)
  have zp:=stateText_pos ks
  have zl:=intsOf_len (stateText s)
  obtain ⟨K,hK,hKl⟩:∃ K:Nat,(nth p 0).tmod ((intsOf (stateText s)).length:Int) = K ∧ K < (stateText s).size:=by
    have h1:=Int.tmod_nonneg ((intsOf (stateText s)).length:Int) q0.1
    have h2:=Int.tmod_lt_of_pos (nth p 0) (show 0 < ((intsOf (stateText s)).length:Int) by omega)
    exact ⟨((nth p 0).tmod ((intsOf (stateText s)).length:Int)).toNat,by omega,by omega⟩
  obtain ⟨Y,hY,hYl⟩:∃ Y:Nat,(nth p 1).tmod 255 = Y ∧ Y < 255:=by
    have h1:=Int.tmod_nonneg 255 q1.1
    have h2:=Int.tmod_lt_of_pos (nth p 1) (show (0:Int) < 255 by decide)
    exact ⟨((nth p 1).tmod 255).toNat,by omega,by omega⟩
  have w1:IntKind.i64.wrap (1 + (Y:Int)) = 1 + Y:=wrap64 (by omega) (by omega)
  have w2:IntKind.u8.wrap (1 + (Y:Int)) = 1 + Y:=u8w (by omega) (by omega)
  have tb:=turned_bytes ks hKl (y:=1 + Y) (by omega) (by omega)
  simp only [List.getD_eq_getElem?_getD] at tb
  have hKi:(K:Int) < (intsOf (stateText s)).length:=by omega
  have hKn:K < (intsOf (stateText s)).length:=by omega
  have hne:¬ intsOf (stateText s) = []:=ne_of_lt hKn
  have hz:∀ v,(strOf ((intsOf (stateText s)).set K v)).size ≤ 1073741824:=fun v => by rw [strOf_size,List.length_set]; omega
  have cZ:=fun v => f8_ok (strOf ((intsOf (stateText s)).set K v)) (hz v)
  have hb8:IntKind.u8.bits = 8:=rfl
  simp -dsimp [abits,hp0,hp1,ne_of_lt hp0,hK,hY,w1,w2,hKi,hKn,hne,hb8]
  refine ⟨by omega,?_⟩
  refine ACallK_of (cZ _) ?_
  simp [hKn] at tb
  rw [tb]
  have cA:=f18_ok s s sO
  rw [decide_eq_true rfl] at cA
  clear tb cZ hz
  cases kd:deltaOk d
  · rw [kd] at cD
    simp -dsimp
    refine ACallK_of (cS) ?_
    simp -dsimp
    refine ACallK_of (cA) ?_
    simp -dsimp
    refine ACallK_of (cD) ?_
    simp -dsimp
    refine ACallK_of (cE) ?_
    simp -dsimp
    refine ACallK_of (cF) ?_
    simp -dsimp
  · rw [kd] at cD
    rw [delta_back kd]
    simp -dsimp
    refine ACallK_of (cS) ?_
    simp -dsimp
    refine ACallK_of (cA) ?_
    simp -dsimp
    refine ACallK_of (cD) ?_
    simp -dsimp
    refine ACallK_of (f20_ok d dO) ?_
    simp -dsimp
    refine ACallK_of (cE) ?_
    simp -dsimp
    refine ACallK_of (cF) ?_
    simp -dsimp
end Am
