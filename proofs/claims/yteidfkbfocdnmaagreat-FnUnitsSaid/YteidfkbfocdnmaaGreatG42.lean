/- Drawn right units come back from their texts: the law. No condition. -/
import Derived.Test.YteidfkbfocdnmaaGreatT
import Derived.Test.YteidfkbfocdnmaaGreatD
import Derived.Test.YteidfkbfocdnmaaGreatV30
import Derived.Test.YteidfkbfocdnmaaGreatV20
import Derived.Test.YteidfkbfocdnmaaGreatE108
import Derived.Test.YteidfkbfocdnmaaGreatE9
import Derived.Test.YteidfkbfocdnmaaGreatE39
import Derived.Test.YteidfkbfocdnmaaGreatE93a
set_option linter.unusedSimpArgs false
set_option linter.unusedVariables false
set_option linter.unnecessarySimpa false
set_option linter.unusedSectionVars false
namespace Am
open Go Go.Proofs
open Cel (cells)
set_option maxRecDepth 100000
theorem lackOf_len (l:GLog) (k:List Int):(lackOf l k).length ≤ l.units.length:=by
  unfold lackOf
  split
  · exact lackK_len _ _ _
  · simp
theorem lackK_memU {l:GLog} {k:List Int}:∀ i:Nat,i ≤ l.units.length → ∀ u,u ∈ lackK l k i → u ∈ l.units
  | 0,_,u,hu => by simp [lackK] at hu
  | i + 1,hi,u,hu => by
    rw [lackK] at hu
    split at hu
    · exact lackK_memU i (by omega) u hu
    · rcases List.mem_append.1 hu with hu | hu
      · exact lackK_memU i (by omega) u hu
      · rw [List.mem_singleton.1 hu]; exact nth_mem (by omega)
theorem lackOf_memU {l:GLog} {k:List Int}:∀ u,u ∈ lackOf l k → u ∈ l.units:=fun u hu => by
  unfold lackOf at hu
  split at hu
  · exact lackK_memU _ (Nat.le_refl _) u hu
  · cases hu
theorem rdUnM_OkU (t:ByteArray):(rdUnM t).1.Ok:=by
  have hz:(GUnit.empty).Ok:=⟨by simp [GUnit.empty,zeroAct,GAct.Ok]; decide,by simp [GUnit.empty,zeroDelta,GDelta.Ok]⟩
  unfold rdUnM
  split
  · split
    · split
      · exact ⟨rdAct_Ok _ _,by simp [zeroDelta,GDelta.Ok]⟩
      · exact hz
    · split
      · split
        · exact ⟨by simp [zeroAct,GAct.Ok]; decide,rdDlM_Ok _⟩
        · exact hz
      · exact hz
  · exact hz
@[simp] def h7:Hts:={ merge:=fun _ => false,mergeF:=fun _ => false,own:=fun _ => false,dr:=fun id => if id = 12 then [{},{},{},{},{},{},{},{},{},{},{},{},{},{},{},{},{ cr:=true },{},{},{},{},{},{},{},{},{},{},{},{ cr:=true },{},{},{},{ cr:=true },{ mb:=[88] },{ cr:=true },{ cr:=true },{},{},{},{},{ cr:=true },{ mb:=[96] },{ mb:=[96] },{ cr:=true },{ cr:=true },{},{},{},{},{},{},{ cr:=true },{},{},{},{},{},{},{},{},{}] else [] }
set_option maxHeartbeats 32000000 in
theorem f7_ok (b:List UInt8) (hb0:b.length ≤ 9223372036854775807):FnR Tryz.prog 7 [.v (.im b.length (flat b))] (.v (.bool true)):=by
  refine FnW.of_AW TryzT_ok 0 (fn:=Tryz.f7) (by kernel_rfl) rfl (by kernel_rfl) rfl rfl rfl ?_; refine AW_of h7 TryzT_ok (by kernel_rfl) ?_
  simp -dsimp
  refine ACallK_of (f12_ok b) ?_
  by_cases hb:1048576 < b.length
  · simp -dsimp [hb]
  have hb:b.length ≤ 1048576:=by omega
  have hb':¬ 1048576 < b.length:=by omega
  have hc:=curNew_ok hb
  simp -dsimp [hb']
  refine ACallK_of (f73_ok b hb) ?_
  have uO:=anyU_Ok hc
  generalize hu:(anyU (curNew b)).1 = u at *
  have tz:=unitText_size u
  simp -dsimp
  refine ACallK_of (f74_ok u uO) ?_
  simp -dsimp
  refine ACallK_of (f75_ok u uO) ?_
  simp -dsimp
  refine ACallK_of (f76_ok (unitText u) (by omega)) ?_
  have xO:=rdUnM_OkU (unitText u)
  simp -dsimp
  refine ACallK_of (f77_ok b hb) ?_
  have yz:(druT b).size ≤ 20005:=garble_size _ _ (unitText_size _)
  generalize druT b = y at *
  simp -dsimp
  refine ACallK_of (f76_ok y (by omega)) ?_
  simp -dsimp
  refine ACallK_of (f78_ok y (by omega)) ?_
  rw [rdUn_eq]
  have zO:=rdUnM_OkU y
  generalize rdUnM y = Z at *
  obtain ⟨Zu,Zk⟩:=Z
  simp only at zO
  simp -dsimp
  refine ACallK_of (f79_ok b hb) ?_
  rw [hu]
  simp -dsimp
  refine ACallK_of (f80_ok b hb) ?_
  have lO:=logA_Ok (knA (curNew b)).2
  have kl:=knA_len (curNew b)
  generalize (logA (knA (curNew b)).2).1 = l at *
  generalize (knA (curNew b)).1 = k at *
  have l1:=lackOf_len l k
  have lO2:=lO
  simp only [GLog.Ok] at lO2
  have cv:=coversD_len u
  have hcov:=f82_ok u uO
  have hlk:∀ v,v ∈ lackOf l k → v.Ok:=fun v hv => lO2.2.2.1 v (lackOf_memU v hv)
  have eok:=unitTextOk_eq u
  cases ok:unitOk u
  · rw [ok] at eok
    simp -dsimp [eok]
    refine ACallK_of (f81_ok Zu Zu zO) ?_
    simp -dsimp
    refine ACallK_of (f82_ok u uO) ?_
    simp -dsimp
    refine ACallK_of (f83_ok u uO) ?_
    simp -dsimp
    refine ACallK_of (f58_ok (coversD u) (by omega)) ?_
    simp -dsimp
    refine ACallK_of (f85_ok l k lO (by omega)) ?_
    simp -dsimp
    refine ACallK_of (f86_ok l k lO (by omega)) ?_
    simp -dsimp
    refine ACallK_of (f84_ok (lackOf l k) (by omega) hlk) ?_
    simp -dsimp
  · rw [ok] at eok
    have hbk:=unit_back ok
    rw [hbk]
    simp -dsimp [eok]
    refine ACallK_of (f81_ok u u uO) ?_
    simp -dsimp
    refine ACallK_of (f81_ok Zu Zu zO) ?_
    simp -dsimp
    refine ACallK_of (f82_ok u uO) ?_
    simp -dsimp
    refine ACallK_of (f83_ok u uO) ?_
    simp -dsimp
    refine ACallK_of (f58_ok (coversD u) (by omega)) ?_
    simp -dsimp
    refine ACallK_of (f85_ok l k lO (by omega)) ?_
    simp -dsimp
    refine ACallK_of (f86_ok l k lO (by omega)) ?_
    simp -dsimp
    refine ACallK_of (f84_ok (lackOf l k) (by omega) hlk) ?_
    simp -dsimp
    refine ACallK_of (hcov) ?_
    cases hbat:u.batch
    · have h1:=covers_len ok hbat
      have h2:(coversD u = []) = False:=eq_false (fun h => by rw [h] at h1; simp at h1)
      simp -dsimp [h1,h2]
    · by_cases h0:0 < (coversD u).length
      · have h0':(0:Int) < (coversD u).length:=by omega
        simp -dsimp [h0,h0',hbat]
      · have h2:coversD u = []:=List.eq_nil_of_length_eq_zero (by omega)
        simp -dsimp [h2,hbat]
end Am
