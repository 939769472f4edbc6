/- Drawn: states that may clash. No condition. -/
import Derived.Test.YteidfkbfocdnmaaGreatT
import Derived.Test.YteidfkbfocdnmaaGreatD
import Derived.Test.YteidfkbfocdnmaaGreatV7
import Derived.Test.YteidfkbfocdnmaaGreatU1
namespace Am
open Go Go.Proofs
open Cel (cells)
set_option maxRecDepth 100000
set_option linter.unusedSimpArgs false
set_option linter.unusedVariables false

def dcO (c : GCur) : ByteArray × GCur := curPick (twoB c).2 objs
def dcK (c : GCur) : ByteArray × GCur := curPick (dcO c).2 keys
def dcV (c : GCur) : Int × GCur := curN (dcK c).2 3
def dcW (c : GCur) : Int × GCur := curN (dcV c).2 2
def dcE (c : GCur) : GEdit := ⟨4, (dcO c).1, (dcK c).1, 1 + (dcV c).1, 0⟩
def dcF (c : GCur) : GEdit := ⟨4, (dcO c).1, (dcK c).1, 1 + (dcV c).1 + (dcW c).1, 0⟩
def dcX (c : GCur) : GAct × Int := actOf (twoA c).1 0 (timeOf (twoA c).1 + 1) (dcE c)
def dcY (c : GCur) : GAct × Int := actOf (twoB c).1 1 (timeOf (twoB c).1 + 1) (dcF c)
def dcZ (c : GCur) : GState × GState × GState := if (dcX c).2 = 0 ∧ (dcY c).2 = 0 then ((twoP c).1, (doAct (twoA c).1 (dcX c).1).1, (doAct (twoB c).1 (dcY c).1).1) else ((twoP c).1, (twoA c).1, (twoB c).1)
def dc1 (b : List UInt8) : Int × GCur := curN (curNew b) 6
def dc2 (b : List UInt8) : Int × GCur := curN (dc1 b).2 3
def dcAll (b : List UInt8) : GState × GState × GState := if ((dc1 b).1 == 0) = true then ((anyD (dc1 b).2).1, (anyD (anyD (dc1 b).2).2).1, (anyD (anyD (anyD (dc1 b).2).2).2).1) else if ((dc2 b).1 == 0) = true then ((twoP (dc2 b).2).1, (twoA (dc2 b).2).1, (twoB (dc2 b).2).1) else dcZ (dc2 b).2
theorem dcE_sz (c : GCur) : (dcE c).obj.size ≤ 8 ∧ (dcE c).key.size ≤ 8 := ⟨(objs_ok _).2, (keys_ok _).2⟩
theorem dcZ_Ok {c : GCur} (h : c.Ok) : (dcZ c).1.Ok ∧ (dcZ c).2.1.Ok ∧ (dcZ c).2.2.Ok := by
  have h0 := sok_Ok (twoP_sok c)
  have h1 := sok_Ok (twoA_sok h)
  have h2 := sok_Ok (twoB_sok h)
  unfold dcZ
  split
  · exact ⟨h0, sok_Ok (sok_of (doAct_sok (of_sok (twoA_sok h)))), sok_Ok (sok_of (doAct_sok (of_sok (twoB_sok h))))⟩
  · exact ⟨h0, h1, h2⟩
theorem dcAll_Ok {b : List UInt8} (hb : b.length ≤ 1048576) : (dcAll b).1.Ok ∧ (dcAll b).2.1.Ok ∧ (dcAll b).2.2.Ok := by
  have c1 : (dc1 b).2.Ok := curN_ok (curNew_ok hb) _
  have c2 : (dc2 b).2.Ok := curN_ok c1 _
  unfold dcAll
  split
  · exact ⟨anyD_Ok _, anyD_Ok _, anyD_Ok _⟩
  split
  · exact ⟨sok_Ok (twoP_sok _), sok_Ok (twoA_sok c2), sok_Ok (twoB_sok c2)⟩
  · exact dcZ_Ok c2

@[simp] def h19 : Hts := { merge := fun _ => false, mergeF := fun _ => false, own := fun d => !(d == 25 || d == 27 || d == 31 || d == 89 || d == 95), lend := fun f => if f = 130 || f = 117 || f = 131 || f = 132 || f = 133 || f = 134 then [.box []] else [], dr := fun id => if id = 5 then [{ mn := [1344], mb := [31] }, { mn := [128, 1344], mb := [31] }, {}, { wr := [1344], cr := true }, { wr := [128] }, { wr := [192] }, { wr := [256] }] else if id = 10 then [{ mb := [56, 12] }, { mb := [12] }, { cr := true, mb := [12] }, { mb := [12] }, { mb := [56, 12] }, { cr := true, mb := [12] }, { mb := [12] }, { mb := [12] }, { mn := [768], mb := [12] }, { cr := true, mb := [56, 59] }, { wr := [768] }, {}] else if id = 11 then [{ mn := [1344], mb := [65] }, { mn := [1344], mb := [65] }, {}, { wr := [1344], cr := true }, {}, {}, { wr := [704] }] else if id = 12 then [{ mb := [71, 14] }, { mb := [14] }, { cr := true, mb := [14] }, { mb := [14] }, { mb := [71, 14] }, { cr := true, mb := [14] }, { mb := [14] }, { mb := [14] }, { mn := [896], mb := [14] }, { cr := true, mb := [71, 74] }, { wr := [896] }, {}] else if id = 14 then [{}, { mn := [128] }, { mn := [128, 192] }, { wr := [128] }, { wr := [192] }, { wr := [256] }] else if id = 17 then [{}, { mn := [128] }, { mn := [128, 192] }, { wr := [128] }, { wr := [192] }, { wr := [256] }] else [] }
set_option maxHeartbeats 8000000 in
theorem f19_ok (b : List UInt8) (hb : b.length ≤ 1048576) : FnR Tryz.prog 19 [.v (.im b.length (flat b))] (.tup [.agg [.im ((dcAll b).1).know.length (flat ((dcAll b).1).know), .im ((dcAll b).1).tallies.length (flat ((dcAll b).1).tallies), .im ((dcAll b).1).lives.length (flat ((dcAll b).1).lives), .im ((dcAll b).1).cs.length (flat ((dcAll b).1).cs)], .agg [.im ((dcAll b).2.1).know.length (flat ((dcAll b).2.1).know), .im ((dcAll b).2.1).tallies.length (flat ((dcAll b).2.1).tallies), .im ((dcAll b).2.1).lives.length (flat ((dcAll b).2.1).lives), .im ((dcAll b).2.1).cs.length (flat ((dcAll b).2.1).cs)], .agg [.im ((dcAll b).2.2).know.length (flat ((dcAll b).2.2).know), .im ((dcAll b).2.2).tallies.length (flat ((dcAll b).2.2).tallies), .im ((dcAll b).2.2).lives.length (flat ((dcAll b).2.2).lives), .im ((dcAll b).2.2).cs.length (flat ((dcAll b).2.2).cs)]]) := by
  have c0 := curNew_ok hb
  have c1 : (curN (curNew b) 6).2.Ok := curN_ok c0 _
  have c2 : (curN (curN (curNew b) 6).2 3).2.Ok := curN_ok c1 _
  refine FnW.of_AW TryzT_ok 0 (fn := Tryz.f19) (by kernel_rfl) rfl (by kernel_rfl) rfl rfl rfl ?_; refine AW_of h19 TryzT_ok (by kernel_rfl) ?_
  simp -dsimp
  refine ACallK_of (f115_ok b hb) ?_
  simp -dsimp
  refine ACallW_args (by intro us; simp -dsimp; exact ⟨rfl, rfl, rfl⟩) ?_
  refine ACallC_of (fun us => f130_ok (curNew b) c0 6) (by intro us; simp -dsimp; exact ⟨rfl, rfl⟩) ?_
  cases q : ((curN (curNew b) 6).1 == 0)
  rotate_left
  · simp -dsimp
    refine ACallW_args (by intro us; simp -dsimp; exact ⟨rfl, rfl, rfl⟩) ?_
    refine ACallC_of (fun us => f131_ok (curN (curNew b) 6).2 c1) (by intro us; simp -dsimp; exact ⟨rfl, rfl⟩) ?_
    simp -dsimp
    refine ACallW_args (by intro us; simp -dsimp; exact ⟨rfl, rfl, rfl⟩) ?_
    refine ACallC_of (fun us => f131_ok (anyD (curN (curNew b) 6).2).2 (anyD_ok c1)) (by intro us; simp -dsimp; exact ⟨rfl, rfl⟩) ?_
    simp -dsimp
    refine ACallW_args (by intro us; simp -dsimp; exact ⟨rfl, rfl, rfl⟩) ?_
    refine ACallC_of (fun us => f131_ok (anyD (anyD (curN (curNew b) 6).2).2).2 (anyD_ok (anyD_ok c1))) (by intro us; simp -dsimp; exact ⟨rfl, rfl⟩) ?_
    simp -dsimp
    simp [dcAll, dc1, q]
  simp -dsimp
  refine ACallW_args (by intro us; simp -dsimp; exact ⟨rfl, rfl, rfl⟩) ?_
  refine ACallC_of (fun us => f130_ok (curN (curNew b) 6).2 c1 3) (by intro us; simp -dsimp; exact ⟨rfl, rfl⟩) ?_
  cases q2 : ((curN (curN (curNew b) 6).2 3).1 == 0)
  rotate_left
  · simp -dsimp
    refine ACallW_args (by intro us; simp -dsimp; exact ⟨rfl, rfl, rfl⟩) ?_
    refine ACallC_of (fun us => f132_ok (curN (curN (curNew b) 6).2 3).2 c2) (by intro us; simp -dsimp; exact ⟨rfl, rfl⟩) ?_
    simp -dsimp
    simp [dcAll, dc1, dc2, q, q2]
  have hAll : dcAll b = dcZ (curN (curN (curNew b) 6).2 3).2 := by simp [dcAll, dc1, dc2, q, q2]
  rw [hAll]
  generalize (curN (curN (curNew b) 6).2 3).2 = c at *
  have sA := twoA_sok c2
  have sB := twoB_sok c2
  have oA := sok_Ok sA
  have oB := sok_Ok sB
  have oA2 := oA
  have oB2 := oB
  simp only [GState.Ok] at oA2 oB2
  have tA := timeOf_bd sA
  have tB := timeOf_bd sB
  have wA : IntKind.i64.wrap (timeOf (twoA c).1 + 1) = timeOf (twoA c).1 + 1 := wrap64 (by omega) (by omega)
  have wB : IntKind.i64.wrap (timeOf (twoB c).1 + 1) = timeOf (twoB c).1 + 1 := wrap64 (by omega) (by omega)
  have c3 : (twoB c).2.Ok := twoB_ok c2
  have c4 : (dcO c).2.Ok := curPick_ok c3 _
  have c5 : (dcK c).2.Ok := curPick_ok c4 _
  have c6 : (dcV c).2.Ok := curN_ok c5 _
  have bv := curN_bd (dcK c).2 (n := 3) (by decide)
  have bw := curN_bd (dcV c).2 (n := 2) (by decide)
  have bv' : 0 ≤ (dcV c).1 ∧ (dcV c).1 < 3 := bv
  have bw' : 0 ≤ (dcW c).1 ∧ (dcW c).1 < 2 := bw
  have w1 : IntKind.i64.wrap (1 + (dcV c).1) = 1 + (dcV c).1 := wrap64 (by omega) (by omega)
  have w2 : IntKind.i64.wrap (1 + (dcV c).1 + (dcW c).1) = 1 + (dcV c).1 + (dcW c).1 := wrap64 (by omega) (by omega)
  obtain ⟨z1, z2⟩ := dcE_sz c
  have eO : curPick (twoB c).2 objs = dcO c := rfl
  have eK : curPick (dcO c).2 keys = dcK c := rfl
  have eV : curN (dcK c).2 3 = dcV c := rfl
  have eW : curN (dcV c).2 2 = dcW c := rfl
  simp -dsimp
  refine ACallW_args (by intro us; simp -dsimp; exact ⟨rfl, rfl, rfl⟩) ?_
  refine ACallC_of (fun us => f132_ok c c2) (by intro us; simp -dsimp; exact ⟨rfl, rfl⟩) ?_
  simp -dsimp
  refine ACallW_args (by intro us; simp -dsimp; exact ⟨rfl, rfl, rfl⟩) ?_
  refine ACallC_of (fun us => f133_ok (twoB c).2 c3) (by intro us; simp -dsimp; exact ⟨rfl, rfl⟩) ?_
  rw [eO]
  simp -dsimp
  refine ACallW_args (by intro us; simp -dsimp; exact ⟨rfl, rfl, rfl⟩) ?_
  refine ACallC_of (fun us => f134_ok (dcO c).2 c4) (by intro us; simp -dsimp; exact ⟨rfl, rfl⟩) ?_
  rw [eK]
  simp -dsimp
  refine ACallW_args (by intro us; simp -dsimp; exact ⟨rfl, rfl, rfl⟩) ?_
  refine ACallC_of (fun us => f117_ok (dcK c).2 c5 3) (by intro us; simp -dsimp; exact ⟨rfl, rfl⟩) ?_
  rw [eV]
  simp -dsimp [w1]
  refine ACallK_of (f135_ok (twoA c).1 (by omega)) ?_
  simp -dsimp [wA]
  refine ACallK_of (f32_ok (twoA c).1 0 (timeOf (twoA c).1 + 1) (dcE c) oA (by omega) (by omega) (by simp [dcE])) ?_
  simp -dsimp
  refine ACallW_args (by intro us; simp -dsimp; exact ⟨rfl, rfl, rfl⟩) ?_
  refine ACallC_of (fun us => f117_ok (dcV c).2 c6 2) (by intro us; simp -dsimp; exact ⟨rfl, rfl⟩) ?_
  rw [eW]
  simp -dsimp [w2]
  refine ACallK_of (f135_ok (twoB c).1 (by omega)) ?_
  simp -dsimp [wB]
  have z3 : (dcF c).obj.size ≤ 8 ∧ (dcF c).key.size ≤ 8 := ⟨z1, z2⟩
  refine ACallK_of (f32_ok (twoB c).1 1 (timeOf (twoB c).1 + 1) (dcF c) oB (by omega) (by omega) (by simp [dcF])) ?_
  have eX : actOf (twoA c).1 0 (timeOf (twoA c).1 + 1) (dcE c) = dcX c := rfl
  have eY : actOf (twoB c).1 1 (timeOf (twoB c).1 + 1) (dcF c) = dcY c := rfl
  have oX : (dcX c).1.Ok := actOf_ok oA (by omega) (by omega)
  have oY : (dcY c).1.Ok := actOf_ok oB (by omega) (by omega)
  rw [eX, eY]
  by_cases k1 : (dcX c).2 = 0
  rotate_left
  · have kb : ((dcX c).2 != 0) = true := by simp [k1]
    simp -dsimp [k1, kb]
    simp [dcZ, k1]
  by_cases k2 : (dcY c).2 = 0
  rotate_left
  · have kb : ((dcY c).2 != 0) = true := by simp [k2]
    simp -dsimp [k1, k2, kb]
    simp [dcZ, k1, k2]
  simp -dsimp [k1, k2]
  refine ACallK_of (f37_ok (twoA c).1 (dcX c).1 oA oX) ?_
  simp -dsimp
  refine ACallK_of (f37_ok (twoB c).1 (dcY c).1 oB oY) ?_
  simp -dsimp
  simp [dcZ, k1, k2]
end Am
namespace Am
open Go
set_option linter.unusedSimpArgs false
set_option linter.unusedVariables false

theorem asN_made {a : AS} (hm : made a.out) (h : Own3 a.out a.st) (hl : a.out.length ≤ 119) : made (asN a).out := by
  have hr : (asR a).1 = 0 ∨ (asR a).1 = 1 ∨ (asR a).1 = 2 := by
    have := curN_bd a.c (n := 3) (by decide)
    have e : (asR a).1 = (curN a.c 3).1 := rfl
    omega
  have hS : Own3 a.out (asSt a) := by
    unfold asSt
    split
    · exact own3_put h hr (own_all (own3_get h hr))
    · exact h
  unfold asN
  split
  · rename_i hc
    obtain ⟨D, h1, h2, h3⟩ := own3_get hS hr
    have hD := own_len (r := (asR a).1) h1 h2
    have t1 := canon_tallies h1
    have t2 := canon_lives h1
    have t3 := canon_cells h1
    have hd := actOf_done h1.sok hc (by omega) (by omega) (by omega) (by omega)
    exact made_snoc hm h1 (done_of hd).1 (actOf_knewS hc) h2
  · exact hm
theorem actsK_made (c : GCur) : ∀ i : Nat, i ≤ 119 → made (actsK c i).out
  | 0, _ => fun i hi => by simp [actsK] at hi
  | i + 1, hi => by
    have hm := actsK_made c i (by omega)
    have hl := actsK_len c i
    exact asN_made hm (actsK_whole c i (by omega)).2 (by omega)
theorem settled_canon (l : List GAct) : ∃ D, Canon D (settled l).1 ∧ (settled l).2 = D.length ∧ ∀ a, a ∈ D → a ∈ l := canon_round l (endK l)
/-- What two become is what all that either knows come to. -/
theorem merge_settled {acts one two : List GAct} (hw : whole acts) (hm : made acts) (hl : acts.length ≤ 50) (h1 : ∀ a, a ∈ one → a ∈ acts) (h2 : ∀ a, a ∈ two → a ∈ acts) :
    settled (acts.filter fun x => knows (mergeState (settled one).1 (settled two).1).know x.dot) = (mergeState (settled one).1 (settled two).1, ((acts.filter fun x => knows (mergeState (settled one).1 (settled two).1).know x.dot).length : Int)) ∧ SOK (mergeState (settled one).1 (settled two).1) := by
  have hnod := whole_nod hw
  obtain ⟨D1, c1, _, s1⟩ := settled_canon one
  obtain ⟨D2, c2, _, s2⟩ := settled_canon two
  have a1 : ∀ a, a ∈ D1 → a ∈ acts := fun a ha => h1 a (s1 a ha)
  have a2 : ∀ a, a ∈ D2 → a ∈ acts := fun a ha => h2 a (s2 a ha)
  have len : ∀ {D : List GAct}, (D.map (·.dot)).Nodup → (∀ a, a ∈ D → a ∈ acts) → D.length ≤ acts.length := fun {D} hn hs => by
    have := nodup_len (m := acts.map (·.dot)) hn (fun d hd => by
      obtain ⟨x, hx, rfl⟩ := List.mem_map.1 hd
      exact List.mem_map.2 ⟨x, hs x hx, rfl⟩)
    simpa using this
  have l1 := len c1.nod a1
  have l2 := len c2.nod a2
  obtain ⟨D, q1, q2, q3, _⟩ := merge_all c1 c2 (fun a b ha hb e => nodup_inj hnod (a1 a ha) (a2 b hb) e) (by omega)
  generalize mergeState (settled one).1 (settled two).1 = m at *
  have aD : ∀ a, a ∈ D → a ∈ acts := fun a ha => by
    rcases (q1 a).1 ha with h | h
    · exact a1 a h
    · exact a2 a h
  have inD : ∀ x, x ∈ acts → (knows m.know x.dot = true ↔ x ∈ D) := fun x hx => by
    rw [q3.know]
    constructor
    · rintro ⟨a, ha, e⟩
      rw [← nodup_inj hnod (aD a ha) hx e]; exact ha
    · exact fun h => ⟨x, h, rfl⟩
  have hwA : whole (acts.filter fun x => knows m.know x.dot) := by
    refine sub_whole hw hm _ (fun x hx hp b hb hk => ?_) (by omega)
    exact knows_in (q3.acts x ((inD x hx).1 hp)).2 hk
  have hlA := List.length_filter_le (fun x : GAct => knows m.know x.dot) acts
  have hS := settled_is hwA (by omega) (fun a => Iff.rfl)
  have hc := canon_whole hwA _ (Nat.le_refl _)
  rw [List.take_length] at hc
  have e : doK (acts.filter fun x => knows m.know x.dot) newS (acts.filter fun x => knows m.know x.dot).length = m := by
    refine canon_eq hc q3 fun x => ?_
    rw [List.mem_reverse, List.mem_filter]
    constructor
    · rintro ⟨h1, h2⟩; exact (inD x h1).1 h2
    · intro h; exact ⟨aD x h, (inD x (aD x h)).2 h⟩
  exact ⟨by rw [hS]; exact Prod.ext e rfl, q3.sok⟩
end Am
