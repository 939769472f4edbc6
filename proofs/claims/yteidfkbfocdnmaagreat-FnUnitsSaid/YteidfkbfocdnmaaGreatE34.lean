/- What reads: lists. No condition. -/
import Derived.Test.YteidfkbfocdnmaaGreatT
import Derived.Test.YteidfkbfocdnmaaGreatD
import Derived.Test.YteidfkbfocdnmaaGreatE30
import Derived.Test.YteidfkbfocdnmaaGreatAm31
import Derived.Test.YteidfkbfocdnmaaGreatE10
import Derived.Test.YteidfkbfocdnmaaGreatE9
import Derived.Test.YteidfkbfocdnmaaGreatAm27
set_option linter.unusedSimpArgs false
set_option linter.unusedVariables false
set_option linter.unnecessarySimpa false
set_option linter.unusedSectionVars false
namespace Am
open Go Go.Proofs
open Cel (cells)
set_option maxRecDepth 100000
theorem numM_pos {s:GScan} (h:0 ≤ s.pos):0 ≤ (numM s).2.pos:=by
  unfold numM
  split
  · exact h
  · cases g:rd s.t s.pos with
    | none => exact h
    | some x => obtain ⟨n,a⟩:=x; have:=rd_spec g; simp only; omega
theorem numM_nn (s:GScan):0 ≤ (numM s).1:=by
  unfold numM
  split
  · exact Int.le_refl 0
  · cases g:rd s.t s.pos with
    | none => exact Int.le_refl 0
    | some x => obtain ⟨n,a⟩:=x; have:=rd_spec g; simp only; omega
theorem shM_t (s:GScan):(shM s).2.t = s.t:=by
  unfold shM
  split
  · rfl
  · split <;> rfl
theorem rs_spec {t:ByteArray} {p:Int} {x:ByteArray} {a:Int} (h:rs t p = some (x,a)):∃ n b:Int,rd t p = some (n,b) ∧ n ≤ 20000 ∧ b + n ≤ t.size ∧ x = t.extract b.toNat (b + n).toNat ∧ a = b + n:=by
  unfold rs at h
  cases g:rd t p with
  | none => rw [g] at h; cases h
  | some y =>
    obtain ⟨n,b⟩:=y
    rw [g] at h
    simp only at h
    split at h
    · cases h
    · cases h
      exact ⟨n,b,rfl,by omega,by omega,rfl,rfl⟩
theorem shM_pos {s:GScan} (h:0 ≤ s.pos):0 ≤ (shM s).2.pos:=by
  unfold shM
  split
  · exact h
  · cases g:rs s.t s.pos with
    | none => exact h
    | some x =>
      obtain ⟨y,a⟩:=x
      obtain ⟨n,b,h1,_,_,_,rfl⟩:=rs_spec g
      have:=rd_spec h1
      simp only; omega
theorem shM_size (s:GScan):(shM s).1.size ≤ 20000:=by
  unfold shM
  split
  · exact Nat.zero_le _
  · cases g:rs s.t s.pos with
    | none => exact Nat.zero_le _
    | some x =>
      obtain ⟨y,a⟩:=x
      obtain ⟨n,b,h1,h2,h3,rfl,rfl⟩:=rs_spec g
      have:=rd_spec h1
      simp only [ByteArray.size_extract]
      omega
theorem dotM_t (s:GScan):(dotM s).2.t = s.t:=by rw [dotM,numM_t,numM_t]
theorem dotM_pos {s:GScan} (h:0 ≤ s.pos):0 ≤ (dotM s).2.pos:=numM_pos (numM_pos h)
theorem setBad_t (s:GScan):(setBad s).t = s.t:=rfl
theorem flagM_t (s:GScan):(flagM s).2.t = s.t:=by
  unfold flagM
  simp only
  split
  · rw [setBad_t,numM_t]
  · rw [numM_t]
theorem flagM_pos {s:GScan} (h:0 ≤ s.pos):0 ≤ (flagM s).2.pos:=by
  unfold flagM
  simp only
  split
  · exact numM_pos h
  · exact numM_pos h
theorem boolS_t (s:GScan):(boolS s).2.t = s.t:=by
  unfold boolS
  split <;> rfl
theorem boolS_pos {s:GScan} (h:0 ≤ s.pos):0 ≤ (boolS s).2.pos:=by
  unfold boolS
  split
  · exact h
  · simp only; omega
theorem cntM_t (s:GScan):(cntM s).2.t = s.t:=by
  unfold cntM
  split
  · rw [setBad_t,numM_t]
  · rw [numM_t]
theorem cntM_pos {s:GScan} (h:0 ≤ s.pos):0 ≤ (cntM s).2.pos:=by
  unfold cntM
  split
  · exact numM_pos h
  · exact numM_pos h
theorem cntM_N (s:GScan):∃ N:Nat,(cntM s).1 = N ∧ N ≤ 120:=by
  have:=numM_nn s
  unfold cntM
  split
  · exact ⟨0,rfl,by omega⟩
  · exact ⟨(numM s).1.toNat,by omega,by omega⟩
def lsM {α:Type} (r:GScan → α × GScan) (s:GScan):Nat → List α × GScan
  | 0 => ([],s)
  | i + 1 => ((lsM r s i).1 ++ [(r (lsM r s i).2).1],(r (lsM r s i).2).2)
def lsS {α:Type} (r:GScan → α × GScan) (s:GScan):Nat → List α × GScan
  | 0 => ([],s)
  | i + 1 => if (lsS r s i).2.bad = true then lsS r s i else ((lsS r s i).1 ++ [(r (lsS r s i).2).1],(r (lsS r s i).2).2)
section
variable {α:Type} {r:GScan → α × GScan}
theorem lsM_t (hr:∀ s,(r s).2.t = s.t) (s:GScan):∀ i,(lsM r s i).2.t = s.t
  | 0 => rfl
  | i + 1 => by rw [lsM,hr,lsM_t hr s i]
theorem lsM_pos (hr:∀ s,0 ≤ s.pos → 0 ≤ (r s).2.pos) {s:GScan} (h:0 ≤ s.pos):∀ i,0 ≤ (lsM r s i).2.pos
  | 0 => h
  | i + 1 => by rw [lsM]; exact hr _ (lsM_pos hr h i)
theorem lsM_len (s:GScan):∀ i,(lsM r s i).1.length = i
  | 0 => rfl
  | i + 1 => by simp [lsM,lsM_len s i]
theorem lsS_eq {s:GScan}:∀ {i:Nat},(∀ j:Nat,j < i → (lsM r s j).2.bad = false) → lsS r s i = lsM r s i
  | 0,_ => rfl
  | i + 1,h => by
    have ih:=lsS_eq (i:=i) fun j hj => h j (by omega)
    rw [lsS,ih,h i (by omega),lsM]
    simp
theorem lsS_stop {s:GScan} {i:Nat} (h:∀ j:Nat,j < i → (lsM r s j).2.bad = false) (hb:(lsM r s i).2.bad = true):∀ n:Nat,i ≤ n → lsS r s n = lsM r s i
  | 0,hn => by
    obtain rfl:i = 0:=by omega
    rfl
  | n + 1,hn => by
    by_cases e:i = n + 1
    · subst e; exact lsS_eq h
    · rw [lsS,lsS_stop h hb n (by omega),if_pos hb]
end
def talM (s:GScan):GTally × GScan:=(⟨(shM s).1,(numM (shM s).2).1,(numM (numM (shM s).2).2).1⟩,(numM (numM (shM s).2).2).2)
def liveM (fl:GScan → Bool × GScan) (s:GScan):GLive × GScan :=
  (⟨(fl s).1,(shM (fl s).2).1,(shM (shM (fl s).2).2).1,(numM (shM (shM (fl s).2).2).2).1,(dotM (numM (shM (shM (fl s).2).2).2).2).1⟩,(dotM (numM (shM (shM (fl s).2).2).2).2).2)
def cellM (fl:GScan → Bool × GScan) (s:GScan):GCell × GScan :=
  (⟨(shM s).1,(dotM (shM s).2).1,(numM (dotM (shM s).2).2).1,(dotM (numM (dotM (shM s).2).2).2).1,(numM (dotM (numM (dotM (shM s).2).2).2).2).1,(fl (numM (dotM (numM (dotM (shM s).2).2).2).2).2).1⟩,
    (fl (numM (dotM (numM (dotM (shM s).2).2).2).2).2).2)
theorem talM_t (s:GScan):(talM s).2.t = s.t:=by rw [talM,numM_t,numM_t,shM_t]
theorem talM_pos (s:GScan) (h:0 ≤ s.pos):0 ≤ (talM s).2.pos:=numM_pos (numM_pos (shM_pos h))
theorem liveM_t {fl:GScan → Bool × GScan} (hf:∀ s,(fl s).2.t = s.t) (s:GScan):(liveM fl s).2.t = s.t:=by rw [liveM,dotM_t,numM_t,shM_t,shM_t,hf]
theorem liveM_pos {fl:GScan → Bool × GScan} (hf:∀ s:GScan,0 ≤ s.pos → 0 ≤ (fl s).2.pos) (s:GScan) (h:0 ≤ s.pos):0 ≤ (liveM fl s).2.pos:=dotM_pos (numM_pos (shM_pos (shM_pos (hf s h))))
theorem cellM_t {fl:GScan → Bool × GScan} (hf:∀ s,(fl s).2.t = s.t) (s:GScan):(cellM fl s).2.t = s.t:=by rw [cellM,hf,numM_t,dotM_t,numM_t,dotM_t,shM_t]
theorem cellM_pos {fl:GScan → Bool × GScan} (hf:∀ s:GScan,0 ≤ s.pos → 0 ≤ (fl s).2.pos) (s:GScan) (h:0 ≤ s.pos):0 ≤ (cellM fl s).2.pos:=hf _ (numM_pos (dotM_pos (numM_pos (dotM_pos (shM_pos h)))))
@[simp] def h197:Hts:={ merge:=fun _ => false,lend:=fun f => [.box []] }
set_option maxHeartbeats 2000000 in
theorem f197_ok (s:GScan) (ht:s.t.size ≤ 1073741824) (hp:0 ≤ s.pos):FnW Tryz.prog 197 [.ptr [.str (s).t,.int .i64 (s).pos,.bool (s).bad]] (.v (.ow 179 3 ((lsS talM (cntM s).2 (cntM s).1.toNat).1).length (flat ((lsS talM (cntM s).2 (cntM s).1.toNat).1)))) [.ptr [.str ((lsS talM (cntM s).2 (cntM s).1.toNat).2).t,.int .i64 ((lsS talM (cntM s).2 (cntM s).1.toNat).2).pos,.bool ((lsS talM (cntM s).2 (cntM s).1.toNat).2).bad]]:=by
  obtain ⟨N,hN,hN2⟩:=cntM_N s
  have hNt:(cntM s).1.toNat = N:=by omega
  rw [hNt]
  refine FnW.of_AW TryzT_ok 1 (fn:=Tryz.f197) (by kernel_rfl) rfl (by kernel_rfl) rfl rfl rfl ?_; refine AW_of h197 TryzT_ok (by kernel_rfl) ?_
  simp -dsimp
  refine ACallW_go ?_
  refine ACallC_go (fun us => f201_ok s ht) ?_
  simp -dsimp [hN]
  refine AWh_loop (fun i:Nat => i ≤ N ∧ ∀ j:Nat,j < i → (lsM talM (cntM s).2 j).2.bad = false) (fun i => mkE [(0,.box 640000 0),(3,.arr 192),(4,.c (.int .i64 N)),(5,.c (.int .i64 i))] [(640000,.box [.c (.str (lsM talM (cntM s).2 i).2.t),.c (.int .i64 (lsM talM (cntM s).2 i).2.pos),.c (.bool (lsM talM (cntM s).2 i).2.bad)]),(192,.arr 0 179 3 (lsM talM (cntM s).2 i).1.length (flat (lsM talM (cntM s).2 i).1))]) (fun i => N - i) 0 (Wk_to [0,3,4,5] [(640000,640000),(192,448)] rfl rfl (by simp [lsM])) (by simp) ?_
  rintro i ⟨hi,hall⟩
  have hl:=lsM_len (r:=talM) (cntM s).2 i
  have he:(lsM talM (cntM s).2 i).2.t = s.t:=by rw [lsM_t talM_t,cntM_t]
  have hp0:0 ≤ (lsM talM (cntM s).2 i).2.pos:=lsM_pos talM_pos (cntM_pos hp) i
  refine AW_of h197 TryzT_ok (by kernel_rfl) ?_
  rcases Nat.lt_or_ge i N with h1 | h1
  · cases hb:(lsM talM (cntM s).2 i).2.bad
    · simp -dsimp [h1,hb]
      refine ACallW_go ?_
      have h0:=f314_ok ((lsM talM (cntM s).2 i).2) (by simp only [numM_t,shM_t,dotM_t,boolS_t,flagM_t,he]; exact ht)
      rw [hb] at h0
      refine ACallC_go (fun us => h0) ?_
      simp -dsimp [h1,hb]
      refine ACallW_go ?_
      refine ACallC_go (fun us => f313_ok ((shM ((lsM talM (cntM s).2 i).2)).2) (by simp only [numM_t,shM_t,dotM_t,boolS_t,flagM_t,he]; exact ht)) ?_
      simp -dsimp [h1,hb]
      refine ACallW_go ?_
      refine ACallC_go (fun us => f313_ok ((numM ((shM ((lsM talM (cntM s).2 i).2)).2)).2) (by simp only [numM_t,shM_t,dotM_t,boolS_t,flagM_t,he]; exact ht)) ?_
      simp -dsimp [h1,hb]
      refine ⟨by simp [capMax]; omega,?_⟩
      exact Back_of (i + 1) [0,3,4,5] [(640000,640000),(192,2176)] rfl rfl (by simp [lsM,talM,liveM,cellM]; rw [wrap64 (by omega) (by omega)]) ⟨by omega,fun j hj => by
        by_cases e:j = i
        · subst e; exact hb
        · exact hall j (by omega)⟩ (by omega)
    · simp -dsimp [h1,hb]
      rw [lsS_stop hall hb N (by omega)]
      refine ⟨⟨rfl,rfl⟩,?_⟩
      simp [hb]
  · obtain rfl:i = N:=by omega
    simp -dsimp
    rw [lsS_eq hall]
    exact ⟨⟨rfl,rfl⟩,rfl,rfl,rfl⟩
@[simp] def h184:Hts:={ merge:=fun _ => false,lend:=fun f => [.box []] }
set_option maxHeartbeats 2000000 in
theorem f184_ok (s:GScan) (ht:s.t.size ≤ 1073741824) (hp:0 ≤ s.pos):FnW Tryz.prog 184 [.ptr [.str (s).t,.int .i64 (s).pos,.bool (s).bad]] (.v (.ow 179 3 ((lsM talM (cntM s).2 (cntM s).1.toNat).1).length (flat ((lsM talM (cntM s).2 (cntM s).1.toNat).1)))) [.ptr [.str ((lsM talM (cntM s).2 (cntM s).1.toNat).2).t,.int .i64 ((lsM talM (cntM s).2 (cntM s).1.toNat).2).pos,.bool ((lsM talM (cntM s).2 (cntM s).1.toNat).2).bad]]:=by
  obtain ⟨N,hN,hN2⟩:=cntM_N s
  have hNt:(cntM s).1.toNat = N:=by omega
  rw [hNt]
  refine FnW.of_AW TryzT_ok 1 (fn:=Tryz.f184) (by kernel_rfl) rfl (by kernel_rfl) rfl rfl rfl ?_; refine AW_of h184 TryzT_ok (by kernel_rfl) ?_
  simp -dsimp
  refine ACallW_go ?_
  refine ACallC_go (fun us => f190_ok s ht) ?_
  simp -dsimp [hN]
  refine AWh_loop (fun i:Nat => i ≤ N) (fun i => mkE [(0,.box 640000 0),(3,.arr 192),(9,.c (.int .i64 N)),(10,.c (.int .i64 i))] [(640000,.box [.c (.str (lsM talM (cntM s).2 i).2.t),.c (.int .i64 (lsM talM (cntM s).2 i).2.pos),.c (.bool (lsM talM (cntM s).2 i).2.bad)]),(192,.arr 0 179 3 (lsM talM (cntM s).2 i).1.length (flat (lsM talM (cntM s).2 i).1))]) (fun i => N - i) 0 (Wk_to [0,3,9,10] [(640000,640000),(192,384)] rfl rfl (by simp [lsM])) (by simp) ?_
  rintro i hi
  have hl:=lsM_len (r:=talM) (cntM s).2 i
  have he:(lsM talM (cntM s).2 i).2.t = s.t:=by rw [lsM_t talM_t,cntM_t]
  have hp0:0 ≤ (lsM talM (cntM s).2 i).2.pos:=lsM_pos talM_pos (cntM_pos hp) i
  refine AW_of h184 TryzT_ok (by kernel_rfl) ?_
  rcases Nat.lt_or_ge i N with h1 | h1
  · simp -dsimp [h1]
    refine ACallW_go ?_
    refine ACallC_go (fun us => f301_ok ((lsM talM (cntM s).2 i).2) (by simp only [numM_t,shM_t,dotM_t,boolS_t,flagM_t,he]; exact ht)) ?_
    simp -dsimp [h1]
    refine ACallW_go ?_
    refine ACallC_go (fun us => f300_ok ((shM ((lsM talM (cntM s).2 i).2)).2) (by simp only [numM_t,shM_t,dotM_t,boolS_t,flagM_t,he]; exact ht)) ?_
    simp -dsimp [h1]
    refine ACallW_go ?_
    refine ACallC_go (fun us => f300_ok ((numM ((shM ((lsM talM (cntM s).2 i).2)).2)).2) (by simp only [numM_t,shM_t,dotM_t,boolS_t,flagM_t,he]; exact ht)) ?_
    simp -dsimp [h1]
    refine ⟨by simp [capMax]; omega,?_⟩
    exact Back_of (i + 1) [0,3,9,10] [(640000,640000),(192,1600)] rfl rfl (by simp [lsM,talM,liveM,cellM]; rw [wrap64 (by omega) (by omega)]) (by omega) (by omega)
  · obtain rfl:i = N:=by omega
    simp -dsimp
    try exact ⟨⟨rfl,rfl⟩,rfl,rfl,rfl⟩
@[simp] def h198:Hts:={ merge:=fun _ => false,lend:=fun f => [.box []] }
set_option maxHeartbeats 2000000 in
theorem f198_ok (s:GScan) (ht:s.t.size ≤ 1073741824) (hp:0 ≤ s.pos):FnW Tryz.prog 198 [.ptr [.str (s).t,.int .i64 (s).pos,.bool (s).bad]] (.v (.ow 159 6 ((lsS (liveM boolS) (cntM s).2 (cntM s).1.toNat).1).length (flat ((lsS (liveM boolS) (cntM s).2 (cntM s).1.toNat).1)))) [.ptr [.str ((lsS (liveM boolS) (cntM s).2 (cntM s).1.toNat).2).t,.int .i64 ((lsS (liveM boolS) (cntM s).2 (cntM s).1.toNat).2).pos,.bool ((lsS (liveM boolS) (cntM s).2 (cntM s).1.toNat).2).bad]]:=by
  obtain ⟨N,hN,hN2⟩:=cntM_N s
  have hNt:(cntM s).1.toNat = N:=by omega
  rw [hNt]
  refine FnW.of_AW TryzT_ok 1 (fn:=Tryz.f198) (by kernel_rfl) rfl (by kernel_rfl) rfl rfl rfl ?_; refine AW_of h198 TryzT_ok (by kernel_rfl) ?_
  simp -dsimp
  refine ACallW_go ?_
  refine ACallC_go (fun us => f201_ok s ht) ?_
  simp -dsimp [hN]
  refine AWh_loop (fun i:Nat => i ≤ N ∧ ∀ j:Nat,j < i → (lsM (liveM boolS) (cntM s).2 j).2.bad = false) (fun i => mkE [(0,.box 640000 0),(3,.arr 192),(4,.c (.int .i64 N)),(5,.c (.int .i64 i))] [(640000,.box [.c (.str (lsM (liveM boolS) (cntM s).2 i).2.t),.c (.int .i64 (lsM (liveM boolS) (cntM s).2 i).2.pos),.c (.bool (lsM (liveM boolS) (cntM s).2 i).2.bad)]),(192,.arr 0 159 6 (lsM (liveM boolS) (cntM s).2 i).1.length (flat (lsM (liveM boolS) (cntM s).2 i).1))]) (fun i => N - i) 0 (Wk_to [0,3,4,5] [(640000,640000),(192,448)] rfl rfl (by simp [lsM])) (by simp) ?_
  rintro i ⟨hi,hall⟩
  have hl:=lsM_len (r:=(liveM boolS)) (cntM s).2 i
  have he:(lsM (liveM boolS) (cntM s).2 i).2.t = s.t:=by rw [lsM_t (liveM_t boolS_t),cntM_t]
  have hp0:0 ≤ (lsM (liveM boolS) (cntM s).2 i).2.pos:=lsM_pos (liveM_pos fun _ => boolS_pos) (cntM_pos hp) i
  refine AW_of h198 TryzT_ok (by kernel_rfl) ?_
  rcases Nat.lt_or_ge i N with h1 | h1
  · cases hb:(lsM (liveM boolS) (cntM s).2 i).2.bad
    · simp -dsimp [h1,hb]
      refine ACallW_go ?_
      have h0:=f315_ok ((lsM (liveM boolS) (cntM s).2 i).2) (by simp only [numM_t,shM_t,dotM_t,boolS_t,flagM_t,he]; exact ht) (by repeat (first | exact hp0 | apply numM_pos | apply shM_pos | apply dotM_pos | apply boolS_pos | apply flagM_pos))
      rw [hb] at h0
      refine ACallC_go (fun us => h0) ?_
      simp -dsimp [h1,hb]
      refine ACallW_go ?_
      refine ACallC_go (fun us => f314_ok ((boolS ((lsM (liveM boolS) (cntM s).2 i).2)).2) (by simp only [numM_t,shM_t,dotM_t,boolS_t,flagM_t,he]; exact ht)) ?_
      simp -dsimp [h1,hb]
      refine ACallW_go ?_
      refine ACallC_go (fun us => f314_ok ((shM ((boolS ((lsM (liveM boolS) (cntM s).2 i).2)).2)).2) (by simp only [numM_t,shM_t,dotM_t,boolS_t,flagM_t,he]; exact ht)) ?_
      simp -dsimp [h1,hb]
      refine ACallW_go ?_
      refine ACallC_go (fun us => f313_ok ((shM ((shM ((boolS ((lsM (liveM boolS) (cntM s).2 i).2)).2)).2)).2) (by simp only [numM_t,shM_t,dotM_t,boolS_t,flagM_t,he]; exact ht)) ?_
      simp -dsimp [h1,hb]
      refine ACallW_go ?_
      refine ACallC_go (fun us => f202_ok ((numM ((shM ((shM ((boolS ((lsM (liveM boolS) (cntM s).2 i).2)).2)).2)).2)).2) (by simp only [numM_t,shM_t,dotM_t,boolS_t,flagM_t,he]; exact ht)) ?_
      simp -dsimp [h1,hb]
      refine ⟨by simp [capMax]; omega,?_⟩
      exact Back_of (i + 1) [0,3,4,5] [(640000,640000),(192,2560)] rfl rfl (by simp [lsM,talM,liveM,cellM]; rw [wrap64 (by omega) (by omega)]) ⟨by omega,fun j hj => by
        by_cases e:j = i
        · subst e; exact hb
        · exact hall j (by omega)⟩ (by omega)
    · simp -dsimp [h1,hb]
      rw [lsS_stop hall hb N (by omega)]
      refine ⟨⟨rfl,rfl⟩,?_⟩
      simp [hb]
  · obtain rfl:i = N:=by omega
    simp -dsimp
    rw [lsS_eq hall]
    exact ⟨⟨rfl,rfl⟩,rfl,rfl,rfl⟩
@[simp] def h185:Hts:={ merge:=fun _ => false,lend:=fun f => [.box []] }
set_option maxHeartbeats 2000000 in
theorem f185_ok (s:GScan) (ht:s.t.size ≤ 1073741824) (hp:0 ≤ s.pos):FnW Tryz.prog 185 [.ptr [.str (s).t,.int .i64 (s).pos,.bool (s).bad]] (.v (.ow 159 6 ((lsM (liveM flagM) (cntM s).2 (cntM s).1.toNat).1).length (flat ((lsM (liveM flagM) (cntM s).2 (cntM s).1.toNat).1)))) [.ptr [.str ((lsM (liveM flagM) (cntM s).2 (cntM s).1.toNat).2).t,.int .i64 ((lsM (liveM flagM) (cntM s).2 (cntM s).1.toNat).2).pos,.bool ((lsM (liveM flagM) (cntM s).2 (cntM s).1.toNat).2).bad]]:=by
  obtain ⟨N,hN,hN2⟩:=cntM_N s
  have hNt:(cntM s).1.toNat = N:=by omega
  rw [hNt]
  refine FnW.of_AW TryzT_ok 1 (fn:=Tryz.f185) (by kernel_rfl) rfl (by kernel_rfl) rfl rfl rfl ?_; refine AW_of h185 TryzT_ok (by kernel_rfl) ?_
  simp -dsimp
  refine ACallW_go ?_
  refine ACallC_go (fun us => f190_ok s ht) ?_
  simp -dsimp [hN]
  refine AWh_loop (fun i:Nat => i ≤ N) (fun i => mkE [(0,.box 640000 0),(3,.arr 192),(9,.c (.int .i64 N)),(10,.c (.int .i64 i))] [(640000,.box [.c (.str (lsM (liveM flagM) (cntM s).2 i).2.t),.c (.int .i64 (lsM (liveM flagM) (cntM s).2 i).2.pos),.c (.bool (lsM (liveM flagM) (cntM s).2 i).2.bad)]),(192,.arr 0 159 6 (lsM (liveM flagM) (cntM s).2 i).1.length (flat (lsM (liveM flagM) (cntM s).2 i).1))]) (fun i => N - i) 0 (Wk_to [0,3,9,10] [(640000,640000),(192,384)] rfl rfl (by simp [lsM])) (by simp) ?_
  rintro i hi
  have hl:=lsM_len (r:=(liveM flagM)) (cntM s).2 i
  have he:(lsM (liveM flagM) (cntM s).2 i).2.t = s.t:=by rw [lsM_t (liveM_t flagM_t),cntM_t]
  have hp0:0 ≤ (lsM (liveM flagM) (cntM s).2 i).2.pos:=lsM_pos (liveM_pos fun _ => flagM_pos) (cntM_pos hp) i
  refine AW_of h185 TryzT_ok (by kernel_rfl) ?_
  rcases Nat.lt_or_ge i N with h1 | h1
  · simp -dsimp [h1]
    refine ACallW_go ?_
    refine ACallC_go (fun us => f302_ok ((lsM (liveM flagM) (cntM s).2 i).2) (by simp only [numM_t,shM_t,dotM_t,boolS_t,flagM_t,he]; exact ht)) ?_
    simp -dsimp [h1]
    refine ACallW_go ?_
    refine ACallC_go (fun us => f301_ok ((flagM ((lsM (liveM flagM) (cntM s).2 i).2)).2) (by simp only [numM_t,shM_t,dotM_t,boolS_t,flagM_t,he]; exact ht)) ?_
    simp -dsimp [h1]
    refine ACallW_go ?_
    refine ACallC_go (fun us => f301_ok ((shM ((flagM ((lsM (liveM flagM) (cntM s).2 i).2)).2)).2) (by simp only [numM_t,shM_t,dotM_t,boolS_t,flagM_t,he]; exact ht)) ?_
    simp -dsimp [h1]
    refine ACallW_go ?_
    refine ACallC_go (fun us => f300_ok ((shM ((shM ((flagM ((lsM (liveM flagM) (cntM s).2 i).2)).2)).2)).2) (by simp only [numM_t,shM_t,dotM_t,boolS_t,flagM_t,he]; exact ht)) ?_
    simp -dsimp [h1]
    refine ACallW_go ?_
    refine ACallC_go (fun us => f191_ok ((numM ((shM ((shM ((flagM ((lsM (liveM flagM) (cntM s).2 i).2)).2)).2)).2)).2) (by simp only [numM_t,shM_t,dotM_t,boolS_t,flagM_t,he]; exact ht)) ?_
    simp -dsimp [h1]
    refine ⟨by simp [capMax]; omega,?_⟩
    exact Back_of (i + 1) [0,3,9,10] [(640000,640000),(192,1984)] rfl rfl (by simp [lsM,talM,liveM,cellM]; rw [wrap64 (by omega) (by omega)]) (by omega) (by omega)
  · obtain rfl:i = N:=by omega
    simp -dsimp
    try exact ⟨⟨rfl,rfl⟩,rfl,rfl,rfl⟩
@[simp] def h199:Hts:={ merge:=fun _ => false,lend:=fun f => [.box []] }
set_option maxHeartbeats 2000000 in
theorem f199_ok (s:GScan) (ht:s.t.size ≤ 1073741824) (hp:0 ≤ s.pos):FnW Tryz.prog 199 [.ptr [.str (s).t,.int .i64 (s).pos,.bool (s).bad]] (.v (.ow 72 8 ((lsS (cellM boolS) (cntM s).2 (cntM s).1.toNat).1).length (flat ((lsS (cellM boolS) (cntM s).2 (cntM s).1.toNat).1)))) [.ptr [.str ((lsS (cellM boolS) (cntM s).2 (cntM s).1.toNat).2).t,.int .i64 ((lsS (cellM boolS) (cntM s).2 (cntM s).1.toNat).2).pos,.bool ((lsS (cellM boolS) (cntM s).2 (cntM s).1.toNat).2).bad]]:=by
  obtain ⟨N,hN,hN2⟩:=cntM_N s
  have hNt:(cntM s).1.toNat = N:=by omega
  rw [hNt]
  refine FnW.of_AW TryzT_ok 1 (fn:=Tryz.f199) (by kernel_rfl) rfl (by kernel_rfl) rfl rfl rfl ?_; refine AW_of h199 TryzT_ok (by kernel_rfl) ?_
  simp -dsimp
  refine ACallW_go ?_
  refine ACallC_go (fun us => f201_ok s ht) ?_
  simp -dsimp [hN]
  refine AWh_loop (fun i:Nat => i ≤ N ∧ ∀ j:Nat,j < i → (lsM (cellM boolS) (cntM s).2 j).2.bad = false) (fun i => mkE [(0,.box 640000 0),(3,.arr 192),(4,.c (.int .i64 N)),(5,.c (.int .i64 i))] [(640000,.box [.c (.str (lsM (cellM boolS) (cntM s).2 i).2.t),.c (.int .i64 (lsM (cellM boolS) (cntM s).2 i).2.pos),.c (.bool (lsM (cellM boolS) (cntM s).2 i).2.bad)]),(192,.arr 0 72 8 (lsM (cellM boolS) (cntM s).2 i).1.length (flat (lsM (cellM boolS) (cntM s).2 i).1))]) (fun i => N - i) 0 (Wk_to [0,3,4,5] [(640000,640000),(192,448)] rfl rfl (by simp [lsM])) (by simp) ?_
  rintro i ⟨hi,hall⟩
  have hl:=lsM_len (r:=(cellM boolS)) (cntM s).2 i
  have he:(lsM (cellM boolS) (cntM s).2 i).2.t = s.t:=by rw [lsM_t (cellM_t boolS_t),cntM_t]
  have hp0:0 ≤ (lsM (cellM boolS) (cntM s).2 i).2.pos:=lsM_pos (cellM_pos fun _ => boolS_pos) (cntM_pos hp) i
  refine AW_of h199 TryzT_ok (by kernel_rfl) ?_
  rcases Nat.lt_or_ge i N with h1 | h1
  · cases hb:(lsM (cellM boolS) (cntM s).2 i).2.bad
    · simp -dsimp [h1,hb]
      refine ACallW_go ?_
      have h0:=f314_ok ((lsM (cellM boolS) (cntM s).2 i).2) (by simp only [numM_t,shM_t,dotM_t,boolS_t,flagM_t,he]; exact ht)
      rw [hb] at h0
      refine ACallC_go (fun us => h0) ?_
      simp -dsimp [h1,hb]
      refine ACallW_go ?_
      refine ACallC_go (fun us => f202_ok ((shM ((lsM (cellM boolS) (cntM s).2 i).2)).2) (by simp only [numM_t,shM_t,dotM_t,boolS_t,flagM_t,he]; exact ht)) ?_
      simp -dsimp [h1,hb]
      refine ACallW_go ?_
      refine ACallC_go (fun us => f313_ok ((dotM ((shM ((lsM (cellM boolS) (cntM s).2 i).2)).2)).2) (by simp only [numM_t,shM_t,dotM_t,boolS_t,flagM_t,he]; exact ht)) ?_
      simp -dsimp [h1,hb]
      refine ACallW_go ?_
      refine ACallC_go (fun us => f202_ok ((numM ((dotM ((shM ((lsM (cellM boolS) (cntM s).2 i).2)).2)).2)).2) (by simp only [numM_t,shM_t,dotM_t,boolS_t,flagM_t,he]; exact ht)) ?_
      simp -dsimp [h1,hb]
      refine ACallW_go ?_
      refine ACallC_go (fun us => f313_ok ((dotM ((numM ((dotM ((shM ((lsM (cellM boolS) (cntM s).2 i).2)).2)).2)).2)).2) (by simp only [numM_t,shM_t,dotM_t,boolS_t,flagM_t,he]; exact ht)) ?_
      simp -dsimp [h1,hb]
      refine ACallW_go ?_
      refine ACallC_go (fun us => f315_ok ((numM ((dotM ((numM ((dotM ((shM ((lsM (cellM boolS) (cntM s).2 i).2)).2)).2)).2)).2)).2) (by simp only [numM_t,shM_t,dotM_t,boolS_t,flagM_t,he]; exact ht) (by repeat (first | exact hp0 | apply numM_pos | apply shM_pos | apply dotM_pos | apply boolS_pos | apply flagM_pos))) ?_
      simp -dsimp [h1,hb]
      refine ⟨by simp [capMax]; omega,?_⟩
      exact Back_of (i + 1) [0,3,4,5] [(640000,640000),(192,2752)] rfl rfl (by simp [lsM,talM,liveM,cellM]; rw [wrap64 (by omega) (by omega)]) ⟨by omega,fun j hj => by
        by_cases e:j = i
        · subst e; exact hb
        · exact hall j (by omega)⟩ (by omega)
    · simp -dsimp [h1,hb]
      rw [lsS_stop hall hb N (by omega)]
      refine ⟨⟨rfl,rfl⟩,?_⟩
      simp [hb]
  · obtain rfl:i = N:=by omega
    simp -dsimp
    rw [lsS_eq hall]
    exact ⟨⟨rfl,rfl⟩,rfl,rfl,rfl⟩
@[simp] def h186:Hts:={ merge:=fun _ => false,lend:=fun f => [.box []] }
set_option maxHeartbeats 2000000 in
theorem f186_ok (s:GScan) (ht:s.t.size ≤ 1073741824) (hp:0 ≤ s.pos):FnW Tryz.prog 186 [.ptr [.str (s).t,.int .i64 (s).pos,.bool (s).bad]] (.v (.ow 72 8 ((lsM (cellM flagM) (cntM s).2 (cntM s).1.toNat).1).length (flat ((lsM (cellM flagM) (cntM s).2 (cntM s).1.toNat).1)))) [.ptr [.str ((lsM (cellM flagM) (cntM s).2 (cntM s).1.toNat).2).t,.int .i64 ((lsM (cellM flagM) (cntM s).2 (cntM s).1.toNat).2).pos,.bool ((lsM (cellM flagM) (cntM s).2 (cntM s).1.toNat).2).bad]]:=by
  obtain ⟨N,hN,hN2⟩:=cntM_N s
  have hNt:(cntM s).1.toNat = N:=by omega
  rw [hNt]
  refine FnW.of_AW TryzT_ok 1 (fn:=Tryz.f186) (by kernel_rfl) rfl (by kernel_rfl) rfl rfl rfl ?_; refine AW_of h186 TryzT_ok (by kernel_rfl) ?_
  simp -dsimp
  refine ACallW_go ?_
  refine ACallC_go (fun us => f190_ok s ht) ?_
  simp -dsimp [hN]
  refine AWh_loop (fun i:Nat => i ≤ N) (fun i => mkE [(0,.box 640000 0),(3,.arr 192),(9,.c (.int .i64 N)),(10,.c (.int .i64 i))] [(640000,.box [.c (.str (lsM (cellM flagM) (cntM s).2 i).2.t),.c (.int .i64 (lsM (cellM flagM) (cntM s).2 i).2.pos),.c (.bool (lsM (cellM flagM) (cntM s).2 i).2.bad)]),(192,.arr 0 72 8 (lsM (cellM flagM) (cntM s).2 i).1.length (flat (lsM (cellM flagM) (cntM s).2 i).1))]) (fun i => N - i) 0 (Wk_to [0,3,9,10] [(640000,640000),(192,384)] rfl rfl (by simp [lsM])) (by simp) ?_
  rintro i hi
  have hl:=lsM_len (r:=(cellM flagM)) (cntM s).2 i
  have he:(lsM (cellM flagM) (cntM s).2 i).2.t = s.t:=by rw [lsM_t (cellM_t flagM_t),cntM_t]
  have hp0:0 ≤ (lsM (cellM flagM) (cntM s).2 i).2.pos:=lsM_pos (cellM_pos fun _ => flagM_pos) (cntM_pos hp) i
  refine AW_of h186 TryzT_ok (by kernel_rfl) ?_
  rcases Nat.lt_or_ge i N with h1 | h1
  · simp -dsimp [h1]
    refine ACallW_go ?_
    refine ACallC_go (fun us => f301_ok ((lsM (cellM flagM) (cntM s).2 i).2) (by simp only [numM_t,shM_t,dotM_t,boolS_t,flagM_t,he]; exact ht)) ?_
    simp -dsimp [h1]
    refine ACallW_go ?_
    refine ACallC_go (fun us => f191_ok ((shM ((lsM (cellM flagM) (cntM s).2 i).2)).2) (by simp only [numM_t,shM_t,dotM_t,boolS_t,flagM_t,he]; exact ht)) ?_
    simp -dsimp [h1]
    refine ACallW_go ?_
    refine ACallC_go (fun us => f300_ok ((dotM ((shM ((lsM (cellM flagM) (cntM s).2 i).2)).2)).2) (by simp only [numM_t,shM_t,dotM_t,boolS_t,flagM_t,he]; exact ht)) ?_
    simp -dsimp [h1]
    refine ACallW_go ?_
    refine ACallC_go (fun us => f191_ok ((numM ((dotM ((shM ((lsM (cellM flagM) (cntM s).2 i).2)).2)).2)).2) (by simp only [numM_t,shM_t,dotM_t,boolS_t,flagM_t,he]; exact ht)) ?_
    simp -dsimp [h1]
    refine ACallW_go ?_
    refine ACallC_go (fun us => f300_ok ((dotM ((numM ((dotM ((shM ((lsM (cellM flagM) (cntM s).2 i).2)).2)).2)).2)).2) (by simp only [numM_t,shM_t,dotM_t,boolS_t,flagM_t,he]; exact ht)) ?_
    simp -dsimp [h1]
    refine ACallW_go ?_
    refine ACallC_go (fun us => f302_ok ((numM ((dotM ((numM ((dotM ((shM ((lsM (cellM flagM) (cntM s).2 i).2)).2)).2)).2)).2)).2) (by simp only [numM_t,shM_t,dotM_t,boolS_t,flagM_t,he]; exact ht)) ?_
    simp -dsimp [h1]
    refine ⟨by simp [capMax]; omega,?_⟩
    exact Back_of (i + 1) [0,3,9,10] [(640000,640000),(192,2176)] rfl rfl (by simp [lsM,talM,liveM,cellM]; rw [wrap64 (by omega) (by omega)]) (by omega) (by omega)
  · obtain rfl:i = N:=by omega
    simp -dsimp
    try exact ⟨⟨rfl,rfl⟩,rfl,rfl,rfl⟩
end Am
namespace Am
open Go Go.Proofs
set_option maxRecDepth 100000
structure Seg (s s':GScan) (x:ByteArray):Prop where
  b:s.bad = false
  t:s'.t = s.t
  l:s.pos ≤ s'.pos
  h:s'.pos ≤ s.t.size
  e:s.t.extract s.pos.toNat s'.pos.toNat = x
structure Fine (s:GScan):Prop where
  l:0 ≤ s.pos
  h:s.pos ≤ s.t.size
theorem Seg.trans {s s' s'':GScan} {x y:ByteArray} (f:Fine s) (a:Seg s s' x) (b:Seg s' s'' y):Seg s s'' (x ++ y):=by
  obtain ⟨a0,a1,a2,a3,a4⟩:=a
  obtain ⟨b0,b1,b2,b3,b4⟩:=b
  have:=f.l
  refine ⟨a0,by rw [b1,a1],by omega,by rw [a1] at b3; exact b3,?_⟩
  rw [← a4,← b4,a1,ByteArray.extract_append_extract]
  congr 1 <;> omega
theorem Seg.nil {s:GScan} (f:Fine s) (h:s.bad = false):Seg s s ⟨#[]⟩:=⟨h,rfl,Int.le_refl _,f.h,by rw [extract_str]; simp [str]⟩
structure Rdr {α:Type} (r:GScan → α × GScan) (w:α → ByteArray):Prop where
  f:∀ s,Fine s → Fine (r s).2
  g:∀ s,Fine s → (r s).2.bad = false → Seg s (r s).2 (w (r s).1)
theorem rvGo_canon:∀ (f:Nat) (l ds:List UInt8) (n c:Nat),(∀ d,d ∈ ds → 127 < d.toNat) → rvGo l ds f = some (n,c) → ds ++ l.take (c - ds.length) = varB n
  | 0,_,_,_,_,_,h => by simp [rvGo] at h
  | f + 1,[],_,_,_,_,h => by simp [rvGo] at h
  | f + 1,x :: r,ds,n,c,hd,h => by
    simp only [rvGo] at h
    split at h
    · rename_i hx
      have ih:=rvGo_canon f r (ds ++ [x]) n c (fun d hd' => by
        rcases List.mem_append.1 hd' with h' | h'
        · exact hd d h'
        · simp only [List.mem_singleton] at h'; subst h'; exact hx) h
      have:=rvGo_spec f r (ds ++ [x]) n c h
      simp only [List.length_append,List.length_singleton] at ih this
      rw [← ih]
      have e:c - ds.length = (c - (ds.length + 1)) + 1:=by omega
      rw [e,List.take_succ_cons]
      simp
    · rename_i hx
      split at h
      · cases h
      · rename_i hy
        simp only [Option.some.injEq,Prod.mk.injEq] at h
        obtain ⟨rfl,rfl⟩:=h
        rw [varB_dec (by omega) ds hd (by
          by_cases e:ds = []
          · exact Or.inl e
          · exact Or.inr fun e' => hy (Or.inl ⟨e,e'⟩))]
        have e:ds.length + 1 - ds.length = 1:=by omega
        rw [e]; rfl
theorem rd_canon {t:ByteArray} {p n a:Int} (h:rd t p = some (n,a)):t.extract p.toNat a.toNat = varS n:=by
  have sp:=rd_spec h
  unfold rd at h
  rw [if_pos ⟨by omega,by omega⟩] at h
  simp only [Option.map_eq_some_iff] at h
  obtain ⟨⟨m,c⟩,h1,h2⟩:=h
  simp only [Prod.mk.injEq] at h2
  obtain ⟨rfl,rfl⟩:=h2
  have:=rvGo_canon 5 _ [] m c (by simp) h1
  rw [extract_str,varS]
  have e:(p + (c:Int)).toNat - p.toNat = c:=by omega
  rw [e]
  simp at this
  rw [this]; rfl
theorem numM_rdr:Rdr numM varS where
  f:=by
    intro s f
    refine ⟨numM_pos f.l,?_⟩
    rw [numM_t]
    unfold numM
    split
    · exact f.h
    · cases g:rd s.t s.pos with
      | none => exact f.h
      | some x => obtain ⟨n,a⟩:=x; have:=rd_spec g; simp only; omega
  g:=by
    intro s f h
    unfold numM at h ⊢
    split at h
    · rename_i hb; simp only at h; rw [h] at hb; cases hb
    · rename_i hb
      have hb':s.bad = false:=by simpa using hb
      cases g:rd s.t s.pos with
      | none => rw [g] at h; cases h
      | some x =>
        obtain ⟨n,a⟩:=x
        have sp:=rd_spec g
        rw [if_neg hb]
        exact ⟨hb',rfl,by simp only; omega,by simp only; omega,rd_canon g⟩
theorem shM_rdr:Rdr shM shortS where
  f:=by
    intro s f
    refine ⟨shM_pos f.l,?_⟩
    rw [shM_t]
    unfold shM
    split
    · exact f.h
    · cases g:rs s.t s.pos with
      | none => exact f.h
      | some x =>
        obtain ⟨y,a⟩:=x
        obtain ⟨n,b,h1,_,h3,_,rfl⟩:=rs_spec g
        simp only; omega
  g:=by
    intro s f h
    unfold shM at h ⊢
    split at h
    · rename_i hb; simp only at h; rw [h] at hb; cases hb
    · rename_i hb
      have hb':s.bad = false:=by simpa using hb
      cases g:rs s.t s.pos with
      | none => rw [g] at h; cases h
      | some x =>
        obtain ⟨y,a⟩:=x
        obtain ⟨n,b,h1,h2,h3,rfl,rfl⟩:=rs_spec g
        have sp:=rd_spec h1
        rw [if_neg hb]
        refine ⟨hb',rfl,by simp only; omega,by simp only; omega,?_⟩
        simp only
        have e:((s.t.extract b.toNat (b + n).toNat).size:Int) = n:=by
          rw [ByteArray.size_extract]; omega
        rw [shortS,e,← rd_canon h1,ByteArray.extract_append_extract]
        congr 1 <;> omega
theorem Rdr.two {α β:Type} {r:GScan → α × GScan} {q:GScan → β × GScan} {w:α → ByteArray} {v:β → ByteArray} (a:Rdr r w) (b:Rdr q v) :
    Rdr (fun s => (((r s).1,(q (r s).2).1),(q (r s).2).2)) (fun x => w x.1 ++ v x.2) where
  f:=fun s f => b.f _ (a.f s f)
  g:=fun s f h => by
    have h2:=b.g _ (a.f s f) h
    exact (a.g s f h2.b).trans f h2
theorem Rdr.to {α β:Type} {r:GScan → α × GScan} {q:GScan → β × GScan} {w:α → ByteArray} {v:β → ByteArray} (a:Rdr r w) (k:α → β) (h:∀ s,q s = (k (r s).1,(r s).2)) (hw:∀ x,v (k x) = w x):Rdr q v where
  f:=fun s f => by rw [h]; exact a.f s f
  g:=fun s f hb => by
    rw [h] at hb ⊢
    simp only at hb ⊢
    rw [hw]; exact a.g s f hb
theorem dotM_rdr:Rdr dotM dotS:=(numM_rdr.two numM_rdr).to (fun x => ⟨x.1,x.2⟩) (fun s => rfl) (fun x => rfl)
theorem flag_num (n:Int) (h0:0 ≤ n) (h1:¬ 1 < n):flagS (n == 1) = varS n:=by
  have:n = 0 ∨ n = 1:=by omega
  rcases this with rfl | rfl
  · rw [varS,flagS,varB_small (by decide)]; rfl
  · rw [varS,flagS,varB_small (by decide)]; rfl
theorem flagM_rdr:Rdr flagM flagS where
  f:=by
    intro s f
    have:=numM_rdr.f s f
    unfold flagM
    simp only
    split
    · exact ⟨this.l,this.h⟩
    · exact this
  g:=by
    intro s f h
    unfold flagM at h ⊢
    simp only at h ⊢
    split at h
    · cases h
    · rename_i hn
      rw [if_neg hn,flag_num _ (numM_nn s) hn]
      exact numM_rdr.g s f h
theorem u8_small {n:Nat} (h:n ≤ 127):(u8 (n:Int)).toNat = n:=by
  unfold u8
  rw [UInt8.toNat_ofNat']
  omega
theorem bool_flag {s:GScan} (f:Fine s) (h:(flagM s).2.bad = false ∨ (boolS s).2.bad = false):flagM s = boolS s:=by
  obtain ⟨t,p,b⟩:=s
  have fl:=f.l
  have fh:=f.h
  simp only at fl fh
  cases b
  · by_cases hp:p < t.size
    · obtain ⟨k,rfl⟩:=Int.eq_ofNat_of_zero_le fl
      obtain ⟨c,hc1,hc2⟩:=bt_at (t:=t) (k:=k) (by omega)
      by_cases hc:c.toNat ≤ 1
      · have g:rd t k = some ((c.toNat:Int),(k:Int) + 1):=by
          unfold rd
          rw [if_pos ⟨fl,fh⟩,Int.toNat_natCast,hc1,rvGo,if_neg (by omega)]
          have e:decL ([] ++ [c]) = c.toNat:=by simp [decL]; omega
          rw [e,if_neg (by simp; omega)]
          simp
        have e1:numM ⟨t,k,false⟩ = (((c.toNat:Nat):Int),⟨t,(k:Int) + 1,false⟩):=by
          simp [numM,g]
        have e2:boolS ⟨t,k,false⟩ = ((c.toNat:Int) == 1,⟨t,(k:Int) + 1,false⟩):=by
          simp only [boolS]
          rw [if_neg (by rw [hc2]; simp; omega),hc2]
        rw [e2,flagM,e1]
        simp only
        rw [if_neg (by omega)]
      · exfalso
        rcases h with h | h
        · have sg:=flagM_rdr.g _ f h
          have hn:¬ 1 < (numM ⟨t,k,false⟩).1:=by
            intro hn
            simp only [flagM,if_pos hn,setBad] at h
            cases h
          have e:flagM ⟨t,k,false⟩ = ((numM ⟨t,k,false⟩).1 == 1,(numM ⟨t,k,false⟩).2):=by simp only [flagM,if_neg hn]
          rw [e] at h
          have sn:=numM_rdr.g _ f h
          have h0:=numM_nn ⟨t,k,false⟩
          have e2:=sn.e
          obtain ⟨m,hm⟩:=Int.eq_ofNat_of_zero_le h0
          rw [hm] at hn e2
          rw [extract_str,varS,Int.toNat_natCast,varB_small (by omega),str_inj] at e2
          simp only [Int.toNat_natCast,hc1] at e2
          have h3:∀ z,(c :: List.drop (k + 1) t.data.toList).take z = [u8 (m:Int)] → c = u8 (m:Int):=by
            intro z hz
            cases z with
            | zero => simp at hz
            | succ z => rw [List.take_succ_cons] at hz; exact (List.cons.inj hz).1
          have h4:=h3 _ e2
          have h5:=u8_small (n:=m) (by omega)
          rw [← h4] at h5
          omega
        · simp only [boolS] at h
          rw [if_pos (by rw [hc2]; simp; omega)] at h
          cases h
    · exfalso
      have hpp:p = t.size:=by omega
      subst hpp
      rcases h with h | h
      · have hn:¬ 1 < (numM ⟨t,t.size,false⟩).1:=by
          intro hn
          simp only [flagM,if_pos hn,setBad] at h
          cases h
        have e:flagM ⟨t,t.size,false⟩ = ((numM ⟨t,t.size,false⟩).1 == 1,(numM ⟨t,t.size,false⟩).2):=by simp only [flagM,if_neg hn]
        rw [e] at h
        have g:rd t t.size = none:=by
          unfold rd
          rw [if_pos ⟨fl,fh⟩,Int.toNat_natCast]
          have:t.data.toList.drop t.size = []:=by
            apply List.drop_eq_nil_of_le
            exact Nat.le_refl _
          rw [this]; rfl
        simp [numM,g] at h
      · simp [boolS,setBad] at h
  · exfalso
    rcases h with h | h
    · simp [flagM,numM,setBad] at h
    · simp [boolS,setBad] at h
theorem boolS_fine (s:GScan) (f:Fine s):Fine (boolS s).2:=by
  refine ⟨boolS_pos f.l,?_⟩
  rw [boolS_t]
  unfold boolS
  split
  · exact f.h
  · rename_i h; simp only; simp only [not_or] at h; omega
theorem nth_left {α:Type} [Cel α] {l:List α} {x:α} {i:Nat} (h:i < l.length):nth (l ++ [x]) i = nth l i:=by
  simp [nth,List.getD,List.getElem?_append_left h]
theorem nth_last {α:Type} [Cel α] {l:List α} {x:α}:nth (l ++ [x]) l.length = x:=by
  simp [nth,List.getD]
theorem catN_eq {f g:Nat → ByteArray}:∀ {n:Nat},(∀ i:Nat,i < n → f i = g i) → catN f n = catN g n
  | 0,_ => rfl
  | n + 1,h => by rw [catN,catN,catN_eq fun i hi => h i (by omega),h n (by omega)]
section
variable {α:Type} [Cel α] {r q:GScan → α × GScan} {w:α → ByteArray}
theorem lsM_fine (hr:Rdr r w) {s:GScan} (f:Fine s):∀ n,Fine (lsM r s n).2
  | 0 => f
  | n + 1 => hr.f _ (lsM_fine hr f n)
theorem lsM_seg (hr:Rdr r w) {s:GScan} (f:Fine s):∀ n,(lsM r s n).2.bad = false → Seg s (lsM r s n).2 (catN (fun i => w (nth (lsM r s n).1 i)) n)
  | 0,h => Seg.nil f h
  | n + 1,h => by
    have h1:=hr.g _ (lsM_fine hr f n) h
    have h2:=(lsM_seg hr f n h1.b).trans f h1
    rw [catN]
    have hl:=lsM_len (r:=r) s n
    have e1:w (nth (lsM r s (n + 1)).1 n) = w (r (lsM r s n).2).1:=by
      have:=nth_last (l:=(lsM r s n).1) (x:=(r (lsM r s n).2).1)
      rw [hl] at this
      simp only [lsM,this]
    have e2:catN (fun i => w (nth (lsM r s (n + 1)).1 i)) n = catN (fun i => w (nth (lsM r s n).1 i)) n:=catN_eq fun i hi => by
      simp only [lsM]; rw [nth_left (by omega)]
    rw [e1,e2]
    exact h2
def liM (r:GScan → α × GScan) (s:GScan):List α × GScan:=lsM r (cntM s).2 (cntM s).1.toNat
def liS (r:GScan → α × GScan) (s:GScan):List α × GScan:=lsS r (cntM s).2 (cntM s).1.toNat
def lisS (w:α → ByteArray) (l:List α):ByteArray:=varS l.length ++ catN (fun i => w (nth l i)) l.length
theorem cntM_fine {s:GScan} (f:Fine s):Fine (cntM s).2:=by
  have:=numM_rdr.f s f
  unfold cntM
  split
  · exact ⟨this.l,this.h⟩
  · exact this
theorem cntM_seg {s:GScan} (f:Fine s) (h:(cntM s).2.bad = false):Seg s (cntM s).2 (varS (cntM s).1):=by
  unfold cntM at h ⊢
  split at h
  · cases h
  · rename_i hn
    rw [if_neg hn]
    exact numM_rdr.g s f h
theorem liM_rdr (hr:Rdr r w):Rdr (liM r) (lisS w) where
  f:=fun s f => lsM_fine hr (cntM_fine f) _
  g:=fun s f h => by
    have h1:=lsM_seg hr (cntM_fine f) _ h
    have h2:=(cntM_seg f h1.b).trans f h1
    have hl:=lsM_len (r:=r) (cntM s).2 (cntM s).1.toNat
    obtain ⟨N,hN,hN2⟩:=cntM_N s
    unfold lisS liM
    rw [hl]
    rw [show (((cntM s).1.toNat:Nat):Int) = (cntM s).1 by omega]
    exact h2
theorem lsM_lsS (hr:Rdr r w) (he:∀ s,Fine s → (r s).2.bad = false ∨ (q s).2.bad = false → r s = q s) {s:GScan} (f:Fine s):∀ n,(lsM r s n).2.bad = false ∨ (lsS q s n).2.bad = false → lsM r s n = lsS q s n
  | 0,_ => rfl
  | n + 1,h => by
    rcases h with h | h
    · have h1:=hr.g _ (lsM_fine hr f n) h
      have ih:=lsM_lsS hr he f n (Or.inl h1.b)
      rw [lsS,← ih,h1.b,lsM,he _ (lsM_fine hr f n) (Or.inl h)]
      simp
    · rw [lsS] at h
      cases hb:(lsS q s n).2.bad
      · have ih:=lsM_lsS hr he f n (Or.inr hb)
        rw [hb] at h
        simp only [Bool.false_eq_true,if_false] at h
        rw [lsS,hb,lsM,ih]
        have e:=he _ (lsM_fine hr f n) (Or.inr (by rw [ih]; exact h))
        rw [ih] at e
        simp [e]
      · rw [hb] at h
        simp only [if_true] at h
        rw [h] at hb; cases hb
theorem liM_liS (hr:Rdr r w) (he:∀ s,Fine s → (r s).2.bad = false ∨ (q s).2.bad = false → r s = q s) (s:GScan) (f:Fine s) (h:(liM r s).2.bad = false ∨ (liS q s).2.bad = false):liM r s = liS q s :=
  lsM_lsS hr he (cntM_fine f) _ h
theorem lsM_all {p:α → Prop} (hp:∀ s,p (r s).1) (s:GScan):∀ n,∀ x,x ∈ (lsM r s n).1 → p x
  | 0,x,h => by cases h
  | n + 1,x,h => by
    simp only [lsM] at h
    rcases List.mem_append.1 h with h | h
    · exact lsM_all hp s n x h
    · simp only [List.mem_singleton] at h; subst h; exact hp _
theorem lsS_all {p:α → Prop} (hp:∀ s,p (r s).1) (s:GScan):∀ n,∀ x,x ∈ (lsS r s n).1 → p x
  | 0,x,h => by cases h
  | n + 1,x,h => by
    simp only [lsS] at h
    split at h
    · exact lsS_all hp s n x h
    · rcases List.mem_append.1 h with h | h
      · exact lsS_all hp s n x h
      · simp only [List.mem_singleton] at h; subst h; exact hp _
theorem lsS_len (s:GScan):∀ n,(lsS r s n).1.length ≤ n
  | 0 => Nat.le_refl _
  | n + 1 => by
    simp only [lsS]
    have:=lsS_len s n
    split
    · omega
    · simp; omega
theorem liM_len (s:GScan):(liM r s).1.length ≤ 120:=by
  obtain ⟨N,hN,hN2⟩:=cntM_N s
  have:=lsM_len (r:=r) (cntM s).2 (cntM s).1.toNat
  unfold liM
  omega
theorem liS_len (s:GScan):(liS r s).1.length ≤ 120:=by
  obtain ⟨N,hN,hN2⟩:=cntM_N s
  have:=lsS_len (r:=r) (cntM s).2 (cntM s).1.toNat
  unfold liS
  omega
end
theorem talM_rdr:Rdr talM talS:=(shM_rdr.two (numM_rdr.two numM_rdr)).to (fun x => ⟨x.1,x.2.1,x.2.2⟩) (fun s => rfl) (fun x => rfl)
theorem liveM_rdr {fl:GScan → Bool × GScan} (hf:Rdr fl flagS):Rdr (liveM fl) liveS:=(hf.two ((shM_rdr.two shM_rdr).two (numM_rdr.two dotM_rdr))).to (fun x => ⟨x.1,x.2.1.1,x.2.1.2,x.2.2.1,x.2.2.2⟩) (fun s => rfl) (fun x => rfl)
theorem cellM_rdr {fl:GScan → Bool × GScan} (hf:Rdr fl flagS):Rdr (cellM fl) cellS:=(shM_rdr.two (dotM_rdr.two (numM_rdr.two (dotM_rdr.two (numM_rdr.two hf))))).to (fun x => ⟨x.1,x.2.1,x.2.2.1,x.2.2.2.1,x.2.2.2.2.1,x.2.2.2.2.2⟩) (fun s => rfl) (fun x => rfl)
theorem live_eq (s:GScan) (f:Fine s) (h:(liveM flagM s).2.bad = false ∨ (liveM boolS s).2.bad = false):liveM flagM s = liveM boolS s:=by
  have e:flagM s = boolS s:=by
    apply bool_flag f
    rcases h with h | h
    · have f1:=flagM_rdr.f s f
      have f2:=shM_rdr.f _ f1
      have f3:=shM_rdr.f _ f2
      have f4:=numM_rdr.f _ f3
      exact Or.inl (shM_rdr.g _ f1 (shM_rdr.g _ f2 (numM_rdr.g _ f3 (dotM_rdr.g _ f4 h).b).b).b).b
    · have f1:=boolS_fine s f
      have f2:=shM_rdr.f _ f1
      have f3:=shM_rdr.f _ f2
      have f4:=numM_rdr.f _ f3
      exact Or.inr (shM_rdr.g _ f1 (shM_rdr.g _ f2 (numM_rdr.g _ f3 (dotM_rdr.g _ f4 h).b).b).b).b
  unfold liveM
  rw [e]
theorem cell_eq (s:GScan) (f:Fine s) (h:(cellM flagM s).2.bad = false ∨ (cellM boolS s).2.bad = false):cellM flagM s = cellM boolS s:=by
  have f1:=shM_rdr.f s f
  have f2:=dotM_rdr.f _ f1
  have f3:=numM_rdr.f _ f2
  have f4:=dotM_rdr.f _ f3
  have f5:=numM_rdr.f _ f4
  have e:=bool_flag f5 h
  unfold cellM
  rw [e]
theorem kn_ls (s:GScan):∀ i,kn s i = lsM numM s i
  | 0 => rfl
  | i + 1 => by rw [kn,kn_ls s i,lsM]
theorem knowM_rdr:Rdr knowM varsS where
  f:=fun s f => by unfold knowM; rw [kn_ls]; exact lsM_fine numM_rdr f 3
  g:=fun s f h => by
    unfold knowM at h ⊢
    rw [kn_ls] at h ⊢
    have:=lsM_seg numM_rdr f 3 h
    unfold varsS
    rw [lsM_len]
    exact this
theorem lsS_bad {α:Type} {r:GScan → α × GScan} {s:GScan} (hb:s.bad = true):∀ n,lsS r s n = ([],s)
  | 0 => rfl
  | n + 1 => by rw [lsS,lsS_bad hb n]; simp [hb]
theorem liS_stuck {α:Type} [Cel α] {r:GScan → α × GScan} {s:GScan} (f:Fine s) (h:(liS r s).2.bad = false):s.bad = false:=by
  cases hb:(cntM s).2.bad
  · exact (cntM_seg f hb).b
  · unfold liS at h
    rw [lsS_bad hb] at h
    simp only at h
    rw [h] at hb; cases hb
def unOk (t:ByteArray):Bool:=decide (4 ≤ t.size) && (decide (t.size ≤ 20004) && decide (t.extract (t.size - 4) t.size = fourS (sumOf (t.extract 0 (t.size - 4)))))
def unS (t:ByteArray):ByteArray:=if unOk t = true then t.extract 0 (t.size - 4) else ⟨#[]⟩
def scan0 (t:ByteArray):GScan:=⟨unS t,0,!unOk t⟩
theorem scan0_fine (t:ByteArray):Fine (scan0 t):=⟨by simp [scan0],by simp [scan0]⟩
theorem unS_size (t:ByteArray):(unS t).size ≤ 20000:=by
  unfold unS
  split
  · rename_i h
    simp only [unOk,Bool.and_eq_true,decide_eq_true_eq] at h
    rw [ByteArray.size_extract]; omega
  · exact Nat.zero_le _
theorem ba_all (t:ByteArray):t.extract 0 t.size = t:=by
  apply ByteArray.ext
  rw [ByteArray.data_extract]
  exact Array.extract_size
theorem unS_seal {t:ByteArray} (h:unOk t = true):sealS (unS t) = t ∧ sealOk (unS t) = true:=by
  have hs:=unS_size t
  refine ⟨?_,by simp [sealOk,hs]⟩
  rw [sealS,if_pos hs,unS,if_pos h]
  simp only [unOk,Bool.and_eq_true,decide_eq_true_eq] at h
  rw [← h.2.2,ByteArray.extract_append_extract]
  rw [Nat.min_eq_left (by omega),Nat.max_eq_right (by omega)]
  exact ba_all t
theorem seal_unS {x t:ByteArray} (h:sealOk x = true) (e:sealS x = t) (ht:unOk t = true):unS t = x:=by
  simp only [sealOk,decide_eq_true_eq] at h
  rw [sealS,if_pos h] at e
  subst e
  rw [unS,if_pos ht]
  have e:(x ++ fourS (sumOf x)).size - 4 = x.size:=by rw [ByteArray.size_append,fourS_size]; omega
  rw [e,ByteArray.extract_append_size_left]
  exact ba_all x
section
variable {α:Type} {rM rS:GScan → α × GScan} {w:α → ByteArray} {ok:α → Bool}
theorem whole_eq (hr:Rdr rM w) (he:∀ s,Fine s → (rM s).2.bad = false ∨ (rS s).2.bad = false → rM s = rS s) (t:ByteArray) :
    ((rM (scan0 t)).2.bad = false ∧ (rM (scan0 t)).2.pos = (unS t).size ∧ ok (rM (scan0 t)).1 = true) ↔
    ((rS (scan0 t)).2.bad = false ∧ (ok (rS (scan0 t)).1 = true ∧ sealOk (w (rS (scan0 t)).1) = true) ∧ sealS (w (rS (scan0 t)).1) = t):=by
  have f:=scan0_fine t
  constructor
  · rintro ⟨h1,h2,h3⟩
    have e:=he _ f (Or.inl h1)
    have sg:=hr.g _ f h1
    have hu:unOk t = true:=by have:=sg.b; simpa [scan0] using this
    have e2:=sg.e
    rw [h2] at e2
    have e3:(scan0 t).t.extract (scan0 t).pos.toNat ((unS t).size:Int).toNat = unS t:=by
      simp only [scan0,Int.toNat_natCast,Int.toNat_zero]
      exact ba_all _
    rw [e3] at e2
    rw [← e]
    have:=unS_seal hu
    rw [← e2]
    exact ⟨h1,⟨h3,this.2⟩,this.1⟩
  · rintro ⟨h1,⟨h2,h3⟩,h4⟩
    have e:=he _ f (Or.inr h1)
    rw [← e] at h1 h2 h3 h4
    have sg:=hr.g _ f h1
    have hu:unOk t = true:=by have:=sg.b; simpa [scan0] using this
    have e2:=seal_unS h3 h4 hu
    refine ⟨h1,?_,h2⟩
    have e4:=sg.e
    rw [← e2] at e4
    have e5:=congrArg ByteArray.size e4
    rw [ByteArray.size_extract] at e5
    have l:=sg.l
    have hh:=sg.h
    simp only [scan0] at e5 l hh ⊢
    omega
end
end Am
namespace Am
open Go Go.Proofs
open Cel (cells)
set_option maxRecDepth 100000
@[simp] def h194:Hts:={ merge:=fun _ => false,dr:=fun id => if id = 2 then [{},{},{},{},{},{},{},{ mb:=[20,21,22] },{ mb:=[20,21,22] },{ cr:=true,mb:=[20,21,22] },{ mb:=[17] },{ mb:=[17] },{ cr:=true,mb:=[17] },{ cr:=true,mb:=[17] },{ cr:=true,mb:=[17] },{},{}] else [] }
set_option maxHeartbeats 1000000 in
theorem f194_ok (t:ByteArray) (ht:t.size ≤ 1073741824):FnR Tryz.prog 194 [.v (.str t)] (.tup [.v (.str (unS t)),.v (.bool (unOk t))]):=by
  have w:IntKind.i64.wrap ((t.size:Int) - 4) = t.size - 4:=wrap64 (by omega) (by omega)
  refine FnW.of_AW TryzT_ok 0 (fn:=Tryz.f194) (by kernel_rfl) rfl (by kernel_rfl) rfl rfl rfl ?_; refine AW_of h194 TryzT_ok (by kernel_rfl) ?_
  rcases Nat.lt_or_ge t.size 4 with h | h
  · have h1:(t.size:Int) - 4 < 0:=by omega
    simp -dsimp [w,h1]
    have:unOk t = false:=by simp [unOk]; omega
    simp [unS,this]
  · have h1:¬ (t.size:Int) - 4 < 0:=by omega
    have h1':0 ≤ (t.size:Int) - 4:=by omega
    rcases Nat.lt_or_ge 20004 t.size with k | k
    · have k1:20000 < (t.size:Int) - 4:=by omega
      simp -dsimp [w,h1,h1',k1]
      have:unOk t = false:=by simp [unOk]; omega
      simp [unS,this]
    · have k1:¬ 20000 < (t.size:Int) - 4:=by omega
      have e:((t.size:Int) - 4).toNat = t.size - 4:=by omega
      simp -dsimp [w,h1,h1',k1,e]
      refine ⟨by omega,?_⟩
      have hz:(t.extract 0 (t.size - 4)).size ≤ 1073741824:=by rw [ByteArray.size_extract]; omega
      refine ACallK_of (f312_ok _ hz) ?_
      simp -dsimp
      refine ACallK_of (f311_ok _ (sumOf_range _).1 (sumOf_range _).2) ?_
      by_cases hx:t.extract (t.size - 4) t.size = fourS (sumOf (t.extract 0 (t.size - 4)))
      · have:unOk t = true:=by simp only [unOk,Bool.and_eq_true,decide_eq_true_eq]; exact ⟨h,k,hx⟩
        simp -dsimp [hx,w,h1',e]
        simp [unS,this]
        try omega
      · have:unOk t = false:=by simp [unOk,hx]
        simp -dsimp [hx,w,h1',e]
        simp [unS,this]
        try omega
@[simp] def h182:Hts:={ merge:=fun _ => false }
set_option maxHeartbeats 1000000 in
theorem f182_ok (t:ByteArray) (ht:t.size ≤ 1073741824):FnR Tryz.prog 182 [.v (.str t)] (.tup [.v (.str (unS t)),.v (.bool (unOk t))]):=by
  have w:IntKind.i64.wrap ((t.size:Int) - 4) = t.size - 4:=wrap64 (by omega) (by omega)
  refine FnW.of_AW TryzT_ok 0 (fn:=Tryz.f182) (by kernel_rfl) rfl (by kernel_rfl) rfl rfl rfl ?_; refine AW_of h182 TryzT_ok (by kernel_rfl) ?_
  rcases Nat.lt_or_ge t.size 4 with h | h
  · have h1:(t.size:Int) - 4 < 0:=by omega
    simp -dsimp [w,h1]
    have:unOk t = false:=by simp [unOk]; omega
    simp [unS,this]
  · have h1:¬ (t.size:Int) - 4 < 0:=by omega
    have h1':0 ≤ (t.size:Int) - 4:=by omega
    have e:((t.size:Int) - 4).toNat = t.size - 4:=by omega
    have hz:(t.extract 0 (t.size - 4)).size ≤ 1073741824:=by rw [ByteArray.size_extract]; omega
    have hz':(t.extract 0 (t.size - 4)).size = t.size - 4:=by rw [ByteArray.size_extract]; omega
    simp -dsimp [w,h1,h1',e]
    refine ⟨by omega,?_⟩
    refine ACallK_of (f177_ok _ hz) ?_
    rcases Nat.lt_or_ge 20004 t.size with k | k
    · have k1:sealOk (t.extract 0 (t.size - 4)) = false:=by simp only [sealOk,hz',decide_eq_false_iff_not]; omega
      simp -dsimp [k1]
      have:unOk t = false:=by simp [unOk]; omega
      simp [unS,this]
    · have k1:sealOk (t.extract 0 (t.size - 4)) = true:=by simp only [sealOk,hz',decide_eq_true_eq]; omega
      have k2:sealS (t.extract 0 (t.size - 4)) = t ↔ unOk t = true:=by
        rw [sealS,if_pos (by omega)]
        have e1:t.extract 0 (t.size - 4) ++ t.extract (t.size - 4) t.size = t:=by
          rw [ByteArray.extract_append_extract,Nat.min_eq_left (by omega),Nat.max_eq_right (by omega)]
          exact ba_all t
        constructor
        · intro hx
          simp only [unOk,Bool.and_eq_true,decide_eq_true_eq]
          refine ⟨h,k,?_⟩
          exact ((ByteArray.append_right_inj _).1 (hx.trans e1.symm)).symm
        · intro hx
          simp only [unOk,Bool.and_eq_true,decide_eq_true_eq] at hx
          rw [← hx.2.2]; exact e1
      cases hu:unOk t
      · have k3:¬ sealS (t.extract 0 (t.size - 4)) = t:=by rw [k2,hu]; simp
        simp -dsimp [k1,k3]
        simp [unS,hu]
      · have k3:sealS (t.extract 0 (t.size - 4)) = t:=by rw [k2,hu]
        simp -dsimp [k1,k3,w,h1',e]
        simp [unS,hu]
        try omega
theorem knowM_t (s:GScan):(knowM s).2.t = s.t:=kn_t s 3
theorem kn_pos {s:GScan} (h:0 ≤ s.pos):∀ i,0 ≤ (kn s i).2.pos
  | 0 => h
  | i + 1 => by rw [kn]; exact numM_pos (kn_pos h i)
theorem lsS_t {α:Type} {r:GScan → α × GScan} (hr:∀ s,(r s).2.t = s.t) (s:GScan):∀ i,(lsS r s i).2.t = s.t
  | 0 => rfl
  | i + 1 => by
    rw [lsS]
    split
    · exact lsS_t hr s i
    · rw [hr,lsS_t hr s i]
theorem lsS_pos {α:Type} {r:GScan → α × GScan} (hr:∀ s,0 ≤ s.pos → 0 ≤ (r s).2.pos) {s:GScan} (h:0 ≤ s.pos):∀ i,0 ≤ (lsS r s i).2.pos
  | 0 => h
  | i + 1 => by
    rw [lsS]
    split
    · exact lsS_pos hr h i
    · exact hr _ (lsS_pos hr h i)
theorem liM_def {α:Type} [Cel α] (r:GScan → α × GScan) (s:GScan):liM r s = lsM r (cntM s).2 (cntM s).1.toNat:=rfl
theorem liS_def {α:Type} [Cel α] (r:GScan → α × GScan) (s:GScan):liS r s = lsS r (cntM s).2 (cntM s).1.toNat:=rfl
theorem liM_t {α:Type} [Cel α] {r:GScan → α × GScan} (hr:∀ s,(r s).2.t = s.t) (s:GScan):(liM r s).2.t = s.t:=by unfold liM; rw [lsM_t hr,cntM_t]
theorem liS_t {α:Type} [Cel α] {r:GScan → α × GScan} (hr:∀ s,(r s).2.t = s.t) (s:GScan):(liS r s).2.t = s.t:=by unfold liS; rw [lsS_t hr,cntM_t]
theorem liM_pos {α:Type} [Cel α] {r:GScan → α × GScan} (hr:∀ s,0 ≤ s.pos → 0 ≤ (r s).2.pos) {s:GScan} (h:0 ≤ s.pos):0 ≤ (liM r s).2.pos:=lsM_pos hr (cntM_pos h) _
theorem liS_pos {α:Type} [Cel α] {r:GScan → α × GScan} (hr:∀ s,0 ≤ s.pos → 0 ≤ (r s).2.pos) {s:GScan} (h:0 ≤ s.pos):0 ≤ (liS r s).2.pos:=lsS_pos hr (cntM_pos h) _
end Am
namespace Am
open Go Go.Proofs
open Cel (cells)
set_option maxRecDepth 100000
theorem liM_N {α:Type} [Cel α] {r:GScan → α × GScan} {s:GScan} {N:Nat} (h:(cntM s).1.toNat = N):liM r s = lsM r (cntM s).2 N:=by unfold liM; rw [h]
theorem liS_N {α:Type} [Cel α] {r:GScan → α × GScan} {s:GScan} {N:Nat} (h:(cntM s).1.toNat = N):liS r s = lsS r (cntM s).2 N:=by unfold liS; rw [h]
def GDelta.empty:GDelta:=⟨[],[],[],[],[],[]⟩
def dlM (s:GScan):GDelta × GScan :=
  (⟨(knowM s).1,(knowM (knowM s).2).1,(liM talM (knowM (knowM s).2).2).1,(liM (liveM flagM) (liM talM (knowM (knowM s).2).2).2).1,(liM dotM (liM (liveM flagM) (liM talM (knowM (knowM s).2).2).2).2).1,
    (liM (cellM flagM) (liM dotM (liM (liveM flagM) (liM talM (knowM (knowM s).2).2).2).2).2).1⟩,(liM (cellM flagM) (liM dotM (liM (liveM flagM) (liM talM (knowM (knowM s).2).2).2).2).2).2)
def dlS (s:GScan):GDelta × GScan :=
  (⟨(knowM s).1,(knowM (knowM s).2).1,(liS talM (knowM (knowM s).2).2).1,(liS (liveM boolS) (liS talM (knowM (knowM s).2).2).2).1,(liS dotM (liS (liveM boolS) (liS talM (knowM (knowM s).2).2).2).2).1,
    (liS (cellM boolS) (liS dotM (liS (liveM boolS) (liS talM (knowM (knowM s).2).2).2).2).2).1⟩,(liS (cellM boolS) (liS dotM (liS (liveM boolS) (liS talM (knowM (knowM s).2).2).2).2).2).2)
theorem dlM_rdr:Rdr dlM deltaS:=(knowM_rdr.two (knowM_rdr.two ((liM_rdr talM_rdr).two ((liM_rdr (liveM_rdr flagM_rdr)).two ((liM_rdr dotM_rdr).two (liM_rdr (cellM_rdr flagM_rdr))))))).to (fun x => ⟨x.1,x.2.1,x.2.2.1,x.2.2.2.1,x.2.2.2.2.1,x.2.2.2.2.2⟩) (fun s => rfl) (fun x => rfl)
theorem liS_fine {α:Type} [Cel α] {r:GScan → α × GScan} {s:GScan} (hr:∀ s,Fine s → Fine (r s).2) (f:Fine s):Fine (liS r s).2:=by
  have:∀ n,Fine (lsS r (cntM s).2 n).2:=by
    intro n
    induction n with
    | zero => exact cntM_fine f
    | succ n ih =>
      rw [lsS]
      split
      · exact ih
      · exact hr _ ih
  exact this _
theorem liveS_fine (s:GScan) (f:Fine s):Fine (liveM boolS s).2:=by
  unfold liveM
  exact dotM_rdr.f _ (numM_rdr.f _ (shM_rdr.f _ (shM_rdr.f _ (boolS_fine _ f))))
theorem dl_eq (s:GScan) (f:Fine s) (h:(dlM s).2.bad = false ∨ (dlS s).2.bad = false):dlM s = dlS s:=by
  have f0:=knowM_rdr.f s f
  have f1:=knowM_rdr.f _ f0
  have f2:=(liM_rdr talM_rdr).f _ f1
  have f3:=(liM_rdr (liveM_rdr flagM_rdr)).f _ f2
  have f4:=(liM_rdr dotM_rdr).f _ f3
  have e1:=liM_liS talM_rdr (q:=talM) (fun s _ _ => rfl) _ f1
  have e2:=liM_liS (liveM_rdr flagM_rdr) (q:=liveM boolS) live_eq _ f2
  have e3:=liM_liS dotM_rdr (q:=dotM) (fun s _ _ => rfl) _ f3
  have e4:=liM_liS (cellM_rdr flagM_rdr) (q:=cellM boolS) cell_eq _ f4
  rcases h with h | h
  · have g4:=(liM_rdr (cellM_rdr flagM_rdr)).g _ f4 h
    have g3:=(liM_rdr dotM_rdr).g _ f3 g4.b
    have g2:=(liM_rdr (liveM_rdr flagM_rdr)).g _ f2 g3.b
    have e1:=e1 (Or.inl g2.b)
    have e2:=e2 (Or.inl g3.b)
    have e3:=e3 (Or.inl g4.b)
    have e4:=e4 (Or.inl h)
    unfold dlM dlS
    rw [← e1,← e2,← e3,← e4]
  · have k2:=liS_fine (r:=talM) talM_rdr.f f1
    have k3:=liS_fine (r:=liveM boolS) liveS_fine k2
    have k4:=liS_fine (r:=dotM) dotM_rdr.f k3
    have b4:=liS_stuck (r:=cellM boolS) k4 h
    have b3:=liS_stuck (r:=dotM) k3 b4
    have b2:=liS_stuck (r:=liveM boolS) k2 b3
    have e1:=e1 (Or.inr b2)
    rw [e1] at e2 e3 e4
    have e2:=e2 (Or.inr b3)
    rw [e2] at e3 e4
    have e3:=e3 (Or.inr b4)
    rw [e3] at e4
    have e4:=e4 (Or.inr h)
    unfold dlM dlS
    rw [e1,e2,e3,e4]
theorem dlS_Ok (s:GScan):(dlS s).1.Ok:=by
  have a0:=kn_len s 3
  have a1:=kn_len (knowM s).2 3
  have a2:=liS_len (r:=talM) (knowM (knowM s).2).2
  have a3:=liS_len (r:=liveM boolS) (liS talM (knowM (knowM s).2).2).2
  have a4:=liS_len (r:=dotM) (liS (liveM boolS) (liS talM (knowM (knowM s).2).2).2).2
  have a5:=liS_len (r:=cellM boolS) (liS dotM (liS (liveM boolS) (liS talM (knowM (knowM s).2).2).2).2).2
  refine ⟨?_,?_,?_,lsS_all (fun s => ?_) _ _,?_,lsS_all (fun s => ?_) _ _,?_,?_,lsS_all (fun s => ?_) _ _⟩
  · simp only [dlS,knowM]; omega
  · simp only [dlS]; show (kn _ 3).1.length ≤ _; omega
  · simp only [dlS]; omega
  · have:=shM_size s; simp only [talM,GTally.Ok]; omega
  · simp only [dlS]; omega
  · have:=shM_size (boolS s).2; have:=shM_size (shM (boolS s).2).2; simp only [liveM,GLive.Ok]; omega
  · simp only [dlS]; omega
  · simp only [dlS]; omega
  · have:=shM_size s; simp only [cellM,GCell.Ok]; omega
theorem dlM_Ok (s:GScan):(dlM s).1.Ok:=by
  have a0:=kn_len s 3
  have a1:=kn_len (knowM s).2 3
  have a2:=liM_len (r:=talM) (knowM (knowM s).2).2
  have a3:=liM_len (r:=liveM flagM) (liM talM (knowM (knowM s).2).2).2
  have a4:=liM_len (r:=dotM) (liM (liveM flagM) (liM talM (knowM (knowM s).2).2).2).2
  have a5:=liM_len (r:=cellM flagM) (liM dotM (liM (liveM flagM) (liM talM (knowM (knowM s).2).2).2).2).2
  refine ⟨?_,?_,?_,lsM_all (fun s => ?_) _ _,?_,lsM_all (fun s => ?_) _ _,?_,?_,lsM_all (fun s => ?_) _ _⟩
  · simp only [dlM,knowM]; omega
  · simp only [dlM]; show (kn _ 3).1.length ≤ _; omega
  · simp only [dlM]; omega
  · have:=shM_size s; simp only [talM,GTally.Ok]; omega
  · simp only [dlM]; omega
  · have:=shM_size (flagM s).2; have:=shM_size (shM (flagM s).2).2; simp only [liveM,GLive.Ok]; omega
  · simp only [dlM]; omega
  · simp only [dlM]; omega
  · have:=shM_size s; simp only [cellM,GCell.Ok]; omega
def resDM (x:GDelta) (f:GScan) (t:ByteArray):GDelta × Bool:=if f.bad = false ∧ f.pos = (unS t).size ∧ deltaOk x = true then (x,true) else (GDelta.empty,false)
def resDS (x:GDelta) (f:GScan) (t:ByteArray):GDelta × Bool:=if f.bad = false ∧ (deltaOk x = true ∧ sealOk (deltaS x) = true) ∧ sealS (deltaS x) = t then (x,true) else (GDelta.empty,false)
def rdDlM (t:ByteArray):GDelta × Bool:=resDM (dlM (scan0 t)).1 (dlM (scan0 t)).2 t
def rdDlS (t:ByteArray):GDelta × Bool:=resDS (dlS (scan0 t)).1 (dlS (scan0 t)).2 t
theorem rdDl_eq (t:ByteArray):rdDlS t = rdDlM t:=by
  have h:=whole_eq (ok:=deltaOk) dlM_rdr dl_eq t
  unfold rdDlM rdDlS resDM resDS
  by_cases hc:(dlS (scan0 t)).2.bad = false ∧ (deltaOk (dlS (scan0 t)).1 = true ∧ sealOk (deltaS (dlS (scan0 t)).1) = true) ∧ sealS (deltaS (dlS (scan0 t)).1) = t
  · rw [if_pos hc,if_pos (h.2 hc),dl_eq _ (scan0_fine t) (Or.inr hc.1)]
  · rw [if_neg hc,if_neg fun h' => hc (h.1 h')]
@[simp] def h69:Hts:={ merge:=fun _ => false,lend:=fun f => if f = 196 ∨ f = 197 ∨ f = 198 ∨ f = 199 ∨ f = 201 ∨ f = 202 then [.box []] else [],dr:=fun id => if id = 11 then [{ mn:=[1344],mb:=[51,52] },{ mn:=[1344],mb:=[51,52] },{},{ wr:=[1344],cr:=true },{ cr:=true },{ wr:=[3136],cr:=true },{},{ wr:=[448] }] else [] }
set_option maxHeartbeats 4000000 in
theorem f69_ok (t:ByteArray) (ht:t.size ≤ 1073741824):FnR Tryz.prog 69 [.v (.str t)] (.tup [.agg [.ow 3 1 ((rdDlS t).1).base.length (flat ((rdDlS t).1).base),.ow 3 1 ((rdDlS t).1).know.length (flat ((rdDlS t).1).know),.ow 179 3 ((rdDlS t).1).tallies.length (flat ((rdDlS t).1).tallies),.ow 159 6 ((rdDlS t).1).lives.length (flat ((rdDlS t).1).lives),.ow 29 2 ((rdDlS t).1).dead.length (flat ((rdDlS t).1).dead),.ow 72 8 ((rdDlS t).1).cs.length (flat ((rdDlS t).1).cs)],.v (.bool ((rdDlS t).2))]):=by
  have hu:=unS_size t
  have hz:(scan0 t).t.size ≤ 1073741824:=by simp only [scan0]; omega
  have hp:0 ≤ (scan0 t).pos:=by simp [scan0]
  have e1:((knowM (scan0 t)).2).t = (scan0 t).t:=knowM_t _
  have p1:0 ≤ ((knowM (scan0 t)).2).pos:=kn_pos hp 3
  have e2:((knowM (knowM (scan0 t)).2).2).t = (scan0 t).t:=by rw [knowM_t _,e1]
  have p2:0 ≤ ((knowM (knowM (scan0 t)).2).2).pos:=kn_pos p1 3
  have e3:((liS talM (knowM (knowM (scan0 t)).2).2).2).t = (scan0 t).t:=by rw [liS_t talM_t,e2]
  have p3:0 ≤ ((liS talM (knowM (knowM (scan0 t)).2).2).2).pos:=liS_pos talM_pos p2
  have e4:((liS (liveM boolS) (liS talM (knowM (knowM (scan0 t)).2).2).2).2).t = (scan0 t).t:=by rw [liS_t (liveM_t boolS_t),e3]
  have p4:0 ≤ ((liS (liveM boolS) (liS talM (knowM (knowM (scan0 t)).2).2).2).2).pos:=liS_pos (liveM_pos fun _ => boolS_pos) p3
  have e5:((liS dotM (liS (liveM boolS) (liS talM (knowM (knowM (scan0 t)).2).2).2).2).2).t = (scan0 t).t:=by rw [liS_t dotM_t,e4]
  have p5:0 ≤ ((liS dotM (liS (liveM boolS) (liS talM (knowM (knowM (scan0 t)).2).2).2).2).2).pos:=liS_pos (fun _ => dotM_pos) p4
  have c0:=f196_ok (scan0 t) hz
  have c1:=f196_ok ((knowM (scan0 t)).2) (by rw [e1]; exact hz)
  have c2:=f197_ok ((knowM (knowM (scan0 t)).2).2) (by rw [e2]; exact hz) p2
  have c3:=f198_ok ((liS talM (knowM (knowM (scan0 t)).2).2).2) (by rw [e3]; exact hz) p3
  have c4:=f201_ok ((liS (liveM boolS) (liS talM (knowM (knowM (scan0 t)).2).2).2).2) (by rw [e4]; exact hz)
  have c6:=f199_ok ((liS dotM (liS (liveM boolS) (liS talM (knowM (knowM (scan0 t)).2).2).2).2).2) (by rw [e5]; exact hz) p5
  obtain ⟨N,hN,hN2⟩:=cntM_N ((liS (liveM boolS) (liS talM (knowM (knowM (scan0 t)).2).2).2).2)
  have hNt:(cntM ((liS (liveM boolS) (liS talM (knowM (knowM (scan0 t)).2).2).2).2)).1.toNat = N:=by omega
  have c5:∀ i:Nat,FnW Tryz.prog 202 [.ptr [.str ((lsM dotM (cntM ((liS (liveM boolS) (liS talM (knowM (knowM (scan0 t)).2).2).2).2)).2 i).2).t,.int .i64 ((lsM dotM (cntM ((liS (liveM boolS) (liS talM (knowM (knowM (scan0 t)).2).2).2).2)).2 i).2).pos,.bool ((lsM dotM (cntM ((liS (liveM boolS) (liS talM (knowM (knowM (scan0 t)).2).2).2).2)).2 i).2).bad]] (.agg [.int .i64 ((dotM (lsM dotM (cntM ((liS (liveM boolS) (liS talM (knowM (knowM (scan0 t)).2).2).2).2)).2 i).2).1).rep,.int .i64 ((dotM (lsM dotM (cntM ((liS (liveM boolS) (liS talM (knowM (knowM (scan0 t)).2).2).2).2)).2 i).2).1).seq]) [.ptr [.str ((dotM (lsM dotM (cntM ((liS (liveM boolS) (liS talM (knowM (knowM (scan0 t)).2).2).2).2)).2 i).2).2).t,.int .i64 ((dotM (lsM dotM (cntM ((liS (liveM boolS) (liS talM (knowM (knowM (scan0 t)).2).2).2).2)).2 i).2).2).pos,.bool ((dotM (lsM dotM (cntM ((liS (liveM boolS) (liS talM (knowM (knowM (scan0 t)).2).2).2).2)).2 i).2).2).bad]]:=fun i => f202_ok _ (by rw [lsM_t dotM_t,cntM_t,e4]; exact hz)
  rw [hN] at c4
  have hD:liS dotM ((liS (liveM boolS) (liS talM (knowM (knowM (scan0 t)).2).2).2).2) = lsS dotM (cntM ((liS (liveM boolS) (liS talM (knowM (knowM (scan0 t)).2).2).2).2)).2 N:=liS_N hNt
  have hbs:∀ s:GScan,s.bad = true → lsS dotM s N = lsS dotM s N:=fun _ _ => rfl
  simp only [← liS_def] at c2 c3 c6
  have ho:=dlS_Ok (scan0 t)
  unfold rdDlS
  simp only [dlS] at ho ⊢
  clear e1 e2 e3 e4 e5 p1 p2 p3 p4 p5 hp hz hbs
  generalize knowM (scan0 t) = K at *
  generalize knowM K.2 = Q at *
  generalize liS talM Q.2 = L at *
  generalize liS (liveM boolS) L.2 = M at *
  generalize cntM M.2 = B at *
  rw [hD] at ho c6 ⊢
  generalize hE:liS (cellM boolS) (lsS dotM B.2 N).2 = E at *
  obtain ⟨l,⟨nt,np,nb⟩⟩:=E
  simp only at *
  refine FnW.of_AW TryzT_ok 0 (fn:=Tryz.f69) (by kernel_rfl) rfl (by kernel_rfl) rfl rfl rfl ?_; refine AW_of h69 TryzT_ok (by kernel_rfl) ?_
  simp -dsimp
  refine ACallK_of (f194_ok _ ht) ?_
  simp -dsimp
  refine ACallW_go ?_
  refine ACallC_go (fun us => c0) ?_
  simp -dsimp
  refine ACallW_go ?_
  refine ACallC_go (fun us => c1) ?_
  simp -dsimp
  refine ACallW_go ?_
  refine ACallC_go (fun us => c2) ?_
  simp -dsimp
  refine ACallW_go ?_
  refine ACallC_go (fun us => c3) ?_
  simp -dsimp
  refine ACallW_go ?_
  refine ACallC_go (fun us => c4) ?_
  simp -dsimp
  refine AWh_loop (fun i:Nat => i ≤ N ∧ ∀ j:Nat,j < i → (lsM dotM B.2 j).2.bad = false) (fun i => mkE [(0,.c (.str t)),(2,.box 128 0),(6,.box 1344 0),(7,.box 448 0),(8,.c (.int .i64 N)),(9,.c (.int .i64 i))] [(3136,.arr 0 29 2 (lsM dotM B.2 i).1.length (flat (lsM dotM B.2 i).1)),(128,.box [.nil,.nil,.nil,.nil,.nil,.nil]),(1344,.box [.c (.str (lsM dotM B.2 i).2.t),.c (.int .i64 (lsM dotM B.2 i).2.pos),.c (.bool (lsM dotM B.2 i).2.bad)]),(448,.box [.arr 1472,.arr 1664,.arr 1856,.arr 2048,.arr 3136,.nil]),(1472,.arr 0 3 1 K.1.length (flat K.1)),(1664,.arr 0 3 1 Q.1.length (flat Q.1)),(1856,.arr 0 179 3 L.1.length (flat L.1)),(2048,.arr 0 159 6 M.1.length (flat M.1))]) (fun i => N - i) 0 (Wk_toA [0,2,6,7,8,9] [(128,128),(1344,1344),(448,448),(1472,1472),(1664,1664),(1856,1856),(2048,2048)] [.cell 448 4 3136 29 2] (by decide) (by decide) (by simp [lsM])) (by simp) ?_
  rintro i ⟨hi,hall⟩
  have hl:=lsM_len (r:=dotM) B.2 i
  refine AW_of h69 TryzT_ok (by kernel_rfl) ?_
  rcases Nat.lt_or_ge i N with h1 | h1
  · cases hb:(lsM dotM B.2 i).2.bad
    · simp -dsimp [h1,hb]
      have h0:=c5 i
      rw [hb] at h0
      refine ACallW_go ?_
      refine ACallC_go (fun us => h0) ?_
      simp -dsimp [h1,hb]
      refine ⟨by simp [capMax]; omega,?_⟩
      exact Back_of (i + 1) [0,2,6,7,8,9] [(3136,3392),(128,128),(1344,1344),(448,448),(1472,1472),(1664,1664),(1856,1856),(2048,2048)] rfl rfl (by simp [lsM]; rw [wrap64 (by omega) (by omega)]) ⟨by omega,fun j hj => by
        by_cases e:j = i
        · subst e; exact hb
        · exact hall j (by omega)⟩ (by omega)
    · simp -dsimp [h1,hb]
      have hs:=lsS_stop hall hb N (by omega)
      rw [hs] at c6 hE ho ⊢
      rw [hb] at c6
      refine ACallW_go ?_
      refine ACallC_go (fun us => c6) ?_
      simp -dsimp
      refine ACallK_of (f200_ok _ ho) ?_
      cases nb
      · cases hr:deltaTextOk (⟨K.1,Q.1,L.1,M.1,(lsM dotM B.2 i).1,l⟩:GDelta)
        · have hx:¬ (deltaOk (⟨K.1,Q.1,L.1,M.1,(lsM dotM B.2 i).1,l⟩:GDelta) = true ∧ sealOk (deltaS (⟨K.1,Q.1,L.1,M.1,(lsM dotM B.2 i).1,l⟩:GDelta)) = true):=by simpa [deltaTextOk] using hr
          simp -dsimp [hr]
          simp [resDS,hx,GDelta.empty]
        · have hx:deltaOk (⟨K.1,Q.1,L.1,M.1,(lsM dotM B.2 i).1,l⟩:GDelta) = true ∧ sealOk (deltaS (⟨K.1,Q.1,L.1,M.1,(lsM dotM B.2 i).1,l⟩:GDelta)) = true:=by simpa [deltaTextOk] using hr
          have e:deltaText (⟨K.1,Q.1,L.1,M.1,(lsM dotM B.2 i).1,l⟩:GDelta) = sealS (deltaS (⟨K.1,Q.1,L.1,M.1,(lsM dotM B.2 i).1,l⟩:GDelta)):=by rw [deltaText,if_pos hx.1]
          rw [e]
          by_cases he:sealS (deltaS (⟨K.1,Q.1,L.1,M.1,(lsM dotM B.2 i).1,l⟩:GDelta)) = t
          · simp -dsimp [hr,he]
            simp [resDS,hx,he]
          · simp -dsimp [hr,he]
            simp [resDS,hx,he,GDelta.empty]
      · simp -dsimp
        simp [resDS,GDelta.empty]
  · obtain rfl:i = N:=by omega
    simp -dsimp
    have hs:=lsS_eq hall
    rw [hs] at c6 hE ho ⊢
    refine ACallW_go ?_
    refine ACallC_go (fun us => c6) ?_
    simp -dsimp
    refine ACallK_of (f200_ok _ ho) ?_
    cases nb
    · cases hr:deltaTextOk (⟨K.1,Q.1,L.1,M.1,(lsM dotM B.2 i).1,l⟩:GDelta)
      · have hx:¬ (deltaOk (⟨K.1,Q.1,L.1,M.1,(lsM dotM B.2 i).1,l⟩:GDelta) = true ∧ sealOk (deltaS (⟨K.1,Q.1,L.1,M.1,(lsM dotM B.2 i).1,l⟩:GDelta)) = true):=by simpa [deltaTextOk] using hr
        simp -dsimp [hr]
        simp [resDS,hx,GDelta.empty]
      · have hx:deltaOk (⟨K.1,Q.1,L.1,M.1,(lsM dotM B.2 i).1,l⟩:GDelta) = true ∧ sealOk (deltaS (⟨K.1,Q.1,L.1,M.1,(lsM dotM B.2 i).1,l⟩:GDelta)) = true:=by simpa [deltaTextOk] using hr
        have e:deltaText (⟨K.1,Q.1,L.1,M.1,(lsM dotM B.2 i).1,l⟩:GDelta) = sealS (deltaS (⟨K.1,Q.1,L.1,M.1,(lsM dotM B.2 i).1,l⟩:GDelta)):=by rw [deltaText,if_pos hx.1]
        rw [e]
        by_cases he:sealS (deltaS (⟨K.1,Q.1,L.1,M.1,(lsM dotM B.2 i).1,l⟩:GDelta)) = t
        · simp -dsimp [hr,he]
          simp [resDS,hx,he]
        · simp -dsimp [hr,he]
          simp [resDS,hx,he,GDelta.empty]
    · simp -dsimp
      simp [resDS,GDelta.empty]
@[simp] def h65:Hts:={ merge:=fun _ => false,lend:=fun f => if f = 183 ∨ f = 184 ∨ f = 185 ∨ f = 186 ∨ f = 190 ∨ f = 191 then [.box []] else [] }
set_option maxHeartbeats 4000000 in
theorem f65_ok (t:ByteArray) (ht:t.size ≤ 1073741824):FnR Tryz.prog 65 [.v (.str t)] (.tup [.agg [.ow 3 1 ((rdDlM t).1).base.length (flat ((rdDlM t).1).base),.ow 3 1 ((rdDlM t).1).know.length (flat ((rdDlM t).1).know),.ow 179 3 ((rdDlM t).1).tallies.length (flat ((rdDlM t).1).tallies),.ow 159 6 ((rdDlM t).1).lives.length (flat ((rdDlM t).1).lives),.ow 29 2 ((rdDlM t).1).dead.length (flat ((rdDlM t).1).dead),.ow 72 8 ((rdDlM t).1).cs.length (flat ((rdDlM t).1).cs)],.v (.bool ((rdDlM t).2))]):=by
  have hu:=unS_size t
  have hz:(scan0 t).t.size ≤ 1073741824:=by simp only [scan0]; omega
  have hp:0 ≤ (scan0 t).pos:=by simp [scan0]
  have e1:((knowM (scan0 t)).2).t = (scan0 t).t:=knowM_t _
  have p1:0 ≤ ((knowM (scan0 t)).2).pos:=kn_pos hp 3
  have e2:((knowM (knowM (scan0 t)).2).2).t = (scan0 t).t:=by rw [knowM_t _,e1]
  have p2:0 ≤ ((knowM (knowM (scan0 t)).2).2).pos:=kn_pos p1 3
  have e3:((liM talM (knowM (knowM (scan0 t)).2).2).2).t = (scan0 t).t:=by rw [liM_t talM_t,e2]
  have p3:0 ≤ ((liM talM (knowM (knowM (scan0 t)).2).2).2).pos:=liM_pos talM_pos p2
  have e4:((liM (liveM flagM) (liM talM (knowM (knowM (scan0 t)).2).2).2).2).t = (scan0 t).t:=by rw [liM_t (liveM_t flagM_t),e3]
  have p4:0 ≤ ((liM (liveM flagM) (liM talM (knowM (knowM (scan0 t)).2).2).2).2).pos:=liM_pos (liveM_pos fun _ => flagM_pos) p3
  have e5:((liM dotM (liM (liveM flagM) (liM talM (knowM (knowM (scan0 t)).2).2).2).2).2).t = (scan0 t).t:=by rw [liM_t dotM_t,e4]
  have p5:0 ≤ ((liM dotM (liM (liveM flagM) (liM talM (knowM (knowM (scan0 t)).2).2).2).2).2).pos:=liM_pos (fun _ => dotM_pos) p4
  have c0:=f183_ok (scan0 t) hz
  have c1:=f183_ok ((knowM (scan0 t)).2) (by rw [e1]; exact hz)
  have c2:=f184_ok ((knowM (knowM (scan0 t)).2).2) (by rw [e2]; exact hz) p2
  have c3:=f185_ok ((liM talM (knowM (knowM (scan0 t)).2).2).2) (by rw [e3]; exact hz) p3
  have c4:=f190_ok ((liM (liveM flagM) (liM talM (knowM (knowM (scan0 t)).2).2).2).2) (by rw [e4]; exact hz)
  have c6:=f186_ok ((liM dotM (liM (liveM flagM) (liM talM (knowM (knowM (scan0 t)).2).2).2).2).2) (by rw [e5]; exact hz) p5
  obtain ⟨N,hN,hN2⟩:=cntM_N ((liM (liveM flagM) (liM talM (knowM (knowM (scan0 t)).2).2).2).2)
  have hNt:(cntM ((liM (liveM flagM) (liM talM (knowM (knowM (scan0 t)).2).2).2).2)).1.toNat = N:=by omega
  have c5:∀ i:Nat,FnW Tryz.prog 191 [.ptr [.str ((lsM dotM (cntM ((liM (liveM flagM) (liM talM (knowM (knowM (scan0 t)).2).2).2).2)).2 i).2).t,.int .i64 ((lsM dotM (cntM ((liM (liveM flagM) (liM talM (knowM (knowM (scan0 t)).2).2).2).2)).2 i).2).pos,.bool ((lsM dotM (cntM ((liM (liveM flagM) (liM talM (knowM (knowM (scan0 t)).2).2).2).2)).2 i).2).bad]] (.agg [.int .i64 ((dotM (lsM dotM (cntM ((liM (liveM flagM) (liM talM (knowM (knowM (scan0 t)).2).2).2).2)).2 i).2).1).rep,.int .i64 ((dotM (lsM dotM (cntM ((liM (liveM flagM) (liM talM (knowM (knowM (scan0 t)).2).2).2).2)).2 i).2).1).seq]) [.ptr [.str ((dotM (lsM dotM (cntM ((liM (liveM flagM) (liM talM (knowM (knowM (scan0 t)).2).2).2).2)).2 i).2).2).t,.int .i64 ((dotM (lsM dotM (cntM ((liM (liveM flagM) (liM talM (knowM (knowM (scan0 t)).2).2).2).2)).2 i).2).2).pos,.bool ((dotM (lsM dotM (cntM ((liM (liveM flagM) (liM talM (knowM (knowM (scan0 t)).2).2).2).2)).2 i).2).2).bad]]:=fun i => f191_ok _ (by rw [lsM_t dotM_t,cntM_t,e4]; exact hz)
  rw [hN] at c4
  have hD:liM dotM ((liM (liveM flagM) (liM talM (knowM (knowM (scan0 t)).2).2).2).2) = lsM dotM (cntM ((liM (liveM flagM) (liM talM (knowM (knowM (scan0 t)).2).2).2).2)).2 N:=liM_N hNt
  have hbs:∀ s:GScan,s.bad = true → lsM dotM s N = lsM dotM s N:=fun _ _ => rfl
  simp only [← liM_def] at c2 c3 c6
  have ho:=dlM_Ok (scan0 t)
  unfold rdDlM
  simp only [dlM] at ho ⊢
  clear e1 e2 e3 e4 e5 p1 p2 p3 p4 p5 hp hz hbs
  generalize knowM (scan0 t) = K at *
  generalize knowM K.2 = Q at *
  generalize liM talM Q.2 = L at *
  generalize liM (liveM flagM) L.2 = M at *
  generalize cntM M.2 = B at *
  rw [hD] at ho c6 ⊢
  generalize hE:liM (cellM flagM) (lsM dotM B.2 N).2 = E at *
  obtain ⟨l,⟨nt,np,nb⟩⟩:=E
  simp only at *
  refine FnW.of_AW TryzT_ok 0 (fn:=Tryz.f65) (by kernel_rfl) rfl (by kernel_rfl) rfl rfl rfl ?_; refine AW_of h65 TryzT_ok (by kernel_rfl) ?_
  simp -dsimp
  refine ACallK_of (f182_ok _ ht) ?_
  simp -dsimp
  refine ACallW_go ?_
  refine ACallC_go (fun us => c0) ?_
  simp -dsimp
  refine ACallW_go ?_
  refine ACallC_go (fun us => c1) ?_
  simp -dsimp
  refine ACallW_go ?_
  refine ACallC_go (fun us => c2) ?_
  simp -dsimp
  refine ACallW_go ?_
  refine ACallC_go (fun us => c3) ?_
  simp -dsimp
  refine ACallW_go ?_
  refine ACallC_go (fun us => c4) ?_
  simp -dsimp
  refine AWh_loop (fun i:Nat => i ≤ N) (fun i => mkE [(2,.box 128 0),(4,.c (.str (unS t))),(6,.box 1216 0),(7,.box 448 0),(35,.c (.int .i64 N)),(36,.c (.int .i64 i))] [(2624,.arr 0 29 2 (lsM dotM B.2 i).1.length (flat (lsM dotM B.2 i).1)),(128,.box [.nil,.nil,.nil,.nil,.nil,.nil]),(1216,.box [.c (.str (lsM dotM B.2 i).2.t),.c (.int .i64 (lsM dotM B.2 i).2.pos),.c (.bool (lsM dotM B.2 i).2.bad)]),(448,.box [.arr 1408,.arr 1600,.arr 1792,.arr 1984,.arr 2624,.nil]),(1408,.arr 0 3 1 K.1.length (flat K.1)),(1600,.arr 0 3 1 Q.1.length (flat Q.1)),(1792,.arr 0 179 3 L.1.length (flat L.1)),(1984,.arr 0 159 6 M.1.length (flat M.1))]) (fun i => N - i) 0 (Wk_toA [2,4,6,7,35,36] [(128,128),(1216,1216),(448,448),(1408,1408),(1600,1600),(1792,1792),(1984,1984)] [.cell 448 4 2624 29 2] (by decide) (by decide) (by simp [lsM])) (by simp) ?_
  rintro i hi
  have hl:=lsM_len (r:=dotM) B.2 i
  refine AW_of h65 TryzT_ok (by kernel_rfl) ?_
  rcases Nat.lt_or_ge i N with h1 | h1
  · simp -dsimp [h1]
    have h0:=c5 i
    refine ACallW_go ?_
    refine ACallC_go (fun us => h0) ?_
    simp -dsimp [h1]
    refine ⟨by simp [capMax]; omega,?_⟩
    exact Back_of (i + 1) [2,4,6,7,35,36] [(2624,2816),(128,128),(1216,1216),(448,448),(1408,1408),(1600,1600),(1792,1792),(1984,1984)] rfl rfl (by simp [lsM]; rw [wrap64 (by omega) (by omega)]) (by omega) (by omega)
  · obtain rfl:i = N:=by omega
    simp -dsimp
    refine ACallW_go ?_
    refine ACallC_go (fun us => c6) ?_
    cases nb
    · by_cases hz:np = (unS t).size
      · have hz2:(np != ((unS t).size:Int)) = false:=by simp [hz]
        simp -dsimp [hz2]
        refine ACallK_of (f188_ok _ ho) ?_
        cases hk:deltaOk (⟨K.1,Q.1,L.1,M.1,(lsM dotM B.2 i).1,l⟩:GDelta)
        · simp -dsimp
          simp [resDM,hk,GDelta.empty]
        · simp -dsimp
          simp [resDM,hk,hz]
      · have hz2:(np != ((unS t).size:Int)) = true:=by simp [hz]
        simp -dsimp [hz2]
        simp [resDM,hz,GDelta.empty]
    · simp -dsimp
      simp [resDM,GDelta.empty]
end Am
