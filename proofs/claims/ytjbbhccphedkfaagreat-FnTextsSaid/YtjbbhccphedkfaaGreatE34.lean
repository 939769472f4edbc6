/- What reads: lists. No condition. -/
import Derived.Test.YtjbbhccphedkfaaGreatT
import Derived.Test.YtjbbhccphedkfaaGreatD
import Derived.Test.YtjbbhccphedkfaaGreatV13
import Derived.Test.YtjbbhccphedkfaaGreatAm31
set_option linter.unusedSimpArgs false
set_option linter.unusedVariables false
set_option linter.unnecessarySimpa false
set_option linter.unusedSectionVars false
namespace Am
open Go Go.Proofs
open Cel (cells)
set_option maxRecDepth 100000
theorem numM_pos {s:GScan} (h:0 ≤ s.pos):0 ≤ (numM s).2.pos:=by
  unfold numM
  split
  · exact h
  · cases g:rd s.t s.pos with
    | none => exact h
    | some x => obtain ⟨n,a⟩:=x; have:=rd_spec g; simp only; omega
theorem numM_nn (s:GScan):0 ≤ (numM s).1:=by
  unfold numM
  split
  · exact Int.le_refl 0
  · cases g:rd s.t s.pos with
    | none => exact Int.le_refl 0
    | some x => obtain ⟨n,a⟩:=x; have:=rd_spec g; simp only; omega
theorem shM_t (s:GScan):(shM s).2.t = s.t:=by
  unfold shM
  split
  · rfl
  · split <;> rfl
theorem rs_spec {t:ByteArray} {p:Int} {x:ByteArray} {a:Int} (h:rs t p = some (x,a)):∃ n b:Int,rd t p = some (n,b) ∧ n ≤ 20000 ∧ b + n ≤ t.size ∧ x = t.extract b.toNat (b + n).toNat ∧ a = b + n:=by
  unfold rs at h
  cases g:rd t p with
  | none => rw [g] at h; cases h
  | some y =>
    obtain ⟨n,b⟩:=y
    rw [g] at h
    simp only at h
    split at h
    · cases h
    · cases h
      exact ⟨n,b,rfl,by omega,by omega,rfl,rfl⟩
theorem shM_pos {s:GScan} (h:0 ≤ s.pos):0 ≤ (shM s).2.pos:=by
  unfold shM
  split
  · exact h
  · cases g:rs s.t s.pos with
    | none => exact h
    | some x =>
      obtain ⟨y,a⟩:=x
      obtain ⟨n,b,h1,_,_,_,rfl⟩:=rs_spec g
      have:=rd_spec h1
      simp only; omega
theorem shM_size (s:GScan):(shM s).1.size ≤ 20000:=by
  unfold shM
  split
  · exact Nat.zero_le _
  · cases g:rs s.t s.pos with
    | none => exact Nat.zero_le _
    | some x =>
      obtain ⟨y,a⟩:=x
      obtain ⟨n,b,h1,h2,h3,rfl,rfl⟩:=rs_spec g
      have:=rd_spec h1
      simp only [ByteArray.size_extract]
      omega
theorem dotM_t (s:GScan):(dotM s).2.t = s.t:=by rw [dotM,numM_t,numM_t]
theorem dotM_pos {s:GScan} (h:0 ≤ s.pos):0 ≤ (dotM s).2.pos:=numM_pos (numM_pos h)
theorem setBad_t (s:GScan):(setBad s).t = s.t:=rfl
theorem flagM_t (s:GScan):(flagM s).2.t = s.t:=by
  unfold flagM
  simp only
  split
  · rw [setBad_t,numM_t]
  · rw [numM_t]
theorem flagM_pos {s:GScan} (h:0 ≤ s.pos):0 ≤ (flagM s).2.pos:=by
  unfold flagM
  simp only
  split
  · exact numM_pos h
  · exact numM_pos h
theorem boolS_t (s:GScan):(boolS s).2.t = s.t:=by
  unfold boolS
  split <;> rfl
theorem boolS_pos {s:GScan} (h:0 ≤ s.pos):0 ≤ (boolS s).2.pos:=by
  unfold boolS
  split
  · exact h
  · simp only; omega
theorem cntM_t (s:GScan):(cntM s).2.t = s.t:=by
  unfold cntM
  split
  · rw [setBad_t,numM_t]
  · rw [numM_t]
theorem cntM_pos {s:GScan} (h:0 ≤ s.pos):0 ≤ (cntM s).2.pos:=by
  unfold cntM
  split
  · exact numM_pos h
  · exact numM_pos h
theorem cntM_N (s:GScan):∃ N:Nat,(cntM s).1 = N ∧ N ≤ 120:=by
  have:=numM_nn s
  unfold cntM
  split
  · exact ⟨0,rfl,by omega⟩
  · exact ⟨(numM s).1.toNat,by omega,by omega⟩
def lsM {α:Type} (r:GScan → α × GScan) (s:GScan):Nat → List α × GScan
  | 0 => ([],s)
  | i + 1 => ((lsM r s i).1 ++ [(r (lsM r s i).2).1],(r (lsM r s i).2).2)
def lsS {α:Type} (r:GScan → α × GScan) (s:GScan):Nat → List α × GScan
  | 0 => ([],s)
  | i + 1 => if (lsS r s i).2.bad = true then lsS r s i else ((lsS r s i).1 ++ [(r (lsS r s i).2).1],(r (lsS r s i).2).2)
section
variable {α:Type} {r:GScan → α × GScan}
theorem lsM_t (hr:∀ s,(r s).2.t = s.t) (s:GScan):∀ i,(lsM r s i).2.t = s.t
  | 0 => rfl
  | i + 1 => by rw [lsM,hr,lsM_t hr s i]
theorem lsM_pos (hr:∀ s,0 ≤ s.pos → 0 ≤ (r s).2.pos) {s:GScan} (h:0 ≤ s.pos):∀ i,0 ≤ (lsM r s i).2.pos
  | 0 => h
  | i + 1 => by rw [lsM]; exact hr _ (lsM_pos hr h i)
theorem lsM_len (s:GScan):∀ i,(lsM r s i).1.length = i
  | 0 => rfl
  | i + 1 => by simp [lsM,lsM_len s i]
theorem lsS_eq {s:GScan}:∀ {i:Nat},(∀ j:Nat,j < i → (lsM r s j).2.bad = false) → lsS r s i = lsM r s i
  | 0,_ => rfl
  | i + 1,h => by
    have ih:=lsS_eq (i:=i) fun j hj => h j (by omega)
    rw [lsS,ih,h i (by omega),lsM]
    simp
theorem lsS_stop {s:GScan} {i:Nat} (h:∀ j:Nat,j < i → (lsM r s j).2.bad = false) (hb:(lsM r s i).2.bad = true):∀ n:Nat,i ≤ n → lsS r s n = lsM r s i
  | 0,hn => by
    obtain rfl:i = 0:=by omega
    rfl
  | n + 1,hn => by
    by_cases e:i = n + 1
    · subst e; exact lsS_eq h
    · rw [lsS,lsS_stop h hb n (by omega),if_pos hb]
end
def talM (s:GScan):GTally × GScan:=(⟨(shM s).1,(numM (shM s).2).1,(numM (numM (shM s).2).2).1⟩,(numM (numM (shM s).2).2).2)
def liveM (fl:GScan → Bool × GScan) (s:GScan):GLive × GScan :=
  (⟨(fl s).1,(shM (fl s).2).1,(shM (shM (fl s).2).2).1,(numM (shM (shM (fl s).2).2).2).1,(dotM (numM (shM (shM (fl s).2).2).2).2).1⟩,(dotM (numM (shM (shM (fl s).2).2).2).2).2)
def cellM (fl:GScan → Bool × GScan) (s:GScan):GCell × GScan :=
  (⟨(shM s).1,(dotM (shM s).2).1,(numM (dotM (shM s).2).2).1,(dotM (numM (dotM (shM s).2).2).2).1,(numM (dotM (numM (dotM (shM s).2).2).2).2).1,(fl (numM (dotM (numM (dotM (shM s).2).2).2).2).2).1⟩,
    (fl (numM (dotM (numM (dotM (shM s).2).2).2).2).2).2)
theorem talM_t (s:GScan):(talM s).2.t = s.t:=by rw [talM,numM_t,numM_t,shM_t]
theorem talM_pos (s:GScan) (h:0 ≤ s.pos):0 ≤ (talM s).2.pos:=numM_pos (numM_pos (shM_pos h))
theorem liveM_t {fl:GScan → Bool × GScan} (hf:∀ s,(fl s).2.t = s.t) (s:GScan):(liveM fl s).2.t = s.t:=by rw [liveM,dotM_t,numM_t,shM_t,shM_t,hf]
theorem liveM_pos {fl:GScan → Bool × GScan} (hf:∀ s:GScan,0 ≤ s.pos → 0 ≤ (fl s).2.pos) (s:GScan) (h:0 ≤ s.pos):0 ≤ (liveM fl s).2.pos:=dotM_pos (numM_pos (shM_pos (shM_pos (hf s h))))
theorem cellM_t {fl:GScan → Bool × GScan} (hf:∀ s,(fl s).2.t = s.t) (s:GScan):(cellM fl s).2.t = s.t:=by rw [cellM,hf,numM_t,dotM_t,numM_t,dotM_t,shM_t]
theorem cellM_pos {fl:GScan → Bool × GScan} (hf:∀ s:GScan,0 ≤ s.pos → 0 ≤ (fl s).2.pos) (s:GScan) (h:0 ≤ s.pos):0 ≤ (cellM fl s).2.pos:=hf _ (numM_pos (dotM_pos (numM_pos (dotM_pos (shM_pos h)))))
@[simp] def h56:Hts:={ merge:=fun _ => false,lend:=fun f => [.box []] }
set_option maxHeartbeats 2000000 in
theorem f56_ok (s:GScan) (ht:s.t.size ≤ 1073741824) (hp:0 ≤ s.pos):FnW Tryz.prog 56 [.ptr [.str (s).t,.int .i64 (s).pos,.bool (s).bad]] (.v (.ow 104 3 ((lsS talM (cntM s).2 (cntM s).1.toNat).1).length (flat ((lsS talM (cntM s).2 (cntM s).1.toNat).1)))) [.ptr [.str ((lsS talM (cntM s).2 (cntM s).1.toNat).2).t,.int .i64 ((lsS talM (cntM s).2 (cntM s).1.toNat).2).pos,.bool ((lsS talM (cntM s).2 (cntM s).1.toNat).2).bad]]:=by
  obtain ⟨N,hN,hN2⟩:=cntM_N s
  have hNt:(cntM s).1.toNat = N:=by omega
  rw [hNt]
  refine FnW.of_AW TryzT_ok 1 (fn:=Tryz.f56) (by kernel_rfl) rfl (by kernel_rfl) rfl rfl rfl ?_; refine AW_of h56 TryzT_ok (by kernel_rfl) ?_
  simp -dsimp
  refine ACallW_go ?_
  refine ACallC_go (fun us => f60_ok s ht) ?_
  simp -dsimp [hN]
  refine AWh_loop (fun i:Nat => i ≤ N ∧ ∀ j:Nat,j < i → (lsM talM (cntM s).2 j).2.bad = false) (fun i => mkE [(0,.box 640000 0),(3,.arr 192),(4,.c (.int .i64 N)),(5,.c (.int .i64 i))] [(640000,.box [.c (.str (lsM talM (cntM s).2 i).2.t),.c (.int .i64 (lsM talM (cntM s).2 i).2.pos),.c (.bool (lsM talM (cntM s).2 i).2.bad)]),(192,.arr 0 104 3 (lsM talM (cntM s).2 i).1.length (flat (lsM talM (cntM s).2 i).1))]) (fun i => N - i) 0 (Wk_to [0,3,4,5] [(640000,640000),(192,448)] rfl rfl (by simp [lsM])) (by simp) ?_
  rintro i ⟨hi,hall⟩
  have hl:=lsM_len (r:=talM) (cntM s).2 i
  have he:(lsM talM (cntM s).2 i).2.t = s.t:=by rw [lsM_t talM_t,cntM_t]
  have hp0:0 ≤ (lsM talM (cntM s).2 i).2.pos:=lsM_pos talM_pos (cntM_pos hp) i
  refine AW_of h56 TryzT_ok (by kernel_rfl) ?_
  rcases Nat.lt_or_ge i N with h1 | h1
  · cases hb:(lsM talM (cntM s).2 i).2.bad
    · simp -dsimp [h1,hb]
      refine ACallW_go ?_
      have h0:=f124_ok ((lsM talM (cntM s).2 i).2) (by simp only [numM_t,shM_t,dotM_t,boolS_t,flagM_t,he]; exact ht)
      rw [hb] at h0
      refine ACallC_go (fun us => h0) ?_
      simp -dsimp [h1,hb]
      refine ACallW_go ?_
      refine ACallC_go (fun us => f123_ok ((shM ((lsM talM (cntM s).2 i).2)).2) (by simp only [numM_t,shM_t,dotM_t,boolS_t,flagM_t,he]; exact ht)) ?_
      simp -dsimp [h1,hb]
      refine ACallW_go ?_
      refine ACallC_go (fun us => f123_ok ((numM ((shM ((lsM talM (cntM s).2 i).2)).2)).2) (by simp only [numM_t,shM_t,dotM_t,boolS_t,flagM_t,he]; exact ht)) ?_
      simp -dsimp [h1,hb]
      refine ⟨by simp [capMax]; omega,?_⟩
      exact Back_of (i + 1) [0,3,4,5] [(640000,640000),(192,2176)] rfl rfl (by simp [lsM,talM,liveM,cellM]; rw [wrap64 (by omega) (by omega)]) ⟨by omega,fun j hj => by
        by_cases e:j = i
        · subst e; exact hb
        · exact hall j (by omega)⟩ (by omega)
    · simp -dsimp [h1,hb]
      rw [lsS_stop hall hb N (by omega)]
      refine ⟨⟨rfl,rfl⟩,?_⟩
      simp [hb]
  · obtain rfl:i = N:=by omega
    simp -dsimp
    rw [lsS_eq hall]
    exact ⟨⟨rfl,rfl⟩,rfl,rfl,rfl⟩
@[simp] def h42:Hts:={ merge:=fun _ => false,lend:=fun f => [.box []] }
set_option maxHeartbeats 2000000 in
theorem f42_ok (s:GScan) (ht:s.t.size ≤ 1073741824) (hp:0 ≤ s.pos):FnW Tryz.prog 42 [.ptr [.str (s).t,.int .i64 (s).pos,.bool (s).bad]] (.v (.ow 104 3 ((lsM talM (cntM s).2 (cntM s).1.toNat).1).length (flat ((lsM talM (cntM s).2 (cntM s).1.toNat).1)))) [.ptr [.str ((lsM talM (cntM s).2 (cntM s).1.toNat).2).t,.int .i64 ((lsM talM (cntM s).2 (cntM s).1.toNat).2).pos,.bool ((lsM talM (cntM s).2 (cntM s).1.toNat).2).bad]]:=by
  obtain ⟨N,hN,hN2⟩:=cntM_N s
  have hNt:(cntM s).1.toNat = N:=by omega
  rw [hNt]
  refine FnW.of_AW TryzT_ok 1 (fn:=Tryz.f42) (by kernel_rfl) rfl (by kernel_rfl) rfl rfl rfl ?_; refine AW_of h42 TryzT_ok (by kernel_rfl) ?_
  simp -dsimp
  refine ACallW_go ?_
  refine ACallC_go (fun us => f48_ok s ht) ?_
  simp -dsimp [hN]
  refine AWh_loop (fun i:Nat => i ≤ N) (fun i => mkE [(0,.box 640000 0),(3,.arr 192),(9,.c (.int .i64 N)),(10,.c (.int .i64 i))] [(640000,.box [.c (.str (lsM talM (cntM s).2 i).2.t),.c (.int .i64 (lsM talM (cntM s).2 i).2.pos),.c (.bool (lsM talM (cntM s).2 i).2.bad)]),(192,.arr 0 104 3 (lsM talM (cntM s).2 i).1.length (flat (lsM talM (cntM s).2 i).1))]) (fun i => N - i) 0 (Wk_to [0,3,9,10] [(640000,640000),(192,384)] rfl rfl (by simp [lsM])) (by simp) ?_
  rintro i hi
  have hl:=lsM_len (r:=talM) (cntM s).2 i
  have he:(lsM talM (cntM s).2 i).2.t = s.t:=by rw [lsM_t talM_t,cntM_t]
  have hp0:0 ≤ (lsM talM (cntM s).2 i).2.pos:=lsM_pos talM_pos (cntM_pos hp) i
  refine AW_of h42 TryzT_ok (by kernel_rfl) ?_
  rcases Nat.lt_or_ge i N with h1 | h1
  · simp -dsimp [h1]
    refine ACallW_go ?_
    refine ACallC_go (fun us => f108_ok ((lsM talM (cntM s).2 i).2) (by simp only [numM_t,shM_t,dotM_t,boolS_t,flagM_t,he]; exact ht)) ?_
    simp -dsimp [h1]
    refine ACallW_go ?_
    refine ACallC_go (fun us => f107_ok ((shM ((lsM talM (cntM s).2 i).2)).2) (by simp only [numM_t,shM_t,dotM_t,boolS_t,flagM_t,he]; exact ht)) ?_
    simp -dsimp [h1]
    refine ACallW_go ?_
    refine ACallC_go (fun us => f107_ok ((numM ((shM ((lsM talM (cntM s).2 i).2)).2)).2) (by simp only [numM_t,shM_t,dotM_t,boolS_t,flagM_t,he]; exact ht)) ?_
    simp -dsimp [h1]
    refine ⟨by simp [capMax]; omega,?_⟩
    exact Back_of (i + 1) [0,3,9,10] [(640000,640000),(192,1600)] rfl rfl (by simp [lsM,talM,liveM,cellM]; rw [wrap64 (by omega) (by omega)]) (by omega) (by omega)
  · obtain rfl:i = N:=by omega
    simp -dsimp
    try exact ⟨⟨rfl,rfl⟩,rfl,rfl,rfl⟩
@[simp] def h57:Hts:={ merge:=fun _ => false,lend:=fun f => [.box []] }
set_option maxHeartbeats 2000000 in
theorem f57_ok (s:GScan) (ht:s.t.size ≤ 1073741824) (hp:0 ≤ s.pos):FnW Tryz.prog 57 [.ptr [.str (s).t,.int .i64 (s).pos,.bool (s).bad]] (.v (.ow 98 6 ((lsS (liveM boolS) (cntM s).2 (cntM s).1.toNat).1).length (flat ((lsS (liveM boolS) (cntM s).2 (cntM s).1.toNat).1)))) [.ptr [.str ((lsS (liveM boolS) (cntM s).2 (cntM s).1.toNat).2).t,.int .i64 ((lsS (liveM boolS) (cntM s).2 (cntM s).1.toNat).2).pos,.bool ((lsS (liveM boolS) (cntM s).2 (cntM s).1.toNat).2).bad]]:=by
  obtain ⟨N,hN,hN2⟩:=cntM_N s
  have hNt:(cntM s).1.toNat = N:=by omega
  rw [hNt]
  refine FnW.of_AW TryzT_ok 1 (fn:=Tryz.f57) (by kernel_rfl) rfl (by kernel_rfl) rfl rfl rfl ?_; refine AW_of h57 TryzT_ok (by kernel_rfl) ?_
  simp -dsimp
  refine ACallW_go ?_
  refine ACallC_go (fun us => f60_ok s ht) ?_
  simp -dsimp [hN]
  refine AWh_loop (fun i:Nat => i ≤ N ∧ ∀ j:Nat,j < i → (lsM (liveM boolS) (cntM s).2 j).2.bad = false) (fun i => mkE [(0,.box 640000 0),(3,.arr 192),(4,.c (.int .i64 N)),(5,.c (.int .i64 i))] [(640000,.box [.c (.str (lsM (liveM boolS) (cntM s).2 i).2.t),.c (.int .i64 (lsM (liveM boolS) (cntM s).2 i).2.pos),.c (.bool (lsM (liveM boolS) (cntM s).2 i).2.bad)]),(192,.arr 0 98 6 (lsM (liveM boolS) (cntM s).2 i).1.length (flat (lsM (liveM boolS) (cntM s).2 i).1))]) (fun i => N - i) 0 (Wk_to [0,3,4,5] [(640000,640000),(192,448)] rfl rfl (by simp [lsM])) (by simp) ?_
  rintro i ⟨hi,hall⟩
  have hl:=lsM_len (r:=(liveM boolS)) (cntM s).2 i
  have he:(lsM (liveM boolS) (cntM s).2 i).2.t = s.t:=by rw [lsM_t (liveM_t boolS_t),cntM_t]
  have hp0:0 ≤ (lsM (liveM boolS) (cntM s).2 i).2.pos:=lsM_pos (liveM_pos fun _ => boolS_pos) (cntM_pos hp) i
  refine AW_of h57 TryzT_ok (by kernel_rfl) ?_
  rcases Nat.lt_or_ge i N with h1 | h1
  · cases hb:(lsM (liveM boolS) (cntM s).2 i).2.bad
    · simp -dsimp [h1,hb]
      refine ACallW_go ?_
      have h0:=f125_ok ((lsM (liveM boolS) (cntM s).2 i).2) (by simp only [numM_t,shM_t,dotM_t,boolS_t,flagM_t,he]; exact ht) (by repeat (first | exact hp0 | apply numM_pos | apply shM_pos | apply dotM_pos | apply boolS_pos | apply flagM_pos))
      rw [hb] at h0
      refine ACallC_go (fun us => h0) ?_
      simp -dsimp [h1,hb]
      refine ACallW_go ?_
      refine ACallC_go (fun us => f124_ok ((boolS ((lsM (liveM boolS) (cntM s).2 i).2)).2) (by simp only [numM_t,shM_t,dotM_t,boolS_t,flagM_t,he]; exact ht)) ?_
      simp -dsimp [h1,hb]
      refine ACallW_go ?_
      refine ACallC_go (fun us => f124_ok ((shM ((boolS ((lsM (liveM boolS) (cntM s).2 i).2)).2)).2) (by simp only [numM_t,shM_t,dotM_t,boolS_t,flagM_t,he]; exact ht)) ?_
      simp -dsimp [h1,hb]
      refine ACallW_go ?_
      refine ACallC_go (fun us => f123_ok ((shM ((shM ((boolS ((lsM (liveM boolS) (cntM s).2 i).2)).2)).2)).2) (by simp only [numM_t,shM_t,dotM_t,boolS_t,flagM_t,he]; exact ht)) ?_
      simp -dsimp [h1,hb]
      refine ACallW_go ?_
      refine ACallC_go (fun us => f61_ok ((numM ((shM ((shM ((boolS ((lsM (liveM boolS) (cntM s).2 i).2)).2)).2)).2)).2) (by simp only [numM_t,shM_t,dotM_t,boolS_t,flagM_t,he]; exact ht)) ?_
      simp -dsimp [h1,hb]
      refine ⟨by simp [capMax]; omega,?_⟩
      exact Back_of (i + 1) [0,3,4,5] [(640000,640000),(192,2560)] rfl rfl (by simp [lsM,talM,liveM,cellM]; rw [wrap64 (by omega) (by omega)]) ⟨by omega,fun j hj => by
        by_cases e:j = i
        · subst e; exact hb
        · exact hall j (by omega)⟩ (by omega)
    · simp -dsimp [h1,hb]
      rw [lsS_stop hall hb N (by omega)]
      refine ⟨⟨rfl,rfl⟩,?_⟩
      simp [hb]
  · obtain rfl:i = N:=by omega
    simp -dsimp
    rw [lsS_eq hall]
    exact ⟨⟨rfl,rfl⟩,rfl,rfl,rfl⟩
@[simp] def h43:Hts:={ merge:=fun _ => false,lend:=fun f => [.box []] }
set_option maxHeartbeats 2000000 in
theorem f43_ok (s:GScan) (ht:s.t.size ≤ 1073741824) (hp:0 ≤ s.pos):FnW Tryz.prog 43 [.ptr [.str (s).t,.int .i64 (s).pos,.bool (s).bad]] (.v (.ow 98 6 ((lsM (liveM flagM) (cntM s).2 (cntM s).1.toNat).1).length (flat ((lsM (liveM flagM) (cntM s).2 (cntM s).1.toNat).1)))) [.ptr [.str ((lsM (liveM flagM) (cntM s).2 (cntM s).1.toNat).2).t,.int .i64 ((lsM (liveM flagM) (cntM s).2 (cntM s).1.toNat).2).pos,.bool ((lsM (liveM flagM) (cntM s).2 (cntM s).1.toNat).2).bad]]:=by
  obtain ⟨N,hN,hN2⟩:=cntM_N s
  have hNt:(cntM s).1.toNat = N:=by omega
  rw [hNt]
  refine FnW.of_AW TryzT_ok 1 (fn:=Tryz.f43) (by kernel_rfl) rfl (by kernel_rfl) rfl rfl rfl ?_; refine AW_of h43 TryzT_ok (by kernel_rfl) ?_
  simp -dsimp
  refine ACallW_go ?_
  refine ACallC_go (fun us => f48_ok s ht) ?_
  simp -dsimp [hN]
  refine AWh_loop (fun i:Nat => i ≤ N) (fun i => mkE [(0,.box 640000 0),(3,.arr 192),(9,.c (.int .i64 N)),(10,.c (.int .i64 i))] [(640000,.box [.c (.str (lsM (liveM flagM) (cntM s).2 i).2.t),.c (.int .i64 (lsM (liveM flagM) (cntM s).2 i).2.pos),.c (.bool (lsM (liveM flagM) (cntM s).2 i).2.bad)]),(192,.arr 0 98 6 (lsM (liveM flagM) (cntM s).2 i).1.length (flat (lsM (liveM flagM) (cntM s).2 i).1))]) (fun i => N - i) 0 (Wk_to [0,3,9,10] [(640000,640000),(192,384)] rfl rfl (by simp [lsM])) (by simp) ?_
  rintro i hi
  have hl:=lsM_len (r:=(liveM flagM)) (cntM s).2 i
  have he:(lsM (liveM flagM) (cntM s).2 i).2.t = s.t:=by rw [lsM_t (liveM_t flagM_t),cntM_t]
  have hp0:0 ≤ (lsM (liveM flagM) (cntM s).2 i).2.pos:=lsM_pos (liveM_pos fun _ => flagM_pos) (cntM_pos hp) i
  refine AW_of h43 TryzT_ok (by kernel_rfl) ?_
  rcases Nat.lt_or_ge i N with h1 | h1
  · simp -dsimp [h1]
    refine ACallW_go ?_
    refine ACallC_go (fun us => f109_ok ((lsM (liveM flagM) (cntM s).2 i).2) (by simp only [numM_t,shM_t,dotM_t,boolS_t,flagM_t,he]; exact ht)) ?_
    simp -dsimp [h1]
    refine ACallW_go ?_
    refine ACallC_go (fun us => f108_ok ((flagM ((lsM (liveM flagM) (cntM s).2 i).2)).2) (by simp only [numM_t,shM_t,dotM_t,boolS_t,flagM_t,he]; exact ht)) ?_
    simp -dsimp [h1]
    refine ACallW_go ?_
    refine ACallC_go (fun us => f108_ok ((shM ((flagM ((lsM (liveM flagM) (cntM s).2 i).2)).2)).2) (by simp only [numM_t,shM_t,dotM_t,boolS_t,flagM_t,he]; exact ht)) ?_
    simp -dsimp [h1]
    refine ACallW_go ?_
    refine ACallC_go (fun us => f107_ok ((shM ((shM ((flagM ((lsM (liveM flagM) (cntM s).2 i).2)).2)).2)).2) (by simp only [numM_t,shM_t,dotM_t,boolS_t,flagM_t,he]; exact ht)) ?_
    simp -dsimp [h1]
    refine ACallW_go ?_
    refine ACallC_go (fun us => f49_ok ((numM ((shM ((shM ((flagM ((lsM (liveM flagM) (cntM s).2 i).2)).2)).2)).2)).2) (by simp only [numM_t,shM_t,dotM_t,boolS_t,flagM_t,he]; exact ht)) ?_
    simp -dsimp [h1]
    refine ⟨by simp [capMax]; omega,?_⟩
    exact Back_of (i + 1) [0,3,9,10] [(640000,640000),(192,1984)] rfl rfl (by simp [lsM,talM,liveM,cellM]; rw [wrap64 (by omega) (by omega)]) (by omega) (by omega)
  · obtain rfl:i = N:=by omega
    simp -dsimp
    try exact ⟨⟨rfl,rfl⟩,rfl,rfl,rfl⟩
@[simp] def h58:Hts:={ merge:=fun _ => false,lend:=fun f => [.box []] }
set_option maxHeartbeats 2000000 in
theorem f58_ok (s:GScan) (ht:s.t.size ≤ 1073741824) (hp:0 ≤ s.pos):FnW Tryz.prog 58 [.ptr [.str (s).t,.int .i64 (s).pos,.bool (s).bad]] (.v (.ow 100 8 ((lsS (cellM boolS) (cntM s).2 (cntM s).1.toNat).1).length (flat ((lsS (cellM boolS) (cntM s).2 (cntM s).1.toNat).1)))) [.ptr [.str ((lsS (cellM boolS) (cntM s).2 (cntM s).1.toNat).2).t,.int .i64 ((lsS (cellM boolS) (cntM s).2 (cntM s).1.toNat).2).pos,.bool ((lsS (cellM boolS) (cntM s).2 (cntM s).1.toNat).2).bad]]:=by
  obtain ⟨N,hN,hN2⟩:=cntM_N s
  have hNt:(cntM s).1.toNat = N:=by omega
  rw [hNt]
  refine FnW.of_AW TryzT_ok 1 (fn:=Tryz.f58) (by kernel_rfl) rfl (by kernel_rfl) rfl rfl rfl ?_; refine AW_of h58 TryzT_ok (by kernel_rfl) ?_
  simp -dsimp
  refine ACallW_go ?_
  refine ACallC_go (fun us => f60_ok s ht) ?_
  simp -dsimp [hN]
  refine AWh_loop (fun i:Nat => i ≤ N ∧ ∀ j:Nat,j < i → (lsM (cellM boolS) (cntM s).2 j).2.bad = false) (fun i => mkE [(0,.box 640000 0),(3,.arr 192),(4,.c (.int .i64 N)),(5,.c (.int .i64 i))] [(640000,.box [.c (.str (lsM (cellM boolS) (cntM s).2 i).2.t),.c (.int .i64 (lsM (cellM boolS) (cntM s).2 i).2.pos),.c (.bool (lsM (cellM boolS) (cntM s).2 i).2.bad)]),(192,.arr 0 100 8 (lsM (cellM boolS) (cntM s).2 i).1.length (flat (lsM (cellM boolS) (cntM s).2 i).1))]) (fun i => N - i) 0 (Wk_to [0,3,4,5] [(640000,640000),(192,448)] rfl rfl (by simp [lsM])) (by simp) ?_
  rintro i ⟨hi,hall⟩
  have hl:=lsM_len (r:=(cellM boolS)) (cntM s).2 i
  have he:(lsM (cellM boolS) (cntM s).2 i).2.t = s.t:=by rw [lsM_t (cellM_t boolS_t),cntM_t]
  have hp0:0 ≤ (lsM (cellM boolS) (cntM s).2 i).2.pos:=lsM_pos (cellM_pos fun _ => boolS_pos) (cntM_pos hp) i
  refine AW_of h58 TryzT_ok (by kernel_rfl) ?_
  rcases Nat.lt_or_ge i N with h1 | h1
  · cases hb:(lsM (cellM boolS) (cntM s).2 i).2.bad
    · simp -dsimp [h1,hb]
      refine ACallW_go ?_
      have h0:=f124_ok ((lsM (cellM boolS) (cntM s).2 i).2) (by simp only [numM_t,shM_t,dotM_t,boolS_t,flagM_t,he]; exact ht)
      rw [hb] at h0
      refine ACallC_go (fun us => h0) ?_
      simp -dsimp [h1,hb]
      refine ACallW_go ?_
      refine ACallC_go (fun us => f61_ok ((shM ((lsM (cellM boolS) (cntM s).2 i).2)).2) (by simp only [numM_t,shM_t,dotM_t,boolS_t,flagM_t,he]; exact ht)) ?_
      simp -dsimp [h1,hb]
      refine ACallW_go ?_
      refine ACallC_go (fun us => f123_ok ((dotM ((shM ((lsM (cellM boolS) (cntM s).2 i).2)).2)).2) (by simp only [numM_t,shM_t,dotM_t,boolS_t,flagM_t,he]; exact ht)) ?_
      simp -dsimp [h1,hb]
      refine ACallW_go ?_
      refine ACallC_go (fun us => f61_ok ((numM ((dotM ((shM ((lsM (cellM boolS) (cntM s).2 i).2)).2)).2)).2) (by simp only [numM_t,shM_t,dotM_t,boolS_t,flagM_t,he]; exact ht)) ?_
      simp -dsimp [h1,hb]
      refine ACallW_go ?_
      refine ACallC_go (fun us => f123_ok ((dotM ((numM ((dotM ((shM ((lsM (cellM boolS) (cntM s).2 i).2)).2)).2)).2)).2) (by simp only [numM_t,shM_t,dotM_t,boolS_t,flagM_t,he]; exact ht)) ?_
      simp -dsimp [h1,hb]
      refine ACallW_go ?_
      refine ACallC_go (fun us => f125_ok ((numM ((dotM ((numM ((dotM ((shM ((lsM (cellM boolS) (cntM s).2 i).2)).2)).2)).2)).2)).2) (by simp only [numM_t,shM_t,dotM_t,boolS_t,flagM_t,he]; exact ht) (by repeat (first | exact hp0 | apply numM_pos | apply shM_pos | apply dotM_pos | apply boolS_pos | apply flagM_pos))) ?_
      simp -dsimp [h1,hb]
      refine ⟨by simp [capMax]; omega,?_⟩
      exact Back_of (i + 1) [0,3,4,5] [(640000,640000),(192,2752)] rfl rfl (by simp [lsM,talM,liveM,cellM]; rw [wrap64 (by omega) (by omega)]) ⟨by omega,fun j hj => by
        by_cases e:j = i
        · subst e; exact hb
        · exact hall j (by omega)⟩ (by omega)
    · simp -dsimp [h1,hb]
      rw [lsS_stop hall hb N (by omega)]
      refine ⟨⟨rfl,rfl⟩,?_⟩
      simp [hb]
  · obtain rfl:i = N:=by omega
    simp -dsimp
    rw [lsS_eq hall]
    exact ⟨⟨rfl,rfl⟩,rfl,rfl,rfl⟩
@[simp] def h44:Hts:={ merge:=fun _ => false,lend:=fun f => [.box []] }
set_option maxHeartbeats 2000000 in
theorem f44_ok (s:GScan) (ht:s.t.size ≤ 1073741824) (hp:0 ≤ s.pos):FnW Tryz.prog 44 [.ptr [.str (s).t,.int .i64 (s).pos,.bool (s).bad]] (.v (.ow 100 8 ((lsM (cellM flagM) (cntM s).2 (cntM s).1.toNat).1).length (flat ((lsM (cellM flagM) (cntM s).2 (cntM s).1.toNat).1)))) [.ptr [.str ((lsM (cellM flagM) (cntM s).2 (cntM s).1.toNat).2).t,.int .i64 ((lsM (cellM flagM) (cntM s).2 (cntM s).1.toNat).2).pos,.bool ((lsM (cellM flagM) (cntM s).2 (cntM s).1.toNat).2).bad]]:=by
  obtain ⟨N,hN,hN2⟩:=cntM_N s
  have hNt:(cntM s).1.toNat = N:=by omega
  rw [hNt]
  refine FnW.of_AW TryzT_ok 1 (fn:=Tryz.f44) (by kernel_rfl) rfl (by kernel_rfl) rfl rfl rfl ?_; refine AW_of h44 TryzT_ok (by kernel_rfl) ?_
  simp -dsimp
  refine ACallW_go ?_
  refine ACallC_go (fun us => f48_ok s ht) ?_
  simp -dsimp [hN]
  refine AWh_loop (fun i:Nat => i ≤ N) (fun i => mkE [(0,.box 640000 0),(3,.arr 192),(9,.c (.int .i64 N)),(10,.c (.int .i64 i))] [(640000,.box [.c (.str (lsM (cellM flagM) (cntM s).2 i).2.t),.c (.int .i64 (lsM (cellM flagM) (cntM s).2 i).2.pos),.c (.bool (lsM (cellM flagM) (cntM s).2 i).2.bad)]),(192,.arr 0 100 8 (lsM (cellM flagM) (cntM s).2 i).1.length (flat (lsM (cellM flagM) (cntM s).2 i).1))]) (fun i => N - i) 0 (Wk_to [0,3,9,10] [(640000,640000),(192,384)] rfl rfl (by simp [lsM])) (by simp) ?_
  rintro i hi
  have hl:=lsM_len (r:=(cellM flagM)) (cntM s).2 i
  have he:(lsM (cellM flagM) (cntM s).2 i).2.t = s.t:=by rw [lsM_t (cellM_t flagM_t),cntM_t]
  have hp0:0 ≤ (lsM (cellM flagM) (cntM s).2 i).2.pos:=lsM_pos (cellM_pos fun _ => flagM_pos) (cntM_pos hp) i
  refine AW_of h44 TryzT_ok (by kernel_rfl) ?_
  rcases Nat.lt_or_ge i N with h1 | h1
  · simp -dsimp [h1]
    refine ACallW_go ?_
    refine ACallC_go (fun us => f108_ok ((lsM (cellM flagM) (cntM s).2 i).2) (by simp only [numM_t,shM_t,dotM_t,boolS_t,flagM_t,he]; exact ht)) ?_
    simp -dsimp [h1]
    refine ACallW_go ?_
    refine ACallC_go (fun us => f49_ok ((shM ((lsM (cellM flagM) (cntM s).2 i).2)).2) (by simp only [numM_t,shM_t,dotM_t,boolS_t,flagM_t,he]; exact ht)) ?_
    simp -dsimp [h1]
    refine ACallW_go ?_
    refine ACallC_go (fun us => f107_ok ((dotM ((shM ((lsM (cellM flagM) (cntM s).2 i).2)).2)).2) (by simp only [numM_t,shM_t,dotM_t,boolS_t,flagM_t,he]; exact ht)) ?_
    simp -dsimp [h1]
    refine ACallW_go ?_
    refine ACallC_go (fun us => f49_ok ((numM ((dotM ((shM ((lsM (cellM flagM) (cntM s).2 i).2)).2)).2)).2) (by simp only [numM_t,shM_t,dotM_t,boolS_t,flagM_t,he]; exact ht)) ?_
    simp -dsimp [h1]
    refine ACallW_go ?_
    refine ACallC_go (fun us => f107_ok ((dotM ((numM ((dotM ((shM ((lsM (cellM flagM) (cntM s).2 i).2)).2)).2)).2)).2) (by simp only [numM_t,shM_t,dotM_t,boolS_t,flagM_t,he]; exact ht)) ?_
    simp -dsimp [h1]
    refine ACallW_go ?_
    refine ACallC_go (fun us => f109_ok ((numM ((dotM ((numM ((dotM ((shM ((lsM (cellM flagM) (cntM s).2 i).2)).2)).2)).2)).2)).2) (by simp only [numM_t,shM_t,dotM_t,boolS_t,flagM_t,he]; exact ht)) ?_
    simp -dsimp [h1]
    refine ⟨by simp [capMax]; omega,?_⟩
    exact Back_of (i + 1) [0,3,9,10] [(640000,640000),(192,2176)] rfl rfl (by simp [lsM,talM,liveM,cellM]; rw [wrap64 (by omega) (by omega)]) (by omega) (by omega)
  · obtain rfl:i = N:=by omega
    simp -dsimp
    try exact ⟨⟨rfl,rfl⟩,rfl,rfl,rfl⟩
end Am
namespace Am
open Go Go.Proofs
open Cel (cells)
set_option maxRecDepth 100000
def catN (f:Nat → ByteArray):Nat → ByteArray
  | 0 => ⟨#[]⟩
  | n + 1 => catN f n ++ f n
theorem catN_size {f:Nat → ByteArray} {b:Nat}:∀ {n:Nat},(∀ i:Nat,i < n → (f i).size ≤ b) → (catN f n).size ≤ n * b
  | 0,_ => by simp [catN,ByteArray.size]
  | n + 1,h => by
    have h1:=catN_size (f:=f) (b:=b) (n:=n) fun i hi => h i (by omega)
    have h2:=h n (by omega)
    rw [catN,ByteArray.size_append,Nat.succ_mul]
    omega
theorem nil_app (x:ByteArray):(⟨#[]⟩:ByteArray) ++ x = x:=by
  apply ByteArray.ext
  simp [ByteArray.data_append]
theorem app_nil (x:ByteArray):x ++ (⟨#[]⟩:ByteArray) = x:=by
  apply ByteArray.ext
  simp [ByteArray.data_append]
theorem app_assoc (x y z:ByteArray):x ++ y ++ z = x ++ (y ++ z):=ByteArray.append_assoc
def numOk (n:Int):Prop:=0 ≤ n ∧ n ≤ 1000000000
def varsF (xs:List Int) (i:Nat):ByteArray:=varS (nth xs i)
def varsS (xs:List Int):ByteArray:=catN (varsF xs) xs.length
def shortS (s:ByteArray):ByteArray:=varS s.size ++ s
def shortsF (xs:List ByteArray) (i:Nat):ByteArray:=shortS (nth xs i)
def shortsS (xs:List ByteArray):ByteArray:=catN (shortsF xs) xs.length
def dotS (d:GDot):ByteArray:=varS d.rep ++ varS d.seq
def flagS (b:Bool):ByteArray:=str [cond b 1 0]
theorem varsS_two (a b:Int):varsS [a,b] = varS a ++ varS b:=by
  show catN _ 2 = _
  rw [catN,catN,catN,nil_app]; rfl
theorem varsS_one (a:Int):varsS [a] = varS a:=by
  show catN _ 1 = _
  rw [catN,catN,nil_app]; rfl
theorem shortsS_one (a:ByteArray):shortsS [a] = shortS a:=by
  show catN _ 1 = _
  rw [catN,catN,nil_app]; rfl
theorem shortsS_two (a b:ByteArray):shortsS [a,b] = shortS a ++ shortS b:=by
  show catN _ 2 = _
  rw [catN,catN,catN,nil_app]; rfl
@[simp] def h36:Hts:={  }
theorem f36_ok (xs:List Int) (ha:xs.length ≤ 1073741824) (hx:∀ i:Nat,i < xs.length → numOk (nth xs i)):FnR Tryz.prog 36 [.v (.im xs.length (flat xs))] (.v (.str (varsS xs))):=by
  refine FnW.of_AW TryzT_ok 0 (fn:=Tryz.f36) (by kernel_rfl) rfl (by kernel_rfl) rfl rfl rfl ?_; refine AW_of h36 TryzT_ok (by kernel_rfl) ?_
  simp -dsimp
  refine AWh_loop (fun i:Nat => i ≤ xs.length) (fun i => mkE [(3,.c (.str (catN (varsF xs) i))),(8,.c (.im xs.length (flat xs))),(9,.c (.int .i64 xs.length)),(10,.c (.int .i64 i))] []) (fun i => xs.length - i) 0 (Wk_to [3,8,9,10] [] rfl rfl (by simp [catN])) (by simp) ?_
  rintro i hi
  have hs:(catN (varsF xs) i).size ≤ i * 5:=catN_size fun j hj => varS_five (hx j (by omega)).2
  refine AW_of h36 TryzT_ok (by kernel_rfl) ?_
  rcases Nat.lt_or_ge i xs.length with h1 | h1
  · have h5:=varS_five (hx i h1).2
    simp -dsimp [h1,ne_of_lt h1]
    refine ACallK_of (f104_ok _ (hx i h1).1 (hx i h1).2) ?_
    simp -dsimp
    refine ⟨by simp [capMax]; omega,?_⟩
    exact Back_of (i + 1) [3,8,9,10] [] rfl rfl (by simp [catN,varsF]; rw [wrap64 (by omega) (by omega)]) (by omega) (by omega)
  · obtain rfl:i = xs.length:=by omega
    simp -dsimp
    rfl
@[simp] def h116:Hts:={  }
theorem f116_ok (xs:List Int) (ha:xs.length ≤ 1073741824) (hx:∀ i:Nat,i < xs.length → numOk (nth xs i)):FnR Tryz.prog 116 [.v (.im xs.length (flat xs))] (.v (.str (varsS xs))):=by
  refine FnW.of_AW TryzT_ok 0 (fn:=Tryz.f116) (by kernel_rfl) rfl (by kernel_rfl) rfl rfl rfl ?_; refine AW_of h116 TryzT_ok (by kernel_rfl) ?_
  simp -dsimp
  refine AWh_loop (fun i:Nat => i ≤ xs.length) (fun i => mkE [(0,.c (.im xs.length (flat xs))),(3,.c (.str (catN (varsF xs) i))),(4,.c (.int .i64 i))] []) (fun i => xs.length - i) 0 (Wk_to [0,3,4] [] rfl rfl (by simp [catN])) (by simp) ?_
  rintro i hi
  have hs:(catN (varsF xs) i).size ≤ i * 5:=catN_size fun j hj => varS_five (hx j (by omega)).2
  refine AW_of h116 TryzT_ok (by kernel_rfl) ?_
  rcases Nat.lt_or_ge i xs.length with h1 | h1
  · have h5:=varS_five (hx i h1).2
    simp -dsimp [h1,ne_of_lt h1]
    refine ACallK_of (f126_ok _ (hx i h1).1 (hx i h1).2) ?_
    simp -dsimp
    refine ⟨by simp [capMax]; omega,?_⟩
    exact Back_of (i + 1) [0,3,4] [] rfl rfl (by simp [catN,varsF]; rw [wrap64 (by omega) (by omega)]) (by omega) (by omega)
  · obtain rfl:i = xs.length:=by omega
    simp -dsimp
    rfl
@[simp] def h127:Hts:={ dr:=fun id => if id = 1 then [{},{},{ cr:=true },{ mb:=[5] },{ mb:=[5] },{ cr:=true },{},{}] else [] }
theorem f127_ok (d:GDot) (h1:numOk d.rep) (h2:numOk d.seq):FnR Tryz.prog 127 [.agg [.int .i64 d.rep,.int .i64 d.seq]] (.v (.str (dotS d))):=by
  have s1:=varS_five h1.2
  have s2:=varS_five h2.2
  refine FnW.of_AW TryzT_ok 0 (fn:=Tryz.f127) (by kernel_rfl) rfl (by kernel_rfl) rfl rfl rfl ?_; refine AW_of h127 TryzT_ok (by kernel_rfl) ?_
  simp -dsimp
  refine ACallK_of (f126_ok _ h1.1 h1.2) ?_
  simp -dsimp
  refine ACallK_of (f126_ok _ h2.1 h2.2) ?_
  simp -dsimp
  exact ⟨by simp [capMax]; omega,rfl⟩
@[simp] def h47:Hts:={  }
theorem f47_ok (d:GDot) (h1:numOk d.rep) (h2:numOk d.seq):FnR Tryz.prog 47 [.agg [.int .i64 d.rep,.int .i64 d.seq]] (.v (.str (dotS d))):=by
  refine FnW.of_AW TryzT_ok 0 (fn:=Tryz.f47) (by kernel_rfl) rfl (by kernel_rfl) rfl rfl rfl ?_; refine AW_of h47 TryzT_ok (by kernel_rfl) ?_
  simp -dsimp
  refine ACallK_of (f36_ok [d.rep,d.seq] (by simp) (by
    intro i hi
    match i,hi with
    | 0,_ => exact h1
    | 1,_ => exact h2)) ?_
  simp -dsimp
  exact varsS_two _ _
@[simp] def h160:Hts:={  }
theorem f160_ok (s:ByteArray) (hs:s.size ≤ 20000):FnR Tryz.prog 160 [.v (.str s)] (.tup [.v (.str (shortS s)),.v (.bool true)]):=by
  have h5:(varS s.size).size ≤ 5:=varS_five (by omega)
  have hi:¬ (20000:Int) < s.size:=by omega
  have hj:(s.size:Int) ≤ 20000:=by omega
  refine FnW.of_AW TryzT_ok 0 (fn:=Tryz.f160) (by kernel_rfl) rfl (by kernel_rfl) rfl rfl rfl ?_; refine AW_of h160 TryzT_ok (by kernel_rfl) ?_
  simp -dsimp [hi,hj]
  refine ACallK_of (f104_ok _ (by omega) (by omega)) ?_
  simp -dsimp
  exact ⟨by simp [capMax]; omega,rfl⟩
@[simp] def h167:Hts:={  }
theorem f167_ok (s:ByteArray) (hs:s.size ≤ 1000000000):FnR Tryz.prog 167 [.v (.str s)] (.v (.str (shortS s))):=by
  have h5:(varS s.size).size ≤ 5:=varS_five (by omega)
  refine FnW.of_AW TryzT_ok 0 (fn:=Tryz.f167) (by kernel_rfl) rfl (by kernel_rfl) rfl rfl rfl ?_; refine AW_of h167 TryzT_ok (by kernel_rfl) ?_
  simp -dsimp
  refine ACallK_of (f126_ok _ (by omega) (by omega)) ?_
  simp -dsimp
  exact ⟨by simp [capMax]; omega,rfl⟩
@[simp] def h105:Hts:={  }
theorem f105_ok (xs:List ByteArray) (ha:xs.length ≤ 1000000) (hx:∀ i:Nat,i < xs.length → (nth xs i).size ≤ 20000):FnR Tryz.prog 105 [.v (.im xs.length (flat xs))] (.v (.str (shortsS xs))):=by
  have hz:∀ i:Nat,i < xs.length → (shortsF xs i).size ≤ 20005:=fun i hi => by
    have:=hx i hi
    have h5:(varS (nth xs i).size).size ≤ 5:=varS_five (by omega)
    rw [shortsF,shortS,ByteArray.size_append]; omega
  refine FnW.of_AW TryzT_ok 0 (fn:=Tryz.f105) (by kernel_rfl) rfl (by kernel_rfl) rfl rfl rfl ?_; refine AW_of h105 TryzT_ok (by kernel_rfl) ?_
  simp -dsimp
  refine AWh_loop (fun i:Nat => i ≤ xs.length) (fun i => mkE [(3,.c (.str (catN (shortsF xs) i))),(8,.c (.im xs.length (flat xs))),(9,.c (.int .i64 xs.length)),(10,.c (.int .i64 i))] []) (fun i => xs.length - i) 0 (Wk_to [3,8,9,10] [] rfl rfl (by simp [catN])) (by simp) ?_
  rintro i hi
  have hs:(catN (shortsF xs) i).size ≤ i * 20005:=catN_size fun j hj => hz j (by omega)
  refine AW_of h105 TryzT_ok (by kernel_rfl) ?_
  rcases Nat.lt_or_ge i xs.length with h1 | h1
  · have h5:=hz i h1
    simp -dsimp [h1,ne_of_lt h1]
    refine ACallK_of (f160_ok _ (hx i h1)) ?_
    simp -dsimp
    refine ⟨by rw [shortsF] at h5; simp [capMax]; omega,?_⟩
    exact Back_of (i + 1) [3,8,9,10] [] rfl rfl (by simp [catN,shortsF]; rw [wrap64 (by omega) (by omega)]) (by omega) (by omega)
  · obtain rfl:i = xs.length:=by omega
    simp -dsimp
    rfl
@[simp] def h168:Hts:={  }
theorem f168_ok (b:Bool):FnR Tryz.prog 168 [.v (.bool b)] (.v (.str (flagS b))):=by
  refine FnW.of_AW TryzT_ok 0 (fn:=Tryz.f168) (by kernel_rfl) rfl (by kernel_rfl) rfl rfl rfl ?_; refine AW_of h168 TryzT_ok (by kernel_rfl) ?_
  cases b <;> simp -dsimp <;> rfl
@[simp] def h106:Hts:={  }
theorem f106_ok (b:Bool):FnR Tryz.prog 106 [.v (.bool b)] (.v (.str (flagS b))):=by
  refine FnW.of_AW TryzT_ok 0 (fn:=Tryz.f106) (by kernel_rfl) rfl (by kernel_rfl) rfl rfl rfl ?_; refine AW_of h106 TryzT_ok (by kernel_rfl) ?_
  cases b <;> simp -dsimp <;> rfl
end Am
namespace Am
open Go Go.Proofs
open Cel (cells)
set_option maxRecDepth 100000
def xor32 (a b:Int):Int:=IntKind.u32.wrap (BitVec.ofInt 32 a ^^^ BitVec.ofInt 32 b).toNat
@[simp ↓ high] theorem xor_u32 (a b:Int):abits .u32 (BitVec.ofInt IntKind.u32.bits a ^^^ BitVec.ofInt IntKind.u32.bits b) = .int .u32 (xor32 a b):=rfl
def bit1 (s:Int):Int:=if s.tmod 2 = 1 then xor32 (IntKind.u32.wrap (s.tdiv 2)) 3558460437 else IntKind.u32.wrap (s.tdiv 2)
def bitK:Nat → Int → Int
  | 0,s => s
  | k + 1,s => bit1 (bitK k s)
def sumK (t:ByteArray):Nat → Int → Int
  | 0,s => s
  | i + 1,s => bitK 8 (xor32 (sumK t i s) (IntKind.u32.wrap (bt t i)))
def sumMore (s:Int) (t:ByteArray):Int:=sumK t t.size s
@[simp] def h159:Hts:={  }
theorem f159_ok (s:Int) (t:ByteArray) (ht:t.size ≤ 1073741824):FnR Tryz.prog 159 [.v (.int .u32 s),.v (.str t)] (.v (.int .u32 (sumMore s t))):=by
  refine FnW.of_AW TryzT_ok 0 (fn:=Tryz.f159) (by kernel_rfl) rfl (by kernel_rfl) rfl rfl rfl ?_; refine AW_of h159 TryzT_ok (by kernel_rfl) ?_
  simp -dsimp
  refine AWh_loop (fun i:Nat => i ≤ t.size) (fun i => mkE [(0,.c (.int .u32 (sumK t i s))),(1,.c (.str t)),(5,.c (.int .i64 i))] []) (fun i => t.size - i) 0 (Wk_to [0,1,5] [] rfl rfl (by simp [sumK])) (by simp) ?_
  rintro i hi
  refine AW_of h159 TryzT_ok (by kernel_rfl) ?_
  rcases Nat.lt_or_ge i t.size with h1 | h1
  · simp -dsimp [h1,ne_of_lt h1]
    refine AWh_loop (fun k:Nat => k ≤ 8) (fun k => mkE [(0,.c (.int .u32 (bitK k (xor32 (sumK t i s) (IntKind.u32.wrap (bt t i)))))),(1,.c (.str t)),(5,.c (.int .i64 i)),(19,.c (.int .i64 k))] []) (fun k => 8 - k) 0 (Wk_to [0,1,5,19] [] rfl rfl (by simp [bitK,xor_u32])) (by simp) ?_
    rintro k hk
    refine AW_of h159 TryzT_ok (by kernel_rfl) ?_
    rcases Nat.lt_or_ge k 8 with k1 | k1
    · have ki:(k:Int) < 8:=by omega
      simp -dsimp [ki,xor_u32]
      refine ⟨fun h => ?_,fun h => ?_⟩
      · exact Back_of (k + 1) [0,1,5,19] [] rfl rfl (by simp [bitK,bit1,xor_u32,h]; rw [wrap64 (by omega) (by omega)]) (by omega) (by omega)
      · exact Back_of (k + 1) [0,1,5,19] [] rfl rfl (by simp [bitK,bit1,xor_u32,h]; rw [wrap64 (by omega) (by omega)]) (by omega) (by omega)
    · obtain rfl:k = 8:=by omega
      simp -dsimp
      exact Back_of (i + 1) [0,1,5] [] rfl rfl (by simp [sumK]; rw [wrap64 (by omega) (by omega)]) (by omega) (by omega)
  · obtain rfl:i = t.size:=by omega
    simp -dsimp
    rfl
@[simp] def h169:Hts:={  }
theorem f169_ok (s:Int) (t:ByteArray) (ht:t.size ≤ 1073741824):FnR Tryz.prog 169 [.v (.int .u32 s),.v (.str t)] (.v (.int .u32 (sumMore s t))):=by
  refine FnW.of_AW TryzT_ok 0 (fn:=Tryz.f169) (by kernel_rfl) rfl (by kernel_rfl) rfl rfl rfl ?_; refine AW_of h169 TryzT_ok (by kernel_rfl) ?_
  simp -dsimp
  refine AWh_loop (fun i:Nat => i ≤ t.size) (fun i => mkE [(0,.c (.int .u32 (sumK t i s))),(1,.c (.str t)),(5,.c (.int .i64 i))] []) (fun i => t.size - i) 0 (Wk_to [0,1,5] [] rfl rfl (by simp [sumK])) (by simp) ?_
  rintro i hi
  refine AW_of h169 TryzT_ok (by kernel_rfl) ?_
  rcases Nat.lt_or_ge i t.size with h1 | h1
  · simp -dsimp [h1,ne_of_lt h1]
    refine AWh_loop (fun k:Nat => k ≤ 8) (fun k => mkE [(0,.c (.int .u32 (bitK k (xor32 (sumK t i s) (IntKind.u32.wrap (bt t i)))))),(1,.c (.str t)),(5,.c (.int .i64 i)),(6,.c (.int .i64 k))] []) (fun k => 8 - k) 0 (Wk_to [0,1,5,6] [] rfl rfl (by simp [bitK,xor_u32])) (by simp) ?_
    rintro k hk
    refine AW_of h169 TryzT_ok (by kernel_rfl) ?_
    rcases Nat.lt_or_ge k 8 with k1 | k1
    · have ki:(k:Int) < 8:=by omega
      simp -dsimp [ki,xor_u32]
      refine ⟨fun h => ?_,fun h => ?_⟩
      · exact Back_of (k + 1) [0,1,5,6] [] rfl rfl (by simp [bitK,bit1,xor_u32,h]; rw [wrap64 (by omega) (by omega)]) (by omega) (by omega)
      · exact Back_of (k + 1) [0,1,5,6] [] rfl rfl (by simp [bitK,bit1,xor_u32,h]; rw [wrap64 (by omega) (by omega)]) (by omega) (by omega)
    · obtain rfl:k = 8:=by omega
      simp -dsimp
      exact Back_of (i + 1) [0,1,5] [] rfl rfl (by simp [sumK]; rw [wrap64 (by omega) (by omega)]) (by omega) (by omega)
  · obtain rfl:i = t.size:=by omega
    simp -dsimp
    rfl
end Am
namespace Am
open Go Go.Proofs
open Cel (cells)
set_option maxRecDepth 100000
theorem u32_range (x:Int):0 ≤ IntKind.u32.wrap x ∧ IntKind.u32.wrap x < 4294967296:=by
  have h1:IntKind.u32.wrap x = x % 4294967296:=rfl
  omega
theorem xor32_range (a b:Int):0 ≤ xor32 a b ∧ xor32 a b < 4294967296:=u32_range _
theorem bit1_range (s:Int):0 ≤ bit1 s ∧ bit1 s < 4294967296:=by
  unfold bit1
  split
  · exact xor32_range _ _
  · exact u32_range _
theorem bitK_range {s:Int} (h:0 ≤ s ∧ s < 4294967296):∀ k,0 ≤ bitK k s ∧ bitK k s < 4294967296
  | 0 => h
  | k + 1 => bit1_range _
theorem sumK_range {t:ByteArray} {s:Int} (h:0 ≤ s ∧ s < 4294967296):∀ i,0 ≤ sumK t i s ∧ sumK t i s < 4294967296
  | 0 => h
  | i + 1 => bitK_range (xor32_range _ _) 8
def sumOf (t:ByteArray):Int:=sumMore 4294967295 t
theorem sumOf_range (t:ByteArray):0 ≤ sumOf t ∧ sumOf t < 4294967296:=sumK_range (by decide) _
def fourL (s:Int):List UInt8:=[u8 (s / 16777216),u8 (s / 65536),u8 (s / 256),u8 s]
def fourS (s:Int):ByteArray:=str (fourL s)
theorem u8_of (v:Int):UInt8.ofNat (IntKind.u8.wrap v).toNat = u8 v:=by
  rw [u8_wrap]; simp
theorem u8_range (v:Int):0 ≤ IntKind.u8.wrap v ∧ IntKind.u8.wrap v < 256:=by
  have h1:IntKind.u8.wrap v = v % 256:=rfl
  omega
theorem u8_mod (v:Int):u8 (v % 256) = u8 v:=by
  unfold u8; congr 2; omega
@[simp] def h122:Hts:={  }
theorem f122_ok (t:ByteArray) (ht:t.size ≤ 1073741824):FnR Tryz.prog 122 [.v (.str t)] (.v (.int .u32 (sumOf t))):=by
  refine FnW.of_AW TryzT_ok 0 (fn:=Tryz.f122) (by kernel_rfl) rfl (by kernel_rfl) rfl rfl rfl ?_; refine AW_of h122 TryzT_ok (by kernel_rfl) ?_
  simp -dsimp
  refine ACallK_of (f169_ok _ _ ht) ?_
  simp -dsimp
  rfl
@[simp] def h103:Hts:={  }
theorem f103_ok (t:ByteArray) (ht:t.size ≤ 1073741824):FnR Tryz.prog 103 [.v (.str t)] (.v (.int .u32 (sumOf t))):=by
  refine FnW.of_AW TryzT_ok 0 (fn:=Tryz.f103) (by kernel_rfl) rfl (by kernel_rfl) rfl rfl rfl ?_; refine AW_of h103 TryzT_ok (by kernel_rfl) ?_
  simp -dsimp
  refine ACallK_of (f159_ok _ _ ht) ?_
  simp -dsimp
  rfl
@[simp] def h121:Hts:={  }
theorem f121_ok (s:Int) (h0:0 ≤ s) (h1:s < 4294967296):FnR Tryz.prog 121 [.v (.int .u32 s)] (.v (.str (fourS s))):=by
  have e1:s.fdiv (2 ^ min 24 IntKind.u32.bits) = s / 16777216:=Int.fdiv_eq_ediv_of_nonneg _ (by decide)
  have e2:s.fdiv (2 ^ min 16 IntKind.u32.bits) = s / 65536:=Int.fdiv_eq_ediv_of_nonneg _ (by decide)
  have e3:s.fdiv (2 ^ min 8 IntKind.u32.bits) = s / 256:=Int.fdiv_eq_ediv_of_nonneg _ (by decide)
  refine FnW.of_AW TryzT_ok 0 (fn:=Tryz.f121) (by kernel_rfl) rfl (by kernel_rfl) rfl rfl rfl ?_; refine AW_of h121 TryzT_ok (by kernel_rfl) ?_
  simp -dsimp [e1,e2,e3]
  refine ⟨⟨u8_range _,u8_range _,u8_range _,u8_range _,trivial⟩,?_⟩
  simp only [bytesOf,u8_of]
  rfl
def and64 (a b:Int):Int:=IntKind.i64.wrap (BitVec.ofInt 64 a &&& BitVec.ofInt 64 b).toNat
@[simp ↓ high] theorem and_i64 (a b:Int):abits .i64 (BitVec.ofInt IntKind.i64.bits a &&& BitVec.ofInt IntKind.i64.bits b) = .int .i64 (and64 a b):=rfl
theorem and_255 {a:Int} (h:0 ≤ a) (h':a < 9223372036854775808):and64 a 255 = a % 256:=by
  obtain ⟨n,rfl⟩:=Int.eq_ofNat_of_zero_le h
  unfold and64
  have e:(BitVec.ofInt 64 (n:Int) &&& BitVec.ofInt 64 255).toNat = n % 256:=by
    rw [BitVec.toNat_and]
    have e1:(BitVec.ofInt 64 (n:Int)).toNat = n:=by
      rw [BitVec.ofInt_natCast,BitVec.toNat_ofNat]; omega
    have e2:(BitVec.ofInt 64 255).toNat = 255:=by decide
    rw [e1,e2]
    exact Nat.and_two_pow_sub_one_eq_mod n 8
  rw [e,wrap64 (by omega) (by omega)]
  omega
def hfL (s:Int):Nat → List UInt8
  | 0 => List.replicate 4 0
  | j + 1 => (hfL s j).set (3 - j) (u8 (s / 256 ^ j))
theorem hfL_len (s:Int):∀ j,(hfL s j).length = 4
  | 0 => rfl
  | j + 1 => by rw [hfL,List.length_set,hfL_len s j]
theorem hfL_four (s:Int):hfL s 4 = fourL s:=by
  simp [hfL,fourL,List.replicate]
@[simp] def h102:Hts:={  }
theorem f102_ok (s:Int) (h0:0 ≤ s) (h1:s < 4294967296):FnR Tryz.prog 102 [.v (.int .i64 s),.v (.int .i64 4)] (.v (.str (fourS s))):=by
  refine FnW.of_AW TryzT_ok 0 (fn:=Tryz.f102) (by kernel_rfl) rfl (by kernel_rfl) rfl rfl rfl ?_; refine AW_of h102 TryzT_ok (by kernel_rfl) ?_
  simp -dsimp
  refine ⟨by decide,?_⟩
  refine AWh_loop (fun j:Nat => j ≤ 4) (fun j => mkE [(0,.c (.int .i64 (s / 256 ^ j))),(5,.arr 512),(6,.c (.int .i64 (3 - j)))] [(512,.arr 0 5 1 4 (flat (hfL s j)))]) (fun j => 4 - j) 0 (Wk_to [0,5,6] [(512,512)] rfl rfl (by simp [hfL]; rfl)) (by simp) ?_
  rintro j hj
  have hl:=hfL_len s j
  refine AW_of h102 TryzT_ok (by kernel_rfl) ?_
  have d1:0 ≤ s / 256 ^ j:=Int.ediv_nonneg h0 (Int.pow_nonneg (by decide))
  have d2:s / 256 ^ j ≤ s:=Int.ediv_le_self _ h0
  rcases Nat.lt_or_ge j 4 with k1 | k1
  · have t1:((3:Int) - j).toNat = 3 - j:=by omega
    have hk:(j:Int) ≤ 3:=by omega
    have hm:3 - j < (hfL s j).length:=by omega
    have ha:and64 (s / 256 ^ j) 255 = s / 256 ^ j % 256:=and_255 d1 (by omega)
    have hs:(s / 256 ^ j).fdiv (2 ^ min 8 IntKind.i64.bits) = s / 256 ^ (j + 1):=by
      rw [Int.pow_succ,← Int.ediv_ediv_of_nonneg (Int.pow_nonneg (by decide))]
      exact Int.fdiv_eq_ediv_of_nonneg _ (by decide)
    have hw:IntKind.i64.wrap ((3:Int) - j - 1) = 3 - ((j + 1:Nat):Int):=by rw [wrap64 (by omega) (by omega)]; omega
    simp -dsimp [hk,t1,ha,hm]
    refine ⟨by omega,by omega,?_⟩
    exact Back_of (j + 1) [0,5,6] [(512,512)] rfl rfl (by simp only [hfL,u8_mod,hs,hw]; rfl) (by omega) (by omega)
  · obtain rfl:j = 4:=by omega
    simp -dsimp [hfL_four]
    simp [fourS,str,fourL]
end Am
