/- What an act does to lists: of both. No condition. -/
import Derived.Test.YteidfkbfocdnmaaGreatT
import Derived.Test.YteidfkbfocdnmaaGreatD
import Derived.Test.YteidfkbfocdnmaaGreatE56
import Derived.Test.YteidfkbfocdnmaaGreatE16
import Derived.Test.YteidfkbfocdnmaaGreatE64
import Derived.Test.YteidfkbfocdnmaaGreatAm31
set_option linter.unusedSimpArgs false
set_option linter.unusedVariables false
set_option linter.unnecessarySimpa false
set_option linter.unusedSectionVars false
namespace Am
open Go Go.Proofs
open Cel (cells)
set_option maxRecDepth 100000
theorem insF_at {α : Type} [Cel α] {lt : α → α → Bool} (hL : Lt lt) {x : α} {l : List α} {i : Nat} (hi : i ≤ l.length) (h1 : ∀ k : Nat,k < i → lt (nth l k) x = true) (h2 : i < l.length → lt (nth l i) x = false) (hn : ∀ k : Nat,k < l.length → lt (nth l k) x = false → lt x (nth l k) = true) : l.take i ++ x :: l.drop i = insF lt x l := by
  obtain ⟨j,hj,e,h3,h4⟩ := insF_spec (lt := lt) x l
  rw [e]
  rcases Nat.lt_trichotomy i j with h | h | h
  · have a1 := h2 (by omega)
    have a2 := hn i (by omega) a1
    rw [h4 i h] at a2; cases a2
  · rw [h]
  · have a1 := h1 j h
    have a2 := h3 (by omega)
    rw [hL.asym _ _ a2] at a1; cases a1
@[simp] def h334 : Hts := { merge := fun _ => false,mergeF := fun _ => false,dr := fun id => if id = 2 then [{},{},{},{},{},{},{},{},{},{},{},{},{ cr := true },{},{}] else if id = 4 then [{ cr := true,mb := [27,30] },{ mb := [24,30] },{ mb := [24,30] },{ cr := true,mb := [24,30] },{ wr := [1536],cr := true,mb := [30] },{ mn := [1536],mb := [24,27,28] },{ mn := [1536],cr := true,mb := [24,27,28] },{ wr := [1792],cr := true },{}] else [] }
set_option maxHeartbeats 2000000 in
theorem f334_ok (l : List GLive) (x : GLive) (ha : l.length ≤ 1000000) (hx : ∀ y,y ∈ l → y.dot ≠ x.dot) : FnR Tryz.prog 334 [.v (.im l.length (flat l)),.agg [.bool x.map,.str x.obj,.str x.key,.int .i64 x.val,.int .i64 x.dot.rep,.int .i64 x.dot.seq]] (.v (.ow 159 6 (insF liveLt x l).length (flat (insF liveLt x l)))) := by
  refine FnW.of_AW TryzT_ok 0 (fn := Tryz.f334) (by kernel_rfl) rfl (by kernel_rfl) rfl rfl rfl ?_; refine AW_of h334 TryzT_ok (by kernel_rfl) ?_
  simp -dsimp
  refine AWh_loop (fun i : Nat => i ≤ l.length ∧ ∀ k : Nat,k < i → liveLt (nth l k) x = true) (fun i => mkE [(0,.c (.im l.length (flat l))),(3,.box 192 0),(5,.c (.int .i64 i))] [(192,.box [.c (.bool x.map),.c (.str x.obj),.c (.str x.key),.c (.int .i64 x.val),.c (.int .i64 x.dot.rep),.c (.int .i64 x.dot.seq)])]) (fun i => l.length - i) 0 (Wk_to [0,3,5] [(192,192)] rfl rfl (by simp)) (by simp) ?_
  rintro i ⟨hi,hall⟩
  have hn : ∀ k : Nat,k < l.length → liveLt (nth l k) x = false → liveLt x (nth l k) = true := fun k hk h => before_ne (hx _ (nth_mem hk)) h
  have hft : List.take (i * 6) (flat l) = flat (l.take i) := flat_take l i
  have hfd : List.drop (i * 6) (flat l) = flat (l.drop i) := flat_drop l i
  refine AW_of h334 TryzT_ok (by kernel_rfl) ?_
  rcases Nat.lt_or_ge i l.length with h1 | h1
  · simp -dsimp [h1,ne_of_lt h1]
    repeat (first|refine ⟨by omega,?_⟩|refine ⟨by simp [capMax];omega,?_⟩|refine ⟨⟨by omega,by omega⟩,?_⟩)
    refine ACallK_of (f266_ok _ _) ?_
    have hb := before_cmp (nth l i).dot x.dot
    by_cases g : cmpDot (nth l i).dot x.dot < 0
    · have hlt : liveLt (nth l i) x = true := by simp only [liveLt]; rw [hb]; simp [g]
      simp -dsimp [h1,ne_of_lt h1,g]
      repeat (first|refine ⟨by omega,?_⟩|refine ⟨by simp [capMax];omega,?_⟩|refine ⟨⟨by omega,by omega⟩,?_⟩)
      exact Back_of (i + 1) [0,3,5] [(192,192)] rfl rfl (by simp; rw [wrap64 (by omega) (by omega)]) ⟨by omega,fun k hk => by
        by_cases e : k = i
        · subst e; exact hlt
        · exact hall k (by omega)⟩ (by omega)
    · have hlt : liveLt (nth l i) x = false := by simp only [liveLt]; rw [hb]; simp [g]
      have he := insF_at liveLt_Lt (x := x) hi hall (fun _ => hlt) hn
      simp -dsimp [h1,ne_of_lt h1,g,hft,hfd]
      repeat (first|refine ⟨by omega,?_⟩|refine ⟨by simp [capMax];omega,?_⟩|refine ⟨⟨by omega,by omega⟩,?_⟩)
      have hfd2 : List.take ((l.length - i) * 6) (flat (l.drop i)) = flat (l.drop i) := by
        have h := flat_take (l.drop i) (l.length - i)
        have e := List.take_of_length_le (i := l.length - i) (l := l.drop i) (by simp)
        rw [e] at h
        exact h
      rw [← he,hfd2,← flat_append]
      exact ⟨by simp; omega,by simp⟩
  · obtain rfl : i = l.length := by omega
    have he := insF_at liveLt_Lt (x := x) hi hall (fun h => absurd h (by omega)) hn
    simp -dsimp [hft,hfd]
    repeat (first|refine ⟨by omega,?_⟩|refine ⟨by simp [capMax];omega,?_⟩|refine ⟨⟨by omega,by omega⟩,?_⟩)
    rw [← he]
    simp
@[simp] def h336 : Hts := { merge := fun _ => false,mergeF := fun _ => false,dr := fun id => if id = 2 then [{},{},{},{},{},{},{},{},{},{},{},{},{ cr := true },{},{}] else if id = 4 then [{ cr := true,mb := [27,30] },{ mb := [24,30] },{ mb := [24,30] },{ cr := true,mb := [24,30] },{ wr := [1536],cr := true,mb := [30] },{ mn := [1536],mb := [24,27,28] },{ mn := [1536],cr := true,mb := [24,27,28] },{ wr := [1792],cr := true },{}] else [] }
set_option maxHeartbeats 2000000 in
theorem f336_ok (l : List GCell) (x : GCell) (ha : l.length ≤ 1000000) (hx : ∀ y,y ∈ l → y.dot ≠ x.dot) : FnR Tryz.prog 336 [.v (.im l.length (flat l)),.agg [.str x.obj,.int .i64 x.dot.rep,.int .i64 x.dot.seq,.int .i64 x.time,.int .i64 x.ref.rep,.int .i64 x.ref.seq,.int .i64 x.val,.bool x.gone]] (.v (.ow 72 8 (insF cellLt x l).length (flat (insF cellLt x l)))) := by
  refine FnW.of_AW TryzT_ok 0 (fn := Tryz.f336) (by kernel_rfl) rfl (by kernel_rfl) rfl rfl rfl ?_; refine AW_of h336 TryzT_ok (by kernel_rfl) ?_
  simp -dsimp
  refine AWh_loop (fun i : Nat => i ≤ l.length ∧ ∀ k : Nat,k < i → cellLt (nth l k) x = true) (fun i => mkE [(0,.c (.im l.length (flat l))),(3,.box 192 0),(5,.c (.int .i64 i))] [(192,.box [.c (.str x.obj),.c (.int .i64 x.dot.rep),.c (.int .i64 x.dot.seq),.c (.int .i64 x.time),.c (.int .i64 x.ref.rep),.c (.int .i64 x.ref.seq),.c (.int .i64 x.val),.c (.bool x.gone)])]) (fun i => l.length - i) 0 (Wk_to [0,3,5] [(192,192)] rfl rfl (by simp)) (by simp) ?_
  rintro i ⟨hi,hall⟩
  have hn : ∀ k : Nat,k < l.length → cellLt (nth l k) x = false → cellLt x (nth l k) = true := fun k hk h => before_ne (hx _ (nth_mem hk)) h
  have hft : List.take (i * 8) (flat l) = flat (l.take i) := flat_take l i
  have hfd : List.drop (i * 8) (flat l) = flat (l.drop i) := flat_drop l i
  refine AW_of h336 TryzT_ok (by kernel_rfl) ?_
  rcases Nat.lt_or_ge i l.length with h1 | h1
  · simp -dsimp [h1,ne_of_lt h1]
    repeat (first|refine ⟨by omega,?_⟩|refine ⟨by simp [capMax];omega,?_⟩|refine ⟨⟨by omega,by omega⟩,?_⟩)
    refine ACallK_of (f266_ok _ _) ?_
    have hb := before_cmp (nth l i).dot x.dot
    by_cases g : cmpDot (nth l i).dot x.dot < 0
    · have hlt : cellLt (nth l i) x = true := by simp only [cellLt]; rw [hb]; simp [g]
      simp -dsimp [h1,ne_of_lt h1,g]
      repeat (first|refine ⟨by omega,?_⟩|refine ⟨by simp [capMax];omega,?_⟩|refine ⟨⟨by omega,by omega⟩,?_⟩)
      exact Back_of (i + 1) [0,3,5] [(192,192)] rfl rfl (by simp; rw [wrap64 (by omega) (by omega)]) ⟨by omega,fun k hk => by
        by_cases e : k = i
        · subst e; exact hlt
        · exact hall k (by omega)⟩ (by omega)
    · have hlt : cellLt (nth l i) x = false := by simp only [cellLt]; rw [hb]; simp [g]
      have he := insF_at cellLt_Lt (x := x) hi hall (fun _ => hlt) hn
      simp -dsimp [h1,ne_of_lt h1,g,hft,hfd]
      repeat (first|refine ⟨by omega,?_⟩|refine ⟨by simp [capMax];omega,?_⟩|refine ⟨⟨by omega,by omega⟩,?_⟩)
      have hfd2 : List.take ((l.length - i) * 8) (flat (l.drop i)) = flat (l.drop i) := by
        have h := flat_take (l.drop i) (l.length - i)
        have e := List.take_of_length_le (i := l.length - i) (l := l.drop i) (by simp)
        rw [e] at h
        exact h
      rw [← he,hfd2,← flat_append]
      exact ⟨by simp; omega,by simp⟩
  · obtain rfl : i = l.length := by omega
    have he := insF_at cellLt_Lt (x := x) hi hall (fun h => absurd h (by omega)) hn
    simp -dsimp [hft,hfd]
    repeat (first|refine ⟨by omega,?_⟩|refine ⟨by simp [capMax];omega,?_⟩|refine ⟨⟨by omega,by omega⟩,?_⟩)
    rw [← he]
    simp
def keepK (m : Bool) (o k : ByteArray) (kn : List Int) (x : GLive) : Bool := !((x.map == m) && (decide (x.obj = o) && (decide (x.key = k) && knows kn x.dot)))
def clearK (m : Bool) (o k : ByteArray) (kn : List Int) (l : List GLive) (i : Nat) : List GLive := filK (keepK m o k kn) [] l i
theorem clearK_len (m : Bool) (o k : ByteArray) (kn : List Int) (l : List GLive) (i : Nat) : (clearK m o k kn l i).length ≤ i := by
  have := filK_len (keepK m o k kn) [] l i
  simpa [clearK] using this
@[simp] def h335 : Hts := { merge := fun _ => false,mergeF := fun _ => false }
set_option maxHeartbeats 4000000 in
theorem f335_ok (l : List GLive) (m : Bool) (a : GAct) (ha : l.length ≤ 1000000) (hk : a.knew.length ≤ 1073741824) : FnR Tryz.prog 335 [.v (.im l.length (flat l)),.v (.bool m),.agg [.int .i64 a.dot.rep,.int .i64 a.dot.seq,.int .i64 a.time,.im a.knew.length (flat a.knew),.int .i64 a.kind,.str a.obj,.str a.key,.int .i64 a.val,.int .i64 a.ref.rep,.int .i64 a.ref.seq]] (.v (.ow 159 6 (clearK m a.obj a.key a.knew l l.length).length (flat (clearK m a.obj a.key a.knew l l.length)))) := by
  refine FnW.of_AW TryzT_ok 0 (fn := Tryz.f335) (by kernel_rfl) rfl (by kernel_rfl) rfl rfl rfl ?_; refine AW_of h335 TryzT_ok (by kernel_rfl) ?_
  simp -dsimp
  refine AWh_loop (fun i : Nat => i ≤ l.length) (fun i => mkE [(1,.c (.bool m)),(5,.box 320 0),(7,.arr 900001),(11,.c (.im l.length (flat l))),(12,.c (.int .i64 l.length)),(13,.c (.int .i64 i))] [(900001,.arr 0 159 6 (clearK m a.obj a.key a.knew l i).length (flat (clearK m a.obj a.key a.knew l i))),(320,.box [.c (.int .i64 a.dot.rep),.c (.int .i64 a.dot.seq),.c (.int .i64 a.time),.c (.im a.knew.length (flat a.knew)),.c (.int .i64 a.kind),.c (.str a.obj),.c (.str a.key),.c (.int .i64 a.val),.c (.int .i64 a.ref.rep),.c (.int .i64 a.ref.seq)])]) (fun i => l.length - i) 0 (Wk_to [1,5,7,11,12,13] [(900001,640),(320,320)] rfl rfl (by simp [clearK,filK])) (by simp) ?_
  rintro i hi
  have hcl := clearK_len m a.obj a.key a.knew l i
  refine AW_of h335 TryzT_ok (by kernel_rfl) ?_
  rcases Nat.lt_or_ge i l.length with h1 | h1
  · by_cases e1 : (nth l i).map = m
    case neg =>
      have b1 : ((nth l i).map != m) = true := by simp [e1]
      have b2 : ((nth l i).map ^^ m) = true := by revert e1; cases (nth l i).map <;> cases m <;> simp
      have b3 : ((nth l i).map == m) = false := by simp [e1]
      have hn : (clearK m a.obj a.key a.knew l (i + 1)) = (clearK m a.obj a.key a.knew l i) ++ [nth l i] := by simp [clearK,filK,keepK,e1]
      simp -dsimp [h1,ne_of_lt h1,b1,b2,b3]
      repeat (first|refine ⟨by omega,?_⟩|refine ⟨by simp [capMax];omega,?_⟩|refine ⟨⟨by omega,by omega⟩,?_⟩)
      exact Back_of (i + 1) [1,5,7,11,12,13] [(900001,2944),(320,320)] rfl rfl (by simp [hn]; rw [wrap64 (by omega) (by omega)]) (by omega) (by omega)
    have b1 : ((nth l i).map != m) = false := by simp [e1]
    have b2 : ((nth l i).map ^^ m) = false := by rw [e1]; cases m <;> rfl
    have b3 : ((nth l i).map == m) = true := by simp [e1]
    by_cases e2 : (nth l i).obj = a.obj
    case neg =>
      have hn : (clearK m a.obj a.key a.knew l (i + 1)) = (clearK m a.obj a.key a.knew l i) ++ [nth l i] := by simp [clearK,filK,keepK,e2]
      simp -dsimp [h1,ne_of_lt h1,b1,b2,b3,e2]
      repeat (first|refine ⟨by omega,?_⟩|refine ⟨by simp [capMax];omega,?_⟩|refine ⟨⟨by omega,by omega⟩,?_⟩)
      exact Back_of (i + 1) [1,5,7,11,12,13] [(900001,2944),(320,320)] rfl rfl (by simp [hn]; rw [wrap64 (by omega) (by omega)]) (by omega) (by omega)
    by_cases e3 : (nth l i).key = a.key
    case neg =>
      have hn : (clearK m a.obj a.key a.knew l (i + 1)) = (clearK m a.obj a.key a.knew l i) ++ [nth l i] := by simp [clearK,filK,keepK,e3]
      simp -dsimp [h1,ne_of_lt h1,b1,b2,b3,eq_true e2,e3]
      repeat (first|refine ⟨by omega,?_⟩|refine ⟨by simp [capMax];omega,?_⟩|refine ⟨⟨by omega,by omega⟩,?_⟩)
      exact Back_of (i + 1) [1,5,7,11,12,13] [(900001,2944),(320,320)] rfl rfl (by simp [hn]; rw [wrap64 (by omega) (by omega)]) (by omega) (by omega)
    simp -dsimp [h1,ne_of_lt h1,b1,b2,b3,eq_true e2,eq_true e3]
    repeat (first|refine ⟨by omega,?_⟩|refine ⟨by simp [capMax];omega,?_⟩|refine ⟨⟨by omega,by omega⟩,?_⟩)
    refine ACallK_of (f125_ok _ _ hk) ?_
    cases g : knows a.knew (nth l i).dot
    · skip
      have hn : (clearK m a.obj a.key a.knew l (i + 1)) = (clearK m a.obj a.key a.knew l i) ++ [nth l i] := by simp [clearK,filK,keepK,g]
      simp -dsimp [h1,ne_of_lt h1,b1,b2,b3]
      repeat (first|refine ⟨by omega,?_⟩|refine ⟨by simp [capMax];omega,?_⟩|refine ⟨⟨by omega,by omega⟩,?_⟩)
      exact Back_of (i + 1) [1,5,7,11,12,13] [(900001,2944),(320,320)] rfl rfl (by simp [hn]; rw [wrap64 (by omega) (by omega)]) (by omega) (by omega)
    · skip
      have hn : (clearK m a.obj a.key a.knew l (i + 1)) = (clearK m a.obj a.key a.knew l i) := by simp [clearK,filK,keepK,e1,e2,e3,g]
      simp -dsimp [h1,ne_of_lt h1,b1,b2,b3]
      repeat (first|refine ⟨by omega,?_⟩|refine ⟨by simp [capMax];omega,?_⟩|refine ⟨⟨by omega,by omega⟩,?_⟩)
      exact Back_of (i + 1) [1,5,7,11,12,13] [(900001,900001),(320,320)] rfl rfl (by simp [hn]; rw [wrap64 (by omega) (by omega)]) (by omega) (by omega)
  · obtain rfl : i = l.length := by omega
    simp -dsimp
@[simp] def h287 : Hts := { merge := fun _ => false,mergeF := fun _ => false }
set_option maxHeartbeats 4000000 in
theorem f287_ok (u0 u1 u3 : Value) (l : List GLive) (m : Bool) (o k : ByteArray) (kn : List Int) (ha : l.length ≤ 1000000) (hk : kn.length ≤ 1073741824) : FnW Tryz.prog 287 [.ptr [.tk u0,.tk u1,.ow 159 6 l.length (flat l),.tk u3],.v (.bool m),.v (.str o),.v (.str k),.v (.im kn.length (flat kn))] (.tup []) [.ptr [.tk u0,.tk u1,.ow 159 6 (clearK m o k kn l l.length).length (flat (clearK m o k kn l l.length)),.tk u3],.any,.any,.any,.any] := by
  refine FnW.of_AW TryzT_ok 1 (fn := Tryz.f287) (by kernel_rfl) rfl (by kernel_rfl) rfl rfl rfl ?_; refine AW_of h287 TryzT_ok (by kernel_rfl) ?_
  simp -dsimp
  refine AWh_loop (fun i : Nat => i ≤ l.length) (fun i => mkE [(0,.box 640000 0),(1,.c (.bool m)),(2,.c (.str o)),(3,.c (.str k)),(4,.c (.im kn.length (flat kn))),(10,.arr 900001),(11,.c (.int .i64 i))] [(900001,.arr 0 159 6 (clearK m o k kn l i).length (flat (clearK m o k kn l i))),(640000,.box [.c (.tk u0),.c (.tk u1),.arr 640003,.c (.tk u3)]),(640003,.arr 0 159 6 l.length (flat l))]) (fun i => l.length - i) 0 (Wk_to [0,1,2,3,4,10,11] [(900001,832),(640000,640000),(640003,640003)] rfl rfl (by simp [clearK,filK])) (by simp) ?_
  rintro i hi
  have hcl := clearK_len m o k kn l i
  refine AW_of h287 TryzT_ok (by kernel_rfl) ?_
  rcases Nat.lt_or_ge i l.length with h1 | h1
  · by_cases e1 : (nth l i).map = m
    case neg =>
      have b1 : ((nth l i).map != m) = true := by simp [e1]
      have b2 : ((nth l i).map ^^ m) = true := by revert e1; cases (nth l i).map <;> cases m <;> simp
      have b3 : ((nth l i).map == m) = false := by simp [e1]
      have hn : (clearK m o k kn l (i + 1)) = (clearK m o k kn l i) ++ [nth l i] := by simp [clearK,filK,keepK,e1]
      simp -dsimp [h1,ne_of_lt h1,b1,b2,b3]
      repeat (first|refine ⟨by omega,?_⟩|refine ⟨by simp [capMax];omega,?_⟩|refine ⟨⟨by omega,by omega⟩,?_⟩)
      exact Back_of (i + 1) [0,1,2,3,4,10,11] [(900001,3584),(640000,640000),(640003,640003)] rfl rfl (by simp [hn]; rw [wrap64 (by omega) (by omega)]) (by omega) (by omega)
    have b1 : ((nth l i).map != m) = false := by simp [e1]
    have b2 : ((nth l i).map ^^ m) = false := by rw [e1]; cases m <;> rfl
    have b3 : ((nth l i).map == m) = true := by simp [e1]
    by_cases e2 : (nth l i).obj = o
    case neg =>
      have hn : (clearK m o k kn l (i + 1)) = (clearK m o k kn l i) ++ [nth l i] := by simp [clearK,filK,keepK,e2]
      simp -dsimp [h1,ne_of_lt h1,b1,b2,b3,e2]
      repeat (first|refine ⟨by omega,?_⟩|refine ⟨by simp [capMax];omega,?_⟩|refine ⟨⟨by omega,by omega⟩,?_⟩)
      exact Back_of (i + 1) [0,1,2,3,4,10,11] [(900001,3584),(640000,640000),(640003,640003)] rfl rfl (by simp [hn]; rw [wrap64 (by omega) (by omega)]) (by omega) (by omega)
    by_cases e3 : (nth l i).key = k
    case neg =>
      have hn : (clearK m o k kn l (i + 1)) = (clearK m o k kn l i) ++ [nth l i] := by simp [clearK,filK,keepK,e3]
      simp -dsimp [h1,ne_of_lt h1,b1,b2,b3,eq_true e2,e3]
      repeat (first|refine ⟨by omega,?_⟩|refine ⟨by simp [capMax];omega,?_⟩|refine ⟨⟨by omega,by omega⟩,?_⟩)
      exact Back_of (i + 1) [0,1,2,3,4,10,11] [(900001,3584),(640000,640000),(640003,640003)] rfl rfl (by simp [hn]; rw [wrap64 (by omega) (by omega)]) (by omega) (by omega)
    simp -dsimp [h1,ne_of_lt h1,b1,b2,b3,eq_true e2,eq_true e3]
    repeat (first|refine ⟨by omega,?_⟩|refine ⟨by simp [capMax];omega,?_⟩|refine ⟨⟨by omega,by omega⟩,?_⟩)
    refine ACallK_of (f17_ok _ _ hk) ?_
    cases g : knows kn (nth l i).dot
    · skip
      have hn : (clearK m o k kn l (i + 1)) = (clearK m o k kn l i) ++ [nth l i] := by simp [clearK,filK,keepK,g]
      simp -dsimp [h1,ne_of_lt h1,b1,b2,b3]
      repeat (first|refine ⟨by omega,?_⟩|refine ⟨by simp [capMax];omega,?_⟩|refine ⟨⟨by omega,by omega⟩,?_⟩)
      exact Back_of (i + 1) [0,1,2,3,4,10,11] [(900001,3584),(640000,640000),(640003,640003)] rfl rfl (by simp [hn]; rw [wrap64 (by omega) (by omega)]) (by omega) (by omega)
    · skip
      have hn : (clearK m o k kn l (i + 1)) = (clearK m o k kn l i) := by simp [clearK,filK,keepK,e1,e2,e3,g]
      simp -dsimp [h1,ne_of_lt h1,b1,b2,b3]
      repeat (first|refine ⟨by omega,?_⟩|refine ⟨by simp [capMax];omega,?_⟩|refine ⟨⟨by omega,by omega⟩,?_⟩)
      exact Back_of (i + 1) [0,1,2,3,4,10,11] [(900001,900001),(640000,640000),(640003,640003)] rfl rfl (by simp [hn]; rw [wrap64 (by omega) (by omega)]) (by omega) (by omega)
  · obtain rfl : i = l.length := by omega
    simp -dsimp
end Am
namespace Am
open Go Go.Proofs
open Cel (cells)
set_option maxRecDepth 100000
theorem cmpTally_zero (a b : GTally) : cmpTally a b = 0 ↔ talIs b.obj b.rep a = true := by
  simp only [cmpTally,orInt,cmpStr,cmpInt,talIs,Bool.and_eq_true,decide_eq_true_eq,beq_iff_eq]
  by_cases h1 : strLt a.obj b.obj = true
  · have e : a.obj ≠ b.obj := fun e => by rw [e,strLt_self] at h1; cases h1
    simp [e,h1]
  · by_cases h2 : strLt b.obj a.obj = true
    · have e : a.obj ≠ b.obj := fun e => by rw [e,strLt_self] at h2; cases h2
      simp [e,h1,h2]
    · have e := strLt_tri (by simpa using h1) (by simpa using h2)
      simp [e,strLt_self]
      by_cases h3 : a.rep < b.rep
      · simp [h3]; omega
      · by_cases h4 : b.rep < a.rep
        · simp [h3,h4]; omega
        · simp [h3,h4]; omega
theorem addT_in {l : List GTally} {o : ByteArray} {r v : Int} {i : Nat} (hi : i < l.length) (h1 : ∀ k : Nat,k < i → tallyLt (nth l k) ⟨o,r,0⟩ = true) (h2 : talIs o r (nth l i) = true) :
    addT l o r v = l.take i ++ ⟨o,r,(IntKind.i64.wrap ((nth l i).sum + v)).tmod 1000000⟩ :: l.drop (i + 1) := by
  have hx : idx (talIs o r) l = i := idx_here hi (fun j hj => by
    cases e : talIs o r (nth l j)
    · rfl
    · have h3 := h1 j hj
      simp only [talIs,Bool.and_eq_true,decide_eq_true_eq,beq_iff_eq] at e
      simp only [tallyLt,e.1,e.2,strLt_self,Int.lt_irrefl,decide_false,Bool.and_false,Bool.or_self] at h3
      cases h3) h2
  unfold addT
  rw [hx,if_pos (by omega)]
  simp only [Int.toNat_natCast]
  rw [List.set_eq_take_append_cons_drop,if_pos hi]
theorem addT_out {l : List GTally} (hs : l.Pairwise fun a b => tallyLt a b = true) {o : ByteArray} {r v : Int} {i : Nat} (hi : i ≤ l.length) (h1 : ∀ k : Nat,k < i → tallyLt (nth l k) ⟨o,r,0⟩ = true) (h2 : i < l.length → tallyLt (nth l i) ⟨o,r,0⟩ = false) (h3 : i < l.length → talIs o r (nth l i) = false) :
    addT l o r v = l.take i ++ ⟨o,r,v⟩ :: l.drop i := by
  have same : ∀ x : GTally,tallyLt x ⟨o,r,0⟩ = tallyLt x ⟨o,r,v⟩ := fun x => rfl
  have same2 : ∀ x : GTally,tallyLt ⟨o,r,0⟩ x = tallyLt ⟨o,r,v⟩ x := fun x => rfl
  have no : ∀ k : Nat,k < l.length → talIs o r (nth l k) = false := by
    intro k hk
    cases e : talIs o r (nth l k)
    · rfl
    · exfalso
      have e2 := e
      simp only [talIs,Bool.and_eq_true,decide_eq_true_eq,beq_iff_eq] at e2
      rcases Nat.lt_trichotomy k i with h | h | h
      · have h4 := h1 k h
        simp only [tallyLt,e2.1,e2.2,strLt_self,Int.lt_irrefl,decide_false,Bool.and_false,Bool.or_self] at h4
        cases h4
      · subst h
        rw [h3 hk] at e; cases e
      · have h4 := pw_nth hs h hk
        have h5 := h2 (by omega)
        simp only [tallyLt,e2.1,e2.2] at h4
        simp only [tallyLt] at h5
        rw [h5] at h4; cases h4
  have hx : idx (talIs o r) l = -1 := idx_none no
  unfold addT
  rw [hx,if_neg (by omega)]
  refine (insF_at (x := (⟨o,r,v⟩ : GTally)) tallyLt_Lt hi (fun k hk => by have := h1 k hk; exact this) (fun h => by have := h2 h; exact this) fun k hk h => ?_).symm
  cases e : tallyLt ⟨o,r,v⟩ (nth l k)
  · have := tallyLt_tri h e
    have h4 := no k hk
    simp only [talIs] at h4
    simp [this.1,this.2] at h4
  · rfl
@[simp] def h333 : Hts := { merge := fun _ => false,mergeF := fun _ => false,dr := fun id => if id = 3 then [{},{},{},{},{},{},{},{},{},{},{ cr := true },{},{}] else if id = 6 then [{},{},{},{},{},{},{},{},{ cr := true },{},{}] else if id = 10 then [{ cr := true,mb := [61,64] },{ mb := [58,64] },{ mb := [58,64] },{ cr := true,mb := [58,64] },{ wr := [3712],cr := true,mb := [64] },{ mn := [3712],mb := [58,61,62] },{ mn := [3712],cr := true,mb := [58,61,62] },{ wr := [3968],cr := true },{}] else [] }
set_option maxHeartbeats 4000000 in
theorem f333_ok (l : List GTally) (o : ByteArray) (r v : Int) (ha : l.length ≤ 1000000) (hs : l.Pairwise fun a b => tallyLt a b = true) (hv0 : 0 ≤ v) (hv1 : v ≤ 999999) : FnR Tryz.prog 333 [.v (.im l.length (flat l)),.v (.str o),.v (.int .i64 r),.v (.int .i64 v)] (.v (.ow 179 3 (addT l o r v).length (flat (addT l o r v)))) := by
  refine FnW.of_AW TryzT_ok 0 (fn := Tryz.f333) (by kernel_rfl) rfl (by kernel_rfl) rfl rfl rfl ?_; refine AW_of h333 TryzT_ok (by kernel_rfl) ?_
  simp -dsimp
  refine AWh_loop (fun i : Nat => i ≤ l.length ∧ ∀ k : Nat,k < i → tallyLt (nth l k) ⟨o,r,0⟩ = true) (fun i => mkE [(0,.c (.im l.length (flat l))),(3,.c (.int .i64 v)),(9,.c (.int .i64 i)),(10,.box 640 0)] [(640,.box [.c (.str o),.c (.int .i64 r),.c (.int .i64 0)])]) (fun i => l.length - i) 0 (Wk_to [0,3,9,10] [(640,640)] rfl rfl (by simp)) (by simp) ?_
  rintro i ⟨hi,hall⟩
  have hft : List.take (i * 3) (flat l) = flat (l.take i) := flat_take l i
  have hfd : List.drop (i * 3) (flat l) = flat (l.drop i) := flat_drop l i
  have hfd2 : List.take ((l.length - i) * 3) (flat (l.drop i)) = flat (l.drop i) := by
    have h := flat_take (l.drop i) (l.length - i)
    have e := List.take_of_length_le (i := l.length - i) (l := l.drop i) (by simp)
    rw [e] at h
    exact h
  refine AW_of h333 TryzT_ok (by kernel_rfl) ?_
  rcases Nat.lt_or_ge i l.length with h1 | h1
  · have hcz := cmpTally_zero (nth l i) ⟨o,r,0⟩
    have hct := tallyLt_cmp (nth l i) ⟨o,r,0⟩
    have hd0 : nth (l.drop i) 0 = nth l i := by rw [nth_eq (by simp; omega),nth_eq h1]; simp
    have hdl : 0 < (l.drop i).length := by simp; omega
    have hdc : List.drop 3 (flat (l.drop i)) = flat (l.drop (i + 1)) := by
      have h := flat_drop (l.drop i) 1
      rw [List.drop_drop] at h
      exact h
    have hnl : ¬ l.length ≤ i := by omega
    have ht3 : List.take 3 (flat (l.drop i)) = [.str (nth l i).obj,.int .i64 (nth l i).rep,.int .i64 (nth l i).sum] := by
      have h := flat_one (xs := l.drop i) (i := 0) hdl
      rw [hd0,Nat.zero_mul,List.drop_zero] at h
      exact h
    have hg2 : (flat (l.drop i))[2]? = some (.int .i64 (nth l i).sum) := by
      have h := flat_get (xs := l.drop i) (i := 0) (j := 2) hdl (by decide)
      rw [hd0,Nat.zero_mul,Nat.zero_add] at h
      exact h
    have hdp : 0 < l.length - i := by omega
    simp -dsimp [h1,ne_of_lt h1]
    repeat (first|refine ⟨by omega,?_⟩|refine ⟨by simp [capMax];omega,?_⟩|refine ⟨⟨by omega,by omega⟩,?_⟩)
    refine ACallK_of (f261_ok (nth l i) ⟨o,r,0⟩) ?_
    by_cases g : cmpTally (nth l i) ⟨o,r,0⟩ < 0
    · have hlt : tallyLt (nth l i) ⟨o,r,0⟩ = true := by rw [hct]; simp [g]
      simp -dsimp [h1,ne_of_lt h1,g]
      repeat (first|refine ⟨by omega,?_⟩|refine ⟨by simp [capMax];omega,?_⟩|refine ⟨⟨by omega,by omega⟩,?_⟩)
      exact Back_of (i + 1) [0,3,9,10] [(640,640)] rfl rfl (by simp; rw [wrap64 (by omega) (by omega)]) ⟨by omega,fun k hk => by
        by_cases e : k = i
        · subst e; exact hlt
        · exact hall k (by omega)⟩ (by omega)
    · have hlt : tallyLt (nth l i) ⟨o,r,0⟩ = false := by rw [hct]; simp [g]
      simp -dsimp [h1,ne_of_lt h1,g,hft,hfd,hfd2,hdp,hdl,hnl,ht3,hg2]
      repeat (first|refine ⟨by omega,?_⟩|refine ⟨by simp [capMax];omega,?_⟩|refine ⟨⟨by omega,by omega⟩,?_⟩)
      refine ACallK_of (f261_ok (nth l i) ⟨o,r,0⟩) ?_
      have hfd3 : List.take ((l.length - i - 1) * 3) (flat (l.drop (i + 1))) = flat (l.drop (i + 1)) := by
        have h := flat_take (l.drop (i + 1)) (l.length - i - 1)
        have e := List.take_of_length_le (i := l.length - i - 1) (l := l.drop (i + 1)) (by simp; omega)
        rw [e] at h
        exact h
      by_cases g2 : cmpTally (nth l i) ⟨o,r,0⟩ = 0
      · have he := addT_in (v := v) h1 hall (hcz.1 g2)
        have b2 : (cmpTally (nth l i) ⟨o,r,0⟩ == 0) = true := by simp [g2]
        simp -dsimp [b2,hft,hfd,hfd2,hfd3,hdp,hdl,hnl,ht3,hg2,hdc]
        repeat (first|refine ⟨by omega,?_⟩|refine ⟨by simp [capMax];omega,?_⟩|refine ⟨⟨by omega,by omega⟩,?_⟩)
        rw [he,← flat_append]
        exact ⟨by simp; omega,by simp⟩
      · have hno : talIs o r (nth l i) = false := by
          cases e : talIs o r (nth l i)
          · rfl
          · exact absurd (hcz.2 e) g2
        have he := addT_out (v := v) hs hi hall (fun _ => hlt) (fun _ => hno)
        have wv : (IntKind.i64.wrap v).tmod 1000000 = v := by rw [wrap64 (by omega) (by omega)]; exact Int.tmod_eq_of_lt hv0 (by omega)
        have b2 : (cmpTally (nth l i) ⟨o,r,0⟩ == 0) = false := by simp [g2]
        simp -dsimp [b2,hft,hfd,hfd2,hdp,hdl,hnl,ht3,hg2,wv]
        repeat (first|refine ⟨by omega,?_⟩|refine ⟨by simp [capMax];omega,?_⟩|refine ⟨⟨by omega,by omega⟩,?_⟩)
        rw [he,← flat_append]
        exact ⟨by simp; omega,by simp⟩
  · obtain rfl : i = l.length := by omega
    have he := addT_out (v := v) hs hi hall (fun h => absurd h (by omega)) (fun h => absurd h (by omega))
    have wv : (IntKind.i64.wrap v).tmod 1000000 = v := by rw [wrap64 (by omega) (by omega)]; exact Int.tmod_eq_of_lt hv0 (by omega)
    simp -dsimp [hft,hfd,wv]
    repeat (first|refine ⟨by omega,?_⟩|refine ⟨by simp [capMax];omega,?_⟩|refine ⟨⟨by omega,by omega⟩,?_⟩)
    rw [he]
    simp
def refAtI (s : GState) (a : GAct) : Nat := (cellAt s.cs a.ref).toNat
def actRefOk (s : GState) (a : GAct) : Bool := if a.kind = 7 ∨ (a.kind = 6 ∧ ¬ a.ref = zeroDot) then decide (0 ≤ cellAt s.cs a.ref) && (decide ((nth s.cs (refAtI s a)).obj = a.obj) && (a.kind == 7 || decide ((nth s.cs (refAtI s a)).time < a.time))) else true
@[simp] def h166 : Hts := { merge := fun _ => false,mergeF := fun _ => false,dr := fun id => if id = 4 then [{},{},{},{},{},{},{},{},{},{},{},{},{},{},{},{},{},{},{},{},{},{},{},{},{},{},{},{},{},{}] else [] }
set_option maxHeartbeats 4000000 in
theorem f166_ok (s : GState) (a : GAct) (hs : s.cs.length ≤ 1073741824) : FnR Tryz.prog 166 [.agg [.im s.know.length (flat s.know),.im s.tallies.length (flat s.tallies),.im s.lives.length (flat s.lives),.im s.cs.length (flat s.cs)],.agg [.int .i64 a.dot.rep,.int .i64 a.dot.seq,.int .i64 a.time,.im a.knew.length (flat a.knew),.int .i64 a.kind,.str a.obj,.str a.key,.int .i64 a.val,.int .i64 a.ref.rep,.int .i64 a.ref.seq]] (.v (.bool (actRefOk s a))) := by
  obtain ⟨dot,time,knew,kind,obj,key,val,ref⟩ := a
  refine FnW.of_AW TryzT_ok 0 (fn := Tryz.f166) (by kernel_rfl) rfl (by kernel_rfl) rfl rfl rfl ?_; refine AW_of h166 TryzT_ok (by kernel_rfl) ?_
  have goon : (kind = 7 ∨ (kind = 6 ∧ ¬ ref = zeroDot)) → actRefOk s ⟨dot,time,knew,kind,obj,key,val,ref⟩ = (decide (0 ≤ cellAt s.cs ref) && (decide ((nth s.cs (cellAt s.cs ref).toNat).obj = obj) && (kind == 7 || decide ((nth s.cs (cellAt s.cs ref).toNat).time < time)))) := fun h => by simp only [actRefOk,refAtI]; rw [if_pos h]; rfl
  by_cases k7 : kind = 7
  · subst k7
    have hg := goon (.inl rfl)
    simp -dsimp
    refine ACallK_of (f45_ok s ref hs) ?_
    rcases cellAt_cases s.cs ref with c1 | ⟨j,hj,c1⟩
    · rw [c1] at hg ⊢
      simp -dsimp
      simp [hg]
    · rw [c1] at hg ⊢
      have jn : ¬ (j : Int) < 0 := by omega
      by_cases o1 : (nth s.cs j).obj = obj
      · simp -dsimp [hj,ne_of_lt hj,jn,eq_true o1]
        repeat (first|refine ⟨by omega,?_⟩|refine ⟨by simp [capMax];omega,?_⟩|refine ⟨⟨by omega,by omega⟩,?_⟩)
        simp [hg,o1]
      · simp -dsimp [hj,ne_of_lt hj,jn,o1]
        repeat (first|refine ⟨by omega,?_⟩|refine ⟨by simp [capMax];omega,?_⟩|refine ⟨⟨by omega,by omega⟩,?_⟩)
        simp [hg,o1]
  have b7 : (kind != 7) = true := by simp [k7]
  have b7' : (kind == 7) = false := by simp [k7]
  by_cases k6 : kind = 6
  case neg =>
    have b6 : (kind != 6) = true := by simp [k6]
    simp -dsimp [b7,b6]
    simp [actRefOk,k6,k7]
  subst k6
  by_cases rz : ref = zeroDot
  · have z1 : ref.rep = 0 := by rw [rz]; rfl
    have z2 : ref.seq = 0 := by rw [rz]; rfl
    simp -dsimp [z1,z2]
    simp [actRefOk,rz]
  have rz' : (ref.rep == 0 && ref.seq == 0) = false := by
    rw [Bool.eq_false_iff]; intro h; exact rz (by simpa [GDot.ext_iff,zeroDot] using h)
  have hg := goon (.inr ⟨rfl,rz⟩)
  simp -dsimp [rz']
  refine ACallK_of (f45_ok s ref hs) ?_
  rcases cellAt_cases s.cs ref with c1 | ⟨j,hj,c1⟩
  · rw [c1] at hg ⊢
    simp -dsimp
    simp [hg]
  · rw [c1] at hg ⊢
    have jn : ¬ (j : Int) < 0 := by omega
    by_cases o1 : (nth s.cs j).obj = obj
    · simp -dsimp [hj,ne_of_lt hj,jn,eq_true o1]
      repeat (first|refine ⟨by omega,?_⟩|refine ⟨by simp [capMax];omega,?_⟩|refine ⟨⟨by omega,by omega⟩,?_⟩)
      simp [hg,o1]
    · simp -dsimp [hj,ne_of_lt hj,jn,o1]
      repeat (first|refine ⟨by omega,?_⟩|refine ⟨by simp [capMax];omega,?_⟩|refine ⟨⟨by omega,by omega⟩,?_⟩)
      simp [hg,o1]
end Am
namespace Am
open Go Go.Proofs
open Cel (cells)
set_option maxRecDepth 100000
def doneAct (s : GState) (a : GAct) : GState :=
  let k := s.know.set a.dot.rep.toNat a.dot.seq
  if a.kind = 1 then ⟨k,addT s.tallies a.obj a.dot.rep a.val,s.lives,s.cs⟩
  else if a.kind = 2 then ⟨k,s.tallies,insF liveLt ⟨false,a.obj,a.key,0,a.dot⟩ s.lives,s.cs⟩
  else if a.kind = 3 then ⟨k,s.tallies,clearK false a.obj a.key a.knew s.lives s.lives.length,s.cs⟩
  else if a.kind = 4 then ⟨k,s.tallies,insF liveLt ⟨true,a.obj,a.key,a.val,a.dot⟩ (clearK true a.obj a.key a.knew s.lives s.lives.length),s.cs⟩
  else if a.kind = 5 then ⟨k,s.tallies,clearK true a.obj a.key a.knew s.lives s.lives.length,s.cs⟩
  else if a.kind = 6 then ⟨k,s.tallies,s.lives,insF cellLt ⟨a.obj,a.dot,a.time,a.ref,a.val,false⟩ s.cs⟩
  else ⟨k,s.tallies,s.lives,s.cs.set (refAtI s a) { nth s.cs (refAtI s a) with gone := true }⟩
def doAct (s : GState) (a : GAct) : GState × Int :=
  if stateOk s = false then (s,3) else if actOk a = false then (s,3) else if knows s.know a.dot = true then (s,1) else
  if knowIn a.knew s.know = false then (s,2) else if actRefOk s a = false then (s,3) else
  if tooMany (doneAct s a) = true then (s,4) else (doneAct s a,0)
structure ActF (s : GState) (a : GAct) : Prop where
  r0 : 0 ≤ a.dot.rep
  r1 : a.dot.rep.toNat < s.know.length
  k1 : 1 ≤ a.kind
  k7 : a.kind ≤ 7
  v0 : 0 ≤ a.val
  v1 : a.val ≤ 999999
  ref : a.kind = 7 → ∃ j : Nat,j < s.cs.length ∧ cellAt s.cs a.ref = j
theorem actF_of {s : GState} {a : GAct} (ks : stateOk s = true) (ka : actOk a = true) (kr : actRefOk s a = true) : ActF s a := by
  have hk := stateOk_know ks
  simp only [actOk,Bool.and_eq_true] at ka
  obtain ⟨⟨⟨⟨⟨a1,a2⟩,a3⟩,a4⟩,a5⟩,a6⟩ := ka
  simp only [dotOk,spIn,Bool.and_eq_true,decide_eq_true_eq] at a1
  simp only [plain,spIn,Bool.and_eq_true,Bool.or_eq_true,decide_eq_true_eq,beq_iff_eq] at a5
  refine ⟨by omega,by omega,by omega,by omega,by omega,by omega,fun h7 => ?_⟩
  simp only [actRefOk,h7,true_or,if_true,Bool.and_eq_true,decide_eq_true_eq] at kr
  rcases cellAt_cases s.cs a.ref with c1 | ⟨j,hj,c1⟩
  · omega
  · exact ⟨j,hj,c1⟩
@[simp] def h167 : Hts := { merge := fun _ => false,mergeF := fun _ => false,lend := fun f => if f = 275 then [.box [0,2,3]] else if f = 287 then [.box [0,1,3]] else [],dr := fun id => if id = 1 then [{},{},{},{},{},{},{},{},{},{},{ wr := [640001] },{ wr := [640001] }] else if id = 6 then [{ mb := [42] },{},{},{},{},{},{},{},{},{},{},{},{ cr := true },{},{ wr := [640000] },{ wr := [640000] }] else if id = 11 then [{ mb := [79] },{},{},{},{},{},{},{},{},{},{},{},{},{},{ cr := true },{},{ wr := [640000] },{ wr := [640000] }] else if id = 15 then [{ mb := [110] },{},{},{},{},{},{},{},{},{},{},{},{},{},{},{},{ cr := true },{},{ wr := [640000] },{ wr := [640000] }] else if id = 17 then [{ mb := [124] },{ mb := [124] },{ mb := [124] },{ mb := [124] },{},{},{},{},{},{ cr := true },{},{ wr := [640004] },{ wr := [640004] }] else [] }
set_option maxHeartbeats 8000000 in
theorem f167_ok (s : GState) (a : GAct) (hs : s.Ok) (F : ActF s a) (hk : a.knew.length ≤ 1073741824) (l1 : s.tallies.length ≤ 120) (l2 : s.lives.length ≤ 120) (l3 : s.cs.length ≤ 120) : FnW Tryz.prog 167 [.ptr [.ow 3 1 s.know.length (flat s.know),.ow 179 3 s.tallies.length (flat s.tallies),.ow 159 6 s.lives.length (flat s.lives),.ow 72 8 s.cs.length (flat s.cs)],.agg [.int .i64 a.dot.rep,.int .i64 a.dot.seq,.int .i64 a.time,.im a.knew.length (flat a.knew),.int .i64 a.kind,.str a.obj,.str a.key,.int .i64 a.val,.int .i64 a.ref.rep,.int .i64 a.ref.seq]] (.tup []) [.ptr [.ow 3 1 (doneAct s a).know.length (flat (doneAct s a).know),.ow 179 3 (doneAct s a).tallies.length (flat (doneAct s a).tallies),.ow 159 6 (doneAct s a).lives.length (flat (doneAct s a).lives),.ow 72 8 (doneAct s a).cs.length (flat (doneAct s a).cs)],.any] := by
  obtain ⟨dot,time,knew,kind,obj,key,val,ref⟩ := a
  obtain ⟨f0,f1,f2,f3,f4,f5,f6⟩ := F
  simp only at f0 f1 f2 f3 f4 f5 f6 hk
  have hkl := clearK_len false obj key knew s.lives s.lives.length
  have hkl2 := clearK_len true obj key knew s.lives s.lives.length
  refine FnW.of_AW TryzT_ok 1 (fn := Tryz.f167) (by kernel_rfl) rfl (by kernel_rfl) rfl rfl rfl ?_; refine AW_of h167 TryzT_ok (by kernel_rfl) ?_
  obtain rfl | rfl | rfl | rfl | rfl | rfl | rfl : kind = 1 ∨ kind = 2 ∨ kind = 3 ∨ kind = 4 ∨ kind = 5 ∨ kind = 6 ∨ kind = 7 := by omega
  · simp -dsimp [f0,f1,ne_of_lt f1]
    repeat (first|refine ⟨by omega,?_⟩|refine ⟨by simp [capMax];omega,?_⟩|refine ⟨⟨by omega,by omega⟩,?_⟩)
    refine ACallW_go ?_
    refine ACallC_go (fun us => f275_ok _ _ _ _ _ _ _ (by omega)) ?_
    simp -dsimp
    simp [doneAct]
  · simp -dsimp [f0,f1,ne_of_lt f1]
    repeat (first|refine ⟨by omega,?_⟩|refine ⟨by simp [capMax];omega,?_⟩|refine ⟨⟨by omega,by omega⟩,?_⟩)
    refine ACallK_of (f152_ok s.lives ⟨false,obj,key,0,dot⟩ (by omega)) ?_
    simp -dsimp
    simp [doneAct]
  · simp -dsimp [f0,f1,ne_of_lt f1]
    repeat (first|refine ⟨by omega,?_⟩|refine ⟨by simp [capMax];omega,?_⟩|refine ⟨⟨by omega,by omega⟩,?_⟩)
    refine ACallW_go ?_
    refine ACallC_go (fun us => f287_ok _ _ _ _ _ _ _ _ (by omega) hk) ?_
    simp -dsimp
    simp [doneAct]
  · simp -dsimp [f0,f1,ne_of_lt f1]
    repeat (first|refine ⟨by omega,?_⟩|refine ⟨by simp [capMax];omega,?_⟩|refine ⟨⟨by omega,by omega⟩,?_⟩)
    refine ACallW_go ?_
    refine ACallC_go (fun us => f287_ok _ _ _ _ _ _ _ _ (by omega) hk) ?_
    simp -dsimp
    refine ACallK_of (f152_ok (clearK true obj key knew s.lives s.lives.length) ⟨true,obj,key,val,dot⟩ (by omega)) ?_
    simp -dsimp
    simp [doneAct]
  · simp -dsimp [f0,f1,ne_of_lt f1]
    repeat (first|refine ⟨by omega,?_⟩|refine ⟨by simp [capMax];omega,?_⟩|refine ⟨⟨by omega,by omega⟩,?_⟩)
    refine ACallW_go ?_
    refine ACallC_go (fun us => f287_ok _ _ _ _ _ _ _ _ (by omega) hk) ?_
    simp -dsimp
    simp [doneAct]
  · simp -dsimp [f0,f1,ne_of_lt f1]
    repeat (first|refine ⟨by omega,?_⟩|refine ⟨by simp [capMax];omega,?_⟩|refine ⟨⟨by omega,by omega⟩,?_⟩)
    refine ACallK_of (f276_ok s.cs ⟨obj,dot,time,ref,val,false⟩ (by omega)) ?_
    simp -dsimp
    simp [doneAct]
  · obtain ⟨j,hj,c1⟩ := f6 rfl
    simp -dsimp [f0,f1,ne_of_lt f1]
    repeat (first|refine ⟨by omega,?_⟩|refine ⟨by simp [capMax];omega,?_⟩|refine ⟨⟨by omega,by omega⟩,?_⟩)
    have hcall := f45_ok ⟨s.know.set dot.rep.toNat dot.seq,s.tallies,s.lives,s.cs⟩ ref (by simp only; omega)
    simp only [List.length_set] at hcall
    refine ACallK_of (hcall) ?_
    rw [c1]
    simp -dsimp [hj,ne_of_lt hj]
    repeat (first|refine ⟨by omega,?_⟩|refine ⟨by simp [capMax];omega,?_⟩|refine ⟨⟨by omega,by omega⟩,?_⟩)
    simp [doneAct,refAtI,c1]
theorem doneAct_ok {s : GState} {a : GAct} (hs : s.Ok) (ha : a.Ok) (l1 : s.tallies.length ≤ 120) (l2 : s.lives.length ≤ 120) (l3 : s.cs.length ≤ 120) : (doneAct s a).Ok := by
  simp only [GState.Ok,GAct.Ok] at hs ha
  obtain ⟨s0,s1,s2,s3,s4,s5,s6⟩ := hs
  obtain ⟨a0,a1,a2⟩ := ha
  have c1 := clearK_len false a.obj a.key a.knew s.lives s.lives.length
  have c2 := clearK_len true a.obj a.key a.knew s.lives s.lives.length
  have hcm : ∀ m y,y ∈ clearK m a.obj a.key a.knew s.lives s.lives.length → y.Ok := by
    intro m y hy
    rcases (filK_mem (Nat.le_refl _)).1 hy with h | ⟨i,hi,rfl,_⟩
    · cases h
    · exact s4 _ (nth_mem hi)
  have hins : ∀ (l : List GLive) (x : GLive),(∀ y,y ∈ l → y.Ok) → x.Ok → ∀ y,y ∈ insF liveLt x l → y.Ok := by
    intro l x hl hx y hy
    rcases List.mem_cons.1 ((insF_perm _ _).mem_iff.1 hy) with rfl | h
    · exact hx
    · exact hl y h
  have hx1 : GLive.Ok ⟨false,a.obj,a.key,0,a.dot⟩ := by simp only [GLive.Ok]; exact ⟨a1,a2⟩
  have hx2 : GLive.Ok ⟨true,a.obj,a.key,a.val,a.dot⟩ := by simp only [GLive.Ok]; exact ⟨a1,a2⟩
  have ht := addT_len s.tallies a.obj a.dot.rep a.val
  unfold doneAct
  simp only
  split
  · simp only [GState.Ok,List.length_set]
    refine ⟨s0,by omega,fun y hy => ?_,s3,s4,s5,s6⟩
    rcases addT_mem hy with h | h
    · exact s2 y h
    · simp only [GTally.Ok]; rw [h]; exact a1
  split
  · simp only [GState.Ok,List.length_set,insF_len]
    exact ⟨s0,s1,s2,by omega,hins _ _ s4 hx1,s5,s6⟩
  split
  · simp only [GState.Ok,List.length_set]
    exact ⟨s0,s1,s2,by omega,hcm _,s5,s6⟩
  split
  · simp only [GState.Ok,List.length_set,insF_len]
    exact ⟨s0,s1,s2,by omega,hins _ _ (hcm _) hx2,s5,s6⟩
  split
  · simp only [GState.Ok,List.length_set]
    exact ⟨s0,s1,s2,by omega,hcm _,s5,s6⟩
  split
  · simp only [GState.Ok,List.length_set,insF_len]
    refine ⟨s0,s1,s2,s3,s4,by omega,fun y hy => ?_⟩
    rcases List.mem_cons.1 ((insF_perm _ _).mem_iff.1 hy) with rfl | h
    · simp only [GCell.Ok]; exact a1
    · exact s6 y h
  · simp only [GState.Ok,List.length_set]
    refine ⟨s0,s1,s2,s3,s4,s5,fun y hy => ?_⟩
    rcases List.mem_or_eq_of_mem_set hy with h | rfl
    · exact s6 y h
    · simp only [GCell.Ok]
      by_cases hi : refAtI s a < s.cs.length
      · have := s6 _ (nth_mem hi)
        simpa only [GCell.Ok] using this
      · rw [List.set_eq_of_length_le (by omega)] at hy
        have := s6 _ hy
        simpa only [GCell.Ok] using this
@[simp] def h37 : Hts := { merge := fun _ => false,mergeF := fun _ => false,lend := fun f => if f = 167 then [.box []] else [] }
set_option maxHeartbeats 8000000 in
theorem f37_ok (s : GState) (a : GAct) (hs : s.Ok) (ha : a.Ok) : FnR Tryz.prog 37 [.agg [.im s.know.length (flat s.know),.im s.tallies.length (flat s.tallies),.im s.lives.length (flat s.lives),.im s.cs.length (flat s.cs)],.agg [.int .i64 a.dot.rep,.int .i64 a.dot.seq,.int .i64 a.time,.im a.knew.length (flat a.knew),.int .i64 a.kind,.str a.obj,.str a.key,.int .i64 a.val,.int .i64 a.ref.rep,.int .i64 a.ref.seq]] (.tup [.agg [.ow 3 1 ((doAct s a).1).know.length (flat ((doAct s a).1).know),.ow 179 3 ((doAct s a).1).tallies.length (flat ((doAct s a).1).tallies),.ow 159 6 ((doAct s a).1).lives.length (flat ((doAct s a).1).lives),.ow 72 8 ((doAct s a).1).cs.length (flat ((doAct s a).1).cs)],.v (.int .i64 ((doAct s a).2))]) := by
  have hs2 := hs
  have ha2 := ha
  simp only [GState.Ok] at hs2
  simp only [GAct.Ok] at ha2
  refine FnW.of_AW TryzT_ok 0 (fn := Tryz.f37) (by kernel_rfl) rfl (by kernel_rfl) rfl rfl rfl ?_; refine AW_of h37 TryzT_ok (by kernel_rfl) ?_
  simp -dsimp
  refine ACallK_of (f147_ok _ hs) ?_
  simp -dsimp
  refine ACallK_of (f70_ok _ hs) ?_
  rw [stateOkS_eq]
  cases ks : stateOk s
  · simp -dsimp
    simp [doAct,ks]
  have sl := stateOk_len ks
  simp -dsimp
  refine ACallK_of (f163_ok _ ha) ?_
  cases ka : actOk a
  · simp -dsimp
    simp [doAct,ks,ka]
  simp -dsimp
  refine ACallK_of (f17_ok _ _ hs2.1) ?_
  cases k1 : knows s.know a.dot
  case true =>
    simp -dsimp
    simp [doAct,ks,ka,k1]
  simp -dsimp
  refine ACallK_of (f89_ok _ _ ha2.1 hs2.1) ?_
  cases k2 : knowIn a.knew s.know
  · simp -dsimp
    simp [doAct,ks,ka,k1,k2]
  simp -dsimp
  refine ACallK_of (f166_ok s a hs2.2.2.2.2.2.1) ?_
  cases k3 : actRefOk s a
  · simp -dsimp
    simp [doAct,ks,ka,k1,k2,k3]
  have F := actF_of ks ka k3
  simp -dsimp
  refine ACallW_go ?_
  refine ACallC_go (fun us => f167_ok s a hs F ha2.1 sl.1 sl.2.1 sl.2.2) ?_
  have hdd : doAct s a = if tooMany (doneAct s a) = true then (s,4) else (doneAct s a,0) := by simp [doAct,ks,ka,k1,k2,k3]
  rw [hdd]
  clear hdd
  generalize doneAct s a = R at *
  by_cases h1 : 120 < R.tallies.length
  · have h1' : (120 : Int) < R.tallies.length := by omega
    simp -dsimp [h1']
    refine ACallK_of (f147_ok _ hs) ?_
    simp -dsimp
    simp [tooMany,h1]
  have h1' : ¬ (120 : Int) < R.tallies.length := by omega
  by_cases h2 : 120 < R.lives.length
  · have h2' : (120 : Int) < R.lives.length := by omega
    simp -dsimp [h1',h2']
    refine ACallK_of (f147_ok _ hs) ?_
    simp -dsimp
    simp [tooMany,h2]
  have h2' : ¬ (120 : Int) < R.lives.length := by omega
  by_cases h3 : 120 < R.cs.length
  · have h3' : (120 : Int) < R.cs.length := by omega
    simp -dsimp [h1',h2',h3']
    refine ACallK_of (f147_ok _ hs) ?_
    simp -dsimp
    simp [tooMany,h3]
  have h3' : ¬ (120 : Int) < R.cs.length := by omega
  have k3 : tooMany R = false := by simp [tooMany,h1,h2,h3]
  simp -dsimp [h1',h2',h3']
  simp [k3]
end Am
namespace Am
open Go Go.Proofs
open Cel (cells)
set_option maxRecDepth 100000
theorem stateOk_cellsK {s : GState} (h : stateOk s = true) : ∀ x,x ∈ s.cs → knows s.know x.dot = true := by
  have hk : celKsOk s.cs s.know = true := by
    simp only [stateOk,Bool.and_eq_true] at h; exact h.1.2
  simp only [celKsOk,Bool.and_eq_true] at hk
  have h2 := allB_iff.1 hk.2
  intro x hx
  obtain ⟨i,hi,rfl⟩ := mem_nth hx
  have h3 := h2 i hi
  simp only [celKAt,Bool.and_eq_true] at h3
  exact h3.1.1
theorem actOk_ref {a : GAct} (h : actOk a = true) : (a.kind ≠ 6 → a.kind ≠ 7 → a.ref = zeroDot) ∧ (a.kind = 7 → a.ref ≠ zeroDot) := by
  simp only [actOk,Bool.and_eq_true] at h
  have h6 := h.2
  simp only [actRef,refZ,beq_iff_eq] at h6
  refine ⟨fun n6 n7 => ?_,fun e7 => ?_⟩
  · rw [if_neg n7,if_neg n6] at h6
    simp only [Bool.and_eq_true,beq_iff_eq] at h6
    exact GDot.ext h6.1 h6.2
  · rw [if_pos e7] at h6
    intro e
    rw [e] at h6
    simp [knows,dotOk,spIn,zeroDot] at h6
@[simp] def h234 : Hts := { merge := fun _ => false,mergeF := fun _ => false,dr := fun id => if id = 9 then [{},{},{},{},{},{},{},{},{},{},{},{},{},{},{},{},{},{},{},{},{},{},{},{},{},{},{},{},{},{},{},{},{},{},{}] else [] }
set_option maxHeartbeats 8000000 in
theorem f234_ok (s : GState) (a : GAct) (hs : s.Ok) (ha : a.Ok) : FnR Tryz.prog 234 [.agg [.im s.know.length (flat s.know),.im s.tallies.length (flat s.tallies),.im s.lives.length (flat s.lives),.im s.cs.length (flat s.cs)],.agg [.int .i64 a.dot.rep,.int .i64 a.dot.seq,.int .i64 a.time,.im a.knew.length (flat a.knew),.int .i64 a.kind,.str a.obj,.str a.key,.int .i64 a.val,.int .i64 a.ref.rep,.int .i64 a.ref.seq]] (.tup [.agg [.ow 3 1 ((doAct s a).1).know.length (flat ((doAct s a).1).know),.ow 179 3 ((doAct s a).1).tallies.length (flat ((doAct s a).1).tallies),.ow 159 6 ((doAct s a).1).lives.length (flat ((doAct s a).1).lives),.ow 72 8 ((doAct s a).1).cs.length (flat ((doAct s a).1).cs)],.v (.int .i64 ((doAct s a).2))]) := by
  obtain ⟨dot,time,knew,kind,obj,key,val,ref⟩ := a
  have hs2 := hs
  have ha2 := ha
  simp only [GState.Ok] at hs2
  simp only [GAct.Ok] at ha2
  refine FnW.of_AW TryzT_ok 0 (fn := Tryz.f234) (by kernel_rfl) rfl (by kernel_rfl) rfl rfl rfl ?_; refine AW_of h234 TryzT_ok (by kernel_rfl) ?_
  simp -dsimp
  refine ACallK_of (f120_ok _ hs) ?_
  simp -dsimp
  refine ACallK_of (f119_ok _ hs) ?_
  rw [stateOkM_eq]
  cases ks : stateOk s
  · simp -dsimp
    simp [doAct,ks]
  have sl := stateOk_len ks
  simp -dsimp
  refine ACallK_of (f158_ok ⟨dot,time,knew,kind,obj,key,val,ref⟩ ha) ?_
  cases ka : actOk ⟨dot,time,knew,kind,obj,key,val,ref⟩
  · simp -dsimp
    simp [doAct,ks,ka]
  simp -dsimp
  refine ACallK_of (f125_ok _ _ hs2.1) ?_
  cases k1 : knows s.know dot
  case true =>
    simp -dsimp
    simp [doAct,ks,ka,k1]
  simp -dsimp
  refine ACallK_of (f305_ok _ _ ha2.1 hs2.1) ?_
  cases k2 : knowIn knew s.know
  · simp -dsimp
    simp [doAct,ks,ka,k1,k2]
  simp -dsimp
  refine ACallK_of (f291_ok s ref hs2.2.2.2.2.2.1) ?_
  obtain ⟨rf1,rf2⟩ := actOk_ref ka
  simp only at rf1 rf2
  have hfin : actRefOk s ⟨dot,time,knew,kind,obj,key,val,ref⟩ = true → doAct s ⟨dot,time,knew,kind,obj,key,val,ref⟩ = if tooMany (doneAct s ⟨dot,time,knew,kind,obj,key,val,ref⟩) = true then (s,4) else (doneAct s ⟨dot,time,knew,kind,obj,key,val,ref⟩,0) := fun k3 => by simp [doAct,ks,ka,k1,k2,k3]
  have hbad : actRefOk s ⟨dot,time,knew,kind,obj,key,val,ref⟩ = false → doAct s ⟨dot,time,knew,kind,obj,key,val,ref⟩ = (s,3) := fun k3 => by simp [doAct,ks,ka,k1,k2,k3]
  obtain ⟨lv1,lv2⟩ := stateOk_lives ks
  have lvn : ∀ y,y ∈ s.lives → y.dot ≠ dot := fun y hy e => by have := lv2 y hy; rw [e,k1] at this; cases this
  have lvc : ∀ m y,y ∈ clearK m obj key knew s.lives s.lives.length → y.dot ≠ dot := by
    intro m y hy
    rcases (filK_mem (Nat.le_refl _)).1 hy with h | ⟨i,hi,rfl,_⟩
    · cases h
    · exact lvn _ (nth_mem hi)
  have cvn : ∀ y,y ∈ s.cs → y.dot ≠ dot := fun y hy e => by have := stateOk_cellsK ks y hy; rw [e,k1] at this; cases this
  have hkl := clearK_len false obj key knew s.lives s.lives.length
  have hkl2 := clearK_len true obj key knew s.lives s.lives.length
  have hkind : 1 ≤ kind ∧ kind ≤ 7 := by
    simp only [actOk,plain,spIn,Bool.and_eq_true,decide_eq_true_eq] at ka
    omega
  obtain rfl | rfl | rfl | rfl | rfl | rfl | rfl : kind = 1 ∨ kind = 2 ∨ kind = 3 ∨ kind = 4 ∨ kind = 5 ∨ kind = 6 ∨ kind = 7 := by omega
  · obtain rfl : ref = ⟨0,0⟩ := rf1 (by omega) (by omega)
    have k3 : actRefOk s ⟨dot,time,knew,1,obj,key,val,⟨0,0⟩⟩ = true := by simp [actRefOk]
    have F := actF_of ks ka k3
    obtain ⟨f0,f1,_,_,f4,f5,f6⟩ := F
    simp only at f0 f1 f4 f5 f6
    have er : doneAct s ⟨dot,time,knew,1,obj,key,val,⟨0,0⟩⟩ = ⟨s.know.set dot.rep.toNat dot.seq,addT s.tallies obj dot.rep val,s.lives,s.cs⟩ := by simp [doneAct]
    rw [hfin k3,er]
    have htm := f337_ok ⟨s.know.set dot.rep.toNat dot.seq,addT s.tallies obj dot.rep val,s.lives,s.cs⟩
    simp only [List.length_set] at htm
    simp -dsimp
    repeat (first|refine ⟨by omega,?_⟩|refine ⟨by simp [capMax];omega,?_⟩|refine ⟨⟨by omega,by omega⟩,?_⟩)
    refine ACallK_of (f120_ok _ hs) ?_
    simp -dsimp [f0,f1,ne_of_lt f1]
    repeat (first|refine ⟨by omega,?_⟩|refine ⟨by simp [capMax];omega,?_⟩|refine ⟨⟨by omega,by omega⟩,?_⟩)
    refine ACallK_of (f333_ok _ _ _ _ (by omega) (stateOk_tallies ks) f4 f5) ?_
    simp -dsimp
    refine ACallK_of (htm) ?_
    cases k4 : tooMany ⟨s.know.set dot.rep.toNat dot.seq,addT s.tallies obj dot.rep val,s.lives,s.cs⟩
    · simp -dsimp
    · simp -dsimp
  · obtain rfl : ref = ⟨0,0⟩ := rf1 (by omega) (by omega)
    have k3 : actRefOk s ⟨dot,time,knew,2,obj,key,val,⟨0,0⟩⟩ = true := by simp [actRefOk]
    have F := actF_of ks ka k3
    obtain ⟨f0,f1,_,_,f4,f5,f6⟩ := F
    simp only at f0 f1 f4 f5 f6
    have er : doneAct s ⟨dot,time,knew,2,obj,key,val,⟨0,0⟩⟩ = ⟨s.know.set dot.rep.toNat dot.seq,s.tallies,insF liveLt ⟨false,obj,key,0,dot⟩ s.lives,s.cs⟩ := by simp [doneAct]
    rw [hfin k3,er]
    have htm := f337_ok ⟨s.know.set dot.rep.toNat dot.seq,s.tallies,insF liveLt ⟨false,obj,key,0,dot⟩ s.lives,s.cs⟩
    simp only [List.length_set] at htm
    simp -dsimp
    repeat (first|refine ⟨by omega,?_⟩|refine ⟨by simp [capMax];omega,?_⟩|refine ⟨⟨by omega,by omega⟩,?_⟩)
    refine ACallK_of (f120_ok _ hs) ?_
    simp -dsimp [f0,f1,ne_of_lt f1]
    repeat (first|refine ⟨by omega,?_⟩|refine ⟨by simp [capMax];omega,?_⟩|refine ⟨⟨by omega,by omega⟩,?_⟩)
    refine ACallK_of (f334_ok s.lives ⟨false,obj,key,0,dot⟩ (by omega) lvn) ?_
    simp -dsimp
    refine ACallK_of (htm) ?_
    cases k4 : tooMany ⟨s.know.set dot.rep.toNat dot.seq,s.tallies,insF liveLt ⟨false,obj,key,0,dot⟩ s.lives,s.cs⟩
    · simp -dsimp
    · simp -dsimp
  · obtain rfl : ref = ⟨0,0⟩ := rf1 (by omega) (by omega)
    have k3 : actRefOk s ⟨dot,time,knew,3,obj,key,val,⟨0,0⟩⟩ = true := by simp [actRefOk]
    have F := actF_of ks ka k3
    obtain ⟨f0,f1,_,_,f4,f5,f6⟩ := F
    simp only at f0 f1 f4 f5 f6
    have er : doneAct s ⟨dot,time,knew,3,obj,key,val,⟨0,0⟩⟩ = ⟨s.know.set dot.rep.toNat dot.seq,s.tallies,clearK false obj key knew s.lives s.lives.length,s.cs⟩ := by simp [doneAct]
    rw [hfin k3,er]
    have htm := f337_ok ⟨s.know.set dot.rep.toNat dot.seq,s.tallies,clearK false obj key knew s.lives s.lives.length,s.cs⟩
    simp only [List.length_set] at htm
    simp -dsimp
    repeat (first|refine ⟨by omega,?_⟩|refine ⟨by simp [capMax];omega,?_⟩|refine ⟨⟨by omega,by omega⟩,?_⟩)
    refine ACallK_of (f120_ok _ hs) ?_
    simp -dsimp [f0,f1,ne_of_lt f1]
    repeat (first|refine ⟨by omega,?_⟩|refine ⟨by simp [capMax];omega,?_⟩|refine ⟨⟨by omega,by omega⟩,?_⟩)
    refine ACallK_of (f335_ok s.lives false ⟨dot,time,knew,3,obj,key,val,⟨0,0⟩⟩ (by omega) ha2.1) ?_
    simp -dsimp
    refine ACallK_of (htm) ?_
    cases k4 : tooMany ⟨s.know.set dot.rep.toNat dot.seq,s.tallies,clearK false obj key knew s.lives s.lives.length,s.cs⟩
    · simp -dsimp
    · simp -dsimp
  · obtain rfl : ref = ⟨0,0⟩ := rf1 (by omega) (by omega)
    have k3 : actRefOk s ⟨dot,time,knew,4,obj,key,val,⟨0,0⟩⟩ = true := by simp [actRefOk]
    have F := actF_of ks ka k3
    obtain ⟨f0,f1,_,_,f4,f5,f6⟩ := F
    simp only at f0 f1 f4 f5 f6
    have er : doneAct s ⟨dot,time,knew,4,obj,key,val,⟨0,0⟩⟩ = ⟨s.know.set dot.rep.toNat dot.seq,s.tallies,insF liveLt ⟨true,obj,key,val,dot⟩ (clearK true obj key knew s.lives s.lives.length),s.cs⟩ := by simp [doneAct]
    rw [hfin k3,er]
    have htm := f337_ok ⟨s.know.set dot.rep.toNat dot.seq,s.tallies,insF liveLt ⟨true,obj,key,val,dot⟩ (clearK true obj key knew s.lives s.lives.length),s.cs⟩
    simp only [List.length_set] at htm
    simp -dsimp
    repeat (first|refine ⟨by omega,?_⟩|refine ⟨by simp [capMax];omega,?_⟩|refine ⟨⟨by omega,by omega⟩,?_⟩)
    refine ACallK_of (f120_ok _ hs) ?_
    simp -dsimp [f0,f1,ne_of_lt f1]
    repeat (first|refine ⟨by omega,?_⟩|refine ⟨by simp [capMax];omega,?_⟩|refine ⟨⟨by omega,by omega⟩,?_⟩)
    refine ACallK_of (f335_ok s.lives true ⟨dot,time,knew,4,obj,key,val,⟨0,0⟩⟩ (by omega) ha2.1) ?_
    simp -dsimp
    refine ACallK_of (f334_ok (clearK true obj key knew s.lives s.lives.length) ⟨true,obj,key,val,dot⟩ (by omega) (lvc true)) ?_
    simp -dsimp
    refine ACallK_of (htm) ?_
    cases k4 : tooMany ⟨s.know.set dot.rep.toNat dot.seq,s.tallies,insF liveLt ⟨true,obj,key,val,dot⟩ (clearK true obj key knew s.lives s.lives.length),s.cs⟩
    · simp -dsimp
    · simp -dsimp
  · obtain rfl : ref = ⟨0,0⟩ := rf1 (by omega) (by omega)
    have k3 : actRefOk s ⟨dot,time,knew,5,obj,key,val,⟨0,0⟩⟩ = true := by simp [actRefOk]
    have F := actF_of ks ka k3
    obtain ⟨f0,f1,_,_,f4,f5,f6⟩ := F
    simp only at f0 f1 f4 f5 f6
    have er : doneAct s ⟨dot,time,knew,5,obj,key,val,⟨0,0⟩⟩ = ⟨s.know.set dot.rep.toNat dot.seq,s.tallies,clearK true obj key knew s.lives s.lives.length,s.cs⟩ := by simp [doneAct]
    rw [hfin k3,er]
    have htm := f337_ok ⟨s.know.set dot.rep.toNat dot.seq,s.tallies,clearK true obj key knew s.lives s.lives.length,s.cs⟩
    simp only [List.length_set] at htm
    simp -dsimp
    repeat (first|refine ⟨by omega,?_⟩|refine ⟨by simp [capMax];omega,?_⟩|refine ⟨⟨by omega,by omega⟩,?_⟩)
    refine ACallK_of (f120_ok _ hs) ?_
    simp -dsimp [f0,f1,ne_of_lt f1]
    repeat (first|refine ⟨by omega,?_⟩|refine ⟨by simp [capMax];omega,?_⟩|refine ⟨⟨by omega,by omega⟩,?_⟩)
    refine ACallK_of (f335_ok s.lives true ⟨dot,time,knew,5,obj,key,val,⟨0,0⟩⟩ (by omega) ha2.1) ?_
    simp -dsimp
    refine ACallK_of (htm) ?_
    cases k4 : tooMany ⟨s.know.set dot.rep.toNat dot.seq,s.tallies,clearK true obj key knew s.lives s.lives.length,s.cs⟩
    · simp -dsimp
    · simp -dsimp
  · by_cases rz : ref = zeroDot
    · obtain rfl : ref = ⟨0,0⟩ := rz
      have k3 : actRefOk s ⟨dot,time,knew,6,obj,key,val,⟨0,0⟩⟩ = true := by simp [actRefOk,zeroDot]
      have F := actF_of ks ka k3
      obtain ⟨f0,f1,_,_,f4,f5,f6⟩ := F
      simp only at f0 f1 f4 f5 f6
      have er : doneAct s ⟨dot,time,knew,6,obj,key,val,⟨0,0⟩⟩ = ⟨s.know.set dot.rep.toNat dot.seq,s.tallies,s.lives,insF cellLt ⟨obj,dot,time,⟨0,0⟩,val,false⟩ s.cs⟩ := by simp [doneAct]
      rw [hfin k3,er]
      have htm := f337_ok ⟨s.know.set dot.rep.toNat dot.seq,s.tallies,s.lives,insF cellLt ⟨obj,dot,time,⟨0,0⟩,val,false⟩ s.cs⟩
      simp only [List.length_set] at htm
      simp -dsimp
      repeat (first|refine ⟨by omega,?_⟩|refine ⟨by simp [capMax];omega,?_⟩|refine ⟨⟨by omega,by omega⟩,?_⟩)
      refine ACallK_of (f120_ok _ hs) ?_
      simp -dsimp [f0,f1,ne_of_lt f1]
      repeat (first|refine ⟨by omega,?_⟩|refine ⟨by simp [capMax];omega,?_⟩|refine ⟨⟨by omega,by omega⟩,?_⟩)
      refine ACallK_of (f336_ok s.cs ⟨obj,dot,time,⟨0,0⟩,val,false⟩ (by omega) cvn) ?_
      simp -dsimp
      refine ACallK_of (htm) ?_
      cases k4 : tooMany ⟨s.know.set dot.rep.toNat dot.seq,s.tallies,s.lives,insF cellLt ⟨obj,dot,time,⟨0,0⟩,val,false⟩ s.cs⟩
      · simp -dsimp
      · simp -dsimp
    have rz' : (ref.rep == 0 && ref.seq == 0) = false := by
      rw [Bool.eq_false_iff]; intro h; exact rz (by simpa [GDot.ext_iff,zeroDot] using h)
    rcases cellAt_cases s.cs ref with c1 | ⟨j,hj,c1⟩
    · have k3 : actRefOk s ⟨dot,time,knew,6,obj,key,val,ref⟩ = false := by simp [actRefOk,refAtI,rz,c1]
      rw [hbad k3]
      rw [c1]
      simp -dsimp [rz']
    have jn : ¬ (j : Int) < 0 := by omega
    by_cases o1 : (nth s.cs j).obj = obj
    case neg =>
      have k3 : actRefOk s ⟨dot,time,knew,6,obj,key,val,ref⟩ = false := by simp [actRefOk,refAtI,rz,c1,o1]
      rw [hbad k3]
      rw [c1]
      simp -dsimp [rz',jn,hj,ne_of_lt hj,o1]
      repeat (first|refine ⟨by omega,?_⟩|refine ⟨by simp [capMax];omega,?_⟩|refine ⟨⟨by omega,by omega⟩,?_⟩)
    rcases Int.lt_or_le (nth s.cs j).time time with t1 | t1
    case inr =>
      have t1' : ¬ (nth s.cs j).time < time := by omega
      have k3 : actRefOk s ⟨dot,time,knew,6,obj,key,val,ref⟩ = false := by simp [actRefOk,refAtI,rz,c1,o1,t1']
      rw [hbad k3]
      rw [c1]
      simp -dsimp [rz',jn,hj,ne_of_lt hj,eq_true o1,t1]
      repeat (first|refine ⟨by omega,?_⟩|refine ⟨by simp [capMax];omega,?_⟩|refine ⟨⟨by omega,by omega⟩,?_⟩)
    have t1' : ¬ time ≤ (nth s.cs j).time := by omega
    rw [c1]
    have k3 : actRefOk s ⟨dot,time,knew,6,obj,key,val,ref⟩ = true := by simp [actRefOk,refAtI,rz,c1,o1,t1]
    have F := actF_of ks ka k3
    obtain ⟨f0,f1,_,_,f4,f5,f6⟩ := F
    simp only at f0 f1 f4 f5 f6
    have er : doneAct s ⟨dot,time,knew,6,obj,key,val,ref⟩ = ⟨s.know.set dot.rep.toNat dot.seq,s.tallies,s.lives,insF cellLt ⟨obj,dot,time,ref,val,false⟩ s.cs⟩ := by simp [doneAct]
    rw [hfin k3,er]
    have htm := f337_ok ⟨s.know.set dot.rep.toNat dot.seq,s.tallies,s.lives,insF cellLt ⟨obj,dot,time,ref,val,false⟩ s.cs⟩
    simp only [List.length_set] at htm
    simp -dsimp [rz',jn,hj,ne_of_lt hj,eq_true o1,t1']
    repeat (first|refine ⟨by omega,?_⟩|refine ⟨by simp [capMax];omega,?_⟩|refine ⟨⟨by omega,by omega⟩,?_⟩)
    refine ACallK_of (f120_ok _ hs) ?_
    simp -dsimp [f0,f1,ne_of_lt f1]
    repeat (first|refine ⟨by omega,?_⟩|refine ⟨by simp [capMax];omega,?_⟩|refine ⟨⟨by omega,by omega⟩,?_⟩)
    refine ACallK_of (f336_ok s.cs ⟨obj,dot,time,ref,val,false⟩ (by omega) cvn) ?_
    simp -dsimp
    refine ACallK_of (htm) ?_
    cases k4 : tooMany ⟨s.know.set dot.rep.toNat dot.seq,s.tallies,s.lives,insF cellLt ⟨obj,dot,time,ref,val,false⟩ s.cs⟩
    · simp -dsimp
    · simp -dsimp
  · have rz := rf2 rfl
    have rz' : (ref.rep == 0 && ref.seq == 0) = false := by
      rw [Bool.eq_false_iff]; intro h; exact rz (by simpa [GDot.ext_iff,zeroDot] using h)
    rcases cellAt_cases s.cs ref with c1 | ⟨j,hj,c1⟩
    · have k3 : actRefOk s ⟨dot,time,knew,7,obj,key,val,ref⟩ = false := by simp [actRefOk,refAtI,c1]
      rw [hbad k3]
      rw [c1]
      simp -dsimp [rz']
    have jn : ¬ (j : Int) < 0 := by omega
    by_cases o1 : (nth s.cs j).obj = obj
    case neg =>
      have k3 : actRefOk s ⟨dot,time,knew,7,obj,key,val,ref⟩ = false := by simp [actRefOk,refAtI,c1,o1]
      rw [hbad k3]
      rw [c1]
      simp -dsimp [rz',jn,hj,ne_of_lt hj,o1]
      repeat (first|refine ⟨by omega,?_⟩|refine ⟨by simp [capMax];omega,?_⟩|refine ⟨⟨by omega,by omega⟩,?_⟩)
    rw [c1]
    have k3 : actRefOk s ⟨dot,time,knew,7,obj,key,val,ref⟩ = true := by simp [actRefOk,refAtI,c1,o1]
    have F := actF_of ks ka k3
    obtain ⟨f0,f1,_,_,f4,f5,f6⟩ := F
    simp only at f0 f1 f4 f5 f6
    have er : doneAct s ⟨dot,time,knew,7,obj,key,val,ref⟩ = ⟨s.know.set dot.rep.toNat dot.seq,s.tallies,s.lives,s.cs.set j { nth s.cs j with gone := true }⟩ := by simp [doneAct,refAtI,c1]
    rw [hfin k3,er]
    have htm := f337_ok ⟨s.know.set dot.rep.toNat dot.seq,s.tallies,s.lives,s.cs.set j { nth s.cs j with gone := true }⟩
    simp only [List.length_set] at htm
    simp -dsimp [rz',jn,hj,ne_of_lt hj,eq_true o1]
    repeat (first|refine ⟨by omega,?_⟩|refine ⟨by simp [capMax];omega,?_⟩|refine ⟨⟨by omega,by omega⟩,?_⟩)
    refine ACallK_of (f120_ok _ hs) ?_
    simp -dsimp [f0,f1,ne_of_lt f1,hj,ne_of_lt hj]
    repeat (first|refine ⟨by omega,?_⟩|refine ⟨by simp [capMax];omega,?_⟩|refine ⟨⟨by omega,by omega⟩,?_⟩)
    refine ACallK_of (htm) ?_
    cases k4 : tooMany ⟨s.know.set dot.rep.toNat dot.seq,s.tallies,s.lives,s.cs.set j { nth s.cs j with gone := true }⟩
    · simp -dsimp
    · simp -dsimp
end Am
