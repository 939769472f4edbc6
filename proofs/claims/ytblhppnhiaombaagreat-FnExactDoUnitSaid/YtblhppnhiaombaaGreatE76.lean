/- What an act does to lists: of both. No condition. -/
import Derived.Test.YtblhppnhiaombaaGreatT
import Derived.Test.YtblhppnhiaombaaGreatD
import Derived.Test.YtblhppnhiaombaaGreatE59
import Derived.Test.YtblhppnhiaombaaGreatE22a
import Derived.Test.YtblhppnhiaombaaGreatE64
import Derived.Test.YtblhppnhiaombaaGreatAm31
namespace Am
open Go Go.Proofs
open Cel (cells)
set_option maxRecDepth 100000
set_option linter.unusedSimpArgs false
set_option linter.unusedVariables false

theorem insF_at {α : Type} [Cel α] {lt : α → α → Bool} (hL : Lt lt) {x : α} {l : List α} {i : Nat} (hi : i ≤ l.length) (h1 : ∀ k : Nat, k < i → lt (nth l k) x = true) (h2 : i < l.length → lt (nth l i) x = false) (hn : ∀ k : Nat, k < l.length → lt (nth l k) x = false → lt x (nth l k) = true) : l.take i ++ x :: l.drop i = insF lt x l := by
  obtain ⟨j, hj, e, h3, h4⟩ := insF_spec (lt := lt) x l
  rw [e]
  rcases Nat.lt_trichotomy i j with h | h | h
  · have a1 := h2 (by omega)
    have a2 := hn i (by omega) a1
    rw [h4 i h] at a2; cases a2
  · rw [h]
  · have a1 := h1 j h
    have a2 := h3 (by omega)
    rw [hL.asym _ _ a2] at a1; cases a1

@[simp] def h160 : Hts := { merge := fun _ => false, mergeF := fun _ => false, dr := fun id => if id = 2 then [{}, {}, {}, {}, {}, {}, {}, {}, {}, {}, {}, {}, { cr := true }, {}, {}] else if id = 4 then [{ cr := true, mb := [27, 30] }, { mb := [24, 30] }, { mb := [24, 30] }, { cr := true, mb := [24, 30] }, { wr := [1536], cr := true, mb := [30] }, { mn := [1536], mb := [24, 27, 28] }, { mn := [1536], cr := true, mb := [24, 27, 28] }, { wr := [1792], cr := true }, {}] else [] }
set_option maxHeartbeats 2000000 in
theorem f160_ok (l : List GLive) (x : GLive) (ha : l.length ≤ 1000000) (hx : ∀ y, y ∈ l → y.dot ≠ x.dot) : FnR Tryz.prog 160 [.v (.im l.length (flat l)), .agg [.bool x.map, .str x.obj, .str x.key, .int .i64 x.val, .int .i64 x.dot.rep, .int .i64 x.dot.seq]] (.v (.ow 182 6 (insF liveLt x l).length (flat (insF liveLt x l)))) := by
  refine FnW.of_AW TryzT_ok 0 (fn := Tryz.f160) (by kernel_rfl) rfl (by kernel_rfl) rfl rfl rfl ?_; refine AW_of h160 TryzT_ok (by kernel_rfl) ?_
  simp -dsimp
  refine AWh_loop (fun i : Nat => i ≤ l.length ∧ ∀ k : Nat, k < i → liveLt (nth l k) x = true) (fun i => mkE [(0, .c (.im l.length (flat l))), (3, .box 192 0), (5, .c (.int .i64 i))] [(192, .box [.c (.bool x.map), .c (.str x.obj), .c (.str x.key), .c (.int .i64 x.val), .c (.int .i64 x.dot.rep), .c (.int .i64 x.dot.seq)])]) (fun i => l.length - i) 0 (Wk_to [0, 3, 5] [(192, 192)] rfl rfl (by simp)) (by simp) ?_
  rintro i ⟨hi, hall⟩
  have hn : ∀ k : Nat, k < l.length → liveLt (nth l k) x = false → liveLt x (nth l k) = true := fun k hk h => before_ne (hx _ (nth_mem hk)) h
  have hft : List.take (i * 6) (flat l) = flat (l.take i) := flat_take l i
  have hfd : List.drop (i * 6) (flat l) = flat (l.drop i) := flat_drop l i
  refine AW_of h160 TryzT_ok (by kernel_rfl) ?_
  rcases Nat.lt_or_ge i l.length with h1 | h1
  · simp -dsimp [h1, ne_of_lt h1]
    repeat (first | refine ⟨by omega, ?_⟩ | refine ⟨by simp [capMax]; omega, ?_⟩ | refine ⟨⟨by omega, by omega⟩, ?_⟩)
    refine ACallK_of (f232_ok _ _) ?_
    have hb := before_cmp (nth l i).dot x.dot
    by_cases g : cmpDot (nth l i).dot x.dot < 0
    · have hlt : liveLt (nth l i) x = true := by simp only [liveLt]; rw [hb]; simp [g]
      simp -dsimp [h1, ne_of_lt h1, g]
      repeat (first | refine ⟨by omega, ?_⟩ | refine ⟨by simp [capMax]; omega, ?_⟩ | refine ⟨⟨by omega, by omega⟩, ?_⟩)
      exact Back_of (i + 1) [0, 3, 5] [(192, 192)] rfl rfl (by simp; rw [wrap64 (by omega) (by omega)]) ⟨by omega, fun k hk => by
        by_cases e : k = i
        · subst e; exact hlt
        · exact hall k (by omega)⟩ (by omega)
    · have hlt : liveLt (nth l i) x = false := by simp only [liveLt]; rw [hb]; simp [g]
      have he := insF_at liveLt_Lt (x := x) hi hall (fun _ => hlt) hn
      simp -dsimp [h1, ne_of_lt h1, g, hft, hfd]
      repeat (first | refine ⟨by omega, ?_⟩ | refine ⟨by simp [capMax]; omega, ?_⟩ | refine ⟨⟨by omega, by omega⟩, ?_⟩)
      have hfd2 : List.take ((l.length - i) * 6) (flat (l.drop i)) = flat (l.drop i) := by
        have h := flat_take (l.drop i) (l.length - i)
        have e := List.take_of_length_le (i := l.length - i) (l := l.drop i) (by simp)
        rw [e] at h
        exact h
      rw [← he, hfd2, ← flat_append]
      exact ⟨by simp; omega, by simp⟩
  · obtain rfl : i = l.length := by omega
    have he := insF_at liveLt_Lt (x := x) hi hall (fun h => absurd h (by omega)) hn
    simp -dsimp [hft, hfd]
    repeat (first | refine ⟨by omega, ?_⟩ | refine ⟨by simp [capMax]; omega, ?_⟩ | refine ⟨⟨by omega, by omega⟩, ?_⟩)
    rw [← he]
    simp

@[simp] def h162 : Hts := { merge := fun _ => false, mergeF := fun _ => false, dr := fun id => if id = 2 then [{}, {}, {}, {}, {}, {}, {}, {}, {}, {}, {}, {}, { cr := true }, {}, {}] else if id = 4 then [{ cr := true, mb := [27, 30] }, { mb := [24, 30] }, { mb := [24, 30] }, { cr := true, mb := [24, 30] }, { wr := [1536], cr := true, mb := [30] }, { mn := [1536], mb := [24, 27, 28] }, { mn := [1536], cr := true, mb := [24, 27, 28] }, { wr := [1792], cr := true }, {}] else [] }
set_option maxHeartbeats 2000000 in
theorem f162_ok (l : List GCell) (x : GCell) (ha : l.length ≤ 1000000) (hx : ∀ y, y ∈ l → y.dot ≠ x.dot) : FnR Tryz.prog 162 [.v (.im l.length (flat l)), .agg [.str x.obj, .int .i64 x.dot.rep, .int .i64 x.dot.seq, .int .i64 x.time, .int .i64 x.ref.rep, .int .i64 x.ref.seq, .int .i64 x.val, .bool x.gone]] (.v (.ow 185 8 (insF cellLt x l).length (flat (insF cellLt x l)))) := by
  refine FnW.of_AW TryzT_ok 0 (fn := Tryz.f162) (by kernel_rfl) rfl (by kernel_rfl) rfl rfl rfl ?_; refine AW_of h162 TryzT_ok (by kernel_rfl) ?_
  simp -dsimp
  refine AWh_loop (fun i : Nat => i ≤ l.length ∧ ∀ k : Nat, k < i → cellLt (nth l k) x = true) (fun i => mkE [(0, .c (.im l.length (flat l))), (3, .box 192 0), (5, .c (.int .i64 i))] [(192, .box [.c (.str x.obj), .c (.int .i64 x.dot.rep), .c (.int .i64 x.dot.seq), .c (.int .i64 x.time), .c (.int .i64 x.ref.rep), .c (.int .i64 x.ref.seq), .c (.int .i64 x.val), .c (.bool x.gone)])]) (fun i => l.length - i) 0 (Wk_to [0, 3, 5] [(192, 192)] rfl rfl (by simp)) (by simp) ?_
  rintro i ⟨hi, hall⟩
  have hn : ∀ k : Nat, k < l.length → cellLt (nth l k) x = false → cellLt x (nth l k) = true := fun k hk h => before_ne (hx _ (nth_mem hk)) h
  have hft : List.take (i * 8) (flat l) = flat (l.take i) := flat_take l i
  have hfd : List.drop (i * 8) (flat l) = flat (l.drop i) := flat_drop l i
  refine AW_of h162 TryzT_ok (by kernel_rfl) ?_
  rcases Nat.lt_or_ge i l.length with h1 | h1
  · simp -dsimp [h1, ne_of_lt h1]
    repeat (first | refine ⟨by omega, ?_⟩ | refine ⟨by simp [capMax]; omega, ?_⟩ | refine ⟨⟨by omega, by omega⟩, ?_⟩)
    refine ACallK_of (f232_ok _ _) ?_
    have hb := before_cmp (nth l i).dot x.dot
    by_cases g : cmpDot (nth l i).dot x.dot < 0
    · have hlt : cellLt (nth l i) x = true := by simp only [cellLt]; rw [hb]; simp [g]
      simp -dsimp [h1, ne_of_lt h1, g]
      repeat (first | refine ⟨by omega, ?_⟩ | refine ⟨by simp [capMax]; omega, ?_⟩ | refine ⟨⟨by omega, by omega⟩, ?_⟩)
      exact Back_of (i + 1) [0, 3, 5] [(192, 192)] rfl rfl (by simp; rw [wrap64 (by omega) (by omega)]) ⟨by omega, fun k hk => by
        by_cases e : k = i
        · subst e; exact hlt
        · exact hall k (by omega)⟩ (by omega)
    · have hlt : cellLt (nth l i) x = false := by simp only [cellLt]; rw [hb]; simp [g]
      have he := insF_at cellLt_Lt (x := x) hi hall (fun _ => hlt) hn
      simp -dsimp [h1, ne_of_lt h1, g, hft, hfd]
      repeat (first | refine ⟨by omega, ?_⟩ | refine ⟨by simp [capMax]; omega, ?_⟩ | refine ⟨⟨by omega, by omega⟩, ?_⟩)
      have hfd2 : List.take ((l.length - i) * 8) (flat (l.drop i)) = flat (l.drop i) := by
        have h := flat_take (l.drop i) (l.length - i)
        have e := List.take_of_length_le (i := l.length - i) (l := l.drop i) (by simp)
        rw [e] at h
        exact h
      rw [← he, hfd2, ← flat_append]
      exact ⟨by simp; omega, by simp⟩
  · obtain rfl : i = l.length := by omega
    have he := insF_at cellLt_Lt (x := x) hi hall (fun h => absurd h (by omega)) hn
    simp -dsimp [hft, hfd]
    repeat (first | refine ⟨by omega, ?_⟩ | refine ⟨by simp [capMax]; omega, ?_⟩ | refine ⟨⟨by omega, by omega⟩, ?_⟩)
    rw [← he]
    simp

def keepK (m : Bool) (o k : ByteArray) (kn : List Int) (x : GLive) : Bool := !((x.map == m) && (decide (x.obj = o) && (decide (x.key = k) && knows kn x.dot)))
def clearK (m : Bool) (o k : ByteArray) (kn : List Int) (l : List GLive) (i : Nat) : List GLive := filK (keepK m o k kn) [] l i
theorem clearK_len (m : Bool) (o k : ByteArray) (kn : List Int) (l : List GLive) (i : Nat) : (clearK m o k kn l i).length ≤ i := by
  have := filK_len (keepK m o k kn) [] l i
  simpa [clearK] using this

@[simp] def h161 : Hts := { merge := fun _ => false, mergeF := fun _ => false }
set_option maxHeartbeats 4000000 in
theorem f161_ok (l : List GLive) (m : Bool) (a : GAct) (ha : l.length ≤ 1000000) (hk : a.knew.length ≤ 1073741824) : FnR Tryz.prog 161 [.v (.im l.length (flat l)), .v (.bool m), .agg [.int .i64 a.dot.rep, .int .i64 a.dot.seq, .int .i64 a.time, .im a.knew.length (flat a.knew), .int .i64 a.kind, .str a.obj, .str a.key, .int .i64 a.val, .int .i64 a.ref.rep, .int .i64 a.ref.seq]] (.v (.ow 182 6 (clearK m a.obj a.key a.knew l l.length).length (flat (clearK m a.obj a.key a.knew l l.length)))) := by
  refine FnW.of_AW TryzT_ok 0 (fn := Tryz.f161) (by kernel_rfl) rfl (by kernel_rfl) rfl rfl rfl ?_; refine AW_of h161 TryzT_ok (by kernel_rfl) ?_
  simp -dsimp
  refine AWh_loop (fun i : Nat => i ≤ l.length) (fun i => mkE [(1, .c (.bool m)), (5, .box 320 0), (7, .arr 900001), (11, .c (.im l.length (flat l))), (12, .c (.int .i64 l.length)), (13, .c (.int .i64 i))] [(900001, .arr 0 182 6 (clearK m a.obj a.key a.knew l i).length (flat (clearK m a.obj a.key a.knew l i))), (320, .box [.c (.int .i64 a.dot.rep), .c (.int .i64 a.dot.seq), .c (.int .i64 a.time), .c (.im a.knew.length (flat a.knew)), .c (.int .i64 a.kind), .c (.str a.obj), .c (.str a.key), .c (.int .i64 a.val), .c (.int .i64 a.ref.rep), .c (.int .i64 a.ref.seq)])]) (fun i => l.length - i) 0 (Wk_to [1, 5, 7, 11, 12, 13] [(900001, 640), (320, 320)] rfl rfl (by simp [clearK, filK])) (by simp) ?_
  rintro i hi
  have hcl := clearK_len m a.obj a.key a.knew l i
  refine AW_of h161 TryzT_ok (by kernel_rfl) ?_
  rcases Nat.lt_or_ge i l.length with h1 | h1
  · by_cases e1 : (nth l i).map = m
    case neg =>
      have b1 : ((nth l i).map != m) = true := by simp [e1]
      have b2 : ((nth l i).map ^^ m) = true := by revert e1; cases (nth l i).map <;> cases m <;> simp
      have b3 : ((nth l i).map == m) = false := by simp [e1]
      have hn : (clearK m a.obj a.key a.knew l (i + 1)) = (clearK m a.obj a.key a.knew l i) ++ [nth l i] := by simp [clearK, filK, keepK, e1]
      simp -dsimp [h1, ne_of_lt h1, b1, b2, b3]
      repeat (first | refine ⟨by omega, ?_⟩ | refine ⟨by simp [capMax]; omega, ?_⟩ | refine ⟨⟨by omega, by omega⟩, ?_⟩)
      exact Back_of (i + 1) [1, 5, 7, 11, 12, 13] [(900001, 2944), (320, 320)] rfl rfl (by simp [hn]; rw [wrap64 (by omega) (by omega)]) (by omega) (by omega)
    have b1 : ((nth l i).map != m) = false := by simp [e1]
    have b2 : ((nth l i).map ^^ m) = false := by rw [e1]; cases m <;> rfl
    have b3 : ((nth l i).map == m) = true := by simp [e1]
    by_cases e2 : (nth l i).obj = a.obj
    case neg =>
      have hn : (clearK m a.obj a.key a.knew l (i + 1)) = (clearK m a.obj a.key a.knew l i) ++ [nth l i] := by simp [clearK, filK, keepK, e2]
      simp -dsimp [h1, ne_of_lt h1, b1, b2, b3, e2]
      repeat (first | refine ⟨by omega, ?_⟩ | refine ⟨by simp [capMax]; omega, ?_⟩ | refine ⟨⟨by omega, by omega⟩, ?_⟩)
      exact Back_of (i + 1) [1, 5, 7, 11, 12, 13] [(900001, 2944), (320, 320)] rfl rfl (by simp [hn]; rw [wrap64 (by omega) (by omega)]) (by omega) (by omega)
    by_cases e3 : (nth l i).key = a.key
    case neg =>
      have hn : (clearK m a.obj a.key a.knew l (i + 1)) = (clearK m a.obj a.key a.knew l i) ++ [nth l i] := by simp [clearK, filK, keepK, e3]
      simp -dsimp [h1, ne_of_lt h1, b1, b2, b3, eq_true e2, e3]
      repeat (first | refine ⟨by omega, ?_⟩ | refine ⟨by simp [capMax]; omega, ?_⟩ | refine ⟨⟨by omega, by omega⟩, ?_⟩)
      exact Back_of (i + 1) [1, 5, 7, 11, 12, 13] [(900001, 2944), (320, 320)] rfl rfl (by simp [hn]; rw [wrap64 (by omega) (by omega)]) (by omega) (by omega)
    simp -dsimp [h1, ne_of_lt h1, b1, b2, b3, eq_true e2, eq_true e3]
    repeat (first | refine ⟨by omega, ?_⟩ | refine ⟨by simp [capMax]; omega, ?_⟩ | refine ⟨⟨by omega, by omega⟩, ?_⟩)
    refine ACallK_of (f151_ok _ _ hk) ?_
    cases g : knows a.knew (nth l i).dot
    · skip
      have hn : (clearK m a.obj a.key a.knew l (i + 1)) = (clearK m a.obj a.key a.knew l i) ++ [nth l i] := by simp [clearK, filK, keepK, g]
      simp -dsimp [h1, ne_of_lt h1, b1, b2, b3]
      repeat (first | refine ⟨by omega, ?_⟩ | refine ⟨by simp [capMax]; omega, ?_⟩ | refine ⟨⟨by omega, by omega⟩, ?_⟩)
      exact Back_of (i + 1) [1, 5, 7, 11, 12, 13] [(900001, 2944), (320, 320)] rfl rfl (by simp [hn]; rw [wrap64 (by omega) (by omega)]) (by omega) (by omega)
    · skip
      have hn : (clearK m a.obj a.key a.knew l (i + 1)) = (clearK m a.obj a.key a.knew l i) := by simp [clearK, filK, keepK, e1, e2, e3, g]
      simp -dsimp [h1, ne_of_lt h1, b1, b2, b3]
      repeat (first | refine ⟨by omega, ?_⟩ | refine ⟨by simp [capMax]; omega, ?_⟩ | refine ⟨⟨by omega, by omega⟩, ?_⟩)
      exact Back_of (i + 1) [1, 5, 7, 11, 12, 13] [(900001, 900001), (320, 320)] rfl rfl (by simp [hn]; rw [wrap64 (by omega) (by omega)]) (by omega) (by omega)
  · obtain rfl : i = l.length := by omega
    simp -dsimp

@[simp] def h225 : Hts := { merge := fun _ => false, mergeF := fun _ => false }
set_option maxHeartbeats 4000000 in
theorem f225_ok (u0 u1 u3 : Value) (l : List GLive) (m : Bool) (o k : ByteArray) (kn : List Int) (ha : l.length ≤ 1000000) (hk : kn.length ≤ 1073741824) : FnW Tryz.prog 225 [.ptr [.tk u0, .tk u1, .ow 182 6 l.length (flat l), .tk u3], .v (.bool m), .v (.str o), .v (.str k), .v (.im kn.length (flat kn))] (.tup []) [.ptr [.tk u0, .tk u1, .ow 182 6 (clearK m o k kn l l.length).length (flat (clearK m o k kn l l.length)), .tk u3], .any, .any, .any, .any] := by
  refine FnW.of_AW TryzT_ok 1 (fn := Tryz.f225) (by kernel_rfl) rfl (by kernel_rfl) rfl rfl rfl ?_; refine AW_of h225 TryzT_ok (by kernel_rfl) ?_
  simp -dsimp
  refine AWh_loop (fun i : Nat => i ≤ l.length) (fun i => mkE [(0, .box 640000 0), (1, .c (.bool m)), (2, .c (.str o)), (3, .c (.str k)), (4, .c (.im kn.length (flat kn))), (10, .arr 900001), (11, .c (.int .i64 i))] [(900001, .arr 0 182 6 (clearK m o k kn l i).length (flat (clearK m o k kn l i))), (640000, .box [.c (.tk u0), .c (.tk u1), .arr 640003, .c (.tk u3)]), (640003, .arr 0 182 6 l.length (flat l))]) (fun i => l.length - i) 0 (Wk_to [0, 1, 2, 3, 4, 10, 11] [(900001, 832), (640000, 640000), (640003, 640003)] rfl rfl (by simp [clearK, filK])) (by simp) ?_
  rintro i hi
  have hcl := clearK_len m o k kn l i
  refine AW_of h225 TryzT_ok (by kernel_rfl) ?_
  rcases Nat.lt_or_ge i l.length with h1 | h1
  · by_cases e1 : (nth l i).map = m
    case neg =>
      have b1 : ((nth l i).map != m) = true := by simp [e1]
      have b2 : ((nth l i).map ^^ m) = true := by revert e1; cases (nth l i).map <;> cases m <;> simp
      have b3 : ((nth l i).map == m) = false := by simp [e1]
      have hn : (clearK m o k kn l (i + 1)) = (clearK m o k kn l i) ++ [nth l i] := by simp [clearK, filK, keepK, e1]
      simp -dsimp [h1, ne_of_lt h1, b1, b2, b3]
      repeat (first | refine ⟨by omega, ?_⟩ | refine ⟨by simp [capMax]; omega, ?_⟩ | refine ⟨⟨by omega, by omega⟩, ?_⟩)
      exact Back_of (i + 1) [0, 1, 2, 3, 4, 10, 11] [(900001, 3584), (640000, 640000), (640003, 640003)] rfl rfl (by simp [hn]; rw [wrap64 (by omega) (by omega)]) (by omega) (by omega)
    have b1 : ((nth l i).map != m) = false := by simp [e1]
    have b2 : ((nth l i).map ^^ m) = false := by rw [e1]; cases m <;> rfl
    have b3 : ((nth l i).map == m) = true := by simp [e1]
    by_cases e2 : (nth l i).obj = o
    case neg =>
      have hn : (clearK m o k kn l (i + 1)) = (clearK m o k kn l i) ++ [nth l i] := by simp [clearK, filK, keepK, e2]
      simp -dsimp [h1, ne_of_lt h1, b1, b2, b3, e2]
      repeat (first | refine ⟨by omega, ?_⟩ | refine ⟨by simp [capMax]; omega, ?_⟩ | refine ⟨⟨by omega, by omega⟩, ?_⟩)
      exact Back_of (i + 1) [0, 1, 2, 3, 4, 10, 11] [(900001, 3584), (640000, 640000), (640003, 640003)] rfl rfl (by simp [hn]; rw [wrap64 (by omega) (by omega)]) (by omega) (by omega)
    by_cases e3 : (nth l i).key = k
    case neg =>
      have hn : (clearK m o k kn l (i + 1)) = (clearK m o k kn l i) ++ [nth l i] := by simp [clearK, filK, keepK, e3]
      simp -dsimp [h1, ne_of_lt h1, b1, b2, b3, eq_true e2, e3]
      repeat (first | refine ⟨by omega, ?_⟩ | refine ⟨by simp [capMax]; omega, ?_⟩ | refine ⟨⟨by omega, by omega⟩, ?_⟩)
      exact Back_of (i + 1) [0, 1, 2, 3, 4, 10, 11] [(900001, 3584), (640000, 640000), (640003, 640003)] rfl rfl (by simp [hn]; rw [wrap64 (by omega) (by omega)]) (by omega) (by omega)
    simp -dsimp [h1, ne_of_lt h1, b1, b2, b3, eq_true e2, eq_true e3]
    repeat (first | refine ⟨by omega, ?_⟩ | refine ⟨by simp [capMax]; omega, ?_⟩ | refine ⟨⟨by omega, by omega⟩, ?_⟩)
    refine ACallK_of (f137_ok _ _ hk) ?_
    cases g : knows kn (nth l i).dot
    · skip
      have hn : (clearK m o k kn l (i + 1)) = (clearK m o k kn l i) ++ [nth l i] := by simp [clearK, filK, keepK, g]
      simp -dsimp [h1, ne_of_lt h1, b1, b2, b3]
      repeat (first | refine ⟨by omega, ?_⟩ | refine ⟨by simp [capMax]; omega, ?_⟩ | refine ⟨⟨by omega, by omega⟩, ?_⟩)
      exact Back_of (i + 1) [0, 1, 2, 3, 4, 10, 11] [(900001, 3584), (640000, 640000), (640003, 640003)] rfl rfl (by simp [hn]; rw [wrap64 (by omega) (by omega)]) (by omega) (by omega)
    · skip
      have hn : (clearK m o k kn l (i + 1)) = (clearK m o k kn l i) := by simp [clearK, filK, keepK, e1, e2, e3, g]
      simp -dsimp [h1, ne_of_lt h1, b1, b2, b3]
      repeat (first | refine ⟨by omega, ?_⟩ | refine ⟨by simp [capMax]; omega, ?_⟩ | refine ⟨⟨by omega, by omega⟩, ?_⟩)
      exact Back_of (i + 1) [0, 1, 2, 3, 4, 10, 11] [(900001, 900001), (640000, 640000), (640003, 640003)] rfl rfl (by simp [hn]; rw [wrap64 (by omega) (by omega)]) (by omega) (by omega)
  · obtain rfl : i = l.length := by omega
    simp -dsimp
end Am
