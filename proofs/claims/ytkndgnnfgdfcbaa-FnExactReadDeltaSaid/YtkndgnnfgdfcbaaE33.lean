/- What reads: texts, dots, knowledge, how many. No condition. -/
import Derived.Test.YtkndgnnfgdfcbaaT
import Derived.Test.YtkndgnnfgdfcbaaD
import Derived.Test.YtkndgnnfgdfcbaaE32
import Derived.Test.YtkndgnnfgdfcbaaAm31
namespace Am
open Go Go.Proofs
open Cel (cells)
set_option maxRecDepth 100000
set_option linter.unusedSimpArgs false
set_option linter.unusedVariables false

theorem rvGo_spec : ∀ (f : Nat) (l ds : List UInt8) (n c : Nat), rvGo l ds f = some (n, c) → n ≤ 1000000000 ∧ ds.length < c ∧ c ≤ ds.length + l.length
  | 0, _, _, _, _, h => by simp [rvGo] at h
  | f + 1, [], _, _, _, h => by simp [rvGo] at h
  | f + 1, x :: r, ds, n, c, h => by
    simp only [rvGo] at h
    split at h
    · have := rvGo_spec f r (ds ++ [x]) n c h
      simp at this ⊢
      omega
    · split at h
      · cases h
      · simp only [Option.some.injEq, Prod.mk.injEq] at h
        obtain ⟨rfl, rfl⟩ := h
        simp at *
        omega
theorem rd_spec {t : ByteArray} {p n a : Int} (h : rd t p = some (n, a)) : 0 ≤ p ∧ 0 ≤ n ∧ n ≤ 1000000000 ∧ p < a ∧ a ≤ t.size := by
  unfold rd at h
  split at h
  · rename_i hp
    simp only [Option.map_eq_some_iff] at h
    obtain ⟨⟨m, c⟩, h1, h2⟩ := h
    have h3 := rvGo_spec 5 _ _ _ _ h1
    simp only [Prod.mk.injEq] at h2
    obtain ⟨rfl, rfl⟩ := h2
    simp at h3
    have : t.data.size = t.size := rfl
    omega
  · cases h
def rs (t : ByteArray) (p : Int) : Option (ByteArray × Int) := match rd t p with
  | none => none
  | some x => if 20000 < x.1 ∨ t.size - x.2 < x.1 then none else some (t.extract x.2.toNat (x.2 + x.1).toNat, x.2 + x.1)
def rsS (o : Option (ByteArray × Int)) : ByteArray := match o with | some x => x.1 | none => ⟨#[]⟩
def rsN (o : Option (ByteArray × Int)) : Int := match o with | some x => x.2 | none => 0

@[simp] def h139 : Hts := { merge := fun _ => false }
set_option maxHeartbeats 1000000 in
theorem f139_ok (t : ByteArray) (p : Int) (ht : t.size ≤ 1073741824) : FnR Try.prog 139 [.v (.str t), .v (.int .i64 p)] (.tup [.v (.str (rsS (rs t p))), .v (.int .i64 (rsN (rs t p))), .v (.bool ((rs t p).isSome))]) := by
  refine FnW.of_AW TryT_ok 0 (fn := Try.f139) (by kernel_rfl) rfl (by kernel_rfl) rfl rfl rfl ?_
  refine AW_of h139 TryT_ok (by kernel_rfl) ?_
  simp -dsimp
  refine ACallK_of (f138_ok _ _ ht) ?_
  cases g : rd t p with
  | none =>
    simp -dsimp [rdV, rdN]
    simp [rs, g, rsS, rsN]
  | some x =>
    obtain ⟨n, a⟩ := x
    obtain ⟨r0, r1, r2, r3, r4⟩ := rd_spec g
    have w1 : IntKind.i64.wrap ((t.size : Int) - a) = t.size - a := wrap64 (by omega) (by omega)
    rcases Int.lt_or_le 20000 n with c1 | c1
    · have c1' : ¬ n ≤ 20000 := by omega
      simp -dsimp [rdV, rdN, w1, c1, c1']
      simp [rs, g, rsS, rsN, c1]
    · have c1' : ¬ 20000 < n := by omega
      rcases Int.lt_or_le ((t.size : Int) - a) n with c2 | c2
      · have c2' : ¬ n ≤ (t.size : Int) - a := by omega
        simp -dsimp [rdV, rdN, w1, c1, c1', c2, c2']
        simp [rs, g, rsS, rsN, c2]
      · have c2' : ¬ (t.size : Int) - a < n := by omega
        have w2 : IntKind.i64.wrap (a + n) = a + n := wrap64 (by omega) (by omega)
        simp -dsimp [rdV, rdN, w1, w2, c1, c1', c2, c2']
        simp [rs, g, rsS, rsN, c1', c2']
        try omega

@[simp] def h146 : Hts := { merge := fun _ => false }
set_option maxHeartbeats 1000000 in
theorem f146_ok (t : ByteArray) (p : Int) (ht : t.size ≤ 1073741824) : FnR Try.prog 146 [.v (.str t), .v (.int .i64 p)] (.tup [.v (.str (rsS (rs t p))), .v (.int .i64 (rsN (rs t p))), .v (.bool ((rs t p).isSome))]) := by
  refine FnW.of_AW TryT_ok 0 (fn := Try.f146) (by kernel_rfl) rfl (by kernel_rfl) rfl rfl rfl ?_
  refine AW_of h146 TryT_ok (by kernel_rfl) ?_
  simp -dsimp
  refine ACallK_of (f145_ok _ _ ht) ?_
  cases g : rd t p with
  | none =>
    simp -dsimp [rdV, rdN]
    simp [rs, g, rsS, rsN]
  | some x =>
    obtain ⟨n, a⟩ := x
    obtain ⟨r0, r1, r2, r3, r4⟩ := rd_spec g
    have w1 : IntKind.i64.wrap ((t.size : Int) - a) = t.size - a := wrap64 (by omega) (by omega)
    rcases Int.lt_or_le 20000 n with c1 | c1
    · have c1' : ¬ n ≤ 20000 := by omega
      simp -dsimp [rdV, rdN, w1, c1, c1']
      simp [rs, g, rsS, rsN, c1]
    · have c1' : ¬ 20000 < n := by omega
      rcases Int.lt_or_le ((t.size : Int) - a) n with c2 | c2
      · have c2' : ¬ n ≤ (t.size : Int) - a := by omega
        simp -dsimp [rdV, rdN, w1, c1, c1', c2, c2']
        simp [rs, g, rsS, rsN, c2]
      · have c2' : ¬ (t.size : Int) - a < n := by omega
        have w2 : IntKind.i64.wrap (a + n) = a + n := wrap64 (by omega) (by omega)
        simp -dsimp [rdV, rdN, w1, w2, c1, c1', c2, c2']
        simp [rs, g, rsS, rsN, c1', c2']
        try omega

def shM (s : GScan) : ByteArray × GScan := if s.bad = true then (⟨#[]⟩, s) else match rs s.t s.pos with
  | none => (⟨#[]⟩, ⟨s.t, s.pos, true⟩)
  | some x => (x.1, ⟨s.t, x.2, false⟩)

@[simp] def h89 : Hts := { merge := fun _ => false, dr := fun id => if id = 3 then [{}, {}, {}, {}, {}, {}, {}, {}, { cr := true }, {}, {}, {}, {}, {}, {}, {}] else [] }
theorem f89_ok (s : GScan) (ht : s.t.size ≤ 1073741824) : FnW Try.prog 89 [.ptr [.str (s).t, .int .i64 (s).pos, .bool (s).bad]] (.v (.str ((shM s).1))) [.ptr [.str ((shM s).2).t, .int .i64 ((shM s).2).pos, .bool ((shM s).2).bad]] := by
  obtain ⟨t, p, b⟩ := s
  refine FnW.of_AW TryT_ok 1 (fn := Try.f89) (by kernel_rfl) rfl (by kernel_rfl) rfl rfl rfl ?_
  refine AW_of h89 TryT_ok (by kernel_rfl) ?_
  cases b
  · simp -dsimp
    refine ACallK_of (f139_ok _ _ ht) ?_
    cases g : rs t p with
    | none =>
      simp -dsimp [rsS, rsN]
      simp [shM, g]
    | some x =>
      simp -dsimp [rsS, rsN]
      simp [shM, g]
  · simp -dsimp
    simp [shM]

@[simp] def h99 : Hts := { merge := fun _ => false, dr := fun id => if id = 1 then [{}, {}, {}, {}, {}, {}, {}, {}, { cr := true }, {}, {}, {}, {}, {}, {}, {}] else [] }
theorem f99_ok (s : GScan) (ht : s.t.size ≤ 1073741824) : FnW Try.prog 99 [.ptr [.str (s).t, .int .i64 (s).pos, .bool (s).bad]] (.v (.str ((shM s).1))) [.ptr [.str ((shM s).2).t, .int .i64 ((shM s).2).pos, .bool ((shM s).2).bad]] := by
  obtain ⟨t, p, b⟩ := s
  refine FnW.of_AW TryT_ok 1 (fn := Try.f99) (by kernel_rfl) rfl (by kernel_rfl) rfl rfl rfl ?_
  refine AW_of h99 TryT_ok (by kernel_rfl) ?_
  cases b
  · simp -dsimp
    refine ACallK_of (f146_ok _ _ ht) ?_
    cases g : rs t p with
    | none =>
      simp -dsimp [rsS, rsN]
      simp [shM, g]
    | some x =>
      simp -dsimp [rsS, rsN]
      simp [shM, g]
  · simp -dsimp
    refine ACallK_of (f146_ok _ _ ht) ?_
    simp -dsimp
    simp [shM]

def dotM (s : GScan) : GDot × GScan := (⟨(numM s).1, (numM (numM s).2).1⟩, (numM (numM s).2).2)
def setBad (s : GScan) : GScan := ⟨s.t, s.pos, true⟩
def cntM (s : GScan) : Int × GScan := if 120 < (numM s).1 then (0, setBad (numM s).2) else numM s
def flagM (s : GScan) : Bool × GScan := ((numM s).1 == 1, if 1 < (numM s).1 then setBad (numM s).2 else (numM s).2)
theorem numM_t (s : GScan) : (numM s).2.t = s.t := by
  unfold numM
  split
  · rfl
  · split <;> rfl

@[simp] def h61 : Hts := { lend := fun _ => [.box []] }
theorem f61_ok (s : GScan) (ht : s.t.size ≤ 1073741824) : FnW Try.prog 61 [.ptr [.str (s).t, .int .i64 (s).pos, .bool (s).bad]] (.agg [.int .i64 ((dotM s).1).rep, .int .i64 ((dotM s).1).seq]) [.ptr [.str ((dotM s).2).t, .int .i64 ((dotM s).2).pos, .bool ((dotM s).2).bad]] := by
  refine FnW.of_AW TryT_ok 1 (fn := Try.f61) (by kernel_rfl) rfl (by kernel_rfl) rfl rfl rfl ?_
  refine AW_of h61 TryT_ok (by kernel_rfl) ?_
  simp -dsimp
  refine ACallW_args (by intro us; simp -dsimp; exact ⟨rfl, rfl, rfl⟩) ?_
  refine ACallC_of (fun us => f88_ok s ht) (by intro us; simp -dsimp; exact ⟨rfl, rfl⟩) ?_
  simp -dsimp
  refine ACallW_args (by intro us; simp -dsimp; exact ⟨rfl, rfl, rfl⟩) ?_
  refine ACallC_of (fun us => f88_ok (numM s).2 (by rw [numM_t]; exact ht)) (by intro us; simp -dsimp; exact ⟨rfl, rfl⟩) ?_
  simp -dsimp
  exact ⟨⟨rfl, rfl⟩, rfl, rfl, rfl⟩

@[simp] def h64 : Hts := { lend := fun _ => [.box []] }
theorem f64_ok (s : GScan) (ht : s.t.size ≤ 1073741824) : FnW Try.prog 64 [.ptr [.str (s).t, .int .i64 (s).pos, .bool (s).bad]] (.agg [.int .i64 ((dotM s).1).rep, .int .i64 ((dotM s).1).seq]) [.ptr [.str ((dotM s).2).t, .int .i64 ((dotM s).2).pos, .bool ((dotM s).2).bad]] := by
  refine FnW.of_AW TryT_ok 1 (fn := Try.f64) (by kernel_rfl) rfl (by kernel_rfl) rfl rfl rfl ?_
  refine AW_of h64 TryT_ok (by kernel_rfl) ?_
  simp -dsimp
  refine ACallW_args (by intro us; simp -dsimp; exact ⟨rfl, rfl, rfl⟩) ?_
  refine ACallC_of (fun us => f98_ok s ht) (by intro us; simp -dsimp; exact ⟨rfl, rfl⟩) ?_
  simp -dsimp
  refine ACallW_args (by intro us; simp -dsimp; exact ⟨rfl, rfl, rfl⟩) ?_
  refine ACallC_of (fun us => f98_ok (numM s).2 (by rw [numM_t]; exact ht)) (by intro us; simp -dsimp; exact ⟨rfl, rfl⟩) ?_
  simp -dsimp
  exact ⟨⟨rfl, rfl⟩, rfl, rfl, rfl⟩

def kn (s : GScan) : Nat → List Int × GScan
  | 0 => ([], s)
  | i + 1 => ((kn s i).1 ++ [(numM (kn s i).2).1], (numM (kn s i).2).2)
theorem kn_t (s : GScan) : ∀ i, (kn s i).2.t = s.t
  | 0 => rfl
  | i + 1 => by rw [kn, numM_t, kn_t s i]
theorem kn_len (s : GScan) : ∀ i, (kn s i).1.length = i
  | 0 => rfl
  | i + 1 => by simp [kn, kn_len s i]
def knowM (s : GScan) : List Int × GScan := kn s 3

@[simp] def h37 : Hts := { lend := fun f => if f = 88 then [.box []] else [] }
theorem f37_ok (s : GScan) (ht : s.t.size ≤ 1073741824) : FnW Try.prog 37 [.ptr [.str (s).t, .int .i64 (s).pos, .bool (s).bad]] (.v (.ow 3 1 ((knowM s).1).length (flat ((knowM s).1)))) [.ptr [.str ((knowM s).2).t, .int .i64 ((knowM s).2).pos, .bool ((knowM s).2).bad]] := by
  refine FnW.of_AW TryT_ok 1 (fn := Try.f37) (by kernel_rfl) rfl (by kernel_rfl) rfl rfl rfl ?_
  refine AW_of h37 TryT_ok (by kernel_rfl) ?_
  simp -dsimp
  refine AWh_loop (fun i : Nat => i ≤ 3) (fun i => mkE [(0, .box 640000 0), (3, .arr 192), (4, .c (.int .i64 i))] [(640000, .box [.c (.str (kn s i).2.t), .c (.int .i64 (kn s i).2.pos), .c (.bool (kn s i).2.bad)]), (192, .arr 0 3 1 (kn s i).1.length (flat (kn s i).1))]) (fun i => 3 - i) 0 (Wk_to [0, 3, 4] [(640000, 640000), (192, 320)] rfl rfl (by simp [kn])) (by simp) ?_
  rintro i hi
  have hl := kn_len s i
  refine AW_of h37 TryT_ok (by kernel_rfl) ?_
  rcases Nat.lt_or_ge i 3 with h1 | h1
  · have h1' : (i : Int) < 3 := by omega
    simp -dsimp [h1']
    refine ACallW_args (by intro us; simp -dsimp; exact ⟨rfl, rfl, rfl⟩) ?_
    refine ACallC_of (fun us => f88_ok (kn s i).2 (by rw [kn_t]; exact ht)) (by intro us; simp -dsimp; exact ⟨rfl, rfl⟩) ?_
    simp -dsimp
    refine ⟨by simp [capMax]; omega, ?_⟩
    exact Back_of (i + 1) [0, 3, 4] [(640000, 640000), (192, 896)] rfl rfl (by simp [kn]; rw [wrap64 (by omega) (by omega)]) (by omega) (by omega)
  · obtain rfl : i = 3 := by omega
    simp -dsimp
    exact ⟨⟨rfl, rfl⟩, rfl, rfl, rfl⟩

@[simp] def h43 : Hts := { lend := fun f => if f = 98 then [.box []] else [] }
theorem f43_ok (s : GScan) (ht : s.t.size ≤ 1073741824) : FnW Try.prog 43 [.ptr [.str (s).t, .int .i64 (s).pos, .bool (s).bad]] (.v (.ow 3 1 ((knowM s).1).length (flat ((knowM s).1)))) [.ptr [.str ((knowM s).2).t, .int .i64 ((knowM s).2).pos, .bool ((knowM s).2).bad]] := by
  refine FnW.of_AW TryT_ok 1 (fn := Try.f43) (by kernel_rfl) rfl (by kernel_rfl) rfl rfl rfl ?_
  refine AW_of h43 TryT_ok (by kernel_rfl) ?_
  simp -dsimp
  refine AWh_loop (fun i : Nat => i ≤ 3) (fun i => mkE [(0, .box 640000 0), (3, .arr 192), (6, .c (.int .i64 i))] [(640000, .box [.c (.str (kn s i).2.t), .c (.int .i64 (kn s i).2.pos), .c (.bool (kn s i).2.bad)]), (192, .arr 0 3 1 (kn s i).1.length (flat (kn s i).1))]) (fun i => 3 - i) 0 (Wk_to [0, 3, 6] [(640000, 640000), (192, 320)] rfl rfl (by simp [kn])) (by simp) ?_
  rintro i hi
  have hl := kn_len s i
  refine AW_of h43 TryT_ok (by kernel_rfl) ?_
  rcases Nat.lt_or_ge i 3 with h1 | h1
  · have h1' : (i : Int) < 3 := by omega
    simp -dsimp [h1']
    refine ACallW_args (by intro us; simp -dsimp; exact ⟨rfl, rfl, rfl⟩) ?_
    refine ACallC_of (fun us => f98_ok (kn s i).2 (by rw [kn_t]; exact ht)) (by intro us; simp -dsimp; exact ⟨rfl, rfl⟩) ?_
    simp -dsimp
    refine ⟨by simp [capMax]; omega, ?_⟩
    exact Back_of (i + 1) [0, 3, 6] [(640000, 640000), (192, 832)] rfl rfl (by simp [kn]; rw [wrap64 (by omega) (by omega)]) (by omega) (by omega)
  · obtain rfl : i = 3 := by omega
    simp -dsimp
    exact ⟨⟨rfl, rfl⟩, rfl, rfl, rfl⟩

@[simp] def h60 : Hts := { lend := fun _ => [.box []] }
theorem f60_ok (s : GScan) (ht : s.t.size ≤ 1073741824) : FnW Try.prog 60 [.ptr [.str (s).t, .int .i64 (s).pos, .bool (s).bad]] (.v (.int .i64 ((cntM s).1))) [.ptr [.str ((cntM s).2).t, .int .i64 ((cntM s).2).pos, .bool ((cntM s).2).bad]] := by
  refine FnW.of_AW TryT_ok 1 (fn := Try.f60) (by kernel_rfl) rfl (by kernel_rfl) rfl rfl rfl ?_
  refine AW_of h60 TryT_ok (by kernel_rfl) ?_
  simp -dsimp
  refine ACallW_args (by intro us; simp -dsimp; exact ⟨rfl, rfl, rfl⟩) ?_
  refine ACallC_of (fun us => f88_ok s ht) (by intro us; simp -dsimp; exact ⟨rfl, rfl⟩) ?_
  rcases Int.lt_or_le 120 (numM s).1 with h | h
  · have h' : ¬ (numM s).1 ≤ 120 := by omega
    simp -dsimp [h, h']
    simp [cntM, h, setBad]
  · have h' : ¬ 120 < (numM s).1 := by omega
    simp -dsimp [h, h']
    simp [cntM, h']

@[simp] def h63 : Hts := { lend := fun _ => [.box []] }
theorem f63_ok (s : GScan) (ht : s.t.size ≤ 1073741824) : FnW Try.prog 63 [.ptr [.str (s).t, .int .i64 (s).pos, .bool (s).bad]] (.v (.int .i64 ((cntM s).1))) [.ptr [.str ((cntM s).2).t, .int .i64 ((cntM s).2).pos, .bool ((cntM s).2).bad]] := by
  refine FnW.of_AW TryT_ok 1 (fn := Try.f63) (by kernel_rfl) rfl (by kernel_rfl) rfl rfl rfl ?_
  refine AW_of h63 TryT_ok (by kernel_rfl) ?_
  simp -dsimp
  refine ACallW_args (by intro us; simp -dsimp; exact ⟨rfl, rfl, rfl⟩) ?_
  refine ACallC_of (fun us => f98_ok s ht) (by intro us; simp -dsimp; exact ⟨rfl, rfl⟩) ?_
  rcases Int.lt_or_le 120 (numM s).1 with h | h
  · have h' : ¬ (numM s).1 ≤ 120 := by omega
    simp -dsimp [h, h']
    simp [cntM, h, setBad]
  · have h' : ¬ 120 < (numM s).1 := by omega
    simp -dsimp [h, h']
    simp [cntM, h']

@[simp] def h100 : Hts := { lend := fun _ => [.box []] }
theorem f100_ok (s : GScan) (ht : s.t.size ≤ 1073741824) : FnW Try.prog 100 [.ptr [.str (s).t, .int .i64 (s).pos, .bool (s).bad]] (.v (.bool ((flagM s).1))) [.ptr [.str ((flagM s).2).t, .int .i64 ((flagM s).2).pos, .bool ((flagM s).2).bad]] := by
  refine FnW.of_AW TryT_ok 1 (fn := Try.f100) (by kernel_rfl) rfl (by kernel_rfl) rfl rfl rfl ?_
  refine AW_of h100 TryT_ok (by kernel_rfl) ?_
  simp -dsimp
  refine ACallW_args (by intro us; simp -dsimp; exact ⟨rfl, rfl, rfl⟩) ?_
  refine ACallC_of (fun us => f98_ok s ht) (by intro us; simp -dsimp; exact ⟨rfl, rfl⟩) ?_
  rcases Int.lt_or_le 1 (numM s).1 with h | h
  · have h' : ¬ (numM s).1 ≤ 1 := by omega
    simp -dsimp [h, h']
    simp [flagM, h, setBad]
  · have h' : ¬ 1 < (numM s).1 := by omega
    simp -dsimp [h, h']
    simp [flagM, h']

def boolS (s : GScan) : Bool × GScan := if s.bad = true ∨ s.t.size ≤ s.pos ∨ 1 < bt s.t s.pos then (false, setBad s) else (bt s.t s.pos == 1, ⟨s.t, s.pos + 1, false⟩)
@[simp] def h90 : Hts := { merge := fun _ => false, dr := fun id => if id = 1 then [{}, {}, {}, {}, {}, {}, {}, {}, {}, {}, {}, {}, {}, {}, {}, {}, {}, {}, {}, {}, {}, {}, {}, {}, {}, {}, {}, {}] else if id = 5 then [{}, {}, {}, {}, {}, {}, {}, {}, {}, {}, {}, {}] else [] }
set_option maxHeartbeats 1000000 in
theorem f90_ok (s : GScan) (ht : s.t.size ≤ 1073741824) (hp : 0 ≤ s.pos) : FnW Try.prog 90 [.ptr [.str (s).t, .int .i64 (s).pos, .bool (s).bad]] (.v (.bool ((boolS s).1))) [.ptr [.str ((boolS s).2).t, .int .i64 ((boolS s).2).pos, .bool ((boolS s).2).bad]] := by
  obtain ⟨t, p, b⟩ := s
  simp only at ht hp
  refine FnW.of_AW TryT_ok 1 (fn := Try.f90) (by kernel_rfl) rfl (by kernel_rfl) rfl rfl rfl ?_
  refine AW_of h90 TryT_ok (by kernel_rfl) ?_
  cases b
  · rcases Int.lt_or_le p t.size with h1 | h1
    · have h1' : ¬ (t.size : Int) ≤ p := by omega
      rcases Int.lt_or_le 1 (bt t p) with h2 | h2
      · have h2' : ¬ bt t p ≤ 1 := by omega
        simp -dsimp [h1, h1', h2, h2', hp]
        simp [boolS, h1', h2, setBad]
      · have h2' : ¬ 1 < bt t p := by omega
        have w1 : IntKind.i64.wrap (p + 1) = p + 1 := wrap64 (by omega) (by omega)
        have w2 : IntKind.i64.wrap p = p := wrap64 (by omega) (by omega)
        simp -dsimp [h1, h1', h2, h2', hp, w1, w2]
        simp [boolS, h1', h2', h1]
    · have h1' : ¬ p < (t.size : Int) := by omega
      simp -dsimp [h1, h1']
      simp [boolS, h1, setBad]
  · simp -dsimp
    simp [boolS, setBad]
end Am
