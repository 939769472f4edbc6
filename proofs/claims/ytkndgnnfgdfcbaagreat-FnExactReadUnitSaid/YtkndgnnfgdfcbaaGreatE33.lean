/- What reads: texts, dots, knowledge, how many. No condition. -/
import Derived.Test.YtkndgnnfgdfcbaaGreatT
import Derived.Test.YtkndgnnfgdfcbaaGreatD
import Derived.Test.YtkndgnnfgdfcbaaGreatE32
import Derived.Test.YtkndgnnfgdfcbaaGreatAm31
namespace Am
open Go Go.Proofs
open Cel (cells)
set_option maxRecDepth 100000
set_option linter.unusedSimpArgs false
set_option linter.unusedVariables false

theorem rvGo_spec : ∀ (f : Nat) (l ds : List UInt8) (n c : Nat), rvGo l ds f = some (n, c) → n ≤ 1000000000 ∧ ds.length < c ∧ c ≤ ds.length + l.length
  | 0, _, _, _, _, h => by simp [rvGo] at h
  | f + 1, [], _, _, _, h => by simp [rvGo] at h
  | f + 1, x :: r, ds, n, c, h => by
    simp only [rvGo] at h
    split at h
    · have := rvGo_spec f r (ds ++ [x]) n c h
      simp at this ⊢
      omega
    · split at h
      · cases h
      · simp only [Option.some.injEq, Prod.mk.injEq] at h
        obtain ⟨rfl, rfl⟩ := h
        simp at *
        omega
theorem rd_spec {t : ByteArray} {p n a : Int} (h : rd t p = some (n, a)) : 0 ≤ p ∧ 0 ≤ n ∧ n ≤ 1000000000 ∧ p < a ∧ a ≤ t.size := by
  unfold rd at h
  split at h
  · rename_i hp
    simp only [Option.map_eq_some_iff] at h
    obtain ⟨⟨m, c⟩, h1, h2⟩ := h
    have h3 := rvGo_spec 5 _ _ _ _ h1
    simp only [Prod.mk.injEq] at h2
    obtain ⟨rfl, rfl⟩ := h2
    simp at h3
    have : t.data.size = t.size := rfl
    omega
  · cases h
def rs (t : ByteArray) (p : Int) : Option (ByteArray × Int) := match rd t p with
  | none => none
  | some x => if 20000 < x.1 ∨ t.size - x.2 < x.1 then none else some (t.extract x.2.toNat (x.2 + x.1).toNat, x.2 + x.1)
def rsS (o : Option (ByteArray × Int)) : ByteArray := match o with | some x => x.1 | none => ⟨#[]⟩
def rsN (o : Option (ByteArray × Int)) : Int := match o with | some x => x.2 | none => 0

@[simp] def h68 : Hts := { merge := fun _ => false }
set_option maxHeartbeats 1000000 in
theorem f68_ok (t : ByteArray) (p : Int) (ht : t.size ≤ 1073741824) : FnR Tryz.prog 68 [.v (.str t), .v (.int .i64 p)] (.tup [.v (.str (rsS (rs t p))), .v (.int .i64 (rsN (rs t p))), .v (.bool ((rs t p).isSome))]) := by
  refine FnW.of_AW TryzT_ok 0 (fn := Tryz.f68) (by kernel_rfl) rfl (by kernel_rfl) rfl rfl rfl ?_
  refine AW_of h68 TryzT_ok (by kernel_rfl) ?_
  simp -dsimp
  refine ACallK_of (f129_ok _ _ ht) ?_
  cases g : rd t p with
  | none =>
    simp -dsimp [rdV, rdN]
    simp [rs, g, rsS, rsN]
  | some x =>
    obtain ⟨n, a⟩ := x
    obtain ⟨r0, r1, r2, r3, r4⟩ := rd_spec g
    have w1 : IntKind.i64.wrap ((t.size : Int) - a) = t.size - a := wrap64 (by omega) (by omega)
    rcases Int.lt_or_le 20000 n with c1 | c1
    · have c1' : ¬ n ≤ 20000 := by omega
      simp -dsimp [rdV, rdN, w1, c1, c1']
      simp [rs, g, rsS, rsN, c1]
    · have c1' : ¬ 20000 < n := by omega
      rcases Int.lt_or_le ((t.size : Int) - a) n with c2 | c2
      · have c2' : ¬ n ≤ (t.size : Int) - a := by omega
        simp -dsimp [rdV, rdN, w1, c1, c1', c2, c2']
        simp [rs, g, rsS, rsN, c2]
      · have c2' : ¬ (t.size : Int) - a < n := by omega
        have w2 : IntKind.i64.wrap (a + n) = a + n := wrap64 (by omega) (by omega)
        simp -dsimp [rdV, rdN, w1, w2, c1, c1', c2, c2']
        simp [rs, g, rsS, rsN, c1', c2']
        try omega

@[simp] def h73 : Hts := { merge := fun _ => false }
set_option maxHeartbeats 1000000 in
theorem f73_ok (t : ByteArray) (p : Int) (ht : t.size ≤ 1073741824) : FnR Tryz.prog 73 [.v (.str t), .v (.int .i64 p)] (.tup [.v (.str (rsS (rs t p))), .v (.int .i64 (rsN (rs t p))), .v (.bool ((rs t p).isSome))]) := by
  refine FnW.of_AW TryzT_ok 0 (fn := Tryz.f73) (by kernel_rfl) rfl (by kernel_rfl) rfl rfl rfl ?_
  refine AW_of h73 TryzT_ok (by kernel_rfl) ?_
  simp -dsimp
  refine ACallK_of (f141_ok _ _ ht) ?_
  cases g : rd t p with
  | none =>
    simp -dsimp [rdV, rdN]
    simp [rs, g, rsS, rsN]
  | some x =>
    obtain ⟨n, a⟩ := x
    obtain ⟨r0, r1, r2, r3, r4⟩ := rd_spec g
    have w1 : IntKind.i64.wrap ((t.size : Int) - a) = t.size - a := wrap64 (by omega) (by omega)
    rcases Int.lt_or_le 20000 n with c1 | c1
    · have c1' : ¬ n ≤ 20000 := by omega
      simp -dsimp [rdV, rdN, w1, c1, c1']
      simp [rs, g, rsS, rsN, c1]
    · have c1' : ¬ 20000 < n := by omega
      rcases Int.lt_or_le ((t.size : Int) - a) n with c2 | c2
      · have c2' : ¬ n ≤ (t.size : Int) - a := by omega
        simp -dsimp [rdV, rdN, w1, c1, c1', c2, c2']
        simp [rs, g, rsS, rsN, c2]
      · have c2' : ¬ (t.size : Int) - a < n := by omega
        have w2 : IntKind.i64.wrap (a + n) = a + n := wrap64 (by omega) (by omega)
        simp -dsimp [rdV, rdN, w1, w2, c1, c1', c2, c2']
        simp [rs, g, rsS, rsN, c1', c2']
        try omega

def shM (s : GScan) : ByteArray × GScan := if s.bad = true then (⟨#[]⟩, s) else match rs s.t s.pos with
  | none => (⟨#[]⟩, ⟨s.t, s.pos, true⟩)
  | some x => (x.1, ⟨s.t, x.2, false⟩)

@[simp] def h178 : Hts := { merge := fun _ => false, dr := fun id => if id = 3 then [{}, {}, {}, {}, {}, {}, {}, {}, { cr := true }, {}, {}, {}, {}, {}, {}, {}] else [] }
theorem f178_ok (s : GScan) (ht : s.t.size ≤ 1073741824) : FnW Tryz.prog 178 [.ptr [.str (s).t, .int .i64 (s).pos, .bool (s).bad]] (.v (.str ((shM s).1))) [.ptr [.str ((shM s).2).t, .int .i64 ((shM s).2).pos, .bool ((shM s).2).bad]] := by
  obtain ⟨t, p, b⟩ := s
  refine FnW.of_AW TryzT_ok 1 (fn := Tryz.f178) (by kernel_rfl) rfl (by kernel_rfl) rfl rfl rfl ?_
  refine AW_of h178 TryzT_ok (by kernel_rfl) ?_
  cases b
  · simp -dsimp
    refine ACallK_of (f68_ok _ _ ht) ?_
    cases g : rs t p with
    | none =>
      simp -dsimp [rsS, rsN]
      simp [shM, g]
    | some x =>
      simp -dsimp [rsS, rsN]
      simp [shM, g]
  · simp -dsimp
    simp [shM]

@[simp] def h140 : Hts := { merge := fun _ => false, dr := fun id => if id = 1 then [{}, {}, {}, {}, {}, {}, {}, {}, { cr := true }, {}, {}, {}, {}, {}, {}, {}] else [] }
theorem f140_ok (s : GScan) (ht : s.t.size ≤ 1073741824) : FnW Tryz.prog 140 [.ptr [.str (s).t, .int .i64 (s).pos, .bool (s).bad]] (.v (.str ((shM s).1))) [.ptr [.str ((shM s).2).t, .int .i64 ((shM s).2).pos, .bool ((shM s).2).bad]] := by
  obtain ⟨t, p, b⟩ := s
  refine FnW.of_AW TryzT_ok 1 (fn := Tryz.f140) (by kernel_rfl) rfl (by kernel_rfl) rfl rfl rfl ?_
  refine AW_of h140 TryzT_ok (by kernel_rfl) ?_
  cases b
  · simp -dsimp
    refine ACallK_of (f73_ok _ _ ht) ?_
    cases g : rs t p with
    | none =>
      simp -dsimp [rsS, rsN]
      simp [shM, g]
    | some x =>
      simp -dsimp [rsS, rsN]
      simp [shM, g]
  · simp -dsimp
    refine ACallK_of (f73_ok _ _ ht) ?_
    simp -dsimp
    simp [shM]

def dotM (s : GScan) : GDot × GScan := (⟨(numM s).1, (numM (numM s).2).1⟩, (numM (numM s).2).2)
def setBad (s : GScan) : GScan := ⟨s.t, s.pos, true⟩
def cntM (s : GScan) : Int × GScan := if 120 < (numM s).1 then (0, setBad (numM s).2) else numM s
def flagM (s : GScan) : Bool × GScan := ((numM s).1 == 1, if 1 < (numM s).1 then setBad (numM s).2 else (numM s).2)
theorem numM_t (s : GScan) : (numM s).2.t = s.t := by
  unfold numM
  split
  · rfl
  · split <;> rfl

@[simp] def h134 : Hts := { lend := fun _ => [.box []] }
theorem f134_ok (s : GScan) (ht : s.t.size ≤ 1073741824) : FnW Tryz.prog 134 [.ptr [.str (s).t, .int .i64 (s).pos, .bool (s).bad]] (.agg [.int .i64 ((dotM s).1).rep, .int .i64 ((dotM s).1).seq]) [.ptr [.str ((dotM s).2).t, .int .i64 ((dotM s).2).pos, .bool ((dotM s).2).bad]] := by
  refine FnW.of_AW TryzT_ok 1 (fn := Tryz.f134) (by kernel_rfl) rfl (by kernel_rfl) rfl rfl rfl ?_
  refine AW_of h134 TryzT_ok (by kernel_rfl) ?_
  simp -dsimp
  refine ACallW_args (by intro us; simp -dsimp; exact ⟨rfl, rfl, rfl⟩) ?_
  refine ACallC_of (fun us => f177_ok s ht) (by intro us; simp -dsimp; exact ⟨rfl, rfl⟩) ?_
  simp -dsimp
  refine ACallW_args (by intro us; simp -dsimp; exact ⟨rfl, rfl, rfl⟩) ?_
  refine ACallC_of (fun us => f177_ok (numM s).2 (by rw [numM_t]; exact ht)) (by intro us; simp -dsimp; exact ⟨rfl, rfl⟩) ?_
  simp -dsimp
  exact ⟨⟨rfl, rfl⟩, rfl, rfl, rfl⟩

@[simp] def h137 : Hts := { lend := fun _ => [.box []] }
theorem f137_ok (s : GScan) (ht : s.t.size ≤ 1073741824) : FnW Tryz.prog 137 [.ptr [.str (s).t, .int .i64 (s).pos, .bool (s).bad]] (.agg [.int .i64 ((dotM s).1).rep, .int .i64 ((dotM s).1).seq]) [.ptr [.str ((dotM s).2).t, .int .i64 ((dotM s).2).pos, .bool ((dotM s).2).bad]] := by
  refine FnW.of_AW TryzT_ok 1 (fn := Tryz.f137) (by kernel_rfl) rfl (by kernel_rfl) rfl rfl rfl ?_
  refine AW_of h137 TryzT_ok (by kernel_rfl) ?_
  simp -dsimp
  refine ACallW_args (by intro us; simp -dsimp; exact ⟨rfl, rfl, rfl⟩) ?_
  refine ACallC_of (fun us => f138_ok s ht) (by intro us; simp -dsimp; exact ⟨rfl, rfl⟩) ?_
  simp -dsimp
  refine ACallW_args (by intro us; simp -dsimp; exact ⟨rfl, rfl, rfl⟩) ?_
  refine ACallC_of (fun us => f138_ok (numM s).2 (by rw [numM_t]; exact ht)) (by intro us; simp -dsimp; exact ⟨rfl, rfl⟩) ?_
  simp -dsimp
  exact ⟨⟨rfl, rfl⟩, rfl, rfl, rfl⟩

def kn (s : GScan) : Nat → List Int × GScan
  | 0 => ([], s)
  | i + 1 => ((kn s i).1 ++ [(numM (kn s i).2).1], (numM (kn s i).2).2)
theorem kn_t (s : GScan) : ∀ i, (kn s i).2.t = s.t
  | 0 => rfl
  | i + 1 => by rw [kn, numM_t, kn_t s i]
theorem kn_len (s : GScan) : ∀ i, (kn s i).1.length = i
  | 0 => rfl
  | i + 1 => by simp [kn, kn_len s i]
def knowM (s : GScan) : List Int × GScan := kn s 3

@[simp] def h130 : Hts := { lend := fun f => if f = 177 then [.box []] else [] }
theorem f130_ok (s : GScan) (ht : s.t.size ≤ 1073741824) : FnW Tryz.prog 130 [.ptr [.str (s).t, .int .i64 (s).pos, .bool (s).bad]] (.v (.ow 3 1 ((knowM s).1).length (flat ((knowM s).1)))) [.ptr [.str ((knowM s).2).t, .int .i64 ((knowM s).2).pos, .bool ((knowM s).2).bad]] := by
  refine FnW.of_AW TryzT_ok 1 (fn := Tryz.f130) (by kernel_rfl) rfl (by kernel_rfl) rfl rfl rfl ?_
  refine AW_of h130 TryzT_ok (by kernel_rfl) ?_
  simp -dsimp
  refine AWh_loop (fun i : Nat => i ≤ 3) (fun i => mkE [(0, .box 640000 0), (3, .arr 192), (4, .c (.int .i64 i))] [(640000, .box [.c (.str (kn s i).2.t), .c (.int .i64 (kn s i).2.pos), .c (.bool (kn s i).2.bad)]), (192, .arr 0 3 1 (kn s i).1.length (flat (kn s i).1))]) (fun i => 3 - i) 0 (Wk_to [0, 3, 4] [(640000, 640000), (192, 320)] rfl rfl (by simp [kn])) (by simp) ?_
  rintro i hi
  have hl := kn_len s i
  refine AW_of h130 TryzT_ok (by kernel_rfl) ?_
  rcases Nat.lt_or_ge i 3 with h1 | h1
  · have h1' : (i : Int) < 3 := by omega
    simp -dsimp [h1']
    refine ACallW_args (by intro us; simp -dsimp; exact ⟨rfl, rfl, rfl⟩) ?_
    refine ACallC_of (fun us => f177_ok (kn s i).2 (by rw [kn_t]; exact ht)) (by intro us; simp -dsimp; exact ⟨rfl, rfl⟩) ?_
    simp -dsimp
    refine ⟨by simp [capMax]; omega, ?_⟩
    exact Back_of (i + 1) [0, 3, 4] [(640000, 640000), (192, 896)] rfl rfl (by simp [kn]; rw [wrap64 (by omega) (by omega)]) (by omega) (by omega)
  · obtain rfl : i = 3 := by omega
    simp -dsimp
    exact ⟨⟨rfl, rfl⟩, rfl, rfl, rfl⟩

@[simp] def h139 : Hts := { lend := fun f => if f = 138 then [.box []] else [] }
theorem f139_ok (s : GScan) (ht : s.t.size ≤ 1073741824) : FnW Tryz.prog 139 [.ptr [.str (s).t, .int .i64 (s).pos, .bool (s).bad]] (.v (.ow 3 1 ((knowM s).1).length (flat ((knowM s).1)))) [.ptr [.str ((knowM s).2).t, .int .i64 ((knowM s).2).pos, .bool ((knowM s).2).bad]] := by
  refine FnW.of_AW TryzT_ok 1 (fn := Tryz.f139) (by kernel_rfl) rfl (by kernel_rfl) rfl rfl rfl ?_
  refine AW_of h139 TryzT_ok (by kernel_rfl) ?_
  simp -dsimp
  refine AWh_loop (fun i : Nat => i ≤ 3) (fun i => mkE [(0, .box 640000 0), (3, .arr 192), (6, .c (.int .i64 i))] [(640000, .box [.c (.str (kn s i).2.t), .c (.int .i64 (kn s i).2.pos), .c (.bool (kn s i).2.bad)]), (192, .arr 0 3 1 (kn s i).1.length (flat (kn s i).1))]) (fun i => 3 - i) 0 (Wk_to [0, 3, 6] [(640000, 640000), (192, 320)] rfl rfl (by simp [kn])) (by simp) ?_
  rintro i hi
  have hl := kn_len s i
  refine AW_of h139 TryzT_ok (by kernel_rfl) ?_
  rcases Nat.lt_or_ge i 3 with h1 | h1
  · have h1' : (i : Int) < 3 := by omega
    simp -dsimp [h1']
    refine ACallW_args (by intro us; simp -dsimp; exact ⟨rfl, rfl, rfl⟩) ?_
    refine ACallC_of (fun us => f138_ok (kn s i).2 (by rw [kn_t]; exact ht)) (by intro us; simp -dsimp; exact ⟨rfl, rfl⟩) ?_
    simp -dsimp
    refine ⟨by simp [capMax]; omega, ?_⟩
    exact Back_of (i + 1) [0, 3, 6] [(640000, 640000), (192, 832)] rfl rfl (by simp [kn]; rw [wrap64 (by omega) (by omega)]) (by omega) (by omega)
  · obtain rfl : i = 3 := by omega
    simp -dsimp
    exact ⟨⟨rfl, rfl⟩, rfl, rfl, rfl⟩

@[simp] def h133 : Hts := { lend := fun _ => [.box []] }
theorem f133_ok (s : GScan) (ht : s.t.size ≤ 1073741824) : FnW Tryz.prog 133 [.ptr [.str (s).t, .int .i64 (s).pos, .bool (s).bad]] (.v (.int .i64 ((cntM s).1))) [.ptr [.str ((cntM s).2).t, .int .i64 ((cntM s).2).pos, .bool ((cntM s).2).bad]] := by
  refine FnW.of_AW TryzT_ok 1 (fn := Tryz.f133) (by kernel_rfl) rfl (by kernel_rfl) rfl rfl rfl ?_
  refine AW_of h133 TryzT_ok (by kernel_rfl) ?_
  simp -dsimp
  refine ACallW_args (by intro us; simp -dsimp; exact ⟨rfl, rfl, rfl⟩) ?_
  refine ACallC_of (fun us => f177_ok s ht) (by intro us; simp -dsimp; exact ⟨rfl, rfl⟩) ?_
  rcases Int.lt_or_le 120 (numM s).1 with h | h
  · have h' : ¬ (numM s).1 ≤ 120 := by omega
    simp -dsimp [h, h']
    simp [cntM, h, setBad]
  · have h' : ¬ 120 < (numM s).1 := by omega
    simp -dsimp [h, h']
    simp [cntM, h']

@[simp] def h144 : Hts := { lend := fun _ => [.box []] }
theorem f144_ok (s : GScan) (ht : s.t.size ≤ 1073741824) : FnW Tryz.prog 144 [.ptr [.str (s).t, .int .i64 (s).pos, .bool (s).bad]] (.v (.int .i64 ((cntM s).1))) [.ptr [.str ((cntM s).2).t, .int .i64 ((cntM s).2).pos, .bool ((cntM s).2).bad]] := by
  refine FnW.of_AW TryzT_ok 1 (fn := Tryz.f144) (by kernel_rfl) rfl (by kernel_rfl) rfl rfl rfl ?_
  refine AW_of h144 TryzT_ok (by kernel_rfl) ?_
  simp -dsimp
  refine ACallW_args (by intro us; simp -dsimp; exact ⟨rfl, rfl, rfl⟩) ?_
  refine ACallC_of (fun us => f138_ok s ht) (by intro us; simp -dsimp; exact ⟨rfl, rfl⟩) ?_
  rcases Int.lt_or_le 120 (numM s).1 with h | h
  · have h' : ¬ (numM s).1 ≤ 120 := by omega
    simp -dsimp [h, h']
    simp [cntM, h, setBad]
  · have h' : ¬ 120 < (numM s).1 := by omega
    simp -dsimp [h, h']
    simp [cntM, h']

@[simp] def h180 : Hts := { lend := fun _ => [.box []] }
theorem f180_ok (s : GScan) (ht : s.t.size ≤ 1073741824) : FnW Tryz.prog 180 [.ptr [.str (s).t, .int .i64 (s).pos, .bool (s).bad]] (.v (.bool ((flagM s).1))) [.ptr [.str ((flagM s).2).t, .int .i64 ((flagM s).2).pos, .bool ((flagM s).2).bad]] := by
  refine FnW.of_AW TryzT_ok 1 (fn := Tryz.f180) (by kernel_rfl) rfl (by kernel_rfl) rfl rfl rfl ?_
  refine AW_of h180 TryzT_ok (by kernel_rfl) ?_
  simp -dsimp
  refine ACallW_args (by intro us; simp -dsimp; exact ⟨rfl, rfl, rfl⟩) ?_
  refine ACallC_of (fun us => f138_ok s ht) (by intro us; simp -dsimp; exact ⟨rfl, rfl⟩) ?_
  rcases Int.lt_or_le 1 (numM s).1 with h | h
  · have h' : ¬ (numM s).1 ≤ 1 := by omega
    simp -dsimp [h, h']
    simp [flagM, h, setBad]
  · have h' : ¬ 1 < (numM s).1 := by omega
    simp -dsimp [h, h']
    simp [flagM, h']

def boolS (s : GScan) : Bool × GScan := if s.bad = true ∨ s.t.size ≤ s.pos ∨ 1 < bt s.t s.pos then (false, setBad s) else (bt s.t s.pos == 1, ⟨s.t, s.pos + 1, false⟩)
@[simp] def h179 : Hts := { merge := fun _ => false, dr := fun id => if id = 1 then [{}, {}, {}, {}, {}, {}, {}, {}, {}, {}, {}, {}, {}, {}, {}, {}, {}, {}, {}, {}, {}, {}, {}, {}, {}, {}, {}, {}] else if id = 5 then [{}, {}, {}, {}, {}, {}, {}, {}, {}, {}, {}, {}] else [] }
set_option maxHeartbeats 1000000 in
theorem f179_ok (s : GScan) (ht : s.t.size ≤ 1073741824) (hp : 0 ≤ s.pos) : FnW Tryz.prog 179 [.ptr [.str (s).t, .int .i64 (s).pos, .bool (s).bad]] (.v (.bool ((boolS s).1))) [.ptr [.str ((boolS s).2).t, .int .i64 ((boolS s).2).pos, .bool ((boolS s).2).bad]] := by
  obtain ⟨t, p, b⟩ := s
  simp only at ht hp
  refine FnW.of_AW TryzT_ok 1 (fn := Tryz.f179) (by kernel_rfl) rfl (by kernel_rfl) rfl rfl rfl ?_
  refine AW_of h179 TryzT_ok (by kernel_rfl) ?_
  cases b
  · rcases Int.lt_or_le p t.size with h1 | h1
    · have h1' : ¬ (t.size : Int) ≤ p := by omega
      rcases Int.lt_or_le 1 (bt t p) with h2 | h2
      · have h2' : ¬ bt t p ≤ 1 := by omega
        simp -dsimp [h1, h1', h2, h2', hp]
        simp [boolS, h1', h2, setBad]
      · have h2' : ¬ 1 < bt t p := by omega
        have w1 : IntKind.i64.wrap (p + 1) = p + 1 := wrap64 (by omega) (by omega)
        have w2 : IntKind.i64.wrap p = p := wrap64 (by omega) (by omega)
        simp -dsimp [h1, h1', h2, h2', hp, w1, w2]
        simp [boolS, h1', h2', h1]
    · have h1' : ¬ p < (t.size : Int) := by omega
      simp -dsimp [h1, h1']
      simp [boolS, h1, setBad]
  · simp -dsimp
    simp [boolS, setBad]
end Am
