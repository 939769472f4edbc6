/- Numbers read out of texts, of both. No condition. -/
import Derived.Test.YtkndgnnfgdfcbaaGreatT
import Derived.Test.YtkndgnnfgdfcbaaGreatD
import Derived.Test.YtkndgnnfgdfcbaaGreatE2
import Derived.Test.YtkndgnnfgdfcbaaGreatE30
import Derived.Test.YtkndgnnfgdfcbaaGreatAm29
import Derived.Test.YtkndgnnfgdfcbaaGreatAm31
namespace Am
open Go Go.Proofs
open Cel (cells)
set_option maxRecDepth 100000
set_option linter.unusedSimpArgs false
set_option linter.unusedVariables false

/-- what is read of bytes, those ahead of them known -/
def rvGo : List UInt8 → List UInt8 → Nat → Option (Nat × Nat)
  | _, _, 0 => none
  | [], _, _ + 1 => none
  | c :: r, ds, f + 1 => if 127 < c.toNat then rvGo r (ds ++ [c]) f else if (ds ≠ [] ∧ c.toNat = 0) ∨ 1000000000 < decL (ds ++ [c]) then none else some (decL (ds ++ [c]), ds.length + 1)
def rd (t : ByteArray) (p : Int) : Option (Int × Int) := if 0 ≤ p ∧ p ≤ t.size then (rvGo (t.data.toList.drop p.toNat) [] 5).map fun x => ((x.1 : Int), p + x.2) else none
def rdV (o : Option (Int × Int)) : Int := match o with | some x => x.1 | none => 0
def rdN (o : Option (Int × Int)) : Int := match o with | some x => x.2 | none => 0
theorem decL_lt : ∀ ds : List UInt8, decL ds < 128 ^ ds.length
  | [] => by simp [decL]
  | d :: r => by
    have := decL_lt r
    simp only [decL, List.length_cons, Nat.pow_succ]
    omega
theorem bt_at {t : ByteArray} {k : Nat} (h : k < t.size) : ∃ c : UInt8, t.data.toList.drop k = c :: t.data.toList.drop (k + 1) ∧ bt t (k : Int) = c.toNat := by
  have h' : k < t.data.toList.length := by rw [Array.length_toList]; exact h
  refine ⟨t.data.toList[k], List.drop_eq_getElem_cons h', ?_⟩
  unfold bt
  rw [Int.toNat_natCast, List.getD_eq_getElem?_getD, List.getElem?_eq_getElem h']
  rfl
theorem pow128 (i : Nat) (h : i < 5) : (2 : Int) ^ (min ((7 * (i : Int)).toNat) IntKind.i64.bits) = ((128 ^ i : Nat) : Int) := by
  have : i = 0 ∨ i = 1 ∨ i = 2 ∨ i = 3 ∨ i = 4 := by omega
  rcases this with rfl | rfl | rfl | rfl | rfl <;> decide
theorem pow128_le (i : Nat) (h : i ≤ 5) : 128 ^ i ≤ 34359738368 := by
  have : i = 0 ∨ i = 1 ∨ i = 2 ∨ i = 3 ∨ i = 4 ∨ i = 5 := by omega
  rcases this with rfl | rfl | rfl | rfl | rfl | rfl <;> decide

@[simp] def h141 : Hts := { merge := fun _ => false, mergeF := fun f => f == 124 }
set_option maxHeartbeats 2000000 in
theorem f141_ok (t : ByteArray) (p : Int) (ht : t.size ≤ 1073741824) : FnR Tryz.prog 141 [.v (.str t), .v (.int .i64 p)] (.tup [.v (.int .i64 (rdV (rd t p))), .v (.int .i64 (rdN (rd t p))), .v (.bool ((rd t p).isSome))]) := by
  refine FnW.of_AW TryzT_ok 0 (fn := Tryz.f141) (by kernel_rfl) rfl (by kernel_rfl) rfl rfl rfl ?_
  refine AW_of h141 TryzT_ok (by kernel_rfl) ?_
  simp -dsimp
  refine ACallK_of (f124_ok _ _ _) ?_
  by_cases hp : 0 ≤ p ∧ p ≤ t.size
  rotate_left
  · have hw : spIn p 0 t.size = false := by simp [spIn]; omega
    simp -dsimp [hw]
    simp [rd, hp, rdV, rdN]
  have hw : spIn p 0 t.size = true := by simp [spIn]; omega
  obtain ⟨q, rfl⟩ := Int.eq_ofNat_of_zero_le hp.1
  have hq : q ≤ t.size := by omega
  have hrd : rd t q = (rvGo (t.data.toList.drop q) [] 5).map fun x => ((x.1 : Int), (q : Int) + x.2) := by rw [rd, if_pos hp, Int.toNat_natCast]
  simp -dsimp [hw]
  rw [hrd]
  refine AWh_loop (fun s : Nat × List UInt8 => s.1 = s.2.length ∧ s.1 ≤ 5 ∧ q + s.1 ≤ t.size ∧ rvGo (t.data.toList.drop (q + s.1)) s.2 (5 - s.1) = rvGo (t.data.toList.drop q) [] 5) (fun s => mkE [(0, .c (.str t)), (1, .c (.int .i64 q)), (7, .c (.int .i64 (decL s.2))), (8, .c (.int .i64 s.1))] []) (fun s => 5 - s.1) (0, []) (Wk_to [0, 1, 7, 8] [] rfl rfl (by simp [decL])) (by simp; omega) ?_
  rintro ⟨i, ds⟩ ⟨h1, h2, h3, h4⟩
  simp only at h1 h2 h3 h4
  refine AW_of h141 TryzT_ok (by kernel_rfl) ?_
  have hlt := decL_lt ds
  have hpl := pow128_le i h2
  rw [← h1] at hlt
  rcases Nat.lt_or_ge i 5 with i5 | i5
  · have i5' : (i : Int) < 5 := by omega
    have wqi : IntKind.i64.wrap ((q : Int) + i) = (q : Int) + i := wrap64 (by omega) (by omega)
    rcases Nat.lt_or_ge (q + i) t.size with k1 | k1
    · obtain ⟨c, hc, hb⟩ := bt_at k1
      have hb : bt t ((q : Int) + i) = c.toNat := by rw [← hb]; congr 1
      have hf : 5 - i = (5 - (i + 1)) + 1 := by omega
      rw [hc, hf, rvGo] at h4
      have hcl : c.toNat < 256 := c.toNat_lt
      have k1' : (q : Int) + i < t.size := by omega
      have k0 : (0 : Int) ≤ (q : Int) + i := by omega
      have w8 : IntKind.i64.wrap (c.toNat : Int) = c.toNat := wrap64 (by omega) (by omega)
      have e1 : (c.toNat : Int).tmod 128 = (c.toNat : Int) % 128 := tmod_pos (m := 128)
      have w7 : IntKind.i64.wrap (7 * (i : Int)) = 7 * i := wrap64 (by omega) (by omega)
      have k7 : (0 : Int) ≤ 7 * (i : Int) := by omega
      have hm : c.toNat % 128 * 128 ^ i ≤ 127 * 34359738368 := Nat.mul_le_mul (by omega) hpl
      have hdec : decL (ds ++ [c]) = decL ds + c.toNat % 128 * 128 ^ i := by rw [decL_snoc, h1]
      have ws : IntKind.i64.wrap ((c.toNat : Int) % 128 * 2 ^ (min ((7 * (i : Int)).toNat) IntKind.i64.bits)) = ((c.toNat % 128 * 128 ^ i : Nat) : Int) := by
        rw [pow128 i i5, show (c.toNat : Int) % 128 = ((c.toNat % 128 : Nat) : Int) by omega, ← Int.natCast_mul, wrap64 (by omega) (by omega)]
      have wn : IntKind.i64.wrap ((decL ds : Int) + ((c.toNat % 128 * 128 ^ i : Nat) : Int)) = (decL (ds ++ [c]) : Int) := by
        rw [hdec, wrap64 (by omega) (by omega)]; omega
      have ws' : IntKind.i64.wrap ((c.toNat : Int) % 128 * 2 ^ (min ((7 * (i : Int)).toNat) IntKind.i64.bits)) = (c.toNat : Int) % 128 * 128 ^ i := by rw [ws]; push_cast; rfl
      have wn' : IntKind.i64.wrap ((decL ds : Int) + (c.toNat : Int) % 128 * 128 ^ i) = (decL (ds ++ [c]) : Int) := by rw [← wn]; push_cast; rfl
      have wi : IntKind.i64.wrap ((i : Int) + 1) = (i : Int) + 1 := wrap64 (by omega) (by omega)
      rcases Nat.lt_or_ge 127 c.toNat with c1 | c1
      · have c1' : (127 : Int) < c.toNat := by omega
        rw [if_pos c1] at h4
        simp -dsimp [i5', wqi, k1', k0, hb, w8, e1, w7, k7, ws', wn', wi, c1']
        exact Back_of (i + 1, ds ++ [c]) [0, 1, 7, 8] [] rfl rfl (by simp) ⟨by simp [h1], by simp only; omega, by simp only; omega, by simp only; rw [← h4, Nat.add_assoc]⟩ (by simp only; omega)
      · have c1' : ¬ (127 : Int) < c.toNat := by omega
        have c2' : (c.toNat : Int) ≤ 127 := by omega
        rw [if_neg (by omega)] at h4
        have wqi1 : IntKind.i64.wrap ((q : Int) + i + 1) = (q : Int) + i + 1 := wrap64 (by omega) (by omega)
        have fail : ((ds ≠ [] ∧ c.toNat = 0) ∨ 1000000000 < decL (ds ++ [c])) → rvGo (t.data.toList.drop q) [] 5 = none := fun h => by rw [if_pos h] at h4; exact h4.symm
        have good : ¬ ((ds ≠ [] ∧ c.toNat = 0) ∨ 1000000000 < decL (ds ++ [c])) → rvGo (t.data.toList.drop q) [] 5 = some (decL (ds ++ [c]), ds.length + 1) := fun h => by rw [if_neg h] at h4; exact h4.symm
        have mx : (1000000000 < decL (ds ++ [c]) ∧ (1000000000 : Int) < decL (ds ++ [c])) ∨ (¬ 1000000000 < decL (ds ++ [c]) ∧ ¬ (1000000000 : Int) < decL (ds ++ [c]) ∧ (decL (ds ++ [c]) : Int) ≤ 1000000000) := by omega
        rcases Nat.eq_zero_or_pos i with hz | hz
        · have z1 : ¬ 0 < i := by omega
          have z2 : ds = [] := List.eq_nil_of_length_eq_zero (by omega)
          rcases mx with ⟨m1, m2⟩ | ⟨m1, m2, m3⟩
          · simp -dsimp [i5', wqi, k1', k0, hb, w8, e1, w7, k7, ws', wn', wi, c1', c2', z1, m2]
            simp [fail (.inr m1), rdV, rdN]
          · simp -dsimp [i5', wqi, k1', k0, hb, w8, e1, w7, k7, ws', wn', wi, c1', c2', z1, m2, m3, wqi1]
            rw [good (by simp [z2]; rw [z2] at m1; simpa using m1)]
            simp [rdV, rdN, ← h1]
            try omega
        · have z1 : 0 < i := hz
          have z2 : ds ≠ [] := fun e => by rw [e] at h1; simp at h1; omega
          by_cases c0 : c.toNat = 0
          · have c3 : ((c.toNat : Int) == 0) = true := by simp [c0]
            simp -dsimp [i5', wqi, k1', k0, hb, w8, e1, w7, k7, ws', wn', wi, c1', c2', z1, c3]
            simp [fail (.inl ⟨z2, c0⟩), rdV, rdN]
          · have c3 : ((c.toNat : Int) == 0) = false := by simp [c0]
            rcases mx with ⟨m1, m2⟩ | ⟨m1, m2, m3⟩
            · simp -dsimp [i5', wqi, k1', k0, hb, w8, e1, w7, k7, ws', wn', wi, c1', c2', z1, c3, m2]
              simp [fail (.inr m1), rdV, rdN]
            · simp -dsimp [i5', wqi, k1', k0, hb, w8, e1, w7, k7, ws', wn', wi, c1', c2', z1, c3, m2, m3, wqi1]
              rw [good (by rintro (h | h); exact c0 h.2; exact m1 h)]
              simp [rdV, rdN, ← h1]
              try omega
    · have k1' : ¬ (q : Int) + i < t.size := by omega
      have k2' : (t.size : Int) ≤ (q : Int) + i := by omega
      have hn : t.data.toList.drop (q + i) = [] := List.drop_of_length_le (by rw [Array.length_toList]; exact k1)
      have hf : 5 - i = (5 - (i + 1)) + 1 := by omega
      rw [hn, hf, rvGo] at h4
      simp -dsimp [i5', wqi, k1', k2']
      simp [← h4, rdV, rdN]
  · have i5' : ¬ (i : Int) < 5 := by omega
    have hf : 5 - i = 0 := by omega
    rw [hf, rvGo] at h4
    simp -dsimp [i5']
    simp [← h4, rdV, rdN]

theorem extract_str (t : ByteArray) (a b : Nat) : t.extract a b = str ((t.data.toList.drop a).take (b - a)) := by
  apply ByteArray.ext
  apply Array.ext'
  simp [str, ByteArray.data_extract, List.extract]
theorem str_inj {a b : List UInt8} : str a = str b ↔ a = b := by
  constructor
  · intro h
    have := congrArg (fun x => x.data.toList) h
    simpa [str] using this
  · rintro rfl; rfl

@[simp] def h129 : Hts := { merge := fun _ => false, mergeF := fun f => f == 119, dr := fun id => if id = 11 then [{}, {}, {}, { mb := [52] }, { cr := true, mb := [52] }, { mb := [47] }, { mb := [47] }, { mb := [47] }, { mb := [47] }, { cr := true, mb := [47] }, {}, {}] else [] }
set_option maxHeartbeats 2000000 in
theorem f129_ok (t : ByteArray) (p : Int) (ht : t.size ≤ 1073741824) : FnR Tryz.prog 129 [.v (.str t), .v (.int .i64 p)] (.tup [.v (.int .i64 (rdV (rd t p))), .v (.int .i64 (rdN (rd t p))), .v (.bool ((rd t p).isSome))]) := by
  refine FnW.of_AW TryzT_ok 0 (fn := Tryz.f129) (by kernel_rfl) rfl (by kernel_rfl) rfl rfl rfl ?_
  refine AW_of h129 TryzT_ok (by kernel_rfl) ?_
  simp -dsimp
  refine ACallK_of (f119_ok _ _ _) ?_
  by_cases hp : 0 ≤ p ∧ p ≤ t.size
  rotate_left
  · have hw : spIn p 0 t.size = false := by simp [spIn]; omega
    simp -dsimp [hw]
    simp [rd, hp, rdV, rdN]
  have hw : spIn p 0 t.size = true := by simp [spIn]; omega
  obtain ⟨q, rfl⟩ := Int.eq_ofNat_of_zero_le hp.1
  have hq : q ≤ t.size := by omega
  have hrd : rd t q = (rvGo (t.data.toList.drop q) [] 5).map fun x => ((x.1 : Int), (q : Int) + x.2) := by rw [rd, if_pos hp, Int.toNat_natCast]
  simp -dsimp [hw]
  rw [hrd]
  refine AWh_loop (fun s : Nat × List UInt8 => s.1 = s.2.length ∧ s.1 ≤ 5 ∧ q + s.1 ≤ t.size ∧ rvGo (t.data.toList.drop (q + s.1)) s.2 (5 - s.1) = rvGo (t.data.toList.drop q) [] 5 ∧ s.2 = (t.data.toList.drop q).take s.1 ∧ ∀ d, d ∈ s.2 → 127 < d.toNat) (fun s => mkE [(0, .c (.str t)), (1, .c (.int .i64 q)), (7, .c (.int .i64 (decL s.2))), (8, .c (.int .i64 (128 ^ s.1 : Nat))), (9, .c (.int .i64 (q + s.1)))] []) (fun s => 5 - s.1) (0, []) (Wk_to [0, 1, 7, 8, 9] [] rfl rfl (by simp [decL])) (by simp; omega) ?_
  rintro ⟨i, ds⟩ ⟨h1, h2, h3, h4, h5, h6⟩
  simp only at h1 h2 h3 h4 h5 h6
  refine AW_of h129 TryzT_ok (by kernel_rfl) ?_
  have hlt := decL_lt ds
  have hpl := pow128_le i h2
  have hp1 : 1 ≤ 128 ^ i := Nat.pow_pos (by decide)
  rw [← h1] at hlt
  have w5 : IntKind.i64.wrap ((q : Int) + 5) = (q : Int) + 5 := wrap64 (by omega) (by omega)
  rcases Nat.lt_or_ge (q + i) t.size with k1 | k1
  · have k1' : (q : Int) + i < t.size := by omega
    have k0 : (0 : Int) ≤ (q : Int) + i := by omega
    rcases Nat.lt_or_ge i 5 with i5 | i5
    · have i5' : (i : Int) < 5 := by omega
      have i5'' : (q : Int) + i < q + 5 := by omega
      obtain ⟨c, hc, hb⟩ := bt_at k1
      have hb : bt t ((q : Int) + i) = c.toNat := by rw [← hb]; congr 1
      have hf : 5 - i = (5 - (i + 1)) + 1 := by omega
      rw [hc, hf, rvGo] at h4
      have hcl : c.toNat < 256 := c.toNat_lt
      have w8 : IntKind.i64.wrap (c.toNat : Int) = c.toNat := wrap64 (by omega) (by omega)
      have e1 : (c.toNat : Int).tmod 128 = (c.toNat : Int) % 128 := tmod_pos (m := 128)
      have hm : c.toNat % 128 * 128 ^ i ≤ 127 * 34359738368 := Nat.mul_le_mul (by omega) hpl
      have hdec : decL (ds ++ [c]) = decL ds + c.toNat % 128 * 128 ^ i := by rw [decL_snoc, h1]
      have ws' : IntKind.i64.wrap ((c.toNat : Int) % 128 * 128 ^ i) = (c.toNat : Int) % 128 * 128 ^ i := by
        have e : (c.toNat : Int) % 128 * 128 ^ i = ((c.toNat % 128 * 128 ^ i : Nat) : Int) := by push_cast; rfl
        rw [e, wrap64 (by omega) (by omega)]
      have wn' : IntKind.i64.wrap ((decL ds : Int) + (c.toNat : Int) % 128 * 128 ^ i) = (decL (ds ++ [c]) : Int) := by
        have e : (c.toNat : Int) % 128 * 128 ^ i = ((c.toNat % 128 * 128 ^ i : Nat) : Int) := by push_cast; rfl
        rw [e, hdec, wrap64 (by omega) (by omega)]; omega
      have wp' : IntKind.i64.wrap ((128 : Int) ^ i * 128) = 128 ^ i * 128 := by
        have e : (128 : Int) ^ i = ((128 ^ i : Nat) : Int) := by push_cast; rfl
        rw [e, wrap64 (by omega) (by omega)]
      have wi : IntKind.i64.wrap ((q : Int) + i + 1) = (q : Int) + i + 1 := wrap64 (by omega) (by omega)
      have hsl : ds ++ [c] = (t.data.toList.drop q).take (i + 1) := by
        rw [List.take_add_one, ← h5]
        have : (t.data.toList.drop q)[i]? = some c := by
          rw [List.getElem?_drop]
          have := congrArg (fun l => l[0]?) hc
          simpa [List.getElem?_drop] using this
        rw [this]; rfl
      rcases Nat.lt_or_ge 127 c.toNat with c1 | c1
      · have c1' : ¬ (c.toNat : Int) < 128 := by omega
        have c2' : (128 : Int) ≤ c.toNat := by omega
        rw [if_pos c1] at h4
        simp -dsimp [i5', i5'', w5, k1', k0, hb, w8, e1, ws', wn', wp', c1', c2', wi]
        exact Back_of (i + 1, ds ++ [c]) [0, 1, 7, 8, 9] [] rfl rfl (by simp [Int.pow_succ, Int.add_assoc]) ⟨by simp [h1], by simp only; omega, by simp only; omega, by simp only; rw [← h4, Nat.add_assoc], hsl, fun d hd => by
          rcases List.mem_append.1 hd with hd | hd
          · exact h6 d hd
          · simp only [List.mem_singleton] at hd; rw [hd]; exact c1⟩ (by simp only; omega)
      · have c1' : (c.toNat : Int) < 128 := by omega
        rw [if_neg (by omega)] at h4
        have fail : ((ds ≠ [] ∧ c.toNat = 0) ∨ 1000000000 < decL (ds ++ [c])) → rvGo (t.data.toList.drop q) [] 5 = none := fun h => by rw [if_pos h] at h4; exact h4.symm
        have good : ¬ ((ds ≠ [] ∧ c.toNat = 0) ∨ 1000000000 < decL (ds ++ [c])) → rvGo (t.data.toList.drop q) [] 5 = some (decL (ds ++ [c]), ds.length + 1) := fun h => by rw [if_neg h] at h4; exact h4.symm
        have tq : ((q : Int) + i + 1).toNat = q + i + 1 := by omega
        have kk : (q : Int) + i + 1 ≤ t.size := by omega
        have kl : (q : Int) ≤ (q : Int) + i + 1 := by omega
        have hvar : (varS (decL (ds ++ [c])) = t.extract q (q + i + 1)) ↔ (ds = [] ∨ c.toNat ≠ 0) := by
          rw [extract_str, show q + i + 1 - q = i + 1 by omega, ← hsl, varS, Int.toNat_natCast, str_inj]
          exact varB_iff (by omega) ds h6
        rcases Nat.lt_or_ge 1000000000 (decL (ds ++ [c])) with m1 | m1
        · have m2 : (1000000000 : Int) < decL (ds ++ [c]) := by omega
          simp -dsimp [i5', i5'', w5, k1', k0, hb, w8, e1, ws', wn', wp', c1', wi, m2]
          simp [fail (.inr m1), rdV, rdN]
        · have m2 : ¬ (1000000000 : Int) < decL (ds ++ [c]) := by omega
          have m3 : (decL (ds ++ [c]) : Int) ≤ 1000000000 := by omega
          simp -dsimp [i5', i5'', w5, k1', k0, hb, w8, e1, ws', wn', wp', c1', wi, m2, m3]
          refine ACallK_of (f91_ok _ (by omega) (by omega)) ?_
          by_cases hz : ds = [] ∨ c.toNat ≠ 0
          · have hv := hvar.2 hz
            simp -dsimp [i5', i5'', w5, k1', k0, hb, w8, wi, m2, m3, tq, kk, kl, hv]
            rw [good (by rintro (h | h); exact (hz.elim (fun e => h.1 e) (fun e => e h.2)); omega)]
            simp [rdV, rdN, ← h1]
            try omega
          · have hv : ¬ varS (decL (ds ++ [c])) = t.extract q (q + i + 1) := fun e => hz (hvar.1 e)
            simp -dsimp [i5', i5'', w5, k1', k0, hb, w8, wi, m2, m3, tq, kk, kl, hv]
            simp [fail (.inl ⟨fun e => hz (.inl e), Decidable.not_not.1 fun e => hz (.inr e)⟩), rdV, rdN]
    · have i5' : ¬ (i : Int) < 5 := by omega
      have i5'' : ¬ (q : Int) + i < q + 5 := by omega
      have hf : 5 - i = 0 := by omega
      rw [hf, rvGo] at h4
      simp -dsimp [i5', i5'', w5, k1', k0]
      simp [← h4, rdV, rdN]
  · have k1' : ¬ (q : Int) + i < t.size := by omega
    have hn : t.data.toList.drop (q + i) = [] := List.drop_of_length_le (by rw [Array.length_toList]; exact k1)
    have hnone : rvGo (t.data.toList.drop q) [] 5 = none := by
      rw [← h4, hn]
      cases (5 - i) <;> rfl
    simp -dsimp [k1', w5]
    simp [hnone, rdV, rdN]
end Am
