/- What is read is what was written: nothing of the program. No condition. -/
import Derived.Test.YtkndgnnfgdfcbaaGreatT
import Derived.Test.YtkndgnnfgdfcbaaGreatD
import Derived.Test.YtkndgnnfgdfcbaaGreatE34
import Derived.Test.YtkndgnnfgdfcbaaGreatE15
namespace Am
open Go Go.Proofs
set_option maxRecDepth 100000
set_option linter.unusedSimpArgs false
set_option linter.unusedVariables false
set_option linter.unusedSectionVars false

structure Seg (s s' : GScan) (x : ByteArray) : Prop where
  b : s.bad = false
  t : s'.t = s.t
  l : s.pos ≤ s'.pos
  h : s'.pos ≤ s.t.size
  e : s.t.extract s.pos.toNat s'.pos.toNat = x
structure Fine (s : GScan) : Prop where
  l : 0 ≤ s.pos
  h : s.pos ≤ s.t.size
theorem Seg.fine {s s' : GScan} {x : ByteArray} (f : Fine s) (a : Seg s s' x) : Fine s' := ⟨by have := a.l; have := f.l; omega, by rw [a.t]; exact a.h⟩
theorem Seg.trans {s s' s'' : GScan} {x y : ByteArray} (f : Fine s) (a : Seg s s' x) (b : Seg s' s'' y) : Seg s s'' (x ++ y) := by
  obtain ⟨a0, a1, a2, a3, a4⟩ := a
  obtain ⟨b0, b1, b2, b3, b4⟩ := b
  have := f.l
  refine ⟨a0, by rw [b1, a1], by omega, by rw [a1] at b3; exact b3, ?_⟩
  rw [← a4, ← b4, a1, ByteArray.extract_append_extract]
  congr 1 <;> omega
theorem Seg.nil {s : GScan} (f : Fine s) (h : s.bad = false) : Seg s s ⟨#[]⟩ := ⟨h, rfl, Int.le_refl _, f.h, by rw [extract_str]; simp [str]⟩
/-- A reader of what `w` writes. -/
structure Rdr {α : Type} (r : GScan → α × GScan) (w : α → ByteArray) : Prop where
  f : ∀ s, Fine s → Fine (r s).2
  g : ∀ s, Fine s → (r s).2.bad = false → Seg s (r s).2 (w (r s).1)
theorem rvGo_canon : ∀ (f : Nat) (l ds : List UInt8) (n c : Nat), (∀ d, d ∈ ds → 127 < d.toNat) → rvGo l ds f = some (n, c) → ds ++ l.take (c - ds.length) = varB n
  | 0, _, _, _, _, _, h => by simp [rvGo] at h
  | f + 1, [], _, _, _, _, h => by simp [rvGo] at h
  | f + 1, x :: r, ds, n, c, hd, h => by
    simp only [rvGo] at h
    split at h
    · rename_i hx
      have ih := rvGo_canon f r (ds ++ [x]) n c (fun d hd' => by
        rcases List.mem_append.1 hd' with h' | h'
        · exact hd d h'
        · simp only [List.mem_singleton] at h'; subst h'; exact hx) h
      have := rvGo_spec f r (ds ++ [x]) n c h
      simp only [List.length_append, List.length_singleton] at ih this
      rw [← ih]
      have e : c - ds.length = (c - (ds.length + 1)) + 1 := by omega
      rw [e, List.take_succ_cons]
      simp
    · rename_i hx
      split at h
      · cases h
      · rename_i hy
        simp only [Option.some.injEq, Prod.mk.injEq] at h
        obtain ⟨rfl, rfl⟩ := h
        rw [varB_dec (by omega) ds hd (by
          by_cases e : ds = []
          · exact Or.inl e
          · exact Or.inr fun e' => hy (Or.inl ⟨e, e'⟩))]
        have e : ds.length + 1 - ds.length = 1 := by omega
        rw [e]; rfl
theorem rd_canon {t : ByteArray} {p n a : Int} (h : rd t p = some (n, a)) : t.extract p.toNat a.toNat = varS n := by
  have sp := rd_spec h
  unfold rd at h
  rw [if_pos ⟨by omega, by omega⟩] at h
  simp only [Option.map_eq_some_iff] at h
  obtain ⟨⟨m, c⟩, h1, h2⟩ := h
  simp only [Prod.mk.injEq] at h2
  obtain ⟨rfl, rfl⟩ := h2
  have := rvGo_canon 5 _ [] m c (by simp) h1
  rw [extract_str, varS]
  have e : (p + (c : Int)).toNat - p.toNat = c := by omega
  rw [e]
  simp at this
  rw [this]; rfl
theorem numM_rdr : Rdr numM varS where
  f := by
    intro s f
    refine ⟨numM_pos f.l, ?_⟩
    rw [numM_t]
    unfold numM
    split
    · exact f.h
    · cases g : rd s.t s.pos with
      | none => exact f.h
      | some x => obtain ⟨n, a⟩ := x; have := rd_spec g; simp only; omega
  g := by
    intro s f h
    unfold numM at h ⊢
    split at h
    · rename_i hb; simp only at h; rw [h] at hb; cases hb
    · rename_i hb
      have hb' : s.bad = false := by simpa using hb
      cases g : rd s.t s.pos with
      | none => rw [g] at h; cases h
      | some x =>
        obtain ⟨n, a⟩ := x
        have sp := rd_spec g
        rw [if_neg hb]
        exact ⟨hb', rfl, by simp only; omega, by simp only; omega, rd_canon g⟩
theorem shM_rdr : Rdr shM shortS where
  f := by
    intro s f
    refine ⟨shM_pos f.l, ?_⟩
    rw [shM_t]
    unfold shM
    split
    · exact f.h
    · cases g : rs s.t s.pos with
      | none => exact f.h
      | some x =>
        obtain ⟨y, a⟩ := x
        obtain ⟨n, b, h1, _, h3, _, rfl⟩ := rs_spec g
        simp only; omega
  g := by
    intro s f h
    unfold shM at h ⊢
    split at h
    · rename_i hb; simp only at h; rw [h] at hb; cases hb
    · rename_i hb
      have hb' : s.bad = false := by simpa using hb
      cases g : rs s.t s.pos with
      | none => rw [g] at h; cases h
      | some x =>
        obtain ⟨y, a⟩ := x
        obtain ⟨n, b, h1, h2, h3, rfl, rfl⟩ := rs_spec g
        have sp := rd_spec h1
        rw [if_neg hb]
        refine ⟨hb', rfl, by simp only; omega, by simp only; omega, ?_⟩
        simp only
        have e : ((s.t.extract b.toNat (b + n).toNat).size : Int) = n := by
          rw [ByteArray.size_extract]; omega
        rw [shortS, e, ← rd_canon h1, ByteArray.extract_append_extract]
        congr 1 <;> omega
theorem Rdr.two {α β : Type} {r : GScan → α × GScan} {q : GScan → β × GScan} {w : α → ByteArray} {v : β → ByteArray} (a : Rdr r w) (b : Rdr q v) :
    Rdr (fun s => (((r s).1, (q (r s).2).1), (q (r s).2).2)) (fun x => w x.1 ++ v x.2) where
  f := fun s f => b.f _ (a.f s f)
  g := fun s f h => by
    have h2 := b.g _ (a.f s f) h
    exact (a.g s f h2.b).trans f h2
theorem Rdr.to {α β : Type} {r : GScan → α × GScan} {q : GScan → β × GScan} {w : α → ByteArray} {v : β → ByteArray} (a : Rdr r w) (k : α → β) (h : ∀ s, q s = (k (r s).1, (r s).2)) (hw : ∀ x, v (k x) = w x) : Rdr q v where
  f := fun s f => by rw [h]; exact a.f s f
  g := fun s f hb => by
    rw [h] at hb ⊢
    simp only at hb ⊢
    rw [hw]; exact a.g s f hb
theorem dotM_rdr : Rdr dotM dotS := (numM_rdr.two numM_rdr).to (fun x => ⟨x.1, x.2⟩) (fun s => rfl) (fun x => rfl)
theorem flag_num (n : Int) (h0 : 0 ≤ n) (h1 : ¬ 1 < n) : flagS (n == 1) = varS n := by
  have : n = 0 ∨ n = 1 := by omega
  rcases this with rfl | rfl
  · rw [varS, flagS, varB_small (by decide)]; rfl
  · rw [varS, flagS, varB_small (by decide)]; rfl
theorem flagM_rdr : Rdr flagM flagS where
  f := by
    intro s f
    have := numM_rdr.f s f
    unfold flagM
    simp only
    split
    · exact ⟨this.l, this.h⟩
    · exact this
  g := by
    intro s f h
    unfold flagM at h ⊢
    simp only at h ⊢
    split at h
    · cases h
    · rename_i hn
      rw [if_neg hn, flag_num _ (numM_nn s) hn]
      exact numM_rdr.g s f h
theorem u8_small {n : Nat} (h : n ≤ 127) : (u8 (n : Int)).toNat = n := by
  unfold u8
  rw [UInt8.toNat_ofNat']
  omega
theorem bool_flag {s : GScan} (f : Fine s) (h : (flagM s).2.bad = false ∨ (boolS s).2.bad = false) : flagM s = boolS s := by
  obtain ⟨t, p, b⟩ := s
  have fl := f.l
  have fh := f.h
  simp only at fl fh
  cases b
  · by_cases hp : p < t.size
    · obtain ⟨k, rfl⟩ := Int.eq_ofNat_of_zero_le fl
      obtain ⟨c, hc1, hc2⟩ := bt_at (t := t) (k := k) (by omega)
      by_cases hc : c.toNat ≤ 1
      · have g : rd t k = some ((c.toNat : Int), (k : Int) + 1) := by
          unfold rd
          rw [if_pos ⟨fl, fh⟩, Int.toNat_natCast, hc1, rvGo, if_neg (by omega)]
          have e : decL ([] ++ [c]) = c.toNat := by simp [decL]; omega
          rw [e, if_neg (by simp; omega)]
          simp
        have e1 : numM ⟨t, k, false⟩ = (((c.toNat : Nat) : Int), ⟨t, (k : Int) + 1, false⟩) := by
          simp [numM, g]
        have e2 : boolS ⟨t, k, false⟩ = ((c.toNat : Int) == 1, ⟨t, (k : Int) + 1, false⟩) := by
          simp only [boolS]
          rw [if_neg (by rw [hc2]; simp; omega), hc2]
        rw [e2, flagM, e1]
        simp only
        rw [if_neg (by omega)]
      · exfalso
        rcases h with h | h
        · have sg := flagM_rdr.g _ f h
          have hn : ¬ 1 < (numM ⟨t, k, false⟩).1 := by
            intro hn
            simp only [flagM, if_pos hn, setBad] at h
            cases h
          have e : flagM ⟨t, k, false⟩ = ((numM ⟨t, k, false⟩).1 == 1, (numM ⟨t, k, false⟩).2) := by simp only [flagM, if_neg hn]
          rw [e] at h
          have sn := numM_rdr.g _ f h
          have h0 := numM_nn ⟨t, k, false⟩
          have e2 := sn.e
          obtain ⟨m, hm⟩ := Int.eq_ofNat_of_zero_le h0
          rw [hm] at hn e2
          rw [extract_str, varS, Int.toNat_natCast, varB_small (by omega), str_inj] at e2
          simp only [Int.toNat_natCast, hc1] at e2
          have h3 : ∀ z, (c :: List.drop (k + 1) t.data.toList).take z = [u8 (m : Int)] → c = u8 (m : Int) := by
            intro z hz
            cases z with
            | zero => simp at hz
            | succ z => rw [List.take_succ_cons] at hz; exact (List.cons.inj hz).1
          have h4 := h3 _ e2
          have h5 := u8_small (n := m) (by omega)
          rw [← h4] at h5
          omega
        · simp only [boolS] at h
          rw [if_pos (by rw [hc2]; simp; omega)] at h
          cases h
    · exfalso
      have hpp : p = t.size := by omega
      subst hpp
      rcases h with h | h
      · have hn : ¬ 1 < (numM ⟨t, t.size, false⟩).1 := by
          intro hn
          simp only [flagM, if_pos hn, setBad] at h
          cases h
        have e : flagM ⟨t, t.size, false⟩ = ((numM ⟨t, t.size, false⟩).1 == 1, (numM ⟨t, t.size, false⟩).2) := by simp only [flagM, if_neg hn]
        rw [e] at h
        have g : rd t t.size = none := by
          unfold rd
          rw [if_pos ⟨fl, fh⟩, Int.toNat_natCast]
          have : t.data.toList.drop t.size = [] := by
            apply List.drop_eq_nil_of_le
            exact Nat.le_refl _
          rw [this]; rfl
        simp [numM, g] at h
      · simp [boolS, setBad] at h
  · exfalso
    rcases h with h | h
    · simp [flagM, numM, setBad] at h
    · simp [boolS, setBad] at h
theorem boolS_fine (s : GScan) (f : Fine s) : Fine (boolS s).2 := by
  refine ⟨boolS_pos f.l, ?_⟩
  rw [boolS_t]
  unfold boolS
  split
  · exact f.h
  · rename_i h; simp only; simp only [not_or] at h; omega

theorem nth_left {α : Type} [Cel α] {l : List α} {x : α} {i : Nat} (h : i < l.length) : nth (l ++ [x]) i = nth l i := by
  simp [nth, List.getD, List.getElem?_append_left h]
theorem nth_last {α : Type} [Cel α] {l : List α} {x : α} : nth (l ++ [x]) l.length = x := by
  simp [nth, List.getD]
theorem catN_eq {f g : Nat → ByteArray} : ∀ {n : Nat}, (∀ i : Nat, i < n → f i = g i) → catN f n = catN g n
  | 0, _ => rfl
  | n + 1, h => by rw [catN, catN, catN_eq fun i hi => h i (by omega), h n (by omega)]
section
variable {α : Type} [Cel α] {r q : GScan → α × GScan} {w : α → ByteArray}
theorem lsM_fine (hr : Rdr r w) {s : GScan} (f : Fine s) : ∀ n, Fine (lsM r s n).2
  | 0 => f
  | n + 1 => hr.f _ (lsM_fine hr f n)
theorem lsM_seg (hr : Rdr r w) {s : GScan} (f : Fine s) : ∀ n, (lsM r s n).2.bad = false → Seg s (lsM r s n).2 (catN (fun i => w (nth (lsM r s n).1 i)) n)
  | 0, h => Seg.nil f h
  | n + 1, h => by
    have h1 := hr.g _ (lsM_fine hr f n) h
    have h2 := (lsM_seg hr f n h1.b).trans f h1
    rw [catN]
    have hl := lsM_len (r := r) s n
    have e1 : w (nth (lsM r s (n + 1)).1 n) = w (r (lsM r s n).2).1 := by
      have := nth_last (l := (lsM r s n).1) (x := (r (lsM r s n).2).1)
      rw [hl] at this
      simp only [lsM, this]
    have e2 : catN (fun i => w (nth (lsM r s (n + 1)).1 i)) n = catN (fun i => w (nth (lsM r s n).1 i)) n := catN_eq fun i hi => by
      simp only [lsM]; rw [nth_left (by omega)]
    rw [e1, e2]
    exact h2
def liM (r : GScan → α × GScan) (s : GScan) : List α × GScan := lsM r (cntM s).2 (cntM s).1.toNat
def liS (r : GScan → α × GScan) (s : GScan) : List α × GScan := lsS r (cntM s).2 (cntM s).1.toNat
def lisS (w : α → ByteArray) (l : List α) : ByteArray := varS l.length ++ catN (fun i => w (nth l i)) l.length
theorem cntM_fine {s : GScan} (f : Fine s) : Fine (cntM s).2 := by
  have := numM_rdr.f s f
  unfold cntM
  split
  · exact ⟨this.l, this.h⟩
  · exact this
theorem cntM_seg {s : GScan} (f : Fine s) (h : (cntM s).2.bad = false) : Seg s (cntM s).2 (varS (cntM s).1) := by
  unfold cntM at h ⊢
  split at h
  · cases h
  · rename_i hn
    rw [if_neg hn]
    exact numM_rdr.g s f h
theorem liM_rdr (hr : Rdr r w) : Rdr (liM r) (lisS w) where
  f := fun s f => lsM_fine hr (cntM_fine f) _
  g := fun s f h => by
    have h1 := lsM_seg hr (cntM_fine f) _ h
    have h2 := (cntM_seg f h1.b).trans f h1
    have hl := lsM_len (r := r) (cntM s).2 (cntM s).1.toNat
    obtain ⟨N, hN, hN2⟩ := cntM_N s
    unfold lisS liM
    rw [hl]
    rw [show (((cntM s).1.toNat : Nat) : Int) = (cntM s).1 by omega]
    exact h2
theorem lsM_lsS (hr : Rdr r w) (he : ∀ s, Fine s → (r s).2.bad = false ∨ (q s).2.bad = false → r s = q s) {s : GScan} (f : Fine s) : ∀ n, (lsM r s n).2.bad = false ∨ (lsS q s n).2.bad = false → lsM r s n = lsS q s n
  | 0, _ => rfl
  | n + 1, h => by
    rcases h with h | h
    · have h1 := hr.g _ (lsM_fine hr f n) h
      have ih := lsM_lsS hr he f n (Or.inl h1.b)
      rw [lsS, ← ih, h1.b, lsM, he _ (lsM_fine hr f n) (Or.inl h)]
      simp
    · rw [lsS] at h
      cases hb : (lsS q s n).2.bad
      · have ih := lsM_lsS hr he f n (Or.inr hb)
        rw [hb] at h
        simp only [Bool.false_eq_true, if_false] at h
        rw [lsS, hb, lsM, ih]
        have e := he _ (lsM_fine hr f n) (Or.inr (by rw [ih]; exact h))
        rw [ih] at e
        simp [e]
      · rw [hb] at h
        simp only [if_true] at h
        rw [h] at hb; cases hb
theorem liM_liS (hr : Rdr r w) (he : ∀ s, Fine s → (r s).2.bad = false ∨ (q s).2.bad = false → r s = q s) (s : GScan) (f : Fine s) (h : (liM r s).2.bad = false ∨ (liS q s).2.bad = false) : liM r s = liS q s :=
  lsM_lsS hr he (cntM_fine f) _ h
theorem lsM_all {p : α → Prop} (hp : ∀ s, p (r s).1) (s : GScan) : ∀ n, ∀ x, x ∈ (lsM r s n).1 → p x
  | 0, x, h => by cases h
  | n + 1, x, h => by
    simp only [lsM] at h
    rcases List.mem_append.1 h with h | h
    · exact lsM_all hp s n x h
    · simp only [List.mem_singleton] at h; subst h; exact hp _
theorem lsS_all {p : α → Prop} (hp : ∀ s, p (r s).1) (s : GScan) : ∀ n, ∀ x, x ∈ (lsS r s n).1 → p x
  | 0, x, h => by cases h
  | n + 1, x, h => by
    simp only [lsS] at h
    split at h
    · exact lsS_all hp s n x h
    · rcases List.mem_append.1 h with h | h
      · exact lsS_all hp s n x h
      · simp only [List.mem_singleton] at h; subst h; exact hp _
theorem lsS_len (s : GScan) : ∀ n, (lsS r s n).1.length ≤ n
  | 0 => Nat.le_refl _
  | n + 1 => by
    simp only [lsS]
    have := lsS_len s n
    split
    · omega
    · simp; omega
theorem liM_len (s : GScan) : (liM r s).1.length ≤ 120 := by
  obtain ⟨N, hN, hN2⟩ := cntM_N s
  have := lsM_len (r := r) (cntM s).2 (cntM s).1.toNat
  unfold liM
  omega
theorem liS_len (s : GScan) : (liS r s).1.length ≤ 120 := by
  obtain ⟨N, hN, hN2⟩ := cntM_N s
  have := lsS_len (r := r) (cntM s).2 (cntM s).1.toNat
  unfold liS
  omega
end
theorem talM_rdr : Rdr talM talS := (shM_rdr.two (numM_rdr.two numM_rdr)).to (fun x => ⟨x.1, x.2.1, x.2.2⟩) (fun s => rfl) (fun x => rfl)
theorem liveM_rdr {fl : GScan → Bool × GScan} (hf : Rdr fl flagS) : Rdr (liveM fl) liveS := (hf.two ((shM_rdr.two shM_rdr).two (numM_rdr.two dotM_rdr))).to (fun x => ⟨x.1, x.2.1.1, x.2.1.2, x.2.2.1, x.2.2.2⟩) (fun s => rfl) (fun x => rfl)
theorem cellM_rdr {fl : GScan → Bool × GScan} (hf : Rdr fl flagS) : Rdr (cellM fl) cellS := (shM_rdr.two (dotM_rdr.two (numM_rdr.two (dotM_rdr.two (numM_rdr.two hf))))).to (fun x => ⟨x.1, x.2.1, x.2.2.1, x.2.2.2.1, x.2.2.2.2.1, x.2.2.2.2.2⟩) (fun s => rfl) (fun x => rfl)
theorem live_eq (s : GScan) (f : Fine s) (h : (liveM flagM s).2.bad = false ∨ (liveM boolS s).2.bad = false) : liveM flagM s = liveM boolS s := by
  have e : flagM s = boolS s := by
    apply bool_flag f
    rcases h with h | h
    · have f1 := flagM_rdr.f s f
      have f2 := shM_rdr.f _ f1
      have f3 := shM_rdr.f _ f2
      have f4 := numM_rdr.f _ f3
      exact Or.inl (shM_rdr.g _ f1 (shM_rdr.g _ f2 (numM_rdr.g _ f3 (dotM_rdr.g _ f4 h).b).b).b).b
    · have f1 := boolS_fine s f
      have f2 := shM_rdr.f _ f1
      have f3 := shM_rdr.f _ f2
      have f4 := numM_rdr.f _ f3
      exact Or.inr (shM_rdr.g _ f1 (shM_rdr.g _ f2 (numM_rdr.g _ f3 (dotM_rdr.g _ f4 h).b).b).b).b
  unfold liveM
  rw [e]
theorem cell_eq (s : GScan) (f : Fine s) (h : (cellM flagM s).2.bad = false ∨ (cellM boolS s).2.bad = false) : cellM flagM s = cellM boolS s := by
  have f1 := shM_rdr.f s f
  have f2 := dotM_rdr.f _ f1
  have f3 := numM_rdr.f _ f2
  have f4 := dotM_rdr.f _ f3
  have f5 := numM_rdr.f _ f4
  have e := bool_flag f5 h
  unfold cellM
  rw [e]
theorem kn_ls (s : GScan) : ∀ i, kn s i = lsM numM s i
  | 0 => rfl
  | i + 1 => by rw [kn, kn_ls s i, lsM]
theorem knowM_rdr : Rdr knowM varsS where
  f := fun s f => by unfold knowM; rw [kn_ls]; exact lsM_fine numM_rdr f 3
  g := fun s f h => by
    unfold knowM at h ⊢
    rw [kn_ls] at h ⊢
    have := lsM_seg numM_rdr f 3 h
    unfold varsS
    rw [lsM_len]
    exact this

theorem lsS_bad {α : Type} {r : GScan → α × GScan} {s : GScan} (hb : s.bad = true) : ∀ n, lsS r s n = ([], s)
  | 0 => rfl
  | n + 1 => by rw [lsS, lsS_bad hb n]; simp [hb]
theorem liS_stuck {α : Type} [Cel α] {r : GScan → α × GScan} {s : GScan} (f : Fine s) (h : (liS r s).2.bad = false) : s.bad = false := by
  cases hb : (cntM s).2.bad
  · exact (cntM_seg f hb).b
  · unfold liS at h
    rw [lsS_bad hb] at h
    simp only at h
    rw [h] at hb; cases hb
/-- What is sealed, unsealed. -/
def unOk (t : ByteArray) : Bool := decide (4 ≤ t.size) && (decide (t.size ≤ 20004) && decide (t.extract (t.size - 4) t.size = fourS (sumOf (t.extract 0 (t.size - 4)))))
def unS (t : ByteArray) : ByteArray := if unOk t = true then t.extract 0 (t.size - 4) else ⟨#[]⟩
def scan0 (t : ByteArray) : GScan := ⟨unS t, 0, !unOk t⟩
theorem scan0_fine (t : ByteArray) : Fine (scan0 t) := ⟨by simp [scan0], by simp [scan0]⟩
theorem unS_size (t : ByteArray) : (unS t).size ≤ 20000 := by
  unfold unS
  split
  · rename_i h
    simp only [unOk, Bool.and_eq_true, decide_eq_true_eq] at h
    rw [ByteArray.size_extract]; omega
  · exact Nat.zero_le _
theorem ba_all (t : ByteArray) : t.extract 0 t.size = t := by
  apply ByteArray.ext
  rw [ByteArray.data_extract]
  exact Array.extract_size
theorem unS_seal {t : ByteArray} (h : unOk t = true) : sealS (unS t) = t ∧ sealOk (unS t) = true := by
  have hs := unS_size t
  refine ⟨?_, by simp [sealOk, hs]⟩
  rw [sealS, if_pos hs, unS, if_pos h]
  simp only [unOk, Bool.and_eq_true, decide_eq_true_eq] at h
  rw [← h.2.2, ByteArray.extract_append_extract]
  rw [Nat.min_eq_left (by omega), Nat.max_eq_right (by omega)]
  exact ba_all t
theorem seal_unS {x t : ByteArray} (h : sealOk x = true) (e : sealS x = t) (ht : unOk t = true) : unS t = x := by
  simp only [sealOk, decide_eq_true_eq] at h
  rw [sealS, if_pos h] at e
  subst e
  rw [unS, if_pos ht]
  have e : (x ++ fourS (sumOf x)).size - 4 = x.size := by rw [ByteArray.size_append, fourS_size]; omega
  rw [e, ByteArray.extract_append_size_left]
  exact ba_all x
section
variable {α : Type} {rM rS : GScan → α × GScan} {w : α → ByteArray} {ok : α → Bool}
theorem whole_eq (hr : Rdr rM w) (he : ∀ s, Fine s → (rM s).2.bad = false ∨ (rS s).2.bad = false → rM s = rS s) (t : ByteArray) :
    ((rM (scan0 t)).2.bad = false ∧ (rM (scan0 t)).2.pos = (unS t).size ∧ ok (rM (scan0 t)).1 = true) ↔
    ((rS (scan0 t)).2.bad = false ∧ (ok (rS (scan0 t)).1 = true ∧ sealOk (w (rS (scan0 t)).1) = true) ∧ sealS (w (rS (scan0 t)).1) = t) := by
  have f := scan0_fine t
  constructor
  · rintro ⟨h1, h2, h3⟩
    have e := he _ f (Or.inl h1)
    have sg := hr.g _ f h1
    have hu : unOk t = true := by have := sg.b; simpa [scan0] using this
    have e2 := sg.e
    rw [h2] at e2
    have e3 : (scan0 t).t.extract (scan0 t).pos.toNat ((unS t).size : Int).toNat = unS t := by
      simp only [scan0, Int.toNat_natCast, Int.toNat_zero]
      exact ba_all _
    rw [e3] at e2
    rw [← e]
    have := unS_seal hu
    rw [← e2]
    exact ⟨h1, ⟨h3, this.2⟩, this.1⟩
  · rintro ⟨h1, ⟨h2, h3⟩, h4⟩
    have e := he _ f (Or.inr h1)
    rw [← e] at h1 h2 h3 h4
    have sg := hr.g _ f h1
    have hu : unOk t = true := by have := sg.b; simpa [scan0] using this
    have e2 := seal_unS h3 h4 hu
    refine ⟨h1, ?_, h2⟩
    have e4 := sg.e
    rw [← e2] at e4
    have e5 := congrArg ByteArray.size e4
    rw [ByteArray.size_extract] at e5
    have l := sg.l
    have hh := sg.h
    simp only [scan0] at e5 l hh ⊢
    omega
end
end Am
