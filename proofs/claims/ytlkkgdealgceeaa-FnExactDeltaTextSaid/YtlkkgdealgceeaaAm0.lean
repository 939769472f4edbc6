/- Values as trees, and how they lie in memory. No condition. -/
import Derived.Laws.AppendOwn
import Derived.Laws.OwnMore
import Derived.Orders
import Derived.Tactics
namespace Am
open Go

/-- One cell's worth of data: a scalar, a slice that nobody writes ('im'), or a slice that is owned alone ('ow': element type, its cells, length, all cells). -/
inductive PV where
  | int (k : IntKind) (n : Int)
  | bool (b : Bool)
  | str (s : ByteArray)
  | im (n : Nat) (cs : List PV)
  | ow (ety esz n : Nat) (cs : List PV)
  | any
  | tk (v : Value)
  deriving Inhabited

def memAt (w : World) (b off : Nat) (xs : List Value) : Prop := ∀ j u, xs[j]? = some u → w.cell? ⟨b, off + j, none⟩ = some u

mutual
def R (w : World) (U : Nat → Prop) : PV → Value → List Nat → Prop
  | .int k n, v, F => v = .int k n ∧ F = []
  | .bool b, v, F => v = .bool b ∧ F = []
  | .str s, v, F => v = .string s ∧ F = []
  | .im n cs, v, F => F = [] ∧ ∃ a cap, v = .slice a n cap ∧ n ≤ cap ∧ (cs = [] ∨ ∃ b off xs, a = some ⟨b, off, none⟩ ∧ U b ∧ memAt w b off xs ∧ Rs w U cs xs [])
  | .ow ety esz n cs, v, F => ∃ xs F', w.ownsRow 0 ety esz v n xs ∧ Rs w U cs xs F' ∧ F = v.ownBlock.toList ++ F'
  | .any, v, F => (v.oneCell' = true ∧ v.cells = #[v]) ∧ F = []
  | .tk u, v, F => v = u ∧ (v.oneCell' = true ∧ v.cells = #[v]) ∧ F = []
def Rs (w : World) (U : Nat → Prop) : List PV → List Value → List Nat → Prop
  | [], [], F => F = []
  | p :: ps, v :: vs, F => ∃ F1 F2, R w U p v F1 ∧ Rs w U ps vs F2 ∧ F = F1 ++ F2
  | [], _ :: _, _ => False
  | _ :: _, [], _ => False
end

mutual
def frz : PV → PV
  | .int k n => .int k n
  | .bool b => .bool b
  | .str s => .str s
  | .im n cs => .im n (frzs cs)
  | .ow _ _ n cs => .im n (frzs cs)
  | .any => .any
  | .tk v => .tk v
def frzs : List PV → List PV
  | [] => []
  | p :: ps => frz p :: frzs ps
end

theorem frzs_eq_map (l : List PV) : frzs l = l.map frz := by
  induction l with
  | nil => rfl
  | cons p l ih => simp [frzs, ih]

theorem memAt_mono {w w' : World} {b off : Nat} {xs : List Value} (h : memAt w b off xs) (hb : w'.heap[b]? = w.heap[b]?) : memAt w' b off xs :=
  fun j u hu => (World.cell?_of_block (w := w) (w' := w') (a := ⟨b, off + j, none⟩) hb).trans (h j u hu)

theorem ownsRow_mono {w w' : World} {e size n : Nat} {v : Value} {xs : List Value} (h : w.ownsRow 0 e size v n xs)
    (hb : ∀ k, v.ownBlock = some k → w'.heap[k]? = w.heap[k]?) : w'.ownsRow 0 e size v n xs := by
  obtain ⟨h1, h2⟩ := h
  refine ⟨h1, ?_⟩
  rcases h2 with h2 | ⟨g, cap, cur, hv, hg, hh, r⟩
  · exact Or.inl h2
  · exact Or.inr ⟨g, cap, cur, hv, hg, by rw [hb g (by rw [hv]; rfl)]; exact hh, r⟩

mutual
theorem R_mono {w w' : World} {U U' : Nat → Prop} (hU : ∀ k, U k → U' k) (hh : ∀ k, U k → w'.heap[k]? = w.heap[k]?) :
    ∀ (p : PV) (v : Value) (F : List Nat), R w U p v F → (∀ k, k ∈ F → w'.heap[k]? = w.heap[k]?) → R w' U' p v F
  | .int k n, v, F, h, _ => by simpa only [R] using h
  | .bool b, v, F, h, _ => by simpa only [R] using h
  | .str s, v, F, h, _ => by simpa only [R] using h
  | .im n cs, v, F, h, _ => by
    simp only [R] at h ⊢
    obtain ⟨hF, a, cap, hv, hn, hc⟩ := h
    refine ⟨hF, a, cap, hv, hn, ?_⟩
    rcases hc with hc | ⟨b, off, xs, ha, hb, hm, hr⟩
    · exact .inl hc
    · exact .inr ⟨b, off, xs, ha, hU _ hb, memAt_mono hm (hh _ hb), Rs_mono hU hh cs xs [] hr (by simp)⟩
  | .ow ety esz n cs, v, F, h, hF => by
    simp only [R] at h ⊢
    obtain ⟨xs, F', ho, hr, rfl⟩ := h
    exact ⟨xs, F', ownsRow_mono ho (fun k hk => hF k (by simp [hk])), Rs_mono hU hh cs xs F' hr (fun k hk => hF k (by simp [hk])), rfl⟩
  | .any, v, F, h, _ => by simpa only [R] using h
  | .tk u, v, F, h, _ => by simpa only [R] using h
theorem Rs_mono {w w' : World} {U U' : Nat → Prop} (hU : ∀ k, U k → U' k) (hh : ∀ k, U k → w'.heap[k]? = w.heap[k]?) :
    ∀ (ps : List PV) (vs : List Value) (F : List Nat), Rs w U ps vs F → (∀ k, k ∈ F → w'.heap[k]? = w.heap[k]?) → Rs w' U' ps vs F
  | [], [], F, h, _ => by simpa only [Rs] using h
  | p :: ps, v :: vs, F, h, hF => by
    simp only [Rs] at h ⊢
    obtain ⟨F1, F2, h1, h2, rfl⟩ := h
    exact ⟨F1, F2, R_mono hU hh p v F1 h1 (fun k hk => hF k (by simp [hk])), Rs_mono hU hh ps vs F2 h2 (fun k hk => hF k (by simp [hk])), rfl⟩
  | [], _ :: _, F, h, _ => by simp only [Rs] at h
  | _ :: _, [], F, h, _ => by simp only [Rs] at h
end

mutual
/-- What is owned may be looked at as what nobody writes. -/
theorem R_frz {w : World} {U U' : Nat → Prop} (hU : ∀ k, U k → U' k) : ∀ (p : PV) (v : Value) (F : List Nat), R w U p v F → (∀ k, k ∈ F → U' k) → R w U' (frz p) v []
  | .int k n, v, F, h, _ => by simp only [R, frz] at h ⊢; exact ⟨h.1, trivial⟩
  | .bool b, v, F, h, _ => by simp only [R, frz] at h ⊢; exact ⟨h.1, trivial⟩
  | .str s, v, F, h, _ => by simp only [R, frz] at h ⊢; exact ⟨h.1, trivial⟩
  | .im n cs, v, F, h, _ => by
    simp only [R, frz] at h ⊢
    obtain ⟨hF, a, cap, hv, hn, hc⟩ := h
    refine ⟨trivial, a, cap, hv, hn, ?_⟩
    rcases hc with rfl | ⟨b, off, xs, ha, hb, hm, hr⟩
    · exact .inl rfl
    · exact .inr ⟨b, off, xs, ha, hU _ hb, hm, Rs_frz hU cs xs [] hr (by simp)⟩
  | .ow ety esz n cs, v, F, h, hF => by
    simp only [R, frz] at h ⊢
    obtain ⟨xs, F', ho, hr, rfl⟩ := h
    have hr' := Rs_frz hU cs xs F' hr (fun k hk => hF k (by simp [hk]))
    have ho' := ho
    obtain ⟨h1, h2⟩ := ho
    rcases h2 with ⟨rfl, rfl⟩ | ⟨g, cap, cur, rfl, hg, hh, hn, hm, hs, ht⟩
    · refine ⟨trivial, none, 0, rfl, Nat.le_refl _, .inl ?_⟩
      have hx : xs = [] := List.eq_nil_of_length_eq_zero (by simpa using h1)
      subst hx
      cases cs with
      | nil => rfl
      | cons p cs => simp only [Rs] at hr
    · refine ⟨trivial, some ⟨g, 0, none⟩, cap, rfl, hn, .inr ⟨g, 0, xs, rfl, hF g (by simp [Value.ownBlock]), ?_, hr'⟩⟩
      intro j u hu
      have := ho'.cells (g := g) rfl j u hu
      have hadd : (⟨g, 0, none⟩ : Addr).add j = ⟨g, j, none⟩ := by unfold Addr.add; split <;> simp_all
      rw [hadd] at this
      simpa using this
  | .any, v, F, h, _ => by simp only [R, frz] at h ⊢; exact ⟨h.1, trivial⟩
  | .tk u, v, F, h, _ => by simp only [R, frz] at h ⊢; exact ⟨h.1, h.2.1, trivial⟩
theorem Rs_frz {w : World} {U U' : Nat → Prop} (hU : ∀ k, U k → U' k) : ∀ (ps : List PV) (vs : List Value) (F : List Nat), Rs w U ps vs F → (∀ k, k ∈ F → U' k) → Rs w U' (frzs ps) vs []
  | [], [], F, h, _ => by simp only [Rs, frzs] at h ⊢
  | p :: ps, v :: vs, F, h, hF => by
    simp only [Rs, frzs] at h ⊢
    obtain ⟨F1, F2, h1, h2, rfl⟩ := h
    exact ⟨[], [], R_frz hU p v F1 h1 (fun k hk => hF k (by simp [hk])), Rs_frz hU ps vs F2 h2 (fun k hk => hF k (by simp [hk])), rfl⟩
  | [], _ :: _, F, h, _ => by simp only [Rs] at h
  | _ :: _, [], F, h, _ => by simp only [Rs] at h
end

theorem R_oneCell {w : World} {U : Nat → Prop} {p : PV} {v : Value} {F : List Nat} (h : R w U p v F) : v.oneCell' = true ∧ v.cells = #[v] := by
  cases p with
  | int k n => simp only [R] at h; obtain ⟨rfl, _⟩ := h; exact ⟨rfl, rfl⟩
  | bool b => simp only [R] at h; obtain ⟨rfl, _⟩ := h; exact ⟨rfl, rfl⟩
  | str s => simp only [R] at h; obtain ⟨rfl, _⟩ := h; exact ⟨rfl, rfl⟩
  | im n cs => simp only [R] at h; obtain ⟨_, a, cap, rfl, _⟩ := h; exact ⟨rfl, rfl⟩
  | ow ety esz n cs =>
    simp only [R] at h
    obtain ⟨xs, F', ⟨_, ho⟩, _⟩ := h
    rcases ho with ⟨rfl, _⟩ | ⟨g, cap, cur, rfl, _⟩ <;> exact ⟨rfl, rfl⟩
  | any => simp only [R] at h; exact h.1
  | tk u => simp only [R] at h; exact h.2.1

theorem Rs_length {w : World} {U : Nat → Prop} : ∀ (ps : List PV) (vs : List Value) (F : List Nat), Rs w U ps vs F → ps.length = vs.length
  | [], [], _, _ => rfl
  | p :: ps, v :: vs, F, h => by
    simp only [Rs] at h
    obtain ⟨F1, F2, _, h2, _⟩ := h
    simp [Rs_length ps vs F2 h2]
  | [], _ :: _, _, h => by simp only [Rs] at h
  | _ :: _, [], _, h => by simp only [Rs] at h

theorem Rs_append {w : World} {U : Nat → Prop} : ∀ (ps qs : List PV) (vs us : List Value) (F G : List Nat), Rs w U ps vs F → Rs w U qs us G → Rs w U (ps ++ qs) (vs ++ us) (F ++ G)
  | [], qs, [], us, F, G, h, h' => by simp only [Rs] at h; subst h; simpa using h'
  | p :: ps, qs, v :: vs, us, F, G, h, h' => by
    simp only [Rs] at h
    obtain ⟨F1, F2, h1, h2, rfl⟩ := h
    simp only [List.cons_append, Rs]
    exact ⟨F1, F2 ++ G, h1, Rs_append ps qs vs us F2 G h2 h', by simp⟩
  | [], _, _ :: _, _, _, _, h, _ => by simp only [Rs] at h
  | _ :: _, _, [], _, _, _, h, _ => by simp only [Rs] at h

/-- Part of a list of cells. -/
theorem Rs_split {w : World} {U : Nat → Prop} : ∀ (n : Nat) (ps : List PV) (vs : List Value) (F : List Nat), Rs w U ps vs F →
    ∃ F1 F2, Rs w U (ps.take n) (vs.take n) F1 ∧ Rs w U (ps.drop n) (vs.drop n) F2 ∧ F = F1 ++ F2
  | 0, ps, vs, F, h => ⟨[], F, by simp [Rs], by simpa using h, by simp⟩
  | n + 1, [], [], F, h => ⟨[], F, by simp [Rs], by simpa using h, by simp⟩
  | n + 1, p :: ps, v :: vs, F, h => by
    simp only [Rs] at h
    obtain ⟨F1, F2, h1, h2, rfl⟩ := h
    obtain ⟨G1, G2, g1, g2, rfl⟩ := Rs_split n ps vs F2 h2
    exact ⟨F1 ++ G1, G2, by simp only [List.take_succ_cons, Rs]; exact ⟨F1, G1, h1, g1, rfl⟩, by simpa using g2, by simp⟩
  | _ + 1, [], _ :: _, _, h => by simp only [Rs] at h
  | _ + 1, _ :: _, [], _, h => by simp only [Rs] at h

theorem Rs_get {w : World} {U : Nat → Prop} {ps : List PV} {vs : List Value} {F : List Nat} (h : Rs w U ps vs F) {i : Nat} {p : PV} (hp : ps[i]? = some p) :
    ∃ v F', vs[i]? = some v ∧ R w U p v F' ∧ (∀ k, k ∈ F' → k ∈ F) := by
  induction ps generalizing vs F i with
  | nil => simp at hp
  | cons q ps ih =>
    cases vs with
    | nil => simp only [Rs] at h
    | cons v vs =>
      simp only [Rs] at h
      obtain ⟨F1, F2, h1, h2, rfl⟩ := h
      cases i with
      | zero => simp at hp; subst hp; exact ⟨v, F1, rfl, h1, by simp; exact fun k hk => .inl hk⟩
      | succ i =>
        obtain ⟨v', F', hv, hr, hF⟩ := ih h2 (by simpa using hp)
        exact ⟨v', F', by simpa using hv, hr, fun k hk => by simp [hF k hk]⟩

end Am
