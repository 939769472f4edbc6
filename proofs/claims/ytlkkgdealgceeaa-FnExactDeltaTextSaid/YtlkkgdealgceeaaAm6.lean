/- Cuts and conversions. No condition. -/
import Derived.Test.YtlkkgdealgceeaaAm5
namespace Am
open Go
set_option linter.unusedSimpArgs false
set_option linter.unusedVariables false
section
variable {P : Program} {T : Ty} {mv : Bool} {C : Ctx} {σ : AEnv} {a : Act} {w : World} {ι : Nat → Value} {Fs : Nat → List Nat} {τ : Nat → AObj} {e : Eff}
variable {dst : Option Tmp} {type : TypeId} {pos : String} {after : Array Edge} {guard : Option (Nat × Bool)}

theorem sliceBounds_run (isSlice : Bool) (len cap : Nat) (hlc : len ≤ cap) (lo hi : Option Value) (l h : Int) (kl kh : IntKind)
    (hlo : (lo = none ∧ l = 0) ∨ lo = some (.int kl l)) (hhi : (hi = none ∧ h = len) ∨ hi = some (.int kh h)) (h0 : 0 ≤ l) (h1 : l ≤ h) (h2 : h ≤ len) :
    (Instr.sliceBounds isSlice len cap lo hi none).run P w = .ok (l.toNat, h.toNat, cap) w := by
  have e1 : h ≤ (cap : Int) := by omega
  have e2 : 0 ≤ h := by omega
  have e3 : l ≤ max h 0 := by omega
  rcases hlo with ⟨rfl, rfl⟩ | rfl <;> rcases hhi with ⟨rfl, rfl⟩ | rfl <;>
    simp [Instr.sliceBounds, Instr.sliceBound, asIntOf, e1, e2, h0, h1, h2, e3]

theorem memAt_drop {b off : Nat} {xs : List Value} (h : memAt w b off xs) (n : Nat) : memAt w b (off + n) (xs.drop n) := fun j u hu => by
  rw [List.getElem?_drop] at hu
  have := h (n + j) u hu
  rwa [← Nat.add_assoc] at this

theorem memAt_take {b off : Nat} {xs : List Value} (h : memAt w b off xs) (n : Nat) : memAt w b off (xs.take n) := fun j u hu => by
  rw [List.getElem?_take] at hu
  split at hu
  · exact h j u hu
  · cases hu

theorem Rs_take {U : Nat → Prop} {ps : List PV} {vs : List Value} (h : Rs w U ps vs []) (n : Nat) : Rs w U (ps.take n) (vs.take n) [] := by
  obtain ⟨F1, F2, h1, _, hF⟩ := Rs_split n ps vs [] h
  have : F1 = [] := (List.append_eq_nil_iff.1 hF.symm).1
  rwa [this] at h1

theorem Rs_drop {U : Nat → Prop} {ps : List PV} {vs : List Value} (h : Rs w U ps vs []) (n : Nat) : Rs w U (ps.drop n) (vs.drop n) [] := by
  obtain ⟨F1, F2, _, h2, hF⟩ := Rs_split n ps vs [] h
  have : F2 = [] := (List.append_eq_nil_iff.1 hF.symm).2
  rwa [this] at h2

theorem bnd_run (h : Sim C σ a w ι Fs) {x : Option Operand} {d : Int} {s : Prop} {k : IntKind} {n : Int} (he : bnd (ev σ) d x = (s, .c (.int k n))) (hs : s) :
    (x.map a.eval = none ∧ n = d) ∨ x.map a.eval = some (.int k n) := by
  cases x with
  | none => simp only [bnd, Prod.mk.injEq, AV.c.injEq, PV.int.injEq] at he; exact .inl ⟨rfl, he.2.2.symm⟩
  | some x => simp only [bnd] at he; exact .inr (by rw [Option.map_some, AR_int (ev_ug h x he hs)])


theorem snd_convert_int (hT : TyOK P T) (h : Sim C σ a w ι Fs) {s t : Nat} {x : Operand} {z0 z1 : Nat} {z2 : List AV} {z3 : Bool} {k k' k2 : IntKind} {y0 y1 : Nat} {y2 : List AV} {y3 : Bool} {n : Int} {sd : Prop}
    (h1 : T.lookup s = some ⟨.int k, z0, z1, z2, z3⟩) (h2 : T.lookup t = some ⟨.int k', y0, y1, y2, y3⟩) (hx : (ev σ x).ug = (sd, .c (.int k2 n))) (hs : sd) :
    Snd P C σ a w ⟨dst, .convert s t x, type, pos, after, guard⟩ ⟨sd, .c (.int k' (k'.wrap n)), []⟩ := by
  have e1 := (hT.m h1).int rfl
  have e2 := (hT.m h2).int rfl
  have hv := AR_int (ev_ug h x hx hs)
  exact Snd.pure h (by simp [execOp, Go.convert, run_underlying e1, run_underlying e2, hv, Conv.intToInt]) AR_mkint

end
end Am
