/- Functions of the program keep their contracts. No condition. -/
import Derived.Test.YteidfkbfocdnmaaGreatProg
import Derived.KernelRfl
import Derived.Shelf.SlicesQ.Reverse
import Derived.Shelf.RegionOpenPlain
import Derived.WalkKit
import Derived.Deep.LoopGhost
import Derived.Deep.Draws
import Derived.Lib.Walk
import Derived.Sort.WalkB12
import Derived.Lib.SliceRun
import Derived.Lib.SlicesCompact
import Derived.Test.YteidfkbfocdnmaaGreatT
import Derived.Test.YteidfkbfocdnmaaGreatD
import Derived.Test.YteidfkbfocdnmaaGreatY2
namespace Am
open Go Go.Proofs Go.Shelf Go.RowKit Go.Lib Go.Sort
set_option maxRecDepth 100000
def encC (x : GClash) : List Value := [.string x.obj, .string x.key]
theorem heqC (x y : GClash) (w : World) : Sem.run Tryz.prog (binOp .eql 48 (.agg (encC x).toArray) (.agg (encC y).toArray)) w = .ok (.bool (decide (x = y))) w := by
  have hu := Tryz.underlying48
  have hp : Tryz.prog.stoodInHeld 48 = false := by kernel_rfl
  have hs : Tryz.prog.underlying 48 = some (.struct (Tryz.prog.fieldsOf 48)) := by simp [Program.fieldsOf, hu]
  rw [run_eql_struct, run_equalIn_agg _ _ _ _ _ hs hp]
  have h9 := Tryz.underlying9
  have a9 := Tryz.isAgg9
  have z9 := Tryz.sizeOf9
  simp [Program.fieldsOf, hu, Op.eqFields, encC, part, a9, z9, run_equalIn_string _ _ _ _ _ h9]
  by_cases e1 : x.obj = y.obj
  · by_cases e2 : x.key = y.key
    · simp [e1, e2, GClash.ext_iff]
    · simp [e1, e2, GClash.ext_iff]
  · simp [e1, GClash.ext_iff]
theorem hneC (x y : GClash) (w : World) : Sem.run Tryz.prog (binOp .neq 48 (.agg (encC x).toArray) (.agg (encC y).toArray)) w = .ok (.bool (!decide (x = y))) w := by
  have h := heqC x y w
  rw [run_eql_struct] at h
  rw [run_neq_struct]
  cases hr : Sem.run Tryz.prog (Op.equalIn 10000 48 (.agg (encC x).toArray) (.agg (encC y).toArray)) w with
  | ok a w1 => rw [hr] at h; simp at h ⊢; obtain ⟨h1, h2⟩ := h; subst h2; simp [h1]
  | halt a w1 => rw [hr] at h; simp at h
theorem hgdC (op : BinOp) (a b : Operand) (x y : GClash) (w : World) : Sem.run Tryz.prog (eqGuard op 48 a b (.agg (encC x).toArray) (.agg (encC y).toArray)) w = .ok () w :=
  run_eqGuard_agg w op 48 a b _ _ (by kernel_rfl)

theorem clear_K {P : Program} (w : World) (t e : TypeId) (z : Value) (k : Nat) (ht : P.underlying t = some (.slice e)) (hv : ∀ w, (zeroValue e).run P w = .ok z w) (hz : z.cells.size = k) (h1 : ∀ v, v ∈ z.cells.toList → v.oneCell' = true) (b o n c : Nat) (hn : 0 < n)
    (hc : ∀ j, j < n * k → (w.cell? ⟨b, o + j, none⟩).isSome = true) (hf : ∀ j, j < n * k → w.frozen? ⟨b, o + j, none⟩ = false) :
    ∃ cs : List Value, cs.length = n * k ∧ ∀ ty, (Builtin.clear_ #[t] ty #[.slice (some ⟨b, o, none⟩) n c]).run P w = .ok (.tuple #[]) (w.setCells b o cs) := by
  have hl : (Builtin.zeroCells z.cells n).toList.length = n * k := by simp [Builtin.zeroCells, hz]
  refine ⟨(Builtin.zeroCells z.cells n).toList, hl, ?_⟩
  have hst := run_storeCells_cells (P := P) b o (Builtin.zeroCells z.cells n).toList 0 w (by rw [hl]; simpa using hc) (by rw [hl]; simpa using hf) (by
    intro v hv'
    simp [Builtin.zeroCells] at hv'
    obtain ⟨a, ha, rfl⟩ := hv'
    have h0 : 0 < z.cells.size := by
      rcases Nat.eq_zero_or_pos z.cells.size with h | h
      · rw [h] at ha; omega
      · exact h
    have hlt : a % z.cells.size < z.cells.size := Nat.mod_lt _ h0
    rw [getElem!_pos z.cells _ hlt]
    exact h1 _ (by simp))
  simp only [Nat.add_zero] at hst
  intro ty
  obtain ⟨m, rfl⟩ : ∃ m, n = m + 1 := ⟨n - 1, by omega⟩
  simp [Builtin.clear_, run_underlying ht, hv, hst]

theorem bndK (n k x : Nat) (hx : x < n) : x * k + k ≤ n * k := by
  have := Nat.mul_le_mul_right k (show x + 1 ≤ n from hx); rwa [Nat.add_mul, Nat.one_mul] at this
theorem setMany_set (enc : GClash → List Value) (k : Nat) (hk : ∀ x, (enc x).length = k) (d : Array GClash) (i : Nat) (hi : i < d.size) (y : GClash) : setMany (flatK enc k d) (i * k) (enc y) = flatK enc k (d.setIfInBounds i y) := by
  refine ext_get! (by simp) fun t ht => ?_
  have ht' : t < d.size * k := by simpa using ht
  have k0 : 0 < k := by
    rcases Nat.eq_zero_or_pos k with h | h
    · subst h; simp at ht'
    · exact h
  rw [get_setMany _ _ _ t (by simpa using ht'), hk, get_flatK enc k d t ht', get_flatK enc k (d.setIfInBounds i y) t (by simpa using ht')]
  have hd : t / k < d.size := by rw [Nat.div_lt_iff_lt_mul k0]; exact ht'
  by_cases a : t / k = i
  · rw [if_pos ((blk_iff k i t k0).2 a)]
    have m : t - i * k = t % k := by subst a; rw [Nat.mod_eq_sub_div_mul]
    rw [m, a, getElem!_pos (d.setIfInBounds i y) i (by simpa using hi)]
    simp
  · rw [if_neg (fun h => a ((blk_iff k i t k0).1 h)), getElem!_pos (d.setIfInBounds i y) (t / k) (by simpa using hd), getElem!_pos d (t / k) hd]
    rw [Array.getElem_setIfInBounds_ne hd (Ne.symm a)]
theorem worldK (enc : GClash → List Value) (k : Nat) (hk : ∀ x, (enc x).length = k) (w wr : World) (q2 nq blk off : Nat) (dk : Array GClash) (m : Nat) (hm : m < dk.size) (y : GClash) (hwr : wr = putRowK enc k (Sort.ahead w q2) blk off dk) :
    (wr.drewN nq).setCells blk (off + m * k) (enc y) = putRowK enc k (Sort.ahead w (q2 + nq)) blk off (dk.setIfInBounds m y) := by
  rw [hwr, putRowK_drewN]
  unfold putRowK
  rw [setCells_putRow _ _ _ _ _ _ (by rw [hk, size_flatK]; exact bndK _ k m hm), setMany_set enc k hk dk m hm y]
/-- What the row is found to be: its first m elements told. -/
def Row (enc : GClash → List Value) (k : Nat) (w : World) (blk off n : Nat) (cs : List GClash) (w' : World) : Prop :=
  ∃ q F, w' = putRow id (Sort.ahead w q) blk off F ∧ F.size = n * k ∧ ∀ t, t < cs.length * k → F[t]! = (flatK enc k cs.toArray)[t]!

set_option maxHeartbeats 8000000 in
theorem compactK_run (enc : GClash → List Value) (k : Nat) (hk0 : 0 < k) (hk : ∀ x, (enc x).length = k) (h1 : ∀ x, ∀ v ∈ enc x, v.oneCell' = true)
    (aE : ∀ w, (isAgg 48).run Tryz.prog w = .ok true w) (zE : ∀ w, (Go.sizeOf 48).run Tryz.prog w = .ok k w)
    (heq : ∀ (x y : GClash) (w : World), Sem.run Tryz.prog (binOp .eql 48 (.agg (enc x).toArray) (.agg (enc y).toArray)) w = .ok (.bool (decide (x = y))) w)
    (hne : ∀ (x y : GClash) (w : World), Sem.run Tryz.prog (binOp .neq 48 (.agg (enc x).toArray) (.agg (enc y).toArray)) w = .ok (.bool (!decide (x = y))) w)
    (hgd : ∀ (op : BinOp) (a b : Operand) (x y : GClash) (w : World), Sem.run Tryz.prog (eqGuard op 48 a b (.agg (enc x).toArray) (.agg (enc y).toArray)) w = .ok () w)
    (z : Value) (vE : ∀ w, (zeroValue 48).run Tryz.prog w = .ok z w) (hz : z.cells.size = k) (hz1 : ∀ v, v ∈ z.cells.toList → v.oneCell' = true)
    (blk off cap : Nat) (d : Array GClash) (w : World) (hH : HoldsK enc k w blk off d) (hsz : d.size ≤ 4611686018427387904) (hcap : d.size ≤ cap) :
    Calls Tryz.prog 143 #[.slice (some ⟨blk, off, none⟩) d.size cap] w fun e w' => e = .returned (.slice (some ⟨blk, off, none⟩) (compactUpTo d d.size).length cap) ∧ Row enc k w blk off d.size (compactUpTo d d.size) w' := by
  have mixed : Tryz.prog.follows .mixedOrders = true := by kernel_rfl
  have t39 := Tryz.underlying45
  have a39 := Tryz.isAgg45
  have z39 := Tryz.sizeOf45
  have same : ∀ q, (∀ j, j < d.size → keeps d j = true) → (compactUpTo d d.size).length = d.size ∧ Row enc k w blk off d.size (compactUpTo d d.size) (w.drewN q) := by
    intro q hall
    have e : compactUpTo d d.size = d.toList := by rw [compactUpTo_all d _ hall, range_map_get]
    rw [e]
    refine ⟨by simp, q, flatK enc k d, ?_, by simp, fun t ht => ?_⟩
    · exact (putRowK_self enc k (Sort.ahead w q) blk off d (holdsK_ahead enc k w q blk off d hH)).symm
    · simp
  have HS : Aside (∀ q, (∀ j, j < d.size → keeps d j = true) → (compactUpTo d d.size).length = d.size ∧ Row enc k w blk off d.size (compactUpTo d d.size) (w.drewN q)) := same
  clear same
  have hld : ∀ j, j < d.size → ∀ q, Sem.run Tryz.prog (loadCellsFrom ⟨blk, off + j * k, none⟩ 0 k #[]) (w.drewN q) = .ok (enc d[j]!).toArray (w.drewN q) := fun j hj q =>
    run_loadCellsFrom_list Tryz.prog _ _ _ k (hk _) (HoldsK.cells (holdsK_ahead enc k w q blk off d hH) hk hj)
  by_cases h2 : d.size < 2
  · clear hH hld
    go_enter Tryz.func143, Tryz.ntmps143
    go_wp2
    go_ret
    obtain ⟨e1, e2⟩ := HS.out 0 (fun j hj => keeps_lt_one d j (by omega))
    exact ⟨by rw [e1]; rfl, e2⟩
  · go_enter Tryz.func143, Tryz.ntmps143
    go_wp2
    go_loopg [3] d.size (fun g s3 wr => ∃ kk q : Nat, 1 ≤ kk ∧ kk ≤ d.size ∧ d.size - kk ≤ g ∧ s3 = .int .i64 kk ∧ wr = w.drewN q ∧ ∀ j, j < kk → keeps d j = true)
    case atStart => exact ⟨1, 0, Nat.le_refl _, by omega, by omega, rfl, rfl, keeps_lt_one d⟩
    case round =>
      obtain ⟨kk, q, hk1, hkk, hg, rfl, rfl, hall⟩ := hrel
      by_cases hlt : kk < d.size
      · have g1 : ∀ m, Sem.run Tryz.prog (loadCellsFrom ⟨blk, off + kk * k, none⟩ 0 k #[]) ((w.drewN q).drewN m) = .ok (enc d[kk]!).toArray ((w.drewN q).drewN m) := fun m => by rw [World.drewN_drewN]; exact hld kk hlt _
        have g2 : ∀ m, Sem.run Tryz.prog (loadCellsFrom ⟨blk, off + (kk - 1) * k, none⟩ 0 k #[]) ((w.drewN q).drewN m) = .ok (enc d[kk - 1]!).toArray ((w.drewN q).drewN m) := fun m => by rw [World.drewN_drewN]; exact hld (kk - 1) (by omega) _
        have A : Aside (∀ j, j < kk → keeps d j = true) := hall
        have HH : Aside (HoldsK enc k w blk off d) := hH
        clear hall hH hld
        generalize hx : d[kk]! = x at g1
        generalize hy : d[kk - 1]! = y at g2
        have B : Aside (d[kk]! = x ∧ d[kk - 1]! = y) := ⟨hx, hy⟩
        clear hx hy
        generalize hwq : w.drewN q = wq at g1 g2 ⊢
        have hwp : IntKind.i64.wrap ((kk : Int) - 1) = ((kk - 1 : Nat) : Int) := by rw [wrap64 (by omega) (by omega)]; omega
        have hlp : kk - 1 < d.size := by omega
        by_cases hdup : x = y
        · subst hdup
          go_wp2_with fail
          go_quiet_o (fail)
          go_wp2
          clear g1 g2 hwp hlp
          go_loopg [3, 5] d.size (fun g s3 s5 wr => ∃ (m k2 q2 : Nat) (dk : Array GClash), s3 = .int .i64 m ∧ s5 = .int .i64 k2 ∧ 1 ≤ k2 ∧ kk + k2 ≤ d.size ∧ d.size - (kk + k2) ≤ g ∧ wr = putRowK enc k (Sort.ahead w q2) blk off dk ∧ CompInv d (kk + k2) m dk)
          case atStart =>
            refine ⟨kk, 1, q + nq, d, rfl, rfl, Nat.le_refl _, by omega, by omega, ?_, CompInv.start A.out (keeps_neg (by omega) (by rw [B.out.1, B.out.2]))⟩
            rw [← hwq, World.drewN_drewN]
            exact (putRowK_self enc k (Sort.ahead w (q + nq)) blk off d (holdsK_ahead enc k w (q + nq) blk off d HH.out)).symm
          case round =>
            obtain ⟨m, k2, q2, dk, rfl, rfl, hk2, hle, hg2, hwr, hI⟩ := hrel
            have hm := hI.lt
            have hds := hI.size
            have hHk : HoldsK enc k wr blk off dk := by rw [hwr]; exact holdsK_putRowK enc k _ blk off d dk (holdsK_ahead enc k w q2 blk off d HH.out) hds
            have W2 : Aside (wr = putRowK enc k (Sort.ahead w q2) blk off dk) := hwr
            have I2 : Aside (CompInv d (kk + k2) m dk) := hI
            clear hwr
            by_cases hlt2 : kk + k2 < d.size
            · have f1 : ∀ z, Sem.run Tryz.prog (loadCellsFrom ⟨blk, off + kk * k + k2 * k, none⟩ 0 k #[]) (wr.drewN z) = .ok (enc d[kk + k2]!).toArray (wr.drewN z) := fun z => by
                have := run_loadCellsFrom_list Tryz.prog (wr.drewN z) _ _ k (hk _) (HoldsK.cells (holdsK_ahead enc k wr z blk off dk hHk) hk (i := kk + k2) (by omega))
                rw [hI.high (kk + k2) (by omega), Nat.add_mul, ← Nat.add_assoc] at this
                exact this
              have f2 : ∀ z, Sem.run Tryz.prog (loadCellsFrom ⟨blk, off + kk * k + (k2 - 1) * k, none⟩ 0 k #[]) (wr.drewN z) = .ok (enc d[kk + k2 - 1]!).toArray (wr.drewN z) := fun z => by
                have := run_loadCellsFrom_list Tryz.prog (wr.drewN z) _ _ k (hk _) (HoldsK.cells (holdsK_ahead enc k wr z blk off dk hHk) hk (i := kk + k2 - 1) (by omega))
                rw [hI.high (kk + k2 - 1) (by omega), show (kk + k2 - 1) * k = kk * k + (k2 - 1) * k by rw [← Nat.add_mul]; congr 1; omega, ← Nat.add_assoc] at this
                exact this
              have fs : ∀ z, Sem.run Tryz.prog (storeCells ⟨blk, off + m * k, none⟩ (enc d[kk + k2]!) 0) (wr.drewN z) = .ok () ((wr.drewN z).setCells blk (off + m * k) (enc d[kk + k2]!)) := fun z =>
                stores_of_holds Tryz.prog (holdsK_ahead enc k wr z blk off dk hHk) (m * k) _ (by rw [hk, size_flatK]; exact bndK dk.size k m (by omega)) (h1 _)
              clear hHk hI
              generalize hu : d[kk + k2]! = u at f1 fs
              generalize hv : d[kk + k2 - 1]! = v at f2
              have C : Aside (d[kk + k2]! = u ∧ d[kk + k2 - 1]! = v) := ⟨hu, hv⟩
              clear hu hv
              have hwp : IntKind.i64.wrap ((k2 : Int) - 1) = ((k2 - 1 : Nat) : Int) := by rw [wrap64 (by omega) (by omega)]; omega
              have hlp : k2 - 1 < d.size - kk := by omega
              have hlq : k2 < d.size - kk := by omega
              by_cases huv : u = v
              · subst huv
                go_wp2_with fail
                go_quiet_o (fail)
                go_wp2
                go_roundg (d.size - (kk + (k2 + 1)))
                case measure => omega
                case rel => exact ⟨m, k2 + 1, q2 + nq, dk, rfl, by go_num, by omega, by omega, Nat.le_refl _, by rw [W2.out]; exact putRowK_drewN enc k w q2 nq blk off dk, I2.out.skip (keeps_neg (by omega) (by rw [C.out.1, C.out.2]))⟩
              · go_wp2_with fail
                go_quiet_o (fail)
                go_wp2
                go_roundg (d.size - (kk + (k2 + 1)))
                case measure => omega
                case rel => exact ⟨m + 1, k2 + 1, q2 + nq, dk.setIfInBounds m u, by go_num, by go_num, by omega, by omega, Nat.le_refl _, worldK enc k hk w wr q2 nq blk off dk m (by omega) u W2.out, by have := I2.out.keep hlt2 (keeps_pos (by rw [C.out.1, C.out.2]; exact huv)); rwa [C.out.1] at this⟩
            · have hend : kk + k2 = d.size := by omega
              obtain ⟨cs, hcs, hcl⟩ := clear_K (P := Tryz.prog) wr 45 48 z k t39 vE hz hz1 blk (off + m * k) (d.size - m) (cap - m) (by omega)
                (fun j hj => by
                  have hj2 : m * k + j < (flatK enc k dk).size := by rw [size_flatK, hds]; have : (d.size - m) * k = d.size * k - m * k := Nat.sub_mul _ _ _; have := Nat.mul_le_mul_right k (show m ≤ d.size by omega); omega
                  rw [Nat.add_assoc, (hHk (m * k + j) hj2).1]; rfl)
                (fun j hj => by
                  have hj2 : m * k + j < (flatK enc k dk).size := by rw [size_flatK, hds]; have : (d.size - m) * k = d.size * k - m * k := Nat.sub_mul _ _ _; have := Nat.mul_le_mul_right k (show m ≤ d.size by omega); omega
                  rw [Nat.add_assoc]; exact (hHk (m * k + j) hj2).2)
              clear hHk hI
              have hmn : m ≤ d.size := by omega
              go_wp2
              go_ret
              have hI := I2.out
              rw [hend] at hI
              refine ⟨by rw [hI.len]; rfl, q2, setMany (flatK enc k dk) (m * k) cs, ?_, by simp [hds], fun t ht => ?_⟩
              · rw [W2.out]
                have hcs2 : cs.length = d.size * k - m * k := by rw [hcs, Nat.sub_mul]
                have := Nat.mul_le_mul_right k hmn
                exact setCells_putRow _ blk off cs (m * k) (flatK enc k dk) (by rw [size_flatK, hds]; omega)
              · rw [hI.len] at ht
                have hmk := Nat.mul_le_mul_right k hmn
                have htd : t / k < m := by rw [Nat.div_lt_iff_lt_mul hk0]; exact ht
                rw [get_setMany _ _ _ t (by rw [size_flatK, hds]; omega), if_neg (by omega), get_flatK _ _ _ t (by rw [hds]; omega), get_flatK _ _ _ t (by simp only [List.size_toArray]; rw [hI.len]; exact ht)]
                have hlow := hI.low (t / k) htd
                have hb : t / k < (compactUpTo d d.size).length := by rw [hI.len]; exact htd
                have e1 : (compactUpTo d d.size).toArray[t / k]! = dk[t / k]! := by
                  rw [List.getElem?_eq_getElem hb] at hlow
                  rw [getElem!_pos (compactUpTo d d.size).toArray _ (by simpa using hb)]
                  simpa using hlow
                rw [e1]
        · go_wp2_with fail
          go_quiet_o (fail)
          go_wp2
          go_roundg (d.size - (kk + 1))
          case measure => omega
          case rel =>
            refine ⟨kk + 1, q + nq, by omega, by omega, Nat.le_refl _, by go_num, by rw [← hwq, World.drewN_drewN], fun j hj => ?_⟩
            by_cases e : j = kk
            · subst e
              exact keeps_pos (by rw [B.out.1, B.out.2]; exact hdup)
            · exact A.out j (by omega)
      · have : kk = d.size := by omega
        subst this
        clear hH hld
        go_wp2
        go_ret
        obtain ⟨e1, e2⟩ := HS.out q hall
        exact ⟨by rw [e1]; rfl, e2⟩
end Am
namespace Am
open Go Go.Proofs Go.Shelf Go.RowKit Go.Lib Go.Sort
open Cel (cells)
set_option maxRecDepth 100000
set_option linter.unusedSimpArgs false
set_option linter.unusedVariables false

theorem takeF (cur F : Array Value) (ts : List Value) (h1 : ts.length ≤ F.size) (h2 : F.size ≤ cur.size) (hF : ∀ t, t < ts.length → F[t]! = ts[t]!) : (putCells id 0 F cur).toList.take ts.length = ts := by
  apply List.ext_getElem?
  intro j
  by_cases hj : j < ts.length
  · have hf := hF j hj
    rw [getElem!_pos F j (by omega), getElem!_pos ts j hj] at hf
    rw [List.getElem?_take_of_lt hj, Array.getElem?_toList]
    simp [putCells, hj, show j < F.size by omega, show j < cur.size by omega, hf]
  · rw [List.getElem?_take_eq_none (by omega), List.getElem?_eq_none (by omega)]

theorem heapP {w : World} {g q : Nat} {cur : Array Value} {e : TypeId} {fr : Nat × Nat} (d : Array Value) (hb : w.heap[g]? = some (.cells cur e fr)) :
    (putRow id (Sort.ahead w q) g 0 d).heap[g]? = some (.cells (putCells id 0 d cur) e fr) := by
  simp [putRow, mapBlock, Sort.ahead, Array.getElem?_modify, hb, onCells]

/-- Of equal neighbours the first stays. -/
def compC (xs : List GClash) : List GClash := compactUpTo xs.toArray xs.length

theorem compC_len (xs : List GClash) : (compC xs).length ≤ xs.length := by
  unfold compC compactUpTo
  rw [List.length_map]
  exact Nat.le_trans (List.length_filter_le _ _) (by simp)

set_option maxHeartbeats 1000000 in
theorem compact_none (p : Option Addr) (cap : Nat) (w : World) : Calls Tryz.prog 143 #[.slice p 0 cap] w fun e w' => e = .returned (.slice p 0 cap) ∧ w' = w := by
  go_enter Tryz.func143, Tryz.ntmps143
  go_wp2
  go_ret
  exact ⟨rfl, rfl⟩
theorem FnW_compC (xs : List GClash) (hx : xs.length ≤ 1073741824) : FnW Tryz.prog 143 [.v (.ow 48 2 xs.length (flat xs))] (.v (.ow 48 2 (compC xs).length (flat (compC xs)))) [.any] := by
  have hfin : FnIn Tryz.prog 143 := ⟨⟨Tryz.f143, by kernel_rfl, rfl, by kernel_rfl⟩⟩
  have henc : ∀ x : GClash, (encC x).length = 2 := fun _ => rfl
  have hp : ∀ x : GClash, ∀ p, p ∈ cells x → plainB p = true := by
    intro x p h
    simp [cells] at h
    rcases h with rfl | rfl <;> rfl
  have hone : ∀ x : GClash, ∀ v ∈ encC x, v.oneCell' = true := by
    intro x v hv
    simp only [encC, List.mem_cons, List.mem_nil_iff, or_false] at hv
    rcases hv with rfl | rfl <;> rfl
  have hcl := compC_len xs
  refine ⟨hfin, fun w V vals F hargs hnd hV hF => ?_⟩
  match vals, hargs with
  | [v], hargs =>
    simp only [CRs] at hargs
    obtain ⟨F1, F2, hR, rfl, rfl⟩ := hargs
    simp only [CR, R] at hR
    obtain ⟨us, F', hown, hrs, rfl⟩ := hR
    obtain ⟨rfl, rfl⟩ := (Rs_plain (flat_plain hp)).1 hrs
    rcases hown.2 with ⟨rfl, hn⟩ | ⟨g0, cap, cur, rfl, hbase, hb, h1, h2, h3, h4⟩
    · have hx0 : xs = [] := List.eq_nil_of_length_eq_zero hn
      subst hx0
      have e0 : compC [] = [] := rfl
      refine (compact_none none 0 w).mono ?_
      rintro e w' ⟨rfl, rfl⟩
      refine ⟨_, [], [], rfl, ⟨rfl, Tp.refl _, rfl, Nat.le_refl _, fun _ _ _ => rfl⟩, ?_, by simp [CR, CRs], by simp, by simp⟩
      rw [e0]
      simp only [CR, R]
      exact ⟨_, [], hown, (Rs_plain (by simp [flat_nil])).2 ⟨rfl, rfl⟩, rfl⟩
    · have hlen : ((flat xs).map pvV).length = xs.length * 2 := by rw [List.length_map, flat_len]; rfl
      have hfk : ∀ l : List GClash, flatK encC 2 l.toArray = ((flat l).map pvV).toArray := by
        intro l
        apply Array.ext'
        rw [flatK_list _ _ henc (by omega), flat_map]
        rfl
      have hH : HoldsK encC 2 w g0 0 xs.toArray := by
        unfold HoldsK
        rw [hfk]
        exact holdsI hb (by rw [hlen]; exact h4)
      have hgl : g0 < w.heap.size := (Array.getElem?_eq_some_iff.1 hb).1
      have hr := compactK_run encC 2 (by omega) henc hone Tryz.isAgg48 Tryz.sizeOf48 heqC hneC hgdC _ Tryz.zeroValue48 rfl (by simp [Value.cells, Value.oneCell']) g0 0 cap xs.toArray w hH (by simp; omega) (by simpa using h1)
      simp only [List.size_toArray] at hr
      refine hr.mono ?_
      rintro e w' ⟨rfl, q, F, rfl, hF1, hF2⟩
      have hcn : (compactUpTo xs.toArray xs.length).length = (compC xs).length := rfl
      have hcd : ((flat (compC xs)).map pvV).length = (compC xs).length * 2 := by rw [List.length_map, flat_len]; rfl
      have hF3 : ∀ t, t < ((flat (compC xs)).map pvV).length → F[t]! = ((flat (compC xs)).map pvV)[t]! := by
        intro t ht
        have := hF2 t (by rw [hcd] at ht; exact ht)
        rw [this]
        have e1 := hfk (compC xs)
        unfold compC at e1 ⊢
        rw [e1]
        simp
      have hrow : (putRow id (Sort.ahead w q) g0 0 F).ownsRow 0 48 2 (.slice (some ⟨g0, 0, none⟩) (compC xs).length cap) (compC xs).length ((flat (compC xs)).map pvV) := by
        refine ⟨hcd, .inr ⟨g0, cap, _, rfl, hbase, heapP _ hb, by omega, h2, by simp [putCells, h3], ?_⟩⟩
        rw [show (compC xs).length * 2 = ((flat (compC xs)).map pvV).length from hcd.symm]
        exact takeF cur F _ (by rw [hcd, hF1]; omega) (by rw [hF1, h3]; exact Nat.mul_le_mul_right 2 h1) hF3
      refine ⟨_, [g0], [], rfl, ?_, ?_, by simp [CR, CRs], by simp, ?_⟩
      · refine ⟨rfl, ⟨rfl, by simp [putRow, mapBlock, Sort.ahead]⟩, rfl, by simp [putRow, mapBlock, Sort.ahead], fun k hk hn => ?_⟩
        have : g0 ≠ k := fun e => hn (by simp [Value.ownBlock, e])
        simp [putRow, mapBlock, Sort.ahead, Array.getElem?_modify, this]
      · simp only [CR, R]
        exact ⟨_, [], hrow, (Rs_plain (flat_plain hp)).2 ⟨rfl, rfl⟩, by simp [Value.ownBlock]⟩
      · intro k hk
        simp only [List.append_nil, List.mem_singleton] at hk
        subst hk
        exact ⟨by simpa [putRow, mapBlock, Sort.ahead] using hgl, .inr (by simp [Value.ownBlock])⟩
  | [], h => simp [CRs] at h
  | _ :: _ :: _, h =>
    simp only [CRs] at h
    obtain ⟨F1, F2, _, h2, _⟩ := h
    exact h2.elim
end Am
