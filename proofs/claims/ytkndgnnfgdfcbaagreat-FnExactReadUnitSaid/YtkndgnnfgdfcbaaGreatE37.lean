/- A change read, of both. No condition. -/
import Derived.Test.YtkndgnnfgdfcbaaGreatT
import Derived.Test.YtkndgnnfgdfcbaaGreatD
import Derived.Test.YtkndgnnfgdfcbaaGreatE35
import Derived.Test.YtkndgnnfgdfcbaaGreatE38
import Derived.Test.YtkndgnnfgdfcbaaGreatE9
import Derived.Test.YtkndgnnfgdfcbaaGreatE15
import Derived.Test.YtkndgnnfgdfcbaaGreatAm27
import Derived.Test.YtkndgnnfgdfcbaaGreatAm31
namespace Am
open Go Go.Proofs
open Cel (cells)
set_option maxRecDepth 100000
set_option linter.unusedSimpArgs false
set_option linter.unusedVariables false

theorem liM_N {α : Type} [Cel α] {r : GScan → α × GScan} {s : GScan} {N : Nat} (h : (cntM s).1.toNat = N) : liM r s = lsM r (cntM s).2 N := by unfold liM; rw [h]
theorem liS_N {α : Type} [Cel α] {r : GScan → α × GScan} {s : GScan} {N : Nat} (h : (cntM s).1.toNat = N) : liS r s = lsS r (cntM s).2 N := by unfold liS; rw [h]
def GDelta.empty : GDelta := ⟨[], [], [], [], [], []⟩
def dlM (s : GScan) : GDelta × GScan :=
  (⟨(knowM s).1, (knowM (knowM s).2).1, (liM talM (knowM (knowM s).2).2).1, (liM (liveM flagM) (liM talM (knowM (knowM s).2).2).2).1, (liM dotM (liM (liveM flagM) (liM talM (knowM (knowM s).2).2).2).2).1,
    (liM (cellM flagM) (liM dotM (liM (liveM flagM) (liM talM (knowM (knowM s).2).2).2).2).2).1⟩, (liM (cellM flagM) (liM dotM (liM (liveM flagM) (liM talM (knowM (knowM s).2).2).2).2).2).2)
def dlS (s : GScan) : GDelta × GScan :=
  (⟨(knowM s).1, (knowM (knowM s).2).1, (liS talM (knowM (knowM s).2).2).1, (liS (liveM boolS) (liS talM (knowM (knowM s).2).2).2).1, (liS dotM (liS (liveM boolS) (liS talM (knowM (knowM s).2).2).2).2).1,
    (liS (cellM boolS) (liS dotM (liS (liveM boolS) (liS talM (knowM (knowM s).2).2).2).2).2).1⟩, (liS (cellM boolS) (liS dotM (liS (liveM boolS) (liS talM (knowM (knowM s).2).2).2).2).2).2)
theorem dlM_rdr : Rdr dlM deltaS := (knowM_rdr.two (knowM_rdr.two ((liM_rdr talM_rdr).two ((liM_rdr (liveM_rdr flagM_rdr)).two ((liM_rdr dotM_rdr).two (liM_rdr (cellM_rdr flagM_rdr))))))).to (fun x => ⟨x.1, x.2.1, x.2.2.1, x.2.2.2.1, x.2.2.2.2.1, x.2.2.2.2.2⟩) (fun s => rfl) (fun x => rfl)
theorem liS_fine {α : Type} [Cel α] {r : GScan → α × GScan} {s : GScan} (hr : ∀ s, Fine s → Fine (r s).2) (f : Fine s) : Fine (liS r s).2 := by
  have : ∀ n, Fine (lsS r (cntM s).2 n).2 := by
    intro n
    induction n with
    | zero => exact cntM_fine f
    | succ n ih =>
      rw [lsS]
      split
      · exact ih
      · exact hr _ ih
  exact this _
theorem liveS_fine (s : GScan) (f : Fine s) : Fine (liveM boolS s).2 := by
  unfold liveM
  exact dotM_rdr.f _ (numM_rdr.f _ (shM_rdr.f _ (shM_rdr.f _ (boolS_fine _ f))))
theorem dl_eq (s : GScan) (f : Fine s) (h : (dlM s).2.bad = false ∨ (dlS s).2.bad = false) : dlM s = dlS s := by
  have f0 := knowM_rdr.f s f
  have f1 := knowM_rdr.f _ f0
  have f2 := (liM_rdr talM_rdr).f _ f1
  have f3 := (liM_rdr (liveM_rdr flagM_rdr)).f _ f2
  have f4 := (liM_rdr dotM_rdr).f _ f3
  have e1 := liM_liS talM_rdr (q := talM) (fun s _ _ => rfl) _ f1
  have e2 := liM_liS (liveM_rdr flagM_rdr) (q := liveM boolS) live_eq _ f2
  have e3 := liM_liS dotM_rdr (q := dotM) (fun s _ _ => rfl) _ f3
  have e4 := liM_liS (cellM_rdr flagM_rdr) (q := cellM boolS) cell_eq _ f4
  rcases h with h | h
  · have g4 := (liM_rdr (cellM_rdr flagM_rdr)).g _ f4 h
    have g3 := (liM_rdr dotM_rdr).g _ f3 g4.b
    have g2 := (liM_rdr (liveM_rdr flagM_rdr)).g _ f2 g3.b
    have e1 := e1 (Or.inl g2.b)
    have e2 := e2 (Or.inl g3.b)
    have e3 := e3 (Or.inl g4.b)
    have e4 := e4 (Or.inl h)
    unfold dlM dlS
    rw [← e1, ← e2, ← e3, ← e4]
  · have k2 := liS_fine (r := talM) talM_rdr.f f1
    have k3 := liS_fine (r := liveM boolS) liveS_fine k2
    have k4 := liS_fine (r := dotM) dotM_rdr.f k3
    have b4 := liS_stuck (r := cellM boolS) k4 h
    have b3 := liS_stuck (r := dotM) k3 b4
    have b2 := liS_stuck (r := liveM boolS) k2 b3
    have e1 := e1 (Or.inr b2)
    rw [e1] at e2 e3 e4
    have e2 := e2 (Or.inr b3)
    rw [e2] at e3 e4
    have e3 := e3 (Or.inr b4)
    rw [e3] at e4
    have e4 := e4 (Or.inr h)
    unfold dlM dlS
    rw [e1, e2, e3, e4]
theorem dlS_Ok (s : GScan) : (dlS s).1.Ok := by
  have a0 := kn_len s 3
  have a1 := kn_len (knowM s).2 3
  have a2 := liS_len (r := talM) (knowM (knowM s).2).2
  have a3 := liS_len (r := liveM boolS) (liS talM (knowM (knowM s).2).2).2
  have a4 := liS_len (r := dotM) (liS (liveM boolS) (liS talM (knowM (knowM s).2).2).2).2
  have a5 := liS_len (r := cellM boolS) (liS dotM (liS (liveM boolS) (liS talM (knowM (knowM s).2).2).2).2).2
  refine ⟨?_, ?_, ?_, lsS_all (fun s => ?_) _ _, ?_, lsS_all (fun s => ?_) _ _, ?_, ?_, lsS_all (fun s => ?_) _ _⟩
  · simp only [dlS, knowM]; omega
  · simp only [dlS]; show (kn _ 3).1.length ≤ _; omega
  · simp only [dlS]; omega
  · have := shM_size s; simp only [talM, GTally.Ok]; omega
  · simp only [dlS]; omega
  · have := shM_size (boolS s).2; have := shM_size (shM (boolS s).2).2; simp only [liveM, GLive.Ok]; omega
  · simp only [dlS]; omega
  · simp only [dlS]; omega
  · have := shM_size s; simp only [cellM, GCell.Ok]; omega
theorem dlM_Ok (s : GScan) : (dlM s).1.Ok := by
  have a0 := kn_len s 3
  have a1 := kn_len (knowM s).2 3
  have a2 := liM_len (r := talM) (knowM (knowM s).2).2
  have a3 := liM_len (r := liveM flagM) (liM talM (knowM (knowM s).2).2).2
  have a4 := liM_len (r := dotM) (liM (liveM flagM) (liM talM (knowM (knowM s).2).2).2).2
  have a5 := liM_len (r := cellM flagM) (liM dotM (liM (liveM flagM) (liM talM (knowM (knowM s).2).2).2).2).2
  refine ⟨?_, ?_, ?_, lsM_all (fun s => ?_) _ _, ?_, lsM_all (fun s => ?_) _ _, ?_, ?_, lsM_all (fun s => ?_) _ _⟩
  · simp only [dlM, knowM]; omega
  · simp only [dlM]; show (kn _ 3).1.length ≤ _; omega
  · simp only [dlM]; omega
  · have := shM_size s; simp only [talM, GTally.Ok]; omega
  · simp only [dlM]; omega
  · have := shM_size (flagM s).2; have := shM_size (shM (flagM s).2).2; simp only [liveM, GLive.Ok]; omega
  · simp only [dlM]; omega
  · simp only [dlM]; omega
  · have := shM_size s; simp only [cellM, GCell.Ok]; omega
def resDM (x : GDelta) (f : GScan) (t : ByteArray) : GDelta × Bool := if f.bad = false ∧ f.pos = (unS t).size ∧ deltaOk x = true then (x, true) else (GDelta.empty, false)
def resDS (x : GDelta) (f : GScan) (t : ByteArray) : GDelta × Bool := if f.bad = false ∧ (deltaOk x = true ∧ sealOk (deltaS x) = true) ∧ sealS (deltaS x) = t then (x, true) else (GDelta.empty, false)
def rdDlM (t : ByteArray) : GDelta × Bool := resDM (dlM (scan0 t)).1 (dlM (scan0 t)).2 t
def rdDlS (t : ByteArray) : GDelta × Bool := resDS (dlS (scan0 t)).1 (dlS (scan0 t)).2 t
theorem rdDl_eq (t : ByteArray) : rdDlS t = rdDlM t := by
  have h := whole_eq (ok := deltaOk) dlM_rdr dl_eq t
  unfold rdDlM rdDlS resDM resDS
  by_cases hc : (dlS (scan0 t)).2.bad = false ∧ (deltaOk (dlS (scan0 t)).1 = true ∧ sealOk (deltaS (dlS (scan0 t)).1) = true) ∧ sealS (deltaS (dlS (scan0 t)).1) = t
  · rw [if_pos hc, if_pos (h.2 hc), dl_eq _ (scan0_fine t) (Or.inr hc.1)]
  · rw [if_neg hc, if_neg fun h' => hc (h.1 h')]

@[simp] def h69 : Hts := { merge := fun _ => false, lend := fun f => if f = 130 ∨ f = 131 ∨ f = 132 ∨ f = 135 ∨ f = 133 ∨ f = 134 then [.box []] else [], dr := fun id => if id = 11 then [{ mn := [1344], mb := [51, 52] }, { mn := [1344], mb := [51, 52] }, {}, { wr := [1344], cr := true }, { cr := true }, { wr := [3136], cr := true }, {}, { wr := [448] }] else [] }
set_option maxHeartbeats 4000000 in
theorem f69_ok (t : ByteArray) (ht : t.size ≤ 1073741824) : FnR Tryz.prog 69 [.v (.str t)] (.tup [.agg [.ow 3 1 ((rdDlS t).1).base.length (flat ((rdDlS t).1).base), .ow 3 1 ((rdDlS t).1).know.length (flat ((rdDlS t).1).know), .ow 146 3 ((rdDlS t).1).tallies.length (flat ((rdDlS t).1).tallies), .ow 148 6 ((rdDlS t).1).lives.length (flat ((rdDlS t).1).lives), .ow 38 2 ((rdDlS t).1).dead.length (flat ((rdDlS t).1).dead), .ow 150 8 ((rdDlS t).1).cs.length (flat ((rdDlS t).1).cs)], .v (.bool ((rdDlS t).2))]) := by
  have hu := unS_size t
  have hz : (scan0 t).t.size ≤ 1073741824 := by simp only [scan0]; omega
  have hp : 0 ≤ (scan0 t).pos := by simp [scan0]
  have e1 : ((knowM (scan0 t)).2).t = (scan0 t).t := knowM_t _
  have p1 : 0 ≤ ((knowM (scan0 t)).2).pos := kn_pos hp 3
  have e2 : ((knowM (knowM (scan0 t)).2).2).t = (scan0 t).t := by rw [knowM_t _, e1]
  have p2 : 0 ≤ ((knowM (knowM (scan0 t)).2).2).pos := kn_pos p1 3
  have e3 : ((liS talM (knowM (knowM (scan0 t)).2).2).2).t = (scan0 t).t := by rw [liS_t talM_t, e2]
  have p3 : 0 ≤ ((liS talM (knowM (knowM (scan0 t)).2).2).2).pos := liS_pos talM_pos p2
  have e4 : ((liS (liveM boolS) (liS talM (knowM (knowM (scan0 t)).2).2).2).2).t = (scan0 t).t := by rw [liS_t (liveM_t boolS_t), e3]
  have p4 : 0 ≤ ((liS (liveM boolS) (liS talM (knowM (knowM (scan0 t)).2).2).2).2).pos := liS_pos (liveM_pos fun _ => boolS_pos) p3
  have e5 : ((liS dotM (liS (liveM boolS) (liS talM (knowM (knowM (scan0 t)).2).2).2).2).2).t = (scan0 t).t := by rw [liS_t dotM_t, e4]
  have p5 : 0 ≤ ((liS dotM (liS (liveM boolS) (liS talM (knowM (knowM (scan0 t)).2).2).2).2).2).pos := liS_pos (fun _ => dotM_pos) p4
  have c0 := f130_ok (scan0 t) hz
  have c1 := f130_ok ((knowM (scan0 t)).2) (by rw [e1]; exact hz)
  have c2 := f131_ok ((knowM (knowM (scan0 t)).2).2) (by rw [e2]; exact hz) p2
  have c3 := f132_ok ((liS talM (knowM (knowM (scan0 t)).2).2).2) (by rw [e3]; exact hz) p3
  have c4 := f133_ok ((liS (liveM boolS) (liS talM (knowM (knowM (scan0 t)).2).2).2).2) (by rw [e4]; exact hz)
  have c6 := f135_ok ((liS dotM (liS (liveM boolS) (liS talM (knowM (knowM (scan0 t)).2).2).2).2).2) (by rw [e5]; exact hz) p5
  obtain ⟨N, hN, hN2⟩ := cntM_N ((liS (liveM boolS) (liS talM (knowM (knowM (scan0 t)).2).2).2).2)
  have hNt : (cntM ((liS (liveM boolS) (liS talM (knowM (knowM (scan0 t)).2).2).2).2)).1.toNat = N := by omega
  have c5 : ∀ i : Nat, FnW Tryz.prog 134 [.ptr [.str ((lsM dotM (cntM ((liS (liveM boolS) (liS talM (knowM (knowM (scan0 t)).2).2).2).2)).2 i).2).t, .int .i64 ((lsM dotM (cntM ((liS (liveM boolS) (liS talM (knowM (knowM (scan0 t)).2).2).2).2)).2 i).2).pos, .bool ((lsM dotM (cntM ((liS (liveM boolS) (liS talM (knowM (knowM (scan0 t)).2).2).2).2)).2 i).2).bad]] (.agg [.int .i64 ((dotM (lsM dotM (cntM ((liS (liveM boolS) (liS talM (knowM (knowM (scan0 t)).2).2).2).2)).2 i).2).1).rep, .int .i64 ((dotM (lsM dotM (cntM ((liS (liveM boolS) (liS talM (knowM (knowM (scan0 t)).2).2).2).2)).2 i).2).1).seq]) [.ptr [.str ((dotM (lsM dotM (cntM ((liS (liveM boolS) (liS talM (knowM (knowM (scan0 t)).2).2).2).2)).2 i).2).2).t, .int .i64 ((dotM (lsM dotM (cntM ((liS (liveM boolS) (liS talM (knowM (knowM (scan0 t)).2).2).2).2)).2 i).2).2).pos, .bool ((dotM (lsM dotM (cntM ((liS (liveM boolS) (liS talM (knowM (knowM (scan0 t)).2).2).2).2)).2 i).2).2).bad]] := fun i => f134_ok _ (by rw [lsM_t dotM_t, cntM_t, e4]; exact hz)
  rw [hN] at c4
  have hD : liS dotM ((liS (liveM boolS) (liS talM (knowM (knowM (scan0 t)).2).2).2).2) = lsS dotM (cntM ((liS (liveM boolS) (liS talM (knowM (knowM (scan0 t)).2).2).2).2)).2 N := liS_N hNt
  have hbs : ∀ s : GScan, s.bad = true → lsS dotM s N = lsS dotM s N := fun _ _ => rfl
  simp only [← liS_def] at c2 c3 c6
  have ho := dlS_Ok (scan0 t)
  unfold rdDlS
  simp only [dlS] at ho ⊢
  clear e1 e2 e3 e4 e5 p1 p2 p3 p4 p5 hp hz hbs
  generalize knowM (scan0 t) = K at *
  generalize knowM K.2 = Q at *
  generalize liS talM Q.2 = L at *
  generalize liS (liveM boolS) L.2 = M at *
  generalize cntM M.2 = B at *
  rw [hD] at ho c6 ⊢
  generalize hE : liS (cellM boolS) (lsS dotM B.2 N).2 = E at *
  obtain ⟨l, ⟨nt, np, nb⟩⟩ := E
  simp only at *
  refine FnW.of_AW TryzT_ok 0 (fn := Tryz.f69) (by kernel_rfl) rfl (by kernel_rfl) rfl rfl rfl ?_
  refine AW_of h69 TryzT_ok (by kernel_rfl) ?_
  simp -dsimp
  refine ACallK_of (f67_ok _ ht) ?_
  simp -dsimp
  refine ACallW_args (by intro us; simp -dsimp; exact ⟨rfl, rfl, rfl⟩) ?_
  refine ACallC_of (fun us => c0) (by intro us; simp -dsimp; exact ⟨rfl, rfl⟩) ?_
  simp -dsimp
  refine ACallW_args (by intro us; simp -dsimp; exact ⟨rfl, rfl, rfl⟩) ?_
  refine ACallC_of (fun us => c1) (by intro us; simp -dsimp; exact ⟨rfl, rfl⟩) ?_
  simp -dsimp
  refine ACallW_args (by intro us; simp -dsimp; exact ⟨rfl, rfl, rfl⟩) ?_
  refine ACallC_of (fun us => c2) (by intro us; simp -dsimp; exact ⟨rfl, rfl⟩) ?_
  simp -dsimp
  refine ACallW_args (by intro us; simp -dsimp; exact ⟨rfl, rfl, rfl⟩) ?_
  refine ACallC_of (fun us => c3) (by intro us; simp -dsimp; exact ⟨rfl, rfl⟩) ?_
  simp -dsimp
  refine ACallW_args (by intro us; simp -dsimp; exact ⟨rfl, rfl, rfl⟩) ?_
  refine ACallC_of (fun us => c4) (by intro us; simp -dsimp; exact ⟨rfl, rfl⟩) ?_
  simp -dsimp
  refine AWh_loop (fun i : Nat => i ≤ N ∧ ∀ j : Nat, j < i → (lsM dotM B.2 j).2.bad = false) (fun i => mkE [(0, .c (.str t)), (2, .box 128 0), (6, .box 1344 0), (7, .box 448 0), (8, .c (.int .i64 N)), (9, .c (.int .i64 i))] [(3136, .arr 0 38 2 (lsM dotM B.2 i).1.length (flat (lsM dotM B.2 i).1)), (128, .box [.nil, .nil, .nil, .nil, .nil, .nil]), (1344, .box [.c (.str (lsM dotM B.2 i).2.t), .c (.int .i64 (lsM dotM B.2 i).2.pos), .c (.bool (lsM dotM B.2 i).2.bad)]), (448, .box [.arr 1472, .arr 1664, .arr 1856, .arr 2048, .arr 3136, .nil]), (1472, .arr 0 3 1 K.1.length (flat K.1)), (1664, .arr 0 3 1 Q.1.length (flat Q.1)), (1856, .arr 0 146 3 L.1.length (flat L.1)), (2048, .arr 0 148 6 M.1.length (flat M.1))]) (fun i => N - i) 0 (Wk_toA [0, 2, 6, 7, 8, 9] [(128, 128), (1344, 1344), (448, 448), (1472, 1472), (1664, 1664), (1856, 1856), (2048, 2048)] [.cell 448 4 3136 38 2] (by decide) (by decide) (by simp [lsM])) (by simp) ?_
  rintro i ⟨hi, hall⟩
  have hl := lsM_len (r := dotM) B.2 i
  refine AW_of h69 TryzT_ok (by kernel_rfl) ?_
  rcases Nat.lt_or_ge i N with h1 | h1
  · cases hb : (lsM dotM B.2 i).2.bad
    · simp -dsimp [h1, hb]
      have h0 := c5 i
      rw [hb] at h0
      refine ACallW_args (by intro us; simp -dsimp; exact ⟨rfl, rfl, rfl⟩) ?_
      refine ACallC_of (fun us => h0) (by intro us; simp -dsimp; exact ⟨rfl, rfl⟩) ?_
      simp -dsimp [h1, hb]
      refine ⟨by simp [capMax]; omega, ?_⟩
      exact Back_of (i + 1) [0, 2, 6, 7, 8, 9] [(3136, 3392), (128, 128), (1344, 1344), (448, 448), (1472, 1472), (1664, 1664), (1856, 1856), (2048, 2048)] rfl rfl (by simp [lsM]; rw [wrap64 (by omega) (by omega)]) ⟨by omega, fun j hj => by
        by_cases e : j = i
        · subst e; exact hb
        · exact hall j (by omega)⟩ (by omega)
    · simp -dsimp [h1, hb]
      have hs := lsS_stop hall hb N (by omega)
      rw [hs] at c6 hE ho ⊢
      rw [hb] at c6
      refine ACallW_args (by intro us; simp -dsimp; exact ⟨rfl, rfl, rfl⟩) ?_
      refine ACallC_of (fun us => c6) (by intro us; simp -dsimp; exact ⟨rfl, rfl⟩) ?_
      simp -dsimp
      refine ACallK_of (f30_ok _ ho) ?_
      cases nb
      · cases hr : deltaTextOk (⟨K.1, Q.1, L.1, M.1, (lsM dotM B.2 i).1, l⟩ : GDelta)
        · have hx : ¬ (deltaOk (⟨K.1, Q.1, L.1, M.1, (lsM dotM B.2 i).1, l⟩ : GDelta) = true ∧ sealOk (deltaS (⟨K.1, Q.1, L.1, M.1, (lsM dotM B.2 i).1, l⟩ : GDelta)) = true) := by simpa [deltaTextOk] using hr
          simp -dsimp [hr]
          simp [resDS, hx, GDelta.empty]
        · have hx : deltaOk (⟨K.1, Q.1, L.1, M.1, (lsM dotM B.2 i).1, l⟩ : GDelta) = true ∧ sealOk (deltaS (⟨K.1, Q.1, L.1, M.1, (lsM dotM B.2 i).1, l⟩ : GDelta)) = true := by simpa [deltaTextOk] using hr
          have e : deltaText (⟨K.1, Q.1, L.1, M.1, (lsM dotM B.2 i).1, l⟩ : GDelta) = sealS (deltaS (⟨K.1, Q.1, L.1, M.1, (lsM dotM B.2 i).1, l⟩ : GDelta)) := by rw [deltaText, if_pos hx.1]
          rw [e]
          by_cases he : sealS (deltaS (⟨K.1, Q.1, L.1, M.1, (lsM dotM B.2 i).1, l⟩ : GDelta)) = t
          · simp -dsimp [hr, he]
            simp [resDS, hx, he]
          · simp -dsimp [hr, he]
            simp [resDS, hx, he, GDelta.empty]
      · simp -dsimp
        simp [resDS, GDelta.empty]
  · obtain rfl : i = N := by omega
    simp -dsimp
    have hs := lsS_eq hall
    rw [hs] at c6 hE ho ⊢
    refine ACallW_args (by intro us; simp -dsimp; exact ⟨rfl, rfl, rfl⟩) ?_
    refine ACallC_of (fun us => c6) (by intro us; simp -dsimp; exact ⟨rfl, rfl⟩) ?_
    simp -dsimp
    refine ACallK_of (f30_ok _ ho) ?_
    cases nb
    · cases hr : deltaTextOk (⟨K.1, Q.1, L.1, M.1, (lsM dotM B.2 i).1, l⟩ : GDelta)
      · have hx : ¬ (deltaOk (⟨K.1, Q.1, L.1, M.1, (lsM dotM B.2 i).1, l⟩ : GDelta) = true ∧ sealOk (deltaS (⟨K.1, Q.1, L.1, M.1, (lsM dotM B.2 i).1, l⟩ : GDelta)) = true) := by simpa [deltaTextOk] using hr
        simp -dsimp [hr]
        simp [resDS, hx, GDelta.empty]
      · have hx : deltaOk (⟨K.1, Q.1, L.1, M.1, (lsM dotM B.2 i).1, l⟩ : GDelta) = true ∧ sealOk (deltaS (⟨K.1, Q.1, L.1, M.1, (lsM dotM B.2 i).1, l⟩ : GDelta)) = true := by simpa [deltaTextOk] using hr
        have e : deltaText (⟨K.1, Q.1, L.1, M.1, (lsM dotM B.2 i).1, l⟩ : GDelta) = sealS (deltaS (⟨K.1, Q.1, L.1, M.1, (lsM dotM B.2 i).1, l⟩ : GDelta)) := by rw [deltaText, if_pos hx.1]
        rw [e]
        by_cases he : sealS (deltaS (⟨K.1, Q.1, L.1, M.1, (lsM dotM B.2 i).1, l⟩ : GDelta)) = t
        · simp -dsimp [hr, he]
          simp [resDS, hx, he]
        · simp -dsimp [hr, he]
          simp [resDS, hx, he, GDelta.empty]
    · simp -dsimp
      simp [resDS, GDelta.empty]

@[simp] def h74 : Hts := { merge := fun _ => false, lend := fun f => if f = 139 ∨ f = 142 ∨ f = 143 ∨ f = 145 ∨ f = 144 ∨ f = 137 then [.box []] else [] }
set_option maxHeartbeats 4000000 in
theorem f74_ok (t : ByteArray) (ht : t.size ≤ 1073741824) : FnR Tryz.prog 74 [.v (.str t)] (.tup [.agg [.ow 3 1 ((rdDlM t).1).base.length (flat ((rdDlM t).1).base), .ow 3 1 ((rdDlM t).1).know.length (flat ((rdDlM t).1).know), .ow 146 3 ((rdDlM t).1).tallies.length (flat ((rdDlM t).1).tallies), .ow 148 6 ((rdDlM t).1).lives.length (flat ((rdDlM t).1).lives), .ow 38 2 ((rdDlM t).1).dead.length (flat ((rdDlM t).1).dead), .ow 150 8 ((rdDlM t).1).cs.length (flat ((rdDlM t).1).cs)], .v (.bool ((rdDlM t).2))]) := by
  have hu := unS_size t
  have hz : (scan0 t).t.size ≤ 1073741824 := by simp only [scan0]; omega
  have hp : 0 ≤ (scan0 t).pos := by simp [scan0]
  have e1 : ((knowM (scan0 t)).2).t = (scan0 t).t := knowM_t _
  have p1 : 0 ≤ ((knowM (scan0 t)).2).pos := kn_pos hp 3
  have e2 : ((knowM (knowM (scan0 t)).2).2).t = (scan0 t).t := by rw [knowM_t _, e1]
  have p2 : 0 ≤ ((knowM (knowM (scan0 t)).2).2).pos := kn_pos p1 3
  have e3 : ((liM talM (knowM (knowM (scan0 t)).2).2).2).t = (scan0 t).t := by rw [liM_t talM_t, e2]
  have p3 : 0 ≤ ((liM talM (knowM (knowM (scan0 t)).2).2).2).pos := liM_pos talM_pos p2
  have e4 : ((liM (liveM flagM) (liM talM (knowM (knowM (scan0 t)).2).2).2).2).t = (scan0 t).t := by rw [liM_t (liveM_t flagM_t), e3]
  have p4 : 0 ≤ ((liM (liveM flagM) (liM talM (knowM (knowM (scan0 t)).2).2).2).2).pos := liM_pos (liveM_pos fun _ => flagM_pos) p3
  have e5 : ((liM dotM (liM (liveM flagM) (liM talM (knowM (knowM (scan0 t)).2).2).2).2).2).t = (scan0 t).t := by rw [liM_t dotM_t, e4]
  have p5 : 0 ≤ ((liM dotM (liM (liveM flagM) (liM talM (knowM (knowM (scan0 t)).2).2).2).2).2).pos := liM_pos (fun _ => dotM_pos) p4
  have c0 := f139_ok (scan0 t) hz
  have c1 := f139_ok ((knowM (scan0 t)).2) (by rw [e1]; exact hz)
  have c2 := f142_ok ((knowM (knowM (scan0 t)).2).2) (by rw [e2]; exact hz) p2
  have c3 := f143_ok ((liM talM (knowM (knowM (scan0 t)).2).2).2) (by rw [e3]; exact hz) p3
  have c4 := f144_ok ((liM (liveM flagM) (liM talM (knowM (knowM (scan0 t)).2).2).2).2) (by rw [e4]; exact hz)
  have c6 := f145_ok ((liM dotM (liM (liveM flagM) (liM talM (knowM (knowM (scan0 t)).2).2).2).2).2) (by rw [e5]; exact hz) p5
  obtain ⟨N, hN, hN2⟩ := cntM_N ((liM (liveM flagM) (liM talM (knowM (knowM (scan0 t)).2).2).2).2)
  have hNt : (cntM ((liM (liveM flagM) (liM talM (knowM (knowM (scan0 t)).2).2).2).2)).1.toNat = N := by omega
  have c5 : ∀ i : Nat, FnW Tryz.prog 137 [.ptr [.str ((lsM dotM (cntM ((liM (liveM flagM) (liM talM (knowM (knowM (scan0 t)).2).2).2).2)).2 i).2).t, .int .i64 ((lsM dotM (cntM ((liM (liveM flagM) (liM talM (knowM (knowM (scan0 t)).2).2).2).2)).2 i).2).pos, .bool ((lsM dotM (cntM ((liM (liveM flagM) (liM talM (knowM (knowM (scan0 t)).2).2).2).2)).2 i).2).bad]] (.agg [.int .i64 ((dotM (lsM dotM (cntM ((liM (liveM flagM) (liM talM (knowM (knowM (scan0 t)).2).2).2).2)).2 i).2).1).rep, .int .i64 ((dotM (lsM dotM (cntM ((liM (liveM flagM) (liM talM (knowM (knowM (scan0 t)).2).2).2).2)).2 i).2).1).seq]) [.ptr [.str ((dotM (lsM dotM (cntM ((liM (liveM flagM) (liM talM (knowM (knowM (scan0 t)).2).2).2).2)).2 i).2).2).t, .int .i64 ((dotM (lsM dotM (cntM ((liM (liveM flagM) (liM talM (knowM (knowM (scan0 t)).2).2).2).2)).2 i).2).2).pos, .bool ((dotM (lsM dotM (cntM ((liM (liveM flagM) (liM talM (knowM (knowM (scan0 t)).2).2).2).2)).2 i).2).2).bad]] := fun i => f137_ok _ (by rw [lsM_t dotM_t, cntM_t, e4]; exact hz)
  rw [hN] at c4
  have hD : liM dotM ((liM (liveM flagM) (liM talM (knowM (knowM (scan0 t)).2).2).2).2) = lsM dotM (cntM ((liM (liveM flagM) (liM talM (knowM (knowM (scan0 t)).2).2).2).2)).2 N := liM_N hNt
  have hbs : ∀ s : GScan, s.bad = true → lsM dotM s N = lsM dotM s N := fun _ _ => rfl
  simp only [← liM_def] at c2 c3 c6
  have ho := dlM_Ok (scan0 t)
  unfold rdDlM
  simp only [dlM] at ho ⊢
  clear e1 e2 e3 e4 e5 p1 p2 p3 p4 p5 hp hz hbs
  generalize knowM (scan0 t) = K at *
  generalize knowM K.2 = Q at *
  generalize liM talM Q.2 = L at *
  generalize liM (liveM flagM) L.2 = M at *
  generalize cntM M.2 = B at *
  rw [hD] at ho c6 ⊢
  generalize hE : liM (cellM flagM) (lsM dotM B.2 N).2 = E at *
  obtain ⟨l, ⟨nt, np, nb⟩⟩ := E
  simp only at *
  refine FnW.of_AW TryzT_ok 0 (fn := Tryz.f74) (by kernel_rfl) rfl (by kernel_rfl) rfl rfl rfl ?_
  refine AW_of h74 TryzT_ok (by kernel_rfl) ?_
  simp -dsimp
  refine ACallK_of (f71_ok _ ht) ?_
  simp -dsimp
  refine ACallW_args (by intro us; simp -dsimp; exact ⟨rfl, rfl, rfl⟩) ?_
  refine ACallC_of (fun us => c0) (by intro us; simp -dsimp; exact ⟨rfl, rfl⟩) ?_
  simp -dsimp
  refine ACallW_args (by intro us; simp -dsimp; exact ⟨rfl, rfl, rfl⟩) ?_
  refine ACallC_of (fun us => c1) (by intro us; simp -dsimp; exact ⟨rfl, rfl⟩) ?_
  simp -dsimp
  refine ACallW_args (by intro us; simp -dsimp; exact ⟨rfl, rfl, rfl⟩) ?_
  refine ACallC_of (fun us => c2) (by intro us; simp -dsimp; exact ⟨rfl, rfl⟩) ?_
  simp -dsimp
  refine ACallW_args (by intro us; simp -dsimp; exact ⟨rfl, rfl, rfl⟩) ?_
  refine ACallC_of (fun us => c3) (by intro us; simp -dsimp; exact ⟨rfl, rfl⟩) ?_
  simp -dsimp
  refine ACallW_args (by intro us; simp -dsimp; exact ⟨rfl, rfl, rfl⟩) ?_
  refine ACallC_of (fun us => c4) (by intro us; simp -dsimp; exact ⟨rfl, rfl⟩) ?_
  simp -dsimp
  refine AWh_loop (fun i : Nat => i ≤ N) (fun i => mkE [(2, .box 128 0), (4, .c (.str (unS t))), (6, .box 1216 0), (7, .box 448 0), (35, .c (.int .i64 N)), (36, .c (.int .i64 i))] [(2624, .arr 0 38 2 (lsM dotM B.2 i).1.length (flat (lsM dotM B.2 i).1)), (128, .box [.nil, .nil, .nil, .nil, .nil, .nil]), (1216, .box [.c (.str (lsM dotM B.2 i).2.t), .c (.int .i64 (lsM dotM B.2 i).2.pos), .c (.bool (lsM dotM B.2 i).2.bad)]), (448, .box [.arr 1408, .arr 1600, .arr 1792, .arr 1984, .arr 2624, .nil]), (1408, .arr 0 3 1 K.1.length (flat K.1)), (1600, .arr 0 3 1 Q.1.length (flat Q.1)), (1792, .arr 0 146 3 L.1.length (flat L.1)), (1984, .arr 0 148 6 M.1.length (flat M.1))]) (fun i => N - i) 0 (Wk_toA [2, 4, 6, 7, 35, 36] [(128, 128), (1216, 1216), (448, 448), (1408, 1408), (1600, 1600), (1792, 1792), (1984, 1984)] [.cell 448 4 2624 38 2] (by decide) (by decide) (by simp [lsM])) (by simp) ?_
  rintro i hi
  have hl := lsM_len (r := dotM) B.2 i
  refine AW_of h74 TryzT_ok (by kernel_rfl) ?_
  rcases Nat.lt_or_ge i N with h1 | h1
  · simp -dsimp [h1]
    have h0 := c5 i
    refine ACallW_args (by intro us; simp -dsimp; exact ⟨rfl, rfl, rfl⟩) ?_
    refine ACallC_of (fun us => h0) (by intro us; simp -dsimp; exact ⟨rfl, rfl⟩) ?_
    simp -dsimp [h1]
    refine ⟨by simp [capMax]; omega, ?_⟩
    exact Back_of (i + 1) [2, 4, 6, 7, 35, 36] [(2624, 2816), (128, 128), (1216, 1216), (448, 448), (1408, 1408), (1600, 1600), (1792, 1792), (1984, 1984)] rfl rfl (by simp [lsM]; rw [wrap64 (by omega) (by omega)]) (by omega) (by omega)
  · obtain rfl : i = N := by omega
    simp -dsimp
    refine ACallW_args (by intro us; simp -dsimp; exact ⟨rfl, rfl, rfl⟩) ?_
    refine ACallC_of (fun us => c6) (by intro us; simp -dsimp; exact ⟨rfl, rfl⟩) ?_
    cases nb
    · by_cases hz : np = (unS t).size
      · have hz2 : (np != ((unS t).size : Int)) = false := by simp [hz]
        simp -dsimp [hz2]
        refine ACallK_of (f101_ok _ ho) ?_
        cases hk : deltaOk (⟨K.1, Q.1, L.1, M.1, (lsM dotM B.2 i).1, l⟩ : GDelta)
        · simp -dsimp
          simp [resDM, hk, GDelta.empty]
        · simp -dsimp
          simp [resDM, hk, hz]
      · have hz2 : (np != ((unS t).size : Int)) = true := by simp [hz]
        simp -dsimp [hz2]
        simp [resDM, hz, GDelta.empty]
    · simp -dsimp
      simp [resDM, GDelta.empty]
end Am
