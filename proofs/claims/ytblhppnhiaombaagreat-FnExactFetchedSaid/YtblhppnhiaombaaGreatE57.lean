/- States put together: the program's, whole. No condition. -/
import Derived.Test.YtblhppnhiaombaaGreatT
import Derived.Test.YtblhppnhiaombaaGreatD
import Derived.Test.YtblhppnhiaombaaGreatE56
import Derived.Test.YtblhppnhiaombaaGreatAm31
namespace Am
open Go Go.Proofs Go.Sort
open Cel (cells)
set_option maxRecDepth 100000
set_option linter.unusedSimpArgs false
set_option linter.unusedVariables false

@[simp] def h82 : Hts := { merge := fun _ => false, mergeF := fun _ => false, lend := fun f => if f = 154 then [.lend] else [] }
set_option maxHeartbeats 4000000 in
theorem f82_ok (a b : GState) (ha : a.Ok) (hb : b.Ok) : FnR Tryz.prog 82 [.agg [.im a.know.length (flat a.know), .im a.tallies.length (flat a.tallies), .im a.lives.length (flat a.lives), .im a.cs.length (flat a.cs)], .agg [.im b.know.length (flat b.know), .im b.tallies.length (flat b.tallies), .im b.lives.length (flat b.lives), .im b.cs.length (flat b.cs)]] (.agg [.ow 3 1 (mergeState a b).know.length (flat (mergeState a b).know), .ow 179 3 (mergeState a b).tallies.length (flat (mergeState a b).tallies), .ow 182 6 (mergeState a b).lives.length (flat (mergeState a b).lives), .ow 185 8 (mergeState a b).cs.length (flat (mergeState a b).cs)]) := by
  refine FnW.of_AW TryzT_ok 0 (fn := Tryz.f82) (by kernel_rfl) rfl (by kernel_rfl) rfl rfl rfl ?_
  refine AW_of h82 TryzT_ok (by kernel_rfl) ?_
  simp -dsimp
  refine ACallK_of (f145_ok _ ha) ?_
  rw [stateOkM_eq]
  cases ka : stateOk a
  · simp -dsimp
    refine ACallK_of (f110_ok _ ha) ?_
    simp -dsimp
    simp [mergeState, ka]
  simp -dsimp
  refine ACallK_of (f145_ok _ hb) ?_
  rw [stateOkM_eq]
  cases kb : stateOk b
  · simp -dsimp
    refine ACallK_of (f110_ok _ ha) ?_
    simp -dsimp
    simp [mergeState, ka, kb]
  simp -dsimp
  have la := stateOk_len ka
  have lb := stateOk_len kb
  have ha2 := ha
  have hb2 := hb
  simp only [GState.Ok] at ha2 hb2
  refine ACallK_of (f148_ok _ _ ha2.1 hb2.1) ?_
  simp -dsimp
  have ra := stateOk_reps ka
  have rb := stateOk_reps kb
  have hpt := talTwo_perm (ka := a.know) (kb := b.know) (stateOk_tallies ka) (stateOk_tallies kb)
  have hraw : (mergeRaw a b).Ok := mergeRaw_ok ha hb ka kb
  have e1 : noMore a.know b.know = fun t => !decide (nth a.know t.rep.toNat < nth b.know t.rep.toNat) := by
    funext t
    rw [Bool.eq_iff_iff]
    simp [noMore]
  refine ACallK_of (f149_ok a.tallies b.tallies (talTwo a.know b.know a.tallies b.tallies) (fun r => decide (nth a.know r.toNat < nth b.know r.toNat)) 180 (by decide) _ _ (by omega) (by omega) (fun i hi => f180_ok a b _ (ra i hi).1 (ra i hi).2 (stateOk_know ka) (stateOk_know kb)) (fun i hi => f180_ok a b _ (rb i hi).1 (rb i hi).2 (stateOk_know ka) (stateOk_know kb)) hpt.1 (by have h := hpt.2; rw [e1] at h; exact h)) ?_
  simp -dsimp
  refine AWh_loop (fun i : Nat => i ≤ a.lives.length) (fun i => mkE [(2, .box 128 0), (3, .box 192 0), (4, .box 256 0), (5, .box 320 0), (34, .c (.im a.lives.length (flat a.lives))), (35, .c (.int .i64 a.lives.length)), (36, .c (.int .i64 i))] [(1502, .arr 0 182 6 (livA a b i).length (flat (livA a b i))), (128, .box [.c (.im a.know.length (flat a.know)), .c (.im a.tallies.length (flat a.tallies)), .c (.im a.lives.length (flat a.lives)), .c (.im a.cs.length (flat a.cs))]), (192, .box [.c (.im b.know.length (flat b.know)), .c (.im b.tallies.length (flat b.tallies)), .c (.im b.lives.length (flat b.lives)), .c (.im b.cs.length (flat b.cs))]), (256, .box [.nil, .nil, .nil, .nil]), (320, .box [.arr 1500, .arr 1501, .arr 1502, .nil]), (1500, .arr 0 3 1 (knowMax a.know b.know).length (flat (knowMax a.know b.know))), (1501, .arr 0 179 3 (talTwo a.know b.know a.tallies b.tallies).length (flat (talTwo a.know b.know a.tallies b.tallies)))]) (fun i => a.lives.length - i) 0 (Wk_toA [2, 3, 4, 5, 34, 35, 36] [(128, 128), (192, 192), (256, 256), (320, 320), (1500, 1536), (1501, 1984)] [.cell 320 2 1502 182 6] rfl rfl (by simp [livA, filK])) (by simp) ?_
  rintro i hi
  have hal := livA_len a b i
  refine AW_of h82 TryzT_ok (by kernel_rfl) ?_
  rcases Nat.lt_or_ge i a.lives.length with h1 | h1
  · simp -dsimp [h1, ne_of_lt h1]
    repeat (first | refine ⟨by omega, ?_⟩ | refine ⟨by simp [capMax]; omega, ?_⟩ | refine ⟨⟨by omega, by omega⟩, ?_⟩)
    refine ACallK_of (f181_ok _ _ hb2.2.2.2.1) ?_
    cases g2 : hasX b.lives (nth a.lives i)
    · simp -dsimp [h1, ne_of_lt h1]
      repeat (first | refine ⟨by omega, ?_⟩ | refine ⟨by simp [capMax]; omega, ?_⟩ | refine ⟨⟨by omega, by omega⟩, ?_⟩)
      refine ACallK_of (f151_ok _ _ hb2.1) ?_
      cases g1 : knows b.know (nth a.lives i).dot
      · have hs : livA a b (i + 1) = livA a b i ++ [nth a.lives i] := by simp [livA, filK, keepA, g1]
        simp -dsimp [h1, ne_of_lt h1]
        repeat (first | refine ⟨by omega, ?_⟩ | refine ⟨by simp [capMax]; omega, ?_⟩ | refine ⟨⟨by omega, by omega⟩, ?_⟩)
        exact Back_of (i + 1) [2, 3, 4, 5, 34, 35, 36] [(1502, 3520), (128, 128), (192, 192), (256, 256), (320, 320), (1500, 1500), (1501, 1501)] rfl rfl (by simp [hs]; rw [wrap64 (by omega) (by omega)]) (by omega) (by omega)
      · have hs : livA a b (i + 1) = livA a b i := by simp [livA, filK, keepA, g1, g2]
        simp -dsimp [h1, ne_of_lt h1]
        repeat (first | refine ⟨by omega, ?_⟩ | refine ⟨by simp [capMax]; omega, ?_⟩ | refine ⟨⟨by omega, by omega⟩, ?_⟩)
        exact Back_of (i + 1) [2, 3, 4, 5, 34, 35, 36] [(1502, 1502), (128, 128), (192, 192), (256, 256), (320, 320), (1500, 1500), (1501, 1501)] rfl rfl (by simp [hs]; rw [wrap64 (by omega) (by omega)]) (by omega) (by omega)
    · have hs : livA a b (i + 1) = livA a b i ++ [nth a.lives i] := by simp [livA, filK, keepA, g2]
      simp -dsimp [h1, ne_of_lt h1]
      repeat (first | refine ⟨by omega, ?_⟩ | refine ⟨by simp [capMax]; omega, ?_⟩ | refine ⟨⟨by omega, by omega⟩, ?_⟩)
      exact Back_of (i + 1) [2, 3, 4, 5, 34, 35, 36] [(1502, 3520), (128, 128), (192, 192), (256, 256), (320, 320), (1500, 1500), (1501, 1501)] rfl rfl (by simp [hs]; rw [wrap64 (by omega) (by omega)]) (by omega) (by omega)
  · obtain rfl : i = a.lives.length := by omega
    clear hi h1
    simp -dsimp
    refine AWh_loop (fun i : Nat => i ≤ b.lives.length) (fun i => mkE [(2, .box 128 0), (3, .box 192 0), (4, .box 256 0), (5, .box 320 0), (59, .c (.im b.lives.length (flat b.lives))), (60, .c (.int .i64 b.lives.length)), (61, .c (.int .i64 i))] [(1502, .arr 0 182 6 (filK (newB a) (livA a b a.lives.length) b.lives i).length (flat (filK (newB a) (livA a b a.lives.length) b.lives i))), (128, .box [.c (.im a.know.length (flat a.know)), .c (.im a.tallies.length (flat a.tallies)), .c (.im a.lives.length (flat a.lives)), .c (.im a.cs.length (flat a.cs))]), (192, .box [.c (.im b.know.length (flat b.know)), .c (.im b.tallies.length (flat b.tallies)), .c (.im b.lives.length (flat b.lives)), .c (.im b.cs.length (flat b.cs))]), (256, .box [.nil, .nil, .nil, .nil]), (320, .box [.arr 1500, .arr 1501, .arr 1502, .nil]), (1500, .arr 0 3 1 (knowMax a.know b.know).length (flat (knowMax a.know b.know))), (1501, .arr 0 179 3 (talTwo a.know b.know a.tallies b.tallies).length (flat (talTwo a.know b.know a.tallies b.tallies)))]) (fun i => b.lives.length - i) 0 (Wk_to [2, 3, 4, 5, 59, 60, 61] [(1502, 1502), (128, 128), (192, 192), (256, 256), (320, 320), (1500, 1500), (1501, 1501)] rfl rfl (by simp [filK])) (by simp) ?_
    rintro i hi
    have hal2 := filK_len (newB a) (livA a b a.lives.length) b.lives i
    refine AW_of h82 TryzT_ok (by kernel_rfl) ?_
    rcases Nat.lt_or_ge i b.lives.length with h1 | h1
    · simp -dsimp [h1, ne_of_lt h1]
      repeat (first | refine ⟨by omega, ?_⟩ | refine ⟨by simp [capMax]; omega, ?_⟩ | refine ⟨⟨by omega, by omega⟩, ?_⟩)
      refine ACallK_of (f151_ok _ _ ha2.1) ?_
      cases g1 : knows a.know (nth b.lives i).dot
      · have hs : filK (newB a) (livA a b a.lives.length) b.lives (i + 1) = filK (newB a) (livA a b a.lives.length) b.lives i ++ [nth b.lives i] := by simp [filK, newB, g1]
        simp -dsimp [h1, ne_of_lt h1]
        repeat (first | refine ⟨by omega, ?_⟩ | refine ⟨by simp [capMax]; omega, ?_⟩ | refine ⟨⟨by omega, by omega⟩, ?_⟩)
        exact Back_of (i + 1) [2, 3, 4, 5, 59, 60, 61] [(1502, 4800), (128, 128), (192, 192), (256, 256), (320, 320), (1500, 1500), (1501, 1501)] rfl rfl (by simp [hs]; rw [wrap64 (by omega) (by omega)]) (by omega) (by omega)
      · have hs : filK (newB a) (livA a b a.lives.length) b.lives (i + 1) = filK (newB a) (livA a b a.lives.length) b.lives i := by simp [filK, newB, g1]
        simp -dsimp [h1, ne_of_lt h1]
        repeat (first | refine ⟨by omega, ?_⟩ | refine ⟨by simp [capMax]; omega, ?_⟩ | refine ⟨⟨by omega, by omega⟩, ?_⟩)
        exact Back_of (i + 1) [2, 3, 4, 5, 59, 60, 61] [(1502, 1502), (128, 128), (192, 192), (256, 256), (320, 320), (1500, 1500), (1501, 1501)] rfl rfl (by simp [hs]; rw [wrap64 (by omega) (by omega)]) (by omega) (by omega)
    · obtain rfl : i = b.lives.length := by omega
      clear hi h1
      simp -dsimp
      have hsl := livB_sorted ka kb
      refine ACallW_args (by intro us; simp -dsimp; exact ⟨rfl, rfl, rfl⟩) ?_
      refine ACallC_of (fun us => f154_ok _ _ (by omega) hsl.1 hsl.2) (by intro us; simp -dsimp; exact ⟨rfl, rfl⟩) ?_
      simp -dsimp
      refine ACallK_of (f155_ok _ _ (by omega) (by omega) (stateOk_cells ka) (stateOk_cells kb)) ?_
      simp -dsimp
      refine ACallK_of (f145_ok (mergeRaw a b) hraw) ?_
      rw [stateOkM_eq]
      cases g : stateOk (mergeRaw a b)
      · simp -dsimp
        refine ACallK_of (f110_ok _ ha) ?_
        simp -dsimp
        simp [mergeState, ka, kb, g]
      · simp -dsimp
        simp [mergeState, ka, kb, g]
        simp [mergeRaw]
end Am
