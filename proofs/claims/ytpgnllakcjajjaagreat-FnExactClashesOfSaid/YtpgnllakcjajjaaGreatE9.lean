/- What changed is right: of both. No condition. -/
import Derived.Test.YtpgnllakcjajjaaGreatT
import Derived.Test.YtpgnllakcjajjaaGreatD
import Derived.Test.YtpgnllakcjajjaaGreatE3
import Derived.Test.YtpgnllakcjajjaaGreatE8
import Derived.Test.YtpgnllakcjajjaaGreatAm29
import Derived.Test.YtpgnllakcjajjaaGreatAm31
namespace Am
open Go Go.Proofs
open Cel (cells)
set_option maxRecDepth 100000
set_option linter.unusedSimpArgs false
set_option linter.unusedVariables false

def dLiv (d : GDelta) (i : Nat) : Bool := knows d.know (nth d.lives i).dot && !knows d.base (nth d.lives i).dot
def dDead (d : GDelta) (i : Nat) : Bool := knows d.base (nth d.dead i)
def dCel (d : GDelta) (i : Nat) : Bool := knows d.know (nth d.cs i).dot
def deltaOkS (d : GDelta) : Bool := knowIn d.base d.know && talliesOk d.tallies && livsOk d.lives && celsOk d.cs && dotsOk d.dead &&
  allB (dLiv d) d.lives.length && allB (dDead d) d.dead.length && allB (dCel d) d.cs.length
def eLiv (d : GDelta) (i : Nat) : Bool := !knows d.base (nth d.lives i).dot
def eDead (d : GDelta) (i : Nat) : Bool := knows d.base (nth d.dead i) && (decide (i = 0) || before (nth d.dead (i - 1)) (nth d.dead i))
def eCel (d : GDelta) (i : Nat) : Bool := ((nth d.cs i).ref.rep == 0 && (nth d.cs i).ref.seq == 0) || dotOk (nth d.cs i).ref
def deltaOk (d : GDelta) : Bool := knowIn d.base d.know && talliesOk d.tallies && livKsOk d.lives d.know && celKsOk d.cs d.know && decide (d.dead.length ≤ 120) &&
  allB (eLiv d) d.lives.length && allB (eDead d) d.dead.length && allB (eCel d) d.cs.length

theorem deltaOkS_eq (d : GDelta) : deltaOkS d = deltaOk d := by
  rw [Bool.eq_iff_iff]
  simp only [deltaOkS, deltaOk, livsOk, livKsOk, celsOk, celKsOk, dotsOk, dLiv, dDead, dCel, eLiv, eDead, eCel, livAt, livKAt, celAt, celKAt, Bool.and_eq_true, allB_iff, decide_eq_true_eq, Bool.or_eq_true, Bool.not_eq_true', knows]
  grind

@[simp] def h99 : Hts := { merge := fun _ => false, mergeF := fun _ => false, dr := fun id => if id = 6 then [{}, {}, {}, {}, {}, {}, {}, {}, { cr := true }, {}, {}, {}, {}, {}, {}, {}, {}, {}, {}, { cr := true }, {}] else if id = 11 then [{}, {}, {}, {}, {}, {}, {}, { cr := true }, {}] else if id = 16 then [{}, {}, {}, {}, {}, {}, {}, {}, { cr := true }, {}] else [] }
set_option maxHeartbeats 4000000 in
theorem f99_ok (d : GDelta) (hd : d.Ok) : FnR Tryz.prog 99 [.agg [.im d.base.length (flat d.base), .im d.know.length (flat d.know), .im d.tallies.length (flat d.tallies), .im d.lives.length (flat d.lives), .im d.dead.length (flat d.dead), .im d.cs.length (flat d.cs)]] (.v (.bool (deltaOkS d))) := by
  simp only [GDelta.Ok] at hd
  obtain ⟨o0, o1, o2, o3, o4, o5, o6, o7, o8⟩ := hd
  refine FnW.of_AW TryzT_ok 0 (fn := Tryz.f99) (by kernel_rfl) rfl (by kernel_rfl) rfl rfl rfl ?_
  refine AW_of h99 TryzT_ok (by kernel_rfl) ?_
  simp -dsimp
  refine ACallK_of (f100_ok _ _ o0 o1) ?_
  cases g1 : knowIn d.base d.know
  · simp -dsimp [g1]
    simp [deltaOkS, g1]
  simp -dsimp [g1]
  refine ACallK_of (f121_ok _ o2 o3) ?_
  cases g2 : talliesOk d.tallies
  · simp -dsimp [g2]
    simp [deltaOkS, g2]
  simp -dsimp [g2]
  refine ACallK_of (f122_ok _ o4 o5) ?_
  cases g3 : livsOk d.lives
  · simp -dsimp [g3]
    simp [deltaOkS, g3]
  simp -dsimp [g3]
  refine ACallK_of (f123_ok _ o7 o8) ?_
  cases g4 : celsOk d.cs
  · simp -dsimp [g4]
    simp [deltaOkS, g4]
  simp -dsimp [g4]
  refine ACallK_of (f160_ok _ o6) ?_
  cases g5 : dotsOk d.dead
  · simp -dsimp [g5]
    simp [deltaOkS, g5]
  simp -dsimp [g5]
  refine AWh_loop (fun i : Nat => i ≤ d.lives.length ∧ allB (dLiv d) i = true) (fun i => mkE [(1, .box 64 0), (3, .c (.int .i64 i))] [(64, .box [.c (.im d.base.length (flat d.base)), .c (.im d.know.length (flat d.know)), .c (.im d.tallies.length (flat d.tallies)), .c (.im d.lives.length (flat d.lives)), .c (.im d.dead.length (flat d.dead)), .c (.im d.cs.length (flat d.cs))])]) (fun i => d.lives.length - i) 0 (Wk_to [1, 3] [(64, 64)] rfl rfl (by simp)) (by simp [allB]) ?_
  rintro i ⟨hi, a1⟩
  refine AW_of h99 TryzT_ok (by kernel_rfl) ?_
  rcases Nat.lt_or_ge i d.lives.length with h1 | h1
  · simp -dsimp [h1, ne_of_lt h1]
    refine ⟨by omega, ?_⟩
    refine ACallK_of (f46_ok _ _ o1) ?_
    cases k1 : knows d.know (nth d.lives i).dot
    · simp -dsimp [h1]
      simp [deltaOkS, allB_false h1 (show dLiv d i = false by simp [dLiv, k1])]
    simp -dsimp [h1, ne_of_lt h1, k1]
    repeat (first | refine ⟨by omega, ?_⟩ | refine ⟨⟨by omega, by omega⟩, ?_⟩)
    refine ACallK_of (f46_ok _ _ o0) ?_
    cases k2 : knows d.base (nth d.lives i).dot
    · simp -dsimp [h1]
      exact Back_of (i + 1) [1, 3] [(64, 64)] rfl rfl (by simp; rw [wrap64 (by omega) (by omega)]) ⟨by omega, allB_succ a1 (by simp [dLiv, k1, k2])⟩ (by omega)
    · simp -dsimp [h1]
      simp [deltaOkS, allB_false h1 (show dLiv d i = false by simp [dLiv, k1, k2])]
  · simp -dsimp [Nat.not_lt.2 h1]
    obtain rfl : i = d.lives.length := by omega
    refine AWh_loop (fun i : Nat => i ≤ d.dead.length ∧ allB (dDead d) i = true) (fun i => mkE [(1, .box 64 0), (4, .c (.int .i64 i))] [(64, .box [.c (.im d.base.length (flat d.base)), .c (.im d.know.length (flat d.know)), .c (.im d.tallies.length (flat d.tallies)), .c (.im d.lives.length (flat d.lives)), .c (.im d.dead.length (flat d.dead)), .c (.im d.cs.length (flat d.cs))])]) (fun i => d.dead.length - i) 0 (Wk_to [1, 4] [(64, 64)] rfl rfl (by simp)) (by simp [allB]) ?_
    rintro i ⟨hi, a2⟩
    refine AW_of h99 TryzT_ok (by kernel_rfl) ?_
    rcases Nat.lt_or_ge i d.dead.length with h1 | h1
    · simp -dsimp [h1, ne_of_lt h1]
      refine ⟨by omega, ?_⟩
      refine ACallK_of (f46_ok _ _ o0) ?_
      cases k1 : knows d.base (nth d.dead i)
      · simp -dsimp [h1]
        simp [deltaOkS, allB_false h1 (show dDead d i = false by simp [dDead, k1])]
      · simp -dsimp [h1]
        exact Back_of (i + 1) [1, 4] [(64, 64)] rfl rfl (by simp; rw [wrap64 (by omega) (by omega)]) ⟨by omega, allB_succ a2 (by simp [dDead, k1])⟩ (by omega)
    · simp -dsimp [Nat.not_lt.2 h1]
      obtain rfl : i = d.dead.length := by omega
      refine AWh_loop (fun i : Nat => i ≤ d.cs.length ∧ allB (dCel d) i = true) (fun i => mkE [(1, .box 64 0), (5, .c (.int .i64 i))] [(64, .box [.c (.im d.base.length (flat d.base)), .c (.im d.know.length (flat d.know)), .c (.im d.tallies.length (flat d.tallies)), .c (.im d.lives.length (flat d.lives)), .c (.im d.dead.length (flat d.dead)), .c (.im d.cs.length (flat d.cs))])]) (fun i => d.cs.length - i) 0 (Wk_to [1, 5] [(64, 64)] rfl rfl (by simp)) (by simp [allB]) ?_
      rintro i ⟨hi, a3⟩
      refine AW_of h99 TryzT_ok (by kernel_rfl) ?_
      rcases Nat.lt_or_ge i d.cs.length with h1 | h1
      · simp -dsimp [h1, ne_of_lt h1]
        refine ⟨by omega, ?_⟩
        refine ACallK_of (f46_ok _ _ o1) ?_
        cases k1 : knows d.know (nth d.cs i).dot
        · simp -dsimp [h1]
          simp [deltaOkS, allB_false h1 (show dCel d i = false by simp [dCel, k1])]
        · simp -dsimp [h1]
          exact Back_of (i + 1) [1, 5] [(64, 64)] rfl rfl (by simp; rw [wrap64 (by omega) (by omega)]) ⟨by omega, allB_succ a3 (by simp [dCel, k1])⟩ (by omega)
      · simp -dsimp [Nat.not_lt.2 h1]
        obtain rfl : i = d.cs.length := by omega
        simp [deltaOkS, g1, g2, g3, g4, g5, a1, a2, a3]

@[simp] def h103 : Hts := { merge := fun _ => false, mergeF := fun _ => false, dr := fun id => if id = 12 then [{}, {}, {}, { cr := true }, {}, {}, {}, {}, {}, {}, {}, {}, {}, {}, {}, {}, { cr := true }, {}, {}, {}] else [] }
set_option maxHeartbeats 4000000 in
theorem f103_ok (d : GDelta) (hd : d.Ok) : FnR Tryz.prog 103 [.agg [.im d.base.length (flat d.base), .im d.know.length (flat d.know), .im d.tallies.length (flat d.tallies), .im d.lives.length (flat d.lives), .im d.dead.length (flat d.dead), .im d.cs.length (flat d.cs)]] (.v (.bool (deltaOk d))) := by
  simp only [GDelta.Ok] at hd
  obtain ⟨o0, o1, o2, o3, o4, o5, o6, o7, o8⟩ := hd
  refine FnW.of_AW TryzT_ok 0 (fn := Tryz.f103) (by kernel_rfl) rfl (by kernel_rfl) rfl rfl rfl ?_
  refine AW_of h103 TryzT_ok (by kernel_rfl) ?_
  simp -dsimp
  refine ACallK_of (f104_ok _ _ o0 o1) ?_
  cases g1 : knowIn d.base d.know
  · simp -dsimp [g1]
    simp [deltaOk, g1]
  simp -dsimp [g1]
  refine ACallK_of (f131_ok _ o2 o3) ?_
  cases g2 : talsOk d.tallies
  · simp -dsimp [g2]
    simp [deltaOk, show talliesOk d.tallies = false from g2]
  simp -dsimp [g2]
  refine ACallK_of (f132_ok _ _ o4 o1 o5) ?_
  cases g3 : livKsOk d.lives d.know
  · simp -dsimp [g3]
    simp [deltaOk, g3]
  simp -dsimp [g3]
  refine ACallK_of (f133_ok _ _ o7 o1 o8) ?_
  cases g4 : celKsOk d.cs d.know
  · simp -dsimp [g4]
    simp [deltaOk, g4]
  rcases Nat.lt_or_ge 120 d.dead.length with g5 | g5
  · have g5' : ¬ d.dead.length ≤ 120 := by omega
    have g5i : (120 : Int) < d.dead.length := by omega
    simp -dsimp [g4, g5i]
    simp [deltaOk, g5, g5']
  have g5i : ¬ (120 : Int) < d.dead.length := by omega
  have g5j : (d.dead.length : Int) ≤ 120 := by omega
  simp -dsimp [g4, g5i, g5j]
  have g2' : talliesOk d.tallies = true := g2
  refine AWh_loop (fun i : Nat => i ≤ d.lives.length ∧ allB (eLiv d) i = true) (fun i => mkE [(1, .box 64 0), (44, .c (.im d.lives.length (flat d.lives))), (45, .c (.int .i64 d.lives.length)), (46, .c (.int .i64 i))] [(64, .box [.c (.im d.base.length (flat d.base)), .c (.im d.know.length (flat d.know)), .c (.im d.tallies.length (flat d.tallies)), .c (.im d.lives.length (flat d.lives)), .c (.im d.dead.length (flat d.dead)), .c (.im d.cs.length (flat d.cs))])]) (fun i => d.lives.length - i) 0 (Wk_to [1, 44, 45, 46] [(64, 64)] rfl rfl (by simp)) (by simp [allB]) ?_
  rintro i ⟨hi, a1⟩
  refine AW_of h103 TryzT_ok (by kernel_rfl) ?_
  rcases Nat.lt_or_ge i d.lives.length with h1 | h1
  · simp -dsimp [h1, ne_of_lt h1]
    repeat (first | refine ⟨by omega, ?_⟩ | refine ⟨⟨by omega, by omega⟩, ?_⟩)
    refine ACallK_of (f59_ok _ _ o0) ?_
    cases k1 : knows d.base (nth d.lives i).dot
    · simp -dsimp [h1]
      exact Back_of (i + 1) [1, 44, 45, 46] [(64, 64)] rfl rfl (by simp; rw [wrap64 (by omega) (by omega)]) ⟨by omega, allB_succ a1 (by simp [eLiv, k1])⟩ (by omega)
    · simp -dsimp [h1]
      simp [deltaOk, allB_false h1 (show eLiv d i = false by simp [eLiv, k1])]
  · simp -dsimp [Nat.not_lt.2 h1]
    obtain rfl : i = d.lives.length := by omega
    refine AWh_loop (fun i : Nat => i ≤ d.dead.length ∧ allB (eDead d) i = true) (fun i => mkE [(1, .box 64 0), (57, .c (.im d.dead.length (flat d.dead))), (58, .c (.int .i64 d.dead.length)), (59, .c (.int .i64 i))] [(64, .box [.c (.im d.base.length (flat d.base)), .c (.im d.know.length (flat d.know)), .c (.im d.tallies.length (flat d.tallies)), .c (.im d.lives.length (flat d.lives)), .c (.im d.dead.length (flat d.dead)), .c (.im d.cs.length (flat d.cs))])]) (fun i => d.dead.length - i) 0 (Wk_to [1, 57, 58, 59] [(64, 64)] rfl rfl (by simp)) (by simp [allB]) ?_
    rintro i ⟨hi, a2⟩
    refine AW_of h103 TryzT_ok (by kernel_rfl) ?_
    rcases Nat.lt_or_ge i d.dead.length with h1 | h1
    · rcases Nat.eq_zero_or_pos i with hz | hz
      · have hz' : ¬ 0 < i := by omega
        simp -dsimp [h1, ne_of_lt h1, hz']
        repeat (first | refine ⟨by omega, ?_⟩ | refine ⟨⟨by omega, by omega⟩, ?_⟩)
        refine ACallK_of (f59_ok _ _ o0) ?_
        cases k1 : knows d.base (nth d.dead i)
        · simp -dsimp [h1]
          simp [deltaOk, allB_false h1 (show eDead d i = false by simp [eDead, k1])]
        · simp -dsimp [h1, hz', k1]
          exact Back_of (i + 1) [1, 57, 58, 59] [(64, 64)] rfl rfl (by simp; rw [wrap64 (by omega) (by omega)]) ⟨by omega, allB_succ a2 (by subst hz; simp [eDead, k1])⟩ (by omega)
      · have w : IntKind.i64.wrap ((i : Int) - 1) = i - 1 := wrap64 (by omega) (by omega)
        have t1 : ((i : Int) - 1).toNat = i - 1 := by omega
        have h3 : i - 1 < d.dead.length := by omega
        have hn : ¬ i = 0 := by omega
        simp -dsimp [h1, ne_of_lt h1, hz, w, t1, h3]
        repeat (first | refine ⟨by omega, ?_⟩ | refine ⟨⟨by omega, by omega⟩, ?_⟩)
        refine ACallK_of (f59_ok _ _ o0) ?_
        cases k1 : knows d.base (nth d.dead i)
        · simp -dsimp [h1]
          simp [deltaOk, allB_false h1 (show eDead d i = false by simp [eDead, k1])]
        simp -dsimp [h1, ne_of_lt h1, hz, w, t1, h3, k1]
        repeat (first | refine ⟨by omega, ?_⟩ | refine ⟨⟨by omega, by omega⟩, ?_⟩)
        refine ACallK_of (f140_ok _ _) ?_
        simp -dsimp [h1, ne_of_lt h1, hz, w, t1, h3, k1]
        refine ⟨fun h => ?_, fun h => ?_⟩
        · simp [deltaOk, allB_false h1 (show eDead d i = false by simp [eDead, hn, k1, show before (nth d.dead (i - 1)) (nth d.dead i) = false by rw [before_cmp]; simpa using h])]
        · exact Back_of (i + 1) [1, 57, 58, 59] [(64, 64)] rfl rfl (by simp; rw [wrap64 (by omega) (by omega)]) ⟨by omega, allB_succ a2 (by simp [eDead, k1, hn, show before (nth d.dead (i - 1)) (nth d.dead i) = true by rw [before_cmp]; simpa using h])⟩ (by omega)
    · simp -dsimp [Nat.not_lt.2 h1]
      obtain rfl : i = d.dead.length := by omega
      refine AWh_loop (fun i : Nat => i ≤ d.cs.length ∧ allB (eCel d) i = true) (fun i => mkE [(86, .c (.im d.cs.length (flat d.cs))), (87, .c (.int .i64 d.cs.length)), (88, .c (.int .i64 i))] []) (fun i => d.cs.length - i) 0 (Wk_to [86, 87, 88] [] rfl rfl (by simp)) (by simp [allB]) ?_
      rintro i ⟨hi, a3⟩
      refine AW_of h103 TryzT_ok (by kernel_rfl) ?_
      rcases Nat.lt_or_ge i d.cs.length with h1 | h1
      · rcases bne_cases (nth d.cs i).ref.rep with ⟨r1, r2⟩ | ⟨r1, r2⟩ <;> rcases bne_cases (nth d.cs i).ref.seq with ⟨q1, q2⟩ | ⟨q1, q2⟩
        · simp -dsimp [h1, ne_of_lt h1, r1, r2, q1, q2]
          repeat (first | refine ⟨by omega, ?_⟩ | refine ⟨⟨by omega, by omega⟩, ?_⟩)
          refine ACallK_of (f137_ok _) ?_
          cases k1 : dotOk (nth d.cs i).ref
          · simp -dsimp [h1]
            simp [deltaOk, allB_false h1 (show eCel d i = false by simp [eCel, r2, q2, k1])]
          · simp -dsimp [h1]
            exact Back_of (i + 1) [86, 87, 88] [] rfl rfl (by simp; rw [wrap64 (by omega) (by omega)]) ⟨by omega, allB_succ a3 (by simp [eCel, r2, q2, k1])⟩ (by omega)
        · simp -dsimp [h1, ne_of_lt h1, r1, r2, q1, q2]
          repeat (first | refine ⟨by omega, ?_⟩ | refine ⟨⟨by omega, by omega⟩, ?_⟩)
          refine ACallK_of (f137_ok _) ?_
          cases k1 : dotOk (nth d.cs i).ref
          · simp -dsimp [h1]
            simp [deltaOk, allB_false h1 (show eCel d i = false by simp [eCel, r2, q2, k1])]
          · simp -dsimp [h1]
            exact Back_of (i + 1) [86, 87, 88] [] rfl rfl (by simp; rw [wrap64 (by omega) (by omega)]) ⟨by omega, allB_succ a3 (by simp [eCel, r2, q2, k1])⟩ (by omega)
        · simp -dsimp [h1, ne_of_lt h1, r1, r2, q1, q2]
          repeat (first | refine ⟨by omega, ?_⟩ | refine ⟨⟨by omega, by omega⟩, ?_⟩)
          refine ACallK_of (f137_ok _) ?_
          cases k1 : dotOk (nth d.cs i).ref
          · simp -dsimp [h1]
            simp [deltaOk, allB_false h1 (show eCel d i = false by simp [eCel, r2, q2, k1])]
          · simp -dsimp [h1]
            exact Back_of (i + 1) [86, 87, 88] [] rfl rfl (by simp; rw [wrap64 (by omega) (by omega)]) ⟨by omega, allB_succ a3 (by simp [eCel, r2, q2, k1])⟩ (by omega)
        · simp -dsimp [h1, ne_of_lt h1, r1, r2, q1, q2]
          repeat (first | refine ⟨by omega, ?_⟩ | refine ⟨⟨by omega, by omega⟩, ?_⟩)
          exact Back_of (i + 1) [86, 87, 88] [] rfl rfl (by simp; rw [wrap64 (by omega) (by omega)]) ⟨by omega, allB_succ a3 (by simp [eCel, r2, q2])⟩ (by omega)
      · simp -dsimp [Nat.not_lt.2 h1]
        obtain rfl : i = d.cs.length := by omega
        simp [deltaOk, g1, g2', g3, g4, g5, a1, a2, a3]
end Am
