/- Pure operations, on: binary, lengths, addresses, indexes, cuts. No condition. -/
import Derived.Test.YtlkkgdealgceeaaAm4
namespace Am
open Go
set_option linter.unusedSimpArgs false
set_option linter.unusedVariables false
section
variable {P : Program} {T : Ty} {mv : Bool} {C : Ctx} {σ : AEnv} {a : Act} {w : World} {ι : Nat → Value} {Fs : Nat → List Nat} {τ : Nat → AObj} {e : Eff}
variable {dst : Option Tmp} {type : TypeId} {pos : String} {after : Array Edge} {guard : Option (Nat × Bool)}

theorem AR_c {U : Nat → Prop} {O : Nat → AObj} {p : PV} {v : Value} : AR w U O ι (.c p) v ↔ R w U p v [] := by simp only [AR]

theorem snd_binOp (hT : TyOK P T) (h : Sim C σ a w ι Fs) {op : BinOp} {t t' : Nat} {x y : Operand} (he : astep T mv (ev σ) τ ⟨dst, .binOp op t x y t', type, pos, after, guard⟩ = some e) (hs : e.side) :
    Snd P C σ a w ⟨dst, .binOp op t x y t', type, pos, after, guard⟩ e := by
  simp only [astep] at he
  split at he
  · rename_i s1 b1 s2 b2 h1 h2
    split at he
    · rename_i _ _ _ z0 z1 hl
      cases he
      have e1 := AR_bool (ev_ug h x h1 hs.1)
      have e2 := AR_bool (ev_ug h y h2 hs.2)
      have ht := (hT.m hl).bool rfl
      exact Snd.pure h (by simp [execOp, e1, e2, eqGuard, binOp, Op.equal, Op.maxDepth, run_equalIn_bool' w 9999 t _ _ ht]) AR_mkbool
    · rename_i _ _ _ z0 z1 hl
      cases he
      have e1 := AR_bool (ev_ug h x h1 hs.1)
      have e2 := AR_bool (ev_ug h y h2 hs.2)
      have ht := (hT.m hl).bool rfl
      exact Snd.pure h (by simp [execOp, e1, e2, eqGuard, binOp, Op.equal, Op.maxDepth, run_equalIn_bool' w 9999 t _ _ ht]) AR_mkbool
    · cases he
  · rename_i s1 p s2 q _ h1 h2
    split at he
    · rename_i s r hb
      cases he
      obtain ⟨hs1, hs2, hs3⟩ := hs
      obtain ⟨v, hr, hv⟩ := abin_run (P := P) (t := t) (AR_c.1 (ev_ug h x h1 hs1)) (AR_c.1 (ev_ug h y h2 hs2)) hb hs3 x y
      refine Snd.pure h (v := v) ?_ (AR_c.2 hv)
      simp only [execOp, Sem.run_bind, hr, Result.andThen_ok, Sem.run_pure]
    · cases he
  · rename_i s1 xs s2 ys h1 h2
    split at he
    · rename_i fs z0 z1 zero hl
      have hM := hT.m hl
      obtain ⟨hq1, hq2⟩ := hM.eq rfl
      split at he
      · rename_i _ r hr
        cases he
        have g1 := ev_ug h x h1 hs.1
        have g2 := ev_ug h y h2 hs.2
        simp only [AR] at g1 g2
        obtain ⟨vs, e1, g1⟩ := g1
        obtain ⟨us, e2, g2⟩ := g2
        have hrun := run_eqB (P := P) 10000 t zero xs ys vs us r (eqB_le (by omega) hq1) hr g1 g2
        refine Snd.pure h (v := .bool r) ?_ AR_mkbool
        simp only [execOp, e1, e2, Sem.run_bind, run_eqGuard_agg w _ t x y vs us hq2, Result.andThen_ok, run_eql_struct, hrun, Sem.run_pure]
      · rename_i _ r hr
        cases he
        have g1 := ev_ug h x h1 hs.1
        have g2 := ev_ug h y h2 hs.2
        simp only [AR] at g1 g2
        obtain ⟨vs, e1, g1⟩ := g1
        obtain ⟨us, e2, g2⟩ := g2
        have hrun := run_eqB (P := P) 10000 t zero xs ys vs us r (eqB_le (by omega) hq1) hr g1 g2
        refine Snd.pure h (v := .bool (!r)) ?_ AR_mkbool
        simp only [execOp, e1, e2, Sem.run_bind, run_eqGuard_agg w _ t x y vs us hq2, Result.andThen_ok, run_neq_struct, hrun, Sem.run_pure]
      · cases he
    · cases he
  · cases he

theorem lenA_len {U : Nat → Prop} (h : Sim C σ a w ι Fs) {y : AV} {v : Value} {n : Nat} (ha : Agr σ.o τ) (hl : lenA τ y = some n) (hy : AR w (Un C w Fs) σ.o ι y v) : ∃ b c, v = .slice b n c := by
  unfold lenA at hl
  split at hl
  · cases hl
    simp only [AR, R] at hy
    obtain ⟨_, a, cap, hv, _⟩ := hy
    exact ⟨a, cap, hv⟩
  · cases hl
    simp only [AR] at hy
    exact ⟨none, 0, hy⟩
  · rename_i o
    split at hl
    · rename_i g0 ety esz m cs hτ
      cases hl
      obtain ⟨ho, hv⟩ := agr_arr ha hy hτ
      have hob := h.ob o
      rw [ho] at hob
      obtain ⟨xs, F', hown, _⟩ := hob
      subst hv
      rcases hown.2 with ⟨hv, rfl⟩ | ⟨g, cap, cur, hv, _⟩
      · exact ⟨none, 0, hv⟩
      · exact ⟨_, _, hv⟩
    · cases hl
  · rename_i o gq off
    split at hl
    · rename_i g' ety esz m cs hτ
      by_cases hgg : ¬ gq = g'
      · rw [if_neg hgg] at hl; cases hl
      have hgg := Decidable.not_not.1 hgg
      rw [if_pos hgg] at hl
      split at hl
      · rename_i e1 s1 n1 c1 hcs
        cases hl
        obtain ⟨ho, hv⟩ := agr_inr ha hy hτ
        obtain ⟨k, hk, hc⟩ := hv hgg ⟨_, _, _, _, hcs⟩
        have hob := h.ob o
        rw [ho] at hob
        obtain ⟨xs, F', hown, hrs, _⟩ := hob
        obtain ⟨u, F1, hu, hr, _⟩ := Rs_get hrs hcs
        have hcell := hown.cells hk off u hu
        have hadd : (⟨k, 0, none⟩ : Addr).add off = ⟨k, off, none⟩ := by unfold Addr.add; split <;> simp_all
        rw [hadd, hc] at hcell
        cases hcell
        simp only [R] at hr
        obtain ⟨xs1, F2, ho1, _⟩ := hr
        rcases ho1.2 with ⟨hv, rfl⟩ | ⟨g, cap, cur, hv, _⟩
        · exact ⟨none, 0, hv⟩
        · exact ⟨_, _, hv⟩
      · cases hl
    · cases hl
  · cases hl

theorem snd_len (hT : TyOK P T) (h : Sim C σ a w ι Fs) (ha : Agr σ.o τ) {x : Operand} {t : Nat} (he : astep T mv (ev σ) τ ⟨dst, .call ⟨.builtin .len, #[x], #[t]⟩, type, pos, after, guard⟩ = some e) (hs : e.side) :
    Snd P C σ a w ⟨dst, .call ⟨.builtin .len, #[x], #[t]⟩, type, pos, after, guard⟩ e := by
  simp only [astep, List.map, abuiltin] at he
  split at he
  · rename_i z0 z1 z2 z3 hl
    have ht := (hT.m hl).str rfl
    split at he
    · rename_i s b hx
      cases he
      have hv := AR_str (ev_ug h x hx hs)
      exact Snd.pure h (by simp [execOp, resolve, invoke, builtin, Builtin.len_, run_underlying ht, hv, goInt]) AR_mkint
    · cases he
  · rename_i z z0 z1 z2 z3 hl
    have ht := (hT.m hl).slice rfl
    split at he
    · rename_i n hn
      cases he
      obtain ⟨b, c, hv⟩ := lenA_len (U := Un C w Fs) h ha hn (ev_ug h x (s := (ev σ x).ug.1) (y := (ev σ x).ug.2) rfl hs)
      exact Snd.pure h (by simp [execOp, resolve, invoke, builtin, Builtin.len_, run_underlying ht, hv, goInt]) AR_mkint
    · cases he
  · cases he

theorem snd_max (h : Sim C σ a w ι Fs) {x y : Operand} {ts : Array TypeId} (he : astep T mv (ev σ) τ ⟨dst, .call ⟨.builtin .max, #[x, y], ts⟩, type, pos, after, guard⟩ = some e) (hs : e.side) :
    Snd P C σ a w ⟨dst, .call ⟨.builtin .max, #[x, y], ts⟩, type, pos, after, guard⟩ e := by
  simp only [astep, List.map, abuiltin] at he
  split at he
  · rename_i s k n s2 k2 m h1 h2
    cases he
    have e1 := AR_int (ev_ug h x h1 hs.1)
    have e2 := AR_int (ev_ug h y h2 hs.2)
    exact Snd.pure h (by simp [execOp, resolve, invoke, builtin, Builtin.max_, Builtin.max2, e1, e2]) AR_mkint
  · cases he

theorem snd_min (h : Sim C σ a w ι Fs) {x y : Operand} {ts : Array TypeId} (he : astep T mv (ev σ) τ ⟨dst, .call ⟨.builtin .min, #[x, y], ts⟩, type, pos, after, guard⟩ = some e) (hs : e.side) :
    Snd P C σ a w ⟨dst, .call ⟨.builtin .min, #[x, y], ts⟩, type, pos, after, guard⟩ e := by
  simp only [astep, List.map, abuiltin] at he
  split at he
  · rename_i s k n s2 k2 m h1 h2
    cases he
    have e1 := AR_int (ev_ug h x h1 hs.1)
    have e2 := AR_int (ev_ug h y h2 hs.2)
    exact Snd.pure h (by simp [execOp, resolve, invoke, builtin, Builtin.min_, Builtin.min2, e1, e2]) AR_mkint
  · cases he

theorem snd_extract (h : Sim C σ a w ι Fs) {x : Operand} {i : Nat} (he : astep T mv (ev σ) τ ⟨dst, .extract x i, type, pos, after, guard⟩ = some e) :
    Snd P C σ a w ⟨dst, .extract x i, type, pos, after, guard⟩ e := by
  have hx := ev_AR h x
  simp only [astep] at he
  split at he
  · rename_i vs hv
    split at he
    · rename_i v hi
      cases he
      rw [hv] at hx
      simp only [AR] at hx
      obtain ⟨us, hu, hr⟩ := hx
      obtain ⟨u, hui, hur⟩ := ARs_get hr hi
      refine Snd.pure h (v := u) ?_ hur
      have : us[i]? = some u := by simpa using hui
      simp [execOp, Instr.extract, hu, this]
    · cases he
  · cases he

theorem snd_index (hT : TyOK P T) (h : Sim C σ a w ι Fs) {t : Nat} {x ix : Operand} (he : astep T mv (ev σ) τ ⟨dst, .index t x ix, type, pos, after, guard⟩ = some e) (hs : e.side) :
    Snd P C σ a w ⟨dst, .index t x ix, type, pos, after, guard⟩ e := by
  simp only [astep] at he
  split at he
  · rename_i z0 z1 z2 z3 s b s2 k n hl h1 h2
    cases he
    obtain ⟨hs1, hs2, h0, hn⟩ := hs
    have ht := (hT.m hl).str rfl
    have e1 := AR_str (ev_ug h x h1 hs1)
    have e2 := AR_int (ev_ug h ix h2 hs2)
    have hlt : n.toNat < b.size := by omega
    have hb : b[n.toNat]? = some b[n.toNat] := by simp [hlt]
    refine Snd.pure h (v := .int .u8 (bt b n)) ?_ AR_mkint
    have hbt : bt b n = (b[n.toNat].toNat : Int) := by
      unfold bt
      have : b.data.toList.getD n.toNat 0 = b[n.toNat] := by
        have h3 : n.toNat < b.data.size := hlt
        simp only [List.getD, Array.getElem?_toList, Array.getElem?_eq_getElem h3, Option.getD_some]
        rfl
      rw [this]
    simp [execOp, Instr.index, asIntOf, e1, e2, run_underlying ht, h0, hb, hbt]
  · cases he


theorem fieldAt_run {t : Nat} {fs : List (Nat × Nat)} (hM : ∃ fields : Array Field, P.underlying t = some (.struct fields) ∧ (fields.toList.map fun f => (f.offset, f.type)) = fs) {f fo ft : Nat} {i : TyI} (hf : fs[f]? = some (fo, ft))
    (hft : TyM P ft i) (hi : i.size ≠ 0) (b : Nat) (off : Nat) : (Instr.fieldAt t (.pointer (some ⟨b, off, none⟩)) f).run P w = .ok (.pointer (some ⟨b, off + fo, none⟩)) w := by
  obtain ⟨fields, ht, hmap⟩ := hM
  subst hmap
  rw [List.getElem?_map] at hf
  cases hq : fields.toList[f]? with
  | none => rw [hq] at hf; cases hf
  | some fl =>
    rw [hq] at hf
    simp only [Option.map_some, Option.some.injEq, Prod.mk.injEq] at hf
    obtain ⟨rfl, rfl⟩ := hf
    have hq' : fields[f]? = some fl := by simpa using hq
    have hz := hft.run_sizeOf w
    have hadd : (⟨b, off, none⟩ : Addr).add fl.offset = ⟨b, off + fl.offset, none⟩ := by unfold Addr.add; split <;> simp_all
    simp [Instr.fieldAt, run_underlying ht, hq', Instr.sureAddr, fieldPlace, hz, hi, hadd]

theorem snd_fieldAddr (hT : TyOK P T) (h : Sim C σ a w ι Fs) (ha : Agr σ.o τ) {t f : Nat} {x : Operand} (he : astep T mv (ev σ) τ ⟨dst, .fieldAddr t x f, type, pos, after, guard⟩ = some e) (hs : e.side) :
    Snd P C σ a w ⟨dst, .fieldAddr t x f, type, pos, after, guard⟩ e := by
  simp only [astep] at he
  split at he
  · rename_i fs z1 z2 z3 z4 hl
    have hM := (hT.m hl).struct rfl
    split at he
    · rename_i fo ft hf
      split at he
      · rename_i i hlf
        have hft := hT.m hlf
        split at he
        · cases he
        · rename_i hi
          split at he
          · rename_i s b off hx
            split at he
            · rename_i cs hτ
              cases he
              obtain ⟨ho, k, hk, hv⟩ := agr_box ha (ev_ug h x hx hs) hτ
              refine Snd.pure h (v := .pointer (some ⟨k, off + fo, none⟩)) ?_ ?_
              · simp [execOp, hv, fieldAt_run hM hf hft hi k off]
              · simp only [AR, ho]; exact ⟨k, hk, rfl⟩
            · cases he
          · rename_i s b off hx
            split at he
            · rename_i e1 s1 n1 cs hτ
              cases he
              obtain ⟨ho, k, hk, hv⟩ := agr_pa ha (ev_ug h x hx hs) hτ
              refine Snd.pure h (v := .pointer (some ⟨k, off + fo, none⟩)) ?_ ?_
              · simp [execOp, hv, fieldAt_run hM hf hft hi k off]
              · simp only [AR, ho]; exact ⟨k, hk, rfl⟩
            · cases he
          · rename_i s cs off hx
            cases he
            have hv := ev_ug h x hx hs
            simp only [AR] at hv
            obtain ⟨b, o0, xs, hv, hU, hm, hr⟩ := hv
            refine Snd.pure h (v := .pointer (some ⟨b, o0 + off + fo, none⟩)) ?_ ?_
            · simp [execOp, hv, fieldAt_run hM hf hft hi b (o0 + off)]
            · simp only [AR]; exact ⟨b, o0, xs, by rw [Nat.add_assoc], hU, hm, hr⟩
          · cases he
      · cases he
    · cases he
  · cases he

theorem indexAt_run {t el : Nat} (ht : P.underlying t = some (.slice el)) {i : TyI} (hi : TyM P el i) {k : IntKind} {n : Int} {b o m c : Nat} (h0 : 0 ≤ n) (hn : n < m) :
    (Instr.indexAt t (.slice (some ⟨b, o, none⟩) m c) (.int k n)).run P w = .ok (.pointer (some ⟨b, o + n.toNat * i.size, none⟩)) w := by
  have hz := hi.run_sizeOf w
  have hadd : (⟨b, o, none⟩ : Addr).add (n.toNat * i.size) = ⟨b, o + n.toNat * i.size, none⟩ := by unfold Addr.add; split <;> simp_all
  simp [Instr.indexAt, asIntOf, run_underlying ht, h0, hn, hz, hadd]

theorem snd_indexAddr (hT : TyOK P T) (h : Sim C σ a w ι Fs) (ha : Agr σ.o τ) {t : Nat} {x ix : Operand} (he : astep T mv (ev σ) τ ⟨dst, .indexAddr t x ix, type, pos, after, guard⟩ = some e) (hs : e.side) :
    Snd P C σ a w ⟨dst, .indexAddr t x ix, type, pos, after, guard⟩ e := by
  simp only [astep] at he
  split at he
  · rename_i el z1 z2 z3 z4 hl
    have ht := (hT.m hl).slice rfl
    split at he
    · rename_i i s2 k n hle hix
      have hi := hT.m hle
      split at he
      · rename_i s m cs hx
        cases he
        obtain ⟨hs1, hs2, h0, hn, hc⟩ := hs
        have hv := ev_ug h x hx hs1
        have e2 := AR_int (ev_ug h ix hix hs2)
        simp only [AR, R] at hv
        obtain ⟨_, ad, cap, hv, _, hv2⟩ := hv
        rcases hv2 with hv2 | ⟨b, off, xs, rfl, hU, hm, hr⟩
        · exact absurd hv2 hc
        · refine Snd.pure h (v := .pointer (some ⟨b, off + n.toNat * i.size, none⟩)) ?_ ?_
          · simp [execOp, hv, e2, indexAt_run ht hi h0 hn]
          · simp only [AR]; exact ⟨b, off, xs, rfl, hU, hm, hr⟩
      · rename_i s b hx
        split at he
        · rename_i e1 s1 m cs hτ
          cases he
          obtain ⟨hs1, hs2, h0, hn⟩ := hs
          obtain ⟨ho, hv⟩ := agr_arr ha (ev_ug h x hx hs1) hτ
          have e2 := AR_int (ev_ug h ix hix hs2)
          have hob := h.ob b
          rw [ho] at hob
          obtain ⟨xs, F', hown, _⟩ := hob
          rcases hown.2 with ⟨_, rfl⟩ | ⟨g, cap, cur, hv', _⟩
          · omega
          · refine Snd.pure h (v := .pointer (some ⟨g, 0 + n.toNat * i.size, none⟩)) ?_ ?_
            · simp only [execOp, hv, hv', e2, Sem.run_bind, indexAt_run ht hi h0 hn, Result.andThen_ok, Sem.run_pure]
            · simp only [AR, ho]; exact ⟨g, by rw [hv']; rfl, by rw [Nat.zero_add]⟩
        · cases he
      · cases he
    · cases he
  · cases he

end
end Am
