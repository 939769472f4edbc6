/- Lists put together,in order: nothing of the program. No condition. -/
import Derived.Test.YtjbbhccphedkfaaGreatT
import Derived.Test.YtjbbhccphedkfaaGreatD
import Derived.Test.YtjbbhccphedkfaaGreatE7
import Derived.Test.YtjbbhccphedkfaaGreatAm31
import Derived.Test.YtjbbhccphedkfaaGreatE2
set_option linter.unusedSimpArgs false
set_option linter.unusedVariables false
set_option linter.unnecessarySimpa false
set_option linter.unusedSectionVars false
namespace Am
open Go Go.Proofs
section
variable {α:Type} [Cel α]
def filK (p:α → Bool) (base l:List α):Nat → List α
  | 0 => base
  | n + 1 => if p (nth l n) = true then filK p base l n ++ [nth l n] else filK p base l n
def insN (lt:α → α → Bool) (p:α → Bool) (base l:List α):Nat → List α
  | 0 => base
  | n + 1 => if p (nth l n) = true then insF lt (nth l n) (insN lt p base l n) else insN lt p base l n
theorem filK_len (p:α → Bool) (base l:List α):∀ n,(filK p base l n).length ≤ base.length + n
  | 0 => by simp [filK]
  | n + 1 => by
    have:=filK_len p base l n
    simp only [filK]; split
    · simp; omega
    · omega
theorem filK_filter (p:α → Bool) (l:List α):∀ n,n ≤ l.length → filK p [] l n = (l.take n).filter p
  | 0,_ => by simp [filK]
  | n + 1,h => by
    simp only [filK,filK_filter p l n (by omega),take_snoc (show n < l.length by omega),List.filter_append]
    split
    · rename_i hp; simp [hp]
    · rename_i hp; simp [hp]
theorem filK_mem {p:α → Bool} {base l:List α} {x:α}:∀ {n:Nat},n ≤ l.length → (x ∈ filK p base l n ↔ x ∈ base ∨ ∃ i,i < n ∧ nth l i = x ∧ p x = true)
  | 0,_ => by simp [filK]
  | n + 1,h => by
    have ih:=filK_mem (p:=p) (base:=base) (l:=l) (x:=x) (n:=n) (by omega)
    simp only [filK]
    by_cases hp:p (nth l n) = true
    · rw [if_pos hp,List.mem_append,ih,List.mem_singleton]
      constructor
      · rintro ((h1 | ⟨i,h2,h3,h4⟩) | rfl)
        · exact .inl h1
        · exact .inr ⟨i,by omega,h3,h4⟩
        · exact .inr ⟨n,by omega,rfl,hp⟩
      · rintro (h1 | ⟨i,h2,h3,h4⟩)
        · exact .inl (.inl h1)
        · by_cases e:i = n
          · subst e; exact .inr h3.symm
          · exact .inl (.inr ⟨i,by omega,h3,h4⟩)
    · rw [if_neg hp,ih]
      constructor
      · rintro (h1 | ⟨i,h2,h3,h4⟩)
        · exact .inl h1
        · exact .inr ⟨i,by omega,h3,h4⟩
      · rintro (h1 | ⟨i,h2,h3,h4⟩)
        · exact .inl h1
        · by_cases e:i = n
          · subst e; exact absurd (h3 ▸ h4) hp
          · exact .inr ⟨i,by omega,h3,h4⟩
theorem insN_perm (lt:α → α → Bool) (p:α → Bool) (base l:List α):∀ n,(insN lt p base l n).Perm (filK p base l n)
  | 0 => List.Perm.refl _
  | n + 1 => by
    simp only [insN,filK]
    split
    · exact (insF_perm _ _).trans (((insN_perm lt p base l n).cons _).trans (List.perm_append_comm (l₁:=[nth l n])))
    · exact insN_perm lt p base l n
theorem insN_sorted {lt:α → α → Bool} (hL:Lt lt) {p:α → Bool} {base l:List α} (hb:base.Pairwise (fun a b => lt a b = true))
    (hx:∀ i,i < l.length → p (nth l i) = true → ∀ y,(y ∈ base ∨ ∃ j,j < i ∧ nth l j = y ∧ p y = true) → lt (nth l i) y = false → lt y (nth l i) = true) :
    ∀ n,n ≤ l.length → (insN lt p base l n).Pairwise (fun a b => lt a b = true)
  | 0,_ => hb
  | n + 1,h => by
    have ih:=insN_sorted hL hb hx n (by omega)
    simp only [insN]
    split
    · rename_i hp
      refine insF_sorted hL ih fun y hy => hx n (by omega) hp y ?_
      exact (filK_mem (by omega)).1 ((insN_perm lt p base l n).mem_iff.1 hy)
    · exact ih
theorem insN_len (lt:α → α → Bool) (p:α → Bool) (base l:List α) (n:Nat):(insN lt p base l n).length ≤ base.length + n:=by
  rw [(insN_perm lt p base l n).length_eq]; exact filK_len p base l n
theorem pw_nth {l:List α} {r:α → α → Prop} (h:l.Pairwise r) {i j:Nat} (hij:i < j) (hj:j < l.length):r (nth l i) (nth l j):=by
  rw [nth_eq (show i < l.length by omega),nth_eq hj]
  exact List.pairwise_iff_getElem.1 h i j (by omega) hj hij
theorem pw_of_nth {l:List α} {r:α → α → Prop} (h:∀ i j,i < j → j < l.length → r (nth l i) (nth l j)):l.Pairwise r:=by
  rw [List.pairwise_iff_getElem]
  intro i j hi hj hij
  have:=h i j hij hj
  rwa [nth_eq hi,nth_eq hj] at this
theorem mem_nth {l:List α} {x:α} (h:x ∈ l):∃ i,i < l.length ∧ nth l i = x:=by
  obtain ⟨i,hi,e⟩:=List.getElem_of_mem h
  exact ⟨i,hi,by rw [nth_eq hi,e]⟩
end
def liveLt (x y:GLive):Bool:=before x.dot y.dot
def cellLt (x y:GCell):Bool:=before x.dot y.dot
theorem liveLt_Lt:Lt liveLt:=⟨fun a b => before_Lt.asym a.dot b.dot,fun a b c => before_Lt.trans a.dot b.dot c.dot⟩
theorem cellLt_Lt:Lt cellLt:=⟨fun a b => before_Lt.asym a.dot b.dot,fun a b c => before_Lt.trans a.dot b.dot c.dot⟩
theorem before_ne {a b:GDot} (h:a ≠ b) (h2:before a b = false):before b a = true:=by
  cases e:before b a
  · exact absurd (before_tri h2 e) h
  · rfl
def talIs (o:ByteArray) (r:Int) (t:GTally):Bool:=decide (t.obj = o) && (t.rep == r)
def addT (l:List GTally) (o:ByteArray) (r v:Int):List GTally :=
  if 0 ≤ idx (talIs o r) l then l.set (idx (talIs o r) l).toNat ⟨o,r,(IntKind.i64.wrap ((nth l (idx (talIs o r) l).toNat).sum + v)).tmod 1000000⟩ else insF tallyLt ⟨o,r,v⟩ l
def goneAt (l:List GCell) (d:GDot) (g:Bool):List GCell:=l.map fun c => if c.dot = d then { c with gone:=c.gone || g } else c
def hasDot (l:List GCell) (d:GDot):Bool:=l.any fun c => decide (c.dot = d)
def cellsI (a b:List GCell):Nat → List GCell
  | 0 => a
  | n + 1 => if hasDot a (nth b n).dot = true then goneAt (cellsI a b n) (nth b n).dot (nth b n).gone else insF cellLt (nth b n) (cellsI a b n)
def cellsA (a b:List GCell):Nat → List GCell
  | 0 => a
  | n + 1 => if hasDot a (nth b n).dot = true then goneAt (cellsA a b n) (nth b n).dot (nth b n).gone else cellsA a b n ++ [nth b n]
theorem goneAt_len (l:List GCell) (d:GDot) (g:Bool):(goneAt l d g).length = l.length:=by simp [goneAt]
theorem goneAt_dots (l:List GCell) (d:GDot) (g:Bool):(goneAt l d g).map (·.dot) = l.map (·.dot):=by
  simp only [goneAt,List.map_map]
  apply List.map_congr_left
  intro c _
  simp only [Function.comp_def]
  split <;> rfl
theorem goneAt_false (l:List GCell) (d:GDot):goneAt l d false = l:=by
  unfold goneAt
  conv => rhs; rw [← List.map_id l]
  apply List.map_congr_left
  intro c _
  split <;> simp
theorem cellsA_len (a b:List GCell):∀ n,(cellsA a b n).length ≤ a.length + n
  | 0 => by simp [cellsA]
  | n + 1 => by
    have:=cellsA_len a b n
    simp only [cellsA]; split
    · rw [goneAt_len]; omega
    · simp; omega
theorem cellsI_perm (a b:List GCell):∀ n,(cellsI a b n).Perm (cellsA a b n)
  | 0 => List.Perm.refl _
  | n + 1 => by
    simp only [cellsI,cellsA]
    split
    · exact (cellsI_perm a b n).map _
    · exact (insF_perm _ _).trans (((cellsI_perm a b n).cons _).trans (List.perm_append_comm (l₁:=[nth b n])))
theorem cellsI_len (a b:List GCell) (n:Nat):(cellsI a b n).length ≤ a.length + n:=by
  rw [(cellsI_perm a b n).length_eq]; exact cellsA_len a b n
theorem cellsA_dots (a b:List GCell):∀ n,(cellsA a b n).map (·.dot) = a.map (·.dot) ++ (filK (fun c => !hasDot a c.dot) [] b n).map (·.dot)
  | 0 => by simp [cellsA,filK]
  | n + 1 => by
    simp only [cellsA,filK]
    have ih:=cellsA_dots a b n
    by_cases h:hasDot a (nth b n).dot = true
    · rw [if_pos h,goneAt_dots,ih]; simp [h]
    · rw [if_neg h,List.map_append,ih]; simp [h]
def SortC (l:List GCell):Prop:=l.Pairwise fun x y => cellLt x y = true
theorem hasDot_iff {l:List GCell} {d:GDot}:hasDot l d = true ↔ ∃ c,c ∈ l ∧ c.dot = d:=by simp [hasDot]
theorem SortC_dots {l:List GCell}:SortC l ↔ (l.map (·.dot)).Pairwise fun x y => before x y = true:=by
  unfold SortC; rw [List.pairwise_map]; rfl
theorem dots_mem {a b:List GCell} {n:Nat} (hn:n ≤ b.length) {c:GCell} (hc:c ∈ cellsI a b n):hasDot a c.dot = true ∨ ∃ i,i < n ∧ (nth b i).dot = c.dot ∧ hasDot a c.dot = false:=by
  have h1:c.dot ∈ (cellsA a b n).map (·.dot):=List.mem_map_of_mem ((cellsI_perm a b n).mem_iff.1 hc)
  rw [cellsA_dots,List.mem_append] at h1
  rcases h1 with h1 | h1
  · obtain ⟨x,hx,e⟩:=List.mem_map.1 h1
    exact .inl (hasDot_iff.2 ⟨x,hx,e⟩)
  · obtain ⟨x,hx,e⟩:=List.mem_map.1 h1
    rcases (filK_mem hn).1 hx with h2 | ⟨i,hi,e2,hp⟩
    · cases h2
    · refine .inr ⟨i,hi,by rw [e2]; exact e,?_⟩
      rw [← e]; simpa using hp
theorem cellsI_sorted {a b:List GCell} (ha:SortC a) (hb:SortC b):∀ n,n ≤ b.length → SortC (cellsI a b n)
  | 0,_ => ha
  | n + 1,h => by
    have ih:=cellsI_sorted ha hb n (by omega)
    simp only [cellsI]
    split
    · rw [SortC_dots,goneAt_dots,← SortC_dots]; exact ih
    · rename_i hh
      refine insF_sorted cellLt_Lt ih fun y hy h2 => before_ne (fun e => ?_) h2
      rcases dots_mem (by omega) hy with h3 | ⟨i,hi,e2,h3⟩
      · rw [← e] at h3; exact hh h3
      · have:=pw_nth hb hi (by omega)
        simp only [cellLt] at this
        rw [e2,e,before_irr] at this
        cases this
theorem cellsI_has {a b:List GCell} (hb:SortC b) {n:Nat} (hn:n < b.length):hasDot (cellsI a b n) (nth b n).dot = hasDot a (nth b n).dot:=by
  rw [Bool.eq_iff_iff]
  constructor
  · intro h
    obtain ⟨c,hc,e⟩:=hasDot_iff.1 h
    rcases dots_mem (by omega) hc with h3 | ⟨i,hi,e2,h3⟩
    · rw [e] at h3; exact h3
    · have:=pw_nth hb hi hn
      simp only [cellLt] at this
      rw [e2,e,before_irr] at this
      cases this
  · intro h
    obtain ⟨c,hc,e⟩:=hasDot_iff.1 h
    have h1:(nth b n).dot ∈ (cellsA a b n).map (·.dot):=by
      rw [cellsA_dots,List.mem_append]
      exact .inl (e ▸ List.mem_map_of_mem hc)
    obtain ⟨x,hx,e2⟩:=List.mem_map.1 h1
    exact hasDot_iff.2 ⟨x,(cellsI_perm a b n).mem_iff.2 hx,e2⟩
theorem gone_set {l:List GCell} (hs:(l.map (·.dot)).Nodup) {i:Nat} (hi:i < l.length) (g:Bool):l.set i { nth l i with gone:=(nth l i).gone || g } = goneAt l (nth l i).dot g:=by
  apply List.ext_getElem
  · simp [goneAt]
  · intro j h1 h2
    have hj:j < l.length:=by simpa using h1
    simp only [goneAt,List.getElem_map,List.getElem_set]
    by_cases e:i = j
    · subst e; simp [nth_eq hi]
    · rw [if_neg e,if_neg]
      intro e2
      have e4:l[j].dot = l[i].dot:=by rw [e2,nth_eq hi]
      clear e2
      have:=(List.nodup_iff_pairwise_ne.1 hs)
      rw [List.pairwise_iff_getElem] at this
      rcases Nat.lt_or_gt_of_ne e with h3 | h3
      · exact this i j (by simpa using hi) (by simpa using hj) h3 (by simpa using e4.symm)
      · exact this j i (by simpa using hj) (by simpa using hi) h3 (by simpa using e4)
theorem SortC_nodup {l:List GCell} (h:SortC l):(l.map (·.dot)).Nodup:=by
  rw [SortC_dots] at h
  rw [List.nodup_iff_pairwise_ne]
  exact h.imp fun {a b} hab e => by rw [e,before_irr] at hab; cases hab
theorem hasDot_at {l:List GCell} {d:GDot} {i:Nat} (h:i < l.length) (e:(nth l i).dot = d):hasDot l d = true:=hasDot_iff.2 ⟨_,nth_mem h,e⟩
theorem hasDot_no {l:List GCell} {d:GDot} (h:∀ i:Nat,i < l.length → (nth l i).dot ≠ d):hasDot l d = false:=by
  cases e:hasDot l d
  · rfl
  · obtain ⟨c,hc,e2⟩:=hasDot_iff.1 e
    obtain ⟨i,hi,e3⟩:=mem_nth hc
    exact absurd (by rw [e3]; exact e2) (h i hi)
def cellsU (a b:List GCell):List GCell:=cellsI a b b.length
end Am
namespace Am
open Go Go.Proofs
open Cel (cells)
set_option maxRecDepth 100000
@[simp] def h95:Hts:={ merge:=fun _ => false,mergeF:=fun f => f == 130,dr:=fun id => if id = 6 then [{},{},{},{},{},{},{},{},{},{},{ cr:=true },{}] else [] }
set_option maxHeartbeats 1000000 in
theorem f95_ok (l:List GLive) (x:GLive) (ha:l.length ≤ 1000000000):FnR Tryz.prog 95 [.v (.im l.length (flat l)),.agg [.bool x.map,.str x.obj,.str x.key,.int .i64 x.val,.int .i64 x.dot.rep,.int .i64 x.dot.seq]] (.v (.ow 98 6 (insF liveLt x l).length (flat (insF liveLt x l)))):=by
  refine FnW.of_AW TryzT_ok 0 (fn:=Tryz.f95) (by kernel_rfl) rfl (by kernel_rfl) rfl rfl rfl ?_; refine AW_of h95 TryzT_ok (by kernel_rfl) ?_
  simp -dsimp
  refine AWh_loop (fun i:Nat => i ≤ l.length) (fun i => mkE [(0,.c (.im l.length (flat l))),(3,.box 192 0),(5,.arr 512),(6,.c (.bool (insK liveLt x l i).2)),(7,.c (.int .i64 i))] [(192,.box [.c (.bool x.map),.c (.str x.obj),.c (.str x.key),.c (.int .i64 x.val),.c (.int .i64 x.dot.rep),.c (.int .i64 x.dot.seq)]),(512,.arr 0 98 6 (insK liveLt x l i).1.length (flat (insK liveLt x l i).1))]) (fun i => l.length - i) 0 (Wk_to [0,3,5,6,7] [(192,192),(512,512)] rfl rfl (by simp [insK])) (by simp) ?_
  rintro i hi
  have hkl:=insK_len (lt:=liveLt) x l i
  have hkl':(insK liveLt x l i).1.length ≤ i + 1:=by split at hkl <;> omega
  refine AW_of h95 TryzT_ok (by kernel_rfl) ?_
  rcases Nat.lt_or_ge i l.length with h1 | h1
  · cases g:(insK liveLt x l i).2
    · simp -dsimp [h1,ne_of_lt h1]
      repeat (first|refine ⟨by omega,?_⟩|refine ⟨by simp [capMax];omega,?_⟩|refine ⟨⟨by omega,by omega⟩,?_⟩)
      refine ACallK_of (f130_ok _ _) ?_
      cases g2:liveLt x (nth l i)
      · have g3:=g2
        simp only [liveLt] at g3
        simp -dsimp [g3,h1,ne_of_lt h1]
        repeat (first|refine ⟨by omega,?_⟩|refine ⟨by simp [capMax];omega,?_⟩|refine ⟨⟨by omega,by omega⟩,?_⟩)
        exact Back_of (i + 1) [0,3,5,6,7] [(192,192),(512,2368)] rfl rfl (by simp [insK,g,g2]; rw [wrap64 (by omega) (by omega)]) (by omega) (by omega)
      · have g3:=g2
        simp only [liveLt] at g3
        simp -dsimp [g3,h1,ne_of_lt h1]
        repeat (first|refine ⟨by omega,?_⟩|refine ⟨by simp [capMax];omega,?_⟩|refine ⟨⟨by omega,by omega⟩,?_⟩)
        exact Back_of (i + 1) [0,3,5,6,7] [(192,192),(512,2368)] rfl rfl (by simp [insK,g,g2]; rw [wrap64 (by omega) (by omega)]) (by omega) (by omega)
    · simp -dsimp [h1,ne_of_lt h1]
      repeat (first|refine ⟨by omega,?_⟩|refine ⟨by simp [capMax];omega,?_⟩|refine ⟨⟨by omega,by omega⟩,?_⟩)
      exact Back_of (i + 1) [0,3,5,6,7] [(192,192),(512,2368)] rfl rfl (by simp [insK,g]; rw [wrap64 (by omega) (by omega)]) (by omega) (by omega)
  · obtain rfl:i = l.length:=by omega
    cases g:(insK liveLt x l l.length).2
    · simp -dsimp [g]
      repeat (first|refine ⟨by omega,?_⟩|refine ⟨by simp [capMax];omega,?_⟩|refine ⟨⟨by omega,by omega⟩,?_⟩)
      simp [insF,g]
    · simp -dsimp [g]
      repeat (first|refine ⟨by omega,?_⟩|refine ⟨by simp [capMax];omega,?_⟩|refine ⟨⟨by omega,by omega⟩,?_⟩)
      simp [insF,g]
@[simp] def h155:Hts:={ merge:=fun _ => false,mergeF:=fun f => f == 130,dr:=fun id => if id = 6 then [{},{},{},{},{},{},{},{},{},{},{ cr:=true },{}] else [] }
set_option maxHeartbeats 1000000 in
theorem f155_ok (l:List GCell) (x:GCell) (ha:l.length ≤ 1000000000):FnR Tryz.prog 155 [.v (.im l.length (flat l)),.agg [.str x.obj,.int .i64 x.dot.rep,.int .i64 x.dot.seq,.int .i64 x.time,.int .i64 x.ref.rep,.int .i64 x.ref.seq,.int .i64 x.val,.bool x.gone]] (.v (.ow 100 8 (insF cellLt x l).length (flat (insF cellLt x l)))):=by
  refine FnW.of_AW TryzT_ok 0 (fn:=Tryz.f155) (by kernel_rfl) rfl (by kernel_rfl) rfl rfl rfl ?_; refine AW_of h155 TryzT_ok (by kernel_rfl) ?_
  simp -dsimp
  refine AWh_loop (fun i:Nat => i ≤ l.length) (fun i => mkE [(0,.c (.im l.length (flat l))),(3,.box 192 0),(5,.arr 512),(6,.c (.bool (insK cellLt x l i).2)),(7,.c (.int .i64 i))] [(192,.box [.c (.str x.obj),.c (.int .i64 x.dot.rep),.c (.int .i64 x.dot.seq),.c (.int .i64 x.time),.c (.int .i64 x.ref.rep),.c (.int .i64 x.ref.seq),.c (.int .i64 x.val),.c (.bool x.gone)]),(512,.arr 0 100 8 (insK cellLt x l i).1.length (flat (insK cellLt x l i).1))]) (fun i => l.length - i) 0 (Wk_to [0,3,5,6,7] [(192,192),(512,512)] rfl rfl (by simp [insK])) (by simp) ?_
  rintro i hi
  have hkl:=insK_len (lt:=cellLt) x l i
  have hkl':(insK cellLt x l i).1.length ≤ i + 1:=by split at hkl <;> omega
  refine AW_of h155 TryzT_ok (by kernel_rfl) ?_
  rcases Nat.lt_or_ge i l.length with h1 | h1
  · cases g:(insK cellLt x l i).2
    · simp -dsimp [h1,ne_of_lt h1]
      repeat (first|refine ⟨by omega,?_⟩|refine ⟨by simp [capMax];omega,?_⟩|refine ⟨⟨by omega,by omega⟩,?_⟩)
      refine ACallK_of (f130_ok _ _) ?_
      cases g2:cellLt x (nth l i)
      · have g3:=g2
        simp only [cellLt] at g3
        simp -dsimp [g3,h1,ne_of_lt h1]
        repeat (first|refine ⟨by omega,?_⟩|refine ⟨by simp [capMax];omega,?_⟩|refine ⟨⟨by omega,by omega⟩,?_⟩)
        exact Back_of (i + 1) [0,3,5,6,7] [(192,192),(512,2368)] rfl rfl (by simp [insK,g,g2]; rw [wrap64 (by omega) (by omega)]) (by omega) (by omega)
      · have g3:=g2
        simp only [cellLt] at g3
        simp -dsimp [g3,h1,ne_of_lt h1]
        repeat (first|refine ⟨by omega,?_⟩|refine ⟨by simp [capMax];omega,?_⟩|refine ⟨⟨by omega,by omega⟩,?_⟩)
        exact Back_of (i + 1) [0,3,5,6,7] [(192,192),(512,2368)] rfl rfl (by simp [insK,g,g2]; rw [wrap64 (by omega) (by omega)]) (by omega) (by omega)
    · simp -dsimp [h1,ne_of_lt h1]
      repeat (first|refine ⟨by omega,?_⟩|refine ⟨by simp [capMax];omega,?_⟩|refine ⟨⟨by omega,by omega⟩,?_⟩)
      exact Back_of (i + 1) [0,3,5,6,7] [(192,192),(512,2368)] rfl rfl (by simp [insK,g]; rw [wrap64 (by omega) (by omega)]) (by omega) (by omega)
  · obtain rfl:i = l.length:=by omega
    cases g:(insK cellLt x l l.length).2
    · simp -dsimp [g]
      repeat (first|refine ⟨by omega,?_⟩|refine ⟨by simp [capMax];omega,?_⟩|refine ⟨⟨by omega,by omega⟩,?_⟩)
      simp [insF,g]
    · simp -dsimp [g]
      repeat (first|refine ⟨by omega,?_⟩|refine ⟨by simp [capMax];omega,?_⟩|refine ⟨⟨by omega,by omega⟩,?_⟩)
      simp [insF,g]
end Am
namespace Am
open Go Go.Proofs
open Cel (cells)
set_option maxRecDepth 100000
end Am
namespace Am
open Go Go.Proofs
open Cel (cells)
set_option maxRecDepth 100000
def maxK (a b:List Int):Nat → List Int
  | 0 => []
  | n + 1 => maxK a b n ++ [max (nth a n) (nth b n)]
def knowMax (a b:List Int):List Int:=if (knowOk a && knowOk b) = true then maxK a b a.length else []
theorem maxK_len (a b:List Int):∀ n,(maxK a b n).length = n
  | 0 => rfl
  | n + 1 => by simp [maxK,maxK_len a b n]
@[simp] def h91:Hts:={ merge:=fun _ => false,mergeF:=fun _ => false }
theorem f91_ok (a b:List Int) (ha:a.length ≤ 1073741824) (hb:b.length ≤ 1073741824):FnR Tryz.prog 91 [.v (.im a.length (flat a)),.v (.im b.length (flat b))] (.v (.ow 3 1 (knowMax a b).length (flat (knowMax a b)))):=by
  refine FnW.of_AW TryzT_ok 0 (fn:=Tryz.f91) (by kernel_rfl) rfl (by kernel_rfl) rfl rfl rfl ?_; refine AW_of h91 TryzT_ok (by kernel_rfl) ?_
  simp -dsimp
  refine ACallK_of (f63_ok _ ha) ?_
  simp -dsimp
  cases ka:knowOk a
  · simp -dsimp
    simp [knowMax,ka]
  simp -dsimp
  refine ACallK_of (f63_ok _ hb) ?_
  simp -dsimp
  cases kb:knowOk b
  · simp -dsimp
    simp [knowMax,kb]
  simp -dsimp
  have la:a.length = b.length:=by
    simp [knowOk] at ka kb
    omega
  refine AWh_loop (fun i:Nat => i ≤ a.length) (fun i => mkE [(0,.c (.im a.length (flat a))),(1,.c (.im b.length (flat b))),(5,.arr 512),(6,.c (.int .i64 i))] [(512,.arr 0 3 1 i (flat (maxK a b i)))]) (fun i => a.length - i) 0 (Wk_to [0,1,5,6] [(512,512)] rfl rfl (by simp [maxK])) (by simp) ?_
  rintro i hi
  refine AW_of h91 TryzT_ok (by kernel_rfl) ?_
  rcases Nat.lt_or_ge i a.length with h1 | h1
  · have h2:i < b.length:=by omega
    rcases Int.lt_or_le (nth a i) (nth b i) with h3 | h3
    · have e:max (nth a i) (nth b i) = nth b i:=by omega
      simp -dsimp [h1,h2,h3,ne_of_lt h1,ne_of_lt h2]
      refine ⟨by simp [capMax]; omega,?_⟩
      exact Back_of (i + 1) [0,1,5,6] [(512,2624)] rfl rfl (by simp [maxK,e]; rw [wrap64 (by omega) (by omega)]) (by omega) (by omega)
    · have e:max (nth a i) (nth b i) = nth a i:=by omega
      have h3':¬ nth a i < nth b i:=by omega
      simp -dsimp [h1,h2,h3,h3',ne_of_lt h1,ne_of_lt h2]
      refine ⟨by simp [capMax]; omega,?_⟩
      exact Back_of (i + 1) [0,1,5,6] [(512,2624)] rfl rfl (by simp [maxK,e]; rw [wrap64 (by omega) (by omega)]) (by omega) (by omega)
  · obtain rfl:i = a.length:=by omega
    simp -dsimp
    simp [knowMax,ka,kb,maxK_len]
@[simp] def h90:Hts:={ dr:=fun id => if id = 1 then [{ cr:=true,mb:=[7,11,15] },{ mb:=[3,7,11,15] },{ mb:=[3,7,11,15] },{ wr:=[192],cr:=true,mb:=[7,11,15] },{ mn:=[192],cr:=true,mb:=[3,6,11,15] },{ mn:=[192],mb:=[3,6,7,11,15] },{ mn:=[192],mb:=[3,6,7,11,15] },{ wr:=[448],cr:=true,mb:=[11,15] },{ mn:=[192,448],cr:=true,mb:=[3,6,7,10,15] },{ mn:=[192,448],mb:=[3,6,7,10,11,15] },{ mn:=[192,448],mb:=[3,6,7,10,11,15] },{ wr:=[704],cr:=true,mb:=[15] },{ mn:=[192,448,704],cr:=true,mb:=[3,6,7,10,11,14] },{ mn:=[192,448,704],mb:=[3,6,7,10,11,14,15] },{ mn:=[192,448,704],mb:=[3,6,7,10,11,14,15] },{ wr:=[960],cr:=true },{},{ wr:=[128] }] else [] }
theorem f90_ok (s:GState) (h:s.Ok):FnR Tryz.prog 90 [.agg [.im s.know.length (flat s.know),.im s.tallies.length (flat s.tallies),.im s.lives.length (flat s.lives),.im s.cs.length (flat s.cs)]] (.agg [.ow 3 1 s.know.length (flat s.know),.ow 104 3 s.tallies.length (flat s.tallies),.ow 98 6 s.lives.length (flat s.lives),.ow 100 8 s.cs.length (flat s.cs)]):=by
  simp only [GState.Ok] at h
  obtain ⟨o0,o1,o2,o3,o4,o5,o6⟩:=h
  refine FnW.of_AW TryzT_ok 0 (fn:=Tryz.f90) (by kernel_rfl) rfl (by kernel_rfl) rfl rfl rfl ?_; refine AW_of h90 TryzT_ok (by kernel_rfl) ?_
  simp -dsimp
  simp [capMax]
  omega
def hasX {α:Type} [DecidableEq α] (l:List α) (x:α):Bool:=decide (x ∈ l)
theorem not_mem_nth {α:Type} [Cel α] {l:List α} {x:α} (h:∀ i:Nat,i < l.length → nth l i ≠ x):¬ x ∈ l:=by
  intro hx
  obtain ⟨i,hi,e⟩:=List.getElem_of_mem hx
  exact h i hi (by rw [nth_eq hi,e])
@[simp] def h94:Hts:={ dr:=fun id => if id = 4 then [{},{},{},{},{},{}] else [] }
theorem f94_ok (l:List GLive) (x:GLive) (ha:l.length ≤ 1073741824):FnR Tryz.prog 94 [.v (.im l.length (flat l)),.agg [.bool x.map,.str x.obj,.str x.key,.int .i64 x.val,.int .i64 x.dot.rep,.int .i64 x.dot.seq]] (.v (.bool (hasX l x))):=by
  refine FnW.of_AW TryzT_ok 0 (fn:=Tryz.f94) (by kernel_rfl) rfl (by kernel_rfl) rfl rfl rfl ?_; refine AW_of h94 TryzT_ok (by kernel_rfl) ?_
  simp -dsimp
  refine AWh_loop (fun i:Nat => i ≤ l.length ∧ ∀ j:Nat,j < i → ¬ nth l j = x) (fun i => mkE [(0,.c (.im l.length (flat l))),(3,.box 192 0),(5,.c (.int .i64 i))] [(192,.box [.c (.bool x.map),.c (.str x.obj),.c (.str x.key),.c (.int .i64 x.val),.c (.int .i64 x.dot.rep),.c (.int .i64 x.dot.seq)])]) (fun i => l.length - i) 0 (Wk_to [0,3,5] [(192,192)] rfl rfl (by simp)) (by simp) ?_
  rintro i ⟨hi,hall⟩
  refine AW_of h94 TryzT_ok (by kernel_rfl) ?_
  rcases Nat.lt_or_ge i l.length with h1 | h1
  · simp -dsimp [h1,ne_of_lt h1]
    try refine ⟨by omega,?_⟩
    refine ⟨fun e0 e1 e2 e3 e4 e5 => ?_,fun he => ?_⟩
    · have:x ∈ l:=by
        have h2:nth l i = x:=by simp [GLive.ext_iff,GDot.ext_iff,e0,e1,e2,e3,e4,e5]
        exact h2 ▸ nth_mem h1
      simp [hasX,this]
    · refine Back_of (i + 1) [0,3,5] [(192,192)] rfl rfl (by simp; rw [wrap64 (by omega) (by omega)]) ⟨by omega,fun j hj => ?_⟩ (by omega)
      by_cases e3:j = i
      · subst e3
        rintro rfl
        simp at he
      · exact hall j (by omega)
  · simp -dsimp [Nat.not_lt.2 h1]
    have:=not_mem_nth (l:=l) (x:=x) (fun j hj => hall j (by omega))
    simp [hasX,this]
end Am
namespace Am
open Go Go.Proofs
open Cel (cells)
set_option maxRecDepth 100000
@[simp] def h154:Hts:={ merge:=fun _ => false,dr:=fun id => if id = 5 then [{},{},{},{},{},{},{},{},{},{},{ wr:=[640002] },{ wr:=[640002] },{ wr:=[640002] }] else [] }
set_option maxHeartbeats 2000000 in
theorem f154_ok (u0 u2 u3:Value) (l:List GTally) (o:ByteArray) (r v:Int) (ha:l.length ≤ 3000000000):FnW Tryz.prog 154 [.ptr [.tk u0,.ow 104 3 l.length (flat l),.tk u2,.tk u3],.v (.str o),.v (.int .i64 r),.v (.int .i64 v)] (.tup []) [.ptr [.tk u0,.ow 104 3 (addT l o r v).length (flat (addT l o r v)),.tk u2,.tk u3],.any,.any,.any]:=by
  refine FnW.of_AW TryzT_ok 1 (fn:=Tryz.f154) (by kernel_rfl) rfl (by kernel_rfl) rfl rfl rfl ?_; refine AW_of h154 TryzT_ok (by kernel_rfl) ?_
  simp -dsimp
  refine AWh_loop (fun i:Nat => i ≤ l.length ∧ ∀ j:Nat,j < i → talIs o r (nth l j) = false) (fun i => mkE [(0,.box 640000 0),(1,.c (.str o)),(2,.c (.int .i64 r)),(3,.c (.int .i64 v)),(8,.c (.int .i64 i))] [(640000,.box [.c (.tk u0),.arr 640002,.c (.tk u2),.c (.tk u3)]),(640002,.arr 0 104 3 l.length (flat l))]) (fun i => l.length - i) 0 (Wk_to [0,1,2,3,8] [(640000,640000),(640002,640002)] rfl rfl (by simp)) (by simp) ?_
  rintro i ⟨hi,hall⟩
  refine AW_of h154 TryzT_ok (by kernel_rfl) ?_
  rcases Nat.lt_or_ge i l.length with h1 | h1
  · by_cases e1:(nth l i).obj = o
    · by_cases e2:(nth l i).rep = r
      · have b2:((nth l i).rep == r) = true:=by simp [e2]
        simp -dsimp [h1,ne_of_lt h1,e1,e2]
        repeat (first|refine ⟨by omega,?_⟩|refine ⟨by simp [capMax];omega,?_⟩|refine ⟨⟨by omega,by omega⟩,?_⟩)
        have hr:addT l o r v = l.set i ⟨o,r,(IntKind.i64.wrap ((nth l i).sum + v)).tmod 1000000⟩:=by
          have hix:idx (talIs o r) l = i:=idx_here h1 hall (by simp [talIs,e1,e2])
          simp [addT,hix]
        rw [hr]
        exact ⟨by simp,rfl⟩
      · have b2:((nth l i).rep == r) = false:=by simp [e2]
        simp -dsimp [h1,ne_of_lt h1,e1,e2]
        repeat (first|refine ⟨by omega,?_⟩|refine ⟨by simp [capMax];omega,?_⟩|refine ⟨⟨by omega,by omega⟩,?_⟩)
        exact Back_of (i + 1) [0,1,2,3,8] [(640000,640000),(640002,640002)] rfl rfl (by simp; rw [wrap64 (by omega) (by omega)]) ⟨by omega,fun j hj => by
          by_cases e3:j = i
          · subst e3; simp [talIs,e2]
          · exact hall j (by omega)⟩ (by omega)
    · simp -dsimp [h1,ne_of_lt h1,e1]
      repeat (first|refine ⟨by omega,?_⟩|refine ⟨by simp [capMax];omega,?_⟩|refine ⟨⟨by omega,by omega⟩,?_⟩)
      exact Back_of (i + 1) [0,1,2,3,8] [(640000,640000),(640002,640002)] rfl rfl (by simp; rw [wrap64 (by omega) (by omega)]) ⟨by omega,fun j hj => by
        by_cases e3:j = i
        · subst e3; simp [talIs,e1]
        · exact hall j (by omega)⟩ (by omega)
  · obtain rfl:i = l.length:=by omega
    have hno:idx (talIs o r) l = -1:=idx_none hall
    clear hi h1
    simp -dsimp
    refine AWh_loop (fun i:Nat => i ≤ l.length) (fun i => mkE [(0,.box 640000 0),(1,.c (.str o)),(2,.c (.int .i64 r)),(3,.c (.int .i64 v)),(10,.arr 3328),(11,.c (.bool (insK tallyLt ⟨o,r,v⟩ l i).2)),(12,.c (.int .i64 i))] [(640000,.box [.c (.tk u0),.arr 640002,.c (.tk u2),.c (.tk u3)]),(640002,.arr 0 104 3 l.length (flat l)),(3328,.arr 0 104 3 (insK tallyLt ⟨o,r,v⟩ l i).1.length (flat (insK tallyLt ⟨o,r,v⟩ l i).1))]) (fun i => l.length - i) 0 (Wk_to [0,1,2,3,10,11,12] [(640000,640000),(640002,640002),(3328,3328)] rfl rfl (by simp [insK])) (by simp) ?_
    rintro i hi
    have hkl:=insK_len (lt:=tallyLt) ⟨o,r,v⟩ l i
    have hkl':(insK tallyLt ⟨o,r,v⟩ l i).1.length ≤ i + 1:=by split at hkl <;> omega
    refine AW_of h154 TryzT_ok (by kernel_rfl) ?_
    rcases Nat.lt_or_ge i l.length with h1 | h1
    · cases g:(insK tallyLt ⟨o,r,v⟩ l i).2
      · by_cases e1:(nth l i).obj = o
        · subst e1
          rcases Int.lt_or_le r (nth l i).rep with e2 | e2
          · have g3:tallyLt ⟨(nth l i).obj,r,v⟩ (nth l i) = true:=by simp [tallyLt,e2]
            simp -dsimp [h1,ne_of_lt h1,e2]
            repeat (first|refine ⟨by omega,?_⟩|refine ⟨by simp [capMax];omega,?_⟩|refine ⟨⟨by omega,by omega⟩,?_⟩)
            exact Back_of (i + 1) [0,1,2,3,10,11,12] [(640000,640000),(640002,640002),(3328,6336)] rfl rfl (by simp [insK,g,g3]; rw [wrap64 (by omega) (by omega)]) (by omega) (by omega)
          · have g3:tallyLt ⟨(nth l i).obj,r,v⟩ (nth l i) = false:=by simp [tallyLt]; exact ⟨strLt_self _,e2⟩
            have e2':¬ r < (nth l i).rep:=by omega
            simp -dsimp [h1,ne_of_lt h1,e2,e2']
            repeat (first|refine ⟨by omega,?_⟩|refine ⟨by simp [capMax];omega,?_⟩|refine ⟨⟨by omega,by omega⟩,?_⟩)
            exact Back_of (i + 1) [0,1,2,3,10,11,12] [(640000,640000),(640002,640002),(3328,6336)] rfl rfl (by simp [insK,g,g3]; rw [wrap64 (by omega) (by omega)]) (by omega) (by omega)
        · cases g4:Op.bytesLess (nth l i).obj.toList o.toList
          · have g5:strLt o (nth l i).obj = true:=by
              cases g6:strLt o (nth l i).obj
              · exact absurd (strLt_tri g4 g6) e1
              · rfl
            have g3:tallyLt ⟨o,r,v⟩ (nth l i) = true:=by simp [tallyLt,g5]
            simp -dsimp [h1,ne_of_lt h1,e1,g4]
            repeat (first|refine ⟨by omega,?_⟩|refine ⟨by simp [capMax];omega,?_⟩|refine ⟨⟨by omega,by omega⟩,?_⟩)
            exact Back_of (i + 1) [0,1,2,3,10,11,12] [(640000,640000),(640002,640002),(3328,6336)] rfl rfl (by simp [insK,g,g3]; rw [wrap64 (by omega) (by omega)]) (by omega) (by omega)
          · have g5:strLt o (nth l i).obj = false:=strLt_asymm g4
            have g3:tallyLt ⟨o,r,v⟩ (nth l i) = false:=by simp [tallyLt,g5]; exact fun h => absurd h.symm e1
            simp -dsimp [h1,ne_of_lt h1,e1,g4]
            repeat (first|refine ⟨by omega,?_⟩|refine ⟨by simp [capMax];omega,?_⟩|refine ⟨⟨by omega,by omega⟩,?_⟩)
            exact Back_of (i + 1) [0,1,2,3,10,11,12] [(640000,640000),(640002,640002),(3328,6336)] rfl rfl (by simp [insK,g,g3]; rw [wrap64 (by omega) (by omega)]) (by omega) (by omega)
      · simp -dsimp [h1,ne_of_lt h1]
        repeat (first|refine ⟨by omega,?_⟩|refine ⟨by simp [capMax];omega,?_⟩|refine ⟨⟨by omega,by omega⟩,?_⟩)
        exact Back_of (i + 1) [0,1,2,3,10,11,12] [(640000,640000),(640002,640002),(3328,6336)] rfl rfl (by simp [insK,g]; rw [wrap64 (by omega) (by omega)]) (by omega) (by omega)
    · obtain rfl:i = l.length:=by omega
      cases g:(insK tallyLt ⟨o,r,v⟩ l l.length).2
      · have hr:addT l o r v = insF tallyLt ⟨o,r,v⟩ l:=by simp [addT,hno]
        simp -dsimp [g]
        repeat (first|refine ⟨by omega,?_⟩|refine ⟨by simp [capMax];omega,?_⟩|refine ⟨⟨by omega,by omega⟩,?_⟩)
        simp [hr,insF,g]
      · have hr:addT l o r v = insF tallyLt ⟨o,r,v⟩ l:=by simp [addT,hno]
        simp -dsimp [g]
        repeat (first|refine ⟨by omega,?_⟩|refine ⟨by simp [capMax];omega,?_⟩|refine ⟨⟨by omega,by omega⟩,?_⟩)
        simp [hr,insF,g]
def addN (p:GTally → Bool) (base l:List GTally):Nat → List GTally
  | 0 => base
  | n + 1 => if p (nth l n) = true then addT (addN p base l n) (nth l n).obj (nth l n).rep (nth l n).sum else addN p base l n
theorem addT_len (l:List GTally) (o:ByteArray) (r v:Int):(addT l o r v).length ≤ l.length + 1:=by
  unfold addT
  split
  · simp
  · rw [insF_len]; omega
theorem addN_len (p:GTally → Bool) (base l:List GTally):∀ n,(addN p base l n).length ≤ base.length + n
  | 0 => by simp [addN]
  | n + 1 => by
    have:=addN_len p base l n
    have:=addT_len (addN p base l n) (nth l n).obj (nth l n).rep (nth l n).sum
    simp only [addN]; split <;> omega
def noMore (ka kb:List Int) (t:GTally):Bool:=decide (nth kb t.rep.toNat ≤ nth ka t.rep.toNat)
def more (ka kb:List Int) (t:GTally):Bool:=decide (nth ka t.rep.toNat < nth kb t.rep.toNat)
def repsIn (l:List GTally):Prop:=∀ i:Nat,i < l.length → 0 ≤ (nth l i).rep ∧ (nth l i).rep < 3
def talTwo (ka kb:List Int) (x y:List GTally):List GTally:=addN (more ka kb) (addN (noMore ka kb) [] x x.length) y y.length
@[simp] def h92:Hts:={ merge:=fun _ => false,lend:=fun f => if f = 154 then [.box [0,2,3]] else [],dr:=fun id => if id = 6 then [{},{},{},{},{},{},{},{},{},{},{},{},{}] else if id = 12 then [{},{},{},{},{},{},{},{},{},{},{},{},{}] else [] }
set_option maxHeartbeats 2000000 in
theorem f92_ok (a b:GState) (ha:a.Ok) (hb:b.Ok) (hk1:a.know.length = 3) (hk2:b.know.length = 3) (hr1:repsIn a.tallies) (hr2:repsIn b.tallies):FnR Tryz.prog 92 [.agg [.im a.know.length (flat a.know),.im a.tallies.length (flat a.tallies),.im a.lives.length (flat a.lives),.im a.cs.length (flat a.cs)],.agg [.im b.know.length (flat b.know),.im b.tallies.length (flat b.tallies),.im b.lives.length (flat b.lives),.im b.cs.length (flat b.cs)]] (.v (.ow 104 3 (talTwo a.know b.know a.tallies b.tallies).length (flat (talTwo a.know b.know a.tallies b.tallies)))):=by
  refine FnW.of_AW TryzT_ok 0 (fn:=Tryz.f92) (by kernel_rfl) rfl (by kernel_rfl) rfl rfl rfl ?_; refine AW_of h92 TryzT_ok (by kernel_rfl) ?_
  simp -dsimp
  have hb1:a.tallies.length ≤ 1073741824:=by simp only [GState.Ok] at ha; omega
  have hb2:b.tallies.length ≤ 1073741824:=by simp only [GState.Ok] at hb; omega
  refine AWh_loop (fun i:Nat => i ≤ a.tallies.length) (fun i => mkE [(2,.box 128 0),(3,.box 192 0),(5,.box 320 0),(6,.c (.int .i64 i))] [(321,.arr 0 104 3 (addN (noMore a.know b.know) [] a.tallies i).length (flat (addN (noMore a.know b.know) [] a.tallies i))),(128,.box [.c (.im a.know.length (flat a.know)),.c (.im a.tallies.length (flat a.tallies)),.c (.im a.lives.length (flat a.lives)),.c (.im a.cs.length (flat a.cs))]),(192,.box [.c (.im b.know.length (flat b.know)),.c (.im b.tallies.length (flat b.tallies)),.c (.im b.lives.length (flat b.lives)),.c (.im b.cs.length (flat b.cs))]),(320,.box [.nil,.arr 321,.nil,.nil])]) (fun i => a.tallies.length - i) 0 (Wk_toA [2,3,5,6] [(128,128),(192,192),(320,320)] [.cell 320 1 321 104 3] rfl rfl (by simp [addN])) (by simp) ?_
  rintro i hi
  have hal:=addN_len (noMore a.know b.know) [] a.tallies i
  simp only [List.length_nil] at hal
  refine AW_of h92 TryzT_ok (by kernel_rfl) ?_
  rcases Nat.lt_or_ge i a.tallies.length with h1 | h1
  · have hr:=hr1 i h1
    have q1:(nth a.tallies i).rep.toNat < a.know.length:=by omega
    have q2:(nth a.tallies i).rep.toNat < b.know.length:=by omega
    by_cases g:nth b.know (nth a.tallies i).rep.toNat ≤ nth a.know (nth a.tallies i).rep.toNat
    · have hs:addN (noMore a.know b.know) [] a.tallies (i + 1) = addT (addN (noMore a.know b.know) [] a.tallies i) (nth a.tallies i).obj (nth a.tallies i).rep (nth a.tallies i).sum:=by simp [addN,noMore,g]
      simp -dsimp [h1,ne_of_lt h1,q1,q2,g,ne_of_lt q1,ne_of_lt q2]
      repeat (first|refine ⟨by omega,?_⟩|refine ⟨by simp [capMax];omega,?_⟩|refine ⟨⟨by omega,by omega⟩,?_⟩)
      refine ACallW_go ?_
      refine ACallC_go (fun us => f154_ok _ _ _ _ _ _ _ (by omega)) ?_
      simp -dsimp
      exact Back_of (i + 1) [2,3,5,6] [(321,2729),(128,128),(192,192),(320,320)] rfl rfl (by simp [hs]; rw [wrap64 (by omega) (by omega)]) (by omega) (by omega)
    · have hs:addN (noMore a.know b.know) [] a.tallies (i + 1) = (addN (noMore a.know b.know) [] a.tallies i):=by simp [addN,noMore,g]
      simp -dsimp [h1,ne_of_lt h1,q1,q2,g,ne_of_lt q1,ne_of_lt q2]
      repeat (first|refine ⟨by omega,?_⟩|refine ⟨by simp [capMax];omega,?_⟩|refine ⟨⟨by omega,by omega⟩,?_⟩)
      exact Back_of (i + 1) [2,3,5,6] [(321,321),(128,128),(192,192),(320,320)] rfl rfl (by simp [hs]; rw [wrap64 (by omega) (by omega)]) (by omega) (by omega)
  · obtain rfl:i = a.tallies.length:=by omega
    clear hi h1
    simp -dsimp
    refine AWh_loop (fun i:Nat => i ≤ b.tallies.length) (fun i => mkE [(2,.box 128 0),(3,.box 192 0),(5,.box 320 0),(8,.c (.int .i64 i))] [(321,.arr 0 104 3 (addN (more a.know b.know) (addN (noMore a.know b.know) [] a.tallies a.tallies.length) b.tallies i).length (flat (addN (more a.know b.know) (addN (noMore a.know b.know) [] a.tallies a.tallies.length) b.tallies i))),(128,.box [.c (.im a.know.length (flat a.know)),.c (.im a.tallies.length (flat a.tallies)),.c (.im a.lives.length (flat a.lives)),.c (.im a.cs.length (flat a.cs))]),(192,.box [.c (.im b.know.length (flat b.know)),.c (.im b.tallies.length (flat b.tallies)),.c (.im b.lives.length (flat b.lives)),.c (.im b.cs.length (flat b.cs))]),(320,.box [.nil,.arr 321,.nil,.nil])]) (fun i => b.tallies.length - i) 0 (Wk_to [2,3,5,8] [(321,321),(128,128),(192,192),(320,320)] rfl rfl (by simp [addN])) (by simp) ?_
    rintro i hi
    have hal2:=addN_len (more a.know b.know) (addN (noMore a.know b.know) [] a.tallies a.tallies.length) b.tallies i
    refine AW_of h92 TryzT_ok (by kernel_rfl) ?_
    rcases Nat.lt_or_ge i b.tallies.length with h1 | h1
    · have hr:=hr2 i h1
      have q1:(nth b.tallies i).rep.toNat < a.know.length:=by omega
      have q2:(nth b.tallies i).rep.toNat < b.know.length:=by omega
      by_cases g:nth a.know (nth b.tallies i).rep.toNat < nth b.know (nth b.tallies i).rep.toNat
      · have hs:addN (more a.know b.know) (addN (noMore a.know b.know) [] a.tallies a.tallies.length) b.tallies (i + 1) = addT (addN (more a.know b.know) (addN (noMore a.know b.know) [] a.tallies a.tallies.length) b.tallies i) (nth b.tallies i).obj (nth b.tallies i).rep (nth b.tallies i).sum:=by simp [addN,more,g]
        simp -dsimp [h1,ne_of_lt h1,q1,q2,g,ne_of_lt q1,ne_of_lt q2]
        repeat (first|refine ⟨by omega,?_⟩|refine ⟨by simp [capMax];omega,?_⟩|refine ⟨⟨by omega,by omega⟩,?_⟩)
        refine ACallW_go ?_
        refine ACallC_go (fun us => f154_ok _ _ _ _ _ _ _ (by omega)) ?_
        simp -dsimp
        exact Back_of (i + 1) [2,3,5,8] [(321,4777),(128,128),(192,192),(320,320)] rfl rfl (by simp [hs]; rw [wrap64 (by omega) (by omega)]) (by omega) (by omega)
      · have hs:addN (more a.know b.know) (addN (noMore a.know b.know) [] a.tallies a.tallies.length) b.tallies (i + 1) = (addN (more a.know b.know) (addN (noMore a.know b.know) [] a.tallies a.tallies.length) b.tallies i):=by simp [addN,more,g]
        simp -dsimp [h1,ne_of_lt h1,q1,q2,g,ne_of_lt q1,ne_of_lt q2]
        repeat (first|refine ⟨by omega,?_⟩|refine ⟨by simp [capMax];omega,?_⟩|refine ⟨⟨by omega,by omega⟩,?_⟩)
        exact Back_of (i + 1) [2,3,5,8] [(321,321),(128,128),(192,192),(320,320)] rfl rfl (by simp [hs]; rw [wrap64 (by omega) (by omega)]) (by omega) (by omega)
    · obtain rfl:i = b.tallies.length:=by omega
      simp -dsimp
      exact ⟨rfl,rfl⟩
end Am
