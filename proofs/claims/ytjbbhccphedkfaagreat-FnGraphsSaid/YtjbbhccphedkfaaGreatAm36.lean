/- The library's sort of integers,as a contract here. No condition. -/
import Derived.Test.YtjbbhccphedkfaaGreatAm33
import Derived.Sort.OwnSortedInts
set_option linter.unusedSimpArgs false
set_option linter.unusedVariables false
set_option linter.unnecessarySimpa false
set_option linter.unusedSectionVars false
namespace Am
open Go Go.Proofs Go.Sort
open Cel (cells)
def sortI (zs:List Int):List Int:=zs.mergeSort fun x y => decide (x ≤ y)
theorem sortI_len (zs:List Int):(sortI zs).length = zs.length:=List.length_mergeSort zs
theorem Rs_ints {w:World} {U:Nat → Prop}:∀ (xs:List Int),Rs w U (flat xs) (xs.map (Value.int .i64)) []
  | [] => by simp [Rs]
  | x :: xs => by
    rw [flat_cons]
    show Rs w U (PV.int .i64 x :: flat xs) (Value.int .i64 x :: xs.map (Value.int .i64)) []
    simp only [Rs]
    exact ⟨[],[],⟨rfl,rfl⟩,Rs_ints xs,rfl⟩
theorem Rs_ints_inv {w:World} {U:Nat → Prop}:∀ {xs:List Int} {vs:List Value} {F:List Nat},Rs w U (flat xs) vs F → vs = xs.map (Value.int .i64) ∧ F = []
  | [],[],F,h => by simp only [flat_nil,Rs] at h; exact ⟨rfl,h⟩
  | [],_ :: _,F,h => by simp [Rs] at h
  | x :: xs,[],F,h => by
    rw [flat_cons] at h
    exact absurd (show Rs w U (PV.int .i64 x :: flat xs) [] F from h) (by simp [Rs])
  | x :: xs,v :: vs,F,h => by
    rw [flat_cons] at h
    replace h:Rs w U (PV.int .i64 x :: flat xs) (v :: vs) F:=h
    simp only [Rs,R] at h
    obtain ⟨F1,F2,⟨h1,h2⟩,h3,h4⟩:=h
    obtain ⟨e1,e2⟩:=Rs_ints_inv h3
    subst h2; subst e2; subst h4; subst h1; subst e1
    exact ⟨rfl,rfl⟩
theorem FnW_sortI {P:Program} {f:Nat} {ety:Nat} (hfin:FnIn P f)
    (hnone:∀ (p:Option Addr) (cap:Nat) (w:World),Calls P f #[.slice p 0 cap] w fun e w' => e = .returned (.tuple #[]) ∧ w' = w)
    (hsort:∀ (blk off cap:Nat) (zs:List Int) (w:World),Holds (Value.int .i64) w blk off zs.toArray → blk < w.heap.size → zs.length < 4611686018427387904 →
      Calls P f #[.slice (some ⟨blk,off,none⟩) zs.length cap] w fun e w' => e = .returned (.tuple #[]) ∧ ∃ n os,w' = grow (putRow (Value.int .i64) (Sort.ahead w n) blk off (zs.mergeSort fun x y => decide (x ≤ y)).toArray) os)
    (xs:List Int) (hx:xs.length ≤ 1073741824):FnW P f [.v (.ow ety 1 xs.length (flat xs))] (.tup []) [.v (.ow ety 1 xs.length (flat (sortI xs)))]:=by
  refine ⟨hfin,fun w V vals F hargs hnd hV hF => ?_⟩
  match vals,hargs with
  | [v],hargs =>
    simp only [CRs] at hargs
    obtain ⟨F1,F2,hR,rfl,rfl⟩:=hargs
    simp only [CR,R] at hR
    obtain ⟨us,F',hown,hrs,rfl⟩:=hR
    obtain ⟨rfl,rfl⟩:=Rs_ints_inv hrs
    rcases hown.2 with ⟨rfl,hn⟩ | ⟨g,cap,cur,rfl,hbase,hb,h1,h2,h3,h4⟩
    · have hx0:xs = []:=List.eq_nil_of_length_eq_zero hn
      subst hx0
      refine (hnone none 0 w).mono ?_
      rintro e w' ⟨rfl,rfl⟩
      refine ⟨_,[],[],rfl,⟨rfl,Tp.refl _,rfl,Nat.le_refl _,fun _ _ _ => rfl⟩,by simp [CR,CRs],?_,by simp,by simp⟩
      simp only [CRs,CR,R]
      refine ⟨[],[],⟨_,[],hown,?_,rfl⟩,rfl,rfl⟩
      have e0:sortI [] = []:=by simp [sortS,strs',sortI,byts]
      rw [e0]
      exact Rs_ints (w:=w') []
    · have hH:Holds (Value.int .i64) w g 0 xs.toArray:=holds_of_blockI hb (by simpa using h4)
      have hgl:g < w.heap.size:=(Array.getElem?_eq_some_iff.1 hb).1
      have hc:=hsort g 0 cap xs w hH hgl (by omega)
      refine hc.mono ?_
      rintro e w' ⟨rfl,n,os,rfl⟩
      have hrow:=ownsRow_sortedI (n:=n) (os:=os) (ss:=xs) (ts:=sortI xs) (sortI_len _) hbase hb (by omega) h2 h3
      have hgr:=grownBy_sortedI (w:=w) (g:=g) (n:=n) (os:=os) (sortI xs).toArray
      refine ⟨_,[],[g],rfl,by simpa [Value.ownBlock,sortI] using GrownF_of hgr (by simp [grow,putRow,mapBlock,Sort.ahead]),by simp [CR,CRs],?_,by simp,?_⟩
      · simp only [CRs,CR,R]
        refine ⟨[g],[],⟨_,[],hrow,?_,by simp [Value.ownBlock]⟩,rfl,by simp⟩
        exact Rs_ints _
      · intro k hk
        simp only [List.nil_append,List.mem_singleton] at hk
        subst hk
        exact ⟨Nat.lt_of_lt_of_le hgl hgr.size,.inr (by simp [Value.ownBlock])⟩
  | [],h => simp [CRs] at h
  | _ :: _ :: _,h =>
    simp only [CRs] at h
    obtain ⟨F1,F2,_,h2,_⟩:=h
    exact h2.elim
end Am
