/- The library's sort by an order that is handed over,as a contract here. No condition. -/
import Derived.Test.YtjbbhccphedkfaaGreatAm33
import Derived.Shelf.SlSortCmp.InsertionK
set_option linter.unusedSimpArgs false
set_option linter.unusedVariables false
set_option linter.unnecessarySimpa false
set_option linter.unusedSectionVars false
namespace Am
open Go Go.Proofs Go.Sort Go.Shelf
open Cel (cells)
def pvV:PV → Value
  | .int k n => .int k n
  | .bool b => .bool b
  | .str s => .string s
  | _ => .int .i64 0
def plainB:PV → Bool
  | .int _ _ => true
  | .bool _ => true
  | .str _ => true
  | _ => false
theorem R_plain {w:World} {U:Nat → Prop} {p:PV} {v:Value} {F:List Nat} (h:plainB p = true):R w U p v F ↔ v = pvV p ∧ F = []:=by
  cases p <;> simp_all [plainB,R,pvV]
theorem pvV_one (p:PV):(pvV p).oneCell' = true:=by cases p <;> rfl
theorem Rs_plain {w:World} {U:Nat → Prop}:∀ {ps:List PV} {vs:List Value} {F:List Nat},(∀ p,p ∈ ps → plainB p = true) → (Rs w U ps vs F ↔ vs = ps.map pvV ∧ F = [])
  | [],[],F,_ => by simp [Rs]
  | [],_ :: _,F,_ => by simp [Rs]
  | p :: ps,[],F,_ => by simp [Rs]
  | p :: ps,v :: vs,F,h => by
    simp only [Rs,List.map_cons,List.cons.injEq]
    constructor
    · rintro ⟨F1,F2,h1,h2,rfl⟩
      obtain ⟨rfl,rfl⟩:=(R_plain (h p (by simp))).1 h1
      obtain ⟨rfl,rfl⟩:=(Rs_plain (fun q hq => h q (by simp [hq]))).1 h2
      simp
    · rintro ⟨⟨rfl,rfl⟩,rfl⟩
      exact ⟨[],[],(R_plain (h p (by simp))).2 ⟨rfl,rfl⟩,(Rs_plain (fun q hq => h q (by simp [hq]))).2 ⟨rfl,rfl⟩,rfl⟩
theorem range_enc {α:Type} [Inhabited α] (enc:α → List Value) (k:Nat) (hk:∀ x,(enc x).length = k) (h0:0 < k):∀ l:List α,(List.range (l.length * k)).map (fun t => (enc l[t / k]!)[t % k]!) = l.flatMap enc
  | [] => by simp
  | x :: r => by
    have ih:=range_enc enc k hk h0 r
    rw [List.length_cons,Nat.succ_mul,Nat.add_comm,List.range_add,List.map_append,List.map_map,List.flatMap_cons,← ih]
    congr 1
    · apply List.ext_getElem
      · simp [hk]
      · intro j h1 h2
        have hj:j < k:=by simpa using h1
        simp only [List.getElem_map,List.getElem_range]
        rw [Nat.div_eq_of_lt hj,Nat.mod_eq_of_lt hj]
        simp [h2]
    · apply List.map_congr_left
      intro t _
      simp only [Function.comp_def]
      rw [Nat.add_div_left _ h0,Nat.add_mod_left]
      simp
theorem flatK_list {α:Type} [Inhabited α] (enc:α → List Value) (k:Nat) (hk:∀ x,(enc x).length = k) (h0:0 < k) (d:Array α):(flatK enc k d).toList = d.toList.flatMap enc:=by
  rw [← range_enc enc k hk h0]
  simp only [flatK,Array.toList_map,Array.toList_range,Array.length_toList]
  apply List.map_congr_left
  intro t _
  have e:d.toList[t / k]! = d[t / k]!:=Array.getElem!_toList
  rw [e]
theorem holdsI {w:World} {g:Nat} {cur:Array Value} {e:TypeId} {vs:List Value} (hb:w.heap[g]? = some (.cells cur e (0,0))) (ht:cur.toList.take vs.length = vs):Holds id w g 0 vs.toArray:=by
  intro j hj
  have hj':j < vs.length:=by simpa using hj
  refine ⟨?_,by simp [World.frozen?,hb]⟩
  have h1:(cur.toList.take vs.length)[j]? = vs[j]?:=by rw [ht]
  rw [List.getElem?_take_of_lt hj'] at h1
  simp only [World.cell?,hb,Nat.zero_add]
  simp only [Option.isSome_none,Bool.false_eq_true,if_false]
  rw [← Array.getElem?_toList,h1]
  simp [hj']
theorem heapI {w:World} {g n:Nat} {os:Array Obj} {cur:Array Value} {e:TypeId} {fr:Nat × Nat} (d:Array Value) (hb:w.heap[g]? = some (.cells cur e fr)) :
    (grow (putRow id (Sort.ahead w n) g 0 d) os).heap[g]? = some (.cells (putCells id 0 d cur) e fr):=by
  have hg:g < w.heap.size:=(Array.getElem?_eq_some_iff.1 hb).1
  rw [heap_grow_old _ _ (by simpa using hg)]
  simp [putRow,mapBlock,Sort.ahead,Array.getElem?_modify,hb,onCells]
theorem grownI {w:World} {g n:Nat} {os:Array Obj} (d:Array Value):GrownF w (grow (putRow id (Sort.ahead w n) g 0 d) os) [g]:=by
  refine ⟨rfl,⟨rfl,by simp [grow,putRow,mapBlock,Sort.ahead]⟩,rfl,by simp,fun k hk hne => ?_⟩
  rw [heap_grow_old _ _ (by simpa using hk)]
  have:g ≠ k:=fun e => hne (by rw [e]; simp)
  simp [putRow,mapBlock,Sort.ahead,Array.getElem?_modify,this]
theorem takeI (cur:Array Value) (ts:List Value) (h:ts.length ≤ cur.size):(putCells id 0 ts.toArray cur).toList.take ts.length = ts:=by
  apply List.ext_getElem?
  intro j
  by_cases hj:j < ts.length
  · rw [List.getElem?_take_of_lt hj,Array.getElem?_toList]
    simp [putCells,hj,show j < cur.size by omega]
  · rw [List.getElem?_take_eq_none (by omega),List.getElem?_eq_none (by omega)]
theorem cmpLays_of {P:Program} {g:Nat} {α:Type} [Cel α] [Inhabited α] (cf:α → α → Int) (hp:∀ x:α,∀ p,p ∈ cells x → plainB p = true)
    (hc:∀ x y:α,FnR P g [.agg (cells x),.agg (cells y)] (.v (.int .i64 (cf x y)))) (k blk off size:Nat) (w:World):CmpLays P g #[] (fun x:α => (cells x).map pvV) k cf blk off size w:=by
  intro m os dk _ x y
  generalize sortWorldK (fun x:α => (cells x).map pvV) k w blk off m dk os = W
  have h:=(hc x y).call W (fun _ => False) [.agg ((cells x).map pvV).toArray,.agg ((cells y).map pvV).toArray] [] ?_ (by simp) (fun _ h => h.elim) (by simp)
  · refine h.mono ?_
    rintro e w' ⟨v,Fr,Fo,rfl,hg,hr,_⟩
    simp only [CR,R] at hr
    obtain ⟨rfl,_⟩:=hr
    refine ⟨rfl,w'.drawn - W.drawn,w'.heap.extract W.heap.size w'.heap.size,?_⟩
    obtain ⟨h1,⟨h2,h3⟩,h4,h5,h6⟩:=hg
    have hh:w'.heap = W.heap ++ w'.heap.extract W.heap.size w'.heap.size:=by
      apply Array.ext_getElem?
      intro j
      by_cases hj:j < W.heap.size
      · rw [Array.getElem?_append_left hj]
        exact h6 j hj (by simp)
      · rw [Array.getElem?_append_right (by omega)]
        by_cases hj2:j < w'.heap.size
        · rw [Array.getElem?_extract]
          rw [if_pos (by omega)]
          congr 1; omega
        · rw [Array.getElem?_eq_none (by omega),Array.getElem?_eq_none (by simp; omega)]
    cases w'
    cases W
    simp only at h1 h2 h3 h4 hh
    subst h1; subst h2; subst h4
    simp only [grow,World.drewN]
    rw [← hh]
    congr 1
    try simp only at h3
    omega
  · simp only [CRs,CR]
    exact ⟨[],[],⟨_,rfl,(Rs_plain (hp x)).2 ⟨by simp,rfl⟩⟩,⟨[],[],⟨_,rfl,(Rs_plain (hp y)).2 ⟨by simp,rfl⟩⟩,rfl,rfl⟩,rfl⟩
theorem flat_plain {α:Type} [Cel α] (hp:∀ x:α,∀ p,p ∈ cells x → plainB p = true) {xs:List α}:∀ p,p ∈ flat xs → plainB p = true:=by
  intro p h
  unfold flat at h
  obtain ⟨x,_,hx⟩:=List.mem_flatMap.1 h
  exact hp x p hx
theorem flat_map {α:Type} [Cel α] (xs:List α):(flat xs).map pvV = xs.flatMap fun x => (cells x).map pvV:=by
  simp [flat,List.map_flatMap]
theorem flat_len {α:Type} [Cel α]:∀ (xs:List α),(flat xs).length = xs.length * Cel.k α
  | [] => by simp [flat]
  | x :: xs => by
    have:=flat_len xs
    rw [flat_cons,List.length_append,Cel.len,this,List.length_cons,Nat.succ_mul,Nat.add_comm]
theorem FnW_sortFunc {P:Program} {f g:Nat} {ety:Nat} {α:Type} [Cel α] [Inhabited α] (cf:α → α → Int) (hfin:FnIn P f) (h0:0 < Cel.k α)
    (hp:∀ x:α,∀ p,p ∈ cells x → plainB p = true)
    (hnone:∀ (p:Option Addr) (cap:Nat) (fv:Value) (w:World),Calls P f #[.slice p 0 cap,fv] w fun e w' => e = .returned (.tuple #[]) ∧ w' = w)
    (hsort:∀ (blk off cap:Nat) (d:Array α) (w:World),CmpLays P g #[] (fun x:α => (cells x).map pvV) (Cel.k α) cf blk off d.size w → HoldsK (fun x:α => (cells x).map pvV) (Cel.k α) w blk off d → blk < w.heap.size → d.size < 4611686018427387904 →
      Calls P f #[.slice (some ⟨blk,off,none⟩) d.size cap,.func (.func g) #[] #[]] w fun e w' =>
        e = .returned (.tuple #[]) ∧ ∃ d' n os,PermIn 0 d.size d d' ∧ SortedIn (ltOf cf) 0 d.size d' ∧ w' = sortWorldK (fun x:α => (cells x).map pvV) (Cel.k α) w blk off n d' os)
    (hc:∀ x y:α,FnR P g [.agg (cells x),.agg (cells y)] (.v (.int .i64 (cf x y))))
    (xs ys:List α) (hx:xs.length ≤ 1073741824) (hy:∀ zs:List α,zs.Perm xs → zs.Pairwise (fun a b => ltOf cf b a = false) → zs = ys) :
    FnW P f [.v (.ow ety (Cel.k α) xs.length (flat xs)),.fn g []] (.tup []) [.v (.ow ety (Cel.k α) ys.length (flat ys)),.any]:=by
  have henc:∀ x:α,((cells x).map pvV).length = Cel.k α:=fun x => by rw [List.length_map,Cel.len]
  refine ⟨hfin,fun w V vals F hargs hnd hV hF => ?_⟩
  match vals,hargs with
  | [v,fv],hargs =>
    simp only [CRs] at hargs
    obtain ⟨F1,F2,hR,⟨F3,F4,hfv,rfl,rfl⟩,rfl⟩:=hargs
    simp only [CR,CRs,R] at hR hfv
    obtain ⟨rfl,cx,rfl,hcx⟩:=hfv
    have hcx0:cx = #[]:=by
      cases h:cx.toList with
      | nil => simpa using h
      | cons a b => rw [h] at hcx; simp [CRs] at hcx
    subst hcx0
    obtain ⟨us,F',hown,hrs,rfl⟩:=hR
    obtain ⟨rfl,rfl⟩:=(Rs_plain (flat_plain hp)).1 hrs
    rcases hown.2 with ⟨rfl,hn⟩ | ⟨g0,cap,cur,rfl,hbase,hb,h1,h2,h3,h4⟩
    · have hx0:xs = []:=List.eq_nil_of_length_eq_zero hn
      subst hx0
      have hy0:ys = []:=(hy [] (List.Perm.refl _) List.Pairwise.nil).symm
      subst hy0
      refine (hnone none 0 _ w).mono ?_
      rintro e w' ⟨rfl,rfl⟩
      refine ⟨_,[],[],rfl,⟨rfl,Tp.refl _,rfl,Nat.le_refl _,fun _ _ _ => rfl⟩,by simp [CR,CRs],?_,by simp,by simp⟩
      simp only [CRs,CR,R]
      exact ⟨[],[],⟨_,[],hown,(Rs_plain (by simp [flat_nil])).2 ⟨rfl,rfl⟩,rfl⟩,⟨[],[],rfl,rfl,rfl⟩,rfl⟩
    · have hlen:((flat xs).map pvV).length = xs.length * Cel.k α:=by rw [List.length_map,flat_len]
      have hfk:flatK (fun x:α => (cells x).map pvV) (Cel.k α) xs.toArray = ((flat xs).map pvV).toArray:=by
        apply Array.ext'
        rw [flatK_list _ _ henc h0,flat_map]
      have hH:HoldsK (fun x:α => (cells x).map pvV) (Cel.k α) w g0 0 xs.toArray:=by
        unfold HoldsK
        rw [hfk]
        exact holdsI hb (by rw [hlen]; exact h4)
      have hgl:g0 < w.heap.size:=(Array.getElem?_eq_some_iff.1 hb).1
      have hcl:=hsort g0 0 cap xs.toArray w (cmpLays_of cf hp hc _ _ _ _ _) hH hgl (by simp; omega)
      simp only [List.size_toArray] at hcl
      refine hcl.mono ?_
      rintro e w' ⟨rfl,d',n,os,hperm,hsorted,rfl⟩
      have hz:d'.toList = ys:=by
        obtain ⟨q1,q2,q3⟩:=hperm
        simp only [List.size_toArray] at q1
        refine hy _ ?_ ?_
        · have e1:d'.extract 0 xs.length = d':=by rw [← q1]; exact Array.extract_size
          have e2:xs.toArray.extract 0 xs.length = xs.toArray:=by
            have:=Array.extract_size (xs:=xs.toArray)
            simp
          rw [e1,e2] at q3
          simpa using q3
        · rw [List.pairwise_iff_getElem]
          intro i j hi hj hij
          have:=hsorted i j (Nat.zero_le _) hij (by simp at hj; omega)
          simp only [Array.length_toList] at hi hj
          simpa [hi,hj] using this
      have hd':flatK (fun x:α => (cells x).map pvV) (Cel.k α) d' = ((flat ys).map pvV).toArray:=by
        apply Array.ext'
        rw [flatK_list _ _ henc h0,flat_map,hz]
      have hyl:ys.length = xs.length:=by rw [← hz,Array.length_toList]; simpa using hperm.1
      have hw:sortWorldK (fun x:α => (cells x).map pvV) (Cel.k α) w g0 0 n d' os = grow (putRow id (Sort.ahead w n) g0 0 ((flat ys).map pvV).toArray) os:=by
        unfold sortWorldK putRowK
        rw [hd']
      rw [hw]
      have hyn:((flat ys).map pvV).length = xs.length * Cel.k α:=by rw [List.length_map,flat_len,hyl]
      refine ⟨_,[],[g0],rfl,grownI _,by simp [CR,CRs],?_,by simp,?_⟩
      · simp only [CRs,CR,R]
        refine ⟨[g0],[],⟨(flat ys).map pvV,[],?_,(Rs_plain (flat_plain hp)).2 ⟨rfl,rfl⟩,by simp [Value.ownBlock]⟩,⟨[],[],rfl,rfl,rfl⟩,by simp⟩
        rw [hyl]
        refine ⟨hyn,.inr ⟨g0,cap,_,rfl,hbase,heapI _ hb,h1,h2,by simp [putCells,h3],?_⟩⟩
        rw [← hyn]
        exact takeI cur _ (by rw [hyn,h3]; exact Nat.mul_le_mul_right _ h1)
      · intro k hk
        simp only [List.nil_append,List.mem_singleton] at hk
        subst hk
        exact ⟨Nat.lt_of_lt_of_le hgl (grownI (w:=w) (g:=k) (n:=n) (os:=os) ((flat ys).map pvV).toArray).size,.inr (by simp [Value.ownBlock])⟩
  | [],h => simp [CRs] at h
  | [_],h =>
    simp only [CRs] at h
    obtain ⟨F1,F2,_,h2,_⟩:=h
    exact h2.elim
  | _ :: _ :: _ :: _,h =>
    simp only [CRs] at h
    obtain ⟨F1,F2,_,⟨_,_,_,h2,_⟩,_⟩:=h
    exact h2.elim
end Am
