/- The machine in which the walks are done: sound against the model. No condition. -/
import Derived.Test.YtjbbhccphedkfaaGreatL0
import Derived.MapFrom
import Derived.MapKept
import Derived.ChangeMaps4
import Derived.Laws.IdiomStrings
set_option linter.unusedSimpArgs false
set_option linter.unusedVariables false
set_option linter.unnecessarySimpa false
set_option linter.unusedSectionVars false
namespace Am
open Go
structure Ent where
  name:Nat
  ob:AObj
  keep:List Nat
  piece:List Nat
  fp:List Nat
def bkOf (L:List Ent):List (Nat × AObj):=L.map fun e => (e.name,e.ob)
structure EntOk (C:Ctx) (σ:AEnv) (w:World) (ι:Nat → Value) (Fs:Nat → List Nat) (F:List Nat) (w':World) (U':Nat → Prop) (e:Ent):Prop where
  there:σ.o e.name ≠ .none
  keepIn:∀ k,k ∈ e.keep → k ∈ Fs e.name
  keepF:∀ k,k ∈ e.keep → k ∉ F
  keepNd:e.keep.Nodup
  perm:e.fp.Perm (e.keep ++ e.piece)
  kind:e.ob = .dead ∨ (∃ cs cs',σ.o e.name = .box cs ∧ e.ob = .box cs') ∨ (∃ g ety esz n cs g' ety' esz' n' cs',σ.o e.name = .arr g ety esz n cs ∧ e.ob = .arr g' ety' esz' n' cs' ∧ g ≤ g' ∧
      (g = g' → ∀ off,isOw cs' off → isOw cs off ∧ ∀ b,(ι e.name).ownBlock = some b → w'.cell? ⟨b,off,none⟩ = w.cell? ⟨b,off,none⟩))
  ob:∀ (U'':Nat → Prop) (O'':Nat → AObj),(∀ k,U' k → U'' k) → (∀ k,Un C w Fs k → U'' k) → ObR w' U'' O'' ι e.ob (ι e.name) e.fp
section
variable {P:Program} {T:Ty} {C:Ctx} {σ:AEnv} {a:Act} {w w':World} {ι:Nat → Value} {Fs:Nat → List Nat} {τ:Nat → AObj}
theorem bk_o:∀ {L:List Ent},(L.map Ent.name).Nodup → ∀ e,e ∈ L → (AEnv.wr (bkOf L) σ).o e.name = e.ob
  | [],_,e,h => by cases h
  | x :: L,hn,e,h => by
    simp only [List.map_cons,List.nodup_cons] at hn
    simp only [bkOf,List.map_cons,AEnv.wr,AEnv.upd]
    rcases List.mem_cons.1 h with rfl | h
    · rw [if_pos rfl]
    · rw [if_neg (fun e' => hn.1 (by rw [← e']; exact List.mem_map_of_mem h))]
      exact bk_o hn.2 e h
theorem bk_other {L:List Ent} {x:Nat} (h:x ∉ L.map Ent.name):(AEnv.wr (bkOf L) σ).o x = σ.o x :=
  wr_o_other (fun k ob hm e => by
    subst e
    obtain ⟨en,h1,h2⟩:=List.mem_map.1 hm
    cases h2
    exact h (List.mem_map_of_mem h1))
theorem find_name {L:List Ent} (hn:(L.map Ent.name).Nodup) {e:Ent} (he:e ∈ L):L.find? (fun x => x.name == e.name) = some e:=by
  induction L with
  | nil => cases he
  | cons x L ih =>
    simp only [List.map_cons,List.nodup_cons] at hn
    rcases List.mem_cons.1 he with rfl | he
    · simp
    · rw [List.find?_cons_of_neg]
      · exact ih hn.2 he
      · intro hx
        have:x.name = e.name:=by simpa using hx
        exact hn.1 (by rw [this]; exact List.mem_map_of_mem he)
theorem find_none' {L:List Ent} {o:Nat} (h:o ∉ L.map Ent.name):L.find? (fun x => x.name == o) = none:=by
  rw [List.find?_eq_none]
  intro x hx hxo
  have:x.name = o:=by simpa using hxo
  exact h (by rw [← this]; exact List.mem_map_of_mem hx)
theorem piece_nodup:∀ {L:List Ent},(L.flatMap Ent.piece).Nodup → ∀ e,e ∈ L → e.piece.Nodup
  | [],_,e,he => by cases he
  | y :: L,h,e,he => by
    simp only [List.flatMap_cons,List.nodup_append] at h
    rcases List.mem_cons.1 he with rfl | he
    · exact h.1
    · exact piece_nodup h.2.1 e he
theorem piece_disj:∀ {L:List Ent},(L.flatMap Ent.piece).Nodup → ∀ e1 e2,e1 ∈ L → e2 ∈ L → e1.name ≠ e2.name → ∀ k,k ∈ e1.piece → k ∉ e2.piece
  | [],_,e1,_,he1,_,_,_,_ => by cases he1
  | y :: L,h,e1,e2,he1,he2,hne,k,h1 => fun h2 => by
    simp only [List.flatMap_cons,List.nodup_append] at h
    rcases List.mem_cons.1 he1 with hm1 | hm1 <;> rcases List.mem_cons.1 he2 with hm2 | hm2
    · exact hne (by rw [hm1,hm2])
    · subst hm1; exact h.2.2 k h1 k (List.mem_flatMap.2 ⟨e2,hm2,h2⟩) rfl
    · subst hm2; exact h.2.2 k h2 k (List.mem_flatMap.2 ⟨e1,hm1,h1⟩) rfl
    · exact piece_disj h.2.1 e1 e2 hm1 hm2 hne k h1 h2
theorem Sim.handed (h:Sim C σ a w ι Fs) {F:List Nat} (hg:GrownF w w' F) {L:List Ent} {G:List Nat} {g:Nat} {U':Nat → Prop} (hgn:σ.o g = .none) (hLn:(L.map Ent.name).Nodup)
    (hF:∀ k,k ∈ F → ∃ e,e ∈ L ∧ k ∈ Fs e.name) (hok:∀ e,e ∈ L → EntOk C σ w ι Fs F w' U' e) (hnd:(G ++ L.flatMap Ent.piece).Nodup)
    (hfr:∀ k,k ∈ G ++ L.flatMap Ent.piece → k < w'.heap.size ∧ (w.heap.size ≤ k ∨ k ∈ F))
    (hU':∀ k,U' k → k < w'.heap.size ∧ (Un C w Fs k ∨ w.heap.size ≤ k ∨ k ∈ F) ∧ k ∉ G ++ L.flatMap Ent.piece) :
    ∃ Fs',Sim C (AEnv.wr (bkOf L) σ) a w' ι Fs' ∧ Fs' g = G ∧ (∀ k,U' k → Un C w' Fs' k) ∧ (∀ k,Un C w Fs k → Un C w' Fs' k) ∧ Later w w' (Un C w Fs) (Un C w' Fs') σ.o (AEnv.wr (bkOf L) σ).o ι ι ∧ (∀ e,e ∈ L → Fs' e.name = e.fp):=by
  let Fs':Nat → List Nat:=fun o => if o = g then G else match L.find? (fun x => x.name == o) with | some e => e.fp | none => Fs o
  have hgL:g ∉ L.map Ent.name:=fun hm => by
    obtain ⟨e,h1,h2⟩:=List.mem_map.1 hm
    exact (hok e h1).there (by rw [h2]; exact hgn)
  have hFg:Fs' g = G:=if_pos rfl
  have hFe:∀ e,e ∈ L → Fs' e.name = e.fp:=fun e he => by
    have hne:e.name ≠ g:=fun e' => hgL (e' ▸ List.mem_map_of_mem he)
    show (if e.name = g then G else _) = _
    rw [if_neg hne,find_name hLn he]
  have hFo:∀ o,o ≠ g → o ∉ L.map Ent.name → Fs' o = Fs o:=fun o h1 h2 => by
    show (if o = g then G else _) = _
    rw [if_neg h1,find_none' h2]
  have hpiece:∀ e,e ∈ L → ∀ k,k ∈ e.piece → k ∈ G ++ L.flatMap Ent.piece:=fun e he k hk => List.mem_append_right _ (List.mem_flatMap.2 ⟨e,he,hk⟩)
  have hin:∀ o k,k ∈ Fs' o → (k ∈ Fs o ∧ k ∉ F ∧ (o ≠ g)) ∨ k ∈ G ++ L.flatMap Ent.piece:=fun o k hk => by
    by_cases h1:o = g
    · subst h1; rw [hFg] at hk; exact .inr (List.mem_append_left _ hk)
    · by_cases h2:o ∈ L.map Ent.name
      · obtain ⟨e,he,rfl⟩:=List.mem_map.1 h2
        rw [hFe e he] at hk
        replace hk:=(hok e he).perm.mem_iff.1 hk
        rcases List.mem_append.1 hk with hk | hk
        · exact .inl ⟨(hok e he).keepIn k hk,(hok e he).keepF k hk,h1⟩
        · exact .inr (hpiece e he k hk)
      · rw [hFo o h1 h2] at hk
        refine .inl ⟨hk,fun hkF => ?_,h1⟩
        obtain ⟨e,he,hke⟩:=hF k hkF
        exact h.dis o e.name (fun e' => h2 (e' ▸ List.mem_map_of_mem he)) k hk hke
  have hUn:∀ k,Un C w Fs k → Un C w' Fs' k:=fun k hk => ⟨Nat.lt_of_lt_of_le hk.1 hg.size,hk.2.1,fun o ho => by
    rcases hin o k ho with ⟨h1,_⟩ | h1
    · exact hk.2.2 o h1
    · rcases (hfr k h1).2 with h2 | h2
      · have:=hk.1; omega
      · obtain ⟨e,_,he⟩:=hF k h2
        exact hk.2.2 e.name he⟩
  have hUU:∀ k,U' k → Un C w' Fs' k:=fun k hk => by
    obtain ⟨h1,h2,h3⟩:=hU' k hk
    refine ⟨h1,?_,fun o ho => ?_⟩
    · rcases h2 with h2 | h2 | h2
      · exact h2.2.1
      · exact .inr (.inr (Nat.le_trans h.kept.size h2))
      · obtain ⟨e,_,he⟩:=hF k h2
        rcases (h.own e.name k he).2 with h4 | h4
        · exact .inr (.inr h4)
        · exact .inr (.inl h4)
    · rcases hin o k ho with ⟨h4,h5,_⟩ | h4
      · rcases h2 with h2 | h2 | h2
        · exact h2.2.2 o h4
        · have:=(h.own o k h4).1; omega
        · exact h5 h2
      · exact h3 h4
  have hX:∀ o,o ∈ L.map Ent.name → ∃ e,e ∈ L ∧ o = e.name:=fun o ho => by obtain ⟨e,h1,h2⟩:=List.mem_map.1 ho; exact ⟨e,h1,h2.symm⟩
  have M:Move C σ.o (AEnv.wr (bkOf L) σ).o w w' ι ι Fs Fs' (fun o => o = g ∨ o ∈ L.map Ent.name):=by
    refine ⟨hg.os,hg.tape,hg.output,hg.size,fun k hk hX' => hg.block k hk (fun hkF => ?_),fun o hX' => ?_,fun o hX' => ?_,fun o hX' => ?_,fun o hX' => ?_,fun o hX' k hk => ?_,fun o o' hX1 hX2 hne k hk hk' => ?_⟩
    · obtain ⟨e,he,hke⟩:=hF k hkF
      exact hX' e.name (.inr (List.mem_map_of_mem he)) hke
    · have h1:o ≠ g:=fun e => hX' (.inl e)
      have h2:o ∉ L.map Ent.name:=fun e => hX' (.inr e)
      exact ⟨bk_other h2,rfl,hFo o h1 h2⟩
    · rcases hX' with rfl | hX'
      · exact .inl hgn
      · obtain ⟨e,he,rfl⟩:=hX o hX'
        rcases (hok e he).kind with h1 | ⟨cs,cs',h1,h2⟩ | ⟨g1,e1,s1,n1,c1,g2,e2,s2,n2,c2,h1,h2,h3,h4⟩
        · exact .inr (.inl (by rw [bk_o hLn e he,h1]))
        · exact .inr (.inr (.inl ⟨cs,cs',h1,by rw [bk_o hLn e he,h2],rfl⟩))
        · exact .inr (.inr (.inr (.inl ⟨g1,e1,s1,n1,c1,g2,e2,s2,n2,c2,h1,by rw [bk_o hLn e he,h2],rfl,h3,h4⟩)))
    · rcases hX' with rfl | hX'
      · rw [bk_other hgL,hgn]; exact trivial
      · obtain ⟨e,he,rfl⟩:=hX o hX'
        rw [bk_o hLn e he,hFe e he]
        exact (hok e he).ob _ _ hUU hUn
    · rcases hX' with rfl | hX'
      · rw [hFg]; exact (List.nodup_append.1 hnd).1
      · obtain ⟨e,he,rfl⟩:=hX o hX'
        rw [hFe e he,(hok e he).perm.nodup_iff,List.nodup_append]
        refine ⟨(hok e he).keepNd,?_,fun x hx y hy hxy => ?_⟩
        · exact piece_nodup (List.nodup_append.1 hnd).2.1 e he
        · subst hxy
          rcases (hfr x (hpiece e he x hy)).2 with h4 | h4
          · have:=(h.own _ x ((hok e he).keepIn x hx)).1; omega
          · exact (hok e he).keepF x hx h4
    · rcases hin o k hk with ⟨h1,h2,h3⟩ | h1
      · exact ⟨Nat.lt_of_lt_of_le (h.own o k h1).1 hg.size,.inr ⟨o,hX',h1⟩⟩
      · refine ⟨(hfr k h1).1,?_⟩
        rcases (hfr k h1).2 with h4 | h4
        · exact .inl h4
        · obtain ⟨e,he,hke⟩:=hF k h4
          exact .inr ⟨e.name,.inr (List.mem_map_of_mem he),hke⟩
    · -- two of them share nothing
      have key:∀ e1 e2,e1 ∈ L → e2 ∈ L → e1.name ≠ e2.name → ∀ k,k ∈ e1.keep ++ e1.piece → k ∉ e2.keep ++ e2.piece:=by
        intro e1 e2 he1 he2 hne k hk hk'
        rcases List.mem_append.1 hk with h1 | h1 <;> rcases List.mem_append.1 hk' with h2 | h2
        · exact h.dis _ _ hne k ((hok e1 he1).keepIn k h1) ((hok e2 he2).keepIn k h2)
        · rcases (hfr k (hpiece e2 he2 k h2)).2 with h4 | h4
          · have:=(h.own _ k ((hok e1 he1).keepIn k h1)).1; omega
          · exact (hok e1 he1).keepF k h1 h4
        · rcases (hfr k (hpiece e1 he1 k h1)).2 with h4 | h4
          · have:=(h.own _ k ((hok e2 he2).keepIn k h2)).1; omega
          · exact (hok e2 he2).keepF k h2 h4
        · exact piece_disj (List.nodup_append.1 hnd).2.1 e1 e2 he1 he2 hne k h1 h2
      have keyg:∀ e,e ∈ L → ∀ k,k ∈ G → k ∉ e.keep ++ e.piece:=by
        intro e he k hk hk'
        rcases List.mem_append.1 hk' with h2 | h2
        · rcases (hfr k (List.mem_append_left _ hk)).2 with h4 | h4
          · have:=(h.own _ k ((hok e he).keepIn k h2)).1; omega
          · exact (hok e he).keepF k h2 h4
        · exact (List.nodup_append.1 hnd).2.2 k hk k (List.mem_flatMap.2 ⟨e,he,h2⟩) rfl
      rcases hX1 with rfl | hX1
      · rcases hX2 with rfl | hX2
        · exact hne rfl
        · obtain ⟨e,he,rfl⟩:=hX o' hX2
          rw [hFg] at hk; rw [hFe e he] at hk'
          replace hk':=(hok e he).perm.mem_iff.1 hk'
          exact keyg e he k hk hk'
      · obtain ⟨e1,he1,rfl⟩:=hX o hX1
        rw [hFe e1 he1] at hk
        replace hk:=(hok e1 he1).perm.mem_iff.1 hk
        rcases hX2 with rfl | hX2
        · rw [hFg] at hk'; exact keyg e1 he1 k hk' hk
        · obtain ⟨e2,he2,rfl⟩:=hX o' hX2
          rw [hFe e2 he2] at hk'
          replace hk':=(hok e2 he2).perm.mem_iff.1 hk'
          exact key e1 e2 he1 he2 hne k hk hk'
  refine ⟨Fs',?_,hFg,hUU,hUn,h.later M,hFe⟩
  have e1:AEnv.wr (bkOf L) σ = ⟨σ.t,(AEnv.wr (bkOf L) σ).o⟩:=AEnv.eqv (wr_t' _ _) rfl
  rw [e1]
  exact h.move M
theorem Sim.refine (h:Sim C σ a w ι Fs) {b:Nat} {cs cs':List AV} (ho:σ.o b = .box cs) (hr:∀ k vals ty,ι b = .pointer (some ⟨k,0,none⟩) → w.heap[k]? = some (.cells vals ty (0,0)) → ARs w (Un C w Fs) σ.o ι cs' vals.toList) :
    Sim C (σ.upd b (.box cs')) a w ι Fs:=by
  have hob:=h.ob b
  rw [ho] at hob
  obtain ⟨k,vals,ty,h1,h2,h3,h4,h5⟩:=hob
  have M:Move C σ.o (σ.upd b (.box cs')).o w w ι ι Fs Fs (· = b):=by
    have hO:∀ x,(σ.upd b (.box cs')).o x = if x = b then .box cs' else σ.o x:=fun x => rfl
    have hL:Later w w (Un C w Fs) (Un C w Fs) σ.o (σ.upd b (.box cs')).o ι ι:=⟨fun _ hk => hk,fun _ _ => rfl,fun o => by
      by_cases e:o = b
      · subst e; exact .inr (.inr (.inl ⟨cs,cs',ho,by rw [hO,if_pos rfl],rfl⟩))
      · have:=(Later.refl h).name o
        rw [hO,if_neg e]; exact this⟩
    refine ⟨rfl,Tp.refl _,rfl,Nat.le_refl _,fun _ _ _ => rfl,fun o hX => ⟨by rw [hO,if_neg hX],rfl,rfl⟩,fun o hX => ?_,fun o hX => ?_,fun o hX => h.nd o,fun o hX y hy => ⟨(h.own o y hy).1,.inr ⟨o,hX,hy⟩⟩,fun o o' hX hX' hne => absurd (hX.trans hX'.symm) hne⟩
    · subst hX; exact .inr (.inr (.inl ⟨cs,cs',ho,by rw [hO,if_pos rfl],rfl⟩))
    · subst hX; rw [hO,if_pos rfl]
      exact ⟨k,vals,ty,h1,h2,ARs_later hL _ _ (hr k vals ty h1 h2),h4,h5⟩
  have:=h.move M
  exact this
end
end Am
namespace Am
open Go
inductive LM where
  | view
  | lend
  | box (toks:List Nat)
  deriving Inhabited
def lendCell (O:Nat → AObj):AV → Option (PV × List Nat)
  | .c p => if isFree p = true then some (p,[]) else none
  | .nil => some (.im 0 [],[])
  | .arr o => match O o with
    | .arr _ e s n cs => some (.ow e s n cs,[o])
    | _ => none
  | .inr o g off => match O o with
    | .arr g' _ _ _ cs => if g = g' then match cs[off]? with
      | some (.ow e s n c) => some (.ow e s n c,[o])
      | _ => none
      else none
    | _ => none
  | _ => none
def lendCells (O:Nat → AObj):List AV → Option (List PV × List Nat)
  | [] => some ([],[])
  | x :: xs => match lendCell O x,lendCells O xs with
    | some (p,l),some (ps,ls) => some (p :: ps,l ++ ls)
    | _,_ => none
def boxCells (us:Nat → Value) (toks:List Nat) (O:Nat → AObj):Nat → List AV → Option (List PV × List Nat)
  | _,[] => some ([],[])
  | j,x :: xs => match (if toks.contains j then some (PV.tk (us j),[]) else toPV O x),boxCells us toks O (j + 1) xs with
    | some (p,l),some (ps,ls) => some (p :: ps,l ++ ls)
    | _,_ => none
def argL (O:Nat → AObj):LM → AV → Option (CV × List Nat × List Nat)
  | .view,x => match argView O x with
    | some (c,b) => some (c,b,[])
    | none => none
  | .lend,.agg cs => match lendCells O cs with
    | some (ps,l) => some (.agg ps,[],l)
    | none => none
  | .lend,x => match lendCell O x with
    | some (p,l) => some (.v p,[],l)
    | none => none
  | _,_ => none
def argsL1 (O:Nat → AObj):List LM → List AV → Option (List CV × List Nat × List Nat)
  | _,[] => some ([],[],[])
  | ms,x :: xs => match argL O (ms.headD .view) x,argsL1 O ms.tail xs with
    | some (c,b,l),some (cs,bs,ls) => some (c :: cs,b ++ bs,l ++ ls)
    | _,_ => none
def argsL (us:Nat → Value) (O:Nat → AObj):List LM → List AV → Option (List CV × List Nat × List Nat)
  | .box toks :: ms,.box o 0 :: xs => match O o with
    | .box cs => match boxCells us toks O 0 cs,argsL1 O ms xs with
      | some (ps,l),some (cs,bs,ls) => some (.ptr ps :: cs,bs,o :: l ++ ls)
      | _,_ => none
    | _ => none
  | ms,xs => argsL1 O ms xs
def inPV:PV → PV
  | .ow e s n cs => .ow e s n cs
  | _ => .any
def backCell (O:Nat → AObj):AV → PV → List (Nat × AObj)
  | .arr o,.ow e s n cs => match O o with
    | .arr g _ _ _ _ => [(o,.arr (g + 1) e s n cs)]
    | _ => []
  | .arr o,_ => [(o,.dead)]
  | .inr o _ off,p => match O o with
    | .arr g e s n cs => [(o,.arr g e s n (cs.set off (inPV p)))]
    | _ => []
  | _,_ => []
def backCells (O:Nat → AObj):List AV → List PV → List (Nat × AObj)
  | x :: xs,p :: ps => backCell O x p ++ backCells O xs ps
  | _,_ => []
def deadBox (toks:List Nat):Nat → List AV → List (Nat × AObj)
  | _,[] => []
  | j,x :: xs => (match toks.contains j,x with
    | false,.arr o => [(o,AObj.dead)]
    | _,_ => []) ++ deadBox toks (j + 1) xs
def argBack (O:Nat → AObj):LM → AV → CV → Option (List (Nat × AObj))
  | .view,_,.any => some []
  | .lend,.agg cs,.agg ps => if ps.length = cs.length then some (backCells O cs ps) else none
  | .lend,.agg cs,.any => some (backCells O cs (cs.map fun _ => .any))
  | .lend,.agg _,_ => none
  | .lend,x,.v p => some (backCell O x p)
  | .lend,x,.any => some (backCell O x .any)
  | _,_,_ => none
def argsBack1 (O:Nat → AObj):List LM → List AV → List CV → Option (List (Nat × AObj))
  | _,[],[] => some []
  | ms,x :: xs,c :: cs => match argBack O (ms.headD .view) x c,argsBack1 O ms.tail xs cs with
    | some b,some bs => some (b ++ bs)
    | _,_ => none
  | _,_,_ => none
def boxNew (toks:List Nat) (k:Nat):Nat → List AV → List PV → List AV × List (Nat × AObj)
  | j,x :: xs,p :: ps => match toks.contains j with
    | true => (x :: (boxNew toks k (j + 1) xs ps).1,(boxNew toks k (j + 1) xs ps).2)
    | false => ((impCell true (k + j) p).1 :: (boxNew toks k (j + 1) xs ps).1,(impCell true (k + j) p).2 ++ (boxNew toks k (j + 1) xs ps).2)
  | _,_,_ => ([],[])
def argsBack (O:Nat → AObj) (k:Nat):List LM → List AV → List CV → Option (List (Nat × AObj) × List (Nat × AObj))
  | .box toks :: ms,.box o 0 :: xs,.ptr ps :: cs => match O o with
    | .box bs => match argsBack1 O ms xs cs with
      | some r => if ps.length = bs.length ∧ bs.length ≤ 20 then some (((o,.box (bs.map fun _ => .any)) :: deadBox toks 0 bs) ++ r,(o,.box (boxNew toks k 0 bs ps).1) :: (boxNew toks k 0 bs ps).2) else none
      | none => none
    | _ => none
  | .box _ :: _,_,_ => none
  | ms,xs,cs => match argsBack1 O ms xs cs with
    | some r => some (r,[])
    | none => none
section
variable {P:Program} {T:Ty} {C:Ctx} {σ:AEnv} {a:Act} {w w':World} {ι:Nat → Value} {Fs:Nat → List Nat} {τ:Nat → AObj}
theorem Rs_at2 {U:Nat → Prop}:∀ {ps:List PV} {vs:List Value} {F:List Nat} {j:Nat} {p:PV},Rs w U ps vs F → ps[j]? = some p →
    ∃ v F1 F2 F3,vs[j]? = some v ∧ R w U p v F2 ∧ F = F1 ++ F2 ++ F3 ∧ (∀ (w':World) (U':Nat → Prop) (q:PV) (G:List Nat),(∀ k,U k → U' k) → (∀ k,U k → w'.heap[k]? = w.heap[k]?) → (∀ k,k ∈ F1 ++ F3 → w'.heap[k]? = w.heap[k]?) →
      R w' U' q v G → Rs w' U' (ps.set j q) vs (F1 ++ G ++ F3))
  | [],_,_,j,p,_,h => by simp at h
  | q :: ps,[],_,_,_,h,_ => by simp only [Rs] at h
  | q :: ps,v :: vs,F,j,p,h,hp => by
    simp only [Rs] at h
    obtain ⟨G1,G2,h1,h2,rfl⟩:=h
    cases j with
    | zero =>
      simp at hp
      subst hp
      refine ⟨v,[],G1,G2,rfl,h1,by simp,fun w' U' r G hU hh hk hr => ?_⟩
      simp only [List.set_cons_zero,Rs]
      exact ⟨G,G2,hr,Rs_mono hU hh _ _ _ h2 (fun k hk' => hk k (by simp [hk'])),by simp⟩
    | succ j =>
      obtain ⟨u,F1,F2,F3,e1,e2,rfl,e3⟩:=Rs_at2 h2 (by simpa using hp)
      refine ⟨u,G1 ++ F1,F2,F3,by simpa using e1,e2,by simp,fun w' U' r G hU hh hk hr => ?_⟩
      simp only [List.set_cons_succ,Rs]
      exact ⟨G1,F1 ++ G ++ F3,R_mono hU hh _ _ _ h1 (fun k hk' => hk k (by simp [hk'])),e3 w' U' r G hU hh (fun k hk' => hk k (by simp only [List.mem_append] at hk' ⊢; rcases hk' with h | h; exact .inl (.inr h); exact .inr h)) hr,by simp⟩
def Back1 (C:Ctx) (σ:AEnv) (w:World) (ι:Nat → Value) (Fs:Nat → List Nat) (l:List Nat) (w':World) (U':Nat → Prop) (Fall:List Nat) (bk:List (Nat × AObj)) (Fo:List Nat):Prop :=
  ∃ L G,bkOf L = bk ∧ L.map Ent.name = l ∧ (L.flatMap Ent.piece ++ G).Perm Fo ∧ ∀ e,e ∈ L → EntOk C σ w ι Fs Fall w' U' e
theorem Back1.nil {w':World} {U':Nat → Prop} {Fall Fo:List Nat}:Back1 C σ w ι Fs [] w' U' Fall [] Fo:=⟨[],Fo,rfl,rfl,by simp,by simp⟩
theorem perm4 {A B A' B' X Y:List Nat} (h1:(A ++ B).Perm X) (h2:(A' ++ B').Perm Y):((A ++ A') ++ (B ++ B')).Perm (X ++ Y):=by
  have e:((A ++ A') ++ (B ++ B')).Perm ((A ++ B) ++ (A' ++ B')):=by
    rw [List.append_assoc,List.append_assoc]
    refine List.Perm.append_left A ?_
    rw [← List.append_assoc,← List.append_assoc]
    exact List.Perm.append_right B' List.perm_append_comm
  exact e.trans (h1.append h2)
theorem Back1.app {w':World} {U':Nat → Prop} {Fall:List Nat} {l1 l2:List Nat} {b1 b2:List (Nat × AObj)} {F1 F2:List Nat} (h1:Back1 C σ w ι Fs l1 w' U' Fall b1 F1) (h2:Back1 C σ w ι Fs l2 w' U' Fall b2 F2) :
    Back1 C σ w ι Fs (l1 ++ l2) w' U' Fall (b1 ++ b2) (F1 ++ F2):=by
  obtain ⟨L1,G1,r1,r2,r3,r4⟩:=h1
  obtain ⟨L2,G2,s1,s2,s3,s4⟩:=h2
  refine ⟨L1 ++ L2,G1 ++ G2,by simp [bkOf] at r1 s1 ⊢; rw [r1,s1],by simp [r2,s2],?_,fun e he => ?_⟩
  · rw [List.flatMap_append]; exact perm4 r3 s3
  · rcases List.mem_append.1 he with he | he
    · exact r4 e he
    · exact s4 e he
theorem lendCell_R (h:Sim C σ a w ι Fs) (ha:Agr σ.o τ) {x:AV} {v:Value} {p:PV} {l:List Nat} (hx:AR w (Un C w Fs) σ.o ι x v) (hc:lendCell τ x = some (p,l)) :
    ∃ F,R w (Un C w Fs) p v F ∧ F.Nodup ∧ (∀ k,k ∈ F → ∃ o,o ∈ l ∧ k ∈ Fs o) ∧ (∀ o,o ∈ l → σ.o o ≠ .none) ∧
      ∀ (w':World) (U':Nat → Prop) (Fall:List Nat) (q:PV) (Fo:List Nat),GrownF w w' Fall → (∀ k,Un C w Fs k → k ∉ Fall) → (∀ o,o ∈ l → ∀ k,k ∈ Fs o → k ∈ Fall → k ∈ F) → R w' U' q v Fo → Back1 C σ w ι Fs l w' U' Fall (backCell τ x q) Fo:=by
  unfold lendCell at hc
  split at hc
  · split at hc
    · cases hc
      exact ⟨[],AR_c.1 hx,by simp,by simp,by simp,fun w' U' Fall q Fo _ _ _ _ => by simp only [backCell]; exact Back1.nil⟩
    · cases hc
  · cases hc
    simp only [AR] at hx
    subst hx
    exact ⟨[],by simp [R],by simp,by simp,by simp,fun w' U' Fall q Fo _ _ _ _ => by simp only [backCell]; exact Back1.nil⟩
  · rename_i o
    split at hc
    · rename_i g1 e1 s1 n1 cs hτ
      cases hc
      obtain ⟨ho,hv⟩:=agr_arr ha hx hτ
      have hob:=h.ob o
      rw [ho] at hob
      obtain ⟨xs,F',hown,hr,hF⟩:=hob
      subst hv
      refine ⟨Fs o,by simp only [R]; exact ⟨xs,F',hown,hr,hF⟩,h.nd o,fun k hk => ⟨o,by simp,hk⟩,by intro y hy; simp at hy; subst hy; rw [ho]; simp,fun w' U' Fall q Fo hg hUF hin hR => ?_⟩
      by_cases hq:∃ e s n c,q = .ow e s n c
      · obtain ⟨e,s,n,c,rfl⟩:=hq
        refine ⟨[⟨o,.arr (g1 + 1) e s n c,[],Fo,Fo⟩],[],by simp [bkOf,backCell,hτ],rfl,by simp,fun en hen => ?_⟩
        simp at hen
        subst hen
        refine ⟨by rw [ho]; simp,by simp,by simp,by simp,by simp,.inr (.inr ⟨_,_,_,_,_,_,_,_,_,_,ho,rfl,by omega,fun hgg => by omega⟩),fun U'' O'' h1 h2 => ?_⟩
        simp only [R] at hR
        obtain ⟨ys,G,q1,q2,q3⟩:=hR
        exact ⟨ys,G,q1,Rs_mono h1 (fun _ _ => rfl) _ _ _ q2 (fun _ _ => rfl),q3⟩
      · refine ⟨[⟨o,.dead,[],[],[]⟩],Fo,?_,rfl,by simp,fun en hen => ?_⟩
        · cases q <;> first | rfl | exact absurd ⟨_,_,_,_,rfl⟩ hq
        · simp at hen
          subst hen
          exact ⟨by rw [ho]; simp,by simp,by simp,by simp,by simp,.inl rfl,fun U'' O'' h1 h2 => by simp only [ObR]⟩
    · cases hc
  · rename_i o gq off
    split at hc
    · rename_i g1 e1 s1 n1 cs hτ
      by_cases hgg:¬ gq = g1
      · rw [if_neg hgg] at hc; cases hc
      have hgg:=Decidable.not_not.1 hgg
      rw [if_pos hgg] at hc
      split at hc
      · rename_i e2 s2 n2 c2 hcs
        cases hc
        obtain ⟨ho,hv⟩:=agr_inr ha hx hτ
        obtain ⟨k,hk,hcell⟩:=hv hgg ⟨_,_,_,_,hcs⟩
        obtain ⟨xs,F',hown,hm,hr,hF⟩:=arr_mem h ho hk
        obtain ⟨u,F1,F2,F3,hu,hur,rfl,hset⟩:=Rs_at2 hr hcs
        have:=hm off u hu
        rw [Nat.zero_add,hcell] at this
        cases this
        have hnd:=h.nd o
        rw [hF,List.nodup_cons] at hnd
        have hnd2:=List.nodup_append.1 hnd.2
        have hnd3:=List.nodup_append.1 hnd2.1
        refine ⟨F2,hur,hnd3.2.1,fun y hy => ⟨o,by simp,by rw [hF]; simp [hy]⟩,by intro y hy; simp at hy; subst hy; rw [ho]; simp,fun w' U' Fall q Fo hg hUF hin hR => ?_⟩
        have hk13:∀ y,y ∈ k :: (F1 ++ F3) → y ∉ Fall:=fun y hy hyF => by
          have h1:=hin o (by simp) y (by
            rw [hF]; simp only [List.mem_cons,List.mem_append] at hy ⊢
            rcases hy with hy | hy | hy
            · exact .inl hy
            · exact .inr (.inl (.inl hy))
            · exact .inr (.inr hy)) hyF
          simp only [List.mem_cons,List.mem_append] at hy
          rcases hy with hy | hy | hy
          · subst hy; exact hnd.1 (by simp [h1])
          · exact hnd3.2.2 y hy y h1 rfl
          · exact hnd2.2.2 y (by simp [h1]) y hy rfl
        have hsame:∀ y,y ∈ k :: (F1 ++ F3) → w'.heap[y]? = w.heap[y]?:=fun y hy => hg.block y (h.own o y (by
            rw [hF]; simp only [List.mem_cons,List.mem_append] at hy ⊢
            rcases hy with hy | hy | hy
            · exact .inl hy
            · exact .inr (.inl (.inl hy))
            · exact .inr (.inr hy))).1 (hk13 y hy)
        have hkeep:∀ y,y ∈ k :: (F1 ++ F3) → y ∈ Fs o:=fun y hy => by
            rw [hF]; simp only [List.mem_cons,List.mem_append] at hy ⊢
            rcases hy with hy | hy | hy
            · exact .inl hy
            · exact .inr (.inl (.inl hy))
            · exact .inr (.inr hy)
        have hkn:(k :: (F1 ++ F3)).Nodup:=by
          rw [List.nodup_cons,List.nodup_append]
          refine ⟨fun hy => hnd.1 (by simp only [List.mem_append] at hy ⊢; rcases hy with hy | hy; exact .inl (.inl hy); exact .inr hy),hnd3.1,hnd2.2.1,fun y hy z hz => hnd2.2.2 y (by simp [hy]) z hz⟩
        have hown':w'.ownsRow 0 e1 s1 (ι o) n1 xs:=ownsRow_mono hown (fun y hy => hsame y (by rw [hk] at hy; cases hy; simp))
        have hkind:∀ q',g1 = g1 → ∀ off',isOw (cs.set off q') off' → isOw cs off' ∧ ∀ b,(ι o).ownBlock = some b → w'.cell? ⟨b,off',none⟩ = w.cell? ⟨b,off',none⟩:=fun q' _ off' hi => by
          refine ⟨?_,fun b hb => ?_⟩
          · by_cases e:off = off'
            · subst e; exact ⟨_,_,_,_,hcs⟩
            · obtain ⟨a1,a2,a3,a4,hi⟩:=hi
              rw [List.getElem?_set_ne e] at hi
              exact ⟨a1,a2,a3,a4,hi⟩
          · rw [hk] at hb; cases hb
            exact World.cell?_of_block (w:=w) (w':=w') (a:=⟨k,off',none⟩) (hsame k (by simp))
        by_cases hq:∃ e s n c,q = .ow e s n c
        · have e3:inPV q = q:=by obtain ⟨e,s,n,c,rfl⟩:=hq; rfl
          refine ⟨[⟨o,.arr g1 e1 s1 n1 (cs.set off q),k :: (F1 ++ F3),Fo,k :: (F1 ++ Fo ++ F3)⟩],[],by simp [bkOf,backCell,hτ,e3],rfl,by simp,fun en hen => ?_⟩
          simp at hen
          subst hen
          refine ⟨by rw [ho]; simp,hkeep,hk13,hkn,?_,.inr (.inr ⟨_,_,_,_,_,_,_,_,_,_,ho,rfl,Nat.le_refl _,hkind q⟩),fun U'' O'' h1 h2 => ?_⟩
          · simp only [List.cons_append,List.append_assoc]
            exact List.Perm.cons _ (List.Perm.append_left _ List.perm_append_comm)
          · exact ⟨xs,F1 ++ Fo ++ F3,hown',hset w' U'' q Fo h2 (fun y hy => hg.block y hy.1 (hUF y hy)) (fun y hy => hsame y (by simp only [List.mem_cons]; exact .inr hy)) (R_mono h1 (fun _ _ => rfl) _ _ _ hR (fun _ _ => rfl)),by rw [hk]; simp⟩
        · have e3:inPV q = .any:=by cases q <;> first | rfl | exact absurd ⟨_,_,_,_,rfl⟩ hq
          refine ⟨[⟨o,.arr g1 e1 s1 n1 (cs.set off .any),k :: (F1 ++ F3),[],k :: (F1 ++ [] ++ F3)⟩],Fo,by simp [bkOf,backCell,hτ,e3],rfl,by simp,fun en hen => ?_⟩
          simp at hen
          subst hen
          refine ⟨by rw [ho]; simp,hkeep,hk13,hkn,by simp,.inr (.inr ⟨_,_,_,_,_,_,_,_,_,_,ho,rfl,Nat.le_refl _,hkind .any⟩),fun U'' O'' h1 h2 => ?_⟩
          exact ⟨xs,F1 ++ [] ++ F3,hown',hset w' U'' .any [] h2 (fun y hy => hg.block y hy.1 (hUF y hy)) (fun y hy => hsame y (by simp only [List.mem_cons]; exact .inr hy)) (by simp only [R]; exact ⟨R_oneCell hur,trivial⟩),by rw [hk]; simp⟩
      · cases hc
    · cases hc
  · cases hc
theorem lendCells_R (h:Sim C σ a w ι Fs) (ha:Agr σ.o τ):∀ {xs:List AV} {vs:List Value} {ps:List PV} {l:List Nat},ARs w (Un C w Fs) σ.o ι xs vs → lendCells τ xs = some (ps,l) → l.Nodup →
    ∃ F,Rs w (Un C w Fs) ps vs F ∧ F.Nodup ∧ (∀ k,k ∈ F → ∃ o,o ∈ l ∧ k ∈ Fs o) ∧ (∀ o,o ∈ l → σ.o o ≠ .none) ∧
      ∀ (w':World) (U':Nat → Prop) (Fall:List Nat) (qs:List PV) (Fo:List Nat),GrownF w w' Fall → (∀ k,Un C w Fs k → k ∉ Fall) → (∀ o,o ∈ l → ∀ k,k ∈ Fs o → k ∈ Fall → k ∈ F) → Rs w' U' qs vs Fo → Back1 C σ w ι Fs l w' U' Fall (backCells τ xs qs) Fo
  | [],[],ps,l,_,hc,_ => by
    simp [lendCells] at hc
    obtain ⟨rfl,rfl⟩:=hc
    exact ⟨[],by simp [Rs],by simp,by simp,by simp,fun w' U' Fall qs Fo _ _ _ _ => by simp only [backCells]; exact Back1.nil⟩
  | x :: xs,v :: vs,ps,l,hx,hc,hn => by
    simp only [ARs] at hx
    simp only [lendCells] at hc
    split at hc
    · rename_i p l1 ps' l2 h1 h2
      cases hc
      have hn':=List.nodup_append.1 hn
      obtain ⟨F1,r1,r2,r3,r4,r5⟩:=lendCell_R h ha hx.1 h1
      obtain ⟨F2,s1,s2,s3,s4,s5⟩:=lendCells_R h ha hx.2 h2 hn'.2.1
      have hcross:∀ o o' k,o ∈ l1 → o' ∈ l2 → k ∈ Fs o → k ∉ Fs o':=fun o o' k ho ho' hk => h.dis o o' (hn'.2.2 o ho o' ho') k hk
      refine ⟨F1 ++ F2,by simp only [Rs]; exact ⟨F1,F2,r1,s1,rfl⟩,?_,?_,?_,fun w' U' Fall qs Fo hg hUF hin hR => ?_⟩
      · rw [List.nodup_append]
        refine ⟨r2,s2,fun y hy z hz e => ?_⟩
        subst e
        obtain ⟨o,ho,hk⟩:=r3 y hy
        obtain ⟨o',ho',hk'⟩:=s3 y hz
        exact hcross o o' y ho ho' hk hk'
      · intro k hk
        rcases List.mem_append.1 hk with hk | hk
        · obtain ⟨o,ho,hk⟩:=r3 k hk; exact ⟨o,by simp [ho],hk⟩
        · obtain ⟨o,ho,hk⟩:=s3 k hk; exact ⟨o,by simp [ho],hk⟩
      · intro o ho
        rcases List.mem_append.1 ho with ho | ho
        · exact r4 o ho
        · exact s4 o ho
      · cases qs with
        | nil => simp only [Rs] at hR
        | cons q qs =>
          simp only [Rs] at hR
          obtain ⟨G1,G2,g1,g2,rfl⟩:=hR
          simp only [backCells]
          refine Back1.app (r5 w' U' Fall q G1 hg hUF (fun o ho k hk hkF => ?_) g1) (s5 w' U' Fall qs G2 hg hUF (fun o ho k hk hkF => ?_) g2)
          · rcases List.mem_append.1 (hin o (by simp [ho]) k hk hkF) with h3 | h3
            · exact h3
            · obtain ⟨o',ho',hk'⟩:=s3 k h3
              exact absurd hk' (hcross o o' k ho ho' hk)
          · rcases List.mem_append.1 (hin o (by simp [ho]) k hk hkF) with h3 | h3
            · obtain ⟨o',ho',hk'⟩:=r3 k h3
              exact absurd hk (hcross o' o k ho' ho hk')
            · exact h3
    · cases hc
  | [],_ :: _,_,_,hx,_,_ => by simp only [ARs] at hx
  | _ :: _,[],_,_,hx,_,_ => by simp only [ARs] at hx
theorem Rs_anys {U:Nat → Prop} {w1:World} {U1:Nat → Prop}:∀ {ps:List PV} {vs:List Value} {F:List Nat} {α:Type} {xs:List α},Rs w1 U1 ps vs F → xs.length = vs.length → Rs w U (xs.map fun _ => PV.any) vs []
  | [],[],_,_,[],_,_ => by simp [Rs]
  | p :: ps,v :: vs,F,_,x :: xs,h,hl => by
    simp only [Rs] at h
    obtain ⟨F1,F2,h1,h2,_⟩:=h
    simp only [List.map_cons,Rs,R]
    exact ⟨[],[],⟨R_oneCell h1,rfl⟩,Rs_anys h2 (by simpa using hl),rfl⟩
  | [],_ :: _,_,_,_,h,_ => by simp only [Rs] at h
  | _ :: _,[],_,_,_,h,_ => by simp only [Rs] at h
  | [],[],_,_,_ :: _,_,hl => by simp at hl
  | _ :: _,_ :: _,_,_,[],_,hl => by simp at hl
theorem argL_R (h:Sim C σ a w ι Fs) (ha:Agr σ.o τ) {m:LM} {x:AV} {v:Value} {c:CV} {b l:List Nat} (hx:AR w (Un C w Fs) σ.o ι x v) (hc:argL τ m x = some (c,b,l)) (hn:l.Nodup) (b':List Nat) (hb:∀ o,o ∈ b → o ∈ b') :
    ∃ F,CR w (Vw C w Fs b') c v F ∧ F.Nodup ∧ (∀ k,k ∈ F → ∃ o,o ∈ l ∧ k ∈ Fs o) ∧ (∀ o,o ∈ l → σ.o o ≠ .none) ∧
      ∀ (w':World) (U':Nat → Prop) (Fall:List Nat) (q:CV) (Fo:List Nat) (bk:List (Nat × AObj)),GrownF w w' Fall → (∀ k,Un C w Fs k → k ∉ Fall) → (∀ o,o ∈ l → ∀ k,k ∈ Fs o → k ∈ Fall → k ∈ F) → CR w' U' q v Fo → argBack τ m x q = some bk →
        Back1 C σ w ι Fs l w' U' Fall bk Fo:=by
  have hone:∀ {x:AV} {p:PV} {l:List Nat},AR w (Un C w Fs) σ.o ι x v → lendCell τ x = some (p,l) → (∀ cs,x ≠ .agg cs) → argBack τ .lend x = (fun q => match q with | .v p => some (backCell τ x p) | .any => some (backCell τ x .any) | _ => none) →
      ∃ F,CR w (Vw C w Fs b') (.v p) v F ∧ F.Nodup ∧ (∀ k,k ∈ F → ∃ o,o ∈ l ∧ k ∈ Fs o) ∧ (∀ o,o ∈ l → σ.o o ≠ .none) ∧
      ∀ (w':World) (U':Nat → Prop) (Fall:List Nat) (q:CV) (Fo:List Nat) (bk:List (Nat × AObj)),GrownF w w' Fall → (∀ k,Un C w Fs k → k ∉ Fall) → (∀ o,o ∈ l → ∀ k,k ∈ Fs o → k ∈ Fall → k ∈ F) → CR w' U' q v Fo → argBack τ .lend x q = some bk →
        Back1 C σ w ι Fs l w' U' Fall bk Fo:=by
    intro x p l hx h1 _ hbk
    obtain ⟨F,r1,r2,r3,r4,r5⟩:=lendCell_R h ha hx h1
    refine ⟨F,by simp only [CR]; exact R_mono (fun k hk => Vw_un hk) (fun _ _ => rfl) _ _ _ r1 (fun _ _ => rfl),r2,r3,r4,fun w' U' Fall q Fo bk hg hUF hin hR hB => ?_⟩
    rw [hbk] at hB
    cases q with
    | v p' => cases hB; simp only [CR] at hR; exact r5 w' U' Fall p' Fo hg hUF hin hR
    | any =>
      cases hB
      simp only [CR] at hR
      subst hR
      exact r5 w' U' Fall .any [] hg hUF hin (by simp only [R]; exact ⟨R_oneCell r1,trivial⟩)
    | _ => simp at hB
  unfold argL at hc
  split at hc
  · split at hc
    · rename_i c1 b1 h1
      cases hc
      refine ⟨[],argView_R h ha hx h1 b' hb,by simp,by simp,by simp,fun w' U' Fall q Fo bk _ _ _ hR hB => ?_⟩
      cases q <;> simp [argBack] at hB
      subst hB
      exact Back1.nil
    · cases hc
  · rename_i cs
    split at hc
    · rename_i ps l1 h1
      cases hc
      simp only [AR] at hx
      obtain ⟨vs,rfl,hs⟩:=hx
      obtain ⟨F,r1,r2,r3,r4,r5⟩:=lendCells_R h ha hs h1 hn
      refine ⟨F,by simp only [CR]; exact ⟨vs,rfl,Rs_mono (fun k hk => Vw_un hk) (fun _ _ => rfl) _ _ _ r1 (fun _ _ => rfl)⟩,r2,r3,r4,fun w' U' Fall q Fo bk hg hUF hin hR hB => ?_⟩
      cases q with
      | agg qs =>
        simp only [argBack] at hB
        split at hB
        · cases hB
          simp only [CR] at hR
          obtain ⟨us,he,hR⟩:=hR
          cases he
          exact r5 w' U' Fall qs Fo hg hUF hin hR
        · cases hB
      | any =>
        simp only [argBack] at hB
        cases hB
        simp only [CR] at hR
        subst hR
        exact r5 w' U' Fall _ [] hg hUF hin (Rs_anys r1 (ARs_length _ _ hs))
      | _ => simp [argBack] at hB
    · cases hc
  · rename_i hna
    split at hc
    · rename_i p l1 h1
      cases hc
      refine hone hx h1 (fun cs e => hna cs e) ?_
      funext q
      cases x <;> first | exact absurd rfl (hna _) | (cases q <;> rfl)
    · cases hc
  · cases hc
theorem argsL1_R (h:Sim C σ a w ι Fs) (ha:Agr σ.o τ):∀ {ms:List LM} {xs:List AV} {vs:List Value} {cs:List CV} {b l:List Nat},ARs w (Un C w Fs) σ.o ι xs vs → argsL1 τ ms xs = some (cs,b,l) → l.Nodup → ∀ b':List Nat,(∀ o,o ∈ b → o ∈ b') →
    ∃ F,CRs w (Vw C w Fs b') cs vs F ∧ F.Nodup ∧ (∀ k,k ∈ F → ∃ o,o ∈ l ∧ k ∈ Fs o) ∧ (∀ o,o ∈ l → σ.o o ≠ .none) ∧
      ∀ (w':World) (U':Nat → Prop) (Fall:List Nat) (qs:List CV) (Fo:List Nat) (bk:List (Nat × AObj)),GrownF w w' Fall → (∀ k,Un C w Fs k → k ∉ Fall) → (∀ o,o ∈ l → ∀ k,k ∈ Fs o → k ∈ Fall → k ∈ F) → CRs w' U' qs vs Fo → argsBack1 τ ms xs qs = some bk →
        Back1 C σ w ι Fs l w' U' Fall bk Fo
  | ms,[],[],cs,b,l,_,hc,_,b',hb => by
    simp [argsL1] at hc
    obtain ⟨rfl,rfl,rfl⟩:=hc
    refine ⟨[],by simp [CRs],by simp,by simp,by simp,fun w' U' Fall qs Fo bk _ _ _ hR hB => ?_⟩
    cases qs with
    | nil => simp [argsBack1] at hB; subst hB; exact Back1.nil
    | cons q qs => simp only [CRs] at hR
  | ms,x :: xs,v :: vs,cs,b,l,hx,hc,hn,b',hb => by
    simp only [ARs] at hx
    simp only [argsL1] at hc
    split at hc
    · rename_i c1 b1 l1 cs2 b2 l2 h1 h2
      cases hc
      have hn':=List.nodup_append.1 hn
      obtain ⟨F1,r1,r2,r3,r4,r5⟩:=argL_R h ha hx.1 h1 hn'.1 b' (fun o ho => hb o (by simp [ho]))
      obtain ⟨F2,s1,s2,s3,s4,s5⟩:=argsL1_R h ha hx.2 h2 hn'.2.1 b' (fun o ho => hb o (by simp [ho]))
      have hcross:∀ o o' k,o ∈ l1 → o' ∈ l2 → k ∈ Fs o → k ∉ Fs o':=fun o o' k ho ho' hk => h.dis o o' (hn'.2.2 o ho o' ho') k hk
      refine ⟨F1 ++ F2,by simp only [CRs]; exact ⟨F1,F2,r1,s1,rfl⟩,?_,?_,?_,fun w' U' Fall qs Fo bk hg hUF hin hR hB => ?_⟩
      · rw [List.nodup_append]
        refine ⟨r2,s2,fun y hy z hz e => ?_⟩
        subst e
        obtain ⟨o,ho,hk⟩:=r3 y hy
        obtain ⟨o',ho',hk'⟩:=s3 y hz
        exact hcross o o' y ho ho' hk hk'
      · intro k hk
        rcases List.mem_append.1 hk with hk | hk
        · obtain ⟨o,ho,hk⟩:=r3 k hk; exact ⟨o,by simp [ho],hk⟩
        · obtain ⟨o,ho,hk⟩:=s3 k hk; exact ⟨o,by simp [ho],hk⟩
      · intro o ho
        rcases List.mem_append.1 ho with ho | ho
        · exact r4 o ho
        · exact s4 o ho
      · cases qs with
        | nil => simp only [CRs] at hR
        | cons q qs =>
          simp only [CRs] at hR
          obtain ⟨G1,G2,g1,g2,rfl⟩:=hR
          simp only [argsBack1] at hB
          split at hB
          · rename_i bb bbs e1 e2
            cases hB
            refine Back1.app (r5 w' U' Fall q G1 _ hg hUF (fun o ho k hk hkF => ?_) g1 e1) (s5 w' U' Fall qs G2 _ hg hUF (fun o ho k hk hkF => ?_) g2 e2)
            · rcases List.mem_append.1 (hin o (by simp [ho]) k hk hkF) with h3 | h3
              · exact h3
              · obtain ⟨o',ho',hk'⟩:=s3 k h3
                exact absurd hk' (hcross o o' k ho ho' hk)
            · rcases List.mem_append.1 (hin o (by simp [ho]) k hk hkF) with h3 | h3
              · obtain ⟨o',ho',hk'⟩:=r3 k h3
                exact absurd hk (hcross o' o k ho' ho hk')
              · exact h3
          · cases hB
    · cases hc
  | _,[],_ :: _,_,_,_,hx,_,_,_,_ => by simp only [ARs] at hx
  | _,_ :: _,[],_,_,_,hx,_,_,_,_ => by simp only [ARs] at hx
end
end Am
namespace Am
open Go
def putM:List (Int × Int × Int) → Int → Int → Int → List (Int × Int × Int)
  | [],a,b,v => [(a,b,v)]
  | x :: m,a,b,v => if x.1 = a ∧ x.2.1 = b then (a,b,v) :: m else x :: putM m a b v
def getM:List (Int × Int × Int) → Int → Int → Option Int
  | [],_,_ => none
  | x :: m,a,b => if x.1 = a ∧ x.2.1 = b then some x.2.2 else getM m a b
def isIntB (P:Program) (t:Nat):Bool:=match P.underlying t with
  | some (.int .i64) => true
  | _ => false
def keyFs (P:Program) (k:Nat):Bool:=match P.underlying k with
  | some (.struct fs) => match fs.toList with
    | [f, g] => f.name != "_" && g.name != "_" && f.offset == 0 && g.offset == 1 && isIntB P f.type && isIntB P g.type
    | _ => false
  | _ => false
def zeroB (P:Program) (e:Nat):Bool:=match P.info? e with
  | some ti => match ti.zero with
    | some (.int .i64 0) => true
    | _ => false
  | none => false
def keyT (T:Ty) (k:Nat):Bool:=match T.lookup k with
  | some ⟨_,_,_,[.c (.int .i64 _),.c (.int .i64 _)],true⟩ => true
  | _ => false
def mapB (P:Program) (T:Ty) (t:Nat):Bool:=match P.underlying t with
  | some (.map k e) => keyT T k && keyFs P k && zeroB P e
  | _ => false
def mapEff (P:Program) (T:Ty) (ρ:Operand → AV) (O:Nat → AObj) (o:Oper):Option Eff:=match o.op with
  | .makeMap _ none => match o.dst with
    | some d => some ⟨O (64 * d) = .none,.mp (64 * d),[(64 * d,.mp (.m []))]⟩
    | none => none
  | .mapUpdate t m k v => match ρ m,ρ k,ρ v with
    | .mp b,.agg [.c (.int .i64 x),.c (.int .i64 y)],.c (.int .i64 z) => match O b with
      | .mp (.m M) => some ⟨mapB P T t = true,.any,[(b,.mp (.m (putM M x y z)))]⟩
      | _ => none
    | _,_,_ => none
  | .lookup t m k true => match ρ m,ρ k with
    | .mp b,.agg [.c (.int .i64 x),.c (.int .i64 y)] => match O b with
      | .mp (.m M) => some ⟨mapB P T t = true,.tup [.c (.int .i64 ((getM M x y).getD 0)),.c (.bool (getM M x y).isSome)],[]⟩
      | _ => none
    | _,_ => none
  | _ => none
section
variable {P:Program} {T:Ty} {w:World}
def lookM:List (Int × Int × Int) → Int → Int → Nat → Option (Nat × Value)
  | [],_,_,_ => none
  | x :: m,a,b,i => if x.1 = a ∧ x.2.1 = b then some (i,.int .i64 x.2.2) else lookM m a b (i + 1)
structure MapT (P:Program) (t k e:Nat):Prop where
  und:P.underlying t = some (.map k e)
  eq:∀ (w:World) (a b c d:Int),(Op.equal k (dotV a b) (dotV c d)).run P w = .ok (a == c && b == d) w
  chk:∀ (w:World) (em:Bool) (a b:Int),(Instr.checkKey em 10000 k (dotV a b)).run P w = .ok () w
  kst:∃ fs,P.underlying k = some (.struct fs)
  zero:∀ (w:World),(zeroValue e).run P w = .ok (.int .i64 0) w
theorem isIntB_eq {t:Nat} (h:isIntB P t = true):P.underlying t = some (.int .i64):=by
  unfold isIntB at h
  split at h
  · rename_i h'; exact h'
  · cases h
theorem mapB_T (hT:TyOK P T) {t:Nat} (h:mapB P T t = true):∃ k e,MapT P t k e:=by
  unfold mapB at h
  split at h
  · rename_i k e hu
    simp only [Bool.and_eq_true] at h
    obtain ⟨⟨h1,h2⟩,h3⟩:=h
    refine ⟨k,e,hu,?_,?_,?_,?_⟩
    · intro w a b c d
      unfold keyT at h1
      split at h1
      · rename_i k1 s1 b1 z1 z2 hl
        have hM:=hT.m hl
        obtain ⟨hq1,hq2⟩:=hM.eq rfl
        have hrun:=run_eqB (P:=P) (w:=w) (U:=fun _ => True) (O:=fun _ => .none) (ι:=fun _ => undef) 10000 k _ [.c (.int .i64 a),.c (.int .i64 b)] [.c (.int .i64 c),.c (.int .i64 d)] #[.int .i64 a,.int .i64 b] #[.int .i64 c,.int .i64 d] (a == c && b == d) (eqB_le (by omega) hq1)
          (by simp [eqCells,eqCell]) (by simp [ARs,AR,R]) (by simp [ARs,AR,R])
        exact hrun
      · cases h1
    · intro w em a b
      unfold keyFs at h2
      split at h2
      · rename_i fs hk
        split at h2
        · rename_i f g hfs
          simp only [Bool.and_eq_true,bne_iff_ne,beq_iff_eq] at h2
          obtain ⟨⟨⟨⟨⟨n1,n2⟩,o1⟩,o2⟩,i1⟩,i2⟩:=h2
          have e1:=isIntB_eq i1
          have e2:=isIntB_eq i2
          have hfs':fs = #[f,g]:=by apply Array.ext'; simpa using hfs
          subst hfs'
          have p1:=run_part_leaf (w:=w) (P:=P) (.inl ⟨_,e1⟩) #[.int .i64 a,.int .i64 b] 0 (.int .i64 a) rfl
          have p2:=run_part_leaf (w:=w) (P:=P) (.inl ⟨_,e2⟩) #[.int .i64 a,.int .i64 b] 1 (.int .i64 b) rfl
          have gen:∀ n:Nat,(Instr.checkKey em (n + 2) k (dotV a b)).run P w = .ok () w:=by
            intro n
            simp [Instr.checkKey,dotV,run_underlying hk,run_underlying e1,run_underlying e2,n1,n2,o1,o2,p1,p2,Result.andThen_ok]
          exact gen 9998
        · cases h2
      · cases h2
    · unfold keyFs at h2
      split at h2
      · rename_i fs hk; exact ⟨fs,hk⟩
      · cases h2
    · intro w
      unfold zeroB at h3
      split at h3
      · rename_i ti hi
        split at h3
        · rename_i hz
          simp [zeroValue,typeInfo,hi,hz]
        · cases h3
      · cases h3
  · cases h
theorem run_asking {t k e:Nat} (hM:MapT P t k e) (a b:Int):∀ (es:List MapEntry) (m:List (Int × Int × Int)) (i:Nat),es.map (fun e => (e.key,e.val)) = m.map (fun x => (dotV x.1 x.2.1,Value.int .i64 x.2.2)) →
    (Instr.findAsking k (dotV a b) es i).run P w = .ok (lookM m a b i) w
  | [],[],i,_ => by simp [Instr.findAsking,lookM]
  | [],_ :: _,_,h => by simp at h
  | _ :: _,[],_,h => by simp at h
  | e0 :: es,x :: m,i,h => by
    simp only [List.map_cons,List.cons.injEq,Prod.mk.injEq] at h
    obtain ⟨⟨h1,h2⟩,h3⟩:=h
    have ih:=run_asking hM a b es m (i + 1) h3
    have hq:=hM.eq w a b x.1 x.2.1
    by_cases hx:x.1 = a ∧ x.2.1 = b
    · have hb:(a == x.1 && b == x.2.1) = true:=by simp [hx.1,hx.2]
      rw [hb] at hq
      obtain ⟨rfl,rfl⟩:=hx
      simp [Instr.findAsking,h1,hq,Result.andThen_ok,lookM,h2]
    · have hb:(a == x.1 && b == x.2.1) = false:=by
        cases hh:(a == x.1 && b == x.2.1)
        · rfl
        · simp at hh; exact absurd ⟨hh.1.symm,hh.2.symm⟩ hx
      rw [hb] at hq
      simp [Instr.findAsking,h1,hq,Result.andThen_ok,lookM,hx,ih]
theorem run_find {t k e:Nat} (hM:MapT P t k e) (a b:Int) (es:List MapEntry) (m:List (Int × Int × Int)) (h:es.map (fun e => (e.key,e.val)) = m.map (fun x => (dotV x.1 x.2.1,Value.int .i64 x.2.2))) :
    (Instr.findKey k (dotV a b) es).run P w = .ok (lookM m a b 0) w:=by
  obtain ⟨fs,hfs⟩:=hM.kst
  cases es with
  | nil =>
    cases m with
    | nil => simp [Instr.findKey,run_underlying hfs,Instr.findNow,lookM,Result.andThen_ok]
    | cons _ _ => simp at h
  | cons e0 es =>
    have:=run_asking (w:=w) hM a b (e0 :: es) m 0 h
    simp [Instr.findKey,run_underlying hfs,Instr.findNow,Instr.sameNow,Result.andThen_ok,this]
theorem lookM_get:∀ (m:List (Int × Int × Int)) (a b:Int) (i:Nat),(lookM m a b i).map (·.2) = (getM m a b).map (Value.int .i64)
  | [],_,_,_ => rfl
  | x :: m,a,b,i => by
    simp only [lookM,getM]
    split
    · rfl
    · exact lookM_get m a b (i + 1)
theorem lookM_none:∀ {m:List (Int × Int × Int)} {a b:Int} {i:Nat},lookM m a b i = none → ∀ v,putM m a b v = m ++ [(a,b,v)]
  | [],_,_,_,_,_ => rfl
  | x :: m,a,b,i,h,v => by
    simp only [lookM] at h
    split at h
    · cases h
    · rename_i hx
      rw [putM,if_neg hx,lookM_none h v]
      rfl
theorem lookM_some:∀ {m:List (Int × Int × Int)} {a b:Int} {i j:Nat} {u:Value},lookM m a b i = some (j,u) → ∀ (v:Int) (es:List MapEntry),es.map (fun e => (e.key,e.val)) = m.map (fun x => (dotV x.1 x.2.1,Value.int .i64 x.2.2)) →
    i ≤ j ∧ (∃ e0,es[j - i]? = some e0 ∧ e0.key = dotV a b) ∧ (es.modify (j - i) fun e => { e with key:=dotV a b,val:=.int .i64 v }).map (fun e => (e.key,e.val)) = (putM m a b v).map (fun x => (dotV x.1 x.2.1,Value.int .i64 x.2.2))
  | [],_,_,_,_,_,h,_,_,_ => by simp [lookM] at h
  | x :: m,a,b,i,j,u,h,v,[],he => by simp at he
  | x :: m,a,b,i,j,u,h,v,e0 :: es,he => by
    simp only [List.map_cons,List.cons.injEq,Prod.mk.injEq] at he
    obtain ⟨⟨h1,h2⟩,h3⟩:=he
    simp only [lookM] at h
    split at h
    · rename_i hx
      cases h
      refine ⟨Nat.le_refl _,⟨e0,by simp,by rw [h1,hx.1,hx.2]⟩,?_⟩
      rw [putM,if_pos hx]
      simp [h3]
    · rename_i hx
      obtain ⟨g1,⟨e1,g2,g3⟩,g4⟩:=lookM_some h v es h3
      have hj:j - i = (j - (i + 1)) + 1:=by omega
      refine ⟨by omega,⟨e1,by rw [hj]; simpa using g2,g3⟩,?_⟩
      rw [putM,if_neg hx,hj]
      simp [h1,h2,g4]
theorem run_stays (a b:Int):(Instr.keyThatStays (dotV a b) (dotV a b)).run P w = .ok (dotV a b) w:=by
  simp [Instr.keyThatStays,Instr.sameBits,dotV]
theorem run_put {t k e:Nat} (hM:MapT P t k e) (a b v:Int) {blk:Nat} {ob:Obj} {m:List (Int × Int × Int)} (hb:w.heap[blk]? = some ob) (h:MapR m ob) :
    ∃ ob',(Instr.mapUpdate t (.map (some blk)) (dotV a b) (.int .i64 v)).run P w = .ok () { w with heap:=w.heap.setIfInBounds blk ob' } ∧ MapR (putM m a b v) ob':=by
  obtain ⟨es,clock,rfl,he⟩:=h
  have hf:=run_find (w:=w) hM a b es.toList m he
  cases hl:lookM m a b 0 with
  | none =>
    rw [hl] at hf
    refine ⟨.map (es.push { key:=dotV a b,val:=.int .i64 v,born:=clock }) (clock + 1),?_,_,_,rfl,?_⟩
    · simp [Instr.mapUpdate,run_underlying hM.und,MapKept.run_getObj_map hb,hM.chk,hf,MapKept.run_setObj_map _ hb,Result.andThen]
    · rw [lookM_none hl]
      simp [he]
  | some r =>
    obtain ⟨j,u⟩:=r
    rw [hl] at hf
    obtain ⟨_,⟨e0,g2,g3⟩,g4⟩:=lookM_some hl v es.toList he
    simp only [Nat.sub_zero] at g2 g4
    have g2':es[j]? = some e0:=by simpa using g2
    refine ⟨.map (es.modify j fun e => { e with key:=dotV a b,val:=.int .i64 v }) clock,?_,_,_,rfl,?_⟩
    · simp [Instr.mapUpdate,run_underlying hM.und,MapKept.run_getObj_map hb,hM.chk,hf,g2',g3,run_stays,MapKept.run_setObj_map _ hb,Result.andThen]
    · rw [Array.toList_modify]; exact g4
theorem run_get {t k e:Nat} (hM:MapT P t k e) (a b:Int) {blk:Nat} {ob:Obj} {m:List (Int × Int × Int)} (hb:w.heap[blk]? = some ob) (h:MapR m ob) :
    (Instr.lookup t (.map (some blk)) (dotV a b) true).run P w = .ok (.tuple #[.int .i64 ((getM m a b).getD 0),.bool (getM m a b).isSome]) w:=by
  obtain ⟨es,clock,rfl,he⟩:=h
  have hf:=run_find (w:=w) hM a b es.toList m he
  have hg:=lookM_get m a b 0
  cases hl:lookM m a b 0 with
  | none =>
    rw [hl] at hf hg
    have:getM m a b = none:=by cases hh:getM m a b <;> simp [hh] at hg ⊢
    simp [Instr.lookup,run_underlying hM.und,MapKept.run_getObj_map hb,hM.chk,hf,hM.zero,this,Result.andThen]
  | some r =>
    obtain ⟨j,u⟩:=r
    rw [hl] at hf hg
    cases hh:getM m a b with
    | none => simp [hh] at hg
    | some x =>
      rw [hh] at hg
      simp at hg
      subst hg
      simp [Instr.lookup,run_underlying hM.und,MapKept.run_getObj_map hb,hM.chk,hf,Result.andThen]
end
section
variable {P:Program} {T:Ty} {C:Ctx} {σ:AEnv} {a:Act} {w:World} {ι:Nat → Value} {Fs:Nat → List Nat} {τ:Nat → AObj} {e:Eff}
theorem AR_dotV {U:Nat → Prop} {O:Nat → AObj} {v:Value} {x y:Int} (h:AR w U O ι (.agg [.c (.int .i64 x),.c (.int .i64 y)]) v):v = dotV x y:=by
  simp only [AR] at h
  obtain ⟨vs,rfl,h⟩:=h
  obtain ⟨l⟩:=vs
  match l,h with
  | [u1,u2],h =>
    simp only [ARs,AR,R] at h
    obtain ⟨⟨h1,_⟩,⟨h2,_⟩,_⟩:=h
    subst h1; subst h2
    rfl
  | [],h => simp [ARs] at h
  | [_],h => simp [ARs] at h
  | _ :: _ :: _ :: _,h => simp [ARs] at h
theorem map_sound (hT:TyOK P T) (h:Sim C σ a w ι Fs) (ha:Agr σ.o τ) {o:Oper} (he:mapEff P T (ev σ) τ o = some e) (hs:e.side)
    (hf:∀ k ob,(k,ob) ∈ e.oe → τ k = .none → σ.o k = .none):Snd P C σ a w o e:=by
  obtain ⟨dst,op,type,pos,after,guard⟩:=o
  unfold mapEff at he
  split at he
  · rename_i t ho
    simp only at ho
    subst ho
    split at he
    · rename_i d hd
      simp only at hd
      subst hd
      cases he
      have hk:=hf _ _ List.mem_cons_self hs
      refine ⟨.value (.map (some w.heap.size)),w.alloc (.map #[] 0),_,_,_,?_,.inl rfl,
        h.make (gone:=[]) hk (by simp) rfl ⟨rfl,Nat.le_refl _⟩ rfl (by simp) (fun j hj _ => Below_heap_alloc w _ j hj) (F:=[w.heap.size]) (by simp) (by simp)
          ⟨w.heap.size,.map #[] 0,rfl,heap_alloc_new w _,⟨#[],0,rfl,rfl⟩,rfl⟩,?_⟩
      · simp [execOp,Instr.makeMap,newObj]; rfl
      · simp only [AR,AEnv.wr,AEnv.upd,if_true,fupd_same]
    · cases he
  · rename_i t m k v ho
    simp only at ho
    subst ho
    split at he
    · rename_i b x y z hm hk hv
      split at he
      · rename_i M hO
        cases he
        obtain ⟨k1,e1,hM⟩:=mapB_T hT hs
        have gm:=ev_AR h m
        rw [hm] at gm
        obtain ⟨ho,gm⟩:=agr_mp ha gm hO
        have gk:=ev_AR h k
        rw [hk] at gk
        have gk:=AR_dotV gk
        have gv:=ev_AR h v
        rw [hv] at gv
        have gv:=AR_int gv
        have hob:=h.ob b
        rw [ho] at hob
        obtain ⟨blk,ob,hv1,hv2,hv3,hv4⟩:=hob
        obtain ⟨ob',hrun,hR⟩:=run_put (P:=P) (w:=w) hM x y z hv2 hv3
        have hlt:blk < w.heap.size:=(Array.getElem?_eq_some_iff.1 hv2).1
        have hS:=h.edit (w':={ w with heap:=w.heap.setIfInBounds blk ob' }) (b:=b) (ob:=.mp (.m (putM M x y z))) (F:=[blk]) rfl ⟨rfl,Nat.le_refl _⟩ rfl (by simp)
          (fun j hj hjn => by
            rw [hv4] at hjn
            have:¬ blk = j:=fun e => hjn (by simp [e])
            simp [Array.getElem?_setIfInBounds,this]) (fun y hy => by rw [hv4]; exact hy) (by simp) (.inr (.inr ⟨_,_,ho,rfl⟩))
          ⟨blk,ob',hv1,by simp [Array.getElem?_setIfInBounds,hlt],hR,rfl⟩
        refine ⟨.skip,{ w with heap:=w.heap.setIfInBounds blk ob' },ι,fupd Fs b [blk],undef,?_,.inr ⟨rfl,rfl⟩,hS,by simp only [AR]⟩
        simp only [execOp,gm,gk,gv,hv1,Sem.run_bind,hrun,Result.andThen_ok,Sem.run_pure]
      · cases he
    · cases he
  · rename_i t m k ho
    simp only at ho
    subst ho
    split at he
    · rename_i b x y hm hk
      split at he
      · rename_i M hO
        cases he
        obtain ⟨k1,e1,hM⟩:=mapB_T hT hs
        have gm:=ev_AR h m
        rw [hm] at gm
        obtain ⟨ho,gm⟩:=agr_mp ha gm hO
        have gk:=ev_AR h k
        rw [hk] at gk
        have gk:=AR_dotV gk
        have hob:=h.ob b
        rw [ho] at hob
        obtain ⟨blk,ob,hv1,hv2,hv3,hv4⟩:=hob
        have hrun:=run_get (P:=P) (w:=w) hM x y hv2 hv3
        refine Snd.pure h (v:=.tuple #[.int .i64 ((getM M x y).getD 0),.bool (getM M x y).isSome]) ?_ (by simp only [AR,ARs]; exact ⟨_,rfl,AR_mkint,AR_mkbool,trivial⟩)
        simp only [execOp,gm,gk,hv1,Sem.run_bind,hrun,Result.andThen_ok,Sem.run_pure]
      · cases he
    · cases he
  · cases he
end
end Am
namespace Am
open Go
def intsOf (b:ByteArray):List Int:=b.data.toList.map fun x => (x.toNat:Int)
def strOf (l:List Int):ByteArray:=⟨(l.map fun n => UInt8.ofNat n.toNat).toArray⟩
def bytEff (T:Ty) (ρ:Operand → AV) (O:Nat → AObj) (o:Oper):Option Eff:=match o.op with
  | .convert s t x => match T.lookup s,T.lookup t,(ρ x).ug with
    | some ⟨.str,_,_,_,_⟩,some ⟨.slice e,_,_,_,_⟩,(sd,.c (.str b)) => match T.lookup e,o.dst with
      | some ⟨.int .u8,_,_,_,_⟩,some d => some ⟨sd ∧ O (64 * d) = .none,.mp (64 * d),[(64 * d,.mp (.bs (intsOf b)))]⟩
      | _,_ => none
    | some ⟨.slice e,_,_,_,_⟩,some ⟨.str,_,_,_,_⟩,(sd,.mp b) => match T.lookup e,O b with
      | some ⟨.int .u8,_,_,_,_⟩,.mp (.bs l) => some ⟨sd,.c (.str (strOf l)),[]⟩
      | _,_ => none
    | _,_,_ => none
  | .call ⟨.builtin .len,⟨[x]⟩,⟨[t]⟩⟩ => match T.lookup t,(ρ x).ug with
    | some ⟨.slice _,_,_,_,_⟩,(sd,.mp b) => match O b with
      | .mp (.bs l) => some ⟨sd,.c (.int .i64 l.length),[]⟩
      | _ => none
    | _,_ => none
  | .indexAddr t x ix => match T.lookup t with
    | some ⟨.slice e,_,_,_,_⟩ => match T.lookup e,(ρ ix).ug,(ρ x).ug with
      | some ⟨.int .u8,1,_,_,_⟩,(s2,.c (.int _ n)),(sd,.mp b) => match O b with
        | .mp (.bs l) => some ⟨sd ∧ s2 ∧ 0 ≤ n ∧ n < l.length,.pa b n.toNat,[]⟩
        | _ => none
      | _,_,_ => none
    | _ => none
  | .load t x => match T.lookup t,(ρ x).ug with
    | some ⟨.int .u8,_,_,_,_⟩,(sd,.pa b off) => match O b with
      | .mp (.bs l) => some ⟨sd ∧ off < l.length,.c (.int .u8 (l.getD off 0)),[]⟩
      | _ => none
    | _,_ => none
  | .store t x y => match T.lookup t,(ρ x).ug,(ρ y).ug with
    | some ⟨.int .u8,1,_,_,_⟩,(sd,.pa b off),(s2,.c (.int .u8 n)) => match O b with
      | .mp (.bs l) => some ⟨sd ∧ s2 ∧ off < l.length,.any,[(b,.mp (.bs (l.set off n)))]⟩
      | _ => none
    | _,_,_ => none
  | _ => none
section
variable {P:Program} {T:Ty} {C:Ctx} {σ:AEnv} {a:Act} {w:World} {ι:Nat → Value} {Fs:Nat → List Nat} {τ:Nat → AObj} {e:Eff}
variable {dst:Option Tmp} {type:TypeId} {pos:String} {after:Array Edge} {guard:Option (Nat × Bool)}
theorem agr_pam {U:Nat → Prop} {O:Nat → AObj} (ha:Agr O τ) {b off:Nat} {v:Value} (h:AR w U O ι (.pa b off) v) {Q:MQ} (hτ:τ b = .mp Q) :
    O b = .mp Q ∧ ∃ k,(ι b).ownBlock = some k ∧ v = .pointer (some ⟨k,off,none⟩):=by
  have hn:O b ≠ .none:=fun hn => (AR_none_false (g:=0) hn).2.2.1 h
  have he:O b = τ b:=ha b hn (by rw [hτ]; simp)
  rw [hτ] at he
  simp only [AR,he] at h
  exact ⟨he,h⟩
theorem storeAt_byt {t:Nat} {i:TyI} (hi:TyM P t i) (h1:i.size = 1) {g off:Nat} {cur:Array Value} {ty:Nat} {fz:Nat × Nat} {n:Int} (hg:w.heap[g]? = some (.cells cur ty fz)) (hfz:cur.size ≤ fz.1) (hlt:off < cur.size) :
    (Instr.storeAt t (.pointer (some ⟨g,off,none⟩)) (.int .u8 n)).run P w = .ok () (w.setRow g (cur.setIfInBounds off (.int .u8 n))):=by
  have hz:=hi.run_sizeOf w
  rw [h1] at hz
  have hcell:w.cell? ⟨g,off,none⟩ = some cur[off]:=by simp [World.cell?,hg,hlt]
  have hfro:w.frozen? ⟨g,off,none⟩ = false:=by
    obtain ⟨lo,hi'⟩:=fz
    simp only [World.frozen?,hg,Bool.and_eq_false_iff,decide_eq_false_iff_not]
    left
    simp only at hfz
    omega
  have hst:(store ((⟨g,off,none⟩:Addr).add 0) (.int .u8 n)).run P w = .ok () (w.setRow g (cur.setIfInBounds off (.int .u8 n))):=by
    rw [addr_add,Nat.add_zero,run_store P w _ _ _ rfl,hcell]
    simp [hfro,setCell_eq_setRow w g off cur ty fz _ hg]
  have hc:(Value.int .u8 n).cells = #[.int .u8 n]:=rfl
  simp only [Instr.storeAt,Instr.sureAddr,storeVar,Sem.run_bind,Sem.run_pure,Result.andThen_ok,hz,Sem.run_ite,hc]
  simp [storeCells,hst,Result.andThen_ok]
theorem bs_cell {l:List Int} {cur:Array Value} (h:cur.toList.take l.length = l.map (Value.int .u8)) {off:Nat} (ho:off < l.length):cur[off]? = some (.int .u8 (l.getD off 0)):=by
  have h1:(cur.toList.take l.length)[off]? = some (.int .u8 (l.getD off 0)):=by
    rw [h]; simp [ho]
  rw [List.getElem?_take,if_pos ho] at h1
  simpa using h1
theorem bs_set {l:List Int} {cur:Array Value} (h:cur.toList.take l.length = l.map (Value.int .u8)) {off:Nat} (n:Int):(cur.setIfInBounds off (.int .u8 n)).toList.take (l.set off n).length = (l.set off n).map (Value.int .u8):=by
  rw [List.length_set,Array.toList_setIfInBounds,List.take_set,h,List.map_set]
theorem byt_sound (hT:TyOK P T) (h:Sim C σ a w ι Fs) (ha:Agr σ.o τ) {o:Oper} (he:bytEff T (ev σ) τ o = some e) (hs:e.side)
    (hf:∀ k ob,(k,ob) ∈ e.oe → τ k = .none → σ.o k = .none):Snd P C σ a w o e:=by
  obtain ⟨dst,op,type,pos,after,guard⟩:=o
  unfold bytEff at he
  split at he
  · rename_i s t x ho
    simp only at ho
    subst ho
    split at he
    · rename_i q1 q2 q3 q4 el z1 z2 z3 z4 sd b hs1 ht1 hx
      split at he
      · rename_i y1 y2 y3 y4 d he1 hd
        simp only at hd
        subst hd
        cases he
        obtain ⟨hsd,hk0⟩:=hs
        have hk:=hf _ _ List.mem_cons_self hk0
        have hv:=AR_str (ev_ug h x hx hsd)
        have e1:=(hT.m hs1).str rfl
        have e2:=(hT.m ht1).slice rfl
        have e3:=(hT.m he1).int rfl
        have hrun:=run_bytes_of_string w s t el b e1 e2 e3
        have hsz:(intsOf b).length = b.size:=by simp [intsOf]
        have hb1:(bytesRow b (grownCap w b.size 0 el)).toList.take (intsOf b).length = (intsOf b).map (Value.int .u8):=by
          have:(bytesRow b (grownCap w b.size 0 el)).toList = (intsOf b).map (Value.int .u8) ++ List.replicate (grownCap w b.size 0 el - b.size) (.int .u8 0):=by
            simp [bytesRow,intsOf]
          rw [this,List.take_append_of_le_length (by simp),List.take_of_length_le (by simp)]
        refine ⟨.value (.slice (some ⟨w.heap.size,0,none⟩) b.size (grownCap w b.size 0 el)),_,_,_,_,?_,.inl rfl,
          h.make (gone:=[]) (w':=w.drew.alloc (.cells (bytesRow b (grownCap w b.size 0 el)) el ((bytesRow b (grownCap w b.size 0 el)).size,(bytesRow b (grownCap w b.size 0 el)).size + 1))) hk (by simp) rfl ⟨rfl,Nat.le_succ _⟩ rfl (by show w.heap.size ≤ (w.heap.push _).size; simp)
            (fun j hj _ => Below_heap_alloc w.drew _ j hj) (F:=[w.heap.size]) (fun z hz => by rw [List.mem_singleton.1 hz]; exact ⟨by show w.heap.size < (w.heap.push _).size; simp,.inl (Nat.le_refl _)⟩) (by simp)
            ⟨w.heap.size,grownCap w b.size 0 el,bytesRow b (grownCap w b.size 0 el),el,_,by rw [hsz],heap_alloc_new w.drew _,Nat.le_refl _,?_,hb1,rfl⟩,?_⟩
        · simp only [execOp,hv,Sem.run_bind,hrun,Result.andThen_ok,Sem.run_pure]
        · rw [hsz]; simp [bytesRow]
        · simp only [AR,AEnv.wr,AEnv.upd,if_true,fupd_same]
      · cases he
    · rename_i el q1 q2 q3 q4 z1 z2 z3 z4 sd b hs1 ht1 hx
      split at he
      · rename_i y1 y2 y3 y4 l he1 hO
        cases he
        have gm:=ev_ug h x hx hs
        obtain ⟨ho,gm⟩:=agr_mp ha gm hO
        have e1:=(hT.m hs1).slice rfl
        have e2:=(hT.m ht1).str rfl
        have e3:=(hT.m he1).int rfl
        have hob:=h.ob b
        rw [ho] at hob
        obtain ⟨k,cap,cur,ty,fz,hv,hh,hq,hl,hc,hF⟩:=hob
        have hld:=run_loadCells_list (P:=P) w ⟨k,0,none⟩ (l.map (Value.int .u8)) (fun j v hj => by
          rw [addr_add,Nat.zero_add]
          have hj':j < l.length:=by have:=(List.getElem?_eq_some_iff.1 hj).1; simpa using this
          have:=bs_cell hc hj'
          have e5:v = .int .u8 (l.getD j 0):=by
            rw [List.getElem?_map] at hj
            simp [List.getElem?_eq_getElem hj'] at hj
            rw [← hj]; simp [hj']
          rw [e5]
          simpa [World.cell?,hh] using this)
        rw [List.length_map] at hld
        have hconv:(Conv.bytesToString (.slice (some ⟨k,0,none⟩) l.length cap)).run P w = .ok (.string (strOf l)) w:=by
          rw [run_bytesToString w ⟨k,0,none⟩ l.length cap l hld,foldl_push]
          congr 3
          apply Array.ext'
          simp
        refine Snd.pure h (v:=.string (strOf l)) ?_ AR_mkstr
        simp [execOp,Go.convert,run_underlying e1,run_underlying e2,run_underlying e3,gm,hv,hconv]
      · cases he
    · cases he
  · rename_i x t ho
    simp only at ho
    subst ho
    split at he
    · rename_i el q1 q2 q3 q4 sd b ht1 hx
      split at he
      · rename_i l hO
        cases he
        have ht:=(hT.m ht1).slice rfl
        obtain ⟨ho,gm⟩:=agr_mp ha (ev_ug h x hx hs) hO
        have hob:=h.ob b
        rw [ho] at hob
        obtain ⟨k,cap,cur,ty,fz,hv,hh,hq,hl,hc,hF⟩:=hob
        exact Snd.pure h (by simp [execOp,resolve,invoke,builtin,Builtin.len_,run_underlying ht,gm,hv,goInt]) AR_mkint
      · cases he
    · cases he
  · rename_i t x ix ho
    simp only at ho
    subst ho
    split at he
    · rename_i el q1 q2 q3 q4 ht1
      split at he
      · rename_i z1 z2 z3 s2 k0 n sd b he1 hix hx
        split at he
        · rename_i l hO
          cases he
          obtain ⟨hsd,hs2,h0,hn⟩:=hs
          have ht:=(hT.m ht1).slice rfl
          have hi:=hT.m he1
          obtain ⟨ho,gm⟩:=agr_mp ha (ev_ug h x hx hsd) hO
          have e2:=AR_int (ev_ug h ix hix hs2)
          have hob:=h.ob b
          rw [ho] at hob
          obtain ⟨k,cap,cur,ty,fz,hv,hh,hq,hl,hc,hF⟩:=hob
          refine Snd.pure h (v:=.pointer (some ⟨k,0 + n.toNat * 1,none⟩)) ?_ ?_
          · simp only [execOp,gm,hv,e2,Sem.run_bind,indexAt_run ht hi h0 hn,Result.andThen_ok,Sem.run_pure]
          · simp only [AR,ho]; exact ⟨k,by rw [hv]; rfl,by rw [Nat.zero_add,Nat.mul_one]⟩
        · cases he
      · cases he
    · cases he
  · rename_i t x ho
    simp only at ho
    subst ho
    split at he
    · rename_i q1 q2 q3 q4 sd b off ht1 hx
      split at he
      · rename_i l hO
        cases he
        obtain ⟨hsd,hlt⟩:=hs
        have hi:=hT.m ht1
        obtain ⟨ho,k,hk,hv⟩:=agr_pam ha (ev_ug h x hx hsd) hO
        have hob:=h.ob b
        rw [ho] at hob
        obtain ⟨k',cap,cur,ty,fz,hv',hh,hq,hl,hc,hF⟩:=hob
        rw [hv'] at hk
        cases hk
        have hcell:w.cell? ⟨k',off,none⟩ = some (.int .u8 (l.getD off 0)):=by
          simpa [World.cell?,hh] using bs_cell hc hlt
        refine Snd.pure h (v:=.int .u8 (l.getD off 0)) ?_ AR_mkint
        simp only [execOp,hv,Sem.run_bind,loadAt_cell hi (by simp) (by simp) hcell,Result.andThen_ok,Sem.run_pure]
      · cases he
    · cases he
  · rename_i t x y ho
    simp only at ho
    subst ho
    split at he
    · rename_i q2 q3 q4 sd b off s2 n ht1 hx hy
      split at he
      · rename_i l hO
        cases he
        obtain ⟨hsd,hs2,hlt⟩:=hs
        have hi:=hT.m ht1
        obtain ⟨ho,k,hk,hv⟩:=agr_pam ha (ev_ug h x hx hsd) hO
        have hy:=AR_int (ev_ug h y hy hs2)
        have hob:=h.ob b
        rw [ho] at hob
        obtain ⟨k',cap,cur,ty,fz,hv',hh,hq,hl,hc,hF⟩:=hob
        rw [hv'] at hk
        cases hk
        have hrun:=storeAt_byt (P:=P) (w:=w) hi rfl (n:=n) hh hq (show off < cur.size by omega)
        have hS:=h.edit (w':=w.setRow k' (cur.setIfInBounds off (.int .u8 n))) (b:=b) (ob:=.mp (.bs (l.set off n))) (F:=[k']) rfl ⟨rfl,Nat.le_refl _⟩ rfl (by simp)
          (fun j hj hjn => setRow_other w k' j _ (fun e => hjn (by rw [hF,e]; simp))) (fun z hz => by rw [hF]; exact hz) (by simp) (.inr (.inr ⟨_,_,ho,rfl⟩))
          ⟨k',cap,_,ty,fz,by rw [List.length_set]; exact hv',setRow_heap w k' cur _ ty fz hh,by simpa using hq,by simpa using hl,bs_set hc n,rfl⟩
        refine ⟨.skip,_,ι,_,undef,?_,.inr ⟨rfl,rfl⟩,hS,by simp only [AR]⟩
        simp only [execOp,hv,hy,Sem.run_bind,hrun,Result.andThen_ok,Sem.run_pure]
      · cases he
    · cases he
  · cases he
end
end Am
namespace Am
open Go
def sides (ρ:Operand → AV):List Operand → Prop
  | [] => True
  | x :: xs => (ρ x).ug.1 ∧ sides ρ xs
def tokOk (us:Nat → Value):List LM → List CV → Prop
  | .box toks :: _,.ptr ps :: _ => ∀ j,j ∈ toks → ps[j]? = some (.tk (us j))
  | _,_ => True
def small2 (b2:List (Nat × AObj)):CV → Bool
  | .tup xs => b2.tail.isEmpty || decide (xs.length ≤ 2)
  | _ => true
section
variable {P:Program} {T:Ty} {C:Ctx} {σ:AEnv} {a:Act} {w w':World} {ι:Nat → Value} {Fs:Nat → List Nat} {τ:Nat → AObj} {H:Nat → Bool}
mutual
theorem CR_U {U U':Nat → Prop} (hU:∀ k,U k → U' k):∀ (c:CV) (v:Value) (F:List Nat),CR w U c v F → CR w U' c v F
  | .any,v,F,h => by simpa only [CR] using h
  | .v p,v,F,h => by simp only [CR] at h ⊢; exact R_mono hU (fun _ _ => rfl) p v F h (fun _ _ => rfl)
  | .agg ps,v,F,h => by simp only [CR] at h ⊢; obtain ⟨us,e,hr⟩:=h; exact ⟨us,e,Rs_mono hU (fun _ _ => rfl) ps _ F hr (fun _ _ => rfl)⟩
  | .ptr ps,v,F,h => by
    simp only [CR] at h ⊢
    obtain ⟨b,vals,ty,F',h1,h2,h5,h3,h4⟩:=h
    exact ⟨b,vals,ty,F',h1,h2,h5,Rs_mono hU (fun _ _ => rfl) ps _ F' h3 (fun _ _ => rfl),h4⟩
  | .pc ps,v,F,h => by
    simp only [CR] at h ⊢
    obtain ⟨h0,b,o0,xs,h1,h2,h3,h4⟩:=h
    exact ⟨h0,b,o0,xs,h1,hU _ h2,h3,Rs_mono hU (fun _ _ => rfl) ps _ _ h4 (fun _ _ => rfl)⟩
  | .fn f xs,v,F,h => by simp only [CR] at h ⊢; obtain ⟨h0,us,e,hr⟩:=h; exact ⟨h0,us,e,CRs_U hU xs _ _ hr⟩
  | .tup xs,v,F,h => by simp only [CR] at h ⊢; obtain ⟨us,e,hr⟩:=h; exact ⟨us,e,CRs_U hU xs _ F hr⟩
theorem CRs_U {U U':Nat → Prop} (hU:∀ k,U k → U' k):∀ (cs:List CV) (vs:List Value) (F:List Nat),CRs w U cs vs F → CRs w U' cs vs F
  | [],[],F,h => by simpa only [CRs] using h
  | c :: cs,v :: vs,F,h => by
    simp only [CRs] at h ⊢
    obtain ⟨F1,F2,h1,h2,h3⟩:=h
    exact ⟨F1,F2,CR_U hU c v F1 h1,CRs_U hU cs vs F2 h2,h3⟩
  | [],_ :: _,F,h => by simp only [CRs] at h
  | _ :: _,[],F,h => by simp only [CRs] at h
end
theorem CR_noIm {U U':Nat → Prop} (c:CV) (v:Value) (F:List Nat) (hs:noImC c) (h:CR w U c v F):CR w U' c v F:=by
  cases c with
  | tup xs => simp only [CR,noImC] at h hs ⊢; obtain ⟨vs,e,hr⟩:=h; exact ⟨vs,e,CRs_noIm hs hr⟩
  | v p => exact CR1_noIm (c:=.v p) hs h
  | agg ps => exact CR1_noIm (c:=.agg ps) hs h
  | ptr ps => exact CR1_noIm (c:=.ptr ps) hs h
  | any => exact CR1_noIm (c:=.any) hs h
  | _ => simp [noImC,noImC1] at hs
theorem oneCell_cells {v:Value} (h:v.oneCell' = true):v.cells = #[v]:=by cases v <;> first | rfl | (simp [Value.oneCell'] at h)
theorem anys_ARs {U:Nat → Prop} {O:Nat → AObj}:∀ {bs:List AV} {vv:List Value},bs.length = vv.length → ARs w U O ι (bs.map fun _ => .any) vv
  | [],[],_ => by simp [ARs]
  | b :: bs,u :: vv,h => by simp only [List.map_cons,ARs,AR]; exact ⟨trivial,anys_ARs (by simpa using h)⟩
  | [],_ :: _,h => by simp at h
  | _ :: _,[],h => by simp at h
theorem boxCells_R (h:Sim C σ a w ι Fs) (ha:Agr σ.o τ) {us:Nat → Value} {toks:List Nat}:∀ {cs:List AV} {vs:List Value} {ps:List PV} {l:List Nat} {j:Nat},ARs w (Un C w Fs) σ.o ι cs vs → (∀ x ∈ vs,x.oneCell' = true) →
    (∀ (i:Nat) v,vs[i]? = some v → us (j + i) = v) → boxCells us toks τ j cs = some (ps,l) →
    Rs w (Un C w Fs) ps vs (l.flatMap Fs) ∧ (∀ g,g ∈ l → σ.o g ≠ .none) ∧ (deadBox toks j cs).map (·.1) = l ∧ ∀ b,b ∈ deadBox toks j cs → b.2 = .dead
  | [],[],ps,l,j,_,_,_,hc => by
    simp [boxCells] at hc
    obtain ⟨rfl,rfl⟩:=hc
    exact ⟨by simp [Rs],by simp,rfl,by simp [deadBox]⟩
  | x :: cs,v :: vs,ps,l,j,hx,h1,hu,hc => by
    simp only [ARs] at hx
    simp only [boxCells] at hc
    split at hc
    · rename_i p l1 ps2 l2 e1 e2
      cases hc
      obtain ⟨r1,r2,r3,r4⟩:=boxCells_R h ha hx.2 (fun y hy => h1 y (by simp [hy])) (fun i y hy => by have:=hu (i + 1) y (by simpa using hy); rwa [show j + (i + 1) = j + 1 + i by omega] at this) e2
      cases htk:toks.contains j with
      | true =>
        rw [htk] at e1
        simp at e1
        obtain ⟨rfl,rfl⟩:=e1
        have hv:=hu 0 v rfl
        have hone:=h1 v (by simp)
        refine ⟨?_,by simpa using r2,by simp only [deadBox,htk,List.nil_append]; exact r3,fun b hb => ?_⟩
        · simp only [Rs,List.nil_append,R]
          exact ⟨[],l2.flatMap Fs,⟨hv.symm,⟨hone,oneCell_cells hone⟩,rfl⟩,r1,by simp⟩
        · simp only [deadBox,htk,List.nil_append] at hb; exact r4 b hb
      | false =>
        rw [htk] at e1
        simp at e1
        obtain ⟨s1,s2⟩:=toPV_R h ha hx.1 e1
        refine ⟨by simp only [Rs,List.flatMap_append]; exact ⟨_,_,s1,r1,rfl⟩,fun g hg => ?_,?_,fun b hb => ?_⟩
        · rcases List.mem_append.1 hg with hg | hg
          · exact s2 g hg
          · exact r2 g hg
        · simp only [deadBox,htk,List.map_append,r3]
          congr 1
          unfold toPV at e1
          split at e1
          · split at e1
            · cases e1; rfl
            · cases e1
          · cases e1; rfl
          · split at e1
            · cases e1; rfl
            · cases e1
          · cases e1
        · simp only [deadBox,htk,List.mem_append] at hb
          rcases hb with hb | hb
          · cases x <;> simp at hb
            rw [hb]
          · exact r4 b hb
    · cases hc
  | [],_ :: _,_,_,_,hx,_,_,_ => by simp only [ARs] at hx
  | _ :: _,[],_,_,_,hx,_,_,_ => by simp only [ARs] at hx
theorem boxNew_oe {toks:List Nat} {k:Nat}:∀ {xs:List AV} {ps:List PV} {j:Nat} (x:Nat) (ob:AObj),(x,ob) ∈ (boxNew toks k j xs ps).2 → (k + j ≤ x ∧ x < k + j + xs.length) ∧ ∃ e s n cs,ob = .arr 0 e s n cs
  | [],ps,j,x,ob,h => by simp [boxNew] at h
  | y :: xs,[],j,x,ob,h => by simp [boxNew] at h
  | y :: xs,p :: ps,j,x,ob,h => by
    simp only [boxNew] at h
    split at h
    · obtain ⟨h1,h2⟩:=boxNew_oe x ob h; exact ⟨by simp; omega,h2⟩
    · simp only [List.mem_append] at h
      rcases h with h | h
      · obtain ⟨rfl,h2⟩:=impCell_oe x ob h; exact ⟨by simp,h2⟩
      · obtain ⟨h1,h2⟩:=boxNew_oe x ob h; exact ⟨by simp; omega,h2⟩
theorem boxNew_came {toks:List Nat} {g k:Nat}:∀ {xs:List AV} {ps:List PV} {vs:List Value} {Fp:List Nat} {j:Nat} {σ:AEnv} {ι:Nat → Value} {Fs:Nat → List Nat},Sim C σ a w ι Fs → σ.o g = .none →
    (∀ x ob,(x,ob) ∈ (boxNew toks k j xs ps).2 → σ.o x = .none) → k + j + xs.length ≤ g → xs.length = ps.length →
    Rs w (Un C w Fs) ps vs Fp → (∀ b,b ∈ Fp → b ∈ Fs g) → Fp.Nodup → (∀ (i:Nat) x v,toks.contains (j + i) = true → xs[i]? = some x → vs[i]? = some v → AR w (Un C w Fs) σ.o ι x v) →
    ∃ ι' Fs',Sim C (AEnv.wr (boxNew toks k j xs ps).2 σ) a w ι' Fs' ∧ Later w w (Un C w Fs) (Un C w Fs') σ.o (AEnv.wr (boxNew toks k j xs ps).2 σ).o ι ι' ∧ ARs w (Un C w Fs') (AEnv.wr (boxNew toks k j xs ps).2 σ).o ι' (boxNew toks k j xs ps).1 vs ∧
      (∀ b,b ∈ Fs' g ↔ b ∈ Fs g ∧ b ∉ Fp) ∨ False
  | [],[],[],Fp,j,σ,ι,Fs,h,hg,hk,hkg,hl,hR,hsub,hnd,htk => by
    simp only [Rs] at hR
    subst hR
    exact ⟨ι,Fs,.inl ⟨h,Later.refl h,by simp [boxNew,ARs],by simp⟩⟩
  | x :: xs,p :: ps,v :: vs,Fp,j,σ,ι,Fs,h,hg,hk,hkg,hl,hR,hsub,hnd,htk => by
    simp only [List.length_cons] at hkg hl
    simp only [Rs] at hR
    obtain ⟨F1,F2,h1,h2,rfl⟩:=hR
    rw [List.nodup_append] at hnd
    have hkr:∀ y ob,(y,ob) ∈ (boxNew toks k (j + 1) xs ps).2 → σ.o y = .none:=fun y ob hm => hk y ob (by
      simp only [boxNew]; split
      · exact hm
      · exact List.mem_append_right _ hm)
    obtain ⟨ι1,Fs1,hc⟩:=boxNew_came (toks:=toks) (g:=g) (k:=k) (j:=j + 1) h hg hkr (by omega) (by omega) h2 (fun b hb => hsub b (by simp [hb])) hnd.2.1
      (fun i x' v' ht hx' hv' => htk (i + 1) x' v' (by rw [show j + (i + 1) = j + 1 + i by omega]; exact ht) (by simpa using hx') (by simpa using hv'))
    rcases hc with ⟨c1,l1,r1,g1⟩ | hc
    · cases htok:toks.contains j with
      | true =>
        have hp:=htk 0 x v (by simpa using htok) rfl rfl
        simp only [boxNew,htok,ARs]
        have hF1:∀ b,b ∈ F1 → b ∈ Fs g:=fun b hb => hsub b (by simp [hb])
        obtain ⟨c2,g2,l2⟩:=c1.letgo (g:=g) (by rw [wr_o_other (fun y ob hm e => by subst e; have:=(boxNew_oe _ _ hm).1; omega)]; exact hg) F1
        refine ⟨_,_,.inl ⟨c2,l1.trans l2 (fun o ho => ho),⟨AR_later (l1.trans l2 (fun o ho => ho)) _ _ hp,ARs_later l2 _ _ r1⟩,fun b => ?_⟩⟩
        rw [g2,g1]; simp only [List.mem_append,not_or]
        constructor
        · rintro ⟨⟨x1,x2⟩,x3⟩; exact ⟨x1,x3,x2⟩
        · rintro ⟨x1,x3,x2⟩; exact ⟨⟨x1,x2⟩,x3⟩
      | false =>
        simp only [boxNew,htok,ARs]
        have hkp:∀ y ob,(y,ob) ∈ (impCell true (k + j) p).2 → σ.o y = .none:=fun y ob hm => hk y ob (by simp only [boxNew,htok]; exact List.mem_append_left _ hm)
        have hσ1g:(AEnv.wr (boxNew toks k (j + 1) xs ps).2 σ).o g = .none:=by
          rw [wr_o_other (fun y ob hm e => by subst e; have:=(boxNew_oe _ _ hm).1; omega)]; exact hg
        have hσ1k:∀ y ob,(y,ob) ∈ (impCell true (k + j) p).2 → (AEnv.wr (boxNew toks k (j + 1) xs ps).2 σ).o y = .none:=fun y ob hm => by
          rw [wr_o_other (fun z ob' hm' e => ?_)]
          · exact hkp y ob hm
          · subst e
            have h3:=(boxNew_oe _ _ hm').1
            have h4:=(impCell_oe _ _ hm).1
            omega
        obtain ⟨ι2,Fs2,c2,r2⟩:=impCell_came (own:=true) c1 hσ1g hσ1k (by omega) (R_mono (fun z hz => l1.u z hz) (fun _ _ => rfl) p v F1 h1 (fun _ _ => rfl))
          (fun b hb => (g1 b).2 ⟨hsub b (by simp [hb]),fun hb2 => hnd.2.2 b hb b hb2 rfl⟩) hnd.1
        refine ⟨ι2,Fs2,.inl ⟨?_,?_,?_,fun b => ?_⟩⟩
        · rw [wr_append]; exact c2.sim
        · rw [wr_append]; exact l1.trans c2.later (wr_arr_dead hσ1k)
        · rw [wr_append]; exact ⟨r2,ARs_later c2.later _ _ r1⟩
        · rw [c2.ghost,g1]; simp only [List.mem_append,not_or]
          constructor
          · rintro ⟨⟨x1,x2⟩,x3⟩; exact ⟨x1,x3,x2⟩
          · rintro ⟨x1,x3,x2⟩; exact ⟨⟨x1,x2⟩,x3⟩
    · exact hc.elim
  | [],_ :: _,_,_,_,_,_,_,_,_,_,_,hl,_,_,_,_ => by simp at hl
  | _ :: _,[],_,_,_,_,_,_,_,_,_,_,hl,_,_,_,_ => by simp at hl
  | [],[],_ :: _,_,_,_,_,_,_,_,_,_,_,h,_,_,_ => by simp only [Rs] at h
  | _ :: _,_ :: _,[],_,_,_,_,_,_,_,_,_,_,h,_,_,_ => by simp only [Rs] at h
theorem argsL_split {us:Nat → Value} {lm:List LM} {avs:List AV}:(∃ toks ms o xs,lm = .box toks :: ms ∧ avs = .box o 0 :: xs) ∨ ((∀ us,argsL us τ lm avs = argsL1 τ lm avs) ∧ ∀ k cs r,argsBack τ k lm avs cs = some r → ∃ b,argsBack1 τ lm avs cs = some b ∧ r = (b,[])):=by
  by_cases hb:∃ toks ms o xs,lm = .box toks :: ms ∧ avs = .box o 0 :: xs
  · exact .inl hb
  · refine .inr ⟨fun us => ?_,fun k cs r hr => ?_⟩
    · unfold argsL
      split
      · rename_i toks ms o xs
        exact absurd ⟨toks,ms,o,xs,rfl,rfl⟩ hb
      · rfl
    · unfold argsBack at hr
      split at hr
      · rename_i toks ms o xs ps cs'
        exact absurd ⟨toks,ms,o,xs,rfl,rfl⟩ hb
      · cases hr
      · split at hr
        · rename_i b hbk
          cases hr
          exact ⟨b,hbk,rfl⟩
        · cases hr
theorem call_sound (h:Sim C σ a w ι Fs) (ha:Agr σ.o τ) {f d:Nat} {lm:List LM} {avs:List AV} {vals:List Value} (hargs:ARs w (Un C w Fs) σ.o ι avs vals)
    {cargs:(Nat → Value) → List CV} {vw ln:List Nat} (hl:∀ us,argsL us τ lm avs = some (cargs us,vw,ln)) (hn:ln.Nodup) (hvl:∀ x,x ∈ vw → x ∉ ln)
    {cres:CV} {outs:(Nat → Value) → List CV} (hc:∀ us,FnW P f (cargs us) cres (outs us)) {b1 b2:List (Nat × AObj)} (hb:∀ us,argsBack τ (64 * d + 40) lm avs (outs us) = some (b1,b2)) (htok:∀ us,tokOk us lm (outs us))
    (hno:vw ≠ [] → noImC cres ∧ ∀ us,noImCs (outs us)) (hsm:small cres = true) (hsm2:small2 b2 cres = true) (hgh:σ.o (64 * d + 63) = .none) (hfr:∀ x ob,(x,ob) ∈ (imp (H d) (64 * d) cres).2 → σ.o x = .none)
    (hfr2:∀ x ob,(x,ob) ∈ b2.tail → σ.o x = .none) :
    Calls P f vals.toArray w (fun e w' => ∃ v ι' Fs',e = .returned v ∧ Sim C (AEnv.wr (b2 ++ ((imp (H d) (64 * d) cres).2 ++ b1)) σ) a w' ι' Fs' ∧ AR w' (Un C w' Fs') (AEnv.wr (b2 ++ ((imp (H d) (64 * d) cres).2 ++ b1)) σ).o ι' (imp (H d) (64 * d) cres).1 v):=by
  -- what is common: from what came back to the result
  have finish:∀ (us:Nat → Value) (w':World) (v:Value) (Fr Fo F G':List Nat) (L:List Ent),GrownF w w' F → (∀ k,k ∈ F → ∃ o,o ∈ ln ∧ k ∈ Fs o) → L.map Ent.name = ln → bkOf L = b1 →
      (∀ e,e ∈ L → EntOk C σ w ι Fs F w' (fun k => k < w'.heap.size ∧ (Un C w Fs k ∨ w.heap.size ≤ k ∨ k ∈ F) ∧ k ∉ Fr ++ Fo) e) → (L.flatMap Ent.piece ++ G').Perm Fo → (Fr ++ Fo).Nodup →
      (∀ k,k ∈ Fr ++ Fo → k < w'.heap.size ∧ (w.heap.size ≤ k ∨ k ∈ F)) → CR w' (fun k => k < w'.heap.size ∧ (Un C w Fs k ∨ w.heap.size ≤ k ∨ k ∈ F) ∧ k ∉ Fr ++ Fo) cres v Fr →
      ∃ ι' Fs',Sim C (AEnv.wr ((imp (H d) (64 * d) cres).2 ++ b1) σ) a w' ι' Fs' ∧ Later w w' (Un C w Fs) (Un C w' Fs') σ.o (AEnv.wr ((imp (H d) (64 * d) cres).2 ++ b1) σ).o ι ι' ∧
        AR w' (Un C w' Fs') (AEnv.wr ((imp (H d) (64 * d) cres).2 ++ b1) σ).o ι' (imp (H d) (64 * d) cres).1 v ∧ (∀ k,k ∈ G' → k ∈ Fs' (64 * d + 63)) ∧
        (∀ k,(k < w'.heap.size ∧ (Un C w Fs k ∨ w.heap.size ≤ k ∨ k ∈ F) ∧ k ∉ Fr ++ Fo) → Un C w' Fs' k) ∧ (∀ o,o ∈ ln → (AEnv.wr ((imp (H d) (64 * d) cres).2 ++ b1) σ).o o = (AEnv.wr b1 σ).o o ∧ ((AEnv.wr b1 σ).o o ≠ .dead → ι' o = ι o)):=by
    intro us w' v Fr Fo F G' L hg hF hLn hLb hok hperm hnd hfrsh hres
    have hp2:(Fr ++ G' ++ L.flatMap Ent.piece).Perm (Fr ++ Fo):=by
      rw [List.append_assoc]
      exact List.Perm.append_left Fr (List.perm_append_comm.trans hperm)
    obtain ⟨Fs1,h1,h2,h3,h4,h5,h6⟩:=h.handed (U':=fun k => k < w'.heap.size ∧ (Un C w Fs k ∨ w.heap.size ≤ k ∨ k ∈ F) ∧ k ∉ Fr ++ Fo) hg (L:=L) (G:=Fr ++ G') hgh (hLn ▸ hn)
      (fun k hk => by obtain ⟨o,ho,hk'⟩:=hF k hk; rw [← hLn] at ho; obtain ⟨e,he,rfl⟩:=List.mem_map.1 ho; exact ⟨e,he,hk'⟩) hok (hp2.nodup_iff.2 hnd)
      (fun k hk => hfrsh k (hp2.mem_iff.1 hk)) (fun k hk => ⟨hk.1,hk.2.1,fun hm => hk.2.2 (hp2.mem_iff.1 hm)⟩)
    rw [hLb] at h1 h5
    have hnames:∀ x,x ∉ ln → (AEnv.wr b1 σ).o x = σ.o x:=fun x hx => by rw [← hLb]; exact bk_other (by rw [hLn]; exact hx)
    have hthere:∀ o,o ∈ ln → σ.o o ≠ .none:=fun o ho => by rw [← hLn] at ho; obtain ⟨e,he,rfl⟩:=List.mem_map.1 ho; exact (hok e he).there
    have hg1:(AEnv.wr b1 σ).o (64 * d + 63) = .none:=by rw [hnames _ (fun hm => hthere _ hm hgh)]; exact hgh
    have hk1:∀ x ob,(x,ob) ∈ (imp (H d) (64 * d) cres).2 → (AEnv.wr b1 σ).o x = .none:=fun x ob hx => by rw [hnames _ (fun hm => hthere _ hm (hfr x ob hx))]; exact hfr x ob hx
    obtain ⟨ι2,Fs2,hc2,hr2⟩:=imp_came (own:=H d) (k:=64 * d) h1 hg1 hk1 hsm (CR_U h3 _ _ _ hres) (fun b hb => by rw [h2]; exact List.mem_append_left _ hb) (List.nodup_append.1 hnd).1
    have hL:=h5.trans hc2.later (wr_arr_dead hk1)
    rw [wr_append]
    refine ⟨ι2,Fs2,hc2.sim,hL,hr2,fun k hk => (hc2.ghost k).2 ⟨by rw [h2]; exact List.mem_append_right _ hk,fun hkF => ?_⟩,fun k hk => hc2.un (h3 k hk),fun o ho => ?_⟩
    · exact (List.nodup_append.1 (hp2.nodup_iff.2 hnd)).1 |> fun hh => (List.nodup_append.1 hh).2.2 k hkF k hk rfl
    · have e1:(AEnv.wr (imp (H d) (64 * d) cres).2 (AEnv.wr b1 σ)).o o = (AEnv.wr b1 σ).o o:=wr_o_other (fun k ob hm e => by subst e; exact hthere _ ho (hfr _ _ hm))
      refine ⟨e1,fun hd => ?_⟩
      have hne:(AEnv.wr b1 σ).o o ≠ .none:=by
        rw [← hLn] at ho
        obtain ⟨e,he,rfl⟩:=List.mem_map.1 ho
        rw [← hLb,bk_o (hLn ▸ hn) e he]
        rcases (hok e he).kind with q | ⟨_,_,_,q⟩ | ⟨_,_,_,_,_,_,_,_,_,_,_,q,_⟩ <;> rw [q] <;> simp
      rcases hc2.later.name o with q | q | ⟨_,_,_,_,q⟩ | ⟨_,_,_,_,_,_,_,_,_,_,_,_,q,_⟩ | ⟨_,_,_,_,q⟩
      · exact absurd q hne
      · rw [e1] at q; exact absurd q hd
      · exact q
      · exact q
      · exact q
  rcases argsL_split (τ:=τ) (us:=fun _ => undef) (lm:=lm) (avs:=avs) with ⟨toks,ms,o,xs,rfl,rfl⟩ | ⟨hL1,hB1⟩
  · -- a box first
    obtain ⟨v0,vs,rfl⟩:∃ v0 vs,vals = v0 :: vs:=by cases vals with | nil => simp only [ARs] at hargs | cons v0 vs => exact ⟨v0,vs,rfl⟩
    simp only [ARs] at hargs
    obtain ⟨hx0,hxs⟩:=hargs
    obtain ⟨bcs,hτ⟩:∃ bcs,τ o = .box bcs:=by
      have:=hl (fun _ => undef)
      simp only [argsL] at this
      split at this
      · exact ⟨_,‹_›⟩
      · cases this
    obtain ⟨ho,k0,hk0,hv0⟩:=agr_box ha hx0 hτ
    obtain ⟨bv,bty,hbh,hbm,hbr,hb1,hFo⟩:=box_mem h ho hk0
    let us:Nat → Value:=fun j => bv.toList.getD j undef
    have hl':=hl us
    simp only [argsL,hτ] at hl'
    split at hl'
    · rename_i ps l cs' bs ls e1 e2
      simp only [Option.some.injEq,Prod.mk.injEq] at hl'
      obtain ⟨hca,rfl,hlneq⟩:=hl'
      obtain ⟨q1,q2,q3,q4⟩:=boxCells_R h ha (us:=us) (j:=0) hbr hb1 (fun i v hv => by show bv.toList.getD (0 + i) undef = v; rw [Nat.zero_add,List.getD_eq_getElem?_getD,hv]; rfl) e1
      have hln:ln = o :: (l ++ ls):=by rw [← hlneq]; rfl
      rw [hln] at hn
      have hn1:=List.nodup_cons.1 hn
      have hn2:=List.nodup_append.1 hn1.2
      obtain ⟨F2,r1,r2,r3,r4,r5⟩:=argsL1_R h ha hxs e2 hn2.2.1 bs (fun o ho => ho)
      have hlF:∀ k,k ∈ l.flatMap Fs → ∃ g,g ∈ l ∧ k ∈ Fs g:=fun k hk => by obtain ⟨g,g1,g2⟩:=List.mem_flatMap.1 hk; exact ⟨g,g1,g2⟩
      have hFin:∀ k,k ∈ (k0 :: l.flatMap Fs) ++ F2 → ∃ o,o ∈ ln ∧ k ∈ Fs o:=fun k hk => by
        rw [hln]
        rcases List.mem_append.1 hk with hk | hk
        · rcases List.mem_cons.1 hk with rfl | hk
          · exact ⟨o,by simp,by rw [hFo]; simp⟩
          · obtain ⟨g,g1,g2⟩:=hlF k hk; exact ⟨g,by simp [g1],g2⟩
        · obtain ⟨g,g1,g2⟩:=r3 k hk; exact ⟨g,by simp [g1],g2⟩
      have hFnd:((k0 :: l.flatMap Fs) ++ F2).Nodup:=by
        rw [List.nodup_append,List.nodup_cons]
        refine ⟨⟨fun hk => ?_,gone_nodup h hn2.1⟩,r2,fun y hy z hz e => ?_⟩
        · obtain ⟨g,g1,g2⟩:=hlF k0 hk
          exact h.dis o g (fun e => hn1.1 (by rw [e]; simp [g1])) k0 (by rw [hFo]; simp) g2
        · subst e
          obtain ⟨g',g1',g2'⟩:=r3 y hz
          rcases List.mem_cons.1 hy with rfl | hy
          · exact h.dis o g' (fun e => hn1.1 (by rw [e]; simp [g1'])) y (by rw [hFo]; simp) g2'
          · obtain ⟨g,g1,g2⟩:=hlF y hy
            exact h.dis g g' (hn2.2.2 g g1 g' g1') y g2 g2'
      have hcr:CRs w (Vw C w Fs bs) (cargs us) (v0 :: vs) ((k0 :: l.flatMap Fs) ++ F2):=by
        rw [← hca]
        simp only [CRs,CR]
        exact ⟨k0 :: l.flatMap Fs,F2,⟨k0,bv,bty,l.flatMap Fs,hv0,hbh,hb1,Rs_mono (fun k hk => Vw_un hk) (fun _ _ => rfl) _ _ _ q1 (fun _ _ => rfl),rfl⟩,r1,rfl⟩
      have hVF:∀ k,Vw C w Fs bs k → k < w.heap.size ∧ k ∉ (k0 :: l.flatMap Fs) ++ F2:=fun k hk => by
        rcases hk with hk | ⟨hk,g,hg,hkg⟩
        · exact ⟨hk.1,fun hm => by obtain ⟨o',_,ho'⟩:=hFin k hm; exact hk.2.2 o' ho'⟩
        · exact ⟨hk,fun hm => by
            obtain ⟨o',ho1,ho'⟩:=hFin k hm
            exact h.dis g o' (fun e => hvl g hg (e ▸ ho1)) k hkg ho'⟩
      refine ((hc us).call w (Vw C w Fs bs) _ _ hcr hFnd hVF (fun k hk => by obtain ⟨o',_,ho'⟩:=hFin k hk; exact (h.own o' k ho').1)).mono ?_
      rintro e w' ⟨v,Fr,Fo,rfl,hg,hres,hout,hnd,hfrsh⟩
      -- what is looked at no longer matters
      have hUU:∀ k,(k < w'.heap.size ∧ (Vw C w Fs [] k ∨ w.heap.size ≤ k ∨ k ∈ (k0 :: l.flatMap Fs) ++ F2) ∧ k ∉ Fr ++ Fo) → (k < w'.heap.size ∧ (Un C w Fs k ∨ w.heap.size ≤ k ∨ k ∈ (k0 :: l.flatMap Fs) ++ F2) ∧ k ∉ Fr ++ Fo):=fun k hk => by
        refine ⟨hk.1,?_,hk.2.2⟩
        rcases hk.2.1 with (h1 | ⟨_,g,hg',_⟩) | h1
        · exact .inl h1
        · cases hg'
        · exact .inr h1
      have hres':CR w' (fun k => k < w'.heap.size ∧ (Un C w Fs k ∨ w.heap.size ≤ k ∨ k ∈ (k0 :: l.flatMap Fs) ++ F2) ∧ k ∉ Fr ++ Fo) cres v Fr:=by
        by_cases hbs:bs = []
        · subst hbs; exact CR_U hUU _ _ _ hres
        · exact CR_noIm _ _ _ (hno hbs).1 hres
      have hout':CRs w' (fun k => k < w'.heap.size ∧ (Un C w Fs k ∨ w.heap.size ≤ k ∨ k ∈ (k0 :: l.flatMap Fs) ++ F2) ∧ k ∉ Fr ++ Fo) (outs us) (v0 :: vs) Fo:=by
        by_cases hbs:bs = []
        · subst hbs; exact CRs_U hUU _ _ _ hout
        · exact CRs_noIm ((hno hbs).2 us) hout
      have hbu:=hb us
      have htu:=htok us
      generalize outs us = ou at hout' hbu htu
      match ou,hout',hbu,htu with
      | .ptr ps' :: oc,hout',hbu,htu =>
        simp only [argsBack,hτ] at hbu
        split at hbu
        · rename_i r er
          split at hbu
          · rename_i hlen
            simp only [Option.some.injEq,Prod.mk.injEq] at hbu
            obtain ⟨hb1',hb2'⟩:=hbu
            simp only [CRs,CR] at hout'
            obtain ⟨Fb,Fo2,⟨b',bv',bty',F',t1,t2,t3,t4,rfl⟩,hout2,rfl⟩:=hout'
            rw [hv0] at t1
            cases t1
            have hUF:∀ k,Un C w Fs k → k ∉ (k0 :: l.flatMap Fs) ++ F2:=fun k hk => (hVF k (Vw_un hk)).2
            obtain ⟨L2,G2,s1,s2,s3,s4⟩:=r5 w' (fun k => k < w'.heap.size ∧ (Un C w Fs k ∨ w.heap.size ≤ k ∨ k ∈ (k0 :: l.flatMap Fs) ++ F2) ∧ k ∉ Fr ++ ((k0 :: F') ++ Fo2)) ((k0 :: l.flatMap Fs) ++ F2) oc Fo2 r hg hUF (fun g hg1 k hk hkF => by
              rcases List.mem_append.1 hkF with hkF | hkF
              · rcases List.mem_cons.1 hkF with rfl | hkF
                · exact absurd hk (fun hk => h.dis o g (fun e => hn1.1 (by rw [e]; simp [hg1])) k (by rw [hFo]; simp) hk)
                · obtain ⟨g',g1,g2⟩:=hlF k hkF
                  exact absurd hk (h.dis g' g (hn2.2.2 g' g1 g hg1) k g2)
              · exact hkF) hout2 er
            let Ld:List Ent:=(deadBox toks 0 bcs).map fun b => ⟨b.1,.dead,[],[],[]⟩
            have hLd1:bkOf Ld = deadBox toks 0 bcs:=by
              have:∀ l:List (Nat × AObj),(∀ b,b ∈ l → b.2 = .dead) → bkOf (l.map fun b => (⟨b.1,.dead,[],[],[]⟩:Ent)) = l:=by
                intro l hl
                induction l with
                | nil => rfl
                | cons b l ih =>
                  obtain ⟨n,ob⟩:=b
                  have:=hl (n,ob) (by simp)
                  simp only at this
                  subst this
                  have ih':=ih (fun b hb => hl b (by simp [hb]))
                  simp only [bkOf,List.map_cons] at ih' ⊢
                  rw [ih']
              exact this _ q4
            have hLd2:Ld.map Ent.name = l:=by rw [← q3]; simp [Ld]
            have hLd3:Ld.flatMap Ent.piece = []:=by simp [Ld,List.flatMap_map]
            let L:List Ent:=⟨o,.box (bcs.map fun _ => .any),[],[k0],[k0]⟩ :: (Ld ++ L2)
            have hLb:bkOf L = b1:=by
              rw [← hb1',← hLd1,← s1]; simp [L,bkOf]
            have hLn:L.map Ent.name = ln:=by rw [hln]; simp [L,hLd2,s2]
            have hLp:(L.flatMap Ent.piece ++ (F' ++ G2)).Perm ((k0 :: F') ++ Fo2):=by
              simp only [L,List.flatMap_cons,List.flatMap_append,hLd3,List.nil_append,List.cons_append,List.append_assoc]
              refine List.Perm.cons _ ?_
              have:(L2.flatMap Ent.piece ++ (F' ++ G2)).Perm (F' ++ (L2.flatMap Ent.piece ++ G2)):=by
                rw [← List.append_assoc,← List.append_assoc]
                exact List.Perm.append_right G2 List.perm_append_comm
              exact this.trans (List.Perm.append_left F' s3)
            have hlenb:=ARs_length _ _ hbr
            obtain ⟨ι2,Fs2,z1,z2,z3,z4,z5,z6⟩:=finish us w' v Fr ((k0 :: F') ++ Fo2) ((k0 :: l.flatMap Fs) ++ F2) (F' ++ G2) L hg hFin hLn hLb (fun e he => by
                rcases List.mem_cons.1 he with rfl | he
                · refine ⟨by rw [ho]; simp,by simp,by simp,by simp,by simp,.inr (.inl ⟨_,_,ho,rfl⟩),fun U'' O'' _ _ => ?_⟩
                  refine ⟨k0,bv',bty',hk0,t2,?_,t3,rfl⟩
                  have hl2:=Rs_length _ _ _ t4
                  have:bcs.length = bv'.toList.length:=by rw [← hl2]; exact hlen.1.symm
                  exact anys_ARs this
                · rcases List.mem_append.1 he with he | he
                  · obtain ⟨b,hb',rfl⟩:=List.mem_map.1 he
                    refine ⟨q2 b.1 (by rw [← q3]; exact List.mem_map_of_mem hb'),by simp,by simp,by simp,by simp,.inl rfl,fun U'' O'' _ _ => by simp only [ObR]⟩
                  · exact s4 e he) hLp hnd hfrsh hres'
            have hob1:(AEnv.wr b1 σ).o o = .box (bcs.map fun _ => .any):=by
              rw [← hLb]; exact bk_o (hLn ▸ (hln ▸ hn)) ⟨o,.box (bcs.map fun _ => .any),[],[k0],[k0]⟩ (by simp [L])
            obtain ⟨z7,z8⟩:=z6 o (by rw [hln]; simp)
            rw [hob1] at z7 z8
            have hio:=z8 (by simp)
            have hnd2:=(List.nodup_append.1 hnd).2.1
            have hfr2':∀ x ob,(x,ob) ∈ (boxNew toks (64 * d + 40) 0 bcs ps').2 → (AEnv.wr ((imp (H d) (64 * d) cres).2 ++ b1) σ).o x = .none:=fun x ob hx => by
              have h1:=hfr2 x ob (by rw [← hb2']; exact hx)
              have h2:=(boxNew_oe x ob hx).1
              rw [wr_o_other (fun k ob' hm e => ?_)]
              · exact h1
              · subst e
                rcases List.mem_append.1 hm with hm | hm
                · have hb2ne:b2.tail.isEmpty = false:=by rw [← hb2']; exact List.isEmpty_eq_false_iff.2 (List.ne_nil_of_mem hx)
                  have:x < 64 * d + 40:=by
                    cases cres with
                    | tup ys =>
                      simp only [small2,hb2ne,Bool.false_or,decide_eq_true_eq] at hsm2
                      simp only [small,Bool.and_eq_true] at hsm
                      have:=(impTup_oe (tupStep_pos ys) hsm.2 x _ hm).1
                      have:=tupStep_le2 hsm2
                      omega
                    | v p => have:=(impOne_oe (st:=20) (by omega) (c:=.v p) (by simpa [small] using hsm) x _ hm).1; omega
                    | agg p => have:=(impOne_oe (st:=20) (by omega) (c:=.agg p) (by simpa [small] using hsm) x _ hm).1; omega
                    | ptr p => simp [imp] at hm; omega
                    | _ => simp [imp,impOne] at hm
                  omega
                · rw [← hLb] at hm
                  obtain ⟨en,g1,g2⟩:=List.mem_map.1 hm
                  cases g2
                  have:en.name ∈ L.map Ent.name:=List.mem_map_of_mem g1
                  rw [hLn,hln] at this
                  rcases List.mem_cons.1 this with e' | this
                  · rw [e'] at h1; rw [ho] at h1; cases h1
                  · rcases List.mem_append.1 this with this | this
                    · exact q2 _ this h1
                    · exact r4 _ this h1
            have hgz:(AEnv.wr ((imp (H d) (64 * d) cres).2 ++ b1) σ).o (64 * d + 63) = .none:=by
              rw [wr_o_other (fun k ob' hm e => ?_)]
              · exact hgh
              · subst e
                rcases List.mem_append.1 hm with hm | hm
                · cases cres with
                  | tup ys =>
                    simp only [small,Bool.and_eq_true,decide_eq_true_eq] at hsm
                    have:=(impTup_oe (tupStep_pos ys) hsm.2 _ _ hm).1
                    have:=tupStep_le hsm.1
                    omega
                  | v p => have:=(impOne_oe (st:=20) (by omega) (c:=.v p) (by simpa [small] using hsm) _ _ hm).1; omega
                  | agg p => have:=(impOne_oe (st:=20) (by omega) (c:=.agg p) (by simpa [small] using hsm) _ _ hm).1; omega
                  | ptr p => simp [imp] at hm
                  | _ => simp [imp,impOne] at hm
                · rw [← hLb] at hm
                  obtain ⟨en,g1,g2⟩:=List.mem_map.1 hm
                  have g3:en.name = 64 * d + 63:=congrArg Prod.fst g2
                  have:en.name ∈ L.map Ent.name:=List.mem_map_of_mem g1
                  rw [hLn,hln,g3] at this
                  rcases List.mem_cons.1 this with e' | this
                  · rw [e',ho] at hgh; cases hgh
                  · rcases List.mem_append.1 this with this | this
                    · exact q2 _ this hgh
                    · exact r4 _ this hgh
            have hFsub:∀ y,y ∈ F' → y ∈ Fs2 (64 * d + 63):=fun y hy => z4 y (List.mem_append_left _ hy)
            obtain ⟨ι3,Fs3,hz⟩:=boxNew_came (toks:=toks) (g:=64 * d + 63) (k:=64 * d + 40) (j:=0) (xs:=bcs) z1 hgz hfr2' (by omega) hlen.1.symm (Rs_mono z5 (fun _ _ => rfl) _ _ _ t4 (fun _ _ => rfl)) hFsub
              ((List.nodup_cons.1 (List.nodup_append.1 hnd2).1).2) (fun i x u ht hx hu => by
                rw [Nat.zero_add] at ht
                have htk:=htu i (by simpa using ht)
                obtain ⟨u',_,g1,g3,_⟩:=Rs_get t4 htk
                rw [hu] at g1
                cases g1
                simp only [R] at g3
                obtain ⟨u2,g4,g5⟩:=ARs_get hbr hx
                have:us i = u2:=by show bv.toList.getD i undef = u2; rw [List.getD_eq_getElem?_getD,g4]; rfl
                rw [g3.1,this]
                exact AR_later z2 _ _ g5)
            rcases hz with ⟨y1,y2,y3,_⟩ | hz
            · have hob3:(AEnv.wr (boxNew toks (64 * d + 40) 0 bcs ps').2 (AEnv.wr ((imp (H d) (64 * d) cres).2 ++ b1) σ)).o o = .box (bcs.map fun _ => .any):=by
                rw [wr_o_other (fun k ob' hm e => by subst e; have:=hfr2' _ _ hm; rw [z7] at this; cases this),z7]
              have hio3:ι3 o = .pointer (some ⟨k0,0,none⟩):=by
                rcases y2.name o with q | q | ⟨_,_,_,_,q⟩ | ⟨_,_,_,_,_,_,_,_,_,_,q,_⟩ | ⟨_,_,q,_⟩
                · rw [z7] at q; cases q
                · rw [hob3] at q; cases q
                · rw [q,hio,hk0]
                · rw [z7] at q; cases q
                · rw [z7] at q; cases q
              have hfin:=y1.refine hob3 (cs':=(boxNew toks (64 * d + 40) 0 bcs ps').1) (fun k vals ty e1 e2 => by
                rw [hio3] at e1
                cases e1
                rw [t2] at e2
                cases e2
                exact y3)
              have eE:AEnv.wr (b2 ++ ((imp (H d) (64 * d) cres).2 ++ b1)) σ = (AEnv.wr (boxNew toks (64 * d + 40) 0 bcs ps').2 (AEnv.wr ((imp (H d) (64 * d) cres).2 ++ b1) σ)).upd o (.box (boxNew toks (64 * d + 40) 0 bcs ps').1):=by
                rw [← hb2']
                simp only [List.cons_append,AEnv.wr]
                rw [wr_append]
              rw [eE]
              refine ⟨v,ι3,Fs3,rfl,hfin,?_⟩
              have a1:=AR_later y2 _ _ z3
              -- the box's cells are told; nothing else
              refine AR_later (O':=((AEnv.wr (boxNew toks (64 * d + 40) 0 bcs ps').2 (AEnv.wr ((imp (H d) (64 * d) cres).2 ++ b1) σ)).upd o (.box (boxNew toks (64 * d + 40) 0 bcs ps').1)).o) ?_ _ _ a1
              refine ⟨fun _ hk => hk,fun _ _ => rfl,fun o' => ?_⟩
              by_cases e:o' = o
              · subst e; exact .inr (.inr (.inl ⟨_,(boxNew toks (64 * d + 40) 0 bcs ps').1,hob3,by simp [AEnv.upd],rfl⟩))
              · have:=(Later.refl y1).name o'
                have e2:((AEnv.wr (boxNew toks (64 * d + 40) 0 bcs ps').2 (AEnv.wr ((imp (H d) (64 * d) cres).2 ++ b1) σ)).upd o (.box (boxNew toks (64 * d + 40) 0 bcs ps').1)).o o' = (AEnv.wr (boxNew toks (64 * d + 40) 0 bcs ps').2 (AEnv.wr ((imp (H d) (64 * d) cres).2 ++ b1) σ)).o o':=by simp [AEnv.upd,e]
                rw [e2]; exact this
            · exact hz.elim
          · cases hbu
        · cases hbu
      | [],hout',_,_ => simp only [CRs] at hout'
      | .any :: oc,_,hbu,_ => simp [argsBack] at hbu
      | .v p :: oc,_,hbu,_ => simp [argsBack] at hbu
      | .agg p :: oc,_,hbu,_ => simp [argsBack] at hbu
      | .pc p :: oc,_,hbu,_ => simp [argsBack] at hbu
      | .fn f p :: oc,_,hbu,_ => simp [argsBack] at hbu
      | .tup p :: oc,_,hbu,_ => simp [argsBack] at hbu
    · cases hl'
  · -- no box
    let us:Nat → Value:=fun _ => undef
    have hl':=hl us
    rw [hL1] at hl'
    obtain ⟨F,r1,r2,r3,r4,r5⟩:=argsL1_R h ha hargs hl' hn vw (fun o ho => ho)
    obtain ⟨bb,hbb,hbe⟩:=hB1 _ _ _ (hb us)
    cases hbe
    have hVF:∀ k,Vw C w Fs vw k → k < w.heap.size ∧ k ∉ F:=fun k hk => by
      rcases hk with hk | ⟨hk,g,hg,hkg⟩
      · exact ⟨hk.1,fun hm => by obtain ⟨o',_,ho'⟩:=r3 k hm; exact hk.2.2 o' ho'⟩
      · exact ⟨hk,fun hm => by
          obtain ⟨o',ho1,ho'⟩:=r3 k hm
          exact h.dis g o' (fun e => hvl g hg (e ▸ ho1)) k hkg ho'⟩
    refine ((hc us).call w (Vw C w Fs vw) _ _ r1 r2 hVF (fun k hk => by obtain ⟨o',_,ho'⟩:=r3 k hk; exact (h.own o' k ho').1)).mono ?_
    rintro e w' ⟨v,Fr,Fo,rfl,hg,hres,hout,hnd,hfrsh⟩
    have hUU:∀ k,(k < w'.heap.size ∧ (Vw C w Fs [] k ∨ w.heap.size ≤ k ∨ k ∈ F) ∧ k ∉ Fr ++ Fo) → (k < w'.heap.size ∧ (Un C w Fs k ∨ w.heap.size ≤ k ∨ k ∈ F) ∧ k ∉ Fr ++ Fo):=fun k hk => by
      refine ⟨hk.1,?_,hk.2.2⟩
      rcases hk.2.1 with (h1 | ⟨_,g,hg',_⟩) | h1
      · exact .inl h1
      · cases hg'
      · exact .inr h1
    have hres':CR w' (fun k => k < w'.heap.size ∧ (Un C w Fs k ∨ w.heap.size ≤ k ∨ k ∈ F) ∧ k ∉ Fr ++ Fo) cres v Fr:=by
      by_cases hbs:vw = []
      · subst hbs; exact CR_U hUU _ _ _ hres
      · exact CR_noIm _ _ _ (hno hbs).1 hres
    have hout':CRs w' (fun k => k < w'.heap.size ∧ (Un C w Fs k ∨ w.heap.size ≤ k ∨ k ∈ F) ∧ k ∉ Fr ++ Fo) (outs us) vals Fo:=by
      by_cases hbs:vw = []
      · subst hbs; exact CRs_U hUU _ _ _ hout
      · exact CRs_noIm ((hno hbs).2 us) hout
    have hUF:∀ k,Un C w Fs k → k ∉ F:=fun k hk => (hVF k (Vw_un hk)).2
    obtain ⟨L,G,s1,s2,s3,s4⟩:=r5 w' _ F _ Fo _ hg hUF (fun g hg1 k hk hkF => hkF) hout' hbb
    obtain ⟨ι2,Fs2,z1,z2,z3,_⟩:=finish us w' v Fr Fo F G L hg r3 s2 s1 s4 s3 hnd hfrsh hres'
    exact ⟨v,ι2,Fs2,rfl,by simpa using z1,by simpa using z3⟩
end
structure Hints where
  own:Nat → Bool:=fun _ => true
  merge:Nat → Bool:=fun _ => true
  lend:Nat → List LM:=fun _ => []
  mv:Nat → Bool:=fun _ => false
  mergeF:Nat → Bool:=fun _ => false
  byt:Bool:=false
structure CallR (P:Program) (H:Hints) (O:Nat → AObj) (d f:Nat) (sd:Prop) (avs:List AV) (cres:CV) (b1 b2:List (Nat × AObj)):Prop where
  sd:sd
  ar:∃ (cargs:(Nat → Value) → List CV) (vw ln:List Nat) (outs:(Nat → Value) → List CV),(∀ us,argsL us O (H.lend f) avs = some (cargs us,vw,ln)) ∧ ln.Nodup ∧ (∀ x,x ∈ vw → x ∉ ln) ∧ (∀ us,FnW P f (cargs us) cres (outs us)) ∧
    (∀ us,argsBack O (64 * d + 40) (H.lend f) avs (outs us) = some (b1,b2)) ∧ (∀ us,tokOk us (H.lend f) (outs us)) ∧ (vw ≠ [] → noImC cres ∧ ∀ us,noImCs (outs us))
  sm:small cres = true
  sm2:small2 b2 cres = true
  gh:O (64 * d + 63) = .none
  fr:freeOE O (imp (H.own d) (64 * d) cres).2
  fr2:freeOE O b2.tail
def calleeOf (ρ:Operand → AV) (x:Operand):Option (Prop × Nat × List AV):=match (ρ x).ug with
  | (s,.fn f cap) => some (s,f,cap)
  | _ => none
inductive StepR (P:Program) (T:Ty) (H:Hints) (ρ:Operand → AV) (O:Nat → AObj) (o:Oper):AV → List (Nat × AObj) → Prop
  | op {e:Eff} (h:astep T (H.mv (o.dst.getD 0)) ρ O o = some e) (hs:e.side):StepR P T H ρ O o e.val e.oe
  | map {e:Eff} (h:mapEff P T ρ O o = some e) (hs:e.side):StepR P T H ρ O o e.val e.oe
  | byt {e:Eff} (h:bytEff T ρ O o = some e) (hs:e.side):StepR P T H ρ O o e.val e.oe
  | call {x:Operand} {s:Prop} {f d:Nat} {cap:List AV} {args:Array Operand} {ts:Array TypeId} {cres:CV} {b1 b2:List (Nat × AObj)} (ho:o.op = .call ⟨.value x,args,ts⟩) (hx:calleeOf ρ x = some (s,f,cap)) (hd:o.dst = some d)
      (h:CallR P H O d f (s ∧ sides ρ args.toList) ((args.toList.map fun x => (ρ x).ug.2) ++ cap) cres b1 b2) :
      StepR P T H ρ O o (imp (H.own d) (64 * d) cres).1 (b2 ++ ((imp (H.own d) (64 * d) cres).2 ++ b1))
section
variable {P:Program} {T:Ty} {C:Ctx} {σ:AEnv} {a:Act} {w w':World} {ι:Nat → Value} {Fs:Nat → List Nat} {τ:Nat → AObj} {H:Hints}
def Post (C:Ctx) (σ:AEnv) (a:Act) (w:World):Prop:=∃ ι Fs,Sim C σ a w ι Fs
theorem evs_ARs (h:Sim C σ a w ι Fs):∀ {xs:List Operand},sides (ev σ) xs → ARs w (Un C w Fs) σ.o ι (xs.map fun x => (ev σ x).ug.2) (xs.map a.eval)
  | [],_ => by simp [ARs]
  | x :: xs,hs => by
    simp only [sides] at hs
    simp only [List.map_cons,ARs]
    exact ⟨ev_ug h x (s:=(ev σ x).ug.1) rfl hs.1,evs_ARs h hs.2⟩
theorem stepR_sound (hT:TyOK P T) (h:Sim C σ a w ι Fs) (ha:Agr σ.o τ) {o:Oper} {av:AV} {oe:List (Nat × AObj)} (he:StepR P T H (ev σ) τ o av oe)
    (hf:∀ k ob,(k,ob) ∈ oe → τ k = .none → σ.o k = .none) (hg:∀ d,o.dst = some d → τ (64 * d + 63) = .none → σ.o (64 * d + 63) = .none) (hN:∀ d,o.dst = some d → C.N.1 ≤ d ∧ d < C.N.2)
    {K:Act → World → Prop} {Q:Exit → Act → World → Prop} (hK:∀ a' w',Post C ((AEnv.wr oe σ).set o.dst av) a' w' → K a' w'):o.wp P a w K Q:=by
  cases he with
  | op h1 hs =>
    rename_i e
    obtain ⟨r,w',ι',Fs',v,hr,hrv,hS,hA⟩:=step_sound hT h ha h1 hs hf
    unfold Oper.wp
    rw [hr]
    rcases hrv with rfl | ⟨rfl,rfl⟩
    · simp only [Oper.upon]; exact hK _ _ ⟨ι',Fs',hS.put o.dst hN hA⟩
    · simp only [Oper.upon]; exact hK _ _ ⟨ι',Fs',hS.put o.dst hN hA⟩
  | map h1 hs =>
    rename_i e
    obtain ⟨r,w',ι',Fs',v,hr,hrv,hS,hA⟩:=map_sound hT h ha h1 hs hf
    unfold Oper.wp
    rw [hr]
    rcases hrv with rfl | ⟨rfl,rfl⟩
    · simp only [Oper.upon]; exact hK _ _ ⟨ι',Fs',hS.put o.dst hN hA⟩
    · simp only [Oper.upon]; exact hK _ _ ⟨ι',Fs',hS.put o.dst hN hA⟩
  | byt h1 hs =>
    rename_i e
    obtain ⟨r,w',ι',Fs',v,hr,hrv,hS,hA⟩:=byt_sound hT h ha h1 hs hf
    unfold Oper.wp
    rw [hr]
    rcases hrv with rfl | ⟨rfl,rfl⟩
    · simp only [Oper.upon]; exact hK _ _ ⟨ι',Fs',hS.put o.dst hN hA⟩
    · simp only [Oper.upon]; exact hK _ _ ⟨ι',Fs',hS.put o.dst hN hA⟩
  | @call x s f d cap args ts cres b1 b2 ho hx hd hc =>
    obtain ⟨cargs,vw,ln,outs,h1,h2,h3,h4,h5,h6,h7⟩:=hc.ar
    unfold calleeOf at hx
    split at hx
    · rename_i s' f' cap' hux
      cases hx
      have hv:=ev_ug h x hux hc.sd.1
      simp only [AR] at hv
      obtain ⟨xs,hv,hcap⟩:=hv
      have hargs:=ARs_append (evs_ARs h hc.sd.2) hcap
      have hcall:=call_sound (H:=H.own) h ha hargs h1 h2 h3 h4 h5 h6 h7 hc.sm hc.sm2 (hg d hd hc.gh) (fun y ob hm => hf y ob (by simp [hm]) (freeOE_mem hc.fr y ob hm))
        (fun y ob hm => hf y ob (List.mem_append_left _ (List.mem_of_mem_tail hm)) (freeOE_mem hc.fr2 y ob hm))
      have hrun:(execOp a.eval o).run P w = .ok (.enter f (args.map a.eval ++ xs)) w:=by
        obtain ⟨fn,hfn1,hfn2,hfn3⟩:=(h4 (fun _ => undef)).fin.ex
        obtain ⟨dst,op,type,pos,after,guard⟩:=o
        simp only at ho
        subst ho
        have hfn2':¬ (fn.body = none):=fun e => by simp [e] at hfn2
        have hfn3' : ¬ (fn.name = "runtime.NumGoroutine") := by simpa using hfn3
        simp [execOp,resolve,hv,Deferred.ofValue,invoke,callFunc,hfn1,hfn2',hfn3']
      unfold Oper.wp
      rw [hrun]
      simp only [Oper.upon]
      have e:(args.toList.map a.eval ++ xs.toList).toArray = args.map a.eval ++ xs:=by apply Array.ext'; simp
      rw [e] at hcall
      refine hcall.mono ?_
      rintro e w' ⟨v,ι',Fs',rfl,hS,hA⟩
      exact hK _ _ ⟨ι',Fs',hS.put o.dst hN hA⟩
    · cases hx
end
end Am
namespace Am
open Go
def aguard (ops:Array Oper) (t:Nat → AV) (j:Nat) (want:Bool):Option Bool :=
  match (ops[j]?).bind (·.dst) with
  | some d => match t d with
    | .c (.bool b) => some (b == want)
    | .gd b0 (.c (.bool b)) => some (b0 && (b == want))
    | .gd false _ => some false
    | _ => none
  | none => none
def ACallV (P:Program) (f:Nat) (cargs:List CV) (vw:List Nat) (own:Bool) (d:Nat) (O:Nat → AObj) (K:AV → List (Nat × AObj) → Prop):Prop :=
  ∃ cres,FnR P f cargs cres ∧ (vw ≠ [] → noImC cres) ∧ small cres = true ∧ O (64 * d + 63) = .none ∧ freeOE O (imp own (64 * d) cres).2 ∧ K (imp own (64 * d) cres).1 (imp own (64 * d) cres).2
def ACallL (P:Program) (f:Nat) (lm:List LM) (avs:List AV) (own:Bool) (d:Nat) (O:Nat → AObj) (K:AV → List (Nat × AObj) → Prop):Prop :=
  ∃ (cargs:(Nat → Value) → List CV) (vw ln:List Nat) (cres:CV) (outs:(Nat → Value) → List CV) (b1 b2:List (Nat × AObj)),(∀ us,argsL us O lm avs = some (cargs us,vw,ln)) ∧ ln.Nodup ∧ (∀ x,x ∈ vw → x ∉ ln) ∧ (∀ us,FnW P f (cargs us) cres (outs us)) ∧
    (∀ us,argsBack O (64 * d + 40) lm avs (outs us) = some (b1,b2)) ∧ (∀ us,tokOk us lm (outs us)) ∧ (vw ≠ [] → noImC cres ∧ ∀ us,noImCs (outs us)) ∧
    small cres = true ∧ small2 b2 cres = true ∧ O (64 * d + 63) = .none ∧ freeOE O (imp own (64 * d) cres).2 ∧ freeOE O b2.tail ∧ K (imp own (64 * d) cres).1 (b2 ++ ((imp own (64 * d) cres).2 ++ b1))
def ACall (P:Program) (G:Prop) (own:Bool) (lm:List LM) (O:Nat → AObj) (d f:Nat) (sd:Prop) (avs:List AV) (K:AV → List (Nat × AObj) → Prop):Prop :=
  (G → sd) ∧ match lm with
    | [] => (match argsView O avs with
      | some (cargs,vw) => ACallV P f cargs vw own d O K
      | none => False)
    | m :: ms => ACallL P f (m :: ms) avs own d O K
theorem argsL1_view {O:Nat → AObj}:∀ {avs:List AV} {cargs:List CV} {vw:List Nat},argsView O avs = some (cargs,vw) → argsL1 O [] avs = some (cargs,vw,[]) ∧ argsBack1 O [] avs (cargs.map fun _ => .any) = some []
  | [],cargs,vw,h => by simp [argsView] at h; obtain ⟨rfl,rfl⟩:=h; simp [argsL1,argsBack1]
  | x :: xs,cargs,vw,h => by
    simp only [argsView] at h
    split at h
    · rename_i p b ps b' h1 h2
      cases h
      obtain ⟨h3,h4⟩:=argsL1_view h2
      simp [argsL1,argL,h1,h3,argsBack1,argBack,h4]
    · cases h
theorem ACallV.toL {P:Program} {f:Nat} {cargs:List CV} {vw:List Nat} {own:Bool} {d:Nat} {O:Nat → AObj} {K:AV → List (Nat × AObj) → Prop} {avs:List AV} (he:argsView O avs = some (cargs,vw)) (h:ACallV P f cargs vw own d O K):ACallL P f [] avs own d O K:=by
  obtain ⟨cres,h1,h2,h3,h4,h5,h6⟩:=h
  obtain ⟨g1,g2⟩:=argsL1_view he
  refine ⟨fun _ => cargs,vw,[],cres,fun _ => cargs.map fun _ => .any,[],[],fun _ => g1,by simp,by simp,fun _ => h1,fun _ => ?_,fun _ => trivial,fun hv => ⟨h2 hv,fun _ => ?_⟩,h3,?_,h4,h5,by simp [freeOE],by simpa using h6⟩
  · unfold argsBack; simp [g2]
  · have:∀ l:List CV,noImCs (l.map fun _ => CV.any):=fun l => by induction l with
      | nil => trivial
      | cons x l ih => exact ⟨trivial,ih⟩
    exact this cargs
  · cases cres <;> simp [small2]
theorem ACall.toL {P:Program} {G:Prop} {own:Bool} {lm:List LM} {O:Nat → AObj} {d f:Nat} {sd:Prop} {avs:List AV} {K:AV → List (Nat × AObj) → Prop} (h:ACall P G own lm O d f sd avs K):(G → sd) ∧ ACallL P f lm avs own d O K:=by
  obtain ⟨h0,h⟩:=h
  refine ⟨h0,?_⟩
  cases lm with
  | nil =>
    simp only at h
    split at h
    · rename_i cargs vw he
      exact h.toL he
    · cases h
  | cons m ms => exact h
def abyt (T:Ty) (H:Hints) (G:Prop) (ρ:Operand → AV) (O:Nat → AObj) (o:Oper) (K:AV → List (Nat × AObj) → Prop):Prop:=match H.byt with
  | false => False
  | true => match bytEff T ρ O o with
    | some e => (G → e.side) ∧ K e.val e.oe
    | none => False
def aop1 (P:Program) (T:Ty) (H:Hints) (G:Prop) (ρ:Operand → AV) (O:Nat → AObj) (o:Oper) (K:AV → List (Nat × AObj) → Prop):Prop :=
  match o.op with
  | .call ⟨.value x,args,_⟩ => match calleeOf ρ x,o.dst with
    | some (s,f,cap),some d => ACall P G (H.own d) (H.lend f) O d f (s ∧ sides ρ args.toList) ((args.toList.map fun x => (ρ x).ug.2) ++ cap) K
    | _,_ => False
  | .makeMap _ _ => match mapEff P T ρ O o with
    | some e => (G → e.side) ∧ K e.val e.oe
    | none => False
  | .mapUpdate _ _ _ _ => match mapEff P T ρ O o with
    | some e => (G → e.side) ∧ K e.val e.oe
    | none => False
  | .lookup _ _ _ _ => match mapEff P T ρ O o with
    | some e => (G → e.side) ∧ K e.val e.oe
    | none => False
  | _ => match astep T (H.mv (o.dst.getD 0)) ρ O o with
    | some e => (G → e.side) ∧ K e.val e.oe
    | none => abyt T H G ρ O o K
def isAny:AV → Bool
  | .any => true
  | .gd _ v => isAny v
  | _ => false
def isPure (H:Hints) (ρ:Operand → AV):Op → Bool
  | .move _ | .assign _ | .pick _ _ _ | .nilCheck _ | .fieldAddr _ _ _ | .extract _ _ | .index _ _ _ => true
  | .unOp _ _ a => !isAny (ρ a)
  | .convert _ _ a => !isAny (ρ a)
  | .binOp op _ a b _ => match op with
    | .quo | .rem | .shl | .shr => false
    | _ => !isAny (ρ a) && !isAny (ρ b)
  | .load _ a => match (ρ a).ug.2 with
    | .box _ _ => true
    | _ => false
  | .call ⟨.value x,args,_⟩ => match (ρ x).ug.2 with
    | .fn f _ => H.mergeF f && args.toList.all fun x => !isAny (ρ x)
    | _ => false
  | .call ⟨.builtin .len,_,_⟩ => true
  | _ => false
inductive SG (P:Program) (T:Ty) (H:Hints) (ops:Array Oper) (σ:AEnv) (τ:Nat → AObj) (o:Oper):AV → List (Nat × AObj) → Prop
  | run {v:AV} {oe:List (Nat × AObj)} (hg:o.guard = none ∨ ∃ j want,o.guard = some (j,want) ∧ aguard ops σ.t j want = some true) (h:StepR P T H (ev σ) τ o v oe):SG P T H ops σ τ o v oe
  | off {j:Nat} {want:Bool} (hg:o.guard = some (j,want)) (h:aguard ops σ.t j want = some false):SG P T H ops σ τ o (.gd false .any) []
  | mrg {j:Nat} {want g:Bool} {v:AV} (hg:o.guard = some (j,want)) (h:aguard ops σ.t j want = some g) (hs:g = true → StepR P T H (ev σ) τ o v []):SG P T H ops σ τ o (.gd g v) []
def ao1 (P:Program) (T:Ty) (H:Hints) (ops:Array Oper) (σ:AEnv) (τ:Nat → AObj) (o:Oper) (K:AV → List (Nat × AObj) → Prop):Prop :=
  match o.guard with
  | none => aop1 P T H True (ev σ) τ o K
  | some (j,want) => match aguard ops σ.t j want with
    | some g => match H.merge (o.dst.getD 0) && isPure H (ev σ) o.op with
      | true => aop1 P T H (g = true) (ev σ) τ o (fun v oe => oe = [] ∧ K (.gd g v) [])
      | false => (g = true → aop1 P T H True (ev σ) τ o K) ∧ (g = false → K (.gd false .any) [])
    | none => False
section
variable {P:Program} {T:Ty} {H:Hints} {ops:Array Oper} {C:Ctx} {σ:AEnv} {a:Act} {w:World} {ι:Nat → Value} {Fs:Nat → List Nat} {τ:Nat → AObj} {o:Oper} {K:AV → List (Nat × AObj) → Prop}
theorem aop1_step {G:Prop} {ρ:Operand → AV} (h:aop1 P T H G ρ τ o K):∃ v oe,(G → StepR P T H ρ τ o v oe) ∧ K v oe:=by
  unfold aop1 at h
  split at h
  · rename_i x args ts ho
    split at h
    · rename_i s f cap d hx hd
      obtain ⟨hs,cargs,vw,ln,cres,outs,b1,b2,h1,h2,h3,h4,h5,h6,h7,h8,h9,h10,h11,h12,h13⟩:=h.toL
      exact ⟨_,_,fun hG => .call ho hx hd ⟨hs hG,⟨cargs,vw,ln,outs,h1,h2,h3,h4,h5,h6,h7⟩,h8,h9,h10,h11,h12⟩,h13⟩
    · cases h
  · split at h
    · rename_i e he
      exact ⟨_,_,fun hG => .map he (h.1 hG),h.2⟩
    · cases h
  · split at h
    · rename_i e he
      exact ⟨_,_,fun hG => .map he (h.1 hG),h.2⟩
    · cases h
  · split at h
    · rename_i e he
      exact ⟨_,_,fun hG => .map he (h.1 hG),h.2⟩
    · cases h
  · split at h
    · rename_i e he
      exact ⟨_,_,fun hG => .op he (h.1 hG),h.2⟩
    · unfold abyt at h
      split at h
      · cases h
      · split at h
        · rename_i e he
          exact ⟨_,_,fun hG => .byt he (h.1 hG),h.2⟩
        · cases h
theorem ao1_SG (h:ao1 P T H ops σ τ o K):∃ v oe,SG P T H ops σ τ o v oe ∧ K v oe:=by
  unfold ao1 at h
  split at h
  · rename_i hg
    obtain ⟨v,oe,h1,h2⟩:=aop1_step h
    exact ⟨v,oe,.run (.inl hg) (h1 trivial),h2⟩
  · rename_i j want hg
    split at h
    · rename_i g hgd
      split at h
      · obtain ⟨v,oe,h1,h2,h3⟩:=aop1_step h
        subst h2
        exact ⟨_,_,.mrg hg hgd h1,h3⟩
      · cases g with
        | true =>
          obtain ⟨v,oe,h1,h2⟩:=aop1_step (h.1 rfl)
          exact ⟨v,oe,.run (.inr ⟨j,want,hg,hgd⟩) (h1 trivial),h2⟩
        | false => exact ⟨_,_,.off hg hgd,h.2 rfl⟩
    · cases h
theorem aguard_wanted (h:Sim C σ a w ι Fs) {j:Nat} {want g:Bool} (hg:o.guard = some (j,want)) (ha:aguard ops σ.t j want = some g):Region.wanted o (yielded ops a.tmps) = g:=by
  unfold aguard at ha
  unfold Region.wanted
  rw [hg]
  simp only
  split at ha
  · rename_i d hd
    have ht:=h.tm d
    have hu:∀ v,a.tmps.getD d undef = v → yielded ops a.tmps j = match v with | .bool b => some b | _ => none:=by
      intro v hv
      unfold yielded
      rw [hd]
      simp only [Option.bind_some]
      by_cases hlt:d < a.tmps.size
      · have:a.tmps[d]? = some v:=by rw [Array.getElem?_eq_getElem hlt]; simpa [hlt] using hv
        rw [this]
        cases v <;> rfl
      · have:a.tmps[d]? = none:=Array.getElem?_eq_none (Nat.le_of_not_lt hlt)
        rw [this]
        have:v = undef:=by rw [← hv]; simp [hlt]
        rw [this]
        rfl
    split at ha
    · rename_i b hb
      rw [hb] at ht
      simp only [AR,R] at ht
      rw [hu _ ht.1]
      cases ha
      cases b <;> cases want <;> rfl
    · rename_i b0 b hb
      rw [hb] at ht
      simp only [AR,R] at ht
      cases ha
      cases b0 with
      | true => rw [hu _ (ht.1 rfl).1]; cases b <;> cases want <;> rfl
      | false => rw [hu _ (ht.2 rfl)]; cases b <;> cases want <;> rfl
    · rename_i x hb
      rw [hb] at ht
      simp only [AR] at ht
      cases ha
      rw [hu _ (ht.2 trivial)]
      cases want <;> rfl
    · cases ha
  · cases ha
theorem AR_gd_true {U:Nat → Prop} {O:Nat → AObj} {x:AV} {v:Value} (h:AR w U O ι x v):AR w U O ι (.gd true x) v:=by
  simp only [AR]; exact ⟨fun _ => h,fun e => by simp at e⟩
theorem AR_gd_false {U:Nat → Prop} {O:Nat → AObj} {x:AV}:AR w U O ι (.gd false x) undef:=by
  simp only [AR]; exact ⟨fun e => by simp at e,fun _ => trivial⟩
theorem SG_sound (hT:TyOK P T) (h:Sim C σ a w ι Fs) (ha:Agr σ.o τ) {v:AV} {oe:List (Nat × AObj)} (he:SG P T H ops σ τ o v oe)
    (hf:∀ k ob,(k,ob) ∈ oe → τ k = .none → σ.o k = .none) (hgh:∀ d,o.dst = some d → τ (64 * d + 63) = .none → σ.o (64 * d + 63) = .none) (hN:∀ d,o.dst = some d → C.N.1 ≤ d ∧ d < C.N.2)
    {K:Act → World → Prop} {Q:Exit → Act → World → Prop} (hK:∀ a' w',Post C ((AEnv.wr oe σ).set o.dst v) a' w' → K a' w') :
    if Region.wanted o (yielded ops a.tmps) = true then o.wp P a w K Q else K (a.put o.dst undef) w:=by
  cases he with
  | run hg hs =>
    have:Region.wanted o (yielded ops a.tmps) = true:=by
      rcases hg with hg | ⟨j,want,hg,hga⟩
      · simp [Region.wanted,hg]
      · exact aguard_wanted h hg hga
    rw [if_pos this]
    exact stepR_sound hT h ha hs hf hgh hN hK
  | off hg hga =>
    have:=aguard_wanted h hg hga
    rw [this,if_neg (by simp)]
    exact hK _ _ ⟨ι,Fs,h.put o.dst hN AR_gd_false⟩
  | @mrg j want g v hg hga hs =>
    have hw:=aguard_wanted h hg hga
    rw [hw]
    cases g with
    | true =>
      rw [if_pos rfl]
      refine stepR_sound hT h ha (hs rfl) hf hgh hN (fun a' w' hP => hK _ _ ?_)
      obtain ⟨ι',Fs',hS⟩:=hP
      refine ⟨ι',Fs',hS.kept,fun i => ?_,?_,hS.dis,hS.nd,hS.own,hS.df,hS.sz,hS.kp⟩
      · have hi:=hS.tm i
        cases hd:o.dst with
        | none => simpa only [hd,AEnv.set] using hi
        | some d =>
          simp only [hd,AEnv.set] at hi ⊢
          by_cases e:i = d
          · simp only [e,if_true] at hi ⊢
            exact AR_gd_true hi
          · simpa only [e,if_false] using hi
      · have:=hS.ob
        cases hd:o.dst with
        | none => simpa only [hd,AEnv.set] using this
        | some d => simpa only [hd,AEnv.set] using this
    | false =>
      rw [if_neg (by simp)]
      exact hK _ _ ⟨ι,Fs,h.put o.dst hN AR_gd_false⟩
def aops (P:Program) (T:Ty) (H:Hints) (ops:Array Oper):List Oper → AEnv → (AEnv → Prop) → Prop
  | [],σ,K => K σ
  | o :: r,σ,K => ao1 P T H ops σ σ.o o (fun v oe => aops P T H ops r ((AEnv.wr oe σ).set o.dst v) K)
def dstOk (N:Nat × Nat) (l:List Oper):Bool:=l.all fun o => match o.dst with
  | some d => decide (N.1 ≤ d) && decide (d < N.2)
  | none => true
theorem Agr.refl (O:Nat → AObj):Agr O O:=fun _ _ _ => rfl
theorem aops_sound (hT:TyOK P T) {K:AEnv → Prop} {Q:Exit → Act → World → Prop} (hK:∀ σ' a' w',K σ' → Post C σ' a' w' → Q .normal a' w') :
    ∀ (l:List Oper) (σ:AEnv) (a:Act) (w:World),dstOk C.N l = true → aops P T H ops l σ K → Post C σ a w → wpList P ops Q l a w
  | [],σ,a,w,_,h,hP => hK σ a w h hP
  | o :: r,σ,a,w,hd,h,⟨ι,Fs,hS⟩ => by
    simp only [dstOk,List.all_cons,Bool.and_eq_true] at hd
    obtain ⟨v,oe,h1,h2⟩:=ao1_SG h
    have:=SG_sound (Q:=Q) (K:=wpList P ops Q r) hT hS (Agr.refl _) h1 (fun _ _ _ e => e) (fun _ _ e => e) (fun d hdd => by simpa [hdd] using hd.1)
      (fun a' w' hP' => aops_sound hT hK r _ a' w' hd.2 h2 hP')
    simp only [wpList]
    split
    · rename_i hw
      rw [if_pos hw] at this
      exact .inl this
    · rename_i hw
      rw [if_neg hw] at this
      exact this
end
end Am
namespace Am
open Go
structure DH where
  wr:List Nat:=[]
  cr:Bool:=false
  mn:List Nat:=[]
  mb:List Nat:=[]
  deriving Inhabited
def DH.masked (h:DH) (x:Nat):Bool:=h.mn.contains x || h.mb.contains (x / 64)
def msk (h:DH) (O:Nat → AObj) (x:Nat):AObj:=match h.masked x with
  | true => .none
  | false => O x
def oeOk (h:DH) (dst:Option Nat):List (Nat × AObj) → Prop
  | [] => True
  | (x,_) :: r => (h.wr.contains x = true ∨ (h.cr = true ∧ dst = some (x / 64))) ∧ h.masked x = false ∧ oeOk h dst r
def befMask (acc:List Nat):List Edge → Nat → Nat
  | [],m => m
  | e :: r,m => befMask acc r (m ||| 2 ^ e.on ||| acc.getD e.on 0)
def befGo:List Oper → List Nat → List Nat
  | [],acc => acc
  | o :: r,acc => befGo r (acc ++ [befMask acc (o.after.toList.filter (Region.binds .any)) 0])
def befs (ops:Array Oper):List Nat:=befGo ops.toList []
def unordered (bs:List Nat) (j k:Nat):Bool:=j != k && !(bs.getD j 0).testBit k && !(bs.getD k 0).testBit j
def pairOk (ops:Array Oper) (hs:List DH) (j k:Nat):Bool :=
  match ops[j]?,ops[k]?,hs[j]?,hs[k]? with
  | some oj,some ok,some hj,some hk =>
    (match ok.dst with
     | some d => !(oj.looksAt ops).contains d && oj.dst != some d
     | none => true) &&
    hk.wr.all hj.mn.contains &&
    (!hk.cr || match ok.dst with | some d => hj.mb.contains d | none => false)
  | _,_,_,_ => false
def oneOk (N:Nat × Nat) (ops:Array Oper) (hs:List DH) (j:Nat):Bool :=
  match ops[j]?,hs[j]? with
  | some o,some h => (o.after.toList.all fun e => !Region.binds .any e || decide (e.on < j)) &&
    (match o.dst with
     | some d => decide (N.1 ≤ d) && decide (d < N.2) && !h.masked (64 * d + 63)
     | none => true)
  | _,_ => false
def drawOk (N:Nat × Nat) (ops:Array Oper) (hs:List DH):Bool :=
  let bs:=befs ops
  hs.length == ops.size && (List.range ops.size).all fun j => oneOk N ops hs j && (List.range ops.size).all fun k => !unordered bs j k || pairOk ops hs j k
def adraw (P:Program) (T:Ty) (H:Hints) (ops:Array Oper):List (Oper × DH) → AEnv → (AEnv → Prop) → Prop
  | [],σ,K => K σ
  | (o,h) :: r,σ,K => ao1 P T H ops σ (msk h σ.o) o (fun v oe => oeOk h o.dst oe ∧ adraw P T H ops r ((AEnv.wr oe σ).set o.dst v) K)
abbrev Eft:=Option Nat × AV × List (Nat × AObj)
def Eft.on (e:Eft) (σ:AEnv):AEnv:=(AEnv.wr e.2.2 σ).set e.1 e.2.1
def appS (S:Nat → Bool):List Eft → Nat → AEnv → AEnv
  | [],_,σ => σ
  | e :: r,i,σ => appS S r (i + 1) (if S i = true then e.on σ else σ)
def Tr (P:Program) (T:Ty) (H:Hints) (ops:Array Oper):List (Oper × DH) → AEnv → List Eft → Prop
  | [],_,[] => True
  | (o,h) :: r,σ,e :: L => e.1 = o.dst ∧ SG P T H ops σ (msk h σ.o) o e.2.1 e.2.2 ∧ oeOk h o.dst e.2.2 ∧ Tr P T H ops r (e.on σ) L
  | [],_,_ :: _ => False
  | _ :: _,_,[] => False
def appL:List Eft → AEnv → AEnv
  | [],σ => σ
  | e :: r,σ => appL r (e.on σ)
section
variable {P:Program} {T:Ty} {H:Hints} {ops:Array Oper} {C:Ctx} {σ σ':AEnv} {a:Act} {w:World} {ι:Nat → Value} {Fs:Nat → List Nat} {τ:Nat → AObj} {o:Oper}
theorem adraw_trace {K:AEnv → Prop}:∀ {l:List (Oper × DH)} {σ:AEnv},adraw P T H ops l σ K → ∃ L,Tr P T H ops l σ L ∧ K (appL L σ)
  | [],σ,h => ⟨[],trivial,h⟩
  | (o,hh) :: r,σ,h => by
    simp only [adraw] at h
    obtain ⟨v,oe,h1,h2,h3⟩:=ao1_SG h
    obtain ⟨L,h4,h5⟩:=adraw_trace h3
    exact ⟨(o.dst,v,oe) :: L,⟨rfl,h1,h2,h4⟩,h5⟩
theorem Tr_length:∀ {l:List (Oper × DH)} {σ:AEnv} {L:List Eft},Tr P T H ops l σ L → L.length = l.length
  | [],_,[],_ => rfl
  | (o,h) :: r,σ,e :: L,h' => by simp only [Tr] at h'; simp [Tr_length h'.2.2.2]
  | [],_,_ :: _,h => by simp only [Tr] at h
  | _ :: _,_,[],h => by simp only [Tr] at h
theorem appS_all {S:Nat → Bool}:∀ (L:List Eft) (i:Nat) (σ:AEnv),(∀ k,i ≤ k → k < i + L.length → S k = true) → appS S L i σ = appL L σ
  | [],_,_,_ => rfl
  | e :: r,i,σ,h => by
    simp only [appS,appL]
    rw [if_pos (h i (Nat.le_refl _) (by simp)),appS_all r (i + 1) _ (fun k h1 h2 => h k (by omega) (by simp; omega))]
theorem appS_none {S:Nat → Bool}:∀ (L:List Eft) (i:Nat) (σ:AEnv),(∀ k,i ≤ k → S k = false) → appS S L i σ = σ
  | [],_,_,_ => rfl
  | e :: r,i,σ,h => by
    simp only [appS]
    rw [if_neg (by simp [h i (Nat.le_refl _)]),appS_none r (i + 1) _ (fun k h1 => h k (by omega))]
theorem Tr_get:∀ {l:List (Oper × DH)} {σ:AEnv} {L:List Eft} {i:Nat},Tr P T H ops l σ L → ∀ {j:Nat} {o:Oper} {h:DH},l[j]? = some (o,h) →
    ∃ e,L[j]? = some e ∧ e.1 = o.dst ∧ SG P T H ops (appS (fun k => decide (k < i + j)) L i σ) (msk h (appS (fun k => decide (k < i + j)) L i σ).o) o e.2.1 e.2.2 ∧ oeOk h o.dst e.2.2
  | [],_,[],_,_,j,o,h,hj => by simp at hj
  | (o,h) :: r,σ,e :: L,i,htr,j,o',h',hj => by
    simp only [Tr] at htr
    cases j with
    | zero =>
      simp at hj
      obtain ⟨rfl,rfl⟩:=hj
      refine ⟨e,rfl,htr.1,?_,htr.2.2.1⟩
      have:appS (fun k => decide (k < i + 0)) (e :: L) i σ = σ:=appS_none _ _ _ (fun k hk => by simp; omega)
      rw [this]
      exact htr.2.1
    | succ j =>
      obtain ⟨e',h1,h2,h3,h4⟩:=Tr_get (i:=i + 1) htr.2.2.2 (j:=j) (by simpa using hj)
      refine ⟨e',by simpa using h1,h2,?_,h4⟩
      have:appS (fun k => decide (k < i + (j + 1))) (e :: L) i σ = appS (fun k => decide (k < i + 1 + j)) L (i + 1) (e.on σ):=by
        simp only [appS]
        rw [if_pos (by simp)]
        congr 1
        funext k
        congr 1
        simp only [eq_iff_iff]
        omega
      rw [this]
      exact h3
  | [],_,_ :: _,_,h,_,_,_,_ => by simp only [Tr] at h
  | _ :: _,_,[],_,h,_,_,_,_ => by simp only [Tr] at h
theorem wr_o_same {oe:List (Nat × AObj)} {x:Nat} (h:∃ ob,(x,ob) ∈ oe):∀ (σ σ':AEnv),(AEnv.wr oe σ).o x = (AEnv.wr oe σ').o x:=by
  intro σ σ'
  induction oe with
  | nil => obtain ⟨_,h⟩:=h; cases h
  | cons y r ih =>
    obtain ⟨k,ob'⟩:=y
    simp only [AEnv.wr,AEnv.upd]
    by_cases hx:x = k
    · simp [hx]
    · simp only [hx,if_false]
      obtain ⟨ob,h⟩:=h
      rcases List.mem_cons.1 h with h | h
      · cases h; exact absurd rfl hx
      · exact ih ⟨ob,h⟩
theorem set_o (σ:AEnv) (d:Option Nat) (x:AV):(σ.set d x).o = σ.o:=by cases d <;> rfl
theorem set_t_ne (σ:AEnv) (d:Option Nat) (x:AV) {i:Nat} (h:d ≠ some i):(σ.set d x).t i = σ.t i:=by
  cases d with
  | none => rfl
  | some d => simp only [AEnv.set]; rw [if_neg]; intro e; exact h (by rw [e])
theorem set_t_eq (σ:AEnv) (d:Nat) (x:AV):(σ.set (some d) x).t d = x:=by simp [AEnv.set]
theorem on_t (e:Eft) {σ σ':AEnv} {i:Nat} (h:σ.t i = σ'.t i):(e.on σ).t i = (e.on σ').t i:=by
  unfold Eft.on
  by_cases hd:e.1 = some i
  · rw [hd,set_t_eq,set_t_eq]
  · rw [set_t_ne _ _ _ hd,set_t_ne _ _ _ hd,wr_t,wr_t,h]
theorem on_o (e:Eft) {σ σ':AEnv} {x:Nat} (h:σ.o x = σ'.o x):(e.on σ).o x = (e.on σ').o x:=by
  unfold Eft.on
  rw [set_o,set_o]
  by_cases hx:∃ ob,(x,ob) ∈ e.2.2
  · exact wr_o_same hx _ _
  · rw [wr_o_other (fun k ob hm hk => hx ⟨ob,by subst hk; exact hm⟩),wr_o_other (fun k ob hm hk => hx ⟨ob,by subst hk; exact hm⟩),h]
theorem on_t_ne (e:Eft) (σ:AEnv) {i:Nat} (h:e.1 ≠ some i):(e.on σ).t i = σ.t i:=by unfold Eft.on; rw [set_t_ne _ _ _ h,wr_t]
theorem on_o_ne (e:Eft) (σ:AEnv) {x:Nat} (h:∀ ob,(x,ob) ∉ e.2.2):(e.on σ).o x = σ.o x:=by
  unfold Eft.on; rw [set_o,wr_o_other (fun k ob hm hk => h ob (by subst hk; exact hm))]
theorem appS_t {S S':Nat → Bool} {t:Nat}:∀ (L:List Eft) (i:Nat) {σ σ':AEnv},σ.t t = σ'.t t → (∀ k e,L[k]? = some e → e.1 = some t → S (i + k) = S' (i + k)) → (appS S L i σ).t t = (appS S' L i σ').t t
  | [],_,_,_,h,_ => h
  | e :: r,i,σ,σ',h,hk => by
    simp only [appS]
    refine appS_t r (i + 1) ?_ (fun k e' h1 h2 => by have:=hk (k + 1) e' (by simpa using h1) h2; rw [show i + (k + 1) = i + 1 + k by omega] at this; exact this)
    by_cases hd:e.1 = some t
    · have:=hk 0 e rfl hd
      rw [Nat.add_zero] at this
      rw [this]
      split
      · exact on_t e h
      · exact h
    · have e1:∀ (b:Bool) (σ:AEnv),(if b = true then e.on σ else σ).t t = σ.t t:=by
        intro b σ; split
        · exact on_t_ne e σ hd
        · rfl
      rw [e1,e1,h]
theorem appS_o {S S':Nat → Bool} {x:Nat}:∀ (L:List Eft) (i:Nat) {σ σ':AEnv},σ.o x = σ'.o x → (∀ k e,L[k]? = some e → (∃ ob,(x,ob) ∈ e.2.2) → S (i + k) = S' (i + k)) → (appS S L i σ).o x = (appS S' L i σ').o x
  | [],_,_,_,h,_ => h
  | e :: r,i,σ,σ',h,hk => by
    simp only [appS]
    refine appS_o r (i + 1) ?_ (fun k e' h1 h2 => by have:=hk (k + 1) e' (by simpa using h1) h2; rw [show i + (k + 1) = i + 1 + k by omega] at this; exact this)
    by_cases hd:∃ ob,(x,ob) ∈ e.2.2
    · have:=hk 0 e rfl hd
      rw [Nat.add_zero] at this
      rw [this]
      split
      · exact on_o e h
      · exact h
    · have e1:∀ (b:Bool) (σ:AEnv),(if b = true then e.on σ else σ).o x = σ.o x:=by
        intro b σ; split
        · exact on_o_ne e σ (fun ob hm => hd ⟨ob,hm⟩)
        · rfl
      rw [e1,e1,h]
theorem appS_insert {S:Nat → Bool} {j:Nat} {ej:Eft} (hS:S j = false):∀ (L:List Eft) (i:Nat) (σ:AEnv),L[j - i]? = some ej → i ≤ j →
    (∀ k e,L[k]? = some e → i + k ≠ j → S (i + k) = true → j < i + k → e.1 ≠ ej.1 ∨ e.1 = none) → (∀ k e,L[k]? = some e → S (i + k) = true → j < i + k → ∀ x ob ob',(x,ob) ∈ e.2.2 → (x,ob') ∉ ej.2.2) →
    appS (fun k => decide (k = j) || S k) L i σ = ej.on (appS S L i σ)
  | [],i,σ,h,_,_,_ => by simp at h
  | e :: r,i,σ,h,hi,h1,h2 => by
    by_cases he:i = j
    · subst he
      simp only [Nat.sub_self] at h
      simp at h
      subst h
      simp only [appS]
      rw [if_pos (by simp),if_neg (by simp [hS])]
      -- the rest of those that have run write elsewhere
      have key:∀ (r:List Eft) (i':Nat) (σ:AEnv),i < i' → (∀ k e',r[k]? = some e' → S (i' + k) = true → (e'.1 ≠ e.1 ∨ e'.1 = none)) →
          (∀ k e',r[k]? = some e' → S (i' + k) = true → ∀ x ob ob',(x,ob) ∈ e'.2.2 → (x,ob') ∉ e.2.2) →
          appS (fun k => decide (k = i) || S k) r i' (e.on σ) = e.on (appS S r i' σ):=by
        intro r
        induction r with
        | nil => intro i' σ _ _ _; rfl
        | cons f r ih =>
          intro i' σ hi' h1 h2
          simp only [appS]
          have hne:decide (i' = i) = false:=by simp; omega
          simp only [hne,Bool.false_or]
          have ih':=fun σ => ih (i' + 1) σ (by omega) (fun k e' hk hs => h1 (k + 1) e' (by simpa using hk) (by rw [show i' + (k + 1) = i' + 1 + k by omega]; exact hs))
            (fun k e' hk hs => h2 (k + 1) e' (by simpa using hk) (by rw [show i' + (k + 1) = i' + 1 + k by omega]; exact hs))
          by_cases hs:S i' = true
          · rw [if_pos hs,if_pos hs]
            have hc:f.on (e.on σ) = e.on (f.on σ):=by
              have g1:=h1 0 f rfl (by simpa using hs)
              have g2:=h2 0 f rfl (by simpa using hs)
              have et:(f.on (e.on σ)).t = (e.on (f.on σ)).t:=by
                funext t
                by_cases ht:f.1 = some t
                · have:e.1 ≠ some t:=by
                    rcases g1 with g1 | g1
                    · rw [← ht]; exact Ne.symm g1
                    · rw [g1] at ht; cases ht
                  rw [on_t_ne e _ this]
                  exact on_t f (on_t_ne e _ this)
                · rw [on_t_ne f _ ht]
                  exact on_t e (on_t_ne f _ ht).symm
              have eo:(f.on (e.on σ)).o = (e.on (f.on σ)).o:=by
                funext x
                by_cases hx:∃ ob,(x,ob) ∈ f.2.2
                · obtain ⟨ob,hx⟩:=hx
                  have:∀ ob',(x,ob') ∉ e.2.2:=fun ob' => g2 x ob ob' hx
                  rw [on_o_ne e _ this]
                  exact on_o f (on_o_ne e _ this)
                · have:∀ ob,(x,ob) ∉ f.2.2:=fun ob hm => hx ⟨ob,hm⟩
                  rw [on_o_ne f _ this]
                  exact on_o e (on_o_ne f _ this).symm
              calc f.on (e.on σ) = ⟨(f.on (e.on σ)).t,(f.on (e.on σ)).o⟩:=rfl
                _ = ⟨(e.on (f.on σ)).t,(e.on (f.on σ)).o⟩:=by rw [et,eo]
            rw [hc]
            exact ih' _
          · rw [if_neg hs,if_neg hs]
            exact ih' _
      exact key r (i + 1) σ (by omega) (fun k e' hk hs => h1 (k + 1) e' (by simpa using hk) (by omega) (by rw [show i + (k + 1) = i + 1 + k by omega]; exact hs) (by omega))
        (fun k e' hk hs => h2 (k + 1) e' (by simpa using hk) (by rw [show i + (k + 1) = i + 1 + k by omega]; exact hs) (by omega))
    · simp only [appS]
      have hne:decide (i = j) = false:=by simp [he]
      simp only [hne,Bool.false_or]
      refine appS_insert hS r (i + 1) _ ?_ (by omega) (fun k e' hk h3 h4 h5 => ?_) (fun k e' hk h4 h5 => ?_)
      · rw [show j - i = (j - (i + 1)) + 1 by omega] at h
        simpa using h
      · exact h1 (k + 1) e' (by simpa using hk) (by omega) (by rw [show i + (k + 1) = i + 1 + k by omega]; exact h4) (by omega)
      · exact h2 (k + 1) e' (by simpa using hk) (by rw [show i + (k + 1) = i + 1 + k by omega]; exact h4) (by omega)
end
end Am
namespace Am
open Go
section
variable {P:Program} {T:Ty} {mv:Bool} {H:Hints} {ops:Array Oper} {C:Ctx} {σ σ':AEnv} {a:Act} {w:World} {ι:Nat → Value} {Fs:Nat → List Nat} {τ:Nat → AObj} {o:Oper}
theorem bnd_congr {ρ ρ':Operand → AV} {lo:Option Operand} (h:∀ x ∈ lo.toArray,ρ x = ρ' x) (d:Int):bnd ρ d lo = bnd ρ' d lo:=by
  cases lo with
  | none => rfl
  | some l => simp only [bnd]; rw [h l (by simp)]
theorem astep_congr {ρ ρ':Operand → AV} (o:Oper) (h:∀ x ∈ o.op.operands,ρ x = ρ' x):astep T mv ρ τ o = astep T mv ρ' τ o:=by
  obtain ⟨dst,op,type,pos,after,guard⟩:=o
  cases op <;> simp only [Op.operands] at h <;> simp only [astep]
  case build t ps =>
    have:∀ fs,ps.toList.map (part1 T ρ τ fs) = ps.toList.map (part1 T ρ' τ fs):=fun fs =>
      List.map_congr_left fun p hp => by
        unfold part1
        rw [h p.2 (by simp only [List.mem_toArray,List.mem_map]; exact ⟨p,hp,rfl⟩)]
    simp only [this]
  case buildSlice t n ps =>
    have:∀ k,ps.toList.map (partS ρ τ k) = ps.toList.map (partS ρ' τ k):=fun k =>
      List.map_congr_left fun p hp => by
        unfold partS
        rw [h p.2 (by simp only [List.mem_toArray,List.mem_map]; exact ⟨p,hp,rfl⟩)]
    simp only [this]
  case makeFunc fn first caps =>
    have:caps.toList.map ρ = caps.toList.map ρ':=List.map_congr_left fun x hx => h x (by simp only [Array.mem_append]; exact .inr (by simpa using hx))
    generalize caps.toList = l at this
    unfold amake
    split
    · rw [this]
    · rfl
  case call c =>
    obtain ⟨callee,args,tys⟩:=c
    cases callee with
    | value f => rfl
    | invoke r m => rfl
    | builtin b =>
      simp only
      have:args.toList.map ρ = args.toList.map ρ':=List.map_congr_left fun x hx => h x (by simp [Call.operands]; simpa using hx)
      rw [this]
  case slice t x lo hi mx =>
    have hx:ρ x = ρ' x:=h x (by simp)
    have hl:=fun d => bnd_congr (ρ:=ρ) (ρ':=ρ') (lo:=lo) (fun y hy => h y (by simp only [Array.mem_append]; exact .inl (.inl (.inr hy)))) d
    have hh:=fun d => bnd_congr (ρ:=ρ) (ρ':=ρ') (lo:=hi) (fun y hy => h y (by simp only [Array.mem_append]; exact .inl (.inr hy))) d
    cases mx with
    | some m => rfl
    | none =>
      simp only [hx,hl,hh]
      cases hi with
      | none => cases lo <;> cases dst <;> cases T.lookup t <;> (first | rfl | skip) <;> (repeat' split) <;> (first | rfl | (simp_all; done) | (simp_all; rename_i hx; exact hx _ Iff.rfl) | (simp_all; rename_i hx hy; exact hx _ Iff.rfl))
      | some hi' =>
        have:=h hi' (by simp)
        cases lo <;> cases dst <;> cases T.lookup t <;> (first | rfl | skip) <;> (repeat' split) <;> (first | rfl | (simp_all; done) | (simp_all; rename_i hx; exact hx _ Iff.rfl) | (simp_all; rename_i hx hy; exact hx _ Iff.rfl))
  all_goals (first | rfl | (simp_all; done) | (simp_all; rename_i hx; exact hx _ Iff.rfl) | (simp_all; rename_i hx hy; exact hx _ Iff.rfl))
theorem sides_congr {ρ ρ':Operand → AV}:∀ {xs:List Operand},(∀ x ∈ xs,ρ x = ρ' x) → sides ρ xs → sides ρ' xs
  | [],_,_ => trivial
  | x :: xs,h,hs => by
    simp only [sides] at hs ⊢
    exact ⟨by rw [← h x (by simp)]; exact hs.1,sides_congr (fun y hy => h y (by simp [hy])) hs.2⟩
theorem mapEff_congr {ρ ρ':Operand → AV} (o:Oper) (h:∀ x ∈ o.op.operands,ρ x = ρ' x):mapEff P T ρ τ o = mapEff P T ρ' τ o:=by
  unfold mapEff
  split
  · rfl
  · rename_i t m k v ho
    rw [ho] at h
    rw [h m (by simp [Op.operands]),h k (by simp [Op.operands]),h v (by simp [Op.operands])]
  · rename_i t m k ho
    rw [ho] at h
    rw [h m (by simp [Op.operands]),h k (by simp [Op.operands])]
  · rfl
theorem bytEff_congr {ρ ρ':Operand → AV} (o:Oper) (h:∀ x ∈ o.op.operands,ρ x = ρ' x):bytEff T ρ τ o = bytEff T ρ' τ o:=by
  unfold bytEff
  split
  · rename_i s t x ho
    rw [ho] at h
    rw [h x (by simp [Op.operands])]
  · rename_i x t ho
    rw [ho] at h
    rw [h x (by simp [Op.operands,Call.operands])]
  · rename_i t x ix ho
    rw [ho] at h
    rw [h x (by simp [Op.operands]),h ix (by simp [Op.operands])]
  · rename_i t x ho
    rw [ho] at h
    rw [h x (by simp [Op.operands])]
  · rename_i t x y ho
    rw [ho] at h
    rw [h x (by simp [Op.operands]),h y (by simp [Op.operands])]
  · rfl
theorem StepR_congr {ρ ρ':Operand → AV} {o:Oper} {v:AV} {oe:List (Nat × AObj)} (h:∀ x ∈ o.op.operands,ρ x = ρ' x) (hs:StepR P T H ρ τ o v oe):StepR P T H ρ' τ o v oe:=by
  cases hs with
  | op he hsd => exact .op (by rw [← astep_congr o h]; exact he) hsd
  | map he hsd => exact .map (by rw [← mapEff_congr o h]; exact he) hsd
  | byt he hsd => exact .byt (by rw [← bytEff_congr o h]; exact he) hsd
  | call ho hx hd hc =>
    rename_i x s f d cap args ts cres b1 b2
    have h':∀ x ∈ args.toList,ρ x = ρ' x:=fun x hx => h x (by rw [ho]; simp [Op.operands,Call.operands]; exact .inr (by simpa using hx))
    have hx':ρ x = ρ' x:=h x (by rw [ho]; simp [Op.operands,Call.operands])
    have e:(args.toList.map fun x => (ρ x).ug.2) = args.toList.map fun x => (ρ' x).ug.2:=List.map_congr_left fun x hx => by rw [h' x hx]
    refine .call (s:=s) (f:=f) (cap:=cap) ho (by unfold calleeOf at hx ⊢; rw [← hx']; exact hx) hd ⟨⟨hc.sd.1,sides_congr h' hc.sd.2⟩,?_,hc.sm,hc.sm2,hc.gh,hc.fr,hc.fr2⟩
    rw [← e]
    exact hc.ar
theorem aguard_congr {t t':Nat → AV} {j:Nat} {want:Bool} (h:∀ d,(ops[j]?).bind (·.dst) = some d → t d = t' d):aguard ops t j want = aguard ops t' j want:=by
  unfold aguard
  split
  · rename_i d hd
    rw [h d hd]
  · rfl
theorem SG_congr {v:AV} {oe:List (Nat × AObj)} (h:∀ d ∈ o.looksAt ops,σ.t d = σ'.t d) (hs:SG P T H ops σ τ o v oe):SG P T H ops σ' τ o v oe:=by
  have hev:∀ x ∈ o.op.operands,ev σ x = ev σ' x:=fun x hx => by
    cases x with
    | tmp t => simp only [ev]; exact h t (by simp only [Oper.looksAt,List.mem_append,List.mem_filterMap]; exact .inl ⟨.tmp t,by simpa using hx,rfl⟩)
    | _ => rfl
  have hgd:∀ j want,o.guard = some (j,want) → aguard ops σ.t j want = aguard ops σ'.t j want:=fun j want hg =>
    aguard_congr fun d hd => h d (by simp only [Oper.looksAt,List.mem_append,hg,hd]; exact .inr (by simp))
  cases hs with
  | run hg hr =>
    refine .run ?_ (StepR_congr hev hr)
    rcases hg with hg | ⟨j,want,hg,hga⟩
    · exact .inl hg
    · exact .inr ⟨j,want,hg,by rw [← hgd j want hg]; exact hga⟩
  | off hg hga => exact .off hg (by rw [← hgd _ _ hg]; exact hga)
  | mrg hg hga hr => exact .mrg hg (by rw [← hgd _ _ hg]; exact hga) (fun e => StepR_congr hev (hr e))
def Closed (ops:Array Oper) (S:Nat → Bool):Prop:=∀ j o,ops[j]? = some o → S j = true → ∀ e ∈ o.after,Region.binds .any e = true → S e.on = true
theorem befMask_spec {acc:List Nat} {k:Nat}:∀ {l:List Edge} {m:Nat},(befMask acc l m).testBit k = true → m.testBit k = true ∨ ∃ e,e ∈ l ∧ (k = e.on ∨ (acc.getD e.on 0).testBit k = true)
  | [],m,h => .inl h
  | e :: r,m,h => by
    simp only [befMask] at h
    rcases befMask_spec h with h1 | ⟨e',h1,h2⟩
    · rw [Nat.testBit_or,Nat.testBit_or,Bool.or_eq_true,Bool.or_eq_true,Nat.testBit_two_pow,decide_eq_true_eq] at h1
      rcases h1 with (h1 | h1) | h1
      · exact .inl h1
      · exact .inr ⟨e,by simp,.inl h1.symm⟩
      · exact .inr ⟨e,by simp,.inr h1⟩
    · exact .inr ⟨e',by simp [h1],h2⟩
theorem befGo_spec:∀ (l:List Oper) (acc:List Nat),(∀ j,l[j]? = ops[acc.length + j]?) →
    (∀ j bl,acc[j]? = some bl → (∀ S,Closed ops S → S j = true → ∀ k,bl.testBit k = true → S k = true)) →
    ∀ j bl,(befGo l acc)[j]? = some bl → (∀ S,Closed ops S → S j = true → ∀ k,bl.testBit k = true → S k = true)
  | [],acc,_,h => h
  | o :: r,acc,hl,h => by
    have h0:ops[acc.length]? = some o:=by simpa using (hl 0).symm
    simp only [befGo]
    refine befGo_spec r _ (fun j => ?_) (fun j bl hj S hc hs k hk => ?_)
    · have:=hl (j + 1)
      rw [List.length_append,List.length_singleton,show acc.length + 1 + j = acc.length + (j + 1) by omega]
      simpa using this
    · by_cases hlt:j < acc.length
      · rw [List.getElem?_append_left hlt] at hj
        exact h j bl hj S hc hs k hk
      · by_cases he:j = acc.length
        · subst he
          rw [List.getElem?_append_right (Nat.le_refl _)] at hj
          simp at hj
          subst hj
          rcases befMask_spec hk with hk | ⟨e,hem,hk⟩
          · simp at hk
          · obtain ⟨he1,he2⟩:=List.mem_filter.1 hem
            have hSe:=hc _ o h0 hs e (by simpa using he1) he2
            rcases hk with rfl | hk
            · exact hSe
            · cases hg:acc[e.on]? with
              | none => simp [List.getD,hg] at hk
              | some bl' =>
                simp only [List.getD,hg,Option.getD_some] at hk
                exact h e.on bl' hg S hc hSe k hk
        · rw [List.getElem?_append_right (by omega)] at hj
          have:j - acc.length ≥ 1:=by omega
          rw [List.getElem?_eq_none (by simpa using this)] at hj
          cases hj
theorem befs_spec {S:Nat → Bool} (hc:Closed ops S) {j k:Nat} (hs:S j = true) (hk:((befs ops).getD j 0).testBit k = true):S k = true:=by
  cases hg:(befs ops)[j]? with
  | none => simp [List.getD,hg] at hk
  | some bl =>
    simp only [List.getD,hg,Option.getD_some] at hk
    exact befGo_spec ops.toList [] (by simp) (by simp) j bl hg S hc hs k hk
def lst (listed:Array Bool) (k:Nat):Bool:=listed.getD k false
theorem drawOk_one {N:Nat × Nat} {hs:List DH} (h:drawOk N ops hs = true) {j:Nat} {o:Oper} (hj:ops[j]? = some o):oneOk N ops hs j = true ∧ ∀ k,k < ops.size → unordered (befs ops) j k = true → pairOk ops hs j k = true:=by
  simp only [drawOk,Bool.and_eq_true,List.all_eq_true,List.mem_range,Bool.or_eq_true,Bool.not_eq_true'] at h
  have hlt:j < ops.size:=(Array.getElem?_eq_some_iff.1 hj).1
  obtain ⟨h1,h2⟩:=h.2 j hlt
  refine ⟨h1,fun k hk hu => ?_⟩
  rcases h2 k hk with h3 | h3
  · rw [hu] at h3; cases h3
  · exact h3
theorem befs_lt {N:Nat × Nat} {hs:List DH} (h:drawOk N ops hs = true) {j k:Nat} (hj:j < ops.size) (hk:((befs ops).getD j 0).testBit k = true):k < j ∨ k = j:=by
  -- the set of all that are not behind j is closed
  have hc:Closed ops (fun x => decide (x ≤ j)):=by
    intro x o hx hS e he hb
    have h1:=(drawOk_one h hx).1
    simp only [oneOk,hx] at h1
    split at h1
    · rename_i o' h' e1 e2
      cases e1
      simp only [Bool.and_eq_true,List.all_eq_true] at h1
      have:=h1.1 e (by simpa using he)
      simp only [hb,Bool.not_true,Bool.false_or,decide_eq_true_eq] at this hS ⊢
      omega
    · cases h1
  have:=befs_spec hc (j:=j) (by simp) hk
  simp at this
  omega
theorem draw_inv (hT:TyOK P T) {hs:List DH} (hok:drawOk C.N ops hs = true) {L:List Eft} (htr:Tr P T H ops (ops.toList.zip hs) σ L) {Q:Exit → Act → World → Prop}
    (hQ:∀ a w,Post C (appL L σ) a w → Q .normal a w) :
    ∀ (fuel:Nat) (listed:Array Bool) (a:Act) (w:World),listed.size = ops.size → (∃ l:List Nat,l.length ≤ fuel ∧ ∀ i,i < ops.size → lst listed i = false → i ∈ l) →
      Closed ops (lst listed) → Post C (appS (lst listed) L 0 σ) a w → wpAny P .any ops Q fuel listed a w:=by
  have hlen:hs.length = ops.size:=by
    simp only [drawOk,Bool.and_eq_true,beq_iff_eq] at hok; exact hok.1
  have hL:L.length = ops.size:=by rw [Tr_length htr]; simp [hlen]
  have done:∀ (listed:Array Bool) (a:Act) (w:World),(∀ i,i < ops.size → lst listed i = true) → Post C (appS (lst listed) L 0 σ) a w → Q .normal a w:=by
    intro listed a w hall hP
    rw [appS_all L 0 σ (fun k _ hk => hall k (by omega))] at hP
    exact hQ a w hP
  have unlisted:∀ (listed:Array Bool) (i:Nat),listed.size = ops.size → i < ops.size → (listed.getD i true = false ↔ lst listed i = false):=by
    intro listed i hs hi
    unfold lst
    have:i < listed.size:=by omega
    simp [Array.getD,this]
  have allof:∀ (listed:Array Bool),listed.size = ops.size → Region.ready .any ops listed = [] → ∀ i,i < ops.size → lst listed i = true:=by
    intro listed hsz hr i
    induction i using Nat.strongRecOn with
    | _ i ih =>
      intro hi
      cases hb:lst listed i with
      | true => rfl
      | false =>
        exfalso
        have ho:ops[i]? = some ops[i]:=Array.getElem?_eq_getElem hi
        have:i ∈ Region.ready .any ops listed:=by
          refine mem_ready.2 ⟨(unlisted listed i hsz hi).2 hb,ops[i],ho,fun e he hbd => ?_⟩
          have h1:=(drawOk_one hok ho).1
          simp only [oneOk,ho] at h1
          split at h1
          · rename_i o' h' e1 e2
            cases e1
            simp only [Bool.and_eq_true,List.all_eq_true] at h1
            have:=h1.1 e (by simpa using he)
            simp only [hbd,Bool.not_true,Bool.false_or,decide_eq_true_eq] at this
            exact ih e.on this (by omega)
          · cases h1
        rw [hr] at this
        cases this
  intro fuel
  induction fuel with
  | zero =>
    intro listed a w hsz ⟨l,hl,hin⟩ hc hP
    have hall:∀ i,i < ops.size → lst listed i = true:=fun i hi => by
      cases hb:lst listed i with
      | true => rfl
      | false => have:=hin i hi hb; rw [List.length_eq_zero_iff.1 (Nat.le_zero.1 hl)] at this; cases this
    refine ⟨?_,done listed a w hall hP⟩
    cases hr:Region.ready .any ops listed with
    | nil => rfl
    | cons x xs =>
      have hx:x ∈ Region.ready .any ops listed:=by rw [hr]; exact List.mem_cons_self ..
      obtain ⟨h1,o,ho,_⟩:=mem_ready.1 hx
      have hlt:=(Array.getElem?_eq_some_iff.1 ho).1
      have:=(unlisted listed x hsz hlt).1 h1
      rw [hall x hlt] at this
      cases this
  | succ fuel ih =>
    intro listed a w hsz ⟨l,hl,hin⟩ hc hP
    refine ⟨fun hr => done listed a w (allof listed hsz hr) hP,fun j hj => ?_⟩
    obtain ⟨hun,o,ho,hpre⟩:=mem_ready.1 hj
    have hlt:=(Array.getElem?_eq_some_iff.1 ho).1
    have hSj:=(unlisted listed j hsz hlt).1 hun
    have hS':lst (listed.setIfInBounds j true) = fun k => decide (k = j) || lst listed k:=by
      funext k
      unfold lst
      by_cases hk:k = j
      · subst hk
        have:k < listed.size:=by omega
        simp [Array.getD,this]
      · have:=Array.getElem?_setIfInBounds_ne (xs:=listed) (i:=j) (j:=k) (a:=true) (fun e => hk e.symm)
        simp [this,hk]
    have hc':Closed ops (lst (listed.setIfInBounds j true)):=by
      rw [hS']
      intro x ox hx hSx e he hb
      simp only [Bool.or_eq_true,decide_eq_true_eq] at hSx ⊢
      rcases hSx with rfl | hSx
      · rw [ho] at hx; cases hx
        exact .inr (hpre e he hb)
      · exact .inr (hc x ox hx hSx e he hb)
    -- who is ordered to j has run,or has not,by its place
    have hord:∀ k,k < ops.size → k ≠ j → unordered (befs ops) j k = false → lst listed k = decide (k < j):=by
      intro k hk hkj hu
      simp only [unordered,Bool.and_eq_false_iff,bne_eq_false_iff_eq,Bool.not_eq_false',List.contains_iff_mem] at hu
      rcases hu with (hu | hu) | hu
      · exact absurd hu.symm hkj
      · have h1:=befs_spec hc' (j:=j) (by rw [hS']; simp) hu
        rw [hS'] at h1
        simp only [Bool.or_eq_true,decide_eq_true_eq] at h1
        rcases h1 with h1 | h1
        · exact absurd h1 hkj
        · rw [h1]
          rcases befs_lt hok hlt hu with h2 | h2
          · simp [h2]
          · exact absurd h2 hkj
      · have hkl:lst listed k = false:=by
          cases hb:lst listed k with
          | false => rfl
          | true => have:=befs_spec hc (j:=k) hb hu; rw [hSj] at this; cases this
        rw [hkl]
        rcases befs_lt hok hk hu with h2 | h2
        · simp; omega
        · exact absurd h2.symm hkj
    have hj2:∃ h,hs[j]? = some h:=⟨hs[j]'(by omega),List.getElem?_eq_getElem (by omega)⟩
    obtain ⟨h,hh⟩:=hj2
    have hz:(ops.toList.zip hs)[j]? = some (o,h):=by
      rw [List.getElem?_zip_eq_some]
      exact ⟨by simpa using ho,hh⟩
    obtain ⟨e,hLe,hed,hSG,hoe⟩:=Tr_get (i:=0) htr hz
    simp only [Nat.zero_add] at hSG
    -- what each other operation may have to do with j
    have hLk:∀ (k:Nat) (ek:Eft),L[k]? = some ek → ∃ (ok:Oper) (hk:DH),ops[k]? = some ok ∧ hs[k]? = some hk ∧ ek.1 = ok.dst ∧ oeOk hk ok.dst ek.2.2:=by
      intro k ek hk
      have hlt':k < ops.size:=by have:=(List.getElem?_eq_some_iff.1 hk).1; omega
      have h1:ops[k]? = some ops[k]:=Array.getElem?_eq_getElem hlt'
      have h2:hs[k]? = some (hs[k]'(by omega)):=List.getElem?_eq_getElem (by omega)
      have hz':(ops.toList.zip hs)[k]? = some (ops[k],hs[k]'(by omega)):=by
        rw [List.getElem?_zip_eq_some]
        exact ⟨by simpa using h1,h2⟩
      obtain ⟨e',h3,h4,_,h5⟩:=Tr_get (i:=0) htr hz'
      rw [hk] at h3
      cases h3
      exact ⟨_,_,h1,h2,h4,h5⟩
    have hpair:∀ (k:Nat) (ek:Eft),L[k]? = some ek → unordered (befs ops) j k = true → (∀ d,ek.1 = some d → d ∉ o.looksAt ops ∧ o.dst ≠ some d) ∧ (∀ x ob,(x,ob) ∈ ek.2.2 → h.masked x = true):=by
      intro k ek hk hu
      obtain ⟨ok,hk',h1,h2,h3,h4⟩:=hLk k ek hk
      have hp:=(drawOk_one hok ho).2 k (Array.getElem?_eq_some_iff.1 h1).1 hu
      simp only [pairOk,ho,h1,hh,h2,Bool.and_eq_true] at hp
      obtain ⟨⟨p1,p2⟩,p3⟩:=hp
      refine ⟨fun d hd => ?_,fun x ob hm => ?_⟩
      · rw [h3] at hd
        rw [hd] at p1
        simp only [Bool.and_eq_true,Bool.not_eq_true',bne_iff_ne,ne_eq] at p1
        exact ⟨fun hm => by rw [List.contains_iff_mem.2 hm] at p1; exact absurd p1.1 (by simp),p1.2⟩
      · have key:∀ (oe:List (Nat × AObj)),oeOk hk' ok.dst oe → (x,ob) ∈ oe → hk'.wr.contains x = true ∨ (hk'.cr = true ∧ ok.dst = some (x / 64)):=by
          intro oe
          induction oe with
          | nil => intro _ h; cases h
          | cons y r ih =>
            intro hoe hm
            simp only [oeOk] at hoe
            rcases List.mem_cons.1 hm with hm | hm
            · cases hm; exact hoe.1
            · exact ih hoe.2.2 hm
        unfold DH.masked
        rcases key _ h4 hm with hw | ⟨hcr,hd⟩
        · rw [List.all_eq_true] at p2
          rw [p2 x (List.contains_iff_mem.1 hw),Bool.true_or]
        · rw [hcr,hd] at p3
          simp only [Bool.not_true,Bool.false_or] at p3
          rw [p3,Bool.or_true]
    have hoem:∀ x ob,(x,ob) ∈ e.2.2 → h.masked x = false:=by
      have key:∀ (oe:List (Nat × AObj)),oeOk h o.dst oe → ∀ x ob,(x,ob) ∈ oe → h.masked x = false:=by
        intro oe
        induction oe with
        | nil => intro _ _ _ h; cases h
        | cons y r ih =>
          intro hoe x ob hm
          simp only [oeOk] at hoe
          rcases List.mem_cons.1 hm with hm | hm
          · cases hm; exact hoe.2.1
          · exact ih hoe.2.2 x ob hm
      exact key _ hoe
    -- the state is,at what j looks at,as in the order of the text
    have ht:∀ d ∈ o.looksAt ops,(appS (fun k => decide (k < j)) L 0 σ).t d = (appS (lst listed) L 0 σ).t d:=by
      intro d hd
      refine appS_t L 0 rfl (fun k ek hk hkd => ?_)
      rw [Nat.zero_add]
      have hkn:k < ops.size:=by have:=(List.getElem?_eq_some_iff.1 hk).1; omega
      by_cases hkj:k = j
      · subst hkj; rw [hSj]; simp
      · cases hu:unordered (befs ops) j k with
        | true => exact absurd hd ((hpair k ek hk hu).1 d hkd).1
        | false => exact (hord k hkn hkj hu).symm
    have hobj:∀ x,h.masked x = false → (appS (fun k => decide (k < j)) L 0 σ).o x = (appS (lst listed) L 0 σ).o x:=by
      intro x hx
      refine appS_o L 0 rfl (fun k ek hk hkx => ?_)
      rw [Nat.zero_add]
      have hkn:k < ops.size:=by have:=(List.getElem?_eq_some_iff.1 hk).1; omega
      by_cases hkj:k = j
      · subst hkj; rw [hSj]; simp
      · cases hu:unordered (befs ops) j k with
        | true => obtain ⟨ob,hm⟩:=hkx; have:=(hpair k ek hk hu).2 x ob hm; rw [hx] at this; cases this
        | false => exact (hord k hkn hkj hu).symm
    have hSG':=SG_congr ht hSG
    have hagr:Agr (appS (lst listed) L 0 σ).o (msk h (appS (fun k => decide (k < j)) L 0 σ).o):=by
      intro x h1 h2
      unfold msk at h2 ⊢
      cases hx:h.masked x with
      | true => rw [hx] at h2; exact absurd rfl h2
      | false => exact (hobj x hx).symm
    have hone:=(drawOk_one hok ho).1
    simp only [oneOk,ho,hh,Bool.and_eq_true] at hone
    obtain ⟨ι,Fs,hSim⟩:=hP
    have hins:appS (lst (listed.setIfInBounds j true)) L 0 σ = (AEnv.wr e.2.2 (appS (lst listed) L 0 σ)).set o.dst e.2.1:=by
      rw [hS',appS_insert hSj L 0 σ hLe (Nat.zero_le _) (fun k ek hk hkj hSk hlt' => ?_) (fun k ek hk hSk hlt' x ob ob' hm hm' => ?_)]
      · rw [← hed]; rfl
      · rw [Nat.zero_add] at hkj hSk hlt'
        have hkn:k < ops.size:=by have:=(List.getElem?_eq_some_iff.1 hk).1; omega
        cases hu:unordered (befs ops) j k with
        | true =>
          cases hd:ek.1 with
          | none => exact .inr rfl
          | some d => refine .inl (fun he => ?_); rw [hed] at he; exact ((hpair k ek hk hu).1 d hd).2 he.symm
        | false =>
          have:=hord k hkn hkj hu
          rw [hSk] at this
          simp at this
          omega
      · rw [Nat.zero_add] at hSk hlt'
        have hkn:k < ops.size:=by have:=(List.getElem?_eq_some_iff.1 hk).1; omega
        cases hu:unordered (befs ops) j k with
        | true => have h1:=(hpair k ek hk hu).2 x ob hm; rw [hoem x ob' hm'] at h1; cases h1
        | false =>
          have:=hord k hkn (by omega) hu
          rw [hSk] at this
          simp at this
          omega
    have hfin:=SG_sound (Q:=Q) (K:=wpAny P .any ops Q fuel (listed.setIfInBounds j true)) hT hSim hagr hSG'
      (fun x ob hm h1 => by
        have hx:=hoem x ob hm
        unfold msk at h1
        rw [hx] at h1
        rw [← hobj x hx]; exact h1)
      (fun d hd h1 => by
        rw [hd] at hone
        simp only [Bool.and_eq_true,Bool.not_eq_true'] at hone
        have hx:=hone.2.2
        unfold msk at h1
        rw [hx] at h1
        rw [← hobj _ hx]; exact h1)
      (fun d hd => by
        rw [hd] at hone
        simp only [Bool.and_eq_true,decide_eq_true_eq] at hone
        exact hone.2.1)
      (fun a' w' hP' => ih _ a' w' (by simpa using hsz) ⟨l.erase j,by
          have:=hin j hlt hSj
          have h1:=List.length_erase_of_mem this
          have h2:=List.length_pos_of_mem this
          omega,fun i hi hb => by
          have hij:i ≠ j:=fun e => by subst e; rw [hS'] at hb; simp at hb
          rw [hS'] at hb
          simp only [Bool.or_eq_false_iff] at hb
          exact (List.mem_erase_of_ne hij).2 (hin i hi hb.2)⟩ hc' (by rw [hins]; exact hP'))
    unfold wpOp
    rw [ho]
    simp only
    split
    · rename_i hw
      rw [if_pos hw] at hfin
      exact .inl hfin
    · rename_i hw
      rw [if_neg hw] at hfin
      exact hfin
theorem Post_drew (h:Post C σ a w):Post C σ a { w with drawn:=w.drawn + 1 }:=by
  obtain ⟨ι,Fs,h⟩:=h
  refine ⟨ι,Fs,h.move (O':=σ.o) (X:=fun _ => False) ⟨rfl,⟨rfl,Nat.le_succ _⟩,rfl,Nat.le_refl _,fun _ _ _ => rfl,fun _ _ => ⟨rfl,rfl,rfl⟩,fun _ hX => hX.elim,fun _ hX => hX.elim,fun _ hX => hX.elim,fun _ hX => hX.elim,fun _ _ hX => hX.elim⟩⟩
theorem adraw_sound (hT:TyOK P T) {hs:List DH} (hok:drawOk C.N ops hs = true) {K:AEnv → Prop} {Q:Exit → Act → World → Prop} {id:Nat}
    (hK:∀ σ' a' w',K σ' → Post C σ' a' w' → Q .normal a' w') (h:adraw P T H ops (ops.toList.zip hs) σ K) (hm:P.follows .mixedOrders = true) (hP:Post C σ a w) :
    (Code.region id ops true).wp P Q a w:=by
  obtain ⟨L,htr,hKL⟩:=adraw_trace h
  refine wp_region_any hm (draw_inv hT hok htr (fun a w hP => hK _ a w hKL hP) ops.size _ a _ (by simp) ⟨List.range ops.size,by simp,fun i hi _ => by simpa using hi⟩ ?_ ?_)
  · intro j o ho hS
    simp [lst,Array.getD] at hS
  · rw [appS_none L 0 σ (fun k _ => by simp [lst,Array.getD])]
    exact Post_drew hP
end
end Am
namespace Am
open Go
def aguardD (ds:List (Option Nat)) (t:Nat → AV) (j:Nat) (want:Bool):Option Bool :=
  match ds[j]? with
  | some (some d) => (match t d with
    | .c (.bool b) => some (b == want)
    | .gd b0 (.c (.bool b)) => some (b0 && (b == want))
    | .gd false _ => some false
    | _ => none)
  | _ => none
theorem aguardD_eq (ops:Array Oper) (t:Nat → AV) (j:Nat) (want:Bool):aguardD (ops.toList.map (·.dst)) t j want = aguard ops t j want:=by
  unfold aguardD aguard
  rw [List.getElem?_map,Array.getElem?_toList]
  cases h:ops[j]? with
  | none => rfl
  | some o =>
    simp only [Option.map_some,Option.bind_some]
    cases o.dst with
    | none => rfl
    | some d => rfl
def Sp (g:Bool) (A B:Unit → Prop):Prop:=(g = true → A ()) ∧ (g = false → B ())
def ao1D (P:Program) (T:Ty) (H:Hints) (ds:List (Option Nat)) (σ:AEnv) (τ:Nat → AObj) (o:Oper) (K:AV → List (Nat × AObj) → Prop):Prop :=
  match o.guard with
  | none => aop1 P T H True (ev σ) τ o K
  | some (j,want) => match aguardD ds σ.t j want with
    | some g => match H.merge (o.dst.getD 0) && isPure H (ev σ) o.op with
      | true => aop1 P T H (g = true) (ev σ) τ o (fun v oe => oe = [] ∧ K (.gd g v) [])
      | false => Sp g (fun _ => aop1 P T H True (ev σ) τ o K) (fun _ => K (.gd false .any) [])
    | none => False
theorem ao1D_eq (P:Program) (T:Ty) (H:Hints) (ops:Array Oper) (σ:AEnv) (τ:Nat → AObj) (o:Oper) (K:AV → List (Nat × AObj) → Prop) :
    ao1D P T H (ops.toList.map (·.dst)) σ τ o K = ao1 P T H ops σ τ o K:=by
  unfold ao1D ao1
  simp only [aguardD_eq]
  rfl
def aopsD (P:Program) (T:Ty) (H:Hints) (ds:List (Option Nat)):List Oper → AEnv → (AEnv → Prop) → Prop
  | [],σ,K => K σ
  | o :: r,σ,K => ao1D P T H ds σ σ.o o (fun v oe => aopsD P T H ds r ((AEnv.wr oe σ).set o.dst v) K)
theorem aopsD_eq (P:Program) (T:Ty) (H:Hints) (ops:Array Oper):∀ (l:List Oper) (σ:AEnv) (K:AEnv → Prop),aopsD P T H (ops.toList.map (·.dst)) l σ K = aops P T H ops l σ K
  | [],_,_ => rfl
  | o :: r,σ,K => by simp only [aopsD,aops,ao1D_eq,aopsD_eq P T H ops r]
def adrawD (P:Program) (T:Ty) (H:Hints) (ds:List (Option Nat)):List (Oper × DH) → AEnv → (AEnv → Prop) → Prop
  | [],σ,K => K σ
  | (o,h) :: r,σ,K => ao1D P T H ds σ (msk h σ.o) o (fun v oe => oeOk h o.dst oe ∧ adrawD P T H ds r ((AEnv.wr oe σ).set o.dst v) K)
theorem adrawD_eq (P:Program) (T:Ty) (H:Hints) (ops:Array Oper):∀ (l:List (Oper × DH)) (σ:AEnv) (K:AEnv → Prop),adrawD P T H (ops.toList.map (·.dst)) l σ K = adraw P T H ops l σ K
  | [],_,_ => rfl
  | (o,h) :: r,σ,K => by simp only [adrawD,adraw,ao1D_eq,adrawD_eq P T H ops r]
inductive AEx where
  | normal
  | exit (id:Nat)
  | ret
def AEx.ex:AEx → Exit
  | .normal => .normal
  | .exit id => .exit id
  | .ret => .ret
def Wk (σ σ':AEnv):Prop:=∀ (C:Ctx) (a:Act) (w:World),Post C σ a w → Post C σ' a w
theorem Wk.refl (σ:AEnv):Wk σ σ:=fun _ _ _ h => h
theorem Wk.trans {σ σ' σ'':AEnv} (h:Wk σ σ') (h':Wk σ' σ''):Wk σ σ'':=fun C a w hP => h' C a w (h C a w hP)
def AW (P:Program) (N:Nat × Nat) (c:Code) (σ:AEnv) (K:AEx → AEnv → Prop):Prop :=
  ∀ (C:Ctx) (a:Act) (w:World) (Q:Exit → Act → World → Prop),C.N = N → Post C σ a w → (∀ e σ' a' w',K e σ' → Post C σ' a' w' → Q e.ex a' w') → c.wp P Q a w
def athen (k:AEnv → Prop) (K:AEx → AEnv → Prop):AEx → AEnv → Prop
  | .normal,σ => k σ
  | .exit id,σ => K (.exit id) σ
  | .ret,σ => K .ret σ
def ablk (id:Nat) (K:AEx → AEnv → Prop):AEx → AEnv → Prop
  | .normal,σ => K .normal σ
  | .exit i,σ => if i = id then K .normal σ else K (.exit i) σ
  | .ret,σ => K .ret σ
structure Hts extends Hints where
  dr:Nat → List DH:=fun _ => []
section
variable {P:Program} {T:Ty} {H:Hts} {N:Nat × Nat} {σ σ':AEnv} {K:AEx → AEnv → Prop}
theorem AW.mono {c:Code} {K':AEx → AEnv → Prop} (h:AW P N c σ K) (hK:∀ e σ,K e σ → K' e σ):AW P N c σ K' :=
  fun C a w Q hN hP hQ => h C a w Q hN hP (fun e σ' a' w' hk => hQ e σ' a' w' (hK e σ' hk))
theorem AW.wk {c:Code} (hw:Wk σ σ') (h:AW P N c σ' K):AW P N c σ K :=
  fun C a w Q hN hP hQ => h C a w Q hN (hw C a w hP) hQ
theorem AW_skip (h:K .normal σ):AW P N .skip σ K:=fun C a w Q hN hP hQ => wp_skip (hQ .normal σ a w h hP)
theorem AW_ret (h:K .ret σ):AW P N .ret σ K:=fun C a w Q hN hP hQ => wp_ret (hQ .ret σ a w h hP)
theorem AW_exit {id:Nat} (h:K (.exit id) σ):AW P N (.exit id) σ K:=fun C a w Q hN hP hQ => wp_exit (hQ (.exit id) σ a w h hP)
theorem AW_seq {x y:Code} (h:AW P N x σ (athen (fun σ' => AW P N y σ' K) K)):AW P N (.seq x y) σ K :=
  fun C a w Q hN hP hQ => wp_seq (h C a w _ hN hP (fun e σ' a' w' hk hP' => by
    cases e with
    | normal => exact hk C a' w' Q hN hP' hQ
    | exit id => exact hQ (.exit id) σ' a' w' hk hP'
    | ret => exact hQ .ret σ' a' w' hk hP'))
theorem AW_block {id:Nat} {c:Code} (h:AW P N c σ (ablk id K)):AW P N (.block id c) σ K :=
  fun C a w Q hN hP hQ => wp_block (h C a w _ hN hP (fun e σ' a' w' hk hP' => by
    cases e with
    | normal => exact hQ .normal σ' a' w' hk hP'
    | exit i =>
      simp only [AEx.ex,Exit.inBlock]
      simp only [ablk] at hk
      split
      · rename_i he; rw [if_pos he] at hk; exact hQ .normal σ' a' w' hk hP'
      · rename_i he; rw [if_neg he] at hk; exact hQ (.exit i) σ' a' w' hk hP'
    | ret => exact hQ .ret σ' a' w' hk hP'))
theorem AW_cond {c:Operand} {x y:Code} {t:Bool} (hc:ev σ c = .c (.bool t)) (hx:t = true → AW P N x σ K) (hy:t = false → AW P N y σ K):AW P N (.cond c x y) σ K :=
  fun C a w Q hN hP hQ => by
    obtain ⟨ι,Fs,hS⟩:=hP
    have:=ev_AR hS c
    rw [hc] at this
    exact wp_cond_split (AR_bool this) (fun e => hx e C a w Q hN ⟨ι,Fs,hS⟩ hQ) (fun e => hy e C a w Q hN ⟨ι,Fs,hS⟩ hQ)
theorem AW_loop {c:Code} (I:Nat → AEnv → Prop) {n:Nat} {σ₀:AEnv} (hw:Wk σ σ₀) (h₀:I n σ₀)
    (round:∀ n σ₁,I n σ₁ → AW P N c σ₁ (athen (fun σ' => ∃ n' σ₂,n' < n ∧ Wk σ' σ₂ ∧ I n' σ₂) K)):AW P N (.loop c) σ K:=by
  intro C a w Q hN hP hQ b k cs
  have key:∀ n σ₁ a w,I n σ₁ → Post C σ₁ a w → ∃ e a' w',Q e a' w' ∧ Arrives P (lone (b.at a (.code c :: .inLoop c :: k)) cs w) b k cs e a' w':=by
    intro n
    induction n using Nat.strongRecOn with
    | _ n ih =>
      intro σ₁ a w hI hP
      have hr:=round n σ₁ hI C a w (Exit.then (fun a' w' => ∃ n' σ₂,n' < n ∧ I n' σ₂ ∧ Post C σ₂ a' w') Q) hN hP (fun e σ' a' w' hk hP' => by
        cases e with
        | normal =>
          obtain ⟨n',σ₂,h1,h2,h3⟩:=hk
          exact ⟨n',σ₂,h1,h3,h2 C a' w' hP'⟩
        | exit id => exact hQ (.exit id) σ' a' w' hk hP'
        | ret => exact hQ .ret σ' a' w' hk hP')
      obtain ⟨e,a₁,w₁,hq,harr⟩:=hr b (.inLoop c :: k) cs
      cases e with
      | normal =>
        obtain ⟨n',σ₂,hlt,hI₁,hP₁⟩:=hq
        obtain ⟨e₂,a₂,w₂,hq₂,harr₂⟩:=ih n' hlt σ₂ a₁ w₁ hI₁ hP₁
        exact ⟨e₂,a₂,w₂,hq₂,.of_steps (Steps.trans harr (.one step_inLoop)) harr₂⟩
      | exit id => exact ⟨_,a₁,w₁,hq,.pass (x:=.inLoop c) rfl (fun _ _ => .inl (by simp)) harr⟩
      | goto l => exact ⟨_,a₁,w₁,hq,.pass (x:=.inLoop c) rfl (fun _ _ => .inl (by simp)) harr⟩
      | ret => exact ⟨_,a₁,w₁,hq,.pass (x:=.inLoop c) rfl (fun _ _ => .inl (by simp)) harr⟩
      | panic ch => exact ⟨_,a₁,w₁,hq,.pass (x:=.inLoop c) rfl (fun _ _ => .inl (by simp)) harr⟩
      | outgrown => exact ⟨_,a₁,w₁,hq,.pass (x:=.inLoop c) rfl (fun _ _ => .inl (by simp)) harr⟩
  obtain ⟨e,a',w',hq,harr⟩:=key n σ₀ a w h₀ (hw C a w hP)
  exact ⟨e,a',w',hq,.of_steps (.one step_loop) harr⟩
def codeOk (N:Nat × Nat) (dr:Nat → List DH):Code → Bool
  | .skip | .ret | .exit _ => true
  | .region id ops false => dstOk N ops.toList
  | .region id ops true => drawOk N ops (dr id)
  | .seq x y => codeOk N dr x && codeOk N dr y
  | .cond _ x y => codeOk N dr x && codeOk N dr y
  | .block _ c => codeOk N dr c
  | .loop c => codeOk N dr c
  | _ => false
structure Hold {α:Type} (x:α):Type where
def AWh (P:Program) (N:Nat × Nat) (c:Code) (σ:AEnv) (K:AEx → AEnv → Prop) (_:Hold K):Prop:=AW P N c σ K
def awp (P:Program) (T:Ty) (H:Hts) (N:Nat × Nat):Code → AEnv → (AEx → AEnv → Prop) → Prop
  | .skip,σ,K => K .normal σ
  | .ret,σ,K => K .ret σ
  | .exit id,σ,K => K (.exit id) σ
  | .region _ ops false,σ,K => aopsD P T H.toHints (ops.toList.map (·.dst)) ops.toList σ (K .normal)
  | .region id ops true,σ,K => adrawD P T H.toHints (ops.toList.map (·.dst)) (ops.toList.zip (H.dr id)) σ (K .normal)
  | .seq x y,σ,K => awp P T H N x σ (athen (fun σ' => awp P T H N y σ' K) K)
  | .cond c x y,σ,K => match ev σ c with
    | .c (.bool t) => (t = true → awp P T H N x σ K) ∧ (t = false → awp P T H N y σ K)
    | _ => False
  | .block id c,σ,K => awp P T H N c σ (ablk id K)
  | .loop c,σ,K => AWh P N (.loop c) σ K ⟨⟩
  | _,_,_ => False
theorem awp_sound (hT:TyOK P T):∀ (c:Code) (σ:AEnv) (K:AEx → AEnv → Prop),codeOk N H.dr c = true → awp P T H N c σ K → AW P N c σ K:=by
  have hm:P.follows .mixedOrders = true:=hT.1
  intro c
  induction c with
  | skip => intro σ K _ h; exact AW_skip h
  | ret => intro σ K _ h; exact AW_ret h
  | exit id => intro σ K _ h; exact AW_exit h
  | region id ops draw =>
    intro σ K hok h C a w Q hN hP hQ
    cases draw with
    | false =>
      simp only [codeOk] at hok
      simp only [awp,aopsD_eq] at h
      exact wp_region_list (aops_sound hT (fun σ' a' w' hk hP' => hQ .normal σ' a' w' hk hP') _ _ _ _ (hN ▸ hok) h hP)
    | true =>
      simp only [codeOk] at hok
      simp only [awp,adrawD_eq] at h
      exact adraw_sound hT (hN ▸ hok) (fun σ' a' w' hk hP' => hQ .normal σ' a' w' hk hP') h hm hP
  | seq x y ihx ihy =>
    intro σ K hok h
    simp only [codeOk,Bool.and_eq_true] at hok
    simp only [awp] at h
    refine AW_seq ((ihx _ _ hok.1 h).mono (fun e σ' hk => ?_))
    cases e with
    | normal => exact ihy _ _ hok.2 hk
    | exit id => exact hk
    | ret => exact hk
  | cond c x y ihx ihy =>
    intro σ K hok h
    simp only [codeOk,Bool.and_eq_true] at hok
    simp only [awp] at h
    split at h
    · rename_i t hc
      exact AW_cond hc (fun e => ihx _ _ hok.1 (h.1 e)) (fun e => ihy _ _ hok.2 (h.2 e))
    · cases h
  | block id c ih =>
    intro σ K hok h
    simp only [codeOk] at hok
    simp only [awp] at h
    exact AW_block (ih _ _ hok h)
  | loop c ih => intro σ K _ h; exact h
  | _ => intro σ K hok h; simp [awp] at h
def resAV (T:Ty) (σ:AEnv):ResultVar → Option AV
  | .tmp t => some (σ.t t)
  | .cell a t => match T.lookup t,σ.t a with
    | some i,.box b off => match σ.o b with
      | .box cs => match i.k with
        | .struct _ => if off + i.size ≤ cs.length then some (.agg ((cs.drop off).take i.size)) else none
        | .other => none
        | _ => cs[off]?
      | _ => none
    | _,_ => none
def avCV (O:Nat → AObj):AV → Option (CV × List Nat)
  | .agg cs => match toPVs O cs with
    | some (ps,l) => some (.agg ps,l)
    | none => none
  | x => match toPV O x with
    | some (p,l) => some (.v p,l)
    | none => none
def avCVs (O:Nat → AObj):List AV → Option (List CV × List Nat)
  | [] => some ([],[])
  | x :: xs => match avCV O x,avCVs O xs with
    | some (c,l),some (cs,ls) => some (c :: cs,l ++ ls)
    | _,_ => none
def outCell (O:Nat → AObj):PV → AV → Option (PV × List Nat)
  | .any,_ => some (.any,[])
  | _,x => toPV O x
def outCells (O:Nat → AObj):List PV → List AV → Option (List PV × List Nat)
  | [],[] => some ([],[])
  | q :: qs,x :: xs => match outCell O q x,outCells O qs xs with
    | some (p,l),some (ps,ls) => some (p :: ps,l ++ ls)
    | _,_ => none
  | _,_ => none
def outCV (O:Nat → AObj):CV → AV → Option (CV × List Nat)
  | .any,_ => some (.any,[])
  | .ptr _,.box o 0 => match O o with
    | .box cs => match toPVs O cs with
      | some (ps,l) => some (.ptr ps,o :: l)
      | none => none
    | _ => none
  | .agg qs,.agg cs => match outCells O qs cs with
    | some (ps,l) => some (.agg ps,l)
    | none => none
  | .v _,x => match toPV O x with
    | some (p,l) => some (.v p,l)
    | none => none
  | _,_ => none
def outCVs (σ:AEnv):Nat → List CV → Option (List CV × List Nat)
  | _,[] => some ([],[])
  | i,c :: cs => match outCV σ.o c (σ.t i),outCVs σ (i + 1) cs with
    | some (x,l),some (xs,ls) => some (x :: xs,l ++ ls)
    | _,_ => none
def fitPV (O:Nat → AObj):PV → AV → Prop × List Nat
  | .ow _ _ n cs,.nil => (n = 0 ∧ cs = [],[])
  | .im n cs,.nil => (n = 0 ∧ cs = [],[])
  | want,x => match toPV O x with
    | some (p,l) => (p = want,l)
    | none => (False,[])
def fitPVs (O:Nat → AObj):List PV → List AV → Prop × List Nat
  | [],[] => (True,[])
  | p :: ps,x :: xs => ((fitPV O p x).1 ∧ (fitPVs O ps xs).1,(fitPV O p x).2 ++ (fitPVs O ps xs).2)
  | _,_ => (False,[])
def fitCV (O:Nat → AObj):CV → AV → Prop × List Nat
  | .agg ps,.agg cs => fitPVs O ps cs
  | .v p,x => fitPV O p x
  | .ptr ps,.box o 0 => match O o with
    | .box cs => match toPVs O cs with
      | some (qs,l) => (qs = ps,o :: l)
      | none => (False,[])
    | _ => (False,[])
  | _,_ => (False,[])
def fitCVs (O:Nat → AObj):List CV → List AV → Prop × List Nat
  | [],[] => (True,[])
  | p :: ps,x :: xs => ((fitCV O p x).1 ∧ (fitCVs O ps xs).1,(fitCV O p x).2 ++ (fitCVs O ps xs).2)
  | _,_ => (False,[])
def fitRes (O:Nat → AObj):CV → List AV → Prop × List Nat
  | .tup cs,[] => fitCVs O cs []
  | .tup cs,x :: y :: xs => fitCVs O cs (x :: y :: xs)
  | c,[x] => fitCV O c x
  | _,_ => (False,[])
def resOk (T:Ty) (rs:List ResultVar) (σ:AEnv) (cres:CV) (outs:List CV):Prop :=
  match allSome (rs.map (resAV T σ)) with
  | some avs => match outCVs σ 0 outs with
    | some (os,gone') => (fitRes σ.o cres avs).1 ∧ ((fitRes σ.o cres avs).2 ++ gone').Nodup ∧ os = outs
    | none => False
  | none => False
def fnK (T:Ty) (rs:List ResultVar) (cres:CV) (outs:List CV):AEx → AEnv → Prop
  | .normal,σ => resOk T rs σ cres outs
  | .ret,σ => resOk T rs σ cres outs
  | .exit _,_ => False
def argCell (k:Nat):PV → AV × List (Nat × AObj)
  | .ow e s n cs => (.arr k,[(k,.arr 0 e s n cs)])
  | p => (.c p,[])
def argCells (k:Nat):List PV → List AV × List (Nat × AObj)
  | [] => ([],[])
  | p :: ps => ((argCell k p).1 :: (argCells (k + 1) ps).1,(argCell k p).2 ++ (argCells (k + 1) ps).2)
def argAV0 (k:Nat):CV → AV × List (Nat × AObj)
  | .v p => argCell k p
  | .agg ps => (.agg (argCells k ps).1,(argCells k ps).2)
  | .ptr ps => (.box k 0,(k,.box (argCells (k + 1) ps).1) :: (argCells (k + 1) ps).2)
  | .pc ps => (.pc ps 0,[])
  | _ => (.any,[])
def capAV:CV → AV
  | .v p => .c p
  | .agg ps => .agg (ps.map .c)
  | .pc ps => .pc ps 0
  | _ => .any
def argAV (k:Nat):CV → AV × List (Nat × AObj)
  | .fn f caps => (.fn f (caps.map capAV),[])
  | c => argAV0 k c
def argsAV:Nat → List CV → List (Nat × AV)
  | _,[] => []
  | i,c :: cs => (i,(argAV (640000 + 64 * i) c).1) :: argsAV (i + 1) cs
def argsO:Nat → List CV → List (Nat × AObj)
  | _,[] => []
  | i,c :: cs => (argAV (640000 + 64 * i) c).2 ++ argsO (i + 1) cs
def argSmall:CV → Bool
  | .agg ps => decide (ps.length ≤ 40)
  | .ptr ps => decide (ps.length ≤ 40)
  | _ => true
def look (i:Nat):List (Nat × AV) → AV
  | [] => .any
  | (j,v) :: r => if i = j then v else look i r
def lookO (i:Nat):List (Nat × AObj) → AObj
  | [] => .none
  | (j,v) :: r => if i = j then v else lookO i r
def mkE (l:List (Nat × AV)) (lo:List (Nat × AObj)):AEnv:=⟨fun i => look i l,fun o => lookO o lo⟩
end
attribute [irreducible] AWh
end Am
namespace Am
open Go
section
variable {P:Program} {T:Ty} {C:Ctx} {σ:AEnv} {a:Act} {w w':World} {ι:Nat → Value} {Fs:Nat → List Nat}
theorem loadVar_of_loadAt {t:Nat} {b off:Nat} {r:Result Value} (h:(Instr.loadAt t (.pointer (some ⟨b,off,none⟩))).run P w = r):(loadVar t ⟨b,off,none⟩).run P w = r:=by
  simpa [Instr.loadAt,Instr.sureAddr] using h
def readRes (tmps:Array Value):ResultVar → Sem Value
  | .tmp t => pure (tmps.getD t undef)
  | .cell a t => do loadVar t (← asAddr (tmps.getD a undef))
theorem results_eq (fn:Func) (tmps:Array Value):results fn tmps = (do let vs ← fn.results.mapM (readRes tmps); pure (if h:vs.size = 1 then vs[0] else .tuple vs)):=by
  unfold results
  congr 1
theorem resAV_run (hT:TyOK P T) (h:Sim C σ a w ι Fs) {r:ResultVar} {av:AV} (hr:resAV T σ r = some av):∃ v,(readRes a.tmps r).run P w = .ok v w ∧ AR w (Un C w Fs) σ.o ι av v:=by
  cases r with
  | tmp t =>
    simp only [resAV] at hr
    cases hr
    exact ⟨_,by simp [readRes],h.tm t⟩
  | cell at' t =>
    simp only [resAV] at hr
    split at hr
    · rename_i i b off hl ht
      have hi:=hT.m hl
      split at hr
      · rename_i cs ho
        have hta:=h.tm at'
        rw [ht] at hta
        simp only [AR,ho] at hta
        obtain ⟨k,hkb,hv⟩:=hta
        obtain ⟨vals,ty,hh,hm,hrr,_,_⟩:=box_mem h ho hkb
        have hread:∀ {u:Value},(Instr.loadAt t (.pointer (some ⟨k,off,none⟩))).run P w = .ok u w → (readRes a.tmps (.cell at' t)).run P w = .ok u w:=by
          intro u hu
          have:=loadVar_of_loadAt hu
          simp only [readRes,hv]
          simp [asAddr,this]
        split at hr
        · rename_i fs hk
          split at hr
          · rename_i hle
            cases hr
            have hlen:=ARs_length _ _ hrr
            have hm':=memAt_drop hm off
            rw [Nat.zero_add] at hm'
            refine ⟨.agg ((vals.toList.drop off).take i.size).toArray,hread (loadAt_struct hi hk hm' (by simp only [List.length_drop]; omega)),?_⟩
            simp only [AR]; exact ⟨_,rfl,by simpa using ARs_take (ARs_drop hrr off) i.size⟩
          · cases hr
        · cases hr
        · rename_i hk1 hk2
          obtain ⟨u,hu,hur⟩:=ARs_get hrr hr
          have hc:=hm off u hu
          rw [Nat.zero_add] at hc
          exact ⟨u,hread (loadAt_cell hi (fun hk => hk2 hk) (fun fs hk => hk1 fs hk) hc),hur⟩
      · cases hr
    · cases hr
theorem resAVs_run (hT:TyOK P T) (h:Sim C σ a w ι Fs):∀ {rs:List ResultVar} {avs:List AV},allSome (rs.map (resAV T σ)) = some avs → ∃ vs:List Value,(rs.mapM (readRes a.tmps)).run P w = .ok vs w ∧ ARs w (Un C w Fs) σ.o ι avs vs
  | [],avs,hr => by
    simp [allSome] at hr
    subst hr
    exact ⟨[],by simp,by simp [ARs]⟩
  | r :: rs,avs,hr => by
    simp only [List.map_cons] at hr
    cases h1:resAV T σ r with
    | none => rw [h1] at hr; simp [allSome] at hr
    | some av =>
      rw [h1] at hr
      simp only [allSome] at hr
      split at hr
      · rename_i l hl
        cases hr
        obtain ⟨v,hv,hav⟩:=resAV_run hT h h1
        obtain ⟨vs,hvs,hars⟩:=resAVs_run hT h hl
        exact ⟨v :: vs,by simp [List.mapM_cons,hv,hvs],by simp only [ARs]; exact ⟨hav,hars⟩⟩
      · cases hr
structure Obj0 where
  name:Nat
  ob:AObj
  val:Value
  fp:List Nat
def o0 (L:List Obj0):List (Nat × AObj):=L.map fun e => (e.name,e.ob)
def At0 (O:Nat → AObj) (ι:Nat → Value) (L:List Obj0):Prop:=∀ e,e ∈ L → O e.name = e.ob ∧ ι e.name = e.val
structure Came0 (w:World) (U:Nat → Prop) (L:List Obj0) (os:List (Nat × AObj)) (lo hi:Nat) (F:List Nat) (ok:(Nat → AObj) → (Nat → Value) → Prop):Prop where
  os:o0 L = os
  rng:∀ e,e ∈ L → lo ≤ e.name ∧ e.name < hi
  nd:(L.map Obj0.name).Nodup
  fp:L.flatMap Obj0.fp = F
  ob:∀ O ι,At0 O ι L → ∀ e,e ∈ L → ObR w U O ι e.ob e.val e.fp
  ok:∀ O ι,At0 O ι L → ok O ι
theorem Came0.app {w:World} {U:Nat → Prop} {L1 L2:List Obj0} {o1 o2:List (Nat × AObj)} {lo m1 m hi:Nat} {F1 F2:List Nat} {k1 k2:(Nat → AObj) → (Nat → Value) → Prop} (h1:Came0 w U L1 o1 lo m F1 k1) (h2:Came0 w U L2 o2 m1 hi F2 k2) (hm:m ≤ m1) (hlo:lo ≤ m1) (hhi:m ≤ hi) :
    Came0 w U (L1 ++ L2) (o1 ++ o2) lo hi (F1 ++ F2) (fun O ι => k1 O ι ∧ k2 O ι) where
  os:=by rw [← h1.os,← h2.os]; simp [o0]
  rng e he:=by
    rcases List.mem_append.1 he with he | he
    · have:=h1.rng e he; omega
    · have:=h2.rng e he; omega
  nd:=by
    rw [List.map_append,List.nodup_append]
    refine ⟨h1.nd,h2.nd,fun x hx y hy e => ?_⟩
    obtain ⟨a,ha,rfl⟩:=List.mem_map.1 hx
    obtain ⟨b,hb,rfl⟩:=List.mem_map.1 hy
    have q1:=h1.rng a ha
    have q2:=h2.rng b hb
    omega
  fp:=by rw [List.flatMap_append,h1.fp,h2.fp]
  ob O ι h e he:=by
    rcases List.mem_append.1 he with he | he
    · exact h1.ob O ι (fun e' he' => h e' (by simp [he'])) e he
    · exact h2.ob O ι (fun e' he' => h e' (by simp [he'])) e he
  ok O ι h:=⟨h1.ok O ι (fun e' he' => h e' (by simp [he'])),h2.ok O ι (fun e' he' => h e' (by simp [he']))⟩
theorem argCell_R {U:Nat → Prop} (k:Nat) {p:PV} {v:Value} {F:List Nat} (h:R w U p v F):∃ L,Came0 w U L (argCell k p).2 k (k + 1) F (fun O ι => AR w U O ι (argCell k p).1 v):=by
  by_cases hp:isFree p = true
  · have h1:argCell k p = (.c p,[]):=by cases p <;> first | rfl | simp [isFree] at hp
    have:=R_free h hp
    subst this
    rw [h1]
    exact ⟨[],rfl,by simp,by simp,rfl,by simp,fun O ι _ => AR_c.2 h⟩
  · cases p with
    | ow e s n cs =>
      refine ⟨[⟨k,.arr 0 e s n cs,v,F⟩],rfl,by simp,by simp,by simp,fun O ι h0 e he => ?_,fun O ι h0 => ?_⟩
      · simp at he
        subst he
        simp only [R] at h
        exact h
      · have:=h0 ⟨k,.arr 0 e s n cs,v,F⟩ (by simp)
        simp only [argCell,AR,this.1,this.2]
    | _ => simp [isFree] at hp
theorem argCells_R {U:Nat → Prop}:∀ (k:Nat) {ps:List PV} {vs:List Value} {F:List Nat},Rs w U ps vs F → ∃ L,Came0 w U L (argCells k ps).2 k (k + ps.length) F (fun O ι => ARs w U O ι (argCells k ps).1 vs)
  | k,[],[],F,h => by
    simp only [Rs] at h
    subst h
    exact ⟨[],rfl,by simp,by simp,rfl,by simp,fun O ι _ => by simp [argCells,ARs]⟩
  | k,p :: ps,v :: vs,F,h => by
    simp only [Rs] at h
    obtain ⟨F1,F2,h1,h2,rfl⟩:=h
    obtain ⟨L1,c1⟩:=argCell_R k h1
    obtain ⟨L2,c2⟩:=argCells_R (k + 1) h2
    refine ⟨L1 ++ L2,?_⟩
    have:=c1.app c2 (Nat.le_refl _) (by omega) (by omega)
    simp only [argCells,ARs,List.length_cons]
    rwa [show k + (ps.length + 1) = k + 1 + ps.length by omega]
  | _,[],_ :: _,_,h => by simp only [Rs] at h
  | _,_ :: _,[],_,h => by simp only [Rs] at h
theorem capAVs_R {U:Nat → Prop} {O:Nat → AObj}:∀ {cs:List CV} {vs:List Value},CRs w U cs vs [] → ARs w U O ι (cs.map capAV) vs
  | [],[],h => by simp [ARs]
  | c :: cs,v :: vs,h => by
    simp only [CRs] at h
    obtain ⟨F1,F2,h1,h2,hF⟩:=h
    obtain ⟨rfl,rfl⟩:=List.append_eq_nil_iff.1 hF.symm
    simp only [List.map_cons,ARs]
    refine ⟨?_,capAVs_R h2⟩
    cases c with
    | v p => simp only [capAV]; simp only [CR] at h1; exact AR_c.2 h1
    | agg ps =>
      simp only [capAV,AR]
      simp only [CR] at h1
      obtain ⟨us,rfl,hr⟩:=h1
      exact ⟨us,rfl,map_c_ARs hr⟩
    | pc ps =>
      simp only [capAV,AR]
      simp only [CR] at h1
      obtain ⟨_,b,o0,xs,e1,e2,e3,e4⟩:=h1
      exact ⟨b,o0,xs,by simpa using e1,e2,e3,e4⟩
    | _ => simp only [capAV,AR]
  | [],_ :: _,h => by simp only [CRs] at h
  | _ :: _,[],h => by simp only [CRs] at h
theorem argAV_R {U:Nat → Prop} (k:Nat) {c:CV} {v:Value} {F:List Nat} (h:CR w U c v F) (hs:argSmall c = true):∃ L G,Came0 w U L (argAV k c).2 k (k + 64) G (fun O ι => AR w U O ι (argAV k c).1 v) ∧ (∀ x,x ∈ G → x ∈ F) ∧ (F.Nodup → G.Nodup):=by
  cases c with
  | any => exact ⟨[],[],⟨rfl,by simp,by simp,rfl,by simp,fun O ι _ => by simp [argAV,argAV0,AR]⟩,by simp,by simp⟩
  | tup xs => exact ⟨[],[],⟨rfl,by simp,by simp,rfl,by simp,fun O ι _ => by simp [argAV,argAV0,AR]⟩,by simp,by simp⟩
  | v p =>
    simp only [CR] at h
    obtain ⟨L,c⟩:=argCell_R k h
    exact ⟨L,F,⟨c.os,fun e he => by have:=c.rng e he; omega,c.nd,c.fp,c.ob,c.ok⟩,fun _ h => h,fun h => h⟩
  | agg ps =>
    simp only [CR] at h
    obtain ⟨vs,rfl,hr⟩:=h
    simp only [argSmall,decide_eq_true_eq] at hs
    obtain ⟨L,c⟩:=argCells_R k hr
    exact ⟨L,F,⟨c.os,fun e he => by have:=c.rng e he; omega,c.nd,c.fp,c.ob,fun O ι h0 => by simp only [argAV,argAV0,AR]; exact ⟨vs,rfl,c.ok O ι h0⟩⟩,fun _ h => h,fun h => h⟩
  | ptr ps =>
    simp only [CR] at h
    obtain ⟨b,vals,ty,F',rfl,h2,h3,hr,rfl⟩:=h
    simp only [argSmall,decide_eq_true_eq] at hs
    obtain ⟨L,c⟩:=argCells_R (k + 1) hr
    refine ⟨⟨k,.box (argCells (k + 1) ps).1,.pointer (some ⟨b,0,none⟩),[b]⟩ :: L,b :: F',⟨?_,fun e he => ?_,?_,?_,fun O ι h0 e he => ?_,fun O ι h0 => ?_⟩,fun _ h => h,fun h => h⟩
    · simp only [argAV,argAV0,← c.os,o0,List.map_cons]
    · rcases List.mem_cons.1 he with rfl | he
      · simp
      · have:=c.rng e he; omega
    · rw [List.map_cons,List.nodup_cons]
      refine ⟨fun hm => ?_,c.nd⟩
      obtain ⟨e,he,hk⟩:=List.mem_map.1 hm
      have:=c.rng e he
      simp only at hk
      omega
    · simp [c.fp]
    · rcases List.mem_cons.1 he with rfl | he
      · exact ⟨b,vals,ty,rfl,h2,c.ok O ι (fun e he => h0 e (by simp [he])),h3,rfl⟩
      · exact c.ob O ι (fun e he => h0 e (by simp [he])) e he
    · have:=h0 ⟨k,.box (argCells (k + 1) ps).1,.pointer (some ⟨b,0,none⟩),[b]⟩ (by simp)
      simp only [argAV,argAV0,AR,this.1,this.2]
      exact ⟨b,rfl,rfl⟩
  | pc ps =>
    simp only [CR] at h
    obtain ⟨_,b,o0,xs,e1,e2,e3,e4⟩:=h
    exact ⟨[],[],⟨rfl,by simp,by simp,rfl,by simp,fun O ι _ => by simp only [argAV,argAV0,AR]; exact ⟨b,o0,xs,by simpa using e1,e2,e3,e4⟩⟩,by simp,by simp⟩
  | fn f caps =>
    simp only [CR] at h
    obtain ⟨_,xs,e1,e2⟩:=h
    exact ⟨[],[],⟨rfl,by simp,by simp,rfl,by simp,fun O ι _ => by simp only [argAV,AR]; exact ⟨xs,e1,capAVs_R e2⟩⟩,by simp,by simp⟩
theorem argsAV_R {U:Nat → Prop}:∀ {cs:List CV} {vs:List Value} {F:List Nat} {k:Nat},CRs w U cs vs F → cs.all argSmall = true →
    ∃ L G,Came0 w U L (argsO k cs) (640000 + 64 * k) (640000 + 64 * (k + cs.length)) G (fun O ι => ∀ i,AR w U O ι (look i (argsAV k cs)) (if i < k then undef else vs.getD (i - k) undef)) ∧ (∀ x,x ∈ G → x ∈ F) ∧ (F.Nodup → G.Nodup)
  | [],[],F,k,h,_ => ⟨[],[],⟨rfl,by simp,by simp,rfl,by simp,fun O ι _ i => by simp [argsAV,look,AR]⟩,by simp,by simp⟩
  | c :: cs,v :: vs,F,k,h,hs => by
    simp only [List.all_cons,Bool.and_eq_true] at hs
    simp only [CRs] at h
    obtain ⟨F1,F2,h1,h2,rfl⟩:=h
    obtain ⟨L1,G1,c1,s1,n1⟩:=argAV_R (640000 + 64 * k) h1 hs.1
    obtain ⟨L2,G2,c2,s2,n2⟩:=argsAV_R (k:=k + 1) h2 hs.2
    have c:=c1.app c2 (by omega) (by omega) (by omega)
    refine ⟨L1 ++ L2,G1 ++ G2,⟨c.os,fun e he => by have:=c.rng e he; simp only [List.length_cons]; omega,c.nd,c.fp,c.ob,fun O ι h0 i => ?_⟩,fun x hx => ?_,fun hn => ?_⟩
    · obtain ⟨q1,q2⟩:=c.ok O ι h0
      simp only [argsAV,look]
      by_cases hi:i = k
      · subst hi
        rw [if_pos rfl,if_neg (by omega)]
        simpa using q1
      · rw [if_neg hi]
        have:=q2 i
        by_cases hlt:i < k
        · rw [if_pos hlt]; rw [if_pos (by omega)] at this; exact this
        · rw [if_neg hlt]; rw [if_neg (by omega)] at this
          rw [show i - k = (i - (k + 1)) + 1 by omega]
          simpa using this
    · simp only [List.mem_append] at hx ⊢
      rcases hx with hx | hx
      · exact .inl (s1 x hx)
      · exact .inr (s2 x hx)
    · rw [List.nodup_append] at hn ⊢
      exact ⟨n1 hn.1,n2 hn.2.1,fun x hx y hy => hn.2.2 x (s1 x hx) y (s2 y hy)⟩
  | [],_ :: _,_,_,h,_ => by simp only [CRs] at h
  | _ :: _,[],_,_,h,_ => by simp only [CRs] at h
theorem look0:∀ {L:List Obj0},(L.map Obj0.name).Nodup → ∀ e,e ∈ L → lookO e.name (o0 L) = e.ob
  | [],_,e,h => by cases h
  | x :: L,hn,e,h => by
    simp only [List.map_cons,List.nodup_cons] at hn
    simp only [o0,List.map_cons,lookO]
    rcases List.mem_cons.1 h with rfl | h
    · rw [if_pos rfl]
    · rw [if_neg (fun e' => hn.1 (by rw [← e']; exact List.mem_map_of_mem h))]
      exact look0 hn.2 e h
theorem look0_none:∀ {L:List Obj0} {o:Nat},o ∉ L.map Obj0.name → lookO o (o0 L) = .none
  | [],o,_ => rfl
  | x :: L,o,h => by
    simp only [List.map_cons,List.mem_cons,not_or] at h
    simp only [o0,List.map_cons,lookO]
    rw [if_neg h.1]
    exact look0_none h.2
def find0 (L:List Obj0) (o:Nat):Option Obj0:=L.find? (fun x => x.name == o)
theorem find0_mem {L:List Obj0} (hn:(L.map Obj0.name).Nodup) {e:Obj0} (he:e ∈ L):find0 L e.name = some e:=by
  unfold find0
  induction L with
  | nil => cases he
  | cons x L ih =>
    simp only [List.map_cons,List.nodup_cons] at hn
    rcases List.mem_cons.1 he with rfl | he
    · simp
    · rw [List.find?_cons_of_neg]
      · exact ih hn.2 he
      · intro hx
        have:x.name = e.name:=by simpa using hx
        exact hn.1 (by rw [this]; exact List.mem_map_of_mem he)
theorem find0_some {L:List Obj0} {o:Nat} {e:Obj0} (h:find0 L o = some e):e ∈ L ∧ e.name = o:=by
  unfold find0 at h
  exact ⟨List.mem_of_find?_eq_some h,by have:=List.find?_some h; simpa using this⟩
def outsOk (m:Nat):Nat → List CV → Bool
  | _,[] => true
  | i,.any :: cs => outsOk m (i + 1) cs
  | i,_ :: cs => decide (i < m) && outsOk m (i + 1) cs
theorem fitPV_R (h:Sim C σ a w ι Fs) {p:PV} {x:AV} {v:Value} (hx:AR w (Un C w Fs) σ.o ι x v) (hf:(fitPV σ.o p x).1):R w (Un C w Fs) p v ((fitPV σ.o p x).2.flatMap Fs) ∧ ∀ g,g ∈ (fitPV σ.o p x).2 → σ.o g ≠ .none:=by
  unfold fitPV at hf ⊢
  split at hf
  · obtain ⟨rfl,rfl⟩:=hf
    simp only [AR] at hx
    subst hx
    refine ⟨?_,by simp⟩
    simp only [R,List.flatMap_nil]
    exact ⟨[],[],World.ownsRow_nil w 0 _ _,by simp [Rs],by simp [Value.ownBlock]⟩
  · obtain ⟨rfl,rfl⟩:=hf
    simp only [AR] at hx
    subst hx
    exact ⟨by simp [R],by simp⟩
  · split at hf
    · rename_i p' l e
      simp only at hf
      subst hf
      simp only [e]
      exact toPV_R h (Agr.refl _) hx e
    · exact hf.elim
theorem fitPVs_R (h:Sim C σ a w ι Fs):∀ {ps:List PV} {xs:List AV} {vs:List Value},ARs w (Un C w Fs) σ.o ι xs vs → (fitPVs σ.o ps xs).1 → Rs w (Un C w Fs) ps vs ((fitPVs σ.o ps xs).2.flatMap Fs) ∧ ∀ g,g ∈ (fitPVs σ.o ps xs).2 → σ.o g ≠ .none
  | [],[],[],_,_ => by simp [fitPVs,Rs]
  | p :: ps,x :: xs,v :: vs,hx,hf => by
    simp only [ARs] at hx
    simp only [fitPVs] at hf ⊢
    obtain ⟨r1,r2⟩:=fitPV_R h hx.1 hf.1
    obtain ⟨s1,s2⟩:=fitPVs_R h hx.2 hf.2
    refine ⟨by simp only [Rs,List.flatMap_append]; exact ⟨_,_,r1,s1,rfl⟩,fun g hg => ?_⟩
    rcases List.mem_append.1 hg with hg | hg
    · exact r2 g hg
    · exact s2 g hg
  | [],_ :: _,_,_,hf => by simp [fitPVs] at hf
  | _ :: _,[],_,_,hf => by simp [fitPVs] at hf
  | [],[],_ :: _,hx,_ => by simp only [ARs] at hx
  | _ :: _,_ :: _,[],hx,_ => by simp only [ARs] at hx
theorem fitCV_R (h:Sim C σ a w ι Fs) {c:CV} {x:AV} {v:Value} (hx:AR w (Un C w Fs) σ.o ι x v) (hf:(fitCV σ.o c x).1):CR w (Un C w Fs) c v ((fitCV σ.o c x).2.flatMap Fs) ∧ ∀ g,g ∈ (fitCV σ.o c x).2 → σ.o g ≠ .none:=by
  unfold fitCV at hf ⊢
  split at hf
  · simp only [AR] at hx
    obtain ⟨vs,rfl,hs⟩:=hx
    obtain ⟨r1,r2⟩:=fitPVs_R h hs hf
    exact ⟨by simp only [CR]; exact ⟨vs,rfl,r1⟩,r2⟩
  · simp only [CR]; exact fitPV_R h hx hf
  · rename_i ps o
    split at hf
    · rename_i cs ho
      split at hf
      · rename_i qs l e
        simp only at hf
        subst hf
        obtain ⟨_,k,hk,hv⟩:=agr_box (Agr.refl _) hx ho
        obtain ⟨vals,ty,hh,hm,hr,hone,hF⟩:=box_mem h ho hk
        obtain ⟨r1,r2⟩:=toPVs_R h (Agr.refl _) hr e
        simp only [ho,e]
        refine ⟨by simp only [CR]; exact ⟨k,vals,ty,_,hv,hh,hone,r1,by simp [hF]⟩,fun g hg => ?_⟩
        rcases List.mem_cons.1 hg with rfl | hg
        · rw [ho]; simp
        · exact r2 g hg
      · exact hf.elim
    · exact hf.elim
  · exact hf.elim
theorem fitCVs_R (h:Sim C σ a w ι Fs):∀ {ps:List CV} {xs:List AV} {vs:List Value},ARs w (Un C w Fs) σ.o ι xs vs → (fitCVs σ.o ps xs).1 → CRs w (Un C w Fs) ps vs ((fitCVs σ.o ps xs).2.flatMap Fs) ∧ ∀ g,g ∈ (fitCVs σ.o ps xs).2 → σ.o g ≠ .none
  | [],[],[],_,_ => by simp [fitCVs,CRs]
  | p :: ps,x :: xs,v :: vs,hx,hf => by
    simp only [ARs] at hx
    simp only [fitCVs] at hf ⊢
    obtain ⟨r1,r2⟩:=fitCV_R h hx.1 hf.1
    obtain ⟨s1,s2⟩:=fitCVs_R h hx.2 hf.2
    refine ⟨by simp only [CRs,List.flatMap_append]; exact ⟨_,_,r1,s1,rfl⟩,fun g hg => ?_⟩
    rcases List.mem_append.1 hg with hg | hg
    · exact r2 g hg
    · exact s2 g hg
  | [],_ :: _,_,_,hf => by simp [fitCVs] at hf
  | _ :: _,[],_,_,hf => by simp [fitCVs] at hf
  | [],[],_ :: _,hx,_ => by simp only [ARs] at hx
  | _ :: _,_ :: _,[],hx,_ => by simp only [ARs] at hx
theorem fitRes_R (h:Sim C σ a w ι Fs) {c:CV} {xs:List AV} {vs:List Value} (hx:ARs w (Un C w Fs) σ.o ι xs vs) (hf:(fitRes σ.o c xs).1) :
    CR w (Un C w Fs) c (if h:vs.toArray.size = 1 then vs.toArray[0] else .tuple vs.toArray) ((fitRes σ.o c xs).2.flatMap Fs):=by
  unfold fitRes at hf ⊢
  split at hf
  · cases vs with
    | nil => obtain ⟨r1,_⟩:=fitCVs_R h hx hf; simp only [CR]; exact ⟨#[],by simp,by simpa using r1⟩
    | cons => simp only [ARs] at hx
  · rename_i cs x y xs
    match vs,hx with
    | v :: u :: vs,hx =>
      obtain ⟨r1,_⟩:=fitCVs_R h hx hf
      simp only [CR]
      exact ⟨(v :: u :: vs).toArray,by simp,by simpa using r1⟩
    | [],hx => simp only [ARs] at hx
    | [v],hx => simp only [ARs] at hx; exact hx.2.elim
  · rename_i c x _
    match vs,hx with
    | [v],hx =>
      simp only [ARs] at hx
      obtain ⟨r1,_⟩:=fitCV_R h hx.1 hf
      simpa using r1
    | [],hx => simp only [ARs] at hx
    | _ :: _ :: _,hx => simp only [ARs] at hx; exact hx.2.elim
  · exact hf.elim
theorem outCells_R (h:Sim C σ a w ι Fs):∀ {qs:List PV} {xs:List AV} {vs:List Value} {ps:List PV} {l:List Nat},ARs w (Un C w Fs) σ.o ι xs vs → (∀ x ∈ vs,x.oneCell' = true) → outCells σ.o qs xs = some (ps,l) → Rs w (Un C w Fs) ps vs (l.flatMap Fs) ∧ ∀ g,g ∈ l → σ.o g ≠ .none
  | [],[],[],ps,l,_,_,hc => by simp [outCells] at hc; obtain ⟨rfl,rfl⟩:=hc; simp [Rs]
  | q :: qs,x :: xs,v :: vs,ps,l,hx,h1,hc => by
    simp only [ARs] at hx
    simp only [outCells] at hc
    split at hc
    · rename_i p l1 ps' l2 e3 e4
      cases hc
      obtain ⟨r1,r2⟩:=outCells_R h hx.2 (fun y hy => h1 y (by simp [hy])) e4
      have hv:=h1 v (by simp)
      have key:R w (Un C w Fs) p v (l1.flatMap Fs) ∧ ∀ g,g ∈ l1 → σ.o g ≠ .none:=by
        unfold outCell at e3
        split at e3
        · cases e3; exact ⟨by simp only [R]; exact ⟨⟨hv,oneCell_cells hv⟩,rfl⟩,by simp⟩
        · exact toPV_R h (Agr.refl _) hx.1 e3
      refine ⟨by simp only [Rs,List.flatMap_append]; exact ⟨_,_,key.1,r1,rfl⟩,fun g hg => ?_⟩
      rcases List.mem_append.1 hg with hg | hg
      · exact key.2 g hg
      · exact r2 g hg
    · cases hc
  | [],_ :: _,_,_,_,_,_,hc => by simp [outCells] at hc
  | _ :: _,[],_,_,_,_,_,hc => by simp [outCells] at hc
  | [],[],_ :: _,_,_,hx,_,_ => by simp only [ARs] at hx
  | _ :: _,_ :: _,[],_,_,hx,_,_ => by simp only [ARs] at hx
theorem outCV_R (h:Sim C σ a w ι Fs) {c o:CV} {x:AV} {v:Value} {l:List Nat} (hx:c ≠ .any → AR w (Un C w Fs) σ.o ι x v) (h1:∀ qs,c = .agg qs → ∀ vs,v = .agg vs → ∀ y ∈ vs.toList,y.oneCell' = true) (hc:outCV σ.o c x = some (o,l)) :
    CR w (Un C w Fs) o v (l.flatMap Fs) ∧ ∀ g,g ∈ l → σ.o g ≠ .none:=by
  unfold outCV at hc
  split at hc
  · cases hc; simp [CR]
  · rename_i ps o'
    have hx:=hx (by simp)
    split at hc
    · rename_i cs ho
      split at hc
      · rename_i ps' l' e
        cases hc
        obtain ⟨_,k,hk,hv⟩:=agr_box (Agr.refl _) hx ho
        obtain ⟨vals,ty,hh,hm,hr,hone,hF⟩:=box_mem h ho hk
        obtain ⟨r1,r2⟩:=toPVs_R h (Agr.refl _) hr e
        refine ⟨by simp only [CR]; exact ⟨k,vals,ty,_,hv,hh,hone,r1,by simp [hF]⟩,fun g hg => ?_⟩
        rcases List.mem_cons.1 hg with rfl | hg
        · rw [ho]; simp
        · exact r2 g hg
      · cases hc
    · cases hc
  · rename_i qs cs
    have hx:=hx (by simp)
    split at hc
    · rename_i ps l' e
      cases hc
      simp only [AR] at hx
      obtain ⟨vs,rfl,hs⟩:=hx
      obtain ⟨r1,r2⟩:=outCells_R h hs (h1 _ rfl vs rfl) e
      exact ⟨by simp only [CR]; exact ⟨vs,rfl,r1⟩,r2⟩
    · cases hc
  · rename_i p
    have hx:=hx (by simp)
    split at hc
    · rename_i p' l' e
      cases hc
      obtain ⟨r1,r2⟩:=toPV_R h (Agr.refl _) hx e
      exact ⟨by simp only [CR]; exact r1,r2⟩
    · cases hc
  · cases hc
theorem outCVs_R (h:Sim C σ a w ι Fs):∀ {cs os:List CV} {vs:List Value} {i:Nat} {l:List Nat},cs.length = vs.length → (∀ (j:Nat) c v,cs[j]? = some c → vs[j]? = some v → c ≠ .any → a.tmps.getD (i + j) undef = v) →
    (∀ (j:Nat) qs v,cs[j]? = some (CV.agg qs) → vs[j]? = some v → ∀ us,v = .agg us → ∀ y ∈ us.toList,y.oneCell' = true) → outCVs σ i cs = some (os,l) → CRs w (Un C w Fs) os vs (l.flatMap Fs) ∧ ∀ g,g ∈ l → σ.o g ≠ .none
  | [],os,[],i,l,_,_,_,hc => by simp [outCVs] at hc; obtain ⟨rfl,rfl⟩:=hc; simp [CRs]
  | c :: cs,os,v :: vs,i,l,hl,ht,h1,hc => by
    simp only [outCVs] at hc
    split at hc
    · rename_i o l1 os' l2 e1 e2
      cases hc
      obtain ⟨r1,r2⟩:=outCV_R h (c:=c) (x:=σ.t i) (v:=v) (fun hne => by have:=ht 0 c v rfl rfl hne; rw [Nat.add_zero] at this; rw [← this]; exact h.tm i) (fun qs hq => by subst hq; exact h1 0 qs v rfl rfl) e1
      obtain ⟨s1,s2⟩:=outCVs_R h (i:=i + 1) (by simpa using hl) (fun j c' v' hc' hv' hne => by have:=ht (j + 1) c' v' (by simpa using hc') (by simpa using hv') hne; rwa [show i + (j + 1) = i + 1 + j by omega] at this) (fun j qs v' hj hv' => h1 (j + 1) qs v' (by simpa using hj) (by simpa using hv')) e2
      refine ⟨by simp only [CRs,List.flatMap_append]; exact ⟨_,_,r1,s1,rfl⟩,fun g hg => ?_⟩
      rcases List.mem_append.1 hg with hg | hg
      · exact r2 g hg
      · exact s2 g hg
    · cases hc
  | [],_,_ :: _,_,_,hl,_,_,_ => by simp at hl
  | _ :: _,_,[],_,_,hl,_,_,_ => by simp at hl
theorem outsOk_lt {m:Nat}:∀ {cs:List CV} {i:Nat},outsOk m i cs = true → ∀ (j:Nat) c,cs[j]? = some c → c ≠ .any → i + j < m
  | [],i,_,j,c,hj,_ => by simp at hj
  | c0 :: cs,i,h,j,c,hj,hne => by
    have hrest:outsOk m (i + 1) cs = true:=by
      cases c0 <;> simp [outsOk] at h <;> first | exact h | exact h.2
    cases j with
    | zero =>
      simp at hj
      subst hj
      cases c0 <;> simp [outsOk] at h <;> first | exact absurd rfl hne | omega
    | succ j =>
      have:=outsOk_lt hrest j c (by simpa using hj) hne
      omega
theorem CRs_agg {U:Nat → Prop}:∀ {cs:List CV} {vs:List Value} {F:List Nat},CRs w U cs vs F → ∀ (j:Nat) c v,cs[j]? = some c → vs[j]? = some v → ∃ F',CR w U c v F'
  | [],[],_,_,j,c,v,hj,_ => by simp at hj
  | c0 :: cs,v0 :: vs,F,h,j,c,v,hj,hv => by
    simp only [CRs] at h
    obtain ⟨F1,F2,h1,h2,_⟩:=h
    cases j with
    | zero => simp at hj hv; subst hj hv; exact ⟨F1,h1⟩
    | succ j => exact CRs_agg h2 j c v (by simpa using hj) (by simpa using hv)
  | [],_ :: _,_,h,_,_,_,_,_ => by simp only [CRs] at h
  | _ :: _,[],_,h,_,_,_,_,_ => by simp only [CRs] at h
theorem CRs_length {U:Nat → Prop}:∀ {cs:List CV} {vs:List Value} {F:List Nat},CRs w U cs vs F → cs.length = vs.length
  | [],[],_,_ => rfl
  | c0 :: cs,v0 :: vs,F,h => by
    simp only [CRs] at h
    obtain ⟨F1,F2,h1,h2,_⟩:=h
    simp [CRs_length h2]
  | [],_ :: _,_,h => by simp only [CRs] at h
  | _ :: _,[],_,h => by simp only [CRs] at h
theorem Rs_oneCell' {U:Nat → Prop}:∀ {ps:List PV} {vs:List Value} {F:List Nat},Rs w U ps vs F → ∀ y ∈ vs,y.oneCell' = true
  | [],[],_,_,y,hy => by cases hy
  | p :: ps,v :: vs,F,h,y,hy => by
    simp only [Rs] at h
    obtain ⟨F1,F2,h1,h2,_⟩:=h
    rcases List.mem_cons.1 hy with rfl | hy
    · exact (R_oneCell h1).1
    · exact Rs_oneCell' h2 y hy
  | [],_ :: _,_,h,_,_ => by simp only [Rs] at h
  | _ :: _,[],_,h,_,_ => by simp only [Rs] at h
def aggsOk:List CV → List CV → Bool
  | [],[] => true
  | c :: cs,.agg _ :: os => (match c with | .agg _ => true | _ => false) && aggsOk cs os
  | _ :: cs,_ :: os => aggsOk cs os
  | _,_ => false
theorem aggsOk_get:∀ {cs os:List CV},aggsOk cs os = true → ∀ (j:Nat) qs,os[j]? = some (.agg qs) → ∃ ps,cs[j]? = some (.agg ps)
  | [],[],_,j,qs,hj => by simp at hj
  | c :: cs,o :: os,h,j,qs,hj => by
    cases j with
    | zero =>
      simp at hj
      subst hj
      simp only [aggsOk,Bool.and_eq_true] at h
      cases c <;> simp at h
      exact ⟨_,rfl⟩
    | succ j =>
      have:aggsOk cs os = true:=by
        cases o <;> simp only [aggsOk,Bool.and_eq_true] at h <;> first | exact h.2 | exact h
      exact aggsOk_get this j qs (by simpa using hj)
  | [],_ :: _,h,_,_,_ => by simp [aggsOk] at h
  | _ :: _,[],h,_,_,hj => by simp at hj
theorem Later.ofU {U U':Nat → Prop} {O:Nat → AObj} (hU:∀ k,U k → U' k):Later w w U U' O O ι ι :=
  ⟨hU,fun _ _ => rfl,fun o => by
    cases hO:O o with
    | none => exact .inl rfl
    | dead => exact .inr (.inl rfl)
    | box c => exact .inr (.inr (.inl ⟨c,c,rfl,rfl,rfl⟩))
    | arr g1 e1 s1 n1 c => exact .inr (.inr (.inr (.inl ⟨g1,e1,s1,n1,c,g1,e1,s1,n1,c,rfl,rfl,rfl,Nat.le_refl _,fun _ off hi => ⟨hi,fun _ _ => rfl⟩⟩)))
    | mp Q => exact .inr (.inr (.inr (.inr ⟨Q,Q,rfl,rfl,rfl⟩)))⟩
theorem FnW.of_AW (hT : TyOK P T) {f : Nat} {fn : Func} {c : Code} {cargs outs : List CV} {cres : CV} (m : Nat) (hf : P.funcs[f]? = some fn) (hb : fn.body = some c) (hname : (fn.name == "runtime.NumGoroutine") = false)
    {rs:List ResultVar} (hrs:fn.results.toList = rs) {N:Nat} (hN:fn.ntmps = N)
    (hn:(decide (cargs.length ≤ N) && decide (cargs.length = outs.length) && cargs.all argSmall && outsOk m 0 outs && aggsOk cargs outs) = true) (h:AW P (m,N) c (mkE (argsAV 0 cargs) (argsO 0 cargs)) (fnK T rs cres outs)):FnW P f cargs cres outs:=by
  subst hrs hN
  simp only [Bool.and_eq_true,decide_eq_true_eq] at hn
  obtain ⟨⟨⟨⟨hn,hlo⟩,hsml⟩,hom⟩,hagg⟩:=hn
  refine ⟨⟨fn,hf,by rw [hb]; rfl,hname⟩,fun w V vals F hargs hF hV hFs => ?_⟩
  have hlen:cargs.length = vals.length:=CRs_length hargs
  refine calls_of_wp hf hb ?_
  let C:Ctx:=⟨w,V,fun k => k ∈ F,(m,fn.ntmps),fun i => vals.getD i undef⟩
  obtain ⟨L,G,c0,hGF,hGn⟩:=argsAV_R (k:=0) hargs hsml
  let ι0:Nat → Value:=fun o => match find0 L o with | some e => e.val | none => undef
  let Fs0:Nat → List Nat:=fun o => match find0 L o with | some e => e.fp | none => []
  have hFe:∀ e,e ∈ L → Fs0 e.name = e.fp:=fun e he => by show (match find0 L e.name with | some e => e.fp | none => []) = _; rw [find0_mem c0.nd he]
  have hFn:∀ o,o ∉ L.map Obj0.name → Fs0 o = []:=fun o ho => by
    show (match find0 L o with | some e => e.fp | none => []) = _
    cases hf0:find0 L o with
    | none => rfl
    | some e => obtain ⟨h1,h2⟩:=find0_some hf0; exact absurd (h2 ▸ List.mem_map_of_mem h1) ho
  have hin:∀ o k,k ∈ Fs0 o → ∃ e,e ∈ L ∧ e.name = o ∧ k ∈ e.fp:=fun o k hk => by
    by_cases ho:o ∈ L.map Obj0.name
    · obtain ⟨e,he,rfl⟩:=List.mem_map.1 ho
      rw [hFe e he] at hk; exact ⟨e,he,rfl,hk⟩
    · rw [hFn o ho] at hk; cases hk
  have hG:∀ o k,k ∈ Fs0 o → k ∈ F:=fun o k hk => by
    obtain ⟨e,he,_,hk⟩:=hin o k hk
    exact hGF k (by rw [← c0.fp]; exact List.mem_flatMap.2 ⟨e,he,hk⟩)
  have hGnd:=hGn hF
  rw [← c0.fp] at hGnd
  have hU:∀ k,V k → Un C w Fs0 k:=fun k hk => ⟨(hV k hk).1,.inl hk,fun o ho => (hV k hk).2 (hG o k ho)⟩
  have hAt:At0 (mkE (argsAV 0 cargs) (argsO 0 cargs)).o ι0 L:=fun e he => by
    refine ⟨?_,?_⟩
    · show lookO e.name (argsO 0 cargs) = e.ob
      rw [← c0.os]; exact look0 c0.nd e he
    · show (match find0 L e.name with | some e => e.val | none => undef) = _
      rw [find0_mem c0.nd he]
  -- footprints
  have hfpn:∀ e,e ∈ L → e.fp.Nodup:=by
    intro e he
    clear hU hAt hG hin hFn hFe hGF hGn h
    have:=hGnd
    clear hGnd
    clear c0
    induction L with
    | nil => cases he
    | cons y L ih =>
      simp only [List.flatMap_cons,List.nodup_append] at this
      rcases List.mem_cons.1 he with rfl | he
      · exact this.1
      · exact ih he this.2.1
  have hfpd:∀ e1 e2,e1 ∈ L → e2 ∈ L → e1.name ≠ e2.name → ∀ k,k ∈ e1.fp → k ∉ e2.fp:=by
    intro e1 e2 he1 he2 hne k h1 h2
    have:=hGnd
    clear hU hAt hG hin hFn hFe hGF hGn h hGnd c0 hfpn
    induction L with
    | nil => cases he1
    | cons y L ih =>
      simp only [List.flatMap_cons,List.nodup_append] at this
      rcases List.mem_cons.1 he1 with hm1 | hm1 <;> rcases List.mem_cons.1 he2 with hm2 | hm2
      · exact hne (by rw [hm1,hm2])
      · subst hm1; exact this.2.2 k h1 k (List.mem_flatMap.2 ⟨e2,hm2,h2⟩) rfl
      · subst hm2; exact this.2.2 k h2 k (List.mem_flatMap.2 ⟨e1,hm1,h1⟩) rfl
      · exact ih hm1 hm2 this.2.1
  have hS:Sim C (mkE (argsAV 0 cargs) (argsO 0 cargs)) { tmps:=vals.toArray ++ Array.replicate (fn.ntmps - vals.toArray.size) undef,defers:=[] } w ι0 Fs0:=by
    have eT:∀ i,(vals.toArray ++ Array.replicate (fn.ntmps - vals.toArray.size) undef).getD i undef = vals.getD i undef:=fun i => by
      simp only [Array.getD_eq_getD_getElem?,List.getD_eq_getElem?_getD]
      by_cases hi:i < vals.length
      · rw [Array.getElem?_append_left (by simpa using hi)]; simp
      · rw [Array.getElem?_append_right (by simpa using hi),List.getElem?_eq_none (by omega),Array.getElem?_replicate]
        split <;> rfl
    refine ⟨⟨rfl,Tp.refl _,rfl,Nat.le_refl _,fun _ _ _ => rfl⟩,fun i => ?_,fun o => ?_,fun o o' hne b hb hb' => ?_,fun o => ?_,fun o b hb => ?_,rfl,?_,fun i _ => eT i⟩
    · have:=c0.ok _ _ hAt i
      rw [if_neg (by omega),Nat.sub_zero] at this
      rw [eT]
      exact AR_later (Later.ofU hU) _ _ this
    · by_cases ho:o ∈ L.map Obj0.name
      · obtain ⟨e,he,rfl⟩:=List.mem_map.1 ho
        have:=c0.ob _ _ hAt e he
        rw [hFe e he,(hAt e he).1,(hAt e he).2]
        exact ObR_later (Later.ofU hU) this (fun _ _ => rfl)
      · have:(mkE (argsAV 0 cargs) (argsO 0 cargs)).o o = .none:=by
          show lookO o (argsO 0 cargs) = .none
          rw [← c0.os]; exact look0_none ho
        rw [this]; exact trivial
    · obtain ⟨e1,he1,rfl,h1⟩:=hin o b hb
      obtain ⟨e2,he2,rfl,h2⟩:=hin o' b hb'
      exact hfpd e1 e2 he1 he2 hne b h1 h2
    · by_cases ho:o ∈ L.map Obj0.name
      · obtain ⟨e,he,rfl⟩:=List.mem_map.1 ho
        rw [hFe e he]; exact hfpn e he
      · rw [hFn o ho]; exact List.nodup_nil
    · exact ⟨hFs b (hG o b hb),.inr (hG o b hb)⟩
    · simp only [Array.size_append,List.size_toArray,Array.size_replicate]
      show _ = fn.ntmps
      omega
  refine h C _ w _ rfl ⟨_,_,hS⟩ (fun e σ' a' w' hk hP => ?_)
  have hne:∀ id,e ≠ .exit id:=fun id he => by subst he; exact hk
  have hres:resOk T fn.results.toList σ' cres outs:=by cases e with
    | normal => exact hk
    | exit id => exact absurd rfl (hne id)
    | ret => exact hk
  obtain ⟨ι',Fs',hS'⟩:=hP
  unfold resOk at hres
  split at hres
  · rename_i avs havs
    split at hres
    · rename_i os gone' hos
      obtain ⟨hfit,hnd,rfl⟩:=hres
      obtain ⟨vs,hvs,hars⟩:=resAVs_run hT hS' havs
      have hcr:=fitRes_R hS' hars hfit
      generalize (fitRes σ'.o cres avs).2 = gone at hcr hnd
      obtain ⟨hco,hgone2⟩:=outCVs_R hS' (vs:=vals) (i:=0) (by rw [← hlo]; exact hlen) (fun j c v hj hv hne => by
          have hlt:=outsOk_lt hom j c hj hne
          rw [hS'.kp (0 + j) hlt]
          show vals.getD (0 + j) undef = v
          rw [Nat.zero_add,List.getD_eq_getElem?_getD,hv]; rfl) (fun j qs v hj hv us he y hy => by
            obtain ⟨ps,hcj⟩:=aggsOk_get hagg j qs hj
            obtain ⟨F',hcr'⟩:=CRs_agg hargs j _ v hcj hv
            subst he
            simp only [CR] at hcr'
            obtain ⟨us',e',hr⟩:=hcr'
            cases e'
            exact Rs_oneCell' hr y hy) hos
      have hrun:(results fn a'.tmps).run P w' = .ok (if h:vs.toArray.size = 1 then vs.toArray[0] else .tuple vs.toArray) w':=by
        rw [results_eq]
        have:(fn.results.mapM (readRes a'.tmps)).run P w' = .ok vs.toArray w':=by
          rw [Array.mapM_eq_mapM_toList]
          simp [hvs]
        simp [this]
      have hnd2:((gone.flatMap Fs') ++ (gone'.flatMap Fs')).Nodup:=by
        have:=gone_nodup hS' hnd
        rwa [List.flatMap_append] at this
      have hU':∀ k,Un C w' Fs' k → k < w'.heap.size ∧ (V k ∨ w.heap.size ≤ k ∨ k ∈ F) ∧ k ∉ (gone.flatMap Fs') ++ (gone'.flatMap Fs'):=by
        intro k hk
        refine ⟨hk.1,?_,fun hm => ?_⟩
        · rcases hk.2.1 with h1 | h1 | h1
          · exact .inl h1
          · exact .inr (.inr h1)
          · exact .inr (.inl h1)
        · rw [← List.flatMap_append] at hm
          obtain ⟨g,_,hkg⟩:=List.mem_flatMap.1 hm
          exact hk.2.2 g hkg
      have hfin:a'.defers = [] ∧ ∃ v,(results fn a'.tmps).run P w' = .ok v w' ∧ ∃ u Fr Fo,Ending.returned v = .returned u ∧ GrownF w w' F ∧
          CR w' (fun k => k < w'.heap.size ∧ (V k ∨ w.heap.size ≤ k ∨ k ∈ F) ∧ k ∉ Fr ++ Fo) cres u Fr ∧ CRs w' (fun k => k < w'.heap.size ∧ (V k ∨ w.heap.size ≤ k ∨ k ∈ F) ∧ k ∉ Fr ++ Fo) os vals Fo ∧ (Fr ++ Fo).Nodup ∧
          ∀ k,k ∈ Fr ++ Fo → k < w'.heap.size ∧ (w.heap.size ≤ k ∨ k ∈ F):=by
        refine ⟨hS'.df,_,hrun,_,gone.flatMap Fs',gone'.flatMap Fs',rfl,?_,?_,CRs_U hU' _ _ _ hco,hnd2,?_⟩
        · have hk:=hS'.kept
          exact ⟨hk.os,hk.tape,hk.output,hk.size,fun k hk1 hk2 => hk.block k hk1 hk2⟩
        · exact CR_U hU' _ _ _ hcr
        · intro k hk
          rw [← List.flatMap_append] at hk
          obtain ⟨g,hg,hkg⟩:=List.mem_flatMap.1 hk
          have:=hS'.own g k hkg
          exact ⟨this.1,by rcases this.2 with h1 | h1; exact .inl h1; exact .inr h1⟩
      cases e with
      | normal => exact hfin
      | exit id => exact absurd rfl (hne id)
      | ret => exact hfin
    · cases hres
  · cases hres
end
end Am
