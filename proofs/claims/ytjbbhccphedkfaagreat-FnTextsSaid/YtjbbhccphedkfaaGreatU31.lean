/- What is written is read again: forward. No condition. -/
import Derived.Test.YtjbbhccphedkfaaGreatD
import Derived.Test.YtjbbhccphedkfaaGreatE17
import Derived.Test.YtjbbhccphedkfaaGreatT
import Derived.Test.YtjbbhccphedkfaaGreatAm32
import Derived.Test.YtjbbhccphedkfaaGreatAm29
import Derived.Test.YtjbbhccphedkfaaGreatAm31
import Derived.Test.YtjbbhccphedkfaaGreatE55
set_option linter.unusedSimpArgs false
set_option linter.unusedVariables false
set_option linter.unnecessarySimpa false
set_option linter.unusedSectionVars false
namespace Am
open Go
structure Here (s:GScan) (y:List UInt8):Prop where
  b:s.bad = false
  l:0 ≤ s.pos
  h:s.pos ≤ s.t.size
  d:s.t.data.toList.drop s.pos.toNat = y
structure Fwd {α:Type} (r:GScan → α × GScan) (w:α → ByteArray) (p:α → Prop):Prop where
  g:∀ x,p x → ∀ s y,Here s ((w x).data.toList ++ y) → (r s).1 = x ∧ Here (r s).2 y ∧ (r s).2.t = s.t
theorem app_list (a b:ByteArray):(a ++ b).data.toList = a.data.toList ++ b.data.toList:=by
  rw [ByteArray.data_append,Array.toList_append]
theorem size_list (a:ByteArray):a.data.toList.length = a.size:=Array.length_toList
theorem decL_var (n:Nat):decL (varB n) = n:=by
  by_cases h:n ≤ 127
  · rw [varB_small h]
    simp only [decL,u8_small h]
    omega
  · rw [varB_great h]
    have ih:=decL_var (n / 128)
    have e:(u8 ((n:Int) % 128 + 128)).toNat = n % 128 + 128:=by
      unfold u8
      rw [UInt8.toNat_ofNat']
      omega
    simp only [decL,e,ih]
    omega
termination_by n
decreasing_by omega
theorem rvGo_fwd (y:List UInt8) (n:Nat) (f:Nat) (ds:List UInt8) (hf:(varB n).length ≤ f) (h0:ds = [] ∨ n ≠ 0) (hb:decL (ds ++ varB n) ≤ 1000000000) :
    rvGo (varB n ++ y) ds f = some (decL (ds ++ varB n),ds.length + (varB n).length):=by
  by_cases h:n ≤ 127
  · rw [varB_small h] at hf hb ⊢
    match f,hf with
    | f + 1,_ =>
      have e:=u8_small h
      show (if 127 < (u8 (n:Int)).toNat then _ else _) = _
      rw [if_neg (by omega),if_neg]
      · rfl
      · rintro (⟨h1,h2⟩ | h2)
        · rcases h0 with h0 | h0
          · exact h1 h0
          · exact h0 (by omega)
        · omega
  · rw [varB_great h] at hf hb ⊢
    have e:(u8 ((n:Int) % 128 + 128)).toNat = n % 128 + 128:=by
      unfold u8
      rw [UInt8.toNat_ofNat']
      omega
    match f,hf with
    | f + 1,hf =>
      show (if 127 < (u8 ((n:Int) % 128 + 128)).toNat then _ else _) = _
      rw [if_pos (by omega)]
      have ea:ds ++ u8 ((n:Int) % 128 + 128) :: varB (n / 128) = (ds ++ [u8 ((n:Int) % 128 + 128)]) ++ varB (n / 128):=by simp
      rw [ea] at hb ⊢
      show rvGo (varB (n / 128) ++ y) _ f = _
      have:=rvGo_fwd y (n / 128) f (ds ++ [u8 ((n:Int) % 128 + 128)]) (by simpa using hf) (.inr (by omega)) hb
      rw [this]
      simp only [List.length_append,List.length_cons,List.length_nil]
      congr 2
      omega
termination_by n
decreasing_by omega
theorem numM_fwd:Fwd numM varS numOk where
  g:=by
    rintro n ⟨n0,n1⟩ s y ⟨hb,hl,hh,hd⟩
    have ev:(varS n).data.toList = varB n.toNat:=by simp [varS,str]
    rw [ev] at hd
    have e:rd s.t s.pos = some (n,s.pos + (varB n.toNat).length):=by
      unfold rd
      rw [if_pos ⟨hl,hh⟩,hd,rvGo_fwd y n.toNat 5 [] (varB_five (by omega)) (.inl rfl) (by rw [List.nil_append,decL_var]; omega)]
      simp only [List.nil_append,decL_var,Option.map_some,List.length_nil,Nat.zero_add]
      congr 2
      omega
    have el:s.pos.toNat + (varB n.toNat).length + y.length = s.t.size:=by
      have:=congrArg List.length hd
      rw [List.length_drop,size_list,List.length_append] at this
      omega
    unfold numM
    rw [if_neg (by simp [hb]),e]
    refine ⟨rfl,⟨rfl,by simp only; omega,by simp only; omega,?_⟩,rfl⟩
    simp only
    rw [show (s.pos + ((varB n.toNat).length:Int)).toNat = s.pos.toNat + (varB n.toNat).length by omega,← List.drop_drop,hd,List.drop_left]
theorem shM_fwd:Fwd shM shortS fun x => x.size ≤ 20000 where
  g:=by
    intro x hx s y hH
    have hb:=hH.b
    have e1:(shortS x).data.toList ++ y = (varS x.size).data.toList ++ (x.data.toList ++ y):=by rw [shortS,app_list,List.append_assoc]
    rw [e1] at hH
    obtain ⟨g1,g2,g3⟩:=numM_fwd.g x.size ⟨by omega,by omega⟩ s _ hH
    have e2:∃ a,rd s.t s.pos = some ((x.size:Int),a) ∧ (numM s).2.pos = a:=by
      unfold numM at g1 g2 ⊢
      rw [if_neg (by simp [hb])] at g1 g2 ⊢
      cases q:rd s.t s.pos with
      | none => rw [q] at g2; exact absurd g2.b (by simp)
      | some z =>
        obtain ⟨m,a⟩:=z
        rw [q] at g1
        simp only at g1
        exact ⟨a,by rw [g1],rfl⟩
    obtain ⟨a,e2,e3⟩:=e2
    have sp:=rd_spec e2
    obtain ⟨h1,h2,h3,h4⟩:=g2
    rw [e3] at h2 h3 h4
    rw [g3] at h3 h4
    have el:a.toNat + x.size + y.length = s.t.size:=by
      have:=congrArg List.length h4
      rw [List.length_drop,size_list,List.length_append,size_list] at this
      omega
    have e4:s.t.extract a.toNat (a + x.size).toNat = x:=by
      apply ByteArray.ext
      apply Array.toList_inj.1
      rw [ByteArray.data_extract,Array.toList_extract,List.extract_eq_take_drop,h4,List.take_append_of_le_length (by rw [size_list]; omega)]
      rw [show (a + (x.size:Int)).toNat - a.toNat = x.data.toList.length by rw [size_list]; omega,List.take_length]
    unfold shM
    rw [if_neg (by simp [hb])]
    have e5:rs s.t s.pos = some (x,a + x.size):=by
      unfold rs
      rw [e2]
      simp only
      rw [if_neg (by omega),e4]
    rw [e5]
    refine ⟨rfl,⟨rfl,by simp only; omega,by simp only; omega,?_⟩,rfl⟩
    simp only
    rw [show (a + (x.size:Int)).toNat = a.toNat + x.data.toList.length by rw [size_list]; omega,← List.drop_drop,h4,List.drop_left]
theorem Fwd.two {α β:Type} {r:GScan → α × GScan} {q:GScan → β × GScan} {w:α → ByteArray} {v:β → ByteArray} {p:α → Prop} {p':β → Prop} (a:Fwd r w p) (b:Fwd q v p') :
    Fwd (fun s => (((r s).1,(q (r s).2).1),(q (r s).2).2)) (fun x => w x.1 ++ v x.2) (fun x => p x.1 ∧ p' x.2) where
  g:=fun x hp s y h => by
    rw [app_list,List.append_assoc] at h
    obtain ⟨g1,g2,g3⟩:=a.g x.1 hp.1 s _ h
    obtain ⟨k1,k2,k3⟩:=b.g x.2 hp.2 _ _ g2
    exact ⟨by rw [g1,k1],k2,by rw [k3,g3]⟩
theorem Fwd.to {α β:Type} {r:GScan → α × GScan} {q:GScan → β × GScan} {w:α → ByteArray} {v:β → ByteArray} {p:α → Prop} {p':β → Prop} (a:Fwd r w p) (k:α → β) (j:β → α) (h:∀ s,q s = (k (r s).1,(r s).2)) (hw:∀ x,v x = w (j x)) (hk:∀ x,k (j x) = x) (hp:∀ x,p' x → p (j x)):Fwd q v p' where
  g:=fun x hx s y hH => by
    rw [hw] at hH
    obtain ⟨g1,g2,g3⟩:=a.g (j x) (hp x hx) s y hH
    rw [h]
    exact ⟨by simp only [g1,hk],g2,g3⟩
theorem dotM_fwd:Fwd dotM dotS dotR:=(numM_fwd.two numM_fwd).to (fun x => ⟨x.1,x.2⟩) (fun x => (x.rep,x.seq)) (fun s => rfl) (fun x => rfl) (fun x => rfl) (fun x h => h)
theorem flagM_fwd:Fwd flagM flagS fun _ => True where
  g:=fun x _ s y hH => by
    have e:flagS x = varS (cond x 1 0):=by
      cases x
      · exact flag_num 0 (by decide) (by decide)
      · exact flag_num 1 (by decide) (by decide)
    rw [e] at hH
    obtain ⟨g1,g2,g3⟩:=numM_fwd.g (cond x 1 0) (by cases x <;> simp [numOk]) s y hH
    unfold flagM
    rw [g1,if_neg (by cases x <;> decide)]
    exact ⟨by cases x <;> rfl,g2,g3⟩
theorem talM_fwd:Fwd talM talS talR:=(shM_fwd.two (numM_fwd.two numM_fwd)).to (fun x => ⟨x.1,x.2.1,x.2.2⟩) (fun x => (x.obj,x.rep,x.sum)) (fun s => rfl) (fun x => rfl) (fun x => rfl) (fun x h => ⟨Nat.le_trans h.1 (by decide),h.2⟩)
theorem liveM_fwd:Fwd (liveM flagM) liveS liveR:=(flagM_fwd.two ((shM_fwd.two shM_fwd).two (numM_fwd.two dotM_fwd))).to (fun x => ⟨x.1,x.2.1.1,x.2.1.2,x.2.2.1,x.2.2.2⟩) (fun x => (x.map,(x.obj,x.key),x.val,x.dot)) (fun s => rfl) (fun x => rfl) (fun x => rfl) (fun x h => ⟨trivial,⟨Nat.le_trans h.1 (by decide),Nat.le_trans h.2.1 (by decide)⟩,h.2.2⟩)
theorem cellM_fwd:Fwd (cellM flagM) cellS cellR:=(shM_fwd.two (dotM_fwd.two (numM_fwd.two (dotM_fwd.two (numM_fwd.two flagM_fwd))))).to (fun x => ⟨x.1,x.2.1,x.2.2.1,x.2.2.2.1,x.2.2.2.2.1,x.2.2.2.2.2⟩) (fun x => (x.obj,x.dot,x.time,x.ref,x.val,x.gone)) (fun s => rfl) (fun x => rfl) (fun x => rfl) (fun x h => ⟨Nat.le_trans h.1 (by decide),h.2.1,h.2.2.1,h.2.2.2.1,h.2.2.2.2,trivial⟩)
section
variable {α:Type} [Cel α] {r:GScan → α × GScan} {w:α → ByteArray} {p:α → Prop}
theorem lsM_fwd (hr:Fwd r w p) {l:List α} (hp:∀ i:Nat,i < l.length → p (nth l i)) (s:GScan):∀ (n:Nat) (y:List UInt8),n ≤ l.length → Here s ((catN (fun i => w (nth l i)) n).data.toList ++ y) →
    (lsM r s n).1 = l.take n ∧ Here (lsM r s n).2 y ∧ (lsM r s n).2.t = s.t
  | 0,y,_,h => ⟨rfl,by show Here s y; simpa [catN] using h,rfl⟩
  | n + 1,y,hn,h => by
    rw [catN,app_list,List.append_assoc] at h
    obtain ⟨g1,g2,g3⟩:=lsM_fwd hr hp s n _ (by omega) h
    obtain ⟨k1,k2,k3⟩:=hr.g _ (hp n (by omega)) _ _ g2
    refine ⟨?_,k2,by rw [lsM,k3,g3]⟩
    simp only [lsM,g1,k1]
    rw [List.take_add_one,nth_eq (by omega),List.getElem?_eq_getElem (by omega)]; rfl
theorem cntM_fwd {n:Nat} (hn:n ≤ 120) {s:GScan} {y:List UInt8} (h:Here s ((varS n).data.toList ++ y)):(cntM s).1 = n ∧ Here (cntM s).2 y ∧ (cntM s).2.t = s.t:=by
  have:=numM_fwd.g n ⟨by omega,by omega⟩ s y h
  unfold cntM
  rw [if_neg (by rw [this.1]; omega)]
  exact this
theorem liM_fwd (hr:Fwd r w p):Fwd (liM r) (lisS w) (fun l => l.length ≤ 120 ∧ ∀ i:Nat,i < l.length → p (nth l i)) where
  g:=fun l hl s y h => by
    rw [lisS,app_list,List.append_assoc] at h
    obtain ⟨g1,g2,g3⟩:=cntM_fwd hl.1 h
    unfold liM
    rw [g1,Int.toNat_natCast]
    obtain ⟨k1,k2,k3⟩:=lsM_fwd hr hl.2 (cntM s).2 l.length y (Nat.le_refl _) g2
    exact ⟨by rw [k1,List.take_length],k2,by rw [k3,g3]⟩
end
theorem knowM_fwd:Fwd knowM varsS (fun k => k.length = 3 ∧ ∀ i:Nat,i < k.length → numOk (nth k i)) where
  g:=fun k hk s y h => by
    have h:Here s ((catN (fun i => varS (nth k i)) k.length).data.toList ++ y):=h
    have:=lsM_fwd numM_fwd hk.2 s k.length y (Nat.le_refl _) h
    unfold knowM
    rw [kn_ls,← hk.1]
    exact ⟨by rw [this.1,List.take_length],this.2⟩
theorem stM_fwd:Fwd stM stateS fun s => stateOk s = true:=(knowM_fwd.two ((liM_fwd talM_fwd).two ((liM_fwd liveM_fwd).two (liM_fwd cellM_fwd)))).to (fun x => ⟨x.1,x.2.1,x.2.2.1,x.2.2.2⟩) (fun x => (x.know,x.tallies,x.lives,x.cs)) (fun s => rfl) (fun x => rfl) (fun x => rfl) (fun x h => stateOk_facts h)
theorem dlM_fwd:Fwd dlM deltaS fun d => deltaOk d = true:=(knowM_fwd.two (knowM_fwd.two ((liM_fwd talM_fwd).two ((liM_fwd liveM_fwd).two ((liM_fwd dotM_fwd).two (liM_fwd cellM_fwd)))))).to (fun x => ⟨x.1,x.2.1,x.2.2.1,x.2.2.2.1,x.2.2.2.2.1,x.2.2.2.2.2⟩) (fun x => (x.base,x.know,x.tallies,x.lives,x.dead,x.cs)) (fun s => rfl) (fun x => rfl) (fun x => rfl) (fun x h => deltaOk_facts h)
end Am
namespace Am
open Go
theorem talS_sz {t:GTally} (h:talR t):(talS t).size ≤ 23:=by
  have h1:=shortS_size h.1
  have h2:=varS_size h.2.1
  have h3:=varS_size h.2.2
  simp only [talS,ByteArray.size_append]; omega
theorem liveS_sz {t:GLive} (h:liveR t):(liveS t).size ≤ 42:=by
  have h1:=shortS_size h.1
  have h2:=shortS_size h.2.1
  have h3:=varS_size h.2.2.1
  have h4:=dotS_size h.2.2.2
  have h5:=flagS_size t.map
  simp only [liveS,ByteArray.size_append]; omega
theorem cellS_sz {t:GCell} (h:cellR t):(cellS t).size ≤ 44:=by
  have h1:=shortS_size h.1
  have h2:=dotS_size h.2.1
  have h3:=varS_size h.2.2.1
  have h4:=dotS_size h.2.2.2.1
  have h5:=varS_size h.2.2.2.2
  have h6:=flagS_size t.gone
  simp only [cellS,ByteArray.size_append]; omega
theorem talsS_sz {l:List GTally} (h:l.length ≤ 120 ∧ ∀ i:Nat,i < l.length → talR (nth l i)):(talsS l).size ≤ 2765:=by
  have h1:(varS (l.length:Int)).size ≤ 5:=varS_size ⟨by omega,by omega⟩
  have h2:(catN (talF l) l.length).size ≤ l.length * 23:=catN_size fun i hi => talS_sz (h.2 i hi)
  have h3:=h.1
  simp only [talsS,ByteArray.size_append]; omega
theorem livesS_sz {l:List GLive} (h:l.length ≤ 120 ∧ ∀ i:Nat,i < l.length → liveR (nth l i)):(livesS l).size ≤ 5045:=by
  have h1:(varS (l.length:Int)).size ≤ 5:=varS_size ⟨by omega,by omega⟩
  have h2:(catN (liveF l) l.length).size ≤ l.length * 42:=catN_size fun i hi => liveS_sz (h.2 i hi)
  have h3:=h.1
  simp only [livesS,ByteArray.size_append]; omega
theorem cellsS_sz {l:List GCell} (h:l.length ≤ 120 ∧ ∀ i:Nat,i < l.length → cellR (nth l i)):(cellsS l).size ≤ 5285:=by
  have h1:(varS (l.length:Int)).size ≤ 5:=varS_size ⟨by omega,by omega⟩
  have h2:(catN (cellF l) l.length).size ≤ l.length * 44:=catN_size fun i hi => cellS_sz (h.2 i hi)
  have h3:=h.1
  simp only [cellsS,ByteArray.size_append]; omega
theorem dotsS_sz {l:List GDot} (h:l.length ≤ 120 ∧ ∀ i:Nat,i < l.length → dotR (nth l i)):(dotsS l).size ≤ 1205:=by
  have h1:(varS (l.length:Int)).size ≤ 5:=varS_size ⟨by omega,by omega⟩
  have h2:(catN (dotF l) l.length).size ≤ l.length * 10:=catN_size fun i hi => dotS_size (h.2 i hi)
  have h3:=h.1
  simp only [dotsS,ByteArray.size_append]; omega
theorem stateS_small {s:GState} (h:stateOk s = true):(stateS s).size ≤ 20000:=by
  obtain ⟨⟨b0,b1⟩,t,l,c⟩:=stateOk_facts h
  have z1:=varsS_size b1
  have z2:=talsS_sz t
  have z3:=livesS_sz l
  have z4:=cellsS_sz c
  simp only [stateS,ByteArray.size_append]; omega
theorem deltaS_small {d:GDelta} (h:deltaOk d = true):(deltaS d).size ≤ 20000:=by
  obtain ⟨⟨b0,b1⟩,⟨k0,k1⟩,t,l,e,c⟩:=deltaOk_facts h
  have z1:=varsS_size b1
  have z0:=varsS_size k1
  have z2:=talsS_sz t
  have z3:=livesS_sz l
  have z5:=dotsS_sz e
  have z4:=cellsS_sz c
  simp only [deltaS,ByteArray.size_append]; omega
theorem sealS_eq {u:ByteArray} (h:u.size ≤ 20000):sealS u = u ++ fourS (sumOf u):=by rw [sealS,if_pos h]
theorem unOk_seal {u:ByteArray} (h:u.size ≤ 20000):unOk (sealS u) = true:=by
  rw [sealS_eq h]
  have hs:(u ++ fourS (sumOf u)).size = u.size + 4:=by rw [ByteArray.size_append,fourS_size]
  have e1:(u ++ fourS (sumOf u)).extract 0 ((u ++ fourS (sumOf u)).size - 4) = u:=by
    rw [hs,show u.size + 4 - 4 = u.size by omega,ByteArray.extract_append_size_left]
    exact ba_all u
  have e2:(u ++ fourS (sumOf u)).extract ((u ++ fourS (sumOf u)).size - 4) (u ++ fourS (sumOf u)).size = fourS (sumOf u):=by
    rw [hs,show u.size + 4 - 4 = u.size by omega]
    apply ByteArray.ext
    apply Array.toList_inj.1
    rw [ByteArray.data_extract,Array.toList_extract,List.extract_eq_take_drop,app_list]
    rw [show u.size = u.data.toList.length from (size_list u).symm,List.drop_left,Nat.add_sub_cancel_left]
    exact List.take_of_length_le (by rw [size_list,fourS_size]; omega)
  simp only [unOk,Bool.and_eq_true,decide_eq_true_eq]
  exact ⟨by rw [hs]; omega,by rw [hs]; omega,by rw [e1,e2]⟩
theorem unS_seal2 {u:ByteArray} (h:u.size ≤ 20000):unS (sealS u) = u:=seal_unS (by simp [sealOk,h]) rfl (unOk_seal h)
theorem whole_fwd {α:Type} {r:GScan → α × GScan} {w:α → ByteArray} {p:α → Prop} (hr:Fwd r w p) {x:α} (hx:p x) (h:(w x).size ≤ 20000) :
    (r (scan0 (sealS (w x)))).1 = x ∧ (r (scan0 (sealS (w x)))).2.bad = false ∧ (r (scan0 (sealS (w x)))).2.pos = (unS (sealS (w x))).size:=by
  have e:=unS_seal2 h
  have hH:Here (scan0 (sealS (w x))) ((w x).data.toList ++ []):=by
    refine ⟨by simp [scan0,unOk_seal h],by simp [scan0],by simp [scan0],?_⟩
    simp [scan0,e]
  obtain ⟨g1,g2,g3⟩:=hr.g x hx _ _ hH
  refine ⟨g1,g2.b,?_⟩
  have hd:=g2.d
  have hl:=congrArg List.length hd
  rw [List.length_drop,size_list,g3,List.length_nil] at hl
  have h1:=g2.l
  have h2:=g2.h
  rw [g3] at h2
  have e0:(scan0 (sealS (w x))).t = unS (sealS (w x)):=rfl
  rw [e0] at hl h2
  omega
theorem state_back {s:GState} (h:stateOk s = true):rdStM (stateText s) = (s,true):=by
  obtain ⟨g1,g2,g3⟩:=whole_fwd stM_fwd h (stateS_small h)
  rw [stateText,if_pos h]
  unfold rdStM resM
  rw [if_pos ⟨g2,g3,by rw [g1]; exact h⟩,g1]
theorem stateTextOk_eq (s:GState):stateTextOk s = stateOk s:=by
  unfold stateTextOk
  cases h:stateOk s
  · rfl
  · simp [sealOk,stateS_small h]
theorem delta_back {d:GDelta} (h:deltaOk d = true):rdDlM (deltaText d) = (d,true):=by
  obtain ⟨g1,g2,g3⟩:=whole_fwd dlM_fwd h (deltaS_small h)
  rw [deltaText,if_pos h]
  unfold rdDlM resDM
  rw [if_pos ⟨g2,g3,by rw [g1]; exact h⟩,g1]
theorem deltaTextOk_eq (d:GDelta):deltaTextOk d = deltaOk d:=by
  unfold deltaTextOk
  cases h:deltaOk d
  · rfl
  · simp [sealOk,deltaS_small h]
end Am
namespace Am
open Go
def u32R (x:Int):Prop:=0 ≤ x ∧ x < 4294967296
def bvI (x:Int):BitVec 32:=BitVec.ofInt 32 x
theorem bvI_inj {x y:Int} (hx:u32R x) (hy:u32R y) (h:bvI x = bvI y):x = y:=by
  have:=congrArg BitVec.toNat h
  simp only [bvI,BitVec.toNat_ofInt] at this
  have h1:=hx.1; have h2:=hx.2; have h3:=hy.1; have h4:=hy.2
  omega
theorem xor32_bv (a b:Int):bvI (xor32 a b) = bvI a ^^^ bvI b:=by
  have e:∀ v:BitVec 32,bvI (IntKind.u32.wrap (v.toNat:Int)) = v:=by
    intro v
    have hv:=v.isLt
    have h1:IntKind.u32.wrap (v.toNat:Int) = (v.toNat:Int) % 4294967296:=rfl
    rw [h1,Int.emod_eq_of_lt (by omega) (by omega)]
    apply BitVec.eq_of_toNat_eq
    simp only [bvI,BitVec.toNat_ofInt]
    omega
  exact e _
theorem xor32_can {a b c:Int} (hb:u32R b) (hc:u32R c) (h:xor32 a b = xor32 a c):b = c:=by
  have:=congrArg bvI h
  rw [xor32_bv,xor32_bv] at this
  exact bvI_inj hb hc ((BitVec.xor_right_inj _).1 this)
theorem xor32_can2 {a b c:Int} (hb:u32R b) (hc:u32R c) (h:xor32 b a = xor32 c a):b = c:=by
  have:=congrArg bvI h
  rw [xor32_bv,xor32_bv] at this
  exact bvI_inj hb hc ((BitVec.xor_left_inj _).1 this)
theorem half_r {s:Int} (h:u32R s):IntKind.u32.wrap (s.tdiv 2) = s / 2 ∧ 0 ≤ s / 2 ∧ s / 2 < 2147483648:=by
  have h1:IntKind.u32.wrap (s.tdiv 2) = s.tdiv 2 % 4294967296:=rfl
  have h2:=h.1; have h3:=h.2
  rw [h1,Int.tdiv_eq_ediv_of_nonneg h2]
  omega
theorem odd_hi {x:Int} (h0:0 ≤ x) (h1:x < 2147483648):(bvI (xor32 x 3558460437)).msb = true:=by
  rw [xor32_bv,BitVec.msb_xor]
  have e1:(bvI x).msb = false:=by
    rw [BitVec.msb_eq_decide]
    simp only [bvI,BitVec.toNat_ofInt,decide_eq_false_iff_not]
    omega
  have e2:(bvI 3558460437).msb = true:=by decide
  rw [e1,e2]; rfl
theorem even_hi {x:Int} (h0:0 ≤ x) (h1:x < 2147483648):(bvI x).msb = false:=by
  rw [BitVec.msb_eq_decide]
  simp only [bvI,BitVec.toNat_ofInt,decide_eq_false_iff_not]
  omega
theorem bit1_inj {x y:Int} (hx:u32R x) (hy:u32R y) (h:bit1 x = bit1 y):x = y:=by
  obtain ⟨x1,x2,x3⟩:=half_r hx
  obtain ⟨y1,y2,y3⟩:=half_r hy
  unfold bit1 at h
  rw [x1,y1] at h
  have a1:=hx.1; have b1:=hy.1
  rw [Int.tmod_eq_emod_of_nonneg a1,Int.tmod_eq_emod_of_nonneg b1] at h
  by_cases p:x % 2 = 1
  · by_cases q:y % 2 = 1
    · rw [if_pos p,if_pos q] at h
      have:=xor32_can2 ⟨x2,by omega⟩ ⟨y2,by omega⟩ h
      omega
    · rw [if_pos p,if_neg q] at h
      have e1:=odd_hi x2 x3
      rw [h,even_hi y2 y3] at e1; cases e1
  · by_cases q:y % 2 = 1
    · rw [if_neg p,if_pos q] at h
      have e1:=odd_hi y2 y3
      rw [← h,even_hi x2 x3] at e1; cases e1
    · rw [if_neg p,if_neg q] at h
      omega
theorem bitK_inj {x y:Int} (hx:u32R x) (hy:u32R y):∀ k,bitK k x = bitK k y → x = y
  | 0,h => h
  | k + 1,h => bitK_inj hx hy k (bit1_inj (bitK_range hx k) (bitK_range hy k) h)
def sumB:List UInt8 → Int → Int
  | [],s => s
  | c :: l,s => sumB l (bitK 8 (xor32 s c.toNat))
theorem sumB_inj:∀ {l:List UInt8} {x y:Int},u32R x → u32R y → sumB l x = sumB l y → x = y
  | [],_,_,_,_,h => h
  | c :: l,x,y,hx,hy,h => by
    have h1:=sumB_inj (l:=l) (bitK_range (xor32_range _ _) 8) (bitK_range (xor32_range _ _) 8) h
    have h2:=bitK_inj (xor32_range _ _) (xor32_range _ _) 8 h1
    exact xor32_can2 hx hy h2
theorem sumB_app:∀ (a b:List UInt8) (s:Int),sumB (a ++ b) s = sumB b (sumB a s)
  | [],_,_ => rfl
  | c :: a,b,s => sumB_app a b _
theorem sumB_turn {a b:List UInt8} {c d:UInt8} (h:c ≠ d) {s:Int}:sumB (a ++ c :: b) s ≠ sumB (a ++ d :: b) s:=by
  intro e
  rw [sumB_app,sumB_app] at e
  have h1:=sumB_inj (l:=b) (bitK_range (xor32_range _ _) 8) (bitK_range (xor32_range _ _) 8) e
  have h2:=bitK_inj (xor32_range _ _) (xor32_range _ _) 8 h1
  have c1:=c.toNat_lt
  have d1:=d.toNat_lt
  have h3:=xor32_can ⟨by omega,by omega⟩ ⟨by omega,by omega⟩ h2
  exact h (UInt8.toNat_inj.1 (by omega))
theorem sumK_B (t:ByteArray) (s:Int):∀ i:Nat,i ≤ t.size → sumK t i s = sumB (t.data.toList.take i) s
  | 0,_ => by simp [sumK,sumB]
  | i + 1,h => by
    obtain ⟨c,h1,h2⟩:=bt_at (t:=t) (k:=i) (by omega)
    have h3:t.data.toList.take (i + 1) = t.data.toList.take i ++ [c]:=by
      have hl:i < t.data.toList.length:=by rw [size_list]; omega
      rw [List.take_add_one,List.getElem?_eq_getElem hl]
      have:=List.drop_eq_getElem_cons hl
      rw [h1] at this
      injection this with e _
      rw [← e]; rfl
    have c1:=c.toNat_lt
    have w:IntKind.u32.wrap (bt t i) = (c.toNat:Int):=by
      have h1:IntKind.u32.wrap (bt t i) = bt t i % 4294967296:=rfl
      rw [h1,h2]; omega
    rw [h3,sumB_app,sumK,sumK_B t s i (by omega),w]; rfl
theorem sumOf_B (t:ByteArray):sumOf t = sumB t.data.toList 4294967295:=by
  unfold sumOf sumMore
  rw [sumK_B t _ _ (Nat.le_refl _),← size_list t,List.take_length]
theorem u8_inj {x y:Int} (h:u8 x = u8 y):x % 256 = y % 256:=by
  have:=congrArg UInt8.toNat h
  unfold u8 at this
  rw [UInt8.toNat_ofNat',UInt8.toNat_ofNat'] at this
  omega
theorem fourS_inj {x y:Int} (hx:u32R x) (hy:u32R y) (h:fourS x = fourS y):x = y:=by
  have h1:fourL x = fourL y:=by
    have:=congrArg (fun z:ByteArray => z.data.toList) h
    simpa [fourS,str] using this
  simp only [fourL,List.cons.injEq,and_true] at h1
  obtain ⟨p1,p2,p3,p4⟩:=h1
  have q1:=u8_inj p1
  have q2:=u8_inj p2
  have q3:=u8_inj p3
  have q4:=u8_inj p4
  have:=hx.1; have:=hx.2; have:=hy.1; have:=hy.2
  omega
theorem turned {u z:ByteArray} {i:Nat} {c:UInt8} (hu:u.size ≤ 20000) (hi:i < (sealS u).size) (hz:z.data.toList = (sealS u).data.toList.set i c) (hc:(sealS u).data.toList[i]? ≠ some c):unOk z = false:=by
  rw [sealS_eq hu] at hi hz hc
  cases hk:unOk z
  · rfl
  exfalso
  simp only [unOk,Bool.and_eq_true,decide_eq_true_eq] at hk
  obtain ⟨k1,k2,k3⟩:=hk
  have hs:z.size = u.size + 4:=by
    rw [← size_list z,hz,List.length_set,size_list,ByteArray.size_append,fourS_size]
  rw [ByteArray.size_append,fourS_size] at hi
  rw [app_list] at hz hc
  have hU:=size_list u
  have hF:(fourS (sumOf u)).data.toList.length = 4:=by rw [size_list,fourS_size]
  have hn:z.size - 4 = u.size:=by omega
  rw [hn] at k3
  have eP:(z.extract 0 u.size).data.toList = z.data.toList.take u.size:=by
    rw [ByteArray.data_extract,Array.toList_extract,List.extract_eq_take_drop]; simp
  have eS:(z.extract u.size z.size).data.toList = z.data.toList.drop u.size:=by
    rw [ByteArray.data_extract,Array.toList_extract,List.extract_eq_take_drop]
    exact List.take_of_length_le (by rw [List.length_drop,size_list]; omega)
  have k4:=congrArg (fun x:ByteArray => x.data.toList) k3
  simp only [eS] at k4
  rcases Nat.lt_or_ge i u.size with h1 | h1
  · rw [List.set_append_left _ _ (by omega)] at hz
    have d1:z.data.toList.drop u.size = (fourS (sumOf u)).data.toList:=by
      rw [hz,← hU]
      have:u.data.toList.length = (u.data.toList.set i c).length:=by rw [List.length_set]
      rw [this,List.drop_left]
    have t1:z.data.toList.take u.size = u.data.toList.set i c:=by
      rw [hz,← hU]
      have:u.data.toList.length = (u.data.toList.set i c).length:=by rw [List.length_set]
      rw [this,List.take_left]
    rw [d1] at k4
    have k5:fourS (sumOf u) = fourS (sumOf (z.extract 0 u.size)):=by
      apply ByteArray.ext
      apply Array.toList_inj.1
      exact k4
    have k6:=fourS_inj (sumOf_range _) (sumOf_range _) k5
    rw [sumOf_B,sumOf_B,eP,t1,List.set_eq_take_append_cons_drop,if_pos (by omega)] at k6
    have hl:i < u.data.toList.length:=by omega
    have e:u.data.toList = u.data.toList.take i ++ u.data.toList[i] :: u.data.toList.drop (i + 1):=by
      rw [← List.drop_eq_getElem_cons hl,List.take_append_drop]
    rw [List.getElem?_append_left (by omega),List.getElem?_eq_getElem hl] at hc
    have k7:sumB (u.data.toList.take i ++ u.data.toList[i] :: u.data.toList.drop (i + 1)) 4294967295 = sumB (u.data.toList.take i ++ c :: u.data.toList.drop (i + 1)) 4294967295:=by rw [← e]; exact k6
    exact sumB_turn (fun e => hc (by rw [e])) k7
  · rw [List.set_append_right _ _ (by omega)] at hz
    have d1:z.data.toList.drop u.size = (fourS (sumOf u)).data.toList.set (i - u.size) c:=by
      rw [hz,← hU,List.drop_left]
    have t1:z.data.toList.take u.size = u.data.toList:=by
      rw [hz,← hU,List.take_left]
    have ez:z.extract 0 u.size = u:=by
      apply ByteArray.ext
      apply Array.toList_inj.1
      rw [eP,t1]
    rw [d1,ez] at k4
    rw [List.getElem?_append_right (by omega),hU,← k4,List.getElem?_set_self (by omega)] at hc
    exact hc rfl
theorem turned_state {s:GState} (h:stateOk s = true) {z:ByteArray} {i:Nat} {c:UInt8} (hi:i < (stateText s).size) (hz:z.data.toList = (stateText s).data.toList.set i c) (hc:(stateText s).data.toList[i]? ≠ some c):(rdStM z).2 = false:=by
  rw [stateText,if_pos h] at hi hz hc
  have hk:=turned (stateS_small h) hi hz hc
  unfold rdStM resM
  rw [if_neg]
  rintro ⟨h1,-⟩
  have:=(stM_rdr.g _ (scan0_fine z) h1).b
  simp [scan0,hk] at this
end Am
namespace Am
open Go
theorem rdStM_OkT (t:ByteArray):(rdStM t).1.Ok:=by
  unfold rdStM resM
  split
  · exact stM_Ok _
  · simp [GState.empty,GState.Ok]
theorem rdDlM_OkT (t:ByteArray):(rdDlM t).1.Ok:=by
  unfold rdDlM resDM
  split
  · exact dlM_Ok _
  · simp [GDelta.empty,GDelta.Ok]
theorem intsOf_len (b:ByteArray):(intsOf b).length = b.size:=by simp [intsOf]
theorem strOf_set (b:ByteArray) (i:Nat) (n:Int):(strOf ((intsOf b).set i n)).data.toList = b.data.toList.set i (UInt8.ofNat n.toNat):=by
  simp only [strOf,intsOf,List.map_set,List.map_map]
  congr 1
  conv => rhs; rw [← List.map_id b.data.toList]
  apply List.map_congr_left
  intro x _
  simp
theorem strOf_size (l:List Int):(strOf l).size = l.length:=by simp [strOf,ByteArray.size]
theorem u8w {x:Int} (h0:0 ≤ x) (h1:x < 256):IntKind.u8.wrap x = x:=by
  have:IntKind.u8.wrap x = x % 256:=rfl
  omega
theorem xor_ne {x y:Int} (hx0:0 ≤ x) (hx:x < 256) (hy0:0 < y) (hy:y < 256):UInt8.ofNat (IntKind.u8.wrap ((BitVec.ofInt 8 x ^^^ BitVec.ofInt 8 y).toNat:Int)).toNat ≠ UInt8.ofNat x.toNat:=by
  intro h
  have hv:=(BitVec.ofInt 8 x ^^^ BitVec.ofInt 8 y).isLt
  rw [u8w (by omega) (by omega),Int.toNat_natCast] at h
  have h2:=congrArg UInt8.toNat h
  simp only [UInt8.toNat_ofNat'] at h2
  rw [Nat.mod_eq_of_lt hv,Nat.mod_eq_of_lt (by omega)] at h2
  have h3:BitVec.ofInt 8 x ^^^ BitVec.ofInt 8 y = BitVec.ofInt 8 x ^^^ 0#8:=by
    rw [BitVec.xor_zero]
    apply BitVec.eq_of_toNat_eq
    rw [h2,BitVec.toNat_ofInt]
    omega
  have h4:=(BitVec.xor_right_inj _).1 h3
  have h5:=congrArg BitVec.toNat h4
  rw [BitVec.toNat_ofInt] at h5
  simp at h5
  omega
theorem turned_bytes {s:GState} (h:stateOk s = true) {i:Nat} (hi:i < (stateText s).size) {y:Int} (hy0:0 < y) (hy:y < 256) :
    (rdStM (strOf ((intsOf (stateText s)).set i (IntKind.u8.wrap ((BitVec.ofInt 8 ((intsOf (stateText s)).getD i 0) ^^^ BitVec.ofInt 8 y).toNat:Int))))).2 = false:=by
  have hil:i < (stateText s).data.toList.length:=by simpa using hi
  have e:(intsOf (stateText s)).getD i 0 = (((stateText s).data.toList[i]).toNat:Int):=by
    simp [intsOf,List.getD,hi]
  have hb:=((stateText s).data.toList[i]).toNat_lt
  refine turned_state h hi (strOf_set _ _ _) ?_
  rw [List.getElem?_eq_getElem hil]
  intro hh
  have h2:=Option.some.inj hh
  rw [e] at h2
  have h3:=xor_ne (x:=((stateText s).data.toList[i]).toNat) (by omega) (by omega) hy0 hy
  apply h3
  rw [← h2]
  simp
theorem stateText_pos {s:GState} (h:stateOk s = true):0 < (stateText s).size:=by
  rw [stateText,if_pos h,sealS_eq (stateS_small h),ByteArray.size_append,fourS_size]
  omega
end Am
namespace Am
open Go Go.Proofs
open Cel (cells)
set_option maxRecDepth 100000
@[simp] def h5:Hts:={  }
theorem f5_ok (b:List UInt8):FnR Tryz.prog 5 [.v (.im b.length (flat b))] (.v (.bool (decide (1048576 < b.length)))):=by
  refine FnW.of_AW TryzT_ok 0 (fn:=Tryz.f5) (by kernel_rfl) rfl (by kernel_rfl) rfl rfl rfl ?_; refine AW_of h5 TryzT_ok (by kernel_rfl) ?_
  simp -dsimp
  omega
@[simp] def h72:Hts:={ merge:=fun _ => false,dr:=fun id => if id = 6 then [{},{},{},{},{},{},{},{},{}] else [] }
theorem f72_ok (l:List Int) (hl:l.length ≤ 1073741824):FnR Tryz.prog 72 [.v (.im l.length (flat l)),.v (.im l.length (flat l))] (.v (.bool true)):=by
  refine FnW.of_AW TryzT_ok 0 (fn:=Tryz.f72) (by kernel_rfl) rfl (by kernel_rfl) rfl rfl rfl ?_; refine AW_of h72 TryzT_ok (by kernel_rfl) ?_
  simp -dsimp
  refine AWh_loop (fun i:Nat => i ≤ l.length) (fun i => mkE [(0,.c (.im l.length (flat l))),(1,.c (.im l.length (flat l))),(5,.c (.int .i64 i))] []) (fun i => l.length - i) 0 (Wk_to [0,1,5] [] rfl rfl (by simp)) (by simp) ?_
  rintro i hi
  refine AW_of h72 TryzT_ok (by kernel_rfl) ?_
  have wi:IntKind.i64.wrap ((i:Int) + 1) = i + 1:=wrap64 (by omega) (by omega)
  rcases Nat.lt_or_ge i l.length with h1 | h1
  · simp -dsimp [h1,ne_of_lt h1,wi]
    exact Back_of (i + 1) [0,1,5] [] rfl rfl (by simp) (by omega) (by omega)
  · simp -dsimp [Nat.not_lt.2 h1,h1]
end Am
namespace Am
open Go Go.Proofs
open Cel (cells)
set_option maxRecDepth 100000
@[simp] def h73:Hts:={ merge:=fun _ => false,dr:=fun id => if id = 6 then [{},{},{},{},{},{},{},{},{}] else [] }
set_option maxHeartbeats 1000000 in
theorem f73_ok (l:List GDot) (hl:l.length ≤ 1073741824):FnR Tryz.prog 73 [.v (.im l.length (flat l)),.v (.im l.length (flat l))] (.v (.bool true)):=by
  refine FnW.of_AW TryzT_ok 0 (fn:=Tryz.f73) (by kernel_rfl) rfl (by kernel_rfl) rfl rfl rfl ?_; refine AW_of h73 TryzT_ok (by kernel_rfl) ?_
  simp -dsimp
  refine AWh_loop (fun i:Nat => i ≤ l.length) (fun i => mkE [(0,.c (.im l.length (flat l))),(1,.c (.im l.length (flat l))),(5,.c (.int .i64 i))] []) (fun i => l.length - i) 0 (Wk_to [0,1,5] [] rfl rfl (by simp)) (by simp) ?_
  rintro i hi
  refine AW_of h73 TryzT_ok (by kernel_rfl) ?_
  have wi:IntKind.i64.wrap ((i:Int) + 1) = i + 1:=wrap64 (by omega) (by omega)
  rcases Nat.lt_or_ge i l.length with h1 | h1
  · simp -dsimp [h1,ne_of_lt h1,wi]
    repeat (first|refine ⟨by omega,?_⟩|refine ⟨by simp [capMax];omega,?_⟩|refine ⟨⟨by omega,by omega⟩,?_⟩)
    exact Back_of (i + 1) [0,1,5] [] rfl rfl (by simp) (by omega) (by omega)
  · simp -dsimp [Nat.not_lt.2 h1,h1]
@[simp] def h20:Hts:={ merge:=fun _ => false,mergeF:=fun _ => false }
set_option maxHeartbeats 1000000 in
theorem f20_ok (d:GDelta) (hd:d.Ok):FnR Tryz.prog 20 [.agg [.im d.base.length (flat d.base),.im d.know.length (flat d.know),.im d.tallies.length (flat d.tallies),.im d.lives.length (flat d.lives),.im d.dead.length (flat d.dead),.im d.cs.length (flat d.cs)],.agg [.im d.base.length (flat d.base),.im d.know.length (flat d.know),.im d.tallies.length (flat d.tallies),.im d.lives.length (flat d.lives),.im d.dead.length (flat d.dead),.im d.cs.length (flat d.cs)]] (.v (.bool true)):=by
  simp only [GDelta.Ok] at hd
  obtain ⟨o0,o1,o2,o3,o4,o5,o6,o7,o8⟩:=hd
  refine FnW.of_AW TryzT_ok 0 (fn:=Tryz.f20) (by kernel_rfl) rfl (by kernel_rfl) rfl rfl rfl ?_; refine AW_of h20 TryzT_ok (by kernel_rfl) ?_
  simp -dsimp
  refine ACallK_of (f72_ok d.base o0) ?_
  simp -dsimp
  refine ACallK_of (f73_ok d.dead o6) ?_
  simp -dsimp
  refine ACallK_of (f18_ok ⟨d.know,d.tallies,d.lives,d.cs⟩ ⟨d.know,d.tallies,d.lives,d.cs⟩ (by simp only [GState.Ok]; exact ⟨o1,o2,o3,o4,o5,o7,o8⟩)) ?_
  simp -dsimp
end Am
