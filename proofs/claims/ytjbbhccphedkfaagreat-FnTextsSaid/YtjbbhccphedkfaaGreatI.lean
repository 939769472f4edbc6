/- What the arguments of the laws are. No condition. -/
import Derived.Test.YtjbbhccphedkfaaGreatAm25
import Derived.Test.YtjbbhccphedkfaaGreatAm28
import Derived.Test.YtjbbhccphedkfaaGreatAm32
import Derived.Test.YtjbbhccphedkfaaGreatT
import Derived.Test.YtjbbhccphedkfaaGreatD
set_option linter.unusedSimpArgs false
set_option linter.unusedVariables false
set_option linter.unnecessarySimpa false
set_option linter.unusedSectionVars false
namespace Am
open Go Go.Proofs
open Cel (cells)
theorem unflat {α:Type} [Cel α] {q:α → Prop} {p:List PV → Prop} (h:∀ x,p x → ∃ y:α,x = cells y ∧ q y):∀ xss:List (List PV),(∀ x,x ∈ xss → p x) → ∃ ys:List α,xss.flatten = flat ys ∧ xss.length = ys.length ∧ ∀ y,y ∈ ys → q y
  | [],_ => ⟨[],rfl,rfl,fun _ h => by cases h⟩
  | x :: xss,hp => by
    obtain ⟨y,rfl,hq⟩:=h x (hp x (by simp))
    obtain ⟨ys,h1,h2,h3⟩:=unflat h xss (fun z hz => hp z (by simp [hz]))
    exact ⟨y :: ys,by rw [List.flatten_cons,h1]; rfl,by simp [h2],fun z hz => by
      rcases List.mem_cons.1 hz with rfl | hz
      · exact hq
      · exact h3 z hz⟩
theorem inv_int {ps:List PV} (h:Sh TryzT 3 ps):∃ x:Int,ps = cells x ∧ True:=by
  obtain ⟨n,rfl,_⟩:=Sh_int TryzT_3 h
  exact ⟨n,rfl,trivial⟩
theorem inv_str {ps:List PV} (h:Sh TryzT 9 ps):∃ x:ByteArray,ps = cells x ∧ x.size ≤ 9223372036854775807:=by
  obtain ⟨n,rfl,g⟩:=Sh_str TryzT_9 h
  exact ⟨n,rfl,g⟩
theorem inv_u8 {ps:List PV} (h:Sh TryzT 5 ps):∃ x:UInt8,ps = cells x ∧ True:=by
  obtain ⟨n,rfl,h1,h2⟩:=Sh_int TryzT_5 h
  have h1:0 ≤ n:=h1
  have h2:n ≤ 255:=h2
  refine ⟨UInt8.ofNat n.toNat,?_,trivial⟩
  show [PV.int .u8 n] = [PV.int .u8 ((UInt8.ofNat n.toNat).toNat:Int)]
  rw [UInt8.toNat_ofNat']
  congr 2
  omega
end Am
