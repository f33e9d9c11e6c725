import Derived.Test.YtkhlabammcghbaaGreatRSe
import Derived.Test.YtkhlabammcghbaaGreatGhPL
import Derived.Test.YtkhlabammcghbaaGreatGhLS
import Derived.Test.YtkhlabammcghbaaGreatGhLW
set_option linter.unusedVariables false
set_option maxRecDepth 20000
namespace Go.Proofs.YtkhlabammcghbaaGreat.Lift
open Go Go.Proofs.YtkhlabammcghbaaGreat.Gh Go.Proofs
def De {β:Type} (x y:Option β):Option β:=match x with | some r=>some r | none=>y
theorem Ref.Mi {β:Type} {x y z:Option β} (h:Ref x z) (k:Ref y z):Ref (De x y) z:=fun r hr=>by
 unfold De at hr
 cases x with
 | some a=>exact h r hr
 | none=>exact k r hr
noncomputable section
def Mj (ae:FuncId→Bool) (e:Ex) (f:FuncId) (vs:List Value) (G:GS):Option (Value×GS):=match Q.funcs[f]? with
 | some fn=>bif okF Q ae fn vs.length&&(!py Q ae f&& !(vs.isEmpty&&ae f)) then mo Q (r8 Q) e f true [] 0 (aL fn) (nth undef vs) [] G (B8 Q fn.results.toList) else none
 | none=>none
theorem ae2 {ae:FuncId→Bool} {e:Ex} (h:bm Q e (E ae)) (f:FuncId) (vs:List Value) (G:GS):Ref (Mj ae e f vs G) ((E ae).cl f vs G):=by
 unfold Mj
 split
 ·rename_i fn hf
  cases hc:(okF Q ae fn vs.length&&(!py Q ae f&& !(vs.isEmpty&&ae f)))
  ·exact .nil _
  ·simp only [Bool.and_eq_true,Bool.not_eq_true'] at hc
   exact QY rfl h hf hc.1 hc.2.1 hc.2.2
 ·exact .nil _
def Ml (e:Ex) (f k:Nat) (τ:Env) (G:GS):Option (Exit×Env×GS):=match Q.funcs[f]? with
 | some fn=>bif B9 fn.ntmps k fn then mo Q (r8 Q) e f true [] (k+1) (cP fn k) (nth undef (aG fn.ntmps τ)) [] G (zu fn.ntmps (e.dj f k)) else none
 | none=>none
theorem ae3 {ae:FuncId→Bool} {e:Ex} (h:bm Q e (E ae)) (f k:Nat) (τ:Env) (G:GS):Ref (Ml e f k τ G) (bc ((E ae).lp (iO Q f k) (aG (jd Q f) τ) G)):=by
 unfold Ml
 split
 ·rename_i fn hf
  cases hc:B9 fn.ntmps k fn
  ·exact .nil _
  ·have e1:iO Q f k=cP fn k:=by unfold iO cP; rw [hf]
   have e2:jd Q f=fn.ntmps:=by unfold jd; rw [hf]
   rw [e1,e2]
   refine QZ rfl h hf (zq _ _) (fun τ G=>?_) hc
   have:=h.dj f k τ G
   rwa [e1,e2] at this
 ·exact .nil _
def kH (ae:FuncId→Bool) (n:Nat):Ex:=Nat.rec (motive:=fun _=>Ex) ⟨Ev.zero,fun _ _ _ _=>none⟩ (fun _ e=>⟨⟨(fL Q ae 0).ex,fun f vs G=>De (JP ae e f vs G) (De (Mj ae e f vs G) ((fL Q ae 2000).cl f vs G)),(fL Q ae 2000).rd,(fL Q ae 2000).sc,(fL Q ae 0).lp⟩,fun f k τ G=>De (JQ 6000 e f k τ G) (Ml e f k τ G)⟩) n
theorem Df (ae:FuncId→Bool):∀ n,bm Q (kH ae n) (E ae)
 | 0=>⟨zero_le _,fun _ _ _ _=>.nil _⟩
 | n+1=>⟨⟨(yU Q ae 0).ex,fun f vs G r hr=>Ref.Mi (aaO (Df ae n) f vs G) (Ref.Mi (ae2 (Df ae n) f vs G) ((yU Q ae 2000).cl f vs G)) r hr,(yU Q ae 2000).rd,(yU Q ae 2000).sc,(yU Q ae 0).lp⟩,fun f k τ G=>Ref.Mi (aaP (Df ae n) 6000 f k τ G) (ae3 (Df ae n) f k τ G)⟩
theorem ae4 {ae:FuncId→Bool} {n f:Nat} {vs:List Value} (h:isTrue ((kH ae n).ev.cl f vs GS.empty)=true):∃ G',(E ae).cl f vs GS.empty=some (.bool true,G'):=YW ((Df ae n).ev.cl f vs GS.empty) h
end
set_option linter.unusedSimpArgs false
theorem UK {ae:FuncId→Bool} (ho:rY Q ae) (kY:Q.follows .mixedOrders=true) {n f:Nat} (h:isTrue ((kH ae n).ev.cl f [] GS.empty)=true) (w:World):Calls Q f #[] w fun e w'=>e= .returned (.bool true)∧Go.RowKit.Below w.heap.size w w' :=
 let ⟨_,hG⟩:=ae4 h
 Yq kY ho hG fun _=>trivial
theorem Mm:Ee Q:=X5 (by kernel_rfl) (by kernel_rfl)
theorem ae5:rY Q (among []):=IP _ (hp:=Mm) fun f hf=>by cases hf
theorem ae6:isTrue ((kH (among []) 200).ev.cl 24 [] GS.empty)=true:=by kernel_rfl
theorem ae7:rY Q (among [24]):=IP _ (hp:=Mm) fun f hf=>by
 simp only [List.mem_cons,List.not_mem_nil,or_false] at hf
 subst hf
 exact ⟨⟨_,Tryz.func24,by kernel_rfl,by kernel_rfl⟩,fun w _=>UK ae5 (by kernel_rfl) ae6 w⟩
theorem ae8:isTrue ((kH (among [24]) 200).ev.cl 5 [] GS.empty)=true:=by kernel_rfl
theorem ae9:rY Q (among [5]):=IP _ (hp:=Mm) fun f hf=>by
 simp only [List.mem_cons,List.not_mem_nil,or_false] at hf
 subst hf
 exact ⟨⟨_,Tryz.func5,by kernel_rfl,by kernel_rfl⟩,fun w _=>UK ae7 (by kernel_rfl) ae8 w⟩
end Go.Proofs.YtkhlabammcghbaaGreat.Lift
