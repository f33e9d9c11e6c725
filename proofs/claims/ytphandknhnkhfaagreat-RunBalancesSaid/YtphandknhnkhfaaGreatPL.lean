import Derived.Test.YtphandknhnkhfaaGreatRSa
import Derived.Test.YtphandknhnkhfaaGreatGhPL
import Derived.Test.YtphandknhnkhfaaGreatGhLS
import Derived.Test.YtphandknhnkhfaaGreatGhLW
set_option linter.unusedVariables false
set_option maxRecDepth 20000
namespace Go.Proofs.YtphandknhnkhfaaGreat.Lift
open Go Go.Proofs.YtphandknhnkhfaaGreat.Gh Go.Proofs
def KM {β:Type} (x y:Option β):Option β:=match x with | some r=>some r | none=>y
theorem Ref.orE {β:Type} {x y z:Option β} (h:Ref x z) (k:Ref y z):Ref (KM x y) z:=fun r hr=>by
 unfold KM at hr
 cases x with
 | some a=>exact h r hr
 | none=>exact k r hr
noncomputable section
def KN (ae:FuncId→Bool) (e:Ex) (f:FuncId) (vs:List Value) (G:GS):Option (Value×GS):=match Q.funcs[f]? with
 | some fn=>bif okF Q ae fn vs.length&&(!po Q ae f&& !(vs.isEmpty&&ae f)) then mD Q (rP Q) e f true [] 0 (aS fn) (nth undef vs) [] G (Br Q fn.results.toList) else none
 | none=>none
theorem aeb {ae:FuncId→Bool} {e:Ex} (h:cf Q e (E ae)) (f:FuncId) (vs:List Value) (G:GS):Ref (KN ae e f vs G) ((E ae).cl f vs G):=by
 unfold KN
 split
 ·rename_i fn hf
  cases hc:(okF Q ae fn vs.length&&(!po Q ae f&& !(vs.isEmpty&&ae f)))
  ·exact .nil _
  ·simp only [Bool.and_eq_true,Bool.not_eq_true'] at hc
   exact PA rfl h hf hc.1 hc.2.1 hc.2.2
 ·exact .nil _
def KO (e:Ex) (f k:Nat) (τ:Env) (G:GS):Option (Exit×Env×GS):=match Q.funcs[f]? with
 | some fn=>bif Bs fn.ntmps k fn then mD Q (rP Q) e f true [] (k+1) (dw fn k) (nth undef (aN fn.ntmps τ)) [] G (yT fn.ntmps (e.du f k)) else none
 | none=>none
theorem aec {ae:FuncId→Bool} {e:Ex} (h:cf Q e (E ae)) (f k:Nat) (τ:Env) (G:GS):Ref (KO e f k τ G) (bZ ((E ae).lp (my Q f k) (aN (nh Q f) τ) G)):=by
 unfold KO
 split
 ·rename_i fn hf
  cases hc:Bs fn.ntmps k fn
  ·exact .nil _
  ·have e1:my Q f k=dw fn k:=by unfold my dw; rw [hf]
   have e2:nh Q f=fn.ntmps:=by unfold nh; rw [hf]
   rw [e1,e2]
   refine PB rfl h hf (DR _ _) (fun τ G=>?_) hc
   have:=h.du f k τ G
   rwa [e1,e2] at this
 ·exact .nil _
def kH (ae:FuncId→Bool) (n:Nat):Ex:=Nat.rec (motive:=fun _=>Ex) ⟨Ev.zero,fun _ _ _ _=>none⟩ (fun _ e=>⟨⟨(gX Q ae 0).ex,fun f vs G=>KM (KN ae e f vs G) ((gX Q ae 2000).cl f vs G),(gX Q ae 2000).rd,(gX Q ae 2000).sc,(gX Q ae 0).lp⟩,fun f k τ G=>KO e f k τ G⟩) n
theorem KP (ae:FuncId→Bool):∀ n,cf Q (kH ae n) (E ae)
 | 0=>⟨zero_le _,fun _ _ _ _=>.nil _⟩
 | n+1=>⟨⟨(yr Q ae 0).ex,fun f vs G r hr=>Ref.orE (aeb (KP ae n) f vs G) ((yr Q ae 2000).cl f vs G) r hr,(yr Q ae 2000).rd,(yr Q ae 2000).sc,(yr Q ae 0).lp⟩,fun f k τ G=>aec (KP ae n) f k τ G⟩
theorem aed {ae:FuncId→Bool} {n f:Nat} {vs:List Value} (h:isTrue ((kH ae n).ev.cl f vs GS.empty)=true):∃ G',(E ae).cl f vs GS.empty=some (.bool true,G'):=XP ((KP ae n).ev.cl f vs GS.empty) h
end
set_option linter.unusedSimpArgs false
theorem TB {ae:FuncId→Bool} (ho:rN Q ae) (lD:Q.follows .mixedOrders=true) {n f:Nat} (h:isTrue ((kH ae n).ev.cl f [] GS.empty)=true) (w:World):Calls Q f #[] w fun e w'=>e= .returned (.bool true)∧Go.RowKit.Below w.heap.size w w' :=
 let ⟨_,hG⟩:=aed h
 Xg lD ho hG fun _=>trivial
theorem KQ:Dp Q:=WS (by kernel_rfl) (by kernel_rfl)
theorem aee:rN Q (among []):=HL _ (hp:=KQ) fun f hf=>by cases hf
theorem aef:isTrue ((kH (among []) 200).ev.cl 34 [] GS.empty)=true:=by kernel_rfl
theorem aeg:rN Q (among [34]):=HL _ (hp:=KQ) fun f hf=>by
 simp only [List.mem_cons,List.not_mem_nil,or_false] at hf
 subst hf
 exact ⟨⟨_,Tryz.func34,by kernel_rfl,by kernel_rfl⟩,fun w _=>TB aee (by kernel_rfl) aef w⟩
theorem aeh:isTrue ((kH (among [34]) 200).ev.cl 5 [] GS.empty)=true:=by kernel_rfl
theorem aei:rN Q (among [5]):=HL _ (hp:=KQ) fun f hf=>by
 simp only [List.mem_cons,List.not_mem_nil,or_false] at hf
 subst hf
 exact ⟨⟨_,Tryz.func5,by kernel_rfl,by kernel_rfl⟩,fun w _=>TB aeg (by kernel_rfl) aeh w⟩
end Go.Proofs.YtphandknhnkhfaaGreat.Lift
