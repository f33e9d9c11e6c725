import Derived.Test.YtlaojmcekeohnaaGreatDoorGhLW
import Derived.Test.YtlaojmcekeohnaaGreatDoorGhKO
namespace Go.Proofs.YtlaojmcekeohnaaGreatDoor.Gh
set_option linter.unusedVariables false
set_option linter.unusedSimpArgs false
open Go
noncomputable section
def GS.tab:GS:=(GS.empty.push ⟨tabV,1,false,tabM⟩).push ⟨powV,1,false,powM⟩
def Map.tab:Map:=Map.empty
theorem tab_obj:GS.tab.obj 0=some ⟨tabV,1,false,tabM⟩:=by
  unfold GS.tab
  rw [GS.obj_push,if_neg (by decide),GS.obj_push]
  exact if_pos rfl
theorem tab_obj1:GS.tab.obj 1=some ⟨powV,1,false,powM⟩:=by
  unfold GS.tab
  rw [GS.obj_push]
  exact if_pos rfl
theorem tab_none {g:Nat} (h:g≠0) (h1:g≠1):GS.tab.obj g=none:=by
  unfold GS.tab
  rw [GS.obj_push,if_neg (show ¬ g=(GS.empty.push ⟨tabV,1,false,tabM⟩).nx from h1),GS.obj_push,if_neg (show ¬ g=GS.empty.nx from h)]
  exact tget_nil g
theorem tab_nx:GS.tab.nx=2:=rfl
theorem tabs_tab:tabs GS.tab=true:=by
  unfold tabs
  rw [tab_obj,tab_obj1]
  simp
theorem rel_tab (w:World) (hT:TabAt w):Rel GS.tab Map.tab w w.heap.size:=by
  obtain ⟨⟨e,f,h1⟩,e',f',h2⟩:=hT
  refine ⟨Nat.le_refl _,fun _ _ _ h=>(by cases h),fun _ _ _ _ _ _ h=>(by cases h),fun _ _ h=>(by cases h),fun _ _ h=>(by cases h),fun _ _ _ h=>(by cases h),fun _ _ h=>(by cases h),fun _ _ _ h=>(by cases h),fun _ _ h=>(by cases h),fun g hg=> ?_,fun g o ho hm=> ?_⟩
  · rw [tab_nx] at hg; exact tab_none (by omega) (by omega)
  · by_cases h0:g=0
    · subst h0
      rw [tab_obj] at ho
      cases ho
      exact ⟨.inl ⟨rfl,rfl⟩,(Array.getElem?_eq_some_iff.1 h1).1,e,f,h1⟩
    · by_cases h3:g=1
      · subst h3
        rw [tab_obj1] at ho
        cases ho
        exact ⟨.inr ⟨rfl,rfl⟩,(Array.getElem?_eq_some_iff.1 h2).1,e',f',h2⟩
      · rw [tab_none h0 h3] at ho; cases ho
theorem noFoot_tab:NoFoot GS.tab Map.tab:=fun r hf=>by
  rcases hf with ⟨g,x,o,hx,ho,hm,_⟩ | ⟨l,hl | hl⟩
  · cases hx
  · cases hl
  · cases hl
theorem law_tab {P:Program} {orc:FuncId→Bool} (hmix:P.follows .mixedOrders=true) (ho:OrcOk P orc) {f:FuncId} {vs:List Value} {G' :GS} (h:(evL P orc).cl f vs GS.tab=some (.bool true,G')) {w:World} (hT:TabAt w) {args:Array Value}
    (hv:∀ M,Vs M vs args.toList):Calls P f args w fun e w' =>e= .returned (.bool true)∧Go.RowKit.Below w.heap.size w w' :=
  law_evL hmix ho h (rel_tab w hT) (hv _) noFoot_tab
section
variable {P:Program} {orc:FuncId→Bool}
theorem Ref.pur (hp:(P.funcs[purF]?).isSome=true) (vs:List Value) (G:GS):Ref (pur vs G) ((evL P orc).cl purF vs G):=fun r hr=>by
  rw [evL_cl]
  obtain ⟨v,G'⟩:=r
  obtain ⟨n,rfl,_⟩:=pur_some hr
  have h3:Nat.beq purF purF=true:=by simp
  unfold clO isPur purs
  simp only [List.isEmpty_cons,Bool.false_and,Bool.false_eq_true,if_false,h3,hp,Bool.true_or,Bool.and_self,if_true]
  exact hr
theorem Ref.srt (hp:(P.funcs[sortF]?).isSome=true) (hq:Nat.beq sortF purF=false) (vs:List Value) (G:GS):Ref (srt vs G) ((evL P orc).cl sortF vs G):=fun r hr=>by
  rw [evL_cl]
  have h3:Nat.beq sortF sortF=true:=by simp
  have hvs:vs.isEmpty=false:=by
    cases vs with
    | nil=>cases hr
    | cons=>rfl
  unfold clO isPur purs
  simp only [hvs,Bool.false_and,Bool.false_eq_true,if_false,h3,hp,hq,Bool.or_true,Bool.and_self,if_true]
  exact hr
theorem Ref.ans (hp:(P.funcs[ansF]?).isSome=true) (ho:orc ansG=true) (hq:(Nat.beq ansF purF||(Nat.beq ansF sortF||(Nat.beq ansF txtA||(Nat.beq ansF txtB||Nat.beq ansF txtC))))=false) (hn:ansL.all (fun x=> !x.1.isEmpty)=true) (vs:List Value) (G:GS):Ref (ans vs G) ((evL P orc).cl ansF vs G):=fun r hr=>by
  rw [evL_cl]
  have h3:Nat.beq ansF ansF=true:=by simp
  simp only [Bool.or_eq_false_iff] at hq
  have hvs:vs.isEmpty=false:=by
    cases vs with
    | nil =>
      exfalso
      unfold Gh.ans at hr
      split at hr
      · rename_i v hv
        obtain ⟨x,hx,h1,_⟩:=ansFind_some hv
        have:=List.all_eq_true.1 hn x hx
        obtain ⟨l,r⟩:=x
        cases l with
        | nil=>simp at this
        | cons=>cases h1
      · cases hr
    | cons=>rfl
  unfold clO isPur purs
  simp only [hvs,Bool.false_and,Bool.false_eq_true,if_false,h3,hp,ho,hq.1,hq.2.1,hq.2.2.1,hq.2.2.2.1,hq.2.2.2.2,Bool.or_true,Bool.and_self,if_true]
  exact hr
theorem Ref.txA (hp:(P.funcs[txtA]?).isSome=true) (h0:Nat.beq txtA purF=false) (h1:Nat.beq txtA sortF=false) (vs:List Value) (G:GS):Ref (txt kA vs G) ((evL P orc).cl txtA vs G):=fun r hr=>by
  rw [evL_cl]
  have h9:Nat.beq txtA txtA=true:=by simp
  have hvs:vs.isEmpty=false:=by
    cases vs with
    | nil=>cases hr
    | cons=>rfl
  unfold clO isPur purs
  simp only [hvs,Bool.false_and,Bool.false_eq_true,if_false,h9,hp,h0,h1,Bool.or_true,Bool.true_or,Bool.and_self,if_true]
  exact hr
theorem Ref.txB (hp:(P.funcs[txtB]?).isSome=true) (h0:Nat.beq txtB purF=false) (h1:Nat.beq txtB sortF=false) (h2:Nat.beq txtB txtA=false) (vs:List Value) (G:GS):Ref (txt kB vs G) ((evL P orc).cl txtB vs G):=fun r hr=>by
  rw [evL_cl]
  have h9:Nat.beq txtB txtB=true:=by simp
  have hvs:vs.isEmpty=false:=by
    cases vs with
    | nil=>cases hr
    | cons=>rfl
  unfold clO isPur purs
  simp only [hvs,Bool.false_and,Bool.false_eq_true,if_false,h9,hp,h0,h1,h2,Bool.or_true,Bool.true_or,Bool.and_self,if_true]
  exact hr
theorem Ref.txC (hp:(P.funcs[txtC]?).isSome=true) (h0:Nat.beq txtC purF=false) (h1:Nat.beq txtC sortF=false) (h2:Nat.beq txtC txtA=false) (h3:Nat.beq txtC txtB=false) (vs:List Value) (G:GS):Ref (txt kC vs G) ((evL P orc).cl txtC vs G):=fun r hr=>by
  rw [evL_cl]
  have h9:Nat.beq txtC txtC=true:=by simp
  have hvs:vs.isEmpty=false:=by
    cases vs with
    | nil=>cases hr
    | cons=>rfl
  unfold clO isPur purs
  simp only [hvs,Bool.false_and,Bool.false_eq_true,if_false,h9,hp,h0,h1,h2,h3,Bool.or_true,Bool.true_or,Bool.and_self,if_true]
  exact hr
end
end
end Go.Proofs.YtlaojmcekeohnaaGreatDoor.Gh
