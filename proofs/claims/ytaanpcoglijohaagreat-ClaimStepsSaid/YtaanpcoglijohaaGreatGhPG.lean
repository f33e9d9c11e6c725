import Derived.Test.YtaanpcoglijohaaGreatGhLW
import Derived.Test.YtaanpcoglijohaaGreatGhKO
namespace Go.Proofs.YtaanpcoglijohaaGreat.Gh
set_option linter.unusedVariables false
open Go
noncomputable section
def GS.tab:GS:=GS.empty.push ⟨tabV,1,false,3⟩
def Map.tab:Map:=Map.empty.ext 0 ⟨0,0,0,1,false,64⟩
theorem TabAt.size {w:World} (h:TabAt w):0 < w.heap.size :=
  World.block_lt_of_cell? w ⟨0,0,none⟩ (h 0 _ (show tabV[0]? = some (.int .u8 0) from rfl))
section
variable {P:Program} {orc:FuncId → Bool}
theorem Ref.pur (hp:(P.funcs[purF]?).isSome = true) (vs:List Value) (G:GS):Ref (pur vs G) ((evL P orc).cl purF vs G):=fun r hr=>by
  rw [evL_cl]
  obtain ⟨v,G'⟩:=r
  obtain ⟨n,o,rfl,_⟩:=pur_some hr
  have h3:Nat.beq purF purF = true:=by simp
  unfold clO isPur purs
  simp only [List.isEmpty_cons,Bool.false_and,Bool.false_eq_true,if_false,h3,hp,Bool.true_or,Bool.and_self,if_true]
  exact hr
theorem Ref.srt (hp:(P.funcs[sortF]?).isSome = true) (hq:Nat.beq sortF purF = false) (vs:List Value) (G:GS):Ref (srt vs G) ((evL P orc).cl sortF vs G):=fun r hr=>by
  rw [evL_cl]
  have h3:Nat.beq sortF sortF = true:=by simp
  have hvs:vs.isEmpty = false:=by
    cases vs with
    | nil=>cases hr
    | cons=>rfl
  unfold clO isPur purs
  simp only [hvs,Bool.false_and,Bool.false_eq_true,if_false,h3,hp,hq,Bool.or_true,Bool.and_self,if_true]
  exact hr
end
end
end Go.Proofs.YtaanpcoglijohaaGreat.Gh
