import Derived.Test.YtphandknhnkhfaaGreatGhPT
namespace Go.Proofs.YtphandknhnkhfaaGreat.Gh
open Go
set_option linter.unusedVariables false
set_option linter.unusedSimpArgs false
theorem Wp.step {β:Type} {x:Option (Value×GS)} {v:Value} {P:GS→Prop} {K:Value→GS→Option β} {R:β→Prop} (h:∃ G',x=some (v,G')∧P G') (k:∀ G',P G' →Wp (K v G') R):Wp (Gh.bS x K) R:=by
  obtain ⟨G',rfl,hp⟩:=h; exact k G' hp
theorem Wp.Zq {α β:Type} {x:Option (Value×GS)} {f:α→Value} {P:α→GS→Prop} {K:Value→GS→Option β} {R:β→Prop} (h:∃ a G',x=some (f a,G')∧P a G') (k:∀ a G',P a G' →Wp (K (f a) G') R):Wp (Gh.bS x K) R:=by
  obtain ⟨a,G',rfl,hp⟩:=h; exact k a G' hp
@[simp] theorem apH (n b o k:Nat) (G:GS):eI n b o (G.room k)=eI n b o G:=Eq.trans rfl rfl
@[simp] theorem apI (x:Option (Value×GS)):(Gh.bS x fun y G=>some (y,G))=x:=by cases x<;>rfl
@[simp] theorem apJ (f:Fn) (a b:List Value):br (some (.func f ⟨a⟩ ⟨b⟩)) (.func f ⟨a⟩ ⟨b⟩)=((a.all fun x=>cm 3 x x)&&b.all fun x=>cm 3 x x):=by
  simp only [br,same,cm,Ec,beq_self_eq_true,Bool.true_and]
@[simp] theorem apK (n:Nat) (f:Fn) (a b:List Value):cm (n+1) (.func f ⟨a⟩ ⟨b⟩) (.func f ⟨a⟩ ⟨b⟩)=((a.all fun x=>cm n x x)&&b.all fun x=>cm n x x):=by
  simp only [cm,Ec,beq_self_eq_true,Bool.true_and]
section
variable {α:Type} {e:cT α} {A B G G':GS} {ob l:Nat} {r:Lp} {L:List α}
end
end Go.Proofs.YtphandknhnkhfaaGreat.Gh
