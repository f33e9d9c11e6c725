import Derived.Test.YtedmgpchggogpaaGreatGhPT
namespace Go.Proofs.YtedmgpchggogpaaGreat.Gh
open Go
set_option linter.unusedVariables false
set_option linter.unusedSimpArgs false
theorem Wp.step {β:Type} {x:Option (Value × GS)} {v:Value} {P:GS → Prop} {K:Value → GS → Option β} {R:β → Prop} (h:∃ G',x = some (v,G') ∧ P G') (k:∀ G',P G' → Wp (K v G') R):Wp (Gh.bS x K) R:=by
  obtain ⟨G',rfl,hp⟩:=h; exact k G' hp
theorem Wp.stepW {β:Type} {x:Option (Value × GS)} {P:Value × GS → Prop} {K:Value → GS → Option β} {R:β → Prop} (h:Wp x P) (k:∀ v G',P (v,G') → Wp (K v G') R):Wp (Gh.bS x K) R:=by
  obtain ⟨⟨v,G'⟩,rfl,hp⟩:=h; exact k v G' hp
@[simp] theorem loadA_room (n b o k:Nat) (G:GS):loadA n b o (G.room k) = loadA n b o G:=Eq.trans rfl rfl
@[simp] theorem bS_id (x:Option (Value × GS)):(Gh.bS x fun y G=>some (y,G)) = x:=by cases x <;> rfl
@[simp] theorem sameO_func (f:Fn) (a b:List Value):sameO (some (.func f ⟨a⟩ ⟨b⟩)) (.func f ⟨a⟩ ⟨b⟩) = ((a.all fun x=>sameD 3 x x) && b.all fun x=>sameD 3 x x):=by
  simp only [sameO,same,sameD,listD_all,beq_self_eq_true,Bool.true_and]
@[simp] theorem sameD_func (n:Nat) (f:Fn) (a b:List Value):sameD (n + 1) (.func f ⟨a⟩ ⟨b⟩) (.func f ⟨a⟩ ⟨b⟩) = ((a.all fun x=>sameD n x x) && b.all fun x=>sameD n x x):=by
  simp only [sameD,listD_all,beq_self_eq_true,Bool.true_and]
section
variable {α:Type} {e:RowE α} {A B G G':GS} {ob l:Nat} {r:Lp} {L:List α}
end
end Go.Proofs.YtedmgpchggogpaaGreat.Gh
