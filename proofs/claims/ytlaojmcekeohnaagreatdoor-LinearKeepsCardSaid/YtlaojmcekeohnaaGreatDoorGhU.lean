import Derived.Test.YtlaojmcekeohnaaGreatDoorGhZ
namespace Go.Proofs.YtlaojmcekeohnaaGreatDoor.Gh
open Go
noncomputable section
variable {P:Program} {M:Map} {B:Nat} {E:Ev}
theorem sim_zero:SimE P B Ev.zero where
  ex c T G e T' G' h:=by simp [Ev.zero] at h
  sc b c T G e T' G' h:=by simp [Ev.zero] at h
  lp c T G e T' G' h:=by simp [Ev.zero] at h
  cl f vs G v G' h:=by simp [Ev.zero] at h
  clok f vs G v G' h:=by simp [Ev.zero] at h
  rd l vs G v G' h:=by simp [Ev.zero] at h
theorem sim_next (hmix:P.follows .mixedOrders=true) (hE:SimE P B E):SimE P B (E.next P) where
  ex c T G e T' G' h:=sim_ex hE (draws_ok hmix hE) h
  sc b c T G e T' G' h:=sim_sc hE h
  lp c T G e T' G' h:=sim_lp hE h
  cl f vs G v G' h M w args cs hR hv:=sim_cl hE h cs hR hv
  clok f vs G v G' h:=by
    have h:stepCl P E f vs G=some (v,G'):=h
    simp only [stepCl] at h
    split at h
    · rename_i fn hf
      split at h
      · simp at h
      · rename_i hn
        split at h
        · rename_i c hc
          exact ⟨fn,hf,by simpa using hn,by rw [hc]; rfl⟩
        · simp at h
    · simp at h
  rd l vs G v G' h M w r lo args c cs hR hl hlo hv:=sim_rd hE h c cs hR hl hlo hv
def Map.empty:Map:=⟨fun _=>none,fun _=>none,fun _=>none⟩
theorem below_of {G G' :GS} {M' :Map} {w w' :World} (h:Evo G M w G' M' w') (hf:∀ r,r<w.heap.size→¬ foot G M r):Go.RowKit.Below w.heap.size w w' :=
  ⟨h.os,h.tape,h.output,h.size,fun r hr=>h.keep r hr (hf r hr)⟩
end
end Go.Proofs.YtlaojmcekeohnaaGreatDoor.Gh
