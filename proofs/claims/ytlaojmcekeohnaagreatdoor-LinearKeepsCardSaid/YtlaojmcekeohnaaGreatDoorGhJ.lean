import Derived.Test.YtlaojmcekeohnaaGreatDoorGhI
namespace Go.Proofs.YtlaojmcekeohnaaGreatDoor.Gh
open Go
variable {P:Program} {M:Map}
def World.putCells (w:World) (b:Nat) (c:Array Value) (e:TypeId):World:={ w with heap:=w.heap.setIfInBounds b (.cells c e (0,0)) }
theorem putCells_other {w:World} {b r:Nat} {c:Array Value} {e:TypeId} (h:r≠b):(World.putCells w b c e).heap[r]? =w.heap[r]? :=by
  simp [World.putCells,Array.getElem?_setIfInBounds_ne (Ne.symm h)]
theorem putCells_same {w:World} {b:Nat} {c:Array Value} {e:TypeId} (h:b<w.heap.size):(World.putCells w b c e).heap[b]? =some (.cells c e (0,0)):=by
  simp [World.putCells,h]
theorem Rel.write {G:GS} {w:World} {B:Nat} (hR:Rel G M w B) {g:Nat} {x:Blk} {o:GObj} {c c' :Array Value} {e:TypeId} {cs:List Value} {m:Nat}
    (hx:M.mu g=some x) (ho:G.obj g=some o) (hm:o.mode=1) (hc:w.heap[x.blk]? =some (.cells c e (0,0))) (hs:c'.size=c.size) (hl:cs.length=o.cells.length) (hm0:m=1∨m=2)
    (hcs:m=1→∀ (i:Nat) (v:Value),cs[i]? =some v→∃ u,c'[x.off+i]? =some u∧V M v u) :
    Rel (G.put g { o with cells:=cs,mode:=m }) M (World.putCells w x.blk c' e) B∧Evo G M w (G.put g { o with cells:=cs,mode:=m }) M (World.putCells w x.blk c' e):=by
  have hlt:x.blk<w.heap.size:=(Array.getElem?_eq_some_iff.1 hc).1
  have hobj:∀ h,h≠g→(G.put g { o with cells:=cs,mode:=m }).obj h=G.obj h:=fun h hh=>by rw [GS.obj_put,if_neg hh]
  have hobjs:(G.put g { o with cells:=cs,mode:=m }).obj g=some { o with cells:=cs,mode:=m }:=by rw [GS.obj_put,if_pos rfl]
  have hsize:(World.putCells w x.blk c' e).heap.size=w.heap.size:=by simp [World.putCells]
  have hb0:=hR.blk g x o hx ho
  have hown:=hb0.own hm
  have hsep:∀ h y p,h≠g→M.mu h=some y→G.obj h=some p→p.mode≠2→y.blk≠x.blk:=by
    intro h y p hh hy hp hm2
    by_cases h1:p.mode=1
    · exact fun e=>hh (hR.apart h g y x p o hy hx hp ho h1 hm e)
    · have:=(hR.blk h y p hy hp).ro h1 hm2
      have:=hown.1
      omega
  refine ⟨⟨by rw [hsize]; exact hR.size,fun h y p hy hp=> ?_,?_,hR.nx,fun l r hl=> ?_,hR.lpinj,fun l r hl=>by obtain ⟨h1,p,h2,h3⟩:=hR.mp l r hl; obtain ⟨es,ck,h4⟩:=h3.obj; exact ⟨h1,p,h2,h3.keep (putCells_other fun he=>by rw [he,hc] at h4; cases h4)⟩,hR.mpinj,hR.mplp,fun h hh=>by rw [hobj h (fun e=>by have:=hR.wf h hh; rw [e,ho] at this; cases this)]; exact hR.wf h hh,fun h p hp h3=>by
    by_cases e:h=g
    · rw [e,hobjs] at hp; cases hp; rcases hm0 with rfl | rfl<;>simp at h3
    · rw [hobj h e] at hp; exact (hR.gl h p hp h3).keep fun r hr=>putCells_other (by have:=hown.1; omega)⟩,⟨.refl M,by rw [hsize]; exact Nat.le_refl _,fun r hr hf=> ?_,?_,rfl,rfl,rfl,Nat.le_refl _,fun h _ hn=>⟨hn,hobj h (fun e=>by rw [e,hx] at hn; cases hn)⟩,fun h _ hn=>by rw [hobj h (fun e=>by rw [e,ho] at hn; cases hn)]; exact hn⟩⟩
  · by_cases hh:h=g
    · subst hh
      obtain rfl:y=x:=by rw [hx] at hy; exact (Option.some.inj hy).symm
      rw [hobjs] at hp; obtain rfl:=Option.some.inj hp
      refine ⟨hb0.esz,hb0.opn,by rw [hb0.len]; exact hl.symm,fun hm2 i v hv=> ?_,fun _=> ?_,fun h0=> ?_⟩
      · have hm1:m=1:=by rcases hm0 with h | h; exact h; exact absurd h hm2
        obtain ⟨u,h1,h2⟩:=hcs hm1 i v hv
        exact ⟨u,by simp only [World.cell?,putCells_same hlt]; simpa using h1,h2⟩
      · obtain ⟨hB,c0,e0,h1,h2⟩:=hown
        rw [hc] at h1
        simp only [Option.some.injEq,Obj.cells.injEq] at h1
        exact ⟨hB,c',e,putCells_same hlt,by rw [hs,h1.1]; exact h2⟩
      · exact fun h2=>by rcases hm0 with h | h; exact absurd h h0; exact absurd h h2
    · rw [hobj h hh] at hp
      have hb:=hR.blk h y p hy hp
      refine ⟨hb.esz,hb.opn,hb.len,fun hm2=> ?_,fun h1=> ?_,hb.ro⟩
      · exact cells_mono (.refl M) (hb.cells hm2) fun a u hau hab=>heap_cell (by rw [hab]; exact putCells_other (hsep h y p hh hy hp hm2)) hau
      · obtain ⟨hB,c0,e0,h3,h4⟩:=hb.own h1
        exact ⟨hB,c0,e0,by rw [putCells_other (hsep h y p hh hy hp (by omega))]; exact h3,h4⟩
  · intro h h' y y' p p' hy hy' hp hp' h1 h1' he
    have conv:∀ k q,(G.put g { o with cells:=cs,mode:=m }).obj k=some q→q.mode=1→∃ q0,G.obj k=some q0∧q0.mode=1:=by
      intro k q hq hq1
      by_cases hk:k=g
      · subst hk; exact ⟨o,ho,hm⟩
      · rw [hobj k hk] at hq; exact ⟨q,hq,hq1⟩
    obtain ⟨q0,h3,h4⟩:=conv h p hp h1
    obtain ⟨q1,h5,h6⟩:=conv h' p' hp' h1'
    exact hR.apart h h' y y' q0 q1 hy hy' h3 h5 h4 h6 he
  · obtain ⟨h1,p,h2,h3,lo,h4,h5⟩:=hR.lp l r hl
    refine ⟨h1,p,h2,h3,lo,?_,h5⟩
    have hne:r≠x.blk:=fun he=>by rw [he,hc] at h4; cases h4
    rw [putCells_other hne]; exact h4
  · exact putCells_other fun he=>hf (.inl ⟨g,x,o,hx,ho,hm,he.symm⟩)
  · rintro r (⟨h,y,p,hy,hp,h1,rfl⟩ | ⟨l,hl⟩)
    · by_cases hh:h=g
      · subst hh
        obtain rfl:y=x:=by rw [hx] at hy; exact (Option.some.inj hy).symm
        exact .inl (.inl ⟨h,y,o,hx,ho,hm,rfl⟩)
      · rw [hobj h hh] at hp
        exact .inl (.inl ⟨h,y,p,hy,hp,h1,rfl⟩)
    · exact .inl (.inr ⟨l,hl⟩)
end Go.Proofs.YtlaojmcekeohnaaGreatDoor.Gh
