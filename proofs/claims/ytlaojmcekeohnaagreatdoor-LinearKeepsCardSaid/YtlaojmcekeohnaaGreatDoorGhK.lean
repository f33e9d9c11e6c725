import Derived.Test.YtlaojmcekeohnaaGreatDoorGhJ
namespace Go.Proofs.YtlaojmcekeohnaaGreatDoor.Gh
open Go
variable {P:Program} {M:Map}
theorem cell_of_heap {w:World} {b k:Nat} {c:Array Value} {e:TypeId} {f:Nat×Nat} (h:w.heap[b]? =some (.cells c e f)):w.cell? ⟨b,k,none⟩=c[k]? :=by
  simp [World.cell?,h]
theorem wrN_run {G G' :GS} {w:World} {B g off:Nat} {x:Blk} {vs us:List Value} (hR:Rel G M w B) (hx:M.mu g=some x) (h:wrN G g off vs=some G') (hv:Vs M vs us) :
    ∃ w',(storeCells ⟨x.blk,x.off+off,none⟩ us).run P w= .ok () w' ∧Rel G' M w' B∧Evo G M w G' M w' :=by
  unfold wrN at h
  split at h
  · rename_i o ho
    split at h
    · rename_i hm
      simp only [Bool.and_eq_true,decide_eq_true_eq] at hm
      split at h
      · rename_i cs hcs
        simp only [Option.some.injEq] at h
        obtain ⟨h1,h2,h3⟩:=splice_spec hcs
        have hb:=hR.blk g x o hx ho
        obtain ⟨hB,c0,e,hc0,hsz⟩:=hb.own hm.1
        have hlen:=lrel_length hv
        have hxl:=hb.len
        have huone:us.all one=true:=by
          refine List.all_eq_true.2 fun u hu=> ?_
          obtain ⟨i,hi,rfl⟩:=List.getElem_of_mem hu
          have hiv:i<vs.length:=by omega
          obtain ⟨y,hy,hV⟩:=(lrel_iff.1 hv).2 i vs[i] (by simp [hiv])
          simp only [List.getElem?_eq_getElem hi,Option.some.injEq] at hy
          rw [hy,← V_one hV]
          exact List.all_eq_true.1 hm.2 _ (List.getElem_mem hiv)
        have hrun:=run_storeMany (P:=P) (off:=x.off+off) us 0 w c0 hc0 (by omega) huone
        have hw:=hR.write (c' :=setMany c0 (x.off+off+0) us) (m:=1) hx ho hm.1 hc0 (setMany_size _ _ _) h1 (.inl rfl) (by
          intro _ i v hv1
          rw [h3 i] at hv1
          rw [setMany_get us c0 _ _ (by omega)]
          by_cases hcnd:off≤i∧i<off+vs.length
          · rw [if_pos hcnd] at hv1
            rw [if_pos (by omega)]
            obtain ⟨u,hu,hV⟩:=(lrel_iff.1 hv).2 _ v hv1
            exact ⟨u,by rw [← hu]; congr 1; omega,hV⟩
          · rw [if_neg hcnd] at hv1
            rw [if_neg (by omega)]
            obtain ⟨u,hu,hV⟩:=hb.cells (by rw [hm.1]; omega) i v hv1
            rw [cell_of_heap hc0] at hu
            exact ⟨u,hu,hV⟩)
        have hG:G.put g { o with cells:=cs,mode:=1 }=G' :=by
          rw [← h]; obtain ⟨a,b,c,d⟩:=o; simp only at hm; rw [hm.1]
        rw [hG] at hw
        exact ⟨_,hrun,hw.1,hw.2⟩
      · simp at h
    · simp at h
  · simp at h
theorem gStore_run {G G' :GS} {w:World} {B:Nat} {t:TypeId} {p q v u:Value} (hR:Rel G M w B) (hp:V M p q) (hv:V M v u) (h:gStore P t p v G=some G') :
    ∃ w',(Instr.storeAt t q u).run P w= .ok () w' ∧Rel G' M w' B∧Evo G M w G' M w' :=by
  unfold gStore at h
  split at h
  · rename_i a s hs
    split at h
    · rename_i hsz
      obtain ⟨x,hx,rfl⟩:=V_ptr.1 hp
      have hc:=V_cells hv
      obtain ⟨w',h1,h2,h3⟩:=wrN_run (P:=P) hR hx h hc
      refine ⟨w',?_,h2,h3⟩
      have hus:u.cells.size=s:=by rw [← hsz]; have:=lrel_length hc; simpa using this.symm
      have hne:¬ (u.cells.size≠s):=fun h=>h hus
      simp only [Instr.storeAt,Instr.sureAddr,storeVar,Sem.run_bind,Sem.run_pure,Result.andThen_ok,run_size hs,if_neg hne,h1]
    · simp at h
  · simp at h
theorem elems_run {G:GS} {w:World} {B s n len cap:Nat} {a:Option Addr} {u:Value} {l:List Value} (hR:Rel G M w B) (h:elems s n (.slice a len cap) G=some l) (hn:n≤len) (hv:V M (.slice a len cap) u) :
    ∃ us,(∀ w2:World,w2.heap=w.heap→(Builtin.firstCells s n u).run P w2= .ok ⟨us⟩ w2)∧Vs M l us∧us.length=n*s:=by
  unfold elems at h
  cases a with
  | none =>
    simp only [Option.some.injEq] at h; subst h
    obtain ⟨rfl,_,rfl⟩:=V_nilSlice.1 hv
    obtain rfl:n=0:=by omega
    exact ⟨[],fun _ _=>rfl,trivial,by simp⟩
  | some a =>
    simp only at h
    obtain ⟨x,b,cr,hx,rfl,hlc,hcr,hb⟩:=V_slice.1 hv
    by_cases h0:n*s=0
    · rw [h0] at h
      have hl:l=[]:=by
        unfold rdN at h
        split at h
        · split at h
          · simp at h
          · simp only [takeN_zero,Option.some.injEq] at h; exact h.symm
        · simp at h
      subst hl
      exact ⟨[],fun _ _=>by simp only [Builtin.firstCells,h0,loadCells,loadCellsFrom,Sem.run_pure],trivial,by simp [h0]⟩
    · have hn0:n≠0:=fun e=>h0 (by rw [e]; simp)
      have hcr0:cr≠0:=by rcases hcr with h | h<;>omega
      obtain rfl:=hb hcr0
      obtain ⟨us,h1,h2,h3⟩:=rd_run hR hx h
      refine ⟨us,fun w2 hw2=> ?_,h1,h2⟩
      have h3' :∀ (j:Nat) (u:Value),us[j]? =some u→w2.cell? ⟨x.blk,x.off+a.off+j,none⟩=some u:=fun j u hu=>by
        have:=h3 j u hu
        simp only [World.cell?,hw2] at this ⊢
        exact this
      have:=run_loadN (P:=P) h3'
      rw [h2] at this
      simp only [Builtin.firstCells,this]
theorem elems_zero {s:Nat} {x:Value} {G:GS} {l:List Value} (h:elems s 0 x G=some l):l=[]:=by
  unfold elems at h
  split at h
  · rw [Nat.zero_mul] at h
    unfold rdN at h
    split at h
    · split at h
      · simp at h
      · simp only [takeN_zero,Option.some.injEq] at h; exact h.symm
    · simp at h
  · simp only [Option.some.injEq] at h; exact h.symm
  · simp at h
theorem gCopy_run {G G' :GS} {w:World} {B:Nat} {td ty:TypeId} {d d' s s' r:Value} {ts:Array TypeId} {as:Array Value} (hR:Rel G M w B) (hd:V M d d') (hs:V M s s') (h:gCopy P td d s G=some (r,G'))
    (ht:ts[0]? =some td) (ha0:as[0]? =some d') (ha1:as[1]? =some s') :
    ∃ r' w',V M r r' ∧(Builtin.copy_ ts ty as).run P w= .ok r' w' ∧Rel G' M w' B∧Evo G M w G' M w' :=by
  unfold gCopy at h
  split at h
  · rename_i e hu
    split at h
    · rename_i z base dl dc sb sl sc hz
      split at h
      · rename_i new hnew
        obtain ⟨us,hus',hvs,_⟩:=elems_run (P:=P) hR hnew (Nat.min_le_left _ _) hs
        have hus:=hus' w rfl
        obtain ⟨cr',b',rfl⟩:∃ cr' b',s' = .slice b' sl cr' :=by
          cases sb with
          | none=>obtain ⟨rfl,rfl,rfl⟩:=V_nilSlice.1 hs; exact ⟨0,none,rfl⟩
          | some sb=>obtain ⟨x,b,cr,hx,rfl,_⟩:=V_slice.1 hs; exact ⟨cr,some b,rfl⟩
        split at h
        · simp only [Option.some.injEq,Prod.mk.injEq] at h
          obtain ⟨rfl,rfl⟩:=h
          obtain ⟨rfl,rfl,rfl⟩:=V_nilSlice.1 hd
          exact ⟨_,w,V_int.2 rfl,by simp only [Builtin.copy_,ht,ha0,ha1,Sem.run_bind,run_und hu,Result.andThen_ok,Builtin.lenOf,Sem.run_pure,run_size hz,hus,goInt],hR,.refl _ _ _⟩
        · rename_i a
          obtain ⟨x,b,cr,hx,rfl,hlc,hcr,hb⟩:=V_slice.1 hd
          split at h
          · rename_i hnil
            simp only [Option.some.injEq,Prod.mk.injEq] at h
            obtain ⟨rfl,rfl⟩:=h
            subst hnil
            obtain rfl:us=[]:=by cases us with | nil=>rfl | cons _ _=>exact hvs.elim
            exact ⟨_,w,V_int.2 rfl,by simp only [Builtin.copy_,ht,ha0,ha1,Sem.run_bind,run_und hu,Result.andThen_ok,Builtin.lenOf,Sem.run_pure,run_size hz,hus,storeCells,goInt],hR,.refl _ _ _⟩
          · rename_i hnil
            split at h
            · rename_i G2 hw
              simp only [Option.some.injEq,Prod.mk.injEq] at h
              obtain ⟨rfl,rfl⟩:=h
              have hdl:dl≠0:=by
                intro e
                apply hnil
                subst e
                have hm0:Nat.min sl 0=0:=Nat.min_eq_right (Nat.zero_le sl)
                rw [hm0] at hnew
                exact elems_zero hnew
              have hcr0:cr≠0:=by rcases hcr with h | h<;>omega
              obtain rfl:=hb hcr0
              obtain ⟨w',h1,h2,h3⟩:=wrN_run (P:=P) hR hx hw hvs
              refine ⟨_,w',V_int.2 rfl,?_,h2,h3⟩
              simp only [Builtin.copy_,ht,ha0,ha1,Sem.run_bind,run_und hu,Result.andThen_ok,Builtin.lenOf,Sem.run_pure,run_size hz,hus,h1,goInt]
            · simp at h
      · simp at h
    · simp at h
  · simp at h
end Go.Proofs.YtlaojmcekeohnaaGreatDoor.Gh
