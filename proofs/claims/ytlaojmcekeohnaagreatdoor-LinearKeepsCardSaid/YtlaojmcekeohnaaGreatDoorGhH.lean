import Derived.Test.YtlaojmcekeohnaaGreatDoorGhG
namespace Go.Proofs.YtlaojmcekeohnaaGreatDoor.Gh
open Go
variable {P:Program} {M:Map}
theorem optRel {T:List Value} {a:Act} (hT:Vs M T a.tmps.toList) {x:Option Operand} (h:okO x=true) :
    (∀ v,x.map (ev T)=some v→∃ u,x.map a.eval=some u∧V M v u)∧(x.map (ev T)=none→x.map a.eval=none):=by
  cases x with
  | none=>exact ⟨fun v hv=>by simp at hv,fun _=>rfl⟩
  | some x=>exact ⟨fun v hv=>⟨_,rfl,by simp at hv; subst hv; exact ev_rel hT h⟩,fun h=>by simp at h⟩
theorem gSlice_run {G:GS} {w:World} {B:Nat} {t:TypeId} {x u r:Value} {lo hi mx lo' hi' mx' :Option Value} (hR:Rel G M w B) (hv:V M x u) (h:gSlice P t x lo hi mx G=some r)
    (r1:(∀ a,lo=some a→∃ b,lo' =some b∧V M a b)∧(lo=none→lo' =none)) (r2:(∀ a,hi=some a→∃ b,hi' =some b∧V M a b)∧(hi=none→hi' =none))
    (r3:(∀ a,mx=some a→∃ b,mx' =some b∧V M a b)∧(mx=none→mx' =none)) :
    ∃ r',V M r r' ∧(Instr.sliceAt t u lo' hi' mx').run P w= .ok r' w:=by
  unfold gSlice at h
  split at h
  · rename_i e hu
    split at h
    · rename_i m hm
      split at h
      · simp at h
      · rename_i hnn
        split at h
        · rename_i hh hhi
          split at h
          · rename_i ll hlo
            split at h
            · rename_i s hs
              simp only [Option.some.injEq] at h; subst h
              obtain ⟨_,_,rfl⟩:=V_nilSlice.1 hv
              obtain ⟨hrun,hl,hmc,hmcap⟩:=run_bounds (P:=P) (sl:=true) (cr:=0) hm hhi hlo (fun ⟨e1,e2⟩=>by
                cases mx with
                | none=>exact e2 rfl
                | some v=>exact hnn v e1 rfl) (Nat.le_refl 0) r1.1 r1.2 r2.1 r2.2 r3.1 r3.2 w
              refine ⟨_,V_nilSlice.2 ⟨rfl,rfl,rfl⟩,?_⟩
              have hm0:m=0:=by omega
              have hh0:hh=0:=by
                rcases bound_run hhi r2.1 r2.2 with ⟨_,_,h⟩ | ⟨_,i,_,_,h0,h1,h⟩<;>omega
              have hl0:ll=0:=by omega
              subst hm0; subst hh0; subst hl0
              have hcond:(if mx=none then 0 else 0)=0:=by split<;>rfl
              rw [hcond] at hrun
              simp only [Instr.sliceAt,Instr.slice,Sem.run_bind,run_und hu,Result.andThen_ok,hrun,if_true,run_size hs,Sem.run_pure,Nat.sub_zero]
            · simp at h
          · simp at h
        · simp at h
    · simp at h
  · rename_i e a len cap hu
    split at h
    · rename_i s o hs ho
      split at h
      · simp at h
      · rename_i hopn
        split at h
        · rename_i m hm
          split at h
          · simp at h
          · rename_i hnn
            split at h
            · rename_i hh hhi
              split at h
              · rename_i ll hlo
                split at h
                · rename_i hle
                  simp only [Option.some.injEq] at h; subst h
                  obtain ⟨y,b,cr,hy,rfl,hlc,hcr,hb⟩:=V_slice.1 hv
                  have hcap:cap≤cr:=by rcases hcr with h | h<;>omega
                  obtain ⟨hrun,hl,hmc,hmcap⟩:=run_bounds (P:=P) (sl:=true) (cr:=cr) hm hhi hlo (fun ⟨e1,e2⟩=>by
                    cases mx with
                    | none=>exact e2 rfl
                    | some v=>exact hnn v e1 rfl) hcap r1.1 r1.2 r2.1 r2.2 r3.1 r3.2 w
                  have hbk:=hR.blk _ _ _ hy ho
                  have hrm:∀ m',m' ≤cr→(Instr.sliceAt t (.slice (some b) len cr) lo' hi' mx').run P w= .ok (.slice (if (if mx=none then cr else m)=ll then some b else some (b.add (ll*s))) (hh - ll) ((if mx=none then cr else m) - ll)) w:=by
                    intro _ _
                    simp only [Instr.sliceAt,Instr.slice,Sem.run_bind,run_und hu,Result.andThen_ok,hrun,run_size hs,Sem.run_pure,Option.map_some]
                  have hadd:b.block=y.blk→b.spot=none→b.off=y.off+a.off→b.add (ll*s)=⟨y.blk,y.off+(a.off+ll*s),none⟩:=by
                    intro h1 h2 h3
                    obtain ⟨bb,bo,bs⟩:=b
                    simp only at h1 h2 h3
                    subst h1; subst h2; subst h3
                    rw [addr_add,Nat.add_assoc]
                  generalize hmr:(if mx=none then cr else m)=mr at hrm hrun
                  have hmrle:mr≤cr∧m≤mr:=by
                    rw [← hmr]; split
                    · rename_i hn; have:=hmc hn; omega
                    · omega
                  refine ⟨.slice (some (if mr=ll then b else b.add (ll*s))) (hh - ll) (mr - ll),V_slice.2 ⟨y,_,mr - ll,hy,rfl,by omega,?_,?_⟩,?_⟩
                  · by_cases hmx:mx=none
                    · have e1:=hmc hmx
                      rw [if_pos hmx] at hmr
                      subst hmr
                      rcases hcr with hcr | ⟨h1,h2,h3⟩
                      · exact .inl (by omega)
                      · refine .inr ⟨h1,?_,by omega⟩
                        have hes:s=y.esz:=by
                          rw [hbk.opn] at h1
                          simp [h1] at hopn
                          rw [hopn,hbk.esz]
                        rw [hes,e1]
                        have hlc2:ll≤cap:=by omega
                        have:ll*y.esz+(cap - ll)*y.esz=cap*y.esz:=by rw [← Nat.add_mul]; congr 1; omega
                        simp only; omega
                    · rw [if_neg hmx] at hmr
                      exact .inl (by omega)
                  · intro hne
                    have hne2:mr≠ll:=by omega
                    rw [if_neg hne2]
                    have hcr0:cr≠0:=by omega
                    have hbb:=hb hcr0
                    exact hadd (by rw [hbb]) (by rw [hbb]) (by rw [hbb])
                  · rw [hrm 0 (Nat.zero_le _)]
                    split<;>rfl
                · simp at h
              · simp at h
            · simp at h
        · simp at h
    · simp at h
  · rename_i n e a hu
    split at h
    · rename_i s hs
      split at h
      · rename_i m hm
        split at h
        · simp at h
        · rename_i hnn
          split at h
          · rename_i hh hhi
            split at h
            · rename_i ll hlo
              split at h
              · rename_i hle
                simp only [Option.some.injEq] at h; subst h
                obtain ⟨y,hy,rfl⟩:=V_ptr.1 hv
                obtain ⟨hrun,hl,hmc,hmcap⟩:=run_bounds (P:=P) (sl:=false) (cr:=n) hm hhi hlo (fun ⟨e1,e2⟩=>by
                    cases mx with
                    | none=>exact e2 rfl
                    | some v=>exact hnn v e1 rfl) (Nat.le_refl _) r1.1 r1.2 r2.1 r2.2 r3.1 r3.2 w
                have hmr:(if mx=none then n else m)=m:=by
                  split
                  · rename_i hn; exact (hmc hn).symm
                  · rfl
                rw [hmr] at hrun
                refine ⟨.slice (some (if m=ll then ⟨y.blk,y.off+a.off,none⟩ else ⟨y.blk,y.off+(a.off+ll*s),none⟩)) (hh - ll) (m - ll),V_slice.2 ⟨y,_,m - ll,hy,rfl,by omega,.inl rfl,?_⟩,?_⟩
                · intro hne
                  have hne2:m≠ll:=by omega
                  rw [if_neg hne2]
                · simp only [Instr.sliceAt,Instr.sureAddr,Sem.run_bind,run_und hu,Result.andThen_ok,hrun,run_size hs,Sem.run_pure,addr_add,Nat.add_assoc]
              · simp at h
            · simp at h
          · simp at h
      · simp at h
    · simp at h
  · simp at h
theorem read_sim {G:GS} {w:World} {B:Nat} {T:List Value} {a:Act} (hR:Rel G M w B) (hT:Vs M T a.tmps.toList) {o:Oper} {v:Value} (hok:opOk o.op=true) (h:gRead P T o.op G=some v) :
    ∃ u,V M v u∧(execOp a.eval o).run P w= .ok (.value u) w:=by
  obtain ⟨dst,op,ty,pos,after,guard⟩:=o
  cases op<;>simp only [gRead,opOk,Bool.and_eq_true,reduceCtorEq] at h hok
  case load t x =>
    obtain ⟨u,h1,h2,_⟩:=gLoad_run hR (ev_rel hT hok) h
    exact ⟨u,h1,by simp only [execOp,Sem.run_bind,h2,Result.andThen_ok,Sem.run_pure]⟩
  case slice t x lo hi mx =>
    obtain ⟨u,h1,h2⟩:=gSlice_run hR (ev_rel hT hok.1.1.1) h (optRel hT hok.1.1.2) (optRel hT hok.1.2) (optRel hT hok.2)
    exact ⟨u,h1,by simp only [execOp,Sem.run_bind,h2,Result.andThen_ok,Sem.run_pure]⟩
def Map.ext (M:Map) (g:Nat) (x:Blk):Map:=⟨fun h=>if h=g then some x else M.mu h,M.lp,M.mp⟩
theorem Map.ext_mu (M:Map) (g h:Nat) (x:Blk):(M.ext g x).mu h=if h=g then some x else M.mu h:=rfl
theorem Map.le_ext {g:Nat} {x:Blk} (h:M.mu g=none):M.Le (M.ext g x) :=
  ⟨fun g' y hy=>by rw [Map.ext_mu,if_neg (fun e=>by rw [e,h] at hy; cases hy)]; exact hy,fun _ _ h=>h,fun _ _ h=>h⟩
theorem GS.obj_push (G:GS) (o:GObj) (g:Nat):(G.push o).obj g=if g=G.nx then some o else G.obj g:=tget_tset _ _ _ _
theorem GS.obj_put (G:GS) (o:GObj) (g h:Nat):(G.put g o).obj h=if h=g then some o else G.obj h:=tget_tset _ _ _ _
theorem cells_mono {M' :Map} {w w' :World} {x:Blk} {cs:List Value} (hM:M.Le M') (h:CellsAt M w x cs) (hw:∀ a u,w.cell? a=some u→a.block=x.blk→w'.cell? a=some u):CellsAt M' w' x cs :=
  fun i v hv=>let ⟨u,h1,h2⟩:=h i v hv; ⟨u,hw _ _ h1 rfl,h2.mono hM⟩
theorem heap_cell {w w' :World} {a:Addr} {u:Value} (h:w'.heap[a.block]? =w.heap[a.block]?) (hc:w.cell? a=some u):w'.cell? a=some u:=by
  unfold World.cell? at hc ⊢; rw [h]; exact hc
theorem Rel.push {G:GS} {w:World} {B:Nat} (hR:Rel G M w B) {cells:List Value} {c:Array Value} {e:TypeId} {esz ex:Nat} {opn:Bool}
    (hc:∀ (i:Nat) (v:Value),cells[i]? =some v→∃ u,c[i]? =some u∧V M v u) (hs:cells.length+ex*esz≤c.size) :
    let M' :=M.ext G.nx ⟨w.heap.size,0,ex,esz,opn,cells.length⟩
    let w' :=w.alloc (.cells c e)
    Rel (G.push ⟨cells,esz,opn,1⟩) M' w' B∧Evo G M w (G.push ⟨cells,esz,opn,1⟩) M' w' ∧M'.mu G.nx=some ⟨w.heap.size,0,ex,esz,opn,cells.length⟩:=by
  intro M' w'
  have hnone:M.mu G.nx=none:=by
    cases hm:M.mu G.nx with
    | none=>rfl
    | some x=>exact absurd (hR.nx _ _ hm) (Nat.lt_irrefl _)
  have hM:M.Le M' :=Map.le_ext hnone
  have hold:∀ r,r<w.heap.size→w'.heap[r]? =w.heap[r]? :=fun r hr=>Go.RowKit.Below.heap_alloc w _ r hr
  have hnew:w'.heap[w.heap.size]? =some (.cells c e (0,0)):=World.alloc_heap_new w _
  have hcell:∀ a u,w.cell? a=some u→w'.cell? a=some u:=fun a u h=>heap_cell (hold _ (World.block_lt_of_cell? w a h)) h
  have hlt:∀ g x,M.mu g=some x→g≠G.nx:=fun g x hx e=>by rw [e,hnone] at hx; cases hx
  have hmu:∀ g x,M'.mu g=some x→(g=G.nx∧x=⟨w.heap.size,0,ex,esz,opn,cells.length⟩)∨(g≠G.nx∧M.mu g=some x):=by
    intro g x hx
    rw [Map.ext_mu] at hx
    split at hx
    · rename_i he; exact .inl ⟨he,(Option.some.inj hx).symm⟩
    · rename_i he; exact .inr ⟨he,hx⟩
  have hobj:∀ g,g≠G.nx→(G.push ⟨cells,esz,opn,1⟩).obj g=G.obj g:=fun g hg=>by rw [GS.obj_push,if_neg hg]
  have hobjn:(G.push ⟨cells,esz,opn,1⟩).obj G.nx=some ⟨cells,esz,opn,1⟩:=by rw [GS.obj_push,if_pos rfl]
  have hownlt:∀ g x o,M.mu g=some x→G.obj g=some o→o.mode=1→x.blk<w.heap.size:=by
    intro g x o hx ho hm
    have hb:=hR.blk g x o hx ho
    obtain ⟨_,c',e',h1,_⟩:=hb.own hm
    exact (Array.getElem?_eq_some_iff.1 h1).1
  refine ⟨⟨?_,?_,?_,?_,?_,?_,fun l r hl=>let ⟨h1,p,h2,h3⟩:=hR.mp l r hl; ⟨h1,p,h2,h3.keep (hold _ h3.lt)⟩,hR.mpinj,hR.mplp,fun g hg=>by have hg' :G.nx+1≤g:=hg; rw [hobj g (by omega)]; exact hR.wf g (by omega),fun g o ho hm=>by
    by_cases e:g=G.nx
    · rw [e,hobjn] at ho; cases ho; simp at hm
    · rw [hobj g e] at ho
      exact (hR.gl g o ho hm).keep fun r hr=>hold r (Nat.lt_of_lt_of_le hr hR.size)⟩,⟨hM,?_,?_,?_,rfl,rfl,rfl,?_,fun g hg hgn=>⟨by rw [Map.ext_mu,if_neg (by omega)]; exact hgn,hobj g (by omega)⟩,fun g hg hn=>by rw [hobj g (by omega)]; exact hn⟩,by rw [Map.ext_mu,if_pos rfl]⟩
  · exact Nat.le_trans hR.size (by simp [w'])
  · intro g x o hx ho
    rcases hmu g x hx with ⟨rfl,rfl⟩ | ⟨hg,hx⟩
    · rw [hobjn] at ho; obtain rfl:=Option.some.inj ho
      refine ⟨rfl,rfl,rfl,fun _ i v hv=> ?_,fun _=>⟨hR.size,c,e,hnew,by simpa using hs⟩,fun h=>absurd rfl h⟩
      obtain ⟨u,h1,h2⟩:=hc i v hv
      exact ⟨u,by simp only [World.cell?,hnew,Nat.zero_add]; simpa using h1,h2.mono hM⟩
    · rw [hobj g hg] at ho
      have hb:=hR.blk g x o hx ho
      refine ⟨hb.esz,hb.opn,hb.len,fun hm=>cells_mono hM (hb.cells hm) fun a u h _=>hcell a u h,fun hm=> ?_,hb.ro⟩
      obtain ⟨h1,c',e',h2,h3⟩:=hb.own hm
      exact ⟨h1,c',e',by rw [hold _ (hownlt g x o hx ho hm)]; exact h2,h3⟩
  · intro g g' x x' o o' hx hx' ho ho' hm hm' he
    rcases hmu g x hx with ⟨rfl,rfl⟩ | ⟨hg,hx⟩<;>rcases hmu g' x' hx' with ⟨rfl,rfl⟩ | ⟨hg',hx'⟩
    · rfl
    · rw [hobj g' hg'] at ho'
      have:=hownlt g' x' o' hx' ho' hm'
      simp only at he; omega
    · rw [hobj g hg] at ho
      have:=hownlt g x o hx ho hm
      simp only at he; omega
    · rw [hobj g hg] at ho
      rw [hobj g' hg'] at ho'
      exact hR.apart g g' x x' o o' hx hx' ho ho' hm hm' he
  · intro g x hx
    show g<G.nx+1
    rcases hmu g x hx with ⟨rfl,rfl⟩ | ⟨hg,hx⟩
    · omega
    · have:=hR.nx g x hx; omega
  · intro l r hl
    obtain ⟨h1,p,h2,h3,lo,h4,h5,h6,h7,h8⟩:=hR.lp l r hl
    exact ⟨h1,p,h2,h3,lo,by rw [hold _ (Array.getElem?_eq_some_iff.1 h4).1]; exact h4,h5,h6,h7.mono hM,h8⟩
  · exact hR.lpinj
  · simp [w']
  · exact fun r hr _=>hold r hr
  · rintro r (⟨g,x,o,hx,ho,hm,rfl⟩ | ⟨l,hl⟩)
    · rcases hmu g x hx with ⟨rfl,rfl⟩ | ⟨hg,hx⟩
      · exact .inr (Nat.le_refl _)
      · rw [hobj g hg] at ho
        exact .inl (.inl ⟨g,x,o,hx,ho,hm,rfl⟩)
    · exact .inl (.inr ⟨l,hl⟩)
  · show G.nx≤G.nx+1; omega
end Go.Proofs.YtlaojmcekeohnaaGreatDoor.Gh
