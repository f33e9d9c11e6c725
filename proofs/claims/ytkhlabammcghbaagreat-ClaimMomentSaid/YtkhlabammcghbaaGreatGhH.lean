import Derived.Test.YtkhlabammcghbaaGreatGhG
namespace Go.Proofs.YtkhlabammcghbaaGreat.Gh
open Go
variable {P:Program} {M:Map}
theorem Hg {T:List Value} {a:Act} (hT:Vs M T a.tmps.toList) {x:Option Operand} (h:Ay x=true) :
    (∀ v,x.map (ev T)=some v→∃ u,x.map a.eval=some u∧V M v u)∧(x.map (ev T)=none→x.map a.eval=none):=by
  cases x with
  | none=>exact ⟨fun v hv=>by simp at hv,fun _=>rfl⟩
  | some x=>exact ⟨fun v hv=>⟨_,rfl,by simp at hv; subst hv; exact cV hT h⟩,fun h=>by simp at h⟩
theorem Vj {G:GS} {w:World} {B:Nat} {t:TypeId} {x u r:Value} {lo hi mx lo' bG uW:Option Value} (hR:Rel G M w B) (hv:V M x u) (h:iT P t x lo hi mx G=some r)
    (r1:(∀ a,lo=some a→∃ b,lo' =some b∧V M a b)∧(lo=none→lo' =none)) (r2:(∀ a,hi=some a→∃ b,bG =some b∧V M a b)∧(hi=none→bG =none))
    (r3:(∀ a,mx=some a→∃ b,uW =some b∧V M a b)∧(mx=none→uW =none)) :
    ∃ r',V M r r' ∧(Instr.sliceAt t u lo' bG uW).run P w= .ok r' w:=by
  unfold iT at h
  split at h
  · rename_i e hu
    split at h
    · rename_i m hm
      split at h
      · simp at h
      · rename_i AO
        split at h
        · rename_i hh s9
          split at h
          · rename_i ll dT
            split at h
            · rename_i s hs
              simp only [Option.some.injEq] at h; subst h
              obtain ⟨_,_,rfl⟩:=jx.1 hv
              obtain ⟨gT,hl,AP,M4⟩:=Hf (P:=P) (sl:=true) (cr:=0) hm s9 dT (fun ⟨e1,e2⟩=>by
                cases mx with
                | none=>exact e2 rfl
                | some v=>exact AO v e1 rfl) (Nat.le_refl 0) r1.1 r1.2 r2.1 r2.2 r3.1 r3.2 w
              refine ⟨_,jx.2 ⟨rfl,rfl,rfl⟩,?_⟩
              have wz:m=0:=by omega
              have Vk:hh=0:=by
                rcases wy s9 r2.1 r2.2 with ⟨_,_,h⟩ | ⟨_,i,_,_,h0,h1,h⟩<;>omega
              have qy:ll=0:=by omega
              subst wz; subst Vk; subst qy
              have DB:(if mx=none then 0 else 0)=0:=by split<;>rfl
              rw [DB] at gT
              simp only [Instr.sliceAt,Instr.slice,Sem.run_bind,cD hu,Result.andThen_ok,gT,if_true,hQ hs,Sem.run_pure,Nat.sub_zero]
            · simp at h
          · simp at h
        · simp at h
    · simp at h
  · rename_i e a len cap hu
    split at h
    · rename_i s o hs ho
      split at h
      · simp at h
      · rename_i M5
        split at h
        · rename_i m hm
          split at h
          · simp at h
          · rename_i AO
            split at h
            · rename_i hh s9
              split at h
              · rename_i ll dT
                split at h
                · rename_i hle
                  simp only [Option.some.injEq] at h; subst h
                  obtain ⟨y,b,cr,hy,rfl,mX,hY,hb⟩:=gC.1 hv
                  have Hi:cap≤cr:=by rcases hY with h | h<;>omega
                  obtain ⟨gT,hl,AP,M4⟩:=Hf (P:=P) (sl:=true) (cr:=cr) hm s9 dT (fun ⟨e1,e2⟩=>by
                    cases mx with
                    | none=>exact e2 rfl
                    | some v=>exact AO v e1 rfl) Hi r1.1 r1.2 r2.1 r2.2 r3.1 r3.2 w
                  have uX:=hR.aY _ _ _ hy ho
                  have M6:∀ m',m' ≤cr→(Instr.sliceAt t (.slice (some b) len cr) lo' bG uW).run P w= .ok (.slice (if (if mx=none then cr else m)=ll then some b else some (b.add (ll*s))) (hh - ll) ((if mx=none then cr else m) - ll)) w:=by
                    intro _ _
                    simp only [Instr.sliceAt,Instr.slice,Sem.run_bind,cD hu,Result.andThen_ok,gT,hQ hs,Sem.run_pure,Option.map_some]
                  have Vl:b.block=y.aY→b.spot=none→b.off=y.off+a.off→b.add (ll*s)=⟨y.aY,y.off+(a.off+ll*s),none⟩:=by
                    intro h1 h2 h3
                    obtain ⟨bb,bo,bs⟩:=b
                    simp only at h1 h2 h3
                    subst h1; subst h2; subst h3
                    rw [qx,Nat.add_assoc]
                  generalize yA:(if mx=none then cr else m)=mr at M6 gT
                  have afk:mr≤cr∧m≤mr:=by
                    rw [← yA]; split
                    · rename_i hn; have:=AP hn; omega
                    · omega
                  refine ⟨.slice (some (if mr=ll then b else b.add (ll*s))) (hh - ll) (mr - ll),gC.2 ⟨y,_,mr - ll,hy,rfl,by omega,?_,?_⟩,?_⟩
                  · by_cases Hj:mx=none
                    · have e1:=AP Hj
                      rw [if_pos Hj] at yA
                      subst yA
                      rcases hY with hY | ⟨h1,h2,h3⟩
                      · exact .inl (by omega)
                      · refine .inr ⟨h1,?_,by omega⟩
                        have Hk:s=y.esz:=by
                          rw [uX.opn] at h1
                          simp [h1] at M5
                          rw [M5,uX.esz]
                        rw [Hk,e1]
                        have afl:ll≤cap:=by omega
                        have:ll*y.esz+(cap - ll)*y.esz=cap*y.esz:=by rw [← Nat.add_mul]; congr 1; omega
                        simp only; omega
                    · rw [if_neg Hj] at yA
                      exact .inl (by omega)
                  · intro aB
                    have DC:mr≠ll:=by omega
                    rw [if_neg DC]
                    have lV:cr≠0:=by omega
                    have AQ:=hb lV
                    exact Vl (by rw [AQ]) (by rw [AQ]) (by rw [AQ])
                  · rw [M6 0 (Nat.zero_le _)]
                    split<;>rfl
                · simp at h
              · simp at h
            · simp at h
        · simp at h
    · simp at h
  · rename_i n e a hu
    split at h
    · rename_i s hs
      split at h
      · rename_i m hm
        split at h
        · simp at h
        · rename_i AO
          split at h
          · rename_i hh s9
            split at h
            · rename_i ll dT
              split at h
              · rename_i hle
                simp only [Option.some.injEq] at h; subst h
                obtain ⟨y,hy,rfl⟩:=lU.1 hv
                obtain ⟨gT,hl,AP,M4⟩:=Hf (P:=P) (sl:=false) (cr:=n) hm s9 dT (fun ⟨e1,e2⟩=>by
                    cases mx with
                    | none=>exact e2 rfl
                    | some v=>exact AO v e1 rfl) (Nat.le_refl _) r1.1 r1.2 r2.1 r2.2 r3.1 r3.2 w
                have yA:(if mx=none then n else m)=m:=by
                  split
                  · rename_i hn; exact (AP hn).symm
                  · rfl
                rw [yA] at gT
                refine ⟨.slice (some (if m=ll then ⟨y.aY,y.off+a.off,none⟩ else ⟨y.aY,y.off+(a.off+ll*s),none⟩)) (hh - ll) (m - ll),gC.2 ⟨y,_,m - ll,hy,rfl,by omega,.inl rfl,?_⟩,?_⟩
                · intro aB
                  have DC:m≠ll:=by omega
                  rw [if_neg DC]
                · simp only [Instr.sliceAt,Instr.sureAddr,Sem.run_bind,cD hu,Result.andThen_ok,gT,hQ hs,Sem.run_pure,qx,Nat.add_assoc]
              · simp at h
            · simp at h
          · simp at h
      · simp at h
    · simp at h
  · simp at h
theorem Vm {G:GS} {w:World} {B:Nat} {T:List Value} {a:Act} (hR:Rel G M w B) (hT:Vs M T a.tmps.toList) {o:Oper} {v:Value} (aV:dL o.op=true) (h:fD P T o.op G=some v) :
    ∃ u,V M v u∧(execOp a.eval o).run P w= .ok (.value u) w:=by
  obtain ⟨dst,op,ty,pos,after,guard⟩:=o
  cases op<;>simp only [fD,dL,Bool.and_eq_true,reduceCtorEq] at h aV
  case load t x =>
    obtain ⟨u,h1,h2,_⟩:=M0 hR (cV hT aV) h
    exact ⟨u,h1,by simp only [execOp,Sem.run_bind,h2,Result.andThen_ok,Sem.run_pure]⟩
  case slice t x lo hi mx =>
    obtain ⟨u,h1,h2⟩:=Vj hR (cV hT aV.1.1.1) h (Hg hT aV.1.1.2) (Hg hT aV.1.2) (Hg hT aV.2)
    exact ⟨u,h1,by simp only [execOp,Sem.run_bind,h2,Result.andThen_ok,Sem.run_pure]⟩
def Map.ext (M:Map) (g:Nat) (x:jv):Map:=⟨fun h=>if h=g then some x else M.mu h,M.lp,M.mp⟩
theorem Map.m7 (M:Map) (g h:Nat) (x:jv):(M.ext g x).mu h=if h=g then some x else M.mu h:=rfl
theorem Map.yB {g:Nat} {x:jv} (h:M.mu g=none):M.Le (M.ext g x) :=
  ⟨fun g' y hy=>by rw [Map.m7,if_neg (fun e=>by rw [e,h] at hy; cases hy)]; exact hy,fun _ _ h=>h,fun _ _ h=>h⟩
theorem GS.kU (G:GS) (o:bK) (g:Nat):(G.push o).obj g=if g=G.nx then some o else G.obj g:=sT _ _ _ _
theorem GS.cM (G:GS) (o:bK) (g h:Nat):(G.put g o).obj h=if h=g then some o else G.obj h:=sT _ _ _ _
theorem nS {M':Map} {w w':World} {x:jv} {cs:List Value} (hM:M.Le M') (h:Hc M w x cs) (hw:∀ a u,w.cell? a=some u→a.block=x.aY→w'.cell? a=some u):Hc M' w' x cs :=
  fun i v hv=>let ⟨u,h1,h2⟩:=h i v hv; ⟨u,hw _ _ h1 rfl,h2.mono hM⟩
theorem ta {w w':World} {a:Addr} {u:Value} (h:w'.heap[a.block]? =w.heap[a.block]?) (hc:w.cell? a=some u):w'.cell? a=some u:=by
  unfold World.cell? at hc ⊢; rw [h]; exact hc
theorem Rel.push {G:GS} {w:World} {B:Nat} (hR:Rel G M w B) {cells:List Value} {c:Array Value} {e:TypeId} {esz ex:Nat} {opn:Bool}
    (hc:∀ (i:Nat) (v:Value),cells[i]? =some v→∃ u,c[i]? =some u∧V M v u) (hs:cells.length+ex*esz≤c.size) :
    let M':=M.ext G.nx ⟨w.heap.size,0,ex,esz,opn,cells.length⟩
    let w':=w.alloc (.cells c e)
    Rel (G.push ⟨cells,esz,opn,1⟩) M' w' B∧cy G M w (G.push ⟨cells,esz,opn,1⟩) M' w' ∧M'.mu G.nx=some ⟨w.heap.size,0,ex,esz,opn,cells.length⟩:=by
  intro M' w'
  have m9:M.mu G.nx=none:=by
    cases hm:M.mu G.nx with
    | none=>rfl
    | some x=>exact absurd (hR.nx _ _ hm) (Nat.lt_irrefl _)
  have hM:M.Le M':=Map.yB m9
  have hold:∀ r,r<w.heap.size→w'.heap[r]? =w.heap[r]?:=fun r hr=>Go.RowKit.Below.heap_alloc w _ r hr
  have pe:w'.heap[w.heap.size]? =some (.cells c e (0,0)):=World.alloc_heap_new w _
  have iZ:∀ a u,w.cell? a=some u→w'.cell? a=some u:=fun a u h=>ta (hold _ (World.block_lt_of_cell? w a h)) h
  have aT:∀ g x,M.mu g=some x→g≠G.nx:=fun g x hx e=>by rw [e,m9] at hx; cases hx
  have jU:∀ g x,M'.mu g=some x→(g=G.nx∧x=⟨w.heap.size,0,ex,esz,opn,cells.length⟩)∨(g≠G.nx∧M.mu g=some x):=by
    intro g x hx
    rw [Map.m7] at hx
    split at hx
    · rename_i he; exact .inl ⟨he,(Option.some.inj hx).symm⟩
    · rename_i he; exact .inr ⟨he,hx⟩
  have dA:∀ g,g≠G.nx→(G.push ⟨cells,esz,opn,1⟩).obj g=G.obj g:=fun g hg=>by rw [GS.kU,if_neg hg]
  have nT:(G.push ⟨cells,esz,opn,1⟩).obj G.nx=some ⟨cells,esz,opn,1⟩:=by rw [GS.kU,if_pos rfl]
  have Hl:∀ g x o,M.mu g=some x→G.obj g=some o→o.mode=1→x.aY<w.heap.size:=by
    intro g x o hx ho hm
    have hb:=hR.aY g x o hx ho
    obtain ⟨_,c',e',h1,_⟩:=hb.own hm
    exact (Array.getElem?_eq_some_iff.1 h1).1
  refine ⟨⟨?_,?_,?_,?_,?_,?_,fun l r hl=>let ⟨h1,p,h2,h3⟩:=hR.mp l r hl; ⟨h1,p,h2,h3.keep (hold _ h3.lt)⟩,hR.jA,hR.iY,fun g hg=>by have dU:G.nx+1≤g:=hg; rw [dA g (by omega)]; exact hR.wf g (by omega),fun g o ho hm=>by
    by_cases e:g=G.nx
    · rw [e,nT] at ho; cases ho; simp at hm
    · rw [dA g e] at ho
      exact (hR.gl g o ho hm).keep fun r hr=>hold r (Nat.lt_of_lt_of_le hr hR.size)⟩,⟨hM,?_,?_,?_,rfl,rfl,rfl,?_,fun g hg AR=>⟨by rw [Map.m7,if_neg (by omega)]; exact AR,dA g (by omega)⟩,fun g hg hn=>by rw [dA g (by omega)]; exact hn⟩,by rw [Map.m7,if_pos rfl]⟩
  · exact Nat.le_trans hR.size (by simp [w'])
  · intro g x o hx ho
    rcases jU g x hx with ⟨rfl,rfl⟩ | ⟨hg,hx⟩
    · rw [nT] at ho; obtain rfl:=Option.some.inj ho
      refine ⟨rfl,rfl,rfl,fun _ i v hv=>?_,fun _=>⟨hR.size,c,e,pe,by simpa using hs⟩,fun h=>absurd rfl h⟩
      obtain ⟨u,h1,h2⟩:=hc i v hv
      exact ⟨u,by simp only [World.cell?,pe,Nat.zero_add]; simpa using h1,h2.mono hM⟩
    · rw [dA g hg] at ho
      have hb:=hR.aY g x o hx ho
      refine ⟨hb.esz,hb.opn,hb.len,fun hm=>nS hM (hb.cells hm) fun a u h _=>iZ a u h,fun hm=>?_,hb.ro⟩
      obtain ⟨h1,c',e',h2,h3⟩:=hb.own hm
      exact ⟨h1,c',e',by rw [hold _ (Hl g x o hx ho hm)]; exact h2,h3⟩
  · intro g g' x x' o o' hx ja ho cW hm jB he
    rcases jU g x hx with ⟨rfl,rfl⟩ | ⟨hg,hx⟩<;>rcases jU g' x' ja with ⟨rfl,rfl⟩ | ⟨dU,ja⟩
    · rfl
    · rw [dA g' dU] at cW
      have:=Hl g' x' o' ja cW jB
      simp only at he; omega
    · rw [dA g hg] at ho
      have:=Hl g x o hx ho hm
      simp only at he; omega
    · rw [dA g hg] at ho
      rw [dA g' dU] at cW
      exact hR.apart g g' x x' o o' hx ja ho cW hm jB he
  · intro g x hx
    show g<G.nx+1
    rcases jU g x hx with ⟨rfl,rfl⟩ | ⟨hg,hx⟩
    · omega
    · have:=hR.nx g x hx; omega
  · intro l r hl
    obtain ⟨h1,p,h2,h3,lo,h4,h5,h6,h7,h8⟩:=hR.lp l r hl
    exact ⟨h1,p,h2,h3,lo,by rw [hold _ (Array.getElem?_eq_some_iff.1 h4).1]; exact h4,h5,h6,h7.mono hM,h8⟩
  · exact hR.jz
  · simp [w']
  · exact fun r hr _=>hold r hr
  · rintro r (⟨g,x,o,hx,ho,hm,rfl⟩ | ⟨l,hl⟩)
    · rcases jU g x hx with ⟨rfl,rfl⟩ | ⟨hg,hx⟩
      · exact .inr (Nat.le_refl _)
      · rw [dA g hg] at ho
        exact .inl (.inl ⟨g,x,o,hx,ho,hm,rfl⟩)
    · exact .inl (.inr ⟨l,hl⟩)
  · show G.nx≤G.nx+1; omega
end Go.Proofs.YtkhlabammcghbaaGreat.Gh
