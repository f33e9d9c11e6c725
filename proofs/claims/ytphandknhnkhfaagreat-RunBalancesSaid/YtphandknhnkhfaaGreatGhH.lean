import Derived.Test.YtphandknhnkhfaaGreatGhG
namespace Go.Proofs.YtphandknhnkhfaaGreat.Gh
open Go
variable {P:Program} {M:Map}
theorem FT {T:List Value} {a:Act} (hT:Vs M T a.tmps.toList) {x:Option Operand} (h:zX x=true) :
    (∀ v,x.map (ev T)=some v→∃ u,x.map a.eval=some u∧V M v u)∧(x.map (ev T)=none→x.map a.eval=none):=by
  cases x with
  | none=>exact ⟨fun v hv=>by simp at hv,fun _=>rfl⟩
  | some x=>exact ⟨fun v hv=>⟨_,rfl,by simp at hv; subst hv; exact dh hT h⟩,fun h=>by simp at h⟩
theorem Uf {G:GS} {w:World} {B:Nat} {t:TypeId} {x u r:Value} {lo hi mx lo' bw uI:Option Value} (hR:Rel G M w B) (hv:V M x u) (h:iG P t x lo hi mx G=some r)
    (r1:(∀ a,lo=some a→∃ b,lo' =some b∧V M a b)∧(lo=none→lo' =none)) (r2:(∀ a,hi=some a→∃ b,bw =some b∧V M a b)∧(hi=none→bw =none))
    (r3:(∀ a,mx=some a→∃ b,uI =some b∧V M a b)∧(mx=none→uI =none)) :
    ∃ r',V M r r' ∧(Instr.sliceAt t u lo' bw uI).run P w= .ok r' w:=by
  unfold iG at h
  split at h
  · rename_i e hu
    split at h
    · rename_i m hm
      split at h
      · simp at h
      · rename_i Ah
        split at h
        · rename_i hh sS
          split at h
          · rename_i ll cR
            split at h
            · rename_i s hs
              simp only [Option.some.injEq] at h; subst h
              obtain ⟨_,_,rfl⟩:=jN.1 hv
              obtain ⟨et,hl,Ai,Lx⟩:=FR (P:=P) (sl:=true) (cr:=0) hm sS cR (fun ⟨e1,e2⟩=>by
                cases mx with
                | none=>exact e2 rfl
                | some v=>exact Ah v e1 rfl) (Nat.le_refl 0) r1.1 r1.2 r2.1 r2.2 r3.1 r3.2 w
              refine ⟨_,jN.2 ⟨rfl,rfl,rfl⟩,?_⟩
              have mg:m=0:=by omega
              have Ug:hh=0:=by
                rcases vY sS r2.1 r2.2 with ⟨_,_,h⟩ | ⟨_,i,_,_,h0,h1,h⟩<;>omega
              have jQ:ll=0:=by omega
              subst mg; subst Ug; subst jQ
              have CN:(if mx=none then 0 else 0)=0:=by split<;>rfl
              rw [CN] at et
              simp only [Instr.sliceAt,Instr.slice,Sem.run_bind,cM hu,Result.andThen_ok,et,if_true,ia hs,Sem.run_pure,Nat.sub_zero]
            · simp at h
          · simp at h
        · simp at h
    · simp at h
  · rename_i e a len cap hu
    split at h
    · rename_i s o hs ho
      split at h
      · simp at h
      · rename_i Ly
        split at h
        · rename_i m hm
          split at h
          · simp at h
          · rename_i Ah
            split at h
            · rename_i hh sS
              split at h
              · rename_i ll cR
                split at h
                · rename_i hle
                  simp only [Option.some.injEq] at h; subst h
                  obtain ⟨y,b,cr,hy,rfl,o9,gm,hb⟩:=gN.1 hv
                  have FU:cap≤cr:=by rcases gm with h | h<;>omega
                  obtain ⟨et,hl,Ai,Lx⟩:=FR (P:=P) (sl:=true) (cr:=cr) hm sS cR (fun ⟨e1,e2⟩=>by
                    cases mx with
                    | none=>exact e2 rfl
                    | some v=>exact Ah v e1 rfl) FU r1.1 r1.2 r2.1 r2.2 r3.1 r3.2 w
                  have uJ:=hR.aZ _ _ _ hy ho
                  have Lz:∀ m',m' ≤cr→(Instr.sliceAt t (.slice (some b) len cr) lo' bw uI).run P w= .ok (.slice (if (if mx=none then cr else m)=ll then some b else some (b.add (ll*s))) (hh - ll) ((if mx=none then cr else m) - ll)) w:=by
                    intro _ _
                    simp only [Instr.sliceAt,Instr.slice,Sem.run_bind,cM hu,Result.andThen_ok,et,ia hs,Sem.run_pure,Option.map_some]
                  have Uh:b.block=y.aZ→b.spot=none→b.off=y.off+a.off→b.add (ll*s)=⟨y.aZ,y.off+(a.off+ll*s),none⟩:=by
                    intro h1 h2 h3
                    obtain ⟨bb,bo,bs⟩:=b
                    simp only at h1 h2 h3
                    subst h1; subst h2; subst h3
                    rw [qj,Nat.add_assoc]
                  generalize yc:(if mx=none then cr else m)=mr at Lz et
                  have aet:mr≤cr∧m≤mr:=by
                    rw [← yc]; split
                    · rename_i hn; have:=Ai hn; omega
                    · omega
                  refine ⟨.slice (some (if mr=ll then b else b.add (ll*s))) (hh - ll) (mr - ll),gN.2 ⟨y,_,mr - ll,hy,rfl,by omega,?_,?_⟩,?_⟩
                  · by_cases FV:mx=none
                    · have e1:=Ai FV
                      rw [if_pos FV] at yc
                      subst yc
                      rcases gm with gm | ⟨h1,h2,h3⟩
                      · exact .inl (by omega)
                      · refine .inr ⟨h1,?_,by omega⟩
                        have FW:s=y.esz:=by
                          rw [uJ.opn] at h1
                          simp [h1] at Ly
                          rw [Ly,uJ.esz]
                        rw [FW,e1]
                        have aeu:ll≤cap:=by omega
                        have:ll*y.esz+(cap - ll)*y.esz=cap*y.esz:=by rw [← Nat.add_mul]; congr 1; omega
                        simp only; omega
                    · rw [if_neg FV] at yc
                      exact .inl (by omega)
                  · intro az
                    have CO:mr≠ll:=by omega
                    rw [if_neg CO]
                    have mf:cr≠0:=by omega
                    have Aj:=hb mf
                    exact Uh (by rw [Aj]) (by rw [Aj]) (by rw [Aj])
                  · rw [Lz 0 (Nat.zero_le _)]
                    split<;>rfl
                · simp at h
              · simp at h
            · simp at h
        · simp at h
    · simp at h
  · rename_i n e a hu
    split at h
    · rename_i s hs
      split at h
      · rename_i m hm
        split at h
        · simp at h
        · rename_i Ah
          split at h
          · rename_i hh sS
            split at h
            · rename_i ll cR
              split at h
              · rename_i hle
                simp only [Option.some.injEq] at h; subst h
                obtain ⟨y,hy,rfl⟩:=mc.1 hv
                obtain ⟨et,hl,Ai,Lx⟩:=FR (P:=P) (sl:=false) (cr:=n) hm sS cR (fun ⟨e1,e2⟩=>by
                    cases mx with
                    | none=>exact e2 rfl
                    | some v=>exact Ah v e1 rfl) (Nat.le_refl _) r1.1 r1.2 r2.1 r2.2 r3.1 r3.2 w
                have yc:(if mx=none then n else m)=m:=by
                  split
                  · rename_i hn; exact (Ai hn).symm
                  · rfl
                rw [yc] at et
                refine ⟨.slice (some (if m=ll then ⟨y.aZ,y.off+a.off,none⟩ else ⟨y.aZ,y.off+(a.off+ll*s),none⟩)) (hh - ll) (m - ll),gN.2 ⟨y,_,m - ll,hy,rfl,by omega,.inl rfl,?_⟩,?_⟩
                · intro az
                  have CO:m≠ll:=by omega
                  rw [if_neg CO]
                · simp only [Instr.sliceAt,Instr.sureAddr,Sem.run_bind,cM hu,Result.andThen_ok,et,ia hs,Sem.run_pure,qj,Nat.add_assoc]
              · simp at h
            · simp at h
          · simp at h
      · simp at h
    · simp at h
  · simp at h
theorem Ui {G:GS} {w:World} {B:Nat} {T:List Value} {a:Act} (hR:Rel G M w B) (hT:Vs M T a.tmps.toList) {o:Oper} {v:Value} (aP:dW o.op=true) (h:fQ P T o.op G=some v) :
    ∃ u,V M v u∧(execOp a.eval o).run P w= .ok (.value u) w:=by
  obtain ⟨dst,op,ty,pos,after,guard⟩:=o
  cases op<;>simp only [fQ,dW,Bool.and_eq_true,reduceCtorEq] at h aP
  case load t x =>
    obtain ⟨u,h1,h2,_⟩:=Lv hR (dh hT aP) h
    exact ⟨u,h1,by simp only [execOp,Sem.run_bind,h2,Result.andThen_ok,Sem.run_pure]⟩
  case slice t x lo hi mx =>
    obtain ⟨u,h1,h2⟩:=Uf hR (dh hT aP.1.1.1) h (FT hT aP.1.1.2) (FT hT aP.1.2) (FT hT aP.2)
    exact ⟨u,h1,by simp only [execOp,Sem.run_bind,h2,Result.andThen_ok,Sem.run_pure]⟩
def Map.ext (M:Map) (g:Nat) (x:jM):Map:=⟨fun h=>if h=g then some x else M.mu h,M.lp,M.mp⟩
theorem Map.mV (M:Map) (g h:Nat) (x:jM):(M.ext g x).mu h=if h=g then some x else M.mu h:=rfl
theorem Map.yd {g:Nat} {x:jM} (h:M.mu g=none):M.Le (M.ext g x) :=
  ⟨fun g' y hy=>by rw [Map.mV,if_neg (fun e=>by rw [e,h] at hy; cases hy)]; exact hy,fun _ _ h=>h,fun _ _ h=>h⟩
theorem GS.jR (G:GS) (o:aR) (g:Nat):(G.push o).obj g=if g=G.nx then some o else G.obj g:=sJ _ _ _ _
theorem GS.aT (G:GS) (o:aR) (g h:Nat):(G.put g o).obj h=if h=g then some o else G.obj h:=sJ _ _ _ _
theorem nW {M':Map} {w w':World} {x:jM} {cs:List Value} (hM:M.Le M') (h:FP M w x cs) (hw:∀ a u,w.cell? a=some u→a.block=x.aZ→w'.cell? a=some u):FP M' w' x cs :=
  fun i v hv=>let ⟨u,h1,h2⟩:=h i v hv; ⟨u,hw _ _ h1 rfl,h2.mono hM⟩
theorem sT {w w':World} {a:Addr} {u:Value} (h:w'.heap[a.block]? =w.heap[a.block]?) (hc:w.cell? a=some u):w'.cell? a=some u:=by
  unfold World.cell? at hc ⊢; rw [h]; exact hc
theorem Rel.push {G:GS} {w:World} {B:Nat} (hR:Rel G M w B) {cells:List Value} {c:Array Value} {e:TypeId} {esz ex:Nat} {opn:Bool}
    (hc:∀ (i:Nat) (v:Value),cells[i]? =some v→∃ u,c[i]? =some u∧V M v u) (hs:cells.length+ex*esz≤c.size) :
    let M':=M.ext G.nx ⟨w.heap.size,0,ex,esz,opn,cells.length⟩
    let w':=w.alloc (.cells c e)
    Rel (G.push ⟨cells,esz,opn,1⟩) M' w' B∧cI G M w (G.push ⟨cells,esz,opn,1⟩) M' w' ∧M'.mu G.nx=some ⟨w.heap.size,0,ex,esz,opn,cells.length⟩:=by
  intro M' w'
  have mW:M.mu G.nx=none:=by
    cases hm:M.mu G.nx with
    | none=>rfl
    | some x=>exact absurd (hR.nx _ _ hm) (Nat.lt_irrefl _)
  have hM:M.Le M':=Map.yd mW
  have hold:∀ r,r<w.heap.size→w'.heap[r]? =w.heap[r]?:=fun r hr=>Go.RowKit.Below.heap_alloc w _ r hr
  have pa:w'.heap[w.heap.size]? =some (.cells c e (0,0)):=World.alloc_heap_new w _
  have jk:∀ a u,w.cell? a=some u→w'.cell? a=some u:=fun a u h=>sT (hold _ (World.block_lt_of_cell? w a h)) h
  have aJ:∀ g x,M.mu g=some x→g≠G.nx:=fun g x hx e=>by rw [e,mW] at hx; cases hx
  have kD:∀ g x,M'.mu g=some x→(g=G.nx∧x=⟨w.heap.size,0,ex,esz,opn,cells.length⟩)∨(g≠G.nx∧M.mu g=some x):=by
    intro g x hx
    rw [Map.mV] at hx
    split at hx
    · rename_i he; exact .inl ⟨he,(Option.some.inj hx).symm⟩
    · rename_i he; exact .inr ⟨he,hx⟩
  have dH:∀ g,g≠G.nx→(G.push ⟨cells,esz,opn,1⟩).obj g=G.obj g:=fun g hg=>by rw [GS.jR,if_neg hg]
  have nX:(G.push ⟨cells,esz,opn,1⟩).obj G.nx=some ⟨cells,esz,opn,1⟩:=by rw [GS.jR,if_pos rfl]
  have FX:∀ g x o,M.mu g=some x→G.obj g=some o→o.mode=1→x.aZ<w.heap.size:=by
    intro g x o hx ho hm
    have hb:=hR.aZ g x o hx ho
    obtain ⟨_,c',e',h1,_⟩:=hb.own hm
    exact (Array.getElem?_eq_some_iff.1 h1).1
  refine ⟨⟨?_,?_,?_,?_,?_,?_,fun l r hl=>let ⟨h1,p,h2,h3⟩:=hR.mp l r hl; ⟨h1,p,h2,h3.keep (hold _ h3.lt)⟩,hR.jP,hR.jj,fun g hg=>by have eZ:G.nx+1≤g:=hg; rw [dH g (by omega)]; exact hR.wf g (by omega),fun g o ho hm=>by
    by_cases e:g=G.nx
    · rw [e,nX] at ho; cases ho; simp at hm
    · rw [dH g e] at ho
      exact (hR.gl g o ho hm).keep fun r hr=>hold r (Nat.lt_of_lt_of_le hr hR.size)⟩,⟨hM,?_,?_,?_,rfl,rfl,rfl,?_,fun g hg Ak=>⟨by rw [Map.mV,if_neg (by omega)]; exact Ak,dH g (by omega)⟩,fun g hg hn=>by rw [dH g (by omega)]; exact hn⟩,by rw [Map.mV,if_pos rfl]⟩
  · exact Nat.le_trans hR.size (by simp [w'])
  · intro g x o hx ho
    rcases kD g x hx with ⟨rfl,rfl⟩ | ⟨hg,hx⟩
    · rw [nX] at ho; obtain rfl:=Option.some.inj ho
      refine ⟨rfl,rfl,rfl,fun _ i v hv=>?_,fun _=>⟨hR.size,c,e,pa,by simpa using hs⟩,fun h=>absurd rfl h⟩
      obtain ⟨u,h1,h2⟩:=hc i v hv
      exact ⟨u,by simp only [World.cell?,pa,Nat.zero_add]; simpa using h1,h2.mono hM⟩
    · rw [dH g hg] at ho
      have hb:=hR.aZ g x o hx ho
      refine ⟨hb.esz,hb.opn,hb.len,fun hm=>nW hM (hb.cells hm) fun a u h _=>jk a u h,fun hm=>?_,hb.ro⟩
      obtain ⟨h1,c',e',h2,h3⟩:=hb.own hm
      exact ⟨h1,c',e',by rw [hold _ (FX g x o hx ho hm)]; exact h2,h3⟩
  · intro g g' x x' o o' hx fF ho da hm jS he
    rcases kD g x hx with ⟨rfl,rfl⟩ | ⟨hg,hx⟩<;>rcases kD g' x' fF with ⟨rfl,rfl⟩ | ⟨eZ,fF⟩
    · rfl
    · rw [dH g' eZ] at da
      have:=FX g' x' o' fF da jS
      simp only at he; omega
    · rw [dH g hg] at ho
      have:=FX g x o hx ho hm
      simp only at he; omega
    · rw [dH g hg] at ho
      rw [dH g' eZ] at da
      exact hR.apart g g' x x' o o' hx fF ho da hm jS he
  · intro g x hx
    show g<G.nx+1
    rcases kD g x hx with ⟨rfl,rfl⟩ | ⟨hg,hx⟩
    · omega
    · have:=hR.nx g x hx; omega
  · intro l r hl
    obtain ⟨h1,p,h2,h3,lo,h4,h5,h6,h7,h8⟩:=hR.lp l r hl
    exact ⟨h1,p,h2,h3,lo,by rw [hold _ (Array.getElem?_eq_some_iff.1 h4).1]; exact h4,h5,h6,h7.mono hM,h8⟩
  · exact hR.jO
  · simp [w']
  · exact fun r hr _=>hold r hr
  · rintro r (⟨g,x,o,hx,ho,hm,rfl⟩ | ⟨l,hl⟩)
    · rcases kD g x hx with ⟨rfl,rfl⟩ | ⟨hg,hx⟩
      · exact .inr (Nat.le_refl _)
      · rw [dH g hg] at ho
        exact .inl (.inl ⟨g,x,o,hx,ho,hm,rfl⟩)
    · exact .inl (.inr ⟨l,hl⟩)
  · show G.nx≤G.nx+1; omega
end Go.Proofs.YtphandknhnkhfaaGreat.Gh
