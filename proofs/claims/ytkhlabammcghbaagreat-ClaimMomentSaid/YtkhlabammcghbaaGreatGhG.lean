import Derived.Test.YtkhlabammcghbaaGreatGhF
namespace Go.Proofs.YtkhlabammcghbaaGreat.Gh
open Go
variable {P:Program} {M:Map}
def Hc (M:Map) (w:World) (x:jv) (cs:List Value):Prop :=
  ∀ (i:Nat) (v:Value),cs[i]? =some v→∃ u,w.cell? ⟨x.aY,x.off+i,none⟩=some u∧V M v u
def MW (w:World) (x:jv) (B:Nat):Prop :=
  B≤x.aY∧∃ c e,w.heap[x.aY]? =some (.cells c e (0,0))∧x.off+x.len+x.ex*x.esz≤c.size
def MX (M:Map) (w:World) (B r:Nat) (p:Lp):Prop :=
  B≤r∧∃ lo:Loop,w.heap[r]? =some (.loop lo)∧lo.state=p.st∧lo.pending=p.aC∧Vs M p.tmps lo.tmps.toList∧lo.params.toList=p.params∧lo.assign=p.assign∧lo.body=p.body
def uU (w:World) (B r:Nat) (p:Lp):Prop :=
  B≤r∧p.tmps.all plain=true∧∃ es clock,w.heap[r]? =some (.map es clock)∧uL es.toList=p.tmps
theorem uU.keep {w w':World} {B r:Nat} {p:Lp} (h:uU w B r p) (hw:w'.heap[r]? =w.heap[r]?):uU w' B r p:=⟨h.1,h.2.1,by rw [hw]; exact h.2.2⟩
theorem uU.lt {w:World} {B r:Nat} {p:Lp} (h:uU w B r p):r<w.heap.size:=by
  obtain ⟨_,_,es,c,h,_⟩:=h
  exact (Array.getElem?_eq_some_iff.1 h).1
theorem uU.obj {w:World} {B r:Nat} {p:Lp} (h:uU w B r p):∃ es c,w.heap[r]? =some (.map es c):=by
  obtain ⟨_,_,es,c,h,_⟩:=h
  exact ⟨es,c,h⟩
structure s0 (M:Map) (w:World) (B:Nat) (x:jv) (o:bK):Prop where
  esz:x.esz=o.esz
  opn:x.opn=o.opn
  len:x.len=o.cells.length
  cells:o.mode≠2→Hc M w x o.cells
  own:o.mode=1→MW w x B
  ro:o.mode≠1→o.mode≠2→x.aY<B
def DA (w:World) (B:Nat) (o:bK):Prop:=((o.mode=Dg∧o.cells=My)∨(o.mode=Dh∧o.cells=Mw))∧o.mode - 3<B∧∃ e f,w.heap[o.mode - 3]? =some (.cells o.cells.toArray e f)
theorem DA.keep {w w':World} {B:Nat} {o:bK} (h:DA w B o) (hw:∀ r,r<B→w'.heap[r]? =w.heap[r]?):DA w' B o:=⟨h.1,h.2.1,by rw [hw _ h.2.1]; exact h.2.2⟩
structure Rel (G:GS) (M:Map) (w:World) (B:Nat):Prop where
  size:B≤w.heap.size
  aY:∀ g x o,M.mu g=some x→G.obj g=some o→s0 M w B x o
  apart:∀ g g' x x' o o',M.mu g=some x→M.mu g' =some x' →G.obj g=some o→G.obj g' =some o' →o.mode=1→o'.mode=1→x.aY=x'.aY→g=g'
  nx:∀ g x,M.mu g=some x→g<G.nx
  lp:∀ l r,M.lp l=some r→l<G.nl∧∃ p,G.loop l=some p∧MX M w B r p
  jz:∀ l l' r,M.lp l=some r→M.lp l' =some r→l=l'
  mp:∀ l r,M.mp l=some r→l<G.nl∧∃ p,G.loop l=some p∧uU w B r p
  jA:∀ l l' r,M.mp l=some r→M.mp l' =some r→l=l'
  iY:∀ l r,M.mp l=some r→M.lp l=none
  wf:∀ g,G.nx≤g→G.obj g=none
  gl:∀ g o,G.obj g=some o→3≤o.mode→DA w B o
def eu (G:GS) (M:Map) (r:Nat):Prop :=
  (∃ g x o,M.mu g=some x∧G.obj g=some o∧o.mode=1∧x.aY=r)∨∃ l,M.lp l=some r∨M.mp l=some r
structure cy (G:GS) (M:Map) (w:World) (G':GS) (M':Map) (w':World):Prop where
  map:M.Le M'
  size:w.heap.size≤w'.heap.size
  keep:∀ r,r<w.heap.size→¬ eu G M r→w'.heap[r]? =w.heap[r]?
  eu:∀ r,eu G' M' r→eu G M r∨w.heap.size≤r
  os:w'.os=w.os
  tape:w'.tape=w.tape
  output:w'.output=w.output
  nx:G.nx≤G'.nx
  gk:∀ g,g<G.nx→M.mu g=none→M'.mu g=none∧G'.obj g=G.obj g
  gn:∀ g,g<G.nx→G.obj g=none→G'.obj g=none
theorem cy.refl (G:GS) (M:Map) (w:World):cy G M w G M w:=⟨.refl M,Nat.le_refl _,fun _ _ _=>rfl,fun _ h=>.inl h,rfl,rfl,rfl,Nat.le_refl _,fun _ _ h=>⟨h,rfl⟩,fun _ _ h=>h⟩
theorem cy.trans {G1 G2 G3:GS} {M1 M2 M3:Map} {w1 w2 w3:World} (h:cy G1 M1 w1 G2 M2 w2) (k:cy G2 M2 w2 G3 M3 w3):cy G1 M1 w1 G3 M3 w3 where
  map:=h.map.trans k.map
  size:=Nat.le_trans h.size k.size
  keep r hr hf:=by
    rw [k.keep r (Nat.lt_of_lt_of_le hr h.size) (fun Hd=>(h.eu r Hd).elim hf (fun nR=>by omega)),h.keep r hr hf]
  eu r hf:=by
    rcases k.eu r hf with h2 | h2
    · exact h.eu r h2
    · exact .inr (Nat.le_trans h.size h2)
  os:=k.os.trans h.os
  tape:=k.tape.trans h.tape
  output:=k.output.trans h.output
  nx:=Nat.le_trans h.nx k.nx
  gk g hg hm:=by
    obtain ⟨h1,h2⟩:=h.gk g hg hm
    obtain ⟨h3,h4⟩:=k.gk g (Nat.lt_of_lt_of_le hg h.nx) h1
    exact ⟨h3,h4.trans h2⟩
  gn g hg hm:=k.gn g (Nat.lt_of_lt_of_le hg h.nx) (h.gn g hg hm)
theorem Rel.of_heap {G:GS} {w w':World} {B:Nat} (h:Rel G M w B) (hw:w'.heap=w.heap):Rel G M w' B:=by
  have hc:∀ a,w'.cell? a=w.cell? a:=fun a=>by simp [World.cell?,hw]
  refine ⟨by rw [hw]; exact h.size,fun g x o hx ho=>?_,h.apart,h.nx,fun l r hl=>?_,h.jz,fun l r hl=>let ⟨h1,p,h2,h3⟩:=h.mp l r hl; ⟨h1,p,h2,h3.keep (by rw [hw])⟩,h.jA,h.iY,h.wf,fun g o ho hm=>(h.gl g o ho hm).keep fun r _=>by rw [hw]⟩
  · have hb:=h.aY g x o hx ho
    exact ⟨hb.esz,hb.opn,hb.len,fun hm i v hv=>by rw [hc]; exact hb.cells hm i v hv,fun hm=>by unfold MW; rw [hw]; exact hb.own hm,hb.ro⟩
  · obtain ⟨h1,p,h2,h3⟩:=h.lp l r hl
    exact ⟨h1,p,h2,by unfold MX; rw [hw]; exact h3⟩
theorem Rel.drawn {G:GS} {w:World} {B:Nat} (h:Rel G M w B) (n:Nat):Rel G M { w with drawn:=n } B:=h.of_heap rfl
theorem cy.drawn {G G':GS} {M':Map} {w w':World} (h:cy G M w G' M' w') (n:Nat):cy G M w G' M' { w' with drawn:=n } :=
  ⟨h.map,h.size,h.keep,h.eu,h.os,h.tape,h.output,h.nx,h.gk,h.gn⟩
theorem cy.He {G G':GS} {M':Map} {w w':World} {n:Nat} (h:cy G M { w with drawn:=n } G' M' w'):cy G M w G' M' w' :=
  ⟨h.map,h.size,h.keep,h.eu,h.os,h.tape,h.output,h.nx,h.gk,h.gn⟩
theorem MY {w:World} {b off:Nat}:∀ (us:List Value) (i:Nat) (acc:Array Value),(∀ (j:Nat) (u:Value),us[j]? =some u→w.cell? ⟨b,off+(i+j),none⟩=some u) →
    (loadCellsFrom ⟨b,off,none⟩ i us.length acc).run P w= .ok ⟨acc.toList++us⟩ w
  | [],i,acc,_=>by simp [loadCellsFrom]
  | u::us,i,acc,h=>by
    have h0:w.cell? ((⟨b,off,none⟩:Addr).add i)=some u:=by rw [qx]; simpa using h 0 u (by simp)
    have ih:=MY (w:=w) us (i+1) (acc.push u) fun j v hv=>by
      have:=h (j+1) v (by simpa using hv)
      rw [show i+1+j=i+(j+1) by omega]; exact this
    simp only [List.length_cons,loadCellsFrom,Sem.run_bind,run_load,h0,Result.andThen_ok,ih,Array.toList_push,List.append_assoc,List.singleton_append]
theorem MZ {w:World} {b off:Nat} {us:List Value} (h:∀ (j:Nat) (u:Value),us[j]? =some u→w.cell? ⟨b,off+j,none⟩=some u) :
    (loadCells ⟨b,off,none⟩ us.length).run P w= .ok ⟨us⟩ w:=by
  have:=MY (P:=P) (w:=w) us 0 #[] (b:=b) (off:=off) (by simpa using h)
  simpa [loadCells] using this
theorem yz {G:GS} {w:World} {B g off n:Nat} {x:jv} {l:List Value} (hR:Rel G M w B) (hx:M.mu g=some x) (h:fC G g off n=some l) :
    ∃ us,Vs M l us∧us.length=n∧∀ (j:Nat) (u:Value),us[j]? =some u→w.cell? ⟨x.aY,x.off+off+j,none⟩=some u:=by
  unfold fC at h
  split at h
  case h_2=>simp at h
  rename_i o ho
  have hb:=hR.aY g x o hx ho
  split at h
  · simp at h
  · rename_i hm
    have hc:=hb.cells hm
    rw [yu] at h
    obtain ⟨rfl,hn⟩:=GR h
    have uV:∀ j,j<n→∃ u,w.cell? ⟨x.aY,x.off+off+j,none⟩=some u∧∀ v,((o.cells.drop off).take n)[j]? =some v→V M v u:=by
      intro j hj
      have aT:off+j<o.cells.length:=by simp at hn; omega
      obtain ⟨u,h1,h2⟩:=hc (off+j) o.cells[off+j] (by simp [aT])
      refine ⟨u,by rw [Nat.add_assoc]; exact h1,fun v hv=>?_⟩
      simp only [List.getElem?_take,List.getElem?_drop,hj,if_true] at hv
      simp only [aT,List.getElem?_eq_getElem,Option.some.injEq] at hv
      rw [← hv]; exact h2
    refine ⟨(List.range n).map fun j=>(w.cell? ⟨x.aY,x.off+off+j,none⟩).getD undef,iH.2 ⟨by simp at hn ⊢; omega,fun j v hv=>?_⟩,by simp,fun j u hu=>?_⟩
    · have hj:j<n:=by
        rcases Nat.lt_or_ge j n with hj | hj
        · exact hj
        · rw [List.getElem?_eq_none (by simp; omega)] at hv; cases hv
      obtain ⟨u,h1,h2⟩:=uV j hj
      exact ⟨u,by simp [hj,h1],h2 v hv⟩
    · have hj:j<n:=by
        rcases Nat.lt_or_ge j n with hj | hj
        · exact hj
        · rw [List.getElem?_eq_none (by simp; omega)] at hu; cases hu
      obtain ⟨u',h1,_⟩:=uV j hj
      simp [hj,h1] at hu
      rw [h1,hu]
theorem M0 {G:GS} {w:World} {B:Nat} {t:TypeId} {v u r:Value} (hR:Rel G M w B) (hv:V M v u) (h:rH P t v G=some r) :
    ∃ r',V M r r' ∧(Instr.loadAt t u).run P w= .ok r' w∧(∃ a,u= .pointer (some a)):=by
  unfold rH at h
  split at h
  · rename_i a
    obtain ⟨x,hx,rfl⟩:=lU.1 hv
    split at h
    · rename_i sY
      split at h
      · rename_i s hs
        split at h
        · rename_i l hl
          simp only [Option.some.injEq] at h; subst h
          obtain ⟨us,h1,h2,h3⟩:=yz hR hx hl
          refine ⟨.agg ⟨us⟩,rM.2 ⟨_,rfl,h1⟩,?_,_,rfl⟩
          have:=MZ (P:=P) h3
          rw [h2] at this
          simp only [Instr.loadAt,Instr.sureAddr,loadVar,Sem.run_bind,Sem.run_pure,Result.andThen_ok,Dv sY,if_true,hQ hs,this]
        · simp at h
      · simp at h
    · rename_i sY
      split at h
      · rename_i y hl
        simp only [Option.some.injEq] at h; subst h
        obtain ⟨us,h1,h2,h3⟩:=yz hR hx hl
        match us,h1 with
        | [u],h1 =>
          refine ⟨u,h1.1,?_,_,rfl⟩
          have h4:=h3 0 u (by simp)
          simp only [Nat.add_zero] at h4
          simp only [Instr.loadAt,Instr.sureAddr,loadVar,Sem.run_bind,Sem.run_pure,Result.andThen_ok,Dv sY,Bool.false_eq_true,if_false,run_load,h4]
      · simp at h
    · simp at h
  · simp at h
theorem wy {v u:Option Value} {d y n:Nat} (h:bound v d y=some n) (hv:∀ a,v=some a→∃ b,u=some b∧V M a b) (hn:v=none→u=none) :
    (v=none∧u=none∧n=d)∨(∃ k i,v=some (.int k i)∧u=some (.int k i)∧0≤i∧i≤y∧n=i.toNat):=by
  unfold bound at h
  split at h
  · simp only [Option.some.injEq] at h; exact .inl ⟨rfl,hn rfl,h.symm⟩
  · rename_i k i
    split at h
    · rename_i hi
      simp only [Option.some.injEq] at h
      obtain ⟨b,hb,hV⟩:=hv _ rfl
      rw [eG.1 hV] at hb
      exact .inr ⟨k,i,rfl,hb,hi.1,hi.2,h.symm⟩
    · simp at h
  · simp at h
theorem run_sliceBound {k:IntKind} {i:Int} {y:Nat} {code:BoundsCode} (h0:0≤i) (h1:i≤y) (w:World):(Instr.sliceBound (.int k i) y code).run P w= .ok i.toNat w:=by
  simp only [Instr.sliceBound,asIntOf,Sem.run_bind,Sem.run_pure,Result.andThen_ok,h0,h1,and_self,if_true]
theorem Hf {sl:Bool} {lo hi mx lo' bG uW:Option Value} {len cap cr m h l:Nat} (hm:bound mx cap cap=some m) (hh:bound hi len m=some h) (hl:bound lo 0 h=some l)
    (Vi:¬ (hi=none∧mx≠none)) (hY:cap≤cr)
    (r1:∀ a,lo=some a→∃ b,lo' =some b∧V M a b) (n1:lo=none→lo' =none)
    (r2:∀ a,hi=some a→∃ b,bG =some b∧V M a b) (n2:hi=none→bG =none)
    (r3:∀ a,mx=some a→∃ b,uW =some b∧V M a b) (n3:mx=none→uW =none) (w:World) :
    (Instr.sliceBounds sl len cr lo' bG uW).run P w= .ok (l,h,if mx=none then cr else m) w∧l≤h∧(mx=none→m=cap)∧m≤cap:=by
  rcases wy hm r3 n3 with ⟨rfl,rfl,rfl⟩ | ⟨k3,i3,rfl,rfl,h30,h31,rfl⟩
  · rcases wy hh r2 n2 with ⟨rfl,rfl,rfl⟩ | ⟨k2,i2,rfl,rfl,h20,h21,rfl⟩
    · rcases wy hl r1 n1 with ⟨rfl,rfl,rfl⟩ | ⟨k1,i1,rfl,rfl,h10,h11,rfl⟩
      · exact ⟨by simp only [Instr.sliceBounds,pure_bind,Sem.run_pure,if_true],by omega,fun _=>rfl,Nat.le_refl _⟩
      · exact ⟨by simp only [Instr.sliceBounds,pure_bind,Sem.run_bind,run_sliceBound h10 h11,Result.andThen_ok,Sem.run_pure,if_true],by omega,fun _=>rfl,Nat.le_refl _⟩
    · have h22:i2≤cr:=by omega
      rcases wy hl r1 n1 with ⟨rfl,rfl,rfl⟩ | ⟨k1,i1,rfl,rfl,h10,h11,rfl⟩
      · exact ⟨by simp only [Instr.sliceBounds,pure_bind,Sem.run_bind,run_sliceBound h20 h22,Result.andThen_ok,Sem.run_pure,if_true],by omega,fun _=>rfl,Nat.le_refl _⟩
      · exact ⟨by simp only [Instr.sliceBounds,pure_bind,Sem.run_bind,run_sliceBound h20 h22,run_sliceBound h10 h11,Result.andThen_ok,Sem.run_pure,if_true],by omega,fun _=>rfl,Nat.le_refl _⟩
  · have h32:i3≤cr:=by omega
    rcases wy hh r2 n2 with ⟨rfl,rfl,rfl⟩ | ⟨k2,i2,rfl,rfl,h20,h21,rfl⟩
    · exact absurd ⟨rfl,by simp⟩ Vi
    · rcases wy hl r1 n1 with ⟨rfl,rfl,rfl⟩ | ⟨k1,i1,rfl,rfl,h10,h11,rfl⟩
      · exact ⟨by simp only [Instr.sliceBounds,pure_bind,Sem.run_bind,run_sliceBound h30 h32,run_sliceBound h20 h21,Result.andThen_ok,Sem.run_pure,reduceCtorEq,if_false],by omega,fun h=>by simp at h,by omega⟩
      · exact ⟨by simp only [Instr.sliceBounds,Sem.run_bind,run_sliceBound h30 h32,run_sliceBound h20 h21,run_sliceBound h10 h11,Result.andThen_ok,Sem.run_pure,reduceCtorEq,if_false],by omega,fun h=>by simp at h,by omega⟩
end Go.Proofs.YtkhlabammcghbaaGreat.Gh
