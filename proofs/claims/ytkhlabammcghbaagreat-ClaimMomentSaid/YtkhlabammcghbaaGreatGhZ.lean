import Derived.Test.YtkhlabammcghbaaGreatGhY
namespace Go.Proofs.YtkhlabammcghbaaGreat.Gh
open Go
variable {P:Program} {E:Ev} {B N:Nat} {ops:Array Oper} {ms:List Nat} {base:Nat} {T:Nat→List Value} {G:Nat→GS} {v:Nat→Value}
def qF:List Bool→Nat
  | []=>0
  | b::r=>(if b then 0 else 1)+qF r
theorem OM:∀ (l:List Bool) (i:Nat),l[i]? =some false→qF (l.set i true)+1=qF l
  | [],i,h=>by simp at h
  | b::r,0,h=>by simp at h; subst h; simp [qF]; omega
  | b::r,i+1,h=>by
    have:=OM r i (by simpa using h)
    simp only [List.set_cons_succ,qF]; omega
theorem OO:∀ (l:List Bool),qF l=0→∀ (i:Nat) (b:Bool),l[i]? =some b→b=true
  | [],_,_,_,h=>by simp at h
  | c::r,h0,i,b,h=>by
    simp only [qF] at h0
    cases i with
    | zero =>
      simp at h; subst h
      cases c
      · simp at h0
      · rfl
    | succ i=>exact OO r (by omega) i b (by simpa using h)
theorem OP:∀ n,qF (List.replicate n false)=n
  | 0=>rfl
  | n+1=>by simp [List.replicate_succ,qF,OP n]; omega
theorem Xh {Gs:GS} {M₀:Map} {w₀:World} (hE:jD P B E) (cY:Trace P E ops ms base T G v) (gU:vf ops ms) (tB:Gs.nx≤base) {b:Frame} {k:List Item} {cs:List Frame} :
    ∀ (fuel t:Nat) (listed:Array Bool) (q:Nat) (M:Map) (w:World) (a:Act),listed.size=ops.size→qF listed.toList≤fuel →
      eU ops ms base T G Gs M₀ w₀ B N (fun j=>listed.getD j false=true) q M w a→(q<ops.size→ei ops T 3 q) →
      ∃ (S:Nat→Prop) (q':Nat) (M':Map) (w':World) (a':Act),eU ops ms base T G Gs M₀ w₀ B N S q' M' w' a' ∧(∀ j,j<ops.size→S j)∧(q' <ops.size→ei ops T 3 q') ∧
        Steps P (lone (b.atR a (.inRegion ops (Region.linearise.go .any ops fuel t listed [])::k)) cs w) (lone (b.atR a' (.inRegion ops []::k)) cs w'):=by
  intro fuel
  induction fuel with
  | zero =>
    intro t listed q M w a cm hu h nY
    refine ⟨_,q,M,w,a,h,fun j hj=>?_,nY,by simp only [Region.linearise.go,List.reverse_nil]; exact .refl _ _⟩
    have:=OO listed.toList (by omega) j listed[j] (by simp [cm,hj])
    simp [cm,hj,this]
  | succ fuel ih =>
    intro t listed q M w a cm hu h nY
    by_cases ti:Region.ready .any ops listed=[]
    · refine ⟨_,q,M,w,a,h,?_,nY,?_⟩
      · intro j
        induction j using Nat.strongRecOn with
        | _ j Xi =>
          intro hj
          refine Classical.byContradiction fun hn=>?_
          have ho:ops[j]? =some ops[j]:=by simp [hj]
          have:j∈Region.ready .any ops listed:=mem_ready.2 ⟨by simp [cm,hj] at hn ⊢; exact hn,ops[j],ho,fun e he hb=>by
            have:=gU.back j _ e ho he hb
            exact Xi e.on this (by omega)⟩
          rw [ti] at this; cases this
      · have:Region.linearise.go .any ops (fuel+1) t listed []=[]:=by
          simp only [Region.linearise.go]
          change (match (Region.ready .any ops listed)[t % (Region.ready .any ops listed).length]? with
            | some i=>Region.linearise.go .any ops fuel (t / (Region.ready .any ops listed).length) (listed.setIfInBounds i true) [i]
            | none=>[].reverse)=[]
          rw [ti]; rfl
        rw [this]; exact .refl _ _
    · have aT:t % (Region.ready .any ops listed).length<(Region.ready .any ops listed).length:=Nat.mod_lt _ (List.length_pos_iff.2 ti)
      obtain ⟨i,hi⟩:∃ i,(Region.ready .any ops listed)[t % (Region.ready .any ops listed).length]? =some i:=⟨_,List.getElem?_eq_getElem aT⟩
      have Bq:Region.linearise.go .any ops (fuel+1) t listed []=i::Region.linearise.go .any ops fuel (t / (Region.ready .any ops listed).length) (listed.setIfInBounds i true) []:=by
        simp only [Region.linearise.go]
        change (match (Region.ready .any ops listed)[t % (Region.ready .any ops listed).length]? with
          | some i=>Region.linearise.go .any ops fuel (t / (Region.ready .any ops listed).length) (listed.setIfInBounds i true) [i]
          | none=>[].reverse)=_
        rw [hi]
        show Region.linearise.go .any ops fuel _ _ [i]=_
        rw [linearise_go_acc]; simp
      obtain ⟨vh,o,ho,qw⟩:=mem_ready.1 (List.mem_of_getElem? hi)
      have eJ:i<ops.size:=(Array.getElem?_eq_some_iff.1 ho).1
      have OQ:listed[i]? =some false:=by
        have hl:i<listed.size:=by omega
        simp [hl] at vh ⊢; exact vh
      obtain ⟨q1,M1,w1,a1,h1,s1⟩:=h.exec hE cY gU tB nY ho (by simp [OQ]) qw (b:=b) (k:=k) (cs:=cs) (rest:=Region.linearise.go .any ops fuel (t / (Region.ready .any ops listed).length) (listed.setIfInBounds i true) [])
      have hS:(fun j=>listed.getD j false=true∨j=i)=(fun j=>(listed.setIfInBounds i true).getD j false=true):=by
        funext j
        apply propext
        by_cases kX:i=j
        · subst kX
          have hl:i<listed.size:=by omega
          simp [hl]
        · rw [getD_set_ne false kX]
          exact ⟨fun hh=>hh.resolve_right (fun e=>kX e.symm),.inl⟩
      rw [hS] at h1
      obtain ⟨q2,h2,Xj⟩:=h1.max cY tB _ _ rfl
      have wx:qF (listed.setIfInBounds i true).toList≤fuel:=by
        have:=OM listed.toList i (by simpa using OQ)
        rw [Array.toList_setIfInBounds]; omega
      obtain ⟨S,q3,M3,w3,a3,h3,h4,h5,h6⟩:=ih (t / (Region.ready .any ops listed).length) (listed.setIfInBounds i true) q2 M1 w1 a1 (by simp [cm]) wx h2 Xj
      refine ⟨S,q3,M3,w3,a3,h3,h4,h5,?_⟩
      rw [Bq]; exact s1.trans h6
theorem Xk (kY:P.follows .mixedOrders=true) (hE:jD P B E):NI P B E:=by
  intro ops T₀ G₀ T' G' aV h id N M w b k cs a hR hT hm hN hb
  obtain ⟨T,G,v,cY,OS,DZ,Xl,OT⟩:=WO h
  have gU:=WS aV
  have H3:eU ops (masks ops.toList []) G₀.nx T G G₀ M { w with drawn:=w.drawn+1 } B N (fun j=>(Array.replicate ops.size false).getD j false=true) 0 M { w with drawn:=w.drawn+1 } a:=by
    have hS:∀ j,¬ ((Array.replicate ops.size false).getD j false=true):=by
      intro j
      by_cases hj:j<ops.size<;>simp [hj]
    have vh:∀ i,M.mu (G₀.nx+i)=none:=by
      intro i
      cases hx:M.mu (G₀.nx+i) with
      | none=>rfl
      | some x=>have:=hR.nx _ _ hx; omega
    have yM:Rel (G 0) M { w with drawn:=w.drawn+1 } B:=by
      rw [DZ]
      have:=hR.drawn (w.drawn+1)
      exact ⟨this.size,this.aY,this.apart,fun g x hx=>by have:=this.nx g x hx; show g<G₀.nx+ops.size; omega,this.lp,this.jz,this.mp,this.jA,this.iY,fun g hg=>this.wf g (by have dU:G₀.nx+ops.size≤g:=hg; omega),this.gl⟩
    refine { closed := fun k j hk => absurd hk (hS k), rR := Nat.zero_le _, ws := fun j _ => ⟨fun hj => absurd hj (hS j), fun hj => by omega⟩, rel := yM, nx := by rw [DZ]; exact Nat.le_refl _,
             jb:=?_,marks:=?_,len:=?_,slot:=fun d=>⟨0,Nat.zero_le _,fun j o _ _=>⟨fun hj=>absurd hj (hS j),fun hj=>by omega⟩,?_⟩,early:=fun i _ hi=>absurd hi (hS i),
             rS:=fun i j x y _ _ _ _ hx=>(by rw [vh] at hx; cases hx),un:=fun i _ _=>vh i,fresh:=fun m i hm _ _=>?_,late:=fun j hj=>by omega }
    · rw [DZ]
      have:=cy.refl G₀ M { w with drawn:=w.drawn+1 }
      exact ⟨this.map,this.size,this.keep,this.eu,rfl,rfl,rfl,Nat.le_add_right _ _,this.gk,this.gn⟩
    · exact hm
    · rw [OS]; simpa using iG hT
    · rw [OS]
      have:=AJ hT d
      rw [ju undef a.tmps.toList]; exact this
    · obtain rfl:m=0:=by omega
      rw [DZ]
      exact hR.wf (G₀.nx+i) (by omega)
  obtain ⟨q,H3,nY⟩:=H3.max cY (Nat.le_refl _) _ _ rfl
  obtain ⟨S,q',M',w',a',h1,h2,h3,h4⟩:=Xh hE cY gU (Nat.le_refl _) (b:=b) (k:=k) (cs:=cs) ops.size (w.tape w.drawn (.order b.fn id)) _ _ _ _ _ (by simp) (by simp [OP]) H3 nY
  have hq:q' =ops.size:=by
    rcases Nat.lt_or_ge q' ops.size with aT | nR
    · have:=(h1.ws q' (h3 aT)).1 (h2 q' aT)
      omega
    · have:=h1.rR; omega
  subst hq
  refine ⟨M',w',a',by rw [← OT]; exact h1.jb.He,by rw [← OT]; exact h1.rel,?_,h1.marks,?_⟩
  · rw [← Xl]
    refine N7 (by rw [cY.len _ (Nat.le_refl _),h1.len]; simp) fun d=>?_
    obtain ⟨p,Bm,yP,hv⟩:=h1.slot d
    rw [← cY.still (d:=d) ops.size Bm (Nat.le_refl _) fun j oj W0 hj dr qD=>by
      have:=(yP j oj dr qD).1 (h2 j hj); omega]
    exact hv
  · have OU:=stepR_region_draw (P:=P) (b:=b) (a:=a) (k:=k) (cs:=cs) (w:=w) (ops:=ops) (id:=id)
    simp only [Region.schedule,kY,Bool.true_or,if_true] at OU
    exact .head OU (h4.trans (.one stepR_region_end))
end Go.Proofs.YtkhlabammcghbaaGreat.Gh
