import Derived.Test.YtphandknhnkhfaaGreatGhY
namespace Go.Proofs.YtphandknhnkhfaaGreat.Gh
open Go
variable {P:Program} {E:Ev} {B N:Nat} {ops:Array Oper} {ms:List Nat} {base:Nat} {T:Nat→List Value} {G:Nat→GS} {v:Nat→Value}
def qt:List Bool→Nat
  | []=>0
  | b::r=>(if b then 0 else 1)+qt r
theorem M9:∀ (l:List Bool) (i:Nat),l[i]? =some false→qt (l.set i true)+1=qt l
  | [],i,h=>by simp at h
  | b::r,0,h=>by simp at h; subst h; simp [qt]; omega
  | b::r,i+1,h=>by
    have:=M9 r i (by simpa using h)
    simp only [List.set_cons_succ,qt]; omega
theorem Na:∀ (l:List Bool),qt l=0→∀ (i:Nat) (b:Bool),l[i]? =some b→b=true
  | [],_,_,_,h=>by simp at h
  | c::r,h0,i,b,h=>by
    simp only [qt] at h0
    cases i with
    | zero =>
      simp at h; subst h
      cases c
      · simp at h0
      · rfl
    | succ i=>exact Na r (by omega) i b (by simpa using h)
theorem Nb:∀ n,qt (List.replicate n false)=n
  | 0=>rfl
  | n+1=>by simp [List.replicate_succ,qt,Nb n]; omega
theorem V2 {Gs:GS} {M₀:Map} {w₀:World} (hE:jU P B E) (dj:Trace P E ops ms base T G v) (gU:uS ops ms) (tt:Gs.nx≤base) {b:Frame} {k:List Item} {cs:List Frame} :
    ∀ (fuel t:Nat) (listed:Array Bool) (q:Nat) (M:Map) (w:World) (a:Act),listed.size=ops.size→qt listed.toList≤fuel →
      fj ops ms base T G Gs M₀ w₀ B N (fun j=>listed.getD j false=true) q M w a→(q<ops.size→eD ops T 3 q) →
      ∃ (S:Nat→Prop) (q':Nat) (M':Map) (w':World) (a':Act),fj ops ms base T G Gs M₀ w₀ B N S q' M' w' a' ∧(∀ j,j<ops.size→S j)∧(q' <ops.size→eD ops T 3 q') ∧
        Steps P (lone (b.atR a (.inRegion ops (Region.linearise.go .any ops fuel t listed [])::k)) cs w) (lone (b.atR a' (.inRegion ops []::k)) cs w'):=by
  intro fuel
  induction fuel with
  | zero =>
    intro t listed q M w a cQ hu h od
    refine ⟨_,q,M,w,a,h,fun j hj=>?_,od,by simp only [Region.linearise.go,List.reverse_nil]; exact .refl _ _⟩
    have:=Na listed.toList (by omega) j listed[j] (by simp [cQ,hj])
    simp [cQ,hj,this]
  | succ fuel ih =>
    intro t listed q M w a cQ hu h od
    by_cases sZ:Region.ready .any ops listed=[]
    · refine ⟨_,q,M,w,a,h,?_,od,?_⟩
      · intro j
        induction j using Nat.strongRecOn with
        | _ j V3 =>
          intro hj
          refine Classical.byContradiction fun hn=>?_
          have ho:ops[j]? =some ops[j]:=by simp [hj]
          have:j∈Region.ready .any ops listed:=mem_ready.2 ⟨by simp [cQ,hj] at hn ⊢; exact hn,ops[j],ho,fun e he hb=>by
            have:=gU.back j _ e ho he hb
            exact V3 e.on this (by omega)⟩
          rw [sZ] at this; cases this
      · have:Region.linearise.go .any ops (fuel+1) t listed []=[]:=by
          simp only [Region.linearise.go]
          change (match (Region.ready .any ops listed)[t % (Region.ready .any ops listed).length]? with
            | some i=>Region.linearise.go .any ops fuel (t / (Region.ready .any ops listed).length) (listed.setIfInBounds i true) [i]
            | none=>[].reverse)=[]
          rw [sZ]; rfl
        rw [this]; exact .refl _ _
    · have aJ:t % (Region.ready .any ops listed).length<(Region.ready .any ops listed).length:=Nat.mod_lt _ (List.length_pos_iff.2 sZ)
      obtain ⟨i,hi⟩:∃ i,(Region.ready .any ops listed)[t % (Region.ready .any ops listed).length]? =some i:=⟨_,List.getElem?_eq_getElem aJ⟩
      have qs:Region.linearise.go .any ops (fuel+1) t listed []=i::Region.linearise.go .any ops fuel (t / (Region.ready .any ops listed).length) (listed.setIfInBounds i true) []:=by
        simp only [Region.linearise.go]
        change (match (Region.ready .any ops listed)[t % (Region.ready .any ops listed).length]? with
          | some i=>Region.linearise.go .any ops fuel (t / (Region.ready .any ops listed).length) (listed.setIfInBounds i true) [i]
          | none=>[].reverse)=_
        rw [hi]
        show Region.linearise.go .any ops fuel _ _ [i]=_
        rw [linearise_go_acc]; simp
      obtain ⟨uU,o,ho,qi⟩:=mem_ready.1 (List.mem_of_getElem? hi)
      have fG:i<ops.size:=(Array.getElem?_eq_some_iff.1 ho).1
      have Nc:listed[i]? =some false:=by
        have hl:i<listed.size:=by omega
        simp [hl] at uU ⊢; exact uU
      obtain ⟨q1,M1,w1,a1,h1,s1⟩:=h.exec hE dj gU tt od ho (by simp [Nc]) qi (b:=b) (k:=k) (cs:=cs) (rest:=Region.linearise.go .any ops fuel (t / (Region.ready .any ops listed).length) (listed.setIfInBounds i true) [])
      have hS:(fun j=>listed.getD j false=true∨j=i)=(fun j=>(listed.setIfInBounds i true).getD j false=true):=by
        funext j
        apply propext
        by_cases lC:i=j
        · subst lC
          have hl:i<listed.size:=by omega
          simp [hl]
        · rw [getD_set_ne false lC]
          exact ⟨fun hh=>hh.resolve_right (fun e=>lC e.symm),.inl⟩
      rw [hS] at h1
      obtain ⟨q2,h2,V4⟩:=h1.max dj tt _ _ rfl
      have vX:qt (listed.setIfInBounds i true).toList≤fuel:=by
        have:=M9 listed.toList i (by simpa using Nc)
        rw [Array.toList_setIfInBounds]; omega
      obtain ⟨S,q3,M3,w3,a3,h3,h4,h5,h6⟩:=ih (t / (Region.ready .any ops listed).length) (listed.setIfInBounds i true) q2 M1 w1 a1 (by simp [cQ]) vX h2 V4
      refine ⟨S,q3,M3,w3,a3,h3,h4,h5,?_⟩
      rw [qs]; exact s1.trans h6
theorem V5 (lD:P.follows .mixedOrders=true) (hE:jU P B E):L9 P B E:=by
  intro ops T₀ G₀ T' G' aP h id N M w b k cs a hR hT hm hN hb
  obtain ⟨T,G,v,dj,Nd,bl,V6,Ng⟩:=VD h
  have gU:=VH aP
  have Hb:fj ops (masks ops.toList []) G₀.nx T G G₀ M { w with drawn:=w.drawn+1 } B N (fun j=>(Array.replicate ops.size false).getD j false=true) 0 M { w with drawn:=w.drawn+1 } a:=by
    have hS:∀ j,¬ ((Array.replicate ops.size false).getD j false=true):=by
      intro j
      by_cases hj:j<ops.size<;>simp [hj]
    have uU:∀ i,M.mu (G₀.nx+i)=none:=by
      intro i
      cases hx:M.mu (G₀.nx+i) with
      | none=>rfl
      | some x=>have:=hR.nx _ _ hx; omega
    have wk:Rel (G 0) M { w with drawn:=w.drawn+1 } B:=by
      rw [bl]
      have:=hR.drawn (w.drawn+1)
      exact ⟨this.size,this.aZ,this.apart,fun g x hx=>by have:=this.nx g x hx; show g<G₀.nx+ops.size; omega,this.lp,this.jO,this.mp,this.jP,this.jj,fun g hg=>this.wf g (by have eZ:G₀.nx+ops.size≤g:=hg; omega),this.gl⟩
    refine { closed := fun k j hk => absurd hk (hS k), rF := Nat.zero_le _, ws := fun j _ => ⟨fun hj => absurd hj (hS j), fun hj => by omega⟩, rel := wk, nx := by rw [bl]; exact Nat.le_refl _,
             jl:=?_,marks:=?_,len:=?_,slot:=fun d=>⟨0,Nat.zero_le _,fun j o _ _=>⟨fun hj=>absurd hj (hS j),fun hj=>by omega⟩,?_⟩,early:=fun i _ hi=>absurd hi (hS i),
             rG:=fun i j x y _ _ _ _ hx=>(by rw [uU] at hx; cases hx),un:=fun i _ _=>uU i,fresh:=fun m i hm _ _=>?_,late:=fun j hj=>by omega }
    · rw [bl]
      have:=cI.refl G₀ M { w with drawn:=w.drawn+1 }
      exact ⟨this.map,this.size,this.keep,this.eF,rfl,rfl,rfl,Nat.le_add_right _ _,this.gk,this.gn⟩
    · exact hm
    · rw [Nd]; simpa using iQ hT
    · rw [Nd]
      have:=Ae hT d
      rw [jL undef a.tmps.toList]; exact this
    · obtain rfl:m=0:=by omega
      rw [bl]
      exact hR.wf (G₀.nx+i) (by omega)
  obtain ⟨q,Hb,od⟩:=Hb.max dj (Nat.le_refl _) _ _ rfl
  obtain ⟨S,q',M',w',a',h1,h2,h3,h4⟩:=V2 hE dj gU (Nat.le_refl _) (b:=b) (k:=k) (cs:=cs) ops.size (w.tape w.drawn (.order b.fn id)) _ _ _ _ _ (by simp) (by simp [Nb]) Hb od
  have hq:q' =ops.size:=by
    rcases Nat.lt_or_ge q' ops.size with aJ | nV
    · have:=(h1.ws q' (h3 aJ)).1 (h2 q' aJ)
      omega
    · have:=h1.rF; omega
  subst hq
  refine ⟨M',w',a',by rw [← Ng]; exact h1.jl.FQ,by rw [← Ng]; exact h1.rel,?_,h1.marks,?_⟩
  · rw [← V6]
    refine Mt (by rw [dj.len _ (Nat.le_refl _),h1.len]; simp) fun d=>?_
    obtain ⟨p,AK,yl,hv⟩:=h1.slot d
    rw [← dj.still (d:=d) ops.size AK (Nat.le_refl _) fun j oj VP hj dI qn=>by
      have:=(yl j oj dI qn).1 (h2 j hj); omega]
    exact hv
  · have Nh:=stepR_region_draw (P:=P) (b:=b) (a:=a) (k:=k) (cs:=cs) (w:=w) (ops:=ops) (id:=id)
    simp only [Region.schedule,lD,Bool.true_or,if_true] at Nh
    exact .head Nh (h4.trans (.one stepR_region_end))
end Go.Proofs.YtphandknhnkhfaaGreat.Gh
