import Derived.Test.YtlaojmcekeohnaaGreatDoorGhY
namespace Go.Proofs.YtlaojmcekeohnaaGreatDoor.Gh
open Go
variable {P:Program} {E:Ev} {B N:Nat} {ops:Array Oper} {ms:List Nat} {base:Nat} {T:Nat→List Value} {G:Nat→GS} {v:Nat→Value}
def unl:List Bool→Nat
  | []=>0
  | b::r=>(if b then 0 else 1)+unl r
theorem unl_set:∀ (l:List Bool) (i:Nat),l[i]? =some false→unl (l.set i true)+1=unl l
  | [],i,h=>by simp at h
  | b::r,0,h=>by simp at h; subst h; simp [unl]; omega
  | b::r,i+1,h=>by
    have:=unl_set r i (by simpa using h)
    simp only [List.set_cons_succ,unl]; omega
theorem unl_zero:∀ (l:List Bool),unl l=0→∀ (i:Nat) (b:Bool),l[i]? =some b→b=true
  | [],_,_,_,h=>by simp at h
  | c::r,h0,i,b,h=>by
    simp only [unl] at h0
    cases i with
    | zero =>
      simp at h; subst h
      cases c
      · simp at h0
      · rfl
    | succ i=>exact unl_zero r (by omega) i b (by simpa using h)
theorem unl_replicate:∀ n,unl (List.replicate n false)=n
  | 0=>rfl
  | n+1=>by simp [List.replicate_succ,unl,unl_replicate n]; omega
theorem draw_steps {Gs:GS} {M₀:Map} {w₀:World} (hE:SimE P B E) (hTr:Trace P E ops ms base T G v) (hEd:Edges ops ms) (hGs:Gs.nx≤base) {b:Frame} {k:List Item} {cs:List Frame} :
    ∀ (fuel t:Nat) (listed:Array Bool) (q:Nat) (M:Map) (w:World) (a:Act),listed.size=ops.size→unl listed.toList≤fuel →
      DInv ops ms base T G Gs M₀ w₀ B N (fun j=>listed.getD j false=true) q M w a→(q<ops.size→IsK ops T 3 q) →
      ∃ (S:Nat→Prop) (q' :Nat) (M' :Map) (w' :World) (a' :Act),DInv ops ms base T G Gs M₀ w₀ B N S q' M' w' a' ∧(∀ j,j<ops.size→S j)∧(q' <ops.size→IsK ops T 3 q') ∧
        Steps P (lone (b.atR a (.inRegion ops (Region.linearise.go .any ops fuel t listed [])::k)) cs w) (lone (b.atR a' (.inRegion ops []::k)) cs w'):=by
  intro fuel
  induction fuel with
  | zero =>
    intro t listed q M w a hsz hu h hmax
    refine ⟨_,q,M,w,a,h,fun j hj=> ?_,hmax,by simp only [Region.linearise.go,List.reverse_nil]; exact .refl _ _⟩
    have:=unl_zero listed.toList (by omega) j listed[j] (by simp [hsz,hj])
    simp [hsz,hj,this]
  | succ fuel ih =>
    intro t listed q M w a hsz hu h hmax
    by_cases hnil:Region.ready .any ops listed=[]
    · refine ⟨_,q,M,w,a,h,?_,hmax,?_⟩
      · intro j
        induction j using Nat.strongRecOn with
        | _ j ihj =>
          intro hj
          refine Classical.byContradiction fun hn=> ?_
          have ho:ops[j]? =some ops[j]:=by simp [hj]
          have:j∈Region.ready .any ops listed:=mem_ready.2 ⟨by simp [hsz,hj] at hn ⊢; exact hn,ops[j],ho,fun e he hb=>by
            have:=hEd.back j _ e ho he hb
            exact ihj e.on this (by omega)⟩
          rw [hnil] at this; cases this
      · have:Region.linearise.go .any ops (fuel+1) t listed []=[]:=by
          simp only [Region.linearise.go]
          change (match (Region.ready .any ops listed)[t % (Region.ready .any ops listed).length]? with
            | some i=>Region.linearise.go .any ops fuel (t / (Region.ready .any ops listed).length) (listed.setIfInBounds i true) [i]
            | none=>[].reverse)=[]
          rw [hnil]; rfl
        rw [this]; exact .refl _ _
    · have hlt:t % (Region.ready .any ops listed).length<(Region.ready .any ops listed).length:=Nat.mod_lt _ (List.length_pos_iff.2 hnil)
      obtain ⟨i,hi⟩:∃ i,(Region.ready .any ops listed)[t % (Region.ready .any ops listed).length]? =some i:=⟨_,List.getElem?_eq_getElem hlt⟩
      have hgo:Region.linearise.go .any ops (fuel+1) t listed []=i::Region.linearise.go .any ops fuel (t / (Region.ready .any ops listed).length) (listed.setIfInBounds i true) []:=by
        simp only [Region.linearise.go]
        change (match (Region.ready .any ops listed)[t % (Region.ready .any ops listed).length]? with
          | some i=>Region.linearise.go .any ops fuel (t / (Region.ready .any ops listed).length) (listed.setIfInBounds i true) [i]
          | none=>[].reverse)=_
        rw [hi]
        show Region.linearise.go .any ops fuel _ _ [i]=_
        rw [linearise_go_acc]; simp
      obtain ⟨hun,o,ho,hall⟩:=mem_ready.1 (List.mem_of_getElem? hi)
      have hin:i<ops.size:=(Array.getElem?_eq_some_iff.1 ho).1
      have hfalse:listed[i]? =some false:=by
        have hl:i<listed.size:=by omega
        simp [hl] at hun ⊢; exact hun
      obtain ⟨q1,M1,w1,a1,h1,s1⟩:=h.exec hE hTr hEd hGs hmax ho (by simp [hfalse]) hall (b:=b) (k:=k) (cs:=cs) (rest:=Region.linearise.go .any ops fuel (t / (Region.ready .any ops listed).length) (listed.setIfInBounds i true) [])
      have hS:(fun j=>listed.getD j false=true∨j=i)=(fun j=>(listed.setIfInBounds i true).getD j false=true):=by
        funext j
        apply propext
        by_cases hji:i=j
        · subst hji
          have hl:i<listed.size:=by omega
          simp [hl]
        · rw [getD_set_ne false hji]
          exact ⟨fun hh=>hh.resolve_right (fun e=>hji e.symm),.inl⟩
      rw [hS] at h1
      obtain ⟨q2,h2,hmax2⟩:=h1.max hTr hGs _ _ rfl
      have hu' :unl (listed.setIfInBounds i true).toList≤fuel:=by
        have:=unl_set listed.toList i (by simpa using hfalse)
        rw [Array.toList_setIfInBounds]; omega
      obtain ⟨S,q3,M3,w3,a3,h3,h4,h5,h6⟩:=ih (t / (Region.ready .any ops listed).length) (listed.setIfInBounds i true) q2 M1 w1 a1 (by simp [hsz]) hu' h2 hmax2
      refine ⟨S,q3,M3,w3,a3,h3,h4,h5,?_⟩
      rw [hgo]; exact s1.trans h6
theorem draws_ok (hmix:P.follows .mixedOrders=true) (hE:SimE P B E):DrawsOk P B E:=by
  intro ops T₀ G₀ T' G' hok h id N M w b k cs a hR hT hm hN hb
  obtain ⟨T,G,v,hTr,hT0,hG0,hTn,hGn⟩:=trace_all h
  have hEd:=edges_of hok
  have hstart:DInv ops (masks ops.toList []) G₀.nx T G G₀ M { w with drawn:=w.drawn+1 } B N (fun j=>(Array.replicate ops.size false).getD j false=true) 0 M { w with drawn:=w.drawn+1 } a:=by
    have hS:∀ j,¬ ((Array.replicate ops.size false).getD j false=true):=by
      intro j
      by_cases hj:j<ops.size<;>simp [hj]
    have hun:∀ i,M.mu (G₀.nx+i)=none:=by
      intro i
      cases hx:M.mu (G₀.nx+i) with
      | none=>rfl
      | some x=>have:=hR.nx _ _ hx; omega
    have hR1:Rel (G 0) M { w with drawn:=w.drawn+1 } B:=by
      rw [hG0]
      have:=hR.drawn (w.drawn+1)
      exact ⟨this.size,this.blk,this.apart,fun g x hx=>by have:=this.nx g x hx; show g<G₀.nx+ops.size; omega,this.lp,this.lpinj,this.mp,this.mpinj,this.mplp,fun g hg=>this.wf g (by have hg' :G₀.nx+ops.size≤g:=hg; omega),this.gl⟩
    refine { closed := fun k j hk => absurd hk (hS k), qle := Nat.zero_le _, ws := fun j _ => ⟨fun hj => absurd hj (hS j), fun hj => by omega⟩, rel := hR1, nx := by rw [hG0]; exact Nat.le_refl _,
             evo:= ?_,marks:= ?_,len:= ?_,slot:=fun d=>⟨0,Nat.zero_le _,fun j o _ _=>⟨fun hj=>absurd hj (hS j),fun hj=>by omega⟩,?_⟩,early:=fun i _ hi=>absurd hi (hS i),
             eapart:=fun i j x y _ _ _ _ hx=>(by rw [hun] at hx; cases hx),un:=fun i _ _=>hun i,fresh:=fun m i hm _ _=> ?_,late:=fun j hj=>by omega }
    · rw [hG0]
      have:=Evo.refl G₀ M { w with drawn:=w.drawn+1 }
      exact ⟨this.map,this.size,this.keep,this.foot,rfl,rfl,rfl,Nat.le_add_right _ _,this.gk,this.gn⟩
    · exact hm
    · rw [hT0]; simpa using lrel_length hT
    · rw [hT0]
      have:=nth_rel hT d
      rw [nth_eq undef a.tmps.toList]; exact this
    · obtain rfl:m=0:=by omega
      rw [hG0]
      exact hR.wf (G₀.nx+i) (by omega)
  obtain ⟨q,hstart,hmax⟩:=hstart.max hTr (Nat.le_refl _) _ _ rfl
  obtain ⟨S,q',M',w',a',h1,h2,h3,h4⟩:=draw_steps hE hTr hEd (Nat.le_refl _) (b:=b) (k:=k) (cs:=cs) ops.size (w.tape w.drawn (.order b.fn id)) _ _ _ _ _ (by simp) (by simp [unl_replicate]) hstart hmax
  have hq:q' =ops.size:=by
    rcases Nat.lt_or_ge q' ops.size with hlt | hge
    · have:=(h1.ws q' (h3 hlt)).1 (h2 q' hlt)
      omega
    · have:=h1.qle; omega
  subst hq
  refine ⟨M',w',a',by rw [← hGn]; exact h1.evo.drawnL,by rw [← hGn]; exact h1.rel,?_,h1.marks,?_⟩
  · rw [← hTn]
    refine Vs_of_nth (by rw [hTr.len _ (Nat.le_refl _),h1.len]; simp) fun d=> ?_
    obtain ⟨p,hpn,hpw,hv⟩:=h1.slot d
    rw [← hTr.still (d:=d) ops.size hpn (Nat.le_refl _) fun j oj hpj hj hoj hdst=>by
      have:=(hpw j oj hoj hdst).1 (h2 j hj); omega]
    exact hv
  · have hstep:=stepR_region_draw (P:=P) (b:=b) (a:=a) (k:=k) (cs:=cs) (w:=w) (ops:=ops) (id:=id)
    simp only [Region.schedule,hmix,Bool.true_or,if_true] at hstep
    exact .head hstep (h4.trans (.one stepR_region_end))
end Go.Proofs.YtlaojmcekeohnaaGreatDoor.Gh
