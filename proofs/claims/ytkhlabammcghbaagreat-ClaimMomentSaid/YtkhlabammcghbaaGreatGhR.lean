import Derived.Test.YtkhlabammcghbaaGreatEB
namespace Go.Proofs.YtkhlabammcghbaaGreat.Gh
open Go
variable {P:Program} {M:Map} {B:Nat} {E:Ev}
theorem Wk {b:Frame} {a:Act} {k:List Item} {cs:List Frame} {w:World} {c:Code}:step P (lone (b.atR a (.code (.scope c)::k)) cs w)= .next (lone (b.atR a (.code c:: .inScope c::k)) cs w) :=
  step_lone_go (by simp [stepG,stepG.exec,Frame.atR])
theorem Wl {b:Frame} {a:Act} {k:List Item} {cs:List Frame} {w:World} {c:Code}:step P (lone (b.atR a (.inScope c::k)) cs w)= .next (lone (b.atR a k) cs w) :=
  step_lone_go (by simp [stepG,stepG.exec,Frame.atR])
theorem Reach.stay {T:List Value} {G:GS} {e:Exit} {todo:List Item} (h:∀ (w:World) (b:Frame) (k:List Item) (cs:List Frame) (a:Act),Bc P (lone (b.atR a (todo++k)) cs w) b k cs e a w):Reach P B todo T G e T G :=
  fun _ M w b k cs a hR hT hm _ _=>⟨M,w,a,.refl _ _ _,hR,hT,hm,h w b k cs a⟩
theorem Reach.first {x:Item} {ys:List Item} {T T1 T':List Value} {G G1 G':GS} {e:Exit} (h1:Reach P B [x] T G .normal T1 G1) (h2:Reach P B ys T1 G1 e T' G'):Reach P B (x::ys) T G e T' G':=by
  intro N M w b k cs a hR hT hm hN hb
  obtain ⟨M1,w1,a1,e1,r1,t1,m1,s1⟩:=h1 N M w b (ys++k) cs a hR hT hm hN hb
  obtain ⟨M2,w2,a2,e2,r2,t2,m2,s2⟩:=h2 N M1 w1 b k cs a1 r1 t1 m1 (Nat.le_trans hN e1.size) (hb.mono e1.map)
  exact ⟨M2,w2,a2,e1.trans e2,r2,t2,m2,.of_steps s1 s2⟩
theorem Reach.step {xs ys:List Item} {T T':List Value} {G G':GS} {e:Exit} (h:Reach P B ys T G e T' G')
    (hs:∀ (M:Map) (w:World) (b:Frame) (k:List Item) (cs:List Frame) (a:Act),Vs M T a.tmps.toList→Steps P (lone (b.atR a (xs++k)) cs w) (lone (b.atR a (ys++k)) cs w)):Reach P B xs T G e T' G':=by
  intro N M w b k cs a hR hT hm hN hb
  obtain ⟨M2,w2,a2,e2,r2,t2,m2,s2⟩:=h N M w b k cs a hR hT hm hN hb
  exact ⟨M2,w2,a2,e2,r2,t2,m2,.of_steps (hs M w b k cs a hT) s2⟩
theorem Reach.pass {x:Item} {ys:List Item} {T T':List Value} {G G':GS} {e:Exit} (h:Reach P B [x] T G e T' G') (he:e≠ .normal)
    (hx:∀ id k,e= .exit id→exitTo id (ys++k)=exitTo id k) (hg:∀ l k,e= .goto l→gotoIn l (ys++k)=gotoIn l k):Reach P B (x::ys) T G e T' G':=by
  intro N M w b k cs a hR hT hm hN hb
  obtain ⟨M2,w2,a2,e2,r2,t2,m2,s2⟩:=h N M w b (ys++k) cs a hR hT hm hN hb
  refine ⟨M2,w2,a2,e2,r2,t2,m2,?_⟩
  cases e with
  | normal=>exact absurd rfl he
  | exit id=>obtain ⟨k₁,h1,h2⟩:=s2; exact ⟨k₁,by rw [h1,hx id k rfl],h2⟩
  | goto l=>obtain ⟨k₁,h1,h2⟩:=s2; exact ⟨k₁,by rw [h1,hg l k rfl],h2⟩
  | ret=>exact s2
  | panic c=>exact s2
  | outgrown=>exact s2
def NI (P:Program) (B:Nat) (E:Ev):Prop :=
  ∀ (ops:Array Oper) (T:List Value) (G:GS) (T':List Value) (G':GS),uO ops=true→mV P E ops (masks ops.toList []) G.nx 0 ops.toList T { G with nx:=G.nx+ops.size } [] []=some (T',G') →
    ∀ (id:Nat),Reach P B [.code (.region id ops true)] T G .normal T' G'
theorem Wm (hE:jD P B E) (hD:NI P B E) {c:Code} {T T':List Value} {G G':GS} {e:Exit} (h:iW P E c T G=some (e,T',G')):Reach P B [.code c] T G e T' G':=by
  cases c with
  | skip =>
    simp only [iW,Option.some.injEq,Prod.mk.injEq] at h
    obtain ⟨rfl,rfl,rfl⟩:=h
    exact .stay fun w b k cs a=>.one stepR_skip
  | label l =>
    simp only [iW,Option.some.injEq,Prod.mk.injEq] at h
    obtain ⟨rfl,rfl,rfl⟩:=h
    exact .stay fun w b k cs a=>.one stepR_label
  | exit id =>
    simp only [iW,Option.some.injEq,Prod.mk.injEq] at h
    obtain ⟨rfl,rfl,rfl⟩:=h
    exact .stay fun w b k cs a=>⟨k,rfl,.refl _ _⟩
  | goto l =>
    simp only [iW,Option.some.injEq,Prod.mk.injEq] at h
    obtain ⟨rfl,rfl,rfl⟩:=h
    exact .stay fun w b k cs a=>⟨k,rfl,.refl _ _⟩
  | ret =>
    simp only [iW,Option.some.injEq,Prod.mk.injEq] at h
    obtain ⟨rfl,rfl,rfl⟩:=h
    exact .stay fun w b k cs a=>⟨k,.refl _ _⟩
  | refuse s=>simp [iW] at h
  | seq x y =>
    simp only [iW] at h
    refine Reach.step (ys:=[.code x,.code y]) ?_ fun M w b k cs a _=>.one stepR_seq
    split at h
    · rename_i T1 G1 hx
      exact .first (hE.ex _ _ _ _ _ _ hx) (hE.ex _ _ _ _ _ _ h)
    · rename_i aB
      exact .pass (hE.ex _ _ _ _ _ _ h) (fun he=>by subst he; exact aB _ _ h) (fun _ _ _=>rfl) (fun _ _ _=>rfl)
  | cond x y z =>
    simp only [iW] at h
    split at h
    · simp at h
    rename_i aV
    have aV:db x=true:=by simpa using aV
    split at h
    · rename_i hx
      refine Reach.step (ys:=[.code y]) (hE.ex _ _ _ _ _ _ h) fun M w b k cs a hT=>?_
      have:=cV hT aV
      rw [hx] at this
      exact .one (stepR_cond (t:=true) (iX.1 this))
    · rename_i hx
      refine Reach.step (ys:=[.code z]) (hE.ex _ _ _ _ _ _ h) fun M w b k cs a hT=>?_
      have:=cV hT aV
      rw [hx] at this
      exact .one (stepR_cond (t:=false) (iX.1 this))
    · simp at h
  | block id y =>
    simp only [iW] at h
    refine Reach.step (ys:=[.code y,.inBlock id]) ?_ fun M w b k cs a _=>.one stepR_block
    split at h
    · rename_i gQ T1 G1 hy
      have hr:=hE.ex _ _ _ _ _ _ hy
      split at h
      · rename_i HM
        subst HM
        simp only [Option.some.injEq,Prod.mk.injEq] at h
        obtain ⟨rfl,rfl,rfl⟩:=h
        intro N M w b k cs a hR hT hm hN hb
        obtain ⟨M2,w2,a2,e2,r2,t2,m2,k₁,h1,h2⟩:=hr N M w b (.inBlock gQ ::k) cs a hR hT hm hN hb
        refine ⟨M2,w2,a2,e2,r2,t2,m2,h2.trans (.one (stepR_exit ?_))⟩
        rw [h1]; simp [exitTo]
      · rename_i HM
        simp only [Option.some.injEq,Prod.mk.injEq] at h
        obtain ⟨rfl,rfl,rfl⟩:=h
        refine .pass hr (by simp) (fun NJ k he=>?_) (fun _ _ he=>by cases he)
        cases he
        simp only [List.cons_append,List.nil_append,exitTo]
        rw [if_neg (by simpa using fun e=>HM e.symm)]
    · rename_i aB
      have hr:=hE.ex _ _ _ _ _ _ h
      cases e with
      | normal=>exact .first hr (.stay fun w b k cs a=>.one stepR_inBlock)
      | exit NJ=>exact absurd h (aB _ _ _)
      | goto l=>exact .pass hr (by simp) (fun _ _ he=>by cases he) (fun _ _ _=>rfl)
      | ret=>exact .pass hr (by simp) (fun _ _ he=>by cases he) (fun _ _ he=>by cases he)
      | panic c=>exact .pass hr (by simp) (fun _ _ he=>by cases he) (fun _ _ he=>by cases he)
      | outgrown=>exact .pass hr (by simp) (fun _ _ he=>by cases he) (fun _ _ he=>by cases he)
  | loop y =>
    simp only [iW] at h
    exact Reach.step (ys:=[.code y,.inLoop y]) (hE.lp _ _ _ _ _ _ h) fun M w b k cs a _=>.one stepR_loop
  | scope y =>
    simp only [iW] at h
    exact Reach.step (ys:=[.code y,.inScope y]) (hE.sc _ _ _ _ _ _ _ h) fun M w b k cs a _=>.one Wk
  | region id ops draw =>
    simp only [iW] at h
    split at h
    · rename_i hd
      subst hd
      split at h
      · rename_i aV
        split at h
        · rename_i T1 G1 eL
          simp only [Option.some.injEq,Prod.mk.injEq] at h
          obtain ⟨rfl,rfl,rfl⟩:=h
          exact hD _ _ _ _ _ aV eL id
        · simp at h
      · simp at h
    · rename_i hd
      have hd:draw=false:=by simpa using hd
      subst hd
      split at h
      · rename_i T1 G1 eL
        simp only [Option.some.injEq,Prod.mk.injEq] at h
        obtain ⟨rfl,rfl,rfl⟩:=h
        intro N M w b k cs a hR hT hm hN hb
        obtain ⟨M2,w2,a2,e2,r2,t2,m2,s2⟩:=HK hE (b:=b) (k:=k) (cs:=cs) ops.toList 0 _ _ _ _ M w a (by simp) eL hR hT hm
        refine ⟨M2,w2,a2,e2,r2,t2,m2,.head stepR_region ?_⟩
        rw [List.range_eq_range']
        simpa using s2
      · simp at h
  | rangeFunc f ps assign body =>
    simp only [iW] at h
    split at h
    · simp at h
    rename_i aV
    have aV:db f=true:=by simpa using aV
    split at h
    · rename_i g fa fb Bf
      split at h
      · rename_i v G2 jW
        split at h
        · rename_i p hp
          split at h
          · simp at h
          rename_i Wn
          split at h
          · rename_i ex DN
            simp only [Option.some.injEq,Prod.mk.injEq] at h
            obtain ⟨rfl,rfl,rfl⟩:=h
            intro N M w b k cs a hR hT hm hN hb
            have hf:=cV hT aV
            rw [Bf] at hf
            obtain ⟨f',qC,tv,tl,fH,iJ,rP⟩:=kT.1 hf
            simp only [wq] at fH; subst fH
            obtain ⟨fn,tt,u5,Be⟩:=hE.yJ _ _ _ _ _ jW
            obtain ⟨lr,mark,w1,he,HN,yM,NK,Ht⟩:∃ (lr:Nat) (mark:List Deferred) (w1:World),
                (Instr.enterLoop b.fn a.tmps ps assign body b.roundOf).run P w= .ok (lr,mark) w1 ∧
                cy G M w (G.dS ⟨.ready,none,T,ps.toList,assign,body⟩) (M.yK G.nl lr) w1∧Rel (G.dS ⟨.ready,none,T,ps.toList,assign,body⟩) (M.yK G.nl lr) w1 B ∧
                (M.yK G.nl lr).lp G.nl=some lr∧tq N (mark++a.defers) w1:=by
              cases HO:b.roundOf with
              | none =>
                obtain ⟨hO,Wo⟩:=hR.other (.deferred (some []))
                have fu:=hO.dS (p:=⟨.ready,none,T,ps.toList,assign,body⟩) (lo:={ state:=.ready,pending:=none,fn:=b.fn,tmps:=a.tmps,params:=ps,assign,body,defers:=w.heap.size }) rfl rfl hT rfl rfl rfl
                have cm:(w.alloc (.deferred (some []))).heap.size=w.heap.size+1:=by simp
                rw [cm] at fu
                refine ⟨w.heap.size+1,_,_,run_enterLoop_outer _ _ _ _ _,Wo.trans fu.2.1,fu.1,fu.2.2,?_⟩
                · obtain ⟨rs,h1,h2,h3⟩:=hm
                  refine ⟨w.heap.size::rs,by simp [h1],List.nodup_cons.2 ⟨fun HP=>?_,h2⟩,fun r hr=>?_⟩
                  · have:=(Array.getElem?_eq_some_iff.1 (h3 _ HP).2).1; omega
                  · rcases List.mem_cons.1 hr with rfl | hr
                    · refine ⟨hN,?_⟩
                      rw [heap_alloc_old (by simp)]
                      exact World.alloc_heap_new w _
                    · have aT:=(Array.getElem?_eq_some_iff.1 (h3 _ hr).2).1
                      exact ⟨(h3 r hr).1,by rw [heap_alloc_old (by simp; omega),heap_alloc_old aT]; exact (h3 r hr).2⟩
              | some r0 =>
                obtain ⟨l0,qy⟩:=hb r0 HO
                obtain ⟨_,p0,_,_,NM,Wq,_⟩:=hR.lp l0 r0 qy
                have fu:=hR.dS (p:=⟨.ready,none,T,ps.toList,assign,body⟩) (lo:={ state:=.ready,pending:=none,fn:=b.fn,tmps:=a.tmps,params:=ps,assign,body,defers:=NM.defers }) rfl rfl hT rfl rfl rfl
                refine ⟨w.heap.size,[],w.alloc (.loop { state:=.ready,pending:=none,fn:=b.fn,tmps:=a.tmps,params:=ps,assign,body,defers:=NM.defers }),?_,fu.2.1,fu.1,fu.2.2,?_⟩
                · unfold Instr.enterLoop
                  simp only [Sem.run_bind,run_getLoop Wq,run_newObj_alloc,Result.andThen,Sem.run_pure]
                · obtain ⟨rs,h1,h2,h3⟩:=hm
                  refine ⟨rs,by simpa using h1,h2,fun r hr=>?_⟩
                  have aT:=(Array.getElem?_eq_some_iff.1 (h3 _ hr).2).1
                  exact ⟨(h3 r hr).1,by rw [heap_alloc_old aT]; exact (h3 r hr).2⟩
            have Wr:(resolve a.eval (rangeCall f lr) 0).run P w1= .ok { target:=.fn (.func g) tv,args:=qC ++ #[.func (.yield lr) #[] #[]] } w1:=by
              have kV:Array.map a.eval #[Operand.const (Value.func (Fn.yield lr) #[] #[])]= #[Value.func (Fn.yield lr) #[] #[]]:=by simp [Act.eval]
              simp only [resolve,Deferred.ofValue,tl,Sem.run_pure,kV]
            have hinv:(invoke (.fn (.func g) tv) (qC ++ #[Value.func (.yield lr) #[] #[]])).run P w1= .ok (.enter g (qC ++ #[Value.func (.yield lr) #[] #[]]++tv)) w1:=by
              simp only [invoke,HJ tt u5 Be]
            have jV:Vs (M.yK G.nl lr) (fa.toList++[.func (.yield G.nl) #[] #[]]++fb.toList) (qC ++ #[Value.func (.yield lr) #[] #[]]++tv).toList:=by
              simp only [Array.toList_append]
              refine uQ (uQ (iJ.mono HN.map) ⟨kT.2 ⟨.yield lr,#[],#[],rfl,⟨lr,NK,rfl⟩,trivial,trivial⟩,trivial⟩) (rP.mono HN.map)
            obtain ⟨M2,w2,fr,v',e2,r2,vb,s2,_,Ws⟩:=hE.cl _ _ _ _ _ jW (M.yK G.nl lr) w1 _ (b.atR { a with defers:=mark++a.defers } (.inRangeFunc lr::k)::cs) yM jV
            have NN:=e2.map.lp _ _ NK
            obtain ⟨_,p',dB,_,tn,NP,au,Bi,_⟩:=r2.lp _ _ NN
            obtain rfl:p' =p:=by rw [hp] at dB; exact (Option.some.inj dB).symm
            have rQ:=run_endLoop (P:=P) NP (by rw [au]; exact Wn)
            obtain ⟨r3,e3⟩:=r2.bR (q:={ p' with st:=.exhausted }) (lo':={ tn with state:=.exhausted }) NN hp NP ⟨rfl,rfl,rfl,rfl⟩ rfl Bi ⟨rfl,rfl,rfl,rfl⟩
            have NQ:=(HN.trans e2).trans e3
            refine ⟨M2,w2.putObj lr (.loop { tn with state:=.exhausted }),{ a with defers:=mark++a.defers },NQ,r3,hT.mono NQ.map,(Ht.jb yM e2).jb r2 e3,?_⟩
            have s1:∀ jump,tn.pending=jump→Steps P (lone (b.atR a (.code (.rangeFunc f ps assign body)::k)) cs w) (lone (b.atR { a with defers:=mark++a.defers } ((jump.map Item.code).toList++k)) cs (w2.putObj lr (.loop { tn with state:=.exhausted }))):=by
              intro jump hj
              have rQ:(Instr.endLoop lr).run P w2= .ok jump (w2.putObj lr (.loop { tn with state:=.exhausted })):=by rw [← hj]; exact rQ
              refine .head (stepR_rangeFunc he Wr hinv) (s2.trans (.head ?_ (.one (stepR_endRangeFunc rQ))))
              rw [← finish_atR_inRangeFunc lr v']
              exact step_leave_returned Ws
            unfold Dq at DN
            split at DN<;>simp only [Option.some.injEq,reduceCtorEq] at DN<;>subst DN<;>rename_i DO
            · exact s1 none (by rw [Bi,DO])
            · exact ⟨k,s1 (some .ret) (by rw [Bi,DO])⟩
            · exact ⟨k,rfl,s1 (some (.exit _)) (by rw [Bi,DO])⟩
            · exact ⟨k,rfl,s1 (some (.goto _)) (by rw [Bi,DO])⟩
          · simp at h
        · simp at h
      · simp at h
    · simp at h
end Go.Proofs.YtkhlabammcghbaaGreat.Gh
