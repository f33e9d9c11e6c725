import Derived.Test.YtkhlabammcghbaaGreatGhR
namespace Go.Proofs.YtkhlabammcghbaaGreat.Gh
open Go
variable {P:Program} {M:Map} {B:Nat} {E:Ev}
theorem Wt (hE:jD P B E) {body cur:Code} {T T':List Value} {G G':GS} {e:Exit} (h:pa E body cur T G=some (e,T',G')):Reach P B [.code cur,.inScope body] T G e T' G':=by
  simp only [pa] at h
  split at h
  · rename_i l T1 G1 hx
    have hr:=hE.ex _ _ _ _ _ _ hx
    split at h
    · rename_i rest hf
      have hn:=hE.sc _ _ _ _ _ _ _ h
      intro N M w b k cs a hR hT hm hN hb
      obtain ⟨M2,w2,a2,e2,r2,t2,m2,k₁,h1,h2⟩:=hr N M w b (.inScope body::k) cs a hR hT hm hN hb
      have hg:gotoIn l k₁=some (.code rest:: .inScope body::k):=by rw [h1]; simp [gotoIn,hf]
      obtain ⟨M3,w3,a3,e3,r3,t3,m3,s3⟩:=hn N M2 w2 b k cs a2 r2 t2 m2 (Nat.le_trans hN e2.size) (hb.mono e2.map)
      exact ⟨M3,w3,a3,e2.trans e3,r3,t3,m3,.of_steps (h2.trans (.one (stepR_goto hg))) s3⟩
    · rename_i hf
      simp only [Option.some.injEq,Prod.mk.injEq] at h
      obtain ⟨rfl,rfl,rfl⟩:=h
      refine .pass hr (by simp) (fun _ _ he=>by cases he) (fun l' k he=>?_)
      cases he
      simp [gotoIn,hf]
  · rename_i aB
    have hr:=hE.ex _ _ _ _ _ _ h
    cases e with
    | normal=>exact .first hr (.stay fun w b k cs a=>.one Wl)
    | goto l=>exact absurd h (aB _ _ _)
    | exit NJ=>exact .pass hr (by simp) (fun _ _ _=>rfl) (fun _ _ he=>by cases he)
    | ret=>exact .pass hr (by simp) (fun _ _ he=>by cases he) (fun _ _ he=>by cases he)
    | panic c=>exact .pass hr (by simp) (fun _ _ he=>by cases he) (fun _ _ he=>by cases he)
    | outgrown=>exact .pass hr (by simp) (fun _ _ he=>by cases he) (fun _ _ he=>by cases he)
theorem Wu (hE:jD P B E) {body:Code} {T T':List Value} {G G':GS} {e:Exit} (h:pc E body T G=some (e,T',G')):Reach P B [.code body,.inLoop body] T G e T' G':=by
  simp only [pc] at h
  split at h
  · rename_i T1 G1 hx
    exact .first (hE.ex _ _ _ _ _ _ hx) (Reach.step (ys:=[.code body,.inLoop body]) (hE.lp _ _ _ _ _ _ h) fun M w b k cs a _=>.one stepR_inLoop)
  · rename_i aB
    exact .pass (hE.ex _ _ _ _ _ _ h) (fun he=>by subst he; exact aB _ _ h) (fun _ _ _=>rfl) (fun _ _ _=>rfl)
theorem NR {fr:Frame} {cs:List Frame} (hm:fr.mode≠ .run):∀ (rs:List Nat) (w:World),rs.Nodup→(∀ r∈rs,w.heap[r]? =some (.deferred (some []))) →
    ∃ w',Steps P (lone { fr with defers:=rs.map fun r=>⟨.collected r,#[]⟩ } cs w) (lone { fr with defers:=[] } cs w')∧w'.heap.size=w.heap.size∧(∀ k,k∉rs→w'.heap[k]? =w.heap[k]?)∧w'.os=w.os∧w'.tape=w.tape∧w'.output=w.output
  | [],w,_,_=>⟨w,.refl _ _,rfl,fun _ _=>rfl,rfl,rfl,rfl⟩
  | r::rs,w,hn,hd=>by
    have h0:=hd r (by simp)
    have hk:=run_takeDeferred (P:=P) h0
    obtain ⟨Wv,fT⟩:=List.nodup_cons.1 hn
    have aT:=(Array.getElem?_eq_some_iff.1 h0).1
    obtain ⟨w',s1,s2,s3,s4,s5,s6⟩:=NR hm rs (w.putObj r (.deferred none)) fT (fun q hq=>by
      rw [World.putObj_heap_other (fun e=>Wv (by rw [← e]; exact hq))]; exact hd q (by simp [hq]))
    refine ⟨w',.head ?_ s1,by rw [s2,World.putObj_size],fun k iI=>?_,s4,s5,s6⟩
    · exact step_collected (fr:={ fr with defers:=(r::rs).map fun r=>⟨.collected r,#[]⟩ }) (calls:=[]) hm rfl rfl hk
    · rw [s3 k (fun h=>iI (by simp [h])),World.putObj_heap_other (fun e=>iI (by simp [e]))]
theorem Rel.Ww {G:GS} {w w':World} (hR:Rel G M w B) (hs:w'.heap.size=w.heap.size) (h:∀ r:Nat,(∃ d,w.heap[r]? =some (Obj.deferred d))∨w'.heap[r]? =w.heap[r]?):Rel G M w' B:=by
  refine ⟨by rw [hs]; exact hR.size,fun g x o hx ho=>?_,hR.apart,hR.nx,fun l r hl=>?_,hR.jz,fun l r hl=>?_,hR.jA,hR.iY,hR.wf,fun g o ho hm=>?_⟩
  · have hb:=hR.aY g x o hx ho
    refine ⟨hb.esz,hb.opn,hb.len,fun hm=>nS (.refl M) (hb.cells hm) fun a u hu _=>?_,fun hm=>?_,hb.ro⟩
    · rcases h a.block with ⟨d,hd⟩ | hk
      · simp [World.cell?,hd] at hu
      · exact ta hk hu
    · obtain ⟨h1,c,e,h2,h3⟩:=hb.own hm
      rcases h x.aY with ⟨d,hd⟩ | hk
      · rw [hd] at h2; cases h2
      · exact ⟨h1,c,e,by rw [hk]; exact h2,h3⟩
  · obtain ⟨h1,p,h2,h3,lo,h4,h5⟩:=hR.lp l r hl
    rcases h r with ⟨d,hd⟩ | hk
    · rw [hd] at h4; cases h4
    · exact ⟨h1,p,h2,h3,lo,by rw [hk]; exact h4,h5⟩
  · obtain ⟨h1,p,h2,h3⟩:=hR.mp l r hl
    obtain ⟨es,ck,h4⟩:=h3.obj
    rcases h r with ⟨d,hd⟩ | hk
    · rw [hd] at h4; cases h4
    · exact ⟨h1,p,h2,h3.keep hk⟩
  · obtain ⟨h1,h2,e,f,h3⟩:=hR.gl g o ho hm
    refine ⟨h1,h2,e,f,?_⟩
    rcases h (o.mode - 3) with ⟨d,hd⟩ | hk
    · rw [hd] at h3; cases h3
    · rw [hk]; exact h3
theorem NT {M:Map}:∀ n,Vs M (List.replicate n undef) (List.replicate n undef)
  | 0=>trivial
  | n+1=>⟨sW,NT n⟩
theorem Wx (hE:jD P B E) {f:FuncId} {vs:List Value} {G G':GS} {v:Value} (h:rL P E f vs G=some (v,G')) {w:World} {args:Array Value} (cs:List Frame) (hR:Rel G M w B) (hv:Vs M vs args.toList) :
    ∃ M' w' fr v',cy G M w G' M' w' ∧Rel G' M' w' B∧V M' v v' ∧Steps P (lone (Frame.enter P f args .normal) cs w) (lone fr cs w')∧fr.fn=f∧fr.leaving P w' (.returned v'):=by
  simp only [rL] at h
  split at h
  · rename_i fn hf
    split at h
    · simp at h
    · split at h
      · rename_i c hc
        split at h
        · rename_i e T1 G1 hx
          split at h
          · rename_i DQ
            split at h
            · rename_i l hl
              simp only [Option.some.injEq,Prod.mk.injEq] at h
              obtain ⟨rfl,rfl⟩:=h
              let b:Frame:={ (default:Frame) with fn:=f,kind:=.normal,roundOf:=none }
              have cm:vs.length=args.size:=by have:=iG hv; simpa using this
              have Wy:Frame.enter P f args .normal=b.atR { tmps:=args++Array.replicate (fn.ntmps - args.size) undef,defers:=[] } [.code c]:=by
                simp [Frame.enter,Frame.atR,hf,hc,b]
              have hT:Vs M (vs++List.replicate (fn.ntmps - vs.length) undef) (args++Array.replicate (fn.ntmps - args.size) undef).toList:=by
                rw [Array.toList_append,Array.toList_replicate,cm]
                exact uQ hv (NT _)
              obtain ⟨M1,w1,a1,e1,r1,t1,⟨rs,Wz,NU,HQ⟩,s1⟩:=hE.ex _ _ _ _ _ _ hx w.heap.size M w b [] cs { tmps:=args++Array.replicate (fn.ntmps - args.size) undef,defers:=[] } hR hT ⟨[],rfl,by simp,by simp⟩ (Nat.le_refl _) (fun r hr=>by cases hr)
              obtain ⟨todo,s2⟩:∃ todo,Steps P (lone (b.atR { tmps:=args++Array.replicate (fn.ntmps - args.size) undef,defers:=[] } [.code c]) cs w) (lone { b.atR a1 todo with mode:=.returning } cs w1):=by
                cases e with
                | normal=>exact ⟨[],Steps.trans s1 (.one (stepR_end rfl))⟩
                | ret=>obtain ⟨k₁,h2⟩:=s1; exact ⟨_,Steps.trans h2 (.one (stepR_ret rfl))⟩
                | exit id=>simp [rK] at DQ
                | goto l=>simp [rK] at DQ
                | panic c=>simp [rK] at DQ
                | outgrown=>simp [rK] at DQ
              obtain ⟨w2,s3,wD,AZ,DR,HR,yN⟩:=NR (P:=P) (fr:={ b.atR a1 todo with mode:=.returning }) (cs:=cs) (by simp) rs w1 NU (fun r hr=>(HQ r hr).2)
              have Hp:({ b.atR a1 todo with mode:=.returning }:Frame)={ ({ b.atR a1 todo with mode:=.returning }:Frame) with defers:=rs.map fun r=>⟨.collected r,#[]⟩ }:=by
                rw [← Wz]; rfl
              rw [Hp] at s2
              have r2:Rel G1 M1 w2 B:=r1.Ww wD fun r=>by
                by_cases hr:r∈rs
                · exact .inl ⟨_,(HQ r hr).2⟩
                · exact .inr (AZ r hr)
              obtain ⟨u,jC,jy⟩:=Wj (P:=P) r2 t1 hl
              refine ⟨M1,w2,_,u,⟨e1.map,by rw [wD]; exact e1.size,fun r hr hf=>?_,e1.eu,DR.trans e1.os,HR.trans e1.tape,yN.trans e1.output,e1.nx,e1.gk,e1.gn⟩,r2,jC,by rw [Wy]; exact s2.trans s3,rfl,rfl,rfl,rfl,fn,hf,jy⟩
              rw [AZ r (fun HP=>by have:=(HQ r HP).1; omega)]
              exact e1.keep r hr hf
            · simp at h
          · simp at h
        · simp at h
      · simp at h
  · simp at h
theorem NV {M:Map}:∀ {ps:List Nat} {vs us T:List Value} {tmps:Array Value},Vs M vs us→Vs M T tmps.toList →
    Vs M (lS ps vs T) ((ps.zip us).foldl (fun (t:Array Value) (p:Nat×Value)=>t.setIfInBounds p.1 p.2) tmps).toList
  | [],_,_,_,_,_,hT=>hT
  | _::_,[],[],_,_,_,hT=>hT
  | _::_,[],_::_,_,_,hv,_=>hv.elim
  | _::_,_::_,[],_,_,hv,_=>hv.elim
  | p::ps,v::vs,u::us,T,tmps,hv,hT=>by
    simp only [lS,List.zip_cons_cons,List.foldl_cons]
    exact NV hv.2 (HI (a:={ tmps,defers:=[] }) hT hv.1 (some p))
theorem WA (hE:jD P B E) {l:Nat} {vs:List Value} {G G':GS} {v:Value} (h:sU E l vs G=some (v,G')) {w:World} {r:Nat} {lo:Loop} {args:Array Value} (c:Frame) (cs:List Frame)
    (hR:Rel G M w B) (hl:M.lp l=some r) (dT:w.heap[r]? =some (.loop lo)) (hv:Vs M vs args.toList) :
    args.size=lo.params.size∧∃ M' w' v',cy G M w G' M' w' ∧Rel G' M' w' B∧V M' v v' ∧
      Steps P (lone (Frame.round r lo.fn ((lo.params.zip args).foldl (fun tmps (t,a)=>tmps.setIfInBounds t a) lo.tmps) lo.assign lo.body .normal) (c::cs) w) (lone (c.finish v') cs w'):=by
  simp only [sU] at h
  split at h
  · rename_i p hp
    obtain ⟨_,p',dB,_,lo',wE,k1,k2,k3,k4,k5,k6⟩:=hR.lp l r hl
    obtain rfl:p' =p:=by rw [hp] at dB; exact (Option.some.inj dB).symm
    obtain rfl:lo' =lo:=by rw [dT] at wE; simpa using wE.symm
    split at h
    · rename_i hlen
      have cm:args.size=lo'.params.size:=by
        have h1:=iG hv
        have h2:lo'.params.toList.length=p'.params.length:=by rw [k4]
        simp at h1 h2; omega
      refine ⟨cm,?_⟩
      split at h
      · rename_i T1 G1 hx
        split at h
        · rename_i p1 fu
          split at h
          · rename_i WB
            split at h
            · rename_i e T2 G2 hy
              split at h
              · rename_i j p2 hj yN
                simp only [Option.some.injEq,Prod.mk.injEq] at h
                obtain ⟨rfl,rfl⟩:=h
                let b:Frame:={ (default:Frame) with fn:=lo'.fn,kind:=.normal,roundOf:=some r }
                have hT:Vs M (lS p'.params vs p'.tmps) ((lo'.params.zip args).foldl (fun tmps (t,a)=>tmps.setIfInBounds t a) lo'.tmps).toList:=by
                  rw [← Array.foldl_toList,Array.toList_zip,k4]
                  exact NV hv k3
                have yG:Frame.round r lo'.fn ((lo'.params.zip args).foldl (fun tmps (t,a)=>tmps.setIfInBounds t a) lo'.tmps) lo'.assign lo'.body .normal =
                    b.atR { tmps:=(lo'.params.zip args).foldl (fun tmps (t,a)=>tmps.setIfInBounds t a) lo'.tmps,defers:=[] } [.code lo'.assign,.beginRound,.code lo'.body]:=by
                  simp [Frame.round,Frame.atR,b]
                rw [yG,k5,k6]
                have ni:Bb b M:=fun r' Bd=>⟨l,by cases Bd; exact hl⟩
                obtain ⟨M1,w1,a1,e1,r1,t1,m1,s1⟩:=hE.ex _ _ _ _ _ _ hx 0 M w b [.beginRound,.code p'.body] (c::cs) { tmps:=(lo'.params.zip args).foldl (fun tmps (t,a)=>tmps.setIfInBounds t a) lo'.tmps,defers:=[] } hR hT ⟨[],rfl,by simp,by simp⟩ (Nat.zero_le _) ni
                have ph:=e1.map.lp _ _ hl
                obtain ⟨_,q1,yH,_,yL,Bh,n1,n2,n3,n4,n5,n6⟩:=r1.lp l r ph
                obtain rfl:q1=p1:=by rw [fu] at yH; exact (Option.some.inj yH).symm
                have WC:=run_beginRound (P:=P) Bh (by rw [n1]; exact WB)
                obtain ⟨r2,e2⟩:=r1.bR (q:={ q1 with st:=.busy }) (lo':={ yL with state:=.busy }) ph fu Bh ⟨rfl,rfl,rfl,rfl⟩ rfl n2 ⟨rfl,rfl,rfl,rfl⟩
                obtain ⟨M3,w3,a3,e3,r3,t3,m3,s3⟩:=hE.ex _ _ _ _ _ _ hy 0 M1 _ b [] (c::cs) a1 r2 t1 (m1.jb r1 e2) (Nat.zero_le _) (ni.mono e1.map)
                have Bj:=e3.map.lp _ _ ph
                obtain ⟨_,q3,DT,_,NW,NY,o1,o2,o3,o4,o5,o6⟩:=r3.lp l r Bj
                obtain rfl:q3=p2:=by rw [yN] at DT; exact (Option.some.inj DT).symm
                have rQ:∀ j,(Instr.endRound r j).run P w3= .ok (.bool j.isNone) (w3.putObj r (.loop { NW with state:=if j.isNone then .ready else .done,pending:=j })):=fun j=>run_endRound (P:=P) j NY
                obtain ⟨r4,e4⟩:=r3.bR (q:={ q3 with st:=if j.isNone then .ready else .done,aC:=j }) (lo':={ NW with state:=if j.isNone then .ready else .done,pending:=j }) Bj yN NY ⟨rfl,rfl,rfl,rfl⟩ rfl rfl ⟨rfl,rfl,rfl,rfl⟩
                refine ⟨M3,_,.bool j.isNone,((e1.trans e2).trans e3).trans e4,r4,iX.2 rfl,?_⟩
                have s2:Steps P (lone (b.atR a1 [.beginRound,.code p'.body]) (c::cs) w1) (lone (b.atR a1 [.code p'.body]) (c::cs) (w1.putObj r (.loop { yL with state:=.busy }))):=.one (stepR_beginRound rfl WC)
                have afr:p'.body=p'.body:=rfl
                refine Steps.trans s1 (Steps.trans s2 ?_)
                unfold wo at hj
                split at hj<;>simp only [Option.some.injEq,reduceCtorEq] at hj<;>subst hj
                · exact Steps.trans s3 (.one (stepR_round_end rfl rfl (rQ none)))
                · obtain ⟨k₁,h2⟩:=s3
                  exact Steps.trans h2 (.one (stepR_round_ret rfl rfl (rQ (some .ret))))
                · obtain ⟨k₁,h1,h2⟩:=s3
                  exact Steps.trans h2 (.one (stepR_round_exit rfl rfl (by rw [h1]; rfl) (rQ (some (.exit _)))))
                · obtain ⟨k₁,h1,h2⟩:=s3
                  exact Steps.trans h2 (.one (stepR_round_goto rfl rfl (by rw [h1]; rfl) (rQ (some (.goto _)))))
              · simp at h
            · simp at h
          · simp at h
        · simp at h
      · simp at h
    · simp at h
  · simp at h
end Go.Proofs.YtkhlabammcghbaaGreat.Gh
