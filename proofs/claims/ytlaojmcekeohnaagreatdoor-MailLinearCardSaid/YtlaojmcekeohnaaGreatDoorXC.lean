import Derived.Test.YtlaojmcekeohnaaGreatDoorXB
set_option linter.unusedVariables false
set_option linter.unusedSimpArgs false
set_option maxRecDepth 20000
namespace Go.Proofs.YtlaojmcekeohnaaGreatDoor.Lift
open Go Go.Proofs.YtlaojmcekeohnaaGreatDoor.Gh Go.Proofs
@[simp] theorem stO_iface (o k:Nat) (v:Value) (cs:List Value) (e:Nat) (op:Bool):stO 1 o (.iface k v) (some ⟨cs,e,op,1⟩) = if o < cs.length then some ⟨cs.set o (.iface k v),e,op,1⟩ else none:=stO_one _ _ rfl _ _ _
@[simp] theorem stO_nilIface (o:Nat) (cs:List Value) (e:Nat) (op:Bool):stO 1 o .nilIface (some ⟨cs,e,op,1⟩) = if o < cs.length then some ⟨cs.set o .nilIface,e,op,1⟩ else none:=stO_one _ _ rfl _ _ _
theorem inv_front (orc : FuncId → Bool) (q m : Nat) (G : GS) : cInvoke Q (evL Q orc) (.iface 60 (P0 q)) "Step" [P0 m] G = (E orc).cl 139 [P0 q, P0 m] G := by kernel_rfl
theorem inv_drop (orc : FuncId → Bool) (q m : Nat) (G : GS) : cInvoke Q (evL Q orc) (.iface 61 (P0 q)) "Step" [P0 m] G = (E orc).cl 140 [P0 q, P0 m] G := by kernel_rfl
theorem as_ff (q:Nat):gAssert Q (.iface 60 (P0 q)) 60 true = some (.tuple #[P0 q,.bool true]):=by kernel_rfl
theorem as_df (q:Nat):gAssert Q (.iface 61 (P0 q)) 60 true = some (.tuple #[.pointer none,.bool false]):=by kernel_rfl
theorem as_dd (q:Nat):gAssert Q (.iface 61 (P0 q)) 61 true = some (.tuple #[P0 q,.bool true]):=by kernel_rfl
theorem eq_fn (n q:Nat):gBinF Q .eql 168 (.tmp n) (.const .nilIface) (.iface 60 (P0 q)) .nilIface = some (.bool false):=by kernel_rfl
theorem eq_dn (n q:Nat):gBinF Q .eql 168 (.tmp n) (.const .nilIface) (.iface 61 (P0 q)) .nilIface = some (.bool false):=by kernel_rfl
theorem eq_nn (n:Nat):gBinF Q .eql 168 (.tmp n) (.const .nilIface) .nilIface .nilIface = some (.bool true):=by kernel_rfl
section
variable {own own1:Nat → Nat} {t b m r:Nat} {G G1:GS} {s:MS}
theorem OwT.app {tk x:Value} {l:List Int} {y:Int} (h:OwT own1 t G1 tk l) (w:PW (Own own t) own G own1 G1 m s) (ht:t ≠ 10) (hx:SlR (rowsI .i64) G1 x [y]) (hl:l.length < 2 ^ 36) :
  ∃ v' G2,appK 1 8 tk x G1 = some (v',G2) ∧ PW (Own own t) own G (grown own1 G1 t) G2 m s ∧ OwT (grown own1 G1 t) t G2 v' (l ++ [y]) ∧ (∀ g,InB v' g → G1.nx ≤ g) ∧ ModP (InB tk) G1 G2:=by
 obtain ⟨v',G2,e,md,ow⟩:=h.ow.app_mod (ib:=8) (by decide) hx (by simp) (by simp; omega)
 simp only [rowsI_sz] at e
 refine ⟨v',G2,e,w.modT (md.mono fun g hg=>h.tag g hg) ht t,⟨ow.mono (Nat.zero_le _),fun g hg=>grown_new (ow.from hg)⟩,fun g hg=>ow.from hg,md⟩
theorem OwT.putO {tk:Value} {l:List Int} (h:OwT own t G tk l) (nb:¬ InB tk b) (o:GObj):OwT own t (G.put b o) tk l :=
 h.to (Nat.le_refl _) (fun g hg=>by rw [obj_put,if_neg (fun (e:g = b)=>nb (by rw [← e]; exact hg))]) (Agr.refl _ _)
theorem OwT.extO {tk:Value} {l:List Int} (h:OwT own t G tk l) (x:Ext G G1) (u:Nat):OwT (grown own G u) t G1 tk l:=h.to x.nx (fun g hg=>x.obj g (h.lt hg)) grown_agr
theorem dnfr_ok (orc:FuncId → Bool) {R:Rg} {mo:Int} {l:List Int} {p:FrS} (h:PM own G m s) (hs:s.ok) (hR:R.ok) (hpo:p.ok) (ht:t ≠ 10) (hb:At own t G b) (hp:DnP own t G b (.fr R mo l p)) :
  ∃ own1 G1,(E orc).cl 36 [P0 b,P0 m] G = some (.bool (DnS.afterF R mo l (p.step s).1).over,G1) ∧ PW (Own own t) own G own1 G1 m (p.step s).2 ∧ DnP own1 t G1 b (DnS.afterF R mo l (p.step s).1):=by
 obtain ⟨q,tk,v,o,ow,nb,hq,bq,nq,kf⟩:=hp
 have one0:=ow.one
 obtain ⟨⟨x,G1⟩,e,rfl,th,k⟩:=front_ok orc h hs hpo (PM.notIn hq.tag ht) hq.lt kf
 simp only at th k
 have w1:=PW.ofThr th hq.tag
 have o1:=(th.keep hb.lt (PM.notIn hb.tag ht) bq).trans o
 have hb1:At (grown own G 10) t G1 b:=hb.to th.mod.nx grown_agr
 have hq1:At (grown own G 10) t G1 q:=hq.to th.mod.nx grown_agr
 have ow1:OwT (grown own G 10) t G1 tk l:=ow.to th.mod.nx (fun g hg=>th.keep (ow.lt hg) (PM.notIn (ow.tag g hg) ht) (fun e=>nq (by rw [← e]; exact hg))) grown_agr
 generalize grown own G 10 = own1 at *
 generalize hpp:(p.step s).1 = p' at *
 unfold DnS.afterF
 have iv:=(inv_front orc q m G).trans e
 cases ho:p'.over with
 | false =>
  rw [ho] at iv
  refine ⟨_,G1,f36 (exL_ok Q orc) _ _ G _ ?_,w1,q,tk,v,o1,ow1,nb,hq1,bq,nq,k⟩
  simp [jb36_0,j36_0,sb36,s36,clip_t,o,eq_fn,iv,DnS.over]
 | true =>
  rw [ho] at iv
  obtain ⟨G2,e2,x2⟩:=fval_ok orc k
  have w2:=w1.extT x2 t
  have o2:=(x2.obj b hb1.lt).trans o1
  have hb2:=hb1.extO x2 t
  have ow2:=ow1.extO x2 t
  have hq2:=hq1.extO x2 t
  have k2:PfR G2 q p':=k.kept (x2.obj q hq1.lt)
  generalize grown own1 G1 t = own2 at *
  obtain ⟨G3,hG3⟩:∃ G3,G3 = (G2.put b ⟨[.bool true,.int .i64 R.head,.int .i64 R.tail,.int .i64 R.slots,.int .i64 R.size,.int .i64 mo,.iface 60 (P0 q),tk,.int .i64 p'.val,.int .i64 0],1,false,1⟩).put b ⟨[.bool true,.int .i64 R.head,.int .i64 R.tail,.int .i64 R.slots,.int .i64 R.size,.int .i64 mo,.nilIface,tk,.int .i64 p'.val,.int .i64 0],1,false,1⟩:=⟨_,rfl⟩
  have w3:PW (Own own t) own G own2 G3 m (p.step s).2:=by rw [hG3]; exact (w2.putT hb2.tag ht _).putT hb2.tag ht _
  have o3:G3.obj b = some ⟨[.bool true,.int .i64 R.head,.int .i64 R.tail,.int .i64 R.slots,.int .i64 R.size,.int .i64 mo,.nilIface,tk,.int .i64 p'.val,.int .i64 0],1,false,1⟩:=by rw [hG3]; simp
  have ow3:OwT own2 t G3 tk l:=by rw [hG3]; exact (ow2.putO nb _).putO nb _
  have hb3:At own2 t G3 b:=by rw [hG3]; exact (hb2.putO _ _).putO _ _
  have k3:PfR G3 q p':=k2.kept (by rw [hG3,obj_put,if_neg (fun e=>bq e.symm),obj_put,if_neg (fun e=>bq e.symm)])
  by_cases he:p'.err = 0
  ·rw [if_pos rfl,if_pos he]
   rw [he] at e2
   have x4:Ext G3 (G3.room 12):=(Ext.refl _).room 12
   have k4:PfR (G3.room 12) q p':=k3.kept (by simp)
   have e4:=fat_ok orc k4
   obtain ⟨d,G5,e5,x5,d1,d2,k5⟩:=newdrop_ok orc R p'.at' (G3.room 12)
   have y5:=x4.trans x5
   have w5:=w3.extT y5 t
   have o5:=(y5.obj b hb3.lt).trans o3
   have hb5:=hb3.extO y5 t
   have ow5:=ow3.extO y5 t
   have d1':G3.nx ≤ d:=by simp at d1; omega
   have hd5:At (grown own2 G3 t) t G5 d:=At.new d1' d2
   have bd:b ≠ d:=by have:=hb3.lt; omega
   refine ⟨_,G5.put b ⟨[.bool true,.int .i64 R.head,.int .i64 R.tail,.int .i64 R.slots,.int .i64 R.size,.int .i64 mo,.iface 61 (P0 d),tk,.int .i64 p'.val,.int .i64 0],1,false,1⟩,f36 (exL_ok Q orc) _ _ G _ ?_,w5.putT hb5.tag ht _,d,tk,by simp,ow5.putO nb _,nb,hd5.putO _ _,bd,fun hg=>by have:=ow3.lt hg; omega,k5.kept (by rw [obj_put,if_neg (fun e=>bd e.symm)])⟩
   simp [jb36_0,j36_0,sb36,s36,clip_t,o,eq_fn,eq_dn,iv,o1,as_ff,e2,o2,← hG3,o3,e4,e5,o5,DnS.over]
  ·rw [if_pos rfl,if_neg he]
   refine ⟨_,G3,f36 (exL_ok Q orc) _ _ G _ ?_,w3,R.head,R.tail,R.slots,R.size,mo,tk,p'.val,o3,ow3,nb⟩
   simp [jb36_0,j36_0,sb36,s36,clip_t,o,eq_fn,eq_nn,iv,o1,as_ff,e2,o2,he,← hG3,o3,DnS.over]
end
end Go.Proofs.YtlaojmcekeohnaaGreatDoor.Lift
set_option linter.unusedVariables false
set_option linter.unusedSimpArgs false
set_option maxRecDepth 20000
namespace Go.Proofs.YtlaojmcekeohnaaGreatDoor.Lift
open Go Go.Proofs.YtlaojmcekeohnaaGreatDoor.Gh Go.Proofs
section
variable {own own1:Nat → Nat} {t b m r:Nat} {G G1:GS} {s:MS}
theorem dndr_ok (orc:FuncId → Bool) {R:Rg} {mo v:Int} {l:List Int} {p:DrS} (h:PM own G m s) (hR:R.ok) (hpo:p.ok) (hl:l.length < 2 ^ 36) (ht:t ≠ 10) (hb:At own t G b) (hp:DnP own t G b (.dr R mo l v p)) :
  ∃ own1 G1,(E orc).cl 36 [P0 b,P0 m] G = some (.bool (DnS.afterD R mo l v (p.step s).1).over,G1) ∧ PW (Own own t) own G own1 G1 m (p.step s).2 ∧ DnP own1 t G1 b (DnS.afterD R mo l v (p.step s).1):=by
 obtain ⟨q,tk,o,ow,nb,hq,bq,nq,kf⟩:=hp
 have one0:=ow.one
 obtain ⟨⟨x,G1⟩,e,rfl,th,k⟩:=drop_ok orc h hpo (PM.notIn hq.tag ht) hq.lt kf
 simp only at th k
 have w1:=PW.ofThr th hq.tag
 have o1:=(th.keep hb.lt (PM.notIn hb.tag ht) bq).trans o
 have hb1:At (grown own G 10) t G1 b:=hb.to th.mod.nx grown_agr
 have hq1:At (grown own G 10) t G1 q:=hq.to th.mod.nx grown_agr
 have ow1:OwT (grown own G 10) t G1 tk l:=ow.to th.mod.nx (fun g hg=>th.keep (ow.lt hg) (PM.notIn (ow.tag g hg) ht) (fun e=>nq (by rw [← e]; exact hg))) grown_agr
 generalize grown own G 10 = own1 at *
 generalize hpp:(p.step s).1 = p' at *
 unfold DnS.afterD
 have iv:=(inv_drop orc q m G).trans e
 cases ho:p'.over with
 | false =>
  rw [ho] at iv
  refine ⟨_,G1,f36 (exL_ok Q orc) _ _ G _ ?_,w1,q,tk,o1,ow1,nb,hq1,bq,nq,k⟩
  simp [jb36_0,j36_0,sb36,s36,clip_t,o,eq_fn,eq_dn,iv,DnS.over]
 | true =>
  rw [ho] at iv
  obtain ⟨G2,hG2⟩:∃ G2,G2 = (((G1.room 18).at' (G1.nx + 10)).push ⟨[.int .i64 v],1,false,1⟩).back (G1.room 18):=⟨_,rfl⟩
  have x2:Ext G1 G2:=by rw [hG2]; exact Ext.drawn ((Ext.refl G1).room 18) (by omega) (by simp) _
  have sl:SlR (rowsI .i64) G2 (.slice (some ⟨G1.nx + 10,0,none⟩) 1 1) [v]:=by rw [hG2]; exact SlR.oneD (rowsI .i64) (G1.room 18) v (n:=G1.nx + 10) (by simp)
  have w2:=w1.extT x2 t
  have o2:=(x2.obj b hb1.lt).trans o1
  have hb2:=hb1.extO x2 t
  have ow2:=ow1.extO x2 t
  generalize grown own1 G1 t = own2 at *
  obtain ⟨tk',G3,e3,w3,ow3,nw3,md3⟩:=ow2.app w2 ht sl hl
  have one3:=ow3.one
  have o3:=(md3.obj b hb2.lt nb).trans o2
  have hb3:At (grown own2 G2 t) t G3 b:=hb2.to md3.nx grown_agr
  generalize grown own2 G2 t = own3 at *
  have nb3:¬ InB tk' b:=fun hg=>by have:=nw3 b hg; have:=hb2.lt; omega
  obtain ⟨G4,hG4⟩:∃ G4,G4 = (G3.put b ⟨[.bool true,.int .i64 R.head,.int .i64 R.tail,.int .i64 R.slots,.int .i64 R.size,.int .i64 mo,.iface 61 (P0 q),tk',.int .i64 v,.int .i64 0],1,false,1⟩).put b ⟨[.bool true,.int .i64 R.head,.int .i64 R.tail,.int .i64 R.slots,.int .i64 R.size,.int .i64 mo,.nilIface,tk',.int .i64 v,.int .i64 0],1,false,1⟩:=⟨_,rfl⟩
  have w4:PW (Own own t) own G own3 G4 m (p.step s).2:=by rw [hG4]; exact (w3.putT hb3.tag ht _).putT hb3.tag ht _
  have o4:G4.obj b = some ⟨[.bool true,.int .i64 R.head,.int .i64 R.tail,.int .i64 R.slots,.int .i64 R.size,.int .i64 mo,.nilIface,tk',.int .i64 v,.int .i64 0],1,false,1⟩:=by rw [hG4]; simp
  have ow4:OwT own3 t G4 tk' (l ++ [v]):=by rw [hG4]; exact (ow3.putO nb3 _).putO nb3 _
  have hb4:At own3 t G4 b:=by rw [hG4]; exact (hb3.putO _ _).putO _ _
  obtain ⟨a',c',htk⟩:=ow4.ow.is.len
  have hln:∀ ty,ln Q true ty tk' = some (.int .i64 (l ++ [v]).length):=fun ty=>by rw [htk]; simp
  have x5:Ext G4 (G4.room 10):=(Ext.refl _).room 10
  rw [if_pos rfl]
  by_cases hm:((l ++ [v]).length:Int) < mo
  ·rw [if_pos hm]
   obtain ⟨d,G5,e5,x6,d1,d2,k5⟩:=newfront_ok orc R (G4.room 10)
   have y5:=x5.trans x6
   have w5:=w4.extT y5 t
   have o5:=(y5.obj b hb4.lt).trans o4
   have hb5:=hb4.extO y5 t
   have ow5:=ow4.extO y5 t
   have d1':G4.nx ≤ d:=by simp at d1; omega
   have hd5:At (grown own3 G4 t) t G5 d:=At.new d1' d2
   have bd:b ≠ d:=by have:=hb4.lt; omega
   refine ⟨_,G5.put b ⟨[.bool true,.int .i64 R.head,.int .i64 R.tail,.int .i64 R.slots,.int .i64 R.size,.int .i64 mo,.iface 60 (P0 d),tk',.int .i64 v,.int .i64 0],1,false,1⟩,f36 (exL_ok Q orc) _ _ G _ ?_,w5.putT hb5.tag ht _,d,tk',v,by simp,ow5.putO nb3 _,nb3,hd5.putO _ _,bd,fun hg=>by have:=ow4.lt hg; omega,k5.kept (by rw [obj_put,if_neg (fun e=>bd e.symm)])⟩
   simp [-List.length_append,jb36_0,j36_0,sb36,s36,clip_t,o,eq_fn,eq_dn,iv,o1,as_df,as_dd,← hG2,e3,o3,stO_one _ _ one3,← hG4,o4,hln,hm,e5,o5,DnS.over]
  ·rw [if_neg hm]
   have w5:=w4.extT x5 t
   have o5:=(x5.obj b hb4.lt).trans o4
   refine ⟨_,G4.room 10,f36 (exL_ok Q orc) _ _ G _ ?_,w5,R.head,R.tail,R.slots,R.size,mo,tk',v,o5,ow4.extO x5 t,nb3⟩
   simp [-List.length_append,jb36_0,j36_0,sb36,s36,clip_t,o,eq_fn,eq_dn,eq_nn,iv,o1,as_df,as_dd,← hG2,e3,o3,stO_one _ _ one3,← hG4,o4,hln,hm,DnS.over]
theorem dnstep_ok (orc:FuncId → Bool) {k:Nat} {p:DnS} (h:PM own G m s) (hs:s.ok) (hpo:p.ok k) (hk:k < 2 ^ 36) (ht:t ≠ 10) (hb:At own t G b) (hp:DnP own t G b p) :
  ∃ own1 G1,(E orc).cl 36 [P0 b,P0 m] G = some (.bool (p.step s).1.over,G1) ∧ PW (Own own t) own G own1 G1 m (p.step s).2 ∧ DnP own1 t G1 b (p.step s).1:=by
 cases p with
 | done e l =>
  have hp0:=hp
  obtain ⟨a0,a1,a2,a3,mo,tk,v,h1,h2,h3⟩:=hp
  refine ⟨own,G,f36 (exL_ok Q orc) _ _ G _ ?_,PW.refl h,hp0⟩
  simp [jb36_0,j36_0,sb36,s36,h1,eq_nn,DnS.step,DnS.over]
 | fr R mo l p=>exact dnfr_ok orc h hs hpo.1 hpo.2.1 ht hb hp
 | dr R mo l v p=>exact dndr_ok orc h hpo.1 hpo.2.1 (by have:=hpo.2.2.2; omega) ht hb hp
end
end Go.Proofs.YtlaojmcekeohnaaGreatDoor.Lift
set_option linter.unusedVariables false
set_option linter.unusedSimpArgs false
set_option maxRecDepth 20000
namespace Go.Proofs.YtlaojmcekeohnaaGreatDoor.Lift
open Go Go.Proofs.YtlaojmcekeohnaaGreatDoor.Gh Go.Proofs
section
variable {own own1:Nat → Nat} {t b m r:Nat} {G G1:GS} {s:MS}
end
end Go.Proofs.YtlaojmcekeohnaaGreatDoor.Lift
set_option linter.unusedVariables false
set_option linter.unusedSimpArgs false
set_option maxRecDepth 20000
namespace Go.Proofs.YtlaojmcekeohnaaGreatDoor.Lift
open Go Go.Proofs.YtlaojmcekeohnaaGreatDoor.Gh Go.Proofs
def newSd (x:MB) (c v:Int):SdS:=if sendE x c v = 0 then .go (newPu (x.rg c) v) else .done (sendE x c v)
def newDn (x:MB) (c v:Int):DnS:=if drainE x c v = 0 then .fr (x.rg c) v [] (newFr (x.rg c)) else .done (drainE x c v) []
def NewR (G:GS) (P:Nat → GS → Prop) (r:Value × GS):Prop:=∃ b,r.1 = P0 b ∧ Ext G r.2 ∧ (G.nx ≤ b ∧ b < r.2.nx) ∧ P b r.2
theorem Ext.drawnO {A G':GS} (h:Ext A G') {n:Nat} (hn:A.nx ≤ n) (o:GObj):Ext A (((G'.at' n).push o).back G'):=by
 refine ⟨by simpa using h.nx,fun g hg=>?_,by simpa using h.nl,fun l hl=>by simpa using h.loop l hl⟩
 simp only [obj_back,obj_push,nx_at,obj_at]
 rw [if_neg (by omega)]
 exact h.obj g hg
abbrev isSd (G:GS) (p:SdS) (b:Nat) (G':GS):Prop:=∀ own t,SdP (grown own G t) t G' b p
abbrev isDn (G:GS) (p:DnS) (b:Nat) (G':GS):Prop:=∀ own t,DnP (grown own G t) t G' b p
section
variable {x:MB} {c v:Int} {G:GS}
set_option maxHeartbeats 1000000 in
theorem newsd_ok (orc:FuncId → Bool) (x:MB) (c v:Int) (G:GS):Wp ((E orc).cl 32 [x.v,.int .i64 c,.int .i64 v] G) (NewR G (isSd G (newSd x c v))):=by
 obtain ⟨G1,hG1⟩:∃ G1,G1 = G.push ⟨x.cells,1,false,1⟩:=⟨_,rfl⟩
 have x1:Ext G G1:=by rw [hG1]; exact (Ext.refl G).push _
 have n1:G1.nx = G.nx + 1:=by rw [hG1]; rfl
 have o1:G1.obj G.nx = some ⟨x.cells,1,false,1⟩:=by rw [hG1]; simp
 obtain ⟨G2,e2,x2⟩:=mref_ok orc x c G1
 have o2:=(x2.obj G.nx (by omega)).trans o1
 have y2:=x1.trans x2
 have n2:=x2.nx
 have w:Wp (s32 true (exL Q orc) x.v (.int .i64 c) (.int .i64 v) G) (NewR G (isSd G (newSd x c v))):=by
  by_cases he:x.ref c = 0
  ·obtain ⟨hp,hc0,hc1⟩:=ref_zero he
   rw [he] at e2
   obtain ⟨G3,hG3⟩:∃ G3,G3 = G2.push ⟨[.bool true,.pointer none,.int .i64 0],1,false,1⟩:=⟨_,rfl⟩
   have x3:Ext G G3:=by rw [hG3]; exact y2.push _
   have n3:G3.nx = G2.nx + 1:=by rw [hG3]; rfl
   have o3:G3.obj G2.nx = some ⟨[.bool true,.pointer none,.int .i64 0],1,false,1⟩:=by rw [hG3]; simp
   have q3:G3.obj G.nx = some ⟨x.cells,1,false,1⟩:=by rw [hG3]; simpa [show G.nx ≠ G2.nx by omega] using o2
   by_cases hv:v < 0 ∨ 65535 < v
   ·have hs:sendE x c v = 3:=by unfold sendE; rw [if_pos ⟨he,hv⟩]
    have hnew:newSd x c v = .done 3:=by unfold newSd; rw [hs]; rfl
    rw [hnew]
    obtain ⟨G4,hG4⟩:∃ G4,G4 = G3.put G2.nx ⟨[.bool true,.pointer none,.int .i64 3],1,false,1⟩:=⟨_,rfl⟩
    have x4:Ext G G4:=by rw [hG4]; exact x3.put (by omega) _
    have n4:G4.nx = G3.nx:=by rw [hG4]; rfl
    have o4:G4.obj G2.nx = some ⟨[.bool true,.pointer none,.int .i64 3],1,false,1⟩:=by rw [hG4]; simp
    have q4:G4.obj G.nx = some ⟨x.cells,1,false,1⟩:=by rw [hG4]; simpa [show G.nx ≠ G2.nx by omega] using q3
    obtain ⟨G5,e5,x5⟩:=mbox_ok orc x c G4
    rw [box_zero he] at e5
    have o5:=(x5.obj G2.nx (by omega)).trans o4
    have y5:=x4.trans x5
    have n5:=x5.nx
    have hfin:∀ c1 c2,Ext G (((G5.push c1).put G5.nx c2)) ∧ (((G5.push c1).put G5.nx c2)).obj G2.nx = some ⟨[.bool true,.pointer none,.int .i64 3],1,false,1⟩:=fun c1 c2=>⟨(y5.push _).put (by have:=y5.nx; omega) _,by simp [show G2.nx ≠ G5.nx by omega,o5]⟩
    by_cases hv0:v < 0
    ·simp [s32,sb32,j32_0,jb32_0,clip_t,← hG1,o1,e2,← hG3,o3,hv0,← hG4,q4,e5,MB.ring,show G2.nx ≠ G5.nx by omega,o5,splice_put,splice_end]
     exact ⟨_,rfl,(hfin _ _).1,⟨by omega,by simp; omega⟩,fun own t=>(hfin _ _).2⟩
    ·have hv1:65535 < v:=by omega
     simp [s32,sb32,j32_0,jb32_0,clip_t,← hG1,o1,e2,← hG3,o3,hv0,hv1,← hG4,q4,e5,MB.ring,show G2.nx ≠ G5.nx by omega,o5,splice_put,splice_end]
     exact ⟨_,rfl,(hfin _ _).1,⟨by omega,by simp; omega⟩,fun own t=>(hfin _ _).2⟩
   ·have hs:sendE x c v = 0:=by unfold sendE; rw [if_neg (fun h=>hv h.2),he]
    have hnew:newSd x c v = .go (newPu (x.rg c) v):=by unfold newSd; rw [hs]; rfl
    rw [hnew]
    obtain ⟨G5,e5,x5⟩:=mbox_ok orc x c G3
    rw [box_zero he] at e5
    have o5:=(x5.obj G2.nx (by omega)).trans o3
    have y5:=x3.trans x5
    have n5:=x5.nx
    obtain ⟨G6,hG6⟩:∃ G6,G6 = (G5.push ⟨zR,1,false,1⟩).put G5.nx ⟨x.ring c,1,false,1⟩:=⟨_,rfl⟩
    have x6:Ext G G6:=by rw [hG6]; exact (y5.push _).put (by have:=y5.nx; omega) _
    have n6:G6.nx = G5.nx + 1:=by rw [hG6]; rfl
    have o6:G6.obj G2.nx = some ⟨[.bool true,.pointer none,.int .i64 0],1,false,1⟩:=by rw [hG6]; simpa [show G2.nx ≠ G5.nx by omega] using o5
    obtain ⟨b,G7,e7,x7,b1,b2,r7⟩:=newpush_ok orc (x.rg c) v G6
    have o7:=(x7.obj G2.nx (by omega)).trans o6
    have y7:=x6.trans x7
    have n7:=x7.nx
    have hv0:¬ v < 0:=by omega
    have hv1:¬ 65535 < v:=by omega
    have p6:G6.obj G5.nx = some ⟨x.ring c,1,false,1⟩:=by rw [hG6]; simp
    have e7':(E orc).cl 57 [.agg ⟨x.ring c⟩,.int .i64 v] G6 = some (P0 b,G7):=e7
    unfold MB.ring at hG6 p6 e7'
    simp [s32,sb32,j32_0,jb32_0,clip_t,← hG1,o1,e2,← hG3,o3,hv0,hv1,q3,e5,MB.ring,show G2.nx ≠ G5.nx by omega,o5,splice_put,splice_end,← hG6,o6,p6,e7',o7]
    exact ⟨_,rfl,y7.put (by omega) _,⟨by omega,by simp; omega⟩,fun own t=>⟨b,by simp,⟨by simp; omega,grown_new (by omega)⟩,by omega,r7.kept (by rw [obj_put,if_neg (by omega)])⟩⟩
  ·have hs:sendE x c v = x.ref c:=by unfold sendE; rw [if_neg (fun h=>he h.1)]
   have hnew:newSd x c v = .done (x.ref c):=by unfold newSd; rw [hs,if_neg he]
   rw [hnew]
   obtain ⟨G3,hG3⟩:∃ G3,G3 = G2.push ⟨[.bool true,.pointer none,.int .i64 (x.ref c)],1,false,1⟩:=⟨_,rfl⟩
   have x3:Ext G G3:=by rw [hG3]; exact y2.push _
   have n3:G3.nx = G2.nx + 1:=by rw [hG3]; rfl
   have o3:G3.obj G2.nx = some ⟨[.bool true,.pointer none,.int .i64 (x.ref c)],1,false,1⟩:=by rw [hG3]; simp
   have q3:G3.obj G.nx = some ⟨x.cells,1,false,1⟩:=by rw [hG3]; simpa [show G.nx ≠ G2.nx by omega] using o2
   obtain ⟨G5,e5,x5⟩:=mbox_ok orc x c G3
   rw [box_not he] at e5
   have o5:=(x5.obj G2.nx (by omega)).trans o3
   have y5:=x3.trans x5
   have n5:=x5.nx
   simp [s32,sb32,j32_0,jb32_0,clip_t,← hG1,o1,e2,← hG3,o3,he,q3,e5,MB.ring,show G2.nx ≠ G5.nx by omega,o5,splice_put,splice_end]
   exact ⟨_,rfl,(y5.push _).put (by have:=y5.nx; omega) _,⟨by omega,by simp; omega⟩,fun own t=>by simp [SdP,show G2.nx ≠ G5.nx by omega,o5]⟩
 obtain ⟨r,e1,h⟩:=w
 exact ⟨r,f32 (exL_ok Q orc) _ _ _ G _ e1,h⟩
end
end Go.Proofs.YtlaojmcekeohnaaGreatDoor.Lift
set_option linter.unusedVariables false
set_option linter.unusedSimpArgs false
set_option maxRecDepth 20000
namespace Go.Proofs.YtlaojmcekeohnaaGreatDoor.Lift
open Go Go.Proofs.YtlaojmcekeohnaaGreatDoor.Gh Go.Proofs
theorem nInB (b:Nat):¬ InB (.slice none 0 0) b:=fun ⟨_,_,_,he,_⟩=>by cases he
section
variable {x:MB} {c v:Int} {G:GS}
set_option maxHeartbeats 1000000 in
theorem newdn_ok (orc:FuncId → Bool) (x:MB) (c v:Int) (G:GS):Wp ((E orc).cl 33 [x.v,.int .i64 c,.int .i64 v] G) (NewR G (isDn G (newDn x c v))):=by
 obtain ⟨G1,hG1⟩:∃ G1,G1 = G.push ⟨x.cells,1,false,1⟩:=⟨_,rfl⟩
 have x1:Ext G G1:=by rw [hG1]; exact (Ext.refl G).push _
 have n1:G1.nx = G.nx + 1:=by rw [hG1]; rfl
 have o1:G1.obj G.nx = some ⟨x.cells,1,false,1⟩:=by rw [hG1]; simp
 obtain ⟨G2,e2,x2⟩:=mref_ok orc x c G1
 have o2:=(x2.obj G.nx (by omega)).trans o1
 have y2:=x1.trans x2
 have n2:=x2.nx
 have w:Wp (s33 true (exL Q orc) x.v (.int .i64 c) (.int .i64 v) G) (NewR G (isDn G (newDn x c v))):=by
  by_cases he:x.ref c = 0
  ·obtain ⟨hp,hc0,hc1⟩:=ref_zero he
   rw [he] at e2
   obtain ⟨G3,hG3⟩:∃ G3,G3 = G2.push ⟨[.bool true,.int .i64 0,.int .i64 0,.int .i64 0,.int .i64 0,.int .i64 v,.nilIface,.slice none 0 0,.int .i64 0,.int .i64 0],1,false,1⟩:=⟨_,rfl⟩
   have x3:Ext G G3:=by rw [hG3]; exact y2.push _
   have n3:G3.nx = G2.nx + 1:=by rw [hG3]; rfl
   have o3:G3.obj G2.nx = some ⟨[.bool true,.int .i64 0,.int .i64 0,.int .i64 0,.int .i64 0,.int .i64 v,.nilIface,.slice none 0 0,.int .i64 0,.int .i64 0],1,false,1⟩:=by rw [hG3]; simp
   have q3:G3.obj G.nx = some ⟨x.cells,1,false,1⟩:=by rw [hG3]; simpa [show G.nx ≠ G2.nx by omega] using o2
   by_cases hv:v < 1
   ·have hs:drainE x c v = 3:=by unfold drainE; rw [if_pos ⟨he,hv⟩]
    have hnew:newDn x c v = .done 3 []:=by unfold newDn; rw [hs]; rfl
    rw [hnew]
    obtain ⟨G4,hG4⟩:∃ G4,G4 = G3.put G2.nx ⟨[.bool true,.int .i64 0,.int .i64 0,.int .i64 0,.int .i64 0,.int .i64 v,.nilIface,.slice none 0 0,.int .i64 0,.int .i64 3],1,false,1⟩:=⟨_,rfl⟩
    have x4:Ext G G4:=by rw [hG4]; exact x3.put (by omega) _
    have n4:G4.nx = G3.nx:=by rw [hG4]; rfl
    have o4:G4.obj G2.nx = some ⟨[.bool true,.int .i64 0,.int .i64 0,.int .i64 0,.int .i64 0,.int .i64 v,.nilIface,.slice none 0 0,.int .i64 0,.int .i64 3],1,false,1⟩:=by rw [hG4]; simp
    have q4:G4.obj G.nx = some ⟨x.cells,1,false,1⟩:=by rw [hG4]; simpa [show G.nx ≠ G2.nx by omega] using q3
    obtain ⟨G5,e5,x5⟩:=mbox_ok orc x c G4
    rw [box_zero he] at e5
    have o5:=(x5.obj G2.nx (by omega)).trans o4
    have y5:=x4.trans x5
    have n5:=x5.nx
    simp [s33,sb33,j33_0,jb33_0,clip_t,← hG1,o1,e2,← hG3,o3,hv,← hG4,q4,e5,MB.ring,show G2.nx ≠ G5.nx by omega,o5,splice_put,splice_end]
    exact ⟨_,rfl,(y5.push _).put (by have:=y5.nx; omega) _,⟨by omega,by simp; omega⟩,fun own t=>⟨0,0,0,0,v,.slice none 0 0,0,by simp [show G2.nx ≠ G5.nx by omega,o5],OwT.nil _ _ _,nInB _⟩⟩
   ·have hs:drainE x c v = 0:=by unfold drainE; rw [if_neg (fun h=>hv h.2),he]
    have hnew:newDn x c v = .fr (x.rg c) v [] (newFr (x.rg c)):=by unfold newDn; rw [hs]; rfl
    rw [hnew]
    obtain ⟨G5,e5,x5⟩:=mbox_ok orc x c G3
    rw [box_zero he] at e5
    have o5:=(x5.obj G2.nx (by omega)).trans o3
    have y5:=x3.trans x5
    have n5:=x5.nx
    obtain ⟨G6,hG6⟩:∃ G6,G6 = ((G5.push ⟨zR,1,false,1⟩).put G5.nx ⟨x.ring c,1,false,1⟩).room 12:=⟨_,rfl⟩
    have x6:Ext G G6:=by rw [hG6]; exact ((y5.push _).put (by have:=y5.nx; omega) _).room 12
    have n6:G5.nx + 1 ≤ G6.nx:=by rw [hG6]; simp
    have o6:G6.obj G2.nx = some ⟨[.bool true,.int .i64 0,.int .i64 0,.int .i64 0,.int .i64 0,.int .i64 v,.nilIface,.slice none 0 0,.int .i64 0,.int .i64 0],1,false,1⟩:=by rw [hG6]; simpa [show G2.nx ≠ G5.nx by omega] using o5
    obtain ⟨b,G7,e7,x7,b1,b2,r7⟩:=newfront_ok orc (x.rg c) G6
    have e7':(E orc).cl 66 [.agg ⟨x.ring c⟩] G6 = some (P0 b,G7):=e7
    have o7:=(x7.obj G2.nx (by omega)).trans o6
    have p6:G6.obj G5.nx = some ⟨x.ring c,1,false,1⟩:=by rw [hG6]; simp
    have p7:=(x7.obj G5.nx (by omega)).trans p6
    have y7:=x6.trans x7
    have n7:=x7.nx
    unfold MB.ring at hG6 p6 p7 e7'
    simp [s33,sb33,j33_0,jb33_0,clip_t,← hG1,o1,e2,← hG3,o3,hv,q3,e5,MB.ring,show G2.nx ≠ G5.nx by omega,o5,splice_put,splice_end,splice_succ,← hG6,o6,p6,p7,e7',o7,stO_one 6 (.iface 60 (P0 b)) rfl]
    exact ⟨_,rfl,(y7.put (by omega) _).put (by omega) _,⟨by omega,by simp; omega⟩,fun own t=>⟨b,.slice none 0 0,0,by simp; exact ⟨rfl,rfl,rfl,rfl⟩,OwT.nil _ _ _,nInB _,⟨by simp; omega,grown_new (by omega)⟩,by omega,nInB _,r7.kept (by rw [obj_put,if_neg (by omega),obj_put,if_neg (by omega)])⟩⟩
  ·have hs:drainE x c v = x.ref c:=by unfold drainE; rw [if_neg (fun h=>he h.1)]
   have hnew:newDn x c v = .done (x.ref c) []:=by unfold newDn; rw [hs,if_neg he]
   rw [hnew]
   obtain ⟨G3,hG3⟩:∃ G3,G3 = G2.push ⟨[.bool true,.int .i64 0,.int .i64 0,.int .i64 0,.int .i64 0,.int .i64 v,.nilIface,.slice none 0 0,.int .i64 0,.int .i64 (x.ref c)],1,false,1⟩:=⟨_,rfl⟩
   have x3:Ext G G3:=by rw [hG3]; exact y2.push _
   have n3:G3.nx = G2.nx + 1:=by rw [hG3]; rfl
   have o3:G3.obj G2.nx = some ⟨[.bool true,.int .i64 0,.int .i64 0,.int .i64 0,.int .i64 0,.int .i64 v,.nilIface,.slice none 0 0,.int .i64 0,.int .i64 (x.ref c)],1,false,1⟩:=by rw [hG3]; simp
   have q3:G3.obj G.nx = some ⟨x.cells,1,false,1⟩:=by rw [hG3]; simpa [show G.nx ≠ G2.nx by omega] using o2
   obtain ⟨G5,e5,x5⟩:=mbox_ok orc x c G3
   rw [box_not he] at e5
   have o5:=(x5.obj G2.nx (by omega)).trans o3
   have y5:=x3.trans x5
   have n5:=x5.nx
   simp [s33,sb33,j33_0,jb33_0,clip_t,← hG1,o1,e2,← hG3,o3,he,q3,e5,MB.ring,show G2.nx ≠ G5.nx by omega,o5,splice_put,splice_end]
   exact ⟨_,rfl,(y5.push _).put (by have:=y5.nx; omega) _,⟨by omega,by simp; omega⟩,fun own t=>⟨0,0,0,0,v,.slice none 0 0,0,by simp [show G2.nx ≠ G5.nx by omega,o5],OwT.nil _ _ _,nInB _⟩⟩
 obtain ⟨r,e1,h⟩:=w
 exact ⟨r,f33 (exL_ok Q orc) _ _ _ G _ e1,h⟩
end
end Go.Proofs.YtlaojmcekeohnaaGreatDoor.Lift
set_option linter.unusedVariables false
set_option linter.unusedSimpArgs false
set_option maxRecDepth 20000
namespace Go.Proofs.YtlaojmcekeohnaaGreatDoor.Lift
open Go Go.Proofs.YtlaojmcekeohnaaGreatDoor.Gh Go.Proofs
theorem neq_fn (n q:Nat):gBinF Q .neq 168 (.tmp n) (.const .nilIface) (.iface 60 (P0 q)) .nilIface = some (.bool true):=by kernel_rfl
theorem neq_dn (n q:Nat):gBinF Q .neq 168 (.tmp n) (.const .nilIface) (.iface 61 (P0 q)) .nilIface = some (.bool true):=by kernel_rfl
theorem neq_nn (n:Nat):gBinF Q .neq 168 (.tmp n) (.const .nilIface) .nilIface .nilIface = some (.bool false):=by kernel_rfl
section
variable {own own1:Nat → Nat} {t b:Nat} {G G1:GS}
theorem clone_ok (orc:FuncId → Bool) {v:Value} {l:List Int} (h:OwR (rowsI .i64) 0 G v l) (hl:l.length < 2 ^ 36):∃ v' G',(E orc).cl 98 [v] G = some (v',G') ∧ Ext G G' ∧ OwR (rowsI .i64) G.nx G' v' l:=by
 have his:=h.is
 rcases h.2 with ⟨rfl,h0⟩ | ⟨c,op,rfl,h2,h3,h4⟩
 ·have hl0:l = []:=List.eq_nil_of_length_eq_zero h0
  subst hl0
  exact ⟨_,G,f98 (exL_ok Q orc) _ G _ (by simp [s98]),Ext.refl G,OwR.nil _ _⟩
 ·obtain ⟨v',G',h1,h2,h3⟩:=OwR.app (A:=G) (ib:=8) (OwR.made (rowsI .i64) G) (by decide) ((Ext.refl G).push _) (his.ext ((Ext.refl G).push _)) (by simp; omega)
  simp only [rowsI_sz] at h1
  refine ⟨v',G',f98 (exL_ok Q orc) _ G _ ?_,h2,by simpa using h3⟩
  simp [s98,rep,fillS,fillC,h1]
theorem dnvals_ok (orc:FuncId → Bool) {k:Nat} {p:DnS} (hpo:p.ok k) (hk:k < 2 ^ 36) (hp:DnP own t G b p):∃ v' G',(E orc).cl 37 [P0 b] G = some (.tuple #[v',.int .i64 p.err],G') ∧ Ext G G' ∧ OwR (rowsI .i64) G.nx G' v' p.vals:=by
 cases p with
 | done e l =>
  obtain ⟨a0,a1,a2,a3,mo,tk,v,h1,h2,h3⟩:=hp
  have one0:=h2.one
  by_cases he:e = 0
  ·subst he
   obtain ⟨v',G',e1,x1,w1⟩:=clone_ok orc h2.ow (Nat.lt_of_le_of_lt hpo hk)
   refine ⟨v',G',f37 (exL_ok Q orc) _ G _ ?_,x1,by simpa [DnS.vals] using w1⟩
   simp [s37,h1,neq_nn,e1,DnS.err]
  ·refine ⟨.slice none 0 0,G.room 6,f37 (exL_ok Q orc) _ G _ ?_,(Ext.refl G).room 6,by simpa [DnS.vals,he] using OwR.nil _ _⟩
   simp [s37,h1,neq_nn,he,DnS.err]
 | fr R mo l p =>
  obtain ⟨q,tk,v,h1,h2,_⟩:=hp
  have one0:=h2.one
  refine ⟨.slice none 0 0,G,f37 (exL_ok Q orc) _ G _ ?_,Ext.refl G,OwR.nil _ _⟩
  simp [s37,h1,neq_fn,DnS.err]
 | dr R mo l v p =>
  obtain ⟨q,tk,h1,h2,_⟩:=hp
  have one0:=h2.one
  refine ⟨.slice none 0 0,G,f37 (exL_ok Q orc) _ G _ ?_,Ext.refl G,OwR.nil _ _⟩
  simp [s37,h1,neq_dn,DnS.err]
end
end Go.Proofs.YtlaojmcekeohnaaGreatDoor.Lift
set_option linter.unusedVariables false
set_option linter.unusedSimpArgs false
set_option maxRecDepth 20000
namespace Go.Proofs.YtlaojmcekeohnaaGreatDoor.Lift
open Go Go.Proofs.YtlaojmcekeohnaaGreatDoor.Gh Go.Proofs
def fillsN (x:MB):Nat → Nat → MS → MS
 | 0,_,s=>s
 | k + 1,i,s=>fillsN x k (i + 1) (fillI (x.rg i) s)
def mfillI (x:MB) (s:MS):MS:=fillsN x x.cores.toNat 0 s
theorem fillsN_ok (x:MB):∀ (k i:Nat) {s:MS},s.ok → (fillsN x k i s).ok
 | 0,_,_,h=>h
 | k + 1,i,_,h=>fillsN_ok x k (i + 1) (fillI_ok _ h)
section
variable {own own0 own1:Nat → Nat} {A G G1:GS} {m r xb mb l t:Nat} {s s':MS} {x:MB} {T:List Value}
theorem PM.fill (orc:FuncId → Bool) (h:PM own G m s) (R:Rg):∃ own1 G1,(E orc).cl 71 [R.v,P0 m] G = some (.tuple #[],G1) ∧ PW no own G own1 G1 m (fillI R s):=by
 obtain ⟨⟨v,G1⟩,e,rfl,q2,q3⟩:=fill_ok orc h R
 exact ⟨_,G1,e,pw_of h q2 q3⟩
noncomputable abbrev lpF (T:List Value):Lp:=⟨.ready,none,T,[11,12],(subAt [1,1,1,0,0] (bodyOf Tryz.f169)),(subAt [1,1,1,0,1] (bodyOf Tryz.f169))⟩
structure FlS (x:MB) (own0:Nat → Nat) (A:GS) (l xb mb m:Nat) (T:List Value) (own:Nat → Nat) (G:GS) (s:MS):Prop where
 w:PW no own0 A own G m s
 lp:G.loop l = some (lpF T)
 nl:A.nl ≤ l
 ll:l < G.nl
 ox:G.obj xb = some ⟨x.cells,1,false,1⟩
 om:G.obj mb = some ⟨[P0 m],1,false,1⟩
 lx:xb < G.nx
 lm:mb < G.nx
 tx:own xb ≠ 10
 tm:own mb ≠ 10
theorem Stp.putLoop {B:Nat → Prop} {r:Lp} (h:Stp t B own G own1 G1) (hl:G.nl ≤ l):Stp t B own G own1 (G1.putLoop l r):=⟨h.agr,h.mod.putLoop hl r⟩
theorem PM.putLoop {r:Lp} (h:PM own G m s):PM own (G.putLoop l r) m s:=(sepP m s).mono ((sepP m s).kept h (Nat.le_refl _) fun g hg=>by simp) (fun y hy=>⟨by simpa using hy.1,hy.2⟩) Tag.under
theorem PW.putLoop {B:Nat → Prop} {r:Lp} (h:PW B own G own1 G1 m s) (hl:G.nl ≤ l):PW B own G own1 (G1.putLoop l r) m s:=⟨h.stp.putLoop hl,h.pm.putLoop⟩
theorem fl_round (orc:FuncId → Bool) {i:Int} (hT:T.length = 16) (t3:nth undef T 3 = P0 mb) (h:FlS x own0 A l xb mb m T own G s) (R:Rg) :
  Wp ((E orc).rd l [.int .i64 i,R.v] G) fun q=>q.1 = .bool true ∧ ∃ own',FlS x own0 A l xb mb m T own' q.2 (fillI R s):=by
 refine Wp.ref (d169_0 (exL_ok Q orc) l T _ _ G h.lp hT) ?_
 obtain ⟨G1,hG1⟩:∃ G1,G1 = ((G.push ⟨zR,1,false,1⟩).put G.nx ⟨R.cells,1,false,1⟩):=⟨_,rfl⟩
 have x1:Ext G G1:=by rw [hG1]; exact ((Ext.refl G).push _).put (Nat.le_refl _) _
 have l1:G1.loop l = some (lpF T):=by rw [hG1]; simpa using h.lp
 have nl1:G1.nl = G.nl:=by rw [hG1]; rfl
 have on1:G1.obj G.nx = some ⟨R.cells,1,false,1⟩:=by rw [hG1]; simp
 have n1:G1.nx = G.nx + 1:=by rw [hG1]; rfl
 obtain ⟨G2,hG2⟩:∃ G2,G2 = G1.putLoop l (Lp.setSt (lpF T) .busy):=⟨_,rfl⟩
 have n2:G2.nx = G.nx + 1:=by rw [hG2,nx_putLoop,n1]
 have w1:=h.w.ext x1
 have w2:PW no own0 A (grown own G 13) G2 m s:=by rw [hG2]; exact w1.putLoop h.nl
 have l2:G2.loop l = some (Lp.setSt (lpF T) .busy):=by rw [hG2]; simp
 have nl2:G2.nl = G.nl:=by rw [hG2]; exact nl1
 have on2:G2.obj G.nx = some ⟨R.cells,1,false,1⟩:=by rw [hG2]; simpa using on1
 have ox2:G2.obj xb = some ⟨x.cells,1,false,1⟩:=by rw [hG2]; simpa using (x1.obj xb h.lx).trans h.ox
 have om2:G2.obj mb = some ⟨[P0 m],1,false,1⟩:=by rw [hG2]; simpa using (x1.obj mb h.lm).trans h.om
 have tx2:grown own G 13 xb ≠ 10:=by rw [grown_agr xb h.lx]; exact h.tx
 have tm2:grown own G 13 mb ≠ 10:=by rw [grown_agr mb h.lm]; exact h.tm
 obtain ⟨own3,G3,e3,w3⟩:=w2.pm.fill orc R
 have l3:G3.loop l = some (Lp.setSt (lpF T) .busy):=(w3.stp.mod.loop l (by rw [nl2]; exact h.ll)).trans l2
 have nl3:=w3.stp.mod.nl
 have lx:=h.lx
 have lm:=h.lm
 have ll:=h.ll
 have hrd:roundEnd l .normal G3 = some (.bool true,G3.putLoop l (lpF T)):=by
  rw [roundEnd_some l .normal _ (j:=none) rfl l3]
  rfl
 simp [r169_0,t3,← hG1,splice_put,splice_end]
 have om1:=(x1.obj mb h.lm).trans h.om
 simp [l1,← hG2,on1,om1,e3,hrd]
 refine ⟨own3,(w2.trans w3 fun _ _ h=>h).putLoop h.nl,by simp,h.nl,?_,?_,?_,?_,?_,?_,?_⟩
 ·show l < G3.nl; omega
 ·simpa using (w3.keep (by omega) tx2 id).trans ox2
 ·simpa using (w3.keep (by omega) tm2 id).trans om2
 ·have:=w3.nx; simp; omega
 ·have:=w3.nx; simp; omega
 ·rw [w3.stp.same (by omega)]; exact tx2
 ·rw [w3.stp.same (by omega)]; exact tm2
theorem fills_lp (orc:FuncId → Bool) (hT:T.length = 16) (t3:nth undef T 3 = P0 mb) (hx:x.sized):∀ (k i:Nat) (own:Nat → Nat) (τ:Env) (G:GS) (s:MS),(i:Int) + k = x.cores → τ 0 = .func (.yield l) #[] #[] → τ 1 = P0 xb → τ 6 = .int .i64 x.cores → τ 7 = .int .i64 i →
  FlS x own0 A l xb mb m T own G s → Wp ((exL Q orc).lpx 222 0 τ G) fun q=>q.1 = .exit 0 ∧ ∃ own',FlS x own0 A l xb mb m T own' q.2.2 (fillsN x k i s):=by
 intro k
 induction k with
 | zero =>
  intro i own τ G s hi t0 t1 t6 t7 h
  refine Wp.lp (l222_0 (exL_ok Q orc)) ?_
  have hi':¬ (i:Int) < x.cores:=by omega
  simp [-Int.natCast_add,b222_0,clip_t,t0,t1,t6,t7,hi']
  exact ⟨own,h⟩
 | succ k ih =>
  intro i own τ G s hi t0 t1 t6 t7 h
  refine Wp.lp (l222_0 (exL_ok Q orc)) ?_
  have hi':(i:Int) < x.cores:=by omega
  have hx':=hx.2.1
  have hw:IntKind.wrap .i64 ((i:Int) + 1) = ((i + 1:Nat):Int):=wrap64 (by omega) (by omega)
  have ox:=h.ox
  obtain ⟨R,hR⟩:∃ R,R = x.ring i:=⟨_,rfl⟩
  have hR':=hR
  unfold MB.ring at hR'
  obtain ⟨⟨v,G1⟩,e1,rfl,own1,h1⟩:=fl_round orc (i:=i) hT t3 h (x.rg i)
  have e1':(E orc).rd l [.int .i64 i,.agg ⟨R⟩] G = some (.bool true,G1):=by rw [hR]; exact e1
  simp [-Int.natCast_add,b222_0,clip_t,t0,t1,t6,t7,hi',ox,← hR',e1',hw]
  exact ih (i + 1) own1 _ G1 _ (by omega) (by simp [clip_t]) (by simp [clip_t]) (by simp [clip_t]) (by simp [clip_t]) h1
theorem fills_ok (orc:FuncId → Bool) (hx:x.sized) (h:PM own G m s):∃ own1 G1,(E orc).cl 169 [x.v,P0 m] G = some (.tuple #[],G1) ∧ PW no own G own1 G1 m (mfillI x s):=by
 obtain ⟨G1,hG1⟩:∃ G1,G1 = (G.push ⟨x.cells,1,false,1⟩).push ⟨[P0 m],1,false,1⟩:=⟨_,rfl⟩
 have x1:Ext G G1:=by rw [hG1]; exact ((Ext.refl G).push _).push _
 have o1:G1.obj G.nx = some ⟨x.cells,1,false,1⟩:=by rw [hG1]; simp
 have p1:G1.obj (G.nx + 1) = some ⟨[P0 m],1,false,1⟩:=by rw [hG1]; simp
 have n1:G1.nx = G.nx + 2:=by rw [hG1]; rfl
 obtain ⟨G2,e2,x2⟩:=msized_ok orc x G1
 have y2:=x1.trans x2
 have n2:=x2.nx
 have o2:=(x2.obj G.nx (by omega)).trans o1
 have p2:=(x2.obj (G.nx + 1) (by omega)).trans p1
 simp only [hx,decide_true] at e2
 have w:Wp (s169 true (exL Q orc) x.v (P0 m) G) fun q=>q.1 = .tuple #[] ∧ ∃ own1,PW no own G own1 q.2 m (mfillI x s):=by
  simp [s169,← hG1,o1,e2,o2,bclose_ok]
  generalize hTT:lst 16 (tu (nth undef _) _) = T
  have hT:T.length = 16:=by rw [← hTT]; exact length_lst 16 _
  have t3:nth undef T 3 = P0 (G.nx + 1):=by rw [← hTT,nth_lst]; simp [clip_t]
  clear hTT
  obtain ⟨G5,hG5⟩:∃ G5,G5 = (G2.push ⟨x.cells,1,false,1⟩).pushLoop (lpF T):=⟨_,rfl⟩
  have x5:Ext G G5:=by rw [hG5]; exact (y2.push _).pushLoop _
  have x5':Ext G2 G5:=by rw [hG5]; exact ((Ext.refl G2).push _).pushLoop _
  have n5:G5.nx = G2.nx + 1:=by rw [hG5]; rfl
  have l5:G5.loop G2.nl = some (lpF T):=by rw [hG5]; simp
  have w5:PW no own G (grown own G 13) G5 m s:=(PW.refl h).ext x5
  have tn:∀ g,G.nx ≤ g → grown own G 13 g ≠ 10:=fun g hg=>by rw [grown_new hg]; decide
  have hS:FlS x own G G2.nl G2.nx (G.nx + 1) m T (grown own G 13) G5 s:=⟨w5,l5,y2.nl,by rw [hG5]; simp,by rw [hG5]; simp,(x5'.obj _ (by omega)).trans p2,by omega,by omega,tn _ (by omega),tn _ (by omega)⟩
  have hc:=hx.1
  have ox:=hS.ox
  have wl:Wp (s222 true (exL Q orc) (.func (.yield G2.nl) #[] #[]) (P0 G2.nx) G5) fun q=>q.1 = .tuple #[] ∧ ∃ own',FlS x own G G2.nl G2.nx (G.nx + 1) m T own' q.2 (mfillI x s):=by
   simp [s222,ox]
   refine Wp.bE ((fills_lp orc hT t3 hx x.cores.toNat 0 _ _ G5 s (by omega) (by simp [clip_t]) (by simp [clip_t]) (by simp [clip_t]) (by simp [clip_t]) hS).mono ?_)
   rintro ⟨e,τ,G'⟩ ⟨rfl,own',h'⟩
   simp
   exact ⟨own',h'⟩
  obtain ⟨⟨v,G6⟩,e6,rfl,own6,h6⟩:=wl
  have e6':=f222 (exL_ok Q orc) _ _ G5 _ e6
  rw [← hG5]
  simp only [List.nil_append,List.singleton_append,List.cons_append,e6']
  rw [xRangeEnd_some G2.nl T _ G6 h6.lp (by simp) rfl]
  simp
  exact ⟨own6,h6.w.putLoop y2.nl⟩
 obtain ⟨⟨v,G'⟩,e1,rfl,own1,h1⟩:=w
 exact ⟨own1,G',f169 (exL_ok Q orc) _ _ G _ e1,h1⟩
end
end Go.Proofs.YtlaojmcekeohnaaGreatDoor.Lift
set_option linter.unusedVariables false
set_option linter.unusedSimpArgs false
set_option maxRecDepth 20000
namespace Go.Proofs.YtlaojmcekeohnaaGreatDoor.Lift
open Go Go.Proofs.YtlaojmcekeohnaaGreatDoor.Gh Go.Proofs
section
variable {own:Nat → Nat} {G:GS} {m r:Nat} {s:MS}
end
section
variable {own:Nat → Nat} {A G:GS} {m r xb:Nat} {s:MS} {x:MB}
end
end Go.Proofs.YtlaojmcekeohnaaGreatDoor.Lift
set_option linter.unusedVariables false
set_option linter.unusedSimpArgs false
set_option linter.unnecessarySimpa false
set_option maxRecDepth 20000
namespace Go.Proofs.YtlaojmcekeohnaaGreatDoor.Lift
open Go Go.Proofs.YtlaojmcekeohnaaGreatDoor.Gh Go.Proofs
def upN {α:Type} (f:Nat → α) (c:Nat) (a:α):Nat → α:=fun j=>if j = c then a else f j
theorem upN_same {α:Type} (f:Nat → α) (c:Nat) (a:α):upN f c a c = a:=by unfold upN; rw [if_pos rfl]
theorem upN_ne {α:Type} (f:Nat → α) {c j:Nat} (a:α) (h:j ≠ c):upN f c a j = f j:=by unfold upN; rw [if_neg h]
def rgN (a n:Nat):Rg:=⟨a,((a + 1:Nat):Int),((a + 2:Nat):Int),n⟩
def wordN (n D:Nat) (q:List Int) (t:Nat):Int:=if t < D + q.length then ((t / n:Nat):Int) * 4294967296 + 65536 + (q[t - D]?).getD 0 else ((t / n:Nat):Int) * 4294967296
structure InvM (a n D T K:Nat) (q:List Int) (H:Nat) (s:MS):Prop where
 n1:1 ≤ n
 n6:n ≤ 6
 a9:a ≤ 100
 len:a + 2 + n ≤ s.W.length
 head:s.W[a]? = some (H:Int)
 tail:s.W[a + 1]? = some (T:Int)
 t1:T ≤ D + q.length
 t2:D + q.length ≤ T + 1
 qn:q.length ≤ n
 small:D + q.length ≤ K
 qv:∀ v ∈ q,0 ≤ v ∧ v ≤ 65535
 slot:∀ t,D ≤ t → t < D + n → s.W[a + 2 + t % n]? = some (wordN n D q t)
inductive InvP (a n D T P:Nat) (v e:Int):PuS → Prop where
 | tail (t w:Int):e = 14 → InvP a n D T P v e (.go 1 (rgN a n) v t w)
 | look (t:Nat) (w:Int):e = 14 → t ≤ T → InvP a n D T P v e (.go 2 (rgN a n) v t w)
 | lay (t:Nat):e = 14 → t ≤ T → t < D + n → InvP a n D T P v e (.go 3 (rgN a n) v t (((t / n:Nat):Int) * 4294967296))
 | last (t:Nat) (w:Int):e = 0 → t + 1 ≤ P → InvP a n D T P v e (.go 4 (rgN a n) v t w)
 | help (t:Nat) (w:Int):e = 14 → t + 1 ≤ P → InvP a n D T P v e (.go 5 (rgN a n) v t w)
section
variable {a n D T K H:Nat} {q:List Int} {s:MS}
theorem place_n (hn:1 ≤ n) (h6:n ≤ 6) (ha:a ≤ 100) (t:Nat):placeI (rgN a n) t = ((a + 2 + t % n:Nat):Int):=by
 have:t % n < n:=Nat.mod_lt _ (by omega)
 unfold placeI rgN
 simp only
 rw [show ((a + 2:Nat):Int) + (t:Int) % (n:Int) = ((a + 2 + t % n:Nat):Int) by simp]
 exact wrap64 (by omega) (by omega)
theorem lap_n (hn:1 ≤ n) {t:Nat} (ht:t ≤ 1000000):lapI (rgN a n) t = ((t / n:Nat):Int):=by
 have:t / n ≤ t:=Nat.div_le_self _ _
 unfold lapI rgN
 simp only
 rw [show (t:Int) / (n:Int) = ((t / n:Nat):Int) by simp]
 generalize t / n = k at *
 omega
theorem acc_in {a:Nat} {w:Int} (h:s.W[a]? = some w) (k:Int) (u:Int → Int × Bool):s.acc k (a:Int) u = ⟨s.W.set a (u w).1,k,a,w,(u w).1,(u w).2,IntKind.wrap .i64 (s.many + 1)⟩:=by
 have hl:a < s.W.length:=(List.getElem?_eq_some_iff.1 h).1
 unfold MS.acc
 rw [if_pos (by omega),Int.toNat_natCast,h]
 rfl
theorem set_same {a:Nat} {w:Int} {W:List Int} (h:W[a]? = some w):W.set a w = W:=by
 obtain ⟨hl,rfl⟩:=List.getElem?_eq_some_iff.1 h
 exact List.set_getElem_self hl
theorem load_in {a:Nat} {w:Int} (h:s.W[a]? = some w):s.load (a:Int) = ⟨s.W,1,a,w,w,false,IntKind.wrap .i64 (s.many + 1)⟩:=by
 unfold MS.load
 rw [acc_in h]
 simp only [uLoad,set_same h]
theorem store_in {a:Nat} {w:Int} (h:s.W[a]? = some w) (v:Int):s.store (a:Int) v = ⟨s.W.set a v,2,a,w,v,true,IntKind.wrap .i64 (s.many + 1)⟩:=by
 unfold MS.store
 rw [acc_in h]
 rfl
theorem cas_hit {a:Nat} {w:Int} (h:s.W[a]? = some w) (y:Int):s.cas (a:Int) w y = ⟨s.W.set a y,3,a,w,y,true,IntKind.wrap .i64 (s.many + 1)⟩:=by
 unfold MS.cas
 rw [acc_in h]
 simp only [uCas,if_true]
theorem cas_miss {a:Nat} {w x:Int} (h:s.W[a]? = some w) (hx:w ≠ x) (y:Int):s.cas (a:Int) x y = ⟨s.W,3,a,w,w,false,IntKind.wrap .i64 (s.many + 1)⟩:=by
 unfold MS.cas
 rw [acc_in h]
 simp only [uCas,if_neg hx,set_same h]
theorem InvM.sameW {s':MS} (h:InvM a n D T K q H s) (hw:s'.W = s.W):InvM a n D T K q H s':=⟨h.n1,h.n6,h.a9,by rw [hw]; exact h.len,by rw [hw]; exact h.head,by rw [hw]; exact h.tail,h.t1,h.t2,h.qn,h.small,h.qv,fun t h1 h2=>by rw [hw]; exact h.slot t h1 h2⟩
theorem InvM.more {K':Nat} (h:InvM a n D T K q H s) (hk:K ≤ K'):InvM a n D T K' q H s:={ h with small:=Nat.le_trans h.small hk }
inductive AtW (n D:Nat) (q:List Int) (t:Nat) (w:Int):Prop where
 | free:t = D + q.length → t < D + n → w = ((t / n:Nat):Int) * 4294967296 → AtW n D q t w
 | full (l:Nat) (v:Int):t = D + q.length → q.length = n → t / n = l + 1 → w = (l:Int) * 4294967296 + 65536 + v → 0 ≤ v → v ≤ 65535 → AtW n D q t w
 | old (l:Nat) (v:Int):t < D + q.length → t / n ≤ l → l ≤ D + n → w = (l:Int) * 4294967296 + 65536 + v → 0 ≤ v → v ≤ 65535 → AtW n D q t w
 | gone (l:Nat):t < D + q.length → t / n < l → l ≤ D + n → w = (l:Int) * 4294967296 → AtW n D q t w
theorem get_q (h:∀ v ∈ q,0 ≤ v ∧ v ≤ 65535) (i:Nat):0 ≤ (q[i]?).getD 0 ∧ (q[i]?).getD 0 ≤ 65535:=by
 cases hq:q[i]? with
 | none=>simp
 | some v=>exact h v (List.mem_of_getElem? hq)
theorem InvM.at (h:InvM a n D T K q H s) {t:Nat} (ht:t ≤ D + q.length):∃ w,s.W[a + 2 + t % n]? = some w ∧ AtW n D q t w:=by
 have n1:=h.n1
 have qn:=h.qn
 by_cases c1:t < D
 ·-- the number of the slot now
  obtain ⟨u,hu1,hu2,hu3⟩:∃ u,D ≤ u ∧ u < D + n ∧ u % n = t % n:=by
   refine ⟨t + n * ((D - t + n - 1) / n),?_,?_,by simp⟩
   ·have:=Nat.div_add_mod (D - t + n - 1) n
    have:=Nat.mod_lt (D - t + n - 1) (show n > 0 by omega)
    omega
   ·have:=Nat.div_add_mod (D - t + n - 1) n
    have:=Nat.mod_lt (D - t + n - 1) (show n > 0 by omega)
    omega
  have hlt:t / n < u / n:=by
   rcases Nat.lt_or_ge (t / n) (u / n) with h | h
   ·exact h
   ·have h1:=Nat.div_add_mod t n
    have h2:=Nat.div_add_mod u n
    have h3:=Nat.mul_le_mul_left n h
    omega
  have hun:u / n ≤ D + n:=Nat.le_trans (Nat.div_le_self _ _) (by omega)
  refine ⟨_,by rw [← hu3]; exact h.slot u hu1 hu2,?_⟩
  unfold wordN
  split
  ·have:=get_q h.qv (u - D)
   exact .old (u / n) _ (by omega) (by omega) hun rfl this.1 this.2
  ·exact .gone (u / n) (by omega) hlt hun rfl
 ·by_cases c2:t < D + n
  ·refine ⟨_,h.slot t (by omega) c2,?_⟩
   have hun:t / n ≤ D + n:=Nat.le_trans (Nat.div_le_self _ _) (by omega)
   unfold wordN
   split
   ·have:=get_q h.qv (t - D)
    exact .old (t / n) _ (by omega) (by omega) hun rfl this.1 this.2
   ·exact .free (by omega) c2 rfl
  ·have e1:t = D + n:=by omega
   have e2:q.length = n:=by omega
   refine ⟨_,by rw [e1,Nat.add_mod_right]; exact h.slot D (by omega) (by omega),?_⟩
   have hq:=get_q h.qv (D - D)
   have hd:t / n = D / n + 1:=by rw [e1,Nat.add_div_right _ (by omega)]
   unfold wordN
   rw [if_pos (by omega)]
   exact .full (D / n) _ (by omega) e2 hd rfl hq.1 hq.2
theorem empty_e (l l':Nat):emptyI ((l:Int) * 4294967296) l' = decide (l = l'):=by
 unfold emptyI
 rw [Bool.eq_iff_iff]; simp; omega
theorem empty_f (l l':Nat) {v:Int} (h0:0 ≤ v) (h1:v ≤ 65535):emptyI ((l:Int) * 4294967296 + 65536 + v) l' = false:=by
 unfold emptyI
 rw [Bool.and_eq_false_iff]; simp; omega
theorem full_e (l:Nat) (l':Int):fullI ((l:Int) * 4294967296) l' = false:=by
 unfold fullI
 rw [Bool.and_eq_false_iff]; simp; omega
theorem full_f (l:Nat) (l':Int) {v:Int} (h0:0 ≤ v) (h1:v ≤ 65535):fullI ((l:Int) * 4294967296 + 65536 + v) l' = decide ((l:Int) = l'):=by
 unfold fullI
 rw [Bool.eq_iff_iff]; simp; omega
theorem InvM.laid (h:InvM a n D T K q H s) (hf:q.length < n) {v:Int} (h0:0 ≤ v) (h1:v ≤ 65535) (hT:T = D + q.length) {s':MS} (hW:s'.W = s.W.set (a + 2 + (D + q.length) % n) ((((D + q.length) / n:Nat):Int) * 4294967296 + 65536 + v)):InvM a n D T (K + 1) (q ++ [v]) H s':=by
 have n1:=h.n1
 have hm:(D + q.length) % n < n:=Nat.mod_lt _ (by omega)
 refine ⟨h.n1,h.n6,h.a9,by rw [hW,List.length_set]; exact h.len,?_,?_,by simp; omega,by simp; omega,by simp; omega,by have:=h.small; simp; omega,?_,?_⟩
 ·rw [hW,List.getElem?_set_ne (by omega)]; exact h.head
 ·rw [hW,List.getElem?_set_ne (by omega)]; exact h.tail
 ·intro x hx
  rcases List.mem_append.1 hx with hx | hx
  ·exact h.qv x hx
  ·rw [List.mem_singleton.1 hx]; exact ⟨h0,h1⟩
 ·intro t ht1 ht2
  by_cases c:t = D + q.length
  ·subst c
   rw [hW,List.getElem?_set_self (by have:=h.len; omega)]
   unfold wordN
   rw [if_pos (by simp)]
   simp
  ·have hne:t % n ≠ (D + q.length) % n:=by
    intro e
    have h2:=Nat.div_add_mod t n
    have h3:=Nat.div_add_mod (D + q.length) n
    rcases Nat.lt_trichotomy (t / n) ((D + q.length) / n) with k | k | k
    ·have:=Nat.mul_le_mul_left n (show t / n + 1 ≤ (D + q.length) / n from k)
     rw [Nat.mul_add,Nat.mul_one] at this; omega
    ·rw [k] at h2; omega
    ·have:=Nat.mul_le_mul_left n (show (D + q.length) / n + 1 ≤ t / n from k)
     rw [Nat.mul_add,Nat.mul_one] at this; omega
   rw [hW,List.getElem?_set_ne (by omega),h.slot t ht1 ht2]
   unfold wordN
   by_cases k:t < D + q.length
   ·rw [if_pos k,if_pos (by simp; omega),List.getElem?_append_left (by omega)]
   ·rw [if_neg k,if_neg (by simp; omega)]
theorem InvM.cleared (h:InvM a n D T K q H s) (hq:0 < q.length) {s':MS} (hW:s'.W = s.W.set (a + 2 + D % n) (((D / n + 1:Nat):Int) * 4294967296)):InvM a n (D + 1) T K (q.drop 1) H s':=by
 have n1:=h.n1
 have qn:=h.qn
 have hm:D % n < n:=Nat.mod_lt _ (by omega)
 refine ⟨h.n1,h.n6,h.a9,by rw [hW,List.length_set]; exact h.len,?_,?_,by have:=h.t1; simp; omega,by have:=h.t2; simp; omega,by simp; omega,by have:=h.small; simp; omega,fun x hx=>h.qv x (List.mem_of_mem_drop hx),?_⟩
 ·rw [hW,List.getElem?_set_ne (by omega)]; exact h.head
 ·rw [hW,List.getElem?_set_ne (by omega)]; exact h.tail
 ·intro t ht1 ht2
  by_cases c:t = D + n
  ·subst c
   rw [Nat.add_mod_right,hW,List.getElem?_set_self (by have:=h.len; omega)]
   unfold wordN
   rw [if_neg (by simp; omega),Nat.add_div_right _ (by omega)]
  ·have hne:t % n ≠ D % n:=by
    intro e
    have h2:=Nat.div_add_mod t n
    have h3:=Nat.div_add_mod D n
    rcases Nat.lt_trichotomy (t / n) (D / n) with k | k | k
    ·have:=Nat.mul_le_mul_left n (show t / n + 1 ≤ D / n from k)
     rw [Nat.mul_add,Nat.mul_one] at this; omega
    ·rw [k] at h2; omega
    ·have:=Nat.mul_le_mul_left n (show D / n + 1 ≤ t / n from k)
     rw [Nat.mul_add,Nat.mul_one] at this; omega
   rw [hW,List.getElem?_set_ne (by omega),h.slot t (by omega) (by omega)]
   unfold wordN
   have hd:D + 1 + (q.drop 1).length = D + q.length:=by simp; omega
   rw [hd,List.getElem?_drop,show 1 + (t - (D + 1)) = t - D by omega]
theorem InvM.headed (h:InvM a n D T K q H s) {H':Nat} {s':MS} (hW:s'.W = s.W.set a (H':Int)):InvM a n D T K q H' s':=by
 refine ⟨h.n1,h.n6,h.a9,by rw [hW,List.length_set]; exact h.len,?_,?_,h.t1,h.t2,h.qn,h.small,h.qv,fun t h1 h2=>?_⟩
 ·rw [hW,List.getElem?_set_self (by have:=h.len; omega)]
 ·rw [hW,List.getElem?_set_ne (by omega)]; exact h.tail
 ·rw [hW,List.getElem?_set_ne (by omega)]; exact h.slot t h1 h2
theorem InvM.tailed (h:InvM a n D T K q H s) (ht:T + 1 ≤ D + q.length) {s':MS} (hW:s'.W = s.W.set (a + 1) ((T + 1:Nat):Int)):InvM a n D (T + 1) K q H s':=by
 refine ⟨h.n1,h.n6,h.a9,by rw [hW,List.length_set]; exact h.len,?_,?_,ht,by have:=h.t2; omega,h.qn,h.small,h.qv,fun t h1 h2=>?_⟩
 ·rw [hW,List.getElem?_set_ne (by omega)]; exact h.head
 ·rw [hW,List.getElem?_set_self (by have:=h.len; omega)]
 ·rw [hW,List.getElem?_set_ne (by omega)]; exact h.slot t h1 h2
end
end Go.Proofs.YtlaojmcekeohnaaGreatDoor.Lift
set_option linter.unusedVariables false
set_option linter.unusedSimpArgs false
set_option linter.unnecessarySimpa false
set_option maxRecDepth 20000
namespace Go.Proofs.YtlaojmcekeohnaaGreatDoor.Lift
open Go Go.Proofs.YtlaojmcekeohnaaGreatDoor.Gh Go.Proofs
structure Fra (a n:Nat) (s s':MS):Prop where
 len:s'.W.length = s.W.length
 out:∀ b,¬ (a ≤ b ∧ b < a + 2 + n) → s'.W[b]? = s.W[b]?
def landsI (a n:Nat) (s:MS):Prop:=s.kind = 3 ∧ s.held = true ∧ ((a + 2:Nat):Int) ≤ s.at_ ∧ s.at_ < ((a + 2 + n:Nat):Int)
section
variable {a n D T K H P a' n':Nat} {q:List Int} {s s':MS} {v e:Int} {p p':PuS}
theorem Fra.same (hw:s'.W = s.W):Fra a n s s':=⟨by rw [hw],fun b _=>by rw [hw]⟩
theorem Fra.set {i:Nat} {w:Int} (hw:s'.W = s.W.set i w) (hi:a ≤ i ∧ i < a + 2 + n):Fra a n s s':=⟨by rw [hw,List.length_set],fun b hb=>by rw [hw,List.getElem?_set_ne (by rintro rfl; exact hb hi)]⟩
theorem InvM.frame (h:InvM a n D T K q H s) (f:Fra a' n' s s') (hd:a + 2 + n ≤ a' ∨ a' + 2 + n' ≤ a):InvM a n D T K q H s':=by
 have n1:=h.n1
 exact ⟨h.n1,h.n6,h.a9,by rw [f.len]; exact h.len,by rw [f.out _ (by omega)]; exact h.head,by rw [f.out _ (by omega)]; exact h.tail,h.t1,h.t2,h.qn,h.small,h.qv,fun t h1 h2=>by
  have:t % n < n:=Nat.mod_lt _ (by omega)
  rw [f.out _ (by omega)]; exact h.slot t h1 h2⟩
theorem InvP.mono {D' T' P':Nat} (h:InvP a n D T P v e p) (h1:D ≤ D') (h2:T ≤ T') (h3:P ≤ P'):InvP a n D' T' P' v e p:=by
 cases h with
 | tail t w a=>exact .tail t w a
 | look t w a b=>exact .look t w a (Nat.le_trans b h2)
 | lay t a b d=>exact .lay t a (Nat.le_trans b h2) (by omega)
 | last t w a b=>exact .last t w a (by omega)
 | help t w a b=>exact .help t w a (by omega)
theorem InvP.going (h:InvP a n D T P v e p):p.over = false ∧ p.err = 14:=by cases h <;> exact ⟨rfl,rfl⟩
def mu5 (T P:Nat) (t:Int):Nat:=1 + (if t = T then 4 else 4 + 3 * (P - T))
def muP (T P:Nat):PuS → Nat
 | .done _=>0
 | .go k _ _ t _=>if k = 1 then 4 + 3 * (P - T) else if k = 2 then (if t = P then 3 else 1 + mu5 T P t) else if k = 3 then (if t = P then 2 else 1 + mu5 T P t) else if k = 4 then 1 else mu5 T P t
theorem muP_le (h:P ≤ T + 1) (p:PuS):muP T P p ≤ 9:=by
 cases p with
 | done _=>exact Nat.zero_le _
 | go k R v t w =>
  simp only [muP,mu5]
  repeat' split
  all_goals omega
theorem muP_pos (h:InvP a n D T P v e p):1 ≤ muP T P p:=by
 cases h <;> unfold muP mu5 <;> simp <;> (try split) <;> omega
inductive PuE (a n D T' K:Nat) (q:List Int) (H:Nat) (v e:Int) (m0:Nat) (s':MS) (p':PuS):Prop
 | go:InvM a n D T' (K + 1) q H s' → InvP a n D T' (D + q.length) v e p' → muP T' (D + q.length) p' < m0 → ¬ landsI a n s' → PuE a n D T' K q H v e m0 s' p'
 | laid:e = 14 → InvM a n D T' (K + 1) (q ++ [v]) H s' → InvP a n D T' (D + (q ++ [v]).length) v 0 p' → muP T' (D + (q ++ [v]).length) p' < m0 → landsI a n s' → PuE a n D T' K q H v e m0 s' p'
 | full:e = 14 → q.length = n → p' = .done 7 → InvM a n D T' (K + 1) q H s' → ¬ landsI a n s' → PuE a n D T' K q H v e m0 s' p'
 | last:e = 0 → p' = .done 0 → InvM a n D T' (K + 1) q H s' → ¬ landsI a n s' → PuE a n D T' K q H v e m0 s' p'
theorem st1 (R:Rg) (v t w:Int) (s:MS):(PuS.go 1 R v t w).step s = (.go 2 R v (s.load R.tail).new w,s.load R.tail):=rfl
theorem st2 (R:Rg) (v t w:Int) (s:MS):(PuS.go 2 R v t w).step s = (look5 R v t (s.load (placeI R t)).new,s.load (placeI R t)):=rfl
theorem st3 (R:Rg) (v t w:Int) (s:MS):(PuS.go 3 R v t w).step s = (if (s.cas (placeI R t) w (wordI (lapI R t) v)).held = true then .go 4 R v t w else .go 5 R v t w,s.cas (placeI R t) w (wordI (lapI R t) v)):=rfl
theorem st4 (R:Rg) (v t w:Int) (s:MS):(PuS.go 4 R v t w).step s = (.done 0,s.cas R.tail t (IntKind.wrap .u64 (t + 1))):=rfl
theorem st5 (R:Rg) (v t w:Int) (s:MS):(PuS.go 5 R v t w).step s = (.go 1 R v t w,s.cas R.tail t (IntKind.wrap .u64 (t + 1))):=rfl
theorem nl_kind (h:s.kind ≠ 3):¬ landsI a n s:=fun k=>h k.1
theorem nl_tail (h:s.at_ = ((a + 1:Nat):Int)):¬ landsI a n s:=fun k=>by have:=k.2.2.1; omega
theorem nl_held (h:s.held = false):¬ landsI a n s:=fun k=>by have:=k.2.1; rw [h] at this; cases this
theorem pu_step (h:InvM a n D T K q H s) (hp:InvP a n D T (D + q.length) v e p) (hv:0 ≤ v ∧ v ≤ 65535) (hK:K + 1 ≤ 1000000) :
  ∃ T',T ≤ T' ∧ Fra a n s (p.step s).2 ∧ PuE a n D T' K q H v e (muP T (D + q.length) p) (p.step s).2 (p.step s).1:=by
 have n1:=h.n1
 have n6:=h.n6
 have a9:=h.a9
 have ht1:=h.t1
 have ht2:=h.t2
 have hsm:=h.small
 have hsl:∀ t:Nat,a ≤ a + 2 + t % n ∧ a + 2 + t % n < a + 2 + n:=fun t=>by have:t % n < n:=Nat.mod_lt _ (by omega); omega
 cases hp with
 | tail t w he =>
  have hl:s.load ((a + 1:Nat):Int) = _:=load_in (a:=a + 1) h.tail
  have hs:(PuS.go 1 (rgN a n) v t w).step s = (.go 2 (rgN a n) v (T:Int) w,s.load ((a + 1:Nat):Int)):=by
   rw [st1]; show (PuS.go 2 _ _ (s.load ((a + 1:Nat):Int)).new _,s.load ((a + 1:Nat):Int)) = _; rw [hl]
  rw [hs]
  refine ⟨T,Nat.le_refl _,Fra.same (by rw [hl]),.go ((h.more (Nat.le_succ _)).sameW (by rw [hl])) (.look T w he (Nat.le_refl _)) ?_ (nl_kind (by rw [hl]; show (1:Int) ≠ 3; decide))⟩
  unfold muP mu5
  simp
  repeat' split <;> omega
 | look t w he htT =>
  obtain ⟨w',hw',at'⟩:=h.at (t:=t) (by omega)
  have hl:s.load ((a + 2 + t % n:Nat):Int) = _:=load_in hw'
  have hs:(PuS.go 2 (rgN a n) v t w).step s = (look5 (rgN a n) v t w',s.load ((a + 2 + t % n:Nat):Int)):=by
   rw [st2,place_n n1 n6 a9,hl]
  have hlap:lapI (rgN a n) t = ((t / n:Nat):Int):=lap_n n1 (by omega)
  have hdiv:t / n ≤ t:=Nat.div_le_self _ _
  have hm':=(h.more (Nat.le_succ _)).sameW (s':=s.load ((a + 2 + t % n:Nat):Int)) (by rw [hl])
  have hf:Fra a n s (s.load ((a + 2 + t % n:Nat):Int)):=Fra.same (by rw [hl])
  have hnl:¬ landsI a n (s.load ((a + 2 + t % n:Nat):Int)):=nl_kind (by rw [hl]; show (1:Int) ≠ 3; decide)
  rw [hs]
  have help:look5 (rgN a n) v t w' = .go 5 (rgN a n) v t w' → t + 1 ≤ D + q.length → ∃ T',T ≤ T' ∧ Fra a n s (s.load ((a + 2 + t % n:Nat):Int)) ∧ PuE a n D T' K q H v e (muP T (D + q.length) (.go 2 (rgN a n) v t w)) (s.load ((a + 2 + t % n:Nat):Int)) (look5 (rgN a n) v t w'):=by
   intro hk hlt
   rw [hk]
   refine ⟨T,Nat.le_refl _,hf,.go hm' (.help t w' he hlt) ?_ hnl⟩
   unfold muP
   have:¬ (t:Int) = ((D + q.length:Nat):Int):=by omega
   simp only [if_neg this]
   simp
  cases at' with
  | free e1 e2 e3 =>
   have hk:look5 (rgN a n) v t w' = .go 3 (rgN a n) v t w':=by
    unfold look5
    rw [hlap,e3,empty_e,if_pos (by simp)]
   rw [hk]
   refine ⟨T,Nat.le_refl _,hf,.go hm' (by rw [e3]; exact .lay t he htT e2) ?_ hnl⟩
   have:(t:Int) = ((D + q.length:Nat):Int):=by omega
   unfold muP
   simp only [if_pos this]
   simp
  | full l v' e1 e2 e3 e4 e5 e6 =>
   have hk:look5 (rgN a n) v t w' = .done 7:=by
    unfold look5
    rw [hlap,e4,empty_f _ _ e5 e6,if_neg (by simp),full_f _ _ e5 e6,if_pos (by simp; omega)]
   rw [hk]
   exact ⟨T,Nat.le_refl _,hf,.full he e2 rfl hm' hnl⟩
  | old l v' e1 e2 e3 e4 e5 e6 =>
   refine help ?_ (by omega)
   have:=h.qn
   unfold look5
   rw [hlap]
   generalize t / n = k at *
   rw [e4,empty_f _ _ e5 e6,if_neg (by simp),full_f _ _ e5 e6,if_neg (by simp; omega)]
  | gone l e1 e2 e3 e4 =>
   refine help ?_ (by omega)
   unfold look5
   rw [hlap]
   generalize t / n = k at *
   rw [e4,empty_e,if_neg (by simp; omega),full_e,if_neg (by simp)]
 | lay t he htT htD =>
  obtain ⟨w',hw',at'⟩:=h.at (t:=t) (by omega)
  have hlap:lapI (rgN a n) t = ((t / n:Nat):Int):=lap_n n1 (by omega)
  have miss:w' ≠ ((t / n:Nat):Int) * 4294967296 → t + 1 ≤ D + q.length → ∃ T',T ≤ T' ∧ Fra a n s ((PuS.go 3 (rgN a n) v t (((t / n:Nat):Int) * 4294967296)).step s).2 ∧ PuE a n D T' K q H v e (muP T (D + q.length) (.go 3 (rgN a n) v t (((t / n:Nat):Int) * 4294967296))) ((PuS.go 3 (rgN a n) v t (((t / n:Nat):Int) * 4294967296)).step s).2 ((PuS.go 3 (rgN a n) v t (((t / n:Nat):Int) * 4294967296)).step s).1:=by
   intro hk hlt
   have hl:=cas_miss hw' hk (wordI (lapI (rgN a n) t) v)
   have hs:(PuS.go 3 (rgN a n) v t (((t / n:Nat):Int) * 4294967296)).step s = (.go 5 (rgN a n) v t (((t / n:Nat):Int) * 4294967296),s.cas ((a + 2 + t % n:Nat):Int) (((t / n:Nat):Int) * 4294967296) (wordI (lapI (rgN a n) t) v)):=by
    rw [st3,place_n n1 n6 a9,hl]; simp
   rw [hs]
   refine ⟨T,Nat.le_refl _,Fra.same (by rw [hl]),.go ((h.more (Nat.le_succ _)).sameW (by rw [hl])) (.help t _ he hlt) ?_ (nl_held (by rw [hl]))⟩
   unfold muP
   have:¬ (t:Int) = ((D + q.length:Nat):Int):=by omega
   simp only [if_neg this]
   simp
  cases at' with
  | free e1 e2 e3 =>
   have hl:=cas_hit hw' (wordI (lapI (rgN a n) t) v)
   rw [e3] at hl
   have hs:(PuS.go 3 (rgN a n) v t (((t / n:Nat):Int) * 4294967296)).step s = (.go 4 (rgN a n) v t (((t / n:Nat):Int) * 4294967296),s.cas ((a + 2 + t % n:Nat):Int) (((t / n:Nat):Int) * 4294967296) (wordI (lapI (rgN a n) t) v)):=by
    rw [st3,place_n n1 n6 a9,hl]; simp
   rw [hs]
   have hm':InvM a n D T (K + 1) (q ++ [v]) H (s.cas ((a + 2 + t % n:Nat):Int) (((t / n:Nat):Int) * 4294967296) (wordI (lapI (rgN a n) t) v)):=by
    refine h.laid (by omega) hv.1 hv.2 (by omega) ?_
    rw [hl,e1,lap_n n1 (by omega)]; rfl
   refine ⟨T,Nat.le_refl _,Fra.set (by rw [hl]) (hsl t),.laid he hm' (.last t _ rfl (by simp; omega)) ?_ ⟨by rw [hl],by rw [hl],by rw [hl]; show ((a + 2:Nat):Int) ≤ ((a + 2 + t % n:Nat):Int); omega,by rw [hl]; have:=hsl t; show ((a + 2 + t % n:Nat):Int) < ((a + 2 + n:Nat):Int); omega⟩⟩
   have:(t:Int) = ((D + q.length:Nat):Int):=by omega
   unfold muP
   simp only [if_pos this]
   simp
  | full l v' e1 e2 e3 e4 e5 e6=>omega
  | old l v' e1 e2 e3 e4 e5 e6=>exact miss (by omega) (by omega)
  | gone l e1 e2 e3 e4=>exact miss (by omega) (by omega)
 | last t w he htP =>
  have hw:IntKind.wrap .u64 ((t:Int) + 1) = ((t + 1:Nat):Int):=by rw [wrap_u64]; omega
  have hs:(PuS.go 4 (rgN a n) v t w).step s = (.done 0,s.cas ((a + 1:Nat):Int) (t:Int) ((t + 1:Nat):Int)):=by
   rw [st4,hw]; rfl
  rw [hs]
  by_cases k:t = T
  ·subst k
   have hl:s.cas ((a + 1:Nat):Int) (t:Int) ((t + 1:Nat):Int) = _:=cas_hit (a:=a + 1) h.tail ((t + 1:Nat):Int)
   exact ⟨t + 1,Nat.le_succ _,Fra.set (by rw [hl]) (by omega),.last he rfl ((h.more (Nat.le_succ _)).tailed htP (by rw [hl])) (nl_tail (by rw [hl]))⟩
  ·have hl:s.cas ((a + 1:Nat):Int) (t:Int) ((t + 1:Nat):Int) = _:=cas_miss (a:=a + 1) h.tail (x:=(t:Int)) (by omega) ((t + 1:Nat):Int)
   exact ⟨T,Nat.le_refl _,Fra.same (by rw [hl]),.last he rfl ((h.more (Nat.le_succ _)).sameW (by rw [hl])) (nl_tail (by rw [hl]))⟩
 | help t w he htP =>
  have hw:IntKind.wrap .u64 ((t:Int) + 1) = ((t + 1:Nat):Int):=by rw [wrap_u64]; omega
  have hs:(PuS.go 5 (rgN a n) v t w).step s = (.go 1 (rgN a n) v t w,s.cas ((a + 1:Nat):Int) (t:Int) ((t + 1:Nat):Int)):=by
   rw [st5,hw]; rfl
  rw [hs]
  by_cases k:t = T
  ·subst k
   have hl:s.cas ((a + 1:Nat):Int) (t:Int) ((t + 1:Nat):Int) = _:=cas_hit (a:=a + 1) h.tail ((t + 1:Nat):Int)
   refine ⟨t + 1,Nat.le_succ _,Fra.set (by rw [hl]) (by omega),.go ((h.more (Nat.le_succ _)).tailed htP (by rw [hl])) (.tail t w he) ?_ (nl_tail (by rw [hl]))⟩
   unfold muP mu5
   simp
   omega
  ·have hl:s.cas ((a + 1:Nat):Int) (t:Int) ((t + 1:Nat):Int) = _:=cas_miss (a:=a + 1) h.tail (x:=(t:Int)) (by omega) ((t + 1:Nat):Int)
   refine ⟨T,Nat.le_refl _,Fra.same (by rw [hl]),.go ((h.more (Nat.le_succ _)).sameW (by rw [hl])) (.tail t w he) ?_ (nl_tail (by rw [hl]))⟩
   have:¬ (t:Int) = (T:Int):=by omega
   simp only [muP,mu5,if_neg this]
   simp
end
end Go.Proofs.YtlaojmcekeohnaaGreatDoor.Lift
set_option linter.unusedVariables false
set_option linter.unusedSimpArgs false
set_option linter.unnecessarySimpa false
set_option maxRecDepth 20000
namespace Go.Proofs.YtlaojmcekeohnaaGreatDoor.Lift
open Go Go.Proofs.YtlaojmcekeohnaaGreatDoor.Gh Go.Proofs
structure BoxI (a n K D T H:Nat) (th:List Int) (s:MS):Prop where
 m:InvM a n D T K (th.drop D) H s
 le:D ≤ th.length
section
variable {a n D T K H tk a' n':Nat} {q th l:List Int} {s s':MS} {v e most:Int} {p p':PuS} {d:DnS}
theorem BoxI.len (h:BoxI a n K D T H th s):D + (th.drop D).length = th.length:=by have:=h.le; simp; omega
theorem BoxI.more {K':Nat} (h:BoxI a n K D T H th s) (hk:K ≤ K'):BoxI a n K' D T H th s:=⟨h.m.more hk,h.le⟩
theorem BoxI.frame (h:BoxI a n K D T H th s) (f:Fra a' n' s s') (hd:a + 2 + n ≤ a' ∨ a' + 2 + n' ≤ a):BoxI a n K D T H th s':=⟨h.m.frame f hd,h.le⟩
inductive InvD (a n D H tk:Nat) (th:List Int):DnS → Prop where
 | fr1 (most h:Int) (l:List Int):D = H → tk + l.length = H → l = (th.drop tk).take l.length → (l.length:Int) < most → most ≤ 4 → InvD a n D H tk th (.fr (rgN a n) most l (.go 1 (rgN a n) h))
 | fr2 (most:Int) (l:List Int):D = H → tk + l.length = H → l = (th.drop tk).take l.length → (l.length:Int) < most → most ≤ 4 → InvD a n D H tk th (.fr (rgN a n) most l (.go 2 (rgN a n) (H:Int)))
 | dr1 (most v:Int) (l:List Int):D = H → tk + l.length = H → l = (th.drop tk).take l.length → (l.length:Int) < most → most ≤ 4 → th[H]? = some v → InvD a n D H tk th (.dr (rgN a n) most l v (.go 1 (rgN a n) (H:Int)))
 | dr2 (most v:Int) (l:List Int):D = H + 1 → tk + l.length = H → l = (th.drop tk).take l.length → (l.length:Int) < most → most ≤ 4 → th[H]? = some v → InvD a n D H tk th (.dr (rgN a n) most l v (.go 2 (rgN a n) (H:Int)))
def muD:DnS → Nat
 | .fr _ m l (.go k _ _)=>(4 * (m - l.length) - (if k = 1 then 0 else 1)).toNat
 | .dr _ m l _ (.go k _ _)=>(4 * (m - l.length) - (if k = 1 then 2 else 3)).toNat
 | _=>0
theorem InvD.mu (h:InvD a n D H tk th d):1 ≤ muD d ∧ muD d ≤ 16 ∧ d.over = false:=by
 cases h <;> simp [muD,DnS.over] <;> omega
theorem take_more (h:l = (th.drop tk).take l.length) (x:Int) (hx:(th.drop tk)[l.length]? = some x):l ++ [x] = (th.drop tk).take (l ++ [x]).length:=by
 rw [List.length_append,List.length_singleton,List.take_add_one,hx]
 simp only [Option.toList_some]
 rw [← h]
theorem take_app (h:l = (th.drop tk).take l.length) (hl:tk + l.length ≤ th.length) (w:Int):l = ((th ++ [w]).drop tk).take l.length:=by
 rw [List.drop_append_of_le_length (by omega),List.take_append_of_le_length (by simp; omega)]
 exact h
theorem InvD.app (h:InvD a n D H tk th d) (hle:D ≤ th.length) (w:Int):InvD a n D H tk (th ++ [w]) d:=by
 have get:∀ {x:Int},th[H]? = some x → (th ++ [w])[H]? = some x:=fun {x} hx=>by
  rw [List.getElem?_append_left (List.getElem?_eq_some_iff.1 hx).1]; exact hx
 cases h with
 | fr1 most h l a1 a2 a3 a4 a5=>exact .fr1 most h l a1 a2 (take_app a3 (by omega) w) a4 a5
 | fr2 most l a1 a2 a3 a4 a5=>exact .fr2 most l a1 a2 (take_app a3 (by omega) w) a4 a5
 | dr1 most v l a1 a2 a3 a4 a5 a6=>exact .dr1 most v l a1 a2 (take_app a3 (by omega) w) a4 a5 (get a6)
 | dr2 most v l a1 a2 a3 a4 a5 a6=>exact .dr2 most v l a1 a2 (take_app a3 (by omega) w) a4 a5 (get a6)
inductive DnE (a n T K D H tk:Nat) (th:List Int) (m0:Nat) (s':MS) (d':DnS):Prop
 | reads:s'.kind = 1 → D = H → BoxI a n (K + 1) D T H th s' → InvD a n D H tk th d' → muD d' < m0 → DnE a n T K D H tk th m0 s' d'
 | clears:s'.kind = 2 → s'.at_ ≠ (a:Int) → D = H → BoxI a n (K + 1) (D + 1) T H th s' → InvD a n (D + 1) H tk th d' → muD d' < m0 → DnE a n T K D H tk th m0 s' d'
 | heads:s'.kind = 2 → s'.at_ = (a:Int) → D = H + 1 → BoxI a n (K + 1) D T (H + 1) th s' → InvD a n D (H + 1) tk th d' → muD d' < m0 → DnE a n T K D H tk th m0 s' d'
 | empty (l:List Int):s'.kind = 1 → th.length ≤ D → D = H → tk + l.length = H → l = (th.drop tk).take l.length → BoxI a n (K + 1) D T H th s' → d' = .done 0 l → DnE a n T K D H tk th m0 s' d'
 | whole (l:List Int):s'.kind = 2 → s'.at_ = (a:Int) → D = H + 1 → tk + l.length = H + 1 → l = (th.drop tk).take l.length → BoxI a n (K + 1) D T (H + 1) th s' → d' = .done 0 l → DnE a n T K D H tk th m0 s' d'
theorem dn_step (h:BoxI a n K D T H th s) (hd:InvD a n D H tk th d) (hK:K + 1 ≤ 1000000):Fra a n s (d.step s).2 ∧ DnE a n T K D H tk th (muD d) (d.step s).2 (d.step s).1:=by
 have n1:=h.m.n1
 have n6:=h.m.n6
 have a9:=h.m.a9
 have hsm:=h.m.small
 have hqn:=h.m.qn
 have hlen:=h.len
 have hdiv:D / n ≤ D:=Nat.div_le_self _ _
 have hmod:D % n < n:=Nat.mod_lt _ (by omega)
 have hslot:=h.m.slot D (Nat.le_refl _) (by omega)
 have hR:(rgN a n).ok:=⟨by show (1:Int) ≤ (n:Int); omega,by show (n:Int) ≤ 4096; omega⟩
 cases hd with
 | fr1 most hh l a1 a2 a3 a4 a5 =>
  have hl:s.load (a:Int) = _:=load_in (a:=a) h.m.head
  have hs:(DnS.fr (rgN a n) most l (.go 1 (rgN a n) hh)).step s = (.fr (rgN a n) most l (.go 2 (rgN a n) (H:Int)),s.load (a:Int)):=by
   simp only [DnS.step,FrS.step,if_true,rgN]
   rw [hl]
   rfl
  rw [hs]
  refine ⟨Fra.same (by rw [hl]),.reads (by rw [hl]) a1 ⟨(h.m.more (Nat.le_succ _)).sameW (by rw [hl]),h.le⟩ (.fr2 most l a1 a2 a3 a4 a5) ?_⟩
  simp [muD]; omega
 | fr2 most l a1 a2 a3 a4 a5 =>
  subst a1
  have hl:s.load ((a + 2 + D % n:Nat):Int) = _:=load_in hslot
  have hm':=(h.m.more (Nat.le_succ _)).sameW (s':=s.load ((a + 2 + D % n:Nat):Int)) (by rw [hl])
  have hs:(DnS.fr (rgN a n) most l (.go 2 (rgN a n) (D:Int))).step s = (DnS.afterF (rgN a n) most l (look2 (rgN a n) D (wordN n D (th.drop D) D)),s.load ((a + 2 + D % n:Nat):Int)):=by
   simp only [DnS.step,FrS.step,place_n n1 n6 a9]; rw [if_neg (by decide),hl]
  rw [hs]
  refine ⟨Fra.same (by rw [hl]),?_⟩
  have hlap:=lap_n (a:=a) n1 (show D ≤ 1000000 by omega)
  by_cases hq:D < th.length
  ·have hz:th[D]? = some th[D]:=List.getElem?_eq_getElem hq
   have hdr:(th.drop D)[D - D]? = some th[D]:=by rw [List.getElem?_drop]; simpa using hz
   have hmem:th[D] ∈ th.drop D:=List.mem_of_getElem? hdr
   have hv:=h.m.qv _ hmem
   have hk:look2 (rgN a n) D (wordN n D (th.drop D) D) = .done 0 D th[D]:=by
    have hwd:wordN n D (th.drop D) D = ((D / n:Nat):Int) * 4294967296 + 65536 + th[D]:=by
     unfold wordN
     rw [if_pos (by simp; omega),hdr]; rfl
    unfold look2
    rw [hwd,hlap,full_f _ _ hv.1 hv.2,if_pos (by simp)]
    congr 1
    omega
   rw [hk]
   have hk2:DnS.afterF (rgN a n) most l (.done 0 D th[D]) = .dr (rgN a n) most l th[D] (.go 1 (rgN a n) (D:Int)):=by
    unfold DnS.afterF
    simp only [FrS.over,if_true,FrS.err,FrS.val,FrS.at',newDr_go hR]
   rw [hk2]
   refine .reads (by rw [hl]) rfl ⟨hm',h.le⟩ (.dr1 most _ l rfl a2 a3 a4 a5 hz) ?_
   simp [muD]; omega
  ·have hk:look2 (rgN a n) D (wordN n D (th.drop D) D) = .done 15 D 0:=by
    have hwd:wordN n D (th.drop D) D = ((D / n:Nat):Int) * 4294967296:=by
     unfold wordN
     rw [if_neg (by simp; omega)]
    unfold look2
    rw [hwd,hlap,full_e,if_neg (by simp)]
   rw [hk]
   exact .empty l (by rw [hl]) (by omega) rfl a2 a3 ⟨hm',h.le⟩ rfl
 | dr1 most v l a1 a2 a3 a4 a5 a6 =>
  subst a1
  have hst:=store_in hslot (((D / n + 1:Nat):Int) * 4294967296)
  have hcl:clearI (rgN a n) D = ((D / n + 1:Nat):Int) * 4294967296:=by
   unfold clearI; rw [lap_n n1 (by omega)]; generalize D / n = k at *; omega
  have hlt:D < th.length:=(List.getElem?_eq_some_iff.1 a6).1
  have hs:(DnS.dr (rgN a n) most l v (.go 1 (rgN a n) (D:Int))).step s = (.dr (rgN a n) most l v (.go 2 (rgN a n) (D:Int)),s.store ((a + 2 + D % n:Nat):Int) (((D / n + 1:Nat):Int) * 4294967296)):=by
   simp only [DnS.step,DrS.step,place_n n1 n6 a9,if_true,hcl]
   rfl
  rw [hs]
  refine ⟨Fra.set (by rw [hst]) (by omega),.clears (by rw [hst]) (by rw [hst]; show ((a + 2 + D % n:Nat):Int) ≠ (a:Int); omega) rfl ⟨?_,by omega⟩ (.dr2 most v l rfl a2 a3 a4 a5 a6) ?_⟩
  ·have:=(h.m.cleared (by simp; omega) (s':=s.store ((a + 2 + D % n:Nat):Int) (((D / n + 1:Nat):Int) * 4294967296)) (by rw [hst])).more (Nat.le_succ K)
   rw [List.drop_drop] at this
   exact this
  ·simp [muD]; omega
 | dr2 most v l a1 a2 a3 a4 a5 a6 =>
  have hst:s.store (a:Int) ((H + 1:Nat):Int) = _:=store_in (a:=a) h.m.head ((H + 1:Nat):Int)
  have hw:IntKind.wrap .u64 ((H:Int) + 1) = ((H + 1:Nat):Int):=by rw [wrap_u64]; omega
  have hs:(DnS.dr (rgN a n) most l v (.go 2 (rgN a n) (H:Int))).step s = (DnS.afterD (rgN a n) most l v (.done 0),s.store (a:Int) ((H + 1:Nat):Int)):=by
   simp only [DnS.step,DrS.step,hw,rgN]
   rw [if_neg (by decide)]
  rw [hs]
  have hg:(th.drop tk)[l.length]? = some v:=by rw [List.getElem?_drop,a2]; exact a6
  have a3':=take_more a3 v hg
  refine ⟨Fra.set (by rw [hst]) (by omega),?_⟩
  have hb:BoxI a n (K + 1) D T (H + 1) th (s.store (a:Int) ((H + 1:Nat):Int)):=⟨(h.m.more (Nat.le_succ _)).headed (by rw [hst]),h.le⟩
  unfold DnS.afterD
  simp only [DrS.over,if_true]
  by_cases hm:((l ++ [v]).length:Int) < most
  ·rw [if_pos hm,newFr_go hR]
   refine .heads (by rw [hst]) (by rw [hst]) a1 hb (.fr1 most 0 _ a1 (by simp; omega) a3' hm a5) ?_
   simp at hm
   simp [muD]; omega
  ·rw [if_neg hm]
   exact .whole _ (by rw [hst]) (by rw [hst]) a1 (by simp; omega) a3' hb rfl
end
end Go.Proofs.YtlaojmcekeohnaaGreatDoor.Lift
set_option linter.unusedVariables false
set_option linter.unusedSimpArgs false
set_option linter.unnecessarySimpa false
set_option maxRecDepth 20000
namespace Go.Proofs.YtlaojmcekeohnaaGreatDoor.Lift
open Go Go.Proofs.YtlaojmcekeohnaaGreatDoor.Gh Go.Proofs
section
variable {a n D T K H tk a' n':Nat} {q th l:List Int} {s s':MS} {v e most:Int} {p p':PuS} {d:DnS}
theorem rgN_ok (hn:1 ≤ n) (h6:n ≤ 6):(rgN a n).ok:=⟨by show (1:Int) ≤ (n:Int); omega,by show (n:Int) ≤ 4096; omega⟩
end
structure CM where
 s:MS
 sd:Nat → Option SdS
 to:Nat → Int
 v:Nat → Int
 dn:Nat → Option DnS
 th:Nat → List Int
 tk:Nat → Int
 gn:Nat → Int
 hf:Nat → Bool
 nx:Int
def bas (n c:Nat):Nat:=3 + c * (n + 2)
theorem bas_apart {n c c':Nat} (h:c < 2) (h':c' < 2) (hn:c ≠ c'):bas n c + 2 + n ≤ bas n c' ∨ bas n c' + 2 + n ≤ bas n c:=by
 unfold bas
 rcases (show c = 0 ∨ c = 1 by omega) with rfl | rfl <;> rcases (show c' = 0 ∨ c' = 1 by omega) with rfl | rfl <;> omega
instance (a n:Nat) (s:MS):Decidable (landsI a n s):=by unfold landsI; exact inferInstance
inductive SdI (n:Nat) (x:CM) (D T:Nat → Nat) (i:Nat):Prop where
 | none:x.sd i = none → SdI n x D T i
 | some (p:PuS) (e:Int) (c:Nat):x.sd i = some (.go p) → p.ok → x.to i = (c:Int) → c < 2 → InvP (bas n c) n (D c) (T c) (x.th c).length (x.v i) e p → 0 ≤ x.v i → x.v i < x.nx → (e = 14 → x.v i ∉ x.th c) → (e = 0 → x.v i ∈ x.th c) → SdI n x D T i
inductive DnI (n K:Nat) (x:CM) (D H tk:Nat → Nat) (c:Nat):Prop where
 | none:x.dn c = none → D c = H c → tk c = H c → DnI n K x D H tk c
 | some (d:DnS):x.dn c = some d → d.ok K → InvD (bas n c) n (D c) (H c) (tk c) (x.th c) d → DnI n K x D H tk c
structure InvC (n K:Nat) (x:CM) (D T H tk:Nat → Nat):Prop where
 n1:1 ≤ n ∧ n ≤ 4
 len:x.s.W.length = 3 + 2 * (n + 2)
 sk:x.s.ok
 box:∀ c,c < 2 → BoxI (bas n c) n K (D c) (T c) (H c) (x.th c) x.s
 gn:∀ c,c < 2 → x.gn c = (H c:Int)
 tkn:∀ c,c < 2 → x.tk c = (tk c:Int)
 hf:∀ c,c < 2 → D c = H c + (if x.hf c = true then 1 else 0)
 sd:∀ i,i < 3 → SdI n x D T i
 df:∀ i j,i < 3 → j < 3 → i ≠ j → x.sd i ≠ none → x.sd j ≠ none → x.v i ≠ x.v j
 fr:∀ c,c < 2 → ∀ w ∈ x.th c,w < x.nx
 dn:∀ c,c < 2 → DnI n K x D H tk c
 nx:0 ≤ x.nx ∧ x.nx ≤ K
def CM.begS (n:Nat) (x:CM) (i c:Nat):CM:={ x with to:=upN x.to i (c:Int),v:=upN x.v i x.nx,nx:=x.nx + 1,sd:=upN x.sd i (some (.go (.go 1 (rgN (bas n c) n) x.nx 0 0))) }
def CM.begD (n:Nat) (x:CM) (c:Nat) (most:Int):CM:={ x with dn:=upN x.dn c (some (.fr (rgN (bas n c) n) most [] (.go 1 (rgN (bas n c) n) 0))) }
section
variable {n K:Nat} {x:CM} {D T H tk:Nat → Nat} {i c:Nat}
theorem InvC.begS (h:InvC n K x D T H tk) (hK:K ≤ 900000) (hi:i < 3) (hc:c < 2) (h0:x.sd i = none) (h65:x.nx ≤ 65535):InvC n (K + 1) (x.begS n i c) D T H tk:=by
 have hn:=h.n1
 have hnx:=h.nx
 refine ⟨h.n1,h.len,h.sk,fun c' hc'=>(h.box c' hc').more (Nat.le_succ _),h.gn,h.tkn,h.hf,fun j hj=>?_,fun j k hj hk hne h1 h2=>?_,fun c' hc' w hw=>?_,fun c' hc'=>?_,?_⟩
 ·by_cases e:j = i
  ·subst e
   refine .some (.go 1 (rgN (bas n c) n) x.nx 0 0) 14 c (by simp [CM.begS,upN_same]) ⟨by decide,by decide,rgN_ok hn.1 (by omega),hnx.1,h65,U_zero,U_zero⟩ (by simp [CM.begS,upN_same]) hc ?_ (by simp [CM.begS,upN_same]; omega) (by simp [CM.begS,upN_same]; omega) (fun _=>?_) (fun k=>absurd k (by decide))
   ·have:(x.begS n j c).v j = x.nx:=by simp [CM.begS,upN_same]
    rw [this]
    exact .tail 0 0 rfl
   ·have:(x.begS n j c).v j = x.nx:=by simp [CM.begS,upN_same]
    rw [this]
    intro hm
    have:=h.fr c hc _ hm
    omega
  ·cases h.sd j hj with
   | none a=>exact .none (by simp [CM.begS,upN_ne _ _ e,a])
   | some p e' c' a1 a2 a3 a4 a5 a6 a7 a8 a9 =>
    have hv:(x.begS n i c).v j = x.v j:=by simp [CM.begS,upN_ne _ _ e]
    exact .some p e' c' (by simp [CM.begS,upN_ne _ _ e,a1]) a2 (by simp [CM.begS,upN_ne _ _ e,a3]) a4 (by rw [hv]; exact a5) (by rw [hv]; exact a6) (by rw [hv]; show _ < x.nx + 1; omega) (by rw [hv]; exact a8) (by rw [hv]; exact a9)
 ·have old:∀ j,j < 3 → j ≠ i → (x.begS n i c).sd j ≠ none → x.v j < x.nx:=fun j hj e hs=>by
   cases h.sd j hj with
   | none a=>exact absurd (by simp [CM.begS,upN_ne _ _ e,a]) hs
   | some p e' c' a1 a2 a3 a4 a5 a6 a7 a8 a9=>exact a7
  by_cases e1:j = i
  ·subst e1
   have e2:k ≠ j:=Ne.symm hne
   have:=old k hk e2 h2
   simp [CM.begS,upN_same,upN_ne _ _ e2]; omega
  ·by_cases e2:k = i
   ·subst e2
    have:=old j hj e1 h1
    simp [CM.begS,upN_same,upN_ne _ _ e1]; omega
   ·simp [CM.begS,upN_ne _ _ e1,upN_ne _ _ e2] at h1 h2 ⊢
    exact h.df j k hj hk hne h1 h2
 ·have:=h.fr c' hc' w hw
  show w < x.nx + 1; omega
 ·cases h.dn c' hc' with
  | none a b d=>exact .none a b d
  | some d a b e=>exact .some d a (b.mono (Nat.le_succ _)) e
 ·show 0 ≤ x.nx + 1 ∧ x.nx + 1 ≤ ((K + 1:Nat):Int); omega
theorem InvC.more (h:InvC n K x D T H tk):InvC n (K + 1) x D T H tk:=⟨h.n1,h.len,h.sk,fun c' hc'=>(h.box c' hc').more (Nat.le_succ _),h.gn,h.tkn,h.hf,h.sd,h.df,h.fr,fun c' hc'=>by
 cases h.dn c' hc' with
 | none a b d=>exact .none a b d
 | some d a b e=>exact .some d a (b.mono (Nat.le_succ _)) e,by have:=h.nx; omega⟩
theorem InvC.begD (h:InvC n K x D T H tk) (hc:c < 2) (h0:x.dn c = none) {most:Int} (hm:1 ≤ most ∧ most ≤ 4):InvC n (K + 1) (x.begD n c most) D T H tk:=by
 have hn:=h.n1
 have hb:=h.more
 refine ⟨h.n1,h.len,h.sk,hb.box,h.gn,h.tkn,h.hf,fun j hj=>?_,h.df,h.fr,fun c' hc'=>?_,hb.nx⟩
 ·cases h.sd j hj with
  | none a=>exact .none a
  | some p e' c' a1 a2 a3 a4 a5 a6 a7 a8 a9=>exact .some p e' c' a1 a2 a3 a4 a5 a6 a7 a8 a9
 ·by_cases e:c' = c
  ·subst e
   cases h.dn c' hc' with
   | some d a b e=>rw [a] at h0; cases h0
   | none a b d=>exact .some (.fr (rgN (bas n c') n) most [] (.go 1 (rgN (bas n c') n) 0)) (by simp [CM.begD,upN_same]) ⟨rgN_ok hn.1 (by omega),⟨by decide,by decide,rgN_ok hn.1 (by omega),U_zero⟩,rfl,by simp⟩ (.fr1 most 0 [] b (by simpa using d) (by simp) (by simp; omega) hm.2)
  ·cases hb.dn c' hc' with
   | none a b d=>exact .none (by simp [CM.begD,upN_ne _ _ e,a]) b d
   | some d a b e'=>exact .some d (by simp [CM.begD,upN_ne _ _ e,a]) b e'
end
end Go.Proofs.YtlaojmcekeohnaaGreatDoor.Lift
set_option linter.unusedVariables false
set_option linter.unusedSimpArgs false
set_option linter.unnecessarySimpa false
set_option maxRecDepth 20000
namespace Go.Proofs.YtlaojmcekeohnaaGreatDoor.Lift
open Go Go.Proofs.YtlaojmcekeohnaaGreatDoor.Gh Go.Proofs
noncomputable def CM.stepS (n:Nat) (x:CM) (i c:Nat) (p:PuS):CM :=
 { x with s:=(p.step x.s).2,sd:=upN x.sd i (if (p.step x.s).1.over = true then none else some (.go (p.step x.s).1)),th:=if landsI (bas n c) n (p.step x.s).2 then upN x.th c (x.th c ++ [x.v i]) else x.th }
noncomputable def CM.stepD (n:Nat) (x:CM) (c:Nat) (d:DnS):CM :=
 { x with s:=(d.step x.s).2,dn:=upN x.dn c (if (d.step x.s).1.over = true then none else some (d.step x.s).1),gn:=if (d.step x.s).2.kind = 2 ∧ (d.step x.s).2.at_ = (bas n c:Int) then upN x.gn c (x.gn c + 1) else x.gn,hf:=if (d.step x.s).2.kind = 2 then upN x.hf c (decide ((d.step x.s).2.at_ ≠ (bas n c:Int))) else x.hf,tk:=if (d.step x.s).1.over = true then upN x.tk c (x.tk c + (d.step x.s).1.vals.length) else x.tk }
section
variable {n K:Nat} {x:CM} {D T H tk:Nat → Nat} {i c:Nat} {p:PuS} {d:DnS}
theorem InvC.stepS (h:InvC n K x D T H tk) (hK:K ≤ 65000) (hi:i < 3) (hc:c < 2) (h1:x.sd i = some (.go p)) (h3:x.to i = (c:Int)) :
  Fra (bas n c) n x.s (p.step x.s).2 ∧ ∃ T',InvC n (K + 1) (x.stepS n i c p) D T' H tk ∧ ((p.step x.s).1.over = true → ((p.step x.s).1.err = 0 ∧ x.v i ∈ (x.stepS n i c p).th c) ∨ ((p.step x.s).1.err = 7 ∧ x.v i ∉ (x.stepS n i c p).th c)) ∧ ((p.step x.s).1.over = false → muP (T' c) ((x.stepS n i c p).th c).length (p.step x.s).1 < muP (T c) (x.th c).length p):=by
 have hn:=h.n1
 have hnx:=h.nx
 cases h.sd i hi with
 | none a=>rw [a] at h1; cases h1
 | some p0 e c0 a1 a2 a3 a4 a5 a6 a7 a8 a9 =>
  rw [h1] at a1
  cases a1
  have hcc:c0 = c:=by rw [h3] at a3; omega
  subst hcc
  have hb:=h.box c0 hc
  have hlen:=hb.len
  have a5':InvP (bas n c0) n (D c0) (T c0) (D c0 + ((x.th c0).drop (D c0)).length) (x.v i) e p:=by rw [hlen]; exact a5
  obtain ⟨T1,t1,fra,res⟩:=pu_step hb.m a5' ⟨a6,by omega⟩ (by omega)
  rw [hlen] at res
  have hok:=a2.step h.sk
  refine ⟨fra,upN T c0 T1,?_⟩
  have tT:∀ c,T c ≤ upN T c0 T1 c:=fun c=>by
   by_cases e:c = c0
   ·subst e; rw [upN_same]; exact t1
   ·rw [upN_ne _ _ e]; exact Nat.le_refl _
  have thc:∀ c,c ≠ c0 → (x.stepS n i c0 p).th c = x.th c:=fun c e=>by
   unfold CM.stepS; simp only; split
   ·exact upN_ne _ _ e
   ·rfl
  have key:∀ (th':List Int),(th' = x.th c0 ∨ th' = x.th c0 ++ [x.v i]) → (x.stepS n i c0 p).th c0 = th' → BoxI (bas n c0) n (K + 1) (D c0) T1 (H c0) th' (p.step x.s).2 →
    ((p.step x.s).1.over = false → ∃ e',InvP (bas n c0) n (D c0) T1 th'.length (x.v i) e' (p.step x.s).1 ∧ (e' = 14 → x.v i ∉ th') ∧ (e' = 0 → x.v i ∈ th')) → InvC n (K + 1) (x.stepS n i c0 p) D (upN T c0 T1) H tk:=by
   intro th' hth hth' hbox hsd
   have hin:∀ w,w ∈ x.th c0 → w ∈ th':=fun w hw=>by
    rcases hth with e | e
    ·rw [e]; exact hw
    ·rw [e]; exact List.mem_append_left _ hw
   have hle:(x.th c0).length ≤ th'.length:=by
    rcases hth with e | e
    ·rw [e]; exact Nat.le_refl _
    ·rw [e]; simp
   have hout:∀ w,w ≠ x.v i → w ∉ x.th c0 → w ∉ th':=fun w hw hn=>by
    rcases hth with e | e
    ·rw [e]; exact hn
    ·rw [e]; intro hm
     rcases List.mem_append.1 hm with hm | hm
     ·exact hn hm
     ·exact hw (List.mem_singleton.1 hm)
   refine ⟨h.n1,by show (p.step x.s).2.W.length = _; rw [fra.len]; exact h.len,hok.2,fun c hc'=>?_,h.gn,h.tkn,h.hf,fun j hj=>?_,fun j k hj hk hne q1 q2=>?_,fun c hc' w hw=>?_,fun c hc'=>?_,by show 0 ≤ x.nx ∧ x.nx ≤ ((K + 1:Nat):Int); omega⟩
   ·by_cases e:c = c0
    ·subst e; rw [hth',upN_same]; exact hbox
    ·rw [thc c e,upN_ne _ _ e]; exact ((h.box c hc').more (Nat.le_succ _)).frame fra (bas_apart hc' hc e)
   ·by_cases e1:j = i
    ·subst e1
     by_cases ho:(p.step x.s).1.over = true
     ·exact .none (by simp [CM.stepS,upN_same,ho])
     ·have ho':(p.step x.s).1.over = false:=by simpa using ho
      obtain ⟨e',k1,k2,k3⟩:=hsd ho'
      exact .some (p.step x.s).1 e' c0 (by simp [CM.stepS,upN_same,ho']) hok.1 h3 hc (by rw [hth',upN_same]; exact k1) a6 a7 (by rw [hth']; exact k2) (by rw [hth']; exact k3)
    ·cases h.sd j hj with
     | none a=>exact .none (by simp [CM.stepS,upN_ne _ _ e1,a])
     | some p' e' c' b1 b2 b3 b4 b5 b6 b7 b8 b9 =>
      have hvne:x.v j ≠ x.v i:=h.df j i hj hi e1 (by rw [b1]; exact fun k=>by cases k) (by rw [h1]; exact fun k=>by cases k)
      by_cases e2:c' = c0
      ·subst e2
       exact .some p' e' c' (by simp [CM.stepS,upN_ne _ _ e1,b1]) b2 b3 b4 (by rw [hth',upN_same]; exact b5.mono (Nat.le_refl _) t1 hle) b6 b7 (fun k=>by rw [hth']; exact hout _ hvne (b8 k)) (fun k=>by rw [hth']; exact hin _ (b9 k))
      ·exact .some p' e' c' (by simp [CM.stepS,upN_ne _ _ e1,b1]) b2 b3 b4 (by rw [thc c' e2,upN_ne _ _ e2]; exact b5) b6 b7 (by rw [thc c' e2]; exact b8) (by rw [thc c' e2]; exact b9)
   ·have was:∀ j,j < 3 → (x.stepS n i c0 p).sd j ≠ none → x.sd j ≠ none:=fun j hj q=>by
     by_cases e1:j = i
     ·subst e1; rw [h1]; exact fun k=>by cases k
     ·have:(x.stepS n i c0 p).sd j = x.sd j:=by simp [CM.stepS,upN_ne _ _ e1]
      rw [this] at q; exact q
    exact h.df j k hj hk hne (was j hj q1) (was k hk q2)
   ·by_cases e:c = c0
    ·subst e
     rw [hth'] at hw
     rcases hth with e | e
     ·rw [e] at hw; exact h.fr c hc' w hw
     ·rw [e] at hw
      rcases List.mem_append.1 hw with hw | hw
      ·exact h.fr c hc' w hw
      ·rw [List.mem_singleton.1 hw]; exact a7
    ·rw [thc c e] at hw; exact h.fr c hc' w hw
   ·cases h.more.dn c hc' with
    | none a b d=>exact .none a b d
    | some d a b e' =>
     refine .some d a b ?_
     by_cases e:c = c0
     ·subst e
      rw [hth']
      rcases hth with q | q
      ·rw [q]; exact e'
      ·rw [q]; exact e'.app hb.le _
     ·rw [thc c e]; exact e'
  cases res with
  | go b1 b2 b3 b4 =>
   rw [hlen] at b2 b3
   have ht:(x.stepS n i c0 p).th c0 = x.th c0:=by simp [CM.stepS,b4]
   refine ⟨key _ (.inl rfl) ht ⟨b1,hb.le⟩ fun _=>⟨e,b2,a8,a9⟩,fun ho=>?_,fun _=>by rw [upN_same,ht]; exact b3⟩
   rw [b2.going.1] at ho; cases ho
  | laid b1 b2 b3 b4 b5 =>
   have ht:(x.stepS n i c0 p).th c0 = x.th c0 ++ [x.v i]:=by simp [CM.stepS,b5,upN_same]
   have hl2:D c0 + (List.drop (D c0) (x.th c0) ++ [x.v i]).length = (x.th c0 ++ [x.v i]).length:=by simp; have:=hb.le; omega
   have hd2:(x.th c0 ++ [x.v i]).drop (D c0) = (x.th c0).drop (D c0) ++ [x.v i]:=List.drop_append_of_le_length hb.le
   rw [hl2] at b3 b4
   refine ⟨key _ (.inr rfl) ht ⟨by rw [hd2]; exact b2,by have:=hb.le; simp; omega⟩ fun _=>⟨0,b3,fun k=>absurd k (by decide),fun _=>by simp⟩,fun ho=>?_,fun _=>by rw [upN_same,ht]; exact b4⟩
   rw [b3.going.1] at ho; cases ho
  | full b1 b2 b3 b4 b5 =>
   have ht:(x.stepS n i c0 p).th c0 = x.th c0:=by simp [CM.stepS,b5]
   have ho:(p.step x.s).1.over = true:=by rw [b3]; rfl
   refine ⟨key _ (.inl rfl) ht ⟨b4,hb.le⟩ (fun k=>by rw [ho] at k; cases k),fun _=>.inr ⟨by rw [b3]; rfl,by rw [ht]; exact a8 b1⟩,(fun k=>by rw [ho] at k; cases k)⟩
  | last b1 b2 b3 b4 =>
   have ht:(x.stepS n i c0 p).th c0 = x.th c0:=by simp [CM.stepS,b4]
   have ho:(p.step x.s).1.over = true:=by rw [b2]; rfl
   refine ⟨key _ (.inl rfl) ht ⟨b3,hb.le⟩ (fun k=>by rw [ho] at k; cases k),fun _=>.inl ⟨by rw [b2]; rfl,by rw [ht]; exact a9 b1⟩,(fun k=>by rw [ho] at k; cases k)⟩
theorem InvC.stepD (h:InvC n K x D T H tk) (hK:K ≤ 65000) (hc:c < 2) (h1:x.dn c = some d) :
  Fra (bas n c) n x.s (d.step x.s).2 ∧ ∃ D' H' tk',InvC n (K + 1) (x.stepD n c d) D' T H' tk' ∧ ((d.step x.s).1.over = true → (d.step x.s).1.err = 0 ∧ tk c + (d.step x.s).1.vals.length ≤ (x.th c).length ∧ (d.step x.s).1.vals = ((x.th c).drop (tk c)).take (d.step x.s).1.vals.length) ∧ ((d.step x.s).1.over = false → muD (d.step x.s).1 < muD d):=by
 have hn:=h.n1
 have hnx:=h.nx
 cases h.dn c hc with
 | none a _ _=>rw [a] at h1; cases h1
 | some d0 a1 a2 a3 =>
  rw [h1] at a1
  cases a1
  have hb:=h.box c hc
  obtain ⟨fra,res⟩:=dn_step hb a3 (by omega)
  have hok:=a2.step h.sk
  have hf:=h.hf c hc
  have hgn:=h.gn c hc
  have htk:=h.tkn c hc
  refine ⟨fra,?_⟩
  have key:∀ (D1 H1 tk1:Nat),D c ≤ D1 → (x.stepD n c d).gn c = (H1:Int) → (x.stepD n c d).tk c = (tk1:Int) → D1 = H1 + (if (x.stepD n c d).hf c = true then 1 else 0) → BoxI (bas n c) n (K + 1) D1 (T c) H1 (x.th c) (d.step x.s).2 →
    DnI n (K + 1) (x.stepD n c d) (upN D c D1) (upN H c H1) (upN tk c tk1) c → InvC n (K + 1) (x.stepD n c d) (upN D c D1) T (upN H c H1) (upN tk c tk1):=by
   intro D1 H1 tk1 dD k1 k2 k3 hbox hdn
   have oth:∀ c',c' ≠ c → (x.stepD n c d).gn c' = x.gn c' ∧ (x.stepD n c d).tk c' = x.tk c' ∧ (x.stepD n c d).hf c' = x.hf c' ∧ (x.stepD n c d).dn c' = x.dn c':=fun c' e=>by
    unfold CM.stepD
    refine ⟨?_,?_,?_,upN_ne _ _ e⟩
    ·simp only; split
     ·exact upN_ne _ _ e
     ·rfl
    ·simp only; split
     ·exact upN_ne _ _ e
     ·rfl
    ·simp only; split
     ·exact upN_ne _ _ e
     ·rfl
   refine ⟨h.n1,by show (d.step x.s).2.W.length = _; rw [fra.len]; exact h.len,hok.2,fun c' hc'=>?_,fun c' hc'=>?_,fun c' hc'=>?_,fun c' hc'=>?_,fun j hj=>?_,h.df,h.fr,fun c' hc'=>?_,by show 0 ≤ x.nx ∧ x.nx ≤ ((K + 1:Nat):Int); omega⟩
   ·by_cases e:c' = c
    ·subst e; rw [upN_same,upN_same]; exact hbox
    ·rw [upN_ne _ _ e,upN_ne _ _ e]; exact ((h.box c' hc').more (Nat.le_succ _)).frame fra (bas_apart hc' hc e)
   ·by_cases e:c' = c
    ·subst e; rw [upN_same]; exact k1
    ·rw [upN_ne _ _ e,(oth c' e).1]; exact h.gn c' hc'
   ·by_cases e:c' = c
    ·subst e; rw [upN_same]; exact k2
    ·rw [upN_ne _ _ e,(oth c' e).2.1]; exact h.tkn c' hc'
   ·by_cases e:c' = c
    ·subst e; rw [upN_same,upN_same]; exact k3
    ·rw [upN_ne _ _ e,upN_ne _ _ e,(oth c' e).2.2.1]; exact h.hf c' hc'
   ·cases h.sd j hj with
    | none a=>exact .none a
    | some p' e' c' b1 b2 b3 b4 b5 b6 b7 b8 b9 =>
     refine .some p' e' c' b1 b2 b3 b4 ?_ b6 b7 b8 b9
     by_cases e:c' = c
     ·subst e; rw [upN_same]; exact b5.mono dD (Nat.le_refl _) (Nat.le_refl _)
     ·rw [upN_ne _ _ e]; exact b5
   ·by_cases e:c' = c
    ·subst e; exact hdn
    ·cases h.more.dn c' hc' with
     | none a b d=>exact .none (by rw [(oth c' e).2.2.2]; exact a) (by rw [upN_ne _ _ e,upN_ne _ _ e]; exact b) (by rw [upN_ne _ _ e,upN_ne _ _ e]; exact d)
     | some d a b e'=>exact .some d (by rw [(oth c' e).2.2.2]; exact a) b (by rw [upN_ne _ _ e,upN_ne _ _ e,upN_ne _ _ e]; exact e')
  cases res with
  | reads b1 b2 b3 b4 b5 =>
   have ho:=b4.mu.2.2
   refine ⟨_,_,_,key (D c) (H c) (tk c) (Nat.le_refl _) (by simp [CM.stepD,b1,hgn]) (by simp [CM.stepD,ho,htk]) (by simp [CM.stepD,b1]; exact hf) b3 (.some _ (by simp [CM.stepD,ho,upN_same]) hok.1 (by rw [upN_same,upN_same,upN_same]; exact b4)),(fun k=>by rw [ho] at k; cases k),fun _=>b5⟩
  | clears b1 b2 b3 b4 b5 b6 =>
   have ho:=b5.mu.2.2
   refine ⟨_,_,_,key (D c + 1) (H c) (tk c) (Nat.le_succ _) (by simp [CM.stepD,b1,b2,hgn]) (by simp [CM.stepD,ho,htk]) (by simp [CM.stepD,b1,b2,upN_same]; omega) b4 (.some _ (by simp [CM.stepD,ho,upN_same]) hok.1 (by rw [upN_same,upN_same,upN_same]; exact b5)),(fun k=>by rw [ho] at k; cases k),fun _=>b6⟩
  | heads b1 b2 b3 b4 b5 b6 =>
   have ho:=b5.mu.2.2
   refine ⟨_,_,_,key (D c) (H c + 1) (tk c) (Nat.le_refl _) (by simp [CM.stepD,b1,b2,upN_same,hgn]) (by simp [CM.stepD,ho,htk]) (by simp [CM.stepD,b1,b2,upN_same]; omega) b4 (.some _ (by simp [CM.stepD,ho,upN_same]) hok.1 (by rw [upN_same,upN_same,upN_same]; exact b5)),(fun k=>by rw [ho] at k; cases k),fun _=>b6⟩
  | empty l b1 b0 b2 b3 b4 b5 b6 =>
   have ho:(d.step x.s).1.over = true:=by rw [b6]; rfl
   have hv:(d.step x.s).1.vals = l:=by rw [b6]; rfl
   refine ⟨_,_,_,key (D c) (H c) (tk c + l.length) (Nat.le_refl _) (by simp [CM.stepD,b1,hgn]) (by simp [CM.stepD,ho,hv,upN_same,htk]) (by simp [CM.stepD,b1]; exact hf) b5 (.none (by simp [CM.stepD,ho,upN_same]) (by rw [upN_same,upN_same]; exact b2) (by rw [upN_same,upN_same]; exact b3)),fun _=>⟨by rw [b6]; rfl,by rw [hv]; have:=hb.le; omega,by rw [hv]; exact b4⟩,(fun k=>by rw [ho] at k; cases k)⟩
  | whole l b1 b2 b3 b4 b5 b6 b7 =>
   have ho:(d.step x.s).1.over = true:=by rw [b7]; rfl
   have hv:(d.step x.s).1.vals = l:=by rw [b7]; rfl
   refine ⟨_,_,_,key (D c) (H c + 1) (tk c + l.length) (Nat.le_refl _) (by simp [CM.stepD,b1,b2,upN_same,hgn]) (by simp [CM.stepD,ho,hv,upN_same,htk]) (by simp [CM.stepD,b1,b2,upN_same]; omega) b6 (.none (by simp [CM.stepD,ho,upN_same]) (by rw [upN_same,upN_same]; exact b3) (by rw [upN_same,upN_same]; exact b4)),fun _=>⟨by rw [b7]; rfl,by rw [hv]; have:=hb.le; omega,by rw [hv]; exact b5⟩,(fun k=>by rw [ho] at k; cases k)⟩
end
end Go.Proofs.YtlaojmcekeohnaaGreatDoor.Lift
set_option linter.unusedVariables false
set_option linter.unusedSimpArgs false
set_option linter.unnecessarySimpa false
set_option maxRecDepth 20000
namespace Go.Proofs.YtlaojmcekeohnaaGreatDoor.Lift
open Go Go.Proofs.YtlaojmcekeohnaaGreatDoor.Gh Go.Proofs
structure Cel (own:Nat → Nat) (G:GS) (b t:Nat) (cs:List Value):Prop where
 lt:b < G.nx
 tag:own b = t
 obj:G.obj b = some ⟨cs,1,false,1⟩
section
variable {own own' own1:Nat → Nat} {G G' G1:GS} {b t:Nat} {ts:List Nat} {cs:List Value}
theorem Cel.to (h:Cel own G b t cs) (m:ModT ts own G G') (ht:t ∉ ts) (a:Agr own own' G):Cel own' G' b t cs :=
 ⟨Nat.lt_of_lt_of_le h.lt m.nx,(a b h.lt).trans h.tag,(m.same h.lt (by rw [h.tag]; exact ht)).trans h.obj⟩
theorem Cel.ne {t' b':Nat} (h:Cel own G b t cs) (k:own b' = t') (hn:t ≠ t'):¬ b = b':=fun e=>hn (by rw [← h.tag,← k,e])
end
structure CrB where
 m:Nat
 xb:Nat
 sb:Nat
 ob:Nat
 vb:Nat
 db:Nat
 tb:Nat
 kb:Nat
 gb:Nat
 hb:Nat
 s:Nat → Nat
 d:Nat → Nat
 t:Nat → Value
def pS (B:CrB) (x:CM) (i:Nat):Value:=match x.sd i with
 | none=>.pointer none
 | some _=>P0 (B.s i)
def pD (B:CrB) (x:CM) (c:Nat):Value:=match x.dn c with
 | none=>.pointer none
 | some _=>P0 (B.d c)
def crX (n:Nat) (x:CM) (B:CrB):List Value:=[.int .i64 3,.int .i64 2,.int .i64 n,P0 B.m,.slice (some ⟨B.sb,0,none⟩) 3 3,.slice (some ⟨B.ob,0,none⟩) 3 3,.slice (some ⟨B.vb,0,none⟩) 3 3,.slice (some ⟨B.db,0,none⟩) 2 2,.slice (some ⟨B.tb,0,none⟩) 2 2,.slice (some ⟨B.kb,0,none⟩) 2 2,.slice (some ⟨B.gb,0,none⟩) 2 2,.slice (some ⟨B.hb,0,none⟩) 2 2,.int .i64 x.nx]
structure CrG (own:Nat → Nat) (G:GS) (n:Nat) (x:CM) (B:CrB):Prop where
 cx:Cel own G B.xb 1 (crX n x B)
 cs:Cel own G B.sb 2 [pS B x 0,pS B x 1,pS B x 2]
 co:Cel own G B.ob 3 [.int .i64 (x.to 0),.int .i64 (x.to 1),.int .i64 (x.to 2)]
 cv:Cel own G B.vb 4 [.int .i64 (x.v 0),.int .i64 (x.v 1),.int .i64 (x.v 2)]
 cd:Cel own G B.db 14 [pD B x 0,pD B x 1]
 ct:Cel own G B.tb 15 [B.t 0,B.t 1]
 ck:Cel own G B.kb 16 [.int .i64 (x.tk 0),.int .i64 (x.tk 1)]
 cg:Cel own G B.gb 17 [.int .i64 (x.gn 0),.int .i64 (x.gn 1)]
 ch:Cel own G B.hb 18 [.bool (x.hf 0),.bool (x.hf 1)]
 hm:PM own G B.m x.s
 ht:∀ c,c < 2 → OwT own (21 + c) G (B.t c) (x.th c)
 sd:∀ i,i < 3 → ∀ p,x.sd i = some p → At own (5 + i) G (B.s i) ∧ SdP own (5 + i) G (B.s i) p
 dn:∀ c,c < 2 → ∀ d,x.dn c = some d → At own (8 + c) G (B.d c) ∧ DnP own (8 + c) G (B.d c) d
def crT:List Nat:=[1,2,3,4,5,6,7,8,9,10,14,15,16,17,18,21,22]
def MBn (n:Nat):MB:=⟨3,2,n⟩
theorem MBn_placed {n:Nat} (h:1 ≤ n ∧ n ≤ 4):(MBn n).placed:=⟨⟨by show (1:Int) ≤ 2; decide,by show (2:Int) ≤ 64; decide,by show (1:Int) ≤ (n:Int); omega,by show (n:Int) ≤ 16; omega⟩,by show (0:Int) ≤ 3; decide,by show (3:Int) < 4096; decide⟩
theorem MBn_rg {n:Nat} (h:1 ≤ n ∧ n ≤ 4) {c:Nat} (hc:c < 2):(MBn n).rg (c:Int) = rgN (bas n c) n:=by
 unfold MB.rg rgN bas MBn
 simp only
 have w1:IntKind.wrap .i64 ((n:Int) + 2) = (n:Int) + 2:=wrap64 (by omega) (by omega)
 rcases (show c = 0 ∨ c = 1 by omega) with rfl | rfl
 ·simp [w1,wrap64]
 ·have w2:IntKind.wrap .i64 (3 + ((n:Int) + 2)) = 3 + ((n:Int) + 2):=wrap64 (by omega) (by omega)
  have w3:IntKind.wrap .i64 (3 + ((n:Int) + 2) + 1) = 3 + ((n:Int) + 2) + 1:=wrap64 (by omega) (by omega)
  have w4:IntKind.wrap .i64 (3 + ((n:Int) + 2) + 2) = 3 + ((n:Int) + 2) + 2:=wrap64 (by omega) (by omega)
  simp [w1,w2,w3,w4]
section
variable {own own' own1:Nat → Nat} {G G' G1:GS} {n c i:Nat} {ts:List Nat} {x y:CM} {B B':CrB} {v:Value} {L:List Int} {s':MS}
theorem PM.mt {m:Nat} {s:MS} (h:PM own G m s) (q:ModT ts own G G') (ht:10 ∉ ts) (a:Agr own own' G):PM own' G' m s:=(sepP m s).tag h q ht a
theorem OwT.mt {t:Nat} (h:OwT own t G v L) (m:ModT ts own G G') (ht:t ∉ ts) (a:Agr own own' G):OwT own' t G' v L:=h.to m.nx (fun g hg=>m.same (h.lt hg) (by rw [h.tag g hg]; exact ht)) a
theorem sd_mt {t b:Nat} {p:SdS} (h:At own t G b ∧ SdP own t G b p) (m:ModT ts own G G') (ht:t ∉ ts) (a:Agr own own' G):At own' t G' b ∧ SdP own' t G' b p:=⟨h.1.to m.nx a,h.2.to h.1 m.nx (fun g hg hk=>m.same hg (by rw [hk]; exact ht)) a⟩
theorem dn_mt {t b:Nat} {p:DnS} (h:At own t G b ∧ DnP own t G b p) (m:ModT ts own G G') (ht:t ∉ ts) (a:Agr own own' G):At own' t G' b ∧ DnP own' t G' b p:=⟨h.1.to m.nx a,h.2.to h.1 m.nx (fun g hg hk=>m.same hg (by rw [hk]; exact ht)) a⟩
theorem CrG.to (h:CrG own G n x B) (m:ModT ts own G G') (a:Agr own own' G) (ht:∀ t ∈ ts,t ∉ crT):CrG own' G' n x B:=by
 have no:∀ {t},t ∈ crT → t ∉ ts:=fun h1 h2=>ht _ h2 h1
 refine ⟨h.cx.to m (no (by decide)) a,h.cs.to m (no (by decide)) a,h.co.to m (no (by decide)) a,h.cv.to m (no (by decide)) a,h.cd.to m (no (by decide)) a,h.ct.to m (no (by decide)) a,h.ck.to m (no (by decide)) a,h.cg.to m (no (by decide)) a,h.ch.to m (no (by decide)) a,h.hm.mt m (no (by decide)) a,fun c hc=>(h.ht c hc).mt m (no ?_) a,fun i hi p hp=>sd_mt (h.sd i hi p hp) m (no ?_) a,fun c hc d hd=>dn_mt (h.dn c hc d hd) m (no ?_) a⟩
 ·rcases (show c = 0 ∨ c = 1 by omega) with rfl | rfl <;> decide
 ·rcases (show i = 0 ∨ i = 1 ∨ i = 2 by omega) with rfl | rfl | rfl <;> decide
 ·rcases (show c = 0 ∨ c = 1 by omega) with rfl | rfl <;> decide
theorem CrG.ext (h:CrG own G n x B) (e:Ext G G'):CrG (grown own G 13) G' n x B:=h.to (ts:=[]) (ModT.ext e) grown_agr (by simp)
theorem CrG.extO (h:CrG own G n x B) (e:Ext G G'):CrG own G' n x B:=h.to (ts:=[]) (ModT.ext e) (Agr.refl _ _) (by simp)
end
end Go.Proofs.YtlaojmcekeohnaaGreatDoor.Lift
set_option linter.unusedVariables false
set_option linter.unusedSimpArgs false
set_option linter.unnecessarySimpa false
set_option maxRecDepth 20000
namespace Go.Proofs.YtlaojmcekeohnaaGreatDoor.Lift
open Go Go.Proofs.YtlaojmcekeohnaaGreatDoor.Gh Go.Proofs
section
variable {own own' own1:Nat → Nat} {G G' G1:GS} {n c i K:Nat} {ts:List Nat} {x y:CM} {B B':CrB} {v:Value} {L:List Int} {s':MS} {D T H tk:Nat → Nat}
theorem CrG.marks (h:CrG own G n x B) (m:ModT [17,18] own G G') {g':Nat → Int} {h':Nat → Bool} (og:G'.obj B.gb = some ⟨[.int .i64 (g' 0),.int .i64 (g' 1)],1,false,1⟩) (oh:G'.obj B.hb = some ⟨[.bool (h' 0),.bool (h' 1)],1,false,1⟩):CrG own G' n { x with gn:=g',hf:=h' } B:=by
 have a:=Agr.refl own G
 have nx:=m.nx
 refine ⟨h.cx.to m (by decide) a,h.cs.to m (by decide) a,h.co.to m (by decide) a,h.cv.to m (by decide) a,h.cd.to m (by decide) a,h.ct.to m (by decide) a,h.ck.to m (by decide) a,⟨Nat.lt_of_lt_of_le h.cg.lt nx,h.cg.tag,og⟩,⟨Nat.lt_of_lt_of_le h.ch.lt nx,h.ch.tag,oh⟩,h.hm.mt m (by decide) a,fun c hc=>(h.ht c hc).mt m (by simp; omega) a,fun i hi p hp=>sd_mt (h.sd i hi p hp) m (by simp; omega) a,fun c hc d hd=>dn_mt (h.dn c hc d hd) m (by simp; omega) a⟩
end
end Go.Proofs.YtlaojmcekeohnaaGreatDoor.Lift
set_option linter.unusedVariables false
set_option linter.unusedSimpArgs false
set_option linter.unnecessarySimpa false
set_option maxRecDepth 20000
namespace Go.Proofs.YtlaojmcekeohnaaGreatDoor.Lift
open Go Go.Proofs.YtlaojmcekeohnaaGreatDoor.Gh Go.Proofs
theorem MBn_ref {n:Nat} (h:1 ≤ n ∧ n ≤ 4) {c:Nat} (hc:c < 2):(MBn n).ref (c:Int) = 0:=by
 unfold MB.ref
 rw [if_pos (MBn_placed h),if_neg (by show ¬ ((c:Int) < 0 ∨ (2:Int) ≤ c); omega)]
theorem newSd_n {n:Nat} (h:1 ≤ n ∧ n ≤ 4) {c:Nat} (hc:c < 2) {v:Int} (hv:0 ≤ v ∧ v ≤ 65535):newSd (MBn n) (c:Int) v = .go (.go 1 (rgN (bas n c) n) v 0 0):=by
 have e:sendE (MBn n) (c:Int) v = 0:=by unfold sendE; rw [MBn_ref h hc,if_neg (by omega)]
 unfold newSd
 rw [if_pos e,MBn_rg h hc]
 unfold newPu
 rw [if_pos (rgN_ok h.1 (by omega)),if_neg (by omega)]
theorem newDn_n {n:Nat} (h:1 ≤ n ∧ n ≤ 4) {c:Nat} (hc:c < 2) {v:Int} (hv:1 ≤ v):newDn (MBn n) (c:Int) v = .fr (rgN (bas n c) n) v [] (.go 1 (rgN (bas n c) n) 0):=by
 have e:drainE (MBn n) (c:Int) v = 0:=by unfold drainE; rw [MBn_ref h hc,if_neg (by omega)]
 unfold newDn
 rw [if_pos e,MBn_rg h hc,newFr_go (rgN_ok h.1 (by omega))]
section
variable {own own' own1:Nat → Nat} {G G' G1 G2:GS} {n c i K:Nat} {ts:List Nat} {x y:CM} {B B':CrB} {v:Value} {L:List Int} {s':MS} {D T H tk:Nat → Nat}
theorem pS_up {B:CrB} {x:CM} {i j b:Nat} {p:SdS}:pS { B with s:=upN B.s i b } { x with sd:=upN x.sd i (some p) } j = if j = i then P0 b else pS B x j:=by
 unfold pS
 by_cases e:j = i <;> simp [upN,e]
end
end Go.Proofs.YtlaojmcekeohnaaGreatDoor.Lift
set_option linter.unusedVariables false
set_option linter.unusedSimpArgs false
set_option linter.unnecessarySimpa false
set_option maxRecDepth 20000
namespace Go.Proofs.YtlaojmcekeohnaaGreatDoor.Lift
open Go Go.Proofs.YtlaojmcekeohnaaGreatDoor.Gh Go.Proofs
section
variable {own own' own1:Nat → Nat} {G G' G1 G2:GS} {n c i K:Nat} {ts:List Nat} {x y:CM} {B B':CrB} {v:Value} {L:List Int} {s':MS} {D T H tk:Nat → Nat} {p:PuS} {d:SdS}
theorem pS_none {B:CrB} {x:CM} {i j:Nat}:pS B { x with sd:=upN x.sd i none } j = if j = i then .pointer none else pS B x j:=by
 unfold pS
 by_cases e:j = i <;> simp [upN,e]
theorem CrG.endS (h:CrG own G n x B) (hi:i < 3) (hG:G' = G.put B.sb ⟨[if 0 = i then .pointer none else pS B x 0,if 1 = i then .pointer none else pS B x 1,if 2 = i then .pointer none else pS B x 2],1,false,1⟩):CrG own G' n { x with sd:=upN x.sd i none } B ∧ ModT [2] own G G':=by
 have m:ModT [2] own G G':=by rw [hG]; exact ModT.put (ModT.refl _ _ _) (.inl (by rw [h.cs.tag]; decide)) _
 have a:=Agr.refl own G
 have nx:=m.nx
 refine ⟨⟨h.cx.to m (by decide) a,⟨Nat.lt_of_lt_of_le h.cs.lt nx,h.cs.tag,by rw [pS_none,pS_none,pS_none]; rw [hG]; simp⟩,h.co.to m (by decide) a,h.cv.to m (by decide) a,h.cd.to m (by decide) a,h.ct.to m (by decide) a,h.ck.to m (by decide) a,h.cg.to m (by decide) a,h.ch.to m (by decide) a,h.hm.mt m (by decide) a,fun c hc=>(h.ht c hc).mt m (by simp; omega) a,fun j hj p hp=>?_,fun c hc d hd=>dn_mt (h.dn c hc d hd) m (by simp; omega) a⟩,m⟩
 by_cases e:j = i
 ·subst e; simp only [upN_same] at hp; cases hp
 ·simp only [upN_ne _ _ e] at hp
  exact sd_mt (h.sd j hj p hp) m (by simp; omega) a
theorem CrG.runS (h:CrG own G n x B) (hi:i < 3) {d d':SdS} (hd:x.sd i = some d) (w:PW (Own own (5 + i)) own G own1 G1 B.m s') (hs:SdP own1 (5 + i) G1 (B.s i) d'):CrG own1 G1 n { x with s:=s',sd:=upN x.sd i (some d') } B ∧ ModT [10,5 + i] own G G1:=by
 have m:ModT [10,5 + i] own G G1:=w.mt (by simp) (by simp)
 have a:=w.stp.agr
 have no:∀ {t},t ∈ [1,2,3,4,14,15,16,17,18] → t ∉ [10,5 + i]:=fun {t} h1 h2=>by simp at h1 h2; omega
 obtain ⟨hat,_⟩:=h.sd i hi d hd
 have pe:∀ j,pS B { x with s:=s',sd:=upN x.sd i (some d') } j = pS B x j:=fun j=>by
  unfold pS
  by_cases e:j = i
  ·subst e; simp only [upN_same,hd]
  ·simp only [upN_ne _ _ e]
 refine ⟨⟨h.cx.to m (no (by decide)) a,by rw [pe,pe,pe]; exact h.cs.to m (no (by decide)) a,h.co.to m (no (by decide)) a,h.cv.to m (no (by decide)) a,h.cd.to m (no (by decide)) a,h.ct.to m (no (by decide)) a,h.ck.to m (no (by decide)) a,h.cg.to m (no (by decide)) a,h.ch.to m (no (by decide)) a,w.pm,fun c hc=>(h.ht c hc).mt m (by simp; omega) a,fun j hj p hp=>?_,fun c hc d hd=>dn_mt (h.dn c hc d hd) m (by simp; omega) a⟩,m⟩
 by_cases e:j = i
 ·subst e; simp only [upN_same] at hp; cases hp; exact ⟨hat.to m.nx a,hs⟩
 ·simp only [upN_ne _ _ e] at hp
  exact sd_mt (h.sd j hj p hp) m (by simp; omega) a
theorem CrG.lay (h:CrG own G n x B) (hc:c < 2) (m:ModT [15,21 + c] own G G') {t':Value} {th':List Int} (ot:G'.obj B.tb = some ⟨[upN B.t c t' 0,upN B.t c t' 1],1,false,1⟩) (w:OwR (rowsI .i64) G.nx G' t' th'):CrG (grown own G (21 + c)) G' n { x with th:=upN x.th c th' } { B with t:=upN B.t c t' }:=by
 have a:Agr own (grown own G (21 + c)) G:=grown_agr
 have nx:=m.nx
 have no:∀ {t},t ∈ [1,2,3,4,14,16,17,18,10] → t ∉ [15,21 + c]:=fun {t} h1 h2=>by simp at h1 h2; omega
 refine ⟨h.cx.to m (no (by decide)) a,h.cs.to m (no (by decide)) a,h.co.to m (no (by decide)) a,h.cv.to m (no (by decide)) a,h.cd.to m (no (by decide)) a,⟨Nat.lt_of_lt_of_le h.ct.lt nx,(a _ h.ct.lt).trans h.ct.tag,ot⟩,h.ck.to m (no (by decide)) a,h.cg.to m (no (by decide)) a,h.ch.to m (no (by decide)) a,h.hm.mt m (no (by decide)) a,fun c' hc'=>?_,fun j hj p hp=>sd_mt (h.sd j hj p hp) m (by simp; omega) a,fun c hc d hd=>dn_mt (h.dn c hc d hd) m (by simp; omega) a⟩
 by_cases e:c' = c
 ·subst e
  simp only [upN_same]
  exact ⟨w.mono (Nat.zero_le _),fun g hg=>grown_new (w.from hg)⟩
 ·simp only [upN_ne _ _ e]
  exact (h.ht c' hc').mt m (by simp; omega) a
end
end Go.Proofs.YtlaojmcekeohnaaGreatDoor.Lift
set_option linter.unusedVariables false
set_option linter.unusedSimpArgs false
set_option linter.unnecessarySimpa false
set_option maxRecDepth 20000
namespace Go.Proofs.YtlaojmcekeohnaaGreatDoor.Lift
open Go Go.Proofs.YtlaojmcekeohnaaGreatDoor.Gh Go.Proofs
section
variable {own own' own1:Nat → Nat} {G G' G1 G2:GS} {n c i K:Nat} {ts:List Nat} {x y:CM} {B B':CrB} {v:Value} {L:List Int} {s':MS} {D T H tk:Nat → Nat} {p:PuS} {d:SdS}
end
end Go.Proofs.YtlaojmcekeohnaaGreatDoor.Lift
set_option linter.unusedVariables false
set_option linter.unusedSimpArgs false
set_option linter.unnecessarySimpa false
set_option maxRecDepth 20000
namespace Go.Proofs.YtlaojmcekeohnaaGreatDoor.Lift
open Go Go.Proofs.YtlaojmcekeohnaaGreatDoor.Gh Go.Proofs
theorem SlR.sub {α:Type} {e:RowE α} {G:GS} {v:Value} {L:List α} (h:SlR e G v L) {k:IntKind} {o q:Nat} (ho:o ≤ q) (hq:q ≤ L.length):∃ v',slK e.sz v (some (.int k o)) (some (.int k q)) none G = some v' ∧ SlR e G v' ((L.drop o).take (q - o)):=by
 have hll:((L.drop o).take (q - o)).length = q - o:=by simp; omega
 have hl:(e.flat ((L.drop o).take (q - o))).length = ((L.drop o).take (q - o)).length * e.sz:=e.flat_length _
 rcases h.is.2 with ⟨rfl,h0⟩ | ⟨b,f,c,ob,rfl,h2,h3,h4,h5,h6⟩
 ·have hL:L = []:=List.eq_nil_of_length_eq_zero h0
  subst hL
  have:q = 0:=by simpa using hq
  subst this
  have:o = 0:=by omega
  subst this
  exact ⟨.slice none 0 0,by simp [slK,bound],SlR.nil⟩
 ·have h1:(0:Int) ≤ o ∧ (o:Int) ≤ q:=by omega
  have h1':(0:Int) ≤ q ∧ (q:Int) ≤ c:=by omega
  have hqc:q ≤ c:=by omega
  have hfit:=h.fit _ _ _ rfl ob h4
  have hc:∀ i,i < ((L.drop o).take (q - o)).length * e.sz → ob.cells[f + o * e.sz + i]? = (e.flat ((L.drop o).take (q - o)))[i]?:=fun i hi=>by
   rw [hll] at hi
   have hle:q * e.sz ≤ L.length * e.sz:=Nat.mul_le_mul_right _ hq
   have hsub:(q - o) * e.sz = q * e.sz - o * e.sz:=Nat.sub_mul ..
   rw [← e.flat_take,List.getElem?_take,if_pos hi,← e.flat_drop,List.getElem?_drop,Nat.add_assoc]
   exact h6 _ (by omega)
  refine ⟨.slice (some ⟨b,f + o * e.sz,none⟩) (q - o) (c - o),?_,⟨⟨hl,.inr ⟨b,f + o * e.sz,c - o,ob,by rw [hll],by omega,h3,h4,h5,hc⟩⟩,fun a n c' he ob' ho' hop=>by cases he; exact h.fit _ _ _ rfl ob' ho' hop⟩⟩
  simp only [slK,h4]
  cases hop:ob.opn
  ·simp [bound,h1,h1',hqc]
  ·simp [bound,h1,h1',hqc,hfit hop]
section
variable {own own' own1:Nat → Nat} {G G' G1 G2:GS} {n c i K:Nat} {ts:List Nat} {x y:CM} {B B':CrB} {v:Value} {L:List Int} {s':MS} {D T H tk:Nat → Nat} {p:PuS} {d:DnS}
theorem pD_up {B:CrB} {x:CM} {i j b:Nat} {p:DnS}:pD { B with d:=upN B.d i b } { x with dn:=upN x.dn i (some p) } j = if j = i then P0 b else pD B x j:=by
 unfold pD
 by_cases e:j = i <;> simp [upN,e]
theorem CrG.runD (h:CrG own G n x B) (hc:c < 2) {d d':DnS} (hd:x.dn c = some d) (w:PW (Own own (8 + c)) own G own1 G1 B.m s') (hs:DnP own1 (8 + c) G1 (B.d c) d'):CrG own1 G1 n { x with s:=s',dn:=upN x.dn c (some d') } B ∧ ModT [10,8 + c] own G G1:=by
 have m:ModT [10,8 + c] own G G1:=w.mt (by simp) (by simp)
 have a:=w.stp.agr
 have no:∀ {t},t ∈ [1,2,3,4,14,15,16,17,18] → t ∉ [10,8 + c]:=fun {t} h1 h2=>by simp at h1 h2; omega
 obtain ⟨hat,_⟩:=h.dn c hc d hd
 have pe:∀ j,pD B { x with s:=s',dn:=upN x.dn c (some d') } j = pD B x j:=fun j=>by
  unfold pD
  by_cases e:j = c
  ·subst e; simp only [upN_same,hd]
  ·simp only [upN_ne _ _ e]
 refine ⟨⟨h.cx.to m (no (by decide)) a,h.cs.to m (no (by decide)) a,h.co.to m (no (by decide)) a,h.cv.to m (no (by decide)) a,by rw [pe,pe]; exact h.cd.to m (no (by decide)) a,h.ct.to m (no (by decide)) a,h.ck.to m (no (by decide)) a,h.cg.to m (no (by decide)) a,h.ch.to m (no (by decide)) a,w.pm,fun c hc=>(h.ht c hc).mt m (by simp; omega) a,fun j hj p hp=>sd_mt (h.sd j hj p hp) m (by simp; omega) a,fun c' hc' d2 hd2=>?_⟩,m⟩
 by_cases e:c' = c
 ·subst e; simp only [upN_same] at hd2; cases hd2; exact ⟨hat.to m.nx a,hs⟩
 ·simp only [upN_ne _ _ e] at hd2
  exact dn_mt (h.dn c' hc' d2 hd2) m (by simp; omega) a
end
end Go.Proofs.YtlaojmcekeohnaaGreatDoor.Lift
set_option linter.unusedVariables false
set_option linter.unusedSimpArgs false
set_option linter.unnecessarySimpa false
set_option maxRecDepth 20000
namespace Go.Proofs.YtlaojmcekeohnaaGreatDoor.Lift
open Go Go.Proofs.YtlaojmcekeohnaaGreatDoor.Gh Go.Proofs
section
variable {own own' own1:Nat → Nat} {G G' G1 G2:GS} {n c i K:Nat} {ts:List Nat} {x y:CM} {B B':CrB} {v:Value} {L:List Int} {s':MS} {D T H tk:Nat → Nat} {p:PuS} {d:DnS}
end
end Go.Proofs.YtlaojmcekeohnaaGreatDoor.Lift
set_option linter.unusedVariables false
set_option linter.unusedSimpArgs false
set_option linter.unnecessarySimpa false
set_option maxRecDepth 20000
namespace Go.Proofs.YtlaojmcekeohnaaGreatDoor.Lift
open Go Go.Proofs.YtlaojmcekeohnaaGreatDoor.Gh Go.Proofs
section
variable {own own' own1:Nat → Nat} {G G' G1 G2:GS} {n c i K:Nat} {ts:List Nat} {x y:CM} {B B':CrB} {v:Value} {L:List Int} {s':MS} {D T H tk:Nat → Nat} {p:PuS} {d:DnS}
end
end Go.Proofs.YtlaojmcekeohnaaGreatDoor.Lift
set_option linter.unusedVariables false
set_option linter.unusedSimpArgs false
set_option linter.unnecessarySimpa false
set_option maxRecDepth 20000
namespace Go.Proofs.YtlaojmcekeohnaaGreatDoor.Lift
open Go Go.Proofs.YtlaojmcekeohnaaGreatDoor.Gh Go.Proofs
def actI (x:CM) (a:Nat):Prop:=if a < 3 then x.sd a ≠ none else x.dn (a - 3) ≠ none
def needA (x:CM) (T:Nat → Nat) (a:Nat):Nat:=if a < 3 then (match x.sd a with | some (.go p)=>muP (T (x.to a).toNat) (x.th (x.to a).toNat).length p | _=>0) else (match x.dn (a - 3) with | some d=>muD d | none=>0)
section
variable {own own' own1:Nat → Nat} {G G' G1 G2:GS} {n c i K a:Nat} {ts:List Nat} {x y:CM} {B B':CrB} {v:Value} {L:List Int} {s':MS} {D T H tk:Nat → Nat} {p:PuS} {d:DnS}
theorem InvC.need_le (h:InvC n K x D T H tk) (ha:a < 5):needA x T a ≤ 16:=by
 unfold needA
 by_cases h3:a < 3
 ·rw [if_pos h3]
  cases h.sd a h3 with
  | none b=>rw [b]; exact Nat.zero_le _
  | some p e c b1 b2 b3 b4 b5 b6 b7 b8 b9 =>
   rw [b1,b3]
   have hb:=h.box c b4
   have:=muP_le (T:=T c) (P:=(x.th c).length) (by have:=hb.m.t2; have:=hb.len; omega) p
   simp only [Int.toNat_natCast]
   omega
 ·rw [if_neg h3]
  cases h.dn (a - 3) (by omega) with
  | none b _ _=>rw [b]; exact Nat.zero_le _
  | some d b1 b2 b3=>rw [b1]; exact b3.mu.2.1
theorem InvC.need_pos (h:InvC n K x D T H tk) (ha:a < 5) (hb:actI x a):1 ≤ needA x T a:=by
 unfold needA
 unfold actI at hb
 by_cases h3:a < 3
 ·rw [if_pos h3] at hb ⊢
  cases h.sd a h3 with
  | none b=>exact absurd b hb
  | some p e c b1 b2 b3 b4 b5 b6 b7 b8 b9 =>
   rw [b1,b3]
   simp only [Int.toNat_natCast]
   exact muP_pos b5
 ·rw [if_neg h3] at hb ⊢
  cases h.dn (a - 3) (by omega) with
  | none b _ _=>exact absurd b hb
  | some d b1 b2 b3=>rw [b1]; exact b3.mu.1
theorem drop_take_eq {W W':List Int} {a m:Nat} (h:∀ b,a ≤ b → b < a + m → W'[b]? = W[b]?):(W.drop a).take m = (W'.drop a).take m:=by
 apply List.ext_getElem?
 intro i
 rw [List.getElem?_take,List.getElem?_take,List.getElem?_drop,List.getElem?_drop]
 split
 ·exact (h _ (by omega) (by omega)).symm
 ·rfl
theorem Fra.other {s s':MS} {c o:Nat} (h:Fra (bas n c) n s s') (hc:c < 2) (ho:o < 2) (hne:o ≠ c):(s.W.drop (bas n o)).take (n + 2) = (s'.W.drop (bas n o)).take (n + 2) :=
 drop_take_eq fun b h1 h2=>h.out b (by have:=bas_apart (n:=n) ho hc hne; omega)
end
end Go.Proofs.YtlaojmcekeohnaaGreatDoor.Lift
set_option linter.unusedVariables false
set_option linter.unusedSimpArgs false
set_option linter.unnecessarySimpa false
set_option maxRecDepth 20000
namespace Go.Proofs.YtlaojmcekeohnaaGreatDoor.Lift
open Go Go.Proofs.YtlaojmcekeohnaaGreatDoor.Gh Go.Proofs
section
variable {own own' own1:Nat → Nat} {G G' G1 G2:GS} {n c i K a:Nat} {ts:List Nat} {x y:CM} {B B':CrB} {v:Value} {L:List Int} {s':MS} {D T H tk:Nat → Nat} {p:PuS} {d:DnS}
structure ArgS (own:Nat → Nat) (G:GS) (v:Value) (L:List Int):Prop where
 is:SlR (rowsI .i64) G v L
 tag:∀ g,InB v g → own g = 20
theorem ArgS.to {L:List Int} (h:ArgS own G v L) (m:ModT crT own G G') (a:Agr own own' G):ArgS own' G' v L :=
 ⟨h.is.kept m.nx fun g hg=>m.same (h.is.under g hg) (by rw [h.tag g hg]; decide),fun g hg=>(a g (h.is.under g hg)).trans (h.tag g hg)⟩
end
end Go.Proofs.YtlaojmcekeohnaaGreatDoor.Lift
set_option linter.unusedVariables false
set_option linter.unusedSimpArgs false
set_option linter.unnecessarySimpa false
set_option maxRecDepth 20000
namespace Go.Proofs.YtlaojmcekeohnaaGreatDoor.Lift
open Go Go.Proofs.YtlaojmcekeohnaaGreatDoor.Gh Go.Proofs
def CM.init (n:Nat):CM:=⟨mfillI (MBn n) (MS.zero (3 + 2 * (n + 2))),fun _=>none,fun _=>0,fun _=>0,fun _=>none,fun _=>[],fun _=>0,fun _=>0,fun _=>false,0⟩
theorem init_W {n:Nat} (h:1 ≤ n ∧ n ≤ 4):(CM.init n).s.W = List.replicate (3 + 2 * (n + 2)) 0:=by
 rcases (show n = 1 ∨ n = 2 ∨ n = 3 ∨ n = 4 by omega) with rfl | rfl | rfl | rfl <;> kernel_rfl
theorem zeroM_ok {k:Nat} (h:k ≤ 4096):(MS.zero k).ok:=⟨fun w hw=>by rw [(List.mem_replicate.1 hw).2]; exact ⟨by decide,by decide⟩,by simp [MS.zero]; exact h⟩
theorem InvC.init {n:Nat} (h:1 ≤ n ∧ n ≤ 4):InvC n 0 (CM.init n) (fun _=>0) (fun _=>0) (fun _=>0) (fun _=>0):=by
 have hW:=init_W h
 have get:∀ i,i < 3 + 2 * (n + 2) → (CM.init n).s.W[i]? = some 0:=fun i hi=>by rw [hW,List.getElem?_replicate,if_pos hi]
 refine ⟨h,by rw [hW]; simp,fillsN_ok _ _ _ (zeroM_ok (by omega)),fun c hc=>?_,fun _ _=>rfl,fun _ _=>rfl,fun _ _=>rfl,fun _ _=>.none rfl,fun _ _ _ _ _ k=>absurd rfl k,fun _ _ w hw=>(by cases hw),fun _ _=>.none rfl rfl rfl,⟨Int.le_refl _,Int.le_refl _⟩⟩
 have hb:bas n c ≤ 3 + (n + 2):=by unfold bas; rcases (show c = 0 ∨ c = 1 by omega) with rfl | rfl <;> omega
 refine ⟨⟨h.1,by omega,by omega,by rw [hW]; simp; omega,get _ (by omega),get _ (by omega),Nat.le_refl _,Nat.zero_le _,Nat.zero_le _,Nat.le_refl _,fun v hv=>(by cases hv),fun t _ ht=>?_⟩,Nat.le_refl _⟩
 have ht':t < n:=by omega
 rw [Nat.mod_eq_of_lt ht',get _ (by omega)]
 unfold wordN
 rw [if_neg (by simp [CM.init]),Nat.div_eq_of_lt ht']
 rfl
theorem ext_drawn {A G:GS} (h:Ext A G) {n:Nat} (hn:A.nx ≤ n) (o:GObj):Ext A (((G.at' n).push o).back G):=((h.modP fun _=>False).drawn hn o).ext
section
variable {own own' own1:Nat → Nat} {G G' G1 G2:GS} {n c i K a:Nat} {ts:List Nat} {x y:CM} {B B':CrB} {v:Value} {L:List Int} {s':MS} {D T H tk:Nat → Nat} {p:PuS} {d:DnS}
theorem filled_ok (orc:FuncId → Bool) (hn:1 ≤ n ∧ n ≤ 4) (G:GS):∃ own' m G',(E orc).cl 94 [(MBn n).v,.int .i64 (3 + 2 * ((n:Int) + 2))] G = some (P0 m,G') ∧ Ext G G' ∧ PM own' G' m (CM.init n).s ∧ ∀ g,g < G.nx → own' g = 20:=by
 obtain ⟨G1,hG1⟩:∃ G1,G1 = G.push ⟨(MBn n).cells,1,false,1⟩:=⟨_,rfl⟩
 have x1:Ext G G1:=by rw [hG1]; exact (Ext.refl G).push _
 have o1:G1.obj G.nx = some ⟨(MBn n).cells,1,false,1⟩:=by rw [hG1]; simp
 have n1:G1.nx = G.nx + 1:=by rw [hG1]; rfl
 obtain ⟨m,G3,e3,x3,hm3⟩:=(new_ok orc (3 + 2 * ((n:Int) + 2)) G1).2 (by omega) (by omega)
 have n3:=x3.nx
 have o3:=(x3.obj G.nx (by omega)).trans o1
 obtain ⟨own0,hown0⟩:∃ own0:Nat → Nat,own0 = fun g=>if g < G.nx then 20 else if g < G1.nx then 13 else 10:=⟨_,rfl⟩
 have hk:(3 + 2 * ((n:Int) + 2)).toNat = 3 + 2 * (n + 2):=by omega
 rw [hk] at hm3
 have p3:PM own0 G3 m (MS.zero (3 + 2 * (n + 2))):=PMx.mono hm3 (fun g hg=>⟨hg.2,by have:=hg.1; rw [hown0]; simp only; rw [if_neg (by omega),if_neg (by omega)]⟩) Tag.under
 obtain ⟨own1,G14,e14,w14⟩:=fills_ok orc (MBn_placed hn).1 p3
 have hEx:Ext G G14:=ModP.tail (x1.trans x3) w14.stp.mod fun g hg=>by
  rcases hg with hg | hg
  ·rw [hown0] at hg
   simp only at hg
   by_cases k:g < G.nx
   ·rw [if_pos k] at hg; cases hg
   ·omega
  ·exact hg.elim
 refine ⟨own1,m,G14,f94 (exL_ok Q orc) _ _ G _ ?_,hEx,w14.pm,fun g hg=>by rw [w14.stp.agr g (by omega),hown0]; simp only; rw [if_pos hg]⟩
 simp [s94,← hG1,e3,o3,e14]
set_option maxHeartbeats 2000000 in
theorem begun_in (orc:FuncId → Bool) (h1:1 ≤ n ∧ n ≤ 4) (G:GS):∃ own' B G',(E orc).cl 31 [.int .i64 n] G = some (P0 B.xb,G') ∧ Ext G G' ∧ CrG own' G' n (CM.init n) B ∧ ∀ g,g < G.nx → own' g = 20:=by
 have w:Wp ((E orc).cl 31 [.int .i64 n] G) fun q=>∃ B own',q.1 = P0 B.xb ∧ Ext G q.2 ∧ CrG own' q.2 n (CM.init n) B ∧ ∀ g,g < G.nx → own' g = 20:=by
  refine Wp.ref (f31 (exL_ok Q orc) _ G) ?_
  have hz3:z82 = [.int .i64 0,.int .i64 0,.int .i64 0]:=rfl
  obtain ⟨G3,hG3⟩:∃ G3,G3 = (G.push ⟨z82,1,false,1⟩).put G.nx ⟨(MBn n).cells,1,false,1⟩:=⟨_,rfl⟩
  have x3:Ext G G3:=by rw [hG3]; exact ((Ext.refl G).push _).put (Nat.le_refl _) _
  have n3:G3.nx = G.nx + 1:=by rw [hG3]; rfl
  have o3:G3.obj G.nx = some ⟨(MBn n).cells,1,false,1⟩:=by rw [hG3]; simp
  obtain ⟨own1,m,G17,e17,x17,p17,a17⟩:=filled_ok orc h1 G3
  have n17:=x17.nx
  have o17:=(x17.obj G.nx (by omega)).trans o3
  obtain ⟨R,hR⟩:∃ R,R = G17.room 13:=⟨_,rfl⟩
  have nR:R.nx = G17.nx + 13:=by rw [hR]; rfl
  obtain ⟨A2,hA2⟩:∃ A2,A2 = ((R.at' (G17.nx + 2)).push ⟨[.pointer none,.pointer none,.pointer none],1,false,1⟩).back R:=⟨_,rfl⟩
  obtain ⟨A3,hA3⟩:∃ A3,A3 = ((A2.at' (G17.nx + 3)).push ⟨[.int .i64 0,.int .i64 0,.int .i64 0],1,false,1⟩).back A2:=⟨_,rfl⟩
  obtain ⟨A4,hA4⟩:∃ A4,A4 = ((A3.at' (G17.nx + 4)).push ⟨[.int .i64 0,.int .i64 0,.int .i64 0],1,false,1⟩).back A3:=⟨_,rfl⟩
  obtain ⟨A5,hA5⟩:∃ A5,A5 = ((A4.at' (G17.nx + 5)).push ⟨[.pointer none,.pointer none],1,false,1⟩).back A4:=⟨_,rfl⟩
  obtain ⟨A6,hA6⟩:∃ A6,A6 = ((A5.at' (G17.nx + 6)).push ⟨[.slice none 0 0,.slice none 0 0],1,false,1⟩).back A5:=⟨_,rfl⟩
  obtain ⟨A7,hA7⟩:∃ A7,A7 = ((A6.at' (G17.nx + 7)).push ⟨[.int .i64 0,.int .i64 0],1,false,1⟩).back A6:=⟨_,rfl⟩
  obtain ⟨A8,hA8⟩:∃ A8,A8 = ((A7.at' (G17.nx + 8)).push ⟨[.int .i64 0,.int .i64 0],1,false,1⟩).back A7:=⟨_,rfl⟩
  obtain ⟨A9,hA9⟩:∃ A9,A9 = ((A8.at' (G17.nx + 9)).push ⟨[.bool false,.bool false],1,false,1⟩).back A8:=⟨_,rfl⟩
  obtain ⟨B,hB⟩:∃ B:CrB,B = ⟨m,G17.nx + 11,G17.nx + 2,G17.nx + 3,G17.nx + 4,G17.nx + 5,G17.nx + 6,G17.nx + 7,G17.nx + 8,G17.nx + 9,fun _=>0,fun _=>0,fun _=>.slice none 0 0⟩:=⟨_,rfl⟩
  obtain ⟨Z,hZ⟩:∃ Z,Z = ((A9.at' (G17.nx + 11)).push ⟨crX n (CM.init n) B,1,false,1⟩).back A9:=⟨_,rfl⟩
  have m2:A2.nx = R.nx:=by rw [hA2]; rfl
  have m3:A3.nx = R.nx:=by rw [hA3,← m2]; rfl
  have m4:A4.nx = R.nx:=by rw [hA4,← m3]; rfl
  have m5:A5.nx = R.nx:=by rw [hA5,← m4]; rfl
  have m6:A6.nx = R.nx:=by rw [hA6,← m5]; rfl
  have m7:A7.nx = R.nx:=by rw [hA7,← m6]; rfl
  have m8:A8.nx = R.nx:=by rw [hA8,← m7]; rfl
  have m9:A9.nx = R.nx:=by rw [hA9,← m8]; rfl
  have mZ:Z.nx = R.nx:=by rw [hZ,← m9]; rfl
  have xZ:Ext G17 Z:=by
   rw [hZ,hA9,hA8,hA7,hA6,hA5,hA4,hA3,hA2,hR]
   exact ext_drawn (ext_drawn (ext_drawn (ext_drawn (ext_drawn (ext_drawn (ext_drawn (ext_drawn (ext_drawn ((Ext.refl _).room 13) (by omega) _) (by omega) _) (by omega) _) (by omega) _) (by omega) _) (by omega) _) (by omega) _) (by omega) _) (by omega) _
  have xb:Z.obj (G17.nx + 11) = some ⟨crX n (CM.init n) B,1,false,1⟩:=by rw [hZ]; simp
  have b9:Z.obj (G17.nx + 9) = some ⟨[.bool false,.bool false],1,false,1⟩:=by rw [hZ,hA9]; simp
  have b8:Z.obj (G17.nx + 8) = some ⟨[.int .i64 0,.int .i64 0],1,false,1⟩:=by rw [hZ,hA9,hA8]; simp
  have b7:Z.obj (G17.nx + 7) = some ⟨[.int .i64 0,.int .i64 0],1,false,1⟩:=by rw [hZ,hA9,hA8,hA7]; simp
  have b6:Z.obj (G17.nx + 6) = some ⟨[.slice none 0 0,.slice none 0 0],1,false,1⟩:=by rw [hZ,hA9,hA8,hA7,hA6]; simp
  have b5:Z.obj (G17.nx + 5) = some ⟨[.pointer none,.pointer none],1,false,1⟩:=by rw [hZ,hA9,hA8,hA7,hA6,hA5]; simp
  have b4:Z.obj (G17.nx + 4) = some ⟨[.int .i64 0,.int .i64 0,.int .i64 0],1,false,1⟩:=by rw [hZ,hA9,hA8,hA7,hA6,hA5,hA4]; simp
  have b3:Z.obj (G17.nx + 3) = some ⟨[.int .i64 0,.int .i64 0,.int .i64 0],1,false,1⟩:=by rw [hZ,hA9,hA8,hA7,hA6,hA5,hA4,hA3]; simp
  have b2:Z.obj (G17.nx + 2) = some ⟨[.pointer none,.pointer none,.pointer none],1,false,1⟩:=by rw [hZ,hA9,hA8,hA7,hA6,hA5,hA4,hA3,hA2]; simp
  obtain ⟨own2,hown⟩:∃ own2:Nat → Nat,own2 = fun g=>if g < G17.nx then own1 g else if g = G17.nx + 11 then 1 else if g = G17.nx + 2 then 2 else if g = G17.nx + 3 then 3 else if g = G17.nx + 4 then 4 else if g = G17.nx + 5 then 14 else if g = G17.nx + 6 then 15 else if g = G17.nx + 7 then 16 else if g = G17.nx + 8 then 17 else if g = G17.nx + 9 then 18 else 13:=⟨_,rfl⟩
  have tg:∀ i,i < 13 → own2 (G17.nx + i) = if i = 11 then 1 else if i = 2 then 2 else if i = 3 then 3 else if i = 4 then 4 else if i = 5 then 14 else if i = 6 then 15 else if i = 7 then 16 else if i = 8 then 17 else if i = 9 then 18 else 13:=fun i hi=>by
   rw [hown]; simp only
   rw [if_neg (by omega)]
   simp
  have hm29:PM own2 Z m (CM.init n).s:=PMx.mono (PMx.ext p17 xZ) (fun g hg=>⟨Nat.lt_of_lt_of_le hg.1 xZ.nx,by rw [hown]; simp only; rw [if_pos hg.1]; exact hg.2⟩) Tag.under
  have hCr:CrG own2 Z n (CM.init n) B:=by
   have t11:=tg 11 (by omega)
   have t2:=tg 2 (by omega)
   have t3:=tg 3 (by omega)
   have t4:=tg 4 (by omega)
   have t5:=tg 5 (by omega)
   have t6:=tg 6 (by omega)
   have t7:=tg 7 (by omega)
   have t8:=tg 8 (by omega)
   have t9:=tg 9 (by omega)
   simp at t11 t2 t3 t4 t5 t6 t7 t8 t9
   rw [hB] at xb ⊢
   refine ⟨⟨by show G17.nx + 11 < _; omega,t11,xb⟩,⟨by show G17.nx + 2 < _; omega,t2,b2⟩,⟨by show G17.nx + 3 < _; omega,t3,b3⟩,⟨by show G17.nx + 4 < _; omega,t4,b4⟩,⟨by show G17.nx + 5 < _; omega,t5,b5⟩,⟨by show G17.nx + 6 < _; omega,t6,b6⟩,⟨by show G17.nx + 7 < _; omega,t7,b7⟩,⟨by show G17.nx + 8 < _; omega,t8,b8⟩,⟨by show G17.nx + 9 < _; omega,t9,b9⟩,hm29,fun c hc=>OwT.nil _ _ _,fun i hi p hp=>(by cases hp),fun c hc d hd=>(by cases hd)⟩
  refine Wp.mono (Q:=fun q=>q = (P0 B.xb,Z)) ?_ (fun q hq=>by
   subst hq
   exact ⟨B,own2,rfl,(x3.trans x17).trans xZ,hCr,fun g hg=>by
    rw [hown]; simp only; rw [if_pos (by omega)]; exact a17 g (by omega)⟩)
  have hz:z88 = [.int .i64 0,.int .i64 0,.int .i64 0,.pointer none,.slice none 0 0,.slice none 0 0,.slice none 0 0,.slice none 0 0,.slice none 0 0,.slice none 0 0,.slice none 0 0,.slice none 0 0,.int .i64 0]:=rfl
  have hr:(MBn n).cells = [.int .i64 3,.int .i64 2,.int .i64 n]:=rfl
  have hv:(MBn n).v = .agg ⟨[.int .i64 3,.int .i64 2,.int .i64 n]⟩:=rfl
  have hBx:B.xb = G17.nx + 11:=by rw [hB]
  have hcr:crX n (CM.init n) B = [.int .i64 3,.int .i64 2,.int .i64 n,P0 m,.slice (some ⟨G17.nx + 2,0,none⟩) 3 3,.slice (some ⟨G17.nx + 3,0,none⟩) 3 3,.slice (some ⟨G17.nx + 4,0,none⟩) 3 3,.slice (some ⟨G17.nx + 5,0,none⟩) 2 2,.slice (some ⟨G17.nx + 6,0,none⟩) 2 2,.slice (some ⟨G17.nx + 7,0,none⟩) 2 2,.slice (some ⟨G17.nx + 8,0,none⟩) 2 2,.slice (some ⟨G17.nx + 9,0,none⟩) 2 2,.int .i64 0]:=by rw [hB]; rfl
  rw [hcr] at hZ
  rw [hr] at o3 o17 hG3
  rw [hv] at e17
  rw [hz3] at hG3
  clear hCr
  have w1:IntKind.wrap .i64 ((n:Int) + 2) = (n:Int) + 2:=wrap64 (by omega) (by omega)
  have w2:IntKind.wrap .i64 (2 * ((n:Int) + 2)) = 2 * ((n:Int) + 2):=wrap64 (by omega) (by omega)
  have w3:IntKind.wrap .i64 (3 + 2 * ((n:Int) + 2)) = 3 + 2 * ((n:Int) + 2):=wrap64 (by omega) (by omega)
  have mk3:∀ (z:Value) (G:GS),mkK 1 8 [z] 3 3 G = some (.slice (some ⟨G.nx,0,none⟩) 3 3,G.push ⟨[z,z,z],1,false,1⟩):=by
   intro z G; unfold mkK; rw [if_pos (by decide)]; rfl
  have mk2:∀ (z:Value) (G:GS),mkK 1 8 [z] 2 2 G = some (.slice (some ⟨G.nx,0,none⟩) 2 2,G.push ⟨[z,z],1,false,1⟩):=by
   intro z G; unfold mkK; rw [if_pos (by decide)]; rfl
  have mk24:∀ (z:Value) (G:GS),mkK 1 24 [z] 2 2 G = some (.slice (some ⟨G.nx,0,none⟩) 2 2,G.push ⟨[z,z],1,false,1⟩):=by
   intro z G; unfold mkK; rw [if_pos (by decide)]; rfl
  have mk21:∀ (z:Value) (G:GS),mkK 1 1 [z] 2 2 G = some (.slice (some ⟨G.nx,0,none⟩) 2 2,G.push ⟨[z,z],1,false,1⟩):=by
   intro z G; unfold mkK; rw [if_pos (by decide)]; rfl
  have hzs:z79 = [.pointer none]:=rfl
  have hzd:z89 = [.pointer none]:=rfl
  have hzi:z3 = [.int .i64 0]:=rfl
  have hzl:z35 = [.slice none 0 0]:=rfl
  have hzb:z4 = [.bool false]:=rfl
  have oR:R.obj G.nx = some ⟨[.int .i64 3,.int .i64 2,.int .i64 n],1,false,1⟩:=by rw [hR]; simpa using o17
  simp [-Int.natCast_add,s31,hz,hz3,hzs,hzd,hzi,hzl,hzb,← hG3,w1,w2,w3,o3,e17,o17,mk3,mk2,mk24,mk21,← hR,oR,← hA2]
  simp [← hA3]
  simp [← hA4]
  simp [← hA5]
  simp [← hA6]
  simp [← hA7]
  simp [← hA8]
  simp [← hA9]
  simp [hBx,hZ]
 obtain ⟨⟨v,G'⟩,e,B,own',rfl,h1,h2,h3⟩:=w
 exact ⟨own',B,G',e,h1,h2,h3⟩
end
end Go.Proofs.YtlaojmcekeohnaaGreatDoor.Lift
