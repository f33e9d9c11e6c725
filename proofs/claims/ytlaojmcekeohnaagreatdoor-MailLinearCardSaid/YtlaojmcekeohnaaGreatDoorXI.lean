import Derived.Test.YtlaojmcekeohnaaGreatDoorXC
import Derived.Test.YtlaojmcekeohnaaGreatDoorXH
import Derived.Test.YtlaojmcekeohnaaGreatDoorXF
set_option linter.unusedVariables false
set_option linter.unusedSimpArgs false
set_option linter.unnecessarySimpa false
set_option maxRecDepth 20000
namespace Go.Proofs.YtlaojmcekeohnaaGreatDoor.Lift
open Go Go.Proofs.YtlaojmcekeohnaaGreatDoor.Gh Go.Proofs
section
variable {α:Type} (e:RowE α)
theorem RowE.flat_part:∀ (L:List α) {i:Nat} (hi:i < L.length) (a:α) {f:Nat} {ds:List Value},e.row a = overw (e.row L[i]) f ds → f + ds.length ≤ e.sz → overw (e.flat L) (i * e.sz + f) ds = e.flat (L.set i a)
 | [],i,hi,_,_,_,_,_=>by simp at hi
 | b :: L,0,hi,a,f,ds,h,hf=>by
  have hb:=e.len b
  simp only [List.getElem_cons_zero] at h
  rw [List.set_cons_zero,e.flat_cons,e.flat_cons,h]
  simp only [overw,Nat.zero_mul,Nat.zero_add]
  rw [List.take_append_of_le_length (by omega),List.drop_append_of_le_length (by omega)]
  simp
 | b :: L,i + 1,hi,a,f,ds,h,hf=>by
  have hl:i < L.length:=by simpa using hi
  have ih:=RowE.flat_part L hl a (f:=f) (ds:=ds) (by simpa using h) hf
  rw [List.set_cons_succ,e.flat_cons,e.flat_cons,← ih]
  have h1:(i + 1) * e.sz + f = (e.row b).length + (i * e.sz + f):=by rw [e.len,Nat.add_mul]; omega
  simp only [overw]
  rw [h1,List.take_length_add_append,Nat.add_assoc,← List.drop_drop,List.drop_left]
  simp
theorem set_overw (l:List Value) (i:Nat) (v:Value) (h:i < l.length):l.set i v = overw l i [v]:=by
 simp only [overw]
 rw [List.set_eq_take_append_cons_drop,if_pos h]
 simp
end
structure Spn (own:Nat → Nat) (G:GS) (v:Value) (L:List Sp):Prop where
 ow:OwR rSp 0 G v L
 tag:∀ g,InB v g → own g = 31
structure TabS (own:Nat → Nat) (G:GS):Prop where
 tb:tabs G = true
 t0:own 0 = 20
 t1:own 1 = 20
 n2:2 ≤ G.nx
structure ArgM (own:Nat → Nat) (G:GS) (v:Value) (L:List Int):Prop where
 is:SlR (rowsI .i64) G v L
 tag:∀ g,InB v g → own g = 20
structure HV (x hx:CM):Prop where
 s:hx.s = x.s
 sd:∀ i,i < 2 → ∀ p,x.sd i = some p → hx.sd i = some p
 dn:∀ d,x.dn 1 = some d → hx.dn 1 = some d
structure MLh (own:Nat → Nat) (G:GS) (n:Nat) (y:LM) (B:CrB) (hx:CM) (ob:Nat) (cv v1:Value) (L:List Int):Prop where
 cr:CrG own G n hx B
 hv:HV y.x hx
 op:Cel own G ob 30 [.int .i64 (y.o 0),.int .i64 (y.o 1),.int .i64 (y.o 2)]
 sp:Spn own G cv y.calls
 arg:ArgM own G v1 L
 ts:TabS own G
section
variable {own own' own1 own2:Nat → Nat} {G G' G1 G2:GS} {n c i K ob b:Nat} {ts:List Nat} {x hx:CM} {y z:LM} {B B':CrB} {v cv v1:Value} {L:List Int} {D T H tk:Nat → Nat} {d:SdS}
theorem Spn.mt {l:List Sp} (h:Spn own G v l) (m:ModT ts own G G') (ht:31 ∉ ts) (a:Agr own own' G):Spn own' G' v l :=
 ⟨h.ow.kept m.nx fun g hg=>m.same (h.ow.is.under g hg) (by rw [h.tag g hg]; exact ht),fun g hg=>(a g (h.ow.is.under g hg)).trans (h.tag g hg)⟩
theorem TabS.mt (h:TabS own G) (m:ModT ts own G G') (ht:20 ∉ ts) (a:Agr own own' G):TabS own' G':=by
 have hn:=h.n2
 have h0:=m.same (g:=0) (by omega) (by rw [h.t0]; exact ht)
 have h1:=m.same (g:=1) (by omega) (by rw [h.t1]; exact ht)
 refine ⟨?_,(a 0 (by omega)).trans h.t0,(a 1 (by omega)).trans h.t1,Nat.le_trans hn m.nx⟩
 have:=h.tb
 unfold tabs at this ⊢
 rw [h0,h1]; exact this
theorem ArgM.mt (h:ArgM own G v L) (m:ModT ts own G G') (ht:20 ∉ ts) (a:Agr own own' G):ArgM own' G' v L :=
 ⟨h.is.kept m.nx fun g hg=>m.same (h.is.under g hg) (by rw [h.tag g hg]; exact ht),fun g hg=>(a g (h.is.under g hg)).trans (h.tag g hg)⟩
theorem MLh.ext (h:MLh own G n y B hx ob cv v1 L) (e:Ext G G'):MLh own G' n y B hx ob cv v1 L :=
 have m:ModT [] own G G':=ModT.ext e
 have a:=Agr.refl own G
 ⟨h.cr.extO e,h.hv,h.op.to m (by simp) a,h.sp.mt m (by simp) a,h.arg.mt m (by simp) a,h.ts.mt m (by simp) a⟩
theorem grown_room (own:Nat → Nat) (G:GS) (k t:Nat):grown (grown own G t) (G.room k) t = grown own G t:=by
 funext g
 show (if g < (G.room k).nx then grown own G t g else t) = _
 by_cases q:g < (G.room k).nx
 ·rw [if_pos q]
 ·rw [if_neg q,grown_new (by simp at q; omega)]
theorem CrG.newS (h:CrG own G n x B) (hi:i < 3) (x1:Ext G G1) (b0:G.nx ≤ b) (b1:b < G1.nx) (hs:SdP (grown own G (5 + i)) (5 + i) G1 b d) (hG:G2 = G1.put B.sb ⟨[if 0 = i then P0 b else pS B x 0,if 1 = i then P0 b else pS B x 1,if 2 = i then P0 b else pS B x 2],1,false,1⟩) :
  CrG (grown own G (5 + i)) G2 n { x with sd:=upN x.sd i (some d) } { B with s:=upN B.s i b } ∧ ModT [2] own G G2 ∧ Agr own (grown own G (5 + i)) G:=by
 have ag:Agr own (grown own G (5 + i)) G:=grown_agr
 have m:ModT [2] own G G2:=by rw [hG]; exact ModT.put (ModT.ext x1) (.inl (by rw [h.cs.tag]; decide)) _
 have m1:ModT [2] (grown own G (5 + i)) G1 G2:=by rw [hG]; exact ModT.put (ModT.refl _ _ _) (.inl (by rw [ag _ h.cs.lt,h.cs.tag]; decide)) _
 have nx:=m.nx
 have new:=sd_mt ⟨⟨b1,grown_new b0⟩,hs⟩ m1 (by simp; omega) (Agr.refl _ _)
 refine ⟨⟨h.cx.to m (by decide) ag,⟨Nat.lt_of_lt_of_le h.cs.lt nx,(ag _ h.cs.lt).trans h.cs.tag,by rw [pS_up,pS_up,pS_up]; rw [hG]; simp⟩,h.co.to m (by decide) ag,h.cv.to m (by decide) ag,h.cd.to m (by decide) ag,h.ct.to m (by decide) ag,h.ck.to m (by decide) ag,h.cg.to m (by decide) ag,h.ch.to m (by decide) ag,h.hm.mt m (by decide) ag,fun c hc=>(h.ht c hc).mt m (by simp; omega) ag,fun j hj p hp=>?_,fun c hc d hd=>dn_mt (h.dn c hc d hd) m (by simp; omega) ag⟩,m,ag⟩
 by_cases e:j = i
 ·subst e
  simp only [upN_same] at hp ⊢
  cases hp
  exact new
 ·simp only [upN_ne _ _ e] at hp ⊢
  exact sd_mt (h.sd j hj p hp) m (by simp; omega) ag
theorem CrG.newD {d:DnS} (h:CrG own G n x B) (hc:c < 2) (x1:Ext G G1) (b0:G.nx ≤ b) (b1:b < G1.nx) (hs:DnP (grown own G (8 + c)) (8 + c) G1 b d) (hG:G2 = G1.put B.db ⟨[if 0 = c then P0 b else pD B x 0,if 1 = c then P0 b else pD B x 1],1,false,1⟩) :
  CrG (grown own G (8 + c)) G2 n { x with dn:=upN x.dn c (some d) } { B with d:=upN B.d c b } ∧ ModT [14] own G G2 ∧ Agr own (grown own G (8 + c)) G:=by
 have ag:Agr own (grown own G (8 + c)) G:=grown_agr
 have m:ModT [14] own G G2:=by rw [hG]; exact ModT.put (ModT.ext x1) (.inl (by rw [h.cd.tag]; decide)) _
 have m1:ModT [14] (grown own G (8 + c)) G1 G2:=by rw [hG]; exact ModT.put (ModT.refl _ _ _) (.inl (by rw [ag _ h.cd.lt,h.cd.tag]; decide)) _
 have nx:=m.nx
 have new:=dn_mt ⟨⟨b1,grown_new b0⟩,hs⟩ m1 (by simp; omega) (Agr.refl _ _)
 refine ⟨⟨h.cx.to m (by decide) ag,h.cs.to m (by decide) ag,h.co.to m (by decide) ag,h.cv.to m (by decide) ag,⟨Nat.lt_of_lt_of_le h.cd.lt nx,(ag _ h.cd.lt).trans h.cd.tag,by rw [pD_up,pD_up]; rw [hG]; simp⟩,h.ct.to m (by decide) ag,h.ck.to m (by decide) ag,h.cg.to m (by decide) ag,h.ch.to m (by decide) ag,h.hm.mt m (by decide) ag,fun c hc=>(h.ht c hc).mt m (by simp; omega) ag,fun j hj p hp=>sd_mt (h.sd j hj p hp) m (by simp; omega) ag,fun c' hc' d hd=>?_⟩,m,ag⟩
 by_cases e:c' = c
 ·subst e
  simp only [upN_same] at hd ⊢
  cases hd
  exact new
 ·simp only [upN_ne _ _ e] at hd ⊢
  exact dn_mt (h.dn c' hc' d hd) m (by simp; omega) ag
theorem Spn.app {l:List Sp} (h:Spn own G cv l) (hl:l.length ≤ 1000) {a:Sp} {sv:Value} (hs:SlR rSp G sv [a]):∃ cv' G',appK 10 80 cv sv G = some (cv',G') ∧ ModT [31] own G G' ∧ Agr own (grown own G 31) G ∧ Spn (grown own G 31) G' cv' (l ++ [a]) ∧ one cv' = true:=by
 obtain ⟨cv',G',e,m,w⟩:=h.ow.app_mod (ib:=80) (by decide) hs (by simp) (by simp; omega)
 exact ⟨cv',G',e,ModP.mono m fun g hg=>(show own g ∈ [31] by rw [h.tag g hg]; simp),grown_agr,⟨w.mono (Nat.zero_le _),fun g hg=>grown_new (w.from hg)⟩,own_one w⟩
end
end Go.Proofs.YtlaojmcekeohnaaGreatDoor.Lift
set_option linter.unusedVariables false
set_option linter.unusedSimpArgs false
set_option linter.unnecessarySimpa false
set_option maxRecDepth 20000
namespace Go.Proofs.YtlaojmcekeohnaaGreatDoor.Lift
open Go Go.Proofs.YtlaojmcekeohnaaGreatDoor.Gh Go.Proofs
structure Ev8 (τ:Env) (v1 v5:Value) (xb:Nat) (cv:Value) (ob k:Nat):Prop where
 t1:τ 1 = v1
 t5:τ 5 = v5
 t6:τ 6 = P0 xb
 t7:τ 7 = cv
 t8:τ 8 = .slice (some ⟨ob,0,none⟩) 3 3
 t9:τ 9 = .int .i64 k
abbrev LpT:=Env → GS → Option (Exit × Env × GS)
def Nxt (lp:LpT) (G:GS) (v1 v5:Value) (xb:Nat) (cv:Value) (ob k:Nat) (Post:Exit × Env × GS → Prop):Prop:=∀ τ,Ev8 τ v1 v5 xb cv ob k → Wp (lp τ G) Post
section
variable {own own' own1 own2:Nat → Nat} {G G' G1 G2:GS} {n c i K ob b k xb:Nat} {ts:List Nat} {x hx:CM} {y z:LM} {B B':CrB} {v cv v1 v5:Value} {L:List Int} {lp:LpT} {Post:Exit × Env × GS → Prop} {τ:Env}
theorem J0_ok (orc:FuncId → Bool) (hE:Ev8 τ v1 v5 xb cv ob k) (hk:k ≤ 1000) (hgo:Nxt lp G v1 v5 xb cv ob (k + 1) Post):Wp (jbl8_0_0 true (exL Q orc) lp τ G) Post:=by
 obtain ⟨t1,t5,t6,t7,t8,t9⟩:=hE
 have hw:IntKind.wrap .i64 ((k:Int) + 1) = ((k + 1:Nat):Int):=wrap64 (by omega) (by omega)
 simp [-Int.natCast_add,jbl8_0_0,t1,t6,t7,t8,t9,hw]
 refine hgo _ ⟨?_,?_,?_,?_,?_,?_⟩ <;> simp [-Int.natCast_add,clip_t,t5]
theorem J1_ok (orc:FuncId → Bool) {l:List Sp} (hE:Ev8 τ v1 v5 xb cv ob k) (hk:k ≤ 1000) (h:Spn own G cv l) (hl:l.length ≤ 100) {sb:Nat} (t11:τ 11 = P0 sb) {a:Sp} (os:G.obj sb = some ⟨rSp.row a,1,false,1⟩)
  (hgo:∀ cv' G',ModT [31] own G G' → Agr own (grown own G 31) G → Spn (grown own G 31) G' cv' (l ++ [a]) → Nxt lp G' v1 v5 xb cv' ob (k + 1) Post):Wp (jbl8_0_1 true (exL Q orc) lp (jl8_0_0 true (exL Q orc) lp) τ G) Post:=by
 obtain ⟨t1,t5,t6,t7,t8,t9⟩:=hE
 obtain ⟨G1,hG1⟩:∃ G1,G1 = G.push ⟨rSp.row a,10,false,1⟩:=⟨_,rfl⟩
 have x1:Ext G G1:=by rw [hG1]; exact (Ext.refl G).push _
 have hz:z29 = [.int .i64 0,.int .i64 0,.int .i64 0,.int .i64 0,.int .i64 0,.int .i64 0,.int .u64 0,.int .i64 0,.int .i64 0,.int .u64 0]:=rfl
 have sl:SlR rSp G1 (.slice (some ⟨G.nx,0,none⟩) 1 1) [a]:=by rw [hG1]; exact SlR.one rSp G a
 obtain ⟨cv',G2,e2,m2,ag2,w2,one2⟩:=(h.mt (ModT.ext x1 (ts:=[])) (by simp) (Agr.refl _ _)).app (by omega) sl
 have mm:ModT [31] own G G2:=(ModT.ext x1).trans (Agr.refl _ _) m2
 have w3:Spn (grown own G 31) G2 cv' (l ++ [a]):=⟨w2.ow,fun g hg=>by
  have q:=w2.tag g hg
  show (if g < G.nx then own g else 31) = 31
  by_cases k:g < G.nx
  ·rw [if_pos k]
   unfold grown at q
   rw [if_pos (Nat.lt_of_lt_of_le k x1.nx)] at q
   exact q
  ·rw [if_neg k]⟩
 simp only [rSp_row] at os hG1
 rw [hG1] at e2
 simp [jbl8_0_1,t1,t6,t7,t8,t9,t11,os,hz,e2]
 refine J0_ok orc ⟨?_,?_,?_,?_,?_,?_⟩ hk (hgo cv' G2 mm grown_agr w3) <;> simp [clip_t,t5]
end
end Go.Proofs.YtlaojmcekeohnaaGreatDoor.Lift
set_option linter.unusedVariables false
set_option linter.unusedSimpArgs false
set_option linter.unnecessarySimpa false
set_option maxRecDepth 20000
namespace Go.Proofs.YtlaojmcekeohnaaGreatDoor.Lift
open Go Go.Proofs.YtlaojmcekeohnaaGreatDoor.Gh Go.Proofs
section
variable {own own' own1 own2:Nat → Nat} {G G' G1 G2:GS} {n c i K ob b k xb:Nat} {ts:List Nat} {x hx:CM} {y z:LM} {B B':CrB} {v cv v1 v5:Value} {L:List Int} {lp:LpT} {Post:Exit × Env × GS → Prop} {τ:Env}
def NxtM (lp:LpT) (n:Nat) (y:LM) (ob:Nat) (v1 v5:Value) (L:List Int) (xb k:Nat) (Post:Exit × Env × GS → Prop):Prop:=∀ own G B hx cv,B.xb = xb → MLh own G n y B hx ob cv v1 L → Nxt lp G v1 v5 xb cv ob k Post
theorem MLh.opens (h:MLh own G n y B hx ob cv v1 L) (hc:c < 3) {o':List Value} (ho:o' = [.int .i64 (upN y.o c y.calls.length 0),.int .i64 (upN y.o c y.calls.length 1),.int .i64 (upN y.o c y.calls.length 2)]) {a:Sp} {z0:List Value} (hG:G2 = ((G.put ob ⟨o',1,false,1⟩).push ⟨z0,1,false,1⟩).put G.nx ⟨rSp.row a,1,false,1⟩) :
  CrG (grown own G 13) G2 n hx B ∧ Cel (grown own G 13) G2 ob 30 o' ∧ Spn (grown own G 13) G2 cv y.calls ∧ ArgM (grown own G 13) G2 v1 L ∧ TabS (grown own G 13) G2 ∧ G2.obj G.nx = some ⟨rSp.row a,1,false,1⟩ ∧ G2.nx = G.nx + 1:=by
 have m:ModT [30] own G G2:=by rw [hG]; exact ModT.put (ModP.push (ModT.put (ModT.refl _ _ _) (.inl (by rw [h.op.tag]; decide)) _) _) (.inr (Nat.le_refl _)) _
 have a0:Agr own (grown own G 13) G:=grown_agr
 have nx:=m.nx
 have hob:=h.op.lt
 refine ⟨h.cr.to m a0 (by decide),⟨Nat.lt_of_lt_of_le hob nx,(a0 _ hob).trans h.op.tag,?_⟩,h.sp.mt m (by decide) a0,h.arg.mt m (by decide) a0,h.ts.mt m (by decide) a0,by rw [hG]; simp,by rw [hG]; rfl⟩
 have e1:¬ ob = G.nx:=by omega
 rw [hG]; simp [e1]
theorem J3_begS (orc:FuncId → Bool) (h:MLh own G n y B hx ob cv v1 L) (hn:1 ≤ n ∧ n ≤ 4) (hE:Ev8 τ v1 v5 B.xb cv ob k) (t10:τ 10 = .int .i64 c) (hc:c < 2) (ho:y.o c = -1) (hk:k < L.length) (hk2:k ≤ 1000) (hl:y.calls.length < 6) (hnx:NxtM lp n (y.begS n k c) ob v1 v5 L B.xb (k + 1) Post) :
  Wp (jl8_0_3 true (exL Q orc) lp τ G) Post:=by
 obtain ⟨t1,t5,t6,t7,t8,t9⟩:=hE
 obtain ⟨va,vc,ev⟩:=h.arg.is.len
 have l1:ln Q true 35 v1 = some (.int .i64 L.length):=by rw [ev]; simp
 obtain ⟨ca,cc,ec⟩:=h.sp.ow.is.len
 have lc:ln Q true 38 cv = some (.int .i64 y.calls.length):=by rw [ec]; simp
 obtain ⟨o',ho'⟩:∃ o':List Value,o' = [.int .i64 (upN y.o c y.calls.length 0),.int .i64 (upN y.o c y.calls.length 1),.int .i64 (upN y.o c y.calls.length 2)]:=⟨_,rfl⟩
 obtain ⟨G1,hG1⟩:∃ G1,G1 = G.put ob ⟨o',1,false,1⟩:=⟨_,rfl⟩
 obtain ⟨G2,hG2⟩:∃ G2,G2 = (G1.push ⟨z29,1,false,1⟩).put G.nx ⟨rSp.row (pushS k),1,false,1⟩:=⟨_,rfl⟩
 have n1:G1.nx = G.nx:=by rw [hG1]; rfl
 obtain ⟨c2,o2,s2,a2,ts2,os2,n2⟩:=h.opens (by omega) ho' (by rw [hG2,hG1]:G2 = _)
 obtain ⟨⟨rv,G42⟩,e42,b,rfl,x42,⟨b0,b1⟩,s42⟩:=newsd_ok orc (MBn n) ((1:Nat):Int) k (G2.room 13)
 simp only at x42 b1 s42
 rw [newSd_n hn (by omega) ⟨by omega,by omega⟩] at s42
 have y42:Ext G2 G42:=((Ext.refl G2).room 13).trans x42
 have b0':G2.nx ≤ b:=Nat.le_trans (Nat.le_add_right _ _) b0
 have hs:=s42 (grown (grown own G 13) G2 (5 + c)) (5 + c)
 rw [grown_room] at hs
 obtain ⟨G45,hG45⟩:∃ G45,G45 = G42.put B.sb ⟨[if 0 = c then P0 b else pS B hx 0,if 1 = c then P0 b else pS B hx 1,if 2 = c then P0 b else pS B hx 2],1,false,1⟩:=⟨_,rfl⟩
 obtain ⟨c45,m45,ag45⟩:=c2.newS (by omega) y42 b0' b1 hs hG45
 have csb:=h.cr.cs.lt
 have os45:G45.obj G.nx = some ⟨rSp.row (pushS k),1,false,1⟩:=by
  rw [hG45,obj_put,if_neg (by omega),y42.obj _ (by omega)]; exact os2
 have s45:=s2.mt m45 (by decide) ag45
 have go:∀ τ',Ev8 τ' v1 v5 B.xb cv ob k → τ' 11 = P0 G.nx → Wp (jl8_0_1 true (exL Q orc) lp τ' G45) Post:=by
  intro τ' hE' t11
  refine J1_ok orc hE' hk2 s45 (by omega) t11 os45 fun cv' G' m' a' w'=>?_
  refine hnx _ G' { B with s:=upN B.s c b } { hx with sd:=upN hx.sd c (some (.go (.go 1 (rgN (bas n 1) n) k 0 0))) } cv' rfl ⟨c45.to m' a' (by decide),⟨h.hv.s,fun i hi p hp=>?_,h.hv.dn⟩,?_,w',(a2.mt m45 (by decide) ag45).mt m' (by decide) a',(ts2.mt m45 (by decide) ag45).mt m' (by decide) a'⟩
  ·by_cases e:i = c
   ·subst e
    simp [LM.begS,CM.begS,upN_same] at hp ⊢
    exact hp
   ·simp [LM.begS,CM.begS,upN_ne _ _ e] at hp ⊢
    exact h.hv.sd i hi p hp
  ·have:=(o2.to m45 (by decide) ag45).to m' (by decide) a'
   rw [ho'] at this
   exact this
 have hox:=c2.cx.obj
 have hos:=c2.cs.obj
 have hop:=h.op.obj
 have ox42:=(y42.obj _ c2.cx.lt).trans hox
 have os42:=(y42.obj _ c2.cs.lt).trans hos
 have hz:z29 = [.int .i64 0,.int .i64 0,.int .i64 0,.int .i64 0,.int .i64 0,.int .i64 0,.int .u64 0,.int .i64 0,.int .i64 0,.int .u64 0]:=rfl
 have hz2:z24 = [.int .i64 0,.int .i64 0,.int .i64 0,.int .u64 0]:=rfl
 have w2:IntKind.wrap .i64 (2 * (k:Int)) = 2 * (k:Int):=wrap64 (by omega) (by omega)
 have wu:IntKind.wrap .u64 (k:Int) = (k:Int):=by rw [wrap_u64]; omega
 have hk':¬ (L.length:Int) ≤ (k:Int):=by omega
 have hk'':¬ L.length ≤ k:=by omega
 have hl':¬ (6:Int) ≤ (y.calls.length:Int):=by omega
 have hl'':¬ 6 ≤ y.calls.length:=by omega
 have nxo:¬ B.xb = ob:=fun e=>by have q1:=h.cr.cx.tag; have q2:=h.op.tag; rw [e,q2] at q1; cases q1
 have ox1:G1.obj B.xb = some ⟨crX n hx B,1,false,1⟩:=by rw [hG1,obj_put,if_neg nxo]; exact h.cr.cx.obj
 have nxb:¬ B.xb = G.nx:=by have:=h.cr.cx.lt; omega
 simp only [MB.v,MB.cells,MBn] at e42
 simp only [crX] at hox ox42 ox1
 simp only [pushS,rSp_row] at hG2
 rw [hz] at hG2
 rcases (show c = 0 ∨ c = 1 by omega) with rfl | rfl
 all_goals
  simp [upN] at ho'
  simp at hG45 e42
  simp [-Int.natCast_add,jl8_0_3,jbl8_0_3,t1,t6,t7,t8,t9,t10,hop,ho,l1,lc,hk',hk'',hl',hl'',← ho',← hG1,w2,wu,hz,hz2,n1,nxb,ox1,← hG2,hox,e42,ox42,hos,os42,← hG45]
  refine go _ ⟨?_,?_,?_,?_,?_,?_⟩ ?_ <;> simp [clip_t,t5]
end
end Go.Proofs.YtlaojmcekeohnaaGreatDoor.Lift
set_option linter.unusedVariables false
set_option linter.unusedSimpArgs false
set_option linter.unnecessarySimpa false
set_option maxRecDepth 20000
namespace Go.Proofs.YtlaojmcekeohnaaGreatDoor.Lift
open Go Go.Proofs.YtlaojmcekeohnaaGreatDoor.Gh Go.Proofs
section
variable {own own' own1 own2:Nat → Nat} {G G' G1 G2:GS} {n c i K ob b k xb:Nat} {ts:List Nat} {x hx:CM} {y z:LM} {B B':CrB} {v cv v1 v5:Value} {L:List Int} {lp:LpT} {Post:Exit × Env × GS → Prop} {τ:Env}
theorem J3_begD (orc:FuncId → Bool) (h:MLh own G n y B hx ob cv v1 L) (hn:1 ≤ n ∧ n ≤ 4) (hE:Ev8 τ v1 v5 B.xb cv ob k) (t10:τ 10 = .int .i64 2) (ho:y.o 2 = -1) (hk:k < L.length) (hk2:k ≤ 1000) (hl:y.calls.length < 6) (hnx:NxtM lp n (y.begD n k) ob v1 v5 L B.xb (k + 1) Post) :
  Wp (jl8_0_3 true (exL Q orc) lp τ G) Post:=by
 obtain ⟨t1,t5,t6,t7,t8,t9⟩:=hE
 obtain ⟨va,vc,ev⟩:=h.arg.is.len
 have l1:ln Q true 35 v1 = some (.int .i64 L.length):=by rw [ev]; simp
 obtain ⟨ca,cc,ec⟩:=h.sp.ow.is.len
 have lc:ln Q true 38 cv = some (.int .i64 y.calls.length):=by rw [ec]; simp
 obtain ⟨o',ho'⟩:∃ o':List Value,o' = [.int .i64 (upN y.o 2 y.calls.length 0),.int .i64 (upN y.o 2 y.calls.length 1),.int .i64 (upN y.o 2 y.calls.length 2)]:=⟨_,rfl⟩
 obtain ⟨G1,hG1⟩:∃ G1,G1 = G.put ob ⟨o',1,false,1⟩:=⟨_,rfl⟩
 obtain ⟨G2,hG2⟩:∃ G2,G2 = (G1.push ⟨z29,1,false,1⟩).put G.nx ⟨rSp.row (pushS k),1,false,1⟩:=⟨_,rfl⟩
 have n1:G1.nx = G.nx:=by rw [hG1]; rfl
 obtain ⟨c2,o2,s2,a2,ts2,os2,n2⟩:=h.opens (by omega) ho' (by rw [hG2,hG1]:G2 = _)
 obtain ⟨⟨rv,G42⟩,e42,b,rfl,x42,⟨b0,b1⟩,s42⟩:=newdn_ok orc (MBn n) ((1:Nat):Int) 1 (G2.room 11)
 simp only at x42 b1 s42
 rw [newDn_n hn (by omega) (by omega)] at s42
 have y42:Ext G2 G42:=((Ext.refl G2).room 11).trans x42
 have b0':G2.nx ≤ b:=Nat.le_trans (Nat.le_add_right _ _) b0
 have hs:=s42 (grown (grown own G 13) G2 (8 + 1)) (8 + 1)
 rw [grown_room] at hs
 obtain ⟨G45,hG45⟩:∃ G45,G45 = G42.put B.db ⟨[pD B hx 0,P0 b],1,false,1⟩:=⟨_,rfl⟩
 obtain ⟨c45,m45,ag45⟩:=c2.newD (c:=1) (G2:=G45) (by omega) y42 b0' b1 hs (by rw [hG45]; simp)
 have cdb:=h.cr.cd.lt
 have os45:G45.obj G.nx = some ⟨rSp.row (pushS k),1,false,1⟩:=by
  rw [hG45,obj_put,if_neg (by omega),y42.obj _ (by omega)]; exact os2
 obtain ⟨G58,hG58⟩:∃ G58,G58 = G45.put G.nx ⟨rSp.row (frontS k),1,false,1⟩:=⟨_,rfl⟩
 have t13:grown (grown own G 13) G2 (8 + 1) G.nx = 13:=by rw [ag45 _ (by omega)]; exact grown_new (Nat.le_refl _)
 have m58:ModT [13] (grown (grown own G 13) G2 (8 + 1)) G45 G58:=by rw [hG58]; exact ModT.put (ModT.refl _ _ _) (.inl (by rw [t13]; decide)) _
 have a58:=Agr.refl (grown (grown own G 13) G2 (8 + 1)) G45
 have s58:=(s2.mt m45 (by decide) ag45).mt m58 (by decide) a58
 have os58:G58.obj G.nx = some ⟨rSp.row (frontS k),1,false,1⟩:=by rw [hG58]; simp
 have go:∀ τ',Ev8 τ' v1 v5 B.xb cv ob k → τ' 11 = P0 G.nx → Wp (jl8_0_1 true (exL Q orc) lp τ' G58) Post:=by
  intro τ' hE' t11
  refine J1_ok orc hE' hk2 s58 (by omega) t11 os58 fun cv' G' m' a' w'=>?_
  refine hnx _ G' { B with d:=upN B.d 1 b } { hx with dn:=upN hx.dn 1 (some (.fr (rgN (bas n 1) n) 1 [] (.go 1 (rgN (bas n 1) n) 0))) } cv' rfl ⟨(c45.to m58 a58 (by decide)).to m' a' (by decide),⟨h.hv.s,h.hv.sd,fun d hd=>?_⟩,?_,w',((a2.mt m45 (by decide) ag45).mt m58 (by decide) a58).mt m' (by decide) a',((ts2.mt m45 (by decide) ag45).mt m58 (by decide) a58).mt m' (by decide) a'⟩
  ·simp [LM.begD,CM.begD,upN_same] at hd ⊢
   exact hd
  ·have:=((o2.to m45 (by decide) ag45).to m58 (by decide) a58).to m' (by decide) a'
   rw [ho'] at this
   exact this
 have hox:=c2.cx.obj
 have hos:=c2.cd.obj
 have hop:=h.op.obj
 have ox42:=(y42.obj _ c2.cx.lt).trans hox
 have os42:=(y42.obj _ c2.cd.lt).trans hos
 have hz:z29 = [.int .i64 0,.int .i64 0,.int .i64 0,.int .i64 0,.int .i64 0,.int .i64 0,.int .u64 0,.int .i64 0,.int .i64 0,.int .u64 0]:=rfl
 have hz2:z24 = [.int .i64 0,.int .i64 0,.int .i64 0,.int .u64 0]:=rfl
 have w2:IntKind.wrap .i64 (2 * (k:Int)) = 2 * (k:Int):=wrap64 (by omega) (by omega)
 have wu:IntKind.wrap .u64 (k:Int) = (k:Int):=by rw [wrap_u64]; omega
 have hk':¬ (L.length:Int) ≤ (k:Int):=by omega
 have hk'':¬ L.length ≤ k:=by omega
 have hl':¬ (6:Int) ≤ (y.calls.length:Int):=by omega
 have hl'':¬ 6 ≤ y.calls.length:=by omega
 have nxo:¬ B.xb = ob:=fun e=>by have q1:=h.cr.cx.tag; have q2:=h.op.tag; rw [e,q2] at q1; cases q1
 have ox1:G1.obj B.xb = some ⟨crX n hx B,1,false,1⟩:=by rw [hG1,obj_put,if_neg nxo]; exact h.cr.cx.obj
 have nxb:¬ B.xb = G.nx:=by have:=h.cr.cx.lt; omega
 simp only [MB.v,MB.cells,MBn] at e42
 simp only [crX] at hox ox42 ox1
 simp only [pushS,rSp_row] at hG2 os45
 simp only [frontS,rSp_row] at hG58
 rw [hz] at hG2
 simp [upN] at ho'
 simp at e42
 simp [-Int.natCast_add,jl8_0_3,jbl8_0_3,t1,t6,t7,t8,t9,t10,hop,ho,l1,lc,hk',hk'',hl',hl'',← ho',← hG1,w2,wu,hz,hz2,n1,nxb,ox1,← hG2,hox,e42,ox42,hos,os42,← hG45,os45,← hG58]
 refine go _ ⟨?_,?_,?_,?_,?_,?_⟩ ?_ <;> simp [clip_t,t5]
end
end Go.Proofs.YtlaojmcekeohnaaGreatDoor.Lift
set_option linter.unusedVariables false
set_option linter.unusedSimpArgs false
set_option linter.unnecessarySimpa false
set_option maxRecDepth 20000
namespace Go.Proofs.YtlaojmcekeohnaaGreatDoor.Lift
open Go Go.Proofs.YtlaojmcekeohnaaGreatDoor.Gh Go.Proofs
section
variable {own own' own1 own2:Nat → Nat} {G G' G1 G2:GS} {n c i j K ob b k xb:Nat} {ts:List Nat} {x hx:CM} {y z:LM} {B B':CrB} {v cv v1 v5:Value} {L:List Int} {lp:LpT} {Post:Exit × Env × GS → Prop} {τ:Env}
theorem Spn.cells {l:List Sp} (h:Spn own G cv l) (hl:0 < l.length):∃ cb op,cv = .slice (some ⟨cb,0,none⟩) l.length l.length ∧ cb < G.nx ∧ own cb = 31 ∧ G.obj cb = some ⟨rSp.flat l,10,op,1⟩:=by
 rcases h.ow.2 with ⟨_,h0⟩ | ⟨cb,op,e,_,h1,h2⟩
 ·omega
 ·exact ⟨cb,op,e,h1,h.tag cb ⟨_,_,_,e,rfl⟩,h2⟩
theorem Spn.put {l l':List Sp} (h:Spn own G (.slice (some ⟨b,0,none⟩) l.length l.length) l) {op:Bool} (hl:l'.length = l.length) (hn:G.nx ≤ G'.nx) (ho:G'.obj b = some ⟨rSp.flat l',10,op,1⟩) (hb:b < G.nx) (a:Agr own own' G):Spn own' G' (.slice (some ⟨b,0,none⟩) l.length l.length) l' :=
 ⟨⟨by rw [rSp.flat_length],.inr ⟨b,op,by rw [hl],Nat.zero_le _,Nat.lt_of_lt_of_le hb hn,ho⟩⟩,fun g hg=>by
  obtain ⟨a',n',c',h1,rfl⟩:=hg
  cases h1
  exact (a b hb).trans (h.tag b ⟨_,_,_,rfl,rfl⟩)⟩
theorem tell_cells (l:List Sp) (hj:j < l.length) (t:Int) (a:An3):(rSp.flat l).set (j * 10 + 2) (.int .i64 t) = rSp.flat (l.set j { sp l j with to:=t }) ∧ overw (rSp.flat (l.set j { sp l j with to:=t })) (j * 10 + 7) [.int .i64 a.1,.int .i64 a.2.1,.int .u64 a.2.2] = rSp.flat (l.set j { sp l j with to:=t,an:=a }) ∧ j * 10 + 2 < (rSp.flat l).length ∧ j * 10 + 7 + 3 ≤ (rSp.flat (l.set j { sp l j with to:=t })).length:=by
 have hfl:=rSp.flat_length l
 have hsp:sp l j = l[j]:=by unfold sp; simp [List.getD,List.getElem?_eq_getElem hj]
 simp only [rSp_sz] at hfl
 refine ⟨?_,?_,by omega,by rw [rSp.flat_length]; simp; omega⟩
 ·rw [set_overw _ _ _ (by omega)]
  exact RowE.flat_part rSp l hj _ (f:=2) (by rw [hsp]; rfl) (by simp)
 ·have:=RowE.flat_part rSp (l.set j { sp l j with to:=t }) (i:=j) (by simpa using hj) { sp l j with to:=t,an:=a } (f:=7) (ds:=[.int .i64 a.1,.int .i64 a.2.1,.int .u64 a.2.2]) (by simp) (by simp)
  rw [List.set_set] at this
  exact this
theorem J2n_ok (orc:FuncId → Bool) (hE:Ev8 τ v1 v5 xb cv ob k) (t10:τ 10 = .int .i64 c) (hc:c < 2) (hk:k ≤ 1000) (hgo:Nxt lp (G.room 15) v1 v5 xb cv ob (k + 1) Post):Wp (jl8_0_2 true (exL Q orc) lp τ G) Post:=by
 obtain ⟨t1,t5,t6,t7,t8,t9⟩:=hE
 have h2:¬ (c:Int) = 2:=by omega
 have h2':¬ c = 2:=by omega
 simp [-Int.natCast_add,jl8_0_2,jbl8_0_2,t1,t6,t7,t8,t9,t10,h2,h2']
 refine J0_ok orc ⟨?_,?_,?_,?_,?_,?_⟩ hk hgo <;> simp [clip_t,t5]
theorem J3_stepS (orc:FuncId → Bool) (h:MLh own G n y B hx ob cv v1 L) (hn:1 ≤ n ∧ n ≤ 4) (hsk:y.x.s.ok) (hE:Ev8 τ v1 v5 B.xb cv ob k) (t10:τ 10 = .int .i64 c) (hc:c < 2) (ho:y.o c = (j:Int)) (hj:j < y.calls.length) (hjl:y.calls.length ≤ 100) (hk2:k ≤ 1000) {p:PuS} (hp:y.x.sd c = some (.go p)) (hpo:SdS.ok (.go p)) (hnx:NxtM lp n (y.stepS n k c j p) ob v1 v5 L B.xb (k + 1) Post) :
  Wp (jl8_0_3 true (exL Q orc) lp τ G) Post:=by
 obtain ⟨t1,t5,t6,t7,t8,t9⟩:=hE
 have hp':=h.hv.sd c hc _ hp
 have hs':=h.hv.s
 have h16:=h.ext ((Ext.refl G).room 16)
 obtain ⟨hat,hsp⟩:=h16.cr.sd c (by omega) _ hp'
 obtain ⟨own1,G1,e1,w1,s1⟩:=sdstep_ok orc h16.cr.hm (by rw [hs']; exact hsk) hpo (by omega) hat hsp
 rw [hs'] at e1 w1 s1
 obtain ⟨d',hd'⟩:∃ d',d' = SdS.after (p.step y.x.s).1:=⟨_,rfl⟩
 have hst:(SdS.step (.go p) y.x.s) = (d',(p.step y.x.s).2):=by rw [hd']; rfl
 rw [hst] at e1 w1 s1
 simp only at e1 w1 s1
 obtain ⟨c1,m1⟩:=h16.cr.runS (by omega) hp' w1 s1
 have a1:=w1.stp.agr
 have hdov:d'.over = (p.step y.x.s).1.over:=by rw [hd']; unfold SdS.after; split <;> simp_all [SdS.over]
 have hderr:d'.over = true → d'.err = (p.step y.x.s).1.err:=fun k=>by rw [hd']; rw [hdov] at k; unfold SdS.after; rw [if_pos k]; rfl
 have no:∀ {t},t ∈ [20,30,31] → t ∉ [10,5 + c]:=fun {t} h1=>by simp at h1 ⊢; omega
 have o1:=h16.op.to m1 (no (by decide)) a1
 have sp1:=h16.sp.mt m1 (no (by decide)) a1
 have ar1:=h16.arg.mt m1 (no (by decide)) a1
 have ts1:=h16.ts.mt m1 (no (by decide)) a1
 obtain ⟨cb,op,ecv,hcb,tcb,ocb⟩:=sp1.cells (by omega)
 have hxs:HV (y.stepS n k c j p).x { hx with s:=(p.step y.x.s).2,sd:=upN hx.sd c (some d') }:=by
  refine ⟨rfl,fun i hi q hq=>?_,h.hv.dn⟩
  by_cases e:i = c
  ·subst e
   simp only [LM.stepS,CM.stepS,upN_same] at hq ⊢
   by_cases hov:(p.step y.x.s).1.over = true
   ·rw [if_pos hov] at hq; cases hq
   ·rw [if_neg hov] at hq
    rw [← hq,hd']; unfold SdS.after; rw [if_neg hov]
  ·simp only [LM.stepS,CM.stepS,upN_ne _ _ e] at hq ⊢
   exact h.hv.sd i hi q hq
 have hop:=h.op.obj
 have hox:=h.cr.cx.obj
 have hos:=h.cr.cs.obj
 have ox1:=c1.cx.obj
 have os1:=c1.cs.obj
 have hpi:pS B hx c = P0 (B.s c):=by unfold pS; rw [hp']
 have hpi1:pS B { hx with s:=(p.step y.x.s).2,sd:=upN hx.sd c (some d') } c = P0 (B.s c):=by unfold pS; simp [upN_same]
 simp only [crX] at hox ox1
 have hj0:(0:Int) ≤ (j:Int):=by omega
 have hj1:(j:Int) < (y.calls.length:Int):=by omega
 have ho0:¬ (j:Int) < 0:=by omega
 have w2:IntKind.wrap .i64 (2 * (k:Int)) = 2 * (k:Int):=wrap64 (by omega) (by omega)
 have w3:IntKind.wrap .i64 (2 * (k:Int) + 1) = 2 * (k:Int) + 1:=wrap64 (by omega) (by omega)
 have hz:z27 = [.int .i64 0,.int .i64 0,.int .u64 0]:=rfl
 by_cases hov:(p.step y.x.s).1.over = true
 ·have hdo:d'.over = true:=hdov.trans hov
  have her:=hderr hdo
  have eer:=sderr_ok orc (c1.sd c (by omega) d' (upN_same _ _ _)).2
  rw [her] at eer
  obtain ⟨q1,q2,q3,q4⟩:=tell_cells (j:=j) y.calls hj (2 * k + 1) ((p.step y.x.s).1.err,0,0)
  obtain ⟨o',ho'⟩:∃ o':List Value,o' = [.int .i64 (upN y.o c (-1) 0),.int .i64 (upN y.o c (-1) 1),.int .i64 (upN y.o c (-1) 2)]:=⟨_,rfl⟩
  obtain ⟨l1,hl1⟩:∃ l1,l1 = y.calls.set j { sp y.calls j with to:=2 * (k:Int) + 1 }:=⟨_,rfl⟩
  obtain ⟨l2,hl2⟩:∃ l2,l2 = y.calls.set j { sp y.calls j with to:=2 * (k:Int) + 1,an:=((p.step y.x.s).1.err,0,0) }:=⟨_,rfl⟩
  rw [← hl1] at q1 q2 q4
  rw [← hl2] at q2
  obtain ⟨G2,hG2⟩:∃ G2,G2 = G1.put cb ⟨rSp.flat l1,10,op,1⟩:=⟨_,rfl⟩
  obtain ⟨G3,hG3⟩:∃ G3,G3 = G2.put cb ⟨rSp.flat l2,10,op,1⟩:=⟨_,rfl⟩
  obtain ⟨G4,hG4⟩:∃ G4,G4 = G3.put ob ⟨o',1,false,1⟩:=⟨_,rfl⟩
  have m4:ModT [30,31] own1 G1 G4:=by
   rw [hG4,hG3,hG2]
   exact ModT.put (ModT.put (ModT.put (ModT.refl _ _ _) (.inl (by rw [tcb]; decide)) _) (.inl (by rw [tcb]; decide)) _) (.inl (by rw [o1.tag]; decide)) _
  have a4:=Agr.refl own1 G1
  have nob:¬ cb = ob:=fun e=>by rw [e,o1.tag] at tcb; cases tcb
  have oc4:G4.obj cb = some ⟨rSp.flat l2,10,op,1⟩:=by rw [hG4,obj_put,if_neg nob,hG3]; simp
  have hcalls:(y.stepS n k c j p).calls = l2:=by simp only [LM.stepS]; rw [if_pos hov,hl2]; rfl
  have hoo:(y.stepS n k c j p).o = upN y.o c (-1):=by simp only [LM.stepS]; rw [if_pos hov]
  rw [ecv] at sp1
  have fin:MLh own1 G4 n (y.stepS n k c j p) B { hx with s:=(p.step y.x.s).2,sd:=upN hx.sd c (some d') } ob cv v1 L:=⟨c1.to m4 a4 (by decide),hxs,⟨Nat.lt_of_lt_of_le o1.lt m4.nx,o1.tag,by rw [hoo,hG4,ho']; simp⟩,by rw [hcalls,ecv]; exact sp1.put (by rw [hl2]; simp) m4.nx oc4 hcb a4,ar1.mt m4 (by decide) a4,ts1.mt m4 (by decide) a4⟩
  have go:∀ τ',Ev8 τ' v1 v5 B.xb cv ob k → τ' 10 = .int .i64 c → Wp (jl8_0_2 true (exL Q orc) lp τ' G4) Post:=fun τ' hE' t=>J2n_ok orc hE' t hc hk2 (hnx own1 (G4.room 15) B _ cv rfl (fin.ext ((Ext.refl G4).room 15)))
  have oo2:G3.obj ob = some ⟨[.int .i64 (y.o 0),.int .i64 (y.o 1),.int .i64 (y.o 2)],1,false,1⟩:=by rw [hG3,hG2]; simp [show ¬ ob = cb from fun e=>nob e.symm,o1.obj]
  have oc2:G2.obj cb = some ⟨rSp.flat l1,10,op,1⟩:=by rw [hG2]; simp
  rw [hdo] at e1
  clear fin hxs
  have t8':=t8
  rcases (show c = 0 ∨ c = 1 by omega) with rfl | rfl
  all_goals
   simp [upN] at ho'
   simp at t10 hpi1
   simp [-Int.natCast_add,-overw_s,jl8_0_3,jbl8_0_3,t1,t6,t7,t8,t9,t10,hop,ho,ho0,hox,hos,hpi,e1,ox1,os1,hpi1,eer,w2,w3,ecv,hj0,hj1,hj,ocb,q1,q2,q3,q4,hz,← hG2,oc2,← hG3,oo2,← ho',← hG4]
   refine go _ ⟨?_,?_,?_,?_,?_,?_⟩ ?_ <;> simp [clip_t,t5,ecv]
 ·have hdo:d'.over = false:=by rw [hdov]; simpa using hov
  have hcalls:(y.stepS n k c j p).calls = y.calls:=by simp only [LM.stepS]; rw [if_neg hov]
  have hoo:(y.stepS n k c j p).o = y.o:=by simp only [LM.stepS]; rw [if_neg hov]
  have fin:MLh own1 G1 n (y.stepS n k c j p) B { hx with s:=(p.step y.x.s).2,sd:=upN hx.sd c (some d') } ob cv v1 L:=⟨c1,hxs,by rw [hoo]; exact o1,by rw [hcalls]; exact sp1,ar1,ts1⟩
  have go:∀ τ',Ev8 τ' v1 v5 B.xb cv ob k → τ' 10 = .int .i64 c → Wp (jl8_0_2 true (exL Q orc) lp τ' G1) Post:=fun τ' hE' t=>J2n_ok orc hE' t hc hk2 (hnx own1 (G1.room 15) B _ cv rfl (fin.ext ((Ext.refl G1).room 15)))
  rw [hdo] at e1
  clear fin hxs
  rcases (show c = 0 ∨ c = 1 by omega) with rfl | rfl
  all_goals
   simp at t10 hpi1
   simp [-Int.natCast_add,-overw_s,jl8_0_3,jbl8_0_3,t1,t6,t7,t8,t9,t10,hop,ho,ho0,hox,hos,hpi,e1,ecv,hj0,hj1,hj]
   refine go _ ⟨?_,?_,?_,?_,?_,?_⟩ ?_ <;> simp [clip_t,t5,ecv]
end
end Go.Proofs.YtlaojmcekeohnaaGreatDoor.Lift
set_option linter.unusedVariables false
set_option linter.unusedSimpArgs false
set_option linter.unnecessarySimpa false
set_option maxRecDepth 20000
namespace Go.Proofs.YtlaojmcekeohnaaGreatDoor.Lift
open Go Go.Proofs.YtlaojmcekeohnaaGreatDoor.Gh Go.Proofs
section
variable {own own' own1 own2:Nat → Nat} {G G' G1 G2:GS} {n c i j K ob b k xb:Nat} {ts:List Nat} {x hx:CM} {y z:LM} {B B':CrB} {v cv v1 v5:Value} {L:List Int} {lp:LpT} {Post:Exit × Env × GS → Prop} {τ:Env}
theorem J3_D (orc:FuncId → Bool) (h:MLh own G n y B hx ob cv v1 L) (hE:Ev8 τ v1 v5 B.xb cv ob k) (t10:τ 10 = .int .i64 2) (ho:y.o 2 = (j:Int)) (hj:j < y.calls.length) {cb:Nat} (ecv:cv = .slice (some ⟨cb,0,none⟩) y.calls.length y.calls.length)
  (go:∀ τ',Ev8 τ' v1 v5 B.xb cv ob k → τ' 10 = .int .i64 2 → τ' 12 = .pointer (some ⟨cb,j * 10,none⟩) → Wp (jl8_0_2 true (exL Q orc) lp τ' (G.room 16)) Post) :
  Wp (jl8_0_3 true (exL Q orc) lp τ G) Post:=by
 obtain ⟨t1,t5,t6,t7,t8,t9⟩:=hE
 have hop:=h.op.obj
 have hj0:(0:Int) ≤ (j:Int):=by omega
 have hj1:(j:Int) < (y.calls.length:Int):=by omega
 have ho0:¬ (j:Int) < 0:=by omega
 simp [-Int.natCast_add,-overw_s,jl8_0_3,jbl8_0_3,t1,t6,t7,t8,t9,t10,hop,ho,ho0,ecv,hj0,hj1,hj]
 refine go _ ⟨?_,?_,?_,?_,?_,?_⟩ ?_ ?_ <;> simp [clip_t,t5,ecv]
theorem tell_none (l:List Sp) (hj:j < l.length) (t:Int) (han:(sp l j).an = (0,0,0)):(rSp.flat (l.set j { sp l j with to:=t })).set (j * 10 + 7) (.int .i64 15) = rSp.flat (l.set j { sp l j with to:=t,an:=(15,0,0) }) ∧ j * 10 + 7 < (rSp.flat (l.set j { sp l j with to:=t })).length:=by
 have hlt:j * 10 + 10 ≤ (rSp.flat (l.set j { sp l j with to:=t })).length:=by
  rw [rSp.flat_length,List.length_set,rSp_sz]; omega
 refine ⟨?_,by omega⟩
 rw [set_overw _ _ _ (by omega)]
 have:=RowE.flat_part rSp (l.set j { sp l j with to:=t }) (i:=j) (by simpa using hj) { sp l j with to:=t,an:=(15,0,0) } (f:=7) (ds:=[.int .i64 15]) (by simp [han]) (by simp)
 rw [List.set_set] at this
 exact this
theorem tell_took (l:List Sp) (hj:j < l.length) (t w:Int) (han:(sp l j).an = (0,0,0)):(rSp.flat (l.set j { sp l j with to:=t })).set (j * 10 + 9) (.int .u64 w) = rSp.flat (l.set j { sp l j with to:=t,an:=(0,0,w) }) ∧ j * 10 + 9 < (rSp.flat (l.set j { sp l j with to:=t })).length:=by
 have hlt:j * 10 + 10 ≤ (rSp.flat (l.set j { sp l j with to:=t })).length:=by
  rw [rSp.flat_length,List.length_set,rSp_sz]; omega
 refine ⟨?_,by omega⟩
 rw [set_overw _ _ _ (by omega)]
 have:=RowE.flat_part rSp (l.set j { sp l j with to:=t }) (i:=j) (by simpa using hj) { sp l j with to:=t,an:=(0,0,w) } (f:=9) (ds:=[.int .u64 w]) (by simp [han]) (by simp)
 rw [List.set_set] at this
 exact this
theorem span_at (l:List Sp) (hj:j < l.length):(rSp.flat l)[j * 10 + 1]? = some (.int .i64 (sp l j).fr) ∧ (rSp.flat l)[j * 10 + 2]? = some (.int .i64 (sp l j).to):=by
 have hsp:sp l j = l[j]:=by unfold sp; simp [List.getD,List.getElem?_eq_getElem hj]
 rw [hsp]
 exact ⟨rSp.flat_at l hj (f:=1) (by decide),rSp.flat_at l hj (f:=2) (by decide)⟩
end
end Go.Proofs.YtlaojmcekeohnaaGreatDoor.Lift
set_option linter.unusedVariables false
set_option linter.unusedSimpArgs false
set_option linter.unnecessarySimpa false
set_option maxRecDepth 20000
namespace Go.Proofs.YtlaojmcekeohnaaGreatDoor.Lift
open Go Go.Proofs.YtlaojmcekeohnaaGreatDoor.Gh Go.Proofs
section
variable {own own' own1 own2:Nat → Nat} {G G' G1 G2:GS} {n c i j K ob b k xb:Nat} {ts:List Nat} {x hx:CM} {y z:LM} {B B':CrB} {v cv v1 v5:Value} {L:List Int} {lp:LpT} {Post:Exit × Env × GS → Prop} {τ:Env}
set_option maxHeartbeats 1000000 in
theorem J2_stepD (orc:FuncId → Bool) (h:MLh own G n y B hx ob cv v1 L) (hsk:y.x.s.ok) (hE:Ev8 τ v1 v5 B.xb cv ob k) (t10:τ 10 = .int .i64 2) {cb:Nat} (ecv:cv = .slice (some ⟨cb,0,none⟩) y.calls.length y.calls.length) (t12:τ 12 = .pointer (some ⟨cb,j * 10,none⟩)) (ho:y.o 2 = (j:Int)) (hj:j < y.calls.length) (hjl:y.calls.length ≤ 100) (hk2:k ≤ 1000) (han:(sp y.calls j).an = (0,0,0)) {d:DnS} (hd:y.x.dn 1 = some d) (hdo:d.ok K) (hK:K ≤ 1000) (hE0:(d.step y.x.s).1.over = true → (d.step y.x.s).1.err = 0 ∧ ((d.step y.x.s).1.vals = [] ∨ ∃ w,(d.step y.x.s).1.vals = [w] ∧ 0 ≤ w ∧ w < 18446744073709551616)) (hnx:NxtM lp n (y.stepD n k j d) ob v1 v5 L B.xb (k + 1) Post) :
  Wp (jl8_0_2 true (exL Q orc) lp τ G) Post:=by
 obtain ⟨t1,t5,t6,t7,t8,t9⟩:=hE
 have hp':=h.hv.dn _ hd
 have hs':=h.hv.s
 have h16:=h.ext ((Ext.refl G).room 15)
 obtain ⟨hat,hsp⟩:=h16.cr.dn 1 (by omega) _ hp'
 obtain ⟨own1,G1,e1,w1,s1⟩:=dnstep_ok orc h16.cr.hm (by rw [hs']; exact hsk) hdo (by omega) (by omega) hat hsp
 rw [hs'] at e1 w1 s1
 obtain ⟨d',hd'⟩:∃ d',d' = (d.step y.x.s).1:=⟨_,rfl⟩
 have hstok:=hdo.step hsk
 rw [← hd'] at e1 s1 hE0 hstok
 obtain ⟨c1,m1⟩:=h16.cr.runD (c:=1) (by omega) hp' w1 s1
 have a1:=w1.stp.agr
 have no:∀ {t},t ∈ [20,30,31] → t ∉ [10,8 + 1]:=fun {t} h1=>by simp at h1 ⊢; omega
 have o1:=h16.op.to m1 (no (by decide)) a1
 have sp1:=h16.sp.mt m1 (no (by decide)) a1
 have ar1:=h16.arg.mt m1 (no (by decide)) a1
 have ts1:=h16.ts.mt m1 (no (by decide)) a1
 rw [ecv] at sp1
 obtain ⟨cb',op,ecv',hcb,tcb,ocb⟩:=sp1.cells (by omega)
 obtain rfl:cb' = cb:=by cases ecv'; rfl
 have hxs:HV (y.stepD n k j d).x { hx with s:=(d.step y.x.s).2,dn:=upN hx.dn 1 (some d') }:=by
  refine ⟨rfl,h.hv.sd,fun q hq=>?_⟩
  simp only [LM.stepD,CM.stepD,upN_same] at hq ⊢
  by_cases hov:(d.step y.x.s).1.over = true
  ·rw [if_pos hov] at hq; cases hq
  ·rw [if_neg hov] at hq
   rw [hd']; exact hq
 have hox:=h.cr.cx.obj
 have hos:=h.cr.cd.obj
 have ox1:=c1.cx.obj
 have os1:=c1.cd.obj
 have hpi:pD B hx 1 = P0 (B.d 1):=by unfold pD; rw [hp']
 have hpi1:pD B { hx with s:=(d.step y.x.s).2,dn:=upN hx.dn 1 (some d') } 1 = P0 (B.d 1):=by unfold pD; simp [upN_same]
 simp only [crX] at hox ox1
 have w2:IntKind.wrap .i64 (2 * (k:Int)) = 2 * (k:Int):=wrap64 (by omega) (by omega)
 have w3:IntKind.wrap .i64 (2 * (k:Int) + 1) = 2 * (k:Int) + 1:=wrap64 (by omega) (by omega)
 by_cases hov:d'.over = true
 ·obtain ⟨her,hvs⟩:=hE0 hov
  obtain ⟨lv,G82,e82,x82,o82⟩:=dnvals_ok orc hstok.1 (by omega) (c1.dn 1 (by omega) d' (by simp [upN_same])).2
  rw [her] at e82
  have c82:=c1.extO x82
  have m82:ModT [] own1 G1 G82:=ModT.ext x82
  have ar:=Agr.refl own1 G1
  obtain ⟨o',ho'⟩:∃ o':List Value,o' = [.int .i64 (upN y.o 2 (-1) 0),.int .i64 (upN y.o 2 (-1) 1),.int .i64 (upN y.o 2 (-1) 2)]:=⟨_,rfl⟩
  obtain ⟨q1,_,q3,_⟩:=tell_cells (j:=j) y.calls hj (2 * k + 1) (0,0,0)
  obtain ⟨l1,hl1⟩:∃ l1,l1 = y.calls.set j { sp y.calls j with to:=2 * (k:Int) + 1 }:=⟨_,rfl⟩
  rw [← hl1] at q1
  obtain ⟨G89,hG89⟩:∃ G89,G89 = G82.put cb' ⟨rSp.flat l1,10,op,1⟩:=⟨_,rfl⟩
  obtain ⟨G91,hG91⟩:∃ G91,G91 = G89.put ob ⟨o',1,false,1⟩:=⟨_,rfl⟩
  have m91:ModT [30,31] own1 G1 G91:=by
   rw [hG91,hG89]
   exact ModT.put (ModT.put (ModT.ext x82) (.inl (by rw [tcb]; decide)) _) (.inl (by rw [o1.tag]; decide)) _
  have nob:¬ cb' = ob:=fun e=>by rw [e,o1.tag] at tcb; cases tcb
  have nob':¬ ob = cb':=fun e=>nob e.symm
  have oc82:=(x82.obj _ hcb).trans ocb
  have oo82:=(x82.obj _ o1.lt).trans o1.obj
  have oo89:G89.obj ob = some ⟨[.int .i64 (y.o 0),.int .i64 (y.o 1),.int .i64 (y.o 2)],1,false,1⟩:=by rw [hG89,obj_put,if_neg nob']; exact oo82
  have oc91:G91.obj cb' = some ⟨rSp.flat l1,10,op,1⟩:=by rw [hG91,obj_put,if_neg nob,hG89]; simp
  have oo91:G91.obj ob = some ⟨o',1,false,1⟩:=by rw [hG91]; simp
  have n91:G91.nx = G82.nx:=by rw [hG91,hG89]; rfl
  have hoo:(y.stepD n k j d).o = upN y.o 2 (-1):=by simp only [LM.stepD]; rw [if_pos (by rw [← hd']; exact hov)]
  simp [upN] at ho'
  rcases hvs with hv0 | ⟨w,hv1,hw0,hw1⟩
  ·-- nothing was there
   rw [hv0] at o82
   obtain ⟨r1,r2⟩:=tell_none (j:=j) y.calls hj (2 * k + 1) han
   obtain ⟨l2,hl2⟩:∃ l2,l2 = y.calls.set j { sp y.calls j with to:=2 * (k:Int) + 1,an:=(15,0,0) }:=⟨_,rfl⟩
   rw [← hl1] at r1 r2
   rw [← hl2] at r1
   obtain ⟨G105,hG105⟩:∃ G105,G105 = G91.put cb' ⟨rSp.flat l2,10,op,1⟩:=⟨_,rfl⟩
   have m105:ModT [30,31] own1 G1 G105:=by rw [hG105]; exact ModT.put m91 (.inl (by rw [tcb]; decide)) _
   have oc105:G105.obj cb' = some ⟨rSp.flat l2,10,op,1⟩:=by rw [hG105]; simp
   have hcalls:(y.stepD n k j d).calls = l2:=by simp only [LM.stepD]; rw [if_pos (by rw [← hd']; exact hov),← hd',hv0,hl2]; rfl
   have fin:MLh own1 G105 n (y.stepD n k j d) B { hx with s:=(d.step y.x.s).2,dn:=upN hx.dn 1 (some d') } ob cv v1 L:=⟨c1.to m105 ar (by decide),hxs,⟨Nat.lt_of_lt_of_le o1.lt m105.nx,o1.tag,by rw [hoo,hG105,obj_put,if_neg nob',oo91,ho']; simp [upN]⟩,by rw [hcalls,ecv]; exact sp1.put (by rw [hl2]; simp) m105.nx oc105 hcb ar,ar1.mt m105 (by decide) ar,ts1.mt m105 (by decide) ar⟩
   have go:∀ τ',Ev8 τ' v1 v5 B.xb cv ob k → Wp (jl8_0_0 true (exL Q orc) lp τ' G105) Post:=fun τ' hE'=>J0_ok orc hE' hk2 (hnx own1 G105 B _ cv rfl fin)
   obtain ⟨la,lc,elv⟩:=o82.is.len
   have ll:∀ t,ln Q true t lv = some (.int .i64 0):=fun t=>by rw [elv]; simp
   rw [hov] at e1
   clear fin hxs
   simp [-Int.natCast_add,-overw_s,jl8_0_2,jbl8_0_2,t1,t6,t7,t8,t9,t10,t12,hox,hos,hpi,e1,ox1,os1,hpi1,e82,pExtract,getN_zero,getN_succ,w2,w3,oc82,q1,q3,← hG89,oo89,← ho',← hG91,ll,oc91,r1,r2,← hG105]
   refine go _ ⟨?_,?_,?_,?_,?_,?_⟩ <;> simp [clip_t,t5]
  ·-- it took one
   rw [hv1] at o82
   obtain ⟨r1,r2⟩:=tell_took (j:=j) y.calls hj (2 * k + 1) w han
   obtain ⟨l2,hl2⟩:∃ l2,l2 = y.calls.set j { sp y.calls j with to:=2 * (k:Int) + 1,an:=(0,0,w) }:=⟨_,rfl⟩
   rw [← hl1] at r1 r2
   rw [← hl2] at r1
   have lb:∀ g,InB lv g → G91.obj g = G82.obj g:=fun g hg=>by
    have q:=o82.from hg
    have q2:=o1.lt
    rw [hG91,obj_put,if_neg (by omega),hG89,obj_put,if_neg (by omega)]
   have o91:=o82.is.kept (by rw [n91]; exact Nat.le_refl _) lb
   obtain ⟨lb0,lo,lcc,elv,_,lq,_⟩:=o91.at (i:=0) (by simp)
   have lq0:=lq 0 (by decide)
   simp at lq0
   have ll:∀ t,ln Q true t lv = some (.int .i64 1):=fun t=>by rw [elv]; simp
   have wu:IntKind.wrap .u64 w = w:=by rw [wrap_u64]; omega
   obtain ⟨G112,hG112⟩:∃ G112,G112 = G91.put cb' ⟨rSp.flat l2,10,op,1⟩:=⟨_,rfl⟩
   obtain ⟨R,hR⟩:∃ R,R = G112.room 17:=⟨_,rfl⟩
   have nR:R.nx = G112.nx + 17:=by rw [hR]; rfl
   obtain ⟨G124,hG124⟩:∃ G124,G124 = ((R.at' (G112.nx + 14)).push ⟨rSp.row (dropS (sp y.calls j) k),10,false,1⟩).back R:=⟨_,rfl⟩
   have x124:Ext G112 G124:=by rw [hG124,hR]; exact Ext.drawnO ((Ext.refl G112).room 17) (by omega) _
   have m112:ModT [30,31] own1 G1 G112:=by rw [hG112]; exact ModT.put m91 (.inl (by rw [tcb]; decide)) _
   have m124:ModT [30,31] own1 G1 G124:=m112.trans ar (ModT.ext x124)
   have oc112:G112.obj cb' = some ⟨rSp.flat l2,10,op,1⟩:=by rw [hG112]; simp
   have oc124:G124.obj cb' = some ⟨rSp.flat l2,10,op,1⟩:=(x124.obj _ (Nat.lt_of_lt_of_le hcb m112.nx)).trans oc112
   have sl:SlR rSp G124 (.slice (some ⟨G112.nx + 14,0,none⟩) 1 1) [dropS (sp y.calls j) k]:=by rw [hG124]; exact SlR.oneD rSp R _ (by omega)
   have ll2:l2.length = y.calls.length:=by rw [hl2]; simp
   have sp124:Spn own1 G124 cv l2:=by rw [ecv]; exact sp1.put ll2 m124.nx oc124 hcb ar
   obtain ⟨cv',G125,e125,m125,ag125,w125,one125⟩:=sp124.app (by rw [ll2]; omega) sl
   have hcalls:(y.stepD n k j d).calls = l2 ++ [dropS (sp y.calls j) k]:=by simp only [LM.stepD]; rw [if_pos (by rw [← hd']; exact hov),← hd',hv1,hl2]; rfl
   have fin:MLh (grown own1 G124 31) G125 n (y.stepD n k j d) B { hx with s:=(d.step y.x.s).2,dn:=upN hx.dn 1 (some d') } ob cv' v1 L:=⟨(c1.to m124 ar (by decide)).to m125 ag125 (by decide),hxs,Cel.to (ts:=[31]) ⟨Nat.lt_of_lt_of_le o1.lt m124.nx,o1.tag,by
     have:G124.obj ob = some ⟨o',1,false,1⟩:=(x124.obj _ (Nat.lt_of_lt_of_le o1.lt m112.nx)).trans (by rw [hG112,obj_put,if_neg nob']; exact oo91)
     rw [hoo,this,ho']; simp [upN]⟩ m125 (by decide) ag125,by rw [hcalls]; exact w125,(ar1.mt m124 (by decide) ar).mt m125 (by decide) ag125,(ts1.mt m124 (by decide) ar).mt m125 (by decide) ag125⟩
   have go:∀ τ',Ev8 τ' v1 v5 B.xb cv' ob k → Wp (jl8_0_0 true (exL Q orc) lp τ' G125) Post:=fun τ' hE'=>J0_ok orc hE' hk2 (hnx _ G125 B _ cv' rfl fin)
   obtain ⟨f1,f2⟩:=span_at (j:=j) l2 (by rw [ll2]; exact hj)
   have hs2:sp l2 j = { sp y.calls j with to:=2 * (k:Int) + 1,an:=(0,0,w) }:=by rw [hl2,sp_set _ hj,if_pos rfl]
   rw [hs2] at f1 f2
   simp only at f1 f2
   rw [hov] at e1
   have hz:z29 = [.int .i64 0,.int .i64 0,.int .i64 0,.int .i64 0,.int .i64 0,.int .i64 0,.int .u64 0,.int .i64 0,.int .i64 0,.int .u64 0]:=rfl
   have hz2:z24 = [.int .i64 0,.int .i64 0,.int .i64 0,.int .u64 0]:=rfl
   rw [hG124] at e125
   simp only [dropS,rSp_row] at e125
   have oR:R.obj cb' = some ⟨rSp.flat l2,10,op,1⟩:=by rw [hR]; exact oc112
   rw [ecv] at e125
   clear fin hxs
   simp [-Int.natCast_add,-overw_s,jl8_0_2,jbl8_0_2,t1,t6,t7,t8,t9,t10,t12,hox,hos,hpi,e1,ox1,os1,hpi1,e82,pExtract,getN_zero,getN_succ,w2,w3,oc82,q1,q3,← hG89,oo89,← ho',← hG91,ll,elv,lq0,wu,oc91,r1,r2,← hG112,← hR,oR,oc112,f1,f2,hz,hz2,ecv,e125]
   refine go _ ⟨?_,?_,?_,?_,?_,?_⟩ <;> simp [clip_t,t5]
 ·have hdo':d'.over = false:=by simpa using hov
  have hcalls:(y.stepD n k j d).calls = y.calls:=by simp only [LM.stepD]; rw [if_neg (by rw [← hd']; exact hov)]
  have hoo:(y.stepD n k j d).o = y.o:=by simp only [LM.stepD]; rw [if_neg (by rw [← hd']; exact hov)]
  have fin:MLh own1 G1 n (y.stepD n k j d) B { hx with s:=(d.step y.x.s).2,dn:=upN hx.dn 1 (some d') } ob cv v1 L:=⟨c1,hxs,by rw [hoo]; exact o1,by rw [hcalls,ecv]; exact sp1,ar1,ts1⟩
  have go:∀ τ',Ev8 τ' v1 v5 B.xb cv ob k → Wp (jl8_0_0 true (exL Q orc) lp τ' G1) Post:=fun τ' hE'=>J0_ok orc hE' hk2 (hnx own1 G1 B _ cv rfl fin)
  rw [hdo'] at e1
  clear fin hxs
  simp [-Int.natCast_add,-overw_s,jl8_0_2,jbl8_0_2,t1,t6,t7,t8,t9,t10,t12,hox,hos,hpi,e1]
  refine go _ ⟨?_,?_,?_,?_,?_,?_⟩ <;> simp [clip_t,t5]
end
end Go.Proofs.YtlaojmcekeohnaaGreatDoor.Lift
set_option linter.unusedVariables false
set_option linter.unusedSimpArgs false
set_option linter.unnecessarySimpa false
set_option maxRecDepth 20000
namespace Go.Proofs.YtlaojmcekeohnaaGreatDoor.Lift
open Go Go.Proofs.YtlaojmcekeohnaaGreatDoor.Gh Go.Proofs
section
variable {own own' own1 own2:Nat → Nat} {G G' G1 G2:GS} {n c i j K ob b k xb:Nat} {ts:List Nat} {x hx:CM} {y z:LM} {B B':CrB} {v cv v1 v5:Value} {L:List Int} {lp:LpT} {Post:Exit × Env × GS → Prop} {τ:Env}
theorem LI.init (h:1 ≤ n ∧ n ≤ 4) (len:Nat):LI n ⟨CM.init n,[],fun _=>-1⟩ 0 len:=by
 refine .mk (fun _=>0) (fun _=>0) (fun _=>0) (fun _=>0) [] [] (InvC.init h) ⟨Lz2.nil _,rfl,fun i hi=>by simp at hi,fun h=>absurd rfl h,fun c _ j hj=>by simp only at hj; omega,fun c _ j hj=>by simp only at hj; omega,fun j hj=>by simp only at hj; omega,fun _ _ _=>rfl,fun _=>rfl,fun _ _=>by simp only; omega,fun a b _ _ _ h=>by simp only at h; omega,fun i hi=>by simp at hi,fun i hi=>by simp at hi,by simp,fun i hi=>by simp at hi,by simp⟩ (fun w hw=>by cases hw) fun h c hc=>⟨fun _=>rfl,fun _ h=>absurd h (show ¬ (0:Int) ≤ -1 by decide)⟩
theorem J3_skip (orc:FuncId → Bool) (h:MLh own G n y B hx ob cv v1 L) (hE:Ev8 τ v1 v5 B.xb cv ob k) (t10:τ 10 = .int .i64 c) (hc:c < 3) (ho:y.o c = -1) (hk2:k ≤ 1000) (hs:L.length ≤ k ∨ 6 ≤ y.calls.length) (hgo:Nxt lp G v1 v5 B.xb cv ob (k + 1) Post) :
  Wp (jl8_0_3 true (exL Q orc) lp τ G) Post:=by
 obtain ⟨t1,t5,t6,t7,t8,t9⟩:=hE
 obtain ⟨va,vc,ev⟩:=h.arg.is.len
 have l1:ln Q true 35 v1 = some (.int .i64 L.length):=by rw [ev]; simp
 obtain ⟨ca,cc,ec⟩:=h.sp.ow.is.len
 have lc:ln Q true 38 cv = some (.int .i64 y.calls.length):=by rw [ec]; simp
 have hop:=h.op.obj
 have go:∀ τ',Ev8 τ' v1 v5 B.xb cv ob k → Wp (jl8_0_0 true (exL Q orc) lp τ' G) Post:=fun τ' hE'=>J0_ok orc hE' hk2 hgo
 rcases (show c = 0 ∨ c = 1 ∨ c = 2 by omega) with rfl | rfl | rfl
 all_goals
  simp at t10
  by_cases hk:L.length ≤ k
  ·have hk':(L.length:Int) ≤ (k:Int):=by omega
   simp [-Int.natCast_add,jl8_0_3,jbl8_0_3,t1,t6,t7,t8,t9,t10,hop,ho,l1,hk,hk']
   refine go _ ⟨?_,?_,?_,?_,?_,?_⟩ <;> simp [clip_t,t5]
  ·have hk':¬ (L.length:Int) ≤ (k:Int):=by omega
   have hl:6 ≤ y.calls.length:=by omega
   have hl':(6:Int) ≤ (y.calls.length:Int):=by omega
   simp [-Int.natCast_add,jl8_0_3,jbl8_0_3,t1,t6,t7,t8,t9,t10,hop,ho,l1,hk,hk',lc,hl,hl']
   refine go _ ⟨?_,?_,?_,?_,?_,?_⟩ <;> simp [clip_t,t5]
inductive EndQ (n ob xb:Nat) (v1 v5:Value) (L:List Int) (τ:Env) (G:GS):Prop
 | mk (own:Nat → Nat) (B:CrB) (hx:CM) (cv:Value) (y:LM):τ 5 = v5 → τ 6 = P0 xb → τ 7 = cv → τ 8 = .slice (some ⟨ob,0,none⟩) 3 3 → B.xb = xb → MLh own G n y B hx ob cv v1 L → LI n y (L.length + 60) L.length → EndQ n ob xb v1 v5 L τ G
theorem J3_ok (orc:FuncId → Bool) (hn:1 ≤ n ∧ n ≤ 4) (h:MLh own G n y B hx ob cv v1 L) (hI:LI n y k L.length) (hE:Ev8 τ v1 v5 B.xb cv ob k) (t10:τ 10 = .int .i64 c) (hc:c < 3) (hcc:L.length ≤ k → c = (k - L.length) / 20) (hk2:k ≤ 1000)
  (hgo:∀ z,LI n z (k + 1) L.length → NxtM lp n z ob v1 v5 L B.xb (k + 1) Post):Wp (jl8_0_3 true (exL Q orc) lp τ G) Post:=by
 have hI0:=hI
 obtain ⟨Df,T,Hf,tk,g,W,hC,hG,htn,hP⟩:=hI
 have ho1:=hG.o1 c hc
 have hfew:y.calls.length ≤ 7:=by have:=hG.few; split at this <;> omega
 by_cases ho:y.o c = -1
 ·by_cases hs:L.length ≤ k ∨ 6 ≤ y.calls.length
  ·exact J3_skip orc h hE t10 hc ho hk2 hs (hgo y (hI0.skip hc hcc ho) own G B hx cv rfl h)
  ·by_cases c2:c < 2
   ·exact J3_begS orc h hn hE t10 c2 ho (by omega) hk2 (by omega) (hgo _ (hI0.begS (by omega) hk2 c2 ho (by omega)))
   ·obtain rfl:c = 2:=by omega
    exact J3_begD orc h hn hE t10 ho (by omega) hk2 (by omega) (hgo _ (hI0.begD (by omega) hk2 ho (by omega)))
 ·obtain ⟨j,hj⟩:∃ j:Nat,y.o c = (j:Int):=⟨(y.o c).toNat,by omega⟩
  have hjl:=hG.lt c hc j hj
  by_cases c2:c < 2
  ·obtain ⟨p,hp⟩:=(hG.sd c c2 j hj).1
   have hpo:SdS.ok (.go p):=by
    cases hC.sd c (by omega) with
    | none a=>rw [a] at hp; cases hp
    | some p0 e c0 a1 a2 a3 a4 a5 a6 a7 a8 a9=>rw [hp] at a1; cases a1; exact ⟨a2,a5.going.1⟩
   exact J3_stepS orc h hn hC.sk hE t10 c2 hj hjl (by omega) hk2 hp hpo (hgo _ (hI0.stepS hk2 c2 hcc hj hp))
  ·obtain rfl:c = 2:=by omega
   obtain ⟨⟨d,hd,_⟩,hop,h1,h2⟩:=hG.dn j hj
   have hdo:d.ok k:=by
    cases hC.dn 1 (by omega) with
    | none a _ _=>rw [a] at hd; cases hd
    | some d0 a1 a2 a3=>rw [hd] at a1; cases a1; exact a2
   have han:(sp y.calls j).an = (0,0,0):=by
    rw [hG.see j hjl]
    by_cases e:Df 1 = Hf 1
    ·obtain ⟨q1,q2⟩:=h1 e
     rw [hid_not (by rw [q1]; decide)]; exact q2
    ·rw [hid_big (h2 e).1]
   obtain ⟨s1,s2⟩:=hI0.stepD hk2 hcc hj hd
   obtain ⟨cb,op,ecv,_,_,_⟩:=h.sp.cells (by omega)
   have t10':τ 10 = .int .i64 2:=t10
   exact J3_D orc h hE t10' hj hjl ecv fun τ' hE' t10' t12=>J2_stepD orc (h.ext ((Ext.refl G).room 16)) hC.sk hE' t10' ecv t12 hj hjl (by omega) hk2 han hd hdo hk2 s2 (hgo _ s1)
theorem loop_ok (orc:FuncId → Bool) (hn:1 ≤ n ∧ n ≤ 4) (hL:L.length ≤ 120):∀ (m k:Nat) (τ:Env) (G:GS) (own:Nat → Nat) (B:CrB) (hx:CM) (cv:Value) (y:LM),k + m = L.length + 60 → B.xb = xb → MLh own G n y B hx ob cv v1 L → LI n y k L.length → Ev8 τ v1 v5 xb cv ob k →
  Wp ((exL Q orc).lpx 8 0 τ G) fun q=>q.1 = .exit 0 ∧ EndQ n ob xb v1 v5 L q.2.1 q.2.2:=by
 intro m
 induction m with
 | zero =>
  intro k τ G own B hx cv y hk hB h hI hE
  obtain ⟨t1,t5,t6,t7,t8,t9⟩:=hE
  obtain ⟨va,vc,ev⟩:=h.arg.is.len
  have l1:ln Q true 35 v1 = some (.int .i64 L.length):=by rw [ev]; simp
  have hk':k = L.length + 60:=by omega
  have hw:IntKind.wrap .i64 ((L.length:Int) + 60) = (L.length:Int) + 60:=wrap64 (by omega) (by omega)
  have hlt:¬ (k:Int) < (L.length:Int) + 60:=by omega
  refine Wp.lp (l8_0 (exL_ok Q orc)) ?_
  simp [-Int.natCast_add,b8_0,bb8_0,clip_t,t1,t5,t6,t7,t8,t9,l1,hw,hlt]
  rw [hk'] at hI
  exact .mk own B hx cv y (by simp [clip_t,t5]) (by simp [clip_t,t6]) (by simp [clip_t]) (by simp [clip_t]) hB h hI
 | succ m ih =>
  intro k τ G own B hx cv y hk hB h hI hE
  subst hB
  have hgo:∀ z,LI n z (k + 1) L.length → NxtM ((exL Q orc).lpx 8 0) n z ob v1 v5 L B.xb (k + 1) (fun q=>q.1 = .exit 0 ∧ EndQ n ob B.xb v1 v5 L q.2.1 q.2.2):=fun z hz own' G' B' hx' cv' hB' h' τ' hE'=>ih (k + 1) τ' G' own' B' hx' cv' z (by omega) hB' h' hz hE'
  clear ih
  obtain ⟨t1,t5,t6,t7,t8,t9⟩:=hE
  obtain ⟨va,vc,ev⟩:=h.arg.is.len
  have l1:ln Q true 35 v1 = some (.int .i64 L.length):=by rw [ev]; simp
  have hw:IntKind.wrap .i64 ((L.length:Int) + 60) = (L.length:Int) + 60:=wrap64 (by omega) (by omega)
  have hlt:(k:Int) < (L.length:Int) + 60:=by omega
  have hw2:IntKind.wrap .i64 ((k:Int) - (L.length:Int)) = (k:Int) - (L.length:Int):=wrap64 (by omega) (by omega)
  have hk2:k ≤ 1000:=by omega
  obtain ⟨qv,hqv⟩:∃ qv,qv = ((k:Int) - (L.length:Int)).tdiv 20:=⟨_,rfl⟩
  have hqb:-2000 ≤ qv ∧ qv ≤ 2000:=by
   have:(((k:Int) - (L.length:Int)).tdiv 20).natAbs ≤ ((k:Int) - (L.length:Int)).natAbs:=by
    rw [Int.natAbs_tdiv]; exact Nat.div_le_self _ _
   rw [← hqv] at this
   omega
  have hw3:IntKind.wrap .i64 qv = qv:=wrap64 (by omega) (by omega)
  refine Wp.lp (l8_0 (exL_ok Q orc)) ?_
  by_cases hkl:k < L.length
  ·have hkl':(k:Int) < (L.length:Int):=by omega
   have h0:(0:Int) ≤ k:=by omega
   obtain ⟨b,o,cc,e0,_,q,_⟩:=h.arg.is.at hkl
   have q0:=q 0 (by decide)
   simp at q0
   have ep:=pick_ok orc L[k] 3 (by decide) (by decide) G
   obtain ⟨c,hc⟩:∃ c:Nat,L[k] % 3 = (c:Int):=⟨(L[k] % 3).toNat,by omega⟩
   have hc3:c < 3:=by omega
   rw [hc] at ep
   have go:∀ τ':Env,Ev8 τ' v1 v5 B.xb cv ob k → τ' 10 = .int .i64 c → Wp (jl8_0_3 true (exL Q orc) ((exL Q orc).lpx 8 0) τ' G) fun q=>q.1 = .exit 0 ∧ EndQ n ob B.xb v1 v5 L q.2.1 q.2.2:=fun τ' hE' t10=>J3_ok orc hn h hI hE' t10 hc3 (fun h=>by omega) hk2 hgo
   simp [-Int.natCast_add,b8_0,bb8_0,clip_t,t1,t6,t7,t8,t9,l1,hw,hlt,hw2,← hqv,hw3,hkl,hkl',e0,h0,q0,ep]
   subst e0
   refine go _ ⟨?_,?_,?_,?_,?_,?_⟩ ?_ <;> simp [clip_t,t5]
  ·have hkl':¬ (k:Int) < (L.length:Int):=by omega
   have hqc:qv = (((k - L.length) / 20:Nat):Int):=by rw [hqv,Int.tdiv_eq_ediv_of_nonneg (by omega)]; omega
   have go:∀ τ':Env,Ev8 τ' v1 v5 B.xb cv ob k → τ' 10 = .int .i64 qv → Wp (jl8_0_3 true (exL Q orc) ((exL Q orc).lpx 8 0) τ' G) fun q=>q.1 = .exit 0 ∧ EndQ n ob B.xb v1 v5 L q.2.1 q.2.2:=fun τ' hE' t10=>J3_ok orc hn h hI hE' (by rw [t10,hqc]) (by omega) (fun _=>rfl) hk2 hgo
   simp [-Int.natCast_add,b8_0,bb8_0,clip_t,t1,t6,t7,t8,t9,l1,hw,hlt,hw2,← hqv,hw3,hkl,hkl']
   refine go _ ⟨?_,?_,?_,?_,?_,?_⟩ ?_ <;> simp [clip_t,t5]
end
end Go.Proofs.YtlaojmcekeohnaaGreatDoor.Lift
set_option linter.unusedVariables false
set_option linter.unusedSimpArgs false
set_option linter.unnecessarySimpa false
set_option maxRecDepth 20000
namespace Go.Proofs.YtlaojmcekeohnaaGreatDoor.Lift
open Go Go.Proofs.YtlaojmcekeohnaaGreatDoor.Gh Go.Proofs
section
variable {G:GS}
theorem mailLinear (orc:FuncId → Bool) (hkn:orc 30 = true) (ht:tabs G = true) (h2:2 ≤ G.nx) {v1:Value} {L:List Int} (hL:SlR (rowsI .i64) G v1 L) (z:Int) :
  Wp ((E orc).cl 8 [.int .i64 z,v1] G) fun q=>q.1 = .bool true:=by
 refine Wp.ref (f8 (exL_ok Q orc) _ _ G) ?_
 obtain ⟨va,vc,ev⟩:=hL.len
 have l1:ln Q true 35 v1 = some (.int .i64 L.length):=by rw [ev]; simp
 have ek:=cl_orcT Q orc hkn G (hasTab_at Q ht)
 by_cases c1:120 < L.length
 ·have c1':(120:Int) < L.length:=by omega
  simp [s8,l1,ek,c1,c1']
 have c1':¬ (120:Int) < L.length:=by omega
 have ep:=pick_ok orc z 3 (by decide) (by decide) G
 obtain ⟨n,hn⟩:∃ n:Nat,1 + z % 3 = (n:Int):=⟨(1 + z % 3).toNat,by omega⟩
 have h4:1 ≤ n ∧ n ≤ 4:=by omega
 have hw:IntKind.wrap .i64 (1 + z % 3) = (n:Int):=by rw [hn]; exact wrap64 (by omega) (by omega)
 obtain ⟨own1,B,G8,e8,x8,h8,t8⟩:=begun_in orc h4 G
 obtain ⟨G11,hG11⟩:∃ G11,G11 = G8.push ⟨[.int .i64 (-1),.int .i64 (-1),.int .i64 (-1)],1,false,1⟩:=⟨_,rfl⟩
 have x11:Ext G8 G11:=by rw [hG11]; exact (Ext.refl G8).push _
 have n11:G11.nx = G8.nx + 1:=by rw [hG11]; rfl
 have m11:ModT [] own1 G8 G11:=ModT.ext x11
 have a11:Agr own1 (grown own1 G8 30) G8:=grown_agr
 have nx8:=x8.nx
 have ts:TabS own1 G8:=⟨tabs_ext x8 ht h2,t8 0 (by omega),t8 1 (by omega),by omega⟩
 have ha:ArgM own1 G8 v1 L:=⟨hL.ext x8,fun g hg=>t8 g (hL.under g hg)⟩
 have hM:MLh (grown own1 G8 30) G11 n ⟨CM.init n,[],fun _=>-1⟩ B (CM.init n) G8.nx (.slice none 0 0) v1 L :=
  ⟨h8.to m11 a11 (by simp),⟨rfl,fun _ _ _ h=>h,fun _ h=>h⟩,⟨by omega,grown_new (Nat.le_refl _),by rw [hG11]; simp⟩,⟨OwR.nil _ _,fun g ⟨a,n',c',h,_⟩=>by cases h⟩,ha.mt m11 (by simp) a11,ts.mt m11 (by simp) a11⟩
 have hzi:z3 = [.int .i64 0]:=rfl
 have hr3:rep [Value.int .i64 0] 3 = [.int .i64 0,.int .i64 0,.int .i64 0]:=rfl
 simp [s8,l1,ek,c1,c1',ep,hw,e8,hzi,hr3]
 simp [← hG11]
 refine Wp.bE (Wp.mono (loop_ok (v5:=.bool true) orc h4 (by omega) (L.length + 60) 0 _ G11 _ B _ _ _ (by omega) rfl hM (LI.init h4 _) ⟨?_,?_,?_,?_,?_,?_⟩) ?_)
 ·simp
 ·simp
 ·simp
 ·simp
 ·simp
 ·simp
 rintro ⟨e1,τ,G14⟩ ⟨rfl,hQ⟩
 obtain ⟨own',B',hx,cv,y,t5,t6,t7,t8,hB,h,hI⟩:=hQ
 simp only at t5 t6 t7 t8 h
 obtain ⟨Df,T,Hf,tk,g,W,hC,hG,htn,hP⟩:=hI
 have hall:∀ c,c < 3 → y.o c = -1:=fun c hc=>(hP (by omega) c hc).1 (by omega)
 have hDH:Df 1 = Hf 1:=by
  have hd0:=hG.idd (hall 2 (by omega))
  cases hC.dn 1 (by omega) with
  | none a b d=>exact b
  | some d a b e=>rw [hd0] at a; cases a
 rw [hDH] at hG
 have hgoes:=hG.goes hall
 have hfew:y.calls.length ≤ 7:=by have:=hG.few; split at this <;> omega
 have hm:MayOk 1 n y.calls:=⟨⟨by decide,by decide⟩,⟨by omega,by omega⟩,by omega,fun e=>by omega,hG.nd⟩
 have okl:∀ c ∈ y.calls,okOp c.op:=fun c hc=>by
  obtain ⟨i,hi,rfl⟩:=List.getElem_of_mem hc
  have:=hG.ok i hi
  unfold sp at this
  simpa [List.getD,List.getElem?_eq_getElem hi] using this
 have cx:=h.cr.cx.obj
 rw [hB] at cx
 simp only [crX] at cx
 obtain ⟨⟨r,G31⟩,e31,x31,h31⟩:=orderF orc h.ts.tb h.ts.n2 h.sp.ow.is okl n hm
 rcases h31 with ⟨rfl,hg⟩ | ⟨outv,row,s2,rfl,_⟩
 ·exact absurd hgoes hg
 ·have oo:=h.op.obj
  rw [hall 0 (by omega),hall 1 (by omega),hall 2 (by omega)] at oo
  have oo31:=(x31.obj _ h.op.lt).trans oo
  simp [t5,t6,t7,t8,cx,e31,oo31,pExtract,getN_zero,getN_succ,clip_t]
end
end Go.Proofs.YtlaojmcekeohnaaGreatDoor.Lift
