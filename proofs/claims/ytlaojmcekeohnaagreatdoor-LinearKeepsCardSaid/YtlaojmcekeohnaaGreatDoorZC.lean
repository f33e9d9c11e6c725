import Derived.Test.YtlaojmcekeohnaaGreatDoorZA
set_option linter.unusedVariables false
set_option linter.unusedSimpArgs false
set_option maxRecDepth 20000
namespace Go.Proofs.YtlaojmcekeohnaaGreatDoor.Lift
open Go Go.Proofs.YtlaojmcekeohnaaGreatDoor.Gh Go.Proofs
section
variable {α:Type} {e:RowE α} {m:Mac α} {inv:List α→Prop} {tx:List α→ByteArray} {B:GS} {fv nv uv tv:Value}
theorem told_H (orc:FuncId→Bool) (hm:MacC orc e m inv tx B fv nv uv tv) {G:GS} {sv:Value} {s:List α} {c:Sp} (hB:Ext B G) (hs:SlR e G sv s) (hi:inv s) (ho:okOp c.op) :
  Wp ((E orc).cl 120 [.agg ⟨[fv,nv,uv,tv]⟩,sv,.agg ⟨rSp.row c⟩] G) fun r=>Ext G r.2∧SlR eAn r.2 r.1 (toldP m s c)∧(toldP m s c).length≤2000:=by
 refine Wp.ref (f120 (exL_ok Q orc) _ _ _ G) ?_
 have hE:Ext G ((G.push ⟨[fv,nv,uv,tv],1,false,1⟩).push ⟨rSp.row c,1,false,1⟩):=((Ext.refl G).push _).push _
 unfold toldP
 by_cases ht:0≤c.to
 ·simp [s120,ht,Value.cells]
  exact ⟨hE.push _,SlR.one eAn _ c.an⟩
 ·obtain ⟨⟨r,G'⟩,e1,h1,h2,h3⟩:=hm.fine _ sv s c.op (hB.trans hE) (hs.ext hE) hi ho
  simp [s120,ht,Value.cells]
  exact ⟨(r,G'),e1,hE.trans h1,h2,h3⟩
end
section
variable {α:Type} {orc:FuncId→Bool} {e:RowE α} {m:Mac α} {inv:List α→Prop} {tx:List α→ByteArray} {B:GS} {t:TeP} {Z:Nat→ByteArray→Prop} {A G:GS} {s:List α} {sv rowv av kv:Value} {d a cb:Nat} {row:List Nat} {op:Bool} {L:List An3} {c:Sp}
abbrev rIH (row:List Nat):List Int:=row.map fun (a:Nat)=>(a:Int)
structure EvH (t:TeP) (sv rowv kv:Value) (d:Nat) (op:Bool) (τ:Env):Prop where
 t0:τ 0=sv
 t1:τ 1= .int .i64 (d:Int)
 t2:τ 2=rowv
 t3:τ 3=Pp t.p3
 t4:τ 4=Pp t.p4
 t6:τ 6=Pp t.p6
 t7:τ 7=Pp t.p7
 t8:τ 8=Pp t.p8
 t13:τ 13= .bool op
 t14:τ 14=kv
 t54:τ 54=t.lV
 t55:τ 55= .int .i64 t.l.length
def InPH (m:Mac α) (inv:List α→Prop) (tx:List α→ByteArray) (t:TeP) (Z:Nat→ByteArray→Prop) (A:GS) (s:List α) (sv rowv kv:Value) (d a:Nat) (row:List Nat) (op:Bool) (c:Sp) (L:List An3) (q:Exit×Env×GS):Prop :=
 (q.1= .exit 2∧Kp t.lv A q.2.2∧Mem m t.l inv tx t.lv Z q.2.2∧(∀ an,an∈L→∀ s1,m.next s c.op an=some s1→¬ Goes m t.l (t.b.drop (row.length+1)) s1 (d ||| 1 <<< a))∧EvH t sv rowv kv d op q.2.1∧q.2.1 56= .int .i64 (a:Int)) ∨
 (q.1= .ret∧q.2.1 12= .bool false∧(∃ an,an∈L∧∃ s1,m.next s c.op an=some s1∧Goes m t.l (t.b.drop (row.length+1)) s1 (d ||| 1 <<< a))∧Fd t A q.2.2)
theorem inP_cons_H {an:An3} {q:Exit×Env×GS} (h:InPH m inv tx t Z A s sv rowv kv d a row op c L q) (hn:∀ s1,m.next s c.op an=some s1→¬ Goes m t.l (t.b.drop (row.length+1)) s1 (d ||| 1 <<< a)):InPH m inv tx t Z A s sv rowv kv d a row op c (an::L) q:=by
 rcases h with ⟨h1,h2,h3,h4,h5⟩ | ⟨h1,h2,⟨x,h3,h4⟩,h5⟩
 ·exact .inl ⟨h1,h2,h3,fun x hx=>(List.mem_cons.1 hx).elim (fun e=>e▸hn) (h4 x),h5⟩
 ·exact .inr ⟨h1,h2,⟨x,List.mem_cons_of_mem _ h3,h4⟩,h5⟩
theorem inner_H (hT:Te orc e m inv tx 232 B t A) (hs:SlR e A sv s) (hi:inv s) (hr:SlR (rowsI .i64) A rowv (rIH row)) (hrl:row.length≤3000) (hd:d<2 ^ 60) (ha:a<50)
  (hc:A.obj cb=some ⟨rSp.row c,1,false,1⟩) (hcb:cb<A.nx) (hoc:okOp c.op) (hL:SlR eAn A av L) (hLl:L.length≤2000)
  (ih:∀ (G:GS) (sv1 rowv1:Value) (s1:List α),Te orc e m inv tx 232 B t G→Mem m t.l inv tx t.lv Z G→SlR e G sv1 s1→inv s1→SlR (rowsI .i64) G rowv1 (rIH (row++[a])) →
   Wp ((E orc).cl 232 [sv1,.int .i64 ((d ||| 1 <<< a:Nat):Int),rowv1,Pp t.p3,Pp t.p4,Pp t.p5,Pp t.p6,Pp t.p7,Pp t.p8] G) (Out m inv tx t Z (Goes m t.l (t.b.drop (row.length+1)) s1 (d ||| 1 <<< a)) G)) :
  ∀ (k j:Nat) (τ:Env) (G:GS),j+k=L.length→EvH t sv rowv kv d op τ→τ 56= .int .i64 (a:Int)→τ 17= .int .i64 (a:Int)→τ 18=Pp cb→τ 82=av→τ 83= .int .i64 L.length→τ 84= .int .i64 (j:Int)→Kp t.lv A G→Mem m t.l inv tx t.lv Z G →
  Wp ((exL Q orc).lpx 232 1 τ G) (InPH m inv tx t Z A s sv rowv kv d a row op c (L.drop j)):=by
 intro k
 induction k with
 | zero =>
  intro j τ G hj ev t56 t17 t18 t82 t83 t84 hK hM
  have hj':j=L.length:=by omega
  subst hj'
  obtain ⟨u0,u1,u2,u3,u4,u6,u7,u8,u13,u14,u54,u55⟩:=ev
  refine Wp.lp (l232_1 (exL_ok Q orc)) ?_
  simp [b232_1,clip_t,u0,u1,u2,u6,u8,t17,t18,t82,t83,t84,-List.drop_length]
  exact .inl ⟨rfl,hK,hM,fun an h=>by simp at h,⟨by simp [clip_t,u0],by simp [clip_t,u1],by simp [clip_t,u2],by simp [clip_t,u3],by simp [clip_t,u4],by simp [clip_t,u6],by simp [clip_t,u7],by simp [clip_t,u8],by simp [clip_t,u13],by simp [clip_t,u14],by simp [clip_t,u54],by simp [clip_t,u55]⟩,by simp [clip_t,t56]⟩
 | succ k ihk =>
  intro j τ G hj ev t56 t17 t18 t82 t83 t84 hK hM
  obtain ⟨u0,u1,u2,u3,u4,u6,u7,u8,u13,u14,u54,u55⟩:=ev
  have hlt:j<L.length:=by omega
  have hw:IntKind.wrap .i64 ((j:Int)+1)=((j+1:Nat):Int):=wrap64 (by omega) (by omega)
  have h1:(j:Int)<L.length:=by omega
  have h2:(0:Int)≤j:=by omega
  have h3:¬ ((a:Int)<0):=by omega
  have hTG:=hT.kp hK
  obtain ⟨b,o,cc,e0,hbG,_,hz⟩:=(slrKp hL hK).at hlt
  rw [eAn_sz,loadA_eq] at hz
  rw [List.drop_eq_getElem_cons hlt]
  generalize L[j]=an at *
  have hst:stO 3 0 (.agg ⟨eAn.row an⟩) (some ⟨z27,1,false,1⟩)=some ⟨eAn.row an,1,false,1⟩:=rfl
  have hE:Ext G ((G.push ⟨z27,1,false,1⟩).put G.nx ⟨eAn.row an,1,false,1⟩):=((Ext.refl G).push _).put (Nat.le_refl _) _
  have hob6:=hTG.c6
  have hcG:G.obj cb=some ⟨rSp.row c,1,false,1⟩:=(hK.obj _ hcb).trans hc
  have n6:¬ t.p6=G.nx:=by have:=hTG.lt.2.2.2.1; omega
  have ncb:¬ cb=G.nx:=by have:=hK.nx; omega
  obtain ⟨⟨r,G12⟩,e5,x5,v',hr5⟩:=hTG.mc.next _ sv s c.op an (hTG.hB.trans hE) ((slrKp hs hK).ext hE) hi hoc
  simp only at x5 hr5
  have e5':cValue (E orc) t.nv [sv,.agg ⟨rowOp c.op⟩,.agg ⟨eAn.row an⟩] ((G.push ⟨z27,1,false,1⟩).put G.nx ⟨eAn.row an,1,false,1⟩)=some (r,G12):=e5
  have hor:=or1 hd (show a<60 by omega)
  have xG:=hE.trans x5
  have hK12:Kp t.lv A G12:=hK.trans (Kp.ext xG)
  refine Wp.lp (l232_1 (exL_ok Q orc)) ?_
  rcases hr5 with ⟨rfl,s',hn,hi',hsl⟩ | ⟨rfl,hn⟩
  ·have hT12:=hT.kp hK12
   have l8:=hT12.lt.2.2.2.2.2.1
   have o8:=hT12.c8
   obtain ⟨rv,G22,e6,x6,w6⟩:=cloneI_ok orc ((slrKp hr hK12).ext ((Ext.refl G12).room 16)) (by simp; omega)
   have n22:=x6.nx
   simp at n22
   have o22:=(x6.obj t.p8 (by simp; omega)).trans o8
   have x26:Ext G12 (((G22.at' (G12.nx+11)).push ⟨[.int .i64 (a:Int)],1,false,1⟩).back G22):=drawn0 (((Ext.refl G12).room 16).trans x6) (by omega) _
   have sl:SlR (rowsI .i64) (((G22.at' (G12.nx+11)).push ⟨[.int .i64 (a:Int)],1,false,1⟩).back G22) (.slice (some ⟨G12.nx+11,0,none⟩) 1 1) [(a:Int)]:=SlR.oneD (rowsI .i64) G22 (a:Int) (by omega)
   have w26:OwR (rowsI .i64) G12.nx (((G22.at' (G12.nx+11)).push ⟨[.int .i64 (a:Int)],1,false,1⟩).back G22) rv (rIH row):=by
    refine (w6.same (by simp) fun p n c he=>?_).mono (by simp)
    have:=w6.ge p n c he
    simp at this
    have hne:¬ p.block=G12.nx+11:=by omega
    simp [hne]
   obtain ⟨rv',G27,e7,x7,w7⟩:=OwR.app (ib:=8) w26 (by decide) x26 sl (by simp; omega)
   rw [show (rowsI .i64).sz=1 from rfl] at e7
   have o27:=(x7.obj t.p8 l8).trans o8
   have hK27:Kp t.lv A G27:=hK12.trans (Kp.ext x7)
   have hM27:Mem m t.l inv tx t.lv Z G27:=hM.ext (xG.trans x7) hTG.hlv.2
   obtain ⟨⟨r,G29⟩,e8,h8⟩:=ih G27 v' rv' s' (hT.kp hK27) hM27 (hsl.is.ext x7) hi' (by have:=w7.is; rw [rIH,List.map_append]; exact this)
   simp [-Int.natCast_add,-cValue_func,b232_1,clip_t,u0,u1,u2,u6,u8,t17,t18,t82,t83,t84,e0,h1,h2,hlt,hz,hst,hob6,n6,hcG,ncb,hw]
   rw [rowOp,eAn_row] at e5'
   rcases h8 with ⟨h81,h82,h83,h84⟩ | ⟨h81,h82,h83⟩
   ·simp only at h81 h83 h84
    subst h81
    simp [-Int.natCast_add,e5',pExtract,getN_zero,getN_succ,o8,h3,hor.1,e6,o22,e7,o27,e8]
    refine Wp.mono (ihk (j+1) _ G29 (by omega) ⟨by simp [clip_t,u0],by simp [clip_t,u1],by simp [clip_t,u2],by simp [clip_t,u3],by simp [clip_t,u4],by simp [clip_t,u6],by simp [clip_t,u7],by simp [clip_t,u8],by simp [clip_t,u13],by simp [clip_t,u14],by simp [clip_t,u54],by simp [clip_t,u55]⟩ (by simp [clip_t,t56]) (by simp [clip_t]) (by simp [clip_t]) (by simp [clip_t,e0]) (by simp [clip_t]) (by simp [clip_t]) (hK27.trans h83) h84) fun q hq=>inP_cons_H hq fun s1 h=>?_
    rw [hn] at h
    cases h
    exact h82
   ·simp only at h81 h83
    subst h81
    simp [-Int.natCast_add,e5',pExtract,getN_zero,getN_succ,o8,h3,hor.1,e6,o22,e7,o27,e8]
    exact .inr ⟨rfl,by simp [clip_t],⟨an,List.mem_cons_self ..,s',hn,h82⟩,Fd.of hK27 h83⟩
  ·simp [-Int.natCast_add,-cValue_func,b232_1,clip_t,u0,u1,u2,u6,u8,t17,t18,t82,t83,t84,e0,h1,h2,hlt,hz,hst,hob6,n6,hcG,ncb,hw]
   rw [rowOp,eAn_row] at e5'
   simp [-Int.natCast_add,-cValue_func,e5',pExtract,getN_zero,getN_succ]
   refine Wp.mono (ihk (j+1) _ _ (by omega) ⟨by simp [clip_t,u0],by simp [clip_t,u1],by simp [clip_t,u2],by simp [clip_t,u3],by simp [clip_t,u4],by simp [clip_t,u6],by simp [clip_t,u7],by simp [clip_t,u8],by simp [clip_t,u13],by simp [clip_t,u14],by simp [clip_t,u54],by simp [clip_t,u55]⟩ (by simp [clip_t,t56]) (by simp [clip_t]) (by simp [clip_t]) (by simp [clip_t,e0]) (by simp [clip_t]) (by simp [clip_t]) (hK12.trans (Kp.ext ((Ext.refl G12).room 16))) (hM.ext (xG.room 16) hTG.hlv.2)) fun q hq=>inP_cons_H hq fun s1 h=>?_
   rw [hn] at h
   cases h
end
section
variable {α:Type} {orc:FuncId→Bool} {e:RowE α} {m:Mac α} {inv:List α→Prop} {tx:List α→ByteArray} {B:GS} {t:TeP} {Z:Nat→ByteArray→Prop} {A G:GS} {s:List α} {sv rowv kv:Value} {d:Nat} {row:List Nat}
def AlwH (b:List Nat) (k a:Nat):Prop:=b.length≤k∨b[k]? =some a
def OuPH (m:Mac α) (inv:List α→Prop) (tx:List α→ByteArray) (t:TeP) (Z:Nat→ByteArray→Prop) (A:GS) (s:List α) (sv rowv kv:Value) (d:Nat) (row:List Nat) (i:Nat) (q:Exit×Env×GS):Prop :=
 (q.1= .exit 0∧Kp t.lv A q.2.2∧Mem m t.l inv tx t.lv Z q.2.2∧(∀ a,i≤a→AlwH t.b row.length a→∀ s1,Step m t.l s d a s1→¬ Goes m t.l (t.b.drop (row.length+1)) s1 (d ||| 1 <<< a))∧EvH t sv rowv kv d (decide (t.b.length≤row.length)) q.2.1) ∨
 (q.1= .ret∧q.2.1 12= .bool false∧(∃ a s1,AlwH t.b row.length a∧Step m t.l s d a s1∧Goes m t.l (t.b.drop (row.length+1)) s1 (d ||| 1 <<< a))∧Fd t A q.2.2)
theorem ouP_less_H {i:Nat} {q:Exit×Env×GS} (h:OuPH m inv tx t Z A s sv rowv kv d row (i+1) q) (hn:AlwH t.b row.length i→∀ s1,Step m t.l s d i s1→¬ Goes m t.l (t.b.drop (row.length+1)) s1 (d ||| 1 <<< i)):OuPH m inv tx t Z A s sv rowv kv d row i q:=by
 rcases h with ⟨h1,h2,h3,h4,h5⟩ | h
 ·refine .inl ⟨h1,h2,h3,fun a ha hw s1 hs=>?_,h5⟩
  by_cases e:a=i
  ·subst e; exact hn hw s1 hs
  ·exact h4 a (by omega) hw s1 hs
 ·exact .inr h
theorem outer_H (hT:Te orc e m inv tx 232 B t A) (hs:SlR e A sv s) (hi:inv s) (hr:SlR (rowsI .i64) A rowv (rIH row)) (hrl:row.length≤3000) (hd:d<2 ^ 60)
  (ih:∀ a,a<t.l.length→rdyP t.l d a→∀ (G:GS) (sv1 rowv1:Value) (s1:List α),Te orc e m inv tx 232 B t G→Mem m t.l inv tx t.lv Z G→SlR e G sv1 s1→inv s1→SlR (rowsI .i64) G rowv1 (rIH (row++[a])) →
   Wp ((E orc).cl 232 [sv1,.int .i64 ((d ||| 1 <<< a:Nat):Int),rowv1,Pp t.p3,Pp t.p4,Pp t.p5,Pp t.p6,Pp t.p7,Pp t.p8] G) (Out m inv tx t Z (Goes m t.l (t.b.drop (row.length+1)) s1 (d ||| 1 <<< a)) G)) :
  ∀ (k i:Nat) (τ:Env) (G:GS),i+k=t.l.length→EvH t sv rowv kv d (decide (t.b.length≤row.length)) τ→τ 56= .int .i64 (i:Int)→Kp t.lv A G→Mem m t.l inv tx t.lv Z G →
  Wp ((exL Q orc).lpx 232 0 τ G) (OuPH m inv tx t Z A s sv rowv kv d row i):=by
 intro k
 induction k with
 | zero =>
  intro i τ G hi' ev t56 hK hM
  have hi':i=t.l.length:=by omega
  subst hi'
  obtain ⟨u0,u1,u2,u3,u4,u6,u7,u8,u13,u14,u54,u55⟩:=ev
  refine Wp.lp (l232_0 (exL_ok Q orc)) ?_
  simp [b232_0,clip_t,u0,u1,u2,u3,u4,u6,u13,u54,u55,t56]
  exact .inl ⟨rfl,hK,hM,fun a h _ s1 hs=>absurd hs.1 (by omega),⟨by simp [clip_t,u0],by simp [clip_t,u1],by simp [clip_t,u2],by simp [clip_t,u3],by simp [clip_t,u4],by simp [clip_t,u6],by simp [clip_t,u7],by simp [clip_t,u8],by simp [clip_t,u13],by simp [clip_t,u14],by simp [clip_t,u54],by simp [clip_t,u55]⟩⟩
 | succ k ihk =>
  intro i τ G hi' ev t56 hK hM
  obtain ⟨u0,u1,u2,u3,u4,u6,u7,u8,u13,u14,u54,u55⟩:=ev
  have hlt:i<t.l.length:=by omega
  have h11:=hT.len
  have hw:IntKind.wrap .i64 ((i:Int)+1)=((i+1:Nat):Int):=wrap64 (by omega) (by omega)
  have h1:(i:Int)<t.l.length:=by omega
  have h2:(0:Int)≤i:=by omega
  have hTG:=hT.kp hK
  obtain ⟨b,o,cc,e0,hbG,_,hz⟩:=hTG.hl.at hlt
  have hsp:=sp_at hlt
  rw [rSp_sz,← hsp,loadA_eq] at hz
  have hst:stO 10 0 (.agg ⟨rSp.row (sp t.l i)⟩) (some ⟨z29,1,false,1⟩)=some ⟨rSp.row (sp t.l i),1,false,1⟩:=rfl
  have hld:loadO 10 0 (some ⟨rSp.row (sp t.l i),1,false,1⟩)=some (.agg ⟨rSp.row (sp t.l i)⟩):=loadO_whole rfl (by decide)
  have hoc:okOp (sp t.l i).op:=by rw [hsp]; exact hTG.okl _ (List.getElem_mem hlt)
  generalize hri:rSp.row (sp t.l i)=ri at *
  have hE:Ext G ((G.push ⟨z29,1,false,1⟩).put G.nx ⟨ri,1,false,1⟩):=((Ext.refl G).push _).put (Nat.le_refl _) _
  obtain ⟨G5,hG5⟩:∃ G5,G5=(G.push ⟨z29,1,false,1⟩).put G.nx ⟨ri,1,false,1⟩:=⟨_,rfl⟩
  have o5:G5.obj G.nx=some ⟨ri,1,false,1⟩:=by rw [hG5]; simp
  have n5:G.nx<G5.nx:=by rw [hG5]; simp
  rw [← hG5] at hE
  have hK5:Kp t.lv A G5:=hK.trans (Kp.ext hE)
  have hT5:=hT.kp hK5
  have hM5:Mem m t.l inv tx t.lv Z G5:=hM.ext hE hTG.hlv.2
  obtain ⟨ra,rc,er⟩:=hr.len
  have lr:∀ x,ln Q true x rowv=some (.int .i64 row.length):=fun x=>by rw [er]; simp
  have next:∀ (τ':Env) (G':GS),EvH t sv rowv kv d (decide (t.b.length≤row.length)) τ' →τ' 56= .int .i64 ((i+1:Nat):Int)→Kp t.lv A G' →Mem m t.l inv tx t.lv Z G' →(AlwH t.b row.length i→∀ s1,Step m t.l s d i s1→¬ Goes m t.l (t.b.drop (row.length+1)) s1 (d ||| 1 <<< i)) →
    Wp ((exL Q orc).lpx 232 0 τ' G') (OuPH m inv tx t Z A s sv rowv kv d row i):=fun τ' G' h3 h4 h5 h6 h7=>Wp.mono (ihk (i+1) τ' G' (by omega) h3 h4 h5 h6) fun q hq=>ouP_less_H hq h7
  obtain ⟨G8,hx8,hrd⟩:=ready_ok orc hT5.hl (by omega) hd hlt
  rw [e0] at hrd
  have o4:=hT5.c4
  have o3:=hT5.c3
  refine Wp.lp (l232_0 (exL_ok Q orc)) ?_
  by_cases hop:t.b.length≤row.length
  ·have hop':decide (t.b.length≤row.length)=true:=by simp [hop]
   rw [hop'] at u13
   rcases hrd with ⟨er5,hrp⟩ | ⟨er5,hrp⟩
   ·have hT8:=hT5.kp (Kp.ext hx8)
    have o6:=hT8.c6
    have o8:G8.obj G.nx=some ⟨ri,1,false,1⟩:=(hx8.obj _ n5).trans o5
    obtain ⟨⟨av,G37⟩,e37,x37,w37,l37⟩:=told_H orc hT8.mc hT8.hB (slrKp hs (hK5.trans (Kp.ext hx8))) hi hoc
    rw [hri] at e37
    simp only at x37 w37
    have hK37:Kp t.lv A G37:=(hK5.trans (Kp.ext hx8)).trans (Kp.ext x37)
    have hT37:=hT.kp hK37
    have hM37:Mem m t.l inv tx t.lv Z G37:=hM5.ext (hx8.trans x37) hT5.hlv.2
    have o37:G37.obj G.nx=some ⟨rSp.row (sp t.l i),1,false,1⟩:=by rw [hri]; exact (x37.obj _ (by have:=hx8.nx; omega)).trans o8
    obtain ⟨va,vc,ev37⟩:=w37.len
    have lv37:∀ x,ln Q true x av=some (.int .i64 (toldP m s (sp t.l i)).length):=fun x=>by rw [ev37]; simp
    simp [-Int.natCast_add,b232_0,clip_t,u0,u1,u2,u3,u4,u6,u13,u54,u55,t56,e0,h1,h2,hlt,hz,hst,← hG5,o4,er5,o6,o8,hld,loadO_whole,e37,lv37]
    refine Wp.bE ((inner_H (kv:=kv) (op:=decide (t.b.length≤row.length)) (row:=row) hT37 (slrKp hs hK37) hi (slrKp hr hK37) hrl hd (by omega) o37 (by have:=hx8.nx; have:=x37.nx; omega) hoc w37 l37 (ih i hlt hrp) (toldP m s (sp t.l i)).length 0 _ G37 (by omega) ⟨by simp [clip_t,u0],by simp [clip_t,u1],by simp [clip_t,u2],by simp [clip_t,u3],by simp [clip_t,u4],by simp [clip_t,u6],by simp [clip_t,u7],by simp [clip_t,u8],by simp [clip_t,u13,hop],by simp [clip_t,u14],by simp [clip_t,u54,e0],by simp [clip_t,u55]⟩ (by simp [clip_t,t56]) (by simp [clip_t]) (by simp [clip_t]) (by simp [clip_t]) (by simp [clip_t]) (by simp [clip_t]) (Kp.refl _ _) hM37).mono ?_)
    rintro ⟨ee,τ',G'⟩ (⟨q1,q2,q3,q4,q5,q6⟩ | ⟨q1,q2,⟨an,q3,s1,q4,q5⟩,q6⟩)
    ·simp only at q1 q2 q3 q5 q6
     subst q1
     obtain ⟨w0,w1,w2,w3,w4,w6,w7,w8,w13,w14,w54,w55⟩:=q5
     simp [-Int.natCast_add,w0,w1,w2,w3,w4,w6,w13,w54,w55,q6,hw]
     exact next _ _ ⟨by simp [clip_t,w0],by simp [clip_t,w1],by simp [clip_t,w2],by simp [clip_t,w3],by simp [clip_t,w4],by simp [clip_t,w6],by simp [clip_t,w7],by simp [clip_t,w8],by simp [clip_t,w13],by simp [clip_t,w14],by simp [clip_t,w54],by simp [clip_t,w55]⟩ (by simp [clip_t]) (hK37.trans q2) q3 fun _ s1 hs1=>by
      obtain ⟨_,_,an,k1,k2⟩:=hs1
      exact q4 an (by simpa using k1) s1 k2
    ·simp only at q1 q2 q6
     subst q1
     simp [-Int.natCast_add]
     exact .inr ⟨rfl,by simp [clip_t,q2],⟨i,s1,.inl hop,⟨hlt,hrp,an,by simpa using q3,q4⟩,q5⟩,Fd.of hK37 q6⟩
   ·simp [-Int.natCast_add,b232_0,clip_t,u0,u1,u2,u3,u4,u6,u13,u54,u55,t56,e0,h1,h2,hlt,hz,hst,← hG5,o4,er5,hw]
    exact next _ _ ⟨by simp [clip_t,u0],by simp [clip_t,u1],by simp [clip_t,u2],by simp [clip_t,u3],by simp [clip_t,u4],by simp [clip_t,u6],by simp [clip_t,u7],by simp [clip_t,u8],by simp [clip_t,u13,hop],by simp [clip_t,u14],by simp [clip_t,u54,e0],by simp [clip_t,u55]⟩ (by simp [clip_t]) (hK5.trans (Kp.ext hx8)) (hM5.ext hx8 hT5.hlv.2) fun _ s1 hs1=>absurd hs1.2.1 hrp
  ·have hop':decide (t.b.length≤row.length)=false:=by simp [hop]
   rw [hop'] at u13
   have hbl:row.length<t.b.length:=by omega
   obtain ⟨b1,o1,c1,e1,_,q1,_⟩:=hT5.hb.at (i:=row.length) (by simpa using hbl)
   have q1:=q1 0 (by decide)
   simp [rowsI] at q1
   simp only [List.length_map] at e1
   have r1:(row.length:Int)<t.b.length:=by omega
   have r2:(0:Int)≤row.length:=by omega
   by_cases hne:t.b[row.length]=i
   ·have hne':(i:Int)=(t.b[row.length]:Int):=by omega
    rcases hrd with ⟨er5,hrp⟩ | ⟨er5,hrp⟩
    ·have hT8:=hT5.kp (Kp.ext hx8)
     have o6:=hT8.c6
     have o8:G8.obj G.nx=some ⟨ri,1,false,1⟩:=(hx8.obj _ n5).trans o5
     obtain ⟨⟨av,G37⟩,e37,x37,w37,l37⟩:=told_H orc hT8.mc hT8.hB (slrKp hs (hK5.trans (Kp.ext hx8))) hi hoc
     rw [hri] at e37
     simp only at x37 w37
     have hK37:Kp t.lv A G37:=(hK5.trans (Kp.ext hx8)).trans (Kp.ext x37)
     have hT37:=hT.kp hK37
     have hM37:Mem m t.l inv tx t.lv Z G37:=hM5.ext (hx8.trans x37) hT5.hlv.2
     have o37:G37.obj G.nx=some ⟨rSp.row (sp t.l i),1,false,1⟩:=by rw [hri]; exact (x37.obj _ (by have:=hx8.nx; omega)).trans o8
     obtain ⟨va,vc,ev37⟩:=w37.len
     have lv37:∀ x,ln Q true x av=some (.int .i64 (toldP m s (sp t.l i)).length):=fun x=>by rw [ev37]; simp
     simp [-Int.natCast_add,b232_0,clip_t,u0,u1,u2,u3,u4,u6,u13,u54,u55,t56,e0,h1,h2,hlt,hz,hst,← hG5,o4,er5,o6,o8,hld,loadO_whole,e37,lv37,o3,lr,e1,r1,r2,hbl,q1,hne]
     refine Wp.bE ((inner_H (kv:=kv) (op:=decide (t.b.length≤row.length)) (row:=row) hT37 (slrKp hs hK37) hi (slrKp hr hK37) hrl hd (by omega) o37 (by have:=hx8.nx; have:=x37.nx; omega) hoc w37 l37 (ih i hlt hrp) (toldP m s (sp t.l i)).length 0 _ G37 (by omega) ⟨by simp [clip_t,u0],by simp [clip_t,u1],by simp [clip_t,u2],by simp [clip_t,u3],by simp [clip_t,u4],by simp [clip_t,u6],by simp [clip_t,u7],by simp [clip_t,u8],by simp [clip_t,u13,hop],by simp [clip_t,u14],by simp [clip_t,u54,e0],by simp [clip_t,u55]⟩ (by simp [clip_t,t56]) (by simp [clip_t]) (by simp [clip_t]) (by simp [clip_t]) (by simp [clip_t]) (by simp [clip_t]) (Kp.refl _ _) hM37).mono ?_)
     rintro ⟨ee,τ',G'⟩ (⟨q1,q2,q3,q4,q5,q6⟩ | ⟨q1,q2,⟨an,q3,s1,q4,q5⟩,q6⟩)
     ·simp only at q1 q2 q3 q5 q6
      subst q1
      obtain ⟨w0,w1,w2,w3,w4,w6,w7,w8,w13,w14,w54,w55⟩:=q5
      simp [-Int.natCast_add,w0,w1,w2,w3,w4,w6,w13,w54,w55,q6,hw]
      exact next _ _ ⟨by simp [clip_t,w0],by simp [clip_t,w1],by simp [clip_t,w2],by simp [clip_t,w3],by simp [clip_t,w4],by simp [clip_t,w6],by simp [clip_t,w7],by simp [clip_t,w8],by simp [clip_t,w13],by simp [clip_t,w14],by simp [clip_t,w54],by simp [clip_t,w55]⟩ (by simp [clip_t]) (hK37.trans q2) q3 fun _ s1 hs1=>by
       obtain ⟨_,_,an,k1,k2⟩:=hs1
       exact q4 an (by simpa using k1) s1 k2
     ·simp only at q1 q2 q6
      subst q1
      simp [-Int.natCast_add]
      exact .inr ⟨rfl,by simp [clip_t,q2],⟨i,s1,.inr (by rw [List.getElem?_eq_getElem hbl,hne]),⟨hlt,hrp,an,by simpa using q3,q4⟩,q5⟩,Fd.of hK37 q6⟩
    ·simp [-Int.natCast_add,b232_0,clip_t,u0,u1,u2,u3,u4,u6,u13,u54,u55,t56,e0,h1,h2,hlt,hz,hst,← hG5,o4,er5,hw,o3,lr,e1,r1,r2,hbl,q1,hne]
     exact next _ _ ⟨by simp [clip_t,u0],by simp [clip_t,u1],by simp [clip_t,u2],by simp [clip_t,u3],by simp [clip_t,u4],by simp [clip_t,u6],by simp [clip_t,u7],by simp [clip_t,u8],by simp [clip_t,u13,hop],by simp [clip_t,u14],by simp [clip_t,u54,e0],by simp [clip_t,u55]⟩ (by simp [clip_t]) (hK5.trans (Kp.ext hx8)) (hM5.ext hx8 hT5.hlv.2) fun _ s1 hs1=>absurd hs1.2.1 hrp
   ·have hne':¬ (i:Int)=(t.b[row.length]:Int):=by omega
    simp [-Int.natCast_add,b232_0,clip_t,u0,u1,u2,u3,u4,u6,u13,u54,u55,t56,e0,h1,h2,hlt,hz,hst,← hG5,o4,hw,o3,lr,e1,r1,r2,hbl,q1,hne']
    exact next _ _ ⟨by simp [clip_t,u0],by simp [clip_t,u1],by simp [clip_t,u2],by simp [clip_t,u3],by simp [clip_t,u4],by simp [clip_t,u6],by simp [clip_t,u7],by simp [clip_t,u8],by simp [clip_t,u13,hop],by simp [clip_t,u14],by simp [clip_t,u54,e0],by simp [clip_t,u55]⟩ (by simp [clip_t]) hK5 hM5 fun hal s1 hs1=>by
     rcases hal with h | h
     ·omega
     ·rw [List.getElem?_eq_getElem hbl] at h; cases h; exact absurd rfl hne
end
theorem or_gtH {d a:Nat} (h:d.testBit a=false):d<d ||| 1 <<< a:=by
 refine Nat.lt_of_le_of_ne Nat.left_le_or fun e=>?_
 have:(d ||| 1 <<< a).testBit a=true:=by rw [Nat.testBit_or,Nat.testBit_shiftLeft]; simp
 rw [← e,h] at this
 cases this
section
variable {α:Type} {orc:FuncId→Bool} {e:RowE α} {m:Mac α} {inv:List α→Prop} {tx:List α→ByteArray} {B:GS} {t:TeP}
theorem try_H:∀ (n:Nat) (Z:Nat→ByteArray→Prop) (s:List α) (d:Nat) (row:List Nat) (sv rowv:Value) (G:GS),2 ^ t.l.length≤d+n→d<2 ^ t.l.length→row.length≤d→(∀ d0 s0,Z d0 s0→d0<d)→Te orc e m inv tx 232 B t G→Mem m t.l inv tx t.lv Z G→SlR e G sv s→inv s→SlR (rowsI .i64) G rowv (rIH row) →
  Wp ((E orc).cl 232 [sv,.int .i64 (d:Int),rowv,Pp t.p3,Pp t.p4,Pp t.p5,Pp t.p6,Pp t.p7,Pp t.p8] G) (Out m inv tx t Z (Goes m t.l (t.b.drop row.length) s d) G):=by
 intro n
 induction n with
 | zero=>intro Z s d row sv rowv G h1 h2; omega
 | succ n ihn =>
  intro Z s d row sv rowv G hn hd hrd hZ hT hM hs hi hr
  have h11:=hT.len
  have hb:=hT.lenb
  have h2k:2 ^ t.l.length≤2 ^ 11:=Nat.pow_le_pow_right (by decide) h11
  have hd60:d<2 ^ 60:=by omega
  have hrl:row.length≤3000:=by omega
  obtain ⟨ra,rc,er⟩:=hr.len
  have er:rowv= .slice ra row.length rc:=by rw [er]; simp
  have lr:∀ x,ln Q true x rowv=some (.int .i64 row.length):=fun x=>by rw [er]; simp
  obtain ⟨ba,bc,eb⟩:=hT.hb.len
  have eb:t.bV= .slice ba t.b.length bc:=by rw [eb]; simp
  have lb:∀ x,ln Q true x t.bV=some (.int .i64 t.b.length):=fun x=>by rw [eb]; simp
  have o3:=hT.c3
  have o4:=hT.c4
  have back:∀ (G9:GS),Ext G G9→(t.b.length≤row.length→¬ ovrP t.l d)→∃ (G23 G33:GS) (es:List (Value×Value)),
    cValue (E orc) t.tv [sv] G9=some (.string (tx s),G9)∧G23=(G9.push ⟨z323,1,false,1⟩).put G9.nx ⟨[.int .i64 (d:Int),.string (tx s)],1,false,1⟩∧G33=(G23.push ⟨z324,1,false,1⟩).put G23.nx ⟨[],1,false,1⟩ ∧
    G9.obj t.p6=some ⟨[t.fv,t.nv,t.uv,t.tv],1,false,1⟩∧G23.obj t.p7=some ⟨[.map (some t.lv)],1,false,1⟩∧G23.obj G9.nx=some ⟨[.int .i64 (d:Int),.string (tx s)],1,false,1⟩∧G33.obj t.p4=some ⟨[t.lV],1,false,1⟩∧Ext G G33 ∧
    G23.loop t.lv=some (mpL es)∧MemOk m t.l inv tx es∧(∀ x∈es,∀ d0 s0,Z d0 s0→x.1≠ .agg #[.int .i64 (d0:Int),.string s0])∧G33.obj G9.nx=some ⟨[.int .i64 (d:Int),.string (tx s)],1,false,1⟩∧G33.loop t.lv=some (mpL es):=by
   intro G9 x9 ho
   obtain ⟨⟨r,G'⟩,h1,h2,h3⟩:=hT.mc.text G9 sv s (hT.hB.trans x9) (hs.ext x9) hi
   simp only at h2 h3
   subst h2
   rw [h3] at h1
   have hT9:=hT.kp (Kp.ext x9)
   have x23:Ext G9 ((G9.push ⟨z323,1,false,1⟩).put G9.nx ⟨[.int .i64 (d:Int),.string (tx s)],1,false,1⟩):=((Ext.refl G9).push _).put (Nat.le_refl _) _
   have k23:((G9.push ⟨z323,1,false,1⟩).put G9.nx ⟨[.int .i64 (d:Int),.string (tx s)],1,false,1⟩).obj G9.nx=some ⟨[.int .i64 (d:Int),.string (tx s)],1,false,1⟩:=by simp
   have n23:G9.nx<((G9.push ⟨z323,1,false,1⟩).put G9.nx ⟨[.int .i64 (d:Int),.string (tx s)],1,false,1⟩).nx:=by simp
   obtain ⟨G23,h23⟩:∃ G23,G23=(G9.push ⟨z323,1,false,1⟩).put G9.nx ⟨[.int .i64 (d:Int),.string (tx s)],1,false,1⟩:=⟨_,rfl⟩
   rw [← h23] at x23 k23 n23
   have x33:Ext G23 ((G23.push ⟨z324,1,false,1⟩).put G23.nx ⟨[],1,false,1⟩):=((Ext.refl G23).push _).put (Nat.le_refl _) _
   have hT23:=hT9.kp (Kp.ext x23)
   have hT33:=hT23.kp (Kp.ext x33)
   obtain ⟨es,l1,l2,l3⟩:=(hM.ext (x9.trans x23) hT.hlv.2)
   exact ⟨G23,_,es,h1,h23,rfl,hT9.c6,hT23.c7,k23,hT33.c4,(x9.trans x23).trans x33,l1,l2,l3,(x33.obj _ n23).trans k23,(x33.loop _ hT23.hlv.2).trans l1⟩
  have hst2:stO 2 0 (.agg ⟨[.int .i64 (d:Int),.string (tx s)]⟩) (some ⟨z323,1,false,1⟩)=some ⟨[.int .i64 (d:Int),.string (tx s)],1,false,1⟩:=rfl
  have hld2:loadO 2 0 (some ⟨[.int .i64 (d:Int),.string (tx s)],1,false,1⟩)=some (.agg ⟨[.int .i64 (d:Int),.string (tx s)]⟩):=loadO_whole rfl (by decide)
  have hst0:stO 0 0 (.agg #[]) (some ⟨z324,1,false,1⟩)=some ⟨[],1,false,1⟩:=rfl
  have hu:Q.underlying 320=some (.map 323 324):=Tryz.underlying320
  have hzv:prun Q (zeroValue 324)=some (.agg #[]):=by kernel_rfl
  have hgk:gStg (.agg #[.int .i64 (d:Int),.string (tx s)]):=⟨_,_,rfl⟩
  have ih':∀ a,a<t.l.length→rdyP t.l d a→∀ (G:GS) (sv1 rowv1:Value) (s1:List α),Te orc e m inv tx 232 B t G→Mem m t.l inv tx t.lv (fun d0 s0=>Z d0 s0∨(t.b.length≤row.length∧d0=d∧s0=tx s)) G→SlR e G sv1 s1→inv s1→SlR (rowsI .i64) G rowv1 (rIH (row++[a])) →
    Wp ((E orc).cl 232 [sv1,.int .i64 ((d ||| 1 <<< a:Nat):Int),rowv1,Pp t.p3,Pp t.p4,Pp t.p5,Pp t.p6,Pp t.p7,Pp t.p8] G) (Out m inv tx t (fun d0 s0=>Z d0 s0∨(t.b.length≤row.length∧d0=d∧s0=tx s)) (Goes m t.l (t.b.drop (row.length+1)) s1 (d ||| 1 <<< a)) G):=by
   intro a ha hra G sv1 rowv1 s1 h1 h2 h3 h4 h5
   have hgt:=or_gtH hra.1
   have hlt:d ||| 1 <<< a<2 ^ t.l.length:=Nat.or_lt_two_pow hd (by rw [Nat.shiftLeft_eq,Nat.one_mul]; exact Nat.pow_lt_pow_right (by decide) ha)
   have:=ihn (fun d0 s0=>Z d0 s0∨(t.b.length≤row.length∧d0=d∧s0=tx s)) s1 (d ||| 1 <<< a) (row++[a]) sv1 rowv1 G (by omega) hlt (by simp; omega) (fun d0 s0 h=>h.elim (fun h=>by have:=hZ d0 s0 h; omega) fun ⟨_,h,_⟩=>by omega) h1 h2 h3 h4 h5
   rw [List.length_append,List.length_singleton] at this
   exact this
  refine Wp.ref (f232 (exL_ok Q orc) _ _ _ _ _ _ _ _ _ G) ?_
  by_cases hop:t.b.length≤row.length
  ·have hop':(t.b.length:Int)≤row.length:=by omega
   have hdrop:t.b.drop row.length=[]:=List.drop_eq_nil_of_le hop
   obtain ⟨G9,x9,⟨eo,ho⟩ | ⟨eo,ho⟩⟩:=over_ok orc hT.hl (by omega) hd60
   ·have hT9:=hT.kp (Kp.ext x9)
    have o5:=hT9.c5
    obtain ⟨cv,G12,e6,x6,w6⟩:=cloneI_ok orc ((hr.ext x9).ext ((Ext.refl G9).room 5)) (by simp; omega)
    have xx:=((Ext.refl G9).room 5).trans x6
    have hT12:=hT9.kp (Kp.ext xx)
    have o12:=hT12.c5
    obtain ⟨G14,e14,f14⟩:=hT12.yl G12 cv hT12.r0 hT12.cf hT12.lt.2.2.2.2.2.2 hT12.hl0.1
    simp [-Int.natCast_add,s232,lr,lb,o3,o4,hop',eo,o5,e6,o12,e14]
    exact .inr ⟨rfl,by rw [hdrop]; exact (goes_nil m t.l).2 (.inl ho),Fd.of (Kp.ext (x9.trans xx)) f14⟩
   ·obtain ⟨G23,G33,es,etx,h23,h33,o6,o7,k23,o43,x33,l23,mok,mz,k33,l33⟩:=back G9 x9 fun _=>ho
    have hT33:=hT.kp (Kp.ext x33)
    obtain ⟨la,lc,el⟩:=hT33.hl.len
    by_cases hk:∃ x∈es,x.1= .agg #[.int .i64 (d:Int),.string (tx s)]
    ·obtain ⟨v,elk,hv⟩:=look_hit keyStg hu l23 mok.1 hgk hk
     have elk:gLookup Q 320 (.map (some t.lv)) (.agg ⟨[.int .i64 (d:Int),.string (tx s)]⟩) true G23=some (.tuple #[v,.bool true]):=elk
     cases hv
     simp [-Int.natCast_add,-cValue_func,s232,lr,lb,o3,o4,hop',eo,o6,etx,Value.cells,splice_put,splice_end,splice_succ,hst2,← h23,o7,k23,hld2,elk,pExtract,getN_zero,getN_succ,hst0,← h33]
     obtain ⟨x,hx,hxk⟩:=hk
     exact .inl ⟨rfl,by rw [hdrop]; exact mok.2 x hx s d hi hxk,Kp.ext x33,es,l33,mok,mz⟩
    ·have hnk:∀ x∈es,x.1≠ .agg #[.int .i64 (d:Int),.string (tx s)]:=fun x hx h=>hk ⟨x,hx,h⟩
     have elk:=look_miss keyStg hu hzv rfl l23 mok.1 hgk hnk
     have elk:gLookup Q 320 (.map (some t.lv)) (.agg ⟨[.int .i64 (d:Int),.string (tx s)]⟩) true G23=some (.tuple #[.agg #[],.bool false]):=elk
     have hM33:Mem m t.l inv tx t.lv (fun d0 s0=>Z d0 s0∨(t.b.length≤row.length∧d0=d∧s0=tx s)) G33:=⟨es,l33,mok,fun x hx d0 s0 h=>h.elim (mz x hx d0 s0) fun ⟨_,h1,h2⟩=>by rw [h1,h2]; exact hnk x hx⟩
     have lenl:∀ x,ln Q true x t.lV=some (.int .i64 t.l.length):=fun x=>by rw [el]; simp
     simp [-Int.natCast_add,-cValue_func,s232,lr,lb,o3,o4,hop',eo,o6,etx,Value.cells,splice_put,splice_end,splice_succ,hst2,← h23,o7,k23,hld2,elk,pExtract,getN_zero,getN_succ,hst0,← h33,o43,lenl]
     refine Wp.bE ((outer_H (kv:=Pp G9.nx) (Z:=fun d0 s0=>Z d0 s0∨(t.b.length≤row.length∧d0=d∧s0=tx s)) (row:=row) hT33 (hs.ext x33) hi (hr.ext x33) hrl hd60 ih' t.l.length 0 _ G33 (by omega) ⟨by simp,by simp,by simp,by simp,by simp,by simp,by simp,by simp,by simp [hop],by simp,by simp [el],by simp⟩ (by simp) (Kp.refl _ _) hM33).mono ?_)
     rintro ⟨ee,τ',G'⟩ (⟨q1,q2,q3,q4,q5⟩ | ⟨q1,q2,⟨a,s1,q3,q4,q5⟩,q6⟩)
     ·simp only at q1 q2 q3 q5
      subst q1
      have w7:=q5.t7
      have w13:=q5.t13
      have w14:=q5.t14
      have hT':=hT33.kp q2
      have o7':=hT'.c7
      have k39:G'.obj G9.nx=some ⟨[.int .i64 (d:Int),.string (tx s)],1,false,1⟩:=(q2.obj _ (by rw [h33,h23]; simp; omega)).trans k33
      obtain ⟨es',l',mok',mz'⟩:=q3
      have hnk':∀ x∈es',x.1≠ .agg #[.int .i64 (d:Int),.string (tx s)]:=fun x hx=>mz' x hx d (tx s) (.inr ⟨hop,rfl,rfl⟩)
      have eput:=map_put (v:=.agg #[]) keyStg hu l' mok'.1 hgk rfl hnk'
      have eput:gMapPut Q 320 (.map (some t.lv)) (.agg ⟨[.int .i64 (d:Int),.string (tx s)]⟩) (.agg ⟨z324⟩) G' =some (G'.putLoop t.lv (mpL (es' ++[(.agg #[.int .i64 (d:Int),.string (tx s)],.agg #[])]))):=eput
      have hno:¬ Goes m t.l [] s d:=fun h=>by
       rcases (goes_nil m t.l).1 h with h | ⟨a,s1,h1,h2⟩
       ·exact ho h
       ·exact q4 a (Nat.zero_le _) (.inl hop) s1 h1 (by rw [List.drop_eq_nil_of_le (by omega)]; exact h2)
      simp [-Int.natCast_add,w7,w13,w14,hop,o7',k39,hld2,eput]
      refine .inl ⟨rfl,by rw [hdrop]; exact hno,(Kp.ext x33).trans (q2.trans (Kp.put _ _)),_,by rw [GS.loop_put,if_pos rfl],⟨fun x hx=>?_,fun x hx s0 d0 hi0 hx0=>?_⟩,fun x hx d0 s0 hz=>?_⟩
      ·rcases List.mem_append.1 hx with hx | hx
       ·exact mok'.1 x hx
       ·rw [List.mem_singleton.1 hx]; exact ⟨hgk,rfl⟩
      ·rcases List.mem_append.1 hx with hx | hx
       ·exact mok'.2 x hx s0 d0 hi0 hx0
       ·rw [List.mem_singleton.1 hx] at hx0
        simp only [Value.agg.injEq,Array.mk.injEq,List.cons.injEq,Value.int.injEq,true_and,Value.string.injEq,and_true] at hx0
        have e1:d=d0:=by have:=hx0.1; omega
        have e2:=hT.mc.inj s s0 hi hi0 hx0.2
        subst e1 e2
        exact hno
      ·rcases List.mem_append.1 hx with hx | hx
       ·exact mz' x hx d0 s0 (.inl hz)
       ·rw [List.mem_singleton.1 hx]
        intro h
        simp only [Value.agg.injEq,Array.mk.injEq,List.cons.injEq,Value.int.injEq,true_and,Value.string.injEq,and_true] at h
        have:=hZ d0 s0 hz
        have:=h.1
        omega
     ·simp only at q1 q2 q6
      subst q1
      simp [-Int.natCast_add,q2]
      refine .inr ⟨rfl,?_,Fd.of (Kp.ext x33) q6⟩
      rw [hdrop]
      rw [List.drop_eq_nil_of_le (by omega)] at q5
      exact (goes_nil m t.l).2 (.inr ⟨a,s1,q4,q5⟩)
  ·have hop':¬ (t.b.length:Int)≤row.length:=by omega
   have hbl:row.length<t.b.length:=by omega
   have hdrop:=List.drop_eq_getElem_cons hbl
   obtain ⟨G23,G33,es,etx,h23,h33,o6,o7,k23,o43,x33,l23,mok,mz,k33,l33⟩:=back G (Ext.refl G) fun h=>absurd h hop
   have hT33:=hT.kp (Kp.ext x33)
   obtain ⟨la,lc,el⟩:=hT33.hl.len
   have lenl:∀ x,ln Q true x t.lV=some (.int .i64 t.l.length):=fun x=>by rw [el]; simp
   have hM33:Mem m t.l inv tx t.lv (fun d0 s0=>Z d0 s0∨(t.b.length≤row.length∧d0=d∧s0=tx s)) G33:=⟨es,l33,mok,fun x hx d0 s0 h=>h.elim (mz x hx d0 s0) fun ⟨h,_⟩=>absurd h hop⟩
   have hno:(∀ a,0≤a→AlwH t.b row.length a→∀ s1,Step m t.l s d a s1→¬ Goes m t.l (t.b.drop (row.length+1)) s1 (d ||| 1 <<< a))→¬ Goes m t.l (t.b.drop row.length) s d:=fun q4 h=>by
    rw [hdrop] at h
    obtain ⟨s1,h1,h2⟩:=(goes_cons m t.l).1 h
    exact q4 _ (Nat.zero_le _) (.inr (List.getElem?_eq_getElem hbl)) s1 h1 h2
   have hyes:∀ a s1,AlwH t.b row.length a→Step m t.l s d a s1→Goes m t.l (t.b.drop (row.length+1)) s1 (d ||| 1 <<< a)→Goes m t.l (t.b.drop row.length) s d:=fun a s1 h1 h2 h3=>by
    rw [hdrop]
    rcases h1 with h1 | h1
    ·exact absurd h1 hop
    ·rw [List.getElem?_eq_getElem hbl] at h1
     cases h1
     exact (goes_cons m t.l).2 ⟨s1,h2,h3⟩
   by_cases hk:∃ x∈es,x.1= .agg #[.int .i64 (d:Int),.string (tx s)]
   ·obtain ⟨v,elk,hv⟩:=look_hit keyStg hu l23 mok.1 hgk hk
    have elk:gLookup Q 320 (.map (some t.lv)) (.agg ⟨[.int .i64 (d:Int),.string (tx s)]⟩) true G23=some (.tuple #[v,.bool true]):=elk
    cases hv
    simp [-Int.natCast_add,-cValue_func,s232,lr,lb,o3,o4,hop',o6,etx,Value.cells,splice_put,splice_end,splice_succ,hst2,← h23,o7,k23,hld2,elk,pExtract,getN_zero,getN_succ,hst0,← h33,o43,lenl]
    refine Wp.bE ((outer_H (kv:=Pp G.nx) (Z:=fun d0 s0=>Z d0 s0∨(t.b.length≤row.length∧d0=d∧s0=tx s)) (row:=row) hT33 (hs.ext x33) hi (hr.ext x33) hrl hd60 ih' t.l.length 0 _ G33 (by omega) ⟨by simp,by simp,by simp,by simp,by simp,by simp,by simp,by simp,by simp [hop],by simp,by simp [el],by simp⟩ (by simp) (Kp.refl _ _) hM33).mono ?_)
    rintro ⟨ee,τ',G'⟩ (⟨q1,q2,q3,q4,q5⟩ | ⟨q1,q2,⟨a,s1,q3,q4,q5⟩,q6⟩)
    ·simp only at q1 q2 q3 q5
     subst q1
     have w13:=q5.t13
     obtain ⟨es',l',mok',mz'⟩:=q3
     simp [-Int.natCast_add,w13,hop]
     exact .inl ⟨rfl,hno q4,(Kp.ext x33).trans q2,es',l',mok',fun x hx d0 s0 hz=>mz' x hx d0 s0 (.inl hz)⟩
    ·simp only at q1 q2 q6
     subst q1
     simp [-Int.natCast_add,q2]
     exact .inr ⟨rfl,hyes a s1 q3 q4 q5,Fd.of (Kp.ext x33) q6⟩
   ·have hnk:∀ x∈es,x.1≠ .agg #[.int .i64 (d:Int),.string (tx s)]:=fun x hx h=>hk ⟨x,hx,h⟩
    have elk:=look_miss keyStg hu hzv rfl l23 mok.1 hgk hnk
    have elk:gLookup Q 320 (.map (some t.lv)) (.agg ⟨[.int .i64 (d:Int),.string (tx s)]⟩) true G23=some (.tuple #[.agg #[],.bool false]):=elk
    simp [-Int.natCast_add,-cValue_func,s232,lr,lb,o3,o4,hop',o6,etx,Value.cells,splice_put,splice_end,splice_succ,hst2,← h23,o7,k23,hld2,elk,pExtract,getN_zero,getN_succ,hst0,← h33,o43,lenl]
    refine Wp.bE ((outer_H (kv:=Pp G.nx) (Z:=fun d0 s0=>Z d0 s0∨(t.b.length≤row.length∧d0=d∧s0=tx s)) (row:=row) hT33 (hs.ext x33) hi (hr.ext x33) hrl hd60 ih' t.l.length 0 _ G33 (by omega) ⟨by simp,by simp,by simp,by simp,by simp,by simp,by simp,by simp,by simp [hop],by simp,by simp [el],by simp⟩ (by simp) (Kp.refl _ _) hM33).mono ?_)
    rintro ⟨ee,τ',G'⟩ (⟨q1,q2,q3,q4,q5⟩ | ⟨q1,q2,⟨a,s1,q3,q4,q5⟩,q6⟩)
    ·simp only at q1 q2 q3 q5
     subst q1
     have w13:=q5.t13
     obtain ⟨es',l',mok',mz'⟩:=q3
     simp [-Int.natCast_add,w13,hop]
     exact .inl ⟨rfl,hno q4,(Kp.ext x33).trans q2,es',l',mok',fun x hx d0 s0 hz=>mz' x hx d0 s0 (.inl hz)⟩
    ·simp only at q1 q2 q6
     subst q1
     simp [-Int.natCast_add,q2]
     exact .inr ⟨rfl,hyes a s1 q3 q4 q5,Fd.of (Kp.ext x33) q6⟩
end
theorem extNewH {A G:GS} (h:Ext A G):Ext A G.newMap:=⟨h.nx,h.obj,Nat.le_trans h.nl (Nat.le_succ _),fun k hk=>by
 have:k≠G.nl:=by have:=h.nl; omega
 show (G.pushLoop _).loop k=_
 rw [GS.loop_push,if_neg this]; exact h.loop k hk⟩
section
variable {α:Type} {orc:FuncId→Bool} {e:RowE α} {m:Mac α} {inv:List α→Prop} {tx:List α→ByteArray} {B:GS} {fv nv uv tv lV bV:Value} {l:List Sp} {b:List Nat} {G:GS}
theorem ord1_H {H:GS} {p3 p4 p6 l0 fl:Nat} {R:Lp} (hm:MacC orc e m inv tx B fv nv uv tv) (hB:Ext B H) (lt:p3<H.nx∧p4<H.nx∧p6<H.nx∧fl<H.nx) (hl0:l0<H.nl)
  (c3:H.obj p3=some ⟨[bV],1,false,1⟩) (c4:H.obj p4=some ⟨[lV],1,false,1⟩) (c6:H.obj p6=some ⟨[fv,nv,uv,tv],1,false,1⟩) (cf:H.obj fl=some ⟨[.bool false],1,false,1⟩) (r0:H.loop l0=some R)
  (hl:SlR rSp H lV l) (hb:SlR (rowsI .i64) H bV (rIH b)) (okl:∀ c∈l,okOp c.op) (len:l.length≤11) (lenb:b.length≤3000)
  (yl:∀ (t:TeP),t.l0=l0→t.fl=fl→t.R=R→∀ (G1:GS) (v:Value),G1.loop l0=some R→G1.obj fl=some ⟨[.bool false],1,false,1⟩→fl<G1.nx→l0<G1.nl→∃ G2,(E orc).rd l0 [v] G1=some (.bool false,G2)∧Fd t G1 G2) :
  Wp ((E orc).cl 231 [.func (.yield l0) #[] #[],Pp p3,Pp p4,Pp p6] H) fun r=>r.1= .tuple #[]∧((¬ Goes m l b m.first 0∧Ext H r.2)∨(Goes m l b m.first 0∧H.nx≤r.2.nx∧(∀ g,g<H.nx→g≠fl→r.2.obj g=H.obj g)∧r.2.obj fl=some ⟨[.bool true],1,false,1⟩∧H.nl≤r.2.nl∧(∀ k,k<H.nl→k≠l0→r.2.loop k=H.loop k)∧∃ r',r.2.loop l0=some r' ∧r'.st= .done∧jumpOf r'.pend=some .ret)):=by
 obtain ⟨g1,g2,g3,g4⟩:=lt
 refine Wp.ref (f231 (exL_ok Q orc) _ _ _ _ H) ?_
 have n3:¬ p6=H.nx:=by omega
 have n4:¬ p6=H.nx+1:=by omega
 have n5:¬ p6=H.nx+1+1:=by omega
 have hsm:stO 1 0 (.map (some H.nl)) (some ⟨z320,1,false,1⟩)=some ⟨[.map (some H.nl)],1,false,1⟩:=rfl
 have mx:∀ G:GS,G.newMap.nx=G.nx:=fun _=>rfl
 have mo:∀ (G:GS) (g:Nat),G.newMap.obj g=G.obj g:=fun _ _=>rfl
 obtain ⟨G9,h9⟩:∃ G9,G9=(((((H.push ⟨[.func (.yield l0) #[] #[]],1,false,1⟩).newMap.push ⟨z320,1,false,1⟩).put (H.nx+1) ⟨[.map (some H.nl)],1,false,1⟩).push ⟨z331,1,false,1⟩).put (H.nx+1+1) ⟨[.func (.func 232) #[] #[Pp p3,Pp p4,Pp H.nx,Pp p6,Pp (H.nx+1),Pp (H.nx+1+1)]],1,false,1⟩):=⟨_,rfl⟩
 have x9:Ext H G9:=by
  rw [h9]
  exact Ext.put (Ext.push (Ext.put (Ext.push (extNewH ((Ext.refl H).push _)) _) (by omega) _) _) (by omega) _
 have n9:G9.nx=H.nx+3:=by rw [h9]; simp [mx]
 have l9:G9.nl=H.nl+1:=by rw [h9]; rfl
 have ne2:¬ H.nx=H.nx+1+1:=by omega
 have o5:G9.obj H.nx=some ⟨[.func (.yield l0) #[] #[]],1,false,1⟩:=by rw [h9]; simp [mx,mo,ne2]
 have o7:G9.obj (H.nx+1)=some ⟨[.map (some H.nl)],1,false,1⟩:=by rw [h9]; simp [mx,mo]
 have o8:G9.obj (H.nx+1+1)=some ⟨[.func (.func 232) ⟨[]⟩ ⟨[Pp p3,Pp p4,Pp H.nx,Pp p6,Pp (H.nx+1),Pp (H.nx+1+1)]⟩],1,false,1⟩:=by rw [h9]; simp [mx,mo]
 have lp9:G9.loop H.nl=some (mpL []):=by rw [h9]; exact newMap_loop (H.push _)
 have te:Te orc e m inv tx 232 B ⟨p3,p4,H.nx,p6,H.nx+1,H.nx+1+1,H.nl,l0,fl,bV,lV,fv,nv,uv,tv,l,b,R⟩ G9 :=
  ⟨hm,hB.trans x9,⟨hB.nl,by simp only; omega⟩,⟨by simp only; omega,by simp only; omega⟩,⟨by simp only; omega,by simp only; omega,by simp only; omega,by simp only; omega,by simp only; omega,by simp only; omega,by simp only; omega⟩,
   (x9.obj _ g1).trans c3,(x9.obj _ g2).trans c4,o5,(x9.obj _ g3).trans c6,o7,o8,(x9.obj _ g4).trans cf,hb.ext x9,hl.ext x9,okl,len,lenb,(x9.loop _ hl0).trans r0,fun G1 v k1 k2 k3 k4=>yl _ rfl rfl rfl G1 v k1 k2 k3 k4⟩
 have hM:Mem m l inv tx H.nl (fun _ _=>False) G9:=⟨[],lp9,⟨fun _ h=>(by cases h),fun _ h=>(by cases h)⟩,fun _ h=>(by cases h)⟩
 obtain ⟨⟨r,G14⟩,et,ho⟩:=try_H (2 ^ l.length) (fun _ _=>False) m.first 0 [] fv (.slice none 0 0) G9 (by simp) (Nat.two_pow_pos _) (by simp) (fun _ _ h=>h.elim) te hM (hm.first.ext (hB.trans x9)) hm.inv0 SlR.nil
 have et:(E orc).cl 232 [fv,.int .i64 0,.slice none 0 0,Pp p3,Pp p4,Pp H.nx,Pp p6,Pp (H.nx+1),Pp (H.nx+1+1)] G9=some (r,G14):=et
 simp [s231,mBox,Value.cells,nm,c6,n3,n4,n5,hsm,mx,mo,← h9,et]
 rcases ho with ⟨h1,h2,h3,h4⟩ | ⟨h1,h2,h3⟩
 ·left
  simp only [List.length_nil,List.drop_zero] at h2
  refine ⟨h2,Nat.le_trans x9.nx h3.nx,fun g hg=>(h3.obj g (by omega)).trans (x9.obj g hg),Nat.le_trans x9.nl h3.nl,fun k hk=>(h3.loop k (by omega) (by simp only; omega)).trans (x9.loop k hk)⟩
 ·right
  simp only [List.length_nil,List.drop_zero] at h2
  have y1:=h3.nx
  have y2:=h3.nl
  refine ⟨h2,by simp only at y1; omega,fun g hg hn=>(h3.obj g (by omega) hn).trans (x9.obj g hg),h3.fl,by simp only at y2; omega,fun k hk hn=>(h3.loop k (by omega) (by simp only; omega) hn).trans (x9.loop k hk),h3.l0⟩
theorem orders_H (hl:SlR rSp G lV l) (hb:SlR (rowsI .i64) G bV (rIH b)) :
  (E orc).cl 173 [.agg ⟨[fv,nv,uv,tv]⟩,lV,bV] G=some (.func (.func 231) ⟨[]⟩ ⟨[Pp (G.nx+2),Pp (G.nx+1),Pp G.nx]⟩,((G.push ⟨[fv,nv,uv,tv],1,false,1⟩).push ⟨[lV],1,false,1⟩).push ⟨[bV],1,false,1⟩):=by
 obtain ⟨la,lc,el⟩:=hl.len
 obtain ⟨ba,bc,eb⟩:=hb.len
 have w:Wp ((E orc).cl 173 [.agg ⟨[fv,nv,uv,tv]⟩,lV,bV] G) fun r=>r=(.func (.func 231) ⟨[]⟩ ⟨[Pp (G.nx+2),Pp (G.nx+1),Pp G.nx]⟩,((G.push ⟨[fv,nv,uv,tv],1,false,1⟩).push ⟨[lV],1,false,1⟩).push ⟨[bV],1,false,1⟩):=by
  refine Wp.ref (f173 (exL_ok Q orc) _ _ _ G) ?_
  subst el eb
  simp [s173,mBox,Value.cells]
 obtain ⟨r,h1,h2⟩:=w
 rw [h1,h2]
theorem begins_H (hm:MacC orc e m inv tx B fv nv uv tv) (hB:Ext B G) (hl:SlR rSp G lV l) (hb:SlR (rowsI .i64) G bV (rIH b)) (okl:∀ c∈l,okOp c.op) (len:l.length≤11) (lenb:b.length≤3000) :
  Wp ((E orc).cl 107 [.agg ⟨[fv,nv,uv,tv]⟩,lV,bV] G) fun r=>Ext G r.2∧(r.1= .bool true∧Goes m l b m.first 0∨r.1= .bool false∧¬ Goes m l b m.first 0):=by
 refine Wp.ref (f107 (exL_ok Q orc) _ _ _ G) ?_
 have x2:Ext G ((G.push ⟨[fv,nv,uv,tv],1,false,1⟩).push ⟨[.bool false],1,false,1⟩):=((Ext.refl G).push _).push _
 have e1:=orders_H (orc:=orc) (fv:=fv) (nv:=nv) (uv:=uv) (tv:=tv) (hl.ext x2) (hb.ext x2)
 simp [s107,mBox,Value.cells,e1,loadO_whole]
 obtain ⟨T,hT⟩:∃ T,T=lst 12 (tu (nth undef [Value.agg { toList:=[fv,nv,uv,tv] },lV,bV]) [(10,Value.func (Fn.func 231) { toList:=[] } { toList:=[Pp (G.nx+1+1+2),Pp (G.nx+1+1+1),Pp (G.nx+1+1)] }),(9,bV),(8,lV),(7,Value.agg { toList:=[fv,nv,uv,tv] }),(6,Pp (G.nx+1)),(3,Pp G.nx)]):=⟨_,rfl⟩
 have T6:nth undef T 6=Pp (G.nx+1):=by rw [hT]; rfl
 have T12:T.length=12:=by rw [hT]; rfl
 rw [← hT]
 obtain ⟨H,hH⟩:∃ H,H=((((G.push ⟨[fv,nv,uv,tv],1,false,1⟩).push ⟨[.bool false],1,false,1⟩).push ⟨[fv,nv,uv,tv],1,false,1⟩).push ⟨[lV],1,false,1⟩).push ⟨[bV],1,false,1⟩:=⟨_,rfl⟩
 rw [← hH]
 have xH:Ext G H:=by rw [hH]; exact (((((Ext.refl G).push _).push _).push _).push _).push _
 have nH:H.nx=G.nx+5:=by rw [hH]; simp
 have lH:H.nl=G.nl:=by rw [hH]; rfl
 obtain ⟨R,hR⟩:∃ R,R=(⟨.ready,none,T,[11],subAt [1,0,1,0,0] (bodyOf Tryz.f107),subAt [1,0,1,0,1] (bodyOf Tryz.f107)⟩:Lp):=⟨_,rfl⟩
 rw [← hR]
 have xP:Ext G (H.pushLoop R):=⟨xH.nx,xH.obj,Nat.le_trans xH.nl (Nat.le_succ _),fun k hk=>by rw [GS.loop_push,if_neg (by omega)]; exact xH.loop k hk⟩
 have k1:∀ g,(H.pushLoop R).obj g=H.obj g:=fun _=>rfl
 have w:=ord1_H (orc:=orc) (H:=H.pushLoop R) (p3:=G.nx+1+1+2) (p4:=G.nx+1+1+1) (p6:=G.nx+1+1) (l0:=G.nl) (fl:=G.nx+1) (R:=R) hm (hB.trans xP) (by show _<H.nx∧_<H.nx∧_<H.nx∧_<H.nx; omega) (by show _<H.nl+1; omega)
  (by rw [k1,hH]; simp) (by rw [k1,hH]; simp) (by rw [k1,hH]; simp) (by rw [k1,hH]; simp) (by rw [GS.loop_push,if_pos lH.symm]) (hl.ext xP) (hb.ext xP) okl len lenb ?yl
 case yl =>
  intro t t0 tf tR G1 v r1 r2 r3 r4
  have w:Wp ((E orc).rd G.nl [v] G1) fun q=>q=(.bool false,((G1.putLoop G.nl (R.setSt .busy)).put (G.nx+1) ⟨[.bool true],1,false,1⟩).putLoop G.nl { R.setSt .busy with st:=.done,pend:=some .ret }):=by
   refine Wp.ref (d107_0 (exL_ok Q orc) G.nl T v G1 (st:=.ready) (pend:=none) (by rw [r1,hR]) T12) ?_
   have hst:stO 1 0 (.bool true) (some ⟨[.bool false],1,false,1⟩)=some ⟨[.bool true],1,false,1⟩:=rfl
   have hR':R.st= .ready:=by rw [hR]
   simp [r107_0,T6,r1,hR',r2,hst,roundEnd,codeOf]
  obtain ⟨r,w1,w2⟩:=w
  rw [w2] at w1
  refine ⟨_,w1,⟨Nat.le_refl _,fun g hg hn=>?_,?_,Nat.le_refl _,fun k hk hn h0=>?_,?_⟩⟩
  ·rw [tf] at hn; simp [hn]
  ·rw [tf]; simp
  ·rw [t0] at h0; rw [GS.loop_put,if_neg h0]; show (G1.putLoop _ _).loop k=_; rw [GS.loop_put,if_neg h0]
  ·rw [t0]; exact ⟨_,by rw [GS.loop_put,if_pos rfl],rfl,rfl⟩
 obtain ⟨⟨r,G14⟩,e14,rfl,ho⟩:=w
 simp only at ho
 rw [show (evL Q orc).cl 231 [.func (.yield G.nl) #[] #[],Pp (G.nx+1+1+2),Pp (G.nx+1+1+1),Pp (G.nx+1+1)] (H.pushLoop R)=some (.tuple #[],G14) from e14]
 have pn:(H.pushLoop R).nx=G.nx+5:=nH
 have pl:(H.pushLoop R).nl=G.nl+1:=by show H.nl+1=_; omega
 rcases ho with ⟨h1,h2⟩ | ⟨h1,h2,h3,h4,h5,h6,r',h7,h8,h9⟩
 ·have q1:G14.loop G.nl=some R:=by rw [h2.loop _ (by omega),GS.loop_push,if_pos lH.symm]
  rw [xRangeEnd_some G.nl T _ G14 q1 (by rw [hR]; exact fun h=>by cases h) (e:=.normal) (by rw [hR]; rfl)]
  have q2:G14.obj (G.nx+1)=some ⟨[.bool false],1,false,1⟩:=by rw [h2.obj _ (by omega),k1,hH]; simp
  have hst:stO 1 0 (.bool false) (some ⟨[.bool false],1,false,1⟩)=some ⟨[.bool false],1,false,1⟩:=rfl
  simp [T6,q2,hst,h1]
  have xx:=xP.trans h2
  exact ⟨xx.nx,fun g hg=>by
   have:¬ g=G.nx+1:=by omega
   simp [this]; exact xx.obj g hg,xx.nl,fun k hk=>by
   have:¬ k=G.nl:=by omega
   show (G14.putLoop _ _).loop k=_
   rw [GS.loop_put,if_neg this]; exact xx.loop k hk⟩
 ·rw [xRangeEnd_some G.nl T _ G14 h7 (by rw [h8]; decide) h9]
  simp [T6,h4,h1]
  exact ⟨by show G.nx≤G14.nx; omega,fun g hg=>by
   show G14.obj g=_
   rw [h3 g (by omega) (by omega)]; exact xP.obj g hg,by show G.nl≤G14.nl; omega,fun k hk=>by
   have:¬ k=G.nl:=by omega
   rw [GS.loop_put,if_neg this,h6 k (by omega) this]; exact xP.loop k hk⟩
end
theorem dn_ltH {n:Nat}:∀ {row:List Nat} {d:Nat},(∀ a∈row,a<n)→d<2 ^ n→dn row d<2 ^ n
 | [],d,_,h=>h
 | a::row,d,h1,h2=>dn_ltH (row:=row) (fun x hx=>h1 x (List.mem_cons_of_mem _ hx)) (Nat.or_lt_two_pow h2 (by rw [Nat.shiftLeft_eq,Nat.one_mul]; exact Nat.pow_lt_pow_right (by decide) (h1 a (List.mem_cons_self ..))))
theorem dn_snocH (row:List Nat) (a d:Nat):dn (row++[a]) d=dn row d ||| 1 <<< a:=by simp [dn,List.foldl_append]
theorem way_lenH {α:Type} {m:Mac α} {l:List Sp} {s s2:List α} {d d2:Nat} {row:List Nat} (h:Way m l s d row s2 d2):d+row.length≤d2:=by
 induction h with
 | nil=>simp
 | cons h1 h2 h3 h4 h5 ih =>
  have:=or_gtH h2.1
  simp only [List.length_cons]
  omega
section
variable {α:Type} {orc:FuncId→Bool} {e:RowE α} {m:Mac α} {inv:List α→Prop} {tx:List α→ByteArray} {B A:GS} {fv nv uv tv lV:Value} {l:List Sp}
theorem goes_rowH {row:List Nat} (h:Goes m l row m.first 0):row.length≤dn row 0∧dn row 0<2 ^ l.length:=by
 obtain ⟨r,s2,d2,hw,_⟩:=h
 obtain ⟨h1,h2,_⟩:=way_fresh hw
 have h3:∀ a∈row,a<l.length:=fun a ha=>(h1 a (List.mem_append_left _ ha)).2
 obtain ⟨s1,d1,k1,_⟩:=way_app.1 hw
 have:=way_lenH k1
 have e:=way_dn k1
 exact ⟨by omega,dn_ltH h3 (Nat.two_pow_pos _)⟩
structure OrSH (m:Mac α) (l:List Sp) (A G:GS) (rowv outv:Value) (row:List Nat):Prop where
 hA:Ext A G
 w1:OwR (rowsI .i64) A.nx G rowv (rIH row)
 w2:OwR (rowsI .i64) A.nx G outv (row.map fun a=>(sp l a).id)
 sep:∀ g,InB rowv g→¬ InB outv g
 go:Goes m l row m.first 0
theorem OrSH.ext {G G':GS} {rowv outv:Value} {row:List Nat} (h:OrSH m l A G rowv outv row) (x:Ext G G'):OrSH m l A G' rowv outv row:=⟨h.hA.trans x,h.w1.ext x,h.w2.ext x,h.sep,h.go⟩
def OrPH (m:Mac α) (l:List Sp) (A:GS) (lV:Value) (p2:Nat) (row:List Nat) (q:Exit×Env×GS):Prop :=
 q.1= .exit 2∧∃ a,q.2.1 1=lV∧q.2.1 2=Pp p2∧q.2.1 8= .int .i64 (dn (row++[a]) 0:Nat)∧OrSH m l A q.2.2 (q.2.1 6) (q.2.1 7) (row++[a])
theorem ordIn_H (hm:MacC orc e m inv tx B fv nv uv tv) (hB:Ext B A) (hl:SlR rSp A lV l) (okl:∀ c∈l,okOp c.op) (len:l.length≤11) {p2:Nat} (c2:A.obj p2=some ⟨[fv,nv,uv,tv],1,false,1⟩) (hp2:p2<A.nx) {row:List Nat} {rowv outv:Value} :
  ∀ (k i:Nat) (τ:Env) (G:GS),i+k=l.length→(∃ a,i≤a∧a<l.length∧rdyP l (dn row 0) a∧Goes m l (row++[a]) m.first 0)→τ 1=lV→τ 2=Pp p2→τ 6=rowv→τ 7=outv→τ 8= .int .i64 (dn row 0:Nat)→τ 20=lV→τ 21= .int .i64 l.length→τ 22= .int .i64 (i:Int)→OrSH m l A G rowv outv row →
  Wp ((exL Q orc).lpx 42 1 τ G) (OrPH m l A lV p2 row):=by
 intro k
 induction k with
 | zero=>rintro i τ G hi ⟨a,h1,h2,_⟩; omega
 | succ k ih =>
  intro i τ G hi hex t1 t2 t6 t7 t8 t20 t21 t22 hS
  have hlt:i<l.length:=by omega
  have hw:IntKind.wrap .i64 ((i:Int)+1)=((i+1:Nat):Int):=wrap64 (by omega) (by omega)
  have h1:(i:Int)<l.length:=by omega
  have h2:(0:Int)≤i:=by omega
  have h3:¬ ((i:Int)<0):=by omega
  obtain ⟨hrl,hdl⟩:=goes_rowH hS.go
  have h2k:2 ^ l.length≤2 ^ 11:=Nat.pow_le_pow_right (by decide) len
  have hd60:dn row 0<2 ^ 60:=Nat.lt_of_lt_of_le hdl (Nat.pow_le_pow_right (by decide) (by omega))
  obtain ⟨b,o,cc,e0,hbG,_,hz⟩:=(hl.ext hS.hA).at hlt
  have hsp:=sp_at hlt
  rw [rSp_sz,← hsp,loadA_eq] at hz
  have hst:stO 10 0 (.agg ⟨rSp.row (sp l i)⟩) (some ⟨z29,1,false,1⟩)=some ⟨rSp.row (sp l i),1,false,1⟩:=rfl
  have hid:(rSp.row (sp l i))[0]? =some (.int .i64 (sp l i).id):=rfl
  generalize hri:rSp.row (sp l i)=ri at *
  obtain ⟨G5,hG5⟩:∃ G5,G5=(G.push ⟨z29,1,false,1⟩).put G.nx ⟨ri,1,false,1⟩:=⟨_,rfl⟩
  have x5:Ext G G5:=by rw [hG5]; exact ((Ext.refl G).push _).put (Nat.le_refl _) _
  have o5:G5.obj G.nx=some ⟨ri,1,false,1⟩:=by rw [hG5]; simp
  have n5:G.nx<G5.nx:=by rw [hG5]; simp
  have hS5:=(hS.ext x5).ext ((Ext.refl G5).room 14)
  obtain ⟨G6,x6,hrd⟩:=ready_ok orc (hl.ext hS5.hA) (by omega) hd60 hlt
  rw [e0] at hrd
  have hS6:=hS5.ext x6
  have o26:=(hS6.hA.obj _ hp2).trans c2
  rcases hrd with ⟨er5,hrp⟩ | ⟨er5,hrp⟩
  ·obtain ⟨cv,G11,e11,x11,w11⟩:=cloneI_ok orc hS6.w1.is (by simp; omega)
   have hS11:=hS6.ext x11
   have o211:=(hS11.hA.obj _ hp2).trans c2
   have y6:=x6.nx
   have y11:=x11.nx
   simp at y6
   have xD:Ext G5 (((G11.at' (G5.nx+10)).push ⟨[.int .i64 (i:Int)],1,false,1⟩).back G11):=drawn0 (((Ext.refl G5).room 14).trans (x6.trans x11)) (by omega) _
   have sl:SlR (rowsI .i64) (((G11.at' (G5.nx+10)).push ⟨[.int .i64 (i:Int)],1,false,1⟩).back G11) (.slice (some ⟨G5.nx+10,0,none⟩) 1 1) [(i:Int)]:=SlR.oneD (rowsI .i64) G11 (i:Int) (by omega)
   have w26:OwR (rowsI .i64) G5.nx (((G11.at' (G5.nx+10)).push ⟨[.int .i64 (i:Int)],1,false,1⟩).back G11) cv (rIH row):=by
    refine (w11.same (by simp) fun p n c he=>?_).mono (by omega)
    have:=w11.ge p n c he
    have hne:¬ p.block=G5.nx+10:=by omega
    simp [hne]
   obtain ⟨cv',G16,e16,x16,w16⟩:=OwR.app (ib:=8) w26 (by decide) xD sl (by simp; omega)
   rw [show (rowsI .i64).sz=1 from rfl] at e16
   have hS16:OrSH m l A G16 rowv outv row:=(hS.ext x5).ext x16
   have o216:=(hS16.hA.obj _ hp2).trans c2
   obtain ⟨⟨r,G18⟩,e18,x18,hr18⟩:=begins_H (orc:=orc) (b:=row++[i]) hm (hB.trans hS16.hA) (hl.ext hS16.hA) (bV:=cv') (by have:=w16.is; rw [rIH,List.map_append]; exact this) okl len (by simp; omega)
   simp only at x18 hr18
   rw [e0] at e18
   have hS18:=hS16.ext x18
   refine Wp.lp (l42_1 (exL_ok Q orc)) ?_
   rcases hr18 with ⟨rfl,hg⟩ | ⟨rfl,hg⟩
   ·simp [-Int.natCast_add,b42_1,clip_t,t1,t2,t6,t7,t8,t20,t21,t22,e0,h1,h2,hlt,hz,hst,← hG5,er5,o26,e11,o211,e16,o216,hm.sm,loadO_whole,sameO,e18]
    have n16:G5.nx≤G16.nx:=x16.nx
    have n18:=x18.nx
    have neq:¬ G.nx=G18.nx+2:=by omega
    have o18:G18.obj G.nx=some ⟨ri,1,false,1⟩:=(x18.obj _ (by omega)).trans ((x16.obj _ n5).trans o5)
    obtain ⟨G22,hG22⟩:∃ G22,G22=(((G18.room 16).at' (G18.nx+2)).push ⟨[.int .i64 (i:Int)],1,false,1⟩).back (G18.room 16):=⟨_,rfl⟩
    have x22:Ext G18 G22:=by rw [hG22]; exact drawn0 ((Ext.refl G18).room 16) (by omega) _
    have n22:G22.nx=G18.nx+16:=by rw [hG22]; simp
    have sl22:SlR (rowsI .i64) G22 (.slice (some ⟨G18.nx+2,0,none⟩) 1 1) [(i:Int)]:=by rw [hG22]; exact SlR.oneD (rowsI .i64) (G18.room 16) (i:Int) (by simp)
    have hS22:=hS18.ext x22
    obtain ⟨rv',G23,e23,m23,w23⟩:=hS22.w1.app_mod (ib:=8) (by decide) sl22 (by simp) (by simp; omega)
    rw [show (rowsI .i64).sz=1 from rfl] at e23
    have n23:=m23.nx
    have o23:G23.obj G.nx=some ⟨ri,1,false,1⟩:=by
     rw [m23.obj _ (by omega) (fun h=>by have:=hS22.w1.is.under _ h; have:=hS.w1.is.under _ h; omega)]
     exact (x22.obj _ (by omega)).trans o18
    obtain ⟨G28,hG28⟩:∃ G28,G28=((G23.at' (G18.nx+7)).push ⟨[.int .i64 (sp l i).id],1,false,1⟩).back G23:=⟨_,rfl⟩
    have sl28:SlR (rowsI .i64) G28 (.slice (some ⟨G18.nx+7,0,none⟩) 1 1) [(sp l i).id]:=by rw [hG28]; exact SlR.oneD (rowsI .i64) G23 (sp l i).id (by omega)
    have k28:∀ g,g≠G18.nx+7→G28.obj g=G23.obj g:=fun g hg=>by rw [hG28]; simp [hg]
    have w2G:OwR (rowsI .i64) A.nx G28 outv (row.map fun a=>(sp l a).id):=by
     refine hS22.w2.kept (by rw [hG28]; simp; omega) fun g hg=>?_
     have hlt':=hS.w2.is.under g hg
     rw [k28 g (by have:=x5.nx; omega),m23.obj g (by have:=x5.nx; omega) (fun h=>hS.sep g h hg)]
    obtain ⟨ov',G29,e29,m29,w29⟩:=w2G.app_mod (ib:=8) (by decide) sl28 (by simp) (by simp; omega)
    rw [show (rowsI .i64).sz=1 from rfl] at e29
    have hor:=or1 hd60 (show i<60 by omega)
    have hsame:∀ x:Int,same (.int .i64 x) (.int .i64 x)=true:=fun x=>by simp [same,sameD]
    simp [-Int.natCast_add,← hG22,e23,o23,o18,neq,hid,hsame,← hG28,e29,h3,hor.1]
    have n28:G28.nx=G23.nx:=by rw [hG28]; rfl
    have y29:=m29.nx
    have hAn:=hS18.hA.nx
    have xA:Ext A G29:=by
     refine ⟨by omega,fun g hg=>?_,?_,fun k hk=>?_⟩
     ·rw [m29.obj g (by omega) (fun h=>by have:=w2G.from h; omega),k28 g (by omega),m23.obj g (by omega) (fun h=>by have:=hS22.w1.from h; omega)]
      exact hS22.hA.obj g hg
     ·have z1:=hS22.hA.nl
      have z2:=m23.nl
      have z3:G28.nl=G23.nl:=by rw [hG28]; rfl
      have z4:=m29.nl
      omega
     ·have z1:=hS22.hA.nl
      have z2:=m23.nl
      have z3:G28.nl=G23.nl:=by rw [hG28]; rfl
      rw [m29.loop k (by omega)]
      have:G28.loop k=G23.loop k:=by rw [hG28]; rfl
      rw [this,m23.loop k (by omega)]
      exact hS22.hA.loop k hk
    refine ⟨rfl,i,by simp [clip_t,e0],by simp [clip_t],by simp [clip_t,dn_snocH],xA,?_,?_,?_,hg⟩
    ·have t6':∀ x:Value,x=rv' →OwR (rowsI .i64) A.nx G29 x (rIH (row++[i])):=fun x hx=>by
      subst hx
      have:=(w23.kept (G':=G29) (by omega) fun g hgb=>by
       have k1:=w23.from hgb
       have k2:=w23.is.under g hgb
       rw [m29.obj g (by omega) (fun h=>by have:=hS.w2.is.under g h; have:=x5.nx; omega),k28 g (by omega)]).mono (B':=A.nx) (by omega)
      rw [rIH,List.map_append]
      exact this
     exact t6' _ (by simp [clip_t])
    ·have t7':∀ x:Value,x=ov' →OwR (rowsI .i64) A.nx G29 x ((row++[i]).map fun a=>(sp l a).id):=fun x hx=>by
      subst hx
      have:=w29.mono (B':=A.nx) (by omega)
      rw [List.map_append]
      exact this
     exact t7' _ (by simp [clip_t])
    ·have t8':∀ x y:Value,x=rv' →y=ov' →∀ g,InB x g→¬ InB y g:=fun x y hx hy g h1 h2=>by
      subst hx hy
      have:=w23.is.under g h1
      have:=w29.from h2
      omega
     exact t8' _ _ (by simp [clip_t]) (by simp [clip_t])
   ·simp [-Int.natCast_add,b42_1,clip_t,t1,t2,t6,t7,t8,t20,t21,t22,e0,h1,h2,hlt,hz,hst,← hG5,er5,o26,e11,o211,e16,o216,hm.sm,loadO_whole,sameO,e18,hw]
    obtain ⟨a,k1,k2,k3,k4⟩:=hex
    have hai:a≠i:=fun h=>hg (h▸k4)
    refine Wp.mono (ih (i+1) _ G18 (by omega) ⟨a,by omega,k2,k3,k4⟩ (by simp [clip_t,e0]) (by simp [clip_t]) (by simp [clip_t]) (by simp [clip_t]) (by simp [clip_t]) (by simp [clip_t,e0]) (by simp [clip_t]) (by simp [clip_t]) hS18) fun q hq=>by rw [← e0]; exact hq
  ·refine Wp.lp (l42_1 (exL_ok Q orc)) ?_
   simp [-Int.natCast_add,b42_1,clip_t,t1,t2,t6,t7,t8,t20,t21,t22,e0,h1,h2,hlt,hz,hst,← hG5,er5,hw]
   obtain ⟨a,k1,k2,k3,k4⟩:=hex
   have hai:a≠i:=fun h=>hrp (h▸k3)
   refine Wp.mono (ih (i+1) _ G6 (by omega) ⟨a,by omega,k2,k3,k4⟩ (by simp [clip_t,e0]) (by simp [clip_t]) (by simp [clip_t]) (by simp [clip_t]) (by simp [clip_t]) (by simp [clip_t,e0]) (by simp [clip_t]) (by simp [clip_t]) hS6) fun q hq=>by rw [← e0]; exact hq
end
section
variable {α:Type} {orc:FuncId→Bool} {e:RowE α} {m:Mac α} {inv:List α→Prop} {tx:List α→ByteArray} {B A G:GS} {fv nv uv tv lV:Value} {l:List Sp}
def OfPH (m:Mac α) (l:List Sp) (A:GS) (q:Exit×Env×GS):Prop:=q.1= .exit 0∧∃ rowv row,OrSH m l A q.2.2 rowv (q.2.1 7) row∧ovrP l (dn row 0)
theorem ordOut_H (hm:MacC orc e m inv tx B fv nv uv tv) (hB:Ext B A) (hl:SlR rSp A lV l) (okl:∀ c∈l,okOp c.op) (len:l.length≤11) {p2:Nat} (c2:A.obj p2=some ⟨[fv,nv,uv,tv],1,false,1⟩) (hp2:p2<A.nx) :
  ∀ (n:Nat) (row:List Nat) (τ:Env) (G:GS),2 ^ l.length≤dn row 0+n→τ 1=lV→τ 2=Pp p2→τ 8= .int .i64 (dn row 0:Nat)→OrSH m l A G (τ 6) (τ 7) row →
  Wp ((exL Q orc).lpx 42 0 τ G) (OfPH m l A):=by
 intro n
 induction n with
 | zero=>intro row τ G hn t1 t2 t8 hS; have:=(goes_rowH hS.go).2; omega
 | succ n ih =>
  intro row τ G hn t1 t2 t8 hS
  obtain ⟨hrl,hdl⟩:=goes_rowH hS.go
  have hd60:dn row 0<2 ^ 60:=Nat.lt_of_lt_of_le hdl (Nat.pow_le_pow_right (by decide) (by omega))
  obtain ⟨la,lc,el⟩:=hl.len
  have lenl:∀ x,ln Q true x lV=some (.int .i64 l.length):=fun x=>by rw [el]; simp
  obtain ⟨G1,x1,hov⟩:=over_ok orc (hl.ext hS.hA) (by omega) hd60
  refine Wp.lp (l42_0 (exL_ok Q orc)) ?_
  rcases hov with ⟨eo,ho⟩ | ⟨eo,ho⟩
  ·simp [-Int.natCast_add,b42_0,clip_t,t1,t8,eo]
   refine ⟨rfl,τ 6,row,?_,ho⟩
   have:=hS.ext x1
   have t7:∀ x:Value,x=τ 7→OrSH m l A G1 (τ 6) x row:=fun x hx=>by rw [hx]; exact this
   exact t7 _ (by simp [clip_t])
  ·simp [-Int.natCast_add,b42_0,clip_t,t1,t8,eo,lenl]
   obtain ⟨a,k1,k2,k3⟩:=goes_more m l hS.go ho
   refine Wp.bE ((ordIn_H hm hB hl okl len c2 hp2 (rowv:=τ 6) (outv:=τ 7) (row:=row) l.length 0 _ G1 (by omega) ⟨a,Nat.zero_le _,k1,k2,k3⟩ (by simp [clip_t,t1]) (by simp [clip_t,t2]) (by simp [clip_t]) (by simp [clip_t]) (by simp [clip_t,t8]) (by simp [clip_t]) (by simp [clip_t]) (by simp [clip_t]) (hS.ext x1)).mono ?_)
   rintro ⟨ee,τ',G'⟩ ⟨q1,a',q2,q3,q4,q5⟩
   simp only at q1 q2 q3 q4 q5
   subst q1
   simp [-Int.natCast_add]
   have hgt:dn row 0<dn (row++[a']) 0:=by
    obtain ⟨r,s2,d2,hw,_⟩:=q5.go
    obtain ⟨s1,d1,w1,w2⟩:=way_app.1 hw
    obtain ⟨s3,d3,w3,w4⟩:=way_app.1 w1
    have e3:=way_dn w3
    have e1:=way_dn w1
    have:=way_lenH w4
    simp at this
    omega
   refine ih (row++[a']) _ G' (by omega) (by simp [clip_t,q2]) (by simp [clip_t,q3]) (by simp [clip_t,q4]) ?_
   have t67:∀ x y:Value,x=τ' 6→y=τ' 7→OrSH m l A G' x y (row++[a']):=fun x y hx hy=>by rw [hx,hy]; exact q5
   exact t67 _ _ (by simp [clip_t]) (by simp [clip_t])
theorem order_H (hm:MacC orc e m inv tx B fv nv uv tv) (hB:Ext B G) (hl:SlR rSp G lV l) (okl:∀ c∈l,okOp c.op) (len:l.length≤11) :
  Wp ((E orc).cl 42 [.agg ⟨[fv,nv,uv,tv]⟩,lV] G) fun r=>Ext G r.2∧(r.1= .tuple #[.slice none 0 0,.bool false]∧¬ Goes m l [] m.first 0∨∃ outv row s2,r.1= .tuple #[outv,.bool true]∧Way m l m.first 0 row s2 (dn row 0)∧ovrP l (dn row 0)∧OwR (rowsI .i64) G.nx r.2 outv (row.map fun a=>(sp l a).id)):=by
 refine Wp.ref (f42 (exL_ok Q orc) _ _ G) ?_
 have xA:Ext G (G.push ⟨[fv,nv,uv,tv],1,false,1⟩):=(Ext.refl G).push _
 have cA:(G.push ⟨[fv,nv,uv,tv],1,false,1⟩).obj G.nx=some ⟨[fv,nv,uv,tv],1,false,1⟩:=by simp
 have nA:G.nx<(G.push ⟨[fv,nv,uv,tv],1,false,1⟩).nx:=by simp
 obtain ⟨A,hA⟩:∃ A,A=G.push ⟨[fv,nv,uv,tv],1,false,1⟩:=⟨_,rfl⟩
 rw [← hA] at xA cA nA
 obtain ⟨⟨r,G4⟩,eb,x4,hr⟩:=begins_H (orc:=orc) (b:=[]) hm (hB.trans xA) (hl.ext xA) (bV:=.slice none 0 0) SlR.nil okl len (by simp)
 simp only at x4 hr
 rcases hr with ⟨rfl,hg⟩ | ⟨rfl,hg⟩
 ·simp [-Int.natCast_add,s42,mBox,Value.cells,← hA,cA,loadO_whole,eb]
  refine Wp.bE ((ordOut_H hm (hB.trans xA) (hl.ext xA) okl len cA nA (2 ^ l.length) [] _ G4 (by simp [dn]) (by simp) (by simp) (by simp [dn]) ?_).mono ?_)
  ·exact ⟨x4,OwR.nil _ _,OwR.nil _ _,fun g h=>by simp [InB] at h,hg⟩
  ·rintro ⟨ee,τ',G'⟩ ⟨q1,rowv,row,q2,q3⟩
   simp only at q1 q2 q3
   subst q1
   simp
   obtain ⟨r,s2,d2,hw,_⟩:=q2.go
   obtain ⟨s1,d1,w1,w2⟩:=way_app.1 hw
   have e1:=way_dn w1
   rw [e1] at w1
   exact ⟨xA.trans q2.hA,row,⟨s1,w1⟩,q3,q2.w2.mono (by omega)⟩
 ·simp [-Int.natCast_add,s42,mBox,Value.cells,← hA,cA,loadO_whole,eb]
  exact ⟨xA.trans x4,hg⟩
end
section
variable {α:Type} {e:RowE α} {m:Mac α} {inv:List α→Prop} {tx:List α→ByteArray} {B:GS} {fv nv uv tv:Value}
theorem told_P (orc:FuncId→Bool) (hm:MacC orc e m inv tx B fv nv uv tv) {G:GS} {sv:Value} {s:List α} {c:Sp} (hB:Ext B G) (hs:SlR e G sv s) (hi:inv s) (ho:okOp c.op) :
  Wp ((E orc).cl 121 [.agg ⟨[fv,nv,uv,tv]⟩,sv,.agg ⟨rSp.row c⟩] G) fun r=>Ext G r.2∧SlR eAn r.2 r.1 (toldP m s c)∧(toldP m s c).length≤2000:=by
 refine Wp.ref (f121 (exL_ok Q orc) _ _ _ G) ?_
 have hE:Ext G ((G.push ⟨[fv,nv,uv,tv],1,false,1⟩).push ⟨rSp.row c,1,false,1⟩):=((Ext.refl G).push _).push _
 unfold toldP
 by_cases ht:0≤c.to
 ·simp [s121,ht,Value.cells]
  exact ⟨hE.push _,SlR.one eAn _ c.an⟩
 ·obtain ⟨⟨r,G'⟩,e1,h1,h2,h3⟩:=hm.fine _ sv s c.op (hB.trans hE) (hs.ext hE) hi ho
  simp [s121,ht,Value.cells]
  exact ⟨(r,G'),e1,hE.trans h1,h2,h3⟩
end
section
variable {α:Type} {orc:FuncId→Bool} {e:RowE α} {m:Mac α} {inv:List α→Prop} {tx:List α→ByteArray} {B:GS} {t:TeP} {Z:Nat→ByteArray→Prop} {A G:GS} {s:List α} {sv rowv av kv:Value} {d a cb:Nat} {row:List Nat} {op:Bool} {L:List An3} {c:Sp}
abbrev rIP (row:List Nat):List Int:=row.map fun (a:Nat)=>(a:Int)
structure EvP (t:TeP) (sv rowv kv:Value) (d:Nat) (op:Bool) (τ:Env):Prop where
 t0:τ 0=sv
 t1:τ 1= .int .i64 (d:Int)
 t2:τ 2=rowv
 t3:τ 3=Pp t.p3
 t4:τ 4=Pp t.p4
 t6:τ 6=Pp t.p6
 t7:τ 7=Pp t.p7
 t8:τ 8=Pp t.p8
 t13:τ 13= .bool op
 t14:τ 14=kv
 t54:τ 54=t.lV
 t55:τ 55= .int .i64 t.l.length
def InPP (m:Mac α) (inv:List α→Prop) (tx:List α→ByteArray) (t:TeP) (Z:Nat→ByteArray→Prop) (A:GS) (s:List α) (sv rowv kv:Value) (d a:Nat) (row:List Nat) (op:Bool) (c:Sp) (L:List An3) (q:Exit×Env×GS):Prop :=
 (q.1= .exit 2∧Kp t.lv A q.2.2∧Mem m t.l inv tx t.lv Z q.2.2∧(∀ an,an∈L→∀ s1,m.next s c.op an=some s1→¬ Goes m t.l (t.b.drop (row.length+1)) s1 (d ||| 1 <<< a))∧EvP t sv rowv kv d op q.2.1∧q.2.1 56= .int .i64 (a:Int)) ∨
 (q.1= .ret∧q.2.1 12= .bool false∧(∃ an,an∈L∧∃ s1,m.next s c.op an=some s1∧Goes m t.l (t.b.drop (row.length+1)) s1 (d ||| 1 <<< a))∧Fd t A q.2.2)
theorem inP_cons_P {an:An3} {q:Exit×Env×GS} (h:InPP m inv tx t Z A s sv rowv kv d a row op c L q) (hn:∀ s1,m.next s c.op an=some s1→¬ Goes m t.l (t.b.drop (row.length+1)) s1 (d ||| 1 <<< a)):InPP m inv tx t Z A s sv rowv kv d a row op c (an::L) q:=by
 rcases h with ⟨h1,h2,h3,h4,h5⟩ | ⟨h1,h2,⟨x,h3,h4⟩,h5⟩
 ·exact .inl ⟨h1,h2,h3,fun x hx=>(List.mem_cons.1 hx).elim (fun e=>e▸hn) (h4 x),h5⟩
 ·exact .inr ⟨h1,h2,⟨x,List.mem_cons_of_mem _ h3,h4⟩,h5⟩
theorem inner_P (hT:Te orc e m inv tx 234 B t A) (hs:SlR e A sv s) (hi:inv s) (hr:SlR (rowsI .i64) A rowv (rIP row)) (hrl:row.length≤3000) (hd:d<2 ^ 60) (ha:a<50)
  (hc:A.obj cb=some ⟨rSp.row c,1,false,1⟩) (hcb:cb<A.nx) (hoc:okOp c.op) (hL:SlR eAn A av L) (hLl:L.length≤2000)
  (ih:∀ (G:GS) (sv1 rowv1:Value) (s1:List α),Te orc e m inv tx 234 B t G→Mem m t.l inv tx t.lv Z G→SlR e G sv1 s1→inv s1→SlR (rowsI .i64) G rowv1 (rIP (row++[a])) →
   Wp ((E orc).cl 234 [sv1,.int .i64 ((d ||| 1 <<< a:Nat):Int),rowv1,Pp t.p3,Pp t.p4,Pp t.p5,Pp t.p6,Pp t.p7,Pp t.p8] G) (Out m inv tx t Z (Goes m t.l (t.b.drop (row.length+1)) s1 (d ||| 1 <<< a)) G)) :
  ∀ (k j:Nat) (τ:Env) (G:GS),j+k=L.length→EvP t sv rowv kv d op τ→τ 56= .int .i64 (a:Int)→τ 17= .int .i64 (a:Int)→τ 18=Pp cb→τ 82=av→τ 83= .int .i64 L.length→τ 84= .int .i64 (j:Int)→Kp t.lv A G→Mem m t.l inv tx t.lv Z G →
  Wp ((exL Q orc).lpx 234 1 τ G) (InPP m inv tx t Z A s sv rowv kv d a row op c (L.drop j)):=by
 intro k
 induction k with
 | zero =>
  intro j τ G hj ev t56 t17 t18 t82 t83 t84 hK hM
  have hj':j=L.length:=by omega
  subst hj'
  obtain ⟨u0,u1,u2,u3,u4,u6,u7,u8,u13,u14,u54,u55⟩:=ev
  refine Wp.lp (l234_1 (exL_ok Q orc)) ?_
  simp [b234_1,clip_t,u0,u1,u2,u6,u8,t17,t18,t82,t83,t84,-List.drop_length]
  exact .inl ⟨rfl,hK,hM,fun an h=>by simp at h,⟨by simp [clip_t,u0],by simp [clip_t,u1],by simp [clip_t,u2],by simp [clip_t,u3],by simp [clip_t,u4],by simp [clip_t,u6],by simp [clip_t,u7],by simp [clip_t,u8],by simp [clip_t,u13],by simp [clip_t,u14],by simp [clip_t,u54],by simp [clip_t,u55]⟩,by simp [clip_t,t56]⟩
 | succ k ihk =>
  intro j τ G hj ev t56 t17 t18 t82 t83 t84 hK hM
  obtain ⟨u0,u1,u2,u3,u4,u6,u7,u8,u13,u14,u54,u55⟩:=ev
  have hlt:j<L.length:=by omega
  have hw:IntKind.wrap .i64 ((j:Int)+1)=((j+1:Nat):Int):=wrap64 (by omega) (by omega)
  have h1:(j:Int)<L.length:=by omega
  have h2:(0:Int)≤j:=by omega
  have h3:¬ ((a:Int)<0):=by omega
  have hTG:=hT.kp hK
  obtain ⟨b,o,cc,e0,hbG,_,hz⟩:=(slrKp hL hK).at hlt
  rw [eAn_sz,loadA_eq] at hz
  rw [List.drop_eq_getElem_cons hlt]
  generalize L[j]=an at *
  have hst:stO 3 0 (.agg ⟨eAn.row an⟩) (some ⟨z27,1,false,1⟩)=some ⟨eAn.row an,1,false,1⟩:=rfl
  have hE:Ext G ((G.push ⟨z27,1,false,1⟩).put G.nx ⟨eAn.row an,1,false,1⟩):=((Ext.refl G).push _).put (Nat.le_refl _) _
  have hob6:=hTG.c6
  have hcG:G.obj cb=some ⟨rSp.row c,1,false,1⟩:=(hK.obj _ hcb).trans hc
  have n6:¬ t.p6=G.nx:=by have:=hTG.lt.2.2.2.1; omega
  have ncb:¬ cb=G.nx:=by have:=hK.nx; omega
  obtain ⟨⟨r,G12⟩,e5,x5,v',hr5⟩:=hTG.mc.next _ sv s c.op an (hTG.hB.trans hE) ((slrKp hs hK).ext hE) hi hoc
  simp only at x5 hr5
  have e5':cValue (E orc) t.nv [sv,.agg ⟨rowOp c.op⟩,.agg ⟨eAn.row an⟩] ((G.push ⟨z27,1,false,1⟩).put G.nx ⟨eAn.row an,1,false,1⟩)=some (r,G12):=e5
  have hor:=or1 hd (show a<60 by omega)
  have xG:=hE.trans x5
  have hK12:Kp t.lv A G12:=hK.trans (Kp.ext xG)
  refine Wp.lp (l234_1 (exL_ok Q orc)) ?_
  rcases hr5 with ⟨rfl,s',hn,hi',hsl⟩ | ⟨rfl,hn⟩
  ·have hT12:=hT.kp hK12
   have l8:=hT12.lt.2.2.2.2.2.1
   have o8:=hT12.c8
   obtain ⟨rv,G22,e6,x6,w6⟩:=cloneI_ok orc ((slrKp hr hK12).ext ((Ext.refl G12).room 16)) (by simp; omega)
   have n22:=x6.nx
   simp at n22
   have o22:=(x6.obj t.p8 (by simp; omega)).trans o8
   have x26:Ext G12 (((G22.at' (G12.nx+11)).push ⟨[.int .i64 (a:Int)],1,false,1⟩).back G22):=drawn0 (((Ext.refl G12).room 16).trans x6) (by omega) _
   have sl:SlR (rowsI .i64) (((G22.at' (G12.nx+11)).push ⟨[.int .i64 (a:Int)],1,false,1⟩).back G22) (.slice (some ⟨G12.nx+11,0,none⟩) 1 1) [(a:Int)]:=SlR.oneD (rowsI .i64) G22 (a:Int) (by omega)
   have w26:OwR (rowsI .i64) G12.nx (((G22.at' (G12.nx+11)).push ⟨[.int .i64 (a:Int)],1,false,1⟩).back G22) rv (rIP row):=by
    refine (w6.same (by simp) fun p n c he=>?_).mono (by simp)
    have:=w6.ge p n c he
    simp at this
    have hne:¬ p.block=G12.nx+11:=by omega
    simp [hne]
   obtain ⟨rv',G27,e7,x7,w7⟩:=OwR.app (ib:=8) w26 (by decide) x26 sl (by simp; omega)
   rw [show (rowsI .i64).sz=1 from rfl] at e7
   have o27:=(x7.obj t.p8 l8).trans o8
   have hK27:Kp t.lv A G27:=hK12.trans (Kp.ext x7)
   have hM27:Mem m t.l inv tx t.lv Z G27:=hM.ext (xG.trans x7) hTG.hlv.2
   obtain ⟨⟨r,G29⟩,e8,h8⟩:=ih G27 v' rv' s' (hT.kp hK27) hM27 (hsl.is.ext x7) hi' (by have:=w7.is; rw [rIP,List.map_append]; exact this)
   simp [-Int.natCast_add,-cValue_func,b234_1,clip_t,u0,u1,u2,u6,u8,t17,t18,t82,t83,t84,e0,h1,h2,hlt,hz,hst,hob6,n6,hcG,ncb,hw]
   rw [rowOp,eAn_row] at e5'
   rcases h8 with ⟨h81,h82,h83,h84⟩ | ⟨h81,h82,h83⟩
   ·simp only at h81 h83 h84
    subst h81
    simp [-Int.natCast_add,e5',pExtract,getN_zero,getN_succ,o8,h3,hor.1,e6,o22,e7,o27,e8]
    refine Wp.mono (ihk (j+1) _ G29 (by omega) ⟨by simp [clip_t,u0],by simp [clip_t,u1],by simp [clip_t,u2],by simp [clip_t,u3],by simp [clip_t,u4],by simp [clip_t,u6],by simp [clip_t,u7],by simp [clip_t,u8],by simp [clip_t,u13],by simp [clip_t,u14],by simp [clip_t,u54],by simp [clip_t,u55]⟩ (by simp [clip_t,t56]) (by simp [clip_t]) (by simp [clip_t]) (by simp [clip_t,e0]) (by simp [clip_t]) (by simp [clip_t]) (hK27.trans h83) h84) fun q hq=>inP_cons_P hq fun s1 h=>?_
    rw [hn] at h
    cases h
    exact h82
   ·simp only at h81 h83
    subst h81
    simp [-Int.natCast_add,e5',pExtract,getN_zero,getN_succ,o8,h3,hor.1,e6,o22,e7,o27,e8]
    exact .inr ⟨rfl,by simp [clip_t],⟨an,List.mem_cons_self ..,s',hn,h82⟩,Fd.of hK27 h83⟩
  ·simp [-Int.natCast_add,-cValue_func,b234_1,clip_t,u0,u1,u2,u6,u8,t17,t18,t82,t83,t84,e0,h1,h2,hlt,hz,hst,hob6,n6,hcG,ncb,hw]
   rw [rowOp,eAn_row] at e5'
   simp [-Int.natCast_add,-cValue_func,e5',pExtract,getN_zero,getN_succ]
   refine Wp.mono (ihk (j+1) _ _ (by omega) ⟨by simp [clip_t,u0],by simp [clip_t,u1],by simp [clip_t,u2],by simp [clip_t,u3],by simp [clip_t,u4],by simp [clip_t,u6],by simp [clip_t,u7],by simp [clip_t,u8],by simp [clip_t,u13],by simp [clip_t,u14],by simp [clip_t,u54],by simp [clip_t,u55]⟩ (by simp [clip_t,t56]) (by simp [clip_t]) (by simp [clip_t]) (by simp [clip_t,e0]) (by simp [clip_t]) (by simp [clip_t]) (hK12.trans (Kp.ext ((Ext.refl G12).room 16))) (hM.ext (xG.room 16) hTG.hlv.2)) fun q hq=>inP_cons_P hq fun s1 h=>?_
   rw [hn] at h
   cases h
end
section
variable {α:Type} {orc:FuncId→Bool} {e:RowE α} {m:Mac α} {inv:List α→Prop} {tx:List α→ByteArray} {B:GS} {t:TeP} {Z:Nat→ByteArray→Prop} {A G:GS} {s:List α} {sv rowv kv:Value} {d:Nat} {row:List Nat}
def AlwP (b:List Nat) (k a:Nat):Prop:=b.length≤k∨b[k]? =some a
def OuPP (m:Mac α) (inv:List α→Prop) (tx:List α→ByteArray) (t:TeP) (Z:Nat→ByteArray→Prop) (A:GS) (s:List α) (sv rowv kv:Value) (d:Nat) (row:List Nat) (i:Nat) (q:Exit×Env×GS):Prop :=
 (q.1= .exit 0∧Kp t.lv A q.2.2∧Mem m t.l inv tx t.lv Z q.2.2∧(∀ a,i≤a→AlwP t.b row.length a→∀ s1,Step m t.l s d a s1→¬ Goes m t.l (t.b.drop (row.length+1)) s1 (d ||| 1 <<< a))∧EvP t sv rowv kv d (decide (t.b.length≤row.length)) q.2.1) ∨
 (q.1= .ret∧q.2.1 12= .bool false∧(∃ a s1,AlwP t.b row.length a∧Step m t.l s d a s1∧Goes m t.l (t.b.drop (row.length+1)) s1 (d ||| 1 <<< a))∧Fd t A q.2.2)
theorem ouP_less_P {i:Nat} {q:Exit×Env×GS} (h:OuPP m inv tx t Z A s sv rowv kv d row (i+1) q) (hn:AlwP t.b row.length i→∀ s1,Step m t.l s d i s1→¬ Goes m t.l (t.b.drop (row.length+1)) s1 (d ||| 1 <<< i)):OuPP m inv tx t Z A s sv rowv kv d row i q:=by
 rcases h with ⟨h1,h2,h3,h4,h5⟩ | h
 ·refine .inl ⟨h1,h2,h3,fun a ha hw s1 hs=>?_,h5⟩
  by_cases e:a=i
  ·subst e; exact hn hw s1 hs
  ·exact h4 a (by omega) hw s1 hs
 ·exact .inr h
theorem outer_P (hT:Te orc e m inv tx 234 B t A) (hs:SlR e A sv s) (hi:inv s) (hr:SlR (rowsI .i64) A rowv (rIP row)) (hrl:row.length≤3000) (hd:d<2 ^ 60)
  (ih:∀ a,a<t.l.length→rdyP t.l d a→∀ (G:GS) (sv1 rowv1:Value) (s1:List α),Te orc e m inv tx 234 B t G→Mem m t.l inv tx t.lv Z G→SlR e G sv1 s1→inv s1→SlR (rowsI .i64) G rowv1 (rIP (row++[a])) →
   Wp ((E orc).cl 234 [sv1,.int .i64 ((d ||| 1 <<< a:Nat):Int),rowv1,Pp t.p3,Pp t.p4,Pp t.p5,Pp t.p6,Pp t.p7,Pp t.p8] G) (Out m inv tx t Z (Goes m t.l (t.b.drop (row.length+1)) s1 (d ||| 1 <<< a)) G)) :
  ∀ (k i:Nat) (τ:Env) (G:GS),i+k=t.l.length→EvP t sv rowv kv d (decide (t.b.length≤row.length)) τ→τ 56= .int .i64 (i:Int)→Kp t.lv A G→Mem m t.l inv tx t.lv Z G →
  Wp ((exL Q orc).lpx 234 0 τ G) (OuPP m inv tx t Z A s sv rowv kv d row i):=by
 intro k
 induction k with
 | zero =>
  intro i τ G hi' ev t56 hK hM
  have hi':i=t.l.length:=by omega
  subst hi'
  obtain ⟨u0,u1,u2,u3,u4,u6,u7,u8,u13,u14,u54,u55⟩:=ev
  refine Wp.lp (l234_0 (exL_ok Q orc)) ?_
  simp [b234_0,clip_t,u0,u1,u2,u3,u4,u6,u13,u54,u55,t56]
  exact .inl ⟨rfl,hK,hM,fun a h _ s1 hs=>absurd hs.1 (by omega),⟨by simp [clip_t,u0],by simp [clip_t,u1],by simp [clip_t,u2],by simp [clip_t,u3],by simp [clip_t,u4],by simp [clip_t,u6],by simp [clip_t,u7],by simp [clip_t,u8],by simp [clip_t,u13],by simp [clip_t,u14],by simp [clip_t,u54],by simp [clip_t,u55]⟩⟩
 | succ k ihk =>
  intro i τ G hi' ev t56 hK hM
  obtain ⟨u0,u1,u2,u3,u4,u6,u7,u8,u13,u14,u54,u55⟩:=ev
  have hlt:i<t.l.length:=by omega
  have h11:=hT.len
  have hw:IntKind.wrap .i64 ((i:Int)+1)=((i+1:Nat):Int):=wrap64 (by omega) (by omega)
  have h1:(i:Int)<t.l.length:=by omega
  have h2:(0:Int)≤i:=by omega
  have hTG:=hT.kp hK
  obtain ⟨b,o,cc,e0,hbG,_,hz⟩:=hTG.hl.at hlt
  have hsp:=sp_at hlt
  rw [rSp_sz,← hsp,loadA_eq] at hz
  have hst:stO 10 0 (.agg ⟨rSp.row (sp t.l i)⟩) (some ⟨z29,1,false,1⟩)=some ⟨rSp.row (sp t.l i),1,false,1⟩:=rfl
  have hld:loadO 10 0 (some ⟨rSp.row (sp t.l i),1,false,1⟩)=some (.agg ⟨rSp.row (sp t.l i)⟩):=loadO_whole rfl (by decide)
  have hoc:okOp (sp t.l i).op:=by rw [hsp]; exact hTG.okl _ (List.getElem_mem hlt)
  generalize hri:rSp.row (sp t.l i)=ri at *
  have hE:Ext G ((G.push ⟨z29,1,false,1⟩).put G.nx ⟨ri,1,false,1⟩):=((Ext.refl G).push _).put (Nat.le_refl _) _
  obtain ⟨G5,hG5⟩:∃ G5,G5=(G.push ⟨z29,1,false,1⟩).put G.nx ⟨ri,1,false,1⟩:=⟨_,rfl⟩
  have o5:G5.obj G.nx=some ⟨ri,1,false,1⟩:=by rw [hG5]; simp
  have n5:G.nx<G5.nx:=by rw [hG5]; simp
  rw [← hG5] at hE
  have hK5:Kp t.lv A G5:=hK.trans (Kp.ext hE)
  have hT5:=hT.kp hK5
  have hM5:Mem m t.l inv tx t.lv Z G5:=hM.ext hE hTG.hlv.2
  obtain ⟨ra,rc,er⟩:=hr.len
  have lr:∀ x,ln Q true x rowv=some (.int .i64 row.length):=fun x=>by rw [er]; simp
  have next:∀ (τ':Env) (G':GS),EvP t sv rowv kv d (decide (t.b.length≤row.length)) τ' →τ' 56= .int .i64 ((i+1:Nat):Int)→Kp t.lv A G' →Mem m t.l inv tx t.lv Z G' →(AlwP t.b row.length i→∀ s1,Step m t.l s d i s1→¬ Goes m t.l (t.b.drop (row.length+1)) s1 (d ||| 1 <<< i)) →
    Wp ((exL Q orc).lpx 234 0 τ' G') (OuPP m inv tx t Z A s sv rowv kv d row i):=fun τ' G' h3 h4 h5 h6 h7=>Wp.mono (ihk (i+1) τ' G' (by omega) h3 h4 h5 h6) fun q hq=>ouP_less_P hq h7
  obtain ⟨G8,hx8,hrd⟩:=ready_ok orc hT5.hl (by omega) hd hlt
  rw [e0] at hrd
  have o4:=hT5.c4
  have o3:=hT5.c3
  refine Wp.lp (l234_0 (exL_ok Q orc)) ?_
  by_cases hop:t.b.length≤row.length
  ·have hop':decide (t.b.length≤row.length)=true:=by simp [hop]
   rw [hop'] at u13
   rcases hrd with ⟨er5,hrp⟩ | ⟨er5,hrp⟩
   ·have hT8:=hT5.kp (Kp.ext hx8)
    have o6:=hT8.c6
    have o8:G8.obj G.nx=some ⟨ri,1,false,1⟩:=(hx8.obj _ n5).trans o5
    obtain ⟨⟨av,G37⟩,e37,x37,w37,l37⟩:=told_P orc hT8.mc hT8.hB (slrKp hs (hK5.trans (Kp.ext hx8))) hi hoc
    rw [hri] at e37
    simp only at x37 w37
    have hK37:Kp t.lv A G37:=(hK5.trans (Kp.ext hx8)).trans (Kp.ext x37)
    have hT37:=hT.kp hK37
    have hM37:Mem m t.l inv tx t.lv Z G37:=hM5.ext (hx8.trans x37) hT5.hlv.2
    have o37:G37.obj G.nx=some ⟨rSp.row (sp t.l i),1,false,1⟩:=by rw [hri]; exact (x37.obj _ (by have:=hx8.nx; omega)).trans o8
    obtain ⟨va,vc,ev37⟩:=w37.len
    have lv37:∀ x,ln Q true x av=some (.int .i64 (toldP m s (sp t.l i)).length):=fun x=>by rw [ev37]; simp
    simp [-Int.natCast_add,b234_0,clip_t,u0,u1,u2,u3,u4,u6,u13,u54,u55,t56,e0,h1,h2,hlt,hz,hst,← hG5,o4,er5,o6,o8,hld,loadO_whole,e37,lv37]
    refine Wp.bE ((inner_P (kv:=kv) (op:=decide (t.b.length≤row.length)) (row:=row) hT37 (slrKp hs hK37) hi (slrKp hr hK37) hrl hd (by omega) o37 (by have:=hx8.nx; have:=x37.nx; omega) hoc w37 l37 (ih i hlt hrp) (toldP m s (sp t.l i)).length 0 _ G37 (by omega) ⟨by simp [clip_t,u0],by simp [clip_t,u1],by simp [clip_t,u2],by simp [clip_t,u3],by simp [clip_t,u4],by simp [clip_t,u6],by simp [clip_t,u7],by simp [clip_t,u8],by simp [clip_t,u13,hop],by simp [clip_t,u14],by simp [clip_t,u54,e0],by simp [clip_t,u55]⟩ (by simp [clip_t,t56]) (by simp [clip_t]) (by simp [clip_t]) (by simp [clip_t]) (by simp [clip_t]) (by simp [clip_t]) (Kp.refl _ _) hM37).mono ?_)
    rintro ⟨ee,τ',G'⟩ (⟨q1,q2,q3,q4,q5,q6⟩ | ⟨q1,q2,⟨an,q3,s1,q4,q5⟩,q6⟩)
    ·simp only at q1 q2 q3 q5 q6
     subst q1
     obtain ⟨w0,w1,w2,w3,w4,w6,w7,w8,w13,w14,w54,w55⟩:=q5
     simp [-Int.natCast_add,w0,w1,w2,w3,w4,w6,w13,w54,w55,q6,hw]
     exact next _ _ ⟨by simp [clip_t,w0],by simp [clip_t,w1],by simp [clip_t,w2],by simp [clip_t,w3],by simp [clip_t,w4],by simp [clip_t,w6],by simp [clip_t,w7],by simp [clip_t,w8],by simp [clip_t,w13],by simp [clip_t,w14],by simp [clip_t,w54],by simp [clip_t,w55]⟩ (by simp [clip_t]) (hK37.trans q2) q3 fun _ s1 hs1=>by
      obtain ⟨_,_,an,k1,k2⟩:=hs1
      exact q4 an (by simpa using k1) s1 k2
    ·simp only at q1 q2 q6
     subst q1
     simp [-Int.natCast_add]
     exact .inr ⟨rfl,by simp [clip_t,q2],⟨i,s1,.inl hop,⟨hlt,hrp,an,by simpa using q3,q4⟩,q5⟩,Fd.of hK37 q6⟩
   ·simp [-Int.natCast_add,b234_0,clip_t,u0,u1,u2,u3,u4,u6,u13,u54,u55,t56,e0,h1,h2,hlt,hz,hst,← hG5,o4,er5,hw]
    exact next _ _ ⟨by simp [clip_t,u0],by simp [clip_t,u1],by simp [clip_t,u2],by simp [clip_t,u3],by simp [clip_t,u4],by simp [clip_t,u6],by simp [clip_t,u7],by simp [clip_t,u8],by simp [clip_t,u13,hop],by simp [clip_t,u14],by simp [clip_t,u54,e0],by simp [clip_t,u55]⟩ (by simp [clip_t]) (hK5.trans (Kp.ext hx8)) (hM5.ext hx8 hT5.hlv.2) fun _ s1 hs1=>absurd hs1.2.1 hrp
  ·have hop':decide (t.b.length≤row.length)=false:=by simp [hop]
   rw [hop'] at u13
   have hbl:row.length<t.b.length:=by omega
   obtain ⟨b1,o1,c1,e1,_,q1,_⟩:=hT5.hb.at (i:=row.length) (by simpa using hbl)
   have q1:=q1 0 (by decide)
   simp [rowsI] at q1
   simp only [List.length_map] at e1
   have r1:(row.length:Int)<t.b.length:=by omega
   have r2:(0:Int)≤row.length:=by omega
   by_cases hne:t.b[row.length]=i
   ·have hne':(i:Int)=(t.b[row.length]:Int):=by omega
    rcases hrd with ⟨er5,hrp⟩ | ⟨er5,hrp⟩
    ·have hT8:=hT5.kp (Kp.ext hx8)
     have o6:=hT8.c6
     have o8:G8.obj G.nx=some ⟨ri,1,false,1⟩:=(hx8.obj _ n5).trans o5
     obtain ⟨⟨av,G37⟩,e37,x37,w37,l37⟩:=told_P orc hT8.mc hT8.hB (slrKp hs (hK5.trans (Kp.ext hx8))) hi hoc
     rw [hri] at e37
     simp only at x37 w37
     have hK37:Kp t.lv A G37:=(hK5.trans (Kp.ext hx8)).trans (Kp.ext x37)
     have hT37:=hT.kp hK37
     have hM37:Mem m t.l inv tx t.lv Z G37:=hM5.ext (hx8.trans x37) hT5.hlv.2
     have o37:G37.obj G.nx=some ⟨rSp.row (sp t.l i),1,false,1⟩:=by rw [hri]; exact (x37.obj _ (by have:=hx8.nx; omega)).trans o8
     obtain ⟨va,vc,ev37⟩:=w37.len
     have lv37:∀ x,ln Q true x av=some (.int .i64 (toldP m s (sp t.l i)).length):=fun x=>by rw [ev37]; simp
     simp [-Int.natCast_add,b234_0,clip_t,u0,u1,u2,u3,u4,u6,u13,u54,u55,t56,e0,h1,h2,hlt,hz,hst,← hG5,o4,er5,o6,o8,hld,loadO_whole,e37,lv37,o3,lr,e1,r1,r2,hbl,q1,hne]
     refine Wp.bE ((inner_P (kv:=kv) (op:=decide (t.b.length≤row.length)) (row:=row) hT37 (slrKp hs hK37) hi (slrKp hr hK37) hrl hd (by omega) o37 (by have:=hx8.nx; have:=x37.nx; omega) hoc w37 l37 (ih i hlt hrp) (toldP m s (sp t.l i)).length 0 _ G37 (by omega) ⟨by simp [clip_t,u0],by simp [clip_t,u1],by simp [clip_t,u2],by simp [clip_t,u3],by simp [clip_t,u4],by simp [clip_t,u6],by simp [clip_t,u7],by simp [clip_t,u8],by simp [clip_t,u13,hop],by simp [clip_t,u14],by simp [clip_t,u54,e0],by simp [clip_t,u55]⟩ (by simp [clip_t,t56]) (by simp [clip_t]) (by simp [clip_t]) (by simp [clip_t]) (by simp [clip_t]) (by simp [clip_t]) (Kp.refl _ _) hM37).mono ?_)
     rintro ⟨ee,τ',G'⟩ (⟨q1,q2,q3,q4,q5,q6⟩ | ⟨q1,q2,⟨an,q3,s1,q4,q5⟩,q6⟩)
     ·simp only at q1 q2 q3 q5 q6
      subst q1
      obtain ⟨w0,w1,w2,w3,w4,w6,w7,w8,w13,w14,w54,w55⟩:=q5
      simp [-Int.natCast_add,w0,w1,w2,w3,w4,w6,w13,w54,w55,q6,hw]
      exact next _ _ ⟨by simp [clip_t,w0],by simp [clip_t,w1],by simp [clip_t,w2],by simp [clip_t,w3],by simp [clip_t,w4],by simp [clip_t,w6],by simp [clip_t,w7],by simp [clip_t,w8],by simp [clip_t,w13],by simp [clip_t,w14],by simp [clip_t,w54],by simp [clip_t,w55]⟩ (by simp [clip_t]) (hK37.trans q2) q3 fun _ s1 hs1=>by
       obtain ⟨_,_,an,k1,k2⟩:=hs1
       exact q4 an (by simpa using k1) s1 k2
     ·simp only at q1 q2 q6
      subst q1
      simp [-Int.natCast_add]
      exact .inr ⟨rfl,by simp [clip_t,q2],⟨i,s1,.inr (by rw [List.getElem?_eq_getElem hbl,hne]),⟨hlt,hrp,an,by simpa using q3,q4⟩,q5⟩,Fd.of hK37 q6⟩
    ·simp [-Int.natCast_add,b234_0,clip_t,u0,u1,u2,u3,u4,u6,u13,u54,u55,t56,e0,h1,h2,hlt,hz,hst,← hG5,o4,er5,hw,o3,lr,e1,r1,r2,hbl,q1,hne]
     exact next _ _ ⟨by simp [clip_t,u0],by simp [clip_t,u1],by simp [clip_t,u2],by simp [clip_t,u3],by simp [clip_t,u4],by simp [clip_t,u6],by simp [clip_t,u7],by simp [clip_t,u8],by simp [clip_t,u13,hop],by simp [clip_t,u14],by simp [clip_t,u54,e0],by simp [clip_t,u55]⟩ (by simp [clip_t]) (hK5.trans (Kp.ext hx8)) (hM5.ext hx8 hT5.hlv.2) fun _ s1 hs1=>absurd hs1.2.1 hrp
   ·have hne':¬ (i:Int)=(t.b[row.length]:Int):=by omega
    simp [-Int.natCast_add,b234_0,clip_t,u0,u1,u2,u3,u4,u6,u13,u54,u55,t56,e0,h1,h2,hlt,hz,hst,← hG5,o4,hw,o3,lr,e1,r1,r2,hbl,q1,hne']
    exact next _ _ ⟨by simp [clip_t,u0],by simp [clip_t,u1],by simp [clip_t,u2],by simp [clip_t,u3],by simp [clip_t,u4],by simp [clip_t,u6],by simp [clip_t,u7],by simp [clip_t,u8],by simp [clip_t,u13,hop],by simp [clip_t,u14],by simp [clip_t,u54,e0],by simp [clip_t,u55]⟩ (by simp [clip_t]) hK5 hM5 fun hal s1 hs1=>by
     rcases hal with h | h
     ·omega
     ·rw [List.getElem?_eq_getElem hbl] at h; cases h; exact absurd rfl hne
end
theorem or_gtP {d a:Nat} (h:d.testBit a=false):d<d ||| 1 <<< a:=by
 refine Nat.lt_of_le_of_ne Nat.left_le_or fun e=>?_
 have:(d ||| 1 <<< a).testBit a=true:=by rw [Nat.testBit_or,Nat.testBit_shiftLeft]; simp
 rw [← e,h] at this
 cases this
section
variable {α:Type} {orc:FuncId→Bool} {e:RowE α} {m:Mac α} {inv:List α→Prop} {tx:List α→ByteArray} {B:GS} {t:TeP}
theorem try_P:∀ (n:Nat) (Z:Nat→ByteArray→Prop) (s:List α) (d:Nat) (row:List Nat) (sv rowv:Value) (G:GS),2 ^ t.l.length≤d+n→d<2 ^ t.l.length→row.length≤d→(∀ d0 s0,Z d0 s0→d0<d)→Te orc e m inv tx 234 B t G→Mem m t.l inv tx t.lv Z G→SlR e G sv s→inv s→SlR (rowsI .i64) G rowv (rIP row) →
  Wp ((E orc).cl 234 [sv,.int .i64 (d:Int),rowv,Pp t.p3,Pp t.p4,Pp t.p5,Pp t.p6,Pp t.p7,Pp t.p8] G) (Out m inv tx t Z (Goes m t.l (t.b.drop row.length) s d) G):=by
 intro n
 induction n with
 | zero=>intro Z s d row sv rowv G h1 h2; omega
 | succ n ihn =>
  intro Z s d row sv rowv G hn hd hrd hZ hT hM hs hi hr
  have h11:=hT.len
  have hb:=hT.lenb
  have h2k:2 ^ t.l.length≤2 ^ 11:=Nat.pow_le_pow_right (by decide) h11
  have hd60:d<2 ^ 60:=by omega
  have hrl:row.length≤3000:=by omega
  obtain ⟨ra,rc,er⟩:=hr.len
  have er:rowv= .slice ra row.length rc:=by rw [er]; simp
  have lr:∀ x,ln Q true x rowv=some (.int .i64 row.length):=fun x=>by rw [er]; simp
  obtain ⟨ba,bc,eb⟩:=hT.hb.len
  have eb:t.bV= .slice ba t.b.length bc:=by rw [eb]; simp
  have lb:∀ x,ln Q true x t.bV=some (.int .i64 t.b.length):=fun x=>by rw [eb]; simp
  have o3:=hT.c3
  have o4:=hT.c4
  have back:∀ (G9:GS),Ext G G9→(t.b.length≤row.length→¬ ovrP t.l d)→∃ (G23 G33:GS) (es:List (Value×Value)),
    cValue (E orc) t.tv [sv] G9=some (.string (tx s),G9)∧G23=(G9.push ⟨z323,1,false,1⟩).put G9.nx ⟨[.int .i64 (d:Int),.string (tx s)],1,false,1⟩∧G33=(G23.push ⟨z324,1,false,1⟩).put G23.nx ⟨[],1,false,1⟩ ∧
    G9.obj t.p6=some ⟨[t.fv,t.nv,t.uv,t.tv],1,false,1⟩∧G23.obj t.p7=some ⟨[.map (some t.lv)],1,false,1⟩∧G23.obj G9.nx=some ⟨[.int .i64 (d:Int),.string (tx s)],1,false,1⟩∧G33.obj t.p4=some ⟨[t.lV],1,false,1⟩∧Ext G G33 ∧
    G23.loop t.lv=some (mpL es)∧MemOk m t.l inv tx es∧(∀ x∈es,∀ d0 s0,Z d0 s0→x.1≠ .agg #[.int .i64 (d0:Int),.string s0])∧G33.obj G9.nx=some ⟨[.int .i64 (d:Int),.string (tx s)],1,false,1⟩∧G33.loop t.lv=some (mpL es):=by
   intro G9 x9 ho
   obtain ⟨⟨r,G'⟩,h1,h2,h3⟩:=hT.mc.text G9 sv s (hT.hB.trans x9) (hs.ext x9) hi
   simp only at h2 h3
   subst h2
   rw [h3] at h1
   have hT9:=hT.kp (Kp.ext x9)
   have x23:Ext G9 ((G9.push ⟨z323,1,false,1⟩).put G9.nx ⟨[.int .i64 (d:Int),.string (tx s)],1,false,1⟩):=((Ext.refl G9).push _).put (Nat.le_refl _) _
   have k23:((G9.push ⟨z323,1,false,1⟩).put G9.nx ⟨[.int .i64 (d:Int),.string (tx s)],1,false,1⟩).obj G9.nx=some ⟨[.int .i64 (d:Int),.string (tx s)],1,false,1⟩:=by simp
   have n23:G9.nx<((G9.push ⟨z323,1,false,1⟩).put G9.nx ⟨[.int .i64 (d:Int),.string (tx s)],1,false,1⟩).nx:=by simp
   obtain ⟨G23,h23⟩:∃ G23,G23=(G9.push ⟨z323,1,false,1⟩).put G9.nx ⟨[.int .i64 (d:Int),.string (tx s)],1,false,1⟩:=⟨_,rfl⟩
   rw [← h23] at x23 k23 n23
   have x33:Ext G23 ((G23.push ⟨z324,1,false,1⟩).put G23.nx ⟨[],1,false,1⟩):=((Ext.refl G23).push _).put (Nat.le_refl _) _
   have hT23:=hT9.kp (Kp.ext x23)
   have hT33:=hT23.kp (Kp.ext x33)
   obtain ⟨es,l1,l2,l3⟩:=(hM.ext (x9.trans x23) hT.hlv.2)
   exact ⟨G23,_,es,h1,h23,rfl,hT9.c6,hT23.c7,k23,hT33.c4,(x9.trans x23).trans x33,l1,l2,l3,(x33.obj _ n23).trans k23,(x33.loop _ hT23.hlv.2).trans l1⟩
  have hst2:stO 2 0 (.agg ⟨[.int .i64 (d:Int),.string (tx s)]⟩) (some ⟨z323,1,false,1⟩)=some ⟨[.int .i64 (d:Int),.string (tx s)],1,false,1⟩:=rfl
  have hld2:loadO 2 0 (some ⟨[.int .i64 (d:Int),.string (tx s)],1,false,1⟩)=some (.agg ⟨[.int .i64 (d:Int),.string (tx s)]⟩):=loadO_whole rfl (by decide)
  have hst0:stO 0 0 (.agg #[]) (some ⟨z324,1,false,1⟩)=some ⟨[],1,false,1⟩:=rfl
  have hu:Q.underlying 320=some (.map 323 324):=Tryz.underlying320
  have hzv:prun Q (zeroValue 324)=some (.agg #[]):=by kernel_rfl
  have hgk:gStg (.agg #[.int .i64 (d:Int),.string (tx s)]):=⟨_,_,rfl⟩
  have ih':∀ a,a<t.l.length→rdyP t.l d a→∀ (G:GS) (sv1 rowv1:Value) (s1:List α),Te orc e m inv tx 234 B t G→Mem m t.l inv tx t.lv (fun d0 s0=>Z d0 s0∨(t.b.length≤row.length∧d0=d∧s0=tx s)) G→SlR e G sv1 s1→inv s1→SlR (rowsI .i64) G rowv1 (rIP (row++[a])) →
    Wp ((E orc).cl 234 [sv1,.int .i64 ((d ||| 1 <<< a:Nat):Int),rowv1,Pp t.p3,Pp t.p4,Pp t.p5,Pp t.p6,Pp t.p7,Pp t.p8] G) (Out m inv tx t (fun d0 s0=>Z d0 s0∨(t.b.length≤row.length∧d0=d∧s0=tx s)) (Goes m t.l (t.b.drop (row.length+1)) s1 (d ||| 1 <<< a)) G):=by
   intro a ha hra G sv1 rowv1 s1 h1 h2 h3 h4 h5
   have hgt:=or_gtP hra.1
   have hlt:d ||| 1 <<< a<2 ^ t.l.length:=Nat.or_lt_two_pow hd (by rw [Nat.shiftLeft_eq,Nat.one_mul]; exact Nat.pow_lt_pow_right (by decide) ha)
   have:=ihn (fun d0 s0=>Z d0 s0∨(t.b.length≤row.length∧d0=d∧s0=tx s)) s1 (d ||| 1 <<< a) (row++[a]) sv1 rowv1 G (by omega) hlt (by simp; omega) (fun d0 s0 h=>h.elim (fun h=>by have:=hZ d0 s0 h; omega) fun ⟨_,h,_⟩=>by omega) h1 h2 h3 h4 h5
   rw [List.length_append,List.length_singleton] at this
   exact this
  refine Wp.ref (f234 (exL_ok Q orc) _ _ _ _ _ _ _ _ _ G) ?_
  by_cases hop:t.b.length≤row.length
  ·have hop':(t.b.length:Int)≤row.length:=by omega
   have hdrop:t.b.drop row.length=[]:=List.drop_eq_nil_of_le hop
   obtain ⟨G9,x9,⟨eo,ho⟩ | ⟨eo,ho⟩⟩:=over_ok orc hT.hl (by omega) hd60
   ·have hT9:=hT.kp (Kp.ext x9)
    have o5:=hT9.c5
    obtain ⟨cv,G12,e6,x6,w6⟩:=cloneI_ok orc ((hr.ext x9).ext ((Ext.refl G9).room 5)) (by simp; omega)
    have xx:=((Ext.refl G9).room 5).trans x6
    have hT12:=hT9.kp (Kp.ext xx)
    have o12:=hT12.c5
    obtain ⟨G14,e14,f14⟩:=hT12.yl G12 cv hT12.r0 hT12.cf hT12.lt.2.2.2.2.2.2 hT12.hl0.1
    simp [-Int.natCast_add,s234,lr,lb,o3,o4,hop',eo,o5,e6,o12,e14]
    exact .inr ⟨rfl,by rw [hdrop]; exact (goes_nil m t.l).2 (.inl ho),Fd.of (Kp.ext (x9.trans xx)) f14⟩
   ·obtain ⟨G23,G33,es,etx,h23,h33,o6,o7,k23,o43,x33,l23,mok,mz,k33,l33⟩:=back G9 x9 fun _=>ho
    have hT33:=hT.kp (Kp.ext x33)
    obtain ⟨la,lc,el⟩:=hT33.hl.len
    by_cases hk:∃ x∈es,x.1= .agg #[.int .i64 (d:Int),.string (tx s)]
    ·obtain ⟨v,elk,hv⟩:=look_hit keyStg hu l23 mok.1 hgk hk
     have elk:gLookup Q 320 (.map (some t.lv)) (.agg ⟨[.int .i64 (d:Int),.string (tx s)]⟩) true G23=some (.tuple #[v,.bool true]):=elk
     cases hv
     simp [-Int.natCast_add,-cValue_func,s234,lr,lb,o3,o4,hop',eo,o6,etx,Value.cells,splice_put,splice_end,splice_succ,hst2,← h23,o7,k23,hld2,elk,pExtract,getN_zero,getN_succ,hst0,← h33]
     obtain ⟨x,hx,hxk⟩:=hk
     exact .inl ⟨rfl,by rw [hdrop]; exact mok.2 x hx s d hi hxk,Kp.ext x33,es,l33,mok,mz⟩
    ·have hnk:∀ x∈es,x.1≠ .agg #[.int .i64 (d:Int),.string (tx s)]:=fun x hx h=>hk ⟨x,hx,h⟩
     have elk:=look_miss keyStg hu hzv rfl l23 mok.1 hgk hnk
     have elk:gLookup Q 320 (.map (some t.lv)) (.agg ⟨[.int .i64 (d:Int),.string (tx s)]⟩) true G23=some (.tuple #[.agg #[],.bool false]):=elk
     have hM33:Mem m t.l inv tx t.lv (fun d0 s0=>Z d0 s0∨(t.b.length≤row.length∧d0=d∧s0=tx s)) G33:=⟨es,l33,mok,fun x hx d0 s0 h=>h.elim (mz x hx d0 s0) fun ⟨_,h1,h2⟩=>by rw [h1,h2]; exact hnk x hx⟩
     have lenl:∀ x,ln Q true x t.lV=some (.int .i64 t.l.length):=fun x=>by rw [el]; simp
     simp [-Int.natCast_add,-cValue_func,s234,lr,lb,o3,o4,hop',eo,o6,etx,Value.cells,splice_put,splice_end,splice_succ,hst2,← h23,o7,k23,hld2,elk,pExtract,getN_zero,getN_succ,hst0,← h33,o43,lenl]
     refine Wp.bE ((outer_P (kv:=Pp G9.nx) (Z:=fun d0 s0=>Z d0 s0∨(t.b.length≤row.length∧d0=d∧s0=tx s)) (row:=row) hT33 (hs.ext x33) hi (hr.ext x33) hrl hd60 ih' t.l.length 0 _ G33 (by omega) ⟨by simp,by simp,by simp,by simp,by simp,by simp,by simp,by simp,by simp [hop],by simp,by simp [el],by simp⟩ (by simp) (Kp.refl _ _) hM33).mono ?_)
     rintro ⟨ee,τ',G'⟩ (⟨q1,q2,q3,q4,q5⟩ | ⟨q1,q2,⟨a,s1,q3,q4,q5⟩,q6⟩)
     ·simp only at q1 q2 q3 q5
      subst q1
      have w7:=q5.t7
      have w13:=q5.t13
      have w14:=q5.t14
      have hT':=hT33.kp q2
      have o7':=hT'.c7
      have k39:G'.obj G9.nx=some ⟨[.int .i64 (d:Int),.string (tx s)],1,false,1⟩:=(q2.obj _ (by rw [h33,h23]; simp; omega)).trans k33
      obtain ⟨es',l',mok',mz'⟩:=q3
      have hnk':∀ x∈es',x.1≠ .agg #[.int .i64 (d:Int),.string (tx s)]:=fun x hx=>mz' x hx d (tx s) (.inr ⟨hop,rfl,rfl⟩)
      have eput:=map_put (v:=.agg #[]) keyStg hu l' mok'.1 hgk rfl hnk'
      have eput:gMapPut Q 320 (.map (some t.lv)) (.agg ⟨[.int .i64 (d:Int),.string (tx s)]⟩) (.agg ⟨z324⟩) G' =some (G'.putLoop t.lv (mpL (es' ++[(.agg #[.int .i64 (d:Int),.string (tx s)],.agg #[])]))):=eput
      have hno:¬ Goes m t.l [] s d:=fun h=>by
       rcases (goes_nil m t.l).1 h with h | ⟨a,s1,h1,h2⟩
       ·exact ho h
       ·exact q4 a (Nat.zero_le _) (.inl hop) s1 h1 (by rw [List.drop_eq_nil_of_le (by omega)]; exact h2)
      simp [-Int.natCast_add,w7,w13,w14,hop,o7',k39,hld2,eput]
      refine .inl ⟨rfl,by rw [hdrop]; exact hno,(Kp.ext x33).trans (q2.trans (Kp.put _ _)),_,by rw [GS.loop_put,if_pos rfl],⟨fun x hx=>?_,fun x hx s0 d0 hi0 hx0=>?_⟩,fun x hx d0 s0 hz=>?_⟩
      ·rcases List.mem_append.1 hx with hx | hx
       ·exact mok'.1 x hx
       ·rw [List.mem_singleton.1 hx]; exact ⟨hgk,rfl⟩
      ·rcases List.mem_append.1 hx with hx | hx
       ·exact mok'.2 x hx s0 d0 hi0 hx0
       ·rw [List.mem_singleton.1 hx] at hx0
        simp only [Value.agg.injEq,Array.mk.injEq,List.cons.injEq,Value.int.injEq,true_and,Value.string.injEq,and_true] at hx0
        have e1:d=d0:=by have:=hx0.1; omega
        have e2:=hT.mc.inj s s0 hi hi0 hx0.2
        subst e1 e2
        exact hno
      ·rcases List.mem_append.1 hx with hx | hx
       ·exact mz' x hx d0 s0 (.inl hz)
       ·rw [List.mem_singleton.1 hx]
        intro h
        simp only [Value.agg.injEq,Array.mk.injEq,List.cons.injEq,Value.int.injEq,true_and,Value.string.injEq,and_true] at h
        have:=hZ d0 s0 hz
        have:=h.1
        omega
     ·simp only at q1 q2 q6
      subst q1
      simp [-Int.natCast_add,q2]
      refine .inr ⟨rfl,?_,Fd.of (Kp.ext x33) q6⟩
      rw [hdrop]
      rw [List.drop_eq_nil_of_le (by omega)] at q5
      exact (goes_nil m t.l).2 (.inr ⟨a,s1,q4,q5⟩)
  ·have hop':¬ (t.b.length:Int)≤row.length:=by omega
   have hbl:row.length<t.b.length:=by omega
   have hdrop:=List.drop_eq_getElem_cons hbl
   obtain ⟨G23,G33,es,etx,h23,h33,o6,o7,k23,o43,x33,l23,mok,mz,k33,l33⟩:=back G (Ext.refl G) fun h=>absurd h hop
   have hT33:=hT.kp (Kp.ext x33)
   obtain ⟨la,lc,el⟩:=hT33.hl.len
   have lenl:∀ x,ln Q true x t.lV=some (.int .i64 t.l.length):=fun x=>by rw [el]; simp
   have hM33:Mem m t.l inv tx t.lv (fun d0 s0=>Z d0 s0∨(t.b.length≤row.length∧d0=d∧s0=tx s)) G33:=⟨es,l33,mok,fun x hx d0 s0 h=>h.elim (mz x hx d0 s0) fun ⟨h,_⟩=>absurd h hop⟩
   have hno:(∀ a,0≤a→AlwP t.b row.length a→∀ s1,Step m t.l s d a s1→¬ Goes m t.l (t.b.drop (row.length+1)) s1 (d ||| 1 <<< a))→¬ Goes m t.l (t.b.drop row.length) s d:=fun q4 h=>by
    rw [hdrop] at h
    obtain ⟨s1,h1,h2⟩:=(goes_cons m t.l).1 h
    exact q4 _ (Nat.zero_le _) (.inr (List.getElem?_eq_getElem hbl)) s1 h1 h2
   have hyes:∀ a s1,AlwP t.b row.length a→Step m t.l s d a s1→Goes m t.l (t.b.drop (row.length+1)) s1 (d ||| 1 <<< a)→Goes m t.l (t.b.drop row.length) s d:=fun a s1 h1 h2 h3=>by
    rw [hdrop]
    rcases h1 with h1 | h1
    ·exact absurd h1 hop
    ·rw [List.getElem?_eq_getElem hbl] at h1
     cases h1
     exact (goes_cons m t.l).2 ⟨s1,h2,h3⟩
   by_cases hk:∃ x∈es,x.1= .agg #[.int .i64 (d:Int),.string (tx s)]
   ·obtain ⟨v,elk,hv⟩:=look_hit keyStg hu l23 mok.1 hgk hk
    have elk:gLookup Q 320 (.map (some t.lv)) (.agg ⟨[.int .i64 (d:Int),.string (tx s)]⟩) true G23=some (.tuple #[v,.bool true]):=elk
    cases hv
    simp [-Int.natCast_add,-cValue_func,s234,lr,lb,o3,o4,hop',o6,etx,Value.cells,splice_put,splice_end,splice_succ,hst2,← h23,o7,k23,hld2,elk,pExtract,getN_zero,getN_succ,hst0,← h33,o43,lenl]
    refine Wp.bE ((outer_P (kv:=Pp G.nx) (Z:=fun d0 s0=>Z d0 s0∨(t.b.length≤row.length∧d0=d∧s0=tx s)) (row:=row) hT33 (hs.ext x33) hi (hr.ext x33) hrl hd60 ih' t.l.length 0 _ G33 (by omega) ⟨by simp,by simp,by simp,by simp,by simp,by simp,by simp,by simp,by simp [hop],by simp,by simp [el],by simp⟩ (by simp) (Kp.refl _ _) hM33).mono ?_)
    rintro ⟨ee,τ',G'⟩ (⟨q1,q2,q3,q4,q5⟩ | ⟨q1,q2,⟨a,s1,q3,q4,q5⟩,q6⟩)
    ·simp only at q1 q2 q3 q5
     subst q1
     have w13:=q5.t13
     obtain ⟨es',l',mok',mz'⟩:=q3
     simp [-Int.natCast_add,w13,hop]
     exact .inl ⟨rfl,hno q4,(Kp.ext x33).trans q2,es',l',mok',fun x hx d0 s0 hz=>mz' x hx d0 s0 (.inl hz)⟩
    ·simp only at q1 q2 q6
     subst q1
     simp [-Int.natCast_add,q2]
     exact .inr ⟨rfl,hyes a s1 q3 q4 q5,Fd.of (Kp.ext x33) q6⟩
   ·have hnk:∀ x∈es,x.1≠ .agg #[.int .i64 (d:Int),.string (tx s)]:=fun x hx h=>hk ⟨x,hx,h⟩
    have elk:=look_miss keyStg hu hzv rfl l23 mok.1 hgk hnk
    have elk:gLookup Q 320 (.map (some t.lv)) (.agg ⟨[.int .i64 (d:Int),.string (tx s)]⟩) true G23=some (.tuple #[.agg #[],.bool false]):=elk
    simp [-Int.natCast_add,-cValue_func,s234,lr,lb,o3,o4,hop',o6,etx,Value.cells,splice_put,splice_end,splice_succ,hst2,← h23,o7,k23,hld2,elk,pExtract,getN_zero,getN_succ,hst0,← h33,o43,lenl]
    refine Wp.bE ((outer_P (kv:=Pp G.nx) (Z:=fun d0 s0=>Z d0 s0∨(t.b.length≤row.length∧d0=d∧s0=tx s)) (row:=row) hT33 (hs.ext x33) hi (hr.ext x33) hrl hd60 ih' t.l.length 0 _ G33 (by omega) ⟨by simp,by simp,by simp,by simp,by simp,by simp,by simp,by simp,by simp [hop],by simp,by simp [el],by simp⟩ (by simp) (Kp.refl _ _) hM33).mono ?_)
    rintro ⟨ee,τ',G'⟩ (⟨q1,q2,q3,q4,q5⟩ | ⟨q1,q2,⟨a,s1,q3,q4,q5⟩,q6⟩)
    ·simp only at q1 q2 q3 q5
     subst q1
     have w13:=q5.t13
     obtain ⟨es',l',mok',mz'⟩:=q3
     simp [-Int.natCast_add,w13,hop]
     exact .inl ⟨rfl,hno q4,(Kp.ext x33).trans q2,es',l',mok',fun x hx d0 s0 hz=>mz' x hx d0 s0 (.inl hz)⟩
    ·simp only at q1 q2 q6
     subst q1
     simp [-Int.natCast_add,q2]
     exact .inr ⟨rfl,hyes a s1 q3 q4 q5,Fd.of (Kp.ext x33) q6⟩
end
theorem extNewP {A G:GS} (h:Ext A G):Ext A G.newMap:=⟨h.nx,h.obj,Nat.le_trans h.nl (Nat.le_succ _),fun k hk=>by
 have:k≠G.nl:=by have:=h.nl; omega
 show (G.pushLoop _).loop k=_
 rw [GS.loop_push,if_neg this]; exact h.loop k hk⟩
section
variable {α:Type} {orc:FuncId→Bool} {e:RowE α} {m:Mac α} {inv:List α→Prop} {tx:List α→ByteArray} {B:GS} {fv nv uv tv lV bV:Value} {l:List Sp} {b:List Nat} {G:GS}
theorem ord1_P {H:GS} {p3 p4 p6 l0 fl:Nat} {R:Lp} (hm:MacC orc e m inv tx B fv nv uv tv) (hB:Ext B H) (lt:p3<H.nx∧p4<H.nx∧p6<H.nx∧fl<H.nx) (hl0:l0<H.nl)
  (c3:H.obj p3=some ⟨[bV],1,false,1⟩) (c4:H.obj p4=some ⟨[lV],1,false,1⟩) (c6:H.obj p6=some ⟨[fv,nv,uv,tv],1,false,1⟩) (cf:H.obj fl=some ⟨[.bool false],1,false,1⟩) (r0:H.loop l0=some R)
  (hl:SlR rSp H lV l) (hb:SlR (rowsI .i64) H bV (rIP b)) (okl:∀ c∈l,okOp c.op) (len:l.length≤11) (lenb:b.length≤3000)
  (yl:∀ (t:TeP),t.l0=l0→t.fl=fl→t.R=R→∀ (G1:GS) (v:Value),G1.loop l0=some R→G1.obj fl=some ⟨[.bool false],1,false,1⟩→fl<G1.nx→l0<G1.nl→∃ G2,(E orc).rd l0 [v] G1=some (.bool false,G2)∧Fd t G1 G2) :
  Wp ((E orc).cl 233 [.func (.yield l0) #[] #[],Pp p3,Pp p4,Pp p6] H) fun r=>r.1= .tuple #[]∧((¬ Goes m l b m.first 0∧Ext H r.2)∨(Goes m l b m.first 0∧H.nx≤r.2.nx∧(∀ g,g<H.nx→g≠fl→r.2.obj g=H.obj g)∧r.2.obj fl=some ⟨[.bool true],1,false,1⟩∧H.nl≤r.2.nl∧(∀ k,k<H.nl→k≠l0→r.2.loop k=H.loop k)∧∃ r',r.2.loop l0=some r' ∧r'.st= .done∧jumpOf r'.pend=some .ret)):=by
 obtain ⟨g1,g2,g3,g4⟩:=lt
 refine Wp.ref (f233 (exL_ok Q orc) _ _ _ _ H) ?_
 have n3:¬ p6=H.nx:=by omega
 have n4:¬ p6=H.nx+1:=by omega
 have n5:¬ p6=H.nx+1+1:=by omega
 have hsm:stO 1 0 (.map (some H.nl)) (some ⟨z320,1,false,1⟩)=some ⟨[.map (some H.nl)],1,false,1⟩:=rfl
 have mx:∀ G:GS,G.newMap.nx=G.nx:=fun _=>rfl
 have mo:∀ (G:GS) (g:Nat),G.newMap.obj g=G.obj g:=fun _ _=>rfl
 obtain ⟨G9,h9⟩:∃ G9,G9=(((((H.push ⟨[.func (.yield l0) #[] #[]],1,false,1⟩).newMap.push ⟨z320,1,false,1⟩).put (H.nx+1) ⟨[.map (some H.nl)],1,false,1⟩).push ⟨z332,1,false,1⟩).put (H.nx+1+1) ⟨[.func (.func 234) #[] #[Pp p3,Pp p4,Pp H.nx,Pp p6,Pp (H.nx+1),Pp (H.nx+1+1)]],1,false,1⟩):=⟨_,rfl⟩
 have x9:Ext H G9:=by
  rw [h9]
  exact Ext.put (Ext.push (Ext.put (Ext.push (extNewP ((Ext.refl H).push _)) _) (by omega) _) _) (by omega) _
 have n9:G9.nx=H.nx+3:=by rw [h9]; simp [mx]
 have l9:G9.nl=H.nl+1:=by rw [h9]; rfl
 have ne2:¬ H.nx=H.nx+1+1:=by omega
 have o5:G9.obj H.nx=some ⟨[.func (.yield l0) #[] #[]],1,false,1⟩:=by rw [h9]; simp [mx,mo,ne2]
 have o7:G9.obj (H.nx+1)=some ⟨[.map (some H.nl)],1,false,1⟩:=by rw [h9]; simp [mx,mo]
 have o8:G9.obj (H.nx+1+1)=some ⟨[.func (.func 234) ⟨[]⟩ ⟨[Pp p3,Pp p4,Pp H.nx,Pp p6,Pp (H.nx+1),Pp (H.nx+1+1)]⟩],1,false,1⟩:=by rw [h9]; simp [mx,mo]
 have lp9:G9.loop H.nl=some (mpL []):=by rw [h9]; exact newMap_loop (H.push _)
 have te:Te orc e m inv tx 234 B ⟨p3,p4,H.nx,p6,H.nx+1,H.nx+1+1,H.nl,l0,fl,bV,lV,fv,nv,uv,tv,l,b,R⟩ G9 :=
  ⟨hm,hB.trans x9,⟨hB.nl,by simp only; omega⟩,⟨by simp only; omega,by simp only; omega⟩,⟨by simp only; omega,by simp only; omega,by simp only; omega,by simp only; omega,by simp only; omega,by simp only; omega,by simp only; omega⟩,
   (x9.obj _ g1).trans c3,(x9.obj _ g2).trans c4,o5,(x9.obj _ g3).trans c6,o7,o8,(x9.obj _ g4).trans cf,hb.ext x9,hl.ext x9,okl,len,lenb,(x9.loop _ hl0).trans r0,fun G1 v k1 k2 k3 k4=>yl _ rfl rfl rfl G1 v k1 k2 k3 k4⟩
 have hM:Mem m l inv tx H.nl (fun _ _=>False) G9:=⟨[],lp9,⟨fun _ h=>(by cases h),fun _ h=>(by cases h)⟩,fun _ h=>(by cases h)⟩
 obtain ⟨⟨r,G14⟩,et,ho⟩:=try_P (2 ^ l.length) (fun _ _=>False) m.first 0 [] fv (.slice none 0 0) G9 (by simp) (Nat.two_pow_pos _) (by simp) (fun _ _ h=>h.elim) te hM (hm.first.ext (hB.trans x9)) hm.inv0 SlR.nil
 have et:(E orc).cl 234 [fv,.int .i64 0,.slice none 0 0,Pp p3,Pp p4,Pp H.nx,Pp p6,Pp (H.nx+1),Pp (H.nx+1+1)] G9=some (r,G14):=et
 simp [s233,mBox,Value.cells,nm,c6,n3,n4,n5,hsm,mx,mo,← h9,et]
 rcases ho with ⟨h1,h2,h3,h4⟩ | ⟨h1,h2,h3⟩
 ·left
  simp only [List.length_nil,List.drop_zero] at h2
  refine ⟨h2,Nat.le_trans x9.nx h3.nx,fun g hg=>(h3.obj g (by omega)).trans (x9.obj g hg),Nat.le_trans x9.nl h3.nl,fun k hk=>(h3.loop k (by omega) (by simp only; omega)).trans (x9.loop k hk)⟩
 ·right
  simp only [List.length_nil,List.drop_zero] at h2
  have y1:=h3.nx
  have y2:=h3.nl
  refine ⟨h2,by simp only at y1; omega,fun g hg hn=>(h3.obj g (by omega) hn).trans (x9.obj g hg),h3.fl,by simp only at y2; omega,fun k hk hn=>(h3.loop k (by omega) (by simp only; omega) hn).trans (x9.loop k hk),h3.l0⟩
theorem orders_P (hl:SlR rSp G lV l) (hb:SlR (rowsI .i64) G bV (rIP b)) :
  (E orc).cl 175 [.agg ⟨[fv,nv,uv,tv]⟩,lV,bV] G=some (.func (.func 233) ⟨[]⟩ ⟨[Pp (G.nx+2),Pp (G.nx+1),Pp G.nx]⟩,((G.push ⟨[fv,nv,uv,tv],1,false,1⟩).push ⟨[lV],1,false,1⟩).push ⟨[bV],1,false,1⟩):=by
 obtain ⟨la,lc,el⟩:=hl.len
 obtain ⟨ba,bc,eb⟩:=hb.len
 have w:Wp ((E orc).cl 175 [.agg ⟨[fv,nv,uv,tv]⟩,lV,bV] G) fun r=>r=(.func (.func 233) ⟨[]⟩ ⟨[Pp (G.nx+2),Pp (G.nx+1),Pp G.nx]⟩,((G.push ⟨[fv,nv,uv,tv],1,false,1⟩).push ⟨[lV],1,false,1⟩).push ⟨[bV],1,false,1⟩):=by
  refine Wp.ref (f175 (exL_ok Q orc) _ _ _ G) ?_
  subst el eb
  simp [s175,mBox,Value.cells]
 obtain ⟨r,h1,h2⟩:=w
 rw [h1,h2]
theorem begins_P (hm:MacC orc e m inv tx B fv nv uv tv) (hB:Ext B G) (hl:SlR rSp G lV l) (hb:SlR (rowsI .i64) G bV (rIP b)) (okl:∀ c∈l,okOp c.op) (len:l.length≤11) (lenb:b.length≤3000) :
  Wp ((E orc).cl 111 [.agg ⟨[fv,nv,uv,tv]⟩,lV,bV] G) fun r=>Ext G r.2∧(r.1= .bool true∧Goes m l b m.first 0∨r.1= .bool false∧¬ Goes m l b m.first 0):=by
 refine Wp.ref (f111 (exL_ok Q orc) _ _ _ G) ?_
 have x2:Ext G ((G.push ⟨[fv,nv,uv,tv],1,false,1⟩).push ⟨[.bool false],1,false,1⟩):=((Ext.refl G).push _).push _
 have e1:=orders_P (orc:=orc) (fv:=fv) (nv:=nv) (uv:=uv) (tv:=tv) (hl.ext x2) (hb.ext x2)
 simp [s111,mBox,Value.cells,e1,loadO_whole]
 obtain ⟨T,hT⟩:∃ T,T=lst 12 (tu (nth undef [Value.agg { toList:=[fv,nv,uv,tv] },lV,bV]) [(10,Value.func (Fn.func 233) { toList:=[] } { toList:=[Pp (G.nx+1+1+2),Pp (G.nx+1+1+1),Pp (G.nx+1+1)] }),(9,bV),(8,lV),(7,Value.agg { toList:=[fv,nv,uv,tv] }),(6,Pp (G.nx+1)),(3,Pp G.nx)]):=⟨_,rfl⟩
 have T6:nth undef T 6=Pp (G.nx+1):=by rw [hT]; rfl
 have T12:T.length=12:=by rw [hT]; rfl
 rw [← hT]
 obtain ⟨H,hH⟩:∃ H,H=((((G.push ⟨[fv,nv,uv,tv],1,false,1⟩).push ⟨[.bool false],1,false,1⟩).push ⟨[fv,nv,uv,tv],1,false,1⟩).push ⟨[lV],1,false,1⟩).push ⟨[bV],1,false,1⟩:=⟨_,rfl⟩
 rw [← hH]
 have xH:Ext G H:=by rw [hH]; exact (((((Ext.refl G).push _).push _).push _).push _).push _
 have nH:H.nx=G.nx+5:=by rw [hH]; simp
 have lH:H.nl=G.nl:=by rw [hH]; rfl
 obtain ⟨R,hR⟩:∃ R,R=(⟨.ready,none,T,[11],subAt [1,0,1,0,0] (bodyOf Tryz.f111),subAt [1,0,1,0,1] (bodyOf Tryz.f111)⟩:Lp):=⟨_,rfl⟩
 rw [← hR]
 have xP:Ext G (H.pushLoop R):=⟨xH.nx,xH.obj,Nat.le_trans xH.nl (Nat.le_succ _),fun k hk=>by rw [GS.loop_push,if_neg (by omega)]; exact xH.loop k hk⟩
 have k1:∀ g,(H.pushLoop R).obj g=H.obj g:=fun _=>rfl
 have w:=ord1_P (orc:=orc) (H:=H.pushLoop R) (p3:=G.nx+1+1+2) (p4:=G.nx+1+1+1) (p6:=G.nx+1+1) (l0:=G.nl) (fl:=G.nx+1) (R:=R) hm (hB.trans xP) (by show _<H.nx∧_<H.nx∧_<H.nx∧_<H.nx; omega) (by show _<H.nl+1; omega)
  (by rw [k1,hH]; simp) (by rw [k1,hH]; simp) (by rw [k1,hH]; simp) (by rw [k1,hH]; simp) (by rw [GS.loop_push,if_pos lH.symm]) (hl.ext xP) (hb.ext xP) okl len lenb ?yl
 case yl =>
  intro t t0 tf tR G1 v r1 r2 r3 r4
  have w:Wp ((E orc).rd G.nl [v] G1) fun q=>q=(.bool false,((G1.putLoop G.nl (R.setSt .busy)).put (G.nx+1) ⟨[.bool true],1,false,1⟩).putLoop G.nl { R.setSt .busy with st:=.done,pend:=some .ret }):=by
   refine Wp.ref (d111_0 (exL_ok Q orc) G.nl T v G1 (st:=.ready) (pend:=none) (by rw [r1,hR]) T12) ?_
   have hst:stO 1 0 (.bool true) (some ⟨[.bool false],1,false,1⟩)=some ⟨[.bool true],1,false,1⟩:=rfl
   have hR':R.st= .ready:=by rw [hR]
   simp [r111_0,T6,r1,hR',r2,hst,roundEnd,codeOf]
  obtain ⟨r,w1,w2⟩:=w
  rw [w2] at w1
  refine ⟨_,w1,⟨Nat.le_refl _,fun g hg hn=>?_,?_,Nat.le_refl _,fun k hk hn h0=>?_,?_⟩⟩
  ·rw [tf] at hn; simp [hn]
  ·rw [tf]; simp
  ·rw [t0] at h0; rw [GS.loop_put,if_neg h0]; show (G1.putLoop _ _).loop k=_; rw [GS.loop_put,if_neg h0]
  ·rw [t0]; exact ⟨_,by rw [GS.loop_put,if_pos rfl],rfl,rfl⟩
 obtain ⟨⟨r,G14⟩,e14,rfl,ho⟩:=w
 simp only at ho
 rw [show (evL Q orc).cl 233 [.func (.yield G.nl) #[] #[],Pp (G.nx+1+1+2),Pp (G.nx+1+1+1),Pp (G.nx+1+1)] (H.pushLoop R)=some (.tuple #[],G14) from e14]
 have pn:(H.pushLoop R).nx=G.nx+5:=nH
 have pl:(H.pushLoop R).nl=G.nl+1:=by show H.nl+1=_; omega
 rcases ho with ⟨h1,h2⟩ | ⟨h1,h2,h3,h4,h5,h6,r',h7,h8,h9⟩
 ·have q1:G14.loop G.nl=some R:=by rw [h2.loop _ (by omega),GS.loop_push,if_pos lH.symm]
  rw [xRangeEnd_some G.nl T _ G14 q1 (by rw [hR]; exact fun h=>by cases h) (e:=.normal) (by rw [hR]; rfl)]
  have q2:G14.obj (G.nx+1)=some ⟨[.bool false],1,false,1⟩:=by rw [h2.obj _ (by omega),k1,hH]; simp
  have hst:stO 1 0 (.bool false) (some ⟨[.bool false],1,false,1⟩)=some ⟨[.bool false],1,false,1⟩:=rfl
  simp [T6,q2,hst,h1]
  have xx:=xP.trans h2
  exact ⟨xx.nx,fun g hg=>by
   have:¬ g=G.nx+1:=by omega
   simp [this]; exact xx.obj g hg,xx.nl,fun k hk=>by
   have:¬ k=G.nl:=by omega
   show (G14.putLoop _ _).loop k=_
   rw [GS.loop_put,if_neg this]; exact xx.loop k hk⟩
 ·rw [xRangeEnd_some G.nl T _ G14 h7 (by rw [h8]; decide) h9]
  simp [T6,h4,h1]
  exact ⟨by show G.nx≤G14.nx; omega,fun g hg=>by
   show G14.obj g=_
   rw [h3 g (by omega) (by omega)]; exact xP.obj g hg,by show G.nl≤G14.nl; omega,fun k hk=>by
   have:¬ k=G.nl:=by omega
   rw [GS.loop_put,if_neg this,h6 k (by omega) this]; exact xP.loop k hk⟩
end
theorem dn_ltP {n:Nat}:∀ {row:List Nat} {d:Nat},(∀ a∈row,a<n)→d<2 ^ n→dn row d<2 ^ n
 | [],d,_,h=>h
 | a::row,d,h1,h2=>dn_ltP (row:=row) (fun x hx=>h1 x (List.mem_cons_of_mem _ hx)) (Nat.or_lt_two_pow h2 (by rw [Nat.shiftLeft_eq,Nat.one_mul]; exact Nat.pow_lt_pow_right (by decide) (h1 a (List.mem_cons_self ..))))
theorem dn_snocP (row:List Nat) (a d:Nat):dn (row++[a]) d=dn row d ||| 1 <<< a:=by simp [dn,List.foldl_append]
theorem way_lenP {α:Type} {m:Mac α} {l:List Sp} {s s2:List α} {d d2:Nat} {row:List Nat} (h:Way m l s d row s2 d2):d+row.length≤d2:=by
 induction h with
 | nil=>simp
 | cons h1 h2 h3 h4 h5 ih =>
  have:=or_gtP h2.1
  simp only [List.length_cons]
  omega
section
variable {α:Type} {orc:FuncId→Bool} {e:RowE α} {m:Mac α} {inv:List α→Prop} {tx:List α→ByteArray} {B A:GS} {fv nv uv tv lV:Value} {l:List Sp}
theorem goes_rowP {row:List Nat} (h:Goes m l row m.first 0):row.length≤dn row 0∧dn row 0<2 ^ l.length:=by
 obtain ⟨r,s2,d2,hw,_⟩:=h
 obtain ⟨h1,h2,_⟩:=way_fresh hw
 have h3:∀ a∈row,a<l.length:=fun a ha=>(h1 a (List.mem_append_left _ ha)).2
 obtain ⟨s1,d1,k1,_⟩:=way_app.1 hw
 have:=way_lenP k1
 have e:=way_dn k1
 exact ⟨by omega,dn_ltP h3 (Nat.two_pow_pos _)⟩
structure OrSP (m:Mac α) (l:List Sp) (A G:GS) (rowv outv:Value) (row:List Nat):Prop where
 hA:Ext A G
 w1:OwR (rowsI .i64) A.nx G rowv (rIP row)
 w2:OwR (rowsI .i64) A.nx G outv (row.map fun a=>(sp l a).id)
 sep:∀ g,InB rowv g→¬ InB outv g
 go:Goes m l row m.first 0
theorem OrSP.ext {G G':GS} {rowv outv:Value} {row:List Nat} (h:OrSP m l A G rowv outv row) (x:Ext G G'):OrSP m l A G' rowv outv row:=⟨h.hA.trans x,h.w1.ext x,h.w2.ext x,h.sep,h.go⟩
def OrPP (m:Mac α) (l:List Sp) (A:GS) (lV:Value) (p2:Nat) (row:List Nat) (q:Exit×Env×GS):Prop :=
 q.1= .exit 2∧∃ a,q.2.1 1=lV∧q.2.1 2=Pp p2∧q.2.1 8= .int .i64 (dn (row++[a]) 0:Nat)∧OrSP m l A q.2.2 (q.2.1 6) (q.2.1 7) (row++[a])
theorem ordIn_P (hm:MacC orc e m inv tx B fv nv uv tv) (hB:Ext B A) (hl:SlR rSp A lV l) (okl:∀ c∈l,okOp c.op) (len:l.length≤11) {p2:Nat} (c2:A.obj p2=some ⟨[fv,nv,uv,tv],1,false,1⟩) (hp2:p2<A.nx) {row:List Nat} {rowv outv:Value} :
  ∀ (k i:Nat) (τ:Env) (G:GS),i+k=l.length→(∃ a,i≤a∧a<l.length∧rdyP l (dn row 0) a∧Goes m l (row++[a]) m.first 0)→τ 1=lV→τ 2=Pp p2→τ 6=rowv→τ 7=outv→τ 8= .int .i64 (dn row 0:Nat)→τ 20=lV→τ 21= .int .i64 l.length→τ 22= .int .i64 (i:Int)→OrSP m l A G rowv outv row →
  Wp ((exL Q orc).lpx 44 1 τ G) (OrPP m l A lV p2 row):=by
 intro k
 induction k with
 | zero=>rintro i τ G hi ⟨a,h1,h2,_⟩; omega
 | succ k ih =>
  intro i τ G hi hex t1 t2 t6 t7 t8 t20 t21 t22 hS
  have hlt:i<l.length:=by omega
  have hw:IntKind.wrap .i64 ((i:Int)+1)=((i+1:Nat):Int):=wrap64 (by omega) (by omega)
  have h1:(i:Int)<l.length:=by omega
  have h2:(0:Int)≤i:=by omega
  have h3:¬ ((i:Int)<0):=by omega
  obtain ⟨hrl,hdl⟩:=goes_rowP hS.go
  have h2k:2 ^ l.length≤2 ^ 11:=Nat.pow_le_pow_right (by decide) len
  have hd60:dn row 0<2 ^ 60:=Nat.lt_of_lt_of_le hdl (Nat.pow_le_pow_right (by decide) (by omega))
  obtain ⟨b,o,cc,e0,hbG,_,hz⟩:=(hl.ext hS.hA).at hlt
  have hsp:=sp_at hlt
  rw [rSp_sz,← hsp,loadA_eq] at hz
  have hst:stO 10 0 (.agg ⟨rSp.row (sp l i)⟩) (some ⟨z29,1,false,1⟩)=some ⟨rSp.row (sp l i),1,false,1⟩:=rfl
  have hid:(rSp.row (sp l i))[0]? =some (.int .i64 (sp l i).id):=rfl
  generalize hri:rSp.row (sp l i)=ri at *
  obtain ⟨G5,hG5⟩:∃ G5,G5=(G.push ⟨z29,1,false,1⟩).put G.nx ⟨ri,1,false,1⟩:=⟨_,rfl⟩
  have x5:Ext G G5:=by rw [hG5]; exact ((Ext.refl G).push _).put (Nat.le_refl _) _
  have o5:G5.obj G.nx=some ⟨ri,1,false,1⟩:=by rw [hG5]; simp
  have n5:G.nx<G5.nx:=by rw [hG5]; simp
  have hS5:=(hS.ext x5).ext ((Ext.refl G5).room 14)
  obtain ⟨G6,x6,hrd⟩:=ready_ok orc (hl.ext hS5.hA) (by omega) hd60 hlt
  rw [e0] at hrd
  have hS6:=hS5.ext x6
  have o26:=(hS6.hA.obj _ hp2).trans c2
  rcases hrd with ⟨er5,hrp⟩ | ⟨er5,hrp⟩
  ·obtain ⟨cv,G11,e11,x11,w11⟩:=cloneI_ok orc hS6.w1.is (by simp; omega)
   have hS11:=hS6.ext x11
   have o211:=(hS11.hA.obj _ hp2).trans c2
   have y6:=x6.nx
   have y11:=x11.nx
   simp at y6
   have xD:Ext G5 (((G11.at' (G5.nx+10)).push ⟨[.int .i64 (i:Int)],1,false,1⟩).back G11):=drawn0 (((Ext.refl G5).room 14).trans (x6.trans x11)) (by omega) _
   have sl:SlR (rowsI .i64) (((G11.at' (G5.nx+10)).push ⟨[.int .i64 (i:Int)],1,false,1⟩).back G11) (.slice (some ⟨G5.nx+10,0,none⟩) 1 1) [(i:Int)]:=SlR.oneD (rowsI .i64) G11 (i:Int) (by omega)
   have w26:OwR (rowsI .i64) G5.nx (((G11.at' (G5.nx+10)).push ⟨[.int .i64 (i:Int)],1,false,1⟩).back G11) cv (rIP row):=by
    refine (w11.same (by simp) fun p n c he=>?_).mono (by omega)
    have:=w11.ge p n c he
    have hne:¬ p.block=G5.nx+10:=by omega
    simp [hne]
   obtain ⟨cv',G16,e16,x16,w16⟩:=OwR.app (ib:=8) w26 (by decide) xD sl (by simp; omega)
   rw [show (rowsI .i64).sz=1 from rfl] at e16
   have hS16:OrSP m l A G16 rowv outv row:=(hS.ext x5).ext x16
   have o216:=(hS16.hA.obj _ hp2).trans c2
   obtain ⟨⟨r,G18⟩,e18,x18,hr18⟩:=begins_P (orc:=orc) (b:=row++[i]) hm (hB.trans hS16.hA) (hl.ext hS16.hA) (bV:=cv') (by have:=w16.is; rw [rIP,List.map_append]; exact this) okl len (by simp; omega)
   simp only at x18 hr18
   rw [e0] at e18
   have hS18:=hS16.ext x18
   refine Wp.lp (l44_1 (exL_ok Q orc)) ?_
   rcases hr18 with ⟨rfl,hg⟩ | ⟨rfl,hg⟩
   ·simp [-Int.natCast_add,b44_1,clip_t,t1,t2,t6,t7,t8,t20,t21,t22,e0,h1,h2,hlt,hz,hst,← hG5,er5,o26,e11,o211,e16,o216,hm.sm,loadO_whole,sameO,e18]
    have n16:G5.nx≤G16.nx:=x16.nx
    have n18:=x18.nx
    have neq:¬ G.nx=G18.nx+2:=by omega
    have o18:G18.obj G.nx=some ⟨ri,1,false,1⟩:=(x18.obj _ (by omega)).trans ((x16.obj _ n5).trans o5)
    obtain ⟨G22,hG22⟩:∃ G22,G22=(((G18.room 16).at' (G18.nx+2)).push ⟨[.int .i64 (i:Int)],1,false,1⟩).back (G18.room 16):=⟨_,rfl⟩
    have x22:Ext G18 G22:=by rw [hG22]; exact drawn0 ((Ext.refl G18).room 16) (by omega) _
    have n22:G22.nx=G18.nx+16:=by rw [hG22]; simp
    have sl22:SlR (rowsI .i64) G22 (.slice (some ⟨G18.nx+2,0,none⟩) 1 1) [(i:Int)]:=by rw [hG22]; exact SlR.oneD (rowsI .i64) (G18.room 16) (i:Int) (by simp)
    have hS22:=hS18.ext x22
    obtain ⟨rv',G23,e23,m23,w23⟩:=hS22.w1.app_mod (ib:=8) (by decide) sl22 (by simp) (by simp; omega)
    rw [show (rowsI .i64).sz=1 from rfl] at e23
    have n23:=m23.nx
    have o23:G23.obj G.nx=some ⟨ri,1,false,1⟩:=by
     rw [m23.obj _ (by omega) (fun h=>by have:=hS22.w1.is.under _ h; have:=hS.w1.is.under _ h; omega)]
     exact (x22.obj _ (by omega)).trans o18
    obtain ⟨G28,hG28⟩:∃ G28,G28=((G23.at' (G18.nx+7)).push ⟨[.int .i64 (sp l i).id],1,false,1⟩).back G23:=⟨_,rfl⟩
    have sl28:SlR (rowsI .i64) G28 (.slice (some ⟨G18.nx+7,0,none⟩) 1 1) [(sp l i).id]:=by rw [hG28]; exact SlR.oneD (rowsI .i64) G23 (sp l i).id (by omega)
    have k28:∀ g,g≠G18.nx+7→G28.obj g=G23.obj g:=fun g hg=>by rw [hG28]; simp [hg]
    have w2G:OwR (rowsI .i64) A.nx G28 outv (row.map fun a=>(sp l a).id):=by
     refine hS22.w2.kept (by rw [hG28]; simp; omega) fun g hg=>?_
     have hlt':=hS.w2.is.under g hg
     rw [k28 g (by have:=x5.nx; omega),m23.obj g (by have:=x5.nx; omega) (fun h=>hS.sep g h hg)]
    obtain ⟨ov',G29,e29,m29,w29⟩:=w2G.app_mod (ib:=8) (by decide) sl28 (by simp) (by simp; omega)
    rw [show (rowsI .i64).sz=1 from rfl] at e29
    have hor:=or1 hd60 (show i<60 by omega)
    have hsame:∀ x:Int,same (.int .i64 x) (.int .i64 x)=true:=fun x=>by simp [same,sameD]
    simp [-Int.natCast_add,← hG22,e23,o23,o18,neq,hid,hsame,← hG28,e29,h3,hor.1]
    have n28:G28.nx=G23.nx:=by rw [hG28]; rfl
    have y29:=m29.nx
    have hAn:=hS18.hA.nx
    have xA:Ext A G29:=by
     refine ⟨by omega,fun g hg=>?_,?_,fun k hk=>?_⟩
     ·rw [m29.obj g (by omega) (fun h=>by have:=w2G.from h; omega),k28 g (by omega),m23.obj g (by omega) (fun h=>by have:=hS22.w1.from h; omega)]
      exact hS22.hA.obj g hg
     ·have z1:=hS22.hA.nl
      have z2:=m23.nl
      have z3:G28.nl=G23.nl:=by rw [hG28]; rfl
      have z4:=m29.nl
      omega
     ·have z1:=hS22.hA.nl
      have z2:=m23.nl
      have z3:G28.nl=G23.nl:=by rw [hG28]; rfl
      rw [m29.loop k (by omega)]
      have:G28.loop k=G23.loop k:=by rw [hG28]; rfl
      rw [this,m23.loop k (by omega)]
      exact hS22.hA.loop k hk
    refine ⟨rfl,i,by simp [clip_t,e0],by simp [clip_t],by simp [clip_t,dn_snocP],xA,?_,?_,?_,hg⟩
    ·have t6':∀ x:Value,x=rv' →OwR (rowsI .i64) A.nx G29 x (rIP (row++[i])):=fun x hx=>by
      subst hx
      have:=(w23.kept (G':=G29) (by omega) fun g hgb=>by
       have k1:=w23.from hgb
       have k2:=w23.is.under g hgb
       rw [m29.obj g (by omega) (fun h=>by have:=hS.w2.is.under g h; have:=x5.nx; omega),k28 g (by omega)]).mono (B':=A.nx) (by omega)
      rw [rIP,List.map_append]
      exact this
     exact t6' _ (by simp [clip_t])
    ·have t7':∀ x:Value,x=ov' →OwR (rowsI .i64) A.nx G29 x ((row++[i]).map fun a=>(sp l a).id):=fun x hx=>by
      subst hx
      have:=w29.mono (B':=A.nx) (by omega)
      rw [List.map_append]
      exact this
     exact t7' _ (by simp [clip_t])
    ·have t8':∀ x y:Value,x=rv' →y=ov' →∀ g,InB x g→¬ InB y g:=fun x y hx hy g h1 h2=>by
      subst hx hy
      have:=w23.is.under g h1
      have:=w29.from h2
      omega
     exact t8' _ _ (by simp [clip_t]) (by simp [clip_t])
   ·simp [-Int.natCast_add,b44_1,clip_t,t1,t2,t6,t7,t8,t20,t21,t22,e0,h1,h2,hlt,hz,hst,← hG5,er5,o26,e11,o211,e16,o216,hm.sm,loadO_whole,sameO,e18,hw]
    obtain ⟨a,k1,k2,k3,k4⟩:=hex
    have hai:a≠i:=fun h=>hg (h▸k4)
    refine Wp.mono (ih (i+1) _ G18 (by omega) ⟨a,by omega,k2,k3,k4⟩ (by simp [clip_t,e0]) (by simp [clip_t]) (by simp [clip_t]) (by simp [clip_t]) (by simp [clip_t]) (by simp [clip_t,e0]) (by simp [clip_t]) (by simp [clip_t]) hS18) fun q hq=>by rw [← e0]; exact hq
  ·refine Wp.lp (l44_1 (exL_ok Q orc)) ?_
   simp [-Int.natCast_add,b44_1,clip_t,t1,t2,t6,t7,t8,t20,t21,t22,e0,h1,h2,hlt,hz,hst,← hG5,er5,hw]
   obtain ⟨a,k1,k2,k3,k4⟩:=hex
   have hai:a≠i:=fun h=>hrp (h▸k3)
   refine Wp.mono (ih (i+1) _ G6 (by omega) ⟨a,by omega,k2,k3,k4⟩ (by simp [clip_t,e0]) (by simp [clip_t]) (by simp [clip_t]) (by simp [clip_t]) (by simp [clip_t]) (by simp [clip_t,e0]) (by simp [clip_t]) (by simp [clip_t]) hS6) fun q hq=>by rw [← e0]; exact hq
end
section
variable {α:Type} {orc:FuncId→Bool} {e:RowE α} {m:Mac α} {inv:List α→Prop} {tx:List α→ByteArray} {B A G:GS} {fv nv uv tv lV:Value} {l:List Sp}
def OfPP (m:Mac α) (l:List Sp) (A:GS) (q:Exit×Env×GS):Prop:=q.1= .exit 0∧∃ rowv row,OrSP m l A q.2.2 rowv (q.2.1 7) row∧ovrP l (dn row 0)
theorem ordOut_P (hm:MacC orc e m inv tx B fv nv uv tv) (hB:Ext B A) (hl:SlR rSp A lV l) (okl:∀ c∈l,okOp c.op) (len:l.length≤11) {p2:Nat} (c2:A.obj p2=some ⟨[fv,nv,uv,tv],1,false,1⟩) (hp2:p2<A.nx) :
  ∀ (n:Nat) (row:List Nat) (τ:Env) (G:GS),2 ^ l.length≤dn row 0+n→τ 1=lV→τ 2=Pp p2→τ 8= .int .i64 (dn row 0:Nat)→OrSP m l A G (τ 6) (τ 7) row →
  Wp ((exL Q orc).lpx 44 0 τ G) (OfPP m l A):=by
 intro n
 induction n with
 | zero=>intro row τ G hn t1 t2 t8 hS; have:=(goes_rowP hS.go).2; omega
 | succ n ih =>
  intro row τ G hn t1 t2 t8 hS
  obtain ⟨hrl,hdl⟩:=goes_rowP hS.go
  have hd60:dn row 0<2 ^ 60:=Nat.lt_of_lt_of_le hdl (Nat.pow_le_pow_right (by decide) (by omega))
  obtain ⟨la,lc,el⟩:=hl.len
  have lenl:∀ x,ln Q true x lV=some (.int .i64 l.length):=fun x=>by rw [el]; simp
  obtain ⟨G1,x1,hov⟩:=over_ok orc (hl.ext hS.hA) (by omega) hd60
  refine Wp.lp (l44_0 (exL_ok Q orc)) ?_
  rcases hov with ⟨eo,ho⟩ | ⟨eo,ho⟩
  ·simp [-Int.natCast_add,b44_0,clip_t,t1,t8,eo]
   refine ⟨rfl,τ 6,row,?_,ho⟩
   have:=hS.ext x1
   have t7:∀ x:Value,x=τ 7→OrSP m l A G1 (τ 6) x row:=fun x hx=>by rw [hx]; exact this
   exact t7 _ (by simp [clip_t])
  ·simp [-Int.natCast_add,b44_0,clip_t,t1,t8,eo,lenl]
   obtain ⟨a,k1,k2,k3⟩:=goes_more m l hS.go ho
   refine Wp.bE ((ordIn_P hm hB hl okl len c2 hp2 (rowv:=τ 6) (outv:=τ 7) (row:=row) l.length 0 _ G1 (by omega) ⟨a,Nat.zero_le _,k1,k2,k3⟩ (by simp [clip_t,t1]) (by simp [clip_t,t2]) (by simp [clip_t]) (by simp [clip_t]) (by simp [clip_t,t8]) (by simp [clip_t]) (by simp [clip_t]) (by simp [clip_t]) (hS.ext x1)).mono ?_)
   rintro ⟨ee,τ',G'⟩ ⟨q1,a',q2,q3,q4,q5⟩
   simp only at q1 q2 q3 q4 q5
   subst q1
   simp [-Int.natCast_add]
   have hgt:dn row 0<dn (row++[a']) 0:=by
    obtain ⟨r,s2,d2,hw,_⟩:=q5.go
    obtain ⟨s1,d1,w1,w2⟩:=way_app.1 hw
    obtain ⟨s3,d3,w3,w4⟩:=way_app.1 w1
    have e3:=way_dn w3
    have e1:=way_dn w1
    have:=way_lenP w4
    simp at this
    omega
   refine ih (row++[a']) _ G' (by omega) (by simp [clip_t,q2]) (by simp [clip_t,q3]) (by simp [clip_t,q4]) ?_
   have t67:∀ x y:Value,x=τ' 6→y=τ' 7→OrSP m l A G' x y (row++[a']):=fun x y hx hy=>by rw [hx,hy]; exact q5
   exact t67 _ _ (by simp [clip_t]) (by simp [clip_t])
theorem order_P (hm:MacC orc e m inv tx B fv nv uv tv) (hB:Ext B G) (hl:SlR rSp G lV l) (okl:∀ c∈l,okOp c.op) (len:l.length≤11) :
  Wp ((E orc).cl 44 [.agg ⟨[fv,nv,uv,tv]⟩,lV] G) fun r=>Ext G r.2∧(r.1= .tuple #[.slice none 0 0,.bool false]∧¬ Goes m l [] m.first 0∨∃ outv row s2,r.1= .tuple #[outv,.bool true]∧Way m l m.first 0 row s2 (dn row 0)∧ovrP l (dn row 0)∧OwR (rowsI .i64) G.nx r.2 outv (row.map fun a=>(sp l a).id)):=by
 refine Wp.ref (f44 (exL_ok Q orc) _ _ G) ?_
 have xA:Ext G (G.push ⟨[fv,nv,uv,tv],1,false,1⟩):=(Ext.refl G).push _
 have cA:(G.push ⟨[fv,nv,uv,tv],1,false,1⟩).obj G.nx=some ⟨[fv,nv,uv,tv],1,false,1⟩:=by simp
 have nA:G.nx<(G.push ⟨[fv,nv,uv,tv],1,false,1⟩).nx:=by simp
 obtain ⟨A,hA⟩:∃ A,A=G.push ⟨[fv,nv,uv,tv],1,false,1⟩:=⟨_,rfl⟩
 rw [← hA] at xA cA nA
 obtain ⟨⟨r,G4⟩,eb,x4,hr⟩:=begins_P (orc:=orc) (b:=[]) hm (hB.trans xA) (hl.ext xA) (bV:=.slice none 0 0) SlR.nil okl len (by simp)
 simp only at x4 hr
 rcases hr with ⟨rfl,hg⟩ | ⟨rfl,hg⟩
 ·simp [-Int.natCast_add,s44,mBox,Value.cells,← hA,cA,loadO_whole,eb]
  refine Wp.bE ((ordOut_P hm (hB.trans xA) (hl.ext xA) okl len cA nA (2 ^ l.length) [] _ G4 (by simp [dn]) (by simp) (by simp) (by simp [dn]) ?_).mono ?_)
  ·exact ⟨x4,OwR.nil _ _,OwR.nil _ _,fun g h=>by simp [InB] at h,hg⟩
  ·rintro ⟨ee,τ',G'⟩ ⟨q1,rowv,row,q2,q3⟩
   simp only at q1 q2 q3
   subst q1
   simp
   obtain ⟨r,s2,d2,hw,_⟩:=q2.go
   obtain ⟨s1,d1,w1,w2⟩:=way_app.1 hw
   have e1:=way_dn w1
   rw [e1] at w1
   exact ⟨xA.trans q2.hA,row,⟨s1,w1⟩,q3,q2.w2.mono (by omega)⟩
 ·simp [-Int.natCast_add,s44,mBox,Value.cells,← hA,cA,loadO_whole,eb]
  exact ⟨xA.trans x4,hg⟩
end
end Go.Proofs.YtlaojmcekeohnaaGreatDoor.Lift
