import Derived.Test.YtlaojmcekeohnaaGreatDoorZD
import Derived.Test.YtlaojmcekeohnaaGreatDoorZA
import Derived.Test.YtlaojmcekeohnaaGreatDoorZC
import Derived.Test.YtlaojmcekeohnaaGreatDoorZB
import Derived.Test.YtlaojmcekeohnaaGreatDoorZL
set_option linter.unusedVariables false
set_option linter.unusedSimpArgs false
set_option linter.unnecessarySimpa false
set_option maxRecDepth 20000
namespace Go.Proofs.YtlaojmcekeohnaaGreatDoor.Lift
open Go Go.Proofs.YtlaojmcekeohnaaGreatDoor.Gh Go.Proofs
theorem dgZ_ne (x:Int) {s:UInt8} (hs:s.toNat<48) (h5:s≠45):∀ c∈dgI x,c≠s:=by
 cases x with
 | ofNat n=>exact dgI_ne (x:=(n:Int)) (by omega) hs
 | negSucc n =>
  intro c hc e
  rcases List.mem_cons.1 hc with h | h
  ·exact h5 (by rw [← e,h])
  ·have:=dgs_ge 20 _ c h
   rw [e] at this
   omega
theorem dgZ_inj {x y:Int} (hx:-18446744073709551616<x∧x<18446744073709551616) (hy:-18446744073709551616<y∧y<18446744073709551616) (h:dgI x=dgI y):x=y:=by
 have no:∀ (n k:Nat),dgs 20 n≠45::dgs 20 k:=fun n k e=>by
  have:=dgs_ge 20 n 45 (by rw [e]; exact List.mem_cons_self ..)
  exact absurd this (by decide)
 cases x with
 | ofNat n =>
  cases y with
  | ofNat k=>exact dgI_inj (x:=(n:Int)) (y:=(k:Int)) ⟨by omega,hx.2⟩ ⟨by omega,hy.2⟩ h
  | negSucc k=>exact absurd h (no _ _)
 | negSucc n =>
  cases y with
  | ofNat k=>exact absurd h.symm (no _ _)
  | negSucc k =>
   have h:(45:UInt8)::dgs 20 (n+1)=45::dgs 20 (k+1):=h
   simp only [List.cons.injEq,true_and] at h
   have h1:=val_dgs 19 (n+1) (by omega)
   have h2:=val_dgs 19 (k+1) (by omega)
   rw [h,h2] at h1
   omega
def okIt (x:It):Prop:=(0≤x.1∧x.1<18446744073709551616)∧ -9223372036854775808≤x.2∧x.2<9223372036854775808
theorem txZ_inj:∀ {l l':List It},(∀ x∈l,okIt x)→(∀ x∈l',okIt x)→txI l=txI l' →l=l'
 | [],[],_,_,_=>rfl
 | [],y::l',_,_,h=>by simp [txI] at h
 | x::l,[],_,_,h=>by simp [txI] at h
 | x::l,y::l',h1,h2,h=>by
  have e:dgI x.1++32::(dgI x.2++44::txI l)=dgI y.1++32::(dgI y.2++44::txI l'):=by simpa [txI] using h
  have hx:=h1 x (List.mem_cons_self ..)
  have hy:=h2 y (List.mem_cons_self ..)
  obtain ⟨k1,k2⟩:=split_at (dgZ_ne _ (by decide) (by decide)) (dgZ_ne _ (by decide) (by decide)) e
  obtain ⟨k3,k4⟩:=split_at (dgZ_ne _ (by decide) (by decide)) (dgZ_ne _ (by decide) (by decide)) k2
  have:x=y:=Prod.ext (dgI_inj hx.1 hy.1 k1) (dgZ_inj (by have:=hx.2; omega) (by have:=hy.2; omega) k3)
  rw [this,txZ_inj (fun z hz=>h1 z (List.mem_cons_of_mem _ hz)) (fun z hz=>h2 z (List.mem_cons_of_mem _ hz)) k4]
noncomputable def hNx (s:List It) (o:Op4) (an:An3):Option (List It):=if hOk s o.1 o.2.2.2 an.1 an.2.1 an.2.2=true then some (hNext s o.1 o.2.1 o.2.2.2 an.1 an.2.1 an.2.2) else none
def hFine (s:List It) (o:Op4):List An3:=if o.1=5∨o.1=6 then (match s with | []=>[] | x::_=>[(0,x.2,x.1)]) else [(0,0,0)]
noncomputable def hMac:Mac It:=⟨[],hNx,hFine⟩
def hInv (L:List It):Prop:=L.length≤1024∧∀ x∈L,okIt x
theorem hInv_next {L L':List It} {o:Op4} {an:An3} (h:hInv L) (ho:okOp o) (hn:hNx L o an=some L'):hInv L':=by
 unfold hNx at hn
 split at hn
 ·rename_i hk
  cases hn
  unfold hNext
  rw [if_pos hk]
  split
  ·exact h
  ·rename_i hr
   split
   ·exact h
   ·rename_i h0
    split
    ·exact ⟨by simp; have:=h.1; omega,fun x hx=>h.2 x (List.mem_of_mem_drop hx)⟩
    ·rename_i h5
     have hk':=hk
     unfold hOk at hk'
     simp only [Bool.and_eq_true,decide_eq_true_eq,Bool.or_eq_true] at hk'
     obtain ⟨hz,hr' | ha⟩:=hk'
     ·exact absurd hr' hr
     ·unfold hAcc hIs at ha
      simp only [Bool.and_eq_true,decide_eq_true_eq] at ha
      obtain ⟨⟨_,ha1⟩,ha2,_⟩:=ha
      have h4:o.1=4:=by
       by_cases h4:o.1=4
       ·exact h4
       ·rw [if_neg h4] at ha1
        simp only [decide_eq_true_eq] at ha1
        omega
      have hc:an.1=0:=by omega
      rw [if_pos h4] at ha1
      have hlt:L.length<1024:=by
       simp only [Bool.or_eq_true,decide_eq_true_eq] at ha1
       rcases ha1 with q | q
       ·unfold hCode at ha2
        rw [if_pos hz,if_pos h4,if_pos q] at ha2
        omega
       ·exact q
      refine ⟨by simp; omega,fun x hx=>?_⟩
      simp only [List.mem_append,List.mem_singleton] at hx
      rcases hx with (hx | hx) | hx
      ·exact h.2 x (List.mem_of_mem_take hx)
      ·rw [hx]; exact ⟨ho.1,ho.2⟩
      ·exact h.2 x (List.mem_of_mem_drop hx)
 ·cases hn
theorem txz_flat:∀ {L:List It},(∀ x∈L,okIt x)→txtL (rIt.flat L) (.u64,32) (.i64,44)=some (txI L)
 | [],_=>rfl
 | x::L,h=>by
  have hx:=h x (List.mem_cons_self ..)
  have ih:=txz_flat (L:=L) fun y hy=>h y (List.mem_cons_of_mem _ hy)
  rw [RowE.flat_cons,rIt_row,List.cons_append,List.singleton_append,txtL_cons,txtL_cons,ih]
  have h1:txt1 (.u64,32) (.int .u64 x.1)=some (dgI x.1++[32]):=by simp [txt1,inR,hx.1.1,hx.1.2]
  have h2:txt1 (.i64,44) (.int .i64 x.2)=some (dgI x.2++[44]):=by simp [txt1,inR,hx.2.1,hx.2.2]
  rw [h1,h2]
  simp [txI]
section
variable {B G:GS} {sv:Value} {s L:List It}
theorem tabs_extH {B G:GS} (h:Ext B G) (ht:tabs B=true) (hn:2≤B.nx):tabs G=true:=by
 unfold tabs at ht ⊢
 rw [h.obj 0 (by omega),h.obj 1 (by omega)]
 exact ht
theorem htext (orc:FuncId→Bool) (ht:tabs G=true) (hs:SlR rIt G sv L) (hi:hInv L):Wp ((E orc).cl 109 [sv] G) fun r=>r.1= .string ⟨(txI L).toArray⟩∧r.2=G:=by
 refine Wp.ref (Ref.txB (P:=Q) (by kernel_rfl) (by kernel_rfl) (by kernel_rfl) (by kernel_rfl) [sv] G) ?_
 obtain ⟨a,c,e0⟩:=hs.len
 have hel:=elems_of hs.is
 rw [rIt_sz] at hel
 cases L with
 | nil =>
  subst e0
  simp [txt,txI]
 | cons x L =>
  have htx:=txz_flat hi.2
  have hle:=hi.1
  rcases hs.is.2 with ⟨h1,h2⟩ | ⟨b,o,c',ob,h1,_⟩
  ·simp at h2
  ·subst h1
   have hr:rdN G b o ((L.length+1)*2)=some (rIt.flat (x::L)):=hel
   have hb:Nat.ble L.length 1000000=true:=Nat.ble_eq_true_of_le (by simp at hle; omega)
   simp only [List.length_cons,txt,kB,ht,hb,Bool.and_self,if_true,hr,htx]
   exact ⟨_,rfl,rfl,rfl⟩
theorem macH (orc:FuncId→Bool) (hk:orc 127=false) (ht:tabs B=true) (h2:2≤B.nx) :
  MacC orc rIt hMac hInv (fun L=>⟨(txI L).toArray⟩) B (.slice none 0 0) (.func (.func 54) ⟨[]⟩ ⟨[]⟩) (.func (.func 108) ⟨[]⟩ ⟨[]⟩) (.func (.func 109) ⟨[]⟩ ⟨[]⟩) where
 first:=SlR.nil
 inv0:=⟨Nat.zero_le _,fun _ h=>(by cases h)⟩
 next G sv s op an hB hs hi ho:=by
  rw [cValue_func]
  obtain ⟨⟨r,G'⟩,e,x,v,hr,w⟩:=hnext_ok orc hk (by have:=hi.1; omega) op.1 op.2.1 op.2.2.1 op.2.2.2 an.1 an.2.1 an.2.2 hs
  simp only at x hr w
  refine ⟨(r,G'),e,x,v,?_⟩
  by_cases hn:hOk s op.1 op.2.2.2 an.1 an.2.1 an.2.2=true
  ·have hp:hNx s op an=some (hNext s op.1 op.2.1 op.2.2.2 an.1 an.2.1 an.2.2):=by unfold hNx; rw [if_pos hn]
   exact .inl ⟨by rw [hr,hn],_,hp,hInv_next hi ho hp,w⟩
  ·exact .inr ⟨by rw [hr,show hOk s op.1 op.2.2.2 an.1 an.2.1 an.2.2=false by simpa using hn],by show hNx s op an=none; unfold hNx; rw [if_neg hn]⟩
 fine G sv s op hB hs hi ho:=by
  rw [cValue_func]
  refine Wp.ref (f108 (exL_ok Q orc) _ _ G) ?_
  obtain ⟨a,c,e0⟩:=hs.len
  have x1:Ext G (G.push ⟨rowOp op,1,false,1⟩):=(Ext.refl G).push _
  show Wp _ fun (r:Value×GS)=>Ext G r.2∧SlR eAn r.2 r.1 (hFine s op)∧(hFine s op).length≤2000
  have lc:∀ t,ln Q true t sv=some (.int .i64 s.length):=fun t=>by rw [e0]; simp
  have hz:z27=[.int .i64 0,.int .i64 0,.int .u64 0]:=rfl
  unfold hFine
  by_cases h5:op.1=5∨op.1=6
  ·rw [if_pos h5]
   have hr:∀ X:GS→Prop,True:=fun _=>trivial
   have hneq:(decide (¬ op.1=5)&&decide (¬ op.1=6))=false:=by
    rcases h5 with q | q<;>simp [q]
   cases s with
   | nil =>
    rcases h5 with q | q
    ·simp [s108,mBox,Value.cells,rowOp,q,lc]
     exact ⟨(Ext.refl G).push _,SlR.nil⟩
    ·simp [s108,mBox,Value.cells,rowOp,q,lc]
     exact ⟨(Ext.refl G).push _,SlR.nil⟩
   | cons x s =>
    obtain ⟨b,o,c',e1,hb,q,_⟩:=hs.at (i:=0) (by simp)
    have q0:=q 0 (by decide)
    have q1:=q 1 (by decide)
    simp at q0 q1
    have nb:¬ b=G.nx:=by omega
    have hl:¬ ((s.length:Int)+1=0):=by omega
    rw [e1] at lc
    subst e1
    obtain ⟨R,hR⟩:∃ R,R=(G.push ⟨rowOp op,1,false,1⟩).room 11:=⟨_,rfl⟩
    have xR:Ext G R:=by rw [hR]; exact ((Ext.refl G).push _).room 11
    have nR:R.nx=G.nx+12:=by rw [hR]; rfl
    have sl:SlR eAn (((R.at' (G.nx+10)).push ⟨eAn.row (0,x.2,x.1),3,false,1⟩).back R) (.slice (some ⟨G.nx+10,0,none⟩) 1 1) [(0,x.2,x.1)]:=SlR.oneD eAn R _ (by omega)
    have xd:Ext G (((R.at' (G.nx+10)).push ⟨eAn.row (0,x.2,x.1),3,false,1⟩).back R):=xR.drawn (by omega) _
    simp only [rowOp] at hR
    simp only [eAn_row] at sl xd
    rcases h5 with q | q
    ·rw [q] at hR
     simp [-eAn_row,s108,mBox,Value.cells,rowOp,q,nb,q0,q1,hl,hz,← hR]
     exact ⟨xd,sl⟩
    ·rw [q] at hR
     simp [-eAn_row,s108,mBox,Value.cells,rowOp,q,nb,q0,q1,hl,hz,← hR]
     exact ⟨xd,sl⟩
  ·rw [if_neg h5]
   have n5:¬ op.1=5:=fun e=>h5 (.inl e)
   have n6:¬ op.1=6:=fun e=>h5 (.inr e)
   simp [s108,mBox,Value.cells,rowOp,n5,n6,hz]
   exact ⟨((Ext.refl G).push _).push _,SlR.one eAn _ (0,0,0)⟩
 text G sv s hB hs hi:=by
  rw [cValue_func]
  exact htext orc (tabs_extH hB ht h2) hs hi
 inj s s' h1 h2 h:=txZ_inj h1.2 h2.2 (by simpa using h)
 sm:=by simp [same,sameD,sameD.listD]
end
def rowH:List Value:=[.slice none 0 0,.func (.func 54) ⟨[]⟩ ⟨[]⟩,.func (.func 108) ⟨[]⟩ ⟨[]⟩,.func (.func 109) ⟨[]⟩ ⟨[]⟩]
theorem sets_ok (orc:FuncId→Bool) (ho:orc 43=false) (G:GS):Wp ((E orc).cl 43 [] G) fun r=>r.1= .agg ⟨rowH⟩∧Ext G r.2:=by
 refine Wp.ref (f43 (exL_ok Q orc) ho G) ?_
 have hz:z112=[.slice none 0 0,.nilFunc,.nilFunc,.nilFunc]:=rfl
 simp [s43,hz,rowH]
 exact ((Ext.refl G).push _).put (Nat.le_refl _) _
theorem orderH (orc:FuncId→Bool) (hk:orc 127=false) (ho:orc 43=false) {G:GS} {lV:Value} {l:List Sp} (ht:tabs G=true) (h2:2≤G.nx) (hl:SlR rSp G lV l) (okl:∀ c∈l,okOp c.op) (room:Int) (hm:MayOk 2 room l) :
  Wp ((E orc).cl 14 [.int .i64 2,.int .i64 room,lV] G) fun r=>Ext G r.2∧(r.1= .tuple #[.slice none 0 0,.bool false,.int .i64 0]∧¬ Goes hMac l [] [] 0∨∃ outv row s2,r.1= .tuple #[outv,.bool true,.int .i64 0]∧Way hMac l [] 0 row s2 (dn row 0)∧ovrP l (dn row 0)∧OwR (rowsI .i64) G.nx r.2 outv (row.map fun a=>(sp l a).id)):=by
 refine Wp.ref (f14 (exL_ok Q orc) _ _ _ G) ?_
 obtain ⟨⟨r1,G1⟩,e1,x1,x,rfl,hx⟩:=may_ok orc hl 2 room
 have hx0:=hx.2 hm
 subst hx0
 simp only at x1
 obtain ⟨⟨r2,G2⟩,e2,rfl,x2⟩:=sets_ok orc ho G1
 simp only at x2
 have xx:=x1.trans x2
 obtain ⟨⟨r3,G3⟩,e3,x3,h3⟩:=order_H (orc:=orc) (macH orc hk (tabs_extH xx ht h2) (by have:=xx.nx; omega)) (Ext.refl G2) (hl.ext xx) okl (by have:=hm.2.2.1; omega)
 simp only at x3 h3
 have e3:(E orc).cl 42 [.agg ⟨rowH⟩,lV] G2=some (r3,G3):=e3
 have x13:=xx.trans x3
 rcases h3 with ⟨rfl,hg⟩ | ⟨outv,row,s2,rfl,hw,ho,hv⟩
 ·simp [-eAn_row,jb14_0,j14_0,sb14,s14,e1,e2,e3,pExtract,getN_zero,getN_succ,clip_t]
  exact ⟨x13,hg⟩
 ·simp [-eAn_row,jb14_0,j14_0,sb14,s14,e1,e2,e3,pExtract,getN_zero,getN_succ,clip_t]
  exact ⟨x13,row,⟨s2,hw⟩,ho,hv.mono xx.nx⟩
def pNext (s:List Int) (o:Op4) (an:An3):Option (List Int):=if (nextA s o an).2=true then some (nextA s o an).1 else none
def pFine (s:List Int) (o:Op4):List An3:=if o.1=7 then s.map (fun i=>(0,i,0)) else [(0,0,0)]
def pFirst (room:Int):List Int:=(restN [] room).map fun n:Nat=>(n:Int)
def pMac (room:Int):Mac Int:=⟨pFirst room,pNext,pFine⟩
def pInv (L:List Int):Prop:=L.length≤1024∧∀ x∈L,0≤x∧x<1024
theorem restN_le (l:List Int) (n:Int):(restN l n).length≤1024:=by
 unfold restN
 refine Nat.le_trans (List.length_filter_le _ _) ?_
 rw [List.length_range]; exact lowN_le n
theorem pInv_first (room:Int):pInv (pFirst room):=by
 refine ⟨by unfold pFirst; rw [List.length_map]; exact restN_le _ _,fun x hx=>?_⟩
 obtain ⟨n,hn,rfl⟩:=List.mem_map.1 hx
 unfold restN at hn
 have:=List.mem_range.1 (List.mem_filter.1 hn).1
 have:=lowN_le room
 omega
theorem pInv_next {L L':List Int} {o:Op4} {an:An3} (h:pInv L) (hn:pNext L o an=some L'):pInv L':=by
 unfold pNext nextA at hn
 by_cases ha:an∈allA L o
 ·rw [if_pos ha] at hn
  simp only [if_true] at hn
  cases hn
  unfold behA
  split
  ·refine ⟨behN_len _ _ _ _,fun x hx=>?_⟩
   unfold behN at hx
   obtain ⟨n,hn,rfl⟩:=List.mem_map.1 hx
   have:=List.mem_range.1 (List.mem_filter.1 hn).1
   omega
  ·exact h
 ·rw [if_neg ha] at hn
  simp at hn
theorem txp_flat:∀ {L:List Int},(∀ x∈L,0≤x∧x<1024)→txtL ((rowsI .i64).flat L) (.i64,44) (.i64,44)=some (txN L)
 | [],_=>rfl
 | x::L,h=>by
  have hx:=h x (List.mem_cons_self ..)
  have ih:=txp_flat (L:=L) fun y hy=>h y (List.mem_cons_of_mem _ hy)
  rw [RowE.flat_cons,rowsI_row,List.singleton_append,txtL_cons,ih]
  have h1:(-9223372036854775808:Int)≤x:=by omega
  have h2:x<9223372036854775808:=by omega
  have:txt1 (.i64,44) (.int .i64 x)=some (dgI x++[44]):=by simp [txt1,inR,h1,h2]
  rw [this]
  simp [txN]
section
variable {B G:GS} {sv:Value} {s L:List Int}
theorem tab_of (h:Ext B G) (ht:tabs B=true) (hn:2≤B.nx):Tab G:=Tab.ext ⟨ht,hn⟩ h
theorem ptext (orc:FuncId→Bool) (ht:tabs G=true) (hs:SlR (rowsI .i64) G sv L) (hi:pInv L):Wp ((E orc).cl 115 [sv] G) fun r=>r.1= .string ⟨(txN L).toArray⟩∧r.2=G:=by
 refine Wp.ref (Ref.txC (P:=Q) (by kernel_rfl) (by kernel_rfl) (by kernel_rfl) (by kernel_rfl) (by kernel_rfl) [sv] G) ?_
 obtain ⟨a,c,e0⟩:=hs.len
 have hel:=elems_of hs.is
 rw [rowsI_sz] at hel
 cases L with
 | nil =>
  subst e0
  simp [txt,txN]
 | cons x L =>
  have htx:=txp_flat hi.2
  have hle:=hi.1
  rcases hs.is.2 with ⟨h1,h2⟩ | ⟨b,o,c',ob,h1,_⟩
  ·simp at h2
  ·subst h1
   have hr:rdN G b o ((L.length+1)*1)=some ((rowsI .i64).flat (x::L)):=hel
   have hb:Nat.ble L.length 1000000=true:=Nat.ble_eq_true_of_le (by simp at hle; omega)
   simp only [List.length_cons,txt,kC,ht,hb,Bool.and_self,if_true,hr,htx]
   exact ⟨_,rfl,rfl,rfl⟩
theorem pfine_lp (orc:FuncId→Bool) {A:GS} (hs:SlR (rowsI .i64) A sv s) (hl:s.length≤1024):∀ (k i:Nat) (τ:Env) (G:GS),i+k=s.length→τ 13=sv→τ 14= .int .i64 s.length→τ 15= .int .i64 (i:Int)→Ext A G→OwR eAn A.nx G (τ 5) ((s.take i).map fun x=>(0,x,0)) →
  Wp ((exL Q orc).lpx 114 0 τ G) fun q=>q.1= .exit 0∧Ext A q.2.2∧OwR eAn A.nx q.2.2 (q.2.1 5) (s.map fun x=>(0,x,0)):=by
 intro k
 induction k with
 | zero =>
  intro i τ G hi t13 t14 t15 hx ho
  obtain rfl:i=s.length:=by omega
  refine Wp.lp (l114_0 (exL_ok Q orc)) ?_
  simp [b114_0,clip_t,t13,t14,t15]
  rw [List.take_length] at ho
  exact ⟨hx,ho⟩
 | succ k ih =>
  intro i τ G hi t13 t14 t15 hx ho
  have hlt:i<s.length:=by omega
  have hlt':(i:Int)<s.length:=by omega
  have h0:(0:Int)≤i:=by omega
  have hw:IntKind.wrap .i64 ((i:Int)+1)=((i+1:Nat):Int):=wrap64 (by omega) (by omega)
  obtain ⟨b,o,c',e1,hb,q,_⟩:=(hs.ext hx).at (i:=i) hlt
  have q0:=q 0 (by decide)
  simp at q0
  obtain ⟨x,hxi⟩:∃ x,x=s[i]:=⟨_,rfl⟩
  rw [← hxi] at q0
  have hz:z27=[.int .i64 0,.int .i64 0,.int .u64 0]:=rfl
  obtain ⟨G1,hG1⟩:∃ G1,G1=G.push ⟨eAn.row (0,x,0),3,false,1⟩:=⟨_,rfl⟩
  have sl:SlR eAn G1 (.slice (some ⟨G.nx,0,none⟩) 1 1) [(0,x,0)]:=by rw [hG1]; exact SlR.one eAn G _
  have x1:Ext G G1:=by rw [hG1]; exact (Ext.refl G).push _
  have hll:((s.take i).map fun x=>((0,x,0):An3)).length=i:=by simp; omega
  obtain ⟨v',G2,e2,x2,w2⟩:=(ho.ext x1).app (ib:=24) (by decide) (hx.trans x1) sl (by rw [hll]; simp; omega)
  have htk:((s.take i).map fun x=>((0,x,0):An3))++[(0,x,0)]=(s.take (i+1)).map fun x=>(0,x,0):=by
   rw [List.take_add_one,List.getElem?_eq_getElem hlt,hxi]
   simp only [Option.toList_some,List.map_append,List.map_cons,List.map_nil]
  rw [htk] at w2
  have hr3:rep [Value.int .i64 0,.int .i64 0,.int .u64 0] 1=[.int .i64 0,.int .i64 0,.int .u64 0]:=rfl
  rw [hG1] at e2
  simp only [eAn_row] at e2
  simp only [eAn_sz] at e2
  refine Wp.lp (l114_0 (exL_ok Q orc)) ?_
  simp [-Int.natCast_add,b114_0,clip_t,t13,t14,t15,hlt,hlt',h0,e1,q0,hz,hr3,e2,hw]
  subst e1
  refine ih (i+1) _ G2 (by omega) ?_ ?_ ?_ x2 ?_
  ·simp [clip_t]
  ·simp [clip_t]
  ·simp [clip_t]
  ·simpa [clip_t] using w2
theorem macP (orc:FuncId→Bool) {room:Int} {fv:Value} (ht:tabs B=true) (h2:2≤B.nx) (hf:SlR (rowsI .i64) B fv (pFirst room)) :
  MacC orc (rowsI .i64) (pMac room) pInv (fun L=>⟨(txN L).toArray⟩) B fv (.func (.func 113) ⟨[]⟩ ⟨[]⟩) (.func (.func 114) ⟨[]⟩ ⟨[]⟩) (.func (.func 115) ⟨[]⟩ ⟨[]⟩) where
 first:=hf
 inv0:=pInv_first room
 next G sv s op an hB hs hi ho:=by
  rw [cValue_func]
  obtain ⟨v,G',e,x,w⟩:=next_ok orc hs (by have:=hi.1; omega) op an (tab_of hB ht h2)
  refine ⟨(_,G'),e,x,v,?_⟩
  by_cases hn:(nextA s op an).2=true
  ·have hp:pNext s op an=some (nextA s op an).1:=by unfold pNext; rw [if_pos hn]
   exact .inl ⟨by rw [hn],_,hp,pInv_next hi hp,w⟩
  ·exact .inr ⟨by rw [show (nextA s op an).2=false by simpa using hn],by show pNext s op an=none; unfold pNext; rw [if_neg hn]⟩
 fine G sv s op hB hs hi ho:=by
  rw [cValue_func]
  refine Wp.ref (f114 (exL_ok Q orc) _ _ G) ?_
  obtain ⟨a,c,e0⟩:=hs.len
  show Wp _ fun (r:Value×GS)=>Ext G r.2∧SlR eAn r.2 r.1 (pFine s op)∧(pFine s op).length≤2000
  have lc:∀ t,ln Q true t sv=some (.int .i64 s.length):=fun t=>by rw [e0]; simp
  unfold pFine
  by_cases h7:op.1=7
  ·rw [if_pos h7]
   simp [s114,mBox,Value.cells,rowOp,h7,lc]
   refine Wp.bE (Wp.mono (pfine_lp orc (A:=G) hs hi.1 s.length 0 _ _ (by omega) ?_ ?_ ?_ ?_ ?_) ?_)
   ·simp
   ·simp
   ·simp
   ·exact (Ext.refl G).push _
   ·simpa using OwR.nil _ _
   rintro ⟨e,τ,G'⟩ ⟨rfl,x,w⟩
   simp only at x w
   simp
   exact ⟨x,w.is,by have:=hi.1; omega⟩
  ·rw [if_neg h7]
   have hz:z27=[.int .i64 0,.int .i64 0,.int .u64 0]:=rfl
   simp [s114,mBox,Value.cells,rowOp,h7,hz]
   exact ⟨((Ext.refl G).push _).push _,SlR.one eAn _ (0,0,0)⟩
 text G sv s hB hs hi:=by
  rw [cValue_func]
  exact ptext orc (tab_of hB ht h2).ob hs hi
 inj s s' h1 h2 h:=txN_inj (fun x hx=>by have:=h1.2 x hx; omega) (fun x hx=>by have:=h2.2 x hx; omega) (by simpa using h)
 sm:=by
  obtain ⟨a,c,e0⟩:=hf.len
  subst e0
  simp [same,sameD,sameD.listD]
end
theorem tabs_extP {B G:GS} (h:Ext B G) (ht:tabs B=true) (hn:2≤B.nx):tabs G=true:=by
 unfold tabs at ht ⊢
 rw [h.obj 0 (by omega),h.obj 1 (by omega)]
 exact ht
def rowP (fv:Value):List Value:=[fv,.func (.func 113) ⟨[]⟩ ⟨[]⟩,.func (.func 114) ⟨[]⟩ ⟨[]⟩,.func (.func 115) ⟨[]⟩ ⟨[]⟩]
theorem pools_ok (orc:FuncId→Bool) (room:Int) {G:GS} (ht:tabs G=true) (h2:2≤G.nx):Wp ((E orc).cl 45 [.int .i64 room] G) fun r=>∃ fv,r.1= .agg ⟨rowP fv⟩∧Ext G r.2∧SlR (rowsI .i64) r.2 fv (pFirst room):=by
 refine Wp.ref (f45 (exL_ok Q orc) _ G) ?_
 have hz:z119=[.slice none 0 0,.nilFunc,.nilFunc,.nilFunc]:=rfl
 obtain ⟨G1,hG1⟩:∃ G1,G1=G.push ⟨[.slice none 0 0,.nilFunc,.nilFunc,.nilFunc],1,false,1⟩:=⟨_,rfl⟩
 have x1:Ext G G1:=by rw [hG1]; exact (Ext.refl G).push _
 obtain ⟨fv,G2,e2,x2,w2⟩:=rest_ok orc (G:=G1) (A:=[]) (v0:=.slice none 0 0) SlR.nil (by simp) room (Tab.ext ⟨ht,h2⟩ x1)
 have o1:G1.obj G.nx=some ⟨[.slice none 0 0,.nilFunc,.nilFunc,.nilFunc],1,false,1⟩:=by rw [hG1]; simp
 have n1:G1.nx=G.nx+1:=by rw [hG1]; rfl
 have o2:=(x2.obj G.nx (by omega)).trans o1
 have wf:=w2.is
 have wk:∀ G3:GS,G2.nx≤G3.nx→(∀ g,G1.nx≤g→G3.obj g=G2.obj g)→SlR (rowsI .i64) G3 fv (pFirst room):=fun G3 hn hk=>wf.kept hn fun g hg=>hk g (w2.from hg)
 obtain ⟨a,c,rfl⟩:=wf.len
 simp [s45,hz,← hG1,e2,o2]
 refine ⟨.slice a (restN [] room).length c,rfl,(x1.trans x2).put (Nat.le_refl _) _,?_⟩
 have k:=wk (G2.put G.nx ⟨rowP (.slice a (restN [] room).length c),1,false,1⟩) (Nat.le_refl _) fun g hg=>by rw [obj_put,if_neg (by omega)]
 simp only [List.length_map] at k
 simpa [rowP] using k
theorem orderP (orc:FuncId→Bool) {G:GS} {lV:Value} {l:List Sp} (ht:tabs G=true) (h2:2≤G.nx) (hl:SlR rSp G lV l) (okl:∀ c∈l,okOp c.op) (room:Int) (hm:MayOk 3 room l) :
  Wp ((E orc).cl 14 [.int .i64 3,.int .i64 room,lV] G) fun r=>Ext G r.2∧(r.1= .tuple #[.slice none 0 0,.bool false,.int .i64 0]∧¬ Goes (pMac room) l [] (pFirst room) 0∨∃ outv row s2,r.1= .tuple #[outv,.bool true,.int .i64 0]∧Way (pMac room) l (pFirst room) 0 row s2 (dn row 0)∧ovrP l (dn row 0)∧OwR (rowsI .i64) G.nx r.2 outv (row.map fun a=>(sp l a).id)):=by
 refine Wp.ref (f14 (exL_ok Q orc) _ _ _ G) ?_
 obtain ⟨⟨r1,G1⟩,e1,x1,x,rfl,hx⟩:=may_ok orc hl 3 room
 have hx0:=hx.2 hm
 subst hx0
 simp only at x1
 obtain ⟨⟨r2,G2⟩,e2,fv,rfl,x2,w2⟩:=pools_ok orc room (tabs_extP x1 ht h2) (Nat.le_trans h2 x1.nx)
 simp only at x2 w2
 have xx:=x1.trans x2
 obtain ⟨⟨r3,G3⟩,e3,x3,h3⟩:=order_P (orc:=orc) (macP orc (room:=room) (tabs_extP xx ht h2) (by have:=xx.nx; omega) w2) (Ext.refl G2) (hl.ext xx) okl (by have:=hm.2.2.1; omega)
 simp only at x3 h3
 have e3:(E orc).cl 44 [.agg ⟨rowP fv⟩,lV] G2=some (r3,G3):=e3
 have x13:=xx.trans x3
 rcases h3 with ⟨rfl,hg⟩ | ⟨outv,row,s2,rfl,hw,ho,hv⟩
 ·simp [-eAn_row,jb14_0,j14_0,sb14,s14,e1,e2,e3,pExtract,getN_zero,getN_succ,clip_t]
  exact ⟨x13,hg⟩
 ·simp [-eAn_row,jb14_0,j14_0,sb14,s14,e1,e2,e3,pExtract,getN_zero,getN_succ,clip_t]
  exact ⟨x13,row,⟨s2,hw⟩,ho,hv.mono xx.nx⟩
end Go.Proofs.YtlaojmcekeohnaaGreatDoor.Lift
