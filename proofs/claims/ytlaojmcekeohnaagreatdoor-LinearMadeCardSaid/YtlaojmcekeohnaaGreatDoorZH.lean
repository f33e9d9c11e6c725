import Derived.Test.YtlaojmcekeohnaaGreatDoorZD
import Derived.Test.YtlaojmcekeohnaaGreatDoorZA
import Derived.Test.YtlaojmcekeohnaaGreatDoorZC
import Derived.Test.YtlaojmcekeohnaaGreatDoorZB
set_option linter.unusedVariables false
set_option linter.unusedSimpArgs false
set_option linter.unnecessarySimpa false
set_option maxRecDepth 20000
namespace Go.Proofs.YtlaojmcekeohnaaGreatDoor.Lift
open Go Go.Proofs.YtlaojmcekeohnaaGreatDoor.Gh Go.Proofs
theorem dgZ_ne (x:Int) {s:UInt8} (hs:s.toNat < 48) (h5:s ≠ 45):∀ c ∈ dgI x,c ≠ s:=by
 cases x with
 | ofNat n=>exact dgI_ne (x:=(n:Int)) (by omega) hs
 | negSucc n =>
  intro c hc e
  rcases List.mem_cons.1 hc with h | h
  ·exact h5 (by rw [← e,h])
  ·have:=dgs_ge 20 _ c h
   rw [e] at this
   omega
theorem dgZ_inj {x y:Int} (hx:-18446744073709551616 < x ∧ x < 18446744073709551616) (hy:-18446744073709551616 < y ∧ y < 18446744073709551616) (h:dgI x = dgI y):x = y:=by
 have no:∀ (n k:Nat),dgs 20 n ≠ 45 :: dgs 20 k:=fun n k e=>by
  have:=dgs_ge 20 n 45 (by rw [e]; exact List.mem_cons_self ..)
  exact absurd this (by decide)
 cases x with
 | ofNat n =>
  cases y with
  | ofNat k=>exact dgI_inj (x:=(n:Int)) (y:=(k:Int)) ⟨by omega,hx.2⟩ ⟨by omega,hy.2⟩ h
  | negSucc k=>exact absurd h (no _ _)
 | negSucc n =>
  cases y with
  | ofNat k=>exact absurd h.symm (no _ _)
  | negSucc k =>
   have h:(45:UInt8) :: dgs 20 (n + 1) = 45 :: dgs 20 (k + 1):=h
   simp only [List.cons.injEq,true_and] at h
   have h1:=val_dgs 19 (n + 1) (by omega)
   have h2:=val_dgs 19 (k + 1) (by omega)
   rw [h,h2] at h1
   omega
def okIt (x:It):Prop:=(0 ≤ x.1 ∧ x.1 < 18446744073709551616) ∧ -9223372036854775808 ≤ x.2 ∧ x.2 < 9223372036854775808
theorem txZ_inj:∀ {l l':List It},(∀ x ∈ l,okIt x) → (∀ x ∈ l',okIt x) → txI l = txI l' → l = l'
 | [],[],_,_,_=>rfl
 | [],y :: l',_,_,h=>by simp [txI] at h
 | x :: l,[],_,_,h=>by simp [txI] at h
 | x :: l,y :: l',h1,h2,h=>by
  have e:dgI x.1 ++ 32 :: (dgI x.2 ++ 44 :: txI l) = dgI y.1 ++ 32 :: (dgI y.2 ++ 44 :: txI l'):=by simpa [txI] using h
  have hx:=h1 x (List.mem_cons_self ..)
  have hy:=h2 y (List.mem_cons_self ..)
  obtain ⟨k1,k2⟩:=split_at (dgZ_ne _ (by decide) (by decide)) (dgZ_ne _ (by decide) (by decide)) e
  obtain ⟨k3,k4⟩:=split_at (dgZ_ne _ (by decide) (by decide)) (dgZ_ne _ (by decide) (by decide)) k2
  have:x = y:=Prod.ext (dgI_inj hx.1 hy.1 k1) (dgZ_inj (by have:=hx.2; omega) (by have:=hy.2; omega) k3)
  rw [this,txZ_inj (fun z hz=>h1 z (List.mem_cons_of_mem _ hz)) (fun z hz=>h2 z (List.mem_cons_of_mem _ hz)) k4]
noncomputable def hNx (s:List It) (o:Op4) (an:An3):Option (List It):=if hOk s o.1 o.2.2.2 an.1 an.2.1 an.2.2 = true then some (hNext s o.1 o.2.1 o.2.2.2 an.1 an.2.1 an.2.2) else none
def hFine (s:List It) (o:Op4):List An3:=if o.1 = 5 ∨ o.1 = 6 then (match s with | []=>[] | x :: _=>[(0,x.2,x.1)]) else [(0,0,0)]
noncomputable def hMac:Mac It:=⟨[],hNx,hFine⟩
def hInv (L:List It):Prop:=L.length ≤ 1024 ∧ ∀ x ∈ L,okIt x
theorem hInv_next {L L':List It} {o:Op4} {an:An3} (h:hInv L) (ho:okOp o) (hn:hNx L o an = some L'):hInv L':=by
 unfold hNx at hn
 split at hn
 ·rename_i hk
  cases hn
  unfold hNext
  rw [if_pos hk]
  split
  ·exact h
  ·rename_i hr
   split
   ·exact h
   ·rename_i h0
    split
    ·exact ⟨by simp; have:=h.1; omega,fun x hx=>h.2 x (List.mem_of_mem_drop hx)⟩
    ·rename_i h5
     have hk':=hk
     unfold hOk at hk'
     simp only [Bool.and_eq_true,decide_eq_true_eq,Bool.or_eq_true] at hk'
     obtain ⟨hz,hr' | ha⟩:=hk'
     ·exact absurd hr' hr
     ·unfold hAcc hIs at ha
      simp only [Bool.and_eq_true,decide_eq_true_eq] at ha
      obtain ⟨⟨_,ha1⟩,ha2,_⟩:=ha
      have h4:o.1 = 4:=by
       by_cases h4:o.1 = 4
       ·exact h4
       ·rw [if_neg h4] at ha1
        simp only [decide_eq_true_eq] at ha1
        omega
      have hc:an.1 = 0:=by omega
      rw [if_pos h4] at ha1
      have hlt:L.length < 1024:=by
       simp only [Bool.or_eq_true,decide_eq_true_eq] at ha1
       rcases ha1 with q | q
       ·unfold hCode at ha2
        rw [if_pos hz,if_pos h4,if_pos q] at ha2
        omega
       ·exact q
      refine ⟨by simp; omega,fun x hx=>?_⟩
      simp only [List.mem_append,List.mem_singleton] at hx
      rcases hx with (hx | hx) | hx
      ·exact h.2 x (List.mem_of_mem_take hx)
      ·rw [hx]; exact ⟨ho.1,ho.2⟩
      ·exact h.2 x (List.mem_of_mem_drop hx)
 ·cases hn
theorem txz_flat:∀ {L:List It},(∀ x ∈ L,okIt x) → txtL (rIt.flat L) (.u64,32) (.i64,44) = some (txI L)
 | [],_=>rfl
 | x :: L,h=>by
  have hx:=h x (List.mem_cons_self ..)
  have ih:=txz_flat (L:=L) fun y hy=>h y (List.mem_cons_of_mem _ hy)
  rw [RowE.flat_cons,rIt_row,List.cons_append,List.singleton_append,txtL_cons,txtL_cons,ih]
  have h1:txt1 (.u64,32) (.int .u64 x.1) = some (dgI x.1 ++ [32]):=by simp [txt1,inR,hx.1.1,hx.1.2]
  have h2:txt1 (.i64,44) (.int .i64 x.2) = some (dgI x.2 ++ [44]):=by simp [txt1,inR,hx.2.1,hx.2.2]
  rw [h1,h2]
  simp [txI]
section
variable {B G:GS} {sv:Value} {s L:List It}
theorem tabs_extH {B G:GS} (h:Ext B G) (ht:tabs B = true) (hn:2 ≤ B.nx):tabs G = true:=by
 unfold tabs at ht ⊢
 rw [h.obj 0 (by omega),h.obj 1 (by omega)]
 exact ht
theorem htext (orc:FuncId → Bool) (ht:tabs G = true) (hs:SlR rIt G sv L) (hi:hInv L):Wp ((E orc).cl 109 [sv] G) fun r=>r.1 = .string ⟨(txI L).toArray⟩ ∧ r.2 = G:=by
 refine Wp.ref (Ref.txB (P:=Q) (by kernel_rfl) (by kernel_rfl) (by kernel_rfl) (by kernel_rfl) [sv] G) ?_
 obtain ⟨a,c,e0⟩:=hs.len
 have hel:=elems_of hs.is
 rw [rIt_sz] at hel
 cases L with
 | nil =>
  subst e0
  simp [txt,txI]
 | cons x L =>
  have htx:=txz_flat hi.2
  have hle:=hi.1
  rcases hs.is.2 with ⟨h1,h2⟩ | ⟨b,o,c',ob,h1,_⟩
  ·simp at h2
  ·subst h1
   have hr:rdN G b o ((L.length + 1) * 2) = some (rIt.flat (x :: L)):=hel
   have hb:Nat.ble L.length 1000000 = true:=Nat.ble_eq_true_of_le (by simp at hle; omega)
   simp only [List.length_cons,txt,kB,ht,hb,Bool.and_self,if_true,hr,htx]
   exact ⟨_,rfl,rfl,rfl⟩
theorem macH (orc:FuncId → Bool) (hk:orc 127 = false) (ht:tabs B = true) (h2:2 ≤ B.nx) :
  MacC orc rIt hMac hInv (fun L=>⟨(txI L).toArray⟩) B (.slice none 0 0) (.func (.func 54) ⟨[]⟩ ⟨[]⟩) (.func (.func 108) ⟨[]⟩ ⟨[]⟩) (.func (.func 109) ⟨[]⟩ ⟨[]⟩) where
 first:=SlR.nil
 inv0:=⟨Nat.zero_le _,fun _ h=>(by cases h)⟩
 next G sv s op an hB hs hi ho:=by
  rw [cValue_func]
  obtain ⟨⟨r,G'⟩,e,x,v,hr,w⟩:=next_ok orc hk (by have:=hi.1; omega) op.1 op.2.1 op.2.2.1 op.2.2.2 an.1 an.2.1 an.2.2 hs
  simp only at x hr w
  refine ⟨(r,G'),e,x,v,?_⟩
  by_cases hn:hOk s op.1 op.2.2.2 an.1 an.2.1 an.2.2 = true
  ·have hp:hNx s op an = some (hNext s op.1 op.2.1 op.2.2.2 an.1 an.2.1 an.2.2):=by unfold hNx; rw [if_pos hn]
   exact .inl ⟨by rw [hr,hn],_,hp,hInv_next hi ho hp,w⟩
  ·exact .inr ⟨by rw [hr,show hOk s op.1 op.2.2.2 an.1 an.2.1 an.2.2 = false by simpa using hn],by show hNx s op an = none; unfold hNx; rw [if_neg hn]⟩
 fine G sv s op hB hs hi ho:=by
  rw [cValue_func]
  refine Wp.ref (f108 (exL_ok Q orc) _ _ G) ?_
  obtain ⟨a,c,e0⟩:=hs.len
  have x1:Ext G (G.push ⟨rowOp op,1,false,1⟩):=(Ext.refl G).push _
  show Wp _ fun (r:Value × GS)=>Ext G r.2 ∧ SlR eAn r.2 r.1 (hFine s op) ∧ (hFine s op).length ≤ 2000
  have lc:∀ t,ln Q true t sv = some (.int .i64 s.length):=fun t=>by rw [e0]; simp
  have hz:z27 = [.int .i64 0,.int .i64 0,.int .u64 0]:=rfl
  unfold hFine
  by_cases h5:op.1 = 5 ∨ op.1 = 6
  ·rw [if_pos h5]
   have hr:∀ X:GS → Prop,True:=fun _=>trivial
   have hneq:(decide (¬ op.1 = 5) && decide (¬ op.1 = 6)) = false:=by
    rcases h5 with q | q <;> simp [q]
   cases s with
   | nil =>
    rcases h5 with q | q
    ·simp [s108,mBox,Value.cells,rowOp,q,lc]
     exact ⟨(Ext.refl G).push _,SlR.nil⟩
    ·simp [s108,mBox,Value.cells,rowOp,q,lc]
     exact ⟨(Ext.refl G).push _,SlR.nil⟩
   | cons x s =>
    obtain ⟨b,o,c',e1,hb,q,_⟩:=hs.at (i:=0) (by simp)
    have q0:=q 0 (by decide)
    have q1:=q 1 (by decide)
    simp at q0 q1
    have nb:¬ b = G.nx:=by omega
    have hl:¬ ((s.length:Int) + 1 = 0):=by omega
    rw [e1] at lc
    subst e1
    obtain ⟨R,hR⟩:∃ R,R = (G.push ⟨rowOp op,1,false,1⟩).room 11:=⟨_,rfl⟩
    have xR:Ext G R:=by rw [hR]; exact ((Ext.refl G).push _).room 11
    have nR:R.nx = G.nx + 12:=by rw [hR]; rfl
    have sl:SlR eAn (((R.at' (G.nx + 10)).push ⟨eAn.row (0,x.2,x.1),3,false,1⟩).back R) (.slice (some ⟨G.nx + 10,0,none⟩) 1 1) [(0,x.2,x.1)]:=SlR.oneD eAn R _ (by omega)
    have xd:Ext G (((R.at' (G.nx + 10)).push ⟨eAn.row (0,x.2,x.1),3,false,1⟩).back R):=xR.drawn (by omega) _
    simp only [rowOp] at hR
    simp only [eAn_row] at sl xd
    rcases h5 with q | q
    ·rw [q] at hR
     simp [-eAn_row,s108,mBox,Value.cells,rowOp,q,nb,q0,q1,hl,hz,← hR]
     exact ⟨xd,sl⟩
    ·rw [q] at hR
     simp [-eAn_row,s108,mBox,Value.cells,rowOp,q,nb,q0,q1,hl,hz,← hR]
     exact ⟨xd,sl⟩
  ·rw [if_neg h5]
   have n5:¬ op.1 = 5:=fun e=>h5 (.inl e)
   have n6:¬ op.1 = 6:=fun e=>h5 (.inr e)
   simp [s108,mBox,Value.cells,rowOp,n5,n6,hz]
   exact ⟨((Ext.refl G).push _).push _,SlR.one eAn _ (0,0,0)⟩
 text G sv s hB hs hi:=by
  rw [cValue_func]
  exact htext orc (tabs_extH hB ht h2) hs hi
 inj s s' h1 h2 h:=txZ_inj h1.2 h2.2 (by simpa using h)
 sm:=by simp [same,sameD,sameD.listD]
end
end Go.Proofs.YtlaojmcekeohnaaGreatDoor.Lift
set_option linter.unusedVariables false
set_option linter.unusedSimpArgs false
set_option linter.unnecessarySimpa false
set_option maxRecDepth 20000
namespace Go.Proofs.YtlaojmcekeohnaaGreatDoor.Lift
open Go Go.Proofs.YtlaojmcekeohnaaGreatDoor.Gh Go.Proofs
def rowH:List Value:=[.slice none 0 0,.func (.func 54) ⟨[]⟩ ⟨[]⟩,.func (.func 108) ⟨[]⟩ ⟨[]⟩,.func (.func 109) ⟨[]⟩ ⟨[]⟩]
theorem sets_ok (orc:FuncId → Bool) (ho:orc 43 = false) (G:GS):Wp ((E orc).cl 43 [] G) fun r=>r.1 = .agg ⟨rowH⟩ ∧ Ext G r.2:=by
 refine Wp.ref (f43 (exL_ok Q orc) ho G) ?_
 have hz:z112 = [.slice none 0 0,.nilFunc,.nilFunc,.nilFunc]:=rfl
 simp [s43,hz,rowH]
 exact ((Ext.refl G).push _).put (Nat.le_refl _) _
theorem orderH (orc:FuncId → Bool) (hk:orc 127 = false) (ho:orc 43 = false) {G:GS} {lV:Value} {l:List Sp} (ht:tabs G = true) (h2:2 ≤ G.nx) (hl:SlR rSp G lV l) (okl:∀ c ∈ l,okOp c.op) (room:Int) (hm:MayOk 2 room l) :
  Wp ((E orc).cl 14 [.int .i64 2,.int .i64 room,lV] G) fun r=>Ext G r.2 ∧ (r.1 = .tuple #[.slice none 0 0,.bool false,.int .i64 0] ∧ ¬ Goes hMac l [] [] 0 ∨ ∃ outv row s2,r.1 = .tuple #[outv,.bool true,.int .i64 0] ∧ Way hMac l [] 0 row s2 (dn row 0) ∧ ovrP l (dn row 0) ∧ OwR (rowsI .i64) G.nx r.2 outv (row.map fun a=>(sp l a).id)):=by
 refine Wp.ref (f14 (exL_ok Q orc) _ _ _ G) ?_
 obtain ⟨⟨r1,G1⟩,e1,x1,x,rfl,hx⟩:=may_ok orc hl 2 room
 have hx0:=hx.2 hm
 subst hx0
 simp only at x1
 obtain ⟨⟨r2,G2⟩,e2,rfl,x2⟩:=sets_ok orc ho G1
 simp only at x2
 have xx:=x1.trans x2
 obtain ⟨⟨r3,G3⟩,e3,x3,h3⟩:=order_H (orc:=orc) (macH orc hk (tabs_extH xx ht h2) (by have:=xx.nx; omega)) (Ext.refl G2) (hl.ext xx) okl (by have:=hm.2.2.1; omega)
 simp only at x3 h3
 have e3:(E orc).cl 42 [.agg ⟨rowH⟩,lV] G2 = some (r3,G3):=e3
 have x13:=xx.trans x3
 rcases h3 with ⟨rfl,hg⟩ | ⟨outv,row,s2,rfl,hw,ho,hv⟩
 ·simp [-eAn_row,jb14_0,j14_0,sb14,s14,e1,e2,e3,pExtract,getN_zero,getN_succ,clip_t]
  exact ⟨x13,hg⟩
 ·simp [-eAn_row,jb14_0,j14_0,sb14,s14,e1,e2,e3,pExtract,getN_zero,getN_succ,clip_t]
  exact ⟨x13,row,⟨s2,hw⟩,ho,hv.mono xx.nx⟩
end Go.Proofs.YtlaojmcekeohnaaGreatDoor.Lift
