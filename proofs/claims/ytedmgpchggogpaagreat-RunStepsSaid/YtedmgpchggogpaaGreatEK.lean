import Derived.Test.YtedmgpchggogpaaGreatEJ
import Derived.Test.YtedmgpchggogpaaGreatRSc
import Derived.Test.YtedmgpchggogpaaGreatGhPL
set_option linter.unusedVariables false
set_option linter.unusedSimpArgs false
set_option maxRecDepth 20000
namespace Go.Proofs.YtedmgpchggogpaaGreat.Lift
open Go Go.Proofs.YtedmgpchggogpaaGreat.Gh Go.Proofs
section
variable {own own' own0:Nat → Nat} {G G' G0 B:GS} {m r cb tb xb i c:Nat} {s s':MS} {t:TW} {w:RunW} {O:List CoreB}
theorem steps_lp (orc:FuncId → Bool) (hto:orc 236 = false) (hs:t.sound) (hlo:t.lok) (h0:0 ≤ atI t 0 0) (hu:1 ≤ t.u11) (hw:w.good) (htb:tb < B.nx) (otb:B.obj tb = some ⟨t.cells,1,false,1⟩) (hxb:xb < B.nx) (oxb:B.obj xb = some ⟨w.cells,1,false,1⟩) {v4:Value} {L:List BAct} (hv:SlR rBAct B v4 L) (hL:L.length < 2 ^ 36) (hU:∀ a ∈ L,U a.w) :
  ∀ (k i:Nat) (own:Nat → Nat) (s:MS) (O:List CoreB) (τ:Env) (G:GS),i + k = L.length → Ext B G → (∀ x,x < B.nx → own x = 20) → RK (opsBa t w) 3 own G m r cb s O → τ 4 = v4 → τ 5 = P0 tb → τ 6 = P0 xb → τ 11 = P0 m → τ 12 = P0 r → τ 13 = .slice (some ⟨cb,0,none⟩) 3 3 → τ 14 = .int .i64 i →
  Wp ((exL Q orc).lpx 6 0 τ G) fun q=>q.1 = .exit 0 ∧ q.2.1 6 = P0 xb ∧ q.2.1 11 = P0 m ∧ q.2.1 12 = P0 r ∧ Ext B q.2.2 ∧ ∃ own s O,RK (opsBa t w) 3 own q.2.2 m r cb s O:=by
 intro k
 induction k with
 | zero =>
  intro i own s O τ G hi hx hB h t4 t5 t6 t11 t12 t13 t14
  have hi':i = L.length:=by omega
  subst hi'
  obtain ⟨a,c,rfl⟩:=hv.len
  refine Wp.lp (l6_0 (exL_ok Q orc)) ?_
  simp [b6_0,bb6_0,clip_t,t4,t5,t6,t11,t12,t13,t14]
  exact ⟨hx,own,s,O,h⟩
 | succ k ih =>
  intro i own s O τ G hi hx hB h t4 t5 t6 t11 t12 t13 t14
  have hlt:i < L.length:=by omega
  have hi0:(0:Int) ≤ i:=by omega
  obtain ⟨b,o,c,e0,hbl,q0,q1⟩:=(hv.ext hx).at hlt
  have c0:=q0 0 (by decide)
  have c1:=q0 1 (by decide)
  have c2:=q0 2 (by decide)
  have c3:=q0 3 (by decide)
  have c4:=q0 4 (by decide)
  simp [-cell_s] at c0 c1 c2 c3 c4
  have hp0:=Int.emod_nonneg L[i].core (show (3:Int) ≠ 0 by decide)
  have hp1:=Int.emod_lt_of_pos L[i].core (show (0:Int) < 3 by decide)
  obtain ⟨c',hc'⟩:=Int.eq_ofNat_of_zero_le hp0
  have hc4:c' < 3:=by omega
  have hc4':(c':Int) < 3:=by omega
  have e32:∀ G,(E orc).cl 16 [.int .i64 L[i].core,.int .i64 3] G = some (.int .i64 c',G):=fun G=>by rw [pick_ok orc _ 3 (by decide) (by decide),hc']
  have otb':=(hx.obj tb htb).trans otb
  have oxb':=(hx.obj xb hxb).trans oxb
  have hw0:(0:Int) ≤ c':=by omega
  have hlen:=h.len
  have hcl:c' < O.length:=by omega
  have hget:O[c']? = some O[c']:=List.getElem?_eq_getElem hcl
  have go:∀ (own:Nat → Nat) (s:MS) (G:GS) (O:List CoreB) (τ:Env),Ext B G → (∀ x,x < B.nx → own x = 20) → RK (opsBa t w) 3 own G m r cb s O → τ 4 = v4 → τ 5 = P0 tb → τ 6 = P0 xb → τ 11 = P0 m → τ 12 = P0 r → τ 13 = .slice (some ⟨cb,0,none⟩) 3 3 → τ 14 = .int .i64 i → τ 15 = .int .i64 c' →
    Wp (jl6_0_0 true (exL Q orc) ((exL Q orc).lpx 6 0) τ G) fun q=>q.1 = .exit 0 ∧ q.2.1 6 = P0 xb ∧ q.2.1 11 = P0 m ∧ q.2.1 12 = P0 r ∧ Ext B q.2.2 ∧ ∃ own s O,RK (opsBa t w) 3 own q.2.2 m r cb s O:=by
   intro own s G O τ hx hB h t4 t5 t6 t11 t12 t13 t14 t15
   refine check_ok orc hx hB h hc4 (by omega) t4 t5 t6 t11 t12 t13 t14 t15 ?_
   intro own' τ' G' hx' hB' h' u4 u5 u6 u11 u12 u13 u14
   exact ih (i + 1) own' s O τ' G' (by omega) hx' hB' h' u4 u5 u6 u11 u12 u13 u14
  have hlc:=h.lc
  have hcb:B.nx ≤ cb:=by
   rcases Nat.lt_or_ge cb B.nx with hh | hh
   ·have:=hB _ hh; rw [h.tc] at this; omega
   ·exact hh
  refine Wp.lp (l6_0 (exL_ok Q orc)) ?_
  by_cases w1:L[i].what = 1
  ·obtain ⟨pb,db,G2,G3,own',y,e2,e3,x2,x3,ag,hst,h1⟩:=new26_ok orc hs h0 hu hw L[i].as_ 21 h hc4
   have x02:Ext G G2:=((Ext.refl G).room 21).trans x2
   have y3:=x02.trans x3
   have otb2:=(x02.obj tb (by have:=hx.nx; omega)).trans otb'
   have oxb2:=(x02.obj xb (by have:=hx.nx; omega)).trans oxb'
   obtain ⟨b2,o2,cc2,e02,_,q02,_⟩:=(hv.ext (hx.trans x02)).at hlt
   have c22:=q02 2 (by decide)
   simp [-cell_s] at c22
   rw [e0] at e02
   cases e02
   have el:loadA 13 tb 0 G = some t.v:=by simp [otb']
   have el2:loadA 13 tb 0 G2 = some t.v:=by simp [otb2]
   have er:loadA 3 xb 0 G = some w.v:=by simp [oxb']
   have er2:loadA 3 xb 0 G2 = some w.v:=by simp [oxb2]
   simp [-Int.natCast_add,-cell_s,-loadA_s,-storeN_s,b6_0,bb6_0,clip_t,t4,t5,t6,t11,t12,t13,t14,e0,hlt,hi0,c0,c1,c2,e32,w1,el,el2,er,er2,c22,e2,e3,hc4,hc4',hw0,splice_put,splice_end,splice_succ,hst]
   refine go _ s _ _ _ ((hx.trans y3).put hcb _) (fun x hxx=>(ag x (Nat.lt_of_lt_of_le hxx hx.nx)).trans (hB x hxx)) h1 (by simp [clip_t]; exact e0.symm) (by simp [clip_t]) (by simp [clip_t]) (by simp [clip_t]) (by simp [clip_t]) (by simp [clip_t]) (by simp [clip_t]) (by simp [clip_t])
  by_cases w3:L[i].what = 2
  ·have h12:=h.room 12
   obtain ⟨own1,G1,e1,k1⟩:=h12.pm.store orc L[i].at_ L[i].w
   have y1:ModT [10,11] (grown own G 13) (G.room 12) G1:=(k1.stp.modT (i:=10) (fun _ _ h=>h.elim)).mono (by simp)
   have g1:=h12.rm.to k1.stp (by decide) fun _ _ h=>h.elim
   have a0:Agr own (grown own G 13) G:=grown_agr
   have m0:ModT (tagsOf c') own G (G.room 12):=ModT.ext ((Ext.refl G).room 12)
   have m1:=m0.trans a0 (y1.mono (us:=tagsOf c') (by simp))
   have a1:Agr own own1 G:=a0.trans k1.stp.agr (by simp)
   have x1:Ext B G1:=m1.toExt (fun g hg=>by rw [hB g hg]; simp; omega) hx
   obtain ⟨b1,o1,cc1,e01,_,q01,_⟩:=(hv.ext x1).at hlt
   have c31:=q01 3 (by decide)
   have c41:=q01 4 (by decide)
   simp [-cell_s] at c31 c41
   rw [e0] at e01
   cases e01
   have n1:=m1.nx
   have x12:Ext G1 (G1.room 12):=(Ext.refl G1).room 12
   have a12:Agr own1 (grown own1 G1 13) G1:=grown_agr
   obtain ⟨own2,G2,e2,k2⟩:=(g1.ext x12).store orc L[i].at_ L[i].w
   have y2:ModT [10,11] (grown own1 G1 13) (G1.room 12) G2:=(k2.stp.modT (i:=10) (fun _ _ h=>h.elim)).mono (by simp)
   have m12:ModT (tagsOf c') own1 G1 (G1.room 12):=ModT.ext x12
   have m2:=(m1.trans a1 m12).trans (a1.trans a12 n1) (y2.mono (us:=tagsOf c') (by simp))
   have a2:Agr own own2 G:=(a1.trans a12 n1).trans k2.stp.agr (Nat.le_trans n1 (by simp))
   have p2:PM own2 G2 m (s.store L[i].at_ L[i].w):=(k1.pm.ext x12).to k2.stp (by decide) fun _ _ h=>h.elim
   have hok:(s.store L[i].at_ L[i].w).ok:=h.ok.store _ (hU _ (List.getElem_mem hlt))
   have hcore:=(opsBa t w).to (h.core c' _ hget) (G':=G2) (own':=own2) m2.nx (fun g hg hgi=>?_) a2
   ·have h2:=h.told hget m2 a2 p2 k2.rm hok hcore rfl
    rw [List.set_getElem_self] at h2
    simp [-Int.natCast_add,-cell_s,-loadA_s,-storeN_s,b6_0,bb6_0,clip_t,t4,t5,t6,t11,t12,t13,t14,e0,hlt,hi0,c0,c1,c3,c4,e32,w3,e1,c31,c41,e2]
    exact go _ _ _ _ _ (m2.toExt (fun g hg=>by rw [hB g hg]; simp; omega) hx) (fun x hxx=>(a2 x (Nat.lt_of_lt_of_le hxx hx.nx)).trans (hB x hxx)) h2 (by simp [clip_t]; exact e0.symm) (by simp [clip_t]) (by simp [clip_t]) (by simp [clip_t]) (by simp [clip_t]) (by simp [clip_t]) (by simp [clip_t]) (by simp [clip_t])
   ·simp at hgi
    have k0:(G.room 12).obj g = G.obj g:=by simp
    have k1':G1.obj g = (G.room 12).obj g:=y1.same (by simp; omega) (by rw [a0 g hg]; simp; omega)
    have k2':(G1.room 12).obj g = G1.obj g:=by simp
    have k3':G2.obj g = (G1.room 12).obj g:=y2.same (by simp; omega) (by rw [a12 g (by omega),a1 g hg]; simp; omega)
    rw [k3',k2',k1',k0]
  have hwant:=h.want hcl
  have hrow:=h.row hcl
  by_cases w00:L[i].what = 0
  ·revert hwant hrow hget
   generalize O[c'] = o
   intro hget hwant hrow
   cases o with
   | idle =>
    simp only [CoreB.want] at hwant
    simp [-Int.natCast_add,-cell_s,-loadA_s,b6_0,bb6_0,clip_t,t4,t5,t6,t11,t12,t13,t14,e0,hlt,hi0,c0,c1,e32,w00,hc4,hc4',hw0,hwant]
    exact go own s G O _ hx hB h (by simp [clip_t]; exact e0.symm) (by simp [clip_t]) (by simp [clip_t]) (by simp [clip_t]) (by simp [clip_t]) (by simp [clip_t]) (by simp [clip_t]) (by simp [clip_t])
   | bal x co pb db =>
    simp only [CoreB.want] at hwant
    have h16:=h.room 16
    obtain ⟨dn,G1,G2,own2,s2,x2,e1,e2,kc,a2,m2,h2⟩:=coreB_ok orc hto hs hlo hw h16 hget
    have hwant1:G1.cell cb (c' * 2 + 1) = some (P0 db):=by
     have:(G.room 16).cell cb (c' * 2 + 1) = some (P0 db):=by simpa [-cell_s] using hwant
     unfold GS.cell at this ⊢
     rw [kc]
     exact this
    have hc0':G.cell cb (c' * 2) = some (P0 pb):=by
     obtain ⟨b,o,cc,e1,_,q,_⟩:=(SlR.block (e:=rowBa) h.oc h.lc).at hcl
     cases e1
     have:=q 0 (by decide)
     simp only [rowBa_sz,Nat.zero_add,Nat.add_zero] at this
     rw [this]
     have:O[c'] = .bal x co pb db:=by have:=List.getElem?_eq_getElem hcl; rw [hget] at this; exact (Option.some.inj this).symm
     rw [this]
     rfl
    have m02:ModT (tagsOf c') own G G2:=(ModT.ext ((Ext.refl G).room 16)).trans grown_agr m2
    have a02:Agr own own2 G:=grown_agr.trans a2 (by simp)
    simp [-Int.natCast_add,-cell_s,-loadA_s,b6_0,bb6_0,clip_t,t4,t5,t6,t11,t12,t13,t14,e0,hlt,hi0,c0,c1,e32,w00,hc4,hc4',hw0,hwant,hc0',e1,hwant1,e2]
    exact go own2 s2 G2 _ _ (m02.toExt (fun g hg=>by rw [hB g hg]; simp; omega) hx) (fun x hxx=>(a02 x (Nat.lt_of_lt_of_le hxx hx.nx)).trans (hB x hxx)) h2 (by simp [clip_t]; exact e0.symm) (by simp [clip_t]) (by simp [clip_t]) (by simp [clip_t]) (by simp [clip_t]) (by simp [clip_t]) (by simp [clip_t]) (by simp [clip_t])
  ·simp [-Int.natCast_add,-cell_s,-loadA_s,b6_0,bb6_0,clip_t,t4,t5,t6,t11,t12,t13,t14,e0,hlt,hi0,c0,c1,e32,w1,w3,w00]
   exact go own s G O _ hx hB h (by simp [clip_t]; exact e0.symm) (by simp [clip_t]) (by simp [clip_t]) (by simp [clip_t]) (by simp [clip_t]) (by simp [clip_t]) (by simp [clip_t]) (by simp [clip_t])
end
theorem atI_0 {t:TW} (hs:t.sound):0 ≤ atI t 0 0:=by
 have h:=hs
 unfold TW.sound at h
 unfold atI
 rw [if_pos hs,if_neg (by decide),if_pos (by omega)]
 omega
theorem runSteps (orc:FuncId → Bool) (haw:orc 7 = true) (hto:orc 236 = false) (t:TW) (hg:-9223372036854775808 ≤ t.u6 ∧ t.u6 ≤ 9223372036854775807) (w:RunW) (n:Int) (v3:Value) (W:List Int) (v4:Value) (L:List BAct) (G:GS) (h3:SlR (rowsI .u64) G v3 W) (hW:∀ w ∈ W,U w) (h4:SlR rBAct G v4 L) (hU:∀ a ∈ L,U a.w) :
  Wp ((E orc).cl 6 [t.v,w.v,.int .i64 n,v3,v4] G) fun q=>q.1 = .bool true:=by
 have aw:∀ G,(E orc).cl 7 [] G = some (.bool true,G):=fun G=>cl_orc Q orc haw G
 refine Wp.ref (f6 (exL_ok Q orc) _ _ _ _ _ G) ?_
 obtain ⟨G0,hG0⟩:∃ G0,G0 = (G.push ⟨t.cells,1,false,1⟩).push ⟨w.cells,1,false,1⟩:=⟨_,rfl⟩
 have x0:Ext G G0:=by rw [hG0]; exact ((Ext.refl G).push _).push _
 have o0:G0.obj G.nx = some ⟨t.cells,1,false,1⟩:=by rw [hG0]; simp
 have p0:G0.obj (G.nx + 1) = some ⟨w.cells,1,false,1⟩:=by rw [hG0]; simp
 have n0:G0.nx = G.nx + 2:=by rw [hG0]; rfl
 have hl3:∀ t,ln Q true t v3 = some (.int .i64 W.length):=fun t=>by obtain ⟨a,c,rfl⟩:=h3.len; simp
 have hl4:∀ t,ln Q true t v4 = some (.int .i64 L.length):=fun t=>by obtain ⟨a,c,rfl⟩:=h4.len; simp
 obtain ⟨G1,e1,x1⟩:=xfits_ok orc w n (G0.room 7)
 have y1:Ext G0 G1:=((Ext.refl G0).room 7).trans x1
 have p1:=(y1.obj (G.nx + 1) (by omega)).trans p0
 obtain ⟨G2,e2,x2⟩:=rxfits_ok orc w n G1
 have y2:=y1.trans x2
 have p2:=(y2.obj (G.nx + 1) (by omega)).trans p0
 obtain ⟨G3,e3,x3⟩:=rxfits_ok orc w n G2
 have y3:=y2.trans x3
 have o3:=(y3.obj G.nx (by omega)).trans o0
 by_cases hr:w.code n = 0
 ·have hw:=RunW.good_of hr
  rw [hr] at e1 e2 e3
  obtain ⟨code,G4,e4,x4,f4⟩:=r15fits_ok orc hg n G3
  have y4:=y3.trans x4
  have o4:=(y4.obj G.nx (by omega)).trans o0
  have p4:=(y4.obj (G.nx + 1) (by omega)).trans p0
  by_cases hf:code = 0
  ·subst hf
   obtain ⟨hs,hgd⟩:=f4 rfl
   by_cases c1:12 < t.size
   ·simp [s6,← hG0,o0,p0,e1,p1,e2,p2,e3,o3,e4,o4,c1,aw]
   by_cases c2:160 < n
   ·simp [s6,← hG0,o0,p0,e1,p1,e2,p2,e3,o3,e4,o4,c1,c2,aw]
   by_cases c3:160 < W.length
   ·have c3':(160:Int) < W.length:=by omega
    simp [s6,← hG0,o0,p0,e1,p1,e2,p2,e3,o3,e4,o4,c1,c2,hl3,c3',aw]
   by_cases c4:150 < L.length
   ·have c3':¬ (160:Int) < W.length:=by omega
    have c4':(150:Int) < L.length:=by omega
    simp [s6,← hG0,o0,p0,e1,p1,e2,p2,e3,o3,e4,o4,c1,c2,hl3,c3',hl4,c4',aw]
   have c3':¬ (160:Int) < W.length:=by omega
   have c4':¬ (150:Int) < L.length:=by omega
   have z4:=x0.trans y4
   simp [s6,← hG0,o0,p0,e1,p1,e2,p2,e3,o3,e4,o4,p4,c1,c2,hl3,c3',hl4,c4']
   refine Wp.stepW (laid_ok orc hto hs hgd hw (h3.ext z4) (by omega)) ?_
   rintro _ G5 ⟨m,r,own,rfl,x5,hpm,hrm,hown⟩
   simp only at x5 hpm hrm
   have hA:=hgd.2.2.1
   have hok:(laidB t w n W).ok:=putsN_ok _ _ hW (fillR_ok w _ _ (fillT_ok hA (zero_ok (by have:=hgd.2.1; omega))))
   have n4:=y4.nx
   have p5:=(x5.obj (G.nx + 1) (by omega)).trans p4
   obtain ⟨G6,e6,x6⟩:=seen_ok orc hw hpm hrm hok
   have hm:mkK 2 16 z78 3 3 G6 = some (.slice (some ⟨G6.nx,0,none⟩) 3 3,G6.push ⟨rowBa.flat [.idle,.idle,.idle],2,false,1⟩):=by
    unfold mkK
    rw [if_pos ⟨by omega,by omega,by decide,by decide,wrap64 (by omega) (by omega),wrap64 (by omega) (by omega)⟩]
    rfl
   have x7:Ext G6 (G6.push ⟨rowBa.flat [.idle,.idle,.idle],2,false,1⟩):=(Ext.refl G6).push _
   have x67:=x6.trans x7
   obtain ⟨own6,hown6⟩:∃ own6,own6 = grown (grown own G5 13) G6 12:=⟨_,rfl⟩
   have ag6:Agr own own6 G5:=by rw [hown6]; exact grown_agr.trans grown_agr x6.nx
   have hRK:RK (opsBa t w) 3 own6 (G6.push ⟨rowBa.flat [.idle,.idle,.idle],2,false,1⟩) m r G6.nx (laidB t w n W) [.idle,.idle,.idle]:=by
    refine ⟨hpm.modT (ts:=[]) (ModT.ext x67) (by simp) ag6,hrm.modT (ts:=[]) (ModT.ext x67) (by simp) ag6,hok,by rw [hown6]; exact grown_new (Nat.le_refl _),by simp,by rw [obj_push,if_pos rfl]; rfl,rfl,by decide,?_⟩
    intro i x hx
    have:x = CoreB.idle:=by
     have:=List.mem_of_getElem? hx
     simpa using this
    subst this
    exact trivial
   simp [e6,p5,hm]
   refine Wp.bE ((steps_lp orc hto hs hgd.2.2.2.1 (atI_0 hs) hgd.2.2.2.2.1 hw (B:=G4) (tb:=G.nx) (xb:=G.nx + 1) (by omega) o4 (by omega) p4 (h4.ext z4) (by omega) hU L.length 0 _ _ _ _ _ (by omega) (x5.trans x67) (fun x hx=>(ag6 x (Nat.lt_of_lt_of_le hx x5.nx)).trans (hown x hx)) hRK (by simp) (by simp) (by simp) (by simp) (by simp) (by simp) (by simp)).mono ?_)
   rintro ⟨e,τ,G7⟩ ⟨rfl,t6,t11,t12,x8,own8,s8,O8,h8⟩
   simp only at t6 t11 t12 x8 h8
   obtain ⟨G9,e9,x9⟩:=seen_ok orc hw h8.pm h8.rm h8.ok
   have p8:=(x8.obj (G.nx + 1) (by omega)).trans p4
   simp [t6,t11,t12,p8,e9,aw]
  ·simp [s6,← hG0,o0,p0,e1,p1,e2,p2,e3,o3,e4,o4,hf,aw]
 ·simp [s6,← hG0,o0,p0,e1,p1,e2,p2,e3,hr,aw]
def hyb {β:Type} (x y:Option β):Option β:=match x with | some r=>some r | none=>y
theorem Ref.orE {β:Type} {x y z:Option β} (h:Ref x z) (k:Ref y z):Ref (hyb x y) z:=fun r hr=>by
 unfold hyb at hr
 cases x with
 | some a=>exact h r hr
 | none=>exact k r hr
noncomputable def kH (orc:FuncId → Bool) (n:Nat):Ex:=Nat.rec (motive:=fun _=>Ex) ⟨Ev.zero,fun _ _ _ _=>none⟩ (fun _ e=>⟨⟨(evO Q orc 0).ex,fun f vs G=>hyb (clT orc e f vs G) ((evO Q orc 2000).cl f vs G),(evO Q orc 2000).rd,(evO Q orc 2000).sc,(evO Q orc 0).lp⟩,lpT 6000 e⟩) n
theorem kH_ok (orc:FuncId → Bool):∀ n,ExLe Q (kH orc n) (E orc)
 | 0=>⟨zero_le _,fun _ _ _ _=>.nil _⟩
 | n + 1=>⟨⟨(le_evL Q orc 0).ex,fun f vs G r hr=>Ref.orE (clT_ok (kH_ok orc n) f vs G) ((le_evL Q orc 2000).cl f vs G) r hr,(le_evL Q orc 2000).rd,(le_evL Q orc 2000).sc,(le_evL Q orc 0).lp⟩,lpT_ok (kH_ok orc n) 6000⟩
theorem at_kH {orc:FuncId → Bool} {n f:Nat} {vs:List Value} (h:isTrue ((kH orc n).ev.cl f vs GS.empty) = true):∃ G',(E orc).cl f vs GS.empty = some (.bool true,G'):=isTrue_of ((kH_ok orc n).ev.cl f vs GS.empty) h
theorem closed_kH {orc:FuncId → Bool} (ho:OrcOk Q orc) (hmix:Q.follows .mixedOrders = true) {n f:Nat} (h:isTrue ((kH orc n).ev.cl f [] GS.empty) = true) (w:World):Calls Q f #[] w fun e w'=>e = .returned (.bool true) ∧ Go.RowKit.Below w.heap.size w w' :=
 let ⟨_,hG⟩:=at_kH h
 law_plain hmix ho hG fun _=>trivial
theorem pNone:PurOk Q:=purOk_none (by kernel_rfl) (by kernel_rfl)
theorem okNone:OrcOk Q (among []):=among_ok _ (hp:=pNone) fun f hf=>by cases hf
theorem trueAw:isTrue ((kH (among []) 200).ev.cl 7 [] GS.empty) = true:=by kernel_rfl
theorem okAw:OrcOk Q (among [7]):=among_ok _ (hp:=pNone) fun f hf=>by
 simp only [List.mem_cons,List.not_mem_nil,or_false] at hf
 subst hf
 exact ⟨⟨_,Tryz.func7,by kernel_rfl,by kernel_rfl⟩,fun w _=>closed_kH okNone (by kernel_rfl) trueAw w⟩
theorem U_wf {x:Int} (h:(Lit.int .u64 x).wf = true):U x:=by
 simp [Lit.wf] at h
 exact ⟨Int.le_trans (show (0:Int) ≤ IntKind.min .u64 by decide) h.1,Int.lt_of_le_of_lt h.2 (show IntKind.max .u64 < (18446744073709551616:Int) by decide)⟩
theorem I_wf {x:Int} (h:(Lit.int .i64 x).wf = true):-9223372036854775808 ≤ x ∧ x ≤ 9223372036854775807:=by
 simp [Lit.wf] at h
 exact ⟨Int.le_trans (show (-9223372036854775808:Int) ≤ IntKind.min .i64 by decide) h.1,Int.le_trans h.2 (show IntKind.max .i64 ≤ (9223372036854775807:Int) by decide)⟩
theorem row_bact {r:List Value} (h:Row [some .i64,some .i64,some .i64,some .i64,some .u64] r):∃ x:BAct,r = rBAct.row x:=by
 match r with
 | []=>exact h.elim
 | [_]=>exact h.2.elim
 | [_,_]=>exact h.2.2.elim
 | [_,_,_]=>exact h.2.2.2.elim
 | [_,_,_,_]=>exact h.2.2.2.2.elim
 | x :: y :: z :: u :: v :: q :: l=>exact h.2.2.2.2.2.elim
 | [x,y,z,u,v] =>
  obtain ⟨⟨a,ha,_⟩,⟨b,hb,_⟩,⟨c,hc,_⟩,⟨d,hd,_⟩,⟨e,he,_⟩,_⟩:=h
  exact ⟨⟨a,b,c,d,e⟩,by rw [ha,hb,hc,hd,he]; rfl⟩
theorem row_bu {x:BAct} (h:Row [some .i64,some .i64,some .i64,some .i64,some .u64] (rBAct.row x)):U x.w:=by
 rw [rBAct_row] at h
 obtain ⟨_,_,_,_,⟨d,hd,wd⟩,_⟩:=h
 cases hd
 exact U_wf wd
theorem row_rw {r:List Value} (h:Row [some .i64,some .i64,some .i64] r):∃ x:RunW,r = x.cells:=by
 match r with
 | []=>exact h.elim
 | [_]=>exact h.2.elim
 | [_,_]=>exact h.2.2.elim
 | x :: y :: z :: q :: l=>exact h.2.2.2.elim
 | [x,y,z] =>
  obtain ⟨⟨a,ha,_⟩,⟨b,hb,_⟩,⟨c,hc,_⟩,_⟩:=h
  exact ⟨⟨a,b,c⟩,by rw [ha,hb,hc]⟩
theorem row_tw {r:List Value} (h:Row [some .i64,some .i64,some .i64,some .i64,some .i64,some .i64,some .i64,some .i64,some .i64,some .i64,some .i64,some .i64,some .i64] r):∃ x:TW,r = x.cells ∧ -9223372036854775808 ≤ x.u6 ∧ x.u6 ≤ 9223372036854775807:=by
 match r with
 | [x0,x1,x2,x3,x4,x5,x6,x7,x8,x9,x10,x11,x12] =>
  obtain ⟨⟨a0,h0,_⟩,⟨a1,h1,_⟩,⟨a2,h2,_⟩,⟨a3,h3,_⟩,⟨a4,h4,_⟩,⟨a5,h5,_⟩,⟨a6,h6,w6⟩,⟨a7,h7,_⟩,⟨a8,h8,_⟩,⟨a9,h9,_⟩,⟨a10,h10,_⟩,⟨a11,h11,_⟩,⟨a12,h12,_⟩,_⟩:=h
  exact ⟨⟨a0,a1,a2,a3,a4,a5,a6,a7,a8,a9,a10,a11,a12⟩,by rw [h0,h1,h2,h3,h4,h5,h6,h7,h8,h9,h10,h11,h12],I_wf w6⟩
 | []=>exact h.elim
 | [_]=>exact h.2.elim
 | [_,_]=>exact h.2.2.elim
 | [_,_,_]=>exact h.2.2.2.elim
 | [_,_,_,_]=>exact h.2.2.2.2.elim
 | [_,_,_,_,_]=>exact h.2.2.2.2.2.elim
 | [_,_,_,_,_,_]=>exact h.2.2.2.2.2.2.elim
 | [_,_,_,_,_,_,_]=>exact h.2.2.2.2.2.2.2.elim
 | [_,_,_,_,_,_,_,_]=>exact h.2.2.2.2.2.2.2.2.elim
 | [_,_,_,_,_,_,_,_,_]=>exact h.2.2.2.2.2.2.2.2.2.elim
 | [_,_,_,_,_,_,_,_,_,_]=>exact h.2.2.2.2.2.2.2.2.2.2.elim
 | [_,_,_,_,_,_,_,_,_,_,_]=>exact h.2.2.2.2.2.2.2.2.2.2.2.elim
 | [_,_,_,_,_,_,_,_,_,_,_,_]=>exact h.2.2.2.2.2.2.2.2.2.2.2.2.elim
 | _ :: _ :: _ :: _ :: _ :: _ :: _ :: _ :: _ :: _ :: _ :: _ :: _ :: _ :: _=>exact h.2.2.2.2.2.2.2.2.2.2.2.2.2.elim
end Go.Proofs.YtedmgpchggogpaaGreat.Lift
