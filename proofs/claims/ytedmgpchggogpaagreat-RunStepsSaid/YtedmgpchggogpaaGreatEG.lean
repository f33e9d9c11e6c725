import Derived.Test.YtedmgpchggogpaaGreatED
import Derived.Test.YtedmgpchggogpaaGreatEE
set_option linter.unusedVariables false
set_option linter.unusedSimpArgs false
set_option maxRecDepth 20000
namespace Go.Proofs.YtedmgpchggogpaaGreat.Lift
open Go Go.Proofs.YtedmgpchggogpaaGreat.Gh Go.Proofs
variable (orc:FuncId → Bool)
abbrev rcB (t:TW) (ln a w i k j:Int) (by_ er:Int):GObj:=⟨[.int .i64 t.nodes,.int .i64 t.heads,.int .i64 t.height,.int .i64 t.top,.int .i64 t.links,.int .i64 t.size,.int .i64 t.u6,.int .i64 t.u7,.int .i64 t.u8,.int .i64 t.u9,.int .i64 t.u10,.int .i64 t.u11,.int .i64 t.u12,.bool true,.int .i64 ln,.int .u64 a,.int .u64 w,.int .i64 i,.int .i64 0,.int .u64 k,.int .i64 j,.pointer none,.pointer none,.bool false,.int .u64 by_,.int .i64 er],1,false,1⟩
abbrev rcX (t:TW) (x:ClS) (I:Int):GObj:=rcB t x.line x.a x.w I x.key x.job x.by_ x.err
section
variable {own own':Nat → Nat} {tag tg m r b:Nat} {t:TW} {G G':GS} {s:MS} {ln a i w k j by_ er I:Int} {x:ClS}
theorem rcnext_ok (ho:G.obj b = some (rcB t ln a w I k j by_ er)) (i l:Int):∃ G',(E orc).cl 199 [P0 b,.int .i64 i,.int .i64 l] G = some (.int .i64 (nextI t i l),G') ∧ Ext G G':=by
 obtain ⟨G1,e1,x1⟩:=rnext_ok orc t i l G
 refine ⟨G1,f199 (exL_ok Q orc) _ _ _ G _ ?_,x1⟩
 simp [s199,ho,e1]
theorem rcload_ok (h:RM own G r s) (ht:tag ≠ 11) (hb:At own tag G b) (ho:G.obj b = some (rcB t ln a w I k j by_ er)) (part:Int) :
  ∃ own1 G1,(E orc).cl 201 [P0 b,P0 r,.int .i64 part] G = some (.int .u64 (s.load (atI t I part)).new,G1) ∧ RW (Own own tag) own G own1 G1 r (s.load (atI t I part)) ∧ At own1 tag G1 b ∧ G1.obj b = some (rcB t ln a w I k j a er):=by
 obtain ⟨G1,hG1⟩:∃ G1,G1 = G.put b (rcB t ln a w I k j a er):=⟨_,rfl⟩
 have w1:RW (Own own tag) own G own G1 r s:=by rw [hG1]; exact (RW.refl h).putT hb.tag ht _
 have hb1:At own tag G1 b:=by rw [hG1]; exact hb.putO _ _
 have o1:G1.obj b = some (rcB t ln a w I k j a er):=by rw [hG1]; simp
 obtain ⟨G2,e2,x2⟩:=rtat_ok orc t I part (G1.room 13)
 have y2:=((Ext.refl G1).room 13).trans x2
 have w2:=w1.extT y2 tag
 have hb2:=hb1.extO y2 tag
 have o2:=(y2.obj b hb1.lt).trans o1
 generalize grown own G1 tag = own2 at *
 obtain ⟨own3,G3,e3,w3⟩:=w2.rm.load orc (atI t I part)
 have o3:=(w3.keep hb2.lt (by rw [hb2.tag]; exact ht) id).trans o2
 refine ⟨own3,G3,f201 (exL_ok Q orc) _ _ _ G _ ?_,w2.tr w3.any,hb2.to w3.nx w3.stp.agr,o3⟩
 simp [s201,ho,← hG1,o1,e2,e3]
def RcO (own:Nat → Nat) (tag:Nat) (t:TW) (G:GS) (b:Nat) (x:ClS):Prop:=At own tag G b ∧ ∃ I,G.obj b = some (rcX t x I) ∧ (x.line ≠ 1 → x.line ≠ 99 → I = x.i)
theorem RcO.to (h:RcO own tag t G b x) (hn:G.nx ≤ G'.nx) (hk:∀ g,g < G.nx → own g = tag → G'.obj g = G.obj g) (a:Agr own own' G):RcO own' tag t G' b x:=by
 obtain ⟨hb,I,ho,hI⟩:=h
 exact ⟨hb.to hn a,I,(hk _ hb.lt hb.tag).trans ho,hI⟩
theorem idx_lt {w:Int} (hz:t.sound) (hu:0 ≤ w):(idxI t.size w < 0 ↔ w % 65536 - 1 < 0 ∨ t.size ≤ w % 65536 - 1) ∧ (¬ idxI t.size w < 0 → idxI t.size w = w % 65536 - 1):=by
 unfold idxI; split <;> omega
theorem rclooks_ok (hs:t.sound) (h:RM own G r s) (hm:s.ok) (hx:x.ok true t) (ht:tag ≠ 11) (hp:RcO own tag t G b x) (hl:x.line = 1 ∨ x.line = 2 ∨ x.line = 3) :
  ∃ own1 G1,(E orc).cl 162 [P0 b,P0 r] G = some (.tuple #[],G1) ∧ RW (Own own tag) own G own1 G1 r (x.step true t s).2 ∧ RcO own1 tag t G1 b (x.step true t s).1:=by
 obtain ⟨hb,I,ho,hI⟩:=hp
 rcases hl with e | e | e
 all_goals unfold ClS.step; simp only [e]
 ·simp [ClS.l1]
  have hn:=(hm.load (nextI t (-1) 0)).2
  obtain ⟨G1,hG1⟩:∃ G1,G1 = G.put b (rcB t 1 x.a x.w I x.key x.job 0 x.err):=⟨_,rfl⟩
  have w1:RW (Own own tag) own G own G1 r s:=by rw [hG1]; exact (RW.refl h).putT hb.tag ht _
  have hb1:At own tag G1 b:=by rw [hG1]; exact hb.putO _ _
  have o1:G1.obj b = some (rcB t 1 x.a x.w I x.key x.job 0 x.err):=by rw [hG1]; simp
  obtain ⟨G2,e2,x2⟩:=rcnext_ok orc o1 (-1) 0
  have w2:=w1.extT x2 tag
  have hb2:=hb1.extO x2 tag
  have o2:=(x2.obj b hb1.lt).trans o1
  generalize grown own G1 tag = own2 at *
  obtain ⟨own3,G3,e3,w3⟩:=w2.rm.load orc (nextI t (-1) 0)
  generalize s.load (nextI t (-1) 0) = s' at *
  generalize s'.new = v at *
  have w3':=w2.tr w3.any
  have hb3:=hb2.to w3.nx w3.stp.agr
  have o3:=(w3.keep hb2.lt (by rw [hb2.tag]; exact ht) id).trans o2
  obtain ⟨G4,hG4⟩:∃ G4,G4 = G3.put b (rcB t 1 v x.w I x.key x.job 0 x.err):=⟨_,rfl⟩
  have w4:RW (Own own tag) own G own3 G4 r s':=by rw [hG4]; exact w3'.putT hb3.tag ht _
  have hb4:At own3 tag G4 b:=by rw [hG4]; exact hb3.putO _ _
  have o4:G4.obj b = some (rcB t 1 v x.w I x.key x.job 0 x.err):=by rw [hG4]; simp
  obtain ⟨G5,e5,x5⟩:=rindex15_ok orc t hn (G4.room 13)
  have y5:=((Ext.refl G4).room 13).trans x5
  have w5:=w4.extT y5 tag
  have hb5:=hb4.extO y5 tag
  have o5:=(y5.obj b hb4.lt).trans o4
  generalize grown own3 G4 tag = own5 at *
  obtain ⟨hi1,hi2⟩:=idx_lt hs hn.1
  generalize idxI t.size v = J at *
  obtain ⟨G6,hG6⟩:∃ G6,G6 = (G5.put b (rcB t 1 v x.w J x.key x.job 0 x.err)).put b (rcB t 2 v x.w J x.key x.job 0 x.err):=⟨_,rfl⟩
  have w6:RW (Own own tag) own G own5 G6 r s':=by rw [hG6]; exact (w5.putT hb5.tag ht _).putT hb5.tag ht _
  have hb6:At own5 tag G6 b:=by rw [hG6]; exact (hb5.putO _ _).putO _ _
  have o6:G6.obj b = some (rcB t 2 v x.w J x.key x.job 0 x.err):=by rw [hG6]; simp
  by_cases c1:J < 0
  ·rw [if_pos (hi1.1 c1)]
   refine ⟨own5,(G6.put b (rcB t 99 v x.w J x.key x.job 0 x.err)).put b (rcB t 99 v x.w J x.key x.job 0 15),f162 (exL_ok Q orc) _ _ G _ ?_,(w6.putT hb6.tag ht _).putT hb6.tag ht _,(hb6.putO _ _).putO _ _,J,by simp,by simp⟩
   simp [s162,ho,e, ← hG1,o1,e2,e3,o3,← hG4,o4,e5,o5,← hG6,o6,c1]
  ·rw [if_neg (fun k=>c1 (hi1.2 k))]
   refine ⟨own5,G6,f162 (exL_ok Q orc) _ _ G _ ?_,w6,hb6,J,o6,fun _ _=>hi2 c1⟩
   simp [s162,ho,e, ← hG1,o1,e2,e3,o3,← hG4,o4,e5,o5,← hG6,o6,c1]
 ·have hI':=hI (by omega) (by omega)
  subst hI'
  simp [ClS.l2]
  have hn:=(hm.load (atI t x.i 4)).2
  obtain ⟨own1,G1,e1,w1,hb1,o1⟩:=rcload_ok orc h ht hb ho 4
  generalize s.load (atI t x.i 4) = s' at *
  generalize s'.new = v at *
  obtain ⟨G2,hG2⟩:∃ G2,G2 = G1.put b (rcB t 2 x.a v x.i x.key x.job x.a x.err):=⟨_,rfl⟩
  have w2:RW (Own own tag) own G own1 G2 r s':=by rw [hG2]; exact w1.putT hb1.tag ht _
  have hb2:At own1 tag G2 b:=by rw [hG2]; exact hb1.putO _ _
  have o2:G2.obj b = some (rcB t 2 x.a v x.i x.key x.job x.a x.err):=by rw [hG2]; simp
  by_cases c1:mkB ≤ v
  ·have c1':9223372036854775808 ≤ v:=c1
   rw [if_pos c1]
   refine ⟨own1,G2.put b (rcB t 3 x.a v x.i x.key x.job x.a x.err),f162 (exL_ok Q orc) _ _ G _ ?_,w2.putT hb2.tag ht _,hb2.putO _ _,x.i,by simp,fun _ _=>rfl⟩
   simp [s162,ho,e, e1,o1,← hG2,o2,c1']
  ·have c1':¬ 9223372036854775808 ≤ v:=c1
   rw [if_neg c1]
   refine ⟨own1,G2.put b (rcB t 9 x.a v x.i x.key x.job x.a x.err),f162 (exL_ok Q orc) _ _ G _ ?_,w2.putT hb2.tag ht _,hb2.putO _ _,x.i,by simp,fun _ _=>rfl⟩
   simp [s162,ho,e,e1,o1,← hG2,o2,c1']
 ·simp [ClS.l3]
  have hu:=U_sub hx.w (hx.m3 e)
  have ew:IntKind.wrap .u64 (x.w - 9223372036854775808) = x.w - mkB:=by rw [wrap_u64]; unfold mkB at *; unfold U at hu; omega
  obtain ⟨G1,hG1⟩:∃ G1,G1 = G.put b (rcB t 3 x.a x.w I x.key x.job 0 x.err):=⟨_,rfl⟩
  have w1:RW (Own own tag) own G own G1 r s:=by rw [hG1]; exact (RW.refl h).putT hb.tag ht _
  have hb1:At own tag G1 b:=by rw [hG1]; exact hb.putO _ _
  have o1:G1.obj b = some (rcB t 3 x.a x.w I x.key x.job 0 x.err):=by rw [hG1]; simp
  have o1':(G1.room 13).obj b = some (rcB t 3 x.a x.w I x.key x.job 0 x.err):=by simp [o1]
  obtain ⟨G2,e2,x2⟩:=rcnext_ok orc o1' (-1) 0
  have y2:=((Ext.refl G1).room 13).trans x2
  have w2:=w1.extT y2 tag
  have hb2:=hb1.extO y2 tag
  have o2:=(y2.obj b hb1.lt).trans o1
  generalize grown own G1 tag = own2 at *
  obtain ⟨own4,G4,e4,w4⟩:=w2.rm.cas orc (nextI t (-1) 0) x.a (x.w - mkB)
  have w4':=w2.tr w4.any
  have hb4:=hb2.to w4.nx w4.stp.agr
  have o4:=(w4.keep hb2.lt (by rw [hb2.tag]; exact ht) id).trans o2
  refine ⟨own4,G4.put b (rcB t 1 x.a x.w I x.key x.job 0 x.err),f162 (exL_ok Q orc) _ _ G _ ?_,w4'.putT hb4.tag ht _,hb4.putO _ _,I,by simp,by simp⟩
  simp [s162,ho,e, ← hG1,o1,e2,o2,ew,e4,o4]
theorem rcreads_ok (h:RM own G r s) (hm:s.ok) (ht:tag ≠ 11) (hp:RcO own tag t G b x) (hl:x.line = 9 ∨ x.line = 91) :
  ∃ own1 G1,(E orc).cl 165 [P0 b,P0 r] G = some (.tuple #[],G1) ∧ RW (Own own tag) own G own1 G1 r (x.step true t s).2 ∧ RcO own1 tag t G1 b (x.step true t s).1:=by
 obtain ⟨hb,I,ho,hI⟩:=hp
 have hI':=hI (by omega) (by omega)
 subst hI'
 rcases hl with e | e
 all_goals unfold ClS.step; simp only [e]
 ·simp [ClS.l9]
  obtain ⟨own1,G1,e1,w1,b1,o1⟩:=rcload_ok orc h ht hb ho 0
  generalize s.load (atI t x.i 0) = s' at *
  generalize s'.new = v at *
  refine ⟨own1,(G1.put b (rcB t 9 x.a x.w x.i v x.job x.a x.err)).put b (rcB t 91 x.a x.w x.i v x.job x.a x.err),f165 (exL_ok Q orc) _ _ G _ ?_,(w1.putT b1.tag ht _).putT b1.tag ht _,(b1.putO _ _).putO _ _,x.i,by simp,fun _ _=>rfl⟩
  simp [s165,ho,e,e1,o1]
 ·simp [ClS.l91]
  have hn:=(hm.load (atI t x.i 1)).2
  obtain ⟨own1,G1,e1,w1,b1,o1⟩:=rcload_ok orc h ht hb ho 1
  generalize s.load (atI t x.i 1) = s' at *
  generalize s'.new = v at *
  have hv:=hn.1
  have em:v.tmod 65536 = v % 65536:=Int.tmod_eq_emod_of_nonneg hv
  have e3:IntKind.wrap .i64 (v % 65536) = v % 65536:=wrap64 (by omega) (by omega)
  have e4:IntKind.wrap .u64 (v % 65536) = v % 65536:=by rw [wrap_u64]; omega
  obtain ⟨G2,hG2⟩:∃ G2,G2 = (G1.put b (rcB t 91 x.a x.w x.i x.key (v % 65536) x.a x.err)).put b (rcB t 99 x.a x.w x.i x.key (v % 65536) x.a x.err):=⟨_,rfl⟩
  have w2:RW (Own own tag) own G own1 G2 r s':=by rw [hG2]; exact (w1.putT b1.tag ht _).putT b1.tag ht _
  have hb2:At own1 tag G2 b:=by rw [hG2]; exact (b1.putO _ _).putO _ _
  have o2:G2.obj b = some (rcB t 99 x.a x.w x.i x.key (v % 65536) x.a x.err):=by rw [hG2]; simp
  refine ⟨own1,G2,f165 (exL_ok Q orc) _ _ G _ ?_,w2,hb2,x.i,o2,fun _ _=>rfl⟩
  simp [s165,ho,e,e1,o1,em,e3,e4,← hG2,o2]
theorem RcO.ob (h:RcO own tag t G b x):∃ I,G.obj b = some (rcX t x I):=h.2.imp fun _ k=>k.1
theorem rcstep_ok (hs:t.sound) (h:RM own G r s) (hm:s.ok) (hx:x.ok true t) (ht:tag ≠ 11) (hp:RcO own tag t G b x) :
  ∃ own1 G1,(E orc).cl 123 [P0 b,P0 r] G = some (.bool (decide ((x.step true t s).1.line = 99)),G1) ∧ RW (Own own tag) own G own1 G1 r (x.step true t s).2 ∧ RcO own1 tag t G1 b (x.step true t s).1:=by
 obtain ⟨I,ho⟩:=hp.ob
 rcases hx.line with e | e | e | e | e | e | ⟨k,-⟩
 ·obtain ⟨own1,G1,e1,w1,p1⟩:=rclooks_ok orc hs h hm hx ht hp (.inl e)
  obtain ⟨I2,o2⟩:=p1.ob
  refine ⟨own1,G1,f123 (exL_ok Q orc) _ _ G _ ?_,w1,p1⟩
  simp [s123,sb123,clip_t,ho,e]
  simp [j123_5,jb123_5,clip_t,e1]
  simp [j123_0,jb123_0,clip_t,o2]
 ·obtain ⟨own1,G1,e1,w1,p1⟩:=rclooks_ok orc hs h hm hx ht hp (.inr (.inl e))
  obtain ⟨I2,o2⟩:=p1.ob
  refine ⟨own1,G1,f123 (exL_ok Q orc) _ _ G _ ?_,w1,p1⟩
  simp [s123,sb123,clip_t,ho,e]
  simp [j123_5,jb123_5,clip_t,e1]
  simp [j123_0,jb123_0,clip_t,o2]
 ·obtain ⟨own1,G1,e1,w1,p1⟩:=rclooks_ok orc hs h hm hx ht hp (.inr (.inr e))
  obtain ⟨I2,o2⟩:=p1.ob
  refine ⟨own1,G1,f123 (exL_ok Q orc) _ _ G _ ?_,w1,p1⟩
  simp [s123,sb123,clip_t,ho,e]
  simp [j123_5,jb123_5,clip_t,e1]
  simp [j123_0,jb123_0,clip_t,o2]
 ·obtain ⟨own1,G1,e1,w1,p1⟩:=rcreads_ok orc h hm ht hp (.inl e)
  obtain ⟨I2,o2⟩:=p1.ob
  refine ⟨own1,G1,f123 (exL_ok Q orc) _ _ G _ ?_,w1,p1⟩
  simp [s123,sb123,clip_t,ho,e]
  simp [j123_5,jb123_5,clip_t]
  simp [j123_4,jb123_4,clip_t]
  simp [j123_3,jb123_3,clip_t]
  simp [j123_2,jb123_2,clip_t,e1]
  simp [j123_0,jb123_0,clip_t,o2]
 ·obtain ⟨own1,G1,e1,w1,p1⟩:=rcreads_ok orc h hm ht hp (.inr e)
  obtain ⟨I2,o2⟩:=p1.ob
  refine ⟨own1,G1,f123 (exL_ok Q orc) _ _ G _ ?_,w1,p1⟩
  simp [s123,sb123,clip_t,ho,e]
  simp [j123_5,jb123_5,clip_t]
  simp [j123_4,jb123_4,clip_t]
  simp [j123_3,jb123_3,clip_t]
  simp [j123_2,jb123_2,clip_t,e1]
  simp [j123_0,jb123_0,clip_t,o2]
 ·have hst:x.step true t s = (x,s):=by unfold ClS.step; simp [e]
  rw [hst]
  refine ⟨own,G,f123 (exL_ok Q orc) _ _ G _ ?_,.refl h,hp⟩
  simp [s123,sb123,clip_t,ho,e]
  simp [j123_5,jb123_5,clip_t]
  simp [j123_4,jb123_4,clip_t]
  simp [j123_3,jb123_3,clip_t]
  simp [j123_2,jb123_2,clip_t]
  simp [j123_1,jb123_1,clip_t]
  simp [j123_0,jb123_0,clip_t,ho,e]
 ·exact absurd k (by decide)
theorem rcItem_ok (hp:RcO own tag t G b x):∃ G',(E orc).cl 168 [P0 b] G = some (.tuple #[itemV x.ik x.ij,.int .i64 x.ie],G') ∧ Ext G G':=by
 obtain ⟨hb,I,ho,-⟩:=hp
 have hne:¬ b = G.nx:=by have:=hb.lt; omega
 have w:Wp (s168 true (exL Q orc) (P0 b) G) fun q=>q.1 = .tuple #[itemV x.ik x.ij,.int .i64 x.ie] ∧ Ext G q.2:=by
  unfold ClS.ik ClS.ij ClS.ie itemV
  by_cases e:x.line = 99
  ·by_cases e2:x.err = 0
   ·simp [s168,ho,hne,splice_put,splice_end,e,e2]
    exact extPP _ _
   ·simp [s168,ho,hne,splice_put,splice_end,e,e2]
    exact (((Ext.refl G).push _).room _).put (Nat.le_refl _) _
  ·simp [s168,ho,hne,splice_put,splice_end,e]
   exact extPP _ _
 obtain ⟨⟨v,G'⟩,e1,rfl,e3⟩:=w
 exact ⟨G',f168 (exL_ok Q orc) _ G _ e1,e3⟩
theorem rcBy_ok (hp:RcO own tag t G b x):(E orc).cl 124 [P0 b] G = some (.int .u64 x.by_,G):=by
 obtain ⟨I,ho⟩:=hp.ob
 exact f124 (exL_ok Q orc) _ G _ (by simp [s124,ho])
abbrev rc0 (t:TW):GObj:=⟨[.int .i64 t.nodes,.int .i64 t.heads,.int .i64 t.height,.int .i64 t.top,.int .i64 t.links,.int .i64 t.size,.int .i64 t.u6,.int .i64 t.u7,.int .i64 t.u8,.int .i64 t.u9,.int .i64 t.u10,.int .i64 t.u11,.int .i64 t.u12,.bool false,.int .i64 1,.int .u64 0,.int .u64 0,.int .i64 0,.int .i64 0,.int .u64 0,.int .i64 0,.pointer none,.pointer none,.bool false,.int .u64 0,.int .i64 0],1,false,1⟩
theorem rpnew_ok (hs:t.sound) (G:GS):∃ b G',(E orc).cl 121 [t.v] G = some (P0 b,G') ∧ Ext G G' ∧ G'.obj b = some (rcX t (ClS.new t) 0) ∧ G.nx ≤ b ∧ b < G'.nx:=by
 obtain ⟨G0,hG0⟩:∃ G0,G0 = G.push ⟨t.cells,1,false,1⟩:=⟨_,rfl⟩
 have x0:Ext G G0:=by rw [hG0]; exact (Ext.refl G).push _
 have o0:G0.obj G.nx = some ⟨t.cells,1,false,1⟩:=by rw [hG0]; simp
 obtain ⟨G1,hG1⟩:∃ G1,G1 = G0.push ⟨t.cells,1,false,1⟩:=⟨_,rfl⟩
 have x1:Ext G0 G1:=by rw [hG1]; exact (Ext.refl G0).push _
 have o1:G1.obj G0.nx = some ⟨t.cells,1,false,1⟩:=by rw [hG1]; simp
 have n1:G1.nx = G0.nx + 1:=by rw [hG1]; rfl
 obtain ⟨G2,e2,x2⟩:=rsound_ok orc t G1
 have y2:=x1.trans x2
 have o2:=(x2.obj G0.nx (by omega)).trans o1
 have en:(E orc).cl 159 [t.v] G0 = some (P0 G2.nx,G2.push (rc0 t)):=by
  refine f159 (exL_ok Q orc) _ _ _ ?_
  simp [s159,← hG1,o1,e2,hs,o2]
 have z2:=x0.trans y2
 have w:Wp (s121 true (exL Q orc) t.v G) fun q=>q = (P0 (G2.nx + 1),((G2.push (rc0 t)).push (rc0 t)).put (G2.nx + 1) (rcX t (ClS.new t) 0)):=by
  unfold ClS.new
  simp [s121,← hG0,o0,en]
 obtain ⟨q,e3,rfl⟩:=w
 exact ⟨_,_,f121 (exL_ok Q orc) _ G _ e3,((z2.push _).push _).put (by have:=z2.nx; omega) _,by simp,by have:=z2.nx; omega,by simp⟩
end
abbrev rpB (t:TW) (c ln now:Int):GObj:=⟨[.int .i64 t.u9,.int .i64 t.u10,.int .i64 t.u11,.int .i64 c,.int .i64 ln,.int .i64 now,.int .i64 0],1,false,1⟩
abbrev rpX (t:TW) (c:Int) (p:PnS):GObj:=rpB t c p.line p.now
abbrev ruX (t:TW) (c ln:Int):GObj:=⟨[.int .i64 t.u9,.int .i64 t.u10,.int .i64 t.u11,.int .i64 c,.int .i64 ln,.int .i64 0],1,false,1⟩
section
variable {own own' own1 own2:Nat → Nat} {tag tg m r b lb q:Nat} {t:TW} {c:Int} {G G' G1 G2:GS} {s s' s1:MS} {p:PnS}
theorem rnone_ok (hc:0 ≤ c ∧ c < t.u11) (G:GS):(E orc).cl 197 [.agg ⟨epL t⟩,.int .i64 c] G = some (.bool false,G.push ⟨epL t,1,false,1⟩):=by
 refine f197 (exL_ok Q orc) _ _ G _ ?_
 have h1:¬ c < 0:=by omega
 have h2:¬ t.u11 ≤ c:=by omega
 simp [s197,h1,h2]
theorem rnewpin_ok (hc:0 ≤ c ∧ c < t.u11) (G:GS):∃ b G',(E orc).cl 158 [.agg ⟨epL t⟩,.int .i64 c] G = some (P0 b,G') ∧ Ext G G' ∧ (G.nx ≤ b ∧ b < G'.nx) ∧ G'.obj b = some (rpX t c .new):=by
 have e1:=rnone_ok orc hc (G.push ⟨epL t,1,false,1⟩)
 have hz:z301 = [.int .i64 0,.int .i64 0,.int .i64 0,.int .i64 0,.int .i64 0,.int .i64 0,.int .i64 0]:=rfl
 refine ⟨G.nx + 2,((G.push ⟨epL t,1,false,1⟩).push ⟨epL t,1,false,1⟩).push (rpX t c .new),f158 (exL_ok Q orc) _ _ G _ ?_,(((Ext.refl G).push _).push _).push _,⟨by omega,by simp⟩,by simp⟩
 simp [s158,hz,e1,splice_put,splice_end,splice_succ,PnS.new]
theorem rnewunpin_ok (hc:0 ≤ c ∧ c < t.u11) (G:GS):∃ b G',(E orc).cl 167 [.agg ⟨epL t⟩,.int .i64 c] G = some (P0 b,G') ∧ Ext G G' ∧ (G.nx ≤ b ∧ b < G'.nx) ∧ G'.obj b = some (ruX t c 1):=by
 have e1:=rnone_ok orc hc (G.push ⟨epL t,1,false,1⟩)
 have hz:z264 = [.int .i64 0,.int .i64 0,.int .i64 0,.int .i64 0,.int .i64 0,.int .i64 0]:=rfl
 refine ⟨G.nx + 2,((G.push ⟨epL t,1,false,1⟩).push ⟨epL t,1,false,1⟩).push (ruX t c 1),f167 (exL_ok Q orc) _ _ G _ ?_,(((Ext.refl G).push _).push _).push _,⟨by omega,by simp⟩,by simp⟩
 simp [s167,hz,e1,splice_put,splice_end,splice_succ]
theorem rread_ok {v:Int} (hv:U v) (G:GS):(E orc).cl 198 [.int .u64 v] G = some (.int .i64 (v % 4294967296),G):=by
 have h:=hv.1
 have em:v.tmod 4294967296 = v % 4294967296:=Int.tmod_eq_emod_of_nonneg h
 have e1:IntKind.wrap .u64 (v % 4294967296) = v % 4294967296:=by rw [wrap_u64]; omega
 have e2:IntKind.wrap .i64 (v % 4294967296) = v % 4294967296:=wrap64 (by omega) (by omega)
 exact f198 (exL_ok Q orc) _ G _ (by simp [s198,em,e1,e2])
abbrev One (q:Nat):Nat → Prop:=fun y=>y = q
theorem RW.extA (w:RW (One q) own G own1 G1 r s) (x:Ext G1 G2) (u:Nat):RW (One q) own G (grown own1 G1 u) G2 r s:=w.extT x u
theorem rpin_ok (h:RM own G r s) (hm:s.ok) (hp:p.ok) (hq:q < G.nx) (ht:own q ≠ 11) (ho:G.obj q = some (rpX t c p)) :
  ∃ own1 G1,(E orc).cl 160 [P0 q,P0 r] G = some (.bool (decide ((p.step t c s).1.line = 9)),G1) ∧ RW (One q) own G own1 G1 r (p.step t c s).2 ∧ G1.obj q = some (rpX t c (p.step t c s).1):=by
 rcases hp.line with e | e | e | e
 ·have hst:p.step t c s = (⟨2,(s.load t.u9).new % 4294967296⟩,s.load t.u9):=by unfold PnS.step; simp [e]
  rw [hst]
  simp only
  obtain ⟨own1,G1,e1,w1⟩:=h.load orc t.u9
  have hu:=(hm.load t.u9).2
  generalize s.load t.u9 = s' at *
  generalize s'.new = v at *
  have o1:=(w1.keep hq ht id).trans ho
  have e2:=rread_ok orc hu G1
  have t1:own1 q ≠ 11:=by rw [w1.stp.same hq]; exact ht
  refine ⟨own1,(G1.put q (rpB t c 1 (v % 4294967296))).put q (rpX t c ⟨2,v % 4294967296⟩),f160 (exL_ok Q orc) _ _ G _ ?_,((w1.any (B:=One q)).put (.inl rfl) (fun _=>t1) _).put (.inl rfl) (fun _=>t1) _,by simp⟩
  simp [s160,sb160,clip_t,ho,e,e1,e2,o1]
  simp [j160_0,jb160_0,clip_t]
 ·have hst:p.step t c s = (⟨3,p.now⟩,s.store (t.pin c) (p.now + 1)):=by unfold PnS.step; simp [e]
  rw [hst]
  simp only
  have x0:Ext G (G.room 18):=(Ext.refl G).room 18
  have w0:=(RW.refl (B:=One q) h).extA x0 13
  have ho0:(G.room 18).obj q = some (rpX t c p):=by simpa using ho
  have ht0:grown own G 13 q ≠ 11:=by rw [grown_agr q hq]; exact ht
  have hq0:q < (G.room 18).nx:=by simp; omega
  generalize grown own G 13 = own0 at *
  have hnow:=hp.now
  have hw:IntKind.wrap .u64 p.now = p.now:=by rw [wrap_u64]; omega
  have hw2:IntKind.wrap .u64 (p.now + 1) = p.now + 1:=by rw [wrap_u64]; omega
  obtain ⟨own1,G1,e1,w1⟩:=w0.rm.store orc (t.pin c) (p.now + 1)
  unfold TW.pin at e1
  generalize s.store (t.pin c) (p.now + 1) = s' at *
  have o1:=(w1.keep hq0 ht0 id).trans ho0
  have t1:own1 q ≠ 11:=by rw [w1.stp.same hq0]; exact ht0
  refine ⟨own1,G1.put q (rpX t c ⟨3,p.now⟩),f160 (exL_ok Q orc) _ _ G _ ?_,(w0.trans w1 fun _ _ k=>k.elim).put (.inl rfl) (fun _=>t1) _,by simp⟩
  simp [s160,sb160,clip_t,ho,e,hw,hw2,e1,o1]
  simp [j160_0,jb160_0,clip_t]
 ·have hst:p.step t c s = (if (s.load t.u9).new % 4294967296 = p.now then ⟨9,p.now⟩ else ⟨2,(s.load t.u9).new % 4294967296⟩,s.load t.u9):=by unfold PnS.step; simp [e]
  rw [hst]
  simp only
  obtain ⟨own1,G1,e1,w1⟩:=h.load orc t.u9
  have hu:=(hm.load t.u9).2
  generalize s.load t.u9 = s' at *
  generalize s'.new = v at *
  have o1:=(w1.keep hq ht id).trans ho
  have e2:=rread_ok orc hu G1
  have t1:own1 q ≠ 11:=by rw [w1.stp.same hq]; exact ht
  by_cases k:v % 4294967296 = p.now
  ·rw [if_pos k]
   refine ⟨own1,G1.put q (rpX t c ⟨9,p.now⟩),f160 (exL_ok Q orc) _ _ G _ ?_,(w1.any (B:=One q)).put (.inl rfl) (fun _=>t1) _,by simp⟩
   simp [s160,sb160,clip_t,ho,e,e1,e2,o1,k]
   simp [j160_0,jb160_0,clip_t]
  ·rw [if_neg k]
   refine ⟨own1,((G1.put q (rpX t c ⟨9,p.now⟩)).put q (rpB t c 9 (v % 4294967296))).put q (rpX t c ⟨2,v % 4294967296⟩),f160 (exL_ok Q orc) _ _ G _ ?_,(((w1.any (B:=One q)).put (.inl rfl) (fun _=>t1) _).put (.inl rfl) (fun _=>t1) _).put (.inl rfl) (fun _=>t1) _,by simp⟩
   simp [s160,sb160,clip_t,ho,e,e1,e2,o1,k]
   simp [j160_0,jb160_0,clip_t]
 ·have hst:p.step t c s = (p,s):=by unfold PnS.step; simp [e]
  rw [hst]
  refine ⟨own,G,f160 (exL_ok Q orc) _ _ G _ ?_,.refl h,ho⟩
  simp [s160,sb160,clip_t,ho,e]
  simp [j160_0,jb160_0,clip_t,ho,e]
theorem rpinAt_ok (ho:G.obj q = some (rpX t c p)) (hl:p.line = 9):(E orc).cl 161 [P0 q] G = some (.tuple #[.int .i64 p.now,.int .i64 0],G.room 10) :=
 f161 (exL_ok Q orc) _ G _ (by simp [s161,ho,hl])
theorem runpin_ok (h:RM own G r s) (hq:q < G.nx) (ht:own q ≠ 11) (ho:G.obj q = some (ruX t c 1)) :
  ∃ own1 G1,(E orc).cl 126 [P0 q,P0 r] G = some (.bool true,G1) ∧ RW (One q) own G own1 G1 r (unS t c s):=by
 have x0:Ext G (G.room 12):=(Ext.refl G).room 12
 have w0:=(RW.refl (B:=One q) h).extA x0 13
 have ho0:(G.room 12).obj q = some (ruX t c 1):=by simpa using ho
 have ht0:grown own G 13 q ≠ 11:=by rw [grown_agr q hq]; exact ht
 have hq0:q < (G.room 12).nx:=by simp; omega
 generalize grown own G 13 = own0 at *
 obtain ⟨own1,G1,e1,w1⟩:=w0.rm.store orc (t.pin c) 0
 unfold TW.pin at e1
 have o1:=(w1.keep hq0 ht0 id).trans ho0
 have t1:own1 q ≠ 11:=by rw [w1.stp.same hq0]; exact ht0
 refine ⟨own1,G1.put q (ruX t c 9),f126 (exL_ok Q orc) _ _ G _ ?_,(w0.trans w1 fun _ _ k=>k.elim).put (.inl rfl) (fun _=>t1) _⟩
 simp [s126,sb126,clip_t,ho,e1,o1]
 simp [j126_0,jb126_0,clip_t]
end
abbrev rlB (t:TW) (c ln:Int) (pp:Value) (P:Int) (up:Value) (by_ er:Int) (kp:Value):GObj:=⟨[.int .i64 t.nodes,.int .i64 t.heads,.int .i64 t.height,.int .i64 t.top,.int .i64 t.links,.int .i64 t.size,.int .i64 t.u6,.int .i64 t.u7,.int .i64 t.u8,.int .i64 t.u9,.int .i64 t.u10,.int .i64 t.u11,.int .i64 t.u12,.int .i64 c,.int .i64 ln,pp,.int .i64 P,up,.int .u64 by_,.int .i64 er,kp],1,false,1⟩
def LkR (own:Nat → Nat) (tag tg:Nat) (t:TW) (c:Int) (G:GS) (b:Nat) (x:LkS):Prop :=
 At own tag G b ∧ ∃ qp P up kb,G.obj b = some (rlB t c x.line (.pointer qp) P (.pointer up) x.by_ 0 (P0 kb)) ∧ RcO own tg t G kb x.peek ∧
  (x.line = 1 → ∃ q,qp = some ⟨q,0,none⟩ ∧ At own tg G q ∧ q ≠ kb ∧ G.obj q = some (rpX t c x.pin)) ∧ (x.line = 5 → ∃ q,up = some ⟨q,0,none⟩ ∧ At own tg G q ∧ q ≠ kb ∧ G.obj q = some (ruX t c 1))
section
variable {own own' own1 own2:Nat → Nat} {tag tg m r b lb q:Nat} {t:TW} {c:Int} {G G' G1 G2:GS} {s s' s1:MS} {x:LkS}
theorem LkR.to (h:LkR own tag tg t c G b x) (hn:G.nx ≤ G'.nx) (hk:∀ g,g < G.nx → own g = tag ∨ own g = tg → G'.obj g = G.obj g) (a:Agr own own' G):LkR own' tag tg t c G' b x:=by
 obtain ⟨hb,qp,P,up,kb,ho,hk1,h1,h5⟩:=h
 refine ⟨hb.to hn a,qp,P,up,kb,(hk _ hb.lt (.inl hb.tag)).trans ho,hk1.to hn (fun g hg e=>hk g hg (.inr e)) a,fun e=>?_,fun e=>?_⟩
 ·obtain ⟨q,e1,a1,n1,o1⟩:=h1 e
  exact ⟨q,e1,a1.to hn a,n1,(hk _ a1.lt (.inr a1.tag)).trans o1⟩
 ·obtain ⟨q,e1,a1,n1,o1⟩:=h5 e
  exact ⟨q,e1,a1.to hn a,n1,(hk _ a1.lt (.inr a1.tag)).trans o1⟩
theorem rlBy_ok (h:LkR own tag tg t c G b x):(E orc).cl 88 [P0 b] G = some (.int .u64 x.by_,G):=by
 obtain ⟨hb,qp,P,up,kb,ho,-⟩:=h
 exact f88 (exL_ok Q orc) _ G _ (by simp [s88,ho])
theorem rpins_ok {p:PnS} {P:Int} {up kp:Value} {by_:Int} (h:RM own G r s) (hm:s.ok) (hp:p.ok) (ht:tag ≠ 11) (hb:At own tag G b) (hq:At own tg G q) (h11:tg ≠ 11) (hne:tag ≠ tg) (ho:G.obj b = some (rlB t c 1 (P0 q) P up by_ 0 kp)) (hqo:G.obj q = some (rpX t c p)) :
  ∃ own1 G1 P1,(E orc).cl 122 [P0 b,P0 r] G = some (.bool (decide ((p.step t c s).1.line = 9)),G1) ∧ RW (fun y=>y = b ∨ y = q) own G own1 G1 r (p.step t c s).2 ∧ G1.obj q = some (rpX t c (p.step t c s).1) ∧ G1.obj b = some (rlB t c 1 (P0 q) P1 up by_ 0 kp):=by
 obtain ⟨own1,G1,e1,w1,o1⟩:=rpin_ok orc h hm hp hq.lt (by rw [hq.tag]; exact h11) hqo
 generalize (p.step t c s).2 = s' at *
 generalize (p.step t c s).1 = p' at *
 have hbq:b ≠ q:=fun k=>hne (by rw [← hb.tag,k,hq.tag])
 have ob:=(w1.keep hb.lt (by rw [hb.tag]; exact ht) hbq).trans ho
 have w1':RW (fun y=>y = b ∨ y = q) own G own1 G1 r s':=w1.mono fun _ _ h=>.inr h
 by_cases hl:p'.line = 9
 ·have e2:=rpinAt_ok orc o1 hl
  have x2:Ext G1 (G1.room 10):=(Ext.refl _).room 10
  have w2:=w1'.extT x2 13
  have hb1:=hb.to w1.nx w1.stp.agr
  refine ⟨_,(G1.room 10).put b (rlB t c 1 (P0 q) p'.now up by_ 0 kp),p'.now,f122 (exL_ok Q orc) _ _ G _ ?_,w2.put (.inl (.inl rfl)) (fun _=>by rw [grown_agr _ hb1.lt,hb1.tag]; exact ht) _,by rw [obj_put,if_neg hbq.symm]; simpa using o1,by simp⟩
  have ob2:(G1.room 10).obj b = some (rlB t c 1 (P0 q) P up by_ 0 kp):=by simpa using ob
  simp [s122,ho,e1,hl,ob,e2,ob2]
 ·refine ⟨own1,G1,P,f122 (exL_ok Q orc) _ _ G _ ?_,w1',o1,ob⟩
  simp [s122,ho,e1,hl]
theorem rleaves_ok {qp kp:Value} {P by_ ln ln':Int} {up:Option Addr} (hc:0 ≤ c ∧ c < t.u11) (h:RM own G r s) (ht:tag ≠ 11) (hb:At own tag G b) (ho:G.obj b = some (rlB t c ln qp P (.pointer up) by_ 0 kp)) :
  ∃ q G1,(E orc).cl 125 [P0 b,.int .i64 ln'] G = some (.tuple #[],G1) ∧ RW (One b) own G (grown own G tg) G1 r s ∧ At (grown own G tg) tg G1 q ∧ G.nx ≤ q ∧ G1.obj q = some (ruX t c 1) ∧ G1.obj b = some (rlB t c ln' qp P (P0 q) by_ 0 kp):=by
 obtain ⟨G0,hG0⟩:∃ G0,G0 = (G.put b (rlB t c ln' qp P (.pointer up) by_ 0 kp)).room 15:=⟨_,rfl⟩
 have o0:G0.obj b = some (rlB t c ln' qp P (.pointer up) by_ 0 kp):=by rw [hG0]; simp
 have n0:G0.nx = G.nx + 15:=by rw [hG0]; simp
 have w0:RW (One b) own G own (G.put b (rlB t c ln' qp P (.pointer up) by_ 0 kp)) r s:=(RW.refl (B:=One b) h).put (.inl rfl) (fun _=>by rw [hb.tag]; exact ht) _
 have x0:Ext (G.put b (rlB t c ln' qp P (.pointer up) by_ 0 kp)) G0:=by rw [hG0]; exact (Ext.refl _).room 15
 obtain ⟨q,G1,e1,x1,q1,o1⟩:=rnewunpin_ok orc hc G0
 have w1:=w0.extT (x0.trans x1) tg
 have ob:=(x1.obj b (by have:=hb.lt; omega)).trans o0
 have hqb:q ≠ b:=by have:=hb.lt; have:=q1.1; omega
 refine ⟨q,G1.put b (rlB t c ln' qp P (P0 q) by_ 0 kp),f125 (exL_ok Q orc) _ _ G _ ?_,RW.put (G1:=G1) w1 (.inl rfl) (fun _=>by rw [show grown own (G.put b (rlB t c ln' qp P (.pointer up) by_ 0 kp)) tg b = own b from grown_agr b hb.lt,hb.tag]; exact ht) _,⟨q1.2,grown_new (by omega)⟩,by omega,by rw [obj_put,if_neg hqb]; exact o1,by simp⟩
 simp [s125,ho,← hG0,o0,e1,ob]
theorem rlstep_ok (hs:t.sound) (hlo:t.lok) (hc:0 ≤ c ∧ c < t.u11) (h:RM own G r s) (hm:s.ok) (hx:x.ok t) (ht:tag ≠ 11) (h11:tg ≠ 11) (hne:tag ≠ tg) (hl:LkR own tag tg t c G b x) :
  ∃ own1 G1,(E orc).cl 87 [P0 b,P0 r] G = some (.bool (decide ((x.step t c s).1.line = 9)),G1) ∧ RW (Ow2 own tag tg) own G own1 G1 r (x.step t c s).2 ∧ LkR own1 tag tg t c G1 b (x.step t c s).1:=by
 obtain ⟨hb,qp,P,up,kb,ho,hk,h1,h5⟩:=hl
 have hkb:=hk.1
 have hbk:b ≠ kb:=fun k=>hne (by rw [← hb.tag,k,hkb.tag])
 obtain ⟨G0,hG0⟩:∃ G0,G0 = G.put b (rlB t c x.line (.pointer qp) P (.pointer up) 0 0 (P0 kb)):=⟨_,rfl⟩
 have w0:RW (Ow2 own tag tg) own G own G0 r s:=by rw [hG0]; exact (RW.refl h).put (.inl (.inl hb.tag)) (fun _=>by rw [hb.tag]; exact ht) _
 have o0:G0.obj b = some (rlB t c x.line (.pointer qp) P (.pointer up) 0 0 (P0 kb)):=by rw [hG0]; simp
 have k0:∀ g,g ≠ b → G0.obj g = G.obj g:=fun g hg=>by rw [hG0,obj_put,if_neg hg]
 have a0:∀ {u g},At own u G g → At own u G0 g:=fun a=>by rw [hG0]; exact a.putO _ _
 have hk0:RcO own tg t G0 kb x.peek:=hk.to (by rw [hG0]; exact Nat.le_refl _) (fun g _ e=>k0 g fun k=>hne (by rw [← hb.tag,← k,e])) (Agr.refl _ _)
 rcases hx.line with e | e | e | e
 ·obtain ⟨q,rfl,aq,nq,oq⟩:=h1 e
  have oq0:=(k0 q (fun k=>hne (by rw [← hb.tag,← k,aq.tag]))).trans oq
  rw [e] at o0
  obtain ⟨own1,G1,P1,e1,w1,o1,ob1⟩:=rpins_ok orc w0.rm hm hx.pin ht (a0 hb) (a0 aq) h11 hne o0 oq0
  have hst:x.step t c s = ({ x with by_:=0,pin:=(x.pin.step t c s).1,line:=if (x.pin.step t c s).1.line = 9 then 4 else 1 },(x.pin.step t c s).2):=by unfold LkS.step; rw [if_pos e]
  rw [hst]
  simp only
  generalize (x.pin.step t c s).2 = s' at *
  generalize (x.pin.step t c s).1 = p' at *
  have w01:RW (Ow2 own tag tg) own G own1 G1 r s':=w0.trans w1 fun y _ k=>k.elim (fun k=>.inl (by rw [k]; exact hb.tag)) fun k=>.inr (by rw [k]; exact aq.tag)
  have a1:∀ {u g},At own u G g → At own1 u G1 g:=fun a=>(a0 a).to w1.nx w1.stp.agr
  have kk:G1.obj kb = G0.obj kb:=w1.keep (a0 hkb).lt (by rw [hkb.tag]; exact h11) (fun k=>k.elim (fun k=>hbk k.symm) fun k=>nq k.symm)
  have hk1:RcO own1 tg t G1 kb x.peek:=by
   obtain ⟨-,I,oI,hI⟩:=hk0
   exact ⟨a1 hkb,I,kk.trans oI,hI⟩
  by_cases hl:p'.line = 9
  ·simp only [hl,decide_true,if_true] at e1 ⊢
   have hqb:q ≠ b:=fun k=>hne (by rw [← hb.tag,← k,aq.tag])
   have hk2:RcO own1 tg t (G1.put b (rlB t c 4 (P0 q) P1 (.pointer up) 0 0 (P0 kb))) kb x.peek:=hk1.to (Nat.le_refl _) (fun g _ eg=>by rw [obj_put,if_neg]; intro k; exact hne (by rw [← (a1 hb).tag,← k,eg])) (Agr.refl _ _)
   refine ⟨own1,G1.put b (rlB t c 4 (P0 q) P1 (.pointer up) 0 0 (P0 kb)),f87 (exL_ok Q orc) _ _ G _ ?_,w01.put (.inl (.inl hb.tag)) (fun _=>by rw [(a1 hb).tag]; exact ht) _,(a1 hb).putO _ _,some ⟨q,0,none⟩,P1,up,kb,by simp,hk2,by simp,by simp⟩
   rw [e] at hG0 ho
   simp [s87,sb87,clip_t,ho,e,← hG0,o0,e1,ob1]
   simp [j87_0,jb87_0,clip_t]
  ·simp only [hl,decide_false,if_false] at e1 ⊢
   refine ⟨own1,G1,f87 (exL_ok Q orc) _ _ G _ ?_,w01,a1 hb,some ⟨q,0,none⟩,P1,up,kb,ob1,hk1,fun _=>⟨q,rfl,a1 aq,nq,o1⟩,by simp⟩
   rw [e] at hG0 ho
   simp [s87,sb87,clip_t,ho,e,← hG0,o0,e1]
   simp [j87_0,jb87_0,clip_t,ob1]
 ·rw [e] at o0
  obtain ⟨own1,G1,e1,w1,k1⟩:=rcstep_ok orc hs w0.rm hm hx.peek h11 hk0
  have hst:x.step t c s = ({ x with peek:=(x.peek.step true t s).1,by_:=(x.peek.step true t s).1.by_,line:=if (x.peek.step true t s).1.line = 99 then 5 else 4 },(x.peek.step true t s).2):=by unfold LkS.step; rw [if_neg (by omega),if_pos e]
  rw [hst]
  simp only
  generalize (x.peek.step true t s).2 = s' at *
  generalize (x.peek.step true t s).1 = y' at *
  have w01:RW (Ow2 own tag tg) own G own1 G1 r s':=w0.trans w1 fun y _ k=>.inr k
  have a1:∀ {u g},At own u G g → At own1 u G1 g:=fun a=>(a0 a).to w1.nx w1.stp.agr
  have ob1:=(w1.keep (a0 hb).lt (by rw [hb.tag]; exact ht) (fun k=>hne ((a0 hb).tag.symm.trans k))).trans o0
  have e2:=rcBy_ok orc k1
  obtain ⟨G2,hG2⟩:∃ G2,G2 = G1.put b (rlB t c 4 (.pointer qp) P (.pointer up) y'.by_ 0 (P0 kb)):=⟨_,rfl⟩
  have w2:RW (Ow2 own tag tg) own G own1 G2 r s':=by rw [hG2]; exact w01.put (.inl (.inl hb.tag)) (fun _=>by rw [(a1 hb).tag]; exact ht) _
  have o2:G2.obj b = some (rlB t c 4 (.pointer qp) P (.pointer up) y'.by_ 0 (P0 kb)):=by rw [hG2]; simp
  have a2:∀ {u g},At own u G g → At own1 u G2 g:=fun a=>by rw [hG2]; exact (a1 a).putO _ _
  have k2:RcO own1 tg t G2 kb y':=k1.to (by rw [hG2]; exact Nat.le_refl _) (fun g _ eg=>by rw [hG2,obj_put,if_neg]; intro k; exact hne (by rw [← (a1 hb).tag,← k,eg])) (Agr.refl _ _)
  rw [e] at hG0 ho
  by_cases hl:y'.line = 99
  ·simp only [hl,decide_true,if_true] at e1 ⊢
   obtain ⟨q,G3,e3,w3,aq,nq,oq,ob3⟩:=rleaves_ok orc (tg:=tg) (ln':=5) hc w2.rm ht (a2 hb) o2
   have hag:Agr own1 (grown own1 G2 tg) G2:=grown_agr
   have k3:RcO (grown own1 G2 tg) tg t G3 kb y':=k2.to w3.nx (fun g hg eg=>w3.keep hg (by rw [eg]; exact h11) fun k=>hne (by rw [← (a2 hb).tag,← k,eg])) hag
   refine ⟨grown own1 G2 tg,G3,f87 (exL_ok Q orc) _ _ G _ ?_,w2.trans w3 (fun y hy k=>.inl (by rw [k]; exact hb.tag)),(a2 hb).to w3.nx hag,qp,P,some ⟨q,0,none⟩,kb,ob3,k3,by simp,fun _=>⟨q,rfl,aq,by have:=(a2 hkb).lt; omega,oq⟩⟩
   simp [s87,sb87,clip_t,ho,e,← hG0,o0,e1,ob1,e2,← hG2,e3]
   simp [j87_0,jb87_0,clip_t,ob3]
  ·simp only [hl,decide_false,if_false] at e1 ⊢
   refine ⟨own1,G2,f87 (exL_ok Q orc) _ _ G _ ?_,w2,a2 hb,qp,P,up,kb,o2,k2,by simp,by simp⟩
   simp [s87,sb87,clip_t,ho,e,← hG0,o0,e1,ob1,e2,← hG2]
   simp [j87_0,jb87_0,clip_t,o2]
 ·obtain ⟨q,rfl,aq,nq,oq⟩:=h5 e
  rw [e] at o0
  have oq0:=(k0 q (fun k=>hne (by rw [← hb.tag,← k,aq.tag]))).trans oq
  obtain ⟨own1,G1,e1,w1⟩:=runpin_ok orc w0.rm (a0 aq).lt (by rw [aq.tag]; exact h11) oq0
  have hst:x.step t c s = ({ x with by_:=0,line:=9 },unS t c s):=by unfold LkS.step; rw [if_neg (by omega),if_neg (by omega),if_pos e]
  rw [hst]
  simp only
  have w01:RW (Ow2 own tag tg) own G own1 G1 r (unS t c s):=w0.trans w1 fun y _ k=>.inr (by rw [show y = q from k]; exact aq.tag)
  have a1:∀ {u g},At own u G g → At own1 u G1 g:=fun a=>(a0 a).to w1.nx w1.stp.agr
  have ob1:=(w1.keep (a0 hb).lt (by rw [hb.tag]; exact ht) (fun k=>hne (by rw [← hb.tag,show b = q from k,aq.tag]))).trans o0
  have kk:G1.obj kb = G0.obj kb:=w1.keep (a0 hkb).lt (by rw [hkb.tag]; exact h11) (fun k=>nq (show kb = q from k).symm)
  have hk1:RcO own1 tg t G1 kb x.peek:=by
   obtain ⟨-,I,oI,hI⟩:=hk0
   exact ⟨a1 hkb,I,kk.trans oI,hI⟩
  rw [e] at hG0 ho
  have hk2:RcO own1 tg t (G1.put b (rlB t c 9 (.pointer qp) P (P0 q) 0 0 (P0 kb))) kb x.peek:=hk1.to (Nat.le_refl _) (fun g _ eg=>by rw [obj_put,if_neg]; intro k; exact hne (by rw [← (a1 hb).tag,← k,eg])) (Agr.refl _ _)
  refine ⟨own1,G1.put b (rlB t c 9 (.pointer qp) P (P0 q) 0 0 (P0 kb)),f87 (exL_ok Q orc) _ _ G _ ?_,w01.put (.inl (.inl hb.tag)) (fun _=>by rw [(a1 hb).tag]; exact ht) _,(a1 hb).putO _ _,qp,P,some ⟨q,0,none⟩,kb,by simp,hk2,by simp,by simp⟩
  simp [s87,sb87,clip_t,ho,e,← hG0,o0,e1,ob1]
  simp [j87_0,jb87_0,clip_t]
 ·rw [e] at o0 hG0 ho
  have hst:x.step t c s = ({ x with by_:=0 },s):=by unfold LkS.step; rw [if_neg (by omega),if_neg (by omega),if_neg (by omega)]
  rw [hst]
  refine ⟨own,G0,f87 (exL_ok Q orc) _ _ G _ ?_,w0,a0 hb,qp,P,up,kb,by simp only [e]; exact o0,hk0,by simp [e],by simp [e]⟩
  simp [s87,sb87,clip_t,ho,e,← hG0,o0]
  simp [j87_0,jb87_0,clip_t,o0]
end
section
variable {own own' own1 own2:Nat → Nat} {tag tg m r b lb q:Nat} {t:TW} {c:Int} {G G' G1 G2:GS} {s s' s1:MS} {x:LkS}
theorem refused_ok (hs:t.sound) (c:Int) (G:GS):∃ G',(E orc).cl 84 [t.v,.int .i64 c] G = some (.int .i64 (if c < 0 ∨ t.u11 ≤ c then 3 else 0),G') ∧ Ext G G':=by
 obtain ⟨G1,hG1⟩:∃ G1,G1 = G.push ⟨t.cells,1,false,1⟩:=⟨_,rfl⟩
 have x1:Ext G G1:=by rw [hG1]; exact (Ext.refl G).push _
 have n1:G1.nx = G.nx + 1:=by rw [hG1]; rfl
 have o1:G1.obj G.nx = some ⟨t.cells,1,false,1⟩:=by rw [hG1]; simp
 obtain ⟨G2,e2,x2⟩:=rsound_ok orc t G1
 simp only [hs,decide_true] at e2
 have o2:=(x2.obj G.nx (by omega)).trans o1
 refine ⟨G2,f84 (exL_ok Q orc) _ _ G _ ?_,x1.trans x2⟩
 by_cases c1:c < 0
 ·simp [s84,← hG1,o1,e2,c1]
 ·by_cases c2:t.u11 ≤ c
  ·simp [s84,← hG1,o1,e2,o2,c1,c2]
  ·simp [s84,← hG1,o1,e2,o2,c1,c2]
abbrev coV (t:TW) (c:Int) (q:Nat):List Value:=[.int .i64 t.nodes,.int .i64 t.heads,.int .i64 t.height,.int .i64 t.top,.int .i64 t.links,.int .i64 t.size,.int .i64 t.u6,.int .i64 t.u7,.int .i64 t.u8,.int .i64 t.u9,.int .i64 t.u10,.int .i64 t.u11,.int .i64 t.u12,.int .i64 c,.int .i64 1,P0 q,.int .i64 0,.pointer none,.int .u64 0,.int .i64 0]
theorem rbegun_ok (hc:0 ≤ c ∧ c < t.u11) (G:GS):∃ q G',(E orc).cl 120 [t.v,.int .i64 c,.int .i64 0] G = some (.agg ⟨coV t c q⟩,G') ∧ Ext G G' ∧ (G.nx ≤ q ∧ q < G'.nx) ∧ G'.obj q = some (rpX t c .new):=by
 have hz:z149 = [.int .i64 0,.int .i64 0,.int .i64 0,.int .i64 0,.int .i64 0,.int .i64 0,.int .i64 0,.int .i64 0,.int .i64 0,.int .i64 0,.int .i64 0,.int .i64 0,.int .i64 0,.int .i64 0,.int .i64 0,.pointer none,.int .i64 0,.pointer none,.int .u64 0,.int .i64 0]:=rfl
 obtain ⟨G1,hG1⟩:∃ G1,G1 = ((G.push ⟨t.cells,1,false,1⟩).push ⟨z149,1,false,1⟩).room 9:=⟨_,rfl⟩
 have x1:Ext G G1:=by rw [hG1]; exact (((Ext.refl G).push _).push _).room 9
 have n1:G1.nx = G.nx + 11:=by rw [hG1]; simp
 have o1:G1.obj G.nx = some ⟨t.cells,1,false,1⟩:=by rw [hG1]; simp
 have p1:G1.obj (G.nx + 1) = some ⟨z149,1,false,1⟩:=by rw [hG1]; simp
 obtain ⟨q,G2,e2,x2,q2,oq⟩:=rnewpin_ok orc hc G1
 have o2:=(x2.obj G.nx (by omega)).trans o1
 have p2:=(x2.obj (G.nx + 1) (by omega)).trans p1
 have hq1:q ≠ G.nx + 1:=by omega
 refine ⟨q,G2.put (G.nx + 1) ⟨coV t c q,1,false,1⟩,f120 (exL_ok Q orc) _ _ _ G _ ?_,(x1.trans x2).put (by omega) _,⟨by omega,q2.2⟩,by rw [obj_put,if_neg hq1]; exact oq⟩
 simp [s120,← hG1,o1,e2,o2,p2,hz,sameO,same,sameD,sameD.listD,splice_put,splice_end,splice_succ]
theorem rnewlook_ok (hs:t.sound) (hc:0 ≤ c ∧ c < t.u11) (G:GS):∃ b G',(E orc).cl 85 [t.v,.int .i64 c] G = some (P0 b,G') ∧ Ext G G' ∧ (G.nx ≤ b ∧ b < G'.nx) ∧
  ∀ own tag tg,own b = tag → (∀ g,G.nx ≤ g → g < G'.nx → g ≠ b → own g = tg) → LkR own tag tg t c G' b (.new t):=by
 obtain ⟨G1,hG1⟩:∃ G1,G1 = G.push ⟨t.cells,1,false,1⟩:=⟨_,rfl⟩
 have x1:Ext G G1:=by rw [hG1]; exact (Ext.refl G).push _
 have n1:G1.nx = G.nx + 1:=by rw [hG1]; rfl
 have o1:G1.obj G.nx = some ⟨t.cells,1,false,1⟩:=by rw [hG1]; simp
 obtain ⟨G2,e2,x2⟩:=refused_ok orc hs c (G1.room 11)
 rw [if_neg (by omega)] at e2
 have y2:Ext G1 G2:=((Ext.refl G1).room 11).trans x2
 have n2:=x2.nx
 simp at n2
 obtain ⟨q,G3,e3,x3,q3,oq⟩:=rbegun_ok orc hc G2
 obtain ⟨kb,G4,e4,x4,ok,k1,k2⟩:=rpnew_ok orc hs G3
 have n3:=x3.nx
 have n4:=x4.nx
 have o1r:(G1.room 11).obj G.nx = some ⟨t.cells,1,false,1⟩:=by simpa using o1
 have o2:=(y2.obj G.nx (by omega)).trans o1
 have o3:=(x3.obj G.nx (by omega)).trans o2
 obtain ⟨b,hb⟩:∃ b,b = G1.nx + 9:=⟨_,rfl⟩
 obtain ⟨G5,hG5⟩:∃ G5,G5 = ((G4.at' b).push (rlB t c 1 (P0 q) 0 (.pointer none) 0 0 (P0 kb))).back G4:=⟨_,rfl⟩
 have y4:=(y2.trans x3).trans x4
 have x5:Ext G1 G5:=by rw [hG5]; exact Ext.drawnO y4 (by omega) _
 have n5:G5.nx = G4.nx:=by rw [hG5]; simp
 have k5:∀ g,g ≠ b → G5.obj g = G4.obj g:=fun g hg=>by rw [hG5]; simp [hg]
 have ob:G5.obj b = some (rlB t c 1 (P0 q) 0 (.pointer none) 0 0 (P0 kb)):=by rw [hG5]; simp
 have hz:z152 = [.int .i64 0,.int .i64 0,.int .i64 0,.int .i64 0,.int .i64 0,.int .i64 0,.int .i64 0,.int .i64 0,.int .i64 0,.int .i64 0,.int .i64 0,.int .i64 0,.int .i64 0,.int .i64 0,.int .i64 0,.pointer none,.int .i64 0,.pointer none,.int .u64 0,.int .i64 0,.pointer none]:=rfl
 refine ⟨b,G5,f85 (exL_ok Q orc) _ _ G _ ?_,x1.trans x5,⟨by omega,by omega⟩,fun own tag tg h1 h2=>?_⟩
 ·simp [s85,← hG1,o1,o1r,e2,o2,sameO,same,sameD,sameD.listD,e3,o3,e4,hz,splice_put,splice_end,splice_succ,← hb,← hG5]
 ·have hqb:q ≠ b:=by omega
  have hkb:kb ≠ b:=by omega
  have hqk:q ≠ kb:=by omega
  refine ⟨⟨by omega,h1⟩,some ⟨q,0,none⟩,0,none,kb,by simpa [LkS.new] using ob,⟨⟨by omega,h2 kb (by omega) (by omega) hkb⟩,0,(k5 kb hkb).trans ok,fun k=>absurd rfl k⟩,fun _=>⟨q,rfl,⟨by omega,h2 q (by omega) (by omega) hqb⟩,hqk,((k5 q hqb).trans (x4.obj q q3.2)).trans oq⟩,by simp [LkS.new]⟩
theorem rlItem_ok (h:LkR own tag tg t c G b x) (h9:x.line = 9):∃ G',(E orc).cl 127 [P0 b] G = some (.tuple #[itemV x.peek.ik x.peek.ij,.int .i64 x.peek.ie],G') ∧ Ext G G':=by
 obtain ⟨hb,qp,P,up,kb,ho,hk,h1,h5⟩:=h
 have hz:z120 = [.int .u64 0,.int .i64 0]:=rfl
 obtain ⟨G1,hG1⟩:∃ G1,G1 = G.push ⟨z120,1,false,1⟩:=⟨_,rfl⟩
 have x1:Ext G G1:=by rw [hG1]; exact (Ext.refl G).push _
 have n1:G1.nx = G.nx + 1:=by rw [hG1]; rfl
 have p1:G1.obj G.nx = some ⟨z120,1,false,1⟩:=by rw [hG1]; simp
 have o1:=(x1.obj b hb.lt).trans ho
 have hk1:RcO own tg t G1 kb x.peek:=hk.to x1.nx (fun g hg _=>x1.obj g hg) (Agr.refl _ _)
 obtain ⟨G2,e2,x2⟩:=rcItem_ok orc hk1
 have p2:=(x2.obj G.nx (by omega)).trans p1
 have w:Wp (s127 true (exL Q orc) (P0 b) G) fun r=>r.1 = .tuple #[itemV x.peek.ik x.peek.ij,.int .i64 x.peek.ie] ∧ Ext G r.2:=by
  unfold itemV at *
  simp [s127,← hG1,o1,h9,e2,p2,hz,splice_put,splice_end]
  exact (x1.trans x2).put (Nat.le_refl _) _
 obtain ⟨⟨v,G'⟩,e1,rfl,e3⟩:=w
 exact ⟨G',f127 (exL_ok Q orc) _ G _ e1,e3⟩
end
end Go.Proofs.YtedmgpchggogpaaGreat.Lift
