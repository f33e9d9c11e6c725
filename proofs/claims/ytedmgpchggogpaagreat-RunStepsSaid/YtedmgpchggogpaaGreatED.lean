import Derived.Test.YtedmgpchggogpaaGreatEC
set_option linter.unusedVariables false
set_option linter.unusedSimpArgs false
set_option maxRecDepth 20000
namespace Go.Proofs.YtedmgpchggogpaaGreat.Lift
open Go Go.Proofs.YtedmgpchggogpaaGreat.Gh Go.Proofs
variable (orc:FuncId → Bool)
structure ClS where
 line:Int
 a:Int
 w:Int
 i:Int
 key:Int
 job:Int
 by_:Int
 err:Int
def ClS.l1 (t:TW) (x:ClS) (s:MS):ClS × MS :=
 let s':=s.load (nextI t (-1) 0)
 (if s'.new % 65536 - 1 < 0 ∨ t.size ≤ s'.new % 65536 - 1 then { x with by_:=0,a:=s'.new,i:=s'.new % 65536 - 1,line:=99,err:=15 } else { x with by_:=0,a:=s'.new,i:=s'.new % 65536 - 1,line:=2 },s')
def ClS.l2 (look:Bool) (t:TW) (x:ClS) (s:MS):ClS × MS :=
 let s':=s.load (atI t x.i 4)
 ({ x with by_:=x.a,w:=s'.new,line:=if mkB ≤ s'.new then 3 else 9 },s')
def ClS.l3 (t:TW) (x:ClS) (s:MS):ClS × MS:=({ x with by_:=0,line:=1 },s.cas (nextI t (-1) 0) x.a (x.w - mkB))
def ClS.l9 (t:TW) (x:ClS) (s:MS):ClS × MS :=
 let s':=s.load (atI t x.i 0)
 ({ x with by_:=x.a,key:=s'.new,line:=91 },s')
def ClS.l91 (look:Bool) (t:TW) (x:ClS) (s:MS):ClS × MS :=
 let s':=s.load (atI t x.i 1)
 ({ x with by_:=x.a,job:=s'.new % 65536,line:=99 },s')
def ClS.step (look:Bool) (t:TW) (x:ClS) (s:MS):ClS × MS :=
 if x.line = 1 then x.l1 t s else if x.line = 2 then x.l2 look t s else if x.line = 3 then x.l3 t s else if x.line = 9 then x.l9 t s else if x.line = 91 then x.l91 look t s else (x,s)
def lineOk (look:Bool) (l:Int):Prop:=l = 1 ∨ l = 2 ∨ l = 3 ∨ l = 9 ∨ l = 91 ∨ l = 99 ∨ (look = false ∧ l = 4)
structure ClS.ok (look:Bool) (t:TW) (x:ClS):Prop where
 line:lineOk look x.line
 a:U x.a
 w:U x.w
 idx:x.line ≠ 1 → x.line ≠ 99 → 0 ≤ x.i ∧ x.i < t.size
 key:U x.key
 by_:U x.by_
 m3:x.line = 3 → mkB ≤ x.w
def ClS.new (t:TW):ClS:=⟨1,0,0,0,0,0,0,0⟩
def itemV (k j:Int):Value:=.agg ⟨[.int .u64 k,.int .i64 j]⟩
def ClS.ik (x:ClS):Int:=if x.line ≠ 99 then 0 else if x.err ≠ 0 then 0 else x.key
def ClS.ij (x:ClS):Int:=if x.line ≠ 99 then 0 else if x.err ≠ 0 then 0 else x.job
def ClS.ie (x:ClS):Int:=if x.line ≠ 99 then 14 else x.err
section
variable {look:Bool} {t:TW} {x:ClS} {s:MS}
theorem ClS.new_ok (hs:t.sound):(ClS.new t).ok look t:=⟨by simp [lineOk,ClS.new],U_zero',U_zero',by simp [ClS.new],U_zero',U_zero',by simp [ClS.new]⟩
theorem ClS.ok.step (hs:t.sound) (hl:t.lok) (h:x.ok true t) (hm:s.ok):(x.step true t s).1.ok true t ∧ (x.step true t s).2.ok:=by
 obtain ⟨c1,c2,c3,c4,c6,c7,c8⟩:=h
 rcases c1 with e | e | e | e | e | e | ⟨k,-⟩
 all_goals try (unfold ClS.step; simp only [e])
 ·have hn:=(hm.load (nextI t (-1) 0)).2
  simp [ClS.l1]
  refine ⟨?_,(hm.load _).1⟩
  split
  ·exact ⟨by simp [lineOk],hn,c3,by simp,c6,U_zero',by simp⟩
  ·exact ⟨by simp [lineOk],hn,c3,fun _ _=>by simp only; omega,c6,U_zero',by simp⟩
 ·have hn:=(hm.load (atI t x.i 4)).2
  have hi:=c4 (by omega) (by omega)
  simp [ClS.l2]
  refine ⟨?_,(hm.load _).1⟩
  by_cases hk:mkB ≤ (s.load (atI t x.i 4)).new
  ·simp only [hk,if_true]
   exact ⟨by simp [lineOk],c2,hn,fun _ _=>hi,c6,c2,fun _=>hk⟩
  ·simp only [hk,if_false]
   exact ⟨by simp [lineOk],c2,hn,fun _ _=>hi,c6,c2,by simp⟩
 ·simp [ClS.l3]
  exact ⟨⟨by simp [lineOk],c2,c3,by simp,c6,U_zero',by simp⟩,hm.cas _ _ (U_sub c3 (c8 e))⟩
 ·have hn:=(hm.load (atI t x.i 0)).2
  have hi:=c4 (by omega) (by omega)
  simp [ClS.l9]
  exact ⟨⟨by simp [lineOk],c2,c3,fun _ _=>hi,hn,c2,by simp⟩,(hm.load _).1⟩
 ·simp [ClS.l91]
  exact ⟨⟨by simp [lineOk],c2,c3,by simp,c6,c2,by simp⟩,(hm.load _).1⟩
 ·simp
  exact ⟨⟨by simp [lineOk,e],c2,c3,by simp [e],c6,c7,c8⟩,hm⟩
 ·exact absurd k (by decide)
end
abbrev pkB (t:TW) (ln a i w k j by_ er:Int):GObj:=⟨[.int .i64 t.nodes,.int .i64 t.heads,.int .i64 t.height,.int .i64 t.top,.int .i64 t.links,.int .i64 t.size,.int .i64 t.u6,.int .i64 t.u7,.int .i64 t.u8,.int .i64 t.u9,.int .i64 t.u10,.int .i64 t.u11,.int .i64 t.u12,.int .i64 ln,.int .u64 a,.int .i64 i,.int .u64 w,.int .u64 k,.int .i64 j,.int .u64 by_,.bool true,.int .i64 er],1,false,1⟩
def pkl (l:Int):Int:=if l = 9 then 4 else if l = 91 then 5 else l
abbrev pkX (t:TW) (x:ClS):GObj:=pkB t (pkl x.line) x.a x.i x.w x.key x.job x.by_ x.err
section
variable {own own':Nat → Nat} {tag m r b:Nat} {t:TW} {G G':GS} {s:MS} {ln a i w k j by_ er:Int} {x:ClS}
theorem pload_ok (h:PM own G m s) (ht:tag ≠ 10) (hb:At own tag G b) (ho:G.obj b = some (pkB t ln a i w k j by_ er)) (part:Int) :
  ∃ own1 G1,(E orc).cl 321 [P0 b,P0 m,.int .i64 part] G = some (.int .u64 (s.load (atI t i part)).new,G1) ∧ PW (Own own tag) own G own1 G1 m (s.load (atI t i part)) ∧ At own1 tag G1 b ∧ G1.obj b = some (pkB t ln a i w k j a er):=by
 obtain ⟨G1,hG1⟩:∃ G1,G1 = G.put b (pkB t ln a i w k j a er):=⟨_,rfl⟩
 have w1:PW (Own own tag) own G own G1 m s:=by rw [hG1]; exact (PW.refl h).putT hb.tag ht _
 have hb1:At own tag G1 b:=by rw [hG1]; exact hb.putO _ _
 have o1:G1.obj b = some (pkB t ln a i w k j a er):=by rw [hG1]; simp
 obtain ⟨G2,e2,x2⟩:=tat_ok orc t i part (G1.room 13)
 have y2:=((Ext.refl G1).room 13).trans x2
 have w2:=w1.extT y2 tag
 have hb2:=hb1.extO y2 tag
 have o2:=(y2.obj b hb1.lt).trans o1
 generalize grown own G1 tag = own2 at *
 obtain ⟨own3,G3,e3,w3⟩:=w2.pm.load orc (atI t i part)
 have o3:=(hb2.keep ht w3).trans o2
 refine ⟨own3,G3,f321 (exL_ok Q orc) _ _ _ G _ ?_,w2.tr w3.any,hb2.to w3.nx w3.stp.agr,o3⟩
 simp [s321,ho,← hG1,o1,e2,e3]
theorem pjob_ok (h:PM own G m s) (hs:s.ok) (ht:tag ≠ 10) (hb:At own tag G b) (ho:G.obj b = some (pkB t ln a i w k j by_ er)) :
  ∃ own1 G1,(E orc).cl 322 [P0 b,P0 m] G = some (.tuple #[],G1) ∧ PW (Own own tag) own G own1 G1 m (s.load (atI t i 1)) ∧ At own1 tag G1 b ∧ G1.obj b = some (pkB t ln a i w k ((s.load (atI t i 1)).new % 65536) a er):=by
 obtain ⟨own1,G1,e1,w1,hb1,o1⟩:=pload_ok orc h ht hb ho 1
 have hu:=(hs.load (atI t i 1)).2
 generalize s.load (atI t i 1) = s' at *
 generalize s'.new = v at *
 have h1:=hu.1
 have e2:=and_low hu
 have e3:IntKind.wrap .i64 (v % 65536) = v % 65536:=wrap64 (by omega) (by omega)
 refine ⟨own1,G1.put b (pkB t ln a i w k (v % 65536) a er),f322 (exL_ok Q orc) _ _ G _ ?_,w1.putT hb1.tag ht _,hb1.putO _ _,by simp⟩
 simp [s322,e1,e2,e3,o1]
theorem pfirst_ok (hto:orc 236 = false) (hs:t.sound) (h:PM own G m s) (hm:s.ok) (hw:U x.w) (h3:x.line = 3 → mkB ≤ x.w) (ht:tag ≠ 10) (hb:At own tag G b) (ho:G.obj b = some (pkX t x)) (hl:x.line = 1 ∨ x.line = 2 ∨ x.line = 3) :
  ∃ own1 G1,(E orc).cl 320 [P0 b,P0 m] G = some (.tuple #[],G1) ∧ PW (Own own tag) own G own1 G1 m (x.step true t s).2 ∧ At own1 tag G1 b ∧ G1.obj b = some (pkX t (x.step true t s).1):=by
 rcases hl with e | e | e
 all_goals unfold ClS.step; simp only [e]
 ·simp [ClS.l1]
  have hn:=(hm.load (nextI t (-1) 0)).2
  obtain ⟨G1,hG1⟩:∃ G1,G1 = G.put b (pkB t 1 x.a x.i x.w x.key x.job 0 x.err):=⟨_,rfl⟩
  have w1:PW (Own own tag) own G own G1 m s:=by rw [hG1]; exact (PW.refl h).putT hb.tag ht _
  have hb1:At own tag G1 b:=by rw [hG1]; exact hb.putO _ _
  have o1:G1.obj b = some (pkB t 1 x.a x.i x.w x.key x.job 0 x.err):=by rw [hG1]; simp
  obtain ⟨G2,e2,x2⟩:=tnext_ok orc t (-1) 0 G1
  have w2:=w1.extT x2 tag
  have hb2:=hb1.extO x2 tag
  have o2:=(x2.obj b hb1.lt).trans o1
  generalize grown own G1 tag = own2 at *
  obtain ⟨own3,G3,e3,w3⟩:=w2.pm.load orc (nextI t (-1) 0)
  generalize s.load (nextI t (-1) 0) = s' at *
  generalize s'.new = v at *
  have w3':=w2.tr w3.any
  have hb3:=hb2.to w3.nx w3.stp.agr
  have o3:=(hb2.keep ht w3).trans o2
  obtain ⟨G4,hG4⟩:∃ G4,G4 = G3.put b (pkB t 1 v x.i x.w x.key x.job 0 x.err):=⟨_,rfl⟩
  have w4:PW (Own own tag) own G own3 G4 m s':=by rw [hG4]; exact w3'.putT hb3.tag ht _
  have hb4:At own3 tag G4 b:=by rw [hG4]; exact hb3.putO _ _
  have o4:G4.obj b = some (pkB t 1 v x.i x.w x.key x.job 0 x.err):=by rw [hG4]; simp
  obtain ⟨G5,e5,x5⟩:=gettop_ok orc hto hn G4
  obtain ⟨G6,hG6⟩:∃ G6,G6 = (G5.push ⟨z313,1,false,1⟩).put G5.nx ⟨[.int .i64 (v % 65536 - 1),.int .i64 (v / 65536)],1,false,1⟩:=⟨_,rfl⟩
  have x6:Ext G4 G6:=by rw [hG6]; exact (x5.push _).put x5.nx _
  have p6:G6.obj G5.nx = some ⟨[.int .i64 (v % 65536 - 1),.int .i64 (v / 65536)],1,false,1⟩:=by rw [hG6]; simp
  have o6:=(x6.obj b hb4.lt).trans o4
  have w6:=w4.extT x6 tag
  have hb6:=hb4.extO x6 tag
  generalize grown own3 G4 tag = own6 at *
  obtain ⟨G7,hG7⟩:∃ G7,G7 = ((G6.put b (pkB t 1 v (v % 65536 - 1) x.w x.key x.job 0 x.err)).put b (pkB t 2 v (v % 65536 - 1) x.w x.key x.job 0 x.err)).room 20:=⟨_,rfl⟩
  have w7':=(w6.putT hb6.tag ht (pkB t 1 v (v % 65536 - 1) x.w x.key x.job 0 x.err)).putT hb6.tag ht (pkB t 2 v (v % 65536 - 1) x.w x.key x.job 0 x.err)
  have hb7':=(hb6.putO b (pkB t 1 v (v % 65536 - 1) x.w x.key x.job 0 x.err)).putO b (pkB t 2 v (v % 65536 - 1) x.w x.key x.job 0 x.err)
  have w7:=w7'.extT ((Ext.refl _).room 20) tag
  have hb7:=hb7'.extO ((Ext.refl _).room 20) tag
  rw [← hG7] at w7 hb7
  generalize grown own6 _ tag = own7 at *
  have o7:G7.obj b = some (pkB t 2 v (v % 65536 - 1) x.w x.key x.job 0 x.err):=by rw [hG7]; simp
  have hbn:¬ b = G5.nx:=by have:=hb4.lt; have:=x5.nx; omega
  by_cases c1:v % 65536 - 1 < 0
  ·rw [if_pos (.inl c1)]
   refine ⟨own7,(G7.put b (pkB t 99 v (v % 65536 - 1) x.w x.key x.job 0 x.err)).put b (pkB t 99 v (v % 65536 - 1) x.w x.key x.job 0 15),f320 (exL_ok Q orc) _ _ G _ ?_,(w7.putT hb7.tag ht _).putT hb7.tag ht _,(hb7.putO _ _).putO _ _,by simp [pkl]⟩
   simp [s320,ho,pkl,e,← hG1,o1,e2,e3,o3,← hG4,o4,e5,splice_put,splice_end,← hG6,p6,o6,hbn,← hG7,o7,c1]
  ·by_cases c2:t.size ≤ v % 65536 - 1
   ·rw [if_pos (.inr c2)]
    refine ⟨own7,(G7.put b (pkB t 99 v (v % 65536 - 1) x.w x.key x.job 0 x.err)).put b (pkB t 99 v (v % 65536 - 1) x.w x.key x.job 0 15),f320 (exL_ok Q orc) _ _ G _ ?_,(w7.putT hb7.tag ht _).putT hb7.tag ht _,(hb7.putO _ _).putO _ _,by simp [pkl]⟩
    simp [s320,ho,pkl,e,← hG1,o1,e2,e3,o3,← hG4,o4,e5,splice_put,splice_end,← hG6,p6,o6,hbn,← hG7,o7,c1,c2]
   ·rw [if_neg (by omega)]
    refine ⟨own7,G7,f320 (exL_ok Q orc) _ _ G _ ?_,w7,hb7,by rw [o7]; rfl⟩
    simp [s320,ho,pkl,e,← hG1,o1,e2,e3,o3,← hG4,o4,e5,splice_put,splice_end,← hG6,p6,o6,hbn,← hG7,o7,c1,c2]
 ·simp [ClS.l2]
  have hn:=(hm.load (atI t x.i 4)).2
  obtain ⟨own1,G1,e1,w1,hb1,o1⟩:=pload_ok orc h ht hb ho 4
  generalize s.load (atI t x.i 4) = s' at *
  generalize s'.new = v at *
  obtain ⟨G2,hG2⟩:∃ G2,G2 = (G1.put b (pkB t 2 x.a x.i v x.key x.job x.a x.err)).put b (pkB t 4 x.a x.i v x.key x.job x.a x.err):=⟨_,rfl⟩
  have w2:PW (Own own tag) own G own1 G2 m s':=by rw [hG2]; exact (w1.putT hb1.tag ht _).putT hb1.tag ht _
  have hb2:At own1 tag G2 b:=by rw [hG2]; exact (hb1.putO _ _).putO _ _
  have o2:G2.obj b = some (pkB t 4 x.a x.i v x.key x.job x.a x.err):=by rw [hG2]; simp
  have e3:=lmarked_ok orc hn G2
  by_cases c1:mkB ≤ v
  ·have c1':9223372036854775808 ≤ v:=c1
   rw [if_pos c1]
   refine ⟨own1,G2.put b (pkB t 3 x.a x.i v x.key x.job x.a x.err),f320 (exL_ok Q orc) _ _ G _ ?_,w2.putT hb2.tag ht _,hb2.putO _ _,by simp [pkl]⟩
   simp [s320,ho,pkl,e,e1,o1,← hG2,o2,e3,c1']
  ·have c1':¬ 9223372036854775808 ≤ v:=c1
   rw [if_neg c1]
   refine ⟨own1,G2,f320 (exL_ok Q orc) _ _ G _ ?_,w2,hb2,by rw [o2]; rfl⟩
   simp [s320,ho,pkl,e,e1,o1,← hG2,o2,e3,c1']
 ·simp [ClS.l3]
  obtain ⟨G1,hG1⟩:∃ G1,G1 = G.put b (pkB t 3 x.a x.i x.w x.key x.job 0 x.err):=⟨_,rfl⟩
  have w1:PW (Own own tag) own G own G1 m s:=by rw [hG1]; exact (PW.refl h).putT hb.tag ht _
  have hb1:At own tag G1 b:=by rw [hG1]; exact hb.putO _ _
  have o1:G1.obj b = some (pkB t 3 x.a x.i x.w x.key x.job 0 x.err):=by rw [hG1]; simp
  obtain ⟨G2,e2,x2⟩:=tnext_ok orc t (-1) 0 (G1.room 16)
  have y2:=((Ext.refl G1).room 16).trans x2
  have w2:=w1.extT y2 tag
  have hb2:=hb1.extO y2 tag
  have o2:=(y2.obj b hb1.lt).trans o1
  have e3:=lmarks_f orc hw (h3 e) G2
  generalize grown own G1 tag = own2 at *
  obtain ⟨own4,G4,e4,w4⟩:=w2.pm.cas orc (nextI t (-1) 0) x.a (x.w - mkB)
  have w4':=w2.tr w4.any
  have hb4:=hb2.to w4.nx w4.stp.agr
  have o4:=(hb2.keep ht w4).trans o2
  refine ⟨own4,G4.put b (pkB t 1 x.a x.i x.w x.key x.job 0 x.err),f320 (exL_ok Q orc) _ _ G _ ?_,w4'.putT hb4.tag ht _,hb4.putO _ _,by simp [pkl]⟩
  simp [s320,ho,pkl,e,← hG1,o1,e2,o2,e3,e4,o4]
end
section
variable {own own' own1 own2:Nat → Nat} {tag tg m r b:Nat} {t:TW} {G G' G1 G2:GS} {s s' s1:MS} {x:ClS}
def PkP (own:Nat → Nat) (tag:Nat) (t:TW) (G:GS) (b:Nat) (x:ClS):Prop:=At own tag G b ∧ G.obj b = some (pkX t x)
theorem PkP.to (h:PkP own tag t G b x) (hn:G.nx ≤ G'.nx) (hk:∀ g,g < G.nx → own g = tag → G'.obj g = G.obj g) (a:Agr own own' G):PkP own' tag t G' b x:=⟨h.1.to hn a,(hk _ h.1.lt h.1.tag).trans h.2⟩
theorem pkl_99 {l:Int} (h:lineOk true l):(pkl l = 99 ↔ l = 99) ∧ (pkl l = 4 ↔ l = 9) ∧ (pkl l = 5 ↔ l = 91):=by
 unfold lineOk at h; unfold pkl; split
 ·omega
 ·split
  ·omega
  ·simp at h; omega
theorem pdone_ok (ho:G.obj b = some (pkX t x)):(E orc).cl 319 [P0 b] G = some (.bool (decide (pkl x.line = 99)),G):=f319 (exL_ok Q orc) _ G _ (by simp [s319,ho])
theorem pstep_ok (hto:orc 236 = false) (hs:t.sound) (hlo:t.lok) (h:PM own G m s) (hm:s.ok) (hx:x.ok true t) (ht:tag ≠ 10) (hp:PkP own tag t G b x) :
  ∃ own1 G1,(E orc).cl 318 [P0 b,P0 m] G = some (.bool (decide ((x.step true t s).1.line = 99)),G1) ∧ PW (Own own tag) own G own1 G1 m (x.step true t s).2 ∧ PkP own1 tag t G1 b (x.step true t s).1:=by
 have hx':=hx.step hs hlo hm
 obtain ⟨hb,ho⟩:=hp
 have k9:=(pkl_99 hx.line).1
 have k9':=(pkl_99 hx'.1.line).1
 have e1:=pdone_ok orc ho
 rcases hx.line with e | e | e | e | e | e | ⟨k,-⟩
 ·obtain ⟨own1,G1,e2,w1,b1,o1⟩:=pfirst_ok orc hto hs h hm hx.w hx.m3 ht hb ho (.inl e)
  refine ⟨own1,G1,f318 (exL_ok Q orc) _ _ G _ ?_,w1,b1,o1⟩
  simp [jb318_0,j318_0,sb318,s318,j318_0,jb318_0,clip_t,e1,e,pkl,ho,e2,o1]
  simpa [pkl] using k9'
 ·obtain ⟨own1,G1,e2,w1,b1,o1⟩:=pfirst_ok orc hto hs h hm hx.w hx.m3 ht hb ho (.inr (.inl e))
  refine ⟨own1,G1,f318 (exL_ok Q orc) _ _ G _ ?_,w1,b1,o1⟩
  simp [jb318_0,j318_0,sb318,s318,j318_0,jb318_0,clip_t,e1,e,pkl,ho,e2,o1]
  simpa [pkl] using k9'
 ·obtain ⟨own1,G1,e2,w1,b1,o1⟩:=pfirst_ok orc hto hs h hm hx.w hx.m3 ht hb ho (.inr (.inr e))
  refine ⟨own1,G1,f318 (exL_ok Q orc) _ _ G _ ?_,w1,b1,o1⟩
  simp [jb318_0,j318_0,sb318,s318,j318_0,jb318_0,clip_t,e1,e,pkl,ho,e2,o1]
  simpa [pkl] using k9'
 ·have hst:x.step true t s = x.l9 t s:=by unfold ClS.step; simp [e]
  rw [hst]; unfold ClS.l9; simp only
  obtain ⟨own1,G1,e2,w1,b1,o1⟩:=pload_ok orc h ht hb ho 0
  generalize s.load (atI t x.i 0) = s' at *
  generalize s'.new = v at *
  refine ⟨own1,(G1.put b (pkB t 4 x.a x.i x.w v x.job x.a x.err)).put b (pkB t 5 x.a x.i x.w v x.job x.a x.err),f318 (exL_ok Q orc) _ _ G _ ?_,(w1.putT b1.tag ht _).putT b1.tag ht _,(b1.putO _ _).putO _ _,by simp [pkl]⟩
  simp [pkl,e] at o1
  simp [jb318_0,j318_0,sb318,s318,j318_0,jb318_0,clip_t,e1,e,pkl,ho,e2,o1]
 ·have hst:x.step true t s = x.l91 true t s:=by unfold ClS.step; simp [e]
  rw [hst]; unfold ClS.l91; simp only [if_true]
  obtain ⟨own1,G1,e2,w1,b1,o1⟩:=pjob_ok orc h hm ht hb ho
  generalize s.load (atI t x.i 1) = s' at *
  generalize s'.new = v at *
  refine ⟨own1,G1.put b (pkB t 99 x.a x.i x.w x.key (v % 65536) x.a x.err),f318 (exL_ok Q orc) _ _ G _ ?_,w1.putT b1.tag ht _,b1.putO _ _,by simp [pkl]⟩
  simp [jb318_0,j318_0,sb318,s318,j318_0,jb318_0,clip_t,e1,e,pkl,ho,e2,o1]
 ·have hst:x.step true t s = (x,s):=by unfold ClS.step; simp [e]
  rw [hst]
  refine ⟨own,G,f318 (exL_ok Q orc) _ _ G _ ?_,.refl h,hb,ho⟩
  simp [jb318_0,j318_0,sb318,s318,e,e1,pkl]
 ·exact absurd k (by decide)
theorem pitem_ok (hx:x.ok true t) (ho:G.obj b = some (pkX t x)) (hb:b < G.nx):∃ G',(E orc).cl 151 [P0 b] G = some (.tuple #[itemV x.ik x.ij,.int .i64 x.ie],G') ∧ Ext G G':=by
 have hne:¬ b = G.nx:=by omega
 have k9:=(pkl_99 hx.line).1
 have w:Wp (s151 true (exL Q orc) (P0 b) G) fun r=>r.1 = .tuple #[itemV x.ik x.ij,.int .i64 x.ie] ∧ Ext G r.2:=by
  unfold ClS.ik ClS.ij ClS.ie itemV
  by_cases e:x.line = 99
  ·have e':pkl 99 = 99:=rfl
   by_cases e2:x.err = 0
   ·simp [s151,ho,hne,splice_put,splice_end,e,e',e2]
    exact extPP _ _
   ·simp [s151,ho,hne,splice_put,splice_end,e,e',e2]
    exact (((Ext.refl G).push _).room _).put (Nat.le_refl _) _
  ·have e':¬ pkl x.line = 99:=fun k=>e (k9.1 k)
   simp [s151,ho,hne,splice_put,splice_end,e,e']
   exact extPP _ _
 obtain ⟨⟨v,G'⟩,e1,rfl,e3⟩:=w
 exact ⟨G',f151 (exL_ok Q orc) _ G _ e1,e3⟩
theorem pItem_ok (hx:x.ok true t) (ho:G.obj b = some (pkX t x)) (hb:b < G.nx):∃ G',(E orc).cl 109 [P0 b] G = some (.tuple #[itemV x.ik x.ij,.int .i64 x.ie],G') ∧ Ext G G':=by
 obtain ⟨G1,hG1⟩:∃ G1,G1 = G.push ⟨z120,1,false,1⟩:=⟨_,rfl⟩
 have x1:Ext G G1:=by rw [hG1]; exact (Ext.refl G).push _
 have p1:G1.obj G.nx = some ⟨z120,1,false,1⟩:=by rw [hG1]; simp
 have n1:G1.nx = G.nx + 1:=by rw [hG1]; rfl
 obtain ⟨G2,e2,x2⟩:=pitem_ok orc hx ((x1.obj b hb).trans ho) (by omega)
 have p2:=(x2.obj G.nx (by omega)).trans p1
 have w:Wp (s109 true (exL Q orc) (P0 b) G) fun r=>r.1 = .tuple #[itemV x.ik x.ij,.int .i64 x.ie] ∧ Ext G r.2:=by
  unfold itemV at *
  simp [s109,← hG1,e2,p2,splice_put,splice_end]
  exact (x1.trans x2).put (Nat.le_refl _) _
 obtain ⟨⟨v,G'⟩,e1,rfl,e3⟩:=w
 exact ⟨G',f109 (exL_ok Q orc) _ G _ e1,e3⟩
theorem pBy_ok (ho:G.obj b = some (pkX t x)):(E orc).cl 107 [P0 b] G = some (.int .u64 x.by_,G) :=
 f107 (exL_ok Q orc) _ G _ (by simp [s107,ho])
theorem seekp_ok (hs:t.sound) (G:GS):∃ G',(E orc).cl 150 [t.v] G = some (.agg ⟨(pkX t (ClS.new t)).cells⟩,G') ∧ Ext G G':=by
 obtain ⟨G1,hG1⟩:∃ G1,G1 = (G.push ⟨t.cells,1,false,1⟩).push ⟨z243,1,false,1⟩:=⟨_,rfl⟩
 have x1:Ext G G1:=by rw [hG1]; exact ((Ext.refl G).push _).push _
 have n1:G1.nx = G.nx + 2:=by rw [hG1]; rfl
 have o1:G1.obj G.nx = some ⟨t.cells,1,false,1⟩:=by rw [hG1]; simp
 have p1:G1.obj (G.nx + 1) = some ⟨z243,1,false,1⟩:=by rw [hG1]; simp
 obtain ⟨G2,e2,x2⟩:=tnext_ok orc t (-1) 0 G1
 rw [next0_s hs] at e2
 have o2:=(x2.obj G.nx (by omega)).trans o1
 have p2:=(x2.obj (G.nx + 1) (by omega)).trans p1
 have h1:¬ t.heads < 0:=by have:=hs.2.2.2.2.2.2.1; omega
 have w:Wp (s150 true (exL Q orc) t.v G) fun r=>r.1 = .agg ⟨(pkX t (ClS.new t)).cells⟩ ∧ Ext G r.2:=by
  unfold ClS.new
  simp [s150,← hG1,o1,e2,h1,o2,p2,splice_put,splice_end,splice_succ,pkl]
  exact (x1.trans x2).put (by omega) _
 obtain ⟨⟨v,G'⟩,e1,rfl,e3⟩:=w
 exact ⟨G',f150 (exL_ok Q orc) _ G _ e1,e3⟩
theorem newpeek_ok (hs:t.sound) (G:GS):∃ b G',(E orc).cl 106 [t.v] G = some (P0 b,G') ∧ Ext G G' ∧ G'.obj b = some (pkX t (ClS.new t)) ∧ G.nx ≤ b ∧ b < G'.nx:=by
 obtain ⟨G1,hG1⟩:∃ G1,G1 = G.push ⟨t.cells,1,false,1⟩:=⟨_,rfl⟩
 have x1:Ext G G1:=by rw [hG1]; exact (Ext.refl G).push _
 have o1:G1.obj G.nx = some ⟨t.cells,1,false,1⟩:=by rw [hG1]; simp
 obtain ⟨G2,e2,x2⟩:=seekp_ok orc hs G1
 have y2:=x1.trans x2
 have w:Wp (s106 true (exL Q orc) t.v G) fun r=>r = (P0 G2.nx,G2.push (pkX t (ClS.new t))):=by
  unfold ClS.new at e2 ⊢
  simp at e2
  simp [s106,← hG1,o1,e2]
 obtain ⟨r,e3,rfl⟩:=w
 exact ⟨_,_,f106 (exL_ok Q orc) _ G _ e3,y2.push _,by simp,y2.nx,by simp⟩
end
def TW.A (t:TW):Ar:=⟨t.top,t.links,t.size,t.u6,t.u7,t.u8⟩
theorem many_ok (c:Int) (G:GS):(E orc).cl 155 [.int .i64 c] G = some (.bool (decide (1 ≤ c ∧ c ≤ 64)),G):=by
 refine f155 (exL_ok Q orc) _ G _ ?_
 by_cases h1:1 ≤ c
 ·by_cases h2:c ≤ 64 <;> simp [s155,h1,h2]
 ·simp [s155,h1]
section
variable {G B:GS} {t:TW} {n:Int}
theorem r12fits_ok (at_ pins cores n:Int) (G:GS):∃ code G',(E orc).cl 116 [.agg ⟨[.int .i64 at_,.int .i64 pins,.int .i64 cores]⟩,.int .i64 n] G = some (.int .i64 code,G') ∧ Ext G G' ∧ (code = 0 → 1 ≤ cores ∧ cores ≤ 64):=by
 have w:Wp (s116 true (exL Q orc) (.agg ⟨[.int .i64 at_,.int .i64 pins,.int .i64 cores]⟩) (.int .i64 n) G) fun q=>∃ code,q.1 = .int .i64 code ∧ Ext G q.2 ∧ (code = 0 → 1 ≤ cores ∧ cores ≤ 64):=by
  obtain ⟨G1,hG1⟩:∃ G1,G1 = G.push ⟨[.int .i64 at_,.int .i64 pins,.int .i64 cores],1,false,1⟩:=⟨_,rfl⟩
  have x1:Ext G G1:=by rw [hG1]; exact (Ext.refl G).push _
  have o1:G1.obj G.nx = some ⟨[.int .i64 at_,.int .i64 pins,.int .i64 cores],1,false,1⟩:=by rw [hG1]; simp
  have em:=many_ok orc cores G1
  by_cases c1:n < 1
  ·simp [s116,← hG1,c1]; exact x1
  by_cases c2:4096 < n
  ·simp [s116,← hG1,c1,c2]; exact x1
  by_cases h0:1 ≤ cores ∧ cores ≤ 64
  ·have h0':=h0
   obtain ⟨k1,k2⟩:=h0
   simp only [h0',and_self,decide_true] at em
   have w1:IntKind.wrap .i64 (n - cores) = n - cores:=wrap64 (by omega) (by omega)
   by_cases h1:at_ < 0
   ·simp [s116,← hG1,c1,c2,o1,em,h1,k1,k2]; exact x1
   by_cases h2:n ≤ at_
   ·simp [s116,← hG1,c1,c2,o1,em,h1,h2,k1,k2]; exact x1
   by_cases h3:pins < 0
   ·simp [s116,← hG1,c1,c2,o1,em,h1,h2,h3,k1,k2]; exact x1
   by_cases h4:n - cores < pins
   ·simp [s116,← hG1,c1,c2,o1,em,h1,h2,h3,w1,h4,k1,k2]; exact x1
   have w2:IntKind.wrap .i64 (pins + cores) = pins + cores:=wrap64 (by omega) (by omega)
   by_cases h5:pins ≤ at_
   ·by_cases h6:at_ < pins + cores
    ·simp [s116,← hG1,c1,c2,o1,em,h1,h2,h3,w1,h4,w2,h5,h6,k1,k2]; exact x1
    ·simp [s116,← hG1,c1,c2,o1,em,h1,h2,h3,w1,h4,w2,h5,h6,k1,k2]; exact x1
   ·simp [s116,← hG1,c1,c2,o1,em,h1,h2,h3,w1,h4,w2,h5,k1,k2]; exact x1
  ·simp only [h0,decide_false] at em
   simp [s116,← hG1,c1,c2,o1,em]; exact x1
 obtain ⟨⟨v,G'⟩,e1,code,rfl,e2,e3⟩:=w
 exact ⟨code,G',f116 (exL_ok Q orc) _ _ G _ e1,e2,e3⟩
def seqN (base:Int):Nat → Nat → List Int
 | 0,_=>[]
 | k + 1,i=>IntKind.wrap .i64 (base + i) :: seqN base k (i + 1)
theorem seqN_length (base:Int):∀ k i,(seqN base k i).length = k
 | 0,_=>rfl
 | k + 1,i=>by simp [seqN,seqN_length base k (i + 1)]
def limL (t:TW):List Int:=(arL t.A ++ [t.u9,t.u12,IntKind.wrap .i64 (t.u12 + 1),IntKind.wrap .i64 (t.u12 + 2)]) ++ seqN t.u10 t.u11.toNat 0
theorem r13cells_lp {rb:Nat} (hB:B.obj rb = some ⟨lmL t,1,false,1⟩) (hrb:rb < B.nx) {M:Nat} (hM:M ≤ 10000) {k0:Nat} (hk:t.u11 = k0) (hk64:k0 ≤ 64):∀ (k i:Nat) (τ:Env) (G:GS) (L:List Int) (v:Value),i + k = k0 → L.length ≤ M + i → Ext B G → OwR (rowsI .i64) B.nx G v L → τ 1 = P0 rb → τ 3 = v → τ 4 = .int .i64 i →
  Wp ((exL Q orc).lpx 75 0 τ G) fun q=>q.1 = .exit 0 ∧ Ext B q.2.2 ∧ OwR (rowsI .i64) B.nx q.2.2 (q.2.1 3) (L ++ seqN t.u10 k i):=by
 intro k
 induction k with
 | zero =>
  intro i τ G L v hi hL hx hv t1 t3 t4
  have ho:=(hx.obj rb hrb).trans hB
  have hi':((i:Nat):Int) = t.u11:=by omega
  refine Wp.lp (l75_0 (exL_ok Q orc)) ?_
  simp [b75_0,clip_t,t1,t3,t4,ho,hi',seqN]
  exact ⟨hx,hv⟩
 | succ k ih =>
  intro i τ G L v hi hL hx hv t1 t3 t4
  have ho:=(hx.obj rb hrb).trans hB
  have hlt:((i:Nat):Int) < t.u11:=by omega
  have hw:IntKind.wrap .i64 ((i:Int) + 1) = ((i + 1:Nat):Int):=wrap64 (by omega) (by omega)
  generalize ha:IntKind.wrap .i64 (t.u10 + i) = a
  have x1:Ext G (G.push ⟨(rowsI .i64).flat [a],1,false,1⟩):=(Ext.refl G).push _
  have hs:SlR (rowsI .i64) (G.push ⟨(rowsI .i64).flat [a],1,false,1⟩) (.slice (some ⟨G.nx,0,none⟩) 1 1) [a]:=SlR.block (e:=rowsI .i64) (L:=[a]) (op:=false) (b:=G.nx) (by rw [obj_push,if_pos rfl]; rfl) (by simp)
  obtain ⟨v',G4,e6,x6,w6⟩:=(hv.ext x1).app (A:=B) (ib:=8) (by decide) (hx.trans x1) hs (by simp; omega)
  have hfl:(rowsI .i64).flat [a] = [.int .i64 a]:=rfl
  simp only [rowsI_sz,hfl] at e6
  refine Wp.lp (l75_0 (exL_ok Q orc)) ?_
  simp [-Int.natCast_add,b75_0,clip_t,t1,t3,t4,ho,hlt,ha,hw,fillS,fillC,zipF,rep,splice_put,splice_end,splice_succ,e6]
  refine (ih (i + 1) _ G4 (L ++ [a]) v' (by omega) (by simp; omega) x6 w6 (by simp [clip_t]) (by simp [clip_t]) (by simp [clip_t])).mono ?_
  rintro q ⟨q1,q2,q3⟩
  exact ⟨q1,q2,by simpa [seqN,ha] using q3⟩
theorem r13cells_ok (hz1:1 ≤ t.size) (hz:t.size ≤ 4096) (hc:0 ≤ t.u11 ∧ t.u11 ≤ 64) (G:GS):∃ v G',(E orc).cl 75 [.agg ⟨lmL t⟩] G = some (v,G') ∧ Ext G G' ∧ OwR (rowsI .i64) G.nx G' v (limL t):=by
 have w:Wp (s75 true (exL Q orc) (.agg ⟨lmL t⟩) G) fun q=>Ext G q.2 ∧ OwR (rowsI .i64) G.nx q.2 q.1 (limL t):=by
  obtain ⟨G1,hG1⟩:∃ G1,G1 = G.push ⟨lmL t,1,false,1⟩:=⟨_,rfl⟩
  have x1:Ext G G1:=by rw [hG1]; exact (Ext.refl G).push _
  have o1:G1.obj G.nx = some ⟨lmL t,1,false,1⟩:=by rw [hG1]; simp
  have n1:G1.nx = G.nx + 1:=by rw [hG1]; rfl
  obtain ⟨v2,G2,e2,x2,w2⟩:=rcells_ok orc (A:=t.A) hz1 hz (G1.room 17)
  have y2:=((Ext.refl G1).room 17).trans x2
  have n2:=x2.nx
  simp at n2
  have o2:=(y2.obj G.nx (by omega)).trans o1
  obtain ⟨L4,hL4⟩:∃ L4,L4 = [t.u9,t.u12,IntKind.wrap .i64 (t.u12 + 1),IntKind.wrap .i64 (t.u12 + 2)]:=⟨_,rfl⟩
  obtain ⟨G3,hG3⟩:∃ G3,G3 = ((G2.at' (G1.nx + 14)).push ⟨[.int .i64 t.u9,.int .i64 t.u12,.int .i64 (IntKind.wrap .i64 (t.u12 + 1)),.int .i64 (IntKind.wrap .i64 (t.u12 + 2))],1,false,1⟩).back G2:=⟨_,rfl⟩
  have x3:Ext G1 G3:=by rw [hG3]; exact Ext.drawnO y2 (by omega) _
  have n3:G3.nx = G2.nx:=by rw [hG3]; simp
  have ob3:∀ g,g ≠ G1.nx + 14 → G3.obj g = G2.obj g:=fun g hg=>by rw [hG3]; simp [hg]
  have o3:=(x3.obj G.nx (by omega)).trans o1
  have w3:OwR (rowsI .i64) G1.nx G3 v2 (arL t.A):=by
   refine (w2.mono (by simp)).kept (by omega) fun g hg=>ob3 g ?_
   obtain ⟨a,nn,cc,he,hb⟩:=hg
   have:=w2.ge a nn cc he
   simp at this
   omega
  have hs:SlR (rowsI .i64) G3 (.slice (some ⟨G1.nx + 14,0,none⟩) 4 4) L4:=by
   rw [hL4]
   exact SlR.block (G:=G3) (e:=rowsI .i64) (L:=[t.u9,t.u12,IntKind.wrap .i64 (t.u12 + 1),IntKind.wrap .i64 (t.u12 + 2)]) (op:=false) (b:=G1.nx + 14) (by rw [hG3]; simp; rfl) (by omega)
  have hlen:(arL t.A).length ≤ 9000:=by simp only [arL,List.length_cons,arN_length,TW.A]; omega
  obtain ⟨v4,G4,e4,x4,w4⟩:=w3.app (A:=G1) (ib:=8) (by decide) x3 hs (by rw [hL4]; simp; omega)
  simp only [rowsI_sz] at e4
  obtain ⟨k0,hk0⟩:∃ k0:Nat,t.u11 = k0:=⟨t.u11.toNat,by omega⟩
  simp [TW.A] at e2
  simp [s75,← hG1,o1,e2,o2,fillS,fillC,zipF,rep,splice_put,splice_end,splice_succ]
  rw [← hG3]
  simp [e4]
  refine Wp.bE ((r13cells_lp orc (B:=G1) (M:=9100) o1 (by omega) (by omega) hk0 (by omega) k0 0 _ G4 (arL t.A ++ L4) v4 (by omega) (by rw [hL4]; simp; omega) x4 w4 (by simp) (by simp) (by simp)).mono ?_)
  rintro ⟨e,τ,G5⟩ ⟨rfl,q2,q3⟩
  simp only at q2 q3
  simp
  refine ⟨x1.trans q2,?_⟩
  have:=q3.mono (B':=G.nx) (by omega)
  rw [hL4] at this
  simpa [limL,hk0] using this
 obtain ⟨⟨v,G'⟩,e1,e2,e3⟩:=w
 exact ⟨v,G',f75 (exL_ok Q orc) _ G _ e1,e2,e3⟩
end
theorem apF_all {L:List Int} {n:Int} (h:apF L n L.length 0 = true):∀ x ∈ L,0 ≤ x ∧ x < n:=by
 intro x hx
 obtain ⟨j,hj,rfl⟩:=List.getElem_of_mem hx
 have:=(apF_iff L n L.length 0).1 h j (by omega) (by omega)
 unfold apC at this
 rw [List.getElem?_eq_getElem hj] at this
 exact ⟨this.1,this.2.1⟩
theorem fits_zero {A:Ar} {c:Int} (hg:-9223372036854775808 ≤ A.gens ∧ A.gens ≤ 9223372036854775807) (h:rfitsI A c = 0):1 ≤ c ∧ c ≤ 4096 ∧ A.ok:=by
 unfold rfitsI at h
 split at h
 ·cases h
 ·split at h
  ·rename_i c1 h1
   obtain ⟨⟨⟨s1,s2⟩,s3,s4,s5,s6,s7⟩,⟨l1,l2⟩,ha⟩:=h1
   simp only at s1 s2 s3 s4 s5 s6 s7
   have hall:=apF_all ha
   have hw:=hall A.worn (by simp [arL])
   have g0:=(arL_at A (j:=0) (by omega)).2
   have g1:=(arL_at A (j:=A.size.toNat - 1) (by omega)).2
   have h0:=hall _ (List.mem_of_getElem? g0)
   have h1:=hall _ (List.mem_of_getElem? g1)
   rw [show A.gens + ((0:Nat):Int) = A.gens by omega,wrap64 (by omega) (by omega)] at h0
   rw [wrap64 (by omega) (by omega)] at h1
   exact ⟨by omega,by omega,⟨s1,s2,s3,by simp only; omega,s5,by simp only; omega⟩,h0.1,by omega,hw.1,by omega,l1,l2⟩
  ·cases h
def TW.good (t:TW) (n:Int):Prop:=1 ≤ n ∧ n ≤ 4096 ∧ t.A.ok ∧ t.lok ∧ 1 ≤ t.u11 ∧ t.u11 ≤ 64
section
variable {G B:GS} {t:TW} {n:Int}
theorem r13fits_ok (hg:-9223372036854775808 ≤ t.u6 ∧ t.u6 ≤ 9223372036854775807) (n:Int) (G:GS):∃ code G',(E orc).cl 73 [.agg ⟨lmL t⟩,.int .i64 n] G = some (.int .i64 code,G') ∧ Ext G G' ∧ (code = 0 → t.good n):=by
 have w:Wp (s73 true (exL Q orc) (.agg ⟨lmL t⟩) (.int .i64 n) G) fun q=>∃ code,q.1 = .int .i64 code ∧ Ext G q.2 ∧ (code = 0 → t.good n):=by
  obtain ⟨G1,hG1⟩:∃ G1,G1 = G.push ⟨lmL t,1,false,1⟩:=⟨_,rfl⟩
  have x1:Ext G G1:=by rw [hG1]; exact (Ext.refl G).push _
  have o1:G1.obj G.nx = some ⟨lmL t,1,false,1⟩:=by rw [hG1]; simp
  have n1:G1.nx = G.nx + 1:=by rw [hG1]; rfl
  by_cases c1:n < 1
  ·simp [s73,← hG1,c1]; exact x1
  by_cases c2:4096 < n
  ·simp [s73,← hG1,c1,c2]; exact x1
  obtain ⟨G2,e2,x2⟩:=rafits_ok orc t.A n G1
  have hz:=fits_zero (A:=t.A) (c:=n) hg
  have hsz:rfitsI t.A n = 0 → 1 ≤ t.size ∧ t.size ≤ 4096:=fun h=>⟨(hz h).2.2.1.1,(hz h).2.2.1.2.1⟩
  have hlk:rfitsI t.A n = 0 → 0 ≤ t.links ∧ t.links + t.size ≤ 4096:=fun h=>⟨(hz h).2.2.1.2.2.2.2.1,(hz h).2.2.1.2.2.2.2.2⟩
  generalize rfitsI t.A n = c0 at *
  simp [TW.A] at e2
  have y2:=x1.trans x2
  have o2:=(x2.obj G.nx (by omega)).trans o1
  by_cases d1:c0 = 0
  ·subst d1
   obtain ⟨code3,G3,e3,x3,f3⟩:=r12fits_ok orc t.u9 t.u10 t.u11 n G2
   have y3:=y2.trans x3
   have n2:=x2.nx
   have n3:=x3.nx
   have o3:=(x3.obj G.nx (by omega)).trans o2
   by_cases d2:code3 = 0
   ·subst d2
    obtain ⟨k1,k2⟩:=f3 rfl
    obtain ⟨v,G4,e4,x4,w4⟩:=r13cells_ok orc (t:=t) (hsz rfl).1 (hsz rfl).2 (by omega) G3
    have hlen:(limL t).length < 2 ^ 40:=by
     simp only [limL,List.length_append,arL,List.length_cons,arN_length,seqN_length,TW.A,List.length_nil]
     have:=(hsz rfl).2
     omega
    obtain ⟨G5,e5,x5⟩:=rapart_ok orc (n:=n) w4.is hlen
    have y5:=(y3.trans x4).trans x5
    cases h3:apF (limL t) n (limL t).length 0 with
    | true =>
     rw [h3] at e5
     have hall:=apF_all h3
     have a1:=hall t.u12 (by simp [limL])
     have a2:=hall (IntKind.wrap .i64 (t.u12 + 2)) (by simp [limL])
     rw [wrap64 (by omega) (by omega)] at a2
     simp [s73,← hG1,c1,c2,o1,e2,o2,e3,o3,e4,e5]
     exact ⟨y5,by omega,by omega,(hz rfl).2.2,⟨(hsz rfl).1,(hsz rfl).2,(hlk rfl).1,(hlk rfl).2,a1.1,by omega⟩,k1,k2⟩
    | false =>
     rw [h3] at e5
     simp [s73,← hG1,c1,c2,o1,e2,o2,e3,o3,e4,e5]; exact y5
   ·simp [s73,← hG1,c1,c2,o1,e2,o2,e3,o3,d2]; exact y3
  ·simp [s73,← hG1,c1,c2,o1,e2,o2,d1]; exact y2
 obtain ⟨⟨v,G'⟩,e1,code,rfl,e2,e3⟩:=w
 exact ⟨code,G',f73 (exL_ok Q orc) _ _ G _ e1,e2,e3⟩
theorem rown_lp0 {rb:Nat} (hB:B.obj rb = some ⟨t.cells,1,false,1⟩) (hrb:rb < B.nx) (hs:t.sound) {k0:Nat} (hk:t.size * (4 + t.height) = k0) (hk64:k0 ≤ 1024):∀ (k i:Nat) (τ:Env) (G:GS) (L:List Int) (v:Value),i + k = k0 → L.length ≤ i → Ext B G → OwR (rowsI .i64) B.nx G v L → τ 1 = P0 rb → τ 3 = v → τ 4 = .int .i64 i →
  Wp ((exL Q orc).lpx 76 0 τ G) fun q=>q.1 = .exit 0 ∧ q.2.1 1 = P0 rb ∧ Ext B q.2.2 ∧ OwR (rowsI .i64) B.nx q.2.2 (q.2.1 3) (L ++ seqN t.nodes k i):=by
 obtain ⟨s1,s2,s3,s4,-⟩:=hs
 have wh:IntKind.wrap .i64 (4 + t.height) = 4 + t.height:=wrap64 (by omega) (by omega)
 have wm:IntKind.wrap .i64 (t.size * (4 + t.height)) = k0:=by rw [hk]; exact wrap64 (by omega) (by omega)
 intro k
 induction k with
 | zero =>
  intro i τ G L v hi hL hx hv t1 t3 t4
  have ho:=(hx.obj rb hrb).trans hB
  have hi':i = k0:=by omega
  subst hi'
  refine Wp.lp (l76_0 (exL_ok Q orc)) ?_
  simp [b76_0,clip_t,t1,t3,t4,ho,wh,wm,seqN]
  exact ⟨hx,hv⟩
 | succ k ih =>
  intro i τ G L v hi hL hx hv t1 t3 t4
  have ho:=(hx.obj rb hrb).trans hB
  have hlt:i < k0:=by omega
  have hw:IntKind.wrap .i64 ((i:Int) + 1) = ((i + 1:Nat):Int):=wrap64 (by omega) (by omega)
  generalize ha:IntKind.wrap .i64 (t.nodes + i) = a
  have x1:Ext G (G.push ⟨(rowsI .i64).flat [a],1,false,1⟩):=(Ext.refl G).push _
  have hs:SlR (rowsI .i64) (G.push ⟨(rowsI .i64).flat [a],1,false,1⟩) (.slice (some ⟨G.nx,0,none⟩) 1 1) [a]:=SlR.block (e:=rowsI .i64) (L:=[a]) (op:=false) (b:=G.nx) (by rw [obj_push,if_pos rfl]; rfl) (by simp)
  obtain ⟨v',G4,e6,x6,w6⟩:=(hv.ext x1).app (A:=B) (ib:=8) (by decide) (hx.trans x1) hs (by simp; omega)
  have hfl:(rowsI .i64).flat [a] = [.int .i64 a]:=rfl
  simp only [rowsI_sz,hfl] at e6
  refine Wp.lp (l76_0 (exL_ok Q orc)) ?_
  simp [-Int.natCast_add,b76_0,clip_t,t1,t3,t4,ho,wh,wm,hlt,ha,hw,fillS,fillC,zipF,rep,splice_put,splice_end,splice_succ,e6]
  refine (ih (i + 1) _ G4 (L ++ [a]) v' (by omega) (by simp; omega) x6 w6 (by simp [clip_t]) (by simp [clip_t]) (by simp [clip_t])).mono ?_
  rintro q ⟨q1,q2,q3,q4⟩
  exact ⟨q1,q2,q3,by simpa [seqN,ha] using q4⟩
theorem rown_lp1 {rb:Nat} (hB:B.obj rb = some ⟨t.cells,1,false,1⟩) (hrb:rb < B.nx) {k0:Nat} (hk:t.height = k0) (hk64:k0 ≤ 4):∀ (k i:Nat) (τ:Env) (G:GS) (L:List Int) (v:Value),i + k = k0 → L.length ≤ 2000 + i → Ext B G → OwR (rowsI .i64) B.nx G v L → τ 1 = P0 rb → τ 3 = v → τ 5 = .int .i64 i →
  Wp ((exL Q orc).lpx 76 1 τ G) fun q=>q.1 = .exit 2 ∧ Ext B q.2.2 ∧ OwR (rowsI .i64) B.nx q.2.2 (q.2.1 3) (L ++ seqN t.heads k i):=by
 intro k
 induction k with
 | zero =>
  intro i τ G L v hi hL hx hv t1 t3 t4
  have ho:=(hx.obj rb hrb).trans hB
  have hi':((i:Nat):Int) = t.height:=by omega
  refine Wp.lp (l76_1 (exL_ok Q orc)) ?_
  simp [b76_1,clip_t,t1,t3,t4,ho,hi',seqN]
  exact ⟨hx,hv⟩
 | succ k ih =>
  intro i τ G L v hi hL hx hv t1 t3 t4
  have ho:=(hx.obj rb hrb).trans hB
  have hlt:((i:Nat):Int) < t.height:=by omega
  have hw:IntKind.wrap .i64 ((i:Int) + 1) = ((i + 1:Nat):Int):=wrap64 (by omega) (by omega)
  generalize ha:IntKind.wrap .i64 (t.heads + i) = a
  have x1:Ext G (G.push ⟨(rowsI .i64).flat [a],1,false,1⟩):=(Ext.refl G).push _
  have hs:SlR (rowsI .i64) (G.push ⟨(rowsI .i64).flat [a],1,false,1⟩) (.slice (some ⟨G.nx,0,none⟩) 1 1) [a]:=SlR.block (e:=rowsI .i64) (L:=[a]) (op:=false) (b:=G.nx) (by rw [obj_push,if_pos rfl]; rfl) (by simp)
  obtain ⟨v',G4,e6,x6,w6⟩:=(hv.ext x1).app (A:=B) (ib:=8) (by decide) (hx.trans x1) hs (by simp; omega)
  have hfl:(rowsI .i64).flat [a] = [.int .i64 a]:=rfl
  simp only [rowsI_sz,hfl] at e6
  refine Wp.lp (l76_1 (exL_ok Q orc)) ?_
  simp [-Int.natCast_add,b76_1,clip_t,t1,t3,t4,ho,hlt,ha,hw,fillS,fillC,zipF,rep,splice_put,splice_end,splice_succ,e6]
  refine (ih (i + 1) _ G4 (L ++ [a]) v' (by omega) (by simp; omega) x6 w6 (by simp [clip_t]) (by simp [clip_t]) (by simp [clip_t])).mono ?_
  rintro q ⟨q1,q2,q3⟩
  exact ⟨q1,q2,by simpa [seqN,ha] using q3⟩
def ownL (t:TW):List Int:=seqN t.nodes (t.size * (4 + t.height)).toNat 0 ++ seqN t.heads t.height.toNat 0
theorem own_many (hs:t.sound):0 ≤ t.size * (4 + t.height) ∧ t.size * (4 + t.height) ≤ 1024:=by
 obtain ⟨s1,s2,s3,s4,-⟩:=hs
 have h1:t.size * (4 + t.height) ≤ 128 * (4 + t.height):=Int.mul_le_mul_of_nonneg_right s4 (by omega)
 exact ⟨Int.mul_nonneg (by omega) (by omega),by omega⟩
theorem rown_ok (hs:t.sound) (G:GS):∃ v G',(E orc).cl 76 [t.v] G = some (v,G') ∧ Ext G G' ∧ OwR (rowsI .i64) G.nx G' v (ownL t):=by
 have hm:=own_many hs
 have s1:=hs.1
 have s2:=hs.2.1
 have w:Wp (s76 true (exL Q orc) t.v G) fun q=>Ext G q.2 ∧ OwR (rowsI .i64) G.nx q.2 q.1 (ownL t):=by
  obtain ⟨G1,hG1⟩:∃ G1,G1 = G.push ⟨t.cells,1,false,1⟩:=⟨_,rfl⟩
  have x1:Ext G G1:=by rw [hG1]; exact (Ext.refl G).push _
  have o1:G1.obj G.nx = some ⟨t.cells,1,false,1⟩:=by rw [hG1]; simp
  have n1:G1.nx = G.nx + 1:=by rw [hG1]; rfl
  obtain ⟨k0,hk0⟩:∃ k0:Nat,t.size * (4 + t.height) = k0:=⟨(t.size * (4 + t.height)).toNat,by omega⟩
  obtain ⟨h0,hh0⟩:∃ h0:Nat,t.height = h0:=⟨t.height.toNat,by omega⟩
  simp [s76,← hG1]
  refine Wp.bE ((rown_lp0 orc (B:=G1) o1 (by omega) hs hk0 (by omega) k0 0 _ G1 [] _ (by omega) (by simp) (Ext.refl _) (OwR.nil _ _) (by simp) (by simp) (by simp)).mono ?_)
  rintro ⟨e,τ,G2⟩ ⟨rfl,q1,q2,q3⟩
  simp only at q1 q2 q3
  simp
  refine Wp.bE ((rown_lp1 orc (B:=G1) o1 (by omega) hh0 (by omega) h0 0 _ G2 _ _ (by omega) (by simp [seqN_length]; omega) q2 q3 (by simp [clip_t,q1]) (by simp [clip_t]) (by simp)).mono ?_)
  rintro ⟨e,τ',G3⟩ ⟨rfl,p2,p3⟩
  simp only at p2 p3
  simp
  refine ⟨x1.trans p2,?_⟩
  have:=p3.mono (B':=G.nx) (by omega)
  unfold ownL
  rw [hk0,hh0]
  simpa using this
 obtain ⟨⟨v,G'⟩,e1,e2,e3⟩:=w
 exact ⟨v,G',f76 (exL_ok Q orc) _ G _ e1,e2,e3⟩
theorem r15fits_ok (hg:-9223372036854775808 ≤ t.u6 ∧ t.u6 ≤ 9223372036854775807) (n:Int) (G:GS):∃ code G',(E orc).cl 31 [t.v,.int .i64 n] G = some (.int .i64 code,G') ∧ Ext G G' ∧ (code = 0 → t.sound ∧ t.good n):=by
 have w:Wp (s31 true (exL Q orc) t.v (.int .i64 n) G) fun q=>∃ code,q.1 = .int .i64 code ∧ Ext G q.2 ∧ (code = 0 → t.sound ∧ t.good n):=by
  obtain ⟨G1,hG1⟩:∃ G1,G1 = G.push ⟨t.cells,1,false,1⟩:=⟨_,rfl⟩
  have x1:Ext G G1:=by rw [hG1]; exact (Ext.refl G).push _
  have o1:G1.obj G.nx = some ⟨t.cells,1,false,1⟩:=by rw [hG1]; simp
  have n1:G1.nx = G.nx + 1:=by rw [hG1]; rfl
  by_cases c1:n < 1
  ·simp [s31,← hG1,c1]; exact x1
  by_cases c2:4096 < n
  ·simp [s31,← hG1,c1,c2]; exact x1
  obtain ⟨G2,e2,x2⟩:=rsound_ok orc t (G1.room 22)
  have y2:Ext G1 G2:=((Ext.refl G1).room 22).trans x2
  have n2:=y2.nx
  have o2:=(y2.obj G.nx (by omega)).trans o1
  by_cases hs:t.sound
  ·simp only [hs,decide_true] at e2
   obtain ⟨code3,G3,e3,x3,f3⟩:=r13fits_ok orc (t:=t) hg n G2
   have y3:=y2.trans x3
   have n3:=y3.nx
   have o3:=(y3.obj G.nx (by omega)).trans o1
   by_cases d2:code3 = 0
   ·subst d2
    have hgd:=f3 rfl
    obtain ⟨k1,k2,hA,hl,k3,k4⟩:=hgd
    obtain ⟨v,G4,e4,x4,w4⟩:=r13cells_ok orc (t:=t) hl.1 hl.2.1 (by omega) G3
    have y4:=y3.trans x4
    have n4:=y4.nx
    have o4:=(y4.obj G.nx (by omega)).trans o1
    obtain ⟨v5,G5,e5,x5,w5⟩:=rown_ok orc hs G4
    have y5:=y4.trans x5
    have n5:=y5.nx
    have o5:=(y5.obj G.nx (by omega)).trans o1
    have hm:=own_many hs
    have hl1:(limL t).length ≤ 9000:=by
     simp only [limL,List.length_append,arL,List.length_cons,arN_length,seqN_length,TW.A,List.length_nil]
     have:=hl.2.1
     omega
    have hl2:(ownL t).length ≤ 2000:=by
     simp only [ownL,List.length_append,seqN_length]
     have:=hs.2.1
     omega
    obtain ⟨v6,G6,e6,x6,w6⟩:=(w4.ext x5).app (A:=G3) (ib:=8) (by decide) (x4.trans x5) w5.is (by omega)
    simp only [rowsI_sz] at e6
    have y6:=y3.trans x6
    obtain ⟨G7,e7,x7⟩:=rapart_ok orc (n:=n) w6.is (by simp only [List.length_append]; omega)
    have y7:=y6.trans x7
    cases h3:apF (limL t ++ ownL t) n (limL t ++ ownL t).length 0 with
    | true =>
     rw [h3] at e7
     simp [s31,← hG1,c1,c2,o1,e2,o2,e3,o3,e4,o4,e5,e6,e7]
     exact ⟨x1.trans y7,hs,k1,k2,hA,hl,k3,k4⟩
    | false =>
     rw [h3] at e7
     simp [s31,← hG1,c1,c2,o1,e2,o2,e3,o3,e4,o4,e5,e6,e7]; exact x1.trans y7
   ·simp [s31,← hG1,c1,c2,o1,e2,o2,e3,o3,d2]; exact x1.trans y3
  ·simp only [hs,decide_false] at e2
   simp [s31,← hG1,c1,c2,o1,e2,o2]; exact x1.trans y2
 obtain ⟨⟨v,G'⟩,e1,code,rfl,e2,e3⟩:=w
 exact ⟨code,G',f31 (exL_ok Q orc) _ _ G _ e1,e2,e3⟩
end
def zerosN (base:Int):Nat → Nat → MS → MS
 | 0,_,s=>s
 | k + 1,i,s=>zerosN base k (i + 1) (s.store (IntKind.wrap .i64 (base + i)) 0)
theorem zerosN_ok (base:Int):∀ (k i:Nat) (s:MS),s.ok → (zerosN base k i s).ok
 | 0,_,_,h=>h
 | k + 1,i,s,h=>zerosN_ok base k (i + 1) _ (h.store _ U_zero')
def fillE (t:TW) (s:MS):MS:=zerosN t.u10 t.u11.toNat 0 (s.store t.u9 0)
def fillL (t:TW) (s:MS):MS:=zerosN t.u12 3 0 (fillE t (fillA t.A s))
def fillT (t:TW) (s:MS):MS:=zerosN t.heads t.height.toNat 0 (fillL t s)
theorem fillT_ok {t:TW} (hA:t.A.ok) {s:MS} (h:s.ok):(fillT t s).ok:=zerosN_ok _ _ _ _ (zerosN_ok _ _ _ _ (zerosN_ok _ _ _ _ ((fillA_ok hA h).store _ U_zero')))
section
variable {m r rb mb l:Nat} {own own0:Nat → Nat} {G G0 G1 A:GS} {s:MS} {t:TW} {T:List Value}
theorem r12fill_lp (hrb:rb < G0.nx) (trb:own0 rb ≠ 11) (orb:G0.obj rb = some ⟨[.int .i64 t.u9,.int .i64 t.u10,.int .i64 t.u11],1,false,1⟩) {n:Nat} (hn:t.u11 = n) (hn9:n ≤ 4096) :
  ∀ (k i:Nat) (τ:Env) (own:Nat → Nat) (G:GS) (s:MS),i + k = n → RW no own0 G0 own G r s → τ 1 = P0 r → τ 2 = P0 rb → τ 4 = .int .i64 i →
  Wp ((exL Q orc).lpx 157 0 τ G) fun q=>q.1 = .exit 0 ∧ ∃ own',RW no own0 G0 own' q.2.2 r (zerosN t.u10 k i s):=by
 intro k
 induction k with
 | zero =>
  intro i τ own G s hi w t1 t2 t4
  have o:=(w.keep hrb trb id).trans orb
  have hi':¬ (i:Int) < t.u11:=by omega
  have hi2:i = n:=by omega
  refine Wp.lp (l157_0 (exL_ok Q orc)) ?_
  simp [-Int.natCast_add,b157_0,clip_t,t1,t2,t4,o,hi',hi2,← hn,zerosN]
  exact ⟨own,w⟩
 | succ k ih =>
  intro i τ own G s hi w t1 t2 t4
  have o:=(w.keep hrb trb id).trans orb
  have hlt:(i:Int) < t.u11:=by omega
  have hlt2:i < n:=by omega
  have hw:IntKind.wrap .i64 ((i:Int) + 1) = ((i + 1:Nat):Int):=wrap64 (by omega) (by omega)
  refine Wp.lp (l157_0 (exL_ok Q orc)) ?_
  obtain ⟨own2,G2,e2,w2⟩:=w.rm.store orc (IntKind.wrap .i64 (t.u10 + i)) 0
  simp [-Int.natCast_add,b157_0,clip_t,t1,t2,t4,hlt,hlt2,hw,o,e2]
  refine (ih (i + 1) _ _ G2 _ (by omega) (w.trans w2 fun _ _ h=>h) (by simp [clip_t]) (by simp [clip_t]) (by simp [clip_t])).mono ?_
  rintro q ⟨q1,own',q2⟩
  exact ⟨q1,own',by simpa [zerosN] using q2⟩
theorem r13fill_lp (hrb:rb < G0.nx) (trb:own0 rb ≠ 11) (orb:G0.obj rb = some ⟨lmL t,1,false,1⟩) {n:Nat} (hn:(3:Int) = n) (hn9:n ≤ 4096) :
  ∀ (k i:Nat) (τ:Env) (own:Nat → Nat) (G:GS) (s:MS),i + k = n → RW no own0 G0 own G r s → τ 1 = P0 r → τ 2 = P0 rb → τ 4 = .int .i64 i →
  Wp ((exL Q orc).lpx 118 0 τ G) fun q=>q.1 = .exit 0 ∧ ∃ own',RW no own0 G0 own' q.2.2 r (zerosN t.u12 k i s):=by
 intro k
 induction k with
 | zero =>
  intro i τ own G s hi w t1 t2 t4
  have o:=(w.keep hrb trb id).trans orb
  have hi':¬ (i:Int) < (3:Int):=by omega
  have hi2:i = n:=by omega
  refine Wp.lp (l118_0 (exL_ok Q orc)) ?_
  simp [-Int.natCast_add,b118_0,clip_t,t1,t2,t4,o,hi',hi2,← hn,zerosN]
  exact ⟨own,w⟩
 | succ k ih =>
  intro i τ own G s hi w t1 t2 t4
  have o:=(w.keep hrb trb id).trans orb
  have hlt:(i:Int) < (3:Int):=by omega
  have hlt2:i < n:=by omega
  have hw:IntKind.wrap .i64 ((i:Int) + 1) = ((i + 1:Nat):Int):=wrap64 (by omega) (by omega)
  refine Wp.lp (l118_0 (exL_ok Q orc)) ?_
  obtain ⟨own2,G2,e2,w2⟩:=w.rm.store orc (IntKind.wrap .i64 (t.u12 + i)) 0
  simp [-Int.natCast_add,b118_0,clip_t,t1,t2,t4,hlt,hlt2,hw,o,e2]
  refine (ih (i + 1) _ _ G2 _ (by omega) (w.trans w2 fun _ _ h=>h) (by simp [clip_t]) (by simp [clip_t]) (by simp [clip_t])).mono ?_
  rintro q ⟨q1,own',q2⟩
  exact ⟨q1,own',by simpa [zerosN] using q2⟩
theorem r15fill_lp (hrb:rb < G0.nx) (trb:own0 rb ≠ 11) (orb:G0.obj rb = some ⟨t.cells,1,false,1⟩) {n:Nat} (hn:t.height = n) (hn9:n ≤ 4096) :
  ∀ (k i:Nat) (τ:Env) (own:Nat → Nat) (G:GS) (s:MS),i + k = n → RW no own0 G0 own G r s → τ 1 = P0 r → τ 2 = P0 rb → τ 4 = .int .i64 i →
  Wp ((exL Q orc).lpx 78 0 τ G) fun q=>q.1 = .exit 0 ∧ ∃ own',RW no own0 G0 own' q.2.2 r (zerosN t.heads k i s):=by
 intro k
 induction k with
 | zero =>
  intro i τ own G s hi w t1 t2 t4
  have o:=(w.keep hrb trb id).trans orb
  have hi':¬ (i:Int) < t.height:=by omega
  have hi2:i = n:=by omega
  refine Wp.lp (l78_0 (exL_ok Q orc)) ?_
  simp [-Int.natCast_add,b78_0,clip_t,t1,t2,t4,o,hi',hi2,← hn,zerosN]
  exact ⟨own,w⟩
 | succ k ih =>
  intro i τ own G s hi w t1 t2 t4
  have o:=(w.keep hrb trb id).trans orb
  have hlt:(i:Int) < t.height:=by omega
  have hlt2:i < n:=by omega
  have hw:IntKind.wrap .i64 ((i:Int) + 1) = ((i + 1:Nat):Int):=wrap64 (by omega) (by omega)
  refine Wp.lp (l78_0 (exL_ok Q orc)) ?_
  obtain ⟨own2,G2,e2,w2⟩:=w.rm.store orc (IntKind.wrap .i64 (t.heads + i)) 0
  simp [-Int.natCast_add,b78_0,clip_t,t1,t2,t4,hlt,hlt2,hw,o,e2]
  refine (ih (i + 1) _ _ G2 _ (by omega) (w.trans w2 fun _ _ h=>h) (by simp [clip_t]) (by simp [clip_t]) (by simp [clip_t])).mono ?_
  rintro q ⟨q1,own',q2⟩
  exact ⟨q1,own',by simpa [zerosN] using q2⟩
theorem tfill_lp (hrb:rb < G0.nx) (trb:own0 rb ≠ 10) (orb:G0.obj rb = some ⟨t.cells,1,false,1⟩) {n:Nat} (hn:t.height = n) (hn9:n ≤ 4096) :
  ∀ (k i:Nat) (τ:Env) (own:Nat → Nat) (G:GS) (s:MS),i + k = n → PW no own0 G0 own G m s → τ 1 = P0 m → τ 2 = P0 rb → τ 13 = .int .i64 t.height → τ 14 = .int .i64 i →
  Wp ((exL Q orc).lpx 20 0 τ G) fun q=>q.1 = .exit 0 ∧ ∃ own',PW no own0 G0 own' q.2.2 m (zerosN t.heads k i s):=by
 intro k
 induction k with
 | zero =>
  intro i τ own G s hi w t1 t2 t13 t4
  have o:=(w.keep hrb trb id).trans orb
  have hi':¬ (i:Int) < t.height:=by omega
  have hi2:i = n:=by omega
  refine Wp.lp (l20_0 (exL_ok Q orc)) ?_
  simp [-Int.natCast_add,b20_0,clip_t,t1,t2,t13,t4,o,hi',hi2,← hn,zerosN]
  exact ⟨own,w⟩
 | succ k ih =>
  intro i τ own G s hi w t1 t2 t13 t4
  have o:=(w.keep hrb trb id).trans orb
  have hlt:(i:Int) < t.height:=by omega
  have hlt2:i < n:=by omega
  have hw:IntKind.wrap .i64 ((i:Int) + 1) = ((i + 1:Nat):Int):=wrap64 (by omega) (by omega)
  refine Wp.lp (l20_0 (exL_ok Q orc)) ?_
  obtain ⟨own2,G2,e2,w2⟩:=w.pm.store orc (IntKind.wrap .i64 (t.heads + i)) 0
  simp [-Int.natCast_add,b20_0,clip_t,t1,t2,t13,t4,hlt,hlt2,hw,o,e2]
  refine (ih (i + 1) _ _ G2 _ (by omega) (w.trans w2 fun _ _ h=>h) (by simp [clip_t]) (by simp [clip_t]) (by simp [clip_t]) (by simp [clip_t])).mono ?_
  rintro q ⟨q1,own',q2⟩
  exact ⟨q1,own',by simpa [zerosN] using q2⟩
theorem lfill_lp (hrb:rb < G0.nx) (trb:own0 rb ≠ 10) (orb:G0.obj rb = some ⟨lmL t,1,false,1⟩) {n:Nat} (hn:(3:Int) = n) (hn9:n ≤ 4096) :
  ∀ (k i:Nat) (τ:Env) (own:Nat → Nat) (G:GS) (s:MS),i + k = n → PW no own0 G0 own G m s → τ 1 = P0 m → τ 2 = P0 rb → τ 13 = .int .i64 i →
  Wp ((exL Q orc).lpx 57 0 τ G) fun q=>q.1 = .exit 0 ∧ ∃ own',PW no own0 G0 own' q.2.2 m (zerosN t.u12 k i s):=by
 intro k
 induction k with
 | zero =>
  intro i τ own G s hi w t1 t2 t4
  have o:=(w.keep hrb trb id).trans orb
  have hi':¬ (i:Int) < (3:Int):=by omega
  have hi2:i = n:=by omega
  refine Wp.lp (l57_0 (exL_ok Q orc)) ?_
  simp [-Int.natCast_add,b57_0,clip_t,t1,t2,t4,o,hi',hi2,← hn,zerosN]
  exact ⟨own,w⟩
 | succ k ih =>
  intro i τ own G s hi w t1 t2 t4
  have o:=(w.keep hrb trb id).trans orb
  have hlt:(i:Int) < (3:Int):=by omega
  have hlt2:i < n:=by omega
  have hw:IntKind.wrap .i64 ((i:Int) + 1) = ((i + 1:Nat):Int):=wrap64 (by omega) (by omega)
  refine Wp.lp (l57_0 (exL_ok Q orc)) ?_
  obtain ⟨G1,e1,x1⟩:=turn_ok orc t i G
  have w1:=w.ext x1
  obtain ⟨own2,G2,e2,w2⟩:=w1.pm.store orc (IntKind.wrap .i64 (t.u12 + i)) 0
  simp [-Int.natCast_add,b57_0,clip_t,t1,t2,t4,hlt,hlt2,hw,o,e1,e2]
  refine (ih (i + 1) _ _ G2 _ (by omega) (w1.trans w2 fun _ _ h=>h) (by simp [clip_t]) (by simp [clip_t]) (by simp [clip_t])).mono ?_
  rintro q ⟨q1,own',q2⟩
  exact ⟨q1,own',by simpa [zerosN] using q2⟩
theorem r12fill_ok (hc:1 ≤ t.u11 ∧ t.u11 ≤ 64) (h:RM own G r s):∃ own' G',(E orc).cl 157 [.agg ⟨[.int .i64 t.u9,.int .i64 t.u10,.int .i64 t.u11]⟩,P0 r] G = some (.tuple #[],G') ∧ RW no own G own' G' r (fillE t s):=by
 have w:Wp (s157 true (exL Q orc) (.agg ⟨[.int .i64 t.u9,.int .i64 t.u10,.int .i64 t.u11]⟩) (P0 r) G) fun q=>q.1 = .tuple #[] ∧ ∃ own',RW no own G own' q.2 r (fillE t s):=by
  obtain ⟨G1,hG1⟩:∃ G1,G1 = G.push ⟨[.int .i64 t.u9,.int .i64 t.u10,.int .i64 t.u11],1,false,1⟩:=⟨_,rfl⟩
  have x1:Ext G G1:=by rw [hG1]; exact (Ext.refl G).push _
  have o1:G1.obj G.nx = some ⟨[.int .i64 t.u9,.int .i64 t.u10,.int .i64 t.u11],1,false,1⟩:=by rw [hG1]; simp
  have n1:G1.nx = G.nx + 1:=by rw [hG1]; rfl
  have em:=many_ok orc t.u11 G1
  simp only [hc.1,hc.2,and_self,decide_true] at em
  have w1:=(RW.refl (B:=no) h).ext x1
  have t0:grown own G 13 G.nx = 13:=grown_new (Nat.le_refl _)
  obtain ⟨own2,G2,e2,w2⟩:=w1.rm.store orc t.u9 0
  have n2:=w2.nx
  have t2:own2 G.nx = 13:=(w2.stp.same (by omega)).trans t0
  have o2:=(w2.keep (show G.nx < G1.nx by omega) (by rw [t0]; decide) id).trans o1
  obtain ⟨n,hn⟩:∃ n:Nat,t.u11 = n:=⟨t.u11.toNat,by omega⟩
  simp [s157,← hG1,o1,em,e2]
  refine Wp.bE ((r12fill_lp orc (t:=t) (rb:=G.nx) (G0:=G2) (own0:=own2) (by omega) (by rw [t2]; decide) o2 hn (by omega) n 0 _ own2 G2 _ (by omega) (RW.refl w2.rm) (by simp) (by simp) (by simp)).mono ?_)
  rintro ⟨e,τ,G5⟩ ⟨rfl,own5,q⟩
  simp only at q
  simp
  refine ⟨own5,(w1.trans w2 fun _ _ h=>h).trans ?_ fun _ _ h=>h⟩
  simpa [fillE,hn] using q
 obtain ⟨⟨v,G'⟩,e1,rfl,own',hh⟩:=w
 exact ⟨own',G',f157 (exL_ok Q orc) _ _ G _ e1,hh⟩
theorem r13fill_ok (hA:t.A.ok) (hc:1 ≤ t.u11 ∧ t.u11 ≤ 64) (h:RM own G r s):∃ own' G',(E orc).cl 118 [.agg ⟨lmL t⟩,P0 r] G = some (.tuple #[],G') ∧ RW no own G own' G' r (fillL t s):=by
 have w:Wp (s118 true (exL Q orc) (.agg ⟨lmL t⟩) (P0 r) G) fun q=>q.1 = .tuple #[] ∧ ∃ own',RW no own G own' q.2 r (fillL t s):=by
  obtain ⟨G1,hG1⟩:∃ G1,G1 = G.push ⟨lmL t,1,false,1⟩:=⟨_,rfl⟩
  have x1:Ext G G1:=by rw [hG1]; exact (Ext.refl G).push _
  have o1:G1.obj G.nx = some ⟨lmL t,1,false,1⟩:=by rw [hG1]; simp
  have n1:G1.nx = G.nx + 1:=by rw [hG1]; rfl
  have w1:=(RW.refl (B:=no) h).ext x1
  have t0:grown own G 13 G.nx = 13:=grown_new (Nat.le_refl _)
  obtain ⟨own2,G2,e2,w2⟩:=rafill_ok orc hA w1.rm
  have n2:=w2.nx
  have t2:own2 G.nx = 13:=(w2.stp.same (by omega)).trans t0
  have o2:=(w2.keep (show G.nx < G1.nx by omega) (by rw [t0]; decide) id).trans o1
  obtain ⟨own3,G3,e3,w3⟩:=r12fill_ok orc hc w2.rm
  have n3:=w3.nx
  have t3:own3 G.nx = 13:=(w3.stp.same (by omega)).trans t2
  have o3:=(w3.keep (show G.nx < G2.nx by omega) (by rw [t2]; decide) id).trans o2
  simp [TW.A] at e2
  simp [s118,← hG1,o1,e2,o2,e3]
  refine Wp.bE ((r13fill_lp orc (t:=t) (rb:=G.nx) (G0:=G3) (own0:=own3) (n:=3) (by omega) (by rw [t3]; decide) o3 rfl (by omega) 3 0 _ own3 G3 _ (by omega) (RW.refl w3.rm) (by simp) (by simp) (by simp)).mono ?_)
  rintro ⟨e,τ,G5⟩ ⟨rfl,own5,q⟩
  simp only at q
  simp
  exact ⟨own5,((w1.trans w2 fun _ _ h=>h).trans w3 fun _ _ h=>h).trans q fun _ _ h=>h⟩
 obtain ⟨⟨v,G'⟩,e1,rfl,own',hh⟩:=w
 exact ⟨own',G',f118 (exL_ok Q orc) _ _ G _ e1,hh⟩
theorem r15fill_ok (hs:t.sound) (hA:t.A.ok) (hc:1 ≤ t.u11 ∧ t.u11 ≤ 64) (h:RM own G r s):∃ own' G',(E orc).cl 78 [t.v,P0 r] G = some (.tuple #[],G') ∧ RW no own G own' G' r (fillT t s):=by
 have s1:=hs.1
 have s2:=hs.2.1
 have w:Wp (s78 true (exL Q orc) t.v (P0 r) G) fun q=>q.1 = .tuple #[] ∧ ∃ own',RW no own G own' q.2 r (fillT t s):=by
  obtain ⟨G1,hG1⟩:∃ G1,G1 = G.push ⟨t.cells,1,false,1⟩:=⟨_,rfl⟩
  have x1:Ext G G1:=by rw [hG1]; exact (Ext.refl G).push _
  have o1:G1.obj G.nx = some ⟨t.cells,1,false,1⟩:=by rw [hG1]; simp
  have n1:G1.nx = G.nx + 1:=by rw [hG1]; rfl
  obtain ⟨Ga,ea,xa⟩:=rsound_ok orc t G1
  simp only [hs,decide_true] at ea
  have na:=xa.nx
  have oa:=(xa.obj G.nx (by omega)).trans o1
  have w1:=(RW.refl (B:=no) h).ext (x1.trans xa)
  have t0:grown own G 13 G.nx = 13:=grown_new (Nat.le_refl _)
  obtain ⟨own2,G2,e2,w2⟩:=r13fill_ok orc hA hc w1.rm
  have n2:=w2.nx
  have t2:own2 G.nx = 13:=(w2.stp.same (by omega)).trans t0
  have o2:=(w2.keep (show G.nx < Ga.nx by omega) (by rw [t0]; decide) id).trans oa
  obtain ⟨n,hn⟩:∃ n:Nat,t.height = n:=⟨t.height.toNat,by omega⟩
  simp [s78,← hG1,o1,ea,oa,e2]
  refine Wp.bE ((r15fill_lp orc (t:=t) (rb:=G.nx) (G0:=G2) (own0:=own2) (by omega) (by rw [t2]; decide) o2 hn (by omega) n 0 _ own2 G2 _ (by omega) (RW.refl w2.rm) (by simp) (by simp) (by simp)).mono ?_)
  rintro ⟨e,τ,G5⟩ ⟨rfl,own5,q⟩
  simp only at q
  simp
  refine ⟨own5,(w1.trans w2 fun _ _ h=>h).trans ?_ fun _ _ h=>h⟩
  simpa [fillT,hn] using q
 obtain ⟨⟨v,G'⟩,e1,rfl,own',hh⟩:=w
 exact ⟨own',G',f78 (exL_ok Q orc) _ _ G _ e1,hh⟩
end
section
variable {m r rb xb mb l:Nat} {own own0 own1:Nat → Nat} {G G0 G1 A:GS} {s:MS} {t:TW} {T:List Value}
abbrev epL (t:TW):List Value:=[.int .i64 t.u9,.int .i64 t.u10,.int .i64 t.u11]
noncomputable abbrev lpE (T:List Value):Lp:=⟨.ready,none,T,[15,16],(subAt [1,1,1,1,0,0] (bodyOf Tryz.f97)),(subAt [1,1,1,1,0,1] (bodyOf Tryz.f97))⟩
structure EpS (t:TW) (own0:Nat → Nat) (A:GS) (l xb mb m:Nat) (T:List Value) (own:Nat → Nat) (G:GS) (s:MS):Prop where
 w:PW no own0 A own G m s
 lp:G.loop l = some (lpE T)
 nl:A.nl ≤ l
 ll:l < G.nl
 ox:G.obj xb = some ⟨epL t,1,false,1⟩
 om:G.obj mb = some ⟨[P0 m],1,false,1⟩
 lx:xb < G.nx
 lm:mb < G.nx
 tx:own xb ≠ 10
 tm:own mb ≠ 10
theorem stp_putLoop {u:Nat} {B:Nat → Prop} {q:Lp} (h:Stp u B own G own1 G1) (hl:G.nl ≤ l):Stp u B own G own1 (G1.putLoop l q):=⟨h.agr,h.mod.putLoop hl q⟩
theorem pm_putLoop {q:Lp} (h:PM own G m s):PM own (G.putLoop l q) m s:=(sepP m s).mono ((sepP m s).kept h (Nat.le_refl _) fun g hg=>by simp) (fun y hy=>⟨by simpa using hy.1,hy.2⟩) Tag.under
theorem pw_putLoop {B:Nat → Prop} {q:Lp} (h:PW B own G own1 G1 m s) (hl:G.nl ≤ l):PW B own G own1 (G1.putLoop l q) m s:=⟨stp_putLoop h.stp hl,pm_putLoop h.pm⟩
theorem ep_round {i a:Int} (hT:T.length = 20) (t3:nth undef T 3 = P0 mb) (h:EpS t own0 A l xb mb m T own G s) :
  Wp ((E orc).rd l [.int .i64 i,.int .i64 a] G) fun q=>q.1 = .bool true ∧ ∃ own',EpS t own0 A l xb mb m T own' q.2 (s.store a 0):=by
 refine Wp.ref (d97_0 (exL_ok Q orc) l T _ _ G h.lp hT) ?_
 obtain ⟨G2,hG2⟩:∃ G2,G2 = G.putLoop l (Lp.setSt (lpE T) .busy):=⟨_,rfl⟩
 have n2:G2.nx = G.nx:=by rw [hG2,nx_putLoop]
 have l1:=h.lp
 have w2:PW no own0 A own G2 m s:=by rw [hG2]; exact pw_putLoop h.w h.nl
 have l2:G2.loop l = some (Lp.setSt (lpE T) .busy):=by rw [hG2]; simp [h.ll]
 have nl2:G2.nl = G.nl:=by rw [hG2]; simp
 have ox2:G2.obj xb = some ⟨epL t,1,false,1⟩:=by rw [hG2]; simpa using h.ox
 have om2:G2.obj mb = some ⟨[P0 m],1,false,1⟩:=by rw [hG2]; simpa using h.om
 obtain ⟨own3,G3,e3,w3⟩:=w2.pm.store orc a 0
 have l3:G3.loop l = some (Lp.setSt (lpE T) .busy):=(w3.stp.mod.loop l (by rw [nl2]; exact h.ll)).trans l2
 have nl3:=w3.stp.mod.nl
 have lx:=h.lx
 have lm:=h.lm
 have ll:=h.ll
 have hrd:roundEnd l .normal G3 = some (.bool true,G3.putLoop l (lpE T)):=by
  rw [roundEnd_some l .normal _ (j:=none) rfl l3]
  rfl
 simp [r97_0,t3,l1,← hG2,om2,e3,hrd]
 refine ⟨own3,pw_putLoop (w2.trans w3 fun _ _ h=>h) h.nl,by simp,h.nl,?_,?_,?_,?_,?_,?_,?_⟩
 ·show l < G3.nl; omega
 ·simpa using (w3.keep (by omega) h.tx id).trans ox2
 ·simpa using (w3.keep (by omega) h.tm id).trans om2
 ·have:=w3.nx; simp; omega
 ·have:=w3.nx; simp; omega
 ·rw [w3.stp.same (by omega)]; exact h.tx
 ·rw [w3.stp.same (by omega)]; exact h.tm
theorem eps_lp (hT:T.length = 20) (t3:nth undef T 3 = P0 mb) (hc:1 ≤ t.u11 ∧ t.u11 ≤ 64):∀ (k i:Nat) (own:Nat → Nat) (τ:Env) (G:GS) (s:MS),(i:Int) + k = t.u11 → τ 0 = .func (.yield l) #[] #[] → τ 1 = P0 xb → τ 5 = .int .i64 t.u11 → τ 6 = .int .i64 i →
  EpS t own0 A l xb mb m T own G s → Wp ((exL Q orc).lpx 176 0 τ G) fun q=>q.1 = .exit 0 ∧ ∃ own',EpS t own0 A l xb mb m T own' q.2.2 (zerosN t.u10 k i s):=by
 intro k
 induction k with
 | zero =>
  intro i own τ G s hi t0 t1 t5 t6 h
  refine Wp.lp (l176_0 (exL_ok Q orc)) ?_
  have hi':¬ (i:Int) < t.u11:=by omega
  simp [-Int.natCast_add,b176_0,clip_t,t0,t1,t5,t6,hi']
  exact ⟨own,h⟩
 | succ k ih =>
  intro i own τ G s hi t0 t1 t5 t6 h
  refine Wp.lp (l176_0 (exL_ok Q orc)) ?_
  have hi':(i:Int) < t.u11:=by omega
  have hw:IntKind.wrap .i64 ((i:Int) + 1) = ((i + 1:Nat):Int):=wrap64 (by omega) (by omega)
  have ox:=h.ox
  obtain ⟨⟨v,G1⟩,e1,rfl,own1,h1⟩:=ep_round orc (i:=i) (a:=IntKind.wrap .i64 (t.u10 + i)) hT t3 h
  simp [-Int.natCast_add,b176_0,clip_t,t0,t1,t5,t6,hi',ox,e1,hw]
  exact ih (i + 1) own1 _ G1 _ (by omega) (by simp [clip_t]) (by simp [clip_t]) (by simp [clip_t]) (by simp [clip_t]) h1
theorem eclose_ok (t:TW) (G:GS):(E orc).cl 141 [.agg ⟨epL t⟩] G = some (.func (.func 176) #[] #[P0 G.nx],G.push ⟨epL t,1,false,1⟩):=by
 refine f141 (exL_ok Q orc) _ G _ ?_
 simp [s141]
theorem efill_ok (hc:1 ≤ t.u11 ∧ t.u11 ≤ 64) (h:PM own G m s):∃ own1 G1,(E orc).cl 97 [.agg ⟨epL t⟩,P0 m] G = some (.tuple #[],G1) ∧ PW no own G own1 G1 m (fillE t s):=by
 obtain ⟨G1,hG1⟩:∃ G1,G1 = (G.push ⟨epL t,1,false,1⟩).push ⟨[P0 m],1,false,1⟩:=⟨_,rfl⟩
 have x1:Ext G G1:=by rw [hG1]; exact ((Ext.refl G).push _).push _
 have o1:G1.obj G.nx = some ⟨epL t,1,false,1⟩:=by rw [hG1]; simp
 have p1:G1.obj (G.nx + 1) = some ⟨[P0 m],1,false,1⟩:=by rw [hG1]; simp
 have n1:G1.nx = G.nx + 2:=by rw [hG1]; rfl
 obtain ⟨G2,hG2⟩:∃ G2,G2 = G1.push ⟨epL t,1,false,1⟩:=⟨_,rfl⟩
 have x2:Ext G1 G2:=by rw [hG2]; exact (Ext.refl _).push _
 have e2:(E orc).cl 140 [.agg ⟨epL t⟩] G1 = some (.bool true,G2):=by
  rw [hG2]
  exact f140 (exL_ok Q orc) _ G1 _ (by simp [s140,hc.1,hc.2])
 have y2:=x1.trans x2
 have n2:=x2.nx
 have o2:=(x2.obj G.nx (by omega)).trans o1
 have p2:=(x2.obj (G.nx + 1) (by omega)).trans p1
 have t0:∀ g,G.nx ≤ g → grown own G 13 g = 13:=fun g hg=>grown_new hg
 have w2:PW no own G (grown own G 13) G2 m s:=(PW.refl h).ext y2
 obtain ⟨own3,G3,e3,w3⟩:=w2.pm.store orc t.u9 0
 have n3:=w3.nx
 have o3:=(w3.keep (show G.nx < G2.nx by omega) (by rw [t0 _ (Nat.le_refl _)]; decide) id).trans o2
 have p3:=(w3.keep (show G.nx + 1 < G2.nx by omega) (by rw [t0 _ (by omega)]; decide) id).trans p2
 have t3o:own3 G.nx = 13:=(w3.stp.same (by omega)).trans (t0 _ (Nat.le_refl _))
 have t3p:own3 (G.nx + 1) = 13:=(w3.stp.same (by omega)).trans (t0 _ (by omega))
 have w:=w2.trans w3 fun _ _ h=>h
 have nl3:=w.stp.mod.nl
 have w':Wp (s97 true (exL Q orc) (.agg ⟨epL t⟩) (P0 m) G) fun q=>q.1 = .tuple #[] ∧ ∃ own1,PW no own G own1 q.2 m (fillE t s):=by
  simp [s97,← hG1,o1,e2,o2,p2,e3,o3,eclose_ok]
  generalize hTT:lst 20 (tu (nth undef _) _) = T
  have hT:T.length = 20:=by rw [← hTT]; exact length_lst 20 _
  have t3:nth undef T 3 = P0 (G.nx + 1):=by rw [← hTT,nth_lst]; simp [clip_t]
  clear hTT
  obtain ⟨G5,hG5⟩:∃ G5,G5 = (G3.push ⟨epL t,1,false,1⟩).pushLoop (lpE T):=⟨_,rfl⟩
  have x5:Ext G3 G5:=by rw [hG5]; exact ((Ext.refl G3).push _).pushLoop _
  have n5:G5.nx = G3.nx + 1:=by rw [hG5]; rfl
  have l5:G5.loop G3.nl = some (lpE T):=by rw [hG5]; simp
  have w5:PW no own G (grown own3 G3 13) G5 m (s.store t.u9 0):=w.ext x5
  have hS:EpS t own G G3.nl G3.nx (G.nx + 1) m T (grown own3 G3 13) G5 (s.store t.u9 0):=⟨w5,l5,nl3,by rw [hG5]; simp,by rw [hG5]; simp,(x5.obj _ (by omega)).trans p3,by omega,by omega,by rw [grown_new (Nat.le_refl _)]; decide,by rw [grown_agr _ (by omega),t3p]; decide⟩
  have ox:=hS.ox
  have wl:Wp (s176 true (exL Q orc) (.func (.yield G3.nl) #[] #[]) (P0 G3.nx) G5) fun q=>q.1 = .tuple #[] ∧ ∃ own',EpS t own G G3.nl G3.nx (G.nx + 1) m T own' q.2 (fillE t s):=by
   simp [s176,ox]
   refine Wp.bE ((eps_lp orc hT t3 hc t.u11.toNat 0 _ _ G5 _ (by omega) (by simp [clip_t]) (by simp [clip_t]) (by simp [clip_t]) (by simp [clip_t]) hS).mono ?_)
   rintro ⟨e,τ,G'⟩ ⟨rfl,own',h'⟩
   simp
   exact ⟨own',h'⟩
  obtain ⟨⟨v,G6⟩,e6,rfl,own6,h6⟩:=wl
  have e6':=f176 (exL_ok Q orc) _ _ G5 _ e6
  rw [← hG5]
  simp only [List.nil_append,List.singleton_append,List.cons_append,e6']
  rw [xRangeEnd_some G3.nl T _ G6 h6.lp (by simp) rfl]
  simp
  exact ⟨own6,pw_putLoop h6.w nl3⟩
 obtain ⟨⟨v,G'⟩,e1,rfl,own1,h1⟩:=w'
 exact ⟨own1,G',f97 (exL_ok Q orc) _ _ G _ e1,h1⟩
theorem lfill_ok (ht:orc 236 = false) (hA:t.A.ok) (hc:1 ≤ t.u11 ∧ t.u11 ≤ 64) (h:PM own G m s):∃ own' G',(E orc).cl 57 [.agg ⟨lmL t⟩,P0 m] G = some (.tuple #[],G') ∧ PW no own G own' G' m (fillL t s):=by
 have w:Wp (s57 true (exL Q orc) (.agg ⟨lmL t⟩) (P0 m) G) fun q=>q.1 = .tuple #[] ∧ ∃ own',PW no own G own' q.2 m (fillL t s):=by
  obtain ⟨G1,hG1⟩:∃ G1,G1 = G.push ⟨lmL t,1,false,1⟩:=⟨_,rfl⟩
  have x1:Ext G G1:=by rw [hG1]; exact (Ext.refl G).push _
  have o1:G1.obj G.nx = some ⟨lmL t,1,false,1⟩:=by rw [hG1]; simp
  have n1:G1.nx = G.nx + 1:=by rw [hG1]; rfl
  have w1:=(PW.refl (B:=no) h).ext x1
  have t0:grown own G 13 G.nx = 13:=grown_new (Nat.le_refl _)
  obtain ⟨own2,G2,e2,w2⟩:=afill_ok orc ht hA w1.pm
  have n2:=w2.nx
  have t2:own2 G.nx = 13:=(w2.stp.same (by omega)).trans t0
  have o2:=(w2.keep (show G.nx < G1.nx by omega) (by rw [t0]; decide) id).trans o1
  obtain ⟨own3,G3,e3,w3⟩:=efill_ok orc hc w2.pm
  have n3:=w3.nx
  have t3:own3 G.nx = 13:=(w3.stp.same (by omega)).trans t2
  have o3:=(w3.keep (show G.nx < G2.nx by omega) (by rw [t2]; decide) id).trans o2
  simp [TW.A] at e2
  simp [s57,← hG1,o1,e2,o2,e3]
  refine Wp.bE ((lfill_lp orc (t:=t) (rb:=G.nx) (G0:=G3) (own0:=own3) (n:=3) (by omega) (by rw [t3]; decide) o3 rfl (by omega) 3 0 _ own3 G3 _ (by omega) (PW.refl w3.pm) (by simp) (by simp) (by simp)).mono ?_)
  rintro ⟨e,τ,G5⟩ ⟨rfl,own5,q⟩
  simp only at q
  simp
  exact ⟨own5,((w1.trans w2 fun _ _ h=>h).trans w3 fun _ _ h=>h).trans q fun _ _ h=>h⟩
 obtain ⟨⟨v,G'⟩,e1,rfl,own',hh⟩:=w
 exact ⟨own',G',f57 (exL_ok Q orc) _ _ G _ e1,hh⟩
theorem tfill_ok (ht:orc 236 = false) (hs:t.sound) (hA:t.A.ok) (hc:1 ≤ t.u11 ∧ t.u11 ≤ 64) (h:PM own G m s):∃ own' G',(E orc).cl 20 [t.v,P0 m] G = some (.tuple #[],G') ∧ PW no own G own' G' m (fillT t s):=by
 have s1:=hs.1
 have s2:=hs.2.1
 have w:Wp (s20 true (exL Q orc) t.v (P0 m) G) fun q=>q.1 = .tuple #[] ∧ ∃ own',PW no own G own' q.2 m (fillT t s):=by
  obtain ⟨G1,hG1⟩:∃ G1,G1 = G.push ⟨t.cells,1,false,1⟩:=⟨_,rfl⟩
  have x1:Ext G G1:=by rw [hG1]; exact (Ext.refl G).push _
  have o1:G1.obj G.nx = some ⟨t.cells,1,false,1⟩:=by rw [hG1]; simp
  have n1:G1.nx = G.nx + 1:=by rw [hG1]; rfl
  obtain ⟨Ga,ea,xa⟩:=sound_ok orc t G1
  simp only [hs,decide_true] at ea
  have na:=xa.nx
  have oa:=(xa.obj G.nx (by omega)).trans o1
  have w1:=(PW.refl (B:=no) h).ext (x1.trans xa)
  have t0:grown own G 13 G.nx = 13:=grown_new (Nat.le_refl _)
  obtain ⟨own2,G2,e2,w2⟩:=lfill_ok orc ht hA hc w1.pm
  have n2:=w2.nx
  have t2:own2 G.nx = 13:=(w2.stp.same (by omega)).trans t0
  have o2:=(w2.keep (show G.nx < Ga.nx by omega) (by rw [t0]; decide) id).trans oa
  obtain ⟨n,hn⟩:∃ n:Nat,t.height = n:=⟨t.height.toNat,by omega⟩
  simp [s20,← hG1,o1,ea,oa,e2,o2]
  refine Wp.bE ((tfill_lp orc (t:=t) (rb:=G.nx) (G0:=G2) (own0:=own2) (by omega) (by rw [t2]; decide) o2 hn (by omega) n 0 _ own2 G2 _ (by omega) (PW.refl w2.pm) (by simp) (by simp) (by simp) (by simp)).mono ?_)
  rintro ⟨e,τ,G5⟩ ⟨rfl,own5,q⟩
  simp only at q
  simp
  refine ⟨own5,(w1.trans w2 fun _ _ h=>h).trans ?_ fun _ _ h=>h⟩
  simpa [fillT,hn] using q
 obtain ⟨⟨v,G'⟩,e1,rfl,own',hh⟩:=w
 exact ⟨own',G',f20 (exL_ok Q orc) _ _ G _ e1,hh⟩
end
end Go.Proofs.YtedmgpchggogpaaGreat.Lift
