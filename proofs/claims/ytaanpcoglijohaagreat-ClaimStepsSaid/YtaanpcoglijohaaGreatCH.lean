import Derived.Test.YtaanpcoglijohaaGreatCG
import Derived.Test.YtaanpcoglijohaaGreatCD
set_option linter.unusedVariables false
set_option linter.unusedSimpArgs false
set_option maxRecDepth 20000
namespace Go.Proofs.YtaanpcoglijohaaGreat.Lift
open Go Go.Proofs.YtaanpcoglijohaaGreat.Gh Go.Proofs
def ClS.new (t:TW):ClS:=⟨1,0,0,0,0,0,0,0,false,0,FindS.new t 0,.looks⟩
def itemV (k j:Int):Value:=.agg ⟨[.int .u64 k,.int .i64 j]⟩
def ClS.ik (x:ClS):Int:=if x.line ≠ 99 then 0 else if x.err ≠ 0 then 0 else x.key
def ClS.ij (x:ClS):Int:=if x.line ≠ 99 then 0 else if x.err ≠ 0 then 0 else x.job
def ClS.ie (x:ClS):Int:=if x.line ≠ 99 then 14 else x.err
section
variable {look:Bool} {own own' own1 own2:Nat → Nat} {tag tg m r b:Nat} {t:TW} {G G' G1 G2:GS} {s s' s1:MS} {x:ClS} {fp rp:Option Addr}
theorem ClS.new_ok (hs:t.sound):(ClS.new t).ok look t:=⟨by simp [lineOk,ClS.new],U_zero',U_zero',by simp [ClS.new],by simp [ClS.new],by have:=hs.1; simp [ClS.new]; omega,U_zero',U_zero',by simp [ClS.new],by simp [ClS.new],by simp [ClS.new],by simp [ClS.new]⟩
theorem extPP {G:GS} (o o':GObj):Ext G ((G.push o).put G.nx o'):=((Ext.refl G).push _).put (Nat.le_refl _) _
theorem citem_ok (orc:FuncId → Bool) (ho:G.obj b = some (clX t x fp rp)) (hb:b < G.nx):∃ G',(E orc).cl 163 [P0 b] G = some (.tuple #[itemV x.ik x.ij,.int .i64 x.ie],G') ∧ Ext G G':=by
 have hne:¬ b = G.nx:=by omega
 have w:Wp (s163 true (exL Q orc) (P0 b) G) fun r=>r.1 = .tuple #[itemV x.ik x.ij,.int .i64 x.ie] ∧ Ext G r.2:=by
  unfold ClS.ik ClS.ij ClS.ie itemV
  by_cases e:x.line = 99
  ·by_cases e2:x.err = 0
   ·simp [s163,ho,hne,splice_put,splice_end,e,e2]
    exact extPP _ _
   ·simp [s163,ho,hne,splice_put,splice_end,e,e2]
    exact (((Ext.refl G).push _).room _).put (Nat.le_refl _) _
  ·simp [s163,ho,hne,splice_put,splice_end,e]
   exact extPP _ _
 obtain ⟨⟨v,G'⟩,e1,rfl,e3⟩:=w
 exact ⟨G',f163 (exL_ok Q orc) _ G _ e1,e3⟩
theorem cItem_ok (orc:FuncId → Bool) (ho:G.obj b = some (clX t x fp rp)) (hb:b < G.nx):∃ G',(E orc).cl 95 [P0 b] G = some (.tuple #[itemV x.ik x.ij,.int .i64 x.ie],G') ∧ Ext G G':=by
 obtain ⟨G1,hG1⟩:∃ G1,G1 = G.push ⟨z92,1,false,1⟩:=⟨_,rfl⟩
 have x1:Ext G G1:=by rw [hG1]; exact (Ext.refl G).push _
 have p1:G1.obj G.nx = some ⟨z92,1,false,1⟩:=by rw [hG1]; simp
 have n1:G1.nx = G.nx + 1:=by rw [hG1]; rfl
 obtain ⟨G2,e2,x2⟩:=citem_ok orc ((x1.obj b hb).trans ho) (by omega)
 have p2:=(x2.obj G.nx (by omega)).trans p1
 have w:Wp (s95 true (exL Q orc) (P0 b) G) fun r=>r.1 = .tuple #[itemV x.ik x.ij,.int .i64 x.ie] ∧ Ext G r.2:=by
  unfold itemV at *
  simp [s95,← hG1,e2,p2,splice_put,splice_end]
  exact (x1.trans x2).put (Nat.le_refl _) _
 obtain ⟨⟨v,G'⟩,e1,rfl,e3⟩:=w
 exact ⟨G',f95 (exL_ok Q orc) _ G _ e1,e3⟩
theorem cBy_ok (orc:FuncId → Bool) (ho:G.obj b = some (clX t x fp rp)):(E orc).cl 96 [P0 b] G = some (.int .u64 x.by_,G) :=
 f96 (exL_ok Q orc) _ G _ (by simp [s96,ho])
theorem cClaimed_ok (orc:FuncId → Bool) (ho:G.obj b = some (clX t x fp rp)):(E orc).cl 97 [P0 b] G = some (.bool x.mine,G) :=
 f97 (exL_ok Q orc) _ G _ (by simp [s97,ho])
theorem next0_s (hs:t.sound):nextI t (-1) 0 = t.heads:=by
 have:=hs.1
 unfold nextI atI
 rw [if_pos (by decide),if_pos hs,if_pos rfl,if_pos (by omega)]
 omega
theorem seekc_ok (orc:FuncId → Bool) (hs:t.sound) (G:GS):∃ G',(E orc).cl 86 [t.v] G = some (.agg ⟨(clX t (ClS.new t) none none).cells⟩,G') ∧ Ext G G':=by
 obtain ⟨G1,hG1⟩:∃ G1,G1 = (G.push ⟨t.cells,1,false,1⟩).push ⟨z162,1,false,1⟩:=⟨_,rfl⟩
 have x1:Ext G G1:=by rw [hG1]; exact ((Ext.refl G).push _).push _
 have n1:G1.nx = G.nx + 2:=by rw [hG1]; rfl
 have o1:G1.obj G.nx = some ⟨t.cells,1,false,1⟩:=by rw [hG1]; simp
 have p1:G1.obj (G.nx + 1) = some ⟨z162,1,false,1⟩:=by rw [hG1]; simp
 obtain ⟨G2,e2,x2⟩:=tnext_ok orc t (-1) 0 G1
 rw [next0_s hs] at e2
 have o2:=(x2.obj G.nx (by omega)).trans o1
 have p2:=(x2.obj (G.nx + 1) (by omega)).trans p1
 have h1:¬ t.heads < 0:=by have:=hs.2.2.2.2.2.2.1; omega
 have w:Wp (s86 true (exL Q orc) t.v G) fun r=>r.1 = .agg ⟨(clX t (ClS.new t) none none).cells⟩ ∧ Ext G r.2:=by
  unfold ClS.new
  simp [s86,← hG1,o1,e2,h1,o2,p2,splice_put,splice_end,splice_succ]
  exact (x1.trans x2).put (by omega) _
 obtain ⟨⟨v,G'⟩,e1,rfl,e3⟩:=w
 exact ⟨G',f86 (exL_ok Q orc) _ G _ e1,e3⟩
theorem newclaim_ok (orc:FuncId → Bool) (hs:t.sound) (G:GS):∃ b G',(E orc).cl 36 [t.v] G = some (P0 b,G') ∧ Ext G G' ∧ G'.obj b = some (clX t (ClS.new t) none none) ∧ G.nx ≤ b ∧ b < G'.nx:=by
 obtain ⟨G1,hG1⟩:∃ G1,G1 = G.push ⟨t.cells,1,false,1⟩:=⟨_,rfl⟩
 have x1:Ext G G1:=by rw [hG1]; exact (Ext.refl G).push _
 have o1:G1.obj G.nx = some ⟨t.cells,1,false,1⟩:=by rw [hG1]; simp
 obtain ⟨G2,e2,x2⟩:=seekc_ok orc hs G1
 have y2:=x1.trans x2
 have w:Wp (s36 true (exL Q orc) t.v G) fun r=>r = (P0 G2.nx,G2.push (clX t (ClS.new t) none none)):=by
  unfold ClS.new at e2 ⊢
  simp at e2
  simp [s36,← hG1,o1,e2]
 obtain ⟨r,e3,rfl⟩:=w
 exact ⟨_,_,f36 (exL_ok Q orc) _ G _ e3,y2.push _,by simp,y2.nx,by simp⟩
end
end Go.Proofs.YtaanpcoglijohaaGreat.Lift
set_option linter.unusedVariables false
set_option linter.unusedSimpArgs false
set_option maxRecDepth 20000
namespace Go.Proofs.YtaanpcoglijohaaGreat.Lift
open Go Go.Proofs.YtaanpcoglijohaaGreat.Gh Go.Proofs
abbrev pkB (t:TW) (ln a i w k j by_ er:Int):GObj:=⟨[.int .i64 t.nodes,.int .i64 t.heads,.int .i64 t.height,.int .i64 t.top,.int .i64 t.links,.int .i64 t.size,.int .i64 t.u6,.int .i64 t.u7,.int .i64 t.u8,.int .i64 t.u9,.int .i64 t.u10,.int .i64 t.u11,.int .i64 t.u12,.int .i64 ln,.int .u64 a,.int .i64 i,.int .u64 w,.int .u64 k,.int .i64 j,.int .u64 by_,.bool true,.int .i64 er],1,false,1⟩
def pkl (l:Int):Int:=if l = 9 then 4 else if l = 91 then 5 else l
abbrev pkX (t:TW) (x:ClS):GObj:=pkB t (pkl x.line) x.a x.i x.w x.key x.job x.by_ x.err
section
variable {own own':Nat → Nat} {tag m r b:Nat} {t:TW} {G G':GS} {s:MS} {ln a i w k j by_ er:Int} {x:ClS}
theorem pload_ok (orc:FuncId → Bool) (h:PM own G m s) (ht:tag ≠ 10) (hb:At own tag G b) (ho:G.obj b = some (pkB t ln a i w k j by_ er)) (part:Int) :
  ∃ own1 G1,(E orc).cl 150 [P0 b,P0 m,.int .i64 part] G = some (.int .u64 (s.load (atI t i part)).new,G1) ∧ PW (Own own tag) own G own1 G1 m (s.load (atI t i part)) ∧ At own1 tag G1 b ∧ G1.obj b = some (pkB t ln a i w k j a er):=by
 obtain ⟨G1,hG1⟩:∃ G1,G1 = G.put b (pkB t ln a i w k j a er):=⟨_,rfl⟩
 have w1:PW (Own own tag) own G own G1 m s:=by rw [hG1]; exact (PW.refl h).putT hb.tag ht _
 have hb1:At own tag G1 b:=by rw [hG1]; exact hb.putO _ _
 have o1:G1.obj b = some (pkB t ln a i w k j a er):=by rw [hG1]; simp
 obtain ⟨G2,e2,x2⟩:=tat_ok orc t i part (G1.room 13)
 have y2:=((Ext.refl G1).room 13).trans x2
 have w2:=w1.extT y2 tag
 have hb2:=hb1.extO y2 tag
 have o2:=(y2.obj b hb1.lt).trans o1
 generalize grown own G1 tag = own2 at *
 obtain ⟨own3,G3,e3,w3⟩:=w2.pm.load orc (atI t i part)
 have o3:=(hb2.keep ht w3).trans o2
 refine ⟨own3,G3,f150 (exL_ok Q orc) _ _ _ G _ ?_,w2.tr w3.any,hb2.to w3.nx w3.stp.agr,o3⟩
 simp [s150,ho,← hG1,o1,e2,e3]
theorem pjob_ok (orc:FuncId → Bool) (h:PM own G m s) (hs:s.ok) (ht:tag ≠ 10) (hb:At own tag G b) (ho:G.obj b = some (pkB t ln a i w k j by_ er)) :
  ∃ own1 G1,(E orc).cl 151 [P0 b,P0 m] G = some (.tuple #[],G1) ∧ PW (Own own tag) own G own1 G1 m (s.load (atI t i 1)) ∧ At own1 tag G1 b ∧ G1.obj b = some (pkB t ln a i w k ((s.load (atI t i 1)).new % 65536) a er):=by
 obtain ⟨own1,G1,e1,w1,hb1,o1⟩:=pload_ok orc h ht hb ho 1
 have hu:=(hs.load (atI t i 1)).2
 generalize s.load (atI t i 1) = s' at *
 generalize s'.new = v at *
 have h1:=hu.1
 have e2:=and_low hu
 have e3:IntKind.wrap .i64 (v % 65536) = v % 65536:=wrap64 (by omega) (by omega)
 refine ⟨own1,G1.put b (pkB t ln a i w k (v % 65536) a er),f151 (exL_ok Q orc) _ _ G _ ?_,w1.putT hb1.tag ht _,hb1.putO _ _,by simp⟩
 simp [s151,e1,e2,e3,o1]
theorem pfirst_ok (orc:FuncId → Bool) (hto:orc 241 = false) (hs:t.sound) (h:PM own G m s) (hm:s.ok) (hw:U x.w) (h3:x.line = 3 → mkB ≤ x.w) (ht:tag ≠ 10) (hb:At own tag G b) (ho:G.obj b = some (pkX t x)) (hl:x.line = 1 ∨ x.line = 2 ∨ x.line = 3) :
  ∃ own1 G1,(E orc).cl 149 [P0 b,P0 m] G = some (.tuple #[],G1) ∧ PW (Own own tag) own G own1 G1 m (x.step true t s).2 ∧ At own1 tag G1 b ∧ G1.obj b = some (pkX t (x.step true t s).1):=by
 rcases hl with e | e | e
 all_goals unfold ClS.step; simp only [e]
 ·simp [ClS.l1]
  have hn:=(hm.load (nextI t (-1) 0)).2
  obtain ⟨G1,hG1⟩:∃ G1,G1 = G.put b (pkB t 1 x.a x.i x.w x.key x.job 0 x.err):=⟨_,rfl⟩
  have w1:PW (Own own tag) own G own G1 m s:=by rw [hG1]; exact (PW.refl h).putT hb.tag ht _
  have hb1:At own tag G1 b:=by rw [hG1]; exact hb.putO _ _
  have o1:G1.obj b = some (pkB t 1 x.a x.i x.w x.key x.job 0 x.err):=by rw [hG1]; simp
  obtain ⟨G2,e2,x2⟩:=tnext_ok orc t (-1) 0 G1
  have w2:=w1.extT x2 tag
  have hb2:=hb1.extO x2 tag
  have o2:=(x2.obj b hb1.lt).trans o1
  generalize grown own G1 tag = own2 at *
  obtain ⟨own3,G3,e3,w3⟩:=w2.pm.load orc (nextI t (-1) 0)
  generalize s.load (nextI t (-1) 0) = s' at *
  generalize s'.new = v at *
  have w3':=w2.tr w3.any
  have hb3:=hb2.to w3.nx w3.stp.agr
  have o3:=(hb2.keep ht w3).trans o2
  obtain ⟨G4,hG4⟩:∃ G4,G4 = G3.put b (pkB t 1 v x.i x.w x.key x.job 0 x.err):=⟨_,rfl⟩
  have w4:PW (Own own tag) own G own3 G4 m s':=by rw [hG4]; exact w3'.putT hb3.tag ht _
  have hb4:At own3 tag G4 b:=by rw [hG4]; exact hb3.putO _ _
  have o4:G4.obj b = some (pkB t 1 v x.i x.w x.key x.job 0 x.err):=by rw [hG4]; simp
  obtain ⟨G5,e5,x5⟩:=gettop_ok orc hto hn G4
  obtain ⟨G6,hG6⟩:∃ G6,G6 = (G5.push ⟨z270,1,false,1⟩).put G5.nx ⟨[.int .i64 (v % 65536 - 1),.int .i64 (v / 65536)],1,false,1⟩:=⟨_,rfl⟩
  have x6:Ext G4 G6:=by rw [hG6]; exact (x5.push _).put x5.nx _
  have p6:G6.obj G5.nx = some ⟨[.int .i64 (v % 65536 - 1),.int .i64 (v / 65536)],1,false,1⟩:=by rw [hG6]; simp
  have o6:=(x6.obj b hb4.lt).trans o4
  have w6:=w4.extT x6 tag
  have hb6:=hb4.extO x6 tag
  generalize grown own3 G4 tag = own6 at *
  obtain ⟨G7,hG7⟩:∃ G7,G7 = ((G6.put b (pkB t 1 v (v % 65536 - 1) x.w x.key x.job 0 x.err)).put b (pkB t 2 v (v % 65536 - 1) x.w x.key x.job 0 x.err)).room 20:=⟨_,rfl⟩
  have w7':=(w6.putT hb6.tag ht (pkB t 1 v (v % 65536 - 1) x.w x.key x.job 0 x.err)).putT hb6.tag ht (pkB t 2 v (v % 65536 - 1) x.w x.key x.job 0 x.err)
  have hb7':=(hb6.putO b (pkB t 1 v (v % 65536 - 1) x.w x.key x.job 0 x.err)).putO b (pkB t 2 v (v % 65536 - 1) x.w x.key x.job 0 x.err)
  have w7:=w7'.extT ((Ext.refl _).room 20) tag
  have hb7:=hb7'.extO ((Ext.refl _).room 20) tag
  rw [← hG7] at w7 hb7
  generalize grown own6 _ tag = own7 at *
  have o7:G7.obj b = some (pkB t 2 v (v % 65536 - 1) x.w x.key x.job 0 x.err):=by rw [hG7]; simp
  have hbn:¬ b = G5.nx:=by have:=hb4.lt; have:=x5.nx; omega
  by_cases c1:v % 65536 - 1 < 0
  ·rw [if_pos (.inl c1)]
   refine ⟨own7,(G7.put b (pkB t 99 v (v % 65536 - 1) x.w x.key x.job 0 x.err)).put b (pkB t 99 v (v % 65536 - 1) x.w x.key x.job 0 15),f149 (exL_ok Q orc) _ _ G _ ?_,(w7.putT hb7.tag ht _).putT hb7.tag ht _,(hb7.putO _ _).putO _ _,by simp [pkl]⟩
   simp [s149,ho,pkl,e,← hG1,o1,e2,e3,o3,← hG4,o4,e5,splice_put,splice_end,← hG6,p6,o6,hbn,← hG7,o7,c1]
  ·by_cases c2:t.size ≤ v % 65536 - 1
   ·rw [if_pos (.inr c2)]
    refine ⟨own7,(G7.put b (pkB t 99 v (v % 65536 - 1) x.w x.key x.job 0 x.err)).put b (pkB t 99 v (v % 65536 - 1) x.w x.key x.job 0 15),f149 (exL_ok Q orc) _ _ G _ ?_,(w7.putT hb7.tag ht _).putT hb7.tag ht _,(hb7.putO _ _).putO _ _,by simp [pkl]⟩
    simp [s149,ho,pkl,e,← hG1,o1,e2,e3,o3,← hG4,o4,e5,splice_put,splice_end,← hG6,p6,o6,hbn,← hG7,o7,c1,c2]
   ·rw [if_neg (by omega)]
    refine ⟨own7,G7,f149 (exL_ok Q orc) _ _ G _ ?_,w7,hb7,by rw [o7]; rfl⟩
    simp [s149,ho,pkl,e,← hG1,o1,e2,e3,o3,← hG4,o4,e5,splice_put,splice_end,← hG6,p6,o6,hbn,← hG7,o7,c1,c2]
 ·simp [ClS.l2]
  have hn:=(hm.load (atI t x.i 4)).2
  obtain ⟨own1,G1,e1,w1,hb1,o1⟩:=pload_ok orc h ht hb ho 4
  generalize s.load (atI t x.i 4) = s' at *
  generalize s'.new = v at *
  obtain ⟨G2,hG2⟩:∃ G2,G2 = (G1.put b (pkB t 2 x.a x.i v x.key x.job x.a x.err)).put b (pkB t 4 x.a x.i v x.key x.job x.a x.err):=⟨_,rfl⟩
  have w2:PW (Own own tag) own G own1 G2 m s':=by rw [hG2]; exact (w1.putT hb1.tag ht _).putT hb1.tag ht _
  have hb2:At own1 tag G2 b:=by rw [hG2]; exact (hb1.putO _ _).putO _ _
  have o2:G2.obj b = some (pkB t 4 x.a x.i v x.key x.job x.a x.err):=by rw [hG2]; simp
  have e3:=lmarked_ok orc hn G2
  by_cases c1:mkB ≤ v
  ·have c1':9223372036854775808 ≤ v:=c1
   rw [if_pos c1]
   refine ⟨own1,G2.put b (pkB t 3 x.a x.i v x.key x.job x.a x.err),f149 (exL_ok Q orc) _ _ G _ ?_,w2.putT hb2.tag ht _,hb2.putO _ _,by simp [pkl]⟩
   simp [s149,ho,pkl,e,e1,o1,← hG2,o2,e3,c1']
  ·have c1':¬ 9223372036854775808 ≤ v:=c1
   rw [if_neg c1]
   refine ⟨own1,G2,f149 (exL_ok Q orc) _ _ G _ ?_,w2,hb2,by rw [o2]; rfl⟩
   simp [s149,ho,pkl,e,e1,o1,← hG2,o2,e3,c1']
 ·simp [ClS.l3]
  obtain ⟨G1,hG1⟩:∃ G1,G1 = G.put b (pkB t 3 x.a x.i x.w x.key x.job 0 x.err):=⟨_,rfl⟩
  have w1:PW (Own own tag) own G own G1 m s:=by rw [hG1]; exact (PW.refl h).putT hb.tag ht _
  have hb1:At own tag G1 b:=by rw [hG1]; exact hb.putO _ _
  have o1:G1.obj b = some (pkB t 3 x.a x.i x.w x.key x.job 0 x.err):=by rw [hG1]; simp
  obtain ⟨G2,e2,x2⟩:=tnext_ok orc t (-1) 0 (G1.room 16)
  have y2:=((Ext.refl G1).room 16).trans x2
  have w2:=w1.extT y2 tag
  have hb2:=hb1.extO y2 tag
  have o2:=(y2.obj b hb1.lt).trans o1
  have e3:=lmarks_f orc hw (h3 e) G2
  generalize grown own G1 tag = own2 at *
  obtain ⟨own4,G4,e4,w4⟩:=w2.pm.cas orc (nextI t (-1) 0) x.a (x.w - mkB)
  have w4':=w2.tr w4.any
  have hb4:=hb2.to w4.nx w4.stp.agr
  have o4:=(hb2.keep ht w4).trans o2
  refine ⟨own4,G4.put b (pkB t 1 x.a x.i x.w x.key x.job 0 x.err),f149 (exL_ok Q orc) _ _ G _ ?_,w4'.putT hb4.tag ht _,hb4.putO _ _,by simp [pkl]⟩
  simp [s149,ho,pkl,e,← hG1,o1,e2,o2,e3,e4,o4]
end
end Go.Proofs.YtaanpcoglijohaaGreat.Lift
set_option linter.unusedVariables false
set_option linter.unusedSimpArgs false
set_option maxRecDepth 20000
namespace Go.Proofs.YtaanpcoglijohaaGreat.Lift
open Go Go.Proofs.YtaanpcoglijohaaGreat.Gh Go.Proofs
section
variable {own own' own1 own2:Nat → Nat} {tag tg m r b:Nat} {t:TW} {G G' G1 G2:GS} {s s' s1:MS} {x:ClS}
def PkP (own:Nat → Nat) (tag:Nat) (t:TW) (G:GS) (b:Nat) (x:ClS):Prop:=At own tag G b ∧ G.obj b = some (pkX t x)
theorem pkl_99 {l:Int} (h:lineOk true l):(pkl l = 99 ↔ l = 99) ∧ (pkl l = 4 ↔ l = 9) ∧ (pkl l = 5 ↔ l = 91):=by
 unfold lineOk at h; unfold pkl; split
 ·omega
 ·split
  ·omega
  ·simp at h; omega
theorem pdone_ok (orc:FuncId → Bool) (ho:G.obj b = some (pkX t x)):(E orc).cl 148 [P0 b] G = some (.bool (decide (pkl x.line = 99)),G):=f148 (exL_ok Q orc) _ G _ (by simp [s148,ho])
theorem pstep_ok (orc:FuncId → Bool) (hto:orc 241 = false) (hs:t.sound) (hlo:t.lok) (h:PM own G m s) (hm:s.ok) (hx:x.ok true t) (ht:tag ≠ 10) (hp:PkP own tag t G b x) :
  ∃ own1 G1,(E orc).cl 89 [P0 b,P0 m] G = some (.bool (decide ((x.step true t s).1.line = 99)),G1) ∧ PW (Own own tag) own G own1 G1 m (x.step true t s).2 ∧ PkP own1 tag t G1 b (x.step true t s).1:=by
 have hx':=hx.step hs hlo hm
 obtain ⟨hb,ho⟩:=hp
 have k9:=(pkl_99 hx.line).1
 have k9':=(pkl_99 hx'.1.line).1
 have e1:=pdone_ok orc ho
 rcases hx.line with e | e | e | e | e | e | ⟨k,-⟩
 ·obtain ⟨own1,G1,e2,w1,b1,o1⟩:=pfirst_ok orc hto hs h hm hx.w hx.m3 ht hb ho (.inl e)
  refine ⟨own1,G1,f89 (exL_ok Q orc) _ _ G _ ?_,w1,b1,o1⟩
  simp [jb89_0,j89_0,sb89,s89,j89_0,jb89_0,clip_t,e1,e,pkl,ho,e2,o1]
  simpa [pkl] using k9'
 ·obtain ⟨own1,G1,e2,w1,b1,o1⟩:=pfirst_ok orc hto hs h hm hx.w hx.m3 ht hb ho (.inr (.inl e))
  refine ⟨own1,G1,f89 (exL_ok Q orc) _ _ G _ ?_,w1,b1,o1⟩
  simp [jb89_0,j89_0,sb89,s89,j89_0,jb89_0,clip_t,e1,e,pkl,ho,e2,o1]
  simpa [pkl] using k9'
 ·obtain ⟨own1,G1,e2,w1,b1,o1⟩:=pfirst_ok orc hto hs h hm hx.w hx.m3 ht hb ho (.inr (.inr e))
  refine ⟨own1,G1,f89 (exL_ok Q orc) _ _ G _ ?_,w1,b1,o1⟩
  simp [jb89_0,j89_0,sb89,s89,j89_0,jb89_0,clip_t,e1,e,pkl,ho,e2,o1]
  simpa [pkl] using k9'
 ·have hst:x.step true t s = x.l9 t s:=by unfold ClS.step; simp [e]
  rw [hst]; unfold ClS.l9; simp only
  obtain ⟨own1,G1,e2,w1,b1,o1⟩:=pload_ok orc h ht hb ho 0
  generalize s.load (atI t x.i 0) = s' at *
  generalize s'.new = v at *
  refine ⟨own1,(G1.put b (pkB t 4 x.a x.i x.w v x.job x.a x.err)).put b (pkB t 5 x.a x.i x.w v x.job x.a x.err),f89 (exL_ok Q orc) _ _ G _ ?_,(w1.putT b1.tag ht _).putT b1.tag ht _,(b1.putO _ _).putO _ _,by simp [pkl]⟩
  simp [pkl,e] at o1
  simp [jb89_0,j89_0,sb89,s89,j89_0,jb89_0,clip_t,e1,e,pkl,ho,e2,o1]
 ·have hst:x.step true t s = x.l91 true t s:=by unfold ClS.step; simp [e]
  rw [hst]; unfold ClS.l91; simp only [if_true]
  obtain ⟨own1,G1,e2,w1,b1,o1⟩:=pjob_ok orc h hm ht hb ho
  generalize s.load (atI t x.i 1) = s' at *
  generalize s'.new = v at *
  refine ⟨own1,G1.put b (pkB t 99 x.a x.i x.w x.key (v % 65536) x.a x.err),f89 (exL_ok Q orc) _ _ G _ ?_,w1.putT b1.tag ht _,b1.putO _ _,by simp [pkl]⟩
  simp [jb89_0,j89_0,sb89,s89,j89_0,jb89_0,clip_t,e1,e,pkl,ho,e2,o1]
 ·have hst:x.step true t s = (x,s):=by unfold ClS.step; simp [e]
  rw [hst]
  refine ⟨own,G,f89 (exL_ok Q orc) _ _ G _ ?_,.refl h,hb,ho⟩
  simp [jb89_0,j89_0,sb89,s89,e,e1,pkl]
 ·exact absurd k (by decide)
theorem pitem_ok (orc:FuncId → Bool) (hx:x.ok true t) (ho:G.obj b = some (pkX t x)) (hb:b < G.nx):∃ G',(E orc).cl 162 [P0 b] G = some (.tuple #[itemV x.ik x.ij,.int .i64 x.ie],G') ∧ Ext G G':=by
 have hne:¬ b = G.nx:=by omega
 have k9:=(pkl_99 hx.line).1
 have w:Wp (s162 true (exL Q orc) (P0 b) G) fun r=>r.1 = .tuple #[itemV x.ik x.ij,.int .i64 x.ie] ∧ Ext G r.2:=by
  unfold ClS.ik ClS.ij ClS.ie itemV
  by_cases e:x.line = 99
  ·have e':pkl 99 = 99:=rfl
   by_cases e2:x.err = 0
   ·simp [s162,ho,hne,splice_put,splice_end,e,e',e2]
    exact extPP _ _
   ·simp [s162,ho,hne,splice_put,splice_end,e,e',e2]
    exact (((Ext.refl G).push _).room _).put (Nat.le_refl _) _
  ·have e':¬ pkl x.line = 99:=fun k=>e (k9.1 k)
   simp [s162,ho,hne,splice_put,splice_end,e,e']
   exact extPP _ _
 obtain ⟨⟨v,G'⟩,e1,rfl,e3⟩:=w
 exact ⟨G',f162 (exL_ok Q orc) _ G _ e1,e3⟩
theorem pItem_ok (orc:FuncId → Bool) (hx:x.ok true t) (ho:G.obj b = some (pkX t x)) (hb:b < G.nx):∃ G',(E orc).cl 92 [P0 b] G = some (.tuple #[itemV x.ik x.ij,.int .i64 x.ie],G') ∧ Ext G G':=by
 obtain ⟨G1,hG1⟩:∃ G1,G1 = G.push ⟨z92,1,false,1⟩:=⟨_,rfl⟩
 have x1:Ext G G1:=by rw [hG1]; exact (Ext.refl G).push _
 have p1:G1.obj G.nx = some ⟨z92,1,false,1⟩:=by rw [hG1]; simp
 have n1:G1.nx = G.nx + 1:=by rw [hG1]; rfl
 obtain ⟨G2,e2,x2⟩:=pitem_ok orc hx ((x1.obj b hb).trans ho) (by omega)
 have p2:=(x2.obj G.nx (by omega)).trans p1
 have w:Wp (s92 true (exL Q orc) (P0 b) G) fun r=>r.1 = .tuple #[itemV x.ik x.ij,.int .i64 x.ie] ∧ Ext G r.2:=by
  unfold itemV at *
  simp [s92,← hG1,e2,p2,splice_put,splice_end]
  exact (x1.trans x2).put (Nat.le_refl _) _
 obtain ⟨⟨v,G'⟩,e1,rfl,e3⟩:=w
 exact ⟨G',f92 (exL_ok Q orc) _ G _ e1,e3⟩
theorem pBy_ok (orc:FuncId → Bool) (ho:G.obj b = some (pkX t x)):(E orc).cl 93 [P0 b] G = some (.int .u64 x.by_,G) :=
 f93 (exL_ok Q orc) _ G _ (by simp [s93,ho])
theorem seekp_ok (orc:FuncId → Bool) (hs:t.sound) (G:GS):∃ G',(E orc).cl 87 [t.v] G = some (.agg ⟨(pkX t (ClS.new t)).cells⟩,G') ∧ Ext G G':=by
 obtain ⟨G1,hG1⟩:∃ G1,G1 = (G.push ⟨t.cells,1,false,1⟩).push ⟨z168,1,false,1⟩:=⟨_,rfl⟩
 have x1:Ext G G1:=by rw [hG1]; exact ((Ext.refl G).push _).push _
 have n1:G1.nx = G.nx + 2:=by rw [hG1]; rfl
 have o1:G1.obj G.nx = some ⟨t.cells,1,false,1⟩:=by rw [hG1]; simp
 have p1:G1.obj (G.nx + 1) = some ⟨z168,1,false,1⟩:=by rw [hG1]; simp
 obtain ⟨G2,e2,x2⟩:=tnext_ok orc t (-1) 0 G1
 rw [next0_s hs] at e2
 have o2:=(x2.obj G.nx (by omega)).trans o1
 have p2:=(x2.obj (G.nx + 1) (by omega)).trans p1
 have h1:¬ t.heads < 0:=by have:=hs.2.2.2.2.2.2.1; omega
 have w:Wp (s87 true (exL Q orc) t.v G) fun r=>r.1 = .agg ⟨(pkX t (ClS.new t)).cells⟩ ∧ Ext G r.2:=by
  unfold ClS.new
  simp [s87,← hG1,o1,e2,h1,o2,p2,splice_put,splice_end,splice_succ,pkl]
  exact (x1.trans x2).put (by omega) _
 obtain ⟨⟨v,G'⟩,e1,rfl,e3⟩:=w
 exact ⟨G',f87 (exL_ok Q orc) _ G _ e1,e3⟩
theorem newpeek_ok (orc:FuncId → Bool) (hs:t.sound) (G:GS):∃ b G',(E orc).cl 38 [t.v] G = some (P0 b,G') ∧ Ext G G' ∧ G'.obj b = some (pkX t (ClS.new t)) ∧ G.nx ≤ b ∧ b < G'.nx:=by
 obtain ⟨G1,hG1⟩:∃ G1,G1 = G.push ⟨t.cells,1,false,1⟩:=⟨_,rfl⟩
 have x1:Ext G G1:=by rw [hG1]; exact (Ext.refl G).push _
 have o1:G1.obj G.nx = some ⟨t.cells,1,false,1⟩:=by rw [hG1]; simp
 obtain ⟨G2,e2,x2⟩:=seekp_ok orc hs G1
 have y2:=x1.trans x2
 have w:Wp (s38 true (exL Q orc) t.v G) fun r=>r = (P0 G2.nx,G2.push (pkX t (ClS.new t))):=by
  unfold ClS.new at e2 ⊢
  simp at e2
  simp [s38,← hG1,o1,e2]
 obtain ⟨r,e3,rfl⟩:=w
 exact ⟨_,_,f38 (exL_ok Q orc) _ G _ e3,y2.push _,by simp,y2.nx,by simp⟩
end
end Go.Proofs.YtaanpcoglijohaaGreat.Lift
set_option linter.unusedVariables false
set_option linter.unusedSimpArgs false
set_option maxRecDepth 20000
namespace Go.Proofs.YtaanpcoglijohaaGreat.Lift
open Go Go.Proofs.YtaanpcoglijohaaGreat.Gh Go.Proofs
structure Opy (X:Type) where
 e:RowE X
 ok:(Nat → Nat) → GS → Nat → X → Prop
 to:∀ {own own':Nat → Nat} {G G':GS} {i:Nat} {x:X},ok own G i x → G.nx ≤ G'.nx → (∀ g,g < G.nx → own g ∈ [i,100 + i,200 + i,300 + i] → G'.obj g = G.obj g) → Agr own own' G → ok own' G' i x
structure RK {X:Type} (O:Opy X) (n:Nat) (own:Nat → Nat) (G:GS) (m r cb:Nat) (s:MS) (L:List X):Prop where
 pm:PM own G m s
 rm:RM own G r s
 ok:s.ok
 tc:own cb = 12
 lc:cb < G.nx
 oc:G.obj cb = some ⟨O.e.flat L,O.e.sz,false,1⟩
 len:L.length = n
 n9:n ≤ 9
 core:∀ i x,L[i]? = some x → O.ok own G i x
section
variable {X:Type} {O O':Opy X} {n m r b cb t i:Nat} {B:Nat → Prop} {own own':Nat → Nat} {G G' G1:GS} {s s':MS} {L:List X} {ts:List Nat} {x y:X}
theorem RK.lt (h:RK O n own G m r cb s L) (hx:L[i]? = some x):i < n:=by have:=(List.getElem?_eq_some_iff.1 hx).1; rw [h.len] at this; exact this
theorem RK.to (h:RK O n own G m r cb s L) (q:ModT [13] own G G') (a:Agr own own' G):RK O n own' G' m r cb s L :=
 ⟨h.pm.modT q (by simp) a,h.rm.modT q (by simp) a,h.ok,(a _ h.lc).trans h.tc,Nat.lt_of_lt_of_le h.lc q.nx,(q.same h.lc (by rw [h.tc]; simp)).trans h.oc,h.len,h.n9,
  fun i x hx=>O.to (h.core i x hx) q.nx (fun g hg hi=>q.same hg (by have:=h.lt hx; have:=h.n9; simp at hi ⊢; omega)) a⟩
theorem RK.ext (h:RK O n own G m r cb s L) (x:Ext G G'):RK O n (grown own G 13) G' m r cb s L:=h.to (ModT.ext x) grown_agr
theorem RK.room (h:RK O n own G m r cb s L) (k:Nat):RK O n (grown own G 13) (G.room k) m r cb s L:=h.ext ((Ext.refl G).room k)
theorem RK.begin (h:RK O n own G m r cb s L) (x:Ext G G') (hi:i < n) (a:Agr own own' G) (hy:O.ok own' (G'.put cb ⟨O.e.flat (L.set i y),O.e.sz,false,1⟩) i y) :
  RK O n own' (G'.put cb ⟨O.e.flat (L.set i y),O.e.sz,false,1⟩) m r cb s (L.set i y):=by
 have lc:=h.lc
 have m1:ModT [12] own G (G'.put cb ⟨O.e.flat (L.set i y),O.e.sz,false,1⟩):=(ModT.ext x).put (.inl (by rw [h.tc]; simp)) _
 refine ⟨h.pm.modT m1 (by simp) a,h.rm.modT m1 (by simp) a,h.ok,(a _ lc).trans h.tc,Nat.lt_of_lt_of_le lc x.nx,by simp,by simpa using h.len,h.n9,fun j z hz=>?_⟩
 rw [List.getElem?_set] at hz
 split at hz
 ·rename_i hji
  subst hji
  rw [if_pos (by rw [h.len]; exact hi)] at hz
  cases hz
  exact hy
 ·exact O.to (h.core j z hz) m1.nx (fun g hg hj=>m1.same hg (by have:=h.lt hz; have:=h.n9; simp at hj ⊢; omega)) a
theorem RK.told (h:RK O n own G m r cb s L) (hx:L[i]? = some x) (q:ModT [10,11,i,100 + i,200 + i,300 + i] own G G') (a:Agr own own' G) (p1:PM own' G' m s') (p2:RM own' G' r s') (p3:s'.ok) (hy:O.ok own' G' i y) (hrow:O.e.row y = O.e.row x) :
  RK O n own' G' m r cb s' (L.set i y):=by
 have hi:=h.lt hx
 have hn:=h.n9
 refine ⟨p1,p2,p3,(a _ h.lc).trans h.tc,Nat.lt_of_lt_of_le h.lc q.nx,?_,by simpa using h.len,hn,fun j z hz=>?_⟩
 ·rw [q.same h.lc (by rw [h.tc]; simp; omega),h.oc]
  congr 2
  have hl:i < L.length:=by rw [h.len]; exact hi
  rw [List.getElem?_eq_getElem hl] at hx
  have hx':=Option.some.inj hx
  rw [← O.e.flat_over L hl,hrow,← hx',O.e.flat_over L hl,List.set_getElem_self]
 ·rw [List.getElem?_set] at hz
  split at hz
  ·rename_i hji
   subst hji
   rw [if_pos (by rw [h.len]; exact hi)] at hz
   cases hz
   exact hy
  ·rename_i hji
   exact O.to (h.core j z hz) q.nx (fun g hg hj=>q.same hg (by have:=h.lt hz; simp at hj ⊢; omega)) a
theorem RK.words (orc:FuncId → Bool) (h:RK O n own G m r cb s L):∃ v G',(E orc).cl 30 [P0 m] G = some (v,G') ∧ Ext G G' ∧ OwR (rowsI .u64) G.nx G' v s.W:=by
 obtain ⟨bb,rest,hm⟩:=h.pm; exact words_ok orc hm
theorem RK.rwords (orc:FuncId → Bool) (h:RK O n own G m r cb s L):∃ v G',(E orc).cl 31 [P0 r] G = some (v,G') ∧ Ext G G' ∧ OwR (rowsI .u64) G.nx G' v s.W:=rwords_ok orc h.rm
theorem RK.last (orc:FuncId → Bool) (h:RK O n own G m r cb s L):∃ G',(E orc).cl 25 [P0 m] G = some (.agg ⟨accV s⟩,G') ∧ Ext G G':=by
 obtain ⟨bb,rest,hm⟩:=h.pm; exact last_ok orc hm
theorem RK.rlast (orc:FuncId → Bool) (h:RK O n own G m r cb s L):∃ G',(E orc).cl 26 [P0 r] G = some (.agg ⟨accV s⟩,G') ∧ Ext G G':=by
 obtain ⟨wb,hm⟩:=h.rm; exact rlast_ok orc hm
theorem RK.count (orc:FuncId → Bool) (h:RK O n own G m r cb s L):(E orc).cl 27 [P0 m] G = some (.int .i64 s.many,G):=by
 obtain ⟨bb,rest,hm⟩:=h.pm; exact count_ok orc hm
theorem RK.rcount (orc:FuncId → Bool) (h:RK O n own G m r cb s L):(E orc).cl 28 [P0 r] G = some (.int .i64 s.many,G):=by
 obtain ⟨wb,hm⟩:=h.rm; exact rcount_ok orc hm
end
end Go.Proofs.YtaanpcoglijohaaGreat.Lift
