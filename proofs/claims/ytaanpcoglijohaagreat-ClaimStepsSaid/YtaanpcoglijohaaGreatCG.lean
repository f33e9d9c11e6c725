import Derived.Test.YtaanpcoglijohaaGreatCF
set_option linter.unusedVariables false
set_option linter.unusedSimpArgs false
set_option maxRecDepth 20000
namespace Go.Proofs.YtaanpcoglijohaaGreat.Lift
open Go Go.Proofs.YtaanpcoglijohaaGreat.Gh Go.Proofs
structure ClS where
 line:Int
 a:Int
 w:Int
 i:Int
 level:Int
 key:Int
 job:Int
 by_:Int
 mine:Bool
 err:Int
 find:FindS
 ret:RtS
def ClS.below (x:ClS):ClS:={ x with level:=x.level - 1,line:=if x.level - 1 < 1 then 7 else 5 }
def ClS.l1 (t:TW) (x:ClS) (s:MS):ClS × MS :=
 let s':=s.load (nextI t (-1) 0)
 (if s'.new % 65536 - 1 < 0 ∨ t.size ≤ s'.new % 65536 - 1 then { x with by_:=0,a:=s'.new,i:=s'.new % 65536 - 1,line:=99,err:=15 } else { x with by_:=0,a:=s'.new,i:=s'.new % 65536 - 1,line:=2 },s')
def ClS.l2 (look:Bool) (t:TW) (x:ClS) (s:MS):ClS × MS :=
 let s':=s.load (atI t x.i 4)
 ({ x with by_:=x.a,w:=s'.new,line:=if mkB ≤ s'.new then 3 else if look then 9 else 4 },s')
def ClS.l3 (t:TW) (x:ClS) (s:MS):ClS × MS:=({ x with by_:=0,line:=1 },s.cas (nextI t (-1) 0) x.a (x.w - mkB))
def ClS.l4 (t:TW) (x:ClS) (s:MS):ClS × MS :=
 let s':=s.load (atI t x.i 2)
 (({ x with by_:=x.a,level:=if s'.new < t.height then s'.new else t.height }:ClS).below,s')
def ClS.l5 (t:TW) (x:ClS) (s:MS):ClS × MS :=
 let s':=s.load (atI t x.i (4 + x.level))
 (if mkB ≤ s'.new then ({ x with by_:=x.a,w:=s'.new,line:=6 }:ClS).below else { x with by_:=x.a,w:=s'.new,line:=6 },s')
def ClS.l6 (t:TW) (x:ClS) (s:MS):ClS × MS :=
 let s':=s.cas (nextI t x.i x.level) x.w (x.w + mkB)
 (if s'.held = true then ({ x with by_:=x.a,line:=5 }:ClS).below else { x with by_:=x.a,line:=5 },s')
def ClS.l7 (t:TW) (x:ClS) (s:MS):ClS × MS :=
 let s':=s.load (atI t x.i 4)
 ({ x with by_:=x.a,w:=s'.new,line:=if mkB ≤ s'.new then 3 else 8 },s')
def ClS.l8 (t:TW) (x:ClS) (s:MS):ClS × MS :=
 let s':=s.cas (nextI t x.i 0) x.w (x.w + mkB)
 (if s'.held = true then { x with by_:=x.a,mine:=true,line:=9 } else { x with by_:=x.a,line:=7 },s')
def ClS.l9 (t:TW) (x:ClS) (s:MS):ClS × MS :=
 let s':=s.load (atI t x.i 0)
 ({ x with by_:=x.a,key:=s'.new,line:=91 },s')
def ClS.l91 (look:Bool) (t:TW) (x:ClS) (s:MS):ClS × MS :=
 let s':=s.load (atI t x.i 1)
 (if look then { x with by_:=x.a,job:=s'.new % 65536,line:=99 } else { x with by_:=x.a,job:=s'.new % 65536,line:=10,find:=FindS.new t x.key },s')
def ClS.l10 (t:TW) (x:ClS) (s:MS):ClS × MS:=({ x with find:=(x.find.step t s).1,by_:=(x.find.step t s).1.by_,line:=if (x.find.step t s).1.line = 9 then 11 else 10 },(x.find.step t s).2)
def ClS.l11 (t:TW) (x:ClS) (s:MS):ClS × MS :=
 let s':=s.add (atI t x.i 3) 18446744073709551615
 (if s'.new = 0 then { x with by_:=x.a,line:=12,ret:=.looks } else { x with by_:=x.a,line:=99 },s')
def ClS.l12 (t:TW) (x:ClS) (s:MS):ClS × MS:=({ x with by_:=0,ret:=(x.ret.step t x.i s).1,line:=if (x.ret.step t x.i s).1.over = true then 99 else 12 },(x.ret.step t x.i s).2)
def ClS.step (look:Bool) (t:TW) (x:ClS) (s:MS):ClS × MS :=
 if x.line = 1 then x.l1 t s else if x.line = 2 then x.l2 look t s else if x.line = 3 then x.l3 t s else if x.line = 4 then x.l4 t s else if x.line = 5 then x.l5 t s
 else if x.line = 6 then x.l6 t s else if x.line = 7 then x.l7 t s else if x.line = 8 then x.l8 t s else if x.line = 9 then x.l9 t s else if x.line = 91 then x.l91 look t s
 else if x.line = 10 then x.l10 t s else if x.line = 11 then x.l11 t s else if x.line = 12 then x.l12 t s else (x,s)
def lineOk (look:Bool) (l:Int):Prop:=l = 1 ∨ l = 2 ∨ l = 3 ∨ l = 9 ∨ l = 91 ∨ l = 99 ∨ (look = false ∧ (l = 4 ∨ l = 5 ∨ l = 6 ∨ l = 7 ∨ l = 8 ∨ l = 10 ∨ l = 11 ∨ l = 12))
structure ClS.ok (look:Bool) (t:TW) (x:ClS):Prop where
 line:lineOk look x.line
 a:U x.a
 w:U x.w
 idx:x.line ≠ 1 → x.line ≠ 99 → 0 ≤ x.i ∧ x.i < t.size
 top:x.line ≠ 1 → x.line ≠ 99 → x.i = x.a % 65536 - 1
 lev:-2 ≤ x.level ∧ x.level ≤ t.height ∧ (x.line = 5 ∨ x.line = 6 → 1 ≤ x.level)
 key:U x.key
 by_:U x.by_
 m3:x.line = 3 → mkB ≤ x.w
 m8:x.line = 6 ∨ x.line = 8 → x.w < mkB
 find:x.line = 10 → x.find.ok t
 ret:x.line = 12 → x.ret.ok t
section
variable {look:Bool} {t:TW} {x:ClS} {s:MS}
theorem ClS.below_ok (h1:U x.a) (h2:U x.w) (h3:0 ≤ x.i ∧ x.i < t.size) (h3':x.i = x.a % 65536 - 1) (h4:-1 ≤ x.level ∧ x.level ≤ t.height) (h5:U x.key) (h6:U x.by_):x.below.ok false t:=by
 unfold ClS.below
 by_cases h:x.level - 1 < 1
 ·rw [if_pos h]
  exact ⟨by simp [lineOk],h1,h2,fun _ _=>h3,fun _ _=>h3',by simp; omega,h5,h6,by simp,by simp,by simp,by simp⟩
 ·rw [if_neg h]
  exact ⟨by simp [lineOk],h1,h2,fun _ _=>h3,fun _ _=>h3',by simp; omega,h5,h6,by simp,by simp,by simp,by simp⟩
theorem U_addm {w:Int} (h:U w) (hm:w < mkB):U (w + mkB):=by have:=h.1; unfold mkB at *; unfold U; omega
theorem ClS.ok.step (hs:t.sound) (hl:t.lok) (h:x.ok look t) (hm:s.ok):(x.step look t s).1.ok look t ∧ (x.step look t s).2.ok:=by
 obtain ⟨c1,c2,c3,c4,c4',c5,c6,c7,c8,c9,c10,c11⟩:=h
 have hh:=hs.1
 rcases c1 with e | e | e | e | e | e | ⟨rfl,e | e | e | e | e | e | e | e⟩
 all_goals unfold ClS.step; simp only [e]
 ·have hn:=(hm.load (nextI t (-1) 0)).2
  simp [ClS.l1]
  refine ⟨?_,(hm.load _).1⟩
  split
  ·exact ⟨by simp [lineOk],hn,c3,by simp,by simp,by simp; omega,c6,U_zero',by simp,by simp,by simp,by simp⟩
  ·exact ⟨by simp [lineOk],hn,c3,fun _ _=>by simp only; omega,fun _ _=>rfl,by simp; omega,c6,U_zero',by simp,by simp,by simp,by simp⟩
 ·have hn:=(hm.load (atI t x.i 4)).2
  have hi:=c4 (by omega) (by omega)
  have hi':=c4' (by omega) (by omega)
  simp [ClS.l2]
  refine ⟨?_,(hm.load _).1⟩
  by_cases hk:mkB ≤ (s.load (atI t x.i 4)).new
  ·simp only [hk,if_true]
   exact ⟨by simp [lineOk],c2,hn,fun _ _=>hi,fun _ _=>hi',by simp; omega,c6,c2,fun _=>hk,by simp,by simp,by simp⟩
  ·cases look with
   | true =>
    simp only [hk,if_false,if_true]
    exact ⟨by simp [lineOk],c2,hn,fun _ _=>hi,fun _ _=>hi',by simp; omega,c6,c2,by simp,by simp,by simp,by simp⟩
   | false =>
    simp only [hk,if_false,Bool.false_eq_true]
    exact ⟨by simp [lineOk],c2,hn,fun _ _=>hi,fun _ _=>hi',by simp; omega,c6,c2,by simp,by simp,by simp,by simp⟩
 ·simp [ClS.l3]
  exact ⟨⟨by simp [lineOk],c2,c3,by simp,by simp,by simp; omega,c6,U_zero',by simp,by simp,by simp,by simp⟩,hm.cas _ _ (U_sub c3 (c8 e))⟩
 ·have hn:=(hm.load (atI t x.i 0)).2
  have hi:=c4 (by omega) (by omega)
  have hi':=c4' (by omega) (by omega)
  simp [ClS.l9]
  exact ⟨⟨by simp [lineOk],c2,c3,fun _ _=>hi,fun _ _=>hi',by simp; omega,hn,c2,by simp,by simp,by simp,by simp⟩,(hm.load _).1⟩
 ·have hn:=(hm.load (atI t x.i 1)).2
  have hi:=c4 (by omega) (by omega)
  have hi':=c4' (by omega) (by omega)
  simp [ClS.l91]
  refine ⟨?_,(hm.load _).1⟩
  cases look with
  | true=>exact ⟨by simp [lineOk],c2,c3,by simp,by simp,by simp; omega,c6,c2,by simp,by simp,by simp,by simp⟩
  | false=>exact ⟨by simp [lineOk],c2,c3,fun _ _=>hi,fun _ _=>hi',by simp; omega,c6,c2,by simp,by simp,fun _=>FindS.new_ok hs _,by simp⟩
 ·simp
  exact ⟨⟨by simp [lineOk,e],c2,c3,by simp [e],by simp [e],⟨c5.1,c5.2.1,c5.2.2⟩,c6,c7,c8,c9,c10,c11⟩,hm⟩
 ·have hn:=(hm.load (atI t x.i 2)).2
  have hi:=c4 (by omega) (by omega)
  have hi':=c4' (by omega) (by omega)
  simp [ClS.l4]
  refine ⟨ClS.below_ok c2 c3 hi hi' ?_ c6 c2,(hm.load _).1⟩
  have:=hn.1
  simp only
  split <;> omega
 ·have hn:=(hm.load (atI t x.i (4 + x.level))).2
  have hi:=c4 (by omega) (by omega)
  have hi':=c4' (by omega) (by omega)
  have hv:=c5.2.2 (.inl e)
  simp [ClS.l5]
  refine ⟨?_,(hm.load _).1⟩
  split
  ·exact ClS.below_ok c2 hn hi hi' (by simp only; omega) c6 c2
  ·exact ⟨by simp [lineOk],c2,hn,fun _ _=>hi,fun _ _=>hi',by simp; omega,c6,c2,by simp,fun _=>by simp only; omega,by simp,by simp⟩
 ·have hi:=c4 (by omega) (by omega)
  have hi':=c4' (by omega) (by omega)
  have hv:=c5.2.2 (.inr e)
  have hc:=hm.cas (nextI t x.i x.level) x.w (U_addm c3 (c9 (.inl e)))
  simp [ClS.l6]
  refine ⟨?_,hc⟩
  split
  ·exact ClS.below_ok c2 c3 hi hi' (by simp only; omega) c6 c2
  ·exact ⟨by simp [lineOk],c2,c3,fun _ _=>hi,fun _ _=>hi',by simp; omega,c6,c2,by simp,by simp,by simp,by simp⟩
 ·have hn:=(hm.load (atI t x.i 4)).2
  have hi:=c4 (by omega) (by omega)
  have hi':=c4' (by omega) (by omega)
  simp [ClS.l7]
  refine ⟨?_,(hm.load _).1⟩
  by_cases hk:mkB ≤ (s.load (atI t x.i 4)).new
  ·simp only [hk,if_true]
   exact ⟨by simp [lineOk],c2,hn,fun _ _=>hi,fun _ _=>hi',by simp; omega,c6,c2,fun _=>hk,by simp,by simp,by simp⟩
  ·simp only [hk,if_false]
   exact ⟨by simp [lineOk],c2,hn,fun _ _=>hi,fun _ _=>hi',by simp; omega,c6,c2,by simp,fun _=>by simp only; omega,by simp,by simp⟩
 ·have hi:=c4 (by omega) (by omega)
  have hi':=c4' (by omega) (by omega)
  have hc:=hm.cas (nextI t x.i 0) x.w (U_addm c3 (c9 (.inr e)))
  simp [ClS.l8]
  refine ⟨?_,hc⟩
  split
  ·exact ⟨by simp [lineOk],c2,c3,fun _ _=>hi,fun _ _=>hi',by simp; omega,c6,c2,by simp,by simp,by simp,by simp⟩
  ·exact ⟨by simp [lineOk],c2,c3,fun _ _=>hi,fun _ _=>hi',by simp; omega,c6,c2,by simp,by simp,by simp,by simp⟩
 ·have hi:=c4 (by omega) (by omega)
  have hi':=c4' (by omega) (by omega)
  have hf:=(c10 e).step hs hm
  simp [ClS.l10]
  refine ⟨?_,hf.2⟩
  by_cases h9:(x.find.step t s).1.line = 9
  ·simp only [h9,if_true]
   exact ⟨by simp [lineOk],c2,c3,fun _ _=>hi,fun _ _=>hi',by simp; omega,c6,hf.1.by_,by simp,by simp,by simp,by simp⟩
  ·simp only [h9,if_false]
   exact ⟨by simp [lineOk],c2,c3,fun _ _=>hi,fun _ _=>hi',by simp; omega,c6,hf.1.by_,by simp,by simp,fun _=>hf.1,by simp⟩
 ·have hi:=c4 (by omega) (by omega)
  have hi':=c4' (by omega) (by omega)
  simp [ClS.l11]
  refine ⟨?_,(hm.add _ _).1⟩
  split
  ·exact ⟨by simp [lineOk],c2,c3,fun _ _=>hi,fun _ _=>hi',by simp; omega,c6,c2,by simp,by simp,by simp,fun _=>trivial⟩
  ·exact ⟨by simp [lineOk],c2,c3,by simp,by simp,by simp; omega,c6,c2,by simp,by simp,by simp,by simp⟩
 ·have hi:=c4 (by omega) (by omega)
  have hi':=c4' (by omega) (by omega)
  have hr:=RtS.ok.step (i:=x.i) hl hi.1 hi.2 (c11 e) hm
  simp [ClS.l12]
  refine ⟨?_,hr.2⟩
  by_cases h9:(x.ret.step t x.i s).1.over = true
  ·simp only [h9,if_true]
   exact ⟨by simp [lineOk],c2,c3,by simp,by simp,by simp; omega,c6,U_zero',by simp,by simp,by simp,by simp⟩
  ·simp only [h9,if_false]
   exact ⟨by simp [lineOk],c2,c3,fun _ _=>hi,fun _ _=>hi',by simp; omega,c6,U_zero',by simp,by simp,by simp,fun _=>hr.1⟩
end
end Go.Proofs.YtaanpcoglijohaaGreat.Lift
set_option linter.unusedVariables false
set_option linter.unusedSimpArgs false
set_option maxRecDepth 20000
namespace Go.Proofs.YtaanpcoglijohaaGreat.Lift
open Go Go.Proofs.YtaanpcoglijohaaGreat.Gh Go.Proofs
abbrev clB (t:TW) (lv:Int) (mn:Bool) (fp rp:Option Addr) (ln a i w k j by_ er:Int):GObj:=⟨[.int .i64 t.nodes,.int .i64 t.heads,.int .i64 t.height,.int .i64 t.top,.int .i64 t.links,.int .i64 t.size,.int .i64 t.u6,.int .i64 t.u7,.int .i64 t.u8,.int .i64 t.u9,.int .i64 t.u10,.int .i64 t.u11,.int .i64 t.u12,.int .i64 lv,.bool mn,.pointer fp,.pointer rp,.int .i64 ln,.int .u64 a,.int .i64 i,.int .u64 w,.int .u64 k,.int .i64 j,.int .u64 by_,.bool true,.int .i64 er],1,false,1⟩
abbrev clX (t:TW) (x:ClS) (fp rp:Option Addr):GObj:=clB t x.level x.mine fp rp x.line x.a x.i x.w x.key x.job x.by_ x.err
section
variable {own own':Nat → Nat} {tag m r b:Nat} {t:TW} {G G':GS} {s:MS} {lv ln a i w k j by_ er:Int} {mn:Bool} {fp rp:Option Addr} {x:ClS}
theorem lmarked_ok (orc:FuncId → Bool) {v:Int} (h:U v) (G:GS):(E orc).cl 156 [.int .u64 v] G = some (.bool (decide (9223372036854775808 ≤ v)),G) :=
 f156 (exL_ok Q orc) _ G _ (by simp [s156,marked_ok orc h])
theorem lmarks_f (orc:FuncId → Bool) {v:Int} (h:U v) (hm:mkB ≤ v) (G:GS):(E orc).cl 158 [.int .u64 v,.bool false] G = some (.int .u64 (v - mkB),G) :=
 f158 (exL_ok Q orc) _ _ G _ (by
  have:=marks_u orc h hm G
  simp [s158,this]; rfl)
theorem lmarks_t (orc:FuncId → Bool) {v:Int} (h:U v) (hm:v < mkB) (G:GS):(E orc).cl 158 [.int .u64 v,.bool true] G = some (.int .u64 (v + mkB),G) :=
 f158 (exL_ok Q orc) _ _ G _ (by
  have:=marks_t orc h.1 hm G
  simp [s158,this]; rfl)
theorem cload_ok (orc:FuncId → Bool) (h:PM own G m s) (ht:tag ≠ 10) (hb:At own tag G b) (ho:G.obj b = some (clB t lv mn fp rp ln a i w k j by_ er)) (part:Int) :
  ∃ own1 G1,(E orc).cl 155 [P0 b,P0 m,.int .i64 part] G = some (.int .u64 (s.load (atI t i part)).new,G1) ∧ PW (Own own tag) own G own1 G1 m (s.load (atI t i part)) ∧ At own1 tag G1 b ∧ G1.obj b = some (clB t lv mn fp rp ln a i w k j a er):=by
 obtain ⟨G1,hG1⟩:∃ G1,G1 = G.put b (clB t lv mn fp rp ln a i w k j a er):=⟨_,rfl⟩
 have w1:PW (Own own tag) own G own G1 m s:=by rw [hG1]; exact (PW.refl h).putT hb.tag ht _
 have hb1:At own tag G1 b:=by rw [hG1]; exact hb.putO _ _
 have o1:G1.obj b = some (clB t lv mn fp rp ln a i w k j a er):=by rw [hG1]; simp
 obtain ⟨G2,e2,x2⟩:=tat_ok orc t i part (G1.room 13)
 have y2:=((Ext.refl G1).room 13).trans x2
 have w2:=w1.extT y2 tag
 have hb2:=hb1.extO y2 tag
 have o2:=(y2.obj b hb1.lt).trans o1
 generalize grown own G1 tag = own2 at *
 obtain ⟨own3,G3,e3,w3⟩:=w2.pm.load orc (atI t i part)
 have o3:=(hb2.keep ht w3).trans o2
 refine ⟨own3,G3,f155 (exL_ok Q orc) _ _ _ G _ ?_,w2.tr w3.any,hb2.to w3.nx w3.stp.agr,o3⟩
 simp [s155,ho,← hG1,o1,e2,e3]
theorem cjob_ok (orc:FuncId → Bool) (h:PM own G m s) (hs:s.ok) (ht:tag ≠ 10) (hb:At own tag G b) (ho:G.obj b = some (clB t lv mn fp rp ln a i w k j by_ er)) :
  ∃ own1 G1,(E orc).cl 159 [P0 b,P0 m] G = some (.tuple #[],G1) ∧ PW (Own own tag) own G own1 G1 m (s.load (atI t i 1)) ∧ At own1 tag G1 b ∧ G1.obj b = some (clB t lv mn fp rp ln a i w k ((s.load (atI t i 1)).new % 65536) a er):=by
 obtain ⟨own1,G1,e1,w1,hb1,o1⟩:=cload_ok orc h ht hb ho 1
 have hu:=(hs.load (atI t i 1)).2
 generalize s.load (atI t i 1) = s' at *
 generalize s'.new = v at *
 have h1:=hu.1
 have e2:=and_low hu
 have e3:IntKind.wrap .i64 (v % 65536) = v % 65536:=wrap64 (by omega) (by omega)
 refine ⟨own1,G1.put b (clB t lv mn fp rp ln a i w k (v % 65536) a er),f159 (exL_ok Q orc) _ _ G _ ?_,w1.putT hb1.tag ht _,hb1.putO _ _,by simp⟩
 simp [s159,e1,e2,e3,o1]
theorem cbelow_ok (orc:FuncId → Bool) (hl:-9223372036854775808 < lv ∧ lv ≤ 4096) (hb:b < G.nx) (ho:G.obj b = some (clB t lv mn fp rp ln a i w k j by_ er)) :
  ∃ G1,(E orc).cl 201 [P0 b] G = some (.tuple #[],G1) ∧ ModP (fun g=>g = b) G G1 ∧ G1.obj b = some (clB t (lv - 1) mn fp rp (if lv - 1 < 1 then 7 else 5) a i w k j by_ er):=by
 have e:IntKind.wrap .i64 (lv - 1) = lv - 1:=wrap64 (by omega) (by omega)
 by_cases h1:lv - 1 < 1
 ·refine ⟨((G.put b (clB t (lv - 1) mn fp rp ln a i w k j by_ er)).put b (clB t (lv - 1) mn fp rp 5 a i w k j by_ er)).put b (clB t (lv - 1) mn fp rp 7 a i w k j by_ er),f201 (exL_ok Q orc) _ G _ ?_,((((ModP.refl (fun g=>g = b) G).put (.inl rfl) _).put (.inl rfl) _).put (.inl rfl) _),by rw [if_pos h1]; simp⟩
  simp [s201,ho,e,h1]
 ·refine ⟨((G.put b (clB t (lv - 1) mn fp rp ln a i w k j by_ er)).put b (clB t (lv - 1) mn fp rp 5 a i w k j by_ er)),f201 (exL_ok Q orc) _ G _ ?_,(((ModP.refl (fun g=>g = b) G).put (.inl rfl) _).put (.inl rfl) _),by rw [if_neg h1]; simp⟩
  simp [s201,ho,e,h1]
theorem modOne (h:At own tag G b) (q:ModP (fun g=>g = b) G G'):ModP (Own own tag) G G':=q.mono fun g hg=>by rw [hg]; exact h.tag
theorem cfirst_ok' (orc:FuncId → Bool) (hto:orc 241 = false) (hs:t.sound) (h:PM own G m s) (hm:s.ok) (hw:U x.w) (h3:x.line = 3 → mkB ≤ x.w) (ht:tag ≠ 10) (hb:At own tag G b) (ho:G.obj b = some (clX t x fp rp)) (hl:x.line = 1 ∨ x.line = 2 ∨ x.line = 3) :
  ∃ own1 G1,(E orc).cl 153 [P0 b,P0 m] G = some (.tuple #[],G1) ∧ PW (Own own tag) own G own1 G1 m (x.step false t s).2 ∧ At own1 tag G1 b ∧ G1.obj b = some (clX t (x.step false t s).1 fp rp):=by
 rcases hl with e | e | e
 all_goals unfold ClS.step; simp only [e]
 ·simp [ClS.l1]
  have hn:=(hm.load (nextI t (-1) 0)).2
  obtain ⟨G1,hG1⟩:∃ G1,G1 = G.put b (clB t x.level x.mine fp rp 1 x.a x.i x.w x.key x.job 0 x.err):=⟨_,rfl⟩
  have w1:PW (Own own tag) own G own G1 m s:=by rw [hG1]; exact (PW.refl h).putT hb.tag ht _
  have hb1:At own tag G1 b:=by rw [hG1]; exact hb.putO _ _
  have o1:G1.obj b = some (clB t x.level x.mine fp rp 1 x.a x.i x.w x.key x.job 0 x.err):=by rw [hG1]; simp
  obtain ⟨G2,e2,x2⟩:=tnext_ok orc t (-1) 0 G1
  have w2:=w1.extT x2 tag
  have hb2:=hb1.extO x2 tag
  have o2:=(x2.obj b hb1.lt).trans o1
  generalize grown own G1 tag = own2 at *
  obtain ⟨own3,G3,e3,w3⟩:=w2.pm.load orc (nextI t (-1) 0)
  generalize s.load (nextI t (-1) 0) = s' at *
  generalize s'.new = v at *
  have w3':=w2.tr w3.any
  have hb3:=hb2.to w3.nx w3.stp.agr
  have o3:=(hb2.keep ht w3).trans o2
  obtain ⟨G4,hG4⟩:∃ G4,G4 = G3.put b (clB t x.level x.mine fp rp 1 v x.i x.w x.key x.job 0 x.err):=⟨_,rfl⟩
  have w4:PW (Own own tag) own G own3 G4 m s':=by rw [hG4]; exact w3'.putT hb3.tag ht _
  have hb4:At own3 tag G4 b:=by rw [hG4]; exact hb3.putO _ _
  have o4:G4.obj b = some (clB t x.level x.mine fp rp 1 v x.i x.w x.key x.job 0 x.err):=by rw [hG4]; simp
  obtain ⟨G5,e5,x5⟩:=gettop_ok orc hto hn G4
  obtain ⟨G6,hG6⟩:∃ G6,G6 = (G5.push ⟨z270,1,false,1⟩).put G5.nx ⟨[.int .i64 (v % 65536 - 1),.int .i64 (v / 65536)],1,false,1⟩:=⟨_,rfl⟩
  have x6:Ext G4 G6:=by rw [hG6]; exact (x5.push _).put x5.nx _
  have p6:G6.obj G5.nx = some ⟨[.int .i64 (v % 65536 - 1),.int .i64 (v / 65536)],1,false,1⟩:=by rw [hG6]; simp
  have o6:=(x6.obj b hb4.lt).trans o4
  have w6:=w4.extT x6 tag
  have hb6:=hb4.extO x6 tag
  generalize grown own3 G4 tag = own6 at *
  obtain ⟨G7,hG7⟩:∃ G7,G7 = ((G6.put b (clB t x.level x.mine fp rp 1 v (v % 65536 - 1) x.w x.key x.job 0 x.err)).put b (clB t x.level x.mine fp rp 2 v (v % 65536 - 1) x.w x.key x.job 0 x.err)).room 20:=⟨_,rfl⟩
  have w7':=(w6.putT hb6.tag ht (clB t x.level x.mine fp rp 1 v (v % 65536 - 1) x.w x.key x.job 0 x.err)).putT hb6.tag ht (clB t x.level x.mine fp rp 2 v (v % 65536 - 1) x.w x.key x.job 0 x.err)
  have hb7':=(hb6.putO b (clB t x.level x.mine fp rp 1 v (v % 65536 - 1) x.w x.key x.job 0 x.err)).putO b (clB t x.level x.mine fp rp 2 v (v % 65536 - 1) x.w x.key x.job 0 x.err)
  have w7:=w7'.extT ((Ext.refl _).room 20) tag
  have hb7:=hb7'.extO ((Ext.refl _).room 20) tag
  rw [← hG7] at w7 hb7
  generalize grown own6 _ tag = own7 at *
  have o7:G7.obj b = some (clB t x.level x.mine fp rp 2 v (v % 65536 - 1) x.w x.key x.job 0 x.err):=by rw [hG7]; simp
  have hbn:¬ b = G5.nx:=by have:=hb4.lt; have:=x5.nx; omega
  by_cases c1:v % 65536 - 1 < 0
  ·rw [if_pos (.inl c1)]
   refine ⟨own7,(G7.put b (clB t x.level x.mine fp rp 99 v (v % 65536 - 1) x.w x.key x.job 0 x.err)).put b (clB t x.level x.mine fp rp 99 v (v % 65536 - 1) x.w x.key x.job 0 15),f153 (exL_ok Q orc) _ _ G _ ?_,(w7.putT hb7.tag ht _).putT hb7.tag ht _,(hb7.putO _ _).putO _ _,by simp⟩
   simp [s153,ho,e,← hG1,o1,e2,e3,o3,← hG4,o4,e5,splice_put,splice_end,← hG6,p6,o6,hbn,← hG7,o7,c1]
  ·by_cases c2:t.size ≤ v % 65536 - 1
   ·rw [if_pos (.inr c2)]
    refine ⟨own7,(G7.put b (clB t x.level x.mine fp rp 99 v (v % 65536 - 1) x.w x.key x.job 0 x.err)).put b (clB t x.level x.mine fp rp 99 v (v % 65536 - 1) x.w x.key x.job 0 15),f153 (exL_ok Q orc) _ _ G _ ?_,(w7.putT hb7.tag ht _).putT hb7.tag ht _,(hb7.putO _ _).putO _ _,by simp⟩
    simp [s153,ho,e,← hG1,o1,e2,e3,o3,← hG4,o4,e5,splice_put,splice_end,← hG6,p6,o6,hbn,← hG7,o7,c1,c2]
   ·rw [if_neg (by omega)]
    refine ⟨own7,G7,f153 (exL_ok Q orc) _ _ G _ ?_,w7,hb7,o7⟩
    simp [s153,ho,e,← hG1,o1,e2,e3,o3,← hG4,o4,e5,splice_put,splice_end,← hG6,p6,o6,hbn,← hG7,o7,c1,c2]
 ·simp [ClS.l2]
  have hn:=(hm.load (atI t x.i 4)).2
  obtain ⟨own1,G1,e1,w1,hb1,o1⟩:=cload_ok orc h ht hb ho 4
  generalize s.load (atI t x.i 4) = s' at *
  generalize s'.new = v at *
  obtain ⟨G2,hG2⟩:∃ G2,G2 = (G1.put b (clB t x.level x.mine fp rp 2 x.a x.i v x.key x.job x.a x.err)).put b (clB t x.level x.mine fp rp 4 x.a x.i v x.key x.job x.a x.err):=⟨_,rfl⟩
  have w2:PW (Own own tag) own G own1 G2 m s':=by rw [hG2]; exact (w1.putT hb1.tag ht _).putT hb1.tag ht _
  have hb2:At own1 tag G2 b:=by rw [hG2]; exact (hb1.putO _ _).putO _ _
  have o2:G2.obj b = some (clB t x.level x.mine fp rp 4 x.a x.i v x.key x.job x.a x.err):=by rw [hG2]; simp
  have e3:=lmarked_ok orc hn G2
  by_cases c1:mkB ≤ v
  ·have c1':9223372036854775808 ≤ v:=c1
   rw [if_pos c1]
   refine ⟨own1,G2.put b (clB t x.level x.mine fp rp 3 x.a x.i v x.key x.job x.a x.err),f153 (exL_ok Q orc) _ _ G _ ?_,w2.putT hb2.tag ht _,hb2.putO _ _,by simp⟩
   simp [s153,ho,e,e1,o1,← hG2,o2,e3,c1']
  ·have c1':¬ 9223372036854775808 ≤ v:=c1
   rw [if_neg c1]
   refine ⟨own1,G2,f153 (exL_ok Q orc) _ _ G _ ?_,w2,hb2,o2⟩
   simp [s153,ho,e,e1,o1,← hG2,o2,e3,c1']
 ·simp [ClS.l3]
  obtain ⟨G1,hG1⟩:∃ G1,G1 = G.put b (clB t x.level x.mine fp rp 3 x.a x.i x.w x.key x.job 0 x.err):=⟨_,rfl⟩
  have w1:PW (Own own tag) own G own G1 m s:=by rw [hG1]; exact (PW.refl h).putT hb.tag ht _
  have hb1:At own tag G1 b:=by rw [hG1]; exact hb.putO _ _
  have o1:G1.obj b = some (clB t x.level x.mine fp rp 3 x.a x.i x.w x.key x.job 0 x.err):=by rw [hG1]; simp
  obtain ⟨G2,e2,x2⟩:=tnext_ok orc t (-1) 0 (G1.room 16)
  have y2:=((Ext.refl G1).room 16).trans x2
  have w2:=w1.extT y2 tag
  have hb2:=hb1.extO y2 tag
  have o2:=(y2.obj b hb1.lt).trans o1
  have e3:=lmarks_f orc hw (h3 e) G2
  generalize grown own G1 tag = own2 at *
  obtain ⟨own4,G4,e4,w4⟩:=w2.pm.cas orc (nextI t (-1) 0) x.a (x.w - mkB)
  have w4':=w2.tr w4.any
  have hb4:=hb2.to w4.nx w4.stp.agr
  have o4:=(hb2.keep ht w4).trans o2
  refine ⟨own4,G4.put b (clB t x.level x.mine fp rp 1 x.a x.i x.w x.key x.job 0 x.err),f153 (exL_ok Q orc) _ _ G _ ?_,w4'.putT hb4.tag ht _,hb4.putO _ _,by simp⟩
  simp [s153,ho,e,← hG1,o1,e2,o2,e3,e4,o4]
end
end Go.Proofs.YtaanpcoglijohaaGreat.Lift
set_option linter.unusedVariables false
set_option linter.unusedSimpArgs false
set_option maxRecDepth 20000
namespace Go.Proofs.YtaanpcoglijohaaGreat.Lift
open Go Go.Proofs.YtaanpcoglijohaaGreat.Gh Go.Proofs
abbrev Ow2 (own:Nat → Nat) (t u:Nat):Nat → Prop:=fun x=>own x = t ∨ own x = u
section
variable {own own' own1 own2:Nat → Nat} {tag tg m r b:Nat} {t:TW} {G G' G1 G2:GS} {s s' s1:MS} {x:ClS}
theorem ne_tag {own:Nat → Nat} {g b tag tg:Nat} (h1:own b = tag) (h2:own g = tg) (hne:tag ≠ tg):g ≠ b:=fun k=>hne (by rw [← h1,← h2,k])
theorem PW.lo (w:PW (Own own tag) own G own1 G1 m s):PW (Ow2 own tag tg) own G own1 G1 m s:=w.mono fun _ _ h=>.inl h
theorem PW.hi (w:PW (Own own tg) own G own1 G1 m s):PW (Ow2 own tag tg) own G own1 G1 m s:=w.mono fun _ _ h=>.inr h
theorem RW.lo (w:RW (Own own tag) own G own1 G1 r s):RW (Ow2 own tag tg) own G own1 G1 r s:=w.mono fun _ _ h=>.inl h
theorem RW.hi (w:RW (Own own tg) own G own1 G1 r s):RW (Ow2 own tag tg) own G own1 G1 r s:=w.mono fun _ _ h=>.inr h
theorem PW.tr2 (w:PW (Ow2 own tag tg) own G own1 G1 m s) (k:PW (Ow2 own1 tag tg) own1 G1 own2 G2 m s'):PW (Ow2 own tag tg) own G own2 G2 m s':=w.trans k fun _ hx h=>h.imp (w.stp.same hx).symm.trans (w.stp.same hx).symm.trans
theorem RW.tr2 (w:RW (Ow2 own tag tg) own G own1 G1 r s) (k:RW (Ow2 own1 tag tg) own1 G1 own2 G2 r s'):RW (Ow2 own tag tg) own G own2 G2 r s':=w.trans k fun _ hx h=>h.imp (w.stp.same hx).symm.trans (w.stp.same hx).symm.trans
theorem PW.put2 (w:PW (Ow2 own tag tg) own G own1 G1 m s) (hb:own1 b = tag) (ht:tag ≠ 10) (o:GObj):PW (Ow2 own tag tg) own G own1 (G1.put b o) m s:=by
 refine w.put ?_ (fun _=>by rw [hb]; exact ht) o
 by_cases hl:b < G.nx
 ·exact .inl (.inl ((w.stp.same hl).symm.trans hb))
 ·exact .inr (by omega)
theorem RW.put2 (w:RW (Ow2 own tag tg) own G own1 G1 r s) (hb:own1 b = tag) (ht:tag ≠ 11) (o:GObj):RW (Ow2 own tag tg) own G own1 (G1.put b o) r s:=by
 refine w.put ?_ (fun _=>by rw [hb]; exact ht) o
 by_cases hl:b < G.nx
 ·exact .inl (.inl ((w.stp.same hl).symm.trans hb))
 ·exact .inr (by omega)
theorem cmark_ok (orc:FuncId → Bool) (hs:t.sound) (h:PM own G m s) (hm:s.ok) (hx:x.ok false t) (ht:tag ≠ 10) (hb:At own tag G b) (fp rp:Option Addr) (ho:G.obj b = some (clX t x fp rp)) (hl:x.line = 4 ∨ x.line = 5 ∨ x.line = 6) :
  ∃ own1 G1,(E orc).cl 154 [P0 b,P0 m] G = some (.tuple #[],G1) ∧ PW (Own own tag) own G own1 G1 m (x.step false t s).2 ∧ At own1 tag G1 b ∧ G1.obj b = some (clX t (x.step false t s).1 fp rp):=by
 have hh:=hs.1
 have hh2:=hs.2.1
 obtain ⟨v1,v2,v3⟩:=hx.lev
 rcases hl with e | e | e
 all_goals unfold ClS.step; simp only [e]
 ·simp [ClS.l4,ClS.below]
  have hn:=(hm.load (atI t x.i 2)).2
  obtain ⟨G1,hG1⟩:∃ G1,G1 = G.put b (clB t t.height x.mine fp rp 4 x.a x.i x.w x.key x.job x.by_ x.err):=⟨_,rfl⟩
  have w1:PW (Own own tag) own G own G1 m s:=by rw [hG1]; exact (PW.refl h).putT hb.tag ht _
  have hb1:At own tag G1 b:=by rw [hG1]; exact hb.putO _ _
  have o1:G1.obj b = some (clB t t.height x.mine fp rp 4 x.a x.i x.w x.key x.job x.by_ x.err):=by rw [hG1]; simp
  obtain ⟨own2,G2,e2,w2,hb2,o2⟩:=cload_ok orc w1.pm ht hb1 o1 2
  generalize s.load (atI t x.i 2) = s' at *
  generalize s'.new = v at *
  have w2':=w1.tr w2
  have hv:=hn.1
  have eh:IntKind.wrap .u64 t.height = t.height:=by rw [wrap_u64]; omega
  by_cases c:v < t.height
  ·have ev:IntKind.wrap .i64 v = v:=wrap64 (by omega) (by omega)
   obtain ⟨G3,hG3⟩:∃ G3,G3 = G2.put b (clB t v x.mine fp rp 4 x.a x.i x.w x.key x.job x.a x.err):=⟨_,rfl⟩
   have w3:PW (Own own tag) own G own2 G3 m s':=by rw [hG3]; exact w2'.putT hb2.tag ht _
   have hb3:At own2 tag G3 b:=by rw [hG3]; exact hb2.putO _ _
   have o3:G3.obj b = some (clB t v x.mine fp rp 4 x.a x.i x.w x.key x.job x.a x.err):=by rw [hG3]; simp
   obtain ⟨G4,e4,m4,o4⟩:=cbelow_ok orc (by omega) hb3.lt o3
   refine ⟨_,G4,f154 (exL_ok Q orc) _ _ G _ ?_,w3.modT (modOne hb3 m4) ht tag,hb3.to m4.nx grown_agr,?_⟩
   ·simp [s154,ho,e,← hG1,e2,o2,eh,c,ev,← hG3,e4]
   ·rw [o4,if_pos c]
  ·obtain ⟨G4,e4,m4,o4⟩:=cbelow_ok orc (by omega) hb2.lt o2
   refine ⟨_,G4,f154 (exL_ok Q orc) _ _ G _ ?_,w2'.modT (modOne hb2 m4) ht tag,hb2.to m4.nx grown_agr,?_⟩
   ·simp [s154,ho,e,← hG1,e2,o2,eh,c,e4]
   ·rw [o4,if_neg c]
 ·simp [ClS.l5]
  have hlv:=v3 (.inl e)
  have ew:IntKind.wrap .i64 (4 + x.level) = 4 + x.level:=wrap64 (by omega) (by omega)
  have hn:=(hm.load (atI t x.i (4 + x.level))).2
  have x17:Ext G (G.room 17):=(Ext.refl G).room 17
  have w1:=(PW.refl (B:=Own own tag) h).extT x17 tag
  have hb1:=hb.extO x17 tag
  have o1:(G.room 17).obj b = some (clB t x.level x.mine fp rp 5 x.a x.i x.w x.key x.job x.by_ x.err):=by simp [ho,e]
  generalize grown own G tag = own1 at *
  obtain ⟨own2,G2,e2,w2,hb2,o2⟩:=cload_ok orc w1.pm ht hb1 o1 (4 + x.level)
  generalize s.load (atI t x.i (4 + x.level)) = s' at *
  generalize s'.new = v at *
  have w2':=w1.tr w2
  obtain ⟨G3,hG3⟩:∃ G3,G3 = (G2.put b (clB t x.level x.mine fp rp 5 x.a x.i v x.key x.job x.a x.err)).put b (clB t x.level x.mine fp rp 6 x.a x.i v x.key x.job x.a x.err):=⟨_,rfl⟩
  have w3:PW (Own own tag) own G own2 G3 m s':=by rw [hG3]; exact (w2'.putT hb2.tag ht _).putT hb2.tag ht _
  have hb3:At own2 tag G3 b:=by rw [hG3]; exact (hb2.putO _ _).putO _ _
  have o3:G3.obj b = some (clB t x.level x.mine fp rp 6 x.a x.i v x.key x.job x.a x.err):=by rw [hG3]; simp
  have e4:=lmarked_ok orc hn G3
  by_cases c:mkB ≤ v
  ·have c':9223372036854775808 ≤ v:=c
   rw [if_pos c]
   obtain ⟨G5,e5,m5,o5⟩:=cbelow_ok orc (by omega) hb3.lt o3
   refine ⟨_,G5,f154 (exL_ok Q orc) _ _ G _ ?_,w3.modT (modOne hb3 m5) ht tag,hb3.to m5.nx grown_agr,?_⟩
   ·simp [s154,ho,e,ew,e2,o2,← hG3,o3,e4,c',e5]
   ·simp [o5,ClS.below]
  ·have c':¬ 9223372036854775808 ≤ v:=c
   rw [if_neg c]
   refine ⟨_,G3,f154 (exL_ok Q orc) _ _ G _ ?_,w3,hb3,o3⟩
   simp [s154,ho,e,ew,e2,o2,← hG3,o3,e4,c']
 ·simp [ClS.l6]
  have hlv:=v3 (.inr e)
  obtain ⟨G1,hG1⟩:∃ G1,G1 = (G.put b (clB t x.level x.mine fp rp 6 x.a x.i x.w x.key x.job x.a x.err)).put b (clB t x.level x.mine fp rp 5 x.a x.i x.w x.key x.job x.a x.err):=⟨_,rfl⟩
  have w1:PW (Own own tag) own G own G1 m s:=by rw [hG1]; exact ((PW.refl h).putT hb.tag ht _).putT hb.tag ht _
  have hb1:At own tag G1 b:=by rw [hG1]; exact (hb.putO _ _).putO _ _
  have o1:G1.obj b = some (clB t x.level x.mine fp rp 5 x.a x.i x.w x.key x.job x.a x.err):=by rw [hG1]; simp
  obtain ⟨G2,e2,x2⟩:=tnext_ok orc t x.i x.level (G1.room 30)
  have y2:=((Ext.refl G1).room 30).trans x2
  have w2:=w1.extT y2 tag
  have hb2:=hb1.extO y2 tag
  have o2:=(y2.obj b hb1.lt).trans o1
  have e3:=lmarks_t orc hx.w (hx.m8 (.inl e)) G2
  generalize grown own G1 tag = own2 at *
  obtain ⟨own4,G4,e4,w4⟩:=w2.pm.cas orc (nextI t x.i x.level) x.w (x.w + mkB)
  generalize s.cas (nextI t x.i x.level) x.w (x.w + mkB) = s' at *
  have w4':=w2.tr w4.any
  have hb4:=hb2.to w4.nx w4.stp.agr
  have o4:=(hb2.keep ht w4).trans o2
  cases hh:s'.held with
  | true =>
   rw [hh] at e4
   rw [if_pos rfl]
   obtain ⟨G5,e5,m5,o5⟩:=cbelow_ok orc (by omega) hb4.lt o4
   refine ⟨_,G5,f154 (exL_ok Q orc) _ _ G _ ?_,w4'.modT (modOne hb4 m5) ht tag,hb4.to m5.nx grown_agr,?_⟩
   ·simp [s154,ho,e,← hG1,o1,e2,o2,e3,e4,e5]
   ·simp [o5,ClS.below]
  | false =>
   rw [hh] at e4
   rw [if_neg (by decide)]
   refine ⟨_,G4,f154 (exL_ok Q orc) _ _ G _ ?_,w4',hb4,o4⟩
   simp [s154,ho,e,← hG1,o1,e2,o2,e3,e4]
def ClP (own:Nat → Nat) (tag tg:Nat) (t:TW) (G:GS) (b:Nat) (x:ClS):Prop :=
 At own tag G b ∧ ∃ fp rp,G.obj b = some (clX t x fp rp) ∧ (x.line = 10 → ∃ fb tb,fp = some ⟨fb,0,none⟩ ∧ At own tg G fb ∧ At own tg G tb ∧ fb ≠ tb ∧ FiB t G fb tb x.find) ∧ (x.line = 12 → ∃ rb,rp = some ⟨rb,0,none⟩ ∧ At own tg G rb ∧ RtP own tg t G rb x.i x.ret)
theorem cleave_ok (orc:FuncId → Bool) (hto:orc 241 = false) (hs:t.sound) (hlo:t.lok) (h:PM own G m s) (hm:s.ok) (hx:x.ok false t) (ht:tag ≠ 10) (hg:tg ≠ 10) (hne:tag ≠ tg) (hp:ClP own tag tg t G b x) (hl:x.line = 10 ∨ x.line = 11 ∨ x.line = 12) :
  ∃ own1 G1,(E orc).cl 161 [P0 b,P0 m] G = some (.tuple #[],G1) ∧ PW (Ow2 own tag tg) own G own1 G1 m (x.step false t s).2 ∧ ClP own1 tag tg t G1 b (x.step false t s).1:=by
 obtain ⟨hb,fp,rp,ho,hf,hr⟩:=hp
 have hidx:=hx.idx (by rcases hl with e | e | e <;> rw [e] <;> decide) (by rcases hl with e | e | e <;> rw [e] <;> decide)
 rcases hl with e | e | e
 all_goals unfold ClS.step; simp only [e]
 ·simp [ClS.l10]
  obtain ⟨fb,tb,rfl,a1,a2,d,F⟩:=hf e
  obtain ⟨own1,G1,e1,w1,F1⟩:=fstep_ok orc hto hs h hm (hx.find e) hg d a1 a2 F
  have o1:=(w1.keepT hb.lt hb.tag ht hne).trans ho
  have hb1:=hb.to w1.nx w1.stp.agr
  have b1:=a1.to w1.nx w1.stp.agr
  have b2:=a2.to w1.nx w1.stp.agr
  have n1:fb ≠ b:=ne_tag hb.tag a1.tag hne
  have n2:tb ≠ b:=ne_tag hb.tag a2.tag hne
  generalize (x.find.step t s).2 = s' at *
  generalize (x.find.step t s).1 = f' at *
  have w1':PW (Ow2 own tag tg) own G own1 G1 m s':=w1.hi
  by_cases h9:f'.line = 9
  ·have F2:FiB t (G1.put b (clB t x.level x.mine (some ⟨fb,0,none⟩) rp 11 x.a x.i x.w x.key x.job x.by_ x.err)) fb tb f':=F1.kept (obj_put_ne _ _ n1) (obj_put_ne _ _ n2)
   have e2:=fby_ok orc F2
   refine ⟨own1,(G1.put b (clB t x.level x.mine (some ⟨fb,0,none⟩) rp 11 x.a x.i x.w x.key x.job x.by_ x.err)).put b (clB t x.level x.mine (some ⟨fb,0,none⟩) rp 11 x.a x.i x.w x.key x.job f'.by_ x.err),f161 (exL_ok Q orc) _ _ G _ ?_,(w1'.put2 hb1.tag ht _).put2 hb1.tag ht _,(hb1.putO _ _).putO _ _,some ⟨fb,0,none⟩,rp,by simp [h9],by simp [h9],by simp [h9]⟩
   simp [h9] at e1
   simp [jb161_0,j161_0,sb161,s161,clip_t,ho,e,e1,o1,e2]
  ·have e2:=fby_ok orc F1
   refine ⟨own1,G1.put b (clB t x.level x.mine (some ⟨fb,0,none⟩) rp 10 x.a x.i x.w x.key x.job f'.by_ x.err),f161 (exL_ok Q orc) _ _ G _ ?_,w1'.put2 hb1.tag ht _,hb1.putO _ _,some ⟨fb,0,none⟩,rp,by simp [h9],fun _=>⟨fb,tb,rfl,b1.putO _ _,b2.putO _ _,d,F1.kept (obj_put_ne _ _ n1) (obj_put_ne _ _ n2)⟩,by simp [h9]⟩
   simp [h9] at e1
   simp [jb161_0,j161_0,sb161,s161,clip_t,ho,e,e1,o1,e2]
 ·simp [ClS.l11]
  obtain ⟨G1,hG1⟩:∃ G1,G1 = (G.put b (clB t x.level x.mine fp rp 11 x.a x.i x.w x.key x.job x.a x.err)).put b (clB t x.level x.mine fp rp 99 x.a x.i x.w x.key x.job x.a x.err):=⟨_,rfl⟩
  have w1:PW (Own own tag) own G own G1 m s:=by rw [hG1]; exact ((PW.refl h).putT hb.tag ht _).putT hb.tag ht _
  have hb1:At own tag G1 b:=by rw [hG1]; exact (hb.putO _ _).putO _ _
  have o1:G1.obj b = some (clB t x.level x.mine fp rp 99 x.a x.i x.w x.key x.job x.a x.err):=by rw [hG1]; simp
  obtain ⟨G2,e2,x2⟩:=tat_ok orc t x.i 3 (G1.room 14)
  have y2:=((Ext.refl G1).room 14).trans x2
  have w2:=w1.extT y2 tag
  have hb2:=hb1.extO y2 tag
  have o2:=(y2.obj b hb1.lt).trans o1
  generalize grown own G1 tag = own2 at *
  obtain ⟨own4,G4,e4,w4⟩:=w2.pm.add orc (atI t x.i 3) 18446744073709551615
  generalize s.add (atI t x.i 3) 18446744073709551615 = s' at *
  generalize s'.new = v at *
  have w4':=w2.tr w4.any
  have hb4:=hb2.to w4.nx w4.stp.agr
  have o4:=(hb2.keep ht w4).trans o2
  by_cases c:v = 0
  ·rw [if_pos c]
   obtain ⟨rb,G5,e5,x5,q5,r5⟩:=newretire_ok orc t hidx.1 hidx.2 (G4.room 23)
   have y5:=((Ext.refl G4).room 23).trans x5
   have w5:=(w4'.lo (tg:=tg)).extT y5 tg
   have hb5:=hb4.extO y5 tg
   have o5:=(y5.obj b hb4.lt).trans o4
   have q5':G4.nx ≤ rb:=by have:=q5.1; simp at this; omega
   have hr5:At (grown own4 G4 tg) tg G5 rb:=At.new q5' q5.2
   have n1:rb ≠ b:=by have:=hb4.lt; omega
   refine ⟨_,(G5.put b (clB t x.level x.mine fp (some ⟨rb,0,none⟩) 99 x.a x.i x.w x.key x.job x.a x.err)).put b (clB t x.level x.mine fp (some ⟨rb,0,none⟩) 12 x.a x.i x.w x.key x.job x.a x.err),f161 (exL_ok Q orc) _ _ G _ ?_,(w5.put2 hb5.tag ht _).put2 hb5.tag ht _,(hb5.putO _ _).putO _ _,fp,some ⟨rb,0,none⟩,by simp,by simp,fun _=>⟨rb,rfl,(hr5.putO _ _).putO _ _,?_⟩⟩
   ·simp [jb161_0,j161_0,sb161,s161,clip_t,ho,e,← hG1,o1,e2,o2,e4,c,o4,e5,o5]
   ·have:=r5 (grown own4 G4 tg) tg
    refine this.to hr5 (Nat.le_refl _) (fun g hg hgt=>?_) (Agr.refl _ _)
    have:g ≠ b:=ne_tag hb5.tag hgt hne
    rw [obj_put_ne _ _ this,obj_put_ne _ _ this]
  ·rw [if_neg c]
   refine ⟨_,G4,f161 (exL_ok Q orc) _ _ G _ ?_,w4'.lo,hb4,fp,rp,o4,by simp,by simp⟩
   simp [jb161_0,j161_0,sb161,s161,clip_t,ho,e,← hG1,o1,e2,o2,e4,c]
 ·simp [ClS.l12]
  obtain ⟨rb,rfl,a1,hr⟩:=hr e
  obtain ⟨G1,hG1⟩:∃ G1,G1 = G.put b (clB t x.level x.mine fp (some ⟨rb,0,none⟩) 12 x.a x.i x.w x.key x.job 0 x.err):=⟨_,rfl⟩
  have w1:PW (Own own tag) own G own G1 m s:=by rw [hG1]; exact (PW.refl h).putT hb.tag ht _
  have hb1:At own tag G1 b:=by rw [hG1]; exact hb.putO _ _
  have o1:G1.obj b = some (clB t x.level x.mine fp (some ⟨rb,0,none⟩) 12 x.a x.i x.w x.key x.job 0 x.err):=by rw [hG1]; simp
  have r1:RtP own tg t G1 rb x.i x.ret:=hr.to a1 (by rw [hG1]; exact Nat.le_refl _) (fun g hgl hgt=>by rw [hG1,obj_put_ne _ _ (ne_tag hb.tag hgt hne)]) (Agr.refl _ _)
  have a1':At own tg G1 rb:=by rw [hG1]; exact a1.putO _ _
  obtain ⟨own2,G2,e2,w2,r2⟩:=retire_ok orc hto hlo hidx.1 hidx.2 w1.pm hm (hx.ret e) hg a1' r1
  have o2:=(w2.keepT hb1.lt hb1.tag ht hne).trans o1
  have hb2:=hb1.to w2.nx w2.stp.agr
  have a2:=a1'.to w2.nx w2.stp.agr
  have w2':PW (Ow2 own tag tg) own G own2 G2 m (x.ret.step t x.i s).2:=(w1.lo (tg:=tg)).tr2 w2.hi
  generalize (x.ret.step t x.i s).2 = s' at *
  generalize (x.ret.step t x.i s).1 = p' at *
  by_cases h9:p'.over = true
  ·rw [h9] at e2
   refine ⟨own2,G2.put b (clB t x.level x.mine fp (some ⟨rb,0,none⟩) 99 x.a x.i x.w x.key x.job 0 x.err),f161 (exL_ok Q orc) _ _ G _ ?_,w2'.put2 hb2.tag ht _,hb2.putO _ _,fp,some ⟨rb,0,none⟩,by simp [h9],by simp [h9],by simp [h9]⟩
   simp [jb161_0,j161_0,sb161,s161,clip_t,ho,e,← hG1,o1,e2,o2]
  ·rw [Bool.not_eq_true] at h9
   rw [h9] at e2
   refine ⟨own2,G2,f161 (exL_ok Q orc) _ _ G _ ?_,w2',hb2,fp,some ⟨rb,0,none⟩,by simp [h9,o2],by simp [h9],fun _=>⟨rb,rfl,a2,r2⟩⟩
   simp [jb161_0,j161_0,sb161,s161,clip_t,ho,e,← hG1,o1,e2]
end
end Go.Proofs.YtaanpcoglijohaaGreat.Lift
set_option linter.unusedVariables false
set_option linter.unusedSimpArgs false
set_option maxRecDepth 20000
namespace Go.Proofs.YtaanpcoglijohaaGreat.Lift
open Go Go.Proofs.YtaanpcoglijohaaGreat.Gh Go.Proofs
section
variable {own own' own1 own2:Nat → Nat} {tag tg m r b:Nat} {t:TW} {G G' G1 G2:GS} {s s' s1:MS} {x:ClS} {fp rp:Option Addr}
theorem ClP.low (hb:At own tag G b) (ho:G.obj b = some (clX t x fp rp)) (h1:x.line ≠ 10) (h2:x.line ≠ 12):ClP own tag tg t G b x:=⟨hb,fp,rp,ho,fun h=>absurd h h1,fun h=>absurd h h2⟩
theorem ClS.low_f (hl:x.line = 1 ∨ x.line = 2 ∨ x.line = 3):(x.step false t s).1.line ≠ 10 ∧ (x.step false t s).1.line ≠ 12:=by
 rcases hl with e | e | e <;> (unfold ClS.step; simp only [e]) <;> simp [ClS.l1,ClS.l2,ClS.l3] <;> split <;> simp
theorem ClS.low_m (hl:x.line = 4 ∨ x.line = 5 ∨ x.line = 6):(x.step false t s).1.line ≠ 10 ∧ (x.step false t s).1.line ≠ 12:=by
 rcases hl with e | e | e <;> (unfold ClS.step; simp only [e]) <;> simp [ClS.l4,ClS.l5,ClS.l6,ClS.below] <;> (repeat' split) <;> simp
def ClPost (own0:Nat → Nat) (tag tg m b:Nat) (t:TW) (G0:GS) (y:ClS × MS) (q:Exit × Env × GS):Prop:=q.1 = .exit 0 ∧ q.2.1 0 = P0 b ∧ ∃ own1,PW (Ow2 own0 tag tg) own0 G0 own1 q.2.2 m y.2 ∧ ClP own1 tag tg t q.2.2 b y.1
theorem clp8_ok (orc:FuncId → Bool) (h:PM own G m s) (hm:s.ok) (hx:x.ok false t) (ht:tag ≠ 10) (hb:At own tag G b) (ho:G.obj b = some (clX t x fp rp)) (e:x.line = 8) {τ:Env} (t0:τ 0 = P0 b) (t1:τ 1 = P0 m) :
  Wp (b90_0 true (exL Q orc) ((exL Q orc).lpx 90 0) τ G) (ClPost own tag tg m b t G (x.step false t s)):=by
 have hst:x.step false t s = x.l8 t s:=by unfold ClS.step; simp [e]
 rw [hst]; unfold ClS.l8; simp only
 obtain ⟨G1,hG1⟩:∃ G1,G1 = (G.put b (clB t x.level x.mine fp rp 8 x.a x.i x.w x.key x.job x.a x.err)).put b (clB t x.level x.mine fp rp 7 x.a x.i x.w x.key x.job x.a x.err):=⟨_,rfl⟩
 have w1:PW (Own own tag) own G own G1 m s:=by rw [hG1]; exact ((PW.refl h).putT hb.tag ht _).putT hb.tag ht _
 have hb1:At own tag G1 b:=by rw [hG1]; exact (hb.putO _ _).putO _ _
 have o1:G1.obj b = some (clB t x.level x.mine fp rp 7 x.a x.i x.w x.key x.job x.a x.err):=by rw [hG1]; simp
 obtain ⟨G2,e2,x2⟩:=tnext_ok orc t x.i 0 (G1.room 24)
 have y2:=((Ext.refl G1).room 24).trans x2
 have w2:=w1.extT y2 tag
 have hb2:=hb1.extO y2 tag
 have o2:=(y2.obj b hb1.lt).trans o1
 have e3:=lmarks_t orc hx.w (hx.m8 (.inr e)) G2
 generalize grown own G1 tag = own2 at *
 obtain ⟨own4,G4,e4,w4⟩:=w2.pm.cas orc (nextI t x.i 0) x.w (x.w + mkB)
 generalize s.cas (nextI t x.i 0) x.w (x.w + mkB) = s' at *
 have w4':=w2.tr w4.any
 have hb4:=hb2.to w4.nx w4.stp.agr
 have o4:=(hb2.keep ht w4).trans o2
 cases hh:s'.held with
 | true =>
  rw [hh] at e4
  simp [b90_0,bb90_0,jl90_0_2,jbl90_0_2,clip_t,t0,t1,ho,e,← hG1,o1,e2,o2,e3,e4,o4]
  exact ⟨rfl,by simp [clip_t,t0],own4,((w4'.putT hb4.tag ht _).putT hb4.tag ht _).lo,.low (fp:=fp) (rp:=rp) ((hb4.putO _ _).putO _ _) (by simp) (by simp) (by simp)⟩
 | false =>
  rw [hh] at e4
  simp [b90_0,bb90_0,jl90_0_2,jbl90_0_2,clip_t,t0,t1,ho,e,← hG1,o1,e2,o2,e3,e4,o4]
  exact ⟨rfl,by simp [clip_t,t0],own4,w4'.lo,.low (fp:=fp) (rp:=rp) hb4 (by simp [o4]) (by simp) (by simp)⟩
set_option maxHeartbeats 1000000 in
theorem clp_ok (orc:FuncId → Bool) (hto:orc 241 = false) (hs:t.sound) (hlo:t.lok) (h:PM own G m s) (hm:s.ok) (hx:x.ok false t) (h99:x.line ≠ 99) (ht:tag ≠ 10) (hg:tg ≠ 10) (hne:tag ≠ tg) (hp:ClP own tag tg t G b x) {τ:Env} (t0:τ 0 = P0 b) (t1:τ 1 = P0 m) :
  Wp ((exL Q orc).lpx 90 0 τ G) (ClPost own tag tg m b t G (x.step false t s)):=by
 refine Wp.lp (l90_0 (exL_ok Q orc)) ?_
 have hp':=hp
 obtain ⟨hb,fp,rp,ho,hf,hr⟩:=hp
 have hidx:=hx.idx
 rcases hx.line with e | e | e | e | e | e | ⟨-,e | e | e | e | e | e | e | e⟩
 ·obtain ⟨own1,G1,e1,w1,b1,o1⟩:=cfirst_ok' orc hto hs h hm hx.w hx.m3 ht hb ho (.inl e)
  simp [b90_0,bb90_0,jl90_0_1,jbl90_0_1,clip_t,t0,t1,ho,e,e1]
  have hlow:=ClS.low_f (t:=t) (s:=s) (.inl e:x.line = 1 ∨ x.line = 2 ∨ x.line = 3)
  exact ⟨rfl,by simp [clip_t,t0],own1,w1.lo,.low b1 o1 hlow.1 hlow.2⟩
 ·obtain ⟨own1,G1,e1,w1,b1,o1⟩:=cfirst_ok' orc hto hs h hm hx.w hx.m3 ht hb ho (.inr (.inl e))
  simp [b90_0,bb90_0,jl90_0_1,jbl90_0_1,clip_t,t0,t1,ho,e,e1]
  have hlow:=ClS.low_f (t:=t) (s:=s) (.inr (.inl e):x.line = 1 ∨ x.line = 2 ∨ x.line = 3)
  exact ⟨rfl,by simp [clip_t,t0],own1,w1.lo,.low b1 o1 hlow.1 hlow.2⟩
 ·obtain ⟨own1,G1,e1,w1,b1,o1⟩:=cfirst_ok' orc hto hs h hm hx.w hx.m3 ht hb ho (.inr (.inr e))
  simp [b90_0,bb90_0,jl90_0_1,jbl90_0_1,clip_t,t0,t1,ho,e,e1]
  have hlow:=ClS.low_f (t:=t) (s:=s) (.inr (.inr e):x.line = 1 ∨ x.line = 2 ∨ x.line = 3)
  exact ⟨rfl,by simp [clip_t,t0],own1,w1.lo,.low b1 o1 hlow.1 hlow.2⟩
 ·-- line 9
  have hst:x.step false t s = x.l9 t s:=by unfold ClS.step; simp [e]
  rw [hst]; unfold ClS.l9; simp only
  obtain ⟨own1,G1,e1,w1,b1,o1⟩:=cload_ok orc h ht hb ho 0
  generalize s.load (atI t x.i 0) = s' at *
  generalize s'.new = v at *
  simp [b90_0,bb90_0,jl90_0_2,jbl90_0_2,clip_t,t0,t1,ho,e,e1,o1]
  refine ⟨rfl,by simp [clip_t,t0],own1,((w1.putT b1.tag ht _).putT b1.tag ht _).lo,.low (fp:=fp) (rp:=rp) ((b1.putO _ _).putO _ _) (by simp) (by simp) (by simp)⟩
 ·-- line 91
  have hst:x.step false t s = x.l91 false t s:=by unfold ClS.step; simp [e]
  rw [hst]; unfold ClS.l91; simp only [Bool.false_eq_true,if_false]
  obtain ⟨own1,G1,e1,w1,b1,o1⟩:=cjob_ok orc h hm ht hb ho
  generalize s.load (atI t x.i 1) = s' at *
  generalize s'.new = v at *
  obtain ⟨fb,tb,G2,e2,x2,q1,q2,d,F⟩:=newfind_ok orc hs x.key (G1.room 23)
  have y2:=((Ext.refl G1).room 23).trans x2
  have w2:=(w1.lo (tg:=tg)).extT y2 tg
  have hb2:=b1.extO y2 tg
  have o2:=(y2.obj b b1.lt).trans o1
  have q1':G1.nx ≤ fb:=by have:=q1.1; simp at this; omega
  have q2':G1.nx ≤ tb:=by have:=q2.1; simp at this; omega
  have hf2:At (grown own1 G1 tg) tg G2 fb:=At.new q1' q1.2
  have ht2:At (grown own1 G1 tg) tg G2 tb:=At.new q2' q2.2
  have n1:fb ≠ b:=by have:=b1.lt; omega
  have n2:tb ≠ b:=by have:=b1.lt; omega
  generalize grown own1 G1 tg = own2 at *
  simp [b90_0,bb90_0,jl90_0_2,jbl90_0_2,clip_t,t0,t1,ho,e,e1,o1,e2,o2]
  refine ⟨rfl,by simp [clip_t,t0],own2,(w2.put2 hb2.tag ht _).put2 hb2.tag ht _,(hb2.putO _ _).putO _ _,some ⟨fb,0,none⟩,rp,by simp,fun _=>⟨fb,tb,rfl,(hf2.putO _ _).putO _ _,(ht2.putO _ _).putO _ _,d,F.kept ?_ ?_⟩,by simp⟩
  ·rw [obj_put_ne _ _ n1,obj_put_ne _ _ n1]
  ·rw [obj_put_ne _ _ n2,obj_put_ne _ _ n2]
 ·exact absurd e h99
 ·obtain ⟨own1,G1,e1,w1,b1,o1⟩:=cmark_ok orc hs h hm hx ht hb fp rp ho (.inl e)
  simp [b90_0,bb90_0,jl90_0_0,jbl90_0_0,clip_t,t0,t1,ho,e,e1]
  have hlow:=ClS.low_m (t:=t) (s:=s) (.inl e:x.line = 4 ∨ x.line = 5 ∨ x.line = 6)
  exact ⟨rfl,by simp [clip_t,t0],own1,w1.lo,.low b1 o1 hlow.1 hlow.2⟩
 ·obtain ⟨own1,G1,e1,w1,b1,o1⟩:=cmark_ok orc hs h hm hx ht hb fp rp ho (.inr (.inl e))
  simp [b90_0,bb90_0,jl90_0_0,jbl90_0_0,clip_t,t0,t1,ho,e,e1]
  have hlow:=ClS.low_m (t:=t) (s:=s) (.inr (.inl e):x.line = 4 ∨ x.line = 5 ∨ x.line = 6)
  exact ⟨rfl,by simp [clip_t,t0],own1,w1.lo,.low b1 o1 hlow.1 hlow.2⟩
 ·obtain ⟨own1,G1,e1,w1,b1,o1⟩:=cmark_ok orc hs h hm hx ht hb fp rp ho (.inr (.inr e))
  simp [b90_0,bb90_0,jl90_0_0,jbl90_0_0,clip_t,t0,t1,ho,e,e1]
  have hlow:=ClS.low_m (t:=t) (s:=s) (.inr (.inr e):x.line = 4 ∨ x.line = 5 ∨ x.line = 6)
  exact ⟨rfl,by simp [clip_t,t0],own1,w1.lo,.low b1 o1 hlow.1 hlow.2⟩
 ·-- line 7
  have hst:x.step false t s = x.l7 t s:=by unfold ClS.step; simp [e]
  rw [hst]; unfold ClS.l7; simp only
  have hn:=(hm.load (atI t x.i 4)).2
  obtain ⟨own1,G1,e1,w1,b1,o1⟩:=cload_ok orc h ht hb ho 4
  generalize s.load (atI t x.i 4) = s' at *
  generalize s'.new = v at *
  obtain ⟨G2,hG2⟩:∃ G2,G2 = (G1.put b (clB t x.level x.mine fp rp 7 x.a x.i v x.key x.job x.a x.err)).put b (clB t x.level x.mine fp rp 8 x.a x.i v x.key x.job x.a x.err):=⟨_,rfl⟩
  have w2:PW (Own own tag) own G own1 G2 m s':=by rw [hG2]; exact (w1.putT b1.tag ht _).putT b1.tag ht _
  have hb2:At own1 tag G2 b:=by rw [hG2]; exact (b1.putO _ _).putO _ _
  have o2:G2.obj b = some (clB t x.level x.mine fp rp 8 x.a x.i v x.key x.job x.a x.err):=by rw [hG2]; simp
  have e3:=lmarked_ok orc hn G2
  by_cases c1:mkB ≤ v
  ·have c1':9223372036854775808 ≤ v:=c1
   simp [b90_0,bb90_0,jl90_0_2,jbl90_0_2,clip_t,t0,t1,ho,e,e1,o1,← hG2,o2,e3,c1']
   exact ⟨rfl,by simp [clip_t,t0],own1,(w2.putT hb2.tag ht _).lo,.low (fp:=fp) (rp:=rp) (hb2.putO _ _) (by simp [c1]) (by simp [c1]) (by simp [c1])⟩
  ·have c1':¬ 9223372036854775808 ≤ v:=c1
   simp [b90_0,bb90_0,jl90_0_2,jbl90_0_2,clip_t,t0,t1,ho,e,e1,o1,← hG2,o2,e3,c1']
   exact ⟨rfl,by simp [clip_t,t0],own1,w2.lo,.low (fp:=fp) (rp:=rp) hb2 (by simp [c1,o2]) (by simp [c1]) (by simp [c1])⟩
 ·exact clp8_ok orc h hm hx ht hb ho e t0 t1
 ·obtain ⟨own1,G1,e1,w1,p1⟩:=cleave_ok orc hto hs hlo h hm hx ht hg hne hp' (.inl e)
  simp [b90_0,bb90_0,jl90_0_2,jbl90_0_2,clip_t,t0,t1,ho,e,e1]
  exact ⟨rfl,by simp [clip_t,t0],own1,w1,p1⟩
 ·obtain ⟨own1,G1,e1,w1,p1⟩:=cleave_ok orc hto hs hlo h hm hx ht hg hne hp' (.inr (.inl e))
  simp [b90_0,bb90_0,jl90_0_2,jbl90_0_2,clip_t,t0,t1,ho,e,e1]
  exact ⟨rfl,by simp [clip_t,t0],own1,w1,p1⟩
 ·obtain ⟨own1,G1,e1,w1,p1⟩:=cleave_ok orc hto hs hlo h hm hx ht hg hne hp' (.inr (.inr e))
  simp [b90_0,bb90_0,jl90_0_2,jbl90_0_2,clip_t,t0,t1,ho,e,e1]
  exact ⟨rfl,by simp [clip_t,t0],own1,w1,p1⟩
theorem cstep_ok (orc:FuncId → Bool) (hto:orc 241 = false) (hs:t.sound) (hlo:t.lok) (h:PM own G m s) (hm:s.ok) (hx:x.ok false t) (ht:tag ≠ 10) (hg:tg ≠ 10) (hne:tag ≠ tg) (hp:ClP own tag tg t G b x) :
  ∃ own1 G1,(E orc).cl 90 [P0 b,P0 m] G = some (.bool (decide ((x.step false t s).1.line = 99)),G1) ∧ PW (Ow2 own tag tg) own G own1 G1 m (x.step false t s).2 ∧ ClP own1 tag tg t G1 b (x.step false t s).1:=by
 have hp':=hp
 obtain ⟨hb,fp,rp,ho,hf,hr⟩:=hp
 by_cases e:x.line = 99
 ·have hst:x.step false t s = (x,s):=by unfold ClS.step; simp [e]
  rw [hst]
  have e1:(E orc).cl 152 [P0 b] G = some (.bool true,G):=f152 (exL_ok Q orc) _ G _ (by simp [s152,ho,e])
  refine ⟨own,G,f90 (exL_ok Q orc) _ _ G _ ?_,.refl h,hp'⟩
  simp [s90,e,e1]
 ·have e1:(E orc).cl 152 [P0 b] G = some (.bool false,G):=f152 (exL_ok Q orc) _ G _ (by simp [s152,ho,e])
  have wW:Wp (s90 true (exL Q orc) (P0 b) (P0 m) G) fun q=>q.1 = .bool (decide ((x.step false t s).1.line = 99)) ∧ ∃ own1,PW (Ow2 own tag tg) own G own1 q.2 m (x.step false t s).2 ∧ ClP own1 tag tg t q.2 b (x.step false t s).1:=by
   simp [s90,e1]
   refine Wp.bE ((clp_ok orc hto hs hlo h hm hx e ht hg hne hp' (by simp) (by simp)).mono ?_)
   rintro ⟨e,τ,G'⟩ ⟨h1,h2,own1,h3,h4⟩
   simp only at h1 h2 h3 h4
   subst h1
   have h4':=h4
   obtain ⟨-,fp',rp',o4,-⟩:=h4'
   simp [h2,o4]
   exact ⟨own1,h3,h4⟩
  obtain ⟨⟨v,G'⟩,e,rfl,own1,h3,h4⟩:=wW
  exact ⟨own1,G',f90 (exL_ok Q orc) _ _ G _ e,h3,h4⟩
end
end Go.Proofs.YtaanpcoglijohaaGreat.Lift
