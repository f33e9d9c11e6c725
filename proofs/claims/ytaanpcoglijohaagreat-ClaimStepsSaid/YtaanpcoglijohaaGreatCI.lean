import Derived.Test.YtaanpcoglijohaaGreatCH
set_option linter.unusedVariables false
set_option linter.unusedSimpArgs false
set_option maxRecDepth 20000
namespace Go.Proofs.YtaanpcoglijohaaGreat.Lift
open Go Go.Proofs.YtaanpcoglijohaaGreat.Gh Go.Proofs
abbrev rcB (t:TW) (look:Bool) (ln a w i lv k j:Int) (fp rp:Option Addr) (mn:Bool) (by_ er:Int):GObj:=⟨[.int .i64 t.nodes,.int .i64 t.heads,.int .i64 t.height,.int .i64 t.top,.int .i64 t.links,.int .i64 t.size,.int .i64 t.u6,.int .i64 t.u7,.int .i64 t.u8,.int .i64 t.u9,.int .i64 t.u10,.int .i64 t.u11,.int .i64 t.u12,.bool look,.int .i64 ln,.int .u64 a,.int .u64 w,.int .i64 i,.int .i64 lv,.int .u64 k,.int .i64 j,.pointer fp,.pointer rp,.bool mn,.int .u64 by_,.int .i64 er],1,false,1⟩
def rl (l:Int):Int:=if l = 12 then 92 else l
abbrev rcX (look:Bool) (t:TW) (x:ClS) (I:Int) (fp rp:Option Addr):GObj:=rcB t look (rl x.line) x.a x.w I x.level x.key x.job fp rp x.mine x.by_ x.err
section
variable {look:Bool} {own own':Nat → Nat} {tag tg m r b:Nat} {t:TW} {G G':GS} {s:MS} {ln a i w lv k j by_ er I:Int} {mn:Bool} {fp rp:Option Addr} {x:ClS}
theorem rcnext_ok (orc:FuncId → Bool) (ho:G.obj b = some (rcB t look ln a w I lv k j fp rp mn by_ er)) (i l:Int):∃ G',(E orc).cl 188 [P0 b,.int .i64 i,.int .i64 l] G = some (.int .i64 (nextI t i l),G') ∧ Ext G G':=by
 obtain ⟨G1,e1,x1⟩:=rnext_ok orc t i l G
 refine ⟨G1,f188 (exL_ok Q orc) _ _ _ G _ ?_,x1⟩
 simp [s188,ho,e1]
theorem rcload_ok (orc:FuncId → Bool) (h:RM own G r s) (ht:tag ≠ 11) (hb:At own tag G b) (ho:G.obj b = some (rcB t look ln a w I lv k j fp rp mn by_ er)) (part:Int) :
  ∃ own1 G1,(E orc).cl 190 [P0 b,P0 r,.int .i64 part] G = some (.int .u64 (s.load (atI t I part)).new,G1) ∧ RW (Own own tag) own G own1 G1 r (s.load (atI t I part)) ∧ At own1 tag G1 b ∧ G1.obj b = some (rcB t look ln a w I lv k j fp rp mn a er):=by
 obtain ⟨G1,hG1⟩:∃ G1,G1 = G.put b (rcB t look ln a w I lv k j fp rp mn a er):=⟨_,rfl⟩
 have w1:RW (Own own tag) own G own G1 r s:=by rw [hG1]; exact (RW.refl h).putT hb.tag ht _
 have hb1:At own tag G1 b:=by rw [hG1]; exact hb.putO _ _
 have o1:G1.obj b = some (rcB t look ln a w I lv k j fp rp mn a er):=by rw [hG1]; simp
 obtain ⟨G2,e2,x2⟩:=rtat_ok orc t I part (G1.room 13)
 have y2:=((Ext.refl G1).room 13).trans x2
 have w2:=w1.extT y2 tag
 have hb2:=hb1.extO y2 tag
 have o2:=(y2.obj b hb1.lt).trans o1
 generalize grown own G1 tag = own2 at *
 obtain ⟨own3,G3,e3,w3⟩:=w2.rm.load orc (atI t I part)
 have o3:=(w3.keep hb2.lt (by rw [hb2.tag]; exact ht) id).trans o2
 refine ⟨own3,G3,f190 (exL_ok Q orc) _ _ _ G _ ?_,w2.tr w3.any,hb2.to w3.nx w3.stp.agr,o3⟩
 simp [s190,ho,← hG1,o1,e2,e3]
theorem rcbelow_ok (orc:FuncId → Bool) (hl:-9223372036854775808 < lv ∧ lv ≤ 4096) (hb:b < G.nx) (ho:G.obj b = some (rcB t look ln a w I lv k j fp rp mn by_ er)) :
  ∃ G1,(E orc).cl 191 [P0 b] G = some (.tuple #[],G1) ∧ ModP (fun g=>g = b) G G1 ∧ G1.obj b = some (rcB t look (if lv - 1 < 1 then 7 else 5) a w I (lv - 1) k j fp rp mn by_ er):=by
 have e:IntKind.wrap .i64 (lv - 1) = lv - 1:=wrap64 (by omega) (by omega)
 by_cases h1:lv - 1 < 1
 ·refine ⟨((G.put b (rcB t look ln a w I (lv - 1) k j fp rp mn by_ er)).put b (rcB t look 5 a w I (lv - 1) k j fp rp mn by_ er)).put b (rcB t look 7 a w I (lv - 1) k j fp rp mn by_ er),f191 (exL_ok Q orc) _ G _ ?_,((((ModP.refl (fun g=>g = b) G).put (.inl rfl) _).put (.inl rfl) _).put (.inl rfl) _),by rw [if_pos h1]; simp⟩
  simp [s191,ho,e,h1]
 ·refine ⟨((G.put b (rcB t look ln a w I (lv - 1) k j fp rp mn by_ er)).put b (rcB t look 5 a w I (lv - 1) k j fp rp mn by_ er)),f191 (exL_ok Q orc) _ G _ ?_,(((ModP.refl (fun g=>g = b) G).put (.inl rfl) _).put (.inl rfl) _),by rw [if_neg h1]; simp⟩
  simp [s191,ho,e,h1]
def RcO (own:Nat → Nat) (tag:Nat) (look:Bool) (t:TW) (G:GS) (b:Nat) (x:ClS) (fp rp:Option Addr):Prop:=At own tag G b ∧ ∃ I,G.obj b = some (rcX look t x I fp rp) ∧ (x.line ≠ 1 → x.line ≠ 99 → I = x.i)
theorem idx_lt {w:Int} (hz:t.sound) (hu:0 ≤ w):(idxI t.size w < 0 ↔ w % 65536 - 1 < 0 ∨ t.size ≤ w % 65536 - 1) ∧ (¬ idxI t.size w < 0 → idxI t.size w = w % 65536 - 1):=by
 unfold idxI; split <;> omega
theorem rclooks_ok (orc:FuncId → Bool) (hs:t.sound) (h:RM own G r s) (hm:s.ok) (hx:x.ok look t) (ht:tag ≠ 11) (hp:RcO own tag look t G b x fp rp) (hl:x.line = 1 ∨ x.line = 2 ∨ x.line = 3) :
  ∃ own1 G1,(E orc).cl 143 [P0 b,P0 r] G = some (.tuple #[],G1) ∧ RW (Own own tag) own G own1 G1 r (x.step look t s).2 ∧ RcO own1 tag look t G1 b (x.step look t s).1 fp rp:=by
 obtain ⟨hb,I,ho,hI⟩:=hp
 rcases hl with e | e | e
 all_goals unfold ClS.step; simp only [e]
 ·simp [ClS.l1]
  have hn:=(hm.load (nextI t (-1) 0)).2
  obtain ⟨G1,hG1⟩:∃ G1,G1 = G.put b (rcB t look 1 x.a x.w I x.level x.key x.job fp rp x.mine 0 x.err):=⟨_,rfl⟩
  have w1:RW (Own own tag) own G own G1 r s:=by rw [hG1]; exact (RW.refl h).putT hb.tag ht _
  have hb1:At own tag G1 b:=by rw [hG1]; exact hb.putO _ _
  have o1:G1.obj b = some (rcB t look 1 x.a x.w I x.level x.key x.job fp rp x.mine 0 x.err):=by rw [hG1]; simp
  obtain ⟨G2,e2,x2⟩:=rcnext_ok orc o1 (-1) 0
  have w2:=w1.extT x2 tag
  have hb2:=hb1.extO x2 tag
  have o2:=(x2.obj b hb1.lt).trans o1
  generalize grown own G1 tag = own2 at *
  obtain ⟨own3,G3,e3,w3⟩:=w2.rm.load orc (nextI t (-1) 0)
  generalize s.load (nextI t (-1) 0) = s' at *
  generalize s'.new = v at *
  have w3':=w2.tr w3.any
  have hb3:=hb2.to w3.nx w3.stp.agr
  have o3:=(w3.keep hb2.lt (by rw [hb2.tag]; exact ht) id).trans o2
  obtain ⟨G4,hG4⟩:∃ G4,G4 = G3.put b (rcB t look 1 v x.w I x.level x.key x.job fp rp x.mine 0 x.err):=⟨_,rfl⟩
  have w4:RW (Own own tag) own G own3 G4 r s':=by rw [hG4]; exact w3'.putT hb3.tag ht _
  have hb4:At own3 tag G4 b:=by rw [hG4]; exact hb3.putO _ _
  have o4:G4.obj b = some (rcB t look 1 v x.w I x.level x.key x.job fp rp x.mine 0 x.err):=by rw [hG4]; simp
  obtain ⟨G5,e5,x5⟩:=rindex15_ok orc t hn (G4.room 13)
  have y5:=((Ext.refl G4).room 13).trans x5
  have w5:=w4.extT y5 tag
  have hb5:=hb4.extO y5 tag
  have o5:=(y5.obj b hb4.lt).trans o4
  generalize grown own3 G4 tag = own5 at *
  obtain ⟨hi1,hi2⟩:=idx_lt hs hn.1
  generalize idxI t.size v = J at *
  obtain ⟨G6,hG6⟩:∃ G6,G6 = (G5.put b (rcB t look 1 v x.w J x.level x.key x.job fp rp x.mine 0 x.err)).put b (rcB t look 2 v x.w J x.level x.key x.job fp rp x.mine 0 x.err):=⟨_,rfl⟩
  have w6:RW (Own own tag) own G own5 G6 r s':=by rw [hG6]; exact (w5.putT hb5.tag ht _).putT hb5.tag ht _
  have hb6:At own5 tag G6 b:=by rw [hG6]; exact (hb5.putO _ _).putO _ _
  have o6:G6.obj b = some (rcB t look 2 v x.w J x.level x.key x.job fp rp x.mine 0 x.err):=by rw [hG6]; simp
  by_cases c1:J < 0
  ·rw [if_pos (hi1.1 c1)]
   refine ⟨own5,(G6.put b (rcB t look 99 v x.w J x.level x.key x.job fp rp x.mine 0 x.err)).put b (rcB t look 99 v x.w J x.level x.key x.job fp rp x.mine 0 15),f143 (exL_ok Q orc) _ _ G _ ?_,(w6.putT hb6.tag ht _).putT hb6.tag ht _,(hb6.putO _ _).putO _ _,J,by simp [rl],by simp⟩
   simp [s143,ho,e,rl,← hG1,o1,e2,e3,o3,← hG4,o4,e5,o5,← hG6,o6,c1]
  ·rw [if_neg (fun k=>c1 (hi1.2 k))]
   refine ⟨own5,G6,f143 (exL_ok Q orc) _ _ G _ ?_,w6,hb6,J,by rw [o6]; rfl,fun _ _=>hi2 c1⟩
   simp [s143,ho,e,rl,← hG1,o1,e2,e3,o3,← hG4,o4,e5,o5,← hG6,o6,c1]
 ·have hI':=hI (by omega) (by omega)
  subst hI'
  simp [ClS.l2]
  have hn:=(hm.load (atI t x.i 4)).2
  obtain ⟨own1,G1,e1,w1,hb1,o1⟩:=rcload_ok orc h ht hb ho 4
  generalize s.load (atI t x.i 4) = s' at *
  generalize s'.new = v at *
  obtain ⟨G2,hG2⟩:∃ G2,G2 = G1.put b (rcB t look 2 x.a v x.i x.level x.key x.job fp rp x.mine x.a x.err):=⟨_,rfl⟩
  have w2:RW (Own own tag) own G own1 G2 r s':=by rw [hG2]; exact w1.putT hb1.tag ht _
  have hb2:At own1 tag G2 b:=by rw [hG2]; exact hb1.putO _ _
  have o2:G2.obj b = some (rcB t look 2 x.a v x.i x.level x.key x.job fp rp x.mine x.a x.err):=by rw [hG2]; simp
  by_cases c1:mkB ≤ v
  ·have c1':9223372036854775808 ≤ v:=c1
   rw [if_pos c1]
   refine ⟨own1,G2.put b (rcB t look 3 x.a v x.i x.level x.key x.job fp rp x.mine x.a x.err),f143 (exL_ok Q orc) _ _ G _ ?_,w2.putT hb2.tag ht _,hb2.putO _ _,x.i,by simp [rl],fun _ _=>rfl⟩
   simp [s143,ho,e,rl,e1,o1,← hG2,o2,c1']
  ·have c1':¬ 9223372036854775808 ≤ v:=c1
   rw [if_neg c1]
   cases look with
   | true =>
    refine ⟨own1,G2.put b (rcB t true 9 x.a v x.i x.level x.key x.job fp rp x.mine x.a x.err),f143 (exL_ok Q orc) _ _ G _ ?_,w2.putT hb2.tag ht _,hb2.putO _ _,x.i,by simp [rl],fun _ _=>rfl⟩
    simp [s143,ho,e,rl,e1,o1,← hG2,o2,c1']
   | false =>
    refine ⟨own1,G2.put b (rcB t false 4 x.a v x.i x.level x.key x.job fp rp x.mine x.a x.err),f143 (exL_ok Q orc) _ _ G _ ?_,w2.putT hb2.tag ht _,hb2.putO _ _,x.i,by simp [rl],fun _ _=>rfl⟩
    simp [s143,ho,e,rl,e1,o1,← hG2,o2,c1']
 ·simp [ClS.l3]
  have hu:=U_sub hx.w (hx.m3 e)
  have ew:IntKind.wrap .u64 (x.w - 9223372036854775808) = x.w - mkB:=by rw [wrap_u64]; unfold mkB at *; unfold U at hu; omega
  obtain ⟨G1,hG1⟩:∃ G1,G1 = G.put b (rcB t look 3 x.a x.w I x.level x.key x.job fp rp x.mine 0 x.err):=⟨_,rfl⟩
  have w1:RW (Own own tag) own G own G1 r s:=by rw [hG1]; exact (RW.refl h).putT hb.tag ht _
  have hb1:At own tag G1 b:=by rw [hG1]; exact hb.putO _ _
  have o1:G1.obj b = some (rcB t look 3 x.a x.w I x.level x.key x.job fp rp x.mine 0 x.err):=by rw [hG1]; simp
  have o1':(G1.room 13).obj b = some (rcB t look 3 x.a x.w I x.level x.key x.job fp rp x.mine 0 x.err):=by simp [o1]
  obtain ⟨G2,e2,x2⟩:=rcnext_ok orc o1' (-1) 0
  have y2:=((Ext.refl G1).room 13).trans x2
  have w2:=w1.extT y2 tag
  have hb2:=hb1.extO y2 tag
  have o2:=(y2.obj b hb1.lt).trans o1
  generalize grown own G1 tag = own2 at *
  obtain ⟨own4,G4,e4,w4⟩:=w2.rm.cas orc (nextI t (-1) 0) x.a (x.w - mkB)
  have w4':=w2.tr w4.any
  have hb4:=hb2.to w4.nx w4.stp.agr
  have o4:=(w4.keep hb2.lt (by rw [hb2.tag]; exact ht) id).trans o2
  refine ⟨own4,G4.put b (rcB t look 1 x.a x.w I x.level x.key x.job fp rp x.mine 0 x.err),f143 (exL_ok Q orc) _ _ G _ ?_,w4'.putT hb4.tag ht _,hb4.putO _ _,I,by simp [rl],by simp⟩
  simp [s143,ho,e,rl,← hG1,o1,e2,o2,ew,e4,o4]
end
end Go.Proofs.YtaanpcoglijohaaGreat.Lift
set_option linter.unusedVariables false
set_option linter.unusedSimpArgs false
set_option maxRecDepth 20000
namespace Go.Proofs.YtaanpcoglijohaaGreat.Lift
open Go Go.Proofs.YtaanpcoglijohaaGreat.Gh Go.Proofs
section
variable {look:Bool} {own own' own1:Nat → Nat} {tag tg m r b:Nat} {t:TW} {G G' G1:GS} {s s':MS} {I:Int} {fp rp:Option Addr} {x:ClS}
theorem At.rkeep (h:At own tag G b) (ht:tag ≠ 11) (w:RW no own G own1 G1 r s'):G1.obj b = G.obj b:=w.keep h.lt (by rw [h.tag]; exact ht) id
theorem wrap_addm {w:Int} (h:U w) (hm:w < mkB):IntKind.wrap .u64 (w + 9223372036854775808) = w + mkB:=by have:=h.1; rw [wrap_u64]; unfold mkB at *; omega
theorem rcmarks_ok (orc:FuncId → Bool) (hs:t.sound) (h:RM own G r s) (hm:s.ok) (hx:x.ok false t) (ht:tag ≠ 11) (hp:RcO own tag look t G b x fp rp) (hl:x.line = 4 ∨ x.line = 5 ∨ x.line = 6) :
  ∃ own1 G1,(E orc).cl 144 [P0 b,P0 r] G = some (.tuple #[],G1) ∧ RW (Own own tag) own G own1 G1 r (x.step false t s).2 ∧ RcO own1 tag look t G1 b (x.step false t s).1 fp rp:=by
 obtain ⟨hb,I,ho,hI⟩:=hp
 have hI':=hI (by omega) (by omega)
 subst hI'
 have hh:=hs.1
 have hh2:=hs.2.1
 obtain ⟨v1,v2,v3⟩:=hx.lev
 rcases hl with e | e | e
 all_goals unfold ClS.step; simp only [e]
 ·simp [ClS.l4,ClS.below]
  have hn:=(hm.load (atI t x.i 2)).2
  obtain ⟨own2,G2,e2,w2,hb2,o2⟩:=rcload_ok orc h ht hb ho 2
  generalize s.load (atI t x.i 2) = s' at *
  generalize s'.new = v at *
  have hv:=hn.1
  have eh:IntKind.wrap .u64 t.height = t.height:=by rw [wrap_u64]; omega
  obtain ⟨G1,hG1⟩:∃ G1,G1 = G2.put b (rcB t look 4 x.a x.w x.i t.height x.key x.job fp rp x.mine x.a x.err):=⟨_,rfl⟩
  have w1:RW (Own own tag) own G own2 G1 r s':=by rw [hG1]; exact w2.putT hb2.tag ht _
  have hb1:At own2 tag G1 b:=by rw [hG1]; exact hb2.putO _ _
  have o1:G1.obj b = some (rcB t look 4 x.a x.w x.i t.height x.key x.job fp rp x.mine x.a x.err):=by rw [hG1]; simp
  by_cases c:v < t.height
  ·have ev:IntKind.wrap .i64 v = v:=wrap64 (by omega) (by omega)
   obtain ⟨G3,hG3⟩:∃ G3,G3 = G1.put b (rcB t look 4 x.a x.w x.i v x.key x.job fp rp x.mine x.a x.err):=⟨_,rfl⟩
   have w3:RW (Own own tag) own G own2 G3 r s':=by rw [hG3]; exact w1.putT hb1.tag ht _
   have hb3:At own2 tag G3 b:=by rw [hG3]; exact hb1.putO _ _
   have o3:G3.obj b = some (rcB t look 4 x.a x.w x.i v x.key x.job fp rp x.mine x.a x.err):=by rw [hG3]; simp
   obtain ⟨G4,e4,m4,o4⟩:=rcbelow_ok orc (by omega) hb3.lt o3
   refine ⟨_,G4,f144 (exL_ok Q orc) _ _ G _ ?_,w3.modT (modOne hb3 m4) ht tag,hb3.to m4.nx grown_agr,x.i,?_,fun _ _=>rfl⟩
   ·simp [s144,ho,e,rl,e2,o2,eh,c,ev,← hG1,o1,← hG3,e4]
   ·rw [o4]; simp only [if_pos c]; split <;> rfl
  ·obtain ⟨G4,e4,m4,o4⟩:=rcbelow_ok orc (by omega) hb1.lt o1
   refine ⟨_,G4,f144 (exL_ok Q orc) _ _ G _ ?_,w1.modT (modOne hb1 m4) ht tag,hb1.to m4.nx grown_agr,x.i,?_,fun _ _=>rfl⟩
   ·simp [s144,ho,e,rl,e2,o2,eh,c,← hG1,o1,e4]
   ·rw [o4]; simp only [if_neg c]; split <;> rfl
 ·simp [ClS.l5]
  have hlv:=v3 (.inl e)
  have ew:IntKind.wrap .i64 (4 + x.level) = 4 + x.level:=wrap64 (by omega) (by omega)
  have hn:=(hm.load (atI t x.i (4 + x.level))).2
  obtain ⟨own2,G2,e2,w2,hb2,o2⟩:=rcload_ok orc h ht hb ho (4 + x.level)
  generalize s.load (atI t x.i (4 + x.level)) = s' at *
  generalize s'.new = v at *
  obtain ⟨G3,hG3⟩:∃ G3,G3 = (G2.put b (rcB t look 5 x.a v x.i x.level x.key x.job fp rp x.mine x.a x.err)).put b (rcB t look 6 x.a v x.i x.level x.key x.job fp rp x.mine x.a x.err):=⟨_,rfl⟩
  have w3:RW (Own own tag) own G own2 G3 r s':=by rw [hG3]; exact (w2.putT hb2.tag ht _).putT hb2.tag ht _
  have hb3:At own2 tag G3 b:=by rw [hG3]; exact (hb2.putO _ _).putO _ _
  have o3:G3.obj b = some (rcB t look 6 x.a v x.i x.level x.key x.job fp rp x.mine x.a x.err):=by rw [hG3]; simp
  by_cases c:mkB ≤ v
  ·have c':9223372036854775808 ≤ v:=c
   rw [if_pos c]
   obtain ⟨G5,e5,m5,o5⟩:=rcbelow_ok orc (by omega) hb3.lt o3
   refine ⟨_,G5,f144 (exL_ok Q orc) _ _ G _ ?_,w3.modT (modOne hb3 m5) ht tag,hb3.to m5.nx grown_agr,x.i,?_,fun _ _=>rfl⟩
   ·simp [s144,ho,e,rl,ew,e2,o2,← hG3,o3,c',e5]
   ·rw [o5]; simp only [ClS.below]; split <;> rfl
  ·have c':¬ 9223372036854775808 ≤ v:=c
   rw [if_neg c]
   refine ⟨_,G3,f144 (exL_ok Q orc) _ _ G _ ?_,w3,hb3,x.i,by rw [o3]; rfl,fun _ _=>rfl⟩
   simp [s144,ho,e,rl,ew,e2,o2,← hG3,o3,c']
 ·simp [ClS.l6]
  have hlv:=v3 (.inr e)
  have ew:=wrap_addm hx.w (hx.m8 (.inl e))
  obtain ⟨G1,hG1⟩:∃ G1,G1 = G.put b (rcB t look 6 x.a x.w x.i x.level x.key x.job fp rp x.mine x.a x.err):=⟨_,rfl⟩
  have w1:RW (Own own tag) own G own G1 r s:=by rw [hG1]; exact (RW.refl h).putT hb.tag ht _
  have hb1:At own tag G1 b:=by rw [hG1]; exact hb.putO _ _
  have o1:G1.obj b = some (rcB t look 6 x.a x.w x.i x.level x.key x.job fp rp x.mine x.a x.err):=by rw [hG1]; simp
  have o1':(G1.room 21).obj b = some (rcB t look 6 x.a x.w x.i x.level x.key x.job fp rp x.mine x.a x.err):=by simp [o1]
  obtain ⟨G2,e2,x2⟩:=rcnext_ok orc o1' x.i x.level
  have y2:=((Ext.refl G1).room 21).trans x2
  have w2:=w1.extT y2 tag
  have hb2:=hb1.extO y2 tag
  have o2:=(y2.obj b hb1.lt).trans o1
  generalize grown own G1 tag = own2 at *
  obtain ⟨own4,G4,e4,w4⟩:=w2.rm.cas orc (nextI t x.i x.level) x.w (x.w + mkB)
  generalize s.cas (nextI t x.i x.level) x.w (x.w + mkB) = s' at *
  have w4':=w2.tr w4.any
  have hb4:=hb2.to w4.nx w4.stp.agr
  have o4:=(hb2.rkeep ht w4).trans o2
  cases hh:s'.held with
  | true =>
   rw [hh] at e4
   rw [if_pos rfl]
   obtain ⟨G5,e5,m5,o5⟩:=rcbelow_ok orc (by omega) hb4.lt o4
   refine ⟨_,G5,f144 (exL_ok Q orc) _ _ G _ ?_,w4'.modT (modOne hb4 m5) ht tag,hb4.to m5.nx grown_agr,x.i,?_,fun _ _=>rfl⟩
   ·simp [s144,ho,e,rl,← hG1,o1,e2,o2,ew,e4,e5]
   ·rw [o5]; simp only [ClS.below]; split <;> rfl
  | false =>
   rw [hh] at e4
   rw [if_neg (by decide)]
   refine ⟨_,G4.put b (rcB t look 5 x.a x.w x.i x.level x.key x.job fp rp x.mine x.a x.err),f144 (exL_ok Q orc) _ _ G _ ?_,w4'.putT hb4.tag ht _,hb4.putO _ _,x.i,by simp [rl],fun _ _=>rfl⟩
   simp [s144,ho,e,rl,← hG1,o1,e2,o2,ew,e4,o4]
theorem rcclaims_ok (orc:FuncId → Bool) (hs:t.sound) (h:RM own G r s) (hm:s.ok) (hx:x.ok false t) (ht:tag ≠ 11) (hp:RcO own tag look t G b x fp rp) (hl:x.line = 7 ∨ x.line = 8) :
  ∃ own1 G1,(E orc).cl 145 [P0 b,P0 r] G = some (.tuple #[],G1) ∧ RW (Own own tag) own G own1 G1 r (x.step false t s).2 ∧ RcO own1 tag look t G1 b (x.step false t s).1 fp rp:=by
 obtain ⟨hb,I,ho,hI⟩:=hp
 have hI':=hI (by omega) (by omega)
 subst hI'
 rcases hl with e | e
 all_goals unfold ClS.step; simp only [e]
 ·simp [ClS.l7]
  have hn:=(hm.load (atI t x.i 4)).2
  obtain ⟨own1,G1,e1,w1,b1,o1⟩:=rcload_ok orc h ht hb ho 4
  generalize s.load (atI t x.i 4) = s' at *
  generalize s'.new = v at *
  obtain ⟨G2,hG2⟩:∃ G2,G2 = (G1.put b (rcB t look 7 x.a v x.i x.level x.key x.job fp rp x.mine x.a x.err)).put b (rcB t look 8 x.a v x.i x.level x.key x.job fp rp x.mine x.a x.err):=⟨_,rfl⟩
  have w2:RW (Own own tag) own G own1 G2 r s':=by rw [hG2]; exact (w1.putT b1.tag ht _).putT b1.tag ht _
  have hb2:At own1 tag G2 b:=by rw [hG2]; exact (b1.putO _ _).putO _ _
  have o2:G2.obj b = some (rcB t look 8 x.a v x.i x.level x.key x.job fp rp x.mine x.a x.err):=by rw [hG2]; simp
  by_cases c1:mkB ≤ v
  ·have c1':9223372036854775808 ≤ v:=c1
   rw [if_pos c1]
   refine ⟨own1,G2.put b (rcB t look 3 x.a v x.i x.level x.key x.job fp rp x.mine x.a x.err),f145 (exL_ok Q orc) _ _ G _ ?_,w2.putT hb2.tag ht _,hb2.putO _ _,x.i,by simp [rl],fun _ _=>rfl⟩
   simp [s145,ho,e,rl,e1,o1,← hG2,o2,c1']
  ·have c1':¬ 9223372036854775808 ≤ v:=c1
   rw [if_neg c1]
   refine ⟨own1,G2,f145 (exL_ok Q orc) _ _ G _ ?_,w2,hb2,x.i,by rw [o2]; rfl,fun _ _=>rfl⟩
   simp [s145,ho,e,rl,e1,o1,← hG2,o2,c1']
 ·simp [ClS.l8]
  have ew:=wrap_addm hx.w (hx.m8 (.inr e))
  obtain ⟨G1,hG1⟩:∃ G1,G1 = (G.put b (rcB t look 8 x.a x.w x.i x.level x.key x.job fp rp x.mine x.a x.err)).put b (rcB t look 7 x.a x.w x.i x.level x.key x.job fp rp x.mine x.a x.err):=⟨_,rfl⟩
  have w1:RW (Own own tag) own G own G1 r s:=by rw [hG1]; exact ((RW.refl h).putT hb.tag ht _).putT hb.tag ht _
  have hb1:At own tag G1 b:=by rw [hG1]; exact (hb.putO _ _).putO _ _
  have o1:G1.obj b = some (rcB t look 7 x.a x.w x.i x.level x.key x.job fp rp x.mine x.a x.err):=by rw [hG1]; simp
  have o1':(G1.room 17).obj b = some (rcB t look 7 x.a x.w x.i x.level x.key x.job fp rp x.mine x.a x.err):=by simp [o1]
  obtain ⟨G2,e2,x2⟩:=rcnext_ok orc o1' x.i 0
  have y2:=((Ext.refl G1).room 17).trans x2
  have w2:=w1.extT y2 tag
  have hb2:=hb1.extO y2 tag
  have o2:=(y2.obj b hb1.lt).trans o1
  generalize grown own G1 tag = own2 at *
  obtain ⟨own4,G4,e4,w4⟩:=w2.rm.cas orc (nextI t x.i 0) x.w (x.w + mkB)
  generalize s.cas (nextI t x.i 0) x.w (x.w + mkB) = s' at *
  have w4':=w2.tr w4.any
  have hb4:=hb2.to w4.nx w4.stp.agr
  have o4:=(hb2.rkeep ht w4).trans o2
  cases hh:s'.held with
  | true =>
   rw [hh] at e4
   rw [if_pos rfl]
   refine ⟨own4,(G4.put b (rcB t look 7 x.a x.w x.i x.level x.key x.job fp rp true x.a x.err)).put b (rcB t look 9 x.a x.w x.i x.level x.key x.job fp rp true x.a x.err),f145 (exL_ok Q orc) _ _ G _ ?_,(w4'.putT hb4.tag ht _).putT hb4.tag ht _,(hb4.putO _ _).putO _ _,x.i,by simp [rl],fun _ _=>rfl⟩
   simp [s145,ho,e,rl,← hG1,o1,e2,o2,ew,e4,o4]
  | false =>
   rw [hh] at e4
   rw [if_neg (by decide)]
   refine ⟨own4,G4,f145 (exL_ok Q orc) _ _ G _ ?_,w4',hb4,x.i,by rw [o4]; rfl,fun _ _=>rfl⟩
   simp [s145,ho,e,rl,← hG1,o1,e2,o2,ew,e4,o4]
end
end Go.Proofs.YtaanpcoglijohaaGreat.Lift
set_option linter.unusedVariables false
set_option linter.unusedSimpArgs false
set_option maxRecDepth 20000
namespace Go.Proofs.YtaanpcoglijohaaGreat.Lift
open Go Go.Proofs.YtaanpcoglijohaaGreat.Gh Go.Proofs
section
variable {look:Bool} {own own' own1:Nat → Nat} {tag tg m r b:Nat} {t:TW} {G G' G1:GS} {s s':MS} {I:Int} {fp rp:Option Addr} {x:ClS}
theorem RfB.kept {T:TW} {b pb sb kb:Nat} {y:FindS} (h:RfB T G b pb sb kb y) (hk:∀ g,isF b pb sb kb g → G'.obj g = G.obj g):RfB T G' b pb sb kb y:=by
 obtain ⟨c,l,R,h1,h2⟩:=h
 exact ⟨c,l,R.kept hk,h1,h2⟩
def RcP (own:Nat → Nat) (tag tg:Nat) (look:Bool) (t:TW) (G:GS) (b:Nat) (x:ClS):Prop :=
 ∃ fp rp,RcO own tag look t G b x fp rp ∧ (x.line = 10 → ∃ fb pb sb kb,fp = some ⟨fb,0,none⟩ ∧ AtF own tg G fb pb sb kb ∧ Df fb pb sb kb ∧ RfB t G fb pb sb kb x.find) ∧ (x.line = 12 → ∃ rb,rp = some ⟨rb,0,none⟩ ∧ At own tg G rb ∧ RtD own tg t G rb x.i x.ret)
theorem RcP.low (h:RcO own tag look t G b x fp rp) (h1:x.line ≠ 10) (h2:x.line ≠ 12):RcP own tag tg look t G b x:=⟨fp,rp,h,fun k=>absurd k h1,fun k=>absurd k h2⟩
theorem rcreads_ok (orc:FuncId → Bool) (hs:t.sound) (h:RM own G r s) (hm:s.ok) (ht:tag ≠ 11) (hne:tag ≠ tg) (hp:RcO own tag look t G b x fp rp) (hl:x.line = 9 ∨ x.line = 91) :
  ∃ own1 G1,(E orc).cl 146 [P0 b,P0 r] G = some (.tuple #[],G1) ∧ RW (Ow2 own tag tg) own G own1 G1 r (x.step look t s).2 ∧ RcP own1 tag tg look t G1 b (x.step look t s).1:=by
 obtain ⟨hb,I,ho,hI⟩:=hp
 have hI':=hI (by omega) (by omega)
 subst hI'
 rcases hl with e | e
 all_goals unfold ClS.step; simp only [e]
 ·simp [ClS.l9]
  obtain ⟨own1,G1,e1,w1,b1,o1⟩:=rcload_ok orc h ht hb ho 0
  generalize s.load (atI t x.i 0) = s' at *
  generalize s'.new = v at *
  refine ⟨own1,(G1.put b (rcB t look 9 x.a x.w x.i x.level v x.job fp rp x.mine x.a x.err)).put b (rcB t look 91 x.a x.w x.i x.level v x.job fp rp x.mine x.a x.err),f146 (exL_ok Q orc) _ _ G _ ?_,((w1.putT b1.tag ht _).putT b1.tag ht _).lo,.low (fp:=fp) (rp:=rp) ⟨(b1.putO _ _).putO _ _,x.i,by simp [rl],fun _ _=>rfl⟩ (by simp) (by simp)⟩
  simp [s146,ho,e,rl,e1,o1]
 ·simp [ClS.l91]
  have hn:=(hm.load (atI t x.i 1)).2
  obtain ⟨own1,G1,e1,w1,b1,o1⟩:=rcload_ok orc h ht hb ho 1
  generalize s.load (atI t x.i 1) = s' at *
  generalize s'.new = v at *
  have hv:=hn.1
  have em:v.tmod 65536 = v % 65536:=Int.tmod_eq_emod_of_nonneg hv
  have e3:IntKind.wrap .i64 (v % 65536) = v % 65536:=wrap64 (by omega) (by omega)
  have e4:IntKind.wrap .u64 (v % 65536) = v % 65536:=by rw [wrap_u64]; omega
  obtain ⟨G2,hG2⟩:∃ G2,G2 = (G1.put b (rcB t look 91 x.a x.w x.i x.level x.key (v % 65536) fp rp x.mine x.a x.err)).put b (rcB t look 99 x.a x.w x.i x.level x.key (v % 65536) fp rp x.mine x.a x.err):=⟨_,rfl⟩
  have w2:RW (Own own tag) own G own1 G2 r s':=by rw [hG2]; exact (w1.putT b1.tag ht _).putT b1.tag ht _
  have hb2:At own1 tag G2 b:=by rw [hG2]; exact (b1.putO _ _).putO _ _
  have o2:G2.obj b = some (rcB t look 99 x.a x.w x.i x.level x.key (v % 65536) fp rp x.mine x.a x.err):=by rw [hG2]; simp
  cases look with
  | true =>
   refine ⟨own1,G2,f146 (exL_ok Q orc) _ _ G _ ?_,w2.lo,.low (fp:=fp) (rp:=rp) ⟨hb2,x.i,by simp [o2,rl],fun _ _=>rfl⟩ (by simp) (by simp)⟩
   simp [s146,ho,e,rl,e1,o1,em,e3,e4,← hG2,o2]
  | false =>
   obtain ⟨fb,pb,sb,kb,G3,e5,x3,q3,d,F⟩:=rnewfind_ok orc hs x.key (G2.room 14)
   have y3:=((Ext.refl G2).room 14).trans x3
   have w3:=(w2.lo (tg:=tg)).extT y3 tg
   have hb3:=hb2.extO y3 tg
   have o3:=(y3.obj b hb2.lt).trans o2
   have q3':∀ g,isF fb pb sb kb g → G2.nx ≤ g ∧ g < G3.nx:=fun g hg=>by have:=q3 g hg; simp at this; exact ⟨by omega,this.2⟩
   have aF:∀ g,isF fb pb sb kb g → At (grown own1 G2 tg) tg G3 g:=fun g hg=>At.new (q3' g hg).1 (q3' g hg).2
   have hF:AtF (grown own1 G2 tg) tg G3 fb pb sb kb:=⟨aF _ (.inl rfl),aF _ (.inr (.inl rfl)),aF _ (.inr (.inr (.inl rfl))),aF _ (.inr (.inr (.inr rfl)))⟩
   refine ⟨_,(G3.put b (rcB t false 99 x.a x.w x.i x.level x.key (v % 65536) (some ⟨fb,0,none⟩) rp x.mine x.a x.err)).put b (rcB t false 10 x.a x.w x.i x.level x.key (v % 65536) (some ⟨fb,0,none⟩) rp x.mine x.a x.err),f146 (exL_ok Q orc) _ _ G _ ?_,(w3.put2 hb3.tag ht _).put2 hb3.tag ht _,some ⟨fb,0,none⟩,rp,⟨(hb3.putO _ _).putO _ _,x.i,by simp [rl],fun _ _=>rfl⟩,fun _=>⟨fb,pb,sb,kb,rfl,(hF.putO _ _).putO _ _,d,F.kept fun g hg=>?_⟩,by simp⟩
   ·simp [s146,ho,e,rl,e1,o1,em,e3,e4,← hG2,o2,e5,o3]
   ·have n:g ≠ b:=by have:=(q3' g hg).1; have:=hb2.lt; omega
    rw [obj_put_ne _ _ n,obj_put_ne _ _ n]
theorem rcleaves_ok (orc:FuncId → Bool) (hs:t.sound) (hlo:t.lok) (h:RM own G r s) (hm:s.ok) (hx:x.ok false t) (ht:tag ≠ 11) (hg:tg ≠ 11) (hne:tag ≠ tg) (hp:RcP own tag tg false t G b x) (hl:x.line = 10 ∨ x.line = 11 ∨ x.line = 12) :
  ∃ own1 G1,(E orc).cl 147 [P0 b,P0 r] G = some (.tuple #[],G1) ∧ RW (Ow2 own tag tg) own G own1 G1 r (x.step false t s).2 ∧ RcP own1 tag tg false t G1 b (x.step false t s).1:=by
 obtain ⟨fp,rp,⟨hb,I,ho,hI⟩,hf,hr⟩:=hp
 have hI':=hI (by omega) (by omega)
 subst hI'
 have hidx:=hx.idx (by rcases hl with e | e | e <;> rw [e] <;> decide) (by rcases hl with e | e | e <;> rw [e] <;> decide)
 rcases hl with e | e | e
 all_goals unfold ClS.step; simp only [e]
 ·simp [ClS.l10]
  obtain ⟨fb,pb,sb,kb,rfl,aF,d,F⟩:=hf e
  obtain ⟨own1,G1,e1,w1,F1⟩:=rfstep_ok orc hs h hm (hx.find e) hg d aF F
  have o1:=(w1.keepT hb.lt hb.tag ht hne).trans ho
  have hb1:=hb.to w1.nx w1.stp.agr
  have aF1:=aF.to w1.nx w1.stp.agr
  have nF:∀ g,isF fb pb sb kb g → g ≠ b:=fun g hg'=>ne_tag hb.tag (aF.of hg').tag hne
  generalize (x.find.step t s).2 = s' at *
  generalize (x.find.step t s).1 = f' at *
  have w1':RW (Ow2 own tag tg) own G own1 G1 r s':=w1.hi
  by_cases h9:f'.line = 9
  ·obtain ⟨G2,hG2⟩:∃ G2,G2 = G1.put b (rcB t false 11 x.a x.w x.i x.level x.key x.job (some ⟨fb,0,none⟩) rp x.mine x.by_ x.err):=⟨_,rfl⟩
   have F2:RfB t G2 fb pb sb kb f':=by rw [hG2]; exact F1.kept fun g hg'=>obj_put_ne _ _ (nF g hg')
   have o2:G2.obj b = some (rcB t false 11 x.a x.w x.i x.level x.key x.job (some ⟨fb,0,none⟩) rp x.mine x.by_ x.err):=by rw [hG2]; simp
   have w2:RW (Ow2 own tag tg) own G own1 G2 r s':=by rw [hG2]; exact w1'.put2 hb1.tag ht _
   have hb2:At own1 tag G2 b:=by rw [hG2]; exact hb1.putO _ _
   have e2:=rfby_ok orc F2
   refine ⟨own1,G2.put b (rcB t false 11 x.a x.w x.i x.level x.key x.job (some ⟨fb,0,none⟩) rp x.mine f'.by_ x.err),f147 (exL_ok Q orc) _ _ G _ ?_,w2.put2 hb2.tag ht _,.low (fp:=some ⟨fb,0,none⟩) (rp:=rp) ⟨hb2.putO _ _,x.i,by simp [h9,rl],fun _ _=>rfl⟩ (by simp [h9]) (by simp [h9])⟩
   simp [h9] at e1
   simp [jb147_0,j147_0,sb147,s147,sb147,j147_0,jb147_0,clip_t,ho,e,rl,e1,o1,← hG2,o2,e2]
  ·have e2:=rfby_ok orc F1
   refine ⟨own1,G1.put b (rcB t false 10 x.a x.w x.i x.level x.key x.job (some ⟨fb,0,none⟩) rp x.mine f'.by_ x.err),f147 (exL_ok Q orc) _ _ G _ ?_,w1'.put2 hb1.tag ht _,some ⟨fb,0,none⟩,rp,⟨hb1.putO _ _,x.i,by simp [h9,rl],fun _ _=>rfl⟩,fun _=>⟨fb,pb,sb,kb,rfl,aF1.putO _ _,d,F1.kept fun g hg'=>obj_put_ne _ _ (nF g hg')⟩,by simp [h9]⟩
   simp [h9] at e1
   simp [jb147_0,j147_0,sb147,s147,sb147,j147_0,jb147_0,clip_t,ho,e,rl,e1,o1,e2]
 ·simp [ClS.l11]
  obtain ⟨G1,hG1⟩:∃ G1,G1 = (G.put b (rcB t false 11 x.a x.w x.i x.level x.key x.job fp rp x.mine x.a x.err)).put b (rcB t false 99 x.a x.w x.i x.level x.key x.job fp rp x.mine x.a x.err):=⟨_,rfl⟩
  have w1:RW (Own own tag) own G own G1 r s:=by rw [hG1]; exact ((RW.refl h).putT hb.tag ht _).putT hb.tag ht _
  have hb1:At own tag G1 b:=by rw [hG1]; exact (hb.putO _ _).putO _ _
  have o1:G1.obj b = some (rcB t false 99 x.a x.w x.i x.level x.key x.job fp rp x.mine x.a x.err):=by rw [hG1]; simp
  obtain ⟨G2,e2,x2⟩:=rtat_ok orc t x.i 3 (G1.room 12)
  have y2:=((Ext.refl G1).room 12).trans x2
  have w2:=w1.extT y2 tag
  have hb2:=hb1.extO y2 tag
  have o2:=(y2.obj b hb1.lt).trans o1
  generalize grown own G1 tag = own2 at *
  obtain ⟨own4,G4,e4,w4⟩:=w2.rm.add orc (atI t x.i 3) 18446744073709551615
  generalize s.add (atI t x.i 3) 18446744073709551615 = s' at *
  generalize s'.new = v at *
  have w4':=w2.tr w4.any
  have hb4:=hb2.to w4.nx w4.stp.agr
  have o4:=(hb2.rkeep ht w4).trans o2
  by_cases c:v = 0
  ·rw [if_pos c]
   obtain ⟨rb,G5,e5,x5,q5,r5⟩:=rnewretire_ok orc t hidx.1 hidx.2 (G4.room 14)
   have y5:=((Ext.refl G4).room 14).trans x5
   have w5:=(w4'.lo (tg:=tg)).extT y5 tg
   have hb5:=hb4.extO y5 tg
   have o5:=(y5.obj b hb4.lt).trans o4
   have q5':G4.nx ≤ rb:=by have:=q5.1; simp at this; omega
   have hr5:At (grown own4 G4 tg) tg G5 rb:=At.new q5' q5.2
   have n1:rb ≠ b:=by have:=hb4.lt; omega
   refine ⟨_,(G5.put b (rcB t false 99 x.a x.w x.i x.level x.key x.job fp (some ⟨rb,0,none⟩) x.mine x.a x.err)).put b (rcB t false 92 x.a x.w x.i x.level x.key x.job fp (some ⟨rb,0,none⟩) x.mine x.a x.err),f147 (exL_ok Q orc) _ _ G _ ?_,(w5.put2 hb5.tag ht _).put2 hb5.tag ht _,fp,some ⟨rb,0,none⟩,⟨(hb5.putO _ _).putO _ _,x.i,by simp [rl],fun _ _=>rfl⟩,by simp,fun _=>⟨rb,rfl,(hr5.putO _ _).putO _ _,?_⟩⟩
   ·simp [jb147_0,j147_0,sb147,s147,sb147,clip_t,ho,e,rl,← hG1,o1,e2,o2,e4,c,o4,e5,o5]
   ·have:=r5 (grown own4 G4 tg) tg
    refine this.to hr5 (Nat.le_refl _) (fun g hg' hgt=>?_) (Agr.refl _ _)
    have:g ≠ b:=ne_tag hb5.tag hgt hne
    rw [obj_put_ne _ _ this,obj_put_ne _ _ this]
  ·rw [if_neg c]
   refine ⟨_,G4,f147 (exL_ok Q orc) _ _ G _ ?_,w4'.lo,.low (fp:=fp) (rp:=rp) ⟨hb4,x.i,by simp [o4,rl],fun _ _=>rfl⟩ (by simp) (by simp)⟩
   simp [jb147_0,j147_0,sb147,s147,sb147,clip_t,ho,e,rl,← hG1,o1,e2,o2,e4,c]
 ·simp [ClS.l12]
  obtain ⟨rb,rfl,a1,hr⟩:=hr e
  obtain ⟨G1,hG1⟩:∃ G1,G1 = G.put b (rcB t false 92 x.a x.w x.i x.level x.key x.job fp (some ⟨rb,0,none⟩) x.mine 0 x.err):=⟨_,rfl⟩
  have w1:RW (Own own tag) own G own G1 r s:=by rw [hG1]; exact (RW.refl h).putT hb.tag ht _
  have hb1:At own tag G1 b:=by rw [hG1]; exact hb.putO _ _
  have o1:G1.obj b = some (rcB t false 92 x.a x.w x.i x.level x.key x.job fp (some ⟨rb,0,none⟩) x.mine 0 x.err):=by rw [hG1]; simp
  have r1:RtD own tg t G1 rb x.i x.ret:=hr.to a1 (by rw [hG1]; exact Nat.le_refl _) (fun g hgl hgt=>by rw [hG1,obj_put_ne _ _ (ne_tag hb.tag hgt hne)]) (Agr.refl _ _)
  have a1':At own tg G1 rb:=by rw [hG1]; exact a1.putO _ _
  obtain ⟨own2,G2,e2,w2,r2⟩:=rretire_ok orc hlo hidx.1 hidx.2 w1.rm hm (hx.ret e) hg a1' r1
  have o2:=(w2.keepT hb1.lt hb1.tag ht hne).trans o1
  have hb2:=hb1.to w2.nx w2.stp.agr
  have a2:=a1'.to w2.nx w2.stp.agr
  have w2':RW (Ow2 own tag tg) own G own2 G2 r (x.ret.step t x.i s).2:=(w1.lo (tg:=tg)).tr2 w2.hi
  generalize (x.ret.step t x.i s).2 = s' at *
  generalize (x.ret.step t x.i s).1 = p' at *
  by_cases h9:p'.over = true
  ·rw [h9] at e2
   refine ⟨own2,G2.put b (rcB t false 99 x.a x.w x.i x.level x.key x.job fp (some ⟨rb,0,none⟩) x.mine 0 x.err),f147 (exL_ok Q orc) _ _ G _ ?_,w2'.put2 hb2.tag ht _,.low (fp:=fp) (rp:=some ⟨rb,0,none⟩) ⟨hb2.putO _ _,x.i,by simp [h9,rl],fun _ _=>rfl⟩ (by simp [h9]) (by simp [h9])⟩
   simp [jb147_0,j147_0,sb147,s147,sb147,clip_t,ho,e,rl,← hG1,o1,e2,o2]
  ·rw [Bool.not_eq_true] at h9
   rw [h9] at e2
   refine ⟨own2,G2,f147 (exL_ok Q orc) _ _ G _ ?_,w2',fp,some ⟨rb,0,none⟩,⟨hb2,x.i,by simp [h9,o2,rl],fun _ _=>rfl⟩,by simp [h9],fun _=>⟨rb,rfl,a2,r2⟩⟩
   simp [jb147_0,j147_0,sb147,s147,sb147,clip_t,ho,e,rl,← hG1,o1,e2]
end
end Go.Proofs.YtaanpcoglijohaaGreat.Lift
set_option linter.unusedVariables false
set_option linter.unusedSimpArgs false
set_option maxRecDepth 20000
namespace Go.Proofs.YtaanpcoglijohaaGreat.Lift
open Go Go.Proofs.YtaanpcoglijohaaGreat.Gh Go.Proofs
section
variable {look:Bool} {own own' own1:Nat → Nat} {tag tg m r b:Nat} {t:TW} {G G' G1:GS} {s s':MS} {I:Int} {fp rp:Option Addr} {x:ClS}
theorem ClS.low_l (hl:x.line = 1 ∨ x.line = 2 ∨ x.line = 3):(x.step look t s).1.line ≠ 10 ∧ (x.step look t s).1.line ≠ 12:=by
 rcases hl with e | e | e <;> (unfold ClS.step; simp only [e]) <;> simp [ClS.l1,ClS.l2,ClS.l3] <;> (repeat' split) <;> simp
theorem ClS.low_c (hl:x.line = 7 ∨ x.line = 8):(x.step false t s).1.line ≠ 10 ∧ (x.step false t s).1.line ≠ 12:=by
 rcases hl with e | e <;> (unfold ClS.step; simp only [e]) <;> simp [ClS.l7,ClS.l8] <;> (repeat' split) <;> simp
theorem rl_99 (l:Int):rl l = 99 ↔ l = 99:=by unfold rl; split <;> omega
theorem RcP.ob (h:RcP own tag tg look t G b x):At own tag G b ∧ ∃ I fp rp,G.obj b = some (rcX look t x I fp rp):=by
 obtain ⟨fp,rp,⟨hb,I,ho,-⟩,-⟩:=h
 exact ⟨hb,I,fp,rp,ho⟩
set_option maxHeartbeats 2000000 in
theorem rcstep_ok (orc:FuncId → Bool) (hs:t.sound) (hlo:t.lok) (h:RM own G r s) (hm:s.ok) (hx:x.ok look t) (ht:tag ≠ 11) (hg:tg ≠ 11) (hne:tag ≠ tg) (hp:RcP own tag tg look t G b x) :
  ∃ own1 G1,(E orc).cl 88 [P0 b,P0 r] G = some (.bool (decide ((x.step look t s).1.line = 99)),G1) ∧ RW (Ow2 own tag tg) own G own1 G1 r (x.step look t s).2 ∧ RcP own1 tag tg look t G1 b (x.step look t s).1:=by
 have hp':=hp
 obtain ⟨fp,rp,hO,-,-⟩:=hp
 have hO':=hO
 obtain ⟨hb,I,ho,-⟩:=hO'
 rcases hx.line with e | e | e | e | e | e | ⟨rfl,e | e | e | e | e | e | e | e⟩
 ·obtain ⟨own1,G1,e1,w1,p1⟩:=rclooks_ok orc hs h hm hx ht hO (.inl e)
  have hlow:=ClS.low_l (look:=look) (t:=t) (s:=s) (.inl e:x.line = 1 ∨ x.line = 2 ∨ x.line = 3)
  have p2:RcP own1 tag tg look t G1 b _:=RcP.low p1 hlow.1 hlow.2
  obtain ⟨b2,I2,fp2,rp2,o2⟩:=p2.ob
  refine ⟨own1,G1,f88 (exL_ok Q orc) _ _ G _ ?_,w1.lo,p2⟩
  simp [s88,sb88,clip_t,ho,e,rl]
  simp [j88_5,jb88_5,clip_t,e1]
  simp [j88_0,jb88_0,clip_t,o2]
  simpa [rl] using rl_99 _
 ·obtain ⟨own1,G1,e1,w1,p1⟩:=rclooks_ok orc hs h hm hx ht hO (.inr (.inl e))
  have hlow:=ClS.low_l (look:=look) (t:=t) (s:=s) (.inr (.inl e):x.line = 1 ∨ x.line = 2 ∨ x.line = 3)
  have p2:RcP own1 tag tg look t G1 b _:=RcP.low p1 hlow.1 hlow.2
  obtain ⟨b2,I2,fp2,rp2,o2⟩:=p2.ob
  refine ⟨own1,G1,f88 (exL_ok Q orc) _ _ G _ ?_,w1.lo,p2⟩
  simp [s88,sb88,clip_t,ho,e,rl]
  simp [j88_5,jb88_5,clip_t,e1]
  simp [j88_0,jb88_0,clip_t,o2]
  simpa [rl] using rl_99 _
 ·obtain ⟨own1,G1,e1,w1,p1⟩:=rclooks_ok orc hs h hm hx ht hO (.inr (.inr e))
  have hlow:=ClS.low_l (look:=look) (t:=t) (s:=s) (.inr (.inr e):x.line = 1 ∨ x.line = 2 ∨ x.line = 3)
  have p2:RcP own1 tag tg look t G1 b _:=RcP.low p1 hlow.1 hlow.2
  obtain ⟨b2,I2,fp2,rp2,o2⟩:=p2.ob
  refine ⟨own1,G1,f88 (exL_ok Q orc) _ _ G _ ?_,w1.lo,p2⟩
  simp [s88,sb88,clip_t,ho,e,rl]
  simp [j88_5,jb88_5,clip_t,e1]
  simp [j88_0,jb88_0,clip_t,o2]
  simpa [rl] using rl_99 _
 ·obtain ⟨own1,G1,e1,w1,p2⟩:=rcreads_ok orc hs h hm ht hne hO (.inl e)
  obtain ⟨b2,I2,fp2,rp2,o2⟩:=p2.ob
  refine ⟨own1,G1,f88 (exL_ok Q orc) _ _ G _ ?_,w1,p2⟩
  simp [s88,sb88,clip_t,ho,e,rl]
  simp [j88_5,jb88_5,clip_t]
  simp [j88_4,jb88_4,clip_t]
  simp [j88_3,jb88_3,clip_t]
  simp [j88_2,jb88_2,clip_t,e1]
  simp [j88_0,jb88_0,clip_t,o2]
  simpa [rl] using rl_99 _
 ·obtain ⟨own1,G1,e1,w1,p2⟩:=rcreads_ok orc hs h hm ht hne hO (.inr e)
  obtain ⟨b2,I2,fp2,rp2,o2⟩:=p2.ob
  refine ⟨own1,G1,f88 (exL_ok Q orc) _ _ G _ ?_,w1,p2⟩
  simp [s88,sb88,clip_t,ho,e,rl]
  simp [j88_5,jb88_5,clip_t]
  simp [j88_4,jb88_4,clip_t]
  simp [j88_3,jb88_3,clip_t]
  simp [j88_2,jb88_2,clip_t,e1]
  simp [j88_0,jb88_0,clip_t,o2]
  simpa [rl] using rl_99 _
 ·have hst:x.step look t s = (x,s):=by unfold ClS.step; simp [e]
  rw [hst]
  refine ⟨own,G,f88 (exL_ok Q orc) _ _ G _ ?_,.refl h,hp'⟩
  simp [s88,sb88,clip_t,ho,e,rl]
  simp [j88_5,jb88_5,clip_t]
  simp [j88_4,jb88_4,clip_t]
  simp [j88_3,jb88_3,clip_t]
  simp [j88_2,jb88_2,clip_t]
  simp [j88_1,jb88_1,clip_t]
  simp [j88_0,jb88_0,clip_t,ho,e,rl]
 ·obtain ⟨own1,G1,e1,w1,p1⟩:=rcmarks_ok orc hs h hm hx ht hO (.inl e)
  have hlow:=ClS.low_m (t:=t) (s:=s) (.inl e:x.line = 4 ∨ x.line = 5 ∨ x.line = 6)
  have p2:RcP own1 tag tg false t G1 b _:=RcP.low p1 hlow.1 hlow.2
  obtain ⟨b2,I2,fp2,rp2,o2⟩:=p2.ob
  refine ⟨own1,G1,f88 (exL_ok Q orc) _ _ G _ ?_,w1.lo,p2⟩
  simp [s88,sb88,clip_t,ho,e,rl]
  simp [j88_5,jb88_5,clip_t]
  simp [j88_4,jb88_4,clip_t,e1]
  simp [j88_0,jb88_0,clip_t,o2]
  simpa [rl] using rl_99 _
 ·obtain ⟨own1,G1,e1,w1,p1⟩:=rcmarks_ok orc hs h hm hx ht hO (.inr (.inl e))
  have hlow:=ClS.low_m (t:=t) (s:=s) (.inr (.inl e):x.line = 4 ∨ x.line = 5 ∨ x.line = 6)
  have p2:RcP own1 tag tg false t G1 b _:=RcP.low p1 hlow.1 hlow.2
  obtain ⟨b2,I2,fp2,rp2,o2⟩:=p2.ob
  refine ⟨own1,G1,f88 (exL_ok Q orc) _ _ G _ ?_,w1.lo,p2⟩
  simp [s88,sb88,clip_t,ho,e,rl]
  simp [j88_5,jb88_5,clip_t]
  simp [j88_4,jb88_4,clip_t,e1]
  simp [j88_0,jb88_0,clip_t,o2]
  simpa [rl] using rl_99 _
 ·obtain ⟨own1,G1,e1,w1,p1⟩:=rcmarks_ok orc hs h hm hx ht hO (.inr (.inr e))
  have hlow:=ClS.low_m (t:=t) (s:=s) (.inr (.inr e):x.line = 4 ∨ x.line = 5 ∨ x.line = 6)
  have p2:RcP own1 tag tg false t G1 b _:=RcP.low p1 hlow.1 hlow.2
  obtain ⟨b2,I2,fp2,rp2,o2⟩:=p2.ob
  refine ⟨own1,G1,f88 (exL_ok Q orc) _ _ G _ ?_,w1.lo,p2⟩
  simp [s88,sb88,clip_t,ho,e,rl]
  simp [j88_5,jb88_5,clip_t]
  simp [j88_4,jb88_4,clip_t,e1]
  simp [j88_0,jb88_0,clip_t,o2]
  simpa [rl] using rl_99 _
 ·obtain ⟨own1,G1,e1,w1,p1⟩:=rcclaims_ok orc hs h hm hx ht hO (.inl e)
  have hlow:=ClS.low_c (t:=t) (s:=s) (.inl e:x.line = 7 ∨ x.line = 8)
  have p2:RcP own1 tag tg false t G1 b _:=RcP.low p1 hlow.1 hlow.2
  obtain ⟨b2,I2,fp2,rp2,o2⟩:=p2.ob
  refine ⟨own1,G1,f88 (exL_ok Q orc) _ _ G _ ?_,w1.lo,p2⟩
  simp [s88,sb88,clip_t,ho,e,rl]
  simp [j88_5,jb88_5,clip_t]
  simp [j88_4,jb88_4,clip_t]
  simp [j88_3,jb88_3,clip_t,e1]
  simp [j88_0,jb88_0,clip_t,o2]
  simpa [rl] using rl_99 _
 ·obtain ⟨own1,G1,e1,w1,p1⟩:=rcclaims_ok orc hs h hm hx ht hO (.inr e)
  have hlow:=ClS.low_c (t:=t) (s:=s) (.inr e:x.line = 7 ∨ x.line = 8)
  have p2:RcP own1 tag tg false t G1 b _:=RcP.low p1 hlow.1 hlow.2
  obtain ⟨b2,I2,fp2,rp2,o2⟩:=p2.ob
  refine ⟨own1,G1,f88 (exL_ok Q orc) _ _ G _ ?_,w1.lo,p2⟩
  simp [s88,sb88,clip_t,ho,e,rl]
  simp [j88_5,jb88_5,clip_t]
  simp [j88_4,jb88_4,clip_t]
  simp [j88_3,jb88_3,clip_t,e1]
  simp [j88_0,jb88_0,clip_t,o2]
  simpa [rl] using rl_99 _
 ·obtain ⟨own1,G1,e1,w1,p2⟩:=rcleaves_ok orc hs hlo h hm hx ht hg hne hp' (.inl e)
  obtain ⟨b2,I2,fp2,rp2,o2⟩:=p2.ob
  refine ⟨own1,G1,f88 (exL_ok Q orc) _ _ G _ ?_,w1,p2⟩
  simp [s88,sb88,clip_t,ho,e,rl]
  simp [j88_5,jb88_5,clip_t]
  simp [j88_4,jb88_4,clip_t]
  simp [j88_3,jb88_3,clip_t]
  simp [j88_2,jb88_2,clip_t]
  simp [j88_1,jb88_1,clip_t,e1]
  simp [j88_0,jb88_0,clip_t,o2]
  simpa [rl] using rl_99 _
 ·obtain ⟨own1,G1,e1,w1,p2⟩:=rcleaves_ok orc hs hlo h hm hx ht hg hne hp' (.inr (.inl e))
  obtain ⟨b2,I2,fp2,rp2,o2⟩:=p2.ob
  refine ⟨own1,G1,f88 (exL_ok Q orc) _ _ G _ ?_,w1,p2⟩
  simp [s88,sb88,clip_t,ho,e,rl]
  simp [j88_5,jb88_5,clip_t]
  simp [j88_4,jb88_4,clip_t]
  simp [j88_3,jb88_3,clip_t]
  simp [j88_2,jb88_2,clip_t]
  simp [j88_1,jb88_1,clip_t,e1]
  simp [j88_0,jb88_0,clip_t,o2]
  simpa [rl] using rl_99 _
 ·obtain ⟨own1,G1,e1,w1,p2⟩:=rcleaves_ok orc hs hlo h hm hx ht hg hne hp' (.inr (.inr e))
  obtain ⟨b2,I2,fp2,rp2,o2⟩:=p2.ob
  refine ⟨own1,G1,f88 (exL_ok Q orc) _ _ G _ ?_,w1,p2⟩
  simp [s88,sb88,clip_t,ho,e,rl]
  simp [j88_5,jb88_5,clip_t]
  simp [j88_4,jb88_4,clip_t]
  simp [j88_3,jb88_3,clip_t]
  simp [j88_2,jb88_2,clip_t]
  simp [j88_1,jb88_1,clip_t,e1]
  simp [j88_0,jb88_0,clip_t,o2]
  simpa [rl] using rl_99 _
theorem rcItem_ok (orc:FuncId → Bool) (hp:RcP own tag tg look t G b x):∃ G',(E orc).cl 91 [P0 b] G = some (.tuple #[itemV x.ik x.ij,.int .i64 x.ie],G') ∧ Ext G G':=by
 obtain ⟨hb,I,fp,rp,ho⟩:=hp.ob
 have hne:¬ b = G.nx:=by have:=hb.lt; omega
 have w:Wp (s91 true (exL Q orc) (P0 b) G) fun q=>q.1 = .tuple #[itemV x.ik x.ij,.int .i64 x.ie] ∧ Ext G q.2:=by
  unfold ClS.ik ClS.ij ClS.ie itemV
  by_cases e:x.line = 99
  ·by_cases e2:x.err = 0
   ·simp [s91,ho,hne,splice_put,splice_end,e,e2,rl]
    exact extPP _ _
   ·simp [s91,ho,hne,splice_put,splice_end,e,e2,rl]
    exact (((Ext.refl G).push _).room _).put (Nat.le_refl _) _
  ·have e':¬ rl x.line = 99:=fun k=>e ((rl_99 _).1 k)
   simp [s91,ho,hne,splice_put,splice_end,e,e']
   exact extPP _ _
 obtain ⟨⟨v,G'⟩,e1,rfl,e3⟩:=w
 exact ⟨G',f91 (exL_ok Q orc) _ G _ e1,e3⟩
theorem rcBy_ok (orc:FuncId → Bool) (hp:RcP own tag tg look t G b x):(E orc).cl 94 [P0 b] G = some (.int .u64 x.by_,G):=by
 obtain ⟨hb,I,fp,rp,ho⟩:=hp.ob
 exact f94 (exL_ok Q orc) _ G _ (by simp [s94,ho])
theorem rcClaimed_ok (orc:FuncId → Bool) (hp:RcP own tag tg look t G b x):(E orc).cl 98 [P0 b] G = some (.bool x.mine,G):=by
 obtain ⟨hb,I,fp,rp,ho⟩:=hp.ob
 exact f98 (exL_ok Q orc) _ G _ (by simp [s98,ho])
theorem rcnew_ok (orc:FuncId → Bool) (hs:t.sound) (G:GS):∃ b G',(E orc).cl 37 [t.v] G = some (P0 b,G') ∧ Ext G G' ∧ G'.obj b = some (rcX false t (ClS.new t) 0 none none) ∧ G.nx ≤ b ∧ b < G'.nx:=by
 obtain ⟨G1,hG1⟩:∃ G1,G1 = G.push ⟨t.cells,1,false,1⟩:=⟨_,rfl⟩
 have x1:Ext G G1:=by rw [hG1]; exact (Ext.refl G).push _
 have o1:G1.obj G.nx = some ⟨t.cells,1,false,1⟩:=by rw [hG1]; simp
 have n1:G1.nx = G.nx + 1:=by rw [hG1]; rfl
 obtain ⟨G2,e2,x2⟩:=rsound_ok orc t G1
 have y2:=x1.trans x2
 have o2:=(x2.obj G.nx (by omega)).trans o1
 have w:Wp (s37 true (exL Q orc) t.v G) fun q=>q = (P0 G2.nx,G2.push (rcX false t (ClS.new t) 0 none none)):=by
  unfold ClS.new
  simp [s37,← hG1,o1,e2,hs,o2,rl]
  rfl
 obtain ⟨q,e3,rfl⟩:=w
 exact ⟨_,_,f37 (exL_ok Q orc) _ G _ e3,y2.push _,by simp,y2.nx,by simp⟩
theorem rpnew_ok (orc:FuncId → Bool) (hs:t.sound) (G:GS):∃ b G',(E orc).cl 39 [t.v] G = some (P0 b,G') ∧ Ext G G' ∧ G'.obj b = some (rcX true t (ClS.new t) 0 none none) ∧ G.nx ≤ b ∧ b < G'.nx:=by
 obtain ⟨G1,hG1⟩:∃ G1,G1 = G.push ⟨t.cells,1,false,1⟩:=⟨_,rfl⟩
 have x1:Ext G G1:=by rw [hG1]; exact (Ext.refl G).push _
 have o1:G1.obj G.nx = some ⟨t.cells,1,false,1⟩:=by rw [hG1]; simp
 have n1:G1.nx = G.nx + 1:=by rw [hG1]; rfl
 obtain ⟨cb,G2,e2,x2,o2,-,-⟩:=rcnew_ok orc hs G1
 have y2:=x1.trans x2
 have w:Wp (s39 true (exL Q orc) t.v G) fun q=>q = (P0 G2.nx,(G2.push (rcX false t (ClS.new t) 0 none none)).put G2.nx (rcX true t (ClS.new t) 0 none none)):=by
  unfold ClS.new at o2 ⊢
  simp [s39,← hG1,o1,e2,o2,rl]
  rfl
 obtain ⟨q,e3,rfl⟩:=w
 exact ⟨_,_,f39 (exL_ok Q orc) _ G _ e3,(y2.push _).put y2.nx _,by simp,y2.nx,by simp⟩
end
end Go.Proofs.YtaanpcoglijohaaGreat.Lift
