import Derived.Test.YtkhlabammcghbaaGreatRSe
import Derived.Test.YtkhlabammcghbaaGreatGhPT
import Derived.Test.YtkhlabammcghbaaGreatGhPR
import Derived.Test.YtkhlabammcghbaaGreatGhPC
import Derived.Test.YtkhlabammcghbaaGreatGhPD
import Derived.Test.YtkhlabammcghbaaGreatGhLS
import Derived.Test.YtkhlabammcghbaaGreatGhEQ
namespace Go.Proofs.YtkhlabammcghbaaGreat.Lift
open Go Go.Proofs.YtkhlabammcghbaaGreat.Gh Go.Proofs
abbrev P0 (b:Nat):Value:=.pointer (some ⟨b,0,none⟩)
theorem Ext.drawn {A G B:GS} (h:Ext A G) {n:Nat} (hn:A.nx≤n) (hB:A.nx≤B.nx) (o:bK):Ext A (((G.aS n).push o).back B) :=
 ⟨by simpa using hB,fun g hg=>by
  have:=h.obj g hg
  simp only [Yu,kU,Yv,Yt]
  rw [if_neg (by omega)]; exact this,by simpa using h.nl,fun l hl=>by simpa using h.loop l hl⟩
set_option linter.unusedVariables false
set_option linter.unusedSimpArgs false
set_option maxRecDepth 20000
theorem w0:IntKind.wrap .i64 0=0:=by decide
theorem w4:IntKind.wrap .i64 4=4:=by decide
structure TW where
 nodes:Int
 cG:Int
 ay:Int
 top:Int
 links:Int
 size:Int
 u6:Int
 u7:Int
 u8:Int
 u9:Int
 u10:Int
 u11:Int
 u12:Int
abbrev TW.cells (t:TW):List Value:=[.int .i64 t.nodes,.int .i64 t.cG,.int .i64 t.ay,.int .i64 t.top,.int .i64 t.links,.int .i64 t.size,.int .i64 t.u6,.int .i64 t.u7,.int .i64 t.u8,.int .i64 t.u9,.int .i64 t.u10,.int .i64 t.u11,.int .i64 t.u12]
abbrev TW.v (t:TW):Value:=.agg ⟨t.cells⟩
def TW.sound (t:TW):Prop:=1≤t.ay∧t.ay≤4∧1≤t.size∧t.size≤128∧0≤t.nodes∧t.nodes<4096∧0≤t.cG∧t.cG<4096
instance (t:TW):Decidable t.sound:=by unfold TW.sound; exact inferInstance
theorem E2 (ae:FuncId→Bool) (t:TW) (G:GS):∃ G',(E ae).cl 36 [t.v] G=some (.bool (decide t.sound),G')∧Ext G G':=by
 refine ⟨G.push ⟨t.cells,1,false,1⟩,f36 (aq Q ae) _ G _ ?_,(Ext.refl G).push _⟩
 unfold TW.sound
 by_cases h1:1≤t.ay
 ·by_cases h2:t.ay≤4
  ·by_cases h3:1≤t.size
   ·by_cases h4:t.size≤128
    ·by_cases h5:0≤t.nodes
     ·by_cases h6:t.nodes<4096
      ·by_cases h7:0≤t.cG
       ·by_cases h8:t.cG<4096<;>simp [s36,h1,h2,h3,h4,h5,h6,h7,h8]
       ·simp [s36,h1,h2,h3,h4,h5,h6,h7]
      ·simp [s36,h1,h2,h3,h4,h5,h6]
     ·simp [s36,h1,h2,h3,h4,h5]
    ·simp [s36,h1,h2,h3,h4]
   ·simp [s36,h1,h2,h3]
  ·simp [s36,h1,h2]
 ·simp [s36,h1]
theorem RL (ae:FuncId→Bool) (h:Int) (G:GS):jF Q (aD Q ae) (.iface 137 (.int .i64 h)) "coxswain/tower.cells" [] G=some (.int .i64 h,G):=by
 have e:jF Q (aD Q ae) (.iface 137 (.int .i64 h)) "coxswain/tower.cells" [] G=(E ae).cl 186 [.int .i64 h] G:=by kernel_rfl
 rw [e]
 exact f186 (aq Q ae) _ G _ (by simp [s186])
theorem aaZ (ae:FuncId→Bool) (t:TW) (G:GS):∃ G',(E ae).cl 79 [t.v] G=some (.agg ⟨[.int .i64 t.cG,.int .i64 1,.int .i64 t.ay]⟩,G')∧Ext G G':=by
 refine ⟨((G.push ⟨t.cells,1,false,1⟩).push ⟨[.int .i64 0,.int .i64 0,.int .i64 0],1,false,1⟩).put (G.nx+1) ⟨[.int .i64 t.cG,.int .i64 1,.int .i64 t.ay],1,false,1⟩,f79 (aq Q ae) _ G _ ?_,(((Ext.refl G).push _).push _).put (by omega) _⟩
 simp [s79,ch,cg]
structure MS where
 W:List Int
 kind:Int
 at_:Int
 old:Int
 new:Int
 held:Bool
 many:Int
def MS.acc (s:MS) (kind at_:Int) (fq:Int→Int×Bool):MS :=
 if 0≤at_∧at_<s.W.length then
  ⟨s.W.set at_.toNat (fq ((s.W[at_.toNat]?).getD 0)).1,kind,at_,(s.W[at_.toNat]?).getD 0,(fq ((s.W[at_.toNat]?).getD 0)).1,(fq ((s.W[at_.toNat]?).getD 0)).2,IntKind.wrap .i64 (s.many+1)⟩
 else ⟨s.W,kind,at_,0,0,false,IntKind.wrap .i64 (s.many+1)⟩
def si (w:Int):Int×Bool:=(w,false)
def Cj (v w:Int):Int×Bool:=(v,true)
def pK (a b w:Int):Int×Bool:=if w=a then (b,true) else (w,false)
def xA (n w:Int):Int×Bool:=(IntKind.wrap .u64 (w+n),true)
def MS.load (s:MS) (a:Int):MS:=s.acc 1 a si
def MS.store (s:MS) (a v:Int):MS:=s.acc 2 a (Cj v)
def MS.bM (s:MS) (a x y:Int):MS:=s.acc 3 a (pK x y)
def MS.add (s:MS) (a n:Int):MS:=s.acc 4 a (xA n)
def MS.zero (n:Nat):MS:=⟨List.replicate n 0,0,0,0,0,false,0⟩
structure iP (A:Nat→Prop) (G:GS) (m bb:Nat) (rest:List Int) (s:MS):Prop where
 un:mv A G
 am:A m
 ab:A bb
 hm:G.obj m=some ⟨[P0 bb,.int .i64 s.W.length,.int .i64 s.kind,.int .i64 s.at_,.int .u64 s.old,.int .u64 s.new,.bool s.held,.int .i64 s.many],1,false,1⟩
 hb:G.obj bb=some ⟨(s.W++rest).map (Value.int .u64),1,false,1⟩
 hl:s.W.length+rest.length=4096
def fQ (A:Nat→Prop) (G:GS) (m:Nat) (s:MS):Prop:=∃ bb rest,iP A G m bb rest s
section
variable {A B:Nat→Prop} {G G':GS} {m bb:Nat} {rest:List Int} {s:MS}
theorem iP.kept (h:iP A G m bb rest s) (hn:G.nx≤G'.nx) (hk:∀ g,A g→G'.obj g=G.obj g):iP A G' m bb rest s :=
 ⟨h.un.le hn,h.am,h.ab,(hk _ h.am).trans h.hm,(hk _ h.ab).trans h.hb,h.hl⟩
theorem iP.ext (h:iP A G m bb rest s) (x:Ext G G'):iP A G' m bb rest s:=h.kept x.nx fun g hg=>x.obj g (h.un g hg)
theorem iP.mono (h:iP A G m bb rest s) (hs:∀ x,A x→B x) (hu:mv B G):iP B G m bb rest s:=⟨hu,hs _ h.am,hs _ h.ab,h.hm,h.hb,h.hl⟩
theorem fQ.un (h:fQ A G m s):mv A G:=let ⟨_,_,h⟩:=h; h.un
theorem fQ.kept (h:fQ A G m s) (hn:G.nx≤G'.nx) (hk:∀ g,A g→G'.obj g=G.obj g):fQ A G' m s:=let ⟨_,_,h⟩:=h; ⟨_,_,h.kept hn hk⟩
theorem fQ.mono (h:fQ A G m s) (hs:∀ x,A x→B x) (hu:mv B G):fQ B G m s:=let ⟨_,_,h⟩:=h; ⟨_,_,h.mono hs hu⟩
theorem bC.pre {G1:GS} (x:Ext G G1) (h:bC A G1 G'):bC A G G' :=
 ⟨Nat.le_trans x.nx h.nx,fun g hg ha=>(h.obj g (Nat.lt_of_lt_of_le hg x.nx) ha).trans (x.obj g hg),Nat.le_trans x.nl h.nl,fun l hl=>(h.loop l (Nat.lt_of_lt_of_le hl x.nl)).trans (x.loop l hl)⟩
theorem aa0 {G1:GS} (x:Ext G G1):∀ g,Grow A G1 G' g→Grow A G G' g:=fun g hg=>hg.elim .inl fun h=>.inr ⟨Nat.le_trans x.nx h.1,h.2⟩
theorem fQ.pre {G1:GS} (hu:mv A G) (x:Ext G G1) (q2:bC A G1 G') (q3:fQ (Grow A G1 G') G' m s):bC A G G' ∧fQ (Grow A G G') G' m s :=
 have q:=bC.pre x q2
 ⟨q,q3.mono (aa0 x) (hu.grow q.nx)⟩
theorem iP.ne (h:iP A G m bb rest s):m≠bb:=fun e=>by
 have h1:=h.hm
 rw [e,h.hb] at h1
 simp only [Option.some.injEq,bK.mk.injEq,and_true] at h1
 cases hq:s.W++rest with
 | nil=>rw [hq] at h1; simp at h1
 | cons a b=>rw [hq] at h1; simp at h1
def fR (bb:Nat) (s:MS) (a:Int):Value:=if 0≤a∧a<s.W.length then .pointer (some ⟨bb,a.toNat,none⟩) else .pointer none
theorem E3 (ae:FuncId→Bool) (h:iP A G m bb rest s) (a:Int):(E ae).cl 81 [P0 m,.int .i64 a] G=some (fR bb s a,G):=by
 refine f81 (aq Q ae) _ _ G _ ?_
 have hl:=h.hl
 unfold fR
 by_cases h1:a<0
 ·have ft:¬ (0≤a∧a<(s.W.length:Int)):=by omega
  simp [s81,Cf,h.hm,h1,ft]
 ·by_cases h2:(s.W.length:Int)≤a
  ·have ft:¬ (0≤a∧a<(s.W.length:Int)):=by omega
   simp [s81,Cf,h.hm,h1,h2,ft]
  ·have ft:(0≤a∧a<(s.W.length:Int)):=by omega
   have h3:a<4096:=by omega
   simp [s81,Cf,h.hm,h1,h2,ft,h3]
theorem RM (ae:FuncId→Bool) (o:Option Addr) (G:GS):(E ae).cl 105 [.pointer o] G=some (.bool o.isSome,G):=by
 refine f105 (aq Q ae) _ G _ ?_
 cases o<;>simp [s105]
theorem aa1 (h:iP A G m bb rest s) {a:Nat} (ha:a<s.W.length):G.cell bb a=some (.int .u64 ((s.W[a]?).getD 0)):=by
 have:((s.W++rest).map (Value.int .u64))[a]? =some (.int .u64 ((s.W[a]?).getD 0)):=by rw [List.getElem?_map,List.getElem?_append_left ha,List.getElem?_eq_getElem ha]; rfl
 simp only [Cf,h.hb,this]; rfl
abbrev aa2 (s:MS):List Value:=[.int .i64 s.kind,.int .i64 s.at_,.int .u64 s.old,.int .u64 s.new,.bool s.held]
theorem E4 (ae:FuncId→Bool) (h:iP A G m bb rest s) (kind a:Int) (f:FuncId) (dv:List Value) (fq:Int→Int×Bool)
  (hf:∀ G1 w,bb<G1.nx→0≤a→a<s.W.length→G1.cell bb a.toNat=some (.int .u64 w)→∃ G2,(E ae).cl f dv G1=some (.tuple #[.int .u64 (fq w).1,.bool (fq w).2],G2)∧Ext G1 G2) :
  Wp ((E ae).cl 82 [P0 m,.int .i64 kind,.int .i64 a,fR bb s a,.func (.func f) ⟨dv⟩ #[]] G) fun r=>r.1= .agg ⟨aa2 (s.acc kind a fq)⟩∧bC A G r.2∧fQ (Grow A G r.2) r.2 m (s.acc kind a fq):=by
 refine Wp.ref (f82 (aq Q ae) _ _ _ _ _ G) ?_
 have hm:=h.hm
 have RN:=h.un _ h.am
 have iy:=h.un _ h.ab
 have aB:=h.ne
 have tj:=aB.symm
 have m1:m≠G.nx:=by omega
 have m2:G.nx≠m:=by omega
 have b1:bb≠G.nx:=by omega
 have b2:G.nx≠bb:=by omega
 have hw:IntKind.wrap .i64 (s.many+1)=IntKind.wrap .i64 (s.many+1):=rfl
 by_cases eJ:0≤a∧a<s.W.length
 ·have jf:fR bb s a= .pointer (some ⟨bb,a.toNat,none⟩):=by unfold fR; rw [if_pos eJ]
  have yC:=RM ae (some ⟨bb,a.toNat,none⟩)
  obtain ⟨n,hn⟩:∃ n:Nat,a.toNat=n:=⟨_,rfl⟩
  have nZ:n<s.W.length:=by omega
  have pL:=aa1 h nZ
  generalize hx:(s.W[n]?).getD 0=w at pL
  have J3:s.acc kind a fq=⟨s.W.set n (fq w).1,kind,a,w,(fq w).1,(fq w).2,IntKind.wrap .i64 (s.many+1)⟩:=by unfold MS.acc; rw [if_pos eJ,hn,hx]
  rw [jf,J3]
  rw [hn] at yC hf
  obtain ⟨GA,zJ⟩:∃ GA,GA=((G.push ⟨[.int .i64 0,.int .i64 0,.int .u64 0,.int .u64 0,.bool false],1,false,1⟩).put m ⟨[P0 bb,.int .i64 s.W.length,.int .i64 s.kind,.int .i64 s.at_,.int .u64 s.old,.int .u64 s.new,.bool s.held,.int .i64 (IntKind.wrap .i64 (s.many+1))],1,false,1⟩).put m ⟨[P0 bb,.int .i64 s.W.length,.int .i64 kind,.int .i64 a,.int .u64 0,.int .u64 0,.bool false,.int .i64 (IntKind.wrap .i64 (s.many+1))],1,false,1⟩:=⟨_,rfl⟩
  have oA:∀ g,g≠m→g≠G.nx→GA.obj g=G.obj g:=fun g h1 h2=>by rw [zJ]; simp [h1,h2]
  have oAm:GA.obj m=some ⟨[P0 bb,.int .i64 s.W.length,.int .i64 kind,.int .i64 a,.int .u64 0,.int .u64 0,.bool false,.int .i64 (IntKind.wrap .i64 (s.many+1))],1,false,1⟩:=by rw [zJ]; simp
  have oAn:GA.obj G.nx=some ⟨[.int .i64 0,.int .i64 0,.int .u64 0,.int .u64 0,.bool false],1,false,1⟩:=by rw [zJ]; simp [m2]
  have nA:GA.nx=G.nx+1:=by rw [zJ]; rfl
  have mA:bC A G GA:=by rw [zJ]; exact (((bC.refl A G).push _).put (.inl h.am) _).put (.inl h.am) _
  have cA:GA.cell bb n=some (.int .u64 w):=by rw [← pL]; unfold GS.cell; rw [oA bb tj b1]
  obtain ⟨GB,eB,xB⟩:=hf GA w (by omega) eJ.1 eJ.2 cA
  have cB:GB.obj bb=some ⟨(s.W++rest).map (Value.int .u64),1,false,1⟩:=by rw [xB.obj bb (by omega),oA bb tj b1]; exact h.hb
  have oBm:=(xB.obj m (by omega)).trans oAm
  have oBn:=(xB.obj G.nx (by omega)).trans oAn
  have zK:((s.W++rest).map (Value.int .u64))[n]? =some (.int .u64 w):=by
   rw [List.getElem?_map,List.getElem?_append_left nZ,List.getElem?_eq_getElem nZ,← hx,List.getElem?_eq_getElem nZ]; rfl
  have hlen:n<((s.W++rest).map (Value.int .u64)).length:=by simp; omega
  have vu:((s.W++rest).map (Value.int .u64)).set n (.int .u64 (fq w).1)=(s.W.set n (fq w).1++rest).map (Value.int .u64):=by
   rw [← List.map_set,List.set_append_left _ _ nZ]
  generalize DF:(s.W++rest).map (Value.int .u64)=cells at *
  have aa3:∀ h:n<cells.length,cells[n]= .int .u64 w:=fun h=>by rw [List.getElem?_eq_getElem h] at zK; exact Option.some.inj zK
  simp [s82,aw,hm,m1,m2,b1,b2,hn,← zJ,yC,eB,oBm,cB,aB,tj,zK,aa3,hlen,JU,nD,oBn,xB]
  refine ⟨?_,bb,rest,?_⟩
  ·exact (((((mA.trans (xB.vB _)).put (.inl h.am) _).put (.inl h.am) _).put (.inl h.am) _).put (.inl h.ab) _).put (.inr (Nat.le_refl _)) _
  ·have nB:=xB.nx
   refine ⟨fun x hx=>?_,.inl h.am,.inl h.ab,?_,?_,?_⟩
   ·rcases hx with hx | hx
    ·have:=h.un x hx; simp; omega
    ·simpa using hx.2
   ·simp [m1,aB]
   ·simp [b1,← vu]
   ·simpa using h.hl
 ·have jf:fR bb s a= .pointer none:=by unfold fR; rw [if_neg eJ]
  have yC:=RM ae none
  have J3:s.acc kind a fq=⟨s.W,kind,a,0,0,false,IntKind.wrap .i64 (s.many+1)⟩:=by unfold MS.acc; rw [if_neg eJ]
  rw [jf,J3]
  simp [s82,aw,hm,m1,m2,yC]
  refine ⟨?_,bb,rest,?_⟩
  ·exact ((((bC.refl A G).push _).put (.inl h.am) _).put (.inl h.am) _).put (.inr (Nat.le_refl _)) _
  ·refine ⟨fun x hx=>?_,.inl h.am,.inl h.ab,?_,?_,h.hl⟩
   ·rcases hx with hx | hx
    ·have:=h.un x hx; simp; omega
    ·simpa using hx.2
   ·simp [m1]
   ·simp [b1,tj,h.hb]
theorem E5 (bb:Nat) (s:MS) (a:Int):one (fR bb s a)=true:=by unfold fR; split<;>rfl
theorem E6 {bb:Nat} {s:MS} {a:Int} (h1:0≤a) (h2:a<s.W.length):fR bb s a= .pointer (some ⟨bb,a.toNat,none⟩):=by unfold fR; rw [if_pos ⟨h1,h2⟩]
theorem aa4 (ae:FuncId→Bool) (h:iP A G m bb rest s) (a:Int):Wp ((E ae).cl 85 [P0 m,.int .i64 a] G) fun r=>r.1= .int .u64 (s.load a).new∧bC A G r.2∧fQ (Grow A G r.2) r.2 m (s.load a):=by
 refine Wp.ref (f85 (aq Q ae) _ _ G) ?_
 have hc:=E3 ae h a
 obtain ⟨G1,ak⟩:∃ G1,G1=((G.push ⟨[.pointer none,.int .u64 0,.int .u64 0],1,false,1⟩).put G.nx ⟨[fR bb s a,.int .u64 0,.int .u64 0],1,false,1⟩):=⟨_,rfl⟩
 have x1:Ext G G1:=by rw [ak]; exact ((Ext.refl G).push _).put (Nat.le_refl _) _
 have o1:G1.obj G.nx=some ⟨[fR bb s a,.int .u64 0,.int .u64 0],1,false,1⟩:=by rw [ak]; simp
 obtain ⟨⟨v,G'⟩,e,q1,q2,q3⟩:=E4 ae (h.ext x1) 1 a 106 [.agg ⟨[fR bb s a,.int .u64 0,.int .u64 0]⟩] si fun G1 w hb h1 h2 h3=>by
  have iy:¬ bb=G1.nx:=by omega
  rw [E6 h1 h2]
  exact ⟨_,f106 (aq Q ae) _ G1 _ (by simp [-xy,s106,Eu,iy,h3,si]; rfl),(Ext.refl G1).push _⟩
 simp only at q1 q2 q3
 have kV:=E5 bb s a
 generalize fR bb s a=cv at *
 have fE:=zj kV
 simp [s85,hc,fE,kV,← ak,o1,e,q1]
 exact ⟨rfl,fQ.pre h.un x1 q2 q3⟩
theorem aa5 (ae:FuncId→Bool) (h:iP A G m bb rest s) (a v:Int):Wp ((E ae).cl 44 [P0 m,.int .i64 a,.int .u64 v] G) fun r=>r.1= .tuple #[]∧bC A G r.2∧fQ (Grow A G r.2) r.2 m (s.store a v):=by
 refine Wp.ref (f44 (aq Q ae) _ _ _ G) ?_
 have hc:=E3 ae h a
 obtain ⟨G1,ak⟩:∃ G1,G1=((G.push ⟨[.pointer none,.int .u64 0,.int .u64 0],1,false,1⟩).put G.nx ⟨[fR bb s a,.int .u64 v,.int .u64 0],1,false,1⟩):=⟨_,rfl⟩
 have x1:Ext G G1:=by rw [ak]; exact ((Ext.refl G).push _).put (Nat.le_refl _) _
 have o1:G1.obj G.nx=some ⟨[fR bb s a,.int .u64 v,.int .u64 0],1,false,1⟩:=by rw [ak]; simp
 obtain ⟨⟨v',G'⟩,e,q1,q2,q3⟩:=E4 ae (h.ext x1) 2 a 83 [.agg ⟨[fR bb s a,.int .u64 v,.int .u64 0]⟩] (Cj v) fun G1 w hb h1 h2 h3=>by
  rw [E6 h1 h2]
  exact ⟨_,f83 (aq Q ae) _ G1 _ (by simp [s83,Cj]; rfl),(Ext.refl G1).push _⟩
 simp only at q1 q2 q3
 have kV:=E5 bb s a
 generalize fR bb s a=cv at *
 have fE:=zj kV
 simp [s44,hc,fE,kV,← ak,o1,e,q1]
 exact fQ.pre h.un x1 q2 q3
theorem aa6 (ae:FuncId→Bool) (h:iP A G m bb rest s) (a v w:Int):Wp ((E ae).cl 53 [P0 m,.int .i64 a,.int .u64 v,.int .u64 w] G) fun r=>r.1= .bool (s.bM a v w).held∧bC A G r.2∧fQ (Grow A G r.2) r.2 m (s.bM a v w):=by
 refine Wp.ref (f53 (aq Q ae) _ _ _ _ G) ?_
 have hc:=E3 ae h a
 obtain ⟨G1,ak⟩:∃ G1,G1=((G.push ⟨[.pointer none,.int .u64 0,.int .u64 0],1,false,1⟩).put G.nx ⟨[fR bb s a,.int .u64 v,.int .u64 w],1,false,1⟩):=⟨_,rfl⟩
 have x1:Ext G G1:=by rw [ak]; exact ((Ext.refl G).push _).put (Nat.le_refl _) _
 have o1:G1.obj G.nx=some ⟨[fR bb s a,.int .u64 v,.int .u64 w],1,false,1⟩:=by rw [ak]; simp
 obtain ⟨⟨v',G'⟩,e,q1,q2,q3⟩:=E4 ae (h.ext x1) 3 a 88 [.agg ⟨[fR bb s a,.int .u64 v,.int .u64 w]⟩] (pK v w) fun G1 x hb h1 h2 h3=>by
  rw [E6 h1 h2]
  have iy:¬ bb=G1.nx:=by omega
  refine ⟨(G1.push ⟨[.pointer (some ⟨bb,a.toNat,none⟩),.int .u64 v,.int .u64 w],1,false,1⟩).room 7,f88 (aq Q ae) _ G1 _ ?_,((Ext.refl G1).push _).room 7⟩
  by_cases hx:x=v
  ·simp [-xy,s88,Eu,iy,h3,pK,hx]
  ·simp [-xy,s88,Eu,iy,h3,pK,hx]
 simp only at q1 q2 q3
 have kV:=E5 bb s a
 generalize fR bb s a=cv at *
 have fE:=zj kV
 simp [s53,hc,fE,kV,← ak,o1,e,q1]
 exact ⟨rfl,fQ.pre h.un x1 q2 q3⟩
theorem tX (ae:FuncId→Bool) (n:Int) (G:GS):(n<1∨4096<n→(E ae).cl 28 [.int .i64 n] G=some (.tuple #[.pointer none,.int .i64 3],G)) ∧
  (1≤n→n≤4096→∃ m G',(E ae).cl 28 [.int .i64 n] G=some (.tuple #[P0 m,.int .i64 0],G')∧Ext G G' ∧fQ (fun x=>G.nx≤x∧x<G'.nx) G' m (MS.zero n.toNat)):=by
 constructor
 ·intro h
  refine f28 (aq Q ae) _ G _ ?_
  by_cases h1:n<1
  ·simp [s28,h1]
  ·have h2:4096<n:=by omega
   simp [s28,h1,h2]
 ·intro h1 h2
  have ft:¬ n<1:=by omega
  have iw:¬ 4096<n:=by omega
  refine ⟨G.nx+1,_,f28 (aq Q ae) _ G _ (by simp [s28,ft,iw]; rfl),((Ext.refl G).push _).push _,G.nx,List.replicate (4096 - n.toNat) 0,?_⟩
  refine ⟨fun x hx=>hx.2,⟨by omega,by simp⟩,⟨by omega,by simp; omega⟩,?_,?_,?_⟩
  ·have:((n.toNat:Nat):Int)=n:=by omega
   simp [MS.zero,this]
  ·have:List.replicate n.toNat (0:Int)++List.replicate (4096 - n.toNat) 0=List.replicate 4096 0:=by
    rw [List.replicate_append_replicate]; congr 1; omega
   simp only [MS.zero,this,List.map_replicate]
   simp
  ·simp [MS.zero]; omega
end
def U (x:Int):Prop:=0≤x∧x<18446744073709551616
theorem wrap_u64 (x:Int):IntKind.wrap .u64 x=x % 18446744073709551616:=by
 simp only [IntKind.wrap,IntKind.bits,IntKind.signed,Bool.false_and]
 simp
theorem RO {w:Int} (h:U w):Es .u64 w 16=w / 65536:=by
 show w.fdiv (2 ^ (min (16:Int).toNat 64))=_
 rw [show (min (16:Int).toNat 64)=16 from rfl,Int.fdiv_eq_ediv_of_nonneg _ (by decide)]; rfl
theorem ofInt_u64 {x:Int} (h:U x):(BitVec.ofInt 64 x).toNat=x.toNat:=by
 obtain ⟨n,rfl⟩:=Int.eq_ofNat_of_zero_le h.1
 have:=h.2
 have e:(BitVec.ofInt 64 (n:Int)).toNat=n % 2 ^ 64:=by simp [BitVec.toNat_ofInt]
 rw [e]; simp; omega
theorem J4 {a b:Int} (ha:U a) (hb:U b):xf .u64 a b=((a.toNat &&& b.toNat:Nat):Int):=by
 show IntKind.wrap .u64 (((BitVec.ofInt 64 a &&& BitVec.ofInt 64 b).toNat:Nat):Int)=_
 have h1:a.toNat &&& b.toNat≤a.toNat:=Nat.and_le_left
 have:=ha.1; have:=ha.2
 rw [BitVec.toNat_and,ofInt_u64 ha,ofInt_u64 hb,wrap_u64]
 omega
theorem zL {a b:Int} (ha:U a) (hb:U b):lu .u64 a b=((a.toNat ||| b.toNat:Nat):Int):=by
 show IntKind.wrap .u64 (((BitVec.ofInt 64 a ||| BitVec.ofInt 64 b).toNat:Nat):Int)=_
 have h1:a.toNat ||| b.toNat<2 ^ 64:=Nat.or_lt_two_pow (by have:=ha.2; have:=ha.1; omega) (by have:=hb.2; have:=hb.1; omega)
 rw [BitVec.toNat_or,ofInt_u64 ha,ofInt_u64 hb,wrap_u64]
 omega
theorem J5 {w:Int} (h:U w):xf .u64 w 65535=w % 65536:=by
 rw [J4 h ⟨by decide,by decide⟩]
 have:w.toNat &&& (65535:Int).toNat=w.toNat % 65536:=Nat.and_two_pow_sub_one_eq_mod w.toNat 16
 rw [this]
 have:=h.1
 omega
theorem RP {a b:Int} (i:Nat) (q:Nat) (ha:U a) (hb:U b) (h1:a.toNat=2 ^ i*q) (h2:b.toNat<2 ^ i):lu .u64 a b=a+b:=by
 rw [zL ha hb,h1,← Nat.two_pow_add_eq_or_of_lt h2 q,← h1]
 have:=ha.1; have:=hb.1
 omega
theorem aa7 {w:Int} (h:U w):xf .u64 w 281474976710655=w % 281474976710656:=by
 rw [J4 h ⟨by decide,by decide⟩]
 have:w.toNat &&& (281474976710655:Int).toNat=w.toNat % 281474976710656:=Nat.and_two_pow_sub_one_eq_mod w.toNat 48
 rw [this]
 have:=h.1
 omega
theorem RQ {w:Int} (h:U w):xf .u64 w 4294967295=w % 4294967296:=by
 rw [J4 h ⟨by decide,by decide⟩]
 have:w.toNat &&& (4294967295:Int).toNat=w.toNat % 4294967296:=Nat.and_two_pow_sub_one_eq_mod w.toNat 32
 rw [this]
 have:=h.1
 omega
theorem aa8 {w:Int} (h:U w):Es .u64 w 0=w:=by
 show w.fdiv (2 ^ (min (0:Int).toNat 64))=_
 rw [show (min (0:Int).toNat 64)=0 from rfl,Int.fdiv_eq_ediv_of_nonneg _ (by decide)]; simp
theorem RR (ae:FuncId→Bool) {w:Int} (h:U w) (G:GS):∃ G',(E ae).cl 108 [.int .u64 w,.agg ⟨[.int .i64 0,.int .i64 16]⟩] G=some (.int .i64 (w % 65536),G')∧Ext G G':=by
 refine ⟨(G.push ⟨[.int .i64 0,.int .i64 16],1,false,1⟩).room 11,f108 (aq Q ae) _ _ G _ ?_,((Ext.refl G).push _).room 11⟩
 have e1:nw .u64 1 16=65536:=by decide
 have e2:IntKind.wrap .u64 65535=65535:=by decide
 have e3:IntKind.wrap .i64 (w % 65536)=w % 65536:=wrap64 (by omega) (by omega)
 simp [s108,aa8 h,e1,e2,J5 h,e3]
theorem RS {w:Int} (h:U w) (k:Int) (hk:0<k):U (w / k):=by
 have h1:=h.1; have h2:=h.2
 refine ⟨Int.ediv_nonneg h1 (by omega),?_⟩
 have:=Int.ediv_le_self k h1
 omega
theorem aa9 (ae:FuncId→Bool) {w:Int} (h:U w) (G:GS):∃ G',(E ae).cl 108 [.int .u64 w,.agg ⟨[.int .i64 16,.int .i64 48]⟩] G=some (.int .i64 (w / 65536),G')∧Ext G G':=by
 refine ⟨(G.push ⟨[.int .i64 16,.int .i64 48],1,false,1⟩).room 11,f108 (aq Q ae) _ _ G _ ?_,((Ext.refl G).push _).room 11⟩
 have e1:nw .u64 1 48=281474976710656:=by decide
 have e2:IntKind.wrap .u64 281474976710655=281474976710655:=by decide
 have h1:=h.1; have h2:=h.2
 have e4:w / 65536 % 281474976710656=w / 65536:=by omega
 have e3:IntKind.wrap .i64 (w / 65536)=w / 65536:=wrap64 (by omega) (by omega)
 simp [s108,RO h,e1,e2,aa7 (RS h 65536 (by decide)),e4,e3]
theorem RT (ae:FuncId→Bool) (ht:ae 107=false) (G:GS):∃ G',(E ae).cl 107 [] G=some (.agg ⟨[.int .i64 0,.int .i64 16,.int .i64 16,.int .i64 48]⟩,G')∧Ext G G':=by
 refine ⟨(G.push ⟨[.int .i64 0,.int .i64 0,.int .i64 0,.int .i64 0],1,false,1⟩).put G.nx ⟨[.int .i64 0,.int .i64 16,.int .i64 16,.int .i64 48],1,false,1⟩,f107 (aq Q ae) ht G _ ?_,((Ext.refl G).push _).put (Nat.le_refl _) _⟩
 simp [s107,ch,cg]
theorem RU (ae:FuncId→Bool) (ht:ae 120=false) (G:GS):∃ G',(E ae).cl 120 [] G=some (.agg ⟨[.int .i64 0,.int .i64 16,.int .i64 16,.int .i64 32]⟩,G')∧Ext G G':=by
 refine ⟨(G.push ⟨[.int .i64 0,.int .i64 0,.int .i64 0,.int .i64 0],1,false,1⟩).put G.nx ⟨[.int .i64 0,.int .i64 16,.int .i64 16,.int .i64 32],1,false,1⟩,f120 (aq Q ae) ht G _ ?_,((Ext.refl G).push _).put (Nat.le_refl _) _⟩
 simp [s120,ch,cg]
theorem xC (ae:FuncId→Bool) (ht:ae 107=false) {w:Int} (h:U w) (G:GS):∃ G',(E ae).cl 86 [.int .u64 w] G=some (.tuple #[.agg ⟨[.int .i64 (w % 65536 - 1),.int .i64 (w / 65536)]⟩,.int .i64 0],G')∧Ext G G':=by
 obtain ⟨G1,ak⟩:∃ G1,G1=G.push ⟨[.int .i64 0,.int .i64 0],1,false,1⟩:=⟨_,rfl⟩
 have x1:Ext G G1:=by rw [ak]; exact (Ext.refl G).push _
 have n1:G1.nx=G.nx+1:=by rw [ak]; rfl
 have o1:G1.obj G.nx=some ⟨[.int .i64 0,.int .i64 0],1,false,1⟩:=by rw [ak]; simp
 obtain ⟨G2,e2,x2⟩:=RT ae ht G1
 have o2:=(x2.obj G.nx (by omega)).trans o1
 obtain ⟨G3,cE⟩:∃ G3,G3=((G2.push ⟨[.int .i64 0,.int .i64 0,.int .i64 0,.int .i64 0],1,false,1⟩).put G2.nx ⟨[.int .i64 0,.int .i64 16,.int .i64 16,.int .i64 48],1,false,1⟩).room 12:=⟨_,rfl⟩
 have n2:=x2.nx
 have x3:Ext G2 G3:=by rw [cE]; exact (((Ext.refl G2).push _).put (Nat.le_refl _) _).room 12
 have o3:=(x3.obj G.nx (by omega)).trans o2
 have p3:G3.obj G2.nx=some ⟨[.int .i64 0,.int .i64 16,.int .i64 16,.int .i64 48],1,false,1⟩:=by rw [cE]; simp
 have n3:G2.nx<G3.nx:=by rw [cE]; simp; omega
 obtain ⟨G4,e4,x4⟩:=RR ae h G3
 have o4:=(x4.obj G.nx (by omega)).trans o3
 have p4:=(x4.obj G2.nx n3).trans p3
 obtain ⟨G5,e5,x5⟩:=aa9 ae h G4
 have o5:=(x5.obj G.nx (by have:=x4.nx; omega)).trans o4
 have hm:IntKind.wrap .i64 (w % 65536 - 1)=w % 65536 - 1:=wrap64 (by omega) (by omega)
 have w:Wp (s86 true (bD Q ae) (.int .u64 w) G) fun r=>r.1= .tuple #[.agg ⟨[.int .i64 (w % 65536 - 1),.int .i64 (w / 65536)]⟩,.int .i64 0]∧Ext G r.2:=by
  simp [s86,← ak,e2,ch,cg,← cE,p3,e4,p4,e5,o5,hm]
  exact ((((x1.trans x2).trans x3).trans x4).trans x5).put (Nat.le_refl _) _
 obtain ⟨⟨v,G'⟩,e1,rfl,e3⟩:=w
 exact ⟨G',f86 (aq Q ae) _ G _ e1,e3⟩
theorem RV (ae:FuncId→Bool) {b ez:Nat} {n1 l1 h1 n2 l2 h2:Int} {G:GS} (ho:G.obj b=some ⟨[.int .i64 n1,.int .i64 l1,.int .i64 h1,.int .i64 n2,.int .i64 l2,.int .i64 h2],ez,false,1⟩) (hb:b<G.nx) (q1:l1≤n1∧n1≤h1) (q2:l2≤n2∧n2≤h2) :
  ∃ G',(E ae).cl 142 [.slice (some ⟨b,0,none⟩) 2 2] G=some (.bool true,G')∧Ext G G':=by
 have vC:∀ τ G,τ 5= .slice (some ⟨b,0,none⟩) 2 2→τ 6= .int .i64 2→τ 7= .int .i64 2→Wp ((bD Q ae).dj 142 0 τ G) fun q=>q.1= .exit 0∧q.2.2=G:=by
  intro τ G t5 t6 t7
  refine Wp.lp (Jz (aq Q ae)) ?_
  simp [EI,aw,t5,t6,t7]
 have a1:¬ n1<l1:=by omega
 have a2:¬ h1<n1:=by omega
 have a3:¬ n2<l2:=by omega
 have a4:¬ h2<n2:=by omega
 have w1:IntKind.wrap .i64 1=1:=by decide
 have w2:IntKind.wrap .i64 2=2:=by decide
 have tY:∀ τ G,G.obj b=some ⟨[.int .i64 n1,.int .i64 l1,.int .i64 h1,.int .i64 n2,.int .i64 l2,.int .i64 h2],ez,false,1⟩→b<G.nx→τ 5= .slice (some ⟨b,0,none⟩) 2 2→τ 6= .int .i64 2→τ 7= .int .i64 1→Wp ((bD Q ae).dj 142 0 τ G) fun q=>q.1= .exit 0∧Ext G q.2.2:=by
  intro τ G ho hb t5 t6 t7
  refine Wp.lp (Jz (aq Q ae)) ?_
  have aB:¬ b=G.nx:=by omega
  simp [EI,aw,t5,t6,t7,ho,a3,a4,ch,cg]
  refine Wp.mono (vC _ _ (by simp [aw]) (by simp [aw]) (by simp [aw,w2])) ?_
  rintro q ⟨h1,h2⟩
  refine ⟨h1,?_⟩
  rw [h2]
  exact ((Ext.refl G).push _).put (Nat.le_refl _) _
 have w:Wp (s142 true (bD Q ae) (.slice (some ⟨b,0,none⟩) 2 2) G) fun r=>r.1= .bool true∧Ext G r.2:=by
  simp [s142]
  refine Wp.bE ((Wp.lp (Jz (aq Q ae)) (Q:=fun q=>q.1= .exit 0∧Ext G q.2.2) ?_).mono ?_)
  ·have aB:¬ b=G.nx:=by omega
   simp [EI,aw,ho,a1,a2,ch,cg]
   refine Wp.mono (tY _ _ (by simp [aB,ho]) (by simp; omega) (by simp [aw]) (by simp [aw]) (by simp [aw,w1])) ?_
   rintro q ⟨h1,h2⟩
   exact ⟨h1,(((Ext.refl G).push _).put (Nat.le_refl _) _).trans h2⟩
  ·rintro ⟨e,τ,G'⟩ ⟨rfl,h2⟩
   simp
   exact h2
 obtain ⟨⟨v,G'⟩,e1,rfl,e3⟩:=w
 exact ⟨G',f142 (aq Q ae) _ G _ e1,e3⟩
theorem RX (ae:FuncId→Bool) (w f m n:Int) (G:GS) (hf:0≤f∧f<64):(E ae).cl 155 [.int .u64 w,.agg ⟨[.int .i64 f,.int .i64 m]⟩,.int .i64 n] G=some (.int .u64 (lu .u64 w (nw .u64 (IntKind.wrap .u64 n) f)),G.push ⟨[.int .i64 f,.int .i64 m],1,false,1⟩):=by
 have h0:¬ f<0:=by omega
 refine f155 (aq Q ae) _ _ _ G _ ?_
 simp [s155,h0]
theorem RY (ae:FuncId→Bool) {b c bz cz:Nat} {m1 m2 n1 n2:Int} {G:GS} (ho:G.obj b=some ⟨[.int .i64 0,.int .i64 m1,.int .i64 16,.int .i64 m2],bz,false,1⟩) (hc:G.obj c=some ⟨[.int .i64 n1,.int .i64 n2],cz,false,1⟩) (hb:b<G.nx) (J6:c<G.nx) :
  ∃ G',(E ae).cl 143 [.slice (some ⟨b,0,none⟩) 2 2,.slice (some ⟨c,0,none⟩) 2 2] G=some (.int .u64 (lu .u64 (lu .u64 0 (nw .u64 (IntKind.wrap .u64 n1) 0)) (nw .u64 (IntKind.wrap .u64 n2) 16)),G')∧Ext G G':=by
 have w1:IntKind.wrap .i64 1=1:=by decide
 have w2:IntKind.wrap .i64 2=2:=by decide
 have r0:=fun G=>RX ae 0 0 m1 n1 G (by decide)
 have r1:=fun G=>RX ae (lu .u64 0 (nw .u64 (IntKind.wrap .u64 n1) 0)) 16 m2 n2 G (by decide)
 generalize hu:lu .u64 0 (nw .u64 (IntKind.wrap .u64 n1) 0)=u at *
 generalize hv:lu .u64 u (nw .u64 (IntKind.wrap .u64 n2) 16)=v at *
 have vC:∀ τ G,τ 1= .slice (some ⟨c,0,none⟩) 2 2→τ 8= .slice (some ⟨b,0,none⟩) 2 2→τ 9= .int .i64 2→τ 10= .int .i64 2→τ 5= .int .u64 v→Wp ((bD Q ae).dj 143 0 τ G) fun q=>q.1= .exit 0∧q.2.1 5= .int .u64 v∧q.2.2=G:=by
  intro τ G t1 t8 t9 t10 t5
  refine Wp.lp (JH (aq Q ae)) ?_
  simp [EK,aw,t1,t8,t9,t10,t5]
 have tY:∀ τ G,G.obj b=some ⟨[.int .i64 0,.int .i64 m1,.int .i64 16,.int .i64 m2],bz,false,1⟩→G.obj c=some ⟨[.int .i64 n1,.int .i64 n2],cz,false,1⟩→b<G.nx→c<G.nx→τ 1= .slice (some ⟨c,0,none⟩) 2 2→τ 8= .slice (some ⟨b,0,none⟩) 2 2→τ 9= .int .i64 2→τ 10= .int .i64 1→τ 5= .int .u64 u→Wp ((bD Q ae).dj 143 0 τ G) fun q=>q.1= .exit 0∧q.2.1 5= .int .u64 v∧Ext G q.2.2:=by
  intro τ G ho hc hb J6 t1 t8 t9 t10 t5
  have aB:¬ c=G.nx:=by omega
  refine Wp.lp (JH (aq Q ae)) ?_
  simp [EK,aw,t1,t8,t9,t10,t5,ho,hc,aB,ch,cg,r1]
  refine Wp.mono (vC _ _ (by simp [aw]) (by simp [aw]) (by simp [aw]) (by simp [aw,w2]) (by simp [aw])) ?_
  rintro q ⟨h1,h2,h3⟩
  refine ⟨h1,h2,?_⟩
  rw [h3]
  exact ((((Ext.refl G).push _).put (Nat.le_refl _) _).room _).push _
 have w:Wp (s143 true (bD Q ae) (.slice (some ⟨b,0,none⟩) 2 2) (.slice (some ⟨c,0,none⟩) 2 2) G) fun r=>r.1= .int .u64 v∧Ext G r.2:=by
  simp [s143]
  have aB:¬ c=G.nx:=by omega
  have tj:¬ b=G.nx:=by omega
  have aoJ:¬ c=G.nx+1:=by omega
  have aoK:¬ b=G.nx+1:=by omega
  refine Wp.bE ((Wp.lp (JH (aq Q ae)) (Q:=fun q=>q.1= .exit 0∧q.2.1 5= .int .u64 v∧Ext G q.2.2) ?_).mono ?_)
  ·simp [EK,aw,ho,hc,aB,ch,cg,r0]
   have x:Ext G ((((G.push ⟨z188,1,false,1⟩).put G.nx ⟨[.int .i64 0,.int .i64 m1],1,false,1⟩).room 8).push ⟨[.int .i64 0,.int .i64 m1],1,false,1⟩):=((((Ext.refl G).push _).put (Nat.le_refl _) _).room _).push _
   refine Wp.mono (tY _ _ ((x.obj b hb).trans ho) ((x.obj c J6).trans hc) (Nat.lt_of_lt_of_le hb x.nx) (Nat.lt_of_lt_of_le J6 x.nx) (by simp [aw]) (by simp [aw]) (by simp [aw]) (by simp [aw,w1]) (by simp [aw])) ?_
   rintro q ⟨h1,h2,h3⟩
   exact ⟨h1,h2,x.trans h3⟩
  ·rintro ⟨e,τ,G'⟩ ⟨rfl,h2,h3⟩
   simp only at h2 h3
   simp [h2]
   exact h3
 obtain ⟨⟨v,G'⟩,e1,rfl,e3⟩:=w
 exact ⟨G',f143 (aq Q ae) _ _ G _ e1,e3⟩
def bN (i tag:Int):Int:=i+1+tag*65536
theorem RZ {i t:Int} (h0:-1≤i∧i≤65534) (h1:0≤t∧t<281474976710656):lu .u64 (lu .u64 0 (nw .u64 (IntKind.wrap .u64 (i+1)) 0)) (nw .u64 (IntKind.wrap .u64 t) 16)=bN i t:=by
 have a:IntKind.wrap .u64 (i+1)=i+1:=by rw [wrap_u64]; omega
 have b:IntKind.wrap .u64 t=t:=by rw [wrap_u64]; omega
 have c:nw .u64 (i+1) 0=i+1:=by
  show IntKind.wrap .u64 ((i+1)*2 ^ (min (0:Int).toNat 64))=_
  rw [show (min (0:Int).toNat 64)=0 from rfl,wrap_u64]; omega
 have d:nw .u64 t 16=t*65536:=by
  show IntKind.wrap .u64 (t*2 ^ (min (16:Int).toNat 64))=_
  rw [show (min (16:Int).toNat 64)=16 from rfl,wrap_u64,show (2:Int) ^ 16=65536 from rfl]; omega
 have e:lu .u64 0 (i+1)=i+1:=by
  rw [zL ⟨by decide,by decide⟩ ⟨by omega,by omega⟩]
  simp; omega
 rw [a,b,c,d,e]
 have jC:U (i+1):=⟨by omega,by omega⟩
 have jy:U (t*65536):=⟨by omega,by omega⟩
 have k:=RP 16 t.toNat jy jC (by omega) (by omega)
 rw [zL jC jy,Nat.or_comm,← zL jy jC,k]
 unfold bN; omega
theorem R0 (ae:FuncId→Bool) (ht:ae 107=false) {i t:Int} (h0:-1≤i∧i≤65534) (h1:0≤t∧t<281474976710656) (G:GS):∃ G',(E ae).cl 154 [.agg ⟨[.int .i64 i,.int .i64 t]⟩] G=some (.tuple #[.int .u64 (bN i t),.int .i64 0],G')∧Ext G G':=by
 have x1:Ext G ((G.push ⟨[.int .i64 i,.int .i64 t],1,false,1⟩).push ⟨[.int .i64 i,.int .i64 (-1),.int .i64 65534,.int .i64 t,.int .i64 0,.int .i64 281474976710655],3,false,1⟩):=((Ext.refl G).push _).push _
 have o1:((G.push ⟨[.int .i64 i,.int .i64 t],1,false,1⟩).push ⟨[.int .i64 i,.int .i64 (-1),.int .i64 65534,.int .i64 t,.int .i64 0,.int .i64 281474976710655],3,false,1⟩).obj G.nx=some ⟨[.int .i64 i,.int .i64 t],1,false,1⟩:=by simp
 have p1:((G.push ⟨[.int .i64 i,.int .i64 t],1,false,1⟩).push ⟨[.int .i64 i,.int .i64 (-1),.int .i64 65534,.int .i64 t,.int .i64 0,.int .i64 281474976710655],3,false,1⟩).obj (G.nx+1)=some ⟨[.int .i64 i,.int .i64 (-1),.int .i64 65534,.int .i64 t,.int .i64 0,.int .i64 281474976710655],3,false,1⟩:=by simp
 have n1:((G.push ⟨[.int .i64 i,.int .i64 t],1,false,1⟩).push ⟨[.int .i64 i,.int .i64 (-1),.int .i64 65534,.int .i64 t,.int .i64 0,.int .i64 281474976710655],3,false,1⟩).nx=G.nx+2:=rfl
 have w:Wp (s154 true (bD Q ae) (.agg ⟨[.int .i64 i,.int .i64 t]⟩) G) fun r=>r.1= .tuple #[.int .u64 (bN i t),.int .i64 0]∧Ext G r.2:=by
  simp [s154]
  generalize ak:(GS.push (GS.push G _) _)=G1 at *
  obtain ⟨G2,e2,x2⟩:=RV ae p1 (by omega) ⟨h0.1,h0.2⟩ ⟨h1.1,by omega⟩
  have n2:=x2.nx
  have o2:=(x2.obj G.nx (by omega)).trans o1
  obtain ⟨G3,e3,x3⟩:=RT ae ht G2
  have n3:=x3.nx
  have o3:=(x3.obj G.nx (by omega)).trans o2
  have aB:¬ G.nx=G3.nx:=by omega
  have hi:IntKind.wrap .i64 (i+1)=i+1:=wrap64 (by omega) (by omega)
  simp [e2,e3,aB,o3,ch,cg,ze,bound,hi]
  generalize eR:GS.back _ _=G5
  have x5:Ext G3 G5:=by rw [← eR]; exact Ext.drawn ((((Ext.refl G3).push _).put (Nat.le_refl _) _).room 10) (by omega) (by simp; omega) _
  have p5:G5.obj G3.nx=some ⟨[.int .i64 0,.int .i64 16,.int .i64 16,.int .i64 48],1,false,1⟩:=by rw [← eR]; simp; omega
  have c5:G5.obj (G3.nx+1+6)=some ⟨[.int .i64 (i+1),.int .i64 t],1,false,1⟩:=by rw [← eR]; simp
  have n5:G5.nx=G3.nx+1+10:=by rw [← eR]; simp
  obtain ⟨G6,e6,x6⟩:=RY ae p5 c5 (by omega) (by omega)
  rw [RZ h0 h1] at e6
  simp [e6]
  exact (((x1.trans x2).trans x3).trans x5).trans x6
 obtain ⟨⟨v,G'⟩,e1,rfl,e3⟩:=w
 exact ⟨G',f154 (aq Q ae) _ G _ e1,e3⟩
theorem abb {w:Int} (h0:0≤w) (h1:w<9223372036854775808):IL .u64 w 9223372036854775808=w:=by
 obtain ⟨n,rfl⟩:=Int.eq_ofNat_of_zero_le h0
 show IntKind.wrap .u64 (((BitVec.ofInt 64 (n:Int) &&& ~~~ BitVec.ofInt 64 9223372036854775808).toNat:Nat):Int)=_
 have e1:BitVec.ofInt 64 (n:Int)=BitVec.ofNat 64 n:=BitVec.ofInt_natCast ..
 have e2:BitVec.ofInt 64 9223372036854775808=BitVec.ofNat 64 9223372036854775808:=by decide
 have e3:BitVec.ofNat 64 n &&& ~~~ BitVec.ofNat 64 9223372036854775808=BitVec.ofNat 64 n:=by
  have:(BitVec.ofNat 64 n).msb=false:=by
   rw [BitVec.msb_eq_false_iff_two_mul_lt]; simp; omega
  have e4: ~~~ BitVec.ofNat 64 9223372036854775808=BitVec.ofNat 64 (2 ^ 63 - 1):=by decide
  rw [e4]
  apply BitVec.eq_of_toNat_eq
  simp only [BitVec.toNat_and,BitVec.toNat_ofNat]
  rw [Nat.mod_eq_of_lt (show n<2 ^ 64 by omega),Nat.mod_eq_of_lt (show 2 ^ 63 - 1<2 ^ 64 by decide),Nat.and_two_pow_sub_one_eq_mod,Nat.mod_eq_of_lt (by omega)]
 rw [e1,e2,e3,wrap_u64]
 simp; omega
theorem abd (ae:FuncId→Bool) {w:Int} (h0:0≤w) (h1:w<9223372036854775808) (G:GS):(E ae).cl 89 [.int .u64 w,.bool false] G=some (.int .u64 w,G):=by
 refine f89 (aq Q ae) _ _ G _ ?_
 simp [s89,abb h0 h1]
theorem abe (ae:FuncId→Bool) (ht:ae 120=false) {i g:Int} (h0:0≤i∧i≤65534) (h1:0≤g∧g<4294967296) (G:GS):∃ G',(E ae).cl 121 [.agg ⟨[.int .i64 i,.int .i64 g,.bool false]⟩] G=some (.tuple #[.int .u64 (bN i g),.int .i64 0],G')∧Ext G G':=by
 have x1:Ext G ((G.push ⟨[.int .i64 i,.int .i64 g,.bool false],1,false,1⟩).push ⟨[.int .i64 i,.int .i64 (-1),.int .i64 65534,.int .i64 g,.int .i64 0,.int .i64 4294967295],3,false,1⟩):=((Ext.refl G).push _).push _
 have o1:((G.push ⟨[.int .i64 i,.int .i64 g,.bool false],1,false,1⟩).push ⟨[.int .i64 i,.int .i64 (-1),.int .i64 65534,.int .i64 g,.int .i64 0,.int .i64 4294967295],3,false,1⟩).obj G.nx=some ⟨[.int .i64 i,.int .i64 g,.bool false],1,false,1⟩:=by simp
 have p1:((G.push ⟨[.int .i64 i,.int .i64 g,.bool false],1,false,1⟩).push ⟨[.int .i64 i,.int .i64 (-1),.int .i64 65534,.int .i64 g,.int .i64 0,.int .i64 4294967295],3,false,1⟩).obj (G.nx+1)=some ⟨[.int .i64 i,.int .i64 (-1),.int .i64 65534,.int .i64 g,.int .i64 0,.int .i64 4294967295],3,false,1⟩:=by simp
 have n1:((G.push ⟨[.int .i64 i,.int .i64 g,.bool false],1,false,1⟩).push ⟨[.int .i64 i,.int .i64 (-1),.int .i64 65534,.int .i64 g,.int .i64 0,.int .i64 4294967295],3,false,1⟩).nx=G.nx+2:=rfl
 have zM:¬ i= -1:=by omega
 have hw:bN i g=i+1+g*65536:=rfl
 have w:Wp (s121 true (bD Q ae) (.agg ⟨[.int .i64 i,.int .i64 g,.bool false]⟩) G) fun r=>r.1= .tuple #[.int .u64 (bN i g),.int .i64 0]∧Ext G r.2:=by
  simp [s121]
  generalize ak:(GS.push (GS.push G _) _)=G1 at *
  obtain ⟨G2,e2,x2⟩:=RV ae p1 (by omega) ⟨by omega,h0.2⟩ ⟨h1.1,by omega⟩
  have n2:=x2.nx
  have o2:=(x2.obj G.nx (by omega)).trans o1
  obtain ⟨G3,e3,x3⟩:=RU ae ht G2
  have n3:=x3.nx
  have o3:=(x3.obj G.nx (by omega)).trans o2
  have aB:¬ G.nx=G3.nx:=by omega
  have hi:IntKind.wrap .i64 (i+1)=i+1:=wrap64 (by omega) (by omega)
  simp [e2,o2,zM,e3,aB,o3,ch,cg,ze,bound,hi]
  generalize eR:GS.back _ _=G5
  have x5:Ext G3 G5:=by rw [← eR]; exact Ext.drawn ((((Ext.refl G3).push _).put (Nat.le_refl _) _).room 13) (by omega) (by simp; omega) _
  have p5:G5.obj G3.nx=some ⟨[.int .i64 0,.int .i64 16,.int .i64 16,.int .i64 32],1,false,1⟩:=by rw [← eR]; simp; omega
  have c5:G5.obj (G3.nx+1+6)=some ⟨[.int .i64 (i+1),.int .i64 g],1,false,1⟩:=by rw [← eR]; simp
  have n5:G5.nx=G3.nx+1+13:=by rw [← eR]; simp
  have o5:=(x5.obj G.nx (by omega)).trans o3
  obtain ⟨G6,e6,x6⟩:=RY ae p5 c5 (by omega) (by omega)
  rw [RZ (by omega) (by omega)] at e6
  have o6:=(x6.obj G.nx (by omega)).trans o5
  have e7:=abd ae (w:=bN i g) (by omega) (by omega) G6
  have abf:¬ G.nx=G3.nx+1+6:=by omega
  simp [e6,o5,o6,e7,abf,o3,aB]
  exact (((x1.trans x2).trans x3).trans x5).trans x6
 obtain ⟨⟨v,G'⟩,e1,rfl,e3⟩:=w
 exact ⟨G',f121 (aq Q ae) _ G _ e1,e3⟩
def aF (size w:Int):Int:=if size≤w % 65536 - 1 then -1 else w % 65536 - 1
def qO (j w:Int):Int:=bN j ((w / 65536+1) % 281474976710656)
theorem J7 {size w:Int}:-1≤aF size w:=by unfold aF; split<;>omega
theorem J8 {size w:Int} (h:0≤size):aF size w<size:=by unfold aF; split<;>omega
theorem E7 (ae:FuncId→Bool) (ht:ae 107=false) {i:Int} (h0:-1≤i∧i≤65534) (G:GS):∃ G',(E ae).cl 140 [.int .i64 i] G=some (.int .u64 (i+1),G')∧Ext G G':=by
 obtain ⟨G',e,x⟩:=R0 ae ht (t:=0) h0 (by decide) G
 refine ⟨G',f140 (aq Q ae) _ G _ ?_,x⟩
 simp [s140,e,bN]
theorem abg (ae:FuncId→Bool) (ht:ae 107=false) {a b size w:Int} (h:U w) (G:GS):∃ G',(E ae).cl 104 [.agg ⟨[.int .i64 a,.int .i64 b,.int .i64 size]⟩,.int .u64 w] G=some (.int .i64 (aF size w),G')∧Ext G G':=by
 have x1:Ext G (G.push ⟨[.int .i64 a,.int .i64 b,.int .i64 size],1,false,1⟩):=(Ext.refl G).push _
 have o1:(G.push ⟨[.int .i64 a,.int .i64 b,.int .i64 size],1,false,1⟩).obj G.nx=some ⟨[.int .i64 a,.int .i64 b,.int .i64 size],1,false,1⟩:=by simp
 have n1:(G.push ⟨[.int .i64 a,.int .i64 b,.int .i64 size],1,false,1⟩).nx=G.nx+1:=rfl
 have w:Wp (s104 true (bD Q ae) (.agg ⟨[.int .i64 a,.int .i64 b,.int .i64 size]⟩) (.int .u64 w) G) fun r=>r.1= .int .i64 (aF size w)∧Ext G r.2:=by
  simp [s104]
  generalize ak:GS.push G _=G1 at *
  obtain ⟨G2,e2,x2⟩:=xC ae ht h G1
  have n2:=x2.nx
  have o2:=(x2.obj G.nx (by omega)).trans o1
  have aB:¬ G.nx=G2.nx:=by omega
  have y:Ext G (((G2.push ⟨z150,1,false,1⟩).put G2.nx ⟨[.int .i64 (w % 65536 - 1),.int .i64 (w / 65536)],1,false,1⟩)):=((x1.trans x2).push _).put (by omega) _
  unfold aF
  by_cases hc:size≤w % 65536 - 1
  ·simp [e2,o2,aB,hc,ch,cg]
   exact y
  ·simp [e2,o2,aB,hc,ch,cg]
   exact y
 obtain ⟨⟨v,G'⟩,e1,rfl,e3⟩:=w
 exact ⟨G',f104 (aq Q ae) _ _ G _ e1,e3⟩
theorem abh {j w:Int} (hj:-1≤j∧j≤65534):U (qO j w):=by unfold qO bN U; omega
def az (t:TW) (i part:Int):Int :=
 if t.sound then
  if i= -1 then if 4≤part∧part<4+t.ay then t.cG+(part - 4) else -1
  else if 0≤i∧i<t.size∧0≤part∧part<4+t.ay then t.nodes+i*(4+t.ay)+part else -1
 else -1
def aN (t:TW) (i l:Int):Int:=if 0≤l∧l<4 then az t i (4+l) else -1
structure dy where
 pred:Int
 known:Int
 cur:Int
structure ao where
 key:Int
 line:Int
 l:Int
 at_:dy
 w:Int
 told:List dy
 ar:Int
def aM:Int:=9223372036854775808
def ao.anew (t:TW) (x:ao):ao:={ x with line:=1,l:=t.ay - 1,at_:=⟨-1,0,0⟩ }
def ao.tell (x:ao):ao :=
 if x.l<1 then { x with told:=x.told.set x.l.toNat x.at_,line:=9 }
 else { x with told:=x.told.set x.l.toNat x.at_,line:=1,l:=x.l - 1,at_:={ x.at_ with cur:=0 } }
def ao.looks (t:TW) (x:ao):ao:=if aF t.size x.at_.cur<0 then { x with line:=2 }.tell else { x with line:=2 }
def ao.step (t:TW) (x:ao) (s:MS):ao×MS :=
 let p:=aN t x.at_.pred x.l
 let i:=aF t.size x.at_.cur
 if x.line=9 then (x,s)
 else if x.line=2 then
  let s':=s.load (aN t i x.l)
  ({ x with ar:=x.at_.cur,w:=s'.new,line:=if aM≤s'.new then 3 else 4 },s')
 else if x.line=3 then
  let s':=s.bM p x.at_.cur (x.w - aM)
  if s'.held then (({ x with ar:=x.at_.known,at_:={ x.at_ with cur:=x.w - aM } }:ao).looks t,s')
  else (({ x with ar:=x.at_.known }:ao).anew t,s')
 else if x.line=4 then
  let s':=s.load (az t i 0)
  if x.key≤s'.new then (({ x with ar:=x.at_.cur }:ao).tell,s')
  else (({ x with ar:=x.at_.cur,at_:=⟨i,x.at_.cur,x.w⟩ }:ao).looks t,s')
 else
  let s':=s.load p
  if aM≤s'.new then (({ x with ar:=x.at_.known,at_:={ x.at_ with cur:=s'.new } }:ao).anew t,s')
  else (({ x with ar:=x.at_.known,at_:={ x.at_ with cur:=s'.new } }:ao).looks t,s')
structure ao.ok (t:TW) (x:ao):Prop where
 line:x.line=1∨x.line=2∨x.line=3∨x.line=4∨x.line=9
 aQ:0≤x.l∧x.l<t.ay
 told:x.told.length=t.ay.toNat
 pred:-1≤x.at_.pred∧x.at_.pred<t.size
 known:U x.at_.known
 cur:U x.at_.cur
 idx:x.line=2∨x.line=3∨x.line=4→0≤aF t.size x.at_.cur
 word:U x.w
 mark:(x.line=3→aM≤x.w)∧(x.line=4→x.w<aM)
 ar:U x.ar
theorem Ck (ae:FuncId→Bool) (h:Int) (hh:1≤h∧h≤4) (G:GS):jF Q (aD Q ae) (.iface 133 (.int .i64 h)) "coxswain/tower.cells" [] G=some (.int .i64 (4+h),G):=by
 have e:jF Q (aD Q ae) (.iface 133 (.int .i64 h)) "coxswain/tower.cells" [] G=(E ae).cl 185 [.int .i64 h] G:=by kernel_rfl
 rw [e]
 have w:IntKind.wrap .i64 (4+h)=4+h:=wrap64 (by omega) (by omega)
 exact f185 (aq Q ae) _ G _ (by simp [s185,w])
theorem abi (ae:FuncId→Bool) (t:TW) (G:GS):∃ G',(E ae).cl 77 [t.v] G=some (.agg ⟨[.int .i64 t.nodes,.int .i64 t.size,.int .i64 t.ay]⟩,G')∧Ext G G':=by
 have w:Wp (s77 true (bD Q ae) t.v G) fun q=>q.1= .agg ⟨[.int .i64 t.nodes,.int .i64 t.size,.int .i64 t.ay]⟩∧Ext G q.2:=by
  simp [s77,ch,cg,gA]
  exact (((Ext.refl G).push _).push _).put (by simp) _
 obtain ⟨⟨v,G'⟩,e1,rfl,h⟩:=w
 exact ⟨G',f77 (aq Q ae) _ G _ e1,h⟩
theorem abj {i n w:Int} (hi:0≤i∧i<n) (hn:n≤128) (hw:1≤w∧w≤8):0≤i*w∧i*w≤1016:=by
 have h1:i*w≤127*w:=Int.mul_le_mul_of_nonneg_right (by omega) (by omega)
 have h2:0≤i*w:=Int.mul_nonneg hi.1 (by omega)
 omega
theorem abk (ae:FuncId→Bool) {a n h:Int} (ha:0≤a∧a<4096) (hn:1≤n∧n≤128) (hh:1≤h∧h≤4) (i part:Int) (G:GS):∃ G',(E ae).cl 78 [.agg ⟨[.int .i64 a,.int .i64 n,.int .i64 h]⟩,.int .i64 i,.int .i64 part] G=some (.int .i64 (if 0≤i∧i<n∧0≤part∧part<4+h then a+i*(4+h)+part else -1),G')∧Ext G G':=by
 have w:Wp (s78 true (bD Q ae) (.agg ⟨[.int .i64 a,.int .i64 n,.int .i64 h]⟩) (.int .i64 i) (.int .i64 part) G) fun r=>r.1= .int .i64 (if 0≤i∧i<n∧0≤part∧part<4+h then a+i*(4+h)+part else -1)∧Ext G r.2:=by
  have x0:Ext G (G.push ⟨[.int .i64 a,.int .i64 n,.int .i64 h],1,false,1⟩):=(Ext.refl G).push _
  by_cases h1:i<0
  ·have:¬ 0≤i:=by omega
   simp [s78,Ck ae h hh,h1,this]; exact x0
  have ft:0≤i:=by omega
  by_cases h2:n≤i
  ·have:¬ i<n:=by omega
   simp [s78,Ck ae h hh,h1,h2,this]; exact x0
  have iw:i<n:=by omega
  by_cases h3:part<0
  ·have:¬ 0≤part:=by omega
   simp [s78,Ck ae h hh,h1,h2,h3,this]; exact x0
  have pf:0≤part:=by omega
  by_cases h4:4+h≤part
  ·have:¬ part<4+h:=by omega
   simp [s78,Ck ae h hh,h1,h2,h3,h4,this]; exact x0
  have Bg:part<4+h:=by omega
  have hm:=abj (w:=4+h) ⟨ft,iw⟩ hn.2 (by omega)
  have e1:IntKind.wrap .i64 (i*(4+h))=i*(4+h):=wrap64 (by omega) (by omega)
  have e2:IntKind.wrap .i64 (a+i*(4+h))=a+i*(4+h):=wrap64 (by omega) (by omega)
  have e3:IntKind.wrap .i64 (a+i*(4+h)+part)=a+i*(4+h)+part:=wrap64 (by omega) (by omega)
  simp [s78,Ck ae h hh,h1,h2,h3,h4,ft,iw,pf,Bg,e1,e2,e3]
  exact x0.room 12
 obtain ⟨⟨v,G'⟩,e1,rfl,e3⟩:=w
 exact ⟨G',f78 (aq Q ae) _ _ _ G _ e1,e3⟩
theorem abl (ae:FuncId→Bool) {a n l:Int} (ha:0≤a∧a<4096) (hn:1≤n∧n≤4) (hl:0≤l∧l<n) (G:GS):∃ G',(E ae).cl 80 [.agg ⟨[.int .i64 a,.int .i64 1,.int .i64 n]⟩,.int .i64 0,.int .i64 l] G=some (.int .i64 (a+l),G')∧Ext G G':=by
 have h1:¬ n≤0:=by omega
 have h2:¬ l<0:=by omega
 have h3:¬ n≤l:=by omega
 have h5:¬ 1≤(0:Int):=by omega
 have h4:IntKind.wrap .i64 (a+l)=a+l:=wrap64 (by omega) (by omega)
 have w:Wp (s80 true (bD Q ae) (.agg ⟨[.int .i64 a,.int .i64 1,.int .i64 n]⟩) (.int .i64 0) (.int .i64 l) G) fun r=>r.1= .int .i64 (a+l)∧Ext G r.2:=by
  by_cases hz:l=0
  ·subst hz
   have h6:IntKind.wrap .i64 a=a:=wrap64 (by omega) (by omega)
   simp [s80,RL ae,h1,h6,w0]
   exact ((Ext.refl G).push _).room 12
  ·simp [s80,RL ae,h1,h2,h3,h4,h5,w0]
   exact ⟨by rw [show IntKind.wrap .i64 a=a from wrap64 (by omega) (by omega)]; exact h4,((Ext.refl G).push _).room 12⟩
 obtain ⟨⟨v,G'⟩,e1,rfl,e3⟩:=w
 exact ⟨G',f80 (aq Q ae) _ _ _ G _ e1,e3⟩
theorem vD (ae:FuncId→Bool) (t:TW) (i part:Int) (G:GS):∃ G',(E ae).cl 42 [t.v,.int .i64 i,.int .i64 part] G=some (.int .i64 (az t i part),G')∧Ext G G':=by
 obtain ⟨G1,ak⟩:∃ G1,G1=G.push ⟨t.cells,1,false,1⟩:=⟨_,rfl⟩
 have x1:Ext G G1:=by rw [ak]; exact (Ext.refl G).push _
 have n1:G1.nx=G.nx+1:=by rw [ak]; rfl
 have o1:G1.obj G.nx=some ⟨t.cells,1,false,1⟩:=by rw [ak]; simp
 obtain ⟨G2,e2,x2⟩:=E2 ae t G1
 have o2:=(x2.obj G.nx (by omega)).trans o1
 by_cases hs:t.sound
 ·simp only [hs,decide_true] at e2
  have h1:=hs.1
  have h2:=hs.2.1
  by_cases hi:i= -1
  ·subst hi
   have hw:IntKind.wrap .i64 (4+t.ay)=4+t.ay:=wrap64 (by omega) (by omega)
   by_cases h3:part<4
   ·have hv:az t (-1) part= -1:=by unfold az; rw [if_pos hs,if_pos rfl,if_neg (by omega)]
    refine ⟨G2,f42 (aq Q ae) _ _ _ G _ ?_,x1.trans x2⟩
    simp [s42,← ak,o1,e2,o2,hw,h3,hv]
   by_cases h4:4+t.ay≤part
   ·have hv:az t (-1) part= -1:=by unfold az; rw [if_pos hs,if_pos rfl,if_neg (by omega)]
    refine ⟨G2,f42 (aq Q ae) _ _ _ G _ ?_,x1.trans x2⟩
    simp [s42,← ak,o1,e2,o2,hw,h3,h4,hv]
   have hv:az t (-1) part=t.cG+(part - 4):=by unfold az; rw [if_pos hs,if_pos rfl,if_pos ⟨by omega,by omega⟩]
   have hp:IntKind.wrap .i64 (part - 4)=part - 4:=wrap64 (by omega) (by omega)
   obtain ⟨G3,e3,x3⟩:=aaZ ae t G2
   obtain ⟨G4,e4,x4⟩:=abl ae (a:=t.cG) (n:=t.ay) (l:=part - 4) ⟨hs.2.2.2.2.2.2.1,hs.2.2.2.2.2.2.2⟩ ⟨h1,h2⟩ ⟨by omega,by omega⟩ G3
   refine ⟨G4,f42 (aq Q ae) _ _ _ G _ ?_,((x1.trans x2).trans x3).trans x4⟩
   simp [s42,← ak,o1,e2,o2,hw,h3,h4,hp,hv,e3,e4,w0]
  ·have hv:az t i part=if 0≤i∧i<t.size∧0≤part∧part<4+t.ay then t.nodes+i*(4+t.ay)+part else -1:=by unfold az; rw [if_pos hs,if_neg hi]
   obtain ⟨G3,e3,x3⟩:=abi ae t G2
   obtain ⟨G4,e4,x4⟩:=abk ae (a:=t.nodes) (n:=t.size) (h:=t.ay) ⟨hs.2.2.2.2.1,hs.2.2.2.2.2.1⟩ ⟨hs.2.2.1,hs.2.2.2.1⟩ ⟨h1,h2⟩ i part G3
   rw [← hv] at e4
   refine ⟨G4,f42 (aq Q ae) _ _ _ G _ ?_,((x1.trans x2).trans x3).trans x4⟩
   simp [s42,← ak,o1,e2,o2,e3,e4,hi]
 ·simp only [hs,decide_false] at e2
  have hv:az t i part= -1:=by unfold az; rw [if_neg hs]
  refine ⟨G2,f42 (aq Q ae) _ _ _ G _ ?_,x1.trans x2⟩
  simp [s42,← ak,o1,e2,hv]
theorem jM (ae:FuncId→Bool) (t:TW) (i l:Int) (G:GS):∃ G',(E ae).cl 41 [t.v,.int .i64 i,.int .i64 l] G=some (.int .i64 (aN t i l),G')∧Ext G G':=by
 obtain ⟨G1,ak⟩:∃ G1,G1=G.push ⟨t.cells,1,false,1⟩:=⟨_,rfl⟩
 have x1:Ext G G1:=by rw [ak]; exact (Ext.refl G).push _
 have o1:G1.obj G.nx=some ⟨t.cells,1,false,1⟩:=by rw [ak]; simp
 by_cases h1:l<0
 ·have hv:aN t i l= -1:=by unfold aN; rw [if_neg (by omega)]
  refine ⟨G1,f41 (aq Q ae) _ _ _ G _ ?_,x1⟩
  simp [s41,← ak,o1,h1,hv]
 by_cases h2:4≤l
 ·have hv:aN t i l= -1:=by unfold aN; rw [if_neg (by omega)]
  refine ⟨G1,f41 (aq Q ae) _ _ _ G _ ?_,x1⟩
  simp [s41,← ak,o1,h1,h2,hv]
 have hv:aN t i l=az t i (4+l):=by unfold aN; rw [if_pos ⟨by omega,by omega⟩]
 obtain ⟨G2,e2,x2⟩:=vD ae t i (4+l) G1
 have hw:IntKind.wrap .i64 (4+l)=4+l:=wrap64 (by omega) (by omega)
 refine ⟨G2,f41 (aq Q ae) _ _ _ G _ ?_,x1.trans x2⟩
 simp [s41,← ak,o1,e2,hw,h1,h2,hv]
theorem abm (ae:FuncId→Bool) {w:Int} (h:U w) (G:GS):∃ G',(E ae).cl 108 [.int .u64 w,.agg ⟨[.int .i64 16,.int .i64 32]⟩] G=some (.int .i64 (w / 65536 % 4294967296),G')∧Ext G G':=by
 refine ⟨(G.push ⟨[.int .i64 16,.int .i64 32],1,false,1⟩).room 11,f108 (aq Q ae) _ _ G _ ?_,((Ext.refl G).push _).room 11⟩
 have e1:nw .u64 1 32=4294967296:=by decide
 have e2:IntKind.wrap .u64 4294967295=4294967295:=by decide
 have e3:IntKind.wrap .i64 (w / 65536 % 4294967296)=w / 65536 % 4294967296:=wrap64 (by omega) (by omega)
 simp [s108,RO h,e1,e2,RQ (RS h 65536 (by decide)),e3]
theorem abn {w:Int} (h:U w):Es .u64 w 63=w / 9223372036854775808:=by
 show w.fdiv (2 ^ (min (63:Int).toNat 64))=_
 rw [show (min (63:Int).toNat 64)=63 from rfl,Int.fdiv_eq_ediv_of_nonneg _ (by decide)]; rfl
theorem vE (ae:FuncId→Bool) {w:Int} (h:U w) (G:GS):(E ae).cl 39 [.int .u64 w] G=some (.bool (decide (9223372036854775808≤w)),G):=by
 refine f39 (aq Q ae) _ G _ ?_
 have h1:=h.1; have h2:=h.2
 have e:(w / 9223372036854775808=1)=(9223372036854775808≤w):=by rw [eq_iff_iff]; omega
 simp [s39,abn h,e]
theorem abo (ae:FuncId→Bool) {w:Int} (h0:0≤w) (h1:w<9223372036854775808) (G:GS):(E ae).cl 89 [.int .u64 w,.bool true] G=some (.int .u64 (w+9223372036854775808),G):=by
 refine f89 (aq Q ae) _ _ G _ ?_
 have jC:U w:=⟨h0,by omega⟩
 have jy:U 9223372036854775808:=⟨by decide,by decide⟩
 have k:=RP 63 1 jy jC (by decide) (by omega)
 have e:lu .u64 w 9223372036854775808=w+9223372036854775808:=by
  rw [zL jC jy,Nat.or_comm,← zL jy jC,k]; omega
 simp [s89,e]
def mkI (m:Bool):Int:=if m then 9223372036854775808 else 0
def R3 (w:Int):Prop:=¬ (w % 65536=0∧w / 65536 % 4294967296≠0)∧w=w % 65536+(w / 65536 % 4294967296)*65536+mkI (decide (9223372036854775808≤w))
instance (w:Int):Decidable (R3 w):=by unfold R3; exact inferInstance
@[simp] theorem aoL (k:IntKind):(bh k).sz=1:=rfl
@[simp] theorem aoM (k:IntKind) (x:Int):(bh k).row x=[.int k x]:=rfl
theorem J9 (k:IntKind) (L:List Int):(bh k).flat L=L.map (Value.int k):=by
 induction L with
 | nil=>rfl
 | cons a l ih=>rw [ct.pI,ih]; rfl
section
variable {A:Nat→Prop} {G:GS} {m bb:Nat} {rest:List Int} {s:MS}
theorem abp (ae:FuncId→Bool) {B:GS} {W rest:List Int} {bb nb:Nat} (AQ:B.obj bb=some ⟨(W++rest).map (Value.int .u64),1,false,1⟩) (aT:bb<B.nx) (hnb:B.nx≤nb) (hW:W.length≤4096) (c:Nat):∀ (k i:Nat) (τ:Env) (G:GS),i+k=W.length→τ 3= .slice (some ⟨nb,0,none⟩) W.length W.length→τ 29= .slice (some ⟨bb,0,none⟩) W.length c→τ 30= .int .i64 W.length→τ 31= .int .i64 i →
  Ext B G→nb<G.nx→G.obj nb=some ⟨(W.take i++List.replicate k 0).map (Value.int .u64),1,false,1⟩ →
  Wp ((bD Q ae).dj 37 0 τ G) fun r=>r.1= .exit 0∧Ext B r.2.2∧nb<r.2.2.nx∧r.2.1 3= .slice (some ⟨nb,0,none⟩) W.length W.length∧r.2.2.obj nb=some ⟨W.map (Value.int .u64),1,false,1⟩:=by
 intro k
 induction k with
 | zero =>
  intro i τ G hi t3 t29 t30 t31 hx hn ho
  have bG:i=W.length:=by omega
  subst bG
  refine Wp.lp (Re (aq Q ae)) ?_
  simp at ho
  simp [JF,aw,t3,t29,t30,t31]
  exact ⟨hx,hn,ho⟩
 | succ k ih =>
  intro i τ G hi t3 t29 t30 t31 hx hn ho
  have E8:i<W.length:=by omega
  have tZ:(0:Int)≤i:=by omega
  have hw:IntKind.wrap .i64 ((i:Int)+1)=((i+1:Nat):Int):=wrap64 (by omega) (by omega)
  have ob:=(hx.obj bb aT).trans AQ
  have Ka:((W++rest).map (Value.int .u64))[i]? =some (.int .u64 W[i]):=by rw [List.getElem?_map,List.getElem?_append_left E8,List.getElem?_eq_getElem E8]; rfl
  have abq:∀ h:i<((W++rest).map (Value.int .u64)).length,((W++rest).map (Value.int .u64))[i]= .int .u64 W[i]:=fun h=>by rw [List.getElem?_eq_getElem h] at Ka; exact Option.some.inj Ka
  have vu:((W.take i++List.replicate (k+1) 0).map (Value.int .u64)).set i (.int .u64 W[i])=(W.take (i+1)++List.replicate k 0).map (Value.int .u64):=by
   have hl:(W.take i).length=i:=by simp; omega
   rw [← List.map_set,List.set_append_right _ _ (by omega),hl,Nat.sub_self,List.replicate_succ,List.set_cons_zero,List.take_add_one,List.getElem?_eq_getElem E8,Option.toList_some,List.append_assoc]; rfl
  have hlen:i<((W.take i++List.replicate (k+1) 0).map (Value.int .u64)).length:=by simp; omega
  generalize tt:(W++rest).map (Value.int .u64)=c1 at *
  generalize u5:(W.take i++List.replicate (k+1) 0).map (Value.int .u64)=c2 at *
  refine Wp.lp (Re (aq Q ae)) ?_
  have ph:i<c1.length:=by rw [← tt]; simp; omega
  simp [-Int.natCast_add,JF,aw,t3,t29,t30,t31,E8,tZ,ob,Ka,abq,ph,ho,hlen,vu,hw]
  refine ih (i+1) _ _ (by omega) (by simp [aw]) (by simp [aw]) (by simp [aw]) (by simp [aw]) (hx.put hnb _) hn ?_
  simp
theorem abr (ae:FuncId→Bool) (h:iP A G m bb rest s):∃ v G',(E ae).cl 37 [P0 m] G=some (v,G')∧Ext G G' ∧cn (bh .u64) G.nx G' v s.W:=by
 have hl:=h.hl
 have RN:=h.un _ h.am
 have iy:=h.un _ h.ab
 have m1:m≠G.nx:=by omega
 have b1:bb≠G.nx:=by omega
 have hm:=h.hm
 have nU:qJ 1 8 z51 s.W.length s.W.length G=some (.slice (some ⟨G.nx,0,none⟩) s.W.length s.W.length,G.push ⟨(List.replicate s.W.length 0).map (Value.int .u64),1,false,1⟩):=by
  unfold qJ
  rw [if_pos ⟨by omega,by omega,by decide,by omega,wrap64 (by omega) (by omega),wrap64 (by omega) (by omega)⟩]
  have:rep z51 ((s.W.length:Nat):Int).toNat=(List.replicate s.W.length 0).map (Value.int .u64):=by
   simp only [Int.toNat_natCast]
   generalize s.W.length=n
   induction n with
   | zero=>rfl
   | succ n ih=>show z51++rep z51 n=_; rw [ih]; rfl
  rw [this]; rfl
 have Kb:((s.W.length:Nat):Int)≤4096:=by omega
 have w:Wp (s37 true (bD Q ae) (P0 m) G) fun r=>Ext G r.2∧cn (bh .u64) G.nx r.2 r.1 s.W:=by
  generalize hrz:(List.replicate s.W.length 0).map (Value.int .u64)=rz at *
  have R4:s.W.length≤4096:=by omega
  simp [-List.map_replicate,s37,hm,nU,m1,ze,bound,Kb,R4]
  refine Wp.bE ((abp ae (rest:=rest) h.hb iy (Nat.le_refl _) R4 4096 s.W.length 0 _ _ (by omega) (by simp) (by simp) (by simp) (by simp) (((Ext.refl G).push _).room 12) (by simp; omega) (by simp [← hrz])).mono ?_)
  rintro ⟨e,τ,G'⟩ ⟨rfl,q1,q2,q3,q4⟩
  simp only at q1 q2 q3 q4
  simp [q3]
  exact ⟨q1,by rw [ct.qN],.inr ⟨G.nx,false,rfl,Nat.le_refl _,q2,by rw [q4,J9]; rfl⟩⟩
 obtain ⟨⟨v,G'⟩,e1,e2,e3⟩:=w
 exact ⟨v,G',f37 (aq Q ae) _ G _ e1,e2,e3⟩
end
section
variable {A B:Nat→Prop} {G G':GS} {r wb:Nat} {s:MS}
def MS.aS (s:MS) (a:Int):Int:=if 0≤a∧a<s.W.length then (s.W[a.toNat]?).getD 0 else 0
end
theorem zN (m:Nat) (s:MS):Sep fun A G=>fQ A G m s:=⟨fQ.un,fQ.kept,fQ.mono⟩
def MS.ok (s:MS):Prop:=(∀ w∈s.W,U w)∧s.W.length≤4096
theorem MS.ok.word {s:MS} (h:s.ok) (i:Nat):U ((s.W[i]?).getD 0):=by
 cases hq:s.W[i]? with
 | none=>exact ⟨by decide,by decide⟩
 | some w=>exact h.1 w (List.mem_of_getElem? hq)
theorem MS.ok.acc {s:MS} (h:s.ok) {u:Int→Int×Bool} (hu:∀ w,U w→U (u w).1) (k a:Int):(s.acc k a u).ok∧U (s.acc k a u).new:=by
 unfold MS.acc
 split
 ·refine ⟨⟨fun w hw=>?_,by simpa using h.2⟩,hu _ (h.word _)⟩
  rcases List.mem_or_eq_of_mem_set hw with hw | rfl
  ·exact h.1 w hw
  ·exact hu _ (h.word _)
 ·exact ⟨h,(show (0:Int)≤0 by decide),(show (0:Int)<18446744073709551616 by decide)⟩
theorem MS.ok.load {s:MS} (h:s.ok) (a:Int):(s.load a).ok∧U (s.load a).new:=h.acc (fun w hw=>hw) 1 a
theorem MS.ok.store {s:MS} (h:s.ok) (a:Int) {v:Int} (hv:U v):(s.store a v).ok:=(h.acc (fun w hw=>hv) 2 a).1
theorem MS.ok.bM {s:MS} (h:s.ok) (a x:Int) {y:Int} (hy:U y):(s.bM a x y).ok:=(h.acc (fun w hw=>by unfold pK; split<;>assumption) 3 a).1
theorem abt (x:Int):U (IntKind.wrap .u64 x):=by rw [wrap_u64]; unfold U; omega
theorem MS.ok.add {s:MS} (h:s.ok) (a n:Int):(s.add a n).ok∧U (s.add a n).new:=h.acc (fun w hw=>abt _) 4 a
theorem gH:U 0:=⟨by decide,by decide⟩
theorem MS.ok.aS {s:MS} (h:s.ok) (a:Int):U (s.aS a):=by
 unfold MS.aS; split
 ·exact h.word _
 ·exact gH
section
variable {own own':Nat→Nat} {G G' G0:GS} {m r b c:Nat} {s s' s1:MS} {ts:List Nat}
theorem abu {n:Nat} (h:n≤4096):(MS.zero n).ok:=⟨fun w hw=>by
 have:w=0:=by simpa [MS.zero] using List.eq_of_mem_replicate hw
 rw [this]; exact gH,by simpa [MS.zero] using h⟩
theorem Cl (ae:FuncId→Bool) (x n:Int) (hn:0<n) (hn2:n<2 ^ 40) (G:GS):(E ae).cl 7 [.int .i64 x,.int .i64 n] G=some (.int .i64 (x % n),G):=by
 refine f7 (aq Q ae) _ _ G _ ?_
 have h1:=Int.emod_nonneg x (show n≠0 by omega)
 have h2:=Int.emod_lt_of_pos x hn
 have ht:=@Int.tmod_eq_emod x n
 have eI:¬ n≤0:=by omega
 have R5:¬ n=0:=by omega
 have hw:IntKind.wrap .i64 (x % n)=x % n:=wrap64 (by omega) (by omega)
 by_cases hx:x.tmod n<0
 ·have e:x.tmod n+n=x % n:=by split at ht<;>omega
  simp [s7,aw,hx,e,hw,eI,R5]
 ·have e:x.tmod n=x % n:=by split at ht<;>omega
  have ja:¬ x % n<0:=by omega
  simp [s7,aw,e,ja,eI,R5]
end
structure dW (t:Nat) (B:Nat→Prop) (own:Nat→Nat) (G:GS) (own':Nat→Nat) (G':GS):Prop where
 dm:bf own own' G
 mod:bC (fun x=>own x=t∨B x) G G'
abbrev no:Nat→Prop:=fun _=>False
section
variable {t m r b:Nat} {B B':Nat→Prop} {own ah aX:Nat→Nat} {G G1 G2:GS} {s s':MS}
theorem dW.nx (h:dW t B own G ah G1):G.nx≤G1.nx:=h.mod.nx
theorem dW.refl (t:Nat) (B:Nat→Prop) (own:Nat→Nat) (G:GS):dW t B own G own G:=⟨bf.refl _ _,bC.refl _ _⟩
theorem dW.keep (h:dW t B own G ah G1) {g:Nat} (hg:g<G.nx) (ht:own g≠t) (hB:¬ B g):G1.obj g=G.obj g:=h.mod.obj g hg fun k=>k.elim ht hB
theorem dW.same (h:dW t B own G ah G1) {g:Nat} (hg:g<G.nx):ah g=own g:=h.dm g hg
theorem dW.trans (h:dW t B own G ah G1) (k:dW t B' ah G1 aX G2) (hs:∀ x,x<G.nx→B' x→B x):dW t B own G aX G2 :=
 ⟨h.dm.trans k.dm h.nx,⟨Nat.le_trans h.nx k.nx,fun g hg hn=>(k.mod.obj g (Nat.lt_of_lt_of_le hg h.nx) fun q=>hn (q.elim (fun q=>.inl ((h.dm g hg).symm.trans q)) fun q=>.inr (hs g hg q))).trans (h.mod.obj g hg hn),Nat.le_trans h.mod.nl k.mod.nl,fun l hl=>(k.mod.loop l (Nat.lt_of_lt_of_le hl h.mod.nl)).trans (h.mod.loop l hl)⟩⟩
theorem dW.mono (h:dW t B own G ah G1) (hs:∀ x,x<G.nx→B x→B' x):dW t B' own G ah G1:=(dW.refl t B' own G).trans h hs
theorem dW.ext (x:Ext G G1):dW t B own G (grown own G 13) G1:=⟨dk,x.vB _⟩
theorem dW.R6 (x:Ext G G1) (a:bf own ah G):dW t B own G ah G1:=⟨a,x.vB _⟩
theorem dW.put (h:dW t B own G ah G1) (hb:B b∨G.nx≤b) (o:bK):dW t B own G ah (G1.put b o) :=
 ⟨h.dm,h.mod.put (hb.imp .inr id) o⟩
theorem dW.JZ (h:dW t B own G ah G1) {A:GS} (x:Ext A G) (hn:∀ g,g<A.nx→own g≠t∧¬ B g):Ext A G1 :=
 ⟨Nat.le_trans x.nx h.nx,fun g hg=>(h.keep (Nat.lt_of_lt_of_le hg x.nx) (hn g hg).1 (hn g hg).2).trans (x.obj g hg),Nat.le_trans x.nl h.mod.nl,fun l hl=>(h.mod.loop l (Nat.lt_of_lt_of_le hl x.nl)).trans (x.loop l hl)⟩
def PM (own:Nat→Nat) (G:GS) (m:Nat) (s:MS):Prop:=fQ (Tag own G 10) G m s
theorem PM.to (h:PM own G m s) (k:dW t B own G ah G1) (ht:t≠10) (hB:∀ x,x<G.nx→B x→own x≠10):PM ah G1 m s :=
 (zN m s).mono ((zN m s).kept h k.nx fun g hg=>k.keep hg.1 (by rw [hg.2]; exact ht.symm) fun q=>hB g hg.1 q hg.2) (Tag.le k.dm k.nx) Tag.under
theorem PM.ext (h:PM own G m s) (x:Ext G G1):PM (grown own G 13) G1 m s:=h.to (t:=11) (B:=no) (dW.ext x) (by decide) fun _ _ h=>h.elim
theorem PM.put (h:PM own G m s) (hb:b<G.nx→own b≠10) (o:bK):PM own (G.put b o) m s:=by
 by_cases hl:b<G.nx
 ·exact h.to (t:=11) (B:=fun x=>x=b) ((dW.refl _ (fun x=>x=b) _ _).put (.inl rfl) o) (by decide) fun x _ (e:x=b)=>by rw [e]; exact hb hl
 ·exact h.to (t:=11) (B:=no) ((dW.refl _ _ _ _).put (.inr (by omega)) o) (by decide) fun _ _ h=>h.elim
structure PW (B:Nat→Prop) (own:Nat→Nat) (G:GS) (ah:Nat→Nat) (G1:GS) (m:Nat) (s:MS):Prop where
 bH:dW 10 B own G ah G1
 pm:PM ah G1 m s
theorem PW.refl (h:PM own G m s):PW B own G own G m s:=⟨dW.refl _ _ _ _,h⟩
theorem PW.nx (w:PW B own G ah G1 m s):G.nx≤G1.nx:=w.bH.nx
theorem PW.ext (w:PW B own G ah G1 m s) (x:Ext G1 G2):PW B own G (grown ah G1 13) G2 m s:=⟨w.bH.trans (B':=no) (dW.ext x) fun _ _ h=>h.elim,w.pm.ext x⟩
theorem PW.put (w:PW B own G ah G1 m s) (hb:B b∨G.nx≤b) (h10:b<G1.nx→ah b≠10) (o:bK):PW B own G ah (G1.put b o) m s:=⟨w.bH.put hb o,w.pm.put h10 o⟩
theorem PW.xD (w:PW B own G ah G1 m s) (hB:B b) (hb:b<G.nx) (h10:own b≠10) (o:bK):PW B own G ah (G1.put b o) m s:=w.put (.inl hB) (fun _=>by rw [w.bH.same hb]; exact h10) o
theorem PW.trans (w:PW B own G ah G1 m s) (k:PW B' ah G1 aX G2 m s') (hs:∀ x,x<G.nx→B' x→B x):PW B own G aX G2 m s':=⟨w.bH.trans k.bH hs,k.pm⟩
theorem PW.mono (w:PW B own G ah G1 m s) (hs:∀ x,x<G.nx→B x→B' x):PW B' own G ah G1 m s:=⟨w.bH.mono hs,w.pm⟩
theorem PW.keep (w:PW B own G ah G1 m s) {g:Nat} (hg:g<G.nx) (ht:own g≠10) (hB:¬ B g):G1.obj g=G.obj g:=w.bH.keep hg ht hB
theorem E9 (h:PM own G m s) {s1:MS} (q:bC (Tag own G 10) G G1) (k:fQ (Grow (Tag own G 10) G G1) G1 m s1):PW no own G (grown own G 10) G1 m s1 :=
 ⟨⟨dk,q.mono fun x hx=>.inl hx.2⟩,(zN m s1).step q.nx k⟩
theorem PM.load (ae:FuncId→Bool) (h:PM own G m s) (a:Int):∃ ah G1,(E ae).cl 85 [P0 m,.int .i64 a] G=some (.int .u64 (s.load a).new,G1)∧PW no own G ah G1 m (s.load a):=by
 obtain ⟨bb,rest,hm⟩:=h
 obtain ⟨⟨x,G1⟩,e,rfl,q2,q3⟩:=aa4 ae hm a
 exact ⟨_,G1,e,E9 ⟨bb,rest,hm⟩ q2 q3⟩
theorem PM.store (ae:FuncId→Bool) (h:PM own G m s) (a v:Int):∃ ah G1,(E ae).cl 44 [P0 m,.int .i64 a,.int .u64 v] G=some (.tuple #[],G1)∧PW no own G ah G1 m (s.store a v):=by
 obtain ⟨bb,rest,hm⟩:=h
 obtain ⟨⟨x,G1⟩,e,rfl,q2,q3⟩:=aa5 ae hm a v
 exact ⟨_,G1,e,E9 ⟨bb,rest,hm⟩ q2 q3⟩
theorem PM.bM (ae:FuncId→Bool) (h:PM own G m s) (a v w:Int):∃ ah G1,(E ae).cl 53 [P0 m,.int .i64 a,.int .u64 v,.int .u64 w] G=some (.bool (s.bM a v w).held,G1)∧PW no own G ah G1 m (s.bM a v w):=by
 obtain ⟨bb,rest,hm⟩:=h
 obtain ⟨⟨x,G1⟩,e,rfl,q2,q3⟩:=aa6 ae hm a v w
 exact ⟨_,G1,e,E9 ⟨bb,rest,hm⟩ q2 q3⟩
end
section
variable {A:Nat→Prop} {m r bb wb:Nat} {rest:List Int} {own:Nat→Nat} {G:GS} {s:MS}
theorem abv (ae:FuncId→Bool) (h:iP A G m bb rest s) (a v:Int):Wp ((E ae).cl 93 [P0 m,.int .i64 a,.int .u64 v] G) fun r=>r.1= .int .u64 (s.add a v).new∧bC A G r.2∧fQ (Grow A G r.2) r.2 m (s.add a v):=by
 refine Wp.ref (f93 (aq Q ae) _ _ _ G) ?_
 have hc:=E3 ae h a
 obtain ⟨G1,ak⟩:∃ G1,G1=((G.push ⟨[.pointer none,.int .u64 0,.int .u64 0],1,false,1⟩).put G.nx ⟨[fR bb s a,.int .u64 v,.int .u64 0],1,false,1⟩):=⟨_,rfl⟩
 have x1:Ext G G1:=by rw [ak]; exact ((Ext.refl G).push _).put (Nat.le_refl _) _
 have o1:G1.obj G.nx=some ⟨[fR bb s a,.int .u64 v,.int .u64 0],1,false,1⟩:=by rw [ak]; simp
 obtain ⟨⟨v',G'⟩,e,q1,q2,q3⟩:=E4 ae (h.ext x1) 4 a 113 [.agg ⟨[fR bb s a,.int .u64 v,.int .u64 0]⟩] (xA v) fun G1 w hb h1 h2 h3=>by
  have iy:¬ bb=G1.nx:=by omega
  rw [E6 h1 h2]
  exact ⟨_,f113 (aq Q ae) _ G1 _ (by simp [-xy,s113,Eu,iy,h3,xA]; rfl),((Ext.refl G1).push _).room _⟩
 simp only at q1 q2 q3
 have kV:=E5 bb s a
 generalize fR bb s a=cv at *
 have fE:=zj kV
 simp [s93,hc,fE,kV,← ak,o1,e,q1]
 exact ⟨rfl,fQ.pre h.un x1 q2 q3⟩
theorem PM.add (ae:FuncId→Bool) (h:PM own G m s) (a v:Int):∃ ah G1,(E ae).cl 93 [P0 m,.int .i64 a,.int .u64 v] G=some (.int .u64 (s.add a v).new,G1)∧PW no own G ah G1 m (s.add a v):=by
 obtain ⟨bb,rest,hm⟩:=h
 obtain ⟨⟨x,G1⟩,e,rfl,q2,q3⟩:=abv ae hm a v
 exact ⟨_,G1,e,E9 ⟨bb,rest,hm⟩ q2 q3⟩
end
structure Ops (X:Type) where
 e:ct X
 ok:(Nat→Nat)→GS→Nat→X→Prop
 to:∀ {own own':Nat→Nat} {G G':GS} {i:Nat} {x:X},ok own G i x→G.nx≤G'.nx→(∀ g,g<G.nx→own g=i→G'.obj g=G.obj g)→bf own own' G→ok own' G' i x
section
variable {X:Type} {O:Ops X} {n m r b cb t i:Nat} {B:Nat→Prop} {own own':Nat→Nat} {G G' G1:GS} {s s':MS} {L:List X} {ts:List Nat} {x y:X}
theorem PM.g8 (h:PM own G m s) (q:aE ts own G G') (h1:10∉ts) (a:bf own own' G):PM own' G' m s:=(zN m s).tag h q h1 a
end
end Go.Proofs.YtkhlabammcghbaaGreat.Lift
