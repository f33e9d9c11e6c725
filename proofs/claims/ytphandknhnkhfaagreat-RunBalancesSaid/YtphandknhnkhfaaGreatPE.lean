import Derived.Test.YtphandknhnkhfaaGreatPD
import Derived.Test.YtphandknhnkhfaaGreatPB
import Derived.Test.YtphandknhnkhfaaGreatEC
set_option linter.unusedVariables false
set_option linter.unusedSimpArgs false
set_option maxRecDepth 20000
namespace Go.Proofs.YtphandknhnkhfaaGreat.Lift
open Go Go.Proofs.YtphandknhnkhfaaGreat.Gh Go.Proofs
section
variable {own own' ah aG:Nat→Nat} {tag tg m b fb tb:Nat} {t:TW} {rp:Option Addr} {G G' G1 G2:GS} {s s':MS} {x y:ak} {ln vD l:Int}
theorem tW.ob (h:tW own tag tg t G b x ln):At own tag G b∧∃ fp rp:Option Addr,G.obj b=some (mJ t x.fm x.ref x.key x.i x.hi ln x.level x.w fp rp x.by_):=by
 rcases h with ⟨_,_,fb,tb,rp,h⟩ | ⟨_,hb,fp,rp,h,_⟩
 ·exact ⟨h.hb,_,_,h.ob⟩
 ·exact ⟨hb,_,_,h⟩
theorem tW.fin (h:tW own tag tg t G b y ln) (az:tag≠tg):At own tag G b∧∃ fp rp:Option Addr,G.obj b=some (mJ t y.fm y.ref y.key y.i y.hi ln y.level y.w fp rp y.by_)∧nt own tag tg t (G.put b (mJ t y.fm y.ref y.key y.i y.hi y.line y.level y.w fp rp y.by_)) b y:=by
 rcases h with ⟨e1,e2,fb,tb,rp,h⟩ | ⟨e,hb,fp,rp,h,hr⟩
 ·exact ⟨h.hb,some ⟨fb,0,none⟩,rp,h.ob,.inl ⟨e1,e2,fb,tb,rp,h.set az rfl y.line rp⟩⟩
 ·refine ⟨hb,fp,rp,h,.inr ⟨e,hb.bC _ _,fp,rp,by simp,fun e=>?_⟩⟩
  obtain ⟨rb,q1,q2,q3⟩:=hr e
  refine ⟨rb,q1,q2.bC _ _,q3.to q2 (Nat.le_refl _) (fun g _ rH=>?_) (bW.refl _ _)⟩
  rw [jy _ _ (iN hb.tag rH az)]
abbrev xo:List Value:=[.nilFunc,.func (.func 310) #[] #[],.func (.func 311) #[] #[],.func (.func 312) #[] #[],.func (.func 313) #[] #[],.func (.func 314) #[] #[],.func (.func 315) #[] #[],.func (.func 316) #[] #[],.func (.func 317) #[] #[],.func (.func 318) #[] #[],.func (.func 319) #[] #[],.func (.func 320) #[] #[],.func (.func 321) #[] #[]]
abbrev zo:List Value:=[.nilFunc,.nilFunc,.nilFunc,.nilFunc,.nilFunc,.nilFunc,.nilFunc,.nilFunc,.nilFunc,.nilFunc,.nilFunc,.nilFunc,.nilFunc]
theorem abh (ae:FuncId→Bool) (kU:ae 309=false) (G:GS):∃ G',(E ae).cl 309 [] G=some (.agg ⟨xo⟩,G')∧Ext G G':=by
 have hz:z420=zo:=rfl
 refine ⟨(G.push ⟨zo,1,false,1⟩).put G.nx ⟨xo,1,false,1⟩,f309 (ai Q ae) kU G _ ?_,((Ext.refl G).push _).put (Nat.le_refl _) _⟩
 simp [s309,hz,bQ,bO,eC]
def kV (l:Int):FuncId:=if l=1 then 310 else if l=2 then 311 else if l=3 then 312 else if l=4 then 313 else if l=5 then 314 else if l=6 then 315 else if l=7 then 316 else if l=8 then 317 else if l=9 then 318 else if l=10 then 319 else if l=11 then 320 else 321
theorem abi (ae:FuncId→Bool) (bD:ae 187=false) (hs:t.sound) (cR:t.fA) (h:PM own G m s) (hm:s.ok) (hk:x.ok t) (ht:tag≠10) (hg:tg≠10) (az:tag≠tg) (hx:nt own tag tg t G b x) (e0:x.line≠0):gK own tag tg m t G b s x (kV x.line) ae x.line:=by
 unfold nt at hx
 rcases hx with ⟨e12,_,fb,tb,rp,hx⟩ | ⟨e,hx⟩
 ·rcases hk.line with e | e | e | e | e | e | e | e | e | e | e | e | e
  ·exact absurd e e0
  ·have:=aaY ae bD hs h hm hk ht hg az hx e
   rw [show kV x.line=310 by rw [e]; rfl]; exact this
  ·have:=aa3 ae hs h hk ht hg az hx e
   rw [show kV x.line=311 by rw [e]; rfl]; exact this
  ·have:=aa4 ae hs h hk ht hg az hx e
   rw [show kV x.line=312 by rw [e]; rfl]; exact this
  ·have:=aa6 ae hs h hm hk ht hg az hx e
   rw [show kV x.line=313 by rw [e]; rfl]; exact this
  ·have:=aa7 ae hs h hk ht hg az hx e
   rw [show kV x.line=314 by rw [e]; rfl]; exact this
  ·have:=aa5 ae hs h hk ht hg az hx e
   rw [show kV x.line=315 by rw [e]; rfl]; exact this
  ·have:=aaZ ae bD hs h hm hk ht hg az hx e
   rw [show kV x.line=316 by rw [e]; rfl]; exact this
  ·have:=aa8 ae hs h hm hk ht hg az hx e
   rw [show kV x.line=317 by rw [e]; rfl]; exact this
  ·have:=aa9 ae hs h hm hk ht hg az hx e
   rw [show kV x.line=318 by rw [e]; rfl]; exact this
  ·have:=aa0 ae bD hs h hm hk ht hg az hx e
   rw [show kV x.line=319 by rw [e]; rfl]; exact this
  ·have:=abb ae hs h hm hk ht hg az hx e
   rw [show kV x.line=320 by rw [e]; rfl]; exact this
  ·exact absurd e e12
 ·rcases e with e | e
  ·have:=abe ae bD hs cR h hm hk ht hg az hx e
   rw [show kV x.line=321 by rw [e]; rfl]; exact this
  ·exact absurd e e0
theorem abj (ae:FuncId→Bool) (bD:ae 187=false) (kU:ae 309=false) (hs:t.sound) (cR:t.fA) (h:PM own G m s) (hm:s.ok) (hk:x.ok t) (ht:tag≠10) (hg:tg≠10) (az:tag≠tg) (hx:nt own tag tg t G b x) :
  ∃ ah G1,(E ae).cl 308 [P0 b,P0 m] G=some (.bool (decide ((x.step t s).1.line=0)),G1)∧PW (eK own tag tg) own G ah G1 m (x.step t s).2∧nt ah tag tg t G1 b (x.step t s).1:=by
 obtain ⟨hb,fp,rp,ob⟩:=hx.ob
 by_cases e0:x.line=0
 ·have ax:x.step t s=(x,s):=by unfold ak.step; simp [e0]
  rw [ax]
  refine ⟨own,G,f308 (ai Q ae) _ _ G _ ?_,PW.refl h,hx⟩
  simp [s308,ob,e0]
 ·obtain ⟨G1,e1,x1⟩:=abh ae kU G
  obtain ⟨G2,aD⟩:∃ G2,G2=(G1.push ⟨zo,1,false,1⟩).put G1.nx ⟨xo,1,false,1⟩:=⟨_,rfl⟩
  have y2:Ext G G2:=by rw [aD]; exact (x1.push _).put x1.nx _
  have o2:G2.obj G1.nx=some ⟨xo,1,false,1⟩:=by rw [aD]; simp
  have fJ:nt (grown own G tg) tag tg t G2 b x:=hx.to y2.nx (fun g hg _=>y2.obj g hg) db
  have w2:PW (eK own tag tg) own G (grown own G tg) G2 m s:=(PW.refl h).de y2 tg
  have eA:=(y2.obj b hb.lt).trans ob
  obtain ⟨bB,G3,e3,w3,q3⟩:=abi ae bD hs cR w2.pm hm hk ht hg az fJ e0
  obtain ⟨gy,fp3,rp3,g9,fin⟩:=q3.fin az
  have hz:z420=zo:=rfl
  obtain ⟨n,hn,ZU⟩:∃ n:Nat,x.line=n∧1≤n∧n≤12:=⟨x.line.toNat,by have:=hk.line; omega,by have:=hk.line; omega⟩
  have jk:xo[n]? =some (.func (.func (kV x.line)) #[] #[]):=by
   rw [hn]
   rcases (show n=1∨n=2∨n=3∨n=4∨n=5∨n=6∨n=7∨n=8∨n=9∨n=10∨n=11∨n=12 by omega) with rfl | rfl | rfl | rfl | rfl | rfl | rfl | rfl | rfl | rfl | rfl | rfl<;>rfl
  have abk:(n:Int)<13:=by omega
  have iU:¬ ((n:Int)=0):=by omega
  have zf:∀ G,dO (E ae) (.func (.func (kV x.line)) #[] #[]) [P0 b,P0 m] G=(E ae).cl (kV x.line) [P0 b,P0 m] G:=fun G=>by rw [jq]; rfl
  have ldc:G2.cell G1.nx n=some (.func (.func (kV x.line)) #[] #[]):=by rw [XS o2 (by decide)]; exact jk
  refine ⟨bB,G3.put b (mJ t (x.step t s).1.fm (x.step t s).1.ref (x.step t s).1.key (x.step t s).1.i (x.step t s).1.hi (x.step t s).1.line (x.step t s).1.level (x.step t s).1.w fp3 rp3 (x.step t s).1.by_),f308 (ai Q ae) _ _ G _ ?_,(w2.pK w3).jA gy.tag ht _,fin⟩
  ·have Rh:jY 13 G1.nx 0 (.agg ⟨xo⟩) (G1.push ⟨zo,1,false,1⟩)=some G2:=by
    rw [aD]
    exact XR (cs:=zo) (e:=1) (op:=false) (by simp) rfl rfl rfl
   rw [hn] at ldc e3 ob eA zf
   rw [hn] at jk
   clear aD
   obtain ⟨LL,EB⟩:∃ LL,LL=xo:=⟨_,rfl⟩
   rw [← EB] at jk o2 e1 Rh
   clear EB
   have abl:¬ n=0:=by omega
   have abm:=(zf G2).trans e3
   rw [hn] at g9
   simp [-BI,-jq,s308,ob,abl,e1,hz,Rh,eA,abk,o2,jk,abm]
   simp [g9]
end
section
variable {own:Nat→Nat} {G:GS} {m:Nat} {s:MS}
theorem abn (ae:FuncId→Bool) {t:TW} (h:PM own G m s) {xb ib pb wb:Nat} {i p w:Int} (hx:G.obj xb=some ⟨t.cells,1,false,1⟩) (hi:G.obj ib=some ⟨[.int .i64 i],1,false,1⟩) (hp:G.obj pb=some ⟨[.int .i64 p],1,false,1⟩) (hw:G.obj wb=some ⟨[.int .u64 w],1,false,1⟩) (hl:wb<G.nx) :
  ∃ ah G1,dO (E ae) (.func (.func 201) #[] #[P0 xb,P0 ib,P0 pb,P0 wb]) [P0 m] G=some (.tuple #[],G1)∧PW no own G ah G1 m (s.store (aB t i p) w):=by
 obtain ⟨G3,e3,x3⟩:=xj ae t i p (G.room 7)
 have x03:Ext G G3:=((Ext.refl G).room 7).trans x3
 obtain ⟨ah,G6,e6,w6⟩:=PM.store ae (h.ext x03) (aB t i p) w
 have ow:=(x03.obj wb hl).trans hw
 have ld:np 13 0 (some ⟨t.cells,1,false,1⟩)=some t.v:=BH rfl (by decide)
 have hs:same (.int .u64 w) (.int .u64 w)=true:=by simp [same,cm]
 have hc:Wp (dO (E ae) (.func (.func 201) #[] #[P0 xb,P0 ib,P0 pb,P0 wb]) [P0 m] G) fun r=>r=(.tuple #[],G6):=by
  rw [jq]
  refine Wp.ref (f201 (ai Q ae) _ _ _ _ _ G) ?_
  simp [s201,hx,hi,hp,hw,ld,e3,ow,hs,br,e6]
 obtain ⟨r,e,rfl⟩:=hc
 exact ⟨_,G6,e,(PW.refl h).ext x03 |>.trans w6 fun _ _ h=>h⟩
theorem abo (ae:FuncId→Bool) (xb ib:Nat) (p w:Int) (G:GS):dO (E ae) (.func (.func 200) #[] #[P0 xb,P0 ib]) [.int .i64 p,.int .u64 w] G=some (.func (.func 201) #[] #[P0 xb,P0 ib,P0 G.nx,P0 (G.nx+1)],(G.push ⟨[.int .i64 p],1,false,1⟩).push ⟨[.int .u64 w],1,false,1⟩):=by
 have hc:Wp (dO (E ae) (.func (.func 200) #[] #[P0 xb,P0 ib]) [.int .i64 p,.int .u64 w] G) fun r=>r=(.func (.func 201) #[] #[P0 xb,P0 ib,P0 G.nx,P0 (G.nx+1)],(G.push ⟨[.int .i64 p],1,false,1⟩).push ⟨[.int .u64 w],1,false,1⟩):=by
  rw [jq]
  refine Wp.ref (f200 (ai Q ae) _ _ _ _ G) ?_
  simp [s200]
 obtain ⟨r,e,rfl⟩:=hc
 exact e
end
theorem abp (ae:FuncId→Bool) (bD:ae 187=false) {t:TW} (hs:t.sound) {i g:Int} (h0:0≤i∧i<t.size) (h1:0≤g∧g<4294967296) (G:GS):∃ G',(E ae).cl 129 [t.v,.int .u64 (aU i g)] G=some (.int .i64 i,G')∧Ext G G':=by
 have cQ:t.size≤128:=hs.2.2.2.1
 have hU:U (aU i g):=by unfold aU U; omega
 obtain ⟨G1,aj⟩:∃ G1,G1=G.push ⟨t.cells,1,false,1⟩:=⟨_,rfl⟩
 have x1:Ext G G1:=by rw [aj]; exact (Ext.refl G).push _
 have n1:G1.nx=G.nx+1:=by rw [aj]; rfl
 have o1:G1.obj G.nx=some ⟨t.cells,1,false,1⟩:=by rw [aj]; simp
 obtain ⟨G3,e3,x3⟩:=BK ae bD hU G1
 have v1:aU i g % 65536 - 1=i:=by unfold aU; omega
 rw [v1] at e3
 have o3:=(x3.obj G.nx (by omega)).trans o1
 have az:¬ G.nx=G3.nx:=by have:=x3.nx; omega
 have w:Wp (s129 true (bA Q ae) t.v (.int .u64 (aU i g)) G) fun r=>r.1= .int .i64 i∧Ext G r.2:=by
  have a2:¬ t.size≤i:=by omega
  simp [s129,← aj,e3,o3,az,lF,zY,zZ,a2]
  exact ((x1.trans x3).push _).put (by have:=(x1.trans x3).nx; omega) _
 obtain ⟨⟨v,G'⟩,e1,rfl,e4⟩:=w
 exact ⟨G',f129 (ai Q ae) _ _ G _ e1,e4⟩
def qO (xb ib n k:Nat):Value:=.func (.func 201) #[] #[P0 xb,P0 ib,P0 (n+2*k),P0 (n+2*k+1)]
def lN (ref:Int) (xb ib n:Nat) (d:Int):aR:=⟨[.bool true,.int .u64 ref,qO xb ib n 0,qO xb ib n 1,qO xb ib n 2,qO xb ib n 3,.int .i64 d,.int .i64 0],1,false,1⟩
structure sd (t:TW) (G:GS) (b:Nat) (i ref:Int) (ws:Nat→Int) (d:Int) (xb ib n:Nat):Prop where
 ob:G.obj b=some (lN ref xb ib n d)
 ox:G.obj xb=some ⟨t.cells,1,false,1⟩
 oi:G.obj ib=some ⟨[.int .i64 i],1,false,1⟩
 op:∀ k,k<4→G.obj (n+2*k)=some ⟨[.int .i64 (k:Int)],1,false,1⟩∧G.obj (n+2*k+1)=some ⟨[.int .u64 (ws k)],1,false,1⟩
 lt:b<G.nx∧xb<G.nx∧ib<G.nx∧n+8≤G.nx
section
variable {own own' ah aG:Nat→Nat} {B:Nat→Prop} {tag tg m b fb tb:Nat} {t:TW} {rp:Option Addr} {G G' G1 G2:GS} {s s':MS} {x y:ak} {ln vD l i g hi key:Int}
theorem PW.zi (w:PW B own G ah G1 m s) (x:Ext G1 G2) (a:bW ah aG G1):PW B own G aG G2 m s :=
 ⟨w.aO.trans (B':=no) (dx.zi x a) fun _ _ h=>h.elim,w.pm.to (t:=11) (B:=no) (dx.zi x a) (by decide) fun _ _ h=>h.elim⟩
theorem abq (ae:FuncId→Bool) (eu:ae 211=false) (hs:t.sound) (ko:0≤aB t 0 0) (h0:0≤i∧i<t.size) (h1:0≤g∧g<4294967296) (h3:1≤hi∧hi≤t.ay) (G:GS) :
  ∃ G',(E ae).cl 202 [t.v,.int .u64 (aU i g),.int .i64 hi] G=some (.int .i64 0,G')∧Ext G G':=by
 have cQ:t.size≤128:=hs.2.2.2.1
 obtain ⟨G1,aj⟩:∃ G1,G1=G.push ⟨t.cells,1,false,1⟩:=⟨_,rfl⟩
 have x1:Ext G G1:=by rw [aj]; exact (Ext.refl G).push _
 have n1:G1.nx=G.nx+1:=by rw [aj]; rfl
 have o1:G1.obj G.nx=some ⟨t.cells,1,false,1⟩:=by rw [aj]; simp
 obtain ⟨G4,e4,x4⟩:=xj ae t 0 0 G1
 obtain ⟨G7,e7,x7⟩:=Jx ae eu (i:=i) (g:=g) (by omega) h1 G4
 have x17:=(x1.trans x4).trans x7
 have o7:=((x4.trans x7).obj G.nx (by omega)).trans o1
 have az:¬ G.nx=G7.nx:=by have:=(x4.trans x7).nx; omega
 have w:Wp (s202 true (bA Q ae) t.v (.int .u64 (aU i g)) (.int .i64 hi) G) fun r=>r.1= .int .i64 0∧Ext G r.2:=by
  have a0:¬ aB t 0 0<0:=by omega
  have a1:¬ i<0:=by omega
  have a2:¬ t.size≤i:=by omega
  have a5:¬ hi<1:=by omega
  have a6:¬ t.ay<hi:=by omega
  have ld:np 13 0 (some ⟨t.cells,1,false,1⟩)=some t.v:=BH rfl (by decide)
  simp [s202,← aj,o1,ld,e4,e7,o7,az,lF,zY,zZ,a0,a1,a2,a5,a6]
  exact (x17.push _).put (by have:=x17.nx; omega) _
 obtain ⟨⟨v,G'⟩,e1,rfl,e3⟩:=w
 exact ⟨G',f202 (ai Q ae) _ _ _ G _ e1,e3⟩
theorem abr (ae:FuncId→Bool) (eu:ae 211=false) (hs:t.sound) (ko:0≤aB t 0 0) (h0:0≤i∧i<t.size) (h1:0≤g∧g<4294967296) (h3:1≤hi∧hi≤t.ay) (G:GS) :
  ∃ b G',(E ae).cl 182 [t.v,.int .u64 (aU i g),.int .u64 key,.int .i64 hi] G=some (P0 b,G')∧Ext G G' ∧(G.nx≤b∧b<G'.nx) ∧
   ∀ own tag tg,own b=tag→(∀ q,G.nx≤q→q≠b→own q=tg)→nt own tag tg t G' b (ak.new t (aU i g) key i hi):=by
 have cQ:t.size≤128:=hs.2.2.2.1
 obtain ⟨G1,aj⟩:∃ G1,G1=(G.push ⟨t.cells,1,false,1⟩).room 11:=⟨_,rfl⟩
 have x1:Ext G G1:=by rw [aj]; exact ((Ext.refl G).push _).room 11
 have n1:G1.nx=G.nx+12:=by rw [aj]; simp
 have o1:G1.obj G.nx=some ⟨t.cells,1,false,1⟩:=by rw [aj]; simp
 obtain ⟨G4,e4,x4⟩:=abq ae eu hs ko h0 h1 h3 G1
 have o4:=(x4.obj G.nx (by omega)).trans o1
 have n4:=x4.nx
 obtain ⟨b,hb⟩:∃ b,b=G.nx+1+9:=⟨_,rfl⟩
 obtain ⟨G8,lO⟩:∃ G8,G8=((G4.aI b).push (mJ t false (aU i g) key 0 hi 0 0 0 none none 0)).back G4:=⟨_,rfl⟩
 have x8:Ext G G8:=by rw [lO]; exact Ext.drawn (x1.trans x4) (by omega) (by omega) _
 have o8:G8.obj b=some (mJ t false (aU i g) key 0 hi 0 0 0 none none 0):=by rw [lO]; simp
 have n8:G8.nx=G4.nx:=by rw [lO]; rfl
 obtain ⟨G14,e14,x14⟩:=Jx ae eu (i:=i) (g:=g) (by omega) h1 G8
 have n14:=x14.nx
 have o14:=(x14.obj b (by omega)).trans o8
 obtain ⟨G24,EC⟩:∃ G24,G24=(((G14.push ⟨[.int .i64 0,.int .i64 0,.bool false],1,false,1⟩).put G14.nx ⟨[.int .i64 i,.int .i64 g,.bool false],1,false,1⟩)).put b (mJ t false (aU i g) key i hi 0 0 0 none none 0):=⟨_,rfl⟩
 have iu:b≠G14.nx:=by omega
 have o24:G24.obj b=some (mJ t false (aU i g) key i hi 0 0 0 none none 0):=by rw [EC]; simp
 have n24:G24.nx=G14.nx+1:=by rw [EC]; rfl
 have x24:Ext G G24:=by rw [EC]; exact (((x8.trans x14).push _).put (by omega) _).put (by omega) _
 obtain ⟨kT,iO,G25,e25,x25,q1,q2,q3,F1⟩:=QY ae hs key (G24.room 13)
 have y25:=((Ext.refl G24).room 13).trans x25
 have p1:G24.nx≤kT:=by have:=q1.1; simp at this; omega
 have p2:G24.nx≤iO:=by have:=q2.1; simp at this; omega
 have o25:=(y25.obj b (by omega)).trans o24
 have n25:=y25.nx
 obtain ⟨G26,tY⟩:∃ G26,G26=G25.put b (mJ t false (aU i g) key i hi 0 0 0 (some ⟨kT,0,none⟩) none 0):=⟨_,rfl⟩
 have e26:(E ae).cl 204 [P0 b,.int .i64 1] G24=some (.int .i64 1,G26):=by
  have ld:eI 13 b 0 (G24.room 13)=some t.v:=by rw [mC (n:=12) (o:=0) (by simpa using o24) (by decide) (by simp)]; rfl
  refine f204 (ai Q ae) _ _ G24 _ ?_
  simp [-iw,s204,o24,ld,e25,o25,tY]
 have o26:G26.obj b=some (mJ t false (aU i g) key i hi 0 0 0 (some ⟨kT,0,none⟩) none 0):=by rw [tY]; simp
 have d1:kT≠b:=by omega
 have d2:iO≠b:=by omega
 refine ⟨b,G26.put b (cZ t (ak.new t (aU i g) key i hi) 1 kT none),f182 (ai Q ae) _ _ _ _ G _ ?_,?_,⟨by omega,?_⟩,fun own tag tg a1 a2=>.inl ⟨by simp [ak.new],by simp [ak.new],kT,iO,none,⟨?_,a1⟩,by simp [ak.new],⟨?_,a2 _ (by omega) d1⟩,⟨?_,a2 _ (by omega) d2⟩,q3,?_⟩⟩
 ·have ld:np 13 0 (some ⟨t.cells,1,false,1⟩)=some t.v:=BH rfl (by decide)
  have hz:z354=[.int .i64 0,.int .i64 0,.int .i64 0,.int .i64 0,.int .i64 0,.int .i64 0,.int .i64 0,.int .i64 0,.int .i64 0,.int .i64 0,.int .i64 0,.int .i64 0,.int .i64 0,.bool false,.bool false,.int .u64 0,.int .u64 0,.int .i64 0,.int .i64 0,.int .i64 0,.int .i64 0,.int .u64 0,.pointer none,.pointer none,.int .u64 0,.int .i64 0]:=rfl
  have sm:=Q9 t
  simp [s182,← aj,o1,ld,e4,o4,hz,bQ,bO,eC,br,sm]
  simp [← hb,← lO,o8,e14,o14,lF,zY,zZ,iu,← EC,e26,o26]
  rfl
 ·rw [tY]; exact ((x24.trans y25).put (by omega) _).put (by omega) _
 ·rw [tY]; simp; omega
 ·rw [tY]; simp; omega
 ·rw [tY]; simp; exact q1.2
 ·rw [tY]; simp; exact q2.2
 ·exact F1.kept (by rw [tY,jy _ _ d1,jy _ _ d1]) (by rw [tY,jy _ _ d2,jy _ _ d2])
theorem abt (ae:FuncId→Bool) (hx:nt own tag tg t G b x):(E ae).cl 183 [P0 b] G=some (.int .u64 x.by_,G):=by
 obtain ⟨hb,fp,rp,ob⟩:=hx.ob
 refine f183 (ai Q ae) _ G _ ?_
 simp [s183,ob]
end
abbrev eR (t:TW) (ln a i w k j by_ er:Int):aR:=⟨[.int .i64 t.nodes,.int .i64 t.cn,.int .i64 t.ay,.int .i64 t.top,.int .i64 t.links,.int .i64 t.size,.int .i64 t.u6,.int .i64 t.u7,.int .i64 t.u8,.int .i64 t.u9,.int .i64 t.u10,.int .i64 t.u11,.int .i64 t.u12,.int .i64 ln,.int .u64 a,.int .i64 i,.int .u64 w,.int .u64 k,.int .i64 j,.int .u64 by_,.bool true,.int .i64 er],1,false,1⟩
def ff (l:Int):Int:=if l=9 then 4 else if l=91 then 5 else l
abbrev qP (t:TW) (x:aE):aR:=eR t (ff x.line) x.a x.i x.w x.key x.job x.by_ x.err
section
variable {own own':Nat→Nat} {tag m r b:Nat} {t:TW} {G G':GS} {s:MS} {ln a i w k j by_ er:Int} {x:aE}
theorem Jy (ae:FuncId→Bool) (h:PM own G m s) (ht:tag≠10) (hb:At own tag G b) (ho:G.obj b=some (eR t ln a i w k j by_ er)) (part:Int) :
  ∃ ah G1,(E ae).cl 270 [P0 b,P0 m,.int .i64 part] G=some (.int .u64 (s.load (aB t i part)).new,G1)∧PW (Own own tag) own G ah G1 m (s.load (aB t i part))∧At ah tag G1 b∧G1.obj b=some (eR t ln a i w k j a er):=by
 obtain ⟨G1,aj⟩:∃ G1,G1=G.put b (eR t ln a i w k j a er):=⟨_,rfl⟩
 have w1:PW (Own own tag) own G own G1 m s:=by rw [aj]; exact (PW.refl h).bf hb.tag ht _
 have bM:At own tag G1 b:=by rw [aj]; exact hb.bC _ _
 have o1:G1.obj b=some (eR t ln a i w k j a er):=by rw [aj]; simp
 obtain ⟨G2,e2,x2⟩:=xj ae t i part (G1.room 13)
 have y2:=((Ext.refl G1).room 13).trans x2
 have w2:=w1.de y2 tag
 have dy:=bM.gO y2 tag
 have o2:=(y2.obj b bM.lt).trans o1
 generalize grown own G1 tag=aG at *
 obtain ⟨bB,G3,e3,w3⟩:=w2.pm.load ae (aB t i part)
 have o3:=(dy.keep ht w3).trans o2
 refine ⟨bB,G3,f270 (ai Q ae) _ _ _ G _ ?_,w2.tr w3.any,dy.to w3.nx w3.aO.cd,o3⟩
 simp [s270,ho,← aj,o1,e2,e3]
theorem abu (ae:FuncId→Bool) (h:PM own G m s) (hs:s.ok) (ht:tag≠10) (hb:At own tag G b) (ho:G.obj b=some (eR t ln a i w k j by_ er)) :
  ∃ ah G1,(E ae).cl 271 [P0 b,P0 m] G=some (.tuple #[],G1)∧PW (Own own tag) own G ah G1 m (s.load (aB t i 1))∧At ah tag G1 b∧G1.obj b=some (eR t ln a i w k ((s.load (aB t i 1)).new % 65536) a er):=by
 obtain ⟨ah,G1,e1,w1,bM,o1⟩:=Jy ae h ht hb ho 1
 have hu:=(hs.load (aB t i 1)).2
 generalize s.load (aB t i 1)=s' at *
 generalize s'.new=v at *
 have h1:=hu.1
 have e2:=Qh hu
 have e3:IntKind.wrap .i64 (v % 65536)=v % 65536:=wrap64 (by omega) (by omega)
 refine ⟨ah,G1.put b (eR t ln a i w k (v % 65536) a er),f271 (ai Q ae) _ _ G _ ?_,w1.bf bM.tag ht _,bM.bC _ _,by simp⟩
 simp [s271,e1,e2,e3,o1]
theorem Jz (ae:FuncId→Bool) (bD:ae 187=false) (hs:t.sound) (h:PM own G m s) (hm:s.ok) (hw:U x.w) (h3:x.line=3→bp≤x.w) (ht:tag≠10) (hb:At own tag G b) (ho:G.obj b=some (qP t x)) (hl:x.line=1∨x.line=2∨x.line=3) :
  ∃ ah G1,(E ae).cl 269 [P0 b,P0 m] G=some (.tuple #[],G1)∧PW (Own own tag) own G ah G1 m (x.step true t s).2∧At ah tag G1 b∧G1.obj b=some (qP t (x.step true t s).1):=by
 rcases hl with e | e | e
 all_goals unfold aE.step; simp only [e]
 ·simp [aE.l1]
  have hn:=(hm.load (aX t (-1) 0)).2
  obtain ⟨G1,aj⟩:∃ G1,G1=G.put b (eR t 1 x.a x.i x.w x.key x.job 0 x.err):=⟨_,rfl⟩
  have w1:PW (Own own tag) own G own G1 m s:=by rw [aj]; exact (PW.refl h).bf hb.tag ht _
  have bM:At own tag G1 b:=by rw [aj]; exact hb.bC _ _
  have o1:G1.obj b=some (eR t 1 x.a x.i x.w x.key x.job 0 x.err):=by rw [aj]; simp
  obtain ⟨G2,e2,x2⟩:=rZ ae t (-1) 0 G1
  have w2:=w1.de x2 tag
  have dy:=bM.gO x2 tag
  have o2:=(x2.obj b bM.lt).trans o1
  generalize grown own G1 tag=aG at *
  obtain ⟨bB,G3,e3,w3⟩:=w2.pm.load ae (aX t (-1) 0)
  generalize s.load (aX t (-1) 0)=s' at *
  generalize s'.new=v at *
  have fq:=w2.tr w3.any
  have gy:=dy.to w3.nx w3.aO.cd
  have o3:=(dy.keep ht w3).trans o2
  obtain ⟨G4,bR⟩:∃ G4,G4=G3.put b (eR t 1 v x.i x.w x.key x.job 0 x.err):=⟨_,rfl⟩
  have w4:PW (Own own tag) own G bB G4 m s':=by rw [bR]; exact fq.bf gy.tag ht _
  have iy:At bB tag G4 b:=by rw [bR]; exact gy.bC _ _
  have o4:G4.obj b=some (eR t 1 v x.i x.w x.key x.job 0 x.err):=by rw [bR]; simp
  obtain ⟨G5,e5,x5⟩:=BK ae bD hn G4
  obtain ⟨G6,eg⟩:∃ G6,G6=(G5.push ⟨z281,1,false,1⟩).put G5.nx ⟨[.int .i64 (v % 65536 - 1),.int .i64 (v / 65536)],1,false,1⟩:=⟨_,rfl⟩
  have x6:Ext G4 G6:=by rw [eg]; exact (x5.push _).put x5.nx _
  have p6:G6.obj G5.nx=some ⟨[.int .i64 (v % 65536 - 1),.int .i64 (v / 65536)],1,false,1⟩:=by rw [eg]; simp
  have o6:=(x6.obj b iy.lt).trans o4
  have w6:=w4.de x6 tag
  have xp:=iy.gO x6 tag
  generalize grown bB G4 tag=zp at *
  obtain ⟨G7,gL⟩:∃ G7,G7=((G6.put b (eR t 1 v (v % 65536 - 1) x.w x.key x.job 0 x.err)).put b (eR t 2 v (v % 65536 - 1) x.w x.key x.job 0 x.err)).room 20:=⟨_,rfl⟩
  have w7':=(w6.bf xp.tag ht (eR t 1 v (v % 65536 - 1) x.w x.key x.job 0 x.err)).bf xp.tag ht (eR t 2 v (v % 65536 - 1) x.w x.key x.job 0 x.err)
  have abv:=(xp.bC b (eR t 1 v (v % 65536 - 1) x.w x.key x.job 0 x.err)).bC b (eR t 2 v (v % 65536 - 1) x.w x.key x.job 0 x.err)
  have w7:=w7'.de ((Ext.refl _).room 20) tag
  have mK:=abv.gO ((Ext.refl _).room 20) tag
  rw [← gL] at w7 mK
  generalize grown zp _ tag=tX at *
  have o7:G7.obj b=some (eR t 2 v (v % 65536 - 1) x.w x.key x.job 0 x.err):=by rw [gL]; simp
  have iu:¬ b=G5.nx:=by have:=iy.lt; have:=x5.nx; omega
  by_cases c1:v % 65536 - 1<0
  ·rw [if_pos (.inl c1)]
   refine ⟨tX,(G7.put b (eR t 99 v (v % 65536 - 1) x.w x.key x.job 0 x.err)).put b (eR t 99 v (v % 65536 - 1) x.w x.key x.job 0 15),f269 (ai Q ae) _ _ G _ ?_,(w7.bf mK.tag ht _).bf mK.tag ht _,(mK.bC _ _).bC _ _,by simp [ff]⟩
   simp [s269,ho,ff,e,← aj,o1,e2,e3,o3,← bR,o4,e5,bQ,bO,← eg,p6,o6,iu,← gL,o7,c1]
  ·by_cases c2:t.size≤v % 65536 - 1
   ·rw [if_pos (.inr c2)]
    refine ⟨tX,(G7.put b (eR t 99 v (v % 65536 - 1) x.w x.key x.job 0 x.err)).put b (eR t 99 v (v % 65536 - 1) x.w x.key x.job 0 15),f269 (ai Q ae) _ _ G _ ?_,(w7.bf mK.tag ht _).bf mK.tag ht _,(mK.bC _ _).bC _ _,by simp [ff]⟩
    simp [s269,ho,ff,e,← aj,o1,e2,e3,o3,← bR,o4,e5,bQ,bO,← eg,p6,o6,iu,← gL,o7,c1,c2]
   ·rw [if_neg (by omega)]
    refine ⟨tX,G7,f269 (ai Q ae) _ _ G _ ?_,w7,mK,by rw [o7]; rfl⟩
    simp [s269,ho,ff,e,← aj,o1,e2,e3,o3,← bR,o4,e5,bQ,bO,← eg,p6,o6,iu,← gL,o7,c1,c2]
 ·simp [aE.l2]
  have hn:=(hm.load (aB t x.i 4)).2
  obtain ⟨ah,G1,e1,w1,bM,o1⟩:=Jy ae h ht hb ho 4
  generalize s.load (aB t x.i 4)=s' at *
  generalize s'.new=v at *
  obtain ⟨G2,aD⟩:∃ G2,G2=(G1.put b (eR t 2 x.a x.i v x.key x.job x.a x.err)).put b (eR t 4 x.a x.i v x.key x.job x.a x.err):=⟨_,rfl⟩
  have w2:PW (Own own tag) own G ah G2 m s':=by rw [aD]; exact (w1.bf bM.tag ht _).bf bM.tag ht _
  have dy:At ah tag G2 b:=by rw [aD]; exact (bM.bC _ _).bC _ _
  have o2:G2.obj b=some (eR t 4 x.a x.i v x.key x.job x.a x.err):=by rw [aD]; simp
  have e3:=aaS ae hn G2
  by_cases c1:bp≤v
  ·have sf:9223372036854775808≤v:=c1
   rw [if_pos c1]
   refine ⟨ah,G2.put b (eR t 3 x.a x.i v x.key x.job x.a x.err),f269 (ai Q ae) _ _ G _ ?_,w2.bf dy.tag ht _,dy.bC _ _,by simp [ff]⟩
   simp [s269,ho,ff,e,e1,o1,← aD,o2,e3,sf]
  ·have sf:¬ 9223372036854775808≤v:=c1
   rw [if_neg c1]
   refine ⟨ah,G2,f269 (ai Q ae) _ _ G _ ?_,w2,dy,by rw [o2]; rfl⟩
   simp [s269,ho,ff,e,e1,o1,← aD,o2,e3,sf]
 ·simp [aE.l3]
  obtain ⟨G1,aj⟩:∃ G1,G1=G.put b (eR t 3 x.a x.i x.w x.key x.job 0 x.err):=⟨_,rfl⟩
  have w1:PW (Own own tag) own G own G1 m s:=by rw [aj]; exact (PW.refl h).bf hb.tag ht _
  have bM:At own tag G1 b:=by rw [aj]; exact hb.bC _ _
  have o1:G1.obj b=some (eR t 3 x.a x.i x.w x.key x.job 0 x.err):=by rw [aj]; simp
  obtain ⟨G2,e2,x2⟩:=rZ ae t (-1) 0 (G1.room 16)
  have y2:=((Ext.refl G1).room 16).trans x2
  have w2:=w1.de y2 tag
  have dy:=bM.gO y2 tag
  have o2:=(y2.obj b bM.lt).trans o1
  have e3:=aaT ae hw (h3 e) G2
  generalize grown own G1 tag=aG at *
  obtain ⟨eU,G4,e4,w4⟩:=w2.pm.bT ae (aX t (-1) 0) x.a (x.w - bp)
  have w4':=w2.tr w4.any
  have iy:=dy.to w4.nx w4.aO.cd
  have o4:=(dy.keep ht w4).trans o2
  refine ⟨eU,G4.put b (eR t 1 x.a x.i x.w x.key x.job 0 x.err),f269 (ai Q ae) _ _ G _ ?_,w4'.bf iy.tag ht _,iy.bC _ _,by simp [ff]⟩
  simp [s269,ho,ff,e,← aj,o1,e2,o2,e3,e4,o4]
end
section
variable {own own' ah aG:Nat→Nat} {tag tg m r b:Nat} {t:TW} {G G' G1 G2:GS} {s s' s1:MS} {x:aE}
def pO (own:Nat→Nat) (tag:Nat) (t:TW) (G:GS) (b:Nat) (x:aE):Prop:=At own tag G b∧G.obj b=some (qP t x)
theorem pO.to (h:pO own tag t G b x) (hn:G.nx≤G'.nx) (hk:∀ g,g<G.nx→own g=tag→G'.obj g=G.obj g) (a:bW own own' G):pO own' tag t G' b x:=⟨h.1.to hn a,(hk _ h.1.lt h.1.tag).trans h.2⟩
theorem JA {l:Int} (h:fO true l):(ff l=99↔l=99)∧(ff l=4↔l=9)∧(ff l=5↔l=91):=by
 unfold fO at h; unfold ff; split
 ·omega
 ·split
  ·omega
  ·simp at h; omega
theorem abw (ae:FuncId→Bool) (ho:G.obj b=some (qP t x)):(E ae).cl 268 [P0 b] G=some (.bool (decide (ff x.line=99)),G):=f268 (ai Q ae) _ G _ (by simp [s268,ho])
theorem abx (ae:FuncId→Bool) (bD:ae 187=false) (hs:t.sound) (cR:t.fA) (h:PM own G m s) (hm:s.ok) (hx:x.ok true t) (ht:tag≠10) (hp:pO own tag t G b x) :
  ∃ ah G1,(E ae).cl 267 [P0 b,P0 m] G=some (.bool (decide ((x.step true t s).1.line=99)),G1)∧PW (Own own tag) own G ah G1 m (x.step true t s).2∧pO ah tag t G1 b (x.step true t s).1:=by
 have fF:=hx.step hs cR hm
 obtain ⟨hb,ho⟩:=hp
 have k9:=(JA hx.line).1
 have JB:=(JA fF.1.line).1
 have e1:=abw ae ho
 rcases hx.line with e | e | e | e | e | e | ⟨k,-⟩
 ·obtain ⟨ah,G1,e2,w1,b1,o1⟩:=Jz ae bD hs h hm hx.w hx.m3 ht hb ho (.inl e)
  refine ⟨ah,G1,f267 (ai Q ae) _ _ G _ ?_,w1,b1,o1⟩
  simp [s267,ao,e1,e,ff,ho,e2,o1]
  simpa [ff] using JB
 ·obtain ⟨ah,G1,e2,w1,b1,o1⟩:=Jz ae bD hs h hm hx.w hx.m3 ht hb ho (.inr (.inl e))
  refine ⟨ah,G1,f267 (ai Q ae) _ _ G _ ?_,w1,b1,o1⟩
  simp [s267,ao,e1,e,ff,ho,e2,o1]
  simpa [ff] using JB
 ·obtain ⟨ah,G1,e2,w1,b1,o1⟩:=Jz ae bD hs h hm hx.w hx.m3 ht hb ho (.inr (.inr e))
  refine ⟨ah,G1,f267 (ai Q ae) _ _ G _ ?_,w1,b1,o1⟩
  simp [s267,ao,e1,e,ff,ho,e2,o1]
  simpa [ff] using JB
 ·have ax:x.step true t s=x.l9 t s:=by unfold aE.step; simp [e]
  rw [ax]; unfold aE.l9; simp only
  obtain ⟨ah,G1,e2,w1,b1,o1⟩:=Jy ae h ht hb ho 0
  generalize s.load (aB t x.i 0)=s' at *
  generalize s'.new=v at *
  refine ⟨ah,(G1.put b (eR t 4 x.a x.i x.w v x.job x.a x.err)).put b (eR t 5 x.a x.i x.w v x.job x.a x.err),f267 (ai Q ae) _ _ G _ ?_,(w1.bf b1.tag ht _).bf b1.tag ht _,(b1.bC _ _).bC _ _,by simp [ff]⟩
  simp [ff,e] at o1
  simp [s267,ao,e1,e,ff,ho,e2,o1]
 ·have ax:x.step true t s=x.l91 true t s:=by unfold aE.step; simp [e]
  rw [ax]; unfold aE.l91; simp only [if_true]
  obtain ⟨ah,G1,e2,w1,b1,o1⟩:=abu ae h hm ht hb ho
  generalize s.load (aB t x.i 1)=s' at *
  generalize s'.new=v at *
  refine ⟨ah,G1.put b (eR t 99 x.a x.i x.w x.key (v % 65536) x.a x.err),f267 (ai Q ae) _ _ G _ ?_,w1.bf b1.tag ht _,b1.bC _ _,by simp [ff]⟩
  simp [s267,ao,e1,e,ff,ho,e2,o1]
 ·have ax:x.step true t s=(x,s):=by unfold aE.step; simp [e]
  rw [ax]
  refine ⟨own,G,f267 (ai Q ae) _ _ G _ ?_,.refl h,hb,ho⟩
  simp [s267,e,e1,ff]
 ·exact absurd k (by decide)
theorem aby (ae:FuncId→Bool) (hx:x.ok true t) (ho:G.obj b=some (qP t x)) (hb:b<G.nx):∃ G',(E ae).cl 119 [P0 b] G=some (.tuple #[gA x.ik x.ij,.int .i64 x.ie],G')∧Ext G G':=by
 have az:¬ b=G.nx:=by omega
 have k9:=(JA hx.line).1
 have w:Wp (s119 true (bA Q ae) (P0 b) G) fun r=>r.1= .tuple #[gA x.ik x.ij,.int .i64 x.ie]∧Ext G r.2:=by
  unfold aE.ik aE.ij aE.ie gA
  by_cases e:x.line=99
  ·have e':ff 99=99:=rfl
   by_cases e2:x.err=0
   ·simp [s119,ho,az,bQ,bO,e,e',e2]
    exact Ey _ _
   ·simp [s119,ho,az,bQ,bO,e,e',e2]
    exact (((Ext.refl G).push _).room _).put (Nat.le_refl _) _
  ·have e':¬ ff x.line=99:=fun k=>e (k9.1 k)
   simp [s119,ho,az,bQ,bO,e,e']
   exact Ey _ _
 obtain ⟨⟨v,G'⟩,e1,rfl,e3⟩:=w
 exact ⟨G',f119 (ai Q ae) _ G _ e1,e3⟩
theorem abz (ae:FuncId→Bool) (hx:x.ok true t) (ho:G.obj b=some (qP t x)) (hb:b<G.nx):∃ G',(E ae).cl 86 [P0 b] G=some (.tuple #[gA x.ik x.ij,.int .i64 x.ie],G')∧Ext G G':=by
 obtain ⟨G1,aj⟩:∃ G1,G1=G.push ⟨z71,1,false,1⟩:=⟨_,rfl⟩
 have x1:Ext G G1:=by rw [aj]; exact (Ext.refl G).push _
 have p1:G1.obj G.nx=some ⟨z71,1,false,1⟩:=by rw [aj]; simp
 have n1:G1.nx=G.nx+1:=by rw [aj]; rfl
 obtain ⟨G2,e2,x2⟩:=aby ae hx ((x1.obj b hb).trans ho) (by omega)
 have p2:=(x2.obj G.nx (by omega)).trans p1
 have w:Wp (s86 true (bA Q ae) (P0 b) G) fun r=>r.1= .tuple #[gA x.ik x.ij,.int .i64 x.ie]∧Ext G r.2:=by
  unfold gA at *
  simp [s86,← aj,e2,p2,bQ,bO]
  exact (x1.trans x2).put (Nat.le_refl _) _
 obtain ⟨⟨v,G'⟩,e1,rfl,e3⟩:=w
 exact ⟨G',f86 (ai Q ae) _ G _ e1,e3⟩
theorem abA (ae:FuncId→Bool) (ho:G.obj b=some (qP t x)):(E ae).cl 84 [P0 b] G=some (.int .u64 x.by_,G) :=
 f84 (ai Q ae) _ G _ (by simp [s84,ho])
theorem abB (ae:FuncId→Bool) (hs:t.sound) (G:GS):∃ G',(E ae).cl 118 [t.v] G=some (.agg ⟨(qP t (aE.new t)).cells⟩,G')∧Ext G G':=by
 obtain ⟨G1,aj⟩:∃ G1,G1=(G.push ⟨t.cells,1,false,1⟩).push ⟨z209,1,false,1⟩:=⟨_,rfl⟩
 have x1:Ext G G1:=by rw [aj]; exact ((Ext.refl G).push _).push _
 have n1:G1.nx=G.nx+2:=by rw [aj]; rfl
 have o1:G1.obj G.nx=some ⟨t.cells,1,false,1⟩:=by rw [aj]; simp
 have p1:G1.obj (G.nx+1)=some ⟨z209,1,false,1⟩:=by rw [aj]; simp
 obtain ⟨G2,e2,x2⟩:=rZ ae t (-1) 0 G1
 rw [aaU hs] at e2
 have o2:=(x2.obj G.nx (by omega)).trans o1
 have p2:=(x2.obj (G.nx+1) (by omega)).trans p1
 have h1:¬ t.cn<0:=by have:=hs.2.2.2.2.2.2.1; omega
 have w:Wp (s118 true (bA Q ae) t.v G) fun r=>r.1= .agg ⟨(qP t (aE.new t)).cells⟩∧Ext G r.2:=by
  unfold aE.new
  simp [s118,← aj,o1,e2,h1,o2,p2,bQ,bO,eC,ff]
  exact (x1.trans x2).put (by omega) _
 obtain ⟨⟨v,G'⟩,e1,rfl,e3⟩:=w
 exact ⟨G',f118 (ai Q ae) _ G _ e1,e3⟩
theorem abC (ae:FuncId→Bool) (hs:t.sound) (G:GS):∃ b G',(E ae).cl 83 [t.v] G=some (P0 b,G')∧Ext G G' ∧G'.obj b=some (qP t (aE.new t))∧G.nx≤b∧b<G'.nx:=by
 obtain ⟨G1,aj⟩:∃ G1,G1=G.push ⟨t.cells,1,false,1⟩:=⟨_,rfl⟩
 have x1:Ext G G1:=by rw [aj]; exact (Ext.refl G).push _
 have o1:G1.obj G.nx=some ⟨t.cells,1,false,1⟩:=by rw [aj]; simp
 obtain ⟨G2,e2,x2⟩:=abB ae hs G1
 have y2:=x1.trans x2
 have w:Wp (s83 true (bA Q ae) t.v G) fun r=>r=(P0 G2.nx,G2.push (qP t (aE.new t))):=by
  unfold aE.new at e2 ⊢
  simp at e2
  simp [s83,← aj,o1,e2]
 obtain ⟨r,e3,rfl⟩:=w
 exact ⟨_,_,f83 (ai Q ae) _ G _ e3,y2.push _,by simp,y2.nx,by simp⟩
end
def TW.A (t:TW):Ar:=⟨t.top,t.links,t.size,t.u6,t.u7,t.u8⟩
section
variable {G B:GS} {t:TW} {n:Int}
end
section
variable {G B:GS} {t:TW} {n:Int}
end
def jC (base:Int):Nat→Nat→MS→MS
 | 0,_,s=>s
 | k+1,i,s=>jC base k (i+1) (s.store (IntKind.wrap .i64 (base+i)) 0)
theorem ED (base:Int):∀ (k i:Nat) (s:MS),s.ok→(jC base k i s).ok
 | 0,_,_,h=>h
 | k+1,i,s,h=>ED base k (i+1) _ (h.store _ dJ)
def EE (t:TW) (s:MS):MS:=jC t.u10 t.u11.toNat 0 (s.store t.u9 0)
def rQ (t:TW) (s:MS):MS:=jC t.u12 3 0 (EE t (BO t.A s))
def qQ (t:TW) (s:MS):MS:=jC t.cn t.ay.toNat 0 (rQ t s)
theorem abD {t:TW} (hA:t.A.ok) {s:MS} (h:s.ok):(qQ t s).ok:=ED _ _ _ _ (ED _ _ _ _ (ED _ _ _ _ ((aae hA h).store _ dJ)))
section
variable {m r rb mb l:Nat} {own own0:Nat→Nat} {G G0 G1 A:GS} {s:MS} {t:TW} {T:List Value}
theorem abE (ae:FuncId→Bool) (jV:rb<G0.nx) (oE:own0 rb≠10) (oF:G0.obj rb=some ⟨t.cells,1,false,1⟩) {n:Nat} (hn:t.ay=n) (hn9:n≤4096) :
  ∀ (k i:Nat) (τ:Env) (own:Nat→Nat) (G:GS) (s:MS),i+k=n→PW no own0 G0 own G m s→τ 1=P0 m→τ 2=P0 rb→τ 13= .int .i64 t.ay→τ 14= .int .i64 i →
  Wp ((bA Q ae).du 9 0 τ G) fun q=>q.1= .exit 0∧∃ own',PW no own0 G0 own' q.2.2 m (jC t.cn k i s):=by
 intro k
 induction k with
 | zero =>
  intro i τ own G s hi w t1 t2 t13 t4
  have o:=(w.keep jV oE id).trans oF
  have bw:¬ (i:Int)<t.ay:=by omega
  have JC:i=n:=by omega
  refine Wp.lp (PK (ai Q ae)) ?_
  simp [-Int.natCast_add,Iw,ao,t1,t2,t13,t4,o,bw,JC,← hn,jC]
  exact ⟨own,w⟩
 | succ k ih =>
  intro i τ own G s hi w t1 t2 t13 t4
  have o:=(w.keep jV oE id).trans oF
  have aJ:(i:Int)<t.ay:=by omega
  have vF:i<n:=by omega
  have hw:IntKind.wrap .i64 ((i:Int)+1)=((i+1:Nat):Int):=wrap64 (by omega) (by omega)
  refine Wp.lp (PK (ai Q ae)) ?_
  obtain ⟨aG,G2,e2,w2⟩:=w.pm.store ae (IntKind.wrap .i64 (t.cn+i)) 0
  simp [-Int.natCast_add,Iw,ao,t1,t2,t13,t4,aJ,vF,hw,o,e2]
  refine (ih (i+1) _ _ G2 _ (by omega) (w.trans w2 fun _ _ h=>h) (by simp [ao]) (by simp [ao]) (by simp [ao]) (by simp [ao])).mono ?_
  rintro q ⟨q1,own',q2⟩
  exact ⟨q1,own',by simpa [jC] using q2⟩
theorem abF (ae:FuncId→Bool) (jV:rb<G0.nx) (oE:own0 rb≠10) (oF:G0.obj rb=some ⟨pJ t,1,false,1⟩) {n:Nat} (hn:(3:Int)=n) (hn9:n≤4096) :
  ∀ (k i:Nat) (τ:Env) (own:Nat→Nat) (G:GS) (s:MS),i+k=n→PW no own0 G0 own G m s→τ 1=P0 m→τ 2=P0 rb→τ 13= .int .i64 i →
  Wp ((bA Q ae).du 36 0 τ G) fun q=>q.1= .exit 0∧∃ own',PW no own0 G0 own' q.2.2 m (jC t.u12 k i s):=by
 intro k
 induction k with
 | zero =>
  intro i τ own G s hi w t1 t2 t4
  have o:=(w.keep jV oE id).trans oF
  have bw:¬ (i:Int)<(3:Int):=by omega
  have JC:i=n:=by omega
  refine Wp.lp (PQ (ai Q ae)) ?_
  simp [-Int.natCast_add,Iz,ao,t1,t2,t4,o,bw,JC,← hn,jC]
  exact ⟨own,w⟩
 | succ k ih =>
  intro i τ own G s hi w t1 t2 t4
  have o:=(w.keep jV oE id).trans oF
  have aJ:(i:Int)<(3:Int):=by omega
  have vF:i<n:=by omega
  have hw:IntKind.wrap .i64 ((i:Int)+1)=((i+1:Nat):Int):=wrap64 (by omega) (by omega)
  refine Wp.lp (PQ (ai Q ae)) ?_
  obtain ⟨G1,e1,x1⟩:=Q0 ae t i G
  have w1:=w.ext x1
  obtain ⟨aG,G2,e2,w2⟩:=w1.pm.store ae (IntKind.wrap .i64 (t.u12+i)) 0
  simp [-Int.natCast_add,Iz,ao,t1,t2,t4,aJ,vF,hw,o,e1,e2]
  refine (ih (i+1) _ _ G2 _ (by omega) (w1.trans w2 fun _ _ h=>h) (by simp [ao]) (by simp [ao]) (by simp [ao])).mono ?_
  rintro q ⟨q1,own',q2⟩
  exact ⟨q1,own',by simpa [jC] using q2⟩
end
section
variable {m r rb xb mb l:Nat} {own own0 ah:Nat→Nat} {G G0 G1 A:GS} {s:MS} {t:TW} {T:List Value}
abbrev iz (t:TW):List Value:=[.int .i64 t.u9,.int .i64 t.u10,.int .i64 t.u11]
noncomputable abbrev xr (T:List Value):Lp:=⟨.ready,none,T,[15,16],(bm [1,1,1,1,0,0] (aS Tryz.f74)),(bm [1,1,1,1,0,1] (aS Tryz.f74))⟩
structure zq (t:TW) (own0:Nat→Nat) (A:GS) (l xb mb m:Nat) (T:List Value) (own:Nat→Nat) (G:GS) (s:MS):Prop where
 w:PW no own0 A own G m s
 lp:G.loop l=some (xr T)
 nl:A.nl≤l
 ll:l<G.nl
 ox:G.obj xb=some ⟨iz t,1,false,1⟩
 om:G.obj mb=some ⟨[P0 m],1,false,1⟩
 lx:xb<G.nx
 lm:mb<G.nx
 tx:own xb≠10
 tm:own mb≠10
theorem abG {u:Nat} {B:Nat→Prop} {q:Lp} (h:dx u B own G ah G1) (hl:G.nl≤l):dx u B own G ah (G1.cC l q):=⟨h.cd,h.mod.cC hl q⟩
theorem abH {q:Lp} (h:PM own G m s):PM own (G.cC l q) m s:=(zg m s).mono ((zg m s).kept h (Nat.le_refl _) fun g hg=>by simp) (fun y hy=>⟨by simpa using hy.1,hy.2⟩) Tag.under
theorem JD {B:Nat→Prop} {q:Lp} (h:PW B own G ah G1 m s) (hl:G.nl≤l):PW B own G ah (G1.cC l q) m s:=⟨abG h.aO hl,abH h.pm⟩
theorem abI (ae:FuncId→Bool) {i a:Int} (hT:T.length=20) (t3:nth undef T 3=P0 mb) (h:zq t own0 A l xb mb m T own G s) :
  Wp ((E ae).rd l [.int .i64 i,.int .i64 a] G) fun q=>q.1= .bool true∧∃ own',zq t own0 A l xb mb m T own' q.2 (s.store a 0):=by
 refine Wp.ref (Zc (ai Q ae) l T _ _ G h.lp hT) ?_
 obtain ⟨G2,aD⟩:∃ G2,G2=G.cC l (Lp.jW (xr T) .busy):=⟨_,rfl⟩
 have n2:G2.nx=G.nx:=by rw [aD,OE]
 have l1:=h.lp
 have w2:PW no own0 A own G2 m s:=by rw [aD]; exact JD h.w h.nl
 have l2:G2.loop l=some (Lp.jW (xr T) .busy):=by rw [aD]; simp [h.ll]
 have QM:G2.nl=G.nl:=by rw [aD]; simp
 have JE:G2.obj xb=some ⟨iz t,1,false,1⟩:=by rw [aD]; simpa using h.ox
 have Ri:G2.obj mb=some ⟨[P0 m],1,false,1⟩:=by rw [aD]; simpa using h.om
 obtain ⟨bB,G3,e3,w3⟩:=w2.pm.store ae a 0
 have l3:G3.loop l=some (Lp.jW (xr T) .busy):=(w3.aO.mod.loop l (by rw [QM]; exact h.ll)).trans l2
 have JF:=w3.aO.mod.nl
 have lx:=h.lx
 have lm:=h.lm
 have ll:=h.ll
 have BS:qx l .normal G3=some (.bool true,G3.cC l (xr T)):=by
  rw [HN l .normal _ (j:=none) rfl l3]
  rfl
 simp [Bz,t3,l1,← aD,Ri,e3,BS]
 refine ⟨bB,JD (w2.trans w3 fun _ _ h=>h) h.nl,by simp,h.nl,?_,?_,?_,?_,?_,?_,?_⟩
 ·show l<G3.nl; omega
 ·simpa using (w3.keep (by omega) h.tx id).trans JE
 ·simpa using (w3.keep (by omega) h.tm id).trans Ri
 ·have:=w3.nx; simp; omega
 ·have:=w3.nx; simp; omega
 ·rw [w3.aO.same (by omega)]; exact h.tx
 ·rw [w3.aO.same (by omega)]; exact h.tm
theorem abJ (ae:FuncId→Bool) (hT:T.length=20) (t3:nth undef T 3=P0 mb) (hc:1≤t.u11∧t.u11≤64):∀ (k i:Nat) (own:Nat→Nat) (τ:Env) (G:GS) (s:MS),(i:Int)+k=t.u11→τ 0= .func (.yield l) #[] #[]→τ 1=P0 xb→τ 5= .int .i64 t.u11→τ 6= .int .i64 i →
  zq t own0 A l xb mb m T own G s→Wp ((bA Q ae).du 142 0 τ G) fun q=>q.1= .exit 0∧∃ own',zq t own0 A l xb mb m T own' q.2.2 (jC t.u10 k i s):=by
 intro k
 induction k with
 | zero =>
  intro i own τ G s hi t0 t1 t5 t6 h
  refine Wp.lp (Qa (ai Q ae)) ?_
  have bw:¬ (i:Int)<t.u11:=by omega
  simp [-Int.natCast_add,D8,ao,t0,t1,t5,t6,bw]
  exact ⟨own,h⟩
 | succ k ih =>
  intro i own τ G s hi t0 t1 t5 t6 h
  refine Wp.lp (Qa (ai Q ae)) ?_
  have bw:(i:Int)<t.u11:=by omega
  have hw:IntKind.wrap .i64 ((i:Int)+1)=((i+1:Nat):Int):=wrap64 (by omega) (by omega)
  have ox:=h.ox
  obtain ⟨⟨v,G1⟩,e1,rfl,ah,h1⟩:=abI ae (i:=i) (a:=IntKind.wrap .i64 (t.u10+i)) hT t3 h
  simp [-Int.natCast_add,D8,ao,t0,t1,t5,t6,bw,ox,e1,hw]
  exact ih (i+1) ah _ G1 _ (by omega) (by simp [ao]) (by simp [ao]) (by simp [ao]) (by simp [ao]) h1
theorem abK (ae:FuncId→Bool) (t:TW) (G:GS):(E ae).cl 109 [.agg ⟨iz t⟩] G=some (.func (.func 142) #[] #[P0 G.nx],G.push ⟨iz t,1,false,1⟩):=by
 refine f109 (ai Q ae) _ G _ ?_
 simp [s109]
theorem abL (ae:FuncId→Bool) (hc:1≤t.u11∧t.u11≤64) (h:PM own G m s):∃ ah G1,(E ae).cl 74 [.agg ⟨iz t⟩,P0 m] G=some (.tuple #[],G1)∧PW no own G ah G1 m (EE t s):=by
 obtain ⟨G1,aj⟩:∃ G1,G1=(G.push ⟨iz t,1,false,1⟩).push ⟨[P0 m],1,false,1⟩:=⟨_,rfl⟩
 have x1:Ext G G1:=by rw [aj]; exact ((Ext.refl G).push _).push _
 have o1:G1.obj G.nx=some ⟨iz t,1,false,1⟩:=by rw [aj]; simp
 have p1:G1.obj (G.nx+1)=some ⟨[P0 m],1,false,1⟩:=by rw [aj]; simp
 have n1:G1.nx=G.nx+2:=by rw [aj]; rfl
 obtain ⟨G2,aD⟩:∃ G2,G2=G1.push ⟨iz t,1,false,1⟩:=⟨_,rfl⟩
 have x2:Ext G1 G2:=by rw [aD]; exact (Ext.refl _).push _
 have e2:(E ae).cl 108 [.agg ⟨iz t⟩] G1=some (.bool true,G2):=by
  rw [aD]
  exact f108 (ai Q ae) _ G1 _ (by simp [s108,hc.1,hc.2])
 have y2:=x1.trans x2
 have n2:=x2.nx
 have o2:=(x2.obj G.nx (by omega)).trans o1
 have p2:=(x2.obj (G.nx+1) (by omega)).trans p1
 have t0:∀ g,G.nx≤g→grown own G 13 g=13:=fun g hg=>gx hg
 have w2:PW no own G (grown own G 13) G2 m s:=(PW.refl h).ext y2
 obtain ⟨bB,G3,e3,w3⟩:=w2.pm.store ae t.u9 0
 have n3:=w3.nx
 have o3:=(w3.keep (show G.nx<G2.nx by omega) (by rw [t0 _ (Nat.le_refl _)]; decide) id).trans o2
 have p3:=(w3.keep (show G.nx+1<G2.nx by omega) (by rw [t0 _ (by omega)]; decide) id).trans p2
 have t3o:bB G.nx=13:=(w3.aO.same (by omega)).trans (t0 _ (Nat.le_refl _))
 have t3p:bB (G.nx+1)=13:=(w3.aO.same (by omega)).trans (t0 _ (by omega))
 have w:=w2.trans w3 fun _ _ h=>h
 have JF:=w.aO.mod.nl
 have w':Wp (s74 true (bA Q ae) (.agg ⟨iz t⟩) (P0 m) G) fun q=>q.1= .tuple #[]∧∃ ah,PW no own G ah q.2 m (EE t s):=by
  simp [s74,← aj,o1,e2,o2,p2,e3,o3,abK]
  generalize vA:aN 20 (tu (nth undef _) _)=T
  have hT:T.length=20:=by rw [← vA]; exact DR 20 _
  have t3:nth undef T 3=P0 (G.nx+1):=by rw [← vA,vo]; simp [ao]
  clear vA
  obtain ⟨G5,dE⟩:∃ G5,G5=(G3.push ⟨iz t,1,false,1⟩).fD (xr T):=⟨_,rfl⟩
  have x5:Ext G3 G5:=by rw [dE]; exact ((Ext.refl G3).push _).fD _
  have n5:G5.nx=G3.nx+1:=by rw [dE]; rfl
  have l5:G5.loop G3.nl=some (xr T):=by rw [dE]; simp
  have w5:PW no own G (grown bB G3 13) G5 m (s.store t.u9 0):=w.ext x5
  have hS:zq t own G G3.nl G3.nx (G.nx+1) m T (grown bB G3 13) G5 (s.store t.u9 0):=⟨w5,l5,JF,by rw [dE]; simp,by rw [dE]; simp,(x5.obj _ (by omega)).trans p3,by omega,by omega,by rw [gx (Nat.le_refl _)]; decide,by rw [db _ (by omega),t3p]; decide⟩
  have ox:=hS.ox
  have wl:Wp (s142 true (bA Q ae) (.func (.yield G3.nl) #[] #[]) (P0 G3.nx) G5) fun q=>q.1= .tuple #[]∧∃ own',zq t own G G3.nl G3.nx (G.nx+1) m T own' q.2 (EE t s):=by
   simp [s142,ox]
   refine Wp.bE ((abJ ae hT t3 hc t.u11.toNat 0 _ _ G5 _ (by omega) (by simp [ao]) (by simp [ao]) (by simp [ao]) (by simp [ao]) hS).mono ?_)
   rintro ⟨e,τ,G'⟩ ⟨rfl,own',h'⟩
   simp
   exact ⟨own',h'⟩
  obtain ⟨⟨v,G6⟩,e6,rfl,zp,h6⟩:=wl
  have e6':=f142 (ai Q ae) _ _ G5 _ e6
  rw [← dE]
  simp only [List.nil_append,List.singleton_append,List.cons_append,e6']
  rw [HM G3.nl T _ G6 h6.lp (by simp) rfl]
  simp
  exact ⟨zp,JD h6.w JF⟩
 obtain ⟨⟨v,G'⟩,e1,rfl,ah,h1⟩:=w'
 exact ⟨ah,G',f74 (ai Q ae) _ _ G _ e1,h1⟩
theorem abM (ae:FuncId→Bool) (ht:ae 187=false) (hA:t.A.ok) (hc:1≤t.u11∧t.u11≤64) (h:PM own G m s):∃ own' G',(E ae).cl 36 [.agg ⟨pJ t⟩,P0 m] G=some (.tuple #[],G')∧PW no own G own' G' m (rQ t s):=by
 have w:Wp (s36 true (bA Q ae) (.agg ⟨pJ t⟩) (P0 m) G) fun q=>q.1= .tuple #[]∧∃ own',PW no own G own' q.2 m (rQ t s):=by
  obtain ⟨G1,aj⟩:∃ G1,G1=G.push ⟨pJ t,1,false,1⟩:=⟨_,rfl⟩
  have x1:Ext G G1:=by rw [aj]; exact (Ext.refl G).push _
  have o1:G1.obj G.nx=some ⟨pJ t,1,false,1⟩:=by rw [aj]; simp
  have n1:G1.nx=G.nx+1:=by rw [aj]; rfl
  have w1:=(PW.refl (B:=no) h).ext x1
  have t0:grown own G 13 G.nx=13:=gx (Nat.le_refl _)
  obtain ⟨aG,G2,e2,w2⟩:=aai ae ht hA w1.pm
  have n2:=w2.nx
  have t2:aG G.nx=13:=(w2.aO.same (by omega)).trans t0
  have o2:=(w2.keep (show G.nx<G1.nx by omega) (by rw [t0]; decide) id).trans o1
  obtain ⟨bB,G3,e3,w3⟩:=abL ae hc w2.pm
  have n3:=w3.nx
  have t3:bB G.nx=13:=(w3.aO.same (by omega)).trans t2
  have o3:=(w3.keep (show G.nx<G2.nx by omega) (by rw [t2]; decide) id).trans o2
  simp [TW.A] at e2
  simp [s36,← aj,o1,e2,o2,e3]
  refine Wp.bE ((abF ae (t:=t) (rb:=G.nx) (G0:=G3) (own0:=bB) (n:=3) (by omega) (by rw [t3]; decide) o3 rfl (by omega) 3 0 _ bB G3 _ (by omega) (PW.refl w3.pm) (by simp) (by simp) (by simp)).mono ?_)
  rintro ⟨e,τ,G5⟩ ⟨rfl,jb,q⟩
  simp only at q
  simp
  exact ⟨jb,((w1.trans w2 fun _ _ h=>h).trans w3 fun _ _ h=>h).trans q fun _ _ h=>h⟩
 obtain ⟨⟨v,G'⟩,e1,rfl,own',hh⟩:=w
 exact ⟨own',G',f36 (ai Q ae) _ _ G _ e1,hh⟩
theorem abN (ae:FuncId→Bool) (ht:ae 187=false) (hs:t.sound) (hA:t.A.ok) (hc:1≤t.u11∧t.u11≤64) (h:PM own G m s):∃ own' G',(E ae).cl 9 [t.v,P0 m] G=some (.tuple #[],G')∧PW no own G own' G' m (qQ t s):=by
 have s1:=hs.1
 have s2:=hs.2.1
 have w:Wp (s9 true (bA Q ae) t.v (P0 m) G) fun q=>q.1= .tuple #[]∧∃ own',PW no own G own' q.2 m (qQ t s):=by
  obtain ⟨G1,aj⟩:∃ G1,G1=G.push ⟨t.cells,1,false,1⟩:=⟨_,rfl⟩
  have x1:Ext G G1:=by rw [aj]; exact (Ext.refl G).push _
  have o1:G1.obj G.nx=some ⟨t.cells,1,false,1⟩:=by rw [aj]; simp
  have n1:G1.nx=G.nx+1:=by rw [aj]; rfl
  obtain ⟨Ga,ea,xa⟩:=Jc ae t G1
  simp only [hs,decide_true] at ea
  have na:=xa.nx
  have oa:=(xa.obj G.nx (by omega)).trans o1
  have w1:=(PW.refl (B:=no) h).ext (x1.trans xa)
  have t0:grown own G 13 G.nx=13:=gx (Nat.le_refl _)
  obtain ⟨aG,G2,e2,w2⟩:=abM ae ht hA hc w1.pm
  have n2:=w2.nx
  have t2:aG G.nx=13:=(w2.aO.same (by omega)).trans t0
  have o2:=(w2.keep (show G.nx<Ga.nx by omega) (by rw [t0]; decide) id).trans oa
  obtain ⟨n,hn⟩:∃ n:Nat,t.ay=n:=⟨t.ay.toNat,by omega⟩
  simp [s9,← aj,o1,ea,oa,e2,o2]
  refine Wp.bE ((abE ae (t:=t) (rb:=G.nx) (G0:=G2) (own0:=aG) (by omega) (by rw [t2]; decide) o2 hn (by omega) n 0 _ aG G2 _ (by omega) (PW.refl w2.pm) (by simp) (by simp) (by simp) (by simp)).mono ?_)
  rintro ⟨e,τ,G5⟩ ⟨rfl,jb,q⟩
  simp only at q
  simp
  refine ⟨jb,(w1.trans w2 fun _ _ h=>h).trans ?_ fun _ _ h=>h⟩
  simpa [qQ,hn] using q
 obtain ⟨⟨v,G'⟩,e1,rfl,own',hh⟩:=w
 exact ⟨own',G',f9 (ai Q ae) _ _ G _ e1,hh⟩
end
open Go
def zr (a b:Int):Int:=if a<b then -1 else if b<a then 1 else 0
def gr (L:List Int):Nat→Int
 | 0=>-1
 | i+1=>if gr L i<0∨L.getD (gr L i).toNat 0<L.getD i 0 then i else gr L i
theorem tZ (L:List Int):∀ i,-1≤gr L i∧gr L i<i∧(0<i→0≤gr L i)
 | 0=>by simp [gr]
 | i+1=>by
  obtain ⟨h1,h2,h3⟩:=tZ L i
  unfold gr
  split<;>omega
def jD (L:List Int) (key:Int):Option Nat:=let g:=gr L L.length; if g<0∨L.getD g.toNat 0≤key then none else some g.toNat
def ua (L:List Int) (key:Int):Value:=match jD L key with | none=>.tuple #[.int .i64 (-1),.bool false] | some i=>.tuple #[.int .i64 i,.bool true]
structure dG where
 line:Int
 now:Int
def TW.aW (t:TW) (c:Int):Int:=IntKind.wrap .i64 (t.u10+c)
def dG.new:dG:=⟨1,0⟩
def dG.step (t:TW) (c:Int) (p:dG) (s:MS):dG×MS :=
 if p.line=1 then (⟨2,(s.load t.u9).new % 4294967296⟩,s.load t.u9)
 else if p.line=2 then (⟨3,p.now⟩,s.store (t.aW c) (p.now+1))
 else if p.line=3 then (if (s.load t.u9).new % 4294967296=p.now then ⟨9,p.now⟩ else ⟨2,(s.load t.u9).new % 4294967296⟩,s.load t.u9)
 else (p,s)
structure dG.ok (p:dG):Prop where
 line:p.line=1∨p.line=2∨p.line=3∨p.line=9
 now:0≤p.now∧p.now<4294967296
theorem dG.ju:dG.new.ok:=⟨.inl rfl,by decide⟩
theorem dG.ok.step {t:TW} {c:Int} {p:dG} {s:MS} (h:p.ok) (hs:s.ok):(p.step t c s).1.ok∧(p.step t c s).2.ok:=by
 obtain ⟨h1,h2⟩:=h
 have hl:=hs.load t.u9
 have h0:=hl.2.1
 have hm:0≤(s.load t.u9).new % 4294967296∧(s.load t.u9).new % 4294967296<4294967296:=by omega
 rcases h1 with e | e | e | e<;>unfold dG.step<;>simp [e]
 ·exact ⟨⟨.inr (.inl rfl),hm⟩,hl.1⟩
 ·exact ⟨⟨.inr (.inr (.inl rfl)),h2⟩,hs.store _ ⟨by omega,by omega⟩⟩
 ·refine ⟨?_,hl.1⟩
  split
  ·exact ⟨.inr (.inr (.inr rfl)),h2⟩
  ·exact ⟨.inr (.inl rfl),hm⟩
 ·exact ⟨⟨.inr (.inr (.inr e)),h2⟩,hs⟩
def mL (t:TW) (c:Int) (s:MS):MS:=s.store (t.aW c) 0
structure bY where
 line:Int
 aW:dG
 cW:aE
 by_:Int
def bY.step (t:TW) (c:Int) (x:bY) (s:MS):bY×MS :=
 if x.line=1 then ({ x with by_:=0,aW:=(x.aW.step t c s).1,line:=if (x.aW.step t c s).1.line=9 then 4 else 1 },(x.aW.step t c s).2)
 else if x.line=4 then ({ x with cW:=(x.cW.step true t s).1,by_:=(x.cW.step true t s).1.by_,line:=if (x.cW.step true t s).1.line=99 then 5 else 4 },(x.cW.step true t s).2)
 else if x.line=5 then ({ x with by_:=0,line:=9 },mL t c s)
 else ({ x with by_:=0 },s)
structure bY.ok (t:TW) (x:bY):Prop where
 line:x.line=1∨x.line=4∨x.line=5∨x.line=9
 aW:x.aW.ok
 cW:x.cW.ok true t
 by_:U x.by_
theorem bY.ok.step {t:TW} {c:Int} {x:bY} {s:MS} (ht:t.sound) (hl:t.fA) (h:x.ok t) (hs:s.ok):(x.step t c s).1.ok t∧(x.step t c s).2.ok:=by
 obtain ⟨h1,h2,h3,h4⟩:=h
 have hp:=dG.ok.step (t:=t) (c:=c) h2 hs
 have hk:=h3.step ht hl hs
 rcases h1 with e | e | e | e<;>unfold bY.step<;>simp [e]
 ·refine ⟨⟨?_,hp.1,h3,dJ⟩,hp.2⟩
  by_cases k:(x.aW.step t c s).1.line=9<;>simp [k]
 ·refine ⟨⟨?_,h2,hk.1,hk.1.by_⟩,hk.2⟩
  by_cases k:(x.cW.step true t s).1.line=99<;>simp [k]
 ·exact ⟨⟨by simp,h2,h3,dJ⟩,hs.store _ dJ⟩
 ·exact ⟨⟨by simp [e],h2,h3,dJ⟩,hs⟩
structure dU where
 runs:Int
 flags:Int
 bc:Int
structure bg where
 line:Int
 look:bY
 key:Int
 words:List Int
 flag:Int
 by_:Int
 err:Int
def bg.seen (x:bg):bg:={ x with key:=x.look.cW.ik,line:=if x.look.cW.ie=0 then 1 else 9,err:=if x.look.cW.ie=0∨x.look.cW.ie=15 then 0 else x.look.cW.ie }
def bg.l0 (t:TW) (c:Int) (x:bg) (s:MS):bg×MS :=
 (if (x.look.step t c s).1.line=9 then ({ x with look:=(x.look.step t c s).1,by_:=(x.look.step t c s).1.by_ }:bg).seen else { x with look:=(x.look.step t c s).1,by_:=(x.look.step t c s).1.by_ },(x.look.step t c s).2)
def bg.l1 (r:dU) (x:bg) (s:MS):bg×MS :=
 (if ((x.words++[(s.load (IntKind.wrap .i64 (r.runs+x.words.length))).new]).length:Int)=r.bc then
  match jD (x.words++[(s.load (IntKind.wrap .i64 (r.runs+x.words.length))).new]) x.key with
  | none=>{ x with by_:=0,words:=x.words++[(s.load (IntKind.wrap .i64 (r.runs+x.words.length))).new],line:=9 }
  | some w=>{ x with by_:=0,words:=x.words++[(s.load (IntKind.wrap .i64 (r.runs+x.words.length))).new],line:=2,flag:=w }
 else { x with by_:=0,words:=x.words++[(s.load (IntKind.wrap .i64 (r.runs+x.words.length))).new] },s.load (IntKind.wrap .i64 (r.runs+x.words.length)))
def bg.l2 (r:dU) (x:bg) (s:MS):bg×MS:=({ x with by_:=0,line:=9 },s.store (IntKind.wrap .i64 (r.flags+x.flag)) 1)
def bg.step (t:TW) (r:dU) (c:Int) (x:bg) (s:MS):bg×MS :=
 if x.line=0 then x.l0 t c s else if x.line=1 then x.l1 r s else if x.line=2 then x.l2 r s else ({ x with by_:=0 },s)
structure bg.ok (t:TW) (r:dU) (x:bg):Prop where
 line:x.line=0∨x.line=1∨x.line=2∨x.line=9
 look:x.look.ok t
 key:U x.key
 words:∀ w∈x.words,U w
 short:x.line=0∨x.line=1→(x.words.length:Int)<r.bc
 by_:U x.by_
section
variable {t:TW} {r:dU} {c:Int} {x:bg} {s:MS}
theorem aE.ok.ik {look:Bool} {y:aE} (h:y.ok look t):U y.ik:=by
 unfold aE.ik
 split
 ·exact dJ
 ·split
  ·exact dJ
  ·exact h.key
theorem bg.ok.step (ht:t.sound) (hl:t.fA) (h:x.ok t r) (hs:s.ok):(x.step t r c s).1.ok t r∧(x.step t r c s).2.ok:=by
 obtain ⟨h1,h2,h3,h4,h5,h6⟩:=h
 rcases h1 with e | e | e | e<;>unfold bg.step<;>simp [e]
 ·have hk:=bY.ok.step (c:=c) ht hl h2 hs
  have AA:=h5 (.inl e)
  unfold bg.l0
  refine ⟨?_,hk.2⟩
  by_cases k:(x.look.step t c s).1.line=9
  ·simp only [k,if_true]
   unfold bg.seen
   refine ⟨?_,hk.1,hk.1.cW.ik,h4,fun _=>AA,hk.1.by_⟩
   simp only
   split<;>simp
  ·simp only [k,if_false]
   exact ⟨.inl e,hk.1,h3,h4,fun _=>AA,hk.1.by_⟩
 ·have hn:=hs.load (IntKind.wrap .i64 (r.runs+x.words.length))
  have AA:=h5 (.inr e)
  have hw:∀ w∈x.words++[(s.load (IntKind.wrap .i64 (r.runs+x.words.length))).new],U w:=fun w hw=>by
   rcases List.mem_append.1 hw with k | k
   ·exact h4 w k
   ·rw [List.mem_singleton.1 k]; exact hn.2
  unfold bg.l1
  refine ⟨?_,hn.1⟩
  by_cases k:((x.words++[(s.load (IntKind.wrap .i64 (r.runs+x.words.length))).new]).length:Int)=r.bc
  ·simp only [k,if_true]
   cases jD (x.words++[(s.load (IntKind.wrap .i64 (r.runs+x.words.length))).new]) x.key with
   | none=>exact ⟨by simp,h2,h3,hw,by simp,dJ⟩
   | some w=>exact ⟨by simp,h2,h3,hw,by simp,dJ⟩
  ·simp only [k,if_false]
   refine ⟨by simp [e],h2,h3,hw,fun _=>?_,dJ⟩
   simp only [List.length_append,List.length_singleton] at k ⊢
   omega
 ·unfold bg.l2
  exact ⟨⟨by simp,h2,h3,h4,by simp,dJ⟩,hs.store _ (by unfold U; omega)⟩
 ·exact ⟨⟨by simp [e],h2,h3,h4,by simp [e],dJ⟩,hs⟩
end
def dU.sized (r:dU):Prop:=1≤r.bc∧r.bc≤64
instance apQ (r:dU):Decidable r.sized:=by unfold dU.sized; infer_instance
def dU.qR (r:dU):Prop:=1≤r.bc∧r.bc≤64∧0≤r.runs∧r.runs+r.bc≤4096∧0≤r.flags∧r.flags+r.bc≤4096
def gf (s:MS) (k:Int) (n:Nat):List Int:=(List.range n).map fun (c:Nat)=>s.aI (k+c)
@[simp] theorem Rj (s:MS) (k:Int) (n:Nat):(gf s k n).length=n:=by simp [gf]
theorem JG (s:MS) (k:Int) (n:Nat):gf s k (n+1)=gf s k n++[s.aI (k+n)]:=by
 simp [gf,List.range_succ]
def qS (r:dU):Nat→Nat→MS→MS
 | 0,_,s=>s
 | k+1,c,s=>qS r k (c+1) ((s.store (r.runs+c) 18446744073709551615).store (r.flags+c) 0)
theorem Rk (r:dU):∀ (k c:Nat) {s:MS},s.ok→(qS r k c s).ok
 | 0,_,s,h=>h
 | k+1,c,s,h=>Rk r k (c+1) ((h.store _ (by unfold U; omega)).store _ (by unfold U; omega))
theorem bY.ends {t:TW} {c:Int} {x:bY} {s:MS} (h:x.line≠9) (h9:(x.step t c s).1.line=9):x.line=5∧(x.step t c s).1.by_=0:=by
 unfold bY.step at h9 ⊢
 by_cases h1:x.line=1
 ·simp only [h1,if_true] at h9
  split at h9<;>simp at h9
 ·by_cases h4:x.line=4
  ·have e1:¬ (4:Int)=1:=by decide
   simp only [h4,e1,if_true,if_false] at h9
   split at h9<;>simp at h9
  ·by_cases h5:x.line=5
   ·simp [h5]
   ·simp [h1,h4,h5] at h9
    exact absurd h9 h
structure bg.kp (x:bg):Prop where
 l0:x.line=0→x.look.line≠9∧x.flag= -1∧x.words=[]
 by9:x.line=9→x.by_=0
 l1:x.line=1→x.flag= -1
 l2:x.line=2→0≤x.flag∧x.err=0
 e0:x.line≠9→x.err=0
theorem bg.kp.step {t:TW} {r:dU} {c:Int} {x:bg} {s:MS} (ho:x.ok t r) (h:x.kp):(x.step t r c s).1.kp:=by
 obtain ⟨h1,h2,h3,h4,h5⟩:=h
 rcases ho.line with e | e | e | e<;>unfold bg.step<;>simp [e]
 ·obtain ⟨k1,k2,k3⟩:=h1 e
  unfold bg.l0
  by_cases k:(x.look.step t c s).1.line=9
  ·have hb:=(bY.ends k1 k).2
   simp only [k,if_true]
   unfold bg.seen
   simp only
   by_cases z:(x.look.step t c s).1.cW.ie=0
   ·exact ⟨by simp [z],by simp [z],by simp [z,k2],by simp [z],by simp [z]⟩
   ·exact ⟨by simp [z],by simp [z,hb],by simp [z],by simp [z],by simp [z]⟩
  ·simp only [k,if_false]
   exact ⟨fun _=>⟨k,k2,k3⟩,by simp [e],by simp [e],by simp [e],fun _=>h5 (by omega)⟩
 ·have k2:=h3 e
  have k5:=h5 (by omega)
  unfold bg.l1
  by_cases k:((x.words++[(s.load (IntKind.wrap .i64 (r.runs+x.words.length))).new]).length:Int)=r.bc
  ·simp only [k,if_true]
   cases jD (x.words++[(s.load (IntKind.wrap .i64 (r.runs+x.words.length))).new]) x.key with
   | none=>exact ⟨by simp,by simp,by simp,by simp,by simp⟩
   | some w=>exact ⟨by simp,by simp,by simp,by simp; exact k5,by simp; exact k5⟩
  ·simp only [k,if_false]
   exact ⟨by simp [e],by simp [e],fun _=>k2,by simp [e],fun _=>k5⟩
 ·unfold bg.l2
  exact ⟨by simp,by simp,by simp,by simp,by simp⟩
 ·exact ⟨by simp [e],by simp,by simp [e],by simp [e],by simp [e]⟩
def lP (l:Int):Int:=if l=9 then -1 else l - 1
abbrev ub (t:TW) (c:Int) (f0 f1 f2:Value) (ln aW now:Int):aR:=⟨[f0,f1,f2,.int .i64 ln,.bool true,.int .i64 0,.int .i64 t.u9,.int .i64 t.u10,.int .i64 t.u11,.int .i64 aW,.int .u32 now],1,false,1⟩
abbrev kq (t:TW) (c:Int) (b:Nat) (p:dG):aR:=ub t c (cu 149 b) (cu 150 b) (cu 151 b) (lP p.line) (t.aW c) p.now
abbrev nu (t:TW) (c:Int) (b:Nat) (ln:Int):aR:=⟨[cu 160 b,.nilFunc,.nilFunc,.int .i64 ln,.bool true,.int .i64 0,.int .i64 (t.aW c)],1,false,1⟩
section
variable {own own' ah aG:Nat→Nat} {tag tg m r b:Nat} {t:TW} {c:Int} {G G' G1 G2:GS} {s s' s1:MS} {p:dG}
theorem Rl (ae:FuncId→Bool) (hc:0≤c∧c<t.u11) (G:GS):(E ae).cl 147 [.agg ⟨iz t⟩,.int .i64 c] G=some (.bool false,G.push ⟨iz t,1,false,1⟩):=by
 refine f147 (ai Q ae) _ _ G _ ?_
 have h1:¬ c<0:=by omega
 have h2:¬ t.u11≤c:=by omega
 simp [s147,h1,h2]
theorem Rn (ae:FuncId→Bool) (hc:0≤c∧c<t.u11) (G:GS):∃ b G',(E ae).cl 112 [.agg ⟨iz t⟩,.int .i64 c] G=some (P0 b,G')∧Ext G G' ∧(G.nx≤b∧b<G'.nx)∧G'.obj b=some (kq t c b .new):=by
 obtain ⟨G1,aj⟩:∃ G1,G1=((G.push ⟨iz t,1,false,1⟩).push (ub t c .nilFunc .nilFunc .nilFunc 0 0 0)).push ⟨iz t,1,false,1⟩:=⟨_,rfl⟩
 have e1:=Rl ae hc ((G.push ⟨iz t,1,false,1⟩).push (ub t c .nilFunc .nilFunc .nilFunc 0 0 0))
 rw [← aj] at e1
 have x1:Ext G G1:=by rw [aj]; exact (((Ext.refl G).push _).push _).push _
 have o1:G1.obj G.nx=some ⟨iz t,1,false,1⟩:=by rw [aj]; simp
 have p1:G1.obj (G.nx+1)=some (ub t c .nilFunc .nilFunc .nilFunc 0 0 0):=by rw [aj]; simp
 have n1:G1.nx=G.nx+3:=by rw [aj]; rfl
 refine ⟨G.nx+1,(G1.put (G.nx+1) (ub t c .nilFunc .nilFunc .nilFunc 0 (t.aW c) 0)).put (G.nx+1) (kq t c (G.nx+1) .new),f112 (ai Q ae) _ _ G _ ?_,(x1.put (by omega) _).put (by omega) _,⟨by omega,by simp; omega⟩,by simp⟩
 have hz:z260=[.nilFunc,.nilFunc,.nilFunc,.int .i64 0,.bool false,.int .i64 0,.int .i64 0,.int .i64 0,.int .i64 0,.int .i64 0,.int .u32 0]:=rfl
 have dY:z257=[.nilFunc,.nilFunc,.nilFunc,.int .i64 0,.bool false,.int .i64 0]:=rfl
 have uc:z255=[.nilFunc,.nilFunc,.nilFunc]:=rfl
 simp [s112,hz,dY,uc,bQ,bO,eC,e1,o1,p1,TW.aW,dG.new,lP]
 rfl
theorem Ro (ae:FuncId→Bool) (hc:0≤c∧c<t.u11) (G:GS):∃ b G',(E ae).cl 121 [.agg ⟨iz t⟩,.int .i64 c] G=some (P0 b,G')∧Ext G G' ∧(G.nx≤b∧b<G'.nx)∧G'.obj b=some (nu t c b 0):=by
 obtain ⟨G1,aj⟩:∃ G1,G1=((G.push ⟨iz t,1,false,1⟩).push ⟨[.nilFunc,.nilFunc,.nilFunc,.int .i64 0,.bool true,.int .i64 0,.int .i64 (t.aW c)],1,false,1⟩).push ⟨iz t,1,false,1⟩:=⟨_,rfl⟩
 have e1:=Rl ae hc ((G.push ⟨iz t,1,false,1⟩).push ⟨[.nilFunc,.nilFunc,.nilFunc,.int .i64 0,.bool true,.int .i64 0,.int .i64 (t.aW c)],1,false,1⟩)
 rw [← aj] at e1
 have x1:Ext G G1:=by rw [aj]; exact (((Ext.refl G).push _).push _).push _
 have p1:G1.obj (G.nx+1)=some ⟨[.nilFunc,.nilFunc,.nilFunc,.int .i64 0,.bool true,.int .i64 0,.int .i64 (t.aW c)],1,false,1⟩:=by rw [aj]; simp
 have n1:G1.nx=G.nx+3:=by rw [aj]; rfl
 refine ⟨G.nx+1,G1.put (G.nx+1) (nu t c (G.nx+1) 0),f121 (ai Q ae) _ _ G _ ?_,x1.put (by omega) _,⟨by omega,by simp; omega⟩,by simp⟩
 have hz:z273=[.nilFunc,.nilFunc,.nilFunc,.int .i64 0,.bool false,.int .i64 0,.int .i64 0]:=rfl
 have dY:z257=[.nilFunc,.nilFunc,.nilFunc,.int .i64 0,.bool false,.int .i64 0]:=rfl
 unfold TW.aW at *
 simp [s121,hz,dY,bQ,bO,eC,e1,p1]
 rfl
def kW (own:Nat→Nat) (tag:Nat) (t:TW) (c:Int) (G:GS) (b:Nat) (p:dG):Prop:=At own tag G b∧G.obj b=some (kq t c b p)
theorem kW.to (h:kW own tag t c G b p) (hn:G.nx≤G'.nx) (hk:∀ g,g<G.nx→own g=tag→G'.obj g=G.obj g) (a:bW own own' G):kW own' tag t c G' b p:=⟨h.1.to hn a,(hk _ h.1.lt h.1.tag).trans h.2⟩
theorem Rp (ae:FuncId→Bool) (h:PM own G m s) (hm:s.ok) (hp:p.ok) (ht:tag≠10) (hb:kW own tag t c G b p) :
  ∃ ah G1,(E ae).cl 294 [P0 b,P0 m] G=some (.bool (decide ((p.step t c s).1.line=9)),G1)∧PW (Own own tag) own G ah G1 m (p.step t c s).2∧kW ah tag t c G1 b (p.step t c s).1:=by
 have ws:∃ ah G1,(E ae).cl 226 [P0 b,P0 m] G=some (.bool (decide ((p.step t c s).1.line=9)),G1)∧PW (Own own tag) own G ah G1 m (p.step t c s).2∧kW ah tag t c G1 b (p.step t c s).1:=by
  obtain ⟨hb,ho⟩:=hb
  have x0:Ext G (G.room 11):=(Ext.refl G).room 11
  have w0:=(PW.refl (B:=Own own tag) h).de x0 tag
  have kE:=hb.gO x0 tag
  have o0:(G.room 11).obj b=some (kq t c b p):=by simpa using ho
  generalize grown own G tag=own0 at *
  rcases hp.line with e | e | e | e
  ·have ax:p.step t c s=(⟨2,(s.load t.u9).new % 4294967296⟩,s.load t.u9):=by unfold dG.step; simp [e]
   rw [ax]
   simp only
   obtain ⟨ah,G1,e1,w1⟩:=w0.pm.load ae t.u9
   have hu:=(hm.load t.u9).2
   generalize s.load t.u9=s' at *
   generalize s'.new=v at *
   have hv:=hu.1
   have hw:IntKind.wrap .u32 v=v % 4294967296:=wrap_u32 v
   have eQ:=w0.tr w1.any
   have bM:=kE.to w1.nx w1.aO.cd
   have o1:=(kE.keep ht w1).trans o0
   refine ⟨ah,(G1.put b (ub t c (cu 149 b) (cu 150 b) (cu 151 b) 0 (t.aW c) (v % 4294967296))).put b (kq t c b ⟨2,v % 4294967296⟩),f226 (ai Q ae) _ _ G _ ?_,(eQ.bf bM.tag ht _).bf bM.tag ht _,(bM.bC _ _).bC _ _,by simp⟩
   have e2:(E ae).cl 149 [P0 b,P0 m] (G.room 11)=some (.tuple #[],(G1.put b (ub t c (cu 149 b) (cu 150 b) (cu 151 b) 0 (t.aW c) (v % 4294967296))).put b (kq t c b ⟨2,v % 4294967296⟩)):=by
    refine f149 (ai Q ae) _ _ _ _ ?_
    simp [s149,o0,e1,o1,hw,e,lP]
    rfl
   simp [s226,ho,e,lP] at e2 ⊢
   simp [ho,e2,e,lP]
  ·have ax:p.step t c s=(⟨3,p.now⟩,s.store (t.aW c) (p.now+1)):=by unfold dG.step; simp [e]
   rw [ax]
   simp only
   have zm:Ext (G.room 11) ((G.room 11).room 12):=(Ext.refl _).room 12
   have Rq:=w0.de zm tag
   have Rr:=kE.gO zm tag
   have Rs:((G.room 11).room 12).obj b=some (kq t c b p):=by simpa using o0
   generalize grown own0 (G.room 11) tag=apR at *
   have apS:=hp.now
   have hw:IntKind.wrap .u64 p.now=p.now:=by rw [wrap_u64]; omega
   have Gj:IntKind.wrap .u64 (p.now+1)=p.now+1:=by rw [wrap_u64]; omega
   obtain ⟨ah,G1,e1,w1⟩:=Rq.pm.store ae (t.aW c) (p.now+1)
   generalize s.store (t.aW c) (p.now+1)=s' at *
   have eQ:=Rq.tr w1.any
   have bM:=Rr.to w1.nx w1.aO.cd
   have o1:=(Rr.keep ht w1).trans Rs
   refine ⟨ah,G1.put b (kq t c b ⟨3,p.now⟩),f226 (ai Q ae) _ _ G _ ?_,eQ.bf bM.tag ht _,bM.bC _ _,by simp⟩
   have e2:(E ae).cl 150 [P0 b,P0 m] (G.room 11)=some (.tuple #[],G1.put b (kq t c b ⟨3,p.now⟩)):=by
    refine f150 (ai Q ae) _ _ _ _ ?_
    simp [s150,Rs,hw,Gj,e1,o1,e,lP] at *
    rfl
   simp [s226,ho,e,lP] at e2 ⊢
   simp [ho,e2,e,lP]
  ·have ax:p.step t c s=(if (s.load t.u9).new % 4294967296=p.now then ⟨9,p.now⟩ else ⟨2,(s.load t.u9).new % 4294967296⟩,s.load t.u9):=by unfold dG.step; simp [e]
   rw [ax]
   simp only
   obtain ⟨ah,G1,e1,w1⟩:=w0.pm.load ae t.u9
   have hu:=(hm.load t.u9).2
   generalize s.load t.u9=s' at *
   generalize s'.new=v at *
   have hv:=hu.1
   have hw:IntKind.wrap .u32 v=v % 4294967296:=wrap_u32 v
   have eQ:=w0.tr w1.any
   have bM:=kE.to w1.nx w1.aO.cd
   have o1:=(kE.keep ht w1).trans o0
   by_cases k:v % 4294967296=p.now
   ·rw [if_pos k]
    have e3:(E ae).cl 148 [P0 b,.int .i64 0] G1=some (.tuple #[],(G1.put b (kq t c b ⟨9,p.now⟩)).put b (kq t c b ⟨9,p.now⟩)):=by
     refine f148 (ai Q ae) _ _ _ _ ?_
     simp [s148,o1,e,lP]
     rfl
    have e2:(E ae).cl 151 [P0 b,P0 m] (G.room 11)=some (.tuple #[],(G1.put b (kq t c b ⟨9,p.now⟩)).put b (kq t c b ⟨9,p.now⟩)):=by
     refine f151 (ai Q ae) _ _ _ _ ?_
     simp [s151,o0,e1,o1,hw,k,e3]
    refine ⟨ah,(G1.put b (kq t c b ⟨9,p.now⟩)).put b (kq t c b ⟨9,p.now⟩),f226 (ai Q ae) _ _ G _ ?_,(eQ.bf bM.tag ht _).bf bM.tag ht _,(bM.bC _ _).bC _ _,by simp⟩
    simp [s226,ho,e,lP] at e2 ⊢
    simp [ho,e2,e,lP]
   ·rw [if_neg k]
    refine ⟨ah,(G1.put b (ub t c (cu 149 b) (cu 150 b) (cu 151 b) 2 (t.aW c) (v % 4294967296))).put b (kq t c b ⟨2,v % 4294967296⟩),f226 (ai Q ae) _ _ G _ ?_,(eQ.bf bM.tag ht _).bf bM.tag ht _,(bM.bC _ _).bC _ _,by simp⟩
    have e2:(E ae).cl 151 [P0 b,P0 m] (G.room 11)=some (.tuple #[],(G1.put b (ub t c (cu 149 b) (cu 150 b) (cu 151 b) 2 (t.aW c) (v % 4294967296))).put b (kq t c b ⟨2,v % 4294967296⟩)):=by
     refine f151 (ai Q ae) _ _ _ _ ?_
     simp [s151,o0,e1,o1,hw,k,e,lP]
     rfl
    simp [s226,ho,e,lP] at e2 ⊢
    simp [ho,e2,e,lP]
  ·have ax:p.step t c s=(p,s):=by unfold dG.step; simp [e]
   rw [ax]
   refine ⟨own,G,f226 (ai Q ae) _ _ G _ ?_,.refl h,hb,ho⟩
   simp [s226,ho,e,lP]
 obtain ⟨ah,G1,e1,k⟩:=ws
 exact ⟨ah,G1,f294 (ai Q ae) _ _ G _ (by simp [s294,e1]),k⟩
end
abbrev bH (mk by_ th now:Value) (md:Bool):aR:=⟨[mk,by_,th,now,.bool md],1,false,1⟩
abbrev bu (f:FuncId) (b:Nat):Value:=.func (.func f) #[] #[P0 b]
abbrev cP (t:TW) (c p:Int) (parts:Value) (by_ ik ij ie:Int):aR:=⟨[.int .i64 t.nodes,.int .i64 t.cn,.int .i64 t.ay,.int .i64 t.top,.int .i64 t.links,.int .i64 t.size,.int .i64 t.u6,.int .i64 t.u7,.int .i64 t.u8,.int .i64 t.u9,.int .i64 t.u10,.int .i64 t.u11,.int .i64 t.u12,.int .i64 c,.bool true,.int .i64 p,parts,.int .u64 by_,.int .i64 0,.int .u64 ik,.int .i64 ij,.int .i64 ie],1,false,1⟩
abbrev Bq (own:Nat→Nat) (tg lb pb:Nat):Nat→Prop:=fun x=>x=lb∨x=pb∨own x=tg
section
variable {own own' own0 ah aG:Nat→Nat} {tag tg m r b lb pb wb q:Nat} {t:TW} {c p0 by_ ik ij ie:Int} {parts:Value} {G G' G1 G2:GS} {s s' s1:MS} {x:dG}
theorem PW.sub {B:Nat→Prop} {s0:MS} (w:PW B own G ah G1 m s0) (k:PW (Own ah tg) ah G1 aG G2 m s') (hB:∀ x,x<G.nx→own x=tg→B x):PW B own G aG G2 m s':=w.trans k fun x hx h=>hB x hx ((w.aO.same hx).symm.trans h)
theorem Rt (ae:FuncId→Bool) (ho:G.obj q=some (kq t c q x)) (hl:x.line=9) (hx:x.ok):(E ae).cl 114 [P0 q] G=some (.tuple #[.int .i64 x.now,.int .i64 0],G):=by
 have e1:(E ae).cl 152 [P0 q] G=some (.int .i64 0,G):=f152 (ai Q ae) _ G _ (by simp [s152,ho,hl,lP])
 have hn:=hx.now
 have hw:IntKind.wrap .i64 x.now=x.now:=wrap64 (by omega) (by omega)
 exact f114 (ai Q ae) _ G _ (by simp [s114,e1,ho,hw])
theorem abO (ae:FuncId→Bool) (q m:Nat) (G:GS):dS Q (aC Q ae) (.iface 188 (P0 q)) "Step" [P0 m] G=(E ae).cl 294 [P0 q,P0 m] G:=by kernel_rfl
theorem abP (ae:FuncId→Bool) (q m:Nat) (G:GS):dS Q (aC Q ae) (.iface 214 (P0 q)) "Step" [P0 m] G=(E ae).cl 299 [P0 q,P0 m] G:=by kernel_rfl
theorem abQ (ae:FuncId→Bool) (q m:Nat) (G:GS):dS Q (aC Q ae) (.iface 148 (P0 q)) "Step" [P0 m] G=(E ae).cl 267 [P0 q,P0 m] G:=by kernel_rfl
abbrev ud (ae:FuncId→Bool) (run step:FuncId):Prop:=∀ {m pb q:Nat} {G Gm G1 G2 G3:GS} {mk dQ df now:Value} {is md:Bool} {by_:Int} (op:G.obj pb=some (bH mk dQ df now md))
  (hm:(md=true∧now=P0 q∧Gm=G)∨(md=false∧∃ F a c G0,mk= .func (.func F) a c∧(dQ= .nilFunc∨∃ F a c,dQ= .func (.func F) a c)∧(df= .nilFunc∨∃ F a c,df= .func (.func F) a c)∧dO (E ae) mk [] G=some (P0 q,G0)∧G0.obj pb=some (bH mk dQ df now md)∧Gm=(G0.put pb (bH mk dQ df (P0 q) false)).put pb (bH mk dQ df (P0 q) true)))
  (oK:Gm.obj pb=some (bH mk dQ df (P0 q) true))
  (e1:(E ae).cl step [P0 q,P0 m] Gm=some (.bool is,G1)) (dF:G1.obj pb=some (bH mk dQ df (P0 q) true))
  (hb:(dQ= .nilFunc∧by_=0∧G2=G1)∨∃ F,dQ= .func (.func F) #[] #[]∧(E ae).cl F [P0 q] (G1.room 10)=some (.int .u64 by_,G2)) (cV:G2.obj pb=some (bH mk dQ df (P0 q) true))
  (ht:((is=false∨df= .nilFunc)∧(df= .nilFunc∨∃ F a c,df= .func (.func F) a c)∧G3=G2)∨(is=true∧∃ F a c,df= .func (.func F) a c∧dO (E ae) df [P0 q] (G2.room 9)=some (.tuple #[],G3))),
  (E ae).cl run [P0 pb,P0 m] G=some (.tuple #[.bool is,.int .u64 by_],G3)
theorem zt {ae:FuncId→Bool} {run step ty:FuncId} {S:Value→Value→GS→OG} (hf:∀ v0 v1 G,Ref (S v0 v1 G) ((E ae).cl run [v0,v1] G)) (inv:∀ q m G,dS Q (aC Q ae) (.iface ty (P0 q)) "Step" [P0 m] G=(E ae).cl step [P0 q,P0 m] G)
  (key:∀ {m pb q:Nat} {G Gm G1 G2 G3:GS} {mk dQ df now:Value} {is md:Bool} {by_:Int},G.obj pb=some (bH mk dQ df now md) →
   ((md=true∧now=P0 q∧Gm=G)∨(md=false∧∃ F a c G0,mk= .func (.func F) a c∧one dQ=true∧one df=true∧dO (E ae) mk [] G=some (P0 q,G0)∧G0.obj pb=some (bH mk dQ df now md)∧Gm=(G0.put pb (bH mk dQ df (P0 q) false)).put pb (bH mk dQ df (P0 q) true))) →
   Gm.obj pb=some (bH mk dQ df (P0 q) true)→dS Q (aC Q ae) (.iface ty (P0 q)) "Step" [P0 m] Gm=some (.bool is,G1)→G1.obj pb=some (bH mk dQ df (P0 q) true) →
   ((dQ= .nilFunc∧by_=0∧G2=G1)∨∃ F,dQ= .func (.func F) #[] #[]∧dO (aC Q ae) (.func (.func F) #[] #[]) [P0 q] (G1.room 10)=some (.int .u64 by_,G2))→G2.obj pb=some (bH mk dQ df (P0 q) true) →
   ((df= .nilFunc∧G3=G2)∨(is=false∧(∃ F a c,df= .func (.func F) a c)∧G3=G2)∨(is=true∧∃ F a c,df= .func (.func F) a c∧dO (aC Q ae) df [P0 q] (G2.room 9)=some (.tuple #[],G3))) →
   S (P0 pb) (P0 m) G=some (.tuple #[.bool is,.int .u64 by_],G3):=by
    intro m pb q G Gm G1 G2 G3 mk dQ df now is md by_ op hm oK e1 dF hb cV ht
    rcases hm with ⟨rfl,rfl,rfl⟩ | ⟨rfl,F,a,c,G0,rfl,b1,b2,e0,o0,hG⟩<;>rcases hb with ⟨rfl,rfl,rfl⟩ | ⟨F',rfl,e2⟩<;>rcases ht with ⟨rfl,rfl⟩ | ⟨rfl,⟨F'',a',c',rfl⟩,rfl⟩ | ⟨rfl,F'',a',c',rfl,e3⟩
    all_goals try cases is
    all_goals first | (have M0:=hG.symm; clear hG; simp [*,-jq]) | simp [*,-jq]):ud ae run step:=by
 intro m pb q G Gm G1 G2 G3 mk dQ df now is md by_ op hm oK e1 dF hb cV ht
 have so:∀ {v:Value},(v= .nilFunc∨∃ F a c,v= .func (.func F) a c)→one v=true:=fun h=>by rcases h with rfl | ⟨F,a,c,rfl⟩<;>rfl
 refine hf _ _ G _ (key op (hm.imp id fun ⟨h,F,a,c,G0,h1,h2,h3,h4⟩=>⟨h,F,a,c,G0,h1,so h2,so h3,h4⟩) oK ((inv _ _ _).trans e1) dF (hb.imp id fun ⟨F,h,k⟩=>⟨F,h,by rw [jq]; exact k⟩) cV ?_)
 rcases ht with ⟨h1,h2,h3⟩ | h
 ·rcases h2 with h2 | h2
  ·exact .inl ⟨h2,h3⟩
  ·obtain ⟨F,a,c,rfl⟩:=h2
   exact .inr (.inl ⟨h1.elim id fun k=>(by cases k),⟨F,a,c,rfl⟩,h3⟩)
 ·exact .inr (.inr h)
def ue (ae:FuncId→Bool) (step:FuncId) (pb m q:Nat) (mk dQ df:Value) (is:Bool) (by_:Int) (Gm G3:GS):Prop:=∃ G1 G2,(E ae).cl step [P0 q,P0 m] Gm=some (.bool is,G1)∧G1.obj pb=some (bH mk dQ df (P0 q) true) ∧
 ((dQ= .nilFunc∧by_=0∧G2=G1)∨∃ F,dQ= .func (.func F) #[] #[]∧(E ae).cl F [P0 q] (G1.room 10)=some (.int .u64 by_,G2))∧G2.obj pb=some (bH mk dQ df (P0 q) true) ∧
 (((is=false∨df= .nilFunc)∧(df= .nilFunc∨∃ F a c,df= .func (.func F) a c)∧G3=G2)∨(is=true∧∃ F a c,df= .func (.func F) a c∧dO (E ae) df [P0 q] (G2.room 9)=some (.tuple #[],G3)))
theorem ue.made {ae:FuncId→Bool} {run step:FuncId} {pb m q:Nat} {mk dQ df:Value} {is:Bool} {by_:Int} {G G3:GS} (h:ue ae step pb m q mk dQ df is by_ G G3) (r:ud ae run step) (op:G.obj pb=some (bH mk dQ df (P0 q) true)):(E ae).cl run [P0 pb,P0 m] G=some (.tuple #[.bool is,.int .u64 by_],G3):=by
 obtain ⟨G1,G2,h1,h2,h3,h4,h5⟩:=h
 exact r op (.inl ⟨rfl,rfl,rfl⟩) op h1 h2 h3 h4 h5
theorem ue.make {ae:FuncId→Bool} {run step F:FuncId} {a c:Array Value} {pb m q:Nat} {dQ df now:Value} {is:Bool} {by_:Int} {G G0 Gm G3:GS} (h:ue ae step pb m q (.func (.func F) a c) dQ df is by_ Gm G3) (r:ud ae run step) (op:G.obj pb=some (bH (.func (.func F) a c) dQ df now false))
  (hb:dQ= .nilFunc∨∃ F a c,dQ= .func (.func F) a c) (ht:df= .nilFunc∨∃ F a c,df= .func (.func F) a c) (e0:(E ae).cl F (a.toList++c.toList) G=some (P0 q,G0)) (o0:G0.obj pb=some (bH (.func (.func F) a c) dQ df now false))
  (hG:Gm=(G0.put pb (bH (.func (.func F) a c) dQ df (P0 q) false)).put pb (bH (.func (.func F) a c) dQ df (P0 q) true)):(E ae).cl run [P0 pb,P0 m] G=some (.tuple #[.bool is,.int .u64 by_],G3):=by
 obtain ⟨G1,G2,h1,h2,h3,h4,h5⟩:=h
 exact r op (.inr ⟨rfl,F,a,c,G0,rfl,hb,ht,by rw [jq]; simpa using e0,o0,hG⟩) (by rw [hG]; simp) h1 h2 h3 h4 h5
section
attribute [local simp] s293 s297 s266
theorem EF (ae:FuncId→Bool):ud ae 293 294:=zt (f293 (ai Q ae)) (abO ae)
theorem Ru (ae:FuncId→Bool):ud ae 297 299:=zt (f297 (ai Q ae)) (abP ae)
theorem Rv (ae:FuncId→Bool):ud ae 266 267:=zt (f266 (ai Q ae)) (abQ ae)
end
theorem Rw (ae:FuncId→Bool) (h:PM own G m s) (hm:s.ok) (hx:x.ok) (h10:tg≠10) (aV:tag≠tg) (ht:tag≠10)
  (ap:At own tag G pb) (al:At own tag G lb) (aw:At own tag G wb) (d1:lb≠pb) (d2:wb≠lb) (d3:wb≠pb)
  (op:G.obj pb=some (bH (bu 111 wb) .nilFunc (bu 113 wb) (P0 q) true)) (ol:G.obj lb=some (cP t c p0 parts by_ ik ij ie)) (ow:G.obj wb=some ⟨[P0 lb],1,false,1⟩) (hq:kW own tg t c G q x) :
  ∃ ah G1 p1,ue ae 294 pb m q (bu 111 wb) .nilFunc (bu 113 wb) (decide ((x.step t c s).1.line=9)) 0 G G1∧PW (Bq own tg lb pb) own G ah G1 m (x.step t c s).2∧kW ah tg t c G1 q (x.step t c s).1 ∧
   G1.obj pb=some (bH (bu 111 wb) .nilFunc (bu 113 wb) (P0 q) true)∧G1.obj lb=some (cP t c p1 parts by_ ik ij ie):=by
 have fF:=(hx.step (t:=t) (c:=c) hm).1
 obtain ⟨ah,G1,e1,w1,k1⟩:=Rp ae h hm hx h10 hq
 generalize (x.step t c s).2=s' at *
 generalize (x.step t c s).1=x' at *
 have kp:∀ {g},At own tag G g→G1.obj g=G.obj g:=fun a=>w1.tV a.lt a.tag ht aV
 have dF:=(kp ap).trans op
 have g8:=(kp al).trans ol
 have lQ:=(kp aw).trans ow
 have eQ:PW (Bq own tg lb pb) own G ah G1 m s':=w1.mono fun _ _ h=>.inr (.inr h)
 by_cases hl:x'.line=9
 ·have x2:Ext G1 ((G1.room 9).room 9):=((Ext.refl G1).room 9).room 9
  have w2:=eQ.de x2 13
  have e3:=Rt ae (G:=(G1.room 9).room 9) (by simpa using k1.2) hl fF
  have aJ:=al.lt
  have sg:q≠lb:=fun k=>by have:=hq.1.tag; rw [k,al.tag] at this; exact aV this
  have kX:q≠pb:=fun k=>by have:=hq.1.tag; rw [k,ap.tag] at this; exact aV this
  have k2:kW (grown ah G1 13) tg t c ((G1.room 9).room 9) q x':=k1.to x2.nx (fun g _ _=>by simp) db
  have a2:=al.to (w1.nx) w1.aO.cd
  refine ⟨grown ah G1 13,((G1.room 9).room 9).put lb (cP t c x'.now parts by_ ik ij ie),x'.now,?_,w2.put (.inl (.inl rfl)) (fun _=>by rw [db _ a2.lt,a2.tag]; exact ht) _,⟨k2.1.bC _ _,by rw [aT,if_neg sg]; exact k2.2⟩,by rw [aT,if_neg d1.symm]; simpa using dF,by simp⟩
  have e2:(E ae).cl 113 [P0 q,P0 wb] (G1.room 9)=some (.tuple #[],((G1.room 9).room 9).put lb (cP t c x'.now parts by_ ik ij ie)):=by
   refine f113 (ai Q ae) _ _ _ _ ?_
   simp [s113,lQ,e3,g8,br,same,cm]
  exact ⟨_,_,e1,dF,.inl ⟨rfl,rfl,rfl⟩,dF,.inr ⟨by simp [hl],_,_,_,rfl,by rw [jq]; exact e2⟩⟩
 ·refine ⟨ah,G1,p0,?_,eQ,k1,dF,g8⟩
  exact ⟨_,_,e1,dF,.inl ⟨rfl,rfl,rfl⟩,dF,.inl ⟨.inl (by simp [hl]),.inr ⟨_,_,_,rfl⟩,rfl⟩⟩
def oL (own:Nat→Nat) (tg:Nat) (t:TW) (c:Int) (G:GS) (now:Value) (md:Bool) (x:dG):Prop:=(md=false∧x= .new)∨(md=true∧∃ q,now=P0 q∧kW own tg t c G q x)
theorem abR (ae:FuncId→Bool) (hc:0≤c∧c<t.u11) (h:PM own G m s) (hm:s.ok) (hx:x.ok) (h10:tg≠10) (aV:tag≠tg) (ht:tag≠10)
  (ap:At own tag G pb) (al:At own tag G lb) (aw:At own tag G wb) (d1:lb≠pb) (d2:wb≠lb) (d3:wb≠pb) {now:Value} {md:Bool}
  (op:G.obj pb=some (bH (bu 111 wb) .nilFunc (bu 113 wb) now md)) (ol:G.obj lb=some (cP t c p0 parts by_ ik ij ie)) (ow:G.obj wb=some ⟨[P0 lb],1,false,1⟩) (hq:oL own tg t c G now md x) :
  ∃ ah G1 p1 q,(E ae).cl 293 [P0 pb,P0 m] G=some (.tuple #[.bool (decide ((x.step t c s).1.line=9)),.int .u64 0],G1)∧PW (Bq own tg lb pb) own G ah G1 m (x.step t c s).2∧kW ah tg t c G1 q (x.step t c s).1 ∧
   G1.obj pb=some (bH (bu 111 wb) .nilFunc (bu 113 wb) (P0 q) true)∧G1.obj lb=some (cP t c p1 parts by_ ik ij ie):=by
 rcases hq with ⟨rfl,rfl⟩ | ⟨rfl,q,rfl,hq⟩
 ·have x0:Ext G (G.room 12):=(Ext.refl G).room 12
  obtain ⟨q,G1,e1,x1,q1,o1⟩:=Rn ae hc (G.room 12)
  have e2:(E ae).cl 111 [P0 wb] G=some (P0 q,G1):=by
   refine f111 (ai Q ae) _ G _ ?_
   simp [s111,ow,ol,e1]
  have y1:=x0.trans x1
  have tB:G.nx≤q:=by have:=q1.1; simp at this; omega
  obtain ⟨G2,aD⟩:∃ G2,G2=(G1.put pb (bH (bu 111 wb) .nilFunc (bu 113 wb) (P0 q) false)).put pb (bH (bu 111 wb) .nilFunc (bu 113 wb) (P0 q) true):=⟨_,rfl⟩
  have a1:∀ {g},At own tag G g→At (grown own G tg) tag G1 g:=fun a=>a.to y1.nx db
  have w1:PW (Bq own tg lb pb) own G (grown own G tg) G1 m s:=(PW.refl h).de y1 tg
  have w2:PW (Bq own tg lb pb) own G (grown own G tg) G2 m s:=by
   rw [aD]
   exact (w1.put (.inl (.inr (.inl rfl))) (fun _=>by rw [(a1 ap).tag]; exact ht) _).put (.inl (.inr (.inl rfl))) (fun _=>by rw [(a1 ap).tag]; exact ht) _
  have n2:G2.nx=G1.nx:=by rw [aD]; rfl
  have b2:∀ {g},At own tag G g→At (grown own G tg) tag G2 g:=fun a=>⟨by rw [n2]; exact (a1 a).lt,(a1 a).tag⟩
  have eV:G2.obj lb=some (cP t c p0 parts by_ ik ij ie):=by rw [aD,aT,if_neg d1,aT,if_neg d1]; exact (y1.obj _ al.lt).trans ol
  have oM:G2.obj wb=some ⟨[P0 lb],1,false,1⟩:=by rw [aD,aT,if_neg d3,aT,if_neg d3]; exact (y1.obj _ aw.lt).trans ow
  have cV:G2.obj pb=some (bH (bu 111 wb) .nilFunc (bu 113 wb) (P0 q) true):=by rw [aD]; simp
  have kX:q≠pb:=by have:=ap.lt; omega
  have B1:kW (grown own G tg) tg t c G2 q .new:=⟨⟨by rw [n2]; exact q1.2,gx tB⟩,by rw [aD,aT,if_neg kX,aT,if_neg kX]; exact o1⟩
  have dF:=(y1.obj _ ap.lt).trans op
  obtain ⟨bB,G3,p3,e3,w3,k3,gg,ft⟩:=Rw ae w2.pm hm hx h10 aV ht (b2 ap) (b2 al) (b2 aw) d1 d2 d3 cV eV oM B1
  refine ⟨bB,G3,p3,q,e3.make (EF ae) op (.inl rfl) (.inr ⟨_,_,_,rfl⟩) (by simpa using e2) dF aD,w2.trans w3 ?_,k3,gg,ft⟩
  intro x hx k
  rcases k with k | k | k
  ·exact .inl k
  ·exact .inr (.inl k)
  ·exact .inr (.inr ((db _ hx).symm.trans k))
 ·obtain ⟨bB,G3,p3,e3,w3,k3,gg,ft⟩:=Rw ae h hm hx h10 aV ht ap al aw d1 d2 d3 op ol ow hq
  exact ⟨bB,G3,p3,q,e3.made (EF ae) op,w3,k3,gg,ft⟩
end
end Go.Proofs.YtphandknhnkhfaaGreat.Lift
