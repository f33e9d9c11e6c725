import Derived.Test.YtkhlabammcghbaaGreatPF
import Derived.Test.YtkhlabammcghbaaGreatPC
import Derived.Test.YtkhlabammcghbaaGreatGhPD
set_option linter.unusedVariables false
set_option linter.unusedSimpArgs false
set_option maxRecDepth 20000
namespace Go.Proofs.YtkhlabammcghbaaGreat.Lift
open Go Go.Proofs.YtkhlabammcghbaaGreat.Gh Go.Proofs
section
variable {own:Nat→Nat} {G G':GS} {m:Nat} {t:TW} {s:MS} {w:Value} {i l k:Int}
theorem TS (ae:FuncId→Bool) (aZ:ae 107=false) (t:TW) {w:Int} (hU:U w) (G:GS):∃ G',(E ae).cl 66 [t.v,.int .u64 w] G=some (.int .i64 (aF t.size w),G')∧Ext G G':=by
 obtain ⟨G1,ak⟩:∃ G1,G1=G.push ⟨t.cells,1,false,1⟩:=⟨_,rfl⟩
 have x1:Ext G G1:=by rw [ak]; exact (Ext.refl G).push _
 have n1:G1.nx=G.nx+1:=by rw [ak]; rfl
 have o1:G1.obj G.nx=some ⟨t.cells,1,false,1⟩:=by rw [ak]; simp
 obtain ⟨G3,e3,x3⟩:=xC ae aZ hU G1
 have o3:=(x3.obj G.nx (by omega)).trans o1
 have aB:¬ G.nx=G3.nx:=by have:=x3.nx; omega
 have w:Wp (s66 true (bD Q ae) t.v (.int .u64 w) G) fun r=>r.1= .int .i64 (aF t.size w)∧Ext G r.2:=by
  unfold aF
  by_cases a2:t.size≤w % 65536 - 1
  ·simp [s66,← ak,e3,o3,aB,gW,rE,rF,a2]
   exact ((x1.trans x3).push _).put (by have:=(x1.trans x3).nx; omega) _
  ·simp [s66,← ak,e3,o3,aB,gW,rE,rF,a2]
   exact ((x1.trans x3).push _).put (by have:=(x1.trans x3).nx; omega) _
 obtain ⟨⟨v,G'⟩,e1,rfl,e4⟩:=w
 exact ⟨G',f66 (aq Q ae) _ _ G _ e1,e4⟩
theorem Li (ae:FuncId→Bool) (h:bT (bh .u64) G w s.W) (hl:s.W.length≤4096) (k:Int):(E ae).cl 40 [w,.int .i64 k] G=some (.int .u64 (s.aS k),G):=by
 obtain ⟨a,c,e⟩:=h.len
 have ll:∀ q,ln Q true q w=some (.int .i64 s.W.length):=fun q=>by rw [e]; simp
 refine f40 (aq Q ae) _ _ G _ ?_
 by_cases h0:k<0
 ·have:s.aS k=0:=by unfold MS.aS; rw [if_neg (by omega)]
  simp [s40,h0,this]
 by_cases h1:(s.W.length:Int)≤k
 ·have:s.aS k=0:=by unfold MS.aS; rw [if_neg (by omega)]
  simp [s40,h0,ll,h1,this]
 obtain ⟨n,rfl⟩:∃ n:Nat,k=n:=⟨k.toNat,by omega⟩
 have aT:n<s.W.length:=by omega
 have ha:s.aS (n:Int)=s.W[n]:=by unfold MS.aS; rw [if_pos (by omega),Int.toNat_natCast,List.getElem?_eq_getElem aT]; rfl
 obtain ⟨b,o,c',e0,TT,q0,q1⟩:=h.at aT
 have c0:=q0 0 (by decide)
 simp [-xy,bh] at c0
 rw [e0] at ll e ⊢
 have n0:(0:Int)≤n:=by omega
 simp [-Int.natCast_add,-xy,s40,h0,ll,h1,aT,n0,ha,c0]
end
section
variable {t:TW} {s:MS} {B:GS} {ob l:Nat} {r:Lp} {f:Int→List Int} {lv:Int} {w:Value} {tb mb lb:Nat}
theorem acM (ae:FuncId→Bool) (aZ:ae 107=false) (hs:t.sound) (hm:s.ok) (hf:∀ i,(f i).length≤1) (l0:0≤lv∧lv<4)
  (rd:∀ (G:GS) (L:List Int) (i:Int),fY (bh .i64) B ob l r G L→L.length≤200→Wp ((E ae).rd l [.int .i64 i] G) fun q=>q.1= .bool true∧fY (bh .i64) B ob l r q.2 (L++f i))
  (ht:tb<B.nx∧tb≠ob∧B.obj tb=some ⟨t.cells,1,false,1⟩) (jo:mb<B.nx∧mb≠ob∧B.obj mb=some ⟨[w],1,false,1⟩) (Ag:lb<B.nx∧lb≠ob∧B.obj lb=some ⟨[.int .i64 lv],1,false,1⟩) (hw:bT (bh .u64) B w s.W) (aB:¬ iA w ob) :
  ∀ (k n:Nat) (i:Int) (τ:Env) (G:GS) (L:List Int),n+k=t.size.toNat→τ 0= .func (.yield l) #[] #[]→τ 1=P0 tb→τ 2=P0 mb→τ 3=P0 lb→τ 5= .int .i64 i→τ 6= .int .i64 n→fY (bh .i64) B ob l r G L→L.length≤n →
  Wp ((bD Q ae).dj 76 0 τ G) fun q=>q.1= .exit 0∧fY (bh .i64) B ob l r q.2.2 (L++(oP t s lv k i).flatMap f):=by
 have z1:=hs.2.2.2.1
 have z2:=hs.2.2.1
 intro k
 induction k with
 | zero =>
  intro n i τ G L hn t0 t1 t2 t3 t5 t6 hc hL
  have q1:=(hc.obj _ ht.1 ht.2.1).trans ht.2.2
  have fT:(n:Int)=t.size:=by omega
  refine Wp.lp (Rg (aq Q ae)) ?_
  by_cases hi:0≤i
  ·simp [Ca,aw,t0,t1,t2,t3,t5,t6,hi,q1,fT,oP]
   exact hc
  ·simp [Ca,aw,t0,t1,t2,t3,t5,t6,hi,oP]
   exact hc
 | succ k ih =>
  intro n i τ G L hn t0 t1 t2 t3 t5 t6 hc hL
  have q1:=(hc.obj _ ht.1 ht.2.1).trans ht.2.2
  have fT:(n:Int)<t.size:=by omega
  have pL:IntKind.wrap .i64 ((n:Int)+1)=((n+1:Nat):Int):=wrap64 (by omega) (by omega)
  refine Wp.lp (Rg (aq Q ae)) ?_
  by_cases hi:0≤i
  ·obtain ⟨⟨v,G1⟩,e1,rfl,c1⟩:=rd G L i hc (by omega)
   have c2:=c1.ext ((Ext.refl G1).room 9)
   have q2:=(c2.obj _ ht.1 ht.2.1).trans ht.2.2
   have q3:=(c2.obj _ jo.1 jo.2.1).trans jo.2.2
   have q4:=(c2.obj _ Ag.1 Ag.2.1).trans Ag.2.2
   obtain ⟨G3,e3,x3⟩:=jM ae t i lv (G1.room 9)
   have c3:=c2.ext x3
   have q5:=(c3.obj _ ht.1 ht.2.1).trans ht.2.2
   have q6:=(c3.obj _ jo.1 jo.2.1).trans jo.2.2
   have hw3:=c3.JY hw aB
   have e4:=Li ae hw3 hm.2 (aN t i lv)
   obtain ⟨G5,e5,x5⟩:=TS ae aZ t (hm.aS (aN t i lv)) G3
   have c5:=c3.ext x5
   have jX:aN t i lv=az t i (4+lv):=by unfold aN; rw [if_pos l0]
   have wF:oP t s lv (k+1) i=i::oP t s lv k (aF t.size (s.aS (aN t i lv))):=by
    show (if i<0 then [] else i::oP t s lv k (aF t.size (vw t s i (4+lv))))=_
    rw [if_neg (by omega),jX]; rfl
   have lL:(L++f i).length≤n+1:=by have:=hf i; simp; omega
   have go:=fun τ a b c d e f'=>ih (n+1) (aF t.size (s.aS (aN t i lv))) τ G5 (L++f i) (by omega) a b c d e f' c5 lL
   have sw:bp (some w) w=true:=JX hw
   rw [wF,List.flatMap_cons,← List.append_assoc]
   simp [-Int.natCast_add,-List.append_assoc,Ca,aw,t0,t1,t2,t3,t5,t6,hi,q1,fT,e1,q2,q3,q4,e3,q5,q6,sw,e4,e5,pL]
   refine go _ ?_ ?_ ?_ ?_ ?_ ?_<;>simp [aw]
  ·have wF:oP t s lv (k+1) i=[]:=if_pos (by omega)
   rw [wF]
   simp [Ca,aw,t0,t1,t2,t3,t5,t6,hi]
   exact hc
end
theorem acN (k:IntKind):(bh k).sz=1:=rfl
theorem TU (k:IntKind) (x:Int):(bh k).row x=[.int k x]:=rfl
section
variable {t:TW} {s:MS} {B:GS} {ob l:Nat} {r:Lp} {f:Int→List Int} {lv:Int} {w:Value} {tb mb lb:Nat} {own:Nat→Nat} {G:GS} {m:Nat}
theorem acO (ae:FuncId→Bool) (aZ:ae 107=false) (hs:t.sound) (hm:s.ok) (hf:∀ i,(f i).length≤1) (l0:0≤lv∧lv<4)
  (rd:∀ (G:GS) (L:List Int) (i:Int),fY (bh .i64) B ob l r G L→L.length≤200→Wp ((E ae).rd l [.int .i64 i] G) fun q=>q.1= .bool true∧fY (bh .i64) B ob l r q.2 (L++f i))
  (ht:tb<B.nx∧tb≠ob∧B.obj tb=some ⟨t.cells,1,false,1⟩) (jo:mb<B.nx∧mb≠ob∧B.obj mb=some ⟨[w],1,false,1⟩) (Ag:lb<B.nx∧lb≠ob∧B.obj lb=some ⟨[.int .i64 lv],1,false,1⟩) (hw:bT (bh .u64) B w s.W) (aB:¬ iA w ob) (c0:fY (bh .i64) B ob l r B []) :
  Wp ((E ae).cl 76 [.func (.yield l) #[] #[],P0 tb,P0 mb,P0 lb] B) fun q=>q.1= .tuple #[]∧fY (bh .i64) B ob l r q.2 ((CF t s lv).flatMap f):=by
 have c2:=c0.ext ((Ext.refl B).room 8)
 obtain ⟨G3,e3,x3⟩:=jM ae t (-1) lv (B.room 8)
 have c3:=c2.ext x3
 have q5:=(c3.obj _ ht.1 ht.2.1).trans ht.2.2
 have q6:=(c3.obj _ jo.1 jo.2.1).trans jo.2.2
 have e4:=Li ae (c3.JY hw aB) hm.2 (aN t (-1) lv)
 obtain ⟨G5,e5,x5⟩:=TS ae aZ t (hm.aS (aN t (-1) lv)) G3
 have c5:=c3.ext x5
 have sw:bp (some w) w=true:=JX hw
 have jX:aN t (-1) lv=az t (-1) (4+lv):=by unfold aN; rw [if_pos l0]
 have nG:CF t s lv=oP t s lv t.size.toNat (aF t.size (s.aS (aN t (-1) lv))):=by rw [jX]; rfl
 have go:=fun τ a b c d e f'=>acM ae aZ hs hm hf l0 rd ht jo Ag hw aB t.size.toNat 0 (aF t.size (s.aS (aN t (-1) lv))) τ G5 [] (by omega) a b c d e f' c5 (by simp)
 refine Wp.ref (f76 (aq Q ae) _ _ _ _ B) ?_
 simp [s76,ht.2.2,jo.2.2,Ag.2.2,e3,q5,q6,sw,e4,e5]
 refine Wp.bE ((go _ ?_ ?_ ?_ ?_ ?_ ?_).mono ?_)
 all_goals try (simp [aw]; done)
 rintro ⟨e,τ,G'⟩ ⟨rfl,h2⟩
 simp
 rw [nG]
 exact h2
theorem acP (ae:FuncId→Bool) {W:List Int} (hw:bT (bh .u64) G w W) (t:TW) (lv:Int) (G:GS):(E ae).cl 38 [w,t.v,.int .i64 lv] G=some (.func (.func 76) #[] #[P0 (G.nx+1),P0 G.nx,P0 (G.nx+2)],((G.push ⟨[w],1,false,1⟩).push ⟨t.cells,1,false,1⟩).push ⟨[.int .i64 lv],1,false,1⟩):=by
 obtain ⟨a,c,rfl⟩:=hw.len
 refine f38 (aq Q ae) _ _ _ G _ ?_
 simp [s38,Nat.add_assoc]
noncomputable abbrev jQ (T:List Value):Lp:=⟨.ready,none,T,[17],(aU [1,1,1,1,0,1,0,0] (aL Tryz.f10)),(aU [1,1,1,1,0,1,0,1] (aL Tryz.f10))⟩
def uo (t:TW) (s:MS) (i:Int):List Int:=if vw t s i 4<aM then [i] else []
theorem acQ (t:TW) (s:MS) (L:List Int):L.flatMap (uo t s)=L.filter fun i=>decide (vw t s i 4<aM):=by
 induction L with
 | nil=>rfl
 | cons a L ih =>
  rw [List.flatMap_cons,ih]
  unfold uo
  by_cases h:vw t s a 4<aM
  ·rw [if_pos h,List.filter_cons_of_pos (by simpa using h)]; rfl
  ·rw [if_neg h,List.filter_cons_of_neg (by simpa using h)]; rfl
theorem acR (ae:FuncId→Bool) (hm:s.ok) {T:List Value} {L:List Int} (hT:T.length=30) (t2:nth undef T 2=P0 tb) (t5:nth undef T 5=P0 ob) (t6:nth undef T 6=P0 mb)
  (ht:tb<B.nx∧tb≠ob∧B.obj tb=some ⟨t.cells,1,false,1⟩) (jo:mb<B.nx∧mb≠ob∧B.obj mb=some ⟨[w],1,false,1⟩) (hw:bT (bh .u64) B w s.W) (aB:¬ iA w ob) (hc:fY (bh .i64) B ob l (jQ T) G L) (hL:L.length≤200) (i:Int) :
  Wp ((E ae).rd l [.int .i64 i] G) fun q=>q.1= .bool true∧fY (bh .i64) B ob l (jQ T) q.2 (L++uo t s i):=by
 refine Wp.ref (Z8 (aq Q ae) l T _ G hc.lp hT) ?_
 have c1:=(hc.bO (Lp.gf (jQ T) .busy)).ext ((Ext.refl _).room 7)
 have q1:=(c1.obj _ ht.1 ht.2.1).trans ht.2.2
 have q2:=(c1.obj _ jo.1 jo.2.1).trans jo.2.2
 obtain ⟨G3,e3,x3⟩:=jM ae t i 0 ((G.bR l (Lp.gf (jQ T) .busy)).room 7)
 have c3:=c1.ext x3
 have q6:=(c3.obj _ jo.1 jo.2.1).trans jo.2.2
 have e4:=Li ae (c3.JY hw aB) hm.2 (aN t i 0)
 have e5:=vE ae (hm.aS (aN t i 0)) G3
 have sw:bp (some w) w=true:=JX hw
 have jX:s.aS (aN t i 0)=vw t s i 4:=by unfold aN; rw [if_pos ⟨by decide,by decide⟩]; rfl
 rw [jX] at e4 e5
 by_cases hk:aM≤vw t s i 4
 ·have iI:(9223372036854775808:Int)≤vw t s i 4:=hk
  have hf:uo t s i=[]:=by unfold uo; rw [if_neg (by omega)]
  have ua:(me l .normal G3)=some (.bool true,G3.bR l (jQ T)):=by
   rw [BJ l .normal _ (j:=none) rfl (r:=Lp.gf (jQ T) .busy) (by simpa using c3.lp)]
   rfl
  rw [hf,List.append_nil]
  simp only [zf,IQ] at q1 q2
  simp [zz,t2,t5,t6,hc.lp,q1,q2,e3,q6,sw,e4,e5,iI,ua]
  exact c3.bO (jQ T)
 ·have iI:¬ (9223372036854775808:Int)≤vw t s i 4:=hk
  have hf:uo t s i=[i]:=by unfold uo; rw [if_pos (by omega)]
  obtain ⟨w0,w1,w2⟩:=c3.var
  have aoO:=tW w2
  have pq:=c3.zI
  have jX:=c3.nx
  have c4:=c3.ext ((Ext.refl _).push ⟨(bh .i64).row i,1,false,1⟩)
  obtain ⟨v1,v2,G4,o1,Sb,e6,FR,o2,l2,c6⟩:=c4.app (ib:=8) (by decide) (bT.one (bh .i64) G3 i) (by simp) (by simp; omega)
  have FT:=o1
  simp at FT
  rw [if_neg (by omega),w1] at FT
  simp only [Option.some.injEq,bK.mk.injEq,List.cons.injEq,and_true] at FT
  subst FT
  simp [acN,TU] at e6
  have ua:(me l .normal (G4.put ob ⟨[v2],1,false,1⟩))=some (.bool true,(G4.put ob ⟨[v2],1,false,1⟩).bR l (jQ T)):=by
   rw [BJ l .normal _ (j:=none) rfl (r:=Lp.gf (jQ T) .busy) (by simpa using l2)]
   rfl
  rw [hf]
  simp only [zf,IQ] at q1 q2
  simp [zz,t2,t5,t6,hc.lp,q1,q2,e3,q6,sw,e4,e5,iI,w1,e6,o2,iq _ _ FR,ua]
  exact c6.bO (jQ T)
theorem acS (ae:FuncId→Bool) (aZ:ae 107=false) (hs:t.sound) (h:PM own G m s) (hm:s.ok):∃ v G',(E ae).cl 10 [t.v,P0 m] G=some (v,G')∧Ext G G' ∧cn (bh .i64) G.nx G' v (Ab t s):=by
 obtain ⟨G1,ak⟩:∃ G1,G1=(G.push ⟨t.cells,1,false,1⟩).push ⟨[.slice none 0 0],1,false,1⟩:=⟨_,rfl⟩
 have x1:Ext G G1:=by rw [ak]; exact ((Ext.refl G).push _).push _
 have n1:G1.nx=G.nx+2:=by rw [ak]; rfl
 have o1:G1.obj G.nx=some ⟨t.cells,1,false,1⟩:=by rw [ak]; simp
 have p1:G1.obj (G.nx+1)=some ⟨[.slice none 0 0],1,false,1⟩:=by rw [ak]; simp
 obtain ⟨G2,e2,x2⟩:=E2 ae t G1
 simp only [hs,decide_true] at e2
 have n2:=x2.nx
 have h2:PM own G2 m s:=h.g8 (ts:=[]) (aE.ext (x1.trans x2)) (by simp) (bf.refl _ _)
 obtain ⟨bb,rest,uZ⟩:=h2
 obtain ⟨w,G3,e3,x3,w3⟩:=abr ae uZ
 have n3:=x3.nx
 obtain ⟨wa,wc,ew⟩:=w3.is.len
 have sw:∀ o,ku 1 0 w (some o)=ku 1 0 w (some o):=fun _=>rfl
 obtain ⟨G4,dw⟩:∃ G4,G4=(G3.push ⟨[.slice none 0 0],1,false,1⟩).put G3.nx ⟨[w],1,false,1⟩:=⟨_,rfl⟩
 have x4:Ext G3 G4:=by rw [dw]; exact ((Ext.refl _).push _).put (Nat.le_refl _) _
 have n4:G4.nx=G3.nx+1:=by rw [dw]; rfl
 have q4:G4.obj G3.nx=some ⟨[w],1,false,1⟩:=by rw [dw]; simp
 have y4:Ext G1 G4:=(x2.trans x3).trans x4
 have o4:=(y4.obj G.nx (by omega)).trans o1
 have p4:=(y4.obj (G.nx+1) (by omega)).trans p1
 have e5:=acP ae w3.is t 0 G4
 obtain ⟨G5,eR⟩:∃ G5,G5=((G4.push ⟨[w],1,false,1⟩).push ⟨t.cells,1,false,1⟩).push ⟨[.int .i64 0],1,false,1⟩:=⟨_,rfl⟩
 rw [← eR] at e5
 have x5:Ext G4 G5:=by rw [eR]; exact (((Ext.refl _).push _).push _).push _
 have n5:G5.nx=G4.nx+3:=by rw [eR]; rfl
 have a5:G5.obj G4.nx=some ⟨[w],1,false,1⟩:=by rw [eR]; simp [Nat.add_assoc]
 have b5:G5.obj (G4.nx+1)=some ⟨t.cells,1,false,1⟩:=by rw [eR]; simp [Nat.add_assoc]
 have c5:G5.obj (G4.nx+2)=some ⟨[.int .i64 0],1,false,1⟩:=by rw [eR]; simp [Nat.add_assoc]
 have o5:=(x5.obj G.nx (by omega)).trans o4
 have p5:=(x5.obj (G.nx+1) (by omega)).trans p4
 have q5:=(x5.obj G3.nx (by omega)).trans q4
 have w5:cn (bh .u64) G2.nx G5 w s.W:=w3.ext (x4.trans x5)
 have inw:∀ g,iA w g→G2.nx≤g:=fun g hg=>w3.from hg
 have aB:¬ iA w (G.nx+1):=fun hg=>by have:=inw _ hg; omega
 have W:Wp (s10 true (bD Q ae) t.v (P0 m) G) fun q=>Ext G q.2∧cn (bh .i64) G.nx q.2 q.1 (Ab t s):=by
  have hzc:z22=[.slice none 0 0]:=rfl
  have hzd:z82=[.slice none 0 0]:=rfl
  rw [ew] at dw e5 e3 q4
  simp [s10,hzc,hzd,← ak,o1,e2,e3,← dw,q4,o4,e5]
  generalize hT:aG 30 _=T
  have t2:nth undef T 2=P0 G.nx:=by rw [← hT,pE]; simp [aw]
  have t5:nth undef T 5=P0 (G.nx+1):=by rw [← hT,pE]; simp [aw]
  have t6:nth undef T 6=P0 G3.nx:=by rw [← hT,pE]; simp [aw]
  have hTl:T.length=30:=by rw [← hT]; exact zq 30 _
  clear hT
  have c0:=fY.begin (bh .i64) p5 (by omega) (jQ T)
  have xB:Ext G5 (G5.dS (jQ T)):=(Ext.refl G5).dS _
  have nB:(G5.dS (jQ T)).nx=G5.nx:=rfl
  have zK:bT (bh .u64) (G5.dS (jQ T)) w s.W:=w5.is.ext xB
  have W:=acO ae aZ hs hm (f:=uo t s) (fun i=>by unfold uo; split<;>simp) (lv:=0) (by omega) (B:=G5.dS (jQ T)) (ob:=G.nx+1) (l:=G5.nl) (r:=jQ T) (tb:=G4.nx+1) (mb:=G4.nx) (lb:=G4.nx+2) (w:=w)
   (fun G L i hc hL=>acR ae hm hTl t2 t5 t6 ⟨by omega,by omega,(xB.obj _ (by omega)).trans o5⟩ ⟨by omega,by omega,(xB.obj _ (by omega)).trans q5⟩ zK aB hc hL i)
   ⟨by omega,by omega,(xB.obj _ (by omega)).trans b5⟩ ⟨by omega,by omega,(xB.obj _ (by omega)).trans a5⟩ ⟨by omega,by omega,(xB.obj _ (by omega)).trans c5⟩ zK aB c0
  obtain ⟨⟨q,G6⟩,e6,rfl,c6⟩:=W
  simp only [E] at e6
  obtain ⟨u,u1,u2⟩:=c6.var
  rw [e6,Et (r:=jQ T) _ _ _ _ c6.lp (by simp) (e:=.normal) rfl]
  simp [t5,u1]
  have y2:Ext G G5:=(x1.trans y4).trans x5
  have y3:Ext G (G5.dS (jQ T)):=y2.trans xB
  rw [acQ] at u2 c6
  refine ⟨(c6.from y3 (by omega) (by have:=y2.nl; omega)).bR (by have:=y2.nl; omega) _,?_⟩
  exact (u2.mono y3.nx).kept (by simp) fun g _=>by simp
 obtain ⟨⟨v,G'⟩,e,x,hh⟩:=W
 exact ⟨v,G',f10 (aq Q ae) _ _ G _ e,x,hh⟩
end
abbrev mE (t:TW) (eW:Bool) (ref key i hi ln lv w:Int) (fp rp:Option Addr) (ar:Int):bK:=⟨[.int .i64 t.nodes,.int .i64 t.cG,.int .i64 t.ay,.int .i64 t.top,.int .i64 t.links,.int .i64 t.size,.int .i64 t.u6,.int .i64 t.u7,.int .i64 t.u8,.int .i64 t.u9,.int .i64 t.u10,.int .i64 t.u11,.int .i64 t.u12,.bool true,.bool eW,.int .u64 ref,.int .u64 key,.int .i64 i,.int .i64 hi,.int .i64 ln,.int .i64 lv,.int .u64 w,.pointer fp,.pointer rp,.int .u64 ar,.int .i64 0],1,false,1⟩
abbrev cO (t:TW) (x:aj) (ln:Int) (fb:Nat) (rp:Option Addr):bK:=mE t x.eW x.ref x.key x.i x.hi ln x.level x.w (some ⟨fb,0,none⟩) rp x.ar
structure cF (own:Nat→Nat) (tag tg:Nat) (t:TW) (G:GS) (b:Nat) (x:aj) (ln:Int) (fb tb:Nat) (rp:Option Addr):Prop where
 hb:At own tag G b
 ob:G.obj b=some (cO t x ln fb rp)
 af:At own tg G fb
 p8:At own tg G tb
 ne:fb≠tb
 fi:dE t G fb tb x.find
structure CO (own:Nat→Nat) (tag tg:Nat) (t:TW) (G:GS) (b:Nat) (x:aj) (ln:Int):Prop where
 hb:At own tag G b
 ob:∃ fp rp:Option Addr,G.obj b=some (mE t x.eW x.ref x.key x.i x.hi ln x.level x.w fp rp x.ar)∧(x.line=12→∃ rb,rp=some ⟨rb,0,none⟩∧At own tg G rb∧pS own tg t G rb x.i x.ret)
def uq (own:Nat→Nat) (tag tg:Nat) (t:TW) (G:GS) (b:Nat) (x:aj) (ln:Int):Prop :=
 (x.line≠12∧x.line≠0∧∃ fb tb rp,cF own tag tg t G b x ln fb tb rp)∨((x.line=12∨x.line=0)∧CO own tag tg t G b x ln)
def iu (own:Nat→Nat) (tag tg:Nat) (t:TW) (G:GS) (b:Nat) (x:aj):Prop:=uq own tag tg t G b x x.line
section
variable {own own' ah aX:Nat→Nat} {tag tg m b fb tb:Nat} {t:TW} {rp:Option Addr} {G G' G1 G2:GS} {s s':MS} {x y:aj} {ln vP:Int}
theorem cF.to (h:cF own tag tg t G b x ln fb tb rp) (hn:G.nx≤G'.nx) (hk:∀ g,g<G.nx→own g=tag∨own g=tg→G'.obj g=G.obj g) (a:bf own own' G):cF own' tag tg t G' b x ln fb tb rp :=
 ⟨h.hb.to hn a,(hk _ h.hb.lt (.inl h.hb.tag)).trans h.ob,h.af.to hn a,h.p8.to hn a,h.ne,h.fi.kept (hk _ h.af.lt (.inr h.af.tag)) (hk _ h.p8.lt (.inr h.p8.tag))⟩
theorem CO.to (h:CO own tag tg t G b x ln) (hn:G.nx≤G'.nx) (hk:∀ g,g<G.nx→own g=tag∨own g=tg→G'.obj g=G.obj g) (a:bf own own' G):CO own' tag tg t G' b x ln:=by
 obtain ⟨hb,fp,rp,h1,h2⟩:=h
 refine ⟨hb.to hn a,fp,rp,(hk _ hb.lt (.inl hb.tag)).trans h1,fun e=>?_⟩
 obtain ⟨rb,e1,e2,e3⟩:=h2 e
 exact ⟨rb,e1,e2.to hn a,e3.to e2 hn (fun g hg hh=>hk g hg (.inr hh)) a⟩
theorem iu.to (h:iu own tag tg t G b x) (hn:G.nx≤G'.nx) (hk:∀ g,g<G.nx→own g=tag∨own g=tg→G'.obj g=G.obj g) (a:bf own own' G):iu own' tag tg t G' b x:=by
 rcases h with ⟨e1,e2,fb,tb,rp,h1⟩ | ⟨e,h⟩
 ·exact .inl ⟨e1,e2,fb,tb,rp,h1.to hn hk a⟩
 ·exact .inr ⟨e,h.to hn hk a⟩
theorem cF.acc (h:cF own tag tg t G b x ln fb tb rp) (ht:tag≠10) (hg:tg≠10) (w:PW no own G ah G1 m s):cF ah tag tg t G1 b x ln fb tb rp :=
 h.to w.nx (fun g dU k=>w.keep dU (by rcases k with k | k<;>rw [k]<;>assumption) id) w.bH.dm
theorem cF.ext (h:cF own tag tg t G b x ln fb tb rp) (e:Ext G G1) (u:Nat):cF (grown own G u) tag tg t G1 b x ln fb tb rp:=h.to e.nx (fun g hg _=>e.obj g hg) dk
theorem cF.set (h:cF own tag tg t G b x ln fb tb rp) (aB:tag≠tg) (hf:y.find=x.find) (vP:Int) (Lf:Option Addr):cF own tag tg t (G.put b (cO t y vP fb Lf)) b y vP fb tb Lf :=
 ⟨h.hb.br _ _,by simp,h.af.br _ _,h.p8.br _ _,h.ne,hf▸h.fi.kept (eY _ _ (oR h.hb.tag h.af.tag aB)) (eY _ _ (oR h.hb.tag h.p8.tag aB))⟩
theorem PW.z (w:PW no own G ah G1 m s):PW (ey own tag tg) own G ah G1 m s:=w.any
theorem FU (ae:FuncId→Bool) (hs:t.sound) (h:PM own G m s) (ht:tag≠10) (hg:tg≠10) (aB:tag≠tg) (hx:cF own tag tg t G b x ln fb tb rp) (l:Int) :
  ∃ ah G1 kN mF,(E ae).cl 123 [P0 b,.int .i64 l] G=some (.int .i64 l,G1)∧PW (ey own tag tg) own G ah G1 m s∧cF ah tag tg t G1 b (x.anew t l) ln kN mF rp:=by
 have ob:=hx.ob
 obtain ⟨kN,mF,G1,e1,x1,q1,q2,q3,F1⟩:=Kp ae hs x.key (G.room 13)
 have y1:=((Ext.refl G).room 13).trans x1
 have n1:G.nx≤kN:=by have:=q1.1; simp at this; omega
 have n2:G.nx≤mF:=by have:=q2.1; simp at this; omega
 have w1:PW (ey own tag tg) own G (grown own G tg) G1 m s:=(PW.refl h).ej y1 tg
 have gR:=hx.ext y1 tg
 have dD:=gR.ob
 have a1:At (grown own G tg) tg G1 kN:=At.new n1 q1.2
 have a2:At (grown own G tg) tg G1 mF:=At.new n2 q2.2
 have ld:fO 13 b 0 (G.room 13)=some t.v:=by rw [pF (n:=12) (o:=0) (by simpa using ob) (by decide) (by simp)]; rfl
 refine ⟨_,G1.put b (cO t (x.anew t l) ln kN rp),kN,mF,f123 (aq Q ae) _ _ G _ ?_,w1.gu gR.hb.tag ht _,gR.hb.br _ _,by simp,a1.br _ _,a2.br _ _,q3,F1.kept (eY _ _ (oR gR.hb.tag a1.tag aB)) (eY _ _ (oR gR.hb.tag a2.tag aB))⟩
 simp [-mw,s123,ob,ld,e1,dD,aj.anew]
theorem Lj (ae:FuncId→Bool) (aZ:ae 107=false) (hs:t.sound) (h:PM own G m s) (hm:s.ok) (hk:x.find.ok t) (ht:tag≠10) (hg:tg≠10) (aB:tag≠tg) (hx:cF own tag tg t G b x ln fb tb rp) (qW yes:Int) :
  ∃ ah G1,(E ae).cl 144 [P0 b,P0 m] G=some (.bool (decide ((x.find.step t s).1.line=9)),G1)∧PW (ey own tag tg) own G ah G1 m (x.dp t s qW yes).2∧cF ah tag tg t G1 b (x.dp t s qW yes).1 ln fb tb rp:=by
 have ob:=hx.ob
 obtain ⟨ah,G1,e1,w1,F1⟩:=Sr ae aZ hs h hm hk hg hx.ne hx.af hx.p8 hx.fi
 have o1:=(w1.Fa hx.hb.lt hx.hb.tag ht aB).trans ob
 have bu:=hx.hb.to w1.nx w1.bH.dm
 have b1:=hx.af.to w1.nx w1.bH.dm
 have b2:=hx.p8.to w1.nx w1.bH.dm
 have n1:fb≠b:=oR hx.hb.tag hx.af.tag aB
 have n2:tb≠b:=oR hx.hb.tag hx.p8.tag aB
 unfold aj.dp
 simp only
 generalize (x.find.step t s).2=s' at *
 generalize (x.find.step t s).1=f' at *
 have qQ:PW (ey own tag tg) own G ah G1 m s':=w1.hi
 have e2:=Ko ae F1
 refine ⟨ah,G1.put b (mE t x.eW x.ref x.key x.i x.hi ln x.level x.w (some ⟨fb,0,none⟩) rp f'.ar),f144 (aq Q ae) _ _ G _ ?_,qQ.gu bu.tag ht _,bu.br _ _,by simp,b1.br _ _,b2.br _ _,hx.ne,F1.kept (eY _ _ n1) (eY _ _ n2)⟩
 simp [s144,ob,e1,o1,e2]
theorem Lk (ae:FuncId→Bool) (h:PM own G m s) (ht:tag≠10) (hg:tg≠10) (aB:tag≠tg) (hx:cF own tag tg t G b x ln fb tb rp) (l:Int) :
  ∃ ah G1,(E ae).cl 148 [P0 b,P0 m,.int .i64 l] G=some (.int .u64 (s.load (aN t x.i l)).new,G1)∧PW (ey own tag tg) own G ah G1 m (s.load (aN t x.i l))∧cF ah tag tg t G1 b { x with ar:=x.ref } ln fb tb rp:=by
 have ob:=hx.ob
 obtain ⟨G1,ak⟩:∃ G1,G1=G.put b (cO t { x with ar:=x.ref } ln fb rp):=⟨_,rfl⟩
 have gR:cF own tag tg t G1 b { x with ar:=x.ref } ln fb tb rp:=by rw [ak]; exact hx.set (y:={ x with ar:=x.ref }) aB rfl ln rp
 have w1:PW (ey own tag tg) own G own G1 m s:=by rw [ak]; exact (PW.refl h).gu hx.hb.tag ht _
 have o1:=gR.ob
 obtain ⟨G2,e2,x2⟩:=jM ae t x.i l (G1.room 13)
 have y2:=((Ext.refl G1).room 13).trans x2
 have w2:=w1.ej y2 tg
 have cH:=gR.ext y2 tg
 generalize grown own G1 tg=aX at *
 obtain ⟨cQ,G3,e3,w3⟩:=w2.pm.load ae (aN t x.i l)
 have ld:fO 13 b 0 (G1.room 13)=some t.v:=by rw [pF (n:=12) (o:=0) (by simpa using o1) (by decide) (by simp)]; rfl
 refine ⟨cQ,G3,f148 (aq Q ae) _ _ _ G _ ?_,w2.oS w3.z,cH.acc ht hg w3⟩
 simp only [cO] at ak o1
 simp [-mw,s148,ob,← ak,ld,o1,e2,e3]
end
section
variable {own own' ah aX:Nat→Nat} {tag tg m b fb tb:Nat} {t:TW} {rp:Option Addr} {G G' G1 G2:GS} {s s':MS} {x y:aj} {ln vP l:Int} {k:IntKind} {v:Value} {L:List Int}
theorem Ll (h:bT (bh k) G v L) (h0:0≤l) (h1:l<L.length):∃ a n c,v= .slice (some ⟨a,n,none⟩) L.length c∧G.cell a (n+l.toNat*1)=some (.int k ((L[l.toNat]?).getD 0)):=by
 have hl:l.toNat<L.length:=by omega
 obtain ⟨a,n,c,e,_,q,_⟩:=h.at hl
 have:=q 0 (by show (0:Nat)<1; decide)
 refine ⟨a,n,c,e,?_⟩
 rw [List.getElem?_eq_getElem hl]
 simpa [bh] using this
theorem Lm (x:ao) {n:Nat} (hl:x.told.length=n) (h0:0≤l) (h1:l<n) (f:dy→Int):((x.told.map f)[l.toNat]?).getD 0=f (x.spot l):=by
 have:l.toNat<x.told.length:=by omega
 unfold ao.spot
 rw [List.getElem?_map,List.getElem?_eq_getElem this]
 rfl
theorem CP (k:IntKind) (w:Int):same (.int k w) (.int k w)=true:=by simp [same,dh]
theorem FV (p:Option Addr):same (.pointer p) (.pointer p)=true:=by simp [same,dh]
theorem TV (t:TW):same t.v t.v=true:=by simp [same,dh,dh.mU]
theorem FW (ae:FuncId→Bool) (hs:t.sound) (hx:cF own tag tg t G b x ln fb tb rp) (hk:x.find.ok t) (h9:x.find.line=9) (h0:0≤l) (h1:l<t.ay):∃ a n c N G',l<((N:Nat):Int)∧(E ae).cl 145 [P0 fb] G=some (.slice (some ⟨a,n,none⟩) N c,G')∧Ext G G' ∧G'.cell a (n+l.toNat*1)=some (.int .u64 (x.find.spot l).cur):=by
 obtain ⟨v,G',e1,x1,o1⟩:=abN ae hs hx.fi hx.p8.lt h9 hk.told
 have hl:(x.find.told.map (·.cur)).length=t.ay.toNat:=by simp [hk.told]
 obtain ⟨a,n,c,rfl,q⟩:=Ll o1.is h0 (by rw [hl]; omega)
 rw [Lm x.find hk.told h0 (by omega)] at q
 rw [hl] at e1
 exact ⟨a,n,c,_,G',by omega,e1,x1,q⟩
theorem acT (ae:FuncId→Bool) (hs:t.sound) (hx:cF own tag tg t G b x ln fb tb rp) (hk:x.find.ok t) (h9:x.find.line=9) (h0:0≤l) (h1:l<t.ay):∃ a n c N G',l<((N:Nat):Int)∧(E ae).cl 157 [P0 fb] G=some (.slice (some ⟨a,n,none⟩) N c,G')∧Ext G G' ∧G'.cell a (n+l.toNat*1)=some (.int .u64 (x.find.spot l).known):=by
 obtain ⟨v,G',e1,x1,o1⟩:=abP ae hs hx.fi hx.p8.lt h9 hk.told
 have hl:(x.find.told.map (·.known)).length=t.ay.toNat:=by simp [hk.told]
 obtain ⟨a,n,c,rfl,q⟩:=Ll o1.is h0 (by rw [hl]; omega)
 rw [Lm x.find hk.told h0 (by omega)] at q
 rw [hl] at e1
 exact ⟨a,n,c,_,G',by omega,e1,x1,q⟩
theorem acU (ae:FuncId→Bool) (hs:t.sound) (hx:cF own tag tg t G b x ln fb tb rp) (hk:x.find.ok t) (h9:x.find.line=9) (h0:0≤l) (h1:l<t.ay):∃ a n c N G',l<((N:Nat):Int)∧(E ae).cl 158 [P0 fb] G=some (.slice (some ⟨a,n,none⟩) N c,G')∧Ext G G' ∧G'.cell a (n+l.toNat*1)=some (.int .i64 (x.find.spot l).pred):=by
 obtain ⟨v,G',e1,x1,o1⟩:=abL ae hs hx.fi hx.p8.lt h9 hk.told
 have hl:(x.find.told.map (·.pred)).length=t.ay.toNat:=by simp [hk.told]
 obtain ⟨a,n,c,rfl,q⟩:=Ll o1.is h0 (by rw [hl]; omega)
 rw [Lm x.find hk.told h0 (by omega)] at q
 rw [hl] at e1
 exact ⟨a,n,c,_,G',by omega,e1,x1,q⟩
theorem TX (ae:FuncId→Bool) (hs:t.sound) (h:PM own G m s) (ht:tag≠10) (hg:tg≠10) (aB:tag≠tg) (hx:cF own tag tg t G b x ln fb tb rp) (hk:x.find.ok t) (h9:x.find.line=9) (h0:0≤x.level) (h1:x.level<t.ay) :
  ∃ ah G1,(E ae).cl 146 [P0 b,P0 m] G=some (.bool (x.iB t s).held,G1)∧PW (ey own tag tg) own G ah G1 m (x.iB t s)∧cF ah tag tg t G1 b { x with ar:=(x.find.spot x.level).known } ln fb tb rp:=by
 have ob:=hx.ob
 have hc:(t.ay.toNat:Int)=t.ay:=by omega
 have y0:Ext G (G.room 15):=(Ext.refl G).room 15
 have Ln:=hx.ext y0 tg
 obtain ⟨a1,n1,c1,N1,G1,g1,e1,x1,q1⟩:=acT ae hs Ln hk h9 h0 h1
 have y1:=y0.trans x1
 have gR:=hx.ext y1 tg
 have dD:=gR.ob
 obtain ⟨G2,bA⟩:∃ G2,G2=G1.put b (cO t { x with ar:=(x.find.spot x.level).known } ln fb rp):=⟨_,rfl⟩
 have cH:cF (grown own G tg) tag tg t G2 b { x with ar:=(x.find.spot x.level).known } ln fb tb rp:=by rw [bA]; exact gR.set (y:={ x with ar:=(x.find.spot x.level).known }) aB rfl ln rp
 have w2:PW (ey own tag tg) own G (grown own G tg) G2 m s:=by rw [bA]; exact ((PW.refl h).ej y1 tg).gu gR.hb.tag ht _
 have dQ:=cH.ob
 generalize grown own G tag=aoP at *
 obtain ⟨aX,CQ⟩:∃ aX,aX=grown own G tg:=⟨_,rfl⟩
 rw [← CQ] at cH w2
 have z0:Ext G2 (G2.room 38):=(Ext.refl G2).room 38
 have oU:=cH.ext z0 tg
 have jj:=oU.ob
 obtain ⟨a4,n4,c4,N4,G4,g4,e4,x4,q4⟩:=acU ae hs oU hk h9 h0 h1
 have z4:=z0.trans x4
 have hx4:=cH.ext z4 tg
 have zQ:=hx4.ob
 obtain ⟨G5,e5,x5⟩:=jM ae t (x.find.spot x.level).pred x.level G4
 have z5:=z4.trans x5
 have oV:=cH.ext z5 tg
 have ur:=oV.ob
 obtain ⟨a6,n6,c6,N6,G6,g6,e6,x6,q6⟩:=FW ae hs oV hk h9 h0 h1
 have z6:=z5.trans x6
 have vQ:=cH.ext z6 tg
 have qa:=vQ.ob
 have w6:=w2.ej z6 tg
 obtain ⟨sE,G7,e7,w7⟩:=w6.pm.bM ae (aN t (x.find.spot x.level).pred x.level) (x.find.spot x.level).cur x.ref
 have ld:∀ {G:GS} {o:bK},G.obj b=some (cO t { x with ar:=(x.find.spot x.level).known } ln fb rp)→fO 13 b 0 G=some t.v:=fun k=>by rw [pF (n:=12) (o:=0) k (by decide) (by simp)]; rfl
 have ld3:fO 13 b 0 (G2.room 38)=some t.v:=ld (o:=cO t x ln fb rp) jj
 have ld4:fO 13 b 0 G4=some t.v:=ld (o:=cO t x ln fb rp) zQ
 refine ⟨sE,G7,f146 (aq Q ae) _ _ G _ ?_,w6.oS w7.z,vQ.acc ht hg w7⟩
 simp only [cO] at ob dD dQ jj zQ ur qa bA
 have obr:(G.room 15).obj b=G.obj b:=by simp
 have smv:=TV t
 simp at q1 q4 q6
 simp [-mw,s146,ob,e1,dD,bp,CP,FV,smv,h0,g1,g4,g6,q1,← bA,ld3,ld4,dQ,jj,e4,zQ,q4,e5,ur,e6,qa,q6]
 exact e7
end
section
variable {own own' ah aX:Nat→Nat} {tag tg m b fb tb:Nat} {t:TW} {rp:Option Addr} {G G' G1 G2:GS} {s s':MS} {x y:aj} {ln vP l:Int}
theorem cF.as (h:cF own tag tg t G b x ln fb tb rp) (e1:cO t y ln fb rp=cO t x ln fb rp) (e2:y.find=x.find):cF own tag tg t G b y ln fb tb rp :=
 ⟨h.hb,h.ob.trans (congrArg some e1.symm),h.af,h.p8,h.ne,e2▸h.fi⟩
theorem cF.qq (h:cF own tag tg t G b x ln fb tb rp) (e1:cO t y ln fb rp=cO t x ln fb rp) (e2:y.find=x.find) (h12:y.line≠12):uq own tag tg t G b y ln:=by
 by_cases h0:y.line=0
 ·exact .inr ⟨.inr h0,h.hb,some ⟨fb,0,none⟩,rp,h.ob.trans (congrArg some e1.symm),fun e=>absurd e h12⟩
 ·exact .inl ⟨h12,h0,fb,tb,rp,h.as e1 e2⟩
theorem cF.q (h:cF own tag tg t G b x ln fb tb rp) (h12:x.line≠12):uq own tag tg t G b x ln:=h.qq rfl rfl h12
abbrev gw (own:Nat→Nat) (tag tg m:Nat) (t:TW) (G:GS) (b:Nat) (s:MS) (x:aj) (f:FuncId) (ae:FuncId→Bool) (ln:Int):Prop :=
 ∃ ah G1,(E ae).cl f [P0 b,P0 m] G=some (.int .i64 (x.step t s).1.line,G1)∧PW (ey own tag tg) own G ah G1 m (x.step t s).2∧uq ah tag tg t G1 b (x.step t s).1 ln
theorem acV (ae:FuncId→Bool) (aZ:ae 107=false) (hs:t.sound) (h:PM own G m s) (hm:s.ok) (hk:x.ok t) (ht:tag≠10) (hg:tg≠10) (aB:tag≠tg) (hx:cF own tag tg t G b x ln fb tb rp) (e:x.line=1):gw own tag tg m t G b s x 124 ae ln:=by
 have au:x.step t s=x.l1 t s:=by unfold aj.step; simp [e]
 obtain ⟨ah,G1,e1,w1,F1⟩:=Lj ae aZ hs h hm hk.find ht hg aB hx 1 2
 have dD:=F1.ob
 unfold gw
 rw [au]
 unfold aj.l1
 by_cases h9:(x.find.step t s).1.line=9
 ·have hl:(x.dp t s 1 2).1.line=2:=by simp [aj.dp,h9]
  simp only [h9,if_true,hl]
  refine ⟨ah,G1.put b (cO t { (x.dp t s 1 2).1 with level:=0 } ln fb rp),f124 (aq Q ae) _ _ G _ ?_,w1.gu F1.hb.tag ht _,(F1.set (y:={ (x.dp t s 1 2).1 with level:=0 }) aB rfl ln rp).qq rfl rfl (by simp [hl])⟩
  simp [s124,e1,h9,dD]
 ·have hl:(x.dp t s 1 2).1.line=1:=by simp [aj.dp,h9]
  simp only [h9,if_false,hl]
  refine ⟨ah,G1,f124 (aq Q ae) _ _ G _ ?_,w1,F1.qq rfl rfl (by simp [hl])⟩
  simp [s124,e1,h9]
theorem acW (ae:FuncId→Bool) (aZ:ae 107=false) (hs:t.sound) (h:PM own G m s) (hm:s.ok) (hk:x.ok t) (ht:tag≠10) (hg:tg≠10) (aB:tag≠tg) (hx:cF own tag tg t G b x ln fb tb rp) (e:x.line=7):gw own tag tg m t G b s x 130 ae ln:=by
 have au:x.step t s=x.dp t s 7 8:=by unfold aj.step; simp [e]
 obtain ⟨ah,G1,e1,w1,F1⟩:=Lj ae aZ hs h hm hk.find ht hg aB hx 7 8
 unfold gw
 rw [au]
 by_cases h9:(x.find.step t s).1.line=9
 ·have hl:(x.dp t s 7 8).1.line=8:=by simp [aj.dp,h9]
  rw [hl]
  exact ⟨ah,G1,f130 (aq Q ae) _ _ G _ (by simp [s130,e1,h9]),w1,F1.q (by simp [hl])⟩
 ·have hl:(x.dp t s 7 8).1.line=7:=by simp [aj.dp,h9]
  rw [hl]
  exact ⟨ah,G1,f130 (aq Q ae) _ _ G _ (by simp [s130,e1,h9]),w1,F1.q (by simp [hl])⟩
theorem acX (ae:FuncId→Bool) (aZ:ae 107=false) (hs:t.sound) (h:PM own G m s) (hm:s.ok) (hk:x.ok t) (ht:tag≠10) (hg:tg≠10) (aB:tag≠tg) (hx:cF own tag tg t G b x ln fb tb rp) (e:x.line=10):gw own tag tg m t G b s x 133 ae ln:=by
 have au:x.step t s=x.dp t s 10 11:=by unfold aj.step; simp [e]
 obtain ⟨ah,G1,e1,w1,F1⟩:=Lj ae aZ hs h hm hk.find ht hg aB hx 10 11
 unfold gw
 rw [au]
 by_cases h9:(x.find.step t s).1.line=9
 ·have hl:(x.dp t s 10 11).1.line=11:=by simp [aj.dp,h9]
  rw [hl]
  exact ⟨ah,G1,f133 (aq Q ae) _ _ G _ (by simp [s133,e1,h9]),w1,F1.q (by simp [hl])⟩
 ·have hl:(x.dp t s 10 11).1.line=10:=by simp [aj.dp,h9]
  rw [hl]
  exact ⟨ah,G1,f133 (aq Q ae) _ _ G _ (by simp [s133,e1,h9]),w1,F1.q (by simp [hl])⟩
theorem acY (ae:FuncId→Bool) (hx:cF own tag tg t G b x ln fb tb rp) (nG:0≤x.level):∀ (j:Nat) (k:Nat) (τ:Env),k+j=x.hi→x.level<k→τ 0=P0 b→τ 1=P0 m→τ 16= .int .i64 x.hi→τ 17= .int .i64 k→x.hi≤4 →
  Wp ((bD Q ae).dj 125 0 τ G) fun r=>r.1= .exit 0∧r.2.1 0=P0 b∧r.2.2=G:=by
 have ob:=hx.ob
 simp only [cO] at ob
 intro j
 induction j with
 | zero =>
  intro k τ hk sk t0 t1 t16 t17 h4
  have c1:¬ ((k:Int)<x.hi):=by omega
  refine Wp.lp (EX (aq Q ae)) ?_
  simp [zH,aw,t0,t1,t16,t17,c1]
 | succ j ih =>
  intro k τ hk sk t0 t1 t16 t17 h4
  have c1:((k:Int)<x.hi):=by omega
  have c2:¬ ((k:Int)=x.level):=by omega
  have c3:IntKind.wrap .i64 ((k:Int)+1)=(k:Int)+1:=wrap64 (by omega) (by omega)
  refine Wp.lp (EX (aq Q ae)) ?_
  simp [zH,aw,t0,t1,t16,t17,c1,c2,c3,ob]
  refine ih (k+1) _ (by omega) (by omega) ?_ ?_ ?_ ?_ h4<;>simp [aw,t0,t1,t16]
theorem acZ (ae:FuncId→Bool) (hs:t.sound) (h:PM own G m s) (hk:x.ok t) (ht:tag≠10) (hg:tg≠10) (aB:tag≠tg) (hx:cF own tag tg t G b x ln fb tb rp) (h9:x.find.line=9) (nG:x.level<x.hi):∀ (j:Nat) (k:Nat) (τ:Env),k+j=x.level→τ 0=P0 b→τ 1=P0 m→τ 16= .int .i64 x.hi→τ 17= .int .i64 k →
  Wp ((bD Q ae).dj 125 0 τ G) fun r=>r.1= .exit 0∧r.2.1 0=P0 b∧∃ ah,PW (ey own tag tg) own G ah r.2.2 m (s.store (aN t x.i x.level) (x.find.spot x.level).cur)∧cF ah tag tg t r.2.2 b x ln fb tb rp:=by
 have ob:=hx.ob
 have h4:=hs.2.1
 have hh:=hk.high
 have h0:=hk.aQ.1
 intro j
 induction j with
 | zero =>
  intro k τ KJ t0 t1 t16 t17
  have c0:(k:Int)=x.level:=by omega
  have c1:((k:Int)<x.hi):=by omega
  have c3:IntKind.wrap .i64 ((k:Int)+1)=(k:Int)+1:=wrap64 (by omega) (by omega)
  have z0:Ext G (G.room 20):=(Ext.refl G).room 20
  obtain ⟨G5,e5,x5⟩:=jM ae t x.i k (G.room 20)
  have z5:=z0.trans x5
  have oV:=hx.ext z5 tg
  have ur:=oV.ob
  obtain ⟨a6,n6,c6,N6,G6,g6,e6,x6,q6⟩:=FW ae hs oV hk.find h9 h0 (by omega)
  have z6:=z5.trans x6
  have vQ:=hx.ext z6 tg
  have w6:PW (ey own tag tg) own G (grown own G tg) G6 m s:=(PW.refl h).ej z6 tg
  obtain ⟨sE,G7,e7,w7⟩:=w6.pm.store ae (aN t x.i k) (x.find.spot x.level).cur
  have TY:=vQ.acc ht hg w7
  have ld:fO 13 b 0 (G.room 20)=some t.v:=by rw [pF (n:=12) (o:=0) (by simpa using ob) (by decide) (by simp)]; rfl
  simp only [cO] at ob ur
  simp at q6
  rw [← c0] at q6 e7
  simp at q6
  have g6':(k:Int)<N6:=by omega
  refine Wp.lp (EX (aq Q ae)) ?_
  simp [-mw,zH,aw,t0,t1,t16,t17,c1,c3,ob,← c0,ld,e5,ur,bp,FV,e6,g6',q6,e7]
  refine (acY ae TY h0 (x.hi.toNat - (k+1)) (k+1) _ (by omega) (by omega) ?_ (m:=m) ?_ ?_ ?_ (by omega)).mono ?_
  ·simp [aw,t0]
  ·simp [aw,t1]
  ·simp [aw,t16]
  ·simp [aw]
  ·rintro ⟨e,τ',G'⟩ ⟨r1,r2,rfl⟩
   rw [c0] at w7
   exact ⟨r1,r2,_,w6.oS (by simpa [c0] using w7.z),TY⟩
 | succ j ih =>
  intro k τ KJ t0 t1 t16 t17
  have c1:((k:Int)<x.hi):=by omega
  have c2:¬ ((k:Int)=x.level):=by omega
  have c3:IntKind.wrap .i64 ((k:Int)+1)=(k:Int)+1:=wrap64 (by omega) (by omega)
  simp only [cO] at ob
  refine Wp.lp (EX (aq Q ae)) ?_
  simp [zH,aw,t0,t1,t16,t17,c1,c2,c3,ob]
  refine ih (k+1) _ (by omega) ?_ ?_ ?_ ?_<;>simp [aw,t0,t1,t16]
theorem ac0 (ae:FuncId→Bool) (hs:t.sound) (h:PM own G m s) (hk:x.ok t) (ht:tag≠10) (hg:tg≠10) (aB:tag≠tg) (hx:cF own tag tg t G b x ln fb tb rp) (e:x.line=2):gw own tag tg m t G b s x 125 ae ln:=by
 have au:x.step t s=x.l2 t s:=by unfold aj.step; simp [e]
 have ob:=hx.ob
 have h9:=hk.zR (by simp [e])
 have nG:=hk.aQ.2.2.1 (by simp [e])
 have h0:=hk.aQ.1
 have h4:=hs.2.1
 have hh:=hk.high
 obtain ⟨G1,ak⟩:∃ G1,G1=G.put b (cO t { x with ar:=x.ref } ln fb rp):=⟨_,rfl⟩
 have gR:cF own tag tg t G1 b { x with ar:=x.ref } ln fb tb rp:=by rw [ak]; exact hx.set (y:={ x with ar:=x.ref }) aB rfl ln rp
 have w1:PW (ey own tag tg) own G own G1 m s:=by rw [ak]; exact (PW.refl h).gu hx.hb.tag ht _
 have qB:({ x with ar:=x.ref }:aj).ok t:=⟨hk.line,hk.idx,hk.high,hk.ref,hk.aQ,hk.w,hk.find,hk.tok,hk.zR,hk.ret,hk.ref⟩
 have dD:=gR.ob
 have w:Wp (s125 true (bD Q ae) (P0 b) (P0 m) G) fun r=>r.1= .int .i64 (x.l2 t s).1.line∧∃ ah,PW (ey own tag tg) own G ah r.2 m (x.l2 t s).2∧uq ah tag tg t r.2 b (x.l2 t s).1 ln:=by
  simp only [cO] at ob dD ak
  simp [s125,ob,← ak,dD]
  refine Wp.bE ((acZ ae hs w1.pm qB ht hg aB gR h9 nG x.level.toNat 0 _ (by simp; omega) ?_ ?_ ?_ ?_).mono ?_)
  ·simp
  ·simp
  ·simp
  ·simp
  ·rintro ⟨e',τ,G2⟩ ⟨rfl,t0,aX,w2,cH⟩
   simp only at t0 w2 cH ⊢
   have dQ:=cH.ob
   simp only [cO] at dQ
   have c3:IntKind.wrap .i64 (x.level+1)=x.level+1:=wrap64 (by omega) (by omega)
   have w3:=w1.oS w2
   unfold aj.l2
   simp only
   obtain ⟨G3,cE⟩:∃ G3,G3=(G2.put b (cO t { x with ar:=x.ref,level:=x.level+1 } ln fb rp)).room 9:=⟨_,rfl⟩
   have oU:cF (grown aX (G2.put b (cO t { x with ar:=x.ref,level:=x.level+1 } ln fb rp)) tg) tag tg t G3 b { x with ar:=x.ref,level:=x.level+1 } ln fb tb rp:=by
    rw [cE]; exact (cH.set (y:={ x with ar:=x.ref,level:=x.level+1 }) aB rfl ln rp).ext ((Ext.refl _).room 9) tg
   have w4:=(w3.gu cH.hb.tag ht (cO t { x with ar:=x.ref,level:=x.level+1 } ln fb rp)).ej ((Ext.refl _).room 9) tg
   rw [← cE] at w4
   have jj:=oU.ob
   simp only [cO] at jj cE
   by_cases c:x.level+1<x.hi
   ·simp only [if_pos c]
    simp [t0,dQ,c3,← cE,jj,c]
    exact ⟨_,w4,oU.qq rfl rfl (by simp)⟩
   ·simp only [if_neg c]
    simp [t0,dQ,c3,← cE,jj,c]
    exact ⟨_,w4.gu oU.hb.tag ht (cO t { x with ar:=x.ref,level:=0 } ln fb rp),(oU.set (y:={ x with ar:=x.ref,level:=0 }) aB rfl ln rp).qq rfl rfl (by simp)⟩
 obtain ⟨⟨v,G'⟩,e1,rfl,ah,w1,w2⟩:=w
 unfold gw
 rw [au]
 exact ⟨ah,G',f125 (aq Q ae) _ _ G _ e1,w1,w2⟩
end
section
variable {own own' ah aX:Nat→Nat} {tag tg m b fb tb:Nat} {t:TW} {rp:Option Addr} {G G' G1 G2:GS} {s s':MS} {x y:aj} {ln vP l:Int}
theorem T0 (ae:FuncId→Bool) (hx:cF own tag tg t G b x ln fb tb rp):(E ae).cl 147 [P0 b] G=some (.int .i64 x.up.line,G.room 9):=by
 have ob:=hx.ob
 simp only [cO] at ob
 refine f147 (aq Q ae) _ G _ ?_
 unfold aj.up
 by_cases c:x.hi≤x.level<;>simp [s147,ob,c]
theorem ac1 (ae:FuncId→Bool) (hs:t.sound) (h:PM own G m s) (hk:x.ok t) (ht:tag≠10) (hg:tg≠10) (aB:tag≠tg) (hx:cF own tag tg t G b x ln fb tb rp) (e:x.line=3):gw own tag tg m t G b s x 126 ae ln:=by
 have au:x.step t s=x.l3 t s:=by unfold aj.step; simp [e]
 have h9:=hk.zR (by simp [e])
 have qy:=hk.aQ.2.2.2 e
 have hh:=hs.1
 obtain ⟨ah,G1,e1,w1,F1⟩:=TX ae hs h ht hg aB hx hk.find h9 hk.aQ.1 (by omega)
 unfold gw
 rw [au]
 unfold aj.l3
 generalize x.iB t s=s' at *
 by_cases hq:s'.held=true
 ·rw [hq] at e1
  simp only [hq,if_true]
  have F2:=F1.set (y:={ x with ar:=(x.find.spot x.level).known,eW:=true }) aB rfl ln rp
  have F3:=F2.set (y:={ x with ar:=(x.find.spot x.level).known,eW:=true,level:=1 }) aB rfl ln rp
  have w3:=(w1.gu F1.hb.tag ht (cO t { x with ar:=(x.find.spot x.level).known,eW:=true } ln fb rp)).gu F2.hb.tag ht (cO t { x with ar:=(x.find.spot x.level).known,eW:=true,level:=1 } ln fb rp)
  have e4:=T0 ae F3
  have x4:Ext ((G1.put b (cO t { x with ar:=(x.find.spot x.level).known,eW:=true } ln fb rp)).put b (cO t { x with ar:=(x.find.spot x.level).known,eW:=true,level:=1 } ln fb rp)) (((G1.put b (cO t { x with ar:=(x.find.spot x.level).known,eW:=true } ln fb rp)).put b (cO t { x with ar:=(x.find.spot x.level).known,eW:=true,level:=1 } ln fb rp)).room 9):=(Ext.refl _).room 9
  have dD:=F1.ob
  have n12:¬ (({ x with ar:=(x.find.spot x.level).known,eW:=true,level:=1 }:aj).up.line=12):=by unfold aj.up; simp only; split<;>decide
  refine ⟨_,_,f126 (aq Q ae) _ _ G _ ?_,w3.ej x4 tg,(F3.ext x4 tg).qq rfl rfl n12⟩
  simp only [cO] at dD e4 ⊢
  simp [s126,e1,dD,e4]
 ·simp only [Bool.not_eq_true] at hq
  rw [hq] at e1
  simp only [hq,Bool.false_eq_true,if_false]
  obtain ⟨aX,G2,kN,mF,e2,w2,F2⟩:=FU ae hs w1.pm ht hg aB F1 1
  refine ⟨aX,G2,f126 (aq Q ae) _ _ G _ ?_,w1.oS w2,F2.qq rfl rfl (by simp [aj.anew])⟩
  simp [s126,e1,e2,aj.anew]
theorem ac2 (ae:FuncId→Bool) (hs:t.sound) (h:PM own G m s) (hk:x.ok t) (ht:tag≠10) (hg:tg≠10) (aB:tag≠tg) (hx:cF own tag tg t G b x ln fb tb rp) (e:x.line=6):gw own tag tg m t G b s x 129 ae ln:=by
 have au:x.step t s=x.l6 t s:=by unfold aj.step; simp [e]
 have h9:=hk.zR (by simp [e])
 have nG:=hk.aQ.2.2.1 (by simp [e])
 have s9:=hk.high
 have h0:=hk.aQ.1
 have h4:=hs.2.1
 obtain ⟨ah,G1,e1,w1,F1⟩:=TX ae hs h ht hg aB hx hk.find h9 hk.aQ.1 (by omega)
 unfold gw
 rw [au]
 unfold aj.l6
 generalize x.iB t s=s' at *
 by_cases hq:s'.held=true
 ·rw [hq] at e1
  simp only [hq,if_true]
  have F3:=F1.set (y:={ x with ar:=(x.find.spot x.level).known,level:=x.level+1 }) aB rfl ln rp
  have w3:=w1.gu F1.hb.tag ht (cO t { x with ar:=(x.find.spot x.level).known,level:=x.level+1 } ln fb rp)
  have e4:=T0 ae F3
  have x4:Ext (G1.put b (cO t { x with ar:=(x.find.spot x.level).known,level:=x.level+1 } ln fb rp)) ((G1.put b (cO t { x with ar:=(x.find.spot x.level).known,level:=x.level+1 } ln fb rp)).room 9):=(Ext.refl _).room 9
  have dD:=F1.ob
  have c3:IntKind.wrap .i64 (x.level+1)=x.level+1:=wrap64 (by omega) (by omega)
  have n12:¬ (({ x with ar:=(x.find.spot x.level).known,level:=x.level+1 }:aj).up.line=12):=by unfold aj.up; simp only; split<;>decide
  refine ⟨_,_,f129 (aq Q ae) _ _ G _ ?_,w3.ej x4 tg,(F3.ext x4 tg).qq rfl rfl n12⟩
  simp only [cO] at dD e4 ⊢
  simp [s129,e1,dD,c3,e4]
 ·simp only [Bool.not_eq_true] at hq
  rw [hq] at e1
  simp only [hq,Bool.false_eq_true,if_false]
  obtain ⟨aX,G2,kN,mF,e2,w2,F2⟩:=FU ae hs w1.pm ht hg aB F1 7
  refine ⟨aX,G2,f129 (aq Q ae) _ _ G _ ?_,w1.oS w2,F2.qq rfl rfl (by simp [aj.anew])⟩
  simp [s129,e1,e2,aj.anew]
theorem ac3 (ae:FuncId→Bool) (hs:t.sound) (h:PM own G m s) (hm:s.ok) (hk:x.ok t) (ht:tag≠10) (hg:tg≠10) (aB:tag≠tg) (hx:cF own tag tg t G b x ln fb tb rp) (e:x.line=4):gw own tag tg m t G b s x 127 ae ln:=by
 have au:x.step t s=x.l4 t s:=by unfold aj.step; simp [e]
 have h9:=hk.zR (by simp [e])
 have nG:=hk.aQ.2.2.1 (by simp [e])
 have s9:=hk.high
 have h0:=hk.aQ.1
 have ob:=hx.ob
 obtain ⟨ah,G1,e1,w1,F1⟩:=Lk ae h ht hg aB hx x.level
 have hu:=(hm.load (aN t x.i x.level)).2
 unfold gw
 rw [au]
 unfold aj.l4
 generalize s.load (aN t x.i x.level)=s' at *
 generalize s'.new=v at *
 have dD:=F1.ob
 obtain ⟨G2,bA⟩:∃ G2,G2=G1.put b (cO t { x with ar:=x.ref,w:=v } ln fb rp):=⟨_,rfl⟩
 have F2:cF ah tag tg t G2 b { x with ar:=x.ref,w:=v } ln fb tb rp:=by rw [bA]; exact F1.set (y:={ x with ar:=x.ref,w:=v }) aB rfl ln rp
 have w2:PW (ey own tag tg) own G ah G2 m s':=by rw [bA]; exact w1.gu F1.hb.tag ht _
 have dQ:=F2.ob
 have em:=vE ae hu G2
 by_cases c:aM≤v
 ·simp only [if_pos c]
  refine ⟨ah,G2,f127 (aq Q ae) _ _ G _ ?_,w2,F2.qq rfl rfl (by simp)⟩
  simp only [cO] at ob dD dQ bA
  rw [decide_eq_true (show 9223372036854775808≤v from c)] at em
  simp [s127,ob,e1,dD,← bA,dQ,em]
 ·simp only [if_neg c]
  have z0:Ext G2 (G2.room 17):=(Ext.refl G2).room 17
  have oU:=F2.ext z0 tg
  obtain ⟨a6,n6,c6,N6,G6,g6,e6,x6,q6⟩:=FW ae hs oU hk.find h9 h0 (by omega)
  have z6:=z0.trans x6
  have F6:=F2.ext z6 tg
  have w6:=w2.ej z6 tg
  have qa:=F6.ob
  rw [decide_eq_false (show ¬ 9223372036854775808≤v from c)] at em
  simp at q6
  by_cases c2:v=(x.find.spot x.level).cur
  ·subst c2
   simp only [if_true]
   refine ⟨_,G6,f127 (aq Q ae) _ _ G _ ?_,w6,F6.qq rfl rfl (by simp)⟩
   simp only [cO] at ob dD dQ qa bA
   simp [s127,ob,e1,dD,← bA,dQ,em,e6,qa,bp,CP,h0,g6,q6]
  ·simp only [if_neg c2]
   refine ⟨_,G6,f127 (aq Q ae) _ _ G _ ?_,w6,F6.qq rfl rfl (by simp)⟩
   simp only [cO] at ob dD dQ qa bA
   simp [s127,ob,e1,dD,← bA,dQ,em,e6,qa,bp,CP,h0,g6,q6,c2]
theorem ac4 (ae:FuncId→Bool) (hs:t.sound) (h:PM own G m s) (hk:x.ok t) (ht:tag≠10) (hg:tg≠10) (aB:tag≠tg) (hx:cF own tag tg t G b x ln fb tb rp) (e:x.line=5):gw own tag tg m t G b s x 128 ae ln:=by
 have au:x.step t s=x.l5 t s:=by unfold aj.step; simp [e]
 have h9:=hk.zR (by simp [e])
 have nG:=hk.aQ.2.2.1 (by simp [e])
 have s9:=hk.high
 have h0:=hk.aQ.1
 have ob:=hx.ob
 have z0:Ext G (G.room 31):=(Ext.refl G).room 31
 obtain ⟨G5,e5,x5⟩:=jM ae t x.i x.level (G.room 31)
 have z5:=z0.trans x5
 have oV:=hx.ext z5 tg
 have ur:=oV.ob
 obtain ⟨a6,n6,c6,N6,G6,g6,e6,x6,q6⟩:=FW ae hs oV hk.find h9 h0 (by omega)
 have z6:=z5.trans x6
 have vQ:=hx.ext z6 tg
 have qa:=vQ.ob
 have w6:PW (ey own tag tg) own G (grown own G tg) G6 m s:=(PW.refl h).ej z6 tg
 have F7:=vQ.set (y:={ x with ar:=x.ref }) aB rfl ln rp
 have w7:=w6.gu vQ.hb.tag ht (cO t { x with ar:=x.ref } ln fb rp)
 obtain ⟨aoQ,G8,e8,w8⟩:=w7.pm.bM ae (aN t x.i x.level) x.w (x.find.spot x.level).cur
 have F8:=F7.acc ht hg w8
 have w9:=w7.oS w8.z
 have ld:fO 13 b 0 (G.room 31)=some t.v:=by rw [pF (n:=12) (o:=0) (by simpa using ob) (by decide) (by simp)]; rfl
 simp at q6
 simp only [cO] at ob ur qa e8
 have e9:(E ae).cl 149 [P0 b,P0 m,.int .i64 (aN t x.i x.level),.int .u64 x.w,.int .u64 (x.find.spot x.level).cur] G6=some (.bool (s.bM (aN t x.i x.level) x.w (x.find.spot x.level).cur).held,G8):=by
  refine f149 (aq Q ae) _ _ _ _ _ G6 _ ?_
  simp [s149,qa,e8]
 unfold gw
 rw [au]
 unfold aj.l5
 generalize s.bM (aN t x.i x.level) x.w (x.find.spot x.level).cur=s' at *
 by_cases hq:s'.held=true
 ·rw [hq] at e9
  simp only [hq,if_true]
  refine ⟨_,G8,f128 (aq Q ae) _ _ G _ ?_,w9,F8.qq rfl rfl (by simp)⟩
  simp [-mw,s128,ob,ld,e5,ur,e6,qa,bp,CP,FV,h0,g6,q6,e9]
 ·simp only [Bool.not_eq_true] at hq
  rw [hq] at e9
  simp only [hq,Bool.false_eq_true,if_false]
  refine ⟨_,G8,f128 (aq Q ae) _ _ G _ ?_,w9,F8.qq rfl rfl (by simp)⟩
  simp [-mw,s128,ob,ld,e5,ur,e6,qa,bp,CP,FV,h0,g6,q6,e9]
theorem ac5 (ae:FuncId→Bool) (hs:t.sound) (h:PM own G m s) (hm:s.ok) (hk:x.ok t) (ht:tag≠10) (hg:tg≠10) (aB:tag≠tg) (hx:cF own tag tg t G b x ln fb tb rp) (e:x.line=8):gw own tag tg m t G b s x 131 ae ln:=by
 have au:x.step t s=x.l89 t s 4:=by unfold aj.step; simp [e]
 obtain ⟨ah,G1,e1,w1,F1⟩:=Lk ae h ht hg aB hx 0
 have hu:=(hm.load (aN t x.i 0)).2
 unfold gw
 rw [au]
 unfold aj.l89
 generalize s.load (aN t x.i 0)=s' at *
 generalize s'.new=v at *
 have em:=vE ae hu G1
 by_cases c:aM≤v
 ·simp only [if_pos c]
  rw [decide_eq_true (show 9223372036854775808≤v from c)] at em
  obtain ⟨aX,G2,kN,mF,e2,w2,F2⟩:=FU ae hs w1.pm ht hg aB F1 10
  refine ⟨aX,G2,f131 (aq Q ae) _ _ G _ ?_,w1.oS w2,F2.qq rfl rfl (by simp [aj.anew])⟩
  simp [s131,e1,em,e2,aj.anew]
 ·simp only [if_neg c]
  rw [decide_eq_false (show ¬ 9223372036854775808≤v from c)] at em
  refine ⟨ah,G1,f131 (aq Q ae) _ _ G _ ?_,w1,F1.qq rfl rfl (by simp)⟩
  simp [s131,e1,em]
theorem ac6 (ae:FuncId→Bool) (hs:t.sound) (h:PM own G m s) (hm:s.ok) (hk:x.ok t) (ht:tag≠10) (hg:tg≠10) (aB:tag≠tg) (hx:cF own tag tg t G b x ln fb tb rp) (e:x.line=9):gw own tag tg m t G b s x 132 ae ln:=by
 have au:x.step t s=x.l89 t s 11:=by unfold aj.step; simp [e]
 obtain ⟨ah,G1,e1,w1,F1⟩:=Lk ae h ht hg aB hx 0
 have hu:=(hm.load (aN t x.i 0)).2
 unfold gw
 rw [au]
 unfold aj.l89
 generalize s.load (aN t x.i 0)=s' at *
 generalize s'.new=v at *
 have em:=vE ae hu G1
 by_cases c:aM≤v
 ·simp only [if_pos c]
  rw [decide_eq_true (show 9223372036854775808≤v from c)] at em
  obtain ⟨aX,G2,kN,mF,e2,w2,F2⟩:=FU ae hs w1.pm ht hg aB F1 10
  refine ⟨aX,G2,f132 (aq Q ae) _ _ G _ ?_,w1.oS w2,F2.qq rfl rfl (by simp [aj.anew])⟩
  simp [s132,e1,em,e2,aj.anew]
 ·simp only [if_neg c]
  rw [decide_eq_false (show ¬ 9223372036854775808≤v from c)] at em
  refine ⟨ah,G1,f132 (aq Q ae) _ _ G _ ?_,w1,F1.qq rfl rfl (by simp)⟩
  simp [s132,e1,em]
theorem ac7 (ae:FuncId→Bool) (hs:t.sound) (h:PM own G m s) (hm:s.ok) (hk:x.ok t) (ht:tag≠10) (hg:tg≠10) (aB:tag≠tg) (hx:cF own tag tg t G b x ln fb tb rp) (e:x.line=11):gw own tag tg m t G b s x 134 ae ln:=by
 have au:x.step t s=x.l11 t s:=by unfold aj.step; simp [e]
 have ob:=hx.ob
 have qX:=hk.idx
 obtain ⟨G1,ak⟩:∃ G1,G1=G.put b (cO t { x with ar:=x.ref } ln fb rp):=⟨_,rfl⟩
 have gR:cF own tag tg t G1 b { x with ar:=x.ref } ln fb tb rp:=by rw [ak]; exact hx.set (y:={ x with ar:=x.ref }) aB rfl ln rp
 have w1:PW (ey own tag tg) own G own G1 m s:=by rw [ak]; exact (PW.refl h).gu hx.hb.tag ht _
 have o1:=gR.ob
 obtain ⟨G2,e2,x2⟩:=vD ae t x.i 3 (G1.room 12)
 have y2:=((Ext.refl G1).room 12).trans x2
 have w2:=w1.ej y2 tg
 have cH:=gR.ext y2 tg
 generalize grown own G1 tg=aX at *
 obtain ⟨cQ,G3,e3,w3⟩:=w2.pm.add ae (az t x.i 3) 18446744073709551615
 have oU:=cH.acc ht hg w3
 have w4:=w2.oS w3.z
 have o3:=oU.ob
 have ld:fO 13 b 0 (G1.room 12)=some t.v:=by rw [pF (n:=12) (o:=0) (by simpa using o1) (by decide) (by simp)]; rfl
 have T3:fO 13 b 0 G1=some t.v:=by rw [pF (n:=12) (o:=0) o1 (by decide) (by simp)]; rfl
 unfold gw
 rw [au]
 unfold aj.l11
 generalize s.add (az t x.i 3) 18446744073709551615=s' at *
 generalize s'.new=v at *
 simp only [cO] at ob o1 ak o3
 by_cases c:v=0
 ·simp only [if_pos c]
  obtain ⟨rb,G5,e5,x5,q5,r5⟩:=Sx ae t qX.1 qX.2 (G3.room 14)
  have y5:=((Ext.refl G3).room 14).trans x5
  have w5:=w4.ej y5 tg
  have oV:=oU.ext y5 tg
  have o5:=oV.ob
  have Lb:G3.nx≤rb:=by have:=q5.1; simp at this; omega
  have CM:At (grown cQ G3 tg) tg G5 rb:=At.new Lb q5.2
  have F6:=oV.set (y:={ x with ar:=x.ref }) aB rfl ln (some ⟨rb,0,none⟩)
  have ldl:fO 10 b 3 (G3.room 14)=some (.agg ⟨pR t⟩):=by rw [pF (n:=9) (o:=3) (by simpa using o3) (by decide) (by simp)]; rfl
  have ac8:fO 10 b 3 G3=some (.agg ⟨pR t⟩):=by rw [pF (n:=9) (o:=3) (by simpa using o3) (by decide) (by simp)]; rfl
  refine ⟨_,_,f134 (aq Q ae) _ _ G _ ?_,w5.gu oV.hb.tag ht (cO t { x with ar:=x.ref } ln fb (some ⟨rb,0,none⟩)),(.inr ⟨.inl rfl,F6.hb,some ⟨fb,0,none⟩,some ⟨rb,0,none⟩,F6.ob,fun _=>⟨rb,rfl,CM.br _ _,?_⟩⟩)⟩
  ·simp only [cO] at o5
   simp [-mw,s134,ob,← ak,ld,T3,o1,e2,e3,c,ldl,ac8,o3,e5,o5]
  ·refine (r5 (grown cQ G3 tg) tg).to CM (Nat.le_refl _) (fun g dU lZ=>?_) (bf.refl _ _)
   rw [eY _ _ (oR oV.hb.tag lZ aB)]
 ·simp only [if_neg c]
  refine ⟨_,G3,f134 (aq Q ae) _ _ G _ ?_,w4,oU.qq rfl rfl (by simp)⟩
  simp [-mw,s134,ob,← ak,ld,T3,o1,e2,e3,c]
theorem ac9 (ae:FuncId→Bool) (aZ:ae 107=false) (hs:t.sound) (dT:t.gm) (h:PM own G m s) (hm:s.ok) (hk:x.ok t) (ht:tag≠10) (hg:tg≠10) (aB:tag≠tg) (hx:CO own tag tg t G b x ln) (e:x.line=12):gw own tag tg m t G b s x 135 ae ln:=by
 have au:x.step t s=x.l12 t s:=by unfold aj.step; simp [e]
 have qX:=hk.idx
 obtain ⟨hb,fp,rp,ob,hr⟩:=hx
 obtain ⟨rb,rfl,a1,hr⟩:=hr e
 obtain ⟨G1,ak⟩:∃ G1,G1=G.put b (mE t x.eW x.ref x.key x.i x.hi ln x.level x.w fp (some ⟨rb,0,none⟩) 0):=⟨_,rfl⟩
 have bu:At own tag G1 b:=by rw [ak]; exact hb.br _ _
 have w1:PW (ey own tag tg) own G own G1 m s:=by rw [ak]; exact (PW.refl h).gu hb.tag ht _
 have o1:G1.obj b=some (mE t x.eW x.ref x.key x.i x.hi ln x.level x.w fp (some ⟨rb,0,none⟩) 0):=by rw [ak]; simp
 have r1:pS own tg t G1 rb x.i x.ret:=hr.to a1 (by rw [ak]; exact Nat.le_refl _) (fun g hgl lZ=>by rw [ak,eY _ _ (oR hb.tag lZ aB)]) (bf.refl _ _)
 have CN:At own tg G1 rb:=by rw [ak]; exact a1.br _ _
 obtain ⟨aX,G2,e2,w2,r2⟩:=Sz ae aZ dT qX.1 qX.2 w1.pm hm (hk.ret e) hg CN r1
 have o2:=(w2.Fa bu.lt bu.tag ht aB).trans o1
 have bI:=bu.to w2.nx w2.bH.dm
 have a2:=CN.to w2.nx w2.bH.dm
 have w3:=w1.oS (w2.hi (tag:=tag))
 unfold gw
 rw [au]
 unfold aj.l12
 generalize (x.ret.step t x.i s).2=s' at *
 generalize (x.ret.step t x.i s).1=q at *
 by_cases c:q.over=true
 ·rw [c] at e2
  simp only [c,if_true]
  refine ⟨aX,G2,f135 (aq Q ae) _ _ G _ ?_,w3,.inr ⟨.inr rfl,bI,fp,some ⟨rb,0,none⟩,o2,fun e=>by cases e⟩⟩
  simp [s135,ob,← ak,o1,e2]
 ·simp only [Bool.not_eq_true] at c
  rw [c] at e2
  simp only [c,Bool.false_eq_true,if_false]
  refine ⟨aX,G2,f135 (aq Q ae) _ _ G _ ?_,w3,.inr ⟨.inl rfl,bI,fp,some ⟨rb,0,none⟩,o2,fun _=>⟨rb,rfl,a2,r2⟩⟩⟩
  simp [s135,ob,← ak,o1,e2]
end
section
variable {own own' ah aX:Nat→Nat} {tag tg m b fb tb:Nat} {t:TW} {rp:Option Addr} {G G' G1 G2:GS} {s s':MS} {x y:aj} {ln vP l:Int}
theorem uq.ob (h:uq own tag tg t G b x ln):At own tag G b∧∃ fp rp:Option Addr,G.obj b=some (mE t x.eW x.ref x.key x.i x.hi ln x.level x.w fp rp x.ar):=by
 rcases h with ⟨_,_,fb,tb,rp,h⟩ | ⟨_,hb,fp,rp,h,_⟩
 ·exact ⟨h.hb,_,_,h.ob⟩
 ·exact ⟨hb,_,_,h⟩
theorem uq.fin (h:uq own tag tg t G b y ln) (aB:tag≠tg):At own tag G b∧∃ fp rp:Option Addr,G.obj b=some (mE t y.eW y.ref y.key y.i y.hi ln y.level y.w fp rp y.ar)∧iu own tag tg t (G.put b (mE t y.eW y.ref y.key y.i y.hi y.line y.level y.w fp rp y.ar)) b y:=by
 rcases h with ⟨e1,e2,fb,tb,rp,h⟩ | ⟨e,hb,fp,rp,h,hr⟩
 ·exact ⟨h.hb,some ⟨fb,0,none⟩,rp,h.ob,.inl ⟨e1,e2,fb,tb,rp,h.set aB rfl y.line rp⟩⟩
 ·refine ⟨hb,fp,rp,h,.inr ⟨e,hb.br _ _,fp,rp,by simp,fun e=>?_⟩⟩
  obtain ⟨rb,q1,q2,q3⟩:=hr e
  refine ⟨rb,q1,q2.br _ _,q3.to q2 (Nat.le_refl _) (fun g _ lZ=>?_) (bf.refl _ _)⟩
  rw [eY _ _ (oR hb.tag lZ aB)]
abbrev xS:List Value:=[.nilFunc,.func (.func 124) #[] #[],.func (.func 125) #[] #[],.func (.func 126) #[] #[],.func (.func 127) #[] #[],.func (.func 128) #[] #[],.func (.func 129) #[] #[],.func (.func 130) #[] #[],.func (.func 131) #[] #[],.func (.func 132) #[] #[],.func (.func 133) #[] #[],.func (.func 134) #[] #[],.func (.func 135) #[] #[]]
abbrev Ah:List Value:=[.nilFunc,.nilFunc,.nilFunc,.nilFunc,.nilFunc,.nilFunc,.nilFunc,.nilFunc,.nilFunc,.nilFunc,.nilFunc,.nilFunc,.nilFunc]
theorem ada (ae:FuncId→Bool) (iv:ae 101=false) (G:GS):∃ G',(E ae).cl 101 [] G=some (.agg ⟨xS⟩,G')∧Ext G G':=by
 have hz:z182=Ah:=rfl
 refine ⟨(G.push ⟨Ah,1,false,1⟩).put G.nx ⟨xS,1,false,1⟩,f101 (aq Q ae) iv G _ ?_,((Ext.refl G).push _).put (Nat.le_refl _) _⟩
 simp [s101,hz,ch,cg,gA]
def kO (l:Int):FuncId:=if l=1 then 124 else if l=2 then 125 else if l=3 then 126 else if l=4 then 127 else if l=5 then 128 else if l=6 then 129 else if l=7 then 130 else if l=8 then 131 else if l=9 then 132 else if l=10 then 133 else if l=11 then 134 else 135
theorem adb (ae:FuncId→Bool) (aZ:ae 107=false) (hs:t.sound) (dT:t.gm) (h:PM own G m s) (hm:s.ok) (hk:x.ok t) (ht:tag≠10) (hg:tg≠10) (aB:tag≠tg) (hx:iu own tag tg t G b x) (e0:x.line≠0):gw own tag tg m t G b s x (kO x.line) ae x.line:=by
 unfold iu at hx
 rcases hx with ⟨e12,_,fb,tb,rp,hx⟩ | ⟨e,hx⟩
 ·rcases hk.line with e | e | e | e | e | e | e | e | e | e | e | e | e
  ·exact absurd e e0
  ·have:=acV ae aZ hs h hm hk ht hg aB hx e
   rw [show kO x.line=124 by rw [e]; rfl]; exact this
  ·have:=ac0 ae hs h hk ht hg aB hx e
   rw [show kO x.line=125 by rw [e]; rfl]; exact this
  ·have:=ac1 ae hs h hk ht hg aB hx e
   rw [show kO x.line=126 by rw [e]; rfl]; exact this
  ·have:=ac3 ae hs h hm hk ht hg aB hx e
   rw [show kO x.line=127 by rw [e]; rfl]; exact this
  ·have:=ac4 ae hs h hk ht hg aB hx e
   rw [show kO x.line=128 by rw [e]; rfl]; exact this
  ·have:=ac2 ae hs h hk ht hg aB hx e
   rw [show kO x.line=129 by rw [e]; rfl]; exact this
  ·have:=acW ae aZ hs h hm hk ht hg aB hx e
   rw [show kO x.line=130 by rw [e]; rfl]; exact this
  ·have:=ac5 ae hs h hm hk ht hg aB hx e
   rw [show kO x.line=131 by rw [e]; rfl]; exact this
  ·have:=ac6 ae hs h hm hk ht hg aB hx e
   rw [show kO x.line=132 by rw [e]; rfl]; exact this
  ·have:=acX ae aZ hs h hm hk ht hg aB hx e
   rw [show kO x.line=133 by rw [e]; rfl]; exact this
  ·have:=ac7 ae hs h hm hk ht hg aB hx e
   rw [show kO x.line=134 by rw [e]; rfl]; exact this
  ·exact absurd e e12
 ·rcases e with e | e
  ·have:=ac9 ae aZ hs dT h hm hk ht hg aB hx e
   rw [show kO x.line=135 by rw [e]; rfl]; exact this
  ·exact absurd e e0
theorem ade (ae:FuncId→Bool) (aZ:ae 107=false) (iv:ae 101=false) (hs:t.sound) (dT:t.gm) (h:PM own G m s) (hm:s.ok) (hk:x.ok t) (ht:tag≠10) (hg:tg≠10) (aB:tag≠tg) (hx:iu own tag tg t G b x) :
  ∃ ah G1,(E ae).cl 72 [P0 b,P0 m] G=some (.bool (decide ((x.step t s).1.line=0)),G1)∧PW (ey own tag tg) own G ah G1 m (x.step t s).2∧iu ah tag tg t G1 b (x.step t s).1:=by
 obtain ⟨hb,fp,rp,ob⟩:=hx.ob
 by_cases e0:x.line=0
 ·have au:x.step t s=(x,s):=by unfold aj.step; simp [e0]
  rw [au]
  refine ⟨own,G,f72 (aq Q ae) _ _ G _ ?_,PW.refl h,hx⟩
  simp [s72,ob,e0]
 ·obtain ⟨G1,e1,x1⟩:=ada ae iv G
  obtain ⟨G2,bA⟩:∃ G2,G2=(G1.push ⟨Ah,1,false,1⟩).put G1.nx ⟨xS,1,false,1⟩:=⟨_,rfl⟩
  have y2:Ext G G2:=by rw [bA]; exact (x1.push _).put x1.nx _
  have o2:G2.obj G1.nx=some ⟨xS,1,false,1⟩:=by rw [bA]; simp
  have cH:iu (grown own G tg) tag tg t G2 b x:=hx.to y2.nx (fun g hg _=>y2.obj g hg) dk
  have w2:PW (ey own tag tg) own G (grown own G tg) G2 m s:=(PW.refl h).ej y2 tg
  have dQ:=(y2.obj b hb.lt).trans ob
  obtain ⟨cQ,G3,e3,w3,q3⟩:=adb ae aZ hs dT w2.pm hm hk ht hg aB cH e0
  obtain ⟨dX,fp3,rp3,jj,fin⟩:=q3.fin aB
  have hz:z182=Ah:=rfl
  obtain ⟨n,hn,hn2⟩:∃ n:Nat,x.line=n∧1≤n∧n≤12:=⟨x.line.toNat,by have:=hk.line; omega,by have:=hk.line; omega⟩
  have iZ:xS[n]? =some (.func (.func (kO x.line)) #[] #[]):=by
   rw [hn]
   rcases (show n=1∨n=2∨n=3∨n=4∨n=5∨n=6∨n=7∨n=8∨n=9∨n=10∨n=11∨n=12 by omega) with rfl | rfl | rfl | rfl | rfl | rfl | rfl | rfl | rfl | rfl | rfl | rfl<;>rfl
  have adf:(n:Int)<13:=by omega
  have eI:¬ ((n:Int)=0):=by omega
  have jf:∀ G,fJ (E ae) (.func (.func (kO x.line)) #[] #[]) [P0 b,P0 m] G=(E ae).cl (kO x.line) [P0 b,P0 m] G:=fun G=>by rw [xg]; rfl
  have ldc:G2.cell G1.nx n=some (.func (.func (kO x.line)) #[] #[]):=by rw [YY o2 (by decide)]; exact iZ
  refine ⟨cQ,G3.put b (mE t (x.step t s).1.eW (x.step t s).1.ref (x.step t s).1.key (x.step t s).1.i (x.step t s).1.hi (x.step t s).1.line (x.step t s).1.level (x.step t s).1.w fp3 rp3 (x.step t s).1.ar),f72 (aq Q ae) _ _ G _ ?_,(w2.oS w3).gu dX.tag ht _,fin⟩
  ·have T4:lq 13 G1.nx 0 (.agg ⟨xS⟩) (G1.push ⟨Ah,1,false,1⟩)=some G2:=by
    rw [bA]
    exact YX (cs:=Ah) (e:=1) (op:=false) (by simp) rfl rfl rfl
   rw [hn] at ldc e3 ob dQ jf
   rw [hn] at iZ
   clear bA
   obtain ⟨LL,T5⟩:∃ LL,LL=xS:=⟨_,rfl⟩
   rw [← T5] at iZ o2 e1 T4
   clear T5
   have adg:¬ n=0:=by omega
   have adh:=(jf G2).trans e3
   rw [hn] at jj
   simp [-JW,-xg,s72,ob,adg,e1,hz,T4,dQ,adf,o2,iZ,adh]
   simp [jj]
end
section
variable {own own' ah aX:Nat→Nat} {B:Nat→Prop} {tag tg m b fb tb:Nat} {t:TW} {rp:Option Addr} {G G' G1 G2:GS} {s s':MS} {x y:aj} {ln vP l i g hi key:Int}
theorem adi (ae:FuncId→Bool) (dZ:ae 120=false) (hs:t.sound) (jq:0≤az t 0 0) (h0:0≤i∧i<t.size) (h1:0≤g∧g<4294967296) (h3:1≤hi∧hi≤t.ay) (G:GS) :
  ∃ G',(E ae).cl 122 [t.v,.int .u64 (bN i g),.int .i64 hi] G=some (.int .i64 0,G')∧Ext G G':=by
 have cm:t.size≤128:=hs.2.2.2.1
 obtain ⟨G1,ak⟩:∃ G1,G1=G.push ⟨t.cells,1,false,1⟩:=⟨_,rfl⟩
 have x1:Ext G G1:=by rw [ak]; exact (Ext.refl G).push _
 have n1:G1.nx=G.nx+1:=by rw [ak]; rfl
 have o1:G1.obj G.nx=some ⟨t.cells,1,false,1⟩:=by rw [ak]; simp
 obtain ⟨G4,e4,x4⟩:=vD ae t 0 0 G1
 obtain ⟨G7,e7,x7⟩:=Lh ae dZ (i:=i) (g:=g) (by omega) h1 G4
 have x17:=(x1.trans x4).trans x7
 have o7:=((x4.trans x7).obj G.nx (by omega)).trans o1
 have aB:¬ G.nx=G7.nx:=by have:=(x4.trans x7).nx; omega
 have w:Wp (s122 true (bD Q ae) t.v (.int .u64 (bN i g)) (.int .i64 hi) G) fun r=>r.1= .int .i64 0∧Ext G r.2:=by
  have a0:¬ az t 0 0<0:=by omega
  have a1:¬ i<0:=by omega
  have a2:¬ t.size≤i:=by omega
  have a5:¬ hi<1:=by omega
  have a6:¬ t.ay<hi:=by omega
  have ld:nD 13 0 (some ⟨t.cells,1,false,1⟩)=some t.v:=Cg rfl (by decide)
  simp [s122,← ak,o1,ld,e4,e7,o7,aB,gW,rE,rF,a0,a1,a2,a5,a6]
  exact (x17.push _).put (by have:=x17.nx; omega) _
 obtain ⟨⟨v,G'⟩,e1,rfl,e3⟩:=w
 exact ⟨G',f122 (aq Q ae) _ _ _ G _ e1,e3⟩
theorem adj (ae:FuncId→Bool) (dZ:ae 120=false) (hs:t.sound) (jq:0≤az t 0 0) (h0:0≤i∧i<t.size) (h1:0≤g∧g<4294967296) (h3:1≤hi∧hi≤t.ay) (G:GS) :
  ∃ b G',(E ae).cl 100 [t.v,.int .u64 (bN i g),.int .u64 key,.int .i64 hi] G=some (P0 b,G')∧Ext G G' ∧(G.nx≤b∧b<G'.nx) ∧
   ∀ own tag tg,own b=tag→(∀ q,G.nx≤q→q≠b→own q=tg)→iu own tag tg t G' b (aj.new t (bN i g) key i hi):=by
 have cm:t.size≤128:=hs.2.2.2.1
 obtain ⟨G1,ak⟩:∃ G1,G1=(G.push ⟨t.cells,1,false,1⟩).room 11:=⟨_,rfl⟩
 have x1:Ext G G1:=by rw [ak]; exact ((Ext.refl G).push _).room 11
 have n1:G1.nx=G.nx+12:=by rw [ak]; simp
 have o1:G1.obj G.nx=some ⟨t.cells,1,false,1⟩:=by rw [ak]; simp
 obtain ⟨G4,e4,x4⟩:=adi ae dZ hs jq h0 h1 h3 G1
 have o4:=(x4.obj G.nx (by omega)).trans o1
 have n4:=x4.nx
 obtain ⟨b,hb⟩:∃ b,b=G.nx+1+9:=⟨_,rfl⟩
 obtain ⟨G8,FX⟩:∃ G8,G8=((G4.aS b).push (mE t false (bN i g) key 0 hi 0 0 0 none none 0)).back G4:=⟨_,rfl⟩
 have x8:Ext G G8:=by rw [FX]; exact Ext.drawn (x1.trans x4) (by omega) (by omega) _
 have o8:G8.obj b=some (mE t false (bN i g) key 0 hi 0 0 0 none none 0):=by rw [FX]; simp
 have n8:G8.nx=G4.nx:=by rw [FX]; rfl
 obtain ⟨G14,e14,x14⟩:=Lh ae dZ (i:=i) (g:=g) (by omega) h1 G8
 have n14:=x14.nx
 have o14:=(x14.obj b (by omega)).trans o8
 obtain ⟨G24,FY⟩:∃ G24,G24=(((G14.push ⟨[.int .i64 0,.int .i64 0,.bool false],1,false,1⟩).put G14.nx ⟨[.int .i64 i,.int .i64 g,.bool false],1,false,1⟩)).put b (mE t false (bN i g) key i hi 0 0 0 none none 0):=⟨_,rfl⟩
 have iy:b≠G14.nx:=by omega
 have o24:G24.obj b=some (mE t false (bN i g) key i hi 0 0 0 none none 0):=by rw [FY]; simp
 have n24:G24.nx=G14.nx+1:=by rw [FY]; rfl
 have x24:Ext G G24:=by rw [FY]; exact (((x8.trans x14).push _).put (by omega) _).put (by omega) _
 obtain ⟨kN,mF,G25,e25,x25,q1,q2,q3,F1⟩:=Kp ae hs key (G24.room 13)
 have y25:=((Ext.refl G24).room 13).trans x25
 have p1:G24.nx≤kN:=by have:=q1.1; simp at this; omega
 have p2:G24.nx≤mF:=by have:=q2.1; simp at this; omega
 have o25:=(y25.obj b (by omega)).trans o24
 have n25:=y25.nx
 obtain ⟨G26,uu⟩:∃ G26,G26=G25.put b (mE t false (bN i g) key i hi 0 0 0 (some ⟨kN,0,none⟩) none 0):=⟨_,rfl⟩
 have e26:(E ae).cl 123 [P0 b,.int .i64 1] G24=some (.int .i64 1,G26):=by
  have ld:fO 13 b 0 (G24.room 13)=some t.v:=by rw [pF (n:=12) (o:=0) (by simpa using o24) (by decide) (by simp)]; rfl
  refine f123 (aq Q ae) _ _ G24 _ ?_
  simp [-mw,s123,o24,ld,e25,o25,uu]
 have o26:G26.obj b=some (mE t false (bN i g) key i hi 0 0 0 (some ⟨kN,0,none⟩) none 0):=by rw [uu]; simp
 have d1:kN≠b:=by omega
 have d2:mF≠b:=by omega
 refine ⟨b,G26.put b (cO t (aj.new t (bN i g) key i hi) 1 kN none),f100 (aq Q ae) _ _ _ _ G _ ?_,?_,⟨by omega,?_⟩,fun own tag tg a1 a2=>.inl ⟨by simp [aj.new],by simp [aj.new],kN,mF,none,⟨?_,a1⟩,by simp [aj.new],⟨?_,a2 _ (by omega) d1⟩,⟨?_,a2 _ (by omega) d2⟩,q3,?_⟩⟩
 ·have ld:nD 13 0 (some ⟨t.cells,1,false,1⟩)=some t.v:=Cg rfl (by decide)
  have hz:z179=[.int .i64 0,.int .i64 0,.int .i64 0,.int .i64 0,.int .i64 0,.int .i64 0,.int .i64 0,.int .i64 0,.int .i64 0,.int .i64 0,.int .i64 0,.int .i64 0,.int .i64 0,.bool false,.bool false,.int .u64 0,.int .u64 0,.int .i64 0,.int .i64 0,.int .i64 0,.int .i64 0,.int .u64 0,.pointer none,.pointer none,.int .u64 0,.int .i64 0]:=rfl
  have sm:=TV t
  simp [s100,← ak,o1,ld,e4,o4,hz,ch,cg,gA,bp,sm]
  simp [← hb,← FX,o8,e14,o14,gW,rE,rF,iy,← FY,e26,o26]
  rfl
 ·rw [uu]; exact ((x24.trans y25).put (by omega) _).put (by omega) _
 ·rw [uu]; simp; omega
 ·rw [uu]; simp; omega
 ·rw [uu]; simp; exact q1.2
 ·rw [uu]; simp; exact q2.2
 ·exact F1.kept (by rw [uu,eY _ _ d1,eY _ _ d1]) (by rw [uu,eY _ _ d2,eY _ _ d2])
end
abbrev eF (t:TW) (ln a i w k j ar er:Int):bK:=⟨[.int .i64 t.nodes,.int .i64 t.cG,.int .i64 t.ay,.int .i64 t.top,.int .i64 t.links,.int .i64 t.size,.int .i64 t.u6,.int .i64 t.u7,.int .i64 t.u8,.int .i64 t.u9,.int .i64 t.u10,.int .i64 t.u11,.int .i64 t.u12,.int .i64 ln,.int .u64 a,.int .i64 i,.int .u64 w,.int .u64 k,.int .i64 j,.int .u64 ar,.bool true,.int .i64 er],1,false,1⟩
def eS (l:Int):Int:=if l=9 then 4 else if l=91 then 5 else l
abbrev sH (t:TW) (x:ai):bK:=eF t (eS x.line) x.a x.i x.w x.key x.job x.ar x.err
section
variable {own own':Nat→Nat} {tag m r b:Nat} {t:TW} {G G':GS} {s:MS} {ln a i w k j ar er:Int} {x:ai}
theorem Lo (ae:FuncId→Bool) (h:PM own G m s) (ht:tag≠10) (hb:At own tag G b) (ho:G.obj b=some (eF t ln a i w k j ar er)) (part:Int) :
  ∃ ah G1,(E ae).cl 62 [P0 b,P0 m,.int .i64 part] G=some (.int .u64 (s.load (az t i part)).new,G1)∧PW (Own own tag) own G ah G1 m (s.load (az t i part))∧At ah tag G1 b∧G1.obj b=some (eF t ln a i w k j a er):=by
 obtain ⟨G1,ak⟩:∃ G1,G1=G.put b (eF t ln a i w k j a er):=⟨_,rfl⟩
 have w1:PW (Own own tag) own G own G1 m s:=by rw [ak]; exact (PW.refl h).aW hb.tag ht _
 have bu:At own tag G1 b:=by rw [ak]; exact hb.br _ _
 have o1:G1.obj b=some (eF t ln a i w k j a er):=by rw [ak]; simp
 obtain ⟨G2,e2,x2⟩:=vD ae t i part (G1.room 13)
 have y2:=((Ext.refl G1).room 13).trans x2
 have w2:=w1.ej y2 tag
 have bI:=bu.df y2 tag
 have o2:=(y2.obj b bu.lt).trans o1
 generalize grown own G1 tag=aX at *
 obtain ⟨cQ,G3,e3,w3⟩:=w2.pm.load ae (az t i part)
 have o3:=(bI.keep ht w3).trans o2
 refine ⟨cQ,G3,f62 (aq Q ae) _ _ _ G _ ?_,w2.tr w3.any,bI.to w3.nx w3.bH.dm,o3⟩
 simp [s62,ho,← ak,o1,e2,e3]
theorem adl (ae:FuncId→Bool) (h:PM own G m s) (hs:s.ok) (ht:tag≠10) (hb:At own tag G b) (ho:G.obj b=some (eF t ln a i w k j ar er)) :
  ∃ ah G1,(E ae).cl 63 [P0 b,P0 m] G=some (.tuple #[],G1)∧PW (Own own tag) own G ah G1 m (s.load (az t i 1))∧At ah tag G1 b∧G1.obj b=some (eF t ln a i w k ((s.load (az t i 1)).new % 65536) a er):=by
 obtain ⟨ah,G1,e1,w1,bu,o1⟩:=Lo ae h ht hb ho 1
 have hu:=(hs.load (az t i 1)).2
 generalize s.load (az t i 1)=s' at *
 generalize s'.new=v at *
 have h1:=hu.1
 have e2:=J5 hu
 have e3:IntKind.wrap .i64 (v % 65536)=v % 65536:=wrap64 (by omega) (by omega)
 refine ⟨ah,G1.put b (eF t ln a i w k (v % 65536) a er),f63 (aq Q ae) _ _ G _ ?_,w1.aW bu.tag ht _,bu.br _ _,by simp⟩
 simp [s63,e1,e2,e3,o1]
theorem Lq (ae:FuncId→Bool) (aZ:ae 107=false) (hs:t.sound) (h:PM own G m s) (hm:s.ok) (hw:U x.w) (h3:x.line=3→aM≤x.w) (ht:tag≠10) (hb:At own tag G b) (ho:G.obj b=some (sH t x)) (hl:x.line=1∨x.line=2∨x.line=3) :
  ∃ ah G1,(E ae).cl 61 [P0 b,P0 m] G=some (.tuple #[],G1)∧PW (Own own tag) own G ah G1 m (x.step true t s).2∧At ah tag G1 b∧G1.obj b=some (sH t (x.step true t s).1):=by
 rcases hl with e | e | e
 all_goals unfold ai.step; simp only [e]
 ·simp [ai.l1]
  have hn:=(hm.load (aN t (-1) 0)).2
  obtain ⟨G1,ak⟩:∃ G1,G1=G.put b (eF t 1 x.a x.i x.w x.key x.job 0 x.err):=⟨_,rfl⟩
  have w1:PW (Own own tag) own G own G1 m s:=by rw [ak]; exact (PW.refl h).aW hb.tag ht _
  have bu:At own tag G1 b:=by rw [ak]; exact hb.br _ _
  have o1:G1.obj b=some (eF t 1 x.a x.i x.w x.key x.job 0 x.err):=by rw [ak]; simp
  obtain ⟨G2,e2,x2⟩:=jM ae t (-1) 0 G1
  have w2:=w1.ej x2 tag
  have bI:=bu.df x2 tag
  have o2:=(x2.obj b bu.lt).trans o1
  generalize grown own G1 tag=aX at *
  obtain ⟨cQ,G3,e3,w3⟩:=w2.pm.load ae (aN t (-1) 0)
  generalize s.load (aN t (-1) 0)=s' at *
  generalize s'.new=v at *
  have qS:=w2.tr w3.any
  have dX:=bI.to w3.nx w3.bH.dm
  have o3:=(bI.keep ht w3).trans o2
  obtain ⟨G4,dw⟩:∃ G4,G4=G3.put b (eF t 1 v x.i x.w x.key x.job 0 x.err):=⟨_,rfl⟩
  have w4:PW (Own own tag) own G cQ G4 m s':=by rw [dw]; exact qS.aW dX.tag ht _
  have dY:At cQ tag G4 b:=by rw [dw]; exact dX.br _ _
  have o4:G4.obj b=some (eF t 1 v x.i x.w x.key x.job 0 x.err):=by rw [dw]; simp
  obtain ⟨G5,e5,x5⟩:=xC ae aZ hn G4
  obtain ⟨G6,cu⟩:∃ G6,G6=(G5.push ⟨z150,1,false,1⟩).put G5.nx ⟨[.int .i64 (v % 65536 - 1),.int .i64 (v / 65536)],1,false,1⟩:=⟨_,rfl⟩
  have x6:Ext G4 G6:=by rw [cu]; exact (x5.push _).put x5.nx _
  have p6:G6.obj G5.nx=some ⟨[.int .i64 (v % 65536 - 1),.int .i64 (v / 65536)],1,false,1⟩:=by rw [cu]; simp
  have o6:=(x6.obj b dY.lt).trans o4
  have w6:=w4.ej x6 tag
  have xR:=dY.df x6 tag
  generalize grown cQ G4 tag=CL at *
  obtain ⟨G7,lM⟩:∃ G7,G7=((G6.put b (eF t 1 v (v % 65536 - 1) x.w x.key x.job 0 x.err)).put b (eF t 2 v (v % 65536 - 1) x.w x.key x.job 0 x.err)).room 20:=⟨_,rfl⟩
  have K7:=(w6.aW xR.tag ht (eF t 1 v (v % 65536 - 1) x.w x.key x.job 0 x.err)).aW xR.tag ht (eF t 2 v (v % 65536 - 1) x.w x.key x.job 0 x.err)
  have K8:=(xR.br b (eF t 1 v (v % 65536 - 1) x.w x.key x.job 0 x.err)).br b (eF t 2 v (v % 65536 - 1) x.w x.key x.job 0 x.err)
  have w7:=K7.ej ((Ext.refl _).room 20) tag
  have kK:=K8.df ((Ext.refl _).room 20) tag
  rw [← lM] at w7 kK
  generalize grown CL _ tag=sE at *
  have o7:G7.obj b=some (eF t 2 v (v % 65536 - 1) x.w x.key x.job 0 x.err):=by rw [lM]; simp
  have iy:¬ b=G5.nx:=by have:=dY.lt; have:=x5.nx; omega
  by_cases c1:v % 65536 - 1<0
  ·rw [if_pos (.inl c1)]
   refine ⟨sE,(G7.put b (eF t 99 v (v % 65536 - 1) x.w x.key x.job 0 x.err)).put b (eF t 99 v (v % 65536 - 1) x.w x.key x.job 0 15),f61 (aq Q ae) _ _ G _ ?_,(w7.aW kK.tag ht _).aW kK.tag ht _,(kK.br _ _).br _ _,by simp [eS]⟩
   simp [s61,ho,eS,e,← ak,o1,e2,e3,o3,← dw,o4,e5,ch,cg,← cu,p6,o6,iy,← lM,o7,c1]
  ·by_cases c2:t.size≤v % 65536 - 1
   ·rw [if_pos (.inr c2)]
    refine ⟨sE,(G7.put b (eF t 99 v (v % 65536 - 1) x.w x.key x.job 0 x.err)).put b (eF t 99 v (v % 65536 - 1) x.w x.key x.job 0 15),f61 (aq Q ae) _ _ G _ ?_,(w7.aW kK.tag ht _).aW kK.tag ht _,(kK.br _ _).br _ _,by simp [eS]⟩
    simp [s61,ho,eS,e,← ak,o1,e2,e3,o3,← dw,o4,e5,ch,cg,← cu,p6,o6,iy,← lM,o7,c1,c2]
   ·rw [if_neg (by omega)]
    refine ⟨sE,G7,f61 (aq Q ae) _ _ G _ ?_,w7,kK,by rw [o7]; rfl⟩
    simp [s61,ho,eS,e,← ak,o1,e2,e3,o3,← dw,o4,e5,ch,cg,← cu,p6,o6,iy,← lM,o7,c1,c2]
 ·simp [ai.l2]
  have hn:=(hm.load (az t x.i 4)).2
  obtain ⟨ah,G1,e1,w1,bu,o1⟩:=Lo ae h ht hb ho 4
  generalize s.load (az t x.i 4)=s' at *
  generalize s'.new=v at *
  obtain ⟨G2,bA⟩:∃ G2,G2=(G1.put b (eF t 2 x.a x.i v x.key x.job x.a x.err)).put b (eF t 4 x.a x.i v x.key x.job x.a x.err):=⟨_,rfl⟩
  have w2:PW (Own own tag) own G ah G2 m s':=by rw [bA]; exact (w1.aW bu.tag ht _).aW bu.tag ht _
  have bI:At ah tag G2 b:=by rw [bA]; exact (bu.br _ _).br _ _
  have o2:G2.obj b=some (eF t 4 x.a x.i v x.key x.job x.a x.err):=by rw [bA]; simp
  have e3:=FM ae hn G2
  by_cases c1:aM≤v
  ·have jP:9223372036854775808≤v:=c1
   rw [if_pos c1]
   refine ⟨ah,G2.put b (eF t 3 x.a x.i v x.key x.job x.a x.err),f61 (aq Q ae) _ _ G _ ?_,w2.aW bI.tag ht _,bI.br _ _,by simp [eS]⟩
   simp [s61,ho,eS,e,e1,o1,← bA,o2,e3,jP]
  ·have jP:¬ 9223372036854775808≤v:=c1
   rw [if_neg c1]
   refine ⟨ah,G2,f61 (aq Q ae) _ _ G _ ?_,w2,bI,by rw [o2]; rfl⟩
   simp [s61,ho,eS,e,e1,o1,← bA,o2,e3,jP]
 ·simp [ai.l3]
  obtain ⟨G1,ak⟩:∃ G1,G1=G.put b (eF t 3 x.a x.i x.w x.key x.job 0 x.err):=⟨_,rfl⟩
  have w1:PW (Own own tag) own G own G1 m s:=by rw [ak]; exact (PW.refl h).aW hb.tag ht _
  have bu:At own tag G1 b:=by rw [ak]; exact hb.br _ _
  have o1:G1.obj b=some (eF t 3 x.a x.i x.w x.key x.job 0 x.err):=by rw [ak]; simp
  obtain ⟨G2,e2,x2⟩:=jM ae t (-1) 0 (G1.room 16)
  have y2:=((Ext.refl G1).room 16).trans x2
  have w2:=w1.ej y2 tag
  have bI:=bu.df y2 tag
  have o2:=(y2.obj b bu.lt).trans o1
  have e3:=TK ae hw (h3 e) G2
  generalize grown own G1 tag=aX at *
  obtain ⟨et,G4,e4,w4⟩:=w2.pm.bM ae (aN t (-1) 0) x.a (x.w - aM)
  have pZ:=w2.tr w4.any
  have dY:=bI.to w4.nx w4.bH.dm
  have o4:=(bI.keep ht w4).trans o2
  refine ⟨et,G4.put b (eF t 1 x.a x.i x.w x.key x.job 0 x.err),f61 (aq Q ae) _ _ G _ ?_,pZ.aW dY.tag ht _,dY.br _ _,by simp [eS]⟩
  simp [s61,ho,eS,e,← ak,o1,e2,o2,e3,e4,o4]
end
section
variable {own own' ah aX:Nat→Nat} {tag tg m r b:Nat} {t:TW} {G G' G1 G2:GS} {s s' s1:MS} {x:ai}
def mG (own:Nat→Nat) (tag:Nat) (t:TW) (G:GS) (b:Nat) (x:ai):Prop:=At own tag G b∧G.obj b=some (sH t x)
theorem mG.to (h:mG own tag t G b x) (hn:G.nx≤G'.nx) (hk:∀ g,g<G.nx→own g=tag→G'.obj g=G.obj g) (a:bf own own' G):mG own' tag t G' b x:=⟨h.1.to hn a,(hk _ h.1.lt h.1.tag).trans h.2⟩
theorem Lr {l:Int} (h:cI true l):(eS l=99↔l=99)∧(eS l=4↔l=9)∧(eS l=5↔l=91):=by
 unfold cI at h; unfold eS; split
 ·omega
 ·split
  ·omega
  ·simp at h; omega
theorem adn (ae:FuncId→Bool) (ho:G.obj b=some (sH t x)):(E ae).cl 60 [P0 b] G=some (.bool (decide (eS x.line=99)),G):=f60 (aq Q ae) _ G _ (by simp [s60,ho])
theorem ado (ae:FuncId→Bool) (aZ:ae 107=false) (hs:t.sound) (dT:t.gm) (h:PM own G m s) (hm:s.ok) (hx:x.ok true t) (ht:tag≠10) (hp:mG own tag t G b x) :
  ∃ ah G1,(E ae).cl 26 [P0 b,P0 m] G=some (.bool (decide ((x.step true t s).1.line=99)),G1)∧PW (Own own tag) own G ah G1 m (x.step true t s).2∧mG ah tag t G1 b (x.step true t s).1:=by
 have ja:=hx.step hs dT hm
 obtain ⟨hb,ho⟩:=hp
 have k9:=(Lr hx.line).1
 have Ls:=(Lr ja.1.line).1
 have e1:=adn ae ho
 rcases hx.line with e | e | e | e | e | e | ⟨k,-⟩
 ·obtain ⟨ah,G1,e2,w1,b1,o1⟩:=Lq ae aZ hs h hm hx.w hx.m3 ht hb ho (.inl e)
  refine ⟨ah,G1,f26 (aq Q ae) _ _ G _ ?_,w1,b1,o1⟩
  simp [s26,aw,e1,e,eS,ho,e2,o1]
  simpa [eS] using Ls
 ·obtain ⟨ah,G1,e2,w1,b1,o1⟩:=Lq ae aZ hs h hm hx.w hx.m3 ht hb ho (.inr (.inl e))
  refine ⟨ah,G1,f26 (aq Q ae) _ _ G _ ?_,w1,b1,o1⟩
  simp [s26,aw,e1,e,eS,ho,e2,o1]
  simpa [eS] using Ls
 ·obtain ⟨ah,G1,e2,w1,b1,o1⟩:=Lq ae aZ hs h hm hx.w hx.m3 ht hb ho (.inr (.inr e))
  refine ⟨ah,G1,f26 (aq Q ae) _ _ G _ ?_,w1,b1,o1⟩
  simp [s26,aw,e1,e,eS,ho,e2,o1]
  simpa [eS] using Ls
 ·have au:x.step true t s=x.l9 t s:=by unfold ai.step; simp [e]
  rw [au]; unfold ai.l9; simp only
  obtain ⟨ah,G1,e2,w1,b1,o1⟩:=Lo ae h ht hb ho 0
  generalize s.load (az t x.i 0)=s' at *
  generalize s'.new=v at *
  refine ⟨ah,(G1.put b (eF t 4 x.a x.i x.w v x.job x.a x.err)).put b (eF t 5 x.a x.i x.w v x.job x.a x.err),f26 (aq Q ae) _ _ G _ ?_,(w1.aW b1.tag ht _).aW b1.tag ht _,(b1.br _ _).br _ _,by simp [eS]⟩
  simp [eS,e] at o1
  simp [s26,aw,e1,e,eS,ho,e2,o1]
 ·have au:x.step true t s=x.l91 true t s:=by unfold ai.step; simp [e]
  rw [au]; unfold ai.l91; simp only [if_true]
  obtain ⟨ah,G1,e2,w1,b1,o1⟩:=adl ae h hm ht hb ho
  generalize s.load (az t x.i 1)=s' at *
  generalize s'.new=v at *
  refine ⟨ah,G1.put b (eF t 99 x.a x.i x.w x.key (v % 65536) x.a x.err),f26 (aq Q ae) _ _ G _ ?_,w1.aW b1.tag ht _,b1.br _ _,by simp [eS]⟩
  simp [s26,aw,e1,e,eS,ho,e2,o1]
 ·have au:x.step true t s=(x,s):=by unfold ai.step; simp [e]
  rw [au]
  refine ⟨own,G,f26 (aq Q ae) _ _ G _ ?_,.refl h,hb,ho⟩
  simp [s26,e,e1,eS]
 ·exact absurd k (by decide)
theorem adp (ae:FuncId→Bool) (hx:x.ok true t) (ho:G.obj b=some (sH t x)) (hb:b<G.nx):∃ G',(E ae).cl 59 [P0 b] G=some (.tuple #[mC x.ik x.ij,.int .i64 x.ie],G')∧Ext G G':=by
 have aB:¬ b=G.nx:=by omega
 have k9:=(Lr hx.line).1
 have w:Wp (s59 true (bD Q ae) (P0 b) G) fun r=>r.1= .tuple #[mC x.ik x.ij,.int .i64 x.ie]∧Ext G r.2:=by
  unfold ai.ik ai.ij ai.ie mC
  by_cases e:x.line=99
  ·have e':eS 99=99:=rfl
   by_cases e2:x.err=0
   ·simp [s59,ho,aB,ch,cg,e,e',e2]
    exact FQ _ _
   ·simp [s59,ho,aB,ch,cg,e,e',e2]
    exact (((Ext.refl G).push _).room _).put (Nat.le_refl _) _
  ·have e':¬ eS x.line=99:=fun k=>e (k9.1 k)
   simp [s59,ho,aB,ch,cg,e,e']
   exact FQ _ _
 obtain ⟨⟨v,G'⟩,e1,rfl,e3⟩:=w
 exact ⟨G',f59 (aq Q ae) _ G _ e1,e3⟩
theorem adq (ae:FuncId→Bool) (hx:x.ok true t) (ho:G.obj b=some (sH t x)) (hb:b<G.nx):∃ G',(E ae).cl 23 [P0 b] G=some (.tuple #[mC x.ik x.ij,.int .i64 x.ie],G')∧Ext G G':=by
 obtain ⟨G1,ak⟩:∃ G1,G1=G.push ⟨z60,1,false,1⟩:=⟨_,rfl⟩
 have x1:Ext G G1:=by rw [ak]; exact (Ext.refl G).push _
 have p1:G1.obj G.nx=some ⟨z60,1,false,1⟩:=by rw [ak]; simp
 have n1:G1.nx=G.nx+1:=by rw [ak]; rfl
 obtain ⟨G2,e2,x2⟩:=adp ae hx ((x1.obj b hb).trans ho) (by omega)
 have p2:=(x2.obj G.nx (by omega)).trans p1
 have w:Wp (s23 true (bD Q ae) (P0 b) G) fun r=>r.1= .tuple #[mC x.ik x.ij,.int .i64 x.ie]∧Ext G r.2:=by
  unfold mC at *
  simp [s23,← ak,e2,p2,ch,cg]
  exact (x1.trans x2).put (Nat.le_refl _) _
 obtain ⟨⟨v,G'⟩,e1,rfl,e3⟩:=w
 exact ⟨G',f23 (aq Q ae) _ G _ e1,e3⟩
theorem adr (ae:FuncId→Bool) (hs:t.sound) (G:GS):∃ G',(E ae).cl 84 [t.v] G=some (.agg ⟨(sH t (ai.new t)).cells⟩,G')∧Ext G G':=by
 obtain ⟨G1,ak⟩:∃ G1,G1=(G.push ⟨t.cells,1,false,1⟩).push ⟨z110,1,false,1⟩:=⟨_,rfl⟩
 have x1:Ext G G1:=by rw [ak]; exact ((Ext.refl G).push _).push _
 have n1:G1.nx=G.nx+2:=by rw [ak]; rfl
 have o1:G1.obj G.nx=some ⟨t.cells,1,false,1⟩:=by rw [ak]; simp
 have p1:G1.obj (G.nx+1)=some ⟨z110,1,false,1⟩:=by rw [ak]; simp
 obtain ⟨G2,e2,x2⟩:=jM ae t (-1) 0 G1
 rw [TR hs] at e2
 have o2:=(x2.obj G.nx (by omega)).trans o1
 have p2:=(x2.obj (G.nx+1) (by omega)).trans p1
 have h1:¬ t.cG<0:=by have:=hs.2.2.2.2.2.2.1; omega
 have w:Wp (s84 true (bD Q ae) t.v G) fun r=>r.1= .agg ⟨(sH t (ai.new t)).cells⟩∧Ext G r.2:=by
  unfold ai.new
  simp [s84,← ak,o1,e2,h1,o2,p2,ch,cg,gA,eS]
  exact (x1.trans x2).put (by omega) _
 obtain ⟨⟨v,G'⟩,e1,rfl,e3⟩:=w
 exact ⟨G',f84 (aq Q ae) _ G _ e1,e3⟩
theorem ads (ae:FuncId→Bool) (hs:t.sound) (G:GS):∃ b G',(E ae).cl 46 [t.v] G=some (P0 b,G')∧Ext G G' ∧G'.obj b=some (sH t (ai.new t))∧G.nx≤b∧b<G'.nx:=by
 obtain ⟨G1,ak⟩:∃ G1,G1=G.push ⟨t.cells,1,false,1⟩:=⟨_,rfl⟩
 have x1:Ext G G1:=by rw [ak]; exact (Ext.refl G).push _
 have o1:G1.obj G.nx=some ⟨t.cells,1,false,1⟩:=by rw [ak]; simp
 obtain ⟨G2,e2,x2⟩:=adr ae hs G1
 have y2:=x1.trans x2
 have w:Wp (s46 true (bD Q ae) t.v G) fun r=>r=(P0 G2.nx,G2.push (sH t (ai.new t))):=by
  unfold ai.new at e2 ⊢
  simp at e2
  simp [s46,← ak,o1,e2]
 obtain ⟨r,e3,rfl⟩:=w
 exact ⟨_,_,f46 (aq Q ae) _ G _ e3,y2.push _,by simp,y2.nx,by simp⟩
end
open Go Go.Proofs.YtkhlabammcghbaaGreat.Gh
structure Sp where
 id:Int
 fr:Int
 to:Int
 op:Int×Int×Int×Int
 an:Int×Int×Int
def cJ:ct Sp:=⟨10,fun x=>[.int .i64 x.id,.int .i64 x.fr,.int .i64 x.to,.int .i64 x.op.1,.int .i64 x.op.2.1,.int .i64 x.op.2.2.1,.int .u64 x.op.2.2.2,.int .i64 x.an.1,.int .i64 x.an.2.1,.int .u64 x.an.2.2],fun _=>rfl,fun _=>rfl,by decide⟩
@[simp] theorem adt:cJ.sz=10:=rfl
@[simp] theorem aoR (x:Sp):cJ.row x=[.int .i64 x.id,.int .i64 x.fr,.int .i64 x.to,.int .i64 x.op.1,.int .i64 x.op.2.1,.int .i64 x.op.2.2.1,.int .u64 x.op.2.2.2,.int .i64 x.an.1,.int .i64 x.an.2.1,.int .u64 x.an.2.2]:=rfl
end Go.Proofs.YtkhlabammcghbaaGreat.Lift
