import Derived.Test.YtphandknhnkhfaaGreatPA
import Derived.Test.YtphandknhnkhfaaGreatGhPR
import Derived.Test.YtphandknhnkhfaaGreatGhPC
import Derived.Test.YtphandknhnkhfaaGreatGhPD
import Derived.Test.YtphandknhnkhfaaGreatGhLS
import Derived.Test.YtphandknhnkhfaaGreatGhEQ
set_option linter.unusedVariables false
set_option linter.unusedSimpArgs false
set_option maxRecDepth 20000
namespace Go.Proofs.YtphandknhnkhfaaGreat.Lift
open Go Go.Proofs.YtphandknhnkhfaaGreat.Gh Go.Proofs
inductive gJ where
 | go (n:Nat) (w i:Int)
 | done (e:Int)
def gJ.over:gJ→Bool
 | .go ..=>false
 | .done _=>true
def gJ.ok (R:Sk):gJ→Prop
 | .go n w i=>1≤n∧n≤3∧U w∧0≤i∧i<R.size
 | .done _=>True
def gJ.step (R:Sk):gJ→MS→gJ×MS
 | .done i,s=>(.done i,s)
 | .go n w i,s =>
  if n=1 then (.go 2 (s.load R.top).new i,s.load R.top)
  else if n=2 then (.go 3 w i,s.store (R.links+i) (aH R.size w+1))
  else (if (s.bT R.top w (jt i w)).held=true then .done 0 else .go 1 w i,s.bT R.top w (jt i w))
theorem gJ.ok.step {R:Sk} {p:gJ} {s:MS} (hR:R.ok) (hp:p.ok R) (hs:s.ok):(p.step R s).1.ok R∧(p.step R s).2.ok:=by
 cases p with
 | done i=>exact ⟨hp,hs⟩
 | go n w i =>
  obtain ⟨h1,h2,h3,h4,h5⟩:=hp
  have hz:=hR.1; have dY:=hR.2.1
  have g1:=@BL R.size w
  have g2:=@BM R.size w (by omega)
  simp only [gJ.step]
  split
  ·exact ⟨⟨by decide,by decide,(hs.load _).2,h4,h5⟩,(hs.load _).1⟩
  ·split
   ·exact ⟨⟨by decide,by decide,h3,h4,h5⟩,hs.store _ ⟨by omega,by omega⟩⟩
   ·refine ⟨?_,hs.bT _ _ (Qu (by omega))⟩
    split
    ·trivial
    ·exact ⟨by decide,by decide,h3,h4,h5⟩
def fy (n:Nat):Value:=.func (.func (if n=1 then 239 else if n=2 then 242 else 245)) #[] #[]
def xg (R:Sk) (G:GS) (b:Nat):gJ→Prop
 | .go n w i=>∃ j,(n=2→j=aH R.size w)∧G.obj b=some ⟨hL R w i j true false 0 (fy n),1,false,1⟩
 | .done e=>∃ w i j nx,G.obj b=some ⟨hL R w i j true true e nx,1,false,1⟩
theorem xg.kept {R:Sk} {G G':GS} {b:Nat} {p:gJ} (h:xg R G b p) (hk:G'.obj b=G.obj b):xg R G' b p:=by
 cases p with
 | done i=>obtain ⟨w,i,j,nx,h⟩:=h; exact ⟨w,i,j,nx,hk.trans h⟩
 | go n w i=>obtain ⟨j,hj,h⟩:=h; exact ⟨j,hj,hk.trans h⟩
section
variable {m r b:Nat} {own ah:Nat→Nat} {G G1:GS} {s s':MS} {R:Sk} {p:gJ}
theorem Z0 (ae:FuncId→Bool) (ht:ae 187=false) (h:PM own G m s) (hs:s.ok) (hR:R.ok) (hb:b<G.nx) (tb:own b≠10) (hp:p.ok R) (hr:xg R G b p) :
  ∃ ah G1,(E ae).cl 246 [P0 b,P0 m] G=some (.bool (p.step R s).1.over,G1)∧PW (fun x=>x=b) own G ah G1 m (p.step R s).2∧xg R G1 b (p.step R s).1:=by
 cases p with
 | done e =>
  obtain ⟨w,i,j,nx,ho⟩:=hr
  have e0:=En ae ho
  refine ⟨own,G,f246 (ai Q ae) _ _ G _ ?_,PW.refl h,w,i,j,nx,ho⟩
  simp [s246,e0,gJ.step,gJ.over]
 | go n w i =>
  obtain ⟨h1,h2,h3,h4,h5⟩:=hp
  have wk:=hR.1; have QB:=hR.2.1; have QC:=hR.2.2.2.2.1; have QD:=hR.2.2.2.2.2
  obtain ⟨j,hj,ho⟩:=hr
  have e0:=En ae ho
  rcases (show n=1∨n=2∨n=3 by omega) with rfl | rfl | rfl
  ·obtain ⟨aG,G2,e2,w2,o2⟩:=Qz ae ht h hs hb tb ho
   simp only [gJ.step,if_true]
   generalize hs':s.load R.top=s' at *
   have w3:=(w2.ga (b:=b) rfl hb tb ⟨hL R s'.new i (aH R.size s'.new) true false 0 (fy 1),1,false,1⟩).ga (b:=b) rfl hb tb ⟨hL R s'.new i (aH R.size s'.new) true false 0 (fy 2),1,false,1⟩
   refine ⟨aG,_,f246 (ai Q ae) _ _ G _ ?_,w3,_,fun _=>rfl,by simp⟩
   generalize aH R.size s'.new=j' at *
   have e4:(E ae).cl 239 [P0 b,P0 m] G=some (.tuple #[],(G2.put b ⟨hL R s'.new i j' true false 0 (fy 1),1,false,1⟩).put b ⟨hL R s'.new i j' true false 0 (fy 2),1,false,1⟩):=by
    refine f239 (ai Q ae) _ _ G _ ?_
    simp only [fy] at *
    simp at *
    simp [s239,ho,e2,o2]
   simp only [fy] at *
   simp at *
   simp [s246,e0,ho,e4,gJ.over]
  ·have hj:=hj rfl
   have g1:=@BL R.size w
   have g2:=@BM R.size w (by omega)
   have ha:IntKind.wrap .i64 (R.links+i)=R.links+i:=wrap64 (by omega) (by omega)
   rw [← hj] at g1 g2
   simp only [gJ.step]
   rw [← hj]
   obtain ⟨G1,e1,x1⟩:=Ef ae ht (i:=j) (by omega) (G.room 20)
   have y1:=((Ext.refl G).room 20).trans x1
   have w1:=(PW.refl (B:=fun x=>x=b) h).ext y1
   have o1:=(y1.obj b hb).trans ho
   have n1:b<G1.nx:=Nat.lt_of_lt_of_le hb w1.nx
   obtain ⟨aG,G2,e2,w2⟩:=w1.pm.store ae (R.links+i) (j+1)
   have o2:=(w2.keep n1 (by rw [w1.aO.same hb]; exact tb) id).trans o1
   have w12:=w1.trans w2 fun _ _ h=>h.elim
   have w3:=w12.ga (b:=b) rfl hb tb ⟨hL R w i j true false 0 (fy 3),1,false,1⟩
   simp only [show ((2:Nat)=1)=False by simp,if_false,if_true]
   generalize s.store (R.links+i) (j+1)=s' at *
   refine ⟨aG,_,f246 (ai Q ae) _ _ G _ ?_,w3,j,fun h=>absurd h (by decide),by simp⟩
   have e4:(E ae).cl 242 [P0 b,P0 m] G=some (.tuple #[],G2.put b ⟨hL R w i j true false 0 (fy 3),1,false,1⟩):=by
    refine f242 (ai Q ae) _ _ G _ ?_
    simp only [fy] at *
    simp at *
    simp [s242,ho,ha,e1,o1,e2,o2]
   simp only [fy] at *
   simp at *
   simp [s246,e0,ho,e4,gJ.over]
  ·obtain ⟨G1,aj⟩:∃ G1,G1=(G.put b ⟨hL R w i j true false 0 (fy 1),1,false,1⟩).room 10:=⟨_,rfl⟩
   have w1:=((PW.refl (B:=fun x=>x=b) h).ga rfl hb tb ⟨hL R w i j true false 0 (fy 1),1,false,1⟩).ext ((Ext.refl _).room 10)
   rw [← aj] at w1
   have o1:G1.obj b=some ⟨hL R w i j true false 0 (fy 1),1,false,1⟩:=by rw [aj]; simp
   have n1:b<G1.nx:=Nat.lt_of_lt_of_le hb w1.nx
   obtain ⟨aG,G2,e2,w2,o2⟩:=QA ae ht w1.pm h3 n1 (by rw [w1.aO.same hb]; exact tb) o1 (k:=i) (by omega)
   have w12:=w1.trans w2 fun _ _ h=>h.elim
   simp only [gJ.step]
   generalize s.bT R.top w (jt i w)=s' at *
   cases hc:s'.held with
   | true =>
    have e3:=Em ae o2 0
    have w4:=(w12.ga (b:=b) rfl hb tb ⟨hL R w i j true true 0 (fy 1),1,false,1⟩).ga (b:=b) rfl hb tb ⟨hL R w i j true true 0 (fy 1),1,false,1⟩
    refine ⟨aG,_,f246 (ai Q ae) _ _ G _ ?_,w4,w,i,j,fy 1,by simp⟩
    have e4:(E ae).cl 245 [P0 b,P0 m] G=some (.tuple #[],(G2.put b ⟨hL R w i j true true 0 (fy 1),1,false,1⟩).put b ⟨hL R w i j true true 0 (fy 1),1,false,1⟩):=by
     refine f245 (ai Q ae) _ _ G _ ?_
     simp only [fy] at *
     simp at *
     simp [s245,ho,← aj,e2,hc,e3]
    simp only [fy] at *
    simp at *
    simp [s246,e0,ho,e4,gJ.over,hc]
   | false =>
    refine ⟨aG,G2,f246 (ai Q ae) _ _ G _ ?_,by simpa [hc] using w12,j,fun h=>by simp at h,by simpa using o2⟩
    have e4:(E ae).cl 245 [P0 b,P0 m] G=some (.tuple #[],G2):=by
     refine f245 (ai Q ae) _ _ G _ ?_
     simp only [fy] at *
     simp at *
     simp [s245,ho,← aj,e2,hc]
    simp only [fy] at *
    simp at *
    simp [s246,e0,ho,e4,gJ.over,hc,o2]
theorem Z1 (ae:FuncId→Bool) (R:Sk) (G:GS):∃ b G',(E ae).cl 153 [.agg ⟨[.int .i64 R.top,.int .i64 R.links,.int .i64 R.size]⟩] G=some (P0 b,G')∧Ext G G' ∧G.nx≤b∧b<G'.nx∧pD R G' b (.go 1 0 0 0):=by
 refine ⟨G.nx+1,(G.push ⟨[.int .i64 R.top,.int .i64 R.links,.int .i64 R.size],1,false,1⟩).push ⟨hL R 0 0 0 true false 0 (dK 1),1,false,1⟩,f153 (ai Q ae) _ G _ ?_,((Ext.refl G).push _).push _,by omega,by simp,by simp [pD]⟩
 simp [s153,dK]
def xh (R:Sk) (i:Int):gJ:=if i<0∨R.size≤i then .done 3 else .go 1 0 i
theorem Z2 {R:Sk} {i:Int}:(xh R i).ok R:=by
 unfold xh; split
 ·trivial
 ·exact ⟨by decide,by decide,⟨by decide,by decide⟩,by omega,by omega⟩
theorem Z3 (ae:FuncId→Bool) (R:Sk) (i:Int) (G:GS):∃ b G',(E ae).cl 235 [.agg ⟨[.int .i64 R.top,.int .i64 R.links,.int .i64 R.size]⟩,.int .i64 i] G=some (P0 b,G')∧Ext G G' ∧G.nx≤b∧b<G'.nx∧xg R G' b (xh R i):=by
 obtain ⟨G1,aj⟩:∃ G1,G1=(G.push ⟨[.int .i64 R.top,.int .i64 R.links,.int .i64 R.size],1,false,1⟩).push ⟨hL R 0 i 0 true false 0 (fy 1),1,false,1⟩:=⟨_,rfl⟩
 have o0:G1.obj G.nx=some ⟨[.int .i64 R.top,.int .i64 R.links,.int .i64 R.size],1,false,1⟩:=by rw [aj]; simp
 have o1:G1.obj (G.nx+1)=some ⟨hL R 0 i 0 true false 0 (fy 1),1,false,1⟩:=by rw [aj]; simp
 have n1:G1.nx=G.nx+2:=by rw [aj]; rfl
 have x1:Ext G G1:=by rw [aj]; exact ((Ext.refl G).push _).push _
 have Jb:G1=(G.push ⟨[.int .i64 R.top,.int .i64 R.links,.int .i64 R.size],1,false,1⟩).push ⟨[.int .i64 R.top,.int .i64 R.links,.int .i64 R.size,.int .u64 0,.int .i64 i,.int .i64 0,.bool true,.bool false,.int .i64 0,.func (.func 239) #[] #[]],1,false,1⟩:=aj
 have e3:=Em ae o1 3
 unfold xh
 by_cases hc:i<0∨R.size≤i
 ·rw [if_pos hc]
  refine ⟨G.nx+1,_,f235 (ai Q ae) _ _ G ((P0 (G.nx+1)),((G1.put (G.nx+1) ⟨hL R 0 i 0 true true 0 (fy 1),1,false,1⟩).put (G.nx+1) ⟨hL R 0 i 0 true true 3 (fy 1),1,false,1⟩)) ?_,(x1.put (by omega) _).put (by omega) _,by omega,by simp; omega,0,i,0,fy 1,by simp⟩
  simp only [fy] at *
  by_cases h1:i<0
  ·simp [s235,h1]
   rw [show (_:GS)=G1 from Jb.symm]
   simp at e3
   simp [e3]
  ·have h2:R.size≤i:=by omega
   simp [s235,h1,h2]
   rw [show (_:GS)=G1 from Jb.symm]
   simp at e3
   simp [e3]
 ·rw [if_neg hc]
  have h1:¬ i<0:=by omega
  have h2:¬ R.size≤i:=by omega
  refine ⟨G.nx+1,G1,f235 (ai Q ae) _ _ G _ ?_,x1,by omega,by omega,0,fun h=>absurd h (by decide),o1⟩
  simp [s235,h1,h2]
  exact Jb.symm
theorem Z4 (ae:FuncId→Bool) {i:Int} (h:pD R G b (.done i)):(E ae).cl 175 [P0 b] G=some (.tuple #[.int .i64 (if i<0 then 0 else i),.int .i64 (if i<0 then 15 else 0)],G):=by
 obtain ⟨w,j,nx,ho⟩:=h
 have e1:(E ae).cl 210 [P0 b] G=some (.int .i64 (if i<0 then 15 else 0),G):=by
  refine f210 (ai Q ae) _ G _ ?_
  simp [s210,ho]
 have e2:(E ae).cl 196 [P0 b] G=some (.tuple #[.int .i64 (if i<0 then 0 else i),.int .i64 (if i<0 then 15 else 0)],G):=by
  refine f196 (ai Q ae) _ G _ ?_
  by_cases hc:i<0
  ·simp [s196,e1,hc]
  ·simp [s196,e1,hc,ho]
 refine f175 (ai Q ae) _ G _ ?_
 simp [s175,e2]
end
section
variable {m r b:Nat} {own ah:Nat→Nat} {G G1:GS} {s s':MS} {R:Sk}
end
structure Ar where
 top:Int
 links:Int
 size:Int
 eT:Int
 rX:Int
 limit:Int
abbrev Ar.R (A:Ar):Sk:=⟨A.top,A.links,A.size⟩
abbrev Ar.cells (A:Ar):List Value:=[.int .i64 A.top,.int .i64 A.links,.int .i64 A.size,.int .i64 A.eT,.int .i64 A.rX,.int .i64 A.limit]
abbrev Ar.v (A:Ar):Value:=.agg ⟨A.cells⟩
def Ar.ok (A:Ar):Prop:=A.R.ok∧0≤A.eT∧A.eT+A.size≤4096∧0≤A.rX∧A.rX<4096∧1≤A.limit∧A.limit≤4294967295
abbrev aL (A:Ar) (c:Nat) (next:Value) (i g e:Int):List Value:=[P0 c,.int .i64 A.top,.int .i64 A.links,.int .i64 A.size,.int .i64 A.eT,.int .i64 A.rX,.int .i64 A.limit,.bool true,next,.int .i64 i,.int .u64 g,.int .i64 e]
inductive cG where
 | pop (p:fo)
 | gives (i:Int)
 | qH
 | done (g e:Int)
def cG.over:cG→Bool
 | .done ..=>true
 | _=>false
def cG.ok (A:Ar):cG→Prop
 | .pop p=>p.ok A.R∧p.over=false
 | .gives i=>0≤i∧i<A.size
 | _=>True
def cG.step (A:Ar):cG→MS→cG×MS
 | .pop p,s =>
  match p.step A.R s with
  | (.done i,s')=>(if i<0 then .qH else .gives i,s')
  | (p',s')=>(.pop p',s')
 | .gives i,s=>(.done (aU i ((s.load (A.eT+i)).new % 4294967296)) 0,s.load (A.eT+i))
 | .qH,s=>(.done 0 (if A.size≤(s.load A.rX).new then 12 else 7),s.load A.rX)
 | .done g e,s=>(.done g e,s)
theorem cG.ok.step {A:Ar} {p:cG} {s:MS} (hA:A.ok) (hp:p.ok A) (hs:s.ok):(p.step A s).1.ok A∧(p.step A s).2.ok:=by
 cases p with
 | done g e=>exact ⟨trivial,hs⟩
 | qH=>exact ⟨trivial,(hs.load _).1⟩
 | gives i=>exact ⟨trivial,(hs.load _).1⟩
 | pop p =>
  have h:=fo.ok.step hA.1 hp.1 hs
  simp only [cG.step]
  cases hq:p.step A.R s with
  | mk q s' =>
   rw [hq] at h
   cases q with
   | done i =>
    refine ⟨?_,h.2⟩
    simp only
    split
    ·trivial
    ·exact ⟨by omega,h.1.2⟩
   | go n w i j=>exact ⟨⟨h.1,rfl⟩,h.2⟩
def oD (A:Ar) (G:GS) (b c:Nat):cG→Prop
 | .pop p=>pD A.R G c p∧G.obj b=some ⟨aL A c (.func (.func 154) #[] #[]) 0 0 0,1,false,1⟩
 | .gives i=>G.obj b=some ⟨aL A c (.func (.func 176) #[] #[]) i 0 0,1,false,1⟩
 | .qH=>∃ i,G.obj b=some ⟨aL A c (.func (.func 177) #[] #[]) i 0 0,1,false,1⟩
 | .done g e=>∃ i,G.obj b=some ⟨aL A c .nilFunc i g e,1,false,1⟩
theorem oD.kept {A:Ar} {G G':GS} {b c:Nat} {p:cG} (h:oD A G b c p) (hk:G'.obj b=G.obj b) (hc:G'.obj c=G.obj c):oD A G' b c p:=by
 cases p with
 | pop p=>exact ⟨h.1.kept hc,hk.trans h.2⟩
 | gives i=>exact hk.trans h
 | qH=>obtain ⟨i,h⟩:=h; exact ⟨i,hk.trans h⟩
 | done g e=>obtain ⟨i,h⟩:=h; exact ⟨i,hk.trans h⟩
section
variable {m r b c:Nat} {own ah:Nat→Nat} {G G1:GS} {s s':MS} {A:Ar}
theorem Z5 (ae:FuncId→Bool) (ht:ae 187=false) (eu:ae 211=false) {p:cG} (h:PM own G m s) (hs:s.ok) (hA:A.ok) (hb:b<G.nx) (hc:c<G.nx) (tb:own b≠10) (tc:own c≠10) (Z6:b≠c) (hp:p.ok A) (hr:oD A G b c p) :
  ∃ ah G1,(E ae).cl 296 [P0 b,P0 m] G=some (.bool (p.step A s).1.over,G1)∧PW (fun x=>x=b∨x=c) own G ah G1 m (p.step A s).2∧oD A G1 b c (p.step A s).1:=by
 obtain ⟨hR,g1,g2,g3,g4,g5,g6⟩:=hA
 have dY:=hR.2.1
 simp only at dY
 cases p with
 | done g e =>
  obtain ⟨i,ho⟩:=hr
  refine ⟨own,G,f296 (ai Q ae) _ _ G _ ?_,PW.refl h,i,ho⟩
  simp [s296,ho,cG.step,cG.over]
 | qH =>
  obtain ⟨i,ho⟩:=hr
  obtain ⟨G1,aj⟩:∃ G1,G1=(G.put b ⟨aL A c (.func (.func 177) #[] #[]) i 0 7,1,false,1⟩).room 15:=⟨_,rfl⟩
  have w1:=((PW.refl (B:=fun x=>x=b∨x=c) h).ga (.inl rfl) hb tb ⟨aL A c (.func (.func 177) #[] #[]) i 0 7,1,false,1⟩).ext ((Ext.refl _).room 15)
  rw [← aj] at w1
  have o1:G1.obj b=some ⟨aL A c (.func (.func 177) #[] #[]) i 0 7,1,false,1⟩:=by rw [aj]; simp
  obtain ⟨aG,G2,e2,w2⟩:=w1.pm.load ae A.rX
  have o2:=(w2.keep (Nat.lt_of_lt_of_le hb w1.nx) (by rw [w1.aO.same hb]; exact tb) id).trans o1
  have w12:=w1.trans w2 fun _ _ h=>h.elim
  have cQ:IntKind.wrap .u64 A.size=A.size:=by have:=hR.1; simp only at this; rw [wrap_u64]; omega
  simp only [cG.step]
  generalize s.load A.rX=s' at *
  by_cases hc:A.size≤s'.new
  ·rw [if_pos hc]
   have w3:=(w12.ga (b:=b) (.inl rfl) hb tb ⟨aL A c (.func (.func 177) #[] #[]) i 0 12,1,false,1⟩).ga (b:=b) (.inl rfl) hb tb ⟨aL A c .nilFunc i 0 12,1,false,1⟩
   refine ⟨aG,_,f296 (ai Q ae) _ _ G _ ?_,w3,i,by simp⟩
   have e4:(E ae).cl 177 [P0 b,P0 m] G=some (.tuple #[],(G2.put b ⟨aL A c (.func (.func 177) #[] #[]) i 0 12,1,false,1⟩).put b ⟨aL A c .nilFunc i 0 12,1,false,1⟩):=by
    refine f177 (ai Q ae) _ _ G _ ?_
    simp [s177,ao,ho,← aj,o1,e2,o2,cQ,hc]
   simp [s296,ho,e4,cG.over]
  ·rw [if_neg hc]
   have w3:=w12.ga (b:=b) (.inl rfl) hb tb ⟨aL A c .nilFunc i 0 7,1,false,1⟩
   refine ⟨aG,_,f296 (ai Q ae) _ _ G _ ?_,w3,i,by simp⟩
   have e4:(E ae).cl 177 [P0 b,P0 m] G=some (.tuple #[],G2.put b ⟨aL A c .nilFunc i 0 7,1,false,1⟩):=by
    refine f177 (ai Q ae) _ _ G _ ?_
    simp [s177,ao,ho,← aj,o1,e2,o2,cQ,hc]
   simp [s296,ho,e4,cG.over]
 | gives i =>
  have ho:G.obj b=_:=hr
  obtain ⟨ki,Qs⟩:=hp
  have ha:IntKind.wrap .i64 (A.eT+i)=A.eT+i:=wrap64 (by omega) (by omega)
  obtain ⟨k,x0⟩:∃ k,Ext G (G.room k):=⟨0,(Ext.refl G).room 0⟩
  clear x0 k
  have w1:=(PW.refl (B:=fun x=>x=b∨x=c) h)
  simp only [cG.step]
  have key:∀ k,∃ aG G2,(E ae).cl 49 [P0 m,.int .i64 (A.eT+i)] (G.room k)=some (.int .u64 (s.load (A.eT+i)).new,G2)∧PW no own G aG G2 m (s.load (A.eT+i)):=fun k=>by
   have w0:=(PW.refl (B:=no) h).ext ((Ext.refl G).room k)
   obtain ⟨aG,G2,e2,w2⟩:=w0.pm.load ae (A.eT+i)
   exact ⟨aG,G2,e2,w0.trans w2 fun _ _ h=>h⟩
  have hw:=(hs.load (A.eT+i)).2
  generalize s.load (A.eT+i)=s' at *
  have fin:∀ {aG:Nat→Nat} {G2:GS},PW no own G aG G2 m s' →∃ bB G3,(∃ Z7,(E ae).cl 198 [.int .u64 s'.new] G2=some (.int .i64 (s'.new % 4294967296),G2)∧(E ae).cl 197 [.agg ⟨[.int .i64 i,.int .i64 (s'.new % 4294967296),.bool false]⟩] G2=some (.tuple #[.int .u64 (aU i (s'.new % 4294967296)),.int .i64 0],G3)∧Z7 =G2)∧PW no own G bB G3 m s':=fun {aG G2} w2=>by
   obtain ⟨G3,e3,x3⟩:=Qr ae eu (i:=i) (g:=s'.new % 4294967296) (by omega) (by omega) G2
   exact ⟨_,G3,⟨G2,Zz ae hw G2,e3,rfl⟩,w2.ext x3⟩
  obtain ⟨aG,G2,e2,w2⟩:=key 26
  obtain ⟨bB,G3,⟨_,e3,e4,-⟩,w3⟩:=fin w2
  have o2:=(w2.keep hb tb id).trans ho
  have o3:=(w3.keep hb tb id).trans ho
  have w4:=((w3.mono (B':=fun x=>x=b∨x=c) fun _ _ h=>h.elim).ga (b:=b) (.inl rfl) hb tb ⟨aL A c (.func (.func 176) #[] #[]) i (aU i (s'.new % 4294967296)) 0,1,false,1⟩).ga (b:=b) (.inl rfl) hb tb ⟨aL A c .nilFunc i (aU i (s'.new % 4294967296)) 0,1,false,1⟩
  refine ⟨bB,_,f296 (ai Q ae) _ _ G _ ?_,w4,i,by simp⟩
  have e5:(E ae).cl 176 [P0 b,P0 m] G=some (.tuple #[],(G3.put b ⟨aL A c (.func (.func 176) #[] #[]) i (aU i (s'.new % 4294967296)) 0,1,false,1⟩).put b ⟨aL A c .nilFunc i (aU i (s'.new % 4294967296)) 0,1,false,1⟩):=by
   refine f176 (ai Q ae) _ _ G _ ?_
   simp [s176,ho,ha,e2,o2,e3,e4,o3]
  simp [s296,ho,e5,cG.over]
 | pop p =>
  obtain ⟨Z8,ho⟩:=hr
  obtain ⟨ah,G1,e1,w1,r1⟩:=ZZ ae ht h hs hR hc tc hp.1 Z8
  have o1:=(w1.keep hb tb Z6).trans ho
  have eQ:PW (fun x=>x=b∨x=c) own G ah G1 m (p.step A.R s).2:=w1.mono fun _ _ h=>.inr h
  simp only [cG.step]
  generalize hq:p.step A.R s=q at *
  obtain ⟨q,s'⟩:=q
  simp only at e1 eQ r1
  cases q with
  | go n w i j =>
   simp [fo.over] at e1
   refine ⟨ah,G1,f296 (ai Q ae) _ _ G _ ?_,eQ,r1,by simpa using o1⟩
   have e5:(E ae).cl 154 [P0 b,P0 m] G=some (.tuple #[],G1):=by
    refine f154 (ai Q ae) _ _ G _ ?_
    simp [s154,ho,e1]
   simp [s296,ho,e5,o1,cG.over]
  | done i =>
   simp [fo.over] at e1
   have e2:=Z4 ae r1
   by_cases hi:i<0
   ·simp only [if_pos hi] at e2 ⊢
    have w4:=((eQ.ga (b:=b) (.inl rfl) hb tb ⟨aL A c (.func (.func 154) #[] #[]) 0 0 0,1,false,1⟩).ga (b:=b) (.inl rfl) hb tb ⟨aL A c (.func (.func 176) #[] #[]) 0 0 0,1,false,1⟩).ga (b:=b) (.inl rfl) hb tb ⟨aL A c (.func (.func 177) #[] #[]) 0 0 0,1,false,1⟩
    refine ⟨ah,_,f296 (ai Q ae) _ _ G _ ?_,w4,0,by simp⟩
    have e5:(E ae).cl 154 [P0 b,P0 m] G=some (.tuple #[],((G1.put b ⟨aL A c (.func (.func 154) #[] #[]) 0 0 0,1,false,1⟩).put b ⟨aL A c (.func (.func 176) #[] #[]) 0 0 0,1,false,1⟩).put b ⟨aL A c (.func (.func 177) #[] #[]) 0 0 0,1,false,1⟩):=by
     refine f154 (ai Q ae) _ _ G _ ?_
     simp [s154,ho,e1,o1,e2]
    simp [s296,ho,e5,cG.over]
   ·simp only [if_neg hi] at e2 ⊢
    have w4:=(eQ.ga (b:=b) (.inl rfl) hb tb ⟨aL A c (.func (.func 154) #[] #[]) i 0 0,1,false,1⟩).ga (b:=b) (.inl rfl) hb tb ⟨aL A c (.func (.func 176) #[] #[]) i 0 0,1,false,1⟩
    refine ⟨ah,_,f296 (ai Q ae) _ _ G _ ?_,w4,by simp [oD]⟩
    have e5:(E ae).cl 154 [P0 b,P0 m] G=some (.tuple #[],(G1.put b ⟨aL A c (.func (.func 154) #[] #[]) i 0 0,1,false,1⟩).put b ⟨aL A c (.func (.func 176) #[] #[]) i 0 0,1,false,1⟩):=by
     refine f154 (ai Q ae) _ _ G _ ?_
     simp [s154,ho,e1,o1,e2]
    simp [s296,ho,e5,cG.over]
end
section
variable {m r b c:Nat} {own ah:Nat→Nat} {G G1:GS} {s s':MS} {A:Ar}
theorem Z9 (ae:FuncId→Bool) (A:Ar) (G:GS):∃ b c G',(E ae).cl 116 [A.v] G=some (P0 b,G')∧Ext G G' ∧G.nx≤b∧b<G'.nx∧G.nx≤c∧c<G'.nx∧b≠c∧oD A G' b c (.pop (.go 1 0 0 0)):=by
 have w:Wp (s116 true (bA Q ae) A.v G) fun q=>∃ b c,q.1=P0 b∧Ext G q.2∧G.nx≤b∧b<q.2.nx∧G.nx≤c∧c<q.2.nx∧b≠c∧oD A q.2 b c (.pop (.go 1 0 0 0)):=by
  have x0:Ext G (G.push ⟨A.cells,1,false,1⟩):=(Ext.refl G).push _
  simp [s116]
  generalize bl:GS.room _ _=G0
  have x0:Ext G G0:=by rw [← bl]; exact x0.room _
  have o0:G0.obj G.nx=some ⟨A.cells,1,false,1⟩:=by rw [← bl]; simp
  have n0:G.nx<G0.nx:=by rw [← bl]; simp; omega
  have n0':G.nx+1+5<G0.nx:=by rw [← bl]; simp
  refine Wp.Zq (Z1 ae A.R _) fun c G1 ⟨x1,c1,c2,c3⟩=>?_
  have n1:=x1.nx
  have o1:=(x1.obj _ n0).trans o0
  simp [o1,o0]
  refine ⟨Ext.drawn (x0.trans x1) (by omega) (by omega) _,by omega,by omega,c,by omega,c2,by omega,c3.kept (by simp; omega),by simp [aL]⟩
 obtain ⟨⟨v,G'⟩,e1,b,c,rfl,h⟩:=w
 exact ⟨b,c,G',f116 (ai Q ae) _ G _ e1,h⟩
def cG.told:cG→Int×Int
 | .done g e=>(g,e)
 | _=>(0,14)
theorem aac (ae:FuncId→Bool) {p:cG} (h:oD A G b c p):∃ G',(E ae).cl 155 [P0 b] G=some (.tuple #[.int .u64 p.told.1,.int .i64 p.told.2],G')∧Ext G G':=by
 cases p with
 | pop p=>exact ⟨_,f155 (ai Q ae) _ G _ (by simp [s155,h.2,cG.told]),Ext.refl _⟩
 | gives i=>have h:G.obj b=_:=h; exact ⟨_,f155 (ai Q ae) _ G _ (by simp [s155,h,cG.told]),Ext.refl _⟩
 | qH=>obtain ⟨i,h⟩:=h; exact ⟨_,f155 (ai Q ae) _ G _ (by simp [s155,h,cG.told]),Ext.refl _⟩
 | done g e=>obtain ⟨i,h⟩:=h; exact ⟨_,f155 (ai Q ae) _ G _ (by simp [s155,h,cG.told]; rfl),(Ext.refl _).room _⟩
end
section
variable {G B:GS} {A:List Int} {v0:Value}
end
abbrev Sk.v (R:Sk):Value:=.agg ⟨[.int .i64 R.top,.int .i64 R.links,.int .i64 R.size]⟩
def Sk.sized (R:Sk):Prop:=1≤R.size∧R.size≤4096
instance (R:Sk):Decidable R.sized:=by unfold Sk.sized; exact inferInstance
def Sk.QE (R:Sk) (c:Int):Prop:=R.sized∧0≤R.top∧R.top<c∧0≤R.links∧R.links≤c - R.size∧¬ (R.links≤R.top∧R.top<R.links+R.size)
instance (R:Sk) (c:Int):Decidable (R.QE c):=by unfold Sk.QE; exact inferInstance
section
variable {G B:GS} {A:Ar} {R:Sk} {c:Int}
theorem aad (ae:FuncId→Bool) (R:Sk) (G:GS):(E ae).cl 140 [R.v] G=some (.bool (decide R.sized),G.push ⟨[.int .i64 R.top,.int .i64 R.links,.int .i64 R.size],1,false,1⟩):=by
 refine f140 (ai Q ae) _ G _ ?_
 unfold Sk.sized
 by_cases h1:1≤R.size
 ·by_cases h2:R.size≤4096<;>simp [s140,h1,h2]
 ·simp [s140,h1]
def QF (L:List Int) (n:Int) (i:Nat):Prop:=0≤(L[i]?).getD 0∧(L[i]?).getD 0<n∧(L[i]?).getD 0∉L.take i
instance (L:List Int) (n:Int) (i:Nat):Decidable (QF L n i):=by unfold QF; exact inferInstance
def Ar.Eo (A:Ar):Prop:=1≤A.limit∧A.limit≤4294967295
instance (A:Ar):Decidable A.Eo:=by unfold Ar.Eo; exact inferInstance
end
structure Ops (X:Type) where
 e:cT X
 ok:(Nat→Nat)→GS→Nat→X→Prop
 to:∀ {own own':Nat→Nat} {G G':GS} {i:Nat} {x:X},ok own G i x→G.nx≤G'.nx→(∀ g,g<G.nx→own g=i→G'.obj g=G.obj g)→bW own own' G→ok own' G' i x
section
variable {X:Type} {O:Ops X} {n m r b cb t i:Nat} {B:Nat→Prop} {own own':Nat→Nat} {G G' G1:GS} {s s':MS} {L:List X} {ts:List Nat} {x y:X}
theorem PM.qI (h:PM own G m s) (q:nq ts own G G') (h1:10∉ts) (a:bW own own' G):PM own' G' m s:=(zg m s).tag h q h1 a
end
def pE (R:Sk) (i:Nat):Int:=if (i:Int)+1=R.size then 0 else i+2
def qJ (R:Sk):Nat→Nat→MS→MS
 | 0,_,s=>s
 | k+1,i,s=>qJ R k (i+1) (s.store (R.links+i) (pE R i))
def pv (R:Sk) (s:MS):MS:=qJ R R.size.toNat 0 (s.store R.top 1)
def rY (A:Ar):Nat→Nat→MS→MS
 | 0,_,s=>s
 | k+1,i,s=>rY A k (i+1) (s.store (A.eT+i) 1)
def BO (A:Ar) (s:MS):MS:=rY A A.size.toNat 0 ((Lift.pv A.R s).store A.rX 0)
theorem QG (R:Sk) (hR:R.ok):∀ (k i:Nat) (s:MS),(i+k:Nat)≤R.size→s.ok→(qJ R k i s).ok
 | 0,_,s,_,h=>h
 | k+1,i,s,hi,h=>QG R hR k (i+1) _ (by omega) (h.store _ (by have:=hR.2.1; unfold pE U; split<;>omega))
theorem QH (A:Ar):∀ (k i:Nat) (s:MS),s.ok→(rY A k i s).ok
 | 0,_,s,h=>h
 | k+1,i,s,h=>QH A k (i+1) _ (h.store _ ⟨by decide,by decide⟩)
theorem aae {A:Ar} (hA:A.ok) {s:MS} (h:s.ok):(BO A s).ok:=by
 have h1:=hA.1.1
 simp only at h1
 exact QH A _ _ _ ((QG A.R hA.1 _ _ _ (by simp only; omega) (h.store _ ⟨by decide,by decide⟩)).store _ ⟨by decide,by decide⟩)
section
variable {m r rb:Nat} {own own0:Nat→Nat} {G G0:GS} {s:MS} {R:Sk} {A:Ar}
theorem aaf (ae:FuncId→Bool) (ht:ae 187=false) (hR:R.ok) (jV:rb<G0.nx) (oE:own0 rb≠10) (oF:G0.obj rb=some ⟨[.int .i64 R.top,.int .i64 R.links,.int .i64 R.size],1,false,1⟩) {n:Nat} (hn:R.size=n) :
  ∀ (k i:Nat) (τ:Env) (own:Nat→Nat) (G:GS) (s:MS),i+k=n→PW no own0 G0 own G m s→τ 1=P0 m→τ 2=P0 rb→τ 15= .int .i64 n→τ 16= .int .i64 i →
  Wp ((bA Q ae).du 107 0 τ G) fun q=>q.1= .exit 0∧∃ own',PW no own0 G0 own' q.2.2 m (qJ R k i s):=by
 intro k
 induction k with
 | zero =>
  intro i τ own G s hi w t1 t2 t15 t16
  have bw:i=n:=by omega
  subst bw
  refine Wp.lp (P8 (ai Q ae)) ?_
  simp [xf,yZ,ao,t1,t2,t15,t16,qJ]
  exact ⟨own,w⟩
 | succ k ih =>
  intro i τ own G s hi w t1 t2 t15 t16
  have wk:=hR.1; have QB:=hR.2.1; have QC:=hR.2.2.2.2.1; have QD:=hR.2.2.2.2.2
  have o:=(w.keep jV oE id).trans oF
  have aJ:i<n:=by omega
  have hw:IntKind.wrap .i64 ((i:Int)+1)=((i+1:Nat):Int):=wrap64 (by omega) (by omega)
  have ha:IntKind.wrap .i64 (R.links+i)=R.links+i:=wrap64 (by omega) (by omega)
  refine Wp.lp (P8 (ai Q ae)) ?_
  have w0:=w.ext ((Ext.refl G).room 8)
  have o0:(G.room 8).obj rb=some ⟨[.int .i64 R.top,.int .i64 R.links,.int .i64 R.size],1,false,1⟩:=o
  by_cases hl:(i:Int)+1=R.size
  ·have dp:((i+1:Nat):Int)=R.size:=by omega
   have hv:pE R i=0:=by unfold pE; rw [if_pos hl]
   obtain ⟨G1,e1,x1⟩:=Ef ae ht (i:=-1) (by decide) (G.room 8)
   have w1:=w0.ext x1
   have o1:=(x1.obj rb (Nat.lt_of_lt_of_le jV w0.nx)).trans o0
   obtain ⟨aG,G2,e2,w2⟩:=w1.pm.store ae (R.links+i) 0
   simp [-Int.natCast_add,xf,yZ,oC,BA,ao,t1,t2,t15,t16,aJ,hw,o,dp,ha,e1,o1,e2]
   refine (ih (i+1) _ _ G2 _ (by omega) (w1.trans w2 fun _ _ h=>h) (by simp [ao]) (by simp [ao]) (by simp [ao]) (by simp [ao]; omega)).mono ?_
   rintro q ⟨q1,own',q2⟩
   exact ⟨q1,own',by simpa [qJ,hv] using q2⟩
  ·have dp:¬ ((i+1:Nat):Int)=R.size:=by omega
   have hv:pE R i=i+2:=by unfold pE; rw [if_neg hl]
   obtain ⟨G1,e1,x1⟩:=Ef ae ht (i:=((i+1:Nat):Int)) (by omega) (G.room 8)
   have w1:=w0.ext x1
   have o1:=(x1.obj rb (Nat.lt_of_lt_of_le jV w0.nx)).trans o0
   have AB:((i+1:Nat):Int)+1=i+2:=by omega
   rw [AB] at e1
   obtain ⟨aG,G2,e2,w2⟩:=w1.pm.store ae (R.links+i) (i+2)
   simp [-Int.natCast_add,xf,yZ,oC,BA,ao,t1,t2,t15,t16,aJ,hw,o,dp,ha,e1,o1,e2]
   refine (ih (i+1) _ _ G2 _ (by omega) (w1.trans w2 fun _ _ h=>h) (by simp [ao]) (by simp [ao]) (by simp [ao]) (by simp [ao])).mono ?_
   rintro q ⟨q1,own',q2⟩
   exact ⟨q1,own',by simpa [qJ,hv] using q2⟩
theorem aag (ae:FuncId→Bool) (ht:ae 187=false) (hR:R.ok) (h:PM own G m s):∃ own' G',(E ae).cl 107 [R.v,P0 m] G=some (.tuple #[],G')∧PW no own G own' G' m (Lift.pv R s):=by
 obtain ⟨n,hn⟩:∃ n:Nat,R.size=n:=⟨R.size.toNat,by have:=hR.1; omega⟩
 have w:Wp (s107 true (bA Q ae) R.v (P0 m) G) fun q=>q.1= .tuple #[]∧∃ own',PW no own G own' q.2 m (Lift.pv R s):=by
  obtain ⟨G1,aj⟩:∃ G1,G1=G.push ⟨[.int .i64 R.top,.int .i64 R.links,.int .i64 R.size],1,false,1⟩:=⟨_,rfl⟩
  have x1:Ext G G1:=by rw [aj]; exact (Ext.refl G).push _
  have o1:G1.obj G.nx=some ⟨[.int .i64 R.top,.int .i64 R.links,.int .i64 R.size],1,false,1⟩:=by rw [aj]; simp
  have n1:G1.nx=G.nx+1:=by rw [aj]; rfl
  have e2:=aad ae R G1
  have hz:R.sized:=⟨hR.1,hR.2.1⟩
  simp only [hz,decide_true] at e2
  obtain ⟨G2,aD⟩:∃ G2,G2=G1.push ⟨[.int .i64 R.top,.int .i64 R.links,.int .i64 R.size],1,false,1⟩:=⟨_,rfl⟩
  rw [← aD] at e2
  have x2:Ext G1 G2:=by rw [aD]; exact (Ext.refl _).push _
  have o2:=(x2.obj _ (by omega)).trans o1
  obtain ⟨G3,e3,x3⟩:=Ef ae ht (i:=0) (by decide) (G2.room 5)
  have y3:=(x1.trans x2).trans (((Ext.refl G2).room 5).trans x3)
  have o3:=((((Ext.refl G2).room 5).trans x3).obj _ (by have:=x2.nx; omega)).trans o2
  have w3:=(PW.refl (B:=no) h).ext y3
  obtain ⟨eU,G4,e4,w4⟩:=w3.pm.store ae R.top (0+1)
  have t0:grown own G 13 G.nx=13:=gx (Nat.le_refl _)
  have n3:G.nx<G3.nx:=by have:=x2.nx; have:=x3.nx; simp at this; omega
  have o4:=(w4.keep n3 (by rw [t0]; decide) id).trans o3
  have w34:=w3.trans w4 fun _ _ h=>h
  simp only [Int.zero_add] at e3 e4 w4 w34
  simp [s107,← aj,o1,e2,o2,e3,o3,e4,o4]
  refine Wp.bE ((aaf ae ht hR (rb:=G.nx) (G0:=G3) (own0:=grown own G 13) n3 (by rw [t0]; decide) o3 hn n 0 _ eU G4 (s.store R.top 1) (by omega) w4 (by simp) (by simp) (by simp [hn]) (by simp)).mono ?_)
  rintro ⟨e,τ,G5⟩ ⟨rfl,jb,q⟩
  simp only at q
  simp
  refine ⟨jb,w3.trans ?_ fun _ _ h=>h⟩
  simpa [Lift.pv,hn] using q
 obtain ⟨⟨v,G'⟩,e1,rfl,own',hh⟩:=w
 exact ⟨own',G',f107 (ai Q ae) _ _ G _ e1,hh⟩
theorem aah (ae:FuncId→Bool) (hA:A.ok) (jV:rb<G0.nx) (oE:own0 rb≠10) (oF:G0.obj rb=some ⟨A.cells,1,false,1⟩) {n:Nat} (hn:A.size=n) :
  ∀ (k i:Nat) (τ:Env) (own:Nat→Nat) (G:GS) (s:MS),i+k=n→PW no own0 G0 own G m s→τ 1=P0 m→τ 2=P0 rb→τ 18= .int .i64 n→τ 19= .int .i64 i →
  Wp ((bA Q ae).du 73 0 τ G) fun q=>q.1= .exit 0∧∃ own',PW no own0 G0 own' q.2.2 m (rY A k i s):=by
 intro k
 induction k with
 | zero =>
  intro i τ own G s hi w t1 t2 t15 t16
  have bw:i=n:=by omega
  subst bw
  refine Wp.lp (PR (ai Q ae)) ?_
  simp [IA,ao,t1,t2,t15,t16,rY]
  exact ⟨own,w⟩
 | succ k ih =>
  intro i τ own G s hi w t1 t2 t15 t16
  have h1:=hA.2.1; have h2:=hA.2.2.1; have h3:=hA.1.2.1
  simp only at h3
  have o:=(w.keep jV oE id).trans oF
  have aJ:i<n:=by omega
  have hw:IntKind.wrap .i64 ((i:Int)+1)=((i+1:Nat):Int):=wrap64 (by omega) (by omega)
  have ha:IntKind.wrap .i64 (A.eT+i)=A.eT+i:=wrap64 (by omega) (by omega)
  refine Wp.lp (PR (ai Q ae)) ?_
  obtain ⟨aG,G2,e2,w2⟩:=w.pm.store ae (A.eT+i) 1
  simp [-Int.natCast_add,IA,ao,t1,t2,t15,t16,aJ,hw,o,ha,e2]
  refine (ih (i+1) _ _ G2 _ (by omega) (w.trans w2 fun _ _ h=>h) (by simp [ao]) (by simp [ao]) (by simp [ao]) (by simp [ao])).mono ?_
  rintro q ⟨q1,own',q2⟩
  exact ⟨q1,own',by simpa [rY] using q2⟩
theorem aai (ae:FuncId→Bool) (ht:ae 187=false) (hA:A.ok) (h:PM own G m s):∃ own' G',(E ae).cl 73 [A.v,P0 m] G=some (.tuple #[],G')∧PW no own G own' G' m (BO A s):=by
 obtain ⟨n,hn⟩:∃ n:Nat,A.size=n:=⟨A.size.toNat,by have:=hA.1.1; simp only at this; omega⟩
 have w:Wp (s73 true (bA Q ae) A.v (P0 m) G) fun q=>q.1= .tuple #[]∧∃ own',PW no own G own' q.2 m (BO A s):=by
  obtain ⟨G1,aj⟩:∃ G1,G1=G.push ⟨A.cells,1,false,1⟩:=⟨_,rfl⟩
  have x1:Ext G G1:=by rw [aj]; exact (Ext.refl G).push _
  have o1:G1.obj G.nx=some ⟨A.cells,1,false,1⟩:=by rw [aj]; simp
  have n1:G1.nx=G.nx+1:=by rw [aj]; rfl
  have e2:∃ G2,(E ae).cl 106 [A.v] G1=some (.bool true,G2)∧Ext G1 G2:=by
   have z1:=hA.1.1; have z2:=hA.1.2.1
   simp only at z1 z2
   exact ⟨G1.push ⟨A.cells,1,false,1⟩,f106 (ai Q ae) _ G1 _ (by simp [s106,z1,z2]),(Ext.refl _).push _⟩
  obtain ⟨G2,e2,x2⟩:=e2
  have o2:=(x2.obj _ (by omega)).trans o1
  have n2:=x2.nx
  have w2:=(PW.refl (B:=no) h).ext (x1.trans x2)
  obtain ⟨bB,G3,e3,w3⟩:=aag ae ht (R:=A.R) hA.1 w2.pm
  have t0:grown own G 13 G.nx=13:=gx (Nat.le_refl _)
  have o3:=(w3.keep (show G.nx<G2.nx by omega) (by rw [t0]; decide) id).trans o2
  have t3:bB G.nx=13:=(w3.aO.same (by omega)).trans t0
  obtain ⟨eU,G4,e4,w4⟩:=w3.pm.store ae A.rX 0
  have n3:=w3.nx
  have o4:=(w4.keep (show G.nx<G3.nx by omega) (by rw [t3]; decide) id).trans o3
  simp [s73,← aj,o1,e2,o2,e3,o3,e4,o4]
  refine Wp.bE ((aah ae hA (rb:=G.nx) (G0:=G3) (own0:=bB) (by omega) (by rw [t3]; decide) o3 hn n 0 _ eU G4 _ (by omega) w4 (by simp) (by simp) (by simp [hn]) (by simp)).mono ?_)
  rintro ⟨e,τ,G5⟩ ⟨rfl,jb,q⟩
  simp only at q
  simp
  refine ⟨jb,(w2.trans w3 fun _ _ h=>h).trans ?_ fun _ _ h=>h⟩
  simpa [BO,hn] using q
 obtain ⟨⟨v,G'⟩,e1,rfl,own',hh⟩:=w
 exact ⟨own',G',f73 (ai Q ae) _ _ G _ e1,hh⟩
end
section
variable {m r rb:Nat} {own own0:Nat→Nat} {G G0:GS} {s:MS} {R:Sk} {A:Ar}
end
theorem w0:IntKind.wrap .i64 0=0:=by decide
theorem w4:IntKind.wrap .i64 4=4:=by decide
structure TW where
 nodes:Int
 cn:Int
 ay:Int
 top:Int
 links:Int
 size:Int
 u6:Int
 u7:Int
 u8:Int
 u9:Int
 u10:Int
 u11:Int
 u12:Int
abbrev TW.cells (t:TW):List Value:=[.int .i64 t.nodes,.int .i64 t.cn,.int .i64 t.ay,.int .i64 t.top,.int .i64 t.links,.int .i64 t.size,.int .i64 t.u6,.int .i64 t.u7,.int .i64 t.u8,.int .i64 t.u9,.int .i64 t.u10,.int .i64 t.u11,.int .i64 t.u12]
abbrev TW.v (t:TW):Value:=.agg ⟨t.cells⟩
def TW.sound (t:TW):Prop:=1≤t.ay∧t.ay≤4∧1≤t.size∧t.size≤128∧0≤t.nodes∧t.nodes<4096∧0≤t.cn∧t.cn<4096
instance (t:TW):Decidable t.sound:=by unfold TW.sound; exact inferInstance
theorem Jc (ae:FuncId→Bool) (t:TW) (G:GS):∃ G',(E ae).cl 35 [t.v] G=some (.bool (decide t.sound),G')∧Ext G G':=by
 refine ⟨G.push ⟨t.cells,1,false,1⟩,f35 (ai Q ae) _ G _ ?_,(Ext.refl G).push _⟩
 unfold TW.sound
 by_cases h1:1≤t.ay
 ·by_cases h2:t.ay≤4
  ·by_cases h3:1≤t.size
   ·by_cases h4:t.size≤128
    ·by_cases h5:0≤t.nodes
     ·by_cases h6:t.nodes<4096
      ·by_cases h7:0≤t.cn
       ·by_cases h8:t.cn<4096<;>simp [s35,h1,h2,h3,h4,h5,h6,h7,h8]
       ·simp [s35,h1,h2,h3,h4,h5,h6,h7]
      ·simp [s35,h1,h2,h3,h4,h5,h6]
     ·simp [s35,h1,h2,h3,h4,h5]
    ·simp [s35,h1,h2,h3,h4]
   ·simp [s35,h1,h2,h3]
  ·simp [s35,h1,h2]
 ·simp [s35,h1]
theorem QI (ae:FuncId→Bool) (h:Int) (G:GS):dS Q (aC Q ae) (.iface 251 (.int .i64 h)) "coxswain/tower.cells" [] G=some (.int .i64 h,G):=by
 have e:dS Q (aC Q ae) (.iface 251 (.int .i64 h)) "coxswain/tower.cells" [] G=(E ae).cl 302 [.int .i64 h] G:=by kernel_rfl
 rw [e]
 exact f302 (ai Q ae) _ G _ (by simp [s302])
theorem aaj (ae:FuncId→Bool) (t:TW) (G:GS):∃ G',(E ae).cl 145 [t.v] G=some (.agg ⟨[.int .i64 t.cn,.int .i64 1,.int .i64 t.ay]⟩,G')∧Ext G G':=by
 refine ⟨((G.push ⟨t.cells,1,false,1⟩).push ⟨[.int .i64 0,.int .i64 0,.int .i64 0],1,false,1⟩).put (G.nx+1) ⟨[.int .i64 t.cn,.int .i64 1,.int .i64 t.ay],1,false,1⟩,f145 (ai Q ae) _ G _ ?_,(((Ext.refl G).push _).push _).put (by omega) _⟩
 simp [s145,bQ,bO]
def aB (t:TW) (i part:Int):Int :=
 if t.sound then
  if i= -1 then if 4≤part∧part<4+t.ay then t.cn+(part - 4) else -1
  else if 0≤i∧i<t.size∧0≤part∧part<4+t.ay then t.nodes+i*(4+t.ay)+part else -1
 else -1
def aX (t:TW) (i l:Int):Int:=if 0≤l∧l<4 then aB t i (4+l) else -1
structure dZ where
 pred:Int
 known:Int
 cur:Int
structure au where
 key:Int
 line:Int
 l:Int
 at_:dZ
 w:Int
 told:List dZ
 by_:Int
def bp:Int:=9223372036854775808
def au.anew (t:TW) (x:au):au:={ x with line:=1,l:=t.ay - 1,at_:=⟨-1,0,0⟩ }
def au.tell (x:au):au :=
 if x.l<1 then { x with told:=x.told.set x.l.toNat x.at_,line:=9 }
 else { x with told:=x.told.set x.l.toNat x.at_,line:=1,l:=x.l - 1,at_:={ x.at_ with cur:=0 } }
def au.looks (t:TW) (x:au):au:=if aH t.size x.at_.cur<0 then { x with line:=2 }.tell else { x with line:=2 }
def au.step (t:TW) (x:au) (s:MS):au×MS :=
 let p:=aX t x.at_.pred x.l
 let i:=aH t.size x.at_.cur
 if x.line=9 then (x,s)
 else if x.line=2 then
  let s':=s.load (aX t i x.l)
  ({ x with by_:=x.at_.cur,w:=s'.new,line:=if bp≤s'.new then 3 else 4 },s')
 else if x.line=3 then
  let s':=s.bT p x.at_.cur (x.w - bp)
  if s'.held then (({ x with by_:=x.at_.known,at_:={ x.at_ with cur:=x.w - bp } }:au).looks t,s')
  else (({ x with by_:=x.at_.known }:au).anew t,s')
 else if x.line=4 then
  let s':=s.load (aB t i 0)
  if x.key≤s'.new then (({ x with by_:=x.at_.cur }:au).tell,s')
  else (({ x with by_:=x.at_.cur,at_:=⟨i,x.at_.cur,x.w⟩ }:au).looks t,s')
 else
  let s':=s.load p
  if bp≤s'.new then (({ x with by_:=x.at_.known,at_:={ x.at_ with cur:=s'.new } }:au).anew t,s')
  else (({ x with by_:=x.at_.known,at_:={ x.at_ with cur:=s'.new } }:au).looks t,s')
structure au.ok (t:TW) (x:au):Prop where
 line:x.line=1∨x.line=2∨x.line=3∨x.line=4∨x.line=9
 aQ:0≤x.l∧x.l<t.ay
 told:x.told.length=t.ay.toNat
 pred:-1≤x.at_.pred∧x.at_.pred<t.size
 known:U x.at_.known
 cur:U x.at_.cur
 idx:x.line=2∨x.line=3∨x.line=4→0≤aH t.size x.at_.cur
 word:U x.w
 mark:(x.line=3→bp≤x.w)∧(x.line=4→x.w<bp)
 by_:U x.by_
theorem BP (ae:FuncId→Bool) (h:Int) (hh:1≤h∧h≤4) (G:GS):dS Q (aC Q ae) (.iface 247 (.int .i64 h)) "coxswain/tower.cells" [] G=some (.int .i64 (4+h),G):=by
 have e:dS Q (aC Q ae) (.iface 247 (.int .i64 h)) "coxswain/tower.cells" [] G=(E ae).cl 301 [.int .i64 h] G:=by kernel_rfl
 rw [e]
 have w:IntKind.wrap .i64 (4+h)=4+h:=wrap64 (by omega) (by omega)
 exact f301 (ai Q ae) _ G _ (by simp [s301,w])
theorem aak (ae:FuncId→Bool) (t:TW) (G:GS):∃ G',(E ae).cl 143 [t.v] G=some (.agg ⟨[.int .i64 t.nodes,.int .i64 t.size,.int .i64 t.ay]⟩,G')∧Ext G G':=by
 have w:Wp (s143 true (bA Q ae) t.v G) fun q=>q.1= .agg ⟨[.int .i64 t.nodes,.int .i64 t.size,.int .i64 t.ay]⟩∧Ext G q.2:=by
  simp [s143,bQ,bO,eC]
  exact (((Ext.refl G).push _).push _).put (by simp) _
 obtain ⟨⟨v,G'⟩,e1,rfl,h⟩:=w
 exact ⟨G',f143 (ai Q ae) _ G _ e1,h⟩
theorem aal {i n w:Int} (hi:0≤i∧i<n) (hn:n≤128) (hw:1≤w∧w≤8):0≤i*w∧i*w≤1016:=by
 have h1:i*w≤127*w:=Int.mul_le_mul_of_nonneg_right (by omega) (by omega)
 have h2:0≤i*w:=Int.mul_nonneg hi.1 (by omega)
 omega
theorem aam (ae:FuncId→Bool) {a n h:Int} (ha:0≤a∧a<4096) (hn:1≤n∧n≤128) (hh:1≤h∧h≤4) (i part:Int) (G:GS):∃ G',(E ae).cl 144 [.agg ⟨[.int .i64 a,.int .i64 n,.int .i64 h]⟩,.int .i64 i,.int .i64 part] G=some (.int .i64 (if 0≤i∧i<n∧0≤part∧part<4+h then a+i*(4+h)+part else -1),G')∧Ext G G':=by
 have w:Wp (s144 true (bA Q ae) (.agg ⟨[.int .i64 a,.int .i64 n,.int .i64 h]⟩) (.int .i64 i) (.int .i64 part) G) fun r=>r.1= .int .i64 (if 0≤i∧i<n∧0≤part∧part<4+h then a+i*(4+h)+part else -1)∧Ext G r.2:=by
  have x0:Ext G (G.push ⟨[.int .i64 a,.int .i64 n,.int .i64 h],1,false,1⟩):=(Ext.refl G).push _
  by_cases h1:i<0
  ·have:¬ 0≤i:=by omega
   simp [s144,BP ae h hh,h1,this]; exact x0
  have eN:0≤i:=by omega
  by_cases h2:n≤i
  ·have:¬ i<n:=by omega
   simp [s144,BP ae h hh,h1,h2,this]; exact x0
  have iS:i<n:=by omega
  by_cases h3:part<0
  ·have:¬ 0≤part:=by omega
   simp [s144,BP ae h hh,h1,h2,h3,this]; exact x0
  have rA:0≤part:=by omega
  by_cases h4:4+h≤part
  ·have:¬ part<4+h:=by omega
   simp [s144,BP ae h hh,h1,h2,h3,h4,this]; exact x0
  have GD:part<4+h:=by omega
  have hm:=aal (w:=4+h) ⟨eN,iS⟩ hn.2 (by omega)
  have e1:IntKind.wrap .i64 (i*(4+h))=i*(4+h):=wrap64 (by omega) (by omega)
  have e2:IntKind.wrap .i64 (a+i*(4+h))=a+i*(4+h):=wrap64 (by omega) (by omega)
  have e3:IntKind.wrap .i64 (a+i*(4+h)+part)=a+i*(4+h)+part:=wrap64 (by omega) (by omega)
  simp [s144,BP ae h hh,h1,h2,h3,h4,eN,iS,rA,GD,e1,e2,e3]
  exact x0.room 12
 obtain ⟨⟨v,G'⟩,e1,rfl,e3⟩:=w
 exact ⟨G',f144 (ai Q ae) _ _ _ G _ e1,e3⟩
theorem aan (ae:FuncId→Bool) {a n l:Int} (ha:0≤a∧a<4096) (hn:1≤n∧n≤4) (hl:0≤l∧l<n) (G:GS):∃ G',(E ae).cl 146 [.agg ⟨[.int .i64 a,.int .i64 1,.int .i64 n]⟩,.int .i64 0,.int .i64 l] G=some (.int .i64 (a+l),G')∧Ext G G':=by
 have h1:¬ n≤0:=by omega
 have h2:¬ l<0:=by omega
 have h3:¬ n≤l:=by omega
 have h5:¬ 1≤(0:Int):=by omega
 have h4:IntKind.wrap .i64 (a+l)=a+l:=wrap64 (by omega) (by omega)
 have w:Wp (s146 true (bA Q ae) (.agg ⟨[.int .i64 a,.int .i64 1,.int .i64 n]⟩) (.int .i64 0) (.int .i64 l) G) fun r=>r.1= .int .i64 (a+l)∧Ext G r.2:=by
  by_cases hz:l=0
  ·subst hz
   have h6:IntKind.wrap .i64 a=a:=wrap64 (by omega) (by omega)
   simp [s146,QI ae,h1,h6,w0]
   exact ((Ext.refl G).push _).room 12
  ·simp [s146,QI ae,h1,h2,h3,h4,h5,w0]
   exact ⟨by rw [show IntKind.wrap .i64 a=a from wrap64 (by omega) (by omega)]; exact h4,((Ext.refl G).push _).room 12⟩
 obtain ⟨⟨v,G'⟩,e1,rfl,e3⟩:=w
 exact ⟨G',f146 (ai Q ae) _ _ _ G _ e1,e3⟩
theorem xj (ae:FuncId→Bool) (t:TW) (i part:Int) (G:GS):∃ G',(E ae).cl 110 [t.v,.int .i64 i,.int .i64 part] G=some (.int .i64 (aB t i part),G')∧Ext G G':=by
 obtain ⟨G1,aj⟩:∃ G1,G1=G.push ⟨t.cells,1,false,1⟩:=⟨_,rfl⟩
 have x1:Ext G G1:=by rw [aj]; exact (Ext.refl G).push _
 have n1:G1.nx=G.nx+1:=by rw [aj]; rfl
 have o1:G1.obj G.nx=some ⟨t.cells,1,false,1⟩:=by rw [aj]; simp
 obtain ⟨G2,e2,x2⟩:=Jc ae t G1
 have o2:=(x2.obj G.nx (by omega)).trans o1
 by_cases hs:t.sound
 ·simp only [hs,decide_true] at e2
  have h1:=hs.1
  have h2:=hs.2.1
  by_cases hi:i= -1
  ·subst hi
   have hw:IntKind.wrap .i64 (4+t.ay)=4+t.ay:=wrap64 (by omega) (by omega)
   by_cases h3:part<4
   ·have hv:aB t (-1) part= -1:=by unfold aB; rw [if_pos hs,if_pos rfl,if_neg (by omega)]
    refine ⟨G2,f110 (ai Q ae) _ _ _ G _ ?_,x1.trans x2⟩
    simp [s110,← aj,o1,e2,o2,hw,h3,hv]
   by_cases h4:4+t.ay≤part
   ·have hv:aB t (-1) part= -1:=by unfold aB; rw [if_pos hs,if_pos rfl,if_neg (by omega)]
    refine ⟨G2,f110 (ai Q ae) _ _ _ G _ ?_,x1.trans x2⟩
    simp [s110,← aj,o1,e2,o2,hw,h3,h4,hv]
   have hv:aB t (-1) part=t.cn+(part - 4):=by unfold aB; rw [if_pos hs,if_pos rfl,if_pos ⟨by omega,by omega⟩]
   have hp:IntKind.wrap .i64 (part - 4)=part - 4:=wrap64 (by omega) (by omega)
   obtain ⟨G3,e3,x3⟩:=aaj ae t G2
   obtain ⟨G4,e4,x4⟩:=aan ae (a:=t.cn) (n:=t.ay) (l:=part - 4) ⟨hs.2.2.2.2.2.2.1,hs.2.2.2.2.2.2.2⟩ ⟨h1,h2⟩ ⟨by omega,by omega⟩ G3
   refine ⟨G4,f110 (ai Q ae) _ _ _ G _ ?_,((x1.trans x2).trans x3).trans x4⟩
   simp [s110,← aj,o1,e2,o2,hw,h3,h4,hp,hv,e3,e4,w0]
  ·have hv:aB t i part=if 0≤i∧i<t.size∧0≤part∧part<4+t.ay then t.nodes+i*(4+t.ay)+part else -1:=by unfold aB; rw [if_pos hs,if_neg hi]
   obtain ⟨G3,e3,x3⟩:=aak ae t G2
   obtain ⟨G4,e4,x4⟩:=aam ae (a:=t.nodes) (n:=t.size) (h:=t.ay) ⟨hs.2.2.2.2.1,hs.2.2.2.2.2.1⟩ ⟨hs.2.2.1,hs.2.2.2.1⟩ ⟨h1,h2⟩ i part G3
   rw [← hv] at e4
   refine ⟨G4,f110 (ai Q ae) _ _ _ G _ ?_,((x1.trans x2).trans x3).trans x4⟩
   simp [s110,← aj,o1,e2,o2,e3,e4,hi]
 ·simp only [hs,decide_false] at e2
  have hv:aB t i part= -1:=by unfold aB; rw [if_neg hs]
  refine ⟨G2,f110 (ai Q ae) _ _ _ G _ ?_,x1.trans x2⟩
  simp [s110,← aj,o1,e2,hv]
theorem rZ (ae:FuncId→Bool) (t:TW) (i l:Int) (G:GS):∃ G',(E ae).cl 101 [t.v,.int .i64 i,.int .i64 l] G=some (.int .i64 (aX t i l),G')∧Ext G G':=by
 obtain ⟨G1,aj⟩:∃ G1,G1=G.push ⟨t.cells,1,false,1⟩:=⟨_,rfl⟩
 have x1:Ext G G1:=by rw [aj]; exact (Ext.refl G).push _
 have o1:G1.obj G.nx=some ⟨t.cells,1,false,1⟩:=by rw [aj]; simp
 by_cases h1:l<0
 ·have hv:aX t i l= -1:=by unfold aX; rw [if_neg (by omega)]
  refine ⟨G1,f101 (ai Q ae) _ _ _ G _ ?_,x1⟩
  simp [s101,← aj,o1,h1,hv]
 by_cases h2:4≤l
 ·have hv:aX t i l= -1:=by unfold aX; rw [if_neg (by omega)]
  refine ⟨G1,f101 (ai Q ae) _ _ _ G _ ?_,x1⟩
  simp [s101,← aj,o1,h1,h2,hv]
 have hv:aX t i l=aB t i (4+l):=by unfold aX; rw [if_pos ⟨by omega,by omega⟩]
 obtain ⟨G2,e2,x2⟩:=xj ae t i (4+l) G1
 have hw:IntKind.wrap .i64 (4+l)=4+l:=wrap64 (by omega) (by omega)
 refine ⟨G2,f101 (ai Q ae) _ _ _ G _ ?_,x1.trans x2⟩
 simp [s101,← aj,o1,e2,hw,h1,h2,hv]
theorem aao (ae:FuncId→Bool) {w:Int} (h:U w) (G:GS):∃ G',(E ae).cl 188 [.int .u64 w,.agg ⟨[.int .i64 16,.int .i64 32]⟩] G=some (.int .i64 (w / 65536 % 4294967296),G')∧Ext G G':=by
 refine ⟨(G.push ⟨[.int .i64 16,.int .i64 32],1,false,1⟩).room 11,f188 (ai Q ae) _ _ G _ ?_,((Ext.refl G).push _).room 11⟩
 have e1:ng .u64 1 32=4294967296:=by decide
 have e2:IntKind.wrap .u64 4294967295=4294967295:=by decide
 have e3:IntKind.wrap .i64 (w / 65536 % 4294967296)=w / 65536 % 4294967296:=wrap64 (by omega) (by omega)
 simp [s188,Qg h,e1,e2,IW (Qj h 65536 (by decide)),e3]
theorem aap {w:Int} (h:U w):DE .u64 w 63=w / 9223372036854775808:=by
 show w.fdiv (2 ^ (min (63:Int).toNat 64))=_
 rw [show (min (63:Int).toNat 64)=63 from rfl,Int.fdiv_eq_ediv_of_nonneg _ (by decide)]; rfl
theorem xl (ae:FuncId→Bool) {w:Int} (h:U w) (G:GS):(E ae).cl 99 [.int .u64 w] G=some (.bool (decide (9223372036854775808≤w)),G):=by
 refine f99 (ai Q ae) _ G _ ?_
 have h1:=h.1; have h2:=h.2
 have e:(w / 9223372036854775808=1)=(9223372036854775808≤w):=by rw [eq_iff_iff]; omega
 simp [s99,aap h,e]
def mkI (m:Bool):Int:=if m then 9223372036854775808 else 0
def QJ (w:Int):Prop:=¬ (w % 65536=0∧w / 65536 % 4294967296≠0)∧w=w % 65536+(w / 65536 % 4294967296)*65536+mkI (decide (9223372036854775808≤w))
instance (w:Int):Decidable (QJ w):=by unfold QJ; exact inferInstance
abbrev Own (own:Nat→Nat) (t:Nat):Nat→Prop:=fun x=>own x=t
section
variable {t u m r b:Nat} {B:Nat→Prop} {own ah aG:Nat→Nat} {G G1 G2:GS} {s s' s1:MS}
theorem PW.de (w:PW B own G ah G1 m s) (x:Ext G1 G2) (t:Nat):PW B own G (grown ah G1 t) G2 m s :=
 ⟨w.aO.trans (B':=no) (dx.zi x db) fun _ _ h=>h.elim,w.pm.to (t:=11) (B:=no) (dx.zi x db) (by decide) fun _ _ h=>h.elim⟩
theorem PW.tr (w:PW (Own own t) own G ah G1 m s) (k:PW (Own ah t) ah G1 aG G2 m s'):PW (Own own t) own G aG G2 m s':=w.trans k fun _ hx h=>(w.aO.same hx).symm.trans h
theorem PW.any (w:PW no own G ah G1 m s):PW B own G ah G1 m s:=w.mono fun _ _ h=>h.elim
theorem PW.bf (w:PW (Own own t) own G ah G1 m s) (hb:ah b=t) (ht:t≠10) (o:aR):PW (Own own t) own G ah (G1.put b o) m s:=by
 refine w.put ?_ (fun _=>by rw [hb]; exact ht) o
 by_cases hl:b<G.nx
 ·exact .inl ((w.aO.same hl).symm.trans hb)
 ·exact .inr (by omega)
theorem PW.qI (w:PW (Own own t) own G ah G1 m s) (q:bG (Own ah t) G1 G2) (ht:t≠10) (u:Nat):PW (Own own t) own G (grown ah G1 u) G2 m s :=
 w.tr ⟨⟨db,q.mono fun _ h=>.inr h⟩,w.pm.to (t:=t) (B:=Own ah t) ⟨db,q.mono fun _ h=>.inl h⟩ ht fun _ _ h=>by rw [h]; exact ht⟩
theorem PW.tV (w:PW (Own own t) own G ah G1 m s) {g:Nat} (hg:g<G.nx) (hu:own g=u) (h1:u≠10) (h2:u≠t):G1.obj g=G.obj g:=w.keep hg (by rw [hu]; exact h1) fun k=>h2 (hu.symm.trans k)
end
structure At (own:Nat→Nat) (t:Nat) (G:GS) (b:Nat):Prop where
 lt:b<G.nx
 tag:own b=t
theorem At.to {own own':Nat→Nat} {t b:Nat} {G G':GS} (h:At own t G b) (hn:G.nx≤G'.nx) (a:bW own own' G):At own' t G' b:=⟨Nat.lt_of_lt_of_le h.lt hn,(a _ h.lt).trans h.tag⟩
section
variable {t u m r b:Nat} {B:Nat→Prop} {own ah aG:Nat→Nat} {G G1 G2:GS} {s s' s1:MS}
theorem At.bC (h:At own t G b) (g:Nat) (o:aR):At own t (G.put g o) b:=⟨h.lt,h.tag⟩
theorem At.gO (h:At own t G b) (x:Ext G G1) (u:Nat):At (grown own G u) t G1 b:=h.to x.nx db
theorem At.new {q:Nat} (h1:G.nx≤q) (h2:q<G1.nx):At (grown own G t) t G1 q:=⟨h2,gx h1⟩
end
structure Opx (X:Type) where
 e:cT X
 ok:(Nat→Nat)→GS→Nat→X→Prop
 to:∀ {own own':Nat→Nat} {G G':GS} {i:Nat} {x:X},ok own G i x→G.nx≤G'.nx→(∀ g,g<G.nx→own g=i∨own g=100+i→G'.obj g=G.obj g)→bW own own' G→ok own' G' i x
section
variable {X:Type} {O O':Opx X} {n m r b cb t i:Nat} {B:Nat→Prop} {own own':Nat→Nat} {G G' G1:GS} {s s':MS} {L:List X} {ts:List Nat} {x y:X}
end
abbrev qK (t:TW) (key line l pred known cur w:Int) (tk:Value) (by_:Int):List Value:=[.int .i64 t.nodes,.int .i64 t.cn,.int .i64 t.ay,.int .i64 t.top,.int .i64 t.links,.int .i64 t.size,.int .i64 t.u6,.int .i64 t.u7,.int .i64 t.u8,.int .i64 t.u9,.int .i64 t.u10,.int .i64 t.u11,.int .i64 t.u12,.int .u64 key,.int .i64 line,.int .i64 l,.int .i64 pred,.int .u64 known,.int .u64 cur,.int .u64 w,tk,.int .u64 by_,.bool true,.int .i64 0]
def jv:cT (Int×dZ):=⟨4,fun p=>[.int .i64 p.1,.int .i64 p.2.pred,.int .u64 p.2.known,.int .u64 p.2.cur],fun _=>rfl,fun _=>rfl,by decide⟩
@[simp] theorem BQ:jv.sz=4:=rfl
@[simp] theorem BR (p:Int×dZ):jv.row p=[.int .i64 p.1,.int .i64 p.2.pred,.int .u64 p.2.known,.int .u64 p.2.cur]:=rfl
def kj (TL:List (Int×dZ)) (h l:Nat):dZ:=if l+1=h then ⟨-1,0,0⟩ else ⟨((TL[l+1]?).map (·.2.pred)).getD 0,((TL[l+1]?).map (·.2.known)).getD 0,0⟩
noncomputable abbrev oG (T:List Value):Lp:=⟨.ready,none,T,[16,17],(bm [1,0,1,0,0] (aS Tryz.f230)),(bm [1,0,1,0,1] (aS Tryz.f230))⟩
structure r6 (A:GS) (b:Nat) (L:Int) (tk:Value) (l pb lb sb ab:Nat) (T:List Value) (sp:Int×dZ) (G:GS):Prop where
 ext:Ext A G
 lp:G.loop l=some (oG T)
 nl:A.nl≤l
 ll:l<G.nl
 op:G.obj pb=some ⟨[P0 b],1,false,1⟩
 ol:G.obj lb=some ⟨[.int .i64 L],1,false,1⟩
 os:G.obj sb=some ⟨[tk],1,false,1⟩
 oa:G.obj ab=some ⟨[.int .i64 sp.1,.int .i64 sp.2.pred,.int .u64 sp.2.known,.int .u64 sp.2.cur],1,false,1⟩
 cN:A.nx≤pb∧pb<G.nx
 Ep:A.nx≤lb∧lb<G.nx
 QK:A.nx≤sb∧sb<G.nx
 Jd:A.nx≤ab∧ab<G.nx
 d1:ab≠pb
 d2:ab≠lb
 d3:ab≠sb
structure QL (A:GS) (b l:Nat) (T:List Value) (o:aR) (G:GS):Prop where
 mod:bG (fun g=>g=b) A G
 lp:G.loop l=some { oG T with st:=.done,aF:=some .ret }
 nl:A.nl≤l
 ob:G.obj b=some o
 pb:∀ g,A.nx≤g→True
section
variable {A G:GS} {b l pb lb sb ab tb:Nat} {L:Int} {tk tk':Value} {T:List Value} {sp:Int×dZ} {t:TW} {key line lv pred known cur w by_:Int}
theorem aaq (ae:FuncId→Bool) {j:Int} (hT:T.length=31) (t2:nth undef T 2=P0 pb) (t3:nth undef T 3=P0 lb) (h:r6 A b L tk l pb lb sb ab T sp G) (hj:¬ j=L) (r:Int×dZ) :
  Wp ((E ae).rd l [.int .i64 j,.agg ⟨[.int .i64 r.1,.int .i64 r.2.pred,.int .u64 r.2.known,.int .u64 r.2.cur]⟩] G) fun q=>q.1= .bool true∧r6 A b L tk l pb lb sb ab T sp q.2:=by
 refine Wp.ref (Qb (ai Q ae) l T _ _ G h.lp hT) ?_
 obtain ⟨G1,aj⟩:∃ G1,G1=((G.push ⟨z373,1,false,1⟩).put G.nx ⟨[.int .i64 r.1,.int .i64 r.2.pred,.int .u64 r.2.known,.int .u64 r.2.cur],1,false,1⟩):=⟨_,rfl⟩
 have x1:Ext G G1:=by rw [aj]; exact ((Ext.refl G).push _).put (Nat.le_refl _) _
 have l1:G1.loop l=some (oG T):=by rw [aj]; simpa using h.lp
 have nl1:G1.nl=G.nl:=by rw [aj]; rfl
 have n1:G1.nx=G.nx+1:=by rw [aj]; rfl
 obtain ⟨G2,aD⟩:∃ G2,G2=G1.cC l (Lp.jW (oG T) .busy):=⟨_,rfl⟩
 have n2:G2.nx=G.nx+1:=by rw [aD,OE,n1]
 have l2:G2.loop l=some (Lp.jW (oG T) .busy):=by rw [aD]; simp
 have QM:G2.nl=G.nl:=by rw [aD]; exact nl1
 have eA:∀ b,b<G.nx→G2.obj b=G.obj b:=fun b hb=>by rw [aD]; simp only [Xl]; exact x1.obj b hb
 have g8:=(x1.obj lb h.Ep.2).trans h.ol
 have BS:qx l .normal G2=some (.bool true,G2.cC l (oG T)):=by
  rw [HN l .normal _ (j:=none) rfl l2]
  rfl
 have x2:Ext A G2:=by rw [aD]; exact (h.ext.trans x1).cC h.nl _
 have e1:=h.cN; have e2:=h.Ep; have e3:=h.QK; have e4:=h.Jd; have e5:=h.ll
 simp [y9,t2,t3,← aj,bQ,bO]
 simp [l1,← aD,g8,hj,BS]
 exact ⟨x2.cC h.nl _,by simp,h.nl,by show l<G2.nl; omega,by simpa using (eA pb e1.2).trans h.op,by simpa using (eA lb e2.2).trans h.ol,by simpa using (eA sb e3.2).trans h.os,by simpa using (eA ab e4.2).trans h.oa,⟨e1.1,by simp; omega⟩,⟨e2.1,by simp; omega⟩,⟨e3.1,by simp; omega⟩,⟨e4.1,by simp; omega⟩,h.d1,h.d2,h.d3⟩
theorem aar (ae:FuncId→Bool) (hT:T.length=31) (t2:nth undef T 2=P0 pb) (t3:nth undef T 3=P0 lb) (htk:one tk=true) (hb:b<A.nx) (ob:A.obj b=some ⟨qK t key line lv pred known cur w tk by_,1,false,1⟩) (h:r6 A b L tk' l pb lb sb ab T sp G) (r:Int×dZ) :
  Wp ((E ae).rd l [.int .i64 L,.agg ⟨[.int .i64 r.1,.int .i64 r.2.pred,.int .u64 r.2.known,.int .u64 r.2.cur]⟩] G) fun q=>q.1= .bool false∧QL A b l T ⟨qK t key 1 r.1 r.2.pred r.2.known r.2.cur w tk by_,1,false,1⟩ q.2:=by
 refine Wp.ref (Qb (ai Q ae) l T _ _ G h.lp hT) ?_
 obtain ⟨G1,aj⟩:∃ G1,G1=((G.push ⟨z373,1,false,1⟩).put G.nx ⟨[.int .i64 r.1,.int .i64 r.2.pred,.int .u64 r.2.known,.int .u64 r.2.cur],1,false,1⟩):=⟨_,rfl⟩
 have x1:Ext G G1:=by rw [aj]; exact ((Ext.refl G).push _).put (Nat.le_refl _) _
 have l1:G1.loop l=some (oG T):=by rw [aj]; simpa using h.lp
 have on1:G1.obj G.nx=some ⟨[.int .i64 r.1,.int .i64 r.2.pred,.int .u64 r.2.known,.int .u64 r.2.cur],1,false,1⟩:=by rw [aj]; simp
 obtain ⟨G2,aD⟩:∃ G2,G2=G1.cC l (Lp.jW (oG T) .busy):=⟨_,rfl⟩
 have l2:G2.loop l=some (Lp.jW (oG T) .busy):=by rw [aD]; simp
 have g8:=(x1.obj lb h.Ep.2).trans h.ol
 have dF:=(x1.obj pb h.cN.2).trans h.op
 have hbG:=Nat.lt_of_lt_of_le hb h.ext.nx
 have dq:=(x1.obj b hbG).trans ((h.ext.obj b hb).trans ob)
 have x2:Ext A G2:=by rw [aD]; exact (h.ext.trans x1).cC h.nl _
 have e1:=h.cN
 have d1:¬ pb=b:=by omega
 have d2:¬ G.nx=b:=by omega
 obtain ⟨G3,cF⟩:∃ G3,G3=((G2.room 9).put b ⟨qK t key line r.1 r.2.pred r.2.known r.2.cur w tk by_,1,false,1⟩).put b ⟨qK t key 1 r.1 r.2.pred r.2.known r.2.cur w tk by_,1,false,1⟩:=⟨_,rfl⟩
 have l3:G3.loop l=some (Lp.jW (oG T) .busy):=by rw [cF]; simpa using l2
 have m3:bG (fun g=>g=b) A G3:=by rw [cF]; exact (((x2.room 9).rW (fun g=>g=b)).put (.inl rfl) _).put (.inl rfl) _
 have BS:qx l .ret G3=some (.bool false,G3.cC l { oG T with st:=.done,aF:=some .ret }):=by
  rw [HN l .ret _ (j:=some .ret) rfl l3]
  rfl
 simp [y9,t2,t3,← aj,bQ,bO]
 have eA:G2.obj b=some ⟨qK t key line lv pred known cur w tk by_,1,false,1⟩:=by rw [aD]; simpa using dq
 have cV:G2.obj pb=some ⟨[P0 b],1,false,1⟩:=by rw [aD]; simpa using dF
 simp [l1,← aD,g8,dF,on1,dq,eA,cV,d1,d2,bQ,bO,htk]
 rw [← cF,BS]
 simp
 exact ⟨m3.cC h.nl _,by simp,h.nl,by rw [cF]; simp,fun _ _=>trivial⟩
end
end Go.Proofs.YtphandknhnkhfaaGreat.Lift
