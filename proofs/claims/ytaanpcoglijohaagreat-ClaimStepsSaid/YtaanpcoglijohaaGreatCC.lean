import Derived.Test.YtaanpcoglijohaaGreatCA
import Derived.Test.YtaanpcoglijohaaGreatCB
import Derived.Test.YtaanpcoglijohaaGreatGhPR
import Derived.Test.YtaanpcoglijohaaGreatGhPC
set_option linter.unusedVariables false
set_option linter.unusedSimpArgs false
set_option maxRecDepth 20000
namespace Go.Proofs.YtaanpcoglijohaaGreat.Lift
open Go Go.Proofs.YtaanpcoglijohaaGreat.Gh Go.Proofs
structure Sk where
 top:Int
 links:Int
 size:Int
def Sk.ok (R:Sk):Prop:=1 ≤ R.size ∧ R.size ≤ 4096 ∧ 0 ≤ R.top ∧ R.top < 4096 ∧ 0 ≤ R.links ∧ R.links + R.size ≤ 4096
abbrev hL (R:Sk) (w i j:Int) (made done:Bool) (err:Int) (next:Value):List Value:=[.int .i64 R.top,.int .i64 R.links,.int .i64 R.size,.int .u64 w,.int .i64 i,.int .i64 j,.bool made,.bool done,.int .i64 err,next]
section
variable {m r b:Nat} {own own1:Nat → Nat} {G G1:GS} {s s':MS} {R:Sk} {w i j err:Int} {md dn:Bool} {nx:Value}
theorem hload_ok (orc:FuncId → Bool) (ht:orc 241 = false) (h:PM own G m s) (hs:s.ok) (hb:b < G.nx) (tb:own b ≠ 10) (ho:G.obj b = some ⟨hL R w i j md dn err nx,1,false,1⟩) :
  ∃ own1 G1,(E orc).cl 269 [P0 b,P0 m] G = some (.int .i64 (idxI R.size (s.load R.top).new),G1) ∧ PW (fun x=>x = b) own G own1 G1 m (s.load R.top) ∧ G1.obj b = some ⟨hL R (s.load R.top).new i j md dn err nx,1,false,1⟩:=by
 obtain ⟨own1,G1,e1,w1⟩:=h.load orc R.top
 have hw:=(hs.load R.top).2
 generalize s.load R.top = s' at *
 have o1:=(w1.keep hb tb id).trans ho
 have w1':PW (fun x=>x = b) own G own1 G1 m s':=w1.mono fun _ _ h=>h.elim
 obtain ⟨G2,hG2⟩:∃ G2,G2 = (G1.put b ⟨hL R s'.new i j md dn err nx,1,false,1⟩).room 10:=⟨_,rfl⟩
 have w2:=w1'.putB rfl hb tb ⟨hL R s'.new i j md dn err nx,1,false,1⟩
 have w2':=w2.ext ((Ext.refl _).room 10)
 rw [← hG2] at w2'
 have o2:G2.obj b = some ⟨hL R s'.new i j md dn err nx,1,false,1⟩:=by rw [hG2]; simp
 obtain ⟨G3,e3,x3⟩:=read_ok orc ht (a:=R.top) (b:=R.links) (size:=R.size) hw G2
 have n2:b < G2.nx:=Nat.lt_of_lt_of_le hb w2'.nx
 refine ⟨_,G3,f269 (exL_ok Q orc) _ _ G _ ?_,w2'.ext x3,(x3.obj b n2).trans o2⟩
 simp [s269,ho,e1,o1,← hG2,o2,e3]
theorem hswap_ok (orc:FuncId → Bool) (ht:orc 241 = false) (h:PM own G m s) (hw:U w) (hb:b < G.nx) (tb:own b ≠ 10) (ho:G.obj b = some ⟨hL R w i j md dn err nx,1,false,1⟩) {k:Int} (hk:-1 ≤ k ∧ k ≤ 65534) :
  ∃ own1 G1,(E orc).cl 274 [P0 b,P0 m,.int .i64 k] G = some (.bool (s.cas R.top w (topI k w)).held,G1) ∧ PW no own G own1 G1 m (s.cas R.top w (topI k w)) ∧ G1.obj b = some ⟨hL R w i j md dn err nx,1,false,1⟩:=by
 obtain ⟨G1,e1,x1⟩:=gettop_ok orc ht hw G
 obtain ⟨G2,hG2⟩:∃ G2,G2 = (G1.push ⟨z270,1,false,1⟩).put G1.nx ⟨[.int .i64 (w % 65536 - 1),.int .i64 (w / 65536)],1,false,1⟩:=⟨_,rfl⟩
 have x2:Ext G1 G2:=by rw [hG2]; exact ((Ext.refl G1).push _).put (Nat.le_refl _) _
 have p2:G2.obj G1.nx = some ⟨[.int .i64 (w % 65536 - 1),.int .i64 (w / 65536)],1,false,1⟩:=by rw [hG2]; simp
 have h1:=hw.1; have h2:=hw.2
 have a1:IntKind.wrap .i64 (w / 65536 + 1) = w / 65536 + 1:=wrap64 (by omega) (by omega)
 have a2:andI .i64 (w / 65536 + 1) 281474976710655 = (w / 65536 + 1) % 281474976710656:=by
  have hn:0 ≤ w / 65536 + 1 ∧ w / 65536 + 1 < 18446744073709551616:=by omega
  generalize w / 65536 + 1 = q at *
  obtain ⟨n,rfl⟩:=Int.eq_ofNat_of_zero_le hn.1
  have:n &&& 281474976710655 = n % 281474976710656:=Nat.and_two_pow_sub_one_eq_mod n 48
  show IntKind.wrap .i64 (((BitVec.ofInt 64 (n:Int) &&& BitVec.ofInt 64 281474976710655).toNat:Nat):Int) = _
  rw [BitVec.toNat_and,ofInt_u64 hn,ofInt_u64 ⟨by decide,by decide⟩]
  rw [show (Int.toNat (n:Int)) = n from rfl,show (281474976710655:Int).toNat = 281474976710655 from rfl,this,wrap64 (by omega) (by omega)]
  omega
 obtain ⟨G3,e3,x3⟩:=puttop_ok orc ht hk (t:=(w / 65536 + 1) % 281474976710656) (by omega) G2
 obtain ⟨G4,hG4⟩:∃ G4,G4 = G3.room 13:=⟨_,rfl⟩
 have x4:Ext G3 G4:=by rw [hG4]; exact (Ext.refl _).room 13
 have y4:=((x1.trans x2).trans x3).trans x4
 have o4:=(y4.obj b hb).trans ho
 have o4':G3.obj b = some ⟨hL R w i j md dn err nx,1,false,1⟩:=(((x1.trans x2).trans x3).obj b hb).trans ho
 have h4:=h.ext y4
 obtain ⟨own5,G5,e5,w5⟩:=h4.cas orc R.top w (topI k w)
 have hb4:b < G4.nx:=Nat.lt_of_lt_of_le hb y4.nx
 have tb4:grown own G 13 b = own b:=grown_agr b hb
 have o5:=(w5.keep hb4 (by rw [tb4]; exact tb) id).trans o4
 have ht3:wordT k ((w / 65536 + 1) % 281474976710656) = topI k w:=rfl
 rw [ht3] at e3
 refine ⟨own5,G5,f274 (exL_ok Q orc) _ _ _ G _ ?_,((PW.refl h).ext y4).trans w5 fun _ _ h=>h,o5⟩
 simp [s274,ho,e1,splice_put,splice_end,← hG2,p2,a1,a2,e3,← hG4,o4,o4',e5]
theorem hends_ok (orc:FuncId → Bool) (ho:G.obj b = some ⟨hL R w i j md dn err nx,1,false,1⟩) (e:Int) :
  (E orc).cl 265 [P0 b,.int .i64 e] G = some (.tuple #[],(G.put b ⟨hL R w i j md true err nx,1,false,1⟩).put b ⟨hL R w i j md true e nx,1,false,1⟩):=by
 refine f265 (exL_ok Q orc) _ _ G _ ?_
 simp [s265,ho]
theorem hover_ok (orc:FuncId → Bool) (ho:G.obj b = some ⟨hL R w i j true dn err nx,1,false,1⟩):(E orc).cl 271 [P0 b] G = some (.bool dn,G):=by
 refine f271 (exL_ok Q orc) _ G _ ?_
 cases dn <;> simp [s271,ho]
end
inductive PopS where
 | go (n:Nat) (w i j:Int)
 | done (i:Int)
def PopS.over:PopS → Bool
 | .go ..=>false
 | .done _=>true
def PopS.ok (R:Sk):PopS → Prop
 | .go n w i j=>1 ≤ n ∧ n ≤ 3 ∧ U w ∧ -1 ≤ i ∧ i < R.size ∧ -1 ≤ j ∧ j < R.size ∧ (n ≠ 1 → 0 ≤ i)
 | .done i=>-1 ≤ i ∧ i < R.size
def PopS.step (R:Sk):PopS → MS → PopS × MS
 | .done i,s=>(.done i,s)
 | .go n w i j,s =>
  if n = 1 then (if idxI R.size (s.load R.top).new < 0 then .done (idxI R.size (s.load R.top).new) else .go 2 (s.load R.top).new (idxI R.size (s.load R.top).new) j,s.load R.top)
  else if n = 2 then (.go 3 w i (idxI R.size (s.load (R.links + i)).new),s.load (R.links + i))
  else (if (s.cas R.top w (topI j w)).held = true then .done i else .go 1 w i j,s.cas R.top w (topI j w))
theorem PopS.ok.step {R:Sk} {p:PopS} {s:MS} (hR:R.ok) (hp:p.ok R) (hs:s.ok):(p.step R s).1.ok R ∧ (p.step R s).2.ok:=by
 cases p with
 | done i=>exact ⟨hp,hs⟩
 | go n w i j =>
  obtain ⟨h1,h2,h3,h4,h5,h6,h7,h8⟩:=hp
  have hz:=hR.1; have hz2:=hR.2.1
  simp only [PopS.step]
  split
  ·refine ⟨?_,(hs.load _).1⟩
   have g1:=@idxI_ge R.size (s.load R.top).new
   have g2:=@idxI_lt R.size (s.load R.top).new (by omega)
   split
   ·exact ⟨g1,g2⟩
   ·exact ⟨by decide,by decide,(hs.load _).2,g1,g2,h6,h7,fun _=>by omega⟩
  ·split
   ·exact ⟨⟨by decide,by decide,h3,h4,h5,idxI_ge,idxI_lt (by omega),fun _=>h8 (by omega)⟩,(hs.load _).1⟩
   ·refine ⟨?_,hs.cas _ _ (U_topI (by omega))⟩
    split
    ·exact ⟨h4,h5⟩
    ·exact ⟨by decide,by decide,h3,h4,h5,h6,h7,fun h=>absurd rfl h⟩
section
variable {m r b:Nat} {own own1:Nat → Nat} {G G1:GS} {s s':MS} {R:Sk} {p:PopS}
end
end Go.Proofs.YtaanpcoglijohaaGreat.Lift
set_option linter.unusedVariables false
set_option linter.unusedSimpArgs false
set_option maxRecDepth 20000
namespace Go.Proofs.YtaanpcoglijohaaGreat.Lift
open Go Go.Proofs.YtaanpcoglijohaaGreat.Gh Go.Proofs
inductive PusS where
 | go (n:Nat) (w i:Int)
 | done (e:Int)
def PusS.over:PusS → Bool
 | .go ..=>false
 | .done _=>true
def PusS.ok (R:Sk):PusS → Prop
 | .go n w i=>1 ≤ n ∧ n ≤ 3 ∧ U w ∧ 0 ≤ i ∧ i < R.size
 | .done _=>True
def PusS.step (R:Sk):PusS → MS → PusS × MS
 | .done i,s=>(.done i,s)
 | .go n w i,s =>
  if n = 1 then (.go 2 (s.load R.top).new i,s.load R.top)
  else if n = 2 then (.go 3 w i,s.store (R.links + i) (idxI R.size w + 1))
  else (if (s.cas R.top w (topI i w)).held = true then .done 0 else .go 1 w i,s.cas R.top w (topI i w))
theorem PusS.ok.step {R:Sk} {p:PusS} {s:MS} (hR:R.ok) (hp:p.ok R) (hs:s.ok):(p.step R s).1.ok R ∧ (p.step R s).2.ok:=by
 cases p with
 | done i=>exact ⟨hp,hs⟩
 | go n w i =>
  obtain ⟨h1,h2,h3,h4,h5⟩:=hp
  have hz:=hR.1; have hz2:=hR.2.1
  have g1:=@idxI_ge R.size w
  have g2:=@idxI_lt R.size w (by omega)
  simp only [PusS.step]
  split
  ·exact ⟨⟨by decide,by decide,(hs.load _).2,h4,h5⟩,(hs.load _).1⟩
  ·split
   ·exact ⟨⟨by decide,by decide,h3,h4,h5⟩,hs.store _ ⟨by omega,by omega⟩⟩
   ·refine ⟨?_,hs.cas _ _ (U_topI (by omega))⟩
    split
    ·trivial
    ·exact ⟨by decide,by decide,h3,h4,h5⟩
def pushNext (n:Nat):Value:=.func (.func (if n = 1 then 264 else if n = 2 then 270 else 273)) #[] #[]
def PusR (R:Sk) (G:GS) (b:Nat):PusS → Prop
 | .go n w i=>∃ j,(n = 2 → j = idxI R.size w) ∧ G.obj b = some ⟨hL R w i j true false 0 (pushNext n),1,false,1⟩
 | .done e=>∃ w i j nx,G.obj b = some ⟨hL R w i j true true e nx,1,false,1⟩
theorem PusR.kept {R:Sk} {G G':GS} {b:Nat} {p:PusS} (h:PusR R G b p) (hk:G'.obj b = G.obj b):PusR R G' b p:=by
 cases p with
 | done i=>obtain ⟨w,i,j,nx,h⟩:=h; exact ⟨w,i,j,nx,hk.trans h⟩
 | go n w i=>obtain ⟨j,hj,h⟩:=h; exact ⟨j,hj,hk.trans h⟩
section
variable {m r b:Nat} {own own1:Nat → Nat} {G G1:GS} {s s':MS} {R:Sk} {p:PusS}
theorem push_ok (orc:FuncId → Bool) (ht:orc 241 = false) (h:PM own G m s) (hs:s.ok) (hR:R.ok) (hb:b < G.nx) (tb:own b ≠ 10) (hp:p.ok R) (hr:PusR R G b p) :
  ∃ own1 G1,(E orc).cl 266 [P0 b,P0 m] G = some (.bool (p.step R s).1.over,G1) ∧ PW (fun x=>x = b) own G own1 G1 m (p.step R s).2 ∧ PusR R G1 b (p.step R s).1:=by
 cases p with
 | done e =>
  obtain ⟨w,i,j,nx,ho⟩:=hr
  have e0:=hover_ok orc ho
  refine ⟨own,G,f266 (exL_ok Q orc) _ _ G _ ?_,PW.refl h,w,i,j,nx,ho⟩
  simp [s266,e0,PusS.step,PusS.over]
 | go n w i =>
  obtain ⟨h1,h2,h3,h4,h5⟩:=hp
  have hR1:=hR.1; have hR2:=hR.2.1; have hR5:=hR.2.2.2.2.1; have hR6:=hR.2.2.2.2.2
  obtain ⟨j,hj,ho⟩:=hr
  have e0:=hover_ok orc ho
  rcases (show n = 1 ∨ n = 2 ∨ n = 3 by omega) with rfl | rfl | rfl
  ·obtain ⟨own2,G2,e2,w2,o2⟩:=hload_ok orc ht h hs hb tb ho
   simp only [PusS.step,if_true]
   generalize hs':s.load R.top = s' at *
   have w3:=(w2.putB (b:=b) rfl hb tb ⟨hL R s'.new i (idxI R.size s'.new) true false 0 (pushNext 1),1,false,1⟩).putB (b:=b) rfl hb tb ⟨hL R s'.new i (idxI R.size s'.new) true false 0 (pushNext 2),1,false,1⟩
   refine ⟨own2,_,f266 (exL_ok Q orc) _ _ G _ ?_,w3,_,fun _=>rfl,by simp⟩
   generalize idxI R.size s'.new = j' at *
   have e4:(E orc).cl 264 [P0 b,P0 m] G = some (.tuple #[],(G2.put b ⟨hL R s'.new i j' true false 0 (pushNext 1),1,false,1⟩).put b ⟨hL R s'.new i j' true false 0 (pushNext 2),1,false,1⟩):=by
    refine f264 (exL_ok Q orc) _ _ G _ ?_
    simp only [pushNext] at *
    simp at *
    simp [s264,ho,e2,o2]
   simp only [pushNext] at *
   simp at *
   simp [s266,e0,ho,e4,PusS.over]
  ·have hj:=hj rfl
   have g1:=@idxI_ge R.size w
   have g2:=@idxI_lt R.size w (by omega)
   have ha:IntKind.wrap .i64 (R.links + i) = R.links + i:=wrap64 (by omega) (by omega)
   rw [← hj] at g1 g2
   simp only [PusS.step]
   rw [← hj]
   obtain ⟨G1,e1,x1⟩:=link_ok orc ht (i:=j) (by omega) (G.room 20)
   have y1:=((Ext.refl G).room 20).trans x1
   have w1:=(PW.refl (B:=fun x=>x = b) h).ext y1
   have o1:=(y1.obj b hb).trans ho
   have n1:b < G1.nx:=Nat.lt_of_lt_of_le hb w1.nx
   obtain ⟨own2,G2,e2,w2⟩:=w1.pm.store orc (R.links + i) (j + 1)
   have o2:=(w2.keep n1 (by rw [w1.stp.same hb]; exact tb) id).trans o1
   have w12:=w1.trans w2 fun _ _ h=>h.elim
   have w3:=w12.putB (b:=b) rfl hb tb ⟨hL R w i j true false 0 (pushNext 3),1,false,1⟩
   simp only [show ((2:Nat) = 1) = False by simp,if_false,if_true]
   generalize s.store (R.links + i) (j + 1) = s' at *
   refine ⟨own2,_,f266 (exL_ok Q orc) _ _ G _ ?_,w3,j,fun h=>absurd h (by decide),by simp⟩
   have e4:(E orc).cl 270 [P0 b,P0 m] G = some (.tuple #[],G2.put b ⟨hL R w i j true false 0 (pushNext 3),1,false,1⟩):=by
    refine f270 (exL_ok Q orc) _ _ G _ ?_
    simp only [pushNext] at *
    simp at *
    simp [s270,ho,ha,e1,o1,e2,o2]
   simp only [pushNext] at *
   simp at *
   simp [s266,e0,ho,e4,PusS.over]
  ·obtain ⟨G1,hG1⟩:∃ G1,G1 = (G.put b ⟨hL R w i j true false 0 (pushNext 1),1,false,1⟩).room 10:=⟨_,rfl⟩
   have w1:=((PW.refl (B:=fun x=>x = b) h).putB rfl hb tb ⟨hL R w i j true false 0 (pushNext 1),1,false,1⟩).ext ((Ext.refl _).room 10)
   rw [← hG1] at w1
   have o1:G1.obj b = some ⟨hL R w i j true false 0 (pushNext 1),1,false,1⟩:=by rw [hG1]; simp
   have n1:b < G1.nx:=Nat.lt_of_lt_of_le hb w1.nx
   obtain ⟨own2,G2,e2,w2,o2⟩:=hswap_ok orc ht w1.pm h3 n1 (by rw [w1.stp.same hb]; exact tb) o1 (k:=i) (by omega)
   have w12:=w1.trans w2 fun _ _ h=>h.elim
   simp only [PusS.step]
   generalize s.cas R.top w (topI i w) = s' at *
   cases hc:s'.held with
   | true =>
    have e3:=hends_ok orc o2 0
    have w4:=(w12.putB (b:=b) rfl hb tb ⟨hL R w i j true true 0 (pushNext 1),1,false,1⟩).putB (b:=b) rfl hb tb ⟨hL R w i j true true 0 (pushNext 1),1,false,1⟩
    refine ⟨own2,_,f266 (exL_ok Q orc) _ _ G _ ?_,w4,w,i,j,pushNext 1,by simp⟩
    have e4:(E orc).cl 273 [P0 b,P0 m] G = some (.tuple #[],(G2.put b ⟨hL R w i j true true 0 (pushNext 1),1,false,1⟩).put b ⟨hL R w i j true true 0 (pushNext 1),1,false,1⟩):=by
     refine f273 (exL_ok Q orc) _ _ G _ ?_
     simp only [pushNext] at *
     simp at *
     simp [s273,ho,← hG1,e2,hc,e3]
    simp only [pushNext] at *
    simp at *
    simp [s266,e0,ho,e4,PusS.over,hc]
   | false =>
    refine ⟨own2,G2,f266 (exL_ok Q orc) _ _ G _ ?_,by simpa [hc] using w12,j,fun h=>by simp at h,by simpa using o2⟩
    have e4:(E orc).cl 273 [P0 b,P0 m] G = some (.tuple #[],G2):=by
     refine f273 (exL_ok Q orc) _ _ G _ ?_
     simp only [pushNext] at *
     simp at *
     simp [s273,ho,← hG1,e2,hc]
    simp only [pushNext] at *
    simp at *
    simp [s266,e0,ho,e4,PusS.over,hc,o2]
def newPus (R:Sk) (i:Int):PusS:=if i < 0 ∨ R.size ≤ i then .done 3 else .go 1 0 i
theorem newPus_ok {R:Sk} {i:Int}:(newPus R i).ok R:=by
 unfold newPus; split
 ·trivial
 ·exact ⟨by decide,by decide,⟨by decide,by decide⟩,by omega,by omega⟩
theorem newpush_ok (orc:FuncId → Bool) (R:Sk) (i:Int) (G:GS):∃ b G',(E orc).cl 258 [.agg ⟨[.int .i64 R.top,.int .i64 R.links,.int .i64 R.size]⟩,.int .i64 i] G = some (P0 b,G') ∧ Ext G G' ∧ G.nx ≤ b ∧ b < G'.nx ∧ PusR R G' b (newPus R i):=by
 obtain ⟨G1,hG1⟩:∃ G1,G1 = (G.push ⟨[.int .i64 R.top,.int .i64 R.links,.int .i64 R.size],1,false,1⟩).push ⟨hL R 0 i 0 true false 0 (pushNext 1),1,false,1⟩:=⟨_,rfl⟩
 have o0:G1.obj G.nx = some ⟨[.int .i64 R.top,.int .i64 R.links,.int .i64 R.size],1,false,1⟩:=by rw [hG1]; simp
 have o1:G1.obj (G.nx + 1) = some ⟨hL R 0 i 0 true false 0 (pushNext 1),1,false,1⟩:=by rw [hG1]; simp
 have n1:G1.nx = G.nx + 2:=by rw [hG1]; rfl
 have x1:Ext G G1:=by rw [hG1]; exact ((Ext.refl G).push _).push _
 have hG1':G1 = (G.push ⟨[.int .i64 R.top,.int .i64 R.links,.int .i64 R.size],1,false,1⟩).push ⟨[.int .i64 R.top,.int .i64 R.links,.int .i64 R.size,.int .u64 0,.int .i64 i,.int .i64 0,.bool true,.bool false,.int .i64 0,.func (.func 264) #[] #[]],1,false,1⟩:=hG1
 have e3:=hends_ok orc o1 3
 unfold newPus
 by_cases hc:i < 0 ∨ R.size ≤ i
 ·rw [if_pos hc]
  refine ⟨G.nx + 1,_,f258 (exL_ok Q orc) _ _ G ((P0 (G.nx + 1)),((G1.put (G.nx + 1) ⟨hL R 0 i 0 true true 0 (pushNext 1),1,false,1⟩).put (G.nx + 1) ⟨hL R 0 i 0 true true 3 (pushNext 1),1,false,1⟩)) ?_,(x1.put (by omega) _).put (by omega) _,by omega,by simp; omega,0,i,0,pushNext 1,by simp⟩
  simp only [pushNext] at *
  by_cases h1:i < 0
  ·simp [s258,h1]
   rw [show (_:GS) = G1 from hG1'.symm]
   simp at e3
   simp [e3]
  ·have h2:R.size ≤ i:=by omega
   simp [s258,h1,h2]
   rw [show (_:GS) = G1 from hG1'.symm]
   simp at e3
   simp [e3]
 ·rw [if_neg hc]
  have h1:¬ i < 0:=by omega
  have h2:¬ R.size ≤ i:=by omega
  refine ⟨G.nx + 1,G1,f258 (exL_ok Q orc) _ _ G _ ?_,x1,by omega,by omega,0,fun h=>absurd h (by decide),o1⟩
  simp [s258,h1,h2]
  exact hG1'.symm
end
end Go.Proofs.YtaanpcoglijohaaGreat.Lift
set_option linter.unusedVariables false
set_option linter.unusedSimpArgs false
set_option maxRecDepth 20000
namespace Go.Proofs.YtaanpcoglijohaaGreat.Lift
open Go Go.Proofs.YtaanpcoglijohaaGreat.Gh Go.Proofs
abbrev rL (R:Sk) (line w i j:Int):List Value:=[.int .i64 R.top,.int .i64 R.links,.int .i64 R.size,.int .i64 line,.int .u64 w,.int .i64 i,.int .i64 j]
def RpopR (R:Sk) (G:GS) (b:Nat):PopS → Prop
 | .go n w i j=>G.obj b = some ⟨rL R n w i j,1,false,1⟩
 | .done i=>∃ w j,G.obj b = some ⟨rL R 9 w i j,1,false,1⟩
def RpusR (R:Sk) (G:GS) (b:Nat):PusS → Prop
 | .go n w i=>G.obj b = some ⟨rL R n w i 0,1,false,1⟩
 | .done e=>∃ w i,G.obj b = some ⟨rL R 9 w i e,1,false,1⟩
theorem RpopR.kept {R:Sk} {G G':GS} {b:Nat} {p:PopS} (h:RpopR R G b p) (hk:G'.obj b = G.obj b):RpopR R G' b p:=by
 cases p with
 | done i=>obtain ⟨w,j,h⟩:=h; exact ⟨w,j,hk.trans h⟩
 | go n w i j=>exact hk.trans h
theorem RpusR.kept {R:Sk} {G G':GS} {b:Nat} {p:PusS} (h:RpusR R G b p) (hk:G'.obj b = G.obj b):RpusR R G' b p:=by
 cases p with
 | done i=>obtain ⟨w,j,h⟩:=h; exact ⟨w,j,hk.trans h⟩
 | go n w i=>exact hk.trans h
section
variable {m r b:Nat} {own own1:Nat → Nat} {G G1:GS} {s s':MS} {R:Sk}
theorem rpush_ok (orc:FuncId → Bool) {p:PusS} (h:RM own G r s) (hs:s.ok) (hR:R.ok) (hb:b < G.nx) (tb:own b ≠ 11) (hp:p.ok R) (hr:RpusR R G b p) :
  ∃ own1 G1,(E orc).cl 239 [P0 b,P0 r] G = some (.bool (p.step R s).1.over,G1) ∧ RW (fun x=>x = b) own G own1 G1 r (p.step R s).2 ∧ RpusR R G1 b (p.step R s).1:=by
 cases p with
 | done e =>
  obtain ⟨w,i,ho⟩:=hr
  refine ⟨own,G,f239 (exL_ok Q orc) _ _ G _ ?_,RW.refl h,w,i,ho⟩
  simp [s239,sb239,j239_0,jb239_0,clip_t,ho,PusS.step,PusS.over]
 | go n w i =>
  obtain ⟨h1,h2,h3,h4,h5⟩:=hp
  have hR1:=hR.1; have hR2:=hR.2.1; have hR5:=hR.2.2.2.2.1; have hR6:=hR.2.2.2.2.2
  have ho:G.obj b = _:=hr
  rcases (show n = 1 ∨ n = 2 ∨ n = 3 by omega) with rfl | rfl | rfl
  ·obtain ⟨own1,G1,e1,w1⟩:=h.load orc R.top
   simp only [PusS.step,if_true]
   generalize s.load R.top = s' at *
   have o1:=(w1.keep hb tb id).trans ho
   have w1':RW (fun x=>x = b) own G own1 G1 r s':=w1.mono fun _ _ h=>h.elim
   have w4:=(w1'.putB (b:=b) rfl hb tb ⟨rL R 1 s'.new i 0,1,false,1⟩).putB (b:=b) rfl hb tb ⟨rL R 2 s'.new i 0,1,false,1⟩
   simp at ho o1
   refine ⟨_,_,f239 (exL_ok Q orc) _ _ G _ ?_,w4,by simp [RpusR]⟩
   simp [s239,sb239,j239_0,jb239_0,clip_t,ho,e1,o1,PusS.over]
  ·have g1:=@idxI_ge R.size w
   have g2:=@idxI_lt R.size w (by omega)
   have ha:IntKind.wrap .i64 (R.links + i) = R.links + i:=wrap64 (by omega) (by omega)
   have ha1:IntKind.wrap .i64 (idxI R.size w + 1) = idxI R.size w + 1:=wrap64 (by omega) (by omega)
   have ha2:IntKind.wrap .u64 (idxI R.size w + 1) = idxI R.size w + 1:=by rw [wrap_u64]; omega
   obtain ⟨k,hk⟩:∃ k,G.room k = G.room k:=⟨0,rfl⟩
   clear hk k
   obtain ⟨G1,e1,x1⟩:=rindex_ok orc (a:=R.top) (b:=R.links) (size:=R.size) h3 (G.room 23)
   have w1:=((RW.refl (B:=fun x=>x = b) h).ext ((Ext.refl G).room 23)).ext x1
   have o1:=((((Ext.refl G).room 23).trans x1).obj b hb).trans ho
   obtain ⟨own2,G2,e2,w2⟩:=w1.rm.store orc (R.links + i) (idxI R.size w + 1)
   have o2:=(w2.keep (Nat.lt_of_lt_of_le hb w1.nx) (by rw [w1.stp.same hb]; exact tb) id).trans o1
   have w12:=w1.trans w2 fun _ _ h=>h.elim
   have w3:=w12.putB (b:=b) rfl hb tb ⟨rL R 3 w i 0,1,false,1⟩
   simp only [PusS.step]
   generalize s.store (R.links + i) (idxI R.size w + 1) = s' at *
   simp at ho o1 o2
   refine ⟨_,_,f239 (exL_ok Q orc) _ _ G _ ?_,w3,by simp [RpusR]⟩
   simp [s239,sb239,j239_0,jb239_0,clip_t,ho,e1,o1,ha,ha1,ha2,e2,o2,PusS.over]
  ·obtain ⟨G1,hG1⟩:∃ G1,G1 = (G.put b ⟨rL R 1 w i 0,1,false,1⟩).room 20:=⟨_,rfl⟩
   have w1:=((RW.refl (B:=fun x=>x = b) h).putB rfl hb tb ⟨rL R 1 w i 0,1,false,1⟩).ext ((Ext.refl _).room 20)
   rw [← hG1] at w1
   have o1:G1.obj b = some ⟨rL R 1 w i 0,1,false,1⟩:=by rw [hG1]; simp
   have n1:b < G1.nx:=Nat.lt_of_lt_of_le hb w1.nx
   have e1:=rtop_ok orc (j:=i) (by omega) h3 G1
   obtain ⟨own2,G2,e2,w2⟩:=w1.rm.cas orc R.top w (topI i w)
   have o2:=(w2.keep n1 (by rw [w1.stp.same hb]; exact tb) id).trans o1
   have w12:=w1.trans w2 fun _ _ h=>h.elim
   simp only [PusS.step]
   generalize s.cas R.top w (topI i w) = s' at *
   simp at ho o1 o2
   cases hc:s'.held with
   | true =>
    have w4:=w12.putB (b:=b) rfl hb tb ⟨rL R 9 w i 0,1,false,1⟩
    refine ⟨own2,_,f239 (exL_ok Q orc) _ _ G _ ?_,by simpa [hc] using w4,w,i,by simp⟩
    simp [s239,sb239,j239_0,jb239_0,clip_t,ho,← hG1,o1,e1,e2,hc,o2,PusS.over]
   | false =>
    refine ⟨own2,_,f239 (exL_ok Q orc) _ _ G _ ?_,by simpa [hc] using w12,by simp [RpusR,o2]⟩
    simp [s239,sb239,j239_0,jb239_0,clip_t,ho,← hG1,o1,e1,e2,hc,o2,PusS.over]
theorem rnewpush_ok (orc:FuncId → Bool) (R:Sk) (i:Int) (G:GS):∃ b G',(E orc).cl 237 [.agg ⟨[.int .i64 R.top,.int .i64 R.links,.int .i64 R.size]⟩,.int .i64 i] G = some (P0 b,G') ∧ Ext G G' ∧ G.nx ≤ b ∧ b < G'.nx ∧ RpusR R G' b (newPus R i):=by
 unfold newPus
 by_cases hc:i < 0 ∨ R.size ≤ i
 ·rw [if_pos hc]
  refine ⟨G.nx + 1,(G.push ⟨[.int .i64 R.top,.int .i64 R.links,.int .i64 R.size],1,false,1⟩).push ⟨rL R 9 0 0 3,1,false,1⟩,f237 (exL_ok Q orc) _ _ G _ ?_,((Ext.refl G).push _).push _,by omega,by simp,0,0,by simp⟩
  by_cases h1:i < 0
  ·simp [s237,h1]
  ·have h2:R.size ≤ i:=by omega
   simp [s237,h1,h2]
 ·rw [if_neg hc]
  have h1:¬ i < 0:=by omega
  have h2:¬ R.size ≤ i:=by omega
  refine ⟨G.nx + 1,(G.push ⟨[.int .i64 R.top,.int .i64 R.links,.int .i64 R.size],1,false,1⟩).push ⟨rL R 1 0 i 0,1,false,1⟩,f237 (exL_ok Q orc) _ _ G _ ?_,((Ext.refl G).push _).push _,by omega,by simp,by simp [RpusR]⟩
  simp [s237,h1,h2]
end
end Go.Proofs.YtaanpcoglijohaaGreat.Lift
set_option linter.unusedVariables false
set_option linter.unusedSimpArgs false
set_option maxRecDepth 20000
namespace Go.Proofs.YtaanpcoglijohaaGreat.Lift
open Go Go.Proofs.YtaanpcoglijohaaGreat.Gh Go.Proofs
section
variable {G B:GS} {A:List Int} {v0:Value}
theorem among_lp (orc:FuncId → Bool) (hA:SlR (rowsI .i64) G v0 A) (hlen:A.length < 2 ^ 47) (x:Int):∀ (k i:Nat) (τ:Env),i + k = A.length → τ 0 = v0 → τ 1 = .int .i64 x → τ 5 = .int .i64 (i:Int) →
  Wp ((exL Q orc).lpx 135 0 τ G) fun q=>q.2.2 = G ∧ ((q.1 = .exit 0 ∧ x ∉ A.drop i) ∨ (q.1 = .ret ∧ x ∈ A.drop i ∧ q.2.1 4 = .bool true)):=by
 intro k
 induction k with
 | zero =>
  intro i τ hi t0 t1 t5
  have hi':i = A.length:=by omega
  refine Wp.lp (l135_0 (exL_ok Q orc)) ?_
  subst hi'
  obtain ⟨a,c,e0⟩:=hA.len
  simp [b135_0,clip_t,t0,t1,t5,e0]
 | succ k ih =>
  intro i τ hi t0 t1 t5
  have hlt:i < A.length:=by omega
  have hw:IntKind.wrap .i64 ((i:Int) + 1) = ((i + 1:Nat):Int):=wrap64 (by omega) (by omega)
  have h1:(i:Int) < A.length:=by omega
  have h2:(0:Int) ≤ i:=by omega
  obtain ⟨b,o,c,e0,_,q,_⟩:=hA.at hlt
  have q0:=q 0 (by decide)
  simp at q0
  rw [List.drop_eq_getElem_cons hlt]
  generalize A[i] = y at *
  refine Wp.lp (l135_0 (exL_ok Q orc)) ?_
  by_cases hy:y = x
  ·subst hy
   simp [-Int.natCast_add,b135_0,clip_t,t0,t1,t5,e0,h1,h2,hlt,q0,hw]
  ·have hy':¬ x = y:=fun e=>hy e.symm
   simp [-Int.natCast_add,b135_0,clip_t,t0,t1,t5,e0,h1,h2,hlt,q0,hw,hy]
   refine Wp.mono (ih (i + 1) _ (by omega) ?_ ?_ ?_) fun q hq=>?_
   ·simp [clip_t,e0]
   ·simp [clip_t]
   ·simp [clip_t]
   ·simpa [hy'] using hq
theorem among_ok' (orc:FuncId → Bool) (hA:SlR (rowsI .i64) G v0 A) (hlen:A.length < 2 ^ 47) (x:Int):(E orc).cl 135 [v0,.int .i64 x] G = some (.bool (decide (x ∈ A)),G):=by
 have w:Wp ((E orc).cl 135 [v0,.int .i64 x] G) fun q=>q.1 = .bool (decide (x ∈ A)) ∧ q.2 = G:=by
  refine Wp.ref (f135 (exL_ok Q orc) _ _ G) ?_
  simp [s135]
  refine Wp.bE ((among_lp orc hA hlen x A.length 0 _ (by omega) (by simp) (by simp) (by simp)).mono ?_)
  rintro ⟨e,τ,G'⟩ ⟨h1,(⟨h2,h3⟩ | ⟨h2,h3,h4⟩)⟩
  ·simp only [List.drop_zero] at h1 h2 h3
   subst h1 h2
   simp [h3]
  ·simp only [List.drop_zero] at h1 h2 h3 h4
   subst h1 h2
   simp [h3,h4]
 obtain ⟨⟨v,G'⟩,e,h1,h2⟩:=w
 simp only at h1 h2
 subst h1 h2
 exact e
end
end Go.Proofs.YtaanpcoglijohaaGreat.Lift
set_option linter.unusedVariables false
set_option linter.unusedSimpArgs false
set_option maxRecDepth 20000
namespace Go.Proofs.YtaanpcoglijohaaGreat.Lift
open Go Go.Proofs.YtaanpcoglijohaaGreat.Gh Go.Proofs
structure Ar where
 top:Int
 links:Int
 size:Int
 gens:Int
 worn:Int
 limit:Int
abbrev Ar.R (A:Ar):Sk:=⟨A.top,A.links,A.size⟩
abbrev Ar.cells (A:Ar):List Value:=[.int .i64 A.top,.int .i64 A.links,.int .i64 A.size,.int .i64 A.gens,.int .i64 A.worn,.int .i64 A.limit]
abbrev Ar.v (A:Ar):Value:=.agg ⟨A.cells⟩
def Ar.ok (A:Ar):Prop:=A.R.ok ∧ 0 ≤ A.gens ∧ A.gens + A.size ≤ 4096 ∧ 0 ≤ A.worn ∧ A.worn < 4096 ∧ 1 ≤ A.limit ∧ A.limit ≤ 4294967295
abbrev Sk.v (R:Sk):Value:=.agg ⟨[.int .i64 R.top,.int .i64 R.links,.int .i64 R.size]⟩
def Sk.sized (R:Sk):Prop:=1 ≤ R.size ∧ R.size ≤ 4096
instance (R:Sk):Decidable R.sized:=by unfold Sk.sized; exact inferInstance
def Sk.fitsIn (R:Sk) (c:Int):Prop:=R.sized ∧ 0 ≤ R.top ∧ R.top < c ∧ 0 ≤ R.links ∧ R.links ≤ c - R.size ∧ ¬ (R.links ≤ R.top ∧ R.top < R.links + R.size)
instance (R:Sk) (c:Int):Decidable (R.fitsIn c):=by unfold Sk.fitsIn; exact inferInstance
def sfitsI (R:Sk) (c:Int):Int:=if c < 1 ∨ 4096 < c then 3 else if R.fitsIn c then 0 else 2
section
variable {G B:GS} {A:Ar} {R:Sk} {c:Int}
theorem ssized_ok (orc:FuncId → Bool) (R:Sk) (G:GS):(E orc).cl 253 [R.v] G = some (.bool (decide R.sized),G.push ⟨[.int .i64 R.top,.int .i64 R.links,.int .i64 R.size],1,false,1⟩):=by
 refine f253 (exL_ok Q orc) _ G _ ?_
 unfold Sk.sized
 by_cases h1:1 ≤ R.size
 ·by_cases h2:R.size ≤ 4096 <;> simp [s253,h1,h2]
 ·simp [s253,h1]
theorem rsfits_ok (orc:FuncId → Bool) (R:Sk) (c:Int) (G:GS):∃ G',(E orc).cl 178 [R.v,.int .i64 c] G = some (.int .i64 (sfitsI R c),G') ∧ Ext G G':=by
 have w:Wp (s178 true (exL Q orc) R.v (.int .i64 c) G) fun q=>q.1 = .int .i64 (sfitsI R c) ∧ Ext G q.2:=by
  obtain ⟨G1,hG1⟩:∃ G1,G1 = G.push ⟨[.int .i64 R.top,.int .i64 R.links,.int .i64 R.size],1,false,1⟩:=⟨_,rfl⟩
  have x1:Ext G G1:=by rw [hG1]; exact (Ext.refl G).push _
  have o1:G1.obj G.nx = some ⟨[.int .i64 R.top,.int .i64 R.links,.int .i64 R.size],1,false,1⟩:=by rw [hG1]; simp
  unfold sfitsI
  by_cases c1:c < 1
  ·simp [s178,← hG1,c1]; exact x1
  by_cases c2:4096 < c
  ·simp [s178,← hG1,c1,c2]; exact x1
  unfold Sk.fitsIn Sk.sized
  by_cases s1:R.size < 1
  ·have:¬ 1 ≤ R.size:=by omega
   simp [s178,← hG1,c1,c2,o1,s1,this]; exact x1
  have s1':1 ≤ R.size:=by omega
  by_cases s2:4096 < R.size
  ·have:¬ R.size ≤ 4096:=by omega
   simp [s178,← hG1,c1,c2,o1,s1,s2,this]; exact x1
  have s2':R.size ≤ 4096:=by omega
  have w1:IntKind.wrap .i64 (c - R.size) = c - R.size:=wrap64 (by omega) (by omega)
  by_cases h1:R.top < 0
  ·have:¬ 0 ≤ R.top:=by omega
   simp [s178,← hG1,c1,c2,o1,s1,s2,s1',s2',h1,this]; exact x1
  have h1':0 ≤ R.top:=by omega
  by_cases h2:c ≤ R.top
  ·have:¬ R.top < c:=by omega
   simp [s178,← hG1,c1,c2,o1,s1,s2,s1',s2',h1,h2,h1',this]; exact x1
  have h2':R.top < c:=by omega
  by_cases h3:R.links < 0
  ·have:¬ 0 ≤ R.links:=by omega
   simp [s178,← hG1,c1,c2,o1,s1,s2,s1',s2',h1,h2,h3,h1',h2',this]; exact x1
  have h3':0 ≤ R.links:=by omega
  by_cases h4:c - R.size < R.links
  ·have:¬ R.links ≤ c - R.size:=by omega
   simp [s178,← hG1,c1,c2,o1,s1,s2,s1',s2',h1,h2,h3,h1',h2',h3',w1,h4,this]; exact x1
  have h4':R.links ≤ c - R.size:=by omega
  have w2:IntKind.wrap .i64 (R.links + R.size) = R.links + R.size:=wrap64 (by omega) (by omega)
  by_cases h5:R.links ≤ R.top
  ·by_cases h6:R.top < R.links + R.size
   ·have:¬ R.links + R.size ≤ R.top:=by omega
    simp [s178,← hG1,c1,c2,o1,s1,s2,s1',s2',h1,h2,h3,h1',h2',h3',w1,h4,h4',w2,h5,h6,this]; exact x1
   ·have:R.links + R.size ≤ R.top:=by omega
    simp [s178,← hG1,c1,c2,o1,s1,s2,s1',s2',h1,h2,h3,h1',h2',h3',w1,h4,h4',w2,h5,h6,this]; exact x1
  ·have h5':R.top < R.links:=by omega
   simp [s178,← hG1,c1,c2,o1,s1,s2,s1',s2',h1,h2,h3,h1',h2',h3',w1,h4,h4',w2,h5,h5']; exact x1
 obtain ⟨⟨v,G'⟩,e1,rfl,h⟩:=w
 exact ⟨G',f178 (exL_ok Q orc) _ _ G _ e1,h⟩
def arN (A:Ar):Nat → Nat → List Int
 | 0,_=>[]
 | k + 1,i=>IntKind.wrap .i64 (A.links + i) :: IntKind.wrap .i64 (A.gens + i) :: arN A k (i + 1)
theorem arN_length (A:Ar):∀ k i,(arN A k i).length = 2 * k
 | 0,_=>rfl
 | k + 1,i=>by simp only [arN,List.length_cons,arN_length A k (i + 1)]; omega
def arL (A:Ar):List Int:=A.top :: A.worn :: arN A A.size.toNat 0
theorem rcells_lp (orc:FuncId → Bool) {rb:Nat} (hB:B.obj rb = some ⟨A.cells,1,false,1⟩) (hrb:rb < B.nx) (hz:A.size ≤ 4096) {n:Nat} (hn:A.size = n):∀ (k i:Nat) (τ:Env) (G:GS) (L:List Int) (v:Value),i + k = n → L.length ≤ 2 + 2 * i → Ext B G → OwR (rowsI .i64) B.nx G v L → τ 1 = P0 rb → τ 3 = v → τ 4 = .int .i64 i →
  Wp ((exL Q orc).lpx 136 0 τ G) fun q=>q.1 = .exit 0 ∧ Ext B q.2.2 ∧ OwR (rowsI .i64) B.nx q.2.2 (q.2.1 3) (L ++ arN A k i):=by
 intro k
 induction k with
 | zero =>
  intro i τ G L v hi hL hx hv t1 t3 t4
  have ho:=(hx.obj rb hrb).trans hB
  have hi':((i:Nat):Int) = A.size:=by omega
  refine Wp.lp (l136_0 (exL_ok Q orc)) ?_
  simp [b136_0,clip_t,t1,t3,t4,ho,hi',arN]
  exact ⟨hx,hv⟩
 | succ k ih =>
  intro i τ G L v hi hL hx hv t1 t3 t4
  have ho:=(hx.obj rb hrb).trans hB
  have hlt:((i:Nat):Int) < A.size:=by omega
  have hw:IntKind.wrap .i64 ((i:Int) + 1) = ((i + 1:Nat):Int):=wrap64 (by omega) (by omega)
  generalize ha:IntKind.wrap .i64 (A.links + i) = a
  generalize hb:IntKind.wrap .i64 (A.gens + i) = b
  have x1:Ext G (G.push ⟨(rowsI .i64).flat [a,b],1,false,1⟩):=(Ext.refl G).push _
  have hs:SlR (rowsI .i64) (G.push ⟨(rowsI .i64).flat [a,b],1,false,1⟩) (.slice (some ⟨G.nx,0,none⟩) 2 2) [a,b]:=SlR.block (e:=rowsI .i64) (L:=[a,b]) (op:=false) (b:=G.nx) (by rw [obj_push,if_pos rfl]; rfl) (by simp)
  obtain ⟨v',G4,e6,x6,w6⟩:=(hv.ext x1).app (A:=B) (ib:=8) (by decide) (hx.trans x1) hs (by simp; omega)
  have hfl:(rowsI .i64).flat [a,b] = [.int .i64 a,.int .i64 b]:=rfl
  simp only [rowsI_sz,hfl] at e6
  refine Wp.lp (l136_0 (exL_ok Q orc)) ?_
  simp [-Int.natCast_add,b136_0,clip_t,t1,t3,t4,ho,hlt,ha,hb,hw,fillS,fillC,zipF,rep,splice_put,splice_end,splice_succ,e6]
  refine (ih (i + 1) _ G4 (L ++ [a,b]) v' (by omega) (by simp; omega) x6 w6 (by simp [clip_t]) (by simp [clip_t]) (by simp [clip_t])).mono ?_
  rintro q ⟨q1,q2,q3⟩
  exact ⟨q1,q2,by simpa [arN,ha,hb] using q3⟩
theorem rcells_ok (orc:FuncId → Bool) (hz1:1 ≤ A.size) (hz:A.size ≤ 4096) (G:GS):∃ v G',(E orc).cl 136 [A.v] G = some (v,G') ∧ Ext G G' ∧ OwR (rowsI .i64) G.nx G' v (arL A):=by
 have w:Wp (s136 true (exL Q orc) A.v G) fun q=>Ext G q.2 ∧ OwR (rowsI .i64) G.nx q.2 q.1 (arL A):=by
  obtain ⟨G1,hG1⟩:∃ G1,G1 = G.push ⟨A.cells,1,false,1⟩:=⟨_,rfl⟩
  have x1:Ext G G1:=by rw [hG1]; exact (Ext.refl G).push _
  have o1:G1.obj G.nx = some ⟨A.cells,1,false,1⟩:=by rw [hG1]; simp
  have n1:G1.nx = G.nx + 1:=by rw [hG1]; rfl
  simp [s136,← hG1,o1,fillS,fillC,zipF,rep,splice_put,splice_end,splice_succ]
  have hfl:[Value.int .i64 A.top,Value.int .i64 A.worn] = (rowsI .i64).flat [A.top,A.worn]:=rfl
  generalize hG2:GS.push G1 _ = G2
  have x2:Ext G1 G2:=by rw [← hG2]; exact (Ext.refl _).push _
  have w2:OwR (rowsI .i64) G1.nx G2 (.slice (some ⟨G1.nx,0,none⟩) 2 2) [A.top,A.worn]:=⟨rfl,.inr ⟨G1.nx,false,rfl,Nat.le_refl _,by rw [← hG2]; simp,by rw [← hG2,obj_push,if_pos rfl]; rfl⟩⟩
  obtain ⟨n,hn⟩:∃ n:Nat,A.size = n:=⟨A.size.toNat,by omega⟩
  refine Wp.bE ((rcells_lp orc (B:=G1) o1 (by omega) hz hn n 0 _ G2 [A.top,A.worn] _ (by omega) (by simp) x2 w2 (by simp) (by simp) (by simp)).mono ?_)
  rintro ⟨e,τ,G3⟩ ⟨rfl,q2,q3⟩
  simp only at q2 q3
  simp
  refine ⟨x1.trans q2,?_⟩
  have:=q3.mono (B':=G.nx) (by omega)
  simpa [arL,hn] using this
 obtain ⟨⟨v,G'⟩,e1,e2,e3⟩:=w
 exact ⟨v,G',f136 (exL_ok Q orc) _ G _ e1,e2,e3⟩
def apC (L:List Int) (n:Int) (i:Nat):Prop:=0 ≤ (L[i]?).getD 0 ∧ (L[i]?).getD 0 < n ∧ (L[i]?).getD 0 ∉ L.take i
instance (L:List Int) (n:Int) (i:Nat):Decidable (apC L n i):=by unfold apC; exact inferInstance
def apF (L:List Int) (n:Int):Nat → Nat → Bool
 | 0,_=>true
 | k + 1,i=>decide (apC L n i) && apF L n k (i + 1)
theorem apF_iff (L:List Int) (n:Int):∀ k i,apF L n k i = true ↔ ∀ j,i ≤ j → j < i + k → apC L n j
 | 0,i=>⟨fun _ j h1 h2=>by omega,fun _=>rfl⟩
 | k + 1,i=>by
  simp only [apF,Bool.and_eq_true,decide_eq_true_eq,apF_iff L n k (i + 1)]
  constructor
  ·rintro ⟨h1,h2⟩ j h3 h4
   by_cases hj:j = i
   ·exact hj ▸ h1
   ·exact h2 j (by omega) (by omega)
  ·intro h
   exact ⟨h i (by omega) (by omega),fun j h1 h2=>h j (by omega) (by omega)⟩
theorem rapart_lp (orc:FuncId → Bool) {L:List Int} {n:Int} {v:Value} (hv:SlR (rowsI .i64) B v L) (hL:L.length < 2 ^ 40):∀ (k i:Nat) (τ:Env) (G:GS),i + k = L.length → Ext B G → τ 0 = v → τ 1 = .int .i64 n → τ 5 = .int .i64 i →
  Wp ((exL Q orc).lpx 75 0 τ G) fun q=>Ext B q.2.2 ∧ ((q.1 = .exit 0 ∧ apF L n k i = true) ∨ (q.1 = .ret ∧ q.2.1 4 = .bool false ∧ apF L n k i = false)):=by
 intro k
 induction k with
 | zero =>
  intro i τ G hi hx t0 t1 t5
  have hi':i = L.length:=by omega
  subst hi'
  obtain ⟨a,c,rfl⟩:=hv.len
  refine Wp.lp (l75_0 (exL_ok Q orc)) ?_
  simp [b75_0,clip_t,t0,t1,t5,apF]
  exact hx
 | succ k ih =>
  intro i τ G hi hx t0 t1 t5
  have hlt:i < L.length:=by omega
  have hi0:(0:Int) ≤ i:=by omega
  have hw:IntKind.wrap .i64 ((i:Int) + 1) = ((i + 1:Nat):Int):=wrap64 (by omega) (by omega)
  have x1:Ext B (G.room 23):=hx.room 23
  obtain ⟨b,o,c,e0,_,q0,_⟩:=(hv.ext x1).at hlt
  have q1:=q0 0 (by decide)
  simp at q1
  obtain ⟨-,v',e7,h7⟩:=(hv.ext x1).take (k:=.i64) (o:=i) (by omega)
  obtain ⟨v'',e8,h8⟩:=((hv.ext x1).take (k:=.i64) (o:=i) (by omega)).1
  simp only [rowsI_sz] at e8
  rw [e0] at e8
  have e9:=among_ok' orc h8 (by simp; omega) L[i]
  have hg:(L[i]?).getD 0 = L[i]:=by rw [List.getElem?_eq_getElem hlt]; rfl
  simp only [apF,apC,hg]
  refine Wp.lp (l75_0 (exL_ok Q orc)) ?_
  by_cases c1:L[i] < 0
  ·have c1':¬ 0 ≤ L[i]:=by omega
   simp [-Int.natCast_add,b75_0,clip_t,t0,t1,t5,e0,hlt,hi0,q1,c1,c1']
   exact x1
  have c1':0 ≤ L[i]:=by omega
  by_cases c2:n ≤ L[i]
  ·have c2':¬ L[i] < n:=by omega
   simp [-Int.natCast_add,b75_0,clip_t,t0,t1,t5,e0,hlt,hi0,q1,c1,c2,c2']
   exact x1
  have c2':L[i] < n:=by omega
  by_cases c3:L[i] ∈ L.take i
  ·simp only [c3,decide_true] at e9
   simp [-Int.natCast_add,b75_0,clip_t,t0,t1,t5,e0,hlt,hi0,q1,c1,c2,e8,e9,c3]
   exact x1
  ·simp only [c3,decide_false] at e9
   simp [-Int.natCast_add,b75_0,clip_t,t0,t1,t5,e0,hlt,hi0,q1,c1,c2,e8,e9,c3,hw]
   refine (ih (i + 1) _ (G.room 23) (by omega) x1 (by simp [clip_t,e0]) (by simp [clip_t]) (by simp [clip_t])).mono ?_
   rintro q ⟨h1,h2⟩
   exact ⟨h1,by simpa [c1',c2',c3] using h2⟩
theorem rapart_ok (orc:FuncId → Bool) {L:List Int} {n:Int} {v:Value} (hv:SlR (rowsI .i64) G v L) (hL:L.length < 2 ^ 40):∃ G',(E orc).cl 75 [v,.int .i64 n] G = some (.bool (apF L n L.length 0),G') ∧ Ext G G':=by
 have w:Wp (s75 true (exL Q orc) v (.int .i64 n) G) fun q=>q.1 = .bool (apF L n L.length 0) ∧ Ext G q.2:=by
  simp [s75]
  refine Wp.bE ((rapart_lp orc (B:=G) (n:=n) hv hL L.length 0 _ G (by omega) (Ext.refl _) (by simp) (by simp) (by simp)).mono ?_)
  rintro ⟨e,τ,G3⟩ ⟨q1,q2⟩
  rcases q2 with ⟨rfl,q3⟩ | ⟨rfl,q3,q4⟩
  ·simp [q3]; exact q1
  ·simp at q3
   simp [q3,q4]; exact q1
 obtain ⟨⟨v,G'⟩,e1,rfl,h⟩:=w
 exact ⟨G',f75 (exL_ok Q orc) _ _ G _ e1,h⟩
def Ar.lim (A:Ar):Prop:=1 ≤ A.limit ∧ A.limit ≤ 4294967295
instance (A:Ar):Decidable A.lim:=by unfold Ar.lim; exact inferInstance
def rfitsI (A:Ar) (c:Int):Int:=if c < 1 ∨ 4096 < c then 3 else if A.R.fitsIn c ∧ A.lim ∧ apF (arL A) c (arL A).length 0 = true then 0 else 2
theorem rafits_ok (orc:FuncId → Bool) (A:Ar) (c:Int) (G:GS):∃ G',(E orc).cl 133 [A.v,.int .i64 c] G = some (.int .i64 (rfitsI A c),G') ∧ Ext G G':=by
 have w:Wp (s133 true (exL Q orc) A.v (.int .i64 c) G) fun q=>q.1 = .int .i64 (rfitsI A c) ∧ Ext G q.2:=by
  obtain ⟨G1,hG1⟩:∃ G1,G1 = G.push ⟨A.cells,1,false,1⟩:=⟨_,rfl⟩
  have x1:Ext G G1:=by rw [hG1]; exact (Ext.refl G).push _
  have o1:G1.obj G.nx = some ⟨A.cells,1,false,1⟩:=by rw [hG1]; simp
  have n1:G1.nx = G.nx + 1:=by rw [hG1]; rfl
  unfold rfitsI
  by_cases c1:c < 1
  ·simp [s133,← hG1,c1]; exact x1
  by_cases c2:4096 < c
  ·simp [s133,← hG1,c1,c2]; exact x1
  obtain ⟨G2,e2,x2⟩:=rsfits_ok orc A.R c G1
  have o2:=(x2.obj _ (by omega)).trans o1
  have y2:=x1.trans x2
  unfold sfitsI at e2
  rw [if_neg (by omega)] at e2
  by_cases h0:A.R.fitsIn c
  ·rw [if_pos h0] at e2
   unfold Ar.lim
   by_cases h1:A.limit < 1
   ·have:¬ 1 ≤ A.limit:=by omega
    simp [s133,← hG1,c1,c2,o1,e2,o2,h0,h1,this]; exact y2
   have h1':1 ≤ A.limit:=by omega
   by_cases h2:4294967295 < A.limit
   ·have:¬ A.limit ≤ 4294967295:=by omega
    simp [s133,← hG1,c1,c2,o1,e2,o2,h0,h1,h2,this]; exact y2
   have h2':A.limit ≤ 4294967295:=by omega
   obtain ⟨v,G3,e3,x3,w3⟩:=rcells_ok orc (A:=A) h0.1.1 h0.1.2 G2
   have hlen:(arL A).length < 2 ^ 40:=by
    simp only [arL,List.length_cons,arN_length]
    have:=h0.1.2
    simp only at this
    omega
   obtain ⟨G4,e4,x4⟩:=rapart_ok orc (n:=c) w3.is hlen
   have y4:=(y2.trans x3).trans x4
   cases h3:apF (arL A) c (arL A).length 0 with
   | true =>
    rw [h3] at e4
    simp [s133,← hG1,c1,c2,o1,e2,o2,h0,h1,h2,h1',h2',e3,e4]; exact y4
   | false =>
    rw [h3] at e4
    simp [s133,← hG1,c1,c2,o1,e2,o2,h0,h1,h2,h1',h2',e3,e4]; exact y4
  ·rw [if_neg h0] at e2
   simp [s133,← hG1,c1,c2,o1,e2,o2,h0]; exact y2
 obtain ⟨⟨v,G'⟩,e1,rfl,h⟩:=w
 exact ⟨G',f133 (exL_ok Q orc) _ _ G _ e1,h⟩
end
theorem arN_at (A:Ar):∀ (k i0 j:Nat),j < k → (arN A k i0)[2 * j]? = some (IntKind.wrap .i64 (A.links + (i0 + j:Nat))) ∧ (arN A k i0)[2 * j + 1]? = some (IntKind.wrap .i64 (A.gens + (i0 + j:Nat)))
 | 0,_,j,h=>by omega
 | k + 1,i0,0,_=>⟨rfl,rfl⟩
 | k + 1,i0,j + 1,h=>by
  have:=arN_at A k (i0 + 1) j (by omega)
  simp only [arN]
  rw [show 2 * (j + 1) = (2 * j + 1) + 1 by omega,show 2 * j + 1 + 1 + 1 = (2 * j + 1 + 1) + 1 by omega]
  simp only [List.getElem?_cons_succ]
  rw [show i0 + (j + 1) = i0 + 1 + j by omega]
  exact this
theorem arL_at (A:Ar) {j:Nat} (h:j < A.size.toNat):(arL A)[2 + 2 * j]? = some (IntKind.wrap .i64 (A.links + j)) ∧ (arL A)[3 + 2 * j]? = some (IntKind.wrap .i64 (A.gens + j)):=by
 have:=arN_at A A.size.toNat 0 j h
 rw [show 2 + 2 * j = 2 * j + 1 + 1 by omega,show 3 + 2 * j = 2 * j + 1 + 1 + 1 by omega]
 simp only [arL,List.getElem?_cons_succ]
 rw [Nat.zero_add] at this
 exact this
end Go.Proofs.YtaanpcoglijohaaGreat.Lift
set_option linter.unusedVariables false
set_option linter.unusedSimpArgs false
set_option maxRecDepth 20000
namespace Go.Proofs.YtaanpcoglijohaaGreat.Lift
open Go Go.Proofs.YtaanpcoglijohaaGreat.Gh Go.Proofs
structure Ops (X:Type) where
 e:RowE X
 ok:(Nat → Nat) → GS → Nat → X → Prop
 to:∀ {own own':Nat → Nat} {G G':GS} {i:Nat} {x:X},ok own G i x → G.nx ≤ G'.nx → (∀ g,g < G.nx → own g = i → G'.obj g = G.obj g) → Agr own own' G → ok own' G' i x
structure RI {X:Type} (O:Ops X) (n:Nat) (own:Nat → Nat) (G:GS) (m r cb:Nat) (s:MS) (L:List X):Prop where
 pm:PM own G m s
 rm:RM own G r s
 ok:s.ok
 tc:own cb = 12
 lc:cb < G.nx
 oc:G.obj cb = some ⟨O.e.flat L,O.e.sz,false,1⟩
 len:L.length = n
 n9:n ≤ 9
 core:∀ i x,L[i]? = some x → O.ok own G i x
section
variable {X:Type} {O:Ops X} {n m r b cb t i:Nat} {B:Nat → Prop} {own own':Nat → Nat} {G G' G1:GS} {s s':MS} {L:List X} {ts:List Nat} {x y:X}
theorem PM.modT (h:PM own G m s) (q:ModT ts own G G') (h1:10 ∉ ts) (a:Agr own own' G):PM own' G' m s:=(sepP m s).tag h q h1 a
theorem RM.modT (h:RM own G r s) (q:ModT ts own G G') (h1:11 ∉ ts) (a:Agr own own' G):RM own' G' r s:=(sepR r s).tag h q h1 a
theorem Stp.modT (h:Stp t B own G own' G') (hB:∀ x,x < G.nx → B x → own x = i):ModT [t,i] own G G' :=
 ⟨h.mod.nx,fun g hg hn=>h.mod.obj g hg fun k=>hn (k.elim (fun k=>by simp [k]) fun k=>by simp [hB g hg k]),h.mod.nl,h.mod.loop⟩
theorem RI.lt (h:RI O n own G m r cb s L) (hx:L[i]? = some x):i < n:=by have:=(List.getElem?_eq_some_iff.1 hx).1; rw [h.len] at this; exact this
theorem RI.to (h:RI O n own G m r cb s L) (q:ModT [13] own G G') (a:Agr own own' G):RI O n own' G' m r cb s L :=
 ⟨h.pm.modT q (by simp) a,h.rm.modT q (by simp) a,h.ok,(a _ h.lc).trans h.tc,Nat.lt_of_lt_of_le h.lc q.nx,(q.same h.lc (by rw [h.tc]; simp)).trans h.oc,h.len,h.n9,
  fun i x hx=>O.to (h.core i x hx) q.nx (fun g hg hi=>q.same hg (by have:=h.lt hx; have:=h.n9; rw [hi]; simp; omega)) a⟩
theorem RI.ext (h:RI O n own G m r cb s L) (x:Ext G G'):RI O n (grown own G 13) G' m r cb s L:=h.to (ModT.ext x) grown_agr
theorem RI.room (h:RI O n own G m r cb s L) (k:Nat):RI O n (grown own G 13) (G.room k) m r cb s L:=h.ext ((Ext.refl G).room k)
theorem RI.begin (h:RI O n own G m r cb s L) (x:Ext G G') (hi:i < n) (hy:O.ok (grown own G i) (G'.put cb ⟨O.e.flat (L.set i y),O.e.sz,false,1⟩) i y) :
  RI O n (grown own G i) (G'.put cb ⟨O.e.flat (L.set i y),O.e.sz,false,1⟩) m r cb s (L.set i y):=by
 have lc:=h.lc
 have m1:ModT [12] own G (G'.put cb ⟨O.e.flat (L.set i y),O.e.sz,false,1⟩):=(ModT.ext x).put (.inl (by rw [h.tc]; simp)) _
 have a:Agr own (grown own G i) G:=grown_agr
 refine ⟨h.pm.modT m1 (by simp) a,h.rm.modT m1 (by simp) a,h.ok,(a _ lc).trans h.tc,Nat.lt_of_lt_of_le lc x.nx,by simp,by simpa using h.len,h.n9,fun j z hz=>?_⟩
 rw [List.getElem?_set] at hz
 split at hz
 ·rename_i hji
  subst hji
  rw [if_pos (by rw [h.len]; exact hi)] at hz
  cases hz
  exact hy
 ·exact O.to (h.core j z hz) m1.nx (fun g hg hj=>m1.same hg (by have:=h.lt hz; have:=h.n9; rw [hj]; simp; omega)) a
theorem RI.told (h:RI O n own G m r cb s L) (hx:L[i]? = some x) (q:ModT [10,11,i] own G G') (a:Agr own own' G) (p1:PM own' G' m s') (p2:RM own' G' r s') (p3:s'.ok) (hy:O.ok own' G' i y) (hrow:O.e.row y = O.e.row x) :
  RI O n own' G' m r cb s' (L.set i y):=by
 have hi:=h.lt hx
 have hn:=h.n9
 refine ⟨p1,p2,p3,(a _ h.lc).trans h.tc,Nat.lt_of_lt_of_le h.lc q.nx,?_,by simpa using h.len,hn,fun j z hz=>?_⟩
 ·rw [q.same h.lc (by rw [h.tc]; simp; omega),h.oc]
  congr 2
  have hl:i < L.length:=by rw [h.len]; exact hi
  rw [List.getElem?_eq_getElem hl] at hx
  have hx':=Option.some.inj hx
  rw [← O.e.flat_over L hl,hrow,← hx',O.e.flat_over L hl,List.set_getElem_self]
 ·rw [List.getElem?_set] at hz
  split at hz
  ·rename_i hji
   subst hji
   rw [if_pos (by rw [h.len]; exact hi)] at hz
   cases hz
   exact hy
  ·rename_i hji
   exact O.to (h.core j z hz) q.nx (fun g hg hj=>q.same hg (by have:=h.lt hz; rw [hj]; simp; omega)) a
theorem RI.words (orc:FuncId → Bool) (h:RI O n own G m r cb s L):∃ v G',(E orc).cl 30 [P0 m] G = some (v,G') ∧ Ext G G' ∧ OwR (rowsI .u64) G.nx G' v s.W:=by
 obtain ⟨bb,rest,hm⟩:=h.pm; exact words_ok orc hm
theorem RI.rwords (orc:FuncId → Bool) (h:RI O n own G m r cb s L):∃ v G',(E orc).cl 31 [P0 r] G = some (v,G') ∧ Ext G G' ∧ OwR (rowsI .u64) G.nx G' v s.W:=rwords_ok orc h.rm
theorem RI.last (orc:FuncId → Bool) (h:RI O n own G m r cb s L):∃ G',(E orc).cl 25 [P0 m] G = some (.agg ⟨accV s⟩,G') ∧ Ext G G':=by
 obtain ⟨bb,rest,hm⟩:=h.pm; exact last_ok orc hm
theorem RI.rlast (orc:FuncId → Bool) (h:RI O n own G m r cb s L):∃ G',(E orc).cl 26 [P0 r] G = some (.agg ⟨accV s⟩,G') ∧ Ext G G':=by
 obtain ⟨wb,hm⟩:=h.rm; exact rlast_ok orc hm
theorem RI.count (orc:FuncId → Bool) (h:RI O n own G m r cb s L):(E orc).cl 27 [P0 m] G = some (.int .i64 s.many,G):=by
 obtain ⟨bb,rest,hm⟩:=h.pm; exact count_ok orc hm
theorem RI.rcount (orc:FuncId → Bool) (h:RI O n own G m r cb s L):(E orc).cl 28 [P0 r] G = some (.int .i64 s.many,G):=by
 obtain ⟨wb,hm⟩:=h.rm; exact rcount_ok orc hm
theorem new2 {G2:GS} {k:Nat} {s0:MS} (hm:PMx (fun x=>G.nx ≤ x ∧ x < G1.nx) G1 m s0) (hr:RMx (fun x=>G1.nx ≤ x ∧ x < G2.nx) G2 r s0) (hx:G.nx ≤ G1.nx) (x2:Ext G1 G2) :
  PM (fun x=>if x < k then 20 else if x < G.nx then 13 else if x < G1.nx then 10 else 11) G2 m s0 ∨ ¬ k ≤ G.nx:=by
 by_cases hk:k ≤ G.nx
 ·refine .inl ((sepP m s0).mono (hm.ext x2) (fun x hx=>⟨Nat.lt_of_lt_of_le hx.2 x2.nx,?_⟩) Tag.under)
  simp only
  rw [if_neg (by omega),if_neg (by omega),if_pos (by omega)]
 ·exact .inr hk
theorem new2' {G2:GS} {k:Nat} {s0:MS} (hr:RMx (fun x=>G1.nx ≤ x ∧ x < G2.nx) G2 r s0) (hx:G.nx ≤ G1.nx) (hk:k ≤ G.nx) :
  RM (fun x=>if x < k then 20 else if x < G.nx then 13 else if x < G1.nx then 10 else 11) G2 r s0:=by
 refine (sepR r s0).mono hr (fun x hx=>⟨hx.2,?_⟩) Tag.under
 simp only
 rw [if_neg (by omega),if_neg (by omega),if_neg (by omega)]
end
end Go.Proofs.YtaanpcoglijohaaGreat.Lift
set_option linter.unusedVariables false
set_option linter.unusedSimpArgs false
set_option maxRecDepth 20000
namespace Go.Proofs.YtaanpcoglijohaaGreat.Lift
open Go Go.Proofs.YtaanpcoglijohaaGreat.Gh Go.Proofs
def lnkV (R:Sk) (i:Nat):Int:=if (i:Int) + 1 = R.size then 0 else i + 2
def lnkN (R:Sk):Nat → Nat → MS → MS
 | 0,_,s=>s
 | k + 1,i,s=>lnkN R k (i + 1) (s.store (R.links + i) (lnkV R i))
theorem lnkN_last (R:Sk):∀ (k i:Nat) (s:MS),lnkN R (k + 1) i s = (lnkN R k i s).store (R.links + (i + k:Nat)) (lnkV R (i + k))
 | 0,i,s=>rfl
 | k + 1,i,s=>by
  have:=lnkN_last R k (i + 1) (s.store (R.links + i) (lnkV R i))
  rw [lnkN,this]
  rw [show i + 1 + k = i + (k + 1) by omega]; rfl
def fillS (R:Sk) (s:MS):MS:=lnkN R R.size.toNat 0 (s.store R.top 1)
def genN (A:Ar):Nat → Nat → MS → MS
 | 0,_,s=>s
 | k + 1,i,s=>genN A k (i + 1) (s.store (A.gens + i) 1)
def fillA (A:Ar) (s:MS):MS:=genN A A.size.toNat 0 ((Lift.fillS A.R s).store A.worn 0)
theorem lnkN_ok (R:Sk) (hR:R.ok):∀ (k i:Nat) (s:MS),(i + k:Nat) ≤ R.size → s.ok → (lnkN R k i s).ok
 | 0,_,s,_,h=>h
 | k + 1,i,s,hi,h=>lnkN_ok R hR k (i + 1) _ (by omega) (h.store _ (by have:=hR.2.1; unfold lnkV U; split <;> omega))
theorem genN_ok (A:Ar):∀ (k i:Nat) (s:MS),s.ok → (genN A k i s).ok
 | 0,_,s,h=>h
 | k + 1,i,s,h=>genN_ok A k (i + 1) _ (h.store _ ⟨by decide,by decide⟩)
theorem fillA_ok {A:Ar} (hA:A.ok) {s:MS} (h:s.ok):(fillA A s).ok:=by
 have h1:=hA.1.1
 simp only at h1
 exact genN_ok A _ _ _ ((lnkN_ok A.R hA.1 _ _ _ (by simp only; omega) (h.store _ ⟨by decide,by decide⟩)).store _ ⟨by decide,by decide⟩)
section
variable {m r rb:Nat} {own own0:Nat → Nat} {G G0:GS} {s:MS} {R:Sk} {A:Ar}
theorem sfill_lp (orc:FuncId → Bool) (ht:orc 241 = false) (hR:R.ok) (hrb:rb < G0.nx) (trb:own0 rb ≠ 10) (orb:G0.obj rb = some ⟨[.int .i64 R.top,.int .i64 R.links,.int .i64 R.size],1,false,1⟩) {n:Nat} (hn:R.size = n) :
  ∀ (k i:Nat) (τ:Env) (own:Nat → Nat) (G:GS) (s:MS),i + k = n → PW no own0 G0 own G m s → τ 1 = P0 m → τ 2 = P0 rb → τ 15 = .int .i64 n → τ 16 = .int .i64 i →
  Wp ((exL Q orc).lpx 223 0 τ G) fun q=>q.1 = .exit 0 ∧ ∃ own',PW no own0 G0 own' q.2.2 m (lnkN R k i s):=by
 intro k
 induction k with
 | zero =>
  intro i τ own G s hi w t1 t2 t15 t16
  have hi':i = n:=by omega
  subst hi'
  refine Wp.lp (l223_0 (exL_ok Q orc)) ?_
  simp [b223_0,bb223_0,clip_t,t1,t2,t15,t16,lnkN]
  exact ⟨own,w⟩
 | succ k ih =>
  intro i τ own G s hi w t1 t2 t15 t16
  have hR1:=hR.1; have hR2:=hR.2.1; have hR5:=hR.2.2.2.2.1; have hR6:=hR.2.2.2.2.2
  have o:=(w.keep hrb trb id).trans orb
  have hlt:i < n:=by omega
  have hw:IntKind.wrap .i64 ((i:Int) + 1) = ((i + 1:Nat):Int):=wrap64 (by omega) (by omega)
  have ha:IntKind.wrap .i64 (R.links + i) = R.links + i:=wrap64 (by omega) (by omega)
  refine Wp.lp (l223_0 (exL_ok Q orc)) ?_
  have w0:=w.ext ((Ext.refl G).room 8)
  have o0:(G.room 8).obj rb = some ⟨[.int .i64 R.top,.int .i64 R.links,.int .i64 R.size],1,false,1⟩:=o
  by_cases hl:(i:Int) + 1 = R.size
  ·have hl':((i + 1:Nat):Int) = R.size:=by omega
   have hv:lnkV R i = 0:=by unfold lnkV; rw [if_pos hl]
   obtain ⟨G1,e1,x1⟩:=link_ok orc ht (i:=-1) (by decide) (G.room 8)
   have w1:=w0.ext x1
   have o1:=(x1.obj rb (Nat.lt_of_lt_of_le hrb w0.nx)).trans o0
   obtain ⟨own2,G2,e2,w2⟩:=w1.pm.store orc (R.links + i) 0
   simp [-Int.natCast_add,b223_0,bb223_0,jl223_0_0,jbl223_0_0,clip_t,t1,t2,t15,t16,hlt,hw,o,hl',ha,e1,o1,e2]
   refine (ih (i + 1) _ _ G2 _ (by omega) (w1.trans w2 fun _ _ h=>h) (by simp [clip_t]) (by simp [clip_t]) (by simp [clip_t]) (by simp [clip_t]; omega)).mono ?_
   rintro q ⟨q1,own',q2⟩
   exact ⟨q1,own',by simpa [lnkN,hv] using q2⟩
  ·have hl':¬ ((i + 1:Nat):Int) = R.size:=by omega
   have hv:lnkV R i = i + 2:=by unfold lnkV; rw [if_neg hl]
   obtain ⟨G1,e1,x1⟩:=link_ok orc ht (i:=((i + 1:Nat):Int)) (by omega) (G.room 8)
   have w1:=w0.ext x1
   have o1:=(x1.obj rb (Nat.lt_of_lt_of_le hrb w0.nx)).trans o0
   have hv2:((i + 1:Nat):Int) + 1 = i + 2:=by omega
   rw [hv2] at e1
   obtain ⟨own2,G2,e2,w2⟩:=w1.pm.store orc (R.links + i) (i + 2)
   simp [-Int.natCast_add,b223_0,bb223_0,jl223_0_0,jbl223_0_0,clip_t,t1,t2,t15,t16,hlt,hw,o,hl',ha,e1,o1,e2]
   refine (ih (i + 1) _ _ G2 _ (by omega) (w1.trans w2 fun _ _ h=>h) (by simp [clip_t]) (by simp [clip_t]) (by simp [clip_t]) (by simp [clip_t])).mono ?_
   rintro q ⟨q1,own',q2⟩
   exact ⟨q1,own',by simpa [lnkN,hv] using q2⟩
theorem sfill_ok (orc:FuncId → Bool) (ht:orc 241 = false) (hR:R.ok) (h:PM own G m s):∃ own' G',(E orc).cl 223 [R.v,P0 m] G = some (.tuple #[],G') ∧ PW no own G own' G' m (Lift.fillS R s):=by
 obtain ⟨n,hn⟩:∃ n:Nat,R.size = n:=⟨R.size.toNat,by have:=hR.1; omega⟩
 have w:Wp (s223 true (exL Q orc) R.v (P0 m) G) fun q=>q.1 = .tuple #[] ∧ ∃ own',PW no own G own' q.2 m (Lift.fillS R s):=by
  obtain ⟨G1,hG1⟩:∃ G1,G1 = G.push ⟨[.int .i64 R.top,.int .i64 R.links,.int .i64 R.size],1,false,1⟩:=⟨_,rfl⟩
  have x1:Ext G G1:=by rw [hG1]; exact (Ext.refl G).push _
  have o1:G1.obj G.nx = some ⟨[.int .i64 R.top,.int .i64 R.links,.int .i64 R.size],1,false,1⟩:=by rw [hG1]; simp
  have n1:G1.nx = G.nx + 1:=by rw [hG1]; rfl
  have e2:=ssized_ok orc R G1
  have hz:R.sized:=⟨hR.1,hR.2.1⟩
  simp only [hz,decide_true] at e2
  obtain ⟨G2,hG2⟩:∃ G2,G2 = G1.push ⟨[.int .i64 R.top,.int .i64 R.links,.int .i64 R.size],1,false,1⟩:=⟨_,rfl⟩
  rw [← hG2] at e2
  have x2:Ext G1 G2:=by rw [hG2]; exact (Ext.refl _).push _
  have o2:=(x2.obj _ (by omega)).trans o1
  obtain ⟨G3,e3,x3⟩:=link_ok orc ht (i:=0) (by decide) (G2.room 5)
  have y3:=(x1.trans x2).trans (((Ext.refl G2).room 5).trans x3)
  have o3:=((((Ext.refl G2).room 5).trans x3).obj _ (by have:=x2.nx; omega)).trans o2
  have w3:=(PW.refl (B:=no) h).ext y3
  obtain ⟨own4,G4,e4,w4⟩:=w3.pm.store orc R.top (0 + 1)
  have t0:grown own G 13 G.nx = 13:=grown_new (Nat.le_refl _)
  have n3:G.nx < G3.nx:=by have:=x2.nx; have:=x3.nx; simp at this; omega
  have o4:=(w4.keep n3 (by rw [t0]; decide) id).trans o3
  have w34:=w3.trans w4 fun _ _ h=>h
  simp only [Int.zero_add] at e3 e4 w4 w34
  simp [s223,← hG1,o1,e2,o2,e3,o3,e4,o4]
  refine Wp.bE ((sfill_lp orc ht hR (rb:=G.nx) (G0:=G3) (own0:=grown own G 13) n3 (by rw [t0]; decide) o3 hn n 0 _ own4 G4 (s.store R.top 1) (by omega) w4 (by simp) (by simp) (by simp [hn]) (by simp)).mono ?_)
  rintro ⟨e,τ,G5⟩ ⟨rfl,own5,q⟩
  simp only at q
  simp
  refine ⟨own5,w3.trans ?_ fun _ _ h=>h⟩
  simpa [Lift.fillS,hn] using q
 obtain ⟨⟨v,G'⟩,e1,rfl,own',hh⟩:=w
 exact ⟨own',G',f223 (exL_ok Q orc) _ _ G _ e1,hh⟩
theorem afill_lp (orc:FuncId → Bool) (hA:A.ok) (hrb:rb < G0.nx) (trb:own0 rb ≠ 10) (orb:G0.obj rb = some ⟨A.cells,1,false,1⟩) {n:Nat} (hn:A.size = n) :
  ∀ (k i:Nat) (τ:Env) (own:Nat → Nat) (G:GS) (s:MS),i + k = n → PW no own0 G0 own G m s → τ 1 = P0 m → τ 2 = P0 rb → τ 18 = .int .i64 n → τ 19 = .int .i64 i →
  Wp ((exL Q orc).lpx 182 0 τ G) fun q=>q.1 = .exit 0 ∧ ∃ own',PW no own0 G0 own' q.2.2 m (genN A k i s):=by
 intro k
 induction k with
 | zero =>
  intro i τ own G s hi w t1 t2 t15 t16
  have hi':i = n:=by omega
  subst hi'
  refine Wp.lp (l182_0 (exL_ok Q orc)) ?_
  simp [b182_0,clip_t,t1,t2,t15,t16,genN]
  exact ⟨own,w⟩
 | succ k ih =>
  intro i τ own G s hi w t1 t2 t15 t16
  have h1:=hA.2.1; have h2:=hA.2.2.1; have h3:=hA.1.2.1
  simp only at h3
  have o:=(w.keep hrb trb id).trans orb
  have hlt:i < n:=by omega
  have hw:IntKind.wrap .i64 ((i:Int) + 1) = ((i + 1:Nat):Int):=wrap64 (by omega) (by omega)
  have ha:IntKind.wrap .i64 (A.gens + i) = A.gens + i:=wrap64 (by omega) (by omega)
  refine Wp.lp (l182_0 (exL_ok Q orc)) ?_
  obtain ⟨own2,G2,e2,w2⟩:=w.pm.store orc (A.gens + i) 1
  simp [-Int.natCast_add,b182_0,clip_t,t1,t2,t15,t16,hlt,hw,o,ha,e2]
  refine (ih (i + 1) _ _ G2 _ (by omega) (w.trans w2 fun _ _ h=>h) (by simp [clip_t]) (by simp [clip_t]) (by simp [clip_t]) (by simp [clip_t])).mono ?_
  rintro q ⟨q1,own',q2⟩
  exact ⟨q1,own',by simpa [genN] using q2⟩
theorem afill_ok (orc:FuncId → Bool) (ht:orc 241 = false) (hA:A.ok) (h:PM own G m s):∃ own' G',(E orc).cl 182 [A.v,P0 m] G = some (.tuple #[],G') ∧ PW no own G own' G' m (fillA A s):=by
 obtain ⟨n,hn⟩:∃ n:Nat,A.size = n:=⟨A.size.toNat,by have:=hA.1.1; simp only at this; omega⟩
 have w:Wp (s182 true (exL Q orc) A.v (P0 m) G) fun q=>q.1 = .tuple #[] ∧ ∃ own',PW no own G own' q.2 m (fillA A s):=by
  obtain ⟨G1,hG1⟩:∃ G1,G1 = G.push ⟨A.cells,1,false,1⟩:=⟨_,rfl⟩
  have x1:Ext G G1:=by rw [hG1]; exact (Ext.refl G).push _
  have o1:G1.obj G.nx = some ⟨A.cells,1,false,1⟩:=by rw [hG1]; simp
  have n1:G1.nx = G.nx + 1:=by rw [hG1]; rfl
  have e2:∃ G2,(E orc).cl 222 [A.v] G1 = some (.bool true,G2) ∧ Ext G1 G2:=by
   have z1:=hA.1.1; have z2:=hA.1.2.1
   simp only at z1 z2
   exact ⟨G1.push ⟨A.cells,1,false,1⟩,f222 (exL_ok Q orc) _ G1 _ (by simp [s222,z1,z2]),(Ext.refl _).push _⟩
  obtain ⟨G2,e2,x2⟩:=e2
  have o2:=(x2.obj _ (by omega)).trans o1
  have n2:=x2.nx
  have w2:=(PW.refl (B:=no) h).ext (x1.trans x2)
  obtain ⟨own3,G3,e3,w3⟩:=sfill_ok orc ht (R:=A.R) hA.1 w2.pm
  have t0:grown own G 13 G.nx = 13:=grown_new (Nat.le_refl _)
  have o3:=(w3.keep (show G.nx < G2.nx by omega) (by rw [t0]; decide) id).trans o2
  have t3:own3 G.nx = 13:=(w3.stp.same (by omega)).trans t0
  obtain ⟨own4,G4,e4,w4⟩:=w3.pm.store orc A.worn 0
  have n3:=w3.nx
  have o4:=(w4.keep (show G.nx < G3.nx by omega) (by rw [t3]; decide) id).trans o3
  simp [s182,← hG1,o1,e2,o2,e3,o3,e4,o4]
  refine Wp.bE ((afill_lp orc hA (rb:=G.nx) (G0:=G3) (own0:=own3) (by omega) (by rw [t3]; decide) o3 hn n 0 _ own4 G4 _ (by omega) w4 (by simp) (by simp) (by simp [hn]) (by simp)).mono ?_)
  rintro ⟨e,τ,G5⟩ ⟨rfl,own5,q⟩
  simp only at q
  simp
  refine ⟨own5,(w2.trans w3 fun _ _ h=>h).trans ?_ fun _ _ h=>h⟩
  simpa [fillA,hn] using q
 obtain ⟨⟨v,G'⟩,e1,rfl,own',hh⟩:=w
 exact ⟨own',G',f182 (exL_ok Q orc) _ _ G _ e1,hh⟩
end
section
variable {m r rb:Nat} {own own0:Nat → Nat} {G G0:GS} {s:MS} {R:Sk} {A:Ar}
theorem rsfill_lp (orc:FuncId → Bool) (hR:R.ok) (hrb:rb < G0.nx) (trb:own0 rb ≠ 11) (orb:G0.obj rb = some ⟨[.int .i64 R.top,.int .i64 R.links,.int .i64 R.size],1,false,1⟩) {n:Nat} (hn:R.size = n + 1) :
  ∀ (k i:Nat) (τ:Env) (own:Nat → Nat) (G:GS) (s:MS),i + k = n → RW no own0 G0 own G r s → τ 1 = P0 r → τ 2 = P0 rb → τ 4 = .int .i64 i →
  Wp ((exL Q orc).lpx 226 0 τ G) fun q=>q.1 = .exit 0 ∧ q.2.1 1 = P0 r ∧ q.2.1 2 = P0 rb ∧ ∃ own',RW no own0 G0 own' q.2.2 r (lnkN R k i s):=by
 intro k
 induction k with
 | zero =>
  intro i τ own G s hi w t1 t2 t4
  have hR1:=hR.1; have hR2:=hR.2.1
  have hi':(i:Int) = R.size - 1:=by omega
  have o:=(w.keep hrb trb id).trans orb
  have hs:IntKind.wrap .i64 (R.size - 1) = R.size - 1:=wrap64 (by omega) (by omega)
  refine Wp.lp (l226_0 (exL_ok Q orc)) ?_
  simp [b226_0,clip_t,t1,t2,t4,o,hs,hi',lnkN]
  exact ⟨own,w⟩
 | succ k ih =>
  intro i τ own G s hi w t1 t2 t4
  have hR1:=hR.1; have hR2:=hR.2.1; have hR5:=hR.2.2.2.2.1; have hR6:=hR.2.2.2.2.2
  have o:=(w.keep hrb trb id).trans orb
  have hlt:(i:Int) < R.size - 1:=by omega
  have hs:IntKind.wrap .i64 (R.size - 1) = R.size - 1:=wrap64 (by omega) (by omega)
  have hw:IntKind.wrap .i64 ((i:Int) + 1) = ((i + 1:Nat):Int):=wrap64 (by omega) (by omega)
  have ha:IntKind.wrap .i64 (R.links + i) = R.links + i:=wrap64 (by omega) (by omega)
  have hb:IntKind.wrap .i64 ((i:Int) + 2) = i + 2:=wrap64 (by omega) (by omega)
  have hb2:IntKind.wrap .u64 ((i:Int) + 2) = i + 2:=by rw [wrap_u64]; omega
  have hv:lnkV R i = i + 2:=by unfold lnkV; rw [if_neg (by omega)]
  obtain ⟨own2,G2,e2,w2⟩:=w.rm.store orc (R.links + i) (i + 2)
  refine Wp.lp (l226_0 (exL_ok Q orc)) ?_
  simp [-Int.natCast_add,b226_0,clip_t,t1,t2,t4,o,hs,hlt,hw,ha,hb,hb2,e2]
  refine (ih (i + 1) _ _ G2 _ (by omega) (w.trans w2 fun _ _ h=>h) (by simp [clip_t]) (by simp [clip_t]) (by simp [clip_t])).mono ?_
  rintro q ⟨q1,q2,q3,own',q4⟩
  exact ⟨q1,q2,q3,own',by simpa [lnkN,hv] using q4⟩
theorem rsfill_ok (orc:FuncId → Bool) (hR:R.ok) (h:RM own G r s):∃ own' G',(E orc).cl 226 [R.v,P0 r] G = some (.tuple #[],G') ∧ RW no own G own' G' r (Lift.fillS R s):=by
 have hR1:=hR.1; have hR2:=hR.2.1; have hR5:=hR.2.2.2.2.1; have hR6:=hR.2.2.2.2.2
 obtain ⟨n,hn⟩:∃ n:Nat,R.size = n + 1:=⟨(R.size - 1).toNat,by omega⟩
 have w:Wp (s226 true (exL Q orc) R.v (P0 r) G) fun q=>q.1 = .tuple #[] ∧ ∃ own',RW no own G own' q.2 r (Lift.fillS R s):=by
  obtain ⟨G1,hG1⟩:∃ G1,G1 = G.push ⟨[.int .i64 R.top,.int .i64 R.links,.int .i64 R.size],1,false,1⟩:=⟨_,rfl⟩
  have x1:Ext G G1:=by rw [hG1]; exact (Ext.refl G).push _
  have o1:G1.obj G.nx = some ⟨[.int .i64 R.top,.int .i64 R.links,.int .i64 R.size],1,false,1⟩:=by rw [hG1]; simp
  have n1:G1.nx = G.nx + 1:=by rw [hG1]; rfl
  have z1:¬ R.size < 1:=by omega
  have z2:¬ 4096 < R.size:=by omega
  have w1:=(RW.refl (B:=no) h).ext x1
  obtain ⟨own4,G4,e4,w4⟩:=w1.rm.store orc R.top 1
  have t0:grown own G 13 G.nx = 13:=grown_new (Nat.le_refl _)
  have a1:IntKind.wrap .i64 (R.links + R.size) = R.links + R.size:=wrap64 (by omega) (by omega)
  have a2:IntKind.wrap .i64 (R.links + R.size - 1) = R.links + R.size - 1:=wrap64 (by omega) (by omega)
  simp [s226,← hG1,o1,z1,z2,e4]
  refine Wp.bE ((rsfill_lp orc hR (rb:=G.nx) (G0:=G1) (own0:=grown own G 13) (by omega) (by rw [t0]; decide) o1 hn n 0 _ own4 G4 (s.store R.top 1) (by omega) w4 (by simp) (by simp) (by simp)).mono ?_)
  rintro ⟨e,τ,G5⟩ ⟨rfl,q1,q2,own5,q⟩
  simp only at q q1 q2
  have o5:=(q.keep (show G.nx < G1.nx by omega) (by rw [t0]; decide) id).trans o1
  obtain ⟨own6,G6,e6,w6⟩:=q.rm.store orc (R.links + R.size - 1) 0
  simp [q1,q2,o5,a1,a2,e6]
  refine ⟨own6,w1.trans (q.trans (B':=no) ?_ fun _ _ h=>h) fun _ _ h=>h⟩
  have hsz:R.size.toNat = n + 1:=by omega
  have hval:lnkV R (0 + n) = 0:=by unfold lnkV; rw [if_pos (by omega)]
  have hadr:R.links + ((0 + n:Nat):Int) = R.links + R.size - 1:=by omega
  have:Lift.fillS R s = (lnkN R n 0 (s.store R.top 1)).store (R.links + R.size - 1) 0:=by
   unfold Lift.fillS
   rw [hsz,lnkN_last,hval,hadr]
  rw [this]
  exact w6
 obtain ⟨⟨v,G'⟩,e1,rfl,own',hh⟩:=w
 exact ⟨own',G',f226 (exL_ok Q orc) _ _ G _ e1,hh⟩
theorem rafill_lp (orc:FuncId → Bool) (hA:A.ok) (hrb:rb < G0.nx) (trb:own0 rb ≠ 11) (orb:G0.obj rb = some ⟨A.cells,1,false,1⟩) {n:Nat} (hn:A.size = n) :
  ∀ (k i:Nat) (τ:Env) (own:Nat → Nat) (G:GS) (s:MS),i + k = n → RW no own0 G0 own G r s → τ 1 = P0 r → τ 2 = P0 rb → τ 4 = .int .i64 i →
  Wp ((exL Q orc).lpx 185 0 τ G) fun q=>q.1 = .exit 0 ∧ ∃ own',RW no own0 G0 own' q.2.2 r (genN A k i s):=by
 intro k
 induction k with
 | zero =>
  intro i τ own G s hi w t1 t2 t4
  have hi':(i:Int) = A.size:=by omega
  have o:=(w.keep hrb trb id).trans orb
  refine Wp.lp (l185_0 (exL_ok Q orc)) ?_
  simp [b185_0,clip_t,t1,t2,t4,o,hi',genN]
  exact ⟨own,w⟩
 | succ k ih =>
  intro i τ own G s hi w t1 t2 t4
  have h1:=hA.2.1; have h2:=hA.2.2.1; have h3:=hA.1.2.1
  simp only at h3
  have o:=(w.keep hrb trb id).trans orb
  have hlt:(i:Int) < A.size:=by omega
  have hw:IntKind.wrap .i64 ((i:Int) + 1) = ((i + 1:Nat):Int):=wrap64 (by omega) (by omega)
  have ha:IntKind.wrap .i64 (A.gens + i) = A.gens + i:=wrap64 (by omega) (by omega)
  obtain ⟨own2,G2,e2,w2⟩:=w.rm.store orc (A.gens + i) 1
  refine Wp.lp (l185_0 (exL_ok Q orc)) ?_
  simp [-Int.natCast_add,b185_0,clip_t,t1,t2,t4,o,hlt,hw,ha,e2]
  refine (ih (i + 1) _ _ G2 _ (by omega) (w.trans w2 fun _ _ h=>h) (by simp [clip_t]) (by simp [clip_t]) (by simp [clip_t])).mono ?_
  rintro q ⟨q1,own',q2⟩
  exact ⟨q1,own',by simpa [genN] using q2⟩
theorem rafill_ok (orc:FuncId → Bool) (hA:A.ok) (h:RM own G r s):∃ own' G',(E orc).cl 185 [A.v,P0 r] G = some (.tuple #[],G') ∧ RW no own G own' G' r (fillA A s):=by
 have z1':=hA.1.1; have z2':=hA.1.2.1
 simp only at z1' z2'
 obtain ⟨n,hn⟩:∃ n:Nat,A.size = n:=⟨A.size.toNat,by omega⟩
 have w:Wp (s185 true (exL Q orc) A.v (P0 r) G) fun q=>q.1 = .tuple #[] ∧ ∃ own',RW no own G own' q.2 r (fillA A s):=by
  obtain ⟨G1,hG1⟩:∃ G1,G1 = G.push ⟨A.cells,1,false,1⟩:=⟨_,rfl⟩
  have x1:Ext G G1:=by rw [hG1]; exact (Ext.refl G).push _
  have o1:G1.obj G.nx = some ⟨A.cells,1,false,1⟩:=by rw [hG1]; simp
  have n1:G1.nx = G.nx + 1:=by rw [hG1]; rfl
  have z1:¬ A.size < 1:=by omega
  have z2:¬ 4096 < A.size:=by omega
  have w2:=(RW.refl (B:=no) h).ext x1
  obtain ⟨own3,G3,e3,w3⟩:=rsfill_ok orc (R:=A.R) hA.1 w2.rm
  have t0:grown own G 13 G.nx = 13:=grown_new (Nat.le_refl _)
  have o3:=(w3.keep (show G.nx < G1.nx by omega) (by rw [t0]; decide) id).trans o1
  have t3:own3 G.nx = 13:=(w3.stp.same (by omega)).trans t0
  obtain ⟨own4,G4,e4,w4⟩:=w3.rm.store orc A.worn 0
  have n3:=w3.nx
  simp [s185,← hG1,o1,z1,z2,e3,o3,e4]
  refine Wp.bE ((rafill_lp orc hA (rb:=G.nx) (G0:=G3) (own0:=own3) (by omega) (by rw [t3]; decide) o3 hn n 0 _ own4 G4 _ (by omega) w4 (by simp) (by simp) (by simp)).mono ?_)
  rintro ⟨e,τ,G5⟩ ⟨rfl,own5,q⟩
  simp only at q
  simp
  refine ⟨own5,(w2.trans w3 fun _ _ h=>h).trans ?_ fun _ _ h=>h⟩
  simpa [fillA,hn] using q
 obtain ⟨⟨v,G'⟩,e1,rfl,own',hh⟩:=w
 exact ⟨own',G',f185 (exL_ok Q orc) _ _ G _ e1,hh⟩
end
end Go.Proofs.YtaanpcoglijohaaGreat.Lift
