import Derived.Test.YtaanpcoglijohaaGreatCA
import Derived.Test.YtaanpcoglijohaaGreatGhPR
import Derived.Test.YtaanpcoglijohaaGreatGhPC
import Derived.Test.YtaanpcoglijohaaGreatGhPD
import Derived.Test.YtaanpcoglijohaaGreatGhLS
import Derived.Test.YtaanpcoglijohaaGreatGhEQ
import Derived.Test.YtaanpcoglijohaaGreatCC
set_option linter.unusedVariables false
set_option linter.unusedSimpArgs false
set_option maxRecDepth 20000
namespace Go.Proofs.YtaanpcoglijohaaGreat.Lift
open Go Go.Proofs.YtaanpcoglijohaaGreat.Gh Go.Proofs
theorem w0:IntKind.wrap .i64 0 = 0:=by decide
theorem w4:IntKind.wrap .i64 4 = 4:=by decide
structure TW where
 nodes:Int
 heads:Int
 height:Int
 top:Int
 links:Int
 size:Int
 u6:Int
 u7:Int
 u8:Int
 u9:Int
 u10:Int
 u11:Int
 u12:Int
abbrev TW.cells (t:TW):List Value:=[.int .i64 t.nodes,.int .i64 t.heads,.int .i64 t.height,.int .i64 t.top,.int .i64 t.links,.int .i64 t.size,.int .i64 t.u6,.int .i64 t.u7,.int .i64 t.u8,.int .i64 t.u9,.int .i64 t.u10,.int .i64 t.u11,.int .i64 t.u12]
abbrev TW.v (t:TW):Value:=.agg ⟨t.cells⟩
def TW.sound (t:TW):Prop:=1 ≤ t.height ∧ t.height ≤ 4 ∧ 1 ≤ t.size ∧ t.size ≤ 128 ∧ 0 ≤ t.nodes ∧ t.nodes < 4096 ∧ 0 ≤ t.heads ∧ t.heads < 4096
instance (t:TW):Decidable t.sound:=by unfold TW.sound; exact inferInstance
theorem sound_ok (orc:FuncId → Bool) (t:TW) (G:GS):∃ G',(E orc).cl 139 [t.v] G = some (.bool (decide t.sound),G') ∧ Ext G G':=by
 refine ⟨G.push ⟨t.cells,1,false,1⟩,f139 (exL_ok Q orc) _ G _ ?_,(Ext.refl G).push _⟩
 unfold TW.sound
 by_cases h1:1 ≤ t.height
 ·by_cases h2:t.height ≤ 4
  ·by_cases h3:1 ≤ t.size
   ·by_cases h4:t.size ≤ 128
    ·by_cases h5:0 ≤ t.nodes
     ·by_cases h6:t.nodes < 4096
      ·by_cases h7:0 ≤ t.heads
       ·by_cases h8:t.heads < 4096 <;> simp [s139,h1,h2,h3,h4,h5,h6,h7,h8]
       ·simp [s139,h1,h2,h3,h4,h5,h6,h7]
      ·simp [s139,h1,h2,h3,h4,h5,h6]
     ·simp [s139,h1,h2,h3,h4,h5]
    ·simp [s139,h1,h2,h3,h4]
   ·simp [s139,h1,h2,h3]
  ·simp [s139,h1,h2]
 ·simp [s139,h1]
theorem rsound_ok (orc:FuncId → Bool) (t:TW) (G:GS):∃ G',(E orc).cl 73 [t.v] G = some (.bool (decide t.sound),G') ∧ Ext G G':=by
 refine ⟨G.push ⟨t.cells,1,false,1⟩,f73 (exL_ok Q orc) _ G _ ?_,(Ext.refl G).push _⟩
 unfold TW.sound
 by_cases h1:1 ≤ t.height
 ·by_cases h2:t.height ≤ 4
  ·by_cases h3:1 ≤ t.size
   ·by_cases h4:t.size ≤ 128
    ·by_cases h5:0 ≤ t.nodes
     ·by_cases h6:t.nodes < 4096
      ·by_cases h7:0 ≤ t.heads
       ·by_cases h8:t.heads < 4096 <;> simp [s73,h1,h2,h3,h4,h5,h6,h7,h8]
       ·simp [s73,h1,h2,h3,h4,h5,h6,h7]
      ·simp [s73,h1,h2,h3,h4,h5,h6]
     ·simp [s73,h1,h2,h3,h4,h5]
    ·simp [s73,h1,h2,h3,h4]
   ·simp [s73,h1,h2,h3]
  ·simp [s73,h1,h2]
 ·simp [s73,h1]
theorem inv_head (orc : FuncId → Bool) (h : Int) (G : GS) : cInvoke Q (evL Q orc) (.iface 295 (.int .i64 h)) "coxswain/tower.cells" [] G = some (.int .i64 h, G) := by
 have e : cInvoke Q (evL Q orc) (.iface 295 (.int .i64 h)) "coxswain/tower.cells" [] G = (E orc).cl 297 [.int .i64 h] G := by kernel_rfl
 rw [e]
 exact f297 (exL_ok Q orc) _ G _ (by simp [s297])
theorem heads_ok (orc:FuncId → Bool) (t:TW) (G:GS):∃ G',(E orc).cl 229 [t.v] G = some (.agg ⟨[.int .i64 t.heads,.int .i64 1,.int .i64 t.height]⟩,G') ∧ Ext G G':=by
 refine ⟨((G.push ⟨t.cells,1,false,1⟩).push ⟨[.int .i64 0,.int .i64 0,.int .i64 0],1,false,1⟩).put (G.nx + 1) ⟨[.int .i64 t.heads,.int .i64 1,.int .i64 t.height],1,false,1⟩,f229 (exL_ok Q orc) _ G _ ?_,(((Ext.refl G).push _).push _).put (by omega) _⟩
 simp [s229,splice_put,splice_end]
end Go.Proofs.YtaanpcoglijohaaGreat.Lift
set_option linter.unusedVariables false
set_option linter.unusedSimpArgs false
set_option maxRecDepth 20000
namespace Go.Proofs.YtaanpcoglijohaaGreat.Lift
open Go Go.Proofs.YtaanpcoglijohaaGreat.Gh Go.Proofs
def atI (t:TW) (i part:Int):Int :=
 if t.sound then
  if i = -1 then if 4 ≤ part ∧ part < 4 + t.height then t.heads + (part - 4) else -1
  else if 0 ≤ i ∧ i < t.size ∧ 0 ≤ part ∧ part < 4 + t.height then t.nodes + i * (4 + t.height) + part else -1
 else -1
def nextI (t:TW) (i l:Int):Int:=if 0 ≤ l ∧ l < 4 then atI t i (4 + l) else -1
structure Spot where
 pred:Int
 known:Int
 cur:Int
structure FindS where
 key:Int
 line:Int
 l:Int
 at_:Spot
 w:Int
 told:List Spot
 by_:Int
def mkB:Int:=9223372036854775808
def FindS.anew (t:TW) (x:FindS):FindS:={ x with line:=1,l:=t.height - 1,at_:=⟨-1,0,0⟩ }
def FindS.tell (x:FindS):FindS :=
 if x.l < 1 then { x with told:=x.told.set x.l.toNat x.at_,line:=9 }
 else { x with told:=x.told.set x.l.toNat x.at_,line:=1,l:=x.l - 1,at_:={ x.at_ with cur:=0 } }
def FindS.looks (t:TW) (x:FindS):FindS:=if idxI t.size x.at_.cur < 0 then { x with line:=2 }.tell else { x with line:=2 }
def FindS.step (t:TW) (x:FindS) (s:MS):FindS × MS :=
 let p:=nextI t x.at_.pred x.l
 let i:=idxI t.size x.at_.cur
 if x.line = 9 then (x,s)
 else if x.line = 2 then
  let s':=s.load (nextI t i x.l)
  ({ x with by_:=x.at_.cur,w:=s'.new,line:=if mkB ≤ s'.new then 3 else 4 },s')
 else if x.line = 3 then
  let s':=s.cas p x.at_.cur (x.w - mkB)
  if s'.held then (({ x with by_:=x.at_.known,at_:={ x.at_ with cur:=x.w - mkB } }:FindS).looks t,s')
  else (({ x with by_:=x.at_.known }:FindS).anew t,s')
 else if x.line = 4 then
  let s':=s.load (atI t i 0)
  if x.key ≤ s'.new then (({ x with by_:=x.at_.cur }:FindS).tell,s')
  else (({ x with by_:=x.at_.cur,at_:=⟨i,x.at_.cur,x.w⟩ }:FindS).looks t,s')
 else
  let s':=s.load p
  if mkB ≤ s'.new then (({ x with by_:=x.at_.known,at_:={ x.at_ with cur:=s'.new } }:FindS).anew t,s')
  else (({ x with by_:=x.at_.known,at_:={ x.at_ with cur:=s'.new } }:FindS).looks t,s')
structure FindS.ok (t:TW) (x:FindS):Prop where
 line:x.line = 1 ∨ x.line = 2 ∨ x.line = 3 ∨ x.line = 4 ∨ x.line = 9
 lev:0 ≤ x.l ∧ x.l < t.height
 told:x.told.length = t.height.toNat
 pred:-1 ≤ x.at_.pred ∧ x.at_.pred < t.size
 known:U x.at_.known
 cur:U x.at_.cur
 idx:x.line = 2 ∨ x.line = 3 ∨ x.line = 4 → 0 ≤ idxI t.size x.at_.cur
 word:U x.w
 mark:(x.line = 3 → mkB ≤ x.w) ∧ (x.line = 4 → x.w < mkB)
 by_:U x.by_
end Go.Proofs.YtaanpcoglijohaaGreat.Lift
set_option linter.unusedVariables false
set_option linter.unusedSimpArgs false
set_option maxRecDepth 20000
namespace Go.Proofs.YtaanpcoglijohaaGreat.Lift
open Go Go.Proofs.YtaanpcoglijohaaGreat.Gh Go.Proofs
theorem inv_node (orc : FuncId → Bool) (h : Int) (hh : 1 ≤ h ∧ h ≤ 4) (G : GS) : cInvoke Q (evL Q orc) (.iface 291 (.int .i64 h)) "coxswain/tower.cells" [] G = some (.int .i64 (4 + h), G) := by
 have e : cInvoke Q (evL Q orc) (.iface 291 (.int .i64 h)) "coxswain/tower.cells" [] G = (E orc).cl 296 [.int .i64 h] G := by kernel_rfl
 rw [e]
 have w:IntKind.wrap .i64 (4 + h) = 4 + h:=wrap64 (by omega) (by omega)
 exact f296 (exL_ok Q orc) _ G _ (by simp [s296,w])
theorem nodes_ok (orc:FuncId → Bool) (t:TW) (G:GS):∃ G',(E orc).cl 227 [t.v] G = some (.agg ⟨[.int .i64 t.nodes,.int .i64 t.size,.int .i64 t.height]⟩,G') ∧ Ext G G':=by
 have w:Wp (s227 true (exL Q orc) t.v G) fun q=>q.1 = .agg ⟨[.int .i64 t.nodes,.int .i64 t.size,.int .i64 t.height]⟩ ∧ Ext G q.2:=by
  simp [s227,splice_put,splice_end,splice_succ]
  exact (((Ext.refl G).push _).push _).put (by simp) _
 obtain ⟨⟨v,G'⟩,e1,rfl,h⟩:=w
 exact ⟨G',f227 (exL_ok Q orc) _ G _ e1,h⟩
end Go.Proofs.YtaanpcoglijohaaGreat.Lift
set_option linter.unusedVariables false
set_option linter.unusedSimpArgs false
set_option maxRecDepth 20000
namespace Go.Proofs.YtaanpcoglijohaaGreat.Lift
open Go Go.Proofs.YtaanpcoglijohaaGreat.Gh Go.Proofs
theorem mul_lt4 {i n w:Int} (hi:0 ≤ i ∧ i < n) (hn:n ≤ 128) (hw:1 ≤ w ∧ w ≤ 8):0 ≤ i * w ∧ i * w ≤ 1016:=by
 have h1:i * w ≤ 127 * w:=Int.mul_le_mul_of_nonneg_right (by omega) (by omega)
 have h2:0 ≤ i * w:=Int.mul_nonneg hi.1 (by omega)
 omega
theorem nat_ok (orc:FuncId → Bool) {a n h:Int} (ha:0 ≤ a ∧ a < 4096) (hn:1 ≤ n ∧ n ≤ 128) (hh:1 ≤ h ∧ h ≤ 4) (i part:Int) (G:GS):∃ G',(E orc).cl 228 [.agg ⟨[.int .i64 a,.int .i64 n,.int .i64 h]⟩,.int .i64 i,.int .i64 part] G = some (.int .i64 (if 0 ≤ i ∧ i < n ∧ 0 ≤ part ∧ part < 4 + h then a + i * (4 + h) + part else -1),G') ∧ Ext G G':=by
 have w:Wp (s228 true (exL Q orc) (.agg ⟨[.int .i64 a,.int .i64 n,.int .i64 h]⟩) (.int .i64 i) (.int .i64 part) G) fun r=>r.1 = .int .i64 (if 0 ≤ i ∧ i < n ∧ 0 ≤ part ∧ part < 4 + h then a + i * (4 + h) + part else -1) ∧ Ext G r.2:=by
  have x0:Ext G (G.push ⟨[.int .i64 a,.int .i64 n,.int .i64 h],1,false,1⟩):=(Ext.refl G).push _
  by_cases h1:i < 0
  ·have:¬ 0 ≤ i:=by omega
   simp [s228,inv_node orc h hh,h1,this]; exact x0
  have h1':0 ≤ i:=by omega
  by_cases h2:n ≤ i
  ·have:¬ i < n:=by omega
   simp [s228,inv_node orc h hh,h1,h2,this]; exact x0
  have h2':i < n:=by omega
  by_cases h3:part < 0
  ·have:¬ 0 ≤ part:=by omega
   simp [s228,inv_node orc h hh,h1,h2,h3,this]; exact x0
  have h3':0 ≤ part:=by omega
  by_cases h4:4 + h ≤ part
  ·have:¬ part < 4 + h:=by omega
   simp [s228,inv_node orc h hh,h1,h2,h3,h4,this]; exact x0
  have h4':part < 4 + h:=by omega
  have hm:=mul_lt4 (w:=4 + h) ⟨h1',h2'⟩ hn.2 (by omega)
  have e1:IntKind.wrap .i64 (i * (4 + h)) = i * (4 + h):=wrap64 (by omega) (by omega)
  have e2:IntKind.wrap .i64 (a + i * (4 + h)) = a + i * (4 + h):=wrap64 (by omega) (by omega)
  have e3:IntKind.wrap .i64 (a + i * (4 + h) + part) = a + i * (4 + h) + part:=wrap64 (by omega) (by omega)
  simp [s228,inv_node orc h hh,h1,h2,h3,h4,h1',h2',h3',h4',e1,e2,e3]
  exact x0.room 12
 obtain ⟨⟨v,G'⟩,e1,rfl,e3⟩:=w
 exact ⟨G',f228 (exL_ok Q orc) _ _ _ G _ e1,e3⟩
theorem hath_ok (orc:FuncId → Bool) {a n l:Int} (ha:0 ≤ a ∧ a < 4096) (hn:1 ≤ n ∧ n ≤ 4) (hl:0 ≤ l ∧ l < n) (G:GS):∃ G',(E orc).cl 230 [.agg ⟨[.int .i64 a,.int .i64 1,.int .i64 n]⟩,.int .i64 0,.int .i64 l] G = some (.int .i64 (a + l),G') ∧ Ext G G':=by
 have h1:¬ n ≤ 0:=by omega
 have h2:¬ l < 0:=by omega
 have h3:¬ n ≤ l:=by omega
 have h5:¬ 1 ≤ (0:Int):=by omega
 have h4:IntKind.wrap .i64 (a + l) = a + l:=wrap64 (by omega) (by omega)
 have w:Wp (s230 true (exL Q orc) (.agg ⟨[.int .i64 a,.int .i64 1,.int .i64 n]⟩) (.int .i64 0) (.int .i64 l) G) fun r=>r.1 = .int .i64 (a + l) ∧ Ext G r.2:=by
  by_cases hz:l = 0
  ·subst hz
   have h6:IntKind.wrap .i64 a = a:=wrap64 (by omega) (by omega)
   simp [s230,inv_head orc,h1,h6,w0]
   exact ((Ext.refl G).push _).room 12
  ·simp [s230,inv_head orc,h1,h2,h3,h4,h5,w0]
   exact ⟨by rw [show IntKind.wrap .i64 a = a from wrap64 (by omega) (by omega)]; exact h4,((Ext.refl G).push _).room 12⟩
 obtain ⟨⟨v,G'⟩,e1,rfl,e3⟩:=w
 exact ⟨G',f230 (exL_ok Q orc) _ _ _ G _ e1,e3⟩
theorem tat_ok (orc:FuncId → Bool) (t:TW) (i part:Int) (G:GS):∃ G',(E orc).cl 187 [t.v,.int .i64 i,.int .i64 part] G = some (.int .i64 (atI t i part),G') ∧ Ext G G':=by
 obtain ⟨G1,hG1⟩:∃ G1,G1 = G.push ⟨t.cells,1,false,1⟩:=⟨_,rfl⟩
 have x1:Ext G G1:=by rw [hG1]; exact (Ext.refl G).push _
 have n1:G1.nx = G.nx + 1:=by rw [hG1]; rfl
 have o1:G1.obj G.nx = some ⟨t.cells,1,false,1⟩:=by rw [hG1]; simp
 obtain ⟨G2,e2,x2⟩:=sound_ok orc t G1
 have o2:=(x2.obj G.nx (by omega)).trans o1
 by_cases hs:t.sound
 ·simp only [hs,decide_true] at e2
  have h1:=hs.1
  have h2:=hs.2.1
  by_cases hi:i = -1
  ·subst hi
   have hw:IntKind.wrap .i64 (4 + t.height) = 4 + t.height:=wrap64 (by omega) (by omega)
   by_cases h3:part < 4
   ·have hv:atI t (-1) part = -1:=by unfold atI; rw [if_pos hs,if_pos rfl,if_neg (by omega)]
    refine ⟨G2,f187 (exL_ok Q orc) _ _ _ G _ ?_,x1.trans x2⟩
    simp [s187,← hG1,o1,e2,o2,hw,h3,hv]
   by_cases h4:4 + t.height ≤ part
   ·have hv:atI t (-1) part = -1:=by unfold atI; rw [if_pos hs,if_pos rfl,if_neg (by omega)]
    refine ⟨G2,f187 (exL_ok Q orc) _ _ _ G _ ?_,x1.trans x2⟩
    simp [s187,← hG1,o1,e2,o2,hw,h3,h4,hv]
   have hv:atI t (-1) part = t.heads + (part - 4):=by unfold atI; rw [if_pos hs,if_pos rfl,if_pos ⟨by omega,by omega⟩]
   have hp:IntKind.wrap .i64 (part - 4) = part - 4:=wrap64 (by omega) (by omega)
   obtain ⟨G3,e3,x3⟩:=heads_ok orc t G2
   obtain ⟨G4,e4,x4⟩:=hath_ok orc (a:=t.heads) (n:=t.height) (l:=part - 4) ⟨hs.2.2.2.2.2.2.1,hs.2.2.2.2.2.2.2⟩ ⟨h1,h2⟩ ⟨by omega,by omega⟩ G3
   refine ⟨G4,f187 (exL_ok Q orc) _ _ _ G _ ?_,((x1.trans x2).trans x3).trans x4⟩
   simp [s187,← hG1,o1,e2,o2,hw,h3,h4,hp,hv,e3,e4,w0]
  ·have hv:atI t i part = if 0 ≤ i ∧ i < t.size ∧ 0 ≤ part ∧ part < 4 + t.height then t.nodes + i * (4 + t.height) + part else -1:=by unfold atI; rw [if_pos hs,if_neg hi]
   obtain ⟨G3,e3,x3⟩:=nodes_ok orc t G2
   obtain ⟨G4,e4,x4⟩:=nat_ok orc (a:=t.nodes) (n:=t.size) (h:=t.height) ⟨hs.2.2.2.2.1,hs.2.2.2.2.2.1⟩ ⟨hs.2.2.1,hs.2.2.2.1⟩ ⟨h1,h2⟩ i part G3
   rw [← hv] at e4
   refine ⟨G4,f187 (exL_ok Q orc) _ _ _ G _ ?_,((x1.trans x2).trans x3).trans x4⟩
   simp [s187,← hG1,o1,e2,o2,e3,e4,hi]
 ·simp only [hs,decide_false] at e2
  have hv:atI t i part = -1:=by unfold atI; rw [if_neg hs]
  refine ⟨G2,f187 (exL_ok Q orc) _ _ _ G _ ?_,x1.trans x2⟩
  simp [s187,← hG1,o1,e2,hv]
theorem tnext_ok (orc:FuncId → Bool) (t:TW) (i l:Int) (G:GS):∃ G',(E orc).cl 142 [t.v,.int .i64 i,.int .i64 l] G = some (.int .i64 (nextI t i l),G') ∧ Ext G G':=by
 obtain ⟨G1,hG1⟩:∃ G1,G1 = G.push ⟨t.cells,1,false,1⟩:=⟨_,rfl⟩
 have x1:Ext G G1:=by rw [hG1]; exact (Ext.refl G).push _
 have o1:G1.obj G.nx = some ⟨t.cells,1,false,1⟩:=by rw [hG1]; simp
 by_cases h1:l < 0
 ·have hv:nextI t i l = -1:=by unfold nextI; rw [if_neg (by omega)]
  refine ⟨G1,f142 (exL_ok Q orc) _ _ _ G _ ?_,x1⟩
  simp [s142,← hG1,o1,h1,hv]
 by_cases h2:4 ≤ l
 ·have hv:nextI t i l = -1:=by unfold nextI; rw [if_neg (by omega)]
  refine ⟨G1,f142 (exL_ok Q orc) _ _ _ G _ ?_,x1⟩
  simp [s142,← hG1,o1,h1,h2,hv]
 have hv:nextI t i l = atI t i (4 + l):=by unfold nextI; rw [if_pos ⟨by omega,by omega⟩]
 obtain ⟨G2,e2,x2⟩:=tat_ok orc t i (4 + l) G1
 have hw:IntKind.wrap .i64 (4 + l) = 4 + l:=wrap64 (by omega) (by omega)
 refine ⟨G2,f142 (exL_ok Q orc) _ _ _ G _ ?_,x1.trans x2⟩
 simp [s142,← hG1,o1,e2,hw,h1,h2,hv]
end Go.Proofs.YtaanpcoglijohaaGreat.Lift
set_option linter.unusedVariables false
set_option linter.unusedSimpArgs false
set_option maxRecDepth 20000
namespace Go.Proofs.YtaanpcoglijohaaGreat.Lift
open Go Go.Proofs.YtaanpcoglijohaaGreat.Gh Go.Proofs
theorem rtat_ok (orc:FuncId → Bool) (t:TW) (i part:Int) (G:GS):∃ G',(E orc).cl 196 [t.v,.int .i64 i,.int .i64 part] G = some (.int .i64 (atI t i part),G') ∧ Ext G G':=by
 obtain ⟨G1,hG1⟩:∃ G1,G1 = G.push ⟨t.cells,1,false,1⟩:=⟨_,rfl⟩
 have x1:Ext G G1:=by rw [hG1]; exact (Ext.refl G).push _
 have n1:G1.nx = G.nx + 1:=by rw [hG1]; rfl
 have o1:G1.obj G.nx = some ⟨t.cells,1,false,1⟩:=by rw [hG1]; simp
 obtain ⟨G2,e2,x2⟩:=rsound_ok orc t G1
 have o2:=(x2.obj G.nx (by omega)).trans o1
 refine ⟨G2,f196 (exL_ok Q orc) _ _ _ G _ ?_,x1.trans x2⟩
 by_cases hs:t.sound
 ·simp only [hs,decide_true] at e2
  have b1:=hs.1
  have b2:=hs.2.1
  have b3:=hs.2.2.2.1
  have b0:=hs.2.2.1
  have b4:=hs.2.2.2.2
  have hw:IntKind.wrap .i64 (4 + t.height) = 4 + t.height:=wrap64 (by omega) (by omega)
  by_cases h1:i < -1
  ·have hv:atI t i part = -1:=by unfold atI; rw [if_pos hs,if_neg (by omega),if_neg (by omega)]
   simp [s196,← hG1,o1,e2,o2,h1,hv]
  by_cases h2:t.size ≤ i
  ·have hv:atI t i part = -1:=by unfold atI; rw [if_pos hs,if_neg (by omega),if_neg (by omega)]
   simp [s196,← hG1,o1,e2,o2,h1,h2,hv]
  by_cases h3:part < 0
  ·have hv:atI t i part = -1:=by unfold atI; rw [if_pos hs]; split; rw [if_neg (by omega)]; rw [if_neg (by omega)]
   simp [s196,← hG1,o1,e2,o2,h1,h2,h3,hv]
  by_cases h4:4 + t.height ≤ part
  ·have hv:atI t i part = -1:=by unfold atI; rw [if_pos hs]; split; rw [if_neg (by omega)]; rw [if_neg (by omega)]
   simp [s196,← hG1,o1,e2,o2,h1,h2,h3,h4,hw,hv]
  by_cases h5:i < 0
  ·have hi:i = -1:=by omega
   subst hi
   by_cases h6:part < 4
   ·have hv:atI t (-1) part = -1:=by unfold atI; rw [if_pos hs,if_pos rfl,if_neg (by omega)]
    simp [s196,← hG1,o1,e2,o2,h2,h3,h4,hw,h6,hv]
   ·have hv:atI t (-1) part = t.heads + (part - 4):=by unfold atI; rw [if_pos hs,if_pos rfl,if_pos ⟨by omega,by omega⟩]
    have w1:IntKind.wrap .i64 (t.heads + part) = t.heads + part:=wrap64 (by omega) (by omega)
    have w2:IntKind.wrap .i64 (t.heads + part - 4) = t.heads + (part - 4):=by rw [wrap64 (by omega) (by omega)]; omega
    simp [s196,← hG1,o1,e2,o2,h2,h3,h4,hw,h6,hv,w1,w2]
  ·have hv:atI t i part = t.nodes + i * (4 + t.height) + part:=by unfold atI; rw [if_pos hs,if_neg (by omega),if_pos ⟨by omega,by omega,by omega,by omega⟩]
   have hm:=mul_lt4 (w:=4 + t.height) (i:=i) (n:=t.size) ⟨by omega,by omega⟩ b3 (by omega)
   have w1:IntKind.wrap .i64 (i * (4 + t.height)) = i * (4 + t.height):=wrap64 (by omega) (by omega)
   have w2:IntKind.wrap .i64 (t.nodes + i * (4 + t.height)) = t.nodes + i * (4 + t.height):=wrap64 (by omega) (by omega)
   have w3:IntKind.wrap .i64 (t.nodes + i * (4 + t.height) + part) = t.nodes + i * (4 + t.height) + part:=wrap64 (by omega) (by omega)
   simp [s196,← hG1,o1,e2,o2,h1,h2,h3,h4,h5,hw,hv,w1,w2,w3]
 ·simp only [hs,decide_false] at e2
  have hv:atI t i part = -1:=by unfold atI; rw [if_neg hs]
  simp [s196,← hG1,o1,e2,o2,hv]
theorem rnext_ok (orc:FuncId → Bool) (t:TW) (i l:Int) (G:GS):∃ G',(E orc).cl 231 [t.v,.int .i64 i,.int .i64 l] G = some (.int .i64 (nextI t i l),G') ∧ Ext G G':=by
 obtain ⟨G1,hG1⟩:∃ G1,G1 = G.push ⟨t.cells,1,false,1⟩:=⟨_,rfl⟩
 have x1:Ext G G1:=by rw [hG1]; exact (Ext.refl G).push _
 have o1:G1.obj G.nx = some ⟨t.cells,1,false,1⟩:=by rw [hG1]; simp
 by_cases h1:l < 0
 ·have hv:nextI t i l = -1:=by unfold nextI; rw [if_neg (by omega)]
  refine ⟨G1,f231 (exL_ok Q orc) _ _ _ G _ ?_,x1⟩
  simp [s231,← hG1,o1,h1,hv]
 by_cases h2:4 ≤ l
 ·have hv:nextI t i l = -1:=by unfold nextI; rw [if_neg (by omega)]
  refine ⟨G1,f231 (exL_ok Q orc) _ _ _ G _ ?_,x1⟩
  simp [s231,← hG1,o1,h1,h2,hv]
 have hv:nextI t i l = atI t i (4 + l):=by unfold nextI; rw [if_pos ⟨by omega,by omega⟩]
 obtain ⟨G2,e2,x2⟩:=rtat_ok orc t i (4 + l) G1
 have hw:IntKind.wrap .i64 (4 + l) = 4 + l:=wrap64 (by omega) (by omega)
 refine ⟨G2,f231 (exL_ok Q orc) _ _ _ G _ ?_,x1.trans x2⟩
 simp [s231,← hG1,o1,e2,hw,h1,h2,hv]
theorem rindex15_ok (orc:FuncId → Bool) (t:TW) {w:Int} (h:U w) (G:GS):∃ G',(E orc).cl 189 [t.v,.int .u64 w] G = some (.int .i64 (idxI t.size w),G') ∧ Ext G G':=by
 obtain ⟨G1,hG1⟩:∃ G1,G1 = G.push ⟨t.cells,1,false,1⟩:=⟨_,rfl⟩
 have x1:Ext G G1:=by rw [hG1]; exact (Ext.refl G).push _
 have o1:G1.obj G.nx = some ⟨t.cells,1,false,1⟩:=by rw [hG1]; simp
 obtain ⟨G2,e2,x2⟩:=rindex_ok orc (a:=t.top) (b:=t.links) (size:=t.size) h G1
 refine ⟨G2,f189 (exL_ok Q orc) _ _ G _ ?_,x1.trans x2⟩
 simp [s189,← hG1,o1,e2]
end Go.Proofs.YtaanpcoglijohaaGreat.Lift
set_option linter.unusedVariables false
set_option linter.unusedSimpArgs false
set_option maxRecDepth 20000
namespace Go.Proofs.YtaanpcoglijohaaGreat.Lift
open Go Go.Proofs.YtaanpcoglijohaaGreat.Gh Go.Proofs
theorem shr_63 {w:Int} (h:U w):shrI .u64 w 63 = w / 9223372036854775808:=by
 show w.fdiv (2 ^ (min (63:Int).toNat 64)) = _
 rw [show (min (63:Int).toNat 64) = 63 from rfl,Int.fdiv_eq_ediv_of_nonneg _ (by decide)]; rfl
theorem marked_ok (orc:FuncId → Bool) {w:Int} (h:U w) (G:GS):(E orc).cl 202 [.int .u64 w] G = some (.bool (decide (9223372036854775808 ≤ w)),G):=by
 refine f202 (exL_ok Q orc) _ G _ ?_
 have h1:=h.1; have h2:=h.2
 have e:(w / 9223372036854775808 = 1) = (9223372036854775808 ≤ w):=by rw [eq_iff_iff]; omega
 simp [s202,shr_63 h,e]
theorem marks_t (orc:FuncId → Bool) {w:Int} (h0:0 ≤ w) (h1:w < 9223372036854775808) (G:GS):(E orc).cl 204 [.int .u64 w,.bool true] G = some (.int .u64 (w + 9223372036854775808),G):=by
 refine f204 (exL_ok Q orc) _ _ G _ ?_
 have hu1:U w:=⟨h0,by omega⟩
 have hu2:U 9223372036854775808:=⟨by decide,by decide⟩
 have k:=or_add 63 1 hu2 hu1 (by decide) (by omega)
 have e:orI .u64 w 9223372036854775808 = w + 9223372036854775808:=by
  rw [or_u64 hu1 hu2,Nat.or_comm,← or_u64 hu2 hu1,k]; omega
 simp [s204,e]
def mkI (m:Bool):Int:=if m then 9223372036854775808 else 0
def refOk (w:Int):Prop:=¬ (w % 65536 = 0 ∧ w / 65536 % 4294967296 ≠ 0) ∧ w = w % 65536 + (w / 65536 % 4294967296) * 65536 + mkI (decide (9223372036854775808 ≤ w))
instance (w:Int):Decidable (refOk w):=by unfold refOk; exact inferInstance
end Go.Proofs.YtaanpcoglijohaaGreat.Lift
set_option linter.unusedVariables false
set_option linter.unusedSimpArgs false
set_option maxRecDepth 20000
namespace Go.Proofs.YtaanpcoglijohaaGreat.Lift
open Go Go.Proofs.YtaanpcoglijohaaGreat.Gh Go.Proofs
abbrev Own (own:Nat → Nat) (t:Nat):Nat → Prop:=fun x=>own x = t
section
variable {t u m r b:Nat} {B:Nat → Prop} {own own1 own2:Nat → Nat} {G G1 G2:GS} {s s' s1:MS}
theorem PW.extT (w:PW B own G own1 G1 m s) (x:Ext G1 G2) (t:Nat):PW B own G (grown own1 G1 t) G2 m s :=
 ⟨w.stp.trans (B':=no) (Stp.extA x grown_agr) fun _ _ h=>h.elim,w.pm.to (t:=11) (B:=no) (Stp.extA x grown_agr) (by decide) fun _ _ h=>h.elim⟩
theorem RW.extT (w:RW B own G own1 G1 r s) (x:Ext G1 G2) (t:Nat):RW B own G (grown own1 G1 t) G2 r s :=
 ⟨w.stp.trans (B':=no) (Stp.extA x grown_agr) fun _ _ h=>h.elim,w.rm.to (t:=10) (B:=no) (Stp.extA x grown_agr) (by decide) fun _ _ h=>h.elim⟩
theorem PW.tr (w:PW (Own own t) own G own1 G1 m s) (k:PW (Own own1 t) own1 G1 own2 G2 m s'):PW (Own own t) own G own2 G2 m s':=w.trans k fun _ hx h=>(w.stp.same hx).symm.trans h
theorem RW.tr (w:RW (Own own t) own G own1 G1 r s) (k:RW (Own own1 t) own1 G1 own2 G2 r s'):RW (Own own t) own G own2 G2 r s':=w.trans k fun _ hx h=>(w.stp.same hx).symm.trans h
theorem PW.any (w:PW no own G own1 G1 m s):PW B own G own1 G1 m s:=w.mono fun _ _ h=>h.elim
theorem RW.any (w:RW no own G own1 G1 r s):RW B own G own1 G1 r s:=w.mono fun _ _ h=>h.elim
theorem PW.putT (w:PW (Own own t) own G own1 G1 m s) (hb:own1 b = t) (ht:t ≠ 10) (o:GObj):PW (Own own t) own G own1 (G1.put b o) m s:=by
 refine w.put ?_ (fun _=>by rw [hb]; exact ht) o
 by_cases hl:b < G.nx
 ·exact .inl ((w.stp.same hl).symm.trans hb)
 ·exact .inr (by omega)
theorem RW.putT (w:RW (Own own t) own G own1 G1 r s) (hb:own1 b = t) (ht:t ≠ 11) (o:GObj):RW (Own own t) own G own1 (G1.put b o) r s:=by
 refine w.put ?_ (fun _=>by rw [hb]; exact ht) o
 by_cases hl:b < G.nx
 ·exact .inl ((w.stp.same hl).symm.trans hb)
 ·exact .inr (by omega)
theorem PW.modT (w:PW (Own own t) own G own1 G1 m s) (q:ModP (Own own1 t) G1 G2) (ht:t ≠ 10) (u:Nat):PW (Own own t) own G (grown own1 G1 u) G2 m s :=
 w.tr ⟨⟨grown_agr,q.mono fun _ h=>.inr h⟩,w.pm.to (t:=t) (B:=Own own1 t) ⟨grown_agr,q.mono fun _ h=>.inl h⟩ ht fun _ _ h=>by rw [h]; exact ht⟩
theorem RW.modT (w:RW (Own own t) own G own1 G1 r s) (q:ModP (Own own1 t) G1 G2) (ht:t ≠ 11) (u:Nat):RW (Own own t) own G (grown own1 G1 u) G2 r s :=
 w.tr ⟨⟨grown_agr,q.mono fun _ h=>.inr h⟩,w.rm.to (t:=t) (B:=Own own1 t) ⟨grown_agr,q.mono fun _ h=>.inl h⟩ ht fun _ _ h=>by rw [h]; exact ht⟩
theorem PW.keepT (w:PW (Own own t) own G own1 G1 m s) {g:Nat} (hg:g < G.nx) (hu:own g = u) (h1:u ≠ 10) (h2:u ≠ t):G1.obj g = G.obj g:=w.keep hg (by rw [hu]; exact h1) fun k=>h2 (hu.symm.trans k)
theorem RW.keepT (w:RW (Own own t) own G own1 G1 r s) {g:Nat} (hg:g < G.nx) (hu:own g = u) (h1:u ≠ 11) (h2:u ≠ t):G1.obj g = G.obj g:=w.keep hg (by rw [hu]; exact h1) fun k=>h2 (hu.symm.trans k)
theorem PW.rm (w:PW (Own own t) own G own1 G1 m s) (h:RM own G r s') (ht:t ≠ 11):RM own1 G1 r s':=h.to w.stp (by decide) fun _ _ k=>by rw [k]; exact ht
theorem RW.pm (w:RW (Own own t) own G own1 G1 r s) (h:PM own G m s') (ht:t ≠ 10):PM own1 G1 m s':=h.to w.stp (by decide) fun _ _ k=>by rw [k]; exact ht
theorem PW.mt (w:PW (Own own t) own G own1 G1 m s) {ts:List Nat} (h1:10 ∈ ts) (h2:t ∈ ts):ModT ts own G G1:=ModP.mono w.stp.mod fun x hx=>hx.elim (fun h=>by rw [h]; exact h1) fun h=>by rw [show own x = t from h]; exact h2
theorem RW.mt (w:RW (Own own t) own G own1 G1 r s) {ts:List Nat} (h1:11 ∈ ts) (h2:t ∈ ts):ModT ts own G G1:=ModP.mono w.stp.mod fun x hx=>hx.elim (fun h=>by rw [h]; exact h1) fun h=>by rw [show own x = t from h]; exact h2
end
structure At (own:Nat → Nat) (t:Nat) (G:GS) (b:Nat):Prop where
 lt:b < G.nx
 tag:own b = t
theorem At.to {own own':Nat → Nat} {t b:Nat} {G G':GS} (h:At own t G b) (hn:G.nx ≤ G'.nx) (a:Agr own own' G):At own' t G' b:=⟨Nat.lt_of_lt_of_le h.lt hn,(a _ h.lt).trans h.tag⟩
section
variable {t u m r b:Nat} {B:Nat → Prop} {own own1 own2:Nat → Nat} {G G1 G2:GS} {s s' s1:MS}
theorem At.putO (h:At own t G b) (g:Nat) (o:GObj):At own t (G.put g o) b:=⟨h.lt,h.tag⟩
theorem At.extO (h:At own t G b) (x:Ext G G1) (u:Nat):At (grown own G u) t G1 b:=h.to x.nx grown_agr
theorem At.new {q:Nat} (h1:G.nx ≤ q) (h2:q < G1.nx):At (grown own G t) t G1 q:=⟨h2,grown_new h1⟩
structure OwT (own:Nat → Nat) (t:Nat) (G:GS) (v:Value) (L:List Int):Prop where
 ow:OwR (rowsI .i64) 0 G v L
 tag:∀ g,InB v g → own g = t
theorem OwT.lt {v:Value} {L:List Int} (h:OwT own t G v L) {g:Nat} (hg:InB v g):g < G.nx:=h.ow.is.under g hg
theorem OwT.nil (own:Nat → Nat) (t:Nat) (G:GS):OwT own t G (.slice none 0 0) []:=⟨OwR.nil _ _,fun g ⟨a,n,c,he,_⟩=>by cases he⟩
theorem OwT.to {v:Value} {L:List Int} (h:OwT own t G v L) (hn:G.nx ≤ G1.nx) (hk:∀ g,InB v g → G1.obj g = G.obj g) (ha:Agr own own1 G):OwT own1 t G1 v L :=
 ⟨h.ow.kept hn hk,fun g hg=>(ha g (h.lt hg)).trans (h.tag g hg)⟩
theorem OwT.one {v:Value} {L:List Int} (h:OwT own t G v L):one v = true:=own_one h.ow
end
structure Opx (X:Type) where
 e:RowE X
 ok:(Nat → Nat) → GS → Nat → X → Prop
 to:∀ {own own':Nat → Nat} {G G':GS} {i:Nat} {x:X},ok own G i x → G.nx ≤ G'.nx → (∀ g,g < G.nx → own g = i ∨ own g = 100 + i → G'.obj g = G.obj g) → Agr own own' G → ok own' G' i x
structure RJ {X:Type} (O:Opx X) (n:Nat) (own:Nat → Nat) (G:GS) (m r cb:Nat) (s:MS) (L:List X):Prop where
 pm:PM own G m s
 rm:RM own G r s
 ok:s.ok
 tc:own cb = 12
 lc:cb < G.nx
 oc:G.obj cb = some ⟨O.e.flat L,O.e.sz,false,1⟩
 len:L.length = n
 n9:n ≤ 9
 core:∀ i x,L[i]? = some x → O.ok own G i x
section
variable {X:Type} {O O':Opx X} {n m r b cb t i:Nat} {B:Nat → Prop} {own own':Nat → Nat} {G G' G1:GS} {s s':MS} {L:List X} {ts:List Nat} {x y:X}
theorem RJ.lt (h:RJ O n own G m r cb s L) (hx:L[i]? = some x):i < n:=by have:=(List.getElem?_eq_some_iff.1 hx).1; rw [h.len] at this; exact this
theorem RJ.to (h:RJ O n own G m r cb s L) (q:ModT [13] own G G') (a:Agr own own' G):RJ O n own' G' m r cb s L :=
 ⟨h.pm.modT q (by simp) a,h.rm.modT q (by simp) a,h.ok,(a _ h.lc).trans h.tc,Nat.lt_of_lt_of_le h.lc q.nx,(q.same h.lc (by rw [h.tc]; simp)).trans h.oc,h.len,h.n9,
  fun i x hx=>O.to (h.core i x hx) q.nx (fun g hg hi=>q.same hg (by have:=h.lt hx; have:=h.n9; rcases hi with hi | hi <;> (rw [hi]; simp; omega))) a⟩
theorem RJ.ext (h:RJ O n own G m r cb s L) (x:Ext G G'):RJ O n (grown own G 13) G' m r cb s L:=h.to (ModT.ext x) grown_agr
theorem RJ.room (h:RJ O n own G m r cb s L) (k:Nat):RJ O n (grown own G 13) (G.room k) m r cb s L:=h.ext ((Ext.refl G).room k)
theorem RJ.begin (h:RJ O n own G m r cb s L) (x:Ext G G') (hi:i < n) (a:Agr own own' G) (hy:O.ok own' (G'.put cb ⟨O.e.flat (L.set i y),O.e.sz,false,1⟩) i y) :
  RJ O n own' (G'.put cb ⟨O.e.flat (L.set i y),O.e.sz,false,1⟩) m r cb s (L.set i y):=by
 have lc:=h.lc
 have m1:ModT [12] own G (G'.put cb ⟨O.e.flat (L.set i y),O.e.sz,false,1⟩):=(ModT.ext x).put (.inl (by rw [h.tc]; simp)) _
 refine ⟨h.pm.modT m1 (by simp) a,h.rm.modT m1 (by simp) a,h.ok,(a _ lc).trans h.tc,Nat.lt_of_lt_of_le lc x.nx,by simp,by simpa using h.len,h.n9,fun j z hz=>?_⟩
 rw [List.getElem?_set] at hz
 split at hz
 ·rename_i hji
  subst hji
  rw [if_pos (by rw [h.len]; exact hi)] at hz
  cases hz
  exact hy
 ·exact O.to (h.core j z hz) m1.nx (fun g hg hj=>m1.same hg (by have:=h.lt hz; have:=h.n9; rcases hj with hj | hj <;> (rw [hj]; simp; omega))) a
theorem RJ.told (h:RJ O n own G m r cb s L) (hx:L[i]? = some x) (q:ModT [10,11,i,100 + i] own G G') (a:Agr own own' G) (p1:PM own' G' m s') (p2:RM own' G' r s') (p3:s'.ok) (hy:O.ok own' G' i y) (hrow:O.e.row y = O.e.row x) :
  RJ O n own' G' m r cb s' (L.set i y):=by
 have hi:=h.lt hx
 have hn:=h.n9
 refine ⟨p1,p2,p3,(a _ h.lc).trans h.tc,Nat.lt_of_lt_of_le h.lc q.nx,?_,by simpa using h.len,hn,fun j z hz=>?_⟩
 ·rw [q.same h.lc (by rw [h.tc]; simp; omega),h.oc]
  congr 2
  have hl:i < L.length:=by rw [h.len]; exact hi
  rw [List.getElem?_eq_getElem hl] at hx
  have hx':=Option.some.inj hx
  rw [← O.e.flat_over L hl,hrow,← hx',O.e.flat_over L hl,List.set_getElem_self]
 ·rw [List.getElem?_set] at hz
  split at hz
  ·rename_i hji
   subst hji
   rw [if_pos (by rw [h.len]; exact hi)] at hz
   cases hz
   exact hy
  ·rename_i hji
   exact O.to (h.core j z hz) q.nx (fun g hg hj=>q.same hg (by have:=h.lt hz; rcases hj with hj | hj <;> (rw [hj]; simp; omega))) a
theorem RJ.words (orc:FuncId → Bool) (h:RJ O n own G m r cb s L):∃ v G',(E orc).cl 30 [P0 m] G = some (v,G') ∧ Ext G G' ∧ OwR (rowsI .u64) G.nx G' v s.W:=by
 obtain ⟨bb,rest,hm⟩:=h.pm; exact words_ok orc hm
theorem RJ.rwords (orc:FuncId → Bool) (h:RJ O n own G m r cb s L):∃ v G',(E orc).cl 31 [P0 r] G = some (v,G') ∧ Ext G G' ∧ OwR (rowsI .u64) G.nx G' v s.W:=rwords_ok orc h.rm
theorem RJ.last (orc:FuncId → Bool) (h:RJ O n own G m r cb s L):∃ G',(E orc).cl 25 [P0 m] G = some (.agg ⟨accV s⟩,G') ∧ Ext G G':=by
 obtain ⟨bb,rest,hm⟩:=h.pm; exact last_ok orc hm
theorem RJ.rlast (orc:FuncId → Bool) (h:RJ O n own G m r cb s L):∃ G',(E orc).cl 26 [P0 r] G = some (.agg ⟨accV s⟩,G') ∧ Ext G G':=by
 obtain ⟨wb,hm⟩:=h.rm; exact rlast_ok orc hm
theorem RJ.count (orc:FuncId → Bool) (h:RJ O n own G m r cb s L):(E orc).cl 27 [P0 m] G = some (.int .i64 s.many,G):=by
 obtain ⟨bb,rest,hm⟩:=h.pm; exact count_ok orc hm
theorem RJ.rcount (orc:FuncId → Bool) (h:RJ O n own G m r cb s L):(E orc).cl 28 [P0 r] G = some (.int .i64 s.many,G):=by
 obtain ⟨wb,hm⟩:=h.rm; exact rcount_ok orc hm
end
end Go.Proofs.YtaanpcoglijohaaGreat.Lift
set_option linter.unusedVariables false
set_option linter.unusedSimpArgs false
set_option maxRecDepth 20000
namespace Go.Proofs.YtaanpcoglijohaaGreat.Lift
open Go Go.Proofs.YtaanpcoglijohaaGreat.Gh Go.Proofs
abbrev fiL (t:TW) (key line l pred known cur w:Int) (tk:Value) (by_:Int):List Value:=[.int .i64 t.nodes,.int .i64 t.heads,.int .i64 t.height,.int .i64 t.top,.int .i64 t.links,.int .i64 t.size,.int .i64 t.u6,.int .i64 t.u7,.int .i64 t.u8,.int .i64 t.u9,.int .i64 t.u10,.int .i64 t.u11,.int .i64 t.u12,.int .u64 key,.int .i64 line,.int .i64 l,.int .i64 pred,.int .u64 known,.int .u64 cur,.int .u64 w,tk,.int .u64 by_,.bool true,.int .i64 0]
def rSp:RowE (Int × Spot):=⟨4,fun p=>[.int .i64 p.1,.int .i64 p.2.pred,.int .u64 p.2.known,.int .u64 p.2.cur],fun _=>rfl,fun _=>rfl,by decide⟩
@[simp] theorem rSp_sz:rSp.sz = 4:=rfl
@[simp] theorem rSp_row (p:Int × Spot):rSp.row p = [.int .i64 p.1,.int .i64 p.2.pred,.int .u64 p.2.known,.int .u64 p.2.cur]:=rfl
def spotOf (TL:List (Int × Spot)) (h l:Nat):Spot:=if l + 1 = h then ⟨-1,0,0⟩ else ⟨((TL[l + 1]?).map (·.2.pred)).getD 0,((TL[l + 1]?).map (·.2.known)).getD 0,0⟩
noncomputable abbrev lpD (T:List Value):Lp:=⟨.ready,none,T,[16,17],(subAt [1,0,1,0,0] (bodyOf Tryz.f243)),(subAt [1,0,1,0,1] (bodyOf Tryz.f243))⟩
structure DwS (A:GS) (b:Nat) (L:Int) (tk:Value) (l pb lb sb ab:Nat) (T:List Value) (sp:Int × Spot) (G:GS):Prop where
 ext:Ext A G
 lp:G.loop l = some (lpD T)
 nl:A.nl ≤ l
 ll:l < G.nl
 op:G.obj pb = some ⟨[P0 b],1,false,1⟩
 ol:G.obj lb = some ⟨[.int .i64 L],1,false,1⟩
 os:G.obj sb = some ⟨[tk],1,false,1⟩
 oa:G.obj ab = some ⟨[.int .i64 sp.1,.int .i64 sp.2.pred,.int .u64 sp.2.known,.int .u64 sp.2.cur],1,false,1⟩
 lp':A.nx ≤ pb ∧ pb < G.nx
 ll':A.nx ≤ lb ∧ lb < G.nx
 ls':A.nx ≤ sb ∧ sb < G.nx
 la':A.nx ≤ ab ∧ ab < G.nx
 d1:ab ≠ pb
 d2:ab ≠ lb
 d3:ab ≠ sb
structure DwF (A:GS) (b l:Nat) (T:List Value) (o:GObj) (G:GS):Prop where
 mod:ModP (fun g=>g = b) A G
 lp:G.loop l = some { lpD T with st:=.done,pend:=some .ret }
 nl:A.nl ≤ l
 ob:G.obj b = some o
 pb:∀ g,A.nx ≤ g → True
section
variable {A G:GS} {b l pb lb sb ab tb:Nat} {L:Int} {tk tk':Value} {T:List Value} {sp:Int × Spot} {t:TW} {key line lv pred known cur w by_:Int}
theorem dw_round (orc:FuncId → Bool) {j:Int} (hT:T.length = 31) (t2:nth undef T 2 = P0 pb) (t3:nth undef T 3 = P0 lb) (h:DwS A b L tk l pb lb sb ab T sp G) (hj:¬ j = L) (r:Int × Spot) :
  Wp ((E orc).rd l [.int .i64 j,.agg ⟨[.int .i64 r.1,.int .i64 r.2.pred,.int .u64 r.2.known,.int .u64 r.2.cur]⟩] G) fun q=>q.1 = .bool true ∧ DwS A b L tk l pb lb sb ab T sp q.2:=by
 refine Wp.ref (d243_0 (exL_ok Q orc) l T _ _ G h.lp hT) ?_
 obtain ⟨G1,hG1⟩:∃ G1,G1 = ((G.push ⟨z276,1,false,1⟩).put G.nx ⟨[.int .i64 r.1,.int .i64 r.2.pred,.int .u64 r.2.known,.int .u64 r.2.cur],1,false,1⟩):=⟨_,rfl⟩
 have x1:Ext G G1:=by rw [hG1]; exact ((Ext.refl G).push _).put (Nat.le_refl _) _
 have l1:G1.loop l = some (lpD T):=by rw [hG1]; simpa using h.lp
 have nl1:G1.nl = G.nl:=by rw [hG1]; rfl
 have n1:G1.nx = G.nx + 1:=by rw [hG1]; rfl
 obtain ⟨G2,hG2⟩:∃ G2,G2 = G1.putLoop l (Lp.setSt (lpD T) .busy):=⟨_,rfl⟩
 have n2:G2.nx = G.nx + 1:=by rw [hG2,nx_putLoop,n1]
 have l2:G2.loop l = some (Lp.setSt (lpD T) .busy):=by rw [hG2]; simp
 have nl2:G2.nl = G.nl:=by rw [hG2]; exact nl1
 have ob2:∀ b,b < G.nx → G2.obj b = G.obj b:=fun b hb=>by rw [hG2]; simp only [obj_putLoop]; exact x1.obj b hb
 have ol1:=(x1.obj lb h.ll'.2).trans h.ol
 have hrd:roundEnd l .normal G2 = some (.bool true,G2.putLoop l (lpD T)):=by
  rw [roundEnd_some l .normal _ (j:=none) rfl l2]
  rfl
 have x2:Ext A G2:=by rw [hG2]; exact (h.ext.trans x1).putLoop h.nl _
 have e1:=h.lp'; have e2:=h.ll'; have e3:=h.ls'; have e4:=h.la'; have e5:=h.ll
 simp [r243_0,t2,t3,← hG1,splice_put,splice_end]
 simp [l1,← hG2,ol1,hj,hrd]
 exact ⟨x2.putLoop h.nl _,by simp,h.nl,by show l < G2.nl; omega,by simpa using (ob2 pb e1.2).trans h.op,by simpa using (ob2 lb e2.2).trans h.ol,by simpa using (ob2 sb e3.2).trans h.os,by simpa using (ob2 ab e4.2).trans h.oa,⟨e1.1,by simp; omega⟩,⟨e2.1,by simp; omega⟩,⟨e3.1,by simp; omega⟩,⟨e4.1,by simp; omega⟩,h.d1,h.d2,h.d3⟩
theorem dw_found (orc:FuncId → Bool) (hT:T.length = 31) (t2:nth undef T 2 = P0 pb) (t3:nth undef T 3 = P0 lb) (htk:one tk = true) (hb:b < A.nx) (ob:A.obj b = some ⟨fiL t key line lv pred known cur w tk by_,1,false,1⟩) (h:DwS A b L tk' l pb lb sb ab T sp G) (r:Int × Spot) :
  Wp ((E orc).rd l [.int .i64 L,.agg ⟨[.int .i64 r.1,.int .i64 r.2.pred,.int .u64 r.2.known,.int .u64 r.2.cur]⟩] G) fun q=>q.1 = .bool false ∧ DwF A b l T ⟨fiL t key 1 r.1 r.2.pred r.2.known r.2.cur w tk by_,1,false,1⟩ q.2:=by
 refine Wp.ref (d243_0 (exL_ok Q orc) l T _ _ G h.lp hT) ?_
 obtain ⟨G1,hG1⟩:∃ G1,G1 = ((G.push ⟨z276,1,false,1⟩).put G.nx ⟨[.int .i64 r.1,.int .i64 r.2.pred,.int .u64 r.2.known,.int .u64 r.2.cur],1,false,1⟩):=⟨_,rfl⟩
 have x1:Ext G G1:=by rw [hG1]; exact ((Ext.refl G).push _).put (Nat.le_refl _) _
 have l1:G1.loop l = some (lpD T):=by rw [hG1]; simpa using h.lp
 have on1:G1.obj G.nx = some ⟨[.int .i64 r.1,.int .i64 r.2.pred,.int .u64 r.2.known,.int .u64 r.2.cur],1,false,1⟩:=by rw [hG1]; simp
 obtain ⟨G2,hG2⟩:∃ G2,G2 = G1.putLoop l (Lp.setSt (lpD T) .busy):=⟨_,rfl⟩
 have l2:G2.loop l = some (Lp.setSt (lpD T) .busy):=by rw [hG2]; simp
 have ol1:=(x1.obj lb h.ll'.2).trans h.ol
 have op1:=(x1.obj pb h.lp'.2).trans h.op
 have hbG:=Nat.lt_of_lt_of_le hb h.ext.nx
 have ob1:=(x1.obj b hbG).trans ((h.ext.obj b hb).trans ob)
 have x2:Ext A G2:=by rw [hG2]; exact (h.ext.trans x1).putLoop h.nl _
 have e1:=h.lp'
 have d1:¬ pb = b:=by omega
 have d2:¬ G.nx = b:=by omega
 obtain ⟨G3,hG3⟩:∃ G3,G3 = ((G2.room 9).put b ⟨fiL t key line r.1 r.2.pred r.2.known r.2.cur w tk by_,1,false,1⟩).put b ⟨fiL t key 1 r.1 r.2.pred r.2.known r.2.cur w tk by_,1,false,1⟩:=⟨_,rfl⟩
 have l3:G3.loop l = some (Lp.setSt (lpD T) .busy):=by rw [hG3]; simpa using l2
 have m3:ModP (fun g=>g = b) A G3:=by rw [hG3]; exact (((x2.room 9).modP (fun g=>g = b)).put (.inl rfl) _).put (.inl rfl) _
 have hrd:roundEnd l .ret G3 = some (.bool false,G3.putLoop l { lpD T with st:=.done,pend:=some .ret }):=by
  rw [roundEnd_some l .ret _ (j:=some .ret) rfl l3]
  rfl
 simp [r243_0,t2,t3,← hG1,splice_put,splice_end]
 have ob2:G2.obj b = some ⟨fiL t key line lv pred known cur w tk by_,1,false,1⟩:=by rw [hG2]; simpa using ob1
 have op2:G2.obj pb = some ⟨[P0 b],1,false,1⟩:=by rw [hG2]; simpa using op1
 simp [l1,← hG2,ol1,op1,on1,ob1,ob2,op2,d1,d2,splice_put,splice_end,htk]
 rw [← hG3,hrd]
 simp
 exact ⟨m3.putLoop h.nl _,by simp,h.nl,by rw [hG3]; simp,fun _ _=>trivial⟩
end
end Go.Proofs.YtaanpcoglijohaaGreat.Lift
set_option linter.unusedVariables false
set_option linter.unusedSimpArgs false
set_option maxRecDepth 20000
namespace Go.Proofs.YtaanpcoglijohaaGreat.Lift
open Go Go.Proofs.YtaanpcoglijohaaGreat.Gh Go.Proofs
section
variable {A G:GS} {b l pb lb sb ab tb h:Nat} {L:Int} {T:List Value} {sp:Int × Spot} {t:TW} {tk:Value} {key line lv pred known cur w by_:Int} {TL:List (Int × Spot)}
abbrev tkV (tb h:Nat):Value:=.slice (some ⟨tb,0,none⟩) h h
theorem obj_put_ne (G:GS) (o:GObj) {b c:Nat} (h:c ≠ b):(G.put b o).obj c = G.obj c:=by rw [obj_put,if_neg h]
inductive DwE (A:GS) (b:Nat) (L:Int) (tk:Value) (l pb lb sb ab:Nat) (T:List Value) (o:GObj) (k:Nat) (e:Exit) (G:GS):Prop
 | no (sp:Int × Spot):e = .exit 0 → ¬ (0 ≤ L ∧ L < k) → DwS A b L tk l pb lb sb ab T sp G → DwE A b L tk l pb lb sb ab T o k e G
 | yes:e = .ret → (0 ≤ L ∧ L < k) → DwF A b l T o G → DwE A b L tk l pb lb sb ab T o k e G
theorem DwS.put (H:DwS A b L tk l pb lb sb ab T sp G) (r:Int × Spot):DwS A b L tk l pb lb sb ab T r (G.put ab ⟨[.int .i64 r.1,.int .i64 r.2.pred,.int .u64 r.2.known,.int .u64 r.2.cur],1,false,1⟩) :=
 ⟨H.ext.put H.la'.1 _,H.lp,H.nl,H.ll,(obj_put_ne _ _ (Ne.symm H.d1)).trans H.op,(obj_put_ne _ _ (Ne.symm H.d2)).trans H.ol,(obj_put_ne _ _ (Ne.symm H.d3)).trans H.os,by simp,H.lp',H.ll',H.ls',H.la',H.d1,H.d2,H.d3⟩
theorem dw_lp (orc:FuncId → Bool) (hT:T.length = 31) (t2:nth undef T 2 = P0 pb) (t3:nth undef T 3 = P0 lb) (hb:b < A.nx) (ob:A.obj b = some ⟨fiL t key line lv pred known cur w (tkV tb h) by_,1,false,1⟩) (htb:tb < A.nx) (ot:A.obj tb = some ⟨rSp.flat TL,4,false,1⟩) (hTL:TL.length = h) (hh:h ≤ 4) :
  ∀ (k:Nat) (τ:Env) (G:GS) (sp:Int × Spot),k ≤ h → τ 0 = .func (.yield l) #[] #[] → τ 2 = P0 sb → τ 4 = P0 ab → τ 5 = .int .i64 ((k:Int) - 1) → DwS A b L (tkV tb h) l pb lb sb ab T sp G → (1 ≤ k → sp.2.pred = (spotOf TL h (k - 1)).pred ∧ sp.2.known = (spotOf TL h (k - 1)).known) →
  Wp ((exL Q orc).lpx 263 0 τ G) fun q=>DwE A b L (tkV tb h) l pb lb sb ab T ⟨fiL t key 1 L (spotOf TL h L.toNat).pred (spotOf TL h L.toNat).known 0 w (tkV tb h) by_,1,false,1⟩ k q.1 q.2.2:=by
 intro k
 induction k with
 | zero =>
  intro τ G sp hk t0 t2' t4 t5 H hsp
  refine Wp.lp (l263_0 (exL_ok Q orc)) ?_
  simp [b263_0,clip_t,t0,t2',t4,t5]
  exact .no _ rfl (by omega) H
 | succ k ih =>
  intro τ G sp hk t0 t2' t4 t5 H hsp
  obtain ⟨s1,s2⟩:=hsp (by omega)
  simp only [Nat.add_sub_cancel] at s1 s2
  have t5':τ 5 = .int .i64 (k:Int):=by rw [t5]; congr 1; omega
  have hk0:(0:Int) ≤ k:=by omega
  have oa:=H.oa
  obtain ⟨G4,hG4⟩:∃ G4,G4 = (G.put ab ⟨[.int .i64 k,.int .i64 sp.2.pred,.int .u64 sp.2.known,.int .u64 sp.2.cur],1,false,1⟩).put ab ⟨[.int .i64 k,.int .i64 sp.2.pred,.int .u64 sp.2.known,.int .u64 0],1,false,1⟩:=⟨_,rfl⟩
  have H4:DwS A b L (tkV tb h) l pb lb sb ab T (k,⟨sp.2.pred,sp.2.known,0⟩) G4:=by rw [hG4]; exact (H.put (k,⟨sp.2.pred,sp.2.known,sp.2.cur⟩)).put (k,⟨sp.2.pred,sp.2.known,0⟩)
  have oa4:=H4.oa
  simp only at oa4
  have hkh:k < h:=by omega
  have hkh':(k:Int) < h:=by omega
  have hw:IntKind.wrap .i64 ((k:Int) - 1) = (k:Int) - 1:=wrap64 (by omega) (by omega)
  refine Wp.lp (l263_0 (exL_ok Q orc)) ?_
  by_cases hL:(k:Int) = L
  ·subst hL
   obtain ⟨⟨_,G5⟩,e5,rfl,F5⟩:=dw_found orc hT t2 t3 rfl hb ob H4 ((k:Int),⟨sp.2.pred,sp.2.known,0⟩)
   simp only at e5 F5
   simp [-Int.natCast_add,b263_0,clip_t,t0,t2',t4,t5',oa,← hG4,oa4,e5]
   rw [s1,s2] at F5
   exact .yes rfl (by omega) F5
  ·obtain ⟨⟨_,G5⟩,e5,rfl,H5⟩:=dw_round orc hT t2 t3 H4 hL ((k:Int),⟨sp.2.pred,sp.2.known,0⟩)
   simp only at e5 H5
   have os5:=H5.os
   have oa5:=H5.oa
   have ot5:=(H5.ext.obj tb htb).trans ot
   have hlt:=Nat.lt_of_lt_of_le htb H5.ext.nx
   have hi:k < TL.length:=by omega
   have e6:=row_ld (e:=rSp) ot5 hlt hi
   simp only [rSp_sz,rSp_row] at e6
   have hset:storeN 4 ab 0 (.agg ⟨[.int .i64 TL[k].1,.int .i64 TL[k].2.pred,.int .u64 TL[k].2.known,.int .u64 TL[k].2.cur]⟩) G5 = some (G5.put ab ⟨[.int .i64 TL[k].1,.int .i64 TL[k].2.pred,.int .u64 TL[k].2.known,.int .u64 TL[k].2.cur],1,false,1⟩):=by
    simp [oa5,splice_put,splice_end]
   have hs1:storeN 1 ab 0 (.int .i64 k) G = some (G.put ab ⟨[.int .i64 k,.int .i64 sp.2.pred,.int .u64 sp.2.known,.int .u64 sp.2.cur],1,false,1⟩):=by simp [oa]
   have hs2:storeN 1 ab 3 (.int .u64 0) (G.put ab ⟨[.int .i64 k,.int .i64 sp.2.pred,.int .u64 sp.2.known,.int .u64 sp.2.cur],1,false,1⟩) = some G4:=by rw [hG4]; simp
   have hs3:loadA 4 ab 0 G4 = some (.agg ⟨[.int .i64 k,.int .i64 sp.2.pred,.int .u64 sp.2.known,.int .u64 0]⟩):=by simp [oa4]
   have hs4:G5.cell sb 0 = some (tkV tb h):=by simp [os5]
   simp [-Int.natCast_add,-loadA_s,-storeN_s,-cell_s,b263_0,clip_t,t0,t2',t4,t5',hs1,hs2,hs3,hs4,e5,hkh,hkh',hk0,e6,hset,hw]
   refine Wp.mono (ih _ _ (TL[k]) (by omega) ?_ ?_ ?_ ?_ (H5.put TL[k]) ?_) fun q hq=>?_
   ·simp [clip_t]
   ·simp [clip_t]
   ·simp [clip_t]
   ·simp [clip_t]
   ·intro h1
    have:¬ k = h:=by omega
    have hk1:k - 1 + 1 = k:=by omega
    simp [spotOf,hk1,this,hi]
   ·rcases hq with ⟨sp',r1,r2,r3⟩ | ⟨r1,r2,r3⟩
    ·exact .no sp' r1 (by omega) r3
    ·exact .yes r1 (by omega) r3
end
end Go.Proofs.YtaanpcoglijohaaGreat.Lift
