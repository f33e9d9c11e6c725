import Derived.Test.YtlaojmcekeohnaaGreatDoorRAb
import Derived.Test.YtlaojmcekeohnaaGreatDoorGhPT
import Derived.Test.YtlaojmcekeohnaaGreatDoorGhPR
import Derived.Test.YtlaojmcekeohnaaGreatDoorGhPC
import Derived.Test.YtlaojmcekeohnaaGreatDoorGhPD
import Derived.Test.YtlaojmcekeohnaaGreatDoorGhLS
import Derived.Test.YtlaojmcekeohnaaGreatDoorGhEQ
namespace Go.Proofs.YtlaojmcekeohnaaGreatDoor.Lift
open Go Go.Proofs.YtlaojmcekeohnaaGreatDoor.Gh Go.Proofs
abbrev P0 (b:Nat):Value:=.pointer (some ⟨b,0,none⟩)
theorem Ext.drawn {A G B:GS} (h:Ext A G) {n:Nat} (hn:A.nx ≤ n) (hB:A.nx ≤ B.nx) (o:GObj):Ext A (((G.at' n).push o).back B) :=
 ⟨by simpa using hB,fun g hg=>by
  have:=h.obj g hg
  simp only [obj_back,obj_push,nx_at,obj_at]
  rw [if_neg (by omega)]; exact this,by simpa using h.nl,fun l hl=>by simpa using h.loop l hl⟩
end Go.Proofs.YtlaojmcekeohnaaGreatDoor.Lift
set_option linter.unusedVariables false
set_option linter.unusedSimpArgs false
set_option maxRecDepth 20000
namespace Go.Proofs.YtlaojmcekeohnaaGreatDoor.Lift
open Go Go.Proofs.YtlaojmcekeohnaaGreatDoor.Gh Go.Proofs
def U (x:Int):Prop:=0 ≤ x ∧ x < 18446744073709551616
theorem wrap_u64 (x:Int):IntKind.wrap .u64 x = x % 18446744073709551616:=by
 simp only [IntKind.wrap,IntKind.bits,IntKind.signed,Bool.false_and]
 simp
theorem shr_16 {w:Int} (h:U w):shrI .u64 w 16 = w / 65536:=by
 show w.fdiv (2 ^ (min (16:Int).toNat 64)) = _
 rw [show (min (16:Int).toNat 64) = 16 from rfl,Int.fdiv_eq_ediv_of_nonneg _ (by decide)]; rfl
theorem ofInt_u64 {x:Int} (h:U x):(BitVec.ofInt 64 x).toNat = x.toNat:=by
 obtain ⟨n,rfl⟩:=Int.eq_ofNat_of_zero_le h.1
 have:=h.2
 have e:(BitVec.ofInt 64 (n:Int)).toNat = n % 2 ^ 64:=by simp [BitVec.toNat_ofInt]
 rw [e]; simp; omega
theorem and_u64 {a b:Int} (ha:U a) (hb:U b):andI .u64 a b = ((a.toNat &&& b.toNat:Nat):Int):=by
 show IntKind.wrap .u64 (((BitVec.ofInt 64 a &&& BitVec.ofInt 64 b).toNat:Nat):Int) = _
 have h1:a.toNat &&& b.toNat ≤ a.toNat:=Nat.and_le_left
 have:=ha.1; have:=ha.2
 rw [BitVec.toNat_and,ofInt_u64 ha,ofInt_u64 hb,wrap_u64]
 omega
theorem or_u64 {a b:Int} (ha:U a) (hb:U b):orI .u64 a b = ((a.toNat ||| b.toNat:Nat):Int):=by
 show IntKind.wrap .u64 (((BitVec.ofInt 64 a ||| BitVec.ofInt 64 b).toNat:Nat):Int) = _
 have h1:a.toNat ||| b.toNat < 2 ^ 64:=Nat.or_lt_two_pow (by have:=ha.2; have:=ha.1; omega) (by have:=hb.2; have:=hb.1; omega)
 rw [BitVec.toNat_or,ofInt_u64 ha,ofInt_u64 hb,wrap_u64]
 omega
theorem and_low {w:Int} (h:U w):andI .u64 w 65535 = w % 65536:=by
 rw [and_u64 h ⟨by decide,by decide⟩]
 have:w.toNat &&& (65535:Int).toNat = w.toNat % 65536:=Nat.and_two_pow_sub_one_eq_mod w.toNat 16
 rw [this]
 have:=h.1
 omega
theorem or_add {a b:Int} (i:Nat) (q:Nat) (ha:U a) (hb:U b) (h1:a.toNat = 2 ^ i * q) (h2:b.toNat < 2 ^ i):orI .u64 a b = a + b:=by
 rw [or_u64 ha hb,h1,← Nat.two_pow_add_eq_or_of_lt h2 q,← h1]
 have:=ha.1; have:=hb.1
 omega
end Go.Proofs.YtlaojmcekeohnaaGreatDoor.Lift
set_option linter.unusedVariables false
set_option linter.unusedSimpArgs false
set_option maxRecDepth 20000
namespace Go.Proofs.YtlaojmcekeohnaaGreatDoor.Lift
open Go Go.Proofs.YtlaojmcekeohnaaGreatDoor.Gh Go.Proofs
structure MS where
 W:List Int
 kind:Int
 at_:Int
 old:Int
 new:Int
 held:Bool
 many:Int
def MS.acc (s:MS) (kind at_:Int) (upd:Int → Int × Bool):MS :=
 if 0 ≤ at_ ∧ at_ < s.W.length then
  ⟨s.W.set at_.toNat (upd ((s.W[at_.toNat]?).getD 0)).1,kind,at_,(s.W[at_.toNat]?).getD 0,(upd ((s.W[at_.toNat]?).getD 0)).1,(upd ((s.W[at_.toNat]?).getD 0)).2,IntKind.wrap .i64 (s.many + 1)⟩
 else ⟨s.W,kind,at_,0,0,false,IntKind.wrap .i64 (s.many + 1)⟩
def uLoad (w:Int):Int × Bool:=(w,false)
def uStore (v w:Int):Int × Bool:=(v,true)
def uCas (a b w:Int):Int × Bool:=if w = a then (b,true) else (w,false)
def uAdd (n w:Int):Int × Bool:=(IntKind.wrap .u64 (w + n),true)
def MS.load (s:MS) (a:Int):MS:=s.acc 1 a uLoad
def MS.store (s:MS) (a v:Int):MS:=s.acc 2 a (uStore v)
def MS.cas (s:MS) (a x y:Int):MS:=s.acc 3 a (uCas x y)
def MS.add (s:MS) (a n:Int):MS:=s.acc 4 a (uAdd n)
def MS.zero (n:Nat):MS:=⟨List.replicate n 0,0,0,0,0,false,0⟩
structure PMr (A:Nat → Prop) (G:GS) (m bb:Nat) (rest:List Int) (s:MS):Prop where
 un:Under A G
 am:A m
 ab:A bb
 hm:G.obj m = some ⟨[P0 bb,.int .i64 s.W.length,.int .i64 s.kind,.int .i64 s.at_,.int .u64 s.old,.int .u64 s.new,.bool s.held,.int .i64 s.many],1,false,1⟩
 hb:G.obj bb = some ⟨(s.W ++ rest).map (Value.int .u64),1,false,1⟩
 hl:s.W.length + rest.length = 4096
def PMx (A:Nat → Prop) (G:GS) (m:Nat) (s:MS):Prop:=∃ bb rest,PMr A G m bb rest s
section
variable {A B:Nat → Prop} {G G':GS} {m bb:Nat} {rest:List Int} {s:MS}
theorem PMr.kept (h:PMr A G m bb rest s) (hn:G.nx ≤ G'.nx) (hk:∀ g,A g → G'.obj g = G.obj g):PMr A G' m bb rest s :=
 ⟨h.un.le hn,h.am,h.ab,(hk _ h.am).trans h.hm,(hk _ h.ab).trans h.hb,h.hl⟩
theorem PMr.ext (h:PMr A G m bb rest s) (x:Ext G G'):PMr A G' m bb rest s:=h.kept x.nx fun g hg=>x.obj g (h.un g hg)
theorem PMr.mono (h:PMr A G m bb rest s) (hs:∀ x,A x → B x) (hu:Under B G):PMr B G m bb rest s:=⟨hu,hs _ h.am,hs _ h.ab,h.hm,h.hb,h.hl⟩
theorem PMx.un (h:PMx A G m s):Under A G:=let ⟨_,_,h⟩:=h; h.un
theorem PMx.kept (h:PMx A G m s) (hn:G.nx ≤ G'.nx) (hk:∀ g,A g → G'.obj g = G.obj g):PMx A G' m s:=let ⟨_,_,h⟩:=h; ⟨_,_,h.kept hn hk⟩
theorem PMx.ext (h:PMx A G m s) (x:Ext G G'):PMx A G' m s:=h.kept x.nx fun g hg=>x.obj g (h.un g hg)
theorem PMx.mono (h:PMx A G m s) (hs:∀ x,A x → B x) (hu:Under B G):PMx B G m s:=let ⟨_,_,h⟩:=h; ⟨_,_,h.mono hs hu⟩
theorem ModP.pre {G1:GS} (x:Ext G G1) (h:ModP A G1 G'):ModP A G G' :=
 ⟨Nat.le_trans x.nx h.nx,fun g hg ha=>(h.obj g (Nat.lt_of_lt_of_le hg x.nx) ha).trans (x.obj g hg),Nat.le_trans x.nl h.nl,fun l hl=>(h.loop l (Nat.lt_of_lt_of_le hl x.nl)).trans (x.loop l hl)⟩
theorem grow_pre {G1:GS} (x:Ext G G1):∀ g,Grow A G1 G' g → Grow A G G' g:=fun g hg=>hg.elim .inl fun h=>.inr ⟨Nat.le_trans x.nx h.1,h.2⟩
theorem PMx.pre {G1:GS} (hu:Under A G) (x:Ext G G1) (q2:ModP A G1 G') (q3:PMx (Grow A G1 G') G' m s):ModP A G G' ∧ PMx (Grow A G G') G' m s :=
 have q:=ModP.pre x q2
 ⟨q,q3.mono (grow_pre x) (hu.grow q.nx)⟩
theorem PMr.ne (h:PMr A G m bb rest s):m ≠ bb:=fun e=>by
 have h1:=h.hm
 rw [e,h.hb] at h1
 simp only [Option.some.injEq,GObj.mk.injEq,and_true] at h1
 cases hq:s.W ++ rest with
 | nil=>rw [hq] at h1; simp at h1
 | cons a b=>rw [hq] at h1; simp at h1
def cellV (bb:Nat) (s:MS) (a:Int):Value:=if 0 ≤ a ∧ a < s.W.length then .pointer (some ⟨bb,a.toNat,none⟩) else .pointer none
theorem cell_ok (orc:FuncId → Bool) (h:PMr A G m bb rest s) (a:Int):(E orc).cl 136 [P0 m,.int .i64 a] G = some (cellV bb s a,G):=by
 refine f136 (exL_ok Q orc) _ _ G _ ?_
 have hl:=h.hl
 unfold cellV
 by_cases h1:a < 0
 ·have h1':¬ (0 ≤ a ∧ a < (s.W.length:Int)):=by omega
  simp [s136,cell_eq,h.hm,h1,h1']
 ·by_cases h2:(s.W.length:Int) ≤ a
  ·have h1':¬ (0 ≤ a ∧ a < (s.W.length:Int)):=by omega
   simp [s136,cell_eq,h.hm,h1,h2,h1']
  ·have h1':(0 ≤ a ∧ a < (s.W.length:Int)):=by omega
   have h3:a < 4096:=by omega
   simp [s136,cell_eq,h.hm,h1,h2,h1',h3]
theorem is_ok (orc:FuncId → Bool) (o:Option Addr) (G:GS):(E orc).cl 198 [.pointer o] G = some (.bool o.isSome,G):=by
 refine f198 (exL_ok Q orc) _ G _ ?_
 cases o <;> simp [s198]
theorem word_at (h:PMr A G m bb rest s) {a:Nat} (ha:a < s.W.length):G.cell bb a = some (.int .u64 ((s.W[a]?).getD 0)):=by
 have:((s.W ++ rest).map (Value.int .u64))[a]? = some (.int .u64 ((s.W[a]?).getD 0)):=by rw [List.getElem?_map,List.getElem?_append_left ha,List.getElem?_eq_getElem ha]; rfl
 simp only [cell_eq,h.hb,this]; rfl
abbrev accV (s:MS):List Value:=[.int .i64 s.kind,.int .i64 s.at_,.int .u64 s.old,.int .u64 s.new,.bool s.held]
theorem do_ok (orc:FuncId → Bool) (h:PMr A G m bb rest s) (kind a:Int) (f:FuncId) (dv:List Value) (upd:Int → Int × Bool)
  (hf:∀ G1 w,bb < G1.nx → 0 ≤ a → a < s.W.length → G1.cell bb a.toNat = some (.int .u64 w) → ∃ G2,(E orc).cl f dv G1 = some (.tuple #[.int .u64 (upd w).1,.bool (upd w).2],G2) ∧ Ext G1 G2) :
  Wp ((E orc).cl 137 [P0 m,.int .i64 kind,.int .i64 a,cellV bb s a,.func (.func f) ⟨dv⟩ #[]] G) fun r=>r.1 = .agg ⟨accV (s.acc kind a upd)⟩ ∧ ModP A G r.2 ∧ PMx (Grow A G r.2) r.2 m (s.acc kind a upd):=by
 refine Wp.ref (f137 (exL_ok Q orc) _ _ _ _ _ G) ?_
 have hm:=h.hm
 have hmn:=h.un _ h.am
 have hbn:=h.un _ h.ab
 have hne:=h.ne
 have hne':=hne.symm
 have m1:m ≠ G.nx:=by omega
 have m2:G.nx ≠ m:=by omega
 have b1:bb ≠ G.nx:=by omega
 have b2:G.nx ≠ bb:=by omega
 have hw:IntKind.wrap .i64 (s.many + 1) = IntKind.wrap .i64 (s.many + 1):=rfl
 by_cases hin:0 ≤ a ∧ a < s.W.length
 ·have hcv:cellV bb s a = .pointer (some ⟨bb,a.toNat,none⟩):=by unfold cellV; rw [if_pos hin]
  have his:=is_ok orc (some ⟨bb,a.toNat,none⟩)
  obtain ⟨n,hn⟩:∃ n:Nat,a.toNat = n:=⟨_,rfl⟩
  have hnl:n < s.W.length:=by omega
  have hww:=word_at h hnl
  generalize hx:(s.W[n]?).getD 0 = w at hww
  have hacc:s.acc kind a upd = ⟨s.W.set n (upd w).1,kind,a,w,(upd w).1,(upd w).2,IntKind.wrap .i64 (s.many + 1)⟩:=by unfold MS.acc; rw [if_pos hin,hn,hx]
  rw [hcv,hacc]
  rw [hn] at his hf
  obtain ⟨GA,hGA⟩:∃ GA,GA = ((G.push ⟨[.int .i64 0,.int .i64 0,.int .u64 0,.int .u64 0,.bool false],1,false,1⟩).put m ⟨[P0 bb,.int .i64 s.W.length,.int .i64 s.kind,.int .i64 s.at_,.int .u64 s.old,.int .u64 s.new,.bool s.held,.int .i64 (IntKind.wrap .i64 (s.many + 1))],1,false,1⟩).put m ⟨[P0 bb,.int .i64 s.W.length,.int .i64 kind,.int .i64 a,.int .u64 0,.int .u64 0,.bool false,.int .i64 (IntKind.wrap .i64 (s.many + 1))],1,false,1⟩:=⟨_,rfl⟩
  have oA:∀ g,g ≠ m → g ≠ G.nx → GA.obj g = G.obj g:=fun g h1 h2=>by rw [hGA]; simp [h1,h2]
  have oAm:GA.obj m = some ⟨[P0 bb,.int .i64 s.W.length,.int .i64 kind,.int .i64 a,.int .u64 0,.int .u64 0,.bool false,.int .i64 (IntKind.wrap .i64 (s.many + 1))],1,false,1⟩:=by rw [hGA]; simp
  have oAn:GA.obj G.nx = some ⟨[.int .i64 0,.int .i64 0,.int .u64 0,.int .u64 0,.bool false],1,false,1⟩:=by rw [hGA]; simp [m2]
  have nA:GA.nx = G.nx + 1:=by rw [hGA]; rfl
  have mA:ModP A G GA:=by rw [hGA]; exact (((ModP.refl A G).push _).put (.inl h.am) _).put (.inl h.am) _
  have cA:GA.cell bb n = some (.int .u64 w):=by rw [← hww]; unfold GS.cell; rw [oA bb hne' b1]
  obtain ⟨GB,eB,xB⟩:=hf GA w (by omega) hin.1 hin.2 cA
  have cB:GB.obj bb = some ⟨(s.W ++ rest).map (Value.int .u64),1,false,1⟩:=by rw [xB.obj bb (by omega),oA bb hne' b1]; exact h.hb
  have oBm:=(xB.obj m (by omega)).trans oAm
  have oBn:=(xB.obj G.nx (by omega)).trans oAn
  have hwB:((s.W ++ rest).map (Value.int .u64))[n]? = some (.int .u64 w):=by
   rw [List.getElem?_map,List.getElem?_append_left hnl,List.getElem?_eq_getElem hnl,← hx,List.getElem?_eq_getElem hnl]; rfl
  have hlen:n < ((s.W ++ rest).map (Value.int .u64)).length:=by simp; omega
  have hset:((s.W ++ rest).map (Value.int .u64)).set n (.int .u64 (upd w).1) = (s.W.set n (upd w).1 ++ rest).map (Value.int .u64):=by
   rw [← List.map_set,List.set_append_left _ _ hnl]
  generalize hcells:(s.W ++ rest).map (Value.int .u64) = cells at *
  have hwB':∀ h:n < cells.length,cells[n] = .int .u64 w:=fun h=>by rw [List.getElem?_eq_getElem h] at hwB; exact Option.some.inj hwB
  simp [s137,sb137,j137_0,jb137_0,clip_t,hm,m1,m2,b1,b2,hn,← hGA,his,eB,oBm,cB,hne,hne',hwB,hwB',hlen,loadA_eq,loadO,oBn,xB]
  refine ⟨?_,bb,rest,?_⟩
  ·exact (((((mA.trans (xB.modP _)).put (.inl h.am) _).put (.inl h.am) _).put (.inl h.am) _).put (.inl h.ab) _).put (.inr (Nat.le_refl _)) _
  ·have nB:=xB.nx
   refine ⟨fun x hx=>?_,.inl h.am,.inl h.ab,?_,?_,?_⟩
   ·rcases hx with hx | hx
    ·have:=h.un x hx; simp; omega
    ·simpa using hx.2
   ·simp [m1,hne]
   ·simp [b1,← hset]
   ·simpa using h.hl
 ·have hcv:cellV bb s a = .pointer none:=by unfold cellV; rw [if_neg hin]
  have his:=is_ok orc none
  have hacc:s.acc kind a upd = ⟨s.W,kind,a,0,0,false,IntKind.wrap .i64 (s.many + 1)⟩:=by unfold MS.acc; rw [if_neg hin]
  rw [hcv,hacc]
  simp [s137,sb137,j137_0,jb137_0,clip_t,hm,m1,m2,his]
  refine ⟨?_,bb,rest,?_⟩
  ·exact ((((ModP.refl A G).push _).put (.inl h.am) _).put (.inl h.am) _).put (.inr (Nat.le_refl _)) _
  ·refine ⟨fun x hx=>?_,.inl h.am,.inl h.ab,?_,?_,h.hl⟩
   ·rcases hx with hx | hx
    ·have:=h.un x hx; simp; omega
    ·simpa using hx.2
   ·simp [m1]
   ·simp [b1,hne',h.hb]
theorem cellV_one (bb:Nat) (s:MS) (a:Int):one (cellV bb s a) = true:=by unfold cellV; split <;> rfl
theorem cellV_in {bb:Nat} {s:MS} {a:Int} (h1:0 ≤ a) (h2:a < s.W.length):cellV bb s a = .pointer (some ⟨bb,a.toNat,none⟩):=by unfold cellV; rw [if_pos ⟨h1,h2⟩]
theorem load_ok (orc:FuncId → Bool) (h:PMr A G m bb rest s) (a:Int):Wp ((E orc).cl 59 [P0 m,.int .i64 a] G) fun r=>r.1 = .int .u64 (s.load a).new ∧ ModP A G r.2 ∧ PMx (Grow A G r.2) r.2 m (s.load a):=by
 refine Wp.ref (f59 (exL_ok Q orc) _ _ G) ?_
 have hc:=cell_ok orc h a
 obtain ⟨G1,hG1⟩:∃ G1,G1 = ((G.push ⟨[.pointer none,.int .u64 0,.int .u64 0],1,false,1⟩).put G.nx ⟨[cellV bb s a,.int .u64 0,.int .u64 0],1,false,1⟩):=⟨_,rfl⟩
 have x1:Ext G G1:=by rw [hG1]; exact ((Ext.refl G).push _).put (Nat.le_refl _) _
 have o1:G1.obj G.nx = some ⟨[cellV bb s a,.int .u64 0,.int .u64 0],1,false,1⟩:=by rw [hG1]; simp
 obtain ⟨⟨v,G'⟩,e,q1,q2,q3⟩:=do_ok orc (h.ext x1) 1 a 138 [.agg ⟨[cellV bb s a,.int .u64 0,.int .u64 0]⟩] uLoad fun G1 w hb h1 h2 h3=>by
  have hbn:¬ bb = G1.nx:=by omega
  rw [cellV_in h1 h2]
  exact ⟨_,f138 (exL_ok Q orc) _ G1 _ (by simp [-cell_s,s138,cell_push,hbn,h3,uLoad]; rfl),(Ext.refl G1).push _⟩
 simp only at q1 q2 q3
 have hone:=cellV_one bb s a
 generalize cellV bb s a = cv at *
 have hcs:=cells_one hone
 simp [s59,hc,hcs,hone,← hG1,o1,e,q1]
 exact ⟨rfl,PMx.pre h.un x1 q2 q3⟩
theorem store_ok (orc:FuncId → Bool) (h:PMr A G m bb rest s) (a v:Int):Wp ((E orc).cl 150 [P0 m,.int .i64 a,.int .u64 v] G) fun r=>r.1 = .tuple #[] ∧ ModP A G r.2 ∧ PMx (Grow A G r.2) r.2 m (s.store a v):=by
 refine Wp.ref (f150 (exL_ok Q orc) _ _ _ G) ?_
 have hc:=cell_ok orc h a
 obtain ⟨G1,hG1⟩:∃ G1,G1 = ((G.push ⟨[.pointer none,.int .u64 0,.int .u64 0],1,false,1⟩).put G.nx ⟨[cellV bb s a,.int .u64 v,.int .u64 0],1,false,1⟩):=⟨_,rfl⟩
 have x1:Ext G G1:=by rw [hG1]; exact ((Ext.refl G).push _).put (Nat.le_refl _) _
 have o1:G1.obj G.nx = some ⟨[cellV bb s a,.int .u64 v,.int .u64 0],1,false,1⟩:=by rw [hG1]; simp
 obtain ⟨⟨v',G'⟩,e,q1,q2,q3⟩:=do_ok orc (h.ext x1) 2 a 203 [.agg ⟨[cellV bb s a,.int .u64 v,.int .u64 0]⟩] (uStore v) fun G1 w hb h1 h2 h3=>by
  rw [cellV_in h1 h2]
  exact ⟨_,f203 (exL_ok Q orc) _ G1 _ (by simp [s203,uStore]; rfl),(Ext.refl G1).push _⟩
 simp only at q1 q2 q3
 have hone:=cellV_one bb s a
 generalize cellV bb s a = cv at *
 have hcs:=cells_one hone
 simp [s150,hc,hcs,hone,← hG1,o1,e,q1]
 exact PMx.pre h.un x1 q2 q3
theorem cas_ok (orc:FuncId → Bool) (h:PMr A G m bb rest s) (a v w:Int):Wp ((E orc).cl 260 [P0 m,.int .i64 a,.int .u64 v,.int .u64 w] G) fun r=>r.1 = .bool (s.cas a v w).held ∧ ModP A G r.2 ∧ PMx (Grow A G r.2) r.2 m (s.cas a v w):=by
 refine Wp.ref (f260 (exL_ok Q orc) _ _ _ _ G) ?_
 have hc:=cell_ok orc h a
 obtain ⟨G1,hG1⟩:∃ G1,G1 = ((G.push ⟨[.pointer none,.int .u64 0,.int .u64 0],1,false,1⟩).put G.nx ⟨[cellV bb s a,.int .u64 v,.int .u64 w],1,false,1⟩):=⟨_,rfl⟩
 have x1:Ext G G1:=by rw [hG1]; exact ((Ext.refl G).push _).put (Nat.le_refl _) _
 have o1:G1.obj G.nx = some ⟨[cellV bb s a,.int .u64 v,.int .u64 w],1,false,1⟩:=by rw [hG1]; simp
 obtain ⟨⟨v',G'⟩,e,q1,q2,q3⟩:=do_ok orc (h.ext x1) 3 a 273 [.agg ⟨[cellV bb s a,.int .u64 v,.int .u64 w]⟩] (uCas v w) fun G1 x hb h1 h2 h3=>by
  rw [cellV_in h1 h2]
  have hbn:¬ bb = G1.nx:=by omega
  refine ⟨(G1.push ⟨[.pointer (some ⟨bb,a.toNat,none⟩),.int .u64 v,.int .u64 w],1,false,1⟩).room 7,f273 (exL_ok Q orc) _ G1 _ ?_,((Ext.refl G1).push _).room 7⟩
  by_cases hx:x = v
  ·simp [-cell_s,s273,cell_push,hbn,h3,uCas,hx]
  ·simp [-cell_s,s273,cell_push,hbn,h3,uCas,hx]
 simp only at q1 q2 q3
 have hone:=cellV_one bb s a
 generalize cellV bb s a = cv at *
 have hcs:=cells_one hone
 simp [s260,hc,hcs,hone,← hG1,o1,e,q1]
 exact ⟨rfl,PMx.pre h.un x1 q2 q3⟩
theorem new_ok (orc:FuncId → Bool) (n:Int) (G:GS):(n < 1 ∨ 4096 < n → (E orc).cl 70 [.int .i64 n] G = some (.tuple #[.pointer none,.int .i64 3],G)) ∧
  (1 ≤ n → n ≤ 4096 → ∃ m G',(E orc).cl 70 [.int .i64 n] G = some (.tuple #[P0 m,.int .i64 0],G') ∧ Ext G G' ∧ PMx (fun x=>G.nx ≤ x ∧ x < G'.nx) G' m (MS.zero n.toNat)):=by
 constructor
 ·intro h
  refine f70 (exL_ok Q orc) _ G _ ?_
  by_cases h1:n < 1
  ·simp [s70,h1]
  ·have h2:4096 < n:=by omega
   simp [s70,h1,h2]
 ·intro h1 h2
  have h1':¬ n < 1:=by omega
  have h2':¬ 4096 < n:=by omega
  refine ⟨G.nx + 1,_,f70 (exL_ok Q orc) _ G _ (by simp [s70,h1',h2']; rfl),((Ext.refl G).push _).push _,G.nx,List.replicate (4096 - n.toNat) 0,?_⟩
  refine ⟨fun x hx=>hx.2,⟨by omega,by simp⟩,⟨by omega,by simp; omega⟩,?_,?_,?_⟩
  ·have:((n.toNat:Nat):Int) = n:=by omega
   simp [MS.zero,this]
  ·have:List.replicate n.toNat (0:Int) ++ List.replicate (4096 - n.toNat) 0 = List.replicate 4096 0:=by
    rw [List.replicate_append_replicate]; congr 1; omega
   simp only [MS.zero,this,List.map_replicate]
   simp
  ·simp [MS.zero]; omega
end
end Go.Proofs.YtlaojmcekeohnaaGreatDoor.Lift
set_option linter.unusedVariables false
set_option linter.unusedSimpArgs false
set_option maxRecDepth 20000
namespace Go.Proofs.YtlaojmcekeohnaaGreatDoor.Lift
open Go Go.Proofs.YtlaojmcekeohnaaGreatDoor.Gh Go.Proofs
@[simp] theorem rowsI_sz (k:IntKind):(rowsI k).sz = 1:=rfl
@[simp] theorem rowsI_row (k:IntKind) (x:Int):(rowsI k).row x = [.int k x]:=rfl
theorem flat_ints (k:IntKind) (L:List Int):(rowsI k).flat L = L.map (Value.int k):=by
 induction L with
 | nil=>rfl
 | cons a l ih=>rw [RowE.flat_cons,ih]; rfl
section
variable {A:Nat → Prop} {G:GS} {m bb:Nat} {rest:List Int} {s:MS}
end
end Go.Proofs.YtlaojmcekeohnaaGreatDoor.Lift
set_option linter.unusedVariables false
set_option linter.unusedSimpArgs false
set_option maxRecDepth 20000
namespace Go.Proofs.YtlaojmcekeohnaaGreatDoor.Lift
open Go Go.Proofs.YtlaojmcekeohnaaGreatDoor.Gh Go.Proofs
def MS.at' (s:MS) (a:Int):Int:=if 0 ≤ a ∧ a < s.W.length then (s.W[a.toNat]?).getD 0 else 0
theorem sepP (m:Nat) (s:MS):Sep fun A G=>PMx A G m s:=⟨PMx.un,PMx.kept,PMx.mono⟩
def MS.ok (s:MS):Prop:=(∀ w ∈ s.W,U w) ∧ s.W.length ≤ 4096
theorem MS.ok.word {s:MS} (h:s.ok) (i:Nat):U ((s.W[i]?).getD 0):=by
 cases hq:s.W[i]? with
 | none=>exact ⟨by decide,by decide⟩
 | some w=>exact h.1 w (List.mem_of_getElem? hq)
theorem MS.ok.acc {s:MS} (h:s.ok) {u:Int → Int × Bool} (hu:∀ w,U w → U (u w).1) (k a:Int):(s.acc k a u).ok ∧ U (s.acc k a u).new:=by
 unfold MS.acc
 split
 ·refine ⟨⟨fun w hw=>?_,by simpa using h.2⟩,hu _ (h.word _)⟩
  rcases List.mem_or_eq_of_mem_set hw with hw | rfl
  ·exact h.1 w hw
  ·exact hu _ (h.word _)
 ·exact ⟨h,(show (0:Int) ≤ 0 by decide),(show (0:Int) < 18446744073709551616 by decide)⟩
theorem MS.ok.load {s:MS} (h:s.ok) (a:Int):(s.load a).ok ∧ U (s.load a).new:=h.acc (fun w hw=>hw) 1 a
theorem MS.ok.store {s:MS} (h:s.ok) (a:Int) {v:Int} (hv:U v):(s.store a v).ok:=(h.acc (fun w hw=>hv) 2 a).1
theorem MS.ok.cas {s:MS} (h:s.ok) (a x:Int) {y:Int} (hy:U y):(s.cas a x y).ok:=(h.acc (fun w hw=>by unfold uCas; split <;> assumption) 3 a).1
theorem U_wrap (x:Int):U (IntKind.wrap .u64 x):=by rw [wrap_u64]; unfold U; omega
theorem MS.ok.add {s:MS} (h:s.ok) (a n:Int):(s.add a n).ok ∧ U (s.add a n).new:=h.acc (fun w hw=>U_wrap _) 4 a
theorem U_zero':U 0:=⟨by decide,by decide⟩
theorem MS.ok.at' {s:MS} (h:s.ok) (a:Int):U (s.at' a):=by
 unfold MS.at'; split
 ·exact h.word _
 ·exact U_zero'
end Go.Proofs.YtlaojmcekeohnaaGreatDoor.Lift
set_option linter.unusedVariables false
set_option linter.unusedSimpArgs false
set_option maxRecDepth 20000
namespace Go.Proofs.YtlaojmcekeohnaaGreatDoor.Lift
open Go Go.Proofs.YtlaojmcekeohnaaGreatDoor.Gh Go.Proofs
structure Stp (t:Nat) (B:Nat → Prop) (own:Nat → Nat) (G:GS) (own':Nat → Nat) (G':GS):Prop where
 agr:Agr own own' G
 mod:ModP (fun x=>own x = t ∨ B x) G G'
abbrev no:Nat → Prop:=fun _=>False
section
variable {t m r b:Nat} {B B':Nat → Prop} {own own1 own2:Nat → Nat} {G G1 G2:GS} {s s':MS}
theorem Stp.nx (h:Stp t B own G own1 G1):G.nx ≤ G1.nx:=h.mod.nx
theorem Stp.refl (t:Nat) (B:Nat → Prop) (own:Nat → Nat) (G:GS):Stp t B own G own G:=⟨Agr.refl _ _,ModP.refl _ _⟩
theorem Stp.keep (h:Stp t B own G own1 G1) {g:Nat} (hg:g < G.nx) (ht:own g ≠ t) (hB:¬ B g):G1.obj g = G.obj g:=h.mod.obj g hg fun k=>k.elim ht hB
theorem Stp.same (h:Stp t B own G own1 G1) {g:Nat} (hg:g < G.nx):own1 g = own g:=h.agr g hg
theorem Stp.trans (h:Stp t B own G own1 G1) (k:Stp t B' own1 G1 own2 G2) (hs:∀ x,x < G.nx → B' x → B x):Stp t B own G own2 G2 :=
 ⟨h.agr.trans k.agr h.nx,⟨Nat.le_trans h.nx k.nx,fun g hg hn=>(k.mod.obj g (Nat.lt_of_lt_of_le hg h.nx) fun q=>hn (q.elim (fun q=>.inl ((h.agr g hg).symm.trans q)) fun q=>.inr (hs g hg q))).trans (h.mod.obj g hg hn),Nat.le_trans h.mod.nl k.mod.nl,fun l hl=>(k.mod.loop l (Nat.lt_of_lt_of_le hl h.mod.nl)).trans (h.mod.loop l hl)⟩⟩
theorem Stp.mono (h:Stp t B own G own1 G1) (hs:∀ x,x < G.nx → B x → B' x):Stp t B' own G own1 G1:=(Stp.refl t B' own G).trans h hs
theorem Stp.ext (x:Ext G G1):Stp t B own G (grown own G 13) G1:=⟨grown_agr,x.modP _⟩
theorem Stp.put (h:Stp t B own G own1 G1) (hb:B b ∨ G.nx ≤ b) (o:GObj):Stp t B own G own1 (G1.put b o) :=
 ⟨h.agr,h.mod.put (hb.imp .inr id) o⟩
def PM (own:Nat → Nat) (G:GS) (m:Nat) (s:MS):Prop:=PMx (Tag own G 10) G m s
theorem PM.to (h:PM own G m s) (k:Stp t B own G own1 G1) (ht:t ≠ 10) (hB:∀ x,x < G.nx → B x → own x ≠ 10):PM own1 G1 m s :=
 (sepP m s).mono ((sepP m s).kept h k.nx fun g hg=>k.keep hg.1 (by rw [hg.2]; exact ht.symm) fun q=>hB g hg.1 q hg.2) (Tag.le k.agr k.nx) Tag.under
theorem PM.ext (h:PM own G m s) (x:Ext G G1):PM (grown own G 13) G1 m s:=h.to (t:=11) (B:=no) (Stp.ext x) (by decide) fun _ _ h=>h.elim
theorem PM.put (h:PM own G m s) (hb:b < G.nx → own b ≠ 10) (o:GObj):PM own (G.put b o) m s:=by
 by_cases hl:b < G.nx
 ·exact h.to (t:=11) (B:=fun x=>x = b) ((Stp.refl _ (fun x=>x = b) _ _).put (.inl rfl) o) (by decide) fun x _ (e:x = b)=>by rw [e]; exact hb hl
 ·exact h.to (t:=11) (B:=no) ((Stp.refl _ _ _ _).put (.inr (by omega)) o) (by decide) fun _ _ h=>h.elim
structure PW (B:Nat → Prop) (own:Nat → Nat) (G:GS) (own1:Nat → Nat) (G1:GS) (m:Nat) (s:MS):Prop where
 stp:Stp 10 B own G own1 G1
 pm:PM own1 G1 m s
theorem PW.refl (h:PM own G m s):PW B own G own G m s:=⟨Stp.refl _ _ _ _,h⟩
theorem PW.nx (w:PW B own G own1 G1 m s):G.nx ≤ G1.nx:=w.stp.nx
theorem PW.ext (w:PW B own G own1 G1 m s) (x:Ext G1 G2):PW B own G (grown own1 G1 13) G2 m s:=⟨w.stp.trans (B':=no) (Stp.ext x) fun _ _ h=>h.elim,w.pm.ext x⟩
theorem PW.put (w:PW B own G own1 G1 m s) (hb:B b ∨ G.nx ≤ b) (h10:b < G1.nx → own1 b ≠ 10) (o:GObj):PW B own G own1 (G1.put b o) m s:=⟨w.stp.put hb o,w.pm.put h10 o⟩
theorem PW.putB (w:PW B own G own1 G1 m s) (hB:B b) (hb:b < G.nx) (h10:own b ≠ 10) (o:GObj):PW B own G own1 (G1.put b o) m s:=w.put (.inl hB) (fun _=>by rw [w.stp.same hb]; exact h10) o
theorem PW.trans (w:PW B own G own1 G1 m s) (k:PW B' own1 G1 own2 G2 m s') (hs:∀ x,x < G.nx → B' x → B x):PW B own G own2 G2 m s':=⟨w.stp.trans k.stp hs,k.pm⟩
theorem PW.mono (w:PW B own G own1 G1 m s) (hs:∀ x,x < G.nx → B x → B' x):PW B' own G own1 G1 m s:=⟨w.stp.mono hs,w.pm⟩
theorem PW.keep (w:PW B own G own1 G1 m s) {g:Nat} (hg:g < G.nx) (ht:own g ≠ 10) (hB:¬ B g):G1.obj g = G.obj g:=w.stp.keep hg ht hB
theorem pw_of (h:PM own G m s) {s1:MS} (q:ModP (Tag own G 10) G G1) (k:PMx (Grow (Tag own G 10) G G1) G1 m s1):PW no own G (grown own G 10) G1 m s1 :=
 ⟨⟨grown_agr,q.mono fun x hx=>.inl hx.2⟩,(sepP m s1).step q.nx k⟩
theorem PM.load (orc:FuncId → Bool) (h:PM own G m s) (a:Int):∃ own1 G1,(E orc).cl 59 [P0 m,.int .i64 a] G = some (.int .u64 (s.load a).new,G1) ∧ PW no own G own1 G1 m (s.load a):=by
 obtain ⟨bb,rest,hm⟩:=h
 obtain ⟨⟨x,G1⟩,e,rfl,q2,q3⟩:=load_ok orc hm a
 exact ⟨_,G1,e,pw_of ⟨bb,rest,hm⟩ q2 q3⟩
theorem PM.store (orc:FuncId → Bool) (h:PM own G m s) (a v:Int):∃ own1 G1,(E orc).cl 150 [P0 m,.int .i64 a,.int .u64 v] G = some (.tuple #[],G1) ∧ PW no own G own1 G1 m (s.store a v):=by
 obtain ⟨bb,rest,hm⟩:=h
 obtain ⟨⟨x,G1⟩,e,rfl,q2,q3⟩:=store_ok orc hm a v
 exact ⟨_,G1,e,pw_of ⟨bb,rest,hm⟩ q2 q3⟩
theorem PM.cas (orc:FuncId → Bool) (h:PM own G m s) (a v w:Int):∃ own1 G1,(E orc).cl 260 [P0 m,.int .i64 a,.int .u64 v,.int .u64 w] G = some (.bool (s.cas a v w).held,G1) ∧ PW no own G own1 G1 m (s.cas a v w):=by
 obtain ⟨bb,rest,hm⟩:=h
 obtain ⟨⟨x,G1⟩,e,rfl,q2,q3⟩:=cas_ok orc hm a v w
 exact ⟨_,G1,e,pw_of ⟨bb,rest,hm⟩ q2 q3⟩
end
end Go.Proofs.YtlaojmcekeohnaaGreatDoor.Lift
set_option linter.unusedVariables false
set_option linter.unusedSimpArgs false
set_option maxRecDepth 20000
namespace Go.Proofs.YtlaojmcekeohnaaGreatDoor.Lift
open Go Go.Proofs.YtlaojmcekeohnaaGreatDoor.Gh Go.Proofs
section
variable {A:Nat → Prop} {m r bb wb:Nat} {rest:List Int} {own:Nat → Nat} {G:GS} {s:MS}
theorem add_ok (orc:FuncId → Bool) (h:PMr A G m bb rest s) (a v:Int):Wp ((E orc).cl 245 [P0 m,.int .i64 a,.int .u64 v] G) fun r=>r.1 = .int .u64 (s.add a v).new ∧ ModP A G r.2 ∧ PMx (Grow A G r.2) r.2 m (s.add a v):=by
 refine Wp.ref (f245 (exL_ok Q orc) _ _ _ G) ?_
 have hc:=cell_ok orc h a
 obtain ⟨G1,hG1⟩:∃ G1,G1 = ((G.push ⟨[.pointer none,.int .u64 0,.int .u64 0],1,false,1⟩).put G.nx ⟨[cellV bb s a,.int .u64 v,.int .u64 0],1,false,1⟩):=⟨_,rfl⟩
 have x1:Ext G G1:=by rw [hG1]; exact ((Ext.refl G).push _).put (Nat.le_refl _) _
 have o1:G1.obj G.nx = some ⟨[cellV bb s a,.int .u64 v,.int .u64 0],1,false,1⟩:=by rw [hG1]; simp
 obtain ⟨⟨v',G'⟩,e,q1,q2,q3⟩:=do_ok orc (h.ext x1) 4 a 266 [.agg ⟨[cellV bb s a,.int .u64 v,.int .u64 0]⟩] (uAdd v) fun G1 w hb h1 h2 h3=>by
  have hbn:¬ bb = G1.nx:=by omega
  rw [cellV_in h1 h2]
  exact ⟨_,f266 (exL_ok Q orc) _ G1 _ (by simp [-cell_s,s266,cell_push,hbn,h3,uAdd]; rfl),((Ext.refl G1).push _).room _⟩
 simp only at q1 q2 q3
 have hone:=cellV_one bb s a
 generalize cellV bb s a = cv at *
 have hcs:=cells_one hone
 simp [s245,hc,hcs,hone,← hG1,o1,e,q1]
 exact ⟨rfl,PMx.pre h.un x1 q2 q3⟩
theorem PM.add (orc:FuncId → Bool) (h:PM own G m s) (a v:Int):∃ own1 G1,(E orc).cl 245 [P0 m,.int .i64 a,.int .u64 v] G = some (.int .u64 (s.add a v).new,G1) ∧ PW no own G own1 G1 m (s.add a v):=by
 obtain ⟨bb,rest,hm⟩:=h
 obtain ⟨⟨x,G1⟩,e,rfl,q2,q3⟩:=add_ok orc hm a v
 exact ⟨_,G1,e,pw_of ⟨bb,rest,hm⟩ q2 q3⟩
end
end Go.Proofs.YtlaojmcekeohnaaGreatDoor.Lift
set_option linter.unusedVariables false
set_option linter.unusedSimpArgs false
set_option maxRecDepth 20000
namespace Go.Proofs.YtlaojmcekeohnaaGreatDoor.Lift
open Go Go.Proofs.YtlaojmcekeohnaaGreatDoor.Gh Go.Proofs
theorem and_48 {w:Int} (h:U w):andI .u64 w 281474976710655 = w % 281474976710656:=by
 rw [and_u64 h ⟨by decide,by decide⟩]
 have:w.toNat &&& (281474976710655:Int).toNat = w.toNat % 281474976710656:=Nat.and_two_pow_sub_one_eq_mod w.toNat 48
 rw [this]
 have:=h.1
 omega
theorem and_32 {w:Int} (h:U w):andI .u64 w 4294967295 = w % 4294967296:=by
 rw [and_u64 h ⟨by decide,by decide⟩]
 have:w.toNat &&& (4294967295:Int).toNat = w.toNat % 4294967296:=Nat.and_two_pow_sub_one_eq_mod w.toNat 32
 rw [this]
 have:=h.1
 omega
theorem shr_0 {w:Int} (h:U w):shrI .u64 w 0 = w:=by
 show w.fdiv (2 ^ (min (0:Int).toNat 64)) = _
 rw [show (min (0:Int).toNat 64) = 0 from rfl,Int.fdiv_eq_ediv_of_nonneg _ (by decide)]; simp
theorem take_lo (orc:FuncId → Bool) {w:Int} (h:U w) (G:GS):∃ G',(E orc).cl 219 [.int .u64 w,.agg ⟨[.int .i64 0,.int .i64 16]⟩] G = some (.int .i64 (w % 65536),G') ∧ Ext G G':=by
 refine ⟨(G.push ⟨[.int .i64 0,.int .i64 16],1,false,1⟩).room 11,f219 (exL_ok Q orc) _ _ G _ ?_,((Ext.refl G).push _).room 11⟩
 have e1:shlI .u64 1 16 = 65536:=by decide
 have e2:IntKind.wrap .u64 65535 = 65535:=by decide
 have e3:IntKind.wrap .i64 (w % 65536) = w % 65536:=wrap64 (by omega) (by omega)
 simp [s219,shr_0 h,e1,e2,and_low h,e3]
theorem U_div {w:Int} (h:U w) (k:Int) (hk:0 < k):U (w / k):=by
 have h1:=h.1; have h2:=h.2
 refine ⟨Int.ediv_nonneg h1 (by omega),?_⟩
 have:=Int.ediv_le_self k h1
 omega
theorem take_hi (orc:FuncId → Bool) {w:Int} (h:U w) (G:GS):∃ G',(E orc).cl 219 [.int .u64 w,.agg ⟨[.int .i64 16,.int .i64 48]⟩] G = some (.int .i64 (w / 65536),G') ∧ Ext G G':=by
 refine ⟨(G.push ⟨[.int .i64 16,.int .i64 48],1,false,1⟩).room 11,f219 (exL_ok Q orc) _ _ G _ ?_,((Ext.refl G).push _).room 11⟩
 have e1:shlI .u64 1 48 = 281474976710656:=by decide
 have e2:IntKind.wrap .u64 281474976710655 = 281474976710655:=by decide
 have h1:=h.1; have h2:=h.2
 have e4:w / 65536 % 281474976710656 = w / 65536:=by omega
 have e3:IntKind.wrap .i64 (w / 65536) = w / 65536:=wrap64 (by omega) (by omega)
 simp [s219,shr_16 h,e1,e2,and_48 (U_div h 65536 (by decide)),e4,e3]
theorem tops_ok (orc:FuncId → Bool) (ht:orc 270 = false) (G:GS):∃ G',(E orc).cl 270 [] G = some (.agg ⟨[.int .i64 0,.int .i64 16,.int .i64 16,.int .i64 48]⟩,G') ∧ Ext G G':=by
 refine ⟨(G.push ⟨[.int .i64 0,.int .i64 0,.int .i64 0,.int .i64 0],1,false,1⟩).put G.nx ⟨[.int .i64 0,.int .i64 16,.int .i64 16,.int .i64 48],1,false,1⟩,f270 (exL_ok Q orc) ht G _ ?_,((Ext.refl G).push _).put (Nat.le_refl _) _⟩
 simp [s270,splice_put,splice_end]
theorem refs_ok (orc:FuncId → Bool) (ht:orc 218 = false) (G:GS):∃ G',(E orc).cl 218 [] G = some (.agg ⟨[.int .i64 0,.int .i64 16,.int .i64 16,.int .i64 32]⟩,G') ∧ Ext G G':=by
 refine ⟨(G.push ⟨[.int .i64 0,.int .i64 0,.int .i64 0,.int .i64 0],1,false,1⟩).put G.nx ⟨[.int .i64 0,.int .i64 16,.int .i64 16,.int .i64 32],1,false,1⟩,f218 (exL_ok Q orc) ht G _ ?_,((Ext.refl G).push _).put (Nat.le_refl _) _⟩
 simp [s218,splice_put,splice_end]
theorem gettop_ok (orc:FuncId → Bool) (ht:orc 270 = false) {w:Int} (h:U w) (G:GS):∃ G',(E orc).cl 274 [.int .u64 w] G = some (.tuple #[.agg ⟨[.int .i64 (w % 65536 - 1),.int .i64 (w / 65536)]⟩,.int .i64 0],G') ∧ Ext G G':=by
 obtain ⟨G1,hG1⟩:∃ G1,G1 = G.push ⟨[.int .i64 0,.int .i64 0],1,false,1⟩:=⟨_,rfl⟩
 have x1:Ext G G1:=by rw [hG1]; exact (Ext.refl G).push _
 have n1:G1.nx = G.nx + 1:=by rw [hG1]; rfl
 have o1:G1.obj G.nx = some ⟨[.int .i64 0,.int .i64 0],1,false,1⟩:=by rw [hG1]; simp
 obtain ⟨G2,e2,x2⟩:=tops_ok orc ht G1
 have o2:=(x2.obj G.nx (by omega)).trans o1
 obtain ⟨G3,hG3⟩:∃ G3,G3 = ((G2.push ⟨[.int .i64 0,.int .i64 0,.int .i64 0,.int .i64 0],1,false,1⟩).put G2.nx ⟨[.int .i64 0,.int .i64 16,.int .i64 16,.int .i64 48],1,false,1⟩).room 12:=⟨_,rfl⟩
 have n2:=x2.nx
 have x3:Ext G2 G3:=by rw [hG3]; exact (((Ext.refl G2).push _).put (Nat.le_refl _) _).room 12
 have o3:=(x3.obj G.nx (by omega)).trans o2
 have p3:G3.obj G2.nx = some ⟨[.int .i64 0,.int .i64 16,.int .i64 16,.int .i64 48],1,false,1⟩:=by rw [hG3]; simp
 have n3:G2.nx < G3.nx:=by rw [hG3]; simp; omega
 obtain ⟨G4,e4,x4⟩:=take_lo orc h G3
 have o4:=(x4.obj G.nx (by omega)).trans o3
 have p4:=(x4.obj G2.nx n3).trans p3
 obtain ⟨G5,e5,x5⟩:=take_hi orc h G4
 have o5:=(x5.obj G.nx (by have:=x4.nx; omega)).trans o4
 have hm:IntKind.wrap .i64 (w % 65536 - 1) = w % 65536 - 1:=wrap64 (by omega) (by omega)
 have w:Wp (s274 true (exL Q orc) (.int .u64 w) G) fun r=>r.1 = .tuple #[.agg ⟨[.int .i64 (w % 65536 - 1),.int .i64 (w / 65536)]⟩,.int .i64 0] ∧ Ext G r.2:=by
  simp [s274,← hG1,e2,splice_put,splice_end,← hG3,p3,e4,p4,e5,o5,hm]
  exact ((((x1.trans x2).trans x3).trans x4).trans x5).put (Nat.le_refl _) _
 obtain ⟨⟨v,G'⟩,e1,rfl,e3⟩:=w
 exact ⟨G',f274 (exL_ok Q orc) _ G _ e1,e3⟩
theorem within2_ok (orc:FuncId → Bool) {b ez:Nat} {n1 l1 h1 n2 l2 h2:Int} {G:GS} (ho:G.obj b = some ⟨[.int .i64 n1,.int .i64 l1,.int .i64 h1,.int .i64 n2,.int .i64 l2,.int .i64 h2],ez,false,1⟩) (hb:b < G.nx) (q1:l1 ≤ n1 ∧ n1 ≤ h1) (q2:l2 ≤ n2 ∧ n2 ≤ h2) :
  ∃ G',(E orc).cl 252 [.slice (some ⟨b,0,none⟩) 2 2] G = some (.bool true,G') ∧ Ext G G':=by
 have l2':∀ τ G,τ 5 = .slice (some ⟨b,0,none⟩) 2 2 → τ 6 = .int .i64 2 → τ 7 = .int .i64 2 → Wp ((exL Q orc).lpx 252 0 τ G) fun q=>q.1 = .exit 0 ∧ q.2.2 = G:=by
  intro τ G t5 t6 t7
  refine Wp.lp (l252_0 (exL_ok Q orc)) ?_
  simp [b252_0,clip_t,t5,t6,t7]
 have a1:¬ n1 < l1:=by omega
 have a2:¬ h1 < n1:=by omega
 have a3:¬ n2 < l2:=by omega
 have a4:¬ h2 < n2:=by omega
 have w1:IntKind.wrap .i64 1 = 1:=by decide
 have w2:IntKind.wrap .i64 2 = 2:=by decide
 have l1':∀ τ G,G.obj b = some ⟨[.int .i64 n1,.int .i64 l1,.int .i64 h1,.int .i64 n2,.int .i64 l2,.int .i64 h2],ez,false,1⟩ → b < G.nx → τ 5 = .slice (some ⟨b,0,none⟩) 2 2 → τ 6 = .int .i64 2 → τ 7 = .int .i64 1 → Wp ((exL Q orc).lpx 252 0 τ G) fun q=>q.1 = .exit 0 ∧ Ext G q.2.2:=by
  intro τ G ho hb t5 t6 t7
  refine Wp.lp (l252_0 (exL_ok Q orc)) ?_
  have hne:¬ b = G.nx:=by omega
  simp [b252_0,clip_t,t5,t6,t7,ho,a3,a4,splice_put,splice_end]
  refine Wp.mono (l2' _ _ (by simp [clip_t]) (by simp [clip_t]) (by simp [clip_t,w2])) ?_
  rintro q ⟨h1,h2⟩
  refine ⟨h1,?_⟩
  rw [h2]
  exact ((Ext.refl G).push _).put (Nat.le_refl _) _
 have w:Wp (s252 true (exL Q orc) (.slice (some ⟨b,0,none⟩) 2 2) G) fun r=>r.1 = .bool true ∧ Ext G r.2:=by
  simp [s252]
  refine Wp.bE ((Wp.lp (l252_0 (exL_ok Q orc)) (Q:=fun q=>q.1 = .exit 0 ∧ Ext G q.2.2) ?_).mono ?_)
  ·have hne:¬ b = G.nx:=by omega
   simp [b252_0,clip_t,ho,a1,a2,splice_put,splice_end]
   refine Wp.mono (l1' _ _ (by simp [hne,ho]) (by simp; omega) (by simp [clip_t]) (by simp [clip_t]) (by simp [clip_t,w1])) ?_
   rintro q ⟨h1,h2⟩
   exact ⟨h1,(((Ext.refl G).push _).put (Nat.le_refl _) _).trans h2⟩
  ·rintro ⟨e,τ,G'⟩ ⟨rfl,h2⟩
   simp
   exact h2
 obtain ⟨⟨v,G'⟩,e1,rfl,e3⟩:=w
 exact ⟨G',f252 (exL_ok Q orc) _ G _ e1,e3⟩
theorem with_raw (orc:FuncId → Bool) (w f m n:Int) (G:GS) (hf:0 ≤ f ∧ f < 64):(E orc).cl 271 [.int .u64 w,.agg ⟨[.int .i64 f,.int .i64 m]⟩,.int .i64 n] G = some (.int .u64 (orI .u64 w (shlI .u64 (IntKind.wrap .u64 n) f)),G.push ⟨[.int .i64 f,.int .i64 m],1,false,1⟩):=by
 have h0:¬ f < 0:=by omega
 refine f271 (exL_ok Q orc) _ _ _ G _ ?_
 simp [s271,h0]
end Go.Proofs.YtlaojmcekeohnaaGreatDoor.Lift
set_option linter.unusedVariables false
set_option linter.unusedSimpArgs false
set_option maxRecDepth 20000
namespace Go.Proofs.YtlaojmcekeohnaaGreatDoor.Lift
open Go Go.Proofs.YtlaojmcekeohnaaGreatDoor.Gh Go.Proofs
theorem lay2_ok (orc:FuncId → Bool) {b c bz cz:Nat} {m1 m2 n1 n2:Int} {G:GS} (ho:G.obj b = some ⟨[.int .i64 0,.int .i64 m1,.int .i64 16,.int .i64 m2],bz,false,1⟩) (hc:G.obj c = some ⟨[.int .i64 n1,.int .i64 n2],cz,false,1⟩) (hb:b < G.nx) (hcn:c < G.nx) :
  ∃ G',(E orc).cl 254 [.slice (some ⟨b,0,none⟩) 2 2,.slice (some ⟨c,0,none⟩) 2 2] G = some (.int .u64 (orI .u64 (orI .u64 0 (shlI .u64 (IntKind.wrap .u64 n1) 0)) (shlI .u64 (IntKind.wrap .u64 n2) 16)),G') ∧ Ext G G':=by
 have w1:IntKind.wrap .i64 1 = 1:=by decide
 have w2:IntKind.wrap .i64 2 = 2:=by decide
 have r0:=fun G=>with_raw orc 0 0 m1 n1 G (by decide)
 have r1:=fun G=>with_raw orc (orI .u64 0 (shlI .u64 (IntKind.wrap .u64 n1) 0)) 16 m2 n2 G (by decide)
 generalize hu:orI .u64 0 (shlI .u64 (IntKind.wrap .u64 n1) 0) = u at *
 generalize hv:orI .u64 u (shlI .u64 (IntKind.wrap .u64 n2) 16) = v at *
 have l2':∀ τ G,τ 1 = .slice (some ⟨c,0,none⟩) 2 2 → τ 8 = .slice (some ⟨b,0,none⟩) 2 2 → τ 9 = .int .i64 2 → τ 10 = .int .i64 2 → τ 5 = .int .u64 v → Wp ((exL Q orc).lpx 254 0 τ G) fun q=>q.1 = .exit 0 ∧ q.2.1 5 = .int .u64 v ∧ q.2.2 = G:=by
  intro τ G t1 t8 t9 t10 t5
  refine Wp.lp (l254_0 (exL_ok Q orc)) ?_
  simp [b254_0,clip_t,t1,t8,t9,t10,t5]
 have l1':∀ τ G,G.obj b = some ⟨[.int .i64 0,.int .i64 m1,.int .i64 16,.int .i64 m2],bz,false,1⟩ → G.obj c = some ⟨[.int .i64 n1,.int .i64 n2],cz,false,1⟩ → b < G.nx → c < G.nx → τ 1 = .slice (some ⟨c,0,none⟩) 2 2 → τ 8 = .slice (some ⟨b,0,none⟩) 2 2 → τ 9 = .int .i64 2 → τ 10 = .int .i64 1 → τ 5 = .int .u64 u → Wp ((exL Q orc).lpx 254 0 τ G) fun q=>q.1 = .exit 0 ∧ q.2.1 5 = .int .u64 v ∧ Ext G q.2.2:=by
  intro τ G ho hc hb hcn t1 t8 t9 t10 t5
  have hne:¬ c = G.nx:=by omega
  refine Wp.lp (l254_0 (exL_ok Q orc)) ?_
  simp [b254_0,clip_t,t1,t8,t9,t10,t5,ho,hc,hne,splice_put,splice_end,r1]
  refine Wp.mono (l2' _ _ (by simp [clip_t]) (by simp [clip_t]) (by simp [clip_t]) (by simp [clip_t,w2]) (by simp [clip_t])) ?_
  rintro q ⟨h1,h2,h3⟩
  refine ⟨h1,h2,?_⟩
  rw [h3]
  exact ((((Ext.refl G).push _).put (Nat.le_refl _) _).room _).push _
 have w:Wp (s254 true (exL Q orc) (.slice (some ⟨b,0,none⟩) 2 2) (.slice (some ⟨c,0,none⟩) 2 2) G) fun r=>r.1 = .int .u64 v ∧ Ext G r.2:=by
  simp [s254]
  have hne:¬ c = G.nx:=by omega
  have hne':¬ b = G.nx:=by omega
  have hne1:¬ c = G.nx + 1:=by omega
  have hne1':¬ b = G.nx + 1:=by omega
  refine Wp.bE ((Wp.lp (l254_0 (exL_ok Q orc)) (Q:=fun q=>q.1 = .exit 0 ∧ q.2.1 5 = .int .u64 v ∧ Ext G q.2.2) ?_).mono ?_)
  ·simp [b254_0,clip_t,ho,hc,hne,splice_put,splice_end,r0]
   have x:Ext G ((((G.push ⟨z312,1,false,1⟩).put G.nx ⟨[.int .i64 0,.int .i64 m1],1,false,1⟩).room 8).push ⟨[.int .i64 0,.int .i64 m1],1,false,1⟩):=((((Ext.refl G).push _).put (Nat.le_refl _) _).room _).push _
   refine Wp.mono (l1' _ _ ((x.obj b hb).trans ho) ((x.obj c hcn).trans hc) (Nat.lt_of_lt_of_le hb x.nx) (Nat.lt_of_lt_of_le hcn x.nx) (by simp [clip_t]) (by simp [clip_t]) (by simp [clip_t]) (by simp [clip_t,w1]) (by simp [clip_t])) ?_
   rintro q ⟨h1,h2,h3⟩
   exact ⟨h1,h2,x.trans h3⟩
  ·rintro ⟨e,τ,G'⟩ ⟨rfl,h2,h3⟩
   simp only at h2 h3
   simp [h2]
   exact h3
 obtain ⟨⟨v,G'⟩,e1,rfl,e3⟩:=w
 exact ⟨G',f254 (exL_ok Q orc) _ _ G _ e1,e3⟩
def wordT (i tag:Int):Int:=i + 1 + tag * 65536
theorem lay_val {i t:Int} (h0:-1 ≤ i ∧ i ≤ 65534) (h1:0 ≤ t ∧ t < 281474976710656):orI .u64 (orI .u64 0 (shlI .u64 (IntKind.wrap .u64 (i + 1)) 0)) (shlI .u64 (IntKind.wrap .u64 t) 16) = wordT i t:=by
 have a:IntKind.wrap .u64 (i + 1) = i + 1:=by rw [wrap_u64]; omega
 have b:IntKind.wrap .u64 t = t:=by rw [wrap_u64]; omega
 have c:shlI .u64 (i + 1) 0 = i + 1:=by
  show IntKind.wrap .u64 ((i + 1) * 2 ^ (min (0:Int).toNat 64)) = _
  rw [show (min (0:Int).toNat 64) = 0 from rfl,wrap_u64]; omega
 have d:shlI .u64 t 16 = t * 65536:=by
  show IntKind.wrap .u64 (t * 2 ^ (min (16:Int).toNat 64)) = _
  rw [show (min (16:Int).toNat 64) = 16 from rfl,wrap_u64,show (2:Int) ^ 16 = 65536 from rfl]; omega
 have e:orI .u64 0 (i + 1) = i + 1:=by
  rw [or_u64 ⟨by decide,by decide⟩ ⟨by omega,by omega⟩]
  simp; omega
 rw [a,b,c,d,e]
 have hu1:U (i + 1):=⟨by omega,by omega⟩
 have hu2:U (t * 65536):=⟨by omega,by omega⟩
 have k:=or_add 16 t.toNat hu2 hu1 (by omega) (by omega)
 rw [or_u64 hu1 hu2,Nat.or_comm,← or_u64 hu2 hu1,k]
 unfold wordT; omega
theorem puttop_ok (orc:FuncId → Bool) (ht:orc 270 = false) {i t:Int} (h0:-1 ≤ i ∧ i ≤ 65534) (h1:0 ≤ t ∧ t < 281474976710656) (G:GS):∃ G',(E orc).cl 251 [.agg ⟨[.int .i64 i,.int .i64 t]⟩] G = some (.tuple #[.int .u64 (wordT i t),.int .i64 0],G') ∧ Ext G G':=by
 have x1:Ext G ((G.push ⟨[.int .i64 i,.int .i64 t],1,false,1⟩).push ⟨[.int .i64 i,.int .i64 (-1),.int .i64 65534,.int .i64 t,.int .i64 0,.int .i64 281474976710655],3,false,1⟩):=((Ext.refl G).push _).push _
 have o1:((G.push ⟨[.int .i64 i,.int .i64 t],1,false,1⟩).push ⟨[.int .i64 i,.int .i64 (-1),.int .i64 65534,.int .i64 t,.int .i64 0,.int .i64 281474976710655],3,false,1⟩).obj G.nx = some ⟨[.int .i64 i,.int .i64 t],1,false,1⟩:=by simp
 have p1:((G.push ⟨[.int .i64 i,.int .i64 t],1,false,1⟩).push ⟨[.int .i64 i,.int .i64 (-1),.int .i64 65534,.int .i64 t,.int .i64 0,.int .i64 281474976710655],3,false,1⟩).obj (G.nx + 1) = some ⟨[.int .i64 i,.int .i64 (-1),.int .i64 65534,.int .i64 t,.int .i64 0,.int .i64 281474976710655],3,false,1⟩:=by simp
 have n1:((G.push ⟨[.int .i64 i,.int .i64 t],1,false,1⟩).push ⟨[.int .i64 i,.int .i64 (-1),.int .i64 65534,.int .i64 t,.int .i64 0,.int .i64 281474976710655],3,false,1⟩).nx = G.nx + 2:=rfl
 have w:Wp (s251 true (exL Q orc) (.agg ⟨[.int .i64 i,.int .i64 t]⟩) G) fun r=>r.1 = .tuple #[.int .u64 (wordT i t),.int .i64 0] ∧ Ext G r.2:=by
  simp [s251]
  generalize hG1:(GS.push (GS.push G _) _) = G1 at *
  obtain ⟨G2,e2,x2⟩:=within2_ok orc p1 (by omega) ⟨h0.1,h0.2⟩ ⟨h1.1,by omega⟩
  have n2:=x2.nx
  have o2:=(x2.obj G.nx (by omega)).trans o1
  obtain ⟨G3,e3,x3⟩:=tops_ok orc ht G2
  have n3:=x3.nx
  have o3:=(x3.obj G.nx (by omega)).trans o2
  have hne:¬ G.nx = G3.nx:=by omega
  have hi:IntKind.wrap .i64 (i + 1) = i + 1:=wrap64 (by omega) (by omega)
  simp [e2,e3,hne,o3,splice_put,splice_end,slA,bound,hi]
  generalize hG5:GS.back _ _ = G5
  have x5:Ext G3 G5:=by rw [← hG5]; exact Ext.drawn ((((Ext.refl G3).push _).put (Nat.le_refl _) _).room 10) (by omega) (by simp; omega) _
  have p5:G5.obj G3.nx = some ⟨[.int .i64 0,.int .i64 16,.int .i64 16,.int .i64 48],1,false,1⟩:=by rw [← hG5]; simp; omega
  have c5:G5.obj (G3.nx + 1 + 6) = some ⟨[.int .i64 (i + 1),.int .i64 t],1,false,1⟩:=by rw [← hG5]; simp
  have n5:G5.nx = G3.nx + 1 + 10:=by rw [← hG5]; simp
  obtain ⟨G6,e6,x6⟩:=lay2_ok orc p5 c5 (by omega) (by omega)
  rw [lay_val h0 h1] at e6
  simp [e6]
  exact (((x1.trans x2).trans x3).trans x5).trans x6
 obtain ⟨⟨v,G'⟩,e1,rfl,e3⟩:=w
 exact ⟨G',f251 (exL_ok Q orc) _ G _ e1,e3⟩
theorem andNot_63 {w:Int} (h0:0 ≤ w) (h1:w < 9223372036854775808):andNotI .u64 w 9223372036854775808 = w:=by
 obtain ⟨n,rfl⟩:=Int.eq_ofNat_of_zero_le h0
 show IntKind.wrap .u64 (((BitVec.ofInt 64 (n:Int) &&& ~~~ BitVec.ofInt 64 9223372036854775808).toNat:Nat):Int) = _
 have e1:BitVec.ofInt 64 (n:Int) = BitVec.ofNat 64 n:=BitVec.ofInt_natCast ..
 have e2:BitVec.ofInt 64 9223372036854775808 = BitVec.ofNat 64 9223372036854775808:=by decide
 have e3:BitVec.ofNat 64 n &&& ~~~ BitVec.ofNat 64 9223372036854775808 = BitVec.ofNat 64 n:=by
  have:(BitVec.ofNat 64 n).msb = false:=by
   rw [BitVec.msb_eq_false_iff_two_mul_lt]; simp; omega
  have e4 : ~~~ BitVec.ofNat 64 9223372036854775808 = BitVec.ofNat 64 (2 ^ 63 - 1):=by decide
  rw [e4]
  apply BitVec.eq_of_toNat_eq
  simp only [BitVec.toNat_and,BitVec.toNat_ofNat]
  rw [Nat.mod_eq_of_lt (show n < 2 ^ 64 by omega),Nat.mod_eq_of_lt (show 2 ^ 63 - 1 < 2 ^ 64 by decide),Nat.and_two_pow_sub_one_eq_mod,Nat.mod_eq_of_lt (by omega)]
 rw [e1,e2,e3,wrap_u64]
 simp; omega
theorem marks_f (orc:FuncId → Bool) {w:Int} (h0:0 ≤ w) (h1:w < 9223372036854775808) (G:GS):(E orc).cl 253 [.int .u64 w,.bool false] G = some (.int .u64 w,G):=by
 refine f253 (exL_ok Q orc) _ _ G _ ?_
 simp [s253,andNot_63 h0 h1]
theorem putref_ok (orc:FuncId → Bool) (ht:orc 218 = false) {i g:Int} (h0:0 ≤ i ∧ i ≤ 65534) (h1:0 ≤ g ∧ g < 4294967296) (G:GS):∃ G',(E orc).cl 221 [.agg ⟨[.int .i64 i,.int .i64 g,.bool false]⟩] G = some (.tuple #[.int .u64 (wordT i g),.int .i64 0],G') ∧ Ext G G':=by
 have x1:Ext G ((G.push ⟨[.int .i64 i,.int .i64 g,.bool false],1,false,1⟩).push ⟨[.int .i64 i,.int .i64 (-1),.int .i64 65534,.int .i64 g,.int .i64 0,.int .i64 4294967295],3,false,1⟩):=((Ext.refl G).push _).push _
 have o1:((G.push ⟨[.int .i64 i,.int .i64 g,.bool false],1,false,1⟩).push ⟨[.int .i64 i,.int .i64 (-1),.int .i64 65534,.int .i64 g,.int .i64 0,.int .i64 4294967295],3,false,1⟩).obj G.nx = some ⟨[.int .i64 i,.int .i64 g,.bool false],1,false,1⟩:=by simp
 have p1:((G.push ⟨[.int .i64 i,.int .i64 g,.bool false],1,false,1⟩).push ⟨[.int .i64 i,.int .i64 (-1),.int .i64 65534,.int .i64 g,.int .i64 0,.int .i64 4294967295],3,false,1⟩).obj (G.nx + 1) = some ⟨[.int .i64 i,.int .i64 (-1),.int .i64 65534,.int .i64 g,.int .i64 0,.int .i64 4294967295],3,false,1⟩:=by simp
 have n1:((G.push ⟨[.int .i64 i,.int .i64 g,.bool false],1,false,1⟩).push ⟨[.int .i64 i,.int .i64 (-1),.int .i64 65534,.int .i64 g,.int .i64 0,.int .i64 4294967295],3,false,1⟩).nx = G.nx + 2:=rfl
 have hi1:¬ i = -1:=by omega
 have hw:wordT i g = i + 1 + g * 65536:=rfl
 have w:Wp (s221 true (exL Q orc) (.agg ⟨[.int .i64 i,.int .i64 g,.bool false]⟩) G) fun r=>r.1 = .tuple #[.int .u64 (wordT i g),.int .i64 0] ∧ Ext G r.2:=by
  simp [s221]
  generalize hG1:(GS.push (GS.push G _) _) = G1 at *
  obtain ⟨G2,e2,x2⟩:=within2_ok orc p1 (by omega) ⟨by omega,h0.2⟩ ⟨h1.1,by omega⟩
  have n2:=x2.nx
  have o2:=(x2.obj G.nx (by omega)).trans o1
  obtain ⟨G3,e3,x3⟩:=refs_ok orc ht G2
  have n3:=x3.nx
  have o3:=(x3.obj G.nx (by omega)).trans o2
  have hne:¬ G.nx = G3.nx:=by omega
  have hi:IntKind.wrap .i64 (i + 1) = i + 1:=wrap64 (by omega) (by omega)
  simp [e2,o2,hi1,e3,hne,o3,splice_put,splice_end,slA,bound,hi]
  generalize hG5:GS.back _ _ = G5
  have x5:Ext G3 G5:=by rw [← hG5]; exact Ext.drawn ((((Ext.refl G3).push _).put (Nat.le_refl _) _).room 13) (by omega) (by simp; omega) _
  have p5:G5.obj G3.nx = some ⟨[.int .i64 0,.int .i64 16,.int .i64 16,.int .i64 32],1,false,1⟩:=by rw [← hG5]; simp; omega
  have c5:G5.obj (G3.nx + 1 + 6) = some ⟨[.int .i64 (i + 1),.int .i64 g],1,false,1⟩:=by rw [← hG5]; simp
  have n5:G5.nx = G3.nx + 1 + 13:=by rw [← hG5]; simp
  have o5:=(x5.obj G.nx (by omega)).trans o3
  obtain ⟨G6,e6,x6⟩:=lay2_ok orc p5 c5 (by omega) (by omega)
  rw [lay_val (by omega) (by omega)] at e6
  have o6:=(x6.obj G.nx (by omega)).trans o5
  have e7:=marks_f orc (w:=wordT i g) (by omega) (by omega) G6
  have hne6:¬ G.nx = G3.nx + 1 + 6:=by omega
  simp [e6,o5,o6,e7,hne6,o3,hne]
  exact (((x1.trans x2).trans x3).trans x5).trans x6
 obtain ⟨⟨v,G'⟩,e1,rfl,e3⟩:=w
 exact ⟨G',f221 (exL_ok Q orc) _ G _ e1,e3⟩
def idxI (size w:Int):Int:=if size ≤ w % 65536 - 1 then -1 else w % 65536 - 1
def topI (j w:Int):Int:=wordT j ((w / 65536 + 1) % 281474976710656)
theorem idxI_ge {size w:Int}:-1 ≤ idxI size w:=by unfold idxI; split <;> omega
theorem idxI_lt {size w:Int} (h:0 ≤ size):idxI size w < size:=by unfold idxI; split <;> omega
theorem link_ok (orc:FuncId → Bool) (ht:orc 270 = false) {i:Int} (h0:-1 ≤ i ∧ i ≤ 65534) (G:GS):∃ G',(E orc).cl 217 [.int .i64 i] G = some (.int .u64 (i + 1),G') ∧ Ext G G':=by
 obtain ⟨G',e,x⟩:=puttop_ok orc ht (t:=0) h0 (by decide) G
 refine ⟨G',f217 (exL_ok Q orc) _ G _ ?_,x⟩
 simp [s217,e,wordT]
theorem read_ok (orc:FuncId → Bool) (ht:orc 270 = false) {a b size w:Int} (h:U w) (G:GS):∃ G',(E orc).cl 263 [.agg ⟨[.int .i64 a,.int .i64 b,.int .i64 size]⟩,.int .u64 w] G = some (.int .i64 (idxI size w),G') ∧ Ext G G':=by
 have x1:Ext G (G.push ⟨[.int .i64 a,.int .i64 b,.int .i64 size],1,false,1⟩):=(Ext.refl G).push _
 have o1:(G.push ⟨[.int .i64 a,.int .i64 b,.int .i64 size],1,false,1⟩).obj G.nx = some ⟨[.int .i64 a,.int .i64 b,.int .i64 size],1,false,1⟩:=by simp
 have n1:(G.push ⟨[.int .i64 a,.int .i64 b,.int .i64 size],1,false,1⟩).nx = G.nx + 1:=rfl
 have w:Wp (s263 true (exL Q orc) (.agg ⟨[.int .i64 a,.int .i64 b,.int .i64 size]⟩) (.int .u64 w) G) fun r=>r.1 = .int .i64 (idxI size w) ∧ Ext G r.2:=by
  simp [s263]
  generalize hG1:GS.push G _ = G1 at *
  obtain ⟨G2,e2,x2⟩:=gettop_ok orc ht h G1
  have n2:=x2.nx
  have o2:=(x2.obj G.nx (by omega)).trans o1
  have hne:¬ G.nx = G2.nx:=by omega
  have y:Ext G (((G2.push ⟨z342,1,false,1⟩).put G2.nx ⟨[.int .i64 (w % 65536 - 1),.int .i64 (w / 65536)],1,false,1⟩)):=((x1.trans x2).push _).put (by omega) _
  unfold idxI
  by_cases hc:size ≤ w % 65536 - 1
  ·simp [e2,o2,hne,hc,splice_put,splice_end]
   exact y
  ·simp [e2,o2,hne,hc,splice_put,splice_end]
   exact y
 obtain ⟨⟨v,G'⟩,e1,rfl,e3⟩:=w
 exact ⟨G',f263 (exL_ok Q orc) _ _ G _ e1,e3⟩
theorem gen_ok (orc:FuncId → Bool) {w:Int} (h:U w) (G:GS):(E orc).cl 211 [.int .u64 w] G = some (.int .i64 (w % 4294967296),G):=by
 refine f211 (exL_ok Q orc) _ G _ ?_
 have e:IntKind.wrap .i64 (w % 4294967296) = w % 4294967296:=wrap64 (by omega) (by omega)
 simp [s211,and_32 h,e]
theorem U_topI {j w:Int} (hj:-1 ≤ j ∧ j ≤ 65534):U (topI j w):=by unfold topI wordT U; omega
end Go.Proofs.YtlaojmcekeohnaaGreatDoor.Lift
set_option linter.unusedVariables false
set_option linter.unusedSimpArgs false
set_option maxRecDepth 20000
namespace Go.Proofs.YtlaojmcekeohnaaGreatDoor.Lift
open Go Go.Proofs.YtlaojmcekeohnaaGreatDoor.Gh Go.Proofs
structure Sk where
 top:Int
 links:Int
 size:Int
def Sk.ok (R:Sk):Prop:=1 ≤ R.size ∧ R.size ≤ 4096 ∧ 0 ≤ R.top ∧ R.top < 4096 ∧ 0 ≤ R.links ∧ R.links + R.size ≤ 4096
abbrev hL (R:Sk) (w i j:Int) (made done:Bool) (err:Int) (next:Value):List Value:=[.int .i64 R.top,.int .i64 R.links,.int .i64 R.size,.int .u64 w,.int .i64 i,.int .i64 j,.bool made,.bool done,.int .i64 err,next]
section
variable {m r b:Nat} {own own1:Nat → Nat} {G G1:GS} {s s':MS} {R:Sk} {w i j err:Int} {md dn:Bool} {nx:Value}
theorem hload_ok (orc:FuncId → Bool) (ht:orc 270 = false) (h:PM own G m s) (hs:s.ok) (hb:b < G.nx) (tb:own b ≠ 10) (ho:G.obj b = some ⟨hL R w i j md dn err nx,1,false,1⟩) :
  ∃ own1 G1,(E orc).cl 242 [P0 b,P0 m] G = some (.int .i64 (idxI R.size (s.load R.top).new),G1) ∧ PW (fun x=>x = b) own G own1 G1 m (s.load R.top) ∧ G1.obj b = some ⟨hL R (s.load R.top).new i j md dn err nx,1,false,1⟩:=by
 obtain ⟨own1,G1,e1,w1⟩:=h.load orc R.top
 have hw:=(hs.load R.top).2
 generalize s.load R.top = s' at *
 have o1:=(w1.keep hb tb id).trans ho
 have w1':PW (fun x=>x = b) own G own1 G1 m s':=w1.mono fun _ _ h=>h.elim
 obtain ⟨G2,hG2⟩:∃ G2,G2 = (G1.put b ⟨hL R s'.new i j md dn err nx,1,false,1⟩).room 10:=⟨_,rfl⟩
 have w2:=w1'.putB rfl hb tb ⟨hL R s'.new i j md dn err nx,1,false,1⟩
 have w2':=w2.ext ((Ext.refl _).room 10)
 rw [← hG2] at w2'
 have o2:G2.obj b = some ⟨hL R s'.new i j md dn err nx,1,false,1⟩:=by rw [hG2]; simp
 obtain ⟨G3,e3,x3⟩:=read_ok orc ht (a:=R.top) (b:=R.links) (size:=R.size) hw G2
 have n2:b < G2.nx:=Nat.lt_of_lt_of_le hb w2'.nx
 refine ⟨_,G3,f242 (exL_ok Q orc) _ _ G _ ?_,w2'.ext x3,(x3.obj b n2).trans o2⟩
 simp [s242,ho,e1,o1,← hG2,o2,e3]
theorem hswap_ok (orc:FuncId → Bool) (ht:orc 270 = false) (h:PM own G m s) (hw:U w) (hb:b < G.nx) (tb:own b ≠ 10) (ho:G.obj b = some ⟨hL R w i j md dn err nx,1,false,1⟩) {k:Int} (hk:-1 ≤ k ∧ k ≤ 65534) :
  ∃ own1 G1,(E orc).cl 275 [P0 b,P0 m,.int .i64 k] G = some (.bool (s.cas R.top w (topI k w)).held,G1) ∧ PW no own G own1 G1 m (s.cas R.top w (topI k w)) ∧ G1.obj b = some ⟨hL R w i j md dn err nx,1,false,1⟩:=by
 obtain ⟨G1,e1,x1⟩:=gettop_ok orc ht hw G
 obtain ⟨G2,hG2⟩:∃ G2,G2 = (G1.push ⟨z342,1,false,1⟩).put G1.nx ⟨[.int .i64 (w % 65536 - 1),.int .i64 (w / 65536)],1,false,1⟩:=⟨_,rfl⟩
 have x2:Ext G1 G2:=by rw [hG2]; exact ((Ext.refl G1).push _).put (Nat.le_refl _) _
 have p2:G2.obj G1.nx = some ⟨[.int .i64 (w % 65536 - 1),.int .i64 (w / 65536)],1,false,1⟩:=by rw [hG2]; simp
 have h1:=hw.1; have h2:=hw.2
 have a1:IntKind.wrap .i64 (w / 65536 + 1) = w / 65536 + 1:=wrap64 (by omega) (by omega)
 have a2:andI .i64 (w / 65536 + 1) 281474976710655 = (w / 65536 + 1) % 281474976710656:=by
  have hn:0 ≤ w / 65536 + 1 ∧ w / 65536 + 1 < 18446744073709551616:=by omega
  generalize w / 65536 + 1 = q at *
  obtain ⟨n,rfl⟩:=Int.eq_ofNat_of_zero_le hn.1
  have:n &&& 281474976710655 = n % 281474976710656:=Nat.and_two_pow_sub_one_eq_mod n 48
  show IntKind.wrap .i64 (((BitVec.ofInt 64 (n:Int) &&& BitVec.ofInt 64 281474976710655).toNat:Nat):Int) = _
  rw [BitVec.toNat_and,ofInt_u64 hn,ofInt_u64 ⟨by decide,by decide⟩]
  rw [show (Int.toNat (n:Int)) = n from rfl,show (281474976710655:Int).toNat = 281474976710655 from rfl,this,wrap64 (by omega) (by omega)]
  omega
 obtain ⟨G3,e3,x3⟩:=puttop_ok orc ht hk (t:=(w / 65536 + 1) % 281474976710656) (by omega) G2
 obtain ⟨G4,hG4⟩:∃ G4,G4 = G3.room 13:=⟨_,rfl⟩
 have x4:Ext G3 G4:=by rw [hG4]; exact (Ext.refl _).room 13
 have y4:=((x1.trans x2).trans x3).trans x4
 have o4:=(y4.obj b hb).trans ho
 have o4':G3.obj b = some ⟨hL R w i j md dn err nx,1,false,1⟩:=(((x1.trans x2).trans x3).obj b hb).trans ho
 have h4:=h.ext y4
 obtain ⟨own5,G5,e5,w5⟩:=h4.cas orc R.top w (topI k w)
 have hb4:b < G4.nx:=Nat.lt_of_lt_of_le hb y4.nx
 have tb4:grown own G 13 b = own b:=grown_agr b hb
 have o5:=(w5.keep hb4 (by rw [tb4]; exact tb) id).trans o4
 have ht3:wordT k ((w / 65536 + 1) % 281474976710656) = topI k w:=rfl
 rw [ht3] at e3
 refine ⟨own5,G5,f275 (exL_ok Q orc) _ _ _ G _ ?_,((PW.refl h).ext y4).trans w5 fun _ _ h=>h,o5⟩
 simp [s275,ho,e1,splice_put,splice_end,← hG2,p2,a1,a2,e3,← hG4,o4,o4',e5]
theorem hends_ok (orc:FuncId → Bool) (ho:G.obj b = some ⟨hL R w i j md dn err nx,1,false,1⟩) (e:Int) :
  (E orc).cl 209 [P0 b,.int .i64 e] G = some (.tuple #[],(G.put b ⟨hL R w i j md true err nx,1,false,1⟩).put b ⟨hL R w i j md true e nx,1,false,1⟩):=by
 refine f209 (exL_ok Q orc) _ _ G _ ?_
 simp [s209,ho]
theorem hover_ok (orc:FuncId → Bool) (ho:G.obj b = some ⟨hL R w i j true dn err nx,1,false,1⟩):(E orc).cl 268 [P0 b] G = some (.bool dn,G):=by
 refine f268 (exL_ok Q orc) _ G _ ?_
 cases dn <;> simp [s268,ho]
end
inductive PopS where
 | go (n:Nat) (w i j:Int)
 | done (i:Int)
def PopS.over:PopS → Bool
 | .go ..=>false
 | .done _=>true
def PopS.ok (R:Sk):PopS → Prop
 | .go n w i j=>1 ≤ n ∧ n ≤ 3 ∧ U w ∧ -1 ≤ i ∧ i < R.size ∧ -1 ≤ j ∧ j < R.size ∧ (n ≠ 1 → 0 ≤ i)
 | .done i=>-1 ≤ i ∧ i < R.size
def PopS.step (R:Sk):PopS → MS → PopS × MS
 | .done i,s=>(.done i,s)
 | .go n w i j,s =>
  if n = 1 then (if idxI R.size (s.load R.top).new < 0 then .done (idxI R.size (s.load R.top).new) else .go 2 (s.load R.top).new (idxI R.size (s.load R.top).new) j,s.load R.top)
  else if n = 2 then (.go 3 w i (idxI R.size (s.load (R.links + i)).new),s.load (R.links + i))
  else (if (s.cas R.top w (topI j w)).held = true then .done i else .go 1 w i j,s.cas R.top w (topI j w))
theorem PopS.ok.step {R:Sk} {p:PopS} {s:MS} (hR:R.ok) (hp:p.ok R) (hs:s.ok):(p.step R s).1.ok R ∧ (p.step R s).2.ok:=by
 cases p with
 | done i=>exact ⟨hp,hs⟩
 | go n w i j =>
  obtain ⟨h1,h2,h3,h4,h5,h6,h7,h8⟩:=hp
  have hz:=hR.1; have hz2:=hR.2.1
  simp only [PopS.step]
  split
  ·refine ⟨?_,(hs.load _).1⟩
   have g1:=@idxI_ge R.size (s.load R.top).new
   have g2:=@idxI_lt R.size (s.load R.top).new (by omega)
   split
   ·exact ⟨g1,g2⟩
   ·exact ⟨by decide,by decide,(hs.load _).2,g1,g2,h6,h7,fun _=>by omega⟩
  ·split
   ·exact ⟨⟨by decide,by decide,h3,h4,h5,idxI_ge,idxI_lt (by omega),fun _=>h8 (by omega)⟩,(hs.load _).1⟩
   ·refine ⟨?_,hs.cas _ _ (U_topI (by omega))⟩
    split
    ·exact ⟨h4,h5⟩
    ·exact ⟨by decide,by decide,h3,h4,h5,h6,h7,fun h=>absurd rfl h⟩
def popNext (n:Nat):Value:=.func (.func (if n = 1 then 246 else if n = 2 then 267 else 276)) #[] #[]
def PopR (R:Sk) (G:GS) (b:Nat):PopS → Prop
 | .go n w i j=>G.obj b = some ⟨hL R w i j true false 0 (popNext n),1,false,1⟩
 | .done i=>∃ w j nx,G.obj b = some ⟨hL R w i j true true (if i < 0 then 15 else 0) nx,1,false,1⟩
theorem PopR.kept {R:Sk} {G G':GS} {b:Nat} {p:PopS} (h:PopR R G b p) (hk:G'.obj b = G.obj b):PopR R G' b p:=by
 cases p with
 | done i=>obtain ⟨w,j,nx,h⟩:=h; exact ⟨w,j,nx,hk.trans h⟩
 | go n w i j=>exact hk.trans h
section
variable {m r b:Nat} {own own1:Nat → Nat} {G G1:GS} {s s':MS} {R:Sk} {p:PopS}
theorem pop_ok (orc:FuncId → Bool) (ht:orc 270 = false) (h:PM own G m s) (hs:s.ok) (hR:R.ok) (hb:b < G.nx) (tb:own b ≠ 10) (hp:p.ok R) (hr:PopR R G b p) :
  ∃ own1 G1,(E orc).cl 247 [P0 b,P0 m] G = some (.bool (p.step R s).1.over,G1) ∧ PW (fun x=>x = b) own G own1 G1 m (p.step R s).2 ∧ PopR R G1 b (p.step R s).1:=by
 cases p with
 | done i =>
  obtain ⟨w,j,nx,ho⟩:=hr
  have e0:=hover_ok orc ho
  refine ⟨own,G,f247 (exL_ok Q orc) _ _ G _ ?_,PW.refl h,w,j,nx,ho⟩
  simp [s247,e0,PopS.step,PopS.over]
 | go n w i j =>
  obtain ⟨h1,h2,h3,h4,h5,h6,h7,h8⟩:=hp
  have hR1:=hR.1; have hR2:=hR.2.1; have hR5:=hR.2.2.2.2.1; have hR6:=hR.2.2.2.2.2
  have ho:G.obj b = _:=hr
  have e0:=hover_ok orc ho
  rcases (show n = 1 ∨ n = 2 ∨ n = 3 by omega) with rfl | rfl | rfl
  ·-- the top is loaded
   obtain ⟨G1,hG1⟩:∃ G1,G1 = G.put b ⟨hL R w i j true false 0 (popNext 2),1,false,1⟩:=⟨_,rfl⟩
   have w1:=(PW.refl (B:=fun x=>x = b) h).putB rfl hb tb ⟨hL R w i j true false 0 (popNext 2),1,false,1⟩
   rw [← hG1] at w1
   have o1:G1.obj b = some ⟨hL R w i j true false 0 (popNext 2),1,false,1⟩:=by rw [hG1]; simp
   have n1:b < G1.nx:=Nat.lt_of_lt_of_le hb w1.nx
   obtain ⟨own2,G2,e2,w2,o2⟩:=hload_ok orc ht w1.pm hs n1 tb o1
   have w12:=w1.trans w2 fun _ _ h=>h
   simp only [PopS.step,if_true]
   generalize s.load R.top = s' at *
   generalize idxI R.size s'.new = i' at *
   have w3:=w12.putB (b:=b) rfl hb tb ⟨hL R s'.new i' j true false 0 (popNext 2),1,false,1⟩
   have o3:(G2.put b ⟨hL R s'.new i' j true false 0 (popNext 2),1,false,1⟩).obj b = some ⟨hL R s'.new i' j true false 0 (popNext 2),1,false,1⟩:=by simp
   by_cases hc:i' < 0
   ·have e3:=hends_ok orc o3 15
    have w4:=(w3.putB (b:=b) rfl hb tb ⟨hL R s'.new i' j true true 0 (popNext 2),1,false,1⟩).putB (b:=b) rfl hb tb ⟨hL R s'.new i' j true true 15 (popNext 2),1,false,1⟩
    rw [if_pos hc]
    refine ⟨own2,_,f247 (exL_ok Q orc) _ _ G _ ?_,w4,s'.new,j,popNext 2,by simp [hc]⟩
    have e4:(E orc).cl 246 [P0 b,P0 m] G = some (.tuple #[],((G2.put b ⟨hL R s'.new i' j true false 0 (popNext 2),1,false,1⟩).put b ⟨hL R s'.new i' j true true 0 (popNext 2),1,false,1⟩).put b ⟨hL R s'.new i' j true true 15 (popNext 2),1,false,1⟩):=by
     refine f246 (exL_ok Q orc) _ _ G _ ?_
     simp only [popNext] at *
     simp at *
     simp [s246,ho,← hG1,e2,o2,hc,e3]
    simp only [popNext] at *
    simp at *
    simp [s247,e0,ho,e4,PopS.over]
   ·rw [if_neg hc]
    refine ⟨own2,_,f247 (exL_ok Q orc) _ _ G _ ?_,w3,by simp [PopR]⟩
    have e4:(E orc).cl 246 [P0 b,P0 m] G = some (.tuple #[],(G2.put b ⟨hL R s'.new i' j true false 0 (popNext 2),1,false,1⟩)):=by
     refine f246 (exL_ok Q orc) _ _ G _ ?_
     simp only [popNext] at *
     simp at *
     have hc':¬ i' < 0:=by omega
     simp [s246,ho,← hG1,e2,o2,hc']
    simp only [popNext] at *
    simp at *
    simp [s247,e0,ho,e4,PopS.over]
  ·-- the link is loaded
   have hi:=h8 (by decide)
   have ha:IntKind.wrap .i64 (R.links + i) = R.links + i:=wrap64 (by omega) (by omega)
   have x0:Ext G (G.room 25):=(Ext.refl G).room 25
   have w0:=(PW.refl (B:=fun x=>x = b) h).ext x0
   obtain ⟨own1,G1,e1,w1⟩:=w0.pm.load orc (R.links + i)
   have w01:=w0.trans w1 fun _ _ h=>h.elim
   have o0:(G.room 25).obj b = some ⟨hL R w i j true false 0 (popNext 2),1,false,1⟩:=ho
   have t0:grown own G 13 b = own b:=grown_agr b hb
   have o1:=(w1.keep (show b < (G.room 25).nx by simp; omega) (by rw [t0]; exact tb) id).trans o0
   simp only [PopS.step]
   have hw:=(hs.load (R.links + i)).2
   generalize s.load (R.links + i) = s' at *
   obtain ⟨G2,e2,x2⟩:=read_ok orc ht (a:=R.top) (b:=R.links) (size:=R.size) hw G1
   have n1:b < G1.nx:=Nat.lt_of_lt_of_le hb w01.nx
   have o2:=(x2.obj b n1).trans o1
   have w02:=w01.ext x2
   generalize idxI R.size s'.new = j' at *
   have w3:=(w02.putB (b:=b) rfl hb tb ⟨hL R w i j' true false 0 (popNext 2),1,false,1⟩).putB (b:=b) rfl hb tb ⟨hL R w i j' true false 0 (popNext 3),1,false,1⟩
   refine ⟨_,_,f247 (exL_ok Q orc) _ _ G _ ?_,w3,by simp [PopR]⟩
   have e4:(E orc).cl 267 [P0 b,P0 m] G = some (.tuple #[],(G2.put b ⟨hL R w i j' true false 0 (popNext 2),1,false,1⟩).put b ⟨hL R w i j' true false 0 (popNext 3),1,false,1⟩):=by
    refine f267 (exL_ok Q orc) _ _ G _ ?_
    simp only [popNext] at *
    simp at *
    simp [s267,ho,ha,e1,o1,e2,o2]
   simp only [popNext] at *
   simp at *
   simp [s247,e0,ho,e4,PopS.over]
  ·-- the top is swapped
   obtain ⟨G1,hG1⟩:∃ G1,G1 = (G.put b ⟨hL R w i j true false 0 (popNext 1),1,false,1⟩).room 10:=⟨_,rfl⟩
   have w1:=((PW.refl (B:=fun x=>x = b) h).putB rfl hb tb ⟨hL R w i j true false 0 (popNext 1),1,false,1⟩).ext ((Ext.refl _).room 10)
   rw [← hG1] at w1
   have o1:G1.obj b = some ⟨hL R w i j true false 0 (popNext 1),1,false,1⟩:=by rw [hG1]; simp
   have o1':(G.put b ⟨hL R w i j true false 0 (popNext 1),1,false,1⟩).obj b = some ⟨hL R w i j true false 0 (popNext 1),1,false,1⟩:=by simp
   have n1:b < G1.nx:=Nat.lt_of_lt_of_le hb w1.nx
   obtain ⟨own2,G2,e2,w2,o2⟩:=hswap_ok orc ht w1.pm h3 n1 (by rw [w1.stp.same hb]; exact tb) o1 (k:=j) (by omega)
   have w12:=w1.trans w2 fun _ _ h=>h.elim
   simp only [PopS.step]
   generalize s.cas R.top w (topI j w) = s' at *
   cases hc:s'.held with
   | true =>
    have hi:¬ i < 0:=by have:=h8 (by decide); omega
    have e3:=hends_ok orc o2 0
    have w4:=(w12.putB (b:=b) rfl hb tb ⟨hL R w i j true true 0 (popNext 1),1,false,1⟩).putB (b:=b) rfl hb tb ⟨hL R w i j true true 0 (popNext 1),1,false,1⟩
    refine ⟨own2,_,f247 (exL_ok Q orc) _ _ G _ ?_,w4,w,j,popNext 1,by simp [hi]⟩
    have e4:(E orc).cl 276 [P0 b,P0 m] G = some (.tuple #[],(G2.put b ⟨hL R w i j true true 0 (popNext 1),1,false,1⟩).put b ⟨hL R w i j true true 0 (popNext 1),1,false,1⟩):=by
     refine f276 (exL_ok Q orc) _ _ G _ ?_
     simp only [popNext] at *
     simp at *
     simp [s276,ho,← hG1,e2,hc,e3]
    simp only [popNext] at *
    simp at *
    simp [s247,e0,ho,e4,PopS.over,hc]
   | false =>
    refine ⟨own2,G2,f247 (exL_ok Q orc) _ _ G _ ?_,by simpa [hc] using w12,by simpa [PopR] using o2⟩
    have e4:(E orc).cl 276 [P0 b,P0 m] G = some (.tuple #[],G2):=by
     refine f276 (exL_ok Q orc) _ _ G _ ?_
     simp only [popNext] at *
     simp at *
     simp [s276,ho,← hG1,e2,hc]
    simp only [popNext] at *
    simp at *
    simp [s247,e0,ho,e4,PopS.over,hc,o2]
end
end Go.Proofs.YtlaojmcekeohnaaGreatDoor.Lift
set_option linter.unusedVariables false
set_option linter.unusedSimpArgs false
set_option maxRecDepth 20000
namespace Go.Proofs.YtlaojmcekeohnaaGreatDoor.Lift
open Go Go.Proofs.YtlaojmcekeohnaaGreatDoor.Gh Go.Proofs
inductive PusS where
 | go (n:Nat) (w i:Int)
 | done (e:Int)
def PusS.over:PusS → Bool
 | .go ..=>false
 | .done _=>true
def PusS.ok (R:Sk):PusS → Prop
 | .go n w i=>1 ≤ n ∧ n ≤ 3 ∧ U w ∧ 0 ≤ i ∧ i < R.size
 | .done _=>True
def PusS.step (R:Sk):PusS → MS → PusS × MS
 | .done i,s=>(.done i,s)
 | .go n w i,s =>
  if n = 1 then (.go 2 (s.load R.top).new i,s.load R.top)
  else if n = 2 then (.go 3 w i,s.store (R.links + i) (idxI R.size w + 1))
  else (if (s.cas R.top w (topI i w)).held = true then .done 0 else .go 1 w i,s.cas R.top w (topI i w))
theorem PusS.ok.step {R:Sk} {p:PusS} {s:MS} (hR:R.ok) (hp:p.ok R) (hs:s.ok):(p.step R s).1.ok R ∧ (p.step R s).2.ok:=by
 cases p with
 | done i=>exact ⟨hp,hs⟩
 | go n w i =>
  obtain ⟨h1,h2,h3,h4,h5⟩:=hp
  have hz:=hR.1; have hz2:=hR.2.1
  have g1:=@idxI_ge R.size w
  have g2:=@idxI_lt R.size w (by omega)
  simp only [PusS.step]
  split
  ·exact ⟨⟨by decide,by decide,(hs.load _).2,h4,h5⟩,(hs.load _).1⟩
  ·split
   ·exact ⟨⟨by decide,by decide,h3,h4,h5⟩,hs.store _ ⟨by omega,by omega⟩⟩
   ·refine ⟨?_,hs.cas _ _ (U_topI (by omega))⟩
    split
    ·trivial
    ·exact ⟨by decide,by decide,h3,h4,h5⟩
def pushNext (n:Nat):Value:=.func (.func (if n = 1 then 208 else if n = 2 then 243 else 264)) #[] #[]
def PusR (R:Sk) (G:GS) (b:Nat):PusS → Prop
 | .go n w i=>∃ j,(n = 2 → j = idxI R.size w) ∧ G.obj b = some ⟨hL R w i j true false 0 (pushNext n),1,false,1⟩
 | .done e=>∃ w i j nx,G.obj b = some ⟨hL R w i j true true e nx,1,false,1⟩
theorem PusR.kept {R:Sk} {G G':GS} {b:Nat} {p:PusS} (h:PusR R G b p) (hk:G'.obj b = G.obj b):PusR R G' b p:=by
 cases p with
 | done i=>obtain ⟨w,i,j,nx,h⟩:=h; exact ⟨w,i,j,nx,hk.trans h⟩
 | go n w i=>obtain ⟨j,hj,h⟩:=h; exact ⟨j,hj,hk.trans h⟩
section
variable {m r b:Nat} {own own1:Nat → Nat} {G G1:GS} {s s':MS} {R:Sk} {p:PusS}
theorem push_ok (orc:FuncId → Bool) (ht:orc 270 = false) (h:PM own G m s) (hs:s.ok) (hR:R.ok) (hb:b < G.nx) (tb:own b ≠ 10) (hp:p.ok R) (hr:PusR R G b p) :
  ∃ own1 G1,(E orc).cl 265 [P0 b,P0 m] G = some (.bool (p.step R s).1.over,G1) ∧ PW (fun x=>x = b) own G own1 G1 m (p.step R s).2 ∧ PusR R G1 b (p.step R s).1:=by
 cases p with
 | done e =>
  obtain ⟨w,i,j,nx,ho⟩:=hr
  have e0:=hover_ok orc ho
  refine ⟨own,G,f265 (exL_ok Q orc) _ _ G _ ?_,PW.refl h,w,i,j,nx,ho⟩
  simp [s265,e0,PusS.step,PusS.over]
 | go n w i =>
  obtain ⟨h1,h2,h3,h4,h5⟩:=hp
  have hR1:=hR.1; have hR2:=hR.2.1; have hR5:=hR.2.2.2.2.1; have hR6:=hR.2.2.2.2.2
  obtain ⟨j,hj,ho⟩:=hr
  have e0:=hover_ok orc ho
  rcases (show n = 1 ∨ n = 2 ∨ n = 3 by omega) with rfl | rfl | rfl
  ·obtain ⟨own2,G2,e2,w2,o2⟩:=hload_ok orc ht h hs hb tb ho
   simp only [PusS.step,if_true]
   generalize hs':s.load R.top = s' at *
   have w3:=(w2.putB (b:=b) rfl hb tb ⟨hL R s'.new i (idxI R.size s'.new) true false 0 (pushNext 1),1,false,1⟩).putB (b:=b) rfl hb tb ⟨hL R s'.new i (idxI R.size s'.new) true false 0 (pushNext 2),1,false,1⟩
   refine ⟨own2,_,f265 (exL_ok Q orc) _ _ G _ ?_,w3,_,fun _=>rfl,by simp⟩
   generalize idxI R.size s'.new = j' at *
   have e4:(E orc).cl 208 [P0 b,P0 m] G = some (.tuple #[],(G2.put b ⟨hL R s'.new i j' true false 0 (pushNext 1),1,false,1⟩).put b ⟨hL R s'.new i j' true false 0 (pushNext 2),1,false,1⟩):=by
    refine f208 (exL_ok Q orc) _ _ G _ ?_
    simp only [pushNext] at *
    simp at *
    simp [s208,ho,e2,o2]
   simp only [pushNext] at *
   simp at *
   simp [s265,e0,ho,e4,PusS.over]
  ·have hj:=hj rfl
   have g1:=@idxI_ge R.size w
   have g2:=@idxI_lt R.size w (by omega)
   have ha:IntKind.wrap .i64 (R.links + i) = R.links + i:=wrap64 (by omega) (by omega)
   rw [← hj] at g1 g2
   simp only [PusS.step]
   rw [← hj]
   obtain ⟨G1,e1,x1⟩:=link_ok orc ht (i:=j) (by omega) (G.room 20)
   have y1:=((Ext.refl G).room 20).trans x1
   have w1:=(PW.refl (B:=fun x=>x = b) h).ext y1
   have o1:=(y1.obj b hb).trans ho
   have n1:b < G1.nx:=Nat.lt_of_lt_of_le hb w1.nx
   obtain ⟨own2,G2,e2,w2⟩:=w1.pm.store orc (R.links + i) (j + 1)
   have o2:=(w2.keep n1 (by rw [w1.stp.same hb]; exact tb) id).trans o1
   have w12:=w1.trans w2 fun _ _ h=>h.elim
   have w3:=w12.putB (b:=b) rfl hb tb ⟨hL R w i j true false 0 (pushNext 3),1,false,1⟩
   simp only [show ((2:Nat) = 1) = False by simp,if_false,if_true]
   generalize s.store (R.links + i) (j + 1) = s' at *
   refine ⟨own2,_,f265 (exL_ok Q orc) _ _ G _ ?_,w3,j,fun h=>absurd h (by decide),by simp⟩
   have e4:(E orc).cl 243 [P0 b,P0 m] G = some (.tuple #[],G2.put b ⟨hL R w i j true false 0 (pushNext 3),1,false,1⟩):=by
    refine f243 (exL_ok Q orc) _ _ G _ ?_
    simp only [pushNext] at *
    simp at *
    simp [s243,ho,ha,e1,o1,e2,o2]
   simp only [pushNext] at *
   simp at *
   simp [s265,e0,ho,e4,PusS.over]
  ·obtain ⟨G1,hG1⟩:∃ G1,G1 = (G.put b ⟨hL R w i j true false 0 (pushNext 1),1,false,1⟩).room 10:=⟨_,rfl⟩
   have w1:=((PW.refl (B:=fun x=>x = b) h).putB rfl hb tb ⟨hL R w i j true false 0 (pushNext 1),1,false,1⟩).ext ((Ext.refl _).room 10)
   rw [← hG1] at w1
   have o1:G1.obj b = some ⟨hL R w i j true false 0 (pushNext 1),1,false,1⟩:=by rw [hG1]; simp
   have n1:b < G1.nx:=Nat.lt_of_lt_of_le hb w1.nx
   obtain ⟨own2,G2,e2,w2,o2⟩:=hswap_ok orc ht w1.pm h3 n1 (by rw [w1.stp.same hb]; exact tb) o1 (k:=i) (by omega)
   have w12:=w1.trans w2 fun _ _ h=>h.elim
   simp only [PusS.step]
   generalize s.cas R.top w (topI i w) = s' at *
   cases hc:s'.held with
   | true =>
    have e3:=hends_ok orc o2 0
    have w4:=(w12.putB (b:=b) rfl hb tb ⟨hL R w i j true true 0 (pushNext 1),1,false,1⟩).putB (b:=b) rfl hb tb ⟨hL R w i j true true 0 (pushNext 1),1,false,1⟩
    refine ⟨own2,_,f265 (exL_ok Q orc) _ _ G _ ?_,w4,w,i,j,pushNext 1,by simp⟩
    have e4:(E orc).cl 264 [P0 b,P0 m] G = some (.tuple #[],(G2.put b ⟨hL R w i j true true 0 (pushNext 1),1,false,1⟩).put b ⟨hL R w i j true true 0 (pushNext 1),1,false,1⟩):=by
     refine f264 (exL_ok Q orc) _ _ G _ ?_
     simp only [pushNext] at *
     simp at *
     simp [s264,ho,← hG1,e2,hc,e3]
    simp only [pushNext] at *
    simp at *
    simp [s265,e0,ho,e4,PusS.over,hc]
   | false =>
    refine ⟨own2,G2,f265 (exL_ok Q orc) _ _ G _ ?_,by simpa [hc] using w12,j,fun h=>by simp at h,by simpa using o2⟩
    have e4:(E orc).cl 264 [P0 b,P0 m] G = some (.tuple #[],G2):=by
     refine f264 (exL_ok Q orc) _ _ G _ ?_
     simp only [pushNext] at *
     simp at *
     simp [s264,ho,← hG1,e2,hc]
    simp only [pushNext] at *
    simp at *
    simp [s265,e0,ho,e4,PusS.over,hc,o2]
theorem newpop_ok (orc:FuncId → Bool) (R:Sk) (G:GS):∃ b G',(E orc).cl 213 [.agg ⟨[.int .i64 R.top,.int .i64 R.links,.int .i64 R.size]⟩] G = some (P0 b,G') ∧ Ext G G' ∧ G.nx ≤ b ∧ b < G'.nx ∧ PopR R G' b (.go 1 0 0 0):=by
 refine ⟨G.nx + 1,(G.push ⟨[.int .i64 R.top,.int .i64 R.links,.int .i64 R.size],1,false,1⟩).push ⟨hL R 0 0 0 true false 0 (popNext 1),1,false,1⟩,f213 (exL_ok Q orc) _ G _ ?_,((Ext.refl G).push _).push _,by omega,by simp,by simp [PopR]⟩
 simp [s213,popNext]
def newPus (R:Sk) (i:Int):PusS:=if i < 0 ∨ R.size ≤ i then .done 3 else .go 1 0 i
theorem newpush_ok (orc:FuncId → Bool) (R:Sk) (i:Int) (G:GS):∃ b G',(E orc).cl 153 [.agg ⟨[.int .i64 R.top,.int .i64 R.links,.int .i64 R.size]⟩,.int .i64 i] G = some (P0 b,G') ∧ Ext G G' ∧ G.nx ≤ b ∧ b < G'.nx ∧ PusR R G' b (newPus R i):=by
 obtain ⟨G1,hG1⟩:∃ G1,G1 = (G.push ⟨[.int .i64 R.top,.int .i64 R.links,.int .i64 R.size],1,false,1⟩).push ⟨hL R 0 i 0 true false 0 (pushNext 1),1,false,1⟩:=⟨_,rfl⟩
 have o0:G1.obj G.nx = some ⟨[.int .i64 R.top,.int .i64 R.links,.int .i64 R.size],1,false,1⟩:=by rw [hG1]; simp
 have o1:G1.obj (G.nx + 1) = some ⟨hL R 0 i 0 true false 0 (pushNext 1),1,false,1⟩:=by rw [hG1]; simp
 have n1:G1.nx = G.nx + 2:=by rw [hG1]; rfl
 have x1:Ext G G1:=by rw [hG1]; exact ((Ext.refl G).push _).push _
 have hG1':G1 = (G.push ⟨[.int .i64 R.top,.int .i64 R.links,.int .i64 R.size],1,false,1⟩).push ⟨[.int .i64 R.top,.int .i64 R.links,.int .i64 R.size,.int .u64 0,.int .i64 i,.int .i64 0,.bool true,.bool false,.int .i64 0,.func (.func 208) #[] #[]],1,false,1⟩:=hG1
 have e3:=hends_ok orc o1 3
 unfold newPus
 by_cases hc:i < 0 ∨ R.size ≤ i
 ·rw [if_pos hc]
  refine ⟨G.nx + 1,_,f153 (exL_ok Q orc) _ _ G ((P0 (G.nx + 1)),((G1.put (G.nx + 1) ⟨hL R 0 i 0 true true 0 (pushNext 1),1,false,1⟩).put (G.nx + 1) ⟨hL R 0 i 0 true true 3 (pushNext 1),1,false,1⟩)) ?_,(x1.put (by omega) _).put (by omega) _,by omega,by simp; omega,0,i,0,pushNext 1,by simp⟩
  simp only [pushNext] at *
  by_cases h1:i < 0
  ·simp [s153,h1]
   rw [show (_:GS) = G1 from hG1'.symm]
   simp at e3
   simp [e3]
  ·have h2:R.size ≤ i:=by omega
   simp [s153,h1,h2]
   rw [show (_:GS) = G1 from hG1'.symm]
   simp at e3
   simp [e3]
 ·rw [if_neg hc]
  have h1:¬ i < 0:=by omega
  have h2:¬ R.size ≤ i:=by omega
  refine ⟨G.nx + 1,G1,f153 (exL_ok Q orc) _ _ G _ ?_,x1,by omega,by omega,0,fun h=>absurd h (by decide),o1⟩
  simp [s153,h1,h2]
  exact hG1'.symm
theorem popindex_ok (orc:FuncId → Bool) {i:Int} (h:PopR R G b (.done i)):(E orc).cl 248 [P0 b] G = some (.tuple #[.int .i64 (if i < 0 then 0 else i),.int .i64 (if i < 0 then 15 else 0)],G):=by
 obtain ⟨w,j,nx,ho⟩:=h
 have e1:(E orc).cl 277 [P0 b] G = some (.int .i64 (if i < 0 then 15 else 0),G):=by
  refine f277 (exL_ok Q orc) _ G _ ?_
  simp [s277,ho]
 have e2:(E orc).cl 269 [P0 b] G = some (.tuple #[.int .i64 (if i < 0 then 0 else i),.int .i64 (if i < 0 then 15 else 0)],G):=by
  refine f269 (exL_ok Q orc) _ G _ ?_
  by_cases hc:i < 0
  ·simp [s269,e1,hc]
  ·simp [s269,e1,hc,ho]
 refine f248 (exL_ok Q orc) _ G _ ?_
 simp [s248,e2]
end
end Go.Proofs.YtlaojmcekeohnaaGreatDoor.Lift
