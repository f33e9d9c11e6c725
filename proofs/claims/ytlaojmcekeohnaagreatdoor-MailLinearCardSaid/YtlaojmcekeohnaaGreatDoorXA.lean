import Derived.Test.YtlaojmcekeohnaaGreatDoorRMb
import Derived.Test.YtlaojmcekeohnaaGreatDoorGhPT
import Derived.Test.YtlaojmcekeohnaaGreatDoorGhPR
import Derived.Test.YtlaojmcekeohnaaGreatDoorGhPC
import Derived.Test.YtlaojmcekeohnaaGreatDoorGhPD
import Derived.Test.YtlaojmcekeohnaaGreatDoorGhLS
import Derived.Test.YtlaojmcekeohnaaGreatDoorGhEQ
namespace Go.Proofs.YtlaojmcekeohnaaGreatDoor.Lift
open Go Go.Proofs.YtlaojmcekeohnaaGreatDoor.Gh Go.Proofs
abbrev P0 (b:Nat):Value:=.pointer (some ⟨b,0,none⟩)
theorem Ext.drawn {A G B:GS} (h:Ext A G) {n:Nat} (hn:A.nx ≤ n) (hB:A.nx ≤ B.nx) (o:GObj):Ext A (((G.at' n).push o).back B) :=
 ⟨by simpa using hB,fun g hg=>by
  have:=h.obj g hg
  simp only [obj_back,obj_push,nx_at,obj_at]
  rw [if_neg (by omega)]; exact this,by simpa using h.nl,fun l hl=>by simpa using h.loop l hl⟩
end Go.Proofs.YtlaojmcekeohnaaGreatDoor.Lift
set_option linter.unusedVariables false
set_option linter.unusedSimpArgs false
set_option maxRecDepth 20000
namespace Go.Proofs.YtlaojmcekeohnaaGreatDoor.Lift
open Go Go.Proofs.YtlaojmcekeohnaaGreatDoor.Gh Go.Proofs
def U (x:Int):Prop:=0 ≤ x ∧ x < 18446744073709551616
theorem wrap_u32 (x:Int):IntKind.wrap .u32 x = x % 4294967296:=by
 simp only [IntKind.wrap,IntKind.bits,IntKind.signed,Bool.false_and]
 simp
theorem wrap_u64 (x:Int):IntKind.wrap .u64 x = x % 18446744073709551616:=by
 simp only [IntKind.wrap,IntKind.bits,IntKind.signed,Bool.false_and]
 simp
theorem shr_32 {w:Int} (h:U w):shrI .u64 w 32 = w / 4294967296:=by
 show w.fdiv (2 ^ (min (32:Int).toNat 64)) = _
 rw [show (min (32:Int).toNat 64) = 32 from rfl,Int.fdiv_eq_ediv_of_nonneg _ (by decide)]; rfl
theorem shl_32 {l:Int} (h0:0 ≤ l) (h1:l < 4294967296):shlI .u64 l 32 = l * 4294967296:=by
 show IntKind.wrap .u64 (l * 2 ^ (min (32:Int).toNat 64)) = _
 rw [show (min (32:Int).toNat 64) = 32 from rfl,wrap_u64,show (2:Int) ^ 32 = 4294967296 from rfl]
 omega
theorem ofInt_u64 {x:Int} (h:U x):(BitVec.ofInt 64 x).toNat = x.toNat:=by
 obtain ⟨n,rfl⟩:=Int.eq_ofNat_of_zero_le h.1
 have:=h.2
 have e:(BitVec.ofInt 64 (n:Int)).toNat = n % 2 ^ 64:=by simp [BitVec.toNat_ofInt]
 rw [e]; simp; omega
theorem and_u64 {a b:Int} (ha:U a) (hb:U b):andI .u64 a b = ((a.toNat &&& b.toNat:Nat):Int):=by
 show IntKind.wrap .u64 (((BitVec.ofInt 64 a &&& BitVec.ofInt 64 b).toNat:Nat):Int) = _
 have h1:a.toNat &&& b.toNat ≤ a.toNat:=Nat.and_le_left
 have:=ha.1; have:=ha.2
 rw [BitVec.toNat_and,ofInt_u64 ha,ofInt_u64 hb,wrap_u64]
 omega
theorem or_u64 {a b:Int} (ha:U a) (hb:U b):orI .u64 a b = ((a.toNat ||| b.toNat:Nat):Int):=by
 show IntKind.wrap .u64 (((BitVec.ofInt 64 a ||| BitVec.ofInt 64 b).toNat:Nat):Int) = _
 have h1:a.toNat ||| b.toNat < 2 ^ 64:=Nat.or_lt_two_pow (by have:=ha.2; have:=ha.1; omega) (by have:=hb.2; have:=hb.1; omega)
 rw [BitVec.toNat_or,ofInt_u64 ha,ofInt_u64 hb,wrap_u64]
 omega
theorem and_low {w:Int} (h:U w):andI .u64 w 65535 = w % 65536:=by
 rw [and_u64 h ⟨by decide,by decide⟩]
 have:w.toNat &&& (65535:Int).toNat = w.toNat % 65536:=Nat.and_two_pow_sub_one_eq_mod w.toNat 16
 rw [this]
 have:=h.1
 omega
theorem and_bit {w:Int} (h:U w):andI .u64 w 65536 = if w / 65536 % 2 = 1 then 65536 else 0:=by
 rw [and_u64 h ⟨by decide,by decide⟩]
 have e:w.toNat &&& (65536:Int).toNat = (w.toNat.testBit 16).toNat * 2 ^ 16:=by
  apply Nat.eq_of_testBit_eq
  intro i
  rw [Nat.testBit_and,show (65536:Int).toNat = 2 ^ 16 from rfl,Nat.testBit_two_pow]
  cases hb:w.toNat.testBit 16
  ·by_cases hi:16 = i
   ·subst hi; simp [hb]
   ·simp [hi]
  ·by_cases hi:16 = i
   ·subst hi; simp [hb]; decide
   ·rw [show (true.toNat * 2 ^ 16:Nat) = 2 ^ 16 from rfl,Nat.testBit_two_pow]; simp [hi]
 rw [e,Nat.testBit_eq_decide_div_mod_eq]
 have:=h.1
 obtain ⟨n,rfl⟩:=Int.eq_ofNat_of_zero_le h.1
 simp only [Int.toNat_natCast]
 by_cases hb:n / 2 ^ 16 % 2 = 1
 ·have:((n:Int) / 65536 % 2 = 1):=by omega
  rw [if_pos this]; simp [hb]
 ·have:¬ ((n:Int) / 65536 % 2 = 1):=by omega
  rw [if_neg this]; simp [hb]
theorem or_add {a b:Int} (i:Nat) (q:Nat) (ha:U a) (hb:U b) (h1:a.toNat = 2 ^ i * q) (h2:b.toNat < 2 ^ i):orI .u64 a b = a + b:=by
 rw [or_u64 ha hb,h1,← Nat.two_pow_add_eq_or_of_lt h2 q,← h1]
 have:=ha.1; have:=hb.1
 omega
theorem andNot_low {l:Int} (h0:0 ≤ l) (h1:l < 4294967296):andNotI .u64 (l * 4294967296) 65535 = l * 4294967296:=by
 obtain ⟨n,rfl⟩:=Int.eq_ofNat_of_zero_le h0
 show IntKind.wrap .u64 (((BitVec.ofInt 64 ((n:Int) * 4294967296) &&& ~~~ BitVec.ofInt 64 65535).toNat:Nat):Int) = _
 have e1:BitVec.ofInt 64 ((n:Int) * 4294967296) = BitVec.ofNat 64 (n * 2 ^ 32):=by
  rw [show ((n:Int) * 4294967296) = ((n * 2 ^ 32:Nat):Int) by rw [Int.natCast_mul]; rfl,BitVec.ofInt_natCast]
 have e2:BitVec.ofInt 64 65535 = BitVec.ofNat 64 65535:=by decide
 have e3:BitVec.ofNat 64 (n * 2 ^ 32) &&& ~~~ BitVec.ofNat 64 65535 = BitVec.ofNat 64 (n * 2 ^ 32):=by
  apply BitVec.eq_of_getLsbD_eq
  intro i hi
  rw [BitVec.getLsbD_and,BitVec.getLsbD_not,BitVec.getLsbD_ofNat,BitVec.getLsbD_ofNat]
  by_cases h:i < 32
  ·have:(n * 2 ^ 32).testBit i = false:=by rw [Nat.mul_comm,Nat.testBit_two_pow_mul]; simp; omega
   simp [this]
  ·have:Nat.testBit 65535 i = false:=by
    refine Nat.testBit_lt_two_pow (Nat.lt_of_lt_of_le (show 65535 < 2 ^ 16 by decide) (Nat.pow_le_pow_right (by decide) (by omega)))
   simp [this,hi]
 rw [e1,e2,e3,BitVec.toNat_ofNat,wrap_u64]
 omega
end Go.Proofs.YtlaojmcekeohnaaGreatDoor.Lift
set_option linter.unusedVariables false
set_option linter.unusedSimpArgs false
set_option maxRecDepth 20000
namespace Go.Proofs.YtlaojmcekeohnaaGreatDoor.Lift
open Go Go.Proofs.YtlaojmcekeohnaaGreatDoor.Gh Go.Proofs
structure MS where
 W:List Int
 kind:Int
 at_:Int
 old:Int
 new:Int
 held:Bool
 many:Int
def MS.acc (s:MS) (kind at_:Int) (upd:Int → Int × Bool):MS :=
 if 0 ≤ at_ ∧ at_ < s.W.length then
  ⟨s.W.set at_.toNat (upd ((s.W[at_.toNat]?).getD 0)).1,kind,at_,(s.W[at_.toNat]?).getD 0,(upd ((s.W[at_.toNat]?).getD 0)).1,(upd ((s.W[at_.toNat]?).getD 0)).2,IntKind.wrap .i64 (s.many + 1)⟩
 else ⟨s.W,kind,at_,0,0,false,IntKind.wrap .i64 (s.many + 1)⟩
def uLoad (w:Int):Int × Bool:=(w,false)
def uStore (v w:Int):Int × Bool:=(v,true)
def uCas (a b w:Int):Int × Bool:=if w = a then (b,true) else (w,false)
def uAdd (n w:Int):Int × Bool:=(IntKind.wrap .u64 (w + n),true)
def MS.load (s:MS) (a:Int):MS:=s.acc 1 a uLoad
def MS.store (s:MS) (a v:Int):MS:=s.acc 2 a (uStore v)
def MS.cas (s:MS) (a x y:Int):MS:=s.acc 3 a (uCas x y)
def MS.add (s:MS) (a n:Int):MS:=s.acc 4 a (uAdd n)
def MS.zero (n:Nat):MS:=⟨List.replicate n 0,0,0,0,0,false,0⟩
structure PMr (A:Nat → Prop) (G:GS) (m bb:Nat) (rest:List Int) (s:MS):Prop where
 un:Under A G
 am:A m
 ab:A bb
 hm:G.obj m = some ⟨[P0 bb,.int .i64 s.W.length,.int .i64 s.kind,.int .i64 s.at_,.int .u64 s.old,.int .u64 s.new,.bool s.held,.int .i64 s.many],1,false,1⟩
 hb:G.obj bb = some ⟨(s.W ++ rest).map (Value.int .u64),1,false,1⟩
 hl:s.W.length + rest.length = 4096
def PMx (A:Nat → Prop) (G:GS) (m:Nat) (s:MS):Prop:=∃ bb rest,PMr A G m bb rest s
section
variable {A B:Nat → Prop} {G G':GS} {m bb:Nat} {rest:List Int} {s:MS}
theorem PMr.kept (h:PMr A G m bb rest s) (hn:G.nx ≤ G'.nx) (hk:∀ g,A g → G'.obj g = G.obj g):PMr A G' m bb rest s :=
 ⟨h.un.le hn,h.am,h.ab,(hk _ h.am).trans h.hm,(hk _ h.ab).trans h.hb,h.hl⟩
theorem PMr.ext (h:PMr A G m bb rest s) (x:Ext G G'):PMr A G' m bb rest s:=h.kept x.nx fun g hg=>x.obj g (h.un g hg)
theorem PMr.mono (h:PMr A G m bb rest s) (hs:∀ x,A x → B x) (hu:Under B G):PMr B G m bb rest s:=⟨hu,hs _ h.am,hs _ h.ab,h.hm,h.hb,h.hl⟩
theorem PMx.un (h:PMx A G m s):Under A G:=let ⟨_,_,h⟩:=h; h.un
theorem PMx.kept (h:PMx A G m s) (hn:G.nx ≤ G'.nx) (hk:∀ g,A g → G'.obj g = G.obj g):PMx A G' m s:=let ⟨_,_,h⟩:=h; ⟨_,_,h.kept hn hk⟩
theorem PMx.ext (h:PMx A G m s) (x:Ext G G'):PMx A G' m s:=h.kept x.nx fun g hg=>x.obj g (h.un g hg)
theorem PMx.mono (h:PMx A G m s) (hs:∀ x,A x → B x) (hu:Under B G):PMx B G m s:=let ⟨_,_,h⟩:=h; ⟨_,_,h.mono hs hu⟩
theorem ModP.pre {G1:GS} (x:Ext G G1) (h:ModP A G1 G'):ModP A G G' :=
 ⟨Nat.le_trans x.nx h.nx,fun g hg ha=>(h.obj g (Nat.lt_of_lt_of_le hg x.nx) ha).trans (x.obj g hg),Nat.le_trans x.nl h.nl,fun l hl=>(h.loop l (Nat.lt_of_lt_of_le hl x.nl)).trans (x.loop l hl)⟩
theorem grow_pre {G1:GS} (x:Ext G G1):∀ g,Grow A G1 G' g → Grow A G G' g:=fun g hg=>hg.elim .inl fun h=>.inr ⟨Nat.le_trans x.nx h.1,h.2⟩
theorem PMx.pre {G1:GS} (hu:Under A G) (x:Ext G G1) (q2:ModP A G1 G') (q3:PMx (Grow A G1 G') G' m s):ModP A G G' ∧ PMx (Grow A G G') G' m s :=
 have q:=ModP.pre x q2
 ⟨q,q3.mono (grow_pre x) (hu.grow q.nx)⟩
theorem PMr.ne (h:PMr A G m bb rest s):m ≠ bb:=fun e=>by
 have h1:=h.hm
 rw [e,h.hb] at h1
 simp only [Option.some.injEq,GObj.mk.injEq,and_true] at h1
 cases hq:s.W ++ rest with
 | nil=>rw [hq] at h1; simp at h1
 | cons a b=>rw [hq] at h1; simp at h1
def cellV (bb:Nat) (s:MS) (a:Int):Value:=if 0 ≤ a ∧ a < s.W.length then .pointer (some ⟨bb,a.toNat,none⟩) else .pointer none
theorem cell_ok (orc:FuncId → Bool) (h:PMr A G m bb rest s) (a:Int):(E orc).cl 136 [P0 m,.int .i64 a] G = some (cellV bb s a,G):=by
 refine f136 (exL_ok Q orc) _ _ G _ ?_
 have hl:=h.hl
 unfold cellV
 by_cases h1:a < 0
 ·have h1':¬ (0 ≤ a ∧ a < (s.W.length:Int)):=by omega
  simp [s136,cell_eq,h.hm,h1,h1']
 ·by_cases h2:(s.W.length:Int) ≤ a
  ·have h1':¬ (0 ≤ a ∧ a < (s.W.length:Int)):=by omega
   simp [s136,cell_eq,h.hm,h1,h2,h1']
  ·have h1':(0 ≤ a ∧ a < (s.W.length:Int)):=by omega
   have h3:a < 4096:=by omega
   simp [s136,cell_eq,h.hm,h1,h2,h1',h3]
theorem is_ok (orc:FuncId → Bool) (o:Option Addr) (G:GS):(E orc).cl 198 [.pointer o] G = some (.bool o.isSome,G):=by
 refine f198 (exL_ok Q orc) _ G _ ?_
 cases o <;> simp [s198]
theorem word_at (h:PMr A G m bb rest s) {a:Nat} (ha:a < s.W.length):G.cell bb a = some (.int .u64 ((s.W[a]?).getD 0)):=by
 have:((s.W ++ rest).map (Value.int .u64))[a]? = some (.int .u64 ((s.W[a]?).getD 0)):=by rw [List.getElem?_map,List.getElem?_append_left ha,List.getElem?_eq_getElem ha]; rfl
 simp only [cell_eq,h.hb,this]; rfl
abbrev accV (s:MS):List Value:=[.int .i64 s.kind,.int .i64 s.at_,.int .u64 s.old,.int .u64 s.new,.bool s.held]
theorem do_ok (orc:FuncId → Bool) (h:PMr A G m bb rest s) (kind a:Int) (f:FuncId) (dv:List Value) (upd:Int → Int × Bool)
  (hf:∀ G1 w,bb < G1.nx → 0 ≤ a → a < s.W.length → G1.cell bb a.toNat = some (.int .u64 w) → ∃ G2,(E orc).cl f dv G1 = some (.tuple #[.int .u64 (upd w).1,.bool (upd w).2],G2) ∧ Ext G1 G2) :
  Wp ((E orc).cl 137 [P0 m,.int .i64 kind,.int .i64 a,cellV bb s a,.func (.func f) ⟨dv⟩ #[]] G) fun r=>r.1 = .agg ⟨accV (s.acc kind a upd)⟩ ∧ ModP A G r.2 ∧ PMx (Grow A G r.2) r.2 m (s.acc kind a upd):=by
 refine Wp.ref (f137 (exL_ok Q orc) _ _ _ _ _ G) ?_
 have hm:=h.hm
 have hmn:=h.un _ h.am
 have hbn:=h.un _ h.ab
 have hne:=h.ne
 have hne':=hne.symm
 have m1:m ≠ G.nx:=by omega
 have m2:G.nx ≠ m:=by omega
 have b1:bb ≠ G.nx:=by omega
 have b2:G.nx ≠ bb:=by omega
 have hw:IntKind.wrap .i64 (s.many + 1) = IntKind.wrap .i64 (s.many + 1):=rfl
 by_cases hin:0 ≤ a ∧ a < s.W.length
 ·have hcv:cellV bb s a = .pointer (some ⟨bb,a.toNat,none⟩):=by unfold cellV; rw [if_pos hin]
  have his:=is_ok orc (some ⟨bb,a.toNat,none⟩)
  obtain ⟨n,hn⟩:∃ n:Nat,a.toNat = n:=⟨_,rfl⟩
  have hnl:n < s.W.length:=by omega
  have hww:=word_at h hnl
  generalize hx:(s.W[n]?).getD 0 = w at hww
  have hacc:s.acc kind a upd = ⟨s.W.set n (upd w).1,kind,a,w,(upd w).1,(upd w).2,IntKind.wrap .i64 (s.many + 1)⟩:=by unfold MS.acc; rw [if_pos hin,hn,hx]
  rw [hcv,hacc]
  rw [hn] at his hf
  obtain ⟨GA,hGA⟩:∃ GA,GA = ((G.push ⟨[.int .i64 0,.int .i64 0,.int .u64 0,.int .u64 0,.bool false],1,false,1⟩).put m ⟨[P0 bb,.int .i64 s.W.length,.int .i64 s.kind,.int .i64 s.at_,.int .u64 s.old,.int .u64 s.new,.bool s.held,.int .i64 (IntKind.wrap .i64 (s.many + 1))],1,false,1⟩).put m ⟨[P0 bb,.int .i64 s.W.length,.int .i64 kind,.int .i64 a,.int .u64 0,.int .u64 0,.bool false,.int .i64 (IntKind.wrap .i64 (s.many + 1))],1,false,1⟩:=⟨_,rfl⟩
  have oA:∀ g,g ≠ m → g ≠ G.nx → GA.obj g = G.obj g:=fun g h1 h2=>by rw [hGA]; simp [h1,h2]
  have oAm:GA.obj m = some ⟨[P0 bb,.int .i64 s.W.length,.int .i64 kind,.int .i64 a,.int .u64 0,.int .u64 0,.bool false,.int .i64 (IntKind.wrap .i64 (s.many + 1))],1,false,1⟩:=by rw [hGA]; simp
  have oAn:GA.obj G.nx = some ⟨[.int .i64 0,.int .i64 0,.int .u64 0,.int .u64 0,.bool false],1,false,1⟩:=by rw [hGA]; simp [m2]
  have nA:GA.nx = G.nx + 1:=by rw [hGA]; rfl
  have mA:ModP A G GA:=by rw [hGA]; exact (((ModP.refl A G).push _).put (.inl h.am) _).put (.inl h.am) _
  have cA:GA.cell bb n = some (.int .u64 w):=by rw [← hww]; unfold GS.cell; rw [oA bb hne' b1]
  obtain ⟨GB,eB,xB⟩:=hf GA w (by omega) hin.1 hin.2 cA
  have cB:GB.obj bb = some ⟨(s.W ++ rest).map (Value.int .u64),1,false,1⟩:=by rw [xB.obj bb (by omega),oA bb hne' b1]; exact h.hb
  have oBm:=(xB.obj m (by omega)).trans oAm
  have oBn:=(xB.obj G.nx (by omega)).trans oAn
  have hwB:((s.W ++ rest).map (Value.int .u64))[n]? = some (.int .u64 w):=by
   rw [List.getElem?_map,List.getElem?_append_left hnl,List.getElem?_eq_getElem hnl,← hx,List.getElem?_eq_getElem hnl]; rfl
  have hlen:n < ((s.W ++ rest).map (Value.int .u64)).length:=by simp; omega
  have hset:((s.W ++ rest).map (Value.int .u64)).set n (.int .u64 (upd w).1) = (s.W.set n (upd w).1 ++ rest).map (Value.int .u64):=by
   rw [← List.map_set,List.set_append_left _ _ hnl]
  generalize hcells:(s.W ++ rest).map (Value.int .u64) = cells at *
  have hwB':∀ h:n < cells.length,cells[n] = .int .u64 w:=fun h=>by rw [List.getElem?_eq_getElem h] at hwB; exact Option.some.inj hwB
  simp [s137,sb137,j137_0,jb137_0,clip_t,hm,m1,m2,b1,b2,hn,← hGA,his,eB,oBm,cB,hne,hne',hwB,hwB',hlen,loadA_eq,loadO,oBn,xB]
  refine ⟨?_,bb,rest,?_⟩
  ·exact (((((mA.trans (xB.modP _)).put (.inl h.am) _).put (.inl h.am) _).put (.inl h.am) _).put (.inl h.ab) _).put (.inr (Nat.le_refl _)) _
  ·have nB:=xB.nx
   refine ⟨fun x hx=>?_,.inl h.am,.inl h.ab,?_,?_,?_⟩
   ·rcases hx with hx | hx
    ·have:=h.un x hx; simp; omega
    ·simpa using hx.2
   ·simp [m1,hne]
   ·simp [b1,← hset]
   ·simpa using h.hl
 ·have hcv:cellV bb s a = .pointer none:=by unfold cellV; rw [if_neg hin]
  have his:=is_ok orc none
  have hacc:s.acc kind a upd = ⟨s.W,kind,a,0,0,false,IntKind.wrap .i64 (s.many + 1)⟩:=by unfold MS.acc; rw [if_neg hin]
  rw [hcv,hacc]
  simp [s137,sb137,j137_0,jb137_0,clip_t,hm,m1,m2,his]
  refine ⟨?_,bb,rest,?_⟩
  ·exact ((((ModP.refl A G).push _).put (.inl h.am) _).put (.inl h.am) _).put (.inr (Nat.le_refl _)) _
  ·refine ⟨fun x hx=>?_,.inl h.am,.inl h.ab,?_,?_,h.hl⟩
   ·rcases hx with hx | hx
    ·have:=h.un x hx; simp; omega
    ·simpa using hx.2
   ·simp [m1]
   ·simp [b1,hne',h.hb]
theorem cellV_one (bb:Nat) (s:MS) (a:Int):one (cellV bb s a) = true:=by unfold cellV; split <;> rfl
theorem cellV_in {bb:Nat} {s:MS} {a:Int} (h1:0 ≤ a) (h2:a < s.W.length):cellV bb s a = .pointer (some ⟨bb,a.toNat,none⟩):=by unfold cellV; rw [if_pos ⟨h1,h2⟩]
theorem load_ok (orc:FuncId → Bool) (h:PMr A G m bb rest s) (a:Int):Wp ((E orc).cl 59 [P0 m,.int .i64 a] G) fun r=>r.1 = .int .u64 (s.load a).new ∧ ModP A G r.2 ∧ PMx (Grow A G r.2) r.2 m (s.load a):=by
 refine Wp.ref (f59 (exL_ok Q orc) _ _ G) ?_
 have hc:=cell_ok orc h a
 obtain ⟨G1,hG1⟩:∃ G1,G1 = ((G.push ⟨[.pointer none,.int .u64 0,.int .u64 0],1,false,1⟩).put G.nx ⟨[cellV bb s a,.int .u64 0,.int .u64 0],1,false,1⟩):=⟨_,rfl⟩
 have x1:Ext G G1:=by rw [hG1]; exact ((Ext.refl G).push _).put (Nat.le_refl _) _
 have o1:G1.obj G.nx = some ⟨[cellV bb s a,.int .u64 0,.int .u64 0],1,false,1⟩:=by rw [hG1]; simp
 obtain ⟨⟨v,G'⟩,e,q1,q2,q3⟩:=do_ok orc (h.ext x1) 1 a 138 [.agg ⟨[cellV bb s a,.int .u64 0,.int .u64 0]⟩] uLoad fun G1 w hb h1 h2 h3=>by
  have hbn:¬ bb = G1.nx:=by omega
  rw [cellV_in h1 h2]
  exact ⟨_,f138 (exL_ok Q orc) _ G1 _ (by simp [-cell_s,s138,cell_push,hbn,h3,uLoad]; rfl),(Ext.refl G1).push _⟩
 simp only at q1 q2 q3
 have hone:=cellV_one bb s a
 generalize cellV bb s a = cv at *
 have hcs:=cells_one hone
 simp [s59,hc,hcs,hone,← hG1,o1,e,q1]
 exact ⟨rfl,PMx.pre h.un x1 q2 q3⟩
theorem store_ok (orc:FuncId → Bool) (h:PMr A G m bb rest s) (a v:Int):Wp ((E orc).cl 150 [P0 m,.int .i64 a,.int .u64 v] G) fun r=>r.1 = .tuple #[] ∧ ModP A G r.2 ∧ PMx (Grow A G r.2) r.2 m (s.store a v):=by
 refine Wp.ref (f150 (exL_ok Q orc) _ _ _ G) ?_
 have hc:=cell_ok orc h a
 obtain ⟨G1,hG1⟩:∃ G1,G1 = ((G.push ⟨[.pointer none,.int .u64 0,.int .u64 0],1,false,1⟩).put G.nx ⟨[cellV bb s a,.int .u64 v,.int .u64 0],1,false,1⟩):=⟨_,rfl⟩
 have x1:Ext G G1:=by rw [hG1]; exact ((Ext.refl G).push _).put (Nat.le_refl _) _
 have o1:G1.obj G.nx = some ⟨[cellV bb s a,.int .u64 v,.int .u64 0],1,false,1⟩:=by rw [hG1]; simp
 obtain ⟨⟨v',G'⟩,e,q1,q2,q3⟩:=do_ok orc (h.ext x1) 2 a 203 [.agg ⟨[cellV bb s a,.int .u64 v,.int .u64 0]⟩] (uStore v) fun G1 w hb h1 h2 h3=>by
  rw [cellV_in h1 h2]
  exact ⟨_,f203 (exL_ok Q orc) _ G1 _ (by simp [s203,uStore]; rfl),(Ext.refl G1).push _⟩
 simp only at q1 q2 q3
 have hone:=cellV_one bb s a
 generalize cellV bb s a = cv at *
 have hcs:=cells_one hone
 simp [s150,hc,hcs,hone,← hG1,o1,e,q1]
 exact PMx.pre h.un x1 q2 q3
theorem cas_ok (orc:FuncId → Bool) (h:PMr A G m bb rest s) (a v w:Int):Wp ((E orc).cl 260 [P0 m,.int .i64 a,.int .u64 v,.int .u64 w] G) fun r=>r.1 = .bool (s.cas a v w).held ∧ ModP A G r.2 ∧ PMx (Grow A G r.2) r.2 m (s.cas a v w):=by
 refine Wp.ref (f260 (exL_ok Q orc) _ _ _ _ G) ?_
 have hc:=cell_ok orc h a
 obtain ⟨G1,hG1⟩:∃ G1,G1 = ((G.push ⟨[.pointer none,.int .u64 0,.int .u64 0],1,false,1⟩).put G.nx ⟨[cellV bb s a,.int .u64 v,.int .u64 w],1,false,1⟩):=⟨_,rfl⟩
 have x1:Ext G G1:=by rw [hG1]; exact ((Ext.refl G).push _).put (Nat.le_refl _) _
 have o1:G1.obj G.nx = some ⟨[cellV bb s a,.int .u64 v,.int .u64 w],1,false,1⟩:=by rw [hG1]; simp
 obtain ⟨⟨v',G'⟩,e,q1,q2,q3⟩:=do_ok orc (h.ext x1) 3 a 273 [.agg ⟨[cellV bb s a,.int .u64 v,.int .u64 w]⟩] (uCas v w) fun G1 x hb h1 h2 h3=>by
  rw [cellV_in h1 h2]
  have hbn:¬ bb = G1.nx:=by omega
  refine ⟨(G1.push ⟨[.pointer (some ⟨bb,a.toNat,none⟩),.int .u64 v,.int .u64 w],1,false,1⟩).room 7,f273 (exL_ok Q orc) _ G1 _ ?_,((Ext.refl G1).push _).room 7⟩
  by_cases hx:x = v
  ·simp [-cell_s,s273,cell_push,hbn,h3,uCas,hx]
  ·simp [-cell_s,s273,cell_push,hbn,h3,uCas,hx]
 simp only at q1 q2 q3
 have hone:=cellV_one bb s a
 generalize cellV bb s a = cv at *
 have hcs:=cells_one hone
 simp [s260,hc,hcs,hone,← hG1,o1,e,q1]
 exact ⟨rfl,PMx.pre h.un x1 q2 q3⟩
theorem new_ok (orc:FuncId → Bool) (n:Int) (G:GS):(n < 1 ∨ 4096 < n → (E orc).cl 70 [.int .i64 n] G = some (.tuple #[.pointer none,.int .i64 3],G)) ∧
  (1 ≤ n → n ≤ 4096 → ∃ m G',(E orc).cl 70 [.int .i64 n] G = some (.tuple #[P0 m,.int .i64 0],G') ∧ Ext G G' ∧ PMx (fun x=>G.nx ≤ x ∧ x < G'.nx) G' m (MS.zero n.toNat)):=by
 constructor
 ·intro h
  refine f70 (exL_ok Q orc) _ G _ ?_
  by_cases h1:n < 1
  ·simp [s70,h1]
  ·have h2:4096 < n:=by omega
   simp [s70,h1,h2]
 ·intro h1 h2
  have h1':¬ n < 1:=by omega
  have h2':¬ 4096 < n:=by omega
  refine ⟨G.nx + 1,_,f70 (exL_ok Q orc) _ G _ (by simp [s70,h1',h2']; rfl),((Ext.refl G).push _).push _,G.nx,List.replicate (4096 - n.toNat) 0,?_⟩
  refine ⟨fun x hx=>hx.2,⟨by omega,by simp⟩,⟨by omega,by simp; omega⟩,?_,?_,?_⟩
  ·have:((n.toNat:Nat):Int) = n:=by omega
   simp [MS.zero,this]
  ·have:List.replicate n.toNat (0:Int) ++ List.replicate (4096 - n.toNat) 0 = List.replicate 4096 0:=by
    rw [List.replicate_append_replicate]; congr 1; omega
   simp only [MS.zero,this,List.map_replicate]
   simp
  ·simp [MS.zero]; omega
end
end Go.Proofs.YtlaojmcekeohnaaGreatDoor.Lift
set_option linter.unusedVariables false
set_option linter.unusedSimpArgs false
set_option maxRecDepth 20000
namespace Go.Proofs.YtlaojmcekeohnaaGreatDoor.Lift
open Go Go.Proofs.YtlaojmcekeohnaaGreatDoor.Gh Go.Proofs
@[simp] theorem rowsI_sz (k:IntKind):(rowsI k).sz = 1:=rfl
@[simp] theorem rowsI_row (k:IntKind) (x:Int):(rowsI k).row x = [.int k x]:=rfl
theorem flat_ints (k:IntKind) (L:List Int):(rowsI k).flat L = L.map (Value.int k):=by
 induction L with
 | nil=>rfl
 | cons a l ih=>rw [RowE.flat_cons,ih]; rfl
section
variable {A:Nat → Prop} {G:GS} {m bb:Nat} {rest:List Int} {s:MS}
end
end Go.Proofs.YtlaojmcekeohnaaGreatDoor.Lift
set_option linter.unusedVariables false
set_option linter.unusedSimpArgs false
set_option maxRecDepth 20000
namespace Go.Proofs.YtlaojmcekeohnaaGreatDoor.Lift
open Go Go.Proofs.YtlaojmcekeohnaaGreatDoor.Gh Go.Proofs
structure RMr (A:Nat → Prop) (G:GS) (r wb:Nat) (s:MS):Prop where
 un:Under A G
 ar:A r
 aw:A wb
 hr:G.obj r = some ⟨[.slice (some ⟨wb,0,none⟩) s.W.length s.W.length,.int .i64 s.kind,.int .i64 s.at_,.int .u64 s.old,.int .u64 s.new,.bool s.held,.int .i64 s.many],1,false,1⟩
 hw:G.obj wb = some ⟨s.W.map (Value.int .u64),1,false,1⟩
 hl:s.W.length ≤ 4096
def RMx (A:Nat → Prop) (G:GS) (r:Nat) (s:MS):Prop:=∃ wb,RMr A G r wb s
section
variable {A B:Nat → Prop} {G G':GS} {r wb:Nat} {s:MS}
theorem RMr.kept (h:RMr A G r wb s) (hn:G.nx ≤ G'.nx) (hk:∀ g,A g → G'.obj g = G.obj g):RMr A G' r wb s :=
 ⟨h.un.le hn,h.ar,h.aw,(hk _ h.ar).trans h.hr,(hk _ h.aw).trans h.hw,h.hl⟩
theorem RMr.ext (h:RMr A G r wb s) (x:Ext G G'):RMr A G' r wb s:=h.kept x.nx fun g hg=>x.obj g (h.un g hg)
theorem RMr.mono (h:RMr A G r wb s) (hs:∀ x,A x → B x) (hu:Under B G):RMr B G r wb s:=⟨hu,hs _ h.ar,hs _ h.aw,h.hr,h.hw,h.hl⟩
theorem RMx.un (h:RMx A G r s):Under A G:=let ⟨_,h⟩:=h; h.un
theorem RMx.kept (h:RMx A G r s) (hn:G.nx ≤ G'.nx) (hk:∀ g,A g → G'.obj g = G.obj g):RMx A G' r s:=let ⟨_,h⟩:=h; ⟨_,h.kept hn hk⟩
theorem RMx.ext (h:RMx A G r s) (x:Ext G G'):RMx A G' r s:=h.kept x.nx fun g hg=>x.obj g (h.un g hg)
theorem RMx.mono (h:RMx A G r s) (hs:∀ x,A x → B x) (hu:Under B G):RMx B G r s:=let ⟨_,h⟩:=h; ⟨_,h.mono hs hu⟩
theorem RMr.ne (h:RMr A G r wb s):r ≠ wb:=fun e=>by
 have h1:=h.hr
 rw [e,h.hw] at h1
 simp only [Option.some.injEq,GObj.mk.injEq,and_true] at h1
 cases hq:s.W with
 | nil=>rw [hq] at h1; simp at h1
 | cons a b=>rw [hq] at h1; simp at h1
def MS.at' (s:MS) (a:Int):Int:=if 0 ≤ a ∧ a < s.W.length then (s.W[a.toNat]?).getD 0 else 0
theorem RMr.same (h:RMr A G' r wb s) (hm:ModP A G G') (hu:Under A G):RMx (Grow A G G') G' r s:=⟨wb,h.mono (fun x=>.inl) (hu.grow hm.nx)⟩
theorem RMr.slr (h:RMr A G r wb s):SlR (rowsI .u64) G (.slice (some ⟨wb,0,none⟩) s.W.length s.W.length) s.W :=
 ⟨⟨by rw [RowE.flat_length],.inr ⟨wb,0,s.W.length,_,rfl,Nat.le_refl _,h.un _ h.aw,h.hw,by simp,fun i _=>by rw [flat_ints]; simp⟩⟩,fun a n c he ob ho hop=>by cases he; rw [h.hw] at ho; cases ho; rfl⟩
end
end Go.Proofs.YtlaojmcekeohnaaGreatDoor.Lift
set_option linter.unusedVariables false
set_option linter.unusedSimpArgs false
set_option maxRecDepth 20000
namespace Go.Proofs.YtlaojmcekeohnaaGreatDoor.Lift
open Go Go.Proofs.YtlaojmcekeohnaaGreatDoor.Gh Go.Proofs
theorem sepP (m:Nat) (s:MS):Sep fun A G=>PMx A G m s:=⟨PMx.un,PMx.kept,PMx.mono⟩
theorem sepR (r:Nat) (s:MS):Sep fun A G=>RMx A G r s:=⟨RMx.un,RMx.kept,RMx.mono⟩
def MS.ok (s:MS):Prop:=(∀ w ∈ s.W,U w) ∧ s.W.length ≤ 4096
theorem MS.ok.word {s:MS} (h:s.ok) (i:Nat):U ((s.W[i]?).getD 0):=by
 cases hq:s.W[i]? with
 | none=>exact ⟨by decide,by decide⟩
 | some w=>exact h.1 w (List.mem_of_getElem? hq)
theorem MS.ok.acc {s:MS} (h:s.ok) {u:Int → Int × Bool} (hu:∀ w,U w → U (u w).1) (k a:Int):(s.acc k a u).ok ∧ U (s.acc k a u).new:=by
 unfold MS.acc
 split
 ·refine ⟨⟨fun w hw=>?_,by simpa using h.2⟩,hu _ (h.word _)⟩
  rcases List.mem_or_eq_of_mem_set hw with hw | rfl
  ·exact h.1 w hw
  ·exact hu _ (h.word _)
 ·exact ⟨h,(show (0:Int) ≤ 0 by decide),(show (0:Int) < 18446744073709551616 by decide)⟩
theorem MS.ok.load {s:MS} (h:s.ok) (a:Int):(s.load a).ok ∧ U (s.load a).new:=h.acc (fun w hw=>hw) 1 a
theorem MS.ok.store {s:MS} (h:s.ok) (a:Int) {v:Int} (hv:U v):(s.store a v).ok:=(h.acc (fun w hw=>hv) 2 a).1
theorem MS.ok.cas {s:MS} (h:s.ok) (a x:Int) {y:Int} (hy:U y):(s.cas a x y).ok:=(h.acc (fun w hw=>by unfold uCas; split <;> assumption) 3 a).1
theorem U_wrap (x:Int):U (IntKind.wrap .u64 x):=by rw [wrap_u64]; unfold U; omega
theorem MS.ok.add {s:MS} (h:s.ok) (a n:Int):(s.add a n).ok ∧ U (s.add a n).new:=h.acc (fun w hw=>U_wrap _) 4 a
theorem U_zero':U 0:=⟨by decide,by decide⟩
theorem MS.ok.at' {s:MS} (h:s.ok) (a:Int):U (s.at' a):=by
 unfold MS.at'; split
 ·exact h.word _
 ·exact U_zero'
end Go.Proofs.YtlaojmcekeohnaaGreatDoor.Lift
set_option linter.unusedVariables false
set_option linter.unusedSimpArgs false
set_option maxRecDepth 20000
namespace Go.Proofs.YtlaojmcekeohnaaGreatDoor.Lift
open Go Go.Proofs.YtlaojmcekeohnaaGreatDoor.Gh Go.Proofs
structure Rg where
 head:Int
 tail:Int
 slots:Int
 size:Int
abbrev Rg.cells (R:Rg):List Value:=[.int .i64 R.head,.int .i64 R.tail,.int .i64 R.slots,.int .i64 R.size]
abbrev Rg.v (R:Rg):Value:=.agg ⟨[.int .i64 R.head,.int .i64 R.tail,.int .i64 R.slots,.int .i64 R.size]⟩
def Rg.ok (R:Rg):Prop:=1 ≤ R.size ∧ R.size ≤ 4096
def lapI (R:Rg) (t:Int):Int:=t / R.size % 4294967296
def placeI (R:Rg) (t:Int):Int:=IntKind.wrap .i64 (R.slots + t % R.size)
def fullI (w l:Int):Bool:=decide (w / 4294967296 = l) && decide (w / 65536 % 2 = 1)
def emptyI (w l:Int):Bool:=decide (w / 4294967296 = l) && decide (w / 65536 % 2 = 0)
def wordI (l v:Int):Int:=l * 4294967296 + 65536 + v
theorem lapI_lt (R:Rg) (t:Int):0 ≤ lapI R t ∧ lapI R t < 4294967296:=by unfold lapI; omega
theorem div_32 {w:Int} (h:U w):0 ≤ w / 4294967296 ∧ w / 4294967296 < 4294967296:=by have:=h.1; have:=h.2; omega
section
variable {G:GS} {R:Rg}
theorem size_c {R:Rg} (h:R.ok):IntKind.wrap .u64 R.size = R.size:=by rw [wrap_u64]; have:=h.1; have:=h.2; omega
theorem place_ok (orc:FuncId → Bool) (h:R.ok) {t:Int} (ht:U t) (G:GS):∃ G',(E orc).cl 147 [R.v,.int .u64 t] G = some (.int .i64 (placeI R t),G') ∧ Ext G G':=by
 refine ⟨(G.push ⟨R.cells,1,false,1⟩).room 10,f147 (exL_ok Q orc) _ _ G _ ?_,((Ext.refl G).push _).room 10⟩
 have h1:=size_c h
 have h2:t.tmod R.size = t % R.size:=Int.tmod_eq_emod_of_nonneg ht.1
 have h3:¬ R.size = 0:=by have:=h.1; omega
 have h4:=Int.emod_nonneg t h3
 have h5:=Int.emod_lt_of_pos t (show 0 < R.size by have:=h.1; omega)
 have h6:IntKind.wrap .i64 (t % R.size) = t % R.size:=wrap64 (by omega) (by have:=h.2; omega)
 simp [s147,h1,h2,h3,h6,placeI]
theorem lap_ok (orc:FuncId → Bool) (h:R.ok) {t:Int} (ht:U t) (G:GS):∃ G',(E orc).cl 201 [R.v,.int .u64 t] G = some (.int .u32 (lapI R t),G') ∧ Ext G G':=by
 refine ⟨G.push ⟨R.cells,1,false,1⟩,f201 (exL_ok Q orc) _ _ G _ ?_,(Ext.refl G).push _⟩
 have h1:=size_c h
 have h3:¬ R.size = 0:=by have:=h.1; omega
 have h2:t.tdiv R.size = t / R.size:=Int.tdiv_eq_ediv_of_nonneg ht.1
 have h4:0 ≤ t / R.size:=Int.ediv_nonneg ht.1 (by have:=h.1; omega)
 have h5:t / R.size ≤ t:=Int.ediv_le_self _ ht.1
 have h6:IntKind.wrap .u64 (t / R.size) = t / R.size:=by rw [wrap_u64]; have:=ht.2; omega
 simp [s201,h1,h2,h3,h6,lapI,wrap_u32]
theorem full_ok (orc:FuncId → Bool) {w l:Int} (hw:U w) (G:GS):(E orc).cl 200 [.int .u64 w,.int .u32 l] G = some (.bool (fullI w l),G):=by
 refine f200 (exL_ok Q orc) _ _ G _ ?_
 have h1:=shr_32 hw
 have h2:IntKind.wrap .u32 (w / 4294967296) = w / 4294967296:=by rw [wrap_u32]; have:=div_32 hw; omega
 have h3:=and_bit hw
 by_cases ha:w / 4294967296 = l
 ·have h2':=h2
  rw [ha] at h2'
  by_cases hb:w / 65536 % 2 = 1
  ·simp [s200,h1,h2,h2',h3,ha,hb,fullI]
  ·simp [s200,h1,h2,h2',h3,ha,hb,fullI]
 ·simp [s200,h1,h2,h3,ha,fullI]
theorem empty_ok (orc:FuncId → Bool) {w l:Int} (hw:U w) (G:GS):(E orc).cl 239 [.int .u64 w,.int .u32 l] G = some (.bool (emptyI w l),G):=by
 refine f239 (exL_ok Q orc) _ _ G _ ?_
 have h1:=shr_32 hw
 have h2:IntKind.wrap .u32 (w / 4294967296) = w / 4294967296:=by rw [wrap_u32]; have:=div_32 hw; omega
 have h3:=and_bit hw
 by_cases ha:w / 4294967296 = l
 ·have h2':=h2
  rw [ha] at h2'
  by_cases hb:w / 65536 % 2 = 1
  ·have hc:¬ w / 65536 % 2 = 0:=by omega
   simp [s239,h1,h2,h2',h3,ha,hb,emptyI]
  ·have hc:w / 65536 % 2 = 0:=by omega
   simp [s239,h1,h2,h2',h3,ha,hb,hc,emptyI]
 ·simp [s239,h1,h2,h3,ha,emptyI]
theorem value_ok (orc:FuncId → Bool) {w:Int} (hw:U w) (G:GS):(E orc).cl 148 [.int .u64 w] G = some (.int .i64 (w % 65536),G):=by
 refine f148 (exL_ok Q orc) _ G _ ?_
 have h2:IntKind.wrap .i64 (w % 65536) = w % 65536:=wrap64 (by omega) (by omega)
 simp [s148,and_low hw,h2]
theorem of_ok (orc:FuncId → Bool) {l:Int} (h0:0 ≤ l) (h1:l < 4294967296) (G:GS):(E orc).cl 223 [.int .u32 l] G = some (.int .u64 (l * 4294967296),G):=by
 refine f223 (exL_ok Q orc) _ G _ ?_
 have h2:IntKind.wrap .u64 l = l:=by rw [wrap_u64]; omega
 simp [s223,h2,shl_32 h0 h1]
theorem with_num {l v:Int} (h0:0 ≤ l) (h1:l < 4294967296) (h2:0 ≤ v) (h3:v ≤ 65535):orI .u64 (orI .u64 (l * 4294967296) 65536) v = wordI l v:=by
 have e1:orI .u64 (l * 4294967296) 65536 = l * 4294967296 + 65536:=or_add 32 l.toNat ⟨by omega,by omega⟩ ⟨by decide,by decide⟩ (by omega) (by decide)
 rw [e1,or_add 16 (2 ^ 16 * l.toNat + 1) ⟨by omega,by omega⟩ ⟨by omega,by omega⟩ (by omega) (by omega)]
 rfl
theorem with_ok (orc:FuncId → Bool) {l v:Int} (h0:0 ≤ l) (h1:l < 4294967296) (h2:0 ≤ v) (h3:v ≤ 65535) (G:GS):(E orc).cl 261 [.int .u64 (l * 4294967296),.int .i64 v] G = some (.int .u64 (wordI l v),G):=by
 refine f261 (exL_ok Q orc) _ _ G _ ?_
 have h4:IntKind.wrap .u64 v = v:=by rw [wrap_u64]; omega
 simp [s261,andNot_low h0 h1,h4,with_num h0 h1 h2 h3]
theorem sized_ok (orc:FuncId → Bool) (R:Rg) (G:GS):∃ G',(E orc).cl 144 [R.v] G = some (.bool (decide (1 ≤ R.size) && decide (R.size ≤ 4096)),G') ∧ Ext G G':=by
 refine ⟨G.push ⟨R.cells,1,false,1⟩,f144 (exL_ok Q orc) _ G _ ?_,(Ext.refl G).push _⟩
 by_cases h:1 ≤ R.size
 ·simp [s144,h]
 ·simp [s144,h]
end
end Go.Proofs.YtlaojmcekeohnaaGreatDoor.Lift
set_option linter.unusedVariables false
set_option linter.unusedSimpArgs false
set_option maxRecDepth 20000
namespace Go.Proofs.YtlaojmcekeohnaaGreatDoor.Lift
open Go Go.Proofs.YtlaojmcekeohnaaGreatDoor.Gh Go.Proofs
inductive PuS where
 | done (e:Int)
 | go (n:Nat) (R:Rg) (v t w:Int)
def PuS.ok:PuS → Prop
 | .done _=>True
 | .go n R v t w=>1 ≤ n ∧ n ≤ 5 ∧ R.ok ∧ 0 ≤ v ∧ v ≤ 65535 ∧ U t ∧ U w
def PuS.over:PuS → Bool
 | .done _=>true
 | .go ..=>false
def PuS.err:PuS → Int
 | .done e=>e
 | .go ..=>14
def look5 (R:Rg) (v t w:Int):PuS:=if emptyI w (lapI R t) = true then .go 3 R v t w else if fullI w ((lapI R t + 4294967295) % 4294967296) = true then .done 7 else .go 5 R v t w
def PuS.step:PuS → MS → PuS × MS
 | .done e,s=>(.done e,s)
 | .go n R v t w,s =>
  if n = 1 then (.go 2 R v (s.load R.tail).new w,s.load R.tail)
  else if n = 2 then (look5 R v t (s.load (placeI R t)).new,s.load (placeI R t))
  else if n = 3 then (if (s.cas (placeI R t) w (wordI (lapI R t) v)).held = true then .go 4 R v t w else .go 5 R v t w,s.cas (placeI R t) w (wordI (lapI R t) v))
  else if n = 4 then (.done 0,s.cas R.tail t (IntKind.wrap .u64 (t + 1)))
  else (.go 1 R v t w,s.cas R.tail t (IntKind.wrap .u64 (t + 1)))
theorem U_word {R:Rg} {t v:Int} (h0:0 ≤ v) (h1:v ≤ 65535):U (wordI (lapI R t) v):=by have:=lapI_lt R t; unfold wordI U; omega
theorem PuS.ok.step {p:PuS} {s:MS} (hp:p.ok) (hs:s.ok):(p.step s).1.ok ∧ (p.step s).2.ok:=by
 cases p with
 | done e=>exact ⟨hp,hs⟩
 | go n R v t w =>
  obtain ⟨h1,h2,h3,h4,h5,h6,h7⟩:=hp
  simp only [PuS.step]
  split
  ·exact ⟨⟨by decide,by decide,h3,h4,h5,(hs.load _).2,h7⟩,(hs.load _).1⟩
  ·split
   ·refine ⟨?_,(hs.load _).1⟩
    unfold look5
    split
    ·exact ⟨by decide,by decide,h3,h4,h5,h6,(hs.load _).2⟩
    ·split
     ·trivial
     ·exact ⟨by decide,by decide,h3,h4,h5,h6,(hs.load _).2⟩
   ·split
    ·refine ⟨?_,hs.cas _ _ (U_word h4 h5)⟩
     split
     ·exact ⟨by decide,by decide,h3,h4,h5,h6,h7⟩
     ·exact ⟨by decide,by decide,h3,h4,h5,h6,h7⟩
    ·split
     ·exact ⟨trivial,hs.cas _ _ (U_wrap _)⟩
     ·exact ⟨⟨by decide,by decide,h3,h4,h5,h6,h7⟩,hs.cas _ _ (U_wrap _)⟩
def pNext (b n:Nat):Value:=.func (.func (if n = 1 then 135 else if n = 2 then 197 else if n = 3 then 240 else if n = 4 then 262 else 241)) #[P0 b] #[]
def PuR (G:GS) (b:Nat):PuS → Prop
 | .done e=>∃ h t s z v t' w,G.obj b = some ⟨[.int .i64 h,.int .i64 t,.int .i64 s,.int .i64 z,.nilFunc,.bool true,.int .i64 e,.int .i64 v,.int .u64 t',.int .u64 w],1,false,1⟩
 | .go n R v t w=>G.obj b = some ⟨[.int .i64 R.head,.int .i64 R.tail,.int .i64 R.slots,.int .i64 R.size,pNext b n,.bool true,.int .i64 0,.int .i64 v,.int .u64 t,.int .u64 w],1,false,1⟩
theorem PuR.kept {G G':GS} {b:Nat} {p:PuS} (h:PuR G b p) (hk:G'.obj b = G.obj b):PuR G' b p:=by
 cases p with
 | done e=>obtain ⟨a,t,s,z,v,t',w,h⟩:=h; exact ⟨a,t,s,z,v,t',w,hk.trans h⟩
 | go n R v t w=>exact hk.trans h
section
variable {A:Nat → Prop} {G:GS} {m bb b:Nat} {rest:List Int} {s:MS} {R:Rg} {v t w:Int}
theorem ends_ok (orc:FuncId → Bool) {c0 c1 c2 c3 c4 c5 c6:Value} {r:List Value} {ez:Nat} {op:Bool} (ho:G.obj b = some ⟨c0 :: c1 :: c2 :: c3 :: c4 :: c5 :: c6 :: r,ez,op,1⟩) (e:Int) :
  (E orc).cl 134 [P0 b,.int .i64 e] G = some (.tuple #[],(G.put b ⟨c0 :: c1 :: c2 :: c3 :: .nilFunc :: c5 :: c6 :: r,ez,op,1⟩).put b ⟨c0 :: c1 :: c2 :: c3 :: .nilFunc :: c5 :: .int .i64 e :: r,ez,op,1⟩):=by
 refine f134 (exL_ok Q orc) _ _ G _ ?_
 simp [s134,ho]
theorem tail_ok (orc:FuncId → Bool) (h:PMx A G m s) (ha:¬ A b) (hb:b < G.nx) (hp:PuR G b (.go 1 R v t w)) :
  Wp ((E orc).cl 135 [P0 b,P0 m] G) fun r=>r.1 = .tuple #[] ∧ Thr (fun A G=>PMx A G m (s.load R.tail)) A b G r.2 ∧ PuR r.2 b (.go 2 R v (s.load R.tail).new w):=by
 refine Wp.ref (f135 (exL_ok Q orc) _ _ G) ?_
 obtain ⟨bb,rest,hm⟩:=h
 obtain ⟨⟨x,G1⟩,e,rfl,q2,q3⟩:=load_ok orc hm R.tail
 simp only at q2 q3
 have hp':G.obj b = _:=hp
 have o1:=(q2.obj b hb ha).trans hp'
 simp [s135,hp',e,o1]
 have th:=Thr.of (P:=fun A G=>PMx A G m (s.load R.tail)) (b:=b) q2 q3
 exact ⟨(th.put (sepP m _) ha hb _).put (sepP m _) ha hb _,by simp [PuR,pNext]⟩
theorem last_ok' (orc:FuncId → Bool) (h:PMx A G m s) (ha:¬ A b) (hb:b < G.nx) (hp:PuR G b (.go 4 R v t w)) :
  Wp ((E orc).cl 262 [P0 b,P0 m] G) fun r=>r.1 = .tuple #[] ∧ Thr (fun A G=>PMx A G m (s.cas R.tail t (IntKind.wrap .u64 (t + 1)))) A b G r.2 ∧ PuR r.2 b (.done 0):=by
 refine Wp.ref (f262 (exL_ok Q orc) _ _ G) ?_
 have th0:=(Thr.refl (sepP m s) (b:=b) h).ext (sepP m s) ((Ext.refl G).room 17)
 obtain ⟨bb,rest,hm⟩:=th0.st
 obtain ⟨⟨x,G1⟩,e,rfl,q2,q3⟩:=cas_ok orc hm R.tail t (IntKind.wrap .u64 (t + 1))
 simp only at q2 q3
 have hp':G.obj b = _:=hp
 have th:=th0.acc (sepP m s) (sepP m _) q2 q3
 have o1:=(q2.obj b (by simp; omega) (Thr.notIn ha hb)).trans hp'
 have hend:=ends_ok orc o1 0
 simp [s262,hp',e,o1,hend]
 exact ⟨(th.put (sepP m _) ha hb _).put (sepP m _) ha hb _,by simp [PuR]⟩
theorem help_ok (orc:FuncId → Bool) (h:PMx A G m s) (ha:¬ A b) (hb:b < G.nx) (hp:PuR G b (.go 5 R v t w)) :
  Wp ((E orc).cl 241 [P0 b,P0 m] G) fun r=>r.1 = .tuple #[] ∧ Thr (fun A G=>PMx A G m (s.cas R.tail t (IntKind.wrap .u64 (t + 1)))) A b G r.2 ∧ PuR r.2 b (.go 1 R v t w):=by
 refine Wp.ref (f241 (exL_ok Q orc) _ _ G) ?_
 have th0:=(Thr.refl (sepP m s) (b:=b) h).ext (sepP m s) ((Ext.refl G).room 17)
 obtain ⟨bb,rest,hm⟩:=th0.st
 obtain ⟨⟨x,G1⟩,e,rfl,q2,q3⟩:=cas_ok orc hm R.tail t (IntKind.wrap .u64 (t + 1))
 simp only at q2 q3
 have hp':G.obj b = _:=hp
 have th:=th0.acc (sepP m s) (sepP m _) q2 q3
 have o1:=(q2.obj b (by simp; omega) (Thr.notIn ha hb)).trans hp'
 simp [s241,hp',e,o1]
 exact ⟨th.put (sepP m _) ha hb _,by simp [PuR,pNext]⟩
theorem look_ok (orc:FuncId → Bool) (h:PMx A G m s) (hs:s.ok) (hR:R.ok) (ht:U t) (ha:¬ A b) (hb:b < G.nx) (hp:PuR G b (.go 2 R v t w)) :
  Wp ((E orc).cl 197 [P0 b,P0 m] G) fun r=>r.1 = .tuple #[] ∧ Thr (fun A G=>PMx A G m (s.load (placeI R t))) A b G r.2 ∧ PuR r.2 b (look5 R v t (s.load (placeI R t)).new):=by
 refine Wp.ref (f197 (exL_ok Q orc) _ _ G) ?_
 have hp':G.obj b = _:=hp
 have x0:Ext G (G.room 16):=(Ext.refl G).room 16
 obtain ⟨G1,e1,x1⟩:=place_ok orc hR ht (G.room 16)
 have y1:=x0.trans x1
 have th0:=(Thr.refl (sepP m s) (b:=b) h).ext (sepP m s) y1
 obtain ⟨bb,rest,hm⟩:=th0.st
 obtain ⟨⟨x,G2⟩,e2,rfl,q2,q3⟩:=load_ok orc hm (placeI R t)
 simp only at q2 q3
 have th:=th0.acc (sepP m s) (sepP m _) q2 q3
 have n1:=y1.nx
 have o2:=(q2.obj b (by omega) (Thr.notIn ha hb)).trans ((y1.obj b hb).trans hp')
 have hw:=(hs.load (placeI R t)).2
 generalize hs':s.load (placeI R t) = s' at *
 generalize hx:s'.new = x at *
 obtain ⟨G3,hG3⟩:∃ G3,G3 = G2.put b ⟨[.int .i64 R.head,.int .i64 R.tail,.int .i64 R.slots,.int .i64 R.size,pNext b 2,.bool true,.int .i64 0,.int .i64 v,.int .u64 t,.int .u64 x],1,false,1⟩:=⟨_,rfl⟩
 have o3:G3.obj b = some ⟨[.int .i64 R.head,.int .i64 R.tail,.int .i64 R.slots,.int .i64 R.size,pNext b 2,.bool true,.int .i64 0,.int .i64 v,.int .u64 t,.int .u64 x],1,false,1⟩:=by rw [hG3]; simp
 have th3:Thr (fun A G=>PMx A G m s') A b G G3:=by rw [hG3]; exact th.put (sepP m _) ha hb _
 obtain ⟨G4,e4,x4⟩:=lap_ok orc hR ht (G3.room 11)
 have y4:=((Ext.refl G3).room 11).trans x4
 have th4:=th3.ext (sepP m _) y4
 have hb3:b < G3.nx:=Nat.lt_of_lt_of_le hb th3.mod.nx
 have o4:=(y4.obj b hb3).trans o3
 have hl:=lapI_lt R t
 have e5:=empty_ok orc (l:=lapI R t) hw G4
 have e6:=full_ok orc (l:=(lapI R t + 4294967295) % 4294967296) hw G4
 have hsub:IntKind.wrap .u32 (lapI R t - 1) = (lapI R t + 4294967295) % 4294967296:=by rw [wrap_u32]; omega
 have hend:=ends_ok orc o4 7
 unfold look5
 by_cases c1:emptyI x (lapI R t) = true
 ·rw [if_pos c1]
  rw [c1] at e5
  simp [s197,hp',e1,e2,o2,← hG3,o3,e4,o4,e5]
  exact ⟨th4.put (sepP m _) ha hb _,by simp [PuR,pNext]⟩
 ·rw [if_neg c1]
  rw [Bool.not_eq_true] at c1
  rw [c1] at e5
  by_cases c2:fullI x ((lapI R t + 4294967295) % 4294967296) = true
  ·rw [if_pos c2]
   rw [c2] at e6
   simp [s197,hp',e1,e2,o2,← hG3,o3,e4,o4,e5,hsub,e6,hend]
   exact ⟨(th4.put (sepP m _) ha hb _).put (sepP m _) ha hb _,by simp [PuR]⟩
  ·rw [if_neg c2]
   rw [Bool.not_eq_true] at c2
   rw [c2] at e6
   simp [s197,hp',e1,e2,o2,← hG3,o3,e4,o4,e5,hsub,e6]
   exact ⟨th4.put (sepP m _) ha hb _,by simp [PuR,pNext]⟩
end
end Go.Proofs.YtlaojmcekeohnaaGreatDoor.Lift
set_option linter.unusedVariables false
set_option linter.unusedSimpArgs false
set_option maxRecDepth 20000
namespace Go.Proofs.YtlaojmcekeohnaaGreatDoor.Lift
open Go Go.Proofs.YtlaojmcekeohnaaGreatDoor.Gh Go.Proofs
section
variable {A:Nat → Prop} {G:GS} {m r bb b:Nat} {rest:List Int} {s:MS} {R:Rg} {v t w:Int}
theorem lay_ok (orc:FuncId → Bool) (h:PMx A G m s) (hR:R.ok) (ht:U t) (hv0:0 ≤ v) (hv1:v ≤ 65535) (ha:¬ A b) (hb:b < G.nx) (hp:PuR G b (.go 3 R v t w)) :
  Wp ((E orc).cl 240 [P0 b,P0 m] G) fun r=>r.1 = .tuple #[] ∧ Thr (fun A G=>PMx A G m (s.cas (placeI R t) w (wordI (lapI R t) v))) A b G r.2 ∧ PuR r.2 b (if (s.cas (placeI R t) w (wordI (lapI R t) v)).held = true then .go 4 R v t w else .go 5 R v t w):=by
 refine Wp.ref (f240 (exL_ok Q orc) _ _ G) ?_
 have hp':G.obj b = _:=hp
 obtain ⟨G0,hG0⟩:∃ G0,G0 = G.put b ⟨[.int .i64 R.head,.int .i64 R.tail,.int .i64 R.slots,.int .i64 R.size,.func (.func 241) #[P0 b] #[],.bool true,.int .i64 0,.int .i64 v,.int .u64 t,.int .u64 w],1,false,1⟩:=⟨_,rfl⟩
 have th0:Thr (fun A G=>PMx A G m s) A b G G0:=by rw [hG0]; exact (Thr.refl (sepP m s) h).put (sepP m s) ha hb _
 have o0:G0.obj b = some ⟨[.int .i64 R.head,.int .i64 R.tail,.int .i64 R.slots,.int .i64 R.size,.func (.func 241) #[P0 b] #[],.bool true,.int .i64 0,.int .i64 v,.int .u64 t,.int .u64 w],1,false,1⟩:=by rw [hG0]; simp
 have hb0:b < G0.nx:=Nat.lt_of_lt_of_le hb th0.mod.nx
 have x0:Ext G0 (G0.room 32):=(Ext.refl G0).room 32
 obtain ⟨G1,e1,x1⟩:=place_ok orc hR ht (G0.room 32)
 have y1:=x0.trans x1
 obtain ⟨G2,e2,x2⟩:=lap_ok orc hR ht G1
 have y2:=y1.trans x2
 have hl:=lapI_lt R t
 have e3:=of_ok orc hl.1 hl.2 G2
 have e4:=with_ok orc hl.1 hl.2 hv0 hv1 G2
 have th2:=th0.ext (sepP m s) y2
 obtain ⟨bb,rest,hm⟩:=th2.st
 obtain ⟨⟨x,G3⟩,e5,rfl,q2,q3⟩:=cas_ok orc hm (placeI R t) w (wordI (lapI R t) v)
 simp only at q2 q3
 have th3:=th2.acc (sepP m s) (sepP m _) q2 q3
 have o1:=(y1.obj b hb0).trans o0
 have o2:=(y2.obj b hb0).trans o0
 have hb2:b < G2.nx:=Nat.lt_of_lt_of_le hb0 y2.nx
 have o3:=(q2.obj b hb2 (Thr.notIn ha hb)).trans o2
 cases hh:(s.cas (placeI R t) w (wordI (lapI R t) v)).held with
 | true =>
  rw [hh] at e5
  simp [s240,hp',← hG0,o0,e1,o1,e2,o2,e3,e4,e5,o3]
  exact ⟨th3.put (sepP m _) ha hb _,by simp [PuR,pNext]⟩
 | false =>
  rw [hh] at e5
  simp [s240,hp',← hG0,o0,e1,o1,e2,o2,e3,e4,e5,o3]
  exact ⟨th3,by simpa [PuR,pNext] using o3⟩
theorem push_ok (orc:FuncId → Bool) {p:PuS} (h:PMx A G m s) (hs:s.ok) (hpo:p.ok) (ha:¬ A b) (hb:b < G.nx) (hp:PuR G b p) :
  Wp ((E orc).cl 63 [P0 b,P0 m] G) fun q=>q.1 = .bool (p.step s).1.over ∧ Thr (fun A G=>PMx A G m (p.step s).2) A b G q.2 ∧ PuR q.2 b (p.step s).1:=by
 have w52:Wp ((E orc).cl 142 [P0 b,P0 m] G) fun q=>q.1 = .bool (p.step s).1.over ∧ Thr (fun A G=>PMx A G m (p.step s).2) A b G q.2 ∧ PuR q.2 b (p.step s).1:=by
  refine Wp.ref (f142 (exL_ok Q orc) _ _ G) ?_
  cases p with
  | done e =>
   have hp0:=hp
   obtain ⟨a0,a1,a2,a3,a4,a5,a6,hp'⟩:=hp
   simp [s142,sb142,j142_0,jb142_0,clip_t,hp',PuS.step,PuS.over]
   exact ⟨Thr.refl (sepP m s) h,hp0⟩
  | go n R v t w =>
   obtain ⟨h1,h2,h3,h4,h5,h6,h7⟩:=hpo
   have hp':G.obj b = _:=hp
   have hn:n = 1 ∨ n = 2 ∨ n = 3 ∨ n = 4 ∨ n = 5:=by omega
   rcases hn with rfl | rfl | rfl | rfl | rfl
   ·obtain ⟨⟨x,G1⟩,e,rfl,q1,q2⟩:=tail_ok orc h ha hb hp
    have q2':G1.obj b = _:=q2
    simp only at q1 q2
    simp [s142,sb142,j142_0,jb142_0,clip_t,hp',pNext,e,q2',PuS.step,PuS.over]
    exact ⟨q1,q2⟩
   ·obtain ⟨⟨x,G1⟩,e,rfl,q1,q2⟩:=look_ok orc h hs h3 h6 ha hb hp
    simp only at q1 q2
    simp only [PuS.step,if_neg (show ¬ (2:Nat) = 1 by decide),if_true]
    generalize look5 R v t (s.load (placeI R t)).new = st' at *
    cases st' with
    | done e' =>
     have q0:=q2
     obtain ⟨a0,a1,a2,a3,a4,a5,a6,q2'⟩:=q2
     simp [s142,sb142,j142_0,jb142_0,clip_t,hp',pNext,e,q2',PuS.over]
     exact ⟨q1,q0⟩
    | go n' R' v' t' w' =>
     have q2':G1.obj b = _:=q2
     simp [s142,sb142,j142_0,jb142_0,clip_t,hp',pNext,e,q2',PuS.over]
     exact ⟨q1,q2⟩
   ·obtain ⟨⟨x,G1⟩,e,rfl,q1,q2⟩:=lay_ok orc h h3 h6 h4 h5 ha hb hp
    simp only at q1 q2
    simp only [PuS.step,if_neg (show ¬ (3:Nat) = 1 by decide),if_neg (show ¬ (3:Nat) = 2 by decide),if_true]
    cases hh:(s.cas (placeI R t) w (wordI (lapI R t) v)).held with
    | true =>
     simp only [hh,if_true] at q2
     have q2':G1.obj b = _:=q2
     simp [s142,sb142,j142_0,jb142_0,clip_t,hp',pNext,e,q2',PuS.over]
     exact ⟨q1,q2⟩
    | false =>
     simp only [hh,if_false,Bool.false_eq_true] at q2
     have q2':G1.obj b = _:=q2
     simp [s142,sb142,j142_0,jb142_0,clip_t,hp',pNext,e,q2',PuS.over]
     exact ⟨q1,q2⟩
   ·obtain ⟨⟨x,G1⟩,e,rfl,q1,q2⟩:=last_ok' orc h ha hb hp
    simp only at q1 q2
    have q0:=q2
    obtain ⟨a0,a1,a2,a3,a4,a5,a6,q2'⟩:=q2
    simp [s142,sb142,j142_0,jb142_0,clip_t,hp',pNext,e,q2',PuS.step,PuS.over]
    exact ⟨q1,q0⟩
   ·obtain ⟨⟨x,G1⟩,e,rfl,q1,q2⟩:=help_ok orc h ha hb hp
    have q2':G1.obj b = _:=q2
    simp only at q1 q2
    simp [s142,sb142,j142_0,jb142_0,clip_t,hp',pNext,e,q2',PuS.step,PuS.over]
    exact ⟨q1,q2⟩
 obtain ⟨⟨x,G1⟩,e,rfl,q⟩:=w52
 refine Wp.ref (f63 (exL_ok Q orc) _ _ G) ?_
 simp [s63,e]
 exact q
theorem pusherr_ok (orc:FuncId → Bool) {p:PuS} (hp:PuR G b p):(E orc).cl 64 [P0 b] G = some (.int .i64 p.err,G):=by
 have h53:(E orc).cl 143 [P0 b] G = some (.int .i64 p.err,G):=by
  refine f143 (exL_ok Q orc) _ G _ ?_
  cases p with
  | done e =>
   obtain ⟨a0,a1,a2,a3,a4,a5,a6,hp'⟩:=hp
   simp [s143,hp',PuS.err]
  | go n R v t w =>
   have hp':G.obj b = _:=hp
   simp [s143,hp',pNext,PuS.err]
 exact f64 (exL_ok Q orc) _ G _ (by simp [s64,h53])
def RuR (G:GS) (b:Nat):PuS → Prop
 | .done e=>∃ h t s z v t' w,G.obj b = some ⟨[.int .i64 h,.int .i64 t,.int .i64 s,.int .i64 z,.int .i64 v,.int .i64 9,.int .u64 t',.int .u64 w,.int .i64 e],1,false,1⟩
 | .go n R v t w=>G.obj b = some ⟨[.int .i64 R.head,.int .i64 R.tail,.int .i64 R.slots,.int .i64 R.size,.int .i64 v,.int .i64 n,.int .u64 t,.int .u64 w,.int .i64 0],1,false,1⟩
theorem RuR.kept {G G':GS} {b:Nat} {p:PuS} (h:RuR G b p) (hk:G'.obj b = G.obj b):RuR G' b p:=by
 cases p with
 | done e=>obtain ⟨a,t,s,z,v,t',w,h⟩:=h; exact ⟨a,t,s,z,v,t',w,hk.trans h⟩
 | go n R v t w=>exact hk.trans h
end
end Go.Proofs.YtlaojmcekeohnaaGreatDoor.Lift
set_option linter.unusedVariables false
set_option linter.unusedSimpArgs false
set_option maxRecDepth 20000
namespace Go.Proofs.YtlaojmcekeohnaaGreatDoor.Lift
open Go Go.Proofs.YtlaojmcekeohnaaGreatDoor.Gh Go.Proofs
inductive FrS where
 | done (e h v:Int)
 | go (n:Nat) (R:Rg) (h:Int)
def FrS.ok:FrS → Prop
 | .done ..=>True
 | .go n R h=>1 ≤ n ∧ n ≤ 2 ∧ R.ok ∧ U h
def FrS.over:FrS → Bool
 | .done ..=>true
 | .go ..=>false
def FrS.err:FrS → Int
 | .done e _ _=>e
 | .go ..=>14
def FrS.val:FrS → Int
 | .done _ _ v=>v
 | .go ..=>0
def FrS.at':FrS → Int
 | .done _ h _=>h
 | .go _ _ h=>h
def look2 (R:Rg) (h w:Int):FrS:=if fullI w (lapI R h) = true then .done 0 h (w % 65536) else .done 15 h 0
def FrS.step:FrS → MS → FrS × MS
 | .done e h v,s=>(.done e h v,s)
 | .go n R h,s=>if n = 1 then (.go 2 R (s.load R.head).new,s.load R.head) else (look2 R h (s.load (placeI R h)).new,s.load (placeI R h))
theorem FrS.ok.step {p:FrS} {s:MS} (hp:p.ok) (hs:s.ok):(p.step s).1.ok ∧ (p.step s).2.ok:=by
 cases p with
 | done e h v=>exact ⟨hp,hs⟩
 | go n R h =>
  obtain ⟨h1,h2,h3,h4⟩:=hp
  simp only [FrS.step]
  split
  ·exact ⟨⟨by decide,by decide,h3,(hs.load _).2⟩,(hs.load _).1⟩
  ·refine ⟨?_,(hs.load _).1⟩
   unfold look2; split <;> trivial
def fNext (b n:Nat):Value:=.func (.func (if n = 1 then 149 else 202)) #[P0 b] #[]
def PfR (G:GS) (b:Nat):FrS → Prop
 | .done e h v=>∃ a0 a1 a2 a3,G.obj b = some ⟨[.int .i64 a0,.int .i64 a1,.int .i64 a2,.int .i64 a3,.nilFunc,.bool true,.int .i64 e,.int .u64 h,.int .i64 v],1,false,1⟩
 | .go n R h=>G.obj b = some ⟨[.int .i64 R.head,.int .i64 R.tail,.int .i64 R.slots,.int .i64 R.size,fNext b n,.bool true,.int .i64 0,.int .u64 h,.int .i64 0],1,false,1⟩
def RfR (G:GS) (b:Nat):FrS → Prop
 | .done e h v=>∃ a0 a1 a2 a3,G.obj b = some ⟨[.int .i64 a0,.int .i64 a1,.int .i64 a2,.int .i64 a3,.int .i64 9,.int .u64 h,.int .i64 v,.int .i64 e],1,false,1⟩
 | .go n R h=>G.obj b = some ⟨[.int .i64 R.head,.int .i64 R.tail,.int .i64 R.slots,.int .i64 R.size,.int .i64 n,.int .u64 h,.int .i64 0,.int .i64 0],1,false,1⟩
theorem PfR.kept {G G':GS} {b:Nat} {p:FrS} (h:PfR G b p) (hk:G'.obj b = G.obj b):PfR G' b p:=by
 cases p with
 | done e h' v=>obtain ⟨a0,a1,a2,a3,h⟩:=h; exact ⟨a0,a1,a2,a3,hk.trans h⟩
 | go n R h'=>exact hk.trans h
theorem RfR.kept {G G':GS} {b:Nat} {p:FrS} (h:RfR G b p) (hk:G'.obj b = G.obj b):RfR G' b p:=by
 cases p with
 | done e h' v=>obtain ⟨a0,a1,a2,a3,h⟩:=h; exact ⟨a0,a1,a2,a3,hk.trans h⟩
 | go n R h'=>exact hk.trans h
section
variable {A:Nat → Prop} {G:GS} {m r bb b:Nat} {rest:List Int} {s:MS} {R:Rg} {h:Int}
theorem fhead_ok (orc:FuncId → Bool) (hm:PMx A G m s) (ha:¬ A b) (hb:b < G.nx) (hp:PfR G b (.go 1 R h)) :
  Wp ((E orc).cl 149 [P0 b,P0 m] G) fun r=>r.1 = .tuple #[] ∧ Thr (fun A G=>PMx A G m (s.load R.head)) A b G r.2 ∧ PfR r.2 b (.go 2 R (s.load R.head).new):=by
 refine Wp.ref (f149 (exL_ok Q orc) _ _ G) ?_
 obtain ⟨bb,rest,hm⟩:=hm
 obtain ⟨⟨x,G1⟩,e,rfl,q2,q3⟩:=load_ok orc hm R.head
 simp only at q2 q3
 have hp':G.obj b = _:=hp
 have o1:=(q2.obj b hb ha).trans hp'
 simp [s149,hp',e,o1]
 have th:=Thr.of (P:=fun A G=>PMx A G m (s.load R.head)) (b:=b) q2 q3
 exact ⟨(th.put (sepP m _) ha hb _).put (sepP m _) ha hb _,by simp [PfR,fNext]⟩
theorem flook_ok (orc:FuncId → Bool) (hm:PMx A G m s) (hs:s.ok) (hR:R.ok) (hh:U h) (ha:¬ A b) (hb:b < G.nx) (hp:PfR G b (.go 2 R h)) :
  Wp ((E orc).cl 202 [P0 b,P0 m] G) fun r=>r.1 = .tuple #[] ∧ Thr (fun A G=>PMx A G m (s.load (placeI R h))) A b G r.2 ∧ PfR r.2 b (look2 R h (s.load (placeI R h)).new):=by
 refine Wp.ref (f202 (exL_ok Q orc) _ _ G) ?_
 have hp':G.obj b = _:=hp
 have x0:Ext G (G.room 13):=(Ext.refl G).room 13
 obtain ⟨G1,e1,x1⟩:=place_ok orc hR hh (G.room 13)
 have y1:=x0.trans x1
 have th0:=(Thr.refl (sepP m s) (b:=b) hm).ext (sepP m s) y1
 obtain ⟨bb,rest,hm⟩:=th0.st
 obtain ⟨⟨x,G2⟩,e2,rfl,q2,q3⟩:=load_ok orc hm (placeI R h)
 simp only at q2 q3
 have th:=th0.acc (sepP m s) (sepP m _) q2 q3
 have n1:=y1.nx
 have o2:=(q2.obj b (by omega) (Thr.notIn ha hb)).trans ((y1.obj b hb).trans hp')
 have hw:=(hs.load (placeI R h)).2
 generalize hs':s.load (placeI R h) = s' at *
 generalize hx:s'.new = x at *
 have hend:=ends_ok orc o2 15
 obtain ⟨G3,hG3⟩:∃ G3,G3 = (G2.put b ⟨[.int .i64 R.head,.int .i64 R.tail,.int .i64 R.slots,.int .i64 R.size,.nilFunc,.bool true,.int .i64 0,.int .u64 h,.int .i64 0],1,false,1⟩).put b ⟨[.int .i64 R.head,.int .i64 R.tail,.int .i64 R.slots,.int .i64 R.size,.nilFunc,.bool true,.int .i64 15,.int .u64 h,.int .i64 0],1,false,1⟩:=⟨_,rfl⟩
 rw [← hG3] at hend
 have o3:G3.obj b = some ⟨[.int .i64 R.head,.int .i64 R.tail,.int .i64 R.slots,.int .i64 R.size,.nilFunc,.bool true,.int .i64 15,.int .u64 h,.int .i64 0],1,false,1⟩:=by rw [hG3]; simp
 have th3:Thr (fun A G=>PMx A G m s') A b G G3:=by rw [hG3]; exact (th.put (sepP m _) ha hb _).put (sepP m _) ha hb _
 obtain ⟨G4,e4,x4⟩:=lap_ok orc hR hh (G3.room 12)
 have y4:=((Ext.refl G3).room 12).trans x4
 have th4:=th3.ext (sepP m _) y4
 have hb3:b < G3.nx:=Nat.lt_of_lt_of_le hb th3.mod.nx
 have o4:=(y4.obj b hb3).trans o3
 have e6:=full_ok orc (l:=lapI R h) hw G4
 have e7:=value_ok orc hw G4
 unfold look2
 by_cases c2:fullI x (lapI R h) = true
 ·rw [if_pos c2]
  rw [c2] at e6
  have hend2:∀ (G5:GS) (c8:Value),G5.obj b = some ⟨[.int .i64 R.head,.int .i64 R.tail,.int .i64 R.slots,.int .i64 R.size,.nilFunc,.bool true,.int .i64 15,.int .u64 h,c8],1,false,1⟩ → _:=fun G5 c8 ho=>ends_ok orc ho 0
  have hend3:=hend2 (G4.put b ⟨[.int .i64 R.head,.int .i64 R.tail,.int .i64 R.slots,.int .i64 R.size,.nilFunc,.bool true,.int .i64 15,.int .u64 h,.int .i64 (x % 65536)],1,false,1⟩) (.int .i64 (x % 65536)) (by simp)
  simp [s202,hp',e1,e2,hend,o3,e4,e6,e7,o4,hend3]
  exact ⟨((th4.put (sepP m _) ha hb _).put (sepP m _) ha hb _).put (sepP m _) ha hb _,by simp [PfR]⟩
 ·rw [if_neg c2]
  rw [Bool.not_eq_true] at c2
  rw [c2] at e6
  simp [s202,hp',e1,e2,hend,o3,e4,e6]
  exact ⟨th4,⟨_,_,_,_,o4⟩⟩
theorem front_ok (orc:FuncId → Bool) {p:FrS} (hm:PMx A G m s) (hs:s.ok) (hpo:p.ok) (ha:¬ A b) (hb:b < G.nx) (hp:PfR G b p) :
  Wp ((E orc).cl 139 [P0 b,P0 m] G) fun q=>q.1 = .bool (p.step s).1.over ∧ Thr (fun A G=>PMx A G m (p.step s).2) A b G q.2 ∧ PfR q.2 b (p.step s).1:=by
 have w52:Wp ((E orc).cl 142 [P0 b,P0 m] G) fun q=>q.1 = .bool (p.step s).1.over ∧ Thr (fun A G=>PMx A G m (p.step s).2) A b G q.2 ∧ PfR q.2 b (p.step s).1:=by
  refine Wp.ref (f142 (exL_ok Q orc) _ _ G) ?_
  cases p with
  | done e h v =>
   have hp0:=hp
   obtain ⟨a0,a1,a2,a3,hp'⟩:=hp
   simp [s142,sb142,j142_0,jb142_0,clip_t,hp',FrS.step,FrS.over]
   exact ⟨Thr.refl (sepP m s) hm,hp0⟩
  | go n R h =>
   obtain ⟨h1,h2,h3,h4⟩:=hpo
   have hp':G.obj b = _:=hp
   have hn:n = 1 ∨ n = 2:=by omega
   rcases hn with rfl | rfl
   ·obtain ⟨⟨x,G1⟩,e,rfl,q1,q2⟩:=fhead_ok orc hm ha hb hp
    have q2':G1.obj b = _:=q2
    simp only at q1 q2
    simp [s142,sb142,j142_0,jb142_0,clip_t,hp',fNext,e,q2',FrS.step,FrS.over]
    exact ⟨q1,q2⟩
   ·obtain ⟨⟨x,G1⟩,e,rfl,q1,q2⟩:=flook_ok orc hm hs h3 h4 ha hb hp
    simp only at q1 q2
    simp only [FrS.step,if_neg (show ¬ (2:Nat) = 1 by decide)]
    have hd:∃ e' h' v',look2 R h (s.load (placeI R h)).new = .done e' h' v':=by unfold look2; split <;> exact ⟨_,_,_,rfl⟩
    obtain ⟨e',h',v',hd⟩:=hd
    rw [hd] at q2 ⊢
    have q0:=q2
    obtain ⟨a0,a1,a2,a3,q2'⟩:=q2
    simp [s142,sb142,j142_0,jb142_0,clip_t,hp',fNext,e,q2',FrS.over]
    exact ⟨q1,q0⟩
 obtain ⟨⟨x,G1⟩,e,rfl,q⟩:=w52
 refine Wp.ref (f139 (exL_ok Q orc) _ _ G) ?_
 simp [s139,e]
 exact q
theorem fval_ok (orc:FuncId → Bool) {p:FrS} (hp:PfR G b p):∃ G',(E orc).cl 67 [P0 b] G = some (.tuple #[.int .i64 p.val,.int .i64 p.err],G') ∧ Ext G G':=by
 have h53:(E orc).cl 143 [P0 b] (G.room 10) = some (.int .i64 p.err,G.room 10):=by
  refine f143 (exL_ok Q orc) _ (G.room 10) _ ?_
  cases p with
  | done e h v =>
   obtain ⟨a0,a1,a2,a3,hp'⟩:=hp
   simp [s143,hp',FrS.err]
  | go n R h =>
   have hp':G.obj b = _:=hp
   simp [s143,hp',fNext,FrS.err]
 refine ⟨G.room 10,f67 (exL_ok Q orc) _ G _ ?_,(Ext.refl G).room 10⟩
 cases p with
 | done e h v =>
  obtain ⟨a0,a1,a2,a3,hp'⟩:=hp
  simp [s67,hp',h53,FrS.val]
 | go n R h =>
  have hp':G.obj b = _:=hp
  simp [s67,hp',h53,FrS.val]
theorem fat_ok (orc:FuncId → Bool) {p:FrS} (hp:PfR G b p):(E orc).cl 97 [P0 b] G = some (.int .u64 p.at',G):=by
 refine f97 (exL_ok Q orc) _ G _ ?_
 cases p with
 | done e h v =>
  obtain ⟨a0,a1,a2,a3,hp'⟩:=hp
  simp [s97,hp',FrS.at']
 | go n R h =>
  have hp':G.obj b = _:=hp
  simp [s97,hp',FrS.at']
end
end Go.Proofs.YtlaojmcekeohnaaGreatDoor.Lift
set_option linter.unusedVariables false
set_option linter.unusedSimpArgs false
set_option maxRecDepth 20000
namespace Go.Proofs.YtlaojmcekeohnaaGreatDoor.Lift
open Go Go.Proofs.YtlaojmcekeohnaaGreatDoor.Gh Go.Proofs
inductive DrS where
 | done (e:Int)
 | go (n:Nat) (R:Rg) (h:Int)
def DrS.ok:DrS → Prop
 | .done ..=>True
 | .go n R h=>1 ≤ n ∧ n ≤ 2 ∧ R.ok ∧ U h
def DrS.over:DrS → Bool
 | .done ..=>true
 | .go ..=>false
def DrS.err:DrS → Int
 | .done e=>e
 | .go ..=>14
def clearI (R:Rg) (h:Int):Int:=(lapI R h + 1) % 4294967296 * 4294967296
def DrS.step:DrS → MS → DrS × MS
 | .done e,s=>(.done e,s)
 | .go n R h,s=>if n = 1 then (.go 2 R h,s.store (placeI R h) (clearI R h)) else (.done 0,s.store R.head (IntKind.wrap .u64 (h + 1)))
theorem DrS.ok.step {p:DrS} {s:MS} (hp:p.ok) (hs:s.ok):(p.step s).1.ok ∧ (p.step s).2.ok:=by
 cases p with
 | done e=>exact ⟨hp,hs⟩
 | go n R h =>
  obtain ⟨h1,h2,h3,h4⟩:=hp
  simp only [DrS.step]
  split
  ·exact ⟨⟨by decide,by decide,h3,h4⟩,hs.store _ (by unfold clearI U; omega)⟩
  ·exact ⟨trivial,hs.store _ (U_wrap _)⟩
def drNext (b n:Nat):Value:=.func (.func (if n = 1 then 170 else 224)) #[P0 b] #[]
def PdR (G:GS) (b:Nat):DrS → Prop
 | .done e=>∃ a0 a1 a2 a3 h,G.obj b = some ⟨[.int .i64 a0,.int .i64 a1,.int .i64 a2,.int .i64 a3,.nilFunc,.bool true,.int .i64 e,.int .u64 h],1,false,1⟩
 | .go n R h=>G.obj b = some ⟨[.int .i64 R.head,.int .i64 R.tail,.int .i64 R.slots,.int .i64 R.size,drNext b n,.bool true,.int .i64 0,.int .u64 h],1,false,1⟩
def RdR (G:GS) (b:Nat):DrS → Prop
 | .done e=>∃ a0 a1 a2 a3 h,G.obj b = some ⟨[.int .i64 a0,.int .i64 a1,.int .i64 a2,.int .i64 a3,.int .i64 9,.int .u64 h,.int .i64 e],1,false,1⟩
 | .go n R h=>G.obj b = some ⟨[.int .i64 R.head,.int .i64 R.tail,.int .i64 R.slots,.int .i64 R.size,.int .i64 n,.int .u64 h,.int .i64 0],1,false,1⟩
theorem PdR.kept {G G':GS} {b:Nat} {p:DrS} (h:PdR G b p) (hk:G'.obj b = G.obj b):PdR G' b p:=by
 cases p with
 | done e=>obtain ⟨a0,a1,a2,a3,h',h⟩:=h; exact ⟨a0,a1,a2,a3,h',hk.trans h⟩
 | go n R h'=>exact hk.trans h
theorem RdR.kept {G G':GS} {b:Nat} {p:DrS} (h:RdR G b p) (hk:G'.obj b = G.obj b):RdR G' b p:=by
 cases p with
 | done e=>obtain ⟨a0,a1,a2,a3,h',h⟩:=h; exact ⟨a0,a1,a2,a3,h',hk.trans h⟩
 | go n R h'=>exact hk.trans h
section
variable {A:Nat → Prop} {G:GS} {m r bb b:Nat} {rest:List Int} {s:MS} {R:Rg} {h:Int}
theorem dclear_ok (orc:FuncId → Bool) (hm:PMx A G m s) (hR:R.ok) (hh:U h) (ha:¬ A b) (hb:b < G.nx) (hp:PdR G b (.go 1 R h)) :
  Wp ((E orc).cl 170 [P0 b,P0 m] G) fun r=>r.1 = .tuple #[] ∧ Thr (fun A G=>PMx A G m (s.store (placeI R h) (clearI R h))) A b G r.2 ∧ PdR r.2 b (.go 2 R h):=by
 refine Wp.ref (f170 (exL_ok Q orc) _ _ G) ?_
 have hp':G.obj b = _:=hp
 have x0:Ext G (G.room 24):=(Ext.refl G).room 24
 obtain ⟨G1,e1,x1⟩:=place_ok orc hR hh (G.room 24)
 have y1:=x0.trans x1
 obtain ⟨G2,e2,x2⟩:=lap_ok orc hR hh G1
 have y2:=y1.trans x2
 have hl:=lapI_lt R h
 have hw:IntKind.wrap .u32 (lapI R h + 1) = (lapI R h + 1) % 4294967296:=wrap_u32 _
 have e3:=of_ok orc (l:=(lapI R h + 1) % 4294967296) (by omega) (by omega) G2
 have th2:=(Thr.refl (sepP m s) (b:=b) hm).ext (sepP m s) y2
 obtain ⟨bb,rest,hm⟩:=th2.st
 obtain ⟨⟨x,G3⟩,e5,rfl,q2,q3⟩:=store_ok orc hm (placeI R h) (clearI R h)
 simp only at q2 q3
 have th3:=th2.acc (sepP m s) (sepP m _) q2 q3
 have o1:=(y1.obj b hb).trans hp'
 have hb2:b < G2.nx:=Nat.lt_of_lt_of_le hb y2.nx
 have o3:=(q2.obj b hb2 (Thr.notIn ha hb)).trans ((y2.obj b hb).trans hp')
 simp only [clearI] at e5
 simp [s170,hp',e1,o1,e2,hw,e3,e5,o3]
 exact ⟨th3.put (sepP m _) ha hb _,by simp [PdR,drNext]⟩
theorem dhead_ok (orc:FuncId → Bool) (hm:PMx A G m s) (ha:¬ A b) (hb:b < G.nx) (hp:PdR G b (.go 2 R h)) :
  Wp ((E orc).cl 224 [P0 b,P0 m] G) fun r=>r.1 = .tuple #[] ∧ Thr (fun A G=>PMx A G m (s.store R.head (IntKind.wrap .u64 (h + 1)))) A b G r.2 ∧ PdR r.2 b (.done 0):=by
 refine Wp.ref (f224 (exL_ok Q orc) _ _ G) ?_
 have th0:=(Thr.refl (sepP m s) (b:=b) hm).ext (sepP m s) ((Ext.refl G).room 13)
 obtain ⟨bb,rest,hm⟩:=th0.st
 obtain ⟨⟨x,G1⟩,e,rfl,q2,q3⟩:=store_ok orc hm R.head (IntKind.wrap .u64 (h + 1))
 simp only at q2 q3
 have hp':G.obj b = _:=hp
 have th:=th0.acc (sepP m s) (sepP m _) q2 q3
 have o1:=(q2.obj b (by simp; omega) (Thr.notIn ha hb)).trans hp'
 have hend:=ends_ok orc o1 0
 simp [s224,hp',e,o1,hend]
 exact ⟨(th.put (sepP m _) ha hb _).put (sepP m _) ha hb _,by simp [PdR]⟩
theorem drop_ok (orc:FuncId → Bool) {p:DrS} (hm:PMx A G m s) (hpo:p.ok) (ha:¬ A b) (hb:b < G.nx) (hp:PdR G b p) :
  Wp ((E orc).cl 140 [P0 b,P0 m] G) fun q=>q.1 = .bool (p.step s).1.over ∧ Thr (fun A G=>PMx A G m (p.step s).2) A b G q.2 ∧ PdR q.2 b (p.step s).1:=by
 have w52:Wp ((E orc).cl 142 [P0 b,P0 m] G) fun q=>q.1 = .bool (p.step s).1.over ∧ Thr (fun A G=>PMx A G m (p.step s).2) A b G q.2 ∧ PdR q.2 b (p.step s).1:=by
  refine Wp.ref (f142 (exL_ok Q orc) _ _ G) ?_
  cases p with
  | done e =>
   have hp0:=hp
   obtain ⟨a0,a1,a2,a3,h,hp'⟩:=hp
   simp [s142,sb142,j142_0,jb142_0,clip_t,hp',DrS.step,DrS.over]
   exact ⟨Thr.refl (sepP m s) hm,hp0⟩
  | go n R h =>
   obtain ⟨h1,h2,h3,h4⟩:=hpo
   have hp':G.obj b = _:=hp
   have hn:n = 1 ∨ n = 2:=by omega
   rcases hn with rfl | rfl
   ·obtain ⟨⟨x,G1⟩,e,rfl,q1,q2⟩:=dclear_ok orc hm h3 h4 ha hb hp
    have q2':G1.obj b = _:=q2
    simp only at q1 q2
    simp [s142,sb142,j142_0,jb142_0,clip_t,hp',drNext,e,q2',DrS.step,DrS.over]
    exact ⟨q1,q2⟩
   ·obtain ⟨⟨x,G1⟩,e,rfl,q1,q2⟩:=dhead_ok orc hm ha hb hp
    simp only at q1 q2
    have q0:=q2
    obtain ⟨a0,a1,a2,a3,h',q2'⟩:=q2
    simp [s142,sb142,j142_0,jb142_0,clip_t,hp',drNext,e,q2',DrS.step,DrS.over]
    exact ⟨q1,q0⟩
 obtain ⟨⟨x,G1⟩,e,rfl,q⟩:=w52
 refine Wp.ref (f140 (exL_ok Q orc) _ _ G) ?_
 simp [s140,e]
 exact q
end
end Go.Proofs.YtlaojmcekeohnaaGreatDoor.Lift
set_option linter.unusedVariables false
set_option linter.unusedSimpArgs false
set_option maxRecDepth 20000
namespace Go.Proofs.YtlaojmcekeohnaaGreatDoor.Lift
open Go Go.Proofs.YtlaojmcekeohnaaGreatDoor.Gh Go.Proofs
instance (R:Rg):Decidable R.ok:=by unfold Rg.ok; infer_instance
theorem ok_dec (R:Rg):(decide (1 ≤ R.size) && decide (R.size ≤ 4096)) = decide R.ok:=by
 by_cases h1:1 ≤ R.size <;> by_cases h2:R.size ≤ 4096 <;> simp [Rg.ok,h1,h2]
def newPu (R:Rg) (v:Int):PuS:=if R.ok then (if v < 0 ∨ 65535 < v then .done 3 else .go 1 R v 0 0) else .done 2
def newFr (R:Rg):FrS:=if R.ok then .go 1 R 0 else .done 2 0 0
def newDr (R:Rg) (h:Int):DrS:=if R.ok then .go 1 R h else .done 2
theorem newFr_ok (R:Rg):(newFr R).ok:=by
 unfold newFr
 split
 ·rename_i h; exact ⟨by decide,by decide,h,⟨by decide,by decide⟩⟩
 ·trivial
theorem newDr_ok (R:Rg) {h:Int} (hh:U h):(newDr R h).ok:=by
 unfold newDr
 split
 ·rename_i hr; exact ⟨by decide,by decide,hr,hh⟩
 ·trivial
def workV (R:Rg):List Value:=if R.ok then [.int .i64 R.head,.int .i64 R.tail,.int .i64 R.slots,.int .i64 R.size,.nilFunc,.bool true,.int .i64 0] else [.int .i64 0,.int .i64 0,.int .i64 0,.int .i64 0,.nilFunc,.bool true,.int .i64 2]
section
variable {R:Rg} {G:GS}
theorem begun_ok (orc:FuncId → Bool) (R:Rg) (G:GS):∃ G',(E orc).cl 133 [R.v] G = some (.agg ⟨workV R⟩,G') ∧ Ext G G':=by
 obtain ⟨G1,hG1⟩:∃ G1,G1 = (G.push ⟨R.cells,1,false,1⟩).push ⟨[.int .i64 0,.int .i64 0,.int .i64 0,.int .i64 0,.nilFunc,.bool false,.int .i64 0],1,false,1⟩:=⟨_,rfl⟩
 have x1:Ext G G1:=by rw [hG1]; exact ((Ext.refl G).push _).push _
 have o1:G1.obj G.nx = some ⟨R.cells,1,false,1⟩:=by rw [hG1]; simp
 have p1:G1.obj (G.nx + 1) = some ⟨[.int .i64 0,.int .i64 0,.int .i64 0,.int .i64 0,.nilFunc,.bool false,.int .i64 0],1,false,1⟩:=by rw [hG1]; simp
 have n1:G1.nx = G.nx + 2:=by rw [hG1]; rfl
 obtain ⟨G2,e2,x2⟩:=sized_ok orc R G1
 have o2:=(x2.obj G.nx (by omega)).trans o1
 have p2:=(x2.obj (G.nx + 1) (by omega)).trans p1
 have y2:=x1.trans x2
 rw [ok_dec] at e2
 unfold workV
 by_cases h:R.ok
 ·rw [if_pos h]
  simp only [h,decide_true] at e2
  exact ⟨_,f133 (exL_ok Q orc) _ G _ (by simp [s133,← hG1,o1,e2,o2,p2]; rfl),y2.put (by omega) _⟩
 ·rw [if_neg h]
  simp only [h,decide_false] at e2
  exact ⟨_,f133 (exL_ok Q orc) _ G _ (by simp [s133,← hG1,o1,e2,o2,p2]; rfl),y2.put (by omega) _⟩
theorem newpush_ok (orc:FuncId → Bool) (R:Rg) (v:Int) (G:GS):∃ b G',(E orc).cl 57 [R.v,.int .i64 v] G = some (P0 b,G') ∧ Ext G G' ∧ G.nx ≤ b ∧ b < G'.nx ∧ PuR G' b (newPu R v):=by
 have x1:Ext G (G.push ⟨R.cells,1,false,1⟩):=(Ext.refl G).push _
 obtain ⟨G2,e2,x2⟩:=begun_ok orc R (G.push ⟨R.cells,1,false,1⟩)
 have y2:=x1.trans x2
 have n2:=y2.nx
 unfold newPu
 by_cases h:R.ok
 ·rw [if_pos h]
  simp only [workV,if_pos h] at e2
  by_cases hv:v < 0 ∨ 65535 < v
  ·rw [if_pos hv]
   have hend:=ends_ok orc (G:=G2.push ⟨[.int .i64 R.head,.int .i64 R.tail,.int .i64 R.slots,.int .i64 R.size,.nilFunc,.bool true,.int .i64 0,.int .i64 v,.int .u64 0,.int .u64 0],1,false,1⟩) (b:=G2.nx) (c0:=.int .i64 R.head) (c1:=.int .i64 R.tail) (c2:=.int .i64 R.slots) (c3:=.int .i64 R.size) (c4:=.nilFunc) (c5:=.bool true) (c6:=.int .i64 0) (r:=[.int .i64 v,.int .u64 0,.int .u64 0]) (ez:=1) (op:=false) (by simp) 3
   have w:Wp ((E orc).cl 57 [R.v,.int .i64 v] G) fun q=>q.1 = P0 G2.nx ∧ Ext G q.2 ∧ G2.nx < q.2.nx ∧ PuR q.2 G2.nx (.done 3):=by
    refine Wp.ref (f57 (exL_ok Q orc) _ _ G) ?_
    have hfin:∀ c1 c2 c3,Ext G (((G2.push c1).put G2.nx c2).put G2.nx c3):=fun _ _ _=>((y2.push _).put n2 _).put n2 _
    by_cases h1:v < 0
    ·simp [s57,e2,h1,hend]
     exact ⟨hfin _ _ _,by simp [PuR]⟩
    ·have h2:65535 < v:=by omega
     simp [s57,e2,h1,h2,hend]
     exact ⟨hfin _ _ _,by simp [PuR]⟩
   obtain ⟨⟨q,G'⟩,e,rfl,q1,q2,q3⟩:=w
   exact ⟨_,G',e,q1,n2,q2,q3⟩
  ·rw [if_neg hv]
   have h1:¬ v < 0:=by omega
   have h2:¬ 65535 < v:=by omega
   refine ⟨G2.nx,_,f57 (exL_ok Q orc) _ _ G _ (by simp [s57,e2,h1,h2]; rfl),(y2.push _).put n2 _,n2,by simp,by simp [PuR,pNext]⟩
 ·rw [if_neg h]
  simp only [workV,if_neg h] at e2
  refine ⟨G2.nx,_,f57 (exL_ok Q orc) _ _ G _ (by simp [s57,e2]; rfl),y2.push _,n2,by simp,by simp [PuR]⟩
theorem newfront_ok (orc:FuncId → Bool) (R:Rg) (G:GS):∃ b G',(E orc).cl 66 [R.v] G = some (P0 b,G') ∧ Ext G G' ∧ G.nx ≤ b ∧ b < G'.nx ∧ PfR G' b (newFr R):=by
 have x1:Ext G (G.push ⟨R.cells,1,false,1⟩):=(Ext.refl G).push _
 obtain ⟨G2,e2,x2⟩:=begun_ok orc R (G.push ⟨R.cells,1,false,1⟩)
 have y2:=x1.trans x2
 have n2:=y2.nx
 unfold newFr
 by_cases h:R.ok
 ·rw [if_pos h]
  simp only [workV,if_pos h] at e2
  refine ⟨G2.nx,_,f66 (exL_ok Q orc) _ G _ (by simp [s66,e2]; rfl),(y2.push _).put n2 _,n2,by simp,by simp [PfR,fNext]⟩
 ·rw [if_neg h]
  simp only [workV,if_neg h] at e2
  refine ⟨G2.nx,_,f66 (exL_ok Q orc) _ G _ (by simp [s66,e2]; rfl),y2.push _,n2,by simp,by simp [PfR]⟩
theorem newdrop_ok (orc:FuncId → Bool) (R:Rg) (h':Int) (G:GS):∃ b G',(E orc).cl 96 [R.v,.int .u64 h'] G = some (P0 b,G') ∧ Ext G G' ∧ G.nx ≤ b ∧ b < G'.nx ∧ PdR G' b (newDr R h'):=by
 have x1:Ext G (G.push ⟨R.cells,1,false,1⟩):=(Ext.refl G).push _
 obtain ⟨G2,e2,x2⟩:=begun_ok orc R (G.push ⟨R.cells,1,false,1⟩)
 have y2:=x1.trans x2
 have n2:=y2.nx
 unfold newDr
 by_cases h:R.ok
 ·rw [if_pos h]
  simp only [workV,if_pos h] at e2
  refine ⟨G2.nx,_,f96 (exL_ok Q orc) _ _ G _ (by simp [s96,e2]; rfl),(y2.push _).put n2 _,n2,by simp,by simp [PdR,drNext]⟩
 ·rw [if_neg h]
  simp only [workV,if_neg h] at e2
  refine ⟨G2.nx,_,f96 (exL_ok Q orc) _ _ G _ (by simp [s96,e2]; rfl),y2.push _,n2,by simp,by simp [PdR]⟩
end
end Go.Proofs.YtlaojmcekeohnaaGreatDoor.Lift
set_option linter.unusedVariables false
set_option linter.unusedSimpArgs false
set_option maxRecDepth 20000
namespace Go.Proofs.YtlaojmcekeohnaaGreatDoor.Lift
open Go Go.Proofs.YtlaojmcekeohnaaGreatDoor.Gh Go.Proofs
theorem thr_fin {P:(Nat → Prop) → GS → Prop} {A:Nat → Prop} {b:Nat} {G G0 G':GS} (hP:Sep P) (hu:Under A G) (x:Ext G G0) (h:Thr P A b G0 G') (hb:G0.nx ≤ b):ModP A G G' ∧ P (Grow A G G') G':=by
 have m0:ModP A G0 G':=⟨h.mod.nx,fun g hg ha=>h.mod.obj g hg fun k=>k.elim ha fun e=>by omega,h.mod.nl,h.mod.loop⟩
 have m1:=ModP.pre x m0
 exact ⟨m1,hP.mono h.st (grow_pre x) (hu.grow m1.nx)⟩
def fillN (R:Rg):Nat → Nat → MS → MS
 | 0,_,s=>s
 | k + 1,i,s=>fillN R k (i + 1) (s.store (IntKind.wrap .i64 (R.slots + i)) 0)
def fillI (R:Rg) (s:MS):MS:=if R.ok then fillN R R.size.toNat 0 ((s.store R.head 0).store R.tail 0) else s
theorem U_zero:U 0:=⟨by decide,by decide⟩
theorem fillN_ok (R:Rg):∀ (k i:Nat) {s:MS},s.ok → (fillN R k i s).ok
 | 0,_,s,h=>h
 | k + 1,i,s,h=>fillN_ok R k (i + 1) (h.store _ U_zero)
theorem fillI_ok (R:Rg) {s:MS} (h:s.ok):(fillI R s).ok:=by
 unfold fillI; split
 ·exact fillN_ok R _ _ ((h.store _ U_zero).store _ U_zero)
 ·exact h
section
variable {A:Nat → Prop} {G G0:GS} {m r rb b:Nat} {s:MS} {R:Rg}
theorem fill_lp (orc:FuncId → Bool) (hb:G0.nx ≤ b) (hrb:rb < G0.nx) (ha:¬ A rb) (ho:G0.obj rb = some ⟨R.cells,1,false,1⟩) {n:Nat} (hn:n ≤ 4096):∀ (k i:Nat) (τ:Env) (G':GS) (s':MS),i + k = n → τ 1 = P0 m → τ 2 = P0 rb → τ 17 = .int .i64 n → τ 18 = .int .i64 i → Thr (fun A G=>PMx A G m s') A b G0 G' →
  Wp ((exL Q orc).lpx 71 0 τ G') fun q=>q.1 = .exit 0 ∧ Thr (fun A G=>PMx A G m (fillN R k i s')) A b G0 q.2.2:=by
 intro k
 induction k with
 | zero =>
  intro i τ G' s' hi t1 t2 t17 t18 th
  have hi':i = n:=by omega
  subst hi'
  refine Wp.lp (l71_0 (exL_ok Q orc)) ?_
  simp [b71_0,clip_t,t1,t2,t17,t18,fillN]
  exact th
 | succ k ih =>
  intro i τ G' s' hi t1 t2 t17 t18 th
  have hlt:(i:Int) < n:=by omega
  have hlt':i < n:=by omega
  have hw:IntKind.wrap .i64 ((i:Int) + 1) = ((i + 1:Nat):Int):=wrap64 (by omega) (by omega)
  have or:=(th.keep hrb ha (by omega)).trans ho
  obtain ⟨bb,rest,hm⟩:=th.st
  obtain ⟨⟨x,G1⟩,e,rfl,q2,q3⟩:=store_ok orc hm (IntKind.wrap .i64 (R.slots + i)) 0
  simp only at q2 q3
  have th1:=th.acc (sepP m s') (sepP m _) q2 q3
  refine Wp.lp (l71_0 (exL_ok Q orc)) ?_
  simp [-Int.natCast_add,b71_0,clip_t,t1,t2,t17,t18,hlt',or,e,hw]
  exact ih (i + 1) _ G1 _ (by omega) (by simp [clip_t]) (by simp [clip_t]) (by simp [clip_t]) (by simp [clip_t]) th1
theorem fill_ok (orc:FuncId → Bool) (h:PMx A G m s) (R:Rg):Wp ((E orc).cl 71 [R.v,P0 m] G) fun q=>q.1 = .tuple #[] ∧ ModP A G q.2 ∧ PMx (Grow A G q.2) q.2 m (fillI R s):=by
 refine Wp.ref (f71 (exL_ok Q orc) _ _ G) ?_
 have x0:Ext G (G.push ⟨R.cells,1,false,1⟩):=(Ext.refl G).push _
 obtain ⟨G0,e0,x1⟩:=sized_ok orc R (G.push ⟨R.cells,1,false,1⟩)
 rw [ok_dec] at e0
 have y0:=x0.trans x1
 have hn0:=x1.nx
 simp at hn0
 have o0:G0.obj G.nx = some ⟨R.cells,1,false,1⟩:=by rw [x1.obj G.nx (by simp)]; simp
 have ha:¬ A G.nx:=fun hh=>by have:=h.un _ hh; omega
 have hm0:=h.ext y0
 unfold fillI
 by_cases hR:R.ok
 ·rw [if_pos hR]
  simp only [hR,decide_true] at e0
  have th0:=Thr.refl (sepP m s) (b:=G0.nx) hm0
  obtain ⟨bb,rest,hm⟩:=th0.st
  obtain ⟨⟨x,G1⟩,e1,rfl,q2,q3⟩:=store_ok orc hm R.head 0
  simp only at q2 q3
  have th1:=th0.acc (sepP m s) (sepP m _) q2 q3
  have o1:=(th1.keep (by omega:G.nx < G0.nx) ha (by omega)).trans o0
  obtain ⟨bb',rest',hm'⟩:=th1.st
  obtain ⟨⟨x,G2⟩,e2,rfl,q4,q5⟩:=store_ok orc hm' R.tail 0
  simp only at q4 q5
  have th2:=th1.acc (sepP m _) (sepP m _) q4 q5
  have o2:=(th2.keep (by omega:G.nx < G0.nx) ha (by omega)).trans o0
  obtain ⟨n,hn⟩:∃ n:Nat,R.size = n:=⟨R.size.toNat,by have:=hR.1; omega⟩
  simp [s71,e0,o0,e1,o1,e2,o2]
  refine Wp.bE ((fill_lp orc (R:=R) (rb:=G.nx) (Nat.le_refl _) (by omega) ha o0 (n:=n) (by have:=hR.2; omega) n 0 _ G2 _ (by omega) (by simp) (by simp) (by simp [hn]) (by simp) th2).mono ?_)
  rintro ⟨e,τ,G'⟩ ⟨rfl,th⟩
  simp only at th
  have:=thr_fin (sepP m _) h.un y0 th (Nat.le_refl _)
  rw [hn,Int.toNat_natCast]
  simpa using this
 ·rw [if_neg hR]
  simp only [hR,decide_false] at e0
  simp [s71,e0]
  exact ⟨y0.modP A,hm0.mono (fun x=>.inl) (h.un.grow y0.nx)⟩
end
end Go.Proofs.YtlaojmcekeohnaaGreatDoor.Lift
set_option linter.unusedVariables false
set_option linter.unusedSimpArgs false
set_option maxRecDepth 20000
namespace Go.Proofs.YtlaojmcekeohnaaGreatDoor.Lift
open Go Go.Proofs.YtlaojmcekeohnaaGreatDoor.Gh Go.Proofs
section
variable {A:Nat → Prop} {G:GS} {m r bb b:Nat} {rest:List Int} {s:MS} {R:Rg}
structure AllB (B:GS) (ob rb wf wb:Nat) (v:Value) (R:Rg) (s:MS):Prop where
 rb1:rb < B.nx
 wf1:wf < B.nx
 wb1:wb < B.nx
 rb2:rb ≠ ob
 wf2:wf ≠ ob
 wb2:wb ≠ ob
 orb:B.obj rb = some ⟨R.cells,1,false,1⟩
 owf:B.obj wf = some ⟨[.func (.func 145) #[] #[P0 wb]],1,false,1⟩
 owb:B.obj wb = some ⟨[v],1,false,1⟩
 hv:SlR (rowsI .u64) B v s.W
 hvo:¬ InB v ob
theorem AllB.now {B G:GS} {ob l rb wf wb:Nat} {v:Value} {lp:Lp} {L:List Int} (h:AllB B ob rb wf wb v R s) (c:Col (rowsI .i64) B ob l lp G L) :
  G.obj rb = some ⟨R.cells,1,false,1⟩ ∧ G.obj wf = some ⟨[.func (.func 145) #[] #[P0 wb]],1,false,1⟩ ∧ G.obj wb = some ⟨[v],1,false,1⟩ ∧ SlR (rowsI .u64) G v s.W :=
 ⟨(c.obj rb h.rb1 h.rb2).trans h.orb,(c.obj wf h.wf1 h.wf2).trans h.owf,(c.obj wb h.wb1 h.wb2).trans h.owb,c.slr h.hv h.hvo⟩
end
end Go.Proofs.YtlaojmcekeohnaaGreatDoor.Lift
set_option linter.unusedVariables false
set_option linter.unusedSimpArgs false
set_option maxRecDepth 20000
namespace Go.Proofs.YtlaojmcekeohnaaGreatDoor.Lift
open Go Go.Proofs.YtlaojmcekeohnaaGreatDoor.Gh Go.Proofs
section
variable {A:Nat → Prop} {G:GS} {m r bb b:Nat} {rest:List Int} {s:MS} {R:Rg}
end
end Go.Proofs.YtlaojmcekeohnaaGreatDoor.Lift
