import Derived.Test.YtedmgpchggogpaaGreatED
import Derived.Test.YtedmgpchggogpaaGreatGhSD
set_option linter.unusedVariables false
set_option linter.unusedSimpArgs false
set_option maxRecDepth 20000
namespace Go.Proofs.YtedmgpchggogpaaGreat.Lift
open Go Go.Proofs.YtedmgpchggogpaaGreat.Gh Go.Proofs
variable (orc:FuncId → Bool)
structure PnS where
 line:Int
 now:Int
def TW.pin (t:TW) (c:Int):Int:=IntKind.wrap .i64 (t.u10 + c)
def PnS.new:PnS:=⟨1,0⟩
def PnS.step (t:TW) (c:Int) (p:PnS) (s:MS):PnS × MS :=
 if p.line = 1 then (⟨2,(s.load t.u9).new % 4294967296⟩,s.load t.u9)
 else if p.line = 2 then (⟨3,p.now⟩,s.store (t.pin c) (p.now + 1))
 else if p.line = 3 then (if (s.load t.u9).new % 4294967296 = p.now then ⟨9,p.now⟩ else ⟨2,(s.load t.u9).new % 4294967296⟩,s.load t.u9)
 else (p,s)
structure PnS.ok (p:PnS):Prop where
 line:p.line = 1 ∨ p.line = 2 ∨ p.line = 3 ∨ p.line = 9
 now:0 ≤ p.now ∧ p.now < 4294967296
theorem PnS.new_ok:PnS.new.ok:=⟨.inl rfl,by decide⟩
theorem PnS.ok.step {t:TW} {c:Int} {p:PnS} {s:MS} (h:p.ok) (hs:s.ok):(p.step t c s).1.ok ∧ (p.step t c s).2.ok:=by
 obtain ⟨h1,h2⟩:=h
 have hl:=hs.load t.u9
 have h0:=hl.2.1
 have hm:0 ≤ (s.load t.u9).new % 4294967296 ∧ (s.load t.u9).new % 4294967296 < 4294967296:=by omega
 rcases h1 with e | e | e | e <;> unfold PnS.step <;> simp [e]
 ·exact ⟨⟨.inr (.inl rfl),hm⟩,hl.1⟩
 ·exact ⟨⟨.inr (.inr (.inl rfl)),h2⟩,hs.store _ ⟨by omega,by omega⟩⟩
 ·refine ⟨?_,hl.1⟩
  split
  ·exact ⟨.inr (.inr (.inr rfl)),h2⟩
  ·exact ⟨.inr (.inl rfl),hm⟩
 ·exact ⟨⟨.inr (.inr (.inr e)),h2⟩,hs⟩
def unS (t:TW) (c:Int) (s:MS):MS:=s.store (t.pin c) 0
structure LkS where
 line:Int
 pin:PnS
 peek:ClS
 by_:Int
def LkS.step (t:TW) (c:Int) (x:LkS) (s:MS):LkS × MS :=
 if x.line = 1 then ({ x with by_:=0,pin:=(x.pin.step t c s).1,line:=if (x.pin.step t c s).1.line = 9 then 4 else 1 },(x.pin.step t c s).2)
 else if x.line = 4 then ({ x with peek:=(x.peek.step true t s).1,by_:=(x.peek.step true t s).1.by_,line:=if (x.peek.step true t s).1.line = 99 then 5 else 4 },(x.peek.step true t s).2)
 else if x.line = 5 then ({ x with by_:=0,line:=9 },unS t c s)
 else ({ x with by_:=0 },s)
structure LkS.ok (t:TW) (x:LkS):Prop where
 line:x.line = 1 ∨ x.line = 4 ∨ x.line = 5 ∨ x.line = 9
 pin:x.pin.ok
 peek:x.peek.ok true t
 by_:U x.by_
theorem LkS.ok.step {t:TW} {c:Int} {x:LkS} {s:MS} (ht:t.sound) (hl:t.lok) (h:x.ok t) (hs:s.ok):(x.step t c s).1.ok t ∧ (x.step t c s).2.ok:=by
 obtain ⟨h1,h2,h3,h4⟩:=h
 have hp:=PnS.ok.step (t:=t) (c:=c) h2 hs
 have hk:=h3.step ht hl hs
 rcases h1 with e | e | e | e <;> unfold LkS.step <;> simp [e]
 ·refine ⟨⟨?_,hp.1,h3,U_zero'⟩,hp.2⟩
  by_cases k:(x.pin.step t c s).1.line = 9 <;> simp [k]
 ·refine ⟨⟨?_,h2,hk.1,hk.1.by_⟩,hk.2⟩
  by_cases k:(x.peek.step true t s).1.line = 99 <;> simp [k]
 ·exact ⟨⟨by simp,h2,h3,U_zero'⟩,hs.store _ U_zero'⟩
 ·exact ⟨⟨by simp [e],h2,h3,U_zero'⟩,hs⟩
def cmpI (a b:Int):Int:=if a < b then -1 else if b < a then 1 else 0
def gr (L:List Int):Nat → Int
 | 0=>-1
 | i + 1=>if gr L i < 0 ∨ L.getD (gr L i).toNat 0 < L.getD i 0 then i else gr L i
theorem gr_bd (L:List Int):∀ i,-1 ≤ gr L i ∧ gr L i < i ∧ (0 < i → 0 ≤ gr L i)
 | 0=>by simp [gr]
 | i + 1=>by
  obtain ⟨h1,h2,h3⟩:=gr_bd L i
  unfold gr
  split <;> omega
def worst (L:List Int) (key:Int):Option Nat:=let g:=gr L L.length; if g < 0 ∨ L.getD g.toNat 0 ≤ key then none else some g.toNat
def worstV (L:List Int) (key:Int):Value:=match worst L key with | none=>.tuple #[.int .i64 (-1),.bool false] | some i=>.tuple #[.int .i64 i,.bool true]
structure RunW where
 runs:Int
 flags:Int
 cores:Int
structure BaS where
 line:Int
 look:LkS
 key:Int
 words:List Int
 flag:Int
 by_:Int
 err:Int
def BaS.seen (x:BaS):BaS:={ x with key:=x.look.peek.ik,line:=if x.look.peek.ie = 0 then 1 else 9,err:=if x.look.peek.ie = 0 ∨ x.look.peek.ie = 15 then 0 else x.look.peek.ie }
def BaS.l0 (t:TW) (c:Int) (x:BaS) (s:MS):BaS × MS :=
 (if (x.look.step t c s).1.line = 9 then ({ x with look:=(x.look.step t c s).1,by_:=(x.look.step t c s).1.by_ }:BaS).seen else { x with look:=(x.look.step t c s).1,by_:=(x.look.step t c s).1.by_ },(x.look.step t c s).2)
def BaS.l1 (r:RunW) (x:BaS) (s:MS):BaS × MS :=
 (if ((x.words ++ [(s.load (IntKind.wrap .i64 (r.runs + x.words.length))).new]).length:Int) = r.cores then
  match worst (x.words ++ [(s.load (IntKind.wrap .i64 (r.runs + x.words.length))).new]) x.key with
  | none=>{ x with by_:=0,words:=x.words ++ [(s.load (IntKind.wrap .i64 (r.runs + x.words.length))).new],line:=9 }
  | some w=>{ x with by_:=0,words:=x.words ++ [(s.load (IntKind.wrap .i64 (r.runs + x.words.length))).new],line:=2,flag:=w }
 else { x with by_:=0,words:=x.words ++ [(s.load (IntKind.wrap .i64 (r.runs + x.words.length))).new] },s.load (IntKind.wrap .i64 (r.runs + x.words.length)))
def BaS.l2 (r:RunW) (x:BaS) (s:MS):BaS × MS:=({ x with by_:=0,line:=9 },s.store (IntKind.wrap .i64 (r.flags + x.flag)) 1)
def BaS.step (t:TW) (r:RunW) (c:Int) (x:BaS) (s:MS):BaS × MS :=
 if x.line = 0 then x.l0 t c s else if x.line = 1 then x.l1 r s else if x.line = 2 then x.l2 r s else ({ x with by_:=0 },s)
structure BaS.ok (t:TW) (r:RunW) (x:BaS):Prop where
 line:x.line = 0 ∨ x.line = 1 ∨ x.line = 2 ∨ x.line = 9
 look:x.look.ok t
 key:U x.key
 words:∀ w ∈ x.words,U w
 short:x.line = 0 ∨ x.line = 1 → (x.words.length:Int) < r.cores
 by_:U x.by_
section
variable {t:TW} {r:RunW} {c:Int} {x:BaS} {s:MS}
theorem ClS.ok.ik {look:Bool} {y:ClS} (h:y.ok look t):U y.ik:=by
 unfold ClS.ik
 split
 ·exact U_zero'
 ·split
  ·exact U_zero'
  ·exact h.key
theorem BaS.ok.step (ht:t.sound) (hl:t.lok) (h:x.ok t r) (hs:s.ok):(x.step t r c s).1.ok t r ∧ (x.step t r c s).2.ok:=by
 obtain ⟨h1,h2,h3,h4,h5,h6⟩:=h
 rcases h1 with e | e | e | e <;> unfold BaS.step <;> simp [e]
 ·have hk:=LkS.ok.step (c:=c) ht hl h2 hs
  have h5':=h5 (.inl e)
  unfold BaS.l0
  refine ⟨?_,hk.2⟩
  by_cases k:(x.look.step t c s).1.line = 9
  ·simp only [k,if_true]
   unfold BaS.seen
   refine ⟨?_,hk.1,hk.1.peek.ik,h4,fun _=>h5',hk.1.by_⟩
   simp only
   split <;> simp
  ·simp only [k,if_false]
   exact ⟨.inl e,hk.1,h3,h4,fun _=>h5',hk.1.by_⟩
 ·have hn:=hs.load (IntKind.wrap .i64 (r.runs + x.words.length))
  have h5':=h5 (.inr e)
  have hw:∀ w ∈ x.words ++ [(s.load (IntKind.wrap .i64 (r.runs + x.words.length))).new],U w:=fun w hw=>by
   rcases List.mem_append.1 hw with k | k
   ·exact h4 w k
   ·rw [List.mem_singleton.1 k]; exact hn.2
  unfold BaS.l1
  refine ⟨?_,hn.1⟩
  by_cases k:((x.words ++ [(s.load (IntKind.wrap .i64 (r.runs + x.words.length))).new]).length:Int) = r.cores
  ·simp only [k,if_true]
   cases worst (x.words ++ [(s.load (IntKind.wrap .i64 (r.runs + x.words.length))).new]) x.key with
   | none=>exact ⟨by simp,h2,h3,hw,by simp,U_zero'⟩
   | some w=>exact ⟨by simp,h2,h3,hw,by simp,U_zero'⟩
  ·simp only [k,if_false]
   refine ⟨by simp [e],h2,h3,hw,fun _=>?_,U_zero'⟩
   simp only [List.length_append,List.length_singleton] at k ⊢
   omega
 ·unfold BaS.l2
  exact ⟨⟨by simp,h2,h3,h4,by simp,U_zero'⟩,hs.store _ (by unfold U; omega)⟩
 ·exact ⟨⟨by simp [e],h2,h3,h4,by simp [e],U_zero'⟩,hs⟩
end
def RunW.sized (r:RunW):Prop:=1 ≤ r.cores ∧ r.cores ≤ 64
instance instRunSized (r:RunW):Decidable r.sized:=by unfold RunW.sized; infer_instance
def RunW.code (r:RunW) (n:Int):Int :=
 if n < 1 ∨ 4096 < n then 3
 else if r.cores < 1 ∨ 64 < r.cores ∨ r.runs < 0 ∨ n - r.cores < r.runs ∨ r.flags < 0 ∨ n - r.cores < r.flags ∨ (r.runs < r.flags + r.cores ∧ r.flags < r.runs + r.cores) then 2 else 0
def RunW.good (r:RunW):Prop:=1 ≤ r.cores ∧ r.cores ≤ 64 ∧ 0 ≤ r.runs ∧ r.runs + r.cores ≤ 4096 ∧ 0 ≤ r.flags ∧ r.flags + r.cores ≤ 4096
theorem RunW.good_of {r:RunW} {n:Int} (h:r.code n = 0):r.good:=by
 unfold RunW.code at h
 split at h
 ·cases h
 ·split at h
  ·cases h
  ·unfold RunW.good; omega
def rowS (s:MS) (k:Int) (n:Nat):List Int:=(List.range n).map fun (c:Nat)=>s.at' (k + c)
@[simp] theorem rowS_len (s:MS) (k:Int) (n:Nat):(rowS s k n).length = n:=by simp [rowS]
theorem rowS_succ (s:MS) (k:Int) (n:Nat):rowS s k (n + 1) = rowS s k n ++ [s.at' (k + n)]:=by
 simp [rowS,List.range_succ]
def fillR (r:RunW):Nat → Nat → MS → MS
 | 0,_,s=>s
 | k + 1,c,s=>fillR r k (c + 1) ((s.store (r.runs + c) 18446744073709551615).store (r.flags + c) 0)
theorem fillR_ok (r:RunW):∀ (k c:Nat) {s:MS},s.ok → (fillR r k c s).ok
 | 0,_,s,h=>h
 | k + 1,c,s,h=>fillR_ok r k (c + 1) ((h.store _ (by unfold U; omega)).store _ (by unfold U; omega))
theorem LkS.ends {t:TW} {c:Int} {x:LkS} {s:MS} (h:x.line ≠ 9) (h9:(x.step t c s).1.line = 9):x.line = 5 ∧ (x.step t c s).1.by_ = 0:=by
 unfold LkS.step at h9 ⊢
 by_cases h1:x.line = 1
 ·simp only [h1,if_true] at h9
  split at h9 <;> simp at h9
 ·by_cases h4:x.line = 4
  ·have e1:¬ (4:Int) = 1:=by decide
   simp only [h4,e1,if_true,if_false] at h9
   split at h9 <;> simp at h9
  ·by_cases h5:x.line = 5
   ·simp [h5]
   ·simp [h1,h4,h5] at h9
    exact absurd h9 h
structure BaS.kp (x:BaS):Prop where
 l0:x.line = 0 → x.look.line ≠ 9 ∧ x.flag = -1 ∧ x.words = []
 by9:x.line = 9 → x.by_ = 0
 l1:x.line = 1 → x.flag = -1
 l2:x.line = 2 → 0 ≤ x.flag ∧ x.err = 0
 e0:x.line ≠ 9 → x.err = 0
theorem BaS.kp.step {t:TW} {r:RunW} {c:Int} {x:BaS} {s:MS} (ho:x.ok t r) (h:x.kp):(x.step t r c s).1.kp:=by
 obtain ⟨h1,h2,h3,h4,h5⟩:=h
 rcases ho.line with e | e | e | e <;> unfold BaS.step <;> simp [e]
 ·obtain ⟨k1,k2,k3⟩:=h1 e
  unfold BaS.l0
  by_cases k:(x.look.step t c s).1.line = 9
  ·have hb:=(LkS.ends k1 k).2
   simp only [k,if_true]
   unfold BaS.seen
   simp only
   by_cases z:(x.look.step t c s).1.peek.ie = 0
   ·exact ⟨by simp [z],by simp [z],by simp [z,k2],by simp [z],by simp [z]⟩
   ·exact ⟨by simp [z],by simp [z,hb],by simp [z],by simp [z],by simp [z]⟩
  ·simp only [k,if_false]
   exact ⟨fun _=>⟨k,k2,k3⟩,by simp [e],by simp [e],by simp [e],fun _=>h5 (by omega)⟩
 ·have k2:=h3 e
  have k5:=h5 (by omega)
  unfold BaS.l1
  by_cases k:((x.words ++ [(s.load (IntKind.wrap .i64 (r.runs + x.words.length))).new]).length:Int) = r.cores
  ·simp only [k,if_true]
   cases worst (x.words ++ [(s.load (IntKind.wrap .i64 (r.runs + x.words.length))).new]) x.key with
   | none=>exact ⟨by simp,by simp,by simp,by simp,by simp⟩
   | some w=>exact ⟨by simp,by simp,by simp,by simp; exact k5,by simp; exact k5⟩
  ·simp only [k,if_false]
   exact ⟨by simp [e],by simp [e],fun _=>k2,by simp [e],fun _=>k5⟩
 ·unfold BaS.l2
  exact ⟨by simp,by simp,by simp,by simp,by simp⟩
 ·exact ⟨by simp [e],by simp,by simp [e],by simp [e],by simp [e]⟩
def pnL (l:Int):Int:=if l = 9 then -1 else l - 1
abbrev pnB (t:TW) (c:Int) (f0 f1 f2:Value) (ln pin now:Int):GObj:=⟨[f0,f1,f2,.int .i64 ln,.bool true,.int .i64 0,.int .i64 t.u9,.int .i64 t.u10,.int .i64 t.u11,.int .i64 pin,.int .u32 now],1,false,1⟩
abbrev pnX (t:TW) (c:Int) (b:Nat) (p:PnS):GObj:=pnB t c (bfn 183 b) (bfn 184 b) (bfn 185 b) (pnL p.line) (t.pin c) p.now
abbrev unX (t:TW) (c:Int) (b:Nat) (ln:Int):GObj:=⟨[bfn 195 b,.nilFunc,.nilFunc,.int .i64 ln,.bool true,.int .i64 0,.int .i64 (t.pin c)],1,false,1⟩
section
variable {own own' own1 own2:Nat → Nat} {tag tg m r b:Nat} {t:TW} {c:Int} {G G' G1 G2:GS} {s s' s1:MS} {p:PnS}
theorem enone_ok (hc:0 ≤ c ∧ c < t.u11) (G:GS):(E orc).cl 181 [.agg ⟨epL t⟩,.int .i64 c] G = some (.bool false,G.push ⟨epL t,1,false,1⟩):=by
 refine f181 (exL_ok Q orc) _ _ G _ ?_
 have h1:¬ c < 0:=by omega
 have h2:¬ t.u11 ≤ c:=by omega
 simp [s181,h1,h2]
theorem newpin_ok (hc:0 ≤ c ∧ c < t.u11) (G:GS):∃ b G',(E orc).cl 144 [.agg ⟨epL t⟩,.int .i64 c] G = some (P0 b,G') ∧ Ext G G' ∧ (G.nx ≤ b ∧ b < G'.nx) ∧ G'.obj b = some (pnX t c b .new):=by
 obtain ⟨G1,hG1⟩:∃ G1,G1 = ((G.push ⟨epL t,1,false,1⟩).push (pnB t c .nilFunc .nilFunc .nilFunc 0 0 0)).push ⟨epL t,1,false,1⟩:=⟨_,rfl⟩
 have e1:=enone_ok orc hc ((G.push ⟨epL t,1,false,1⟩).push (pnB t c .nilFunc .nilFunc .nilFunc 0 0 0))
 rw [← hG1] at e1
 have x1:Ext G G1:=by rw [hG1]; exact (((Ext.refl G).push _).push _).push _
 have o1:G1.obj G.nx = some ⟨epL t,1,false,1⟩:=by rw [hG1]; simp
 have p1:G1.obj (G.nx + 1) = some (pnB t c .nilFunc .nilFunc .nilFunc 0 0 0):=by rw [hG1]; simp
 have n1:G1.nx = G.nx + 3:=by rw [hG1]; rfl
 refine ⟨G.nx + 1,(G1.put (G.nx + 1) (pnB t c .nilFunc .nilFunc .nilFunc 0 (t.pin c) 0)).put (G.nx + 1) (pnX t c (G.nx + 1) .new),f144 (exL_ok Q orc) _ _ G _ ?_,(x1.put (by omega) _).put (by omega) _,⟨by omega,by simp; omega⟩,by simp⟩
 have hz:z285 = [.nilFunc,.nilFunc,.nilFunc,.int .i64 0,.bool false,.int .i64 0,.int .i64 0,.int .i64 0,.int .i64 0,.int .i64 0,.int .u32 0]:=rfl
 have hz2:z282 = [.nilFunc,.nilFunc,.nilFunc,.int .i64 0,.bool false,.int .i64 0]:=rfl
 have hz3:z280 = [.nilFunc,.nilFunc,.nilFunc]:=rfl
 simp [s144,hz,hz2,hz3,splice_put,splice_end,splice_succ,e1,o1,p1,TW.pin,PnS.new,pnL]
 rfl
theorem newunpin_ok (hc:0 ≤ c ∧ c < t.u11) (G:GS):∃ b G',(E orc).cl 153 [.agg ⟨epL t⟩,.int .i64 c] G = some (P0 b,G') ∧ Ext G G' ∧ (G.nx ≤ b ∧ b < G'.nx) ∧ G'.obj b = some (unX t c b 0):=by
 obtain ⟨G1,hG1⟩:∃ G1,G1 = ((G.push ⟨epL t,1,false,1⟩).push ⟨[.nilFunc,.nilFunc,.nilFunc,.int .i64 0,.bool true,.int .i64 0,.int .i64 (t.pin c)],1,false,1⟩).push ⟨epL t,1,false,1⟩:=⟨_,rfl⟩
 have e1:=enone_ok orc hc ((G.push ⟨epL t,1,false,1⟩).push ⟨[.nilFunc,.nilFunc,.nilFunc,.int .i64 0,.bool true,.int .i64 0,.int .i64 (t.pin c)],1,false,1⟩)
 rw [← hG1] at e1
 have x1:Ext G G1:=by rw [hG1]; exact (((Ext.refl G).push _).push _).push _
 have p1:G1.obj (G.nx + 1) = some ⟨[.nilFunc,.nilFunc,.nilFunc,.int .i64 0,.bool true,.int .i64 0,.int .i64 (t.pin c)],1,false,1⟩:=by rw [hG1]; simp
 have n1:G1.nx = G.nx + 3:=by rw [hG1]; rfl
 refine ⟨G.nx + 1,G1.put (G.nx + 1) (unX t c (G.nx + 1) 0),f153 (exL_ok Q orc) _ _ G _ ?_,x1.put (by omega) _,⟨by omega,by simp; omega⟩,by simp⟩
 have hz:z298 = [.nilFunc,.nilFunc,.nilFunc,.int .i64 0,.bool false,.int .i64 0,.int .i64 0]:=rfl
 have hz2:z282 = [.nilFunc,.nilFunc,.nilFunc,.int .i64 0,.bool false,.int .i64 0]:=rfl
 unfold TW.pin at *
 simp [s153,hz,hz2,splice_put,splice_end,splice_succ,e1,p1]
 rfl
def PnP (own:Nat → Nat) (tag:Nat) (t:TW) (c:Int) (G:GS) (b:Nat) (p:PnS):Prop:=At own tag G b ∧ G.obj b = some (pnX t c b p)
theorem PnP.to (h:PnP own tag t c G b p) (hn:G.nx ≤ G'.nx) (hk:∀ g,g < G.nx → own g = tag → G'.obj g = G.obj g) (a:Agr own own' G):PnP own' tag t c G' b p:=⟨h.1.to hn a,(hk _ h.1.lt h.1.tag).trans h.2⟩
theorem pstepE_ok (h:PM own G m s) (hm:s.ok) (hp:p.ok) (ht:tag ≠ 10) (hb:PnP own tag t c G b p) :
  ∃ own1 G1,(E orc).cl 327 [P0 b,P0 m] G = some (.bool (decide ((p.step t c s).1.line = 9)),G1) ∧ PW (Own own tag) own G own1 G1 m (p.step t c s).2 ∧ PnP own1 tag t c G1 b (p.step t c s).1:=by
 have ws:∃ own1 G1,(E orc).cl 278 [P0 b,P0 m] G = some (.bool (decide ((p.step t c s).1.line = 9)),G1) ∧ PW (Own own tag) own G own1 G1 m (p.step t c s).2 ∧ PnP own1 tag t c G1 b (p.step t c s).1:=by
  obtain ⟨hb,ho⟩:=hb
  have x0:Ext G (G.room 11):=(Ext.refl G).room 11
  have w0:=(PW.refl (B:=Own own tag) h).extT x0 tag
  have hb0:=hb.extO x0 tag
  have o0:(G.room 11).obj b = some (pnX t c b p):=by simpa using ho
  generalize grown own G tag = own0 at *
  rcases hp.line with e | e | e | e
  ·have hst:p.step t c s = (⟨2,(s.load t.u9).new % 4294967296⟩,s.load t.u9):=by unfold PnS.step; simp [e]
   rw [hst]
   simp only
   obtain ⟨own1,G1,e1,w1⟩:=w0.pm.load orc t.u9
   have hu:=(hm.load t.u9).2
   generalize s.load t.u9 = s' at *
   generalize s'.new = v at *
   have hv:=hu.1
   have hw:IntKind.wrap .u32 v = v % 4294967296:=wrap_u32 v
   have w1':=w0.tr w1.any
   have hb1:=hb0.to w1.nx w1.stp.agr
   have o1:=(hb0.keep ht w1).trans o0
   refine ⟨own1,(G1.put b (pnB t c (bfn 183 b) (bfn 184 b) (bfn 185 b) 0 (t.pin c) (v % 4294967296))).put b (pnX t c b ⟨2,v % 4294967296⟩),f278 (exL_ok Q orc) _ _ G _ ?_,(w1'.putT hb1.tag ht _).putT hb1.tag ht _,(hb1.putO _ _).putO _ _,by simp⟩
   have e2:(E orc).cl 183 [P0 b,P0 m] (G.room 11) = some (.tuple #[],(G1.put b (pnB t c (bfn 183 b) (bfn 184 b) (bfn 185 b) 0 (t.pin c) (v % 4294967296))).put b (pnX t c b ⟨2,v % 4294967296⟩)):=by
    refine f183 (exL_ok Q orc) _ _ _ _ ?_
    simp [s183,o0,e1,o1,hw,e,pnL]
    rfl
   simp [s278,ho,e,pnL] at e2 ⊢
   simp [ho,e2,e,pnL]
  ·have hst:p.step t c s = (⟨3,p.now⟩,s.store (t.pin c) (p.now + 1)):=by unfold PnS.step; simp [e]
   rw [hst]
   simp only
   have hx0:Ext (G.room 11) ((G.room 11).room 12):=(Ext.refl _).room 12
   have w0':=w0.extT hx0 tag
   have hb0':=hb0.extO hx0 tag
   have o0':((G.room 11).room 12).obj b = some (pnX t c b p):=by simpa using o0
   generalize grown own0 (G.room 11) tag = own0' at *
   have hnow:=hp.now
   have hw:IntKind.wrap .u64 p.now = p.now:=by rw [wrap_u64]; omega
   have hw2:IntKind.wrap .u64 (p.now + 1) = p.now + 1:=by rw [wrap_u64]; omega
   obtain ⟨own1,G1,e1,w1⟩:=w0'.pm.store orc (t.pin c) (p.now + 1)
   generalize s.store (t.pin c) (p.now + 1) = s' at *
   have w1':=w0'.tr w1.any
   have hb1:=hb0'.to w1.nx w1.stp.agr
   have o1:=(hb0'.keep ht w1).trans o0'
   refine ⟨own1,G1.put b (pnX t c b ⟨3,p.now⟩),f278 (exL_ok Q orc) _ _ G _ ?_,w1'.putT hb1.tag ht _,hb1.putO _ _,by simp⟩
   have e2:(E orc).cl 184 [P0 b,P0 m] (G.room 11) = some (.tuple #[],G1.put b (pnX t c b ⟨3,p.now⟩)):=by
    refine f184 (exL_ok Q orc) _ _ _ _ ?_
    simp [s184,o0',hw,hw2,e1,o1,e,pnL] at *
    rfl
   simp [s278,ho,e,pnL] at e2 ⊢
   simp [ho,e2,e,pnL]
  ·have hst:p.step t c s = (if (s.load t.u9).new % 4294967296 = p.now then ⟨9,p.now⟩ else ⟨2,(s.load t.u9).new % 4294967296⟩,s.load t.u9):=by unfold PnS.step; simp [e]
   rw [hst]
   simp only
   obtain ⟨own1,G1,e1,w1⟩:=w0.pm.load orc t.u9
   have hu:=(hm.load t.u9).2
   generalize s.load t.u9 = s' at *
   generalize s'.new = v at *
   have hv:=hu.1
   have hw:IntKind.wrap .u32 v = v % 4294967296:=wrap_u32 v
   have w1':=w0.tr w1.any
   have hb1:=hb0.to w1.nx w1.stp.agr
   have o1:=(hb0.keep ht w1).trans o0
   by_cases k:v % 4294967296 = p.now
   ·rw [if_pos k]
    have e3:(E orc).cl 182 [P0 b,.int .i64 0] G1 = some (.tuple #[],(G1.put b (pnX t c b ⟨9,p.now⟩)).put b (pnX t c b ⟨9,p.now⟩)):=by
     refine f182 (exL_ok Q orc) _ _ _ _ ?_
     simp [s182,o1,e,pnL]
     rfl
    have e2:(E orc).cl 185 [P0 b,P0 m] (G.room 11) = some (.tuple #[],(G1.put b (pnX t c b ⟨9,p.now⟩)).put b (pnX t c b ⟨9,p.now⟩)):=by
     refine f185 (exL_ok Q orc) _ _ _ _ ?_
     simp [s185,o0,e1,o1,hw,k,e3]
    refine ⟨own1,(G1.put b (pnX t c b ⟨9,p.now⟩)).put b (pnX t c b ⟨9,p.now⟩),f278 (exL_ok Q orc) _ _ G _ ?_,(w1'.putT hb1.tag ht _).putT hb1.tag ht _,(hb1.putO _ _).putO _ _,by simp⟩
    simp [s278,ho,e,pnL] at e2 ⊢
    simp [ho,e2,e,pnL]
   ·rw [if_neg k]
    refine ⟨own1,(G1.put b (pnB t c (bfn 183 b) (bfn 184 b) (bfn 185 b) 2 (t.pin c) (v % 4294967296))).put b (pnX t c b ⟨2,v % 4294967296⟩),f278 (exL_ok Q orc) _ _ G _ ?_,(w1'.putT hb1.tag ht _).putT hb1.tag ht _,(hb1.putO _ _).putO _ _,by simp⟩
    have e2:(E orc).cl 185 [P0 b,P0 m] (G.room 11) = some (.tuple #[],(G1.put b (pnB t c (bfn 183 b) (bfn 184 b) (bfn 185 b) 2 (t.pin c) (v % 4294967296))).put b (pnX t c b ⟨2,v % 4294967296⟩)):=by
     refine f185 (exL_ok Q orc) _ _ _ _ ?_
     simp [s185,o0,e1,o1,hw,k,e,pnL]
     rfl
    simp [s278,ho,e,pnL] at e2 ⊢
    simp [ho,e2,e,pnL]
  ·have hst:p.step t c s = (p,s):=by unfold PnS.step; simp [e]
   rw [hst]
   refine ⟨own,G,f278 (exL_ok Q orc) _ _ G _ ?_,.refl h,hb,ho⟩
   simp [s278,ho,e,pnL]
 obtain ⟨own1,G1,e1,k⟩:=ws
 exact ⟨own1,G1,f327 (exL_ok Q orc) _ _ G _ (by simp [s327,e1]),k⟩
end
abbrev paB (mk by_ th now:Value) (md:Bool):GObj:=⟨[mk,by_,th,now,.bool md],1,false,1⟩
abbrev cfn (f:FuncId) (b:Nat):Value:=.func (.func f) #[] #[P0 b]
abbrev lkB (t:TW) (c p:Int) (parts:Value) (by_ ik ij ie:Int):GObj:=⟨[.int .i64 t.nodes,.int .i64 t.heads,.int .i64 t.height,.int .i64 t.top,.int .i64 t.links,.int .i64 t.size,.int .i64 t.u6,.int .i64 t.u7,.int .i64 t.u8,.int .i64 t.u9,.int .i64 t.u10,.int .i64 t.u11,.int .i64 t.u12,.int .i64 c,.bool true,.int .i64 p,parts,.int .u64 by_,.int .i64 0,.int .u64 ik,.int .i64 ij,.int .i64 ie],1,false,1⟩
abbrev Bq (own:Nat → Nat) (tg lb pb:Nat):Nat → Prop:=fun x=>x = lb ∨ x = pb ∨ own x = tg
section
variable {own own' own0 own1 own2:Nat → Nat} {tag tg m r b lb pb wb q:Nat} {t:TW} {c p0 by_ ik ij ie:Int} {parts:Value} {G G' G1 G2:GS} {s s' s1:MS} {x:PnS}
theorem PW.sub {B:Nat → Prop} {s0:MS} (w:PW B own G own1 G1 m s0) (k:PW (Own own1 tg) own1 G1 own2 G2 m s') (hB:∀ x,x < G.nx → own x = tg → B x):PW B own G own2 G2 m s':=w.trans k fun x hx h=>hB x hx ((w.stp.same hx).symm.trans h)
theorem pinAt_ok (ho:G.obj q = some (pnX t c q x)) (hl:x.line = 9) (hx:x.ok):(E orc).cl 146 [P0 q] G = some (.tuple #[.int .i64 x.now,.int .i64 0],G):=by
 have e1:(E orc).cl 186 [P0 q] G = some (.int .i64 0,G):=f186 (exL_ok Q orc) _ G _ (by simp [s186,ho,hl,pnL])
 have hn:=hx.now
 have hw:IntKind.wrap .i64 x.now = x.now:=wrap64 (by omega) (by omega)
 exact f146 (exL_ok Q orc) _ G _ (by simp [s146,e1,ho,hw])
theorem inv_pin (q m : Nat) (G : GS) : cInvoke Q (evL Q orc) (.iface 221 (P0 q)) "Step" [P0 m] G = (E orc).cl 327 [P0 q, P0 m] G := by kernel_rfl
theorem inv_unpin (q m : Nat) (G : GS) : cInvoke Q (evL Q orc) (.iface 248 (P0 q)) "Step" [P0 m] G = (E orc).cl 332 [P0 q, P0 m] G := by kernel_rfl
theorem inv_peek (q m : Nat) (G : GS) : cInvoke Q (evL Q orc) (.iface 179 (P0 q)) "Step" [P0 m] G = (E orc).cl 318 [P0 q, P0 m] G := by kernel_rfl
theorem runPin2 (h:PM own G m s) (hm:s.ok) (hx:x.ok) (h10:tg ≠ 10) (htg:tag ≠ tg) (ht:tag ≠ 10) {τ:Env} (t0:τ 0 = P0 pb) (t1:τ 1 = P0 m)
  (ap:At own tag G pb) (al:At own tag G lb) (aw:At own tag G wb) (d1:lb ≠ pb) (d2:wb ≠ lb) (d3:wb ≠ pb)
  (op:G.obj pb = some (paB (cfn 143 wb) .nilFunc (cfn 145 wb) (P0 q) true)) (ol:G.obj lb = some (lkB t c p0 parts by_ ik ij ie)) (ow:G.obj wb = some ⟨[P0 lb],1,false,1⟩) (hq:PnP own tg t c G q x) :
  ∃ own1 G1 p1,j326_2 true (exL Q orc) τ G = some (.tuple #[.bool (decide ((x.step t c s).1.line = 9)),.int .u64 0],G1) ∧ PW (Bq own tg lb pb) own G own1 G1 m (x.step t c s).2 ∧ PnP own1 tg t c G1 q (x.step t c s).1 ∧
   G1.obj pb = some (paB (cfn 143 wb) .nilFunc (cfn 145 wb) (P0 q) true) ∧ G1.obj lb = some (lkB t c p1 parts by_ ik ij ie):=by
 have hx':=(hx.step (t:=t) (c:=c) hm).1
 obtain ⟨own1,G1,e1,w1,k1⟩:=pstepE_ok orc h hm hx h10 hq
 generalize (x.step t c s).2 = s' at *
 generalize (x.step t c s).1 = x' at *
 have kp:∀ {g},At own tag G g → G1.obj g = G.obj g:=fun a=>w1.keepT a.lt a.tag ht htg
 have op1:=(kp ap).trans op
 have ol1:=(kp al).trans ol
 have ow1:=(kp aw).trans ow
 have w1':PW (Bq own tg lb pb) own G own1 G1 m s':=w1.mono fun _ _ h=>.inr (.inr h)
 by_cases hl:x'.line = 9
 ·have x2:Ext G1 ((G1.room 9).room 9):=((Ext.refl G1).room 9).room 9
  have w2:=w1'.extT x2 13
  have e3:=pinAt_ok orc (G:=(G1.room 9).room 9) (by simpa using k1.2) hl hx'
  have hlt:=al.lt
  have hql:q ≠ lb:=fun k=>by have:=hq.1.tag; rw [k,al.tag] at this; exact htg this
  have hqp:q ≠ pb:=fun k=>by have:=hq.1.tag; rw [k,ap.tag] at this; exact htg this
  have k2:PnP (grown own1 G1 13) tg t c ((G1.room 9).room 9) q x':=k1.to x2.nx (fun g _ _=>by simp) grown_agr
  have a2:=al.to (w1.nx) w1.stp.agr
  refine ⟨grown own1 G1 13,((G1.room 9).room 9).put lb (lkB t c x'.now parts by_ ik ij ie),x'.now,?_,w2.put (.inl (.inl rfl)) (fun _=>by rw [grown_agr _ a2.lt,a2.tag]; exact ht) _,⟨k2.1.putO _ _,by rw [obj_put,if_neg hql]; exact k2.2⟩,by rw [obj_put,if_neg d1.symm]; simpa using op1,by simp⟩
  have e2:(E orc).cl 145 [P0 q,P0 wb] (G1.room 9) = some (.tuple #[],((G1.room 9).room 9).put lb (lkB t c x'.now parts by_ ik ij ie)):=by
   refine f145 (exL_ok Q orc) _ _ _ _ ?_
   simp [s145,ow1,e3,ol1,sameO,same,sameD]
  simp [j326_2,jb326_2,t0,t1,op,inv_pin,e1,op1]
  simp [j326_1,jb326_1,clip_t,t0,hl,op1,e2]
  simp [j326_0,jb326_0,clip_t]
 ·refine ⟨own1,G1,p0,?_,w1',k1,op1,ol1⟩
  simp [j326_2,jb326_2,t0,t1,op,inv_pin,e1,op1]
  simp [j326_1,jb326_1,clip_t,t0,hl,op1]
  simp [j326_0,jb326_0,clip_t]
def PnQ (own:Nat → Nat) (tg:Nat) (t:TW) (c:Int) (G:GS) (now:Value) (md:Bool) (x:PnS):Prop:=(md = false ∧ x = .new) ∨ (md = true ∧ ∃ q,now = P0 q ∧ PnP own tg t c G q x)
theorem runPin_ok (hc:0 ≤ c ∧ c < t.u11) (h:PM own G m s) (hm:s.ok) (hx:x.ok) (h10:tg ≠ 10) (htg:tag ≠ tg) (ht:tag ≠ 10)
  (ap:At own tag G pb) (al:At own tag G lb) (aw:At own tag G wb) (d1:lb ≠ pb) (d2:wb ≠ lb) (d3:wb ≠ pb) {now:Value} {md:Bool}
  (op:G.obj pb = some (paB (cfn 143 wb) .nilFunc (cfn 145 wb) now md)) (ol:G.obj lb = some (lkB t c p0 parts by_ ik ij ie)) (ow:G.obj wb = some ⟨[P0 lb],1,false,1⟩) (hq:PnQ own tg t c G now md x) :
  ∃ own1 G1 p1 q,(E orc).cl 326 [P0 pb,P0 m] G = some (.tuple #[.bool (decide ((x.step t c s).1.line = 9)),.int .u64 0],G1) ∧ PW (Bq own tg lb pb) own G own1 G1 m (x.step t c s).2 ∧ PnP own1 tg t c G1 q (x.step t c s).1 ∧
   G1.obj pb = some (paB (cfn 143 wb) .nilFunc (cfn 145 wb) (P0 q) true) ∧ G1.obj lb = some (lkB t c p1 parts by_ ik ij ie):=by
 rcases hq with ⟨rfl,rfl⟩ | ⟨rfl,q,rfl,hq⟩
 ·have x0:Ext G (G.room 12):=(Ext.refl G).room 12
  obtain ⟨q,G1,e1,x1,q1,o1⟩:=newpin_ok orc hc (G.room 12)
  have e2:(E orc).cl 143 [P0 wb] G = some (P0 q,G1):=by
   refine f143 (exL_ok Q orc) _ G _ ?_
   simp [s143,ow,ol,e1]
  have y1:=x0.trans x1
  have hnx:G.nx ≤ q:=by have:=q1.1; simp at this; omega
  obtain ⟨G2,hG2⟩:∃ G2,G2 = (G1.put pb (paB (cfn 143 wb) .nilFunc (cfn 145 wb) (P0 q) false)).put pb (paB (cfn 143 wb) .nilFunc (cfn 145 wb) (P0 q) true):=⟨_,rfl⟩
  have a1:∀ {g},At own tag G g → At (grown own G tg) tag G1 g:=fun a=>a.to y1.nx grown_agr
  have w1:PW (Bq own tg lb pb) own G (grown own G tg) G1 m s:=(PW.refl h).extT y1 tg
  have w2:PW (Bq own tg lb pb) own G (grown own G tg) G2 m s:=by
   rw [hG2]
   exact (w1.put (.inl (.inr (.inl rfl))) (fun _=>by rw [(a1 ap).tag]; exact ht) _).put (.inl (.inr (.inl rfl))) (fun _=>by rw [(a1 ap).tag]; exact ht) _
  have n2:G2.nx = G1.nx:=by rw [hG2]; rfl
  have b2:∀ {g},At own tag G g → At (grown own G tg) tag G2 g:=fun a=>⟨by rw [n2]; exact (a1 a).lt,(a1 a).tag⟩
  have ol2:G2.obj lb = some (lkB t c p0 parts by_ ik ij ie):=by rw [hG2,obj_put,if_neg d1,obj_put,if_neg d1]; exact (y1.obj _ al.lt).trans ol
  have ow2:G2.obj wb = some ⟨[P0 lb],1,false,1⟩:=by rw [hG2,obj_put,if_neg d3,obj_put,if_neg d3]; exact (y1.obj _ aw.lt).trans ow
  have op2:G2.obj pb = some (paB (cfn 143 wb) .nilFunc (cfn 145 wb) (P0 q) true):=by rw [hG2]; simp
  have hqp:q ≠ pb:=by have:=ap.lt; omega
  have hq2:PnP (grown own G tg) tg t c G2 q .new:=⟨⟨by rw [n2]; exact q1.2,grown_new hnx⟩,by rw [hG2,obj_put,if_neg hqp,obj_put,if_neg hqp]; exact o1⟩
  have op1:=(y1.obj _ ap.lt).trans op
  have key:=fun τ t0 t1=>runPin2 (τ:=τ) orc w2.pm hm hx h10 htg ht t0 t1 (b2 ap) (b2 al) (b2 aw) d1 d2 d3 op2 ol2 ow2 hq2
  obtain ⟨own3,G3,p3,e3,w3,k3,op3,ol3⟩:=key (clip 64 (tu (nth undef [P0 pb,P0 m]) [(23,.pointer (some ⟨pb,4,none⟩)),(22,P0 pb),(21,.pointer (some ⟨pb,3,none⟩)),(20,P0 pb),(19,P0 q),(18,cfn 143 wb),(17,P0 pb),(16,P0 pb),(15,P0 pb),(14,P0 pb),(13,P0 pb),(12,.bool true),(11,.bool false),(10,.pointer (some ⟨pb,4,none⟩)),(9,P0 pb),(8,P0 pb),(5,.int .u64 0),(4,.bool false)])) (by simp [clip_t]) (by simp [clip_t])
  refine ⟨own3,G3,p3,q,f326 (exL_ok Q orc) _ _ G _ ?_,w2.trans w3 ?_,k3,op3,ol3⟩
  ·simp [s326,sb326,op,e2,op1,← hG2]
   exact e3
  ·intro x hx k
   rcases k with k | k | k
   ·exact .inl k
   ·exact .inr (.inl k)
   ·exact .inr (.inr ((grown_agr _ hx).symm.trans k))
 ·have key:=fun τ t0 t1=>runPin2 (τ:=τ) orc h hm hx h10 htg ht t0 t1 ap al aw d1 d2 d3 op ol ow hq
  obtain ⟨own3,G3,p3,e3,w3,k3,op3,ol3⟩:=key (clip 64 (tu (nth undef [P0 pb,P0 m]) [(12,.bool false),(11,.bool true),(10,.pointer (some ⟨pb,4,none⟩)),(9,P0 pb),(8,P0 pb),(5,.int .u64 0),(4,.bool false)])) (by simp [clip_t]) (by simp [clip_t])
  refine ⟨own3,G3,p3,q,f326 (exL_ok Q orc) _ _ G _ ?_,w3,k3,op3,ol3⟩
  simp [s326,sb326,op]
  exact e3
end
section
variable {own own' own0 own1 own2:Nat → Nat} {tag tg m r b lb pb wb tb xb q:Nat} {t:TW} {c p0 by_ ik ij ie:Int} {parts:Value} {G G' G1 G2:GS} {s s' s1:MS}
theorem ustep_ok (h:PM own G m s) (ht:tag ≠ 10) (hb:At own tag G q) (ho:G.obj q = some (unX t c q 0)) :
  ∃ own1 G1,(E orc).cl 332 [P0 q,P0 m] G = some (.bool true,G1) ∧ PW (Own own tag) own G own1 G1 m (unS t c s):=by
 have x0:Ext G (G.room 11):=(Ext.refl G).room 11
 have w0:=(PW.refl (B:=Own own tag) h).extT x0 tag
 have hb0:=hb.extO x0 tag
 have o0:(G.room 11).obj q = some (unX t c q 0):=by simpa using ho
 generalize grown own G tag = own0 at *
 obtain ⟨own1,G1,e1,w1⟩:=w0.pm.store orc (t.pin c) 0
 have w1':=w0.tr w1.any
 have hb1:=hb0.to w1.nx w1.stp.agr
 have o1:=(hb0.keep ht w1).trans o0
 refine ⟨own1,(G1.put q (unX t c q (-1))).put q (unX t c q (-1)),f332 (exL_ok Q orc) _ _ G _ ?_,(w1'.putT hb1.tag ht _).putT hb1.tag ht _⟩
 have e3:(E orc).cl 182 [P0 q,.int .i64 0] G1 = some (.tuple #[],(G1.put q (unX t c q (-1))).put q (unX t c q (-1))):=by
  refine f182 (exL_ok Q orc) _ _ _ _ ?_
  simp [s182,o1]
 have e2:(E orc).cl 195 [P0 q,P0 m] (G.room 11) = some (.tuple #[],(G1.put q (unX t c q (-1))).put q (unX t c q (-1))):=by
  refine f195 (exL_ok Q orc) _ _ _ _ ?_
  simp [s195,o0,e1,e3]
 have e4:(E orc).cl 278 [P0 q,P0 m] G = some (.bool true,(G1.put q (unX t c q (-1))).put q (unX t c q (-1))):=by
  refine f278 (exL_ok Q orc) _ _ _ _ ?_
  simp [s278,ho,e2]
 simp [s332,e4]
abbrev upB (wb:Nat) (now:Value) (md:Bool):GObj:=paB (cfn 152 wb) .nilFunc .nilFunc now md
theorem runUnpin_ok (hc:0 ≤ c ∧ c < t.u11) (h:PM own G m s) (h10:tg ≠ 10) (htg:tag ≠ tg) (ht:tag ≠ 10)
  (ap:At own tag G pb) (al:At own tag G lb) (aw:At own tag G wb) (d1:lb ≠ pb) (d2:wb ≠ lb) (d3:wb ≠ pb)
  (op:G.obj pb = some (upB wb (.pointer none) false)) (ol:G.obj lb = some (lkB t c p0 parts by_ ik ij ie)) (ow:G.obj wb = some ⟨[P0 lb],1,false,1⟩) :
  ∃ own1 G1,(E orc).cl 330 [P0 pb,P0 m] G = some (.tuple #[.bool true,.int .u64 0],G1) ∧ PW (Bq own tg lb pb) own G own1 G1 m (unS t c s) ∧ G1.obj lb = some (lkB t c p0 parts by_ ik ij ie):=by
 have x0:Ext G (G.room 12):=(Ext.refl G).room 12
 obtain ⟨q,G1,e1,x1,q1,o1⟩:=newunpin_ok orc hc (G.room 12)
 have e2:(E orc).cl 152 [P0 wb] G = some (P0 q,G1):=by
  refine f152 (exL_ok Q orc) _ G _ ?_
  simp [s152,ow,ol,e1]
 have y1:=x0.trans x1
 have hnx:G.nx ≤ q:=by have:=q1.1; simp at this; omega
 obtain ⟨G2,hG2⟩:∃ G2,G2 = (G1.put pb (upB wb (P0 q) false)).put pb (upB wb (P0 q) true):=⟨_,rfl⟩
 have a1:∀ {g},At own tag G g → At (grown own G tg) tag G1 g:=fun a=>a.to y1.nx grown_agr
 have w1:PW (Bq own tg lb pb) own G (grown own G tg) G1 m s:=(PW.refl h).extT y1 tg
 have w2:PW (Bq own tg lb pb) own G (grown own G tg) G2 m s:=by
  rw [hG2]
  exact (w1.put (.inl (.inr (.inl rfl))) (fun _=>by rw [(a1 ap).tag]; exact ht) _).put (.inl (.inr (.inl rfl))) (fun _=>by rw [(a1 ap).tag]; exact ht) _
 have n2:G2.nx = G1.nx:=by rw [hG2]; rfl
 have b2:∀ {g},At own tag G g → At (grown own G tg) tag G2 g:=fun a=>⟨by rw [n2]; exact (a1 a).lt,(a1 a).tag⟩
 have ol2:G2.obj lb = some (lkB t c p0 parts by_ ik ij ie):=by rw [hG2,obj_put,if_neg d1,obj_put,if_neg d1]; exact (y1.obj _ al.lt).trans ol
 have op2:G2.obj pb = some (upB wb (P0 q) true):=by rw [hG2]; simp
 have hqp:q ≠ pb:=by have:=ap.lt; omega
 have aq:At (grown own G tg) tg G2 q:=⟨by rw [n2]; exact q1.2,grown_new hnx⟩
 have oq:G2.obj q = some (unX t c q 0):=by rw [hG2,obj_put,if_neg hqp,obj_put,if_neg hqp]; exact o1
 have op1:=(y1.obj _ ap.lt).trans op
 obtain ⟨own3,G3,e3,w3⟩:=ustep_ok orc w2.pm h10 aq oq
 have kp:∀ {g},At own tag G g → G3.obj g = G2.obj g:=fun a=>w3.keepT (b2 a).lt (b2 a).tag ht htg
 have op3:=(kp ap).trans op2
 have ol3:=(kp al).trans ol2
 refine ⟨own3,G3,f330 (exL_ok Q orc) _ _ G _ ?_,w2.sub w3 fun x hx k=>.inr (.inr k),ol3⟩
 simp [s330,sb330,op,e2,op1,← hG2]
 simp [j330_2,jb330_2,clip_t,op2,inv_unpin,e3,op3]
 simp [j330_1,jb330_1,clip_t,op3]
 simp [j330_0,jb330_0,clip_t]
abbrev ppB (tb xb:Nat) (now:Value) (md:Bool):GObj:=paB (cfn 105 tb) (.func (.func 107) #[] #[]) (cfn 108 xb) now md
theorem runPeek2 {x:ClS} (hto:orc 236 = false) (hs:t.sound) (hlo:t.lok) (h:PM own G m s) (hm:s.ok) (hx:x.ok true t) (h10:tg ≠ 10) (htg:tag ≠ tg) (ht:tag ≠ 10) {τ:Env} (t0:τ 0 = P0 pb) (t1:τ 1 = P0 m)
  (ap:At own tag G pb) (al:At own tag G lb) (aw:At own tag G xb) (d1:lb ≠ pb) (d2:xb ≠ lb) (d3:xb ≠ pb)
  (op:G.obj pb = some (ppB tb xb (P0 q) true)) (ol:G.obj lb = some (lkB t c p0 parts by_ ik ij ie)) (ow:G.obj xb = some ⟨[P0 lb],1,false,1⟩) (hq:PkP own tg t G q x) :
  ∃ own1 G1,j317_2 true (exL Q orc) τ G = some (.tuple #[.bool (decide ((x.step true t s).1.line = 99)),.int .u64 (x.step true t s).1.by_],G1) ∧ PW (Bq own tg lb pb) own G own1 G1 m (x.step true t s).2 ∧ PkP own1 tg t G1 q (x.step true t s).1 ∧
   G1.obj pb = some (ppB tb xb (P0 q) true) ∧ G1.obj lb = some (if (x.step true t s).1.line = 99 then lkB t c p0 parts by_ (x.step true t s).1.ik (x.step true t s).1.ij (x.step true t s).1.ie else lkB t c p0 parts by_ ik ij ie):=by
 have hx':=(hx.step hs hlo hm).1
 obtain ⟨own1,G1,e1,w1,k1⟩:=pstep_ok orc hto hs hlo h hm hx h10 hq
 generalize (x.step true t s).2 = s' at *
 generalize (x.step true t s).1 = x' at *
 have kp:∀ {g},At own tag G g → G1.obj g = G.obj g:=fun a=>w1.keepT a.lt a.tag ht htg
 have op1:=(kp ap).trans op
 have ol1:=(kp al).trans ol
 have ow1:=(kp aw).trans ow
 have w1':PW (Bq own tg lb pb) own G own1 G1 m s':=w1.mono fun _ _ h=>.inr (.inr h)
 have x2:Ext G1 (G1.room 10):=(Ext.refl G1).room 10
 have e2:=pBy_ok orc (G:=G1.room 10) (by simpa using k1.2)
 have w2:=w1'.extT x2 13
 have hqp:q ≠ pb:=fun k=>by have:=hq.1.tag; rw [k,ap.tag] at this; exact htg this
 have k2:PkP (grown own1 G1 13) tg t (G1.room 10) q x':=k1.to x2.nx (fun g _ _=>by simp) grown_agr
 have a2:∀ {g},At own tag G g → At (grown own1 G1 13) tag (G1.room 10) g:=fun a=>(a.to w1.nx w1.stp.agr).to x2.nx grown_agr
 have op2:(G1.room 10).obj pb = some (ppB tb xb (P0 q) true):=by simpa using op1
 have ol2:(G1.room 10).obj lb = some (lkB t c p0 parts by_ ik ij ie):=by simpa using ol1
 have ow2:(G1.room 10).obj xb = some ⟨[P0 lb],1,false,1⟩:=by simpa using ow1
 generalize grown own1 G1 13 = own2 at *
 by_cases hl:x'.line = 99
 ·rw [if_pos hl]
  have x3:Ext (G1.room 10) (((G1.room 10).room 9).room 15):=((Ext.refl _).room 9).room 15
  obtain ⟨G3,e3,x3'⟩:=pItem_ok orc hx' (G:=((G1.room 10).room 9).room 15) (by simpa using k2.2) (by have:=k2.1.lt; simp at this ⊢; omega)
  have y3:=x3.trans x3'
  have w3:=w2.extT y3 13
  have k3:PkP (grown own2 (G1.room 10) 13) tg t G3 q x':=k2.to y3.nx (fun g hg _=>y3.obj g hg) grown_agr
  have a3:∀ {g},At own tag G g → At (grown own2 (G1.room 10) 13) tag G3 g:=fun a=>(a2 a).to y3.nx grown_agr
  have ol3:=(y3.obj lb (a2 al).lt).trans ol2
  have op3:=(y3.obj pb (a2 ap).lt).trans op2
  have ow3:=(y3.obj xb (a2 aw).lt).trans ow2
  have owr:(((G1.room 10).room 9).room 15).obj xb = some ⟨[P0 lb],1,false,1⟩:=by simpa using ow2
  generalize grown own2 (G1.room 10) 13 = own3 at *
  have hql:q ≠ lb:=fun k=>by have:=hq.1.tag; rw [k,al.tag] at this; exact htg this
  refine ⟨own3,(G3.put lb (lkB t c p0 parts by_ x'.ik x'.ij ie)).put lb (lkB t c p0 parts by_ x'.ik x'.ij x'.ie),?_,(w3.put (.inl (.inl rfl)) (fun _=>by rw [(a3 al).tag]; exact ht) _).put (.inl (.inl rfl)) (fun _=>by rw [(a3 al).tag]; exact ht) _,⟨(k3.1.putO _ _).putO _ _,by rw [obj_put,if_neg hql,obj_put,if_neg hql]; exact k3.2⟩,by rw [obj_put,if_neg d1.symm,obj_put,if_neg d1.symm]; exact op3,by simp⟩
  have e4:(E orc).cl 108 [P0 q,P0 xb] ((G1.room 10).room 9) = some (.tuple #[],(G3.put lb (lkB t c p0 parts by_ x'.ik x'.ij ie)).put lb (lkB t c p0 parts by_ x'.ik x'.ij x'.ie)):=by
   refine f108 (exL_ok Q orc) _ _ _ _ ?_
   unfold itemV at e3
   simp [s108,owr,e3,ow3,ol3,sameO,same,sameD,splice_put,splice_end,splice_succ,d2]
  simp [j317_2,jb317_2,t0,t1,op,inv_peek,e1,op1,e2]
  simp [j317_1,jb317_1,clip_t,t0,hl,op1,e4]
  simp [j317_0,jb317_0,clip_t]
 ·rw [if_neg hl]
  refine ⟨own2,G1.room 10,?_,w2,k2,op2,ol2⟩
  simp [j317_2,jb317_2,t0,t1,op,inv_peek,e1,op1,e2]
  simp [j317_1,jb317_1,clip_t,t0,hl,op1]
  simp [j317_0,jb317_0,clip_t]
def PkQ (own:Nat → Nat) (tg:Nat) (t:TW) (G:GS) (now:Value) (md:Bool) (x:ClS):Prop:=(md = false ∧ x = ClS.new t) ∨ (md = true ∧ ∃ q,now = P0 q ∧ PkP own tg t G q x)
theorem runPeek_ok {x:ClS} (hto:orc 236 = false) (hs:t.sound) (hlo:t.lok) (h:PM own G m s) (hm:s.ok) (hx:x.ok true t) (h10:tg ≠ 10) (htg:tag ≠ tg) (ht:tag ≠ 10)
  (ap:At own tag G pb) (al:At own tag G lb) (aw:At own tag G xb) (at_:At own tag G tb) (d1:lb ≠ pb) (d2:xb ≠ lb) (d3:xb ≠ pb) {now:Value} {md:Bool}
  (op:G.obj pb = some (ppB tb xb now md)) (ol:G.obj lb = some (lkB t c p0 parts by_ ik ij ie)) (ow:G.obj xb = some ⟨[P0 lb],1,false,1⟩) (ot:G.obj tb = some ⟨t.cells,1,false,1⟩) (hq:PkQ own tg t G now md x) :
  ∃ own1 G1 q,(E orc).cl 317 [P0 pb,P0 m] G = some (.tuple #[.bool (decide ((x.step true t s).1.line = 99)),.int .u64 (x.step true t s).1.by_],G1) ∧ PW (Bq own tg lb pb) own G own1 G1 m (x.step true t s).2 ∧ PkP own1 tg t G1 q (x.step true t s).1 ∧
   G1.obj pb = some (ppB tb xb (P0 q) true) ∧ G1.obj lb = some (if (x.step true t s).1.line = 99 then lkB t c p0 parts by_ (x.step true t s).1.ik (x.step true t s).1.ij (x.step true t s).1.ie else lkB t c p0 parts by_ ik ij ie):=by
 rcases hq with ⟨rfl,rfl⟩ | ⟨rfl,q,rfl,hq⟩
 ·obtain ⟨q,G1,e1,y1,o1,q1,q2⟩:=newpeek_ok orc hs G
  have e2:(E orc).cl 105 [P0 tb] G = some (P0 q,G1):=by
   refine f105 (exL_ok Q orc) _ G _ ?_
   have el:loadA 13 tb 0 G = some t.v:=by simp [ot]
   simp [-loadA_s,s105,el,e1]
  obtain ⟨G2,hG2⟩:∃ G2,G2 = (G1.put pb (ppB tb xb (P0 q) false)).put pb (ppB tb xb (P0 q) true):=⟨_,rfl⟩
  have a1:∀ {g},At own tag G g → At (grown own G tg) tag G1 g:=fun a=>a.to y1.nx grown_agr
  have w1:PW (Bq own tg lb pb) own G (grown own G tg) G1 m s:=(PW.refl h).extT y1 tg
  have w2:PW (Bq own tg lb pb) own G (grown own G tg) G2 m s:=by
   rw [hG2]
   exact (w1.put (.inl (.inr (.inl rfl))) (fun _=>by rw [(a1 ap).tag]; exact ht) _).put (.inl (.inr (.inl rfl))) (fun _=>by rw [(a1 ap).tag]; exact ht) _
  have n2:G2.nx = G1.nx:=by rw [hG2]; rfl
  have b2:∀ {g},At own tag G g → At (grown own G tg) tag G2 g:=fun a=>⟨by rw [n2]; exact (a1 a).lt,(a1 a).tag⟩
  have ol2:G2.obj lb = some (lkB t c p0 parts by_ ik ij ie):=by rw [hG2,obj_put,if_neg d1,obj_put,if_neg d1]; exact (y1.obj _ al.lt).trans ol
  have ow2:G2.obj xb = some ⟨[P0 lb],1,false,1⟩:=by rw [hG2,obj_put,if_neg d3,obj_put,if_neg d3]; exact (y1.obj _ aw.lt).trans ow
  have op2:G2.obj pb = some (ppB tb xb (P0 q) true):=by rw [hG2]; simp
  have hqp:q ≠ pb:=by have:=ap.lt; omega
  have hq2:PkP (grown own G tg) tg t G2 q (ClS.new t):=⟨⟨by rw [n2]; exact q2,grown_new q1⟩,by rw [hG2,obj_put,if_neg hqp,obj_put,if_neg hqp]; exact o1⟩
  have op1:=(y1.obj _ ap.lt).trans op
  have key:=fun τ t0 t1=>runPeek2 (τ:=τ) orc hto hs hlo w2.pm hm hx h10 htg ht t0 t1 (b2 ap) (b2 al) (b2 aw) d1 d2 d3 op2 ol2 ow2 hq2
  obtain ⟨own3,G3,e3,w3,k3,op3,ol3⟩:=key (clip 64 (tu (nth undef [P0 pb,P0 m]) [(23,.pointer (some ⟨pb,4,none⟩)),(22,P0 pb),(21,.pointer (some ⟨pb,3,none⟩)),(20,P0 pb),(19,P0 q),(18,cfn 105 tb),(17,P0 pb),(16,P0 pb),(15,P0 pb),(14,P0 pb),(13,P0 pb),(12,.bool true),(11,.bool false),(10,.pointer (some ⟨pb,4,none⟩)),(9,P0 pb),(8,P0 pb),(5,.int .u64 0),(4,.bool false)])) (by simp [clip_t]) (by simp [clip_t])
  refine ⟨own3,G3,q,f317 (exL_ok Q orc) _ _ G _ ?_,w2.trans w3 ?_,k3,op3,ol3⟩
  ·simp [s317,sb317,op,e2,op1,← hG2]
   exact e3
  ·intro x hx k
   rcases k with k | k | k
   ·exact .inl k
   ·exact .inr (.inl k)
   ·exact .inr (.inr ((grown_agr _ hx).symm.trans k))
 ·have key:=fun τ t0 t1=>runPeek2 (τ:=τ) orc hto hs hlo h hm hx h10 htg ht t0 t1 ap al aw d1 d2 d3 op ol ow hq
  obtain ⟨own3,G3,e3,w3,k3,op3,ol3⟩:=key (clip 64 (tu (nth undef [P0 pb,P0 m]) [(12,.bool false),(11,.bool true),(10,.pointer (some ⟨pb,4,none⟩)),(9,P0 pb),(8,P0 pb),(5,.int .u64 0),(4,.bool false)])) (by simp [clip_t]) (by simp [clip_t])
  refine ⟨own3,G3,q,f317 (exL_ok Q orc) _ _ G _ ?_,w3,k3,op3,ol3⟩
  simp [s317,sb317,op]
  exact e3
end
def rowF:RowE (Nat × Nat):=⟨1,fun x=>[.iface x.1 (P0 x.2)],fun _=>rfl,fun _=>rfl,by decide⟩
@[simp] theorem rowF_sz:rowF.sz = 1:=rfl
@[simp] theorem rowF_row (x:Nat × Nat):rowF.row x = [.iface x.1 (P0 x.2)]:=rfl
section
variable {own own' own0 own1 own2:Nat → Nat} {tag tg m r b lb pb wb tb xb q:Nat} {t:TW} {c p p' by_ by' ik ij ie ik' ij' ie':Int} {v v1:Value} {G G' G1 G2 G18:GS} {s s' s1:MS} {f:Nat × Nat} {rest:List (Nat × Nat)} {d:Bool}
theorem slK_block {s:Nat} {a a':Addr} {n c n' c':Nat} {lo hi mx:Option Value} (h:slK s (.slice (some a) n c) lo hi mx G = some (.slice (some a') n' c')):a'.block = a.block:=by
 simp only [slK] at h
 cases ho:G.obj a.block with
 | none=>simp [ho] at h
 | some o =>
  simp only [ho] at h
  repeat' (split at h)
  all_goals first | (cases h; rfl) | cases h | contradiction
theorem wfirst_ok (hv:SlR rowF G v (f :: rest)):∃ b o cap v1,v = .slice (some ⟨b,o,none⟩) (rest.length + 1) cap ∧ G.cell b o = some (.iface f.1 (P0 f.2)) ∧ slK 1 v (some (.int .i64 1)) none none G = some v1 ∧ SlR rowF G v1 rest ∧ ∀ g,InB v1 g → InB v g:=by
 obtain ⟨b,o,cap,e0,_,q0,_⟩:=hv.at (i:=0) (by simp)
 have c0:=q0 0 (by decide)
 simp [-cell_s] at c0
 obtain ⟨v1,e1,s1⟩:=hv.drop (k:=.i64) (o:=1) (by simp)
 refine ⟨b,o,cap,v1,by simpa using e0,c0,by simpa using e1,by simpa using s1,?_⟩
 rintro g ⟨a,n,c',rfl,hg⟩
 rw [e0] at e1
 exact ⟨_,_,_,e0,(slK_block e1).symm.trans hg⟩
theorem wdone_ok (hv:SlR rowF G v (f :: rest)) (ho:G.obj lb = some (lkB t c p v by_ ik ij ie)) (h1:slK 1 v (some (.int .i64 1)) none none G = some v1) (hs1:SlR rowF G18 v1 rest) (hlen:rest.length < 10)
  (hrun : cInvoke Q (evL Q orc) (.iface f.1 (P0 f.2)) "coxswain/ready.run" [P0 m] (G.put lb (lkB t c p v1 by_ ik ij ie)) = some (.tuple #[.bool true, .int .u64 by'], G18)) (o18 : G18.obj lb = some (lkB t c p' v1 by_ ik' ij' ie')) :
  (E orc).cl 102 [P0 lb,P0 m] G = some (.bool (decide (rest.length = 0)),G18.put lb (lkB t c p' v1 by' ik' ij' ie')):=by
 obtain ⟨b,o,cap,v2,e0,c0,e1,-,-⟩:=wfirst_ok hv
 rw [h1] at e1
 simp at c0
 obtain ⟨a1,n1,rfl⟩:=hs1.len
 have hn0:¬ ((rest.length:Int) + 1 = 0):=by omega
 have hp0:(0:Int) < (rest.length:Int) + 1:=by omega
 refine f102 (exL_ok Q orc) _ _ G _ ?_
 rw [e0] at h1 ho
 simp [s102,sb102,ho,hn0,hp0,c0,h1,hrun,o18]
 simp [j102_0,jb102_0,clip_t]
theorem wmore_ok (hv:SlR rowF G v (f :: rest)) (ho:G.obj lb = some (lkB t c p v by_ ik ij ie)) (h1:slK 1 v (some (.int .i64 1)) none none G = some v1) (hs1:SlR rowF G18 v1 rest) (hnb:¬ InB v1 lb) (hlb:lb < G18.nx) (hlen:rest.length < 10)
  (hrun : cInvoke Q (evL Q orc) (.iface f.1 (P0 f.2)) "coxswain/ready.run" [P0 m] (G.put lb (lkB t c p v1 by_ ik ij ie)) = some (.tuple #[.bool false, .int .u64 by'], G18)) (o18 : G18.obj lb = some (lkB t c p' v1 by_ ik' ij' ie')) :
  ∃ v2 G3,(E orc).cl 102 [P0 lb,P0 m] G = some (.bool false,G3.put lb (lkB t c p' v2 by' ik' ij' ie')) ∧ Ext (G18.put lb (lkB t c p' v1 by' ik' ij' ie')) G3 ∧ OwR rowF G18.nx G3 v2 (f :: rest):=by
 obtain ⟨b,o,cap,v2,e0,c0,e1,-,-⟩:=wfirst_ok hv
 rw [h1] at e1
 simp at c0
 obtain ⟨A,hA⟩:∃ A,A = G18.put lb (lkB t c p' v1 by' ik' ij' ie'):=⟨_,rfl⟩
 have nA:A.nx = G18.nx:=by rw [hA]; rfl
 have sA:SlR rowF A v1 rest:=hs1.same (Nat.le_of_eq nA.symm) fun a n c he=>by rw [hA,obj_put,if_neg]; intro k; exact hnb ⟨a,n,c,he,k⟩
 have xA:Ext A (A.push ⟨rowF.row f,1,false,1⟩):=(Ext.refl A).push _
 have own1:OwR rowF A.nx (A.push ⟨rowF.row f,1,false,1⟩) (.slice (some ⟨A.nx,0,none⟩) 1 1) [f]:=⟨RowE.flat_length _ _,.inr ⟨A.nx,false,rfl,Nat.le_refl _,by simp,by simp [RowE.flat]⟩⟩
 obtain ⟨v2,G3,b1,a2,a3⟩:=OwR.app (A:=A) (ib:=16) own1 (by decide) xA (sA.ext xA) (by simp; omega)
 have oA:A.obj lb = some (lkB t c p' v1 by' ik' ij' ie'):=by rw [hA]; simp
 have o3:=(a2.obj lb (by rw [nA]; exact hlb)).trans oA
 obtain ⟨a4,n4,rfl⟩:=a3.is.len
 obtain ⟨a1,n1,hv1⟩:=hs1.len
 have hn0:¬ ((rest.length:Int) + 1 = 0):=by omega
 have hp0:(0:Int) < (rest.length:Int) + 1:=by omega
 have oP:(A.push ⟨rowF.row f,1,false,1⟩).obj lb = some (lkB t c p' v1 by' ik' ij' ie'):=(xA.obj lb (by rw [nA]; exact hlb)).trans oA
 refine ⟨_,G3,f102 (exL_ok Q orc) _ _ G _ ?_,by rw [← hA]; exact a2,by rw [← nA]; exact a3⟩
 rw [e0] at h1 ho
 rw [hv1] at h1 hrun o18 hA b1 oP o3
 simp at b1 oP
 simp [s102,sb102,ho,hn0,hp0,c0,h1,hrun,o18,← hA,iface_cells,oP,b1,o3]
 simp [j102_0,jb102_0,clip_t,hn0]
end
def LkS.sk (x:LkS):Int:=if x.line = 5 ∨ x.line = 9 then x.peek.ik else 0
def LkS.sj (x:LkS):Int:=if x.line = 5 ∨ x.line = 9 then x.peek.ij else 0
def LkS.se (x:LkS):Int:=if x.line = 5 ∨ x.line = 9 then x.peek.ie else 0
structure LkK where
 p1:Nat
 p2:Nat
 p3:Nat
 w1:Nat
 tb:Nat
 xb:Nat
 w3:Nat
abbrev LkK.all (k:LkK) (lb:Nat):List Nat:=[lb,k.p1,k.p2,k.p3,k.w1,k.tb,k.xb,k.w3]
structure LkF (own:Nat → Nat) (tag:Nat) (t:TW) (G:GS) (lb:Nat) (k:LkK):Prop where
 at_:∀ g,g ∈ k.all lb → At own tag G g
 nd:k.tb < lb ∧ lb < k.xb ∧ k.xb < k.p2 ∧ k.p2 < k.w1 ∧ k.w1 < k.p1 ∧ k.p1 < k.w3 ∧ k.w3 < k.p3
 ow1:G.obj k.w1 = some ⟨[P0 lb],1,false,1⟩
 otb:G.obj k.tb = some ⟨t.cells,1,false,1⟩
 oxb:G.obj k.xb = some ⟨[P0 lb],1,false,1⟩
 ow3:G.obj k.w3 = some ⟨[P0 lb],1,false,1⟩
section
variable {own own' own0 own1 own2:Nat → Nat} {tag tg m r b lb q:Nat} {t:TW} {c p p' by_ by' ik ij ie ik' ij' ie':Int} {v v1:Value} {G G' G1 G2 G18:GS} {s s' s1:MS} {f:Nat × Nat} {L rest:List (Nat × Nat)} {d:Bool} {k:LkK} {x:LkS}
theorem LkF.to (h:LkF own tag t G lb k) (hn:G.nx ≤ G'.nx) (a:Agr own own' G) (hk:∀ g,g ∈ [k.w1,k.tb,k.xb,k.w3] → G'.obj g = G.obj g):LkF own' tag t G' lb k :=
 ⟨fun g hg=>(h.at_ g hg).to hn a,h.nd,(hk _ (by simp)).trans h.ow1,(hk _ (by simp)).trans h.otb,(hk _ (by simp)).trans h.oxb,(hk _ (by simp)).trans h.ow3⟩
structure LkV (own:Nat → Nat) (tag:Nat) (G:GS) (lb:Nat) (k:LkK) (v:Value) (L:List (Nat × Nat)):Prop where
 sl:SlR rowF G v L
 inb:∀ g,InB v g → own g = tag ∧ g ∉ k.all lb
theorem LkV.to (h:LkV own tag G lb k v L) (hn:G.nx ≤ G'.nx) (a:Agr own own' G) (hk:∀ g,g < G.nx → own g = tag → g ∉ k.all lb → G'.obj g = G.obj g):LkV own' tag G' lb k v L :=
 ⟨h.sl.kept hn fun g hg=>hk g (h.sl.under g hg) (h.inb g hg).1 (h.inb g hg).2,fun g hg=>⟨(a g (h.sl.under g hg)).trans (h.inb g hg).1,(h.inb g hg).2⟩⟩
abbrev rf1 (k:LkK):Nat × Nat:=(220,k.p1)
abbrev rf2 (k:LkK):Nat × Nat:=(178,k.p2)
abbrev rf3 (k:LkK):Nat × Nat:=(247,k.p3)
def LkL (own:Nat → Nat) (tg:Nat) (t:TW) (c:Int) (G:GS) (k:LkK) (x:LkS) (L:List (Nat × Nat)):Prop :=
 (x.line = 1 ∧ L = [rf1 k,rf2 k,rf3 k] ∧ x.peek = ClS.new t ∧ (∃ now md,G.obj k.p1 = some (paB (cfn 143 k.w1) .nilFunc (cfn 145 k.w1) now md) ∧ PnQ own tg t c G now md x.pin) ∧ G.obj k.p2 = some (ppB k.tb k.xb (.pointer none) false) ∧ G.obj k.p3 = some (upB k.w3 (.pointer none) false)) ∨
 (x.line = 4 ∧ L = [rf2 k,rf3 k] ∧ (∃ now md,G.obj k.p2 = some (ppB k.tb k.xb now md) ∧ PkQ own tg t G now md x.peek) ∧ G.obj k.p3 = some (upB k.w3 (.pointer none) false)) ∨
 (x.line = 5 ∧ L = [rf3 k] ∧ G.obj k.p3 = some (upB k.w3 (.pointer none) false)) ∨
 (x.line = 9 ∧ L = [])
def LkP (own:Nat → Nat) (tag tg:Nat) (t:TW) (c:Int) (G:GS) (lb:Nat) (x:LkS):Prop :=
 ∃ k v p L,LkF own tag t G lb k ∧ G.obj lb = some (lkB t c p v x.by_ x.sk x.sj x.se) ∧ LkV own tag G lb k v L ∧ LkL own tg t c G k x L
theorem PnQ.to {now:Value} {md:Bool} {y:PnS} (h:PnQ own tg t c G now md y) (hn:G.nx ≤ G'.nx) (hk:∀ g,g < G.nx → own g = tg → G'.obj g = G.obj g) (a:Agr own own' G):PnQ own' tg t c G' now md y :=
 h.imp id fun ⟨e,q,e2,h⟩=>⟨e,q,e2,h.to hn hk a⟩
theorem PkQ.to {now:Value} {md:Bool} {y:ClS} (h:PkQ own tg t G now md y) (hn:G.nx ≤ G'.nx) (hk:∀ g,g < G.nx → own g = tg → G'.obj g = G.obj g) (a:Agr own own' G):PkQ own' tg t G' now md y :=
 h.imp id fun ⟨e,q,e2,h⟩=>⟨e,q,e2,h.to hn hk a⟩
theorem LkP.to (h:LkP own tag tg t c G lb x) (hn:G.nx ≤ G'.nx) (hk:∀ g,g < G.nx → own g = tag ∨ own g = tg → G'.obj g = G.obj g) (a:Agr own own' G):LkP own' tag tg t c G' lb x:=by
 obtain ⟨k,v,p,L,hF,ho,hV,hL⟩:=h
 have kt:∀ g,g ∈ k.all lb → G'.obj g = G.obj g:=fun g hg=>hk g (hF.at_ g hg).lt (.inl (hF.at_ g hg).tag)
 refine ⟨k,v,p,L,hF.to hn a fun g hg=>kt g ?_,(kt lb (by simp)).trans ho,hV.to hn a fun g hg e _=>hk g hg (.inl e),?_⟩
 ·simp at hg ⊢
  rcases hg with e | e | e | e <;> simp [e]
 ·have k1:=kt k.p1 (by simp)
  have k2:=kt k.p2 (by simp)
  have k3:=kt k.p3 (by simp)
  rcases hL with ⟨e,e2,e3,⟨now,md,h1,h2⟩,h3,h4⟩ | ⟨e,e2,⟨now,md,h1,h2⟩,h4⟩ | ⟨e,e2,h4⟩ | h
  ·exact .inl ⟨e,e2,e3,⟨now,md,k1.trans h1,h2.to hn (fun g hg e=>hk g hg (.inr e)) a⟩,k2.trans h3,k3.trans h4⟩
  ·exact .inr (.inl ⟨e,e2,⟨now,md,k2.trans h1,h2.to hn (fun g hg e=>hk g hg (.inr e)) a⟩,k3.trans h4⟩)
  ·exact .inr (.inr (.inl ⟨e,e2,k3.trans h4⟩))
  ·exact .inr (.inr (.inr h))
theorem lkBy_ok (h:LkP own tag tg t c G lb x):(E orc).cl 113 [P0 lb] G = some (.int .u64 x.by_,G):=by
 obtain ⟨k,v,p,L,hF,ho,hV,hL⟩:=h
 exact f113 (exL_ok Q orc) _ G _ (by simp [s113,ho])
theorem inv_r1 (q m : Nat) (G : GS) : cInvoke Q (evL Q orc) (.iface 220 (P0 q)) "coxswain/ready.run" [P0 m] G = (E orc).cl 326 [P0 q, P0 m] G := by kernel_rfl
theorem inv_r2 (q m : Nat) (G : GS) : cInvoke Q (evL Q orc) (.iface 178 (P0 q)) "coxswain/ready.run" [P0 m] G = (E orc).cl 317 [P0 q, P0 m] G := by kernel_rfl
theorem inv_r3 (q m : Nat) (G : GS) : cInvoke Q (evL Q orc) (.iface 247 (P0 q)) "coxswain/ready.run" [P0 m] G = (E orc).cl 330 [P0 q, P0 m] G := by kernel_rfl
theorem LkF.put (h:LkF own tag t G lb k) (o:GObj):LkF own tag t (G.put lb o) lb k:=by
 obtain ⟨n1,n2,n3,n4,n5,n6,n7⟩:=h.nd
 refine h.to (Nat.le_refl _) (Agr.refl _ _) fun g hg=>?_
 rw [obj_put,if_neg]
 simp at hg
 rcases hg with rfl | rfl | rfl | rfl <;> omega
theorem LkV.put (h:LkV own tag G lb k v L) (o:GObj):LkV own tag (G.put lb o) lb k v L :=
 h.to (Nat.le_refl _) (Agr.refl _ _) fun g _ _ hg=>by rw [obj_put,if_neg]; rintro rfl; exact hg (by simp)
theorem LkF.run (h:LkF own tag t G lb k) {pb:Nat} (hp:pb ∈ [k.p1,k.p2,k.p3]) (ht:tag ≠ 10) (htg:tag ≠ tg) (w:PW (Bq own tg lb pb) own G own1 G1 m s):LkF own1 tag t G1 lb k:=by
 obtain ⟨n1,n2,n3,n4,n5,n6,n7⟩:=h.nd
 refine h.to w.nx w.stp.agr fun g hg=>?_
 have ha:At own tag G g:=h.at_ g (by simp at hg ⊢; rcases hg with e | e | e | e <;> simp [e])
 refine w.keep ha.lt (by rw [ha.tag]; exact ht) ?_
 rintro (k1 | k1 | k1)
 ·subst k1; simp at hg; rcases hg with e | e | e | e <;> omega
 ·subst k1; simp at hg hp; rcases hg with e | e | e | e <;> rcases hp with e' | e' | e' <;> omega
 ·exact htg (ha.tag.symm.trans k1)
theorem LkV.run (h:LkV own tag G lb k v L) {pb:Nat} (hp:pb ∈ [k.p1,k.p2,k.p3]) (ht:tag ≠ 10) (htg:tag ≠ tg) (w:PW (Bq own tg lb pb) own G own1 G1 m s):LkV own1 tag G1 lb k v L:=by
 refine h.to w.nx w.stp.agr fun g hg e hk=>w.keep hg (by rw [e]; exact ht) ?_
 rintro (k1 | k1 | k1)
 ·exact hk (by simp [k1])
 ·exact hk (by rw [k1]; simp at hp ⊢; rcases hp with e | e | e <;> simp [e])
 ·exact htg (e.symm.trans k1)
theorem kept_run (hF:LkF own tag t G lb k) {pb g:Nat} (hg:g ∈ [k.p1,k.p2,k.p3]) (hne:g ≠ pb) (ht:tag ≠ 10) (htg:tag ≠ tg) (w:PW (Bq own tg lb pb) own G own1 G1 m s):G1.obj g = G.obj g:=by
 obtain ⟨n1,n2,n3,n4,n5,n6,n7⟩:=hF.nd
 have ha:At own tag G g:=hF.at_ g (by simp at hg ⊢; rcases hg with e | e | e <;> simp [e])
 refine w.keep ha.lt (by rw [ha.tag]; exact ht) ?_
 rintro (k1 | k1 | k1)
 ·subst k1; simp at hg; rcases hg with e | e | e <;> omega
 ·exact hne k1
 ·exact htg (ha.tag.symm.trans k1)
end
section
variable {own own' own0 own1 own2:Nat → Nat} {tag tg m r b lb q pb:Nat} {t:TW} {c p p' by_ by' ik ij ie ik' ij' ie':Int} {v v1 v2:Value} {G G' G1 G2 G3 G18:GS} {s s' s1:MS} {f:Nat × Nat} {L rest:List (Nat × Nat)} {d:Bool} {k:LkK} {x:LkS} {o o1 o2:GObj}
theorem LkF.al (h:LkF own tag t G lb k):At own tag G lb:=h.at_ lb (by simp)
theorem Bq_le (hF:LkF own tag t G lb k) (hp:pb ∈ [k.p1,k.p2,k.p3]):∀ y,Bq own tg lb pb y → Ow2 own tag tg y:=by
 intro y h
 rcases h with rfl | rfl | h
 ·exact .inl hF.al.tag
 ·exact .inl (hF.at_ y (by simp at hp ⊢; rcases hp with e | e | e <;> simp [e])).tag
 ·exact .inr h
theorem fin_done (hF:LkF own tag t G lb k) (hp:pb ∈ [k.p1,k.p2,k.p3]) (ht:tag ≠ 10) (w:PW (Bq own tg lb pb) own G own1 G1 m s') (hF1:LkF own1 tag t G1 lb k) (hV1:LkV own1 tag G1 lb k v1 rest) (o:GObj) :
  PW (Ow2 own tag tg) own G own1 (G1.put lb o) m s' ∧ LkF own1 tag t (G1.put lb o) lb k ∧ LkV own1 tag (G1.put lb o) lb k v1 rest :=
 ⟨(w.put (.inl (.inl rfl)) (fun _=>by rw [hF1.al.tag]; exact ht) o).mono fun y _ hy=>Bq_le hF hp y hy,hF1.put o,hV1.put o⟩
theorem fin_more (hF:LkF own tag t G lb k) (hp:pb ∈ [k.p1,k.p2,k.p3]) (ht:tag ≠ 10) (w:PW (Bq own tg lb pb) own G own1 G1 m s') (hF1:LkF own1 tag t G1 lb k) (x3:Ext (G1.put lb o1) G3) (hO:OwR rowF G1.nx G3 v2 L) (o2:GObj) :
  PW (Ow2 own tag tg) own G (grown own1 G1 tag) (G3.put lb o2) m s' ∧ LkF (grown own1 G1 tag) tag t (G3.put lb o2) lb k ∧ LkV (grown own1 G1 tag) tag (G3.put lb o2) lb k v2 L ∧ (∀ g,g < G1.nx → g ≠ lb → (G3.put lb o2).obj g = G1.obj g) ∧ G1.nx ≤ G3.nx:=by
 have n3:G1.nx ≤ G3.nx:=x3.nx
 have ag:Agr own1 (grown own1 G1 tag) G1:=grown_agr
 have al:=hF1.al
 have w1:=w.put (.inl (.inl rfl)) (fun _=>by rw [al.tag]; exact ht) o1
 have w2:=w1.extT x3 tag
 have w3:PW (Bq own tg lb pb) own G (grown own1 G1 tag) (G3.put lb o2) m s':=PW.put (G1:=G3) w2 (.inl (.inl rfl)) (fun _=>by rw [show grown own1 (G1.put lb o1) tag lb = own1 lb from ag lb al.lt,al.tag]; exact ht) o2
 have kp:∀ g,g < G1.nx → g ≠ lb → (G3.put lb o2).obj g = G1.obj g:=fun g hg hne=>by rw [obj_put,if_neg hne,x3.obj g hg,obj_put,if_neg hne]
 obtain ⟨n1,n2,_,n4,n5,n6,n7⟩:=hF1.nd
 refine ⟨w3.mono fun y _ hy=>Bq_le hF hp y hy,hF1.to n3 ag fun g hg=>?_,⟨(hO.is).kept (Nat.le_refl _) fun g hg=>?_,fun g hg=>⟨grown_new (hO.from hg),fun hk=>?_⟩⟩,kp,n3⟩
 ·simp at hg
  rcases hg with e | e | e | e
  ·rw [e]; exact kp _ (hF1.at_ _ (by simp)).lt (by omega)
  ·rw [e]; exact kp _ (hF1.at_ _ (by simp)).lt (by omega)
  ·rw [e]; exact kp _ (hF1.at_ _ (by simp)).lt (by omega)
  ·rw [e]; exact kp _ (hF1.at_ _ (by simp)).lt (by omega)
 ·have:=hO.from hg
  have:=al.lt
  rw [obj_put,if_neg (by omega)]
 ·have:=hO.from hg
  have:=(hF1.at_ g hk).lt
  omega
theorem lkwork_ok (hto:orc 236 = false) (hs:t.sound) (hlo:t.lok) (hc:0 ≤ c ∧ c < t.u11) (h:PM own G m s) (hm:s.ok) (hx:x.ok t) (hne:x.line ≠ 9) (ht:tag ≠ 10) (h10:tg ≠ 10) (htg:tag ≠ tg) (hl:LkP own tag tg t c G lb x) :
  ∃ own1 G1,(E orc).cl 102 [P0 lb,P0 m] G = some (.bool (decide ((x.step t c s).1.line = 9)),G1) ∧ PW (Ow2 own tag tg) own G own1 G1 m (x.step t c s).2 ∧ LkP own1 tag tg t c G1 lb (x.step t c s).1:=by
 obtain ⟨k,v,p,L,hF,ho,hV,hL⟩:=hl
 obtain ⟨n1,n2,n3,n4,n5,n6,n7⟩:=hF.nd
 rcases hL with ⟨e,rfl,hpk,⟨now,md,op,hq⟩,op2,op3⟩ | ⟨e,rfl,⟨now,md,op,hq⟩,op3⟩ | ⟨e,rfl,op3⟩ | ⟨e,-⟩
 ·obtain ⟨b,o,cap,v1,hve,hc0,h1,hs1,hin⟩:=wfirst_ok hV.sl
  obtain ⟨G0,hG0⟩:∃ G0,G0 = G.put lb (lkB t c p v1 x.by_ x.sk x.sj x.se):=⟨_,rfl⟩
  have w0:PW (Bq own tg lb k.p1) own G own G0 m s:=by rw [hG0]; exact (PW.refl h).put (.inl (.inl rfl)) (fun _=>by rw [hF.al.tag]; exact ht) _
  have hF0:LkF own tag t G0 lb k:=by rw [hG0]; exact hF.put _
  have hV0:LkV own tag G0 lb k v1 [rf2 k,rf3 k]:=by rw [hG0]; exact LkV.put ⟨hs1,fun g hg=>hV.inb g (hin g hg)⟩ _
  have k0:∀ g,g ≠ lb → G0.obj g = G.obj g:=fun g hg=>by rw [hG0,obj_put,if_neg hg]
  have ol0:G0.obj lb = some (lkB t c p v1 x.by_ x.sk x.sj x.se):=by rw [hG0]; simp
  have hq0:PnQ own tg t c G0 now md x.pin:=hq.to (by rw [hG0]; exact Nat.le_refl _) (fun g _ hg=>k0 g fun k=>htg (by rw [← hg,k,hF.al.tag])) (Agr.refl _ _)
  obtain ⟨own1,G1,p1,q,e1,w1,k1,op1,ol1⟩:=runPin_ok orc hc w0.pm hm hx.pin h10 htg ht (hF0.at_ k.p1 (by simp)) hF0.al (hF0.at_ k.w1 (by simp)) (by omega) (by omega) (by omega) ((k0 _ (by omega)).trans op) ol0 hF0.ow1 hq0
  have hst:x.step t c s = ({ x with by_:=0,pin:=(x.pin.step t c s).1,line:=if (x.pin.step t c s).1.line = 9 then 4 else 1 },(x.pin.step t c s).2):=by unfold LkS.step; rw [if_pos e]
  rw [hst]
  simp only
  generalize (x.pin.step t c s).2 = s' at *
  generalize (x.pin.step t c s).1 = y' at *
  have hp:k.p1 ∈ [k.p1,k.p2,k.p3]:=by simp
  have hF1:=hF0.run hp ht htg w1
  have hV1:=hV0.run hp ht htg w1
  have o2:=(kept_run hF0 (g:=k.p2) (by simp) (by omega) ht htg w1).trans ((k0 _ (by omega)).trans op2)
  have o3:=(kept_run hF0 (g:=k.p3) (by simp) (by omega) ht htg w1).trans ((k0 _ (by omega)).trans op3)
  have w01:PW (Bq own tg lb k.p1) own G own1 G1 m s':=w0.trans w1 fun _ _ h=>h
  rw [hG0] at e1
  rw [← inv_r1] at e1
  by_cases hl:y'.line = 9
  ·simp only [hl,decide_true,if_true] at e1 ⊢
   have e2:=wdone_ok orc hV.sl ho h1 hV1.sl (by simp) e1 ol1
   obtain ⟨f1,f2,f3⟩:=fin_done hF hp ht w01 hF1 hV1 (lkB t c p1 v1 0 x.sk x.sj x.se)
   refine ⟨own1,_,e2,f1,k,v1,p1,_,f2,?_,f3,.inr (.inl ⟨rfl,rfl,⟨.pointer none,false,?_,.inl ⟨rfl,hpk⟩⟩,?_⟩)⟩
   ·simp [LkS.sk,LkS.sj,LkS.se,e]
   ·rw [obj_put,if_neg (by omega)]; exact o2
   ·rw [obj_put,if_neg (by omega)]; exact o3
  ·simp only [hl,decide_false,if_false] at e1 ⊢
   obtain ⟨v2,G3,e2,x3,hO⟩:=wmore_ok orc hV.sl ho h1 hV1.sl (fun hi=>(hV1.inb _ hi).2 (by simp)) hF1.al.lt (by simp) e1 ol1
   obtain ⟨f1,f2,f3,f4,f5⟩:=fin_more hF hp ht w01 hF1 x3 hO (lkB t c p1 v2 0 x.sk x.sj x.se)
   have hql:q ≠ lb:=fun k=>by have:=k1.1.tag; rw [k,hF1.al.tag] at this; exact htg this
   refine ⟨_,_,e2,f1,k,v2,p1,_,f2,?_,f3,.inl ⟨rfl,rfl,hpk,⟨P0 q,true,(f4 _ (hF1.at_ k.p1 (by simp)).lt (by omega)).trans op1,.inr ⟨rfl,q,rfl,k1.1.to f5 grown_agr,(f4 q k1.1.lt hql).trans k1.2⟩⟩,(f4 _ (hF1.at_ k.p2 (by simp)).lt (by omega)).trans o2,(f4 _ (hF1.at_ k.p3 (by simp)).lt (by omega)).trans o3⟩⟩
   simp [LkS.sk,LkS.sj,LkS.se,e]
 ·obtain ⟨b,o,cap,v1,hve,hc0,h1,hs1,hin⟩:=wfirst_ok hV.sl
  obtain ⟨G0,hG0⟩:∃ G0,G0 = G.put lb (lkB t c p v1 x.by_ x.sk x.sj x.se):=⟨_,rfl⟩
  have w0:PW (Bq own tg lb k.p2) own G own G0 m s:=by rw [hG0]; exact (PW.refl h).put (.inl (.inl rfl)) (fun _=>by rw [hF.al.tag]; exact ht) _
  have hF0:LkF own tag t G0 lb k:=by rw [hG0]; exact hF.put _
  have hV0:LkV own tag G0 lb k v1 [rf3 k]:=by rw [hG0]; exact LkV.put ⟨hs1,fun g hg=>hV.inb g (hin g hg)⟩ _
  have k0:∀ g,g ≠ lb → G0.obj g = G.obj g:=fun g hg=>by rw [hG0,obj_put,if_neg hg]
  have ol0:G0.obj lb = some (lkB t c p v1 x.by_ x.sk x.sj x.se):=by rw [hG0]; simp
  have hq0:PkQ own tg t G0 now md x.peek:=hq.to (by rw [hG0]; exact Nat.le_refl _) (fun g _ hg=>k0 g fun k=>htg (by rw [← hg,k,hF.al.tag])) (Agr.refl _ _)
  obtain ⟨own1,G1,q,e1,w1,k1,op1,ol1⟩:=runPeek_ok orc hto hs hlo w0.pm hm hx.peek h10 htg ht (hF0.at_ k.p2 (by simp)) hF0.al (hF0.at_ k.xb (by simp)) (hF0.at_ k.tb (by simp)) (by omega) (by omega) (by omega) ((k0 _ (by omega)).trans op) ol0 hF0.oxb hF0.otb hq0
  have hst:x.step t c s = ({ x with peek:=(x.peek.step true t s).1,by_:=(x.peek.step true t s).1.by_,line:=if (x.peek.step true t s).1.line = 99 then 5 else 4 },(x.peek.step true t s).2):=by unfold LkS.step; rw [if_neg (by omega),if_pos e]
  rw [hst]
  simp only
  generalize (x.peek.step true t s).2 = s' at *
  generalize (x.peek.step true t s).1 = y' at *
  have hp:k.p2 ∈ [k.p1,k.p2,k.p3]:=by simp
  have hF1:=hF0.run hp ht htg w1
  have hV1:=hV0.run hp ht htg w1
  have o3:=(kept_run hF0 (g:=k.p3) (by simp) (by omega) ht htg w1).trans ((k0 _ (by omega)).trans op3)
  have w01:PW (Bq own tg lb k.p2) own G own1 G1 m s':=w0.trans w1 fun _ _ h=>h
  rw [hG0] at e1
  rw [← inv_r2] at e1
  by_cases hl:y'.line = 99
  ·simp only [hl,decide_true,if_true] at e1 ol1 ⊢
   have e2:=wdone_ok orc hV.sl ho h1 hV1.sl (by simp) e1 ol1
   obtain ⟨f1,f2,f3⟩:=fin_done hF hp ht w01 hF1 hV1 (lkB t c p v1 y'.by_ y'.ik y'.ij y'.ie)
   refine ⟨own1,_,e2,f1,k,v1,p,_,f2,?_,f3,.inr (.inr (.inl ⟨rfl,rfl,?_⟩))⟩
   ·simp [LkS.sk,LkS.sj,LkS.se]
   ·rw [obj_put,if_neg (by omega)]; exact o3
  ·simp only [hl,decide_false,if_false] at e1 ol1 ⊢
   obtain ⟨v2,G3,e2,x3,hO⟩:=wmore_ok orc hV.sl ho h1 hV1.sl (fun hi=>(hV1.inb _ hi).2 (by simp)) hF1.al.lt (by simp) e1 ol1
   obtain ⟨f1,f2,f3,f4,f5⟩:=fin_more hF hp ht w01 hF1 x3 hO (lkB t c p v2 y'.by_ x.sk x.sj x.se)
   have hql:q ≠ lb:=fun k=>by have:=k1.1.tag; rw [k,hF1.al.tag] at this; exact htg this
   refine ⟨_,_,e2,f1,k,v2,p,_,f2,?_,f3,.inr (.inl ⟨rfl,rfl,⟨P0 q,true,(f4 _ (hF1.at_ k.p2 (by simp)).lt (by omega)).trans op1,.inr ⟨rfl,q,rfl,k1.1.to f5 grown_agr,(f4 q k1.1.lt hql).trans k1.2⟩⟩,(f4 _ (hF1.at_ k.p3 (by simp)).lt (by omega)).trans o3⟩)⟩
   simp [LkS.sk,LkS.sj,LkS.se,e]
 ·obtain ⟨b,o,cap,v1,hve,hc0,h1,hs1,hin⟩:=wfirst_ok hV.sl
  obtain ⟨G0,hG0⟩:∃ G0,G0 = G.put lb (lkB t c p v1 x.by_ x.sk x.sj x.se):=⟨_,rfl⟩
  have w0:PW (Bq own tg lb k.p3) own G own G0 m s:=by rw [hG0]; exact (PW.refl h).put (.inl (.inl rfl)) (fun _=>by rw [hF.al.tag]; exact ht) _
  have hF0:LkF own tag t G0 lb k:=by rw [hG0]; exact hF.put _
  have hV0:LkV own tag G0 lb k v1 []:=by rw [hG0]; exact LkV.put ⟨hs1,fun g hg=>hV.inb g (hin g hg)⟩ _
  have k0:∀ g,g ≠ lb → G0.obj g = G.obj g:=fun g hg=>by rw [hG0,obj_put,if_neg hg]
  have ol0:G0.obj lb = some (lkB t c p v1 x.by_ x.sk x.sj x.se):=by rw [hG0]; simp
  obtain ⟨own1,G1,e1,w1,ol1⟩:=runUnpin_ok orc hc w0.pm h10 htg ht (hF0.at_ k.p3 (by simp)) hF0.al (hF0.at_ k.w3 (by simp)) (by omega) (by omega) (by omega) ((k0 _ (by omega)).trans op3) ol0 hF0.ow3
  have hst:x.step t c s = ({ x with by_:=0,line:=9 },unS t c s):=by unfold LkS.step; rw [if_neg (by omega),if_neg (by omega),if_pos e]
  rw [hst]
  simp only
  have hp:k.p3 ∈ [k.p1,k.p2,k.p3]:=by simp
  have hF1:=hF0.run hp ht htg w1
  have hV1:=hV0.run hp ht htg w1
  have w01:PW (Bq own tg lb k.p3) own G own1 G1 m (unS t c s):=w0.trans w1 fun _ _ h=>h
  rw [hG0] at e1
  rw [← inv_r3] at e1
  have e2:=wdone_ok orc hV.sl ho h1 hV1.sl (by simp) e1 ol1
  obtain ⟨f1,f2,f3⟩:=fin_done hF hp ht w01 hF1 hV1 (lkB t c p v1 0 x.sk x.sj x.se)
  refine ⟨own1,_,by simpa using e2,f1,k,v1,p,_,f2,?_,f3,.inr (.inr (.inr ⟨rfl,rfl⟩))⟩
  simp [LkS.sk,LkS.sj,LkS.se,e]
 ·exact absurd e hne
theorem lkstep_ok (hto:orc 236 = false) (hs:t.sound) (hlo:t.lok) (hc:0 ≤ c ∧ c < t.u11) (h:PM own G m s) (hm:s.ok) (hx:x.ok t) (hne:x.line ≠ 9) (ht:tag ≠ 10) (h10:tg ≠ 10) (htg:tag ≠ tg) (hl:LkP own tag tg t c G lb x) :
  ∃ own1 G1,(E orc).cl 112 [P0 lb,P0 m] G = some (.bool (decide ((x.step t c s).1.line = 9)),G1) ∧ PW (Ow2 own tag tg) own G own1 G1 m (x.step t c s).2 ∧ LkP own1 tag tg t c G1 lb (x.step t c s).1:=by
 obtain ⟨own1,G1,e,k⟩:=lkwork_ok orc hto hs hlo hc h hm hx hne ht h10 htg hl
 exact ⟨own1,G1,f112 (exL_ok Q orc) _ _ G _ (by simp [s112,e]),k⟩
end
section
variable {own own' own0 own1 own2:Nat → Nat} {tag tg m r b lb q pb:Nat} {t:TW} {c p p' by_ by' ik ij ie ik' ij' ie':Int} {v v1 v2:Value} {G G' G1 G2 G3 G18:GS} {s s' s1:MS} {x:LkS}
theorem wtold_ok {n:Nat} {a:Option Addr} {cp:Nat} (ho:G.obj lb = some (lkB t c p (.slice a n cp) by_ ik ij ie)):(E orc).cl 103 [P0 lb] G = some (.int .i64 (if n = 0 then 0 else 14),G):=by
 refine f103 (exL_ok Q orc) _ G _ ?_
 by_cases hn:n = 0
 ·simp [s103,ho,hn]
 ·have:0 < n:=by omega
  simp [s103,ho,hn,this]
theorem lkItem0 {n:Nat} {a:Option Addr} {cp:Nat} (hlb:lb < G.nx) (ho:G.obj lb = some (lkB t c p (.slice a n cp) by_ ik ij ie)) :
  ∃ G',(E orc).cl 66 [P0 lb] G = some (.tuple #[if n = 0 then itemV ik ij else itemV 0 0,.int .i64 (if n = 0 then ie else 14)],G') ∧ Ext G G':=by
 obtain ⟨G1,hG1⟩:∃ G1,G1 = (G.push ⟨z120,1,false,1⟩).room 12:=⟨_,rfl⟩
 have x1:Ext G G1:=by rw [hG1]; exact ((Ext.refl G).push _).room 12
 have n1:G1.nx = G.nx + 13:=by rw [hG1]; simp
 have o1:=(x1.obj lb hlb).trans ho
 have p1:G1.obj G.nx = some ⟨z120,1,false,1⟩:=by rw [hG1]; simp
 have hz:z120 = [.int .u64 0,.int .i64 0]:=rfl
 obtain ⟨G2,hG2⟩:∃ G2,G2 = (G1.push ⟨[.int .u64 ik,.int .i64 ij,.int .i64 ie],1,false,1⟩).push ⟨z120,1,false,1⟩:=⟨_,rfl⟩
 have x2:Ext G1 G2:=by rw [hG2]; exact ((Ext.refl _).push _).push _
 have o2:=(x2.obj lb (by omega)).trans o1
 have e2:=wtold_ok orc o2
 have w:Wp (s66 true (exL Q orc) (P0 lb) G) fun r=>r.1 = .tuple #[if n = 0 then itemV ik ij else itemV 0 0,.int .i64 (if n = 0 then ie else 14)] ∧ Ext G r.2:=by
  by_cases hn:n = 0
  ·have e3:(E orc).cl 111 [.agg ⟨[.int .u64 ik,.int .i64 ij,.int .i64 ie]⟩,P0 lb] G1 = some (.tuple #[itemV ik ij,.int .i64 ie],(G2.room 6).put (G1.nx + 1) ⟨[.int .u64 ik,.int .i64 ij],1,false,1⟩):=by
    refine f111 (exL_ok Q orc) _ _ _ _ ?_
    have q1:G2.obj G1.nx = some ⟨[.int .u64 ik,.int .i64 ij,.int .i64 ie],1,false,1⟩:=by rw [hG2]; simp
    have q2:G2.obj (G1.nx + 1) = some ⟨z120,1,false,1⟩:=by rw [hG2]; simp
    simp [hn] at e2
    unfold itemV
    simp [s111,← hG2,e2,q1,q2,hz,splice_put,splice_end,sameO,same,sameD]
   have n2:=x2.nx
   have p2:((G2.room 6).put (G1.nx + 1) ⟨[.int .u64 ik,.int .i64 ij],1,false,1⟩).obj G.nx = some ⟨z120,1,false,1⟩:=by
    rw [obj_put,if_neg (by omega)]
    simpa using (x2.obj G.nx (by omega)).trans p1
   have y:Ext G ((G2.room 6).put (G1.nx + 1) ⟨[.int .u64 ik,.int .i64 ij],1,false,1⟩):=((x1.trans x2).room 6).put (by omega) _
   generalize (G2.room 6).put (G1.nx + 1) ⟨[.int .u64 ik,.int .i64 ij],1,false,1⟩ = G3 at *
   unfold itemV at *
   simp [s66,← hG1,o1,e3,p2,hz,hn,splice_put,splice_end]
   exact y.put (Nat.le_refl _) _
  ·have e3:(E orc).cl 111 [.agg ⟨[.int .u64 ik,.int .i64 ij,.int .i64 ie]⟩,P0 lb] G1 = some (.tuple #[itemV 0 0,.int .i64 14],G2.put (G1.nx + 1) ⟨[.int .u64 0,.int .i64 0],1,false,1⟩):=by
    refine f111 (exL_ok Q orc) _ _ _ _ ?_
    have q2:G2.obj (G1.nx + 1) = some ⟨z120,1,false,1⟩:=by rw [hG2]; simp
    simp [hn] at e2
    unfold itemV
    simp [s111,← hG2,e2,q2,hz,splice_put,splice_end]
   have n2:=x2.nx
   have p2:(G2.put (G1.nx + 1) ⟨[.int .u64 0,.int .i64 0],1,false,1⟩).obj G.nx = some ⟨z120,1,false,1⟩:=by
    rw [obj_put,if_neg (by omega)]
    exact (x2.obj G.nx (by omega)).trans p1
   have y:Ext G (G2.put (G1.nx + 1) ⟨[.int .u64 0,.int .i64 0],1,false,1⟩):=(x1.trans x2).put (by omega) _
   generalize G2.put (G1.nx + 1) ⟨[.int .u64 0,.int .i64 0],1,false,1⟩ = G3 at *
   unfold itemV at *
   simp [s66,← hG1,o1,e3,p2,hz,hn,splice_put,splice_end]
   exact y.put (Nat.le_refl _) _
 obtain ⟨⟨v,G'⟩,e1,rfl,e3⟩:=w
 exact ⟨G',f66 (exL_ok Q orc) _ G _ e1,e3⟩
theorem lkItem_ok (h:LkP own tag tg t c G lb x) (h9:x.line = 9):∃ G',(E orc).cl 66 [P0 lb] G = some (.tuple #[itemV x.peek.ik x.peek.ij,.int .i64 x.peek.ie],G') ∧ Ext G G':=by
 obtain ⟨k,v,p,L,hF,ho,hV,hL⟩:=h
 have hL0:L = []:=by
  rcases hL with ⟨e,_⟩ | ⟨e,_⟩ | ⟨e,_⟩ | ⟨_,e⟩
  ·omega
  ·omega
  ·omega
  ·exact e
 subst hL0
 obtain ⟨a,cp,rfl⟩:=hV.sl.len
 obtain ⟨G',e,x⟩:=lkItem0 orc hF.al.lt ho
 simp [LkS.sk,LkS.sj,LkS.se,h9] at e
 exact ⟨G',e,x⟩
def LkS.new (t:TW):LkS:=⟨1,.new,ClS.new t,0⟩
theorem LkS.new_ok (hs:t.sound):(LkS.new t).ok t:=⟨.inl rfl,PnS.new_ok,ClS.new_ok hs,U_zero'⟩
abbrev wkV (t:TW) (c er:Int):Value:=.agg ⟨[.int .i64 t.nodes,.int .i64 t.heads,.int .i64 t.height,.int .i64 t.top,.int .i64 t.links,.int .i64 t.size,.int .i64 t.u6,.int .i64 t.u7,.int .i64 t.u8,.int .i64 t.u9,.int .i64 t.u10,.int .i64 t.u11,.int .i64 t.u12,.int .i64 c,.bool true,.int .i64 0,.slice none 0 0,.int .u64 0,.int .i64 er]⟩
theorem begun_ok (hs:t.sound) (h0:0 ≤ atI t 0 0) (c:Int) (G:GS):∃ G',(E orc).cl 99 [t.v,.int .i64 c] G = some (wkV t c (if c < 0 ∨ t.u11 ≤ c then 3 else 0),G') ∧ Ext G G':=by
 obtain ⟨W0,hW0⟩:∃ W0:GObj,W0 = ⟨[.int .i64 t.nodes,.int .i64 t.heads,.int .i64 t.height,.int .i64 t.top,.int .i64 t.links,.int .i64 t.size,.int .i64 t.u6,.int .i64 t.u7,.int .i64 t.u8,.int .i64 t.u9,.int .i64 t.u10,.int .i64 t.u11,.int .i64 t.u12,.int .i64 c,.bool true,.int .i64 0,.slice none 0 0,.int .u64 0,.int .i64 0],1,false,1⟩:=⟨_,rfl⟩
 obtain ⟨G1,hG1⟩:∃ G1,G1 = (((G.push ⟨t.cells,1,false,1⟩).push ⟨z166,1,false,1⟩).push ⟨z166,1,false,1⟩).put (G.nx + 2) W0:=⟨_,rfl⟩
 have x1:Ext G G1:=by rw [hG1]; exact ((((Ext.refl G).push _).push _).push _).put (by omega) _
 have n1:G1.nx = G.nx + 3:=by rw [hG1]; rfl
 have o1:G1.obj G.nx = some ⟨t.cells,1,false,1⟩:=by rw [hG1]; simp; omega
 have p1:G1.obj (G.nx + 1) = some ⟨z166,1,false,1⟩:=by rw [hG1]; simp
 have q1:G1.obj (G.nx + 2) = some W0:=by rw [hG1]; simp
 obtain ⟨G2,e2,x2⟩:=tat_ok orc t 0 0 G1
 have o2:=(x2.obj G.nx (by omega)).trans o1
 have p2:=(x2.obj (G.nx + 1) (by omega)).trans p1
 have q2:=(x2.obj (G.nx + 2) (by omega)).trans q1
 have y2:=x1.trans x2
 have hz:z166 = [.int .i64 0,.int .i64 0,.int .i64 0,.int .i64 0,.int .i64 0,.int .i64 0,.int .i64 0,.int .i64 0,.int .i64 0,.int .i64 0,.int .i64 0,.int .i64 0,.int .i64 0,.int .i64 0,.bool false,.int .i64 0,.slice none 0 0,.int .u64 0,.int .i64 0]:=rfl
 have hh:¬ atI t 0 0 < 0:=by omega
 have hne:¬ G.nx = G.nx + 1 + 1:=by omega
 subst hW0
 have w:Wp (s99 true (exL Q orc) t.v (.int .i64 c) G) fun r=>r.1 = wkV t c (if c < 0 ∨ t.u11 ≤ c then 3 else 0) ∧ Ext G r.2:=by
  by_cases c1:c < 0
  ·simp [s99,hz,hne,splice_put,splice_end,splice_succ]
   rw [hz] at hG1 p2
   rw [← hG1]
   simp [e2,hh,c1,q2,p2,splice_put,splice_end,splice_succ]
   refine (y2.put ?_ _).put ?_ _ <;> omega
  ·by_cases c2:t.u11 ≤ c
   ·simp [s99,hz,hne,splice_put,splice_end,splice_succ]
    rw [hz] at hG1 p2
    rw [← hG1]
    simp [e2,hh,c1,c2,o2,q2,p2,splice_put,splice_end,splice_succ]
    refine (y2.put ?_ _).put ?_ _ <;> omega
   ·simp [s99,hz,hne,splice_put,splice_end,splice_succ]
    rw [hz] at hG1 p2
    rw [← hG1]
    simp [e2,hh,c1,c2,o2,q2,p2,splice_put,splice_end,splice_succ]
    refine y2.put ?_ _
    omega
 obtain ⟨⟨v,G'⟩,e1,rfl,e3⟩:=w
 exact ⟨G',f99 (exL_ok Q orc) _ _ G _ e1,e3⟩
end
section
variable {own own' own0 own1 own2:Nat → Nat} {tag tg m r b lb q pb:Nat} {t:TW} {c p p' by_ by' ik ij ie ik' ij' ie':Int} {v v1 v2:Value} {G G' G1 G2 G3 G18:GS} {s s' s1:MS} {x:LkS}
theorem mkpin_ok (lb:Nat) (G:GS):(E orc).cl 100 [P0 lb] G = some (.iface 220 (P0 (G.nx + 1)),(G.push ⟨[P0 lb],1,false,1⟩).push (paB (cfn 143 G.nx) .nilFunc (cfn 145 G.nx) (.pointer none) false)):=by
 have hz:z229 = [.nilFunc,.nilFunc,.nilFunc,.pointer none,.bool false]:=rfl
 refine f100 (exL_ok Q orc) _ G _ ?_
 simp [s100,hz,splice_put,splice_end,splice_succ]
theorem mkunpin_ok (lb:Nat) (G:GS):(E orc).cl 110 [P0 lb] G = some (.iface 247 (P0 (G.nx + 1)),(G.push ⟨[P0 lb],1,false,1⟩).push (upB G.nx (.pointer none) false)):=by
 have hz:z254 = [.nilFunc,.nilFunc,.nilFunc,.pointer none,.bool false]:=rfl
 refine f110 (exL_ok Q orc) _ G _ ?_
 simp [s110,hz,splice_put,splice_end,splice_succ]
theorem newlook_no (hs:t.sound) (h0:0 ≤ atI t 0 0) (hc:c < 0 ∨ t.u11 ≤ c) (G:GS):∃ lb G',(E orc).cl 65 [t.v,.int .i64 c] G = some (P0 lb,G') ∧ Ext G G' ∧ (G.nx ≤ lb ∧ lb < G'.nx) ∧ ∃ W:Value,True ∧ G'.obj lb = some ⟨[.int .i64 t.nodes,.int .i64 t.heads,.int .i64 t.height,.int .i64 t.top,.int .i64 t.links,.int .i64 t.size,.int .i64 t.u6,.int .i64 t.u7,.int .i64 t.u8,.int .i64 t.u9,.int .i64 t.u10,.int .i64 t.u11,.int .i64 t.u12,.int .i64 c,.bool true,.int .i64 0,.slice none 0 0,.int .u64 0,.int .i64 3,.int .u64 0,.int .i64 0,.int .i64 0],1,false,1⟩:=by
 obtain ⟨G1,hG1⟩:∃ G1,G1 = G.push ⟨t.cells,1,false,1⟩:=⟨_,rfl⟩
 have x1:Ext G G1:=by rw [hG1]; exact (Ext.refl G).push _
 have o1:G1.obj G.nx = some ⟨t.cells,1,false,1⟩:=by rw [hG1]; simp
 obtain ⟨G2,e2,x2⟩:=begun_ok orc hs h0 c G1
 rw [if_pos hc] at e2
 have y2:=x1.trans x2
 have hz:z177 = [.int .i64 0,.int .i64 0,.int .i64 0,.int .i64 0,.int .i64 0,.int .i64 0,.int .i64 0,.int .i64 0,.int .i64 0,.int .i64 0,.int .i64 0,.int .i64 0,.int .i64 0,.int .i64 0,.bool false,.int .i64 0,.slice none 0 0,.int .u64 0,.int .i64 0,.int .u64 0,.int .i64 0,.int .i64 0]:=rfl
 have hz2:z115 = [.pointer none]:=rfl
 refine ⟨G2.nx,_,f65 (exL_ok Q orc) _ _ G _ (by
  simp [s65,← hG1,o1,e2,hz,hz2,splice_put,splice_end,splice_succ]
  rfl),((y2.push _).push _).put (by have:=y2.nx; simp; omega) _,⟨y2.nx,by simp; omega⟩,.pointer none,trivial,by simp⟩
theorem newlook_ok (hs:t.sound) (h0:0 ≤ atI t 0 0) (hc:0 ≤ c ∧ c < t.u11) (G:GS):∃ lb G',(E orc).cl 65 [t.v,.int .i64 c] G = some (P0 lb,G') ∧ Ext G G' ∧ (G.nx ≤ lb ∧ lb < G'.nx) ∧
  ∀ own tag tg,(∀ g,G.nx ≤ g → g < G'.nx → own g = tag) → LkP own tag tg t c G' lb (.new t):=by
 obtain ⟨G1,hG1⟩:∃ G1,G1 = G.push ⟨t.cells,1,false,1⟩:=⟨_,rfl⟩
 have x1:Ext G G1:=by rw [hG1]; exact (Ext.refl G).push _
 have n1:G1.nx = G.nx + 1:=by rw [hG1]; rfl
 have o1:G1.obj G.nx = some ⟨t.cells,1,false,1⟩:=by rw [hG1]; simp
 obtain ⟨G2,e2,x2⟩:=begun_ok orc hs h0 c G1
 rw [if_neg (by omega)] at e2
 have y2:=x1.trans x2
 have n2:=x2.nx
 have o2:=(x2.obj G.nx (by omega)).trans o1
 have hz:z177 = [.int .i64 0,.int .i64 0,.int .i64 0,.int .i64 0,.int .i64 0,.int .i64 0,.int .i64 0,.int .i64 0,.int .i64 0,.int .i64 0,.int .i64 0,.int .i64 0,.int .i64 0,.int .i64 0,.bool false,.int .i64 0,.slice none 0 0,.int .u64 0,.int .i64 0,.int .u64 0,.int .i64 0,.int .i64 0]:=rfl
 have hz2:z115 = [.pointer none]:=rfl
 have hz3:z185 = [.nilFunc,.nilFunc,.nilFunc,.pointer none,.bool false]:=rfl
 have hz4:z171 = [.nilIface]:=rfl
 have hr:rep [Value.nilIface] 3 = [.nilIface,.nilIface,.nilIface]:=rfl
 obtain ⟨N,hN⟩:∃ N,N = G2.nx:=⟨_,rfl⟩
 obtain ⟨G3,hG3⟩:∃ G3,G3 = (((G2.push (lkB t c 0 (.slice none 0 0) 0 0 0 0)).push ⟨[.pointer none],1,false,1⟩).put (N + 1) ⟨[P0 N],1,false,1⟩):=⟨_,rfl⟩
 have x3:Ext G2 G3:=by rw [hG3]; exact (((Ext.refl G2).push _).push _).put (by omega) _
 have n3:G3.nx = N + 2:=by rw [hG3,hN]; rfl
 have ol3:G3.obj N = some (lkB t c 0 (.slice none 0 0) 0 0 0 0):=by rw [hG3,hN]; simp
 have ox3:G3.obj (N + 1) = some ⟨[P0 N],1,false,1⟩:=by rw [hG3]; simp
 obtain ⟨G4,hG4⟩:∃ G4,G4 = ((G3.room 19).push ⟨[P0 N],1,false,1⟩).push (paB (cfn 143 (N + 21)) .nilFunc (cfn 145 (N + 21)) (.pointer none) false):=⟨_,rfl⟩
 have e4:(E orc).cl 100 [P0 N] (G3.room 19) = some (.iface 220 (P0 (N + 22)),G4):=by
  have:=mkpin_ok orc N (G3.room 19)
  rw [hG4]
  simpa [n3] using this
 have x4:Ext G3 G4:=by rw [hG4]; exact (((Ext.refl G3).room 19).push _).push _
 have n4:G4.nx = N + 23:=by rw [hG4]; simp [n3]
 have ow1:G4.obj (N + 21) = some ⟨[P0 N],1,false,1⟩:=by rw [hG4]; simp [n3]
 have op1:G4.obj (N + 22) = some (paB (cfn 143 (N + 21)) .nilFunc (cfn 145 (N + 21)) (.pointer none) false):=by rw [hG4]; simp [n3]
 have ox4:=(x4.obj (N + 1) (by omega)).trans ox3
 obtain ⟨G5,hG5⟩:∃ G5,G5 = ((G4.at' (N + 10)).push (ppB G.nx (N + 1) (.pointer none) false)).back G4:=⟨_,rfl⟩
 have x5:Ext G3 G5:=by rw [hG5]; exact Ext.drawn x4 (by omega) (by omega) _
 have n5:G5.nx = N + 23:=by rw [hG5]; simp [n4]
 have k5:∀ g,g ≠ N + 10 → G5.obj g = G4.obj g:=fun g hg=>by rw [hG5]; simp [hg]
 have op2:G5.obj (N + 10) = some (ppB G.nx (N + 1) (.pointer none) false):=by rw [hG5]; simp
 obtain ⟨G6,hG6⟩:∃ G6,G6 = (G5.push ⟨[P0 N],1,false,1⟩).push (upB (N + 23) (.pointer none) false):=⟨_,rfl⟩
 have e6:(E orc).cl 110 [P0 N] G5 = some (.iface 247 (P0 (N + 24)),G6):=by
  have:=mkunpin_ok orc N G5
  rw [hG6]
  simpa [n5] using this
 have x6:Ext G5 G6:=by rw [hG6]; exact ((Ext.refl G5).push _).push _
 have n6:G6.nx = N + 25:=by rw [hG6]; simp [n5]
 have ow3:G6.obj (N + 23) = some ⟨[P0 N],1,false,1⟩:=by rw [hG6]; simp [n5]
 have op3:G6.obj (N + 24) = some (upB (N + 23) (.pointer none) false):=by rw [hG6]; simp [n5]
 have ox5:G5.obj (N + 1) = some ⟨[P0 N],1,false,1⟩:=(k5 _ (by omega)).trans ox4
 have ox6:=(x6.obj (N + 1) (by omega)).trans ox5
 obtain ⟨G7,hG7⟩:∃ G7,G7 = ((G6.at' (N + 16)).push ⟨rowF.flat [(220,N + 22),(178,N + 10),(247,N + 24)],1,false,1⟩).back G6:=⟨_,rfl⟩
 have x7:Ext G3 G7:=by rw [hG7]; exact Ext.drawn (x5.trans x6) (by omega) (by omega) _
 have n7:G7.nx = N + 25:=by rw [hG7]; simp [n6]
 have k7:∀ g,g ≠ N + 16 → G7.obj g = G6.obj g:=fun g hg=>by rw [hG7]; simp [hg]
 have os7:G7.obj (N + 16) = some ⟨rowF.flat [(220,N + 22),(178,N + 10),(247,N + 24)],1,false,1⟩:=by rw [hG7]; simp
 have ol6:=((x5.trans x6).obj N (by omega)).trans ol3
 have ol7:=(x7.obj N (by omega)).trans ol3
 have ox7:=(x7.obj (N + 1) (by omega)).trans ox3
 obtain ⟨G8,hG8⟩:∃ G8,G8 = G7.put N (lkB t c 0 (.slice (some ⟨N + 16,0,none⟩) 3 3) 0 0 0 0):=⟨_,rfl⟩
 have y7:Ext G G7:=(y2.trans x3).trans x7
 have nG:G.nx + 1 ≤ N:=by rw [hN]; omega
 have x8:Ext G G8:=by rw [hG8]; exact y7.put (by omega) _
 have n8:G8.nx = N + 25:=by rw [hG8]; exact n7
 have k8:∀ g,g ≠ N → G8.obj g = G7.obj g:=fun g hg=>by rw [hG8,obj_put,if_neg hg]
 have ox8:=(k8 (N + 1) (by omega)).trans ox7
 have oxr:(G3.room 19).obj (N + 1) = some ⟨[P0 N],1,false,1⟩:=by simpa using ox3
 have olr:(G3.room 19).obj N = some (lkB t c 0 (.slice none 0 0) 0 0 0 0):=by simpa using ol3
 refine ⟨N,G8,f65 (exL_ok Q orc) _ _ G _ ?_,x8,⟨by omega,by omega⟩,fun own tag tg hown=>?_⟩
 ·have n3':G3.nx + 8 = N + 10:=by omega
  have n3'':G3.nx + 14 = N + 16:=by omega
  rw [RowE.flat_cons,RowE.flat_cons,RowE.flat_one] at hG7
  simp at hG7
  simp [s65,← hG1,o1,e2,hz,hz2,splice_put,splice_end,splice_succ,← hN,← hG3,ox3,ol3,e4,ox4,sameO,same,sameD,hz3,n3',n3'',← hG5,ox5,e6,ox6,hz4,hr,iface_cells,← hG7,ol6,ol7,ox7,← hG8,ox8]
 ·have ha:∀ g,G.nx ≤ g → g < N + 25 → At own tag G8 g:=fun g h1 h2=>⟨by omega,hown g h1 (by omega)⟩
  have t2:G8.obj G.nx = some ⟨t.cells,1,false,1⟩:=by
   rw [k8 _ (by omega),x7.obj _ (by omega),x3.obj _ (by omega)]; exact o2
  have q6:∀ g,g ≠ N → g ≠ N + 16 → G8.obj g = G6.obj g:=fun g h1 h2=>(k8 g h1).trans (k7 g h2)
  have q5:∀ g,g ≠ N → g ≠ N + 16 → g < N + 23 → G8.obj g = G5.obj g:=fun g h1 h2 h3=>(q6 g h1 h2).trans (x6.obj g (by omega))
  refine ⟨⟨N + 22,N + 10,N + 24,N + 21,G.nx,N + 1,N + 23⟩,.slice (some ⟨N + 16,0,none⟩) 3 3,0,[(220,N + 22),(178,N + 10),(247,N + 24)],⟨fun g hg=>?_,⟨by simp; omega,by simp,by simp,by simp,by simp,by simp,by simp⟩,?_,t2,ox8,?_⟩,?_,⟨?_,?_⟩,.inl ⟨rfl,rfl,rfl,⟨.pointer none,false,?_,.inl ⟨rfl,rfl⟩⟩,?_,?_⟩⟩
  ·simp at hg
   rcases hg with e | e | e | e | e | e | e | e <;> (rw [e]; exact ha _ (by omega) (by omega))
  ·exact ((q5 _ (by simp) (by simp) (by simp)).trans (k5 _ (by simp))).trans ow1
  ·exact (q6 _ (by simp) (by simp)).trans ow3
  ·rw [hG8]; simp [LkS.new,LkS.sk,LkS.sj,LkS.se]
  ·refine (SlR.block (e:=rowF) (op:=false) (L:=[(220,N + 22),(178,N + 10),(247,N + 24)]) ?_ (by omega))
   exact (k8 _ (by omega)).trans os7
  ·rintro g ⟨a,n,cc,he,rfl⟩
   cases he
   refine ⟨hown _ (by simp; omega) (by simp; omega),?_⟩
   simp
   omega
  ·exact ((q5 _ (by simp) (by simp) (by simp)).trans (k5 _ (by simp))).trans op1
  ·exact (q5 _ (by simp) (by simp) (by simp)).trans op2
  ·exact (q6 _ (by simp) (by simp)).trans op3
end
end Go.Proofs.YtedmgpchggogpaaGreat.Lift
