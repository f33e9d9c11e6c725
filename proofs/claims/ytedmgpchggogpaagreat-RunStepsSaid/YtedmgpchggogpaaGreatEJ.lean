import Derived.Test.YtedmgpchggogpaaGreatEI
import Derived.Test.YtedmgpchggogpaaGreatGhPS
import Derived.Test.YtedmgpchggogpaaGreatGhPT
import Derived.Test.YtedmgpchggogpaaGreatED
import Derived.Test.YtedmgpchggogpaaGreatEH
import Derived.Test.YtedmgpchggogpaaGreatGhLS
import Derived.Test.YtedmgpchggogpaaGreatEA
set_option linter.unusedVariables false
set_option linter.unusedSimpArgs false
set_option maxRecDepth 20000
namespace Go.Proofs.YtedmgpchggogpaaGreat.Lift
open Go Go.Proofs.YtedmgpchggogpaaGreat.Gh Go.Proofs
variable (orc:FuncId → Bool)
theorem overw_ne {cs:List Value} {i j:Nat} {x:Value} (h:i < j):(overw cs i [x])[j]? = cs[j]?:=by
 unfold overw
 by_cases hl:j < cs.length
 ·rw [List.getElem?_append_right (by simp; omega)]
  simp
  congr 1
  omega
 ·rw [List.getElem?_eq_none (by simp; omega),List.getElem?_eq_none (by omega)]
theorem flatB (L:List Bool):rowsB.flat L = L.map Value.bool:=by
 induction L with
 | nil=>rfl
 | cons a l ih=>rw [RowE.flat_cons,ih]; rfl
theorem sameF_lp (A B:List Bool) (b n c:Nat) (v1:Value) (hn:n = A.length) (hlt:n < 2 ^ 40):∀ (k i:Nat) (s:Bool) (cs:List Value) (op:Bool) (τ:Env) (G:GS),i + k = n → τ 0 = .slice (some ⟨b,0,none⟩) n c → τ 1 = v1 → τ 5 = .bool s → τ 6 = .int .i64 i →
  G.obj b = some ⟨cs,1,op,1⟩ → n ≤ cs.length → (∀ j (h:j < A.length),i ≤ j → cs[j]? = some (.bool A[j])) → SlR rowsB G v1 B → ¬ InB v1 b → (s = true → A.length = B.length) →
  Wp ((exL Q orc).lpx 81 0 τ G) fun r=>r.1 = .exit 0 ∧ ModP (fun g=>g = b) G r.2.2 ∧ r.2.1 5 = .bool (s && decide (A.drop i = B.drop i)):=by
 intro k
 induction k with
 | zero =>
  intro i s cs op τ G hi h0 h1 h5 h6 ho hcl hcs hB hib hs
  have hi':i = A.length:=by omega
  refine Wp.lp (l81_0 (exL_ok Q orc)) ?_
  cases s with
  | false=>simp [b81_0,clip_t,h0,h1,h5,h6,ModP.refl]
  | true =>
   have hd:A.drop i = B.drop i:=by
    rw [hi',List.drop_length,List.drop_of_length_le (by rw [hs rfl]; omega)]
   have hin:¬ i < n:=by omega
   simp [b81_0,clip_t,h0,h1,h5,h6,hd,hin,ModP.refl]
 | succ k ih =>
  intro i s cs op τ G hi h0 h1 h5 h6 ho hcl hcs hB hib hs
  refine Wp.lp (l81_0 (exL_ok Q orc)) ?_
  cases s with
  | false=>simp [b81_0,clip_t,h0,h1,h5,h6,ModP.refl]
  | true =>
   have hl:=hs rfl
   have hin:i < n:=by omega
   have hiA:i < A.length:=by omega
   have hiB:i < B.length:=by omega
   have he:Ext G (G.room 10):=(Ext.refl G).room 10
   have ho1:(G.room 10).obj b = some ⟨cs,1,op,1⟩:=ho
   obtain ⟨b',o',c',e1,_,q1,_⟩:=(hB.ext he).at hiB
   have hc':=q1 0 (by decide)
   simp at hc'
   have hca:=hcs i hiA (Nat.le_refl _)
   have hww:IntKind.wrap .i64 ((i:Int) + 1) = ((i + 1:Nat):Int):=wrap64 (by omega) (by omega)
   have hi0:(0:Int) ≤ i:=by omega
   have hdr:decide (A.drop i = B.drop i) = (decide (A[i] = B[i]) && decide (A.drop (i + 1) = B.drop (i + 1))):=by
    rw [Bool.eq_iff_iff,List.drop_eq_getElem_cons hiA,List.drop_eq_getElem_cons hiB]
    simp only [decide_eq_true_eq,Bool.and_eq_true,List.cons.injEq]
   have hst:storeN 1 b (i * 1) (.bool (!A[i])) (G.room 10) = some ((G.room 10).put b (GObj.over ⟨cs,1,op,1⟩ (i * 1) [.bool (!A[i])])):=by
    simp only [storeN,Value.cells]
    exact wrN_of ho1 rfl rfl (by simp; omega)
   simp only [Nat.mul_one] at hst
   have heq:(decide (A[i] = B[i]):Bool) = (A[i] == B[i]):=by cases A[i] <;> cases B[i] <;> rfl
   rw [hdr]
   simp [-Int.natCast_add,-storeN_s,b81_0,clip_t,h0,h1,h5,h6,e1,hc',hww,hin,hiB,hi0,ho,hca,hst]
   have hne:∀ g,InB v1 g → g ≠ b:=fun g hg e=>hib (e ▸ hg)
   have hB':SlR rowsB ((G.room 10).put b (GObj.over ⟨cs,1,op,1⟩ i [.bool (!A[i])])) v1 B:=(hB.ext he).kept (by simp) fun g hg=>by rw [obj_put,if_neg (hne g hg)]
   refine (ih (i + 1) (A[i] == B[i]) (overw cs i [.bool (!A[i])]) op _ _ (by omega) (by simp [clip_t]) (by simp [clip_t,e1]) (by simp [clip_t]) (by simp [clip_t]) (by simp [GObj.over]) (by simp [overw]; omega) ?_ hB' hib (fun _=>hl)).mono ?_
   ·intro j hj hij
    rw [overw_ne (by omega),hcs j hj (by omega)]
   ·rintro r ⟨q1,q2,q3⟩
    rw [heq]
    exact ⟨q1,⟨by have:=q2.nx; simp at this; omega,fun g hg hx=>(q2.obj g (by simp; omega) hx).trans (by rw [obj_put,if_neg hx]; rfl),q2.nl,fun l hl=>(q2.loop l hl)⟩,q3⟩
theorem sameF_ok {A B:List Bool} {v0 v1:Value} {G:GS} {B0:Nat} (h0:OwR rowsB B0 G v0 A) (h1:SlR rowsB G v1 B) (hd:∀ x,InB v0 x → ¬ InB v1 x) (hlt:A.length < 2 ^ 40) :
  ∃ G',(E orc).cl 81 [v0,v1] G = some (.bool (decide (A = B)),G') ∧ ModP (InB v0) G G':=by
 obtain ⟨a,c,ha⟩:=h1.len
 have l1:∀ t,ln Q true t v1 = some (.int .i64 B.length):=fun t=>by rw [ha]; simp
 have hdd:(decide ((A.length:Int) = (B.length:Int)) && decide (A.drop 0 = B.drop 0)) = decide (A = B):=by
  by_cases h:A = B
  ·simp [h]
  ·simp [h]
 have w:Wp (s81 true (exL Q orc) v0 v1 G) fun r=>r.1 = .bool (decide (A = B)) ∧ ModP (InB v0) G r.2:=by
  obtain ⟨hl,⟨rfl,hz⟩ | ⟨b,op,rfl,_,hb,ho⟩⟩:=h0
  ·have hA:A = []:=List.eq_nil_of_length_eq_zero hz
   subst hA
   simp [s81,l1]
   refine Wp.bE (Wp.lp (l81_0 (exL_ok Q orc)) ?_)
   have hzz:(decide ((0:Int) = (B.length:Int)):Bool) = decide ([] = B):=by cases B <;> simp; omega
   by_cases h:[] = B
   ·subst h
    simp [b81_0,clip_t,ModP.refl]
   ·rw [decide_eq_false h] at hzz
    simp [b81_0,clip_t,ModP.refl,hzz,h]
    exact fun e=>h e.symm
  ·simp [s81,l1]
   refine Wp.bE ((sameF_lp orc A B b A.length A.length v1 rfl hlt A.length 0 (decide ((A.length:Int) = (B.length:Int))) (rowsB.flat A) op _ G (by omega) rfl rfl (by simp) rfl ho (by rw [hl]; simp) ?_ h1 (hd b ⟨_,_,_,rfl,rfl⟩) (fun h=>by simp at h; omega)).mono ?_)
   ·intro j hj _
    rw [flatB,List.getElem?_map,List.getElem?_eq_getElem hj]
    rfl
   rintro ⟨e,τ,G'⟩ ⟨rfl,x,y⟩
   rw [hdd] at y
   simp only at x y
   simp [y]
   exact x.mono fun g hg=>⟨_,_,_,rfl,hg.symm⟩
 obtain ⟨⟨v,G'⟩,e1,rfl,e3⟩:=w
 exact ⟨G',f81 (exL_ok Q orc) _ _ G _ e1,e3⟩
theorem overw_lp (b n c:Nat) (hn:n < 2 ^ 40) (ez:Nat):∀ (k i:Nat) (cs:List Value) (op:Bool) (τ:Env) (G:GS),i + k = n → τ 0 = .slice (some ⟨b,0,none⟩) n c → τ 2 = .int .i64 i →
  G.obj b = some ⟨cs,ez,op,1⟩ → n ≤ cs.length →
  Wp ((exL Q orc).lpx 14 0 τ G) fun r=>r.1 = .exit 0 ∧ ModP (fun g=>g = b) G r.2.2:=by
 intro k
 induction k with
 | zero =>
  intro i cs op τ G hi h0 h2 ho hc
  refine Wp.lp (l14_0 (exL_ok Q orc)) ?_
  have:i = n:=by omega
  simpa [b14_0,clip_t,h0,h2,this] using ModP.refl _ _
 | succ k ih =>
  intro i cs op τ G hi h0 h2 ho hc
  have hlt:i < n:=by omega
  have hw:IntKind.wrap .i64 ((i:Int) + 1) = ((i + 1:Nat):Int):=wrap64 (by omega) (by omega)
  have hi0:(0:Int) ≤ i:=by omega
  have hst:storeN 1 b (i * 1) (.int .u64 7777777) G = some (G.put b (GObj.over ⟨cs,ez,op,1⟩ (i * 1) [.int .u64 7777777])):=by
   simp only [storeN,Value.cells]
   exact wrN_of ho rfl rfl (by simp; omega)
  try simp at hst
  refine Wp.lp (l14_0 (exL_ok Q orc)) ?_
  simp [-Int.natCast_add,b14_0,clip_t,h0,h2,hlt,hw,hi0,hst,fillL,fillC,splice_put,splice_end,splice_succ,Value.cells]
  refine (ih (i + 1) (overw cs (i * 1) [.int .u64 7777777]) op _ _ (by omega) (by simp [clip_t,h0]) (by simp [clip_t]) (by simp [GObj.over]) (by simp [overw]; omega)).mono ?_
  rintro r ⟨q1,q2⟩
  exact ⟨q1,⟨by have:=q2.nx; simpa using this,fun g hg hx=>(q2.obj g (by simpa using hg) hx).trans (by rw [obj_put,if_neg hx]),q2.nl,fun l hl=>(q2.loop l hl)⟩⟩
theorem ov_ok {B:Nat} {G:GS} {v:Value} {L:List Int} (h:OwR (rowsI .u64) B G v L) (hlt:L.length < 2 ^ 40) :
  ∃ G',(E orc).cl 14 [v] G = some (.tuple #[],G') ∧ ModP (InB v) G G':=by
 have w:Wp (s14 true (exL Q orc) v G) fun r=>r.1 = .tuple #[] ∧ ModP (InB v) G r.2:=by
  obtain ⟨hl,⟨rfl,hz⟩ | ⟨b,op,rfl,_,hb,ho⟩⟩:=h
  ·simp [s14]
   refine Wp.bE (Wp.lp (l14_0 (exL_ok Q orc)) ?_)
   simp [b14_0,clip_t,ModP.refl]
  ·simp [s14]
   refine Wp.bE ((overw_lp orc b L.length L.length hlt _ L.length 0 _ op _ G (by omega) (by simp [clip_t]) (by simp [clip_t]) ho (by rw [hl]; simp)).mono ?_)
   rintro ⟨e,τ,G'⟩ ⟨rfl,h6⟩
   simp
   exact h6.mono fun g hg=>⟨_,_,_,rfl,hg.symm⟩
 obtain ⟨⟨v',G'⟩,e1,rfl,e3⟩:=w
 exact ⟨G',f14 (exL_ok Q orc) _ G _ e1,e3⟩
section
variable {m r:Nat} {own:Nat → Nat} {G:GS} {s:MS} {w:RunW}
theorem told1 (hw:w.good) (h:PM own G m s) (hr:RM own G r s) (hm:s.ok) (n:Nat):∃ v1 G1 v2 G2 G3,(E orc).cl 47 [w.v,P0 m] G = some (v1,G1) ∧ (E orc).cl 80 [w.v,P0 r] (G1.room n) = some (v2,G2) ∧
  (E orc).cl 13 [v1,v2] G2 = some (.bool true,G3) ∧ Ext G G1 ∧ Ext G G2 ∧ Ext G G3 ∧ OwR (rowsI .u64) G.nx G3 v1 (rowS s w.runs w.cores.toNat):=by
 have hc:=hw.2.1
 obtain ⟨v1,G1,e1,x1,o1⟩:=xall_ok orc hw h hm
 have y1:Ext G (G1.room n):=x1.room n
 obtain ⟨v2,G2,e2,x2,o2⟩:=rall_ok orc hw (hr.ext y1)
 have y2:=y1.trans x2
 have z2:Ext G1 G2:=((Ext.refl G1).room n).trans x2
 obtain ⟨G3,e3,x3⟩:=same13 orc (o1.ext z2).is o2.is (by simp; omega)
 rw [decide_eq_true rfl] at e3
 exact ⟨v1,G1,v2,G2,G3,e1,e2,e3,x1,y2,y2.trans x3,o1.ext (z2.trans x3)⟩
theorem told2 (hw:w.good) (h:PM own G m s) (hr:RM own G r s) (hm:s.ok):∃ v1 G1 v2 G2 G3,(E orc).cl 82 [w.v,P0 m] G = some (v1,G1) ∧ (E orc).cl 83 [w.v,P0 r] G1 = some (v2,G2) ∧
  (E orc).cl 81 [v1,v2] G2 = some (.bool true,G3) ∧ Ext G G1 ∧ Ext G G2 ∧ Ext G G3:=by
 have hc:=hw.2.1
 obtain ⟨v1,G1,e1,x1,o1⟩:=xflags_ok orc hw h hm
 obtain ⟨v2,G2,e2,x2,o2⟩:=rflags_ok orc hw (hr.ext x1)
 have y2:=x1.trans x2
 have u1:=o1.is.under
 obtain ⟨G3,e3,x3⟩:=sameF_ok orc (o1.ext x2) o2.is (fun x hx hy=>by have:=u1 x hx; have:=o2.from hy; omega) (by simp; omega)
 rw [decide_eq_true rfl] at e3
 exact ⟨v1,G1,v2,G2,G3,e1,e2,e3,x1,y2,x3.tail y2 fun x hx=>o1.from hx⟩
theorem seen_ok (hw:w.good) (h:PM own G m s) (hr:RM own G r s) (hm:s.ok):∃ G',(E orc).cl 33 [w.v,P0 m,P0 r] G = some (.bool true,G') ∧ Ext G G':=by
 have hc:=hw.2.1
 obtain ⟨G1,hG1⟩:∃ G1,G1 = G.push ⟨w.cells,1,false,1⟩:=⟨_,rfl⟩
 have x1:Ext G G1:=by rw [hG1]; exact (Ext.refl G).push _
 have o1:G1.obj G.nx = some ⟨w.cells,1,false,1⟩:=by rw [hG1]; simp
 have n1:G1.nx = G.nx + 1:=by rw [hG1]; rfl
 have hat:∀ {A:GS},Ext G1 A → A.obj G.nx = some ⟨w.cells,1,false,1⟩:=fun x=>(x.obj G.nx (by omega)).trans o1
 have h1:=h.ext x1
 have r1:=hr.ext x1
 obtain ⟨v4,G4,v6,G6,G8,e4,e6,e8,x4,x6,x8,w4⟩:=told1 orc hw h1 r1 hm 15
 obtain ⟨v12,G12,v16,G16,G18,e12,e16,e18,x12,x16,x18⟩:=told2 orc hw (h1.ext x8) (r1.ext x8) hm
 obtain ⟨G22,e22,q22⟩:=ov_ok orc (w4.ext x18) (by simp; omega)
 have x22:Ext G1 G22:=q22.tail (x8.trans x18) fun x hx=>w4.from hx
 have z22:Ext G1 (G22.room 20):=x22.room 20
 obtain ⟨v25,G25,v29,G29,G31,e25,e29,e31,x25,x29,x31,w25⟩:=told1 orc hw (h1.ext z22) (r1.ext z22) hm 0
 have e29:(E orc).cl 80 [w.v,P0 r] G25 = some (v29,G29):=e29
 have z31:=z22.trans x31
 obtain ⟨v36,G36,v40,G40,G42,e36,e40,e42,x36,x40,x42⟩:=told2 orc hw (h1.ext z31) (r1.ext z31) hm
 have o4:=hat (x4.room 15)
 have o8:=hat x8
 have o12:=hat (x8.trans x12)
 have o22:=hat z22
 have o25:=hat (z22.trans x25)
 have o31:=hat z31
 have o36:=hat (z31.trans x36)
 have w':Wp (s33 true (exL Q orc) w.v (P0 m) (P0 r) G) fun q=>q.1 = .bool true ∧ Ext G q.2:=by
  simp [s33,← hG1,o1,e4,o4,e6,e8,o8,e12,o12,e16,e18,e22,o22,e25,o25,e29,e31,o31,e36,o36,e40,e42]
  exact x1.trans (z31.trans x42)
 obtain ⟨⟨v,G'⟩,e1,rfl,k2⟩:=w'
 exact ⟨G',f33 (exL_ok Q orc) _ _ _ G _ e1,k2⟩
end
section
variable {m r:Nat} {own own0:Nat → Nat} {G G0:GS} {s:MS} {t:TW} {w:RunW}
theorem laid_lp {v2:Value} {W:List Int} (hv:SlR (rowsI .u64) G0 v2 W) (hW:W.length < 2 ^ 40) (hi0:∀ x,InB v2 x → own0 x ∉ [10,11]):∀ (k i:Nat) (τ:Env) (G:GS) (own:Nat → Nat) (s:MS),i + k = W.length → τ 3 = v2 → τ 10 = P0 m → τ 12 = P0 r → τ 14 = .int .i64 i →
  Agr own0 own G0 → ModT [10,11] own0 G0 G → PM own G m s → RM own G r s →
  Wp ((exL Q orc).lpx 32 0 τ G) fun q=>q.1 = .exit 0 ∧ q.2.1 10 = P0 m ∧ q.2.1 12 = P0 r ∧ ∃ own'',Agr own0 own'' G0 ∧ ModT [10,11] own0 G0 q.2.2 ∧ PM own'' q.2.2 m (putsN (W.drop i) i s) ∧ RM own'' q.2.2 r (putsN (W.drop i) i s):=by
 intro k
 induction k with
 | zero =>
  intro i τ G own s hi t2 t8 t10 t12 ha hm h h'
  have hi':i = W.length:=by omega
  subst hi'
  obtain ⟨a,c,rfl⟩:=hv.len
  refine Wp.lp (l32_0 (exL_ok Q orc)) ?_
  simp [b32_0,clip_t,t2,t8,t10,t12,putsN]
  exact ⟨own,ha,hm,h,h'⟩
 | succ k ih =>
  intro i τ G own s hi t2 t8 t10 t12 ha hm h h'
  have hlt:i < W.length:=by omega
  have hi0':(0:Int) ≤ i:=by omega
  have hw:IntKind.wrap .i64 ((i:Int) + 1) = ((i + 1:Nat):Int):=wrap64 (by omega) (by omega)
  have kv:∀ {G'},ModT [10,11] own0 G0 G' → SlR (rowsI .u64) G' v2 W:=fun q=>hv.kept q.nx fun g hg=>q.same (hv.under g hg) (hi0 g hg)
  obtain ⟨b,o,c,e0,_,q0,_⟩:=(kv hm).at hlt
  have q1:=q0 0 (by decide)
  simp at q1
  refine Wp.lp (l32_0 (exL_ok Q orc)) ?_
  obtain ⟨own1,G1,e1,w1⟩:=h.store orc i W[i]
  have m1:ModT [10,11] own G G1:=(w1.stp.modT (i:=10) (fun _ _ h=>h.elim)).mono (by simp)
  have hm1:ModT [10,11] own0 G0 G1:=hm.trans ha m1
  have ha1:Agr own0 own1 G0:=ha.trans w1.stp.agr hm.nx
  obtain ⟨b',o',c',e0',_,q0',_⟩:=(kv hm1).at hlt
  have q1':=q0' 0 (by decide)
  rw [e0] at e0'
  cases e0'
  simp at q1'
  have h1':=h'.to w1.stp (by decide) fun _ _ h=>h.elim
  obtain ⟨own2,G2,e2,w2⟩:=h1'.store orc i W[i]
  have m2:ModT [10,11] own1 G1 G2:=(w2.stp.modT (i:=10) (fun _ _ h=>h.elim)).mono (by simp)
  simp [-Int.natCast_add,b32_0,clip_t,t2,t8,t10,t12,e0,hlt,hi0',q1,e1,q1',e2,hw]
  rw [List.drop_eq_getElem_cons hlt]
  exact ih (i + 1) _ G2 own2 _ (by omega) (by simp [clip_t,e0]) (by simp [clip_t]) (by simp [clip_t]) (by simp [clip_t]) (ha1.trans w2.stp.agr hm1.nx) (hm1.trans ha1 m2) (w1.pm.to w2.stp (by decide) fun _ _ h=>h.elim) w2.rm
def laidB (t:TW) (w:RunW) (n:Int) (W:List Int):MS:=putsN W 0 (fillR w w.cores.toNat 0 (fillT t (MS.zero n.toNat)))
theorem laid_ok (ht:orc 236 = false) (hs:t.sound) {n:Int} (hgd:t.good n) (hw:w.good) {v2:Value} {W:List Int} (hv:SlR (rowsI .u64) G v2 W) (hW:W.length < 2 ^ 40) :
  Wp ((E orc).cl 32 [t.v,w.v,.int .i64 n,v2] G) fun q=>∃ m r own,q.1 = .tuple #[P0 m,P0 r] ∧ Ext G q.2 ∧ PM own q.2 m (laidB t w n W) ∧ RM own q.2 r (laidB t w n W) ∧ ∀ x,x < G.nx → own x = 20:=by
 obtain ⟨h1,h2,hA,hlo,hc⟩:=hgd
 refine Wp.ref (f32 (exL_ok Q orc) _ _ _ _ G) ?_
 obtain ⟨G1,hG1⟩:∃ G1,G1 = (G.push ⟨t.cells,1,false,1⟩).push ⟨w.cells,1,false,1⟩:=⟨_,rfl⟩
 have x0:Ext G G1:=by rw [hG1]; exact ((Ext.refl G).push _).push _
 have o1:G1.obj G.nx = some ⟨t.cells,1,false,1⟩:=by rw [hG1]; simp
 have p1:G1.obj (G.nx + 1) = some ⟨w.cells,1,false,1⟩:=by rw [hG1]; simp
 have n1:G1.nx = G.nx + 2:=by rw [hG1]; rfl
 obtain ⟨m,G2,e2,x2,hm⟩:=(new_ok orc n G1).2 h1 h2
 obtain ⟨r,G3,e3,x3,hr⟩:=(rnew_ok orc n G2).2 h1 h2
 have n2:=x2.nx
 have n3:=x3.nx
 have x13:=x2.trans x3
 have o3:=(x13.obj G.nx (by omega)).trans o1
 have p3:=(x13.obj (G.nx + 1) (by omega)).trans p1
 obtain ⟨own0,hown⟩:∃ own0:Nat → Nat,own0 = fun x=>if x < G.nx then 20 else if x < G1.nx then 13 else if x < G2.nx then 10 else 11:=⟨_,rfl⟩
 have hp:PM own0 G3 m (MS.zero n.toNat):=by
  rcases new2 (k:=G.nx) hm hr x2.nx x3 with h | h
  ·rw [hown]; exact h
  ·omega
 have hq:RM own0 G3 r (MS.zero n.toNat):=by rw [hown]; exact new2' hr x2.nx (by omega)
 have t0:own0 G.nx = 13:=by rw [hown]; simp [n1]
 have t1:own0 (G.nx + 1) = 13:=by rw [hown]; simp [n1]
 have t20:∀ x,x < G.nx → own0 x = 20:=fun x hx=>by rw [hown]; simp only; rw [if_pos hx]
 obtain ⟨own4,G4,e4,w4⟩:=tfill_ok orc ht hs hA hc hp
 have ag4:=w4.stp.agr
 have o4:=(w4.keep (show G.nx < G3.nx by omega) (by rw [t0]; decide) id).trans o3
 have p4:=(w4.keep (show G.nx + 1 < G3.nx by omega) (by rw [t1]; decide) id).trans p3
 have hq4:=hq.to w4.stp (by decide) fun _ _ h=>h.elim
 have n4:=w4.nx
 obtain ⟨own5,G5,e5,w5⟩:=r15fill_ok orc hs hA hc hq4
 have p5:=(w5.keep (show G.nx + 1 < G4.nx by omega) (by rw [ag4 _ (by omega),t1]; decide) id).trans p4
 have hp5:=w4.pm.to w5.stp (by decide) fun _ _ h=>h.elim
 have ag5:=ag4.trans w5.stp.agr w4.nx
 have n5:=w5.nx
 obtain ⟨own6,G6,e6,w6⟩:=xfill_ok orc hw hp5
 have p6:=(w6.keep (show G.nx + 1 < G5.nx by omega) (by rw [ag5 _ (by omega),t1]; decide) id).trans p5
 have hq6:=w5.rm.to w6.stp (by decide) fun _ _ h=>h.elim
 have ag6:=ag5.trans w6.stp.agr (Nat.le_trans n4 n5)
 have n6:=w6.nx
 obtain ⟨own7,G7,e7,w7⟩:=rxfill_ok orc hw hq6
 have hp7:=w6.pm.to w7.stp (by decide) fun _ _ h=>h.elim
 have ag7:=ag6.trans w7.stp.agr (Nat.le_trans n4 (Nat.le_trans n5 n6))
 have m4:ModT [10,11] own0 G3 G4:=(w4.stp.modT (i:=10) (fun _ _ h=>h.elim)).mono (by simp)
 have m5:ModT [10,11] own4 G4 G5:=(w5.stp.modT (i:=10) (fun _ _ h=>h.elim)).mono (by simp)
 have m6:ModT [10,11] own5 G5 G6:=(w6.stp.modT (i:=10) (fun _ _ h=>h.elim)).mono (by simp)
 have m7:ModT [10,11] own6 G6 G7:=(w7.stp.modT (i:=10) (fun _ _ h=>h.elim)).mono (by simp)
 have m47:=((m4.trans ag4 m5).trans ag5 m6).trans ag6 m7
 have y:=x0.trans x13
 simp [s32,← hG1,e2,e3,o3,e4,o4,e5,p5,e6,p6,e7]
 refine Wp.bE ((laid_lp orc (G0:=G3) (own0:=own0) (hv.ext y) hW (fun x hx=>by rw [t20 x (hv.under x hx)]; simp) W.length 0 _ G7 own7 _ (by omega) (by simp) (by simp) (by simp) (by simp) ag7 m47 hp7 w7.rm).mono ?_)
 rintro ⟨e,τ,G8⟩ ⟨rfl,q1,q2,own',q3,q4,q5,q6⟩
 simp only at q1 q2 q4 q5 q6
 simp [q1,q2]
 refine ⟨m,r,⟨rfl,rfl⟩,q4.toExt (fun g hg=>by rw [t20 g hg]; simp) y,own',?_,?_,fun x hx=>(q3 x (by omega)).trans (t20 x hx)⟩
 ·simpa [laidB] using q5
 ·simpa [laidB] using q6
end
section
variable {own own' own0 own1 own2:Nat → Nat} {tb tag tg m r b d lb q:Nat} {t:TW} {w:RunW} {c:Int} {G G' G1 G2:GS} {s s' s1:MS} {x:BaS} {v:Value} {L:List Int}
theorem PW.rm3 (w:PW (Ow3 own tb tag tg) own G own1 G1 m s) (h:RM own G r s') (h0:tb ≠ 11) (h1:tag ≠ 11) (h2:tg ≠ 11):RM own1 G1 r s':=h.to w.stp (by decide) fun _ _ k=>k.elim (fun k=>by rw [k]; exact h0) fun k=>k.elim (fun k=>by rw [k]; exact h1) fun k=>by rw [k]; exact h2
theorem RW.pm3 (w:RW (Ow3 own tb tag tg) own G own1 G1 r s) (h:PM own G m s') (h0:tb ≠ 10) (h1:tag ≠ 10) (h2:tg ≠ 10):PM own1 G1 m s':=h.to w.stp (by decide) fun _ _ k=>k.elim (fun k=>by rw [k]; exact h0) fun k=>k.elim (fun k=>by rw [k]; exact h1) fun k=>by rw [k]; exact h2
theorem PW.mt3 (w:PW (Ow3 own tb tag tg) own G own1 G1 m s) {ts:List Nat} (h0:10 ∈ ts) (h1:tb ∈ ts) (h2:tag ∈ ts) (h3:tg ∈ ts):ModT ts own G G1:=ModP.mono w.stp.mod fun x hx=>hx.elim (fun h=>by rw [h]; exact h0) fun h=>h.elim (fun h=>by rw [h]; exact h1) fun h=>h.elim (fun h=>by rw [h]; exact h2) fun h=>by rw [h]; exact h3
theorem RW.mt3 (w:RW (Ow3 own tb tag tg) own G own1 G1 r s) {ts:List Nat} (h0:11 ∈ ts) (h1:tb ∈ ts) (h2:tag ∈ ts) (h3:tg ∈ ts):ModT ts own G G1:=ModP.mono w.stp.mod fun x hx=>hx.elim (fun h=>by rw [h]; exact h0) fun h=>h.elim (fun h=>by rw [h]; exact h1) fun h=>h.elim (fun h=>by rw [h]; exact h2) fun h=>by rw [h]; exact h3
theorem PW.keep3 (w:PW (Ow3 own tb tag tg) own G own1 G1 m s) {g:Nat} (hg:g < G.nx) (h0:own g ≠ 10) (h1:own g ≠ tb) (h2:own g ≠ tag) (h3:own g ≠ tg):G1.obj g = G.obj g:=w.keep hg h0 fun k=>k.elim h1 fun k=>k.elim h2 h3
theorem RW.keep3 (w:RW (Ow3 own tb tag tg) own G own1 G1 r s) {g:Nat} (hg:g < G.nx) (h0:own g ≠ 11) (h1:own g ≠ tb) (h2:own g ≠ tag) (h3:own g ≠ tg):G1.obj g = G.obj g:=w.keep hg h0 fun k=>k.elim h1 fun k=>k.elim h2 h3
theorem BaP.c0 (h:BaP own tb tag tg t w c G b x) (h9:x.line = 9) (c':Int):BaP own tb tag tg t w c' G b x:=by
 obtain ⟨hb,h⟩:=h
 rcases h with ⟨e,lb,h1,h2⟩ | ⟨e,v,h1,h2,h3⟩ | ⟨e,a',k,v,h1,h2⟩ | h
 ·omega
 ·omega
 ·omega
 ·exact ⟨hb,.inr (.inr (.inr h))⟩
theorem BaR.c0 (h:BaR own tb tag tg t w c G b x) (h9:x.line = 9) (c':Int):BaR own tb tag tg t w c' G b x:=by
 obtain ⟨hb,h⟩:=h
 rcases h with ⟨e,h⟩ | h
 ·exact absurd h9 e
 ·exact ⟨hb,.inr h⟩
end
inductive CoreB
 | idle
 | bal (x:BaS) (c:Int) (b d:Nat)
def CoreB.row:CoreB → List Value
 | .idle=>[.pointer none,.pointer none]
 | .bal _ _ b d=>[P0 b,P0 d]
def CoreB.want:CoreB → Option Addr
 | .idle=>none
 | .bal _ _ _ d=>some ⟨d,0,none⟩
def CoreB.V (x:CoreB):Value:=.agg ⟨CoreB.row x⟩
def rowBa:RowE CoreB:=⟨2,CoreB.row,fun x=>by cases x <;> rfl,fun x=>by cases x <;> rfl,by decide⟩
@[simp] theorem rowBa_sz:rowBa.sz = 2:=rfl
def CoreB.ok (t:TW) (w:RunW) (own:Nat → Nat) (G:GS) (i:Nat):CoreB → Prop
 | .idle=>True
 | .bal x c b d=>x.ok t w ∧ x.kp ∧ (0 ≤ c ∧ c < t.u11) ∧ BaP own i (200 + i) (400 + i) t w c G b x ∧ BaR own (100 + i) (300 + i) (500 + i) t w c G d x
def opsBa (t:TW) (w:RunW):Opy CoreB where
 e:=rowBa
 ok:=CoreB.ok t w
 to:=by
  intro own own' G G' i x h hn hk a
  have k1:∀ g,g < G.nx → own g = i ∨ own g = 200 + i ∨ own g = 400 + i → G'.obj g = G.obj g:=fun g hg hi=>hk g hg (by simp; omega)
  have k2:∀ g,g < G.nx → own g = 100 + i ∨ own g = 300 + i ∨ own g = 500 + i → G'.obj g = G.obj g:=fun g hg hi=>hk g hg (by simp; omega)
  cases x with
  | idle=>trivial
  | bal x c b d=>exact ⟨h.1,h.2.1,h.2.2.1,h.2.2.2.1.to hn k1 a,h.2.2.2.2.to hn k2 a⟩
section
variable {own own' own0 own1:Nat → Nat} {m r b c i d cb:Nat} {t:TW} {w:RunW} {G G' G1 B:GS} {s s':MS} {x:BaS} {O:List CoreB} {co:Int}
abbrev tagsOf (i:Nat):List Nat:=[10,11,i,100 + i,200 + i,300 + i,400 + i,500 + i]
theorem coreB_ok (hto:orc 236 = false) (hs:t.sound) (hlo:t.lok) (hw:w.good) (h:RK (opsBa t w) 3 own G m r cb s O) (hl:O[i]? = some (.bal x co b d)) :
  ∃ dn G1 G2 own2 s' x',(E orc).cl 26 [P0 b,P0 m] G = some (.bool dn,G1) ∧ (E orc).cl 36 [P0 d,P0 r] G1 = some (.bool dn,G2) ∧ G1.obj cb = G.obj cb ∧ Agr own own2 G ∧ ModT (tagsOf i) own G G2 ∧ RK (opsBa t w) 3 own2 G2 m r cb s' (O.set i (.bal x' co b d)):=by
 have hi:=h.lt hl
 obtain ⟨hx,hk,hc,hP,hR⟩:=(h.core i _ hl:CoreB.ok t w own G i _)
 obtain ⟨own1,G1,e1,w1,p1⟩:=bstep_ok orc hto hs hlo hc hw h.pm h.ok hx hk (by omega) (by omega) (by omega) (by omega) (by omega) (by omega) hP
 have r1:=w1.rm3 h.rm (by omega) (by omega) (by omega)
 have q1:=hR.to w1.nx (fun g hg hgt=>w1.keep3 hg (by omega) (by omega) (by omega) (by omega)) w1.stp.agr
 obtain ⟨own2,G2,e2,w2,q2⟩:=rbstep_ok orc hs hlo hc hw r1 h.ok hx hk (by omega) (by omega) (by omega) (by omega) (by omega) (by omega) q1
 have p2:=p1.to w2.nx (fun g hg hgt=>w2.keep3 hg (by omega) (by omega) (by omega) (by omega)) w2.stp.agr
 have m1:ModT (tagsOf i) own G G1:=w1.mt3 (by simp) (by simp) (by simp) (by simp)
 have m2:ModT (tagsOf i) own1 G1 G2:=w2.mt3 (by simp) (by simp) (by simp) (by simp)
 have a2:=w1.stp.agr.trans w2.stp.agr w1.nx
 have hst:=hx.step (c:=co) hs hlo h.ok
 refine ⟨_,G1,G2,own2,_,_,e1,e2,w1.keep3 h.lc (by rw [h.tc]; decide) (by rw [h.tc]; omega) (by rw [h.tc]; omega) (by rw [h.tc]; omega),a2,m1.trans w1.stp.agr m2,h.told hl (m1.trans w1.stp.agr m2) a2 (w2.pm3 w1.pm (by omega) (by omega) (by omega)) w2.rm hst.2 (y:=CoreB.bal (x.step t w co s).1 co b d) (show CoreB.ok t w own2 G2 i (.bal (x.step t w co s).1 co b d) from ⟨hst.1,hk.step hx,hc,p2,q2⟩) rfl⟩
end
structure BAct where
 core:Int
 what:Int
 as_:Int
 at_:Int
 w:Int
def rBAct:RowE BAct:=⟨5,fun x=>[.int .i64 x.core,.int .i64 x.what,.int .i64 x.as_,.int .i64 x.at_,.int .u64 x.w],fun _=>rfl,fun _=>rfl,by decide⟩
@[simp] theorem rBAct_sz:rBAct.sz = 5:=rfl
@[simp] theorem rBAct_row (x:BAct):rBAct.row x = [.int .i64 x.core,.int .i64 x.what,.int .i64 x.as_,.int .i64 x.at_,.int .u64 x.w]:=rfl
section
variable {own own' own0:Nat → Nat} {G G' G0 B:GS} {m r cb tb xb i c:Nat} {s s':MS} {t:TW} {w:RunW} {O:List CoreB}
theorem RK.want (h:RK (opsBa t w) 3 own G m r cb s O) (hc:c < O.length):G.cell cb (c * 2 + 1) = some (.pointer O[c].want):=by
 obtain ⟨b,o,cc,e1,_,q,_⟩:=(SlR.block (e:=rowBa) h.oc h.lc).at hc
 cases e1
 have:=q 1 (by decide)
 simp only [rowBa_sz,Nat.zero_add] at this
 rw [this]
 cases O[c] <;> rfl
theorem RK.row (h:RK (opsBa t w) 3 own G m r cb s O) (hc:c < O.length):loadA 2 cb (c * 2) G = some O[c].V:=row_ld (e:=rowBa) h.oc h.lc hc
theorem check_ok {lp:Env → GS → Option (Exit × Env × GS)} {P:Exit × Env × GS → Prop} (hx:Ext B G) (hB:∀ x,x < B.nx → own x = 20) (h:RK (opsBa t w) 3 own G m r cb s O) (hc:c < 3) {τ:Env} (hi:i < 2 ^ 40) {v4:Value}
  (t4:τ 4 = v4) (t5:τ 5 = P0 tb) (t6:τ 6 = P0 xb) (t11:τ 11 = P0 m) (t12:τ 12 = P0 r) (t13:τ 13 = .slice (some ⟨cb,0,none⟩) 3 3) (t14:τ 14 = .int .i64 i) (t15:τ 15 = .int .i64 c)
  (next:∀ (own':Nat → Nat) (τ':Env) (G':GS),Ext B G' → (∀ x,x < B.nx → own' x = 20) → RK (opsBa t w) 3 own' G' m r cb s O → τ' 4 = v4 → τ' 5 = P0 tb → τ' 6 = P0 xb → τ' 11 = P0 m → τ' 12 = P0 r → τ' 13 = .slice (some ⟨cb,0,none⟩) 3 3 → τ' 14 = .int .i64 ((i + 1:Nat):Int) → Wp (lp τ' G') P) :
  Wp (jl6_0_0 true (exL Q orc) lp τ G) P:=by
 have hw:IntKind.wrap .i64 ((i:Int) + 1) = ((i + 1:Nat):Int):=wrap64 (by omega) (by omega)
 have hwl:s.W.length ≤ 4096:=h.ok.2
 have hl:c < O.length:=by rw [h.len]; exact hc
 have hrow:=h.row hl
 have hci:(c:Int) < 3:=by omega
 have hc0:(0:Int) ≤ c:=by omega
 obtain ⟨Ga,hGa⟩:∃ Ga,Ga = ((G.push ⟨z78,1,false,1⟩).put G.nx ⟨CoreB.row O[c],1,false,1⟩).room 30:=⟨_,rfl⟩
 have xa:Ext G Ga:=by rw [hGa]; exact ((((Ext.refl G).push _).put (Nat.le_refl _) _).room 30)
 have oa:Ga.obj G.nx = some ⟨CoreB.row O[c],1,false,1⟩:=by rw [hGa]; simp
 have ha:=h.ext xa
 have hcore:=ha.core c O[c] (List.getElem?_eq_getElem hl)
 obtain ⟨G2,e2,x2⟩:=ha.last orc
 obtain ⟨G3,e3,x3⟩:=(ha.ext x2).rlast orc
 have y3:=x2.trans x3
 have e4:=(ha.ext y3).count orc
 have e5:=(ha.ext y3).rcount orc
 obtain ⟨v4',G4,e6,x4,w4⟩:=(ha.ext y3).words orc
 have y4:=y3.trans x4
 obtain ⟨v5',G5,e7,x5,w5⟩:=(ha.ext y4).rwords orc
 have y5:=y4.trans x5
 obtain ⟨G6,e8,x6⟩:=same13 orc (w4.is.ext x5) w5.is (by omega)
 have y6:=xa.trans (y5.trans x6)
 have h6:=h.ext y6
 have fin:∀ τ':Env,τ' 4 = v4 → τ' 5 = P0 tb → τ' 6 = P0 xb → τ' 11 = P0 m → τ' 12 = P0 r → τ' 13 = .slice (some ⟨cb,0,none⟩) 3 3 → τ' 14 = .int .i64 ((i + 1:Nat):Int) → Wp (lp τ' G6) P:=fun τ'=>next _ τ' G6 (hx.trans y6) (fun x hxx=>(grown_agr x (Nat.lt_of_lt_of_le hxx hx.nx)).trans (hB x hxx)) h6
 generalize O[c] = o at *
 cases o with
 | idle =>
  simp only [CoreB.V,CoreB.row] at hrow oa hGa
  simp [-Int.natCast_add,-loadA_s,jl6_0_0,jbl6_0_0,clip_t,t4,t5,t6,t11,t12,t13,t14,t15,hc,hci,hc0,hrow,splice_put,splice_end,splice_succ,← hGa,e2,e3,acc_neq,e4,e5,e6,e7,e8,hw]
  exact fin _ (by simp [clip_t]) (by simp [clip_t]) (by simp [clip_t]) (by simp [clip_t]) (by simp [clip_t]) (by simp [clip_t]) (by simp [clip_t])
 | bal x co b d =>
  obtain ⟨hxo,hk,_,hP,hR⟩:=(hcore:CoreB.ok t w _ Ga c (.bal x co b d))
  have f1:=bErr_ok orc hxo.line hP
  have f2:=rbErr_ok orc hR
  have f3:=bFlagged_ok orc hP
  have f4:=rbFlagged_ok orc hR
  have f5:=bBy_ok orc hk hP
  have f6:=rbBy_ok orc hk hR
  generalize (if x.line = 9 then x.err else 14) = er at f1 f2
  generalize (if x.line = 9 then x.flag else -1) = fl at f3 f4
  simp only [CoreB.V,CoreB.row] at hrow oa hGa
  simp [-Int.natCast_add,-loadA_s,jl6_0_0,jbl6_0_0,clip_t,t4,t5,t6,t11,t12,t13,t14,t15,hc,hci,hc0,hrow,splice_put,splice_end,splice_succ,← hGa,oa,f1,f2,f3,f4,f5,f6,e2,e3,acc_neq,e4,e5,e6,e7,e8,hw]
  exact fin _ (by simp [clip_t]) (by simp [clip_t]) (by simp [clip_t]) (by simp [clip_t]) (by simp [clip_t]) (by simp [clip_t]) (by simp [clip_t])
end
section
variable {own own' own0:Nat → Nat} {G G' G0 B:GS} {m r cb tb xb i c:Nat} {s s':MS} {t:TW} {w:RunW} {O:List CoreB}
def ownB (own:Nat → Nat) (G G1 G2:GS) (b d lb i:Nat):Nat → Nat:=fun y=>if y < G.nx then own y else if y < G1.nx then 13 else if y < G2.nx then (if y = b then i else 200 + i) else (if y = d then 100 + i else if y = lb then 300 + i else 500 + i)
theorem BaS.new_or (hs:t.sound) (hw:w.good) (c:Int):(if 0 ≤ c ∧ c < t.u11 then BaS.new t else BaS.no t).ok t w ∧ (if 0 ≤ c ∧ c < t.u11 then BaS.new t else BaS.no t).kp:=by
 split
 ·exact ⟨BaS.new_ok hs hw,BaS.new_kp t⟩
 ·exact ⟨BaS.no_ok hs hw,BaS.no_kp t⟩
theorem new26_ok (hs:t.sound) (h0:0 ≤ atI t 0 0) (hu:1 ≤ t.u11) (hw:w.good) (a:Int) (n:Nat) (h:RK (opsBa t w) 3 own G m r cb s O) (hc:c < 3) :
  ∃ b d G2 G3 own' y,(E orc).cl 25 [t.v,w.v,.int .i64 a] (G.room n) = some (P0 b,G2) ∧ (E orc).cl 34 [t.v,w.v,.int .i64 a] G2 = some (P0 d,G3) ∧ Ext (G.room n) G2 ∧ Ext G2 G3 ∧ Agr own own' G ∧
   storeN 2 cb (c * 2) (.agg ⟨[P0 b,P0 d]⟩) G3 = some (G3.put cb ⟨(opsBa t w).e.flat (O.set c y),(opsBa t w).e.sz,false,1⟩) ∧ RK (opsBa t w) 3 own' (G3.put cb ⟨(opsBa t w).e.flat (O.set c y),(opsBa t w).e.sz,false,1⟩) m r cb s (O.set c y):=by
 have hcl:c < O.length:=by rw [h.len]; exact hc
 obtain ⟨b,G2,e2,x2,⟨b1,b2⟩,hP⟩:=newbal_ok (t:=t) (w:=w) orc hs h0 hw a (G.room n)
 obtain ⟨d,lb,G3,e3,x3,⟨d1,d2⟩,hld,hlb,hR⟩:=rnewbal_ok (t:=t) (w:=w) orc hs hw a G2
 have y3:Ext G G3:=(((Ext.refl G).room n).trans x2).trans x3
 have n2:=x2.nx
 have n3:=x3.nx
 have hnn:G.nx ≤ (G.room n).nx:=by simp
 have lc:=h.lc
 obtain ⟨own',hown⟩:∃ own',own' = ownB own G (G.room n) G2 b d lb c:=⟨_,rfl⟩
 have ag:Agr own own' G:=fun y hy=>by rw [hown]; unfold ownB; rw [if_pos hy]
 have tb1:own' b = c:=by rw [hown]; unfold ownB; rw [if_neg (by omega),if_neg (by omega),if_pos (by omega),if_pos rfl]
 have tb2:∀ g,(G.room n).nx ≤ g → g < G2.nx → g ≠ b → own' g = 200 + c:=fun g h1 h2 h3=>by rw [hown]; unfold ownB; rw [if_neg (by omega),if_neg (by omega),if_pos h2,if_neg h3]
 have td1:own' d = 100 + c:=by rw [hown]; unfold ownB; rw [if_neg (by omega),if_neg (by omega),if_neg (by omega),if_pos rfl]
 have tl1:own' lb = 300 + c:=by rw [hown]; unfold ownB; rw [if_neg (by omega),if_neg (by omega),if_neg (by omega),if_neg hld,if_pos rfl]
 have td2:∀ g,G2.nx ≤ g → g < G3.nx → g ≠ d → g ≠ lb → own' g = 500 + c:=fun g h1 h2 h3 h4=>by rw [hown]; unfold ownB; rw [if_neg (by omega),if_neg (by omega),if_neg (by omega),if_neg h3,if_neg h4]
 have tcb:own' cb = 12:=(ag cb lc).trans h.tc
 have p:=hP own' c (200 + c) (400 + c) (by omega) (by omega) tb1 tb2
 have q:=hR own' (100 + c) (300 + c) (500 + c) (by omega) (by omega) td1 tl1 td2
 have ⟨k1,k2⟩:=BaS.new_or (t:=t) (w:=w) hs hw a
 have hx9:¬ (0 ≤ a ∧ a < t.u11) → (if 0 ≤ a ∧ a < t.u11 then BaS.new t else BaS.no t).line = 9:=fun hh=>by rw [if_neg hh]; rfl
 generalize (if 0 ≤ a ∧ a < t.u11 then BaS.new t else BaS.no t) = x at *
 obtain ⟨c',hc',p,q⟩:∃ c',(0 ≤ c' ∧ c' < t.u11) ∧ BaP own' c (200 + c) (400 + c) t w c' G2 b x ∧ BaR own' (100 + c) (300 + c) (500 + c) t w c' G3 d x:=by
  by_cases hh:0 ≤ a ∧ a < t.u11
  ·exact ⟨a,hh,p,q⟩
  ·exact ⟨0,⟨Int.le_refl _,by omega⟩,p.c0 (hx9 hh) 0,q.c0 (hx9 hh) 0⟩
 refine ⟨b,d,G2,G3,own',.bal x c' b d,e2,e3,x2,x3,ag,row_st (e:=rowBa) ((y3.obj cb lc).trans h.oc) hcl (.bal x c' b d),h.begin y3 hc ag ?_⟩
 show CoreB.ok t w own' _ c (.bal x c' b d)
 refine ⟨k1,k2,hc',p.to (by simpa using n3) (fun g hg hgt=>?_) (Agr.refl _ _),q.to (by simp) (fun g hg hgt=>?_) (Agr.refl _ _)⟩
 ·rw [obj_put,if_neg (by rintro rfl; omega)]; exact x3.obj g hg
 ·rw [obj_put,if_neg (by rintro rfl; omega)]
end
end Go.Proofs.YtedmgpchggogpaaGreat.Lift
