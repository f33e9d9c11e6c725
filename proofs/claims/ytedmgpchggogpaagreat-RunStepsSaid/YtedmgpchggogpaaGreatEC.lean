import Derived.Test.YtedmgpchggogpaaGreatEA
import Derived.Test.YtedmgpchggogpaaGreatGhPR
import Derived.Test.YtedmgpchggogpaaGreatGhPC
import Derived.Test.YtedmgpchggogpaaGreatGhPD
import Derived.Test.YtedmgpchggogpaaGreatGhLS
import Derived.Test.YtedmgpchggogpaaGreatGhEQ
set_option linter.unusedVariables false
set_option linter.unusedSimpArgs false
set_option maxRecDepth 20000
namespace Go.Proofs.YtedmgpchggogpaaGreat.Lift
open Go Go.Proofs.YtedmgpchggogpaaGreat.Gh Go.Proofs
variable (orc:FuncId → Bool)
structure Sk where
 top:Int
 links:Int
 size:Int
def Sk.ok (R:Sk):Prop:=1 ≤ R.size ∧ R.size ≤ 4096 ∧ 0 ≤ R.top ∧ R.top < 4096 ∧ 0 ≤ R.links ∧ R.links + R.size ≤ 4096
abbrev hL (R:Sk) (w i j:Int) (made done:Bool) (err:Int) (next:Value):List Value:=[.int .i64 R.top,.int .i64 R.links,.int .i64 R.size,.int .u64 w,.int .i64 i,.int .i64 j,.bool made,.bool done,.int .i64 err,next]
section
variable {m r b:Nat} {own own1:Nat → Nat} {G G1:GS} {s s':MS} {R:Sk} {w i j err:Int} {md dn:Bool} {nx:Value}
end
inductive PopS where
 | go (n:Nat) (w i j:Int)
 | done (i:Int)
section
variable {m r b:Nat} {own own1:Nat → Nat} {G G1:GS} {s s':MS} {R:Sk} {p:PopS}
end
inductive PusS where
 | go (n:Nat) (w i:Int)
 | done (e:Int)
section
variable {m r b:Nat} {own own1:Nat → Nat} {G G1:GS} {s s':MS} {R:Sk} {p:PusS}
end
section
variable {m r b:Nat} {own own1:Nat → Nat} {G G1:GS} {s s':MS} {R:Sk}
end
section
variable {G B:GS} {A:List Int} {v0:Value}
theorem among_lp (hA:SlR (rowsI .i64) G v0 A) (hlen:A.length < 2 ^ 47) (x:Int):∀ (k i:Nat) (τ:Env),i + k = A.length → τ 0 = v0 → τ 1 = .int .i64 x → τ 5 = .int .i64 (i:Int) →
  Wp ((exL Q orc).lpx 92 0 τ G) fun q=>q.2.2 = G ∧ ((q.1 = .exit 0 ∧ x ∉ A.drop i) ∨ (q.1 = .ret ∧ x ∈ A.drop i ∧ q.2.1 4 = .bool true)):=by
 intro k
 induction k with
 | zero =>
  intro i τ hi t0 t1 t5
  have hi':i = A.length:=by omega
  refine Wp.lp (l92_0 (exL_ok Q orc)) ?_
  subst hi'
  obtain ⟨a,c,e0⟩:=hA.len
  simp [b92_0,clip_t,t0,t1,t5,e0]
 | succ k ih =>
  intro i τ hi t0 t1 t5
  have hlt:i < A.length:=by omega
  have hw:IntKind.wrap .i64 ((i:Int) + 1) = ((i + 1:Nat):Int):=wrap64 (by omega) (by omega)
  have h1:(i:Int) < A.length:=by omega
  have h2:(0:Int) ≤ i:=by omega
  obtain ⟨b,o,c,e0,_,q,_⟩:=hA.at hlt
  have q0:=q 0 (by decide)
  simp at q0
  rw [List.drop_eq_getElem_cons hlt]
  generalize A[i] = y at *
  refine Wp.lp (l92_0 (exL_ok Q orc)) ?_
  by_cases hy:y = x
  ·subst hy
   simp [-Int.natCast_add,b92_0,clip_t,t0,t1,t5,e0,h1,h2,hlt,q0,hw]
  ·have hy':¬ x = y:=fun e=>hy e.symm
   simp [-Int.natCast_add,b92_0,clip_t,t0,t1,t5,e0,h1,h2,hlt,q0,hw,hy]
   refine Wp.mono (ih (i + 1) _ (by omega) ?_ ?_ ?_) fun q hq=>?_
   ·simp [clip_t,e0]
   ·simp [clip_t]
   ·simp [clip_t]
   ·simpa [hy'] using hq
theorem among_ok' (hA:SlR (rowsI .i64) G v0 A) (hlen:A.length < 2 ^ 47) (x:Int):(E orc).cl 92 [v0,.int .i64 x] G = some (.bool (decide (x ∈ A)),G):=by
 have w:Wp ((E orc).cl 92 [v0,.int .i64 x] G) fun q=>q.1 = .bool (decide (x ∈ A)) ∧ q.2 = G:=by
  refine Wp.ref (f92 (exL_ok Q orc) _ _ G) ?_
  simp [s92]
  refine Wp.bE ((among_lp orc hA hlen x A.length 0 _ (by omega) (by simp) (by simp) (by simp)).mono ?_)
  rintro ⟨e,τ,G'⟩ ⟨h1,(⟨h2,h3⟩ | ⟨h2,h3,h4⟩)⟩
  ·simp only [List.drop_zero] at h1 h2 h3
   subst h1 h2
   simp [h3]
  ·simp only [List.drop_zero] at h1 h2 h3 h4
   subst h1 h2
   simp [h3,h4]
 obtain ⟨⟨v,G'⟩,e,h1,h2⟩:=w
 simp only at h1 h2
 subst h1 h2
 exact e
end
structure Ar where
 top:Int
 links:Int
 size:Int
 gens:Int
 worn:Int
 limit:Int
abbrev Ar.R (A:Ar):Sk:=⟨A.top,A.links,A.size⟩
abbrev Ar.cells (A:Ar):List Value:=[.int .i64 A.top,.int .i64 A.links,.int .i64 A.size,.int .i64 A.gens,.int .i64 A.worn,.int .i64 A.limit]
abbrev Ar.v (A:Ar):Value:=.agg ⟨A.cells⟩
def Ar.ok (A:Ar):Prop:=A.R.ok ∧ 0 ≤ A.gens ∧ A.gens + A.size ≤ 4096 ∧ 0 ≤ A.worn ∧ A.worn < 4096 ∧ 1 ≤ A.limit ∧ A.limit ≤ 4294967295
abbrev Sk.v (R:Sk):Value:=.agg ⟨[.int .i64 R.top,.int .i64 R.links,.int .i64 R.size]⟩
def Sk.sized (R:Sk):Prop:=1 ≤ R.size ∧ R.size ≤ 4096
instance (R:Sk):Decidable R.sized:=by unfold Sk.sized; exact inferInstance
def Sk.fitsIn (R:Sk) (c:Int):Prop:=R.sized ∧ 0 ≤ R.top ∧ R.top < c ∧ 0 ≤ R.links ∧ R.links ≤ c - R.size ∧ ¬ (R.links ≤ R.top ∧ R.top < R.links + R.size)
instance (R:Sk) (c:Int):Decidable (R.fitsIn c):=by unfold Sk.fitsIn; exact inferInstance
def sfitsI (R:Sk) (c:Int):Int:=if c < 1 ∨ 4096 < c then 3 else if R.fitsIn c then 0 else 2
section
variable {G B:GS} {A:Ar} {R:Sk} {c:Int}
theorem ssized_ok (R:Sk) (G:GS):(E orc).cl 174 [R.v] G = some (.bool (decide R.sized),G.push ⟨[.int .i64 R.top,.int .i64 R.links,.int .i64 R.size],1,false,1⟩):=by
 refine f174 (exL_ok Q orc) _ G _ ?_
 unfold Sk.sized
 by_cases h1:1 ≤ R.size
 ·by_cases h2:R.size ≤ 4096 <;> simp [s174,h1,h2]
 ·simp [s174,h1]
theorem rsfits_ok (R:Sk) (c:Int) (G:GS):∃ G',(E orc).cl 154 [R.v,.int .i64 c] G = some (.int .i64 (sfitsI R c),G') ∧ Ext G G':=by
 have w:Wp (s154 true (exL Q orc) R.v (.int .i64 c) G) fun q=>q.1 = .int .i64 (sfitsI R c) ∧ Ext G q.2:=by
  obtain ⟨G1,hG1⟩:∃ G1,G1 = G.push ⟨[.int .i64 R.top,.int .i64 R.links,.int .i64 R.size],1,false,1⟩:=⟨_,rfl⟩
  have x1:Ext G G1:=by rw [hG1]; exact (Ext.refl G).push _
  have o1:G1.obj G.nx = some ⟨[.int .i64 R.top,.int .i64 R.links,.int .i64 R.size],1,false,1⟩:=by rw [hG1]; simp
  unfold sfitsI
  by_cases c1:c < 1
  ·simp [s154,← hG1,c1]; exact x1
  by_cases c2:4096 < c
  ·simp [s154,← hG1,c1,c2]; exact x1
  unfold Sk.fitsIn Sk.sized
  by_cases s1:R.size < 1
  ·have:¬ 1 ≤ R.size:=by omega
   simp [s154,← hG1,c1,c2,o1,s1,this]; exact x1
  have s1':1 ≤ R.size:=by omega
  by_cases s2:4096 < R.size
  ·have:¬ R.size ≤ 4096:=by omega
   simp [s154,← hG1,c1,c2,o1,s1,s2,this]; exact x1
  have s2':R.size ≤ 4096:=by omega
  have w1:IntKind.wrap .i64 (c - R.size) = c - R.size:=wrap64 (by omega) (by omega)
  by_cases h1:R.top < 0
  ·have:¬ 0 ≤ R.top:=by omega
   simp [s154,← hG1,c1,c2,o1,s1,s2,s1',s2',h1,this]; exact x1
  have h1':0 ≤ R.top:=by omega
  by_cases h2:c ≤ R.top
  ·have:¬ R.top < c:=by omega
   simp [s154,← hG1,c1,c2,o1,s1,s2,s1',s2',h1,h2,h1',this]; exact x1
  have h2':R.top < c:=by omega
  by_cases h3:R.links < 0
  ·have:¬ 0 ≤ R.links:=by omega
   simp [s154,← hG1,c1,c2,o1,s1,s2,s1',s2',h1,h2,h3,h1',h2',this]; exact x1
  have h3':0 ≤ R.links:=by omega
  by_cases h4:c - R.size < R.links
  ·have:¬ R.links ≤ c - R.size:=by omega
   simp [s154,← hG1,c1,c2,o1,s1,s2,s1',s2',h1,h2,h3,h1',h2',h3',w1,h4,this]; exact x1
  have h4':R.links ≤ c - R.size:=by omega
  have w2:IntKind.wrap .i64 (R.links + R.size) = R.links + R.size:=wrap64 (by omega) (by omega)
  by_cases h5:R.links ≤ R.top
  ·by_cases h6:R.top < R.links + R.size
   ·have:¬ R.links + R.size ≤ R.top:=by omega
    simp [s154,← hG1,c1,c2,o1,s1,s2,s1',s2',h1,h2,h3,h1',h2',h3',w1,h4,h4',w2,h5,h6,this]; exact x1
   ·have:R.links + R.size ≤ R.top:=by omega
    simp [s154,← hG1,c1,c2,o1,s1,s2,s1',s2',h1,h2,h3,h1',h2',h3',w1,h4,h4',w2,h5,h6,this]; exact x1
  ·have h5':R.top < R.links:=by omega
   simp [s154,← hG1,c1,c2,o1,s1,s2,s1',s2',h1,h2,h3,h1',h2',h3',w1,h4,h4',w2,h5,h5']; exact x1
 obtain ⟨⟨v,G'⟩,e1,rfl,h⟩:=w
 exact ⟨G',f154 (exL_ok Q orc) _ _ G _ e1,h⟩
def arN (A:Ar):Nat → Nat → List Int
 | 0,_=>[]
 | k + 1,i=>IntKind.wrap .i64 (A.links + i) :: IntKind.wrap .i64 (A.gens + i) :: arN A k (i + 1)
theorem arN_length (A:Ar):∀ k i,(arN A k i).length = 2 * k
 | 0,_=>rfl
 | k + 1,i=>by simp only [arN,List.length_cons,arN_length A k (i + 1)]; omega
def arL (A:Ar):List Int:=A.top :: A.worn :: arN A A.size.toNat 0
theorem rcells_lp {rb:Nat} (hB:B.obj rb = some ⟨A.cells,1,false,1⟩) (hrb:rb < B.nx) (hz:A.size ≤ 4096) {n:Nat} (hn:A.size = n):∀ (k i:Nat) (τ:Env) (G:GS) (L:List Int) (v:Value),i + k = n → L.length ≤ 2 + 2 * i → Ext B G → OwR (rowsI .i64) B.nx G v L → τ 1 = P0 rb → τ 3 = v → τ 4 = .int .i64 i →
  Wp ((exL Q orc).lpx 117 0 τ G) fun q=>q.1 = .exit 0 ∧ Ext B q.2.2 ∧ OwR (rowsI .i64) B.nx q.2.2 (q.2.1 3) (L ++ arN A k i):=by
 intro k
 induction k with
 | zero =>
  intro i τ G L v hi hL hx hv t1 t3 t4
  have ho:=(hx.obj rb hrb).trans hB
  have hi':((i:Nat):Int) = A.size:=by omega
  refine Wp.lp (l117_0 (exL_ok Q orc)) ?_
  simp [b117_0,clip_t,t1,t3,t4,ho,hi',arN]
  exact ⟨hx,hv⟩
 | succ k ih =>
  intro i τ G L v hi hL hx hv t1 t3 t4
  have ho:=(hx.obj rb hrb).trans hB
  have hlt:((i:Nat):Int) < A.size:=by omega
  have hw:IntKind.wrap .i64 ((i:Int) + 1) = ((i + 1:Nat):Int):=wrap64 (by omega) (by omega)
  generalize ha:IntKind.wrap .i64 (A.links + i) = a
  generalize hb:IntKind.wrap .i64 (A.gens + i) = b
  have x1:Ext G (G.push ⟨(rowsI .i64).flat [a,b],1,false,1⟩):=(Ext.refl G).push _
  have hs:SlR (rowsI .i64) (G.push ⟨(rowsI .i64).flat [a,b],1,false,1⟩) (.slice (some ⟨G.nx,0,none⟩) 2 2) [a,b]:=SlR.block (e:=rowsI .i64) (L:=[a,b]) (op:=false) (b:=G.nx) (by rw [obj_push,if_pos rfl]; rfl) (by simp)
  obtain ⟨v',G4,e6,x6,w6⟩:=(hv.ext x1).app (A:=B) (ib:=8) (by decide) (hx.trans x1) hs (by simp; omega)
  have hfl:(rowsI .i64).flat [a,b] = [.int .i64 a,.int .i64 b]:=rfl
  simp only [rowsI_sz,hfl] at e6
  refine Wp.lp (l117_0 (exL_ok Q orc)) ?_
  simp [-Int.natCast_add,b117_0,clip_t,t1,t3,t4,ho,hlt,ha,hb,hw,fillS,fillC,zipF,rep,splice_put,splice_end,splice_succ,e6]
  refine (ih (i + 1) _ G4 (L ++ [a,b]) v' (by omega) (by simp; omega) x6 w6 (by simp [clip_t]) (by simp [clip_t]) (by simp [clip_t])).mono ?_
  rintro q ⟨q1,q2,q3⟩
  exact ⟨q1,q2,by simpa [arN,ha,hb] using q3⟩
theorem rcells_ok (hz1:1 ≤ A.size) (hz:A.size ≤ 4096) (G:GS):∃ v G',(E orc).cl 117 [A.v] G = some (v,G') ∧ Ext G G' ∧ OwR (rowsI .i64) G.nx G' v (arL A):=by
 have w:Wp (s117 true (exL Q orc) A.v G) fun q=>Ext G q.2 ∧ OwR (rowsI .i64) G.nx q.2 q.1 (arL A):=by
  obtain ⟨G1,hG1⟩:∃ G1,G1 = G.push ⟨A.cells,1,false,1⟩:=⟨_,rfl⟩
  have x1:Ext G G1:=by rw [hG1]; exact (Ext.refl G).push _
  have o1:G1.obj G.nx = some ⟨A.cells,1,false,1⟩:=by rw [hG1]; simp
  have n1:G1.nx = G.nx + 1:=by rw [hG1]; rfl
  simp [s117,← hG1,o1,fillS,fillC,zipF,rep,splice_put,splice_end,splice_succ]
  have hfl:[Value.int .i64 A.top,Value.int .i64 A.worn] = (rowsI .i64).flat [A.top,A.worn]:=rfl
  generalize hG2:GS.push G1 _ = G2
  have x2:Ext G1 G2:=by rw [← hG2]; exact (Ext.refl _).push _
  have w2:OwR (rowsI .i64) G1.nx G2 (.slice (some ⟨G1.nx,0,none⟩) 2 2) [A.top,A.worn]:=⟨rfl,.inr ⟨G1.nx,false,rfl,Nat.le_refl _,by rw [← hG2]; simp,by rw [← hG2,obj_push,if_pos rfl]; rfl⟩⟩
  obtain ⟨n,hn⟩:∃ n:Nat,A.size = n:=⟨A.size.toNat,by omega⟩
  refine Wp.bE ((rcells_lp orc (B:=G1) o1 (by omega) hz hn n 0 _ G2 [A.top,A.worn] _ (by omega) (by simp) x2 w2 (by simp) (by simp) (by simp)).mono ?_)
  rintro ⟨e,τ,G3⟩ ⟨rfl,q2,q3⟩
  simp only at q2 q3
  simp
  refine ⟨x1.trans q2,?_⟩
  have:=q3.mono (B':=G.nx) (by omega)
  simpa [arL,hn] using this
 obtain ⟨⟨v,G'⟩,e1,e2,e3⟩:=w
 exact ⟨v,G',f117 (exL_ok Q orc) _ G _ e1,e2,e3⟩
def apC (L:List Int) (n:Int) (i:Nat):Prop:=0 ≤ (L[i]?).getD 0 ∧ (L[i]?).getD 0 < n ∧ (L[i]?).getD 0 ∉ L.take i
instance (L:List Int) (n:Int) (i:Nat):Decidable (apC L n i):=by unfold apC; exact inferInstance
def apF (L:List Int) (n:Int):Nat → Nat → Bool
 | 0,_=>true
 | k + 1,i=>decide (apC L n i) && apF L n k (i + 1)
theorem apF_iff (L:List Int) (n:Int):∀ k i,apF L n k i = true ↔ ∀ j,i ≤ j → j < i + k → apC L n j
 | 0,i=>⟨fun _ j h1 h2=>by omega,fun _=>rfl⟩
 | k + 1,i=>by
  simp only [apF,Bool.and_eq_true,decide_eq_true_eq,apF_iff L n k (i + 1)]
  constructor
  ·rintro ⟨h1,h2⟩ j h3 h4
   by_cases hj:j = i
   ·exact hj ▸ h1
   ·exact h2 j (by omega) (by omega)
  ·intro h
   exact ⟨h i (by omega) (by omega),fun j h1 h2=>h j (by omega) (by omega)⟩
theorem rapart_lp {L:List Int} {n:Int} {v:Value} (hv:SlR (rowsI .i64) B v L) (hL:L.length < 2 ^ 40):∀ (k i:Nat) (τ:Env) (G:GS),i + k = L.length → Ext B G → τ 0 = v → τ 1 = .int .i64 n → τ 5 = .int .i64 i →
  Wp ((exL Q orc).lpx 74 0 τ G) fun q=>Ext B q.2.2 ∧ ((q.1 = .exit 0 ∧ apF L n k i = true) ∨ (q.1 = .ret ∧ q.2.1 4 = .bool false ∧ apF L n k i = false)):=by
 intro k
 induction k with
 | zero =>
  intro i τ G hi hx t0 t1 t5
  have hi':i = L.length:=by omega
  subst hi'
  obtain ⟨a,c,rfl⟩:=hv.len
  refine Wp.lp (l74_0 (exL_ok Q orc)) ?_
  simp [b74_0,clip_t,t0,t1,t5,apF]
  exact hx
 | succ k ih =>
  intro i τ G hi hx t0 t1 t5
  have hlt:i < L.length:=by omega
  have hi0:(0:Int) ≤ i:=by omega
  have hw:IntKind.wrap .i64 ((i:Int) + 1) = ((i + 1:Nat):Int):=wrap64 (by omega) (by omega)
  have x1:Ext B (G.room 23):=hx.room 23
  obtain ⟨b,o,c,e0,_,q0,_⟩:=(hv.ext x1).at hlt
  have q1:=q0 0 (by decide)
  simp at q1
  obtain ⟨-,v',e7,h7⟩:=(hv.ext x1).take (k:=.i64) (o:=i) (by omega)
  obtain ⟨v'',e8,h8⟩:=((hv.ext x1).take (k:=.i64) (o:=i) (by omega)).1
  simp only [rowsI_sz] at e8
  rw [e0] at e8
  have e9:=among_ok' orc h8 (by simp; omega) L[i]
  have hg:(L[i]?).getD 0 = L[i]:=by rw [List.getElem?_eq_getElem hlt]; rfl
  simp only [apF,apC,hg]
  refine Wp.lp (l74_0 (exL_ok Q orc)) ?_
  by_cases c1:L[i] < 0
  ·have c1':¬ 0 ≤ L[i]:=by omega
   simp [-Int.natCast_add,b74_0,clip_t,t0,t1,t5,e0,hlt,hi0,q1,c1,c1']
   exact x1
  have c1':0 ≤ L[i]:=by omega
  by_cases c2:n ≤ L[i]
  ·have c2':¬ L[i] < n:=by omega
   simp [-Int.natCast_add,b74_0,clip_t,t0,t1,t5,e0,hlt,hi0,q1,c1,c2,c2']
   exact x1
  have c2':L[i] < n:=by omega
  by_cases c3:L[i] ∈ L.take i
  ·simp only [c3,decide_true] at e9
   simp [-Int.natCast_add,b74_0,clip_t,t0,t1,t5,e0,hlt,hi0,q1,c1,c2,e8,e9,c3]
   exact x1
  ·simp only [c3,decide_false] at e9
   simp [-Int.natCast_add,b74_0,clip_t,t0,t1,t5,e0,hlt,hi0,q1,c1,c2,e8,e9,c3,hw]
   refine (ih (i + 1) _ (G.room 23) (by omega) x1 (by simp [clip_t,e0]) (by simp [clip_t]) (by simp [clip_t])).mono ?_
   rintro q ⟨h1,h2⟩
   exact ⟨h1,by simpa [c1',c2',c3] using h2⟩
theorem rapart_ok {L:List Int} {n:Int} {v:Value} (hv:SlR (rowsI .i64) G v L) (hL:L.length < 2 ^ 40):∃ G',(E orc).cl 74 [v,.int .i64 n] G = some (.bool (apF L n L.length 0),G') ∧ Ext G G':=by
 have w:Wp (s74 true (exL Q orc) v (.int .i64 n) G) fun q=>q.1 = .bool (apF L n L.length 0) ∧ Ext G q.2:=by
  simp [s74]
  refine Wp.bE ((rapart_lp orc (B:=G) (n:=n) hv hL L.length 0 _ G (by omega) (Ext.refl _) (by simp) (by simp) (by simp)).mono ?_)
  rintro ⟨e,τ,G3⟩ ⟨q1,q2⟩
  rcases q2 with ⟨rfl,q3⟩ | ⟨rfl,q3,q4⟩
  ·simp [q3]; exact q1
  ·simp at q3
   simp [q3,q4]; exact q1
 obtain ⟨⟨v,G'⟩,e1,rfl,h⟩:=w
 exact ⟨G',f74 (exL_ok Q orc) _ _ G _ e1,h⟩
def Ar.lim (A:Ar):Prop:=1 ≤ A.limit ∧ A.limit ≤ 4294967295
instance (A:Ar):Decidable A.lim:=by unfold Ar.lim; exact inferInstance
def rfitsI (A:Ar) (c:Int):Int:=if c < 1 ∨ 4096 < c then 3 else if A.R.fitsIn c ∧ A.lim ∧ apF (arL A) c (arL A).length 0 = true then 0 else 2
theorem rafits_ok (A:Ar) (c:Int) (G:GS):∃ G',(E orc).cl 115 [A.v,.int .i64 c] G = some (.int .i64 (rfitsI A c),G') ∧ Ext G G':=by
 have w:Wp (s115 true (exL Q orc) A.v (.int .i64 c) G) fun q=>q.1 = .int .i64 (rfitsI A c) ∧ Ext G q.2:=by
  obtain ⟨G1,hG1⟩:∃ G1,G1 = G.push ⟨A.cells,1,false,1⟩:=⟨_,rfl⟩
  have x1:Ext G G1:=by rw [hG1]; exact (Ext.refl G).push _
  have o1:G1.obj G.nx = some ⟨A.cells,1,false,1⟩:=by rw [hG1]; simp
  have n1:G1.nx = G.nx + 1:=by rw [hG1]; rfl
  unfold rfitsI
  by_cases c1:c < 1
  ·simp [s115,← hG1,c1]; exact x1
  by_cases c2:4096 < c
  ·simp [s115,← hG1,c1,c2]; exact x1
  obtain ⟨G2,e2,x2⟩:=rsfits_ok orc A.R c G1
  have o2:=(x2.obj _ (by omega)).trans o1
  have y2:=x1.trans x2
  unfold sfitsI at e2
  rw [if_neg (by omega)] at e2
  by_cases h0:A.R.fitsIn c
  ·rw [if_pos h0] at e2
   unfold Ar.lim
   by_cases h1:A.limit < 1
   ·have:¬ 1 ≤ A.limit:=by omega
    simp [s115,← hG1,c1,c2,o1,e2,o2,h0,h1,this]; exact y2
   have h1':1 ≤ A.limit:=by omega
   by_cases h2:4294967295 < A.limit
   ·have:¬ A.limit ≤ 4294967295:=by omega
    simp [s115,← hG1,c1,c2,o1,e2,o2,h0,h1,h2,this]; exact y2
   have h2':A.limit ≤ 4294967295:=by omega
   obtain ⟨v,G3,e3,x3,w3⟩:=rcells_ok orc (A:=A) h0.1.1 h0.1.2 G2
   have hlen:(arL A).length < 2 ^ 40:=by
    simp only [arL,List.length_cons,arN_length]
    have:=h0.1.2
    simp only at this
    omega
   obtain ⟨G4,e4,x4⟩:=rapart_ok orc (n:=c) w3.is hlen
   have y4:=(y2.trans x3).trans x4
   cases h3:apF (arL A) c (arL A).length 0 with
   | true =>
    rw [h3] at e4
    simp [s115,← hG1,c1,c2,o1,e2,o2,h0,h1,h2,h1',h2',e3,e4]; exact y4
   | false =>
    rw [h3] at e4
    simp [s115,← hG1,c1,c2,o1,e2,o2,h0,h1,h2,h1',h2',e3,e4]; exact y4
  ·rw [if_neg h0] at e2
   simp [s115,← hG1,c1,c2,o1,e2,o2,h0]; exact y2
 obtain ⟨⟨v,G'⟩,e1,rfl,h⟩:=w
 exact ⟨G',f115 (exL_ok Q orc) _ _ G _ e1,h⟩
end
theorem arN_at (A:Ar):∀ (k i0 j:Nat),j < k → (arN A k i0)[2 * j]? = some (IntKind.wrap .i64 (A.links + (i0 + j:Nat))) ∧ (arN A k i0)[2 * j + 1]? = some (IntKind.wrap .i64 (A.gens + (i0 + j:Nat)))
 | 0,_,j,h=>by omega
 | k + 1,i0,0,_=>⟨rfl,rfl⟩
 | k + 1,i0,j + 1,h=>by
  have:=arN_at A k (i0 + 1) j (by omega)
  simp only [arN]
  rw [show 2 * (j + 1) = (2 * j + 1) + 1 by omega,show 2 * j + 1 + 1 + 1 = (2 * j + 1 + 1) + 1 by omega]
  simp only [List.getElem?_cons_succ]
  rw [show i0 + (j + 1) = i0 + 1 + j by omega]
  exact this
theorem arL_at (A:Ar) {j:Nat} (h:j < A.size.toNat):(arL A)[2 + 2 * j]? = some (IntKind.wrap .i64 (A.links + j)) ∧ (arL A)[3 + 2 * j]? = some (IntKind.wrap .i64 (A.gens + j)):=by
 have:=arN_at A A.size.toNat 0 j h
 rw [show 2 + 2 * j = 2 * j + 1 + 1 by omega,show 3 + 2 * j = 2 * j + 1 + 1 + 1 by omega]
 simp only [arL,List.getElem?_cons_succ]
 rw [Nat.zero_add] at this
 exact this
structure Ops (X:Type) where
 e:RowE X
 ok:(Nat → Nat) → GS → Nat → X → Prop
 to:∀ {own own':Nat → Nat} {G G':GS} {i:Nat} {x:X},ok own G i x → G.nx ≤ G'.nx → (∀ g,g < G.nx → own g = i → G'.obj g = G.obj g) → Agr own own' G → ok own' G' i x
section
variable {X:Type} {O:Ops X} {n m r b cb t i:Nat} {B:Nat → Prop} {own own':Nat → Nat} {G G' G1:GS} {s s':MS} {L:List X} {ts:List Nat} {x y:X}
theorem PM.modT (h:PM own G m s) (q:ModT ts own G G') (h1:10 ∉ ts) (a:Agr own own' G):PM own' G' m s:=(sepP m s).tag h q h1 a
theorem RM.modT (h:RM own G r s) (q:ModT ts own G G') (h1:11 ∉ ts) (a:Agr own own' G):RM own' G' r s:=(sepR r s).tag h q h1 a
theorem Stp.modT (h:Stp t B own G own' G') (hB:∀ x,x < G.nx → B x → own x = i):ModT [t,i] own G G' :=
 ⟨h.mod.nx,fun g hg hn=>h.mod.obj g hg fun k=>hn (k.elim (fun k=>by simp [k]) fun k=>by simp [hB g hg k]),h.mod.nl,h.mod.loop⟩
theorem new2 {G2:GS} {k:Nat} {s0:MS} (hm:PMx (fun x=>G.nx ≤ x ∧ x < G1.nx) G1 m s0) (hr:RMx (fun x=>G1.nx ≤ x ∧ x < G2.nx) G2 r s0) (hx:G.nx ≤ G1.nx) (x2:Ext G1 G2) :
  PM (fun x=>if x < k then 20 else if x < G.nx then 13 else if x < G1.nx then 10 else 11) G2 m s0 ∨ ¬ k ≤ G.nx:=by
 by_cases hk:k ≤ G.nx
 ·refine .inl ((sepP m s0).mono (hm.ext x2) (fun x hx=>⟨Nat.lt_of_lt_of_le hx.2 x2.nx,?_⟩) Tag.under)
  simp only
  rw [if_neg (by omega),if_neg (by omega),if_pos (by omega)]
 ·exact .inr hk
theorem new2' {G2:GS} {k:Nat} {s0:MS} (hr:RMx (fun x=>G1.nx ≤ x ∧ x < G2.nx) G2 r s0) (hx:G.nx ≤ G1.nx) (hk:k ≤ G.nx) :
  RM (fun x=>if x < k then 20 else if x < G.nx then 13 else if x < G1.nx then 10 else 11) G2 r s0:=by
 refine (sepR r s0).mono hr (fun x hx=>⟨hx.2,?_⟩) Tag.under
 simp only
 rw [if_neg (by omega),if_neg (by omega),if_neg (by omega)]
end
def lnkV (R:Sk) (i:Nat):Int:=if (i:Int) + 1 = R.size then 0 else i + 2
def lnkN (R:Sk):Nat → Nat → MS → MS
 | 0,_,s=>s
 | k + 1,i,s=>lnkN R k (i + 1) (s.store (R.links + i) (lnkV R i))
theorem lnkN_last (R:Sk):∀ (k i:Nat) (s:MS),lnkN R (k + 1) i s = (lnkN R k i s).store (R.links + (i + k:Nat)) (lnkV R (i + k))
 | 0,i,s=>rfl
 | k + 1,i,s=>by
  have:=lnkN_last R k (i + 1) (s.store (R.links + i) (lnkV R i))
  rw [lnkN,this]
  rw [show i + 1 + k = i + (k + 1) by omega]; rfl
def fillS (R:Sk) (s:MS):MS:=lnkN R R.size.toNat 0 (s.store R.top 1)
def genN (A:Ar):Nat → Nat → MS → MS
 | 0,_,s=>s
 | k + 1,i,s=>genN A k (i + 1) (s.store (A.gens + i) 1)
def fillA (A:Ar) (s:MS):MS:=genN A A.size.toNat 0 ((Lift.fillS A.R s).store A.worn 0)
theorem lnkN_ok (R:Sk) (hR:R.ok):∀ (k i:Nat) (s:MS),(i + k:Nat) ≤ R.size → s.ok → (lnkN R k i s).ok
 | 0,_,s,_,h=>h
 | k + 1,i,s,hi,h=>lnkN_ok R hR k (i + 1) _ (by omega) (h.store _ (by have:=hR.2.1; unfold lnkV U; split <;> omega))
theorem genN_ok (A:Ar):∀ (k i:Nat) (s:MS),s.ok → (genN A k i s).ok
 | 0,_,s,h=>h
 | k + 1,i,s,h=>genN_ok A k (i + 1) _ (h.store _ ⟨by decide,by decide⟩)
theorem fillA_ok {A:Ar} (hA:A.ok) {s:MS} (h:s.ok):(fillA A s).ok:=by
 have h1:=hA.1.1
 simp only at h1
 exact genN_ok A _ _ _ ((lnkN_ok A.R hA.1 _ _ _ (by simp only; omega) (h.store _ ⟨by decide,by decide⟩)).store _ ⟨by decide,by decide⟩)
section
variable {m r rb:Nat} {own own0:Nat → Nat} {G G0:GS} {s:MS} {R:Sk} {A:Ar}
theorem sfill_lp (ht:orc 236 = false) (hR:R.ok) (hrb:rb < G0.nx) (trb:own0 rb ≠ 10) (orb:G0.obj rb = some ⟨[.int .i64 R.top,.int .i64 R.links,.int .i64 R.size],1,false,1⟩) {n:Nat} (hn:R.size = n) :
  ∀ (k i:Nat) (τ:Env) (own:Nat → Nat) (G:GS) (s:MS),i + k = n → PW no own0 G0 own G m s → τ 1 = P0 m → τ 2 = P0 rb → τ 15 = .int .i64 n → τ 16 = .int .i64 i →
  Wp ((exL Q orc).lpx 139 0 τ G) fun q=>q.1 = .exit 0 ∧ ∃ own',PW no own0 G0 own' q.2.2 m (lnkN R k i s):=by
 intro k
 induction k with
 | zero =>
  intro i τ own G s hi w t1 t2 t15 t16
  have hi':i = n:=by omega
  subst hi'
  refine Wp.lp (l139_0 (exL_ok Q orc)) ?_
  simp [b139_0,bb139_0,clip_t,t1,t2,t15,t16,lnkN]
  exact ⟨own,w⟩
 | succ k ih =>
  intro i τ own G s hi w t1 t2 t15 t16
  have hR1:=hR.1; have hR2:=hR.2.1; have hR5:=hR.2.2.2.2.1; have hR6:=hR.2.2.2.2.2
  have o:=(w.keep hrb trb id).trans orb
  have hlt:i < n:=by omega
  have hw:IntKind.wrap .i64 ((i:Int) + 1) = ((i + 1:Nat):Int):=wrap64 (by omega) (by omega)
  have ha:IntKind.wrap .i64 (R.links + i) = R.links + i:=wrap64 (by omega) (by omega)
  refine Wp.lp (l139_0 (exL_ok Q orc)) ?_
  have w0:=w.ext ((Ext.refl G).room 8)
  have o0:(G.room 8).obj rb = some ⟨[.int .i64 R.top,.int .i64 R.links,.int .i64 R.size],1,false,1⟩:=o
  by_cases hl:(i:Int) + 1 = R.size
  ·have hl':((i + 1:Nat):Int) = R.size:=by omega
   have hv:lnkV R i = 0:=by unfold lnkV; rw [if_pos hl]
   obtain ⟨G1,e1,x1⟩:=link_ok orc ht (i:=-1) (by decide) (G.room 8)
   have w1:=w0.ext x1
   have o1:=(x1.obj rb (Nat.lt_of_lt_of_le hrb w0.nx)).trans o0
   obtain ⟨own2,G2,e2,w2⟩:=w1.pm.store orc (R.links + i) 0
   simp [-Int.natCast_add,b139_0,bb139_0,jl139_0_0,jbl139_0_0,clip_t,t1,t2,t15,t16,hlt,hw,o,hl',ha,e1,o1,e2]
   refine (ih (i + 1) _ _ G2 _ (by omega) (w1.trans w2 fun _ _ h=>h) (by simp [clip_t]) (by simp [clip_t]) (by simp [clip_t]) (by simp [clip_t]; omega)).mono ?_
   rintro q ⟨q1,own',q2⟩
   exact ⟨q1,own',by simpa [lnkN,hv] using q2⟩
  ·have hl':¬ ((i + 1:Nat):Int) = R.size:=by omega
   have hv:lnkV R i = i + 2:=by unfold lnkV; rw [if_neg hl]
   obtain ⟨G1,e1,x1⟩:=link_ok orc ht (i:=((i + 1:Nat):Int)) (by omega) (G.room 8)
   have w1:=w0.ext x1
   have o1:=(x1.obj rb (Nat.lt_of_lt_of_le hrb w0.nx)).trans o0
   have hv2:((i + 1:Nat):Int) + 1 = i + 2:=by omega
   rw [hv2] at e1
   obtain ⟨own2,G2,e2,w2⟩:=w1.pm.store orc (R.links + i) (i + 2)
   simp [-Int.natCast_add,b139_0,bb139_0,jl139_0_0,jbl139_0_0,clip_t,t1,t2,t15,t16,hlt,hw,o,hl',ha,e1,o1,e2]
   refine (ih (i + 1) _ _ G2 _ (by omega) (w1.trans w2 fun _ _ h=>h) (by simp [clip_t]) (by simp [clip_t]) (by simp [clip_t]) (by simp [clip_t])).mono ?_
   rintro q ⟨q1,own',q2⟩
   exact ⟨q1,own',by simpa [lnkN,hv] using q2⟩
theorem sfill_ok (ht:orc 236 = false) (hR:R.ok) (h:PM own G m s):∃ own' G',(E orc).cl 139 [R.v,P0 m] G = some (.tuple #[],G') ∧ PW no own G own' G' m (Lift.fillS R s):=by
 obtain ⟨n,hn⟩:∃ n:Nat,R.size = n:=⟨R.size.toNat,by have:=hR.1; omega⟩
 have w:Wp (s139 true (exL Q orc) R.v (P0 m) G) fun q=>q.1 = .tuple #[] ∧ ∃ own',PW no own G own' q.2 m (Lift.fillS R s):=by
  obtain ⟨G1,hG1⟩:∃ G1,G1 = G.push ⟨[.int .i64 R.top,.int .i64 R.links,.int .i64 R.size],1,false,1⟩:=⟨_,rfl⟩
  have x1:Ext G G1:=by rw [hG1]; exact (Ext.refl G).push _
  have o1:G1.obj G.nx = some ⟨[.int .i64 R.top,.int .i64 R.links,.int .i64 R.size],1,false,1⟩:=by rw [hG1]; simp
  have n1:G1.nx = G.nx + 1:=by rw [hG1]; rfl
  have e2:=ssized_ok orc R G1
  have hz:R.sized:=⟨hR.1,hR.2.1⟩
  simp only [hz,decide_true] at e2
  obtain ⟨G2,hG2⟩:∃ G2,G2 = G1.push ⟨[.int .i64 R.top,.int .i64 R.links,.int .i64 R.size],1,false,1⟩:=⟨_,rfl⟩
  rw [← hG2] at e2
  have x2:Ext G1 G2:=by rw [hG2]; exact (Ext.refl _).push _
  have o2:=(x2.obj _ (by omega)).trans o1
  obtain ⟨G3,e3,x3⟩:=link_ok orc ht (i:=0) (by decide) (G2.room 5)
  have y3:=(x1.trans x2).trans (((Ext.refl G2).room 5).trans x3)
  have o3:=((((Ext.refl G2).room 5).trans x3).obj _ (by have:=x2.nx; omega)).trans o2
  have w3:=(PW.refl (B:=no) h).ext y3
  obtain ⟨own4,G4,e4,w4⟩:=w3.pm.store orc R.top (0 + 1)
  have t0:grown own G 13 G.nx = 13:=grown_new (Nat.le_refl _)
  have n3:G.nx < G3.nx:=by have:=x2.nx; have:=x3.nx; simp at this; omega
  have o4:=(w4.keep n3 (by rw [t0]; decide) id).trans o3
  have w34:=w3.trans w4 fun _ _ h=>h
  simp only [Int.zero_add] at e3 e4 w4 w34
  simp [s139,← hG1,o1,e2,o2,e3,o3,e4,o4]
  refine Wp.bE ((sfill_lp orc ht hR (rb:=G.nx) (G0:=G3) (own0:=grown own G 13) n3 (by rw [t0]; decide) o3 hn n 0 _ own4 G4 (s.store R.top 1) (by omega) w4 (by simp) (by simp) (by simp [hn]) (by simp)).mono ?_)
  rintro ⟨e,τ,G5⟩ ⟨rfl,own5,q⟩
  simp only at q
  simp
  refine ⟨own5,w3.trans ?_ fun _ _ h=>h⟩
  simpa [Lift.fillS,hn] using q
 obtain ⟨⟨v,G'⟩,e1,rfl,own',hh⟩:=w
 exact ⟨own',G',f139 (exL_ok Q orc) _ _ G _ e1,hh⟩
theorem afill_lp (hA:A.ok) (hrb:rb < G0.nx) (trb:own0 rb ≠ 10) (orb:G0.obj rb = some ⟨A.cells,1,false,1⟩) {n:Nat} (hn:A.size = n) :
  ∀ (k i:Nat) (τ:Env) (own:Nat → Nat) (G:GS) (s:MS),i + k = n → PW no own0 G0 own G m s → τ 1 = P0 m → τ 2 = P0 rb → τ 18 = .int .i64 n → τ 19 = .int .i64 i →
  Wp ((exL Q orc).lpx 96 0 τ G) fun q=>q.1 = .exit 0 ∧ ∃ own',PW no own0 G0 own' q.2.2 m (genN A k i s):=by
 intro k
 induction k with
 | zero =>
  intro i τ own G s hi w t1 t2 t15 t16
  have hi':i = n:=by omega
  subst hi'
  refine Wp.lp (l96_0 (exL_ok Q orc)) ?_
  simp [b96_0,clip_t,t1,t2,t15,t16,genN]
  exact ⟨own,w⟩
 | succ k ih =>
  intro i τ own G s hi w t1 t2 t15 t16
  have h1:=hA.2.1; have h2:=hA.2.2.1; have h3:=hA.1.2.1
  simp only at h3
  have o:=(w.keep hrb trb id).trans orb
  have hlt:i < n:=by omega
  have hw:IntKind.wrap .i64 ((i:Int) + 1) = ((i + 1:Nat):Int):=wrap64 (by omega) (by omega)
  have ha:IntKind.wrap .i64 (A.gens + i) = A.gens + i:=wrap64 (by omega) (by omega)
  refine Wp.lp (l96_0 (exL_ok Q orc)) ?_
  obtain ⟨own2,G2,e2,w2⟩:=w.pm.store orc (A.gens + i) 1
  simp [-Int.natCast_add,b96_0,clip_t,t1,t2,t15,t16,hlt,hw,o,ha,e2]
  refine (ih (i + 1) _ _ G2 _ (by omega) (w.trans w2 fun _ _ h=>h) (by simp [clip_t]) (by simp [clip_t]) (by simp [clip_t]) (by simp [clip_t])).mono ?_
  rintro q ⟨q1,own',q2⟩
  exact ⟨q1,own',by simpa [genN] using q2⟩
theorem afill_ok (ht:orc 236 = false) (hA:A.ok) (h:PM own G m s):∃ own' G',(E orc).cl 96 [A.v,P0 m] G = some (.tuple #[],G') ∧ PW no own G own' G' m (fillA A s):=by
 obtain ⟨n,hn⟩:∃ n:Nat,A.size = n:=⟨A.size.toNat,by have:=hA.1.1; simp only at this; omega⟩
 have w:Wp (s96 true (exL Q orc) A.v (P0 m) G) fun q=>q.1 = .tuple #[] ∧ ∃ own',PW no own G own' q.2 m (fillA A s):=by
  obtain ⟨G1,hG1⟩:∃ G1,G1 = G.push ⟨A.cells,1,false,1⟩:=⟨_,rfl⟩
  have x1:Ext G G1:=by rw [hG1]; exact (Ext.refl G).push _
  have o1:G1.obj G.nx = some ⟨A.cells,1,false,1⟩:=by rw [hG1]; simp
  have n1:G1.nx = G.nx + 1:=by rw [hG1]; rfl
  have e2:∃ G2,(E orc).cl 138 [A.v] G1 = some (.bool true,G2) ∧ Ext G1 G2:=by
   have z1:=hA.1.1; have z2:=hA.1.2.1
   simp only at z1 z2
   exact ⟨G1.push ⟨A.cells,1,false,1⟩,f138 (exL_ok Q orc) _ G1 _ (by simp [s138,z1,z2]),(Ext.refl _).push _⟩
  obtain ⟨G2,e2,x2⟩:=e2
  have o2:=(x2.obj _ (by omega)).trans o1
  have n2:=x2.nx
  have w2:=(PW.refl (B:=no) h).ext (x1.trans x2)
  obtain ⟨own3,G3,e3,w3⟩:=sfill_ok orc ht (R:=A.R) hA.1 w2.pm
  have t0:grown own G 13 G.nx = 13:=grown_new (Nat.le_refl _)
  have o3:=(w3.keep (show G.nx < G2.nx by omega) (by rw [t0]; decide) id).trans o2
  have t3:own3 G.nx = 13:=(w3.stp.same (by omega)).trans t0
  obtain ⟨own4,G4,e4,w4⟩:=w3.pm.store orc A.worn 0
  have n3:=w3.nx
  have o4:=(w4.keep (show G.nx < G3.nx by omega) (by rw [t3]; decide) id).trans o3
  simp [s96,← hG1,o1,e2,o2,e3,o3,e4,o4]
  refine Wp.bE ((afill_lp orc hA (rb:=G.nx) (G0:=G3) (own0:=own3) (by omega) (by rw [t3]; decide) o3 hn n 0 _ own4 G4 _ (by omega) w4 (by simp) (by simp) (by simp [hn]) (by simp)).mono ?_)
  rintro ⟨e,τ,G5⟩ ⟨rfl,own5,q⟩
  simp only at q
  simp
  refine ⟨own5,(w2.trans w3 fun _ _ h=>h).trans ?_ fun _ _ h=>h⟩
  simpa [fillA,hn] using q
 obtain ⟨⟨v,G'⟩,e1,rfl,own',hh⟩:=w
 exact ⟨own',G',f96 (exL_ok Q orc) _ _ G _ e1,hh⟩
end
section
variable {m r rb:Nat} {own own0:Nat → Nat} {G G0:GS} {s:MS} {R:Sk} {A:Ar}
theorem rsfill_lp (hR:R.ok) (hrb:rb < G0.nx) (trb:own0 rb ≠ 11) (orb:G0.obj rb = some ⟨[.int .i64 R.top,.int .i64 R.links,.int .i64 R.size],1,false,1⟩) {n:Nat} (hn:R.size = n + 1) :
  ∀ (k i:Nat) (τ:Env) (own:Nat → Nat) (G:GS) (s:MS),i + k = n → RW no own0 G0 own G r s → τ 1 = P0 r → τ 2 = P0 rb → τ 4 = .int .i64 i →
  Wp ((exL Q orc).lpx 196 0 τ G) fun q=>q.1 = .exit 0 ∧ q.2.1 1 = P0 r ∧ q.2.1 2 = P0 rb ∧ ∃ own',RW no own0 G0 own' q.2.2 r (lnkN R k i s):=by
 intro k
 induction k with
 | zero =>
  intro i τ own G s hi w t1 t2 t4
  have hR1:=hR.1; have hR2:=hR.2.1
  have hi':(i:Int) = R.size - 1:=by omega
  have o:=(w.keep hrb trb id).trans orb
  have hs:IntKind.wrap .i64 (R.size - 1) = R.size - 1:=wrap64 (by omega) (by omega)
  refine Wp.lp (l196_0 (exL_ok Q orc)) ?_
  simp [b196_0,clip_t,t1,t2,t4,o,hs,hi',lnkN]
  exact ⟨own,w⟩
 | succ k ih =>
  intro i τ own G s hi w t1 t2 t4
  have hR1:=hR.1; have hR2:=hR.2.1; have hR5:=hR.2.2.2.2.1; have hR6:=hR.2.2.2.2.2
  have o:=(w.keep hrb trb id).trans orb
  have hlt:(i:Int) < R.size - 1:=by omega
  have hs:IntKind.wrap .i64 (R.size - 1) = R.size - 1:=wrap64 (by omega) (by omega)
  have hw:IntKind.wrap .i64 ((i:Int) + 1) = ((i + 1:Nat):Int):=wrap64 (by omega) (by omega)
  have ha:IntKind.wrap .i64 (R.links + i) = R.links + i:=wrap64 (by omega) (by omega)
  have hb:IntKind.wrap .i64 ((i:Int) + 2) = i + 2:=wrap64 (by omega) (by omega)
  have hb2:IntKind.wrap .u64 ((i:Int) + 2) = i + 2:=by rw [wrap_u64]; omega
  have hv:lnkV R i = i + 2:=by unfold lnkV; rw [if_neg (by omega)]
  obtain ⟨own2,G2,e2,w2⟩:=w.rm.store orc (R.links + i) (i + 2)
  refine Wp.lp (l196_0 (exL_ok Q orc)) ?_
  simp [-Int.natCast_add,b196_0,clip_t,t1,t2,t4,o,hs,hlt,hw,ha,hb,hb2,e2]
  refine (ih (i + 1) _ _ G2 _ (by omega) (w.trans w2 fun _ _ h=>h) (by simp [clip_t]) (by simp [clip_t]) (by simp [clip_t])).mono ?_
  rintro q ⟨q1,q2,q3,own',q4⟩
  exact ⟨q1,q2,q3,own',by simpa [lnkN,hv] using q4⟩
theorem rsfill_ok (hR:R.ok) (h:RM own G r s):∃ own' G',(E orc).cl 196 [R.v,P0 r] G = some (.tuple #[],G') ∧ RW no own G own' G' r (Lift.fillS R s):=by
 have hR1:=hR.1; have hR2:=hR.2.1; have hR5:=hR.2.2.2.2.1; have hR6:=hR.2.2.2.2.2
 obtain ⟨n,hn⟩:∃ n:Nat,R.size = n + 1:=⟨(R.size - 1).toNat,by omega⟩
 have w:Wp (s196 true (exL Q orc) R.v (P0 r) G) fun q=>q.1 = .tuple #[] ∧ ∃ own',RW no own G own' q.2 r (Lift.fillS R s):=by
  obtain ⟨G1,hG1⟩:∃ G1,G1 = G.push ⟨[.int .i64 R.top,.int .i64 R.links,.int .i64 R.size],1,false,1⟩:=⟨_,rfl⟩
  have x1:Ext G G1:=by rw [hG1]; exact (Ext.refl G).push _
  have o1:G1.obj G.nx = some ⟨[.int .i64 R.top,.int .i64 R.links,.int .i64 R.size],1,false,1⟩:=by rw [hG1]; simp
  have n1:G1.nx = G.nx + 1:=by rw [hG1]; rfl
  have z1:¬ R.size < 1:=by omega
  have z2:¬ 4096 < R.size:=by omega
  have w1:=(RW.refl (B:=no) h).ext x1
  obtain ⟨own4,G4,e4,w4⟩:=w1.rm.store orc R.top 1
  have t0:grown own G 13 G.nx = 13:=grown_new (Nat.le_refl _)
  have a1:IntKind.wrap .i64 (R.links + R.size) = R.links + R.size:=wrap64 (by omega) (by omega)
  have a2:IntKind.wrap .i64 (R.links + R.size - 1) = R.links + R.size - 1:=wrap64 (by omega) (by omega)
  simp [s196,← hG1,o1,z1,z2,e4]
  refine Wp.bE ((rsfill_lp orc hR (rb:=G.nx) (G0:=G1) (own0:=grown own G 13) (by omega) (by rw [t0]; decide) o1 hn n 0 _ own4 G4 (s.store R.top 1) (by omega) w4 (by simp) (by simp) (by simp)).mono ?_)
  rintro ⟨e,τ,G5⟩ ⟨rfl,q1,q2,own5,q⟩
  simp only at q q1 q2
  have o5:=(q.keep (show G.nx < G1.nx by omega) (by rw [t0]; decide) id).trans o1
  obtain ⟨own6,G6,e6,w6⟩:=q.rm.store orc (R.links + R.size - 1) 0
  simp [q1,q2,o5,a1,a2,e6]
  refine ⟨own6,w1.trans (q.trans (B':=no) ?_ fun _ _ h=>h) fun _ _ h=>h⟩
  have hsz:R.size.toNat = n + 1:=by omega
  have hval:lnkV R (0 + n) = 0:=by unfold lnkV; rw [if_pos (by omega)]
  have hadr:R.links + ((0 + n:Nat):Int) = R.links + R.size - 1:=by omega
  have:Lift.fillS R s = (lnkN R n 0 (s.store R.top 1)).store (R.links + R.size - 1) 0:=by
   unfold Lift.fillS
   rw [hsz,lnkN_last,hval,hadr]
  rw [this]
  exact w6
 obtain ⟨⟨v,G'⟩,e1,rfl,own',hh⟩:=w
 exact ⟨own',G',f196 (exL_ok Q orc) _ _ G _ e1,hh⟩
theorem rafill_lp (hA:A.ok) (hrb:rb < G0.nx) (trb:own0 rb ≠ 11) (orb:G0.obj rb = some ⟨A.cells,1,false,1⟩) {n:Nat} (hn:A.size = n) :
  ∀ (k i:Nat) (τ:Env) (own:Nat → Nat) (G:GS) (s:MS),i + k = n → RW no own0 G0 own G r s → τ 1 = P0 r → τ 2 = P0 rb → τ 4 = .int .i64 i →
  Wp ((exL Q orc).lpx 156 0 τ G) fun q=>q.1 = .exit 0 ∧ ∃ own',RW no own0 G0 own' q.2.2 r (genN A k i s):=by
 intro k
 induction k with
 | zero =>
  intro i τ own G s hi w t1 t2 t4
  have hi':(i:Int) = A.size:=by omega
  have o:=(w.keep hrb trb id).trans orb
  refine Wp.lp (l156_0 (exL_ok Q orc)) ?_
  simp [b156_0,clip_t,t1,t2,t4,o,hi',genN]
  exact ⟨own,w⟩
 | succ k ih =>
  intro i τ own G s hi w t1 t2 t4
  have h1:=hA.2.1; have h2:=hA.2.2.1; have h3:=hA.1.2.1
  simp only at h3
  have o:=(w.keep hrb trb id).trans orb
  have hlt:(i:Int) < A.size:=by omega
  have hw:IntKind.wrap .i64 ((i:Int) + 1) = ((i + 1:Nat):Int):=wrap64 (by omega) (by omega)
  have ha:IntKind.wrap .i64 (A.gens + i) = A.gens + i:=wrap64 (by omega) (by omega)
  obtain ⟨own2,G2,e2,w2⟩:=w.rm.store orc (A.gens + i) 1
  refine Wp.lp (l156_0 (exL_ok Q orc)) ?_
  simp [-Int.natCast_add,b156_0,clip_t,t1,t2,t4,o,hlt,hw,ha,e2]
  refine (ih (i + 1) _ _ G2 _ (by omega) (w.trans w2 fun _ _ h=>h) (by simp [clip_t]) (by simp [clip_t]) (by simp [clip_t])).mono ?_
  rintro q ⟨q1,own',q2⟩
  exact ⟨q1,own',by simpa [genN] using q2⟩
theorem rafill_ok (hA:A.ok) (h:RM own G r s):∃ own' G',(E orc).cl 156 [A.v,P0 r] G = some (.tuple #[],G') ∧ RW no own G own' G' r (fillA A s):=by
 have z1':=hA.1.1; have z2':=hA.1.2.1
 simp only at z1' z2'
 obtain ⟨n,hn⟩:∃ n:Nat,A.size = n:=⟨A.size.toNat,by omega⟩
 have w:Wp (s156 true (exL Q orc) A.v (P0 r) G) fun q=>q.1 = .tuple #[] ∧ ∃ own',RW no own G own' q.2 r (fillA A s):=by
  obtain ⟨G1,hG1⟩:∃ G1,G1 = G.push ⟨A.cells,1,false,1⟩:=⟨_,rfl⟩
  have x1:Ext G G1:=by rw [hG1]; exact (Ext.refl G).push _
  have o1:G1.obj G.nx = some ⟨A.cells,1,false,1⟩:=by rw [hG1]; simp
  have n1:G1.nx = G.nx + 1:=by rw [hG1]; rfl
  have z1:¬ A.size < 1:=by omega
  have z2:¬ 4096 < A.size:=by omega
  have w2:=(RW.refl (B:=no) h).ext x1
  obtain ⟨own3,G3,e3,w3⟩:=rsfill_ok orc (R:=A.R) hA.1 w2.rm
  have t0:grown own G 13 G.nx = 13:=grown_new (Nat.le_refl _)
  have o3:=(w3.keep (show G.nx < G1.nx by omega) (by rw [t0]; decide) id).trans o1
  have t3:own3 G.nx = 13:=(w3.stp.same (by omega)).trans t0
  obtain ⟨own4,G4,e4,w4⟩:=w3.rm.store orc A.worn 0
  have n3:=w3.nx
  simp [s156,← hG1,o1,z1,z2,e3,o3,e4]
  refine Wp.bE ((rafill_lp orc hA (rb:=G.nx) (G0:=G3) (own0:=own3) (by omega) (by rw [t3]; decide) o3 hn n 0 _ own4 G4 _ (by omega) w4 (by simp) (by simp) (by simp)).mono ?_)
  rintro ⟨e,τ,G5⟩ ⟨rfl,own5,q⟩
  simp only at q
  simp
  refine ⟨own5,(w2.trans w3 fun _ _ h=>h).trans ?_ fun _ _ h=>h⟩
  simpa [fillA,hn] using q
 obtain ⟨⟨v,G'⟩,e1,rfl,own',hh⟩:=w
 exact ⟨own',G',f156 (exL_ok Q orc) _ _ G _ e1,hh⟩
end
theorem w0:IntKind.wrap .i64 0 = 0:=by decide
theorem w4:IntKind.wrap .i64 4 = 4:=by decide
structure TW where
 nodes:Int
 heads:Int
 height:Int
 top:Int
 links:Int
 size:Int
 u6:Int
 u7:Int
 u8:Int
 u9:Int
 u10:Int
 u11:Int
 u12:Int
abbrev TW.cells (t:TW):List Value:=[.int .i64 t.nodes,.int .i64 t.heads,.int .i64 t.height,.int .i64 t.top,.int .i64 t.links,.int .i64 t.size,.int .i64 t.u6,.int .i64 t.u7,.int .i64 t.u8,.int .i64 t.u9,.int .i64 t.u10,.int .i64 t.u11,.int .i64 t.u12]
abbrev TW.v (t:TW):Value:=.agg ⟨t.cells⟩
def TW.sound (t:TW):Prop:=1 ≤ t.height ∧ t.height ≤ 4 ∧ 1 ≤ t.size ∧ t.size ≤ 128 ∧ 0 ≤ t.nodes ∧ t.nodes < 4096 ∧ 0 ≤ t.heads ∧ t.heads < 4096
instance (t:TW):Decidable t.sound:=by unfold TW.sound; exact inferInstance
theorem sound_ok (t:TW) (G:GS):∃ G',(E orc).cl 56 [t.v] G = some (.bool (decide t.sound),G') ∧ Ext G G':=by
 refine ⟨G.push ⟨t.cells,1,false,1⟩,f56 (exL_ok Q orc) _ G _ ?_,(Ext.refl G).push _⟩
 unfold TW.sound
 by_cases h1:1 ≤ t.height
 ·by_cases h2:t.height ≤ 4
  ·by_cases h3:1 ≤ t.size
   ·by_cases h4:t.size ≤ 128
    ·by_cases h5:0 ≤ t.nodes
     ·by_cases h6:t.nodes < 4096
      ·by_cases h7:0 ≤ t.heads
       ·by_cases h8:t.heads < 4096 <;> simp [s56,h1,h2,h3,h4,h5,h6,h7,h8]
       ·simp [s56,h1,h2,h3,h4,h5,h6,h7]
      ·simp [s56,h1,h2,h3,h4,h5,h6]
     ·simp [s56,h1,h2,h3,h4,h5]
    ·simp [s56,h1,h2,h3,h4]
   ·simp [s56,h1,h2,h3]
  ·simp [s56,h1,h2]
 ·simp [s56,h1]
theorem rsound_ok (t:TW) (G:GS):∃ G',(E orc).cl 72 [t.v] G = some (.bool (decide t.sound),G') ∧ Ext G G':=by
 refine ⟨G.push ⟨t.cells,1,false,1⟩,f72 (exL_ok Q orc) _ G _ ?_,(Ext.refl G).push _⟩
 unfold TW.sound
 by_cases h1:1 ≤ t.height
 ·by_cases h2:t.height ≤ 4
  ·by_cases h3:1 ≤ t.size
   ·by_cases h4:t.size ≤ 128
    ·by_cases h5:0 ≤ t.nodes
     ·by_cases h6:t.nodes < 4096
      ·by_cases h7:0 ≤ t.heads
       ·by_cases h8:t.heads < 4096 <;> simp [s72,h1,h2,h3,h4,h5,h6,h7,h8]
       ·simp [s72,h1,h2,h3,h4,h5,h6,h7]
      ·simp [s72,h1,h2,h3,h4,h5,h6]
     ·simp [s72,h1,h2,h3,h4,h5]
    ·simp [s72,h1,h2,h3,h4]
   ·simp [s72,h1,h2,h3]
  ·simp [s72,h1,h2]
 ·simp [s72,h1]
theorem inv_head (h : Int) (G : GS) : cInvoke Q (evL Q orc) (.iface 276 (.int .i64 h)) "coxswain/tower.cells" [] G = some (.int .i64 h, G) := by
 have e : cInvoke Q (evL Q orc) (.iface 276 (.int .i64 h)) "coxswain/tower.cells" [] G = (E orc).cl 334 [.int .i64 h] G := by kernel_rfl
 rw [e]
 exact f334 (exL_ok Q orc) _ G _ (by simp [s334])
theorem heads_ok (t:TW) (G:GS):∃ G',(E orc).cl 179 [t.v] G = some (.agg ⟨[.int .i64 t.heads,.int .i64 1,.int .i64 t.height]⟩,G') ∧ Ext G G':=by
 refine ⟨((G.push ⟨t.cells,1,false,1⟩).push ⟨[.int .i64 0,.int .i64 0,.int .i64 0],1,false,1⟩).put (G.nx + 1) ⟨[.int .i64 t.heads,.int .i64 1,.int .i64 t.height],1,false,1⟩,f179 (exL_ok Q orc) _ G _ ?_,(((Ext.refl G).push _).push _).put (by omega) _⟩
 simp [s179,splice_put,splice_end]
def atI (t:TW) (i part:Int):Int :=
 if t.sound then
  if i = -1 then if 4 ≤ part ∧ part < 4 + t.height then t.heads + (part - 4) else -1
  else if 0 ≤ i ∧ i < t.size ∧ 0 ≤ part ∧ part < 4 + t.height then t.nodes + i * (4 + t.height) + part else -1
 else -1
def nextI (t:TW) (i l:Int):Int:=if 0 ≤ l ∧ l < 4 then atI t i (4 + l) else -1
def mkB:Int:=9223372036854775808
theorem inv_node (h : Int) (hh : 1 ≤ h ∧ h ≤ 4) (G : GS) : cInvoke Q (evL Q orc) (.iface 272 (.int .i64 h)) "coxswain/tower.cells" [] G = some (.int .i64 (4 + h), G) := by
 have e : cInvoke Q (evL Q orc) (.iface 272 (.int .i64 h)) "coxswain/tower.cells" [] G = (E orc).cl 333 [.int .i64 h] G := by kernel_rfl
 rw [e]
 have w:IntKind.wrap .i64 (4 + h) = 4 + h:=wrap64 (by omega) (by omega)
 exact f333 (exL_ok Q orc) _ G _ (by simp [s333,w])
theorem nodes_ok (t:TW) (G:GS):∃ G',(E orc).cl 177 [t.v] G = some (.agg ⟨[.int .i64 t.nodes,.int .i64 t.size,.int .i64 t.height]⟩,G') ∧ Ext G G':=by
 have w:Wp (s177 true (exL Q orc) t.v G) fun q=>q.1 = .agg ⟨[.int .i64 t.nodes,.int .i64 t.size,.int .i64 t.height]⟩ ∧ Ext G q.2:=by
  simp [s177,splice_put,splice_end,splice_succ]
  exact (((Ext.refl G).push _).push _).put (by simp) _
 obtain ⟨⟨v,G'⟩,e1,rfl,h⟩:=w
 exact ⟨G',f177 (exL_ok Q orc) _ G _ e1,h⟩
theorem mul_lt4 {i n w:Int} (hi:0 ≤ i ∧ i < n) (hn:n ≤ 128) (hw:1 ≤ w ∧ w ≤ 8):0 ≤ i * w ∧ i * w ≤ 1016:=by
 have h1:i * w ≤ 127 * w:=Int.mul_le_mul_of_nonneg_right (by omega) (by omega)
 have h2:0 ≤ i * w:=Int.mul_nonneg hi.1 (by omega)
 omega
theorem nat_ok {a n h:Int} (ha:0 ≤ a ∧ a < 4096) (hn:1 ≤ n ∧ n ≤ 128) (hh:1 ≤ h ∧ h ≤ 4) (i part:Int) (G:GS):∃ G',(E orc).cl 178 [.agg ⟨[.int .i64 a,.int .i64 n,.int .i64 h]⟩,.int .i64 i,.int .i64 part] G = some (.int .i64 (if 0 ≤ i ∧ i < n ∧ 0 ≤ part ∧ part < 4 + h then a + i * (4 + h) + part else -1),G') ∧ Ext G G':=by
 have w:Wp (s178 true (exL Q orc) (.agg ⟨[.int .i64 a,.int .i64 n,.int .i64 h]⟩) (.int .i64 i) (.int .i64 part) G) fun r=>r.1 = .int .i64 (if 0 ≤ i ∧ i < n ∧ 0 ≤ part ∧ part < 4 + h then a + i * (4 + h) + part else -1) ∧ Ext G r.2:=by
  have x0:Ext G (G.push ⟨[.int .i64 a,.int .i64 n,.int .i64 h],1,false,1⟩):=(Ext.refl G).push _
  by_cases h1:i < 0
  ·have:¬ 0 ≤ i:=by omega
   simp [s178,inv_node orc h hh,h1,this]; exact x0
  have h1':0 ≤ i:=by omega
  by_cases h2:n ≤ i
  ·have:¬ i < n:=by omega
   simp [s178,inv_node orc h hh,h1,h2,this]; exact x0
  have h2':i < n:=by omega
  by_cases h3:part < 0
  ·have:¬ 0 ≤ part:=by omega
   simp [s178,inv_node orc h hh,h1,h2,h3,this]; exact x0
  have h3':0 ≤ part:=by omega
  by_cases h4:4 + h ≤ part
  ·have:¬ part < 4 + h:=by omega
   simp [s178,inv_node orc h hh,h1,h2,h3,h4,this]; exact x0
  have h4':part < 4 + h:=by omega
  have hm:=mul_lt4 (w:=4 + h) ⟨h1',h2'⟩ hn.2 (by omega)
  have e1:IntKind.wrap .i64 (i * (4 + h)) = i * (4 + h):=wrap64 (by omega) (by omega)
  have e2:IntKind.wrap .i64 (a + i * (4 + h)) = a + i * (4 + h):=wrap64 (by omega) (by omega)
  have e3:IntKind.wrap .i64 (a + i * (4 + h) + part) = a + i * (4 + h) + part:=wrap64 (by omega) (by omega)
  simp [s178,inv_node orc h hh,h1,h2,h3,h4,h1',h2',h3',h4',e1,e2,e3]
  exact x0.room 12
 obtain ⟨⟨v,G'⟩,e1,rfl,e3⟩:=w
 exact ⟨G',f178 (exL_ok Q orc) _ _ _ G _ e1,e3⟩
theorem hath_ok {a n l:Int} (ha:0 ≤ a ∧ a < 4096) (hn:1 ≤ n ∧ n ≤ 4) (hl:0 ≤ l ∧ l < n) (G:GS):∃ G',(E orc).cl 180 [.agg ⟨[.int .i64 a,.int .i64 1,.int .i64 n]⟩,.int .i64 0,.int .i64 l] G = some (.int .i64 (a + l),G') ∧ Ext G G':=by
 have h1:¬ n ≤ 0:=by omega
 have h2:¬ l < 0:=by omega
 have h3:¬ n ≤ l:=by omega
 have h5:¬ 1 ≤ (0:Int):=by omega
 have h4:IntKind.wrap .i64 (a + l) = a + l:=wrap64 (by omega) (by omega)
 have w:Wp (s180 true (exL Q orc) (.agg ⟨[.int .i64 a,.int .i64 1,.int .i64 n]⟩) (.int .i64 0) (.int .i64 l) G) fun r=>r.1 = .int .i64 (a + l) ∧ Ext G r.2:=by
  by_cases hz:l = 0
  ·subst hz
   have h6:IntKind.wrap .i64 a = a:=wrap64 (by omega) (by omega)
   simp [s180,inv_head orc,h1,h6,w0]
   exact ((Ext.refl G).push _).room 12
  ·simp [s180,inv_head orc,h1,h2,h3,h4,h5,w0]
   exact ⟨by rw [show IntKind.wrap .i64 a = a from wrap64 (by omega) (by omega)]; exact h4,((Ext.refl G).push _).room 12⟩
 obtain ⟨⟨v,G'⟩,e1,rfl,e3⟩:=w
 exact ⟨G',f180 (exL_ok Q orc) _ _ _ G _ e1,e3⟩
theorem tat_ok (t:TW) (i part:Int) (G:GS):∃ G',(E orc).cl 142 [t.v,.int .i64 i,.int .i64 part] G = some (.int .i64 (atI t i part),G') ∧ Ext G G':=by
 obtain ⟨G1,hG1⟩:∃ G1,G1 = G.push ⟨t.cells,1,false,1⟩:=⟨_,rfl⟩
 have x1:Ext G G1:=by rw [hG1]; exact (Ext.refl G).push _
 have n1:G1.nx = G.nx + 1:=by rw [hG1]; rfl
 have o1:G1.obj G.nx = some ⟨t.cells,1,false,1⟩:=by rw [hG1]; simp
 obtain ⟨G2,e2,x2⟩:=sound_ok orc t G1
 have o2:=(x2.obj G.nx (by omega)).trans o1
 by_cases hs:t.sound
 ·simp only [hs,decide_true] at e2
  have h1:=hs.1
  have h2:=hs.2.1
  by_cases hi:i = -1
  ·subst hi
   have hw:IntKind.wrap .i64 (4 + t.height) = 4 + t.height:=wrap64 (by omega) (by omega)
   by_cases h3:part < 4
   ·have hv:atI t (-1) part = -1:=by unfold atI; rw [if_pos hs,if_pos rfl,if_neg (by omega)]
    refine ⟨G2,f142 (exL_ok Q orc) _ _ _ G _ ?_,x1.trans x2⟩
    simp [s142,← hG1,o1,e2,o2,hw,h3,hv]
   by_cases h4:4 + t.height ≤ part
   ·have hv:atI t (-1) part = -1:=by unfold atI; rw [if_pos hs,if_pos rfl,if_neg (by omega)]
    refine ⟨G2,f142 (exL_ok Q orc) _ _ _ G _ ?_,x1.trans x2⟩
    simp [s142,← hG1,o1,e2,o2,hw,h3,h4,hv]
   have hv:atI t (-1) part = t.heads + (part - 4):=by unfold atI; rw [if_pos hs,if_pos rfl,if_pos ⟨by omega,by omega⟩]
   have hp:IntKind.wrap .i64 (part - 4) = part - 4:=wrap64 (by omega) (by omega)
   obtain ⟨G3,e3,x3⟩:=heads_ok orc t G2
   obtain ⟨G4,e4,x4⟩:=hath_ok orc (a:=t.heads) (n:=t.height) (l:=part - 4) ⟨hs.2.2.2.2.2.2.1,hs.2.2.2.2.2.2.2⟩ ⟨h1,h2⟩ ⟨by omega,by omega⟩ G3
   refine ⟨G4,f142 (exL_ok Q orc) _ _ _ G _ ?_,((x1.trans x2).trans x3).trans x4⟩
   simp [s142,← hG1,o1,e2,o2,hw,h3,h4,hp,hv,e3,e4,w0]
  ·have hv:atI t i part = if 0 ≤ i ∧ i < t.size ∧ 0 ≤ part ∧ part < 4 + t.height then t.nodes + i * (4 + t.height) + part else -1:=by unfold atI; rw [if_pos hs,if_neg hi]
   obtain ⟨G3,e3,x3⟩:=nodes_ok orc t G2
   obtain ⟨G4,e4,x4⟩:=nat_ok orc (a:=t.nodes) (n:=t.size) (h:=t.height) ⟨hs.2.2.2.2.1,hs.2.2.2.2.2.1⟩ ⟨hs.2.2.1,hs.2.2.2.1⟩ ⟨h1,h2⟩ i part G3
   rw [← hv] at e4
   refine ⟨G4,f142 (exL_ok Q orc) _ _ _ G _ ?_,((x1.trans x2).trans x3).trans x4⟩
   simp [s142,← hG1,o1,e2,o2,e3,e4,hi]
 ·simp only [hs,decide_false] at e2
  have hv:atI t i part = -1:=by unfold atI; rw [if_neg hs]
  refine ⟨G2,f142 (exL_ok Q orc) _ _ _ G _ ?_,x1.trans x2⟩
  simp [s142,← hG1,o1,e2,hv]
theorem tnext_ok (t:TW) (i l:Int) (G:GS):∃ G',(E orc).cl 194 [t.v,.int .i64 i,.int .i64 l] G = some (.int .i64 (nextI t i l),G') ∧ Ext G G':=by
 obtain ⟨G1,hG1⟩:∃ G1,G1 = G.push ⟨t.cells,1,false,1⟩:=⟨_,rfl⟩
 have x1:Ext G G1:=by rw [hG1]; exact (Ext.refl G).push _
 have o1:G1.obj G.nx = some ⟨t.cells,1,false,1⟩:=by rw [hG1]; simp
 by_cases h1:l < 0
 ·have hv:nextI t i l = -1:=by unfold nextI; rw [if_neg (by omega)]
  refine ⟨G1,f194 (exL_ok Q orc) _ _ _ G _ ?_,x1⟩
  simp [s194,← hG1,o1,h1,hv]
 by_cases h2:4 ≤ l
 ·have hv:nextI t i l = -1:=by unfold nextI; rw [if_neg (by omega)]
  refine ⟨G1,f194 (exL_ok Q orc) _ _ _ G _ ?_,x1⟩
  simp [s194,← hG1,o1,h1,h2,hv]
 have hv:nextI t i l = atI t i (4 + l):=by unfold nextI; rw [if_pos ⟨by omega,by omega⟩]
 obtain ⟨G2,e2,x2⟩:=tat_ok orc t i (4 + l) G1
 have hw:IntKind.wrap .i64 (4 + l) = 4 + l:=wrap64 (by omega) (by omega)
 refine ⟨G2,f194 (exL_ok Q orc) _ _ _ G _ ?_,x1.trans x2⟩
 simp [s194,← hG1,o1,e2,hw,h1,h2,hv]
theorem rtat_ok (t:TW) (i part:Int) (G:GS):∃ G',(E orc).cl 208 [t.v,.int .i64 i,.int .i64 part] G = some (.int .i64 (atI t i part),G') ∧ Ext G G':=by
 obtain ⟨G1,hG1⟩:∃ G1,G1 = G.push ⟨t.cells,1,false,1⟩:=⟨_,rfl⟩
 have x1:Ext G G1:=by rw [hG1]; exact (Ext.refl G).push _
 have n1:G1.nx = G.nx + 1:=by rw [hG1]; rfl
 have o1:G1.obj G.nx = some ⟨t.cells,1,false,1⟩:=by rw [hG1]; simp
 obtain ⟨G2,e2,x2⟩:=rsound_ok orc t G1
 have o2:=(x2.obj G.nx (by omega)).trans o1
 refine ⟨G2,f208 (exL_ok Q orc) _ _ _ G _ ?_,x1.trans x2⟩
 by_cases hs:t.sound
 ·simp only [hs,decide_true] at e2
  have b1:=hs.1
  have b2:=hs.2.1
  have b3:=hs.2.2.2.1
  have b0:=hs.2.2.1
  have b4:=hs.2.2.2.2
  have hw:IntKind.wrap .i64 (4 + t.height) = 4 + t.height:=wrap64 (by omega) (by omega)
  by_cases h1:i < -1
  ·have hv:atI t i part = -1:=by unfold atI; rw [if_pos hs,if_neg (by omega),if_neg (by omega)]
   simp [s208,← hG1,o1,e2,o2,h1,hv]
  by_cases h2:t.size ≤ i
  ·have hv:atI t i part = -1:=by unfold atI; rw [if_pos hs,if_neg (by omega),if_neg (by omega)]
   simp [s208,← hG1,o1,e2,o2,h1,h2,hv]
  by_cases h3:part < 0
  ·have hv:atI t i part = -1:=by unfold atI; rw [if_pos hs]; split; rw [if_neg (by omega)]; rw [if_neg (by omega)]
   simp [s208,← hG1,o1,e2,o2,h1,h2,h3,hv]
  by_cases h4:4 + t.height ≤ part
  ·have hv:atI t i part = -1:=by unfold atI; rw [if_pos hs]; split; rw [if_neg (by omega)]; rw [if_neg (by omega)]
   simp [s208,← hG1,o1,e2,o2,h1,h2,h3,h4,hw,hv]
  by_cases h5:i < 0
  ·have hi:i = -1:=by omega
   subst hi
   by_cases h6:part < 4
   ·have hv:atI t (-1) part = -1:=by unfold atI; rw [if_pos hs,if_pos rfl,if_neg (by omega)]
    simp [s208,← hG1,o1,e2,o2,h2,h3,h4,hw,h6,hv]
   ·have hv:atI t (-1) part = t.heads + (part - 4):=by unfold atI; rw [if_pos hs,if_pos rfl,if_pos ⟨by omega,by omega⟩]
    have w1:IntKind.wrap .i64 (t.heads + part) = t.heads + part:=wrap64 (by omega) (by omega)
    have w2:IntKind.wrap .i64 (t.heads + part - 4) = t.heads + (part - 4):=by rw [wrap64 (by omega) (by omega)]; omega
    simp [s208,← hG1,o1,e2,o2,h2,h3,h4,hw,h6,hv,w1,w2]
  ·have hv:atI t i part = t.nodes + i * (4 + t.height) + part:=by unfold atI; rw [if_pos hs,if_neg (by omega),if_pos ⟨by omega,by omega,by omega,by omega⟩]
   have hm:=mul_lt4 (w:=4 + t.height) (i:=i) (n:=t.size) ⟨by omega,by omega⟩ b3 (by omega)
   have w1:IntKind.wrap .i64 (i * (4 + t.height)) = i * (4 + t.height):=wrap64 (by omega) (by omega)
   have w2:IntKind.wrap .i64 (t.nodes + i * (4 + t.height)) = t.nodes + i * (4 + t.height):=wrap64 (by omega) (by omega)
   have w3:IntKind.wrap .i64 (t.nodes + i * (4 + t.height) + part) = t.nodes + i * (4 + t.height) + part:=wrap64 (by omega) (by omega)
   simp [s208,← hG1,o1,e2,o2,h1,h2,h3,h4,h5,hw,hv,w1,w2,w3]
 ·simp only [hs,decide_false] at e2
  have hv:atI t i part = -1:=by unfold atI; rw [if_neg hs]
  simp [s208,← hG1,o1,e2,o2,hv]
theorem rnext_ok (t:TW) (i l:Int) (G:GS):∃ G',(E orc).cl 226 [t.v,.int .i64 i,.int .i64 l] G = some (.int .i64 (nextI t i l),G') ∧ Ext G G':=by
 obtain ⟨G1,hG1⟩:∃ G1,G1 = G.push ⟨t.cells,1,false,1⟩:=⟨_,rfl⟩
 have x1:Ext G G1:=by rw [hG1]; exact (Ext.refl G).push _
 have o1:G1.obj G.nx = some ⟨t.cells,1,false,1⟩:=by rw [hG1]; simp
 by_cases h1:l < 0
 ·have hv:nextI t i l = -1:=by unfold nextI; rw [if_neg (by omega)]
  refine ⟨G1,f226 (exL_ok Q orc) _ _ _ G _ ?_,x1⟩
  simp [s226,← hG1,o1,h1,hv]
 by_cases h2:4 ≤ l
 ·have hv:nextI t i l = -1:=by unfold nextI; rw [if_neg (by omega)]
  refine ⟨G1,f226 (exL_ok Q orc) _ _ _ G _ ?_,x1⟩
  simp [s226,← hG1,o1,h1,h2,hv]
 have hv:nextI t i l = atI t i (4 + l):=by unfold nextI; rw [if_pos ⟨by omega,by omega⟩]
 obtain ⟨G2,e2,x2⟩:=rtat_ok orc t i (4 + l) G1
 have hw:IntKind.wrap .i64 (4 + l) = 4 + l:=wrap64 (by omega) (by omega)
 refine ⟨G2,f226 (exL_ok Q orc) _ _ _ G _ ?_,x1.trans x2⟩
 simp [s226,← hG1,o1,e2,hw,h1,h2,hv]
theorem rindex15_ok (t:TW) {w:Int} (h:U w) (G:GS):∃ G',(E orc).cl 200 [t.v,.int .u64 w] G = some (.int .i64 (idxI t.size w),G') ∧ Ext G G':=by
 obtain ⟨G1,hG1⟩:∃ G1,G1 = G.push ⟨t.cells,1,false,1⟩:=⟨_,rfl⟩
 have x1:Ext G G1:=by rw [hG1]; exact (Ext.refl G).push _
 have o1:G1.obj G.nx = some ⟨t.cells,1,false,1⟩:=by rw [hG1]; simp
 obtain ⟨G2,e2,x2⟩:=rindex_ok orc (a:=t.top) (b:=t.links) (size:=t.size) h G1
 refine ⟨G2,f200 (exL_ok Q orc) _ _ G _ ?_,x1.trans x2⟩
 simp [s200,← hG1,o1,e2]
theorem shr_63 {w:Int} (h:U w):shrI .u64 w 63 = w / 9223372036854775808:=by
 show w.fdiv (2 ^ (min (63:Int).toNat 64)) = _
 rw [show (min (63:Int).toNat 64) = 63 from rfl,Int.fdiv_eq_ediv_of_nonneg _ (by decide)]; rfl
theorem marked_ok {w:Int} (h:U w) (G:GS):(E orc).cl 264 [.int .u64 w] G = some (.bool (decide (9223372036854775808 ≤ w)),G):=by
 refine f264 (exL_ok Q orc) _ G _ ?_
 have h1:=h.1; have h2:=h.2
 have e:(w / 9223372036854775808 = 1) = (9223372036854775808 ≤ w):=by rw [eq_iff_iff]; omega
 simp [s264,shr_63 h,e]
def mkI (m:Bool):Int:=if m then 9223372036854775808 else 0
def refOk (w:Int):Prop:=¬ (w % 65536 = 0 ∧ w / 65536 % 4294967296 ≠ 0) ∧ w = w % 65536 + (w / 65536 % 4294967296) * 65536 + mkI (decide (9223372036854775808 ≤ w))
instance (w:Int):Decidable (refOk w):=by unfold refOk; exact inferInstance
abbrev Own (own:Nat → Nat) (t:Nat):Nat → Prop:=fun x=>own x = t
section
variable {t u m r b:Nat} {B:Nat → Prop} {own own1 own2:Nat → Nat} {G G1 G2:GS} {s s' s1:MS}
theorem PW.extT (w:PW B own G own1 G1 m s) (x:Ext G1 G2) (t:Nat):PW B own G (grown own1 G1 t) G2 m s :=
 ⟨w.stp.trans (B':=no) (Stp.extA x grown_agr) fun _ _ h=>h.elim,w.pm.to (t:=11) (B:=no) (Stp.extA x grown_agr) (by decide) fun _ _ h=>h.elim⟩
theorem RW.extT (w:RW B own G own1 G1 r s) (x:Ext G1 G2) (t:Nat):RW B own G (grown own1 G1 t) G2 r s :=
 ⟨w.stp.trans (B':=no) (Stp.extA x grown_agr) fun _ _ h=>h.elim,w.rm.to (t:=10) (B:=no) (Stp.extA x grown_agr) (by decide) fun _ _ h=>h.elim⟩
theorem PW.tr (w:PW (Own own t) own G own1 G1 m s) (k:PW (Own own1 t) own1 G1 own2 G2 m s'):PW (Own own t) own G own2 G2 m s':=w.trans k fun _ hx h=>(w.stp.same hx).symm.trans h
theorem RW.tr (w:RW (Own own t) own G own1 G1 r s) (k:RW (Own own1 t) own1 G1 own2 G2 r s'):RW (Own own t) own G own2 G2 r s':=w.trans k fun _ hx h=>(w.stp.same hx).symm.trans h
theorem PW.any (w:PW no own G own1 G1 m s):PW B own G own1 G1 m s:=w.mono fun _ _ h=>h.elim
theorem RW.any (w:RW no own G own1 G1 r s):RW B own G own1 G1 r s:=w.mono fun _ _ h=>h.elim
theorem PW.putT (w:PW (Own own t) own G own1 G1 m s) (hb:own1 b = t) (ht:t ≠ 10) (o:GObj):PW (Own own t) own G own1 (G1.put b o) m s:=by
 refine w.put ?_ (fun _=>by rw [hb]; exact ht) o
 by_cases hl:b < G.nx
 ·exact .inl ((w.stp.same hl).symm.trans hb)
 ·exact .inr (by omega)
theorem RW.putT (w:RW (Own own t) own G own1 G1 r s) (hb:own1 b = t) (ht:t ≠ 11) (o:GObj):RW (Own own t) own G own1 (G1.put b o) r s:=by
 refine w.put ?_ (fun _=>by rw [hb]; exact ht) o
 by_cases hl:b < G.nx
 ·exact .inl ((w.stp.same hl).symm.trans hb)
 ·exact .inr (by omega)
theorem PW.modT (w:PW (Own own t) own G own1 G1 m s) (q:ModP (Own own1 t) G1 G2) (ht:t ≠ 10) (u:Nat):PW (Own own t) own G (grown own1 G1 u) G2 m s :=
 w.tr ⟨⟨grown_agr,q.mono fun _ h=>.inr h⟩,w.pm.to (t:=t) (B:=Own own1 t) ⟨grown_agr,q.mono fun _ h=>.inl h⟩ ht fun _ _ h=>by rw [h]; exact ht⟩
theorem RW.modT (w:RW (Own own t) own G own1 G1 r s) (q:ModP (Own own1 t) G1 G2) (ht:t ≠ 11) (u:Nat):RW (Own own t) own G (grown own1 G1 u) G2 r s :=
 w.tr ⟨⟨grown_agr,q.mono fun _ h=>.inr h⟩,w.rm.to (t:=t) (B:=Own own1 t) ⟨grown_agr,q.mono fun _ h=>.inl h⟩ ht fun _ _ h=>by rw [h]; exact ht⟩
theorem PW.keepT (w:PW (Own own t) own G own1 G1 m s) {g:Nat} (hg:g < G.nx) (hu:own g = u) (h1:u ≠ 10) (h2:u ≠ t):G1.obj g = G.obj g:=w.keep hg (by rw [hu]; exact h1) fun k=>h2 (hu.symm.trans k)
end
structure At (own:Nat → Nat) (t:Nat) (G:GS) (b:Nat):Prop where
 lt:b < G.nx
 tag:own b = t
theorem At.to {own own':Nat → Nat} {t b:Nat} {G G':GS} (h:At own t G b) (hn:G.nx ≤ G'.nx) (a:Agr own own' G):At own' t G' b:=⟨Nat.lt_of_lt_of_le h.lt hn,(a _ h.lt).trans h.tag⟩
section
variable {t u m r b:Nat} {B:Nat → Prop} {own own1 own2:Nat → Nat} {G G1 G2:GS} {s s' s1:MS}
theorem At.putO (h:At own t G b) (g:Nat) (o:GObj):At own t (G.put g o) b:=⟨h.lt,h.tag⟩
theorem At.extO (h:At own t G b) (x:Ext G G1) (u:Nat):At (grown own G u) t G1 b:=h.to x.nx grown_agr
end
structure Opx (X:Type) where
 e:RowE X
 ok:(Nat → Nat) → GS → Nat → X → Prop
 to:∀ {own own':Nat → Nat} {G G':GS} {i:Nat} {x:X},ok own G i x → G.nx ≤ G'.nx → (∀ g,g < G.nx → own g = i ∨ own g = 100 + i → G'.obj g = G.obj g) → Agr own own' G → ok own' G' i x
section
variable {X:Type} {O O':Opx X} {n m r b cb t i:Nat} {B:Nat → Prop} {own own':Nat → Nat} {G G' G1:GS} {s s':MS} {L:List X} {ts:List Nat} {x y:X}
end
def TW.lok (t:TW):Prop:=1 ≤ t.size ∧ t.size ≤ 4096 ∧ 0 ≤ t.links ∧ t.links + t.size ≤ 4096 ∧ 0 ≤ t.u12 ∧ t.u12 + 2 < 4096
abbrev lmL (t:TW):List Value:=[.int .i64 t.top,.int .i64 t.links,.int .i64 t.size,.int .i64 t.u6,.int .i64 t.u7,.int .i64 t.u8,.int .i64 t.u9,.int .i64 t.u10,.int .i64 t.u11,.int .i64 t.u12]
abbrev bfn (f:FuncId) (b:Nat):Value:=.func (.func f) #[P0 b] #[]
theorem Ext.drawnO {A G':GS} (h:Ext A G') {n:Nat} (hn:A.nx ≤ n) (o:GObj):Ext A (((G'.at' n).push o).back G'):=by
 refine ⟨by simpa using h.nx,fun g hg=>?_,by simpa using h.nl,fun l hl=>by simpa using h.loop l hl⟩
 simp only [obj_back,obj_push,nx_at,obj_at]
 rw [if_neg (by omega)]
 exact h.obj g hg
theorem U_sub {w:Int} (h:U w) (hm:mkB ≤ w):U (w - mkB):=by have:=h.2; have:=h.1; unfold mkB at *; unfold U; omega
theorem andNot_63' {w:Int} (h0:9223372036854775808 ≤ w) (h1:w < 18446744073709551616):andNotI .u64 w 9223372036854775808 = w - 9223372036854775808:=by
 obtain ⟨n,rfl⟩:=Int.eq_ofNat_of_zero_le (show 0 ≤ w by omega)
 show IntKind.wrap .u64 (((BitVec.ofInt 64 (n:Int) &&& ~~~ BitVec.ofInt 64 9223372036854775808).toNat:Nat):Int) = _
 have e1:BitVec.ofInt 64 (n:Int) = BitVec.ofNat 64 n:=BitVec.ofInt_natCast ..
 have e2:BitVec.ofInt 64 9223372036854775808 = BitVec.ofNat 64 9223372036854775808:=by decide
 have e3:(BitVec.ofNat 64 n &&& ~~~ BitVec.ofNat 64 9223372036854775808).toNat = n - 9223372036854775808:=by
  have e4 : ~~~ BitVec.ofNat 64 9223372036854775808 = BitVec.ofNat 64 (2 ^ 63 - 1):=by decide
  rw [e4]
  simp only [BitVec.toNat_and,BitVec.toNat_ofNat]
  rw [Nat.mod_eq_of_lt (show n < 2 ^ 64 by omega),Nat.mod_eq_of_lt (show 2 ^ 63 - 1 < 2 ^ 64 by decide),Nat.and_two_pow_sub_one_eq_mod]
  omega
 rw [e1,e2,e3,wrap_u64]
 omega
theorem turn_ok (t:TW) (n:Int) (G:GS):∃ G',(E orc).cl 98 [.int .i64 n,.agg ⟨lmL t⟩] G = some (.agg ⟨[.int .i64 (IntKind.wrap .i64 (t.u12 + n)),.int .i64 t.links,.int .i64 t.size]⟩,G') ∧ Ext G G':=by
 refine ⟨((G.push ⟨lmL t,1,false,1⟩).push ⟨[.int .i64 0,.int .i64 0,.int .i64 0],1,false,1⟩).put (G.nx + 1) ⟨[.int .i64 (IntKind.wrap .i64 (t.u12 + n)),.int .i64 t.links,.int .i64 t.size],1,false,1⟩,f98 (exL_ok Q orc) _ _ G _ ?_,(((Ext.refl G).push _).push _).put (by omega) _⟩
 simp [s98,splice_put,splice_end]
section
variable {own own' own1 own2:Nat → Nat} {tag tg m r b:Nat} {t:TW} {G G' G1 G2:GS} {s s' s1:MS}
theorem marks_u {w:Int} (h:U w) (hm:mkB ≤ w) (G:GS):(E orc).cl 261 [.int .u64 w,.bool false] G = some (.int .u64 (w - 9223372036854775808),G):=by
 refine f261 (exL_ok Q orc) _ _ G _ ?_
 simp [s261,andNot_63' (show 9223372036854775808 ≤ w from hm) h.2]
theorem At.keep (h:At own tag G b) (ht:tag ≠ 10) (w:PW no own G own1 G1 m s'):G1.obj b = G.obj b:=w.keep h.lt (by rw [h.tag]; exact ht) id
theorem lmarked_ok {v:Int} (h:U v) (G:GS):(E orc).cl 323 [.int .u64 v] G = some (.bool (decide (9223372036854775808 ≤ v)),G) :=
 f323 (exL_ok Q orc) _ G _ (by simp [s323,marked_ok orc h])
theorem lmarks_f {v:Int} (h:U v) (hm:mkB ≤ v) (G:GS):(E orc).cl 324 [.int .u64 v,.bool false] G = some (.int .u64 (v - mkB),G) :=
 f324 (exL_ok Q orc) _ _ G _ (by
  have:=marks_u orc h hm G
  simp [s324,this]; rfl)
theorem extPP {G:GS} (o o':GObj):Ext G ((G.push o).put G.nx o'):=((Ext.refl G).push _).put (Nat.le_refl _) _
theorem next0_s (hs:t.sound):nextI t (-1) 0 = t.heads:=by
 have:=hs.1
 unfold nextI atI
 rw [if_pos (by decide),if_pos hs,if_pos rfl,if_pos (by omega)]
 omega
abbrev Ow2 (own:Nat → Nat) (t u:Nat):Nat → Prop:=fun x=>own x = t ∨ own x = u
theorem PW.keep2 (w:PW (Ow2 own tag tg) own G own1 G1 m s) {g:Nat} (hg:g < G.nx) (h1:own g ≠ 10) (h2:own g ≠ tag) (h3:own g ≠ tg):G1.obj g = G.obj g:=w.keep hg h1 fun k=>k.elim h2 h3
theorem RW.keep2 (w:RW (Ow2 own tag tg) own G own1 G1 r s) {g:Nat} (hg:g < G.nx) (h1:own g ≠ 11) (h2:own g ≠ tag) (h3:own g ≠ tg):G1.obj g = G.obj g:=w.keep hg h1 fun k=>k.elim h2 h3
theorem At.rkeep (h:At own tag G b) (ht:tag ≠ 11) (w:RW no own G own1 G1 r s'):G1.obj b = G.obj b:=w.keep h.lt (by rw [h.tag]; exact ht) id
end
end Go.Proofs.YtedmgpchggogpaaGreat.Lift
