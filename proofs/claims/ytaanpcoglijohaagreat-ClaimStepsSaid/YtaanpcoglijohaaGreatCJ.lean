import Derived.Test.YtaanpcoglijohaaGreatCC
import Derived.Test.YtaanpcoglijohaaGreatCF
set_option linter.unusedVariables false
set_option linter.unusedSimpArgs false
set_option maxRecDepth 20000
namespace Go.Proofs.YtaanpcoglijohaaGreat.Lift
open Go Go.Proofs.YtaanpcoglijohaaGreat.Gh Go.Proofs
def TW.A (t:TW):Ar:=⟨t.top,t.links,t.size,t.u6,t.u7,t.u8⟩
theorem many_ok (orc:FuncId → Bool) (c:Int) (G:GS):(E orc).cl 179 [.int .i64 c] G = some (.bool (decide (1 ≤ c ∧ c ≤ 64)),G):=by
 refine f179 (exL_ok Q orc) _ G _ ?_
 by_cases h1:1 ≤ c
 ·by_cases h2:c ≤ 64 <;> simp [s179,h1,h2]
 ·simp [s179,h1]
section
variable {G B:GS} {t:TW} {n:Int}
theorem r12fits_ok (orc:FuncId → Bool) (at_ pins cores n:Int) (G:GS):∃ code G',(E orc).cl 134 [.agg ⟨[.int .i64 at_,.int .i64 pins,.int .i64 cores]⟩,.int .i64 n] G = some (.int .i64 code,G') ∧ Ext G G' ∧ (code = 0 → 1 ≤ cores ∧ cores ≤ 64):=by
 have w:Wp (s134 true (exL Q orc) (.agg ⟨[.int .i64 at_,.int .i64 pins,.int .i64 cores]⟩) (.int .i64 n) G) fun q=>∃ code,q.1 = .int .i64 code ∧ Ext G q.2 ∧ (code = 0 → 1 ≤ cores ∧ cores ≤ 64):=by
  obtain ⟨G1,hG1⟩:∃ G1,G1 = G.push ⟨[.int .i64 at_,.int .i64 pins,.int .i64 cores],1,false,1⟩:=⟨_,rfl⟩
  have x1:Ext G G1:=by rw [hG1]; exact (Ext.refl G).push _
  have o1:G1.obj G.nx = some ⟨[.int .i64 at_,.int .i64 pins,.int .i64 cores],1,false,1⟩:=by rw [hG1]; simp
  have em:=many_ok orc cores G1
  by_cases c1:n < 1
  ·simp [s134,← hG1,c1]; exact x1
  by_cases c2:4096 < n
  ·simp [s134,← hG1,c1,c2]; exact x1
  by_cases h0:1 ≤ cores ∧ cores ≤ 64
  ·have h0':=h0
   obtain ⟨k1,k2⟩:=h0
   simp only [h0',and_self,decide_true] at em
   have w1:IntKind.wrap .i64 (n - cores) = n - cores:=wrap64 (by omega) (by omega)
   by_cases h1:at_ < 0
   ·simp [s134,← hG1,c1,c2,o1,em,h1,k1,k2]; exact x1
   by_cases h2:n ≤ at_
   ·simp [s134,← hG1,c1,c2,o1,em,h1,h2,k1,k2]; exact x1
   by_cases h3:pins < 0
   ·simp [s134,← hG1,c1,c2,o1,em,h1,h2,h3,k1,k2]; exact x1
   by_cases h4:n - cores < pins
   ·simp [s134,← hG1,c1,c2,o1,em,h1,h2,h3,w1,h4,k1,k2]; exact x1
   have w2:IntKind.wrap .i64 (pins + cores) = pins + cores:=wrap64 (by omega) (by omega)
   by_cases h5:pins ≤ at_
   ·by_cases h6:at_ < pins + cores
    ·simp [s134,← hG1,c1,c2,o1,em,h1,h2,h3,w1,h4,w2,h5,h6,k1,k2]; exact x1
    ·simp [s134,← hG1,c1,c2,o1,em,h1,h2,h3,w1,h4,w2,h5,h6,k1,k2]; exact x1
   ·simp [s134,← hG1,c1,c2,o1,em,h1,h2,h3,w1,h4,w2,h5,k1,k2]; exact x1
  ·simp only [h0,decide_false] at em
   simp [s134,← hG1,c1,c2,o1,em]; exact x1
 obtain ⟨⟨v,G'⟩,e1,code,rfl,e2,e3⟩:=w
 exact ⟨code,G',f134 (exL_ok Q orc) _ _ G _ e1,e2,e3⟩
def seqN (base:Int):Nat → Nat → List Int
 | 0,_=>[]
 | k + 1,i=>IntKind.wrap .i64 (base + i) :: seqN base k (i + 1)
theorem seqN_length (base:Int):∀ k i,(seqN base k i).length = k
 | 0,_=>rfl
 | k + 1,i=>by simp [seqN,seqN_length base k (i + 1)]
def limL (t:TW):List Int:=(arL t.A ++ [t.u9,t.u12,IntKind.wrap .i64 (t.u12 + 1),IntKind.wrap .i64 (t.u12 + 2)]) ++ seqN t.u10 t.u11.toNat 0
theorem r13cells_lp (orc:FuncId → Bool) {rb:Nat} (hB:B.obj rb = some ⟨lmL t,1,false,1⟩) (hrb:rb < B.nx) {M:Nat} (hM:M ≤ 10000) {k0:Nat} (hk:t.u11 = k0) (hk64:k0 ≤ 64):∀ (k i:Nat) (τ:Env) (G:GS) (L:List Int) (v:Value),i + k = k0 → L.length ≤ M + i → Ext B G → OwR (rowsI .i64) B.nx G v L → τ 1 = P0 rb → τ 3 = v → τ 4 = .int .i64 i →
  Wp ((exL Q orc).lpx 76 0 τ G) fun q=>q.1 = .exit 0 ∧ Ext B q.2.2 ∧ OwR (rowsI .i64) B.nx q.2.2 (q.2.1 3) (L ++ seqN t.u10 k i):=by
 intro k
 induction k with
 | zero =>
  intro i τ G L v hi hL hx hv t1 t3 t4
  have ho:=(hx.obj rb hrb).trans hB
  have hi':((i:Nat):Int) = t.u11:=by omega
  refine Wp.lp (l76_0 (exL_ok Q orc)) ?_
  simp [b76_0,clip_t,t1,t3,t4,ho,hi',seqN]
  exact ⟨hx,hv⟩
 | succ k ih =>
  intro i τ G L v hi hL hx hv t1 t3 t4
  have ho:=(hx.obj rb hrb).trans hB
  have hlt:((i:Nat):Int) < t.u11:=by omega
  have hw:IntKind.wrap .i64 ((i:Int) + 1) = ((i + 1:Nat):Int):=wrap64 (by omega) (by omega)
  generalize ha:IntKind.wrap .i64 (t.u10 + i) = a
  have x1:Ext G (G.push ⟨(rowsI .i64).flat [a],1,false,1⟩):=(Ext.refl G).push _
  have hs:SlR (rowsI .i64) (G.push ⟨(rowsI .i64).flat [a],1,false,1⟩) (.slice (some ⟨G.nx,0,none⟩) 1 1) [a]:=SlR.block (e:=rowsI .i64) (L:=[a]) (op:=false) (b:=G.nx) (by rw [obj_push,if_pos rfl]; rfl) (by simp)
  obtain ⟨v',G4,e6,x6,w6⟩:=(hv.ext x1).app (A:=B) (ib:=8) (by decide) (hx.trans x1) hs (by simp; omega)
  have hfl:(rowsI .i64).flat [a] = [.int .i64 a]:=rfl
  simp only [rowsI_sz,hfl] at e6
  refine Wp.lp (l76_0 (exL_ok Q orc)) ?_
  simp [-Int.natCast_add,b76_0,clip_t,t1,t3,t4,ho,hlt,ha,hw,fillS,fillC,zipF,rep,splice_put,splice_end,splice_succ,e6]
  refine (ih (i + 1) _ G4 (L ++ [a]) v' (by omega) (by simp; omega) x6 w6 (by simp [clip_t]) (by simp [clip_t]) (by simp [clip_t])).mono ?_
  rintro q ⟨q1,q2,q3⟩
  exact ⟨q1,q2,by simpa [seqN,ha] using q3⟩
theorem r13cells_ok (orc:FuncId → Bool) (hz1:1 ≤ t.size) (hz:t.size ≤ 4096) (hc:0 ≤ t.u11 ∧ t.u11 ≤ 64) (G:GS):∃ v G',(E orc).cl 76 [.agg ⟨lmL t⟩] G = some (v,G') ∧ Ext G G' ∧ OwR (rowsI .i64) G.nx G' v (limL t):=by
 have w:Wp (s76 true (exL Q orc) (.agg ⟨lmL t⟩) G) fun q=>Ext G q.2 ∧ OwR (rowsI .i64) G.nx q.2 q.1 (limL t):=by
  obtain ⟨G1,hG1⟩:∃ G1,G1 = G.push ⟨lmL t,1,false,1⟩:=⟨_,rfl⟩
  have x1:Ext G G1:=by rw [hG1]; exact (Ext.refl G).push _
  have o1:G1.obj G.nx = some ⟨lmL t,1,false,1⟩:=by rw [hG1]; simp
  have n1:G1.nx = G.nx + 1:=by rw [hG1]; rfl
  obtain ⟨v2,G2,e2,x2,w2⟩:=rcells_ok orc (A:=t.A) hz1 hz (G1.room 17)
  have y2:=((Ext.refl G1).room 17).trans x2
  have n2:=x2.nx
  simp at n2
  have o2:=(y2.obj G.nx (by omega)).trans o1
  obtain ⟨L4,hL4⟩:∃ L4,L4 = [t.u9,t.u12,IntKind.wrap .i64 (t.u12 + 1),IntKind.wrap .i64 (t.u12 + 2)]:=⟨_,rfl⟩
  obtain ⟨G3,hG3⟩:∃ G3,G3 = ((G2.at' (G1.nx + 14)).push ⟨[.int .i64 t.u9,.int .i64 t.u12,.int .i64 (IntKind.wrap .i64 (t.u12 + 1)),.int .i64 (IntKind.wrap .i64 (t.u12 + 2))],1,false,1⟩).back G2:=⟨_,rfl⟩
  have x3:Ext G1 G3:=by rw [hG3]; exact Ext.drawnO y2 (by omega) _
  have n3:G3.nx = G2.nx:=by rw [hG3]; simp
  have ob3:∀ g,g ≠ G1.nx + 14 → G3.obj g = G2.obj g:=fun g hg=>by rw [hG3]; simp [hg]
  have o3:=(x3.obj G.nx (by omega)).trans o1
  have w3:OwR (rowsI .i64) G1.nx G3 v2 (arL t.A):=by
   refine (w2.mono (by simp)).kept (by omega) fun g hg=>ob3 g ?_
   obtain ⟨a,nn,cc,he,hb⟩:=hg
   have:=w2.ge a nn cc he
   simp at this
   omega
  have hs:SlR (rowsI .i64) G3 (.slice (some ⟨G1.nx + 14,0,none⟩) 4 4) L4:=by
   rw [hL4]
   exact SlR.block (G:=G3) (e:=rowsI .i64) (L:=[t.u9,t.u12,IntKind.wrap .i64 (t.u12 + 1),IntKind.wrap .i64 (t.u12 + 2)]) (op:=false) (b:=G1.nx + 14) (by rw [hG3]; simp; rfl) (by omega)
  have hlen:(arL t.A).length ≤ 9000:=by simp only [arL,List.length_cons,arN_length,TW.A]; omega
  obtain ⟨v4,G4,e4,x4,w4⟩:=w3.app (A:=G1) (ib:=8) (by decide) x3 hs (by rw [hL4]; simp; omega)
  simp only [rowsI_sz] at e4
  obtain ⟨k0,hk0⟩:∃ k0:Nat,t.u11 = k0:=⟨t.u11.toNat,by omega⟩
  simp [TW.A] at e2
  simp [s76,← hG1,o1,e2,o2,fillS,fillC,zipF,rep,splice_put,splice_end,splice_succ]
  rw [← hG3]
  simp [e4]
  refine Wp.bE ((r13cells_lp orc (B:=G1) (M:=9100) o1 (by omega) (by omega) hk0 (by omega) k0 0 _ G4 (arL t.A ++ L4) v4 (by omega) (by rw [hL4]; simp; omega) x4 w4 (by simp) (by simp) (by simp)).mono ?_)
  rintro ⟨e,τ,G5⟩ ⟨rfl,q2,q3⟩
  simp only at q2 q3
  simp
  refine ⟨x1.trans q2,?_⟩
  have:=q3.mono (B':=G.nx) (by omega)
  rw [hL4] at this
  simpa [limL,hk0] using this
 obtain ⟨⟨v,G'⟩,e1,e2,e3⟩:=w
 exact ⟨v,G',f76 (exL_ok Q orc) _ G _ e1,e2,e3⟩
end
end Go.Proofs.YtaanpcoglijohaaGreat.Lift
set_option linter.unusedVariables false
set_option linter.unusedSimpArgs false
set_option maxRecDepth 20000
namespace Go.Proofs.YtaanpcoglijohaaGreat.Lift
open Go Go.Proofs.YtaanpcoglijohaaGreat.Gh Go.Proofs
theorem apF_all {L:List Int} {n:Int} (h:apF L n L.length 0 = true):∀ x ∈ L,0 ≤ x ∧ x < n:=by
 intro x hx
 obtain ⟨j,hj,rfl⟩:=List.getElem_of_mem hx
 have:=(apF_iff L n L.length 0).1 h j (by omega) (by omega)
 unfold apC at this
 rw [List.getElem?_eq_getElem hj] at this
 exact ⟨this.1,this.2.1⟩
theorem fits_zero {A:Ar} {c:Int} (hg:-9223372036854775808 ≤ A.gens ∧ A.gens ≤ 9223372036854775807) (h:rfitsI A c = 0):1 ≤ c ∧ c ≤ 4096 ∧ A.ok:=by
 unfold rfitsI at h
 split at h
 ·cases h
 ·split at h
  ·rename_i c1 h1
   obtain ⟨⟨⟨s1,s2⟩,s3,s4,s5,s6,s7⟩,⟨l1,l2⟩,ha⟩:=h1
   simp only at s1 s2 s3 s4 s5 s6 s7
   have hall:=apF_all ha
   have hw:=hall A.worn (by simp [arL])
   have g0:=(arL_at A (j:=0) (by omega)).2
   have g1:=(arL_at A (j:=A.size.toNat - 1) (by omega)).2
   have h0:=hall _ (List.mem_of_getElem? g0)
   have h1:=hall _ (List.mem_of_getElem? g1)
   rw [show A.gens + ((0:Nat):Int) = A.gens by omega,wrap64 (by omega) (by omega)] at h0
   rw [wrap64 (by omega) (by omega)] at h1
   exact ⟨by omega,by omega,⟨s1,s2,s3,by simp only; omega,s5,by simp only; omega⟩,h0.1,by omega,hw.1,by omega,l1,l2⟩
  ·cases h
def TW.good (t:TW) (n:Int):Prop:=1 ≤ n ∧ n ≤ 4096 ∧ t.A.ok ∧ t.lok ∧ 1 ≤ t.u11 ∧ t.u11 ≤ 64
section
variable {G B:GS} {t:TW} {n:Int}
theorem r13fits_ok (orc:FuncId → Bool) (hg:-9223372036854775808 ≤ t.u6 ∧ t.u6 ≤ 9223372036854775807) (n:Int) (G:GS):∃ code G',(E orc).cl 74 [.agg ⟨lmL t⟩,.int .i64 n] G = some (.int .i64 code,G') ∧ Ext G G' ∧ (code = 0 → t.good n):=by
 have w:Wp (s74 true (exL Q orc) (.agg ⟨lmL t⟩) (.int .i64 n) G) fun q=>∃ code,q.1 = .int .i64 code ∧ Ext G q.2 ∧ (code = 0 → t.good n):=by
  obtain ⟨G1,hG1⟩:∃ G1,G1 = G.push ⟨lmL t,1,false,1⟩:=⟨_,rfl⟩
  have x1:Ext G G1:=by rw [hG1]; exact (Ext.refl G).push _
  have o1:G1.obj G.nx = some ⟨lmL t,1,false,1⟩:=by rw [hG1]; simp
  have n1:G1.nx = G.nx + 1:=by rw [hG1]; rfl
  by_cases c1:n < 1
  ·simp [s74,← hG1,c1]; exact x1
  by_cases c2:4096 < n
  ·simp [s74,← hG1,c1,c2]; exact x1
  obtain ⟨G2,e2,x2⟩:=rafits_ok orc t.A n G1
  have hz:=fits_zero (A:=t.A) (c:=n) hg
  have hsz:rfitsI t.A n = 0 → 1 ≤ t.size ∧ t.size ≤ 4096:=fun h=>⟨(hz h).2.2.1.1,(hz h).2.2.1.2.1⟩
  have hlk:rfitsI t.A n = 0 → 0 ≤ t.links ∧ t.links + t.size ≤ 4096:=fun h=>⟨(hz h).2.2.1.2.2.2.2.1,(hz h).2.2.1.2.2.2.2.2⟩
  generalize rfitsI t.A n = c0 at *
  simp [TW.A] at e2
  have y2:=x1.trans x2
  have o2:=(x2.obj G.nx (by omega)).trans o1
  by_cases d1:c0 = 0
  ·subst d1
   obtain ⟨code3,G3,e3,x3,f3⟩:=r12fits_ok orc t.u9 t.u10 t.u11 n G2
   have y3:=y2.trans x3
   have n2:=x2.nx
   have n3:=x3.nx
   have o3:=(x3.obj G.nx (by omega)).trans o2
   by_cases d2:code3 = 0
   ·subst d2
    obtain ⟨k1,k2⟩:=f3 rfl
    obtain ⟨v,G4,e4,x4,w4⟩:=r13cells_ok orc (t:=t) (hsz rfl).1 (hsz rfl).2 (by omega) G3
    have hlen:(limL t).length < 2 ^ 40:=by
     simp only [limL,List.length_append,arL,List.length_cons,arN_length,seqN_length,TW.A,List.length_nil]
     have:=(hsz rfl).2
     omega
    obtain ⟨G5,e5,x5⟩:=rapart_ok orc (n:=n) w4.is hlen
    have y5:=(y3.trans x4).trans x5
    cases h3:apF (limL t) n (limL t).length 0 with
    | true =>
     rw [h3] at e5
     have hall:=apF_all h3
     have a1:=hall t.u12 (by simp [limL])
     have a2:=hall (IntKind.wrap .i64 (t.u12 + 2)) (by simp [limL])
     rw [wrap64 (by omega) (by omega)] at a2
     simp [s74,← hG1,c1,c2,o1,e2,o2,e3,o3,e4,e5]
     exact ⟨y5,by omega,by omega,(hz rfl).2.2,⟨(hsz rfl).1,(hsz rfl).2,(hlk rfl).1,(hlk rfl).2,a1.1,by omega⟩,k1,k2⟩
    | false =>
     rw [h3] at e5
     simp [s74,← hG1,c1,c2,o1,e2,o2,e3,o3,e4,e5]; exact y5
   ·simp [s74,← hG1,c1,c2,o1,e2,o2,e3,o3,d2]; exact y3
  ·simp [s74,← hG1,c1,c2,o1,e2,o2,d1]; exact y2
 obtain ⟨⟨v,G'⟩,e1,code,rfl,e2,e3⟩:=w
 exact ⟨code,G',f74 (exL_ok Q orc) _ _ G _ e1,e2,e3⟩
theorem rown_lp0 (orc:FuncId → Bool) {rb:Nat} (hB:B.obj rb = some ⟨t.cells,1,false,1⟩) (hrb:rb < B.nx) (hs:t.sound) {k0:Nat} (hk:t.size * (4 + t.height) = k0) (hk64:k0 ≤ 1024):∀ (k i:Nat) (τ:Env) (G:GS) (L:List Int) (v:Value),i + k = k0 → L.length ≤ i → Ext B G → OwR (rowsI .i64) B.nx G v L → τ 1 = P0 rb → τ 3 = v → τ 4 = .int .i64 i →
  Wp ((exL Q orc).lpx 77 0 τ G) fun q=>q.1 = .exit 0 ∧ q.2.1 1 = P0 rb ∧ Ext B q.2.2 ∧ OwR (rowsI .i64) B.nx q.2.2 (q.2.1 3) (L ++ seqN t.nodes k i):=by
 obtain ⟨s1,s2,s3,s4,-⟩:=hs
 have wh:IntKind.wrap .i64 (4 + t.height) = 4 + t.height:=wrap64 (by omega) (by omega)
 have wm:IntKind.wrap .i64 (t.size * (4 + t.height)) = k0:=by rw [hk]; exact wrap64 (by omega) (by omega)
 intro k
 induction k with
 | zero =>
  intro i τ G L v hi hL hx hv t1 t3 t4
  have ho:=(hx.obj rb hrb).trans hB
  have hi':i = k0:=by omega
  subst hi'
  refine Wp.lp (l77_0 (exL_ok Q orc)) ?_
  simp [b77_0,clip_t,t1,t3,t4,ho,wh,wm,seqN]
  exact ⟨hx,hv⟩
 | succ k ih =>
  intro i τ G L v hi hL hx hv t1 t3 t4
  have ho:=(hx.obj rb hrb).trans hB
  have hlt:i < k0:=by omega
  have hw:IntKind.wrap .i64 ((i:Int) + 1) = ((i + 1:Nat):Int):=wrap64 (by omega) (by omega)
  generalize ha:IntKind.wrap .i64 (t.nodes + i) = a
  have x1:Ext G (G.push ⟨(rowsI .i64).flat [a],1,false,1⟩):=(Ext.refl G).push _
  have hs:SlR (rowsI .i64) (G.push ⟨(rowsI .i64).flat [a],1,false,1⟩) (.slice (some ⟨G.nx,0,none⟩) 1 1) [a]:=SlR.block (e:=rowsI .i64) (L:=[a]) (op:=false) (b:=G.nx) (by rw [obj_push,if_pos rfl]; rfl) (by simp)
  obtain ⟨v',G4,e6,x6,w6⟩:=(hv.ext x1).app (A:=B) (ib:=8) (by decide) (hx.trans x1) hs (by simp; omega)
  have hfl:(rowsI .i64).flat [a] = [.int .i64 a]:=rfl
  simp only [rowsI_sz,hfl] at e6
  refine Wp.lp (l77_0 (exL_ok Q orc)) ?_
  simp [-Int.natCast_add,b77_0,clip_t,t1,t3,t4,ho,wh,wm,hlt,ha,hw,fillS,fillC,zipF,rep,splice_put,splice_end,splice_succ,e6]
  refine (ih (i + 1) _ G4 (L ++ [a]) v' (by omega) (by simp; omega) x6 w6 (by simp [clip_t]) (by simp [clip_t]) (by simp [clip_t])).mono ?_
  rintro q ⟨q1,q2,q3,q4⟩
  exact ⟨q1,q2,q3,by simpa [seqN,ha] using q4⟩
theorem rown_lp1 (orc:FuncId → Bool) {rb:Nat} (hB:B.obj rb = some ⟨t.cells,1,false,1⟩) (hrb:rb < B.nx) {k0:Nat} (hk:t.height = k0) (hk64:k0 ≤ 4):∀ (k i:Nat) (τ:Env) (G:GS) (L:List Int) (v:Value),i + k = k0 → L.length ≤ 2000 + i → Ext B G → OwR (rowsI .i64) B.nx G v L → τ 1 = P0 rb → τ 3 = v → τ 5 = .int .i64 i →
  Wp ((exL Q orc).lpx 77 1 τ G) fun q=>q.1 = .exit 2 ∧ Ext B q.2.2 ∧ OwR (rowsI .i64) B.nx q.2.2 (q.2.1 3) (L ++ seqN t.heads k i):=by
 intro k
 induction k with
 | zero =>
  intro i τ G L v hi hL hx hv t1 t3 t4
  have ho:=(hx.obj rb hrb).trans hB
  have hi':((i:Nat):Int) = t.height:=by omega
  refine Wp.lp (l77_1 (exL_ok Q orc)) ?_
  simp [b77_1,clip_t,t1,t3,t4,ho,hi',seqN]
  exact ⟨hx,hv⟩
 | succ k ih =>
  intro i τ G L v hi hL hx hv t1 t3 t4
  have ho:=(hx.obj rb hrb).trans hB
  have hlt:((i:Nat):Int) < t.height:=by omega
  have hw:IntKind.wrap .i64 ((i:Int) + 1) = ((i + 1:Nat):Int):=wrap64 (by omega) (by omega)
  generalize ha:IntKind.wrap .i64 (t.heads + i) = a
  have x1:Ext G (G.push ⟨(rowsI .i64).flat [a],1,false,1⟩):=(Ext.refl G).push _
  have hs:SlR (rowsI .i64) (G.push ⟨(rowsI .i64).flat [a],1,false,1⟩) (.slice (some ⟨G.nx,0,none⟩) 1 1) [a]:=SlR.block (e:=rowsI .i64) (L:=[a]) (op:=false) (b:=G.nx) (by rw [obj_push,if_pos rfl]; rfl) (by simp)
  obtain ⟨v',G4,e6,x6,w6⟩:=(hv.ext x1).app (A:=B) (ib:=8) (by decide) (hx.trans x1) hs (by simp; omega)
  have hfl:(rowsI .i64).flat [a] = [.int .i64 a]:=rfl
  simp only [rowsI_sz,hfl] at e6
  refine Wp.lp (l77_1 (exL_ok Q orc)) ?_
  simp [-Int.natCast_add,b77_1,clip_t,t1,t3,t4,ho,hlt,ha,hw,fillS,fillC,zipF,rep,splice_put,splice_end,splice_succ,e6]
  refine (ih (i + 1) _ G4 (L ++ [a]) v' (by omega) (by simp; omega) x6 w6 (by simp [clip_t]) (by simp [clip_t]) (by simp [clip_t])).mono ?_
  rintro q ⟨q1,q2,q3⟩
  exact ⟨q1,q2,by simpa [seqN,ha] using q3⟩
def ownL (t:TW):List Int:=seqN t.nodes (t.size * (4 + t.height)).toNat 0 ++ seqN t.heads t.height.toNat 0
theorem own_many (hs:t.sound):0 ≤ t.size * (4 + t.height) ∧ t.size * (4 + t.height) ≤ 1024:=by
 obtain ⟨s1,s2,s3,s4,-⟩:=hs
 have h1:t.size * (4 + t.height) ≤ 128 * (4 + t.height):=Int.mul_le_mul_of_nonneg_right s4 (by omega)
 exact ⟨Int.mul_nonneg (by omega) (by omega),by omega⟩
theorem rown_ok (orc:FuncId → Bool) (hs:t.sound) (G:GS):∃ v G',(E orc).cl 77 [t.v] G = some (v,G') ∧ Ext G G' ∧ OwR (rowsI .i64) G.nx G' v (ownL t):=by
 have hm:=own_many hs
 have s1:=hs.1
 have s2:=hs.2.1
 have w:Wp (s77 true (exL Q orc) t.v G) fun q=>Ext G q.2 ∧ OwR (rowsI .i64) G.nx q.2 q.1 (ownL t):=by
  obtain ⟨G1,hG1⟩:∃ G1,G1 = G.push ⟨t.cells,1,false,1⟩:=⟨_,rfl⟩
  have x1:Ext G G1:=by rw [hG1]; exact (Ext.refl G).push _
  have o1:G1.obj G.nx = some ⟨t.cells,1,false,1⟩:=by rw [hG1]; simp
  have n1:G1.nx = G.nx + 1:=by rw [hG1]; rfl
  obtain ⟨k0,hk0⟩:∃ k0:Nat,t.size * (4 + t.height) = k0:=⟨(t.size * (4 + t.height)).toNat,by omega⟩
  obtain ⟨h0,hh0⟩:∃ h0:Nat,t.height = h0:=⟨t.height.toNat,by omega⟩
  simp [s77,← hG1]
  refine Wp.bE ((rown_lp0 orc (B:=G1) o1 (by omega) hs hk0 (by omega) k0 0 _ G1 [] _ (by omega) (by simp) (Ext.refl _) (OwR.nil _ _) (by simp) (by simp) (by simp)).mono ?_)
  rintro ⟨e,τ,G2⟩ ⟨rfl,q1,q2,q3⟩
  simp only at q1 q2 q3
  simp
  refine Wp.bE ((rown_lp1 orc (B:=G1) o1 (by omega) hh0 (by omega) h0 0 _ G2 _ _ (by omega) (by simp [seqN_length]; omega) q2 q3 (by simp [clip_t,q1]) (by simp [clip_t]) (by simp)).mono ?_)
  rintro ⟨e,τ',G3⟩ ⟨rfl,p2,p3⟩
  simp only at p2 p3
  simp
  refine ⟨x1.trans p2,?_⟩
  have:=p3.mono (B':=G.nx) (by omega)
  unfold ownL
  rw [hk0,hh0]
  simpa using this
 obtain ⟨⟨v,G'⟩,e1,e2,e3⟩:=w
 exact ⟨v,G',f77 (exL_ok Q orc) _ G _ e1,e2,e3⟩
theorem r15fits_ok (orc:FuncId → Bool) (hg:-9223372036854775808 ≤ t.u6 ∧ t.u6 ≤ 9223372036854775807) (n:Int) (G:GS):∃ code G',(E orc).cl 33 [t.v,.int .i64 n] G = some (.int .i64 code,G') ∧ Ext G G' ∧ (code = 0 → t.sound ∧ t.good n):=by
 have w:Wp (s33 true (exL Q orc) t.v (.int .i64 n) G) fun q=>∃ code,q.1 = .int .i64 code ∧ Ext G q.2 ∧ (code = 0 → t.sound ∧ t.good n):=by
  obtain ⟨G1,hG1⟩:∃ G1,G1 = G.push ⟨t.cells,1,false,1⟩:=⟨_,rfl⟩
  have x1:Ext G G1:=by rw [hG1]; exact (Ext.refl G).push _
  have o1:G1.obj G.nx = some ⟨t.cells,1,false,1⟩:=by rw [hG1]; simp
  have n1:G1.nx = G.nx + 1:=by rw [hG1]; rfl
  by_cases c1:n < 1
  ·simp [s33,← hG1,c1]; exact x1
  by_cases c2:4096 < n
  ·simp [s33,← hG1,c1,c2]; exact x1
  obtain ⟨G2,e2,x2⟩:=rsound_ok orc t (G1.room 22)
  have y2:Ext G1 G2:=((Ext.refl G1).room 22).trans x2
  have n2:=y2.nx
  have o2:=(y2.obj G.nx (by omega)).trans o1
  by_cases hs:t.sound
  ·simp only [hs,decide_true] at e2
   obtain ⟨code3,G3,e3,x3,f3⟩:=r13fits_ok orc (t:=t) hg n G2
   have y3:=y2.trans x3
   have n3:=y3.nx
   have o3:=(y3.obj G.nx (by omega)).trans o1
   by_cases d2:code3 = 0
   ·subst d2
    have hgd:=f3 rfl
    obtain ⟨k1,k2,hA,hl,k3,k4⟩:=hgd
    obtain ⟨v,G4,e4,x4,w4⟩:=r13cells_ok orc (t:=t) hl.1 hl.2.1 (by omega) G3
    have y4:=y3.trans x4
    have n4:=y4.nx
    have o4:=(y4.obj G.nx (by omega)).trans o1
    obtain ⟨v5,G5,e5,x5,w5⟩:=rown_ok orc hs G4
    have y5:=y4.trans x5
    have n5:=y5.nx
    have o5:=(y5.obj G.nx (by omega)).trans o1
    have hm:=own_many hs
    have hl1:(limL t).length ≤ 9000:=by
     simp only [limL,List.length_append,arL,List.length_cons,arN_length,seqN_length,TW.A,List.length_nil]
     have:=hl.2.1
     omega
    have hl2:(ownL t).length ≤ 2000:=by
     simp only [ownL,List.length_append,seqN_length]
     have:=hs.2.1
     omega
    obtain ⟨v6,G6,e6,x6,w6⟩:=(w4.ext x5).app (A:=G3) (ib:=8) (by decide) (x4.trans x5) w5.is (by omega)
    simp only [rowsI_sz] at e6
    have y6:=y3.trans x6
    obtain ⟨G7,e7,x7⟩:=rapart_ok orc (n:=n) w6.is (by simp only [List.length_append]; omega)
    have y7:=y6.trans x7
    cases h3:apF (limL t ++ ownL t) n (limL t ++ ownL t).length 0 with
    | true =>
     rw [h3] at e7
     simp [s33,← hG1,c1,c2,o1,e2,o2,e3,o3,e4,o4,e5,e6,e7]
     exact ⟨x1.trans y7,hs,k1,k2,hA,hl,k3,k4⟩
    | false =>
     rw [h3] at e7
     simp [s33,← hG1,c1,c2,o1,e2,o2,e3,o3,e4,o4,e5,e6,e7]; exact x1.trans y7
   ·simp [s33,← hG1,c1,c2,o1,e2,o2,e3,o3,d2]; exact x1.trans y3
  ·simp only [hs,decide_false] at e2
   simp [s33,← hG1,c1,c2,o1,e2,o2]; exact x1.trans y2
 obtain ⟨⟨v,G'⟩,e1,code,rfl,e2,e3⟩:=w
 exact ⟨code,G',f33 (exL_ok Q orc) _ _ G _ e1,e2,e3⟩
end
end Go.Proofs.YtaanpcoglijohaaGreat.Lift
set_option linter.unusedVariables false
set_option linter.unusedSimpArgs false
set_option maxRecDepth 20000
namespace Go.Proofs.YtaanpcoglijohaaGreat.Lift
open Go Go.Proofs.YtaanpcoglijohaaGreat.Gh Go.Proofs
def zerosN (base:Int):Nat → Nat → MS → MS
 | 0,_,s=>s
 | k + 1,i,s=>zerosN base k (i + 1) (s.store (IntKind.wrap .i64 (base + i)) 0)
theorem zerosN_ok (base:Int):∀ (k i:Nat) (s:MS),s.ok → (zerosN base k i s).ok
 | 0,_,_,h=>h
 | k + 1,i,s,h=>zerosN_ok base k (i + 1) _ (h.store _ U_zero')
def fillE (t:TW) (s:MS):MS:=zerosN t.u10 t.u11.toNat 0 (s.store t.u9 0)
def fillL (t:TW) (s:MS):MS:=zerosN t.u12 3 0 (fillE t (fillA t.A s))
def fillT (t:TW) (s:MS):MS:=zerosN t.heads t.height.toNat 0 (fillL t s)
theorem fillT_ok {t:TW} (hA:t.A.ok) {s:MS} (h:s.ok):(fillT t s).ok:=zerosN_ok _ _ _ _ (zerosN_ok _ _ _ _ (zerosN_ok _ _ _ _ ((fillA_ok hA h).store _ U_zero')))
section
variable {m r rb mb l:Nat} {own own0:Nat → Nat} {G G0 G1 A:GS} {s:MS} {t:TW} {T:List Value}
theorem r12fill_lp (orc:FuncId → Bool) (hrb:rb < G0.nx) (trb:own0 rb ≠ 11) (orb:G0.obj rb = some ⟨[.int .i64 t.u9,.int .i64 t.u10,.int .i64 t.u11],1,false,1⟩) {n:Nat} (hn:t.u11 = n) (hn9:n ≤ 4096) :
  ∀ (k i:Nat) (τ:Env) (own:Nat → Nat) (G:GS) (s:MS),i + k = n → RW no own0 G0 own G r s → τ 1 = P0 r → τ 2 = P0 rb → τ 4 = .int .i64 i →
  Wp ((exL Q orc).lpx 186 0 τ G) fun q=>q.1 = .exit 0 ∧ ∃ own',RW no own0 G0 own' q.2.2 r (zerosN t.u10 k i s):=by
 intro k
 induction k with
 | zero =>
  intro i τ own G s hi w t1 t2 t4
  have o:=(w.keep hrb trb id).trans orb
  have hi':¬ (i:Int) < t.u11:=by omega
  have hi2:i = n:=by omega
  refine Wp.lp (l186_0 (exL_ok Q orc)) ?_
  simp [-Int.natCast_add,b186_0,clip_t,t1,t2,t4,o,hi',hi2,← hn,zerosN]
  exact ⟨own,w⟩
 | succ k ih =>
  intro i τ own G s hi w t1 t2 t4
  have o:=(w.keep hrb trb id).trans orb
  have hlt:(i:Int) < t.u11:=by omega
  have hlt2:i < n:=by omega
  have hw:IntKind.wrap .i64 ((i:Int) + 1) = ((i + 1:Nat):Int):=wrap64 (by omega) (by omega)
  refine Wp.lp (l186_0 (exL_ok Q orc)) ?_
  obtain ⟨own2,G2,e2,w2⟩:=w.rm.store orc (IntKind.wrap .i64 (t.u10 + i)) 0
  simp [-Int.natCast_add,b186_0,clip_t,t1,t2,t4,hlt,hlt2,hw,o,e2]
  refine (ih (i + 1) _ _ G2 _ (by omega) (w.trans w2 fun _ _ h=>h) (by simp [clip_t]) (by simp [clip_t]) (by simp [clip_t])).mono ?_
  rintro q ⟨q1,own',q2⟩
  exact ⟨q1,own',by simpa [zerosN] using q2⟩
theorem r13fill_lp (orc:FuncId → Bool) (hrb:rb < G0.nx) (trb:own0 rb ≠ 11) (orb:G0.obj rb = some ⟨lmL t,1,false,1⟩) {n:Nat} (hn:(3:Int) = n) (hn9:n ≤ 4096) :
  ∀ (k i:Nat) (τ:Env) (own:Nat → Nat) (G:GS) (s:MS),i + k = n → RW no own0 G0 own G r s → τ 1 = P0 r → τ 2 = P0 rb → τ 4 = .int .i64 i →
  Wp ((exL Q orc).lpx 141 0 τ G) fun q=>q.1 = .exit 0 ∧ ∃ own',RW no own0 G0 own' q.2.2 r (zerosN t.u12 k i s):=by
 intro k
 induction k with
 | zero =>
  intro i τ own G s hi w t1 t2 t4
  have o:=(w.keep hrb trb id).trans orb
  have hi':¬ (i:Int) < (3:Int):=by omega
  have hi2:i = n:=by omega
  refine Wp.lp (l141_0 (exL_ok Q orc)) ?_
  simp [-Int.natCast_add,b141_0,clip_t,t1,t2,t4,o,hi',hi2,← hn,zerosN]
  exact ⟨own,w⟩
 | succ k ih =>
  intro i τ own G s hi w t1 t2 t4
  have o:=(w.keep hrb trb id).trans orb
  have hlt:(i:Int) < (3:Int):=by omega
  have hlt2:i < n:=by omega
  have hw:IntKind.wrap .i64 ((i:Int) + 1) = ((i + 1:Nat):Int):=wrap64 (by omega) (by omega)
  refine Wp.lp (l141_0 (exL_ok Q orc)) ?_
  obtain ⟨own2,G2,e2,w2⟩:=w.rm.store orc (IntKind.wrap .i64 (t.u12 + i)) 0
  simp [-Int.natCast_add,b141_0,clip_t,t1,t2,t4,hlt,hlt2,hw,o,e2]
  refine (ih (i + 1) _ _ G2 _ (by omega) (w.trans w2 fun _ _ h=>h) (by simp [clip_t]) (by simp [clip_t]) (by simp [clip_t])).mono ?_
  rintro q ⟨q1,own',q2⟩
  exact ⟨q1,own',by simpa [zerosN] using q2⟩
theorem r15fill_lp (orc:FuncId → Bool) (hrb:rb < G0.nx) (trb:own0 rb ≠ 11) (orb:G0.obj rb = some ⟨t.cells,1,false,1⟩) {n:Nat} (hn:t.height = n) (hn9:n ≤ 4096) :
  ∀ (k i:Nat) (τ:Env) (own:Nat → Nat) (G:GS) (s:MS),i + k = n → RW no own0 G0 own G r s → τ 1 = P0 r → τ 2 = P0 rb → τ 4 = .int .i64 i →
  Wp ((exL Q orc).lpx 85 0 τ G) fun q=>q.1 = .exit 0 ∧ ∃ own',RW no own0 G0 own' q.2.2 r (zerosN t.heads k i s):=by
 intro k
 induction k with
 | zero =>
  intro i τ own G s hi w t1 t2 t4
  have o:=(w.keep hrb trb id).trans orb
  have hi':¬ (i:Int) < t.height:=by omega
  have hi2:i = n:=by omega
  refine Wp.lp (l85_0 (exL_ok Q orc)) ?_
  simp [-Int.natCast_add,b85_0,clip_t,t1,t2,t4,o,hi',hi2,← hn,zerosN]
  exact ⟨own,w⟩
 | succ k ih =>
  intro i τ own G s hi w t1 t2 t4
  have o:=(w.keep hrb trb id).trans orb
  have hlt:(i:Int) < t.height:=by omega
  have hlt2:i < n:=by omega
  have hw:IntKind.wrap .i64 ((i:Int) + 1) = ((i + 1:Nat):Int):=wrap64 (by omega) (by omega)
  refine Wp.lp (l85_0 (exL_ok Q orc)) ?_
  obtain ⟨own2,G2,e2,w2⟩:=w.rm.store orc (IntKind.wrap .i64 (t.heads + i)) 0
  simp [-Int.natCast_add,b85_0,clip_t,t1,t2,t4,hlt,hlt2,hw,o,e2]
  refine (ih (i + 1) _ _ G2 _ (by omega) (w.trans w2 fun _ _ h=>h) (by simp [clip_t]) (by simp [clip_t]) (by simp [clip_t])).mono ?_
  rintro q ⟨q1,own',q2⟩
  exact ⟨q1,own',by simpa [zerosN] using q2⟩
theorem tfill_lp (orc:FuncId → Bool) (hrb:rb < G0.nx) (trb:own0 rb ≠ 10) (orb:G0.obj rb = some ⟨t.cells,1,false,1⟩) {n:Nat} (hn:t.height = n) (hn9:n ≤ 4096) :
  ∀ (k i:Nat) (τ:Env) (own:Nat → Nat) (G:GS) (s:MS),i + k = n → PW no own0 G0 own G m s → τ 1 = P0 m → τ 2 = P0 rb → τ 13 = .int .i64 t.height → τ 14 = .int .i64 i →
  Wp ((exL Q orc).lpx 84 0 τ G) fun q=>q.1 = .exit 0 ∧ ∃ own',PW no own0 G0 own' q.2.2 m (zerosN t.heads k i s):=by
 intro k
 induction k with
 | zero =>
  intro i τ own G s hi w t1 t2 t13 t4
  have o:=(w.keep hrb trb id).trans orb
  have hi':¬ (i:Int) < t.height:=by omega
  have hi2:i = n:=by omega
  refine Wp.lp (l84_0 (exL_ok Q orc)) ?_
  simp [-Int.natCast_add,b84_0,clip_t,t1,t2,t13,t4,o,hi',hi2,← hn,zerosN]
  exact ⟨own,w⟩
 | succ k ih =>
  intro i τ own G s hi w t1 t2 t13 t4
  have o:=(w.keep hrb trb id).trans orb
  have hlt:(i:Int) < t.height:=by omega
  have hlt2:i < n:=by omega
  have hw:IntKind.wrap .i64 ((i:Int) + 1) = ((i + 1:Nat):Int):=wrap64 (by omega) (by omega)
  refine Wp.lp (l84_0 (exL_ok Q orc)) ?_
  obtain ⟨own2,G2,e2,w2⟩:=w.pm.store orc (IntKind.wrap .i64 (t.heads + i)) 0
  simp [-Int.natCast_add,b84_0,clip_t,t1,t2,t13,t4,hlt,hlt2,hw,o,e2]
  refine (ih (i + 1) _ _ G2 _ (by omega) (w.trans w2 fun _ _ h=>h) (by simp [clip_t]) (by simp [clip_t]) (by simp [clip_t]) (by simp [clip_t])).mono ?_
  rintro q ⟨q1,own',q2⟩
  exact ⟨q1,own',by simpa [zerosN] using q2⟩
theorem lfill_lp (orc:FuncId → Bool) (hrb:rb < G0.nx) (trb:own0 rb ≠ 10) (orb:G0.obj rb = some ⟨lmL t,1,false,1⟩) {n:Nat} (hn:(3:Int) = n) (hn9:n ≤ 4096) :
  ∀ (k i:Nat) (τ:Env) (own:Nat → Nat) (G:GS) (s:MS),i + k = n → PW no own0 G0 own G m s → τ 1 = P0 m → τ 2 = P0 rb → τ 13 = .int .i64 i →
  Wp ((exL Q orc).lpx 140 0 τ G) fun q=>q.1 = .exit 0 ∧ ∃ own',PW no own0 G0 own' q.2.2 m (zerosN t.u12 k i s):=by
 intro k
 induction k with
 | zero =>
  intro i τ own G s hi w t1 t2 t4
  have o:=(w.keep hrb trb id).trans orb
  have hi':¬ (i:Int) < (3:Int):=by omega
  have hi2:i = n:=by omega
  refine Wp.lp (l140_0 (exL_ok Q orc)) ?_
  simp [-Int.natCast_add,b140_0,clip_t,t1,t2,t4,o,hi',hi2,← hn,zerosN]
  exact ⟨own,w⟩
 | succ k ih =>
  intro i τ own G s hi w t1 t2 t4
  have o:=(w.keep hrb trb id).trans orb
  have hlt:(i:Int) < (3:Int):=by omega
  have hlt2:i < n:=by omega
  have hw:IntKind.wrap .i64 ((i:Int) + 1) = ((i + 1:Nat):Int):=wrap64 (by omega) (by omega)
  refine Wp.lp (l140_0 (exL_ok Q orc)) ?_
  obtain ⟨G1,e1,x1⟩:=turn_ok orc t i G
  have w1:=w.ext x1
  obtain ⟨own2,G2,e2,w2⟩:=w1.pm.store orc (IntKind.wrap .i64 (t.u12 + i)) 0
  simp [-Int.natCast_add,b140_0,clip_t,t1,t2,t4,hlt,hlt2,hw,o,e1,e2]
  refine (ih (i + 1) _ _ G2 _ (by omega) (w1.trans w2 fun _ _ h=>h) (by simp [clip_t]) (by simp [clip_t]) (by simp [clip_t])).mono ?_
  rintro q ⟨q1,own',q2⟩
  exact ⟨q1,own',by simpa [zerosN] using q2⟩
theorem r12fill_ok (orc:FuncId → Bool) (hc:1 ≤ t.u11 ∧ t.u11 ≤ 64) (h:RM own G r s):∃ own' G',(E orc).cl 186 [.agg ⟨[.int .i64 t.u9,.int .i64 t.u10,.int .i64 t.u11]⟩,P0 r] G = some (.tuple #[],G') ∧ RW no own G own' G' r (fillE t s):=by
 have w:Wp (s186 true (exL Q orc) (.agg ⟨[.int .i64 t.u9,.int .i64 t.u10,.int .i64 t.u11]⟩) (P0 r) G) fun q=>q.1 = .tuple #[] ∧ ∃ own',RW no own G own' q.2 r (fillE t s):=by
  obtain ⟨G1,hG1⟩:∃ G1,G1 = G.push ⟨[.int .i64 t.u9,.int .i64 t.u10,.int .i64 t.u11],1,false,1⟩:=⟨_,rfl⟩
  have x1:Ext G G1:=by rw [hG1]; exact (Ext.refl G).push _
  have o1:G1.obj G.nx = some ⟨[.int .i64 t.u9,.int .i64 t.u10,.int .i64 t.u11],1,false,1⟩:=by rw [hG1]; simp
  have n1:G1.nx = G.nx + 1:=by rw [hG1]; rfl
  have em:=many_ok orc t.u11 G1
  simp only [hc.1,hc.2,and_self,decide_true] at em
  have w1:=(RW.refl (B:=no) h).ext x1
  have t0:grown own G 13 G.nx = 13:=grown_new (Nat.le_refl _)
  obtain ⟨own2,G2,e2,w2⟩:=w1.rm.store orc t.u9 0
  have n2:=w2.nx
  have t2:own2 G.nx = 13:=(w2.stp.same (by omega)).trans t0
  have o2:=(w2.keep (show G.nx < G1.nx by omega) (by rw [t0]; decide) id).trans o1
  obtain ⟨n,hn⟩:∃ n:Nat,t.u11 = n:=⟨t.u11.toNat,by omega⟩
  simp [s186,← hG1,o1,em,e2]
  refine Wp.bE ((r12fill_lp orc (t:=t) (rb:=G.nx) (G0:=G2) (own0:=own2) (by omega) (by rw [t2]; decide) o2 hn (by omega) n 0 _ own2 G2 _ (by omega) (RW.refl w2.rm) (by simp) (by simp) (by simp)).mono ?_)
  rintro ⟨e,τ,G5⟩ ⟨rfl,own5,q⟩
  simp only at q
  simp
  refine ⟨own5,(w1.trans w2 fun _ _ h=>h).trans ?_ fun _ _ h=>h⟩
  simpa [fillE,hn] using q
 obtain ⟨⟨v,G'⟩,e1,rfl,own',hh⟩:=w
 exact ⟨own',G',f186 (exL_ok Q orc) _ _ G _ e1,hh⟩
theorem r13fill_ok (orc:FuncId → Bool) (hA:t.A.ok) (hc:1 ≤ t.u11 ∧ t.u11 ≤ 64) (h:RM own G r s):∃ own' G',(E orc).cl 141 [.agg ⟨lmL t⟩,P0 r] G = some (.tuple #[],G') ∧ RW no own G own' G' r (fillL t s):=by
 have w:Wp (s141 true (exL Q orc) (.agg ⟨lmL t⟩) (P0 r) G) fun q=>q.1 = .tuple #[] ∧ ∃ own',RW no own G own' q.2 r (fillL t s):=by
  obtain ⟨G1,hG1⟩:∃ G1,G1 = G.push ⟨lmL t,1,false,1⟩:=⟨_,rfl⟩
  have x1:Ext G G1:=by rw [hG1]; exact (Ext.refl G).push _
  have o1:G1.obj G.nx = some ⟨lmL t,1,false,1⟩:=by rw [hG1]; simp
  have n1:G1.nx = G.nx + 1:=by rw [hG1]; rfl
  have w1:=(RW.refl (B:=no) h).ext x1
  have t0:grown own G 13 G.nx = 13:=grown_new (Nat.le_refl _)
  obtain ⟨own2,G2,e2,w2⟩:=rafill_ok orc hA w1.rm
  have n2:=w2.nx
  have t2:own2 G.nx = 13:=(w2.stp.same (by omega)).trans t0
  have o2:=(w2.keep (show G.nx < G1.nx by omega) (by rw [t0]; decide) id).trans o1
  obtain ⟨own3,G3,e3,w3⟩:=r12fill_ok orc hc w2.rm
  have n3:=w3.nx
  have t3:own3 G.nx = 13:=(w3.stp.same (by omega)).trans t2
  have o3:=(w3.keep (show G.nx < G2.nx by omega) (by rw [t2]; decide) id).trans o2
  simp [TW.A] at e2
  simp [s141,← hG1,o1,e2,o2,e3]
  refine Wp.bE ((r13fill_lp orc (t:=t) (rb:=G.nx) (G0:=G3) (own0:=own3) (n:=3) (by omega) (by rw [t3]; decide) o3 rfl (by omega) 3 0 _ own3 G3 _ (by omega) (RW.refl w3.rm) (by simp) (by simp) (by simp)).mono ?_)
  rintro ⟨e,τ,G5⟩ ⟨rfl,own5,q⟩
  simp only at q
  simp
  exact ⟨own5,((w1.trans w2 fun _ _ h=>h).trans w3 fun _ _ h=>h).trans q fun _ _ h=>h⟩
 obtain ⟨⟨v,G'⟩,e1,rfl,own',hh⟩:=w
 exact ⟨own',G',f141 (exL_ok Q orc) _ _ G _ e1,hh⟩
theorem r15fill_ok (orc:FuncId → Bool) (hs:t.sound) (hA:t.A.ok) (hc:1 ≤ t.u11 ∧ t.u11 ≤ 64) (h:RM own G r s):∃ own' G',(E orc).cl 85 [t.v,P0 r] G = some (.tuple #[],G') ∧ RW no own G own' G' r (fillT t s):=by
 have s1:=hs.1
 have s2:=hs.2.1
 have w:Wp (s85 true (exL Q orc) t.v (P0 r) G) fun q=>q.1 = .tuple #[] ∧ ∃ own',RW no own G own' q.2 r (fillT t s):=by
  obtain ⟨G1,hG1⟩:∃ G1,G1 = G.push ⟨t.cells,1,false,1⟩:=⟨_,rfl⟩
  have x1:Ext G G1:=by rw [hG1]; exact (Ext.refl G).push _
  have o1:G1.obj G.nx = some ⟨t.cells,1,false,1⟩:=by rw [hG1]; simp
  have n1:G1.nx = G.nx + 1:=by rw [hG1]; rfl
  obtain ⟨Ga,ea,xa⟩:=rsound_ok orc t G1
  simp only [hs,decide_true] at ea
  have na:=xa.nx
  have oa:=(xa.obj G.nx (by omega)).trans o1
  have w1:=(RW.refl (B:=no) h).ext (x1.trans xa)
  have t0:grown own G 13 G.nx = 13:=grown_new (Nat.le_refl _)
  obtain ⟨own2,G2,e2,w2⟩:=r13fill_ok orc hA hc w1.rm
  have n2:=w2.nx
  have t2:own2 G.nx = 13:=(w2.stp.same (by omega)).trans t0
  have o2:=(w2.keep (show G.nx < Ga.nx by omega) (by rw [t0]; decide) id).trans oa
  obtain ⟨n,hn⟩:∃ n:Nat,t.height = n:=⟨t.height.toNat,by omega⟩
  simp [s85,← hG1,o1,ea,oa,e2]
  refine Wp.bE ((r15fill_lp orc (t:=t) (rb:=G.nx) (G0:=G2) (own0:=own2) (by omega) (by rw [t2]; decide) o2 hn (by omega) n 0 _ own2 G2 _ (by omega) (RW.refl w2.rm) (by simp) (by simp) (by simp)).mono ?_)
  rintro ⟨e,τ,G5⟩ ⟨rfl,own5,q⟩
  simp only at q
  simp
  refine ⟨own5,(w1.trans w2 fun _ _ h=>h).trans ?_ fun _ _ h=>h⟩
  simpa [fillT,hn] using q
 obtain ⟨⟨v,G'⟩,e1,rfl,own',hh⟩:=w
 exact ⟨own',G',f85 (exL_ok Q orc) _ _ G _ e1,hh⟩
end
end Go.Proofs.YtaanpcoglijohaaGreat.Lift
set_option linter.unusedVariables false
set_option linter.unusedSimpArgs false
set_option maxRecDepth 20000
namespace Go.Proofs.YtaanpcoglijohaaGreat.Lift
open Go Go.Proofs.YtaanpcoglijohaaGreat.Gh Go.Proofs
section
variable {m r rb xb mb l:Nat} {own own0 own1:Nat → Nat} {G G0 G1 A:GS} {s:MS} {t:TW} {T:List Value}
abbrev epL (t:TW):List Value:=[.int .i64 t.u9,.int .i64 t.u10,.int .i64 t.u11]
noncomputable abbrev lpE (T:List Value):Lp:=⟨.ready,none,T,[15,16],(subAt [1,1,1,1,0,0] (bodyOf Tryz.f183)),(subAt [1,1,1,1,0,1] (bodyOf Tryz.f183))⟩
structure EpS (t:TW) (own0:Nat → Nat) (A:GS) (l xb mb m:Nat) (T:List Value) (own:Nat → Nat) (G:GS) (s:MS):Prop where
 w:PW no own0 A own G m s
 lp:G.loop l = some (lpE T)
 nl:A.nl ≤ l
 ll:l < G.nl
 ox:G.obj xb = some ⟨epL t,1,false,1⟩
 om:G.obj mb = some ⟨[P0 m],1,false,1⟩
 lx:xb < G.nx
 lm:mb < G.nx
 tx:own xb ≠ 10
 tm:own mb ≠ 10
theorem stp_putLoop {u:Nat} {B:Nat → Prop} {q:Lp} (h:Stp u B own G own1 G1) (hl:G.nl ≤ l):Stp u B own G own1 (G1.putLoop l q):=⟨h.agr,h.mod.putLoop hl q⟩
theorem pm_putLoop {q:Lp} (h:PM own G m s):PM own (G.putLoop l q) m s:=(sepP m s).mono ((sepP m s).kept h (Nat.le_refl _) fun g hg=>by simp) (fun y hy=>⟨by simpa using hy.1,hy.2⟩) Tag.under
theorem pw_putLoop {B:Nat → Prop} {q:Lp} (h:PW B own G own1 G1 m s) (hl:G.nl ≤ l):PW B own G own1 (G1.putLoop l q) m s:=⟨stp_putLoop h.stp hl,pm_putLoop h.pm⟩
theorem ep_round (orc:FuncId → Bool) {i a:Int} (hT:T.length = 20) (t3:nth undef T 3 = P0 mb) (h:EpS t own0 A l xb mb m T own G s) :
  Wp ((E orc).rd l [.int .i64 i,.int .i64 a] G) fun q=>q.1 = .bool true ∧ ∃ own',EpS t own0 A l xb mb m T own' q.2 (s.store a 0):=by
 refine Wp.ref (d183_0 (exL_ok Q orc) l T _ _ G h.lp hT) ?_
 obtain ⟨G2,hG2⟩:∃ G2,G2 = G.putLoop l (Lp.setSt (lpE T) .busy):=⟨_,rfl⟩
 have n2:G2.nx = G.nx:=by rw [hG2,nx_putLoop]
 have l1:=h.lp
 have w2:PW no own0 A own G2 m s:=by rw [hG2]; exact pw_putLoop h.w h.nl
 have l2:G2.loop l = some (Lp.setSt (lpE T) .busy):=by rw [hG2]; simp [h.ll]
 have nl2:G2.nl = G.nl:=by rw [hG2]; simp
 have ox2:G2.obj xb = some ⟨epL t,1,false,1⟩:=by rw [hG2]; simpa using h.ox
 have om2:G2.obj mb = some ⟨[P0 m],1,false,1⟩:=by rw [hG2]; simpa using h.om
 obtain ⟨own3,G3,e3,w3⟩:=w2.pm.store orc a 0
 have l3:G3.loop l = some (Lp.setSt (lpE T) .busy):=(w3.stp.mod.loop l (by rw [nl2]; exact h.ll)).trans l2
 have nl3:=w3.stp.mod.nl
 have lx:=h.lx
 have lm:=h.lm
 have ll:=h.ll
 have hrd:roundEnd l .normal G3 = some (.bool true,G3.putLoop l (lpE T)):=by
  rw [roundEnd_some l .normal _ (j:=none) rfl l3]
  rfl
 simp [r183_0,t3,l1,← hG2,om2,e3,hrd]
 refine ⟨own3,pw_putLoop (w2.trans w3 fun _ _ h=>h) h.nl,by simp,h.nl,?_,?_,?_,?_,?_,?_,?_⟩
 ·show l < G3.nl; omega
 ·simpa using (w3.keep (by omega) h.tx id).trans ox2
 ·simpa using (w3.keep (by omega) h.tm id).trans om2
 ·have:=w3.nx; simp; omega
 ·have:=w3.nx; simp; omega
 ·rw [w3.stp.same (by omega)]; exact h.tx
 ·rw [w3.stp.same (by omega)]; exact h.tm
theorem eps_lp (orc:FuncId → Bool) (hT:T.length = 20) (t3:nth undef T 3 = P0 mb) (hc:1 ≤ t.u11 ∧ t.u11 ≤ 64):∀ (k i:Nat) (own:Nat → Nat) (τ:Env) (G:GS) (s:MS),(i:Int) + k = t.u11 → τ 0 = .func (.yield l) #[] #[] → τ 1 = P0 xb → τ 5 = .int .i64 t.u11 → τ 6 = .int .i64 i →
  EpS t own0 A l xb mb m T own G s → Wp ((exL Q orc).lpx 255 0 τ G) fun q=>q.1 = .exit 0 ∧ ∃ own',EpS t own0 A l xb mb m T own' q.2.2 (zerosN t.u10 k i s):=by
 intro k
 induction k with
 | zero =>
  intro i own τ G s hi t0 t1 t5 t6 h
  refine Wp.lp (l255_0 (exL_ok Q orc)) ?_
  have hi':¬ (i:Int) < t.u11:=by omega
  simp [-Int.natCast_add,b255_0,clip_t,t0,t1,t5,t6,hi']
  exact ⟨own,h⟩
 | succ k ih =>
  intro i own τ G s hi t0 t1 t5 t6 h
  refine Wp.lp (l255_0 (exL_ok Q orc)) ?_
  have hi':(i:Int) < t.u11:=by omega
  have hw:IntKind.wrap .i64 ((i:Int) + 1) = ((i + 1:Nat):Int):=wrap64 (by omega) (by omega)
  have ox:=h.ox
  obtain ⟨⟨v,G1⟩,e1,rfl,own1,h1⟩:=ep_round orc (i:=i) (a:=IntKind.wrap .i64 (t.u10 + i)) hT t3 h
  simp [-Int.natCast_add,b255_0,clip_t,t0,t1,t5,t6,hi',ox,e1,hw]
  exact ih (i + 1) own1 _ G1 _ (by omega) (by simp [clip_t]) (by simp [clip_t]) (by simp [clip_t]) (by simp [clip_t]) h1
theorem eclose_ok (orc:FuncId → Bool) (t:TW) (G:GS):(E orc).cl 225 [.agg ⟨epL t⟩] G = some (.func (.func 255) #[] #[P0 G.nx],G.push ⟨epL t,1,false,1⟩):=by
 refine f225 (exL_ok Q orc) _ G _ ?_
 simp [s225]
theorem efill_ok (orc:FuncId → Bool) (hc:1 ≤ t.u11 ∧ t.u11 ≤ 64) (h:PM own G m s):∃ own1 G1,(E orc).cl 183 [.agg ⟨epL t⟩,P0 m] G = some (.tuple #[],G1) ∧ PW no own G own1 G1 m (fillE t s):=by
 obtain ⟨G1,hG1⟩:∃ G1,G1 = (G.push ⟨epL t,1,false,1⟩).push ⟨[P0 m],1,false,1⟩:=⟨_,rfl⟩
 have x1:Ext G G1:=by rw [hG1]; exact ((Ext.refl G).push _).push _
 have o1:G1.obj G.nx = some ⟨epL t,1,false,1⟩:=by rw [hG1]; simp
 have p1:G1.obj (G.nx + 1) = some ⟨[P0 m],1,false,1⟩:=by rw [hG1]; simp
 have n1:G1.nx = G.nx + 2:=by rw [hG1]; rfl
 obtain ⟨G2,hG2⟩:∃ G2,G2 = G1.push ⟨epL t,1,false,1⟩:=⟨_,rfl⟩
 have x2:Ext G1 G2:=by rw [hG2]; exact (Ext.refl _).push _
 have e2:(E orc).cl 224 [.agg ⟨epL t⟩] G1 = some (.bool true,G2):=by
  rw [hG2]
  exact f224 (exL_ok Q orc) _ G1 _ (by simp [s224,hc.1,hc.2])
 have y2:=x1.trans x2
 have n2:=x2.nx
 have o2:=(x2.obj G.nx (by omega)).trans o1
 have p2:=(x2.obj (G.nx + 1) (by omega)).trans p1
 have t0:∀ g,G.nx ≤ g → grown own G 13 g = 13:=fun g hg=>grown_new hg
 have w2:PW no own G (grown own G 13) G2 m s:=(PW.refl h).ext y2
 obtain ⟨own3,G3,e3,w3⟩:=w2.pm.store orc t.u9 0
 have n3:=w3.nx
 have o3:=(w3.keep (show G.nx < G2.nx by omega) (by rw [t0 _ (Nat.le_refl _)]; decide) id).trans o2
 have p3:=(w3.keep (show G.nx + 1 < G2.nx by omega) (by rw [t0 _ (by omega)]; decide) id).trans p2
 have t3o:own3 G.nx = 13:=(w3.stp.same (by omega)).trans (t0 _ (Nat.le_refl _))
 have t3p:own3 (G.nx + 1) = 13:=(w3.stp.same (by omega)).trans (t0 _ (by omega))
 have w:=w2.trans w3 fun _ _ h=>h
 have nl3:=w.stp.mod.nl
 have w':Wp (s183 true (exL Q orc) (.agg ⟨epL t⟩) (P0 m) G) fun q=>q.1 = .tuple #[] ∧ ∃ own1,PW no own G own1 q.2 m (fillE t s):=by
  simp [s183,← hG1,o1,e2,o2,p2,e3,o3,eclose_ok]
  generalize hTT:lst 20 (tu (nth undef _) _) = T
  have hT:T.length = 20:=by rw [← hTT]; exact length_lst 20 _
  have t3:nth undef T 3 = P0 (G.nx + 1):=by rw [← hTT,nth_lst]; simp [clip_t]
  clear hTT
  obtain ⟨G5,hG5⟩:∃ G5,G5 = (G3.push ⟨epL t,1,false,1⟩).pushLoop (lpE T):=⟨_,rfl⟩
  have x5:Ext G3 G5:=by rw [hG5]; exact ((Ext.refl G3).push _).pushLoop _
  have n5:G5.nx = G3.nx + 1:=by rw [hG5]; rfl
  have l5:G5.loop G3.nl = some (lpE T):=by rw [hG5]; simp
  have w5:PW no own G (grown own3 G3 13) G5 m (s.store t.u9 0):=w.ext x5
  have hS:EpS t own G G3.nl G3.nx (G.nx + 1) m T (grown own3 G3 13) G5 (s.store t.u9 0):=⟨w5,l5,nl3,by rw [hG5]; simp,by rw [hG5]; simp,(x5.obj _ (by omega)).trans p3,by omega,by omega,by rw [grown_new (Nat.le_refl _)]; decide,by rw [grown_agr _ (by omega),t3p]; decide⟩
  have ox:=hS.ox
  have wl:Wp (s255 true (exL Q orc) (.func (.yield G3.nl) #[] #[]) (P0 G3.nx) G5) fun q=>q.1 = .tuple #[] ∧ ∃ own',EpS t own G G3.nl G3.nx (G.nx + 1) m T own' q.2 (fillE t s):=by
   simp [s255,ox]
   refine Wp.bE ((eps_lp orc hT t3 hc t.u11.toNat 0 _ _ G5 _ (by omega) (by simp [clip_t]) (by simp [clip_t]) (by simp [clip_t]) (by simp [clip_t]) hS).mono ?_)
   rintro ⟨e,τ,G'⟩ ⟨rfl,own',h'⟩
   simp
   exact ⟨own',h'⟩
  obtain ⟨⟨v,G6⟩,e6,rfl,own6,h6⟩:=wl
  have e6':=f255 (exL_ok Q orc) _ _ G5 _ e6
  rw [← hG5]
  simp only [List.nil_append,List.singleton_append,List.cons_append,e6']
  rw [xRangeEnd_some G3.nl T _ G6 h6.lp (by simp) rfl]
  simp
  exact ⟨own6,pw_putLoop h6.w nl3⟩
 obtain ⟨⟨v,G'⟩,e1,rfl,own1,h1⟩:=w'
 exact ⟨own1,G',f183 (exL_ok Q orc) _ _ G _ e1,h1⟩
theorem lfill_ok (orc:FuncId → Bool) (ht:orc 241 = false) (hA:t.A.ok) (hc:1 ≤ t.u11 ∧ t.u11 ≤ 64) (h:PM own G m s):∃ own' G',(E orc).cl 140 [.agg ⟨lmL t⟩,P0 m] G = some (.tuple #[],G') ∧ PW no own G own' G' m (fillL t s):=by
 have w:Wp (s140 true (exL Q orc) (.agg ⟨lmL t⟩) (P0 m) G) fun q=>q.1 = .tuple #[] ∧ ∃ own',PW no own G own' q.2 m (fillL t s):=by
  obtain ⟨G1,hG1⟩:∃ G1,G1 = G.push ⟨lmL t,1,false,1⟩:=⟨_,rfl⟩
  have x1:Ext G G1:=by rw [hG1]; exact (Ext.refl G).push _
  have o1:G1.obj G.nx = some ⟨lmL t,1,false,1⟩:=by rw [hG1]; simp
  have n1:G1.nx = G.nx + 1:=by rw [hG1]; rfl
  have w1:=(PW.refl (B:=no) h).ext x1
  have t0:grown own G 13 G.nx = 13:=grown_new (Nat.le_refl _)
  obtain ⟨own2,G2,e2,w2⟩:=afill_ok orc ht hA w1.pm
  have n2:=w2.nx
  have t2:own2 G.nx = 13:=(w2.stp.same (by omega)).trans t0
  have o2:=(w2.keep (show G.nx < G1.nx by omega) (by rw [t0]; decide) id).trans o1
  obtain ⟨own3,G3,e3,w3⟩:=efill_ok orc hc w2.pm
  have n3:=w3.nx
  have t3:own3 G.nx = 13:=(w3.stp.same (by omega)).trans t2
  have o3:=(w3.keep (show G.nx < G2.nx by omega) (by rw [t2]; decide) id).trans o2
  simp [TW.A] at e2
  simp [s140,← hG1,o1,e2,o2,e3]
  refine Wp.bE ((lfill_lp orc (t:=t) (rb:=G.nx) (G0:=G3) (own0:=own3) (n:=3) (by omega) (by rw [t3]; decide) o3 rfl (by omega) 3 0 _ own3 G3 _ (by omega) (PW.refl w3.pm) (by simp) (by simp) (by simp)).mono ?_)
  rintro ⟨e,τ,G5⟩ ⟨rfl,own5,q⟩
  simp only at q
  simp
  exact ⟨own5,((w1.trans w2 fun _ _ h=>h).trans w3 fun _ _ h=>h).trans q fun _ _ h=>h⟩
 obtain ⟨⟨v,G'⟩,e1,rfl,own',hh⟩:=w
 exact ⟨own',G',f140 (exL_ok Q orc) _ _ G _ e1,hh⟩
theorem tfill_ok (orc:FuncId → Bool) (ht:orc 241 = false) (hs:t.sound) (hA:t.A.ok) (hc:1 ≤ t.u11 ∧ t.u11 ≤ 64) (h:PM own G m s):∃ own' G',(E orc).cl 84 [t.v,P0 m] G = some (.tuple #[],G') ∧ PW no own G own' G' m (fillT t s):=by
 have s1:=hs.1
 have s2:=hs.2.1
 have w:Wp (s84 true (exL Q orc) t.v (P0 m) G) fun q=>q.1 = .tuple #[] ∧ ∃ own',PW no own G own' q.2 m (fillT t s):=by
  obtain ⟨G1,hG1⟩:∃ G1,G1 = G.push ⟨t.cells,1,false,1⟩:=⟨_,rfl⟩
  have x1:Ext G G1:=by rw [hG1]; exact (Ext.refl G).push _
  have o1:G1.obj G.nx = some ⟨t.cells,1,false,1⟩:=by rw [hG1]; simp
  have n1:G1.nx = G.nx + 1:=by rw [hG1]; rfl
  obtain ⟨Ga,ea,xa⟩:=sound_ok orc t G1
  simp only [hs,decide_true] at ea
  have na:=xa.nx
  have oa:=(xa.obj G.nx (by omega)).trans o1
  have w1:=(PW.refl (B:=no) h).ext (x1.trans xa)
  have t0:grown own G 13 G.nx = 13:=grown_new (Nat.le_refl _)
  obtain ⟨own2,G2,e2,w2⟩:=lfill_ok orc ht hA hc w1.pm
  have n2:=w2.nx
  have t2:own2 G.nx = 13:=(w2.stp.same (by omega)).trans t0
  have o2:=(w2.keep (show G.nx < Ga.nx by omega) (by rw [t0]; decide) id).trans oa
  obtain ⟨n,hn⟩:∃ n:Nat,t.height = n:=⟨t.height.toNat,by omega⟩
  simp [s84,← hG1,o1,ea,oa,e2,o2]
  refine Wp.bE ((tfill_lp orc (t:=t) (rb:=G.nx) (G0:=G2) (own0:=own2) (by omega) (by rw [t2]; decide) o2 hn (by omega) n 0 _ own2 G2 _ (by omega) (PW.refl w2.pm) (by simp) (by simp) (by simp) (by simp)).mono ?_)
  rintro ⟨e,τ,G5⟩ ⟨rfl,own5,q⟩
  simp only at q
  simp
  refine ⟨own5,(w1.trans w2 fun _ _ h=>h).trans ?_ fun _ _ h=>h⟩
  simpa [fillT,hn] using q
 obtain ⟨⟨v,G'⟩,e1,rfl,own',hh⟩:=w
 exact ⟨own',G',f84 (exL_ok Q orc) _ _ G _ e1,hh⟩
theorem laid_lp (orc:FuncId → Bool) {v2:Value} {W:List Int} (hv:SlR (rowsI .u64) G0 v2 W) (hW:W.length < 2 ^ 40) (hi0:∀ x,InB v2 x → own0 x ∉ [10,11]):∀ (k i:Nat) (τ:Env) (G:GS) (own:Nat → Nat) (s:MS),i + k = W.length → τ 2 = v2 → τ 8 = P0 m → τ 10 = P0 r → τ 12 = .int .i64 i →
  Agr own0 own G0 → ModT [10,11] own0 G0 G → PM own G m s → RM own G r s →
  Wp ((exL Q orc).lpx 35 0 τ G) fun q=>q.1 = .exit 0 ∧ q.2.1 8 = P0 m ∧ q.2.1 10 = P0 r ∧ ∃ own'',Agr own0 own'' G0 ∧ ModT [10,11] own0 G0 q.2.2 ∧ PM own'' q.2.2 m (putsN (W.drop i) i s) ∧ RM own'' q.2.2 r (putsN (W.drop i) i s):=by
 intro k
 induction k with
 | zero =>
  intro i τ G own s hi t2 t8 t10 t12 ha hm h h'
  have hi':i = W.length:=by omega
  subst hi'
  obtain ⟨a,c,rfl⟩:=hv.len
  refine Wp.lp (l35_0 (exL_ok Q orc)) ?_
  simp [b35_0,clip_t,t2,t8,t10,t12,putsN]
  exact ⟨own,ha,hm,h,h'⟩
 | succ k ih =>
  intro i τ G own s hi t2 t8 t10 t12 ha hm h h'
  have hlt:i < W.length:=by omega
  have hi0':(0:Int) ≤ i:=by omega
  have hw:IntKind.wrap .i64 ((i:Int) + 1) = ((i + 1:Nat):Int):=wrap64 (by omega) (by omega)
  have kv:∀ {G'},ModT [10,11] own0 G0 G' → SlR (rowsI .u64) G' v2 W:=fun q=>hv.kept q.nx fun g hg=>q.same (hv.under g hg) (hi0 g hg)
  obtain ⟨b,o,c,e0,_,q0,_⟩:=(kv hm).at hlt
  have q1:=q0 0 (by decide)
  simp at q1
  refine Wp.lp (l35_0 (exL_ok Q orc)) ?_
  obtain ⟨own1,G1,e1,w1⟩:=h.store orc i W[i]
  have m1:ModT [10,11] own G G1:=(w1.stp.modT (i:=10) (fun _ _ h=>h.elim)).mono (by simp)
  have hm1:ModT [10,11] own0 G0 G1:=hm.trans ha m1
  have ha1:Agr own0 own1 G0:=ha.trans w1.stp.agr hm.nx
  obtain ⟨b',o',c',e0',_,q0',_⟩:=(kv hm1).at hlt
  have q1':=q0' 0 (by decide)
  rw [e0] at e0'
  cases e0'
  simp at q1'
  have h1':=h'.to w1.stp (by decide) fun _ _ h=>h.elim
  obtain ⟨own2,G2,e2,w2⟩:=h1'.store orc i W[i]
  have m2:ModT [10,11] own1 G1 G2:=(w2.stp.modT (i:=10) (fun _ _ h=>h.elim)).mono (by simp)
  simp [-Int.natCast_add,b35_0,clip_t,t2,t8,t10,t12,e0,hlt,hi0',q1,e1,q1',e2,hw]
  rw [List.drop_eq_getElem_cons hlt]
  exact ih (i + 1) _ G2 own2 _ (by omega) (by simp [clip_t,e0]) (by simp [clip_t]) (by simp [clip_t]) (by simp [clip_t]) (ha1.trans w2.stp.agr hm1.nx) (hm1.trans ha1 m2) (w1.pm.to w2.stp (by decide) fun _ _ h=>h.elim) w2.rm
def laidT (t:TW) (n:Int) (W:List Int):MS:=putsN W 0 (fillT t (MS.zero n.toNat))
theorem laid_ok (orc:FuncId → Bool) (ht:orc 241 = false) (hs:t.sound) {n:Int} (hgd:t.good n) {v2:Value} {W:List Int} (hv:SlR (rowsI .u64) G v2 W) (hW:W.length < 2 ^ 40) :
  Wp ((E orc).cl 35 [t.v,.int .i64 n,v2] G) fun q=>∃ m r own,q.1 = .tuple #[P0 m,P0 r] ∧ Ext G q.2 ∧ PM own q.2 m (laidT t n W) ∧ RM own q.2 r (laidT t n W) ∧ ∀ x,x < G.nx → own x = 20:=by
 obtain ⟨h1,h2,hA,hlo,hc⟩:=hgd
 refine Wp.ref (f35 (exL_ok Q orc) _ _ _ G) ?_
 obtain ⟨G1,hG1⟩:∃ G1,G1 = G.push ⟨t.cells,1,false,1⟩:=⟨_,rfl⟩
 have x0:Ext G G1:=by rw [hG1]; exact (Ext.refl G).push _
 have o1:G1.obj G.nx = some ⟨t.cells,1,false,1⟩:=by rw [hG1]; simp
 have n1:G1.nx = G.nx + 1:=by rw [hG1]; rfl
 obtain ⟨m,G2,e2,x2,hm⟩:=(new_ok orc n G1).2 h1 h2
 obtain ⟨r,G3,e3,x3,hr⟩:=(rnew_ok orc n G2).2 h1 h2
 have n2:=x2.nx
 have n3:=x3.nx
 have o3:G3.obj G.nx = some ⟨t.cells,1,false,1⟩:=by rw [x3.obj _ (by omega),x2.obj _ (by omega)]; exact o1
 obtain ⟨own0,hown⟩:∃ own0:Nat → Nat,own0 = fun x=>if x < G.nx then 20 else if x < G1.nx then 13 else if x < G2.nx then 10 else 11:=⟨_,rfl⟩
 have hp:PM own0 G3 m (MS.zero n.toNat):=by
  rcases new2 (k:=G.nx) hm hr x2.nx x3 with h | h
  ·rw [hown]; exact h
  ·omega
 have hq:RM own0 G3 r (MS.zero n.toNat):=by rw [hown]; exact new2' hr x2.nx (by omega)
 have t0:own0 G.nx = 13:=by rw [hown]; simp [n1]
 have t20:∀ x,x < G.nx → own0 x = 20:=fun x hx=>by rw [hown]; simp only; rw [if_pos hx]
 obtain ⟨own4,G4,e4,w4⟩:=tfill_ok orc ht hs hA hc hp
 have o4:=(w4.keep (show G.nx < G3.nx by omega) (by rw [t0]; decide) id).trans o3
 have hq4:=hq.to w4.stp (by decide) fun _ _ h=>h.elim
 obtain ⟨own5,G5,e5,w5⟩:=r15fill_ok orc hs hA hc hq4
 have hp5:=w4.pm.to w5.stp (by decide) fun _ _ h=>h.elim
 have m4:ModT [10,11] own0 G3 G4:=(w4.stp.modT (i:=10) (fun _ _ h=>h.elim)).mono (by simp)
 have m5:ModT [10,11] own4 G4 G5:=(w5.stp.modT (i:=10) (fun _ _ h=>h.elim)).mono (by simp)
 have m45:=m4.trans w4.stp.agr m5
 have ag:Agr own0 own5 G3:=w4.stp.agr.trans w5.stp.agr w4.nx
 have y:=(x0.trans x2).trans x3
 simp [s35,← hG1,e2,e3,o3,e4,o4,e5]
 refine Wp.bE ((laid_lp orc (G0:=G3) (own0:=own0) (hv.ext y) hW (fun x hx=>by rw [t20 x (hv.under x hx)]; simp) W.length 0 _ G5 own5 _ (by omega) (by simp) (by simp) (by simp) (by simp) ag m45 hp5 w5.rm).mono ?_)
 rintro ⟨e,τ,G6⟩ ⟨rfl,q1,q2,own',q3,q4,q5,q6⟩
 simp only at q1 q2 q4 q5 q6
 simp [q1,q2]
 refine ⟨m,r,⟨rfl,rfl⟩,q4.toExt (fun g hg=>by rw [t20 g hg]; simp) y,own',?_,?_,fun x hx=>(q3 x (by omega)).trans (t20 x hx)⟩
 ·simpa [laidT] using q5
 ·simpa [laidT] using q6
end
end Go.Proofs.YtaanpcoglijohaaGreat.Lift
