import Derived.Test.YtaanpcoglijohaaGreatRb
import Derived.Test.YtaanpcoglijohaaGreatGhPT
import Derived.Test.YtaanpcoglijohaaGreatGhPR
import Derived.Test.YtaanpcoglijohaaGreatGhPC
import Derived.Test.YtaanpcoglijohaaGreatGhPD
import Derived.Test.YtaanpcoglijohaaGreatGhLS
import Derived.Test.YtaanpcoglijohaaGreatGhEQ
namespace Go.Proofs.YtaanpcoglijohaaGreat.Lift
open Go Go.Proofs.YtaanpcoglijohaaGreat.Gh Go.Proofs
abbrev P0 (b:Nat):Value:=.pointer (some ⟨b,0,none⟩)
theorem Ext.drawn {A G B:GS} (h:Ext A G) {n:Nat} (hn:A.nx ≤ n) (hB:A.nx ≤ B.nx) (o:GObj):Ext A (((G.at' n).push o).back B) :=
 ⟨by simpa using hB,fun g hg=>by
  have:=h.obj g hg
  simp only [obj_back,obj_push,nx_at,obj_at]
  rw [if_neg (by omega)]; exact this,by simpa using h.nl,fun l hl=>by simpa using h.loop l hl⟩
end Go.Proofs.YtaanpcoglijohaaGreat.Lift
set_option linter.unusedVariables false
set_option linter.unusedSimpArgs false
set_option maxRecDepth 20000
namespace Go.Proofs.YtaanpcoglijohaaGreat.Lift
open Go Go.Proofs.YtaanpcoglijohaaGreat.Gh Go.Proofs
def U (x:Int):Prop:=0 ≤ x ∧ x < 18446744073709551616
theorem wrap_u64 (x:Int):IntKind.wrap .u64 x = x % 18446744073709551616:=by
 simp only [IntKind.wrap,IntKind.bits,IntKind.signed,Bool.false_and]
 simp
theorem shr_16 {w:Int} (h:U w):shrI .u64 w 16 = w / 65536:=by
 show w.fdiv (2 ^ (min (16:Int).toNat 64)) = _
 rw [show (min (16:Int).toNat 64) = 16 from rfl,Int.fdiv_eq_ediv_of_nonneg _ (by decide)]; rfl
theorem ofInt_u64 {x:Int} (h:U x):(BitVec.ofInt 64 x).toNat = x.toNat:=by
 obtain ⟨n,rfl⟩:=Int.eq_ofNat_of_zero_le h.1
 have:=h.2
 have e:(BitVec.ofInt 64 (n:Int)).toNat = n % 2 ^ 64:=by simp [BitVec.toNat_ofInt]
 rw [e]; simp; omega
theorem and_u64 {a b:Int} (ha:U a) (hb:U b):andI .u64 a b = ((a.toNat &&& b.toNat:Nat):Int):=by
 show IntKind.wrap .u64 (((BitVec.ofInt 64 a &&& BitVec.ofInt 64 b).toNat:Nat):Int) = _
 have h1:a.toNat &&& b.toNat ≤ a.toNat:=Nat.and_le_left
 have:=ha.1; have:=ha.2
 rw [BitVec.toNat_and,ofInt_u64 ha,ofInt_u64 hb,wrap_u64]
 omega
theorem or_u64 {a b:Int} (ha:U a) (hb:U b):orI .u64 a b = ((a.toNat ||| b.toNat:Nat):Int):=by
 show IntKind.wrap .u64 (((BitVec.ofInt 64 a ||| BitVec.ofInt 64 b).toNat:Nat):Int) = _
 have h1:a.toNat ||| b.toNat < 2 ^ 64:=Nat.or_lt_two_pow (by have:=ha.2; have:=ha.1; omega) (by have:=hb.2; have:=hb.1; omega)
 rw [BitVec.toNat_or,ofInt_u64 ha,ofInt_u64 hb,wrap_u64]
 omega
theorem and_low {w:Int} (h:U w):andI .u64 w 65535 = w % 65536:=by
 rw [and_u64 h ⟨by decide,by decide⟩]
 have:w.toNat &&& (65535:Int).toNat = w.toNat % 65536:=Nat.and_two_pow_sub_one_eq_mod w.toNat 16
 rw [this]
 have:=h.1
 omega
theorem or_add {a b:Int} (i:Nat) (q:Nat) (ha:U a) (hb:U b) (h1:a.toNat = 2 ^ i * q) (h2:b.toNat < 2 ^ i):orI .u64 a b = a + b:=by
 rw [or_u64 ha hb,h1,← Nat.two_pow_add_eq_or_of_lt h2 q,← h1]
 have:=ha.1; have:=hb.1
 omega
end Go.Proofs.YtaanpcoglijohaaGreat.Lift
set_option linter.unusedVariables false
set_option linter.unusedSimpArgs false
set_option maxRecDepth 20000
namespace Go.Proofs.YtaanpcoglijohaaGreat.Lift
open Go Go.Proofs.YtaanpcoglijohaaGreat.Gh Go.Proofs
theorem and_48 {w:Int} (h:U w):andI .u64 w 281474976710655 = w % 281474976710656:=by
 rw [and_u64 h ⟨by decide,by decide⟩]
 have:w.toNat &&& (281474976710655:Int).toNat = w.toNat % 281474976710656:=Nat.and_two_pow_sub_one_eq_mod w.toNat 48
 rw [this]
 have:=h.1
 omega
theorem and_32 {w:Int} (h:U w):andI .u64 w 4294967295 = w % 4294967296:=by
 rw [and_u64 h ⟨by decide,by decide⟩]
 have:w.toNat &&& (4294967295:Int).toNat = w.toNat % 4294967296:=Nat.and_two_pow_sub_one_eq_mod w.toNat 32
 rw [this]
 have:=h.1
 omega
theorem shr_0 {w:Int} (h:U w):shrI .u64 w 0 = w:=by
 show w.fdiv (2 ^ (min (0:Int).toNat 64)) = _
 rw [show (min (0:Int).toNat 64) = 0 from rfl,Int.fdiv_eq_ediv_of_nonneg _ (by decide)]; simp
theorem take_lo (orc:FuncId → Bool) {w:Int} (h:U w) (G:GS):∃ G',(E orc).cl 242 [.int .u64 w,.agg ⟨[.int .i64 0,.int .i64 16]⟩] G = some (.int .i64 (w % 65536),G') ∧ Ext G G':=by
 refine ⟨(G.push ⟨[.int .i64 0,.int .i64 16],1,false,1⟩).room 11,f242 (exL_ok Q orc) _ _ G _ ?_,((Ext.refl G).push _).room 11⟩
 have e1:shlI .u64 1 16 = 65536:=by decide
 have e2:IntKind.wrap .u64 65535 = 65535:=by decide
 have e3:IntKind.wrap .i64 (w % 65536) = w % 65536:=wrap64 (by omega) (by omega)
 simp [s242,shr_0 h,e1,e2,and_low h,e3]
theorem U_div {w:Int} (h:U w) (k:Int) (hk:0 < k):U (w / k):=by
 have h1:=h.1; have h2:=h.2
 refine ⟨Int.ediv_nonneg h1 (by omega),?_⟩
 have:=Int.ediv_le_self k h1
 omega
theorem take_hi (orc:FuncId → Bool) {w:Int} (h:U w) (G:GS):∃ G',(E orc).cl 242 [.int .u64 w,.agg ⟨[.int .i64 16,.int .i64 48]⟩] G = some (.int .i64 (w / 65536),G') ∧ Ext G G':=by
 refine ⟨(G.push ⟨[.int .i64 16,.int .i64 48],1,false,1⟩).room 11,f242 (exL_ok Q orc) _ _ G _ ?_,((Ext.refl G).push _).room 11⟩
 have e1:shlI .u64 1 48 = 281474976710656:=by decide
 have e2:IntKind.wrap .u64 281474976710655 = 281474976710655:=by decide
 have h1:=h.1; have h2:=h.2
 have e4:w / 65536 % 281474976710656 = w / 65536:=by omega
 have e3:IntKind.wrap .i64 (w / 65536) = w / 65536:=wrap64 (by omega) (by omega)
 simp [s242,shr_16 h,e1,e2,and_48 (U_div h 65536 (by decide)),e4,e3]
theorem tops_ok (orc:FuncId → Bool) (ht:orc 241 = false) (G:GS):∃ G',(E orc).cl 241 [] G = some (.agg ⟨[.int .i64 0,.int .i64 16,.int .i64 16,.int .i64 48]⟩,G') ∧ Ext G G':=by
 refine ⟨(G.push ⟨[.int .i64 0,.int .i64 0,.int .i64 0,.int .i64 0],1,false,1⟩).put G.nx ⟨[.int .i64 0,.int .i64 16,.int .i64 16,.int .i64 48],1,false,1⟩,f241 (exL_ok Q orc) ht G _ ?_,((Ext.refl G).push _).put (Nat.le_refl _) _⟩
 simp [s241,splice_put,splice_end]
theorem gettop_ok (orc:FuncId → Bool) (ht:orc 241 = false) {w:Int} (h:U w) (G:GS):∃ G',(E orc).cl 200 [.int .u64 w] G = some (.tuple #[.agg ⟨[.int .i64 (w % 65536 - 1),.int .i64 (w / 65536)]⟩,.int .i64 0],G') ∧ Ext G G':=by
 obtain ⟨G1,hG1⟩:∃ G1,G1 = G.push ⟨[.int .i64 0,.int .i64 0],1,false,1⟩:=⟨_,rfl⟩
 have x1:Ext G G1:=by rw [hG1]; exact (Ext.refl G).push _
 have n1:G1.nx = G.nx + 1:=by rw [hG1]; rfl
 have o1:G1.obj G.nx = some ⟨[.int .i64 0,.int .i64 0],1,false,1⟩:=by rw [hG1]; simp
 obtain ⟨G2,e2,x2⟩:=tops_ok orc ht G1
 have o2:=(x2.obj G.nx (by omega)).trans o1
 obtain ⟨G3,hG3⟩:∃ G3,G3 = ((G2.push ⟨[.int .i64 0,.int .i64 0,.int .i64 0,.int .i64 0],1,false,1⟩).put G2.nx ⟨[.int .i64 0,.int .i64 16,.int .i64 16,.int .i64 48],1,false,1⟩).room 12:=⟨_,rfl⟩
 have n2:=x2.nx
 have x3:Ext G2 G3:=by rw [hG3]; exact (((Ext.refl G2).push _).put (Nat.le_refl _) _).room 12
 have o3:=(x3.obj G.nx (by omega)).trans o2
 have p3:G3.obj G2.nx = some ⟨[.int .i64 0,.int .i64 16,.int .i64 16,.int .i64 48],1,false,1⟩:=by rw [hG3]; simp
 have n3:G2.nx < G3.nx:=by rw [hG3]; simp; omega
 obtain ⟨G4,e4,x4⟩:=take_lo orc h G3
 have o4:=(x4.obj G.nx (by omega)).trans o3
 have p4:=(x4.obj G2.nx n3).trans p3
 obtain ⟨G5,e5,x5⟩:=take_hi orc h G4
 have o5:=(x5.obj G.nx (by have:=x4.nx; omega)).trans o4
 have hm:IntKind.wrap .i64 (w % 65536 - 1) = w % 65536 - 1:=wrap64 (by omega) (by omega)
 have w:Wp (s200 true (exL Q orc) (.int .u64 w) G) fun r=>r.1 = .tuple #[.agg ⟨[.int .i64 (w % 65536 - 1),.int .i64 (w / 65536)]⟩,.int .i64 0] ∧ Ext G r.2:=by
  simp [s200,← hG1,e2,splice_put,splice_end,← hG3,p3,e4,p4,e5,o5,hm]
  exact ((((x1.trans x2).trans x3).trans x4).trans x5).put (Nat.le_refl _) _
 obtain ⟨⟨v,G'⟩,e1,rfl,e3⟩:=w
 exact ⟨G',f200 (exL_ok Q orc) _ G _ e1,e3⟩
theorem within2_ok (orc:FuncId → Bool) {b ez:Nat} {n1 l1 h1 n2 l2 h2:Int} {G:GS} (ho:G.obj b = some ⟨[.int .i64 n1,.int .i64 l1,.int .i64 h1,.int .i64 n2,.int .i64 l2,.int .i64 h2],ez,false,1⟩) (hb:b < G.nx) (q1:l1 ≤ n1 ∧ n1 ≤ h1) (q2:l2 ≤ n2 ∧ n2 ≤ h2) :
  ∃ G',(E orc).cl 267 [.slice (some ⟨b,0,none⟩) 2 2] G = some (.bool true,G') ∧ Ext G G':=by
 have l2':∀ τ G,τ 5 = .slice (some ⟨b,0,none⟩) 2 2 → τ 6 = .int .i64 2 → τ 7 = .int .i64 2 → Wp ((exL Q orc).lpx 267 0 τ G) fun q=>q.1 = .exit 0 ∧ q.2.2 = G:=by
  intro τ G t5 t6 t7
  refine Wp.lp (l267_0 (exL_ok Q orc)) ?_
  simp [b267_0,clip_t,t5,t6,t7]
 have a1:¬ n1 < l1:=by omega
 have a2:¬ h1 < n1:=by omega
 have a3:¬ n2 < l2:=by omega
 have a4:¬ h2 < n2:=by omega
 have w1:IntKind.wrap .i64 1 = 1:=by decide
 have w2:IntKind.wrap .i64 2 = 2:=by decide
 have l1':∀ τ G,G.obj b = some ⟨[.int .i64 n1,.int .i64 l1,.int .i64 h1,.int .i64 n2,.int .i64 l2,.int .i64 h2],ez,false,1⟩ → b < G.nx → τ 5 = .slice (some ⟨b,0,none⟩) 2 2 → τ 6 = .int .i64 2 → τ 7 = .int .i64 1 → Wp ((exL Q orc).lpx 267 0 τ G) fun q=>q.1 = .exit 0 ∧ Ext G q.2.2:=by
  intro τ G ho hb t5 t6 t7
  refine Wp.lp (l267_0 (exL_ok Q orc)) ?_
  have hne:¬ b = G.nx:=by omega
  simp [b267_0,clip_t,t5,t6,t7,ho,a3,a4,splice_put,splice_end]
  refine Wp.mono (l2' _ _ (by simp [clip_t]) (by simp [clip_t]) (by simp [clip_t,w2])) ?_
  rintro q ⟨h1,h2⟩
  refine ⟨h1,?_⟩
  rw [h2]
  exact ((Ext.refl G).push _).put (Nat.le_refl _) _
 have w:Wp (s267 true (exL Q orc) (.slice (some ⟨b,0,none⟩) 2 2) G) fun r=>r.1 = .bool true ∧ Ext G r.2:=by
  simp [s267]
  refine Wp.bE ((Wp.lp (l267_0 (exL_ok Q orc)) (Q:=fun q=>q.1 = .exit 0 ∧ Ext G q.2.2) ?_).mono ?_)
  ·have hne:¬ b = G.nx:=by omega
   simp [b267_0,clip_t,ho,a1,a2,splice_put,splice_end]
   refine Wp.mono (l1' _ _ (by simp [hne,ho]) (by simp; omega) (by simp [clip_t]) (by simp [clip_t]) (by simp [clip_t,w1])) ?_
   rintro q ⟨h1,h2⟩
   exact ⟨h1,(((Ext.refl G).push _).put (Nat.le_refl _) _).trans h2⟩
  ·rintro ⟨e,τ,G'⟩ ⟨rfl,h2⟩
   simp
   exact h2
 obtain ⟨⟨v,G'⟩,e1,rfl,e3⟩:=w
 exact ⟨G',f267 (exL_ok Q orc) _ G _ e1,e3⟩
theorem with_raw (orc:FuncId → Bool) (w f m n:Int) (G:GS) (hf:0 ≤ f ∧ f < 64):(E orc).cl 272 [.int .u64 w,.agg ⟨[.int .i64 f,.int .i64 m]⟩,.int .i64 n] G = some (.int .u64 (orI .u64 w (shlI .u64 (IntKind.wrap .u64 n) f)),G.push ⟨[.int .i64 f,.int .i64 m],1,false,1⟩):=by
 have h0:¬ f < 0:=by omega
 refine f272 (exL_ok Q orc) _ _ _ G _ ?_
 simp [s272,h0]
end Go.Proofs.YtaanpcoglijohaaGreat.Lift
set_option linter.unusedVariables false
set_option linter.unusedSimpArgs false
set_option maxRecDepth 20000
namespace Go.Proofs.YtaanpcoglijohaaGreat.Lift
open Go Go.Proofs.YtaanpcoglijohaaGreat.Gh Go.Proofs
theorem lay2_ok (orc:FuncId → Bool) {b c bz cz:Nat} {m1 m2 n1 n2:Int} {G:GS} (ho:G.obj b = some ⟨[.int .i64 0,.int .i64 m1,.int .i64 16,.int .i64 m2],bz,false,1⟩) (hc:G.obj c = some ⟨[.int .i64 n1,.int .i64 n2],cz,false,1⟩) (hb:b < G.nx) (hcn:c < G.nx) :
  ∃ G',(E orc).cl 268 [.slice (some ⟨b,0,none⟩) 2 2,.slice (some ⟨c,0,none⟩) 2 2] G = some (.int .u64 (orI .u64 (orI .u64 0 (shlI .u64 (IntKind.wrap .u64 n1) 0)) (shlI .u64 (IntKind.wrap .u64 n2) 16)),G') ∧ Ext G G':=by
 have w1:IntKind.wrap .i64 1 = 1:=by decide
 have w2:IntKind.wrap .i64 2 = 2:=by decide
 have r0:=fun G=>with_raw orc 0 0 m1 n1 G (by decide)
 have r1:=fun G=>with_raw orc (orI .u64 0 (shlI .u64 (IntKind.wrap .u64 n1) 0)) 16 m2 n2 G (by decide)
 generalize hu:orI .u64 0 (shlI .u64 (IntKind.wrap .u64 n1) 0) = u at *
 generalize hv:orI .u64 u (shlI .u64 (IntKind.wrap .u64 n2) 16) = v at *
 have l2':∀ τ G,τ 1 = .slice (some ⟨c,0,none⟩) 2 2 → τ 8 = .slice (some ⟨b,0,none⟩) 2 2 → τ 9 = .int .i64 2 → τ 10 = .int .i64 2 → τ 5 = .int .u64 v → Wp ((exL Q orc).lpx 268 0 τ G) fun q=>q.1 = .exit 0 ∧ q.2.1 5 = .int .u64 v ∧ q.2.2 = G:=by
  intro τ G t1 t8 t9 t10 t5
  refine Wp.lp (l268_0 (exL_ok Q orc)) ?_
  simp [b268_0,clip_t,t1,t8,t9,t10,t5]
 have l1':∀ τ G,G.obj b = some ⟨[.int .i64 0,.int .i64 m1,.int .i64 16,.int .i64 m2],bz,false,1⟩ → G.obj c = some ⟨[.int .i64 n1,.int .i64 n2],cz,false,1⟩ → b < G.nx → c < G.nx → τ 1 = .slice (some ⟨c,0,none⟩) 2 2 → τ 8 = .slice (some ⟨b,0,none⟩) 2 2 → τ 9 = .int .i64 2 → τ 10 = .int .i64 1 → τ 5 = .int .u64 u → Wp ((exL Q orc).lpx 268 0 τ G) fun q=>q.1 = .exit 0 ∧ q.2.1 5 = .int .u64 v ∧ Ext G q.2.2:=by
  intro τ G ho hc hb hcn t1 t8 t9 t10 t5
  have hne:¬ c = G.nx:=by omega
  refine Wp.lp (l268_0 (exL_ok Q orc)) ?_
  simp [b268_0,clip_t,t1,t8,t9,t10,t5,ho,hc,hne,splice_put,splice_end,r1]
  refine Wp.mono (l2' _ _ (by simp [clip_t]) (by simp [clip_t]) (by simp [clip_t]) (by simp [clip_t,w2]) (by simp [clip_t])) ?_
  rintro q ⟨h1,h2,h3⟩
  refine ⟨h1,h2,?_⟩
  rw [h3]
  exact ((((Ext.refl G).push _).put (Nat.le_refl _) _).room _).push _
 have w:Wp (s268 true (exL Q orc) (.slice (some ⟨b,0,none⟩) 2 2) (.slice (some ⟨c,0,none⟩) 2 2) G) fun r=>r.1 = .int .u64 v ∧ Ext G r.2:=by
  simp [s268]
  have hne:¬ c = G.nx:=by omega
  have hne':¬ b = G.nx:=by omega
  have hne1:¬ c = G.nx + 1:=by omega
  have hne1':¬ b = G.nx + 1:=by omega
  refine Wp.bE ((Wp.lp (l268_0 (exL_ok Q orc)) (Q:=fun q=>q.1 = .exit 0 ∧ q.2.1 5 = .int .u64 v ∧ Ext G q.2.2) ?_).mono ?_)
  ·simp [b268_0,clip_t,ho,hc,hne,splice_put,splice_end,r0]
   have x:Ext G ((((G.push ⟨z307,1,false,1⟩).put G.nx ⟨[.int .i64 0,.int .i64 m1],1,false,1⟩).room 8).push ⟨[.int .i64 0,.int .i64 m1],1,false,1⟩):=((((Ext.refl G).push _).put (Nat.le_refl _) _).room _).push _
   refine Wp.mono (l1' _ _ ((x.obj b hb).trans ho) ((x.obj c hcn).trans hc) (Nat.lt_of_lt_of_le hb x.nx) (Nat.lt_of_lt_of_le hcn x.nx) (by simp [clip_t]) (by simp [clip_t]) (by simp [clip_t]) (by simp [clip_t,w1]) (by simp [clip_t])) ?_
   rintro q ⟨h1,h2,h3⟩
   exact ⟨h1,h2,x.trans h3⟩
  ·rintro ⟨e,τ,G'⟩ ⟨rfl,h2,h3⟩
   simp only at h2 h3
   simp [h2]
   exact h3
 obtain ⟨⟨v,G'⟩,e1,rfl,e3⟩:=w
 exact ⟨G',f268 (exL_ok Q orc) _ _ G _ e1,e3⟩
def wordT (i tag:Int):Int:=i + 1 + tag * 65536
theorem lay_val {i t:Int} (h0:-1 ≤ i ∧ i ≤ 65534) (h1:0 ≤ t ∧ t < 281474976710656):orI .u64 (orI .u64 0 (shlI .u64 (IntKind.wrap .u64 (i + 1)) 0)) (shlI .u64 (IntKind.wrap .u64 t) 16) = wordT i t:=by
 have a:IntKind.wrap .u64 (i + 1) = i + 1:=by rw [wrap_u64]; omega
 have b:IntKind.wrap .u64 t = t:=by rw [wrap_u64]; omega
 have c:shlI .u64 (i + 1) 0 = i + 1:=by
  show IntKind.wrap .u64 ((i + 1) * 2 ^ (min (0:Int).toNat 64)) = _
  rw [show (min (0:Int).toNat 64) = 0 from rfl,wrap_u64]; omega
 have d:shlI .u64 t 16 = t * 65536:=by
  show IntKind.wrap .u64 (t * 2 ^ (min (16:Int).toNat 64)) = _
  rw [show (min (16:Int).toNat 64) = 16 from rfl,wrap_u64,show (2:Int) ^ 16 = 65536 from rfl]; omega
 have e:orI .u64 0 (i + 1) = i + 1:=by
  rw [or_u64 ⟨by decide,by decide⟩ ⟨by omega,by omega⟩]
  simp; omega
 rw [a,b,c,d,e]
 have hu1:U (i + 1):=⟨by omega,by omega⟩
 have hu2:U (t * 65536):=⟨by omega,by omega⟩
 have k:=or_add 16 t.toNat hu2 hu1 (by omega) (by omega)
 rw [or_u64 hu1 hu2,Nat.or_comm,← or_u64 hu2 hu1,k]
 unfold wordT; omega
theorem puttop_ok (orc:FuncId → Bool) (ht:orc 241 = false) {i t:Int} (h0:-1 ≤ i ∧ i ≤ 65534) (h1:0 ≤ t ∧ t < 281474976710656) (G:GS):∃ G',(E orc).cl 262 [.agg ⟨[.int .i64 i,.int .i64 t]⟩] G = some (.tuple #[.int .u64 (wordT i t),.int .i64 0],G') ∧ Ext G G':=by
 have x1:Ext G ((G.push ⟨[.int .i64 i,.int .i64 t],1,false,1⟩).push ⟨[.int .i64 i,.int .i64 (-1),.int .i64 65534,.int .i64 t,.int .i64 0,.int .i64 281474976710655],3,false,1⟩):=((Ext.refl G).push _).push _
 have o1:((G.push ⟨[.int .i64 i,.int .i64 t],1,false,1⟩).push ⟨[.int .i64 i,.int .i64 (-1),.int .i64 65534,.int .i64 t,.int .i64 0,.int .i64 281474976710655],3,false,1⟩).obj G.nx = some ⟨[.int .i64 i,.int .i64 t],1,false,1⟩:=by simp
 have p1:((G.push ⟨[.int .i64 i,.int .i64 t],1,false,1⟩).push ⟨[.int .i64 i,.int .i64 (-1),.int .i64 65534,.int .i64 t,.int .i64 0,.int .i64 281474976710655],3,false,1⟩).obj (G.nx + 1) = some ⟨[.int .i64 i,.int .i64 (-1),.int .i64 65534,.int .i64 t,.int .i64 0,.int .i64 281474976710655],3,false,1⟩:=by simp
 have n1:((G.push ⟨[.int .i64 i,.int .i64 t],1,false,1⟩).push ⟨[.int .i64 i,.int .i64 (-1),.int .i64 65534,.int .i64 t,.int .i64 0,.int .i64 281474976710655],3,false,1⟩).nx = G.nx + 2:=rfl
 have w:Wp (s262 true (exL Q orc) (.agg ⟨[.int .i64 i,.int .i64 t]⟩) G) fun r=>r.1 = .tuple #[.int .u64 (wordT i t),.int .i64 0] ∧ Ext G r.2:=by
  simp [s262]
  generalize hG1:(GS.push (GS.push G _) _) = G1 at *
  obtain ⟨G2,e2,x2⟩:=within2_ok orc p1 (by omega) ⟨h0.1,h0.2⟩ ⟨h1.1,by omega⟩
  have n2:=x2.nx
  have o2:=(x2.obj G.nx (by omega)).trans o1
  obtain ⟨G3,e3,x3⟩:=tops_ok orc ht G2
  have n3:=x3.nx
  have o3:=(x3.obj G.nx (by omega)).trans o2
  have hne:¬ G.nx = G3.nx:=by omega
  have hi:IntKind.wrap .i64 (i + 1) = i + 1:=wrap64 (by omega) (by omega)
  simp [e2,e3,hne,o3,splice_put,splice_end,slA,bound,hi]
  generalize hG5:GS.back _ _ = G5
  have x5:Ext G3 G5:=by rw [← hG5]; exact Ext.drawn ((((Ext.refl G3).push _).put (Nat.le_refl _) _).room 10) (by omega) (by simp; omega) _
  have p5:G5.obj G3.nx = some ⟨[.int .i64 0,.int .i64 16,.int .i64 16,.int .i64 48],1,false,1⟩:=by rw [← hG5]; simp; omega
  have c5:G5.obj (G3.nx + 1 + 6) = some ⟨[.int .i64 (i + 1),.int .i64 t],1,false,1⟩:=by rw [← hG5]; simp
  have n5:G5.nx = G3.nx + 1 + 10:=by rw [← hG5]; simp
  obtain ⟨G6,e6,x6⟩:=lay2_ok orc p5 c5 (by omega) (by omega)
  rw [lay_val h0 h1] at e6
  simp [e6]
  exact (((x1.trans x2).trans x3).trans x5).trans x6
 obtain ⟨⟨v,G'⟩,e1,rfl,e3⟩:=w
 exact ⟨G',f262 (exL_ok Q orc) _ G _ e1,e3⟩
def idxI (size w:Int):Int:=if size ≤ w % 65536 - 1 then -1 else w % 65536 - 1
def topI (j w:Int):Int:=wordT j ((w / 65536 + 1) % 281474976710656)
theorem idxI_ge {size w:Int}:-1 ≤ idxI size w:=by unfold idxI; split <;> omega
theorem idxI_lt {size w:Int} (h:0 ≤ size):idxI size w < size:=by unfold idxI; split <;> omega
theorem link_ok (orc:FuncId → Bool) (ht:orc 241 = false) {i:Int} (h0:-1 ≤ i ∧ i ≤ 65534) (G:GS):∃ G',(E orc).cl 254 [.int .i64 i] G = some (.int .u64 (i + 1),G') ∧ Ext G G':=by
 obtain ⟨G',e,x⟩:=puttop_ok orc ht (t:=0) h0 (by decide) G
 refine ⟨G',f254 (exL_ok Q orc) _ G _ ?_,x⟩
 simp [s254,e,wordT]
theorem read_ok (orc:FuncId → Bool) (ht:orc 241 = false) {a b size w:Int} (h:U w) (G:GS):∃ G',(E orc).cl 221 [.agg ⟨[.int .i64 a,.int .i64 b,.int .i64 size]⟩,.int .u64 w] G = some (.int .i64 (idxI size w),G') ∧ Ext G G':=by
 have x1:Ext G (G.push ⟨[.int .i64 a,.int .i64 b,.int .i64 size],1,false,1⟩):=(Ext.refl G).push _
 have o1:(G.push ⟨[.int .i64 a,.int .i64 b,.int .i64 size],1,false,1⟩).obj G.nx = some ⟨[.int .i64 a,.int .i64 b,.int .i64 size],1,false,1⟩:=by simp
 have n1:(G.push ⟨[.int .i64 a,.int .i64 b,.int .i64 size],1,false,1⟩).nx = G.nx + 1:=rfl
 have w:Wp (s221 true (exL Q orc) (.agg ⟨[.int .i64 a,.int .i64 b,.int .i64 size]⟩) (.int .u64 w) G) fun r=>r.1 = .int .i64 (idxI size w) ∧ Ext G r.2:=by
  simp [s221]
  generalize hG1:GS.push G _ = G1 at *
  obtain ⟨G2,e2,x2⟩:=gettop_ok orc ht h G1
  have n2:=x2.nx
  have o2:=(x2.obj G.nx (by omega)).trans o1
  have hne:¬ G.nx = G2.nx:=by omega
  have y:Ext G (((G2.push ⟨z270,1,false,1⟩).put G2.nx ⟨[.int .i64 (w % 65536 - 1),.int .i64 (w / 65536)],1,false,1⟩)):=((x1.trans x2).push _).put (by omega) _
  unfold idxI
  by_cases hc:size ≤ w % 65536 - 1
  ·simp [e2,o2,hne,hc,splice_put,splice_end]
   exact y
  ·simp [e2,o2,hne,hc,splice_put,splice_end]
   exact y
 obtain ⟨⟨v,G'⟩,e1,rfl,e3⟩:=w
 exact ⟨G',f221 (exL_ok Q orc) _ _ G _ e1,e3⟩
theorem rindex_ok (orc:FuncId → Bool) {a b size w:Int} (h:U w) (G:GS):∃ G',(E orc).cl 232 [.agg ⟨[.int .i64 a,.int .i64 b,.int .i64 size]⟩,.int .u64 w] G = some (.int .i64 (idxI size w),G') ∧ Ext G G':=by
 refine ⟨G.push ⟨[.int .i64 a,.int .i64 b,.int .i64 size],1,false,1⟩,f232 (exL_ok Q orc) _ _ G _ ?_,(Ext.refl G).push _⟩
 have h1:=h.1
 have e0:w.tmod 65536 = w % 65536:=Int.tmod_eq_emod_of_nonneg h1
 have e1:IntKind.wrap .i64 (w % 65536) = w % 65536:=wrap64 (by omega) (by omega)
 have e2:IntKind.wrap .i64 (w % 65536 - 1) = w % 65536 - 1:=wrap64 (by omega) (by omega)
 have e3:IntKind.wrap .u64 (w % 65536) = w % 65536:=by rw [wrap_u64]; omega
 unfold idxI
 by_cases hc:size ≤ w % 65536 - 1
 ·simp [s232,e0,e1,e2,e3,hc]
 ·simp [s232,e0,e1,e2,e3,hc]
theorem rtop_ok (orc:FuncId → Bool) {j w:Int} (hj:-1 ≤ j ∧ j ≤ 65534) (h:U w) (G:GS):(E orc).cl 256 [.int .i64 j,.int .u64 w] G = some (.int .u64 (topI j w),G):=by
 refine f256 (exL_ok Q orc) _ _ G _ ?_
 have h1:=h.1; have h2:=h.2
 have e1:IntKind.wrap .i64 (j + 1) = j + 1:=wrap64 (by omega) (by omega)
 have e2:IntKind.wrap .u64 (j + 1) = j + 1:=by rw [wrap_u64]; omega
 have e3:IntKind.wrap .u64 (w / 65536 + 1) = w / 65536 + 1:=by rw [wrap_u64]; omega
 have e4:shlI .u64 (w / 65536 + 1) 16 = ((w / 65536 + 1) % 281474976710656) * 65536:=by
  show IntKind.wrap .u64 ((w / 65536 + 1) * 2 ^ (min (16:Int).toNat 64)) = _
  rw [show (min (16:Int).toNat 64) = 16 from rfl,wrap_u64,show (2:Int) ^ 16 = 65536 from rfl]; omega
 have hu1:U (j + 1):=⟨by omega,by omega⟩
 have ht0:0 ≤ (w / 65536 + 1) % 281474976710656 ∧ (w / 65536 + 1) % 281474976710656 < 281474976710656:=by omega
 unfold topI wordT
 generalize (w / 65536 + 1) % 281474976710656 = t at *
 have hu2:U (t * 65536):=⟨by omega,by omega⟩
 have k:=or_add 16 t.toNat hu2 hu1 (by omega) (by omega)
 have e5:orI .u64 (j + 1) (t * 65536) = j + 1 + t * 65536:=by
  rw [or_u64 hu1 hu2,Nat.or_comm,← or_u64 hu2 hu1,k]; omega
 simp [s256,e1,e2,shr_16 h,e3,e4,e5]
theorem U_topI {j w:Int} (hj:-1 ≤ j ∧ j ≤ 65534):U (topI j w):=by unfold topI wordT U; omega
end Go.Proofs.YtaanpcoglijohaaGreat.Lift
set_option linter.unusedVariables false
set_option linter.unusedSimpArgs false
set_option maxRecDepth 20000
namespace Go.Proofs.YtaanpcoglijohaaGreat.Lift
open Go Go.Proofs.YtaanpcoglijohaaGreat.Gh Go.Proofs
structure MS where
 W:List Int
 kind:Int
 at_:Int
 old:Int
 new:Int
 held:Bool
 many:Int
def MS.acc (s:MS) (kind at_:Int) (upd:Int → Int × Bool):MS :=
 if 0 ≤ at_ ∧ at_ < s.W.length then
  ⟨s.W.set at_.toNat (upd ((s.W[at_.toNat]?).getD 0)).1,kind,at_,(s.W[at_.toNat]?).getD 0,(upd ((s.W[at_.toNat]?).getD 0)).1,(upd ((s.W[at_.toNat]?).getD 0)).2,IntKind.wrap .i64 (s.many + 1)⟩
 else ⟨s.W,kind,at_,0,0,false,IntKind.wrap .i64 (s.many + 1)⟩
def uLoad (w:Int):Int × Bool:=(w,false)
def uStore (v w:Int):Int × Bool:=(v,true)
def uCas (a b w:Int):Int × Bool:=if w = a then (b,true) else (w,false)
def uAdd (n w:Int):Int × Bool:=(IntKind.wrap .u64 (w + n),true)
def MS.load (s:MS) (a:Int):MS:=s.acc 1 a uLoad
def MS.store (s:MS) (a v:Int):MS:=s.acc 2 a (uStore v)
def MS.cas (s:MS) (a x y:Int):MS:=s.acc 3 a (uCas x y)
def MS.add (s:MS) (a n:Int):MS:=s.acc 4 a (uAdd n)
def MS.zero (n:Nat):MS:=⟨List.replicate n 0,0,0,0,0,false,0⟩
structure PMr (A:Nat → Prop) (G:GS) (m bb:Nat) (rest:List Int) (s:MS):Prop where
 un:Under A G
 am:A m
 ab:A bb
 hm:G.obj m = some ⟨[P0 bb,.int .i64 s.W.length,.int .i64 s.kind,.int .i64 s.at_,.int .u64 s.old,.int .u64 s.new,.bool s.held,.int .i64 s.many],1,false,1⟩
 hb:G.obj bb = some ⟨(s.W ++ rest).map (Value.int .u64),1,false,1⟩
 hl:s.W.length + rest.length = 4096
def PMx (A:Nat → Prop) (G:GS) (m:Nat) (s:MS):Prop:=∃ bb rest,PMr A G m bb rest s
section
variable {A B:Nat → Prop} {G G':GS} {m bb:Nat} {rest:List Int} {s:MS}
theorem PMr.kept (h:PMr A G m bb rest s) (hn:G.nx ≤ G'.nx) (hk:∀ g,A g → G'.obj g = G.obj g):PMr A G' m bb rest s :=
 ⟨h.un.le hn,h.am,h.ab,(hk _ h.am).trans h.hm,(hk _ h.ab).trans h.hb,h.hl⟩
theorem PMr.ext (h:PMr A G m bb rest s) (x:Ext G G'):PMr A G' m bb rest s:=h.kept x.nx fun g hg=>x.obj g (h.un g hg)
theorem PMr.mono (h:PMr A G m bb rest s) (hs:∀ x,A x → B x) (hu:Under B G):PMr B G m bb rest s:=⟨hu,hs _ h.am,hs _ h.ab,h.hm,h.hb,h.hl⟩
theorem PMx.un (h:PMx A G m s):Under A G:=let ⟨_,_,h⟩:=h; h.un
theorem PMx.kept (h:PMx A G m s) (hn:G.nx ≤ G'.nx) (hk:∀ g,A g → G'.obj g = G.obj g):PMx A G' m s:=let ⟨_,_,h⟩:=h; ⟨_,_,h.kept hn hk⟩
theorem PMx.ext (h:PMx A G m s) (x:Ext G G'):PMx A G' m s:=h.kept x.nx fun g hg=>x.obj g (h.un g hg)
theorem PMx.mono (h:PMx A G m s) (hs:∀ x,A x → B x) (hu:Under B G):PMx B G m s:=let ⟨_,_,h⟩:=h; ⟨_,_,h.mono hs hu⟩
theorem ModP.pre {G1:GS} (x:Ext G G1) (h:ModP A G1 G'):ModP A G G' :=
 ⟨Nat.le_trans x.nx h.nx,fun g hg ha=>(h.obj g (Nat.lt_of_lt_of_le hg x.nx) ha).trans (x.obj g hg),Nat.le_trans x.nl h.nl,fun l hl=>(h.loop l (Nat.lt_of_lt_of_le hl x.nl)).trans (x.loop l hl)⟩
theorem grow_pre {G1:GS} (x:Ext G G1):∀ g,Grow A G1 G' g → Grow A G G' g:=fun g hg=>hg.elim .inl fun h=>.inr ⟨Nat.le_trans x.nx h.1,h.2⟩
theorem PMx.pre {G1:GS} (hu:Under A G) (x:Ext G G1) (q2:ModP A G1 G') (q3:PMx (Grow A G1 G') G' m s):ModP A G G' ∧ PMx (Grow A G G') G' m s :=
 have q:=ModP.pre x q2
 ⟨q,q3.mono (grow_pre x) (hu.grow q.nx)⟩
theorem PMr.ne (h:PMr A G m bb rest s):m ≠ bb:=fun e=>by
 have h1:=h.hm
 rw [e,h.hb] at h1
 simp only [Option.some.injEq,GObj.mk.injEq,and_true] at h1
 cases hq:s.W ++ rest with
 | nil=>rw [hq] at h1; simp at h1
 | cons a b=>rw [hq] at h1; simp at h1
def cellV (bb:Nat) (s:MS) (a:Int):Value:=if 0 ≤ a ∧ a < s.W.length then .pointer (some ⟨bb,a.toNat,none⟩) else .pointer none
theorem cell_ok (orc:FuncId → Bool) (h:PMr A G m bb rest s) (a:Int):(E orc).cl 52 [P0 m,.int .i64 a] G = some (cellV bb s a,G):=by
 refine f52 (exL_ok Q orc) _ _ G _ ?_
 have hl:=h.hl
 unfold cellV
 by_cases h1:a < 0
 ·have h1':¬ (0 ≤ a ∧ a < (s.W.length:Int)):=by omega
  simp [s52,cell_eq,h.hm,h1,h1']
 ·by_cases h2:(s.W.length:Int) ≤ a
  ·have h1':¬ (0 ≤ a ∧ a < (s.W.length:Int)):=by omega
   simp [s52,cell_eq,h.hm,h1,h2,h1']
  ·have h1':(0 ≤ a ∧ a < (s.W.length:Int)):=by omega
   have h3:a < 4096:=by omega
   simp [s52,cell_eq,h.hm,h1,h2,h1',h3]
theorem is_ok (orc:FuncId → Bool) (o:Option Addr) (G:GS):(E orc).cl 104 [.pointer o] G = some (.bool o.isSome,G):=by
 refine f104 (exL_ok Q orc) _ G _ ?_
 cases o <;> simp [s104]
theorem word_at (h:PMr A G m bb rest s) {a:Nat} (ha:a < s.W.length):G.cell bb a = some (.int .u64 ((s.W[a]?).getD 0)):=by
 have:((s.W ++ rest).map (Value.int .u64))[a]? = some (.int .u64 ((s.W[a]?).getD 0)):=by rw [List.getElem?_map,List.getElem?_append_left ha,List.getElem?_eq_getElem ha]; rfl
 simp only [cell_eq,h.hb,this]; rfl
abbrev accV (s:MS):List Value:=[.int .i64 s.kind,.int .i64 s.at_,.int .u64 s.old,.int .u64 s.new,.bool s.held]
theorem do_ok (orc:FuncId → Bool) (h:PMr A G m bb rest s) (kind a:Int) (f:FuncId) (dv:List Value) (upd:Int → Int × Bool)
  (hf:∀ G1 w,bb < G1.nx → 0 ≤ a → a < s.W.length → G1.cell bb a.toNat = some (.int .u64 w) → ∃ G2,(E orc).cl f dv G1 = some (.tuple #[.int .u64 (upd w).1,.bool (upd w).2],G2) ∧ Ext G1 G2) :
  Wp ((E orc).cl 53 [P0 m,.int .i64 kind,.int .i64 a,cellV bb s a,.func (.func f) ⟨dv⟩ #[]] G) fun r=>r.1 = .agg ⟨accV (s.acc kind a upd)⟩ ∧ ModP A G r.2 ∧ PMx (Grow A G r.2) r.2 m (s.acc kind a upd):=by
 refine Wp.ref (f53 (exL_ok Q orc) _ _ _ _ _ G) ?_
 have hm:=h.hm
 have hmn:=h.un _ h.am
 have hbn:=h.un _ h.ab
 have hne:=h.ne
 have hne':=hne.symm
 have m1:m ≠ G.nx:=by omega
 have m2:G.nx ≠ m:=by omega
 have b1:bb ≠ G.nx:=by omega
 have b2:G.nx ≠ bb:=by omega
 have hw:IntKind.wrap .i64 (s.many + 1) = IntKind.wrap .i64 (s.many + 1):=rfl
 by_cases hin:0 ≤ a ∧ a < s.W.length
 ·have hcv:cellV bb s a = .pointer (some ⟨bb,a.toNat,none⟩):=by unfold cellV; rw [if_pos hin]
  have his:=is_ok orc (some ⟨bb,a.toNat,none⟩)
  obtain ⟨n,hn⟩:∃ n:Nat,a.toNat = n:=⟨_,rfl⟩
  have hnl:n < s.W.length:=by omega
  have hww:=word_at h hnl
  generalize hx:(s.W[n]?).getD 0 = w at hww
  have hacc:s.acc kind a upd = ⟨s.W.set n (upd w).1,kind,a,w,(upd w).1,(upd w).2,IntKind.wrap .i64 (s.many + 1)⟩:=by unfold MS.acc; rw [if_pos hin,hn,hx]
  rw [hcv,hacc]
  rw [hn] at his hf
  obtain ⟨GA,hGA⟩:∃ GA,GA = ((G.push ⟨[.int .i64 0,.int .i64 0,.int .u64 0,.int .u64 0,.bool false],1,false,1⟩).put m ⟨[P0 bb,.int .i64 s.W.length,.int .i64 s.kind,.int .i64 s.at_,.int .u64 s.old,.int .u64 s.new,.bool s.held,.int .i64 (IntKind.wrap .i64 (s.many + 1))],1,false,1⟩).put m ⟨[P0 bb,.int .i64 s.W.length,.int .i64 kind,.int .i64 a,.int .u64 0,.int .u64 0,.bool false,.int .i64 (IntKind.wrap .i64 (s.many + 1))],1,false,1⟩:=⟨_,rfl⟩
  have oA:∀ g,g ≠ m → g ≠ G.nx → GA.obj g = G.obj g:=fun g h1 h2=>by rw [hGA]; simp [h1,h2]
  have oAm:GA.obj m = some ⟨[P0 bb,.int .i64 s.W.length,.int .i64 kind,.int .i64 a,.int .u64 0,.int .u64 0,.bool false,.int .i64 (IntKind.wrap .i64 (s.many + 1))],1,false,1⟩:=by rw [hGA]; simp
  have oAn:GA.obj G.nx = some ⟨[.int .i64 0,.int .i64 0,.int .u64 0,.int .u64 0,.bool false],1,false,1⟩:=by rw [hGA]; simp [m2]
  have nA:GA.nx = G.nx + 1:=by rw [hGA]; rfl
  have mA:ModP A G GA:=by rw [hGA]; exact (((ModP.refl A G).push _).put (.inl h.am) _).put (.inl h.am) _
  have cA:GA.cell bb n = some (.int .u64 w):=by rw [← hww]; unfold GS.cell; rw [oA bb hne' b1]
  obtain ⟨GB,eB,xB⟩:=hf GA w (by omega) hin.1 hin.2 cA
  have cB:GB.obj bb = some ⟨(s.W ++ rest).map (Value.int .u64),1,false,1⟩:=by rw [xB.obj bb (by omega),oA bb hne' b1]; exact h.hb
  have oBm:=(xB.obj m (by omega)).trans oAm
  have oBn:=(xB.obj G.nx (by omega)).trans oAn
  have hwB:((s.W ++ rest).map (Value.int .u64))[n]? = some (.int .u64 w):=by
   rw [List.getElem?_map,List.getElem?_append_left hnl,List.getElem?_eq_getElem hnl,← hx,List.getElem?_eq_getElem hnl]; rfl
  have hlen:n < ((s.W ++ rest).map (Value.int .u64)).length:=by simp; omega
  have hset:((s.W ++ rest).map (Value.int .u64)).set n (.int .u64 (upd w).1) = (s.W.set n (upd w).1 ++ rest).map (Value.int .u64):=by
   rw [← List.map_set,List.set_append_left _ _ hnl]
  generalize hcells:(s.W ++ rest).map (Value.int .u64) = cells at *
  have hwB':∀ h:n < cells.length,cells[n] = .int .u64 w:=fun h=>by rw [List.getElem?_eq_getElem h] at hwB; exact Option.some.inj hwB
  simp [s53,sb53,j53_0,jb53_0,clip_t,hm,m1,m2,b1,b2,hn,← hGA,his,eB,oBm,cB,hne,hne',hwB,hwB',hlen,loadA_eq,loadO,oBn,xB]
  refine ⟨?_,bb,rest,?_⟩
  ·exact (((((mA.trans (xB.modP _)).put (.inl h.am) _).put (.inl h.am) _).put (.inl h.am) _).put (.inl h.ab) _).put (.inr (Nat.le_refl _)) _
  ·have nB:=xB.nx
   refine ⟨fun x hx=>?_,.inl h.am,.inl h.ab,?_,?_,?_⟩
   ·rcases hx with hx | hx
    ·have:=h.un x hx; simp; omega
    ·simpa using hx.2
   ·simp [m1,hne]
   ·simp [b1,← hset]
   ·simpa using h.hl
 ·have hcv:cellV bb s a = .pointer none:=by unfold cellV; rw [if_neg hin]
  have his:=is_ok orc none
  have hacc:s.acc kind a upd = ⟨s.W,kind,a,0,0,false,IntKind.wrap .i64 (s.many + 1)⟩:=by unfold MS.acc; rw [if_neg hin]
  rw [hcv,hacc]
  simp [s53,sb53,j53_0,jb53_0,clip_t,hm,m1,m2,his]
  refine ⟨?_,bb,rest,?_⟩
  ·exact ((((ModP.refl A G).push _).put (.inl h.am) _).put (.inl h.am) _).put (.inr (Nat.le_refl _)) _
  ·refine ⟨fun x hx=>?_,.inl h.am,.inl h.ab,?_,?_,h.hl⟩
   ·rcases hx with hx | hx
    ·have:=h.un x hx; simp; omega
    ·simpa using hx.2
   ·simp [m1]
   ·simp [b1,hne',h.hb]
theorem cellV_one (bb:Nat) (s:MS) (a:Int):one (cellV bb s a) = true:=by unfold cellV; split <;> rfl
theorem cellV_in {bb:Nat} {s:MS} {a:Int} (h1:0 ≤ a) (h2:a < s.W.length):cellV bb s a = .pointer (some ⟨bb,a.toNat,none⟩):=by unfold cellV; rw [if_pos ⟨h1,h2⟩]
theorem load_ok (orc:FuncId → Bool) (h:PMr A G m bb rest s) (a:Int):Wp ((E orc).cl 199 [P0 m,.int .i64 a] G) fun r=>r.1 = .int .u64 (s.load a).new ∧ ModP A G r.2 ∧ PMx (Grow A G r.2) r.2 m (s.load a):=by
 refine Wp.ref (f199 (exL_ok Q orc) _ _ G) ?_
 have hc:=cell_ok orc h a
 obtain ⟨G1,hG1⟩:∃ G1,G1 = ((G.push ⟨[.pointer none,.int .u64 0,.int .u64 0],1,false,1⟩).put G.nx ⟨[cellV bb s a,.int .u64 0,.int .u64 0],1,false,1⟩):=⟨_,rfl⟩
 have x1:Ext G G1:=by rw [hG1]; exact ((Ext.refl G).push _).put (Nat.le_refl _) _
 have o1:G1.obj G.nx = some ⟨[cellV bb s a,.int .u64 0,.int .u64 0],1,false,1⟩:=by rw [hG1]; simp
 obtain ⟨⟨v,G'⟩,e,q1,q2,q3⟩:=do_ok orc (h.ext x1) 1 a 240 [.agg ⟨[cellV bb s a,.int .u64 0,.int .u64 0]⟩] uLoad fun G1 w hb h1 h2 h3=>by
  have hbn:¬ bb = G1.nx:=by omega
  rw [cellV_in h1 h2]
  exact ⟨_,f240 (exL_ok Q orc) _ G1 _ (by simp [-cell_s,s240,cell_push,hbn,h3,uLoad]; rfl),(Ext.refl G1).push _⟩
 simp only at q1 q2 q3
 have hone:=cellV_one bb s a
 generalize cellV bb s a = cv at *
 have hcs:=cells_one hone
 simp [s199,hc,hcs,hone,← hG1,o1,e,q1]
 exact ⟨rfl,PMx.pre h.un x1 q2 q3⟩
theorem store_ok (orc:FuncId → Bool) (h:PMr A G m bb rest s) (a v:Int):Wp ((E orc).cl 14 [P0 m,.int .i64 a,.int .u64 v] G) fun r=>r.1 = .tuple #[] ∧ ModP A G r.2 ∧ PMx (Grow A G r.2) r.2 m (s.store a v):=by
 refine Wp.ref (f14 (exL_ok Q orc) _ _ _ G) ?_
 have hc:=cell_ok orc h a
 obtain ⟨G1,hG1⟩:∃ G1,G1 = ((G.push ⟨[.pointer none,.int .u64 0,.int .u64 0],1,false,1⟩).put G.nx ⟨[cellV bb s a,.int .u64 v,.int .u64 0],1,false,1⟩):=⟨_,rfl⟩
 have x1:Ext G G1:=by rw [hG1]; exact ((Ext.refl G).push _).put (Nat.le_refl _) _
 have o1:G1.obj G.nx = some ⟨[cellV bb s a,.int .u64 v,.int .u64 0],1,false,1⟩:=by rw [hG1]; simp
 obtain ⟨⟨v',G'⟩,e,q1,q2,q3⟩:=do_ok orc (h.ext x1) 2 a 54 [.agg ⟨[cellV bb s a,.int .u64 v,.int .u64 0]⟩] (uStore v) fun G1 w hb h1 h2 h3=>by
  rw [cellV_in h1 h2]
  exact ⟨_,f54 (exL_ok Q orc) _ G1 _ (by simp [s54,uStore]; rfl),(Ext.refl G1).push _⟩
 simp only at q1 q2 q3
 have hone:=cellV_one bb s a
 generalize cellV bb s a = cv at *
 have hcs:=cells_one hone
 simp [s14,hc,hcs,hone,← hG1,o1,e,q1]
 exact PMx.pre h.un x1 q2 q3
theorem cas_ok (orc:FuncId → Bool) (h:PMr A G m bb rest s) (a v w:Int):Wp ((E orc).cl 157 [P0 m,.int .i64 a,.int .u64 v,.int .u64 w] G) fun r=>r.1 = .bool (s.cas a v w).held ∧ ModP A G r.2 ∧ PMx (Grow A G r.2) r.2 m (s.cas a v w):=by
 refine Wp.ref (f157 (exL_ok Q orc) _ _ _ _ G) ?_
 have hc:=cell_ok orc h a
 obtain ⟨G1,hG1⟩:∃ G1,G1 = ((G.push ⟨[.pointer none,.int .u64 0,.int .u64 0],1,false,1⟩).put G.nx ⟨[cellV bb s a,.int .u64 v,.int .u64 w],1,false,1⟩):=⟨_,rfl⟩
 have x1:Ext G G1:=by rw [hG1]; exact ((Ext.refl G).push _).put (Nat.le_refl _) _
 have o1:G1.obj G.nx = some ⟨[cellV bb s a,.int .u64 v,.int .u64 w],1,false,1⟩:=by rw [hG1]; simp
 obtain ⟨⟨v',G'⟩,e,q1,q2,q3⟩:=do_ok orc (h.ext x1) 3 a 203 [.agg ⟨[cellV bb s a,.int .u64 v,.int .u64 w]⟩] (uCas v w) fun G1 x hb h1 h2 h3=>by
  rw [cellV_in h1 h2]
  have hbn:¬ bb = G1.nx:=by omega
  refine ⟨(G1.push ⟨[.pointer (some ⟨bb,a.toNat,none⟩),.int .u64 v,.int .u64 w],1,false,1⟩).room 7,f203 (exL_ok Q orc) _ G1 _ ?_,((Ext.refl G1).push _).room 7⟩
  by_cases hx:x = v
  ·simp [-cell_s,s203,cell_push,hbn,h3,uCas,hx]
  ·simp [-cell_s,s203,cell_push,hbn,h3,uCas,hx]
 simp only at q1 q2 q3
 have hone:=cellV_one bb s a
 generalize cellV bb s a = cv at *
 have hcs:=cells_one hone
 simp [s157,hc,hcs,hone,← hG1,o1,e,q1]
 exact ⟨rfl,PMx.pre h.un x1 q2 q3⟩
theorem new_ok (orc:FuncId → Bool) (n:Int) (G:GS):(n < 1 ∨ 4096 < n → (E orc).cl 10 [.int .i64 n] G = some (.tuple #[.pointer none,.int .i64 3],G)) ∧
  (1 ≤ n → n ≤ 4096 → ∃ m G',(E orc).cl 10 [.int .i64 n] G = some (.tuple #[P0 m,.int .i64 0],G') ∧ Ext G G' ∧ PMx (fun x=>G.nx ≤ x ∧ x < G'.nx) G' m (MS.zero n.toNat)):=by
 constructor
 ·intro h
  refine f10 (exL_ok Q orc) _ G _ ?_
  by_cases h1:n < 1
  ·simp [s10,h1]
  ·have h2:4096 < n:=by omega
   simp [s10,h1,h2]
 ·intro h1 h2
  have h1':¬ n < 1:=by omega
  have h2':¬ 4096 < n:=by omega
  refine ⟨G.nx + 1,_,f10 (exL_ok Q orc) _ G _ (by simp [s10,h1',h2']; rfl),((Ext.refl G).push _).push _,G.nx,List.replicate (4096 - n.toNat) 0,?_⟩
  refine ⟨fun x hx=>hx.2,⟨by omega,by simp⟩,⟨by omega,by simp; omega⟩,?_,?_,?_⟩
  ·have:((n.toNat:Nat):Int) = n:=by omega
   simp [MS.zero,this]
  ·have:List.replicate n.toNat (0:Int) ++ List.replicate (4096 - n.toNat) 0 = List.replicate 4096 0:=by
    rw [List.replicate_append_replicate]; congr 1; omega
   simp only [MS.zero,this,List.map_replicate]
   simp
  ·simp [MS.zero]; omega
theorem count_ok (orc:FuncId → Bool) (h:PMr A G m bb rest s):(E orc).cl 27 [P0 m] G = some (.int .i64 s.many,G) :=
 f27 (exL_ok Q orc) _ G _ (by simp [s27,h.hm])
theorem last_ok (orc:FuncId → Bool) (h:PMr A G m bb rest s):∃ G',(E orc).cl 25 [P0 m] G = some (.agg ⟨accV s⟩,G') ∧ Ext G G':=by
 have hmn:=h.un _ h.am
 have m1:m ≠ G.nx:=by omega
 have m2:G.nx ≠ m:=by omega
 exact ⟨_,f25 (exL_ok Q orc) _ G _ (by simp [s25,h.hm,m1,m2]; rfl),((Ext.refl G).push _).put (Nat.le_refl _) _⟩
end
end Go.Proofs.YtaanpcoglijohaaGreat.Lift
