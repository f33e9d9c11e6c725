import Derived.Test.YtedmgpchggogpaaGreatRSc
import Derived.Test.YtedmgpchggogpaaGreatGhPT
import Derived.Test.YtedmgpchggogpaaGreatGhPR
import Derived.Test.YtedmgpchggogpaaGreatGhPC
import Derived.Test.YtedmgpchggogpaaGreatGhPD
import Derived.Test.YtedmgpchggogpaaGreatGhLS
import Derived.Test.YtedmgpchggogpaaGreatGhEQ
set_option linter.unusedVariables false
set_option linter.unusedSimpArgs false
set_option maxRecDepth 20000
namespace Go.Proofs.YtedmgpchggogpaaGreat.Lift
open Go Go.Proofs.YtedmgpchggogpaaGreat.Gh Go.Proofs
variable (orc:FuncId → Bool)
abbrev P0 (b:Nat):Value:=.pointer (some ⟨b,0,none⟩)
theorem Ext.drawn {A G B:GS} (h:Ext A G) {n:Nat} (hn:A.nx ≤ n) (hB:A.nx ≤ B.nx) (o:GObj):Ext A (((G.at' n).push o).back B) :=
 ⟨by simpa using hB,fun g hg=>by
  have:=h.obj g hg
  simp only [obj_back,obj_push,nx_at,obj_at]
  rw [if_neg (by omega)]; exact this,by simpa using h.nl,fun l hl=>by simpa using h.loop l hl⟩
theorem iface_cells (k:Nat) (v:Value):(Value.iface k v).cells = #[.iface k v]:=rfl
def U (x:Int):Prop:=0 ≤ x ∧ x < 18446744073709551616
theorem wrap_u32 (x:Int):IntKind.wrap .u32 x = x % 4294967296:=by
 simp only [IntKind.wrap,IntKind.bits,IntKind.signed,Bool.false_and]
 simp
theorem wrap_u64 (x:Int):IntKind.wrap .u64 x = x % 18446744073709551616:=by
 simp only [IntKind.wrap,IntKind.bits,IntKind.signed,Bool.false_and]
 simp
theorem shr_16 {w:Int} (h:U w):shrI .u64 w 16 = w / 65536:=by
 show w.fdiv (2 ^ (min (16:Int).toNat 64)) = _
 rw [show (min (16:Int).toNat 64) = 16 from rfl,Int.fdiv_eq_ediv_of_nonneg _ (by decide)]; rfl
theorem ofInt_u64 {x:Int} (h:U x):(BitVec.ofInt 64 x).toNat = x.toNat:=by
 obtain ⟨n,rfl⟩:=Int.eq_ofNat_of_zero_le h.1
 have:=h.2
 have e:(BitVec.ofInt 64 (n:Int)).toNat = n % 2 ^ 64:=by simp [BitVec.toNat_ofInt]
 rw [e]; simp; omega
theorem and_u64 {a b:Int} (ha:U a) (hb:U b):andI .u64 a b = ((a.toNat &&& b.toNat:Nat):Int):=by
 show IntKind.wrap .u64 (((BitVec.ofInt 64 a &&& BitVec.ofInt 64 b).toNat:Nat):Int) = _
 have h1:a.toNat &&& b.toNat ≤ a.toNat:=Nat.and_le_left
 have:=ha.1; have:=ha.2
 rw [BitVec.toNat_and,ofInt_u64 ha,ofInt_u64 hb,wrap_u64]
 omega
theorem or_u64 {a b:Int} (ha:U a) (hb:U b):orI .u64 a b = ((a.toNat ||| b.toNat:Nat):Int):=by
 show IntKind.wrap .u64 (((BitVec.ofInt 64 a ||| BitVec.ofInt 64 b).toNat:Nat):Int) = _
 have h1:a.toNat ||| b.toNat < 2 ^ 64:=Nat.or_lt_two_pow (by have:=ha.2; have:=ha.1; omega) (by have:=hb.2; have:=hb.1; omega)
 rw [BitVec.toNat_or,ofInt_u64 ha,ofInt_u64 hb,wrap_u64]
 omega
theorem and_low {w:Int} (h:U w):andI .u64 w 65535 = w % 65536:=by
 rw [and_u64 h ⟨by decide,by decide⟩]
 have:w.toNat &&& (65535:Int).toNat = w.toNat % 65536:=Nat.and_two_pow_sub_one_eq_mod w.toNat 16
 rw [this]
 have:=h.1
 omega
theorem or_add {a b:Int} (i:Nat) (q:Nat) (ha:U a) (hb:U b) (h1:a.toNat = 2 ^ i * q) (h2:b.toNat < 2 ^ i):orI .u64 a b = a + b:=by
 rw [or_u64 ha hb,h1,← Nat.two_pow_add_eq_or_of_lt h2 q,← h1]
 have:=ha.1; have:=hb.1
 omega
theorem and_48 {w:Int} (h:U w):andI .u64 w 281474976710655 = w % 281474976710656:=by
 rw [and_u64 h ⟨by decide,by decide⟩]
 have:w.toNat &&& (281474976710655:Int).toNat = w.toNat % 281474976710656:=Nat.and_two_pow_sub_one_eq_mod w.toNat 48
 rw [this]
 have:=h.1
 omega
theorem shr_0 {w:Int} (h:U w):shrI .u64 w 0 = w:=by
 show w.fdiv (2 ^ (min (0:Int).toNat 64)) = _
 rw [show (min (0:Int).toNat 64) = 0 from rfl,Int.fdiv_eq_ediv_of_nonneg _ (by decide)]; simp
theorem take_lo {w:Int} (h:U w) (G:GS):∃ G',(E orc).cl 263 [.int .u64 w,.agg ⟨[.int .i64 0,.int .i64 16]⟩] G = some (.int .i64 (w % 65536),G') ∧ Ext G G':=by
 refine ⟨(G.push ⟨[.int .i64 0,.int .i64 16],1,false,1⟩).room 11,f263 (exL_ok Q orc) _ _ G _ ?_,((Ext.refl G).push _).room 11⟩
 have e1:shlI .u64 1 16 = 65536:=by decide
 have e2:IntKind.wrap .u64 65535 = 65535:=by decide
 have e3:IntKind.wrap .i64 (w % 65536) = w % 65536:=wrap64 (by omega) (by omega)
 simp [s263,shr_0 h,e1,e2,and_low h,e3]
theorem U_div {w:Int} (h:U w) (k:Int) (hk:0 < k):U (w / k):=by
 have h1:=h.1; have h2:=h.2
 refine ⟨Int.ediv_nonneg h1 (by omega),?_⟩
 have:=Int.ediv_le_self k h1
 omega
theorem take_hi {w:Int} (h:U w) (G:GS):∃ G',(E orc).cl 263 [.int .u64 w,.agg ⟨[.int .i64 16,.int .i64 48]⟩] G = some (.int .i64 (w / 65536),G') ∧ Ext G G':=by
 refine ⟨(G.push ⟨[.int .i64 16,.int .i64 48],1,false,1⟩).room 11,f263 (exL_ok Q orc) _ _ G _ ?_,((Ext.refl G).push _).room 11⟩
 have e1:shlI .u64 1 48 = 281474976710656:=by decide
 have e2:IntKind.wrap .u64 281474976710655 = 281474976710655:=by decide
 have h1:=h.1; have h2:=h.2
 have e4:w / 65536 % 281474976710656 = w / 65536:=by omega
 have e3:IntKind.wrap .i64 (w / 65536) = w / 65536:=wrap64 (by omega) (by omega)
 simp [s263,shr_16 h,e1,e2,and_48 (U_div h 65536 (by decide)),e4,e3]
theorem tops_ok (ht:orc 236 = false) (G:GS):∃ G',(E orc).cl 236 [] G = some (.agg ⟨[.int .i64 0,.int .i64 16,.int .i64 16,.int .i64 48]⟩,G') ∧ Ext G G':=by
 refine ⟨(G.push ⟨[.int .i64 0,.int .i64 0,.int .i64 0,.int .i64 0],1,false,1⟩).put G.nx ⟨[.int .i64 0,.int .i64 16,.int .i64 16,.int .i64 48],1,false,1⟩,f236 (exL_ok Q orc) ht G _ ?_,((Ext.refl G).push _).put (Nat.le_refl _) _⟩
 simp [s236,splice_put,splice_end]
theorem gettop_ok (ht:orc 236 = false) {w:Int} (h:U w) (G:GS):∃ G',(E orc).cl 262 [.int .u64 w] G = some (.tuple #[.agg ⟨[.int .i64 (w % 65536 - 1),.int .i64 (w / 65536)]⟩,.int .i64 0],G') ∧ Ext G G':=by
 obtain ⟨G1,hG1⟩:∃ G1,G1 = G.push ⟨[.int .i64 0,.int .i64 0],1,false,1⟩:=⟨_,rfl⟩
 have x1:Ext G G1:=by rw [hG1]; exact (Ext.refl G).push _
 have n1:G1.nx = G.nx + 1:=by rw [hG1]; rfl
 have o1:G1.obj G.nx = some ⟨[.int .i64 0,.int .i64 0],1,false,1⟩:=by rw [hG1]; simp
 obtain ⟨G2,e2,x2⟩:=tops_ok orc ht G1
 have o2:=(x2.obj G.nx (by omega)).trans o1
 obtain ⟨G3,hG3⟩:∃ G3,G3 = ((G2.push ⟨[.int .i64 0,.int .i64 0,.int .i64 0,.int .i64 0],1,false,1⟩).put G2.nx ⟨[.int .i64 0,.int .i64 16,.int .i64 16,.int .i64 48],1,false,1⟩).room 12:=⟨_,rfl⟩
 have n2:=x2.nx
 have x3:Ext G2 G3:=by rw [hG3]; exact (((Ext.refl G2).push _).put (Nat.le_refl _) _).room 12
 have o3:=(x3.obj G.nx (by omega)).trans o2
 have p3:G3.obj G2.nx = some ⟨[.int .i64 0,.int .i64 16,.int .i64 16,.int .i64 48],1,false,1⟩:=by rw [hG3]; simp
 have n3:G2.nx < G3.nx:=by rw [hG3]; simp; omega
 obtain ⟨G4,e4,x4⟩:=take_lo orc h G3
 have o4:=(x4.obj G.nx (by omega)).trans o3
 have p4:=(x4.obj G2.nx n3).trans p3
 obtain ⟨G5,e5,x5⟩:=take_hi orc h G4
 have o5:=(x5.obj G.nx (by have:=x4.nx; omega)).trans o4
 have hm:IntKind.wrap .i64 (w % 65536 - 1) = w % 65536 - 1:=wrap64 (by omega) (by omega)
 have w:Wp (s262 true (exL Q orc) (.int .u64 w) G) fun r=>r.1 = .tuple #[.agg ⟨[.int .i64 (w % 65536 - 1),.int .i64 (w / 65536)]⟩,.int .i64 0] ∧ Ext G r.2:=by
  simp [s262,← hG1,e2,splice_put,splice_end,← hG3,p3,e4,p4,e5,o5,hm]
  exact ((((x1.trans x2).trans x3).trans x4).trans x5).put (Nat.le_refl _) _
 obtain ⟨⟨v,G'⟩,e1,rfl,e3⟩:=w
 exact ⟨G',f262 (exL_ok Q orc) _ G _ e1,e3⟩
theorem within2_ok {b ez:Nat} {n1 l1 h1 n2 l2 h2:Int} {G:GS} (ho:G.obj b = some ⟨[.int .i64 n1,.int .i64 l1,.int .i64 h1,.int .i64 n2,.int .i64 l2,.int .i64 h2],ez,false,1⟩) (hb:b < G.nx) (q1:l1 ≤ n1 ∧ n1 ≤ h1) (q2:l2 ≤ n2 ∧ n2 ≤ h2) :
  ∃ G',(E orc).cl 235 [.slice (some ⟨b,0,none⟩) 2 2] G = some (.bool true,G') ∧ Ext G G':=by
 have l2':∀ τ G,τ 5 = .slice (some ⟨b,0,none⟩) 2 2 → τ 6 = .int .i64 2 → τ 7 = .int .i64 2 → Wp ((exL Q orc).lpx 235 0 τ G) fun q=>q.1 = .exit 0 ∧ q.2.2 = G:=by
  intro τ G t5 t6 t7
  refine Wp.lp (l235_0 (exL_ok Q orc)) ?_
  simp [b235_0,clip_t,t5,t6,t7]
 have a1:¬ n1 < l1:=by omega
 have a2:¬ h1 < n1:=by omega
 have a3:¬ n2 < l2:=by omega
 have a4:¬ h2 < n2:=by omega
 have w1:IntKind.wrap .i64 1 = 1:=by decide
 have w2:IntKind.wrap .i64 2 = 2:=by decide
 have l1':∀ τ G,G.obj b = some ⟨[.int .i64 n1,.int .i64 l1,.int .i64 h1,.int .i64 n2,.int .i64 l2,.int .i64 h2],ez,false,1⟩ → b < G.nx → τ 5 = .slice (some ⟨b,0,none⟩) 2 2 → τ 6 = .int .i64 2 → τ 7 = .int .i64 1 → Wp ((exL Q orc).lpx 235 0 τ G) fun q=>q.1 = .exit 0 ∧ Ext G q.2.2:=by
  intro τ G ho hb t5 t6 t7
  refine Wp.lp (l235_0 (exL_ok Q orc)) ?_
  have hne:¬ b = G.nx:=by omega
  simp [b235_0,clip_t,t5,t6,t7,ho,a3,a4,splice_put,splice_end]
  refine Wp.mono (l2' _ _ (by simp [clip_t]) (by simp [clip_t]) (by simp [clip_t,w2])) ?_
  rintro q ⟨h1,h2⟩
  refine ⟨h1,?_⟩
  rw [h2]
  exact ((Ext.refl G).push _).put (Nat.le_refl _) _
 have w:Wp (s235 true (exL Q orc) (.slice (some ⟨b,0,none⟩) 2 2) G) fun r=>r.1 = .bool true ∧ Ext G r.2:=by
  simp [s235]
  refine Wp.bE ((Wp.lp (l235_0 (exL_ok Q orc)) (Q:=fun q=>q.1 = .exit 0 ∧ Ext G q.2.2) ?_).mono ?_)
  ·have hne:¬ b = G.nx:=by omega
   simp [b235_0,clip_t,ho,a1,a2,splice_put,splice_end]
   refine Wp.mono (l1' _ _ (by simp [hne,ho]) (by simp; omega) (by simp [clip_t]) (by simp [clip_t]) (by simp [clip_t,w1])) ?_
   rintro q ⟨h1,h2⟩
   exact ⟨h1,(((Ext.refl G).push _).put (Nat.le_refl _) _).trans h2⟩
  ·rintro ⟨e,τ,G'⟩ ⟨rfl,h2⟩
   simp
   exact h2
 obtain ⟨⟨v,G'⟩,e1,rfl,e3⟩:=w
 exact ⟨G',f235 (exL_ok Q orc) _ G _ e1,e3⟩
theorem with_raw (w f m n:Int) (G:GS) (hf:0 ≤ f ∧ f < 64):(E orc).cl 256 [.int .u64 w,.agg ⟨[.int .i64 f,.int .i64 m]⟩,.int .i64 n] G = some (.int .u64 (orI .u64 w (shlI .u64 (IntKind.wrap .u64 n) f)),G.push ⟨[.int .i64 f,.int .i64 m],1,false,1⟩):=by
 have h0:¬ f < 0:=by omega
 refine f256 (exL_ok Q orc) _ _ _ G _ ?_
 simp [s256,h0]
theorem lay2_ok {b c bz cz:Nat} {m1 m2 n1 n2:Int} {G:GS} (ho:G.obj b = some ⟨[.int .i64 0,.int .i64 m1,.int .i64 16,.int .i64 m2],bz,false,1⟩) (hc:G.obj c = some ⟨[.int .i64 n1,.int .i64 n2],cz,false,1⟩) (hb:b < G.nx) (hcn:c < G.nx) :
  ∃ G',(E orc).cl 237 [.slice (some ⟨b,0,none⟩) 2 2,.slice (some ⟨c,0,none⟩) 2 2] G = some (.int .u64 (orI .u64 (orI .u64 0 (shlI .u64 (IntKind.wrap .u64 n1) 0)) (shlI .u64 (IntKind.wrap .u64 n2) 16)),G') ∧ Ext G G':=by
 have w1:IntKind.wrap .i64 1 = 1:=by decide
 have w2:IntKind.wrap .i64 2 = 2:=by decide
 have r0:=fun G=>with_raw orc 0 0 m1 n1 G (by decide)
 have r1:=fun G=>with_raw orc (orI .u64 0 (shlI .u64 (IntKind.wrap .u64 n1) 0)) 16 m2 n2 G (by decide)
 generalize hu:orI .u64 0 (shlI .u64 (IntKind.wrap .u64 n1) 0) = u at *
 generalize hv:orI .u64 u (shlI .u64 (IntKind.wrap .u64 n2) 16) = v at *
 have l2':∀ τ G,τ 1 = .slice (some ⟨c,0,none⟩) 2 2 → τ 8 = .slice (some ⟨b,0,none⟩) 2 2 → τ 9 = .int .i64 2 → τ 10 = .int .i64 2 → τ 5 = .int .u64 v → Wp ((exL Q orc).lpx 237 0 τ G) fun q=>q.1 = .exit 0 ∧ q.2.1 5 = .int .u64 v ∧ q.2.2 = G:=by
  intro τ G t1 t8 t9 t10 t5
  refine Wp.lp (l237_0 (exL_ok Q orc)) ?_
  simp [b237_0,clip_t,t1,t8,t9,t10,t5]
 have l1':∀ τ G,G.obj b = some ⟨[.int .i64 0,.int .i64 m1,.int .i64 16,.int .i64 m2],bz,false,1⟩ → G.obj c = some ⟨[.int .i64 n1,.int .i64 n2],cz,false,1⟩ → b < G.nx → c < G.nx → τ 1 = .slice (some ⟨c,0,none⟩) 2 2 → τ 8 = .slice (some ⟨b,0,none⟩) 2 2 → τ 9 = .int .i64 2 → τ 10 = .int .i64 1 → τ 5 = .int .u64 u → Wp ((exL Q orc).lpx 237 0 τ G) fun q=>q.1 = .exit 0 ∧ q.2.1 5 = .int .u64 v ∧ Ext G q.2.2:=by
  intro τ G ho hc hb hcn t1 t8 t9 t10 t5
  have hne:¬ c = G.nx:=by omega
  refine Wp.lp (l237_0 (exL_ok Q orc)) ?_
  simp [b237_0,clip_t,t1,t8,t9,t10,t5,ho,hc,hne,splice_put,splice_end,r1]
  refine Wp.mono (l2' _ _ (by simp [clip_t]) (by simp [clip_t]) (by simp [clip_t]) (by simp [clip_t,w2]) (by simp [clip_t])) ?_
  rintro q ⟨h1,h2,h3⟩
  refine ⟨h1,h2,?_⟩
  rw [h3]
  exact ((((Ext.refl G).push _).put (Nat.le_refl _) _).room _).push _
 have w:Wp (s237 true (exL Q orc) (.slice (some ⟨b,0,none⟩) 2 2) (.slice (some ⟨c,0,none⟩) 2 2) G) fun r=>r.1 = .int .u64 v ∧ Ext G r.2:=by
  simp [s237]
  have hne:¬ c = G.nx:=by omega
  have hne':¬ b = G.nx:=by omega
  have hne1:¬ c = G.nx + 1:=by omega
  have hne1':¬ b = G.nx + 1:=by omega
  refine Wp.bE ((Wp.lp (l237_0 (exL_ok Q orc)) (Q:=fun q=>q.1 = .exit 0 ∧ q.2.1 5 = .int .u64 v ∧ Ext G q.2.2) ?_).mono ?_)
  ·simp [b237_0,clip_t,ho,hc,hne,splice_put,splice_end,r0]
   have x:Ext G ((((G.push ⟨z356,1,false,1⟩).put G.nx ⟨[.int .i64 0,.int .i64 m1],1,false,1⟩).room 8).push ⟨[.int .i64 0,.int .i64 m1],1,false,1⟩):=((((Ext.refl G).push _).put (Nat.le_refl _) _).room _).push _
   refine Wp.mono (l1' _ _ ((x.obj b hb).trans ho) ((x.obj c hcn).trans hc) (Nat.lt_of_lt_of_le hb x.nx) (Nat.lt_of_lt_of_le hcn x.nx) (by simp [clip_t]) (by simp [clip_t]) (by simp [clip_t]) (by simp [clip_t,w1]) (by simp [clip_t])) ?_
   rintro q ⟨h1,h2,h3⟩
   exact ⟨h1,h2,x.trans h3⟩
  ·rintro ⟨e,τ,G'⟩ ⟨rfl,h2,h3⟩
   simp only at h2 h3
   simp [h2]
   exact h3
 obtain ⟨⟨v,G'⟩,e1,rfl,e3⟩:=w
 exact ⟨G',f237 (exL_ok Q orc) _ _ G _ e1,e3⟩
def wordT (i tag:Int):Int:=i + 1 + tag * 65536
theorem lay_val {i t:Int} (h0:-1 ≤ i ∧ i ≤ 65534) (h1:0 ≤ t ∧ t < 281474976710656):orI .u64 (orI .u64 0 (shlI .u64 (IntKind.wrap .u64 (i + 1)) 0)) (shlI .u64 (IntKind.wrap .u64 t) 16) = wordT i t:=by
 have a:IntKind.wrap .u64 (i + 1) = i + 1:=by rw [wrap_u64]; omega
 have b:IntKind.wrap .u64 t = t:=by rw [wrap_u64]; omega
 have c:shlI .u64 (i + 1) 0 = i + 1:=by
  show IntKind.wrap .u64 ((i + 1) * 2 ^ (min (0:Int).toNat 64)) = _
  rw [show (min (0:Int).toNat 64) = 0 from rfl,wrap_u64]; omega
 have d:shlI .u64 t 16 = t * 65536:=by
  show IntKind.wrap .u64 (t * 2 ^ (min (16:Int).toNat 64)) = _
  rw [show (min (16:Int).toNat 64) = 16 from rfl,wrap_u64,show (2:Int) ^ 16 = 65536 from rfl]; omega
 have e:orI .u64 0 (i + 1) = i + 1:=by
  rw [or_u64 ⟨by decide,by decide⟩ ⟨by omega,by omega⟩]
  simp; omega
 rw [a,b,c,d,e]
 have hu1:U (i + 1):=⟨by omega,by omega⟩
 have hu2:U (t * 65536):=⟨by omega,by omega⟩
 have k:=or_add 16 t.toNat hu2 hu1 (by omega) (by omega)
 rw [or_u64 hu1 hu2,Nat.or_comm,← or_u64 hu2 hu1,k]
 unfold wordT; omega
theorem puttop_ok (ht:orc 236 = false) {i t:Int} (h0:-1 ≤ i ∧ i ≤ 65534) (h1:0 ≤ t ∧ t < 281474976710656) (G:GS):∃ G',(E orc).cl 212 [.agg ⟨[.int .i64 i,.int .i64 t]⟩] G = some (.tuple #[.int .u64 (wordT i t),.int .i64 0],G') ∧ Ext G G':=by
 have x1:Ext G ((G.push ⟨[.int .i64 i,.int .i64 t],1,false,1⟩).push ⟨[.int .i64 i,.int .i64 (-1),.int .i64 65534,.int .i64 t,.int .i64 0,.int .i64 281474976710655],3,false,1⟩):=((Ext.refl G).push _).push _
 have o1:((G.push ⟨[.int .i64 i,.int .i64 t],1,false,1⟩).push ⟨[.int .i64 i,.int .i64 (-1),.int .i64 65534,.int .i64 t,.int .i64 0,.int .i64 281474976710655],3,false,1⟩).obj G.nx = some ⟨[.int .i64 i,.int .i64 t],1,false,1⟩:=by simp
 have p1:((G.push ⟨[.int .i64 i,.int .i64 t],1,false,1⟩).push ⟨[.int .i64 i,.int .i64 (-1),.int .i64 65534,.int .i64 t,.int .i64 0,.int .i64 281474976710655],3,false,1⟩).obj (G.nx + 1) = some ⟨[.int .i64 i,.int .i64 (-1),.int .i64 65534,.int .i64 t,.int .i64 0,.int .i64 281474976710655],3,false,1⟩:=by simp
 have n1:((G.push ⟨[.int .i64 i,.int .i64 t],1,false,1⟩).push ⟨[.int .i64 i,.int .i64 (-1),.int .i64 65534,.int .i64 t,.int .i64 0,.int .i64 281474976710655],3,false,1⟩).nx = G.nx + 2:=rfl
 have w:Wp (s212 true (exL Q orc) (.agg ⟨[.int .i64 i,.int .i64 t]⟩) G) fun r=>r.1 = .tuple #[.int .u64 (wordT i t),.int .i64 0] ∧ Ext G r.2:=by
  simp [s212]
  generalize hG1:(GS.push (GS.push G _) _) = G1 at *
  obtain ⟨G2,e2,x2⟩:=within2_ok orc p1 (by omega) ⟨h0.1,h0.2⟩ ⟨h1.1,by omega⟩
  have n2:=x2.nx
  have o2:=(x2.obj G.nx (by omega)).trans o1
  obtain ⟨G3,e3,x3⟩:=tops_ok orc ht G2
  have n3:=x3.nx
  have o3:=(x3.obj G.nx (by omega)).trans o2
  have hne:¬ G.nx = G3.nx:=by omega
  have hi:IntKind.wrap .i64 (i + 1) = i + 1:=wrap64 (by omega) (by omega)
  simp [e2,e3,hne,o3,splice_put,splice_end,slA,bound,hi]
  generalize hG5:GS.back _ _ = G5
  have x5:Ext G3 G5:=by rw [← hG5]; exact Ext.drawn ((((Ext.refl G3).push _).put (Nat.le_refl _) _).room 10) (by omega) (by simp; omega) _
  have p5:G5.obj G3.nx = some ⟨[.int .i64 0,.int .i64 16,.int .i64 16,.int .i64 48],1,false,1⟩:=by rw [← hG5]; simp; omega
  have c5:G5.obj (G3.nx + 1 + 6) = some ⟨[.int .i64 (i + 1),.int .i64 t],1,false,1⟩:=by rw [← hG5]; simp
  have n5:G5.nx = G3.nx + 1 + 10:=by rw [← hG5]; simp
  obtain ⟨G6,e6,x6⟩:=lay2_ok orc p5 c5 (by omega) (by omega)
  rw [lay_val h0 h1] at e6
  simp [e6]
  exact (((x1.trans x2).trans x3).trans x5).trans x6
 obtain ⟨⟨v,G'⟩,e1,rfl,e3⟩:=w
 exact ⟨G',f212 (exL_ok Q orc) _ G _ e1,e3⟩
def idxI (size w:Int):Int:=if size ≤ w % 65536 - 1 then -1 else w % 65536 - 1
theorem link_ok (ht:orc 236 = false) {i:Int} (h0:-1 ≤ i ∧ i ≤ 65534) (G:GS):∃ G',(E orc).cl 175 [.int .i64 i] G = some (.int .u64 (i + 1),G') ∧ Ext G G':=by
 obtain ⟨G',e,x⟩:=puttop_ok orc ht (t:=0) h0 (by decide) G
 refine ⟨G',f175 (exL_ok Q orc) _ G _ ?_,x⟩
 simp [s175,e,wordT]
theorem rindex_ok {a b size w:Int} (h:U w) (G:GS):∃ G',(E orc).cl 227 [.agg ⟨[.int .i64 a,.int .i64 b,.int .i64 size]⟩,.int .u64 w] G = some (.int .i64 (idxI size w),G') ∧ Ext G G':=by
 refine ⟨G.push ⟨[.int .i64 a,.int .i64 b,.int .i64 size],1,false,1⟩,f227 (exL_ok Q orc) _ _ G _ ?_,(Ext.refl G).push _⟩
 have h1:=h.1
 have e0:w.tmod 65536 = w % 65536:=Int.tmod_eq_emod_of_nonneg h1
 have e1:IntKind.wrap .i64 (w % 65536) = w % 65536:=wrap64 (by omega) (by omega)
 have e2:IntKind.wrap .i64 (w % 65536 - 1) = w % 65536 - 1:=wrap64 (by omega) (by omega)
 have e3:IntKind.wrap .u64 (w % 65536) = w % 65536:=by rw [wrap_u64]; omega
 unfold idxI
 by_cases hc:size ≤ w % 65536 - 1
 ·simp [s227,e0,e1,e2,e3,hc]
 ·simp [s227,e0,e1,e2,e3,hc]
structure MS where
 W:List Int
 kind:Int
 at_:Int
 old:Int
 new:Int
 held:Bool
 many:Int
def MS.acc (s:MS) (kind at_:Int) (upd:Int → Int × Bool):MS :=
 if 0 ≤ at_ ∧ at_ < s.W.length then
  ⟨s.W.set at_.toNat (upd ((s.W[at_.toNat]?).getD 0)).1,kind,at_,(s.W[at_.toNat]?).getD 0,(upd ((s.W[at_.toNat]?).getD 0)).1,(upd ((s.W[at_.toNat]?).getD 0)).2,IntKind.wrap .i64 (s.many + 1)⟩
 else ⟨s.W,kind,at_,0,0,false,IntKind.wrap .i64 (s.many + 1)⟩
def uLoad (w:Int):Int × Bool:=(w,false)
def uStore (v w:Int):Int × Bool:=(v,true)
def uCas (a b w:Int):Int × Bool:=if w = a then (b,true) else (w,false)
def MS.load (s:MS) (a:Int):MS:=s.acc 1 a uLoad
def MS.store (s:MS) (a v:Int):MS:=s.acc 2 a (uStore v)
def MS.cas (s:MS) (a x y:Int):MS:=s.acc 3 a (uCas x y)
def MS.zero (n:Nat):MS:=⟨List.replicate n 0,0,0,0,0,false,0⟩
structure PMr (A:Nat → Prop) (G:GS) (m bb:Nat) (rest:List Int) (s:MS):Prop where
 un:Under A G
 am:A m
 ab:A bb
 hm:G.obj m = some ⟨[P0 bb,.int .i64 s.W.length,.int .i64 s.kind,.int .i64 s.at_,.int .u64 s.old,.int .u64 s.new,.bool s.held,.int .i64 s.many],1,false,1⟩
 hb:G.obj bb = some ⟨(s.W ++ rest).map (Value.int .u64),1,false,1⟩
 hl:s.W.length + rest.length = 4096
def PMx (A:Nat → Prop) (G:GS) (m:Nat) (s:MS):Prop:=∃ bb rest,PMr A G m bb rest s
section
variable {A B:Nat → Prop} {G G':GS} {m bb:Nat} {rest:List Int} {s:MS}
theorem PMr.kept (h:PMr A G m bb rest s) (hn:G.nx ≤ G'.nx) (hk:∀ g,A g → G'.obj g = G.obj g):PMr A G' m bb rest s :=
 ⟨h.un.le hn,h.am,h.ab,(hk _ h.am).trans h.hm,(hk _ h.ab).trans h.hb,h.hl⟩
theorem PMr.ext (h:PMr A G m bb rest s) (x:Ext G G'):PMr A G' m bb rest s:=h.kept x.nx fun g hg=>x.obj g (h.un g hg)
theorem PMr.mono (h:PMr A G m bb rest s) (hs:∀ x,A x → B x) (hu:Under B G):PMr B G m bb rest s:=⟨hu,hs _ h.am,hs _ h.ab,h.hm,h.hb,h.hl⟩
theorem PMx.un (h:PMx A G m s):Under A G:=let ⟨_,_,h⟩:=h; h.un
theorem PMx.kept (h:PMx A G m s) (hn:G.nx ≤ G'.nx) (hk:∀ g,A g → G'.obj g = G.obj g):PMx A G' m s:=let ⟨_,_,h⟩:=h; ⟨_,_,h.kept hn hk⟩
theorem PMx.ext (h:PMx A G m s) (x:Ext G G'):PMx A G' m s:=h.kept x.nx fun g hg=>x.obj g (h.un g hg)
theorem PMx.mono (h:PMx A G m s) (hs:∀ x,A x → B x) (hu:Under B G):PMx B G m s:=let ⟨_,_,h⟩:=h; ⟨_,_,h.mono hs hu⟩
theorem ModP.pre {G1:GS} (x:Ext G G1) (h:ModP A G1 G'):ModP A G G' :=
 ⟨Nat.le_trans x.nx h.nx,fun g hg ha=>(h.obj g (Nat.lt_of_lt_of_le hg x.nx) ha).trans (x.obj g hg),Nat.le_trans x.nl h.nl,fun l hl=>(h.loop l (Nat.lt_of_lt_of_le hl x.nl)).trans (x.loop l hl)⟩
theorem grow_pre {G1:GS} (x:Ext G G1):∀ g,Grow A G1 G' g → Grow A G G' g:=fun g hg=>hg.elim .inl fun h=>.inr ⟨Nat.le_trans x.nx h.1,h.2⟩
theorem PMx.pre {G1:GS} (hu:Under A G) (x:Ext G G1) (q2:ModP A G1 G') (q3:PMx (Grow A G1 G') G' m s):ModP A G G' ∧ PMx (Grow A G G') G' m s :=
 have q:=ModP.pre x q2
 ⟨q,q3.mono (grow_pre x) (hu.grow q.nx)⟩
theorem PMr.ne (h:PMr A G m bb rest s):m ≠ bb:=fun e=>by
 have h1:=h.hm
 rw [e,h.hb] at h1
 simp only [Option.some.injEq,GObj.mk.injEq,and_true] at h1
 cases hq:s.W ++ rest with
 | nil=>rw [hq] at h1; simp at h1
 | cons a b=>rw [hq] at h1; simp at h1
def cellV (bb:Nat) (s:MS) (a:Int):Value:=if 0 ≤ a ∧ a < s.W.length then .pointer (some ⟨bb,a.toNat,none⟩) else .pointer none
theorem cell_ok (h:PMr A G m bb rest s) (a:Int):(E orc).cl 62 [P0 m,.int .i64 a] G = some (cellV bb s a,G):=by
 refine f62 (exL_ok Q orc) _ _ G _ ?_
 have hl:=h.hl
 unfold cellV
 by_cases h1:a < 0
 ·have h1':¬ (0 ≤ a ∧ a < (s.W.length:Int)):=by omega
  simp [s62,cell_eq,h.hm,h1,h1']
 ·by_cases h2:(s.W.length:Int) ≤ a
  ·have h1':¬ (0 ≤ a ∧ a < (s.W.length:Int)):=by omega
   simp [s62,cell_eq,h.hm,h1,h2,h1']
  ·have h1':(0 ≤ a ∧ a < (s.W.length:Int)):=by omega
   have h3:a < 4096:=by omega
   simp [s62,cell_eq,h.hm,h1,h2,h1',h3]
theorem is_ok (o:Option Addr) (G:GS):(E orc).cl 104 [.pointer o] G = some (.bool o.isSome,G):=by
 refine f104 (exL_ok Q orc) _ G _ ?_
 cases o <;> simp [s104]
theorem word_at (h:PMr A G m bb rest s) {a:Nat} (ha:a < s.W.length):G.cell bb a = some (.int .u64 ((s.W[a]?).getD 0)):=by
 have:((s.W ++ rest).map (Value.int .u64))[a]? = some (.int .u64 ((s.W[a]?).getD 0)):=by rw [List.getElem?_map,List.getElem?_append_left ha,List.getElem?_eq_getElem ha]; rfl
 simp only [cell_eq,h.hb,this]; rfl
abbrev accV (s:MS):List Value:=[.int .i64 s.kind,.int .i64 s.at_,.int .u64 s.old,.int .u64 s.new,.bool s.held]
theorem do_ok (h:PMr A G m bb rest s) (kind a:Int) (f:FuncId) (dv:List Value) (upd:Int → Int × Bool)
  (hf:∀ G1 w,bb < G1.nx → 0 ≤ a → a < s.W.length → G1.cell bb a.toNat = some (.int .u64 w) → ∃ G2,(E orc).cl f dv G1 = some (.tuple #[.int .u64 (upd w).1,.bool (upd w).2],G2) ∧ Ext G1 G2) :
  Wp ((E orc).cl 63 [P0 m,.int .i64 kind,.int .i64 a,cellV bb s a,.func (.func f) ⟨dv⟩ #[]] G) fun r=>r.1 = .agg ⟨accV (s.acc kind a upd)⟩ ∧ ModP A G r.2 ∧ PMx (Grow A G r.2) r.2 m (s.acc kind a upd):=by
 refine Wp.ref (f63 (exL_ok Q orc) _ _ _ _ _ G) ?_
 have hm:=h.hm
 have hmn:=h.un _ h.am
 have hbn:=h.un _ h.ab
 have hne:=h.ne
 have hne':=hne.symm
 have m1:m ≠ G.nx:=by omega
 have m2:G.nx ≠ m:=by omega
 have b1:bb ≠ G.nx:=by omega
 have b2:G.nx ≠ bb:=by omega
 have hw:IntKind.wrap .i64 (s.many + 1) = IntKind.wrap .i64 (s.many + 1):=rfl
 by_cases hin:0 ≤ a ∧ a < s.W.length
 ·have hcv:cellV bb s a = .pointer (some ⟨bb,a.toNat,none⟩):=by unfold cellV; rw [if_pos hin]
  have his:=is_ok orc (some ⟨bb,a.toNat,none⟩)
  obtain ⟨n,hn⟩:∃ n:Nat,a.toNat = n:=⟨_,rfl⟩
  have hnl:n < s.W.length:=by omega
  have hww:=word_at h hnl
  generalize hx:(s.W[n]?).getD 0 = w at hww
  have hacc:s.acc kind a upd = ⟨s.W.set n (upd w).1,kind,a,w,(upd w).1,(upd w).2,IntKind.wrap .i64 (s.many + 1)⟩:=by unfold MS.acc; rw [if_pos hin,hn,hx]
  rw [hcv,hacc]
  rw [hn] at his hf
  obtain ⟨GA,hGA⟩:∃ GA,GA = ((G.push ⟨[.int .i64 0,.int .i64 0,.int .u64 0,.int .u64 0,.bool false],1,false,1⟩).put m ⟨[P0 bb,.int .i64 s.W.length,.int .i64 s.kind,.int .i64 s.at_,.int .u64 s.old,.int .u64 s.new,.bool s.held,.int .i64 (IntKind.wrap .i64 (s.many + 1))],1,false,1⟩).put m ⟨[P0 bb,.int .i64 s.W.length,.int .i64 kind,.int .i64 a,.int .u64 0,.int .u64 0,.bool false,.int .i64 (IntKind.wrap .i64 (s.many + 1))],1,false,1⟩:=⟨_,rfl⟩
  have oA:∀ g,g ≠ m → g ≠ G.nx → GA.obj g = G.obj g:=fun g h1 h2=>by rw [hGA]; simp [h1,h2]
  have oAm:GA.obj m = some ⟨[P0 bb,.int .i64 s.W.length,.int .i64 kind,.int .i64 a,.int .u64 0,.int .u64 0,.bool false,.int .i64 (IntKind.wrap .i64 (s.many + 1))],1,false,1⟩:=by rw [hGA]; simp
  have oAn:GA.obj G.nx = some ⟨[.int .i64 0,.int .i64 0,.int .u64 0,.int .u64 0,.bool false],1,false,1⟩:=by rw [hGA]; simp [m2]
  have nA:GA.nx = G.nx + 1:=by rw [hGA]; rfl
  have mA:ModP A G GA:=by rw [hGA]; exact (((ModP.refl A G).push _).put (.inl h.am) _).put (.inl h.am) _
  have cA:GA.cell bb n = some (.int .u64 w):=by rw [← hww]; unfold GS.cell; rw [oA bb hne' b1]
  obtain ⟨GB,eB,xB⟩:=hf GA w (by omega) hin.1 hin.2 cA
  have cB:GB.obj bb = some ⟨(s.W ++ rest).map (Value.int .u64),1,false,1⟩:=by rw [xB.obj bb (by omega),oA bb hne' b1]; exact h.hb
  have oBm:=(xB.obj m (by omega)).trans oAm
  have oBn:=(xB.obj G.nx (by omega)).trans oAn
  have hwB:((s.W ++ rest).map (Value.int .u64))[n]? = some (.int .u64 w):=by
   rw [List.getElem?_map,List.getElem?_append_left hnl,List.getElem?_eq_getElem hnl,← hx,List.getElem?_eq_getElem hnl]; rfl
  have hlen:n < ((s.W ++ rest).map (Value.int .u64)).length:=by simp; omega
  have hset:((s.W ++ rest).map (Value.int .u64)).set n (.int .u64 (upd w).1) = (s.W.set n (upd w).1 ++ rest).map (Value.int .u64):=by
   rw [← List.map_set,List.set_append_left _ _ hnl]
  generalize hcells:(s.W ++ rest).map (Value.int .u64) = cells at *
  have hwB':∀ h:n < cells.length,cells[n] = .int .u64 w:=fun h=>by rw [List.getElem?_eq_getElem h] at hwB; exact Option.some.inj hwB
  simp [s63,sb63,j63_0,jb63_0,clip_t,hm,m1,m2,b1,b2,hn,← hGA,his,eB,oBm,cB,hne,hne',hwB,hwB',hlen,loadA_eq,loadO,oBn,xB]
  refine ⟨?_,bb,rest,?_⟩
  ·exact (((((mA.trans (xB.modP _)).put (.inl h.am) _).put (.inl h.am) _).put (.inl h.am) _).put (.inl h.ab) _).put (.inr (Nat.le_refl _)) _
  ·have nB:=xB.nx
   refine ⟨fun x hx=>?_,.inl h.am,.inl h.ab,?_,?_,?_⟩
   ·rcases hx with hx | hx
    ·have:=h.un x hx; simp; omega
    ·simpa using hx.2
   ·simp [m1,hne]
   ·simp [b1,← hset]
   ·simpa using h.hl
 ·have hcv:cellV bb s a = .pointer none:=by unfold cellV; rw [if_neg hin]
  have his:=is_ok orc none
  have hacc:s.acc kind a upd = ⟨s.W,kind,a,0,0,false,IntKind.wrap .i64 (s.many + 1)⟩:=by unfold MS.acc; rw [if_neg hin]
  rw [hcv,hacc]
  simp [s63,sb63,j63_0,jb63_0,clip_t,hm,m1,m2,his]
  refine ⟨?_,bb,rest,?_⟩
  ·exact ((((ModP.refl A G).push _).put (.inl h.am) _).put (.inl h.am) _).put (.inr (Nat.le_refl _)) _
  ·refine ⟨fun x hx=>?_,.inl h.am,.inl h.ab,?_,?_,h.hl⟩
   ·rcases hx with hx | hx
    ·have:=h.un x hx; simp; omega
    ·simpa using hx.2
   ·simp [m1]
   ·simp [b1,hne',h.hb]
theorem cellV_one (bb:Nat) (s:MS) (a:Int):one (cellV bb s a) = true:=by unfold cellV; split <;> rfl
theorem cellV_in {bb:Nat} {s:MS} {a:Int} (h1:0 ≤ a) (h2:a < s.W.length):cellV bb s a = .pointer (some ⟨bb,a.toNat,none⟩):=by unfold cellV; rw [if_pos ⟨h1,h2⟩]
theorem load_ok (h:PMr A G m bb rest s) (a:Int):Wp ((E orc).cl 70 [P0 m,.int .i64 a] G) fun r=>r.1 = .int .u64 (s.load a).new ∧ ModP A G r.2 ∧ PMx (Grow A G r.2) r.2 m (s.load a):=by
 refine Wp.ref (f70 (exL_ok Q orc) _ _ G) ?_
 have hc:=cell_ok orc h a
 obtain ⟨G1,hG1⟩:∃ G1,G1 = ((G.push ⟨[.pointer none,.int .u64 0,.int .u64 0],1,false,1⟩).put G.nx ⟨[cellV bb s a,.int .u64 0,.int .u64 0],1,false,1⟩):=⟨_,rfl⟩
 have x1:Ext G G1:=by rw [hG1]; exact ((Ext.refl G).push _).put (Nat.le_refl _) _
 have o1:G1.obj G.nx = some ⟨[cellV bb s a,.int .u64 0,.int .u64 0],1,false,1⟩:=by rw [hG1]; simp
 obtain ⟨⟨v,G'⟩,e,q1,q2,q3⟩:=do_ok orc (h.ext x1) 1 a 114 [.agg ⟨[cellV bb s a,.int .u64 0,.int .u64 0]⟩] uLoad fun G1 w hb h1 h2 h3=>by
  have hbn:¬ bb = G1.nx:=by omega
  rw [cellV_in h1 h2]
  exact ⟨_,f114 (exL_ok Q orc) _ G1 _ (by simp [-cell_s,s114,cell_push,hbn,h3,uLoad]; rfl),(Ext.refl G1).push _⟩
 simp only at q1 q2 q3
 have hone:=cellV_one bb s a
 generalize cellV bb s a = cv at *
 have hcs:=cells_one hone
 simp [s70,hc,hcs,hone,← hG1,o1,e,q1]
 exact ⟨rfl,PMx.pre h.un x1 q2 q3⟩
theorem store_ok (h:PMr A G m bb rest s) (a v:Int):Wp ((E orc).cl 23 [P0 m,.int .i64 a,.int .u64 v] G) fun r=>r.1 = .tuple #[] ∧ ModP A G r.2 ∧ PMx (Grow A G r.2) r.2 m (s.store a v):=by
 refine Wp.ref (f23 (exL_ok Q orc) _ _ _ G) ?_
 have hc:=cell_ok orc h a
 obtain ⟨G1,hG1⟩:∃ G1,G1 = ((G.push ⟨[.pointer none,.int .u64 0,.int .u64 0],1,false,1⟩).put G.nx ⟨[cellV bb s a,.int .u64 v,.int .u64 0],1,false,1⟩):=⟨_,rfl⟩
 have x1:Ext G G1:=by rw [hG1]; exact ((Ext.refl G).push _).put (Nat.le_refl _) _
 have o1:G1.obj G.nx = some ⟨[cellV bb s a,.int .u64 v,.int .u64 0],1,false,1⟩:=by rw [hG1]; simp
 obtain ⟨⟨v',G'⟩,e,q1,q2,q3⟩:=do_ok orc (h.ext x1) 2 a 64 [.agg ⟨[cellV bb s a,.int .u64 v,.int .u64 0]⟩] (uStore v) fun G1 w hb h1 h2 h3=>by
  rw [cellV_in h1 h2]
  exact ⟨_,f64 (exL_ok Q orc) _ G1 _ (by simp [s64,uStore]; rfl),(Ext.refl G1).push _⟩
 simp only at q1 q2 q3
 have hone:=cellV_one bb s a
 generalize cellV bb s a = cv at *
 have hcs:=cells_one hone
 simp [s23,hc,hcs,hone,← hG1,o1,e,q1]
 exact PMx.pre h.un x1 q2 q3
theorem cas_ok (h:PMr A G m bb rest s) (a v w:Int):Wp ((E orc).cl 276 [P0 m,.int .i64 a,.int .u64 v,.int .u64 w] G) fun r=>r.1 = .bool (s.cas a v w).held ∧ ModP A G r.2 ∧ PMx (Grow A G r.2) r.2 m (s.cas a v w):=by
 refine Wp.ref (f276 (exL_ok Q orc) _ _ _ _ G) ?_
 have hc:=cell_ok orc h a
 obtain ⟨G1,hG1⟩:∃ G1,G1 = ((G.push ⟨[.pointer none,.int .u64 0,.int .u64 0],1,false,1⟩).put G.nx ⟨[cellV bb s a,.int .u64 v,.int .u64 w],1,false,1⟩):=⟨_,rfl⟩
 have x1:Ext G G1:=by rw [hG1]; exact ((Ext.refl G).push _).put (Nat.le_refl _) _
 have o1:G1.obj G.nx = some ⟨[cellV bb s a,.int .u64 v,.int .u64 w],1,false,1⟩:=by rw [hG1]; simp
 obtain ⟨⟨v',G'⟩,e,q1,q2,q3⟩:=do_ok orc (h.ext x1) 3 a 283 [.agg ⟨[cellV bb s a,.int .u64 v,.int .u64 w]⟩] (uCas v w) fun G1 x hb h1 h2 h3=>by
  rw [cellV_in h1 h2]
  have hbn:¬ bb = G1.nx:=by omega
  refine ⟨(G1.push ⟨[.pointer (some ⟨bb,a.toNat,none⟩),.int .u64 v,.int .u64 w],1,false,1⟩).room 7,f283 (exL_ok Q orc) _ G1 _ ?_,((Ext.refl G1).push _).room 7⟩
  by_cases hx:x = v
  ·simp [-cell_s,s283,cell_push,hbn,h3,uCas,hx]
  ·simp [-cell_s,s283,cell_push,hbn,h3,uCas,hx]
 simp only at q1 q2 q3
 have hone:=cellV_one bb s a
 generalize cellV bb s a = cv at *
 have hcs:=cells_one hone
 simp [s276,hc,hcs,hone,← hG1,o1,e,q1]
 exact ⟨rfl,PMx.pre h.un x1 q2 q3⟩
theorem new_ok (n:Int) (G:GS):(n < 1 ∨ 4096 < n → (E orc).cl 19 [.int .i64 n] G = some (.tuple #[.pointer none,.int .i64 3],G)) ∧
  (1 ≤ n → n ≤ 4096 → ∃ m G',(E orc).cl 19 [.int .i64 n] G = some (.tuple #[P0 m,.int .i64 0],G') ∧ Ext G G' ∧ PMx (fun x=>G.nx ≤ x ∧ x < G'.nx) G' m (MS.zero n.toNat)):=by
 constructor
 ·intro h
  refine f19 (exL_ok Q orc) _ G _ ?_
  by_cases h1:n < 1
  ·simp [s19,h1]
  ·have h2:4096 < n:=by omega
   simp [s19,h1,h2]
 ·intro h1 h2
  have h1':¬ n < 1:=by omega
  have h2':¬ 4096 < n:=by omega
  refine ⟨G.nx + 1,_,f19 (exL_ok Q orc) _ G _ (by simp [s19,h1',h2']; rfl),((Ext.refl G).push _).push _,G.nx,List.replicate (4096 - n.toNat) 0,?_⟩
  refine ⟨fun x hx=>hx.2,⟨by omega,by simp⟩,⟨by omega,by simp; omega⟩,?_,?_,?_⟩
  ·have:((n.toNat:Nat):Int) = n:=by omega
   simp [MS.zero,this]
  ·have:List.replicate n.toNat (0:Int) ++ List.replicate (4096 - n.toNat) 0 = List.replicate 4096 0:=by
    rw [List.replicate_append_replicate]; congr 1; omega
   simp only [MS.zero,this,List.map_replicate]
   simp
  ·simp [MS.zero]; omega
theorem count_ok (h:PMr A G m bb rest s):(E orc).cl 43 [P0 m] G = some (.int .i64 s.many,G) :=
 f43 (exL_ok Q orc) _ G _ (by simp [s43,h.hm])
theorem last_ok (h:PMr A G m bb rest s):∃ G',(E orc).cl 41 [P0 m] G = some (.agg ⟨accV s⟩,G') ∧ Ext G G':=by
 have hmn:=h.un _ h.am
 have m1:m ≠ G.nx:=by omega
 have m2:G.nx ≠ m:=by omega
 exact ⟨_,f41 (exL_ok Q orc) _ G _ (by simp [s41,h.hm,m1,m2]; rfl),((Ext.refl G).push _).put (Nat.le_refl _) _⟩
end
@[simp] theorem rowsI_sz (k:IntKind):(rowsI k).sz = 1:=rfl
@[simp] theorem rowsI_row (k:IntKind) (x:Int):(rowsI k).row x = [.int k x]:=rfl
theorem flat_ints (k:IntKind) (L:List Int):(rowsI k).flat L = L.map (Value.int k):=by
 induction L with
 | nil=>rfl
 | cons a l ih=>rw [RowE.flat_cons,ih]; rfl
section
variable {A:Nat → Prop} {G:GS} {m bb:Nat} {rest:List Int} {s:MS}
theorem words_lp {B:GS} {W rest:List Int} {bb nb:Nat} (hbb:B.obj bb = some ⟨(W ++ rest).map (Value.int .u64),1,false,1⟩) (hlt:bb < B.nx) (hnb:B.nx ≤ nb) (hW:W.length ≤ 4096) (c:Nat):∀ (k i:Nat) (τ:Env) (G:GS),i + k = W.length → τ 3 = .slice (some ⟨nb,0,none⟩) W.length W.length → τ 29 = .slice (some ⟨bb,0,none⟩) W.length c → τ 30 = .int .i64 W.length → τ 31 = .int .i64 i →
  Ext B G → nb < G.nx → G.obj nb = some ⟨(W.take i ++ List.replicate k 0).map (Value.int .u64),1,false,1⟩ →
  Wp ((exL Q orc).lpx 24 0 τ G) fun r=>r.1 = .exit 0 ∧ Ext B r.2.2 ∧ nb < r.2.2.nx ∧ r.2.1 3 = .slice (some ⟨nb,0,none⟩) W.length W.length ∧ r.2.2.obj nb = some ⟨W.map (Value.int .u64),1,false,1⟩:=by
 intro k
 induction k with
 | zero =>
  intro i τ G hi t3 t29 t30 t31 hx hn ho
  have hi':i = W.length:=by omega
  subst hi'
  refine Wp.lp (l24_0 (exL_ok Q orc)) ?_
  simp at ho
  simp [b24_0,clip_t,t3,t29,t30,t31]
  exact ⟨hx,hn,ho⟩
 | succ k ih =>
  intro i τ G hi t3 t29 t30 t31 hx hn ho
  have hlt':i < W.length:=by omega
  have hi0:(0:Int) ≤ i:=by omega
  have hw:IntKind.wrap .i64 ((i:Int) + 1) = ((i + 1:Nat):Int):=wrap64 (by omega) (by omega)
  have ob:=(hx.obj bb hlt).trans hbb
  have hwi:((W ++ rest).map (Value.int .u64))[i]? = some (.int .u64 W[i]):=by rw [List.getElem?_map,List.getElem?_append_left hlt',List.getElem?_eq_getElem hlt']; rfl
  have hwi':∀ h:i < ((W ++ rest).map (Value.int .u64)).length,((W ++ rest).map (Value.int .u64))[i] = .int .u64 W[i]:=fun h=>by rw [List.getElem?_eq_getElem h] at hwi; exact Option.some.inj hwi
  have hset:((W.take i ++ List.replicate (k + 1) 0).map (Value.int .u64)).set i (.int .u64 W[i]) = (W.take (i + 1) ++ List.replicate k 0).map (Value.int .u64):=by
   have hl:(W.take i).length = i:=by simp; omega
   rw [← List.map_set,List.set_append_right _ _ (by omega),hl,Nat.sub_self,List.replicate_succ,List.set_cons_zero,List.take_add_one,List.getElem?_eq_getElem hlt',Option.toList_some,List.append_assoc]; rfl
  have hlen:i < ((W.take i ++ List.replicate (k + 1) 0).map (Value.int .u64)).length:=by simp; omega
  generalize hc1:(W ++ rest).map (Value.int .u64) = c1 at *
  generalize hc2:(W.take i ++ List.replicate (k + 1) 0).map (Value.int .u64) = c2 at *
  refine Wp.lp (l24_0 (exL_ok Q orc)) ?_
  have hl1:i < c1.length:=by rw [← hc1]; simp; omega
  simp [-Int.natCast_add,b24_0,clip_t,t3,t29,t30,t31,hlt',hi0,ob,hwi,hwi',hl1,ho,hlen,hset,hw]
  refine ih (i + 1) _ _ (by omega) (by simp [clip_t]) (by simp [clip_t]) (by simp [clip_t]) (by simp [clip_t]) (hx.put hnb _) hn ?_
  simp
theorem words_ok (h:PMr A G m bb rest s):∃ v G',(E orc).cl 24 [P0 m] G = some (v,G') ∧ Ext G G' ∧ OwR (rowsI .u64) G.nx G' v s.W:=by
 have hl:=h.hl
 have hmn:=h.un _ h.am
 have hbn:=h.un _ h.ab
 have m1:m ≠ G.nx:=by omega
 have b1:bb ≠ G.nx:=by omega
 have hm:=h.hm
 have hmk:mkK 1 8 z23 s.W.length s.W.length G = some (.slice (some ⟨G.nx,0,none⟩) s.W.length s.W.length,G.push ⟨(List.replicate s.W.length 0).map (Value.int .u64),1,false,1⟩):=by
  unfold mkK
  rw [if_pos ⟨by omega,by omega,by decide,by omega,wrap64 (by omega) (by omega),wrap64 (by omega) (by omega)⟩]
  have:rep z23 ((s.W.length:Nat):Int).toNat = (List.replicate s.W.length 0).map (Value.int .u64):=by
   simp only [Int.toNat_natCast]
   generalize s.W.length = n
   induction n with
   | zero=>rfl
   | succ n ih=>show z23 ++ rep z23 n = _; rw [ih]; rfl
  rw [this]; rfl
 have hs4:((s.W.length:Nat):Int) ≤ 4096:=by omega
 have w:Wp (s24 true (exL Q orc) (P0 m) G) fun r=>Ext G r.2 ∧ OwR (rowsI .u64) G.nx r.2 r.1 s.W:=by
  generalize hrz:(List.replicate s.W.length 0).map (Value.int .u64) = rz at *
  have hs5:s.W.length ≤ 4096:=by omega
  simp [-List.map_replicate,s24,hm,hmk,m1,slA,bound,hs4,hs5]
  refine Wp.bE ((words_lp orc (rest:=rest) h.hb hbn (Nat.le_refl _) hs5 4096 s.W.length 0 _ _ (by omega) (by simp) (by simp) (by simp) (by simp) (((Ext.refl G).push _).room 12) (by simp; omega) (by simp [← hrz])).mono ?_)
  rintro ⟨e,τ,G'⟩ ⟨rfl,q1,q2,q3,q4⟩
  simp only at q1 q2 q3 q4
  simp [q3]
  exact ⟨q1,by rw [RowE.flat_length],.inr ⟨G.nx,false,rfl,Nat.le_refl _,q2,by rw [q4,flat_ints]; rfl⟩⟩
 obtain ⟨⟨v,G'⟩,e1,e2,e3⟩:=w
 exact ⟨v,G',f24 (exL_ok Q orc) _ G _ e1,e2,e3⟩
end
structure RMr (A:Nat → Prop) (G:GS) (r wb:Nat) (s:MS):Prop where
 un:Under A G
 ar:A r
 aw:A wb
 hr:G.obj r = some ⟨[.slice (some ⟨wb,0,none⟩) s.W.length s.W.length,.int .i64 s.kind,.int .i64 s.at_,.int .u64 s.old,.int .u64 s.new,.bool s.held,.int .i64 s.many],1,false,1⟩
 hw:G.obj wb = some ⟨s.W.map (Value.int .u64),1,false,1⟩
 hl:s.W.length ≤ 4096
def RMx (A:Nat → Prop) (G:GS) (r:Nat) (s:MS):Prop:=∃ wb,RMr A G r wb s
section
variable {A B:Nat → Prop} {G G':GS} {r wb:Nat} {s:MS}
theorem RMr.kept (h:RMr A G r wb s) (hn:G.nx ≤ G'.nx) (hk:∀ g,A g → G'.obj g = G.obj g):RMr A G' r wb s :=
 ⟨h.un.le hn,h.ar,h.aw,(hk _ h.ar).trans h.hr,(hk _ h.aw).trans h.hw,h.hl⟩
theorem RMr.ext (h:RMr A G r wb s) (x:Ext G G'):RMr A G' r wb s:=h.kept x.nx fun g hg=>x.obj g (h.un g hg)
theorem RMr.mono (h:RMr A G r wb s) (hs:∀ x,A x → B x) (hu:Under B G):RMr B G r wb s:=⟨hu,hs _ h.ar,hs _ h.aw,h.hr,h.hw,h.hl⟩
theorem RMx.un (h:RMx A G r s):Under A G:=let ⟨_,h⟩:=h; h.un
theorem RMx.kept (h:RMx A G r s) (hn:G.nx ≤ G'.nx) (hk:∀ g,A g → G'.obj g = G.obj g):RMx A G' r s:=let ⟨_,h⟩:=h; ⟨_,h.kept hn hk⟩
theorem RMx.mono (h:RMx A G r s) (hs:∀ x,A x → B x) (hu:Under B G):RMx B G r s:=let ⟨_,h⟩:=h; ⟨_,h.mono hs hu⟩
theorem RMr.ne (h:RMr A G r wb s):r ≠ wb:=fun e=>by
 have h1:=h.hr
 rw [e,h.hw] at h1
 simp only [Option.some.injEq,GObj.mk.injEq,and_true] at h1
 cases hq:s.W with
 | nil=>rw [hq] at h1; simp at h1
 | cons a b=>rw [hq] at h1; simp at h1
def MS.at' (s:MS) (a:Int):Int:=if 0 ≤ a ∧ a < s.W.length then (s.W[a.toNat]?).getD 0 else 0
theorem rat_ok (h:RMr A G r wb s) (a:Int):(E orc).cl 119 [P0 r,.int .i64 a] G = some (.int .u64 (s.at' a),G):=by
 refine f119 (exL_ok Q orc) _ _ G _ ?_
 unfold MS.at'
 by_cases h1:a < 0
 ·have h1':¬ (0 ≤ a ∧ a < (s.W.length:Int)):=by omega
  simp [s119,h.hr,h1,h1']
 ·by_cases h2:(s.W.length:Int) ≤ a
  ·have h1':¬ (0 ≤ a ∧ a < (s.W.length:Int)):=by omega
   simp [s119,h.hr,h1,h2,h1']
  ·have h1':(0 ≤ a ∧ a < (s.W.length:Int)):=by omega
   obtain ⟨n,rfl⟩:=Int.eq_ofNat_of_zero_le h1'.1
   have h3:n < s.W.length:=by omega
   have h4:¬ s.W.length ≤ n:=by omega
   have h5:((n:Int) < 0) = False:=eq_false (by omega)
   simp [s119,h.hr,h.hw,h3,h4,h5]
theorem acc_ok (h:RMr A G r wb s) (kind a:Int) (w:Bool) (v:Int) (upd:Int → Int × Bool) (hu:∀ x,s.at' a = x → 0 ≤ a → a < s.W.length → upd x = if w then (v,true) else (x,false)) :
  Wp ((E orc).cl 86 [P0 r,.int .i64 kind,.int .i64 a,.bool w,.int .u64 v] G) fun q=>q.1 = .tuple #[] ∧ ModP A G q.2 ∧ G.nx = q.2.nx ∧ RMr A q.2 r wb (s.acc kind a upd):=by
 refine Wp.ref (f86 (exL_ok Q orc) _ _ _ _ _ G) ?_
 have hr:=h.hr
 have hw':=h.hw
 have hne:=h.ne
 have hne':=hne.symm
 by_cases hin:0 ≤ a ∧ a < s.W.length
 ·obtain ⟨n,rfl⟩:=Int.eq_ofNat_of_zero_le hin.1
  have hn:n < s.W.length:=by omega
  have hn4:¬ s.W.length ≤ n:=by omega
  have h5:((n:Int) < 0) = False:=eq_false (by omega)
  have hx:=hu (s.W[n]) (by unfold MS.at'; rw [if_pos hin]; simp [hn]) hin.1 hin.2
  have hacc:s.acc kind n upd = ⟨s.W.set n (upd s.W[n]).1,kind,n,s.W[n],(upd s.W[n]).1,(upd s.W[n]).2,IntKind.wrap .i64 (s.many + 1)⟩:=by
   unfold MS.acc; rw [if_pos hin]; simp [hn]
  rw [hacc,hx]
  cases w with
  | true =>
   simp [s86,sb86,j86_0,jb86_0,clip_t,hr,hw',hne,hne',hn,hn4,h5]
   refine ⟨?_,?_⟩
   ·exact (((((((ModP.refl A G).put (.inl h.ar) _).put (.inl h.ar) _).put (.inl h.ar) _).put (.inl h.aw) _).put (.inl h.ar) _).put (.inl h.ar) _)
   ·exact ⟨fun x hx=>by simpa using h.un x hx,h.ar,h.aw,by simp,by simp [hne',List.map_set],by simpa using h.hl⟩
  | false =>
   simp [s86,sb86,j86_0,jb86_0,clip_t,hr,hw',hne,hne',hn,hn4,h5]
   refine ⟨?_,?_⟩
   ·exact (((((ModP.refl A G).put (.inl h.ar) _).put (.inl h.ar) _).put (.inl h.ar) _).put (.inl h.ar) _).put (.inl h.ar) _
   ·exact ⟨fun x hx=>by simpa using h.un x hx,h.ar,h.aw,by simp,by simp [hne',hw'],by simpa using h.hl⟩
 ·have hacc:s.acc kind a upd = ⟨s.W,kind,a,0,0,false,IntKind.wrap .i64 (s.many + 1)⟩:=by unfold MS.acc; rw [if_neg hin]
  rw [hacc]
  have hfin:ModP A G ((G.put r ⟨[.slice (some ⟨wb,0,none⟩) s.W.length s.W.length,.int .i64 s.kind,.int .i64 s.at_,.int .u64 s.old,.int .u64 s.new,.bool s.held,.int .i64 (IntKind.wrap .i64 (s.many + 1))],1,false,1⟩).put r ⟨[.slice (some ⟨wb,0,none⟩) s.W.length s.W.length,.int .i64 kind,.int .i64 a,.int .u64 0,.int .u64 0,.bool false,.int .i64 (IntKind.wrap .i64 (s.many + 1))],1,false,1⟩):=((ModP.refl A G).put (.inl h.ar) _).put (.inl h.ar) _
  by_cases h1:a < 0
  ·simp [s86,sb86,j86_0,jb86_0,clip_t,hr,hw',hne,hne',h1]
   exact ⟨hfin,⟨fun x hx=>by simpa using h.un x hx,h.ar,h.aw,by simp,by simp [hne',hw'],h.hl⟩⟩
  ·have h2:(s.W.length:Int) ≤ a:=by omega
   simp [s86,sb86,j86_0,jb86_0,clip_t,hr,hw',hne,hne',h1,h2]
   exact ⟨hfin,⟨fun x hx=>by simpa using h.un x hx,h.ar,h.aw,by simp,by simp [hne',hw'],h.hl⟩⟩
theorem RMr.same (h:RMr A G' r wb s) (hm:ModP A G G') (hu:Under A G):RMx (Grow A G G') G' r s:=⟨wb,h.mono (fun x=>.inl) (hu.grow hm.nx)⟩
theorem rload_ok (h:RMr A G r wb s) (a:Int):Wp ((E orc).cl 90 [P0 r,.int .i64 a] G) fun q=>q.1 = .int .u64 (s.load a).new ∧ ModP A G q.2 ∧ RMx (Grow A G q.2) q.2 r (s.load a):=by
 refine Wp.ref (f90 (exL_ok Q orc) _ _ G) ?_
 obtain ⟨⟨v,G1⟩,e,q1,q2,q3,q4⟩:=acc_ok orc h 1 a false 0 uLoad fun x _ _ _=>rfl
 simp only at q1 q2 q3 q4
 subst q1
 simp [s90,e,q4.hr]
 exact ⟨rfl,q2,q4.same q2 h.un⟩
theorem rstore_ok (h:RMr A G r wb s) (a v:Int):Wp ((E orc).cl 35 [P0 r,.int .i64 a,.int .u64 v] G) fun q=>q.1 = .tuple #[] ∧ ModP A G q.2 ∧ RMx (Grow A G q.2) q.2 r (s.store a v):=by
 refine Wp.ref (f35 (exL_ok Q orc) _ _ _ G) ?_
 obtain ⟨⟨v',G1⟩,e,q1,q2,q3,q4⟩:=acc_ok orc h 2 a true v (uStore v) fun x _ _ _=>rfl
 simp only at q1 q2 q3 q4
 subst q1
 simp [s35,e]
 exact ⟨q2,q4.same q2 h.un⟩
theorem rcas_ok (h:RMr A G r wb s) (a v w:Int):Wp ((E orc).cl 202 [P0 r,.int .i64 a,.int .u64 v,.int .u64 w] G) fun q=>q.1 = .bool (s.cas a v w).held ∧ ModP A G q.2 ∧ RMx (Grow A G q.2) q.2 r (s.cas a v w):=by
 refine Wp.ref (f202 (exL_ok Q orc) _ _ _ _ G) ?_
 obtain ⟨⟨v',G1⟩,e,q1,q2,q3,q4⟩:=acc_ok orc h 3 a (decide (s.at' a = v)) w (uCas v w) fun x hx _ _=>by
  unfold uCas; rw [hx]; by_cases h:x = v <;> simp [h]
 simp only at q1 q2 q3 q4
 subst q1
 have e1:=rat_ok orc h a
 simp [s202,e1,e,q4.hr]
 exact ⟨rfl,q2,q4.same q2 h.un⟩
theorem rnew_ok (n:Int) (G:GS):(n < 1 ∨ 4096 < n → (E orc).cl 77 [.int .i64 n] G = some (.tuple #[.pointer none,.int .i64 3],G)) ∧
  (1 ≤ n → n ≤ 4096 → ∃ r G',(E orc).cl 77 [.int .i64 n] G = some (.tuple #[P0 r,.int .i64 0],G') ∧ Ext G G' ∧ RMx (fun x=>G.nx ≤ x ∧ x < G'.nx) G' r (MS.zero n.toNat)):=by
 constructor
 ·intro h
  refine f77 (exL_ok Q orc) _ G _ ?_
  by_cases h1:n < 1
  ·simp [s77,h1]
  ·have h2:4096 < n:=by omega
   simp [s77,h1,h2]
 ·intro h1 h2
  have h1':¬ n < 1:=by omega
  have h2':¬ 4096 < n:=by omega
  have hm:mkK 1 8 z23 n n G = some (.slice (some ⟨G.nx,0,none⟩) n.toNat n.toNat,G.push ⟨(List.replicate n.toNat 0).map (Value.int .u64),1,false,1⟩):=by
   unfold mkK
   rw [if_pos ⟨by omega,by omega,by decide,by omega,wrap64 (by omega) (by omega),wrap64 (by omega) (by omega)⟩]
   have:rep z23 n.toNat = (List.replicate n.toNat 0).map (Value.int .u64):=by
    generalize n.toNat = n
    induction n with
    | zero=>rfl
    | succ n ih=>show z23 ++ rep z23 n = _; rw [ih]; rfl
   rw [this]; rfl
  refine ⟨G.nx + 1,_,f77 (exL_ok Q orc) _ G _ (by simp [s77,h1',h2',hm]; rfl),((Ext.refl G).push _).push _,G.nx,?_⟩
  exact ⟨fun x hx=>hx.2,⟨by omega,by simp⟩,⟨by omega,by simp; omega⟩,by simp [MS.zero],by simp [MS.zero],by simp [MS.zero]; omega⟩
theorem rcount_ok (h:RMr A G r wb s):(E orc).cl 44 [P0 r] G = some (.int .i64 s.many,G) :=
 f44 (exL_ok Q orc) _ G _ (by simp [s44,h.hr])
theorem rlast_ok (h:RMr A G r wb s):∃ G',(E orc).cl 42 [P0 r] G = some (.agg ⟨accV s⟩,G') ∧ Ext G G':=by
 have hmn:=h.un _ h.ar
 have m1:r ≠ G.nx:=by omega
 exact ⟨_,f42 (exL_ok Q orc) _ G _ (by simp [s42,h.hr,m1]; rfl),((Ext.refl G).push _).put (Nat.le_refl _) _⟩
theorem RMr.slr (h:RMr A G r wb s):SlR (rowsI .u64) G (.slice (some ⟨wb,0,none⟩) s.W.length s.W.length) s.W :=
 ⟨⟨by rw [RowE.flat_length],.inr ⟨wb,0,s.W.length,_,rfl,Nat.le_refl _,h.un _ h.aw,h.hw,by simp,fun i _=>by rw [flat_ints]; simp⟩⟩,fun a n c he ob ho hop=>by cases he; rw [h.hw] at ho; cases ho; rfl⟩
end
theorem sepP (m:Nat) (s:MS):Sep fun A G=>PMx A G m s:=⟨PMx.un,PMx.kept,PMx.mono⟩
theorem sepR (r:Nat) (s:MS):Sep fun A G=>RMx A G r s:=⟨RMx.un,RMx.kept,RMx.mono⟩
def MS.ok (s:MS):Prop:=(∀ w ∈ s.W,U w) ∧ s.W.length ≤ 4096
theorem MS.ok.word {s:MS} (h:s.ok) (i:Nat):U ((s.W[i]?).getD 0):=by
 cases hq:s.W[i]? with
 | none=>exact ⟨by decide,by decide⟩
 | some w=>exact h.1 w (List.mem_of_getElem? hq)
theorem MS.ok.acc {s:MS} (h:s.ok) {u:Int → Int × Bool} (hu:∀ w,U w → U (u w).1) (k a:Int):(s.acc k a u).ok ∧ U (s.acc k a u).new:=by
 unfold MS.acc
 split
 ·refine ⟨⟨fun w hw=>?_,by simpa using h.2⟩,hu _ (h.word _)⟩
  rcases List.mem_or_eq_of_mem_set hw with hw | rfl
  ·exact h.1 w hw
  ·exact hu _ (h.word _)
 ·exact ⟨h,(show (0:Int) ≤ 0 by decide),(show (0:Int) < 18446744073709551616 by decide)⟩
theorem MS.ok.load {s:MS} (h:s.ok) (a:Int):(s.load a).ok ∧ U (s.load a).new:=h.acc (fun w hw=>hw) 1 a
theorem MS.ok.store {s:MS} (h:s.ok) (a:Int) {v:Int} (hv:U v):(s.store a v).ok:=(h.acc (fun w hw=>hv) 2 a).1
theorem MS.ok.cas {s:MS} (h:s.ok) (a x:Int) {y:Int} (hy:U y):(s.cas a x y).ok:=(h.acc (fun w hw=>by unfold uCas; split <;> assumption) 3 a).1
theorem U_zero':U 0:=⟨by decide,by decide⟩
theorem same13_lp (A B:List (Int)) (v0 v1:Value):∀ (k i:Nat) (s:Bool) (τ:Env) (G:GS),i + k = A.length → τ 0 = v0 → τ 1 = v1 → τ 5 = .bool s → τ 6 = .int .i64 i →
  SlR (rowsI .u64) G v0 A → SlR (rowsI .u64) G v1 B → A.length < 2 ^ 47 → (s = true → A.length = B.length) →
  Wp ((exL Q orc).lpx 13 0 τ G) fun r=>r.1 = .exit 0 ∧ Ext G r.2.2 ∧ r.2.1 5 = .bool (s && decide (A.drop i = B.drop i)):=by
 intro k
 induction k with
 | zero =>
  intro i s τ G hi h0 h1 h5 h6 hA hB hlt hs
  have hi':i = A.length:=by omega
  obtain ⟨a,c,rfl⟩:=hA.len
  refine Wp.lp (l13_0 (exL_ok Q orc)) ?_
  cases s with
  | false=>simp [b13_0,clip_t,h0,h1,h5,h6,Ext.refl]
  | true =>
   have hd:A.drop i = B.drop i:=by
    rw [hi',List.drop_length,List.drop_of_length_le (by rw [hs rfl]; omega)]
   simp [b13_0,clip_t,h0,h1,h5,h6,hd]
   simp [hi',Ext.refl,clip_t]
 | succ k ih =>
  intro i s τ G hi h0 h1 h5 h6 hA hB hlt hs
  refine Wp.lp (l13_0 (exL_ok Q orc)) ?_
  cases s with
  | false=>simp [b13_0,clip_t,h0,h1,h5,h6,Ext.refl]
  | true =>
   have hl:=hs rfl
   have hiA:i < A.length:=by omega
   have hiB:i < B.length:=by omega
   have he:Ext G (G.room 10):=(Ext.refl G).room 10
   obtain ⟨b,o,c,e0,_,q0,_⟩:=(hA.ext he).at hiA
   obtain ⟨b',o',c',e1,_,q1,_⟩:=(hB.ext he).at hiB
   have hc:=q0 0 (by decide)
   have hc':=q1 0 (by decide)
   simp [rowsI] at hc hc'
   have hw:IntKind.wrap .i64 ((i:Int) + 1) = ((i + 1:Nat):Int):=wrap64 (by omega) (by omega)
   have hi0:(0:Int) ≤ i:=by omega
   have hdr:decide (A.drop i = B.drop i) = (decide (A[i] = B[i]) && decide (A.drop (i + 1) = B.drop (i + 1))):=by
    rw [Bool.eq_iff_iff,List.drop_eq_getElem_cons hiA,List.drop_eq_getElem_cons hiB]
    simp only [decide_eq_true_eq,Bool.and_eq_true,List.cons.injEq]
   rw [hdr]
   simp [-Int.natCast_add,b13_0,clip_t,h0,h1,h5,h6,e0,e1,hc,hc',hw,hiA,hiB,hi0]
   refine (ih (i + 1) (decide (A[i] = B[i])) _ (G.room 10) (by omega) (by simp [clip_t,e0]) (by simp [clip_t,e1]) (by simp [clip_t]) (by simp [clip_t]) (hA.ext he) (hB.ext he) hlt (fun _=>hl)).mono ?_
   rintro r ⟨h1,h2,h3⟩
   exact ⟨h1,he.trans h2,h3⟩
theorem same13 {A B:List (Int)} {v0 v1:Value} {G:GS} (hA:SlR (rowsI .u64) G v0 A) (hB:SlR (rowsI .u64) G v1 B) (hlt:A.length < 2 ^ 47) :
  ∃ G',(E orc).cl 13 [v0,v1] G = some (.bool (decide (A = B)),G') ∧ Ext G G':=by
 obtain ⟨a,c,ha⟩:=hA.len
 obtain ⟨b,d,hb⟩:=hB.len
 have l0:∀ t,ln Q true t v0 = some (.int .i64 A.length):=fun t=>by rw [ha]; simp
 have l1:∀ t,ln Q true t v1 = some (.int .i64 B.length):=fun t=>by rw [hb]; simp
 have hd:(decide ((A.length:Int) = (B.length:Int)) && decide (A.drop 0 = B.drop 0)) = decide (A = B):=by
  by_cases h:A = B
  ·simp [h]
  ·simp [h]
 have w:Wp (s13 true (exL Q orc) v0 v1 G) fun r=>r.1 = .bool (decide (A = B)) ∧ Ext G r.2:=by
  simp [s13,l0,l1]
  refine Wp.bE ((same13_lp orc A B v0 v1 A.length 0 (decide ((A.length:Int) = (B.length:Int))) _ G (by omega) rfl rfl (by simp) rfl hA hB hlt (fun h=>by simp at h; omega)).mono ?_)
  rintro ⟨e,τ,G'⟩ ⟨rfl,x,y⟩
  rw [hd] at y
  simp only at x y
  simp [y,x]
 obtain ⟨⟨v,G'⟩,e1,rfl,e3⟩:=w
 exact ⟨G',f13 (exL_ok Q orc) _ _ G _ e1,e3⟩
section
variable {own own':Nat → Nat} {G G' G0:GS} {m r b c:Nat} {s s' s1:MS} {ts:List Nat}
theorem copyw_ok {A:List Int} {v0:Value} (hA:SlR (rowsI .u64) G v0 A) (hlt:A.length < 2 ^ 36):∃ v' G',(E orc).cl 8 [v0] G = some (v',G') ∧ Ext G G' ∧ OwR (rowsI .u64) G.nx G' v' A:=by
 obtain ⟨v',G',h1,h2,h3⟩:=OwR.app (A:=G) (ib:=8) (OwR.made (rowsI .u64) G) (by decide) ((Ext.refl G).push _) (hA.ext ((Ext.refl G).push _)) (by simp; omega)
 refine ⟨v',G',f8 (exL_ok Q orc) _ G _ ?_,h2,by simpa using h3⟩
 simp only [rowsI_sz] at h1
 simp [s8,rep,fillS,fillC,h1]
theorem rwords_ok {A:Nat → Prop} (h:RMx A G r s):∃ v G',(E orc).cl 45 [P0 r] G = some (v,G') ∧ Ext G G' ∧ OwR (rowsI .u64) G.nx G' v s.W:=by
 obtain ⟨wb,h⟩:=h
 obtain ⟨v,G',e,x,w⟩:=copyw_ok orc h.slr (by have:=h.hl; omega)
 refine ⟨v,G',f45 (exL_ok Q orc) _ G _ ?_,x,w⟩
 simp [s45,h.hr,e]
theorem accEq (a0 a1 a2 a3 b0 b1 b2 b3:Int) (a4 b4:Bool):prun Q (Op.equalIn 10000 82 (.agg ⟨[.int .i64 a0,.int .i64 a1,.int .u64 a2,.int .u64 a3,.bool a4]⟩) (.agg ⟨[.int .i64 b0,.int .i64 b1,.int .u64 b2,.int .u64 b3,.bool b4]⟩)) = some (a0 == b0 && (a1 == b1 && (a2 == b2 && (a3 == b3 && (a4 == b4 && true))))) :=
 eqS (d:=9999) (L:=[(3,0),(3,1),(23,2),(23,3),(4,4)]) (by kernel_rfl) (by kernel_rfl) (eqL_cons (a:=.int .i64 a0) (b:=.int .i64 b0) (by kernel_rfl) (by kernel_rfl) (by kernel_rfl) (eqL_cons (a:=.int .i64 a1) (b:=.int .i64 b1) (by kernel_rfl) (by kernel_rfl) (by kernel_rfl) (eqL_cons (a:=.int .u64 a2) (b:=.int .u64 b2) (by kernel_rfl) (by kernel_rfl) (by kernel_rfl) (eqL_cons (a:=.int .u64 a3) (b:=.int .u64 b3) (by kernel_rfl) (by kernel_rfl) (by kernel_rfl) (eqL_cons (a:=.bool a4) (b:=.bool b4) (by kernel_rfl) (by kernel_rfl) (by kernel_rfl) rfl)))))
theorem acc_neq (x y:Operand) (s:MS):gBinF Q .neq 82 x y (.agg ⟨accV s⟩) (.agg ⟨accV s⟩) = some (.bool false):=by
 rw [neq_aggF (op:=.neq) (by kernel_rfl) (by kernel_rfl) (by kernel_rfl) (accEq _ _ _ _ _ _ _ _ _ _)]
 simp
def putsN:List Int → Nat → MS → MS
 | [],_,s=>s
 | w :: l,i,s=>putsN l (i + 1) (s.store i w)
theorem putsN_ok:∀ (l:List Int) (i:Nat) {s:MS},(∀ w ∈ l,U w) → s.ok → (putsN l i s).ok
 | [],_,s,_,h=>h
 | w :: l,i,s,hw,h=>putsN_ok l (i + 1) (fun x hx=>hw x (by simp [hx])) (h.store _ (hw w (by simp)))
theorem zero_ok {n:Nat} (h:n ≤ 4096):(MS.zero n).ok:=⟨fun w hw=>by
 have:w = 0:=by simpa [MS.zero] using List.eq_of_mem_replicate hw
 rw [this]; exact U_zero',by simpa [MS.zero] using h⟩
theorem pick_ok (x n:Int) (hn:0 < n) (hn2:n < 2 ^ 40) (G:GS):(E orc).cl 16 [.int .i64 x,.int .i64 n] G = some (.int .i64 (x % n),G):=by
 refine f16 (exL_ok Q orc) _ _ G _ ?_
 have h1:=Int.emod_nonneg x (show n ≠ 0 by omega)
 have h2:=Int.emod_lt_of_pos x hn
 have ht:=@Int.tmod_eq_emod x n
 have hn0:¬ n ≤ 0:=by omega
 have hn1:¬ n = 0:=by omega
 have hw:IntKind.wrap .i64 (x % n) = x % n:=wrap64 (by omega) (by omega)
 by_cases hx:x.tmod n < 0
 ·have e:x.tmod n + n = x % n:=by split at ht <;> omega
  simp [s16,clip_t,hx,e,hw,hn0,hn1]
 ·have e:x.tmod n = x % n:=by split at ht <;> omega
  have hx':¬ x % n < 0:=by omega
  simp [s16,clip_t,e,hx',hn0,hn1]
end
structure Stp (t:Nat) (B:Nat → Prop) (own:Nat → Nat) (G:GS) (own':Nat → Nat) (G':GS):Prop where
 agr:Agr own own' G
 mod:ModP (fun x=>own x = t ∨ B x) G G'
abbrev no:Nat → Prop:=fun _=>False
section
variable {t m r b:Nat} {B B':Nat → Prop} {own own1 own2:Nat → Nat} {G G1 G2:GS} {s s':MS}
theorem Stp.nx (h:Stp t B own G own1 G1):G.nx ≤ G1.nx:=h.mod.nx
theorem Stp.refl (t:Nat) (B:Nat → Prop) (own:Nat → Nat) (G:GS):Stp t B own G own G:=⟨Agr.refl _ _,ModP.refl _ _⟩
theorem Stp.keep (h:Stp t B own G own1 G1) {g:Nat} (hg:g < G.nx) (ht:own g ≠ t) (hB:¬ B g):G1.obj g = G.obj g:=h.mod.obj g hg fun k=>k.elim ht hB
theorem Stp.same (h:Stp t B own G own1 G1) {g:Nat} (hg:g < G.nx):own1 g = own g:=h.agr g hg
theorem Stp.trans (h:Stp t B own G own1 G1) (k:Stp t B' own1 G1 own2 G2) (hs:∀ x,x < G.nx → B' x → B x):Stp t B own G own2 G2 :=
 ⟨h.agr.trans k.agr h.nx,⟨Nat.le_trans h.nx k.nx,fun g hg hn=>(k.mod.obj g (Nat.lt_of_lt_of_le hg h.nx) fun q=>hn (q.elim (fun q=>.inl ((h.agr g hg).symm.trans q)) fun q=>.inr (hs g hg q))).trans (h.mod.obj g hg hn),Nat.le_trans h.mod.nl k.mod.nl,fun l hl=>(k.mod.loop l (Nat.lt_of_lt_of_le hl h.mod.nl)).trans (h.mod.loop l hl)⟩⟩
theorem Stp.mono (h:Stp t B own G own1 G1) (hs:∀ x,x < G.nx → B x → B' x):Stp t B' own G own1 G1:=(Stp.refl t B' own G).trans h hs
theorem Stp.ext (x:Ext G G1):Stp t B own G (grown own G 13) G1:=⟨grown_agr,x.modP _⟩
theorem Stp.extA (x:Ext G G1) (a:Agr own own1 G):Stp t B own G own1 G1:=⟨a,x.modP _⟩
theorem Stp.put (h:Stp t B own G own1 G1) (hb:B b ∨ G.nx ≤ b) (o:GObj):Stp t B own G own1 (G1.put b o) :=
 ⟨h.agr,h.mod.put (hb.imp .inr id) o⟩
def PM (own:Nat → Nat) (G:GS) (m:Nat) (s:MS):Prop:=PMx (Tag own G 10) G m s
def RM (own:Nat → Nat) (G:GS) (r:Nat) (s:MS):Prop:=RMx (Tag own G 11) G r s
theorem PM.to (h:PM own G m s) (k:Stp t B own G own1 G1) (ht:t ≠ 10) (hB:∀ x,x < G.nx → B x → own x ≠ 10):PM own1 G1 m s :=
 (sepP m s).mono ((sepP m s).kept h k.nx fun g hg=>k.keep hg.1 (by rw [hg.2]; exact ht.symm) fun q=>hB g hg.1 q hg.2) (Tag.le k.agr k.nx) Tag.under
theorem RM.to (h:RM own G r s) (k:Stp t B own G own1 G1) (ht:t ≠ 11) (hB:∀ x,x < G.nx → B x → own x ≠ 11):RM own1 G1 r s :=
 (sepR r s).mono ((sepR r s).kept h k.nx fun g hg=>k.keep hg.1 (by rw [hg.2]; exact ht.symm) fun q=>hB g hg.1 q hg.2) (Tag.le k.agr k.nx) Tag.under
theorem PM.ext (h:PM own G m s) (x:Ext G G1):PM (grown own G 13) G1 m s:=h.to (t:=11) (B:=no) (Stp.ext x) (by decide) fun _ _ h=>h.elim
theorem RM.ext (h:RM own G r s) (x:Ext G G1):RM (grown own G 13) G1 r s:=h.to (t:=10) (B:=no) (Stp.ext x) (by decide) fun _ _ h=>h.elim
theorem PM.put (h:PM own G m s) (hb:b < G.nx → own b ≠ 10) (o:GObj):PM own (G.put b o) m s:=by
 by_cases hl:b < G.nx
 ·exact h.to (t:=11) (B:=fun x=>x = b) ((Stp.refl _ (fun x=>x = b) _ _).put (.inl rfl) o) (by decide) fun x _ (e:x = b)=>by rw [e]; exact hb hl
 ·exact h.to (t:=11) (B:=no) ((Stp.refl _ _ _ _).put (.inr (by omega)) o) (by decide) fun _ _ h=>h.elim
theorem RM.put (h:RM own G r s) (hb:b < G.nx → own b ≠ 11) (o:GObj):RM own (G.put b o) r s:=by
 by_cases hl:b < G.nx
 ·exact h.to (t:=10) (B:=fun x=>x = b) ((Stp.refl _ (fun x=>x = b) _ _).put (.inl rfl) o) (by decide) fun x _ (e:x = b)=>by rw [e]; exact hb hl
 ·exact h.to (t:=10) (B:=no) ((Stp.refl _ _ _ _).put (.inr (by omega)) o) (by decide) fun _ _ h=>h.elim
structure PW (B:Nat → Prop) (own:Nat → Nat) (G:GS) (own1:Nat → Nat) (G1:GS) (m:Nat) (s:MS):Prop where
 stp:Stp 10 B own G own1 G1
 pm:PM own1 G1 m s
structure RW (B:Nat → Prop) (own:Nat → Nat) (G:GS) (own1:Nat → Nat) (G1:GS) (r:Nat) (s:MS):Prop where
 stp:Stp 11 B own G own1 G1
 rm:RM own1 G1 r s
theorem PW.refl (h:PM own G m s):PW B own G own G m s:=⟨Stp.refl _ _ _ _,h⟩
theorem RW.refl (h:RM own G r s):RW B own G own G r s:=⟨Stp.refl _ _ _ _,h⟩
theorem PW.nx (w:PW B own G own1 G1 m s):G.nx ≤ G1.nx:=w.stp.nx
theorem RW.nx (w:RW B own G own1 G1 r s):G.nx ≤ G1.nx:=w.stp.nx
theorem PW.ext (w:PW B own G own1 G1 m s) (x:Ext G1 G2):PW B own G (grown own1 G1 13) G2 m s:=⟨w.stp.trans (B':=no) (Stp.ext x) fun _ _ h=>h.elim,w.pm.ext x⟩
theorem RW.ext (w:RW B own G own1 G1 r s) (x:Ext G1 G2):RW B own G (grown own1 G1 13) G2 r s:=⟨w.stp.trans (B':=no) (Stp.ext x) fun _ _ h=>h.elim,w.rm.ext x⟩
theorem PW.put (w:PW B own G own1 G1 m s) (hb:B b ∨ G.nx ≤ b) (h10:b < G1.nx → own1 b ≠ 10) (o:GObj):PW B own G own1 (G1.put b o) m s:=⟨w.stp.put hb o,w.pm.put h10 o⟩
theorem RW.put (w:RW B own G own1 G1 r s) (hb:B b ∨ G.nx ≤ b) (h10:b < G1.nx → own1 b ≠ 11) (o:GObj):RW B own G own1 (G1.put b o) r s:=⟨w.stp.put hb o,w.rm.put h10 o⟩
theorem PW.trans (w:PW B own G own1 G1 m s) (k:PW B' own1 G1 own2 G2 m s') (hs:∀ x,x < G.nx → B' x → B x):PW B own G own2 G2 m s':=⟨w.stp.trans k.stp hs,k.pm⟩
theorem RW.trans (w:RW B own G own1 G1 r s) (k:RW B' own1 G1 own2 G2 r s') (hs:∀ x,x < G.nx → B' x → B x):RW B own G own2 G2 r s':=⟨w.stp.trans k.stp hs,k.rm⟩
theorem PW.mono (w:PW B own G own1 G1 m s) (hs:∀ x,x < G.nx → B x → B' x):PW B' own G own1 G1 m s:=⟨w.stp.mono hs,w.pm⟩
theorem RW.mono (w:RW B own G own1 G1 r s) (hs:∀ x,x < G.nx → B x → B' x):RW B' own G own1 G1 r s:=⟨w.stp.mono hs,w.rm⟩
theorem PW.keep (w:PW B own G own1 G1 m s) {g:Nat} (hg:g < G.nx) (ht:own g ≠ 10) (hB:¬ B g):G1.obj g = G.obj g:=w.stp.keep hg ht hB
theorem RW.keep (w:RW B own G own1 G1 r s) {g:Nat} (hg:g < G.nx) (ht:own g ≠ 11) (hB:¬ B g):G1.obj g = G.obj g:=w.stp.keep hg ht hB
theorem pw_of (h:PM own G m s) {s1:MS} (q:ModP (Tag own G 10) G G1) (k:PMx (Grow (Tag own G 10) G G1) G1 m s1):PW no own G (grown own G 10) G1 m s1 :=
 ⟨⟨grown_agr,q.mono fun x hx=>.inl hx.2⟩,(sepP m s1).step q.nx k⟩
theorem rw_of (h:RM own G r s) {s1:MS} (q:ModP (Tag own G 11) G G1) (k:RMx (Grow (Tag own G 11) G G1) G1 r s1):RW no own G (grown own G 11) G1 r s1 :=
 ⟨⟨grown_agr,q.mono fun x hx=>.inl hx.2⟩,(sepR r s1).step q.nx k⟩
theorem PM.load (h:PM own G m s) (a:Int):∃ own1 G1,(E orc).cl 70 [P0 m,.int .i64 a] G = some (.int .u64 (s.load a).new,G1) ∧ PW no own G own1 G1 m (s.load a):=by
 obtain ⟨bb,rest,hm⟩:=h
 obtain ⟨⟨x,G1⟩,e,rfl,q2,q3⟩:=load_ok orc hm a
 exact ⟨_,G1,e,pw_of ⟨bb,rest,hm⟩ q2 q3⟩
theorem PM.store (h:PM own G m s) (a v:Int):∃ own1 G1,(E orc).cl 23 [P0 m,.int .i64 a,.int .u64 v] G = some (.tuple #[],G1) ∧ PW no own G own1 G1 m (s.store a v):=by
 obtain ⟨bb,rest,hm⟩:=h
 obtain ⟨⟨x,G1⟩,e,rfl,q2,q3⟩:=store_ok orc hm a v
 exact ⟨_,G1,e,pw_of ⟨bb,rest,hm⟩ q2 q3⟩
theorem PM.cas (h:PM own G m s) (a v w:Int):∃ own1 G1,(E orc).cl 276 [P0 m,.int .i64 a,.int .u64 v,.int .u64 w] G = some (.bool (s.cas a v w).held,G1) ∧ PW no own G own1 G1 m (s.cas a v w):=by
 obtain ⟨bb,rest,hm⟩:=h
 obtain ⟨⟨x,G1⟩,e,rfl,q2,q3⟩:=cas_ok orc hm a v w
 exact ⟨_,G1,e,pw_of ⟨bb,rest,hm⟩ q2 q3⟩
theorem RM.load (h:RM own G r s) (a:Int):∃ own1 G1,(E orc).cl 90 [P0 r,.int .i64 a] G = some (.int .u64 (s.load a).new,G1) ∧ RW no own G own1 G1 r (s.load a):=by
 obtain ⟨wb,hm⟩:=h
 obtain ⟨⟨x,G1⟩,e,rfl,q2,q3⟩:=rload_ok orc hm a
 exact ⟨_,G1,e,rw_of ⟨wb,hm⟩ q2 q3⟩
theorem RM.store (h:RM own G r s) (a v:Int):∃ own1 G1,(E orc).cl 35 [P0 r,.int .i64 a,.int .u64 v] G = some (.tuple #[],G1) ∧ RW no own G own1 G1 r (s.store a v):=by
 obtain ⟨wb,hm⟩:=h
 obtain ⟨⟨x,G1⟩,e,rfl,q2,q3⟩:=rstore_ok orc hm a v
 exact ⟨_,G1,e,rw_of ⟨wb,hm⟩ q2 q3⟩
theorem RM.cas (h:RM own G r s) (a v w:Int):∃ own1 G1,(E orc).cl 202 [P0 r,.int .i64 a,.int .u64 v,.int .u64 w] G = some (.bool (s.cas a v w).held,G1) ∧ RW no own G own1 G1 r (s.cas a v w):=by
 obtain ⟨wb,hm⟩:=h
 obtain ⟨⟨x,G1⟩,e,rfl,q2,q3⟩:=rcas_ok orc hm a v w
 exact ⟨_,G1,e,rw_of ⟨wb,hm⟩ q2 q3⟩
end
section
variable {A:Nat → Prop} {m r bb wb:Nat} {rest:List Int} {own:Nat → Nat} {G:GS} {s:MS}
end
end Go.Proofs.YtedmgpchggogpaaGreat.Lift
