import Derived.Test.YtphandknhnkhfaaGreatRSe
import Derived.Test.YtphandknhnkhfaaGreatGhPT
import Derived.Test.YtphandknhnkhfaaGreatGhPR
import Derived.Test.YtphandknhnkhfaaGreatGhPC
import Derived.Test.YtphandknhnkhfaaGreatGhPD
import Derived.Test.YtphandknhnkhfaaGreatGhLS
import Derived.Test.YtphandknhnkhfaaGreatGhEQ
namespace Go.Proofs.YtphandknhnkhfaaGreat.Lift
open Go Go.Proofs.YtphandknhnkhfaaGreat.Gh Go.Proofs
abbrev P0 (b:Nat):Value:=.pointer (some ⟨b,0,none⟩)
theorem Ext.drawn {A G B:GS} (h:Ext A G) {n:Nat} (hn:A.nx≤n) (hB:A.nx≤B.nx) (o:aR):Ext A (((G.aI n).push o).back B) :=
 ⟨by simpa using hB,fun g hg=>by
  have:=h.obj g hg
  simp only [Xk,jR,Xn,Xj]
  rw [if_neg (by omega)]; exact this,by simpa using h.nl,fun l hl=>by simpa using h.loop l hl⟩
theorem BJ (k:Nat) (v:Value):(Value.iface k v).cells= #[.iface k v]:=rfl
set_option linter.unusedVariables false
set_option linter.unusedSimpArgs false
set_option maxRecDepth 20000
def U (x:Int):Prop:=0≤x∧x<18446744073709551616
theorem wrap_u32 (x:Int):IntKind.wrap .u32 x=x % 4294967296:=by
 simp only [IntKind.wrap,IntKind.bits,IntKind.signed,Bool.false_and]
 simp
theorem wrap_u64 (x:Int):IntKind.wrap .u64 x=x % 18446744073709551616:=by
 simp only [IntKind.wrap,IntKind.bits,IntKind.signed,Bool.false_and]
 simp
theorem Qg {w:Int} (h:U w):DE .u64 w 16=w / 65536:=by
 show w.fdiv (2 ^ (min (16:Int).toNat 64))=_
 rw [show (min (16:Int).toNat 64)=16 from rfl,Int.fdiv_eq_ediv_of_nonneg _ (by decide)]; rfl
theorem ofInt_u64 {x:Int} (h:U x):(BitVec.ofInt 64 x).toNat=x.toNat:=by
 obtain ⟨n,rfl⟩:=Int.eq_ofNat_of_zero_le h.1
 have:=h.2
 have e:(BitVec.ofInt 64 (n:Int)).toNat=n % 2 ^ 64:=by simp [BitVec.toNat_ofInt]
 rw [e]; simp; omega
theorem IV {a b:Int} (ha:U a) (hb:U b):wS .u64 a b=((a.toNat &&& b.toNat:Nat):Int):=by
 show IntKind.wrap .u64 (((BitVec.ofInt 64 a &&& BitVec.ofInt 64 b).toNat:Nat):Int)=_
 have h1:a.toNat &&& b.toNat≤a.toNat:=Nat.and_le_left
 have:=ha.1; have:=ha.2
 rw [BitVec.toNat_and,ofInt_u64 ha,ofInt_u64 hb,wrap_u64]
 omega
theorem Ee {a b:Int} (ha:U a) (hb:U b):pw .u64 a b=((a.toNat ||| b.toNat:Nat):Int):=by
 show IntKind.wrap .u64 (((BitVec.ofInt 64 a ||| BitVec.ofInt 64 b).toNat:Nat):Int)=_
 have h1:a.toNat ||| b.toNat<2 ^ 64:=Nat.or_lt_two_pow (by have:=ha.2; have:=ha.1; omega) (by have:=hb.2; have:=hb.1; omega)
 rw [BitVec.toNat_or,ofInt_u64 ha,ofInt_u64 hb,wrap_u64]
 omega
theorem Qh {w:Int} (h:U w):wS .u64 w 65535=w % 65536:=by
 rw [IV h ⟨by decide,by decide⟩]
 have:w.toNat &&& (65535:Int).toNat=w.toNat % 65536:=Nat.and_two_pow_sub_one_eq_mod w.toNat 16
 rw [this]
 have:=h.1
 omega
theorem Zs {a b:Int} (i:Nat) (q:Nat) (ha:U a) (hb:U b) (h1:a.toNat=2 ^ i*q) (h2:b.toNat<2 ^ i):pw .u64 a b=a+b:=by
 rw [Ee ha hb,h1,← Nat.two_pow_add_eq_or_of_lt h2 q,← h1]
 have:=ha.1; have:=hb.1
 omega
theorem Zt {w:Int} (h:U w):wS .u64 w 281474976710655=w % 281474976710656:=by
 rw [IV h ⟨by decide,by decide⟩]
 have:w.toNat &&& (281474976710655:Int).toNat=w.toNat % 281474976710656:=Nat.and_two_pow_sub_one_eq_mod w.toNat 48
 rw [this]
 have:=h.1
 omega
theorem IW {w:Int} (h:U w):wS .u64 w 4294967295=w % 4294967296:=by
 rw [IV h ⟨by decide,by decide⟩]
 have:w.toNat &&& (4294967295:Int).toNat=w.toNat % 4294967296:=Nat.and_two_pow_sub_one_eq_mod w.toNat 32
 rw [this]
 have:=h.1
 omega
theorem Zu {w:Int} (h:U w):DE .u64 w 0=w:=by
 show w.fdiv (2 ^ (min (0:Int).toNat 64))=_
 rw [show (min (0:Int).toNat 64)=0 from rfl,Int.fdiv_eq_ediv_of_nonneg _ (by decide)]; simp
theorem Qi (ae:FuncId→Bool) {w:Int} (h:U w) (G:GS):∃ G',(E ae).cl 188 [.int .u64 w,.agg ⟨[.int .i64 0,.int .i64 16]⟩] G=some (.int .i64 (w % 65536),G')∧Ext G G':=by
 refine ⟨(G.push ⟨[.int .i64 0,.int .i64 16],1,false,1⟩).room 11,f188 (ai Q ae) _ _ G _ ?_,((Ext.refl G).push _).room 11⟩
 have e1:ng .u64 1 16=65536:=by decide
 have e2:IntKind.wrap .u64 65535=65535:=by decide
 have e3:IntKind.wrap .i64 (w % 65536)=w % 65536:=wrap64 (by omega) (by omega)
 simp [s188,Zu h,e1,e2,Qh h,e3]
theorem Qj {w:Int} (h:U w) (k:Int) (hk:0<k):U (w / k):=by
 have h1:=h.1; have h2:=h.2
 refine ⟨Int.ediv_nonneg h1 (by omega),?_⟩
 have:=Int.ediv_le_self k h1
 omega
theorem Zv (ae:FuncId→Bool) {w:Int} (h:U w) (G:GS):∃ G',(E ae).cl 188 [.int .u64 w,.agg ⟨[.int .i64 16,.int .i64 48]⟩] G=some (.int .i64 (w / 65536),G')∧Ext G G':=by
 refine ⟨(G.push ⟨[.int .i64 16,.int .i64 48],1,false,1⟩).room 11,f188 (ai Q ae) _ _ G _ ?_,((Ext.refl G).push _).room 11⟩
 have e1:ng .u64 1 48=281474976710656:=by decide
 have e2:IntKind.wrap .u64 281474976710655=281474976710655:=by decide
 have h1:=h.1; have h2:=h.2
 have e4:w / 65536 % 281474976710656=w / 65536:=by omega
 have e3:IntKind.wrap .i64 (w / 65536)=w / 65536:=wrap64 (by omega) (by omega)
 simp [s188,Qg h,e1,e2,Zt (Qj h 65536 (by decide)),e4,e3]
theorem Qk (ae:FuncId→Bool) (ht:ae 187=false) (G:GS):∃ G',(E ae).cl 187 [] G=some (.agg ⟨[.int .i64 0,.int .i64 16,.int .i64 16,.int .i64 48]⟩,G')∧Ext G G':=by
 refine ⟨(G.push ⟨[.int .i64 0,.int .i64 0,.int .i64 0,.int .i64 0],1,false,1⟩).put G.nx ⟨[.int .i64 0,.int .i64 16,.int .i64 16,.int .i64 48],1,false,1⟩,f187 (ai Q ae) ht G _ ?_,((Ext.refl G).push _).put (Nat.le_refl _) _⟩
 simp [s187,bQ,bO]
theorem Ql (ae:FuncId→Bool) (ht:ae 211=false) (G:GS):∃ G',(E ae).cl 211 [] G=some (.agg ⟨[.int .i64 0,.int .i64 16,.int .i64 16,.int .i64 32]⟩,G')∧Ext G G':=by
 refine ⟨(G.push ⟨[.int .i64 0,.int .i64 0,.int .i64 0,.int .i64 0],1,false,1⟩).put G.nx ⟨[.int .i64 0,.int .i64 16,.int .i64 16,.int .i64 32],1,false,1⟩,f211 (ai Q ae) ht G _ ?_,((Ext.refl G).push _).put (Nat.le_refl _) _⟩
 simp [s211,bQ,bO]
theorem BK (ae:FuncId→Bool) (ht:ae 187=false) {w:Int} (h:U w) (G:GS):∃ G',(E ae).cl 166 [.int .u64 w] G=some (.tuple #[.agg ⟨[.int .i64 (w % 65536 - 1),.int .i64 (w / 65536)]⟩,.int .i64 0],G')∧Ext G G':=by
 obtain ⟨G1,aj⟩:∃ G1,G1=G.push ⟨[.int .i64 0,.int .i64 0],1,false,1⟩:=⟨_,rfl⟩
 have x1:Ext G G1:=by rw [aj]; exact (Ext.refl G).push _
 have n1:G1.nx=G.nx+1:=by rw [aj]; rfl
 have o1:G1.obj G.nx=some ⟨[.int .i64 0,.int .i64 0],1,false,1⟩:=by rw [aj]; simp
 obtain ⟨G2,e2,x2⟩:=Qk ae ht G1
 have o2:=(x2.obj G.nx (by omega)).trans o1
 obtain ⟨G3,cF⟩:∃ G3,G3=((G2.push ⟨[.int .i64 0,.int .i64 0,.int .i64 0,.int .i64 0],1,false,1⟩).put G2.nx ⟨[.int .i64 0,.int .i64 16,.int .i64 16,.int .i64 48],1,false,1⟩).room 12:=⟨_,rfl⟩
 have n2:=x2.nx
 have x3:Ext G2 G3:=by rw [cF]; exact (((Ext.refl G2).push _).put (Nat.le_refl _) _).room 12
 have o3:=(x3.obj G.nx (by omega)).trans o2
 have p3:G3.obj G2.nx=some ⟨[.int .i64 0,.int .i64 16,.int .i64 16,.int .i64 48],1,false,1⟩:=by rw [cF]; simp
 have n3:G2.nx<G3.nx:=by rw [cF]; simp; omega
 obtain ⟨G4,e4,x4⟩:=Qi ae h G3
 have o4:=(x4.obj G.nx (by omega)).trans o3
 have p4:=(x4.obj G2.nx n3).trans p3
 obtain ⟨G5,e5,x5⟩:=Zv ae h G4
 have o5:=(x5.obj G.nx (by have:=x4.nx; omega)).trans o4
 have hm:IntKind.wrap .i64 (w % 65536 - 1)=w % 65536 - 1:=wrap64 (by omega) (by omega)
 have w:Wp (s166 true (bA Q ae) (.int .u64 w) G) fun r=>r.1= .tuple #[.agg ⟨[.int .i64 (w % 65536 - 1),.int .i64 (w / 65536)]⟩,.int .i64 0]∧Ext G r.2:=by
  simp [s166,← aj,e2,bQ,bO,← cF,p3,e4,p4,e5,o5,hm]
  exact ((((x1.trans x2).trans x3).trans x4).trans x5).put (Nat.le_refl _) _
 obtain ⟨⟨v,G'⟩,e1,rfl,e3⟩:=w
 exact ⟨G',f166 (ai Q ae) _ G _ e1,e3⟩
theorem Qm (ae:FuncId→Bool) {b ez:Nat} {n1 l1 h1 n2 l2 h2:Int} {G:GS} (ho:G.obj b=some ⟨[.int .i64 n1,.int .i64 l1,.int .i64 h1,.int .i64 n2,.int .i64 l2,.int .i64 h2],ez,false,1⟩) (hb:b<G.nx) (q1:l1≤n1∧n1≤h1) (q2:l2≤n2∧n2≤h2) :
  ∃ G',(E ae).cl 190 [.slice (some ⟨b,0,none⟩) 2 2] G=some (.bool true,G')∧Ext G G':=by
 have vu:∀ τ G,τ 5= .slice (some ⟨b,0,none⟩) 2 2→τ 6= .int .i64 2→τ 7= .int .i64 2→Wp ((bA Q ae).du 190 0 τ G) fun q=>q.1= .exit 0∧q.2.2=G:=by
  intro τ G t5 t6 t7
  refine Wp.lp (IF (ai Q ae)) ?_
  simp [D1,ao,t5,t6,t7]
 have a1:¬ n1<l1:=by omega
 have a2:¬ h1<n1:=by omega
 have a3:¬ n2<l2:=by omega
 have a4:¬ h2<n2:=by omega
 have w1:IntKind.wrap .i64 1=1:=by decide
 have w2:IntKind.wrap .i64 2=2:=by decide
 have tU:∀ τ G,G.obj b=some ⟨[.int .i64 n1,.int .i64 l1,.int .i64 h1,.int .i64 n2,.int .i64 l2,.int .i64 h2],ez,false,1⟩→b<G.nx→τ 5= .slice (some ⟨b,0,none⟩) 2 2→τ 6= .int .i64 2→τ 7= .int .i64 1→Wp ((bA Q ae).du 190 0 τ G) fun q=>q.1= .exit 0∧Ext G q.2.2:=by
  intro τ G ho hb t5 t6 t7
  refine Wp.lp (IF (ai Q ae)) ?_
  have az:¬ b=G.nx:=by omega
  simp [D1,ao,t5,t6,t7,ho,a3,a4,bQ,bO]
  refine Wp.mono (vu _ _ (by simp [ao]) (by simp [ao]) (by simp [ao,w2])) ?_
  rintro q ⟨h1,h2⟩
  refine ⟨h1,?_⟩
  rw [h2]
  exact ((Ext.refl G).push _).put (Nat.le_refl _) _
 have w:Wp (s190 true (bA Q ae) (.slice (some ⟨b,0,none⟩) 2 2) G) fun r=>r.1= .bool true∧Ext G r.2:=by
  simp [s190]
  refine Wp.bE ((Wp.lp (IF (ai Q ae)) (Q:=fun q=>q.1= .exit 0∧Ext G q.2.2) ?_).mono ?_)
  ·have az:¬ b=G.nx:=by omega
   simp [D1,ao,ho,a1,a2,bQ,bO]
   refine Wp.mono (tU _ _ (by simp [az,ho]) (by simp; omega) (by simp [ao]) (by simp [ao]) (by simp [ao,w1])) ?_
   rintro q ⟨h1,h2⟩
   exact ⟨h1,(((Ext.refl G).push _).put (Nat.le_refl _) _).trans h2⟩
  ·rintro ⟨e,τ,G'⟩ ⟨rfl,h2⟩
   simp
   exact h2
 obtain ⟨⟨v,G'⟩,e1,rfl,e3⟩:=w
 exact ⟨G',f190 (ai Q ae) _ G _ e1,e3⟩
theorem Qn (ae:FuncId→Bool) (w f m n:Int) (G:GS) (hf:0≤f∧f<64):(E ae).cl 208 [.int .u64 w,.agg ⟨[.int .i64 f,.int .i64 m]⟩,.int .i64 n] G=some (.int .u64 (pw .u64 w (ng .u64 (IntKind.wrap .u64 n) f)),G.push ⟨[.int .i64 f,.int .i64 m],1,false,1⟩):=by
 have h0:¬ f<0:=by omega
 refine f208 (ai Q ae) _ _ _ G _ ?_
 simp [s208,h0]
theorem Qo (ae:FuncId→Bool) {b c bz cz:Nat} {m1 m2 n1 n2:Int} {G:GS} (ho:G.obj b=some ⟨[.int .i64 0,.int .i64 m1,.int .i64 16,.int .i64 m2],bz,false,1⟩) (hc:G.obj c=some ⟨[.int .i64 n1,.int .i64 n2],cz,false,1⟩) (hb:b<G.nx) (IX:c<G.nx) :
  ∃ G',(E ae).cl 191 [.slice (some ⟨b,0,none⟩) 2 2,.slice (some ⟨c,0,none⟩) 2 2] G=some (.int .u64 (pw .u64 (pw .u64 0 (ng .u64 (IntKind.wrap .u64 n1) 0)) (ng .u64 (IntKind.wrap .u64 n2) 16)),G')∧Ext G G':=by
 have w1:IntKind.wrap .i64 1=1:=by decide
 have w2:IntKind.wrap .i64 2=2:=by decide
 have r0:=fun G=>Qn ae 0 0 m1 n1 G (by decide)
 have r1:=fun G=>Qn ae (pw .u64 0 (ng .u64 (IntKind.wrap .u64 n1) 0)) 16 m2 n2 G (by decide)
 generalize hu:pw .u64 0 (ng .u64 (IntKind.wrap .u64 n1) 0)=u at *
 generalize hv:pw .u64 u (ng .u64 (IntKind.wrap .u64 n2) 16)=v at *
 have vu:∀ τ G,τ 1= .slice (some ⟨c,0,none⟩) 2 2→τ 8= .slice (some ⟨b,0,none⟩) 2 2→τ 9= .int .i64 2→τ 10= .int .i64 2→τ 5= .int .u64 v→Wp ((bA Q ae).du 191 0 τ G) fun q=>q.1= .exit 0∧q.2.1 5= .int .u64 v∧q.2.2=G:=by
  intro τ G t1 t8 t9 t10 t5
  refine Wp.lp (Ir (ai Q ae)) ?_
  simp [DZ,ao,t1,t8,t9,t10,t5]
 have tU:∀ τ G,G.obj b=some ⟨[.int .i64 0,.int .i64 m1,.int .i64 16,.int .i64 m2],bz,false,1⟩→G.obj c=some ⟨[.int .i64 n1,.int .i64 n2],cz,false,1⟩→b<G.nx→c<G.nx→τ 1= .slice (some ⟨c,0,none⟩) 2 2→τ 8= .slice (some ⟨b,0,none⟩) 2 2→τ 9= .int .i64 2→τ 10= .int .i64 1→τ 5= .int .u64 u→Wp ((bA Q ae).du 191 0 τ G) fun q=>q.1= .exit 0∧q.2.1 5= .int .u64 v∧Ext G q.2.2:=by
  intro τ G ho hc hb IX t1 t8 t9 t10 t5
  have az:¬ c=G.nx:=by omega
  refine Wp.lp (Ir (ai Q ae)) ?_
  simp [DZ,ao,t1,t8,t9,t10,t5,ho,hc,az,bQ,bO,r1]
  refine Wp.mono (vu _ _ (by simp [ao]) (by simp [ao]) (by simp [ao]) (by simp [ao,w2]) (by simp [ao])) ?_
  rintro q ⟨h1,h2,h3⟩
  refine ⟨h1,h2,?_⟩
  rw [h3]
  exact ((((Ext.refl G).push _).put (Nat.le_refl _) _).room _).push _
 have w:Wp (s191 true (bA Q ae) (.slice (some ⟨b,0,none⟩) 2 2) (.slice (some ⟨c,0,none⟩) 2 2) G) fun r=>r.1= .int .u64 v∧Ext G r.2:=by
  simp [s191]
  have az:¬ c=G.nx:=by omega
  have wc:¬ b=G.nx:=by omega
  have apL:¬ c=G.nx+1:=by omega
  have apM:¬ b=G.nx+1:=by omega
  refine Wp.bE ((Wp.lp (Ir (ai Q ae)) (Q:=fun q=>q.1= .exit 0∧q.2.1 5= .int .u64 v∧Ext G q.2.2) ?_).mono ?_)
  ·simp [DZ,ao,ho,hc,az,bQ,bO,r0]
   have x:Ext G ((((G.push ⟨z330,1,false,1⟩).put G.nx ⟨[.int .i64 0,.int .i64 m1],1,false,1⟩).room 8).push ⟨[.int .i64 0,.int .i64 m1],1,false,1⟩):=((((Ext.refl G).push _).put (Nat.le_refl _) _).room _).push _
   refine Wp.mono (tU _ _ ((x.obj b hb).trans ho) ((x.obj c IX).trans hc) (Nat.lt_of_lt_of_le hb x.nx) (Nat.lt_of_lt_of_le IX x.nx) (by simp [ao]) (by simp [ao]) (by simp [ao]) (by simp [ao,w1]) (by simp [ao])) ?_
   rintro q ⟨h1,h2,h3⟩
   exact ⟨h1,h2,x.trans h3⟩
  ·rintro ⟨e,τ,G'⟩ ⟨rfl,h2,h3⟩
   simp only at h2 h3
   simp [h2]
   exact h3
 obtain ⟨⟨v,G'⟩,e1,rfl,e3⟩:=w
 exact ⟨G',f191 (ai Q ae) _ _ G _ e1,e3⟩
def aU (i tag:Int):Int:=i+1+tag*65536
theorem Qp {i t:Int} (h0:-1≤i∧i≤65534) (h1:0≤t∧t<281474976710656):pw .u64 (pw .u64 0 (ng .u64 (IntKind.wrap .u64 (i+1)) 0)) (ng .u64 (IntKind.wrap .u64 t) 16)=aU i t:=by
 have a:IntKind.wrap .u64 (i+1)=i+1:=by rw [wrap_u64]; omega
 have b:IntKind.wrap .u64 t=t:=by rw [wrap_u64]; omega
 have c:ng .u64 (i+1) 0=i+1:=by
  show IntKind.wrap .u64 ((i+1)*2 ^ (min (0:Int).toNat 64))=_
  rw [show (min (0:Int).toNat 64)=0 from rfl,wrap_u64]; omega
 have d:ng .u64 t 16=t*65536:=by
  show IntKind.wrap .u64 (t*2 ^ (min (16:Int).toNat 64))=_
  rw [show (min (16:Int).toNat 64)=16 from rfl,wrap_u64,show (2:Int) ^ 16=65536 from rfl]; omega
 have e:pw .u64 0 (i+1)=i+1:=by
  rw [Ee ⟨by decide,by decide⟩ ⟨by omega,by omega⟩]
  simp; omega
 rw [a,b,c,d,e]
 have mY:U (i+1):=⟨by omega,by omega⟩
 have mU:U (t*65536):=⟨by omega,by omega⟩
 have k:=Zs 16 t.toNat mU mY (by omega) (by omega)
 rw [Ee mY mU,Nat.or_comm,← Ee mU mY,k]
 unfold aU; omega
theorem Qq (ae:FuncId→Bool) (ht:ae 187=false) {i t:Int} (h0:-1≤i∧i≤65534) (h1:0≤t∧t<281474976710656) (G:GS):∃ G',(E ae).cl 172 [.agg ⟨[.int .i64 i,.int .i64 t]⟩] G=some (.tuple #[.int .u64 (aU i t),.int .i64 0],G')∧Ext G G':=by
 have x1:Ext G ((G.push ⟨[.int .i64 i,.int .i64 t],1,false,1⟩).push ⟨[.int .i64 i,.int .i64 (-1),.int .i64 65534,.int .i64 t,.int .i64 0,.int .i64 281474976710655],3,false,1⟩):=((Ext.refl G).push _).push _
 have o1:((G.push ⟨[.int .i64 i,.int .i64 t],1,false,1⟩).push ⟨[.int .i64 i,.int .i64 (-1),.int .i64 65534,.int .i64 t,.int .i64 0,.int .i64 281474976710655],3,false,1⟩).obj G.nx=some ⟨[.int .i64 i,.int .i64 t],1,false,1⟩:=by simp
 have p1:((G.push ⟨[.int .i64 i,.int .i64 t],1,false,1⟩).push ⟨[.int .i64 i,.int .i64 (-1),.int .i64 65534,.int .i64 t,.int .i64 0,.int .i64 281474976710655],3,false,1⟩).obj (G.nx+1)=some ⟨[.int .i64 i,.int .i64 (-1),.int .i64 65534,.int .i64 t,.int .i64 0,.int .i64 281474976710655],3,false,1⟩:=by simp
 have n1:((G.push ⟨[.int .i64 i,.int .i64 t],1,false,1⟩).push ⟨[.int .i64 i,.int .i64 (-1),.int .i64 65534,.int .i64 t,.int .i64 0,.int .i64 281474976710655],3,false,1⟩).nx=G.nx+2:=rfl
 have w:Wp (s172 true (bA Q ae) (.agg ⟨[.int .i64 i,.int .i64 t]⟩) G) fun r=>r.1= .tuple #[.int .u64 (aU i t),.int .i64 0]∧Ext G r.2:=by
  simp [s172]
  generalize aj:(GS.push (GS.push G _) _)=G1 at *
  obtain ⟨G2,e2,x2⟩:=Qm ae p1 (by omega) ⟨h0.1,h0.2⟩ ⟨h1.1,by omega⟩
  have n2:=x2.nx
  have o2:=(x2.obj G.nx (by omega)).trans o1
  obtain ⟨G3,e3,x3⟩:=Qk ae ht G2
  have n3:=x3.nx
  have o3:=(x3.obj G.nx (by omega)).trans o2
  have az:¬ G.nx=G3.nx:=by omega
  have hi:IntKind.wrap .i64 (i+1)=i+1:=wrap64 (by omega) (by omega)
  simp [e2,e3,az,o3,bQ,bO,yF,bound,hi]
  generalize dE:GS.back _ _=G5
  have x5:Ext G3 G5:=by rw [← dE]; exact Ext.drawn ((((Ext.refl G3).push _).put (Nat.le_refl _) _).room 10) (by omega) (by simp; omega) _
  have p5:G5.obj G3.nx=some ⟨[.int .i64 0,.int .i64 16,.int .i64 16,.int .i64 48],1,false,1⟩:=by rw [← dE]; simp; omega
  have c5:G5.obj (G3.nx+1+6)=some ⟨[.int .i64 (i+1),.int .i64 t],1,false,1⟩:=by rw [← dE]; simp
  have n5:G5.nx=G3.nx+1+10:=by rw [← dE]; simp
  obtain ⟨G6,e6,x6⟩:=Qo ae p5 c5 (by omega) (by omega)
  rw [Qp h0 h1] at e6
  simp [e6]
  exact (((x1.trans x2).trans x3).trans x5).trans x6
 obtain ⟨⟨v,G'⟩,e1,rfl,e3⟩:=w
 exact ⟨G',f172 (ai Q ae) _ G _ e1,e3⟩
theorem Zw {w:Int} (h0:0≤w) (h1:w<9223372036854775808):HK .u64 w 9223372036854775808=w:=by
 obtain ⟨n,rfl⟩:=Int.eq_ofNat_of_zero_le h0
 show IntKind.wrap .u64 (((BitVec.ofInt 64 (n:Int) &&& ~~~ BitVec.ofInt 64 9223372036854775808).toNat:Nat):Int)=_
 have e1:BitVec.ofInt 64 (n:Int)=BitVec.ofNat 64 n:=BitVec.ofInt_natCast ..
 have e2:BitVec.ofInt 64 9223372036854775808=BitVec.ofNat 64 9223372036854775808:=by decide
 have e3:BitVec.ofNat 64 n &&& ~~~ BitVec.ofNat 64 9223372036854775808=BitVec.ofNat 64 n:=by
  have:(BitVec.ofNat 64 n).msb=false:=by
   rw [BitVec.msb_eq_false_iff_two_mul_lt]; simp; omega
  have e4: ~~~ BitVec.ofNat 64 9223372036854775808=BitVec.ofNat 64 (2 ^ 63 - 1):=by decide
  rw [e4]
  apply BitVec.eq_of_toNat_eq
  simp only [BitVec.toNat_and,BitVec.toNat_ofNat]
  rw [Nat.mod_eq_of_lt (show n<2 ^ 64 by omega),Nat.mod_eq_of_lt (show 2 ^ 63 - 1<2 ^ 64 by decide),Nat.and_two_pow_sub_one_eq_mod,Nat.mod_eq_of_lt (by omega)]
 rw [e1,e2,e3,wrap_u64]
 simp; omega
theorem Zx (ae:FuncId→Bool) {w:Int} (h0:0≤w) (h1:w<9223372036854775808) (G:GS):(E ae).cl 212 [.int .u64 w,.bool false] G=some (.int .u64 w,G):=by
 refine f212 (ai Q ae) _ _ G _ ?_
 simp [s212,Zw h0 h1]
theorem Qr (ae:FuncId→Bool) (ht:ae 211=false) {i g:Int} (h0:0≤i∧i≤65534) (h1:0≤g∧g<4294967296) (G:GS):∃ G',(E ae).cl 197 [.agg ⟨[.int .i64 i,.int .i64 g,.bool false]⟩] G=some (.tuple #[.int .u64 (aU i g),.int .i64 0],G')∧Ext G G':=by
 have x1:Ext G ((G.push ⟨[.int .i64 i,.int .i64 g,.bool false],1,false,1⟩).push ⟨[.int .i64 i,.int .i64 (-1),.int .i64 65534,.int .i64 g,.int .i64 0,.int .i64 4294967295],3,false,1⟩):=((Ext.refl G).push _).push _
 have o1:((G.push ⟨[.int .i64 i,.int .i64 g,.bool false],1,false,1⟩).push ⟨[.int .i64 i,.int .i64 (-1),.int .i64 65534,.int .i64 g,.int .i64 0,.int .i64 4294967295],3,false,1⟩).obj G.nx=some ⟨[.int .i64 i,.int .i64 g,.bool false],1,false,1⟩:=by simp
 have p1:((G.push ⟨[.int .i64 i,.int .i64 g,.bool false],1,false,1⟩).push ⟨[.int .i64 i,.int .i64 (-1),.int .i64 65534,.int .i64 g,.int .i64 0,.int .i64 4294967295],3,false,1⟩).obj (G.nx+1)=some ⟨[.int .i64 i,.int .i64 (-1),.int .i64 65534,.int .i64 g,.int .i64 0,.int .i64 4294967295],3,false,1⟩:=by simp
 have n1:((G.push ⟨[.int .i64 i,.int .i64 g,.bool false],1,false,1⟩).push ⟨[.int .i64 i,.int .i64 (-1),.int .i64 65534,.int .i64 g,.int .i64 0,.int .i64 4294967295],3,false,1⟩).nx=G.nx+2:=rfl
 have Qs:¬ i= -1:=by omega
 have hw:aU i g=i+1+g*65536:=rfl
 have w:Wp (s197 true (bA Q ae) (.agg ⟨[.int .i64 i,.int .i64 g,.bool false]⟩) G) fun r=>r.1= .tuple #[.int .u64 (aU i g),.int .i64 0]∧Ext G r.2:=by
  simp [s197]
  generalize aj:(GS.push (GS.push G _) _)=G1 at *
  obtain ⟨G2,e2,x2⟩:=Qm ae p1 (by omega) ⟨by omega,h0.2⟩ ⟨h1.1,by omega⟩
  have n2:=x2.nx
  have o2:=(x2.obj G.nx (by omega)).trans o1
  obtain ⟨G3,e3,x3⟩:=Ql ae ht G2
  have n3:=x3.nx
  have o3:=(x3.obj G.nx (by omega)).trans o2
  have az:¬ G.nx=G3.nx:=by omega
  have hi:IntKind.wrap .i64 (i+1)=i+1:=wrap64 (by omega) (by omega)
  simp [e2,o2,Qs,e3,az,o3,bQ,bO,yF,bound,hi]
  generalize dE:GS.back _ _=G5
  have x5:Ext G3 G5:=by rw [← dE]; exact Ext.drawn ((((Ext.refl G3).push _).put (Nat.le_refl _) _).room 13) (by omega) (by simp; omega) _
  have p5:G5.obj G3.nx=some ⟨[.int .i64 0,.int .i64 16,.int .i64 16,.int .i64 32],1,false,1⟩:=by rw [← dE]; simp; omega
  have c5:G5.obj (G3.nx+1+6)=some ⟨[.int .i64 (i+1),.int .i64 g],1,false,1⟩:=by rw [← dE]; simp
  have n5:G5.nx=G3.nx+1+13:=by rw [← dE]; simp
  have o5:=(x5.obj G.nx (by omega)).trans o3
  obtain ⟨G6,e6,x6⟩:=Qo ae p5 c5 (by omega) (by omega)
  rw [Qp (by omega) (by omega)] at e6
  have o6:=(x6.obj G.nx (by omega)).trans o5
  have e7:=Zx ae (w:=aU i g) (by omega) (by omega) G6
  have Zy:¬ G.nx=G3.nx+1+6:=by omega
  simp [e6,o5,o6,e7,Zy,o3,az]
  exact (((x1.trans x2).trans x3).trans x5).trans x6
 obtain ⟨⟨v,G'⟩,e1,rfl,e3⟩:=w
 exact ⟨G',f197 (ai Q ae) _ G _ e1,e3⟩
def aH (size w:Int):Int:=if size≤w % 65536 - 1 then -1 else w % 65536 - 1
def jt (j w:Int):Int:=aU j ((w / 65536+1) % 281474976710656)
theorem BL {size w:Int}:-1≤aH size w:=by unfold aH; split<;>omega
theorem BM {size w:Int} (h:0≤size):aH size w<size:=by unfold aH; split<;>omega
theorem Ef (ae:FuncId→Bool) (ht:ae 187=false) {i:Int} (h0:-1≤i∧i≤65534) (G:GS):∃ G',(E ae).cl 141 [.int .i64 i] G=some (.int .u64 (i+1),G')∧Ext G G':=by
 obtain ⟨G',e,x⟩:=Qq ae ht (t:=0) h0 (by decide) G
 refine ⟨G',f141 (ai Q ae) _ G _ ?_,x⟩
 simp [s141,e,aU]
theorem Qt (ae:FuncId→Bool) (ht:ae 187=false) {a b size w:Int} (h:U w) (G:GS):∃ G',(E ae).cl 165 [.agg ⟨[.int .i64 a,.int .i64 b,.int .i64 size]⟩,.int .u64 w] G=some (.int .i64 (aH size w),G')∧Ext G G':=by
 have x1:Ext G (G.push ⟨[.int .i64 a,.int .i64 b,.int .i64 size],1,false,1⟩):=(Ext.refl G).push _
 have o1:(G.push ⟨[.int .i64 a,.int .i64 b,.int .i64 size],1,false,1⟩).obj G.nx=some ⟨[.int .i64 a,.int .i64 b,.int .i64 size],1,false,1⟩:=by simp
 have n1:(G.push ⟨[.int .i64 a,.int .i64 b,.int .i64 size],1,false,1⟩).nx=G.nx+1:=rfl
 have w:Wp (s165 true (bA Q ae) (.agg ⟨[.int .i64 a,.int .i64 b,.int .i64 size]⟩) (.int .u64 w) G) fun r=>r.1= .int .i64 (aH size w)∧Ext G r.2:=by
  simp [s165]
  generalize aj:GS.push G _=G1 at *
  obtain ⟨G2,e2,x2⟩:=BK ae ht h G1
  have n2:=x2.nx
  have o2:=(x2.obj G.nx (by omega)).trans o1
  have az:¬ G.nx=G2.nx:=by omega
  have y:Ext G (((G2.push ⟨z281,1,false,1⟩).put G2.nx ⟨[.int .i64 (w % 65536 - 1),.int .i64 (w / 65536)],1,false,1⟩)):=((x1.trans x2).push _).put (by omega) _
  unfold aH
  by_cases hc:size≤w % 65536 - 1
  ·simp [e2,o2,az,hc,bQ,bO]
   exact y
  ·simp [e2,o2,az,hc,bQ,bO]
   exact y
 obtain ⟨⟨v,G'⟩,e1,rfl,e3⟩:=w
 exact ⟨G',f165 (ai Q ae) _ _ G _ e1,e3⟩
theorem Zz (ae:FuncId→Bool) {w:Int} (h:U w) (G:GS):(E ae).cl 198 [.int .u64 w] G=some (.int .i64 (w % 4294967296),G):=by
 refine f198 (ai Q ae) _ G _ ?_
 have e:IntKind.wrap .i64 (w % 4294967296)=w % 4294967296:=wrap64 (by omega) (by omega)
 simp [s198,IW h,e]
theorem Qu {j w:Int} (hj:-1≤j∧j≤65534):U (jt j w):=by unfold jt aU U; omega
structure MS where
 W:List Int
 kind:Int
 at_:Int
 old:Int
 new:Int
 held:Bool
 many:Int
def MS.acc (s:MS) (kind at_:Int) (fC:Int→Int×Bool):MS :=
 if 0≤at_∧at_<s.W.length then
  ⟨s.W.set at_.toNat (fC ((s.W[at_.toNat]?).getD 0)).1,kind,at_,(s.W[at_.toNat]?).getD 0,(fC ((s.W[at_.toNat]?).getD 0)).1,(fC ((s.W[at_.toNat]?).getD 0)).2,IntKind.wrap .i64 (s.many+1)⟩
 else ⟨s.W,kind,at_,0,0,false,IntKind.wrap .i64 (s.many+1)⟩
def vx (w:Int):Int×Bool:=(w,false)
def zd (v w:Int):Int×Bool:=(v,true)
def qG (a b w:Int):Int×Bool:=if w=a then (b,true) else (w,false)
def ze (n w:Int):Int×Bool:=(IntKind.wrap .u64 (w+n),true)
def MS.load (s:MS) (a:Int):MS:=s.acc 1 a vx
def MS.store (s:MS) (a v:Int):MS:=s.acc 2 a (zd v)
def MS.bT (s:MS) (a x y:Int):MS:=s.acc 3 a (qG x y)
def MS.add (s:MS) (a n:Int):MS:=s.acc 4 a (ze n)
def MS.zero (n:Nat):MS:=⟨List.replicate n 0,0,0,0,0,false,0⟩
structure ja (A:Nat→Prop) (G:GS) (m bb:Nat) (rest:List Int) (s:MS):Prop where
 un:mH A G
 am:A m
 ab:A bb
 hm:G.obj m=some ⟨[P0 bb,.int .i64 s.W.length,.int .i64 s.kind,.int .i64 s.at_,.int .u64 s.old,.int .u64 s.new,.bool s.held,.int .i64 s.many],1,false,1⟩
 hb:G.obj bb=some ⟨(s.W++rest).map (Value.int .u64),1,false,1⟩
 hl:s.W.length+rest.length=4096
def fY (A:Nat→Prop) (G:GS) (m:Nat) (s:MS):Prop:=∃ bb rest,ja A G m bb rest s
section
variable {A B:Nat→Prop} {G G':GS} {m bb:Nat} {rest:List Int} {s:MS}
theorem ja.kept (h:ja A G m bb rest s) (hn:G.nx≤G'.nx) (hk:∀ g,A g→G'.obj g=G.obj g):ja A G' m bb rest s :=
 ⟨h.un.le hn,h.am,h.ab,(hk _ h.am).trans h.hm,(hk _ h.ab).trans h.hb,h.hl⟩
theorem ja.ext (h:ja A G m bb rest s) (x:Ext G G'):ja A G' m bb rest s:=h.kept x.nx fun g hg=>x.obj g (h.un g hg)
theorem ja.mono (h:ja A G m bb rest s) (hs:∀ x,A x→B x) (hu:mH B G):ja B G m bb rest s:=⟨hu,hs _ h.am,hs _ h.ab,h.hm,h.hb,h.hl⟩
theorem fY.un (h:fY A G m s):mH A G:=let ⟨_,_,h⟩:=h; h.un
theorem fY.kept (h:fY A G m s) (hn:G.nx≤G'.nx) (hk:∀ g,A g→G'.obj g=G.obj g):fY A G' m s:=let ⟨_,_,h⟩:=h; ⟨_,_,h.kept hn hk⟩
theorem fY.mono (h:fY A G m s) (hs:∀ x,A x→B x) (hu:mH B G):fY B G m s:=let ⟨_,_,h⟩:=h; ⟨_,_,h.mono hs hu⟩
theorem bG.pre {G1:GS} (x:Ext G G1) (h:bG A G1 G'):bG A G G' :=
 ⟨Nat.le_trans x.nx h.nx,fun g hg ha=>(h.obj g (Nat.lt_of_lt_of_le hg x.nx) ha).trans (x.obj g hg),Nat.le_trans x.nl h.nl,fun l hl=>(h.loop l (Nat.lt_of_lt_of_le hl x.nl)).trans (x.loop l hl)⟩
theorem ZA {G1:GS} (x:Ext G G1):∀ g,Grow A G1 G' g→Grow A G G' g:=fun g hg=>hg.elim .inl fun h=>.inr ⟨Nat.le_trans x.nx h.1,h.2⟩
theorem fY.pre {G1:GS} (hu:mH A G) (x:Ext G G1) (q2:bG A G1 G') (q3:fY (Grow A G1 G') G' m s):bG A G G' ∧fY (Grow A G G') G' m s :=
 have q:=bG.pre x q2
 ⟨q,q3.mono (ZA x) (hu.grow q.nx)⟩
theorem ja.ne (h:ja A G m bb rest s):m≠bb:=fun e=>by
 have h1:=h.hm
 rw [e,h.hb] at h1
 simp only [Option.some.injEq,aR.mk.injEq,and_true] at h1
 cases hq:s.W++rest with
 | nil=>rw [hq] at h1; simp at h1
 | cons a b=>rw [hq] at h1; simp at h1
def fZ (bb:Nat) (s:MS) (a:Int):Value:=if 0≤a∧a<s.W.length then .pointer (some ⟨bb,a.toNat,none⟩) else .pointer none
theorem Eg (ae:FuncId→Bool) (h:ja A G m bb rest s) (a:Int):(E ae).cl 41 [P0 m,.int .i64 a] G=some (fZ bb s a,G):=by
 refine f41 (ai Q ae) _ _ G _ ?_
 have hl:=h.hl
 unfold fZ
 by_cases h1:a<0
 ·have eN:¬ (0≤a∧a<(s.W.length:Int)):=by omega
  simp [s41,BG,h.hm,h1,eN]
 ·by_cases h2:(s.W.length:Int)≤a
  ·have eN:¬ (0≤a∧a<(s.W.length:Int)):=by omega
   simp [s41,BG,h.hm,h1,h2,eN]
  ·have eN:(0≤a∧a<(s.W.length:Int)):=by omega
   have h3:a<4096:=by omega
   simp [s41,BG,h.hm,h1,h2,eN,h3]
theorem Qv (ae:FuncId→Bool) (o:Option Addr) (G:GS):(E ae).cl 81 [.pointer o] G=some (.bool o.isSome,G):=by
 refine f81 (ai Q ae) _ G _ ?_
 cases o<;>simp [s81]
theorem ZB (h:ja A G m bb rest s) {a:Nat} (ha:a<s.W.length):G.cell bb a=some (.int .u64 ((s.W[a]?).getD 0)):=by
 have:((s.W++rest).map (Value.int .u64))[a]? =some (.int .u64 ((s.W[a]?).getD 0)):=by rw [List.getElem?_map,List.getElem?_append_left ha,List.getElem?_eq_getElem ha]; rfl
 simp only [BG,h.hb,this]; rfl
abbrev ZC (s:MS):List Value:=[.int .i64 s.kind,.int .i64 s.at_,.int .u64 s.old,.int .u64 s.new,.bool s.held]
theorem Eh (ae:FuncId→Bool) (h:ja A G m bb rest s) (kind a:Int) (f:FuncId) (dv:List Value) (fC:Int→Int×Bool)
  (hf:∀ G1 w,bb<G1.nx→0≤a→a<s.W.length→G1.cell bb a.toNat=some (.int .u64 w)→∃ G2,(E ae).cl f dv G1=some (.tuple #[.int .u64 (fC w).1,.bool (fC w).2],G2)∧Ext G1 G2) :
  Wp ((E ae).cl 42 [P0 m,.int .i64 kind,.int .i64 a,fZ bb s a,.func (.func f) ⟨dv⟩ #[]] G) fun r=>r.1= .agg ⟨ZC (s.acc kind a fC)⟩∧bG A G r.2∧fY (Grow A G r.2) r.2 m (s.acc kind a fC):=by
 refine Wp.ref (f42 (ai Q ae) _ _ _ _ _ G) ?_
 have hm:=h.hm
 have ZD:=h.un _ h.am
 have iu:=h.un _ h.ab
 have az:=h.ne
 have wc:=az.symm
 have m1:m≠G.nx:=by omega
 have m2:G.nx≠m:=by omega
 have b1:bb≠G.nx:=by omega
 have b2:G.nx≠bb:=by omega
 have hw:IntKind.wrap .i64 (s.many+1)=IntKind.wrap .i64 (s.many+1):=rfl
 by_cases fG:0≤a∧a<s.W.length
 ·have zf:fZ bb s a= .pointer (some ⟨bb,a.toNat,none⟩):=by unfold fZ; rw [if_pos fG]
  have ye:=Qv ae (some ⟨bb,a.toNat,none⟩)
  obtain ⟨n,hn⟩:∃ n:Nat,a.toNat=n:=⟨_,rfl⟩
  have oe:n<s.W.length:=by omega
  have mI:=ZB h oe
  generalize hx:(s.W[n]?).getD 0=w at mI
  have IY:s.acc kind a fC=⟨s.W.set n (fC w).1,kind,a,w,(fC w).1,(fC w).2,IntKind.wrap .i64 (s.many+1)⟩:=by unfold MS.acc; rw [if_pos fG,hn,hx]
  rw [zf,IY]
  rw [hn] at ye hf
  obtain ⟨GA,vy⟩:∃ GA,GA=((G.push ⟨[.int .i64 0,.int .i64 0,.int .u64 0,.int .u64 0,.bool false],1,false,1⟩).put m ⟨[P0 bb,.int .i64 s.W.length,.int .i64 s.kind,.int .i64 s.at_,.int .u64 s.old,.int .u64 s.new,.bool s.held,.int .i64 (IntKind.wrap .i64 (s.many+1))],1,false,1⟩).put m ⟨[P0 bb,.int .i64 s.W.length,.int .i64 kind,.int .i64 a,.int .u64 0,.int .u64 0,.bool false,.int .i64 (IntKind.wrap .i64 (s.many+1))],1,false,1⟩:=⟨_,rfl⟩
  have oA:∀ g,g≠m→g≠G.nx→GA.obj g=G.obj g:=fun g h1 h2=>by rw [vy]; simp [h1,h2]
  have ZE:GA.obj m=some ⟨[P0 bb,.int .i64 s.W.length,.int .i64 kind,.int .i64 a,.int .u64 0,.int .u64 0,.bool false,.int .i64 (IntKind.wrap .i64 (s.many+1))],1,false,1⟩:=by rw [vy]; simp
  have ZF:GA.obj G.nx=some ⟨[.int .i64 0,.int .i64 0,.int .u64 0,.int .u64 0,.bool false],1,false,1⟩:=by rw [vy]; simp [m2]
  have nA:GA.nx=G.nx+1:=by rw [vy]; rfl
  have mA:bG A G GA:=by rw [vy]; exact (((bG.refl A G).push _).put (.inl h.am) _).put (.inl h.am) _
  have cA:GA.cell bb n=some (.int .u64 w):=by rw [← mI]; unfold GS.cell; rw [oA bb wc b1]
  obtain ⟨GB,eB,xB⟩:=hf GA w (by omega) fG.1 fG.2 cA
  have cB:GB.obj bb=some ⟨(s.W++rest).map (Value.int .u64),1,false,1⟩:=by rw [xB.obj bb (by omega),oA bb wc b1]; exact h.hb
  have ZG:=(xB.obj m (by omega)).trans ZE
  have ZH:=(xB.obj G.nx (by omega)).trans ZF
  have IZ:((s.W++rest).map (Value.int .u64))[n]? =some (.int .u64 w):=by
   rw [List.getElem?_map,List.getElem?_append_left oe,List.getElem?_eq_getElem oe,← hx,List.getElem?_eq_getElem oe]; rfl
  have hlen:n<((s.W++rest).map (Value.int .u64)).length:=by simp; omega
  have vh:((s.W++rest).map (Value.int .u64)).set n (.int .u64 (fC w).1)=(s.W.set n (fC w).1++rest).map (Value.int .u64):=by
   rw [← List.map_set,List.set_append_left _ _ oe]
  generalize CQ:(s.W++rest).map (Value.int .u64)=cells at *
  have ZI:∀ h:n<cells.length,cells[n]= .int .u64 w:=fun h=>by rw [List.getElem?_eq_getElem h] at IZ; exact Option.some.inj IZ
  simp [s42,ao,hm,m1,m2,b1,b2,hn,← vy,ye,eB,ZG,cB,az,wc,IZ,ZI,hlen,IQ,np,ZH,xB]
  refine ⟨?_,bb,rest,?_⟩
  ·exact (((((mA.trans (xB.rW _)).put (.inl h.am) _).put (.inl h.am) _).put (.inl h.am) _).put (.inl h.ab) _).put (.inr (Nat.le_refl _)) _
  ·have nB:=xB.nx
   refine ⟨fun x hx=>?_,.inl h.am,.inl h.ab,?_,?_,?_⟩
   ·rcases hx with hx | hx
    ·have:=h.un x hx; simp; omega
    ·simpa using hx.2
   ·simp [m1,az]
   ·simp [b1,← vh]
   ·simpa using h.hl
 ·have zf:fZ bb s a= .pointer none:=by unfold fZ; rw [if_neg fG]
  have ye:=Qv ae none
  have IY:s.acc kind a fC=⟨s.W,kind,a,0,0,false,IntKind.wrap .i64 (s.many+1)⟩:=by unfold MS.acc; rw [if_neg fG]
  rw [zf,IY]
  simp [s42,ao,hm,m1,m2,ye]
  refine ⟨?_,bb,rest,?_⟩
  ·exact ((((bG.refl A G).push _).put (.inl h.am) _).put (.inl h.am) _).put (.inr (Nat.le_refl _)) _
  ·refine ⟨fun x hx=>?_,.inl h.am,.inl h.ab,?_,?_,h.hl⟩
   ·rcases hx with hx | hx
    ·have:=h.un x hx; simp; omega
    ·simpa using hx.2
   ·simp [m1]
   ·simp [b1,wc,h.hb]
theorem Ei (bb:Nat) (s:MS) (a:Int):one (fZ bb s a)=true:=by unfold fZ; split<;>rfl
theorem Ej {bb:Nat} {s:MS} {a:Int} (h1:0≤a) (h2:a<s.W.length):fZ bb s a= .pointer (some ⟨bb,a.toNat,none⟩):=by unfold fZ; rw [if_pos ⟨h1,h2⟩]
theorem ZJ (ae:FuncId→Bool) (h:ja A G m bb rest s) (a:Int):Wp ((E ae).cl 49 [P0 m,.int .i64 a] G) fun r=>r.1= .int .u64 (s.load a).new∧bG A G r.2∧fY (Grow A G r.2) r.2 m (s.load a):=by
 refine Wp.ref (f49 (ai Q ae) _ _ G) ?_
 have hc:=Eg ae h a
 obtain ⟨G1,aj⟩:∃ G1,G1=((G.push ⟨[.pointer none,.int .u64 0,.int .u64 0],1,false,1⟩).put G.nx ⟨[fZ bb s a,.int .u64 0,.int .u64 0],1,false,1⟩):=⟨_,rfl⟩
 have x1:Ext G G1:=by rw [aj]; exact ((Ext.refl G).push _).put (Nat.le_refl _) _
 have o1:G1.obj G.nx=some ⟨[fZ bb s a,.int .u64 0,.int .u64 0],1,false,1⟩:=by rw [aj]; simp
 obtain ⟨⟨v,G'⟩,e,q1,q2,q3⟩:=Eh ae (h.ext x1) 1 a 90 [.agg ⟨[fZ bb s a,.int .u64 0,.int .u64 0]⟩] vx fun G1 w hb h1 h2 h3=>by
  have iu:¬ bb=G1.nx:=by omega
  rw [Ej h1 h2]
  exact ⟨_,f90 (ai Q ae) _ G1 _ (by simp [-iv,s90,DF,iu,h3,vx]; rfl),(Ext.refl G1).push _⟩
 simp only at q1 q2 q3
 have lA:=Ei bb s a
 generalize fZ bb s a=cv at *
 have iH:=yJ lA
 simp [s49,hc,iH,lA,← aj,o1,e,q1]
 exact ⟨rfl,fY.pre h.un x1 q2 q3⟩
theorem ZK (ae:FuncId→Bool) (h:ja A G m bb rest s) (a v:Int):Wp ((E ae).cl 12 [P0 m,.int .i64 a,.int .u64 v] G) fun r=>r.1= .tuple #[]∧bG A G r.2∧fY (Grow A G r.2) r.2 m (s.store a v):=by
 refine Wp.ref (f12 (ai Q ae) _ _ _ G) ?_
 have hc:=Eg ae h a
 obtain ⟨G1,aj⟩:∃ G1,G1=((G.push ⟨[.pointer none,.int .u64 0,.int .u64 0],1,false,1⟩).put G.nx ⟨[fZ bb s a,.int .u64 v,.int .u64 0],1,false,1⟩):=⟨_,rfl⟩
 have x1:Ext G G1:=by rw [aj]; exact ((Ext.refl G).push _).put (Nat.le_refl _) _
 have o1:G1.obj G.nx=some ⟨[fZ bb s a,.int .u64 v,.int .u64 0],1,false,1⟩:=by rw [aj]; simp
 obtain ⟨⟨v',G'⟩,e,q1,q2,q3⟩:=Eh ae (h.ext x1) 2 a 43 [.agg ⟨[fZ bb s a,.int .u64 v,.int .u64 0]⟩] (zd v) fun G1 w hb h1 h2 h3=>by
  rw [Ej h1 h2]
  exact ⟨_,f43 (ai Q ae) _ G1 _ (by simp [s43,zd]; rfl),(Ext.refl G1).push _⟩
 simp only at q1 q2 q3
 have lA:=Ei bb s a
 generalize fZ bb s a=cv at *
 have iH:=yJ lA
 simp [s12,hc,iH,lA,← aj,o1,e,q1]
 exact fY.pre h.un x1 q2 q3
theorem ZL (ae:FuncId→Bool) (h:ja A G m bb rest s) (a v w:Int):Wp ((E ae).cl 224 [P0 m,.int .i64 a,.int .u64 v,.int .u64 w] G) fun r=>r.1= .bool (s.bT a v w).held∧bG A G r.2∧fY (Grow A G r.2) r.2 m (s.bT a v w):=by
 refine Wp.ref (f224 (ai Q ae) _ _ _ _ G) ?_
 have hc:=Eg ae h a
 obtain ⟨G1,aj⟩:∃ G1,G1=((G.push ⟨[.pointer none,.int .u64 0,.int .u64 0],1,false,1⟩).put G.nx ⟨[fZ bb s a,.int .u64 v,.int .u64 w],1,false,1⟩):=⟨_,rfl⟩
 have x1:Ext G G1:=by rw [aj]; exact ((Ext.refl G).push _).put (Nat.le_refl _) _
 have o1:G1.obj G.nx=some ⟨[fZ bb s a,.int .u64 v,.int .u64 w],1,false,1⟩:=by rw [aj]; simp
 obtain ⟨⟨v',G'⟩,e,q1,q2,q3⟩:=Eh ae (h.ext x1) 3 a 231 [.agg ⟨[fZ bb s a,.int .u64 v,.int .u64 w]⟩] (qG v w) fun G1 x hb h1 h2 h3=>by
  rw [Ej h1 h2]
  have iu:¬ bb=G1.nx:=by omega
  refine ⟨(G1.push ⟨[.pointer (some ⟨bb,a.toNat,none⟩),.int .u64 v,.int .u64 w],1,false,1⟩).room 7,f231 (ai Q ae) _ G1 _ ?_,((Ext.refl G1).push _).room 7⟩
  by_cases hx:x=v
  ·simp [-iv,s231,DF,iu,h3,qG,hx]
  ·simp [-iv,s231,DF,iu,h3,qG,hx]
 simp only at q1 q2 q3
 have lA:=Ei bb s a
 generalize fZ bb s a=cv at *
 have iH:=yJ lA
 simp [s224,hc,iH,lA,← aj,o1,e,q1]
 exact ⟨rfl,fY.pre h.un x1 q2 q3⟩
theorem ju (ae:FuncId→Bool) (n:Int) (G:GS):(n<1∨4096<n→(E ae).cl 8 [.int .i64 n] G=some (.tuple #[.pointer none,.int .i64 3],G)) ∧
  (1≤n→n≤4096→∃ m G',(E ae).cl 8 [.int .i64 n] G=some (.tuple #[P0 m,.int .i64 0],G')∧Ext G G' ∧fY (fun x=>G.nx≤x∧x<G'.nx) G' m (MS.zero n.toNat)):=by
 constructor
 ·intro h
  refine f8 (ai Q ae) _ G _ ?_
  by_cases h1:n<1
  ·simp [s8,h1]
  ·have h2:4096<n:=by omega
   simp [s8,h1,h2]
 ·intro h1 h2
  have eN:¬ n<1:=by omega
  have iS:¬ 4096<n:=by omega
  refine ⟨G.nx+1,_,f8 (ai Q ae) _ G _ (by simp [s8,eN,iS]; rfl),((Ext.refl G).push _).push _,G.nx,List.replicate (4096 - n.toNat) 0,?_⟩
  refine ⟨fun x hx=>hx.2,⟨by omega,by simp⟩,⟨by omega,by simp; omega⟩,?_,?_,?_⟩
  ·have:((n.toNat:Nat):Int)=n:=by omega
   simp [MS.zero,this]
  ·have:List.replicate n.toNat (0:Int)++List.replicate (4096 - n.toNat) 0=List.replicate 4096 0:=by
    rw [List.replicate_append_replicate]; congr 1; omega
   simp only [MS.zero,this,List.map_replicate]
   simp
  ·simp [MS.zero]; omega
end
@[simp] theorem ZM (k:IntKind):(bK k).sz=1:=rfl
@[simp] theorem apN (k:IntKind) (x:Int):(bK k).row x=[.int k x]:=rfl
theorem I0 (k:IntKind) (L:List Int):(bK k).flat L=L.map (Value.int k):=by
 induction L with
 | nil=>rfl
 | cons a l ih=>rw [cT.pC,ih]; rfl
section
variable {A:Nat→Prop} {G:GS} {m bb:Nat} {rest:List Int} {s:MS}
theorem ZN (ae:FuncId→Bool) {B:GS} {W rest:List Int} {bb nb:Nat} (Aj:B.obj bb=some ⟨(W++rest).map (Value.int .u64),1,false,1⟩) (aJ:bb<B.nx) (BN:B.nx≤nb) (hW:W.length≤4096) (c:Nat):∀ (k i:Nat) (τ:Env) (G:GS),i+k=W.length→τ 3= .slice (some ⟨nb,0,none⟩) W.length W.length→τ 29= .slice (some ⟨bb,0,none⟩) W.length c→τ 30= .int .i64 W.length→τ 31= .int .i64 i →
  Ext B G→nb<G.nx→G.obj nb=some ⟨(W.take i++List.replicate k 0).map (Value.int .u64),1,false,1⟩ →
  Wp ((bA Q ae).du 13 0 τ G) fun r=>r.1= .exit 0∧Ext B r.2.2∧nb<r.2.2.nx∧r.2.1 3= .slice (some ⟨nb,0,none⟩) W.length W.length∧r.2.2.obj nb=some ⟨W.map (Value.int .u64),1,false,1⟩:=by
 intro k
 induction k with
 | zero =>
  intro i τ G hi t3 t29 t30 t31 hx hn ho
  have bw:i=W.length:=by omega
  subst bw
  refine Wp.lp (PL (ai Q ae)) ?_
  simp at ho
  simp [Ix,ao,t3,t29,t30,t31]
  exact ⟨hx,hn,ho⟩
 | succ k ih =>
  intro i τ G hi t3 t29 t30 t31 hx hn ho
  have Ek:i<W.length:=by omega
  have ki:(0:Int)≤i:=by omega
  have hw:IntKind.wrap .i64 ((i:Int)+1)=((i+1:Nat):Int):=wrap64 (by omega) (by omega)
  have ob:=(hx.obj bb aJ).trans Aj
  have I7:((W++rest).map (Value.int .u64))[i]? =some (.int .u64 W[i]):=by rw [List.getElem?_map,List.getElem?_append_left Ek,List.getElem?_eq_getElem Ek]; rfl
  have ZO:∀ h:i<((W++rest).map (Value.int .u64)).length,((W++rest).map (Value.int .u64))[i]= .int .u64 W[i]:=fun h=>by rw [List.getElem?_eq_getElem h] at I7; exact Option.some.inj I7
  have vh:((W.take i++List.replicate (k+1) 0).map (Value.int .u64)).set i (.int .u64 W[i])=(W.take (i+1)++List.replicate k 0).map (Value.int .u64):=by
   have hl:(W.take i).length=i:=by simp; omega
   rw [← List.map_set,List.set_append_right _ _ (by omega),hl,Nat.sub_self,List.replicate_succ,List.set_cons_zero,List.take_add_one,List.getElem?_eq_getElem Ek,Option.toList_some,List.append_assoc]; rfl
  have hlen:i<((W.take i++List.replicate (k+1) 0).map (Value.int .u64)).length:=by simp; omega
  generalize kJ:(W++rest).map (Value.int .u64)=c1 at *
  generalize uN:(W.take i++List.replicate (k+1) 0).map (Value.int .u64)=c2 at *
  refine Wp.lp (PL (ai Q ae)) ?_
  have iV:i<c1.length:=by rw [← kJ]; simp; omega
  simp [-Int.natCast_add,Ix,ao,t3,t29,t30,t31,Ek,ki,ob,I7,ZO,iV,ho,hlen,vh,hw]
  refine ih (i+1) _ _ (by omega) (by simp [ao]) (by simp [ao]) (by simp [ao]) (by simp [ao]) (hx.put BN _) hn ?_
  simp
theorem Qw (ae:FuncId→Bool) (h:ja A G m bb rest s):∃ v G',(E ae).cl 13 [P0 m] G=some (v,G')∧Ext G G' ∧cj (bK .u64) G.nx G' v s.W:=by
 have hl:=h.hl
 have ZD:=h.un _ h.am
 have iu:=h.un _ h.ab
 have m1:m≠G.nx:=by omega
 have b1:bb≠G.nx:=by omega
 have hm:=h.hm
 have iT:wR 1 8 z46 s.W.length s.W.length G=some (.slice (some ⟨G.nx,0,none⟩) s.W.length s.W.length,G.push ⟨(List.replicate s.W.length 0).map (Value.int .u64),1,false,1⟩):=by
  unfold wR
  rw [if_pos ⟨by omega,by omega,by decide,by omega,wrap64 (by omega) (by omega),wrap64 (by omega) (by omega)⟩]
  have:rep z46 ((s.W.length:Nat):Int).toNat=(List.replicate s.W.length 0).map (Value.int .u64):=by
   simp only [Int.toNat_natCast]
   generalize s.W.length=n
   induction n with
   | zero=>rfl
   | succ n ih=>show z46++rep z46 n=_; rw [ih]; rfl
  rw [this]; rfl
 have I8:((s.W.length:Nat):Int)≤4096:=by omega
 have w:Wp (s13 true (bA Q ae) (P0 m) G) fun r=>Ext G r.2∧cj (bK .u64) G.nx r.2 r.1 s.W:=by
  generalize ZP:(List.replicate s.W.length 0).map (Value.int .u64)=rz at *
  have Qx:s.W.length≤4096:=by omega
  simp [-List.map_replicate,s13,hm,iT,m1,yF,bound,I8,Qx]
  refine Wp.bE ((ZN ae (rest:=rest) h.hb iu (Nat.le_refl _) Qx 4096 s.W.length 0 _ _ (by omega) (by simp) (by simp) (by simp) (by simp) (((Ext.refl G).push _).room 12) (by simp; omega) (by simp [← ZP])).mono ?_)
  rintro ⟨e,τ,G'⟩ ⟨rfl,q1,q2,q3,q4⟩
  simp only at q1 q2 q3 q4
  simp [q3]
  exact ⟨q1,by rw [cT.qF],.inr ⟨G.nx,false,rfl,Nat.le_refl _,q2,by rw [q4,I0]; rfl⟩⟩
 obtain ⟨⟨v,G'⟩,e1,e2,e3⟩:=w
 exact ⟨v,G',f13 (ai Q ae) _ G _ e1,e2,e3⟩
end
section
variable {A B:Nat→Prop} {G G':GS} {r wb:Nat} {s:MS}
def MS.aI (s:MS) (a:Int):Int:=if 0≤a∧a<s.W.length then (s.W[a.toNat]?).getD 0 else 0
end
theorem zg (m:Nat) (s:MS):Sep fun A G=>fY A G m s:=⟨fY.un,fY.kept,fY.mono⟩
def MS.ok (s:MS):Prop:=(∀ w∈s.W,U w)∧s.W.length≤4096
theorem MS.ok.word {s:MS} (h:s.ok) (i:Nat):U ((s.W[i]?).getD 0):=by
 cases hq:s.W[i]? with
 | none=>exact ⟨by decide,by decide⟩
 | some w=>exact h.1 w (List.mem_of_getElem? hq)
theorem MS.ok.acc {s:MS} (h:s.ok) {u:Int→Int×Bool} (hu:∀ w,U w→U (u w).1) (k a:Int):(s.acc k a u).ok∧U (s.acc k a u).new:=by
 unfold MS.acc
 split
 ·refine ⟨⟨fun w hw=>?_,by simpa using h.2⟩,hu _ (h.word _)⟩
  rcases List.mem_or_eq_of_mem_set hw with hw | rfl
  ·exact h.1 w hw
  ·exact hu _ (h.word _)
 ·exact ⟨h,(show (0:Int)≤0 by decide),(show (0:Int)<18446744073709551616 by decide)⟩
theorem MS.ok.load {s:MS} (h:s.ok) (a:Int):(s.load a).ok∧U (s.load a).new:=h.acc (fun w hw=>hw) 1 a
theorem MS.ok.store {s:MS} (h:s.ok) (a:Int) {v:Int} (hv:U v):(s.store a v).ok:=(h.acc (fun w hw=>hv) 2 a).1
theorem MS.ok.bT {s:MS} (h:s.ok) (a x:Int) {y:Int} (hy:U y):(s.bT a x y).ok:=(h.acc (fun w hw=>by unfold qG; split<;>assumption) 3 a).1
theorem ZQ (x:Int):U (IntKind.wrap .u64 x):=by rw [wrap_u64]; unfold U; omega
theorem MS.ok.add {s:MS} (h:s.ok) (a n:Int):(s.add a n).ok∧U (s.add a n).new:=h.acc (fun w hw=>ZQ _) 4 a
theorem dJ:U 0:=⟨by decide,by decide⟩
theorem MS.ok.aI {s:MS} (h:s.ok) (a:Int):U (s.aI a):=by
 unfold MS.aI; split
 ·exact h.word _
 ·exact dJ
theorem ZR (ae:FuncId→Bool) (A B:List (Int)) (v0 v1:Value):∀ (k i:Nat) (s:Bool) (τ:Env) (G:GS),i+k=A.length→τ 0=v0→τ 1=v1→τ 5= .bool s→τ 6= .int .i64 i →
  bI (bK .u64) G v0 A→bI (bK .u64) G v1 B→A.length<2 ^ 47→(s=true→A.length=B.length) →
  Wp ((bA Q ae).du 19 0 τ G) fun r=>r.1= .exit 0∧Ext G r.2.2∧r.2.1 5= .bool (s&&decide (A.drop i=B.drop i)):=by
 intro k
 induction k with
 | zero =>
  intro i s τ G hi h0 h1 h5 h6 hA hB aJ hs
  have bw:i=A.length:=by omega
  obtain ⟨a,c,rfl⟩:=hA.len
  refine Wp.lp (PO (ai Q ae)) ?_
  cases s with
  | false=>simp [Bt,ao,h0,h1,h5,h6,Ext.refl]
  | true =>
   have hd:A.drop i=B.drop i:=by
    rw [bw,List.drop_length,List.drop_of_length_le (by rw [hs rfl]; omega)]
   simp [Bt,ao,h0,h1,h5,h6,hd]
   simp [bw,Ext.refl,ao]
 | succ k ih =>
  intro i s τ G hi h0 h1 h5 h6 hA hB aJ hs
  refine Wp.lp (PO (ai Q ae)) ?_
  cases s with
  | false=>simp [Bt,ao,h0,h1,h5,h6,Ext.refl]
  | true =>
   have hl:=hs rfl
   have I9:i<A.length:=by omega
   have Ja:i<B.length:=by omega
   have he:Ext G (G.room 10):=(Ext.refl G).room 10
   obtain ⟨b,o,c,e0,_,q0,_⟩:=(hA.ext he).at I9
   obtain ⟨b',o',c',e1,_,q1,_⟩:=(hB.ext he).at Ja
   have hc:=q0 0 (by decide)
   have nT:=q1 0 (by decide)
   simp [bK] at hc nT
   have hw:IntKind.wrap .i64 ((i:Int)+1)=((i+1:Nat):Int):=wrap64 (by omega) (by omega)
   have ki:(0:Int)≤i:=by omega
   have hdr:decide (A.drop i=B.drop i)=(decide (A[i]=B[i])&&decide (A.drop (i+1)=B.drop (i+1))):=by
    rw [Bool.eq_iff_iff,List.drop_eq_getElem_cons I9,List.drop_eq_getElem_cons Ja]
    simp only [decide_eq_true_eq,Bool.and_eq_true,List.cons.injEq]
   rw [hdr]
   simp [-Int.natCast_add,Bt,ao,h0,h1,h5,h6,e0,e1,hc,nT,hw,I9,Ja,ki]
   refine (ih (i+1) (decide (A[i]=B[i])) _ (G.room 10) (by omega) (by simp [ao,e0]) (by simp [ao,e1]) (by simp [ao]) (by simp [ao]) (hA.ext he) (hB.ext he) aJ (fun _=>hl)).mono ?_
   rintro r ⟨h1,h2,h3⟩
   exact ⟨h1,he.trans h2,h3⟩
theorem ZS (ae:FuncId→Bool) {A B:List (Int)} {v0 v1:Value} {G:GS} (hA:bI (bK .u64) G v0 A) (hB:bI (bK .u64) G v1 B) (aJ:A.length<2 ^ 47) :
  ∃ G',(E ae).cl 19 [v0,v1] G=some (.bool (decide (A=B)),G')∧Ext G G':=by
 obtain ⟨a,c,ha⟩:=hA.len
 obtain ⟨b,d,hb⟩:=hB.len
 have l0:∀ t,ln Q true t v0=some (.int .i64 A.length):=fun t=>by rw [ha]; simp
 have l1:∀ t,ln Q true t v1=some (.int .i64 B.length):=fun t=>by rw [hb]; simp
 have hd:(decide ((A.length:Int)=(B.length:Int))&&decide (A.drop 0=B.drop 0))=decide (A=B):=by
  by_cases h:A=B
  ·simp [h]
  ·simp [h]
 have w:Wp (s19 true (bA Q ae) v0 v1 G) fun r=>r.1= .bool (decide (A=B))∧Ext G r.2:=by
  simp [s19,l0,l1]
  refine Wp.bE ((ZR ae A B v0 v1 A.length 0 (decide ((A.length:Int)=(B.length:Int))) _ G (by omega) rfl rfl (by simp) rfl hA hB aJ (fun h=>by simp at h; omega)).mono ?_)
  rintro ⟨e,τ,G'⟩ ⟨rfl,x,y⟩
  rw [hd] at y
  simp only at x y
  simp [y,x]
 obtain ⟨⟨v,G'⟩,e1,rfl,e3⟩:=w
 exact ⟨G',f19 (ai Q ae) _ _ G _ e1,e3⟩
section
variable {own own':Nat→Nat} {G G' G0:GS} {m r b c:Nat} {s s' s1:MS} {ts:List Nat}
theorem ZT {n:Nat} (h:n≤4096):(MS.zero n).ok:=⟨fun w hw=>by
 have:w=0:=by simpa [MS.zero] using List.eq_of_mem_replicate hw
 rw [this]; exact dJ,by simpa [MS.zero] using h⟩
theorem zh (ae:FuncId→Bool) (x n:Int) (hn:0<n) (ZU:n<2 ^ 40) (G:GS):(E ae).cl 6 [.int .i64 x,.int .i64 n] G=some (.int .i64 (x % n),G):=by
 refine f6 (ai Q ae) _ _ G _ ?_
 have h1:=Int.emod_nonneg x (show n≠0 by omega)
 have h2:=Int.emod_lt_of_pos x hn
 have ht:=@Int.tmod_eq_emod x n
 have iU:¬ n≤0:=by omega
 have Qy:¬ n=0:=by omega
 have hw:IntKind.wrap .i64 (x % n)=x % n:=wrap64 (by omega) (by omega)
 by_cases hx:x.tmod n<0
 ·have e:x.tmod n+n=x % n:=by split at ht<;>omega
  simp [s6,ao,hx,e,hw,iU,Qy]
 ·have e:x.tmod n=x % n:=by split at ht<;>omega
  have fF:¬ x % n<0:=by omega
  simp [s6,ao,e,fF,iU,Qy]
end
structure dx (t:Nat) (B:Nat→Prop) (own:Nat→Nat) (G:GS) (own':Nat→Nat) (G':GS):Prop where
 cd:bW own own' G
 mod:bG (fun x=>own x=t∨B x) G G'
abbrev no:Nat→Prop:=fun _=>False
section
variable {t m r b:Nat} {B B':Nat→Prop} {own ah aG:Nat→Nat} {G G1 G2:GS} {s s':MS}
theorem dx.nx (h:dx t B own G ah G1):G.nx≤G1.nx:=h.mod.nx
theorem dx.refl (t:Nat) (B:Nat→Prop) (own:Nat→Nat) (G:GS):dx t B own G own G:=⟨bW.refl _ _,bG.refl _ _⟩
theorem dx.keep (h:dx t B own G ah G1) {g:Nat} (hg:g<G.nx) (ht:own g≠t) (hB:¬ B g):G1.obj g=G.obj g:=h.mod.obj g hg fun k=>k.elim ht hB
theorem dx.same (h:dx t B own G ah G1) {g:Nat} (hg:g<G.nx):ah g=own g:=h.cd g hg
theorem dx.trans (h:dx t B own G ah G1) (k:dx t B' ah G1 aG G2) (hs:∀ x,x<G.nx→B' x→B x):dx t B own G aG G2 :=
 ⟨h.cd.trans k.cd h.nx,⟨Nat.le_trans h.nx k.nx,fun g hg hn=>(k.mod.obj g (Nat.lt_of_lt_of_le hg h.nx) fun q=>hn (q.elim (fun q=>.inl ((h.cd g hg).symm.trans q)) fun q=>.inr (hs g hg q))).trans (h.mod.obj g hg hn),Nat.le_trans h.mod.nl k.mod.nl,fun l hl=>(k.mod.loop l (Nat.lt_of_lt_of_le hl h.mod.nl)).trans (h.mod.loop l hl)⟩⟩
theorem dx.mono (h:dx t B own G ah G1) (hs:∀ x,x<G.nx→B x→B' x):dx t B' own G ah G1:=(dx.refl t B' own G).trans h hs
theorem dx.ext (x:Ext G G1):dx t B own G (grown own G 13) G1:=⟨db,x.rW _⟩
theorem dx.zi (x:Ext G G1) (a:bW own ah G):dx t B own G ah G1:=⟨a,x.rW _⟩
theorem dx.put (h:dx t B own G ah G1) (hb:B b∨G.nx≤b) (o:aR):dx t B own G ah (G1.put b o) :=
 ⟨h.cd,h.mod.put (hb.imp .inr id) o⟩
theorem dx.vr (h:dx t B own G ah G1) {A:GS} (x:Ext A G) (hn:∀ g,g<A.nx→own g≠t∧¬ B g):Ext A G1 :=
 ⟨Nat.le_trans x.nx h.nx,fun g hg=>(h.keep (Nat.lt_of_lt_of_le hg x.nx) (hn g hg).1 (hn g hg).2).trans (x.obj g hg),Nat.le_trans x.nl h.mod.nl,fun l hl=>(h.mod.loop l (Nat.lt_of_lt_of_le hl x.nl)).trans (x.loop l hl)⟩
def PM (own:Nat→Nat) (G:GS) (m:Nat) (s:MS):Prop:=fY (Tag own G 10) G m s
theorem PM.to (h:PM own G m s) (k:dx t B own G ah G1) (ht:t≠10) (hB:∀ x,x<G.nx→B x→own x≠10):PM ah G1 m s :=
 (zg m s).mono ((zg m s).kept h k.nx fun g hg=>k.keep hg.1 (by rw [hg.2]; exact ht.symm) fun q=>hB g hg.1 q hg.2) (Tag.le k.cd k.nx) Tag.under
theorem PM.ext (h:PM own G m s) (x:Ext G G1):PM (grown own G 13) G1 m s:=h.to (t:=11) (B:=no) (dx.ext x) (by decide) fun _ _ h=>h.elim
theorem PM.put (h:PM own G m s) (hb:b<G.nx→own b≠10) (o:aR):PM own (G.put b o) m s:=by
 by_cases hl:b<G.nx
 ·exact h.to (t:=11) (B:=fun x=>x=b) ((dx.refl _ (fun x=>x=b) _ _).put (.inl rfl) o) (by decide) fun x _ (e:x=b)=>by rw [e]; exact hb hl
 ·exact h.to (t:=11) (B:=no) ((dx.refl _ _ _ _).put (.inr (by omega)) o) (by decide) fun _ _ h=>h.elim
structure PW (B:Nat→Prop) (own:Nat→Nat) (G:GS) (ah:Nat→Nat) (G1:GS) (m:Nat) (s:MS):Prop where
 aO:dx 10 B own G ah G1
 pm:PM ah G1 m s
theorem PW.refl (h:PM own G m s):PW B own G own G m s:=⟨dx.refl _ _ _ _,h⟩
theorem PW.nx (w:PW B own G ah G1 m s):G.nx≤G1.nx:=w.aO.nx
theorem PW.ext (w:PW B own G ah G1 m s) (x:Ext G1 G2):PW B own G (grown ah G1 13) G2 m s:=⟨w.aO.trans (B':=no) (dx.ext x) fun _ _ h=>h.elim,w.pm.ext x⟩
theorem PW.put (w:PW B own G ah G1 m s) (hb:B b∨G.nx≤b) (h10:b<G1.nx→ah b≠10) (o:aR):PW B own G ah (G1.put b o) m s:=⟨w.aO.put hb o,w.pm.put h10 o⟩
theorem PW.ga (w:PW B own G ah G1 m s) (hB:B b) (hb:b<G.nx) (h10:own b≠10) (o:aR):PW B own G ah (G1.put b o) m s:=w.put (.inl hB) (fun _=>by rw [w.aO.same hb]; exact h10) o
theorem PW.trans (w:PW B own G ah G1 m s) (k:PW B' ah G1 aG G2 m s') (hs:∀ x,x<G.nx→B' x→B x):PW B own G aG G2 m s':=⟨w.aO.trans k.aO hs,k.pm⟩
theorem PW.mono (w:PW B own G ah G1 m s) (hs:∀ x,x<G.nx→B x→B' x):PW B' own G ah G1 m s:=⟨w.aO.mono hs,w.pm⟩
theorem PW.keep (w:PW B own G ah G1 m s) {g:Nat} (hg:g<G.nx) (ht:own g≠10) (hB:¬ B g):G1.obj g=G.obj g:=w.aO.keep hg ht hB
theorem El (h:PM own G m s) {s1:MS} (q:bG (Tag own G 10) G G1) (k:fY (Grow (Tag own G 10) G G1) G1 m s1):PW no own G (grown own G 10) G1 m s1 :=
 ⟨⟨db,q.mono fun x hx=>.inl hx.2⟩,(zg m s1).step q.nx k⟩
theorem PM.load (ae:FuncId→Bool) (h:PM own G m s) (a:Int):∃ ah G1,(E ae).cl 49 [P0 m,.int .i64 a] G=some (.int .u64 (s.load a).new,G1)∧PW no own G ah G1 m (s.load a):=by
 obtain ⟨bb,rest,hm⟩:=h
 obtain ⟨⟨x,G1⟩,e,rfl,q2,q3⟩:=ZJ ae hm a
 exact ⟨_,G1,e,El ⟨bb,rest,hm⟩ q2 q3⟩
theorem PM.store (ae:FuncId→Bool) (h:PM own G m s) (a v:Int):∃ ah G1,(E ae).cl 12 [P0 m,.int .i64 a,.int .u64 v] G=some (.tuple #[],G1)∧PW no own G ah G1 m (s.store a v):=by
 obtain ⟨bb,rest,hm⟩:=h
 obtain ⟨⟨x,G1⟩,e,rfl,q2,q3⟩:=ZK ae hm a v
 exact ⟨_,G1,e,El ⟨bb,rest,hm⟩ q2 q3⟩
theorem PM.bT (ae:FuncId→Bool) (h:PM own G m s) (a v w:Int):∃ ah G1,(E ae).cl 224 [P0 m,.int .i64 a,.int .u64 v,.int .u64 w] G=some (.bool (s.bT a v w).held,G1)∧PW no own G ah G1 m (s.bT a v w):=by
 obtain ⟨bb,rest,hm⟩:=h
 obtain ⟨⟨x,G1⟩,e,rfl,q2,q3⟩:=ZL ae hm a v w
 exact ⟨_,G1,e,El ⟨bb,rest,hm⟩ q2 q3⟩
end
section
variable {A:Nat→Prop} {m r bb wb:Nat} {rest:List Int} {own:Nat→Nat} {G:GS} {s:MS}
theorem ZV (ae:FuncId→Bool) (h:ja A G m bb rest s) (a v:Int):Wp ((E ae).cl 244 [P0 m,.int .i64 a,.int .u64 v] G) fun r=>r.1= .int .u64 (s.add a v).new∧bG A G r.2∧fY (Grow A G r.2) r.2 m (s.add a v):=by
 refine Wp.ref (f244 (ai Q ae) _ _ _ G) ?_
 have hc:=Eg ae h a
 obtain ⟨G1,aj⟩:∃ G1,G1=((G.push ⟨[.pointer none,.int .u64 0,.int .u64 0],1,false,1⟩).put G.nx ⟨[fZ bb s a,.int .u64 v,.int .u64 0],1,false,1⟩):=⟨_,rfl⟩
 have x1:Ext G G1:=by rw [aj]; exact ((Ext.refl G).push _).put (Nat.le_refl _) _
 have o1:G1.obj G.nx=some ⟨[fZ bb s a,.int .u64 v,.int .u64 0],1,false,1⟩:=by rw [aj]; simp
 obtain ⟨⟨v',G'⟩,e,q1,q2,q3⟩:=Eh ae (h.ext x1) 4 a 247 [.agg ⟨[fZ bb s a,.int .u64 v,.int .u64 0]⟩] (ze v) fun G1 w hb h1 h2 h3=>by
  have iu:¬ bb=G1.nx:=by omega
  rw [Ej h1 h2]
  exact ⟨_,f247 (ai Q ae) _ G1 _ (by simp [-iv,s247,DF,iu,h3,ze]; rfl),((Ext.refl G1).push _).room _⟩
 simp only at q1 q2 q3
 have lA:=Ei bb s a
 generalize fZ bb s a=cv at *
 have iH:=yJ lA
 simp [s244,hc,iH,lA,← aj,o1,e,q1]
 exact ⟨rfl,fY.pre h.un x1 q2 q3⟩
theorem PM.add (ae:FuncId→Bool) (h:PM own G m s) (a v:Int):∃ ah G1,(E ae).cl 244 [P0 m,.int .i64 a,.int .u64 v] G=some (.int .u64 (s.add a v).new,G1)∧PW no own G ah G1 m (s.add a v):=by
 obtain ⟨bb,rest,hm⟩:=h
 obtain ⟨⟨x,G1⟩,e,rfl,q2,q3⟩:=ZV ae hm a v
 exact ⟨_,G1,e,El ⟨bb,rest,hm⟩ q2 q3⟩
end
structure Sk where
 top:Int
 links:Int
 size:Int
def Sk.ok (R:Sk):Prop:=1≤R.size∧R.size≤4096∧0≤R.top∧R.top<4096∧0≤R.links∧R.links+R.size≤4096
abbrev hL (R:Sk) (w i j:Int) (made done:Bool) (err:Int) (next:Value):List Value:=[.int .i64 R.top,.int .i64 R.links,.int .i64 R.size,.int .u64 w,.int .i64 i,.int .i64 j,.bool made,.bool done,.int .i64 err,next]
section
variable {m r b:Nat} {own ah:Nat→Nat} {G G1:GS} {s s':MS} {R:Sk} {w i j err:Int} {md dn:Bool} {nx:Value}
theorem Qz (ae:FuncId→Bool) (ht:ae 187=false) (h:PM own G m s) (hs:s.ok) (hb:b<G.nx) (tb:own b≠10) (ho:G.obj b=some ⟨hL R w i j md dn err nx,1,false,1⟩) :
  ∃ ah G1,(E ae).cl 193 [P0 b,P0 m] G=some (.int .i64 (aH R.size (s.load R.top).new),G1)∧PW (fun x=>x=b) own G ah G1 m (s.load R.top)∧G1.obj b=some ⟨hL R (s.load R.top).new i j md dn err nx,1,false,1⟩:=by
 obtain ⟨ah,G1,e1,w1⟩:=h.load ae R.top
 have hw:=(hs.load R.top).2
 generalize s.load R.top=s' at *
 have o1:=(w1.keep hb tb id).trans ho
 have eQ:PW (fun x=>x=b) own G ah G1 m s':=w1.mono fun _ _ h=>h.elim
 obtain ⟨G2,aD⟩:∃ G2,G2=(G1.put b ⟨hL R s'.new i j md dn err nx,1,false,1⟩).room 10:=⟨_,rfl⟩
 have w2:=eQ.ga rfl hb tb ⟨hL R s'.new i j md dn err nx,1,false,1⟩
 have kR:=w2.ext ((Ext.refl _).room 10)
 rw [← aD] at kR
 have o2:G2.obj b=some ⟨hL R s'.new i j md dn err nx,1,false,1⟩:=by rw [aD]; simp
 obtain ⟨G3,e3,x3⟩:=Qt ae ht (a:=R.top) (b:=R.links) (size:=R.size) hw G2
 have n2:b<G2.nx:=Nat.lt_of_lt_of_le hb kR.nx
 refine ⟨_,G3,f193 (ai Q ae) _ _ G _ ?_,kR.ext x3,(x3.obj b n2).trans o2⟩
 simp [s193,ho,e1,o1,← aD,o2,e3]
theorem QA (ae:FuncId→Bool) (ht:ae 187=false) (h:PM own G m s) (hw:U w) (hb:b<G.nx) (tb:own b≠10) (ho:G.obj b=some ⟨hL R w i j md dn err nx,1,false,1⟩) {k:Int} (hk:-1≤k∧k≤65534) :
  ∃ ah G1,(E ae).cl 221 [P0 b,P0 m,.int .i64 k] G=some (.bool (s.bT R.top w (jt k w)).held,G1)∧PW no own G ah G1 m (s.bT R.top w (jt k w))∧G1.obj b=some ⟨hL R w i j md dn err nx,1,false,1⟩:=by
 obtain ⟨G1,e1,x1⟩:=BK ae ht hw G
 obtain ⟨G2,aD⟩:∃ G2,G2=(G1.push ⟨z281,1,false,1⟩).put G1.nx ⟨[.int .i64 (w % 65536 - 1),.int .i64 (w / 65536)],1,false,1⟩:=⟨_,rfl⟩
 have x2:Ext G1 G2:=by rw [aD]; exact ((Ext.refl G1).push _).put (Nat.le_refl _) _
 have p2:G2.obj G1.nx=some ⟨[.int .i64 (w % 65536 - 1),.int .i64 (w / 65536)],1,false,1⟩:=by rw [aD]; simp
 have h1:=hw.1; have h2:=hw.2
 have a1:IntKind.wrap .i64 (w / 65536+1)=w / 65536+1:=wrap64 (by omega) (by omega)
 have a2:wS .i64 (w / 65536+1) 281474976710655=(w / 65536+1) % 281474976710656:=by
  have hn:0≤w / 65536+1∧w / 65536+1<18446744073709551616:=by omega
  generalize w / 65536+1=q at *
  obtain ⟨n,rfl⟩:=Int.eq_ofNat_of_zero_le hn.1
  have:n &&& 281474976710655=n % 281474976710656:=Nat.and_two_pow_sub_one_eq_mod n 48
  show IntKind.wrap .i64 (((BitVec.ofInt 64 (n:Int) &&& BitVec.ofInt 64 281474976710655).toNat:Nat):Int)=_
  rw [BitVec.toNat_and,ofInt_u64 hn,ofInt_u64 ⟨by decide,by decide⟩]
  rw [show (Int.toNat (n:Int))=n from rfl,show (281474976710655:Int).toNat=281474976710655 from rfl,this,wrap64 (by omega) (by omega)]
  omega
 obtain ⟨G3,e3,x3⟩:=Qq ae ht hk (t:=(w / 65536+1) % 281474976710656) (by omega) G2
 obtain ⟨G4,bR⟩:∃ G4,G4=G3.room 13:=⟨_,rfl⟩
 have x4:Ext G3 G4:=by rw [bR]; exact (Ext.refl _).room 13
 have y4:=((x1.trans x2).trans x3).trans x4
 have o4:=(y4.obj b hb).trans ho
 have ZW:G3.obj b=some ⟨hL R w i j md dn err nx,1,false,1⟩:=(((x1.trans x2).trans x3).obj b hb).trans ho
 have h4:=h.ext y4
 obtain ⟨jb,G5,e5,w5⟩:=h4.bT ae R.top w (jt k w)
 have iy:b<G4.nx:=Nat.lt_of_lt_of_le hb y4.nx
 have ZX:grown own G 13 b=own b:=db b hb
 have o5:=(w5.keep iy (by rw [ZX]; exact tb) id).trans o4
 have ZY:aU k ((w / 65536+1) % 281474976710656)=jt k w:=rfl
 rw [ZY] at e3
 refine ⟨jb,G5,f221 (ai Q ae) _ _ _ G _ ?_,((PW.refl h).ext y4).trans w5 fun _ _ h=>h,o5⟩
 simp [s221,ho,e1,bQ,bO,← aD,p2,a1,a2,e3,← bR,o4,ZW,e5]
theorem Em (ae:FuncId→Bool) (ho:G.obj b=some ⟨hL R w i j md dn err nx,1,false,1⟩) (e:Int) :
  (E ae).cl 194 [P0 b,.int .i64 e] G=some (.tuple #[],(G.put b ⟨hL R w i j md true err nx,1,false,1⟩).put b ⟨hL R w i j md true e nx,1,false,1⟩):=by
 refine f194 (ai Q ae) _ _ G _ ?_
 simp [s194,ho]
theorem En (ae:FuncId→Bool) (ho:G.obj b=some ⟨hL R w i j true dn err nx,1,false,1⟩):(E ae).cl 195 [P0 b] G=some (.bool dn,G):=by
 refine f195 (ai Q ae) _ G _ ?_
 cases dn<;>simp [s195,ho]
end
inductive fo where
 | go (n:Nat) (w i j:Int)
 | done (i:Int)
def fo.over:fo→Bool
 | .go ..=>false
 | .done _=>true
def fo.ok (R:Sk):fo→Prop
 | .go n w i j=>1≤n∧n≤3∧U w∧ -1≤i∧i<R.size∧ -1≤j∧j<R.size∧(n≠1→0≤i)
 | .done i=>-1≤i∧i<R.size
def fo.step (R:Sk):fo→MS→fo×MS
 | .done i,s=>(.done i,s)
 | .go n w i j,s =>
  if n=1 then (if aH R.size (s.load R.top).new<0 then .done (aH R.size (s.load R.top).new) else .go 2 (s.load R.top).new (aH R.size (s.load R.top).new) j,s.load R.top)
  else if n=2 then (.go 3 w i (aH R.size (s.load (R.links+i)).new),s.load (R.links+i))
  else (if (s.bT R.top w (jt j w)).held=true then .done i else .go 1 w i j,s.bT R.top w (jt j w))
theorem fo.ok.step {R:Sk} {p:fo} {s:MS} (hR:R.ok) (hp:p.ok R) (hs:s.ok):(p.step R s).1.ok R∧(p.step R s).2.ok:=by
 cases p with
 | done i=>exact ⟨hp,hs⟩
 | go n w i j =>
  obtain ⟨h1,h2,h3,h4,h5,h6,h7,h8⟩:=hp
  have hz:=hR.1; have dY:=hR.2.1
  simp only [fo.step]
  split
  ·refine ⟨?_,(hs.load _).1⟩
   have g1:=@BL R.size (s.load R.top).new
   have g2:=@BM R.size (s.load R.top).new (by omega)
   split
   ·exact ⟨g1,g2⟩
   ·exact ⟨by decide,by decide,(hs.load _).2,g1,g2,h6,h7,fun _=>by omega⟩
  ·split
   ·exact ⟨⟨by decide,by decide,h3,h4,h5,BL,BM (by omega),fun _=>h8 (by omega)⟩,(hs.load _).1⟩
   ·refine ⟨?_,hs.bT _ _ (Qu (by omega))⟩
    split
    ·exact ⟨h4,h5⟩
    ·exact ⟨by decide,by decide,h3,h4,h5,h6,h7,fun h=>absurd rfl h⟩
def dK (n:Nat):Value:=.func (.func (if n=1 then 173 else if n=2 then 192 else 209)) #[] #[]
def pD (R:Sk) (G:GS) (b:Nat):fo→Prop
 | .go n w i j=>G.obj b=some ⟨hL R w i j true false 0 (dK n),1,false,1⟩
 | .done i=>∃ w j nx,G.obj b=some ⟨hL R w i j true true (if i<0 then 15 else 0) nx,1,false,1⟩
theorem pD.kept {R:Sk} {G G':GS} {b:Nat} {p:fo} (h:pD R G b p) (hk:G'.obj b=G.obj b):pD R G' b p:=by
 cases p with
 | done i=>obtain ⟨w,j,nx,h⟩:=h; exact ⟨w,j,nx,hk.trans h⟩
 | go n w i j=>exact hk.trans h
section
variable {m r b:Nat} {own ah:Nat→Nat} {G G1:GS} {s s':MS} {R:Sk} {p:fo}
theorem ZZ (ae:FuncId→Bool) (ht:ae 187=false) (h:PM own G m s) (hs:s.ok) (hR:R.ok) (hb:b<G.nx) (tb:own b≠10) (hp:p.ok R) (hr:pD R G b p) :
  ∃ ah G1,(E ae).cl 174 [P0 b,P0 m] G=some (.bool (p.step R s).1.over,G1)∧PW (fun x=>x=b) own G ah G1 m (p.step R s).2∧pD R G1 b (p.step R s).1:=by
 cases p with
 | done i =>
  obtain ⟨w,j,nx,ho⟩:=hr
  have e0:=En ae ho
  refine ⟨own,G,f174 (ai Q ae) _ _ G _ ?_,PW.refl h,w,j,nx,ho⟩
  simp [s174,e0,fo.step,fo.over]
 | go n w i j =>
  obtain ⟨h1,h2,h3,h4,h5,h6,h7,h8⟩:=hp
  have wk:=hR.1; have QB:=hR.2.1; have QC:=hR.2.2.2.2.1; have QD:=hR.2.2.2.2.2
  have ho:G.obj b=_:=hr
  have e0:=En ae ho
  rcases (show n=1∨n=2∨n=3 by omega) with rfl | rfl | rfl
  ·-- the top is loaded
   obtain ⟨G1,aj⟩:∃ G1,G1=G.put b ⟨hL R w i j true false 0 (dK 2),1,false,1⟩:=⟨_,rfl⟩
   have w1:=(PW.refl (B:=fun x=>x=b) h).ga rfl hb tb ⟨hL R w i j true false 0 (dK 2),1,false,1⟩
   rw [← aj] at w1
   have o1:G1.obj b=some ⟨hL R w i j true false 0 (dK 2),1,false,1⟩:=by rw [aj]; simp
   have n1:b<G1.nx:=Nat.lt_of_lt_of_le hb w1.nx
   obtain ⟨aG,G2,e2,w2,o2⟩:=Qz ae ht w1.pm hs n1 tb o1
   have w12:=w1.trans w2 fun _ _ h=>h
   simp only [fo.step,if_true]
   generalize s.load R.top=s' at *
   generalize aH R.size s'.new=i' at *
   have w3:=w12.ga (b:=b) rfl hb tb ⟨hL R s'.new i' j true false 0 (dK 2),1,false,1⟩
   have o3:(G2.put b ⟨hL R s'.new i' j true false 0 (dK 2),1,false,1⟩).obj b=some ⟨hL R s'.new i' j true false 0 (dK 2),1,false,1⟩:=by simp
   by_cases hc:i' <0
   ·have e3:=Em ae o3 15
    have w4:=(w3.ga (b:=b) rfl hb tb ⟨hL R s'.new i' j true true 0 (dK 2),1,false,1⟩).ga (b:=b) rfl hb tb ⟨hL R s'.new i' j true true 15 (dK 2),1,false,1⟩
    rw [if_pos hc]
    refine ⟨aG,_,f174 (ai Q ae) _ _ G _ ?_,w4,s'.new,j,dK 2,by simp [hc]⟩
    have e4:(E ae).cl 173 [P0 b,P0 m] G=some (.tuple #[],((G2.put b ⟨hL R s'.new i' j true false 0 (dK 2),1,false,1⟩).put b ⟨hL R s'.new i' j true true 0 (dK 2),1,false,1⟩).put b ⟨hL R s'.new i' j true true 15 (dK 2),1,false,1⟩):=by
     refine f173 (ai Q ae) _ _ G _ ?_
     simp only [dK] at *
     simp at *
     simp [s173,ho,← aj,e2,o2,hc,e3]
    simp only [dK] at *
    simp at *
    simp [s174,e0,ho,e4,fo.over]
   ·rw [if_neg hc]
    refine ⟨aG,_,f174 (ai Q ae) _ _ G _ ?_,w3,by simp [pD]⟩
    have e4:(E ae).cl 173 [P0 b,P0 m] G=some (.tuple #[],(G2.put b ⟨hL R s'.new i' j true false 0 (dK 2),1,false,1⟩)):=by
     refine f173 (ai Q ae) _ _ G _ ?_
     simp only [dK] at *
     simp at *
     have nT:¬ i' <0:=by omega
     simp [s173,ho,← aj,e2,o2,nT]
    simp only [dK] at *
    simp at *
    simp [s174,e0,ho,e4,fo.over]
  ·-- the link is loaded
   have hi:=h8 (by decide)
   have ha:IntKind.wrap .i64 (R.links+i)=R.links+i:=wrap64 (by omega) (by omega)
   have x0:Ext G (G.room 25):=(Ext.refl G).room 25
   have w0:=(PW.refl (B:=fun x=>x=b) h).ext x0
   obtain ⟨ah,G1,e1,w1⟩:=w0.pm.load ae (R.links+i)
   have w01:=w0.trans w1 fun _ _ h=>h.elim
   have o0:(G.room 25).obj b=some ⟨hL R w i j true false 0 (dK 2),1,false,1⟩:=ho
   have t0:grown own G 13 b=own b:=db b hb
   have o1:=(w1.keep (show b<(G.room 25).nx by simp; omega) (by rw [t0]; exact tb) id).trans o0
   simp only [fo.step]
   have hw:=(hs.load (R.links+i)).2
   generalize s.load (R.links+i)=s' at *
   obtain ⟨G2,e2,x2⟩:=Qt ae ht (a:=R.top) (b:=R.links) (size:=R.size) hw G1
   have n1:b<G1.nx:=Nat.lt_of_lt_of_le hb w01.nx
   have o2:=(x2.obj b n1).trans o1
   have w02:=w01.ext x2
   generalize aH R.size s'.new=j' at *
   have w3:=(w02.ga (b:=b) rfl hb tb ⟨hL R w i j' true false 0 (dK 2),1,false,1⟩).ga (b:=b) rfl hb tb ⟨hL R w i j' true false 0 (dK 3),1,false,1⟩
   refine ⟨_,_,f174 (ai Q ae) _ _ G _ ?_,w3,by simp [pD]⟩
   have e4:(E ae).cl 192 [P0 b,P0 m] G=some (.tuple #[],(G2.put b ⟨hL R w i j' true false 0 (dK 2),1,false,1⟩).put b ⟨hL R w i j' true false 0 (dK 3),1,false,1⟩):=by
    refine f192 (ai Q ae) _ _ G _ ?_
    simp only [dK] at *
    simp at *
    simp [s192,ho,ha,e1,o1,e2,o2]
   simp only [dK] at *
   simp at *
   simp [s174,e0,ho,e4,fo.over]
  ·-- the top is apO
   obtain ⟨G1,aj⟩:∃ G1,G1=(G.put b ⟨hL R w i j true false 0 (dK 1),1,false,1⟩).room 10:=⟨_,rfl⟩
   have w1:=((PW.refl (B:=fun x=>x=b) h).ga rfl hb tb ⟨hL R w i j true false 0 (dK 1),1,false,1⟩).ext ((Ext.refl _).room 10)
   rw [← aj] at w1
   have o1:G1.obj b=some ⟨hL R w i j true false 0 (dK 1),1,false,1⟩:=by rw [aj]; simp
   have o1':(G.put b ⟨hL R w i j true false 0 (dK 1),1,false,1⟩).obj b=some ⟨hL R w i j true false 0 (dK 1),1,false,1⟩:=by simp
   have n1:b<G1.nx:=Nat.lt_of_lt_of_le hb w1.nx
   obtain ⟨aG,G2,e2,w2,o2⟩:=QA ae ht w1.pm h3 n1 (by rw [w1.aO.same hb]; exact tb) o1 (k:=j) (by omega)
   have w12:=w1.trans w2 fun _ _ h=>h.elim
   simp only [fo.step]
   generalize s.bT R.top w (jt j w)=s' at *
   cases hc:s'.held with
   | true =>
    have hi:¬ i<0:=by have:=h8 (by decide); omega
    have e3:=Em ae o2 0
    have w4:=(w12.ga (b:=b) rfl hb tb ⟨hL R w i j true true 0 (dK 1),1,false,1⟩).ga (b:=b) rfl hb tb ⟨hL R w i j true true 0 (dK 1),1,false,1⟩
    refine ⟨aG,_,f174 (ai Q ae) _ _ G _ ?_,w4,w,j,dK 1,by simp [hi]⟩
    have e4:(E ae).cl 209 [P0 b,P0 m] G=some (.tuple #[],(G2.put b ⟨hL R w i j true true 0 (dK 1),1,false,1⟩).put b ⟨hL R w i j true true 0 (dK 1),1,false,1⟩):=by
     refine f209 (ai Q ae) _ _ G _ ?_
     simp only [dK] at *
     simp at *
     simp [s209,ho,← aj,e2,hc,e3]
    simp only [dK] at *
    simp at *
    simp [s174,e0,ho,e4,fo.over,hc]
   | false =>
    refine ⟨aG,G2,f174 (ai Q ae) _ _ G _ ?_,by simpa [hc] using w12,by simpa [pD] using o2⟩
    have e4:(E ae).cl 209 [P0 b,P0 m] G=some (.tuple #[],G2):=by
     refine f209 (ai Q ae) _ _ G _ ?_
     simp only [dK] at *
     simp at *
     simp [s209,ho,← aj,e2,hc]
    simp only [dK] at *
    simp at *
    simp [s174,e0,ho,e4,fo.over,hc,o2]
end
end Go.Proofs.YtphandknhnkhfaaGreat.Lift
