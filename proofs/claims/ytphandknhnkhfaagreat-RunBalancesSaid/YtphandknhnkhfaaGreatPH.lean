import Derived.Test.YtphandknhnkhfaaGreatPG
set_option linter.unusedVariables false
set_option linter.unusedSimpArgs false
set_option maxRecDepth 20000
namespace Go.Proofs.YtphandknhnkhfaaGreat.Lift
open Go Go.Proofs.YtphandknhnkhfaaGreat.Gh Go.Proofs
structure Sh where
 c:Vw
 C:Int→List Int
 born:Int→Int→Prop
 ld:Int→Prop
 rf:Int→Int
 bz:Int→Prop
structure bh (t:TW) (g:Sh):Prop where
 rf:∀ i,0≤i→i<t.size→aH t.size (g.rf i)=i∧0<g.rf i∧g.rf i<bp
 u:∀ i p,U (g.c i p)
 pX:∀ l,0≤l→l<t.ay→jd g.c g.rf l (-1) (g.C l)
 hd:∀ l,0≤l→l<t.ay→¬ Mk (g.c (-1) (4+l))
 ml:∀ l,0≤l→l<t.ay→(g.C l).Pairwise fun a b=>g.c a 0<g.c b 0
 dM:∀ l i,0≤l→l<t.ay→i∈g.C l→g.born l i
 bo:∀ l i,g.born l i→0≤i∧i<t.size∧0≤l∧l<t.ay∧g.ld i∧l<g.c i 2
 dn:∀ l l' i,g.born l i→0≤l' →l' ≤l→g.born l' i
 hi:∀ i,g.ld i→0≤i∧i<t.size∧1≤g.c i 2∧g.c i 2≤t.ay
 on:∀ l i,g.born l i→¬ Mk (g.c i (4+l))→i∈g.C l
 up:∀ l l' i,g.born 0 i→0≤l→l<l' →l' <g.c i 2→Mk (g.c i (4+l))→Mk (g.c i (4+l'))
 xK:∀ i j,g.ld i→g.ld j→g.c i 0=g.c j 0→i=j
structure eo (t:TW) (own kn:Int→Prop) (g g':Sh):Prop where
 rf:∀ i,kn i→g'.rf i=g.rf i
 ld:∀ i,kn i→g.ld i→g'.ld i
 born:∀ l i,kn i→g.born l i→g'.born l i
 fix:∀ i p,kn i→g.ld i→p=0∨p=1∨p=2→g'.c i p=g.c i p
 mark:∀ l i,kn i→g.born 0 i→0≤l→Mk (g.c i (4+l))→g'.c i (4+l)=g.c i (4+l)
 back:∀ l i,kn i→g.born 0 i→¬ g.bz i→0≤l→l<t.ay→i∈g'.C l→i∈g.C l
 nbz:∀ i,kn i→g.born 0 i→¬ g.bz i→¬ g'.bz i
 bzo:∀ i,kn i→g.born 0 i→g.bz i→¬ g'.bz i→Mk (g'.c i 4)→∀ l,0≤l→l<t.ay→i∉g'.C l
 Ke:∀ l i,own i→g'.born l i→g.born l i
 Sz:∀ l i,own i→0≤l→l<t.ay→i∈g'.C l→i∈g.C l
 acN:∀ i p,own i→¬ g.born 0 i→g'.c i p=g.c i p
 acO:∀ l i,own i→g.born 0 i→¬ g.born l i→0≤l→g'.c i (4+l)=g.c i (4+l)∨(¬ Mk (g.c i (4+l))∧g'.c i (4+l)=g.c i (4+l)+bp)
 Kf:∀ i,own i→(g'.bz i↔g.bz i)
def hZ (C:Int→List Int) (l:Int) (L:List Int):Int→List Int:=fun k=>if k=l then L else C k
section
variable {t:TW} {own kn:Int→Prop} {g g':Sh} {l p i j v:Int} {A B:List Int}
theorem eo.refl (t:TW) (own kn:Int→Prop) (g:Sh):eo t own kn g g :=
 ⟨fun _ _=>rfl,fun _ _ h=>h,fun _ _ _ h=>h,fun _ _ _ _ _=>rfl,fun _ _ _ _ _ _=>rfl,fun _ _ _ _ _ _ _ h=>h,fun _ _ _ h=>h,fun _ _ _ h k=>absurd h k,fun _ _ _ h=>h,fun _ _ _ _ _ h=>h,fun _ _ _ _=>rfl,fun _ _ _ _ _ _=>.inl rfl,fun _ _=>Iff.rfl⟩
theorem bh.vI (h:bh t g) (hb:g.born l i):g.born 0 i:=h.dn l 0 i hb (by omega) (h.bo _ _ hb).2.2.1
theorem bh.SA (h:bh t g) (h0:0≤l) (h1:l<t.ay) (hi:i∈g.C l):g.born 0 i:=h.vI (h.dM l i h0 h1 hi)
theorem bh.nodup (h:bh t g) (h0:0≤l) (h1:l<t.ay):((-1)::g.C l).Nodup:=by
 refine List.nodup_cons.2 ⟨fun hm=>?_,(h.ml l h0 h1).imp fun pd e=>by subst e; omega⟩
 have:=(h.bo _ _ (h.dM l _ h0 h1 hm)).1
 omega
theorem bh.acP (h:bh t g) (h0:0≤i) (h1:i<t.size):um (g.rf i)=g.rf i:=sy ⟨by have:=(h.rf i h0 h1).2; omega,by have:=(h.rf i h0 h1).2.2; unfold bp at this; omega⟩ (by have:=(h.rf i h0 h1).2.2; unfold Mk; omega)
structure fB (t:TW) (g:Sh) (l p:Int):Prop where
 l0:0≤l
 l1:l<t.ay
 on:p= -1∨g.born l p
 um:¬ Mk (g.c p (4+l))
theorem fB.mem (h:bh t g) (hp:fB t g l p):p= -1∨p∈g.C l:=hp.on.imp id fun k=>h.on l p k hp.um
theorem fB.split (h:bh t g) (hp:fB t g l p):∃ A B,g.C l=A++B∧fP g.c g.rf l (-1) A p∧jd g.c g.rf l p B :=
 (h.pX l hp.l0 hp.l1).at (hp.mem h) (List.nodup_cons.1 (h.nodup hp.l0 hp.l1)).1
def Sh.unlink (g:Sh) (l p j:Int) (L:List Int):Sh:={ g with c:=g.c.set p (4+l) (um (g.c j (4+l))),C:=hZ g.C l L }
theorem SB (c:Vw) {i p:Int} {v:Int} (hv:Mk v↔Mk (c i p)) (j q:Int):Mk (c.set i p v j q)↔Mk (c j q):=by
 unfold Vw.set
 split
 ·rename_i e; rw [e.1,e.2]; exact hv
 ·exact Iff.rfl
theorem bh.unlink (h:bh t g) (hp:fB t g l p) (hC:g.C l=A++j::B) (hP:fP g.c g.rf l (-1) A p) (hj:Mk (g.c j (4+l))):bh t (g.unlink l p j (A++B)):=by
 have hn:=h.nodup hp.l0 hp.l1
 have EZ:=Kb (g.c j (4+l))
 have hm:∀ j' q,Mk ((g.unlink l p j (A++B)).c j' q)↔Mk (g.c j' q):=SB _ ⟨fun k=>absurd k (by unfold Mk; omega),fun k=>absurd k hp.um⟩
 have kz:∀ j' q,q≤3→(g.unlink l p j (A++B)).c j' q=g.c j' q:=fun j' q hq=>g.c.dC _ (by have:=hp.l0; omega)
 have MN:j≠p:=by rintro rfl; exact hp.um hj
 have xL:∀ l' i,i∈(g.unlink l p j (A++B)).C l' →i∈g.C l':=fun l' i hi=>by
  unfold Sh.unlink hZ at hi
  simp only at hi
  split at hi
  ·rename_i e; rw [e,hC]; simp at hi ⊢; exact hi.elim .inl fun k=>.inr (.inr k)
  ·exact hi
 refine ⟨h.rf,fun i q=>?_,fun l' h0 h1=>?_,fun l' h0 h1 k=>h.hd l' h0 h1 ((hm _ _).1 k),fun l' h0 h1=>?_,fun l' i h0 h1 hi=>h.dM l' i h0 h1 (xL l' i hi),fun l' i hb=>?_,h.dn,fun i hi=>?_,fun l' i hb hk=>?_,fun l1 l2 i hb h0 h1 h2 hk=>(hm _ _).2 (h.up l1 l2 i hb h0 h1 (by rw [kz _ _ (by omega)] at h2; exact h2) ((hm _ _).1 hk)),fun i i' hi bw hk=>h.xK i i' hi bw (by rwa [kz _ _ (by omega),kz _ _ (by omega)] at hk)⟩
 ·show U (g.c.set p (4+l) _ i q)
  unfold Vw.set
  split
  ·exact ⟨EZ.1,by have:=EZ.2; unfold bp at this; omega⟩
  ·exact h.u i q
 ·by_cases e:l' =l
  ·subst e
   have:=h.pX l' h0 h1
   rw [hC] at this hn
   simpa [Sh.unlink,hZ] using this.unlink hP hn
  ·have:=h.pX l' h0 h1
   simp only [Sh.unlink,hZ,if_neg e]
   exact this.same fun q _=>by rw [g.c.dC _ (by omega)]
 ·have:=h.ml l' h0 h1
  by_cases e:l' =l
  ·subst e
   rw [hC] at this
   simp only [Sh.unlink,hZ,if_true]
   refine (this.sublist ((List.Sublist.refl A).append (List.sublist_cons_self j B))).imp fun {a b} pd=>?_
   rw [g.c.dC _ (by have:=hp.l0; omega),g.c.dC _ (by have:=hp.l0; omega)]; exact pd
  ·simp only [Sh.unlink,hZ,if_neg e]
   refine this.imp fun {a b} pd=>?_
   rw [g.c.dC _ (by have:=hp.l0; omega),g.c.dC _ (by have:=hp.l0; omega)]; exact pd
 ·have:=h.bo l' i hb
  rw [kz _ _ (by omega)]; exact this
 ·have:=h.hi i hi
  rw [kz _ _ (by omega)]; exact this
 ·have h1:=h.on l' i hb (fun k=>hk ((hm _ _).2 k))
  by_cases e:l' =l
  ·subst e
   have rE:i≠j:=by rintro rfl; exact hk ((hm _ _).2 hj)
   rw [hC] at h1
   simp [Sh.unlink,hZ] at h1 ⊢
   exact h1.elim .inl fun k=>k.elim (fun e=>absurd e rE) .inr
  ·simpa [Sh.unlink,hZ,e] using h1
theorem eo.unlink (ho:∀ i,own i→0≤i) (h:bh t g) (hp:fB t g l p) (hC:g.C l=A++j::B):eo t own kn g (g.unlink l p j (A++B)):=by
 have xL:∀ l' i,i∈(g.unlink l p j (A++B)).C l' →i∈g.C l':=fun l' i hi=>by
  unfold Sh.unlink hZ at hi
  simp only at hi
  split at hi
  ·rename_i e; rw [e,hC]; simp at hi ⊢; exact hi.elim .inl fun k=>.inr (.inr k)
  ·exact hi
 have l0:=hp.l0
 refine ⟨fun _ _=>rfl,fun _ _ h=>h,fun _ _ _ h=>h,fun i q _ _ hq=>g.c.dC _ (by omega),fun l' i _ hb _ hk=>g.c.pW _ ?_,fun l' i _ _ _ _ _ hi=>xL _ _ hi,fun _ _ _ h=>h,fun _ _ _ h k=>absurd h k,fun _ _ _ h=>h,fun l' i _ _ _ hi=>xL _ _ hi,fun i q yk hb=>g.c.mM _ ?_,fun l' i _ hb ig _=>.inl (g.c.pW _ ?_),fun _ _=>Iff.rfl⟩
 ·rintro ⟨rfl,e⟩
  rw [show l' =l by omega] at hk
  exact hp.um hk
 ·rintro rfl
  rcases hp.on with e | e
  ·have:=ho _ yk; omega
  ·exact hb (h.vI e)
 ·rintro ⟨rfl,e⟩
  rcases hp.on with e' | e'
  ·have:=(h.bo _ _ hb).1; omega
  ·rw [show l' =l by omega] at ig; exact ig e'
end
def Sh.link (g:Sh) (l p i:Int) (L:List Int):Sh:={ g with c:=g.c.set p (4+l) (g.rf i),C:=hZ g.C l L,born:=fun l' j=>g.born l' j∨(l' =l∧j=i),bz:=fun j=>g.bz j∨(l=0∧j=i) }
structure Cd (t:TW) (g:Sh) (l p i:Int) (A B:List Int):Prop where
 hp:fB t g l p
 hC:g.C l=A++B
 hP:fP g.c g.rf l (-1) A p
 nb:¬ g.born l i
 ld:g.ld i
 lh:l<g.c i 2
 w:um (g.c i (4+l))=g.c p (4+l)
 kA:∀ a∈A,g.c a 0<g.c i 0
 kB:∀ b∈B,g.c i 0<g.c b 0
 low:l=0→∀ l',0≤l' →l' <g.c i 2→¬ Mk (g.c i (4+l'))
 dR:l≠0→g.born (l - 1) i∧g.bz i
def Sh.put (g:Sh) (i p v:Int):Sh:={ g with c:=g.c.set i p v }
def Sh.lay (g:Sh) (i:Int):Sh:={ g with ld:=fun j=>g.ld j∨j=i }
def Sh.sB (g:Sh) (i:Int):Sh:={ g with bz:=fun j=>g.bz j∧j≠i }
section
variable {t:TW} {own kn:Int→Prop} {g g':Sh} {l p i j v:Int} {A B:List Int}
theorem Cd.ne (h:bh t g) (k:Cd t g l p i A B):i≠p∧i∉(-1)::g.C l∧0≤i∧i<t.size:=by
 have h1:=h.hi i k.ld
 refine ⟨?_,?_,h1.1,h1.2.1⟩
 ·rintro rfl
  rcases k.hp.on with e | e
  ·omega
  ·exact k.nb e
 ·intro hm
  rcases List.mem_cons.1 hm with e | e
  ·omega
  ·exact k.nb (h.dM l i k.hp.l0 k.hp.l1 e)
theorem bh.link (h:bh t g) (k:Cd t g l p i A B):bh t (g.link l p i (A++i::B)):=by
 obtain ⟨SC,SD,i0,i1⟩:=k.ne h
 have l0:=k.hp.l0
 have l1:=k.hp.l1
 have hn:=h.nodup l0 l1
 have r:=h.rf i i0 i1
 have hr:=h.acP i0 i1
 have nr:¬ Mk (g.rf i):=by unfold Mk; omega
 have hm:∀ j' q,Mk ((g.link l p i (A++i::B)).c j' q)↔Mk (g.c j' q):=SB _ ⟨fun k'=>absurd k' nr,fun k'=>absurd k' k.hp.um⟩
 have kz:∀ j' q,q≤3→(g.link l p i (A++i::B)).c j' q=g.c j' q:=fun j' q hq=>g.c.dC _ (by omega)
 have rE:=h.hi i k.ld
 refine ⟨h.rf,fun i' q=>?_,fun l' h0 h1=>?_,fun l' h0 h1 k'=>h.hd l' h0 h1 ((hm _ _).1 k'),fun l' h0 h1=>?_,fun l' i' h0 h1 hi=>?_,fun l' i' hb=>?_,fun tU vu i' hb h0 h1=>?_,fun i' hi=>?_,fun l' i' hb hk=>?_,fun tU vu i' hb h0 h1 h2 hk=>?_,fun a b ha hb hk=>h.xK a b ha hb (by rwa [kz _ _ (by omega),kz _ _ (by omega)] at hk)⟩
 ·show U (g.c.set p (4+l) _ i' q)
  unfold Vw.set
  split
  ·exact ⟨by omega,by have:=r.2.2; unfold bp at this; omega⟩
  ·exact h.u i' q
 ·by_cases e:l' =l
  ·subst e
   have:=h.pX l' h0 h1
   rw [k.hC] at this hn SD
   have:=this.link k.hP hn SD (by rw [k.w,sy (h.u _ _) k.hp.um]) hr
   simpa [Sh.link,hZ] using this
  ·have:=h.pX l' h0 h1
   simp only [Sh.link,hZ,if_neg e]
   exact this.same fun q _=>by rw [g.c.dC _ (by omega)]
 ·have:=h.ml l' h0 h1
  by_cases e:l' =l
  ·subst e
   rw [k.hC] at this
   simp only [Sh.link,hZ,if_true]
   have q:=List.pairwise_append.1 this
   have:(A++i::B).Pairwise fun a b=>g.c a 0<g.c b 0:=by
    refine List.pairwise_append.2 ⟨q.1,List.pairwise_cons.2 ⟨k.kB,q.2.1⟩,fun a ha b hb=>?_⟩
    rcases List.mem_cons.1 hb with rfl | hb
    ·exact k.kA a ha
    ·exact q.2.2 a ha b hb
   refine this.imp fun {a b} pd=>?_
   rw [g.c.dC _ (by omega),g.c.dC _ (by omega)]; exact pd
  ·simp only [Sh.link,hZ,if_neg e]
   refine this.imp fun {a b} pd=>?_
   rw [g.c.dC _ (by omega),g.c.dC _ (by omega)]; exact pd
 ·by_cases e:l' =l
  ·subst e
   simp [Sh.link,hZ] at hi
   rcases hi with hi | rfl | hi
   ·exact .inl (h.dM l' i' h0 h1 (by rw [k.hC]; simp [hi]))
   ·exact .inr ⟨rfl,rfl⟩
   ·exact .inl (h.dM l' i' h0 h1 (by rw [k.hC]; simp [hi]))
  ·simp only [Sh.link,hZ,if_neg e] at hi
   exact .inl (h.dM l' i' h0 h1 hi)
 ·rw [kz _ _ (by omega)]
  rcases hb with hb | ⟨rfl,rfl⟩
  ·exact h.bo l' i' hb
  ·exact ⟨i0,i1,l0,l1,k.ld,k.lh⟩
 ·rcases hb with hb | ⟨rfl,rfl⟩
  ·exact .inl (h.dn _ _ _ hb h0 h1)
  ·by_cases e:vu =tU
   ·exact .inr ⟨e,rfl⟩
   ·exact .inl (h.dn _ _ _ (k.dR (by omega)).1 h0 (by omega))
 ·rw [kz _ _ (by omega)]; exact h.hi i' hi
 ·rcases hb with hb | ⟨rfl,rfl⟩
  ·have h1:=h.on l' i' hb (fun k'=>hk ((hm _ _).2 k'))
   by_cases e:l' =l
   ·subst e
    rw [k.hC] at h1
    simp [Sh.link,hZ] at h1 ⊢
    exact h1.elim .inl fun k'=>.inr (.inr k')
   ·simpa [Sh.link,hZ,e] using h1
  ·simp [Sh.link,hZ]
 ·rw [kz _ _ (by omega)] at h2
  rcases hb with hb | ⟨e,rfl⟩
  ·exact (hm _ _).2 (h.up tU vu i' hb h0 h1 h2 ((hm _ _).1 hk))
  ·exact absurd ((hm _ _).1 hk) (k.low e.symm tU h0 (by omega))
theorem eo.link (ho:∀ i,own i→0≤i) (h:bh t g) (k:Cd t g l p i A B) (hi:¬ own i):eo t own kn g (g.link l p i (A++i::B)):=by
 have l0:=k.hp.l0
 have xL:∀ l' j,j∈(g.link l p i (A++i::B)).C l' →j∈g.C l' ∨(l' =l∧j=i):=fun l' j hj=>by
  unfold Sh.link hZ at hj
  simp only at hj
  split at hj
  ·rename_i e
   rw [e,k.hC]
   simp at hj ⊢
   rcases hj with hj | rfl | hj
   ·exact .inl (.inl hj)
   ·exact .inr rfl
   ·exact .inl (.inr hj)
  ·exact .inl hj
 refine ⟨fun _ _=>rfl,fun _ _ h=>h,fun _ _ _ h=>.inl h,fun j q _ _ hq=>g.c.dC _ (by omega),fun l' j _ hb _ hk=>g.c.pW _ ?_,fun l' j _ hb hz _ _ hj=>?_,fun j _ hb hz=>?_,fun j _ hb h1 h2=>absurd (Or.inl h1) h2,fun l' j dI hb=>?_,fun l' j dI _ _ hj=>?_,fun j q dI hb=>g.c.mM _ ?_,fun l' j dI hb ig _=>.inl (g.c.pW _ ?_),fun j dI=>⟨fun z=>?_,.inl⟩⟩
 ·rintro ⟨rfl,e⟩
  rw [show l' =l by omega] at hk
  exact k.hp.um hk
 ·rcases xL _ _ hj with h1 | ⟨rfl,rfl⟩
  ·exact h1
  ·by_cases e:l' =0
   ·subst e; exact absurd hb k.nb
   ·exact absurd (k.dR e).2 hz
 ·rintro (h1 | ⟨rfl,rfl⟩)
  ·exact hz h1
  ·exact k.nb hb
 ·rcases hb with hb | ⟨rfl,rfl⟩
  ·exact hb
  ·exact absurd dI hi
 ·rcases xL _ _ hj with h1 | ⟨rfl,rfl⟩
  ·exact h1
  ·exact absurd dI hi
 ·rintro rfl
  rcases k.hp.on with e | e
  ·have:=ho _ dI; omega
  ·exact hb (h.vI e)
 ·rintro ⟨rfl,e⟩
  rcases k.hp.on with e' | e'
  ·have:=(h.bo _ _ hb).1; omega
  ·rw [show l' =l by omega] at ig; exact ig e'
 ·rcases z with z | ⟨_,rfl⟩
  ·exact z
  ·exact absurd dI hi
structure Ce (t:TW) (g:Sh) (i p v:Int):Prop where
 i0:0≤i
 u:U v
 ok:¬ g.born 0 i∧(g.ld i→3≤p)∨(∃ l,0≤l∧p=4+l∧¬ g.born l i∧¬ Mk (g.c i p)∧¬ Mk v)∨p=3
theorem bh.put (h:bh t g) (k:Ce t g i p v):bh t (g.put i p v):=by
 have i0:=k.i0
 have kc:∀ j q,g.born 0 j→q≤2→(g.put i p v).c j q=g.c j q:=fun j q hb hq=>g.c.pW _ (by
  rintro ⟨rfl,rfl⟩
  have ld:=(h.bo _ _ hb).2.2.2.2.1
  rcases k.ok with ⟨k1,k2⟩ | ⟨l,h0,e,_⟩ | e
  ·exact k1 hb
  ·omega
  ·omega)
 have kl:∀ j q,g.ld j→q≤2→(g.put i p v).c j q=g.c j q:=fun j q hb hq=>g.c.pW _ (by
  rintro ⟨rfl,rfl⟩
  rcases k.ok with ⟨k1,k2⟩ | ⟨l,h0,e,_⟩ | e
  ·have:=k2 hb; omega
  ·omega
  ·omega)
 have kw:∀ j l,0≤l→g.born l j→(g.put i p v).c j (4+l)=g.c j (4+l):=fun j l h0 hb=>g.c.pW _ (by
  rintro ⟨rfl,e⟩
  rcases k.ok with ⟨k1,k2⟩ | ⟨l',SE,e',nb,_⟩ | e'
  ·exact k1 (h.vI hb)
  ·rw [show l' =l by omega] at nb; exact nb hb
  ·omega)
 have kh:∀ l,(g.put i p v).c (-1) (4+l)=g.c (-1) (4+l):=fun l=>g.c.mM _ (by omega)
 have km:∀ j l,g.born 0 j→0≤l→(Mk ((g.put i p v).c j (4+l))↔Mk (g.c j (4+l))):=fun j l hb h0=>by
  show Mk (g.c.set i p v j (4+l))↔_
  unfold Vw.set
  split
  ·rename_i e
   obtain ⟨rfl,e⟩:=e
   rcases k.ok with ⟨k1,k2⟩ | ⟨l',SE,e',nb,n1,n2⟩ | e'
   ·exact absurd hb k1
   ·rw [e]; exact ⟨fun k'=>absurd k' n2,fun k'=>absurd k' n1⟩
   ·omega
  ·exact Iff.rfl
 refine ⟨h.rf,fun i' q=>?_,fun l' h0 h1=>(h.pX l' h0 h1).same fun q hq=>?_,fun l' h0 h1 k'=>h.hd l' h0 h1 (by rwa [kh] at k'),fun l' h0 h1=>?_,h.dM,fun l' i' hb=>by rw [kc _ _ (h.vI hb) (by omega)]; exact h.bo l' i' hb,h.dn,fun i' hi=>by rw [kl _ _ hi (by omega)]; exact h.hi i' hi,fun l' i' hb hk=>h.on l' i' hb fun k'=>hk (by rw [kw _ _ (h.bo _ _ hb).2.2.1 hb]; exact k'),fun l1 l2 i' hb h0 h1 h2 hk=>?_,fun a b ha hb hk=>h.xK a b ha hb (by rwa [kl _ _ ha (by omega),kl _ _ hb (by omega)] at hk)⟩
 ·show U (g.c.set i p v i' q)
  unfold Vw.set
  split
  ·exact k.u
  ·exact h.u i' q
 ·rcases hq with rfl | hq
  ·rw [kh]
  ·rw [kw _ _ h0 (h.dM _ _ h0 h1 hq)]
 ·refine List.Pairwise.imp_of_mem (fun {a b} ha hb pd=>?_) (h.ml l' h0 h1)
  rw [kc _ _ (h.SA h0 h1 ha) (by omega),kc _ _ (h.SA h0 h1 hb) (by omega)]; exact pd
 ·rw [kc _ _ hb (by omega)] at h2
  exact (km _ _ hb (by omega)).2 (h.up l1 l2 i' hb h0 h1 h2 ((km _ _ hb h0).1 hk))
theorem eo.put (h:bh t g) (k:Ce t g i p v) (hi:¬ own i∨p=3∧g.born 0 i):eo t own kn g (g.put i p v):=by
 refine ⟨fun _ _=>rfl,fun _ _ h=>h,fun _ _ _ h=>h,fun j q _ hl hq=>g.c.pW _ ?_,fun l' j _ hb h0 hk=>g.c.pW _ ?_,fun l' j _ _ _ _ _ hj=>hj,fun _ _ _ h=>h,fun _ _ _ h k=>absurd h k,fun _ _ _ h=>h,fun _ _ _ _ _ h=>h,fun j q dI hb=>g.c.mM _ ?_,fun l' j dI hb ig h0=>.inl (g.c.pW _ ?_),fun _ _=>Iff.rfl⟩
 ·rintro ⟨rfl,rfl⟩
  rcases k.ok with ⟨k1,k2⟩ | ⟨l,h0,e,_⟩ | e
  ·have:=k2 hl; omega
  ·omega
  ·omega
 ·rintro ⟨rfl,e⟩
  rcases k.ok with ⟨k1,k2⟩ | ⟨l,SE,e',_,n1,_⟩ | e'
  ·exact k1 hb
  ·rw [e] at hk; exact n1 hk
  ·omega
 ·rintro rfl
  rcases hi with hi | ⟨_,hi⟩
  ·exact hi dI
  ·exact hb hi
 ·rintro ⟨rfl,e⟩
  rcases hi with hi | ⟨hi,_⟩
  ·exact hi dI
  ·omega
theorem bh.lay (h:bh t g) (h0:0≤i∧i<t.size) (h1:1≤g.c i 2∧g.c i 2≤t.ay) (hu:∀ j,g.ld j→g.c j 0≠g.c i 0):bh t (g.lay i):=by
 refine ⟨h.rf,h.u,h.pX,h.hd,h.ml,h.dM,fun l' i' hb=>?_,h.dn,fun i' hi=>?_,h.on,h.up,fun a b ha hb hk=>?_⟩
 ·obtain ⟨a1,a2,a3,a4,a5,a6⟩:=h.bo l' i' hb
  exact ⟨a1,a2,a3,a4,.inl a5,a6⟩
 ·rcases hi with hi | rfl
  ·exact h.hi i' hi
  ·exact ⟨h0.1,h0.2,h1⟩
 ·rcases ha with ha | rfl
  ·rcases hb with hb | rfl
   ·exact h.xK a b ha hb hk
   ·exact absurd hk (hu a ha)
  ·rcases hb with hb | rfl
   ·exact absurd hk.symm (hu b hb)
   ·rfl
theorem bh.sB (h:bh t g):bh t (g.sB i):=⟨h.rf,h.u,h.pX,h.hd,h.ml,h.dM,h.bo,h.dn,h.hi,h.on,h.up,h.xK⟩
theorem eo.sB (hi:¬ own i) (hg:Mk (g.c i 4)→∀ l,0≤l→l<t.ay→i∉g.C l):eo t own kn g (g.sB i) :=
 ⟨fun _ _=>rfl,fun _ _ h=>h,fun _ _ _ h=>h,fun _ _ _ _ _=>rfl,fun _ _ _ _ _ _=>rfl,fun _ _ _ _ _ _ _ h=>h,fun _ _ _ h k=>h k.1,fun j _ _ h k hm l h0 h1=>by
  have:j=i:=Classical.byContradiction fun e=>k ⟨h,e⟩
  subst this
  exact hg hm l h0 h1,fun _ _ _ h=>h,fun _ _ _ _ _ h=>h,fun _ _ _ _=>rfl,fun _ _ _ _ _ _=>.inl rfl,fun j hj=>⟨fun k=>k.1,fun k=>⟨k,fun e=>hi (e▸hj)⟩⟩⟩
end
def kf (c:Vw) (p:Int):Int:=if p= -1 then -1 else c p 0
def vJ (t:TW) (g:Sh) (kn:Int→Prop):Prop:=∀ l j,0≤l→l<t.ay→j∈g.C l→kn j
def jJ (g:Sh) (kn:Int→Prop) (key l p known:Int):Prop:=(p= -1∧known=0)∨(g.born l p∧kn p∧g.c p 0<key∧known=g.rf p)
def uq (t:TW) (g:Sh) (kn:Int→Prop) (l w:Int):Prop:=∃ j,w=g.rf j∧g.born l j∧kn j∧aH t.size w=j
def ur (t:TW) (g:Sh) (kn:Int→Prop) (key l:Int) (sp:dZ):Prop:=jJ g kn key l sp.pred sp.known∧(sp.cur=0∨uq t g kn l sp.cur∧key≤g.c (aH t.size sp.cur) 0)
structure iC (t:TW) (g:Sh) (kn:Int→Prop) (f:au):Prop where
 snd:t.sound
 aQ:0≤f.l∧f.l<t.ay
 len:f.told.length=t.ay.toNat
 line:f.line=1∨f.line=2∨f.line=3∨f.line=4∨f.line=9
 pred:f.line≠9→jJ g kn f.key f.l f.at_.pred f.at_.known
 cur:f.line=2∨f.line=3∨f.line=4→uq t g kn f.l f.at_.cur∧kf g.c f.at_.pred<g.c (aH t.size f.at_.cur) 0
 w3:f.line=3→g.c (aH t.size f.at_.cur) (4+f.l)=f.w∧Mk f.w
 w4:f.line=4→f.w=0∨uq t g kn f.l f.w∧g.c (aH t.size f.at_.cur) 0<g.c (aH t.size f.w) 0
 told:∀ l,(f.line=9∨f.l<l)→0≤l→l<t.ay→ur t g kn f.key l (f.spot l)
structure qU (t:TW) (g:Sh) (i:Int) (f:au):Prop where
 key:g.c i 0=f.key
 bo:g.born 0 i
 je:∀ l,0≤l→l<g.c i 2→Mk (g.c i (4+l))
 up:∀ l,(f.line=9∨f.l<l)→0≤l→l<t.ay→i∉g.C l
 s23:f.line=2∨f.line=3∨f.line=4→i∈g.C f.l→g.c (aH t.size f.at_.cur) 0≤g.c i 0
 s4:f.line=4→i∈g.C f.l→g.c i 0≤g.c (aH t.size f.at_.cur) 0∨(0≤aH t.size f.w∧g.c (aH t.size f.w) 0≤g.c i 0)
 n4:f.line=4→i∈g.C f.l→aH t.size f.at_.cur≠i
section
variable {t:TW} {own kn:Int→Prop} {g g':Sh} {l p i j v key known w:Int} {A B:List Int} {f:au} {s:MS} {sp:dZ}
theorem SF (h:t.sound):aH t.size 0= -1:=by
 have:=h.2.2.1
 unfold aH; rw [if_neg (by omega)]; omega
theorem jJ.gh (h:bh t g) (r:eo t own kn g g') (k:jJ g kn key l p known):jJ g' kn key l p known:=by
 rcases k with k | ⟨k1,k2,k3,k4⟩
 ·exact .inl k
 ·refine .inr ⟨r.born _ _ k2 k1,k2,?_,k4.trans (r.rf _ k2).symm⟩
  rw [r.fix _ 0 k2 (h.bo _ _ k1).2.2.2.2.1 (.inl rfl)]; exact k3
theorem uq.gh (r:eo t own kn g g') (k:uq t g kn l w):uq t g' kn l w:=by
 obtain ⟨j,k1,k2,k3,k4⟩:=k
 exact ⟨j,k1.trans (r.rf _ k3).symm,r.born _ _ k3 k2,k3,k4⟩
theorem uq.kk (h:bh t g) (r:eo t own kn g g') (k:uq t g kn l w):g'.c (aH t.size w) 0=g.c (aH t.size w) 0:=by
 obtain ⟨j,k1,k2,k3,k4⟩:=k
 rw [k4]
 exact r.fix _ 0 k3 (h.bo _ _ k2).2.2.2.2.1 (.inl rfl)
theorem jJ.kk (h:bh t g) (r:eo t own kn g g') (k:jJ g kn key l p known):kf g'.c p=kf g.c p:=by
 rcases k with ⟨rfl,_⟩ | ⟨k1,k2,_⟩
 ·rfl
 ·have:=(h.bo _ _ k1)
  unfold kf
  rw [if_neg (by omega),if_neg (by omega)]
  exact r.fix _ 0 k2 this.2.2.2.2.1 (.inl rfl)
theorem ur.gh (h:bh t g) (r:eo t own kn g g') (k:ur t g kn key l sp):ur t g' kn key l sp:=by
 refine ⟨k.1.gh h r,k.2.imp id fun ⟨k1,k2⟩=>⟨k1.gh r,?_⟩⟩
 rw [k1.kk h r]; exact k2
theorem iC.gh (h:bh t g) (r:eo t own kn g g') (k:iC t g kn f):iC t g' kn f:=by
 refine ⟨k.snd,k.aQ,k.len,k.line,fun e=>(k.pred e).gh h r,fun e=>?_,fun e=>?_,fun e=>?_,fun l e h0 h1=>(k.told l e h0 h1).gh h r⟩
 ·obtain ⟨k1,k2⟩:=k.cur e
  refine ⟨k1.gh r,?_⟩
  rw [k1.kk h r,(k.pred (by omega)).kk h r]; exact k2
 ·obtain ⟨k1,k2⟩:=k.w3 e
  obtain ⟨j,c1,c2,c3,c4⟩:=(k.cur (.inr (.inl e))).1
  refine ⟨?_,k2⟩
  rw [c4] at k1 ⊢
  rw [r.mark _ _ c3 (h.vI c2) k.aQ.1 (by rw [k1]; exact k2)]
  exact k1
 ·rcases k.w4 e with k1 | ⟨k1,k2⟩
  ·exact .inl k1
  ·refine .inr ⟨k1.gh r,?_⟩
   rw [k1.kk h r,(k.cur (.inr (.inr e))).1.kk h r]; exact k2
theorem qU.gh (h:bh t g) (r:eo t own kn g g') (hk:kn i) (hb:own i∨¬ g.bz i) (kF:iC t g kn f) (k:qU t g i f):qU t g' i f:=by
 have ld:=(h.bo _ _ k.bo).2.2.2.2.1
 have k0:g'.c i 0=g.c i 0:=r.fix i 0 hk ld (.inl rfl)
 have k2:g'.c i 2=g.c i 2:=r.fix i 2 hk ld (.inr (.inr rfl))
 have bk:∀ l,0≤l→l<t.ay→i∈g'.C l→i∈g.C l:=fun l h0 h1 hi=>hb.elim (fun o=>r.Sz l i o h0 h1 hi) fun z=>r.back l i hk k.bo z h0 h1 hi
 obtain ⟨l0,l1⟩:=kF.aQ
 refine ⟨k0.trans k.key,r.born _ _ hk k.bo,fun l h0 h1=>?_,fun l e h0 h1 hi=>k.up l e h0 h1 (bk l h0 h1 hi),fun e hi=>?_,fun e hi=>?_,fun e hi=>k.n4 e (bk _ l0 l1 hi)⟩
 ·rw [k2] at h1
  rw [r.mark l i hk k.bo h0 (k.je l h0 h1)]
  exact k.je l h0 h1
 ·rw [(kF.cur e).1.kk h r,k0]; exact k.s23 e (bk _ l0 l1 hi)
 ·rw [(kF.cur (.inr (.inr e))).1.kk h r,k0]
  refine (k.s4 e (bk _ l0 l1 hi)).imp id fun ⟨q1,q2⟩=>⟨q1,?_⟩
  rcases kF.w4 e with e0 | ⟨c1,_⟩
  ·rw [e0,SF] at q1
   ·omega
   ·exact kF.snd
  ·rw [c1.kk h r]; exact q2
end
structure nI (t:TW) (g:Sh) (kn:Int→Prop) (f:au):Prop where
 snd:t.sound
 aQ:0≤f.l∧f.l<t.ay
 len:f.told.length=t.ay.toNat
 pred:jJ g kn f.key f.l f.at_.pred f.at_.known
 told:∀ l,f.l<l→0≤l→l<t.ay→ur t g kn f.key l (f.spot l)
structure sC (t:TW) (g:Sh) (i:Int) (f:au):Prop where
 key:g.c i 0=f.key
 bo:g.born 0 i
 je:∀ l,0≤l→l<g.c i 2→Mk (g.c i (4+l))
 up:∀ l,f.l<l→0≤l→l<t.ay→i∉g.C l
def Kg (t:TW) (g:Sh) (kn:Int→Prop) (l p w:Int):Prop:=w=0∨uq t g kn l w∧kf g.c p<g.c (aH t.size w) 0
def SG (t:TW) (g:Sh) (l i w:Int):Prop:=i∈g.C l→0≤aH t.size w∧g.c (aH t.size w) 0≤g.c i 0
section
variable {t:TW} {own kn:Int→Prop} {g g':Sh} {l p i j v key known w:Int} {A B:List Int} {f:au} {s:MS} {sp:dZ}
theorem SH (f:au) (a:dZ) (n:Nat) (l:Int) (hl:f.l.toNat<f.told.length) (h0:0≤l) (h1:0≤f.l):({ f with told:=f.told.set f.l.toNat a }:au).spot l=if l=f.l then a else f.spot l:=by
 unfold au.spot
 simp only [List.getElem?_set]
 by_cases e:l=f.l
 ·rw [if_pos e,if_pos (by omega),if_pos hl]; rfl
 ·rw [if_neg e,if_neg (by omega)]
theorem jJ.dn (h:bh t g) (k:jJ g kn key l p known) {l':Int} (h0:0≤l') (h1:l' ≤l):jJ g kn key l' p known:=k.imp id fun ⟨a,b⟩=>⟨h.dn _ _ _ a h0 h1,b⟩
theorem nI.tell (h:bh t g) (k:nI t g kn f) (ht:ur t g kn f.key f.l f.at_):iC t g kn f.tell:=by
 obtain ⟨l0,l1⟩:=k.aQ
 have hl:f.l.toNat<f.told.length:=by rw [k.len]; omega
 have sp:∀ l,0≤l→({ f with told:=f.told.set f.l.toNat f.at_ }:au).spot l=if l=f.l then f.at_ else f.spot l:=fun l h0=>SH f f.at_ 0 l hl h0 l0
 have td:∀ l,f.l≤l→0≤l→l<t.ay→ur t g kn f.key l (({ f with told:=f.told.set f.l.toNat f.at_ }:au).spot l):=fun l h0 h1 h2=>by
  rw [sp l h1]
  by_cases e:l=f.l
  ·rw [if_pos e,e]; exact ht
  ·rw [if_neg e]; exact k.told l (by omega) h1 h2
 unfold au.tell
 by_cases c:f.l<1
 ·rw [if_pos c]
  exact ⟨k.snd,k.aQ,by simpa using k.len,by simp,by simp,by simp,by simp,by simp,fun l _ h0 h1=>td l (by omega) h0 h1⟩
 ·rw [if_neg c]
  refine ⟨k.snd,by simp only; omega,by simpa using k.len,by simp,fun _=>k.pred.dn h (by simp only; omega) (by simp only; omega),by simp,by simp,by simp,fun l e h0 h1=>td l ?_ h0 h1⟩
  simp only at e; omega
theorem sC.tell (k:sC t g i f) (hl:0≤f.l∧f.l<t.ay) (hi:i∉g.C f.l):qU t g i f.tell:=by
 have up:∀ l,f.l≤l→0≤l→l<t.ay→i∉g.C l:=fun l h0 h1 h2=>by
  by_cases e:l=f.l
  ·rw [e]; exact hi
  ·exact k.up l (by omega) h1 h2
 unfold au.tell
 by_cases c:f.l<1
 ·rw [if_pos c]
  exact ⟨k.key,k.bo,k.je,fun l _ h0 h1=>up l (by omega) h0 h1,by simp,by simp,by simp⟩
 ·rw [if_neg c]
  refine ⟨k.key,k.bo,k.je,fun l e h0 h1=>up l ?_ h0 h1,by simp,by simp,by simp⟩
  simp only at e; omega
theorem nI.looks (h:bh t g) (k:nI t g kn f) (hm:Kg t g kn f.l f.at_.pred f.at_.cur):iC t g kn (f.looks t):=by
 unfold au.looks
 rcases hm with e | ⟨c1,c2⟩
 ·rw [if_pos (by rw [e,SF k.snd]; omega)]
  exact nI.tell (f:={ f with line:=2 }) h ⟨k.snd,k.aQ,k.len,k.pred,k.told⟩ ⟨k.pred,.inl e⟩
 ·obtain ⟨j,a1,a2,a3,a4⟩:=c1
  have j0:=(h.bo _ _ a2).1
  rw [if_neg (by rw [a4]; omega)]
  refine ⟨k.snd,k.aQ,k.len,by simp,fun _=>k.pred,fun _=>⟨⟨j,a1,a2,a3,a4⟩,c2⟩,by simp,by simp,fun l e h0 h1=>k.told l ?_ h0 h1⟩
  simp only at e; omega
theorem sC.looks (k:sC t g i f) (hl:0≤f.l∧f.l<t.ay) (hs:SG t g f.l i f.at_.cur):qU t g i (f.looks t):=by
 unfold au.looks
 by_cases c:aH t.size f.at_.cur<0
 ·rw [if_pos c]
  exact sC.tell (f:={ f with line:=2 }) ⟨k.key,k.bo,k.je,k.up⟩ hl fun hi=>by have:=(hs hi).1; omega
 ·rw [if_neg c]
  refine ⟨k.key,k.bo,k.je,fun l e h0 h1=>k.up l ?_ h0 h1,fun _ hi=>(hs hi).2,by simp,by simp⟩
  simp only at e; omega
theorem Cf (hs:t.sound) (hl:f.told.length=t.ay.toNat):iC t g kn (f.anew t):=by
 have:=hs.1
 refine ⟨hs,by simp only [au.anew]; omega,hl,by simp [au.anew],fun _=>.inl ⟨rfl,rfl⟩,by simp [au.anew],by simp [au.anew],by simp [au.anew],fun l e h0 h1=>?_⟩
 simp only [au.anew] at e
 omega
theorem Kh (k1:g.c i 0=f.key) (k2:g.born 0 i) (k3:∀ l,0≤l→l<g.c i 2→Mk (g.c i (4+l))):qU t g i (f.anew t):=by
 refine ⟨k1,k2,k3,fun l e h0 h1=>?_,by simp [au.anew],by simp [au.anew],by simp [au.anew]⟩
 simp only [au.anew] at e
 omega
theorem fB.next (h:bh t g) (hp:fB t g l p):∃ A B,g.C l=A++B∧fP g.c g.rf l (-1) A p∧(∀ a∈A,g.c a 0≤kf g.c p) ∧
  ((g.c p (4+l)=0∧B=[])∨∃ j B',B=j::B' ∧g.c p (4+l)=g.rf j∧kf g.c p<g.c j 0∧(∀ b∈B',g.c j 0<g.c b 0)∧aH t.size (g.rf j)=j∧g.born l j):=by
 obtain ⟨A,B,hC,hP,hB⟩:=hp.split h
 have ml:=h.ml l hp.l0 hp.l1
 rw [hC] at ml
 have q:=List.pairwise_append.1 ml
 have key:∀ b∈B,kf g.c p<g.c b 0:=fun b hb=>by
  rcases hP.end with ⟨rfl,rfl⟩ | ⟨A',rfl⟩
  ·have:=(h.u b 0).1; unfold kf; simp; omega
  ·have Ki:p∈g.C l:=by rw [hC]; simp
   have:=(h.bo _ _ (h.dM l p hp.l0 hp.l1 Ki)).1
   unfold kf
   rw [if_neg (by omega)]
   exact q.2.2 p (by simp) b hb
 refine ⟨A,B,hC,hP,fun a ha=>?_,?_⟩
 ·rcases hP.end with ⟨rfl,rfl⟩ | ⟨A',rfl⟩
  ·simp at ha
  ·have Ki:p∈g.C l:=by rw [hC]; simp
   have:=(h.bo _ _ (h.dM l p hp.l0 hp.l1 Ki)).1
   unfold kf
   rw [if_neg (by omega)]
   rcases List.mem_append.1 ha with ha | ha
   ·exact Int.le_of_lt ((List.pairwise_append.1 q.1).2.2 a ha p (by simp))
   ·simp at ha; rw [ha]; exact Int.le_refl _
 ·cases B with
  | nil =>
   have:Lift.um (g.c p (4+l))=0:=hB
   rw [sy (h.u _ _) hp.um] at this
   exact .inl ⟨this,rfl⟩
  | cons j B' =>
   have e:Lift.um (g.c p (4+l))=g.rf j:=hB.1
   rw [sy (h.u _ _) hp.um] at e
   have bj:g.born l j:=h.dM l j hp.l0 hp.l1 (by rw [hC]; simp)
   have b:=h.bo _ _ bj
   exact .inr ⟨j,B',rfl,e,key j (by simp),(List.pairwise_cons.1 q.2.1).1,(h.rf j b.1 b.2.1).1,bj⟩
theorem fB.met (h:bh t g) (hk:vJ t g kn) (hp:fB t g l p):Kg t g kn l p (g.c p (4+l)):=by
 obtain ⟨A,B,hC,hP,hA,hB⟩:=hp.next h
 rcases hB with ⟨e,_⟩ | ⟨j,B',rfl,e,k1,k2,k3,k4⟩
 ·exact .inl e
 ·refine .inr ⟨⟨j,e,k4,hk l j hp.l0 hp.l1 (by rw [hC]; simp),by rw [e]; exact k3⟩,by rw [e,k3]; exact k1⟩
theorem fB.Kj (h:bh t g) (hp:fB t g l p) (hi:kf g.c p<g.c i 0):SG t g l i (g.c p (4+l)):=by
 intro hm
 obtain ⟨A,B,hC,hP,hA,hB⟩:=hp.next h
 rw [hC] at hm
 rcases List.mem_append.1 hm with hm | hm
 ·have:=hA i hm; omega
 ·rcases hB with ⟨e,rfl⟩ | ⟨j,B',rfl,e,k1,k2,k3,k4⟩
  ·simp at hm
  ·have j0:=(h.bo _ _ k4).1
   rw [e,k3]
   rcases List.mem_cons.1 hm with rfl | hm
   ·exact ⟨j0,Int.le_refl _⟩
   ·exact ⟨j0,Int.le_of_lt (k2 i hm)⟩
theorem jJ.xM (k:jJ g kn key l p known) (h0:0≤l) (h1:l<t.ay) (hu:¬ Mk (g.c p (4+l))):fB t g l p:=⟨h0,h1,k.imp And.left And.left,hu⟩
theorem jJ.lt (h:bh t g) (k:jJ g kn key l p known) (h0:0≤key):kf g.c p<key:=by
 rcases k with ⟨rfl,_⟩ | ⟨k1,_,k2,_⟩
 ·unfold kf; simp; omega
 ·have:=(h.bo _ _ k1).1
  unfold kf; rw [if_neg (by omega)]; exact k2
theorem jJ.dg (h:bh t g) (k:jJ g kn key l p known) (h0:0≤l) (h1:l<t.ay):dg t p (4+l):=by
 rcases k with ⟨rfl,_⟩ | ⟨k1,_⟩
 ·exact oS h0 h1 (.inl rfl)
 ·have:=h.bo _ _ k1
  exact oS h0 h1 (.inr ⟨this.1,this.2.1⟩)
inductive nJ (t:TW) (g:Sh):Sh→Prop
 | none:nJ t g g
 | un {l p j:Int} {A B:List Int}:fB t g l p→g.C l=A++j::B→fP g.c g.rf l (-1) A p→Mk (g.c j (4+l))→nJ t g (g.unlink l p j (A++B))
theorem nJ.inv (h:bh t g) (a:nJ t g g'):bh t g':=by
 cases a with
 | none=>exact h
 | un hp hC hP hj=>exact h.unlink hp hC hP hj
theorem nJ.gh (ho:∀ i,own i→0≤i) (h:bh t g) (a:nJ t g g'):eo t own kn g g':=by
 cases a with
 | none=>exact eo.refl _ _ _ _
 | un hp hC hP hj=>exact eo.unlink ho h hp hC
theorem nJ.sub (a:nJ t g g'):∀ l i,i∈g'.C l→i∈g.C l:=by
 cases a with
 | none=>exact fun _ _ h=>h
 | @un l p j A B hp hC hP hj =>
  intro l' i hi
  unfold Sh.unlink hZ at hi
  simp only at hi
  split at hi
  ·rename_i e; rw [e,hC]; simp at hi ⊢; exact hi.elim .inl fun k=>.inr (.inr k)
  ·exact hi
theorem nJ.lo (a:nJ t g g'):∀ i p,p≤3→g'.c i p=g.c i p:=by
 cases a with
 | none=>exact fun _ _ _=>rfl
 | un hp hC hP hj=>exact fun i p eG=>g.c.dC _ (by have:=hp.l0; omega)
end
section
variable {t:TW} {own kn:Int→Prop} {g g':Sh} {l p i j v key known w:Int} {A B:List Int} {f:au} {s:MS} {sp:dZ}
theorem iC.pre (k:iC t g kn f) (h9:f.line≠9):nI t g kn f:=⟨k.snd,k.aQ,k.len,k.pred h9,fun l e h0 h1=>k.told l (.inr e) h0 h1⟩
theorem qU.pre (k:qU t g i f):sC t g i f:=⟨k.key,k.bo,k.je,fun l e h0 h1=>k.up l (.inr e) h0 h1⟩
def Sh.fs (t:TW) (g:Sh) (f:au):Sh:=open Classical in if f.line=3∧g.c f.at_.pred (4+f.l)=f.at_.cur then g.unlink f.l f.at_.pred (aH t.size f.at_.cur) ((g.C f.l).erase (aH t.size f.at_.cur)) else g
theorem pY (h:f.line≠3∨g.c f.at_.pred (4+f.l)≠f.at_.cur):g.fs t f=g:=by
 unfold Sh.fs
 rw [if_neg]
 rintro ⟨a,b⟩
 exact h.elim (fun k=>k a) fun k=>k b
theorem SI (h:bh t g) (h3:f.line=3) (hc:g.c f.at_.pred (4+f.l)=f.at_.cur) (hi:aH t.size f.at_.cur=j) (l0:0≤f.l) (l1:f.l<t.ay) (hC:g.C f.l=A++j::B):g.fs t f=g.unlink f.l f.at_.pred j (A++B):=by
 unfold Sh.fs
 rw [if_pos ⟨h3,hc⟩,hi,hC]
 have hn:=(List.nodup_cons.1 (h.nodup l0 l1)).2
 rw [hC] at hn
 have:j∉A:=fun hj=>by
  have:=(List.nodup_append.1 hn).2.2 j hj j (by simp)
  exact this rfl
 rw [List.erase_append_right _ this,List.erase_cons_head]
theorem Kk (L:hY t s.W.length) (h:bh t g) (hv:g.c=vw t s) (hk:vJ t g kn) (k:iC t g kn f) (qV:0≤f.key) :
  nJ t g (g.fs t f)∧(g.fs t f).c=vw t (f.step t s).2∧iC t (g.fs t f) kn (f.step t s).1∧(∀ i,kn i→qU t g i f→qU t (g.fs t f) i (f.step t s).1)∧(f.step t s).1.key=f.key:=by
 obtain ⟨l0,l1⟩:=k.aQ
 have hs:=k.snd
 rcases k.line with e | e | e | e | e
 ·-- the word behind the pred
  rw [pY (.inl (by omega))]
  have hp:=k.pred (by omega)
  have hP:=hp.dg h l0 l1
  have hn:aX t f.at_.pred f.l=aB t f.at_.pred (4+f.l):=jI hs l0 l1 _
  obtain ⟨e1,e2⟩:=nH L hP
  rw [← hv] at e1 e2
  have ax:f.step t s=if Mk (g.c f.at_.pred (4+f.l)) then (({ f with by_:=f.at_.known,at_:={ f.at_ with cur:=g.c f.at_.pred (4+f.l) } }:au).anew t,s.load (aB t f.at_.pred (4+f.l))) else (({ f with by_:=f.at_.known,at_:={ f.at_ with cur:=g.c f.at_.pred (4+f.l) } }:au).looks t,s.load (aB t f.at_.pred (4+f.l))):=by
   unfold au.step
   simp only [e,hn,e1]
   rfl
  by_cases c:Mk (g.c f.at_.pred (4+f.l))
  ·rw [ax,if_pos c]
   exact ⟨.none,e2.symm,Cf hs k.len,fun i _ q=>Kh q.key q.bo q.je,rfl⟩
  ·rw [ax,if_neg c]
   have P:=hp.xM l0 l1 c
   have aJ:=hp.lt h qV
   refine ⟨.none,e2.symm,nI.looks (f:={ f with by_:=f.at_.known,at_:={ f.at_ with cur:=g.c f.at_.pred (4+f.l) } }) h ⟨k.snd,k.aQ,k.len,hp,(k.pre (by omega)).told⟩ (P.met h hk),fun i _ q=>sC.looks (f:={ f with by_:=f.at_.known,at_:={ f.at_ with cur:=g.c f.at_.pred (4+f.l) } }) ⟨q.key,q.bo,q.je,q.pre.up⟩ k.aQ (P.Kj h (by rw [q.key]; exact aJ)),?_⟩
   unfold au.looks au.tell
   split<;>(try split)<;>rfl
 ·-- the word behind what it looks at
  rw [pY (.inl (by omega))]
  obtain ⟨⟨j,a1,a2,a3,a4⟩,a5⟩:=k.cur (.inl e)
  have b:=h.bo _ _ a2
  have hP:dg t (aH t.size f.at_.cur) (4+f.l):=by rw [a4]; exact oS l0 l1 (.inr ⟨b.1,b.2.1⟩)
  have hn:aX t (aH t.size f.at_.cur) f.l=aB t (aH t.size f.at_.cur) (4+f.l):=jI hs l0 l1 _
  obtain ⟨e1,e2⟩:=nH L hP
  rw [← hv] at e1 e2
  have ax:f.step t s=({ f with by_:=f.at_.cur,w:=g.c (aH t.size f.at_.cur) (4+f.l),line:=if Mk (g.c (aH t.size f.at_.cur) (4+f.l)) then 3 else 4 },s.load (aB t (aH t.size f.at_.cur) (4+f.l))):=by
   unfold au.step
   simp only [e,hn,e1]
   rfl
  rw [ax]
  refine ⟨.none,e2.symm,?_,fun i xN q=>?_,rfl⟩
  ·by_cases c:Mk (g.c (aH t.size f.at_.cur) (4+f.l))
   ·simp only [if_pos c]
    exact ⟨k.snd,k.aQ,k.len,by simp,fun _=>k.pred (by omega),fun _=>k.cur (.inl e),fun _=>⟨rfl,c⟩,by simp,fun l q h0 h1=>k.told l (.inr (by simpa using q)) h0 h1⟩
   ·simp only [if_neg c]
    refine ⟨k.snd,k.aQ,k.len,by simp,fun _=>k.pred (by omega),fun _=>k.cur (.inl e),by simp,fun _=>?_,fun l q h0 h1=>k.told l (.inr (by simpa using q)) h0 h1⟩
    rw [a4] at c ⊢
    have P:fB t g f.l j:=⟨l0,l1,.inr a2,c⟩
    have:=P.met h hk
    unfold Kg at this
    rw [show kf g.c j=g.c j 0 by unfold kf; rw [if_neg (by omega)]] at this
    exact this
  ·by_cases c:Mk (g.c (aH t.size f.at_.cur) (4+f.l))
   ·simp only [if_pos c]
    exact ⟨q.key,q.bo,q.je,fun l z h0 h1=>q.up l (.inr (by simpa using z)) h0 h1,fun _=>q.s23 (.inl e),by simp,by simp⟩
   ·simp only [if_neg c]
    refine ⟨q.key,q.bo,q.je,fun l z h0 h1=>q.up l (.inr (by simpa using z)) h0 h1,fun _=>q.s23 (.inl e),fun _ hi=>?_,fun _ _=>?_⟩
    ·rw [a4] at c ⊢
     have P:fB t g f.l j:=⟨l0,l1,.inr a2,c⟩
     have:=P.Kj h (i:=i)
     rw [show kf g.c j=g.c j 0 by unfold kf; rw [if_neg (by omega)]] at this
     by_cases hc:g.c j 0<g.c i 0
     ·exact .inr (this hc hi)
     ·exact .inl (by omega)
    ·rw [a4] at c ⊢
     rintro rfl
     exact c (q.je _ l0 b.2.2.2.2.2)
 ·-- it is taken out
  obtain ⟨⟨j,a1,a2,a3,a4⟩,a5⟩:=k.cur (.inr (.inl e))
  obtain ⟨w1,w2⟩:=k.w3 e
  have hp:=k.pred (by omega)
  have hP:=hp.dg h l0 l1
  have hn:aX t f.at_.pred f.l=aB t f.at_.pred (4+f.l):=jI hs l0 l1 _
  have b:=h.bo _ _ a2
  by_cases c:g.c f.at_.pred (4+f.l)=f.at_.cur
  ·obtain ⟨e1,e2⟩:=xH L hP (x:=f.at_.cur) (f.w - bp) (by rw [← hv]; exact c)
   rw [← hv] at e2
   have ax:f.step t s=(({ f with by_:=f.at_.known,at_:={ f.at_ with cur:=f.w - bp } }:au).looks t,s.bT (aB t f.at_.pred (4+f.l)) f.at_.cur (f.w - bp)):=by
    unfold au.step
    simp [e,hn,e1]
   have r:=h.rf j b.1 b.2.1
   have hu:¬ Mk (g.c f.at_.pred (4+f.l)):=by rw [c,a1]; exact Int.not_le.2 r.2.2
   have P:=hp.xM l0 l1 hu
   obtain ⟨A,B,hC,oT,hA,hB⟩:=P.next h
   rw [c,a1] at hB
   obtain ⟨B',rfl⟩:∃ B',B=j::B':=by
    rcases hB with ⟨e0,_⟩ | ⟨j',B',rfl,e0,-,-,k3,k4⟩
    ·omega
    ·have:j' =j:=by rw [← k3,← e0,r.1]
     exact ⟨B',by rw [this]⟩
   have hj:Mk (g.c j (4+f.l)):=by rw [a4] at w1; rw [w1]; exact w2
   have act:nJ t g (g.unlink f.l f.at_.pred j (A++B')):=.un P hC oT hj
   have hw:f.w - bp=um (g.c j (4+f.l)):=by rw [a4] at w1; rw [w1,Sw (w1▸h.u _ _) w2]
   have rl:eo t (fun _=>False) kn g (g.unlink f.l f.at_.pred j (A++B')):=act.gh (fun _ h=>h.elim) h
   have h':=act.inv h
   have k':=k.gh h rl
   have eG:=k'.pred (by omega)
   have EZ:=Kb (g.c j (4+f.l))
   have zI:(g.unlink f.l f.at_.pred j (A++B')).c f.at_.pred (4+f.l)=f.w - bp:=by rw [hw]; exact Vw.vH _ _ _ _
   have P':=eG.xM l0 l1 (by rw [zI,hw]; unfold Mk; omega)
   have me:vJ t (g.unlink f.l f.at_.pred j (A++B')) kn:=fun l x h0 h1 hx=>hk l x h0 h1 (act.sub l x hx)
   have aJ:=eG.lt h' qV
   rw [ax,SI h e c a4 l0 l1 hC]
   refine ⟨act,?_,nI.looks (f:={ f with by_:=f.at_.known,at_:={ f.at_ with cur:=f.w - bp } }) h' ⟨k.snd,k.aQ,k.len,eG,(k'.pre (by omega)).told⟩ (by have:=P'.met h' me; rw [zI] at this; exact this),fun i xN q=>sC.looks (f:={ f with by_:=f.at_.known,at_:={ f.at_ with cur:=f.w - bp } }) ?_ k.aQ ?_,?_⟩
   ·rw [e2,hw]; rfl
   ·have kz:∀ x,(g.unlink f.l f.at_.pred j (A++B')).c i x=g.c i x∨x=4+f.l:=fun x=>by
     by_cases e:x=4+f.l
     ·exact .inr e
     ·exact .inl (g.c.dC _ e)
    refine ⟨?_,q.bo,fun l h0 h1=>?_,fun l z h0 h1 hi=>q.up l (.inr z) h0 h1 (act.sub l i hi)⟩
    ·rw [rl.fix i 0 xN (h.bo _ _ q.bo).2.2.2.2.1 (.inl rfl)]; exact q.key
    ·rw [rl.fix i 2 xN (h.bo _ _ q.bo).2.2.2.2.1 (.inr (.inr rfl))] at h1
     rw [rl.mark l i xN q.bo h0 (q.je l h0 h1)]
     exact q.je l h0 h1
   ·have ki:(g.unlink f.l f.at_.pred j (A++B')).c i 0=f.key:=by rw [rl.fix i 0 xN (h.bo _ _ q.bo).2.2.2.2.1 (.inl rfl)]; exact q.key
    have:=P'.Kj h' (i:=i) (by rw [ki]; exact aJ)
    rw [zI] at this
    exact this
   ·unfold au.looks au.tell
    split<;>(try split)<;>rfl
  ·obtain ⟨e1,e2⟩:=xI L hP (x:=f.at_.cur) (f.w - bp) (by rw [← hv]; exact c)
   rw [← hv] at e2
   have ax:f.step t s=(({ f with by_:=f.at_.known }:au).anew t,s.bT (aB t f.at_.pred (4+f.l)) f.at_.cur (f.w - bp)):=by
    unfold au.step
    simp [e,hn,e1]
   rw [ax,pY (.inr c)]
   exact ⟨.none,e2.symm,Cf hs k.len,fun i _ q=>Kh q.key q.bo q.je,rfl⟩
 ·-- its key
  rw [pY (.inl (by omega))]
  obtain ⟨⟨j,a1,a2,a3,a4⟩,a5⟩:=k.cur (.inr (.inr e))
  have b:=h.bo _ _ a2
  have hh:=hs.1
  have hP:dg t (aH t.size f.at_.cur) 0:=by rw [a4]; exact .inr ⟨b.1,b.2.1,by omega,by omega⟩
  obtain ⟨e1,e2⟩:=nH L hP
  rw [← hv] at e1 e2
  have ax:f.step t s=if f.key≤g.c (aH t.size f.at_.cur) 0 then (({ f with by_:=f.at_.cur }:au).tell,s.load (aB t (aH t.size f.at_.cur) 0)) else (({ f with by_:=f.at_.cur,at_:=⟨aH t.size f.at_.cur,f.at_.cur,f.w⟩ }:au).looks t,s.load (aB t (aH t.size f.at_.cur) 0)):=by
   unfold au.step
   simp only [e,e1]
   rfl
  have hp:=k.pred (by omega)
  by_cases c:f.key≤g.c (aH t.size f.at_.cur) 0
  ·rw [ax,if_pos c]
   refine ⟨.none,e2.symm,nI.tell (f:={ f with by_:=f.at_.cur }) h ⟨k.snd,k.aQ,k.len,hp,(k.pre (by omega)).told⟩ ⟨hp,.inr ⟨⟨j,a1,a2,a3,a4⟩,c⟩⟩,fun i xN q=>sC.tell (f:={ f with by_:=f.at_.cur }) ⟨q.key,q.bo,q.je,q.pre.up⟩ k.aQ fun hi=>?_,?_⟩
   ·have q1:=q.s23 (.inr (.inr e)) hi
    have q2:=q.key
    have q3:=q.n4 e hi
    rw [a4] at q1 q3 c
    exact q3 (h.xK j i b.2.2.2.2.1 (h.bo _ _ q.bo).2.2.2.2.1 (by omega))
   ·unfold au.tell
    split<;>rfl
  ·rw [ax,if_neg c]
   have Jv:kf g.c (aH t.size f.at_.cur)=g.c (aH t.size f.at_.cur) 0:=by rw [a4]; unfold kf; rw [if_neg (by omega)]
   refine ⟨.none,e2.symm,nI.looks (f:={ f with by_:=f.at_.cur,at_:=⟨aH t.size f.at_.cur,f.at_.cur,f.w⟩ }) h ⟨k.snd,k.aQ,k.len,.inr ⟨by rw [a4]; exact a2,by rw [a4]; exact a3,by simp only; omega,by rw [a4]; exact a1⟩,(k.pre (by omega)).told⟩ ?_,fun i xN q=>sC.looks (f:={ f with by_:=f.at_.cur,at_:=⟨aH t.size f.at_.cur,f.at_.cur,f.w⟩ }) ⟨q.key,q.bo,q.je,q.pre.up⟩ k.aQ fun hi=>?_,?_⟩
   ·exact (k.w4 e).imp id fun ⟨q1,q2⟩=>⟨q1,by rw [Jv]; exact q2⟩
   ·rcases q.s4 e hi with q1 | q1
    ·have:=q.key; omega
    ·exact q1
   ·unfold au.looks au.tell
    split<;>(try split)<;>rfl
 ·rw [pY (.inl (by omega))]
  have ax:f.step t s=(f,s):=by unfold au.step; simp [e]
  rw [ax]
  exact ⟨.none,hv,k,fun _ _ q=>q,rfl⟩
end
structure iD (t:TW) (g:Sh) (own kn:Int→Prop) (x:ak):Prop where
 o:own x.i
 k:kn x.i
 ld:g.ld x.i
 ref:x.ref=g.rf x.i
 key:g.c x.i 0=x.key
 hi:g.c x.i 2=x.hi
 line:x.line=0∨x.line=1∨x.line=2∨x.line=3∨x.line=4∨x.line=5∨x.line=6∨x.line=7∨x.line=8∨x.line=9∨x.line=10∨x.line=11∨x.line=12
 fi:1≤x.line→x.line≤10→iC t g kn x.find∧x.find.key=x.key
 f9:x.line=2∨x.line=3∨x.line=4∨x.line=5∨x.line=6∨x.line=8→x.find.line=9
 low:x.line=1∨x.line=2∨x.line=3→¬ g.born 0 x.i
 aQ:0≤x.level∧x.level≤x.hi∧(x.line=2∨x.line=4∨x.line=5∨x.line=6∨x.line=7∨x.line=8→x.level<x.hi)∧(x.line=3→x.level=0)∧(x.line=4∨x.line=5∨x.line=6∨x.line=7∨x.line=8∨x.line=9→1≤x.level)
 st:x.line=2∨x.line=3→∀ l,0≤l→l<x.hi→(x.line=3∨l<x.level)→g.c x.i (4+l)=(x.find.spot l).cur
 bo:x.line=4∨x.line=5∨x.line=6∨x.line=7∨x.line=8∨x.line=9→∀ l,0≤l→l<x.level→g.born l x.i
 bz:x.line=4∨x.line=5∨x.line=6∨x.line=7∨x.line=8∨x.line=9∨x.line=10→g.bz x.i
 pZ:x.line=4∨x.line=5∨x.line=6∨x.line=7∨x.line=8→¬ g.born x.level x.i
 w5:x.line=5→¬ Mk x.w
 w6:x.line=6→um (g.c x.i (4+x.level))=(x.find.spot x.level).cur
 c10:x.line=10→qU t g x.i x.find
 z11:x.line=11∨x.line=12∨x.line=0→¬ g.bz x.i∧g.born 0 x.i
 g12:x.line=12→∀ l,0≤l→l<t.ay→x.i∉g.C l
 n9:x.line=1∨x.line=7∨x.line=10→x.find.line≠9
inductive Gd (t:TW) (i:Int):Sh→Sh→Prop
 | nil (g:Sh):Gd t i g g
 | step {g g1 g':Sh}:bh t g→(∀ own kn:Int→Prop,(∀ j,own j→0≤j)→¬ own i→eo t own kn g g1)→Gd t i g1 g' →Gd t i g g'
section
variable {t:TW} {own kn:Int→Prop} {g g' g1:Sh} {l p i j v key known w:Int} {A B:List Int} {f:au} {s:MS} {sp:dZ} {x:ak}
theorem Gd.one (h:bh t g) (r:∀ own kn:Int→Prop,(∀ j,own j→0≤j)→¬ own i→eo t own kn g g'):Gd t i g g':=.step h r (.nil _)
theorem Gd.trans (a:Gd t i g g1) (b:Gd t i g1 g'):Gd t i g g':=by
 induction a with
 | nil=>exact b
 | step h r _ ih=>exact .step h r (ih b)
theorem iD.i0 (h:bh t g) (k:iD t g own kn x):0≤x.i∧x.i<t.size∧1≤x.hi∧x.hi≤t.ay:=by
 have:=h.hi _ k.ld
 rw [k.hi] at this; exact this
theorem iD.gh (h:bh t g) (h':bh t g') (r:eo t own kn g g') (k:iD t g own kn x):iD t g' own kn x:=by
 have i0:=k.i0 h
 refine ⟨k.o,k.k,r.ld _ k.k k.ld,k.ref.trans (r.rf _ k.k).symm,(r.fix _ 0 k.k k.ld (.inl rfl)).trans k.key,(r.fix _ 2 k.k k.ld (.inr (.inr rfl))).trans k.hi,k.line,fun e1 e2=>⟨(k.fi e1 e2).1.gh h r,(k.fi e1 e2).2⟩,k.f9,fun e hb=>k.low e (r.Ke _ _ k.o hb),k.aQ,fun e l h0 h1 h2=>?_,fun e l h0 h1=>r.born _ _ k.k (k.bo e l h0 h1),fun e=>(r.Kf _ k.o).2 (k.bz e),fun e hb=>k.pZ e (r.Ke _ _ k.o hb),k.w5,fun e=>?_,fun e=>(k.c10 e).gh h r k.k (.inl k.o) (k.fi (by omega) (by omega)).1,fun e=>⟨fun hz=>(k.z11 e).1 ((r.Kf _ k.o).1 hz),r.born _ _ k.k (k.z11 e).2⟩,fun e l h0 h1 hi=>k.g12 e l h0 h1 (r.Sz _ _ k.o h0 h1 hi),k.n9⟩
 ·rw [r.acN _ _ k.o (k.low (by omega))]; exact k.st e l h0 h1 h2
 ·have b0:g.born 0 x.i:=k.bo (by omega) 0 (by omega) (by have:=k.aQ.2.2.2.2 (by omega); omega)
  rw [← k.w6 e]
  rcases r.acO x.level x.i k.o b0 (k.pZ (by omega)) k.aQ.1 with e1 | ⟨e1,e2⟩
  ·rw [e1]
  ·have u:=h.u x.i (4+x.level)
   rw [e2,acK u.1 (by unfold Mk at e1; omega),sy u e1]
theorem ur.u (h:bh t g) (k:ur t g kn key l sp):U sp.cur∧¬ Mk sp.cur:=by
 rcases k.2 with e | ⟨⟨j,e,b,_⟩,_⟩
 ·rw [e]; exact ⟨⟨by decide,by decide⟩,by decide⟩
 ·have b:=h.bo _ _ b
  have r:=h.rf j b.1 b.2.1
  rw [e]
  exact ⟨⟨by omega,by have:=r.2.2; unfold bp at this; omega⟩,by unfold Mk; omega⟩
theorem iD.lnk (h:bh t g) (k:iD t g own kn x) (lu:0≤x.key) (h9:x.find.line=9) (l0:0≤x.level) (l1:x.level<x.hi) (nb:¬ g.born x.level x.i) (hw:um (g.c x.i (4+x.level))=(x.find.spot x.level).cur)
  (hl:x.line=3∨x.line=6) (hc:g.c (x.find.spot x.level).pred (4+x.level)=(x.find.spot x.level).cur) :
  ∃ A B,Cd t g x.level (x.find.spot x.level).pred x.i A B:=by
 have i0:=k.i0 h
 obtain ⟨fi,fk⟩:=k.fi (by omega) (by omega)
 have T:=fi.told x.level (.inl h9) l0 (by omega)
 rw [fk] at T
 have P:fB t g x.level (x.find.spot x.level).pred:=T.1.xM l0 (by omega) (by rw [hc]; exact (T.u h).2)
 obtain ⟨A,B,hC,hP,hA,hB⟩:=P.next h
 have aJ:=T.1.lt h lu
 refine ⟨A,B,P,hC,hP,nb,k.ld,by rw [k.hi]; exact l1,by rw [hw,hc],fun a ha=>?_,fun b hb=>?_,fun e l' h0 h1=>?_,fun e=>?_⟩
 ·have:=hA a ha; have:=k.key; omega
 ·rcases hB with ⟨_,rfl⟩ | ⟨j,B',rfl,e,k1,k2,k3,k4⟩
  ·simp at hb
  ·have hj:g.c x.i 0<g.c j 0:=by
    rcases T.2 with e0 | ⟨_,c2⟩
    ·have r:=(h.rf j (h.bo _ _ k4).1 (h.bo _ _ k4).2.1).2.1
     omega
    ·rw [← hc,e,k3] at c2
     have az:g.c j 0≠g.c x.i 0:=fun e=>by
      have:=h.xK j x.i (h.bo _ _ k4).2.2.2.2.1 k.ld e
      subst this
      exact nb k4
     have:=k.key
     omega
   rcases List.mem_cons.1 hb with rfl | hb
   ·exact hj
   ·have:=k2 b hb; omega
 ·rcases hl with hl | hl
  ·rw [k.hi] at h1
   rw [k.st (.inr hl) l' h0 h1 (.inl hl)]
   exact ((fi.told l' (.inl h9) h0 (by omega)).u h).2
  ·have:=k.aQ.2.2.2.2 (by omega); omega
 ·rcases hl with hl | hl
  ·have:=k.aQ.2.2.2.1 hl; omega
  ·exact ⟨k.bo (by omega) _ (by omega) (by omega),k.bz (by omega)⟩
end
section
variable {t:TW} {own kn:Int→Prop} {g g' g1:Sh} {l p i j v key known w:Int} {A B:List Int} {f:au} {s:MS} {sp:dZ} {x:ak}
abbrev xO (t:TW) (g:Sh) (own kn:Int→Prop) (x:ak) (y:ak×MS):Prop:=∃ g',bh t g' ∧Gd t x.i g g' ∧g'.c=vw t y.2∧iD t g' own kn y.1∧(x.line=1∨x.line=7∨(x.line=10∧y.1.line=10)→g' =g.fs t x.find)∧(∀ i p,p≤3→g'.c i p=g.c i p)
theorem E0 (h:bh t g) (a:nJ t g g'):Gd t i g g':=Gd.one h fun own kn ho _=>a.gh ho h
theorem SJ (L:hY t s.W.length) (ho:∀ j,own j→0≤j) (h:bh t g) (hv:g.c=vw t s) (hk:vJ t g kn) (k:iD t g own kn x) (lu:0≤x.key) {qN yes:Int} (e:(x.line=1∧qN =1∧yes=2)∨(x.line=7∧qN =7∧yes=8)) (hx:x.step t s=if yes=2 then x.l1 t s else x.dB t s qN yes):xO t g own kn x (x.step t s):=by
 obtain ⟨fi,fk⟩:=k.fi (by omega) (by omega)
 obtain ⟨a,e2,F,-,zJ⟩:=Kk L h hv hk fi (by omega)
 obtain ⟨g',eZ⟩:∃ g',g' =g.fs t x.find:=⟨_,rfl⟩
 rw [← eZ] at a e2 F
 have h':=a.inv h
 have r:eo t own kn g g':=a.gh ho h
 have k':=k.gh h h' r
 rw [hx]
 rcases e with ⟨e,rfl,rfl⟩ | ⟨e,rfl,rfl⟩
 ·rw [if_pos rfl]
  refine ⟨g',h',E0 h a,e2,?_,fun _=>eZ,by first | exact fun _ _ _=>rfl | exact fun i p hp=>g.c.dC _ (by omega) | exact a.lo⟩
  unfold ak.l1 ak.dB
  by_cases h9:(x.find.step t s).1.line=9
  ·simp only [h9,if_true]
   exact ⟨k'.o,k'.k,k'.ld,k'.ref,k'.key,k'.hi,by simp,fun _ _=>⟨F,zJ.trans fk⟩,fun _=>h9,fun _=>k'.low (.inl e),by have:=(k'.i0 h'); simp; omega,fun _ l h0 _ q=>by simp at q; omega,by simp,by simp,by simp,by simp,by simp,by simp,by simp,by simp,by first | (simp; done) | exact fun _=>h9 | simp [au.new,au.anew]⟩
  ·simp only [h9,if_false]
   exact ⟨k'.o,k'.k,k'.ld,k'.ref,k'.key,k'.hi,by simp,fun _ _=>⟨F,zJ.trans fk⟩,by simp,fun _=>k'.low (.inl e),by have:=k'.aQ; simp; omega,by simp,by simp,by simp,by simp,by simp,by simp,by simp,by simp,by simp,by first | (simp; done) | exact fun _=>h9 | simp [au.new,au.anew]⟩
 ·rw [if_neg (by decide)]
  refine ⟨g',h',E0 h a,e2,?_,fun _=>eZ,by first | exact fun _ _ _=>rfl | exact fun i p hp=>g.c.dC _ (by omega) | exact a.lo⟩
  unfold ak.dB
  by_cases h9:(x.find.step t s).1.line=9
  ·simp only [h9,if_true]
   exact ⟨k'.o,k'.k,k'.ld,k'.ref,k'.key,k'.hi,by simp,fun _ _=>⟨F,zJ.trans fk⟩,fun _=>h9,by simp,by have:=k'.aQ; simp; omega,by simp,fun _=>k'.bo (by omega),fun _=>k'.bz (by omega),fun _=>k'.pZ (by omega),by simp,by simp,by simp,by simp,by simp,by first | (simp; done) | exact fun _=>h9 | simp [au.new,au.anew]⟩
  ·simp only [h9,if_false]
   exact ⟨k'.o,k'.k,k'.ld,k'.ref,k'.key,k'.hi,by simp,fun _ _=>⟨F,zJ.trans fk⟩,by simp,by simp,by have:=k'.aQ; simp; omega,by simp,fun _=>k'.bo (by omega),fun _=>k'.bz (by omega),fun _=>k'.pZ (by omega),by simp,by simp,by simp,by simp,by simp,by first | (simp; done) | exact fun _=>h9 | simp [au.new,au.anew]⟩
theorem acQ (L:hY t s.W.length) (ho:∀ j,own j→0≤j) (h:bh t g) (hv:g.c=vw t s) (k:iD t g own kn x) (e:x.line=2):xO t g own kn x (x.step t s):=by
 have ax:x.step t s=x.l2 t s:=by unfold ak.step; simp [e]
 have i0:=k.i0 h
 obtain ⟨fi,fk⟩:=k.fi (by omega) (by omega)
 have h9:=k.f9 (by omega)
 have lv:=k.aQ.2.2.1 (by omega)
 have l0:=k.aQ.1
 have T:=fi.told x.level (.inl h9) l0 (by omega)
 have hP:dg t x.i (4+x.level):=oS l0 (by omega) (.inr ⟨i0.1,i0.2.1⟩)
 have hn:aX t x.i x.level=aB t x.i (4+x.level):=jI fi.snd l0 (by omega) _
 have P:Ce t g x.i (4+x.level) (x.find.spot x.level).cur:=⟨i0.1,(T.u h).1,.inl ⟨k.low (by omega),fun _=>by omega⟩⟩
 have e2:=zH L hP (x.find.spot x.level).cur
 rw [← hv] at e2
 have h':=h.put P
 have r0:eo t (fun _=>False) kn g (g.put x.i (4+x.level) (x.find.spot x.level).cur):=eo.put h P (.inl id)
 rw [ax]
 refine ⟨g.put x.i (4+x.level) (x.find.spot x.level).cur,h',Gd.one h fun own' E1 _ hi=>eo.put h P (.inl hi),by simp only [ak.l2]; rw [hn]; exact e2.symm,?_,fun q=>by omega,by first | exact fun _ _ _=>rfl | exact fun i p hp=>g.c.dC _ (by omega) | exact a.lo⟩
 have kz:∀ q,q≤3→(g.put x.i (4+x.level) (x.find.spot x.level).cur).c x.i q=g.c x.i q:=fun q hq=>g.c.dC _ (by omega)
 have st:∀ l,0≤l→l<x.level+1→(g.put x.i (4+x.level) (x.find.spot x.level).cur).c x.i (4+l)=(x.find.spot l).cur:=fun l h0 h1=>by
  by_cases e':l=x.level
  ·rw [e']; exact Vw.vH _ _ _ _
  ·have:(g.put x.i (4+x.level) (x.find.spot x.level).cur).c x.i (4+l)=g.c x.i (4+l):=g.c.dC _ (by omega)
   rw [this]; exact k.st (by omega) l h0 (by omega) (.inr (by omega))
 unfold ak.l2
 simp only
 by_cases c:x.level+1<x.hi
 ·rw [if_pos c]
  exact ⟨k.o,k.k,k.ld,k.ref,(kz 0 (by omega)).trans k.key,(kz 2 (by omega)).trans k.hi,by simp,fun _ _=>⟨fi.gh h r0,fk⟩,fun _=>h9,fun _=>k.low (by omega),by simp; omega,fun _ l h0 _ q=>st l h0 (by simpa using q),by simp,by simp,by simp,by simp,by simp,by simp,by simp,by simp,by first | (simp; done) | exact fun _=>h9 | simp [au.new,au.anew]⟩
 ·rw [if_neg c]
  exact ⟨k.o,k.k,k.ld,k.ref,(kz 0 (by omega)).trans k.key,(kz 2 (by omega)).trans k.hi,by simp,fun _ _=>⟨fi.gh h r0,fk⟩,fun _=>h9,fun _=>k.low (by omega),by simp; omega,fun _ l h0 q _=>st l h0 (by simp only at q; omega),by simp,by simp,by simp,by simp,by simp,by simp,by simp,by simp,by first | (simp; done) | exact fun _=>h9 | simp [au.new,au.anew]⟩
theorem acR (L:hY t s.W.length) (ho:∀ j,own j→0≤j) (h:bh t g) (hv:g.c=vw t s) (k:iD t g own kn x) (lu:0≤x.key) (e:x.line=3∨x.line=6):xO t g own kn x (x.step t s):=by
 have i0:=k.i0 h
 obtain ⟨fi,fk⟩:=k.fi (by omega) (by omega)
 have h9:=k.f9 (by omega)
 have l0:=k.aQ.1
 have lv:x.level<x.hi:=by
  rcases e with e | e
  ·have:=k.aQ.2.2.2.1 e; omega
  ·exact k.aQ.2.2.1 (by omega)
 have T:=fi.told x.level (.inl h9) l0 (by omega)
 have hP:=T.1.dg h l0 (by omega)
 have hn:aX t (x.find.spot x.level).pred x.level=aB t (x.find.spot x.level).pred (4+x.level):=jI fi.snd l0 (by omega) _
 have nb:¬ g.born x.level x.i:=by
  rcases e with e | e
  ·rw [k.aQ.2.2.2.1 e]; exact k.low (by omega)
  ·exact k.pZ (by omega)
 have hw:um (g.c x.i (4+x.level))=(x.find.spot x.level).cur:=by
  rcases e with e | e
  ·rw [k.st (.inr e) x.level l0 lv (.inl e),sy (T.u h).1 (T.u h).2]
  ·exact k.w6 e
 have E2:x.line=3→x.step t s=x.l3 t s:=fun e=>by unfold ak.step; simp [e]
 have E3:x.line=6→x.step t s=x.l6 t s:=fun e=>by unfold ak.step; simp [e]
 have nf:∀ {g:Sh} {z:ak},z.find=au.new t z.key→z.find.key=z.key:=fun e=>by rw [e]; rfl
 by_cases hc:g.c (x.find.spot x.level).pred (4+x.level)=(x.find.spot x.level).cur
 ·obtain ⟨A,B,K⟩:=k.lnk h lu h9 l0 lv nb hw e hc
  obtain ⟨e1,e2⟩:=xH L hP (x:=(x.find.spot x.level).cur) x.ref (by rw [← hv]; exact hc)
  rw [← hv] at e2
  have hh:x.iM t s=s.bT (aB t (x.find.spot x.level).pred (4+x.level)) (x.find.spot x.level).cur x.ref:=by unfold ak.iM; rw [hn]
  rw [← hh] at e1 e2
  have h':=h.link K
  have r0:eo t (fun _=>False) kn g (g.link x.level (x.find.spot x.level).pred x.i (A++x.i::B)):=eo.link (fun _ h=>h.elim) h K id
  have gd:Gd t x.i g (g.link x.level (x.find.spot x.level).pred x.i (A++x.i::B)):=Gd.one h fun own' E1 da hi=>eo.link da h K hi
  obtain ⟨SC,-,-,-⟩:=K.ne h
  have kz:∀ q,(g.link x.level (x.find.spot x.level).pred x.i (A++x.i::B)).c x.i q=g.c x.i q:=fun q=>g.c.mM _ SC
  have cw:(g.link x.level (x.find.spot x.level).pred x.i (A++x.i::B)).c=vw t (x.iM t s):=by rw [e2,k.ref]; rfl
  have F':=fi.gh h r0
  have SK:∀ l,x.level<l→¬ (g.link x.level (x.find.spot x.level).pred x.i (A++x.i::B)).born l x.i:=fun l hl hb=>by
   rcases hb with hb | ⟨e,_⟩
   ·exact nb (h.dn _ _ _ hb l0 (by omega))
   ·omega
  have E4:∀ l,0≤l→l<x.level+1→(g.link x.level (x.find.spot x.level).pred x.i (A++x.i::B)).born l x.i:=fun l h0 h1=>by
   by_cases e':l=x.level
   ·exact .inr ⟨e',rfl⟩
   ·rcases e with e | e
    ·have:=k.aQ.2.2.2.1 e; omega
    ·exact .inl (k.bo (by omega) l h0 (by omega))
  have E5:(g.link x.level (x.find.spot x.level).pred x.i (A++x.i::B)).bz x.i:=by
   rcases e with e | e
   ·exact .inr ⟨k.aQ.2.2.2.1 e,rfl⟩
   ·exact .inl (k.bz (by omega))
  refine ⟨_,h',gd,?_,?_,fun q=>by omega,by first | exact fun _ _ _=>rfl | exact fun i p hp=>g.c.dC _ (by omega) | exact a.lo⟩
  ·rcases e with e | e
   ·rw [E2 e]; exact cw
   ·rw [E3 e]; exact cw
  ·rcases e with e | e
   ·have lz:=k.aQ.2.2.2.1 e
    rw [E2 e]
    unfold ak.l3
    simp only [e1,if_true]
    unfold ak.up
    by_cases c:x.hi≤1
    ·simp only [if_pos c]
     exact ⟨k.o,k.k,k.ld,k.ref,(kz 0).trans k.key,(kz 2).trans k.hi,by simp,fun _ _=>⟨F',fk⟩,by simp,by simp,by simp; omega,by simp,fun _ l h0 h1=>E4 l h0 (by simp only at h1; omega),fun _=>E5,by simp,by simp,by simp,by simp,by simp,by simp,by first | (simp; done) | exact fun _=>h9 | simp [au.new,au.anew]⟩
    ·simp only [if_neg c]
     exact ⟨k.o,k.k,k.ld,k.ref,(kz 0).trans k.key,(kz 2).trans k.hi,by simp,fun _ _=>⟨F',fk⟩,fun _=>h9,by simp,by simp; omega,by simp,fun _ l h0 h1=>E4 l h0 (by simp only at h1; omega),fun _=>E5,fun _=>SK 1 (by omega),by simp,by simp,by simp,by simp,by simp,by first | (simp; done) | exact fun _=>h9 | simp [au.new,au.anew]⟩
   ·rw [E3 e]
    unfold ak.l6
    simp only [e1,if_true]
    unfold ak.up
    by_cases c:x.hi≤x.level+1
    ·simp only [if_pos c]
     exact ⟨k.o,k.k,k.ld,k.ref,(kz 0).trans k.key,(kz 2).trans k.hi,by simp,fun _ _=>⟨F',fk⟩,by simp,by simp,by simp; omega,by simp,fun _ l h0 h1=>E4 l h0 h1,fun _=>E5,by simp,by simp,by simp,by simp,by simp,by simp,by first | (simp; done) | exact fun _=>h9 | simp [au.new,au.anew]⟩
    ·simp only [if_neg c]
     exact ⟨k.o,k.k,k.ld,k.ref,(kz 0).trans k.key,(kz 2).trans k.hi,by simp,fun _ _=>⟨F',fk⟩,fun _=>h9,by simp,by simp; omega,by simp,fun _ l h0 h1=>E4 l h0 h1,fun _=>E5,fun _=>SK _ (by simp only; omega),by simp,by simp,by simp,by simp,by simp,by first | (simp; done) | exact fun _=>h9 | simp [au.new,au.anew]⟩
 ·obtain ⟨e1,e2⟩:=xI L hP (x:=(x.find.spot x.level).cur) x.ref (by rw [← hv]; exact hc)
  rw [← hv] at e2
  have hh:x.iM t s=s.bT (aB t (x.find.spot x.level).pred (4+x.level)) (x.find.spot x.level).cur x.ref:=by unfold ak.iM; rw [hn]
  rw [← hh] at e1 e2
  have F':iC t g kn (au.new t x.key):=Cf fi.snd (by simp [au.zero])
  refine ⟨g,h,.nil g,?_,?_,fun q=>by omega,by first | exact fun _ _ _=>rfl | exact fun i p hp=>g.c.dC _ (by omega) | exact a.lo⟩
  ·rcases e with e | e
   ·rw [E2 e]; exact e2.symm
   ·rw [E3 e]; exact e2.symm
  ·rcases e with e | e
   ·rw [E2 e]
    unfold ak.l3
    simp only [e1,Bool.false_eq_true,if_false]
    unfold ak.anew
    exact ⟨k.o,k.k,k.ld,k.ref,k.key,k.hi,by simp,fun _ _=>⟨F',rfl⟩,by simp,fun _=>k.low (by omega),by have:=k.aQ; simp; omega,by simp,by simp,by simp,by simp,by simp,by simp,by simp,by simp,by simp,by first | (simp; done) | exact fun _=>h9 | simp [au.new,au.anew]⟩
   ·rw [E3 e]
    unfold ak.l6
    simp only [e1,Bool.false_eq_true,if_false]
    unfold ak.anew
    exact ⟨k.o,k.k,k.ld,k.ref,k.key,k.hi,by simp,fun _ _=>⟨F',rfl⟩,by simp,by simp,by have:=k.aQ; simp; omega,by simp,fun _=>k.bo (by omega),fun _=>k.bz (by omega),fun _=>k.pZ (by omega),by simp,by simp,by simp,by simp,by simp,by first | (simp; done) | exact fun _=>h9 | simp [au.new,au.anew]⟩
end
section
variable {t:TW} {own kn:Int→Prop} {g g' g1:Sh} {l p i j v key known w:Int} {A B:List Int} {f:au} {s:MS} {sp:dZ} {x:ak}
theorem acS (L:hY t s.W.length) (ho:∀ j,own j→0≤j) (h:bh t g) (hv:g.c=vw t s) (k:iD t g own kn x) (e:x.line=4∨x.line=5):xO t g own kn x (x.step t s):=by
 have i0:=k.i0 h
 obtain ⟨fi,fk⟩:=k.fi (by omega) (by omega)
 have h9:=k.f9 (by omega)
 have l0:=k.aQ.1
 have lv:=k.aQ.2.2.1 (by omega)
 have hP:dg t x.i (4+x.level):=oS l0 (by omega) (.inr ⟨i0.1,i0.2.1⟩)
 have hn:aX t x.i x.level=aB t x.i (4+x.level):=jI fi.snd l0 (by omega) _
 have aQ:=k.aQ
 rcases e with e | e
 ·obtain ⟨e1,e2⟩:=nH L hP
  rw [← hv] at e1 e2
  have ax:x.step t s=({ x with by_:=x.ref,w:=g.c x.i (4+x.level),line:=if Mk (g.c x.i (4+x.level)) then 9 else if g.c x.i (4+x.level)=(x.find.spot x.level).cur then 6 else 5 },s.load (aB t x.i (4+x.level))):=by
   unfold ak.step
   simp only [e]
   unfold ak.l4
   rw [hn,e1]
   rfl
  rw [ax]
  refine ⟨g,h,.nil g,e2.symm,?_,fun q=>by omega,by first | exact fun _ _ _=>rfl | exact fun i p hp=>g.c.dC _ (by omega) | exact a.lo⟩
  by_cases c:Mk (g.c x.i (4+x.level))
  ·simp only [if_pos c]
   exact ⟨k.o,k.k,k.ld,k.ref,k.key,k.hi,by simp,fun _ _=>⟨fi,fk⟩,by simp,by simp,by simp; omega,by simp,fun _=>k.bo (by omega),fun _=>k.bz (by omega),by simp,by simp,by simp,by simp,by simp,by simp,by first | (simp; done) | exact fun _=>h9 | simp [au.new,au.anew]⟩
  ·simp only [if_neg c]
   by_cases c2:g.c x.i (4+x.level)=(x.find.spot x.level).cur
   ·simp only [if_pos c2]
    exact ⟨k.o,k.k,k.ld,k.ref,k.key,k.hi,by simp,fun _ _=>⟨fi,fk⟩,fun _=>h9,by simp,by simp; omega,by simp,fun _=>k.bo (by omega),fun _=>k.bz (by omega),fun _=>k.pZ (by omega),by simp,fun _=>by rw [sy (h.u _ _) c]; exact c2,by simp,by simp,by simp,by first | (simp; done) | exact fun _=>h9 | simp [au.new,au.anew]⟩
   ·simp only [if_neg c2]
    exact ⟨k.o,k.k,k.ld,k.ref,k.key,k.hi,by simp,fun _ _=>⟨fi,fk⟩,fun _=>h9,by simp,by simp; omega,by simp,fun _=>k.bo (by omega),fun _=>k.bz (by omega),fun _=>k.pZ (by omega),fun _=>c,by simp,by simp,by simp,by simp,by first | (simp; done) | exact fun _=>h9 | simp [au.new,au.anew]⟩
 ·have ax:x.step t s=x.l5 t s:=by unfold ak.step; simp [e]
  have T:=fi.told x.level (.inl h9) l0 (by omega)
  by_cases c:g.c x.i (4+x.level)=x.w
  ·obtain ⟨e1,e2⟩:=xH L hP (x:=x.w) (x.find.spot x.level).cur (by rw [← hv]; exact c)
   rw [← hv] at e2
   have P:Ce t g x.i (4+x.level) (x.find.spot x.level).cur:=⟨i0.1,(T.u h).1,.inr (.inl ⟨x.level,l0,rfl,k.pZ (by omega),by rw [c]; exact k.w5 e,(T.u h).2⟩)⟩
   have h':=h.put P
   have r0:eo t (fun _=>False) kn g (g.put x.i (4+x.level) (x.find.spot x.level).cur):=eo.put h P (.inl id)
   have kz:∀ q,q≤3→(g.put x.i (4+x.level) (x.find.spot x.level).cur).c x.i q=g.c x.i q:=fun q hq=>g.c.dC _ (by omega)
   rw [ax]
   refine ⟨_,h',Gd.one h fun own' E1 _ hi=>eo.put h P (.inl hi),by simp only [ak.l5]; rw [hn]; exact e2.symm,?_,fun q=>by omega,by first | exact fun _ _ _=>rfl | exact fun i p hp=>g.c.dC _ (by omega) | exact a.lo⟩
   unfold ak.l5
   simp only [hn,e1,if_true]
   exact ⟨k.o,k.k,k.ld,k.ref,(kz 0 (by omega)).trans k.key,(kz 2 (by omega)).trans k.hi,by simp,fun _ _=>⟨fi.gh h r0,fk⟩,fun _=>h9,by simp,by simp; omega,by simp,fun _=>k.bo (by omega),fun _=>k.bz (by omega),fun _=>k.pZ (by omega),by simp,fun _=>by rw [show (g.put x.i (4+x.level) (x.find.spot x.level).cur).c x.i (4+x.level)=_ from Vw.vH _ _ _ _,sy (T.u h).1 (T.u h).2],by simp,by simp,by simp,by first | (simp; done) | exact fun _=>h9 | simp [au.new,au.anew]⟩
  ·obtain ⟨e1,e2⟩:=xI L hP (x:=x.w) (x.find.spot x.level).cur (by rw [← hv]; exact c)
   rw [← hv] at e2
   rw [ax]
   refine ⟨g,h,.nil g,by simp only [ak.l5]; rw [hn]; exact e2.symm,?_,fun q=>by omega,by first | exact fun _ _ _=>rfl | exact fun i p hp=>g.c.dC _ (by omega) | exact a.lo⟩
   unfold ak.l5
   simp only [hn,e1,Bool.false_eq_true,if_false]
   exact ⟨k.o,k.k,k.ld,k.ref,k.key,k.hi,by simp,fun _ _=>⟨fi,fk⟩,by simp,by simp,by simp; omega,by simp,fun _=>k.bo (by omega),fun _=>k.bz (by omega),by simp,by simp,by simp,by simp,by simp,by simp,by first | (simp; done) | exact fun _=>h9 | simp [au.new,au.anew]⟩
theorem acT (L:hY t s.W.length) (ho:∀ j,own j→0≤j) (h:bh t g) (hv:g.c=vw t s) (k:iD t g own kn x) (e:x.line=8∨x.line=9):xO t g own kn x (x.step t s):=by
 have i0:=k.i0 h
 obtain ⟨fi,fk⟩:=k.fi (by omega) (by omega)
 have hh:=fi.snd.1
 have hP:dg t x.i (4+0):=oS (by omega) (by omega) (.inr ⟨i0.1,i0.2.1⟩)
 have hn:aX t x.i 0=aB t x.i (4+0):=jI fi.snd (by omega) (by omega) _
 have aQ:=k.aQ
 have b0:g.born 0 x.i:=k.bo (by omega) 0 (by omega) (by omega)
 obtain ⟨e1,e2⟩:=nH L hP
 rw [← hv] at e1 e2
 have F':iC t g kn (au.new t x.key):=Cf fi.snd (by simp [au.zero])
 have je:Mk (g.c x.i (4+0))→∀ l,0≤l→l<g.c x.i 2→Mk (g.c x.i (4+l)):=fun c l h0 h1=>by
  by_cases e:l=0
  ·rw [e]; exact c
  ·exact h.up 0 l x.i b0 (by omega) (by omega) h1 c
 have ax:∀ qN,(x.line=8∧qN =4)∨(x.line=9∧qN =11)→x.step t s=(if Mk (g.c x.i (4+0)) then ({ x with by_:=x.ref }:ak).anew t 10 else { x with by_:=x.ref,line:=qN },s.load (aB t x.i (4+0))):=fun qN q=>by
  unfold ak.step
  rcases q with ⟨q,rfl⟩ | ⟨q,rfl⟩
  ·simp only [q]
   unfold ak.l89
   rw [hn,e1]
   rfl
  ·simp only [q]
   unfold ak.l89
   rw [hn,e1]
   rfl
 by_cases c:Mk (g.c x.i (4+0))
 ·have:iD t g own kn (({ x with by_:=x.ref }:ak).anew t 10):=by
   unfold ak.anew
   exact ⟨k.o,k.k,k.ld,k.ref,k.key,k.hi,by simp,fun _ _=>⟨F',rfl⟩,by simp,by simp,by simp; omega,by simp,by simp,fun _=>k.bz (by omega),by simp,by simp,by simp,fun _=>Kh k.key b0 (je c),by simp,by simp,by first | (simp; done) | exact fun _=>h9 | simp [au.new,au.anew]⟩
  rcases e with e | e
  ·rw [ax 4 (.inl ⟨e,rfl⟩),if_pos c]; exact ⟨g,h,.nil g,e2.symm,this,fun q=>by omega,by first | exact fun _ _ _=>rfl | exact fun i p hp=>g.c.dC _ (by omega) | exact a.lo⟩
  ·rw [ax 11 (.inr ⟨e,rfl⟩),if_pos c]; exact ⟨g,h,.nil g,e2.symm,this,fun q=>by omega,by first | exact fun _ _ _=>rfl | exact fun i p hp=>g.c.dC _ (by omega) | exact a.lo⟩
 ·rcases e with e | e
  ·rw [ax 4 (.inl ⟨e,rfl⟩),if_neg c]
   refine ⟨g,h,.nil g,e2.symm,?_,fun q=>by omega,by first | exact fun _ _ _=>rfl | exact fun i p hp=>g.c.dC _ (by omega) | exact a.lo⟩
   have h9:=k.f9 (by omega)
   exact ⟨k.o,k.k,k.ld,k.ref,k.key,k.hi,by simp,fun _ _=>⟨fi,fk⟩,fun _=>h9,by simp,by simp; omega,by simp,fun _=>k.bo (by omega),fun _=>k.bz (by omega),fun _=>k.pZ (by omega),by simp,by simp,by simp,by simp,by simp,by first | (simp; done) | exact fun _=>h9 | simp [au.new,au.anew]⟩
  ·rw [ax 11 (.inr ⟨e,rfl⟩),if_neg c]
   refine ⟨g.sB x.i,h.sB,Gd.one h fun own' E1 _ hi=>eo.sB hi fun hm=>absurd (by simpa using hm) c,e2.symm,?_,fun q=>by omega,by first | exact fun _ _ _=>rfl | exact fun i p hp=>g.c.dC _ (by omega) | exact a.lo⟩
   exact ⟨k.o,k.k,k.ld,k.ref,k.key,k.hi,by simp,by simp,by simp,by simp,by simp; omega,by simp,by simp,by simp,by simp,by simp,by simp,by simp,fun _=>⟨fun q=>q.2 rfl,b0⟩,by simp,by first | (simp; done) | exact fun _=>h9 | simp [au.new,au.anew]⟩
theorem acU (L:hY t s.W.length) (ho:∀ j,own j→0≤j) (h:bh t g) (hv:g.c=vw t s) (hk:vJ t g kn) (k:iD t g own kn x) (lu:0≤x.key) (e:x.line=10):xO t g own kn x (x.step t s)∧((x.step t s).1.line=11→∃ g',bh t g' ∧Gd t x.i g g' ∧g'.c=vw t (x.step t s).2∧iD t g' own kn (x.step t s).1∧(∀ l,0≤l→l<t.ay→x.i∉g'.C l)∧∀ i p,p≤3→g'.c i p=g.c i p):=by
 have ax:x.step t s=x.dB t s 10 11:=by unfold ak.step; simp [e]
 obtain ⟨fi,fk⟩:=k.fi (by omega) (by omega)
 obtain ⟨a,e2,F,cl,zJ⟩:=Kk L h hv hk fi (by omega)
 obtain ⟨g',eZ⟩:∃ g',g' =g.fs t x.find:=⟨_,rfl⟩
 rw [← eZ] at a e2 F cl
 have h':=a.inv h
 have r:eo t own kn g g':=a.gh ho h
 have k':=k.gh h h' r
 have aQ:=k.aQ
 have C':=cl x.i k.k (k.c10 e)
 rw [ax]
 by_cases h9:(x.find.step t s).1.line=9
 ·have gone:∀ l,0≤l→l<t.ay→x.i∉g'.C l:=fun l h0 h1=>C'.up l (.inl h9) h0 h1
  have q:∃ g2,bh t g2∧Gd t x.i g g2∧g2.c=vw t (x.dB t s 10 11).2∧iD t g2 own kn (x.dB t s 10 11).1∧(∀ l,0≤l→l<t.ay→x.i∉g2.C l)∧∀ i p,p≤3→g2.c i p=g.c i p:=by
   refine ⟨g'.sB x.i,h'.sB,(E0 h a).trans (Gd.one h' fun own' E1 _ hi=>eo.sB hi fun _=>gone),e2,?_,gone,a.lo⟩
   unfold ak.dB
   simp only [h9,if_true]
   exact ⟨k'.o,k'.k,k'.ld,k'.ref,k'.key,k'.hi,by simp,by simp,by simp,by simp,by simp; omega,by simp,by simp,by simp,by simp,by simp,by simp,by simp,fun _=>⟨fun q=>q.2 rfl,C'.bo⟩,by simp,by first | (simp; done) | exact fun _=>h9 | simp [au.new,au.anew]⟩
  exact ⟨let ⟨g2,a1,a2,a3,a4,_,a6⟩:=q; ⟨g2,a1,a2,a3,a4,fun z=>absurd z (by unfold ak.dB; simp [h9]; omega),a6⟩,fun _=>q⟩
 ·refine ⟨⟨g',h',E0 h a,e2,?_,fun _=>eZ,by first | exact fun _ _ _=>rfl | exact fun i p hp=>g.c.dC _ (by omega) | exact a.lo⟩,fun h11=>?_⟩
  ·unfold ak.dB
   simp only [h9,if_false]
   exact ⟨k'.o,k'.k,k'.ld,k'.ref,k'.key,k'.hi,by simp,fun _ _=>⟨F,zJ.trans fk⟩,by simp,by simp,by simp; omega,by simp,by simp,fun _=>k'.bz (by omega),by simp,by simp,by simp,fun _=>C',by simp,by simp,by first | (simp; done) | exact fun _=>h9 | simp [au.new,au.anew]⟩
  ·unfold ak.dB at h11
   simp [h9] at h11
theorem acV (L:hY t s.W.length) (ho:∀ j,own j→0≤j) (h:bh t g) (hv:g.c=vw t s) (hk:vJ t g kn) (k:iD t g own kn x) (lu:0≤x.key) (e1:1≤x.line) (e2:x.line≤10):xO t g own kn x (x.step t s):=by
 rcases (show x.line=1∨x.line=2∨(x.line=3∨x.line=6)∨(x.line=4∨x.line=5)∨x.line=7∨(x.line=8∨x.line=9)∨x.line=10 by omega) with e | e | e | e | e | e | e
 ·exact SJ L ho h hv hk k lu (.inl ⟨e,rfl,rfl⟩) (by unfold ak.step; simp [e])
 ·exact acQ L ho h hv k e
 ·exact acR L ho h hv k lu e
 ·exact acS L ho h hv k e
 ·exact SJ L ho h hv hk k lu (.inr ⟨e,rfl,rfl⟩) (by unfold ak.step; simp [e])
 ·exact acT L ho h hv k e
 ·exact (acU L ho h hv hk k lu e).1
end
def lU (t:TW) (g:Sh) (l:Int) (sp:dZ):Prop:=fB t g l sp.pred∧g.c sp.pred (4+l)=sp.cur
def xP (t:TW) (g:Sh) (f:au):Prop:=∀ l,(f.line=9∨f.l<l)→0≤l→l<t.ay→lU t g l (f.spot l)
def dR (g:Sh):Nat→Int
 | 0=>0
 | k+1=>dR g k+(1+2*(g.C (k:Int)).length)
abbrev PP (t:TW) (g:Sh):Int:=dR g t.ay.toNat
structure Tr (t:TW) (g:Sh) (f:au) (a:Int):Prop where
 ex:∃ A B,g.C f.l=A++B∧fP g.c g.rf f.l (-1) A f.at_.pred∧(B.length:Int)=a
 p:fB t g f.l f.at_.pred
 cur:f.line=2∨f.line=3∨f.line=4→g.c f.at_.pred (4+f.l)=f.at_.cur
 w:f.line=4→g.c (aH t.size f.at_.cur) (4+f.l)=f.w
def Rm (g:Sh) (f:au) (a:Int):Int:=(if f.line=1 then 1+2*a else if f.line=2 then 2*a else 2*a - 1)+dR g f.l.toNat
open Classical in
noncomputable def St (t:TW) (g:Sh) (f:au):Int:=if f.line=2 then 3 else if f.line=4 then (if g.c (aH t.size f.at_.cur) (4+f.l)=f.w then 2 else 4) else 1
def FB (t:TW) (g:Sh) (f:au) (N:Int):Prop:=(∃ a,Tr t g f a∧Rm g f a≤N)∨St t g f+PP t g≤N
def FG (t:TW) (g:Sh) (f:au) (N:Int):Prop:=xP t g f∧∃ a,Tr t g f a∧Rm g f a≤N
section
variable {t:TW} {own kn:Int→Prop} {g g':Sh} {l p i j v key known w a N:Int} {A B:List Int} {f:au} {s:MS} {sp:dZ}
theorem E6 (g:Sh):∀ k,0≤dR g k
 | 0=>Int.le_refl _
 | k+1=>by have:=E6 g k; simp only [dR]; omega
theorem acW (g:Sh) {m n:Nat} (h:m≤n):dR g m≤dR g n:=by
 induction n with
 | zero =>
  have:m=0:=by omega
  subst this; exact Int.le_refl _
 | succ n ih =>
  by_cases e:m=n+1
  ·subst e; exact Int.le_refl _
  ·have:=ih (by omega); simp only [dR]; omega
theorem SL (g:Sh) (h:0≤l):dR g (l+1).toNat=dR g l.toNat+(1+2*(g.C l).length):=by
 have:(l+1).toNat=l.toNat+1:=by omega
 rw [this]
 simp only [dR]
 rw [show ((l.toNat:Nat):Int)=l by omega]
theorem acX {g g':Sh} (n:Nat) (h:∀ l:Int,0≤l→l<n→(g'.C l).length=(g.C l).length):dR g' n=dR g n:=by
 induction n with
 | zero=>rfl
 | succ n ih =>
  simp only [dR]
  rw [ih fun l h0 h1=>h l h0 (by omega),h n (by omega) (by omega)]
theorem Tr.le (k:Tr t g f a) (hl:0≤f.l∧f.l<t.ay):0≤a∧Rm g f a≤PP t g:=by
 obtain ⟨A,B,hC,_,e⟩:=k.ex
 have hb:(B.length:Int)≤(g.C f.l).length:=by rw [hC,List.length_append]; omega
 have h1:=SL g hl.1
 have h2:=acW g (m:=(f.l+1).toNat) (n:=t.ay.toNat) (by omega)
 unfold Rm PP
 refine ⟨by omega,?_⟩
 split
 ·omega
 ·split<;>omega
theorem fB.down (h:bh t g) (hp:fB t g l p) (h1:1≤l):fB t g (l - 1) p:=by
 refine ⟨by omega,by have:=hp.l1; omega,hp.on.imp id fun k=>h.dn _ _ _ k (by omega) (by omega),fun hm=>hp.um ?_⟩
 rcases hp.on with rfl | k
 ·exact absurd hm (h.hd _ (by omega) (by have:=hp.l1; omega))
 ·have b:=h.bo _ _ k
  have:=h.up (l - 1) l p (h.vI k) (by omega) (by omega) b.2.2.2.2.2 hm
  exact this
theorem jJ.trE (h:bh t g) (hp:fB t g f.l f.at_.pred) (h1:f.line=1):∃ a,Tr t g f a:=by
 obtain ⟨A,B,hC,hP,-⟩:=hp.split h
 exact ⟨_,⟨A,B,hC,hP,rfl⟩,hp,by omega,by omega⟩
theorem SM (h:bh t g) (k:nI t g kn f) (hp:fB t g f.l f.at_.pred) (hc:g.c f.at_.pred (4+f.l)=f.at_.cur):(f.tell.line=9∨∃ a,Tr t g f.tell a∧Rm g f.tell a≤dR g f.l.toNat)∧((∀ l,f.l<l→0≤l→l<t.ay→lU t g l (f.spot l))→xP t g f.tell):=by
 obtain ⟨l0,l1⟩:=k.aQ
 have hl:f.l.toNat<f.told.length:=by rw [k.len]; omega
 have sp:∀ l,0≤l→({ f with told:=f.told.set f.l.toNat f.at_ }:au).spot l=if l=f.l then f.at_ else f.spot l:=fun l h0=>SH f f.at_ 0 l hl h0 l0
 have td:(∀ l,f.l<l→0≤l→l<t.ay→lU t g l (f.spot l))→∀ l,f.l≤l→0≤l→l<t.ay→lU t g l (({ f with told:=f.told.set f.l.toNat f.at_ }:au).spot l):=fun V l h0 h1 h2=>by
  rw [sp l h1]
  by_cases e:l=f.l
  ·rw [if_pos e,e]; exact ⟨hp,hc⟩
  ·rw [if_neg e]; exact V l (by omega) h1 h2
 unfold au.tell
 by_cases c:f.l<1
 ·rw [if_pos c]
  exact ⟨.inl rfl,fun V l _ h0 h1=>td V l (by omega) h0 h1⟩
 ·rw [if_neg c]
  refine ⟨.inr ?_,fun V l e h0 h1=>td V l (by simp only at e; omega) h0 h1⟩
  have P:=hp.down h (by omega)
  obtain ⟨A,B,hC,hP,-⟩:=P.split h
  refine ⟨B.length,⟨⟨A,B,hC,hP,rfl⟩,P,by simp,by simp⟩,?_⟩
  have hb:(B.length:Int)≤(g.C (f.l - 1)).length:=by rw [hC,List.length_append]; omega
  have:=SL g (l:=f.l - 1) (by omega)
  rw [show f.l - 1+1=f.l by omega] at this
  unfold Rm
  simp only [if_true]
  omega
theorem Kl (h:bh t g) (k:nI t g kn f) (hp:fB t g f.l f.at_.pred) (hc:g.c f.at_.pred (4+f.l)=f.at_.cur) (hC:g.C f.l=A++B) (hP:fP g.c g.rf f.l (-1) A f.at_.pred):((f.looks t).line=9∨∃ a,Tr t g (f.looks t) a∧Rm g (f.looks t) a≤2*B.length+dR g f.l.toNat)∧((∀ l,f.l<l→0≤l→l<t.ay→lU t g l (f.spot l))→xP t g (f.looks t)):=by
 unfold au.looks
 by_cases c:aH t.size f.at_.cur<0
 ·rw [if_pos c]
  obtain ⟨a1,a2⟩:=SM (f:={ f with line:=2 }) h ⟨k.snd,k.aQ,k.len,k.pred,k.told⟩ hp hc
  exact ⟨a1.imp id fun ⟨a,b1,b2⟩=>⟨a,b1,by simp only at b2; omega⟩,fun V=>a2 V⟩
 ·rw [if_neg c]
  refine ⟨.inr ⟨B.length,⟨⟨A,B,hC,hP,rfl⟩,hp,fun _=>hc,by simp⟩,by unfold Rm; simp⟩,fun V l e h0 h1=>V l (by simp only at e; omega) h0 h1⟩
end
section
variable {t:TW} {own kn:Int→Prop} {g g':Sh} {l p i j v key known w a N:Int} {A B:List Int} {f:au} {s:MS} {sp:dZ}
theorem Cg (h:bh t g) (T:Tr t g f a) (hh:∃ x,g.rf x=f.at_.cur∧aH t.size f.at_.cur=x∧g.born f.l x) (hc:g.c f.at_.pred (4+f.l)=f.at_.cur):∃ A B,g.C f.l=A++aH t.size f.at_.cur::B∧fP g.c g.rf f.l (-1) A f.at_.pred∧((B.length:Int)+1=a):=by
 obtain ⟨A,B,hC,hP,e⟩:=T.ex
 obtain ⟨A',B',zK,zL,hA,hB⟩:=T.p.next h
 obtain ⟨x,x1,x2,x3⟩:=hh
 have bx:=h.bo _ _ x3
 have r:=h.rf x bx.1 bx.2.1
 have hn:=h.nodup T.p.l0 T.p.l1
 have e2:A=A' ∧B=B':=by
  have hlen:A.length=A'.length:=by
   rcases hP.end with ⟨rfl,e1⟩ | ⟨Z,rfl⟩
   ·rcases zL.end with ⟨rfl,_⟩ | ⟨Z',rfl⟩
    ·rfl
    ·exfalso
     have:f.at_.pred∈g.C f.l:=by rw [zK]; simp
     rw [e1] at this
     exact (List.nodup_cons.1 hn).1 this
   ·rcases zL.end with ⟨rfl,e1⟩ | ⟨Z',rfl⟩
    ·exfalso
     have:f.at_.pred∈g.C f.l:=by rw [hC]; simp
     rw [e1] at this
     exact (List.nodup_cons.1 hn).1 this
    ·have q:=(List.nodup_cons.1 hn).2
     have w1:(Z++[f.at_.pred])++B=(Z' ++[f.at_.pred])++B':=by rw [← hC,← zK]
     rw [hC] at q
     have nz:f.at_.pred∉Z:=fun hz=>by
      have:=(List.nodup_append.1 (List.nodup_append.1 q).1).2.2 _ hz f.at_.pred (by simp)
      exact this rfl
     have q':=(List.nodup_cons.1 hn).2
     rw [zK] at q'
     have nz':f.at_.pred∉Z':=fun hz=>by
      have:=(List.nodup_append.1 (List.nodup_append.1 q').1).2.2 _ hz f.at_.pred (by simp)
      exact this rfl
     have key:∀ (Z Z' B B':List Int) (p:Int),p∉Z→p∉Z' →Z++p::B=Z' ++p::B' →Z.length=Z'.length:=by
      intro Z
      induction Z with
      | nil =>
       intro Z' B B' p h1 h2 h3
       cases Z' with
       | nil=>rfl
       | cons z Z'=>simp at h3 h2; exact absurd h3.1 h2.1
      | cons z Z ih =>
       intro Z' B B' p h1 h2 h3
       cases Z' with
       | nil=>simp at h3 h1; exact absurd h3.1.symm h1.1
       | cons z' Z' =>
        simp at h3 h1 h2 ⊢
        exact ih Z' B B' p h1.2 h2.2 h3.2
     have:=key Z Z' B B' f.at_.pred nz nz' (by simpa using w1)
     simp [this]
  have:=List.append_inj (by rw [← hC,← zK]) hlen
  exact this
 rw [hc,← x1] at hB
 rcases hB with ⟨e0,_⟩ | ⟨j,B'',e1,e0,-,-,k3,-⟩
 ·omega
 ·have hj:j=x:=by rw [← k3,← e0,r.1]
  refine ⟨A,B'',?_,hP,?_⟩
  ·rw [x2,hC,e2.2,e1,hj]
  ·rw [← e,e2.2,e1]; simp
theorem SN (L:hY t s.W.length) (h:bh t g) (hv:g.c=vw t s) (k:iC t g kn f) (qV:0≤f.key) (h9:f.line≠9) (T:Tr t g f a) :
  ((f.step t s).1.line=9∨∃ a',Tr t (g.fs t f) (f.step t s).1 a' ∧Rm (g.fs t f) (f.step t s).1 a' <Rm g f a)∧(xP t g f→xP t (g.fs t f) (f.step t s).1):=by
 obtain ⟨l0,l1⟩:=k.aQ
 have hs:=k.snd
 have hp:=k.pred h9
 have hP:=hp.dg h l0 l1
 have hn:aX t f.at_.pred f.l=aB t f.at_.pred (4+f.l):=jI hs l0 l1 _
 have up:xP t g f→∀ l,f.l<l→0≤l→l<t.ay→lU t g l (f.spot l):=fun V l e h0 h1=>V l (.inr e) h0 h1
 rcases k.line with e | e | e | e | e
 ·rw [pY (.inl (by omega))]
  obtain ⟨e1,e2⟩:=nH L hP
  rw [← hv] at e1 e2
  have ax:f.step t s=(({ f with by_:=f.at_.known,at_:={ f.at_ with cur:=g.c f.at_.pred (4+f.l) } }:au).looks t,s.load (aB t f.at_.pred (4+f.l))):=by
   have c:¬ bp≤g.c f.at_.pred (4+f.l):=T.p.um
   unfold au.step
   simp [e,hn,e1,c]
  rw [ax]
  obtain ⟨A,B,hC,oT,ea⟩:=T.ex
  obtain ⟨q1,q2⟩:=Kl (f:={ f with by_:=f.at_.known,at_:={ f.at_ with cur:=g.c f.at_.pred (4+f.l) } }) h ⟨k.snd,k.aQ,k.len,hp,(k.pre h9).told⟩ T.p rfl hC oT
  have hR:Rm g f a=1+2*a+dR g f.l.toNat:=by unfold Rm; rw [if_pos e]
  refine ⟨?_,fun V=>q2 (up V)⟩
  rcases q1 with q1 | ⟨a',b1,b2⟩
  ·exact .inl q1
  ·exact .inr ⟨a',b1,Int.lt_of_le_of_lt b2 (by show 2*(B.length:Int)+dR g f.l.toNat<_; omega)⟩
 ·rw [pY (.inl (by omega))]
  obtain ⟨⟨j,a1,a2,a3,a4⟩,a5⟩:=k.cur (.inl e)
  have b:=h.bo _ _ a2
  have xQ:dg t (aH t.size f.at_.cur) (4+f.l):=by rw [a4]; exact oS l0 l1 (.inr ⟨b.1,b.2.1⟩)
  have Km:aX t (aH t.size f.at_.cur) f.l=aB t (aH t.size f.at_.cur) (4+f.l):=jI hs l0 l1 _
  obtain ⟨e1,e2⟩:=nH L xQ
  rw [← hv] at e1 e2
  have ax:f.step t s=({ f with by_:=f.at_.cur,w:=g.c (aH t.size f.at_.cur) (4+f.l),line:=if Mk (g.c (aH t.size f.at_.cur) (4+f.l)) then 3 else 4 },s.load (aB t (aH t.size f.at_.cur) (4+f.l))):=by
   unfold au.step
   simp only [e,Km,e1]
   rfl
  rw [ax]
  have hR:Rm g f a=2*a+dR g f.l.toNat:=by unfold Rm; rw [if_neg (by omega),if_pos e]
  have hl:(if Mk (g.c (aH t.size f.at_.cur) (4+f.l)) then (3:Int) else 4)=3∨(if Mk (g.c (aH t.size f.at_.cur) (4+f.l)) then (3:Int) else 4)=4:=by split<;>simp
  refine ⟨.inr ⟨a,⟨T.ex,T.p,fun _=>T.cur (.inl e),fun _=>rfl⟩,?_⟩,fun V l z h0 h1=>V l (.inr ?_) h0 h1⟩
  ·rw [hR]
   unfold Rm
   rw [if_neg (by simp only; omega),if_neg (by simp only; omega)]
   simp only; omega
  ·simp only at z; omega
 ·obtain ⟨⟨j,a1,a2,a3,a4⟩,a5⟩:=k.cur (.inr (.inl e))
  obtain ⟨w1,w2⟩:=k.w3 e
  have c:=T.cur (.inr (.inl e))
  have b:=h.bo _ _ a2
  obtain ⟨e1,e2⟩:=xH L hP (x:=f.at_.cur) (f.w - bp) (by rw [← hv]; exact c)
  rw [← hv] at e2
  have ax:f.step t s=(({ f with by_:=f.at_.known,at_:={ f.at_ with cur:=f.w - bp } }:au).looks t,s.bT (aB t f.at_.pred (4+f.l)) f.at_.cur (f.w - bp)):=by
   unfold au.step
   simp [e,hn,e1]
  obtain ⟨A,B,hC,oT,ea⟩:=Cg h T ⟨j,a1.symm,a4,a2⟩ c
  rw [a4] at hC
  have hj:Mk (g.c j (4+f.l)):=by rw [a4] at w1; rw [w1]; exact w2
  have act:nJ t g (g.unlink f.l f.at_.pred j (A++B)):=.un T.p hC oT hj
  have hw:f.w - bp=um (g.c j (4+f.l)):=by rw [a4] at w1; rw [w1,Sw (w1▸h.u _ _) w2]
  have rl:eo t (fun _=>False) kn g (g.unlink f.l f.at_.pred j (A++B)):=act.gh (fun _ h=>h.elim) h
  have h':=act.inv h
  have k':=k.gh h rl
  have eG:=k'.pred h9
  have EZ:=Kb (g.c j (4+f.l))
  have zI:(g.unlink f.l f.at_.pred j (A++B)).c f.at_.pred (4+f.l)=f.w - bp:=by rw [hw]; exact Vw.vH _ _ _ _
  have P':=eG.xM l0 l1 (by rw [zI,hw]; unfold Mk; omega)
  rw [ax,SI h e c a4 l0 l1 hC]
  have zK:(g.unlink f.l f.at_.pred j (A++B)).C f.l=A++B:=by simp [Sh.unlink,hZ]
  have acY:fP (g.unlink f.l f.at_.pred j (A++B)).c g.rf f.l (-1) A f.at_.pred:=by
   have uP:=h.nodup l0 l1
   rw [hC] at uP
   obtain ⟨n1,n2⟩:=oT.Kd uP
   exact oT.same fun z hz=>by
    show um (g.c.set f.at_.pred (4+f.l) _ z (4+f.l))=_
    rw [Vw.mM _ _ (fun e=>n1 (by rw [← e]; exact hz))]
  obtain ⟨q1,q2⟩:=Kl (g:=g.unlink f.l f.at_.pred j (A++B)) (f:={ f with by_:=f.at_.known,at_:={ f.at_ with cur:=f.w - bp } }) h' ⟨k.snd,k.aQ,k.len,eG,(k'.pre h9).told⟩ P' zI zK acY
  have hR:Rm g f a=2*a - 1+dR g f.l.toNat:=by unfold Rm; rw [if_neg (by omega),if_neg (by omega)]
  have hb:dR (g.unlink f.l f.at_.pred j (A++B)) f.l.toNat=dR g f.l.toNat:=acX _ fun l h0 h1=>by
   simp only [Sh.unlink,hZ]
   rw [if_neg (by omega)]
  refine ⟨?_,fun V=>q2 fun l z h0 h1=>?_⟩
  ·rcases q1 with q1 | ⟨a',b1,b2⟩
   ·exact .inl q1
   ·exact .inr ⟨a',b1,Int.lt_of_le_of_lt b2 (by show 2*(B.length:Int)+dR (g.unlink f.l f.at_.pred j (A++B)) f.l.toNat<_; rw [hb]; omega)⟩
  ·obtain ⟨v1,v2⟩:=V l (.inr z) h0 h1
   have kz:∀ q,(g.unlink f.l f.at_.pred j (A++B)).c q (4+l)=g.c q (4+l):=fun q=>g.c.dC _ (by simp only at z; omega)
   refine ⟨⟨v1.l0,v1.l1,v1.on,?_⟩,?_⟩
   ·rw [kz]; exact v1.um
   ·rw [kz]; exact v2
 ·rw [pY (.inl (by omega))]
  obtain ⟨⟨j,a1,a2,a3,a4⟩,a5⟩:=k.cur (.inr (.inr e))
  have b:=h.bo _ _ a2
  have hh:=hs.1
  have xQ:dg t (aH t.size f.at_.cur) 0:=by rw [a4]; exact .inr ⟨b.1,b.2.1,by omega,by omega⟩
  obtain ⟨e1,e2⟩:=nH L xQ
  rw [← hv] at e1 e2
  have ax:f.step t s=if f.key≤g.c (aH t.size f.at_.cur) 0 then (({ f with by_:=f.at_.cur }:au).tell,s.load (aB t (aH t.size f.at_.cur) 0)) else (({ f with by_:=f.at_.cur,at_:=⟨aH t.size f.at_.cur,f.at_.cur,f.w⟩ }:au).looks t,s.load (aB t (aH t.size f.at_.cur) 0)):=by
   unfold au.step
   simp only [e,e1]
   rfl
  have c:=T.cur (.inr (.inr e))
  have hR:Rm g f a=2*a - 1+dR g f.l.toNat:=by unfold Rm; rw [if_neg (by omega),if_neg (by omega)]
  obtain ⟨A,B,hC,oT,ea⟩:=Cg h T ⟨j,a1.symm,a4,a2⟩ c
  rw [a4] at hC
  by_cases ck:f.key≤g.c (aH t.size f.at_.cur) 0
  ·rw [ax,if_pos ck]
   obtain ⟨q1,q2⟩:=SM (f:={ f with by_:=f.at_.cur }) h ⟨k.snd,k.aQ,k.len,hp,(k.pre h9).told⟩ T.p c
   refine ⟨?_,fun V=>q2 (up V)⟩
   rcases q1 with q1 | ⟨a',b1,b2⟩
   ·exact .inl q1
   ·exact .inr ⟨a',b1,Int.lt_of_le_of_lt b2 (by show dR g f.l.toNat<_; omega)⟩
  ·rw [ax,if_neg ck]
   have SP:g.c j (4+f.l)=f.w:=by have:=T.w e; rwa [a4] at this
   have uw:¬ Mk f.w:=by
    rcases k.w4 e with e0 | ⟨⟨j',x1,x2,-,-⟩,-⟩
    ·rw [e0]; decide
    ·have r:=h.rf j' (h.bo _ _ x2).1 (h.bo _ _ x2).2.1
     rw [x1]; exact Int.not_le.2 r.2.2
   have P:fB t g f.l j:=⟨l0,l1,.inr a2,by rw [SP]; exact uw⟩
   have hC2:g.C f.l=(A++[j])++B:=by rw [hC]; simp
   have acZ:fP g.c g.rf f.l (-1) (A++[j]) j:=by
    have:∀ (q:Int) (A:List Int) (r:Int),fP g.c g.rf f.l q A r→um (g.c r (4+f.l))=g.rf j→fP g.c g.rf f.l q (A++[j]) j:=by
     intro q A
     induction A generalizing q with
     | nil=>intro r h1 h2; cases h1; exact ⟨h2,rfl⟩
     | cons y A ih=>intro r h1 h2; exact ⟨h1.1,ih y r h1.2 h2⟩
    refine this _ _ _ oT ?_
    rw [sy (h.u _ _) T.p.um,c,a1]
   obtain ⟨q1,q2⟩:=Kl (f:={ f with by_:=f.at_.cur,at_:=⟨aH t.size f.at_.cur,f.at_.cur,f.w⟩ }) h ⟨k.snd,k.aQ,k.len,.inr ⟨by rw [a4]; exact a2,by rw [a4]; exact a3,by simp only; omega,by rw [a4]; exact a1⟩,(k.pre h9).told⟩ (by rw [a4]; exact P) (by rw [a4]; exact SP) hC2 (by rw [a4]; exact acZ)
   refine ⟨?_,fun V=>q2 (up V)⟩
   rcases q1 with q1 | ⟨a',b1,b2⟩
   ·exact .inl q1
   ·exact .inr ⟨a',b1,Int.lt_of_le_of_lt b2 (by show 2*(B.length:Int)+dR g f.l.toNat<_; omega)⟩
 ·exact absurd e h9
end
end Go.Proofs.YtphandknhnkhfaaGreat.Lift
