import Derived.Test.YtlaojmcekeohnaaGreatDoorXA
import Derived.Test.YtlaojmcekeohnaaGreatDoorGhPR
import Derived.Test.YtlaojmcekeohnaaGreatDoorGhPC
set_option linter.unusedVariables false
set_option linter.unusedSimpArgs false
set_option maxRecDepth 20000
namespace Go.Proofs.YtlaojmcekeohnaaGreatDoor.Lift
open Go Go.Proofs.YtlaojmcekeohnaaGreatDoor.Gh Go.Proofs
end Go.Proofs.YtlaojmcekeohnaaGreatDoor.Lift
set_option linter.unusedVariables false
set_option linter.unusedSimpArgs false
set_option maxRecDepth 20000
namespace Go.Proofs.YtlaojmcekeohnaaGreatDoor.Lift
open Go Go.Proofs.YtlaojmcekeohnaaGreatDoor.Gh Go.Proofs
structure St2 (own:Nat → Nat) (G:GS) (m r:Nat) (s s':MS):Prop where
 hm:PMx (Tag own G 10) G m s
 hr:RMx (Tag own G 11) G r s'
section
variable {own own':Nat → Nat} {G G' G0:GS} {m r b c:Nat} {s s' s1:MS} {ts:List Nat}
theorem St2.to (h:St2 own G m r s s') (q:ModT ts own G G') (h1:10 ∉ ts) (h2:11 ∉ ts) (a:Agr own own' G):St2 own' G' m r s s' :=
 ⟨(sepP m s).tag h.hm q h1 a,(sepR r s').tag h.hr q h2 a⟩
theorem St2.ext (h:St2 own G m r s s') (x:Ext G G'):St2 (grown own G 13) G' m r s s':=h.to (ts:=[]) (ModT.ext x) (by simp) (by simp) grown_agr
theorem Thr.tag {P:(Nat → Prop) → GS → Prop} {t:Nat} (h:Thr P (Tag own G t) b G G') (hb:own b = c):ModT [t,c] own G G' :=
 ⟨h.mod.nx,fun g hg hn=>h.mod.obj g hg fun k=>hn (k.elim (fun k=>by rw [k.2]; simp) fun k=>by rw [k,hb]; simp),h.mod.nl,h.mod.loop⟩
theorem St2.p (h:St2 own G m r s s') (th:Thr (fun A G=>PMx A G m s1) (Tag own G 10) b G G') (hb:own b = c) (hc:c ≠ 11):St2 (grown own G 10) G' m r s1 s' :=
 ⟨(sepP m s1).step th.mod.nx th.st,(sepR r s').tag h.hr (Thr.tag th hb) (by simp; omega) grown_agr⟩
theorem St2.q (h:St2 own G m r s s') (th:Thr (fun A G=>RMx A G r s1) (Tag own G 11) b G G') (hb:own b = c) (hc:c ≠ 10):St2 (grown own G 11) G' m r s s1 :=
 ⟨(sepP m s).tag h.hm (Thr.tag th hb) (by simp; omega) grown_agr,(sepR r s1).step th.mod.nx th.st⟩
theorem St2.p' (h:St2 own G m r s s') (q:ModP (Tag own G 10) G G') (k:PMx (Grow (Tag own G 10) G G') G' m s1):St2 (grown own G 10) G' m r s1 s' ∧ ModT [10] own G G' :=
 have m1:ModT [10] own G G':=ModT.of q (by simp)
 ⟨⟨(sepP m s1).step q.nx k,(sepR r s').tag h.hr m1 (by simp) grown_agr⟩,m1⟩
theorem St2.q' (h:St2 own G m r s s') (q:ModP (Tag own G 11) G G') (k:RMx (Grow (Tag own G 11) G G') G' r s1):St2 (grown own G 11) G' m r s s1 ∧ ModT [11] own G G' :=
 have m1:ModT [11] own G G':=ModT.of q (by simp)
 ⟨⟨(sepP m s).tag h.hm m1 (by simp) grown_agr,(sepR r s1).step q.nx k⟩,m1⟩
theorem pick_ok (orc:FuncId → Bool) (x n:Int) (hn:0 < n) (hn2:n < 2 ^ 40) (G:GS):(E orc).cl 19 [.int .i64 x,.int .i64 n] G = some (.int .i64 (x % n),G):=by
 refine f19 (exL_ok Q orc) _ _ G _ ?_
 have h1:=Int.emod_nonneg x (show n ≠ 0 by omega)
 have h2:=Int.emod_lt_of_pos x hn
 have ht:=@Int.tmod_eq_emod x n
 have hn0:¬ n ≤ 0:=by omega
 have hn1:¬ n = 0:=by omega
 have hw:IntKind.wrap .i64 (x % n) = x % n:=wrap64 (by omega) (by omega)
 by_cases hx:x.tmod n < 0
 ·have e:x.tmod n + n = x % n:=by split at ht <;> omega
  simp [s19,clip_t,hx,e,hw,hn0,hn1]
 ·have e:x.tmod n = x % n:=by split at ht <;> omega
  have hx':¬ x % n < 0:=by omega
  simp [s19,clip_t,e,hx',hn0,hn1]
end
end Go.Proofs.YtlaojmcekeohnaaGreatDoor.Lift
set_option linter.unusedVariables false
set_option linter.unusedSimpArgs false
set_option maxRecDepth 20000
namespace Go.Proofs.YtlaojmcekeohnaaGreatDoor.Lift
open Go Go.Proofs.YtlaojmcekeohnaaGreatDoor.Gh Go.Proofs
end Go.Proofs.YtlaojmcekeohnaaGreatDoor.Lift
set_option linter.unusedVariables false
set_option linter.unusedSimpArgs false
set_option maxRecDepth 20000
namespace Go.Proofs.YtlaojmcekeohnaaGreatDoor.Lift
open Go Go.Proofs.YtlaojmcekeohnaaGreatDoor.Gh Go.Proofs
structure Stp (t:Nat) (B:Nat → Prop) (own:Nat → Nat) (G:GS) (own':Nat → Nat) (G':GS):Prop where
 agr:Agr own own' G
 mod:ModP (fun x=>own x = t ∨ B x) G G'
abbrev no:Nat → Prop:=fun _=>False
section
variable {t m r b:Nat} {B B':Nat → Prop} {own own1 own2:Nat → Nat} {G G1 G2:GS} {s s':MS}
theorem Stp.nx (h:Stp t B own G own1 G1):G.nx ≤ G1.nx:=h.mod.nx
theorem Stp.refl (t:Nat) (B:Nat → Prop) (own:Nat → Nat) (G:GS):Stp t B own G own G:=⟨Agr.refl _ _,ModP.refl _ _⟩
theorem Stp.keep (h:Stp t B own G own1 G1) {g:Nat} (hg:g < G.nx) (ht:own g ≠ t) (hB:¬ B g):G1.obj g = G.obj g:=h.mod.obj g hg fun k=>k.elim ht hB
theorem Stp.same (h:Stp t B own G own1 G1) {g:Nat} (hg:g < G.nx):own1 g = own g:=h.agr g hg
theorem Stp.trans (h:Stp t B own G own1 G1) (k:Stp t B' own1 G1 own2 G2) (hs:∀ x,x < G.nx → B' x → B x):Stp t B own G own2 G2 :=
 ⟨h.agr.trans k.agr h.nx,⟨Nat.le_trans h.nx k.nx,fun g hg hn=>(k.mod.obj g (Nat.lt_of_lt_of_le hg h.nx) fun q=>hn (q.elim (fun q=>.inl ((h.agr g hg).symm.trans q)) fun q=>.inr (hs g hg q))).trans (h.mod.obj g hg hn),Nat.le_trans h.mod.nl k.mod.nl,fun l hl=>(k.mod.loop l (Nat.lt_of_lt_of_le hl h.mod.nl)).trans (h.mod.loop l hl)⟩⟩
theorem Stp.mono (h:Stp t B own G own1 G1) (hs:∀ x,x < G.nx → B x → B' x):Stp t B' own G own1 G1:=(Stp.refl t B' own G).trans h hs
theorem Stp.ext (x:Ext G G1):Stp t B own G (grown own G 13) G1:=⟨grown_agr,x.modP _⟩
theorem Stp.extA (x:Ext G G1) (a:Agr own own1 G):Stp t B own G own1 G1:=⟨a,x.modP _⟩
theorem Stp.put (h:Stp t B own G own1 G1) (hb:B b ∨ G.nx ≤ b) (o:GObj):Stp t B own G own1 (G1.put b o) :=
 ⟨h.agr,h.mod.put (hb.imp .inr id) o⟩
def PM (own:Nat → Nat) (G:GS) (m:Nat) (s:MS):Prop:=PMx (Tag own G 10) G m s
def RM (own:Nat → Nat) (G:GS) (r:Nat) (s:MS):Prop:=RMx (Tag own G 11) G r s
theorem PM.to (h:PM own G m s) (k:Stp t B own G own1 G1) (ht:t ≠ 10) (hB:∀ x,x < G.nx → B x → own x ≠ 10):PM own1 G1 m s :=
 (sepP m s).mono ((sepP m s).kept h k.nx fun g hg=>k.keep hg.1 (by rw [hg.2]; exact ht.symm) fun q=>hB g hg.1 q hg.2) (Tag.le k.agr k.nx) Tag.under
theorem RM.to (h:RM own G r s) (k:Stp t B own G own1 G1) (ht:t ≠ 11) (hB:∀ x,x < G.nx → B x → own x ≠ 11):RM own1 G1 r s :=
 (sepR r s).mono ((sepR r s).kept h k.nx fun g hg=>k.keep hg.1 (by rw [hg.2]; exact ht.symm) fun q=>hB g hg.1 q hg.2) (Tag.le k.agr k.nx) Tag.under
theorem PM.ext (h:PM own G m s) (x:Ext G G1):PM (grown own G 13) G1 m s:=h.to (t:=11) (B:=no) (Stp.ext x) (by decide) fun _ _ h=>h.elim
theorem RM.ext (h:RM own G r s) (x:Ext G G1):RM (grown own G 13) G1 r s:=h.to (t:=10) (B:=no) (Stp.ext x) (by decide) fun _ _ h=>h.elim
theorem PM.put (h:PM own G m s) (hb:b < G.nx → own b ≠ 10) (o:GObj):PM own (G.put b o) m s:=by
 by_cases hl:b < G.nx
 ·exact h.to (t:=11) (B:=fun x=>x = b) ((Stp.refl _ (fun x=>x = b) _ _).put (.inl rfl) o) (by decide) fun x _ (e:x = b)=>by rw [e]; exact hb hl
 ·exact h.to (t:=11) (B:=no) ((Stp.refl _ _ _ _).put (.inr (by omega)) o) (by decide) fun _ _ h=>h.elim
theorem RM.put (h:RM own G r s) (hb:b < G.nx → own b ≠ 11) (o:GObj):RM own (G.put b o) r s:=by
 by_cases hl:b < G.nx
 ·exact h.to (t:=10) (B:=fun x=>x = b) ((Stp.refl _ (fun x=>x = b) _ _).put (.inl rfl) o) (by decide) fun x _ (e:x = b)=>by rw [e]; exact hb hl
 ·exact h.to (t:=10) (B:=no) ((Stp.refl _ _ _ _).put (.inr (by omega)) o) (by decide) fun _ _ h=>h.elim
structure PW (B:Nat → Prop) (own:Nat → Nat) (G:GS) (own1:Nat → Nat) (G1:GS) (m:Nat) (s:MS):Prop where
 stp:Stp 10 B own G own1 G1
 pm:PM own1 G1 m s
structure RW (B:Nat → Prop) (own:Nat → Nat) (G:GS) (own1:Nat → Nat) (G1:GS) (r:Nat) (s:MS):Prop where
 stp:Stp 11 B own G own1 G1
 rm:RM own1 G1 r s
theorem PW.refl (h:PM own G m s):PW B own G own G m s:=⟨Stp.refl _ _ _ _,h⟩
theorem RW.refl (h:RM own G r s):RW B own G own G r s:=⟨Stp.refl _ _ _ _,h⟩
theorem PW.nx (w:PW B own G own1 G1 m s):G.nx ≤ G1.nx:=w.stp.nx
theorem RW.nx (w:RW B own G own1 G1 r s):G.nx ≤ G1.nx:=w.stp.nx
theorem PW.ext (w:PW B own G own1 G1 m s) (x:Ext G1 G2):PW B own G (grown own1 G1 13) G2 m s:=⟨w.stp.trans (B':=no) (Stp.ext x) fun _ _ h=>h.elim,w.pm.ext x⟩
theorem RW.ext (w:RW B own G own1 G1 r s) (x:Ext G1 G2):RW B own G (grown own1 G1 13) G2 r s:=⟨w.stp.trans (B':=no) (Stp.ext x) fun _ _ h=>h.elim,w.rm.ext x⟩
theorem PW.put (w:PW B own G own1 G1 m s) (hb:B b ∨ G.nx ≤ b) (h10:b < G1.nx → own1 b ≠ 10) (o:GObj):PW B own G own1 (G1.put b o) m s:=⟨w.stp.put hb o,w.pm.put h10 o⟩
theorem RW.put (w:RW B own G own1 G1 r s) (hb:B b ∨ G.nx ≤ b) (h10:b < G1.nx → own1 b ≠ 11) (o:GObj):RW B own G own1 (G1.put b o) r s:=⟨w.stp.put hb o,w.rm.put h10 o⟩
theorem PW.trans (w:PW B own G own1 G1 m s) (k:PW B' own1 G1 own2 G2 m s') (hs:∀ x,x < G.nx → B' x → B x):PW B own G own2 G2 m s':=⟨w.stp.trans k.stp hs,k.pm⟩
theorem RW.trans (w:RW B own G own1 G1 r s) (k:RW B' own1 G1 own2 G2 r s') (hs:∀ x,x < G.nx → B' x → B x):RW B own G own2 G2 r s':=⟨w.stp.trans k.stp hs,k.rm⟩
theorem PW.mono (w:PW B own G own1 G1 m s) (hs:∀ x,x < G.nx → B x → B' x):PW B' own G own1 G1 m s:=⟨w.stp.mono hs,w.pm⟩
theorem RW.mono (w:RW B own G own1 G1 r s) (hs:∀ x,x < G.nx → B x → B' x):RW B' own G own1 G1 r s:=⟨w.stp.mono hs,w.rm⟩
theorem PW.keep (w:PW B own G own1 G1 m s) {g:Nat} (hg:g < G.nx) (ht:own g ≠ 10) (hB:¬ B g):G1.obj g = G.obj g:=w.stp.keep hg ht hB
theorem RW.keep (w:RW B own G own1 G1 r s) {g:Nat} (hg:g < G.nx) (ht:own g ≠ 11) (hB:¬ B g):G1.obj g = G.obj g:=w.stp.keep hg ht hB
theorem pw_of (h:PM own G m s) {s1:MS} (q:ModP (Tag own G 10) G G1) (k:PMx (Grow (Tag own G 10) G G1) G1 m s1):PW no own G (grown own G 10) G1 m s1 :=
 ⟨⟨grown_agr,q.mono fun x hx=>.inl hx.2⟩,(sepP m s1).step q.nx k⟩
theorem PM.load (orc:FuncId → Bool) (h:PM own G m s) (a:Int):∃ own1 G1,(E orc).cl 59 [P0 m,.int .i64 a] G = some (.int .u64 (s.load a).new,G1) ∧ PW no own G own1 G1 m (s.load a):=by
 obtain ⟨bb,rest,hm⟩:=h
 obtain ⟨⟨x,G1⟩,e,rfl,q2,q3⟩:=load_ok orc hm a
 exact ⟨_,G1,e,pw_of ⟨bb,rest,hm⟩ q2 q3⟩
theorem PM.store (orc:FuncId → Bool) (h:PM own G m s) (a v:Int):∃ own1 G1,(E orc).cl 150 [P0 m,.int .i64 a,.int .u64 v] G = some (.tuple #[],G1) ∧ PW no own G own1 G1 m (s.store a v):=by
 obtain ⟨bb,rest,hm⟩:=h
 obtain ⟨⟨x,G1⟩,e,rfl,q2,q3⟩:=store_ok orc hm a v
 exact ⟨_,G1,e,pw_of ⟨bb,rest,hm⟩ q2 q3⟩
theorem PM.cas (orc:FuncId → Bool) (h:PM own G m s) (a v w:Int):∃ own1 G1,(E orc).cl 260 [P0 m,.int .i64 a,.int .u64 v,.int .u64 w] G = some (.bool (s.cas a v w).held,G1) ∧ PW no own G own1 G1 m (s.cas a v w):=by
 obtain ⟨bb,rest,hm⟩:=h
 obtain ⟨⟨x,G1⟩,e,rfl,q2,q3⟩:=cas_ok orc hm a v w
 exact ⟨_,G1,e,pw_of ⟨bb,rest,hm⟩ q2 q3⟩
end
end Go.Proofs.YtlaojmcekeohnaaGreatDoor.Lift
set_option linter.unusedVariables false
set_option linter.unusedSimpArgs false
set_option maxRecDepth 20000
namespace Go.Proofs.YtlaojmcekeohnaaGreatDoor.Lift
open Go Go.Proofs.YtlaojmcekeohnaaGreatDoor.Gh Go.Proofs
section
variable {A:Nat → Prop} {m r bb wb:Nat} {rest:List Int} {own:Nat → Nat} {G:GS} {s:MS}
end
end Go.Proofs.YtlaojmcekeohnaaGreatDoor.Lift
set_option linter.unusedVariables false
set_option linter.unusedSimpArgs false
set_option maxRecDepth 20000
namespace Go.Proofs.YtlaojmcekeohnaaGreatDoor.Lift
open Go Go.Proofs.YtlaojmcekeohnaaGreatDoor.Gh Go.Proofs
structure Ops (X:Type) where
 e:RowE X
 ok:(Nat → Nat) → GS → Nat → X → Prop
 to:∀ {own own':Nat → Nat} {G G':GS} {i:Nat} {x:X},ok own G i x → G.nx ≤ G'.nx → (∀ g,g < G.nx → own g = i → G'.obj g = G.obj g) → Agr own own' G → ok own' G' i x
structure RI {X:Type} (O:Ops X) (n:Nat) (own:Nat → Nat) (G:GS) (m r cb:Nat) (s:MS) (L:List X):Prop where
 pm:PM own G m s
 rm:RM own G r s
 ok:s.ok
 tc:own cb = 12
 lc:cb < G.nx
 oc:G.obj cb = some ⟨O.e.flat L,O.e.sz,false,1⟩
 len:L.length = n
 n9:n ≤ 9
 core:∀ i x,L[i]? = some x → O.ok own G i x
section
variable {X:Type} {O:Ops X} {n m r b cb t i:Nat} {B:Nat → Prop} {own own':Nat → Nat} {G G' G1:GS} {s s':MS} {L:List X} {ts:List Nat} {x y:X}
theorem PM.modT (h:PM own G m s) (q:ModT ts own G G') (h1:10 ∉ ts) (a:Agr own own' G):PM own' G' m s:=(sepP m s).tag h q h1 a
theorem RM.modT (h:RM own G r s) (q:ModT ts own G G') (h1:11 ∉ ts) (a:Agr own own' G):RM own' G' r s:=(sepR r s).tag h q h1 a
theorem Stp.modT (h:Stp t B own G own' G') (hB:∀ x,x < G.nx → B x → own x = i):ModT [t,i] own G G' :=
 ⟨h.mod.nx,fun g hg hn=>h.mod.obj g hg fun k=>hn (k.elim (fun k=>by simp [k]) fun k=>by simp [hB g hg k]),h.mod.nl,h.mod.loop⟩
theorem RI.lt (h:RI O n own G m r cb s L) (hx:L[i]? = some x):i < n:=by have:=(List.getElem?_eq_some_iff.1 hx).1; rw [h.len] at this; exact this
theorem RI.to (h:RI O n own G m r cb s L) (q:ModT [13] own G G') (a:Agr own own' G):RI O n own' G' m r cb s L :=
 ⟨h.pm.modT q (by simp) a,h.rm.modT q (by simp) a,h.ok,(a _ h.lc).trans h.tc,Nat.lt_of_lt_of_le h.lc q.nx,(q.same h.lc (by rw [h.tc]; simp)).trans h.oc,h.len,h.n9,
  fun i x hx=>O.to (h.core i x hx) q.nx (fun g hg hi=>q.same hg (by have:=h.lt hx; have:=h.n9; rw [hi]; simp; omega)) a⟩
theorem RI.ext (h:RI O n own G m r cb s L) (x:Ext G G'):RI O n (grown own G 13) G' m r cb s L:=h.to (ModT.ext x) grown_agr
theorem RI.room (h:RI O n own G m r cb s L) (k:Nat):RI O n (grown own G 13) (G.room k) m r cb s L:=h.ext ((Ext.refl G).room k)
theorem RI.begin (h:RI O n own G m r cb s L) (x:Ext G G') (hi:i < n) (hy:O.ok (grown own G i) (G'.put cb ⟨O.e.flat (L.set i y),O.e.sz,false,1⟩) i y) :
  RI O n (grown own G i) (G'.put cb ⟨O.e.flat (L.set i y),O.e.sz,false,1⟩) m r cb s (L.set i y):=by
 have lc:=h.lc
 have m1:ModT [12] own G (G'.put cb ⟨O.e.flat (L.set i y),O.e.sz,false,1⟩):=(ModT.ext x).put (.inl (by rw [h.tc]; simp)) _
 have a:Agr own (grown own G i) G:=grown_agr
 refine ⟨h.pm.modT m1 (by simp) a,h.rm.modT m1 (by simp) a,h.ok,(a _ lc).trans h.tc,Nat.lt_of_lt_of_le lc x.nx,by simp,by simpa using h.len,h.n9,fun j z hz=>?_⟩
 rw [List.getElem?_set] at hz
 split at hz
 ·rename_i hji
  subst hji
  rw [if_pos (by rw [h.len]; exact hi)] at hz
  cases hz
  exact hy
 ·exact O.to (h.core j z hz) m1.nx (fun g hg hj=>m1.same hg (by have:=h.lt hz; have:=h.n9; rw [hj]; simp; omega)) a
theorem RI.told (h:RI O n own G m r cb s L) (hx:L[i]? = some x) (q:ModT [10,11,i] own G G') (a:Agr own own' G) (p1:PM own' G' m s') (p2:RM own' G' r s') (p3:s'.ok) (hy:O.ok own' G' i y) (hrow:O.e.row y = O.e.row x) :
  RI O n own' G' m r cb s' (L.set i y):=by
 have hi:=h.lt hx
 have hn:=h.n9
 refine ⟨p1,p2,p3,(a _ h.lc).trans h.tc,Nat.lt_of_lt_of_le h.lc q.nx,?_,by simpa using h.len,hn,fun j z hz=>?_⟩
 ·rw [q.same h.lc (by rw [h.tc]; simp; omega),h.oc]
  congr 2
  have hl:i < L.length:=by rw [h.len]; exact hi
  rw [List.getElem?_eq_getElem hl] at hx
  have hx':=Option.some.inj hx
  rw [← O.e.flat_over L hl,hrow,← hx',O.e.flat_over L hl,List.set_getElem_self]
 ·rw [List.getElem?_set] at hz
  split at hz
  ·rename_i hji
   subst hji
   rw [if_pos (by rw [h.len]; exact hi)] at hz
   cases hz
   exact hy
  ·rename_i hji
   exact O.to (h.core j z hz) q.nx (fun g hg hj=>q.same hg (by have:=h.lt hz; rw [hj]; simp; omega)) a
end
end Go.Proofs.YtlaojmcekeohnaaGreatDoor.Lift
set_option linter.unusedVariables false
set_option linter.unusedSimpArgs false
set_option maxRecDepth 20000
namespace Go.Proofs.YtlaojmcekeohnaaGreatDoor.Lift
open Go Go.Proofs.YtlaojmcekeohnaaGreatDoor.Gh Go.Proofs
abbrev Own (own:Nat → Nat) (t:Nat):Nat → Prop:=fun x=>own x = t
section
variable {t u m r b:Nat} {B:Nat → Prop} {own own1 own2:Nat → Nat} {G G1 G2:GS} {s s' s1:MS}
theorem PW.extT (w:PW B own G own1 G1 m s) (x:Ext G1 G2) (t:Nat):PW B own G (grown own1 G1 t) G2 m s :=
 ⟨w.stp.trans (B':=no) (Stp.extA x grown_agr) fun _ _ h=>h.elim,w.pm.to (t:=11) (B:=no) (Stp.extA x grown_agr) (by decide) fun _ _ h=>h.elim⟩
theorem RW.extT (w:RW B own G own1 G1 r s) (x:Ext G1 G2) (t:Nat):RW B own G (grown own1 G1 t) G2 r s :=
 ⟨w.stp.trans (B':=no) (Stp.extA x grown_agr) fun _ _ h=>h.elim,w.rm.to (t:=10) (B:=no) (Stp.extA x grown_agr) (by decide) fun _ _ h=>h.elim⟩
theorem PW.tr (w:PW (Own own t) own G own1 G1 m s) (k:PW (Own own1 t) own1 G1 own2 G2 m s'):PW (Own own t) own G own2 G2 m s':=w.trans k fun _ hx h=>(w.stp.same hx).symm.trans h
theorem RW.tr (w:RW (Own own t) own G own1 G1 r s) (k:RW (Own own1 t) own1 G1 own2 G2 r s'):RW (Own own t) own G own2 G2 r s':=w.trans k fun _ hx h=>(w.stp.same hx).symm.trans h
theorem PW.any (w:PW no own G own1 G1 m s):PW B own G own1 G1 m s:=w.mono fun _ _ h=>h.elim
theorem RW.any (w:RW no own G own1 G1 r s):RW B own G own1 G1 r s:=w.mono fun _ _ h=>h.elim
theorem PW.putT (w:PW (Own own t) own G own1 G1 m s) (hb:own1 b = t) (ht:t ≠ 10) (o:GObj):PW (Own own t) own G own1 (G1.put b o) m s:=by
 refine w.put ?_ (fun _=>by rw [hb]; exact ht) o
 by_cases hl:b < G.nx
 ·exact .inl ((w.stp.same hl).symm.trans hb)
 ·exact .inr (by omega)
theorem RW.putT (w:RW (Own own t) own G own1 G1 r s) (hb:own1 b = t) (ht:t ≠ 11) (o:GObj):RW (Own own t) own G own1 (G1.put b o) r s:=by
 refine w.put ?_ (fun _=>by rw [hb]; exact ht) o
 by_cases hl:b < G.nx
 ·exact .inl ((w.stp.same hl).symm.trans hb)
 ·exact .inr (by omega)
theorem PW.modT (w:PW (Own own t) own G own1 G1 m s) (q:ModP (Own own1 t) G1 G2) (ht:t ≠ 10) (u:Nat):PW (Own own t) own G (grown own1 G1 u) G2 m s :=
 w.tr ⟨⟨grown_agr,q.mono fun _ h=>.inr h⟩,w.pm.to (t:=t) (B:=Own own1 t) ⟨grown_agr,q.mono fun _ h=>.inl h⟩ ht fun _ _ h=>by rw [h]; exact ht⟩
theorem RW.modT (w:RW (Own own t) own G own1 G1 r s) (q:ModP (Own own1 t) G1 G2) (ht:t ≠ 11) (u:Nat):RW (Own own t) own G (grown own1 G1 u) G2 r s :=
 w.tr ⟨⟨grown_agr,q.mono fun _ h=>.inr h⟩,w.rm.to (t:=t) (B:=Own own1 t) ⟨grown_agr,q.mono fun _ h=>.inl h⟩ ht fun _ _ h=>by rw [h]; exact ht⟩
theorem PW.ofThr (th:Thr (fun A G=>PMx A G m s1) (Tag own G 10) b G G1) (hb:own b = t):PW (Own own t) own G (grown own G 10) G1 m s1 :=
 ⟨⟨grown_agr,th.mod.mono fun x hx=>hx.imp (·.2) fun (e:x = b)=>by rw [e]; exact hb⟩,(sepP m s1).step th.mod.nx th.st⟩
theorem RW.ofThr (th:Thr (fun A G=>RMx A G r s1) (Tag own G 11) b G G1) (hb:own b = t):RW (Own own t) own G (grown own G 11) G1 r s1 :=
 ⟨⟨grown_agr,th.mod.mono fun x hx=>hx.imp (·.2) fun (e:x = b)=>by rw [e]; exact hb⟩,(sepR r s1).step th.mod.nx th.st⟩
theorem PM.notIn (ht:own b = t) (h:t ≠ 10):¬ Tag own G 10 b:=fun k=>h (ht.symm.trans k.2)
theorem RM.notIn (ht:own b = t) (h:t ≠ 11):¬ Tag own G 11 b:=fun k=>h (ht.symm.trans k.2)
theorem PW.rm (w:PW (Own own t) own G own1 G1 m s) (h:RM own G r s') (ht:t ≠ 11):RM own1 G1 r s':=h.to w.stp (by decide) fun _ _ k=>by rw [k]; exact ht
theorem RW.pm (w:RW (Own own t) own G own1 G1 r s) (h:PM own G m s') (ht:t ≠ 10):PM own1 G1 m s':=h.to w.stp (by decide) fun _ _ k=>by rw [k]; exact ht
theorem PW.mt (w:PW (Own own t) own G own1 G1 m s) {ts:List Nat} (h1:10 ∈ ts) (h2:t ∈ ts):ModT ts own G G1:=ModP.mono w.stp.mod fun x hx=>hx.elim (fun h=>by rw [h]; exact h1) fun h=>by rw [show own x = t from h]; exact h2
theorem RW.mt (w:RW (Own own t) own G own1 G1 r s) {ts:List Nat} (h1:11 ∈ ts) (h2:t ∈ ts):ModT ts own G G1:=ModP.mono w.stp.mod fun x hx=>hx.elim (fun h=>by rw [h]; exact h1) fun h=>by rw [show own x = t from h]; exact h2
end
structure At (own:Nat → Nat) (t:Nat) (G:GS) (b:Nat):Prop where
 lt:b < G.nx
 tag:own b = t
theorem At.to {own own':Nat → Nat} {t b:Nat} {G G':GS} (h:At own t G b) (hn:G.nx ≤ G'.nx) (a:Agr own own' G):At own' t G' b:=⟨Nat.lt_of_lt_of_le h.lt hn,(a _ h.lt).trans h.tag⟩
section
variable {t u m r b:Nat} {B:Nat → Prop} {own own1 own2:Nat → Nat} {G G1 G2:GS} {s s' s1:MS}
theorem At.putO (h:At own t G b) (g:Nat) (o:GObj):At own t (G.put g o) b:=⟨h.lt,h.tag⟩
theorem At.extO (h:At own t G b) (x:Ext G G1) (u:Nat):At (grown own G u) t G1 b:=h.to x.nx grown_agr
theorem At.new {q:Nat} (h1:G.nx ≤ q) (h2:q < G1.nx):At (grown own G t) t G1 q:=⟨h2,grown_new h1⟩
structure OwT (own:Nat → Nat) (t:Nat) (G:GS) (v:Value) (L:List Int):Prop where
 ow:OwR (rowsI .i64) 0 G v L
 tag:∀ g,InB v g → own g = t
theorem OwT.lt {v:Value} {L:List Int} (h:OwT own t G v L) {g:Nat} (hg:InB v g):g < G.nx:=h.ow.is.under g hg
theorem OwT.nil (own:Nat → Nat) (t:Nat) (G:GS):OwT own t G (.slice none 0 0) []:=⟨OwR.nil _ _,fun g ⟨a,n,c,he,_⟩=>by cases he⟩
theorem OwT.to {v:Value} {L:List Int} (h:OwT own t G v L) (hn:G.nx ≤ G1.nx) (hk:∀ g,InB v g → G1.obj g = G.obj g) (ha:Agr own own1 G):OwT own1 t G1 v L :=
 ⟨h.ow.kept hn hk,fun g hg=>(ha g (h.lt hg)).trans (h.tag g hg)⟩
theorem OwT.one {v:Value} {L:List Int} (h:OwT own t G v L):one v = true:=own_one h.ow
end
structure Opx (X:Type) where
 e:RowE X
 ok:(Nat → Nat) → GS → Nat → X → Prop
 to:∀ {own own':Nat → Nat} {G G':GS} {i:Nat} {x:X},ok own G i x → G.nx ≤ G'.nx → (∀ g,g < G.nx → own g = i ∨ own g = 100 + i → G'.obj g = G.obj g) → Agr own own' G → ok own' G' i x
structure RJ {X:Type} (O:Opx X) (n:Nat) (own:Nat → Nat) (G:GS) (m r cb:Nat) (s:MS) (L:List X):Prop where
 pm:PM own G m s
 rm:RM own G r s
 ok:s.ok
 tc:own cb = 12
 lc:cb < G.nx
 oc:G.obj cb = some ⟨O.e.flat L,O.e.sz,false,1⟩
 len:L.length = n
 n9:n ≤ 9
 core:∀ i x,L[i]? = some x → O.ok own G i x
section
variable {X:Type} {O O':Opx X} {n m r b cb t i:Nat} {B:Nat → Prop} {own own':Nat → Nat} {G G' G1:GS} {s s':MS} {L:List X} {ts:List Nat} {x y:X}
theorem RJ.lt (h:RJ O n own G m r cb s L) (hx:L[i]? = some x):i < n:=by have:=(List.getElem?_eq_some_iff.1 hx).1; rw [h.len] at this; exact this
theorem RJ.to (h:RJ O n own G m r cb s L) (q:ModT [13] own G G') (a:Agr own own' G):RJ O n own' G' m r cb s L :=
 ⟨h.pm.modT q (by simp) a,h.rm.modT q (by simp) a,h.ok,(a _ h.lc).trans h.tc,Nat.lt_of_lt_of_le h.lc q.nx,(q.same h.lc (by rw [h.tc]; simp)).trans h.oc,h.len,h.n9,
  fun i x hx=>O.to (h.core i x hx) q.nx (fun g hg hi=>q.same hg (by have:=h.lt hx; have:=h.n9; rcases hi with hi | hi <;> (rw [hi]; simp; omega))) a⟩
theorem RJ.ext (h:RJ O n own G m r cb s L) (x:Ext G G'):RJ O n (grown own G 13) G' m r cb s L:=h.to (ModT.ext x) grown_agr
theorem RJ.room (h:RJ O n own G m r cb s L) (k:Nat):RJ O n (grown own G 13) (G.room k) m r cb s L:=h.ext ((Ext.refl G).room k)
theorem RJ.begin (h:RJ O n own G m r cb s L) (x:Ext G G') (hi:i < n) (a:Agr own own' G) (hy:O.ok own' (G'.put cb ⟨O.e.flat (L.set i y),O.e.sz,false,1⟩) i y) :
  RJ O n own' (G'.put cb ⟨O.e.flat (L.set i y),O.e.sz,false,1⟩) m r cb s (L.set i y):=by
 have lc:=h.lc
 have m1:ModT [12] own G (G'.put cb ⟨O.e.flat (L.set i y),O.e.sz,false,1⟩):=(ModT.ext x).put (.inl (by rw [h.tc]; simp)) _
 refine ⟨h.pm.modT m1 (by simp) a,h.rm.modT m1 (by simp) a,h.ok,(a _ lc).trans h.tc,Nat.lt_of_lt_of_le lc x.nx,by simp,by simpa using h.len,h.n9,fun j z hz=>?_⟩
 rw [List.getElem?_set] at hz
 split at hz
 ·rename_i hji
  subst hji
  rw [if_pos (by rw [h.len]; exact hi)] at hz
  cases hz
  exact hy
 ·exact O.to (h.core j z hz) m1.nx (fun g hg hj=>m1.same hg (by have:=h.lt hz; have:=h.n9; rcases hj with hj | hj <;> (rw [hj]; simp; omega))) a
theorem RJ.told (h:RJ O n own G m r cb s L) (hx:L[i]? = some x) (q:ModT [10,11,i,100 + i] own G G') (a:Agr own own' G) (p1:PM own' G' m s') (p2:RM own' G' r s') (p3:s'.ok) (hy:O.ok own' G' i y) (hrow:O.e.row y = O.e.row x) :
  RJ O n own' G' m r cb s' (L.set i y):=by
 have hi:=h.lt hx
 have hn:=h.n9
 refine ⟨p1,p2,p3,(a _ h.lc).trans h.tc,Nat.lt_of_lt_of_le h.lc q.nx,?_,by simpa using h.len,hn,fun j z hz=>?_⟩
 ·rw [q.same h.lc (by rw [h.tc]; simp; omega),h.oc]
  congr 2
  have hl:i < L.length:=by rw [h.len]; exact hi
  rw [List.getElem?_eq_getElem hl] at hx
  have hx':=Option.some.inj hx
  rw [← O.e.flat_over L hl,hrow,← hx',O.e.flat_over L hl,List.set_getElem_self]
 ·rw [List.getElem?_set] at hz
  split at hz
  ·rename_i hji
   subst hji
   rw [if_pos (by rw [h.len]; exact hi)] at hz
   cases hz
   exact hy
  ·rename_i hji
   exact O.to (h.core j z hz) q.nx (fun g hg hj=>q.same hg (by have:=h.lt hz; rcases hj with hj | hj <;> (rw [hj]; simp; omega))) a
end
end Go.Proofs.YtlaojmcekeohnaaGreatDoor.Lift
set_option linter.unusedVariables false
set_option linter.unusedSimpArgs false
set_option maxRecDepth 20000
namespace Go.Proofs.YtlaojmcekeohnaaGreatDoor.Lift
open Go Go.Proofs.YtlaojmcekeohnaaGreatDoor.Gh Go.Proofs
section
variable {G B:GS} {A:List Int} {v0:Value}
end
end Go.Proofs.YtlaojmcekeohnaaGreatDoor.Lift
set_option linter.unusedVariables false
set_option linter.unusedSimpArgs false
set_option maxRecDepth 20000
namespace Go.Proofs.YtlaojmcekeohnaaGreatDoor.Lift
open Go Go.Proofs.YtlaojmcekeohnaaGreatDoor.Gh Go.Proofs
structure MB where
 first:Int
 cores:Int
 room:Int
abbrev MB.cells (x:MB):List Value:=[.int .i64 x.first,.int .i64 x.cores,.int .i64 x.room]
abbrev MB.v (x:MB):Value:=.agg ⟨x.cells⟩
def MB.sized (x:MB):Prop:=1 ≤ x.cores ∧ x.cores ≤ 64 ∧ 1 ≤ x.room ∧ x.room ≤ 16
def MB.placed (x:MB):Prop:=x.sized ∧ 0 ≤ x.first ∧ x.first < 4096
instance (x:MB):Decidable x.sized:=by unfold MB.sized; exact inferInstance
instance (x:MB):Decidable x.placed:=by unfold MB.placed; exact inferInstance
section
variable {x:MB} {G:GS}
theorem msized_ok (orc:FuncId → Bool) (x:MB) (G:GS):∃ G',(E orc).cl 168 [x.v] G = some (.bool (decide x.sized),G') ∧ Ext G G':=by
 refine ⟨G.push ⟨x.cells,1,false,1⟩,f168 (exL_ok Q orc) _ G _ ?_,(Ext.refl G).push _⟩
 unfold MB.sized
 by_cases h1:1 ≤ x.cores
 ·by_cases h2:x.cores ≤ 64
  ·by_cases h3:1 ≤ x.room <;> simp [s168,h1,h2,h3]
  ·simp [s168,h1,h2]
 ·simp [s168,h1]
theorem box_ext {cs:List Value} {G':GS} (h:Ext (G.push ⟨cs,1,false,1⟩) G'):G'.obj G.nx = some ⟨cs,1,false,1⟩:=(h.obj G.nx (by simp)).trans (by simp)
theorem mplaced_ok (orc:FuncId → Bool) (x:MB) (G:GS):∃ G',(E orc).cl 166 [x.v] G = some (.bool (decide x.placed),G') ∧ Ext G G':=by
 obtain ⟨G1,e1,x1⟩:=msized_ok orc x (G.push ⟨x.cells,1,false,1⟩)
 have o1:=box_ext x1
 refine ⟨G1,f166 (exL_ok Q orc) _ G _ ?_,((Ext.refl G).push _).trans x1⟩
 unfold MB.placed
 by_cases h1:x.sized
 ·by_cases h2:0 ≤ x.first <;> simp [s166,e1,o1,h1,h2]
 ·simp [s166,e1,o1,h1]
def MB.size (x:MB):Int:=if x.sized then IntKind.wrap .i64 (x.cores * IntKind.wrap .i64 (x.room + 2)) else 0
def MB.ref (x:MB) (c:Int):Int:=if x.placed then (if c < 0 ∨ x.cores ≤ c then 3 else 0) else 2
theorem mref_ok (orc:FuncId → Bool) (x:MB) (c:Int) (G:GS):∃ G',(E orc).cl 95 [x.v,.int .i64 c] G = some (.int .i64 (x.ref c),G') ∧ Ext G G':=by
 obtain ⟨G1,e1,x1⟩:=mplaced_ok orc x (G.push ⟨x.cells,1,false,1⟩)
 have o1:=box_ext x1
 refine ⟨G1,f95 (exL_ok Q orc) _ _ G _ ?_,((Ext.refl G).push _).trans x1⟩
 unfold MB.ref
 by_cases h1:x.placed
 ·by_cases h2:c < 0
  ·simp [s95,e1,o1,h1,h2]
  ·by_cases h3:x.cores ≤ c <;> simp [s95,e1,o1,h1,h2,h3]
 ·simp [s95,e1,o1,h1]
def MB.ring (x:MB) (c:Int):List Value:=[.int .i64 (IntKind.wrap .i64 (x.first + IntKind.wrap .i64 (c * IntKind.wrap .i64 (x.room + 2)))),.int .i64 (IntKind.wrap .i64 (IntKind.wrap .i64 (x.first + IntKind.wrap .i64 (c * IntKind.wrap .i64 (x.room + 2))) + 1)),.int .i64 (IntKind.wrap .i64 (IntKind.wrap .i64 (x.first + IntKind.wrap .i64 (c * IntKind.wrap .i64 (x.room + 2))) + 2)),.int .i64 x.room]
def MB.box (x:MB) (c:Int):Value:=if x.placed ∧ 0 ≤ c ∧ c < x.cores then .tuple #[.agg ⟨x.ring c⟩,.bool true] else .tuple #[.agg ⟨[.int .i64 0,.int .i64 0,.int .i64 0,.int .i64 0]⟩,.bool false]
end
end Go.Proofs.YtlaojmcekeohnaaGreatDoor.Lift
set_option linter.unusedVariables false
set_option linter.unusedSimpArgs false
set_option maxRecDepth 20000
namespace Go.Proofs.YtlaojmcekeohnaaGreatDoor.Lift
open Go Go.Proofs.YtlaojmcekeohnaaGreatDoor.Gh Go.Proofs
noncomputable abbrev lpM (T:List Value):Lp:=⟨.ready,none,T,[14,15],(subAt [1,1,0,1,0,0] (bodyOf Tryz.f88)),(subAt [1,1,0,1,0,1] (bodyOf Tryz.f88))⟩
abbrev zR:List Value:=[.int .i64 0,.int .i64 0,.int .i64 0,.int .i64 0]
structure BxS (x:MB) (c:Int) (A:GS) (l xb cb rb fb:Nat) (T:List Value) (G:GS):Prop where
 ext:Ext A G
 lp:G.loop l = some (lpM T)
 nl:A.nl ≤ l
 ox:G.obj xb = some ⟨x.cells,1,false,1⟩
 oc:G.obj cb = some ⟨[.int .i64 c],1,false,1⟩
 or:G.obj rb = some ⟨zR,1,false,1⟩
 of:G.obj fb = some ⟨[.bool false],1,false,1⟩
 lx:A.nx ≤ xb ∧ xb < G.nx
 lc:A.nx ≤ cb ∧ cb < G.nx
 lr:A.nx ≤ rb ∧ rb < G.nx
 lf:A.nx ≤ fb ∧ fb < G.nx
 ne:rb ≠ fb
structure BxF (R:List Value) (A:GS) (l rb fb:Nat) (T:List Value) (G:GS):Prop where
 ext:Ext A G
 lp:G.loop l = some { lpM T with st:=.done,pend:=some .ret }
 nl:A.nl ≤ l
 or:G.obj rb = some ⟨R,1,false,1⟩
 of:G.obj fb = some ⟨[.bool true],1,false,1⟩
section
variable {x:MB} {c:Int} {A G:GS} {l xb cb rb fb:Nat} {T:List Value}
theorem bx_round (orc:FuncId → Bool) {k:Int} (hT:T.length = 21) (t3:nth undef T 3 = P0 cb) (t4:nth undef T 4 = P0 rb) (t5:nth undef T 5 = P0 fb) (h:BxS x c A l xb cb rb fb T G) (hk:¬ k = c) (R:List Value) (hR:R.length = 4) (hR1:R.all one = true) :
  Wp ((E orc).rd l [.int .i64 k,.agg ⟨R⟩] G) fun q=>q.1 = .bool true ∧ BxS x c A l xb cb rb fb T q.2:=by
 refine Wp.ref (d88_0 (exL_ok Q orc) l T _ _ G h.lp hT) ?_
 match R,hR with
 | [r0,r1,r2,r3],_ =>
 simp at hR1
 obtain ⟨o0,o1,o2,o3⟩:=hR1
 obtain ⟨G1,hG1⟩:∃ G1,G1 = ((G.push ⟨zR,1,false,1⟩).put G.nx ⟨[r0,r1,r2,r3],1,false,1⟩):=⟨_,rfl⟩
 have x1:Ext G G1:=by rw [hG1]; exact ((Ext.refl G).push _).put (Nat.le_refl _) _
 have l1:G1.loop l = some (lpM T):=by rw [hG1]; simpa using h.lp
 obtain ⟨G2,hG2⟩:∃ G2,G2 = G1.putLoop l (Lp.setSt (lpM T) .busy):=⟨_,rfl⟩
 have n1:G1.nx = G.nx + 1:=by rw [hG1]; rfl
 have ob1:∀ b,b < G.nx → G2.obj b = G.obj b:=fun b hb=>by rw [hG2]; simp only [obj_putLoop]; exact x1.obj b hb
 have l2:G2.loop l = some (Lp.setSt (lpM T) .busy):=by rw [hG2]; simp
 have oc2:=(ob1 cb h.lc.2).trans h.oc
 have oc1:=(x1.obj cb h.lc.2).trans h.oc
 have hrd:roundEnd l .normal G2 = some (.bool true,G2.putLoop l (lpM T)):=by
  rw [roundEnd_some l .normal _ (j:=none) rfl l2]
  rfl
 have x2:Ext A G2:=by rw [hG2]; exact (h.ext.trans x1).putLoop h.nl _
 have n2:G2.nx = G.nx + 1:=by rw [hG2,nx_putLoop,n1]
 simp [r88_0,t3,t4,t5,← hG1,o0,o1,o2,o3,splice_put,splice_end]
 simp [l1,← hG2,oc1,hk,hrd]
 exact ⟨x2.putLoop h.nl _,by simp,h.nl,by simpa using (ob1 xb h.lx.2).trans h.ox,by simpa using oc2,by simpa using (ob1 rb h.lr.2).trans h.or,by simpa using (ob1 fb h.lf.2).trans h.of,⟨h.lx.1,by simp [n2]; have:=h.lx.2; omega⟩,⟨h.lc.1,by simp [n2]; have:=h.lc.2; omega⟩,⟨h.lr.1,by simp [n2]; have:=h.lr.2; omega⟩,⟨h.lf.1,by simp [n2]; have:=h.lf.2; omega⟩,h.ne⟩
theorem bx_found (orc:FuncId → Bool) (hT:T.length = 21) (t3:nth undef T 3 = P0 cb) (t4:nth undef T 4 = P0 rb) (t5:nth undef T 5 = P0 fb) (h:BxS x c A l xb cb rb fb T G) (R:List Value) (hR:R.length = 4) (hR1:R.all one = true) :
  Wp ((E orc).rd l [.int .i64 c,.agg ⟨R⟩] G) fun q=>q.1 = .bool false ∧ BxF R A l rb fb T q.2:=by
 refine Wp.ref (d88_0 (exL_ok Q orc) l T _ _ G h.lp hT) ?_
 match R,hR with
 | [r0,r1,r2,r3],_ =>
 simp at hR1
 obtain ⟨o0,o1,o2,o3⟩:=hR1
 obtain ⟨G1,hG1⟩:∃ G1,G1 = ((G.push ⟨zR,1,false,1⟩).put G.nx ⟨[r0,r1,r2,r3],1,false,1⟩):=⟨_,rfl⟩
 have x1:Ext G G1:=by rw [hG1]; exact ((Ext.refl G).push _).put (Nat.le_refl _) _
 have l1:G1.loop l = some (lpM T):=by rw [hG1]; simpa using h.lp
 obtain ⟨G2,hG2⟩:∃ G2,G2 = G1.putLoop l (Lp.setSt (lpM T) .busy):=⟨_,rfl⟩
 have n1:G1.nx = G.nx + 1:=by rw [hG1]; rfl
 have l2:G2.loop l = some (Lp.setSt (lpM T) .busy):=by rw [hG2]; simp
 have oc1:=(x1.obj cb h.lc.2).trans h.oc
 have or1:=(x1.obj rb h.lr.2).trans h.or
 have of1:=(x1.obj fb h.lf.2).trans h.of
 have on1:G1.obj G.nx = some ⟨[r0,r1,r2,r3],1,false,1⟩:=by rw [hG1]; simp
 have x2:Ext A G2:=by rw [hG2]; exact (h.ext.trans x1).putLoop h.nl _
 have ne:=h.ne
 have ne':¬ fb = rb:=fun e=>ne e.symm
 obtain ⟨G3,hG3⟩:∃ G3,G3 = (G2.put rb ⟨[r0,r1,r2,r3],1,false,1⟩).put fb ⟨[.bool true],1,false,1⟩:=⟨_,rfl⟩
 have l3:G3.loop l = some (Lp.setSt (lpM T) .busy):=by rw [hG3]; simpa using l2
 have x3:Ext A G3:=by rw [hG3]; exact (x2.put h.lr.1 _).put h.lf.1 _
 have hrd:roundEnd l .ret G3 = some (.bool false,G3.putLoop l { lpM T with st:=.done,pend:=some .ret }):=by
  rw [roundEnd_some l .ret _ (j:=some .ret) rfl l3]
  rfl
 have oG2:∀ b,G2.obj b = G1.obj b:=fun b=>by rw [hG2]; simp
 simp [r88_0,t3,t4,t5,← hG1,o0,o1,o2,o3,splice_put,splice_end]
 simp [l1,← hG2,oc1,oG2,or1,of1,on1,ne,ne',o0,o1,o2,o3,splice_put,splice_end]
 rw [← hG3,hrd]
 simp
 refine ⟨x3.putLoop h.nl _,by simp,h.nl,?_,?_⟩
 ·rw [hG3]; simp [ne]
 ·rw [hG3]; simp
end
end Go.Proofs.YtlaojmcekeohnaaGreatDoor.Lift
set_option linter.unusedVariables false
set_option linter.unusedSimpArgs false
set_option maxRecDepth 20000
namespace Go.Proofs.YtlaojmcekeohnaaGreatDoor.Lift
open Go Go.Proofs.YtlaojmcekeohnaaGreatDoor.Gh Go.Proofs
section
variable {x:MB} {c:Int} {A G:GS} {l xb cb rb fb:Nat} {T:List Value}
inductive BxE (x:MB) (c:Int) (A:GS) (l xb cb rb fb:Nat) (T:List Value) (i:Nat) (e:Exit) (G:GS):Prop
 | no:e = .exit 0 → ¬ ((i:Int) ≤ c ∧ c < x.cores) → BxS x c A l xb cb rb fb T G → BxE x c A l xb cb rb fb T i e G
 | yes:e = .ret → ((i:Int) ≤ c ∧ c < x.cores) → BxF (x.ring c) A l rb fb T G → BxE x c A l xb cb rb fb T i e G
theorem ring_len (x:MB) (c:Int):(x.ring c).length = 4 ∧ (x.ring c).all one = true:=⟨rfl,rfl⟩
theorem boxes_lp (orc:FuncId → Bool) (hT:T.length = 21) (t3:nth undef T 3 = P0 cb) (t4:nth undef T 4 = P0 rb) (t5:nth undef T 5 = P0 fb) (hx:x.sized):∀ (k i:Nat) (τ:Env) (G:GS),(i:Int) + k = x.cores → τ 0 = .func (.yield l) #[] #[] → τ 1 = P0 xb → τ 6 = .int .i64 x.cores → τ 7 = .int .i64 i →
  BxS x c A l xb cb rb fb T G → Wp ((exL Q orc).lpx 222 0 τ G) fun r=>BxE x c A l xb cb rb fb T i r.1 r.2.2:=by
 intro k
 induction k with
 | zero =>
  intro i τ G hi t0 t1 t6 t7 h
  refine Wp.lp (l222_0 (exL_ok Q orc)) ?_
  have hi':¬ (i:Int) < x.cores:=by omega
  simp [-Int.natCast_add,b222_0,clip_t,t0,t1,t6,t7,hi']
  exact .no rfl (by omega) h
 | succ k ih =>
  intro i τ G hi t0 t1 t6 t7 h
  refine Wp.lp (l222_0 (exL_ok Q orc)) ?_
  have hi':(i:Int) < x.cores:=by omega
  have hx':=hx.2.1
  have hw:IntKind.wrap .i64 ((i:Int) + 1) = ((i + 1:Nat):Int):=wrap64 (by omega) (by omega)
  have ox:=h.ox
  obtain ⟨R,hR⟩:∃ R,R = x.ring i:=⟨_,rfl⟩
  have hR':=hR
  unfold MB.ring at hR'
  by_cases hc:(i:Int) = c
  ·obtain ⟨⟨v,G1⟩,e1,rfl,h1⟩:=bx_found orc hT t3 t4 t5 h R (by rw [hR]; rfl) (by rw [hR]; rfl)
   rw [← hc] at e1
   simp [-Int.natCast_add,b222_0,clip_t,t0,t1,t6,t7,hi',ox,← hR',e1]
   rw [hR,hc] at h1
   exact .yes rfl (by omega) h1
  ·obtain ⟨⟨v,G1⟩,e1,rfl,h1⟩:=bx_round orc hT t3 t4 t5 h hc R (by rw [hR]; rfl) (by rw [hR]; rfl)
   simp [-Int.natCast_add,b222_0,clip_t,t0,t1,t6,t7,hi',ox,← hR',e1,hw]
   refine (ih (i + 1) _ G1 (by omega) (by simp [clip_t,t0]) (by simp [clip_t,t1]) (by simp [clip_t,t6]) (by simp [clip_t]) h1).mono ?_
   rintro r (⟨r1,r2,r3⟩ | ⟨r1,r2,r3⟩)
   ·exact .no r1 (by omega) r3
   ·exact .yes r1 (by omega) r3
theorem boxes_ok (orc:FuncId → Bool) (hT:T.length = 21) (t3:nth undef T 3 = P0 cb) (t4:nth undef T 4 = P0 rb) (t5:nth undef T 5 = P0 fb) (hx:x.sized) (h:BxS x c A l xb cb rb fb T G) :
  ∃ G' e,(E orc).cl 222 [.func (.yield l) #[] #[],P0 xb] G = some (.tuple #[],G') ∧ BxE x c A l xb cb rb fb T 0 e G':=by
 have ox:=h.ox
 have hx':=hx.1
 have w:Wp (s222 true (exL Q orc) (.func (.yield l) #[] #[]) (P0 xb) G) fun r=>r.1 = .tuple #[] ∧ ∃ e,BxE x c A l xb cb rb fb T 0 e r.2:=by
  simp [s222,ox]
  refine Wp.bE ((boxes_lp orc hT t3 t4 t5 hx x.cores.toNat 0 _ G (by omega) (by simp [clip_t]) (by simp [clip_t]) (by simp [clip_t]) (by simp [clip_t]) h).mono ?_)
  rintro ⟨e,τ,G'⟩ hE
  simp only at hE
  have hE':=hE
  rcases hE with ⟨rfl,r2,r3⟩ | ⟨rfl,r2,r3⟩
  ·simp; exact ⟨_,hE'⟩
  ·simp; exact ⟨_,hE'⟩
 obtain ⟨⟨v,G'⟩,e1,rfl,e,e3⟩:=w
 exact ⟨G',e,f222 (exL_ok Q orc) _ _ G _ e1,e3⟩
end
theorem bclose_ok (orc:FuncId → Bool) (x:MB) (G:GS):(E orc).cl 167 [x.v] G = some (.func (.func 222) #[] #[P0 G.nx],G.push ⟨x.cells,1,false,1⟩):=by
 refine f167 (exL_ok Q orc) _ G _ ?_
 simp [s167]
theorem mbox_ok (orc:FuncId → Bool) (x:MB) (c:Int) (G:GS):∃ G',(E orc).cl 88 [x.v,.int .i64 c] G = some (x.box c,G') ∧ Ext G G':=by
 obtain ⟨G3,hG3⟩:∃ G3,G3 = (((G.push ⟨x.cells,1,false,1⟩).push ⟨[.int .i64 c],1,false,1⟩).push ⟨zR,1,false,1⟩).push ⟨[.bool false],1,false,1⟩:=⟨_,rfl⟩
 have x3:Ext G G3:=by rw [hG3]; exact ((((Ext.refl G).push _).push _).push _).push _
 have n3:G3.nx = G.nx + 4:=by rw [hG3]; rfl
 have o0:G3.obj G.nx = some ⟨x.cells,1,false,1⟩:=by rw [hG3]; simp [Nat.add_assoc]
 have o1:G3.obj (G.nx + 1) = some ⟨[.int .i64 c],1,false,1⟩:=by rw [hG3]; simp [Nat.add_assoc]
 have o2:G3.obj (G.nx + 2) = some ⟨zR,1,false,1⟩:=by rw [hG3]; simp [Nat.add_assoc]
 have o3:G3.obj (G.nx + 3) = some ⟨[.bool false],1,false,1⟩:=by rw [hG3]; simp [Nat.add_assoc]
 obtain ⟨G4,e4,x4⟩:=mplaced_ok orc x G3
 have p0:=(x4.obj G.nx (by omega)).trans o0
 have p1:=(x4.obj (G.nx + 1) (by omega)).trans o1
 have p2:=(x4.obj (G.nx + 2) (by omega)).trans o2
 have p3:=(x4.obj (G.nx + 3) (by omega)).trans o3
 have y4:=x3.trans x4
 have n4:=x4.nx
 have w:Wp (s88 true (exL Q orc) x.v (.int .i64 c) G) fun r=>r.1 = x.box c ∧ Ext G r.2:=by
  unfold s88
  by_cases hp:x.placed
  ·simp only [hp,decide_true] at e4
   have d0:G.nx + 1 + 1 + 1 = G.nx + 3:=rfl
   have d1:G.nx + 1 + 1 = G.nx + 2:=rfl
   simp [← hG3,o0,o1,o2,o3,e4,p0,bclose_ok]
   generalize hTT:lst 21 (tu (nth undef _) _) = T
   have hT:T.length = 21:=by rw [← hTT]; exact length_lst 21 _
   have t3:nth undef T 3 = P0 (G.nx + 1):=by rw [← hTT,nth_lst]; simp [clip_t]
   have t4:nth undef T 4 = P0 (G.nx + 2):=by rw [← hTT,nth_lst]; simp [clip_t]
   have t5:nth undef T 5 = P0 (G.nx + 3):=by rw [← hTT,nth_lst]; simp [clip_t]
   clear hTT
   obtain ⟨G5,hG5⟩:∃ G5,G5 = (G4.push ⟨x.cells,1,false,1⟩).pushLoop (lpM T):=⟨_,rfl⟩
   have x5:Ext G G5:=by rw [hG5]; exact (y4.push _).pushLoop _
   have x5':Ext G4 G5:=by rw [hG5]; exact ((Ext.refl G4).push _).pushLoop _
   have n5:G5.nx = G4.nx + 1:=by rw [hG5]; rfl
   have l5:G5.loop G4.nl = some (lpM T):=by rw [hG5]; simp
   have hS:BxS x c G G4.nl G4.nx (G.nx + 1) (G.nx + 2) (G.nx + 3) T G5:=⟨x5,l5,y4.nl,by rw [hG5]; simp,(x5'.obj _ (by omega)).trans p1,(x5'.obj _ (by omega)).trans p2,(x5'.obj _ (by omega)).trans p3,by omega,by omega,by omega,by omega,by omega⟩
   obtain ⟨G6,e,e6,hE⟩:=boxes_ok orc hT t3 t4 t5 hp.1 hS
   rw [← hG5]
   simp only [List.nil_append,List.singleton_append,List.cons_append,e6]
   rcases hE with ⟨rfl,r2,r3⟩ | ⟨rfl,r2,r3⟩
   ·have hb:x.box c = .tuple #[.agg ⟨zR⟩,.bool false]:=by unfold MB.box; rw [if_neg (fun h=>r2 ⟨by omega,h.2.2⟩)]
    rw [hb,xRangeEnd_some G4.nl T _ G6 r3.lp (by simp) rfl]
    have q2:=r3.or
    have q3:=r3.of
    simp [t4,t5,q2,q3,splice_put,splice_end]
    exact ((r3.ext.putLoop y4.nl _).put (by omega) _).put (by omega) _
   ·have hb:x.box c = .tuple #[.agg ⟨x.ring c⟩,.bool true]:=by unfold MB.box; rw [if_pos ⟨hp,by omega,r2.2⟩]
    rw [hb,xRangeEnd_some G4.nl T _ G6 r3.lp (by simp) rfl]
    have q2:=r3.or
    have q3:=r3.of
    have hl4:4 ≤ (x.ring c).length:=by rw [(ring_len x c).1]; omega
    have htk:(x.ring c).take 4 = x.ring c:=rfl
    simp [t4,t5,q2,q3,hl4,htk]
    exact r3.ext.putLoop y4.nl _
  ·simp only [hp,decide_false] at e4
   have hb:x.box c = .tuple #[.agg ⟨zR⟩,.bool false]:=by unfold MB.box; rw [if_neg (fun h=>hp h.1)]
   rw [hb]
   simp [← hG3,o0,o1,o2,o3,e4,p0,p2,p3,splice_put,splice_end]
   exact (y4.put (by omega) _).put (by omega) _
 obtain ⟨⟨v,G'⟩,e1,rfl,e3⟩:=w
 exact ⟨G',f88 (exL_ok Q orc) _ _ G _ e1,e3⟩
end Go.Proofs.YtlaojmcekeohnaaGreatDoor.Lift
set_option linter.unusedVariables false
set_option linter.unusedSimpArgs false
set_option maxRecDepth 20000
namespace Go.Proofs.YtlaojmcekeohnaaGreatDoor.Lift
open Go Go.Proofs.YtlaojmcekeohnaaGreatDoor.Gh Go.Proofs
def sendE (x:MB) (c v:Int):Int:=if x.ref c = 0 ∧ (v < 0 ∨ 65535 < v) then 3 else x.ref c
def drainE (x:MB) (c v:Int):Int:=if x.ref c = 0 ∧ v < 1 then 3 else x.ref c
theorem ref_zero {x:MB} {c:Int} (h:x.ref c = 0):x.placed ∧ 0 ≤ c ∧ c < x.cores:=by
 unfold MB.ref at h
 split at h
 ·split at h
  ·simp at h
  ·exact ⟨by assumption,by omega,by omega⟩
 ·simp at h
theorem box_zero {x:MB} {c:Int} (h:x.ref c = 0):x.box c = .tuple #[.agg ⟨x.ring c⟩,.bool true]:=by unfold MB.box; rw [if_pos (ref_zero h)]
theorem box_not {x:MB} {c:Int} (h:x.ref c ≠ 0):x.box c = .tuple #[.agg ⟨zR⟩,.bool false]:=by
 unfold MB.box; rw [if_neg]
 rintro ⟨h1,h2,h3⟩
 refine h ?_
 unfold MB.ref
 rw [if_pos h1,if_neg (by omega)]
end Go.Proofs.YtlaojmcekeohnaaGreatDoor.Lift
set_option linter.unusedVariables false
set_option linter.unusedSimpArgs false
set_option maxRecDepth 20000
namespace Go.Proofs.YtlaojmcekeohnaaGreatDoor.Lift
open Go Go.Proofs.YtlaojmcekeohnaaGreatDoor.Gh Go.Proofs
def MB.rg (x:MB) (c:Int):Rg:=⟨IntKind.wrap .i64 (x.first + IntKind.wrap .i64 (c * IntKind.wrap .i64 (x.room + 2))),IntKind.wrap .i64 (IntKind.wrap .i64 (x.first + IntKind.wrap .i64 (c * IntKind.wrap .i64 (x.room + 2))) + 1),IntKind.wrap .i64 (IntKind.wrap .i64 (x.first + IntKind.wrap .i64 (c * IntKind.wrap .i64 (x.room + 2))) + 2),x.room⟩
inductive SdS where
 | done (e:Int)
 | go (p:PuS)
def SdS.ok:SdS → Prop
 | .done _=>True
 | .go p=>p.ok ∧ p.over = false
def SdS.over:SdS → Bool
 | .done _=>true
 | .go _=>false
def SdS.err:SdS → Int
 | .done e=>e
 | .go _=>14
def SdS.after (p:PuS):SdS:=if p.over = true then .done p.err else .go p
def SdS.step:SdS → MS → SdS × MS
 | .done e,s=>(.done e,s)
 | .go p,s=>(SdS.after (p.step s).1,(p.step s).2)
theorem SdS.ok.step {p:SdS} {s:MS} (hp:p.ok) (hs:s.ok):(p.step s).1.ok ∧ (p.step s).2.ok:=by
 cases p with
 | done e=>exact ⟨trivial,hs⟩
 | go p =>
  have:=hp.1.step hs
  refine ⟨?_,this.2⟩
  unfold SdS.step SdS.after
  simp only
  split
  ·trivial
  ·exact ⟨this.1,by rename_i hz; simpa using hz⟩
inductive DnS where
 | done (e:Int) (l:List Int)
 | fr (R:Rg) (most:Int) (l:List Int) (p:FrS)
 | dr (R:Rg) (most:Int) (l:List Int) (v:Int) (p:DrS)
def DnS.ok (k:Nat):DnS → Prop
 | .done _ l=>l.length ≤ k
 | .fr R _ l p=>R.ok ∧ p.ok ∧ p.over = false ∧ l.length ≤ k
 | .dr R _ l _ p=>R.ok ∧ p.ok ∧ p.over = false ∧ l.length ≤ k
def DnS.over:DnS → Bool
 | .done ..=>true
 | _=>false
def DnS.err:DnS → Int
 | .done e _=>e
 | _=>14
def DnS.vals:DnS → List Int
 | .done e l=>if e = 0 then l else []
 | _=>[]
def DnS.afterF (R:Rg) (most:Int) (l:List Int) (p:FrS):DnS:=if p.over = true then (if p.err = 0 then .dr R most l p.val (newDr R p.at') else .done 0 l) else .fr R most l p
def DnS.afterD (R:Rg) (most:Int) (l:List Int) (v:Int) (p:DrS):DnS:=if p.over = true then (if ((l ++ [v]).length:Int) < most then .fr R most (l ++ [v]) (newFr R) else .done 0 (l ++ [v])) else .dr R most l v p
def DnS.step:DnS → MS → DnS × MS
 | .done e l,s=>(.done e l,s)
 | .fr R most l p,s=>(DnS.afterF R most l (p.step s).1,(p.step s).2)
 | .dr R most l v p,s=>(DnS.afterD R most l v (p.step s).1,(p.step s).2)
theorem newFr_go {R:Rg} (h:R.ok):newFr R = .go 1 R 0:=by unfold newFr; rw [if_pos h]
theorem newDr_go {R:Rg} (h:R.ok) (t:Int):newDr R t = .go 1 R t:=by unfold newDr; rw [if_pos h]
theorem FrS.ok.at {p:FrS} {s:MS} (hp:p.ok) (h0:p.over = false) (hs:s.ok):U (p.step s).1.at':=by
 cases p with
 | done e h v=>simp [FrS.over] at h0
 | go n R h =>
  obtain ⟨h1,h2,h3,h4⟩:=hp
  simp only [FrS.step]
  split
  ·exact (hs.load _).2
  ·show U (look2 R h _).at'
   unfold look2; split <;> exact h4
theorem DnS.ok.step {k:Nat} {p:DnS} {s:MS} (hp:p.ok k) (hs:s.ok):(p.step s).1.ok (k + 1) ∧ (p.step s).2.ok:=by
 cases p with
 | done e l=>exact ⟨Nat.le_succ_of_le hp,hs⟩
 | fr R most l p =>
  obtain ⟨h1,h2,h3,h4⟩:=hp
  have:=h2.step hs
  refine ⟨?_,this.2⟩
  have hat:=h2.at h3 hs
  unfold DnS.step DnS.afterF
  simp only
  split
  ·split
   ·exact ⟨h1,newDr_ok R hat,by rw [newDr_go h1]; rfl,Nat.le_succ_of_le h4⟩
   ·exact Nat.le_succ_of_le h4
  ·exact ⟨h1,this.1,by rename_i hz; simpa using hz,Nat.le_succ_of_le h4⟩
 | dr R most l v p =>
  obtain ⟨h1,h2,h3,h4⟩:=hp
  have:=h2.step hs
  refine ⟨?_,this.2⟩
  unfold DnS.step DnS.afterD
  simp only
  split
  ·split
   ·exact ⟨h1,newFr_ok R,by rw [newFr_go h1]; rfl,by simp; omega⟩
   ·show (l ++ [v]).length ≤ k + 1
    simp; omega
  ·exact ⟨h1,this.1,by rename_i hz; simpa using hz,Nat.le_succ_of_le h4⟩
theorem DnS.ok.mono {k j:Nat} {p:DnS} (hp:p.ok k) (h:k ≤ j):p.ok j:=by
 cases p with
 | done e l=>exact Nat.le_trans hp h
 | fr R most l p=>exact ⟨hp.1,hp.2.1,hp.2.2.1,Nat.le_trans hp.2.2.2 h⟩
 | dr R most l v p=>exact ⟨hp.1,hp.2.1,hp.2.2.1,Nat.le_trans hp.2.2.2 h⟩
def SdP (own:Nat → Nat) (t:Nat) (G:GS) (b:Nat):SdS → Prop
 | .done e=>G.obj b = some ⟨[.bool true,.pointer none,.int .i64 e],1,false,1⟩
 | .go p=>∃ q,G.obj b = some ⟨[.bool true,P0 q,.int .i64 0],1,false,1⟩ ∧ At own t G q ∧ b ≠ q ∧ PuR G q p
def SdD (own:Nat → Nat) (t:Nat) (G:GS) (b:Nat):SdS → Prop
 | .done e=>∃ u,one u = true ∧ G.obj b = some ⟨[u,.bool true,.int .i64 e],1,false,1⟩
 | .go p=>∃ q,G.obj b = some ⟨[P0 q,.bool false,.int .i64 0],1,false,1⟩ ∧ At own t G q ∧ b ≠ q ∧ RuR G q p
def DnP (own:Nat → Nat) (t:Nat) (G:GS) (b:Nat):DnS → Prop
 | .done e l=>∃ a0 a1 a2 a3 mo tk v,G.obj b = some ⟨[.bool true,.int .i64 a0,.int .i64 a1,.int .i64 a2,.int .i64 a3,.int .i64 mo,.nilIface,tk,.int .i64 v,.int .i64 e],1,false,1⟩ ∧ OwT own t G tk l ∧ ¬ InB tk b
 | .fr R mo l p=>∃ q tk v,G.obj b = some ⟨[.bool true,.int .i64 R.head,.int .i64 R.tail,.int .i64 R.slots,.int .i64 R.size,.int .i64 mo,.iface 60 (P0 q),tk,.int .i64 v,.int .i64 0],1,false,1⟩ ∧ OwT own t G tk l ∧ ¬ InB tk b ∧ At own t G q ∧ b ≠ q ∧ ¬ InB tk q ∧ PfR G q p
 | .dr R mo l v p=>∃ q tk,G.obj b = some ⟨[.bool true,.int .i64 R.head,.int .i64 R.tail,.int .i64 R.slots,.int .i64 R.size,.int .i64 mo,.iface 61 (P0 q),tk,.int .i64 v,.int .i64 0],1,false,1⟩ ∧ OwT own t G tk l ∧ ¬ InB tk b ∧ At own t G q ∧ b ≠ q ∧ ¬ InB tk q ∧ PdR G q p
def DnD (own:Nat → Nat) (t:Nat) (G:GS) (b:Nat):DnS → Prop
 | .done e l=>∃ a0 a1 a2 a3 mo tk u w v,G.obj b = some ⟨[.int .i64 a0,.int .i64 a1,.int .i64 a2,.int .i64 a3,.int .i64 mo,tk,.pointer u,.pointer w,.int .i64 v,.bool true,.int .i64 e],1,false,1⟩ ∧ OwT own t G tk l ∧ ¬ InB tk b
 | .fr R mo l p=>∃ q tk v,G.obj b = some ⟨[.int .i64 R.head,.int .i64 R.tail,.int .i64 R.slots,.int .i64 R.size,.int .i64 mo,tk,P0 q,.pointer none,.int .i64 v,.bool false,.int .i64 0],1,false,1⟩ ∧ OwT own t G tk l ∧ ¬ InB tk b ∧ At own t G q ∧ b ≠ q ∧ ¬ InB tk q ∧ RfR G q p
 | .dr R mo l v p=>∃ q tk u,G.obj b = some ⟨[.int .i64 R.head,.int .i64 R.tail,.int .i64 R.slots,.int .i64 R.size,.int .i64 mo,tk,.pointer u,P0 q,.int .i64 v,.bool false,.int .i64 0],1,false,1⟩ ∧ OwT own t G tk l ∧ ¬ InB tk b ∧ At own t G q ∧ b ≠ q ∧ ¬ InB tk q ∧ RdR G q p
section
variable {own own':Nat → Nat} {t b:Nat} {G G':GS}
theorem SdP.to {p:SdS} (h:SdP own t G b p) (hb:At own t G b) (hn:G.nx ≤ G'.nx) (hk:∀ g,g < G.nx → own g = t → G'.obj g = G.obj g) (a:Agr own own' G):SdP own' t G' b p:=by
 cases p with
 | done e=>exact (hk _ hb.lt hb.tag).trans h
 | go p=>obtain ⟨q,h1,h2,h3,h4⟩:=h; exact ⟨q,(hk _ hb.lt hb.tag).trans h1,h2.to hn a,h3,h4.kept (hk _ h2.lt h2.tag)⟩
theorem SdD.to {p:SdS} (h:SdD own t G b p) (hb:At own t G b) (hn:G.nx ≤ G'.nx) (hk:∀ g,g < G.nx → own g = t → G'.obj g = G.obj g) (a:Agr own own' G):SdD own' t G' b p:=by
 cases p with
 | done e=>obtain ⟨u,h0,h⟩:=h; exact ⟨u,h0,(hk _ hb.lt hb.tag).trans h⟩
 | go p=>obtain ⟨q,h1,h2,h3,h4⟩:=h; exact ⟨q,(hk _ hb.lt hb.tag).trans h1,h2.to hn a,h3,h4.kept (hk _ h2.lt h2.tag)⟩
theorem OwT.kt {v:Value} {l:List Int} (h:OwT own t G v l) (hn:G.nx ≤ G'.nx) (hk:∀ g,g < G.nx → own g = t → G'.obj g = G.obj g) (a:Agr own own' G):OwT own' t G' v l:=h.to hn (fun g hg=>hk g (h.lt hg) (h.tag g hg)) a
theorem DnP.to {p:DnS} (h:DnP own t G b p) (hb:At own t G b) (hn:G.nx ≤ G'.nx) (hk:∀ g,g < G.nx → own g = t → G'.obj g = G.obj g) (a:Agr own own' G):DnP own' t G' b p:=by
 cases p with
 | done e l=>obtain ⟨a0,a1,a2,a3,mo,tk,v,h1,h2,h3⟩:=h; exact ⟨a0,a1,a2,a3,mo,tk,v,(hk _ hb.lt hb.tag).trans h1,h2.kt hn hk a,h3⟩
 | fr R mo l p=>obtain ⟨q,tk,v,h1,h2,h3,h4,h5,h6,h7⟩:=h; exact ⟨q,tk,v,(hk _ hb.lt hb.tag).trans h1,h2.kt hn hk a,h3,h4.to hn a,h5,h6,h7.kept (hk _ h4.lt h4.tag)⟩
 | dr R mo l v p=>obtain ⟨q,tk,h1,h2,h3,h4,h5,h6,h7⟩:=h; exact ⟨q,tk,(hk _ hb.lt hb.tag).trans h1,h2.kt hn hk a,h3,h4.to hn a,h5,h6,h7.kept (hk _ h4.lt h4.tag)⟩
theorem DnD.to {p:DnS} (h:DnD own t G b p) (hb:At own t G b) (hn:G.nx ≤ G'.nx) (hk:∀ g,g < G.nx → own g = t → G'.obj g = G.obj g) (a:Agr own own' G):DnD own' t G' b p:=by
 cases p with
 | done e l=>obtain ⟨a0,a1,a2,a3,mo,tk,u,w,v,h1,h2,h3⟩:=h; exact ⟨a0,a1,a2,a3,mo,tk,u,w,v,(hk _ hb.lt hb.tag).trans h1,h2.kt hn hk a,h3⟩
 | fr R mo l p=>obtain ⟨q,tk,v,h1,h2,h3,h4,h5,h6,h7⟩:=h; exact ⟨q,tk,v,(hk _ hb.lt hb.tag).trans h1,h2.kt hn hk a,h3,h4.to hn a,h5,h6,h7.kept (hk _ h4.lt h4.tag)⟩
 | dr R mo l v p=>obtain ⟨q,tk,u,h1,h2,h3,h4,h5,h6,h7⟩:=h; exact ⟨q,tk,u,(hk _ hb.lt hb.tag).trans h1,h2.kt hn hk a,h3,h4.to hn a,h5,h6,h7.kept (hk _ h4.lt h4.tag)⟩
end
end Go.Proofs.YtlaojmcekeohnaaGreatDoor.Lift
set_option linter.unusedVariables false
set_option linter.unusedSimpArgs false
set_option maxRecDepth 20000
namespace Go.Proofs.YtlaojmcekeohnaaGreatDoor.Lift
open Go Go.Proofs.YtlaojmcekeohnaaGreatDoor.Gh Go.Proofs
section
variable {own own1:Nat → Nat} {t b m r:Nat} {G G1:GS} {s:MS}
theorem SdS.after_over {p:PuS} (h:p.over = true):SdS.after p = .done p.err:=by unfold SdS.after; rw [if_pos h]
theorem SdS.after_go {p:PuS} (h:p.over = false):SdS.after p = .go p:=by unfold SdS.after; rw [if_neg (by rw [h]; decide)]
theorem sdstep_ok (orc:FuncId → Bool) {p:SdS} (h:PM own G m s) (hs:s.ok) (hpo:p.ok) (ht:t ≠ 10) (hb:At own t G b) (hp:SdP own t G b p) :
  ∃ own1 G1,(E orc).cl 34 [P0 b,P0 m] G = some (.bool (p.step s).1.over,G1) ∧ PW (Own own t) own G own1 G1 m (p.step s).2 ∧ SdP own1 t G1 b (p.step s).1:=by
 cases p with
 | done e =>
  have hp':G.obj b = _:=hp
  refine ⟨own,G,f34 (exL_ok Q orc) _ _ G _ ?_,PW.refl h,hp⟩
  simp [s34,hp',SdS.step,SdS.over]
 | go p =>
  obtain ⟨q,h1,h2,h3,h4⟩:=hp
  obtain ⟨⟨x,G1⟩,e,rfl,th,k⟩:=push_ok orc h hs hpo.1 (PM.notIn h2.tag ht) h2.lt h4
  simp only at th k
  have w1:=PW.ofThr th h2.tag
  have o1:=(th.keep hb.lt (PM.notIn hb.tag ht) h3).trans h1
  have hb1:At (grown own G 10) t G1 b:=hb.to th.mod.nx grown_agr
  have hq1:At (grown own G 10) t G1 q:=h2.to th.mod.nx grown_agr
  generalize hpp:(p.step s).1 = p' at *
  have e2:=pusherr_ok orc k
  simp only [SdS.step,hpp]
  cases ho:p'.over with
  | true =>
   rw [ho] at e
   rw [SdS.after_over ho]
   refine ⟨_,(G1.put b ⟨[.bool true,P0 q,.int .i64 p'.err],1,false,1⟩).put b ⟨[.bool true,.pointer none,.int .i64 p'.err],1,false,1⟩,f34 (exL_ok Q orc) _ _ G _ ?_,(w1.putT hb1.tag ht _).putT hb1.tag ht _,by simp [SdP]⟩
   simp [s34,h1,e,e2,o1,SdS.over]
  | false =>
   rw [ho] at e
   rw [SdS.after_go ho]
   refine ⟨_,G1,f34 (exL_ok Q orc) _ _ G _ ?_,w1,q,o1,hq1,h3,k⟩
   simp [s34,h1,e,SdS.over]
theorem sderr_ok (orc:FuncId → Bool) {p:SdS} (hp:SdP own t G b p):(E orc).cl 35 [P0 b] G = some (.int .i64 p.err,G):=by
 refine f35 (exL_ok Q orc) _ G _ ?_
 cases p with
 | done e=>have hp':G.obj b = _:=hp; simp [s35,hp',SdS.err]
 | go p=>obtain ⟨q,h1,_⟩:=hp; simp [s35,h1,SdS.err]
end
end Go.Proofs.YtlaojmcekeohnaaGreatDoor.Lift
