import Derived.Test.YtaanpcoglijohaaGreatCA
import Derived.Test.YtaanpcoglijohaaGreatGhPD
set_option linter.unusedVariables false
set_option linter.unusedSimpArgs false
set_option maxRecDepth 20000
namespace Go.Proofs.YtaanpcoglijohaaGreat.Lift
open Go Go.Proofs.YtaanpcoglijohaaGreat.Gh Go.Proofs
@[simp] theorem rowsI_sz (k:IntKind):(rowsI k).sz = 1:=rfl
@[simp] theorem rowsI_row (k:IntKind) (x:Int):(rowsI k).row x = [.int k x]:=rfl
theorem flat_ints (k:IntKind) (L:List Int):(rowsI k).flat L = L.map (Value.int k):=by
 induction L with
 | nil=>rfl
 | cons a l ih=>rw [RowE.flat_cons,ih]; rfl
section
variable {A:Nat → Prop} {G:GS} {m bb:Nat} {rest:List Int} {s:MS}
theorem words_lp (orc:FuncId → Bool) {B:GS} {W rest:List Int} {bb nb:Nat} (hbb:B.obj bb = some ⟨(W ++ rest).map (Value.int .u64),1,false,1⟩) (hlt:bb < B.nx) (hnb:B.nx ≤ nb) (hW:W.length ≤ 4096) (c:Nat):∀ (k i:Nat) (τ:Env) (G:GS),i + k = W.length → τ 3 = .slice (some ⟨nb,0,none⟩) W.length W.length → τ 29 = .slice (some ⟨bb,0,none⟩) W.length c → τ 30 = .int .i64 W.length → τ 31 = .int .i64 i →
  Ext B G → nb < G.nx → G.obj nb = some ⟨(W.take i ++ List.replicate k 0).map (Value.int .u64),1,false,1⟩ →
  Wp ((exL Q orc).lpx 30 0 τ G) fun r=>r.1 = .exit 0 ∧ Ext B r.2.2 ∧ nb < r.2.2.nx ∧ r.2.1 3 = .slice (some ⟨nb,0,none⟩) W.length W.length ∧ r.2.2.obj nb = some ⟨W.map (Value.int .u64),1,false,1⟩:=by
 intro k
 induction k with
 | zero =>
  intro i τ G hi t3 t29 t30 t31 hx hn ho
  have hi':i = W.length:=by omega
  subst hi'
  refine Wp.lp (l30_0 (exL_ok Q orc)) ?_
  simp at ho
  simp [b30_0,clip_t,t3,t29,t30,t31]
  exact ⟨hx,hn,ho⟩
 | succ k ih =>
  intro i τ G hi t3 t29 t30 t31 hx hn ho
  have hlt':i < W.length:=by omega
  have hi0:(0:Int) ≤ i:=by omega
  have hw:IntKind.wrap .i64 ((i:Int) + 1) = ((i + 1:Nat):Int):=wrap64 (by omega) (by omega)
  have ob:=(hx.obj bb hlt).trans hbb
  have hwi:((W ++ rest).map (Value.int .u64))[i]? = some (.int .u64 W[i]):=by rw [List.getElem?_map,List.getElem?_append_left hlt',List.getElem?_eq_getElem hlt']; rfl
  have hwi':∀ h:i < ((W ++ rest).map (Value.int .u64)).length,((W ++ rest).map (Value.int .u64))[i] = .int .u64 W[i]:=fun h=>by rw [List.getElem?_eq_getElem h] at hwi; exact Option.some.inj hwi
  have hset:((W.take i ++ List.replicate (k + 1) 0).map (Value.int .u64)).set i (.int .u64 W[i]) = (W.take (i + 1) ++ List.replicate k 0).map (Value.int .u64):=by
   have hl:(W.take i).length = i:=by simp; omega
   rw [← List.map_set,List.set_append_right _ _ (by omega),hl,Nat.sub_self,List.replicate_succ,List.set_cons_zero,List.take_add_one,List.getElem?_eq_getElem hlt',Option.toList_some,List.append_assoc]; rfl
  have hlen:i < ((W.take i ++ List.replicate (k + 1) 0).map (Value.int .u64)).length:=by simp; omega
  generalize hc1:(W ++ rest).map (Value.int .u64) = c1 at *
  generalize hc2:(W.take i ++ List.replicate (k + 1) 0).map (Value.int .u64) = c2 at *
  refine Wp.lp (l30_0 (exL_ok Q orc)) ?_
  have hl1:i < c1.length:=by rw [← hc1]; simp; omega
  simp [-Int.natCast_add,b30_0,clip_t,t3,t29,t30,t31,hlt',hi0,ob,hwi,hwi',hl1,ho,hlen,hset,hw]
  refine ih (i + 1) _ _ (by omega) (by simp [clip_t]) (by simp [clip_t]) (by simp [clip_t]) (by simp [clip_t]) (hx.put hnb _) hn ?_
  simp
theorem words_ok (orc:FuncId → Bool) (h:PMr A G m bb rest s):∃ v G',(E orc).cl 30 [P0 m] G = some (v,G') ∧ Ext G G' ∧ OwR (rowsI .u64) G.nx G' v s.W:=by
 have hl:=h.hl
 have hmn:=h.un _ h.am
 have hbn:=h.un _ h.ab
 have m1:m ≠ G.nx:=by omega
 have b1:bb ≠ G.nx:=by omega
 have hm:=h.hm
 have hmk:mkK 1 8 z39 s.W.length s.W.length G = some (.slice (some ⟨G.nx,0,none⟩) s.W.length s.W.length,G.push ⟨(List.replicate s.W.length 0).map (Value.int .u64),1,false,1⟩):=by
  unfold mkK
  rw [if_pos ⟨by omega,by omega,by decide,by omega,wrap64 (by omega) (by omega),wrap64 (by omega) (by omega)⟩]
  have:rep z39 ((s.W.length:Nat):Int).toNat = (List.replicate s.W.length 0).map (Value.int .u64):=by
   simp only [Int.toNat_natCast]
   generalize s.W.length = n
   induction n with
   | zero=>rfl
   | succ n ih=>show z39 ++ rep z39 n = _; rw [ih]; rfl
  rw [this]; rfl
 have hs4:((s.W.length:Nat):Int) ≤ 4096:=by omega
 have w:Wp (s30 true (exL Q orc) (P0 m) G) fun r=>Ext G r.2 ∧ OwR (rowsI .u64) G.nx r.2 r.1 s.W:=by
  generalize hrz:(List.replicate s.W.length 0).map (Value.int .u64) = rz at *
  have hs5:s.W.length ≤ 4096:=by omega
  simp [-List.map_replicate,s30,hm,hmk,m1,slA,bound,hs4,hs5]
  refine Wp.bE ((words_lp orc (rest:=rest) h.hb hbn (Nat.le_refl _) hs5 4096 s.W.length 0 _ _ (by omega) (by simp) (by simp) (by simp) (by simp) (((Ext.refl G).push _).room 12) (by simp; omega) (by simp [← hrz])).mono ?_)
  rintro ⟨e,τ,G'⟩ ⟨rfl,q1,q2,q3,q4⟩
  simp only at q1 q2 q3 q4
  simp [q3]
  exact ⟨q1,by rw [RowE.flat_length],.inr ⟨G.nx,false,rfl,Nat.le_refl _,q2,by rw [q4,flat_ints]; rfl⟩⟩
 obtain ⟨⟨v,G'⟩,e1,e2,e3⟩:=w
 exact ⟨v,G',f30 (exL_ok Q orc) _ G _ e1,e2,e3⟩
end
end Go.Proofs.YtaanpcoglijohaaGreat.Lift
set_option linter.unusedVariables false
set_option linter.unusedSimpArgs false
set_option maxRecDepth 20000
namespace Go.Proofs.YtaanpcoglijohaaGreat.Lift
open Go Go.Proofs.YtaanpcoglijohaaGreat.Gh Go.Proofs
structure RMr (A:Nat → Prop) (G:GS) (r wb:Nat) (s:MS):Prop where
 un:Under A G
 ar:A r
 aw:A wb
 hr:G.obj r = some ⟨[.slice (some ⟨wb,0,none⟩) s.W.length s.W.length,.int .i64 s.kind,.int .i64 s.at_,.int .u64 s.old,.int .u64 s.new,.bool s.held,.int .i64 s.many],1,false,1⟩
 hw:G.obj wb = some ⟨s.W.map (Value.int .u64),1,false,1⟩
 hl:s.W.length ≤ 4096
def RMx (A:Nat → Prop) (G:GS) (r:Nat) (s:MS):Prop:=∃ wb,RMr A G r wb s
section
variable {A B:Nat → Prop} {G G':GS} {r wb:Nat} {s:MS}
theorem RMr.kept (h:RMr A G r wb s) (hn:G.nx ≤ G'.nx) (hk:∀ g,A g → G'.obj g = G.obj g):RMr A G' r wb s :=
 ⟨h.un.le hn,h.ar,h.aw,(hk _ h.ar).trans h.hr,(hk _ h.aw).trans h.hw,h.hl⟩
theorem RMr.ext (h:RMr A G r wb s) (x:Ext G G'):RMr A G' r wb s:=h.kept x.nx fun g hg=>x.obj g (h.un g hg)
theorem RMr.mono (h:RMr A G r wb s) (hs:∀ x,A x → B x) (hu:Under B G):RMr B G r wb s:=⟨hu,hs _ h.ar,hs _ h.aw,h.hr,h.hw,h.hl⟩
theorem RMx.un (h:RMx A G r s):Under A G:=let ⟨_,h⟩:=h; h.un
theorem RMx.kept (h:RMx A G r s) (hn:G.nx ≤ G'.nx) (hk:∀ g,A g → G'.obj g = G.obj g):RMx A G' r s:=let ⟨_,h⟩:=h; ⟨_,h.kept hn hk⟩
theorem RMx.ext (h:RMx A G r s) (x:Ext G G'):RMx A G' r s:=h.kept x.nx fun g hg=>x.obj g (h.un g hg)
theorem RMx.mono (h:RMx A G r s) (hs:∀ x,A x → B x) (hu:Under B G):RMx B G r s:=let ⟨_,h⟩:=h; ⟨_,h.mono hs hu⟩
theorem RMr.ne (h:RMr A G r wb s):r ≠ wb:=fun e=>by
 have h1:=h.hr
 rw [e,h.hw] at h1
 simp only [Option.some.injEq,GObj.mk.injEq,and_true] at h1
 cases hq:s.W with
 | nil=>rw [hq] at h1; simp at h1
 | cons a b=>rw [hq] at h1; simp at h1
def MS.at' (s:MS) (a:Int):Int:=if 0 ≤ a ∧ a < s.W.length then (s.W[a.toNat]?).getD 0 else 0
theorem rat_ok (orc:FuncId → Bool) (h:RMr A G r wb s) (a:Int):(E orc).cl 129 [P0 r,.int .i64 a] G = some (.int .u64 (s.at' a),G):=by
 refine f129 (exL_ok Q orc) _ _ G _ ?_
 unfold MS.at'
 by_cases h1:a < 0
 ·have h1':¬ (0 ≤ a ∧ a < (s.W.length:Int)):=by omega
  simp [s129,h.hr,h1,h1']
 ·by_cases h2:(s.W.length:Int) ≤ a
  ·have h1':¬ (0 ≤ a ∧ a < (s.W.length:Int)):=by omega
   simp [s129,h.hr,h1,h2,h1']
  ·have h1':(0 ≤ a ∧ a < (s.W.length:Int)):=by omega
   obtain ⟨n,rfl⟩:=Int.eq_ofNat_of_zero_le h1'.1
   have h3:n < s.W.length:=by omega
   have h4:¬ s.W.length ≤ n:=by omega
   have h5:((n:Int) < 0) = False:=eq_false (by omega)
   simp [s129,h.hr,h.hw,h3,h4,h5]
theorem acc_ok (orc:FuncId → Bool) (h:RMr A G r wb s) (kind a:Int) (w:Bool) (v:Int) (upd:Int → Int × Bool) (hu:∀ x,s.at' a = x → 0 ≤ a → a < s.W.length → upd x = if w then (v,true) else (x,false)) :
  Wp ((E orc).cl 55 [P0 r,.int .i64 kind,.int .i64 a,.bool w,.int .u64 v] G) fun q=>q.1 = .tuple #[] ∧ ModP A G q.2 ∧ G.nx = q.2.nx ∧ RMr A q.2 r wb (s.acc kind a upd):=by
 refine Wp.ref (f55 (exL_ok Q orc) _ _ _ _ _ G) ?_
 have hr:=h.hr
 have hw':=h.hw
 have hne:=h.ne
 have hne':=hne.symm
 by_cases hin:0 ≤ a ∧ a < s.W.length
 ·obtain ⟨n,rfl⟩:=Int.eq_ofNat_of_zero_le hin.1
  have hn:n < s.W.length:=by omega
  have hn4:¬ s.W.length ≤ n:=by omega
  have h5:((n:Int) < 0) = False:=eq_false (by omega)
  have hx:=hu (s.W[n]) (by unfold MS.at'; rw [if_pos hin]; simp [hn]) hin.1 hin.2
  have hacc:s.acc kind n upd = ⟨s.W.set n (upd s.W[n]).1,kind,n,s.W[n],(upd s.W[n]).1,(upd s.W[n]).2,IntKind.wrap .i64 (s.many + 1)⟩:=by
   unfold MS.acc; rw [if_pos hin]; simp [hn]
  rw [hacc,hx]
  cases w with
  | true =>
   simp [s55,sb55,j55_0,jb55_0,clip_t,hr,hw',hne,hne',hn,hn4,h5]
   refine ⟨?_,?_⟩
   ·exact (((((((ModP.refl A G).put (.inl h.ar) _).put (.inl h.ar) _).put (.inl h.ar) _).put (.inl h.aw) _).put (.inl h.ar) _).put (.inl h.ar) _)
   ·exact ⟨fun x hx=>by simpa using h.un x hx,h.ar,h.aw,by simp,by simp [hne',List.map_set],by simpa using h.hl⟩
  | false =>
   simp [s55,sb55,j55_0,jb55_0,clip_t,hr,hw',hne,hne',hn,hn4,h5]
   refine ⟨?_,?_⟩
   ·exact (((((ModP.refl A G).put (.inl h.ar) _).put (.inl h.ar) _).put (.inl h.ar) _).put (.inl h.ar) _).put (.inl h.ar) _
   ·exact ⟨fun x hx=>by simpa using h.un x hx,h.ar,h.aw,by simp,by simp [hne',hw'],by simpa using h.hl⟩
 ·have hacc:s.acc kind a upd = ⟨s.W,kind,a,0,0,false,IntKind.wrap .i64 (s.many + 1)⟩:=by unfold MS.acc; rw [if_neg hin]
  rw [hacc]
  have hfin:ModP A G ((G.put r ⟨[.slice (some ⟨wb,0,none⟩) s.W.length s.W.length,.int .i64 s.kind,.int .i64 s.at_,.int .u64 s.old,.int .u64 s.new,.bool s.held,.int .i64 (IntKind.wrap .i64 (s.many + 1))],1,false,1⟩).put r ⟨[.slice (some ⟨wb,0,none⟩) s.W.length s.W.length,.int .i64 kind,.int .i64 a,.int .u64 0,.int .u64 0,.bool false,.int .i64 (IntKind.wrap .i64 (s.many + 1))],1,false,1⟩):=((ModP.refl A G).put (.inl h.ar) _).put (.inl h.ar) _
  by_cases h1:a < 0
  ·simp [s55,sb55,j55_0,jb55_0,clip_t,hr,hw',hne,hne',h1]
   exact ⟨hfin,⟨fun x hx=>by simpa using h.un x hx,h.ar,h.aw,by simp,by simp [hne',hw'],h.hl⟩⟩
  ·have h2:(s.W.length:Int) ≤ a:=by omega
   simp [s55,sb55,j55_0,jb55_0,clip_t,hr,hw',hne,hne',h1,h2]
   exact ⟨hfin,⟨fun x hx=>by simpa using h.un x hx,h.ar,h.aw,by simp,by simp [hne',hw'],h.hl⟩⟩
theorem RMr.same (h:RMr A G' r wb s) (hm:ModP A G G') (hu:Under A G):RMx (Grow A G G') G' r s:=⟨wb,h.mono (fun x=>.inl) (hu.grow hm.nx)⟩
theorem rload_ok (orc:FuncId → Bool) (h:RMr A G r wb s) (a:Int):Wp ((E orc).cl 166 [P0 r,.int .i64 a] G) fun q=>q.1 = .int .u64 (s.load a).new ∧ ModP A G q.2 ∧ RMx (Grow A G q.2) q.2 r (s.load a):=by
 refine Wp.ref (f166 (exL_ok Q orc) _ _ G) ?_
 obtain ⟨⟨v,G1⟩,e,q1,q2,q3,q4⟩:=acc_ok orc h 1 a false 0 uLoad fun x _ _ _=>rfl
 simp only at q1 q2 q3 q4
 subst q1
 simp [s166,e,q4.hr]
 exact ⟨rfl,q2,q4.same q2 h.un⟩
theorem rstore_ok (orc:FuncId → Bool) (h:RMr A G r wb s) (a v:Int):Wp ((E orc).cl 15 [P0 r,.int .i64 a,.int .u64 v] G) fun q=>q.1 = .tuple #[] ∧ ModP A G q.2 ∧ RMx (Grow A G q.2) q.2 r (s.store a v):=by
 refine Wp.ref (f15 (exL_ok Q orc) _ _ _ G) ?_
 obtain ⟨⟨v',G1⟩,e,q1,q2,q3,q4⟩:=acc_ok orc h 2 a true v (uStore v) fun x _ _ _=>rfl
 simp only at q1 q2 q3 q4
 subst q1
 simp [s15,e]
 exact ⟨q2,q4.same q2 h.un⟩
theorem rcas_ok (orc:FuncId → Bool) (h:RMr A G r wb s) (a v w:Int):Wp ((E orc).cl 168 [P0 r,.int .i64 a,.int .u64 v,.int .u64 w] G) fun q=>q.1 = .bool (s.cas a v w).held ∧ ModP A G q.2 ∧ RMx (Grow A G q.2) q.2 r (s.cas a v w):=by
 refine Wp.ref (f168 (exL_ok Q orc) _ _ _ _ G) ?_
 obtain ⟨⟨v',G1⟩,e,q1,q2,q3,q4⟩:=acc_ok orc h 3 a (decide (s.at' a = v)) w (uCas v w) fun x hx _ _=>by
  unfold uCas; rw [hx]; by_cases h:x = v <;> simp [h]
 simp only at q1 q2 q3 q4
 subst q1
 have e1:=rat_ok orc h a
 simp [s168,e1,e,q4.hr]
 exact ⟨rfl,q2,q4.same q2 h.un⟩
theorem rnew_ok (orc:FuncId → Bool) (n:Int) (G:GS):(n < 1 ∨ 4096 < n → (E orc).cl 11 [.int .i64 n] G = some (.tuple #[.pointer none,.int .i64 3],G)) ∧
  (1 ≤ n → n ≤ 4096 → ∃ r G',(E orc).cl 11 [.int .i64 n] G = some (.tuple #[P0 r,.int .i64 0],G') ∧ Ext G G' ∧ RMx (fun x=>G.nx ≤ x ∧ x < G'.nx) G' r (MS.zero n.toNat)):=by
 constructor
 ·intro h
  refine f11 (exL_ok Q orc) _ G _ ?_
  by_cases h1:n < 1
  ·simp [s11,h1]
  ·have h2:4096 < n:=by omega
   simp [s11,h1,h2]
 ·intro h1 h2
  have h1':¬ n < 1:=by omega
  have h2':¬ 4096 < n:=by omega
  have hm:mkK 1 8 z39 n n G = some (.slice (some ⟨G.nx,0,none⟩) n.toNat n.toNat,G.push ⟨(List.replicate n.toNat 0).map (Value.int .u64),1,false,1⟩):=by
   unfold mkK
   rw [if_pos ⟨by omega,by omega,by decide,by omega,wrap64 (by omega) (by omega),wrap64 (by omega) (by omega)⟩]
   have:rep z39 n.toNat = (List.replicate n.toNat 0).map (Value.int .u64):=by
    generalize n.toNat = n
    induction n with
    | zero=>rfl
    | succ n ih=>show z39 ++ rep z39 n = _; rw [ih]; rfl
   rw [this]; rfl
  refine ⟨G.nx + 1,_,f11 (exL_ok Q orc) _ G _ (by simp [s11,h1',h2',hm]; rfl),((Ext.refl G).push _).push _,G.nx,?_⟩
  exact ⟨fun x hx=>hx.2,⟨by omega,by simp⟩,⟨by omega,by simp; omega⟩,by simp [MS.zero],by simp [MS.zero],by simp [MS.zero]; omega⟩
theorem rcount_ok (orc:FuncId → Bool) (h:RMr A G r wb s):(E orc).cl 28 [P0 r] G = some (.int .i64 s.many,G) :=
 f28 (exL_ok Q orc) _ G _ (by simp [s28,h.hr])
theorem rlast_ok (orc:FuncId → Bool) (h:RMr A G r wb s):∃ G',(E orc).cl 26 [P0 r] G = some (.agg ⟨accV s⟩,G') ∧ Ext G G':=by
 have hmn:=h.un _ h.ar
 have m1:r ≠ G.nx:=by omega
 exact ⟨_,f26 (exL_ok Q orc) _ G _ (by simp [s26,h.hr,m1]; rfl),((Ext.refl G).push _).put (Nat.le_refl _) _⟩
theorem RMr.slr (h:RMr A G r wb s):SlR (rowsI .u64) G (.slice (some ⟨wb,0,none⟩) s.W.length s.W.length) s.W :=
 ⟨⟨by rw [RowE.flat_length],.inr ⟨wb,0,s.W.length,_,rfl,Nat.le_refl _,h.un _ h.aw,h.hw,by simp,fun i _=>by rw [flat_ints]; simp⟩⟩,fun a n c he ob ho hop=>by cases he; rw [h.hw] at ho; cases ho; rfl⟩
end
end Go.Proofs.YtaanpcoglijohaaGreat.Lift
set_option linter.unusedVariables false
set_option linter.unusedSimpArgs false
set_option maxRecDepth 20000
namespace Go.Proofs.YtaanpcoglijohaaGreat.Lift
open Go Go.Proofs.YtaanpcoglijohaaGreat.Gh Go.Proofs
theorem sepP (m:Nat) (s:MS):Sep fun A G=>PMx A G m s:=⟨PMx.un,PMx.kept,PMx.mono⟩
theorem sepR (r:Nat) (s:MS):Sep fun A G=>RMx A G r s:=⟨RMx.un,RMx.kept,RMx.mono⟩
def MS.ok (s:MS):Prop:=(∀ w ∈ s.W,U w) ∧ s.W.length ≤ 4096
theorem MS.ok.word {s:MS} (h:s.ok) (i:Nat):U ((s.W[i]?).getD 0):=by
 cases hq:s.W[i]? with
 | none=>exact ⟨by decide,by decide⟩
 | some w=>exact h.1 w (List.mem_of_getElem? hq)
theorem MS.ok.acc {s:MS} (h:s.ok) {u:Int → Int × Bool} (hu:∀ w,U w → U (u w).1) (k a:Int):(s.acc k a u).ok ∧ U (s.acc k a u).new:=by
 unfold MS.acc
 split
 ·refine ⟨⟨fun w hw=>?_,by simpa using h.2⟩,hu _ (h.word _)⟩
  rcases List.mem_or_eq_of_mem_set hw with hw | rfl
  ·exact h.1 w hw
  ·exact hu _ (h.word _)
 ·exact ⟨h,(show (0:Int) ≤ 0 by decide),(show (0:Int) < 18446744073709551616 by decide)⟩
theorem MS.ok.load {s:MS} (h:s.ok) (a:Int):(s.load a).ok ∧ U (s.load a).new:=h.acc (fun w hw=>hw) 1 a
theorem MS.ok.store {s:MS} (h:s.ok) (a:Int) {v:Int} (hv:U v):(s.store a v).ok:=(h.acc (fun w hw=>hv) 2 a).1
theorem MS.ok.cas {s:MS} (h:s.ok) (a x:Int) {y:Int} (hy:U y):(s.cas a x y).ok:=(h.acc (fun w hw=>by unfold uCas; split <;> assumption) 3 a).1
theorem U_wrap (x:Int):U (IntKind.wrap .u64 x):=by rw [wrap_u64]; unfold U; omega
theorem MS.ok.add {s:MS} (h:s.ok) (a n:Int):(s.add a n).ok ∧ U (s.add a n).new:=h.acc (fun w hw=>U_wrap _) 4 a
theorem U_zero':U 0:=⟨by decide,by decide⟩
theorem MS.ok.at' {s:MS} (h:s.ok) (a:Int):U (s.at' a):=by
 unfold MS.at'; split
 ·exact h.word _
 ·exact U_zero'
end Go.Proofs.YtaanpcoglijohaaGreat.Lift
set_option linter.unusedVariables false
set_option linter.unusedSimpArgs false
set_option maxRecDepth 20000
namespace Go.Proofs.YtaanpcoglijohaaGreat.Lift
open Go Go.Proofs.YtaanpcoglijohaaGreat.Gh Go.Proofs
theorem same29_lp (orc:FuncId → Bool) (A B:List (Int)) (v0 v1:Value):∀ (k i:Nat) (s:Bool) (τ:Env) (G:GS),i + k = A.length → τ 0 = v0 → τ 1 = v1 → τ 5 = .bool s → τ 6 = .int .i64 i →
  SlR (rowsI .u64) G v0 A → SlR (rowsI .u64) G v1 B → A.length < 2 ^ 47 → (s = true → A.length = B.length) →
  Wp ((exL Q orc).lpx 29 0 τ G) fun r=>r.1 = .exit 0 ∧ Ext G r.2.2 ∧ r.2.1 5 = .bool (s && decide (A.drop i = B.drop i)):=by
 intro k
 induction k with
 | zero =>
  intro i s τ G hi h0 h1 h5 h6 hA hB hlt hs
  have hi':i = A.length:=by omega
  obtain ⟨a,c,rfl⟩:=hA.len
  refine Wp.lp (l29_0 (exL_ok Q orc)) ?_
  cases s with
  | false=>simp [b29_0,clip_t,h0,h1,h5,h6,Ext.refl]
  | true =>
   have hd:A.drop i = B.drop i:=by
    rw [hi',List.drop_length,List.drop_of_length_le (by rw [hs rfl]; omega)]
   simp [b29_0,clip_t,h0,h1,h5,h6,hd]
   simp [hi',Ext.refl,clip_t]
 | succ k ih =>
  intro i s τ G hi h0 h1 h5 h6 hA hB hlt hs
  refine Wp.lp (l29_0 (exL_ok Q orc)) ?_
  cases s with
  | false=>simp [b29_0,clip_t,h0,h1,h5,h6,Ext.refl]
  | true =>
   have hl:=hs rfl
   have hiA:i < A.length:=by omega
   have hiB:i < B.length:=by omega
   have he:Ext G (G.room 10):=(Ext.refl G).room 10
   obtain ⟨b,o,c,e0,_,q0,_⟩:=(hA.ext he).at hiA
   obtain ⟨b',o',c',e1,_,q1,_⟩:=(hB.ext he).at hiB
   have hc:=q0 0 (by decide)
   have hc':=q1 0 (by decide)
   simp [rowsI] at hc hc'
   have hw:IntKind.wrap .i64 ((i:Int) + 1) = ((i + 1:Nat):Int):=wrap64 (by omega) (by omega)
   have hi0:(0:Int) ≤ i:=by omega
   have hdr:decide (A.drop i = B.drop i) = (decide (A[i] = B[i]) && decide (A.drop (i + 1) = B.drop (i + 1))):=by
    rw [Bool.eq_iff_iff,List.drop_eq_getElem_cons hiA,List.drop_eq_getElem_cons hiB]
    simp only [decide_eq_true_eq,Bool.and_eq_true,List.cons.injEq]
   rw [hdr]
   simp [-Int.natCast_add,b29_0,clip_t,h0,h1,h5,h6,e0,e1,hc,hc',hw,hiA,hiB,hi0]
   refine (ih (i + 1) (decide (A[i] = B[i])) _ (G.room 10) (by omega) (by simp [clip_t,e0]) (by simp [clip_t,e1]) (by simp [clip_t]) (by simp [clip_t]) (hA.ext he) (hB.ext he) hlt (fun _=>hl)).mono ?_
   rintro r ⟨h1,h2,h3⟩
   exact ⟨h1,he.trans h2,h3⟩
theorem same29 (orc:FuncId → Bool) {A B:List (Int)} {v0 v1:Value} {G:GS} (hA:SlR (rowsI .u64) G v0 A) (hB:SlR (rowsI .u64) G v1 B) (hlt:A.length < 2 ^ 47) :
  ∃ G',(E orc).cl 29 [v0,v1] G = some (.bool (decide (A = B)),G') ∧ Ext G G':=by
 obtain ⟨a,c,ha⟩:=hA.len
 obtain ⟨b,d,hb⟩:=hB.len
 have l0:∀ t,ln Q true t v0 = some (.int .i64 A.length):=fun t=>by rw [ha]; simp
 have l1:∀ t,ln Q true t v1 = some (.int .i64 B.length):=fun t=>by rw [hb]; simp
 have hd:(decide ((A.length:Int) = (B.length:Int)) && decide (A.drop 0 = B.drop 0)) = decide (A = B):=by
  by_cases h:A = B
  ·simp [h]
  ·simp [h]
 have w:Wp (s29 true (exL Q orc) v0 v1 G) fun r=>r.1 = .bool (decide (A = B)) ∧ Ext G r.2:=by
  simp [s29,l0,l1]
  refine Wp.bE ((same29_lp orc A B v0 v1 A.length 0 (decide ((A.length:Int) = (B.length:Int))) _ G (by omega) rfl rfl (by simp) rfl hA hB hlt (fun h=>by simp at h; omega)).mono ?_)
  rintro ⟨e,τ,G'⟩ ⟨rfl,x,y⟩
  rw [hd] at y
  simp only at x y
  simp [y,x]
 obtain ⟨⟨v,G'⟩,e1,rfl,e3⟩:=w
 exact ⟨G',f29 (exL_ok Q orc) _ _ G _ e1,e3⟩
end Go.Proofs.YtaanpcoglijohaaGreat.Lift
set_option linter.unusedVariables false
set_option linter.unusedSimpArgs false
set_option maxRecDepth 20000
namespace Go.Proofs.YtaanpcoglijohaaGreat.Lift
open Go Go.Proofs.YtaanpcoglijohaaGreat.Gh Go.Proofs
structure St2 (own:Nat → Nat) (G:GS) (m r:Nat) (s s':MS):Prop where
 hm:PMx (Tag own G 10) G m s
 hr:RMx (Tag own G 11) G r s'
section
variable {own own':Nat → Nat} {G G' G0:GS} {m r b c:Nat} {s s' s1:MS} {ts:List Nat}
theorem St2.to (h:St2 own G m r s s') (q:ModT ts own G G') (h1:10 ∉ ts) (h2:11 ∉ ts) (a:Agr own own' G):St2 own' G' m r s s' :=
 ⟨(sepP m s).tag h.hm q h1 a,(sepR r s').tag h.hr q h2 a⟩
theorem St2.ext (h:St2 own G m r s s') (x:Ext G G'):St2 (grown own G 13) G' m r s s':=h.to (ts:=[]) (ModT.ext x) (by simp) (by simp) grown_agr
theorem Thr.tag {P:(Nat → Prop) → GS → Prop} {t:Nat} (h:Thr P (Tag own G t) b G G') (hb:own b = c):ModT [t,c] own G G' :=
 ⟨h.mod.nx,fun g hg hn=>h.mod.obj g hg fun k=>hn (k.elim (fun k=>by rw [k.2]; simp) fun k=>by rw [k,hb]; simp),h.mod.nl,h.mod.loop⟩
theorem St2.p (h:St2 own G m r s s') (th:Thr (fun A G=>PMx A G m s1) (Tag own G 10) b G G') (hb:own b = c) (hc:c ≠ 11):St2 (grown own G 10) G' m r s1 s' :=
 ⟨(sepP m s1).step th.mod.nx th.st,(sepR r s').tag h.hr (Thr.tag th hb) (by simp; omega) grown_agr⟩
theorem St2.q (h:St2 own G m r s s') (th:Thr (fun A G=>RMx A G r s1) (Tag own G 11) b G G') (hb:own b = c) (hc:c ≠ 10):St2 (grown own G 11) G' m r s s1 :=
 ⟨(sepP m s).tag h.hm (Thr.tag th hb) (by simp; omega) grown_agr,(sepR r s1).step th.mod.nx th.st⟩
theorem copyw_ok (orc:FuncId → Bool) {A:List Int} {v0:Value} (hA:SlR (rowsI .u64) G v0 A) (hlt:A.length < 2 ^ 36):∃ v' G',(E orc).cl 72 [v0] G = some (v',G') ∧ Ext G G' ∧ OwR (rowsI .u64) G.nx G' v' A:=by
 obtain ⟨v',G',h1,h2,h3⟩:=OwR.app (A:=G) (ib:=8) (OwR.made (rowsI .u64) G) (by decide) ((Ext.refl G).push _) (hA.ext ((Ext.refl G).push _)) (by simp; omega)
 refine ⟨v',G',f72 (exL_ok Q orc) _ G _ ?_,h2,by simpa using h3⟩
 simp only [rowsI_sz] at h1
 simp [s72,rep,fillS,fillC,h1]
theorem rwords_ok (orc:FuncId → Bool) {A:Nat → Prop} (h:RMx A G r s):∃ v G',(E orc).cl 31 [P0 r] G = some (v,G') ∧ Ext G G' ∧ OwR (rowsI .u64) G.nx G' v s.W:=by
 obtain ⟨wb,h⟩:=h
 obtain ⟨v,G',e,x,w⟩:=copyw_ok orc h.slr (by have:=h.hl; omega)
 refine ⟨v,G',f31 (exL_ok Q orc) _ G _ ?_,x,w⟩
 simp [s31,h.hr,e]
theorem accEq (a0 a1 a2 a3 b0 b1 b2 b3:Int) (a4 b4:Bool):prun Q (Op.equalIn 10000 59 (.agg ⟨[.int .i64 a0,.int .i64 a1,.int .u64 a2,.int .u64 a3,.bool a4]⟩) (.agg ⟨[.int .i64 b0,.int .i64 b1,.int .u64 b2,.int .u64 b3,.bool b4]⟩)) = some (a0 == b0 && (a1 == b1 && (a2 == b2 && (a3 == b3 && (a4 == b4 && true))))) :=
 eqS (d:=9999) (L:=[(3,0),(3,1),(39,2),(39,3),(4,4)]) (by kernel_rfl) (by kernel_rfl) (eqL_cons (a:=.int .i64 a0) (b:=.int .i64 b0) (by kernel_rfl) (by kernel_rfl) (by kernel_rfl) (eqL_cons (a:=.int .i64 a1) (b:=.int .i64 b1) (by kernel_rfl) (by kernel_rfl) (by kernel_rfl) (eqL_cons (a:=.int .u64 a2) (b:=.int .u64 b2) (by kernel_rfl) (by kernel_rfl) (by kernel_rfl) (eqL_cons (a:=.int .u64 a3) (b:=.int .u64 b3) (by kernel_rfl) (by kernel_rfl) (by kernel_rfl) (eqL_cons (a:=.bool a4) (b:=.bool b4) (by kernel_rfl) (by kernel_rfl) (by kernel_rfl) rfl)))))
theorem acc_neq (x y:Operand) (s:MS):gBinF Q .neq 59 x y (.agg ⟨accV s⟩) (.agg ⟨accV s⟩) = some (.bool false):=by
 rw [neq_aggF (op:=.neq) (by kernel_rfl) (by kernel_rfl) (by kernel_rfl) (accEq _ _ _ _ _ _ _ _ _ _)]
 simp
def putsN:List Int → Nat → MS → MS
 | [],_,s=>s
 | w :: l,i,s=>putsN l (i + 1) (s.store i w)
theorem putsN_ok:∀ (l:List Int) (i:Nat) {s:MS},(∀ w ∈ l,U w) → s.ok → (putsN l i s).ok
 | [],_,s,_,h=>h
 | w :: l,i,s,hw,h=>putsN_ok l (i + 1) (fun x hx=>hw x (by simp [hx])) (h.store _ (hw w (by simp)))
theorem zero_ok {n:Nat} (h:n ≤ 4096):(MS.zero n).ok:=⟨fun w hw=>by
 have:w = 0:=by simpa [MS.zero] using List.eq_of_mem_replicate hw
 rw [this]; exact U_zero',by simpa [MS.zero] using h⟩
theorem St2.p' (h:St2 own G m r s s') (q:ModP (Tag own G 10) G G') (k:PMx (Grow (Tag own G 10) G G') G' m s1):St2 (grown own G 10) G' m r s1 s' ∧ ModT [10] own G G' :=
 have m1:ModT [10] own G G':=ModT.of q (by simp)
 ⟨⟨(sepP m s1).step q.nx k,(sepR r s').tag h.hr m1 (by simp) grown_agr⟩,m1⟩
theorem St2.q' (h:St2 own G m r s s') (q:ModP (Tag own G 11) G G') (k:RMx (Grow (Tag own G 11) G G') G' r s1):St2 (grown own G 11) G' m r s s1 ∧ ModT [11] own G G' :=
 have m1:ModT [11] own G G':=ModT.of q (by simp)
 ⟨⟨(sepP m s).tag h.hm m1 (by simp) grown_agr,(sepR r s1).step q.nx k⟩,m1⟩
theorem pick_ok (orc:FuncId → Bool) (x n:Int) (hn:0 < n) (hn2:n < 2 ^ 40) (G:GS):(E orc).cl 16 [.int .i64 x,.int .i64 n] G = some (.int .i64 (x % n),G):=by
 refine f16 (exL_ok Q orc) _ _ G _ ?_
 have h1:=Int.emod_nonneg x (show n ≠ 0 by omega)
 have h2:=Int.emod_lt_of_pos x hn
 have ht:=@Int.tmod_eq_emod x n
 have hn0:¬ n ≤ 0:=by omega
 have hn1:¬ n = 0:=by omega
 have hw:IntKind.wrap .i64 (x % n) = x % n:=wrap64 (by omega) (by omega)
 by_cases hx:x.tmod n < 0
 ·have e:x.tmod n + n = x % n:=by split at ht <;> omega
  simp [s16,clip_t,hx,e,hw,hn0,hn1]
 ·have e:x.tmod n = x % n:=by split at ht <;> omega
  have hx':¬ x % n < 0:=by omega
  simp [s16,clip_t,e,hx',hn0,hn1]
end
end Go.Proofs.YtaanpcoglijohaaGreat.Lift
set_option linter.unusedVariables false
set_option linter.unusedSimpArgs false
set_option maxRecDepth 20000
namespace Go.Proofs.YtaanpcoglijohaaGreat.Lift
open Go Go.Proofs.YtaanpcoglijohaaGreat.Gh Go.Proofs
structure Stp (t:Nat) (B:Nat → Prop) (own:Nat → Nat) (G:GS) (own':Nat → Nat) (G':GS):Prop where
 agr:Agr own own' G
 mod:ModP (fun x=>own x = t ∨ B x) G G'
abbrev no:Nat → Prop:=fun _=>False
section
variable {t m r b:Nat} {B B':Nat → Prop} {own own1 own2:Nat → Nat} {G G1 G2:GS} {s s':MS}
theorem Stp.nx (h:Stp t B own G own1 G1):G.nx ≤ G1.nx:=h.mod.nx
theorem Stp.refl (t:Nat) (B:Nat → Prop) (own:Nat → Nat) (G:GS):Stp t B own G own G:=⟨Agr.refl _ _,ModP.refl _ _⟩
theorem Stp.keep (h:Stp t B own G own1 G1) {g:Nat} (hg:g < G.nx) (ht:own g ≠ t) (hB:¬ B g):G1.obj g = G.obj g:=h.mod.obj g hg fun k=>k.elim ht hB
theorem Stp.same (h:Stp t B own G own1 G1) {g:Nat} (hg:g < G.nx):own1 g = own g:=h.agr g hg
theorem Stp.trans (h:Stp t B own G own1 G1) (k:Stp t B' own1 G1 own2 G2) (hs:∀ x,x < G.nx → B' x → B x):Stp t B own G own2 G2 :=
 ⟨h.agr.trans k.agr h.nx,⟨Nat.le_trans h.nx k.nx,fun g hg hn=>(k.mod.obj g (Nat.lt_of_lt_of_le hg h.nx) fun q=>hn (q.elim (fun q=>.inl ((h.agr g hg).symm.trans q)) fun q=>.inr (hs g hg q))).trans (h.mod.obj g hg hn),Nat.le_trans h.mod.nl k.mod.nl,fun l hl=>(k.mod.loop l (Nat.lt_of_lt_of_le hl h.mod.nl)).trans (h.mod.loop l hl)⟩⟩
theorem Stp.mono (h:Stp t B own G own1 G1) (hs:∀ x,x < G.nx → B x → B' x):Stp t B' own G own1 G1:=(Stp.refl t B' own G).trans h hs
theorem Stp.ext (x:Ext G G1):Stp t B own G (grown own G 13) G1:=⟨grown_agr,x.modP _⟩
theorem Stp.extA (x:Ext G G1) (a:Agr own own1 G):Stp t B own G own1 G1:=⟨a,x.modP _⟩
theorem Stp.put (h:Stp t B own G own1 G1) (hb:B b ∨ G.nx ≤ b) (o:GObj):Stp t B own G own1 (G1.put b o) :=
 ⟨h.agr,h.mod.put (hb.imp .inr id) o⟩
theorem Stp.toExt (h:Stp t B own G own1 G1) {A:GS} (x:Ext A G) (hn:∀ g,g < A.nx → own g ≠ t ∧ ¬ B g):Ext A G1 :=
 ⟨Nat.le_trans x.nx h.nx,fun g hg=>(h.keep (Nat.lt_of_lt_of_le hg x.nx) (hn g hg).1 (hn g hg).2).trans (x.obj g hg),Nat.le_trans x.nl h.mod.nl,fun l hl=>(h.mod.loop l (Nat.lt_of_lt_of_le hl x.nl)).trans (x.loop l hl)⟩
def PM (own:Nat → Nat) (G:GS) (m:Nat) (s:MS):Prop:=PMx (Tag own G 10) G m s
def RM (own:Nat → Nat) (G:GS) (r:Nat) (s:MS):Prop:=RMx (Tag own G 11) G r s
theorem PM.to (h:PM own G m s) (k:Stp t B own G own1 G1) (ht:t ≠ 10) (hB:∀ x,x < G.nx → B x → own x ≠ 10):PM own1 G1 m s :=
 (sepP m s).mono ((sepP m s).kept h k.nx fun g hg=>k.keep hg.1 (by rw [hg.2]; exact ht.symm) fun q=>hB g hg.1 q hg.2) (Tag.le k.agr k.nx) Tag.under
theorem RM.to (h:RM own G r s) (k:Stp t B own G own1 G1) (ht:t ≠ 11) (hB:∀ x,x < G.nx → B x → own x ≠ 11):RM own1 G1 r s :=
 (sepR r s).mono ((sepR r s).kept h k.nx fun g hg=>k.keep hg.1 (by rw [hg.2]; exact ht.symm) fun q=>hB g hg.1 q hg.2) (Tag.le k.agr k.nx) Tag.under
theorem PM.ext (h:PM own G m s) (x:Ext G G1):PM (grown own G 13) G1 m s:=h.to (t:=11) (B:=no) (Stp.ext x) (by decide) fun _ _ h=>h.elim
theorem RM.ext (h:RM own G r s) (x:Ext G G1):RM (grown own G 13) G1 r s:=h.to (t:=10) (B:=no) (Stp.ext x) (by decide) fun _ _ h=>h.elim
theorem PM.put (h:PM own G m s) (hb:b < G.nx → own b ≠ 10) (o:GObj):PM own (G.put b o) m s:=by
 by_cases hl:b < G.nx
 ·exact h.to (t:=11) (B:=fun x=>x = b) ((Stp.refl _ (fun x=>x = b) _ _).put (.inl rfl) o) (by decide) fun x _ (e:x = b)=>by rw [e]; exact hb hl
 ·exact h.to (t:=11) (B:=no) ((Stp.refl _ _ _ _).put (.inr (by omega)) o) (by decide) fun _ _ h=>h.elim
theorem RM.put (h:RM own G r s) (hb:b < G.nx → own b ≠ 11) (o:GObj):RM own (G.put b o) r s:=by
 by_cases hl:b < G.nx
 ·exact h.to (t:=10) (B:=fun x=>x = b) ((Stp.refl _ (fun x=>x = b) _ _).put (.inl rfl) o) (by decide) fun x _ (e:x = b)=>by rw [e]; exact hb hl
 ·exact h.to (t:=10) (B:=no) ((Stp.refl _ _ _ _).put (.inr (by omega)) o) (by decide) fun _ _ h=>h.elim
structure PW (B:Nat → Prop) (own:Nat → Nat) (G:GS) (own1:Nat → Nat) (G1:GS) (m:Nat) (s:MS):Prop where
 stp:Stp 10 B own G own1 G1
 pm:PM own1 G1 m s
structure RW (B:Nat → Prop) (own:Nat → Nat) (G:GS) (own1:Nat → Nat) (G1:GS) (r:Nat) (s:MS):Prop where
 stp:Stp 11 B own G own1 G1
 rm:RM own1 G1 r s
theorem PW.refl (h:PM own G m s):PW B own G own G m s:=⟨Stp.refl _ _ _ _,h⟩
theorem RW.refl (h:RM own G r s):RW B own G own G r s:=⟨Stp.refl _ _ _ _,h⟩
theorem PW.nx (w:PW B own G own1 G1 m s):G.nx ≤ G1.nx:=w.stp.nx
theorem RW.nx (w:RW B own G own1 G1 r s):G.nx ≤ G1.nx:=w.stp.nx
theorem PW.ext (w:PW B own G own1 G1 m s) (x:Ext G1 G2):PW B own G (grown own1 G1 13) G2 m s:=⟨w.stp.trans (B':=no) (Stp.ext x) fun _ _ h=>h.elim,w.pm.ext x⟩
theorem RW.ext (w:RW B own G own1 G1 r s) (x:Ext G1 G2):RW B own G (grown own1 G1 13) G2 r s:=⟨w.stp.trans (B':=no) (Stp.ext x) fun _ _ h=>h.elim,w.rm.ext x⟩
theorem PW.put (w:PW B own G own1 G1 m s) (hb:B b ∨ G.nx ≤ b) (h10:b < G1.nx → own1 b ≠ 10) (o:GObj):PW B own G own1 (G1.put b o) m s:=⟨w.stp.put hb o,w.pm.put h10 o⟩
theorem RW.put (w:RW B own G own1 G1 r s) (hb:B b ∨ G.nx ≤ b) (h10:b < G1.nx → own1 b ≠ 11) (o:GObj):RW B own G own1 (G1.put b o) r s:=⟨w.stp.put hb o,w.rm.put h10 o⟩
theorem PW.putB (w:PW B own G own1 G1 m s) (hB:B b) (hb:b < G.nx) (h10:own b ≠ 10) (o:GObj):PW B own G own1 (G1.put b o) m s:=w.put (.inl hB) (fun _=>by rw [w.stp.same hb]; exact h10) o
theorem RW.putB (w:RW B own G own1 G1 r s) (hB:B b) (hb:b < G.nx) (h10:own b ≠ 11) (o:GObj):RW B own G own1 (G1.put b o) r s:=w.put (.inl hB) (fun _=>by rw [w.stp.same hb]; exact h10) o
theorem PW.trans (w:PW B own G own1 G1 m s) (k:PW B' own1 G1 own2 G2 m s') (hs:∀ x,x < G.nx → B' x → B x):PW B own G own2 G2 m s':=⟨w.stp.trans k.stp hs,k.pm⟩
theorem RW.trans (w:RW B own G own1 G1 r s) (k:RW B' own1 G1 own2 G2 r s') (hs:∀ x,x < G.nx → B' x → B x):RW B own G own2 G2 r s':=⟨w.stp.trans k.stp hs,k.rm⟩
theorem PW.mono (w:PW B own G own1 G1 m s) (hs:∀ x,x < G.nx → B x → B' x):PW B' own G own1 G1 m s:=⟨w.stp.mono hs,w.pm⟩
theorem RW.mono (w:RW B own G own1 G1 r s) (hs:∀ x,x < G.nx → B x → B' x):RW B' own G own1 G1 r s:=⟨w.stp.mono hs,w.rm⟩
theorem PW.keep (w:PW B own G own1 G1 m s) {g:Nat} (hg:g < G.nx) (ht:own g ≠ 10) (hB:¬ B g):G1.obj g = G.obj g:=w.stp.keep hg ht hB
theorem RW.keep (w:RW B own G own1 G1 r s) {g:Nat} (hg:g < G.nx) (ht:own g ≠ 11) (hB:¬ B g):G1.obj g = G.obj g:=w.stp.keep hg ht hB
theorem pw_of (h:PM own G m s) {s1:MS} (q:ModP (Tag own G 10) G G1) (k:PMx (Grow (Tag own G 10) G G1) G1 m s1):PW no own G (grown own G 10) G1 m s1 :=
 ⟨⟨grown_agr,q.mono fun x hx=>.inl hx.2⟩,(sepP m s1).step q.nx k⟩
theorem rw_of (h:RM own G r s) {s1:MS} (q:ModP (Tag own G 11) G G1) (k:RMx (Grow (Tag own G 11) G G1) G1 r s1):RW no own G (grown own G 11) G1 r s1 :=
 ⟨⟨grown_agr,q.mono fun x hx=>.inl hx.2⟩,(sepR r s1).step q.nx k⟩
theorem PM.load (orc:FuncId → Bool) (h:PM own G m s) (a:Int):∃ own1 G1,(E orc).cl 199 [P0 m,.int .i64 a] G = some (.int .u64 (s.load a).new,G1) ∧ PW no own G own1 G1 m (s.load a):=by
 obtain ⟨bb,rest,hm⟩:=h
 obtain ⟨⟨x,G1⟩,e,rfl,q2,q3⟩:=load_ok orc hm a
 exact ⟨_,G1,e,pw_of ⟨bb,rest,hm⟩ q2 q3⟩
theorem PM.store (orc:FuncId → Bool) (h:PM own G m s) (a v:Int):∃ own1 G1,(E orc).cl 14 [P0 m,.int .i64 a,.int .u64 v] G = some (.tuple #[],G1) ∧ PW no own G own1 G1 m (s.store a v):=by
 obtain ⟨bb,rest,hm⟩:=h
 obtain ⟨⟨x,G1⟩,e,rfl,q2,q3⟩:=store_ok orc hm a v
 exact ⟨_,G1,e,pw_of ⟨bb,rest,hm⟩ q2 q3⟩
theorem PM.cas (orc:FuncId → Bool) (h:PM own G m s) (a v w:Int):∃ own1 G1,(E orc).cl 157 [P0 m,.int .i64 a,.int .u64 v,.int .u64 w] G = some (.bool (s.cas a v w).held,G1) ∧ PW no own G own1 G1 m (s.cas a v w):=by
 obtain ⟨bb,rest,hm⟩:=h
 obtain ⟨⟨x,G1⟩,e,rfl,q2,q3⟩:=cas_ok orc hm a v w
 exact ⟨_,G1,e,pw_of ⟨bb,rest,hm⟩ q2 q3⟩
theorem RM.load (orc:FuncId → Bool) (h:RM own G r s) (a:Int):∃ own1 G1,(E orc).cl 166 [P0 r,.int .i64 a] G = some (.int .u64 (s.load a).new,G1) ∧ RW no own G own1 G1 r (s.load a):=by
 obtain ⟨wb,hm⟩:=h
 obtain ⟨⟨x,G1⟩,e,rfl,q2,q3⟩:=rload_ok orc hm a
 exact ⟨_,G1,e,rw_of ⟨wb,hm⟩ q2 q3⟩
theorem RM.store (orc:FuncId → Bool) (h:RM own G r s) (a v:Int):∃ own1 G1,(E orc).cl 15 [P0 r,.int .i64 a,.int .u64 v] G = some (.tuple #[],G1) ∧ RW no own G own1 G1 r (s.store a v):=by
 obtain ⟨wb,hm⟩:=h
 obtain ⟨⟨x,G1⟩,e,rfl,q2,q3⟩:=rstore_ok orc hm a v
 exact ⟨_,G1,e,rw_of ⟨wb,hm⟩ q2 q3⟩
theorem RM.cas (orc:FuncId → Bool) (h:RM own G r s) (a v w:Int):∃ own1 G1,(E orc).cl 168 [P0 r,.int .i64 a,.int .u64 v,.int .u64 w] G = some (.bool (s.cas a v w).held,G1) ∧ RW no own G own1 G1 r (s.cas a v w):=by
 obtain ⟨wb,hm⟩:=h
 obtain ⟨⟨x,G1⟩,e,rfl,q2,q3⟩:=rcas_ok orc hm a v w
 exact ⟨_,G1,e,rw_of ⟨wb,hm⟩ q2 q3⟩
end
end Go.Proofs.YtaanpcoglijohaaGreat.Lift
set_option linter.unusedVariables false
set_option linter.unusedSimpArgs false
set_option maxRecDepth 20000
namespace Go.Proofs.YtaanpcoglijohaaGreat.Lift
open Go Go.Proofs.YtaanpcoglijohaaGreat.Gh Go.Proofs
section
variable {A:Nat → Prop} {m r bb wb:Nat} {rest:List Int} {own:Nat → Nat} {G:GS} {s:MS}
theorem add_ok (orc:FuncId → Bool) (h:PMr A G m bb rest s) (a v:Int):Wp ((E orc).cl 208 [P0 m,.int .i64 a,.int .u64 v] G) fun r=>r.1 = .int .u64 (s.add a v).new ∧ ModP A G r.2 ∧ PMx (Grow A G r.2) r.2 m (s.add a v):=by
 refine Wp.ref (f208 (exL_ok Q orc) _ _ _ G) ?_
 have hc:=cell_ok orc h a
 obtain ⟨G1,hG1⟩:∃ G1,G1 = ((G.push ⟨[.pointer none,.int .u64 0,.int .u64 0],1,false,1⟩).put G.nx ⟨[cellV bb s a,.int .u64 v,.int .u64 0],1,false,1⟩):=⟨_,rfl⟩
 have x1:Ext G G1:=by rw [hG1]; exact ((Ext.refl G).push _).put (Nat.le_refl _) _
 have o1:G1.obj G.nx = some ⟨[cellV bb s a,.int .u64 v,.int .u64 0],1,false,1⟩:=by rw [hG1]; simp
 obtain ⟨⟨v',G'⟩,e,q1,q2,q3⟩:=do_ok orc (h.ext x1) 4 a 247 [.agg ⟨[cellV bb s a,.int .u64 v,.int .u64 0]⟩] (uAdd v) fun G1 w hb h1 h2 h3=>by
  have hbn:¬ bb = G1.nx:=by omega
  rw [cellV_in h1 h2]
  exact ⟨_,f247 (exL_ok Q orc) _ G1 _ (by simp [-cell_s,s247,cell_push,hbn,h3,uAdd]; rfl),((Ext.refl G1).push _).room _⟩
 simp only at q1 q2 q3
 have hone:=cellV_one bb s a
 generalize cellV bb s a = cv at *
 have hcs:=cells_one hone
 simp [s208,hc,hcs,hone,← hG1,o1,e,q1]
 exact ⟨rfl,PMx.pre h.un x1 q2 q3⟩
theorem radd_ok (orc:FuncId → Bool) (h:RMr A G r wb s) (a v:Int):Wp ((E orc).cl 195 [P0 r,.int .i64 a,.int .u64 v] G) fun q=>q.1 = .int .u64 (s.add a v).new ∧ ModP A G q.2 ∧ RMx (Grow A G q.2) q.2 r (s.add a v):=by
 refine Wp.ref (f195 (exL_ok Q orc) _ _ _ G) ?_
 obtain ⟨⟨v',G1⟩,e,q1,q2,q3,q4⟩:=acc_ok orc h 4 a true (IntKind.wrap .u64 (s.at' a + v)) (uAdd v) fun x hx _ _=>by
  unfold uAdd; rw [hx]; simp
 simp only at q1 q2 q3 q4
 subst q1
 have e1:=rat_ok orc h a
 simp [s195,e1,e,q4.hr]
 exact ⟨rfl,q2,q4.same q2 h.un⟩
theorem PM.add (orc:FuncId → Bool) (h:PM own G m s) (a v:Int):∃ own1 G1,(E orc).cl 208 [P0 m,.int .i64 a,.int .u64 v] G = some (.int .u64 (s.add a v).new,G1) ∧ PW no own G own1 G1 m (s.add a v):=by
 obtain ⟨bb,rest,hm⟩:=h
 obtain ⟨⟨x,G1⟩,e,rfl,q2,q3⟩:=add_ok orc hm a v
 exact ⟨_,G1,e,pw_of ⟨bb,rest,hm⟩ q2 q3⟩
theorem RM.add (orc:FuncId → Bool) (h:RM own G r s) (a v:Int):∃ own1 G1,(E orc).cl 195 [P0 r,.int .i64 a,.int .u64 v] G = some (.int .u64 (s.add a v).new,G1) ∧ RW no own G own1 G1 r (s.add a v):=by
 obtain ⟨wb,hm⟩:=h
 obtain ⟨⟨x,G1⟩,e,rfl,q2,q3⟩:=radd_ok orc hm a v
 exact ⟨_,G1,e,rw_of ⟨wb,hm⟩ q2 q3⟩
end
end Go.Proofs.YtaanpcoglijohaaGreat.Lift
