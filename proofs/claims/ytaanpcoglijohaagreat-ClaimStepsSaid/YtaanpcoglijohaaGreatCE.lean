import Derived.Test.YtaanpcoglijohaaGreatCD
set_option linter.unusedVariables false
set_option linter.unusedSimpArgs false
set_option maxRecDepth 20000
namespace Go.Proofs.YtaanpcoglijohaaGreat.Lift
open Go Go.Proofs.YtaanpcoglijohaaGreat.Gh Go.Proofs
section
variable {G:GS} {b tb h:Nat} {L:Int} {t:TW} {key line lv pred known cur w by_:Int} {TL:List (Int × Spot)}
abbrev fiO (t:TW) (key line l pred known cur w:Int) (tb h:Nat) (by_:Int):GObj:=⟨fiL t key line l pred known cur w (tkV tb h) by_,1,false,1⟩
theorem begin_ok (orc:FuncId → Bool) (hb:b < G.nx) (ob:G.obj b = some (fiO t key line lv pred known cur w tb h by_)) (htb:tb < G.nx) (ot:G.obj tb = some ⟨rSp.flat TL,4,false,1⟩) (hTL:TL.length = h) (hth:t.height = h) (h1:1 ≤ h) (hh:h ≤ 4) (hL:-1 ≤ L ∧ L < h) :
  ∃ G',(E orc).cl 243 [P0 b,.int .i64 L] G = some (.tuple #[],G') ∧ ModP (fun g=>g = b) G G' ∧ G'.obj b = some (if L < 0 then fiO t key 9 lv pred known cur w tb h by_ else fiO t key 1 L (spotOf TL h L.toNat).pred (spotOf TL h L.toNat).known 0 w tb h by_):=by
 obtain ⟨G1,hG1⟩:∃ G1,G1 = ((G.push ⟨[P0 b],1,false,1⟩).push ⟨[.int .i64 L],1,false,1⟩).room 10:=⟨_,rfl⟩
 have x1:Ext G G1:=by rw [hG1]; exact (((Ext.refl G).push _).push _).room 10
 have n1:G1.nx = G.nx + 12:=by rw [hG1]; rfl
 have p1:G1.obj G.nx = some ⟨[P0 b],1,false,1⟩:=by rw [hG1]; simp
 have q1:G1.obj (G.nx + 1) = some ⟨[.int .i64 L],1,false,1⟩:=by rw [hG1]; simp
 have ob1:=(x1.obj b hb).trans ob
 have hdown:(E orc).cl 257 [.int .i64 h,tkV tb h] G1 = some (.func (.func 263) #[] #[P0 G1.nx,P0 (G1.nx + 1)],(G1.push ⟨[.int .i64 h],1,false,1⟩).push ⟨[tkV tb h],1,false,1⟩):=by
  refine f257 (exL_ok Q orc) _ _ G1 _ ?_
  simp [s257]
 have wW:Wp (s243 true (exL Q orc) (P0 b) (.int .i64 L) G) fun q=>q.1 = .tuple #[] ∧ ModP (fun g=>g = b) G q.2 ∧ q.2.obj b = some (if L < 0 then fiO t key 9 lv pred known cur w tb h by_ else fiO t key 1 L (spotOf TL h L.toNat).pred (spotOf TL h L.toNat).known 0 w tb h by_):=by
  have d1:¬ G.nx = b:=by omega
  simp [-Int.natCast_add,s243,← hG1,p1,ob1,hth,hdown]
  generalize hTT:lst 31 (tu (nth undef _) _) = T
  have hT:T.length = 31:=by rw [← hTT]; exact length_lst 31 _
  have t2:nth undef T 2 = P0 G.nx:=by rw [← hTT,nth_lst]; simp [clip_t]
  have t3:nth undef T 3 = P0 (G.nx + 1):=by rw [← hTT,nth_lst]; simp [clip_t]
  clear hTT
  obtain ⟨G5,hG5⟩:∃ G5,G5 = ((G1.push ⟨[.int .i64 h],1,false,1⟩).push ⟨[tkV tb h],1,false,1⟩).pushLoop (lpD T):=⟨_,rfl⟩
  have x5':Ext G1 G5:=by rw [hG5]; exact (((Ext.refl G1).push _).push _).pushLoop _
  have x5:=x1.trans x5'
  have n5:G5.nx = G1.nx + 2:=by rw [hG5]; rfl
  have l5:G5.loop G1.nl = some (lpD T):=by rw [hG5]; simp
  have nl5:G5.nl = G1.nl + 1:=by rw [hG5]; rfl
  have oh5:G5.obj G1.nx = some ⟨[.int .i64 h],1,false,1⟩:=by rw [hG5]; simp
  have os5:G5.obj (G1.nx + 1) = some ⟨[tkV tb h],1,false,1⟩:=by rw [hG5]; simp
  obtain ⟨G6,hG6⟩:∃ G6,G6 = (G5.push ⟨z276,1,false,1⟩).put G5.nx ⟨[.int .i64 0,.int .i64 (-1),.int .u64 0,.int .u64 0],1,false,1⟩:=⟨_,rfl⟩
  have x6':Ext G5 G6:=by rw [hG6]; exact ((Ext.refl G5).push _).put (Nat.le_refl _) _
  have x6:=x5.trans x6'
  have n6:G6.nx = G5.nx + 1:=by rw [hG6]; rfl
  have oa6:G6.obj G5.nx = some ⟨[.int .i64 0,.int .i64 (-1),.int .u64 0,.int .u64 0],1,false,1⟩:=by rw [hG6]; simp
  have oh6:=(x6'.obj _ (by omega)).trans oh5
  have H6:DwS G b L (tkV tb h) G1.nl G.nx (G.nx + 1) (G1.nx + 1) G5.nx T (0,⟨-1,0,0⟩) G6:=⟨x6,(x6'.loop _ (by omega)).trans l5,x1.nl,by have:=x6'.nl; omega,((x5'.trans x6').obj _ (by omega)).trans p1,((x5'.trans x6').obj _ (by omega)).trans q1,(x6'.obj _ (by omega)).trans os5,oa6,by omega,by omega,by omega,by omega,by omega,by omega,by omega⟩
  have hz:z276 = [.int .i64 0,.int .i64 0,.int .u64 0,.int .u64 0]:=rfl
  have hw:IntKind.wrap .i64 ((h:Int) - 1) = (h:Int) - 1:=wrap64 (by omega) (by omega)
  have wl:Wp (s263 true (exL Q orc) (.func (.yield G1.nl) #[] #[]) (P0 G1.nx) (P0 (G1.nx + 1)) G5) fun q=>q.1 = .tuple #[] ∧ ∃ e,DwE G b L (tkV tb h) G1.nl G.nx (G.nx + 1) (G1.nx + 1) G5.nx T (fiO t key 1 L (spotOf TL h L.toNat).pred (spotOf TL h L.toNat).known 0 w tb h by_) h e q.2:=by
   have hG6':=hG6
   rw [hz] at hG6'
   have hne:¬ G1.nx = G5.nx:=by omega
   have hsp:1 ≤ h → ((0,⟨-1,0,0⟩):Int × Spot).2.pred = (spotOf TL h (h - 1)).pred ∧ ((0,⟨-1,0,0⟩):Int × Spot).2.known = (spotOf TL h (h - 1)).known:=fun _=>by
    have:h - 1 + 1 = h:=by omega
    simp [spotOf,this]
   simp [-Int.natCast_add,s263,splice_put,splice_end,hz,← hG6',oh5,oh6,hne,hw]
   refine Wp.bE ((dw_lp orc hT t2 t3 hb ob htb ot hTL hh h _ G6 _ (Nat.le_refl _) (by simp [clip_t]) (by simp [clip_t]) (by simp [clip_t]) (by simp [clip_t]) H6 hsp).mono ?_)
   rintro ⟨e,τ,G'⟩ hE
   simp only at hE
   have hE':=hE
   rcases hE with ⟨sp',rfl,r2,r3⟩ | ⟨rfl,r2,r3⟩
   ·simp; exact ⟨_,hE'⟩
   ·simp; exact ⟨_,hE'⟩
  obtain ⟨⟨v,G7⟩,e7,rfl,e,h7⟩:=wl
  have e7':=f263 (exL_ok Q orc) _ _ _ G5 _ e7
  rw [← hG5]
  simp only [List.nil_append,List.singleton_append,List.cons_append,e7']
  rcases h7 with ⟨sp',rfl,r2,r3⟩ | ⟨rfl,r2,r3⟩
  ·have hn:L < 0:=by omega
   rw [xRangeEnd_some G1.nl T _ G7 r3.lp (by simp) rfl]
   have o1:=r3.op
   have o2:=(r3.ext.obj b hb).trans ob
   simp [t2,o1,o2,hn]
   exact (((r3.ext.putLoop x1.nl _).modP (fun g=>g = b)).put (.inl rfl) _)
  ·have hn:¬ L < 0:=by omega
   rw [xRangeEnd_some G1.nl T _ G7 r3.lp (by simp) rfl]
   have o1:=r3.ob
   simp [t2,hn,o1]
   exact r3.mod.putLoop x1.nl _
 obtain ⟨⟨v,G'⟩,e1,rfl,m,o⟩:=wW
 exact ⟨G',f243 (exL_ok Q orc) _ _ G _ e1,m,o⟩
theorem findex_ok (orc:FuncId → Bool) (ht:orc 241 = false) {v:Int} (hv:U v) (hb:b < G.nx) (ob:G.obj b = some (fiO t key line lv pred known cur w tb h by_)):∃ G',(E orc).cl 244 [P0 b,.int .u64 v] G = some (.int .i64 (idxI t.size v),G') ∧ Ext G G':=by
 obtain ⟨G1,e1,x1⟩:=gettop_ok orc ht hv G
 have n1:=x1.nx
 have ob1:=(x1.obj b hb).trans ob
 obtain ⟨G2,hG2⟩:∃ G2,G2 = ((G1.push ⟨z270,1,false,1⟩).put G1.nx ⟨[.int .i64 (v % 65536 - 1),.int .i64 (v / 65536)],1,false,1⟩):=⟨_,rfl⟩
 have x2:Ext G G2:=by rw [hG2]; exact (x1.push _).put n1 _
 have p2:G2.obj G1.nx = some ⟨[.int .i64 (v % 65536 - 1),.int .i64 (v / 65536)],1,false,1⟩:=by rw [hG2]; simp
 have ob2:=(x2.obj b hb).trans ob
 refine ⟨G2.room 11,f244 (exL_ok Q orc) _ _ G _ ?_,x2.room 11⟩
 unfold idxI
 by_cases hc:t.size ≤ v % 65536 - 1
 ·simp [s244,e1,splice_put,splice_end,← hG2,p2,ob2,hc]
 ·simp [s244,e1,splice_put,splice_end,← hG2,p2,ob2,hc]
end
end Go.Proofs.YtaanpcoglijohaaGreat.Lift
set_option linter.unusedVariables false
set_option linter.unusedSimpArgs false
set_option maxRecDepth 20000
namespace Go.Proofs.YtaanpcoglijohaaGreat.Lift
open Go Go.Proofs.YtaanpcoglijohaaGreat.Gh Go.Proofs
abbrev fiX (T:TW) (x:FindS) (tb:Nat):GObj:=fiO T x.key x.line x.l x.at_.pred x.at_.known x.at_.cur x.w tb T.height.toNat x.by_
def FiB (T:TW) (G:GS) (b tb:Nat) (x:FindS):Prop:=∃ TL:List (Int × Spot),G.obj b = some (fiX T x tb) ∧ G.obj tb = some ⟨rSp.flat TL,4,false,1⟩ ∧ TL.map (·.2) = x.told
section
variable {T:TW} {G G':GS} {b tb:Nat} {x y:FindS}
theorem FiB.kept (h:FiB T G b tb x) (k1:G'.obj b = G.obj b) (k2:G'.obj tb = G.obj tb):FiB T G' b tb x:=let ⟨TL,h1,h2,h3⟩:=h; ⟨TL,k1.trans h1,k2.trans h2,h3⟩
theorem FiB.ext (h:FiB T G b tb x) (hb:b < G.nx) (ht:tb < G.nx) (e:Ext G G'):FiB T G' b tb x:=h.kept (e.obj b hb) (e.obj tb ht)
theorem FiB.ob (h:FiB T G b tb x):G.obj b = some (fiX T x tb):=let ⟨_,h1,_⟩:=h; h1
theorem FiB.put (h:FiB T G b tb x) (hne:b ≠ tb) (y:FindS) (hy:y.told = x.told):FiB T (G.put b (fiX T y tb)) b tb y:=by
 obtain ⟨TL,h1,h2,h3⟩:=h
 exact ⟨TL,by rw [obj_put,if_pos rfl],(obj_put_ne _ _ hne.symm).trans h2,h3.trans hy.symm⟩
theorem tw_h (hs:T.sound):T.height = (T.height.toNat:Int) ∧ 1 ≤ T.height.toNat ∧ T.height.toNat ≤ 4:=by have:=hs.1; have:=hs.2.1; omega
theorem fanew_ok (orc:FuncId → Bool) (hs:T.sound) (h:FiB T G b tb x) (hne:b ≠ tb) (hb:b < G.nx) (ht:tb < G.nx) (hl:x.told.length = T.height.toNat):∃ G',(E orc).cl 205 [P0 b] G = some (.tuple #[],G') ∧ ModP (fun g=>g = b) G G' ∧ FiB T G' b tb (x.anew T):=by
 obtain ⟨TL,h1,h2,h3⟩:=h
 obtain ⟨e1,e2,e3⟩:=tw_h hs
 have hTL:TL.length = T.height.toNat:=by rw [← hl,← h3]; simp
 have hw:IntKind.wrap .i64 (T.height - 1) = T.height - 1:=wrap64 (by omega) (by omega)
 obtain ⟨G1,k1,k2,k3⟩:=begin_ok orc (L:=T.height - 1) hb h1 ht h2 hTL e1 e2 e3 (by omega)
 rw [if_neg (by omega)] at k3
 have hsp:spotOf TL T.height.toNat (T.height - 1).toNat = ⟨-1,0,0⟩:=by
  unfold spotOf
  rw [if_pos (by omega)]
 rw [hsp] at k3
 refine ⟨G1,f205 (exL_ok Q orc) _ G _ ?_,k2,TL,k3,(k2.obj tb ht (fun e=>hne e.symm)).trans h2,h3⟩
 simp [s205,h1,hw,k1]
theorem ftell_ok (orc:FuncId → Bool) (hs:T.sound) (h:FiB T G b tb x) (hne:b ≠ tb) (hb:b < G.nx) (ht:tb < G.nx) (hl:x.told.length = T.height.toNat) (hlev:0 ≤ x.l ∧ x.l < T.height):∃ G',(E orc).cl 245 [P0 b] G = some (.tuple #[],G') ∧ ModP (fun g=>g = b ∨ g = tb) G G' ∧ FiB T G' b tb x.tell:=by
 obtain ⟨TL,h1,h2,h3⟩:=h
 obtain ⟨e1,e2,e3⟩:=tw_h hs
 have hTL:TL.length = T.height.toNat:=by rw [← hl,← h3]; simp
 obtain ⟨n,hn⟩:=Int.eq_ofNat_of_zero_le hlev.1
 have hnl:n < TL.length:=by omega
 have hnh:n < T.height.toNat:=by omega
 obtain ⟨H,hH⟩:∃ H,H = T.height.toNat:=⟨_,rfl⟩
 have hnH:n < H:=by omega
 have hnH':(n:Int) < H:=by omega
 have hn0:(0:Int) ≤ n:=by omega
 have hst:=row_st (e:=rSp) (ez:=4) (op:=false) (G:=G.room 15) (b:=tb) (L:=TL) (by simpa using h2) hnl ((n:Int),x.at_)
 simp only [rSp_sz,rSp_row] at hst
 obtain ⟨G1,hG1⟩:∃ G1,G1 = (G.room 15).put tb ⟨rSp.flat (TL.set n ((n:Int),x.at_)),4,false,1⟩:=⟨_,rfl⟩
 have m1:ModP (fun g=>g = b ∨ g = tb) G G1:=by rw [hG1]; exact ((ModP.refl _ G).room 15).put (.inl (.inr rfl)) _
 have o1:G1.obj b = some (fiX T x tb):=by rw [hG1,obj_put_ne _ _ hne]; simpa using h1
 have p1:G1.obj tb = some ⟨rSp.flat (TL.set n ((n:Int),x.at_)),4,false,1⟩:=by rw [hG1]; simp
 have n1:G.nx ≤ G1.nx:=m1.nx
 have hTL':(TL.set n ((n:Int),x.at_)).length = T.height.toNat:=by simpa using hTL
 have hw:IntKind.wrap .i64 ((n:Int) - 1) = (n:Int) - 1:=wrap64 (by omega) (by omega)
 obtain ⟨G2,k1,k2,k3⟩:=begin_ok orc (L:=(n:Int) - 1) (Nat.lt_of_lt_of_le hb n1) o1 (Nat.lt_of_lt_of_le ht n1) p1 hTL' e1 e2 e3 (by omega)
 have p2:=(k2.obj tb (Nat.lt_of_lt_of_le ht n1) (fun e=>hne e.symm)).trans p1
 have mAll:ModP (fun g=>g = b ∨ g = tb) G G2:=m1.trans (k2.mono fun g hg=>.inl (.inl hg))
 refine ⟨G2,f245 (exL_ok Q orc) _ G _ ?_,mAll,TL.set n ((n:Int),x.at_),?_,?_,?_⟩
 ·unfold fiX at h1 o1
  rw [← hH] at h1 o1
  simp [-Int.natCast_add,-loadA_s,-storeN_s,s245,h1,hn,hnH,hnH',hn0,loadA_eq,hst,← hG1,o1,hw,k1]
 ·rw [k3]
  unfold FindS.tell
  by_cases h0:n = 0
  ·rw [if_pos (by omega),if_pos (by omega)]
  ·rw [if_neg (by omega),if_neg (by omega)]
   have hs1:spotOf (TL.set n ((n:Int),x.at_)) T.height.toNat ((n:Int) - 1).toNat = ⟨x.at_.pred,x.at_.known,0⟩:=by
    have a1:((n:Int) - 1).toNat + 1 = n:=by omega
    unfold spotOf
    rw [if_neg (by omega),a1]
    simp [hnl]
   rw [hs1,hn]
 ·rw [p2]
 ·unfold FindS.tell
  have ht':(TL.set n ((n:Int),x.at_)).map (·.2) = x.told.set n x.at_:=by rw [List.map_set,h3]
  have hx:x.l.toNat = n:=by omega
  split
  ·rw [ht',hx]
  ·rw [ht',hx]
theorem flooks_ok (orc:FuncId → Bool) (hto:orc 241 = false) (hs:T.sound) (h:FiB T G b tb x) (hne:b ≠ tb) (hb:b < G.nx) (ht:tb < G.nx) (hl:x.told.length = T.height.toNat) (hlev:0 ≤ x.l ∧ x.l < T.height) (hc:U x.at_.cur):∃ G',(E orc).cl 246 [P0 b] G = some (.tuple #[],G') ∧ ModP (fun g=>g = b ∨ g = tb) G G' ∧ FiB T G' b tb (x.looks T):=by
 have ob:=h.ob
 obtain ⟨G1,hG1⟩:∃ G1,G1 = G.put b (fiX T { x with line:=2 } tb):=⟨_,rfl⟩
 have h1:FiB T G1 b tb { x with line:=2 }:=by rw [hG1]; exact h.put hne { x with line:=2 } rfl
 have n1:G1.nx = G.nx:=by rw [hG1]; rfl
 have o1:=h1.ob
 have m1:ModP (fun g=>g = b ∨ g = tb) G G1:=by rw [hG1]; exact (ModP.refl _ G).put (.inl (.inl rfl)) _
 obtain ⟨G2,e2,x2⟩:=findex_ok orc hto hc (by omega) o1
 have h2:=h1.ext (by omega) (by omega) x2
 have m2:ModP (fun g=>g = b ∨ g = tb) G G2:=m1.trans (x2.modP _)
 have n2:=x2.nx
 unfold FindS.looks
 by_cases hi:idxI T.size x.at_.cur < 0
 ·rw [if_pos hi]
  obtain ⟨G3,e3,m3,h3⟩:=ftell_ok orc hs h2 hne (by omega) (by omega) hl hlev
  refine ⟨G3,f246 (exL_ok Q orc) _ G _ ?_,m2.trans (m3.mono fun g hg=>.inl hg),h3⟩
  simp [s246,ob,← hG1,o1,e2,hi,e3]
 ·rw [if_neg hi]
  refine ⟨G2,f246 (exL_ok Q orc) _ G _ ?_,m2,h2⟩
  simp [s246,ob,← hG1,o1,e2,hi]
end
end Go.Proofs.YtaanpcoglijohaaGreat.Lift
set_option linter.unusedVariables false
set_option linter.unusedSimpArgs false
set_option maxRecDepth 20000
namespace Go.Proofs.YtaanpcoglijohaaGreat.Lift
open Go Go.Proofs.YtaanpcoglijohaaGreat.Gh Go.Proofs
section
variable {T:TW} {x:FindS} {s:MS}
theorem FindS.tell_ok (hs:T.sound) (h1:0 ≤ x.l ∧ x.l < T.height) (h2:x.told.length = T.height.toNat) (h3:-1 ≤ x.at_.pred ∧ x.at_.pred < T.size) (h4:U x.at_.known) (h5:U x.at_.cur) (h6:U x.w) (h7:U x.by_):x.tell.ok T:=by
 unfold FindS.tell
 split
 ·exact ⟨by simp,h1,by simpa using h2,h3,h4,h5,by simp,h6,by simp,h7⟩
 ·refine ⟨by simp,?_,by simpa using h2,h3,h4,U_zero',by simp,h6,by simp,h7⟩
  simp only; omega
theorem FindS.looks_ok (hs:T.sound) (h1:0 ≤ x.l ∧ x.l < T.height) (h2:x.told.length = T.height.toNat) (h3:-1 ≤ x.at_.pred ∧ x.at_.pred < T.size) (h4:U x.at_.known) (h5:U x.at_.cur) (h6:U x.w) (h7:U x.by_):(x.looks T).ok T:=by
 unfold FindS.looks
 split
 ·exact FindS.tell_ok (x:={ x with line:=2 }) hs h1 h2 h3 h4 h5 h6 h7
 ·rename_i hi
  exact ⟨by simp,h1,h2,h3,h4,h5,fun _=>by simp only; omega,h6,by simp,h7⟩
theorem FindS.anew_ok (hs:T.sound) (h2:x.told.length = T.height.toNat) (h6:U x.w) (h7:U x.by_):(x.anew T).ok T:=by
 have:=hs.1; have:=hs.2.2.1
 exact ⟨by simp [FindS.anew],by simp only [FindS.anew]; omega,h2,by simp only [FindS.anew]; omega,U_zero',U_zero',by simp [FindS.anew],h6,by simp [FindS.anew],h7⟩
theorem U_sub {w:Int} (h:U w) (hm:mkB ≤ w):U (w - mkB):=by have:=h.2; have:=h.1; unfold mkB at *; unfold U; omega
theorem FindS.ok.step (hs:T.sound) (h:x.ok T) (hm:s.ok):(x.step T s).1.ok T ∧ (x.step T s).2.ok:=by
 obtain ⟨l1,l2,l3,l4,l5,l6,l7,l8,l9,l10⟩:=h
 unfold FindS.step
 simp only
 split
 ·exact ⟨⟨l1,l2,l3,l4,l5,l6,l7,l8,l9,l10⟩,hm⟩
 split
 ·rename_i h2
  have hl:=hm.load (nextI T (idxI T.size x.at_.cur) x.l)
  refine ⟨⟨by simp only; split <;> simp,l2,l3,l4,l5,l6,fun _=>l7 (.inl h2),hl.2,?_,l6⟩,hl.1⟩
  simp only
  split <;> simp <;> omega
 split
 ·rename_i h3
  have hu:=U_sub l8 (l9.1 h3)
  have hc:=hm.cas (nextI T x.at_.pred x.l) x.at_.cur hu
  split
  ·exact ⟨FindS.looks_ok hs l2 l3 l4 l5 hu l8 l5,hc⟩
  ·exact ⟨FindS.anew_ok hs l3 l8 l5,hc⟩
 split
 ·rename_i h4
  have hl:=hm.load (atI T (idxI T.size x.at_.cur) 0)
  split
  ·exact ⟨FindS.tell_ok hs l2 l3 l4 l5 l6 l8 l6,hl.1⟩
  ·refine ⟨FindS.looks_ok hs l2 l3 ?_ l6 l8 l8 l6,hl.1⟩
   exact ⟨idxI_ge,idxI_lt (by have:=hs.2.2.1; omega)⟩
 ·have hl:=hm.load (nextI T x.at_.pred x.l)
  split
  ·exact ⟨FindS.anew_ok hs l3 l8 l5,hl.1⟩
  ·exact ⟨FindS.looks_ok hs l2 l3 l4 l5 hl.2 l8 l5,hl.1⟩
end
theorem andNot_63' {w:Int} (h0:9223372036854775808 ≤ w) (h1:w < 18446744073709551616):andNotI .u64 w 9223372036854775808 = w - 9223372036854775808:=by
 obtain ⟨n,rfl⟩:=Int.eq_ofNat_of_zero_le (show 0 ≤ w by omega)
 show IntKind.wrap .u64 (((BitVec.ofInt 64 (n:Int) &&& ~~~ BitVec.ofInt 64 9223372036854775808).toNat:Nat):Int) = _
 have e1:BitVec.ofInt 64 (n:Int) = BitVec.ofNat 64 n:=BitVec.ofInt_natCast ..
 have e2:BitVec.ofInt 64 9223372036854775808 = BitVec.ofNat 64 9223372036854775808:=by decide
 have e3:(BitVec.ofNat 64 n &&& ~~~ BitVec.ofNat 64 9223372036854775808).toNat = n - 9223372036854775808:=by
  have e4: ~~~ BitVec.ofNat 64 9223372036854775808 = BitVec.ofNat 64 (2 ^ 63 - 1):=by decide
  rw [e4]
  simp only [BitVec.toNat_and,BitVec.toNat_ofNat]
  rw [Nat.mod_eq_of_lt (show n < 2 ^ 64 by omega),Nat.mod_eq_of_lt (show 2 ^ 63 - 1 < 2 ^ 64 by decide),Nat.and_two_pow_sub_one_eq_mod]
  omega
 rw [e1,e2,e3,wrap_u64]
 omega
theorem marks_u (orc:FuncId → Bool) {w:Int} (h:U w) (hm:mkB ≤ w) (G:GS):(E orc).cl 204 [.int .u64 w,.bool false] G = some (.int .u64 (w - 9223372036854775808),G):=by
 refine f204 (exL_ok Q orc) _ _ G _ ?_
 simp [s204,andNot_63' (show 9223372036854775808 ≤ w from hm) h.2]
def FPost (T:TW) (own0:Nat → Nat) (G0:GS) (tag m b tb:Nat) (r:FindS × MS) (q:Exit × Env × GS):Prop:=q.1 = .exit 0 ∧ q.2.1 0 = P0 b ∧ ∃ own1,PW (Own own0 tag) own0 G0 own1 q.2.2 m r.2 ∧ FiB T q.2.2 b tb r.1
section
variable {T:TW} {x:FindS} {s:MS} {own own0:Nat → Nat} {G G0:GS} {tag m b tb:Nat}
theorem At.keep (h:At own tag G b) (ht:tag ≠ 10) {own1:Nat → Nat} {G1:GS} {s':MS} (w:PW no own G own1 G1 m s'):G1.obj b = G.obj b:=w.keep h.lt (by rw [h.tag]; exact ht) id
theorem flp_ok (orc:FuncId → Bool) (hto:orc 241 = false) (hs:T.sound) (hm:s.ok) (hx:x.ok T) (h9:x.line ≠ 9) (ht:tag ≠ 10) (hne:b ≠ tb) (w:PW (Own own0 tag) own0 G0 own G m s) (hb:At own tag G b) (htb:At own tag G tb) (hF:FiB T G b tb { x with by_:=x.at_.known }) {τ:Env} (t0:τ 0 = P0 b) (t1:τ 1 = P0 m) (t5:τ 5 = .int .i64 (nextI T x.at_.pred x.l)) (t6:τ 6 = .int .i64 (idxI T.size x.at_.cur)) :
  Wp ((exL Q orc).lpx 206 0 τ G) (FPost T own0 G0 tag m b tb (x.step T s)):=by
 obtain ⟨l1,l2,l3,l4,l5,l6,l7,l8,l9,l10⟩:=hx
 have ob:=hF.ob
 refine Wp.lp (l206_0 (exL_ok Q orc)) ?_
 have modB:∀ {own1:Nat → Nat} {G1 G2:GS},At own1 tag G1 b → At own1 tag G1 tb → ModP (fun g=>g = b ∨ g = tb) G1 G2 → ModP (Own own1 tag) G1 G2:=fun h1 h2 q=>q.mono fun g hg=>hg.elim (fun e=>by rw [e]; exact h1.tag) fun e=>by rw [e]; exact h2.tag
 rcases l1 with h1 | h2 | h3 | h4 | h9'
 ·-- line 1
  have hst:x.step T s = (if mkB ≤ (s.load (nextI T x.at_.pred x.l)).new then (({ x with by_:=x.at_.known,at_:={ x.at_ with cur:=(s.load (nextI T x.at_.pred x.l)).new } }:FindS).anew T,s.load (nextI T x.at_.pred x.l)) else (({ x with by_:=x.at_.known,at_:={ x.at_ with cur:=(s.load (nextI T x.at_.pred x.l)).new } }:FindS).looks T,s.load (nextI T x.at_.pred x.l))):=by
   unfold FindS.step; simp only; rw [if_neg (by omega),if_neg (by omega),if_neg (by omega),if_neg (by omega)]
  rw [hst]
  have hl:=(hm.load (nextI T x.at_.pred x.l)).2
  obtain ⟨own1,G1,e1,w1⟩:=w.pm.load orc (nextI T x.at_.pred x.l)
  generalize s.load (nextI T x.at_.pred x.l) = s' at *
  generalize s'.new = v at *
  have kb:=hb.keep ht w1
  have ktb:=htb.keep ht w1
  have hF1:=hF.kept kb ktb
  have w1':=w.tr w1.any
  have hb1:=hb.to w1.nx w1.stp.agr
  have htb1:=htb.to w1.nx w1.stp.agr
  have ob1:=hF1.ob
  obtain ⟨G2,hG2⟩:∃ G2,G2 = G1.put b (fiX T { x with line:=1,by_:=x.at_.known,at_:={ x.at_ with cur:=v } } tb):=⟨_,rfl⟩
  have hF2:FiB T G2 b tb { x with line:=1,by_:=x.at_.known,at_:={ x.at_ with cur:=v } }:=by rw [hG2]; exact hF1.put hne _ rfl
  have w2:PW (Own own0 tag) own0 G0 own1 G2 m s':=by rw [hG2]; exact w1'.putT hb1.tag ht _
  have hb2:At own1 tag G2 b:=by rw [hG2]; exact ⟨hb1.lt,hb1.tag⟩
  have htb2:At own1 tag G2 tb:=by rw [hG2]; exact ⟨htb1.lt,htb1.tag⟩
  have ob2:=hF2.ob
  have e3:=marked_ok orc hl G2
  by_cases hv:mkB ≤ v
  ·rw [if_pos hv]
   have hv':9223372036854775808 ≤ v:=hv
   obtain ⟨G3,e4,m3,hF3⟩:=fanew_ok orc hs hF2 hne hb2.lt htb2.lt l3
   simp [b206_0,clip_t,t0,t1,t5,t6,ob,h1,e1,ob1,← hG2,ob2,e3,hv',e4]
   exact ⟨rfl,by simp [clip_t],_,w2.modT (modB hb2 htb2 (m3.mono fun g hg=>.inl hg)) ht tag,hF3⟩
  ·rw [if_neg hv]
   have hv':¬ 9223372036854775808 ≤ v:=hv
   obtain ⟨G3,e4,m3,hF3⟩:=flooks_ok orc hto hs hF2 hne hb2.lt htb2.lt l3 l2 hl
   simp [b206_0,clip_t,t0,t1,t5,t6,ob,h1,e1,ob1,← hG2,ob2,e3,hv',e4]
   exact ⟨rfl,by simp [clip_t],_,w2.modT (modB hb2 htb2 m3) ht tag,hF3⟩
 ·-- line 2
  have hst:x.step T s = ({ x with by_:=x.at_.cur,w:=(s.load (nextI T (idxI T.size x.at_.cur) x.l)).new,line:=if mkB ≤ (s.load (nextI T (idxI T.size x.at_.cur) x.l)).new then 3 else 4 },s.load (nextI T (idxI T.size x.at_.cur) x.l)):=by
   unfold FindS.step; simp only; rw [if_neg (by omega),if_pos h2]
  rw [hst]
  have hl:=(hm.load (nextI T (idxI T.size x.at_.cur) x.l)).2
  obtain ⟨G1,hG1⟩:∃ G1,G1 = G.put b (fiX T { x with line:=2,by_:=x.at_.cur } tb):=⟨_,rfl⟩
  have hF1:FiB T G1 b tb { x with line:=2,by_:=x.at_.cur }:=by rw [hG1]; exact hF.put hne _ rfl
  have w1:PW (Own own0 tag) own0 G0 own G1 m s:=by rw [hG1]; exact w.putT hb.tag ht _
  have hb1:At own tag G1 b:=by rw [hG1]; exact ⟨hb.lt,hb.tag⟩
  have htb1:At own tag G1 tb:=by rw [hG1]; exact ⟨htb.lt,htb.tag⟩
  have ob1:=hF1.ob
  obtain ⟨G2,e2,x2⟩:=tnext_ok orc T (idxI T.size x.at_.cur) x.l (G1.room 17)
  have y2:=((Ext.refl G1).room 17).trans x2
  have hF2:=hF1.ext hb1.lt htb1.lt y2
  have w2:=w1.extT y2 tag
  have hb2:=hb1.extO y2 tag
  have htb2:=htb1.extO y2 tag
  have ob2:=hF2.ob
  generalize grown own G1 tag = own2 at *
  obtain ⟨own3,G3,e3,w3⟩:=w2.pm.load orc (nextI T (idxI T.size x.at_.cur) x.l)
  generalize s.load (nextI T (idxI T.size x.at_.cur) x.l) = s' at *
  generalize s'.new = v at *
  have hF3:=hF2.kept (hb2.keep ht w3) (htb2.keep ht w3)
  have w3':=w2.tr w3.any
  have hb3:=hb2.to w3.nx w3.stp.agr
  have htb3:=htb2.to w3.nx w3.stp.agr
  have ob3:=hF3.ob
  obtain ⟨G4,hG4⟩:∃ G4,G4 = (G3.put b (fiX T { x with line:=2,by_:=x.at_.cur,w:=v } tb)).put b (fiX T { x with line:=4,by_:=x.at_.cur,w:=v } tb):=⟨_,rfl⟩
  have hF4:FiB T G4 b tb { x with line:=4,by_:=x.at_.cur,w:=v }:=by rw [hG4]; exact (hF3.put hne { x with line:=2,by_:=x.at_.cur,w:=v } rfl).put hne _ rfl
  have w4:PW (Own own0 tag) own0 G0 own3 G4 m s':=by rw [hG4]; exact (w3'.putT hb3.tag ht _).putT hb3.tag ht _
  have ob4:=hF4.ob
  have e5:=marked_ok orc hl G4
  by_cases hv:mkB ≤ v
  ·have hv':9223372036854775808 ≤ v:=hv
   have hF5:=hF4.put hne { x with line:=3,by_:=x.at_.cur,w:=v } rfl
   simp [b206_0,clip_t,t0,t1,t5,t6,ob,h2,← hG1,ob1,e2,ob2,e3,ob3,← hG4,ob4,e5,hv']
   exact ⟨rfl,by simp [clip_t],_,w4.putT hb3.tag ht _,by simpa [hv] using hF5⟩
  ·have hv':¬ 9223372036854775808 ≤ v:=hv
   simp [b206_0,clip_t,t0,t1,t5,t6,ob,h2,← hG1,ob1,e2,ob2,e3,ob3,← hG4,ob4,e5,hv']
   exact ⟨rfl,by simp [clip_t],_,w4,by simpa [hv] using hF4⟩
 ·-- line 3
  have hmk:=l9.1 h3
  have hst:x.step T s = (if (s.cas (nextI T x.at_.pred x.l) x.at_.cur (x.w - mkB)).held = true then (({ x with by_:=x.at_.known,at_:={ x.at_ with cur:=x.w - mkB } }:FindS).looks T,s.cas (nextI T x.at_.pred x.l) x.at_.cur (x.w - mkB)) else (({ x with by_:=x.at_.known }:FindS).anew T,s.cas (nextI T x.at_.pred x.l) x.at_.cur (x.w - mkB))):=by
   unfold FindS.step; simp only; rw [if_neg (by omega),if_neg (by omega),if_pos h3]
  rw [hst]
  have hu:=U_sub l8 hmk
  have x1:Ext G (G.room 14):=(Ext.refl G).room 14
  have w1:=w.extT x1 tag
  have hF1:=hF.ext hb.lt htb.lt x1
  have hb1:=hb.extO x1 tag
  have htb1:=htb.extO x1 tag
  generalize grown own G tag = own1 at *
  have e2:=marks_u orc l8 hmk (G.room 14)
  have hmd:x.w - 9223372036854775808 = x.w - mkB:=rfl
  rw [hmd] at e2
  obtain ⟨own3,G3,e3,w3⟩:=w1.pm.cas orc (nextI T x.at_.pred x.l) x.at_.cur (x.w - mkB)
  generalize s.cas (nextI T x.at_.pred x.l) x.at_.cur (x.w - mkB) = s' at *
  have hF3:=hF1.kept (hb1.keep ht w3) (htb1.keep ht w3)
  have w3':=w1.tr w3.any
  have hb3:=hb1.to w3.nx w3.stp.agr
  have htb3:=htb1.to w3.nx w3.stp.agr
  have ob3:=hF3.ob
  cases hh:s'.held with
  | false =>
   rw [if_neg (by decide)]
   rw [hh] at e3
   obtain ⟨G4,e4,m4,hF4⟩:=fanew_ok orc hs hF3 hne hb3.lt htb3.lt l3
   simp [b206_0,clip_t,t0,t1,t5,t6,ob,h3,e2,e3,e4]
   exact ⟨rfl,by simp [clip_t],_,w3'.modT (modB hb3 htb3 (m4.mono fun g hg=>.inl hg)) ht tag,hF4⟩
  | true =>
   rw [if_pos rfl]
   rw [hh] at e3
   have e2':=marks_u orc l8 hmk G3
   rw [hmd] at e2'
   obtain ⟨G4,hG4⟩:∃ G4,G4 = G3.put b (fiX T { x with line:=3,by_:=x.at_.known,at_:={ x.at_ with cur:=x.w - mkB } } tb):=⟨_,rfl⟩
   have hF4:FiB T G4 b tb { x with line:=3,by_:=x.at_.known,at_:={ x.at_ with cur:=x.w - mkB } }:=by rw [hG4]; exact hF3.put hne _ rfl
   have w4:PW (Own own0 tag) own0 G0 own3 G4 m s':=by rw [hG4]; exact w3'.putT hb3.tag ht _
   have hb4:At own3 tag G4 b:=by rw [hG4]; exact ⟨hb3.lt,hb3.tag⟩
   have htb4:At own3 tag G4 tb:=by rw [hG4]; exact ⟨htb3.lt,htb3.tag⟩
   obtain ⟨G5,e5,m5,hF5⟩:=flooks_ok orc hto hs hF4 hne hb4.lt htb4.lt l3 l2 hu
   simp [b206_0,clip_t,t0,t1,t5,t6,ob,h3,e2,e3,ob3,e2',← hG4,e5]
   exact ⟨rfl,by simp [clip_t],_,w4.modT (modB hb4 htb4 m5) ht tag,hF5⟩
 ·-- line 4
  have hst:x.step T s = (if x.key ≤ (s.load (atI T (idxI T.size x.at_.cur) 0)).new then (({ x with by_:=x.at_.cur }:FindS).tell,s.load (atI T (idxI T.size x.at_.cur) 0)) else (({ x with by_:=x.at_.cur,at_:=⟨idxI T.size x.at_.cur,x.at_.cur,x.w⟩ }:FindS).looks T,s.load (atI T (idxI T.size x.at_.cur) 0))):=by
   unfold FindS.step; simp only; rw [if_neg (by omega),if_neg (by omega),if_neg (by omega),if_pos h4]
  rw [hst]
  have hl:=(hm.load (atI T (idxI T.size x.at_.cur) 0)).2
  obtain ⟨G1,hG1⟩:∃ G1,G1 = G.put b (fiX T { x with line:=4,by_:=x.at_.cur } tb):=⟨_,rfl⟩
  have hF1:FiB T G1 b tb { x with line:=4,by_:=x.at_.cur }:=by rw [hG1]; exact hF.put hne _ rfl
  have w1:PW (Own own0 tag) own0 G0 own G1 m s:=by rw [hG1]; exact w.putT hb.tag ht _
  have hb1:At own tag G1 b:=by rw [hG1]; exact ⟨hb.lt,hb.tag⟩
  have htb1:At own tag G1 tb:=by rw [hG1]; exact ⟨htb.lt,htb.tag⟩
  have ob1:=hF1.ob
  obtain ⟨G2,e2,x2⟩:=tat_ok orc T (idxI T.size x.at_.cur) 0 (G1.room 13)
  have y2:=((Ext.refl G1).room 13).trans x2
  have hF2:=hF1.ext hb1.lt htb1.lt y2
  have w2:=w1.extT y2 tag
  have hb2:=hb1.extO y2 tag
  have htb2:=htb1.extO y2 tag
  have ob2:=hF2.ob
  generalize grown own G1 tag = own2 at *
  obtain ⟨own3,G3,e3,w3⟩:=w2.pm.load orc (atI T (idxI T.size x.at_.cur) 0)
  generalize s.load (atI T (idxI T.size x.at_.cur) 0) = s' at *
  generalize s'.new = v at *
  have hF3:=hF2.kept (hb2.keep ht w3) (htb2.keep ht w3)
  have w3':=w2.tr w3.any
  have hb3:=hb2.to w3.nx w3.stp.agr
  have htb3:=htb2.to w3.nx w3.stp.agr
  have ob3:=hF3.ob
  by_cases hv:x.key ≤ v
  ·rw [if_pos hv]
   obtain ⟨G4,e4,m4,hF4⟩:=ftell_ok orc hs hF3 hne hb3.lt htb3.lt l3 l2
   simp [b206_0,clip_t,t0,t1,t5,t6,ob,h4,← hG1,ob1,e2,ob2,e3,ob3,hv,e4]
   refine ⟨rfl,by simp [clip_t],_,w3'.modT (modB hb3 htb3 m4) ht tag,?_⟩
   exact hF4
  ·rw [if_neg hv]
   obtain ⟨G4,hG4⟩:∃ G4,G4 = (((G3.room 25).put b (fiX T { x with line:=4,by_:=x.at_.cur,at_:={ x.at_ with pred:=idxI T.size x.at_.cur } } tb)).put b (fiX T { x with line:=4,by_:=x.at_.cur,at_:={ x.at_ with pred:=idxI T.size x.at_.cur,known:=x.at_.cur } } tb)).put b (fiX T { x with line:=4,by_:=x.at_.cur,at_:=⟨idxI T.size x.at_.cur,x.at_.cur,x.w⟩ } tb):=⟨_,rfl⟩
   have x3:Ext G3 (G3.room 25):=(Ext.refl G3).room 25
   have hF4:FiB T G4 b tb { x with line:=4,by_:=x.at_.cur,at_:=⟨idxI T.size x.at_.cur,x.at_.cur,x.w⟩ }:=by rw [hG4]; exact (((hF3.ext hb3.lt htb3.lt x3).put hne { x with line:=4,by_:=x.at_.cur,at_:={ x.at_ with pred:=idxI T.size x.at_.cur } } rfl).put hne { x with line:=4,by_:=x.at_.cur,at_:={ x.at_ with pred:=idxI T.size x.at_.cur,known:=x.at_.cur } } rfl).put hne _ rfl
   have hb3':=hb3.extO x3 tag
   have htb3':=htb3.extO x3 tag
   have w4:PW (Own own0 tag) own0 G0 (grown own3 G3 tag) G4 m s':=by rw [hG4]; exact (((w3'.extT x3 tag).putT hb3'.tag ht _).putT hb3'.tag ht _).putT hb3'.tag ht _
   have hb4:At (grown own3 G3 tag) tag G4 b:=by rw [hG4]; exact ⟨hb3'.lt,hb3'.tag⟩
   have htb4:At (grown own3 G3 tag) tag G4 tb:=by rw [hG4]; exact ⟨htb3'.lt,htb3'.tag⟩
   obtain ⟨G5,e5,m5,hF5⟩:=flooks_ok orc hto hs hF4 hne hb4.lt htb4.lt l3 l2 l8
   simp [b206_0,clip_t,t0,t1,t5,t6,ob,h4,← hG1,ob1,e2,ob2,e3,ob3,hv,← hG4,e5]
   exact ⟨rfl,by simp [clip_t],_,w4.modT (modB hb4 htb4 m5) ht tag,hF5⟩
 ·exact absurd h9' h9
theorem fstep_ok (orc:FuncId → Bool) (hto:orc 241 = false) (hs:T.sound) (h:PM own G m s) (hm:s.ok) (hx:x.ok T) (ht:tag ≠ 10) (hne:b ≠ tb) (hb:At own tag G b) (htb:At own tag G tb) (hF:FiB T G b tb x) :
  ∃ own1 G1,(E orc).cl 206 [P0 b,P0 m] G = some (.bool (decide ((x.step T s).1.line = 9)),G1) ∧ PW (Own own tag) own G own1 G1 m (x.step T s).2 ∧ FiB T G1 b tb (x.step T s).1:=by
 have ob:=hF.ob
 by_cases h9:x.line = 9
 ·have hst:x.step T s = (x,s):=by unfold FindS.step; simp only; rw [if_pos h9]
  rw [hst]
  refine ⟨own,G,f206 (exL_ok Q orc) _ _ G _ ?_,PW.refl h,hF⟩
  simp [s206,ob,h9]
 ·obtain ⟨G1,e1,x1⟩:=tnext_ok orc T x.at_.pred x.l (G.room 16)
  have y1:=((Ext.refl G).room 16).trans x1
  have hF1:=hF.ext hb.lt htb.lt y1
  have ob1:=hF1.ob
  have hb1:=hb.extO y1 tag
  obtain ⟨G2,e2,x2⟩:=findex_ok orc hto hx.cur hb1.lt ob1
  have y2:=y1.trans x2
  have hF2:=hF.ext hb.lt htb.lt y2
  have ob2:=hF2.ob
  have w2:=(PW.refl (B:=Own own tag) h).extT y2 tag
  have hb2:=hb.extO y2 tag
  have htb2:=htb.extO y2 tag
  obtain ⟨G3,hG3⟩:∃ G3,G3 = G2.put b (fiX T { x with by_:=x.at_.known } tb):=⟨_,rfl⟩
  have hF3:FiB T G3 b tb { x with by_:=x.at_.known }:=by rw [hG3]; exact hF2.put hne _ rfl
  have w3:PW (Own own tag) own G (grown own G tag) G3 m s:=by rw [hG3]; exact w2.putT hb2.tag ht _
  have hb3:At (grown own G tag) tag G3 b:=by rw [hG3]; exact ⟨hb2.lt,hb2.tag⟩
  have htb3:At (grown own G tag) tag G3 tb:=by rw [hG3]; exact ⟨htb2.lt,htb2.tag⟩
  have wW:Wp (s206 true (exL Q orc) (P0 b) (P0 m) G) fun q=>q.1 = .bool (decide ((x.step T s).1.line = 9)) ∧ ∃ own1,PW (Own own tag) own G own1 q.2 m (x.step T s).2 ∧ FiB T q.2 b tb (x.step T s).1:=by
   simp [s206,ob,h9,e1,ob1,e2,ob2,← hG3]
   refine Wp.bE ((flp_ok orc hto hs hm hx h9 ht hne w3 hb3 htb3 hF3 (by simp) (by simp) (by simp) (by simp)).mono ?_)
   rintro ⟨e,τ,G'⟩ ⟨h1,h2,own1,h3,h4⟩
   simp only at h1 h2 h3 h4
   subst h1
   have o4:=h4.ob
   simp [h2,o4]
   exact ⟨⟨own1,h3⟩,h4⟩
  obtain ⟨⟨v,G'⟩,e,rfl,own1,h3,h4⟩:=wW
  exact ⟨own1,G',f206 (exL_ok Q orc) _ _ G _ e,h3,h4⟩
theorem fby_ok (orc:FuncId → Bool) (hF:FiB T G b tb x):(E orc).cl 207 [P0 b] G = some (.int .u64 x.by_,G):=by
 have ob:=hF.ob
 refine f207 (exL_ok Q orc) _ G _ ?_
 simp [s207,ob]
end
end Go.Proofs.YtaanpcoglijohaaGreat.Lift
set_option linter.unusedVariables false
set_option linter.unusedSimpArgs false
set_option maxRecDepth 20000
namespace Go.Proofs.YtaanpcoglijohaaGreat.Lift
open Go Go.Proofs.YtaanpcoglijohaaGreat.Gh Go.Proofs
def FindS.zero (T:TW) (key:Int):FindS:=⟨key,0,0,⟨0,0,0⟩,0,List.replicate T.height.toNat ⟨0,0,0⟩,0⟩
def FindS.new (T:TW) (key:Int):FindS:=(FindS.zero T key).anew T
theorem FindS.new_ok {T:TW} (hs:T.sound) (key:Int):(FindS.new T key).ok T:=FindS.anew_ok hs (by simp [FindS.zero]) U_zero' U_zero'
theorem nextI_head {T:TW} (hs:T.sound):nextI T (-1) 0 = T.heads:=by
 unfold nextI atI
 have:=hs.1
 rw [if_pos (by omega),if_pos hs,if_pos rfl,if_pos (by omega)]; omega
theorem mk_spots (n:Nat) (hn:n ≤ 4) (G:GS):mkK 4 32 z276 n n G = some (tkV G.nx n,G.push ⟨rSp.flat (List.replicate n (0,⟨0,0,0⟩)),4,false,1⟩):=by
 unfold mkK
 rw [if_pos ⟨by omega,by omega,by decide,by omega,wrap64 (by omega) (by omega),wrap64 (by omega) (by omega)⟩]
 have:rep z276 ((n:Nat):Int).toNat = rSp.flat (List.replicate n (0,⟨0,0,0⟩)):=by
  simp only [Int.toNat_natCast]
  induction n with
  | zero=>rfl
  | succ n ih=>show z276 ++ rep z276 n = _; rw [ih (by omega)]; rfl
 rw [this]; rfl
theorem newfind_ok (orc:FuncId → Bool) {T:TW} (hs:T.sound) (key:Int) (G:GS):∃ b tb G',(E orc).cl 160 [T.v,.int .u64 key] G = some (P0 b,G') ∧ Ext G G' ∧ (G.nx ≤ b ∧ b < G'.nx) ∧ (G.nx ≤ tb ∧ tb < G'.nx) ∧ b ≠ tb ∧ FiB T G' b tb (FindS.new T key):=by
 obtain ⟨G1,hG1⟩:∃ G1,G1 = (G.push ⟨T.cells,1,false,1⟩).push ⟨fiL T key 0 0 0 0 0 0 (.slice none 0 0) 0,1,false,1⟩:=⟨_,rfl⟩
 have x1:Ext G G1:=by rw [hG1]; exact ((Ext.refl G).push _).push _
 have o1:G1.obj G.nx = some ⟨T.cells,1,false,1⟩:=by rw [hG1]; simp
 have p1:G1.obj (G.nx + 1) = some ⟨fiL T key 0 0 0 0 0 0 (.slice none 0 0) 0,1,false,1⟩:=by rw [hG1]; simp
 have n1:G1.nx = G.nx + 2:=by rw [hG1]; rfl
 obtain ⟨G2,e2,x2⟩:=tnext_ok orc T (-1) 0 G1
 rw [nextI_head hs] at e2
 have n2:=x2.nx
 have o2:=(x2.obj G.nx (by omega)).trans o1
 have p2:=(x2.obj (G.nx + 1) (by omega)).trans p1
 have hh:¬ T.heads < 0:=by have:=hs.2.2.2.2.2.2.1; omega
 obtain ⟨he,h1,h4⟩:=tw_h hs
 have emk:=mk_spots T.height.toNat h4 G2
 rw [← he] at emk
 obtain ⟨G3,hG3⟩:∃ G3,G3 = (G2.push ⟨rSp.flat (List.replicate T.height.toNat (0,⟨0,0,0⟩)),4,false,1⟩).put (G.nx + 1) (fiX T (FindS.zero T key) G2.nx):=⟨_,rfl⟩
 have x3:Ext G G3:=by rw [hG3]; exact ((x1.trans x2).push _).put (by omega) _
 have n3:G3.nx = G2.nx + 1:=by rw [hG3]; rfl
 have hF3:FiB T G3 (G.nx + 1) G2.nx (FindS.zero T key):=⟨List.replicate T.height.toNat (0,⟨0,0,0⟩),by rw [hG3]; simp,by rw [hG3,obj_put_ne _ _ (by omega)]; simp,by simp [FindS.zero]⟩
 have ob3:=hF3.ob
 obtain ⟨G4,e4,m4,hF4⟩:=fanew_ok orc hs hF3 (by omega) (by omega) (by omega) (by simp [FindS.zero])
 have n4:=m4.nx
 refine ⟨G.nx + 1,G2.nx,G4,f160 (exL_ok Q orc) _ _ G _ ?_,m4.tail x3 (fun g hg=>by rw [hg]; omega),by omega,by omega,by omega,hF4⟩
 have hne:¬ G.nx + 1 = G2.nx:=by omega
 have hG3':G3 = (G2.push ⟨rSp.flat (List.replicate T.height.toNat (0,⟨0,0,0⟩)),4,false,1⟩).put (G.nx + 1) ⟨fiL T key 0 0 0 0 0 0 (tkV G2.nx T.height.toNat) 0,1,false,1⟩:=hG3
 have hz:z279 = [.int .i64 0,.int .i64 0,.int .i64 0,.int .i64 0,.int .i64 0,.int .i64 0,.int .i64 0,.int .i64 0,.int .i64 0,.int .i64 0,.int .i64 0,.int .i64 0,.int .i64 0,.int .u64 0,.int .i64 0,.int .i64 0,.int .i64 0,.int .u64 0,.int .u64 0,.int .u64 0,.slice none 0 0,.int .u64 0,.bool false,.int .i64 0]:=rfl
 simp [s160,hz,splice_put,splice_end,splice_succ]
 rw [← hG1]
 simp [o1,e2,hh,o2,emk,p2,hne]
 rw [← hG3']
 simp [e4]
end Go.Proofs.YtaanpcoglijohaaGreat.Lift
