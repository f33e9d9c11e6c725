import Derived.Test.YtaanpcoglijohaaGreatCE
import Derived.Test.YtaanpcoglijohaaGreatCC
import Derived.Test.YtaanpcoglijohaaGreatCD
set_option linter.unusedVariables false
set_option linter.unusedSimpArgs false
set_option maxRecDepth 20000
namespace Go.Proofs.YtaanpcoglijohaaGreat.Lift
open Go Go.Proofs.YtaanpcoglijohaaGreat.Gh Go.Proofs
abbrev slV (b h:Nat):Value:=.slice (some ⟨b,0,none⟩) h h
abbrev rfL (t:TW) (key line l pred known cur w:Int) (pb sb kb h:Nat) (by_:Int):List Value:=[.int .i64 t.nodes,.int .i64 t.heads,.int .i64 t.height,.int .i64 t.top,.int .i64 t.links,.int .i64 t.size,.int .i64 t.u6,.int .i64 t.u7,.int .i64 t.u8,.int .i64 t.u9,.int .i64 t.u10,.int .i64 t.u11,.int .i64 t.u12,.int .u64 key,.int .i64 line,.int .i64 l,.int .i64 pred,.int .u64 known,.int .u64 cur,.int .u64 w,slV pb h,slV sb h,slV kb h,.int .u64 by_,.int .i64 0]
abbrev rfO (T:TW) (x:FindS) (cur l:Int) (pb sb kb:Nat):GObj:=⟨rfL T x.key x.line l x.at_.pred x.at_.known cur x.w pb sb kb T.height.toNat x.by_,1,false,1⟩
structure RfC (T:TW) (G:GS) (b pb sb kb:Nat) (x:FindS) (cur l:Int):Prop where
 ob:G.obj b = some (rfO T x cur l pb sb kb)
 op:G.obj pb = some ⟨(x.told.map (·.pred)).map (Value.int .i64),1,false,1⟩
 os:G.obj sb = some ⟨(x.told.map (·.cur)).map (Value.int .u64),1,false,1⟩
 ok:G.obj kb = some ⟨(x.told.map (·.known)).map (Value.int .u64),1,false,1⟩
def RfB (T:TW) (G:GS) (b pb sb kb:Nat) (x:FindS):Prop:=∃ cur l,RfC T G b pb sb kb x cur l ∧ (x.line ≠ 1 → x.line ≠ 9 → cur = x.at_.cur) ∧ (x.line ≠ 9 → l = x.l)
structure Df (b pb sb kb:Nat):Prop where
 d1:b ≠ pb
 d2:b ≠ sb
 d3:b ≠ kb
 d4:pb ≠ sb
 d5:pb ≠ kb
 d6:sb ≠ kb
structure Lf (G:GS) (b pb sb kb:Nat):Prop where
 l1:b < G.nx
 l2:pb < G.nx
 l3:sb < G.nx
 l4:kb < G.nx
def isF (b pb sb kb:Nat):Nat → Prop:=fun g=>g = b ∨ g = pb ∨ g = sb ∨ g = kb
section
variable {T:TW} {G G':GS} {b pb sb kb:Nat} {x y:FindS} {cur l:Int}
theorem Lf.le (h:Lf G b pb sb kb) (hn:G.nx ≤ G'.nx):Lf G' b pb sb kb:=⟨Nat.lt_of_lt_of_le h.l1 hn,Nat.lt_of_lt_of_le h.l2 hn,Nat.lt_of_lt_of_le h.l3 hn,Nat.lt_of_lt_of_le h.l4 hn⟩
theorem RfC.kept (h:RfC T G b pb sb kb x cur l) (k:∀ g,isF b pb sb kb g → G'.obj g = G.obj g):RfC T G' b pb sb kb x cur l :=
 ⟨(k b (.inl rfl)).trans h.ob,(k pb (.inr (.inl rfl))).trans h.op,(k sb (.inr (.inr (.inl rfl)))).trans h.os,(k kb (.inr (.inr (.inr rfl)))).trans h.ok⟩
theorem RfC.ext (h:RfC T G b pb sb kb x cur l) (hl:Lf G b pb sb kb) (e:Ext G G'):RfC T G' b pb sb kb x cur l :=
 h.kept fun g hg=>e.obj g (hg.elim (fun k=>k ▸ hl.l1) fun hg=>hg.elim (fun k=>k ▸ hl.l2) fun hg=>hg.elim (fun k=>k ▸ hl.l3) fun k=>k ▸ hl.l4)
theorem RfC.put (h:RfC T G b pb sb kb x cur l) (d:Df b pb sb kb) (y:FindS) (hy:y.told = x.told) (cur' l':Int):RfC T (G.put b (rfO T y cur' l' pb sb kb)) b pb sb kb y cur' l' :=
 ⟨by rw [obj_put,if_pos rfl],by rw [obj_put_ne _ _ d.d1.symm,hy]; exact h.op,by rw [obj_put_ne _ _ d.d2.symm,hy]; exact h.os,by rw [obj_put_ne _ _ d.d3.symm,hy]; exact h.ok⟩
theorem rfat_ok (orc:FuncId → Bool) (h:RfC T G b pb sb kb x cur l) (hc:U cur) (hb:b < G.nx):∃ G',(E orc).cl 235 [P0 b] G = some (.int .i64 (idxI T.size cur),G') ∧ Ext G G':=by
 obtain ⟨G1,e1,x1⟩:=rindex15_ok orc T hc (G.room 10)
 have ob:=h.ob
 refine ⟨G1,f235 (exL_ok Q orc) _ G _ ?_,((Ext.refl G).room 10).trans x1⟩
 simp [s235,ob,e1]
theorem rfanew_ok (orc:FuncId → Bool) (hs:T.sound) (h:RfC T G b pb sb kb x cur l) (d:Df b pb sb kb) (hl:Lf G b pb sb kb):∃ G',(E orc).cl 233 [P0 b] G = some (.tuple #[],G') ∧ ModP (isF b pb sb kb) G G' ∧ RfC T G' b pb sb kb (x.anew T) cur (T.height - 1):=by
 have ob:=h.ob
 have hw:IntKind.wrap .i64 (T.height - 1) = T.height - 1:=wrap64 (by have:=hs.1; omega) (by have:=hs.2.1; omega)
 have h1:=h.put d { x with line:=1 } rfl cur l
 have h2:=h1.put d { x with line:=1,l:=T.height - 1 } rfl cur (T.height - 1)
 have h3:=h2.put d { x with line:=1,l:=T.height - 1,at_:={ x.at_ with pred:=-1 } } rfl cur (T.height - 1)
 have h4:=h3.put d (x.anew T) rfl cur (T.height - 1)
 refine ⟨_,f233 (exL_ok Q orc) _ G _ ?_,((((ModP.refl (isF b pb sb kb) G).put (.inl (.inl rfl)) _).put (.inl (.inl rfl)) _).put (.inl (.inl rfl)) _).put (.inl (.inl rfl)) _,h4⟩
 simp [s233,ob,hw,FindS.anew]
theorem map_set' {α:Type} (f:α → Int) (k:IntKind) (L:List α) (n:Nat) (a:α):((L.map f).map (Value.int k)).set n (.int k (f a)) = ((L.set n a).map f).map (Value.int k):=by
 rw [← List.map_set,← List.map_set]
theorem rftell_ok (orc:FuncId → Bool) (hs:T.sound) (h:RfC T G b pb sb kb x x.at_.cur x.l) (d:Df b pb sb kb) (hl:Lf G b pb sb kb) (ht:x.told.length = T.height.toNat) (hlev:0 ≤ x.l ∧ x.l < T.height) :
  ∃ G',(E orc).cl 236 [P0 b] G = some (.tuple #[],G') ∧ ModP (isF b pb sb kb) G G' ∧ RfB T G' b pb sb kb x.tell:=by
 obtain ⟨ob,op,os,ok⟩:=h
 obtain ⟨e1,e2,e3⟩:=tw_h hs
 obtain ⟨n,hn⟩:=Int.eq_ofNat_of_zero_le hlev.1
 have hnl:n < x.told.length:=by omega
 obtain ⟨H,hH⟩:∃ H,H = T.height.toNat:=⟨_,rfl⟩
 have hnH:n < H:=by omega
 have hnH':(n:Int) < H:=by omega
 have hn0:(0:Int) ≤ n:=by omega
 have st:∀ (G:GS) (c:Nat) (f:Spot → Int) (k:IntKind),G.obj c = some ⟨(x.told.map f).map (Value.int k),1,false,1⟩ → storeN 1 c n (.int k (f x.at_)) G = some (G.put c ⟨((x.told.set n x.at_).map f).map (Value.int k),1,false,1⟩):=fun G c f k ho=>by
  rw [storeN_eq,ho,stO_int,if_pos (by simpa using hnl),map_set']
 obtain ⟨G1,hG1⟩:∃ G1,G1 = (G.room 14).put pb ⟨((x.told.set n x.at_).map (·.pred)).map (Value.int .i64),1,false,1⟩:=⟨_,rfl⟩
 have s1:storeN 1 pb n (.int .i64 x.at_.pred) (G.room 14) = some G1:=by rw [hG1]; exact st (G.room 14) pb (·.pred) .i64 (by simpa using op)
 have ob1:G1.obj b = G.obj b:=by rw [hG1,obj_put_ne _ _ d.d1]; simp
 have ok1:G1.obj kb = G.obj kb:=by rw [hG1,obj_put_ne _ _ d.d5.symm]; simp
 have os1:G1.obj sb = G.obj sb:=by rw [hG1,obj_put_ne _ _ d.d4.symm]; simp
 have op1:G1.obj pb = some ⟨((x.told.set n x.at_).map (·.pred)).map (Value.int .i64),1,false,1⟩:=by rw [hG1]; simp
 obtain ⟨G2,hG2⟩:∃ G2,G2 = (G1.room 14).put kb ⟨((x.told.set n x.at_).map (·.known)).map (Value.int .u64),1,false,1⟩:=⟨_,rfl⟩
 have s2:storeN 1 kb n (.int .u64 x.at_.known) (G1.room 14) = some G2:=by rw [hG2]; exact st (G1.room 14) kb (·.known) .u64 (by simpa using ok1.trans ok)
 have ob2:G2.obj b = G1.obj b:=by rw [hG2,obj_put_ne _ _ d.d3]; simp
 have os2:G2.obj sb = G1.obj sb:=by rw [hG2,obj_put_ne _ _ d.d6]; simp
 have op2:G2.obj pb = G1.obj pb:=by rw [hG2,obj_put_ne _ _ d.d5]; simp
 have ok2:G2.obj kb = some ⟨((x.told.set n x.at_).map (·.known)).map (Value.int .u64),1,false,1⟩:=by rw [hG2]; simp
 obtain ⟨G3,hG3⟩:∃ G3,G3 = (G2.room 14).put sb ⟨((x.told.set n x.at_).map (·.cur)).map (Value.int .u64),1,false,1⟩:=⟨_,rfl⟩
 have s3:storeN 1 sb n (.int .u64 x.at_.cur) (G2.room 14) = some G3:=by rw [hG3]; exact st (G2.room 14) sb (·.cur) .u64 (by simpa using (os2.trans os1).trans os)
 have ob3:G3.obj b = G2.obj b:=by rw [hG3,obj_put_ne _ _ d.d2]; simp
 have op3:G3.obj pb = G2.obj pb:=by rw [hG3,obj_put_ne _ _ d.d4]; simp
 have ok3:G3.obj kb = G2.obj kb:=by rw [hG3,obj_put_ne _ _ d.d6.symm]; simp
 have os3:G3.obj sb = some ⟨((x.told.set n x.at_).map (·.cur)).map (Value.int .u64),1,false,1⟩:=by rw [hG3]; simp
 have m3:ModP (isF b pb sb kb) G G3:=by
  rw [hG3,hG2,hG1]
  exact ((((((ModP.refl _ G).room 14).put (.inl (.inr (.inl rfl))) _).room 14).put (.inl (.inr (.inr (.inr rfl)))) _).room 14).put (.inl (.inr (.inr (.inl rfl)))) _
 have obx:G.obj b = some (rfO T x x.at_.cur x.l pb sb kb):=ob
 have ob1':=ob1.trans obx
 have ob2':=ob2.trans ob1'
 have ob3':=ob3.trans ob2'
 have R3:RfC T G3 b pb sb kb { x with told:=x.told.set n x.at_ } x.at_.cur x.l:=⟨ob3',(op3.trans op2).trans op1,os3,ok3.trans ok2⟩
 have hw:IntKind.wrap .i64 ((n:Int) - 1) = (n:Int) - 1:=wrap64 (by omega) (by omega)
 have R4:=R3.put d { x with told:=x.told.set n x.at_,line:=1 } rfl x.at_.cur x.l
 have R5:=R4.put d { x with told:=x.told.set n x.at_,line:=1,l:=x.l - 1 } rfl x.at_.cur (x.l - 1)
 have hx:x.l.toNat = n:=by omega
 unfold FindS.tell
 unfold rfO at obx ob1' ob2' ob3'
 rw [← hH,hn] at obx ob1' ob2' ob3'
 by_cases h0:n = 0
 ·rw [if_pos (by omega)]
  have R6:=R5.put d { x with told:=x.told.set n x.at_,line:=9 } rfl x.at_.cur (x.l - 1)
  refine ⟨_,f236 (exL_ok Q orc) _ G _ ?_,((m3.put (.inl (.inl rfl)) _).put (.inl (.inl rfl)) _).put (.inl (.inl rfl)) _,x.at_.cur,x.l - 1,by rw [hx]; exact R6,by simp,by simp⟩
  have hm:((n:Int) - 1 < 0):=by omega
  simp [-Int.natCast_add,-storeN_s,s236,obx,hnH,hnH',hn0,s1,ob1',s2,ob2',s3]
  simp [-Int.natCast_add,ob3',hw,hm,hn,← hH]
  subst hH
  rfl
 ·rw [if_neg (by omega)]
  refine ⟨_,f236 (exL_ok Q orc) _ G _ ?_,(m3.put (.inl (.inl rfl)) _).put (.inl (.inl rfl)) _,x.at_.cur,x.l - 1,by rw [hx]; exact ⟨R5.ob,R5.op,R5.os,R5.ok⟩,by simp,by simp⟩
  have hm:¬ ((n:Int) - 1 < 0):=by omega
  simp [-Int.natCast_add,-storeN_s,s236,obx,hnH,hnH',hn0,s1,ob1',s2,ob2',s3]
  simp [-Int.natCast_add,ob3',hw,hm,hn,← hH]
  subst hH
  rfl
end
end Go.Proofs.YtaanpcoglijohaaGreat.Lift
set_option linter.unusedVariables false
set_option linter.unusedSimpArgs false
set_option maxRecDepth 20000
namespace Go.Proofs.YtaanpcoglijohaaGreat.Lift
open Go Go.Proofs.YtaanpcoglijohaaGreat.Gh Go.Proofs
structure AtF (own:Nat → Nat) (tag:Nat) (G:GS) (b pb sb kb:Nat):Prop where
 a1:At own tag G b
 a2:At own tag G pb
 a3:At own tag G sb
 a4:At own tag G kb
section
variable {T:TW} {G G':GS} {b pb sb kb:Nat} {x y:FindS} {cur l:Int} {own own0 own':Nat → Nat} {tag r:Nat} {s:MS}
theorem AtF.to (h:AtF own tag G b pb sb kb) (hn:G.nx ≤ G'.nx) (a:Agr own own' G):AtF own' tag G' b pb sb kb:=⟨h.a1.to hn a,h.a2.to hn a,h.a3.to hn a,h.a4.to hn a⟩
theorem AtF.lf (h:AtF own tag G b pb sb kb):Lf G b pb sb kb:=⟨h.a1.lt,h.a2.lt,h.a3.lt,h.a4.lt⟩
theorem AtF.of (h:AtF own tag G b pb sb kb) {g:Nat} (hg:isF b pb sb kb g):At own tag G g:=hg.elim (fun k=>k ▸ h.a1) fun hg=>hg.elim (fun k=>k ▸ h.a2) fun hg=>hg.elim (fun k=>k ▸ h.a3) fun k=>k ▸ h.a4
theorem AtF.putO (h:AtF own tag G b pb sb kb) (g:Nat) (o:GObj):AtF own tag (G.put g o) b pb sb kb:=⟨h.a1.putO _ _,h.a2.putO _ _,h.a3.putO _ _,h.a4.putO _ _⟩
theorem AtF.extO (h:AtF own tag G b pb sb kb) (x:Ext G G') (u:Nat):AtF (grown own G u) tag G' b pb sb kb:=h.to x.nx grown_agr
theorem AtF.mod (h:AtF own tag G b pb sb kb) (q:ModP (isF b pb sb kb) G G'):ModP (Own own tag) G G':=q.mono fun g hg=>(h.of hg).tag
theorem RfC.keep (R:RfC T G b pb sb kb x cur l) (h:AtF own tag G b pb sb kb) (ht:tag ≠ 11) {s':MS} (w:RW no own G own' G' r s'):RfC T G' b pb sb kb x cur l:=R.kept fun g hg=>w.keep (h.of hg).lt (by rw [(h.of hg).tag]; exact ht) id
theorem rflooks_ok (orc:FuncId → Bool) (hs:T.sound) (h:RfC T G b pb sb kb x x.at_.cur x.l) (d:Df b pb sb kb) (hl:Lf G b pb sb kb) (ht:x.told.length = T.height.toNat) (hlev:0 ≤ x.l ∧ x.l < T.height) (hc:U x.at_.cur) :
  ∃ G',(E orc).cl 234 [P0 b] G = some (.tuple #[],G') ∧ ModP (isF b pb sb kb) G G' ∧ RfB T G' b pb sb kb (x.looks T):=by
 have ob:=h.ob
 obtain ⟨G1,hG1⟩:∃ G1,G1 = G.put b (rfO T { x with line:=2 } x.at_.cur x.l pb sb kb):=⟨_,rfl⟩
 have h1:RfC T G1 b pb sb kb { x with line:=2 } x.at_.cur x.l:=by rw [hG1]; exact h.put d _ (by rfl) _ _
 have m1:ModP (isF b pb sb kb) G G1:=by rw [hG1]; exact (ModP.refl _ G).put (.inl (.inl rfl)) _
 have hl1:=hl.le m1.nx
 obtain ⟨G2,e2,x2⟩:=rfat_ok orc h1 hc hl1.l1
 have h2:=h1.ext hl1 x2
 have m2:ModP (isF b pb sb kb) G G2:=m1.trans (x2.modP _)
 unfold FindS.looks
 by_cases hi:idxI T.size x.at_.cur < 0
 ·rw [if_pos hi]
  obtain ⟨G3,e3,m3,h3⟩:=rftell_ok orc hs h2 d (hl1.le x2.nx) ht hlev
  refine ⟨G3,f234 (exL_ok Q orc) _ G _ ?_,m2.trans (m3.mono fun g hg=>.inl hg),h3⟩
  simp [s234,ob,← hG1,e2,hi,e3]
 ·rw [if_neg hi]
  refine ⟨G2,f234 (exL_ok Q orc) _ G _ ?_,m2,x.at_.cur,x.l,h2,fun _ _=>rfl,fun _=>rfl⟩
  simp [s234,ob,← hG1,e2,hi]
theorem rfstep_ok (orc:FuncId → Bool) (hs:T.sound) (h:RM own G r s) (hm:s.ok) (hx:x.ok T) (ht:tag ≠ 11) (d:Df b pb sb kb) (ha:AtF own tag G b pb sb kb) (hF:RfB T G b pb sb kb x) :
  ∃ own1 G1,(E orc).cl 193 [P0 b,P0 r] G = some (.bool (decide ((x.step T s).1.line = 9)),G1) ∧ RW (Own own tag) own G own1 G1 r (x.step T s).2 ∧ RfB T G1 b pb sb kb (x.step T s).1:=by
 obtain ⟨l1,l2,l3,l4,l5,l6,l7,l8,l9,l10⟩:=hx
 obtain ⟨c0,j0,R0,hc,hj⟩:=hF
 have w:RW (Own own tag) own G own G r s:=RW.refl h
 rcases l1 with h1 | h2 | h3 | h4 | h9
 ·-- line 1
  have hst:x.step T s = (if mkB ≤ (s.load (nextI T x.at_.pred x.l)).new then (({ x with by_:=x.at_.known,at_:={ x.at_ with cur:=(s.load (nextI T x.at_.pred x.l)).new } }:FindS).anew T,s.load (nextI T x.at_.pred x.l)) else (({ x with by_:=x.at_.known,at_:={ x.at_ with cur:=(s.load (nextI T x.at_.pred x.l)).new } }:FindS).looks T,s.load (nextI T x.at_.pred x.l))):=by
   unfold FindS.step; simp only; rw [if_neg (by omega),if_neg (by omega),if_neg (by omega),if_neg (by omega)]
  rw [hst]
  obtain rfl:=hj (by omega)
  have hl:=(hm.load (nextI T x.at_.pred x.l)).2
  have ob0:=R0.ob
  obtain ⟨G1,hG1⟩:∃ G1,G1 = G.put b (rfO T { x with line:=1,by_:=x.at_.known } c0 x.l pb sb kb):=⟨_,rfl⟩
  have R1:RfC T G1 b pb sb kb { x with line:=1,by_:=x.at_.known } c0 x.l:=by rw [hG1]; exact R0.put d _ (by rfl) _ _
  have w1:RW (Own own tag) own G own G1 r s:=by rw [hG1]; exact w.putT ha.a1.tag ht _
  have ha1:AtF own tag G1 b pb sb kb:=by rw [hG1]; exact ha.putO _ _
  have ob1:=R1.ob
  obtain ⟨G2,e2,x2⟩:=rnext_ok orc T x.at_.pred x.l (G1.room 19)
  have y2:=((Ext.refl G1).room 19).trans x2
  have R2:=R1.ext ha1.lf y2
  have w2:=w1.extT y2 tag
  have ha2:=ha1.extO y2 tag
  generalize grown own G1 tag = own2 at *
  obtain ⟨own3,G3,e3,w3⟩:=w2.rm.load orc (nextI T x.at_.pred x.l)
  generalize s.load (nextI T x.at_.pred x.l) = s' at *
  generalize s'.new = v at *
  have R3:=R2.keep ha2 ht w3
  have w3':=w2.tr w3.any
  have ha3:=ha2.to w3.nx w3.stp.agr
  have ob3:=R3.ob
  obtain ⟨G4,hG4⟩:∃ G4,G4 = G3.put b (rfO T { x with line:=1,by_:=x.at_.known,at_:={ x.at_ with cur:=v } } v x.l pb sb kb):=⟨_,rfl⟩
  have R4:RfC T G4 b pb sb kb { x with line:=1,by_:=x.at_.known,at_:={ x.at_ with cur:=v } } v x.l:=by rw [hG4]; exact R3.put d _ (by rfl) _ _
  have w4:RW (Own own tag) own G own3 G4 r s':=by rw [hG4]; exact w3'.putT ha3.a1.tag ht _
  have ha4:AtF own3 tag G4 b pb sb kb:=by rw [hG4]; exact ha3.putO _ _
  have ob4:=R4.ob
  by_cases hv:mkB ≤ v
  ·rw [if_pos hv]
   have hv':9223372036854775808 ≤ v:=hv
   obtain ⟨G5,e5,m5,R5⟩:=rfanew_ok orc hs R4 d ha4.lf
   have ob5:=R5.ob
   refine ⟨_,G5,f193 (exL_ok Q orc) _ _ G _ ?_,w4.modT (ha4.mod m5) ht tag,v,T.height - 1,R5,fun h=>absurd rfl h,fun _=>rfl⟩
   simp [jb193_0,j193_0,sb193,s193,clip_t,ob0,h1,← hG1,ob1,e2,e3,ob3,← hG4,ob4,hv',e5,ob5]
  ·rw [if_neg hv]
   have hv':¬ 9223372036854775808 ≤ v:=hv
   obtain ⟨G5,e5,m5,hF5⟩:=rflooks_ok orc hs R4 d ha4.lf l3 l2 hl
   have hF5':=hF5
   obtain ⟨c5,j5,R5,-,-⟩:=hF5
   have ob5:=R5.ob
   refine ⟨_,G5,f193 (exL_ok Q orc) _ _ G _ ?_,w4.modT (ha4.mod m5) ht tag,hF5'⟩
   simp [jb193_0,j193_0,sb193,s193,clip_t,ob0,h1,← hG1,ob1,e2,e3,ob3,← hG4,ob4,hv',e5,ob5]
 ·-- line 2
  have hst:x.step T s = ({ x with by_:=x.at_.cur,w:=(s.load (nextI T (idxI T.size x.at_.cur) x.l)).new,line:=if mkB ≤ (s.load (nextI T (idxI T.size x.at_.cur) x.l)).new then 3 else 4 },s.load (nextI T (idxI T.size x.at_.cur) x.l)):=by
   unfold FindS.step; simp only; rw [if_neg (by omega),if_pos h2]
  rw [hst]
  obtain rfl:=hc (by omega) (by omega)
  obtain rfl:=hj (by omega)
  have hl:=(hm.load (nextI T (idxI T.size x.at_.cur) x.l)).2
  have ob0:=R0.ob
  obtain ⟨G1,hG1⟩:∃ G1,G1 = G.put b (rfO T { x with line:=2,by_:=x.at_.cur } x.at_.cur x.l pb sb kb):=⟨_,rfl⟩
  have R1:RfC T G1 b pb sb kb { x with line:=2,by_:=x.at_.cur } x.at_.cur x.l:=by rw [hG1]; exact R0.put d _ (by rfl) _ _
  have w1:RW (Own own tag) own G own G1 r s:=by rw [hG1]; exact w.putT ha.a1.tag ht _
  have ha1:AtF own tag G1 b pb sb kb:=by rw [hG1]; exact ha.putO _ _
  have ob1:=R1.ob
  have x17:Ext G1 (G1.room 17):=(Ext.refl G1).room 17
  obtain ⟨G2,e2,x2⟩:=rfat_ok orc (R1.ext ha1.lf x17) l6 (ha1.lf.le x17.nx).l1
  have R2:=R1.ext ha1.lf (x17.trans x2)
  have ob2:=R2.ob
  obtain ⟨G3,e3,x3⟩:=rnext_ok orc T (idxI T.size x.at_.cur) x.l G2
  have y3:=(x17.trans x2).trans x3
  have R3:=R1.ext ha1.lf y3
  have w3:=w1.extT y3 tag
  have ha3:=ha1.extO y3 tag
  generalize grown own G1 tag = own3 at *
  obtain ⟨own4,G4,e4,w4⟩:=w3.rm.load orc (nextI T (idxI T.size x.at_.cur) x.l)
  generalize s.load (nextI T (idxI T.size x.at_.cur) x.l) = s' at *
  generalize s'.new = v at *
  have R4:=R3.keep ha3 ht w4
  have w4':=w3.tr w4.any
  have ha4:=ha3.to w4.nx w4.stp.agr
  have ob4:=R4.ob
  obtain ⟨G5,hG5⟩:∃ G5,G5 = (G4.put b (rfO T { x with line:=2,by_:=x.at_.cur,w:=v } x.at_.cur x.l pb sb kb)).put b (rfO T { x with line:=4,by_:=x.at_.cur,w:=v } x.at_.cur x.l pb sb kb):=⟨_,rfl⟩
  have R5:RfC T G5 b pb sb kb { x with line:=4,by_:=x.at_.cur,w:=v } x.at_.cur x.l:=by rw [hG5]; exact (R4.put d { x with line:=2,by_:=x.at_.cur,w:=v } rfl _ _).put d _ (by rfl) _ _
  have w5:RW (Own own tag) own G own4 G5 r s':=by rw [hG5]; exact (w4'.putT ha4.a1.tag ht _).putT ha4.a1.tag ht _
  have ob5:=R5.ob
  by_cases hv:mkB ≤ v
  ·have hv':9223372036854775808 ≤ v:=hv
   have R6:=R5.put d { x with line:=3,by_:=x.at_.cur,w:=v } rfl x.at_.cur x.l
   refine ⟨_,G5.put b (rfO T { x with line:=3,by_:=x.at_.cur,w:=v } x.at_.cur x.l pb sb kb),f193 (exL_ok Q orc) _ _ G _ ?_,w5.putT ha4.a1.tag ht _,x.at_.cur,x.l,by simpa [hv] using R6,fun _ _=>rfl,fun _=>rfl⟩
   simp [jb193_0,j193_0,sb193,s193,clip_t,ob0,h2,← hG1,ob1,e2,ob2,e3,e4,ob4,← hG5,ob5,hv',hv]
  ·have hv':¬ 9223372036854775808 ≤ v:=hv
   refine ⟨_,G5,f193 (exL_ok Q orc) _ _ G _ ?_,w5,x.at_.cur,x.l,by simpa [hv] using R5,fun _ _=>rfl,fun _=>rfl⟩
   simp [jb193_0,j193_0,sb193,s193,clip_t,ob0,h2,← hG1,ob1,e2,ob2,e3,e4,ob4,← hG5,ob5,hv',hv]
 ·-- line 3
  have hmk:=l9.1 h3
  have hst:x.step T s = (if (s.cas (nextI T x.at_.pred x.l) x.at_.cur (x.w - mkB)).held = true then (({ x with by_:=x.at_.known,at_:={ x.at_ with cur:=x.w - mkB } }:FindS).looks T,s.cas (nextI T x.at_.pred x.l) x.at_.cur (x.w - mkB)) else (({ x with by_:=x.at_.known }:FindS).anew T,s.cas (nextI T x.at_.pred x.l) x.at_.cur (x.w - mkB))):=by
   unfold FindS.step; simp only; rw [if_neg (by omega),if_neg (by omega),if_pos h3]
  rw [hst]
  obtain rfl:=hc (by omega) (by omega)
  obtain rfl:=hj (by omega)
  have hu:=U_sub l8 hmk
  have hsub:IntKind.wrap .u64 (x.w - 9223372036854775808) = x.w - mkB:=by
   have h1:=l8.1; have h2:=l8.2
   have hmk':9223372036854775808 ≤ x.w:=hmk
   have:mkB = 9223372036854775808:=rfl
   rw [wrap_u64]; omega
  have ob0:=R0.ob
  obtain ⟨G1,hG1⟩:∃ G1,G1 = G.put b (rfO T { x with line:=3,by_:=x.at_.known } x.at_.cur x.l pb sb kb):=⟨_,rfl⟩
  have R1:RfC T G1 b pb sb kb { x with line:=3,by_:=x.at_.known } x.at_.cur x.l:=by rw [hG1]; exact R0.put d _ (by rfl) _ _
  have w1:RW (Own own tag) own G own G1 r s:=by rw [hG1]; exact w.putT ha.a1.tag ht _
  have ha1:AtF own tag G1 b pb sb kb:=by rw [hG1]; exact ha.putO _ _
  have ob1:=R1.ob
  obtain ⟨G2,e2,x2⟩:=rnext_ok orc T x.at_.pred x.l (G1.room 24)
  have y2:=((Ext.refl G1).room 24).trans x2
  have R2:=R1.ext ha1.lf y2
  have ob2:=R2.ob
  have w2:=w1.extT y2 tag
  have ha2:=ha1.extO y2 tag
  generalize grown own G1 tag = own2 at *
  obtain ⟨own3,G3,e3,w3⟩:=w2.rm.cas orc (nextI T x.at_.pred x.l) x.at_.cur (x.w - mkB)
  generalize s.cas (nextI T x.at_.pred x.l) x.at_.cur (x.w - mkB) = s' at *
  have R3:=R2.keep ha2 ht w3
  have w3':=w2.tr w3.any
  have ha3:=ha2.to w3.nx w3.stp.agr
  have ob3:=R3.ob
  cases hh:s'.held with
  | false =>
   rw [if_neg (by decide)]
   rw [hh] at e3
   obtain ⟨G5,e5,m5,R5⟩:=rfanew_ok orc hs R3 d ha3.lf
   have ob5:=R5.ob
   refine ⟨_,G5,f193 (exL_ok Q orc) _ _ G _ ?_,w3'.modT (ha3.mod m5) ht tag,x.at_.cur,T.height - 1,R5,fun h=>absurd rfl h,fun _=>rfl⟩
   simp [jb193_0,j193_0,sb193,s193,clip_t,ob0,h3,← hG1,ob1,e2,ob2,hsub,e3,e5,ob5]
  | true =>
   rw [if_pos rfl]
   rw [hh] at e3
   obtain ⟨G4,hG4⟩:∃ G4,G4 = G3.put b (rfO T { x with line:=3,by_:=x.at_.known,at_:={ x.at_ with cur:=x.w - mkB } } (x.w - mkB) x.l pb sb kb):=⟨_,rfl⟩
   have R4:RfC T G4 b pb sb kb { x with line:=3,by_:=x.at_.known,at_:={ x.at_ with cur:=x.w - mkB } } (x.w - mkB) x.l:=by rw [hG4]; exact R3.put d _ (by rfl) _ _
   have w4:RW (Own own tag) own G own3 G4 r s':=by rw [hG4]; exact w3'.putT ha3.a1.tag ht _
   have ha4:AtF own3 tag G4 b pb sb kb:=by rw [hG4]; exact ha3.putO _ _
   obtain ⟨G5,e5,m5,hF5⟩:=rflooks_ok orc hs R4 d ha4.lf l3 l2 hu
   have hF5':=hF5
   obtain ⟨c5,j5,R5,-,-⟩:=hF5
   have ob5:=R5.ob
   refine ⟨_,G5,f193 (exL_ok Q orc) _ _ G _ ?_,w4.modT (ha4.mod m5) ht tag,hF5'⟩
   simp [jb193_0,j193_0,sb193,s193,clip_t,ob0,h3,← hG1,ob1,e2,ob2,hsub,e3,ob3,← hG4,e5,ob5]
 ·-- line 4
  have hst:x.step T s = (if x.key ≤ (s.load (atI T (idxI T.size x.at_.cur) 0)).new then (({ x with by_:=x.at_.cur }:FindS).tell,s.load (atI T (idxI T.size x.at_.cur) 0)) else (({ x with by_:=x.at_.cur,at_:=⟨idxI T.size x.at_.cur,x.at_.cur,x.w⟩ }:FindS).looks T,s.load (atI T (idxI T.size x.at_.cur) 0))):=by
   unfold FindS.step; simp only; rw [if_neg (by omega),if_neg (by omega),if_neg (by omega),if_pos h4]
  rw [hst]
  obtain rfl:=hc (by omega) (by omega)
  obtain rfl:=hj (by omega)
  have hl:=(hm.load (atI T (idxI T.size x.at_.cur) 0)).2
  have ob0:=R0.ob
  obtain ⟨G1,hG1⟩:∃ G1,G1 = G.put b (rfO T { x with line:=4,by_:=x.at_.cur } x.at_.cur x.l pb sb kb):=⟨_,rfl⟩
  have R1:RfC T G1 b pb sb kb { x with line:=4,by_:=x.at_.cur } x.at_.cur x.l:=by rw [hG1]; exact R0.put d _ (by rfl) _ _
  have w1:RW (Own own tag) own G own G1 r s:=by rw [hG1]; exact w.putT ha.a1.tag ht _
  have ha1:AtF own tag G1 b pb sb kb:=by rw [hG1]; exact ha.putO _ _
  have ob1:=R1.ob
  have x10:Ext G1 (G1.room 10):=(Ext.refl G1).room 10
  obtain ⟨G2,e2,x2⟩:=rfat_ok orc (R1.ext ha1.lf x10) l6 (ha1.lf.le x10.nx).l1
  have R2:=R1.ext ha1.lf (x10.trans x2)
  have ob2:=R2.ob
  obtain ⟨G3,e3,x3⟩:=rtat_ok orc T (idxI T.size x.at_.cur) 0 G2
  have y3:=(x10.trans x2).trans x3
  have R3:=R1.ext ha1.lf y3
  have w3:=w1.extT y3 tag
  have ha3:=ha1.extO y3 tag
  generalize grown own G1 tag = own3 at *
  obtain ⟨own4,G4,e4,w4⟩:=w3.rm.load orc (atI T (idxI T.size x.at_.cur) 0)
  generalize s.load (atI T (idxI T.size x.at_.cur) 0) = s' at *
  generalize s'.new = v at *
  have R4:=R3.keep ha3 ht w4
  have w4':=w3.tr w4.any
  have ha4:=ha3.to w4.nx w4.stp.agr
  have ob4:=R4.ob
  by_cases hv:x.key ≤ v
  ·rw [if_pos hv]
   have hv':¬ v < x.key:=by omega
   obtain ⟨G5,e5,m5,hF5⟩:=rftell_ok orc hs R4 d ha4.lf l3 l2
   have hF5':=hF5
   obtain ⟨c5,j5,R5,-,-⟩:=hF5
   have ob5:=R5.ob
   have hx4:({ x with line:=4,by_:=x.at_.cur }:FindS) = { x with by_:=x.at_.cur }:=by rw [← h4]
   rw [hx4] at hF5' ob5
   refine ⟨_,G5,f193 (exL_ok Q orc) _ _ G _ ?_,w4'.modT (ha4.mod m5) ht tag,hF5'⟩
   simp [jb193_0,j193_0,sb193,s193,clip_t,ob0,h4,← hG1,ob1,e2,ob2,e3,e4,ob4,hv',e5,ob5]
  ·rw [if_neg hv]
   have hv':v < x.key:=by omega
   obtain ⟨G5,e5,x5⟩:=rfat_ok orc R4 l6 ha4.a1.lt
   have R5:=R4.ext ha4.lf x5
   have ob5:=R5.ob
   have w5:=w4'.extT x5 tag
   have ha5:=ha4.extO x5 tag
   generalize grown own4 G4 tag = own5 at *
   obtain ⟨G6,hG6⟩:∃ G6,G6 = ((G5.put b (rfO T { x with line:=4,by_:=x.at_.cur,at_:={ x.at_ with pred:=idxI T.size x.at_.cur } } x.at_.cur x.l pb sb kb)).put b (rfO T { x with line:=4,by_:=x.at_.cur,at_:={ x.at_ with pred:=idxI T.size x.at_.cur,known:=x.at_.cur } } x.at_.cur x.l pb sb kb)).put b (rfO T { x with line:=4,by_:=x.at_.cur,at_:=⟨idxI T.size x.at_.cur,x.at_.cur,x.w⟩ } x.w x.l pb sb kb):=⟨_,rfl⟩
   have R6:RfC T G6 b pb sb kb { x with line:=4,by_:=x.at_.cur,at_:=⟨idxI T.size x.at_.cur,x.at_.cur,x.w⟩ } x.w x.l:=by
    rw [hG6]; exact ((R5.put d { x with line:=4,by_:=x.at_.cur,at_:={ x.at_ with pred:=idxI T.size x.at_.cur } } rfl _ _).put d { x with line:=4,by_:=x.at_.cur,at_:={ x.at_ with pred:=idxI T.size x.at_.cur,known:=x.at_.cur } } rfl _ _).put d _ (by rfl) _ _
   have w6:RW (Own own tag) own G own5 G6 r s':=by rw [hG6]; exact ((w5.putT ha5.a1.tag ht _).putT ha5.a1.tag ht _).putT ha5.a1.tag ht _
   have ha6:AtF own5 tag G6 b pb sb kb:=by rw [hG6]; exact ((ha5.putO _ _).putO _ _).putO _ _
   obtain ⟨G7,e7,m7,hF7⟩:=rflooks_ok orc hs R6 d ha6.lf l3 l2 l8
   have hF7':=hF7
   obtain ⟨c7,j7,R7,-,-⟩:=hF7
   have ob7:=R7.ob
   refine ⟨_,G7,f193 (exL_ok Q orc) _ _ G _ ?_,w6.modT (ha6.mod m7) ht tag,hF7'⟩
   simp [jb193_0,j193_0,sb193,s193,clip_t,ob0,h4,← hG1,ob1,e2,ob2,e3,e4,ob4,hv',e5,ob5,← hG6,e7,ob7]
 ·have hst:x.step T s = (x,s):=by unfold FindS.step; simp only; rw [if_pos h9]
  rw [hst]
  have ob0:=R0.ob
  refine ⟨own,G,f193 (exL_ok Q orc) _ _ G _ ?_,w,c0,j0,R0,hc,hj⟩
  simp [jb193_0,j193_0,sb193,s193,clip_t,ob0,h9]
theorem rfby_ok (orc:FuncId → Bool) (hF:RfB T G b pb sb kb x):(E orc).cl 194 [P0 b] G = some (.int .u64 x.by_,G):=by
 obtain ⟨c,j,R,-,-⟩:=hF
 have ob:=R.ob
 refine f194 (exL_ok Q orc) _ G _ ?_
 simp [s194,ob]
end
theorem Ext.drawnO {A G':GS} (h:Ext A G') {n:Nat} (hn:A.nx ≤ n) (o:GObj):Ext A (((G'.at' n).push o).back G'):=by
 refine ⟨by simpa using h.nx,fun g hg=>?_,by simpa using h.nl,fun l hl=>by simpa using h.loop l hl⟩
 simp only [obj_back,obj_push,nx_at,obj_at]
 rw [if_neg (by omega)]
 exact h.obj g hg
theorem mk_ints (n:Nat) (hn:n ≤ 4) (G:GS):mkK 1 8 z3 n n G = some (slV G.nx n,G.push ⟨((List.replicate n (⟨0,0,0⟩:Spot)).map (·.pred)).map (Value.int .i64),1,false,1⟩):=by
 unfold mkK
 rw [if_pos ⟨by omega,by omega,by decide,by omega,wrap64 (by omega) (by omega),wrap64 (by omega) (by omega)⟩]
 have:rep z3 ((n:Nat):Int).toNat = ((List.replicate n (⟨0,0,0⟩:Spot)).map (·.pred)).map (Value.int .i64):=by
  simp only [Int.toNat_natCast]
  induction n with
  | zero=>rfl
  | succ n ih=>show z3 ++ rep z3 n = _; rw [ih (by omega)]; rfl
 rw [this]; rfl
theorem mk_words (n:Nat) (hn:n ≤ 4) (G:GS) (f:Spot → Int) (hf:f ⟨0,0,0⟩ = 0):mkK 1 8 z39 n n G = some (slV G.nx n,G.push ⟨((List.replicate n (⟨0,0,0⟩:Spot)).map f).map (Value.int .u64),1,false,1⟩):=by
 unfold mkK
 rw [if_pos ⟨by omega,by omega,by decide,by omega,wrap64 (by omega) (by omega),wrap64 (by omega) (by omega)⟩]
 have:rep z39 ((n:Nat):Int).toNat = ((List.replicate n (⟨0,0,0⟩:Spot)).map f).map (Value.int .u64):=by
  simp only [Int.toNat_natCast]
  induction n with
  | zero=>rfl
  | succ n ih=>show z39 ++ rep z39 n = _; rw [ih (by omega),List.replicate_succ,List.map_cons,hf]; rfl
 rw [this]; rfl
theorem rnewfind_ok (orc:FuncId → Bool) {T:TW} (hs:T.sound) (key:Int) (G:GS):∃ b pb sb kb G',(E orc).cl 192 [T.v,.int .u64 key] G = some (P0 b,G') ∧ Ext G G' ∧ (∀ g,isF b pb sb kb g → G.nx ≤ g ∧ g < G'.nx) ∧ Df b pb sb kb ∧ RfB T G' b pb sb kb (FindS.new T key):=by
 obtain ⟨G1,hG1⟩:∃ G1,G1 = G.push ⟨T.cells,1,false,1⟩:=⟨_,rfl⟩
 have x1:Ext G G1:=by rw [hG1]; exact (Ext.refl G).push _
 have o1:G1.obj G.nx = some ⟨T.cells,1,false,1⟩:=by rw [hG1]; simp
 have n1:G1.nx = G.nx + 1:=by rw [hG1]; rfl
 obtain ⟨G2,e2,x2⟩:=rsound_ok orc T G1
 simp only [hs,decide_true] at e2
 have n2:=x2.nx
 have o2:=(x2.obj G.nx (by omega)).trans o1
 obtain ⟨he,h1,h4⟩:=tw_h hs
 obtain ⟨N,hN⟩:∃ N,N = G2.nx:=⟨_,rfl⟩
 have emk1:=mk_ints T.height.toNat h4 ((G2.room 14).at' (N + 4))
 obtain ⟨B1,hB1⟩:∃ B1,B1 = ((((G2.room 14).at' (N + 4)).push ⟨((List.replicate T.height.toNat (⟨0,0,0⟩:Spot)).map (·.pred)).map (Value.int .i64),1,false,1⟩).back (G2.room 14)):=⟨_,rfl⟩
 have ob1:∀ g,B1.obj g = if g = N + 4 then some ⟨((List.replicate T.height.toNat (⟨0,0,0⟩:Spot)).map (·.pred)).map (Value.int .i64),1,false,1⟩ else G2.obj g:=fun g=>by rw [hB1]; simp
 have y1:Ext G B1:=by rw [hB1]; exact Ext.drawnO ((x1.trans x2).room 14) (by omega) _
 have nb1:B1.nx = N + 14:=by rw [hB1,hN]; simp
 have emk2:=mk_words T.height.toNat h4 (B1.at' (N + 7)) (·.cur) rfl
 obtain ⟨B2,hB2⟩:∃ B2,B2 = ((B1.at' (N + 7)).push ⟨((List.replicate T.height.toNat (⟨0,0,0⟩:Spot)).map (·.cur)).map (Value.int .u64),1,false,1⟩).back B1:=⟨_,rfl⟩
 have ob2:∀ g,B2.obj g = if g = N + 7 then some ⟨((List.replicate T.height.toNat (⟨0,0,0⟩:Spot)).map (·.cur)).map (Value.int .u64),1,false,1⟩ else B1.obj g:=fun g=>by rw [hB2]; simp
 have y2:Ext G B2:=by rw [hB2]; exact Ext.drawnO y1 (by omega) _
 have nb2:B2.nx = N + 14:=by rw [hB2]; simpa using nb1
 have emk3:=mk_words T.height.toNat h4 (B2.at' (N + 10)) (·.known) rfl
 obtain ⟨B3,hB3⟩:∃ B3,B3 = ((B2.at' (N + 10)).push ⟨((List.replicate T.height.toNat (⟨0,0,0⟩:Spot)).map (·.known)).map (Value.int .u64),1,false,1⟩).back B2:=⟨_,rfl⟩
 have ob3:∀ g,B3.obj g = if g = N + 10 then some ⟨((List.replicate T.height.toNat (⟨0,0,0⟩:Spot)).map (·.known)).map (Value.int .u64),1,false,1⟩ else B2.obj g:=fun g=>by rw [hB3]; simp
 have y3:Ext G B3:=by rw [hB3]; exact Ext.drawnO y2 (by omega) _
 have nb3:B3.nx = N + 14:=by rw [hB3]; simpa using nb2
 obtain ⟨B4,hB4⟩:∃ B4,B4 = ((B3.at' (N + 12)).push (rfO T (FindS.zero T key) 0 0 (N + 4) (N + 7) (N + 10))).back B3:=⟨_,rfl⟩
 have ob4:∀ g,B4.obj g = if g = N + 12 then some (rfO T (FindS.zero T key) 0 0 (N + 4) (N + 7) (N + 10)) else B3.obj g:=fun g=>by rw [hB4]; simp
 have y4:Ext G B4:=by rw [hB4]; exact Ext.drawnO y3 (by omega) _
 have nb4:B4.nx = N + 14:=by rw [hB4]; simpa using nb3
 have R4:RfC T B4 (N + 12) (N + 4) (N + 7) (N + 10) (FindS.zero T key) 0 0:=⟨by rw [ob4,if_pos rfl],by rw [ob4,if_neg (by omega),ob3,if_neg (by omega),ob2,if_neg (by omega),ob1,if_pos rfl]; rfl,by rw [ob4,if_neg (by omega),ob3,if_neg (by omega),ob2,if_pos rfl]; rfl,by rw [ob4,if_neg (by omega),ob3,if_pos rfl]; rfl⟩
 have d:Df (N + 12) (N + 4) (N + 7) (N + 10):=⟨by omega,by omega,by omega,by omega,by omega,by omega⟩
 obtain ⟨G5,e5,m5,R5⟩:=rfanew_ok orc hs R4 d ⟨by omega,by omega,by omega,by omega⟩
 have n5:=m5.nx
 have hin:∀ g,isF (N + 12) (N + 4) (N + 7) (N + 10) g → G.nx ≤ g ∧ g < N + 14:=fun g hg=>by
  unfold isF at hg; omega
 refine ⟨N + 12,N + 4,N + 7,N + 10,G5,f192 (exL_ok Q orc) _ _ G _ ?_,m5.tail y4 (fun g hg=>(hin g hg).1),fun g hg=>⟨(hin g hg).1,by have:=(hin g hg).2; omega⟩,d,0,T.height - 1,R5,fun h=>absurd rfl h,fun _=>rfl⟩
 have oT1:B1.obj G.nx = some ⟨T.cells,1,false,1⟩:=by rw [ob1,if_neg (by omega)]; exact o2
 have oT2:B2.obj G.nx = some ⟨T.cells,1,false,1⟩:=by rw [ob2,if_neg (by omega)]; exact oT1
 rw [← he] at emk1 emk2 emk3
 simp only [nx_at] at emk1 emk2 emk3
 have hB4':B4 = ((B3.at' (N + 12)).push ⟨rfL T key 0 0 0 0 0 0 (N + 4) (N + 7) (N + 10) T.height.toNat 0,1,false,1⟩).back B3:=hB4
 have hz:z300 = [.int .i64 0,.int .i64 0,.int .i64 0,.int .i64 0,.int .i64 0,.int .i64 0,.int .i64 0,.int .i64 0,.int .i64 0,.int .i64 0,.int .i64 0,.int .i64 0,.int .i64 0,.int .u64 0,.int .i64 0,.int .i64 0,.int .i64 0,.int .u64 0,.int .u64 0,.int .u64 0,.slice none 0 0,.slice none 0 0,.slice none 0 0,.int .u64 0,.int .i64 0]:=rfl
 generalize ((List.replicate T.height.toNat (⟨0,0,0⟩:Spot)).map (·.pred)).map (Value.int .i64) = c1 at emk1 hB1
 generalize ((List.replicate T.height.toNat (⟨0,0,0⟩:Spot)).map (·.cur)).map (Value.int .u64) = c2 at emk2 hB2
 generalize ((List.replicate T.height.toNat (⟨0,0,0⟩:Spot)).map (·.known)).map (Value.int .u64) = c3 at emk3 hB3
 simp [s192,← hG1,o1,e2,← hN,o2,emk1,← hB1,oT1,emk2,← hB2,oT2,emk3,← hB3,hz,splice_put,splice_end,splice_succ]
 rw [← hB4',e5]
 rfl
end Go.Proofs.YtaanpcoglijohaaGreat.Lift
set_option linter.unusedVariables false
set_option linter.unusedSimpArgs false
set_option maxRecDepth 20000
namespace Go.Proofs.YtaanpcoglijohaaGreat.Lift
open Go Go.Proofs.YtaanpcoglijohaaGreat.Gh Go.Proofs
def TW.wait (t:TW) (e:Int):Sk:=⟨IntKind.wrap .i64 (t.u12 + e % 4294967296 % 3),t.links,t.size⟩
inductive RtS where
 | looks
 | push (R:Sk) (p:PusS)
 | done
def RtS.over:RtS → Bool
 | .done=>true
 | _=>false
def RtS.ok (t:TW):RtS → Prop
 | .push R p=>R.ok ∧ p.ok R ∧ p.over = false
 | _=>True
def RtS.after (R:Sk) (p:PusS):RtS:=if p.over = true then .done else .push R p
def RtS.step (t:TW) (i:Int):RtS → MS → RtS × MS
 | .looks,s=>(.push (t.wait (s.load t.u9).new) (newPus (t.wait (s.load t.u9).new) i),s.load t.u9)
 | .push R p,s=>(RtS.after R (p.step R s).1,(p.step R s).2)
 | .done,s=>(.done,s)
def TW.lok (t:TW):Prop:=1 ≤ t.size ∧ t.size ≤ 4096 ∧ 0 ≤ t.links ∧ t.links + t.size ≤ 4096 ∧ 0 ≤ t.u12 ∧ t.u12 + 2 < 4096
theorem wait_ok {t:TW} (h:t.lok) (e:Int):(t.wait e).ok:=by
 obtain ⟨h1,h2,h3,h4,h5,h6⟩:=h
 have:IntKind.wrap .i64 (t.u12 + e % 4294967296 % 3) = t.u12 + e % 4294967296 % 3:=wrap64 (by omega) (by omega)
 unfold TW.wait Sk.ok
 simp only [this]
 omega
theorem newPus_go {R:Sk} {i:Int} (h0:0 ≤ i) (h1:i < R.size):newPus R i = .go 1 0 i:=by unfold newPus; rw [if_neg (by omega)]
theorem RtS.ok.step {t:TW} {i:Int} {p:RtS} {s:MS} (ht:t.lok) (h0:0 ≤ i) (h1:i < t.size) (hp:p.ok t) (hs:s.ok):(p.step t i s).1.ok t ∧ (p.step t i s).2.ok:=by
 cases p with
 | looks=>exact ⟨⟨wait_ok ht _,newPus_ok,by rw [newPus_go h0 (show i < (t.wait _).size from h1)]; rfl⟩,(hs.load _).1⟩
 | push R p =>
  obtain ⟨h1,h2,h3⟩:=hp
  have:=h2.step h1 hs
  refine ⟨?_,this.2⟩
  unfold RtS.step RtS.after
  simp only
  split
  ·trivial
  ·rename_i hz; exact ⟨h1,this.1,by simpa using hz⟩
 | done=>exact ⟨trivial,hs⟩
abbrev lmL (t:TW):List Value:=[.int .i64 t.top,.int .i64 t.links,.int .i64 t.size,.int .i64 t.u6,.int .i64 t.u7,.int .i64 t.u8,.int .i64 t.u9,.int .i64 t.u10,.int .i64 t.u11,.int .i64 t.u12]
abbrev rtO (t:TW) (next:Value) (i:Int) (p:Value):GObj:=⟨[next,.bool true,.int .i64 0,.int .i64 t.top,.int .i64 t.links,.int .i64 t.size,.int .i64 t.u6,.int .i64 t.u7,.int .i64 t.u8,.int .i64 t.u9,.int .i64 t.u10,.int .i64 t.u11,.int .i64 t.u12,.int .i64 i,p],1,false,1⟩
abbrev rdO (t:TW) (i:Int) (p:Value) (line:Int):GObj:=⟨[.int .i64 t.top,.int .i64 t.links,.int .i64 t.size,.int .i64 t.u6,.int .i64 t.u7,.int .i64 t.u8,.int .i64 t.u9,.int .i64 t.u10,.int .i64 t.u11,.int .i64 t.u12,.int .i64 i,p,.int .i64 line,.int .i64 0],1,false,1⟩
abbrev bfn (f:FuncId) (b:Nat):Value:=.func (.func f) #[P0 b] #[]
def RtP (own:Nat → Nat) (tag:Nat) (t:TW) (G:GS) (b:Nat) (i:Int):RtS → Prop
 | .looks=>G.obj b = some (rtO t (bfn 248 b) i (.pointer none))
 | .push R p=>∃ q,G.obj b = some (rtO t (bfn 259 b) i (P0 q)) ∧ At own tag G q ∧ b ≠ q ∧ PusR R G q p
 | .done=>∃ u,G.obj b = some (rtO t .nilFunc i (.pointer u))
def RtD (own:Nat → Nat) (tag:Nat) (t:TW) (G:GS) (b:Nat) (i:Int):RtS → Prop
 | .looks=>G.obj b = some (rdO t i (.pointer none) 0)
 | .push R p=>∃ q,G.obj b = some (rdO t i (P0 q) 1) ∧ At own tag G q ∧ b ≠ q ∧ RpusR R G q p
 | .done=>∃ u,G.obj b = some (rdO t i (.pointer u) 9)
section
variable {own own':Nat → Nat} {tag m r b:Nat} {t:TW} {G G':GS} {i:Int} {s:MS}
theorem RtP.to {p:RtS} (h:RtP own tag t G b i p) (hb:At own tag G b) (hn:G.nx ≤ G'.nx) (hk:∀ g,g < G.nx → own g = tag → G'.obj g = G.obj g) (a:Agr own own' G):RtP own' tag t G' b i p:=by
 cases p with
 | looks=>exact (hk _ hb.lt hb.tag).trans h
 | push R p=>obtain ⟨q,h1,h2,h3,h4⟩:=h; exact ⟨q,(hk _ hb.lt hb.tag).trans h1,h2.to hn a,h3,h4.kept (hk _ h2.lt h2.tag)⟩
 | done=>obtain ⟨u,h⟩:=h; exact ⟨u,(hk _ hb.lt hb.tag).trans h⟩
theorem RtD.to {p:RtS} (h:RtD own tag t G b i p) (hb:At own tag G b) (hn:G.nx ≤ G'.nx) (hk:∀ g,g < G.nx → own g = tag → G'.obj g = G.obj g) (a:Agr own own' G):RtD own' tag t G' b i p:=by
 cases p with
 | looks=>exact (hk _ hb.lt hb.tag).trans h
 | push R p=>obtain ⟨q,h1,h2,h3,h4⟩:=h; exact ⟨q,(hk _ hb.lt hb.tag).trans h1,h2.to hn a,h3,h4.kept (hk _ h2.lt h2.tag)⟩
 | done=>obtain ⟨u,h⟩:=h; exact ⟨u,(hk _ hb.lt hb.tag).trans h⟩
theorem newretire_ok (orc:FuncId → Bool) (t:TW) (h0:0 ≤ i) (h1:i < t.size) (G:GS):∃ b G',(E orc).cl 209 [.agg ⟨lmL t⟩,.int .i64 i] G = some (P0 b,G') ∧ Ext G G' ∧ (G.nx ≤ b ∧ b < G'.nx) ∧ ∀ own tag,RtP own tag t G' b i .looks:=by
 have a0:¬ i < 0:=by omega
 have a1:¬ t.size ≤ i:=by omega
 have w:Wp (s209 true (exL Q orc) (.agg ⟨lmL t⟩) (.int .i64 i) G) fun q=>q = (P0 (G.nx + 1),((G.push ⟨lmL t,1,false,1⟩).push (rtO t .nilFunc i (.pointer none))).put (G.nx + 1) (rtO t (bfn 248 (G.nx + 1)) i (.pointer none))):=by
  have hz:z320 = [.nilFunc,.bool false,.int .i64 0,.int .i64 0,.int .i64 0,.int .i64 0,.int .i64 0,.int .i64 0,.int .i64 0,.int .i64 0,.int .i64 0,.int .i64 0,.int .i64 0,.int .i64 0,.pointer none]:=rfl
  have hz2:z317 = [.nilFunc,.bool false,.int .i64 0]:=rfl
  simp [s209,hz,hz2,splice_put,splice_end,splice_succ,a0,a1]
 obtain ⟨q,e,rfl⟩:=w
 refine ⟨G.nx + 1,_,f209 (exL_ok Q orc) _ _ G _ e,((((Ext.refl G).push _).push _).put (by omega) _),⟨by omega,by simp⟩,fun own tag=>by simp [RtP]⟩
theorem rnewretire_ok (orc:FuncId → Bool) (t:TW) (h0:0 ≤ i) (h1:i < t.size) (G:GS):∃ b G',(E orc).cl 197 [.agg ⟨lmL t⟩,.int .i64 i] G = some (P0 b,G') ∧ Ext G G' ∧ (G.nx ≤ b ∧ b < G'.nx) ∧ ∀ own tag,RtD own tag t G' b i .looks:=by
 have a0:¬ i < 0:=by omega
 have a1:¬ t.size ≤ i:=by omega
 have w:Wp (s197 true (exL Q orc) (.agg ⟨lmL t⟩) (.int .i64 i) G) fun q=>q = (P0 (G.nx + 1),((G.push ⟨lmL t,1,false,1⟩).push (rdO t i (.pointer none) 0))):=by
  have hz:z303 = [.int .i64 0,.int .i64 0,.int .i64 0,.int .i64 0,.int .i64 0,.int .i64 0,.int .i64 0,.int .i64 0,.int .i64 0,.int .i64 0,.int .i64 0,.pointer none,.int .i64 0,.int .i64 0]:=rfl
  simp [s197,hz,splice_put,splice_end,splice_succ,a0,a1]
 obtain ⟨q,e,rfl⟩:=w
 refine ⟨G.nx + 1,_,f197 (exL_ok Q orc) _ _ G _ e,(((Ext.refl G).push _).push _),⟨by omega,by simp⟩,fun own tag=>by simp [RtD]⟩
theorem turn_ok (orc:FuncId → Bool) (t:TW) (n:Int) (G:GS):∃ G',(E orc).cl 184 [.int .i64 n,.agg ⟨lmL t⟩] G = some (.agg ⟨[.int .i64 (IntKind.wrap .i64 (t.u12 + n)),.int .i64 t.links,.int .i64 t.size]⟩,G') ∧ Ext G G':=by
 refine ⟨((G.push ⟨lmL t,1,false,1⟩).push ⟨[.int .i64 0,.int .i64 0,.int .i64 0],1,false,1⟩).put (G.nx + 1) ⟨[.int .i64 (IntKind.wrap .i64 (t.u12 + n)),.int .i64 t.links,.int .i64 t.size],1,false,1⟩,f184 (exL_ok Q orc) _ _ G _ ?_,(((Ext.refl G).push _).push _).put (by omega) _⟩
 simp [s184,splice_put,splice_end]
theorem waiting_ok (orc:FuncId → Bool) (t:TW) {e:Int} (he:0 ≤ e ∧ e < 4294967296) (G:GS):∃ G',(E orc).cl 238 [.agg ⟨lmL t⟩,.int .u64 e] G = some (.agg ⟨[.int .i64 (IntKind.wrap .i64 (t.u12 + e % 3)),.int .i64 t.links,.int .i64 t.size]⟩,G') ∧ Ext G G':=by
 have e1:e.tmod 3 = e % 3:=Int.tmod_eq_emod_of_nonneg he.1
 have e2:IntKind.wrap .i64 (e % 3) = e % 3:=wrap64 (by omega) (by omega)
 have e3:IntKind.wrap .u64 (e % 3) = e % 3:=by rw [wrap_u64]; omega
 refine ⟨((G.push ⟨lmL t,1,false,1⟩).push ⟨[.int .i64 0,.int .i64 0,.int .i64 0],1,false,1⟩).put (G.nx + 1) ⟨[.int .i64 (IntKind.wrap .i64 (t.u12 + e % 3)),.int .i64 t.links,.int .i64 t.size],1,false,1⟩,f238 (exL_ok Q orc) _ _ G _ ?_,(((Ext.refl G).push _).push _).put (by omega) _⟩
 simp [s238,e1,e2,e3,splice_put,splice_end]
end
end Go.Proofs.YtaanpcoglijohaaGreat.Lift
set_option linter.unusedVariables false
set_option linter.unusedSimpArgs false
set_option maxRecDepth 20000
namespace Go.Proofs.YtaanpcoglijohaaGreat.Lift
open Go Go.Proofs.YtaanpcoglijohaaGreat.Gh Go.Proofs
section
variable {own own':Nat → Nat} {tag m r b:Nat} {t:TW} {G G':GS} {i:Int} {s:MS}
theorem retire_ok (orc:FuncId → Bool) (hto:orc 241 = false) (hl:t.lok) (h0:0 ≤ i) (h1:i < t.size) (h:PM own G m s) (hs:s.ok) {p:RtS} (hp:p.ok t) (ht:tag ≠ 10) (hb:At own tag G b) (hr:RtP own tag t G b i p) :
  ∃ own1 G1,(E orc).cl 210 [P0 b,P0 m] G = some (.bool (p.step t i s).1.over,G1) ∧ PW (Own own tag) own G own1 G1 m (p.step t i s).2 ∧ RtP own1 tag t G1 b i (p.step t i s).1:=by
 have wm:∃ own1 G1,(E orc).cl 249 [P0 b,P0 m] G = some (.bool (p.step t i s).1.over,G1) ∧ PW (Own own tag) own G own1 G1 m (p.step t i s).2 ∧ RtP own1 tag t G1 b i (p.step t i s).1:=by
  cases p with
  | done =>
   obtain ⟨u,ho⟩:=hr
   refine ⟨own,G,f249 (exL_ok Q orc) _ _ G _ ?_,PW.refl h,u,ho⟩
   simp [jb249_0,j249_0,sb249,s249,clip_t,ho,RtS.step,RtS.over]
  | looks =>
   have ho:G.obj b = _:=hr
   have hu:=(hs.load t.u9).2
   obtain ⟨own1,G1,e1,w1⟩:=h.load orc t.u9
   simp only [RtS.step]
   generalize s.load t.u9 = s' at *
   generalize s'.new = v at *
   have o1:=(w1.keep hb.lt (by rw [hb.tag]; exact ht) id).trans ho
   have hb1:=hb.to w1.nx w1.stp.agr
   have hv:=hu.1
   have ea:andI .u64 v 4294967295 = v % 4294967296:=and_32 hu
   have eb:(v % 4294967296).tmod 3 = v % 4294967296 % 3:=Int.tmod_eq_emod_of_nonneg (by omega)
   have ec:IntKind.wrap .i64 (v % 4294967296 % 3) = v % 4294967296 % 3:=wrap64 (by omega) (by omega)
   have ed:IntKind.wrap .u64 (v % 4294967296 % 3) = v % 4294967296 % 3:=by rw [wrap_u64]; omega
   have ee:IntKind.wrap .u64 (v % 4294967296) = v % 4294967296:=by rw [wrap_u64]; omega
   obtain ⟨G2,e2,x2⟩:=turn_ok orc t (v % 4294967296 % 3) (G1.room 17)
   have y2:=((Ext.refl G1).room 17).trans x2
   have o2:=(y2.obj b hb1.lt).trans o1
   obtain ⟨q,G3,e3,x3,q1,q2,r3⟩:=newpush_ok orc (t.wait v) i G2
   have e3':(E orc).cl 258 [.agg ⟨[.int .i64 (IntKind.wrap .i64 (t.u12 + v % 4294967296 % 3)),.int .i64 t.links,.int .i64 t.size]⟩,.int .i64 i] G2 = some (P0 q,G3):=e3
   have y3:=y2.trans x3
   have o3:=(y3.obj b hb1.lt).trans o1
   have w3:=(w1.any (B:=Own own tag)).extT y3 tag
   have hb3:=hb1.extO y3 tag
   have n2:=y2.nx
   have hq3:At (grown own1 G1 tag) tag G3 q:=At.new (by omega) q2
   have hbq:b ≠ q:=by have:=hb1.lt; omega
   generalize grown own1 G1 tag = own3 at *
   refine ⟨own3,(G3.put b (rtO t (bfn 248 b) i (P0 q))).put b (rtO t (bfn 259 b) i (P0 q)),f249 (exL_ok Q orc) _ _ G _ ?_,(w3.putT hb3.tag ht _).putT hb3.tag ht _,q,by simp,(hq3.putO _ _).putO _ _,hbq,r3.kept (by rw [obj_put,if_neg (fun e=>hbq e.symm),obj_put,if_neg (fun e=>hbq e.symm)])⟩
   have e4:(E orc).cl 248 [P0 b,P0 m] G = some (bfn 259 b,G3.put b (rtO t (bfn 248 b) i (P0 q))):=by
    refine f248 (exL_ok Q orc) _ _ G _ ?_
    simp [s248,ho,e1,ea,eb,ec,ed,ee,o1,e2,o2,e3',o3]
   simp [jb249_0,j249_0,sb249,s249,clip_t,ho,e4,RtS.over]
  | push R p =>
   obtain ⟨q,ho,hq,hbq,hr⟩:=hr
   obtain ⟨hR,hpo,hov⟩:=hp
   obtain ⟨own1,G1,e1,w1,r1⟩:=push_ok orc hto h hs hR hq.lt (by rw [hq.tag]; exact ht) hpo hr
   have w1':PW (Own own tag) own G own1 G1 m (p.step R s).2:=w1.mono fun x _ hx=>by rw [hx]; exact hq.tag
   have o1:=(w1.keep hb.lt (by rw [hb.tag]; exact ht) hbq).trans ho
   have hb1:=hb.to w1.nx w1.stp.agr
   have hq1:=hq.to w1.nx w1.stp.agr
   simp only [RtS.step]
   generalize (p.step R s).2 = s' at *
   generalize (p.step R s).1 = p' at *
   unfold RtS.after
   cases hz:p'.over with
   | true =>
    rw [hz] at e1
    rw [if_pos rfl]
    have e4:(E orc).cl 259 [P0 b,P0 m] G = some (.nilFunc,G1):=by
     refine f259 (exL_ok Q orc) _ _ G _ ?_
     simp [s259,ho,e1]
    refine ⟨own1,G1.put b (rtO t .nilFunc i (P0 q)),f249 (exL_ok Q orc) _ _ G _ ?_,w1'.putT hb1.tag ht _,some ⟨q,0,none⟩,by simp⟩
    simp [jb249_0,j249_0,sb249,s249,clip_t,ho,e4,o1,RtS.over]
   | false =>
    rw [hz] at e1
    rw [if_neg (by decide)]
    have e4:(E orc).cl 259 [P0 b,P0 m] G = some (bfn 259 b,G1):=by
     refine f259 (exL_ok Q orc) _ _ G _ ?_
     simp [s259,ho,e1]
    refine ⟨own1,G1.put b (rtO t (bfn 259 b) i (P0 q)),f249 (exL_ok Q orc) _ _ G _ ?_,w1'.putT hb1.tag ht _,q,by simp,hq1.putO _ _,hbq,r1.kept (by rw [obj_put,if_neg (fun e=>hbq e.symm)])⟩
    simp [jb249_0,j249_0,sb249,s249,clip_t,ho,e4,o1,RtS.over]
 obtain ⟨own1,G1,e,w,r⟩:=wm
 refine ⟨own1,G1,f210 (exL_ok Q orc) _ _ G _ ?_,w,r⟩
 simp [s210,e]
theorem rretire_ok (orc:FuncId → Bool) (hl:t.lok) (h0:0 ≤ i) (h1:i < t.size) (h:RM own G r s) (hs:s.ok) {p:RtS} (hp:p.ok t) (ht:tag ≠ 11) (hb:At own tag G b) (hr:RtD own tag t G b i p) :
  ∃ own1 G1,(E orc).cl 198 [P0 b,P0 r] G = some (.bool (p.step t i s).1.over,G1) ∧ RW (Own own tag) own G own1 G1 r (p.step t i s).2 ∧ RtD own1 tag t G1 b i (p.step t i s).1:=by
 cases p with
 | done =>
  obtain ⟨u,ho⟩:=hr
  refine ⟨own,G,f198 (exL_ok Q orc) _ _ G _ ?_,RW.refl h,u,ho⟩
  simp [jb198_0,j198_0,sb198,s198,clip_t,ho,RtS.step,RtS.over]
 | looks =>
  have ho:G.obj b = _:=hr
  have hu:=(hs.load t.u9).2
  obtain ⟨own1,G1,e1,w1⟩:=h.load orc t.u9
  simp only [RtS.step]
  generalize s.load t.u9 = s' at *
  generalize s'.new = v at *
  have o1:=(w1.keep hb.lt (by rw [hb.tag]; exact ht) id).trans ho
  have hb1:=hb.to w1.nx w1.stp.agr
  have hv:=hu.1
  have eb:v.tmod 4294967296 = v % 4294967296:=Int.tmod_eq_emod_of_nonneg hv
  have ee:IntKind.wrap .u64 (v % 4294967296) = v % 4294967296:=by rw [wrap_u64]; omega
  obtain ⟨G2,e2,x2⟩:=waiting_ok orc t (e:=v % 4294967296) (by omega) (G1.room 15)
  have y2:=((Ext.refl G1).room 15).trans x2
  have o2:=(y2.obj b hb1.lt).trans o1
  obtain ⟨q,G3,e3,x3,q1,q2,r3⟩:=rnewpush_ok orc (t.wait v) i G2
  have e3':(E orc).cl 237 [.agg ⟨[.int .i64 (IntKind.wrap .i64 (t.u12 + v % 4294967296 % 3)),.int .i64 t.links,.int .i64 t.size]⟩,.int .i64 i] G2 = some (P0 q,G3):=e3
  have y3:=y2.trans x3
  have o3:=(y3.obj b hb1.lt).trans o1
  have w3:=(w1.any (B:=Own own tag)).extT y3 tag
  have hb3:=hb1.extO y3 tag
  have n2:=y2.nx
  have hq3:At (grown own1 G1 tag) tag G3 q:=At.new (by omega) q2
  have hbq:b ≠ q:=by have:=hb1.lt; omega
  generalize grown own1 G1 tag = own3 at *
  refine ⟨own3,(G3.put b (rdO t i (P0 q) 0)).put b (rdO t i (P0 q) 1),f198 (exL_ok Q orc) _ _ G _ ?_,(w3.putT hb3.tag ht _).putT hb3.tag ht _,q,by simp,(hq3.putO _ _).putO _ _,hbq,r3.kept (by rw [obj_put,if_neg (fun e=>hbq e.symm),obj_put,if_neg (fun e=>hbq e.symm)])⟩
  simp [jb198_0,j198_0,sb198,s198,clip_t,ho,e1,eb,ee,o1,e2,o2,e3',o3,RtS.over]
 | push R p =>
  obtain ⟨q,ho,hq,hbq,hr⟩:=hr
  obtain ⟨hR,hpo,hov⟩:=hp
  obtain ⟨own1,G1,e1,w1,r1⟩:=rpush_ok orc h hs hR hq.lt (by rw [hq.tag]; exact ht) hpo hr
  have w1':RW (Own own tag) own G own1 G1 r (p.step R s).2:=w1.mono fun x _ hx=>by rw [hx]; exact hq.tag
  have o1:=(w1.keep hb.lt (by rw [hb.tag]; exact ht) hbq).trans ho
  have hb1:=hb.to w1.nx w1.stp.agr
  have hq1:=hq.to w1.nx w1.stp.agr
  simp only [RtS.step]
  generalize (p.step R s).2 = s' at *
  generalize (p.step R s).1 = p' at *
  unfold RtS.after
  cases hz:p'.over with
  | true =>
   rw [hz] at e1
   rw [if_pos rfl]
   refine ⟨own1,G1.put b (rdO t i (P0 q) 9),f198 (exL_ok Q orc) _ _ G _ ?_,w1'.putT hb1.tag ht _,some ⟨q,0,none⟩,by simp⟩
   simp [jb198_0,j198_0,sb198,s198,clip_t,ho,e1,o1,RtS.over]
  | false =>
   rw [hz] at e1
   rw [if_neg (by decide)]
   refine ⟨own1,G1,f198 (exL_ok Q orc) _ _ G _ ?_,w1',q,o1,hq1,hbq,r1⟩
   simp [jb198_0,j198_0,sb198,s198,clip_t,ho,e1,o1,RtS.over]
end
end Go.Proofs.YtaanpcoglijohaaGreat.Lift
