import Derived.Test.YtlaojmcekeohnaaGreatDoorGhPD
import Derived.Test.YtlaojmcekeohnaaGreatDoorYB
set_option linter.unusedVariables false
set_option linter.unusedSimpArgs false
namespace Go.Proofs.YtlaojmcekeohnaaGreatDoor.Lift
open Go Go.Proofs.YtlaojmcekeohnaaGreatDoor.Gh
structure Sp where
 id:Int
 fr:Int
 to:Int
 op:Int × Int × Int × Int
 an:Int × Int × Int
def rSp:RowE Sp:=⟨10,fun x=>[.int .i64 x.id,.int .i64 x.fr,.int .i64 x.to,.int .i64 x.op.1,.int .i64 x.op.2.1,.int .i64 x.op.2.2.1,.int .u64 x.op.2.2.2,.int .i64 x.an.1,.int .i64 x.an.2.1,.int .u64 x.an.2.2],fun _=>rfl,fun _=>rfl,by decide⟩
@[simp] theorem rSp_sz:rSp.sz = 10:=rfl
@[simp] theorem rSp_row (x:Sp):rSp.row x = [.int .i64 x.id,.int .i64 x.fr,.int .i64 x.to,.int .i64 x.op.1,.int .i64 x.op.2.1,.int .i64 x.op.2.2.1,.int .u64 x.op.2.2.2,.int .i64 x.an.1,.int .i64 x.an.2.1,.int .u64 x.an.2.2]:=rfl
end Go.Proofs.YtlaojmcekeohnaaGreatDoor.Lift
set_option linter.unusedVariables false
set_option linter.unusedSimpArgs false
set_option maxRecDepth 20000
namespace Go.Proofs.YtlaojmcekeohnaaGreatDoor.Lift
open Go Go.Proofs.YtlaojmcekeohnaaGreatDoor.Gh Go.Proofs
structure CA where
 s:MS
 k:Nat → CoS
 held:List Int
 back:Nat → Int
 calls:List Sp
 o:Nat → Int
 clock:Int
def CA.beginA (x:CA) (c:Nat):CA :=
 { x with clock:=x.clock + 1,k:=upN x.k c (.al (.pop (.go 1 0 0 0))),o:=upN x.o c x.calls.length,calls:=x.calls ++ [⟨x.calls.length,x.clock + 1,-1,(7,0,0,0),(0,0,0)⟩] }
def CA.beginF (x:CA) (c i:Nat):CA :=
 { x with clock:=x.clock + 1,back:=upN x.back c (x.held.getD i 0),held:=x.held.eraseIdx i,k:=upN x.k c (.fe (.looks (ixW (x.held.getD i 0)))),o:=upN x.o c x.calls.length,calls:=x.calls ++ [⟨x.calls.length,x.clock + 1,-1,(8,ixW (x.held.getD i 0),0,0),(0,0,0)⟩] }
def CA.steps (A:Ar) (x:CA) (c:Nat):CA :=
 match x.k c with
 | .idle=>x
 | .fe p =>
  if (p.step A x.s).1.over = true then { x with s:=(p.step A x.s).2,k:=upN x.k c .idle,clock:=x.clock + 1,o:=upN x.o c (-1),calls:=x.calls.modify (x.o c).toNat fun z=>{ z with to:=x.clock + 1 } }
  else { x with s:=(p.step A x.s).2,k:=upN x.k c (.fe (p.step A x.s).1),clock:=x.clock + 1 }
 | .al p =>
  if (p.step A x.s).1.over = true then { x with s:=(p.step A x.s).2,k:=upN x.k c .idle,clock:=x.clock + 1,o:=upN x.o c (-1),calls:=x.calls.modify (x.o c).toNat fun z=>{ z with to:=x.clock + 1,an:=((p.step A x.s).1.told.2,if (p.step A x.s).1.told.2 = 0 then ixW (p.step A x.s).1.told.1 else z.an.2.1,z.an.2.2) },held:=if (p.step A x.s).1.told.2 = 0 then x.held ++ [(p.step A x.s).1.told.1] else x.held }
  else { x with s:=(p.step A x.s).2,k:=upN x.k c (.al (p.step A x.s).1),clock:=x.clock + 1 }
def ovK:CoS → Bool
 | .idle=>false
 | .al p=>p.over
 | .fe p=>p.over
theorem upN_up {α:Type} (f:Nat → α) (c:Nat) (a b:α):upN (upN f c a) c b = upN f c b:=by
 funext j
 unfold upN
 split <;> rfl
structure InvA (n lim:Int) (K:Nat) (x:CA) (F:List Int) (T:Int):Prop where
 ri:RI n lim T F (x.held.map ixW) x.s x.k
 tk:T ≤ K
 sk:x.s.ok
 hw:∀ w ∈ x.held,∃ i g,w = wordT i g ∧ 0 ≤ i ∧ i < n ∧ 1 ≤ g ∧ g ≤ 1000
 op:∀ c,c < 3 → (x.k c = .idle ∧ x.o c = -1) ∨ (x.k c ≠ .idle ∧ ovK (x.k c) = false ∧ 0 ≤ x.o c ∧ x.o c < x.calls.length)
 er:∀ z ∈ x.calls,z.an.1 = 12 → n ≤ x.s.at' (1 + 2 * n)
 ck:0 ≤ x.clock ∧ x.clock ≤ K
 cl:x.calls.length ≤ K
section
variable {n lim T:Int} {F H:List Int} {s:MS} {k:Nat → CoS} {c K:Nat} {x:CA}
theorem RI.give (h:RI n lim T F H s k) (hc:c < 3) {y:CoS} {H':List Int} (hcnt:∀ a,H'.count a + (ow y).count a = H.count a + (ow (k c)).count a) (hlen:(H'.length:Int) + (ow y).length = H.length + (ow (k c)).length) (hw:wc y = wc (k c)) (hy:CoOk n lim s.at' F T y) (hk:okK (arN n lim) y):RI n lim T F H' s (upN k c y):=by
 have e1:∀ a,F.count a + H'.count a + cO (upN k c y) a = F.count a + H.count a + cO k a:=fun a=>by have:=cO_up (k:=k) (y:=y) hc a; have:=hcnt a; omega
 have e2:=lO_up (k:=k) (y:=y) hc
 have e3:=wO_up (k:=k) (y:=y) hc
 refine ⟨h.n1,h.lm,h.len,h.top,h.t0,h.ch,h.gn,fun a=>by rw [e1]; exact h.nd a,fun a ha=>h.rg a (by rw [e1] at ha; exact ha),by have:=h.ln; omega,h.w0,fun c' hc'=>?_,fun c' hc'=>?_⟩
 ·by_cases q:c' = c
  ·subst q; rw [upN_same]; exact hy
  ·rw [upN_ne _ _ q]; exact h.co c' hc'
 ·by_cases q:c' = c
  ·subst q; rw [upN_same]; exact hk
  ·rw [upN_ne _ _ q]; exact h.ok c' hc'
theorem ixW_word {i g:Int} (h:0 ≤ i ∧ i < 8):ixW (wordT i g) = i:=by unfold ixW wordT; omega
theorem U_zw:U 0:=⟨by decide,by decide⟩
theorem InvA.beginA (h:InvA n lim K x F T) (hc:c < 3) (hi:x.k c = .idle):InvA n lim (K + 1) (x.beginA c) F T:=by
 have hn:=h.ri.n1
 refine ⟨h.ri.give hc (fun a=>by rw [hi]; rfl) (by rw [hi]; rfl) (by rw [hi]; rfl) ⟨fun k=>absurd rfl k,fun k=>absurd k (by decide)⟩ ⟨⟨by decide,by decide,U_zw,by decide,by show 0 < n; omega,by decide,by show 0 < n; omega,fun k=>absurd rfl k⟩,rfl⟩,by have:=h.tk; omega,h.sk,h.hw,fun c' hc'=>?_,fun z hz e=>?_,?_,?_⟩
 ·by_cases q:c' = c
  ·subst q
   refine .inr ⟨?_,?_,?_,?_⟩
   ·show upN x.k c' _ c' ≠ _; rw [upN_same]; exact fun k=>by cases k
   ·show ovK (upN x.k c' _ c') = _; rw [upN_same]; rfl
   ·show 0 ≤ upN x.o c' _ c'; rw [upN_same]; omega
   ·show upN x.o c' _ c' < _; rw [upN_same]; simp [CA.beginA]; omega
  ·have:=h.op c' hc'
   show (upN x.k c _ c' = _ ∧ upN x.o c _ c' = _) ∨ (upN x.k c _ c' ≠ _ ∧ ovK (upN x.k c _ c') = _ ∧ 0 ≤ upN x.o c _ c' ∧ upN x.o c _ c' < _)
   rw [upN_ne _ _ q,upN_ne _ _ q]
   refine this.imp id fun ⟨a,b,c,d⟩=>⟨a,b,c,?_⟩
   simp [CA.beginA]; omega
 ·rcases List.mem_append.1 hz with hz | hz
  ·exact h.er z hz e
  ·rw [List.mem_singleton.1 hz] at e; cases e
 ·have:=h.ck; show 0 ≤ x.clock + 1 ∧ x.clock + 1 ≤ ((K + 1:Nat):Int); omega
 ·have:=h.cl; simp [CA.beginA]; omega
theorem erase_count (L:List Int):∀ (i:Nat),i < L.length → ∀ a,(L.eraseIdx i).count a + [L.getD i 0].count a = L.count a:=by
 induction L with
 | nil=>intro i hi; simp at hi
 | cons b L ih =>
  intro i hi a
  cases i with
  | zero=>simp [List.count_cons]
  | succ i =>
   have:=ih i (by simpa using hi) a
   simp only [List.eraseIdx_cons_succ,List.getD_cons_succ]
   rw [List.count_cons (a:=a) (b:=b) (l:=L.eraseIdx i),List.count_cons (a:=a) (b:=b) (l:=L)]
   omega
theorem erase_map (L:List Int) (f:Int → Int):∀ (i:Nat),(L.eraseIdx i).map f = (L.map f).eraseIdx i:=by
 induction L with
 | nil=>intro i; simp
 | cons b L ih =>
  intro i
  cases i with
  | zero=>rfl
  | succ i=>simp [ih]
theorem InvA.beginF (h:InvA n lim K x F T) (hc:c < 3) (hi:x.k c = .idle) {i:Nat} (hl:i < x.held.length):InvA n lim (K + 1) (x.beginF c i) F T:=by
 have hn:=h.ri.n1
 have hg:x.held.getD i 0 = x.held[i]:=by rw [List.getD_eq_getElem?_getD,List.getElem?_eq_getElem hl]; rfl
 obtain ⟨j,g,hj,j0,j1,g0,g1⟩:=h.hw _ (List.getElem_mem hl)
 have hix:ixW (x.held.getD i 0) = j:=by rw [hg,hj]; exact ixW_word ⟨j0,by omega⟩
 have hgm:ixW (x.held.getD i 0) = (x.held.map ixW).getD i 0:=by
  rw [hg]
  simp [List.getD_eq_getElem?_getD,hl]
 have hlm:i < (x.held.map ixW).length:=by simpa using hl
 refine ⟨h.ri.give hc (fun a=>?_) ?_ (by rw [hi]; rfl) trivial ?_,by have:=h.tk; omega,h.sk,fun w hw=>h.hw w (List.mem_of_mem_eraseIdx hw),fun c' hc'=>?_,fun z hz e=>?_,?_,?_⟩
 ·show ((x.held.eraseIdx i).map ixW).count a + [ixW (x.held.getD i 0)].count a = _
  rw [erase_map,hgm,erase_count _ _ hlm,hi]
  rfl
 ·show (((x.held.eraseIdx i).map ixW).length:Int) + ([ixW (x.held.getD i 0)]:List Int).length = _
  rw [hi]
  simp [ow,List.length_eraseIdx,hl]
  omega
 ·show 0 ≤ ixW (x.held.getD i 0) ∧ ixW (x.held.getD i 0) < n
  rw [hix]; exact ⟨j0,j1⟩
 ·by_cases q:c' = c
  ·subst q
   refine .inr ⟨?_,?_,?_,?_⟩
   ·show upN x.k c' _ c' ≠ _; rw [upN_same]; exact fun k=>by cases k
   ·show ovK (upN x.k c' _ c') = _; rw [upN_same]; rfl
   ·show 0 ≤ upN x.o c' _ c'; rw [upN_same]; omega
   ·show upN x.o c' _ c' < _; rw [upN_same]; simp [CA.beginF]; omega
  ·have:=h.op c' hc'
   show (upN x.k c _ c' = _ ∧ upN x.o c _ c' = _) ∨ (upN x.k c _ c' ≠ _ ∧ ovK (upN x.k c _ c') = _ ∧ 0 ≤ upN x.o c _ c' ∧ upN x.o c _ c' < _)
   rw [upN_ne _ _ q,upN_ne _ _ q]
   refine this.imp id fun ⟨a,b,c,d⟩=>⟨a,b,c,?_⟩
   simp [CA.beginF]; omega
 ·rcases List.mem_append.1 hz with hz | hz
  ·exact h.er z hz e
  ·rw [List.mem_singleton.1 hz] at e; cases e
 ·have:=h.ck; show 0 ≤ x.clock + 1 ∧ x.clock + 1 ≤ ((K + 1:Nat):Int); omega
 ·have:=h.cl; simp [CA.beginF]; omega
end
end Go.Proofs.YtlaojmcekeohnaaGreatDoor.Lift
set_option linter.unusedVariables false
set_option linter.unusedSimpArgs false
set_option maxRecDepth 20000
namespace Go.Proofs.YtlaojmcekeohnaaGreatDoor.Lift
open Go Go.Proofs.YtlaojmcekeohnaaGreatDoor.Gh Go.Proofs
section
variable {s:MS} {a b v x y:Int}
theorem at_out {s s':MS} (h:s'.W = s.W) (b:Int):s'.at' b = s.at' b:=by unfold MS.at'; rw [h]
theorem load_any (s:MS) (a b:Int):(s.load a).at' b = s.at' b:=by
 by_cases h:0 ≤ a ∧ a < s.W.length
 ·exact load_at h b
 ·exact at_out (by unfold MS.load MS.acc; rw [if_neg h]) b
theorem store_ne (s:MS) (v:Int) (h:b ≠ a):(s.store a v).at' b = s.at' b:=by
 by_cases hi:0 ≤ a ∧ a < s.W.length
 ·rw [store_at hi,if_neg h]
 ·exact at_out (by unfold MS.store MS.acc; rw [if_neg hi]) b
theorem cas_ne (s:MS) (x y:Int) (h:b ≠ a):(s.cas a x y).at' b = s.at' b:=by
 by_cases hi:0 ≤ a ∧ a < s.W.length
 ·rw [cas_at hi,if_neg (fun k=>h k.1)]
 ·exact at_out (by unfold MS.cas MS.acc; rw [if_neg hi]) b
end
theorem mem_modify {α:Type} {l:List α} {i:Nat} {f:α → α} {z:α} (h:z ∈ l.modify i f):z ∈ l ∨ ∃ y ∈ l,z = f y:=by
 obtain ⟨j,hj⟩:=List.mem_iff_getElem?.1 h
 rw [List.getElem?_modify] at hj
 cases hq:l[j]? with
 | none=>rw [hq] at hj; cases hj
 | some y =>
  rw [hq] at hj
  have hy:=List.mem_of_getElem? hq
  by_cases e:i = j
  ·simp [e] at hj; exact .inr ⟨y,hy,hj.symm⟩
  ·simp [e] at hj; exact .inl (hj ▸ hy)
section
variable {n lim T:Int} {F H:List Int} {s:MS} {k:Nat → CoS} {c K:Nat} {x:CA}
theorem al_worn (hn:1 ≤ n) (p:AlS) (s:MS):(p.step (arN n lim) s).2.at' (1 + 2 * n) = s.at' (1 + 2 * n):=by
 have h0:(1:Int) + 2 * n ≠ 0:=by omega
 cases p with
 | done g e=>rfl
 | lacks=>exact load_any _ _ _
 | gives i=>exact load_any _ _ _
 | pop p =>
  have key:(p.step (arN n lim).R s).2.at' (1 + 2 * n) = s.at' (1 + 2 * n):=by
   cases p with
   | done i=>rfl
   | go ph w i j =>
    simp only [PopS.step]
    split
    ·exact load_any _ _ _
    ·split
     ·exact load_any _ _ _
     ·exact cas_ne _ _ _ h0
  simp only [AlS.step]
  generalize p.step (arN n lim).R s = q at *
  obtain ⟨q,s'⟩:=q
  cases q <;> exact key
theorem fe_worn (h:RI n lim T F H s k) (hc:c < 3) {p:FeS} (hp:k c = .fe p):s.at' (1 + 2 * n) ≤ (p.step (arN n lim) s).2.at' (1 + 2 * n):=by
 have hn:=h.n1
 have h0:(1:Int) + 2 * n ≠ 0:=by omega
 cases p with
 | done e=>exact Int.le_refl _
 | looks i=>exact Int.le_of_eq (load_any _ _ _).symm
 | raises i g =>
  have hi:=h.owned hc (i:=i) (by rw [hp]; simp [ow])
  exact Int.le_of_eq (store_ne _ _ (by show 1 + 2 * n ≠ 1 + n + i; omega)).symm
 | wears =>
  have hm:(0:Int) ≤ 1 + 2 * n ∧ 1 + 2 * n < (s.W.length:Int):=by have:=h.len; omega
  have hw0:=h.w0
  have hle:s.at' (1 + 2 * n) ≤ n:=by
   have:=h.ln
   have q1:0 ≤ lO k:=by unfold lO; omega
   have q2:0 ≤ wO k:=by unfold wO; have:=wc_nn (k 0); have:=wc_nn (k 1); have:=wc_nn (k 2); omega
   omega
  show _ ≤ (s.add (1 + 2 * n) 1).at' (1 + 2 * n)
  rw [add_at hm,if_pos rfl,wrap_u64]
  omega
 | push p =>
  cases p with
  | done e=>exact Int.le_refl _
  | go ph w i =>
   have hi:=h.owned hc (i:=i) (by rw [hp]; simp [ow])
   refine Int.le_of_eq (Eq.symm ?_)
   show (PusS.step (arN n lim).R (.go ph w i) s).2.at' (1 + 2 * n) = _
   simp only [PusS.step]
   split
   ·exact load_any _ _ _
   ·split
    ·exact store_ne _ _ (by show 1 + 2 * n ≠ 1 + i; omega)
    ·exact cas_ne _ _ _ h0
theorem InvA.wait (h:InvA n lim K x F T):InvA n lim (K + 1) x F T :=
 ⟨h.ri,by have:=h.tk; omega,h.sk,h.hw,h.op,h.er,by have:=h.ck; omega,by have:=h.cl; omega⟩
theorem InvA.told (h:InvA n lim K x F T) (hK:K < 999998) (hc:c < 3) {p:AlS} (hp:x.k c = .al p) {g e:Int} (hd:(p.step (arN n lim) x.s).1 = .done g e) :
  (e = 0 → (∀ w ∈ x.held,ixW w ≠ ixW g) ∧ ∃ i g',g = wordT i g' ∧ 0 ≤ i ∧ i < n ∧ 1 ≤ g' ∧ g' ≤ 1000) ∧ (e ≠ 0 → g = 0 ∧ (e = 7 ∨ e = 12)):=by
 have ho:p.over = false:=by
  rcases h.op c hc with ⟨q,_⟩ | ⟨_,q,_⟩
  ·rw [hp] at q; cases q
  ·rw [hp] at q; exact q
 obtain ⟨F',T',t1,t2,hr,-⟩:=h.ri.alstep h.sk (by have:=h.tk; omega) hc hp ho
 rw [hd] at hr
 have hco:=hr.co c hc
 rw [upN_same] at hco
 refine ⟨fun he=>?_,fun he=>?_⟩
 ·rcases hco with ⟨_,hi⟩ | ⟨_,q | ⟨q,_⟩⟩
  ·refine ⟨fun w hw e=>?_,hi⟩
   have:=(hr.owned hc (i:=ixW g) (by rw [upN_same]; simp [ow,he])).2.2.2.1
   exact this (by rw [← e]; exact List.mem_map_of_mem hw)
  ·rw [q] at he; cases he
  ·rw [q] at he; cases he
 ·rcases hco with ⟨q,_⟩ | ⟨q1,q | ⟨q,_⟩⟩
  ·exact absurd q he
  ·exact ⟨q1,.inl q⟩
  ·exact ⟨q1,.inr q⟩
theorem InvA.steps (h:InvA n lim K x F T) (hK:K < 999998) (hc:c < 3):∃ F' T',InvA n lim (K + 1) (x.steps (arN n lim) c) F' T' ∧ (x.k c ≠ .idle → mu n ((x.steps (arN n lim) c).s.at' 0) ((x.steps (arN n lim) c).k c) < mu n (x.s.at' 0) (x.k c)):=by
 have hn:=h.ri.n1
 have hT:T < 999999:=by have:=h.tk; omega
 have hck:=h.ck
 have hcl:=h.cl
 have htk:=h.tk
 have hA:=arN_ok hn h.ri.lm
 have other:∀ {y:CoS} {v:Int} {l:Nat} (hl:x.calls.length ≤ l),(∀ c',c' < 3 → c' ≠ c → (upN x.k c y c' = .idle ∧ upN x.o c v c' = -1) ∨ (upN x.k c y c' ≠ .idle ∧ ovK (upN x.k c y c') = false ∧ 0 ≤ upN x.o c v c' ∧ upN x.o c v c' < (l:Int))):=fun hl c' hc' q=>by
  rw [upN_ne _ _ q,upN_ne _ _ q]
  exact (h.op c' hc').imp id fun ⟨a,b,d,e⟩=>⟨a,b,d,by omega⟩
 have hop:=h.op c hc
 have hokc:=h.ri.ok c hc
 unfold CA.steps
 cases hk:x.k c with
 | idle=>exact ⟨F,T,h.wait,fun q=>absurd rfl q⟩
 | fe p =>
  rw [hk] at hop hokc
  have ho:p.over = false:=hop.elim (fun q=>by cases q.1) fun q=>q.2.1
  obtain ⟨F',T',t1,t2,hr,hm⟩:=h.ri.festep h.sk hT hc hk ho
  have hsk:=(FeS.ok.step hA hokc h.sk).2
  have hwn:=fe_worn h.ri hc hk
  simp only
  by_cases hov:(p.step (arN n lim) x.s).1.over = true
  ·rw [if_pos hov]
   refine ⟨F',T',⟨?_,by omega,hsk,h.hw,fun c' hc'=>?_,fun z hz e=>?_,?_,?_⟩,fun _=>?_⟩
   ·have hd:∃ e,(p.step (arN n lim) x.s).1 = .done e:=by
     cases hq:(p.step (arN n lim) x.s).1 <;> first | exact ⟨_,rfl⟩ | (rw [hq] at hov; cases hov)
    obtain ⟨e,hd⟩:=hd
    rw [hd] at hr
    have:=hr.give hc (y:=.idle) (H':=x.held.map ixW) (fun a=>by rw [upN_same]; rfl) (by rw [upN_same]; rfl) (by rw [upN_same]; rfl) trivial trivial
    rw [upN_up] at this
    exact this
   ·by_cases q:c' = c
    ·subst q
     exact .inl ⟨upN_same _ _ _,upN_same _ _ _⟩
    ·simp only [List.length_modify]
     exact other (Nat.le_refl _) c' hc' q
   ·rcases mem_modify hz with hz | ⟨y,hy,rfl⟩
    ·exact Int.le_trans (h.er z hz e) hwn
    ·exact Int.le_trans (h.er y hy e) hwn
   ·show 0 ≤ x.clock + 1 ∧ x.clock + 1 ≤ ((K + 1:Nat):Int); omega
   ·simp only [List.length_modify]; omega
   ·show mu n _ (upN x.k c .idle c) < _
    rw [upN_same]
    exact Nat.lt_of_le_of_lt (Nat.zero_le _) hm
  ·rw [if_neg hov]
   refine ⟨F',T',⟨hr,by omega,hsk,h.hw,fun c' hc'=>?_,fun z hz e=>Int.le_trans (h.er z hz e) hwn,?_,by show x.calls.length ≤ K + 1; omega⟩,fun _=>?_⟩
   ·by_cases q:c' = c
    ·subst q
     refine .inr ⟨?_,?_,?_⟩
     ·show upN x.k c' _ c' ≠ _; rw [upN_same]; exact fun k=>by cases k
     ·show ovK (upN x.k c' _ c') = _; rw [upN_same]; simpa [ovK] using hov
     exact hop.elim (fun q=>by cases q.1) fun q=>q.2.2
    ·have:=other (y:=.fe (p.step (arN n lim) x.s).1) (v:=x.o c) (Nat.le_refl _) c' hc' q
     rw [upN_self] at this
     exact this
   ·show 0 ≤ x.clock + 1 ∧ x.clock + 1 ≤ ((K + 1:Nat):Int); omega
   ·show mu n _ (upN x.k c _ c) < _
    rw [upN_same]
    exact hm
 | al p =>
  rw [hk] at hop hokc
  have ho:p.over = false:=hop.elim (fun q=>by cases q.1) fun q=>q.2.1
  obtain ⟨F',T',t1,t2,hr,hm⟩:=h.ri.alstep h.sk hT hc hk ho
  have hsk:=(AlS.ok.step hA hokc h.sk).2
  have hwn:=Int.le_of_eq (al_worn (lim:=lim) hn.1 p x.s).symm
  simp only
  by_cases hov:(p.step (arN n lim) x.s).1.over = true
  ·rw [if_pos hov]
   have hd:∃ g e,(p.step (arN n lim) x.s).1 = .done g e:=by
    cases hq:(p.step (arN n lim) x.s).1 <;> first | exact ⟨_,_,rfl⟩ | (rw [hq] at hov; cases hov)
   obtain ⟨g,e,hd⟩:=hd
   have ht:=h.told hK hc hk hd
   have htl:(p.step (arN n lim) x.s).1.told = (g,e):=by rw [hd]; rfl
   rw [hd] at hr
   have hcc:=hr.co c hc
   rw [upN_same] at hcc
   rw [htl]
   simp only
   refine ⟨F',T',⟨?_,by omega,hsk,fun w hw=>?_,fun c' hc'=>?_,fun z hz e'=>?_,?_,?_⟩,fun _=>?_⟩
   ·have:=hr.give hc (y:=.idle) (H':=(if e = 0 then x.held ++ [g] else x.held).map ixW) (fun a=>?_) ?_ (by rw [upN_same]; rfl) trivial trivial
    ·rw [upN_up] at this
     exact this
    ·rw [upN_same]
     by_cases q:e = 0
     ·simp [ow,q]
     ·simp [ow,q]
    ·rw [upN_same]
     by_cases q:e = 0
     ·simp [ow,q]
     ·simp [ow,q]
   ·by_cases q:e = 0
    ·rw [if_pos q] at hw
     rcases List.mem_append.1 hw with hw | hw
     ·exact h.hw w hw
     ·rw [List.mem_singleton.1 hw]; exact (ht.1 q).2
    ·rw [if_neg q] at hw; exact h.hw w hw
   ·by_cases q:c' = c
    ·subst q
     exact .inl ⟨upN_same _ _ _,upN_same _ _ _⟩
    ·simp only [List.length_modify]
     exact other (Nat.le_refl _) c' hc' q
   ·rcases mem_modify hz with hz | ⟨y,hy,rfl⟩
    ·exact Int.le_trans (h.er z hz e') hwn
    ·have e':e = 12:=e'
     rcases hcc with ⟨q,_⟩ | ⟨_,q | ⟨_,q⟩⟩
     ·rw [q] at e'; cases e'
     ·rw [q] at e'; cases e'
     ·exact q
   ·show 0 ≤ x.clock + 1 ∧ x.clock + 1 ≤ ((K + 1:Nat):Int); omega
   ·simp only [List.length_modify]; omega
   ·show mu n _ (upN x.k c .idle c) < _
    rw [upN_same]
    exact Nat.lt_of_le_of_lt (Nat.zero_le _) hm
  ·rw [if_neg hov]
   refine ⟨F',T',⟨hr,by omega,hsk,h.hw,fun c' hc'=>?_,fun z hz e=>Int.le_trans (h.er z hz e) hwn,?_,by show x.calls.length ≤ K + 1; omega⟩,fun _=>?_⟩
   ·by_cases q:c' = c
    ·subst q
     refine .inr ⟨?_,?_,?_⟩
     ·show upN x.k c' _ c' ≠ _; rw [upN_same]; exact fun k=>by cases k
     ·show ovK (upN x.k c' _ c') = _; rw [upN_same]; simpa [ovK] using hov
     exact hop.elim (fun q=>by cases q.1) fun q=>q.2.2
    ·have:=other (y:=.al (p.step (arN n lim) x.s).1) (v:=x.o c) (Nat.le_refl _) c' hc' q
     rw [upN_self] at this
     exact this
   ·show 0 ≤ x.clock + 1 ∧ x.clock + 1 ≤ ((K + 1:Nat):Int); omega
   ·show mu n _ (upN x.k c _ c) < _
    rw [upN_same]
    exact hm
end
end Go.Proofs.YtlaojmcekeohnaaGreatDoor.Lift
set_option linter.unusedVariables false
set_option linter.unusedSimpArgs false
set_option maxRecDepth 20000
namespace Go.Proofs.YtlaojmcekeohnaaGreatDoor.Lift
open Go Go.Proofs.YtlaojmcekeohnaaGreatDoor.Gh Go.Proofs
def firsts:Nat → List Int
 | 0=>[]
 | n + 1=>firsts n ++ [(n:Int)]
def CA.init (n lim:Int):CA:=⟨fillA (arN n lim) (MS.zero (2 + 2 * n).toNat),fun _=>.idle,[],fun _=>0,[],fun _=>-1,0⟩
theorem zero_ok {k:Nat} (h:k ≤ 4096):(MS.zero k).ok:=⟨fun w hw=>by rw [(List.mem_replicate.1 hw).2]; exact ⟨by decide,by decide⟩,by simp [MS.zero]; exact h⟩
theorem init_W (lim:Int) (n:Nat) (h:1 ≤ n ∧ n ≤ 8):(fillA (arN n lim) (MS.zero (2 + 2 * (n:Int)).toNat)).W = (1:Int) :: ((List.range n).map fun i=>if i + 1 = n then (0:Int) else i + 2) ++ List.replicate n 1 ++ [0]:=by
 rcases (show n = 1 ∨ n = 2 ∨ n = 3 ∨ n = 4 ∨ n = 5 ∨ n = 6 ∨ n = 7 ∨ n = 8 by omega) with rfl | rfl | rfl | rfl | rfl | rfl | rfl | rfl <;> kernel_rfl
theorem count_firsts (a:Int):∀ n:Nat,(firsts n).count a = if 0 ≤ a ∧ a < n then 1 else 0
 | 0=>by
  rw [if_neg (by omega)]
  rfl
 | n + 1=>by
  have ih:=count_firsts a n
  show (firsts n ++ [(n:Int)]).count a = _
  rw [List.count_append,ih,List.count_cons,List.count_nil]
  by_cases e:a = n
  ·have h1:¬ (0 ≤ (n:Int) ∧ (n:Int) < n):=by omega
   have h2:0 ≤ (n:Int) ∧ (n:Int) < ((n + 1:Nat):Int):=by omega
   rw [e,if_neg h1,if_pos h2]
   simp
  ·have:¬ ((n:Int) == a) = true:=by simp; omega
   rw [if_neg this]
   by_cases q:0 ≤ a ∧ a < n
   ·rw [if_pos q,if_pos (by omega)]
   ·rw [if_neg q,if_neg (by omega)]
theorem len_firsts:∀ n:Nat,(firsts n).length = n
 | 0=>rfl
 | n + 1=>by show (firsts n ++ [(n:Int)]).length = _; rw [List.length_append,len_firsts n]; rfl
theorem gens_at {n i:Nat} (h:i < n):(((1:Int) :: ((List.range n).map fun i=>if i + 1 = n then (0:Int) else i + 2) ++ List.replicate n 1 ++ [0]))[1 + n + i]? = some 1:=by
 rw [List.getElem?_append_left (by simp; omega),List.getElem?_append_right (by simp; omega)]
 rw [List.getElem?_replicate,if_pos (by simp; omega)]
theorem RI.init (lim:Int) (n:Nat) (h:1 ≤ n ∧ n ≤ 8) (hl:1 ≤ lim ∧ lim ≤ 1000):RI n lim 0 (firsts n) [] (fillA (arN n lim) (MS.zero (2 + 2 * (n:Int)).toNat)) fun _=>.idle:=by
 have hW:=init_W lim n h
 generalize fillA (arN n lim) (MS.zero (2 + 2 * (n:Int)).toNat) = s at *
 have e:s.at' = fun a=>if 0 ≤ a ∧ a < (((1:Int) :: ((List.range n).map fun i=>if i + 1 = n then (0:Int) else i + 2) ++ List.replicate n 1 ++ [0]).length:Int) then ((((1:Int) :: ((List.range n).map fun i=>if i + 1 = n then (0:Int) else i + 2) ++ List.replicate n 1 ++ [0]))[a.toNat]?).getD 0 else 0:=by
  funext a; unfold MS.at'; rw [hW]
 have base:(s.W.length:Int) = 2 + 2 * n:=by rw [hW]; simp; omega
 have gn:∀ i:Int,0 ≤ i → i < n → s.at' (1 + n + i) = 1:=fun i h0 h1=>by
  obtain ⟨j,rfl⟩:=Int.eq_ofNat_of_zero_le h0
  rw [MS.at_in _ (by omega),hW]
  have:(1 + (n:Int) + (j:Int)).toNat = 1 + n + j:=by omega
  rw [this,gens_at (by omega)]
  rfl
 have cnt:∀ a:Int,(firsts n).count a + ([]:List Int).count a + cO (fun _=>CoS.idle) a = if 0 ≤ a ∧ a < n then 1 else 0:=fun a=>by rw [count_firsts]; rfl
 have rest:s.at' 0 = Lift.hd (firsts n) + 1 + 0 * 65536 ∧ Chain s.at' (firsts n) ∧ s.at' (1 + 2 * n) = 0:=by
  rw [e]
  rcases (show n = 1 ∨ n = 2 ∨ n = 3 ∨ n = 4 ∨ n = 5 ∨ n = 6 ∨ n = 7 ∨ n = 8 by omega) with rfl | rfl | rfl | rfl | rfl | rfl | rfl | rfl <;> exact ⟨rfl,by simp [firsts,Chain,Lift.hd]; try decide,rfl⟩
 exact ⟨by omega,hl,base,rest.1,by decide,rest.2.1,fun i h0 h1=>by rw [gn i h0 h1]; omega,fun a=>by rw [cnt]; split <;> omega,fun a ha=>by rw [cnt] at ha; exact Classical.byContradiction fun q=>by rw [if_neg q] at ha; omega,by rw [rest.2.2,len_firsts]; show (n:Int) + 0 + 0 + 0 + 0 = n; omega,by rw [rest.2.2]; decide,fun _ _=>trivial,fun _ _=>trivial⟩
theorem InvA.init (lim:Int) (n:Nat) (h:1 ≤ n ∧ n ≤ 8) (hl:1 ≤ lim ∧ lim ≤ 1000):InvA n lim 0 (CA.init n lim) (firsts n) 0 :=
 ⟨RI.init lim n h hl,by decide,fillA_ok (arN_ok (by omega) hl) (zero_ok (by omega)),fun w hw=>(by cases hw),fun _ _=>.inl ⟨rfl,rfl⟩,fun z hz=>(by cases hz),⟨Int.le_refl 0,Int.le_refl 0⟩,Nat.le_refl 0⟩
end Go.Proofs.YtlaojmcekeohnaaGreatDoor.Lift
set_option linter.unusedVariables false
set_option linter.unusedSimpArgs false
set_option maxRecDepth 20000
namespace Go.Proofs.YtlaojmcekeohnaaGreatDoor.Lift
open Go Go.Proofs.YtlaojmcekeohnaaGreatDoor.Gh Go.Proofs
section
variable {α:Type} (e:RowE α)
theorem RowE.flat_part:∀ (L:List α) {i:Nat} (hi:i < L.length) (a:α) {f:Nat} {ds:List Value},e.row a = overw (e.row L[i]) f ds → f + ds.length ≤ e.sz → overw (e.flat L) (i * e.sz + f) ds = e.flat (L.set i a)
 | [],i,hi,_,_,_,_,_=>by simp at hi
 | b :: L,0,hi,a,f,ds,h,hf=>by
  have hb:=e.len b
  simp only [List.getElem_cons_zero] at h
  rw [List.set_cons_zero,e.flat_cons,e.flat_cons,h]
  simp only [overw,Nat.zero_mul,Nat.zero_add]
  rw [List.take_append_of_le_length (by omega),List.drop_append_of_le_length (by omega)]
  simp
 | b :: L,i + 1,hi,a,f,ds,h,hf=>by
  have hl:i < L.length:=by simpa using hi
  have ih:=RowE.flat_part L hl a (f:=f) (ds:=ds) (by simpa using h) hf
  rw [List.set_cons_succ,e.flat_cons,e.flat_cons,← ih]
  have h1:(i + 1) * e.sz + f = (e.row b).length + (i * e.sz + f):=by rw [e.len,Nat.add_mul]; omega
  simp only [overw]
  rw [h1,List.take_length_add_append,Nat.add_assoc,← List.drop_drop,List.drop_left]
  simp
theorem set_overw (l:List Value) (i:Nat) (v:Value) (h:i < l.length):l.set i v = overw l i [v]:=by
 simp only [overw]
 rw [List.set_eq_take_append_cons_drop,if_pos h]
 simp
end
theorem modify_set (L:List Sp) (k:Nat) (f:Sp → Sp) (h:k < L.length):L.modify k f = L.set k (f L[k]):=by
 apply List.ext_getElem?
 intro i
 by_cases e:i = k
 ·subst e; simp [h]
 ·have e':¬ k = i:=fun h=>e h.symm
  simp [List.getElem?_modify,List.getElem?_set,e,e']
structure Cel (own:Nat → Nat) (G:GS) (b t:Nat) (cs:List Value):Prop where
 lt:b < G.nx
 tag:own b = t
 obj:G.obj b = some ⟨cs,1,false,1⟩
section
variable {own own' own1:Nat → Nat} {G G' G1:GS} {b t:Nat} {ts:List Nat} {cs:List Value}
theorem Cel.to (h:Cel own G b t cs) (m:ModT ts own G G') (ht:t ∉ ts) (a:Agr own own' G):Cel own' G' b t cs :=
 ⟨Nat.lt_of_lt_of_le h.lt m.nx,(a b h.lt).trans h.tag,(m.same h.lt (by rw [h.tag]; exact ht)).trans h.obj⟩
theorem Cel.ne {t' b':Nat} (h:Cel own G b t cs) (k:own b' = t') (hn:t ≠ t'):¬ b = b':=fun e=>hn (by rw [← h.tag,← k,e])
end
structure CrB where
 m:Nat
 xb:Nat
 ab:Nat
 fb:Nat
 bb:Nat
 ob:Nat
 hv:Value
 cv:Value
 b:Nat → Nat
 d:Nat → Nat
def pA (B:CrB) (x:CA) (c:Nat):Value:=match x.k c with
 | .al _=>P0 (B.b c)
 | _=>.pointer none
def pF (B:CrB) (x:CA) (c:Nat):Value:=match x.k c with
 | .fe _=>P0 (B.b c)
 | _=>.pointer none
def crX (n lim:Int) (x:CA) (B:CrB):List Value:=[.int .i64 0,.int .i64 1,.int .i64 n,.int .i64 (1 + n),.int .i64 (1 + 2 * n),.int .i64 lim,P0 B.m,.slice (some ⟨B.ab,0,none⟩) 3 3,.slice (some ⟨B.fb,0,none⟩) 3 3,B.hv,.slice (some ⟨B.bb,0,none⟩) 3 3,B.cv,.slice (some ⟨B.ob,0,none⟩) 3 3,.int .i64 x.clock]
structure Two (own:Nat → Nat) (G:GS) (b d t:Nat):Prop where
 lb:b < G.nx
 ld:d < G.nx
 tb:own b = t
 td:own d = t
 ne:b ≠ d
theorem Two.to {own own':Nat → Nat} {G G':GS} {b d t:Nat} (h:Two own G b d t) (hn:G.nx ≤ G'.nx) (a:Agr own own' G):Two own' G' b d t:=⟨Nat.lt_of_lt_of_le h.lb hn,Nat.lt_of_lt_of_le h.ld hn,(a _ h.lb).trans h.tb,(a _ h.ld).trans h.td,h.ne⟩
def CoG (own:Nat → Nat) (G:GS) (A:Ar) (b d t:Nat):CoS → Prop
 | .idle=>True
 | .al p=>Two own G b d t ∧ AlR A G b d p
 | .fe p=>Two own G b d t ∧ FeR A G b d p
structure CrG (own:Nat → Nat) (G:GS) (n lim:Int) (x:CA) (B:CrB):Prop where
 cx:Cel own G B.xb 1 (crX n lim x B)
 ca:Cel own G B.ab 2 [pA B x 0,pA B x 1,pA B x 2]
 cf:Cel own G B.fb 14 [pF B x 0,pF B x 1,pF B x 2]
 ck:Cel own G B.bb 15 [.int .u64 (x.back 0),.int .u64 (x.back 1),.int .u64 (x.back 2)]
 co:Cel own G B.ob 16 [.int .i64 (x.o 0),.int .i64 (x.o 1),.int .i64 (x.o 2)]
 hm:PM own G B.m x.s
 hq:OwR (rowsI .u64) 0 G B.hv x.held
 tq:∀ g,InB B.hv g → own g = 3
 hc:OwR rSp 0 G B.cv x.calls
 tc:∀ g,InB B.cv g → own g = 4
 cr:∀ c,c < 3 → CoG own G (arN n lim) (B.b c) (B.d c) (5 + c) (x.k c)
def crT:List Nat:=[1,2,3,4,5,6,7,10,14,15,16]
section
variable {own own' own1:Nat → Nat} {G G' G1:GS} {b d t c:Nat} {n lim:Int} {ts:List Nat} {cs:List Value} {x y:CA} {B B':CrB} {α:Type} {e:RowE α} {v:Value} {L:List α} {A:Ar} {y0:CoS}
theorem OwR.to {lo:Nat} (h:OwR e lo G v L) (ht:∀ g,InB v g → own g = t) (m:ModT ts own G G') (hn:t ∉ ts):OwR e lo G' v L :=
 h.kept m.nx fun g hg=>m.same (h.is.under g hg) (by rw [ht g hg]; exact hn)
theorem PM.mt {m:Nat} {s:MS} (h:PM own G m s) (q:ModT ts own G G') (ht:10 ∉ ts) (a:Agr own own' G):PM own' G' m s:=(sepP m s).tag h q ht a
theorem CoG.to (h:CoG own G A b d t y0) (m:ModT ts own G G') (ht:t ∉ ts) (a:Agr own own' G):CoG own' G' A b d t y0:=by
 cases y0 with
 | idle=>trivial
 | al p=>exact ⟨h.1.to m.nx a,h.2.kept (m.same h.1.lb (by rw [h.1.tb]; exact ht)) (m.same h.1.ld (by rw [h.1.td]; exact ht))⟩
 | fe p=>exact ⟨h.1.to m.nx a,h.2.kept (m.same h.1.lb (by rw [h.1.tb]; exact ht)) (m.same h.1.ld (by rw [h.1.td]; exact ht))⟩
theorem CrG.to (h:CrG own G n lim x B) (m:ModT ts own G G') (a:Agr own own' G) (ht:∀ t ∈ ts,t ∉ crT):CrG own' G' n lim x B:=by
 have no:∀ {t},t ∈ crT → t ∉ ts:=fun h1 h2=>ht _ h2 h1
 refine ⟨h.cx.to m (no (by decide)) a,h.ca.to m (no (by decide)) a,h.cf.to m (no (by decide)) a,h.ck.to m (no (by decide)) a,h.co.to m (no (by decide)) a,h.hm.mt m (no (by decide)) a,OwR.to h.hq h.tq m (no (by decide)),fun g hg=>(a g (h.hq.is.under g hg)).trans (h.tq g hg),OwR.to h.hc h.tc m (no (by decide)),fun g hg=>(a g (h.hc.is.under g hg)).trans (h.tc g hg),fun c hc=>(h.cr c hc).to m (no ?_) a⟩
 rcases (show c = 0 ∨ c = 1 ∨ c = 2 by omega) with rfl | rfl | rfl <;> decide
theorem CrG.ext (h:CrG own G n lim x B) (e:Ext G G'):CrG (grown own G 13) G' n lim x B:=h.to (ts:=[]) (ModT.ext e) grown_agr (by simp)
def CrPost (own:Nat → Nat) (G:GS) (n lim:Int) (B:CrB) (y:CA) (r:Value) (q:Value × GS):Prop:=q.1 = r ∧ ∃ own' B',B'.xb = B.xb ∧ B'.m = B.m ∧ Agr own own' G ∧ ModT crT own G q.2 ∧ CrG own' q.2 n lim y B'
end
end Go.Proofs.YtlaojmcekeohnaaGreatDoor.Lift
set_option linter.unusedVariables false
set_option linter.unusedSimpArgs false
set_option maxRecDepth 20000
namespace Go.Proofs.YtlaojmcekeohnaaGreatDoor.Lift
open Go Go.Proofs.YtlaojmcekeohnaaGreatDoor.Gh Go.Proofs
section
variable {own own' own1:Nat → Nat} {G G' G1:GS} {b d t c:Nat} {n lim:Int} {ts:List Nat} {cs:List Value} {x y:CA} {B B':CrB} {v:Value} {A:Ar} {y0:CoS} {s':MS}
theorem CrG.tick (h:CrG own G n lim x B) (k:Nat) (hG:G1 = (G.put B.xb ⟨crX n lim { x with clock:=x.clock + 1 } B,1,false,1⟩).room k):CrG (grown own G 13) G1 n lim { x with clock:=x.clock + 1 } B ∧ ModT [1] own G G1 ∧ G1.nx = G.nx + k:=by
 have hlt:=h.cx.lt
 have m:ModT [1] own G G1:=by
  rw [hG]
  exact ModP.room (ModT.put (ModT.refl _ _ _) (.inl (by rw [h.cx.tag]; decide)) _) k
 have ag:Agr own (grown own G 13) G:=grown_agr
 have nx:G1.nx = G.nx + k:=by rw [hG]; rfl
 have ox:G1.obj B.xb = some ⟨crX n lim { x with clock:=x.clock + 1 } B,1,false,1⟩:=by rw [hG]; simp
 refine ⟨⟨⟨by omega,(ag _ hlt).trans h.cx.tag,ox⟩,h.ca.to m (by decide) ag,h.cf.to m (by decide) ag,h.ck.to m (by decide) ag,h.co.to m (by decide) ag,h.hm.mt m (by decide) ag,OwR.to h.hq h.tq m (by decide),fun g hg=>(ag g (h.hq.is.under g hg)).trans (h.tq g hg),OwR.to h.hc h.tc m (by decide),fun g hg=>(ag g (h.hc.is.under g hg)).trans (h.tc g hg),fun c hc=>(h.cr c hc).to m ?_ ag⟩,m,nx⟩
 simp; omega
theorem CrG.run (h:CrG own G n lim x B) (hc:c < 3) (ht:Two own G (B.b c) (B.d c) (5 + c)) (w:PW (fun g=>g = B.b c ∨ g = B.d c) own G own1 G1 B.m s') (hpa:pA B { x with s:=s',k:=upN x.k c y0 } c = pA B x c) (hpf:pF B { x with s:=s',k:=upN x.k c y0 } c = pF B x c)
  (hco:CoG own1 G1 (arN n lim) (B.b c) (B.d c) (5 + c) y0):CrG own1 G1 n lim { x with s:=s',k:=upN x.k c y0 } B ∧ ModT [10,5 + c] own G G1:=by
 have m:ModT [10,5 + c] own G G1:=ModP.mono w.stp.mod fun g hg=>hg.elim (fun e=>by rw [e]; simp) fun e=>by
  rcases e with e | e
  ·rw [e,ht.tb]; simp
  ·rw [e,ht.td]; simp
 have a:=w.stp.agr
 have no:∀ {t},t ∈ [1,2,3,4,14,15,16] → t ∉ [10,5 + c]:=fun {t} h1 h2=>by simp at h1 h2; omega
 have pa:∀ j,pA B { x with s:=s',k:=upN x.k c y0 } j = pA B x j:=fun j=>by
  by_cases q:j = c
  ·rw [q]; exact hpa
  ·unfold pA; simp only; rw [upN_ne _ _ q]
 have pf:∀ j,pF B { x with s:=s',k:=upN x.k c y0 } j = pF B x j:=fun j=>by
  by_cases q:j = c
  ·rw [q]; exact hpf
  ·unfold pF; simp only; rw [upN_ne _ _ q]
 refine ⟨⟨h.cx.to m (no (by decide)) a,by rw [pa,pa,pa]; exact h.ca.to m (no (by decide)) a,by rw [pf,pf,pf]; exact h.cf.to m (no (by decide)) a,h.ck.to m (no (by decide)) a,h.co.to m (no (by decide)) a,w.pm,OwR.to h.hq h.tq m (no (by decide)),fun g hg=>(a g (h.hq.is.under g hg)).trans (h.tq g hg),OwR.to h.hc h.tc m (no (by decide)),fun g hg=>(a g (h.hc.is.under g hg)).trans (h.tc g hg),fun j hj=>?_⟩,m⟩
 show CoG own1 G1 _ _ _ _ (upN x.k c y0 j)
 by_cases q:j = c
 ·rw [q,upN_same]; exact hco
 ·rw [upN_ne _ _ q]; exact (h.cr j hj).to m (by simp; omega) a
theorem CrG.fin (h:CrG own G n lim x B) (hc:c < 3) {calls':List Sp} (m:ModT [2,4,14,16] own G G') (oa:G'.obj B.ab = some ⟨[pA B { x with k:=upN x.k c .idle } 0,pA B { x with k:=upN x.k c .idle } 1,pA B { x with k:=upN x.k c .idle } 2],1,false,1⟩) (of:G'.obj B.fb = some ⟨[pF B { x with k:=upN x.k c .idle } 0,pF B { x with k:=upN x.k c .idle } 1,pF B { x with k:=upN x.k c .idle } 2],1,false,1⟩)
  (oo:G'.obj B.ob = some ⟨[.int .i64 (upN x.o c (-1) 0),.int .i64 (upN x.o c (-1) 1),.int .i64 (upN x.o c (-1) 2)],1,false,1⟩) (oc:OwR rSp 0 G' B.cv calls'):CrG own G' n lim { x with k:=upN x.k c .idle,o:=upN x.o c (-1),calls:=calls' } B:=by
 have a:=Agr.refl own G
 have nx:=m.nx
 refine ⟨h.cx.to m (by decide) a,⟨Nat.lt_of_lt_of_le h.ca.lt nx,h.ca.tag,oa⟩,⟨Nat.lt_of_lt_of_le h.cf.lt nx,h.cf.tag,of⟩,h.ck.to m (by decide) a,⟨Nat.lt_of_lt_of_le h.co.lt nx,h.co.tag,oo⟩,h.hm.mt m (by decide) a,OwR.to h.hq h.tq m (by decide),h.tq,oc,h.tc,fun j hj=>?_⟩
 show CoG own G' _ _ _ _ (upN x.k c .idle j)
 by_cases q:j = c
 ·rw [q,upN_same]; trivial
 ·rw [upN_ne _ _ q]; exact (h.cr j hj).to m (by simp; omega) a
end
end Go.Proofs.YtlaojmcekeohnaaGreatDoor.Lift
set_option linter.unusedVariables false
set_option linter.unusedSimpArgs false
set_option maxRecDepth 20000
namespace Go.Proofs.YtlaojmcekeohnaaGreatDoor.Lift
open Go Go.Proofs.YtlaojmcekeohnaaGreatDoor.Gh Go.Proofs
section
variable {own own' own1:Nat → Nat} {G G' G1:GS} {b d t c K:Nat} {n lim T:Int} {F:List Int} {ts:List Nat} {cs:List Value} {x y:CA} {B B':CrB} {v:Value} {A:Ar} {y0:CoS} {s':MS}
theorem ModT.up (h:ModT ts own G G') (hs:∀ t ∈ ts,t ∈ crT):ModT crT own G G':=h.mono hs
theorem up5 (hc:c < 3):∀ t ∈ [10,5 + c],t ∈ crT:=by rcases (show c = 0 ∨ c = 1 ∨ c = 2 by omega) with rfl | rfl | rfl <;> decide
theorem pF_al {B:CrB} {x:CA} {c:Nat} {p:AlS} (h:x.k c = .al p):pF B x c = .pointer none:=by unfold pF; rw [h]
theorem pF_other {B:CrB} {x:CA} {c j:Nat} {y:CoS} {s:MS} {cl:Int} (h:j ≠ c):pF B { x with s:=s,k:=upN x.k c y,clock:=cl } j = pF B x j:=by unfold pF; simp [upN,h]
theorem pA_end {B:CrB} {x:CA} {c j:Nat} {q:FeS} {s:MS} {cl:Int}:pA B { x with s:=s,k:=upN (upN x.k c (.fe q)) c .idle,clock:=cl } j = pA B { x with s:=s,k:=upN x.k c (.fe q),clock:=cl } j:=by unfold pA; by_cases e:j = c <;> simp [upN,e]
theorem pF_end {B:CrB} {x:CA} {c j:Nat} {q:CoS} {s:MS} {cl:Int}:pF B { x with s:=s,k:=upN (upN x.k c q) c .idle,clock:=cl } j = if j = c then .pointer none else pF B x j:=by unfold pF; by_cases e:j = c <;> simp [upN,e]
theorem pF_endA {B:CrB} {x:CA} {c j:Nat} {q:AlS} {s:MS} {cl:Int}:pF B { x with s:=s,k:=upN (upN x.k c (.al q)) c .idle,clock:=cl } j = pF B { x with s:=s,k:=upN x.k c (.al q),clock:=cl } j:=by unfold pF; by_cases e:j = c <;> simp [upN,e]
theorem pA_endA {B:CrB} {x:CA} {c j:Nat} {q:CoS} {s:MS} {cl:Int}:pA B { x with s:=s,k:=upN (upN x.k c q) c .idle,clock:=cl } j = if j = c then .pointer none else pA B x j:=by unfold pA; by_cases e:j = c <;> simp [upN,e]
theorem steps_idle (orc:FuncId → Bool) (h:CrG own G n lim x B) (hc:c < 3) (hk:x.k c = .idle) (ho:x.o c = -1):Wp ((E orc).cl 83 [P0 B.xb,.int .i64 c] G) (CrPost own G n lim B (x.steps (arN n lim) c) (.bool true)):=by
 have e:x.steps (arN n lim) c = x:=by unfold CA.steps; rw [hk]
 rw [e]
 refine ⟨(.bool true,G),f83 (exL_ok Q orc) _ _ G _ ?_,rfl,own,B,rfl,rfl,Agr.refl _ _,ModT.refl _ _ _,h⟩
 have hox:=h.cx.obj
 have hoo:=h.co.obj
 rcases (show c = 0 ∨ c = 1 ∨ c = 2 by omega) with rfl | rfl | rfl <;> simp [s83,hox,hoo,crX,ho]
theorem steps_fe (orc:FuncId → Bool) (hto:orc 270 = false) (h:CrG own G n lim x B) (hI:InvA n lim K x F T) (hK:K ≤ 100000) (hc:c < 3) {p:FeS} (hk:x.k c = .fe p):Wp ((E orc).cl 83 [P0 B.xb,.int .i64 c] G) (CrPost own G n lim B (x.steps (arN n lim) c) (.bool true)):=by
 have hA:=arN_ok hI.ri.n1 hI.ri.lm
 have hck:=hI.ck
 have hok:=hI.ri.ok c hc
 rw [hk] at hok
 obtain ⟨q1,q2⟩:0 ≤ x.o c ∧ x.o c < x.calls.length:=by
  rcases hI.op c hc with ⟨q,_⟩ | ⟨_,_,q⟩
  ·rw [hk] at q; cases q
  ·exact q
 obtain ⟨k,ho⟩:=Int.eq_ofNat_of_zero_le q1
 have hkl:k < x.calls.length:=by omega
 have hw:IntKind.wrap .i64 (x.clock + 1) = x.clock + 1:=wrap64 (by omega) (by omega)
 obtain ⟨Gt,hGt⟩:∃ Gt,Gt = ((G.put B.xb ⟨crX n lim { x with clock:=x.clock + 1 } B,1,false,1⟩).room 13).room 13:=⟨_,rfl⟩
 obtain ⟨h1,m1,n1⟩:=h.tick 26 (G1:=Gt) (by rw [hGt]; rfl)
 have hcr:=h1.cr c hc
 simp only [hk] at hcr
 obtain ⟨htw,hfr⟩:=hcr
 obtain ⟨own2,G36,e36,w36,r36⟩:=free_ok orc hto h1.hm hI.sk hA htw.lb htw.ld (by rw [htw.tb]; omega) (by rw [htw.td]; omega) htw.ne hok hfr
 have htw2:=htw.to w36.nx w36.stp.agr
 obtain ⟨h2,m2⟩:=h1.run hc htw (y0:=.fe (p.step (arN n lim) x.s).1) w36 (by simp [pA,upN,hk]) (by simp [pF,upN,hk]) ⟨htw2,r36⟩
 have ag2:Agr own own2 G:=grown_agr.trans w36.stp.agr m1.nx
 have mm2:ModT crT own G G36:=ModT.trans (ModT.mono (us:=crT) m1 (by decide)) grown_agr (ModT.mono (us:=crT) m2 (up5 hc))
 have hox:=h.cx.obj
 have hoo:=h.co.obj
 have hof:=h.cf.obj
 have hfb:pF B x c = P0 (B.b c):=by unfold pF; rw [hk]
 have hof1:Gt.obj B.fb = some ⟨[pF B x 0,pF B x 1,pF B x 2],1,false,1⟩:=h1.cf.obj
 have hoo1:Gt.obj B.ob = some ⟨[.int .i64 (x.o 0),.int .i64 (x.o 1),.int .i64 (x.o 2)],1,false,1⟩:=h1.co.obj
 have n36:=w36.nx
 rcases h.hc.2 with ⟨_,h0⟩ | ⟨cb,op,hcv,_,hcb,hco⟩
 ·omega
 have hk0:(0:Int) ≤ k:=by omega
 have hkn:¬ (k:Int) < 0:=by omega
 have hk1:(k:Int) < x.calls.length:=by omega
 have nxb:∀ {b' t'},own b' = t' → t' ≠ 1 → ¬ b' = B.xb:=fun k hn e=>hn (by rw [← k,e]; exact h.cx.tag)
 have nob:=nxb h.co.tag (by decide)
 have nfb:=nxb h.cf.tag (by decide)
 have ncb:=nxb (h.tc cb ⟨_,_,_,hcv,rfl⟩) (by decide)
 by_cases hov:(p.step (arN n lim) x.s).1.over = true
 ·rw [hov] at e36
  have hox2:=h2.cx.obj
  have hoo2:=h2.co.obj
  have hof2:=h2.cf.obj
  obtain ⟨hfl2,⟨_,h0⟩ | ⟨cb2,op2,hcv2,_,hcb2,hco2⟩⟩:=h2.hc
  ·have:x.calls.length = 0:=h0
   omega
  have hcc:cb2 = cb:=by
   have e:=hcv2
   rw [hcv] at e
   injection e with e1
   injection e1 with e2
   injection e2 with e3
   exact e3.symm
  rw [hcc] at hco2 hcb2
  have tcb:own2 cb = 4:=h2.tc cb ⟨_,_,_,hcv,rfl⟩
  have k1:¬ cb = B.fb:=fun e=>h2.cf.ne tcb (by decide) e.symm
  have k2:¬ cb = B.ob:=fun e=>h2.co.ne tcb (by decide) e.symm
  have k3:¬ B.fb = B.ob:=h2.cf.ne h2.co.tag (by decide)
  have k4:¬ B.ob = cb:=fun e=>k2 e.symm
  have k5:¬ B.fb = cb:=fun e=>k1 e.symm
  have k6:¬ B.ob = B.fb:=fun e=>k3 e.symm
  have k7:¬ B.ab = cb:=h2.ca.ne tcb (by decide)
  have k8:¬ B.ab = B.fb:=h2.ca.ne h2.cf.tag (by decide)
  have k9:¬ B.ab = B.ob:=h2.ca.ne h2.co.tag (by decide)
  have k10:¬ B.xb = cb:=h2.cx.ne tcb (by decide)
  have k11:¬ B.xb = B.fb:=h2.cx.ne h2.cf.tag (by decide)
  have hfl:=rSp.flat_length x.calls
  simp only [rSp_sz] at hfl hco2
  have l1:k * 10 + 2 < (rSp.flat x.calls).length:=by omega
  have s1:(rSp.flat x.calls).set (k * 10 + 2) (.int .i64 (x.clock + 1)) = rSp.flat (x.calls.modify k fun z=>{ z with to:=x.clock + 1 }):=by
   rw [set_overw _ _ _ l1,modify_set _ _ _ hkl]
   exact RowE.flat_part rSp x.calls hkl _ (f:=2) (by simp [overw]) (by simp)
  have hst:x.steps (arN n lim) c = { x with s:=(p.step (arN n lim) x.s).2,k:=upN x.k c .idle,clock:=x.clock + 1,o:=upN x.o c (-1),calls:=x.calls.modify (x.o c).toNat fun z=>{ z with to:=x.clock + 1 } }:=by
   unfold CA.steps; rw [hk]; simp only; rw [if_pos hov]
  have post:∀ fc oc:List Value,fc = [if 0 = c then .pointer none else pF B x 0,if 1 = c then .pointer none else pF B x 1,if 2 = c then .pointer none else pF B x 2] → oc = [.int .i64 (upN x.o c (-1) 0),.int .i64 (upN x.o c (-1) 1),.int .i64 (upN x.o c (-1) 2)] →
    CrPost own G n lim B (x.steps (arN n lim) c) (.bool true) (.bool true,(((G36.room 22).put cb ⟨rSp.flat (x.calls.modify k fun z=>{ z with to:=x.clock + 1 }),10,op2,1⟩).put B.fb ⟨fc,1,false,1⟩).put B.ob ⟨oc,1,false,1⟩):=fun fc oc hfc hoc=>by
   generalize hG9:GS.put _ B.ob _ = G9
   have m9:ModT [2,4,14,16] own2 G36 G9:=by
    rw [← hG9]
    refine ModT.put (ModT.put (ModT.put (ModP.room (ModT.refl _ _ _) _) (.inl ?_) _) (.inl ?_) _) (.inl ?_) _
    ·rw [tcb]; decide
    ·rw [h2.cf.tag]; decide
    ·rw [h2.co.tag]; decide
   have fin:=h2.fin hc (G':=G9) (calls':=x.calls.modify k fun z=>{ z with to:=x.clock + 1 }) m9 (by
    have e2:=h2.ca.obj
    rw [← hG9]
    simp [k7,k8,k9]
    rw [e2]
    simp only [pA_end]) (by rw [← hG9]; simp [k3]; rw [hfc]; simp only [pF_end]) (by rw [← hG9]; simp; rw [hoc]) ⟨by rw [rSp.flat_length],.inr ⟨cb,op2,by rw [hcv]; simp,Nat.zero_le _,Nat.lt_of_lt_of_le hcb2 m9.nx,by rw [← hG9]; simp [k1,k2]⟩⟩
   refine ⟨rfl,own2,B,rfl,rfl,ag2,ModT.trans mm2 ag2 (ModT.mono (us:=crT) m9 (by decide)),?_⟩
   rw [hst]
   simp only [upN_up] at fin
   have hto:(x.o c).toNat = k:=by rw [ho]; rfl
   rw [hto]
   exact fin
  have eX:crX n lim { x with clock:=x.clock + 1 } B = [.int .i64 0,.int .i64 1,.int .i64 n,.int .i64 (1 + n),.int .i64 (1 + 2 * n),.int .i64 lim,P0 B.m,.slice (some ⟨B.ab,0,none⟩) 3 3,.slice (some ⟨B.fb,0,none⟩) 3 3,B.hv,.slice (some ⟨B.bb,0,none⟩) 3 3,B.cv,.slice (some ⟨B.ob,0,none⟩) 3 3,.int .i64 (x.clock + 1)]:=rfl
  have hox2':G36.obj B.xb = some ⟨crX n lim { x with clock:=x.clock + 1 } B,1,false,1⟩:=hox2
  have hoo2':G36.obj B.ob = some ⟨[.int .i64 (x.o 0),.int .i64 (x.o 1),.int .i64 (x.o 2)],1,false,1⟩:=hoo2
  have hof2':∃ f0 f1 f2,G36.obj B.fb = some ⟨[f0,f1,f2],1,false,1⟩ ∧ (0 ≠ c → f0 = pF B x 0) ∧ (1 ≠ c → f1 = pF B x 1) ∧ (2 ≠ c → f2 = pF B x 2):=⟨_,_,_,hof2,fun q=>pF_other q,fun q=>pF_other q,fun q=>pF_other q⟩
  obtain ⟨f0,f1,f2,hof2',g0,g1,g2⟩:=hof2'
  rw [eX,hcv] at hGt hox2'
  refine Wp.ref (f83 (exL_ok Q orc) _ _ G) ?_
  rcases (show c = 0 ∨ c = 1 ∨ c = 2 by omega) with rfl | rfl | rfl
  ·rw [g1 (by decide),g2 (by decide)] at hof2'
   simp [-Int.natCast_add,-overw_s,s83,hox,hoo,hof,crX,ho,hw,hcv,hk0,hkn,hk1,hkl,hfb,nob,nfb,← hGt,hof1,hoo1,e36,hox2',hoo2',hof2',hco2,k1,k2,k3,k4,k5,k6,k10,k11,l1,s1]
   refine post _ _ ?_ ?_
   ·simp
   ·simp [upN]
  ·rw [g0 (by decide),g2 (by decide)] at hof2'
   simp [-Int.natCast_add,-overw_s,s83,hox,hoo,hof,crX,ho,hw,hcv,hk0,hkn,hk1,hkl,hfb,nob,nfb,← hGt,hof1,hoo1,e36,hox2',hoo2',hof2',hco2,k1,k2,k3,k4,k5,k6,k10,k11,l1,s1]
   refine post _ _ ?_ ?_
   ·simp
   ·simp [upN]
  ·rw [g0 (by decide),g1 (by decide)] at hof2'
   simp [-Int.natCast_add,-overw_s,s83,hox,hoo,hof,crX,ho,hw,hcv,hk0,hkn,hk1,hkl,hfb,nob,nfb,← hGt,hof1,hoo1,e36,hox2',hoo2',hof2',hco2,k1,k2,k3,k4,k5,k6,k10,k11,l1,s1]
   refine post _ _ ?_ ?_
   ·simp
   ·simp [upN]
 ·have hov':(p.step (arN n lim) x.s).1.over = false:=by simpa using hov
  rw [hov'] at e36
  have hst:x.steps (arN n lim) c = { x with s:=(p.step (arN n lim) x.s).2,k:=upN x.k c (.fe (p.step (arN n lim) x.s).1),clock:=x.clock + 1 }:=by
   unfold CA.steps; rw [hk]; simp only; rw [if_neg hov]
  rw [hst]
  refine ⟨(.bool true,G36),f83 (exL_ok Q orc) _ _ G _ ?_,rfl,own2,B,rfl,rfl,ag2,mm2,h2⟩
  have eX:crX n lim { x with clock:=x.clock + 1 } B = [.int .i64 0,.int .i64 1,.int .i64 n,.int .i64 (1 + n),.int .i64 (1 + 2 * n),.int .i64 lim,P0 B.m,.slice (some ⟨B.ab,0,none⟩) 3 3,.slice (some ⟨B.fb,0,none⟩) 3 3,B.hv,.slice (some ⟨B.bb,0,none⟩) 3 3,B.cv,.slice (some ⟨B.ob,0,none⟩) 3 3,.int .i64 (x.clock + 1)]:=rfl
  rw [eX,hcv] at hGt
  rcases (show c = 0 ∨ c = 1 ∨ c = 2 by omega) with rfl | rfl | rfl <;> simp [-Int.natCast_add,s83,hox,hoo,hof,crX,ho,hw,hcv,hk0,hkn,hk1,hkl,hfb,nob,nfb,← hGt,hof1,hoo1,e36]
end
end Go.Proofs.YtlaojmcekeohnaaGreatDoor.Lift
set_option linter.unusedVariables false
set_option linter.unusedSimpArgs false
set_option maxRecDepth 20000
namespace Go.Proofs.YtlaojmcekeohnaaGreatDoor.Lift
open Go Go.Proofs.YtlaojmcekeohnaaGreatDoor.Gh Go.Proofs
section
variable {own own' own1:Nat → Nat} {G G' G1:GS} {b d t c K:Nat} {n lim T:Int} {F:List Int} {ts:List Nat} {cs:List Value} {x y:CA} {B B':CrB} {v:Value} {A:Ar} {y0:CoS} {s':MS}
theorem ref_word {i g:Int} (hi:0 ≤ i ∧ i < 8) (hg:1 ≤ g ∧ g ≤ 1000):refOk (wordT i g) ∧ refV (wordT i g) = [.int .i64 i,.int .i64 g,.bool false] ∧ U (wordT i g):=by
 have h1:wordT i g % 65536 = i + 1:=by unfold wordT; omega
 have h2:wordT i g / 65536 % 4294967296 = g:=by unfold wordT; omega
 have h3:¬ (9223372036854775808:Int) ≤ wordT i g:=by unfold wordT; omega
 have hr:refOk (wordT i g):=by
  unfold refOk
  rw [h1,h2,decide_eq_false h3]
  exact ⟨by omega,by unfold wordT mkI; simp⟩
 refine ⟨hr,?_,by unfold wordT U; omega⟩
 unfold refV
 rw [if_pos hr,h1,h2,decide_eq_false h3]
 congr 2
 omega
theorem CrG.hold (h:CrG own G n lim x B) (m:ModT [1,3] own G G') {hv':Value} {held':List Int} (ox:G'.obj B.xb = some ⟨crX n lim x { B with hv:=hv' },1,false,1⟩) (w:OwR (rowsI .u64) G.nx G' hv' held'):CrG (grown own G 3) G' n lim { x with held:=held' } { B with hv:=hv' }:=by
 have a:Agr own (grown own G 3) G:=grown_agr
 have nx:=m.nx
 have hlt:=h.cx.lt
 refine ⟨⟨Nat.lt_of_lt_of_le hlt nx,(a _ hlt).trans h.cx.tag,ox⟩,h.ca.to m (by decide) a,h.cf.to m (by decide) a,h.ck.to m (by decide) a,h.co.to m (by decide) a,h.hm.mt m (by decide) a,w.mono (Nat.zero_le _),fun g hg=>grown_new (w.from hg),OwR.to h.hc h.tc m (by decide),fun g hg=>(a g (h.hc.is.under g hg)).trans (h.tc g hg),fun j hj=>(h.cr j hj).to m (by simp; omega) a⟩
theorem look_lp (orc:FuncId → Bool) (hrf:orc 218 = false) {A:GS} {xb rb:Nat} {cl:List Value} {hv:Value} {held:List Int} {j g0:Int} (hxb:xb < A.nx) (ox:A.obj xb = some ⟨cl,1,false,1⟩) (hcl:cl[9]? = some hv) (hrb:rb < A.nx) (or:A.obj rb = some ⟨[.int .i64 j,.int .i64 g0,.bool false],1,false,1⟩)
  (hv':SlR (rowsI .u64) A hv held) (hall:∀ w ∈ held,∃ i g,w = wordT i g ∧ 0 ≤ i ∧ i < 8 ∧ 1 ≤ g ∧ g ≤ 1000) (hne:∀ w ∈ held,ixW w ≠ j) (hlen:held.length ≤ 100000) {v5 v6 v9:Value} :
  ∀ (k i:Nat) (τ:Env) (G:GS),i + k = held.length → Ext A G → τ 0 = P0 xb → τ 5 = v5 → τ 6 = v6 → τ 8 = P0 rb → τ 9 = v9 → τ 10 = .int .i64 i →
  Wp ((exL Q orc).lpx 83 0 τ G) fun q=>q.1 = .exit 0 ∧ Ext A q.2.2 ∧ q.2.1 0 = P0 xb ∧ q.2.1 5 = v5 ∧ q.2.1 6 = v6 ∧ q.2.1 8 = P0 rb ∧ q.2.1 9 = v9:=by
 have lh:∀ t,ln Q true t hv = some (.int .i64 held.length):=fun t=>by obtain ⟨a,c,h⟩:=hv'.len; rw [h]; simp
 intro k
 induction k with
 | zero =>
  intro i τ G hi hx t0 t5 t6 t8 t9 t10
  have o:=(hx.obj xb hxb).trans ox
  have hin:¬ (i:Int) < held.length:=by omega
  refine Wp.lp (l83_0 (exL_ok Q orc)) ?_
  simp [-Int.natCast_add,b83_0,clip_t,t0,t8,t10,o,hcl,lh,hin]
  exact ⟨hx,t5,t6,t9⟩
 | succ k ih =>
  intro i τ G hi hx t0 t5 t6 t8 t9 t10
  have o:=(hx.obj xb hxb).trans ox
  have hin:(i:Int) < held.length:=by omega
  have hin':i < held.length:=by omega
  have hi0:(0:Int) ≤ i:=by omega
  have hw:IntKind.wrap .i64 ((i:Int) + 1) = ((i + 1:Nat):Int):=wrap64 (by omega) (by omega)
  obtain ⟨b,of,c,e0,_,q0,_⟩:=(hv'.ext hx).at hin'
  have hc:=q0 0 (by decide)
  simp [rowsI] at hc
  obtain ⟨i1,g1,hwd,j0,j1,g2,g3⟩:=hall _ (List.getElem_mem hin')
  have hnj:=hne _ (List.getElem_mem hin')
  rw [hwd,ixW_word ⟨j0,j1⟩] at hnj
  rw [hwd] at hc
  obtain ⟨r1,r2,r3⟩:=ref_word ⟨j0,j1⟩ ⟨g2,g3⟩
  obtain ⟨G2,e2,x2⟩:=getref_ok orc hrf r3 G
  rw [r2,if_pos r1] at e2
  have hz:z260 = [.int .i64 0,.int .i64 0,.bool false]:=rfl
  obtain ⟨G3,hG3⟩:∃ G3,G3 = (G2.push ⟨z260,1,false,1⟩).put G2.nx ⟨[.int .i64 i1,.int .i64 g1,.bool false],1,false,1⟩:=⟨_,rfl⟩
  have x3:Ext G2 G3:=by rw [hG3]; exact ((Ext.refl _).push _).put (Nat.le_refl _) _
  have p3:G3.obj G2.nx = some ⟨[.int .i64 i1,.int .i64 g1,.bool false],1,false,1⟩:=by rw [hG3]; simp
  have or3:=((hx.trans (x2.trans x3)).obj rb hrb).trans or
  rw [hz] at hG3
  refine Wp.lp (l83_0 (exL_ok Q orc)) ?_
  simp [-Int.natCast_add,b83_0,clip_t,t0,t8,t10,o,hcl,lh,hin,e0,hi0,hc,e2,hz,splice_put,splice_end,splice_succ,← hG3,p3,or3,hnj,hw]
  refine ih (i + 1) _ G3 (by omega) (hx.trans (x2.trans x3)) (by simp [clip_t]) (by simp [clip_t,t5]) (by simp [clip_t,t6]) (by simp [clip_t]) (by simp [clip_t,t9]) (by simp [clip_t])
end
end Go.Proofs.YtlaojmcekeohnaaGreatDoor.Lift
set_option linter.unusedVariables false
set_option linter.unusedSimpArgs false
set_option maxRecDepth 20000
namespace Go.Proofs.YtlaojmcekeohnaaGreatDoor.Lift
open Go Go.Proofs.YtlaojmcekeohnaaGreatDoor.Gh Go.Proofs
section
variable {own own' own1:Nat → Nat} {G G' G1:GS} {b d t c K:Nat} {n lim T:Int} {F:List Int} {ts:List Nat} {cs:List Value} {x y:CA} {B B':CrB} {v:Value} {A:Ar} {y0:CoS} {s':MS}
theorem pA_al {B:CrB} {x:CA} {c j:Nat} {p q:AlS} {s:MS} {cl:Int} (h:x.k c = .al p):pA B { x with s:=s,k:=upN x.k c (.al q),clock:=cl } j = pA B x j:=by unfold pA; by_cases e:j = c <;> simp [upN,e,h]
theorem CrG.recall (h:CrG own G n lim x B) (m:ModT [4] own G G') {calls':List Sp} (oc:OwR rSp 0 G' B.cv calls'):CrG own G' n lim { x with calls:=calls' } B:=by
 have a:=Agr.refl own G
 exact ⟨h.cx.to m (by decide) a,h.ca.to m (by decide) a,h.cf.to m (by decide) a,h.ck.to m (by decide) a,h.co.to m (by decide) a,h.hm.mt m (by decide) a,OwR.to h.hq h.tq m (by decide),h.tq,oc,h.tc,fun j hj=>(h.cr j hj).to m (by simp; omega) a⟩
theorem steps_al (orc:FuncId → Bool) (hto:orc 270 = false) (hrf:orc 218 = false) (h:CrG own G n lim x B) (hI:InvA n lim K x F T) (hK:K ≤ 100000) (hc:c < 3) {p:AlS} (hk:x.k c = .al p):Wp ((E orc).cl 83 [P0 B.xb,.int .i64 c] G) (CrPost own G n lim B (x.steps (arN n lim) c) (.bool true)):=by
 have hA:=arN_ok hI.ri.n1 hI.ri.lm
 have hn:=hI.ri.n1
 have hck:=hI.ck
 have hcl:=hI.cl
 have hok:=hI.ri.ok c hc
 rw [hk] at hok
 obtain ⟨q1,q2⟩:0 ≤ x.o c ∧ x.o c < x.calls.length:=by
  rcases hI.op c hc with ⟨q,_⟩ | ⟨_,_,q⟩
  ·rw [hk] at q; cases q
  ·exact q
 obtain ⟨k,ho⟩:=Int.eq_ofNat_of_zero_le q1
 have hkl:k < x.calls.length:=by omega
 have hw:IntKind.wrap .i64 (x.clock + 1) = x.clock + 1:=wrap64 (by omega) (by omega)
 obtain ⟨Gt,hGt⟩:∃ Gt,Gt = ((G.put B.xb ⟨crX n lim { x with clock:=x.clock + 1 } B,1,false,1⟩).room 13).room 13:=⟨_,rfl⟩
 obtain ⟨h1,m1,n1⟩:=h.tick 26 (G1:=Gt) (by rw [hGt]; rfl)
 have hcr:=h1.cr c hc
 simp only [hk] at hcr
 obtain ⟨htw,hfr⟩:=hcr
 obtain ⟨own2,G36,e36,w36,r36⟩:=alloc_ok orc hto hrf h1.hm hI.sk hA htw.lb htw.ld (by rw [htw.tb]; omega) (by rw [htw.td]; omega) htw.ne hok hfr
 have htw2:=htw.to w36.nx w36.stp.agr
 obtain ⟨h2,m2⟩:=h1.run hc htw (y0:=.al (p.step (arN n lim) x.s).1) w36 (by simp [pA,upN,hk]) (by simp [pF,upN,hk]) ⟨htw2,r36⟩
 have ag2:Agr own own2 G:=grown_agr.trans w36.stp.agr m1.nx
 have mm2:ModT crT own G G36:=ModT.trans (ModT.mono (us:=crT) m1 (by decide)) grown_agr (ModT.mono (us:=crT) m2 (up5 hc))
 have hox:=h.cx.obj
 have hoo:=h.co.obj
 have hof:=h.cf.obj
 have hfb:pF B x c = .pointer none:=pF_al hk
 have hab:pA B x c = P0 (B.b c):=by unfold pA; rw [hk]
 have hof1:Gt.obj B.fb = some ⟨[pF B x 0,pF B x 1,pF B x 2],1,false,1⟩:=h1.cf.obj
 have hoa1:Gt.obj B.ab = some ⟨[pA B x 0,pA B x 1,pA B x 2],1,false,1⟩:=h1.ca.obj
 have hoo1:Gt.obj B.ob = some ⟨[.int .i64 (x.o 0),.int .i64 (x.o 1),.int .i64 (x.o 2)],1,false,1⟩:=h1.co.obj
 have hox1:Gt.obj B.xb = some ⟨crX n lim { x with clock:=x.clock + 1 } B,1,false,1⟩:=h1.cx.obj
 have n36:=w36.nx
 rcases h.hc.2 with ⟨_,h0⟩ | ⟨cb,op,hcv,_,hcb,hco⟩
 ·omega
 have hk0:(0:Int) ≤ k:=by omega
 have hkn:¬ (k:Int) < 0:=by omega
 have hk1:(k:Int) < x.calls.length:=by omega
 have nxb:∀ {b' t'},own b' = t' → t' ≠ 1 → ¬ b' = B.xb:=fun k hn e=>hn (by rw [← k,e]; exact h.cx.tag)
 have nob:=nxb h.co.tag (by decide)
 have nfb:=nxb h.cf.tag (by decide)
 have eX:crX n lim { x with clock:=x.clock + 1 } B = [.int .i64 0,.int .i64 1,.int .i64 n,.int .i64 (1 + n),.int .i64 (1 + 2 * n),.int .i64 lim,P0 B.m,.slice (some ⟨B.ab,0,none⟩) 3 3,.slice (some ⟨B.fb,0,none⟩) 3 3,B.hv,.slice (some ⟨B.bb,0,none⟩) 3 3,B.cv,.slice (some ⟨B.ob,0,none⟩) 3 3,.int .i64 (x.clock + 1)]:=rfl
 by_cases hov:(p.step (arN n lim) x.s).1.over = true
 ·rw [hov] at e36
  have hd:∃ g e,(p.step (arN n lim) x.s).1 = .done g e:=by
   cases hq:(p.step (arN n lim) x.s).1 <;> first | exact ⟨_,_,rfl⟩ | (rw [hq] at hov; cases hov)
  obtain ⟨g,er,hd⟩:=hd
  obtain ⟨tz,tn⟩:=hI.told (by omega) hc hk hd
  have htl:(p.step (arN n lim) x.s).1.told = (g,er):=by rw [hd]; rfl
  obtain ⟨G72,e72,x72⟩:=allocref_ok orc r36
  rw [htl] at e72
  simp only at e72
  have h3:=h2.ext x72
  obtain ⟨own3,hown3⟩:∃ own3,own3 = grown own2 G36 13:=⟨_,rfl⟩
  rw [← hown3] at h3
  have ag3:Agr own own3 G:=ag2.trans (by rw [hown3]; exact grown_agr) mm2.nx
  have mm3:ModT crT own G G72:=mm2.trans ag2 (ModT.ext x72)
  have hox3:G72.obj B.xb = some ⟨crX n lim { x with clock:=x.clock + 1 } B,1,false,1⟩:=h3.cx.obj
  have hoo3:G72.obj B.ob = some ⟨[.int .i64 (x.o 0),.int .i64 (x.o 1),.int .i64 (x.o 2)],1,false,1⟩:=h3.co.obj
  have hoa3:G72.obj B.ab = some ⟨[pA B x 0,pA B x 1,pA B x 2],1,false,1⟩:=by have:=h3.ca.obj; rw [pA_al hk,pA_al hk,pA_al hk] at this; exact this
  have hoa2:G36.obj B.ab = some ⟨[pA B x 0,pA B x 1,pA B x 2],1,false,1⟩:=by have:=h2.ca.obj; rw [pA_al hk,pA_al hk,pA_al hk] at this; exact this
  have hox2:G36.obj B.xb = some ⟨crX n lim { x with clock:=x.clock + 1 } B,1,false,1⟩:=h2.cx.obj
  obtain ⟨hfl3,⟨_,h0⟩ | ⟨cb2,op2,hcv2,_,hcb3,hco3⟩⟩:=h3.hc
  ·have:x.calls.length = 0:=h0
   omega
  have hcc:cb2 = cb:=by
   have e:=hcv2
   rw [hcv] at e
   injection e with e1
   injection e1 with e2
   injection e2 with e3
   exact e3.symm
  rw [hcc] at hco3 hcb3
  have tcb:own3 cb = 4:=h3.tc cb ⟨_,_,_,hcv,rfl⟩
  have k1:¬ cb = B.fb:=fun e=>h3.cf.ne tcb (by decide) e.symm
  have k2:¬ cb = B.ob:=fun e=>h3.co.ne tcb (by decide) e.symm
  have k3:¬ B.fb = B.ob:=h3.cf.ne h3.co.tag (by decide)
  have k4:¬ B.ob = cb:=fun e=>k2 e.symm
  have k5:¬ B.fb = cb:=fun e=>k1 e.symm
  have k6:¬ B.ob = B.ab:=h3.co.ne h3.ca.tag (by decide)
  have k7:¬ B.ab = cb:=h3.ca.ne tcb (by decide)
  have k8:¬ B.fb = B.ab:=h3.cf.ne h3.ca.tag (by decide)
  have k9:¬ B.ab = B.ob:=h3.ca.ne h3.co.tag (by decide)
  have k10:¬ B.xb = cb:=h3.cx.ne tcb (by decide)
  have k11:¬ B.xb = B.ab:=h3.cx.ne h3.ca.tag (by decide)
  have k12:¬ cb = B.ab:=fun e=>k7 e.symm
  have k13:¬ B.xb = B.ob:=h3.cx.ne h3.co.tag (by decide)
  have hfl:=rSp.flat_length x.calls
  simp only [rSp_sz] at hfl hco3
  obtain ⟨L1,hL1⟩:∃ L1,L1 = x.calls.modify k fun z=>{ z with to:=x.clock + 1 }:=⟨_,rfl⟩
  obtain ⟨L2,hL2⟩:∃ L2,L2 = x.calls.modify k fun z=>{ z with to:=x.clock + 1,an:=(er,z.an.2.1,z.an.2.2) }:=⟨_,rfl⟩
  obtain ⟨L3,hL3⟩:∃ L3,L3 = x.calls.modify k fun z=>{ z with to:=x.clock + 1,an:=(er,ixW g,z.an.2.2) }:=⟨_,rfl⟩
  have ln1:L1.length = x.calls.length:=by rw [hL1]; simp
  have ln2:L2.length = x.calls.length:=by rw [hL2]; simp
  have ln3:L3.length = x.calls.length:=by rw [hL3]; simp
  have f1:=rSp.flat_length L1
  have f2:=rSp.flat_length L2
  simp only [rSp_sz] at f1 f2
  have l1:k * 10 + 2 < (rSp.flat x.calls).length:=by omega
  have l2:k * 10 + 7 < (rSp.flat L1).length:=by omega
  have l3:k * 10 + 8 < (rSp.flat L2).length:=by omega
  have s1:(rSp.flat x.calls).set (k * 10 + 2) (.int .i64 (x.clock + 1)) = rSp.flat L1:=by
   rw [set_overw _ _ _ l1,hL1,modify_set _ _ _ hkl]
   exact RowE.flat_part rSp x.calls hkl _ (f:=2) (by simp [overw]) (by simp)
  have s2:(rSp.flat L1).set (k * 10 + 7) (.int .i64 er) = rSp.flat L2:=by
   rw [set_overw _ _ _ l2,hL1,hL2,modify_set _ _ _ hkl,modify_set _ _ _ hkl]
   have:=RowE.flat_part rSp (x.calls.set k { x.calls[k] with to:=x.clock + 1 }) (i:=k) (by simpa using hkl) { x.calls[k] with to:=x.clock + 1,an:=(er,x.calls[k].an.2.1,x.calls[k].an.2.2) } (f:=7) (ds:=[.int .i64 er]) (by simp [overw]) (by simp)
   simpa using this
  have s3:(rSp.flat L2).set (k * 10 + 8) (.int .i64 (ixW g)) = rSp.flat L3:=by
   rw [set_overw _ _ _ l3,hL2,hL3,modify_set _ _ _ hkl,modify_set _ _ _ hkl]
   have:=RowE.flat_part rSp (x.calls.set k { x.calls[k] with to:=x.clock + 1,an:=(er,x.calls[k].an.2.1,x.calls[k].an.2.2) }) (i:=k) (by simpa using hkl) { x.calls[k] with to:=x.clock + 1,an:=(er,ixW g,x.calls[k].an.2.2) } (f:=8) (ds:=[.int .i64 (ixW g)]) (by simp [overw]) (by simp)
   simpa using this
  obtain ⟨ac,hac⟩:∃ ac:List Value,ac = [if 0 = c then .pointer none else pA B x 0,if 1 = c then .pointer none else pA B x 1,if 2 = c then .pointer none else pA B x 2]:=⟨_,rfl⟩
  obtain ⟨oc,hoc⟩:∃ oc:List Value,oc = [.int .i64 (upN x.o c (-1) 0),.int .i64 (upN x.o c (-1) 1),.int .i64 (upN x.o c (-1) 2)]:=⟨_,rfl⟩
  obtain ⟨G94,hG94⟩:∃ G94,G94 = ((((G72.room 22).put cb ⟨rSp.flat L1,10,op2,1⟩).put B.ab ⟨ac,1,false,1⟩).put B.ob ⟨oc,1,false,1⟩).put cb ⟨rSp.flat L2,10,op2,1⟩:=⟨_,rfl⟩
  have m9:ModT [2,4,14,16] own3 G72 G94:=by
   rw [hG94]
   refine ModT.put (ModT.put (ModT.put (ModT.put (ModP.room (ModT.refl _ _ _) _) (.inl ?_) _) (.inl ?_) _) (.inl ?_) _) (.inl ?_) _
   ·rw [tcb]; decide
   ·rw [h3.ca.tag]; decide
   ·rw [h3.co.tag]; decide
   ·rw [tcb]; decide
  have o94:G94.obj cb = some ⟨rSp.flat L2,10,op2,1⟩:=by rw [hG94]; simp
  have h4:=h3.fin hc (G':=G94) (calls':=L2) m9 (by rw [hG94]; simp [k7,k9]; rw [hac]; simp only [pA_endA]) (by
   have e2:=h3.cf.obj
   rw [hG94]
   simp [k5,k8,k3]
   rw [e2]
   simp only [pF_endA]) (by rw [hG94]; simp [k4]; rw [hoc]) ⟨by rw [rSp.flat_length],.inr ⟨cb,op2,by rw [hcv,ln2],Nat.zero_le _,Nat.lt_of_lt_of_le hcb3 m9.nx,o94⟩⟩
  have hst:x.steps (arN n lim) c = { x with s:=(p.step (arN n lim) x.s).2,k:=upN x.k c .idle,clock:=x.clock + 1,o:=upN x.o c (-1),calls:=x.calls.modify k fun z=>{ z with to:=x.clock + 1,an:=(er,if er = 0 then ixW g else z.an.2.1,z.an.2.2) },held:=if er = 0 then x.held ++ [g] else x.held }:=by
   have hto:(x.o c).toNat = k:=by rw [ho]; rfl
   unfold CA.steps; rw [hk]; simp only; rw [if_pos hov,htl,hto]
  simp only [upN_up] at h4
  have mm4:ModT crT own G G94:=mm3.trans ag3 (ModT.mono (us:=crT) m9 (by decide))
  rw [eX,hcv] at hGt hox1 hox2 hox3
  by_cases he:er = 0
  ·obtain ⟨tz1,i1,g1,hg,j0,j1,j2,j3⟩:=tz he
   have hix:ixW g = i1:=by rw [hg]; exact ixW_word ⟨j0,by omega⟩
   obtain ⟨r1,r2,r3⟩:=ref_word (i:=i1) (g:=g1) ⟨j0,by omega⟩ ⟨j2,j3⟩
   rw [← hg] at r1 r2 r3
   obtain ⟨G111,e111,x111⟩:=getref_ok orc hrf r3 G94
   rw [r2,if_pos r1] at e111
   have hz:z260 = [.int .i64 0,.int .i64 0,.bool false]:=rfl
   obtain ⟨G116,hG116⟩:∃ G116,G116 = (G111.push ⟨[.int .i64 0,.int .i64 0,.bool false],1,false,1⟩).put G111.nx ⟨overw [.int .i64 0,.int .i64 0,.bool false] 0 [.int .i64 i1,.int .i64 g1,.bool false],1,false,1⟩:=⟨_,rfl⟩
   have x116:Ext G111 G116:=by rw [hG116]; exact ((Ext.refl _).push _).put (Nat.le_refl _) _
   have y116:=x111.trans x116
   have p116:G116.obj G111.nx = some ⟨[.int .i64 i1,.int .i64 g1,.bool false],1,false,1⟩:=by rw [hG116]; simp
   have n116:G111.nx < G116.nx:=by rw [hG116]; simp
   have hox4:=h4.cx.obj
   have hlx:=h4.cx.lt
   have hox6:=(y116.obj _ hlx).trans hox4
   have lp:=fun (τ:Env) (t0:τ 0 = P0 B.xb) (t5:τ 5 = .pointer (some ⟨cb,k * 10,none⟩)) (t6:τ 6 = .int .u64 g) (t8:τ 8 = P0 G111.nx) (t9:τ 9 = .int .i64 0) (t10:τ 10 = .int .i64 0) =>
    look_lp orc hrf (A:=G116) (Nat.lt_of_lt_of_le hlx y116.nx) hox6 (hv:=B.hv) rfl n116 p116 (h4.hq.is.ext y116) (fun w hw=>by obtain ⟨i,g',a1,a2,a3,a4,a5⟩:=hI.hw w hw; exact ⟨i,g',a1,a2,by omega,a4,a5⟩) (fun w hw=>by have:=tz1 w hw; rw [hix] at this; exact this) (by
     have q1:=hI.ri.ln; have q2:=hI.ri.w0
     have q3:0 ≤ lO x.k:=by unfold lO; omega
     have q4:0 ≤ wO x.k:=by unfold wO; have:=wc_nn (x.k 0); have:=wc_nn (x.k 1); have:=wc_nn (x.k 2); omega
     simp only [List.length_map] at q1
     show x.held.length ≤ 100000
     omega) (v5:=.pointer (some ⟨cb,k * 10,none⟩)) (v6:=.int .u64 g) (v9:=.int .i64 0) x.held.length 0 τ G116 (by simp) (Ext.refl _) t0 t5 t6 t8 t9 t10
   rw [he] at e72 hL2 hL3 s2 hst
   obtain ⟨X,hX⟩:∃ X:CA,X = { x with s:=(p.step (arN n lim) x.s).2,k:=upN x.k c .idle,clock:=x.clock + 1,o:=upN x.o c (-1),calls:=L3,held:=x.held ++ [g] }:=⟨_,rfl⟩
   have hXs:x.steps (arN n lim) c = X:=by
    rw [hst,hX,hL3]
    simp only [if_true]
   rw [hXs]
   have hXc:X.clock = x.clock + 1:=by rw [hX]
   refine Wp.ref (f83 (exL_ok Q orc) _ _ G) ?_
   rcases (show c = 0 ∨ c = 1 ∨ c = 2 by omega) with rfl | rfl | rfl
   all_goals
    simp at hac
    simp [upN] at hoc
    rw [hac,hoc] at hG94
    simp [-Int.natCast_add,-overw_s,s83,hox,hoo,hof,crX,ho,hw,hcv,hk0,hkn,hk1,hkl,hfb,hab,nob,nfb,← hGt,hox1,hof1,hoa1,hoo1,e36,hox2,hoa2,e72,hox3,hoo3,hoa3,hco3,k1,k2,k3,k4,k5,k6,k7,k8,k9,k10,k11,k12,k13,l1,l2,s1,s2,← hG94,e111,hz,splice_put,splice_end,splice_succ,← hG116]
    refine Wp.bE ((lp _ (by simp) (by simp) (by simp) (by simp) (by simp) (by simp)).mono ?_)
    rintro ⟨ex,τ,G119⟩ ⟨rfl,y119,t0,t5,t6,t8,t9⟩
    simp only at y119 t0 t5 t6 t8 t9
    have z119:=y116.trans y119
    have p119:=(y119.obj _ n116).trans p116
    have c119:=(z119.obj cb (Nat.lt_of_lt_of_le hcb3 m9.nx)).trans o94
    have x119:=(z119.obj _ hlx).trans hox4
    obtain ⟨G125,hG125⟩:∃ G125,G125 = G119.put cb ⟨rSp.flat L3,10,op2,1⟩:=⟨_,rfl⟩
    obtain ⟨R,hR⟩:∃ R,R = G125.push ⟨[.int .u64 g],1,false,1⟩:=⟨_,rfl⟩
    have nR:R.nx = G119.nx + 1:=by rw [hR,hG125]; rfl
    have n119:=z119.nx
    have l94:=Nat.lt_of_lt_of_le hcb3 m9.nx
    have mR:ModT [4] own3 G94 R:=by rw [hR,hG125]; exact ModP.push (ModT.put (ModT.ext z119) (.inl (by rw [tcb]; decide)) _) _
    have oR:R.obj cb = some ⟨rSp.flat L3,10,op2,1⟩:=by rw [hR,hG125]; simp; omega
    have h5:=h4.recall mR (calls':=L3) ⟨by rw [rSp.flat_length],.inr ⟨cb,op2,by rw [hcv,ln3],Nat.zero_le _,by omega,oR⟩⟩
    have x125:G125.obj B.xb = G119.obj B.xb:=by rw [hG125]; simp [k10]
    rw [x119] at x125
    have xR:=h5.cx.obj
    have pR:R.obj G111.nx = some ⟨[.int .i64 i1,.int .i64 g1,.bool false],1,false,1⟩:=by
     have q1:=x111.nx
     have q2:¬ G111.nx = cb:=by omega
     have q3:=y119.nx
     have q4:¬ G111.nx = G125.nx:=(by have:G125.nx = G119.nx:=(by rw [hG125]; rfl); omega)
     rw [hR,hG125]
     simp [q2]
     rw [hG125] at q4
     simp at q4
     simp [q4]
     exact p119
    obtain ⟨hv',G132,e132,m132,w132⟩:=h5.hq.app_mod (ib:=8) (x:=.slice (some ⟨G125.nx,0,none⟩) 1 1) (M:=[g]) (by decide) (by rw [hR]; exact SlR.one (rowsI .u64) G125 g) (by simp) (by
     have q1:=hI.ri.ln; have q2:=hI.ri.w0
     have q3:0 ≤ lO x.k:=by unfold lO; omega
     have q4:0 ≤ wO x.k:=by unfold wO; have:=wc_nn (x.k 0); have:=wc_nn (x.k 1); have:=wc_nn (x.k 2); omega
     simp only [List.length_map] at q1
     show (2 * (x.held.length + 1) + 1000) * 8 ≤ 2 ^ 48
     omega)
    simp only [rowsI_sz] at e132
    rw [hR] at e132
    have kx:¬ InB B.hv B.xb:=fun q=>by have q1:=h5.tq _ q; have q2:=h5.cx.tag; omega
    have kr:¬ InB B.hv G111.nx:=fun q=>by
     have q1:=h4.hq.is.under _ q
     have q2:=x111.nx
     omega
    have x132:=(m132.obj B.xb h5.cx.lt kx).trans xR
    have p132:=(m132.obj G111.nx (by have:=y119.nx; omega) kr).trans pR
    have one':=own_one w132
    have post:CrPost own G n lim B X (.bool true) (.bool true,(G132.put B.xb ⟨crX n lim X { B with hv:=hv' },1,false,1⟩).room 19):=by
     generalize hGf:(G132.put B.xb ⟨crX n lim X { B with hv:=hv' },1,false,1⟩).room 19 = Gf
     have mf:ModT [1,3] own3 R Gf:=by
      rw [← hGf]
      exact ModP.room (ModT.put (ModP.mono m132 fun g hg=>by show own3 g ∈ [1,3]; rw [h5.tq g hg]; decide) (.inl (by rw [h5.cx.tag]; decide)) _) _
     have h6:=h5.hold mf (hv':=hv') (held':=x.held ++ [g]) (by rw [← hGf,hX]; simp [crX]) ((w132.kept (by rw [← hGf]; simp) fun g hg=>by
      have q1:=w132.from hg
      have q2:=h5.cx.lt
      rw [← hGf]
      simp
      intro e
      omega).mono (Nat.le_refl _))
     rw [hX]
     exact ⟨rfl,grown own3 R 3,{ B with hv:=hv' },rfl,rfl,(ag3.trans (Agr.refl _ _) mm3.nx).trans grown_agr (Nat.le_trans (Nat.le_trans mm3.nx m9.nx) mR.nx),(mm4.trans ag3 (ModT.mono (us:=crT) mR (by decide))).trans ag3 (ModT.mono (us:=crT) mf (by decide)),h6⟩
    simp only [crX,hcv] at x125 x132 post
    have s3':=s3
    rw [hix] at s3'
    have hi8:i1 < n:=j1
    have krx:¬ G111.nx = B.xb:=by have:=x111.nx; omega
    simp [-Int.natCast_add,-overw_s,t0,t5,t6,t8,t9,p119,c119,l3,s3',← hG125,x125,e132,x132,p132,stO_one _ _ one',hi8,krx]
    simp [hXc,hcv] at post
    exact post
  ·obtain ⟨hg0,her⟩:=tn he
   rw [hst]
   simp only [he,if_false]
   rw [← hL2]
   refine Wp.ref (f83 (exL_ok Q orc) _ _ G) ?_
   have post:CrPost own G n lim B { x with s:=(p.step (arN n lim) x.s).2,k:=upN x.k c .idle,clock:=x.clock + 1,o:=upN x.o c (-1),calls:=L2,held:=x.held } (.bool true) (.bool true,G94):=⟨rfl,own3,B,rfl,rfl,ag3,mm4,h4⟩
   rcases (show c = 0 ∨ c = 1 ∨ c = 2 by omega) with rfl | rfl | rfl
   all_goals
    simp at hac
    simp [upN] at hoc
    rw [hac,hoc] at hG94
    simp [-Int.natCast_add,-overw_s,s83,hox,hoo,hof,crX,ho,hw,hcv,hk0,hkn,hk1,hkl,hfb,hab,nob,nfb,← hGt,hox1,hof1,hoa1,hoo1,e36,hox2,hoa2,e72,hox3,hoo3,hoa3,hco3,k1,k2,k3,k4,k5,k6,k7,k8,k9,k10,k11,k12,k13,l1,l2,s1,s2,← hG94,he,hg0]
    rcases her with rfl | rfl <;> simpa using post
 ·have hov':(p.step (arN n lim) x.s).1.over = false:=by simpa using hov
  rw [hov'] at e36
  have hst:x.steps (arN n lim) c = { x with s:=(p.step (arN n lim) x.s).2,k:=upN x.k c (.al (p.step (arN n lim) x.s).1),clock:=x.clock + 1 }:=by
   unfold CA.steps; rw [hk]; simp only; rw [if_neg hov]
  rw [hst]
  refine ⟨(.bool true,G36),f83 (exL_ok Q orc) _ _ G _ ?_,rfl,own2,B,rfl,rfl,ag2,mm2,h2⟩
  rw [eX,hcv] at hGt hox1
  rcases (show c = 0 ∨ c = 1 ∨ c = 2 by omega) with rfl | rfl | rfl <;> simp [-Int.natCast_add,s83,hox,hoo,hof,crX,ho,hw,hcv,hk0,hkn,hk1,hkl,hfb,hab,nob,nfb,← hGt,hox1,hof1,hoa1,hoo1,e36]
end
end Go.Proofs.YtlaojmcekeohnaaGreatDoor.Lift
set_option linter.unusedVariables false
set_option linter.unusedSimpArgs false
set_option maxRecDepth 20000
namespace Go.Proofs.YtlaojmcekeohnaaGreatDoor.Lift
open Go Go.Proofs.YtlaojmcekeohnaaGreatDoor.Gh Go.Proofs
section
variable {own own' own1:Nat → Nat} {G G' G1 G2 G3:GS} {b d t c K:Nat} {n lim T:Int} {F:List Int} {ts:List Nat} {cs:List Value} {x y:CA} {B B':CrB} {v:Value} {A:Ar} {y0:CoS} {s':MS}
theorem begins_J0 (orc:FuncId → Bool) (hx:Cel own G B.xb 1 (crX n lim x B)) (ho:Cel own G B.ob 16 [.int .i64 (x.o 0),.int .i64 (x.o 1),.int .i64 (x.o 2)]) (hc:OwR rSp 0 G B.cv x.calls) (tc:∀ g,InB B.cv g → own g = 4) (hlen:x.calls.length ≤ 100000) {sb:Nat} (hsb:sb < G.nx) (tsb:own sb = 13) {a:Sp} (os:G.obj sb = some ⟨rSp.row a,1,false,1⟩) (hc3:c < 3) (τ:Env) (t0:τ 0 = P0 B.xb) (t1:τ 1 = .int .i64 c) (t8:τ 8 = P0 sb) :
  Wp (j82_0 true (exL Q orc) τ G) fun q=>q.1 = .tuple #[] ∧ ∃ cv',ModT [1,4,16] own G q.2 ∧ OwR rSp G.nx q.2 cv' (x.calls ++ [a]) ∧ q.2.obj B.xb = some ⟨crX n lim x { B with cv:=cv' },1,false,1⟩ ∧ q.2.obj B.ob = some ⟨[.int .i64 (upN x.o c x.calls.length 0),.int .i64 (upN x.o c x.calls.length 1),.int .i64 (upN x.o c x.calls.length 2)],1,false,1⟩:=by
 obtain ⟨ca,cc,hcv⟩:=hc.is.len
 have lc:∀ t,ln Q true t B.cv = some (.int .i64 x.calls.length):=fun t=>by rw [hcv]; simp
 have n3:¬ B.xb = B.ob:=hx.ne ho.tag (by decide)
 have n3':¬ B.ob = B.xb:=fun e=>n3 e.symm
 have n4:¬ sb = B.ob:=fun e=>by have:=ho.tag; rw [← e,tsb] at this; cases this
 obtain ⟨o3,ho3⟩:∃ o3:List Value,o3 = [.int .i64 (upN x.o c x.calls.length 0),.int .i64 (upN x.o c x.calls.length 1),.int .i64 (upN x.o c x.calls.length 2)]:=⟨_,rfl⟩
 rw [← ho3]
 obtain ⟨G26,hG26⟩:∃ G26,G26 = (G.room 12).put B.ob ⟨o3,1,false,1⟩:=⟨_,rfl⟩
 have n26:G26.nx = G.nx + 12:=by rw [hG26]; rfl
 obtain ⟨R,hR⟩:∃ R,R = G26.room 11:=⟨_,rfl⟩
 have nR:R.nx = G.nx + 23:=by rw [hR]; simp [n26]
 obtain ⟨G32,hG32⟩:∃ G32,G32 = ((R.at' (G26.nx + 6)).push ⟨rSp.row a,10,false,1⟩).back R:=⟨_,rfl⟩
 have n32:G32.nx = R.nx:=by rw [hG32]; rfl
 have sl:SlR rSp G32 (.slice (some ⟨G26.nx + 6,0,none⟩) 1 1) [a]:=by rw [hG32]; exact SlR.oneD rSp R a (n:=G26.nx + 6) (by omega)
 have m26:ModT [1,4,16] own G G26:=by rw [hG26]; exact ModT.put (ModP.room (ModT.refl _ _ _) 12) (.inl (by rw [ho.tag]; decide)) _
 have m32:ModT [1,4,16] own G G32:=by rw [hG32,hR]; exact ModP.drawn (ModP.room m26 11) (by omega) _
 have o32:∀ g,g < G.nx → g ≠ B.ob → G32.obj g = G.obj g:=fun g hg hn=>by
  have:¬ g = G26.nx + 6:=by omega
  rw [hG32,hR]
  simp [this]
  rw [hG26]
  simp [hn]
 have kc:∀ g,InB B.cv g → g < G.nx ∧ g ≠ B.ob:=fun g hg=>⟨hc.is.under g hg,fun e=>by have h1:=tc g hg; have h2:=ho.tag; rw [e] at h1; omega⟩
 have hc32:OwR rSp 0 G32 B.cv x.calls:=hc.kept m32.nx fun g hg=>o32 g (kc g hg).1 (kc g hg).2
 obtain ⟨cv',G33,e33,m33,w33⟩:=hc32.app_mod (ib:=80) (by decide) sl (by simp) (by simp; omega)
 have hcm:ModT [1,4,16] own G G33:=ModP.trans m32 (ModP.mono m33 fun g hg=>.inl (show own g ∈ [1,4,16] by rw [tc g hg]; decide))
 have kx:¬ InB B.cv B.xb:=fun h=>by have h1:=tc _ h; have h2:=hx.tag; omega
 have ko:¬ InB B.cv B.ob:=fun h=>(kc _ h).2 rfl
 have x32:=(o32 _ hx.lt n3).trans hx.obj
 have x33:=(m33.obj B.xb (by have:=hx.lt; omega) kx).trans x32
 have ob32:G32.obj B.ob = some ⟨o3,1,false,1⟩:=by
  have:¬ B.ob = G26.nx + 6:=by have:=ho.lt; omega
  rw [hG32,hR]
  simp [this]
  rw [hG26]
  simp
 have ob33:=(m33.obj B.ob (by have:=ho.lt; omega) ko).trans ob32
 have hz:z29 = [.int .i64 0,.int .i64 0,.int .i64 0,.int .i64 0,.int .i64 0,.int .i64 0,.int .u64 0,.int .i64 0,.int .i64 0,.int .u64 0]:=rfl
 have xR:G26.obj B.xb = some ⟨crX n lim x B,1,false,1⟩:=by rw [hG26]; simp [n3,hx.obj]
 have sR:G26.obj sb = some ⟨rSp.row a,1,false,1⟩:=by rw [hG26]; simp [n4]; simpa using os
 have one':=own_one w33
 have fin:ModT [1,4,16] own G (G33.put B.xb ⟨crX n lim x { B with cv:=cv' },1,false,1⟩) ∧ OwR rSp G.nx (G33.put B.xb ⟨crX n lim x { B with cv:=cv' },1,false,1⟩) cv' (x.calls ++ [a]) ∧ (G33.put B.xb ⟨crX n lim x { B with cv:=cv' },1,false,1⟩).obj B.xb = some ⟨crX n lim x { B with cv:=cv' },1,false,1⟩ ∧ (G33.put B.xb ⟨crX n lim x { B with cv:=cv' },1,false,1⟩).obj B.ob = some ⟨o3,1,false,1⟩:=by
  refine ⟨ModT.put hcm (.inl (by rw [hx.tag]; decide)) _,(w33.kept (by simp) fun g hg=>?_).mono (by omega),by simp,by simp [n3',ob33]⟩
  have h1:=w33.from hg
  have h2:=hx.lt
  rw [obj_put,if_neg (by omega)]
 refine Wp.mono (Q:=fun q=>q = (.tuple #[],G33.put B.xb ⟨crX n lim x { B with cv:=cv' },1,false,1⟩)) ?_ (fun q hq=>by subst hq; exact ⟨rfl,cv',fin⟩)
 clear fin
 simp only [rSp_sz] at e33
 rw [hG32] at e33
 simp only [crX] at x33 xR ⊢
 have hxo:=hx.obj
 simp only [crX] at hxo
 simp only [rSp_row] at sR e33
 have hoo:=ho.obj
 rcases (show c = 0 ∨ c = 1 ∨ c = 2 by omega) with rfl | rfl | rfl
 all_goals
  simp [upN] at ho3
  simp [j82_0,jb82_0,t0,t1,t8,hxo,hoo,lc,← ho3,← hG26]
  simp [← hR,xR,sR,hz,e33,x33,stO_one _ _ one']
theorem CrG.laid (orc:FuncId → Bool) (h:CrG own G n lim x B) (hlen:x.calls.length ≤ 100000) {sb:Nat} (hsb:sb < G.nx) (tsb:own sb = 13) {a:Sp} (os:G.obj sb = some ⟨rSp.row a,1,false,1⟩) (hc3:c < 3) (τ:Env) (t0:τ 0 = P0 B.xb) (t1:τ 1 = .int .i64 c) (t8:τ 8 = P0 sb) :
  Wp (j82_0 true (exL Q orc) τ G) fun q=>q.1 = .tuple #[] ∧ ModT [1,4,16] own G q.2 ∧ ∃ cv',CrG (grown own G 4) q.2 n lim { x with o:=upN x.o c x.calls.length,calls:=x.calls ++ [a] } { B with cv:=cv' }:=by
 refine Wp.mono (begins_J0 orc h.cx h.co h.hc h.tc hlen hsb tsb os hc3 τ t0 t1 t8) ?_
 rintro ⟨r,H⟩ ⟨rfl,cv',m,w,ox,oo⟩
 simp only at m w ox oo
 have ag:Agr own (grown own G 4) G:=grown_agr
 have nx:=m.nx
 have hlt:=h.cx.lt
 exact ⟨rfl,m,cv',⟨⟨Nat.lt_of_lt_of_le hlt nx,(ag _ hlt).trans h.cx.tag,ox⟩,h.ca.to m (by decide) ag,h.cf.to m (by decide) ag,h.ck.to m (by decide) ag,⟨Nat.lt_of_lt_of_le h.co.lt nx,(ag _ h.co.lt).trans h.co.tag,oo⟩,h.hm.mt m (by decide) ag,OwR.to h.hq h.tq m (by decide),fun g hg=>(ag g (h.hq.is.under g hg)).trans (h.tq g hg),w.mono (Nat.zero_le _),fun g hg=>grown_new (w.from hg),fun j hj=>(h.cr j hj).to m (by simp; omega) ag⟩⟩
theorem CrG.startA (h:CrG own G n lim x B) (hc:c < 3) (hk:x.k c = .idle) {p:AlS} (e:Ext G G2) (a:Agr own own1 G) (tw:Two own1 G2 b d (5 + c)) (r:AlR (arN n lim) G2 b d p) (hab:own1 B.ab = 2) (hG3:G3 = G2.put B.ab ⟨[if 0 = c then P0 b else pA B x 0,if 1 = c then P0 b else pA B x 1,if 2 = c then P0 b else pA B x 2],1,false,1⟩) :
  CrG own1 G3 n lim { x with k:=upN x.k c (.al p) } { B with b:=upN B.b c b,d:=upN B.d c d } ∧ ModT [2] own G G3:=by
 have m:ModT [2] own G G3:=by rw [hG3]; exact ModT.put (ModT.ext e) (.inl (by rw [h.ca.tag]; decide)) _
 have nx:=m.nx
 have pa:∀ j,pA { B with b:=upN B.b c b,d:=upN B.d c d } { x with k:=upN x.k c (.al p) } j = if j = c then P0 b else pA B x j:=fun j=>by
  unfold pA; by_cases q:j = c <;> simp [upN,q]
 have pf:∀ j,pF { B with b:=upN B.b c b,d:=upN B.d c d } { x with k:=upN x.k c (.al p) } j = pF B x j:=fun j=>by
  unfold pF; by_cases q:j = c <;> simp [upN,q,hk]
 refine ⟨⟨h.cx.to m (by decide) a,⟨Nat.lt_of_lt_of_le h.ca.lt nx,hab,by rw [pa,pa,pa]; rw [hG3]; simp⟩,by rw [pf,pf,pf]; exact h.cf.to m (by decide) a,h.ck.to m (by decide) a,h.co.to m (by decide) a,h.hm.mt m (by decide) a,OwR.to h.hq h.tq m (by decide),fun g hg=>(a g (h.hq.is.under g hg)).trans (h.tq g hg),OwR.to h.hc h.tc m (by decide),fun g hg=>(a g (h.hc.is.under g hg)).trans (h.tc g hg),fun j hj=>?_⟩,m⟩
 show CoG own1 G3 _ (upN B.b c b j) (upN B.d c d j) _ (upN x.k c _ j)
 by_cases q:j = c
 ·rw [q,upN_same,upN_same,upN_same]
  have q1:b ≠ B.ab:=fun e=>by have:=tw.tb; rw [e,hab] at this; omega
  have q2:d ≠ B.ab:=fun e=>by have:=tw.td; rw [e,hab] at this; omega
  exact ⟨tw.to (by rw [hG3]; simp) (Agr.refl _ _),r.kept (by rw [hG3,obj_put,if_neg q1]) (by rw [hG3,obj_put,if_neg q2])⟩
 ·rw [upN_ne _ _ q,upN_ne _ _ q,upN_ne _ _ q]
  exact (h.cr j hj).to m (by simp; omega) a
theorem CrG.startF (h:CrG own G n lim x B) (hc:c < 3) (hk:x.k c = .idle) {p:FeS} (e:Ext G G2) (a:Agr own own1 G) (tw:Two own1 G2 b d (5 + c)) (r:FeR (arN n lim) G2 b d p) (hab:own1 B.fb = 14) (hG3:G3 = G2.put B.fb ⟨[if 0 = c then P0 b else pF B x 0,if 1 = c then P0 b else pF B x 1,if 2 = c then P0 b else pF B x 2],1,false,1⟩) :
  CrG own1 G3 n lim { x with k:=upN x.k c (.fe p) } { B with b:=upN B.b c b,d:=upN B.d c d } ∧ ModT [14] own G G3:=by
 have m:ModT [14] own G G3:=by rw [hG3]; exact ModT.put (ModT.ext e) (.inl (by rw [h.cf.tag]; decide)) _
 have nx:=m.nx
 have pf:∀ j,pF { B with b:=upN B.b c b,d:=upN B.d c d } { x with k:=upN x.k c (.fe p) } j = if j = c then P0 b else pF B x j:=fun j=>by
  unfold pF; by_cases q:j = c <;> simp [upN,q]
 have pa:∀ j,pA { B with b:=upN B.b c b,d:=upN B.d c d } { x with k:=upN x.k c (.fe p) } j = pA B x j:=fun j=>by
  unfold pA; by_cases q:j = c <;> simp [upN,q,hk]
 refine ⟨⟨h.cx.to m (by decide) a,by rw [pa,pa,pa]; exact h.ca.to m (by decide) a,⟨Nat.lt_of_lt_of_le h.cf.lt nx,hab,by rw [pf,pf,pf]; rw [hG3]; simp⟩,h.ck.to m (by decide) a,h.co.to m (by decide) a,h.hm.mt m (by decide) a,OwR.to h.hq h.tq m (by decide),fun g hg=>(a g (h.hq.is.under g hg)).trans (h.tq g hg),OwR.to h.hc h.tc m (by decide),fun g hg=>(a g (h.hc.is.under g hg)).trans (h.tc g hg),fun j hj=>?_⟩,m⟩
 show CoG own1 G3 _ (upN B.b c b j) (upN B.d c d j) _ (upN x.k c _ j)
 by_cases q:j = c
 ·rw [q,upN_same,upN_same,upN_same]
  have q1:b ≠ B.fb:=fun e=>by have:=tw.tb; rw [e,hab] at this; omega
  have q2:d ≠ B.fb:=fun e=>by have:=tw.td; rw [e,hab] at this; omega
  exact ⟨tw.to (by rw [hG3]; simp) (Agr.refl _ _),r.kept (by rw [hG3,obj_put,if_neg q1]) (by rw [hG3,obj_put,if_neg q2])⟩
 ·rw [upN_ne _ _ q,upN_ne _ _ q,upN_ne _ _ q]
  exact (h.cr j hj).to m (by simp; omega) a
end
end Go.Proofs.YtlaojmcekeohnaaGreatDoor.Lift
set_option linter.unusedVariables false
set_option linter.unusedSimpArgs false
set_option maxRecDepth 20000
namespace Go.Proofs.YtlaojmcekeohnaaGreatDoor.Lift
open Go Go.Proofs.YtlaojmcekeohnaaGreatDoor.Gh Go.Proofs
section
variable {own own' own1:Nat → Nat} {G G' G1 G2 G3:GS} {b d t c K:Nat} {n lim T:Int} {F:List Int} {ts:List Nat} {cs:List Value} {x y:CA} {B B':CrB} {v:Value} {A:Ar} {y0:CoS} {s':MS}
theorem begins_al (orc:FuncId → Bool) (h:CrG own G n lim x B) (hI:InvA n lim K x F T) (hK:K ≤ 100000) (hc:c < 3) (hk:x.k c = .idle) (v3:Value):Wp ((E orc).cl 82 [P0 B.xb,.int .i64 c,.bool false,v3] G) (CrPost own G n lim B (x.beginA c) (.tuple #[])):=by
 have hck:=hI.ck
 have hcl:=hI.cl
 have hw:IntKind.wrap .i64 (x.clock + 1) = x.clock + 1:=wrap64 (by omega) (by omega)
 obtain ⟨cca,ccc,hcv⟩:=h.hc.is.len
 have lc:∀ t,ln Q true t B.cv = some (.int .i64 x.calls.length):=fun t=>by rw [hcv]; simp
 obtain ⟨R,hR⟩:∃ R,R = (G.put B.xb ⟨crX n lim { x with clock:=x.clock + 1 } B,1,false,1⟩).room 13:=⟨_,rfl⟩
 obtain ⟨h1,m1,n1⟩:=h.tick 13 hR
 obtain ⟨a,ha⟩:∃ a:Sp,a = ⟨x.calls.length,x.clock + 1,-1,(7,0,0,0),(0,0,0)⟩:=⟨_,rfl⟩
 have hz:z29 = [.int .i64 0,.int .i64 0,.int .i64 0,.int .i64 0,.int .i64 0,.int .i64 0,.int .u64 0,.int .i64 0,.int .i64 0,.int .u64 0]:=rfl
 have hz5:z24 = [.int .i64 0,.int .i64 0,.int .i64 0,.int .u64 0]:=rfl
 obtain ⟨G18,hG18⟩:∃ G18,G18 = (((R.at' (G.nx + 11)).push ⟨z29,1,false,1⟩).back R).put (G.nx + 11) ⟨rSp.row a,1,false,1⟩:=⟨_,rfl⟩
 have n18:G18.nx = R.nx:=by rw [hG18]; rfl
 have x18:∀ g,g < G.nx → G18.obj g = R.obj g:=fun g hg=>by
  rw [hG18,obj_put,if_neg (by omega),obj_back,obj_push,nx_at,if_neg (by omega),obj_at]
 have s18:G18.obj (G.nx + 11) = some ⟨rSp.row a,1,false,1⟩:=by rw [hG18]; simp
 have t11:grown own G 13 (G.nx + 11) = 13:=grown_new (by omega)
 have m18:ModT [13] (grown own G 13) R G18:=by
  refine ⟨by rw [n18]; exact Nat.le_refl _,fun g hg hn=>?_,by rw [hG18]; exact Nat.le_refl _,fun l hl=>by rw [hG18]; simp⟩
  by_cases e:g = G.nx + 11
  ·exact absurd (show grown own G 13 g ∈ [13] by rw [e,t11]; decide) hn
  ·rw [hG18,obj_put,if_neg e,obj_back,obj_push,nx_at,if_neg e,obj_at]
 have mm18:ModT [1] own G G18:=⟨by rw [n18]; exact m1.nx,fun g hg hn=>(x18 g hg).trans (m1.obj g hg hn),by rw [hG18]; exact m1.nl,fun l hl=>by rw [hG18]; simp; exact m1.loop l hl⟩
 have h18:=h1.to m18 (Agr.refl _ _) (by decide)
 obtain ⟨b,d,G108,e108,x108,b0,b1,d0,d1,bd,r⟩:=newalloc_ok orc (arN n lim) (G18.room 12)
 have b0':G18.nx ≤ b:=Nat.le_trans (Nat.le_add_right _ _) b0
 have d0':G18.nx ≤ d:=Nat.le_trans (Nat.le_add_right _ _) d0
 have y108:Ext G18 G108:=((Ext.refl G18).room 12).trans x108
 have ag:Agr (grown own G 13) (grown (grown own G 13) G18 (5 + c)) G18:=grown_agr
 have tw:Two (grown (grown own G 13) G18 (5 + c)) G108 b d (5 + c):=⟨b1,d1,grown_new b0',grown_new d0',bd⟩
 have k18:=h18.ca.lt
 obtain ⟨G3,hG3⟩:∃ G3,G3 = G108.put B.ab ⟨[if 0 = c then P0 b else pA B x 0,if 1 = c then P0 b else pA B x 1,if 2 = c then P0 b else pA B x 2],1,false,1⟩:=⟨_,rfl⟩
 obtain ⟨h3,m3⟩:=h18.startA hc hk y108 ag tw r ((ag _ k18).trans h18.ca.tag) hG3
 have s3:G3.obj (G.nx + 11) = some ⟨rSp.row a,1,false,1⟩:=by
  rw [hG3,obj_put,if_neg (fun e=>by have:=h.ca.lt; omega),y108.obj _ (by omega),s18]
 have l3:=fun (τ:Env) t0 t1 t8=>h3.laid orc (show x.calls.length ≤ 100000 by omega) (sb:=G.nx + 11) (by have:=m3.nx; omega) ((ag _ (by omega)).trans t11) s3 hc τ t0 t1 t8
 refine Wp.ref (f82 (exL_ok Q orc) _ _ _ _ G) ?_
 have post:∀ τ:Env,τ 0 = P0 B.xb → τ 1 = .int .i64 c → τ 8 = P0 (G.nx + 11) → Wp (j82_0 true (exL Q orc) τ G3) (CrPost own G n lim B (x.beginA c) (.tuple #[])):=fun τ t0 t1 t8=>by
  refine Wp.mono (l3 τ t0 t1 t8) ?_
  rintro ⟨rv,H⟩ ⟨rfl,mH,cv',hH⟩
  have ag2:Agr own (grown (grown own G 13) G18 (5 + c)) G:=grown_agr.trans ag mm18.nx
  exact ⟨rfl,_,{ B with b:=upN B.b c b,d:=upN B.d c d,cv:=cv' },rfl,rfl,ag2.trans grown_agr (Nat.le_trans mm18.nx m3.nx),((ModT.mono (us:=crT) mm18 (by decide)).trans grown_agr (ModT.mono (us:=crT) m3 (by decide))).trans ag2 (ModT.mono (us:=crT) mH (by decide)),by simpa [CA.beginA,ha] using hH⟩
 have hox:=h.cx.obj
 have hoo:=h.co.obj
 have hA:(arN n lim).v = .agg #[.int .i64 0,.int .i64 1,.int .i64 n,.int .i64 (1 + n),.int .i64 (1 + 2 * n),.int .i64 lim]:=rfl
 rw [hA] at e108
 have hox1:=h18.cx.obj
 have hoa1:=h18.ca.obj
 have hox2:=(y108.obj B.xb h18.cx.lt).trans hox1
 have hoa2:=(y108.obj B.ab k18).trans hoa1
 simp only [crX] at hox hox1 hR hox2
 simp only [hz,rSp_row,ha] at hG18
 have pa:∀ j,pA B { x with clock:=x.clock + 1 } j = pA B x j:=fun _=>rfl
 simp only [pa] at hoa2
 clear s18 t11 m18 mm18 h18 l3 h1 m1 h3 m3 s3
 rcases (show c = 0 ∨ c = 1 ∨ c = 2 by omega) with rfl | rfl | rfl
 all_goals
  simp at hG3
  simp [s82,sb82,hox,hw,← hR,lc,hz5,hz,← hG18,hox1,e108,hox2,hoa2,← hG3]
  refine post _ (by simp [clip_t]) (by simp [clip_t]) (by simp [clip_t])
end
end Go.Proofs.YtlaojmcekeohnaaGreatDoor.Lift
set_option linter.unusedVariables false
set_option linter.unusedSimpArgs false
set_option maxRecDepth 20000
namespace Go.Proofs.YtlaojmcekeohnaaGreatDoor.Lift
open Go Go.Proofs.YtlaojmcekeohnaaGreatDoor.Gh Go.Proofs
theorem pick_ok (orc:FuncId → Bool) (x n:Int) (hn:0 < n) (hn2:n < 2 ^ 40) (G:GS):(E orc).cl 19 [.int .i64 x,.int .i64 n] G = some (.int .i64 (x % n),G):=by
 refine f19 (exL_ok Q orc) _ _ G _ ?_
 have h1:=Int.emod_nonneg x (show n ≠ 0 by omega)
 have h2:=Int.emod_lt_of_pos x hn
 have ht:=@Int.tmod_eq_emod x n
 have hn0:¬ n ≤ 0:=by omega
 have hn1:¬ n = 0:=by omega
 have hw:IntKind.wrap .i64 (x % n) = x % n:=wrap64 (by omega) (by omega)
 by_cases hx:x.tmod n < 0
 ·have e:x.tmod n + n = x % n:=by split at ht <;> omega
  simp [s19,clip_t,hx,e,hw,hn0,hn1]
 ·have e:x.tmod n = x % n:=by split at ht <;> omega
  have hx':¬ x % n < 0:=by omega
  simp [s19,clip_t,e,hx',hn0,hn1]
theorem slK_ext {G G':GS} (x:Ext G G') {s:Nat} {v v':Value} {lo hi m:Option Value} (hv:∀ a n c,v = .slice (some a) n c → a.block < G.nx) (h:slK s v lo hi m G = some v'):slK s v lo hi m G' = some v':=by
 unfold slK at h ⊢
 split at h
 ·exact h
 ·rename_i a n c
  simp only [x.obj _ (hv a n c rfl)]
  exact h
 ·cases h
theorem erased {G R:GS} {v:Value} {L:List Int} (h:OwR (rowsI .u64) 0 G v L) {i:Nat} (hi:i < L.length) (hl:L.length ≤ 100000) (hR:R = (((G.room 20).at' (G.nx + 1)).push ⟨[],1,false,1⟩).back (G.room 20)) :
  ∃ v1 v2 v3 v4 G1 G2,slK 1 v none (some (.int .i64 i)) none R = some v1 ∧ appK 1 8 (.slice (some ⟨G.nx + 1,0,none⟩) 0 0) v1 R = some (v2,G1) ∧ slK 1 v (some (.int .i64 ((i:Int) + 1))) none none R = some v3 ∧ slK 1 v (some (.int .i64 ((i:Int) + 1))) none none G1 = some v3 ∧ appK 1 8 v2 v3 G1 = some (v4,G2) ∧ Ext G R ∧ Ext G G1 ∧ Ext G G2 ∧ sameO (some v3) v3 = true ∧ OwR (rowsI .u64) G.nx G2 v4 (L.eraseIdx i):=by
 obtain ⟨v1,e1,s1⟩:=(h.is.take (k:=.i64) (o:=i) (by omega)).1
 obtain ⟨v3,e3,s3⟩:=h.is.drop (k:=.i64) (o:=i + 1) (by omega)
 have A1:Ext (G.room 1) R:=by
  rw [hR]
  exact Ext.drawn (⟨by simp,fun g hg=>rfl,Nat.le_refl _,fun l hl=>rfl⟩:Ext (G.room 1) (G.room 20)) (by simp) (by simp) _
 have A0:Ext G (G.room 1):=(Ext.refl G).room 1
 have lv:=h.is.lt
 have ho:OwR (rowsI .u64) (G.room 1).nx R (.slice (some ⟨G.nx + 1,0,none⟩) 0 0) []:=by
  rw [hR]
  exact ⟨by simp [RowE.flat],.inr ⟨G.nx + 1,false,rfl,by simp,by simp,by simp [RowE.flat]⟩⟩
 have r1:=(s1.ext A0).ext A1
 obtain ⟨v2,G1,e2,x1,o1⟩:=ho.app (ib:=8) (by decide) A1 r1 (by simp; omega)
 have r3:=(s3.ext A0).ext x1
 obtain ⟨v4,G2,e4,x2,o2⟩:=o1.app (ib:=8) (by decide) x1 r3 (by simp; omega)
 refine ⟨v1,v2,v3,v4,G1,G2,slK_ext (A0.trans A1) lv e1,e2,slK_ext (A0.trans A1) lv (by simpa using e3),slK_ext (A0.trans x1) lv (by simpa using e3),e4,A0.trans A1,A0.trans x1,A0.trans x2,same_slr r3,?_⟩
 rw [List.eraseIdx_eq_take_drop_succ]
 simpa using o2.mono (B':=G.nx) (by simp)
section
variable {own own' own1:Nat → Nat} {G G' G1 G2 G3:GS} {b d t c K:Nat} {n lim T:Int} {F:List Int} {ts:List Nat} {cs:List Value} {x y:CA} {B B':CrB} {v:Value} {A:Ar} {y0:CoS} {s':MS}
theorem CrG.backs (h:CrG own G n lim x B) (hc:c < 3) (w:Int) (hG:G1 = G.put B.bb ⟨[.int .u64 (upN x.back c w 0),.int .u64 (upN x.back c w 1),.int .u64 (upN x.back c w 2)],1,false,1⟩):CrG own G1 n lim { x with back:=upN x.back c w } B ∧ ModT [15] own G G1:=by
 have m:ModT [15] own G G1:=by rw [hG]; exact ModT.put (ModT.refl _ _ _) (.inl (by rw [h.ck.tag]; decide)) _
 have a:=Agr.refl own G
 refine ⟨⟨h.cx.to m (by decide) a,h.ca.to m (by decide) a,h.cf.to m (by decide) a,⟨Nat.lt_of_lt_of_le h.ck.lt m.nx,h.ck.tag,by rw [hG]; simp⟩,h.co.to m (by decide) a,h.hm.mt m (by decide) a,OwR.to h.hq h.tq m (by decide),h.tq,OwR.to h.hc h.tc m (by decide),h.tc,fun j hj=>(h.cr j hj).to m (by simp; omega) a⟩,m⟩
end
end Go.Proofs.YtlaojmcekeohnaaGreatDoor.Lift
set_option linter.unusedVariables false
set_option linter.unusedSimpArgs false
set_option maxRecDepth 20000
namespace Go.Proofs.YtlaojmcekeohnaaGreatDoor.Lift
open Go Go.Proofs.YtlaojmcekeohnaaGreatDoor.Gh Go.Proofs
section
variable {own own' own1:Nat → Nat} {G G' G1 G2 G3:GS} {b d t c K:Nat} {n lim T:Int} {F:List Int} {ts:List Nat} {cs:List Value} {x y:CA} {B B':CrB} {v:Value} {A:Ar} {y0:CoS} {s':MS}
theorem begins_fr (orc:FuncId → Bool) (hrf:orc 218 = false) (h:CrG own G n lim x B) (hI:InvA n lim K x F T) (hK:K ≤ 100000) (hc:c < 3) (hk:x.k c = .idle) (w:Int) (hl:0 < x.held.length):Wp ((E orc).cl 82 [P0 B.xb,.int .i64 c,.bool true,.int .i64 w] G) (CrPost own G n lim B (x.beginF c (w % x.held.length).toNat) (.tuple #[])):=by
 have hck:=hI.ck
 have hcl:=hI.cl
 have hn1:=hI.ri.n1
 have hw:IntKind.wrap .i64 (x.clock + 1) = x.clock + 1:=wrap64 (by omega) (by omega)
 obtain ⟨cca,ccc,hcv⟩:=h.hc.is.len
 have lc:∀ t,ln Q true t B.cv = some (.int .i64 x.calls.length):=fun t=>by rw [hcv]; simp
 obtain ⟨i,hi⟩:∃ i:Nat,w % x.held.length = i:=⟨(w % x.held.length).toNat,by have:=Int.emod_nonneg w (show (x.held.length:Int) ≠ 0 by omega); omega⟩
 have hiL:i < x.held.length:=by have:=Int.emod_lt_of_pos w (show (0:Int) < x.held.length by omega); omega
 have hlen:x.held.length ≤ 8:=by
  have q1:=hI.ri.ln; have q2:=hI.ri.w0
  have q3:0 ≤ lO x.k:=by unfold lO; omega
  have q4:0 ≤ wO x.k:=by unfold wO; have:=wc_nn (x.k 0); have:=wc_nn (x.k 1); have:=wc_nn (x.k 2); omega
  simp only [List.length_map] at q1
  omega
 have epk:=pick_ok orc w x.held.length (by omega) (by omega)
 rw [hi] at epk
 rw [hi,Int.toNat_natCast]
 obtain ⟨R,hR⟩:∃ R,R = (G.put B.xb ⟨crX n lim { x with clock:=x.clock + 1 } B,1,false,1⟩).room 13:=⟨_,rfl⟩
 obtain ⟨h1,m1,n1⟩:=h.tick 13 hR
 have hz:z29 = [.int .i64 0,.int .i64 0,.int .i64 0,.int .i64 0,.int .i64 0,.int .i64 0,.int .u64 0,.int .i64 0,.int .i64 0,.int .u64 0]:=rfl
 have hz5:z24 = [.int .i64 0,.int .i64 0,.int .i64 0,.int .u64 0]:=rfl
 have hz6:z260 = [.int .i64 0,.int .i64 0,.bool false]:=rfl
 obtain ⟨a,ha⟩:∃ a:Sp,a = ⟨x.calls.length,x.clock + 1,-1,(7,0,0,0),(0,0,0)⟩:=⟨_,rfl⟩
 obtain ⟨G18,hG18⟩:∃ G18,G18 = (((R.at' (G.nx + 11)).push ⟨z29,1,false,1⟩).back R).put (G.nx + 11) ⟨rSp.row a,1,false,1⟩:=⟨_,rfl⟩
 have n18:G18.nx = R.nx:=by rw [hG18]; rfl
 have x18:∀ g,g < G.nx → G18.obj g = R.obj g:=fun g hg=>by
  rw [hG18,obj_put,if_neg (by omega),obj_back,obj_push,nx_at,if_neg (by omega),obj_at]
 have s18:G18.obj (G.nx + 11) = some ⟨rSp.row a,1,false,1⟩:=by rw [hG18]; simp
 have t11:grown own G 13 (G.nx + 11) = 13:=grown_new (by omega)
 have m18:ModT [13] (grown own G 13) R G18:=by
  refine ⟨by rw [n18]; exact Nat.le_refl _,fun g hg hn=>?_,by rw [hG18]; exact Nat.le_refl _,fun l hl=>by rw [hG18]; simp⟩
  by_cases e:g = G.nx + 11
  ·exact absurd (show grown own G 13 g ∈ [13] by rw [e,t11]; decide) hn
  ·rw [hG18,obj_put,if_neg e,obj_back,obj_push,nx_at,if_neg e,obj_at]
 have mm18:ModT [1] own G G18:=⟨by rw [n18]; exact m1.nx,fun g hg hn=>(x18 g hg).trans (m1.obj g hg hn),by rw [hG18]; exact m1.nl,fun l hl=>by rw [hG18]; simp; exact m1.loop l hl⟩
 have h18:=h1.to m18 (Agr.refl _ _) (by decide)
 obtain ⟨j,g,hj,j0,j1,g0,g1⟩:=hI.hw _ (List.getElem_mem hiL)
 have hgd:x.held.getD i 0 = x.held[i]:=by rw [List.getD_eq_getElem?_getD,List.getElem?_eq_getElem hiL]; rfl
 obtain ⟨r1,r2,r3⟩:=ref_word (i:=j) (g:=g) ⟨j0,by omega⟩ ⟨g0,g1⟩
 have hix:ixW (x.held.getD i 0) = j:=by rw [hgd,hj]; exact ixW_word ⟨j0,by omega⟩
 obtain ⟨G54,hG54⟩:∃ G54,G54 = (G18.room 14).put B.bb ⟨[.int .u64 (upN x.back c (wordT j g) 0),.int .u64 (upN x.back c (wordT j g) 1),.int .u64 (upN x.back c (wordT j g) 2)],1,false,1⟩:=⟨_,rfl⟩
 have h18':=h18.to (ModT.ext (ts:=[]) ((Ext.refl G18).room 14)) (Agr.refl _ _) (by simp)
 obtain ⟨h54,m54⟩:=h18'.backs hc (wordT j g) hG54
 have n54:G54.nx = G18.nx + 14:=by rw [hG54]; rfl
 obtain ⟨R1,hR1⟩:∃ R1,R1 = (((G54.room 20).at' (G54.nx + 1)).push ⟨[],1,false,1⟩).back (G54.room 20):=⟨_,rfl⟩
 obtain ⟨v1,v2,v3,v4,G61,G68,e1,e2,e3,e3',e4,xR1,x61,x68,sm3,o68⟩:=erased h54.hq hiL (by have:x.held.length ≤ 8:=hlen; show x.held.length ≤ 100000; omega) hR1
 obtain ⟨G72,hG72⟩:∃ G72,G72 = G68.put B.xb ⟨crX n lim { x with clock:=x.clock + 1,back:=upN x.back c (wordT j g) } { B with hv:=v4 },1,false,1⟩:=⟨_,rfl⟩
 have n72:G72.nx = G68.nx:=by rw [hG72]; rfl
 have m72:ModT [1,3] (grown own G 13) G54 G72:=by rw [hG72]; exact ModT.put (ModT.ext x68) (.inl (by rw [h54.cx.tag]; decide)) _
 have h72:=h54.hold m72 (hv':=v4) (held':=x.held.eraseIdx i) (by rw [hG72]; simp [crX]) (o68.kept (by rw [n72]; exact Nat.le_refl _) fun q hq=>by
  have q1:=o68.from hq
  have q2:=h54.cx.lt
  rw [hG72,obj_put,if_neg (by omega)])
 obtain ⟨own2,hown2⟩:∃ own2,own2 = grown (grown own G 13) G54 3:=⟨_,rfl⟩
 rw [← hown2] at h72
 have ag2:Agr (grown own G 13) own2 G54:=by rw [hown2]; exact grown_agr
 obtain ⟨G79,e79,x79⟩:=getref_ok orc hrf r3 G72
 rw [r2,if_pos r1] at e79
 obtain ⟨G84,hG84⟩:∃ G84,G84 = (G79.push ⟨z260,1,false,1⟩).put G79.nx ⟨[.int .i64 j,.int .i64 g,.bool false],1,false,1⟩:=⟨_,rfl⟩
 have n84:G84.nx = G79.nx + 1:=by rw [hG84]; rfl
 have x84:Ext G79 G84:=by rw [hG84]; exact ((Ext.refl _).push _).put (Nat.le_refl _) _
 have p84:G84.obj G79.nx = some ⟨[.int .i64 j,.int .i64 g,.bool false],1,false,1⟩:=by rw [hG84]; simp
 obtain ⟨b,d,G93,e93,x93,b0,b1,d0,d1,bd,r⟩:=newfree_ok orc (arN n lim) j (G84.room 14)
 have hfe:newFe (arN n lim) j = .looks j:=by unfold newFe; rw [if_neg (by show ¬ (j < 0 ∨ n ≤ j); omega)]
 rw [hfe] at r
 have n79:=x79.nx
 have b0':G72.nx ≤ b:=by simp at b0; omega
 have d0':G72.nx ≤ d:=by simp at d0; omega
 have y93:Ext G84 G93:=((Ext.refl G84).room 14).trans x93
 have z93:Ext G72 G93:=x79.trans (x84.trans y93)
 have ag3:Agr own2 (grown own2 G72 (5 + c)) G72:=grown_agr
 have tw:Two (grown own2 G72 (5 + c)) G93 b d (5 + c):=⟨b1,d1,grown_new b0',grown_new d0',bd⟩
 have kfb:=h72.cf.lt
 obtain ⟨G96,hG96⟩:∃ G96,G96 = G93.put B.fb ⟨[if 0 = c then P0 b else pF B x 0,if 1 = c then P0 b else pF B x 1,if 2 = c then P0 b else pF B x 2],1,false,1⟩:=⟨_,rfl⟩
 obtain ⟨h96,m96⟩:=h72.startF hc hk z93 ag3 tw r ((ag3 _ kfb).trans h72.cf.tag) hG96
 obtain ⟨a',ha'⟩:∃ a:Sp,a = ⟨x.calls.length,x.clock + 1,-1,(8,j,0,0),(0,0,0)⟩:=⟨_,rfl⟩
 obtain ⟨G101,hG101⟩:∃ G101,G101 = G96.put (G.nx + 11) ⟨rSp.row a',1,false,1⟩:=⟨_,rfl⟩
 have n96:=m96.nx
 have n68:=x68.nx
 have agA:Agr (grown own G 13) own2 G18:=fun q hq=>ag2 q (by omega)
 have agB:Agr (grown own G 13) (grown own2 G72 (5 + c)) G18:=agA.trans ag3 (by omega)
 have ts:grown own2 G72 (5 + c) (G.nx + 11) = 13:=(agB _ (by omega)).trans t11
 have m101:ModT [13] (grown own2 G72 (5 + c)) G96 G101:=by rw [hG101]; exact ModT.put (ModT.refl _ _ _) (.inl (by rw [ts]; decide)) _
 have h101:=h96.to m101 (Agr.refl _ _) (by decide)
 have n101:=m101.nx
 have l101:=fun (τ:Env) t0 t1 t8=>h101.laid orc (show x.calls.length ≤ 100000 by omega) (sb:=G.nx + 11) (by omega) ts (a:=a') (by rw [hG101]; simp) hc τ t0 t1 t8
 have post:∀ τ:Env,τ 0 = P0 B.xb → τ 1 = .int .i64 c → τ 8 = P0 (G.nx + 11) → Wp (j82_0 true (exL Q orc) τ G101) (CrPost own G n lim B (x.beginF c i) (.tuple #[])):=fun τ t0 t1 t8=>by
  refine Wp.mono (l101 τ t0 t1 t8) ?_
  rintro ⟨rv,H⟩ ⟨rfl,mH,cv',hH⟩
  have aG:Agr own (grown own2 G72 (5 + c)) G:=grown_agr.trans agB mm18.nx
  have M1:ModT crT own G G54:=(ModT.mono (us:=crT) mm18 (by decide)).trans grown_agr ((ModT.ext ((Ext.refl G18).room 14)).trans (Agr.refl _ _) (ModT.mono (us:=crT) m54 (by decide)))
  have M2:ModT crT own G G72:=M1.trans grown_agr (ModT.mono (us:=crT) m72 (by decide))
  have M3:ModT crT own G G96:=M2.trans (grown_agr.trans agA mm18.nx) (ModT.mono (us:=crT) m96 (by decide))
  have M4:ModT crT own G G101:=⟨Nat.le_trans M3.nx m101.nx,fun q hq hn=>by rw [hG101,obj_put,if_neg (by omega)]; exact M3.obj q hq hn,by rw [hG101]; exact M3.nl,fun l hl=>by rw [hG101]; exact M3.loop l hl⟩
  have hy:x.beginF c i = { x with clock:=x.clock + 1,back:=upN x.back c (wordT j g),held:=x.held.eraseIdx i,k:=upN x.k c (.fe (.looks j)),o:=upN x.o c x.calls.length,calls:=x.calls ++ [a'] }:=by
   unfold CA.beginF
   rw [hix,hgd,hj,ha']
  rw [hy]
  exact ⟨rfl,_,{ B with hv:=v4,b:=upN B.b c b,d:=upN B.d c d,cv:=cv' },rfl,rfl,aG.trans grown_agr (by omega),M4.trans aG (ModT.mono (us:=crT) mH (by decide)),hH⟩
 have hA:(arN n lim).v = .agg #[.int .i64 0,.int .i64 1,.int .i64 n,.int .i64 (1 + n),.int .i64 (1 + 2 * n),.int .i64 lim]:=rfl
 rw [hA] at e93
 rcases h18.hq.2 with ⟨_,h0⟩ | ⟨hb,op,hhv,_,hb0,hbo⟩
 ·have:x.held.length = 0:=h0
  omega
 have fl:((rowsI .u64).flat x.held)[i]? = some (.int .u64 (wordT j g)):=by
  have:=(rowsI .u64).flat_at x.held hiL (f:=0) (by decide)
  simp [rowsI,hj] at this
  simpa [rowsI] using this
 have hwi:IntKind.wrap .i64 ((i:Int) + 1) = (i:Int) + 1:=wrap64 (by omega) (by omega)
 have hil:(i:Int) < x.held.length:=by omega
 have hi0:(0:Int) ≤ i:=by omega
 have lh:∀ t,ln Q true t B.hv = some (.int .i64 x.held.length):=fun t=>by rw [hhv]; simp
 have ne1:¬ B.bb = B.xb:=fun e=>h.cx.ne (b':=B.bb) (t':=15) h.ck.tag (by decide) e.symm
 have ne2:¬ B.xb = B.bb:=fun e=>ne1 e.symm
 have nsx:¬ B.xb = G.nx + 11:=by have:=h.cx.lt; omega
 have nsb:¬ B.bb = G.nx + 11:=by have:=h.ck.lt; omega
 have hox:=h.cx.obj
 have ox18:=h18.cx.obj
 have ob18:=h18.ck.obj
 have ox54:=h54.cx.obj
 have ob54:=h54.ck.obj
 have oxR:=(xR1.obj _ h54.cx.lt).trans ox54
 have ox61:=(x61.obj _ h54.cx.lt).trans ox54
 have ox68:=(x68.obj _ h54.cx.lt).trans ox54
 have ox72:=h72.cx.obj
 have ob72:=h72.ck.obj
 have of72:G72.obj B.fb = some ⟨[pF B x 0,pF B x 1,pF B x 2],1,false,1⟩:=h72.cf.obj
 have ox84:=((x79.trans x84).obj _ h72.cx.lt).trans ox72
 have ox93:=(z93.obj _ h72.cx.lt).trans ox72
 have of93:=(z93.obj _ kfb).trans of72
 have p93:G93.obj G79.nx = some ⟨[.int .i64 j,.int .i64 g,.bool false],1,false,1⟩:=(y93.obj _ (by omega)).trans p84
 have p96:G96.obj G79.nx = some ⟨[.int .i64 j,.int .i64 g,.bool false],1,false,1⟩:=by
  have kfb':B.fb < G72.nx:=kfb
  rw [hG96,obj_put,if_neg (by omega)]; exact p93
 have s54:G54.obj (G.nx + 11) = some ⟨rSp.row a,1,false,1⟩:=by
  rw [hG54,obj_put,if_neg (fun e=>nsb e.symm)]; exact s18
 have s72:G72.obj (G.nx + 11) = some ⟨rSp.row a,1,false,1⟩:=by
  rw [hG72,obj_put,if_neg (fun e=>nsx e.symm),x68.obj _ (by omega)]; exact s54
 have s96:G96.obj (G.nx + 11) = some ⟨rSp.row a,1,false,1⟩:=by
  rw [hG96,obj_put,if_neg (fun e=>by have:=h.cf.lt; omega),z93.obj _ (by omega)]; exact s72
 have n98:¬ G79.nx = B.fb:=by have kfb':B.fb < G72.nx:=kfb; omega
 have n11:¬ G.nx + 11 = B.fb:=by have:=h.cf.lt; omega
 have nx54:¬ B.xb = G54.nx + 1:=by have q:B.xb < G54.nx:=h54.cx.lt; omega
 have one':=own_one o68
 have pf:∀ y:CA,y.k = x.k → ∀ j,pF B y j = pF B x j:=fun y hy j=>by unfold pF; rw [hy]
 simp only [crX,hhv] at hox ox18 hR ox54 oxR ox61 ox68 ox72 ox84 ox93 hG72
 rw [hhv] at e1 e3 e3'
 simp only [hz,rSp_row,ha] at hG18
 simp only [rSp_row,ha] at s96
 simp only [rSp_row,ha'] at hG101
 simp only [hz6] at hG84
 refine Wp.ref (f82 (exL_ok Q orc) _ _ _ _ G) ?_
 clear l101 h101 h96 h72 h54 h18' h18 h1 hI h m1 m18 mm18 m54 m72 m96 m101
 rcases (show c = 0 ∨ c = 1 ∨ c = 2 by omega) with rfl | rfl | rfl
 all_goals
  simp [upN] at hG54 ob54 ob72
  simp at hG96
  simp [-Int.natCast_add,s82,sb82,hox,hw,hhv,← hR,lc,lh,hz5,hz,← hG18,ox18,ob18,epk,hbo,fl,hil,hi0,← hG54,← hR1,ox54,oxR,e1,e2,ox61,hwi,e3,e3',e4,ox68,nx54,stO_one _ _ one',← hG72,ox72,ob72,e79,hz6,splice_put,splice_end,splice_succ,← hG84,ox84,p84,e93,ox93,of93,← hG96,p96,s96,← hG101,sm3,n98,n11,p93]
  exact post _ (by simp [clip_t]) (by simp [clip_t]) (by simp [clip_t])
end
end Go.Proofs.YtlaojmcekeohnaaGreatDoor.Lift
