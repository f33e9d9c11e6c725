import Derived.Test.YtlaojmcekeohnaaGreatDoorYH
import Derived.Test.YtlaojmcekeohnaaGreatDoorYC
import Derived.Test.YtlaojmcekeohnaaGreatDoorYF
set_option linter.unusedVariables false
set_option linter.unusedSimpArgs false
set_option linter.unnecessarySimpa false
set_option maxRecDepth 20000
namespace Go.Proofs.YtlaojmcekeohnaaGreatDoor.Lift
open Go Go.Proofs.YtlaojmcekeohnaaGreatDoor.Gh Go.Proofs
section
variable {s s':List Int} {i:Int}
structure OkL (s:List Int):Prop where
 asc:s.Pairwise (· < ·)
 rg:∀ a ∈ s,0 ≤ a ∧ a < 1024
theorem OkL.chk (h:OkL s):checkI s = 0:=checkI_zero.2 ⟨List.all_eq_true.2 fun a ha=>by unfold inI; exact decide_eq_true (h.rg a ha),pair_asc h.asc⟩
theorem inI_of (h:0 ≤ i ∧ i < 1024):inI i = true:=by unfold inI; exact decide_eq_true h
theorem pNext_give (h:OkL s) (h':OkL s') (hi:i ∈ s) (hm:∀ a,a ∈ s' ↔ a ∈ s ∧ a ≠ i):pNext s (7,0,0,0) (0,i,0) = some s':=by
 have hr:=h.rg i hi
 obtain ⟨h4,h5⟩:=inI_nat (inI_of hr)
 have e:nextA s (7,0,0,0) (0,i,0) = (elsI (woW (ofW s) i.toNat),true):=by
  rw [next_alloc h.chk rfl,if_neg (by simp),if_pos ⟨inI_of hr,rfl,by show has (ofW s) i.toNat = true; rw [has_of s h4,h5]; simpa using hi⟩]
 unfold pNext
 rw [e]
 simp only [if_true]
 congr 1
 refine asc_extI (elsI_asc _) h'.asc fun x=>?_
 rw [mem_elsI,hm]
 constructor
 ·rintro ⟨h1,h2⟩
  obtain ⟨h6,h7⟩:=inI_nat h1
  rw [has_wo (ofW_ok s) h4,has_of s h6,h7] at h2
  simp only [Bool.and_eq_true,decide_eq_true_eq] at h2
  exact ⟨h2.1,fun e=>h2.2 (by rw [e])⟩
 ·rintro ⟨h1,h2⟩
  have hx:=h.rg x h1
  obtain ⟨h6,h7⟩:=inI_nat (inI_of hx)
  refine ⟨inI_of hx,?_⟩
  rw [has_wo (ofW_ok s) h4,has_of s h6,h7]
  simp only [Bool.and_eq_true,decide_eq_true_eq]
  exact ⟨h1,fun e=>h2 (by omega)⟩
theorem pNext_back (h:OkL s) (h':OkL s') (hr:0 ≤ i ∧ i < 1024) (hi:i ∉ s) (hm:∀ a,a ∈ s' ↔ a ∈ s ∨ a = i):pNext s (8,i,0,0) (0,0,0) = some s':=by
 obtain ⟨h4,h5⟩:=inI_nat (inI_of hr)
 unfold pNext
 rw [next_free h.chk rfl]
 have hf:freeI (ofW s) i = ((0,0,0),withW (ofW s) i.toNat):=by
  unfold freeI
  rw [if_pos (inI_of hr),if_neg]
  rw [has_of s h4,h5]; simpa using hi
 show (if (if (freeI (ofW s) i).1 = (0,0,0) then (elsI (freeI (ofW s) i).2,true) else ([],false)).2 = true then some (if (freeI (ofW s) i).1 = (0,0,0) then (elsI (freeI (ofW s) i).2,true) else ([],false)).1 else none) = some s'
 rw [hf]
 simp only [if_true]
 congr 1
 refine asc_extI (elsI_asc _) h'.asc fun x=>?_
 rw [mem_elsI,hm]
 constructor
 ·rintro ⟨h1,h2⟩
  obtain ⟨h6,h7⟩:=inI_nat h1
  rw [has_with (ofW_ok s) h4,has_of s h6,h7] at h2
  simp only [Bool.or_eq_true,decide_eq_true_eq] at h2
  exact h2.imp id fun e=>by omega
 ·intro h1
  have hx:0 ≤ x ∧ x < 1024:=by
   rcases h1 with h1 | h1
   ·exact h.rg x h1
   ·rw [h1]; exact hr
  obtain ⟨h6,h7⟩:=inI_nat (inI_of hx)
  refine ⟨inI_of hx,?_⟩
  rw [has_with (ofW_ok s) h4,has_of s h6,h7]
  simp only [Bool.or_eq_true,decide_eq_true_eq]
  exact h1.imp id fun e=>by omega
theorem pNext_no (h:OkL s) {e:Int} (he:e = 7 ∨ e = 12):pNext s (7,0,0,0) (e,0,0) = some s:=by
 have e:nextA s (7,0,0,0) (e,0,0) = (elsI (ofW s),true):=by
  rw [next_alloc h.chk rfl,if_pos (by rcases he with rfl | rfl <;> simp)]
 unfold pNext
 rw [e]
 simp only [if_true]
 rw [elsI_of h.chk]
end
def hasN (x:CA) (a:Int):Nat:=(x.held.map ixW).count a + cO x.k a
def freeL (n:Int) (x:CA):List Int:=((List.range n.toNat).map fun m:Nat=>(m:Int)).filter fun a=>decide (hasN x a = 0)
theorem mem_free {n:Int} {x:CA} {a:Int}:a ∈ freeL n x ↔ (0 ≤ a ∧ a < n) ∧ hasN x a = 0:=by
 unfold freeL
 simp only [List.mem_filter,List.mem_map,List.mem_range,decide_eq_true_eq]
 constructor
 ·rintro ⟨⟨m,h1,rfl⟩,h2⟩; exact ⟨by omega,h2⟩
 ·rintro ⟨h1,h2⟩; exact ⟨⟨a.toNat,by omega,by omega⟩,h2⟩
theorem free_ok' {n:Int} (hn:n ≤ 8) (x:CA):OkL (freeL n x) :=
 ⟨(List.Pairwise.filter _ (by rw [List.pairwise_map]; exact List.pairwise_lt_range.imp fun h=>by omega)),fun a ha=>by have:=(mem_free.1 ha).1; omega⟩
theorem free_same {n:Int} {x y:CA} (h:∀ a,hasN y a = hasN x a):freeL n y = freeL n x:=by unfold freeL; simp only [h]
theorem pFirst_free {n:Int} (hn:1 ≤ n ∧ n ≤ 8) {x:CA} (h:∀ a,hasN x a = 0):pFirst n = freeL n x:=by
 refine asc_extI ?_ (free_ok' hn.2 x).asc fun a=>?_
 ·unfold pFirst restN
  rw [List.pairwise_map]
  exact (asc_range _ _).imp fun h=>by omega
 ·rw [mem_free]
  unfold pFirst restN lowN
  simp only [List.mem_map,List.mem_filter,List.mem_range,List.not_mem_nil,not_false_eq_true,decide_true,and_true]
  constructor
  ·rintro ⟨m,h1,rfl⟩; exact ⟨by omega,h _⟩
  ·rintro ⟨h1,_⟩; exact ⟨a.toNat,by omega,by omega⟩
end Go.Proofs.YtlaojmcekeohnaaGreatDoor.Lift
set_option linter.unusedVariables false
set_option linter.unusedSimpArgs false
set_option linter.unnecessarySimpa false
set_option maxRecDepth 20000
namespace Go.Proofs.YtlaojmcekeohnaaGreatDoor.Lift
open Go Go.Proofs.YtlaojmcekeohnaaGreatDoor.Gh Go.Proofs
def hid (s:Sp):Sp:=if s.to = BIG then { s with to:=-1,an:=(0,0,0) } else s
theorem hid_not {s:Sp} (h:s.to ≠ BIG):hid s = s:=by unfold hid; rw [if_neg h]
theorem hid_big {s:Sp} (h:s.to = BIG):hid s = { s with to:=-1,an:=(0,0,0) }:=by unfold hid; rw [if_pos h]
theorem hid_fr (s:Sp):(hid s).fr = s.fr ∧ (hid s).op = s.op ∧ (hid s).id = s.id:=by unfold hid; split <;> exact ⟨rfl,rfl,rfl⟩
def CallOf (y:CoS) (s:Sp):Prop:=match y with
 | .idle=>False
 | .al (.gives i)=>s.op = (7,0,0,0) ∧ s.to = BIG ∧ s.an = (0,i,0)
 | .al (.done _ _)=>False
 | .al _=>s.op = (7,0,0,0) ∧ s.to = -1 ∧ s.an = (0,0,0)
 | .fe .wears=>(∃ i,s.op = (8,i,0,0)) ∧ s.to = BIG ∧ s.an = (0,0,0)
 | .fe (.looks i)=>s.op = (8,i,0,0) ∧ s.to = -1 ∧ s.an = (0,0,0)
 | .fe (.raises i _)=>s.op = (8,i,0,0) ∧ s.to = -1 ∧ s.an = (0,0,0)
 | .fe (.push (.go _ _ i))=>s.op = (8,i,0,0) ∧ s.to = -1 ∧ s.an = (0,0,0)
 | .fe (.push (.done _))=>False
 | .fe (.done _)=>False
theorem CallOf.pend {y:CoS} {s:Sp} (h:CallOf y s):s.to = BIG ∨ s.to = -1 ∧ s.an = (0,0,0):=by
 unfold CallOf at h
 split at h <;> first | exact h.elim | exact .inl h.2.1 | exact .inr h.2
structure GA (n:Int) (x:CA) (g:List Sp) (W:List Nat):Prop where
 lz:Lz2 (pMac n) g W (freeL n x) x.clock
 len:g.length = x.calls.length
 see:∀ i,i < x.calls.length → sp x.calls i = hid (sp g i)
 lt:∀ c,c < 3 → ∀ j:Nat,x.o c = (j:Int) → j < x.calls.length
 co:∀ c,c < 3 → ∀ j:Nat,x.o c = (j:Int) → CallOf (x.k c) (sp g j)
 o1:∀ c,c < 3 → -1 ≤ x.o c
 apart:∀ c c',c < 3 → c' < 3 → c ≠ c' → 0 ≤ x.o c → x.o c ≠ x.o c'
 busy:∀ i,i < x.calls.length → (sp g i).to = BIG ∨ (sp g i).to < 0 → ∃ c,c < 3 ∧ x.o c = (i:Int)
 id:∀ i,i < x.calls.length → (sp x.calls i).id = (i:Int)
 ok:∀ i,i < x.calls.length → okOp (sp x.calls i).op
section
variable {n:Int} {x z:CA} {g:List Sp} {W W':List Nat} {c j:Nat}
theorem hid_pend {a b:Sp} (ha:a.to = BIG ∨ a.to = -1 ∧ a.an = (0,0,0)) (hb:b.to = BIG ∨ b.to = -1 ∧ b.an = (0,0,0)) (h1:a.id = b.id) (h2:a.fr = b.fr) (h3:a.op = b.op):hid a = hid b:=by
 have key:∀ s:Sp,(s.to = BIG ∨ s.to = -1 ∧ s.an = (0,0,0)) → hid s = ⟨s.id,s.fr,-1,s.op,(0,0,0)⟩:=fun s hs=>by
  rcases hs with hs | ⟨h1,h2⟩
  ·rw [hid_big hs]
  ·rw [hid_not (by rw [h1]; decide),← h1,← h2]
 rw [key a ha,key b hb,h1,h2,h3]
theorem GA.upd (h:GA n x g W) (hc:c < 3) (hj:x.o c = (j:Int)) {s':Sp} (hlz:Lz2 (pMac n) (g.set j s') W' (freeL n z) z.clock) (hid':s'.id = (sp g j).id) (hop:s'.op = (sp g j).op) (hcalls:z.calls = x.calls.set j (hid s')) (hk:∀ c',c' < 3 → c' ≠ c → z.k c' = x.k c')
  (ho:z.o = x.o ∧ CallOf (z.k c) s' ∨ z.o = upN x.o c (-1) ∧ s'.to ≠ BIG ∧ 0 ≤ s'.to):GA n z (g.set j s') W':=by
 have jl:=h.lt c hc j hj
 have hl:=h.len
 have jg:j < g.length:=by omega
 have hsg:∀ i,i ≠ j → sp (g.set j s') i = sp g i:=fun i hi=>by rw [sp_set _ jg,if_neg hi]
 have hsgj:sp (g.set j s') j = s':=by rw [sp_set _ jg,if_pos rfl]
 have hsc:∀ i,i ≠ j → sp z.calls i = sp x.calls i:=fun i hi=>by rw [hcalls,sp_set _ jl,if_neg hi]
 have hscj:sp z.calls j = hid s':=by rw [hcalls,sp_set _ jl,if_pos rfl]
 have zl:z.calls.length = x.calls.length:=by rw [hcalls]; simp
 have hne:∀ c',c' < 3 → c' ≠ c → ∀ i:Nat,x.o c' = (i:Int) → i ≠ j:=fun c' hc' hcc i hi e=>by
  have:=h.apart c' c hc' hc hcc (by omega)
  rw [hi,hj,e] at this
  exact this rfl
 have zo:∀ c',c' < 3 → c' ≠ c → z.o c' = x.o c':=fun c' _ hcc=>by
  rcases ho with ⟨e,_⟩ | ⟨e,_⟩
  ·rw [e]
  ·rw [e,upN_ne _ _ hcc]
 obtain ⟨f1,f2,f3⟩:=hid_fr s'
 obtain ⟨e1,e2,e3⟩:=hid_fr (sp g j)
 have hse:=h.see j jl
 refine ⟨hlz,by simp; omega,fun i hi=>?_,fun c' hc' i hi=>?_,fun c' hc' i hi=>?_,fun c' hc'=>?_,fun a b h1 h2 h3 h4=>?_,fun i hi hB=>?_,fun i hi=>?_,fun i hi=>?_⟩
 ·rw [zl] at hi
  by_cases e:i = j
  ·rw [e,hscj,hsgj]
  ·rw [hsc i e,hsg i e]; exact h.see i hi
 ·rw [zl]
  by_cases e:c' = c
  ·subst e
   rcases ho with ⟨q,_⟩ | ⟨q,_⟩
   ·rw [q] at hi; exact h.lt c' hc' i hi
   ·rw [q,upN_same] at hi; omega
  ·rw [zo c' hc' e] at hi; exact h.lt c' hc' i hi
 ·by_cases e:c' = c
  ·subst e
   rcases ho with ⟨q,q2⟩ | ⟨q,_⟩
   ·rw [q] at hi
    obtain rfl:i = j:=by omega
    rw [hsgj]; exact q2
   ·rw [q,upN_same] at hi; omega
  ·rw [zo c' hc' e] at hi
   rw [hk c' hc' e,hsg i (hne c' hc' e i hi)]
   exact h.co c' hc' i hi
 ·by_cases e:c' = c
  ·subst e
   rcases ho with ⟨q,_⟩ | ⟨q,_⟩
   ·rw [q]; exact h.o1 c' hc'
   ·rw [q,upN_same]; omega
  ·rw [zo c' hc' e]; exact h.o1 c' hc'
 ·rcases ho with ⟨q,_⟩ | ⟨q,_⟩
  ·rw [q] at h4 ⊢; exact h.apart a b h1 h2 h3 h4
  ·rw [q] at h4 ⊢
   have n1:a ≠ c:=fun e=>by rw [e,upN_same] at h4; omega
   rw [upN_ne _ _ n1] at h4 ⊢
   by_cases n2:b = c
   ·rw [n2,upN_same]; omega
   ·rw [upN_ne _ _ n2]; exact h.apart a b h1 h2 h3 h4
 ·rw [zl] at hi
  by_cases e:i = j
  ·rw [e,hsgj] at hB
   rcases ho with ⟨q,_⟩ | ⟨_,q,q'⟩
   ·exact ⟨c,hc,by rw [q,e]; exact hj⟩
   ·exact absurd hB (fun k=>k.elim q (fun k=>by omega))
  ·rw [hsg i e] at hB
   obtain ⟨c',q1,q2⟩:=h.busy i hi hB
   have hcc:c' ≠ c:=fun ee=>by rw [ee,hj] at q2; exact e (by omega)
   exact ⟨c',q1,by rw [zo c' q1 hcc]; exact q2⟩
 ·rw [zl] at hi
  by_cases e:i = j
  ·rw [e,hscj,f3,hid',← e3,← hse]; exact h.id j jl
  ·rw [hsc i e]; exact h.id i hi
 ·rw [zl] at hi
  by_cases e:i = j
  ·rw [e,hscj,f2,hop,← e2,← hse]; exact h.ok j jl
  ·rw [hsc i e]; exact h.ok i hi
theorem set_sp {l:List Sp} (hj:j < l.length):l.set j (sp l j) = l:=by
 refine List.ext_getElem? fun i=>?_
 rw [List.getElem?_set]
 by_cases e:j = i
 ·subst e; simp [hj,sp,List.getD,List.getElem?_eq_getElem hj]
 ·simp [e]
theorem modify_sp {l:List Sp} (f:Sp → Sp) (h:j < l.length):l.modify j f = l.set j (f (sp l j)):=by
 refine List.ext_getElem? fun i=>?_
 rw [List.getElem?_modify,List.getElem?_set]
 by_cases e:j = i
 ·subst e
  simp [h,sp,List.getD,List.getElem?_eq_getElem h]
 ·simp [e]
theorem GA.begin (h:GA n x g W) (hc:c < 3) (h0:x.o c = -1) (hk0:0 ≤ x.clock) {s:Sp} (hs1:s.id = x.calls.length) (hs2:s.fr = x.clock + 1) (hs3:s.to = -1) (hs4:s.an = (0,0,0)) (hs5:okOp s.op) (z1:z.calls = x.calls ++ [s]) (z2:z.o = upN x.o c x.calls.length) (z3:z.clock = x.clock + 1) (z4:∀ c',c' < 3 → c' ≠ c → z.k c' = x.k c') (z5:CallOf (z.k c) s) (z6:freeL n z = freeL n x):GA n z (g ++ [s]) W:=by
 have hl:=h.len
 have zl:z.calls.length = x.calls.length + 1:=by rw [z1]; simp
 have hold:∀ i,i < x.calls.length → sp z.calls i = sp x.calls i:=fun i hi=>by rw [z1,sp_app,if_pos hi]
 have hnew:sp z.calls x.calls.length = s:=by rw [z1,sp_app,if_neg (by omega),if_pos rfl]
 have gold:∀ i,i < x.calls.length → sp (g ++ [s]) i = sp g i:=fun i hi=>by rw [sp_app,if_pos (by omega)]
 have gnew:sp (g ++ [s]) x.calls.length = s:=by rw [sp_app,if_neg (by omega),if_pos (by omega)]
 have hx:∀ c',c' < 3 → ∀ i:Nat,z.o c' = (i:Int) → c' = c ∧ i = x.calls.length ∨ c' ≠ c ∧ x.o c' = (i:Int) ∧ i < x.calls.length:=by
  intro c' hc' i hi
  rw [z2] at hi
  by_cases e:c' = c
  ·rw [e,upN_same] at hi; exact .inl ⟨e,by omega⟩
  ·rw [upN_ne _ _ e] at hi
   exact .inr ⟨e,hi,h.lt c' hc' i hi⟩
 have hlz:=(h.lz.tick (now':=x.clock + 1) (by omega)).begin s hs3 (by omega) (by omega)
 refine ⟨by rw [z6,z3]; exact hlz,by simp; omega,fun i hi=>?_,fun c' hc' i hi=>?_,fun c' hc' i hi=>?_,fun c' hc'=>?_,fun a b h1 h2 h3 h4=>?_,fun i hi hB=>?_,fun i hi=>?_,fun i hi=>?_⟩
 ·rw [zl] at hi
  by_cases e:i = x.calls.length
  ·rw [e,hnew,gnew,hid_not (by rw [hs3]; decide)]
  ·rw [hold i (by omega),gold i (by omega)]; exact h.see i (by omega)
 ·rw [zl]
  rcases hx c' hc' i hi with ⟨_,e⟩ | ⟨_,_,e⟩ <;> omega
 ·rcases hx c' hc' i hi with ⟨e1,e2⟩ | ⟨e1,e2,e3⟩
  ·rw [e1,e2,gnew]; exact z5
  ·rw [z4 c' hc' e1,gold i e3]; exact h.co c' hc' i e2
 ·rw [z2]
  by_cases e:c' = c
  ·rw [e,upN_same]; omega
  ·rw [upN_ne _ _ e]; exact h.o1 c' hc'
 ·obtain ⟨i,hi⟩:∃ i:Nat,z.o a = (i:Int):=⟨(z.o a).toNat,by omega⟩
  intro e
  rcases hx a h1 i hi with ⟨q,l⟩ | ⟨q,l,m⟩
  ·rcases hx b h2 i (by omega) with ⟨q',l'⟩ | ⟨q',l',m'⟩
   ·omega
   ·omega
  ·rcases hx b h2 i (by omega) with ⟨q',l'⟩ | ⟨q',l',m'⟩
   ·omega
   ·exact h.apart a b h1 h2 h3 (by omega) (by omega)
 ·rw [zl] at hi
  by_cases e:i = x.calls.length
  ·exact ⟨c,hc,by rw [z2,upN_same,e]⟩
  ·rw [gold i (by omega)] at hB
   obtain ⟨c',q1,q2⟩:=h.busy i (by omega) hB
   refine ⟨c',q1,?_⟩
   rw [z2,upN_ne _ _ ?_]; exact q2
   intro k; rw [k,h0] at q2; omega
 ·rw [zl] at hi
  by_cases e:i = x.calls.length
  ·rw [e,hnew]; exact hs1
  ·rw [hold i (by omega)]; exact h.id i (by omega)
 ·rw [zl] at hi
  by_cases e:i = x.calls.length
  ·rw [e,hnew]; exact hs5
  ·rw [hold i (by omega)]; exact h.ok i (by omega)
end
end Go.Proofs.YtlaojmcekeohnaaGreatDoor.Lift
set_option linter.unusedVariables false
set_option linter.unusedSimpArgs false
set_option linter.unnecessarySimpa false
set_option maxRecDepth 20000
namespace Go.Proofs.YtlaojmcekeohnaaGreatDoor.Lift
open Go Go.Proofs.YtlaojmcekeohnaaGreatDoor.Gh Go.Proofs
section
variable {n lim T T':Int} {F F':List Int} {x z:CA} {g:List Sp} {W W':List Nat} {c j K:Nat}
theorem hasN_k (hc:c < 3) {y:CoS} (z1:z.held = x.held) (z2:z.k = upN x.k c y) (a:Int):hasN z a + (ow (x.k c)).count a = hasN x a + (ow y).count a:=by
 have:=cO_up (k:=x.k) (y:=y) hc a
 unfold hasN
 rw [z1,z2]; omega
theorem GA.beginA (h:GA n x g W) (hI:InvA n lim K x F T) (hc:c < 3) (hi:x.k c = .idle):∃ g' W',GA n (x.beginA c) g' W':=by
 have h0:x.o c = -1:=(hI.op c hc).elim (·.2) (fun q=>absurd hi q.1)
 refine ⟨_,_,h.begin hc h0 hI.ck.1 (s:=⟨x.calls.length,x.clock + 1,-1,(7,0,0,0),(0,0,0)⟩) rfl rfl rfl rfl (by show okOp (7,0,0,0); unfold okOp; decide) rfl rfl rfl (fun c' _ e=>upN_ne _ _ e) ?_ (free_same fun a=>?_)⟩
 ·show CallOf (upN x.k c _ c) _
  rw [upN_same]; exact ⟨rfl,rfl,rfl⟩
 ·have:=hasN_k (x:=x) (z:=x.beginA c) (y:=.al (.pop (.go 1 0 0 0))) hc rfl rfl a
  rw [hi] at this
  exact this
theorem GA.beginF (h:GA n x g W) (hI:InvA n lim K x F T) (hc:c < 3) (hi:x.k c = .idle) {i:Nat} (hl:i < x.held.length):∃ g' W',GA n (x.beginF c i) g' W':=by
 have hn:=hI.ri.n1
 have h0:x.o c = -1:=(hI.op c hc).elim (·.2) (fun q=>absurd hi q.1)
 have hg:x.held.getD i 0 = x.held[i]:=by rw [List.getD_eq_getElem?_getD,List.getElem?_eq_getElem hl]; rfl
 obtain ⟨k,g',hj,j0,j1,_,_⟩:=hI.hw _ (List.getElem_mem hl)
 have hix:ixW (x.held.getD i 0) = k:=by rw [hg,hj]; exact ixW_word ⟨j0,by omega⟩
 have hgm:ixW (x.held.getD i 0) = (x.held.map ixW).getD i 0:=by
  rw [hg]
  simp [List.getD_eq_getElem?_getD,hl]
 have hlm:i < (x.held.map ixW).length:=by simpa using hl
 refine ⟨_,_,h.begin hc h0 hI.ck.1 (s:=⟨x.calls.length,x.clock + 1,-1,(8,ixW (x.held.getD i 0),0,0),(0,0,0)⟩) rfl rfl rfl rfl (by unfold okOp; rw [hix]; simp only; omega) rfl rfl rfl (fun c' _ e=>upN_ne _ _ e) ?_ (free_same fun a=>?_)⟩
 ·show CallOf (upN x.k c _ c) _
  rw [upN_same]; exact ⟨rfl,rfl,rfl⟩
 ·have h1:=cO_up (k:=x.k) (y:=.fe (.looks (ixW (x.held.getD i 0)))) hc a
  have h2:=erase_count _ _ hlm a
  rw [hi] at h1
  unfold hasN
  show ((x.held.eraseIdx i).map ixW).count a + cO (upN x.k c (.fe (.looks (ixW (x.held.getD i 0))))) a = _
  rw [erase_map]
  have e1:(ow (.fe (.looks (ixW (x.held.getD i 0))))).count a = [(x.held.map ixW).getD i 0].count a:=by rw [hgm]; rfl
  have e2:(ow CoS.idle).count a = 0:=rfl
  omega
theorem ow_push (p:PusS) (s:MS) (R:Sk) {i:Int} {ph:Nat} {w:Int}:(∃ e,((PusS.go ph w i).step R s).1 = .done e) ∨ ∃ ph' w',((PusS.go ph w i).step R s).1 = .go ph' w' i:=by
 simp only [PusS.step]
 split
 ·exact .inr ⟨_,_,rfl⟩
 ·split
  ·exact .inr ⟨_,_,rfl⟩
  ·split
   ·exact .inl ⟨_,rfl⟩
   ·exact .inr ⟨_,_,rfl⟩
theorem free_back (hI:InvA n lim K x F T) (hc:c < 3) {y:CoS} {i:Int} (hy:ow (x.k c) = [i]) (hy':ow y = []) (z1:z.held = x.held) (z2:z.k = upN x.k c y):(0 ≤ i ∧ i < n) ∧ i ∉ freeL n x ∧ ∀ a,a ∈ freeL n z ↔ a ∈ freeL n x ∨ a = i:=by
 have key:∀ a,hasN z a + [i].count a = hasN x a:=fun a=>by
  have:=hasN_k (z:=z) (y:=y) hc z1 z2 a
  rw [hy,hy'] at this
  simpa using this
 have nd:∀ a,hasN x a ≤ 1:=fun a=>by have:=hI.ri.nd a; unfold hasN; omega
 have h1:=key i
 simp at h1
 have h2:=nd i
 have rg:=hI.ri.rg i (by unfold hasN at h1; omega)
 refine ⟨rg,fun hm=>by have:=(mem_free.1 hm).2; omega,fun a=>?_⟩
 rw [mem_free,mem_free]
 have ha:=key a
 by_cases e:a = i
 ·subst e
  simp at ha
  exact ⟨fun _=>.inr rfl,fun _=>⟨rg,by omega⟩⟩
 ·rw [List.count_singleton] at ha
  have:¬ (i == a) = true:=by simpa using fun q=>e q.symm
  rw [if_neg this] at ha
  constructor
  ·rintro ⟨h3,h4⟩; exact .inl ⟨h3,by omega⟩
  ·rintro (⟨h3,h4⟩ | h3)
   ·exact ⟨h3,by omega⟩
   ·exact absurd h3 e
theorem free_give (hI':InvA n lim K z F T) (hc:c < 3) {y:CoS} {i:Int} (hy:ow (x.k c) = []) (hy':ow y = [i]) (z1:z.held = x.held) (z2:z.k = upN x.k c y):i ∈ freeL n x ∧ ∀ a,a ∈ freeL n z ↔ a ∈ freeL n x ∧ a ≠ i:=by
 have key:∀ a,hasN z a = hasN x a + [i].count a:=fun a=>by
  have:=hasN_k (z:=z) (y:=y) hc z1 z2 a
  rw [hy,hy'] at this
  simpa using this
 have nd:∀ a,hasN z a ≤ 1:=fun a=>by have:=hI'.ri.nd a; unfold hasN; omega
 have h1:=key i
 simp at h1
 have h2:=nd i
 have rg:=hI'.ri.rg i (by unfold hasN at h1; omega)
 refine ⟨mem_free.2 ⟨rg,by omega⟩,fun a=>?_⟩
 rw [mem_free,mem_free]
 have ha:=key a
 by_cases e:a = i
 ·subst e
  simp at ha
  exact ⟨fun q=>by omega,fun q=>absurd rfl q.2⟩
 ·rw [List.count_singleton] at ha
  have:¬ (i == a) = true:=by simpa using fun q=>e q.symm
  rw [if_neg this] at ha
  constructor
  ·rintro ⟨h3,h4⟩; exact ⟨⟨h3,by omega⟩,e⟩
  ·rintro ⟨⟨h3,h4⟩,_⟩; exact ⟨h3,by omega⟩
theorem GA.keep (h:GA n x g W) (hc:c < 3) (hj:x.o c = (j:Int)) {y:CoS} (hy:ow y = ow (x.k c)) (hco:CallOf y (sp g j)) (hp:CallOf (x.k c) (sp g j)) (z1:z.held = x.held) (z2:z.k = upN x.k c y) (z3:z.o = x.o) (z4:z.calls = x.calls) (z5:z.clock = x.clock + 1):GA n z g W:=by
 have jl:=h.lt c hc j hj
 have hl:=h.len
 have jg:j < g.length:=by omega
 have hf:freeL n z = freeL n x:=free_same fun a=>by
  have:=hasN_k (z:=z) (y:=y) hc z1 z2 a
  rw [hy] at this; omega
 have hg:=set_sp (l:=g) jg
 have:=h.upd (z:=z) (W':=W) hc hj (s':=sp g j) (by rw [hg,hf,z5]; exact h.lz.tick (by omega)) rfl rfl (by rw [← h.see j jl,set_sp jl]; exact z4) (fun c' _ e=>by rw [z2,upN_ne _ _ e]) (.inl ⟨z3,by rw [z2,upN_same]; exact hco⟩)
 rw [hg] at this
 exact this
end
end Go.Proofs.YtlaojmcekeohnaaGreatDoor.Lift
set_option linter.unusedVariables false
set_option linter.unusedSimpArgs false
set_option linter.unnecessarySimpa false
set_option maxRecDepth 20000
namespace Go.Proofs.YtlaojmcekeohnaaGreatDoor.Lift
open Go Go.Proofs.YtlaojmcekeohnaaGreatDoor.Gh Go.Proofs
section
variable {n lim T T':Int} {F F':List Int} {x z:CA} {g:List Sp} {W W':List Nat} {c j K:Nat}
theorem GA.stepsF (h:GA n x g W) (hI:InvA n lim K x F T) (hB:x.clock + 1 < BIG) (hc:c < 3) {p:FeS} (hk:x.k c = .fe p):∃ g' W',GA n (x.steps (arN n lim) c) g' W':=by
 have hn:=hI.ri.n1
 have hck:=hI.ck.1
 obtain ⟨j,hj⟩:∃ j:Nat,x.o c = (j:Int):=by
  rcases hI.op c hc with ⟨q,_⟩ | ⟨_,_,q,_⟩
  ·rw [hk] at q; cases q
  ·exact ⟨(x.o c).toNat,by omega⟩
 have jl:=h.lt c hc j hj
 have hl:=h.len
 have jg:j < g.length:=by omega
 have hco:=h.co c hc j hj
 have hse:=h.see j jl
 have hcur:=hco
 rw [hk] at hcur
 have keep:∀ p',(p.step (arN n lim) x.s).1 = p' → p'.over = false → ow (.fe p') = ow (.fe p) → CallOf (.fe p') (sp g j) → ∃ g' W',GA n (x.steps (arN n lim) c) g' W':=by
  intro p' e1 e2 e3 e4
  refine ⟨g,W,h.keep hc hj (y:=.fe p') (by rw [hk]; exact e3) e4 hco ?_ ?_ ?_ ?_ ?_⟩ <;> (unfold CA.steps; rw [hk]; simp only; rw [e1,if_neg (by rw [e2]; simp)])
 cases p with
 | done e=>exact hcur.elim
 | raises i gg=>exact keep (.push (.go 1 0 i)) rfl rfl rfl hcur
 | looks i =>
  obtain ⟨c1,c2,c3⟩:=hcur
  by_cases hw:(arN n lim).limit ≤ (x.s.load ((arN n lim).gens + i)).new % 4294967296
  ·have e1:((FeS.looks i).step (arN n lim) x.s).1 = .wears:=by simp only [FeS.step]; rw [if_pos hw]
   obtain ⟨z,hz⟩:∃ z,z = x.steps (arN n lim) c:=⟨_,rfl⟩
   have hz':z = { x with s:=((FeS.looks i).step (arN n lim) x.s).2,k:=upN x.k c (.fe .wears),clock:=x.clock + 1 }:=by
    rw [hz]; unfold CA.steps; rw [hk]; simp only; rw [e1,if_neg (by decide)]
   rw [← hz]
   obtain ⟨r1,r2,r3⟩:=free_back hI hc (z:=z) (y:=.fe .wears) (by rw [hk]; rfl) rfl (by rw [hz']) (by rw [hz'])
   have hjW:j ∉ W:=fun k=>by have:=h.lz.wd j k; omega
   have hlz:=h.lz.eff jg (by omega) hjW { sp g j with to:=BIG } rfl rfl (now':=x.clock + 1) (.inr rfl) (by omega) (by omega) hB (q':=freeL n z) (by
    rw [c1]
    show pNext _ _ (sp g j).an = _
    rw [c3]
    exact pNext_back (free_ok' hn.2 x) (free_ok' hn.2 z) ⟨r1.1,by omega⟩ r2 r3)
   refine ⟨_,_,h.upd (z:=z) (s':={ sp g j with to:=BIG }) hc hj (by rw [show z.clock = x.clock + 1 by rw [hz']]; exact hlz) rfl rfl ?_ (fun c' _ e=>by rw [hz']; exact upN_ne _ _ e) (.inl ⟨by rw [hz'],?_⟩)⟩
   ·rw [hid_pend (a:={ sp g j with to:=BIG }) (b:=sp g j) (.inl rfl) (.inr ⟨c2,c3⟩) rfl rfl rfl,← hse,set_sp jl,hz']
   ·rw [show z.k c = .fe .wears by rw [hz']; exact upN_same _ _ _]
    exact ⟨⟨i,c1⟩,rfl,c3⟩
  ·exact keep (.raises i (x.s.load ((arN n lim).gens + i)).new) (by simp only [FeS.step]; rw [if_neg hw]) rfl rfl ⟨c1,c2,c3⟩
 | wears =>
  obtain ⟨⟨i,c1⟩,c2,c3⟩:=hcur
  obtain ⟨z,hz⟩:∃ z,z = x.steps (arN n lim) c:=⟨_,rfl⟩
  have hz':z = { x with s:=(FeS.wears.step (arN n lim) x.s).2,k:=upN x.k c .idle,clock:=x.clock + 1,o:=upN x.o c (-1),calls:=x.calls.modify (x.o c).toNat fun z=>{ z with to:=x.clock + 1 } }:=by
   rw [hz]; unfold CA.steps; rw [hk]; simp only; rw [show (FeS.wears.step (arN n lim) x.s).1 = .done 0 from rfl,if_pos (by rfl)]
  rw [← hz]
  have hf:freeL n z = freeL n x:=free_same fun a=>by
   have:=hasN_k (x:=x) (z:=z) (y:=.idle) hc (by rw [hz']) (by rw [hz']) a
   rw [hk] at this
   exact this
  have hlz:=h.lz.told jg c2 { sp g j with to:=x.clock + 1 } rfl rfl rfl (now':=x.clock + 1) rfl (by omega) (by omega)
  refine ⟨_,_,h.upd (z:=z) (s':={ sp g j with to:=x.clock + 1 }) hc hj (by rw [hf,show z.clock = x.clock + 1 by rw [hz']]; exact hlz) rfl rfl ?_ (fun c' _ e=>by rw [hz']; exact upN_ne _ _ e) (.inr ⟨by rw [hz'],by show x.clock + 1 ≠ BIG; omega,by show 0 ≤ x.clock + 1; omega⟩)⟩
  rw [hz']
  show x.calls.modify (x.o c).toNat _ = _
  rw [hj,Int.toNat_natCast,modify_sp _ jl,hse,hid_big c2,hid_not (show ({ sp g j with to:=x.clock + 1 }:Sp).to ≠ BIG by show x.clock + 1 ≠ BIG; omega)]
  simp [c3]
 | push q =>
  cases q with
  | done e=>exact hcur.elim
  | go ph w i =>
   obtain ⟨c1,c2,c3⟩:=hcur
   rcases ow_push (.done 0) x.s (arN n lim).R (i:=i) (ph:=ph) (w:=w) with ⟨e,hq⟩ | ⟨ph',w',hq⟩
   ·have e1:((FeS.push (.go ph w i)).step (arN n lim) x.s).1 = .done 0:=by simp only [FeS.step]; rw [hq,if_pos (by rfl)]
    obtain ⟨z,hz⟩:∃ z,z = x.steps (arN n lim) c:=⟨_,rfl⟩
    have hz':z = { x with s:=((FeS.push (.go ph w i)).step (arN n lim) x.s).2,k:=upN x.k c .idle,clock:=x.clock + 1,o:=upN x.o c (-1),calls:=x.calls.modify (x.o c).toNat fun z=>{ z with to:=x.clock + 1 } }:=by
     rw [hz]; unfold CA.steps; rw [hk]; simp only; rw [e1,if_pos (by rfl)]
    rw [← hz]
    obtain ⟨r1,r2,r3⟩:=free_back hI hc (z:=z) (y:=.idle) (by rw [hk]; rfl) rfl (by rw [hz']) (by rw [hz'])
    have hjW:j ∉ W:=fun k=>by have:=h.lz.wd j k; omega
    have hlz:=h.lz.eff jg (by omega) hjW { sp g j with to:=x.clock + 1 } rfl rfl (now':=x.clock + 1) (.inl rfl) (by omega) (by omega) hB (q':=freeL n z) (by
     rw [c1]
     show pNext _ _ (sp g j).an = _
     rw [c3]
     exact pNext_back (free_ok' hn.2 x) (free_ok' hn.2 z) ⟨r1.1,by omega⟩ r2 r3)
    refine ⟨_,_,h.upd (z:=z) (s':={ sp g j with to:=x.clock + 1 }) hc hj (by rw [show z.clock = x.clock + 1 by rw [hz']]; exact hlz) rfl rfl ?_ (fun c' _ e=>by rw [hz']; exact upN_ne _ _ e) (.inr ⟨by rw [hz'],by show x.clock + 1 ≠ BIG; omega,by show 0 ≤ x.clock + 1; omega⟩)⟩
    rw [hz']
    show x.calls.modify (x.o c).toNat _ = _
    rw [hj,Int.toNat_natCast,modify_sp _ jl,hse,hid_not (show (sp g j).to ≠ BIG by rw [c2]; decide),hid_not (show ({ sp g j with to:=x.clock + 1 }:Sp).to ≠ BIG by show x.clock + 1 ≠ BIG; omega)]
   ·exact keep (.push (.go ph' w' i)) (by simp only [FeS.step]; rw [hq,if_neg (by simp [PusS.over])]) rfl rfl ⟨c1,c2,c3⟩
theorem GA.stepsA (h:GA n x g W) (hI:InvA n lim K x F T) (hI':InvA n lim (K + 1) (x.steps (arN n lim) c) F' T') (hB:x.clock + 1 < BIG) (hc:c < 3) {p:AlS} (hk:x.k c = .al p):∃ g' W',GA n (x.steps (arN n lim) c) g' W':=by
 have hn:=hI.ri.n1
 have hck:=hI.ck.1
 obtain ⟨j,hj⟩:∃ j:Nat,x.o c = (j:Int):=by
  rcases hI.op c hc with ⟨q,_⟩ | ⟨_,_,q,_⟩
  ·rw [hk] at q; cases q
  ·exact ⟨(x.o c).toNat,by omega⟩
 have jl:=h.lt c hc j hj
 have hl:=h.len
 have jg:j < g.length:=by omega
 have hco:=h.co c hc j hj
 have hse:=h.see j jl
 have hcur:=hco
 rw [hk] at hcur
 have keep:∀ p',(p.step (arN n lim) x.s).1 = p' → p'.over = false → ow (.al p') = ow (.al p) → CallOf (.al p') (sp g j) → ∃ g' W',GA n (x.steps (arN n lim) c) g' W':=by
  intro p' e1 e2 e3 e4
  refine ⟨g,W,h.keep hc hj (y:=.al p') (by rw [hk]; exact e3) e4 hco ?_ ?_ ?_ ?_ ?_⟩ <;> (unfold CA.steps; rw [hk]; simp only; rw [e1,if_neg (by rw [e2]; simp)])
 cases p with
 | done gg e=>exact hcur.elim
 | gives i =>
  obtain ⟨c1,c2,c3⟩:=hcur
  obtain ⟨gw,hgw⟩:∃ gw,gw = wordT i ((x.s.load ((arN n lim).gens + i)).new % 4294967296):=⟨_,rfl⟩
  have e1:((AlS.gives i).step (arN n lim) x.s).1 = .done gw 0:=by rw [hgw]; rfl
  have hri:0 ≤ i ∧ i < n:=hI.ri.rg i (by
   have:=cO_le (k:=x.k) hc i
   rw [hk] at this
   have h1:(ow (.al (.gives i))).count i = 1:=by simp [ow]
   omega)
  have hix:ixW gw = i:=by rw [hgw]; exact ixW_word ⟨hri.1,by omega⟩
  obtain ⟨z,hz⟩:∃ z,z = x.steps (arN n lim) c:=⟨_,rfl⟩
  have hz':z = { x with s:=((AlS.gives i).step (arN n lim) x.s).2,k:=upN x.k c .idle,clock:=x.clock + 1,o:=upN x.o c (-1),calls:=x.calls.modify (x.o c).toNat fun z=>{ z with to:=x.clock + 1,an:=(0,i,z.an.2.2) },held:=x.held ++ [gw] }:=by
   rw [hz]; unfold CA.steps; rw [hk]; simp only
   rw [e1,if_pos (by rfl)]
   simp only [AlS.told,if_true,hix]
  rw [← hz]
  have hf:freeL n z = freeL n x:=free_same fun a=>by
   have h1:=cO_up (k:=x.k) (y:=.idle) hc a
   rw [hk] at h1
   have h2:(ow CoS.idle).count a = 0:=rfl
   have h3:(ow (.al (.gives i))).count a = [i].count a:=rfl
   unfold hasN
   rw [hz']
   show ((x.held ++ [gw]).map ixW).count a + cO (upN x.k c .idle) a = _
   rw [List.map_append,List.count_append,List.map_singleton,hix]
   omega
  have hlz:=h.lz.told jg c2 { sp g j with to:=x.clock + 1 } rfl rfl rfl (now':=x.clock + 1) rfl (by omega) (by omega)
  refine ⟨_,_,h.upd (z:=z) (s':={ sp g j with to:=x.clock + 1 }) hc hj (by rw [hf,show z.clock = x.clock + 1 by rw [hz']]; exact hlz) rfl rfl ?_ (fun c' _ e=>by rw [hz']; exact upN_ne _ _ e) (.inr ⟨by rw [hz'],by show x.clock + 1 ≠ BIG; omega,by show 0 ≤ x.clock + 1; omega⟩)⟩
  rw [hz']
  show x.calls.modify (x.o c).toNat _ = _
  rw [hj,Int.toNat_natCast,modify_sp _ jl,hse,hid_big c2,hid_not (show ({ sp g j with to:=x.clock + 1 }:Sp).to ≠ BIG by show x.clock + 1 ≠ BIG; omega)]
  simp [c3]
 | lacks =>
  obtain ⟨c1,c2,c3⟩:=hcur
  obtain ⟨e,he⟩:∃ e,e = (if (arN n lim).size ≤ (x.s.load (arN n lim).worn).new then (12:Int) else 7):=⟨_,rfl⟩
  have he':e = 7 ∨ e = 12:=by rw [he]; split <;> simp
  have he0:¬ e = 0:=by rcases he' with q | q <;> rw [q] <;> decide
  have e1:(AlS.lacks.step (arN n lim) x.s).1 = .done 0 e:=by rw [he]; rfl
  obtain ⟨z,hz⟩:∃ z,z = x.steps (arN n lim) c:=⟨_,rfl⟩
  have hz':z = { x with s:=(AlS.lacks.step (arN n lim) x.s).2,k:=upN x.k c .idle,clock:=x.clock + 1,o:=upN x.o c (-1),calls:=x.calls.modify (x.o c).toNat fun z=>{ z with to:=x.clock + 1,an:=(e,z.an.2.1,z.an.2.2) } }:=by
   rw [hz]; unfold CA.steps; rw [hk]; simp only
   rw [e1,if_pos (by rfl)]
   rw [show (AlS.done 0 e).told = (0,e) from rfl]
   simp only [if_neg he0]
  rw [← hz]
  have hf:freeL n z = freeL n x:=free_same fun a=>by
   have:=hasN_k (x:=x) (z:=z) (y:=.idle) hc (by rw [hz']) (by rw [hz']) a
   rw [hk] at this
   exact this
  have hjW:j ∉ W:=fun k=>by have:=h.lz.wd j k; omega
  have hlz:=h.lz.eff jg (by omega) hjW { sp g j with to:=x.clock + 1,an:=(e,0,0) } rfl rfl (now':=x.clock + 1) (.inl rfl) (by omega) (by omega) hB (q':=freeL n x) (by
   rw [c1]
   exact pNext_no (free_ok' hn.2 x) he')
  refine ⟨_,_,h.upd (z:=z) (s':={ sp g j with to:=x.clock + 1,an:=(e,0,0) }) hc hj (by rw [hf,show z.clock = x.clock + 1 by rw [hz']]; exact hlz) rfl rfl ?_ (fun c' _ e=>by rw [hz']; exact upN_ne _ _ e) (.inr ⟨by rw [hz'],by show x.clock + 1 ≠ BIG; omega,by show 0 ≤ x.clock + 1; omega⟩)⟩
  rw [hz']
  show x.calls.modify (x.o c).toNat _ = _
  rw [hj,Int.toNat_natCast,modify_sp _ jl,hse,hid_not (show (sp g j).to ≠ BIG by rw [c2]; decide),hid_not (show ({ sp g j with to:=x.clock + 1,an:=(e,0,0) }:Sp).to ≠ BIG by show x.clock + 1 ≠ BIG; omega),c3]
 | pop q =>
  have hop:=hI.ri.ok c hc
  rw [hk] at hop
  have hcp:(sp g j).op = (7,0,0,0) ∧ (sp g j).to = -1 ∧ (sp g j).an = (0,0,0):=hcur
  obtain ⟨c1,c2,c3⟩:=hcp
  cases hq:(q.step (arN n lim).R x.s).1 with
  | go ph w i jj =>
   have e1:((AlS.pop q).step (arN n lim) x.s).1 = .pop (.go ph w i jj):=by
    simp only [AlS.step]
    generalize q.step (arN n lim).R x.s = r at hq ⊢
    obtain ⟨r1,r2⟩:=r
    simp only at hq
    subst hq
    rfl
   refine keep (.pop (.go ph w i jj)) e1 rfl ?_ ⟨c1,c2,c3⟩
   cases q <;> rfl
  | done i =>
   have e0:((AlS.pop q).step (arN n lim) x.s).1 = if i < 0 then .lacks else .gives i:=by
    simp only [AlS.step]
    generalize q.step (arN n lim).R x.s = r at hq ⊢
    obtain ⟨r1,r2⟩:=r
    simp only at hq
    subst hq
    rfl
   have how:ow (.al (.pop q)) = []:=by cases q <;> rfl
   by_cases h0:i < 0
   ·rw [if_pos h0] at e0
    exact keep .lacks e0 rfl how.symm ⟨c1,c2,c3⟩
   ·rw [if_neg h0] at e0
    obtain ⟨z,hz⟩:∃ z,z = x.steps (arN n lim) c:=⟨_,rfl⟩
    have hz':z = { x with s:=((AlS.pop q).step (arN n lim) x.s).2,k:=upN x.k c (.al (.gives i)),clock:=x.clock + 1 }:=by
     rw [hz]; unfold CA.steps; rw [hk]; simp only; rw [e0,if_neg (by simp [AlS.over])]
    rw [← hz] at hI' ⊢
    obtain ⟨r1,r2⟩:=free_give (x:=x) hI' hc (y:=.al (.gives i)) (by rw [hk]; exact how) rfl (by rw [hz']) (by rw [hz'])
    have hjW:j ∉ W:=fun k=>by have:=h.lz.wd j k; omega
    have hlz:=h.lz.eff jg (by omega) hjW { sp g j with to:=BIG,an:=(0,i,0) } rfl rfl (now':=x.clock + 1) (.inr rfl) (by omega) (by omega) hB (q':=freeL n z) (by
     rw [c1]
     exact pNext_give (free_ok' hn.2 x) (free_ok' hn.2 z) r1 r2)
    refine ⟨_,_,h.upd (z:=z) (s':={ sp g j with to:=BIG,an:=(0,i,0) }) hc hj (by rw [show z.clock = x.clock + 1 by rw [hz']]; exact hlz) rfl rfl ?_ (fun c' _ e=>by rw [hz']; exact upN_ne _ _ e) (.inl ⟨by rw [hz'],?_⟩)⟩
    ·rw [hid_pend (a:={ sp g j with to:=BIG,an:=(0,i,0) }) (b:=sp g j) (.inl rfl) (.inr ⟨c2,c3⟩) rfl rfl rfl,← hse,set_sp jl,hz']
    ·rw [show z.k c = .al (.gives i) by rw [hz']; exact upN_same _ _ _]
     exact ⟨c1,rfl,rfl⟩
theorem GA.steps (h:GA n x g W) (hI:InvA n lim K x F T) (hI':InvA n lim (K + 1) (x.steps (arN n lim) c) F' T') (hB:x.clock + 1 < BIG) (hc:c < 3):∃ g' W',GA n (x.steps (arN n lim) c) g' W':=by
 cases hk:x.k c with
 | idle=>exact ⟨g,W,by unfold CA.steps; rw [hk]; exact h⟩
 | fe p=>exact h.stepsF hI hB hc hk
 | al p=>exact h.stepsA hI hI' hB hc hk
theorem GA.goes (hn:1 ≤ n ∧ n ≤ 8) (h:GA n x g W) (ho:∀ c,c < 3 → x.o c = -1):Goes (pMac n) x.calls [] (pFirst n) 0:=by
 have hl:=h.len
 have:x.calls = g:=by
  refine List.ext_getElem (by omega) fun i h1 h2=>?_
  have hs:=h.see i h1
  rw [hid_not (fun hB=>by
   obtain ⟨c,c1,c2⟩:=h.busy i h1 (.inl hB)
   have:=ho c c1; omega)] at hs
  unfold sp at hs
  simpa [List.getD,List.getElem?_eq_getElem h1,List.getElem?_eq_getElem h2] using hs
 rw [this]
 exact h.lz.all
end
end Go.Proofs.YtlaojmcekeohnaaGreatDoor.Lift
set_option linter.unusedVariables false
set_option linter.unusedSimpArgs false
set_option maxRecDepth 20000
namespace Go.Proofs.YtlaojmcekeohnaaGreatDoor.Lift
open Go Go.Proofs.YtlaojmcekeohnaaGreatDoor.Gh Go.Proofs
section
variable {own own' own1:Nat → Nat} {G G' G1 G2 G3:GS} {b d t c K:Nat} {n lim T:Int} {F:List Int} {ts:List Nat} {cs:List Value} {x y:CA} {B B':CrB} {v:Value} {A:Ar} {y0:CoS} {s':MS}
structure TabS (own:Nat → Nat) (G:GS):Prop where
 tb:tabs G = true
 t0:own 0 = 20
 t1:own 1 = 20
 n2:2 ≤ G.nx
theorem TabS.to (h:TabS own G) (m:ModT crT own G G') (a:Agr own own' G):TabS own' G':=by
 have hn:=h.n2
 have h0:=m.same (g:=0) (by omega) (by rw [h.t0]; decide)
 have h1:=m.same (g:=1) (by omega) (by rw [h.t1]; decide)
 refine ⟨?_,(a 0 (by omega)).trans h.t0,(a 1 (by omega)).trans h.t1,Nat.le_trans hn m.nx⟩
 have:=h.tb
 unfold tabs at this ⊢
 rw [h0,h1]; exact this
structure InvL (n lim:Int) (K:Nat) (x:CA) (F:List Int) (T:Int):Prop where
 i:InvA n lim K x F T
 g:∃ g W,GA n x g W
theorem InvL.steps (h:InvL n lim K x F T) (hK:K ≤ 100000) (hc:c < 3):∃ F' T',InvL n lim (K + 1) (x.steps (arN n lim) c) F' T' ∧ (x.k c ≠ .idle → mu n ((x.steps (arN n lim) c).s.at' 0) ((x.steps (arN n lim) c).k c) < mu n (x.s.at' 0) (x.k c)):=by
 obtain ⟨F',T',h1,h2⟩:=h.i.steps (by omega) hc
 obtain ⟨g,W,hg⟩:=h.g
 have hck:=h.i.ck
 exact ⟨F',T',⟨h1,hg.steps h.i h1 (by unfold BIG; omega) hc⟩,h2⟩
structure ArgS (own:Nat → Nat) (G:GS) (v:Value) (L:List Int):Prop where
 is:SlR (rowsI .i64) G v L
 tag:∀ g,InB v g → own g = 20
 ts:TabS own G
theorem ArgS.to {L:List Int} (h:ArgS own G v L) (m:ModT crT own G G') (a:Agr own own' G):ArgS own' G' v L :=
 ⟨h.is.kept m.nx fun g hg=>m.same (h.is.under g hg) (by rw [h.tag g hg]; decide),fun g hg=>(a g (h.is.under g hg)).trans (h.tag g hg),h.ts.to m a⟩
theorem steps_in (orc:FuncId → Bool) (hto:orc 270 = false) (hrf:orc 218 = false) (h:CrG own G n lim x B) (hI:InvA n lim K x F T) (hK:K ≤ 100000) (hc:c < 3):Wp ((E orc).cl 83 [P0 B.xb,.int .i64 c] G) (CrPost own G n lim B (x.steps (arN n lim) c) (.bool true)):=by
 cases hk:x.k c with
 | idle =>
  refine steps_idle orc h hc hk ?_
  rcases hI.op c hc with q | q
  ·exact q.2
  ·exact absurd hk q.1
 | al p=>exact steps_al orc hto hrf h hI hK hc hk
 | fe p=>exact steps_fe orc hto h hI hK hc hk
theorem InvA.idle (h:InvA n lim K x F T) (hc:c < 3):x.o c < 0 ↔ x.k c = .idle:=by
 rcases h.op c hc with ⟨q1,q2⟩ | ⟨q1,_,q2,_⟩
 ·exact ⟨fun _=>q1,fun _=>by omega⟩
 ·exact ⟨fun q=>by omega,fun q=>absurd q q1⟩
theorem begins_in (orc:FuncId → Bool) (hrf:orc 218 = false) (h:CrG own G n lim x B) (hI:InvL n lim K x F T) (hK:K ≤ 100000) (hc:c < 3) (hb:x.o c < 0) (q:Bool) (w:Int) (hq:q = true → 0 < x.held.length) :
  Wp ((E orc).cl 82 [P0 B.xb,.int .i64 c,.bool q,.int .i64 w] G) fun r=>r.1 = .tuple #[] ∧ ∃ own' B' x' F' T',B'.xb = B.xb ∧ Agr own own' G ∧ ModT crT own G r.2 ∧ CrG own' r.2 n lim x' B' ∧ InvL n lim (K + 1) x' F' T':=by
 have hk:=(hI.i.idle hc).1 hb
 obtain ⟨gg,WW,hg⟩:=hI.g
 cases q with
 | false =>
  refine Wp.mono (begins_al orc h hI.i hK hc hk _) ?_
  rintro r ⟨h1,own',B',h2,h3,h4,h5,h6⟩
  exact ⟨h1,own',B',_,F,T,h2,h4,h5,h6,⟨hI.i.beginA hc hk,hg.beginA hI.i hc hk⟩⟩
 | true =>
  have hl:=hq rfl
  refine Wp.mono (begins_fr orc hrf h hI.i hK hc hk w hl) ?_
  rintro r ⟨h1,own',B',h2,h3,h4,h5,h6⟩
  have hlt:=Int.emod_lt_of_pos w (show (0:Int) < x.held.length by omega)
  have hge:=Int.emod_nonneg w (show (x.held.length:Int) ≠ 0 by omega)
  exact ⟨h1,own',B',_,F,T,h2,h4,h5,h6,⟨hI.i.beginF hc hk (by omega),hg.beginF hI.i hc hk (by omega)⟩⟩
inductive PlP (n lim:Int) (xb K:Nat) (G:GS):Prop where
 | mk (own':Nat → Nat) (B':CrB) (x':CA) (K':Nat) (F':List Int) (T':Int):B'.xb = xb → CrG own' G n lim x' B' → InvL n lim K' x' F' T' → K' ≤ K → TabS own' G → PlP n lim xb K G
inductive AlP (n lim:Int) (xb K c:Nat) (o:Nat → Int) (G:GS):Prop where
 | mk (own':Nat → Nat) (B':CrB) (x':CA) (K':Nat) (F':List Int) (T':Int):B'.xb = xb → CrG own' G n lim x' B' → InvL n lim K' x' F' T' → K' ≤ K → TabS own' G → x'.o c = -1 → (∀ i,i ≠ c → x'.o i = o i) → AlP n lim xb K c o G
inductive EndP (n lim:Int) (xb:Nat) (G:GS):Prop where
 | mk (own':Nat → Nat) (B':CrB) (x':CA) (K':Nat) (F':List Int) (T':Int):B'.xb = xb → CrG own' G n lim x' B' → InvL n lim K' x' F' T' → K' ≤ 95000 → TabS own' G → (∀ i,i < 3 → x'.o i = -1) → EndP n lim xb G
theorem open_ok (h:CrG own G n lim x B):G.obj B.xb = some ⟨crX n lim x B,1,false,1⟩ ∧ G.obj B.ob = some ⟨[.int .i64 (x.o 0),.int .i64 (x.o 1),.int .i64 (x.o 2)],1,false,1⟩:=⟨h.cx.obj,h.co.obj⟩
set_option maxHeartbeats 1000000 in
theorem plays_lp (orc:FuncId → Bool) (hto:orc 270 = false) (hrf:orc 218 = false) {xb:Nat} {v1:Value} {L:List Int} (hlen:L.length ≤ 1000):∀ (k i:Nat) (τ:Env) (G:GS) (own:Nat → Nat) (B:CrB) (x:CA) (K:Nat) (F:List Int) (T:Int),
  i + k = L.length → τ 0 = P0 xb → τ 1 = v1 → τ 5 = .int .i64 (i:Int) → B.xb = xb → CrG own G n lim x B → ArgS own G v1 L → InvL n lim K x F T → K + k ≤ 90000 →
  Wp ((exL Q orc).lpx 29 0 τ G) fun q=>q.1 = .exit 0 ∧ q.2.1 0 = P0 xb ∧ PlP n lim xb (K + k) q.2.2:=by
 intro k
 induction k with
 | zero =>
  intro i τ G own B x K F T hi t0 t1 t5 hB h ha hI hK
  have hi':i = L.length:=by omega
  obtain ⟨a,c,e0⟩:=ha.is.len
  refine Wp.lp (l29_0 (exL_ok Q orc)) ?_
  subst hi'
  simp [b29_0,bb29_0,clip_t,t0,t1,t5,e0]
  exact .mk own B x K F T hB h hI (Nat.le_refl _) ha.ts
 | succ k ih =>
  intro i τ G own B x K F T hi t0 t1 t5 hB h ha hI hK
  have hlt:i < L.length:=by omega
  have hw:IntKind.wrap .i64 ((i:Int) + 1) = ((i + 1:Nat):Int):=wrap64 (by omega) (by omega)
  have h1:(i:Int) < L.length:=by omega
  have h2:(0:Int) ≤ i:=by omega
  obtain ⟨b,o,cc,e0,_,q,_⟩:=ha.is.at hlt
  have q0:=q 0 (by decide)
  simp at q0
  have ep:=pick_ok orc L[i] 3 (by decide) (by decide) G
  obtain ⟨c,hc⟩:∃ c:Nat,L[i] % 3 = (c:Int):=⟨(L[i] % 3).toNat,by omega⟩
  have hc3:c < 3:=by omega
  rw [hc] at ep
  subst hB
  obtain ⟨hox,hoo⟩:=open_ok h
  have fin:∀ (τ':Env) (G':GS) (own':Nat → Nat) (B':CrB) (x':CA) (F':List Int) (T':Int),B'.xb = B.xb → CrG own' G' n lim x' B' → ArgS own' G' v1 L → InvL n lim (K + 1) x' F' T' → τ' 0 = P0 B.xb → τ' 1 = v1 → τ' 5 = .int .i64 (i:Int) →
    Wp (jbl29_0_0 true (exL Q orc) ((exL Q orc).lpx 29 0) τ' G') fun q=>q.1 = .exit 0 ∧ q.2.1 0 = P0 B.xb ∧ PlP n lim B.xb (K + (k + 1)) q.2.2:=by
   intro τ' G' own' B' x' F' T' hB' h' ha' hI' s0 s1 s5
   simp [-Int.natCast_add,jbl29_0_0,s0,s1,s5,hw]
   refine Wp.mono (ih (i + 1) _ G' own' B' _ (K + 1) F' T' (by omega) ?_ ?_ ?_ hB' h' ha' hI' (by omega)) ?_
   ·simp [clip_t]
   ·simp [clip_t]
   ·simp [clip_t]
   ·rintro q ⟨z1,z2,own3,B3,x3,K3,F3,T3,z3,z4,z5,z6,z7⟩
    exact ⟨z1,z2,.mk own3 B3 x3 K3 F3 T3 z3 z4 z5 (by omega) z7⟩
  clear ih
  refine Wp.lp (l29_0 (exL_ok Q orc)) ?_
  by_cases hb:x.o c < 0
  ·have hR:=h.to (ModT.ext (ts:=[]) ((Ext.refl G).room 23)) (Agr.refl _ _) (by simp)
   have haR:=ha.to (ModT.ext ((Ext.refl G).room 23)) (Agr.refl _ _)
   have on:∀ (q:Bool) (w:Int),(q = true → 0 < x.held.length) → ∃ G2,(E orc).cl 82 [P0 B.xb,.int .i64 c,.bool q,.int .i64 w] (G.room 23) = some (.tuple #[],G2) ∧ ∀ τ':Env,τ' 0 = P0 B.xb → τ' 1 = v1 → τ' 5 = .int .i64 (i:Int) → Wp (jbl29_0_0 true (exL Q orc) ((exL Q orc).lpx 29 0) τ' G2) fun q=>q.1 = .exit 0 ∧ q.2.1 0 = P0 B.xb ∧ PlP n lim B.xb (K + (k + 1)) q.2.2:=fun q w hq=>by
    obtain ⟨⟨r,G2⟩,e2,rfl,own2,B2,x2,F2,T2,g1,g2,g3,g4,i1⟩:=begins_in orc hrf hR hI (by omega) hc3 hb q w hq
    exact ⟨G2,e2,fun τ' s0 s1 s5=>fin τ' G2 own2 B2 x2 F2 T2 g1 g4 (haR.to g3 g2) i1 s0 s1 s5⟩
   have ep2:=fun w=>pick_ok orc w 2 (by decide) (by decide) (G.room 23)
   obtain ⟨ha',hc',eh⟩:=h.hq.is.len
   simp only [crX,eh] at hox
   by_cases hl:0 < x.held.length
   ·obtain ⟨G2,e2,fin2⟩:=on (decide (IntKind.i64.wrap (L[i].tdiv 3) % 2 = 1)) (IntKind.i64.wrap (L[i].tdiv 6)) fun _=>hl
    rcases (show c = 0 ∨ c = 1 ∨ c = 2 by omega) with rfl | rfl | rfl
    all_goals
     simp at ep e2
     simp [-Int.natCast_add,b29_0,bb29_0,jl29_0_0,clip_t,t0,t1,t5,e0,h1,h2,hlt,q0,ep,hox,hoo,hb,hl,ep2,e2]
     subst e0
     refine fin2 _ ?_ ?_ ?_ <;> simp [clip_t]
   ·obtain ⟨G2,e2,fin2⟩:=on false (IntKind.i64.wrap (L[i].tdiv 6)) fun q=>(by cases q)
    have hl0:x.held.length = 0:=by omega
    rw [hl0] at hox
    rcases (show c = 0 ∨ c = 1 ∨ c = 2 by omega) with rfl | rfl | rfl
    all_goals
     simp at ep e2
     simp [-Int.natCast_add,b29_0,bb29_0,jl29_0_0,clip_t,t0,t1,t5,e0,h1,h2,hlt,q0,ep,hox,hoo,hb,ep2,e2]
     subst e0
     refine fin2 _ ?_ ?_ ?_ <;> simp [clip_t]
  ·obtain ⟨⟨r,G2⟩,e2,rfl,own2,B2,g1,g0,g2,g3,g4⟩:=steps_in orc hto hrf h hI.i (by omega) hc3
   obtain ⟨F2,T2,i1,-⟩:=hI.steps (by omega) hc3
   simp only at g3 g4
   simp only [crX] at hox
   have main:∀ oc:Int,oc = x.o c → ¬ oc < 0:=fun oc e=>by rw [e]; exact hb
   rcases (show c = 0 ∨ c = 1 ∨ c = 2 by omega) with rfl | rfl | rfl
   all_goals
    simp at ep e2
    simp [-Int.natCast_add,b29_0,bb29_0,jl29_0_0,clip_t,t0,t1,t5,e0,h1,h2,hlt,q0,ep,hox,hoo,hb,e2]
    subst e0
    refine fin _ G2 own2 B2 _ F2 T2 g1 g4 (ha.to g3 g2) i1 ?_ ?_ ?_ <;> simp [clip_t]
end
end Go.Proofs.YtlaojmcekeohnaaGreatDoor.Lift
set_option linter.unusedVariables false
set_option linter.unusedSimpArgs false
set_option maxRecDepth 20000
namespace Go.Proofs.YtlaojmcekeohnaaGreatDoor.Lift
open Go Go.Proofs.YtlaojmcekeohnaaGreatDoor.Gh Go.Proofs
section
variable {own own' own1:Nat → Nat} {G G' G1 G2 G3:GS} {b d t c K:Nat} {n lim T:Int} {F:List Int} {ts:List Nat} {cs:List Value} {x y:CA} {B B':CrB} {v:Value} {A:Ar} {y0:CoS} {s':MS}
theorem InvA.mu_pos (h:InvA n lim K x F T) (hc:c < 3) (hb:0 ≤ x.o c):1 ≤ mu n (x.s.at' 0) (x.k c):=by
 rcases h.op c hc with ⟨_,q⟩ | ⟨q1,q2,-⟩
 ·omega
 ·have hco:=h.ri.co c hc
  have hok:=h.ri.ok c hc
  cases hk:x.k c with
  | idle=>exact absurd hk q1
  | al p =>
   rw [hk] at hco hok q2
   cases p with
   | pop p =>
    cases p with
    | go ph w i j =>
     unfold mu
     repeat' split
     all_goals omega
    | done i=>exact hco.elim
   | gives i=>exact Nat.le_refl _
   | lacks=>exact Nat.le_refl _
   | done g e=>cases q2
  | fe p =>
   rw [hk] at hco hok q2
   cases p with
   | looks i=>simp [mu]
   | raises i g=>simp [mu]
   | push p =>
    cases p with
    | go ph w i =>
     unfold mu
     repeat' split
     all_goals omega
    | done e=>exact hco.elim
   | wears=>exact Nat.le_refl _
   | done e=>cases q2
theorem steps_o (x:CA) (A:Ar) (c j:Nat) (h:j ≠ c):(x.steps A c).o j = x.o j:=by
 unfold CA.steps
 split
 ·rfl
 ·split
  ·exact upN_ne _ _ h
  ·rfl
 ·split
  ·exact upN_ne _ _ h
  ·rfl
theorem alone_lp (orc:FuncId → Bool) (hto:orc 270 = false) (hrf:orc 218 = false) {xb:Nat} (hc:c < 3):∀ (m j:Nat) (τ:Env) (G:GS) (own:Nat → Nat) (B:CrB) (x:CA) (K:Nat) (F:List Int) (T:Int),
  j + m ≤ 6 → τ 0 = P0 xb → τ 7 = .int .i64 (c:Int) → τ 8 = .int .i64 (j:Int) → B.xb = xb → CrG own G n lim x B → InvL n lim K x F T → TabS own G → K + m ≤ 95000 → (0 ≤ x.o c → mu n (x.s.at' 0) (x.k c) ≤ m) →
  Wp ((exL Q orc).lpx 29 2 τ G) fun q=>q.1 = .exit 4 ∧ q.2.1 0 = P0 xb ∧ q.2.1 7 = .int .i64 (c:Int) ∧ AlP n lim xb (K + m) c x.o q.2.2:=by
 intro m
 induction m with
 | zero =>
  intro j τ G own B x K F T hj t0 t7 t8 hB h hI hts hK hn
  have hb:¬ 0 ≤ x.o c:=fun hb=>by have:=hn hb; have:=hI.i.mu_pos hc hb; omega
  have hb1:x.o c = -1:=by exact (hI.i.op c hc).elim (fun q=>q.2) (fun q=>by omega)
  subst hB
  obtain ⟨hox,hoo⟩:=open_ok h
  simp only [crX] at hox
  refine Wp.lp (l29_2 (exL_ok Q orc)) ?_
  have fin:AlP n lim B.xb K c x.o G:=.mk own B x K F T rfl h hI (Nat.le_refl _) hts hb1 fun _ _=>rfl
  rcases (show c = 0 ∨ c = 1 ∨ c = 2 by omega) with rfl | rfl | rfl
  all_goals
   simp at t7
   simp [b29_2,clip_t,t0,t7,t8,hox,hoo,hb1]
   simpa using fin
 | succ m ih =>
  intro j τ G own B x K F T hj t0 t7 t8 hB h hI hts hK hn
  subst hB
  obtain ⟨hox,hoo⟩:=open_ok h
  simp only [crX] at hox
  have h6:j < 7:=by omega
  have h6':¬ (6:Int) < j:=by omega
  have hw:IntKind.wrap .i64 ((j:Int) + 1) = ((j + 1:Nat):Int):=wrap64 (by omega) (by omega)
  refine Wp.lp (l29_2 (exL_ok Q orc)) ?_
  by_cases hb:0 ≤ x.o c
  ·obtain ⟨⟨r,G2⟩,e2,rfl,own2,B2,g1,g0,g2,g3,g4⟩:=steps_in orc hto hrf h hI.i (by omega) hc
   have hne:x.k c ≠ .idle:=fun q=>by have:=(hI.i.idle hc).2 q; omega
   obtain ⟨F2,T2,i1,i2⟩:=hI.steps (by omega) hc
   have hm:=i2 hne
   have hm0:=hn hb
   simp only at g3 g4
   have hgo:∀ τ':Env,τ' 0 = P0 B.xb → τ' 7 = .int .i64 (c:Int) → τ' 8 = .int .i64 ((j + 1:Nat):Int) → Wp ((exL Q orc).lpx 29 2 τ' G2) fun q=>q.1 = .exit 4 ∧ q.2.1 0 = P0 B.xb ∧ q.2.1 7 = .int .i64 (c:Int) ∧ AlP n lim B.xb (K + (m + 1)) c x.o q.2.2:=by
    intro τ' s0 s7 s8
    refine Wp.mono (ih (j + 1) τ' G2 own2 B2 _ (K + 1) F2 T2 (by omega) s0 s7 s8 g1 g4 i1 (hts.to g3 g2) (by omega) (fun _=>by omega)) ?_
    rintro q ⟨z1,z2,z3,own3,B3,x3,K3,F3,T3,y1,y2,y3,y4,y7,y5,y6⟩
    exact ⟨z1,z2,z3,.mk own3 B3 x3 K3 F3 T3 y1 y2 y3 (by omega) y7 y5 fun i hi=>(y6 i hi).trans (steps_o _ _ _ _ hi)⟩
   rcases (show c = 0 ∨ c = 1 ∨ c = 2 by omega) with rfl | rfl | rfl
   all_goals
    simp at t7 e2
    simp [-Int.natCast_add,b29_2,clip_t,t0,t7,t8,hox,hoo,hb,h6',e2,hw]
    refine hgo _ ?_ ?_ ?_ <;> simp [-Int.natCast_add,clip_t]
  ·have hb1:x.o c = -1:=by exact (hI.i.op c hc).elim (fun q=>q.2) (fun q=>by omega)
   have fin:AlP n lim B.xb (K + (m + 1)) c x.o G:=.mk own B x K F T rfl h hI (by omega) hts hb1 fun _ _=>rfl
   rcases (show c = 0 ∨ c = 1 ∨ c = 2 by omega) with rfl | rfl | rfl
   all_goals
    simp at t7
    simp [b29_2,clip_t,t0,t7,t8,hox,hoo,hb1]
    simpa using fin
theorem cores_lp (orc:FuncId → Bool) (hto:orc 270 = false) (hrf:orc 218 = false) {xb:Nat}:∀ (m c:Nat) (τ:Env) (G:GS) (own:Nat → Nat) (B:CrB) (x:CA) (K:Nat) (F:List Int) (T:Int),c + m = 3 → τ 0 = P0 xb → τ 7 = .int .i64 (c:Int) → B.xb = xb → CrG own G n lim x B → InvL n lim K x F T → TabS own G → K + 6 * m ≤ 95000 → (∀ i,i < c → x.o i = -1) →
  Wp ((exL Q orc).lpx 29 1 τ G) fun q=>q.1 = .exit 2 ∧ q.2.1 0 = P0 xb ∧ EndP n lim xb q.2.2:=by
 intro m
 induction m with
 | zero =>
  intro c τ G own B x K F T hm t0 t7 hB h hI hts hK hi
  obtain rfl:c = 3:=by omega
  refine Wp.lp (l29_1 (exL_ok Q orc)) ?_
  simp at t7
  simp [b29_1,clip_t,t0,t7]
  exact .mk own B x K F T hB h hI (by omega) hts fun i h=>hi i (by omega)
 | succ m ih =>
  intro c τ G own B x K F T hm t0 t7 hB h hI hts hK hi
  have hc:c < 3:=by omega
  have hc':(c:Int) < 3:=by omega
  have hw:IntKind.wrap .i64 ((c:Int) + 1) = ((c + 1:Nat):Int):=wrap64 (by omega) (by omega)
  refine Wp.lp (l29_1 (exL_ok Q orc)) ?_
  simp [-Int.natCast_add,b29_1,clip_t,t0,t7,hc,hc']
  refine Wp.bE (Wp.mono (alone_lp orc hto hrf hc 6 0 _ G own B x K F T (by omega) ?_ ?_ ?_ hB h hI hts (by omega) (fun _=>mu_le _ _ _)) ?_)
  ·simp [clip_t,t0]
  ·simp [clip_t,t7]
  ·simp [clip_t]
  rintro ⟨e1,τ',G'⟩ ⟨rfl,s0,s7,⟨own',B',x',K',F',T',z1,z2,z3,z4,z7,z5,z6⟩⟩
  simp only at s0 s7 z2 z7
  simp [-Int.natCast_add,s0,s7,hw]
  refine Wp.mono (ih (c + 1) _ G' own' B' x' K' F' T' (by omega) ?_ ?_ z1 z2 z3 z7 (by omega) fun i h1=>?_) fun q hq=>hq
  ·simp [clip_t,s0]
  ·simp [-Int.natCast_add,clip_t]
  ·by_cases e:i = c
   ·rw [e]; exact z5
   ·rw [z6 i e]; exact hi i (by omega)
theorem busy_ok (orc:FuncId → Bool) (h:CrG own G n lim x B) (ho:∀ i,i < 3 → x.o i = -1):(E orc).cl 84 [P0 B.xb] G = some (.bool false,G):=by
 refine f84 (exL_ok Q orc) _ G _ ?_
 obtain ⟨hox,hoo⟩:=open_ok h
 simp only [crX] at hox
 simp [s84,hox,hoo,ho 0 (by decide),ho 1 (by decide),ho 2 (by decide)]
theorem plays_in (orc:FuncId → Bool) (hto:orc 270 = false) (hrf:orc 218 = false) {v1:Value} {L:List Int} (hlen:L.length ≤ 1000) (h:CrG own G n lim x B) (ha:ArgS own G v1 L) (hI:InvL n lim 0 x F T) :
  Wp ((E orc).cl 29 [P0 B.xb,v1] G) fun q=>q.1 = .bool true ∧ EndP n lim B.xb q.2:=by
 refine Wp.ref (f29 (exL_ok Q orc) _ _ G) ?_
 simp [s29]
 refine Wp.bE (Wp.mono (plays_lp orc hto hrf hlen L.length 0 _ G own B x 0 F T (by omega) ?_ ?_ ?_ rfl h ha hI (by omega)) ?_)
 ·simp
 ·simp
 ·simp
 rintro ⟨e1,τ',G'⟩ ⟨rfl,s0,⟨own',B',x',K',F',T',z1,z2,z3,z4,z5⟩⟩
 simp only at s0 z2 z5
 simp
 refine Wp.bE (Wp.mono (cores_lp orc hto hrf (xb:=B.xb) 3 0 _ G' own' B' x' K' F' T' (by omega) ?_ ?_ z1 z2 z3 z5 (by omega) (fun i h=>by omega)) ?_)
 ·simp [s0]
 ·simp
 rintro ⟨e2,τ2,G2⟩ ⟨rfl,s2,⟨own2,B2,x2,K2,F2,T2,y1,y2,y3,y4,y6,y5⟩⟩
 simp only at s2 y2 y6
 have eb:=busy_ok orc y2 y5
 rw [y1] at eb
 simp [s2,eb]
 exact .mk own2 B2 x2 K2 F2 T2 y1 y2 y3 y4 y6 y5
end
end Go.Proofs.YtlaojmcekeohnaaGreatDoor.Lift
set_option linter.unusedVariables false
set_option linter.unusedSimpArgs false
set_option maxRecDepth 20000
namespace Go.Proofs.YtlaojmcekeohnaaGreatDoor.Lift
open Go Go.Proofs.YtlaojmcekeohnaaGreatDoor.Gh Go.Proofs
theorem ext_drawn {A G:GS} (h:Ext A G) {n:Nat} (hn:A.nx ≤ n) (o:GObj):Ext A (((G.at' n).push o).back G):=((h.modP fun _=>False).drawn hn o).ext
set_option maxHeartbeats 2000000 in
theorem begun_in (orc:FuncId → Bool) (hto:orc 270 = false) {n:Nat} {lim:Int} (h1:1 ≤ n ∧ n ≤ 8) (hl:1 ≤ lim ∧ lim ≤ 1000) (G:GS):∃ own' B G',(E orc).cl 28 [.int .i64 n,.int .i64 lim] G = some (P0 B.xb,G') ∧ Ext G G' ∧ CrG own' G' n lim (CA.init n lim) B ∧ ∀ g,g < G.nx → own' g = 20:=by
 have w:Wp ((E orc).cl 28 [.int .i64 n,.int .i64 lim] G) fun q=>∃ B own',q.1 = P0 B.xb ∧ Ext G q.2 ∧ CrG own' q.2 n lim (CA.init n lim) B ∧ ∀ g,g < G.nx → own' g = 20:=by
  refine Wp.ref (f28 (exL_ok Q orc) _ _ G) ?_
  have hz33:z71 = [.int .i64 0,.int .i64 0,.int .i64 0,.int .i64 0,.int .i64 0,.int .i64 0]:=rfl
  obtain ⟨G3,hG3⟩:∃ G3,G3 = (G.push ⟨z71,1,false,1⟩).put G.nx ⟨(arN n lim).cells,1,false,1⟩:=⟨_,rfl⟩
  have x3:Ext G G3:=by rw [hG3]; exact ((Ext.refl G).push _).put (Nat.le_refl _) _
  have n3:G3.nx = G.nx + 1:=by rw [hG3]; rfl
  have o3:G3.obj G.nx = some ⟨(arN n lim).cells,1,false,1⟩:=by rw [hG3]; simp
  obtain ⟨m,G6,e6,x6,hm6⟩:=(new_ok orc (2 + 2 * (n:Int)) G3).2 (by omega) (by omega)
  have n6:=x6.nx
  have o6:=(x6.obj G.nx (by omega)).trans o3
  obtain ⟨own0,hown0⟩:∃ own0:Nat → Nat,own0 = fun g=>if g < G.nx then 20 else if g < G3.nx then 13 else 10:=⟨_,rfl⟩
  have p6:PM own0 G6 m (MS.zero (2 + 2 * (n:Int)).toNat):=PMx.mono hm6 (fun g hg=>⟨hg.2,by have:=hg.1; rw [hown0]; simp only; rw [if_neg (by omega),if_neg (by omega)]⟩) Tag.under
  obtain ⟨own1,G17,e17,w17⟩:=afill_ok orc hto (arN_ok (n:=n) (by omega) hl) p6
  have n17:=w17.nx
  have tG:own0 G.nx = 13:=by rw [hown0]; simp only; rw [if_neg (by omega),if_pos (by omega)]
  have o17:=(w17.keep (g:=G.nx) (by omega) (by rw [tG]; decide) id).trans o6
  obtain ⟨R,hR⟩:∃ R,R = G17.room 9:=⟨_,rfl⟩
  have nR:R.nx = G17.nx + 9:=by rw [hR]; rfl
  obtain ⟨G20,hG20⟩:∃ G20,G20 = ((R.at' (G17.nx + 2)).push ⟨[.pointer none,.pointer none,.pointer none],1,false,1⟩).back R:=⟨_,rfl⟩
  obtain ⟨G22,hG22⟩:∃ G22,G22 = ((G20.at' (G17.nx + 3)).push ⟨[.pointer none,.pointer none,.pointer none],1,false,1⟩).back G20:=⟨_,rfl⟩
  obtain ⟨G24,hG24⟩:∃ G24,G24 = ((G22.at' (G17.nx + 4)).push ⟨[.int .u64 0,.int .u64 0,.int .u64 0],1,false,1⟩).back G22:=⟨_,rfl⟩
  obtain ⟨G26,hG26⟩:∃ G26,G26 = ((G24.at' (G17.nx + 5)).push ⟨[.int .i64 (-1),.int .i64 (-1),.int .i64 (-1)],1,false,1⟩).back G24:=⟨_,rfl⟩
  obtain ⟨B,hB⟩:∃ B:CrB,B = ⟨m,G17.nx + 7,G17.nx + 2,G17.nx + 3,G17.nx + 4,G17.nx + 5,.slice none 0 0,.slice none 0 0,fun _=>0,fun _=>0⟩:=⟨_,rfl⟩
  obtain ⟨G29,hG29⟩:∃ G29,G29 = ((G26.at' (G17.nx + 7)).push ⟨crX n lim (CA.init n lim) B,1,false,1⟩).back G26:=⟨_,rfl⟩
  have n20:G20.nx = R.nx:=by rw [hG20]; rfl
  have n22:G22.nx = R.nx:=by rw [hG22,← n20]; rfl
  have n24:G24.nx = R.nx:=by rw [hG24,← n22]; rfl
  have n26:G26.nx = R.nx:=by rw [hG26,← n24]; rfl
  have n29:G29.nx = R.nx:=by rw [hG29,← n26]; rfl
  have x29:Ext G17 G29:=by
   rw [hG29,hG26,hG24,hG22,hG20,hR]
   exact ext_drawn (ext_drawn (ext_drawn (ext_drawn (ext_drawn ((Ext.refl _).room 9) (by omega) _) (by omega) _) (by omega) _) (by omega) _) (by omega) _
  have xb:G29.obj (G17.nx + 7) = some ⟨crX n lim (CA.init n lim) B,1,false,1⟩:=by rw [hG29]; simp
  have ob:G29.obj (G17.nx + 5) = some ⟨[.int .i64 (-1),.int .i64 (-1),.int .i64 (-1)],1,false,1⟩:=by rw [hG29,hG26]; simp
  have kb:G29.obj (G17.nx + 4) = some ⟨[.int .u64 0,.int .u64 0,.int .u64 0],1,false,1⟩:=by rw [hG29,hG26,hG24]; simp
  have fb:G29.obj (G17.nx + 3) = some ⟨[.pointer none,.pointer none,.pointer none],1,false,1⟩:=by rw [hG29,hG26,hG24,hG22]; simp
  have ab:G29.obj (G17.nx + 2) = some ⟨[.pointer none,.pointer none,.pointer none],1,false,1⟩:=by rw [hG29,hG26,hG24,hG22,hG20]; simp
  obtain ⟨own2,hown⟩:∃ own2:Nat → Nat,own2 = fun g=>if g < G17.nx then own1 g else if g = G17.nx + 7 then 1 else if g = G17.nx + 2 then 2 else if g = G17.nx + 3 then 14 else if g = G17.nx + 4 then 15 else if g = G17.nx + 5 then 16 else 13:=⟨_,rfl⟩
  have tg:∀ i,i < 9 → own2 (G17.nx + i) = if i = 7 then 1 else if i = 2 then 2 else if i = 3 then 14 else if i = 4 then 15 else if i = 5 then 16 else 13:=fun i hi=>by
   rw [hown]; simp only
   rw [if_neg (by omega)]
   simp
  have hm29:PM own2 G29 m (CA.init n lim).s:=PMx.mono (PMx.ext w17.pm x29) (fun g hg=>⟨Nat.lt_of_lt_of_le hg.1 x29.nx,by rw [hown]; simp only; rw [if_pos hg.1]; exact hg.2⟩) Tag.under
  have mG:Ext G G17:=ModP.tail (x3.trans x6) w17.stp.mod fun g hg=>by
   rcases hg with hg | hg
   ·rw [hown0] at hg
    simp only at hg
    by_cases k:g < G.nx
    ·rw [if_pos k] at hg; cases hg
    ·omega
   ·exact hg.elim
  have hCr:CrG own2 G29 n lim (CA.init n lim) B:=by
   have tx:=tg 7 (by omega)
   have tp:=tg 2 (by omega)
   have tv:=tg 3 (by omega)
   have th:=tg 4 (by omega)
   have to:=tg 5 (by omega)
   simp at tx tp tv th to
   have nb:∀ g,¬ InB (.slice none 0 0) g:=fun g ⟨a,n',c',h,_⟩=>by cases h
   rw [hB] at xb ⊢
   exact ⟨⟨by show G17.nx + 7 < _; omega,tx,xb⟩,⟨by show G17.nx + 2 < _; omega,tp,ab⟩,⟨by show G17.nx + 3 < _; omega,tv,fb⟩,⟨by show G17.nx + 4 < _; omega,th,kb⟩,⟨by show G17.nx + 5 < _; omega,to,ob⟩,hm29,OwR.nil _ _,fun g hg=>absurd hg (nb g),OwR.nil _ _,fun g hg=>absurd hg (nb g),fun c _=>trivial⟩
  refine Wp.mono (Q:=fun q=>q = (P0 B.xb,G29)) ?_ (fun q hq=>by
   subst hq
   exact ⟨B,own2,rfl,mG.trans x29,hCr,fun g hg=>by
    rw [hown]; simp only; rw [if_pos (by have:=mG.nx; omega),w17.stp.agr g (by omega),hown0]; simp only; rw [if_pos hg]⟩)
  have hz:z76 = [.int .i64 0,.int .i64 0,.int .i64 0,.int .i64 0,.int .i64 0,.int .i64 0,.pointer none,.slice none 0 0,.slice none 0 0,.slice none 0 0,.slice none 0 0,.slice none 0 0,.slice none 0 0,.int .i64 0]:=rfl
  have hz31:z69 = [.int .i64 0,.int .i64 0,.int .i64 0]:=rfl
  have hr:(arN n lim).cells = [.int .i64 0,.int .i64 1,.int .i64 n,.int .i64 (1 + n),.int .i64 (1 + 2 * n),.int .i64 lim]:=rfl
  have hv:(arN n lim).v = .agg ⟨[.int .i64 0,.int .i64 1,.int .i64 n,.int .i64 (1 + n),.int .i64 (1 + 2 * n),.int .i64 lim]⟩:=rfl
  have hBx:B.xb = G17.nx + 7:=by rw [hB]
  have hcr:crX n lim (CA.init n lim) B = [.int .i64 0,.int .i64 1,.int .i64 n,.int .i64 (1 + n),.int .i64 (1 + 2 * n),.int .i64 lim,P0 m,.slice (some ⟨G17.nx + 2,0,none⟩) 3 3,.slice (some ⟨G17.nx + 3,0,none⟩) 3 3,.slice none 0 0,.slice (some ⟨G17.nx + 4,0,none⟩) 3 3,.slice none 0 0,.slice (some ⟨G17.nx + 5,0,none⟩) 3 3,.int .i64 0]:=by rw [hB]; rfl
  rw [hcr] at hG29
  rw [hr] at o3 o6 o17 hG3
  rw [hv] at e17
  rw [hz33] at hG3
  clear hCr
  have w1:IntKind.wrap .i64 (1 + (n:Int)) = 1 + (n:Int):=wrap64 (by omega) (by omega)
  have w2:IntKind.wrap .i64 (2 * (n:Int)) = 2 * (n:Int):=wrap64 (by omega) (by omega)
  have w3:IntKind.wrap .i64 (1 + 2 * (n:Int)) = 1 + 2 * (n:Int):=wrap64 (by omega) (by omega)
  have w4:IntKind.wrap .i64 (2 + 2 * (n:Int)) = 2 + 2 * (n:Int):=wrap64 (by omega) (by omega)
  have mk3:∀ (z:Value) (G:GS),mkK 1 8 [z] 3 3 G = some (.slice (some ⟨G.nx,0,none⟩) 3 3,G.push ⟨[z,z,z],1,false,1⟩):=by
   intro z G
   unfold mkK
   rw [if_pos (by decide)]
   rfl
  have hr3:rep [Value.int .i64 0] 3 = [.int .i64 0,.int .i64 0,.int .i64 0]:=rfl
  have hzs:z22 = [.int .u64 0]:=rfl
  have hzi:z3 = [.int .i64 0]:=rfl
  have hza:z249 = [.pointer none]:=rfl
  have hzf:z150 = [.pointer none]:=rfl
  simp [-Int.natCast_add,s28,hz,hz33,hz31,hzs,hzi,hza,hzf,← hG3,w1,w2,w3,w4,e6,o3,o6,e17,o17,mk3,hr3,← hR,← hG20]
  simp [← hG22]
  simp [← hG24]
  simp [← hG26]
  have oR:R.obj G.nx = some ⟨[.int .i64 0,.int .i64 1,.int .i64 n,.int .i64 (1 + n),.int .i64 (1 + 2 * n),.int .i64 lim],1,false,1⟩:=by rw [hR]; simpa using o17
  simp [hBx,hG29,oR]
 obtain ⟨⟨v,G'⟩,e,B,own',rfl,h1,h2,h3⟩:=w
 exact ⟨own',B,G',e,h1,h2,h3⟩
end Go.Proofs.YtlaojmcekeohnaaGreatDoor.Lift
set_option linter.unusedVariables false
set_option linter.unusedSimpArgs false
set_option maxRecDepth 20000
namespace Go.Proofs.YtlaojmcekeohnaaGreatDoor.Lift
open Go Go.Proofs.YtlaojmcekeohnaaGreatDoor.Gh Go.Proofs
section
variable {G:GS}
theorem GA.init {n:Nat} (h:1 ≤ n ∧ n ≤ 8) (lim:Int):GA n (CA.init n lim) [] []:=by
 have hf:freeL (n:Int) (CA.init n lim) = pFirst n:=(pFirst_free (by omega) (x:=CA.init n lim) fun a=>rfl).symm
 refine ⟨by rw [hf]; exact Lz2.nil _,rfl,fun i hi=>by simp [CA.init] at hi,fun c _ j hj=>?_,fun c _ j hj=>?_,fun c _=>?_,fun a b _ _ _ h=>?_,fun i hi=>by simp [CA.init] at hi,fun i hi=>by simp [CA.init] at hi,fun i hi=>by simp [CA.init] at hi⟩
 all_goals (try simp [CA.init] at *)
theorem arenaPool (orc:FuncId → Bool) (hto:orc 270 = false) (hrf:orc 218 = false) (hkn:orc 27 = true) (ht:tabs G = true) (h2:2 ≤ G.nx) {v1:Value} {L:List Int} (hL:SlR (rowsI .i64) G v1 L) (z:Int) :
  Wp ((E orc).cl 7 [.int .i64 z,v1] G) fun q=>q.1 = .bool true:=by
 refine Wp.ref (f7 (exL_ok Q orc) _ _ G) ?_
 obtain ⟨va,vc,ev⟩:=hL.len
 have l1:∀ t,ln Q true t v1 = some (.int .i64 L.length):=fun t=>by rw [ev]; simp
 have ek:=cl_orcT Q orc hkn G (hasTab_at Q ht)
 by_cases c1:70 < L.length
 ·have c1':(70:Int) < L.length:=by omega
  simp [s7,l1,ek,c1,c1']
 have c1':¬ (70:Int) < L.length:=by omega
 have ep:=pick_ok orc z 4 (by decide) (by decide) G
 obtain ⟨n,hn⟩:∃ n:Nat,1 + z % 4 = (n:Int):=⟨(1 + z % 4).toNat,by omega⟩
 have h1:1 ≤ n ∧ n ≤ 8:=by omega
 have h4:n ≤ 4:=by omega
 have hw:IntKind.wrap .i64 (1 + z % 4) = (n:Int):=by rw [hn]; exact wrap64 (by omega) (by omega)
 obtain ⟨own1,B,G8,e8,x8,h8,t8⟩:=begun_in orc hto h1 (lim:=1000) (by omega) G
 have ts:TabS own1 G8:=⟨tabs_extP x8 ht h2,t8 0 (by omega),t8 1 (by omega),Nat.le_trans h2 x8.nx⟩
 have ha:ArgS own1 G8 v1 L:=⟨hL.ext x8,fun g hg=>t8 g (hL.under g hg),ts⟩
 obtain ⟨⟨r,G14⟩,e14,rfl,⟨own',B',x',K',F',T',y1,y2,y3,y4,y6,y5⟩⟩:=plays_in orc hto hrf (by omega) h8 ha ⟨InvA.init 1000 n h1 (by omega),[],[],GA.init h1 1000⟩
 simp only at y2 y6
 obtain ⟨g,W,hg⟩:=y3.g
 have cx:=y2.cx.obj
 rw [y1] at cx
 obtain ⟨qa,qc,eq⟩:=y2.hc.is.len
 have hcl:ln Q true 38 B'.cv = some (.int .i64 x'.calls.length):=by rw [eq]; simp
 simp only [crX] at cx
 by_cases c2:8 < x'.calls.length
 ·have c2':(8:Int) < x'.calls.length:=by omega
  simp [s7,l1,ek,c1,c1',ep,hw,e8,e14,cx,hcl,c2,c2']
 have c2':¬ (8:Int) < x'.calls.length:=by omega
 have r17:=(Ext.refl G14).room 18
 have cx17:=(r17.obj _ (by rw [← y1]; exact y2.cx.lt)).trans cx
 have hc17:=(y2.hc.is).ext r17
 have nd:(x'.calls.map (·.id)).Nodup:=by
  refine List.pairwise_iff_getElem.2 fun i j h1 h2 hij=>?_
  simp only [List.length_map] at h1 h2
  have e1:=hg.id i h1
  have e2:=hg.id j h2
  unfold sp at e1 e2
  simp [List.getD,List.getElem?_eq_getElem h1] at e1
  simp [List.getD,List.getElem?_eq_getElem h2] at e2
  simp only [List.getElem_map]
  omega
 have hgo:=hg.goes (by omega) (fun c hc=>y5 c hc)
 have told:∀ i,i < x'.calls.length → 0 ≤ (sp x'.calls i).to:=fun i hi=>by
  have hnb:¬ ((sp g i).to = BIG ∨ (sp g i).to < 0):=fun k=>by
   obtain ⟨c,q1,q2⟩:=hg.busy i hi k
   have:=y5 c q1; omega
  rw [hg.see i hi,hid_not (fun k=>hnb (.inl k))]
  omega
 have hm:MayOk 3 n x'.calls:=⟨⟨by decide,by decide⟩,⟨by omega,by omega⟩,by omega,fun _=>?_,nd⟩
 ·have okl:∀ c ∈ x'.calls,okOp c.op:=fun c hc=>by
   obtain ⟨i,hi,rfl⟩:=List.getElem_of_mem hc
   have:=hg.ok i hi
   unfold sp at this
   simpa [List.getD,List.getElem?_eq_getElem hi] using this
  obtain ⟨⟨r,G31⟩,e31,x31,h31⟩:=orderP orc (tabs_extP r17 y6.tb y6.n2) (Nat.le_trans y6.n2 r17.nx) hc17 okl n hm
  rcases h31 with ⟨rfl,hgn⟩ | ⟨outv,row,s2,rfl,_⟩
  ·exact absurd hgo hgn
  ·simp [s7,l1,ek,c1,c1',ep,hw,e8,e14,cx,hcl,c2,c2',cx17,e31,pExtract,getN_zero,getN_succ,clip_t]
 ·unfold looseP
  rw [List.filter_eq_nil_iff.2 fun a ha=>?_]
  ·simp
  ·obtain ⟨i,hi,rfl⟩:=List.getElem_of_mem ha
   have:=told i hi
   unfold sp at this
   simp only [List.getD,List.getElem?_eq_getElem hi,Option.getD_some] at this
   simp [isLoose]
   intro h
   omega
end
end Go.Proofs.YtlaojmcekeohnaaGreatDoor.Lift
