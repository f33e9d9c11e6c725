import Derived.Test.YtlaojmcekeohnaaGreatDoorXE
import Derived.Test.YtlaojmcekeohnaaGreatDoorXC
import Derived.Test.YtlaojmcekeohnaaGreatDoorXF
set_option linter.unusedVariables false
set_option linter.unusedSimpArgs false
namespace Go.Proofs.YtlaojmcekeohnaaGreatDoor.Lift
open Go
section
variable {α:Type} {m:Mac α} {l l':List Sp}
theorem way_mono (hlen:l.length ≤ l'.length) {W:List Nat} (hop:∀ a ∈ W,(sp l' a).op = (sp l a).op) (ht:∀ a ∈ W,∀ (s:List α) an,an ∈ toldP m s (sp l a) → an ∈ toldP m s (sp l' a)) (hr:∀ a ∈ W,∀ d,rdyP l d a → rdyP l' d a) {s s2:List α} {d d2:Nat} (h:Way m l s d W s2 d2):Way m l' s d W s2 d2:=by
 induction h with
 | nil=>exact .nil _ _
 | @cons s d a an s1 r s2 d2 h1 h2 h3 h4 h5 ih =>
  refine .cons (Nat.lt_of_lt_of_le h1 hlen) (hr a (List.mem_cons_self ..) d h2) (ht a (List.mem_cons_self ..) s an h3) (by rw [hop a (List.mem_cons_self ..)]; exact h4) (ih (fun x hx=>hop x (List.mem_cons_of_mem _ hx)) (fun x hx=>ht x (List.mem_cons_of_mem _ hx)) fun x hx=>hr x (List.mem_cons_of_mem _ hx))
structure Lz (m:Mac α) (l:List Sp) (W:List Nat) (q:List α) (now:Int):Prop where
 way:Way m l m.first 0 W q (dn W 0)
 ended:∀ i,i < l.length → 0 ≤ (sp l i).to → i ∈ W
 clk:∀ i,i < l.length → (sp l i).fr ≤ now ∧ (sp l i).to ≤ now
theorem sp_set {l:List Sp} {j:Nat} (c:Sp) (hj:j < l.length) (i:Nat):sp (l.set j c) i = if i = j then c else sp l i:=by
 unfold sp
 simp only [List.getD,List.getElem?_set]
 by_cases h:i = j
 ·subst h; simp [hj]
 ·have:¬ j = i:=fun e=>h e.symm
  simp [h,this]
theorem sp_app {l:List Sp} (c:Sp) (i:Nat):sp (l ++ [c]) i = if i < l.length then sp l i else if i = l.length then c else default:=by
 unfold sp
 simp only [List.getD]
 by_cases h:i < l.length
 ·rw [if_pos h,List.getElem?_append_left h]
 ·rw [if_neg h,List.getElem?_append_right (by omega)]
  by_cases h2:i = l.length
  ·subst h2; simp
  ·have:i - l.length ≠ 0:=by omega
   obtain ⟨n,hn⟩:=Nat.exists_eq_succ_of_ne_zero this
   rw [hn]; simp [h2]
theorem Lz.begin {W:List Nat} {q:List α} {now:Int} (h:Lz m l W q now) (hn:0 ≤ now) (c:Sp) (hc:c.to = -1) (hf:c.fr = now + 1):Lz m (l ++ [c]) W q (now + 1):=by
 have hW:∀ a ∈ W,a < l.length:=fun a ha=>((way_fresh h.way).1 a ha).2
 have hs:∀ a,a < l.length → sp (l ++ [c]) a = sp l a:=fun a ha=>by rw [sp_app,if_pos ha]
 refine ⟨way_mono (by simp) (fun a ha=>by rw [hs a (hW a ha)]) (fun a ha s an=>by rw [hs a (hW a ha)]; exact id) (fun a ha d hr=>⟨hr.1,fun i hi hne hb=>?_⟩) h.way,fun i hi ht=>?_,fun i hi=>?_⟩
 ·rw [hs a (hW a ha),sp_app]
  by_cases h1:i < l.length
  ·rw [if_pos h1]; exact hr.2 i h1 hne hb
  ·rw [if_neg h1,if_pos (by simp at hi; omega)]
   unfold ahead; rw [hc]; rfl
 ·rw [sp_app] at ht
  by_cases h1:i < l.length
  ·rw [if_pos h1] at ht; exact h.ended i h1 ht
  ·rw [if_neg h1,if_pos (by simp at hi; omega),hc] at ht; omega
 ·rw [sp_app]
  by_cases h1:i < l.length
  ·rw [if_pos h1]; have:=h.clk i h1; omega
  ·rw [if_neg h1,if_pos (by simp at hi; omega),hc,hf]; omega
end
end Go.Proofs.YtlaojmcekeohnaaGreatDoor.Lift
set_option linter.unusedVariables false
set_option linter.unusedSimpArgs false
namespace Go.Proofs.YtlaojmcekeohnaaGreatDoor.Lift
open Go
section
variable {α:Type} {m:Mac α} {l:List Sp}
theorem Lz.nil (now:Int):Lz m [] [] m.first now:=⟨.nil _ _,fun i hi=>by simp at hi,fun i hi=>by simp at hi⟩
theorem Lz.all {W:List Nat} {q:List α} {now:Int} (h:Lz m l W q now):Goes m l [] m.first 0 :=
 ⟨W,q,dn W 0,by simpa using h.way,fun i hi ht=>((way_fresh h.way).2.2 i).2 (.inr (h.ended i hi ht))⟩
end
end Go.Proofs.YtlaojmcekeohnaaGreatDoor.Lift
set_option linter.unusedVariables false
set_option linter.unusedSimpArgs false
set_option linter.unnecessarySimpa false
namespace Go.Proofs.YtlaojmcekeohnaaGreatDoor.Lift
open Go
theorem or1_bit (d a i:Nat):(d ||| 1 <<< a).testBit i = true ↔ d.testBit i = true ∨ i = a:=by
 rw [Nat.testBit_or,Nat.testBit_shiftLeft]
 by_cases hi:i = a
 ·subst hi; simp
 ·simp only [hi,or_false,Bool.or_eq_true,Bool.and_eq_true,decide_eq_true_eq,or_iff_left_iff_imp]
  rintro ⟨h,k⟩
  have:Nat.testBit 1 (i - a) = true → i - a = 0:=by
   intro h
   by_cases h0:i - a = 0
   ·exact h0
   ·obtain ⟨n,hn⟩:∃ n,i - a = n + 1:=⟨i - a - 1,by omega⟩
    rw [hn] at h; simp [Nat.testBit_succ] at h
  have:=this k
  omega
theorem dn_bit:∀ (row:List Nat) (d i:Nat),(dn row d).testBit i = true ↔ d.testBit i = true ∨ i ∈ row
 | [],d,i=>by simp [dn]
 | a :: row,d,i=>by
  have:=dn_bit row (d ||| 1 <<< a) i
  show (dn row (d ||| 1 <<< a)).testBit i = true ↔ _
  rw [this,or1_bit,List.mem_cons]
  constructor
  ·rintro ((h | h) | h)
   ·exact .inl h
   ·exact .inr (.inl h)
   ·exact .inr (.inr h)
  ·rintro (h | h | h)
   ·exact .inl (.inl h)
   ·exact .inl (.inr h)
   ·exact .inr h
theorem dn0_bit (row:List Nat) (i:Nat):(dn row 0).testBit i = true ↔ i ∈ row:=by rw [dn_bit]; simp
theorem dn_snoc (row:List Nat) (a:Nat):dn (row ++ [a]) 0 = dn row 0 ||| 1 <<< a:=by simp [dn,List.foldl_append]
theorem bit_false {d i:Nat} (h:¬ d.testBit i = true):d.testBit i = false:=by simpa using h
section
variable {α:Type} {m:Mac α} {l l':List Sp}
theorem way_ren (f:Nat → Nat) (hinj:∀ a b,a < l.length → b < l.length → f a = f b → a = b) (hlt:∀ i,i < l.length → f i < l'.length) (hsur:∀ j,j < l'.length → ∃ i,i < l.length ∧ f i = j) (hsp:∀ i,i < l.length → sp l' (f i) = sp l i) {s s2:List α} {d d2:Nat} {W:List Nat} (h:Way m l s d W s2 d2) :
  ∀ pre:List Nat,d = dn pre 0 → (∀ a ∈ pre,a < l.length) → Way m l' s (dn (pre.map f) 0) (W.map f) s2 (dn ((pre ++ W).map f) 0):=by
 induction h with
 | nil=>intro pre _ _; rw [List.append_nil]; exact .nil _ _
 | @cons s d a an s1 r s2 d2 h1 h2 h3 h4 h5 ih =>
  intro pre hd hp
  have k:=ih (pre ++ [a]) (by rw [dn_snoc,hd]) (fun x hx=>by
   rcases List.mem_append.1 hx with hx | hx
   ·exact hp x hx
   ·rw [List.mem_singleton.1 hx]; exact h1)
  rw [List.map_append,List.map_singleton,dn_snoc] at k
  have e:pre ++ [a] ++ r = pre ++ a :: r:=by simp
  rw [e] at k
  refine .cons (hlt a h1) ⟨bit_false fun hb=>?_,fun i' hi' hne hb=>?_⟩ (by rw [show toldP m s (sp l' (f a)) = toldP m s (sp l a) by rw [hsp a h1]]; exact h3) (by rw [hsp a h1]; exact h4) k
  ·obtain ⟨b,hb1,hb2⟩:=List.mem_map.1 ((dn0_bit _ _).1 hb)
   have:=hinj b a (hp b hb1) h1 hb2
   have h20:=h2.1
   rw [hd,(dn0_bit pre a).2 (this ▸ hb1)] at h20
   cases h20
  ·obtain ⟨i,hi,rfl⟩:=hsur i' hi'
   rw [hsp i hi,hsp a h1]
   refine h2.2 i hi (fun e=>hne (by rw [e])) (bit_false fun hb'=>?_)
   rw [hd] at hb'
   have:=(dn0_bit (pre.map f) (f i)).2 (List.mem_map.2 ⟨i,(dn0_bit _ _).1 hb',rfl⟩)
   rw [this] at hb; cases hb
def BIG:Int:=1000000
structure Lz2 (m:Mac α) (l:List Sp) (W:List Nat) (q:List α) (now:Int):Prop where
 way:Way m l m.first 0 W q (dn W 0)
 ended:∀ i,i < l.length → 0 ≤ (sp l i).to → i ∈ W
 clk:∀ i,i < l.length → (sp l i).fr ≤ now ∧ ((sp l i).to ≤ now ∨ (sp l i).to = BIG)
 wd:∀ a ∈ W,0 ≤ (sp l a).to
variable {W:List Nat} {q q':List α} {now now' t:Int}
theorem Lz2.nil (now:Int):Lz2 m [] [] m.first now:=⟨.nil _ _,fun i hi=>by simp at hi,fun i hi=>by simp at hi,fun a ha=>by simp at ha⟩
theorem Lz2.tick (h:Lz2 m l W q now) (hn:now ≤ now'):Lz2 m l W q now':=⟨h.way,h.ended,fun i hi=>by have:=h.clk i hi; omega,h.wd⟩
theorem Lz2.inn (h:Lz2 m l W q now):∀ a ∈ W,a < l.length:=fun a ha=>((way_fresh h.way).1 a ha).2
theorem Lz2.begin (h:Lz2 m l W q now) (c:Sp) (hc:c.to = -1) (hf:c.fr ≤ now) (hn:-1 ≤ now):Lz2 m (l ++ [c]) W q now:=by
 have hW:=h.inn
 have hs:∀ a,a < l.length → sp (l ++ [c]) a = sp l a:=fun a ha=>by rw [sp_app,if_pos ha]
 refine ⟨way_mono (by simp) (fun a ha=>by rw [hs a (hW a ha)]) (fun a ha s an=>by rw [hs a (hW a ha)]; exact id) (fun a ha d hr=>⟨hr.1,fun i hi hne hb=>?_⟩) h.way,fun i hi ht=>?_,fun i hi=>?_,fun a ha=>by rw [hs a (hW a ha)]; exact h.wd a ha⟩
 ·rw [hs a (hW a ha),sp_app]
  by_cases h1:i < l.length
  ·rw [if_pos h1]; exact hr.2 i h1 hne hb
  ·rw [if_neg h1,if_pos (by simp at hi; omega)]
   unfold ahead; rw [hc]; rfl
 ·rw [sp_app] at ht
  by_cases h1:i < l.length
  ·rw [if_pos h1] at ht; exact h.ended i h1 ht
  ·rw [if_neg h1,if_pos (by simp at hi; omega),hc] at ht; omega
 ·rw [sp_app]
  by_cases h1:i < l.length
  ·rw [if_pos h1]; exact h.clk i h1
  ·rw [if_neg h1,if_pos (by simp at hi; omega),hc]; omega
theorem Lz2.eff (h:Lz2 m l W q now) {j:Nat} (hj:j < l.length) (hp:(sp l j).to < 0) (hjW:j ∉ W) (s':Sp) (hop:s'.op = (sp l j).op) (hfr:s'.fr = (sp l j).fr) (hto:s'.to = now' ∨ s'.to = BIG) (hn:now ≤ now') (h0:0 ≤ now') (hb:now' < BIG) (hq:m.next q (sp l j).op s'.an = some q'):Lz2 m (l.set j s') (W ++ [j]) q' now':=by
 have hf:=way_fresh h.way
 have hW:=h.inn
 have hB:(0:Int) < BIG:=by decide
 have hs:∀ i,i ≠ j → sp (l.set j s') i = sp l i:=fun i hi=>by rw [sp_set _ hj,if_neg hi]
 have hsj:sp (l.set j s') j = s':=by rw [sp_set _ hj,if_pos rfl]
 have hWj:∀ a ∈ W,a ≠ j:=fun a ha e=>hjW (e ▸ ha)
 have hway:Way m (l.set j s') m.first 0 W q (dn W 0):=by
  refine way_mono (by simp) (fun a ha=>by rw [hs a (hWj a ha)]) (fun a ha s x hx=>by rw [hs a (hWj a ha)]; exact hx) (fun a ha d hr=>⟨hr.1,fun i hi hne hb=>?_⟩) h.way
  have hi':i < l.length:=by simpa using hi
  have old:=hr.2 i hi' hne hb
  rw [hs a (hWj a ha)]
  by_cases e:i = j
  ·subst e
   rw [hsj]
   have:=(h.clk a (hW a ha)).1
   unfold ahead
   have:¬ (s'.to < (sp l a).fr):=by omega
   simp [this]
  ·rw [hs i e]; exact old
 refine ⟨?_,fun i hi ht=>?_,fun i hi=>?_,fun a ha=>?_⟩
 ·rw [dn_snoc]
  refine way_app.2 ⟨q,_,hway,.cons (an:=s'.an) (by simpa using hj) ⟨?_,fun i hi hne hb=>?_⟩ ?_ ?_ (.nil _ _)⟩
  ·cases hb:(dn W 0).testBit j with
   | false=>rfl
   | true=>exact absurd ((dn0_bit _ _).1 hb) hjW
  ·have hi':i < l.length:=by simpa using hi
   have:i ∉ W:=fun hi=>by have:=(dn0_bit _ _).2 hi; rw [hb] at this; cases this
   have hto:¬ 0 ≤ (sp l i).to:=fun ht=>this (h.ended i hi' ht)
   rw [hs i hne]
   simp [ahead,hto]
  ·rw [hsj]; unfold toldP; rw [if_pos (by omega)]; exact List.mem_singleton.2 rfl
  ·rw [hsj,hop]; exact hq
 ·by_cases e:i = j
  ·rw [e]; simp
  ·rw [hs i e] at ht; exact List.mem_append_left _ (h.ended i (by simpa using hi) ht)
 ·by_cases e:i = j
  ·subst e
   have:=(h.clk i hj).1
   rw [hsj]; omega
  ·have:=h.clk i (by simpa using hi)
   rw [hs i e]; omega
 ·by_cases e:a = j
  ·subst e; rw [hsj]; omega
  ·rw [hs a e]
   rcases List.mem_append.1 ha with ha | ha
   ·exact h.wd a ha
   ·exact absurd (List.mem_singleton.1 ha) e
theorem Lz2.told (h:Lz2 m l W q now) {j:Nat} (hj:j < l.length) (hp:(sp l j).to = BIG) (s':Sp) (hop:s'.op = (sp l j).op) (hfr:s'.fr = (sp l j).fr) (han:s'.an = (sp l j).an) (hto:s'.to = now') (hn:now ≤ now') (h0:0 ≤ now'):Lz2 m (l.set j s') W q now':=by
 have hW:=h.inn
 have hB:(0:Int) < BIG:=by decide
 have hs:∀ i,i ≠ j → sp (l.set j s') i = sp l i:=fun i hi=>by rw [sp_set _ hj,if_neg hi]
 have hsj:sp (l.set j s') j = s':=by rw [sp_set _ hj,if_pos rfl]
 have hjW:=h.ended j hj (by omega)
 refine ⟨way_mono (by simp) (fun a ha=>?_) (fun a ha s x hx=>?_) (fun a ha d hr=>⟨hr.1,fun i hi hne hb=>?_⟩) h.way,fun i hi ht=>?_,fun i hi=>?_,fun a ha=>?_⟩
 ·by_cases e:a = j
  ·rw [e,hsj,hop]
  ·rw [hs a e]
 ·by_cases e:a = j
  ·rw [e,hsj]
   rw [e] at hx
   unfold toldP at hx ⊢
   rw [if_pos (by omega)] at hx
   rw [if_pos (by omega),han]; exact hx
  ·rw [hs a e]; exact hx
 ·have hi':i < l.length:=by simpa using hi
  have old:=hr.2 i hi' hne hb
  have hfa:(sp (l.set j s') a).fr = (sp l a).fr:=by
   by_cases e:a = j
   ·rw [e,hsj,hfr]
   ·rw [hs a e]
  unfold ahead at old ⊢
  rw [hfa]
  by_cases e:i = j
  ·have:=(h.clk a (hW a ha)).1
   rw [e,hsj]
   have:¬ (s'.to < (sp l a).fr):=by omega
   simp [this]
  ·rw [hs i e]; exact old
 ·by_cases e:i = j
  ·rw [e]; exact hjW
  ·rw [hs i e] at ht; exact h.ended i (by simpa using hi) ht
 ·by_cases e:i = j
  ·subst e
   have:=(h.clk i hj).1
   rw [hsj]; omega
  ·have:=h.clk i (by simpa using hi)
   rw [hs i e]; omega
 ·by_cases e:a = j
  ·rw [e,hsj]; omega
  ·rw [hs a e]; exact h.wd a ha
theorem Lz2.swap {a b:Sp} (h:Lz2 m (l ++ [a] ++ [b]) W q now):∃ W',Lz2 m (l ++ [b] ++ [a]) W' q now:=by
 obtain ⟨n,hn⟩:∃ n,n = l.length:=⟨_,rfl⟩
 obtain ⟨f,hf⟩:∃ f:Nat → Nat,f = fun i=>if i = n then n + 1 else if i = n + 1 then n else i:=⟨_,rfl⟩
 have h1:∀ i,i < n → f i = i:=fun i hi=>by rw [hf]; simp only; rw [if_neg (by omega),if_neg (by omega)]
 have h2:f n = n + 1:=by rw [hf]; simp
 have h3:f (n + 1) = n:=by rw [hf]; simp
 have len1:(l ++ [a] ++ [b]).length = n + 2:=by simp; omega
 have len2:(l ++ [b] ++ [a]).length = n + 2:=by simp; omega
 have hc:∀ i,i < n + 2 → i < n ∨ i = n ∨ i = n + 1:=fun i hi=>by omega
 have sp1:∀ (a b:Sp) i,i < n → sp (l ++ [a] ++ [b]) i = sp l i:=fun a b i hi=>by rw [sp_app,if_pos (by simp; omega),sp_app,if_pos (by omega)]
 have sp2:∀ (a b:Sp),sp (l ++ [a] ++ [b]) n = a:=fun a b=>by rw [sp_app,if_pos (by simp; omega),sp_app,if_neg (by omega),if_pos hn]
 have sp3:∀ (a b:Sp),sp (l ++ [a] ++ [b]) (n + 1) = b:=fun a b=>by rw [sp_app,if_neg (by simp; omega),if_pos (by simp; omega)]
 have hsp:∀ i,i < n + 2 → sp (l ++ [b] ++ [a]) (f i) = sp (l ++ [a] ++ [b]) i:=fun i hi=>by
  rcases hc i hi with k | rfl | rfl
  ·rw [h1 i k,sp1 _ _ i k,sp1 _ _ i k]
  ·rw [h2,sp3,sp2]
  ·rw [h3,sp2,sp3]
 have hlt:∀ i,i < n + 2 → f i < n + 2:=fun i hi=>by
  rcases hc i hi with k | rfl | rfl
  ·rw [h1 i k]; exact hi
  ·rw [h2]; omega
  ·rw [h3]; omega
 have hff:∀ i,i < n + 2 → f (f i) = i:=fun i hi=>by
  rcases hc i hi with k | rfl | rfl
  ·rw [h1 i k,h1 i k]
  ·rw [h2,h3]
  ·rw [h3,h2]
 have hinj:∀ a b,a < n + 2 → b < n + 2 → f a = f b → a = b:=fun a b ha hb e=>by rw [← hff a ha,← hff b hb,e]
 refine ⟨W.map f,⟨?_,fun i hi ht=>?_,fun i hi=>?_,fun a ha=>?_⟩⟩
 ·have:=way_ren (m:=m) (l:=l ++ [a] ++ [b]) (l':=l ++ [b] ++ [a]) f (by rw [len1]; exact hinj) (by rw [len1,len2]; exact hlt) (by rw [len1,len2]; exact fun j hj=>⟨f j,hlt j hj,hff j hj⟩) (by rw [len1]; exact hsp) h.way [] rfl (by simp)
  simp only [List.map_nil,List.nil_append] at this
  exact this
 ·rw [len2] at hi
  have e:=hsp (f i) (hlt i hi)
  rw [hff i hi] at e
  rw [e] at ht
  have:=h.ended (f i) (by rw [len1]; exact hlt i hi) ht
  exact List.mem_map.2 ⟨f i,this,hff i hi⟩
 ·rw [len2] at hi
  have e:=hsp (f i) (hlt i hi)
  rw [hff i hi] at e
  rw [e]
  exact h.clk (f i) (by rw [len1]; exact hlt i hi)
 ·obtain ⟨i,hi,rfl⟩:=List.mem_map.1 ha
  have hil:=h.inn i hi
  rw [len1] at hil
  rw [hsp i hil]
  exact h.wd i hi
theorem Lz2.all (h:Lz2 m l W q now):Goes m l [] m.first 0:=⟨W,q,dn W 0,by simpa using h.way,fun i hi ht=>(dn0_bit _ _).2 (h.ended i hi ht)⟩
end
end Go.Proofs.YtlaojmcekeohnaaGreatDoor.Lift
set_option linter.unusedVariables false
set_option linter.unusedSimpArgs false
set_option linter.unnecessarySimpa false
set_option maxRecDepth 20000
namespace Go.Proofs.YtlaojmcekeohnaaGreatDoor.Lift
open Go Go.Proofs.YtlaojmcekeohnaaGreatDoor.Gh Go.Proofs
structure LM where
 x:CM
 calls:List Sp
 o:Nat → Int
def pushS (k:Nat):Sp:=⟨2 * k,2 * k,-1,(1,0,0,k),(0,0,0)⟩
def frontS (k:Nat):Sp:=⟨2 * k,2 * k,-1,(2,0,0,0),(0,0,0)⟩
def endS (s:Sp) (k:Nat) (a:An3):Sp:={ s with to:=2 * k + 1,an:=a }
def dropS (s:Sp) (k:Nat):Sp:=⟨2 * k + 1,s.fr,2 * k + 1,(3,0,0,0),(0,0,0)⟩
def LM.begS (n k c:Nat) (y:LM):LM:=⟨({ y.x with nx:=k }:CM).begS n c 1,y.calls ++ [pushS k],upN y.o c y.calls.length⟩
def LM.begD (n k:Nat) (y:LM):LM:=⟨y.x.begD n 1 1,y.calls ++ [frontS k],upN y.o 2 y.calls.length⟩
noncomputable def LM.stepS (n k c j:Nat) (p:PuS) (y:LM):LM :=
 ⟨y.x.stepS n c 1 p,if (p.step y.x.s).1.over = true then y.calls.set j (endS (sp y.calls j) k ((p.step y.x.s).1.err,0,0)) else y.calls,if (p.step y.x.s).1.over = true then upN y.o c (-1) else y.o⟩
noncomputable def LM.stepD (n k j:Nat) (d:DnS) (y:LM):LM :=
 ⟨y.x.stepD n 1 d,if (d.step y.x.s).1.over = true then (match (d.step y.x.s).1.vals with
  | []=>y.calls.set j (endS (sp y.calls j) k (15,0,0))
  | v :: _=>y.calls.set j (endS (sp y.calls j) k (0,0,v)) ++ [dropS (sp y.calls j) k]) else y.calls,if (d.step y.x.s).1.over = true then upN y.o 2 (-1) else y.o⟩
def mostD:DnS → Int
 | .fr _ m _ _=>m
 | .dr _ m _ _ _=>m
 | .done ..=>1
theorem mostD_step (d:DnS) (s:MS) (h:(d.step s).1.over = false):mostD (d.step s).1 = mostD d:=by
 cases d with
 | done e l=>rfl
 | fr R m l p =>
  simp only [DnS.step,DnS.afterF] at h ⊢
  by_cases h1:(p.step s).1.over = true
  ·rw [if_pos h1] at h ⊢
   by_cases h2:(p.step s).1.err = 0
   ·rw [if_pos h2]; rfl
   ·rw [if_neg h2] at h; cases h
  ·rw [if_neg h1]; rfl
 | dr R m l v p =>
  simp only [DnS.step,DnS.afterD] at h ⊢
  by_cases h1:(p.step s).1.over = true
  ·rw [if_pos h1] at h ⊢
   by_cases h2:((l ++ [v]).length:Int) < m
   ·rw [if_pos h2]; rfl
   ·rw [if_neg h2] at h; cases h
  ·rw [if_neg h1]; rfl
def hid (s:Sp):Sp:=if s.to = BIG then { s with to:=-1,an:=(0,0,0) } else s
theorem hid_not {s:Sp} (h:s.to ≠ BIG):hid s = s:=by unfold hid; rw [if_neg h]
theorem hid_big {s:Sp} (h:s.to = BIG):hid s = { s with to:=-1,an:=(0,0,0) }:=by unfold hid; rw [if_pos h]
theorem hid_fr (s:Sp):(hid s).fr = s.fr ∧ (hid s).op = s.op ∧ (hid s).id = s.id:=by unfold hid; split <;> exact ⟨rfl,rfl,rfl⟩
structure GI (n:Nat) (y:LM) (D H:Nat) (g:List Sp) (W:List Nat) (now:Int):Prop where
 lz:Lz2 (qMac n) g W ((y.x.th 1).drop D) now
 len:g.length = y.calls.length + (if D = H then 0 else 1)
 see:∀ i,i < y.calls.length → sp y.calls i = hid (sp g i)
 dd:D ≠ H → ∃ j:Nat,y.o 2 = (j:Int) ∧ (sp g y.calls.length).fr = (sp g j).fr ∧ (sp g y.calls.length).to = BIG ∧ (sp g y.calls.length).op = (3,0,0,0) ∧ (sp g y.calls.length).an = (0,0,0)
 lt:∀ c,c < 3 → ∀ j:Nat,y.o c = (j:Int) → j < y.calls.length
 sd:∀ c,c < 2 → ∀ j:Nat,y.o c = (j:Int) → (∃ p,y.x.sd c = some (.go p)) ∧ y.x.to c = 1 ∧ (sp g j).op = (1,0,0,y.x.v c) ∧ (y.x.v c ∉ y.x.th 1 ∧ (sp g j).to = -1 ∧ (sp g j).an = (0,0,0) ∨ y.x.v c ∈ y.x.th 1 ∧ (sp g j).to = BIG ∧ (sp g j).an = (0,0,0))
 dn:∀ j:Nat,y.o 2 = (j:Int) → (∃ d,y.x.dn 1 = some d ∧ mostD d = 1) ∧ (sp g j).op = (2,0,0,0) ∧ (D = H → (sp g j).to = -1 ∧ (sp g j).an = (0,0,0)) ∧ (D ≠ H → (sp g j).to = BIG ∧ ∃ v,(y.x.th 1)[H]? = some v ∧ (sp g j).an = (0,0,v))
 ids:∀ c,c < 2 → y.o c = -1 → y.x.sd c = none
 idd:y.o 2 = -1 → y.x.dn 1 = none
 o1:∀ c,c < 3 → -1 ≤ y.o c
 apart:∀ c c',c < 3 → c' < 3 → c ≠ c' → 0 ≤ y.o c → y.o c ≠ y.o c'
 busy:∀ i,i < y.calls.length → (sp g i).to = BIG → ∃ c,c < 3 ∧ y.o c = (i:Int)
 id:∀ i,i < y.calls.length → (sp y.calls i).id ≤ now
 nd:(y.calls.map (·.id)).Nodup
 ok:∀ i,i < y.calls.length → okOp (sp y.calls i).op
 few:y.calls.length ≤ 6 + (if y.o 2 = -1 then 1 else 0)
section
variable {n:Nat} {y:LM} {D H:Nat} {g:List Sp} {W:List Nat} {now now':Int}
theorem GI.tick (h:GI n y D H g W now) (hn:now ≤ now'):GI n y D H g W now' :=
 ⟨h.lz.tick hn,h.len,h.see,h.dd,h.lt,h.sd,h.dn,h.ids,h.idd,h.o1,h.apart,h.busy,fun i hi=>Int.le_trans (h.id i hi) hn,h.nd,h.ok,h.few⟩
theorem nodup_snoc {l:List Sp} {s:Sp} (h:(l.map (·.id)).Nodup) (hs:∀ i,i < l.length → (sp l i).id < s.id):((l ++ [s]).map (·.id)).Nodup:=by
 rw [List.map_append,List.nodup_append]
 refine ⟨h,by simp,fun a ha b hb=>?_⟩
 simp at hb
 obtain ⟨x,hx,rfl⟩:=List.mem_map.1 ha
 obtain ⟨i,hi,rfl⟩:=List.getElem_of_mem hx
 have:=hs i hi
 unfold sp at this
 simp [List.getD,List.getElem?_eq_getElem hi] at this
 omega
theorem ids_set {l:List Sp} {j:Nat} {s:Sp} (hj:j < l.length) (h:s.id = (sp l j).id):(l.set j s).map (·.id) = l.map (·.id):=by
 refine List.ext_getElem? fun i=>?_
 rw [List.getElem?_map,List.getElem?_map,List.getElem?_set]
 by_cases e:j = i
 ·subst e
  unfold sp at h
  simp [List.getD,List.getElem?_eq_getElem hj] at h
  simp [hj,h]
 ·simp [e]
end
end Go.Proofs.YtlaojmcekeohnaaGreatDoor.Lift
set_option linter.unusedVariables false
set_option linter.unusedSimpArgs false
set_option linter.unnecessarySimpa false
set_option maxRecDepth 20000
namespace Go.Proofs.YtlaojmcekeohnaaGreatDoor.Lift
open Go Go.Proofs.YtlaojmcekeohnaaGreatDoor.Gh Go.Proofs
section
variable {n:Nat} {y:LM} {D H:Nat} {g:List Sp} {W:List Nat} {now now':Int} {K:Nat} {Df T Hf tk:Nat → Nat}
theorem GI.grow (h:GI n y D H g W now) (s:Sp) (ht:s.to = -1) (hf:s.fr ≤ now) (hn:-1 ≤ now):∃ g' W',Lz2 (qMac n) g' W' ((y.x.th 1).drop D) now ∧ g'.length = y.calls.length + 1 + (if D = H then 0 else 1) ∧ (∀ i,i < y.calls.length → sp g' i = sp g i) ∧ sp g' y.calls.length = s ∧ (D ≠ H → sp g' (y.calls.length + 1) = sp g y.calls.length):=by
 have hb:=h.lz.begin s ht hf hn
 have hl:=h.len
 by_cases e:D = H
 ·rw [if_pos e] at hl ⊢
  refine ⟨_,W,hb,by simp; omega,fun i hi=>by rw [sp_app,if_pos (by omega)],by rw [sp_app,if_neg (by omega),if_pos (by omega)],fun k=>absurd e k⟩
 ·rw [if_neg e] at hl ⊢
  have hne:g ≠ []:=fun k=>by rw [k] at hl; simp at hl
  obtain ⟨g0,d,rfl⟩:∃ g0 d,g = g0 ++ [d]:=⟨g.dropLast,g.getLast hne,(List.dropLast_concat_getLast hne).symm⟩
  simp at hl
  obtain ⟨W',hs⟩:=hb.swap
  refine ⟨_,W',hs,by simp; omega,fun i hi=>?_,?_,fun _=>?_⟩
  ·rw [sp_app,if_pos (by simp; omega),sp_app,if_pos (by omega),sp_app,if_pos (by omega)]
  ·rw [sp_app,if_pos (by simp; omega),sp_app,if_neg (by omega),if_pos (by omega)]
  ·rw [sp_app,if_neg (by simp; omega),if_pos (by simp; omega),sp_app,if_neg (by omega),if_pos (by omega)]
theorem GI.begins (h:GI n y D H g W now) {c:Nat} (hc:c < 3) (h0:y.o c = -1) (s:Sp) (ht:s.to = -1) (hf:s.fr ≤ now') (hn:-1 ≤ now) (hid':now < s.id) (hb:s.id ≤ now') (han:s.an = (0,0,0)) (hop:okOp s.op) (hlen:y.calls.length < 6) (hnow:now ≤ now') {z:LM} (z1:z.calls = y.calls ++ [s]) (z2:z.o = upN y.o c y.calls.length) (z3:z.x.th = y.x.th)
  (z4:∀ i,i < 2 → i ≠ c → z.x.sd i = y.x.sd i ∧ z.x.to i = y.x.to i ∧ z.x.v i = y.x.v i) (z5:c ≠ 2 → z.x.dn 1 = y.x.dn 1) (z6:c < 2 → (∃ p,z.x.sd c = some (.go p)) ∧ z.x.to c = 1 ∧ s.op = (1,0,0,z.x.v c) ∧ z.x.v c ∉ z.x.th 1) (z7:c = 2 → (∃ d,z.x.dn 1 = some d ∧ mostD d = 1) ∧ s.op = (2,0,0,0) ∧ D = H):∃ g' W',GI n z D H g' W' now':=by
 obtain ⟨g',W',k1,k2,k3,k4,k5⟩:=(h.tick hnow).grow s ht hf (by omega)
 have hl:=h.len
 have zl:z.calls.length = y.calls.length + 1:=by rw [z1]; simp
 have hold:∀ i,i < y.calls.length → sp z.calls i = sp y.calls i:=fun i hi=>by rw [z1,sp_app,if_pos hi]
 have hnew:sp z.calls y.calls.length = s:=by rw [z1,sp_app,if_neg (by omega),if_pos rfl]
 have hx:∀ c',c' < 3 → ∀ i:Nat,z.o c' = (i:Int) → c' = c ∧ i = y.calls.length ∨ c' ≠ c ∧ y.o c' = (i:Int) ∧ i < y.calls.length:=by
  intro c' hc' i hi
  rw [z2] at hi
  by_cases e:c' = c
  ·rw [e,upN_same] at hi; exact .inl ⟨e,by omega⟩
  ·rw [upN_ne _ _ e] at hi
   exact .inr ⟨e,hi,h.lt c' hc' i hi⟩
 have hB:(-1:Int) ≠ BIG:=by decide
 refine ⟨g',W',⟨by rw [z3]; exact k1,by rw [zl]; exact k2,fun i hi=>?_,fun hD=>?_,fun c' hc' i hi=>?_,fun c' hc' i hi=>?_,fun i hi=>?_,fun c' hc' hi=>?_,fun hi=>?_,fun c' hc'=>?_,fun a b g1 g2 g3 g4=>?_,fun i hi hB'=>?_,fun i hi=>?_,?_,fun i hi=>?_,?_⟩⟩
 ·rw [zl] at hi
  by_cases e:i = y.calls.length
  ·rw [e,hnew,k4,hid_not (by rw [ht]; exact hB)]
  ·rw [hold i (by omega),k3 i (by omega)]; exact h.see i (by omega)
 ·obtain ⟨j,d1,d2,d3,d4,d5⟩:=h.dd hD
  have hjl:=h.lt 2 (by omega) j d1
  have hc2:(2:Nat) ≠ c:=fun e=>by rw [e,h0] at d1; omega
  refine ⟨j,by rw [z2,upN_ne _ _ hc2]; exact d1,?_⟩
  rw [zl,k5 hD,k3 j hjl]
  exact ⟨d2,d3,d4,d5⟩
 ·rw [zl]
  rcases hx c' hc' i hi with ⟨_,e⟩ | ⟨_,_,e⟩ <;> omega
 ·rcases hx c' (by omega) i hi with ⟨e1,e2⟩ | ⟨e1,e2,e3⟩
  ·subst e1
   obtain ⟨q1,q2,q3,q4⟩:=z6 hc'
   rw [e2,k4]
   exact ⟨q1,q2,q3,.inl ⟨q4,ht,han⟩⟩
  ·obtain ⟨v1,v2,v3⟩:=z4 c' hc' e1
   rw [v1,v2,v3,z3,k3 i e3]
   exact h.sd c' hc' i e2
 ·rcases hx 2 (by omega) i hi with ⟨e1,e2⟩ | ⟨e1,e2,e3⟩
  ·obtain ⟨q1,q2,q3⟩:=z7 e1.symm
   rw [e2,k4]
   exact ⟨q1,q2,fun _=>⟨ht,han⟩,fun k=>absurd q3 k⟩
  ·rw [z5 (fun k=>e1 k.symm),z3,k3 i e3]
   exact h.dn i e2
 ·rw [z2] at hi
  by_cases e:c' = c
  ·rw [e,upN_same] at hi; omega
  ·rw [upN_ne _ _ e] at hi
   rw [(z4 c' hc' e).1]; exact h.ids c' hc' hi
 ·rw [z2] at hi
  by_cases e:2 = c
  ·rw [e,upN_same] at hi; omega
  ·rw [upN_ne _ _ e] at hi
   rw [z5 (fun k=>e k.symm)]; exact h.idd hi
 ·rw [z2]
  by_cases e:c' = c
  ·rw [e,upN_same]; omega
  ·rw [upN_ne _ _ e]; exact h.o1 c' hc'
 ·obtain ⟨i,hi⟩:∃ i:Nat,z.o a = (i:Int):=⟨(z.o a).toNat,by omega⟩
  intro e
  rcases hx a g1 i hi with ⟨q,l⟩ | ⟨q,l,m⟩
  ·rcases hx b g2 i (by omega) with ⟨q',l'⟩ | ⟨q',l',m'⟩
   ·omega
   ·omega
  ·rcases hx b g2 i (by omega) with ⟨q',l'⟩ | ⟨q',l',m'⟩
   ·omega
   ·exact h.apart a b g1 g2 g3 (by omega) (by omega)
 ·rw [zl] at hi
  by_cases e:i = y.calls.length
  ·exact ⟨c,hc,by rw [z2,upN_same,e]⟩
  ·rw [k3 i (by omega)] at hB'
   obtain ⟨c',q1,q2⟩:=h.busy i (by omega) hB'
   refine ⟨c',q1,?_⟩
   rw [z2,upN_ne _ _ ?_]; exact q2
   intro k; rw [k,h0] at q2; omega
 ·rw [zl] at hi
  by_cases e:i = y.calls.length
  ·rw [e,hnew]; exact hb
  ·rw [hold i (by omega)]; have:=h.id i (by omega); omega
 ·rw [z1]
  exact nodup_snoc h.nd fun i hi=>by have:=h.id i hi; omega
 ·rw [zl] at hi
  by_cases e:i = y.calls.length
  ·rw [e,hnew]; exact hop
  ·rw [hold i (by omega)]; exact h.ok i (by omega)
 ·rw [zl]; omega
theorem GI.same (h:GI n y D H g W now) {z:LM} (z1:z.calls = y.calls) (z2:z.o = y.o) (z3:z.x.th = y.x.th) (z4:∀ i,i < 2 → y.o i ≠ -1 → ∃ p,z.x.sd i = some (.go p)) (z4':∀ i,i < 2 → y.o i = -1 → z.x.sd i = none) (z5:z.x.to = y.x.to ∧ z.x.v = y.x.v) (z6:y.o 2 ≠ -1 → ∃ d,z.x.dn 1 = some d ∧ mostD d = 1) (z7:y.o 2 = -1 → z.x.dn 1 = none) (hn:now ≤ now'):GI n z D H g W now':=by
 obtain ⟨v1,v2⟩:=z5
 refine ⟨by rw [z3]; exact h.lz.tick hn,by rw [z1]; exact h.len,by rw [z1]; exact h.see,by rw [z1,z2]; exact h.dd,by rw [z1,z2]; exact h.lt,fun c hc j hj=>?_,fun j hj=>?_,fun c hc hi=>?_,fun hi=>?_,by rw [z2]; exact h.o1,by rw [z2]; exact h.apart,by rw [z1,z2]; exact h.busy,fun i hi=>?_,by rw [z1]; exact h.nd,by rw [z1]; exact h.ok,by rw [z1,z2]; exact h.few⟩
 ·rw [z2] at hj
  obtain ⟨_,q2,q3,q4⟩:=h.sd c hc j hj
  rw [v1,v2,z3]
  exact ⟨z4 c hc (by omega),q2,q3,q4⟩
 ·rw [z2] at hj
  obtain ⟨_,q2,q3,q4⟩:=h.dn j hj
  rw [z3]
  exact ⟨z6 (by omega),q2,q3,q4⟩
 ·rw [z2] at hi; exact z4' c hc hi
 ·rw [z2] at hi; exact z7 hi
 ·rw [z1] at hi ⊢; exact Int.le_trans (h.id i hi) hn
end
end Go.Proofs.YtlaojmcekeohnaaGreatDoor.Lift
set_option linter.unusedVariables false
set_option linter.unusedSimpArgs false
set_option linter.unnecessarySimpa false
set_option maxRecDepth 20000
namespace Go.Proofs.YtlaojmcekeohnaaGreatDoor.Lift
open Go Go.Proofs.YtlaojmcekeohnaaGreatDoor.Gh Go.Proofs
section
variable {n:Nat}
theorem qn_push (h1:1 ≤ n) (h6:n ≤ 6) {L:List Int} (hq:L.length < n) (v:Int):qNext n L (1,0,0,v) (0,0,0) = some (L ++ [v]):=by
 unfold qNext fchk dCode dWord dNext dOk
 have a1:¬ (n:Int) < 1:=by omega
 have a2:¬ 1024 < (n:Int):=by omega
 have a3:¬ (n:Int) < L.length:=by omega
 have a4:¬ (n:Int) ≤ L.length:=by omega
 simp only [a1,a2,a3,a4,if_false,if_true]
 simp
theorem qn_full (h1:1 ≤ n) (h6:n ≤ 6) {L:List Int} (hq:L.length = n) (v:Int):qNext n L (1,0,0,v) (7,0,0) = some L:=by
 unfold qNext fchk dCode dWord dNext dOk
 have a1:¬ (n:Int) < 1:=by omega
 have a2:¬ 1024 < (n:Int):=by omega
 have a3:¬ (n:Int) < L.length:=by omega
 have a4:(n:Int) ≤ L.length:=by omega
 simp only [a1,a2,a3,a4,if_false,if_true]
 simp
theorem qn_drop (h1:1 ≤ n) (h6:n ≤ 6) {L:List Int} (hq:L.length ≤ n) (h0:L.length ≠ 0):qNext n L (3,0,0,0) (0,0,0) = some (L.drop 1):=by
 unfold qNext fchk dCode dWord dNext dOk
 have a1:¬ (n:Int) < 1:=by omega
 have a2:¬ 1024 < (n:Int):=by omega
 have a3:¬ (n:Int) < L.length:=by omega
 have a4:¬ L = []:=fun e=>h0 (by rw [e]; rfl)
 simp only [a1,a2,a3,a4,if_false,if_true]
 simp
theorem qn_front (h1:1 ≤ n) (h6:n ≤ 6) {L:List Int} (hq:L.length ≤ n):qNext n L (2,0,0,0) (if L = [] then 15 else 0,0,L.headD 0) = some L:=by
 unfold qNext fchk dCode dWord dNext dOk
 have a1:¬ (n:Int) < 1:=by omega
 have a2:¬ 1024 < (n:Int):=by omega
 have a3:¬ (n:Int) < L.length:=by omega
 simp only [a1,a2,a3,if_false,if_true]
 simp
variable {y:LM} {D H:Nat} {g:List Sp} {W:List Nat} {now now':Int}
theorem sp_big (h:GI n y D H g W now) {c:Nat} (hc:c < 3) {j:Nat} (hj:y.o c = (j:Int)):j < y.calls.length ∧ j < g.length ∧ ((sp g j).to = -1 ∨ (sp g j).to = BIG):=by
 have k1:=h.lt c hc j hj
 have k2:=h.len
 refine ⟨k1,by omega,?_⟩
 by_cases c2:c < 2
 ·rcases (h.sd c c2 j hj).2.2.2 with k | k
  ·exact .inl k.2.1
  ·exact .inr k.2.1
 ·obtain rfl:c = 2:=by omega
  obtain ⟨_,_,k3,k4⟩:=h.dn j hj
  by_cases e:D = H
  ·exact .inl (k3 e).1
  ·exact .inr (k4 e).1
theorem GI.over (h:GI n y D H g W now) {c j:Nat} (hc:c < 3) (hj:y.o c = (j:Int)) {e:An3} {g':List Sp} {W':List Nat} {k:Nat} (hk:now < 2 * k + 1) (hk0:2 * (k:Int) + 1 < BIG) (hlz:Lz2 (qMac n) g' W' ((y.x.th 1).drop D) (2 * k + 1)) (hg:g' = g.set j (endS (sp g j) k e)) {z:LM} (z1:z.calls = y.calls.set j (endS (sp y.calls j) k e)) (z2:z.o = upN y.o c (-1)) (z3:z.x.th = y.x.th)
  (z4:∀ i,i < 2 → i ≠ c → z.x.sd i = y.x.sd i) (z5:c ≠ 2 → z.x.dn = y.x.dn) (z6:c < 2 → z.x.sd c = none) (z8:c = 2 → z.x.dn 1 = none ∧ D = H) (z7:z.x.to = y.x.to ∧ z.x.v = y.x.v):GI n z D H g' W' (2 * k + 1):=by
 obtain ⟨jl,jg,_⟩:=sp_big h hc hj
 obtain ⟨v1,v2⟩:=z7
 have hsg:∀ i,i ≠ j → sp g' i = sp g i:=fun i hi=>by rw [hg,sp_set _ jg,if_neg hi]
 have hsgj:sp g' j = endS (sp g j) k e:=by rw [hg,sp_set _ jg,if_pos rfl]
 have hsc:∀ i,i ≠ j → sp z.calls i = sp y.calls i:=fun i hi=>by rw [z1,sp_set _ jl,if_neg hi]
 have hscj:sp z.calls j = endS (sp y.calls j) k e:=by rw [z1,sp_set _ jl,if_pos rfl]
 have zl:z.calls.length = y.calls.length:=by rw [z1]; simp
 have lg:g'.length = g.length:=by rw [hg]; simp
 have hne:∀ c',c' < 3 → ∀ i:Nat,z.o c' = (i:Int) → c' ≠ c ∧ y.o c' = (i:Int) ∧ i ≠ j:=by
  intro c' hc' i hi
  have hcc:c' ≠ c:=by
   intro e; rw [z2,e,upN_same] at hi; omega
  rw [z2,upN_ne _ _ hcc] at hi
  refine ⟨hcc,hi,fun e=>?_⟩
  have:=h.apart c' c hc' hc hcc (by omega)
  rw [hi,hj,e] at this
  exact this rfl
 have hB:2 * (k:Int) + 1 ≠ BIG:=by omega
 have hseej:=h.see j jl
 refine ⟨by rw [z3]; exact hlz,by rw [lg,zl]; exact h.len,fun i hi=>?_,fun hD=>?_,fun c' hc' i hi=>?_,fun c' hc' i hi=>?_,fun i hi=>?_,fun c' hc' hi=>?_,fun hi=>?_,fun c' hc'=>?_,fun a b g1 g2 g3 g4=>?_,fun i hi hB'=>?_,fun i hi=>?_,?_,fun i hi=>?_,?_⟩
 ·rw [zl] at hi
  by_cases e1:i = j
  ·rw [e1,hscj,hsgj,hid_not (show (endS (sp g j) k e).to ≠ BIG from hB),hseej]
   obtain ⟨q1,q2,q3⟩:=hid_fr (sp g j)
   unfold endS
   rw [q1,q2,q3]
  ·rw [hsc i e1,hsg i e1]; exact h.see i hi
 ·obtain ⟨i,d1,d2,d3,d4,d5⟩:=h.dd hD
  have hc2:2 ≠ c:=fun e=>hD (z8 e.symm).2
  have hij:i ≠ j:=fun e=>by
   have:=h.apart 2 c (by omega) (by omega) hc2 (by omega)
   rw [d1,hj,e] at this
   exact this rfl
  refine ⟨i,by rw [z2,upN_ne _ _ hc2]; exact d1,?_⟩
  rw [zl,hsg _ (by omega),hsg i hij]
  exact ⟨d2,d3,d4,d5⟩
 ·rw [zl]; exact h.lt c' hc' i (hne c' hc' i hi).2.1
 ·obtain ⟨k1,k2,k3⟩:=hne c' (by omega) i hi
  rw [z4 c' hc' k1,v1,v2,z3,hsg i k3]
  exact h.sd c' hc' i k2
 ·obtain ⟨k1,k2,k3⟩:=hne 2 (by omega) i hi
  rw [z5 (fun e=>k1 e.symm),z3,hsg i k3]
  exact h.dn i k2
 ·by_cases e:c' = c
  ·rw [e]; exact z6 (by omega)
  ·rw [z2,upN_ne _ _ e] at hi
   rw [z4 c' hc' e]; exact h.ids c' hc' hi
 ·by_cases e:2 = c
  ·exact (z8 e.symm).1
  ·rw [z2,upN_ne _ _ e] at hi
   rw [z5 (fun k=>e k.symm)]; exact h.idd hi
 ·rw [z2]
  by_cases e:c' = c
  ·rw [e,upN_same]; omega
  ·rw [upN_ne _ _ e]; exact h.o1 c' hc'
 ·rw [z2] at g4 ⊢
  have n1:a ≠ c:=fun e=>by rw [e,upN_same] at g4; omega
  rw [upN_ne _ _ n1] at g4 ⊢
  by_cases n2:b = c
  ·rw [n2,upN_same]; omega
  ·rw [upN_ne _ _ n2]; exact h.apart a b g1 g2 g3 g4
 ·rw [zl] at hi
  have e1:i ≠ j:=fun e=>by rw [e,hsgj] at hB'; exact hB hB'
  rw [hsg i e1] at hB'
  obtain ⟨c',q1,q2⟩:=h.busy i hi hB'
  refine ⟨c',q1,?_⟩
  rw [z2,upN_ne _ _ ?_]; exact q2
  intro ee; rw [ee,hj] at q2; exact e1 (by omega)
 ·rw [zl] at hi
  by_cases e1:i = j
  ·have:=h.id j jl
   rw [e1,hscj]; show (sp y.calls j).id ≤ _; omega
  ·rw [hsc i e1]; have:=h.id i hi; omega
 ·rw [z1,ids_set (s:=endS (sp y.calls j) k e) jl (by rfl)]; exact h.nd
 ·rw [zl] at hi
  by_cases e1:i = j
  ·rw [e1,hscj]; exact h.ok j jl
  ·rw [hsc i e1]; exact h.ok i hi
 ·rw [zl,z2]
  have:=h.few
  by_cases e:2 = c
  ·rw [← e,upN_same,if_pos rfl]; split at this <;> omega
  ·rw [upN_ne _ _ e]; exact this
end
end Go.Proofs.YtlaojmcekeohnaaGreatDoor.Lift
set_option linter.unusedVariables false
set_option linter.unusedSimpArgs false
set_option linter.unnecessarySimpa false
set_option maxRecDepth 20000
namespace Go.Proofs.YtlaojmcekeohnaaGreatDoor.Lift
open Go Go.Proofs.YtlaojmcekeohnaaGreatDoor.Gh Go.Proofs
section
variable {n:Nat} {y:LM} {D H:Nat} {g:List Sp} {W:List Nat} {now now':Int} {K:Nat} {Df T Hf tk:Nat → Nat}
theorem GI.laid (h:GI n y D H g W now) {c j:Nat} (hc:c < 2) (hj:y.o c = (j:Int)) (hv:y.x.v c ∉ y.x.th 1) (h1:1 ≤ n) (h6:n ≤ 6) (hle:D ≤ (y.x.th 1).length) (hq:((y.x.th 1).drop D).length < n) {k:Nat} (hk:now ≤ 2 * k + 1) (hk0:2 * (k:Int) + 1 < BIG) (hdf:∀ i,i < 2 → i ≠ c → y.o i ≠ -1 → y.x.v i ≠ y.x.v c) {z:LM} (z1:z.calls = y.calls) (z2:z.o = y.o) (z3:z.x.th = upN y.x.th 1 (y.x.th 1 ++ [y.x.v c]))
  (z4:∀ i,i < 2 → y.o i ≠ -1 → ∃ p,z.x.sd i = some (.go p)) (z4':∀ i,i < 2 → y.o i = -1 → z.x.sd i = none) (z5:z.x.to = y.x.to ∧ z.x.v = y.x.v) (z6:z.x.dn = y.x.dn):∃ g' W',GI n z D H g' W' (2 * k + 1):=by
 obtain ⟨jl,jg,_⟩:=sp_big h (by omega) hj
 obtain ⟨v1,v2⟩:=z5
 obtain ⟨_,q2,q3,q4⟩:=h.sd c hc j hj
 obtain ⟨hto,han⟩:(sp g j).to = -1 ∧ (sp g j).an = (0,0,0):=by
  rcases q4 with k | k
  ·exact k.2
  ·exact absurd k.1 hv
 have hjW:j ∉ W:=fun k=>by have:=h.lz.wd j k; omega
 obtain ⟨s',hs'⟩:∃ s':Sp,s' = { sp g j with to:=BIG,an:=(0,0,0) }:=⟨_,rfl⟩
 have hlz:=h.lz.eff jg (by omega) hjW s' (by rw [hs']) (by rw [hs']) (now':=2 * k + 1) (.inr (by rw [hs'])) hk (by omega) hk0 (q':=(y.x.th 1).drop D ++ [y.x.v c]) (by rw [q3,hs']; exact qn_push h1 h6 hq _)
 have hth:z.x.th 1 = y.x.th 1 ++ [y.x.v c]:=by rw [z3,upN_same]
 have hdr:(z.x.th 1).drop D = (y.x.th 1).drop D ++ [y.x.v c]:=by rw [hth]; exact List.drop_append_of_le_length hle
 have hsg:∀ i,i ≠ j → sp (g.set j s') i = sp g i:=fun i hi=>by rw [sp_set _ jg,if_neg hi]
 have hsgj:sp (g.set j s') j = s':=by rw [sp_set _ jg,if_pos rfl]
 have hne:∀ c',c' < 3 → c' ≠ c → ∀ i:Nat,y.o c' = (i:Int) → i ≠ j:=fun c' hc' hcc i hi e=>by
  have:=h.apart c' c hc' (by omega) hcc (by omega)
  rw [hi,hj,e] at this
  exact this rfl
 refine ⟨g.set j s',W ++ [j],⟨by rw [hdr]; exact hlz,by rw [z1,List.length_set]; exact h.len,fun i hi=>?_,fun hD=>?_,by rw [z1,z2]; exact h.lt,fun c' hc' i hi=>?_,fun i hi=>?_,fun c' hc' hi=>by rw [z2] at hi; exact z4' c' hc' hi,fun hi=>by rw [z2] at hi; rw [z6]; exact h.idd hi,by rw [z2]; exact h.o1,by rw [z2]; exact h.apart,fun i hi hB=>?_,fun i hi=>?_,by rw [z1]; exact h.nd,by rw [z1]; exact h.ok,by rw [z1,z2]; exact h.few⟩⟩
 ·rw [z1] at hi ⊢
  rw [h.see i hi]
  by_cases e:i = j
  ·rw [e,hsgj,hid_not (by rw [hto]; decide),hid_big (by rw [hs']),hs']
   rw [← han,← hto]
  ·rw [hsg i e]
 ·obtain ⟨i,d1,d2,d3,d4,d5⟩:=h.dd hD
  refine ⟨i,by rw [z2]; exact d1,?_⟩
  rw [z1,hsg _ (by omega),hsg i (hne 2 (by omega) (by omega) i d1)]
  exact ⟨d2,d3,d4,d5⟩
 ·rw [z2] at hi
  obtain ⟨_,r2,r3,r4⟩:=h.sd c' hc' i hi
  refine ⟨z4 c' hc' (by omega),by rw [v1]; exact r2,?_⟩
  rw [v2,hth]
  by_cases e:c' = c
  ·subst e
   obtain rfl:i = j:=by omega
   rw [hsgj,hs']
   exact ⟨r3,.inr ⟨by simp,rfl,rfl⟩⟩
  ·rw [hsg i (hne c' (by omega) e i hi)]
   refine ⟨r3,?_⟩
   have hd:=hdf c' hc' e (by omega)
   rcases r4 with k | k
   ·exact .inl ⟨by simp [k.1,hd],k.2⟩
   ·exact .inr ⟨by simp [k.1],k.2⟩
 ·rw [z2] at hi
  obtain ⟨r1,r2,r3,r4⟩:=h.dn i hi
  rw [z6,hsg i (hne 2 (by omega) (by omega) i hi)]
  refine ⟨r1,r2,r3,fun hD=>?_⟩
  obtain ⟨t1,v,t2,t3⟩:=r4 hD
  refine ⟨t1,v,?_,t3⟩
  rw [hth,List.getElem?_append_left (List.getElem?_eq_some_iff.1 t2).1]
  exact t2
 ·rw [z1] at hi
  rw [z2]
  by_cases e:i = j
  ·exact ⟨c,by omega,by rw [hj,e]⟩
  ·rw [hsg i e] at hB; exact h.busy i hi hB
 ·rw [z1] at hi ⊢; have:=h.id i hi; omega
end
end Go.Proofs.YtlaojmcekeohnaaGreatDoor.Lift
set_option linter.unusedVariables false
set_option linter.unusedSimpArgs false
set_option linter.unnecessarySimpa false
set_option maxRecDepth 20000
namespace Go.Proofs.YtlaojmcekeohnaaGreatDoor.Lift
open Go Go.Proofs.YtlaojmcekeohnaaGreatDoor.Gh Go.Proofs
section
variable {n:Nat} {y:LM} {D H:Nat} {g:List Sp} {W:List Nat} {now now':Int} {K:Nat} {Df T Hf tk:Nat → Nat}
theorem GI.stepS (hI:InvC n K y.x Df T Hf tk) (hK:K ≤ 60000) (h:GI n y (Df 1) (Hf 1) g W now) {c j:Nat} (hc:c < 2) (hj:y.o c = (j:Int)) {p:PuS} (hp:y.x.sd c = some (.go p)) {k:Nat} (hk:now < 2 * k + 1) (hk0:2 * (k:Int) + 1 < BIG):∃ g' W',GI n (y.stepS n k c j p) (Df 1) (Hf 1) g' W' (2 * k + 1):=by
 have hn:=hI.n1
 obtain ⟨jl,jg,_⟩:=sp_big h (by omega) hj
 obtain ⟨_,q2,q3,q4⟩:=h.sd c hc j hj
 cases hI.sd c (by omega) with
 | none a=>rw [a] at hp; cases hp
 | some p0 e c0 a1 a2 a3 a4 a5 a6 a7 a8 a9 =>
  rw [hp] at a1
  cases a1
  have hcc:c0 = 1:=by rw [q2] at a3; omega
  subst hcc
  have hb:=hI.box 1 (by omega)
  have hlen:=hb.len
  have hnx:=hI.nx
  have a5':InvP (bas n 1) n (Df 1) (T 1) (Df 1 + ((y.x.th 1).drop (Df 1)).length) (y.x.v c) e p:=by rw [hlen]; exact a5
  obtain ⟨T1,t1,fra,res⟩:=pu_step hb.m a5' ⟨a6,by omega⟩ (by omega)
  have hqn:=hb.m.qn
  have sdo:(p.step y.x.s).1.over = false → (∀ i,i < 2 → y.o i ≠ -1 → ∃ p',(y.stepS n k c j p).x.sd i = some (.go p')) ∧ ∀ i,i < 2 → y.o i = -1 → (y.stepS n k c j p).x.sd i = none:=by
   intro ho
   refine ⟨fun i hi h1=>?_,fun i hi h1=>?_⟩
   ·by_cases e1:i = c
    ·subst e1
     exact ⟨(p.step y.x.s).1,by simp [LM.stepS,CM.stepS,upN_same,ho]⟩
    ·obtain ⟨j',hj'⟩:∃ j':Nat,y.o i = (j':Int):=⟨(y.o i).toNat,by have:=h.o1 i (by omega); omega⟩
     obtain ⟨p',hp'⟩:=(h.sd i hi j' hj').1
     exact ⟨p',by simp [LM.stepS,CM.stepS,upN_ne _ _ e1,hp']⟩
   ·have e1:i ≠ c:=fun e=>by rw [e,hj] at h1; omega
    simp [LM.stepS,CM.stepS,upN_ne _ _ e1,h.ids i hi h1]
  have sdn:(p.step y.x.s).1.over = true → (y.stepS n k c j p).x.sd c = none:=fun ho=>by simp [LM.stepS,CM.stepS,upN_same,ho]
  have sdx:∀ i,i < 2 → i ≠ c → (y.stepS n k c j p).x.sd i = y.x.sd i:=fun i hi e=>by simp [LM.stepS,CM.stepS,upN_ne _ _ e]
  cases res with
  | go b1 b2 b3 b4 =>
   have ho:=b2.going.1
   obtain ⟨s1,s2⟩:=sdo ho
   exact ⟨g,W,h.same (by simp [LM.stepS,ho]) (by simp [LM.stepS,ho]) (by simp [LM.stepS,CM.stepS,b4]) s1 s2 ⟨rfl,rfl⟩ (fun hn=>by
    obtain ⟨j',hj'⟩:∃ j':Nat,y.o 2 = (j':Int):=⟨(y.o 2).toNat,by have:=h.o1 2 (by omega); omega⟩
    exact (h.dn j' hj').1) h.idd (by omega)⟩
  | laid b1 b2 b3 b4 b5 =>
   have ho:=b3.going.1
   obtain ⟨s1,s2⟩:=sdo ho
   have hq2:=b2.qn
   refine h.laid hc hj (a8 b1) hn.1 (by omega) hb.le (by simp at hq2 ⊢; omega) (by omega) hk0 (fun i hi hic hio=>?_) (by simp [LM.stepS,ho]) (by simp [LM.stepS,ho]) (by simp [LM.stepS,CM.stepS,b5]) s1 s2 ⟨rfl,rfl⟩ rfl
   obtain ⟨j',hj'⟩:∃ j':Nat,y.o i = (j':Int):=⟨(y.o i).toNat,by have:=h.o1 i (by omega); omega⟩
   obtain ⟨p',hp'⟩:=(h.sd i hi j' hj').1
   exact hI.df i c (by omega) (by omega) hic (by rw [hp']; simp) (by rw [hp]; simp)
  | full b1 b2 b3 b4 b5 =>
   have ho:(p.step y.x.s).1.over = true:=by rw [b3]; rfl
   have her:(p.step y.x.s).1.err = 7:=by rw [b3]; rfl
   have hv:=a8 b1
   have hto:(sp g j).to = -1:=by
    rcases q4 with k | k
    ·exact k.2.1
    ·exact absurd k.1 hv
   have hjW:j ∉ W:=fun k=>by have:=h.lz.wd j k; omega
   have hlz:=h.lz.eff jg (by omega) hjW (endS (sp g j) k (7,0,0)) rfl rfl (now':=2 * k + 1) (.inl rfl) (by omega) (by omega) hk0 (q':=(y.x.th 1).drop (Df 1)) (by rw [q3]; exact qn_full hn.1 (by omega) b2 _)
   exact ⟨_,_,h.over (by omega) hj (e:=(7,0,0)) hk hk0 hlz rfl (by simp [LM.stepS,ho,her]) (by simp [LM.stepS,ho]) (by simp [LM.stepS,CM.stepS,b5]) sdx (fun _=>rfl) (fun _=>sdn ho) (fun e=>by omega) ⟨rfl,rfl⟩⟩
  | last b1 b2 b3 b4 =>
   have ho:(p.step y.x.s).1.over = true:=by rw [b2]; rfl
   have her:(p.step y.x.s).1.err = 0:=by rw [b2]; rfl
   have hv:=a9 b1
   obtain ⟨hto,han⟩:(sp g j).to = BIG ∧ (sp g j).an = (0,0,0):=by
    rcases q4 with k | k
    ·exact absurd hv k.1
    ·exact k.2
   have hlz:=h.lz.told jg hto (endS (sp g j) k (0,0,0)) rfl rfl (by rw [han]; rfl) (now':=2 * k + 1) rfl (by omega) (by omega)
   exact ⟨_,_,h.over (by omega) hj (e:=(0,0,0)) hk hk0 hlz rfl (by simp [LM.stepS,ho,her]) (by simp [LM.stepS,ho]) (by simp [LM.stepS,CM.stepS,b4]) sdx (fun _=>rfl) (fun _=>sdn ho) (fun e=>by omega) ⟨rfl,rfl⟩⟩
end
end Go.Proofs.YtlaojmcekeohnaaGreatDoor.Lift
set_option linter.unusedVariables false
set_option linter.unusedSimpArgs false
set_option linter.unnecessarySimpa false
set_option maxRecDepth 20000
namespace Go.Proofs.YtlaojmcekeohnaaGreatDoor.Lift
open Go Go.Proofs.YtlaojmcekeohnaaGreatDoor.Gh Go.Proofs
section
variable {n:Nat} {y:LM} {D H:Nat} {g:List Sp} {W:List Nat} {now now':Int} {K:Nat} {Df T Hf tk:Nat → Nat}
theorem GI.clear (h:GI n y D D g W now) {j:Nat} (hj:y.o 2 = (j:Int)) (h1:1 ≤ n) (h6:n ≤ 6) (hlt:D < (y.x.th 1).length) (hq:((y.x.th 1).drop D).length ≤ n) {k:Nat} (hk:now ≤ 2 * k + 1) (hk0:2 * (k:Int) + 1 < BIG) {z:LM} (z1:z.calls = y.calls) (z2:z.o = y.o) (z3:z.x.th = y.x.th)
  (z4:z.x.sd = y.x.sd) (z5:z.x.to = y.x.to ∧ z.x.v = y.x.v) (z6:∃ d,z.x.dn 1 = some d ∧ mostD d = 1):∃ g' W',GI n z (D + 1) D g' W' (2 * k + 1):=by
 obtain ⟨jl,jg,_⟩:=sp_big h (by omega) hj
 obtain ⟨v1,v2⟩:=z5
 obtain ⟨_,q2,q3,_⟩:=h.dn j hj
 obtain ⟨hto,han⟩:=q3 rfl
 have hl:=h.len
 rw [if_pos rfl] at hl
 have hjW:j ∉ W:=fun k=>by have:=h.lz.wd j k; omega
 obtain ⟨L,hL⟩:∃ L,L = (y.x.th 1).drop D:=⟨_,rfl⟩
 have hz:(y.x.th 1)[D]? = some (y.x.th 1)[D]:=List.getElem?_eq_getElem hlt
 have hLc:L = (y.x.th 1)[D] :: (y.x.th 1).drop (D + 1):=by rw [hL]; exact List.drop_eq_getElem_cons hlt
 obtain ⟨v,hv⟩:∃ v,v = (y.x.th 1)[D]:=⟨_,rfl⟩
 rw [← hv] at hLc hz
 obtain ⟨s',hs'⟩:∃ s':Sp,s' = { sp g j with to:=BIG,an:=(0,0,v) }:=⟨_,rfl⟩
 have l1:=h.lz.eff jg (by omega) hjW s' (by rw [hs']) (by rw [hs']) (now':=2 * k + 1) (.inr (by rw [hs'])) hk (by omega) hk0 (q':=L) (by
  rw [q2,hs',← hL]
  have:=qn_front h1 h6 (L:=L) (by rw [hL]; exact hq)
  rw [hLc] at this ⊢
  exact this)
 obtain ⟨ds,hds⟩:∃ ds:Sp,ds = ⟨0,(sp g j).fr,-1,(3,0,0,0),(0,0,0)⟩:=⟨_,rfl⟩
 have hfr:=(h.lz.clk j jg).1
 have l2:=l1.begin ds (by rw [hds]) (by rw [hds]; simp only; omega) (by omega)
 obtain ⟨db,hdb⟩:∃ db:Sp,db = { ds with to:=BIG }:=⟨_,rfl⟩
 have lg1:(g.set j s').length = g.length:=by simp
 have spl:sp (g.set j s' ++ [ds]) g.length = ds:=by rw [sp_app,if_neg (by omega),if_pos lg1.symm]
 have hlW:g.length ∉ W ++ [j]:=fun k=>by
  have:=l2.wd _ k
  rw [spl,hds] at this
  simp only at this; omega
 have l3:=l2.eff (j:=g.length) (by simp) (by rw [spl,hds]; simp only; omega) hlW db (by rw [hdb,spl]) (by rw [hdb,spl]) (now':=2 * k + 1) (.inr (by rw [hdb])) (by omega) (by omega) hk0 (q':=(y.x.th 1).drop (D + 1)) (by
  rw [spl,hdb,hds]
  have:=qn_drop h1 h6 (L:=L) (by rw [hL]; exact hq) (by rw [hLc]; simp)
  rw [hLc] at this ⊢
  exact this)
 obtain ⟨G,hG⟩:∃ G,G = (g.set j s' ++ [ds]).set g.length db:=⟨_,rfl⟩
 rw [← hG] at l3
 have spG:∀ i,i < g.length → i ≠ j → sp G i = sp g i:=fun i hi hij=>by
  rw [hG,sp_set _ (by simp),if_neg (by omega),sp_app,if_pos (by omega),sp_set _ jg,if_neg hij]
 have spGj:sp G j = s':=by rw [hG,sp_set _ (by simp),if_neg (by omega),sp_app,if_pos (by omega),sp_set _ jg,if_pos rfl]
 have spGl:sp G g.length = db:=by rw [hG,sp_set _ (by simp),if_pos rfl]
 have hne:∀ c',c' < 3 → c' ≠ 2 → ∀ i:Nat,y.o c' = (i:Int) → i ≠ j:=fun c' hc' hcc i hi e=>by
  have:=h.apart c' 2 hc' (by omega) hcc (by omega)
  rw [hi,hj,e] at this
  exact this rfl
 refine ⟨G,_,⟨by rw [z3]; exact l3,by rw [hG,z1,if_neg (by omega)]; simp; omega,fun i hi=>?_,fun _=>⟨j,by rw [z2]; exact hj,?_⟩,by rw [z1,z2]; exact h.lt,fun c' hc' i hi=>?_,fun i hi=>?_,fun c' hc' hi=>by rw [z2] at hi; rw [z4]; exact h.ids c' hc' hi,fun hi=>by rw [z2] at hi; omega,by rw [z2]; exact h.o1,by rw [z2]; exact h.apart,fun i hi hB=>?_,fun i hi=>?_,by rw [z1]; exact h.nd,by rw [z1]; exact h.ok,by rw [z1,z2]; exact h.few⟩⟩
 ·rw [z1] at hi ⊢
  rw [h.see i hi]
  by_cases e:i = j
  ·rw [e,spGj,hid_not (by rw [hto]; decide),hid_big (by rw [hs']),hs']
   rw [← han,← hto]
  ·rw [spG i (by omega) e]
 ·rw [z1,show y.calls.length = g.length by omega,spGl,spGj,hdb,hds,hs']
  exact ⟨rfl,rfl,rfl,rfl⟩
 ·rw [z2] at hi
  rw [z4,v1,v2,z3,spG i (by have:=h.lt c' (by omega) i hi; omega) (hne c' (by omega) (by omega) i hi)]
  exact h.sd c' hc' i hi
 ·rw [z2] at hi
  obtain rfl:i = j:=by omega
  rw [z3,spGj,hs']
  exact ⟨z6,q2,fun k=>by omega,fun _=>⟨rfl,v,hz,rfl⟩⟩
 ·rw [z1] at hi
  rw [z2]
  by_cases e:i = j
  ·exact ⟨2,by omega,by rw [hj,e]⟩
  ·rw [spG i (by omega) e] at hB; exact h.busy i hi hB
 ·rw [z1] at hi ⊢; have:=h.id i hi; omega
theorem GI.took (h:GI n y (H + 1) H g W now) {j:Nat} (hj:y.o 2 = (j:Int)) {k:Nat} (hk:now < 2 * k + 1) (hk0:2 * (k:Int) + 1 < BIG) {v:Int} (hv:(y.x.th 1)[H]? = some v) {z:LM} (z1:z.calls = y.calls.set j (endS (sp y.calls j) k (0,0,v)) ++ [dropS (sp y.calls j) k]) (z2:z.o = upN y.o 2 (-1)) (z3:z.x.th = y.x.th)
  (z4:z.x.sd = y.x.sd) (z5:z.x.to = y.x.to ∧ z.x.v = y.x.v) (z6:z.x.dn 1 = none):∃ g' W',GI n z (H + 1) (H + 1) g' W' (2 * k + 1):=by
 obtain ⟨jl,jg,_⟩:=sp_big h (by omega) hj
 obtain ⟨v1,v2⟩:=z5
 obtain ⟨_,q2,_,q3⟩:=h.dn j hj
 obtain ⟨hto,v',hv',han⟩:=q3 (by omega)
 have hvv:v' = v:=by rw [hv] at hv'; cases hv'; rfl
 subst hvv
 obtain ⟨j',d1,d2,d3,d4,d5⟩:=h.dd (by omega)
 obtain rfl:j' = j:=by omega
 have hl:=h.len
 rw [if_neg (by omega)] at hl
 obtain ⟨m,hm⟩:∃ m,m = y.calls.length:=⟨_,rfl⟩
 rw [← hm] at d2 d3 d4 d5 hl jl
 have l1:=h.lz.told jg hto (endS (sp g j') k (0,0,v')) rfl rfl (by rw [han]; rfl) (now':=2 * k + 1) rfl (by omega) (by omega)
 have sm:sp (g.set j' (endS (sp g j') k (0,0,v'))) m = sp g m:=by rw [sp_set _ jg,if_neg (by omega)]
 have l2:=l1.told (j:=m) (by simp; omega) (by rw [sm]; exact d3) (dropS (sp g j') k) (by rw [sm,d4]; rfl) (by rw [sm,d2]; rfl) (by rw [sm,d5]; rfl) (now':=2 * k + 1) rfl (by omega) (by omega)
 obtain ⟨G,hG⟩:∃ G,G = (g.set j' (endS (sp g j') k (0,0,v'))).set m (dropS (sp g j') k):=⟨_,rfl⟩
 rw [← hG] at l2
 have spG:∀ i,i < m → i ≠ j' → sp G i = sp g i:=fun i hi hij=>by
  rw [hG,sp_set _ (by simp; omega),if_neg (by omega),sp_set _ jg,if_neg hij]
 have spGj:sp G j' = endS (sp g j') k (0,0,v'):=by rw [hG,sp_set _ (by simp; omega),if_neg (by omega),sp_set _ jg,if_pos rfl]
 have spGm:sp G m = dropS (sp g j') k:=by rw [hG,sp_set _ (by simp; omega),if_pos rfl]
 have jl':j' < y.calls.length:=by omega
 have zl:z.calls.length = m + 1:=by rw [z1]; simp; omega
 have spz:∀ i,i < m → i ≠ j' → sp z.calls i = sp y.calls i:=fun i hi hij=>by
  rw [z1,sp_app,if_pos (by simp; omega),sp_set _ jl',if_neg hij]
 have spzj:sp z.calls j' = endS (sp y.calls j') k (0,0,v'):=by rw [z1,sp_app,if_pos (by simp; omega),sp_set _ jl',if_pos rfl]
 have spzm:sp z.calls m = dropS (sp y.calls j') k:=by rw [z1,sp_app,if_neg (by simp; omega),if_pos (by simp; omega)]
 have hse:=h.see j' jl'
 obtain ⟨f1,f2,f3⟩:=hid_fr (sp g j')
 rw [← hse] at f1 f2 f3
 have hB:2 * (k:Int) + 1 ≠ BIG:=by omega
 have hne:∀ c',c' < 3 → ∀ i:Nat,z.o c' = (i:Int) → c' ≠ 2 ∧ y.o c' = (i:Int) ∧ i ≠ j':=by
  intro c' hc' i hi
  have hcc:c' ≠ 2:=by
   intro e; rw [z2,e,upN_same] at hi; omega
  rw [z2,upN_ne _ _ hcc] at hi
  refine ⟨hcc,hi,fun e=>?_⟩
  have:=h.apart c' 2 hc' (by omega) hcc (by omega)
  rw [hi,hj,e] at this
  exact this rfl
 refine ⟨G,W,⟨by rw [z3]; exact l2,by rw [hG,zl,if_pos rfl]; simp; omega,fun i hi=>?_,fun k=>absurd rfl k,fun c' hc' i hi=>?_,fun c' hc' i hi=>?_,fun i hi=>?_,fun c' hc' hi=>?_,fun _=>z6,fun c' hc'=>?_,fun a b g1 g2 g3 g4=>?_,fun i hi hB'=>?_,fun i hi=>?_,?_,fun i hi=>?_,?_⟩⟩
 ·rw [zl] at hi
  by_cases e1:i = j'
  ·rw [e1,spzj,spGj,hid_not (show (endS (sp g j') k (0,0,v')).to ≠ BIG from hB)]
   unfold endS
   rw [f1,f2,f3]
  ·by_cases e2:i = m
   ·rw [e2,spzm,spGm,hid_not (show (dropS (sp g j') k).to ≠ BIG from hB)]
    unfold dropS
    rw [f1]
   ·rw [spz i (by omega) e1,spG i (by omega) e1]; exact h.see i (by omega)
 ·rw [zl]; have:=h.lt c' hc' i (hne c' hc' i hi).2.1; omega
 ·obtain ⟨k1,k2,k3⟩:=hne c' (by omega) i hi
  have:=h.lt c' (by omega) i k2
  rw [z4,v1,v2,z3,spG i (by omega) k3]
  exact h.sd c' hc' i k2
 ·exact absurd rfl (hne 2 (by omega) i hi).1
 ·rw [z2,upN_ne _ _ (by omega)] at hi
  rw [z4]; exact h.ids c' hc' hi
 ·rw [z2]
  by_cases e:c' = 2
  ·rw [e,upN_same]; omega
  ·rw [upN_ne _ _ e]; exact h.o1 c' hc'
 ·rw [z2] at g4 ⊢
  have n1:a ≠ 2:=fun e=>by rw [e,upN_same] at g4; omega
  rw [upN_ne _ _ n1] at g4 ⊢
  by_cases n2:b = 2
  ·rw [n2,upN_same]; omega
  ·rw [upN_ne _ _ n2]; exact h.apart a b g1 g2 g3 g4
 ·rw [zl] at hi
  have e1:i ≠ j':=fun e=>by rw [e,spGj] at hB'; exact hB hB'
  have e2:i ≠ m:=fun e=>by rw [e,spGm] at hB'; exact hB hB'
  rw [spG i (by omega) e1] at hB'
  obtain ⟨c',q1,q2⟩:=h.busy i (by omega) hB'
  refine ⟨c',q1,?_⟩
  rw [z2,upN_ne _ _ ?_]; exact q2
  intro ee; rw [ee,hj] at q2; exact e1 (by omega)
 ·rw [zl] at hi
  by_cases e1:i = j'
  ·have:=h.id j' jl'
   rw [e1,spzj]; show (sp y.calls j').id ≤ _; omega
  ·by_cases e2:i = m
   ·rw [e2,spzm]; show 2 * (k:Int) + 1 ≤ _; omega
   ·rw [spz i (by omega) e1]; have:=h.id i (by omega); omega
 ·rw [z1]
  refine nodup_snoc (by rw [ids_set (s:=endS (sp y.calls j') k (0,0,v')) jl' (by rfl)]; exact h.nd) fun i hi=>?_
  simp at hi
  show _ < 2 * (k:Int) + 1
  rw [sp_set _ jl']
  split
  ·have:=h.id j' jl'; show (sp y.calls j').id < _; omega
  ·have:=h.id i hi; omega
 ·rw [zl] at hi
  by_cases e1:i = j'
  ·rw [e1,spzj]; exact h.ok j' jl'
  ·by_cases e2:i = m
   ·rw [e2,spzm]; show okOp (3,0,0,0); unfold okOp; decide
   ·rw [spz i (by omega) e1]; exact h.ok i (by omega)
 ·rw [zl,z2,upN_same,if_pos rfl]
  have:=h.few
  rw [hj,if_neg (by omega)] at this
  omega
end
end Go.Proofs.YtlaojmcekeohnaaGreatDoor.Lift
set_option linter.unusedVariables false
set_option linter.unusedSimpArgs false
set_option linter.unnecessarySimpa false
set_option maxRecDepth 20000
namespace Go.Proofs.YtlaojmcekeohnaaGreatDoor.Lift
open Go Go.Proofs.YtlaojmcekeohnaaGreatDoor.Gh Go.Proofs
section
variable {n:Nat} {y:LM} {D H:Nat} {g:List Sp} {W:List Nat} {now now':Int} {K:Nat} {Df T Hf tk:Nat → Nat}
theorem InvD.one {a n D H tk:Nat} {th:List Int} {d:DnS} (h:InvD a n D H tk th d) (hm:mostD d = 1):tk = H:=by
 cases h with
 | fr1 most hh l a1 a2 a3 a4 a5=>simp only [mostD] at hm; omega
 | fr2 most l a1 a2 a3 a4 a5=>simp only [mostD] at hm; omega
 | dr1 most v l a1 a2 a3 a4 a5 a6=>simp only [mostD] at hm; omega
 | dr2 most v l a1 a2 a3 a4 a5 a6=>simp only [mostD] at hm; omega
inductive TookE (th:List Int) (H:Nat) (l:List Int):Prop
 | none:l = [] → TookE th H l
 | one (v:Int):l = [v] → th[H]? = some v → TookE th H l
theorem GI.stepD (hI:InvC n K y.x Df T Hf tk) (hK:K ≤ 60000) (h:GI n y (Df 1) (Hf 1) g W now) {j:Nat} (hj:y.o 2 = (j:Int)) {d:DnS} (hd:y.x.dn 1 = some d) {k:Nat} (hk:now < 2 * k + 1) (hk0:2 * (k:Int) + 1 < BIG) :
  ∃ D' H' tk',InvC n (K + 1) (y.stepD n k j d).x D' T H' tk' ∧ (∃ g' W',GI n (y.stepD n k j d) (D' 1) (H' 1) g' W' (2 * k + 1)) ∧ ((d.step y.x.s).1.over = true → (d.step y.x.s).1.err = 0 ∧ TookE (y.x.th 1) (Hf 1) (d.step y.x.s).1.vals) ∧ ((d.step y.x.s).1.over = false → muD (d.step y.x.s).1 < muD d):=by
 have hn:=hI.n1
 obtain ⟨fra0,D',H',tk',hI',hov,hmu⟩:=hI.stepD (by omega) (by omega) hd (c:=1)
 refine ⟨D',H',tk',hI',?_,fun ho=>?_,hmu⟩
 all_goals
  obtain ⟨jl,jg,_⟩:=sp_big h (by omega) hj
  obtain ⟨⟨d0,hd0,hm1⟩,q2,q3,q4⟩:=h.dn j hj
  have hdd:d0 = d:=by rw [hd] at hd0; cases hd0; rfl
  subst hdd
 ·cases hI.dn 1 (by omega) with
  | none a _ _=>rw [a] at hd; cases hd
  | some d1 a1 a2 a3 =>
   rw [hd] at a1
   cases a1
   have hb:=hI.box 1 (by omega)
   obtain ⟨fra,res⟩:=dn_step hb a3 (by omega)
   have htk:=a3.one hm1
   have hqn:=hb.m.qn
   have hgn:=hI'.gn 1 (by omega)
   have hf':=hI'.hf 1 (by omega)
   have hgn0:=hI.gn 1 (by omega)
   have hf0:=hI.hf 1 (by omega)
   have hx:(y.stepD n k j d0).x = y.x.stepD n 1 d0:=rfl
   have goes:(d0.step y.x.s).1.over = false → (y.stepD n k j d0).calls = y.calls ∧ (y.stepD n k j d0).o = y.o ∧ ∃ d',(y.stepD n k j d0).x.dn 1 = some d' ∧ mostD d' = 1:=fun ho =>
    ⟨by simp [LM.stepD,ho],by simp [LM.stepD,ho],_,by simp [LM.stepD,CM.stepD,upN_same,ho]; rfl,by rw [mostD_step _ _ ho]; exact hm1⟩
   cases res with
   | reads b1 b2 b3 b4 b5 =>
    have ho:=b4.mu.2.2
    obtain ⟨s1,s2,s3⟩:=goes ho
    have e1:(y.x.stepD n 1 d0).gn = y.x.gn:=by simp [CM.stepD,b1]
    have e2:(y.x.stepD n 1 d0).hf = y.x.hf:=by simp [CM.stepD,b1]
    rw [e1,hgn0] at hgn
    rw [e2] at hf'
    have eH:H' 1 = Hf 1:=by omega
    have eD:D' 1 = Df 1:=by rw [hf',hf0,eH]
    rw [eH,eD]
    exact ⟨g,W,h.same s1 s2 rfl (fun i hi h1=>by
     obtain ⟨j',hj'⟩:∃ j':Nat,y.o i = (j':Int):=⟨(y.o i).toNat,by have:=h.o1 i (by omega); omega⟩
     exact (h.sd i hi j' hj').1) h.ids ⟨rfl,rfl⟩ (fun _=>s3) (fun hi=>by omega) (by omega)⟩
   | clears b1 b2 b3 b4 b5 b6 =>
    have ho:=b5.mu.2.2
    obtain ⟨s1,s2,s3⟩:=goes ho
    have e1:(y.x.stepD n 1 d0).gn = y.x.gn:=by simp [CM.stepD,b1,b2]
    have e2:(y.x.stepD n 1 d0).hf 1 = true:=by simp [CM.stepD,b1,b2,upN_same]
    rw [e1,hgn0] at hgn
    rw [e2,if_pos rfl] at hf'
    have eH:H' 1 = Hf 1:=by omega
    have eD:D' 1 = Df 1 + 1:=by omega
    rw [eH,eD]
    rw [← b3] at h ⊢
    exact h.clear hj hn.1 (by omega) (by have:=b4.le; omega) hqn (by omega) hk0 s1 s2 rfl rfl ⟨rfl,rfl⟩ s3
   | heads b1 b2 b3 b4 b5 b6 =>
    have ho:=b5.mu.2.2
    have:=b5.one (by rw [mostD_step _ _ ho]; exact hm1)
    omega
   | empty l b1 b0 b2 b3 b4 b5 b6 =>
    have ho:(d0.step y.x.s).1.over = true:=by rw [b6]; rfl
    have hl:l = []:=List.eq_nil_of_length_eq_zero (by omega)
    have hv:(d0.step y.x.s).1.vals = []:=by rw [b6,hl]; rfl
    have e1:(y.x.stepD n 1 d0).gn = y.x.gn:=by simp [CM.stepD,b1]
    have e2:(y.x.stepD n 1 d0).hf = y.x.hf:=by simp [CM.stepD,b1]
    rw [e1,hgn0] at hgn
    rw [e2] at hf'
    have eH:H' 1 = Hf 1:=by omega
    have eD:D' 1 = Df 1:=by rw [hf',hf0,eH]
    rw [eH,eD]
    obtain ⟨hto,han⟩:=q3 b2
    have hjW:j ∉ W:=fun k=>by have:=h.lz.wd j k; omega
    have hq0:(y.x.th 1).drop (Df 1) = []:=List.drop_of_length_le b0
    have hlz:=h.lz.eff jg (by omega) hjW (endS (sp g j) k (15,0,0)) rfl rfl (now':=2 * k + 1) (.inl rfl) (by omega) (by omega) hk0 (q':=(y.x.th 1).drop (Df 1)) (by
     rw [q2]
     have:=qn_front hn.1 (by omega) (n:=n) hqn
     rw [hq0] at this ⊢
     exact this)
    exact ⟨_,_,h.over (by omega) hj (e:=(15,0,0)) hk hk0 hlz rfl (by simp [LM.stepD,ho,hv]) (by simp [LM.stepD,ho]) rfl (fun _ _ _=>rfl) (fun e=>absurd rfl e) (fun e=>by omega) (fun _=>⟨by simp [LM.stepD,CM.stepD,upN_same,ho],b2⟩) ⟨rfl,rfl⟩⟩
   | whole l b1 b2 b3 b4 b5 b6 b7 =>
    have ho:(d0.step y.x.s).1.over = true:=by rw [b7]; rfl
    have e1:(y.x.stepD n 1 d0).gn 1 = y.x.gn 1 + 1:=by simp [CM.stepD,b1,b2,upN_same]
    have e2:(y.x.stepD n 1 d0).hf 1 = false:=by simp [CM.stepD,b1,b2,upN_same]
    rw [e1,hgn0] at hgn
    rw [e2] at hf'
    simp at hf'
    have eH:H' 1 = Hf 1 + 1:=by omega
    have eD:D' 1 = Hf 1 + 1:=by omega
    rw [eH,eD]
    rw [b3] at h
    obtain ⟨_,v,hv,_⟩:=q4 (by omega)
    have hl1:l.length = 1:=by omega
    have hl:l = [v]:=by
     rw [hl1,htk] at b5
     rw [b5,List.take_one,List.head?_drop,hv]; rfl
    have hvl:(d0.step y.x.s).1.vals = [v]:=by rw [b7,hl]; rfl
    exact h.took hj hk hk0 hv (by simp [LM.stepD,ho,hvl]) (by simp [LM.stepD,ho]) rfl rfl ⟨rfl,rfl⟩ (by simp [LM.stepD,CM.stepD,upN_same,ho])
 ·obtain ⟨o1,o2,o3⟩:=hov ho
  refine ⟨o1,?_⟩
  cases hI.dn 1 (by omega) with
  | none a _ _=>rw [a] at hd; cases hd
  | some d1 a1 a2 a3 =>
   rw [hd] at a1
   cases a1
   have hb:=hI.box 1 (by omega)
   obtain ⟨fra,res⟩:=dn_step hb a3 (by omega)
   have htk:=a3.one hm1
   cases res with
   | reads b1 b2 b3 b4 b5=>have:=b4.mu.2.2; rw [this] at ho; cases ho
   | clears b1 b2 b3 b4 b5 b6=>have:=b5.mu.2.2; rw [this] at ho; cases ho
   | heads b1 b2 b3 b4 b5 b6=>have:=b5.mu.2.2; rw [this] at ho; cases ho
   | empty l b1 b0 b2 b3 b4 b5 b6=>exact .none (by rw [b6]; show l = []; exact List.eq_nil_of_length_eq_zero (by omega))
   | whole l b1 b2 b3 b4 b5 b6 b7 =>
    obtain ⟨_,v,hv,_⟩:=q4 (by omega)
    have hl1:l.length = 1:=by omega
    refine .one v ?_ hv
    rw [b7]
    show l = [v]
    rw [hl1,htk] at b5
    rw [b5,List.take_one,List.head?_drop,hv]; rfl
theorem GI.goes (h:GI n y D D g W now) (ho:∀ c,c < 3 → y.o c = -1):Goes (qMac n) y.calls [] [] 0:=by
 have hl:=h.len
 rw [if_pos rfl] at hl
 have:y.calls = g:=by
  refine List.ext_getElem (by omega) fun i h1 h2=>?_
  have hs:=h.see i h1
  rw [hid_not (fun hB=>by
   obtain ⟨c,c1,c2⟩:=h.busy i h1 hB
   have:=ho c c1; omega)] at hs
  unfold sp at hs
  simpa [List.getD,List.getElem?_eq_getElem h1,List.getElem?_eq_getElem h2] using hs
 rw [this]
 exact h.lz.all
end
end Go.Proofs.YtlaojmcekeohnaaGreatDoor.Lift
set_option linter.unusedVariables false
set_option linter.unusedSimpArgs false
set_option linter.unnecessarySimpa false
set_option maxRecDepth 20000
namespace Go.Proofs.YtlaojmcekeohnaaGreatDoor.Lift
open Go Go.Proofs.YtlaojmcekeohnaaGreatDoor.Gh Go.Proofs
def aOf (c:Nat):Nat:=if c < 2 then c else 4
def Ph (y:LM) (T:Nat → Nat) (k len:Nat):Prop:=len ≤ k → ∀ c,c < 3 → (c < (k - len) / 20 → y.o c = -1) ∧ (c = (k - len) / 20 → 0 ≤ y.o c → needA y.x T (aOf c) ≤ 20 - (k - len) % 20)
inductive LI (n:Nat) (y:LM) (k len:Nat):Prop
 | mk (Df T Hf tk:Nat → Nat) (g:List Sp) (W:List Nat):InvC n k y.x Df T Hf tk → GI n y (Df 1) (Hf 1) g W (2 * k - 1) → (∀ w ∈ y.x.th 1,0 ≤ w) → Ph y T k len → LI n y k len
section
variable {n k len K c j:Nat} {y z:LM} {Df T T' Hf tk:Nat → Nat} {g:List Sp} {W:List Nat} {now:Int}
theorem aOf_lt (hc:c < 3):aOf c < 5:=by unfold aOf; split <;> omega
theorem Ph.start (hI:InvC n K y.x Df T Hf tk) (hk:k ≤ len):Ph y T k len:=fun h c hc=>by
 have e:k - len = 0:=by omega
 rw [e]
 refine ⟨fun h=>by omega,fun _ _=>?_⟩
 have:=hI.need_le (aOf_lt hc)
 omega
theorem Ph.next (h:Ph y T k len) (hI:InvC n K z.x Df T' Hf tk) (hc3:c < 3) (hc:len ≤ k → c = (k - len) / 20) (ho:len ≤ k → ∀ i,i < 3 → i ≠ c → y.o i = -1 → z.o i = -1) (hz:z.o c = -1 ∨ 0 ≤ y.o c ∧ actI z.x (aOf c) ∧ needA z.x T' (aOf c) < needA y.x T (aOf c)):Ph z T' (k + 1) len:=by
 intro hlk i hi
 by_cases hk:len ≤ k
 ·have hcc:=hc hk
  have hold:=h hk
  have oo:=ho hk
  obtain ⟨r,hr⟩:∃ r,r = (k - len) % 20:=⟨_,rfl⟩
  have hend:(k + 1 - len) / 20 = c + 1 → z.o c = -1:=by
   intro e
   rcases hz with hz | ⟨h1,h2,h3⟩
   ·exact hz
   ·have:=(hold c hc3).2 hcc h1
    have hp:=hI.need_pos (aOf_lt hc3) h2
    omega
  refine ⟨fun h1=>?_,fun h1 h2=>?_⟩
  ·by_cases e:i = c
   ·rw [e]; rw [e] at h1; exact hend (by omega)
   ·exact oo i hi e ((hold i hi).1 (by omega))
  ·by_cases e:i = c
   ·subst e
    rcases hz with hz | ⟨h3,h4,h5⟩
    ·omega
    ·have:=(hold i hi).2 hcc h3
     omega
   ·have:=hI.need_le (aOf_lt hi)
    omega
 ·exact Ph.start hI (by omega) hlk i hi
end
end Go.Proofs.YtlaojmcekeohnaaGreatDoor.Lift
set_option linter.unusedVariables false
set_option linter.unusedSimpArgs false
set_option linter.unnecessarySimpa false
set_option maxRecDepth 20000
namespace Go.Proofs.YtlaojmcekeohnaaGreatDoor.Lift
open Go Go.Proofs.YtlaojmcekeohnaaGreatDoor.Gh Go.Proofs
section
variable {n k len K c j:Nat} {y z:LM} {Df T T' Hf tk:Nat → Nat} {g:List Sp} {W:List Nat} {now:Int}
theorem InvC.raise (h:InvC n K y.x Df T Hf tk) (hk:y.x.nx ≤ k) (hK:k ≤ K):InvC n K { y.x with nx:=k } Df T Hf tk:=by
 have hx:=h.nx
 refine ⟨h.n1,h.len,h.sk,h.box,h.gn,h.tkn,h.hf,fun i hi=>?_,h.df,fun c hc w hw=>Int.lt_of_lt_of_le (h.fr c hc w hw) hk,fun c hc=>?_,by constructor <;> simp only <;> omega⟩
 ·cases h.sd i hi with
  | none a=>exact .none a
  | some p e c a1 a2 a3 a4 a5 a6 a7 a8 a9=>exact .some p e c a1 a2 a3 a4 a5 a6 (Int.lt_of_lt_of_le a7 hk) a8 a9
 ·cases h.dn c hc with
  | none a b d=>exact .none a b d
  | some d a b e=>exact .some d a b e
theorem big_k (hk:k ≤ 1000):2 * (k:Int) + 1 < BIG:=by unfold BIG; omega
theorem LI.begS (h:LI n y k len) (hk:k < len) (hk2:k ≤ 1000) (hc:c < 2) (h0:y.o c = -1) (hl:y.calls.length < 6):LI n (y.begS n k c) (k + 1) len:=by
 obtain ⟨Df,T,Hf,tk,g,W,hI,hG,htn,hP⟩:=h
 have hx:=hI.nx
 have hI1:=(hI.raise (k:=k) (by omega) (Nat.le_refl _)).begS (i:=c) (c:=1) (by omega) (by omega) (by omega) (hG.ids c hc h0) (by simp only; omega)
 have hv:(k:Int) ∉ y.x.th 1:=fun hm=>by have:=hI.fr 1 (by omega) _ hm; omega
 obtain ⟨g',W',hG'⟩:=hG.begins (by omega) h0 (pushS k) rfl (now':=2 * k + 1) (by show 2 * (k:Int) ≤ _; omega) (by omega) (by show _ < 2 * (k:Int); omega) (by show 2 * (k:Int) ≤ _; omega) rfl (by show okOp (1,0,0,(k:Int)); unfold okOp; simp only; omega) hl (by omega) (z:=y.begS n k c) rfl rfl rfl
  (fun i hi hic=>by simp [LM.begS,CM.begS,upN_ne _ _ hic]) (fun _=>rfl) (fun _=>⟨⟨_,by simp [LM.begS,CM.begS,upN_same]; rfl⟩,by simp [LM.begS,CM.begS,upN_same],by simp [LM.begS,CM.begS,upN_same,pushS],by simpa [LM.begS,CM.begS,upN_same] using hv⟩) (fun e=>by omega)
 refine ⟨Df,T,Hf,tk,g',W',hI1,?_,htn,Ph.start hI1 (by omega)⟩
 have:2 * ((k + 1:Nat):Int) - 1 = 2 * k + 1:=by omega
 rw [this]; exact hG'
theorem LI.begD (h:LI n y k len) (hk:k < len) (hk2:k ≤ 1000) (h0:y.o 2 = -1) (hl:y.calls.length < 6):LI n (y.begD n k) (k + 1) len:=by
 obtain ⟨Df,T,Hf,tk,g,W,hI,hG,htn,hP⟩:=h
 have hx:=hI.nx
 have hd0:=hG.idd h0
 have hI1:=hI.begD (c:=1) (by omega) hd0 (most:=1) ⟨by omega,by omega⟩
 have hDH:Df 1 = Hf 1:=by
  cases hI.dn 1 (by omega) with
  | none a b d=>exact b
  | some d a b e=>rw [hd0] at a; cases a
 obtain ⟨g',W',hG'⟩:=hG.begins (c:=2) (by omega) h0 (frontS k) rfl (now':=2 * k + 1) (by show 2 * (k:Int) ≤ _; omega) (by omega) (by show _ < 2 * (k:Int); omega) (by show 2 * (k:Int) ≤ _; omega) rfl (by show okOp (2,0,0,0); unfold okOp; decide) hl (by omega) (z:=y.begD n k) rfl rfl rfl
  (fun i hi hic=>⟨rfl,rfl,rfl⟩) (fun k=>absurd rfl k) (fun k=>absurd k (by omega)) (fun _=>⟨⟨_,by simp [LM.begD,CM.begD,upN_same]; rfl,rfl⟩,rfl,hDH⟩)
 refine ⟨Df,T,Hf,tk,g',W',hI1,?_,htn,Ph.start hI1 (by omega)⟩
 have:2 * ((k + 1:Nat):Int) - 1 = 2 * k + 1:=by omega
 rw [this]; exact hG'
theorem LI.skip (h:LI n y k len) (hc3:c < 3) (hc:len ≤ k → c = (k - len) / 20) (h0:y.o c = -1):LI n y (k + 1) len:=by
 obtain ⟨Df,T,Hf,tk,g,W,hI,hG,htn,hP⟩:=h
 refine ⟨Df,T,Hf,tk,g,W,hI.more,hG.tick (by omega),htn,hP.next hI.more hc3 hc (fun _ i hi _ h=>h) (.inl h0)⟩
theorem LI.stepS (h:LI n y k len) (hk2:k ≤ 1000) (hc:c < 2) (hcc:len ≤ k → c = (k - len) / 20) (ho:y.o c = (j:Int)) {p:PuS} (hp:y.x.sd c = some (.go p)):LI n (y.stepS n k c j p) (k + 1) len:=by
 obtain ⟨Df,T,Hf,tk,g,W,hI,hG,htn,hP⟩:=h
 have hto:=(hG.sd c hc j ho).2.1
 obtain ⟨_,T',hI',hov,hmu⟩:=hI.stepS (by omega) (by omega) (c:=1) (by omega) hp hto
 obtain ⟨g',W',hG'⟩:=hG.stepS hI (by omega) hc ho hp (k:=k) (by omega) (big_k hk2)
 have hov0:0 ≤ y.x.v c:=by
  cases hI.sd c (by omega) with
  | none a=>rw [a] at hp; cases hp
  | some p e c a1 a2 a3 a4 a5 a6 a7 a8 a9=>exact a6
 have ea:aOf c = c:=by unfold aOf; rw [if_pos hc]
 have c3:c < 3:=by omega
 refine ⟨Df,T',Hf,tk,g',W',hI',?_,fun w hw=>?_,hP.next hI' (by omega) hcc (fun _ i hi hic h=>?_) ?_⟩
 ·have:2 * ((k + 1:Nat):Int) - 1 = 2 * k + 1:=by omega
  rw [this]; exact hG'
 ·simp only [LM.stepS,CM.stepS] at hw
  split at hw
  ·rw [upN_same] at hw
   rcases List.mem_append.1 hw with hw | hw
   ·exact htn w hw
   ·rw [List.mem_singleton.1 hw]; exact hov0
  ·exact htn w hw
 ·simp only [LM.stepS]
  split
  ·rw [upN_ne _ _ hic]; exact h
  ·exact h
 ·by_cases hv:(p.step y.x.s).1.over = true
  ·left; simp only [LM.stepS]; rw [if_pos hv,upN_same]
  ·right
   have hv':(p.step y.x.s).1.over = false:=by simpa using hv
   have hm:=hmu hv'
   rw [ea]
   refine ⟨by omega,?_,?_⟩
   ·unfold actI
    rw [if_pos c3]
    simp [LM.stepS,CM.stepS,upN_same,hv']
   ·unfold needA
    rw [if_pos c3,if_pos c3,hp]
    have e1:(y.stepS n k c j p).x.sd c = some (.go (p.step y.x.s).1):=by simp [LM.stepS,CM.stepS,upN_same,hv']
    have e2:(y.stepS n k c j p).x.to c = 1:=hto
    rw [e1]
    simp only [e2,hto]
    exact hm
theorem LI.stepD (h:LI n y k len) (hk2:k ≤ 1000) (hcc:len ≤ k → 2 = (k - len) / 20) (ho:y.o 2 = (j:Int)) {d:DnS} (hd:y.x.dn 1 = some d):LI n (y.stepD n k j d) (k + 1) len ∧ ((d.step y.x.s).1.over = true → (d.step y.x.s).1.err = 0 ∧ ((d.step y.x.s).1.vals = [] ∨ ∃ w,(d.step y.x.s).1.vals = [w] ∧ 0 ≤ w ∧ w < 18446744073709551616)):=by
 obtain ⟨Df,T,Hf,tk,g,W,hI,hG,htn,hP⟩:=h
 obtain ⟨D',H',tk',hI',⟨g',W',hG'⟩,hov,hmu⟩:=hG.stepD hI (by omega) ho hd (k:=k) (by omega) (big_k hk2)
 have hx:=hI.nx
 refine ⟨⟨D',T,H',tk',g',W',hI',?_,htn,hP.next hI' (c:=2) (by omega) hcc (fun _ i hi hic h=>?_) ?_⟩,fun hv=>?_⟩
 ·have:2 * ((k + 1:Nat):Int) - 1 = 2 * k + 1:=by omega
  rw [this]; exact hG'
 ·simp only [LM.stepD]
  split
  ·rw [upN_ne _ _ hic]; exact h
  ·exact h
 ·by_cases hv:(d.step y.x.s).1.over = true
  ·left; simp only [LM.stepD]; rw [if_pos hv,upN_same]
  ·right
   have hv':(d.step y.x.s).1.over = false:=by simpa using hv
   have hm:=hmu hv'
   refine ⟨by omega,?_,?_⟩
   ·show actI _ 4
    unfold actI
    rw [if_neg (by decide)]
    simp [LM.stepD,CM.stepD,upN_same,hv']
   ·show needA _ _ 4 < needA _ _ 4
    unfold needA
    rw [if_neg (by decide),if_neg (by decide)]
    have e1:(y.stepD n k j d).x.dn (4 - 3) = some (d.step y.x.s).1:=by
     show (y.stepD n k j d).x.dn 1 = _
     simp [LM.stepD,CM.stepD,upN_same,hv']
    rw [e1,show y.x.dn (4 - 3) = some d from hd]
    exact hm
 ·obtain ⟨e1,e2⟩:=hov hv
  refine ⟨e1,?_⟩
  cases e2 with
  | none h=>exact .inl h
  | one v h1 h2 =>
   have hm:=List.mem_of_getElem? h2
   have:=htn v hm
   have:=hI.fr 1 (by omega) v hm
   exact .inr ⟨v,h1,by omega,by omega⟩
end
end Go.Proofs.YtlaojmcekeohnaaGreatDoor.Lift
