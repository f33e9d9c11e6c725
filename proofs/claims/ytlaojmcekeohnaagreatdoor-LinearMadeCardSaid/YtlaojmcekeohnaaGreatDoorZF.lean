import Derived.Test.YtlaojmcekeohnaaGreatDoorZA
import Derived.Test.YtlaojmcekeohnaaGreatDoorZE
import Derived.Test.YtlaojmcekeohnaaGreatDoorZB
import Derived.Test.YtlaojmcekeohnaaGreatDoorZH
set_option linter.unusedVariables false
set_option linter.unusedSimpArgs false
set_option maxRecDepth 20000
namespace Go.Proofs.YtlaojmcekeohnaaGreatDoor.Lift
open Go Go.Proofs.YtlaojmcekeohnaaGreatDoor.Gh Go.Proofs
theorem sp_at' {l:List Sp} {i:Nat} (h:i < l.length):sp l i = l[i]:=by simp [sp,List.getD,List.getElem?_eq_getElem h]
structure Md {α:Type} (m:Mac α) (cs:List Sp) (st:Nat → List α):Prop where
 s0:st 0 = m.first
 nx:∀ j,j < cs.length → m.next (st j) (sp cs j).op (sp cs j).an = some (st (j + 1))
 id:∀ j,j < cs.length → (sp cs j).id = j ∧ (sp cs j).fr ≤ 100 + 10 * j ∧ 105 + 10 * (j:Int) ≤ (sp cs j).to
 ok:∀ c ∈ cs,okOp c.op
section
variable {α:Type} {m:Mac α} {cs:List Sp} {st:Nat → List α}
theorem Md.nil (m:Mac α):Md m [] fun _=>m.first:=⟨rfl,fun j h=>by simp at h,fun j h=>by simp at h,fun c h=>by cases h⟩
theorem sp_app1 (c:Sp) (i:Nat):sp (cs ++ [c]) i = if i < cs.length then sp cs i else if i = cs.length then c else default:=by
 unfold sp
 simp only [List.getD]
 by_cases h:i < cs.length
 ·rw [if_pos h,List.getElem?_append_left h]
 ·rw [if_neg h,List.getElem?_append_right (by omega)]
  by_cases h2:i = cs.length
  ·subst h2; simp
  ·have:i - cs.length ≠ 0:=by omega
   obtain ⟨n,hn⟩:=Nat.exists_eq_succ_of_ne_zero this
   rw [hn]; simp [h2]
theorem Md.add (h:Md m cs st) {c:Sp} {s':List α} (hn:m.next (st cs.length) c.op c.an = some s') (hid:c.id = cs.length) (hf:c.fr ≤ 100 + 10 * cs.length) (ht:105 + 10 * (cs.length:Int) ≤ c.to) (ho:okOp c.op):Md m (cs ++ [c]) fun j=>if j ≤ cs.length then st j else s':=by
 refine ⟨by simp [h.s0],fun j hj=>?_,fun j hj=>?_,fun x hx=>?_⟩
 ·rw [sp_app1]
  simp at hj
  by_cases hl:j < cs.length
  ·rw [if_pos hl,if_pos (by omega),if_pos (by omega)]; exact h.nx j hl
  ·have:j = cs.length:=by omega
   subst this
   rw [if_neg hl,if_pos rfl,if_pos (Nat.le_refl _),if_neg (by omega)]; exact hn
 ·rw [sp_app1]
  simp at hj
  by_cases hl:j < cs.length
  ·rw [if_pos hl]; exact h.id j hl
  ·have:j = cs.length:=by omega
   subst this
   rw [if_neg hl,if_pos rfl]; exact ⟨hid,hf,ht⟩
 ·rcases List.mem_append.1 hx with hx | hx
  ·exact h.ok x hx
  ·rw [List.mem_singleton.1 hx]; exact ho
theorem dn_bit:∀ (row:List Nat) (d i:Nat),(dn row d).testBit i = true ↔ d.testBit i = true ∨ i ∈ row
 | [],d,i=>by simp [dn]
 | a :: r,d,i=>by
  show (dn r (d ||| 1 <<< a)).testBit i = true ↔ _
  rw [dn_bit r,Nat.testBit_or,Nat.testBit_shiftLeft,List.mem_cons,Bool.or_eq_true,Bool.and_eq_true,decide_eq_true_eq]
  constructor
  ·rintro ((h | ⟨h1,h2⟩) | h)
   ·exact .inl h
   ·refine .inr (.inl ?_)
    by_cases h0:i - a = 0
    ·omega
    ·obtain ⟨z,hz⟩:∃ z,i - a = z + 1:=⟨i - a - 1,by omega⟩
     rw [hz] at h2; simp [Nat.testBit_succ] at h2
   ·exact .inr (.inr h)
  ·rintro (h | h | h)
   ·exact .inl (.inl h)
   ·exact .inl (.inr ⟨by omega,by subst h; simp⟩)
   ·exact .inr h
theorem Md.wayFrom (h:Md m cs st):∀ (k i d:Nat),i + k = cs.length → (∀ x,d.testBit x = true ↔ x < i) → Way m cs (st i) d (List.range' i k) (st cs.length) (dn (List.range' i k) d)
 | 0,i,d,hi,_=>by
  have:i = cs.length:=by omega
  subst this
  exact .nil _ _
 | k + 1,i,d,hi,hd=>by
  have hlt:i < cs.length:=by omega
  rw [List.range'_succ]
  refine .cons hlt ⟨?_,fun j hj hne hb=>?_⟩ (an:=(sp cs i).an) ?_ (h.nx i hlt) (Md.wayFrom h k (i + 1) _ (by omega) fun x=>?_)
  ·cases hb:d.testBit i with
   | false=>rfl
   | true=>have:=(hd i).1 hb; omega
  ·have hji:i < j:=by
    by_cases hjl:j < i
    ·rw [(hd j).2 hjl] at hb; cases hb
    ·omega
   have h1:=(h.id i hlt).2.1
   have h2:=(h.id j hj).2.2
   unfold ahead
   have:¬ ((sp cs j).to < (sp cs i).fr):=by omega
   simp [this]
  ·unfold toldP
   rw [if_pos (by have:=(h.id i hlt).2.2; omega)]
   exact List.mem_singleton.2 rfl
  ·have:=dn_bit [i] d x
   simp only [dn,List.foldl_cons,List.foldl_nil,List.mem_singleton] at this
   rw [this,hd]
   omega
theorem Md.way (h:Md m cs st):Way m cs m.first 0 (List.range cs.length) (st cs.length) (dn (List.range cs.length) 0):=by
 have:=h.wayFrom cs.length 0 0 (by omega) (fun x=>by simp)
 rw [h.s0,← List.range_eq_range'] at this
 exact this
theorem Md.over (h:Md m cs st):ovrP cs (dn (List.range cs.length) 0):=fun i hi _=>(dn_bit _ _ _).2 (.inr (List.mem_range.2 hi))
theorem Md.ids (h:Md m cs st):cs.map (·.id) = (List.range cs.length).map fun (a:Nat)=>(a:Int):=by
 apply List.ext_getElem (by simp)
 intro i h1 h2
 have hi:i < cs.length:=by simpa using h1
 rw [List.getElem_map,List.getElem_map,List.getElem_range,← sp_at' hi]
 exact (h.id i hi).1
theorem Md.nodup (h:Md m cs st):(cs.map (·.id)).Nodup:=by
 rw [h.ids]
 refine List.Pairwise.map _ (fun a b hab=>?_) List.nodup_range
 intro e
 exact hab (by omega)
theorem Md.goes (h:Md m cs st):Goes m cs [] m.first 0:=⟨_,_,_,by simpa using h.way,h.over⟩
theorem Md.rowIds (h:Md m cs st):(List.range cs.length).map (fun a=>(sp cs a).id) = (List.range cs.length).map fun (a:Nat)=>(a:Int) :=
 List.map_congr_left fun a ha=>(h.id a (List.mem_range.1 ha)).1
end
end Go.Proofs.YtlaojmcekeohnaaGreatDoor.Lift
set_option linter.unusedVariables false
set_option linter.unusedSimpArgs false
set_option maxRecDepth 20000
namespace Go.Proofs.YtlaojmcekeohnaaGreatDoor.Lift
open Go Go.Proofs.YtlaojmcekeohnaaGreatDoor.Gh Go.Proofs
theorem pick_ok (orc:FuncId → Bool) (x n:Int) (hn:0 < n) (hn2:n < 2 ^ 40) (G:GS):(E orc).cl 19 [.int .i64 x,.int .i64 n] G = some (.int .i64 (x % n),G):=by
 refine f19 (exL_ok Q orc) _ _ G _ ?_
 have h1:=Int.emod_nonneg x (show n ≠ 0 by omega)
 have h2:=Int.emod_lt_of_pos x hn
 have ht:=@Int.tmod_eq_emod x n
 have hn0:¬ n ≤ 0:=by omega
 have hn1:¬ n = 0:=by omega
 have hw:IntKind.wrap .i64 (x % n) = x % n:=wrap64 (by omega) (by omega)
 by_cases hx:x.tmod n < 0
 ·have e:x.tmod n + n = x % n:=by split at ht <;> omega
  simp [s19,clip_t,hx,e,hw,hn0,hn1]
 ·have e:x.tmod n = x % n:=by split at ht <;> omega
  have hx':¬ x % n < 0:=by omega
  simp [s19,clip_t,e,hx',hn0,hn1]
def eOp:RowE Op4:=⟨4,rowOp,fun _=>rfl,fun _=>rfl,by decide⟩
@[simp] theorem eOp_sz:eOp.sz = 4:=rfl
@[simp] theorem eOp_row (x:Op4):eOp.row x = rowOp x:=rfl
structure MdH {α:Type} (e:RowE α) (A G:GS) (cv:Value) (cs:List Sp) (ov:Value) (i:Nat) (qv:Value) (s:List α):Prop where
 ext:Ext A G
 c:OwR rSp A.nx G cv cs
 o:OwR (rowsI .i64) A.nx G ov (rI (List.range i))
 q:OwR e A.nx G qv s
 co:Apart (InB cv) (InB ov)
 cq:Apart (InB cv) (InB qv)
 oq:Apart (InB ov) (InB qv)
section
variable {α:Type} {e:RowE α} {A G G':GS} {cv ov qv:Value} {cs:List Sp} {i:Nat} {s:List α}
theorem MdH.step (h:MdH e A G cv cs ov i qv s) (x:Ext G G'):MdH e A G' cv cs ov i qv s:=⟨h.ext.trans x,h.c.ext x,h.o.ext x,h.q.ext x,h.co,h.cq,h.oq⟩
theorem apart_new {v v':Value} {β:Type} {f:RowE β} {L:List β} (hv:∀ x,InB v x → x < G.nx) (h:OwR f G.nx G' v' L):Apart (InB v) (InB v'):=fun x hx hx'=>by
 have:=hv x hx
 have:=h.from hx'
 omega
theorem apart_new' {v v':Value} {β:Type} {f:RowE β} {L:List β} (hv:∀ x,InB v x → x < G.nx) (h:OwR f G.nx G' v' L):Apart (InB v') (InB v):=fun x hx' hx=>by
 have:=hv x hx
 have:=h.from hx'
 omega
theorem inB_lt {v:Value} {β:Type} {f:RowE β} {L:List β} (h:SlR f G v L):∀ x,InB v x → x < G.nx:=fun x ⟨a,n,c,he,hx⟩=>hx ▸ h.lt a n c he
theorem MdH.next (h:MdH e A G cv cs ov i qv s) (x:Ext G G') {qv':Value} {s':List α} (w:OwR e G.nx G' qv' s'):MdH e A G' cv cs ov i qv' s' :=
 ⟨h.ext.trans x,h.c.ext x,h.o.ext x,w.mono h.ext.nx,h.co,apart_new (inB_lt h.c.is) w,apart_new (inB_lt h.o.is) w⟩
theorem MdH.put (h:MdH e A G cv cs ov i qv s) {sb:Nat} (hsb:A.nx ≤ sb) (hn:¬ InB cv sb ∧ ¬ InB ov sb ∧ ¬ InB qv sb) (o:GObj):MdH e A (G.put sb o) cv cs ov i qv s :=
 have k:∀ g,g ≠ sb → (G.put sb o).obj g = G.obj g:=fun g hg=>by simp [hg]
 ⟨h.ext.put hsb _,h.c.kept (Nat.le_refl _) fun g hg=>k g fun e=>hn.1 (e ▸ hg),h.o.kept (Nat.le_refl _) fun g hg=>k g fun e=>hn.2.1 (e ▸ hg),h.q.kept (Nat.le_refl _) fun g hg=>k g fun e=>hn.2.2 (e ▸ hg),h.co,h.cq,h.oq⟩
theorem MdH.call (h:MdH e A G cv cs ov i qv s) {c:Sp} (hl:cs.length ≤ 1000):∃ cv' G',appK 10 80 cv (.slice (some ⟨G.nx,0,none⟩) 1 1) (G.push ⟨rSp.row c,10,false,1⟩) = some (cv',G') ∧ MdH e A G' cv' (cs ++ [c]) ov i qv s:=by
 have h1:=h.step (G':=G.push ⟨rSp.row c,10,false,1⟩) ((Ext.refl G).push _)
 obtain ⟨v',G',h3,h4,h5,h6,h7⟩:=h1.c.app_new (ib:=80) (by decide) h1.ext (SlR.one rSp G c) (by simp) (by simp; omega)
 exact ⟨v',G',h3,h4,h5.mono h1.ext.nx,h1.o.kept h6 (fun g hg=>h7 g (inB_lt h1.o.is g hg) fun a n c' he hb=>h1.co g ⟨a,n,c',he,hb⟩ hg),h1.q.kept h6 (fun g hg=>h7 g (inB_lt h1.q.is g hg) fun a n c' he hb=>h1.cq g ⟨a,n,c',he,hb⟩ hg),apart_new' (inB_lt h1.o.is) h5,apart_new' (inB_lt h1.q.is) h5,h1.oq⟩
theorem MdH.place (h:MdH e A G cv cs ov i qv s) (hl:i ≤ 1000):∃ ov' G',appK 1 8 ov (.slice (some ⟨G.nx,0,none⟩) 1 1) (G.push ⟨[.int .i64 (i:Int)],1,false,1⟩) = some (ov',G') ∧ MdH e A G' cv cs ov' (i + 1) qv s:=by
 have h1:=h.step (G':=G.push ⟨[.int .i64 (i:Int)],1,false,1⟩) ((Ext.refl G).push _)
 obtain ⟨v',G',h3,h4,h5,h6,h7⟩:=h1.o.app_new (ib:=8) (by decide) h1.ext (SlR.one (rowsI .i64) G (i:Int)) (by simp) (by simp; omega)
 refine ⟨v',G',h3,h4,h1.c.kept h6 (fun g hg=>h7 g (inB_lt h1.c.is g hg) fun a n c' he hb=>h1.co g hg ⟨a,n,c',he,hb⟩),?_,h1.q.kept h6 (fun g hg=>h7 g (inB_lt h1.q.is g hg) fun a n c' he hb=>h1.oq g ⟨a,n,c',he,hb⟩ hg),apart_new (inB_lt h1.c.is) h5,h1.cq,apart_new' (inB_lt h1.q.is) h5⟩
 have:=h5.mono h1.ext.nx
 rw [List.range_succ,rI,List.map_append]
 exact this
end
structure Em (τ:Env) (md room:Int) (v2 v3 v4 cv ov qv hv:Value) (i:Nat):Prop where
 t0:τ 0 = .int .i64 md
 t1:τ 1 = .int .i64 room
 t2:τ 2 = v2
 t3:τ 3 = v3
 t4:τ 4 = v4
 t12:τ 12 = cv
 t13:τ 13 = ov
 t14:τ 14 = qv
 t15:τ 15 = hv
 t16:τ 16 = .int .i64 (i:Int)
abbrev LpT:=Env → GS → Option (Exit × Env × GS)
section
variable {α:Type} {e:RowE α} {A G:GS} {cv ov qv hv sv v2 v3 v4:Value} {cs:List Sp} {i:Nat} {s:List α} {md room:Int} {bf bh:List Int} {τ:Env} {lp:LpT} {Post:Exit × Env × GS → Prop}
theorem jm0 (orc:FuncId → Bool) (hE:Em τ md room v2 v3 v4 cv ov qv hv i) (h:MdH e A G cv cs ov i sv s) (hi:i ≤ 100) (hcs:cs.length = i) {sb:Nat} (t19:τ 19 = Pp sb) {c:Sp} (os:G.obj sb = some ⟨rSp.row c,1,false,1⟩)
  (hgo:∀ τ' G' cv' ov',Em τ' md room v2 v3 v4 cv' ov' qv hv (i + 1) → MdH e A G' cv' (cs ++ [c]) ov' (i + 1) sv s → Wp (lp τ' G') Post):Wp (jbl23_0_0 true (exL Q orc) lp τ G) Post:=by
 obtain ⟨t0,t1,t2,t3,t4,t12,t13,t14,t15,t16⟩:=hE
 have hw:IntKind.wrap .i64 ((i:Int) + 1) = ((i + 1:Nat):Int):=wrap64 (by omega) (by omega)
 have hld:loadO 10 0 (some ⟨rSp.row c,1,false,1⟩) = some (.agg ⟨rSp.row c⟩):=loadO_whole rfl (by decide)
 obtain ⟨cv',G1,e1,h1⟩:=h.call (c:=c) (by omega)
 obtain ⟨ov',G2,e2,h2⟩:=h1.place (by omega)
 have hl10:(rSp.row c).length = 10:=rfl
 have hsp:splice z29 0 (rSp.row c) = some (rSp.row c):=rfl
 generalize hrc:rSp.row c = rc at *
 simp [-Int.natCast_add,jbl23_0_0,t0,t1,t2,t3,t4,t12,t13,t14,t15,t16,t19,os,hld,hw,hl10,hsp,e1,e2]
 exact hgo _ G2 cv' ov' ⟨by simp [clip_t],by simp [clip_t],by simp [clip_t],by simp [clip_t],by simp [clip_t],by simp [clip_t],by simp [clip_t],by simp [clip_t],by simp [clip_t],by simp [clip_t]⟩ h2
theorem jm1 (orc:FuncId → Bool) (hE:Em τ md room v2 v3 v4 cv ov qv hv i) (h:MdH e A G cv cs ov i sv s) (hi:i ≤ 100) (hcs:cs.length = i) (h4:SlR (rowsI .i64) A v4 bh) {sb:Nat} (t19:τ 19 = Pp sb) (hsb:A.nx ≤ sb) (hsG:sb < G.nx) (hsc:¬ InB cv sb ∧ ¬ InB ov sb ∧ ¬ InB sv sb) {c:Sp} (os:G.obj sb = some ⟨rSp.row c,1,false,1⟩) (hto:c.to = 105 + 10 * i)
  (hgo:∀ τ' G' cv' ov' (y:Int),Em τ' md room v2 v3 v4 cv' ov' qv hv (i + 1) → 0 ≤ y → y < 60 → MdH e A G' cv' (cs ++ [{ c with to:=c.to + y }]) ov' (i + 1) sv s → Wp (lp τ' G') Post):Wp (jbl23_0_1 true (exL Q orc) lp (jl23_0_0 true (exL Q orc) lp) τ G) Post:=by
 obtain ⟨t0,t1,t2,t3,t4,t12,t13,t14,t15,t16⟩:=hE
 obtain ⟨ba,bc,eb⟩:=h4.len
 have lb:∀ x,ln Q true x v4 = some (.int .i64 bh.length):=fun x=>by rw [eb]; simp
 have h2:(0:Int) ≤ i:=by omega
 by_cases hlt:i < bh.length
 ·have h1:(i:Int) < bh.length:=by omega
  obtain ⟨b,o,c',e0,hbA,hz,_⟩:=h4.at hlt
  have hz:=hz 0 (by decide)
  simp [rowsI] at hz
  have hob:=h.ext.obj b hbA
  have ep:=pick_ok orc bh[i] 60 (by decide) (by decide) (G.room 10)
  have y1:=Int.emod_nonneg bh[i] (show (60:Int) ≠ 0 by decide)
  have y2:=Int.emod_lt_of_pos bh[i] (show (0:Int) < 60 by decide)
  generalize bh[i] % 60 = y at *
  have hw:IntKind.wrap .i64 (c.to + y) = c.to + y:=wrap64 (by omega) (by omega)
  rw [rSp_row] at os
  have hs:same (.int .i64 c.to) (.int .i64 c.to) = true:=by simp [same,sameD]
  simp [-Int.natCast_add,jbl23_0_1,t0,t1,t2,t3,t4,t12,t13,t14,t15,t16,t19,lb,h1,h2,hlt,e0,hob,hz,os,ep,hw,sameO,hs]
  refine jm0 orc ⟨by simp [clip_t],by simp [clip_t],by simp [clip_t],by simp [clip_t],by simp [clip_t,e0],by simp [clip_t],by simp [clip_t],by simp [clip_t],by simp [clip_t],by simp [clip_t]⟩ ((h.step ((Ext.refl G).room 10)).put hsb hsc _) hi hcs (sb:=sb) (c:={ c with to:=c.to + y }) (by simp [clip_t]) (by simp) fun τ' G' cv' ov' k1 k2=>hgo τ' G' cv' ov' y k1 y1 y2 k2
 ·have h1:¬ (i:Int) < bh.length:=by omega
  simp [-Int.natCast_add,jbl23_0_1,t0,t1,t2,t3,t4,t12,t13,t14,t15,t16,t19,lb,h1,hlt]
  refine jm0 orc ⟨by simp [clip_t],by simp [clip_t],by simp [clip_t],by simp [clip_t],by simp [clip_t],by simp [clip_t],by simp [clip_t],by simp [clip_t],by simp [clip_t],by simp [clip_t]⟩ h hi hcs (by simp [clip_t]) os fun τ' G' cv' ov' k1 k2=>hgo τ' G' cv' ov' 0 k1 (by decide) (by decide) (by simpa using k2)
theorem jm2 (orc:FuncId → Bool) (hE:Em τ md room v2 v3 v4 cv ov qv hv i) (h:MdH e A G cv cs ov i sv s) (hi:i ≤ 100) (hcs:cs.length = i) (h3:SlR (rowsI .i64) A v3 bf) (h4:SlR (rowsI .i64) A v4 bh) {ob ab:Nat} (t17:τ 17 = Pp ob) (t18:τ 18 = Pp ab) {op:Op4} {an:An3} (oo:G.obj ob = some ⟨rowOp op,1,false,1⟩) (oa:G.obj ab = some ⟨eAn.row an,1,false,1⟩)
  (hgo:∀ τ' G' cv' ov' (x y:Int),Em τ' md room v2 v3 v4 cv' ov' qv hv (i + 1) → 0 ≤ x → 0 ≤ y → x < 60 → y < 60 → MdH e A G' cv' (cs ++ [⟨i,100 + 10 * i - x,105 + 10 * i + y,op,an⟩]) ov' (i + 1) sv s → Wp (lp τ' G') Post):Wp (jbl23_0_2 true (exL Q orc) lp (jl23_0_0 true (exL Q orc) lp) (jl23_0_1 true (exL Q orc) lp) τ G) Post:=by
 obtain ⟨t0,t1,t2,t3,t4,t12,t13,t14,t15,t16⟩:=hE
 obtain ⟨ba,bc,eb⟩:=h3.len
 have lb:∀ x,ln Q true x v3 = some (.int .i64 bf.length):=fun x=>by rw [eb]; simp
 have h2:(0:Int) ≤ i:=by omega
 have w1:IntKind.wrap .i64 (10 * (i:Int)) = 10 * i:=wrap64 (by omega) (by omega)
 have w2:IntKind.wrap .i64 (100 + 10 * (i:Int)) = 100 + 10 * i:=wrap64 (by omega) (by omega)
 have w3:IntKind.wrap .i64 (105 + 10 * (i:Int)) = 105 + 10 * i:=wrap64 (by omega) (by omega)
 have ld4:loadO 4 0 (some ⟨rowOp op,1,false,1⟩) = some (.agg ⟨rowOp op⟩):=loadO_whole rfl (by decide)
 have ld3:loadO 3 0 (some ⟨eAn.row an,1,false,1⟩) = some (.agg ⟨eAn.row an⟩):=loadO_whole rfl (by decide)
 have hz:z29 = [.int .i64 0,.int .i64 0,.int .i64 0,.int .i64 0,.int .i64 0,.int .i64 0,.int .u64 0,.int .i64 0,.int .i64 0,.int .u64 0]:=rfl
 have xs:Ext G ((G.push ⟨z29,1,false,1⟩).put G.nx ⟨rSp.row ⟨i,100 + 10 * i,105 + 10 * i,op,an⟩,1,false,1⟩):=((Ext.refl G).push _).put (Nat.le_refl _) _
 have os:((G.push ⟨z29,1,false,1⟩).put G.nx ⟨rSp.row ⟨i,100 + 10 * i,105 + 10 * i,op,an⟩,1,false,1⟩).obj G.nx = some ⟨rSp.row ⟨i,100 + 10 * i,105 + 10 * i,op,an⟩,1,false,1⟩:=by simp
 have ns:G.nx < ((G.push ⟨z29,1,false,1⟩).put G.nx ⟨rSp.row ⟨i,100 + 10 * i,105 + 10 * i,op,an⟩,1,false,1⟩).nx:=by simp
 have hsc:¬ InB cv G.nx ∧ ¬ InB ov G.nx ∧ ¬ InB sv G.nx:=⟨fun h'=>by have:=inB_lt h.c.is _ h'; omega,fun h'=>by have:=inB_lt h.o.is _ h'; omega,fun h'=>by have:=inB_lt h.q.is _ h'; omega⟩
 have hsb:=h.ext.nx
 have h5:=h.step xs
 rw [rSp_row,hz] at xs os ns h5
 obtain ⟨G5,hG5⟩:∃ G5,G5 = ((G.push ⟨[.int .i64 0,.int .i64 0,.int .i64 0,.int .i64 0,.int .i64 0,.int .i64 0,.int .u64 0,.int .i64 0,.int .i64 0,.int .u64 0],1,false,1⟩).put G.nx ⟨[.int .i64 i,.int .i64 (100 + 10 * i),.int .i64 (105 + 10 * i),.int .i64 op.1,.int .i64 op.2.1,.int .i64 op.2.2.1,.int .u64 op.2.2.2,.int .i64 an.1,.int .i64 an.2.1,.int .u64 an.2.2],1,false,1⟩):=⟨_,rfl⟩
 rw [← hG5] at xs os ns h5
 by_cases hlt:i < bf.length
 ·have h1:(i:Int) < bf.length:=by omega
  obtain ⟨b,o,c',e0,hbA,hz',_⟩:=h3.at hlt
  have hz':=hz' 0 (by decide)
  simp [rowsI] at hz'
  have hob:=h.ext.obj b hbA
  have hob5:G5.obj b = A.obj b:=h5.ext.obj b hbA
  have ep:=pick_ok orc bf[i] 60 (by decide) (by decide) (G5.room 10)
  have y1:=Int.emod_nonneg bf[i] (show (60:Int) ≠ 0 by decide)
  have y2:=Int.emod_lt_of_pos bf[i] (show (0:Int) < 60 by decide)
  generalize bf[i] % 60 = y at *
  have hw:IntKind.wrap .i64 (100 + 10 * (i:Int) - y) = 100 + 10 * i - y:=wrap64 (by omega) (by omega)
  have hs:same (.int .i64 (100 + 10 * (i:Int))) (.int .i64 (100 + 10 * (i:Int))) = true:=by simp [same,sameD]
  simp [-Int.natCast_add,jbl23_0_2,t0,t1,t2,t3,t4,t12,t13,t14,t15,t16,t17,t18,oo,oa,ld4,ld3,rowOp,w1,w2,w3,hz,lb,h1,h2,hlt,e0,← hG5,os,hob5,hz',ep,hw,hs,sameO]
  refine jm1 orc ⟨by simp [clip_t],by simp [clip_t],by simp [clip_t],by simp [clip_t,e0],by simp [clip_t],by simp [clip_t],by simp [clip_t],by simp [clip_t],by simp [clip_t],by simp [clip_t]⟩ ((h5.step ((Ext.refl G5).room 10)).put hsb hsc _) hi hcs h4 (sb:=G.nx) (by simp [clip_t]) hsb (by simp; omega) hsc (c:=⟨i,100 + 10 * i - y,105 + 10 * i,op,an⟩) (by simp) rfl fun τ' G' cv' ov' z k1 k3 k4 k2=>hgo τ' G' cv' ov' y z k1 y1 k3 y2 k4 k2
 ·have h1:¬ (i:Int) < bf.length:=by omega
  simp [-Int.natCast_add,jbl23_0_2,t0,t1,t2,t3,t4,t12,t13,t14,t15,t16,t17,t18,oo,oa,ld4,ld3,rowOp,w1,w2,w3,hz,lb,h1,hlt,← hG5]
  refine jm1 orc ⟨by simp [clip_t],by simp [clip_t],by simp [clip_t],by simp [clip_t],by simp [clip_t],by simp [clip_t],by simp [clip_t],by simp [clip_t],by simp [clip_t],by simp [clip_t]⟩ h5 hi hcs h4 (sb:=G.nx) (by simp [clip_t]) hsb ns hsc (c:=⟨i,100 + 10 * i,105 + 10 * i,op,an⟩) os rfl fun τ' G' cv' ov' z k1 k3 k4 k2=>hgo τ' G' cv' ov' 0 z k1 (by decide) k3 (by decide) k4 (by simpa using k2)
end
end Go.Proofs.YtlaojmcekeohnaaGreatDoor.Lift
set_option linter.unusedVariables false
set_option linter.unusedSimpArgs false
set_option maxRecDepth 20000
namespace Go.Proofs.YtlaojmcekeohnaaGreatDoor.Lift
open Go Go.Proofs.YtlaojmcekeohnaaGreatDoor.Gh Go.Proofs
def MadeP {α:Type} (e:RowE α) (m:Mac α) (A G:GS) (cv ov:Value) (n:Nat):Prop:=∃ cs st qv s,cs.length = n ∧ Md m cs st ∧ MdH e A G cv cs ov cs.length qv s
section
variable {A:GS} {v2 v3 v4:Value} {ops:List Op4} {bf bh:List Int} {room:Int}
theorem dNext_len {L:List Int} {k w:Int} (h:(L.length:Int) ≤ room):((dNext room L k w).length:Int) ≤ room:=by
 unfold dNext
 split
 ·split
  ·exact h
  ·simp; omega
 ·split
  ·simp; omega
  ·exact h
theorem madeQ_lp (orc:FuncId → Bool) (hr1:1 ≤ room) (hr4:room ≤ 4) (h2:SlR eOp A v2 ops) (h3:SlR (rowsI .i64) A v3 bf) (h4:SlR (rowsI .i64) A v4 bh) (ho:∀ o ∈ ops,okOp o) (hn:ops.length ≤ 7) :
  ∀ (k i:Nat) (τ:Env) (G:GS) (cs:List Sp) (st:Nat → List Int) (cv ov qv hv:Value),i + k = ops.length → cs.length = i → Em τ 1 room v2 v3 v4 cv ov qv hv i → MdH rU A G cv cs ov i qv (st i) → Md (qMac room) cs st → ((st i).length:Int) ≤ room →
  Wp ((exL Q orc).lpx 23 0 τ G) fun q=>q.1 = .exit 0 ∧ MadeP rU (qMac room) A q.2.2 (q.2.1 12) (q.2.1 13) ops.length:=by
 intro k
 induction k with
 | zero =>
  intro i τ G cs st cv ov qv hv hi hcs hE h hm hl
  obtain ⟨t0,t1,t2,t3,t4,t12,t13,t14,t15,t16⟩:=hE
  have hi':i = ops.length:=by omega
  subst hi'
  obtain ⟨va,vc,ev⟩:=h2.len
  have lb:∀ x,ln Q true x v2 = some (.int .i64 ops.length):=fun x=>by rw [ev]; simp
  refine Wp.lp (l23_0 (exL_ok Q orc)) ?_
  simp [b23_0,bb23_0,clip_t,t0,t1,t2,t3,t4,t12,t13,t14,t15,t16,lb]
  exact ⟨cs,st,qv,_,hcs,hm,by rw [hcs]; exact h⟩
 | succ k ih =>
  intro i τ G cs st cv ov qv hv hi hcs hE h hm hl
  have hE0:=hE
  obtain ⟨t0,t1,t2,t3,t4,t12,t13,t14,t15,t16⟩:=hE
  have hlt:i < ops.length:=by omega
  have h1:(i:Int) < ops.length:=by omega
  have h0:(0:Int) ≤ i:=by omega
  obtain ⟨va,vc,ev⟩:=h2.len
  have lb:∀ x,ln Q true x v2 = some (.int .i64 ops.length):=fun x=>by rw [ev]; simp
  obtain ⟨b,o,c,e0,hbG,_,hz⟩:=(h2.ext h.ext).at hlt
  rw [eOp_sz,loadA_eq,eOp_row] at hz
  have hok:=ho _ (List.getElem_mem hlt)
  generalize ops[i] = op at *
  obtain ⟨p0,p1,p2,p3⟩:=op
  have ld4:∀ o:Op4,loadO 4 0 (some ⟨rowOp o,1,false,1⟩) = some (.agg ⟨rowOp o⟩):=fun o=>loadO_whole rfl (by decide)
  have ld3:∀ y:An3,loadO 3 0 (some ⟨eAn.row y,1,false,1⟩) = some (.agg ⟨eAn.row y⟩):=fun y=>loadO_whole rfl (by decide)
  have st3:∀ y:An3,stO 3 0 (.agg ⟨eAn.row y⟩) (some ⟨z27,1,false,1⟩) = some ⟨eAn.row y,1,false,1⟩:=fun y=>rfl
  have st4:∀ o:Op4,stO 4 0 (.agg ⟨rowOp o⟩) (some ⟨z24,1,false,1⟩) = some ⟨rowOp o,1,false,1⟩:=fun o=>rfl
  have xa:Ext G (((G.push ⟨z24,1,false,1⟩).put G.nx ⟨rowOp (p0,p1,p2,p3),1,false,1⟩).push ⟨z27,1,false,1⟩):=(((Ext.refl G).push _).put (Nat.le_refl _) _).push _
  obtain ⟨G8,hG8⟩:∃ G8,G8 = ((G.push ⟨z24,1,false,1⟩).put G.nx ⟨rowOp (p0,p1,p2,p3),1,false,1⟩).push ⟨z27,1,false,1⟩:=⟨_,rfl⟩
  have o8:G8.obj G.nx = some ⟨rowOp (p0,p1,p2,p3),1,false,1⟩:=by rw [hG8]; simp
  have a8:G8.obj (G.nx + 1) = some ⟨z27,1,false,1⟩:=by rw [hG8]; simp
  have n8:G8.nx = G.nx + 2:=by rw [hG8]; simp
  rw [← hG8] at xa
  have ep:=pick_ok orc p0 3 (by decide) (by decide) G8
  have y1:=Int.emod_nonneg p0 (show (3:Int) ≠ 0 by decide)
  have y2:=Int.emod_lt_of_pos p0 (show (0:Int) < 3 by decide)
  generalize p0 % 3 = y at *
  have hw:IntKind.wrap .i64 (1 + y) = 1 + y:=wrap64 (by omega) (by omega)
  have hz4:z24 = [.int .i64 0,.int .i64 0,.int .i64 0,.int .u64 0]:=rfl
  have hz3:z27 = [.int .i64 0,.int .i64 0,.int .u64 0]:=rfl
  have g0:(rowOp (p0,p1,p2,p3))[0]? = some (.int .i64 p0):=rfl
  have st1:stO 1 0 (.int .i64 (1 + y)) (some ⟨rowOp (p0,p1,p2,p3),1,false,1⟩) = some ⟨rowOp (1 + y,p1,p2,p3),1,false,1⟩:=rfl
  have hok':okOp (1 + y,p1,p2,p3):=hok
  generalize hop:((1 + y,p1,p2,p3):Op4) = op at *
  have hop1:op.1 = 1 + y:=by rw [← hop]
  obtain ⟨G9,hG9⟩:∃ G9,G9 = G8.put G.nx ⟨rowOp op,1,false,1⟩:=⟨_,rfl⟩
  have x9:Ext G G9:=by rw [hG9]; exact xa.put (Nat.le_refl _) _
  have n9:G9.nx = G.nx + 2:=by rw [hG9]; simpa using n8
  have o9:G9.obj G.nx = some ⟨rowOp op,1,false,1⟩:=by rw [hG9]; simp
  have a9:G9.obj (G.nx + 1) = some ⟨z27,1,false,1⟩:=by rw [hG9]; simp [a8]
  have hfc:fchk room (st i).length = 0:=fchk_zero.2 ⟨by omega,by omega,hl⟩
  have hdk:dOk op.1 = true:=by rw [hop1]; unfold dOk; simp; omega
  obtain ⟨⟨r1,G10⟩,e10,h10,x10⟩:=qans_ok orc (cap:=room) ((h.q.is).ext x9) (by omega) hfc op
  simp only at h10 x10
  rw [hdk] at h10
  subst h10
  obtain ⟨dv,hdv⟩:∃ dv:An3,dv = (dCode room (st i) op.1,0,dWord (st i) op.1):=⟨_,rfl⟩
  rw [← hdv] at e10
  have o10:=(x10.obj G.nx (by omega)).trans o9
  have a10:=(x10.obj (G.nx + 1) (by omega)).trans a9
  obtain ⟨G11,hG11⟩:∃ G11,G11 = G10.put (G.nx + 1) ⟨eAn.row dv,1,false,1⟩:=⟨_,rfl⟩
  have x11:Ext G G11:=by rw [hG11]; exact (x9.trans x10).put (by omega) _
  have o11:G11.obj G.nx = some ⟨rowOp op,1,false,1⟩:=by rw [hG11]; simp [o10]
  have a11:G11.obj (G.nx + 1) = some ⟨eAn.row dv,1,false,1⟩:=by rw [hG11]; simp
  have n11:G.nx + 2 ≤ G11.nx:=by have:=x10.nx; rw [hG11]; simp; omega
  have hqn:qNext room (st i) op dv = some (dNext room (st i) op.1 op.2.2.2):=by unfold qNext; rw [if_pos ⟨hfc,hdk,hdv.symm⟩]
  obtain ⟨⟨r2,G12⟩,e12,x12,v',h12⟩:=qnext_ok orc ((h.q.is).ext x11) (by omega) room op dv
  simp only at x12 h12
  rcases h12 with ⟨rfl,L',hL',w12⟩ | ⟨_,hno⟩
  ·rw [hqn] at hL'
   cases hL'
   have o12:=(x12.obj G.nx (by omega)).trans o11
   have a12:=(x12.obj (G.nx + 1) (by omega)).trans a11
   refine Wp.lp (l23_0 (exL_ok Q orc)) ?_
   simp [-Int.natCast_add,-eAn_row,b23_0,bb23_0,clip_t,t0,t1,t2,t3,t4,t12,t13,t14,t15,t16,lb,e0,h1,h0,hlt,hz,st4,← hG8,o8,g0,ep,hw,st1,hop,← hG9,o9,ld4,e10,pExtract,getN_zero,getN_succ,a10,st3,← hG11,o11,a11,ld3,e12]
   refine jm2 orc (md:=1) (room:=room) (v2:=v2) (qv:=v') (hv:=hv) (ob:=G.nx) (ab:=G.nx + 1) ⟨by simp [clip_t],by simp [clip_t],by simp [clip_t,e0],by simp [clip_t],by simp [clip_t],by simp [clip_t],by simp [clip_t],by simp [clip_t],by simp [clip_t],by simp [clip_t]⟩ ((h.step x11).next x12 w12) (by omega) hcs h3 h4 (by simp [clip_t]) (by simp [clip_t]) o12 a12 fun τ' G' cv' ov' x z k1 k2 k3 k4 k5 k6=>?_
   have hm':=hm.add (c:=⟨i,100 + 10 * i - x,105 + 10 * i + z,op,dv⟩) (s':=dNext room (st i) op.1 op.2.2.2) (by rw [hcs]; exact hqn) (by rw [hcs]) (by rw [hcs]; simp only; omega) (by rw [hcs]; simp only; omega) hok'
   refine ih (i + 1) τ' G' _ _ cv' ov' v' hv (by omega) (by simp; omega) k1 ?_ hm' ?_
   ·rw [hcs,if_neg (by omega)]; exact k6
   ·rw [hcs,if_neg (by omega)]; exact dNext_len hl
  ·rw [hqn] at hno; cases hno
end
end Go.Proofs.YtlaojmcekeohnaaGreatDoor.Lift
set_option linter.unusedVariables false
set_option linter.unusedSimpArgs false
set_option maxRecDepth 20000
namespace Go.Proofs.YtlaojmcekeohnaaGreatDoor.Lift
open Go Go.Proofs.YtlaojmcekeohnaaGreatDoor.Gh Go.Proofs
theorem up_pw {L:List It}:Up L 0 ↔ L.Pairwise fun a b=>a.1 < b.1:=by
 rw [List.pairwise_iff_getElem]
 constructor
 ·intro h i j hi hj hij
  have:=Up.mono h (j - i) i (by omega) (by omega)
  simpa only [show i + (j - i) = j by omega] using this
 ·intro h j h0 _ hl
  exact h (j - 1) j (by omega) hl (by omega)
theorem up_drop {L:List It} (h:Up L 0) (n:Nat):Up (L.drop n) 0:=up_pw.2 ((up_pw.1 h).sublist (List.drop_sublist n L))
theorem up_ins {L:List It} (h:Up L 0) {w a:Int} (hk:hsK L w = false):Up (L.take (pl L w) ++ [(w,a)] ++ L.drop (pl L w)) 0:=by
 rw [up_pw,List.append_assoc,List.pairwise_append]
 have hp:=up_pw.1 h
 have lo:∀ x ∈ L.take (pl L w),x.1 < w:=by
  intro x hx
  obtain ⟨j,hj,rfl⟩:=List.getElem_of_mem hx
  have hj':j < pl L w:=by simp at hj; omega
  rw [List.getElem_take]
  exact pl_lt L w j (by have:=pl_le L w; omega) hj'
 have hi:∀ x ∈ L.drop (pl L w),w < x.1:=by
  intro x hx
  obtain ⟨j,hj,rfl⟩:=List.getElem_of_mem hx
  simp at hj
  rw [List.getElem_drop]
  have hl:pl L w < L.length:=by omega
  have hn:=pl_at L w hl
  have hne:¬ (L[pl L w]).1 = w:=by simpa [hsK,hl] using hk
  rcases Nat.eq_zero_or_pos j with rfl | hj0
  ·simp only [Nat.add_zero]; omega
  ·have:=Up.mono h j (pl L w) (by omega) hj0
   omega
 refine ⟨hp.sublist (List.take_sublist _ L),?_,?_⟩
 ·rw [List.singleton_append,List.pairwise_cons]
  exact ⟨fun x hx=>hi x hx,hp.sublist (List.drop_sublist _ L)⟩
 ·intro x hx y hy
  rw [List.singleton_append,List.mem_cons] at hy
  have h1:=lo x hx
  rcases hy with rfl | hy
  ·exact h1
  ·have:=hi y hy; omega
theorem ins_length (L:List It) (w a:Int):(L.take (pl L w) ++ [(w,a)] ++ L.drop (pl L w)).length = L.length + 1:=by
 have:=pl_le L w
 simp; omega
theorem h_step {L:List It} (hu:Up L 0) (hl:L.length < 1000) {k a w:Int} (hk:4 ≤ k ∧ k ≤ 6):hOk L k w (hCode L k w) (hNum L k) (hWord L k) = true ∧ Up (hNext L k a w (hCode L k w) (hNum L k) (hWord L k)) 0 ∧ (hNext L k a w (hCode L k w) (hNum L k) (hWord L k)).length ≤ L.length + 1:=by
 have hz:ichk L = 0:=ichk_zero.2 ⟨by omega,hu⟩
 have hi:hIs L k w = true:=by
  unfold hIs
  by_cases h4:k = 4
  ·simp [hz,h4]; right; omega
  ·have:k = 5 ∨ k = 6:=by omega
   simp [hz,h4,this]
 have hok:hOk L k w (hCode L k w) (hNum L k) (hWord L k) = true:=by simp [hOk,hz,hAcc,hi]
 refine ⟨hok,?_⟩
 unfold hNext
 rw [if_pos hok]
 split
 ·exact ⟨hu,by omega⟩
 ·split
  ·exact ⟨hu,by omega⟩
  ·rename_i hc
   split
   ·exact ⟨up_drop hu 1,by simp; omega⟩
   ·rename_i h5
    have h4:k = 4:=by omega
    have hs:hsK L w = false:=by
     cases hs:hsK L w with
     | false=>rfl
     | true=>exact absurd (.inl (by simp [hCode,hz,h4,hs])) hc
    exact ⟨up_ins hu hs,by rw [ins_length]; exact Nat.le_refl _⟩
section
variable {A:GS} {v2 v3 v4:Value} {ops:List Op4} {bf bh:List Int} {room:Int}
theorem madeH_lp (orc:FuncId → Bool) (hk:orc 127 = false) (h2:SlR eOp A v2 ops) (h3:SlR (rowsI .i64) A v3 bf) (h4:SlR (rowsI .i64) A v4 bh) (ho:∀ o ∈ ops,okOp o) (hn:ops.length ≤ 7) :
  ∀ (k i:Nat) (τ:Env) (G:GS) (cs:List Sp) (st:Nat → List It) (cv ov qv hv:Value),i + k = ops.length → cs.length = i → Em τ 2 room v2 v3 v4 cv ov hv qv i → MdH rIt A G cv cs ov i qv (st i) → Md hMac cs st → Up (st i) 0 → (st i).length ≤ i →
  Wp ((exL Q orc).lpx 23 0 τ G) fun q=>q.1 = .exit 0 ∧ MadeP rIt hMac A q.2.2 (q.2.1 12) (q.2.1 13) ops.length:=by
 intro k
 induction k with
 | zero =>
  intro i τ G cs st cv ov qv hv hi hcs hE h hm hu hl
  obtain ⟨t0,t1,t2,t3,t4,t12,t13,t14,t15,t16⟩:=hE
  have hi':i = ops.length:=by omega
  subst hi'
  obtain ⟨va,vc,ev⟩:=h2.len
  have lb:∀ x,ln Q true x v2 = some (.int .i64 ops.length):=fun x=>by rw [ev]; simp
  refine Wp.lp (l23_0 (exL_ok Q orc)) ?_
  simp [b23_0,bb23_0,clip_t,t0,t1,t2,t3,t4,t12,t13,t14,t15,t16,lb]
  exact ⟨cs,st,qv,_,hcs,hm,by rw [hcs]; exact h⟩
 | succ k ih =>
  intro i τ G cs st cv ov qv hv hi hcs hE h hm hu hl
  have hE0:=hE
  obtain ⟨t0,t1,t2,t3,t4,t12,t13,t14,t15,t16⟩:=hE
  have hlt:i < ops.length:=by omega
  have h1:(i:Int) < ops.length:=by omega
  have h0:(0:Int) ≤ i:=by omega
  obtain ⟨va,vc,ev⟩:=h2.len
  have lb:∀ x,ln Q true x v2 = some (.int .i64 ops.length):=fun x=>by rw [ev]; simp
  obtain ⟨b,o,c,e0,hbG,_,hz⟩:=(h2.ext h.ext).at hlt
  rw [eOp_sz,loadA_eq,eOp_row] at hz
  have hok:=ho _ (List.getElem_mem hlt)
  generalize ops[i] = op at *
  obtain ⟨p0,p1,p2,p3⟩:=op
  have ld4:∀ o:Op4,loadO 4 0 (some ⟨rowOp o,1,false,1⟩) = some (.agg ⟨rowOp o⟩):=fun o=>loadO_whole rfl (by decide)
  have ld3:∀ y:An3,loadO 3 0 (some ⟨eAn.row y,1,false,1⟩) = some (.agg ⟨eAn.row y⟩):=fun y=>loadO_whole rfl (by decide)
  have st3:∀ y:An3,stO 3 0 (.agg ⟨eAn.row y⟩) (some ⟨z27,1,false,1⟩) = some ⟨eAn.row y,1,false,1⟩:=fun y=>rfl
  have st4:∀ o:Op4,stO 4 0 (.agg ⟨rowOp o⟩) (some ⟨z24,1,false,1⟩) = some ⟨rowOp o,1,false,1⟩:=fun o=>rfl
  have xa:Ext G (((G.push ⟨z24,1,false,1⟩).put G.nx ⟨rowOp (p0,p1,p2,p3),1,false,1⟩).push ⟨z27,1,false,1⟩):=(((Ext.refl G).push _).put (Nat.le_refl _) _).push _
  obtain ⟨G8,hG8⟩:∃ G8,G8 = ((G.push ⟨z24,1,false,1⟩).put G.nx ⟨rowOp (p0,p1,p2,p3),1,false,1⟩).push ⟨z27,1,false,1⟩:=⟨_,rfl⟩
  have o8:G8.obj G.nx = some ⟨rowOp (p0,p1,p2,p3),1,false,1⟩:=by rw [hG8]; simp
  have a8:G8.obj (G.nx + 1) = some ⟨z27,1,false,1⟩:=by rw [hG8]; simp
  have n8:G8.nx = G.nx + 2:=by rw [hG8]; simp
  rw [← hG8] at xa
  have ep:=pick_ok orc p0 3 (by decide) (by decide) G8
  have y1:=Int.emod_nonneg p0 (show (3:Int) ≠ 0 by decide)
  have y2:=Int.emod_lt_of_pos p0 (show (0:Int) < 3 by decide)
  generalize p0 % 3 = y at *
  have hw:IntKind.wrap .i64 (4 + y) = 4 + y:=wrap64 (by omega) (by omega)
  have hz4:z24 = [.int .i64 0,.int .i64 0,.int .i64 0,.int .u64 0]:=rfl
  have hz3:z27 = [.int .i64 0,.int .i64 0,.int .u64 0]:=rfl
  have g0:(rowOp (p0,p1,p2,p3))[0]? = some (.int .i64 p0):=rfl
  have st1:stO 1 0 (.int .i64 (4 + y)) (some ⟨rowOp (p0,p1,p2,p3),1,false,1⟩) = some ⟨rowOp (4 + y,p1,p2,p3),1,false,1⟩:=rfl
  have hok':okOp (4 + y,p1,p2,p3):=hok
  generalize hop:((4 + y,p1,p2,p3):Op4) = op at *
  have hop1:op.1 = 4 + y:=by rw [← hop]
  obtain ⟨G9,hG9⟩:∃ G9,G9 = G8.put G.nx ⟨rowOp op,1,false,1⟩:=⟨_,rfl⟩
  have x9:Ext G G9:=by rw [hG9]; exact xa.put (Nat.le_refl _) _
  have n9:G9.nx = G.nx + 2:=by rw [hG9]; simpa using n8
  have o9:G9.obj G.nx = some ⟨rowOp op,1,false,1⟩:=by rw [hG9]; simp
  have a9:G9.obj (G.nx + 1) = some ⟨z27,1,false,1⟩:=by rw [hG9]; simp [a8]
  have hst:=h_step hu (by omega) (k:=op.1) (a:=op.2.1) (w:=op.2.2.2) ⟨by omega,by omega⟩
  obtain ⟨⟨r1,G10⟩,e10,h10,x10⟩:=answer_ok orc hk (L:=st i) (by omega) op.1 op.2.1 op.2.2.1 op.2.2.2 ((h.q.is).ext x9)
  simp only at h10 x10
  subst h10
  obtain ⟨dv,hdv⟩:∃ dv:An3,dv = (hCode (st i) op.1 op.2.2.2,hNum (st i) op.1,hWord (st i) op.1):=⟨_,rfl⟩
  have e10:(E orc).cl 53 [qv,.agg ⟨rowOp op⟩] G9 = some (.tuple #[.agg ⟨eAn.row dv⟩,.bool (hIs (st i) op.1 op.2.2.2)],G10):=by rw [hdv]; exact e10
  have o10:=(x10.obj G.nx (by omega)).trans o9
  have a10:=(x10.obj (G.nx + 1) (by omega)).trans a9
  obtain ⟨G11,hG11⟩:∃ G11,G11 = G10.put (G.nx + 1) ⟨eAn.row dv,1,false,1⟩:=⟨_,rfl⟩
  have x11:Ext G G11:=by rw [hG11]; exact (x9.trans x10).put (by omega) _
  have o11:G11.obj G.nx = some ⟨rowOp op,1,false,1⟩:=by rw [hG11]; simp [o10]
  have a11:G11.obj (G.nx + 1) = some ⟨eAn.row dv,1,false,1⟩:=by rw [hG11]; simp
  have n11:G.nx + 2 ≤ G11.nx:=by have:=x10.nx; rw [hG11]; simp; omega
  have hok2:hOk (st i) op.1 op.2.2.2 dv.1 dv.2.1 dv.2.2 = true:=by rw [hdv]; exact hst.1
  have hqn:hNx (st i) op dv = some (hNext (st i) op.1 op.2.1 op.2.2.2 dv.1 dv.2.1 dv.2.2):=by unfold hNx; rw [if_pos hok2]
  have hst2:Up (hNext (st i) op.1 op.2.1 op.2.2.2 dv.1 dv.2.1 dv.2.2) 0 ∧ (hNext (st i) op.1 op.2.1 op.2.2.2 dv.1 dv.2.1 dv.2.2).length ≤ (st i).length + 1:=by rw [hdv]; exact hst.2
  obtain ⟨⟨r2,G12⟩,e12,x12,v',h12,w12⟩:=next_ok orc hk (L:=st i) (by omega) op.1 op.2.1 op.2.2.1 op.2.2.2 dv.1 dv.2.1 dv.2.2 ((h.q.is).ext x11)
  simp only at x12 h12 w12
  rw [hok2] at h12
  subst h12
  have e12:(E orc).cl 54 [qv,.agg ⟨rowOp op⟩,.agg ⟨eAn.row dv⟩] G11 = some (.tuple #[v',.bool true],G12):=e12
  generalize hNext (st i) op.1 op.2.1 op.2.2.2 dv.1 dv.2.1 dv.2.2 = L' at *
  have o12:=(x12.obj G.nx (by omega)).trans o11
  have a12:=(x12.obj (G.nx + 1) (by omega)).trans a11
  refine Wp.lp (l23_0 (exL_ok Q orc)) ?_
  simp [-Int.natCast_add,-eAn_row,b23_0,bb23_0,clip_t,t0,t1,t2,t3,t4,t12,t13,t14,t15,t16,lb,e0,h1,h0,hlt,hz,st4,← hG8,o8,g0,ep,hw,st1,hop,← hG9,o9,ld4,e10,pExtract,getN_zero,getN_succ,a10,st3,← hG11,o11,a11,ld3,e12]
  refine jm2 orc (md:=2) (room:=room) (v2:=v2) (qv:=hv) (hv:=v') (ob:=G.nx) (ab:=G.nx + 1) ⟨by simp [clip_t],by simp [clip_t],by simp [clip_t,e0],by simp [clip_t],by simp [clip_t],by simp [clip_t],by simp [clip_t],by simp [clip_t],by simp [clip_t],by simp [clip_t]⟩ ((h.step x11).next x12 w12) (by omega) hcs h3 h4 (by simp [clip_t]) (by simp [clip_t]) o12 a12 fun τ' G' cv' ov' x z k1 k2 k3 k4 k5 k6=>?_
  have hm':=hm.add (c:=⟨i,100 + 10 * i - x,105 + 10 * i + z,op,dv⟩) (s':=L') (by rw [hcs]; exact hqn) (by rw [hcs]) (by rw [hcs]; simp only; omega) (by rw [hcs]; simp only; omega) hok'
  refine ih (i + 1) τ' G' _ _ cv' ov' v' hv (by omega) (by simp; omega) k1 ?_ hm' ?_ ?_
  ·rw [hcs,if_neg (by omega)]; exact k6
  ·rw [hcs,if_neg (by omega)]; exact hst2.1
  ·rw [hcs,if_neg (by omega)]; omega
end
end Go.Proofs.YtlaojmcekeohnaaGreatDoor.Lift
set_option linter.unusedVariables false
set_option linter.unusedSimpArgs false
set_option maxRecDepth 20000
namespace Go.Proofs.YtlaojmcekeohnaaGreatDoor.Lift
open Go Go.Proofs.YtlaojmcekeohnaaGreatDoor.Gh Go.Proofs
section
variable {G:GS} {v2 v3 v4:Value} {ops:List Op4} {bf bh:List Int} {room:Int}
theorem madeQ_ok (orc:FuncId → Bool) (hr1:1 ≤ room) (hr4:room ≤ 4) (h2:SlR eOp G v2 ops) (h3:SlR (rowsI .i64) G v3 bf) (h4:SlR (rowsI .i64) G v4 bh) (ho:∀ o ∈ ops,okOp o) (hn:ops.length ≤ 7) :
  Wp ((E orc).cl 23 [.int .i64 1,.int .i64 room,v2,v3,v4] G) fun r=>∃ cv ov,r.1 = .tuple #[cv,ov] ∧ MadeP rU (qMac room) G r.2 cv ov ops.length:=by
 refine Wp.ref (f23 (exL_ok Q orc) _ _ _ _ _ G) ?_
 simp [s23]
 refine Wp.bE ((madeQ_lp orc hr1 hr4 h2 h3 h4 ho hn ops.length 0 _ G [] (fun _=>[]) (.slice none 0 0) (.slice none 0 0) (.slice none 0 0) (.slice none 0 0) (by omega) rfl ⟨by simp [clip_t],by simp [clip_t],by simp [clip_t],by simp [clip_t],by simp [clip_t],by simp [clip_t],by simp [clip_t],by simp [clip_t],by simp [clip_t],by simp [clip_t]⟩ ⟨Ext.refl G,OwR.nil _ _,OwR.nil _ _,OwR.nil _ _,fun x ⟨_,_,_,he,_⟩=>(by cases he),fun x ⟨_,_,_,he,_⟩=>(by cases he),fun x ⟨_,_,_,he,_⟩=>(by cases he)⟩ (Md.nil _) (by simp; omega)).mono ?_)
 rintro ⟨ee,τ,G'⟩ ⟨q1,q2⟩
 simp only at q1 q2
 subst q1
 simp
 exact ⟨_,_,⟨rfl,rfl⟩,q2⟩
theorem madeH_ok (orc:FuncId → Bool) (hk:orc 127 = false) (h2:SlR eOp G v2 ops) (h3:SlR (rowsI .i64) G v3 bf) (h4:SlR (rowsI .i64) G v4 bh) (ho:∀ o ∈ ops,okOp o) (hn:ops.length ≤ 7) :
  Wp ((E orc).cl 23 [.int .i64 2,.int .i64 room,v2,v3,v4] G) fun r=>∃ cv ov,r.1 = .tuple #[cv,ov] ∧ MadeP rIt hMac G r.2 cv ov ops.length:=by
 refine Wp.ref (f23 (exL_ok Q orc) _ _ _ _ _ G) ?_
 simp [s23]
 refine Wp.bE ((madeH_lp (room:=room) orc hk h2 h3 h4 ho hn ops.length 0 _ G [] (fun _=>[]) (.slice none 0 0) (.slice none 0 0) (.slice none 0 0) (.slice none 0 0) (by omega) rfl ⟨by simp [clip_t],by simp [clip_t],by simp [clip_t],by simp [clip_t],by simp [clip_t],by simp [clip_t],by simp [clip_t],by simp [clip_t],by simp [clip_t],by simp [clip_t]⟩ ⟨Ext.refl G,OwR.nil _ _,OwR.nil _ _,OwR.nil _ _,fun x ⟨_,_,_,he,_⟩=>(by cases he),fun x ⟨_,_,_,he,_⟩=>(by cases he),fun x ⟨_,_,_,he,_⟩=>(by cases he)⟩ (Md.nil _) (fun j h0 _ h=>by simp at h) (by simp)).mono ?_)
 rintro ⟨ee,τ,G'⟩ ⟨q1,q2⟩
 simp only at q1 q2
 subst q1
 simp
 exact ⟨_,_,⟨rfl,rfl⟩,q2⟩
theorem linearMade (orc:FuncId → Bool) (hkn:orc 3 = true) (hk:orc 127 = false) (hse:orc 43 = false) (ht:tabs G = true) (hg:2 ≤ G.nx) (set:Bool) (z:Int) (h2:SlR eOp G v2 ops) (h3:SlR (rowsI .i64) G v3 bf) (h4:SlR (rowsI .i64) G v4 bh) (ho:∀ o ∈ ops,okOp o) :
  Wp ((E orc).cl 5 [.bool set,.int .i64 z,v2,v3,v4] G) fun q=>q.1 = .bool true:=by
 refine Wp.ref (f5 (exL_ok Q orc) _ _ _ _ _ G) ?_
 obtain ⟨va,vc,ev⟩:=h2.len
 have l1:∀ x,ln Q true x v2 = some (.int .i64 ops.length):=fun x=>by rw [ev]; simp
 have ek:=cl_orcT Q orc hkn G (hasTab_at Q ht)
 by_cases c1:7 < ops.length
 ·have c1':(7:Int) < ops.length:=by omega
  simp [s5,sb5,l1,ek,c1,c1']
 have c1':¬ (7:Int) < ops.length:=by omega
 have ep:=pick_ok orc z 4 (by decide) (by decide) G
 have y1:=Int.emod_nonneg z (show (4:Int) ≠ 0 by decide)
 have y2:=Int.emod_lt_of_pos z (show (0:Int) < 4 by decide)
 obtain ⟨rm,hrm⟩:∃ rm,rm = 1 + z % 4:=⟨_,rfl⟩
 have hw:IntKind.wrap .i64 (1 + z % 4) = rm:=by rw [← hrm]; exact wrap64 (by omega) (by omega)
 have hr1:1 ≤ rm:=by omega
 have hr4:rm ≤ 4:=by omega
 cases set with
 | false =>
  obtain ⟨⟨r,G1⟩,e1,cv,ov,rfl,cs,st,qv,s,hcl,hmd,hh⟩:=madeQ_ok orc hr1 hr4 h2 h3 h4 ho (by omega)
  simp only at hh
  have x1:=hh.ext
  have t1:=tabs_ext x1 ht hg
  have g1:2 ≤ G1.nx:=Nat.le_trans hg x1.nx
  have hm:MayOk 1 rm cs:=⟨⟨by decide,by decide⟩,⟨by omega,by omega⟩,by omega,fun e=>by omega,hmd.nodup⟩
  obtain ⟨⟨r2,G2⟩,e2,x2,h⟩:=orderF orc t1 g1 hh.c.is hmd.ok rm hm
  simp only at x2 h
  rcases h with ⟨_,hno⟩ | ⟨outv,row,s2,rfl,hway,hov,hout⟩
  ·exact absurd hmd.goes hno
  have t2:=tabs_ext x2 t1 g1
  have g2:2 ≤ G2.nx:=Nat.le_trans g1 x2.nx
  obtain ⟨⟨r3,G3⟩,e3,rfl,x3⟩:=fitsQ_ok orc t2 g2 (hh.c.is.ext x2) hmd.ok hm hout.is hway hov
  simp only at x3
  have t3:=tabs_ext x3 t2 g2
  have g3:2 ≤ G3.nx:=Nat.le_trans g2 x3.nx
  obtain ⟨⟨r4,G4⟩,e4,rfl,x4⟩:=fitsQ_ok orc t3 g3 ((hh.c.is.ext x2).ext x3) hmd.ok hm (row:=List.range cs.length) (by rw [hmd.rowIds]; exact (hh.o.is.ext x2).ext x3) hmd.way hmd.over
  simp [-Int.natCast_add,jb5_0,j5_0,sb5,s5,l1,ek,c1,c1',ep,hw,clip_t,e1,e2,e3,e4,pExtract,getN_zero,getN_succ]
 | true =>
  obtain ⟨⟨r,G1⟩,e1,cv,ov,rfl,cs,st,qv,s,hcl,hmd,hh⟩:=madeH_ok (room:=rm) orc hk h2 h3 h4 ho (by omega)
  simp only at hh
  have x1:=hh.ext
  have t1:=tabs_ext x1 ht hg
  have g1:2 ≤ G1.nx:=Nat.le_trans hg x1.nx
  have hm:MayOk 2 rm cs:=⟨⟨by decide,by decide⟩,⟨by omega,by omega⟩,by omega,fun e=>by omega,hmd.nodup⟩
  obtain ⟨⟨r2,G2⟩,e2,x2,h⟩:=orderH orc hk hse t1 g1 hh.c.is hmd.ok rm hm
  simp only at x2 h
  rcases h with ⟨_,hno⟩ | ⟨outv,row,s2,rfl,hway,hov,hout⟩
  ·exact absurd hmd.goes hno
  have t2:=tabs_ext x2 t1 g1
  have g2:2 ≤ G2.nx:=Nat.le_trans g1 x2.nx
  obtain ⟨⟨r3,G3⟩,e3,rfl,x3⟩:=fitsH_ok orc hk hse t2 g2 (hh.c.is.ext x2) hmd.ok hm hout.is hway hov
  simp only at x3
  have t3:=tabs_ext x3 t2 g2
  have g3:2 ≤ G3.nx:=Nat.le_trans g2 x3.nx
  obtain ⟨⟨r4,G4⟩,e4,rfl,x4⟩:=fitsH_ok orc hk hse t3 g3 ((hh.c.is.ext x2).ext x3) hmd.ok hm (row:=List.range cs.length) (by rw [hmd.rowIds]; exact (hh.o.is.ext x2).ext x3) hmd.way hmd.over
  simp [-Int.natCast_add,jb5_0,j5_0,sb5,s5,l1,ek,c1,c1',ep,hw,clip_t,e1,e2,e3,e4,pExtract,getN_zero,getN_succ]
end
end Go.Proofs.YtlaojmcekeohnaaGreatDoor.Lift
