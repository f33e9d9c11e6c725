import Derived.Test.YtlaojmcekeohnaaGreatDoorGhP
import Derived.KernelRfl
namespace Go.Proofs.YtlaojmcekeohnaaGreatDoor.Gh
open Go
set_option linter.unusedVariables false
set_option linter.unusedSimpArgs false
def Wp {α:Type} (x:Option α) (Q:α→Prop):Prop:=∃ a,x=some a∧Q a
@[simp] theorem Wp_some {α:Type} (a:α) (Q:α→Prop):Wp (some a) Q↔Q a:=⟨fun ⟨_,h,hq⟩=>by cases h; exact hq,fun h=>⟨a,rfl,h⟩⟩
@[congr] theorem Wp_congr {α:Type} {x y:Option α} (Q:α→Prop) (h:x=y):Wp x Q=Wp y Q:=by rw [h]
theorem Wp.up {α:Type} {x y:Option α} {Q:α→Prop} (h:∀ {r},x=some r→y=some r) (w:Wp x Q):Wp y Q:=let ⟨a,ha,hq⟩:=w; ⟨a,h ha,hq⟩
theorem Wp.mono {α:Type} {x:Option α} {Q R:α→Prop} (w:Wp x Q) (h:∀ a,Q a→R a):Wp x R:=let ⟨a,ha,hq⟩:=w; ⟨a,ha,h a hq⟩
theorem Wp.bX {β:Type} {x:Option (Exit×List Value×GS)} {K:Exit→List Value→GS→Option β} {Q:β→Prop} (h:Wp x fun r=>Wp (K r.1 r.2.1 r.2.2) Q):Wp (Gh.bX x K) Q:=by
  obtain ⟨⟨e,T,G⟩,rfl,h⟩:=h
  exact h
theorem Wp.bS {β:Type} {x:Option (Value×GS)} {K:Value→GS→Option β} {Q:β→Prop} (h:Wp x fun r=>Wp (K r.1 r.2) Q):Wp (Gh.bS x K) Q:=by
  obtain ⟨⟨v,G⟩,rfl,h⟩:=h
  exact h
theorem Wp.bP {α β:Type} {x:Option α} {K:α→Option β} {Q:β→Prop} (h:Wp x fun a=>Wp (K a) Q):Wp (Gh.bP x K) Q:=by
  obtain ⟨a,rfl,h⟩:=h
  exact h
theorem Wp.of {α:Type} {x:Option α} {Q:α→Prop} {a:α} (h:x=some a) (hq:Q a):Wp x Q:=⟨a,h,hq⟩
def andI (k:IntKind) (a b:Int):Int:=k.wrap ((BitVec.ofInt k.bits a &&& BitVec.ofInt k.bits b).toNat)
def orI (k:IntKind) (a b:Int):Int:=k.wrap ((BitVec.ofInt k.bits a ||| BitVec.ofInt k.bits b).toNat)
def xorI (k:IntKind) (a b:Int):Int:=k.wrap ((BitVec.ofInt k.bits a ^^^ BitVec.ofInt k.bits b).toNat)
def andNotI (k:IntKind) (a b:Int):Int:=k.wrap ((BitVec.ofInt k.bits a &&& ~~~ BitVec.ofInt k.bits b).toNat)
def shlI (k:IntKind) (a b:Int):Int:=k.wrap (a*2 ^ (min b.toNat k.bits))
def shrI (k:IntKind) (a b:Int):Int:=a.fdiv (2 ^ (min b.toNat k.bits))
section
variable (P:Program) (t:TypeId) (x y:Operand) (k k' :IntKind) (a b:Int)
@[simp] theorem bin_add:gBinF P .add t x y (.int k a) (.int k b)=some (.int k (k.wrap (a+b))):=by simp [gBinF,gBinI,gIntF,iAdd]
@[simp] theorem bin_sub:gBinF P .sub t x y (.int k a) (.int k b)=some (.int k (k.wrap (a - b))):=by simp [gBinF,gBinI,gIntF,iSub]
@[simp] theorem bin_mul:gBinF P .mul t x y (.int k a) (.int k b)=some (.int k (k.wrap (a*b))):=by simp [gBinF,gBinI,gIntF,iMul]
@[simp] theorem bin_quo:gBinF P .quo t x y (.int k a) (.int k b)=if b=0 then none else some (.int k (k.wrap (a.tdiv b))):=by simp [gBinF,gBinI,gIntF,iQuo]
@[simp] theorem bin_rem:gBinF P .rem t x y (.int k a) (.int k b)=if b=0 then none else some (.int k (a.tmod b)):=by simp [gBinF,gBinI,gIntF,iRem]
@[simp] theorem bin_and:gBinF P .and t x y (.int k a) (.int k b)=some (.int k (andI k a b)):=by simp only [gBinF,gBinI,decide_true,Bool.true_or,if_true]; rfl
@[simp] theorem bin_or:gBinF P .or t x y (.int k a) (.int k b)=some (.int k (orI k a b)):=by simp only [gBinF,gBinI,decide_true,Bool.true_or,if_true]; rfl
@[simp] theorem bin_xor:gBinF P .xor t x y (.int k a) (.int k b)=some (.int k (xorI k a b)):=by simp only [gBinF,gBinI,decide_true,Bool.true_or,if_true]; rfl
@[simp] theorem bin_andNot:gBinF P .andNot t x y (.int k a) (.int k b)=some (.int k (andNotI k a b)):=by simp only [gBinF,gBinI,decide_true,Bool.true_or,if_true]; rfl
@[simp] theorem bin_eql:gBinF P .eql t x y (.int k a) (.int k b)=some (.bool (decide (a=b))):=by simp [gBinF,gBinI,gIntF,iEql]; rfl
@[simp] theorem bin_neq:gBinF P .neq t x y (.int k a) (.int k b)=some (.bool (!decide (a=b))):=by simp [gBinF,gBinI,gIntF,iNeq]; rfl
@[simp] theorem bin_lss:gBinF P .lss t x y (.int k a) (.int k b)=some (.bool (decide (a<b))):=by simp [gBinF,gBinI,gIntF,iLss]
@[simp] theorem bin_leq:gBinF P .leq t x y (.int k a) (.int k b)=some (.bool (decide (a≤b))):=by simp [gBinF,gBinI,gIntF,iLeq]
@[simp] theorem bin_gtr:gBinF P .gtr t x y (.int k a) (.int k b)=some (.bool (decide (b<a))):=by simp [gBinF,gBinI,gIntF,iGtr]
@[simp] theorem bin_geq:gBinF P .geq t x y (.int k a) (.int k b)=some (.bool (decide (b≤a))):=by simp [gBinF,gBinI,gIntF,iGeq]
@[simp] theorem bin_shl:gBinF P .shl t x y (.int k a) (.int k' b)=if b<0 then none else some (.int k (shlI k a b)):=by simp [gBinF,gBinI,gIntF,iShl,isShift]; rfl
@[simp] theorem bin_shr:gBinF P .shr t x y (.int k a) (.int k' b)=if b<0 then none else some (.int k (shrI k a b)):=by simp [gBinF,gBinI,gIntF,iShr,isShift]; rfl
end
@[simp] theorem nth_zero' (x:Value) (l:List Value):nth undef (x::l) 0=x:=Eq.trans rfl rfl
@[simp] theorem nth_succ' (x:Value) (l:List Value) (n:Nat):nth undef (x::l) (n+1)=nth undef l n:=Eq.trans rfl rfl
@[simp] theorem nth_nil' (n:Nat):nth undef ([]:List Value) n=undef:=Eq.trans rfl rfl
attribute [simp] length_setT
@[simp] theorem un_not (P:Program) (b:Bool):pUn P .not (.bool b)=some (.bool (!b)):=by cases b<;>exact Eq.trans rfl rfl
@[simp] theorem max_int (P:Program) (tys:Array TypeId) (k:IntKind) (a b:Int):maxV P tys [.int k a,.int k b]=some (.int k (if b>a then b else a)):=Eq.trans rfl rfl
@[simp] theorem min_int (P:Program) (tys:Array TypeId) (k:IntKind) (a b:Int):minV P tys [.int k a,.int k b]=some (.int k (if b<a then b else a)):=Eq.trans rfl rfl
@[simp] theorem sameO_int (k:IntKind) (a:Int):sameO (some (.int k a)) (.int k a)=true:=by simp [sameO,same,sameD]
@[simp] theorem sameO_bool (a:Bool):sameO (some (.bool a)) (.bool a)=true:=by simp [sameO,same,sameD]
@[simp] theorem sameO_ptr (a:Option Addr):sameO (some (.pointer a)) (.pointer a)=true:=by simp [sameO,same,sameD]
@[simp] theorem sameO_slice (a:Option Addr) (n c:Nat):sameO (some (.slice a n c)) (.slice a n c)=true:=by simp [sameO,same,sameD]
@[simp] theorem gB_bool (b w:Bool):gB (.bool b) w=(b==w):=Eq.trans rfl rfl
theorem wrap64 {n:Int} (h1: -9223372036854775808≤n) (h2:n≤9223372036854775807):IntKind.wrap .i64 n=n:=by
  show (if (decide (n % 18446744073709551616≥9223372036854775808))=true then n % 18446744073709551616 - 18446744073709551616 else n % 18446744073709551616)=n
  by_cases h:n % 18446744073709551616≥9223372036854775808
  · rw [if_pos (by simpa using h)]; omega
  · rw [if_neg (by simpa using h)]; omega
def among (l:List FuncId) (f:FuncId):Bool:=l.any (Nat.beq f)
theorem among_ok {P:Program}:∀ (l:List FuncId),(∀ f∈l,(∃ fn,P.funcs[f]? =some fn∧(fn.name == "runtime.NumGoroutine")=false∧fn.body.isSome=true)∧∀ w,((P.funcs[purF]?).isSome=true→TabAt w)→Calls P f #[] w fun e w' =>e= .returned (.bool true)∧Go.RowKit.Below w.heap.size w w')→(hp:PurOk P)→(ha:among l ansG=true→AnsOk P:=by exact fun _=>ansOk_none (by kernel_rfl))→OrcOk P (among l):=by
  intro l h hp ha
  refine ⟨hp,ha,fun f hf=> ?_⟩
  simp only [among,List.any_eq_true] at hf
  obtain ⟨g,hg,he⟩:=hf
  rw [Nat.eq_of_beq_eq_true he]
  exact h g hg
theorem cl_orcT (P:Program) (orc:FuncId→Bool) {f:FuncId} (h:orc f=true) (G:GS) (hT:hasTab P G=true):(evL P orc).cl f [] G=some (.bool true,G):=by
  rw [evL_cl]
  simp [clO,h,hT]
theorem cl_pur (P:Program) (orc:FuncId→Bool) (hp:(P.funcs[purF]?).isSome=true) {G:GS} (h:tabs G=true) {n:Nat} (hn:n<18446744073709551616):(evL P orc).cl purF [.int .u64 n] G=some (.int .i64 (ctzN n),G):=by
  rw [evL_cl]
  unfold clO isPur purs pur
  have h2:Nat.ble n 18446744073709551615=true:=Nat.ble_eq_true_of_le (by omega)
  have h3:Nat.beq purF purF=true:=by simp
  simp only [List.isEmpty_cons,Bool.false_and,Bool.false_eq_true,if_false,h3,hp,Bool.true_or,Bool.and_self,if_true]
  show (if (tabs G&&Nat.ble n 18446744073709551615)=true then some (Value.int .i64 (ctzN n),G) else none)=_
  simp only [h,h2,Bool.and_self,if_true]
@[simp] theorem cValue_func (E:Ev) (g:FuncId) (a b:List Value) (args:List Value) (G:GS):cValue E (.func (.func g) ⟨a⟩ ⟨b⟩) args G=E.cl g (a++args++b) G:=Eq.trans rfl rfl
@[simp] theorem cValue_yield (E:Ev) (l:Nat) (b:Array Value) (args:List Value) (G:GS):cValue E (.func (.yield l) #[] b) args G=E.rd l args G:=Eq.trans rfl rfl
@[simp] theorem xRange_func (E:Ev) (g:FuncId) (a b:List Value) (ps:List Tmp) (assign body:Code) (T:List Value) (G:GS) :
    xRange E (.func (.func g) ⟨a⟩ ⟨b⟩) ⟨ps⟩ assign body T G=xRangeEnd G.nl T (E.cl g (a++[.func (.yield G.nl) #[] #[]]++b) (G.pushLoop ⟨.ready,none,T,ps,assign,body⟩)):=Eq.trans rfl rfl
theorem xRangeEnd_some (nl:Nat) (T:List Value) (v:Value) (G:GS) {r:Lp} (h:G.loop nl=some r) (hs:r.st≠ .busy) {e:Exit} (he:jumpOf r.pend=some e):xRangeEnd nl T (some (v,G))=some (e,T,G.putLoop nl (r.setSt .exhausted)):=by
  unfold xRangeEnd
  simp only [h,if_neg hs,he]
  rfl
theorem roundEnd_some (l:Nat) (e:Exit) (G:GS) {j:Option Code} {r:Lp} (hj:codeOf e=some j) (h:G.loop l=some r):roundEnd l e G=some (.bool j.isNone,G.putLoop l { r with st:=if j.isNone then .ready else .done,pend:=j }):=by
  unfold roundEnd
  rw [hj,h]
  rfl
@[simp] theorem obj_put (G:GS) (a b:Nat) (o:GObj):(G.put a o).obj b=if b=a then some o else G.obj b:=tget_tset _ _ _ _
@[simp] theorem obj_push (G:GS) (b:Nat) (o:GObj):(G.push o).obj b=if b=G.nx then some o else G.obj b:=tget_tset _ _ _ _
@[simp] theorem obj_room (G:GS) (n b:Nat):(G.room n).obj b=G.obj b:=Eq.trans rfl rfl
@[simp] theorem obj_at (G:GS) (n b:Nat):(G.at' n).obj b=G.obj b:=Eq.trans rfl rfl
@[simp] theorem obj_back (G G' :GS) (b:Nat):(G'.back G).obj b=G'.obj b:=Eq.trans rfl rfl
@[simp] theorem obj_putLoop (G:GS) (l:Nat) (r:Lp) (b:Nat):(G.putLoop l r).obj b=G.obj b:=Eq.trans rfl rfl
@[simp] theorem obj_pushLoop (G:GS) (r:Lp) (b:Nat):(G.pushLoop r).obj b=G.obj b:=Eq.trans rfl rfl
@[simp] theorem nx_put (G:GS) (a:Nat) (o:GObj):(G.put a o).nx=G.nx:=Eq.trans rfl rfl
@[simp] theorem nx_push (G:GS) (o:GObj):(G.push o).nx=G.nx+1:=Eq.trans rfl rfl
@[simp] theorem nx_room (G:GS) (n:Nat):(G.room n).nx=G.nx+n:=Eq.trans rfl rfl
@[simp] theorem nx_at (G:GS) (n:Nat):(G.at' n).nx=n:=Eq.trans rfl rfl
@[simp] theorem nx_back (G G' :GS):(G'.back G).nx=G.nx:=Eq.trans rfl rfl
@[simp] theorem nx_putLoop (G:GS) (l:Nat) (r:Lp):(G.putLoop l r).nx=G.nx:=Eq.trans rfl rfl
@[simp] theorem nx_pushLoop (G:GS) (r:Lp):(G.pushLoop r).nx=G.nx:=Eq.trans rfl rfl
@[simp] theorem nl_put (G:GS) (a:Nat) (o:GObj):(G.put a o).nl=G.nl:=Eq.trans rfl rfl
@[simp] theorem nl_push (G:GS) (o:GObj):(G.push o).nl=G.nl:=Eq.trans rfl rfl
@[simp] theorem nl_room (G:GS) (n:Nat):(G.room n).nl=G.nl:=Eq.trans rfl rfl
@[simp] theorem nl_at (G:GS) (n:Nat):(G.at' n).nl=G.nl:=Eq.trans rfl rfl
@[simp] theorem nl_back (G G' :GS):(G'.back G).nl=G'.nl:=Eq.trans rfl rfl
@[simp] theorem nl_putLoop (G:GS) (l:Nat) (r:Lp):(G.putLoop l r).nl=G.nl:=Eq.trans rfl rfl
@[simp] theorem nl_pushLoop (G:GS) (r:Lp):(G.pushLoop r).nl=G.nl+1:=Eq.trans rfl rfl
@[simp] theorem loop_put (G:GS) (a l:Nat) (o:GObj):(G.put a o).loop l=G.loop l:=Eq.trans rfl rfl
@[simp] theorem loop_push (G:GS) (l:Nat) (o:GObj):(G.push o).loop l=G.loop l:=Eq.trans rfl rfl
@[simp] theorem loop_room (G:GS) (n l:Nat):(G.room n).loop l=G.loop l:=Eq.trans rfl rfl
@[simp] theorem loop_at (G:GS) (n l:Nat):(G.at' n).loop l=G.loop l:=Eq.trans rfl rfl
@[simp] theorem loop_back (G G' :GS) (l:Nat):(G'.back G).loop l=G'.loop l:=Eq.trans rfl rfl
@[simp] theorem loop_putLoop (G:GS) (a b:Nat) (r:Lp):(G.putLoop a r).loop b=if b=a then some r else G.loop b:=tget_tset _ _ _ _
@[simp] theorem loop_pushLoop (G:GS) (b:Nat) (r:Lp):(G.pushLoop r).loop b=if b=G.nl then some r else G.loop b:=tget_tset _ _ _ _
@[simp] theorem newBlk_eq (G:GS) (cs:List Value) (e:Nat):newBlk G cs e=G.push ⟨cs,e,false,1⟩:=Eq.trans rfl rfl
@[simp] theorem cell_room (G:GS) (n b o:Nat):(G.room n).cell b o=G.cell b o:=Eq.trans rfl rfl
@[simp] theorem cell_at (G:GS) (n b o:Nat):(G.at' n).cell b o=G.cell b o:=Eq.trans rfl rfl
@[simp] theorem cell_back (G G' :GS) (b o:Nat):(G'.back G).cell b o=G'.cell b o:=Eq.trans rfl rfl
@[simp] theorem cell_putLoop (G:GS) (l:Nat) (r:Lp) (b o:Nat):(G.putLoop l r).cell b o=G.cell b o:=Eq.trans rfl rfl
@[simp] theorem cell_pushLoop (G:GS) (r:Lp) (b o:Nat):(G.pushLoop r).cell b o=G.cell b o:=Eq.trans rfl rfl
theorem cell_of {G:GS} {b:Nat} {ob:GObj} (h:G.obj b=some ob) (hm:ob.mode≠2) (o:Nat):G.cell b o=ob.cells[o]? :=by unfold GS.cell; rw [h]; simp only [if_neg hm]
theorem cell_put (G:GS) (a b o:Nat) (ob:GObj):(G.put a ob).cell b o=if b=a then (if ob.mode=2 then none else ob.cells[o]?) else G.cell b o:=by
  unfold GS.cell
  rw [obj_put]
  by_cases h:b=a<;>simp [h]
theorem cell_push (G:GS) (b o:Nat) (ob:GObj):(G.push ob).cell b o=if b=G.nx then (if ob.mode=2 then none else ob.cells[o]?) else G.cell b o:=by
  unfold GS.cell
  rw [obj_push]
  by_cases h:b=G.nx<;>simp [h]
structure Ext (G G' :GS):Prop where
  nx:G.nx≤G'.nx
  obj:∀ g,g<G.nx→G'.obj g=G.obj g
  nl:G.nl≤G'.nl
  loop:∀ l,l<G.nl→G'.loop l=G.loop l
theorem Ext.refl (G:GS):Ext G G:=⟨Nat.le_refl _,fun _ _=>rfl,Nat.le_refl _,fun _ _=>rfl⟩
theorem Ext.trans {A B C:GS} (h:Ext A B) (k:Ext B C):Ext A C :=
  ⟨Nat.le_trans h.nx k.nx,fun g hg=>(k.obj g (Nat.lt_of_lt_of_le hg h.nx)).trans (h.obj g hg),Nat.le_trans h.nl k.nl,fun l hl=>(k.loop l (Nat.lt_of_lt_of_le hl h.nl)).trans (h.loop l hl)⟩
theorem Ext.room {A G:GS} (h:Ext A G) (n:Nat):Ext A (G.room n):=⟨by have:=h.nx; simp; omega,h.obj,h.nl,h.loop⟩
theorem Ext.push {A G:GS} (h:Ext A G) (o:GObj):Ext A (G.push o) :=
  ⟨by have:=h.nx; simp; omega,fun g hg=>by rw [obj_push,if_neg (by have:=h.nx; omega)]; exact h.obj g hg,h.nl,h.loop⟩
theorem Ext.put {A G:GS} (h:Ext A G) {b:Nat} (hb:A.nx≤b) (o:GObj):Ext A (G.put b o) :=
  ⟨h.nx,fun g hg=>by rw [obj_put,if_neg (by omega)]; exact h.obj g hg,h.nl,h.loop⟩
structure Mod (S:List Nat) (G G' :GS):Prop where
  nx:G.nx≤G'.nx
  obj:∀ g,g<G.nx→g∉S→G'.obj g=G.obj g
  nl:G.nl≤G'.nl
  loop:∀ l,l<G.nl→G'.loop l=G.loop l
theorem Mod.refl (S:List Nat) (G:GS):Mod S G G:=⟨Nat.le_refl _,fun _ _ _=>rfl,Nat.le_refl _,fun _ _=>rfl⟩
theorem Ext.mod {G G' :GS} (h:Ext G G') (S:List Nat):Mod S G G' :=⟨h.nx,fun g hg _=>h.obj g hg,h.nl,h.loop⟩
theorem Mod.trans {S:List Nat} {A B C:GS} (h:Mod S A B) (k:Mod S B C):Mod S A C :=
  ⟨Nat.le_trans h.nx k.nx,fun g hg hs=>(k.obj g (Nat.lt_of_lt_of_le hg h.nx) hs).trans (h.obj g hg hs),Nat.le_trans h.nl k.nl,fun l hl=>(k.loop l (Nat.lt_of_lt_of_le hl h.nl)).trans (h.loop l hl)⟩
theorem Mod.mono {S S' :List Nat} {A B:GS} (h:Mod S A B) (hs:∀ x∈S,x∈S'):Mod S' A B:=⟨h.nx,fun g hg hn=>h.obj g hg (fun hi=>hn (hs g hi)),h.nl,h.loop⟩
theorem Mod.room {S:List Nat} {A G:GS} (h:Mod S A G) (n:Nat):Mod S A (G.room n):=⟨by have:=h.nx; simp; omega,h.obj,h.nl,h.loop⟩
theorem Mod.push {S:List Nat} {A G:GS} (h:Mod S A G) (o:GObj):Mod S A (G.push o) :=
  ⟨by have:=h.nx; simp; omega,fun g hg hs=>by rw [obj_push,if_neg (by have:=h.nx; omega)]; exact h.obj g hg hs,h.nl,h.loop⟩
theorem Mod.put {S:List Nat} {A G:GS} (h:Mod S A G) {b:Nat} (hb:b∈S∨A.nx≤b) (o:GObj):Mod S A (G.put b o) :=
  ⟨h.nx,fun g hg hs=>by rw [obj_put,if_neg (by rintro rfl; exact hb.elim hs (by omega))]; exact h.obj g hg hs,h.nl,h.loop⟩
theorem Mod.pushLoop {S:List Nat} {A G:GS} (h:Mod S A G) (r:Lp):Mod S A (G.pushLoop r) :=
  ⟨h.nx,h.obj,by have:=h.nl; simp; omega,fun l hl=>by rw [loop_pushLoop,if_neg (by have:=h.nl; omega)]; exact h.loop l hl⟩
theorem Mod.putLoop {S:List Nat} {A G:GS} (h:Mod S A G) {l:Nat} (hl:A.nl≤l) (r:Lp):Mod S A (G.putLoop l r) :=
  ⟨h.nx,h.obj,h.nl,fun k hk=>by rw [loop_putLoop,if_neg (by omega)]; exact h.loop k hk⟩
theorem Mod.ext {A B:GS} (h:Mod [] A B):Ext A B:=⟨h.nx,fun g hg=>h.obj g hg (by simp),h.nl,h.loop⟩
theorem Mod.drop {S:List Nat} {A B C:GS} (h:Mod [] A B) (k:Mod S B C) (hs:∀ x∈S,A.nx≤x):Mod [] A C :=
  ⟨Nat.le_trans h.nx k.nx,fun g hg _=>(k.obj g (Nat.lt_of_lt_of_le hg h.nx) (fun hi=>by have:=hs g hi; omega)).trans (h.obj g hg (by simp)),Nat.le_trans h.nl k.nl,fun l hl=>(k.loop l (Nat.lt_of_lt_of_le hl h.nl)).trans (h.loop l hl)⟩
def SlIs (G:GS) (sz:Nat) (v:Value) (n:Nat) (cs:List Value):Prop :=
  cs.length=n*sz∧(v= .slice none 0 0∧n=0∨∃ b o c ob,v= .slice (some ⟨b,o,none⟩) n c∧n≤c∧b<G.nx∧G.obj b=some ob∧ob.mode≠2∧∀ i,i<n*sz→ob.cells[o+i]? =cs[i]?)
theorem SlIs.ext {G G' :GS} {sz n:Nat} {v:Value} {cs:List Value} (h:SlIs G sz v n cs) (he:Ext G G'):SlIs G' sz v n cs:=by
  refine ⟨h.1,h.2.imp id ?_⟩
  rintro ⟨b,o,c,ob,h1,h2,h3,h4,h5,h6⟩
  exact ⟨b,o,c,ob,h1,h2,Nat.lt_of_lt_of_le h3 he.nx,(he.obj b h3).trans h4,h5,h6⟩
def SlLt (s:Nat) (v:Value):Prop:=∀ a n c,v= .slice (some a) n c→a.block<s
theorem SlIs.keep {G G' :GS} {sz n s:Nat} {v:Value} {cs:List Value} (h:SlIs G sz v n cs) (hb:SlLt s v) (hn:G.nx≤G'.nx) (hk:∀ g,g<s→G'.obj g=G.obj g):SlIs G' sz v n cs:=by
  refine ⟨h.1,h.2.imp id ?_⟩
  rintro ⟨b,o,c,ob,h1,h2,h3,h4,h5,h6⟩
  exact ⟨b,o,c,ob,h1,h2,Nat.lt_of_lt_of_le h3 hn,(hk b (hb _ _ _ h1)).trans h4,h5,h6⟩
theorem SlIs.lt {G:GS} {sz n:Nat} {v:Value} {cs:List Value} (h:SlIs G sz v n cs):SlLt G.nx v:=by
  rcases h.2 with ⟨rfl,rfl⟩ | ⟨b,o,c,ob,rfl,_,h3,_⟩
  · intro a n c e; cases e
  · intro a n c e; cases e; exact h3
theorem SlIs.len {G:GS} {sz n:Nat} {v:Value} {cs:List Value} (h:SlIs G sz v n cs):∃ a c,v= .slice a n c:=by
  rcases h.2 with ⟨rfl,rfl⟩ | ⟨b,o,c,ob,rfl,_⟩
  · exact ⟨none,0,rfl⟩
  · exact ⟨_,c,rfl⟩
theorem SlIs.at_ {G:GS} {sz n:Nat} {v:Value} {cs:List Value} (h:SlIs G sz v n cs) {i:Nat} (hi:i<n) :
    ∃ b o c,v= .slice (some ⟨b,o,none⟩) n c∧b<G.nx∧∀ f,f<sz→G.cell b (o+i*sz+f)=cs[i*sz+f]? :=by
  rcases h.2 with ⟨rfl,rfl⟩ | ⟨b,o,c,ob,rfl,h2,h3,h4,h5,h6⟩
  · omega
  · refine ⟨b,o,c,rfl,h3,fun f hf=> ?_⟩
    unfold GS.cell
    rw [h4]
    simp only [if_neg h5]
    rw [Nat.add_assoc]
    refine h6 _ ?_
    have:(i+1)*sz≤n*sz:=Nat.mul_le_mul_right _ hi
    rw [Nat.add_mul] at this
    omega
theorem elems_of {G:GS} {sz n:Nat} {v:Value} {cs:List Value} (h:SlIs G sz v n cs):elems sz n v G=some cs:=by
  rcases h.2 with ⟨rfl,rfl⟩ | ⟨b,o,c,ob,rfl,h2,h3,h4,h5,h6⟩
  · have:cs=[]:=List.eq_nil_of_length_eq_zero (by simpa using h.1)
    subst this
    rfl
  · show rdN G b o (n*sz)=some cs
    unfold rdN
    rw [h4]
    simp only [if_neg h5]
    rw [takeN_full,dropN_eq]
    have hl:n*sz≤(ob.cells.drop o).length:=by
      rcases Nat.eq_zero_or_pos (n*sz) with h0 | h0
      · rw [h0]; exact Nat.zero_le _
      · have:=h6 (n*sz - 1) (by omega)
        have hq:n*sz - 1<cs.length:=by rw [h.1]; omega
        rw [List.getElem?_eq_getElem (i:=n*sz - 1) hq] at this
        have:=(List.getElem?_eq_some_iff.1 this).1
        simp; omega
    rw [if_pos hl]
    congr 1
    apply List.ext_getElem?
    intro i
    by_cases hi:i<n*sz
    · rw [List.getElem?_take,if_pos hi,List.getElem?_drop,h6 i hi]
    · rw [List.getElem?_take,if_neg hi,List.getElem?_eq_none (by rw [h.1]; omega)]
def OwnL (B:Nat) (G:GS) (sz:Nat) (v:Value) (n:Nat) (cs:List Value):Prop :=
  cs.length=n*sz∧(v= .slice none 0 0∧n=0∨∃ b op,v= .slice (some ⟨b,0,none⟩) n n∧B≤b∧b<G.nx∧G.obj b=some ⟨cs,sz,op,1⟩)
theorem OwnL.nil (B:Nat) (G:GS) (sz:Nat):OwnL B G sz (.slice none 0 0) 0 []:=⟨by simp,.inl ⟨rfl,rfl⟩⟩
theorem OwnL.reads {B:Nat} {G:GS} {sz n:Nat} {v:Value} {cs:List Value} (h:OwnL B G sz v n cs):SlIs G sz v n cs:=by
  refine ⟨h.1,h.2.imp id ?_⟩
  rintro ⟨b,op,rfl,_,h3,h4⟩
  exact ⟨b,0,n,_,rfl,Nat.le_refl _,h3,h4,by simp,fun i _=>by simp⟩
theorem OwnL.mono {B B' :Nat} {G:GS} {sz n:Nat} {v:Value} {cs:List Value} (h:OwnL B G sz v n cs) (hB:B' ≤B):OwnL B' G sz v n cs :=
  ⟨h.1,h.2.imp id fun ⟨b,op,h1,h2,h3⟩=>⟨b,op,h1,Nat.le_trans hB h2,h3⟩⟩
theorem OwnL.ext {B:Nat} {G G' :GS} {sz n:Nat} {v:Value} {cs:List Value} (h:OwnL B G sz v n cs) (he:Ext G G'):OwnL B G' sz v n cs :=
  ⟨h.1,h.2.imp id fun ⟨b,op,h1,h2,h3,h4⟩=>⟨b,op,h1,h2,Nat.lt_of_lt_of_le h3 he.nx,(he.obj b h3).trans h4⟩⟩
theorem app_ok {A G:GS} {isz ib:Nat} {s x:Value} {n m:Nat} {cs ds:List Value} (hi:isz≠0) (hb:ib≠0) (hA:Ext A G) (hs:OwnL A.nx G isz s n cs) (hx:SlIs G isz x m ds) (ho:ds.all one=true) (hsz:(2*(n+m)+1000)*ib≤2 ^ 48) :
    ∃ v' G',appK isz ib s x G=some (v',G')∧Ext A G' ∧OwnL A.nx G' isz v' (n+m) (cs++ds):=by
  have hel:=elems_of hx
  obtain ⟨a,c,rfl⟩:=hx.len
  unfold appK
  rw [if_neg (by omega)]
  simp only [hel,ho,Bool.not_true,Bool.false_eq_true,if_false]
  by_cases hm:m=0
  · subst hm
    have hd:ds=[]:=List.eq_nil_of_length_eq_zero (by simpa using hx.1)
    subst hd
    rcases hs.2 with ⟨rfl,rfl⟩ | ⟨b,op,rfl,h2,h3,h4⟩
    · exact ⟨.slice none 0 0,G,by simp,hA,by simpa using hs⟩
    · exact ⟨.slice (some ⟨b,0,none⟩) n n,G,by simp,hA,by simpa using hs⟩
  · have hlen:(cs++ds).length=(n+m)*isz:=by simp [hs.1,hx.1,Nat.add_mul]
    rcases hs.2 with ⟨rfl,rfl⟩ | ⟨b,op,rfl,h2,h3,h4⟩
    · have hc:cs=[]:=List.eq_nil_of_length_eq_zero (by simpa using hs.1)
      subst hc
      refine ⟨_,_,by simp only [hm,if_false]; rw [if_pos (by simpa using hsz)],hA.push _,hlen,.inr ⟨G.nx,true,by simp,hA.nx,by simp,by simp⟩⟩
    · have hr:rdN G b 0 (n*isz)=some cs:=by
        have:=elems_of hs.reads
        exact this
      have hbn:b≠G.nx:=by omega
      simp only [hm,if_false,h4]
      rw [if_neg (by omega)]
      simp only [Nat.zero_add,hr,if_pos hsz]
      have hcl:n*isz=cs.length:=hs.1.symm
      cases op with
      | true =>
        simp only [hcl,decide_true,Bool.and_self,if_true]
        exact ⟨_,_,rfl,(hA.put h2 _).push _,by rw [hlen],.inr ⟨G.nx,true,rfl,hA.nx,by simp,by simp⟩⟩
      | false =>
        simp only [Bool.false_and,Bool.false_eq_true,if_false]
        exact ⟨_,_,rfl,hA.push _,by rw [hlen],.inr ⟨G.nx,true,rfl,hA.nx,by simp,by simp⟩⟩
def Fit (G:GS) (sz:Nat) (v:Value):Prop:=∀ a n c,v= .slice (some a) n c→∀ ob,G.obj a.block=some ob→ob.opn=true→ob.esz=sz
end Go.Proofs.YtlaojmcekeohnaaGreatDoor.Gh
