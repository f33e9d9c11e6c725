import Derived.Test.YtphandknhnkhfaaGreatGhP
import Derived.KernelRfl
namespace Go.Proofs.YtphandknhnkhfaaGreat.Gh
open Go
set_option linter.unusedVariables false
set_option linter.unusedSimpArgs false
def Wp {α:Type} (x:Option α) (Q:α→Prop):Prop:=∃ a,x=some a∧Q a
@[simp] theorem aeY {α:Type} (a:α) (Q:α→Prop):Wp (some a) Q↔Q a:=⟨fun ⟨_,h,hq⟩=>by cases h; exact hq,fun h=>⟨a,rfl,h⟩⟩
@[congr] theorem aeZ {α:Type} {x y:Option α} (Q:α→Prop) (h:x=y):Wp x Q=Wp y Q:=by rw [h]
theorem Wp.mono {α:Type} {x:Option α} {Q R:α→Prop} (w:Wp x Q) (h:∀ a,Q a→R a):Wp x R:=let ⟨a,ha,hq⟩:=w; ⟨a,ha,h a hq⟩
def wS (k:IntKind) (a b:Int):Int:=k.wrap ((BitVec.ofInt k.bits a &&& BitVec.ofInt k.bits b).toNat)
def pw (k:IntKind) (a b:Int):Int:=k.wrap ((BitVec.ofInt k.bits a ||| BitVec.ofInt k.bits b).toNat)
def Xf (k:IntKind) (a b:Int):Int:=k.wrap ((BitVec.ofInt k.bits a ^^^ BitVec.ofInt k.bits b).toNat)
def HK (k:IntKind) (a b:Int):Int:=k.wrap ((BitVec.ofInt k.bits a &&& ~~~ BitVec.ofInt k.bits b).toNat)
def ng (k:IntKind) (a b:Int):Int:=k.wrap (a*2 ^ (min b.toNat k.bits))
def DE (k:IntKind) (a b:Int):Int:=a.fdiv (2 ^ (min b.toNat k.bits))
section
variable (P:Program) (t:TypeId) (x y:Operand) (k k':IntKind) (a b:Int)
@[simp] theorem ae0:bF P .add t x y (.int k a) (.int k b)=some (.int k (k.wrap (a+b))):=by simp [bF,jm,lE,Nl]
@[simp] theorem ae1:bF P .sub t x y (.int k a) (.int k b)=some (.int k (k.wrap (a - b))):=by simp [bF,jm,lE,Nm]
@[simp] theorem ae2:bF P .mul t x y (.int k a) (.int k b)=some (.int k (k.wrap (a*b))):=by simp [bF,jm,lE,Nn]
@[simp] theorem ae3:bF P .quo t x y (.int k a) (.int k b)=if b=0 then none else some (.int k (k.wrap (a.tdiv b))):=by simp [bF,jm,lE,Da]
@[simp] theorem ae4:bF P .rem t x y (.int k a) (.int k b)=if b=0 then none else some (.int k (a.tmod b)):=by simp [bF,jm,lE,Db]
@[simp] theorem ae5:bF P .and t x y (.int k a) (.int k b)=some (.int k (wS k a b)):=by simp only [bF,jm,decide_true,Bool.true_or,if_true]; rfl
@[simp] theorem ae6:bF P .or t x y (.int k a) (.int k b)=some (.int k (pw k a b)):=by simp only [bF,jm,decide_true,Bool.true_or,if_true]; rfl
@[simp] theorem ae7:bF P .xor t x y (.int k a) (.int k b)=some (.int k (Xf k a b)):=by simp only [bF,jm,decide_true,Bool.true_or,if_true]; rfl
@[simp] theorem ae8:bF P .andNot t x y (.int k a) (.int k b)=some (.int k (HK k a b)):=by simp only [bF,jm,decide_true,Bool.true_or,if_true]; rfl
@[simp] theorem ae9:bF P .eql t x y (.int k a) (.int k b)=some (.bool (decide (a=b))):=by simp [bF,jm,lE,Np]; rfl
@[simp] theorem afa:bF P .neq t x y (.int k a) (.int k b)=some (.bool (!decide (a=b))):=by simp [bF,jm,lE,Nq]; rfl
@[simp] theorem afb:bF P .lss t x y (.int k a) (.int k b)=some (.bool (decide (a<b))):=by simp [bF,jm,lE,Nr]
@[simp] theorem afc:bF P .leq t x y (.int k a) (.int k b)=some (.bool (decide (a≤b))):=by simp [bF,jm,lE,Ns]
@[simp] theorem afd:bF P .gtr t x y (.int k a) (.int k b)=some (.bool (decide (b<a))):=by simp [bF,jm,lE,Nt]
@[simp] theorem afe:bF P .geq t x y (.int k a) (.int k b)=some (.bool (decide (b≤a))):=by simp [bF,jm,lE,Nu]
@[simp] theorem aff:bF P .shl t x y (.int k a) (.int k' b)=if b<0 then none else some (.int k (ng k a b)):=by simp [bF,jm,lE,De,vQ]; rfl
@[simp] theorem afg:bF P .shr t x y (.int k a) (.int k' b)=if b<0 then none else some (.int k (DE k a b)):=by simp [bF,jm,lE,Df,vQ]; rfl
end
@[simp] theorem afh (x:Value) (l:List Value):nth undef (x::l) 0=x:=Eq.trans rfl rfl
@[simp] theorem afi (x:Value) (l:List Value) (n:Nat):nth undef (x::l) (n+1)=nth undef l n:=Eq.trans rfl rfl
@[simp] theorem afj (n:Nat):nth undef ([]:List Value) n=undef:=Eq.trans rfl rfl
attribute [simp] yv
@[simp] theorem afk (P:Program) (b:Bool):wz P .not (.bool b)=some (.bool (!b)):=by cases b<;>exact Eq.trans rfl rfl
@[simp] theorem afl (P:Program) (dA:Array TypeId) (k:IntKind) (a b:Int):uZ P dA [.int k a,.int k b]=some (.int k (if b>a then b else a)):=Eq.trans rfl rfl
@[simp] theorem afm (P:Program) (dA:Array TypeId) (k:IntKind) (a b:Int):uY P dA [.int k a,.int k b]=some (.int k (if b<a then b else a)):=Eq.trans rfl rfl
@[simp] theorem afn (k:IntKind) (a:Int):br (some (.int k a)) (.int k a)=true:=by simp [br,same,cm]
@[simp] theorem afo (a:Bool):br (some (.bool a)) (.bool a)=true:=by simp [br,same,cm]
@[simp] theorem afp (a:Option Addr):br (some (.pointer a)) (.pointer a)=true:=by simp [br,same,cm]
@[simp] theorem afq (a:Option Addr) (n c:Nat):br (some (.slice a n c)) (.slice a n c)=true:=by simp [br,same,cm]
@[simp] theorem afr (b w:Bool):gB (.bool b) w=(b==w):=Eq.trans rfl rfl
theorem wrap64 {n:Int} (h1:-9223372036854775808≤n) (h2:n≤9223372036854775807):IntKind.wrap .i64 n=n:=by
  show (if (decide (n % 18446744073709551616≥9223372036854775808))=true then n % 18446744073709551616 - 18446744073709551616 else n % 18446744073709551616)=n
  by_cases h:n % 18446744073709551616≥9223372036854775808
  · rw [if_pos (by simpa using h)]; omega
  · rw [if_neg (by simpa using h)]; omega
theorem Xg {P:Program} {ae:FuncId→Bool} (lD:P.follows .mixedOrders=true) (ho:rN P ae) {f:FuncId} {vs:List Value} {G':GS} (h:(aC P ae).cl f vs GS.empty=some (.bool true,G')) {w:World} {args:Array Value}
    (hv:∀ M,Vs M vs args.toList):Calls P f args w fun e w'=>e= .returned (.bool true)∧Go.RowKit.Below w.heap.size w w' :=
  Og lD ho h (Ni w) (hv _) fun r hf=>by
    rcases hf with ⟨g,x,o,hx,_⟩ | ⟨l,hl | hl⟩
    · cases hx
    · cases hl
    · cases hl
def among (l:List FuncId) (f:FuncId):Bool:=l.any (Nat.beq f)
theorem HL {P:Program}:∀ (l:List FuncId),(∀ f∈l,(∃ fn,P.funcs[f]? =some fn∧(fn.name == "runtime.NumGoroutine")=false∧fn.body.isSome=true)∧∀ w,((P.funcs[oV]?).isSome=true→yp w)→Calls P f #[] w fun e w' =>e= .returned (.bool true)∧Go.RowKit.Below w.heap.size w w')→(hp:Dp P)→(ha:among l Hl=true→Hm P:=by exact fun _=>Wn (by kernel_rfl))→rN P (among l):=by
  intro l h hp ha
  refine ⟨hp,ha,fun f hf=>?_⟩
  simp only [among,List.any_eq_true] at hf
  obtain ⟨g,hg,he⟩:=hf
  rw [Nat.eq_of_beq_eq_true he]
  exact h g hg
theorem Xh (P:Program) (ae:FuncId→Bool) {f:FuncId} (h:ae f=true) (G:GS) (hT:tF P G=true):(aC P ae).cl f [] G=some (.bool true,G):=by
  rw [Oa]
  simp [tG,h,hT]
theorem Xi (P:Program) (ae:FuncId→Bool) {f:FuncId} (h:ae f=true) (G:GS) (hT:(P.funcs[oV]?).isSome=false:=by kernel_rfl):(aC P ae).cl f [] G=some (.bool true,G):=Xh P ae h G (WK P hT G)
@[simp] theorem jq (E:Ev) (g:FuncId) (a b:List Value) (args:List Value) (G:GS):dO E (.func (.func g) ⟨a⟩ ⟨b⟩) args G=E.cl g (a++args++b) G:=Eq.trans rfl rfl
@[simp] theorem afs (E:Ev) (l:Nat) (b:Array Value) (args:List Value) (G:GS):dO E (.func (.yield l) #[] b) args G=E.rd l args G:=Eq.trans rfl rfl
@[simp] theorem aft (E:Ev) (g:FuncId) (a b:List Value) (ps:List Tmp) (assign body:Code) (T:List Value) (G:GS) :
    gW E (.func (.func g) ⟨a⟩ ⟨b⟩) ⟨ps⟩ assign body T G=qu G.nl T (E.cl g (a++[.func (.yield G.nl) #[] #[]]++b) (G.fD ⟨.ready,none,T,ps,assign,body⟩)):=Eq.trans rfl rfl
theorem HM (nl:Nat) (T:List Value) (v:Value) (G:GS) {r:Lp} (h:G.loop nl=some r) (hs:r.st≠ .busy) {e:Exit} (he:CB r.aF=some e):qu nl T (some (v,G))=some (e,T,G.cC nl (r.jW .exhausted)):=by
  unfold qu
  simp only [h,if_neg hs,he]
  rfl
theorem HN (l:Nat) (e:Exit) (G:GS) {j:Option Code} {r:Lp} (hj:vU e=some j) (h:G.loop l=some r):qx l e G=some (.bool j.isNone,G.cC l { r with st:=if j.isNone then .ready else .done,aF:=j }):=by
  unfold qx
  rw [hj,h]
  rfl
@[simp] theorem aT (G:GS) (a b:Nat) (o:aR):(G.put a o).obj b=if b=a then some o else G.obj b:=sJ _ _ _ _
@[simp] theorem jR (G:GS) (b:Nat) (o:aR):(G.push o).obj b=if b=G.nx then some o else G.obj b:=sJ _ _ _ _
@[simp] theorem afu (G:GS) (n b:Nat):(G.room n).obj b=G.obj b:=Eq.trans rfl rfl
@[simp] theorem Xj (G:GS) (n b:Nat):(G.aI n).obj b=G.obj b:=Eq.trans rfl rfl
@[simp] theorem Xk (G G':GS) (b:Nat):(G'.back G).obj b=G'.obj b:=Eq.trans rfl rfl
@[simp] theorem Xl (G:GS) (l:Nat) (r:Lp) (b:Nat):(G.cC l r).obj b=G.obj b:=Eq.trans rfl rfl
@[simp] theorem afv (G:GS) (r:Lp) (b:Nat):(G.fD r).obj b=G.obj b:=Eq.trans rfl rfl
@[simp] theorem afw (G:GS) (a:Nat) (o:aR):(G.put a o).nx=G.nx:=Eq.trans rfl rfl
@[simp] theorem afx (G:GS) (o:aR):(G.push o).nx=G.nx+1:=Eq.trans rfl rfl
@[simp] theorem Xm (G:GS) (n:Nat):(G.room n).nx=G.nx+n:=Eq.trans rfl rfl
@[simp] theorem Xn (G:GS) (n:Nat):(G.aI n).nx=n:=Eq.trans rfl rfl
@[simp] theorem afy (G G':GS):(G'.back G).nx=G.nx:=Eq.trans rfl rfl
@[simp] theorem OE (G:GS) (l:Nat) (r:Lp):(G.cC l r).nx=G.nx:=Eq.trans rfl rfl
@[simp] theorem afz (G:GS) (r:Lp):(G.fD r).nx=G.nx:=Eq.trans rfl rfl
@[simp] theorem afA (G:GS) (a:Nat) (o:aR):(G.put a o).nl=G.nl:=Eq.trans rfl rfl
@[simp] theorem afB (G:GS) (o:aR):(G.push o).nl=G.nl:=Eq.trans rfl rfl
@[simp] theorem afC (G:GS) (n:Nat):(G.room n).nl=G.nl:=Eq.trans rfl rfl
@[simp] theorem afD (G:GS) (n:Nat):(G.aI n).nl=G.nl:=Eq.trans rfl rfl
@[simp] theorem afE (G G':GS):(G'.back G).nl=G'.nl:=Eq.trans rfl rfl
@[simp] theorem afF (G:GS) (l:Nat) (r:Lp):(G.cC l r).nl=G.nl:=Eq.trans rfl rfl
@[simp] theorem afG (G:GS) (r:Lp):(G.fD r).nl=G.nl+1:=Eq.trans rfl rfl
@[simp] theorem wa (G:GS) (a l:Nat) (o:aR):(G.put a o).loop l=G.loop l:=Eq.trans rfl rfl
@[simp] theorem vZ (G:GS) (l:Nat) (o:aR):(G.push o).loop l=G.loop l:=Eq.trans rfl rfl
@[simp] theorem afH (G:GS) (n l:Nat):(G.room n).loop l=G.loop l:=Eq.trans rfl rfl
@[simp] theorem afI (G:GS) (n l:Nat):(G.aI n).loop l=G.loop l:=Eq.trans rfl rfl
@[simp] theorem afJ (G G':GS) (l:Nat):(G'.back G).loop l=G'.loop l:=Eq.trans rfl rfl
@[simp] theorem OH (G:GS) (a b:Nat) (r:Lp):(G.cC a r).loop b=if b=a then some r else G.loop b:=sJ _ _ _ _
@[simp] theorem Xo (G:GS) (b:Nat) (r:Lp):(G.fD r).loop b=if b=G.nl then some r else G.loop b:=sJ _ _ _ _
@[simp] theorem afK (G:GS) (cs:List Value) (e:Nat):jf G cs e=G.push ⟨cs,e,false,1⟩:=Eq.trans rfl rfl
@[simp] theorem afL (G:GS) (n b o:Nat):(G.room n).cell b o=G.cell b o:=Eq.trans rfl rfl
@[simp] theorem afM (G:GS) (n b o:Nat):(G.aI n).cell b o=G.cell b o:=Eq.trans rfl rfl
@[simp] theorem afN (G G':GS) (b o:Nat):(G'.back G).cell b o=G'.cell b o:=Eq.trans rfl rfl
@[simp] theorem afO (G:GS) (l:Nat) (r:Lp) (b o:Nat):(G.cC l r).cell b o=G.cell b o:=Eq.trans rfl rfl
@[simp] theorem afP (G:GS) (r:Lp) (b o:Nat):(G.fD r).cell b o=G.cell b o:=Eq.trans rfl rfl
theorem cell_of {G:GS} {b:Nat} {ob:aR} (h:G.obj b=some ob) (hm:ob.mode≠2) (o:Nat):G.cell b o=ob.cells[o]?:=by unfold GS.cell; rw [h]; simp only [if_neg hm]
theorem DF (G:GS) (b o:Nat) (ob:aR):(G.push ob).cell b o=if b=G.nx then (if ob.mode=2 then none else ob.cells[o]?) else G.cell b o:=by
  unfold GS.cell
  rw [jR]
  by_cases h:b=G.nx<;>simp [h]
structure Ext (G G':GS):Prop where
  nx:G.nx≤G'.nx
  obj:∀ g,g<G.nx→G'.obj g=G.obj g
  nl:G.nl≤G'.nl
  loop:∀ l,l<G.nl→G'.loop l=G.loop l
theorem Ext.refl (G:GS):Ext G G:=⟨Nat.le_refl _,fun _ _=>rfl,Nat.le_refl _,fun _ _=>rfl⟩
theorem Ext.trans {A B C:GS} (h:Ext A B) (k:Ext B C):Ext A C :=
  ⟨Nat.le_trans h.nx k.nx,fun g hg=>(k.obj g (Nat.lt_of_lt_of_le hg h.nx)).trans (h.obj g hg),Nat.le_trans h.nl k.nl,fun l hl=>(k.loop l (Nat.lt_of_lt_of_le hl h.nl)).trans (h.loop l hl)⟩
theorem Ext.room {A G:GS} (h:Ext A G) (n:Nat):Ext A (G.room n):=⟨by have:=h.nx; simp; omega,h.obj,h.nl,h.loop⟩
theorem Ext.push {A G:GS} (h:Ext A G) (o:aR):Ext A (G.push o) :=
  ⟨by have:=h.nx; simp; omega,fun g hg=>by rw [jR,if_neg (by have:=h.nx; omega)]; exact h.obj g hg,h.nl,h.loop⟩
theorem Ext.put {A G:GS} (h:Ext A G) {b:Nat} (hb:A.nx≤b) (o:aR):Ext A (G.put b o) :=
  ⟨h.nx,fun g hg=>by rw [aT,if_neg (by omega)]; exact h.obj g hg,h.nl,h.loop⟩
def mq (G:GS) (sz:Nat) (v:Value) (n:Nat) (cs:List Value):Prop :=
  cs.length=n*sz∧(v= .slice none 0 0∧n=0∨∃ b o c ob,v= .slice (some ⟨b,o,none⟩) n c∧n≤c∧b<G.nx∧G.obj b=some ob∧ob.mode≠2∧∀ i,i<n*sz→ob.cells[o+i]? =cs[i]?)
theorem mq.ext {G G':GS} {sz n:Nat} {v:Value} {cs:List Value} (h:mq G sz v n cs) (he:Ext G G'):mq G' sz v n cs:=by
  refine ⟨h.1,h.2.imp id ?_⟩
  rintro ⟨b,o,c,ob,h1,h2,h3,h4,h5,h6⟩
  exact ⟨b,o,c,ob,h1,h2,Nat.lt_of_lt_of_le h3 he.nx,(he.obj b h3).trans h4,h5,h6⟩
def OI (s:Nat) (v:Value):Prop:=∀ a n c,v= .slice (some a) n c→a.block<s
theorem mq.lt {G:GS} {sz n:Nat} {v:Value} {cs:List Value} (h:mq G sz v n cs):OI G.nx v:=by
  rcases h.2 with ⟨rfl,rfl⟩ | ⟨b,o,c,ob,rfl,_,h3,_⟩
  · intro a n c e; cases e
  · intro a n c e; cases e; exact h3
theorem mq.len {G:GS} {sz n:Nat} {v:Value} {cs:List Value} (h:mq G sz v n cs):∃ a c,v= .slice a n c:=by
  rcases h.2 with ⟨rfl,rfl⟩ | ⟨b,o,c,ob,rfl,_⟩
  · exact ⟨none,0,rfl⟩
  · exact ⟨_,c,rfl⟩
theorem mq.at_ {G:GS} {sz n:Nat} {v:Value} {cs:List Value} (h:mq G sz v n cs) {i:Nat} (hi:i<n) :
    ∃ b o c,v= .slice (some ⟨b,o,none⟩) n c∧b<G.nx∧∀ f,f<sz→G.cell b (o+i*sz+f)=cs[i*sz+f]?:=by
  rcases h.2 with ⟨rfl,rfl⟩ | ⟨b,o,c,ob,rfl,h2,h3,h4,h5,h6⟩
  · omega
  · refine ⟨b,o,c,rfl,h3,fun f hf=>?_⟩
    unfold GS.cell
    rw [h4]
    simp only [if_neg h5]
    rw [Nat.add_assoc]
    refine h6 _ ?_
    have:(i+1)*sz≤n*sz:=Nat.mul_le_mul_right _ hi
    rw [Nat.add_mul] at this
    omega
theorem vl {G:GS} {sz n:Nat} {v:Value} {cs:List Value} (h:mq G sz v n cs):elems sz n v G=some cs:=by
  rcases h.2 with ⟨rfl,rfl⟩ | ⟨b,o,c,ob,rfl,h2,h3,h4,h5,h6⟩
  · have:cs=[]:=List.eq_nil_of_length_eq_zero (by simpa using h.1)
    subst this
    rfl
  · show fE G b o (n*sz)=some cs
    unfold fE
    rw [h4]
    simp only [if_neg h5]
    rw [DB,xW]
    have hl:n*sz≤(ob.cells.drop o).length:=by
      rcases Nat.eq_zero_or_pos (n*sz) with h0 | h0
      · rw [h0]; exact Nat.zero_le _
      · have:=h6 (n*sz - 1) (by omega)
        have hq:n*sz - 1<cs.length:=by rw [h.1]; omega
        rw [List.getElem?_eq_getElem (i:=n*sz - 1) hq] at this
        have:=(List.getElem?_eq_some_iff.1 this).1
        simp; omega
    rw [if_pos hl]
    congr 1
    apply List.ext_getElem?
    intro i
    by_cases hi:i<n*sz
    · rw [List.getElem?_take,if_pos hi,List.getElem?_drop,h6 i hi]
    · rw [List.getElem?_take,if_neg hi,List.getElem?_eq_none (by rw [h.1]; omega)]
def mv (B:Nat) (G:GS) (sz:Nat) (v:Value) (n:Nat) (cs:List Value):Prop :=
  cs.length=n*sz∧(v= .slice none 0 0∧n=0∨∃ b op,v= .slice (some ⟨b,0,none⟩) n n∧B≤b∧b<G.nx∧G.obj b=some ⟨cs,sz,op,1⟩)
theorem mv.reads {B:Nat} {G:GS} {sz n:Nat} {v:Value} {cs:List Value} (h:mv B G sz v n cs):mq G sz v n cs:=by
  refine ⟨h.1,h.2.imp id ?_⟩
  rintro ⟨b,op,rfl,_,h3,h4⟩
  exact ⟨b,0,n,_,rfl,Nat.le_refl _,h3,h4,by simp,fun i _=>by simp⟩
theorem mv.mono {B B':Nat} {G:GS} {sz n:Nat} {v:Value} {cs:List Value} (h:mv B G sz v n cs) (hB:B' ≤B):mv B' G sz v n cs :=
  ⟨h.1,h.2.imp id fun ⟨b,op,h1,h2,h3⟩=>⟨b,op,h1,Nat.le_trans hB h2,h3⟩⟩
theorem mv.ext {B:Nat} {G G':GS} {sz n:Nat} {v:Value} {cs:List Value} (h:mv B G sz v n cs) (he:Ext G G'):mv B G' sz v n cs :=
  ⟨h.1,h.2.imp id fun ⟨b,op,h1,h2,h3,h4⟩=>⟨b,op,h1,h2,Nat.lt_of_lt_of_le h3 he.nx,(he.obj b h3).trans h4⟩⟩
theorem Xp {A G:GS} {gu ib:Nat} {s x:Value} {n m:Nat} {cs ds:List Value} (hi:gu≠0) (hb:ib≠0) (hA:Ext A G) (hs:mv A.nx G gu s n cs) (hx:mq G gu x m ds) (ho:ds.all one=true) (cQ:(2*(n+m)+1000)*ib≤2 ^ 48) :
    ∃ v' G',oz gu ib s x G=some (v',G')∧Ext A G' ∧mv A.nx G' gu v' (n+m) (cs++ds):=by
  have qk:=vl hx
  obtain ⟨a,c,rfl⟩:=hx.len
  unfold oz
  rw [if_neg (by omega)]
  simp only [qk,ho,Bool.not_true,Bool.false_eq_true,if_false]
  by_cases hm:m=0
  · subst hm
    have hd:ds=[]:=List.eq_nil_of_length_eq_zero (by simpa using hx.1)
    subst hd
    rcases hs.2 with ⟨rfl,rfl⟩ | ⟨b,op,rfl,h2,h3,h4⟩
    · exact ⟨.slice none 0 0,G,by simp,hA,by simpa using hs⟩
    · exact ⟨.slice (some ⟨b,0,none⟩) n n,G,by simp,hA,by simpa using hs⟩
  · have hlen:(cs++ds).length=(n+m)*gu:=by simp [hs.1,hx.1,Nat.add_mul]
    rcases hs.2 with ⟨rfl,rfl⟩ | ⟨b,op,rfl,h2,h3,h4⟩
    · have hc:cs=[]:=List.eq_nil_of_length_eq_zero (by simpa using hs.1)
      subst hc
      refine ⟨_,_,by simp only [hm,if_false]; rw [if_pos (by simpa using cQ)],hA.push _,hlen,.inr ⟨G.nx,true,by simp,hA.nx,by simp,by simp⟩⟩
    · have hr:fE G b 0 (n*gu)=some cs:=by
        have:=vl hs.reads
        exact this
      have iu:b≠G.nx:=by omega
      simp only [hm,if_false,h4]
      rw [if_neg (by omega)]
      simp only [Nat.zero_add,hr,if_pos cQ]
      have uO:n*gu=cs.length:=hs.1.symm
      cases op with
      | true =>
        simp only [uO,decide_true,Bool.and_self,if_true]
        exact ⟨_,_,rfl,(hA.put h2 _).push _,by rw [hlen],.inr ⟨G.nx,true,rfl,hA.nx,by simp,by simp⟩⟩
      | false =>
        simp only [Bool.false_and,Bool.false_eq_true,if_false]
        exact ⟨_,_,rfl,hA.push _,by rw [hlen],.inr ⟨G.nx,true,rfl,hA.nx,by simp,by simp⟩⟩
def Fit (G:GS) (sz:Nat) (v:Value):Prop:=∀ a n c,v= .slice (some a) n c→∀ ob,G.obj a.block=some ob→ob.opn=true→ob.esz=sz
end Go.Proofs.YtphandknhnkhfaaGreat.Gh
