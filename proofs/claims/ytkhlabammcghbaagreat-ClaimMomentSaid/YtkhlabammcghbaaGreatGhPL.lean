import Derived.Test.YtkhlabammcghbaaGreatGhP
import Derived.KernelRfl
namespace Go.Proofs.YtkhlabammcghbaaGreat.Gh
open Go
set_option linter.unusedVariables false
set_option linter.unusedSimpArgs false
def Wp {α:Type} (x:Option α) (Q:α→Prop):Prop:=∃ a,x=some a∧Q a
@[simp] theorem afO {α:Type} (a:α) (Q:α→Prop):Wp (some a) Q↔Q a:=⟨fun ⟨_,h,hq⟩=>by cases h; exact hq,fun h=>⟨a,rfl,h⟩⟩
@[congr] theorem afP {α:Type} {x y:Option α} (Q:α→Prop) (h:x=y):Wp x Q=Wp y Q:=by rw [h]
theorem Wp.mono {α:Type} {x:Option α} {Q R:α→Prop} (w:Wp x Q) (h:∀ a,Q a→R a):Wp x R:=let ⟨a,ha,hq⟩:=w; ⟨a,ha,h a hq⟩
def xf (k:IntKind) (a b:Int):Int:=k.wrap ((BitVec.ofInt k.bits a &&& BitVec.ofInt k.bits b).toNat)
def lu (k:IntKind) (a b:Int):Int:=k.wrap ((BitVec.ofInt k.bits a ||| BitVec.ofInt k.bits b).toNat)
def Yp (k:IntKind) (a b:Int):Int:=k.wrap ((BitVec.ofInt k.bits a ^^^ BitVec.ofInt k.bits b).toNat)
def IL (k:IntKind) (a b:Int):Int:=k.wrap ((BitVec.ofInt k.bits a &&& ~~~ BitVec.ofInt k.bits b).toNat)
def nw (k:IntKind) (a b:Int):Int:=k.wrap (a*2 ^ (min b.toNat k.bits))
def Es (k:IntKind) (a b:Int):Int:=a.fdiv (2 ^ (min b.toNat k.bits))
section
variable (P:Program) (t:TypeId) (x y:Operand) (k k':IntKind) (a b:Int)
@[simp] theorem afQ:bB P .add t x y (.int k a) (.int k b)=some (.int k (k.wrap (a+b))):=by simp [bB,iK,jY,OY]
@[simp] theorem afR:bB P .sub t x y (.int k a) (.int k b)=some (.int k (k.wrap (a - b))):=by simp [bB,iK,jY,OZ]
@[simp] theorem afS:bB P .mul t x y (.int k a) (.int k b)=some (.int k (k.wrap (a*b))):=by simp [bB,iK,jY,O0]
@[simp] theorem afT:bB P .quo t x y (.int k a) (.int k b)=if b=0 then none else some (.int k (k.wrap (a.tdiv b))):=by simp [bB,iK,jY,D0]
@[simp] theorem afU:bB P .rem t x y (.int k a) (.int k b)=if b=0 then none else some (.int k (a.tmod b)):=by simp [bB,iK,jY,D1]
@[simp] theorem afV:bB P .and t x y (.int k a) (.int k b)=some (.int k (xf k a b)):=by simp only [bB,iK,decide_true,Bool.true_or,if_true]; rfl
@[simp] theorem afW:bB P .or t x y (.int k a) (.int k b)=some (.int k (lu k a b)):=by simp only [bB,iK,decide_true,Bool.true_or,if_true]; rfl
@[simp] theorem afX:bB P .xor t x y (.int k a) (.int k b)=some (.int k (Yp k a b)):=by simp only [bB,iK,decide_true,Bool.true_or,if_true]; rfl
@[simp] theorem afY:bB P .andNot t x y (.int k a) (.int k b)=some (.int k (IL k a b)):=by simp only [bB,iK,decide_true,Bool.true_or,if_true]; rfl
@[simp] theorem afZ:bB P .eql t x y (.int k a) (.int k b)=some (.bool (decide (a=b))):=by simp [bB,iK,jY,O1]; rfl
@[simp] theorem af0:bB P .neq t x y (.int k a) (.int k b)=some (.bool (!decide (a=b))):=by simp [bB,iK,jY,O2]; rfl
@[simp] theorem af1:bB P .lss t x y (.int k a) (.int k b)=some (.bool (decide (a<b))):=by simp [bB,iK,jY,O3]
@[simp] theorem af3:bB P .leq t x y (.int k a) (.int k b)=some (.bool (decide (a≤b))):=by simp [bB,iK,jY,O4]
@[simp] theorem af4:bB P .gtr t x y (.int k a) (.int k b)=some (.bool (decide (b<a))):=by simp [bB,iK,jY,O5]
@[simp] theorem af5:bB P .geq t x y (.int k a) (.int k b)=some (.bool (decide (b≤a))):=by simp [bB,iK,jY,O6]
@[simp] theorem af6:bB P .shl t x y (.int k a) (.int k' b)=if b<0 then none else some (.int k (nw k a b)):=by simp [bB,iK,jY,D4,wg]; rfl
@[simp] theorem af7:bB P .shr t x y (.int k a) (.int k' b)=if b<0 then none else some (.int k (Es k a b)):=by simp [bB,iK,jY,D5,wg]; rfl
end
@[simp] theorem af8 (x:Value) (l:List Value):nth undef (x::l) 0=x:=Eq.trans rfl rfl
@[simp] theorem af9 (x:Value) (l:List Value) (n:Nat):nth undef (x::l) (n+1)=nth undef l n:=Eq.trans rfl rfl
@[simp] theorem aga (n:Nat):nth undef ([]:List Value) n=undef:=Eq.trans rfl rfl
attribute [simp] yW
@[simp] theorem agb (P:Program) (b:Bool):wK P .not (.bool b)=some (.bool (!b)):=by cases b<;>exact Eq.trans rfl rfl
@[simp] theorem agc (P:Program) (dt:Array TypeId) (k:IntKind) (a b:Int):vn P dt [.int k a,.int k b]=some (.int k (if b>a then b else a)):=Eq.trans rfl rfl
@[simp] theorem agd (P:Program) (dt:Array TypeId) (k:IntKind) (a b:Int):vm P dt [.int k a,.int k b]=some (.int k (if b<a then b else a)):=Eq.trans rfl rfl
@[simp] theorem age (k:IntKind) (a:Int):bp (some (.int k a)) (.int k a)=true:=by simp [bp,same,dh]
@[simp] theorem agf (a:Bool):bp (some (.bool a)) (.bool a)=true:=by simp [bp,same,dh]
@[simp] theorem agh (a:Option Addr):bp (some (.pointer a)) (.pointer a)=true:=by simp [bp,same,dh]
@[simp] theorem agi (a:Option Addr) (n c:Nat):bp (some (.slice a n c)) (.slice a n c)=true:=by simp [bp,same,dh]
@[simp] theorem agj (b w:Bool):gB (.bool b) w=(b==w):=Eq.trans rfl rfl
theorem wrap64 {n:Int} (h1:-9223372036854775808≤n) (h2:n≤9223372036854775807):IntKind.wrap .i64 n=n:=by
  show (if (decide (n % 18446744073709551616≥9223372036854775808))=true then n % 18446744073709551616 - 18446744073709551616 else n % 18446744073709551616)=n
  by_cases h:n % 18446744073709551616≥9223372036854775808
  · rw [if_pos (by simpa using h)]; omega
  · rw [if_neg (by simpa using h)]; omega
theorem Yq {P:Program} {ae:FuncId→Bool} (kY:P.follows .mixedOrders=true) (ho:rY P ae) {f:FuncId} {vs:List Value} {G':GS} (h:(aD P ae).cl f vs GS.empty=some (.bool true,G')) {w:World} {args:Array Value}
    (hv:∀ M,Vs M vs args.toList):Calls P f args w fun e w'=>e= .returned (.bool true)∧Go.RowKit.Below w.heap.size w w' :=
  PN kY ho h (OV w) (hv _) fun r hf=>by
    rcases hf with ⟨g,x,o,hx,_⟩ | ⟨l,hl | hl⟩
    · cases hx
    · cases hl
    · cases hl
def among (l:List FuncId) (f:FuncId):Bool:=l.any (Nat.beq f)
theorem IP {P:Program}:∀ (l:List FuncId),(∀ f∈l,(∃ fn,P.funcs[f]? =some fn∧(fn.name == "runtime.NumGoroutine")=false∧fn.body.isSome=true)∧∀ w,((P.funcs[oZ]?).isSome=true→yS w)→Calls P f #[] w fun e w' =>e= .returned (.bool true)∧Go.RowKit.Below w.heap.size w w')→(hp:Ee P)→(ha:among l Ii=true→Ij P:=by exact fun _=>XC (by kernel_rfl))→rY P (among l):=by
  intro l h hp ha
  refine ⟨hp,ha,fun f hf=>?_⟩
  simp only [among,List.any_eq_true] at hf
  obtain ⟨g,hg,he⟩:=hf
  rw [Nat.eq_of_beq_eq_true he]
  exact h g hg
theorem Yr (P:Program) (ae:FuncId→Bool) {f:FuncId} (h:ae f=true) (G:GS) (hT:tG P G=true):(aD P ae).cl f [] G=some (.bool true,G):=by
  rw [PH]
  simp [tH,h,hT]
theorem Ys (P:Program) (ae:FuncId→Bool) {f:FuncId} (h:ae f=true) (G:GS) (hT:(P.funcs[oZ]?).isSome=false:=by kernel_rfl):(aD P ae).cl f [] G=some (.bool true,G):=Yr P ae h G (XY P hT G)
@[simp] theorem xg (E:Ev) (g:FuncId) (a b:List Value) (args:List Value) (G:GS):fJ E (.func (.func g) ⟨a⟩ ⟨b⟩) args G=E.cl g (a++args++b) G:=Eq.trans rfl rfl
@[simp] theorem agk (E:Ev) (l:Nat) (b:Array Value) (args:List Value) (G:GS):fJ E (.func (.yield l) #[] b) args G=E.rd l args G:=Eq.trans rfl rfl
@[simp] theorem agl (E:Ev) (g:FuncId) (a b:List Value) (ps:List Tmp) (assign body:Code) (T:List Value) (G:GS) :
    gE E (.func (.func g) ⟨a⟩ ⟨b⟩) ⟨ps⟩ assign body T G=qG G.nl T (E.cl g (a++[.func (.yield G.nl) #[] #[]]++b) (G.dS ⟨.ready,none,T,ps,assign,body⟩)):=Eq.trans rfl rfl
theorem Et (nl:Nat) (T:List Value) (v:Value) (G:GS) {r:Lp} (h:G.loop nl=some r) (hs:r.st≠ .busy) {e:Exit} (he:Dq r.aC=some e):qG nl T (some (v,G))=some (e,T,G.bR nl (r.gf .exhausted)):=by
  unfold qG
  simp only [h,if_neg hs,he]
  rfl
theorem BJ (l:Nat) (e:Exit) (G:GS) {j:Option Code} {r:Lp} (hj:wo e=some j) (h:G.loop l=some r):me l e G=some (.bool j.isNone,G.bR l { r with st:=if j.isNone then .ready else .done,aC:=j }):=by
  unfold me
  rw [hj,h]
  rfl
@[simp] theorem cM (G:GS) (a b:Nat) (o:bK):(G.put a o).obj b=if b=a then some o else G.obj b:=sT _ _ _ _
@[simp] theorem kU (G:GS) (b:Nat) (o:bK):(G.push o).obj b=if b=G.nx then some o else G.obj b:=sT _ _ _ _
@[simp] theorem zf (G:GS) (n b:Nat):(G.room n).obj b=G.obj b:=Eq.trans rfl rfl
@[simp] theorem Yt (G:GS) (n b:Nat):(G.aS n).obj b=G.obj b:=Eq.trans rfl rfl
@[simp] theorem Yu (G G':GS) (b:Nat):(G'.back G).obj b=G'.obj b:=Eq.trans rfl rfl
@[simp] theorem IQ (G:GS) (l:Nat) (r:Lp) (b:Nat):(G.bR l r).obj b=G.obj b:=Eq.trans rfl rfl
@[simp] theorem agm (G:GS) (r:Lp) (b:Nat):(G.dS r).obj b=G.obj b:=Eq.trans rfl rfl
@[simp] theorem agn (G:GS) (a:Nat) (o:bK):(G.put a o).nx=G.nx:=Eq.trans rfl rfl
@[simp] theorem ago (G:GS) (o:bK):(G.push o).nx=G.nx+1:=Eq.trans rfl rfl
@[simp] theorem agp (G:GS) (n:Nat):(G.room n).nx=G.nx+n:=Eq.trans rfl rfl
@[simp] theorem Yv (G:GS) (n:Nat):(G.aS n).nx=n:=Eq.trans rfl rfl
@[simp] theorem agq (G G':GS):(G'.back G).nx=G.nx:=Eq.trans rfl rfl
@[simp] theorem Qc (G:GS) (l:Nat) (r:Lp):(G.bR l r).nx=G.nx:=Eq.trans rfl rfl
@[simp] theorem ags (G:GS) (r:Lp):(G.dS r).nx=G.nx:=Eq.trans rfl rfl
@[simp] theorem agt (G:GS) (a:Nat) (o:bK):(G.put a o).nl=G.nl:=Eq.trans rfl rfl
@[simp] theorem agu (G:GS) (o:bK):(G.push o).nl=G.nl:=Eq.trans rfl rfl
@[simp] theorem agv (G:GS) (n:Nat):(G.room n).nl=G.nl:=Eq.trans rfl rfl
@[simp] theorem agw (G:GS) (n:Nat):(G.aS n).nl=G.nl:=Eq.trans rfl rfl
@[simp] theorem agx (G G':GS):(G'.back G).nl=G'.nl:=Eq.trans rfl rfl
@[simp] theorem agy (G:GS) (l:Nat) (r:Lp):(G.bR l r).nl=G.nl:=Eq.trans rfl rfl
@[simp] theorem agz (G:GS) (r:Lp):(G.dS r).nl=G.nl+1:=Eq.trans rfl rfl
@[simp] theorem wB (G:GS) (a l:Nat) (o:bK):(G.put a o).loop l=G.loop l:=Eq.trans rfl rfl
@[simp] theorem wA (G:GS) (l:Nat) (o:bK):(G.push o).loop l=G.loop l:=Eq.trans rfl rfl
@[simp] theorem agB (G:GS) (n l:Nat):(G.room n).loop l=G.loop l:=Eq.trans rfl rfl
@[simp] theorem agC (G:GS) (n l:Nat):(G.aS n).loop l=G.loop l:=Eq.trans rfl rfl
@[simp] theorem agD (G G':GS) (l:Nat):(G'.back G).loop l=G'.loop l:=Eq.trans rfl rfl
@[simp] theorem IU (G:GS) (a b:Nat) (r:Lp):(G.bR a r).loop b=if b=a then some r else G.loop b:=sT _ _ _ _
@[simp] theorem Yw (G:GS) (b:Nat) (r:Lp):(G.dS r).loop b=if b=G.nl then some r else G.loop b:=sT _ _ _ _
@[simp] theorem agE (G:GS) (cs:List Value) (e:Nat):iU G cs e=G.push ⟨cs,e,false,1⟩:=Eq.trans rfl rfl
@[simp] theorem agH (G:GS) (n b o:Nat):(G.room n).cell b o=G.cell b o:=Eq.trans rfl rfl
@[simp] theorem agI (G:GS) (n b o:Nat):(G.aS n).cell b o=G.cell b o:=Eq.trans rfl rfl
@[simp] theorem agJ (G G':GS) (b o:Nat):(G'.back G).cell b o=G'.cell b o:=Eq.trans rfl rfl
@[simp] theorem agK (G:GS) (l:Nat) (r:Lp) (b o:Nat):(G.bR l r).cell b o=G.cell b o:=Eq.trans rfl rfl
@[simp] theorem agL (G:GS) (r:Lp) (b o:Nat):(G.dS r).cell b o=G.cell b o:=Eq.trans rfl rfl
theorem cell_of {G:GS} {b:Nat} {ob:bK} (h:G.obj b=some ob) (hm:ob.mode≠2) (o:Nat):G.cell b o=ob.cells[o]?:=by unfold GS.cell; rw [h]; simp only [if_neg hm]
theorem Eu (G:GS) (b o:Nat) (ob:bK):(G.push ob).cell b o=if b=G.nx then (if ob.mode=2 then none else ob.cells[o]?) else G.cell b o:=by
  unfold GS.cell
  rw [kU]
  by_cases h:b=G.nx<;>simp [h]
structure Ext (G G':GS):Prop where
  nx:G.nx≤G'.nx
  obj:∀ g,g<G.nx→G'.obj g=G.obj g
  nl:G.nl≤G'.nl
  loop:∀ l,l<G.nl→G'.loop l=G.loop l
theorem Ext.refl (G:GS):Ext G G:=⟨Nat.le_refl _,fun _ _=>rfl,Nat.le_refl _,fun _ _=>rfl⟩
theorem Ext.trans {A B C:GS} (h:Ext A B) (k:Ext B C):Ext A C :=
  ⟨Nat.le_trans h.nx k.nx,fun g hg=>(k.obj g (Nat.lt_of_lt_of_le hg h.nx)).trans (h.obj g hg),Nat.le_trans h.nl k.nl,fun l hl=>(k.loop l (Nat.lt_of_lt_of_le hl h.nl)).trans (h.loop l hl)⟩
theorem Ext.room {A G:GS} (h:Ext A G) (n:Nat):Ext A (G.room n):=⟨by have:=h.nx; simp; omega,h.obj,h.nl,h.loop⟩
theorem Ext.push {A G:GS} (h:Ext A G) (o:bK):Ext A (G.push o) :=
  ⟨by have:=h.nx; simp; omega,fun g hg=>by rw [kU,if_neg (by have:=h.nx; omega)]; exact h.obj g hg,h.nl,h.loop⟩
theorem Ext.put {A G:GS} (h:Ext A G) {b:Nat} (hb:A.nx≤b) (o:bK):Ext A (G.put b o) :=
  ⟨h.nx,fun g hg=>by rw [cM,if_neg (by omega)]; exact h.obj g hg,h.nl,h.loop⟩
def mf (G:GS) (sz:Nat) (v:Value) (n:Nat) (cs:List Value):Prop :=
  cs.length=n*sz∧(v= .slice none 0 0∧n=0∨∃ b o c ob,v= .slice (some ⟨b,o,none⟩) n c∧n≤c∧b<G.nx∧G.obj b=some ob∧ob.mode≠2∧∀ i,i<n*sz→ob.cells[o+i]? =cs[i]?)
theorem mf.ext {G G':GS} {sz n:Nat} {v:Value} {cs:List Value} (h:mf G sz v n cs) (he:Ext G G'):mf G' sz v n cs:=by
  refine ⟨h.1,h.2.imp id ?_⟩
  rintro ⟨b,o,c,ob,h1,h2,h3,h4,h5,h6⟩
  exact ⟨b,o,c,ob,h1,h2,Nat.lt_of_lt_of_le h3 he.nx,(he.obj b h3).trans h4,h5,h6⟩
def Qd (s:Nat) (v:Value):Prop:=∀ a n c,v= .slice (some a) n c→a.block<s
theorem mf.lt {G:GS} {sz n:Nat} {v:Value} {cs:List Value} (h:mf G sz v n cs):Qd G.nx v:=by
  rcases h.2 with ⟨rfl,rfl⟩ | ⟨b,o,c,ob,rfl,_,h3,_⟩
  · intro a n c e; cases e
  · intro a n c e; cases e; exact h3
theorem mf.len {G:GS} {sz n:Nat} {v:Value} {cs:List Value} (h:mf G sz v n cs):∃ a c,v= .slice a n c:=by
  rcases h.2 with ⟨rfl,rfl⟩ | ⟨b,o,c,ob,rfl,_⟩
  · exact ⟨none,0,rfl⟩
  · exact ⟨_,c,rfl⟩
theorem mf.at_ {G:GS} {sz n:Nat} {v:Value} {cs:List Value} (h:mf G sz v n cs) {i:Nat} (hi:i<n) :
    ∃ b o c,v= .slice (some ⟨b,o,none⟩) n c∧b<G.nx∧∀ f,f<sz→G.cell b (o+i*sz+f)=cs[i*sz+f]?:=by
  rcases h.2 with ⟨rfl,rfl⟩ | ⟨b,o,c,ob,rfl,h2,h3,h4,h5,h6⟩
  · omega
  · refine ⟨b,o,c,rfl,h3,fun f hf=>?_⟩
    unfold GS.cell
    rw [h4]
    simp only [if_neg h5]
    rw [Nat.add_assoc]
    refine h6 _ ?_
    have:(i+1)*sz≤n*sz:=Nat.mul_le_mul_right _ hi
    rw [Nat.add_mul] at this
    omega
theorem zg {G:GS} {sz n:Nat} {v:Value} {cs:List Value} (h:mf G sz v n cs):elems sz n v G=some cs:=by
  rcases h.2 with ⟨rfl,rfl⟩ | ⟨b,o,c,ob,rfl,h2,h3,h4,h5,h6⟩
  · have:cs=[]:=List.eq_nil_of_length_eq_zero (by simpa using h.1)
    subst this
    rfl
  · show fC G b o (n*sz)=some cs
    unfold fC
    rw [h4]
    simp only [if_neg h5]
    rw [Ep,yu]
    have hl:n*sz≤(ob.cells.drop o).length:=by
      rcases Nat.eq_zero_or_pos (n*sz) with h0 | h0
      · rw [h0]; exact Nat.zero_le _
      · have:=h6 (n*sz - 1) (by omega)
        have hq:n*sz - 1<cs.length:=by rw [h.1]; omega
        rw [List.getElem?_eq_getElem (i:=n*sz - 1) hq] at this
        have:=(List.getElem?_eq_some_iff.1 this).1
        simp; omega
    rw [if_pos hl]
    congr 1
    apply List.ext_getElem?
    intro i
    by_cases hi:i<n*sz
    · rw [List.getElem?_take,if_pos hi,List.getElem?_drop,h6 i hi]
    · rw [List.getElem?_take,if_neg hi,List.getElem?_eq_none (by rw [h.1]; omega)]
def mg (B:Nat) (G:GS) (sz:Nat) (v:Value) (n:Nat) (cs:List Value):Prop :=
  cs.length=n*sz∧(v= .slice none 0 0∧n=0∨∃ b op,v= .slice (some ⟨b,0,none⟩) n n∧B≤b∧b<G.nx∧G.obj b=some ⟨cs,sz,op,1⟩)
theorem mg.reads {B:Nat} {G:GS} {sz n:Nat} {v:Value} {cs:List Value} (h:mg B G sz v n cs):mf G sz v n cs:=by
  refine ⟨h.1,h.2.imp id ?_⟩
  rintro ⟨b,op,rfl,_,h3,h4⟩
  exact ⟨b,0,n,_,rfl,Nat.le_refl _,h3,h4,by simp,fun i _=>by simp⟩
theorem mg.mono {B B':Nat} {G:GS} {sz n:Nat} {v:Value} {cs:List Value} (h:mg B G sz v n cs) (hB:B' ≤B):mg B' G sz v n cs :=
  ⟨h.1,h.2.imp id fun ⟨b,op,h1,h2,h3⟩=>⟨b,op,h1,Nat.le_trans hB h2,h3⟩⟩
theorem mg.ext {B:Nat} {G G':GS} {sz n:Nat} {v:Value} {cs:List Value} (h:mg B G sz v n cs) (he:Ext G G'):mg B G' sz v n cs :=
  ⟨h.1,h.2.imp id fun ⟨b,op,h1,h2,h3,h4⟩=>⟨b,op,h1,h2,Nat.lt_of_lt_of_le h3 he.nx,(he.obj b h3).trans h4⟩⟩
theorem Yx {A G:GS} {fV ib:Nat} {s x:Value} {n m:Nat} {cs ds:List Value} (hi:fV≠0) (hb:ib≠0) (hA:Ext A G) (hs:mg A.nx G fV s n cs) (hx:mf G fV x m ds) (ho:ds.all one=true) (cm:(2*(n+m)+1000)*ib≤2 ^ 48) :
    ∃ v' G',j9 fV ib s x G=some (v',G')∧Ext A G' ∧mg A.nx G' fV v' (n+m) (cs++ds):=by
  have uY:=zg hx
  obtain ⟨a,c,rfl⟩:=hx.len
  unfold j9
  rw [if_neg (by omega)]
  simp only [uY,ho,Bool.not_true,Bool.false_eq_true,if_false]
  by_cases hm:m=0
  · subst hm
    have hd:ds=[]:=List.eq_nil_of_length_eq_zero (by simpa using hx.1)
    subst hd
    rcases hs.2 with ⟨rfl,rfl⟩ | ⟨b,op,rfl,h2,h3,h4⟩
    · exact ⟨.slice none 0 0,G,by simp,hA,by simpa using hs⟩
    · exact ⟨.slice (some ⟨b,0,none⟩) n n,G,by simp,hA,by simpa using hs⟩
  · have hlen:(cs++ds).length=(n+m)*fV:=by simp [hs.1,hx.1,Nat.add_mul]
    rcases hs.2 with ⟨rfl,rfl⟩ | ⟨b,op,rfl,h2,h3,h4⟩
    · have hc:cs=[]:=List.eq_nil_of_length_eq_zero (by simpa using hs.1)
      subst hc
      refine ⟨_,_,by simp only [hm,if_false]; rw [if_pos (by simpa using cm)],hA.push _,hlen,.inr ⟨G.nx,true,by simp,hA.nx,by simp,by simp⟩⟩
    · have hr:fC G b 0 (n*fV)=some cs:=by
        have:=zg hs.reads
        exact this
      have iy:b≠G.nx:=by omega
      simp only [hm,if_false,h4]
      rw [if_neg (by omega)]
      simp only [Nat.zero_add,hr,if_pos cm]
      have jW:n*fV=cs.length:=hs.1.symm
      cases op with
      | true =>
        simp only [jW,decide_true,Bool.and_self,if_true]
        exact ⟨_,_,rfl,(hA.put h2 _).push _,by rw [hlen],.inr ⟨G.nx,true,rfl,hA.nx,by simp,by simp⟩⟩
      | false =>
        simp only [Bool.false_and,Bool.false_eq_true,if_false]
        exact ⟨_,_,rfl,hA.push _,by rw [hlen],.inr ⟨G.nx,true,rfl,hA.nx,by simp,by simp⟩⟩
def Fit (G:GS) (sz:Nat) (v:Value):Prop:=∀ a n c,v= .slice (some a) n c→∀ ob,G.obj a.block=some ob→ob.opn=true→ob.esz=sz
end Go.Proofs.YtkhlabammcghbaaGreat.Gh
