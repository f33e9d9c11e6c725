import Derived.Test.YtkhlabammcghbaaGreatGhKO
namespace Go.Proofs.YtkhlabammcghbaaGreat.Gh
open Go
set_option linter.unusedVariables false
set_option linter.unusedSimpArgs false
section
variable (P:Program)
@[simp] theorem agS (t f off b o:Nat) (s:Option Nat):fa P true t f off (.pointer (some ⟨b,o,s⟩))=some (.pointer (some ⟨b,o+off,none⟩)):=Eq.trans rfl rfl
@[simp] theorem agT (t b o:Nat) (s:Option Nat) (G:GS):ld P true t (.pointer (some ⟨b,o,s⟩)) G=G.cell b o:=Qn b o G
@[simp] theorem agU (t sz b o:Nat) (s:Option Nat) (G:GS):de P true t sz (.pointer (some ⟨b,o,s⟩)) G=fO sz b o G:=Eq.trans rfl rfl
@[simp] theorem agV (t sz b o:Nat) (s:Option Nat) (v:Value) (G:GS):st P true t sz (.pointer (some ⟨b,o,s⟩)) v G=lq sz b o v G:=Qp sz b o v G
@[simp] theorem agW (t sz b o n c:Nat) (s:Option Nat) (k:IntKind) (j:Int):fW P true t sz (.slice (some ⟨b,o,s⟩) n c) (.int k j)=if 0≤j∧j<n then some (.pointer (some ⟨b,o+j.toNat*sz,none⟩)) else none:=by
  show eW j n _=_
  rw [xh]; simp only [tN]
@[simp] theorem agX (t n sz b o:Nat) (s:Option Nat) (k:IntKind) (j:Int):xi P true t n sz (.pointer (some ⟨b,o,s⟩)) (.int k j)=if 0≤j∧j<n then some (.pointer (some ⟨b,o+j.toNat*sz,none⟩)) else none:=by
  show eW j n _=_
  rw [xh]; simp only [tN]
@[simp] theorem agY (t:TypeId) (z:List Value) (pl:List (Nat×Nat×Nat)) (vs:List Value):bd P true t z pl vs=sa z (ly pl vs):=Eq.trans rfl rfl
@[simp] theorem agZ (p:Nat×Nat×Nat) (ps:List (Nat×Nat×Nat)) (v:Value) (vs:List Value):ly (p::ps) (v::vs)=(p.2.1,p.2.2,v)::ly ps vs:=Eq.trans rfl rfl
@[simp] theorem ag0 (vs:List Value):ly [] vs=[]:=Eq.trans rfl rfl
@[simp] theorem ag5 (t n:Nat) (z:List Value) (sz:Nat) (pl:List (Nat×Nat×Nat)) (vs:List Value) (G:GS):bs P true t n z sz pl vs G=pC z (ly pl vs) n sz G:=by
  unfold bs pC; simp only [cond_true,zi]; rfl
@[simp] theorem ag6 (t f off:Nat) (l:List Value):fd P true t f off (.agg ⟨l⟩)=l[off]?:=AF l off
@[simp] theorem ag7 (t f off sz:Nat) (l:List Value):zo P true t f off sz (.agg ⟨l⟩)=xj sz off l:=Eq.trans rfl rfl
@[simp] theorem ag8 (t:TypeId) (a:Option Addr) (n c:Nat):ln P true t (.slice a n c)=some (.int .i64 n):=by
  unfold ln; simp only [cond_true,tN]; rfl
@[simp] theorem ag9 (t n:Nat) (v:Value):BS P true t n v=some (.int .i64 (n:Nat)):=Eq.trans rfl rfl
@[simp] theorem aha (ts tx sz bt:Nat) (s x:Value) (G:GS):ap P true ts tx sz bt s x G=j9 sz bt s x G:=Eq.trans rfl rfl
@[simp] theorem ahb (td sz:Nat) (d s:Value) (G:GS):cp P true td sz d s G=IK sz d s G:=Eq.trans rfl rfl
@[simp] theorem ahc (t sz:Nat) (a:Option Addr) (n c:Nat) (lo hi mx:Option Value) (G:GS):sl P true t sz (.slice a n c) lo hi mx G=IJ sz (.slice a n c) lo hi mx G:=Eq.trans rfl rfl
@[simp] theorem ahd (t n sz:Nat) (a:Addr) (lo hi mx:Option Value) (G:GS):zp P true t n sz (.pointer (some a)) lo hi mx G=ze n sz (.pointer (some a)) lo hi mx:=Eq.trans rfl rfl
@[simp] theorem ahe (t:TypeId) (z:List Value) (G:GS):al P true t z G=some (.pointer (some ⟨G.nx,0,none⟩),G.push ⟨z,1,false,1⟩):=by
  unfold al; simp only [cond_true,zi]
@[simp] theorem ahf (v:Value) (G:GS):bx true v G=some (.pointer (some ⟨G.nx,0,none⟩),G.push ⟨v.cells.toList,1,false,1⟩):=by
  unfold bx; simp only [cond_true,zi]
@[simp] theorem ahg (t sz bt:Nat) (z:List Value) (k k':IntKind) (l c:Int) (G:GS):mk P true t sz bt z (.int k l) (.int k' c) G=qJ sz bt z l c G:=Eq.trans rfl rfl
@[simp] theorem ahh (s d:TypeId) (ks kd:IntKind) (n:Int):cv P true s d ks kd (.int ks n)=some (.int kd (kd.wrap n)):=by
  unfold cv; simp [BM,BK]
@[simp] theorem ahi (t:TypeId) (x:Value):vv P true t x=some (.iface t x):=Eq.trans rfl rfl
@[simp] theorem ahj (neg:Bool) (t:TypeId) (x y:Operand):ep P true neg t x y (.pointer none) (.pointer none)=some (.bool (!neg)):=Eq.trans rfl rfl
@[simp] theorem ahk (neg:Bool) (t:TypeId) (x y:Operand) (a:Addr):ep P true neg t x y (.pointer none) (.pointer (some a))=some (.bool neg):=Eq.trans rfl rfl
@[simp] theorem ahl (neg:Bool) (t:TypeId) (x y:Operand) (a:Addr):ep P true neg t x y (.pointer (some a)) (.pointer none)=some (.bool neg):=Eq.trans rfl rfl
@[simp] theorem ahm (neg:Bool) (t:TypeId) (x y:Operand):es P true neg t x y (.slice none 0 0) (.slice none 0 0)=some (.bool (!neg)):=Eq.trans rfl rfl
@[simp] theorem ahn (neg:Bool) (t:TypeId) (x y:Operand) (a:Addr) (n c:Nat):es P true neg t x y (.slice (some a) n c) (.slice none 0 0)=some (.bool neg):=Eq.trans rfl rfl
@[simp] theorem aho (neg:Bool) (t:TypeId) (x y:Operand):ef P true neg t x y .nilFunc .nilFunc=some (.bool (!neg)):=Eq.trans rfl rfl
@[simp] theorem ahp (neg:Bool) (t:TypeId) (x y:Operand) (f:Fn) (a b:Array Value):ef P true neg t x y (.func f a b) .nilFunc=some (.bool neg):=Eq.trans rfl rfl
@[simp] theorem ahq (neg:Bool) (t:TypeId) (x y:Operand) (a b:Bool):eb P true neg t x y (.bool a) (.bool b)=some (.bool (if neg then a != b else a==b)):=by cases neg<;>cases a<;>cases b<;>rfl
@[simp] theorem ahr (a:Addr):aR (.pointer (some a))=some (.pointer (some a)):=Eq.trans rfl rfl
@[simp] theorem ahs (f:FuncId) (a b:Array Value):aR (.func (.func f) a b)=some (.func (.func f) a b):=Eq.trans rfl rfl
@[simp] theorem aht (x:Value) (l:List Value):gW (.tuple ⟨x::l⟩) 0=some x:=Eq.trans rfl rfl
@[simp] theorem ahu (x y:Value) (l:List Value):gW (.tuple ⟨x::y::l⟩) 1=some y:=Eq.trans rfl rfl
@[simp] theorem ahv (x y z:Value) (l:List Value):gW (.tuple ⟨x::y::z::l⟩) 2=some z:=Eq.trans rfl rfl
@[simp] theorem ahw (x y z u:Value) (l:List Value):gW (.tuple ⟨x::y::z::u::l⟩) 3=some u:=Eq.trans rfl rfl
@[simp] theorem ahx (b:Bool) (x:Option (Value×GS)) (G:GS):gd undef b x G=some (undef,G):=by cases b<;>rfl
@[simp] theorem ahy (ae:FuncId→Bool):(bD P ae).ev=aD P ae:=Eq.trans rfl rfl
@[simp] theorem ahz {β:Type} (e:Ex) (f k:Nat) (c:Code) (N:Nat) (τ:Env) (G:GS) (K:Exit→Env→GS→Option β):bL true e f k c N τ G K=bE (e.dj f k τ G) K:=Eq.trans rfl rfl
@[simp] theorem ahA (τ:Env) (i j:Nat) (v:Value) (l:List (Nat×Value)):tu τ ((i,v)::l) j=if j=i then v else tu τ l j:=by
  show (bif Nat.beq j i then v else look l j (τ j))=_
  rw [BO]
  by_cases h:j=i<;>simp [h,tu]
@[simp] theorem ahB (τ:Env) (j:Nat):tu τ [] j=τ j:=Eq.trans rfl rfl
theorem aw (N:Nat) (τ:Env) (j:Nat):clip N τ j=if j<N then τ j else undef:=by
  unfold clip
  by_cases h:j<N
  · rw [Nat.ble_eq_true_of_le (by omega),if_pos h]; rfl
  · have:Nat.ble (Nat.succ j) N=false:=by
      cases hb:Nat.ble (Nat.succ j) N
      · rfl
      · exact absurd (Nat.le_of_ble_eq_true hb) h
    rw [this,if_neg h]; rfl
@[congr] theorem ahC {β:Type} {x y:Option (Exit×Env×GS)} (k:Exit→Env→GS→Option β) (h:x=y):bE x k=bE y k:=by rw [h]
theorem Wp.bE {β:Type} {x:Option (Exit×Env×GS)} {K:Exit→Env→GS→Option β} {Q:β→Prop} (h:Wp x fun r=>Wp (K r.1 r.2.1 r.2.2) Q):Wp (Gh.bE x K) Q:=by
  obtain ⟨⟨e,T,G⟩,rfl,h⟩:=h
  exact h
theorem Wp.ref {α:Type} {x y:Option α} {Q:α→Prop} (h:Ref x y) (w:Wp x Q):Wp y Q:=let ⟨a,ha,hq⟩:=w; ⟨a,h a ha,hq⟩
theorem Wp.lp {P:Program} {ae:FuncId→Bool} {f k:Nat} {c:Code} {N:Nat} [i:fx P f k c N] {F:(Env→GS→Option (Exit×Env×GS))→Env→GS→Option (Exit×Env×GS)}
    (hF:∀ lp,(∀ τ G,Ref (lp τ G) (bc ((aD P ae).lp c (aG N τ) G)))→∀ T G,T.length=N→Ref (F lp (nth undef T) G) (bc ((aD P ae).lp c T G))) {τ:Env} {G:GS} {Q:Exit×Env×GS→Prop}
    (w:Wp (F ((bD P ae).dj f k) (clip N τ) G) Q):Wp ((bD P ae).dj f k τ G) Q:=by
  have h:=hF ((bD P ae).dj f k) (fun τ G=>by
    show Ref (bc ((aD P ae).lp (iO P f k) (aG (jd P f) τ) G)) _
    rw [i.code,i.num]; exact .rfl' _) (aG N τ) G (zq N τ)
  rw [pE] at h
  refine Wp.ref ?_ w
  show Ref _ (bc ((aD P ae).lp (iO P f k) (aG (jd P f) τ) G))
  rw [i.code,i.num]; exact h
end
theorem pF {n b o:Nat} {G:GS} {cs:List Value} {e:Nat} {op:Bool} {m:Nat} (h:G.obj b=some ⟨cs,e,op,m⟩) (hm:m≠2) (hl:o+(n+1)≤cs.length):fO (n+1) b o G=some (.agg ⟨(cs.drop o).take (n+1)⟩):=by
  unfold fO
  rw [II _ _ _ _ (by omega)]
  unfold GS.BI
  rw [h]
  simp only [if_neg hm,if_pos hl]
theorem YX {n b:Nat} {G:GS} {cs ds:List Value} {e:Nat} {op:Bool} (h:G.obj b=some ⟨cs,e,op,1⟩) (hl:cs.length=n) (hd:ds.length=n) (ho:ds.all one=true):lq n b 0 (.agg ⟨ds⟩) G=some (G.put b ⟨ds,e,op,1⟩):=by
  unfold lq
  rw [if_pos (by simpa [Value.cells] using hd)]
  rw [Qb h rfl (by simpa [Value.cells] using ho) (by simp [Value.cells]; omega)]
  simp only [bK.over,gY,Value.cells,List.take_zero,List.nil_append,Nat.zero_add]
  rw [List.drop_of_length_le (by omega),List.append_nil]
theorem YY {b o:Nat} {G:GS} {cs:List Value} {e:Nat} {op:Bool} {m:Nat} (h:G.obj b=some ⟨cs,e,op,m⟩) (hm:m≠2):G.cell b o=cs[o]?:=cell_of h hm o
end Go.Proofs.YtkhlabammcghbaaGreat.Gh
