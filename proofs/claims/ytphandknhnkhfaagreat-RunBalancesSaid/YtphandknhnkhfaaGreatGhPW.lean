import Derived.Test.YtphandknhnkhfaaGreatGhKO
namespace Go.Proofs.YtphandknhnkhfaaGreat.Gh
open Go
set_option linter.unusedVariables false
set_option linter.unusedSimpArgs false
section
variable (P:Program)
@[simp] theorem afV (t f off b o:Nat) (s:Option Nat):fa P true t f off (.pointer (some ⟨b,o,s⟩))=some (.pointer (some ⟨b,o+off,none⟩)):=Eq.trans rfl rfl
@[simp] theorem afW (t b o:Nat) (s:Option Nat) (G:GS):ld P true t (.pointer (some ⟨b,o,s⟩)) G=G.cell b o:=OX b o G
@[simp] theorem afX (t sz b o:Nat) (s:Option Nat) (G:GS):fV P true t sz (.pointer (some ⟨b,o,s⟩)) G=eI sz b o G:=Eq.trans rfl rfl
@[simp] theorem afY (t sz b o:Nat) (s:Option Nat) (v:Value) (G:GS):st P true t sz (.pointer (some ⟨b,o,s⟩)) v G=jY sz b o v G:=OZ sz b o v G
@[simp] theorem afZ (t sz b o n c:Nat) (s:Option Nat) (k:IntKind) (j:Int):lK P true t sz (.slice (some ⟨b,o,s⟩) n c) (.int k j)=if 0≤j∧j<n then some (.pointer (some ⟨b,o+j.toNat*sz,none⟩)) else none:=by
  show fm j n _=_
  rw [wT]; simp only [tM]
@[simp] theorem af0 (t n sz b o:Nat) (s:Option Nat) (k:IntKind) (j:Int):yK P true t n sz (.pointer (some ⟨b,o,s⟩)) (.int k j)=if 0≤j∧j<n then some (.pointer (some ⟨b,o+j.toNat*sz,none⟩)) else none:=by
  show fm j n _=_
  rw [wT]; simp only [tM]
@[simp] theorem af1 (t:TypeId) (z:List Value) (pl:List (Nat×Nat×Nat)) (vs:List Value):bd P true t z pl vs=rQ z (lL pl vs):=Eq.trans rfl rfl
@[simp] theorem af2 (p:Nat×Nat×Nat) (ps:List (Nat×Nat×Nat)) (v:Value) (vs:List Value):lL (p::ps) (v::vs)=(p.2.1,p.2.2,v)::lL ps vs:=Eq.trans rfl rfl
@[simp] theorem af3 (vs:List Value):lL [] vs=[]:=Eq.trans rfl rfl
@[simp] theorem af4 (t n:Nat) (z:List Value) (sz:Nat) (pl:List (Nat×Nat×Nat)) (vs:List Value) (G:GS):bs P true t n z sz pl vs G=pv z (lL pl vs) n sz G:=by
  unfold bs pv; simp only [cond_true,yI]; rfl
@[simp] theorem af5 (t f off:Nat) (l:List Value):fd P true t f off (.agg ⟨l⟩)=l[off]?:=Ab l off
@[simp] theorem af6 (t f off sz:Nat) (l:List Value):yN P true t f off sz (.agg ⟨l⟩)=wV sz off l:=Eq.trans rfl rfl
@[simp] theorem af7 (t:TypeId) (a:Option Addr) (n c:Nat):ln P true t (.slice a n c)=some (.int .i64 n):=by
  unfold ln; simp only [cond_true,tM]; rfl
@[simp] theorem af8 (t n:Nat) (v:Value):Bj P true t n v=some (.int .i64 (n:Nat)):=Eq.trans rfl rfl
@[simp] theorem af9 (ts tx sz bt:Nat) (s x:Value) (G:GS):ap P true ts tx sz bt s x G=oz sz bt s x G:=Eq.trans rfl rfl
@[simp] theorem aga (td sz:Nat) (d s:Value) (G:GS):cp P true td sz d s G=HJ sz d s G:=Eq.trans rfl rfl
@[simp] theorem agb (t sz:Nat) (a:Option Addr) (n c:Nat) (lo hi mx:Option Value) (G:GS):sl P true t sz (.slice a n c) lo hi mx G=jo sz (.slice a n c) lo hi mx G:=Eq.trans rfl rfl
@[simp] theorem agc (t n sz:Nat) (a:Addr) (lo hi mx:Option Value) (G:GS):yP P true t n sz (.pointer (some a)) lo hi mx G=yF n sz (.pointer (some a)) lo hi mx:=Eq.trans rfl rfl
@[simp] theorem agd (t:TypeId) (z:List Value) (G:GS):al P true t z G=some (.pointer (some ⟨G.nx,0,none⟩),G.push ⟨z,1,false,1⟩):=by
  unfold al; simp only [cond_true,yI]
@[simp] theorem age (v:Value) (G:GS):bx true v G=some (.pointer (some ⟨G.nx,0,none⟩),G.push ⟨v.cells.toList,1,false,1⟩):=by
  unfold bx; simp only [cond_true,yI]
@[simp] theorem agf (t sz bt:Nat) (z:List Value) (k k':IntKind) (l c:Int) (G:GS):mk P true t sz bt z (.int k l) (.int k' c) G=wR sz bt z l c G:=Eq.trans rfl rfl
@[simp] theorem agh (s d:TypeId) (ks kd:IntKind) (n:Int):cv P true s d ks kd (.int ks n)=some (.int kd (kd.wrap n)):=by
  unfold cv; simp [Bf,Bd]
@[simp] theorem agi (t:TypeId) (x:Value):vi P true t x=some (.iface t x):=Eq.trans rfl rfl
@[simp] theorem agj (neg:Bool) (t:TypeId) (x y:Operand):ep P true neg t x y (.pointer none) (.pointer none)=some (.bool (!neg)):=Eq.trans rfl rfl
@[simp] theorem agk (neg:Bool) (t:TypeId) (x y:Operand) (a:Addr):ep P true neg t x y (.pointer none) (.pointer (some a))=some (.bool neg):=Eq.trans rfl rfl
@[simp] theorem agl (neg:Bool) (t:TypeId) (x y:Operand) (a:Addr):ep P true neg t x y (.pointer (some a)) (.pointer none)=some (.bool neg):=Eq.trans rfl rfl
@[simp] theorem agm (neg:Bool) (t:TypeId) (x y:Operand):es P true neg t x y (.slice none 0 0) (.slice none 0 0)=some (.bool (!neg)):=Eq.trans rfl rfl
@[simp] theorem agn (neg:Bool) (t:TypeId) (x y:Operand) (a:Addr) (n c:Nat):es P true neg t x y (.slice (some a) n c) (.slice none 0 0)=some (.bool neg):=Eq.trans rfl rfl
@[simp] theorem ago (neg:Bool) (t:TypeId) (x y:Operand):ef P true neg t x y .nilFunc .nilFunc=some (.bool (!neg)):=Eq.trans rfl rfl
@[simp] theorem agp (neg:Bool) (t:TypeId) (x y:Operand) (f:Fn) (a b:Array Value):ef P true neg t x y (.func f a b) .nilFunc=some (.bool neg):=Eq.trans rfl rfl
@[simp] theorem agq (neg:Bool) (t:TypeId) (x y:Operand) (a b:Bool):eb P true neg t x y (.bool a) (.bool b)=some (.bool (if neg then a != b else a==b)):=by cases neg<;>cases a<;>cases b<;>rfl
@[simp] theorem ags (a:Addr):cg (.pointer (some a))=some (.pointer (some a)):=Eq.trans rfl rfl
@[simp] theorem agt (f:FuncId) (a b:Array Value):cg (.func (.func f) a b)=some (.func (.func f) a b):=Eq.trans rfl rfl
@[simp] theorem agu (x:Value) (l:List Value):lF (.tuple ⟨x::l⟩) 0=some x:=Eq.trans rfl rfl
@[simp] theorem agv (x y:Value) (l:List Value):lF (.tuple ⟨x::y::l⟩) 1=some y:=Eq.trans rfl rfl
@[simp] theorem agw (x y z:Value) (l:List Value):lF (.tuple ⟨x::y::z::l⟩) 2=some z:=Eq.trans rfl rfl
@[simp] theorem agx (x y z u:Value) (l:List Value):lF (.tuple ⟨x::y::z::u::l⟩) 3=some u:=Eq.trans rfl rfl
@[simp] theorem agy (b:Bool) (x:Option (Value×GS)) (G:GS):gd undef b x G=some (undef,G):=by cases b<;>rfl
@[simp] theorem agz (ae:FuncId→Bool):(bA P ae).ev=aC P ae:=Eq.trans rfl rfl
@[simp] theorem agA {β:Type} (e:Ex) (f k:Nat) (c:Code) (N:Nat) (τ:Env) (G:GS) (K:Exit→Env→GS→Option β):bL true e f k c N τ G K=bE (e.du f k τ G) K:=Eq.trans rfl rfl
@[simp] theorem agB (τ:Env) (i j:Nat) (v:Value) (l:List (Nat×Value)):tu τ ((i,v)::l) j=if j=i then v else tu τ l j:=by
  show (bif Nat.beq j i then v else look l j (τ j))=_
  rw [Bh]
  by_cases h:j=i<;>simp [h,tu]
@[simp] theorem agC (τ:Env) (j:Nat):tu τ [] j=τ j:=Eq.trans rfl rfl
theorem ao (N:Nat) (τ:Env) (j:Nat):clip N τ j=if j<N then τ j else undef:=by
  unfold clip
  by_cases h:j<N
  · rw [Nat.ble_eq_true_of_le (by omega),if_pos h]; rfl
  · have:Nat.ble (Nat.succ j) N=false:=by
      cases hb:Nat.ble (Nat.succ j) N
      · rfl
      · exact absurd (Nat.le_of_ble_eq_true hb) h
    rw [this,if_neg h]; rfl
@[congr] theorem agD {β:Type} {x y:Option (Exit×Env×GS)} (k:Exit→Env→GS→Option β) (h:x=y):bE x k=bE y k:=by rw [h]
theorem Wp.bE {β:Type} {x:Option (Exit×Env×GS)} {K:Exit→Env→GS→Option β} {Q:β→Prop} (h:Wp x fun r=>Wp (K r.1 r.2.1 r.2.2) Q):Wp (Gh.bE x K) Q:=by
  obtain ⟨⟨e,T,G⟩,rfl,h⟩:=h
  exact h
theorem Wp.ref {α:Type} {x y:Option α} {Q:α→Prop} (h:Ref x y) (w:Wp x Q):Wp y Q:=let ⟨a,ha,hq⟩:=w; ⟨a,h a ha,hq⟩
theorem Wp.lp {P:Program} {ae:FuncId→Bool} {f k:Nat} {c:Code} {N:Nat} [i:fM P f k c N] {F:(Env→GS→Option (Exit×Env×GS))→Env→GS→Option (Exit×Env×GS)}
    (hF:∀ lp,(∀ τ G,Ref (lp τ G) (bZ ((aC P ae).lp c (aN N τ) G)))→∀ T G,T.length=N→Ref (F lp (nth undef T) G) (bZ ((aC P ae).lp c T G))) {τ:Env} {G:GS} {Q:Exit×Env×GS→Prop}
    (w:Wp (F ((bA P ae).du f k) (clip N τ) G) Q):Wp ((bA P ae).du f k τ G) Q:=by
  have h:=hF ((bA P ae).du f k) (fun τ G=>by
    show Ref (bZ ((aC P ae).lp (my P f k) (aN (nh P f) τ) G)) _
    rw [i.code,i.num]; exact .rfl' _) (aN N τ) G (DR N τ)
  rw [vo] at h
  refine Wp.ref ?_ w
  show Ref _ (bZ ((aC P ae).lp (my P f k) (aN (nh P f) τ) G))
  rw [i.code,i.num]; exact h
end
theorem mC {n b o:Nat} {G:GS} {cs:List Value} {e:Nat} {op:Bool} {m:Nat} (h:G.obj b=some ⟨cs,e,op,m⟩) (hm:m≠2) (hl:o+(n+1)≤cs.length):eI (n+1) b o G=some (.agg ⟨(cs.drop o).take (n+1)⟩):=by
  unfold eI
  rw [HG _ _ _ _ (by omega)]
  unfold GS.Bc
  rw [h]
  simp only [if_neg hm,if_pos hl]
theorem XR {n b:Nat} {G:GS} {cs ds:List Value} {e:Nat} {op:Bool} (h:G.obj b=some ⟨cs,e,op,1⟩) (hl:cs.length=n) (hd:ds.length=n) (ho:ds.all one=true):jY n b 0 (.agg ⟨ds⟩) G=some (G.put b ⟨ds,e,op,1⟩):=by
  unfold jY
  rw [if_pos (by simpa [Value.cells] using hd)]
  rw [HI h rfl (by simpa [Value.cells] using ho) (by simp [Value.cells]; omega)]
  simp only [aR.over,jZ,Value.cells,List.take_zero,List.nil_append,Nat.zero_add]
  rw [List.drop_of_length_le (by omega),List.append_nil]
theorem XS {b o:Nat} {G:GS} {cs:List Value} {e:Nat} {op:Bool} {m:Nat} (h:G.obj b=some ⟨cs,e,op,m⟩) (hm:m≠2):G.cell b o=cs[o]?:=cell_of h hm o
end Go.Proofs.YtphandknhnkhfaaGreat.Gh
