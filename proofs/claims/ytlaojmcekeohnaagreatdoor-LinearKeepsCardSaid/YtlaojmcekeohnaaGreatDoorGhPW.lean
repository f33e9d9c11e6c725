import Derived.Test.YtlaojmcekeohnaaGreatDoorGhKO
namespace Go.Proofs.YtlaojmcekeohnaaGreatDoor.Gh
open Go
set_option linter.unusedVariables false
set_option linter.unusedSimpArgs false
section
variable (P:Program)
@[simp] theorem fa_t (t f off b o:Nat) (s:Option Nat):fa P true t f off (.pointer (some ⟨b,o,s⟩))=some (.pointer (some ⟨b,o+off,none⟩)):=Eq.trans rfl rfl
@[simp] theorem ld_t (t b o:Nat) (s:Option Nat) (G:GS):ld P true t (.pointer (some ⟨b,o,s⟩)) G=G.cell b o:=lcK_eq b o G
@[simp] theorem lda_t (t sz b o:Nat) (s:Option Nat) (G:GS):lda P true t sz (.pointer (some ⟨b,o,s⟩)) G=loadA sz b o G:=Eq.trans rfl rfl
@[simp] theorem st_t (t sz b o:Nat) (s:Option Nat) (v:Value) (G:GS):st P true t sz (.pointer (some ⟨b,o,s⟩)) v G=storeN sz b o v G:=stK_eq sz b o v G
@[simp] theorem ias_t (t sz b o n c:Nat) (s:Option Nat) (k:IntKind) (j:Int):ias P true t sz (.slice (some ⟨b,o,s⟩) n c) (.int k j)=if 0≤j∧j<n then some (.pointer (some ⟨b,o+j.toNat*sz,none⟩)) else none:=by
  show inn j n _=_
  rw [inn_eq]; simp only [fN_eq]
@[simp] theorem iaa_t (t n sz b o:Nat) (s:Option Nat) (k:IntKind) (j:Int):iaa P true t n sz (.pointer (some ⟨b,o,s⟩)) (.int k j)=if 0≤j∧j<n then some (.pointer (some ⟨b,o+j.toNat*sz,none⟩)) else none:=by
  show inn j n _=_
  rw [inn_eq]; simp only [fN_eq]
@[simp] theorem bd_t (t:TypeId) (z:List Value) (pl:List (Nat×Nat×Nat)) (vs:List Value):bd P true t z pl vs=fillL z (zipF pl vs):=Eq.trans rfl rfl
@[simp] theorem zipF_cons (p:Nat×Nat×Nat) (ps:List (Nat×Nat×Nat)) (v:Value) (vs:List Value):zipF (p::ps) (v::vs)=(p.2.1,p.2.2,v)::zipF ps vs:=Eq.trans rfl rfl
@[simp] theorem zipF_nil (vs:List Value):zipF [] vs=[]:=Eq.trans rfl rfl
@[simp] theorem bs_t (t n:Nat) (z:List Value) (sz:Nat) (pl:List (Nat×Nat×Nat)) (vs:List Value) (G:GS):bs P true t n z sz pl vs G=fillS z (zipF pl vs) n sz G:=by
  unfold bs fillS; simp only [cond_true,psh_eq]; rfl
@[simp] theorem fd_t (t f off:Nat) (l:List Value):fd P true t f off (.agg ⟨l⟩)=l[off]? :=getN_eq l off
@[simp] theorem fda_t (t f off sz:Nat) (l:List Value):fda P true t f off sz (.agg ⟨l⟩)=tkA sz off l:=Eq.trans rfl rfl
@[simp] theorem ln_t (t:TypeId) (a:Option Addr) (n c:Nat):ln P true t (.slice a n c)=some (.int .i64 n):=by
  unfold ln; simp only [cond_true,fN_eq]; rfl
@[simp] theorem lna_t (t n:Nat) (v:Value):lna P true t n v=some (.int .i64 (n:Nat)):=Eq.trans rfl rfl
@[simp] theorem ap_t (ts tx sz bt:Nat) (s x:Value) (G:GS):ap P true ts tx sz bt s x G=appK sz bt s x G:=Eq.trans rfl rfl
@[simp] theorem cp_t (td sz:Nat) (d s:Value) (G:GS):cp P true td sz d s G=cpK sz d s G:=Eq.trans rfl rfl
@[simp] theorem sl_t (t sz:Nat) (a:Option Addr) (n c:Nat) (lo hi mx:Option Value) (G:GS):sl P true t sz (.slice a n c) lo hi mx G=slK sz (.slice a n c) lo hi mx G:=Eq.trans rfl rfl
@[simp] theorem sla_t (t n sz:Nat) (a:Addr) (lo hi mx:Option Value) (G:GS):sla P true t n sz (.pointer (some a)) lo hi mx G=slA n sz (.pointer (some a)) lo hi mx:=Eq.trans rfl rfl
@[simp] theorem al_t (t:TypeId) (z:List Value) (G:GS):al P true t z G=some (.pointer (some ⟨G.nx,0,none⟩),G.push ⟨z,1,false,1⟩):=by
  unfold al; simp only [cond_true,psh_eq]
@[simp] theorem bx_t (v:Value) (G:GS):bx true v G=some (.pointer (some ⟨G.nx,0,none⟩),G.push ⟨v.cells.toList,1,false,1⟩):=by
  unfold bx; simp only [cond_true,psh_eq]
@[simp] theorem mk_t (t sz bt:Nat) (z:List Value) (k k' :IntKind) (l c:Int) (G:GS):mk P true t sz bt z (.int k l) (.int k' c) G=mkK sz bt z l c G:=Eq.trans rfl rfl
@[simp] theorem cv_t (s d:TypeId) (ks kd:IntKind) (n:Int):cv P true s d ks kd (.int ks n)=some (.int kd (kd.wrap n)):=by
  unfold cv; simp [ik_eq,int'_eq]
@[simp] theorem ifc_t (t:TypeId) (x:Value):ifc P true t x=some (.iface t x):=Eq.trans rfl rfl
@[simp] theorem ep_nn (neg:Bool) (t:TypeId) (x y:Operand):ep P true neg t x y (.pointer none) (.pointer none)=some (.bool (!neg)):=Eq.trans rfl rfl
@[simp] theorem ep_ns (neg:Bool) (t:TypeId) (x y:Operand) (a:Addr):ep P true neg t x y (.pointer none) (.pointer (some a))=some (.bool neg):=Eq.trans rfl rfl
@[simp] theorem ep_sn (neg:Bool) (t:TypeId) (x y:Operand) (a:Addr):ep P true neg t x y (.pointer (some a)) (.pointer none)=some (.bool neg):=Eq.trans rfl rfl
@[simp] theorem es_nn (neg:Bool) (t:TypeId) (x y:Operand):es P true neg t x y (.slice none 0 0) (.slice none 0 0)=some (.bool (!neg)):=Eq.trans rfl rfl
@[simp] theorem es_sn (neg:Bool) (t:TypeId) (x y:Operand) (a:Addr) (n c:Nat):es P true neg t x y (.slice (some a) n c) (.slice none 0 0)=some (.bool neg):=Eq.trans rfl rfl
@[simp] theorem ef_nn (neg:Bool) (t:TypeId) (x y:Operand):ef P true neg t x y .nilFunc .nilFunc=some (.bool (!neg)):=Eq.trans rfl rfl
@[simp] theorem ef_sn (neg:Bool) (t:TypeId) (x y:Operand) (f:Fn) (a b:Array Value):ef P true neg t x y (.func f a b) .nilFunc=some (.bool neg):=Eq.trans rfl rfl
@[simp] theorem eb_t (neg:Bool) (t:TypeId) (x y:Operand) (a b:Bool):eb P true neg t x y (.bool a) (.bool b)=some (.bool (if neg then a != b else a==b)):=by cases neg<;>cases a<;>cases b<;>rfl
@[simp] theorem nil_ptr (a:Addr):pNil (.pointer (some a))=some (.pointer (some a)):=Eq.trans rfl rfl
@[simp] theorem nil_fn (f:FuncId) (a b:Array Value):pNil (.func (.func f) a b)=some (.func (.func f) a b):=Eq.trans rfl rfl
@[simp] theorem ext_0 (x:Value) (l:List Value):pExtract (.tuple ⟨x::l⟩) 0=some x:=Eq.trans rfl rfl
@[simp] theorem ext_1 (x y:Value) (l:List Value):pExtract (.tuple ⟨x::y::l⟩) 1=some y:=Eq.trans rfl rfl
@[simp] theorem ext_2 (x y z:Value) (l:List Value):pExtract (.tuple ⟨x::y::z::l⟩) 2=some z:=Eq.trans rfl rfl
@[simp] theorem ext_3 (x y z u:Value) (l:List Value):pExtract (.tuple ⟨x::y::z::u::l⟩) 3=some u:=Eq.trans rfl rfl
@[simp] theorem gd_un' (b:Bool) (x:Option (Value×GS)) (G:GS):gd undef b x G=some (undef,G):=by cases b<;>rfl
@[simp] theorem exL_ev (orc:FuncId→Bool):(exL P orc).ev=evL P orc:=Eq.trans rfl rfl
@[simp] theorem bL_t {β:Type} (e:Ex) (f k:Nat) (c:Code) (N:Nat) (τ:Env) (G:GS) (K:Exit→Env→GS→Option β):bL true e f k c N τ G K=bE (e.lpx f k τ G) K:=Eq.trans rfl rfl
@[simp] theorem tu_cons (τ:Env) (i j:Nat) (v:Value) (l:List (Nat×Value)):tu τ ((i,v)::l) j=if j=i then v else tu τ l j:=by
  show (bif Nat.beq j i then v else look l j (τ j))=_
  rw [beq_dec]
  by_cases h:j=i<;>simp [h,tu]
@[simp] theorem tu_nil (τ:Env) (j:Nat):tu τ [] j=τ j:=Eq.trans rfl rfl
theorem clip_t (N:Nat) (τ:Env) (j:Nat):clip N τ j=if j<N then τ j else undef:=by
  unfold clip
  by_cases h:j<N
  · rw [Nat.ble_eq_true_of_le (by omega),if_pos h]; rfl
  · have:Nat.ble (Nat.succ j) N=false:=by
      cases hb:Nat.ble (Nat.succ j) N
      · rfl
      · exact absurd (Nat.le_of_ble_eq_true hb) h
    rw [this,if_neg h]; rfl
@[congr] theorem bE_congr {β:Type} {x y:Option (Exit×Env×GS)} (k:Exit→Env→GS→Option β) (h:x=y):bE x k=bE y k:=by rw [h]
theorem Wp.bE {β:Type} {x:Option (Exit×Env×GS)} {K:Exit→Env→GS→Option β} {Q:β→Prop} (h:Wp x fun r=>Wp (K r.1 r.2.1 r.2.2) Q):Wp (Gh.bE x K) Q:=by
  obtain ⟨⟨e,T,G⟩,rfl,h⟩:=h
  exact h
theorem Wp.ref {α:Type} {x y:Option α} {Q:α→Prop} (h:Ref x y) (w:Wp x Q):Wp y Q:=let ⟨a,ha,hq⟩:=w; ⟨a,h a ha,hq⟩
theorem Wp.lp {P:Program} {orc:FuncId→Bool} {f k:Nat} {c:Code} {N:Nat} [i:LpIs P f k c N] {F:(Env→GS→Option (Exit×Env×GS))→Env→GS→Option (Exit×Env×GS)}
    (hF:∀ lp,(∀ τ G,Ref (lp τ G) (mapE ((evL P orc).lp c (lst N τ) G)))→∀ T G,T.length=N→Ref (F lp (nth undef T) G) (mapE ((evL P orc).lp c T G))) {τ:Env} {G:GS} {Q:Exit×Env×GS→Prop}
    (w:Wp (F ((exL P orc).lpx f k) (clip N τ) G) Q):Wp ((exL P orc).lpx f k τ G) Q:=by
  have h:=hF ((exL P orc).lpx f k) (fun τ G=>by
    show Ref (mapE ((evL P orc).lp (codeAt P f k) (lst (nOf P f) τ) G)) _
    rw [i.code,i.num]; exact .rfl' _) (lst N τ) G (length_lst N τ)
  rw [nth_lst] at h
  refine Wp.ref ?_ w
  show Ref _ (mapE ((evL P orc).lp (codeAt P f k) (lst (nOf P f) τ) G))
  rw [i.code,i.num]; exact h
end
theorem loadA_cells {n b o:Nat} {G:GS} {cs:List Value} {e:Nat} {op:Bool} {m:Nat} (h:G.obj b=some ⟨cs,e,op,m⟩) (hm:m≠2) (hl:o+(n+1)≤cs.length):loadA (n+1) b o G=some (.agg ⟨(cs.drop o).take (n+1)⟩):=by
  unfold loadA
  rw [rdN_eq _ _ _ _ (by omega)]
  unfold GS.cellsAt
  rw [h]
  simp only [if_neg hm,if_pos hl]
theorem loadA_whole {n b:Nat} {G:GS} {cs:List Value} {e:Nat} {op:Bool} {m:Nat} (h:G.obj b=some ⟨cs,e,op,m⟩) (hm:m≠2) (hl:cs.length=n+1):loadA (n+1) b 0 G=some (.agg ⟨cs⟩):=by
  rw [loadA_cells h hm (by omega),List.drop_zero,List.take_of_length_le (by omega)]
theorem storeN_whole {n b:Nat} {G:GS} {cs ds:List Value} {e:Nat} {op:Bool} (h:G.obj b=some ⟨cs,e,op,1⟩) (hl:cs.length=n) (hd:ds.length=n) (ho:ds.all one=true):storeN n b 0 (.agg ⟨ds⟩) G=some (G.put b ⟨ds,e,op,1⟩):=by
  unfold storeN
  rw [if_pos (by simpa [Value.cells] using hd)]
  rw [wrN_of h rfl (by simpa [Value.cells] using ho) (by simp [Value.cells]; omega)]
  simp only [GObj.over,overw,Value.cells,List.take_zero,List.nil_append,Nat.zero_add]
  rw [List.drop_of_length_le (by omega),List.append_nil]
theorem cell_at' {b o:Nat} {G:GS} {cs:List Value} {e:Nat} {op:Bool} {m:Nat} (h:G.obj b=some ⟨cs,e,op,m⟩) (hm:m≠2):G.cell b o=cs[o]? :=cell_of h hm o
end Go.Proofs.YtlaojmcekeohnaaGreatDoor.Gh
