import Derived.Test.YtlaojmcekeohnaaGreatDoorGhH
namespace Go.Proofs.YtlaojmcekeohnaaGreatDoor.Gh
open Go
variable {P:Program} {M:Map}
theorem rep_length {α:Type} (z:List α):∀ n,(rep z n).length=n*z.length
  | 0=>by simp [rep]
  | n+1=>by simp [rep,rep_length z n,Nat.succ_mul]; omega
theorem rep_get {α:Type} (z:List α):∀ (n i:Nat),i<n*z.length→(rep z n)[i]? =z[i % z.length]?
  | 0,i,h=>by simp at h
  | n+1,i,h=>by
    simp only [rep]
    rcases Nat.lt_or_ge i z.length with hi | hi
    · rw [List.getElem?_append_left hi,Nat.mod_eq_of_lt hi]
    · rw [List.getElem?_append_right hi,rep_get z n (i - z.length) (by rw [Nat.succ_mul] at h; omega)]
      congr 1
      rw [Nat.mod_eq_sub_mod hi]
theorem rep_rel {z:List Value} (h:Vs M z z):∀ n,Vs M (rep z n) (rep z n)
  | 0=>trivial
  | n+1=>lrel_append h (rep_rel h n)
theorem rep_range {zc:Array Value} (hz:zc.size≠0) (n:Nat):((Array.range (n*zc.size)).map fun i=>zc[i % zc.size]!).toList=rep zc.toList n:=by
  apply List.ext_getElem?
  intro i
  rcases Nat.lt_or_ge i (n*zc.size) with hi | hi
  · rw [rep_get _ _ _ (by simpa using hi)]
    have hm:i % zc.size<zc.size:=Nat.mod_lt _ (Nat.pos_of_ne_zero hz)
    simp [hi,hm]
  · rw [List.getElem?_eq_none (by simpa using hi),List.getElem?_eq_none (by rw [rep_length]; simpa using hi)]
theorem newRel {G:GS} {w:World} {B:Nat} (hR:Rel G M w B) {cells:List Value} {c:Array Value} {e:TypeId} {esz:Nat} (hc:Vs M cells c.toList) :
    ∃ M',Rel (newBlk G cells esz) M' (w.alloc (.cells c e)) B∧Evo G M w (newBlk G cells esz) M' (w.alloc (.cells c e)) ∧
      M'.mu G.nx=some ⟨w.heap.size,0,0,esz,false,cells.length⟩:=by
  obtain ⟨h1,h2,h3⟩:=hR.push (e:=e) (esz:=esz) (ex:=0) (opn:=false) (fun i v hv=>by simpa using (lrel_iff.1 hc).2 i v hv) (by have:=lrel_length hc; simp at this; simp; omega)
  exact ⟨_,h1,h2,h3⟩
def MkOk (mk:Nat→Value):Prop:=(mk=fun n=> .pointer (some ⟨n,0,none⟩))∨∃ l c,l≤c∧mk=fun n=> .slice (some ⟨n,0,none⟩) l c
theorem MkOk.rel {mk:Nat→Value} (h:MkOk mk) {M' :Map} {g b esz len:Nat} (hx:M'.mu g=some ⟨b,0,0,esz,false,len⟩):V M' (mk g) (mk b):=by
  rcases h with rfl | ⟨l,c,hlc,rfl⟩
  · exact V_ptr.2 ⟨_,hx,rfl⟩
  · exact V_slice.2 ⟨_,_,c,hx,rfl,hlc,.inl rfl,fun _=>rfl⟩
theorem make_run {G G' :GS} {T:List Value} {a:Act} (hT:Vs M T a.tmps.toList) {o:Oper} {v:Value} (hok:opOk o.op=true)
    (h:gMake P T o.op G=some (v,G')) :
    ∃ (cells:List Value) (esz:Nat) (mk:Nat→Value) (c:Array Value) (e:TypeId),MkOk mk∧v=mk G.nx∧G' =newBlk G cells esz∧Vs M cells c.toList ∧
      ∀ w,(execOp a.eval o).run P w= .ok (.value (mk w.heap.size)) (w.alloc (.cells c e)):=by
  obtain ⟨dst,op,ty,pos,after,guard⟩:=o
  cases op<;>simp only [gMake,opOk,Bool.and_eq_true,reduceCtorEq] at h hok
  case alloc t =>
    split at h
    · rename_i z hz
      simp only [Option.some.injEq,Prod.mk.injEq] at h
      obtain ⟨rfl,rfl⟩:=h
      obtain ⟨i,zv,hi,hzv,rfl,hzs,hzr,hzz⟩:=zeroO_some (M:=M) hz
      exact ⟨_,1,_,_,t,.inl rfl,rfl,rfl,hzz,fun w=>by simp only [execOp,Instr.alloc,Sem.run_bind,hzr,Result.andThen_ok,newVar,newRow,run_newObj,Sem.run_pure,World.alloc_eq]⟩
    · simp at h
  case box t x =>
    simp only [Option.some.injEq,Prod.mk.injEq] at h
    obtain ⟨rfl,rfl⟩:=h
    exact ⟨_,1,_,_,t,.inl rfl,rfl,rfl,V_cells (ev_rel hT hok),fun w=>by simp only [execOp,Instr.box,Sem.run_bind,Result.andThen_ok,newVar,newRow,run_newObj,Sem.run_pure,World.alloc_eq]⟩
  case buildSlice t len parts =>
    split at h
    · rename_i e hu
      split at h
      · rename_i s z hs hz
        split at h
        · rename_i hcnd
          split at h
          · rename_i c hc
            simp only [Option.some.injEq,Prod.mk.injEq] at h
            obtain ⟨rfl,rfl⟩:=h
            obtain ⟨i,zv,hi,hzv,rfl,hzs,hzr,hzz⟩:=zeroO_some (M:=M) hz
            obtain ⟨i',hi',his⟩:=szO_some hs
            have hii:i' =i:=by rw [hi] at hi'; exact (Option.some.inj hi').symm
            subst hii
            have hzs' :zv.cells.size=s:=by rw [hzs,his]
            have hcells:Vs M (rep zv.cells.toList len) ((Array.range (len*s)).map fun j=>(if len*s=0 then #[] else zv.cells)[j % (if len*s=0 then #[] else zv.cells).size]!).toList:=by
              by_cases h0:len*s=0
              · have:len=0:=by rcases Nat.mul_eq_zero.1 h0 with h | h; exact h; exact absurd h hcnd.1
                subst this
                simp [rep,Vs,lrel]
              · rw [if_neg h0]
                have:=rep_range (zc:=zv.cells) (by rw [hzs']; exact hcnd.1) len
                rw [hzs'] at this ⊢
                rw [this]; exact rep_rel hzz len
            obtain ⟨c',h4,h5⟩:=fill_rel (place' :=fun i=>some (i*s,s)) (fun _ _ h=>h) hc hcells (parts_rel hT hok)
            refine ⟨_,s,_,_,e,.inr ⟨_,_,Nat.le_refl _,rfl⟩,rfl,rfl,h5,fun w=> ?_⟩
            have hle:¬ (len*s>2 ^ 24):=by omega
            by_cases h0:len*s=0
            · rw [if_pos h0] at h4
              simp only [execOp,Instr.buildSlice,Sem.run_bind,run_und hu,Result.andThen_ok,run_size hs,if_neg hle,if_pos h0,h4,newRow,run_newObj,Sem.run_pure,World.alloc_eq]
            · rw [if_neg h0] at h4
              simp only [execOp,Instr.buildSlice,Sem.run_bind,run_und hu,Result.andThen_ok,run_size hs,if_neg hle,if_neg h0,hzr,h4,newRow,run_newObj,Sem.run_pure,World.alloc_eq]
          · simp at h
        · simp at h
      · simp at h
    · simp at h
  case makeSlice t l c =>
    split at h
    · rename_i e kl l' kc c' hu hl hc
      split at h
      · rename_i i z hi hz
        split at h
        · rename_i hcnd
          simp only [Option.some.injEq,Prod.mk.injEq] at h
          obtain ⟨rfl,rfl⟩:=h
          obtain ⟨h0,hlc,hsz,hby,hwl,hwc⟩:=hcnd
          obtain ⟨i',zv,hi',hzv,rfl,hzs,hzr,hzz⟩:=zeroO_some (M:=M) hz
          have hii:i' =i:=by rw [hi] at hi'; exact (Option.some.inj hi').symm
          subst hii
          have hel:=ev_rel hT hok.1
          have hec:=ev_rel hT hok.2
          rw [hl] at hel; rw [hc] at hec
          have hel' :=V_int.1 hel
          have hec' :=V_int.1 hec
          have hcells:Vs M (rep zv.cells.toList c'.toNat) ((Array.range (c'.toNat*i'.size)).map fun j=>(if c'.toNat*i'.size=0 then #[] else zv.cells)[j % (if c'.toNat*i'.size=0 then #[] else zv.cells).size]!).toList:=by
            by_cases h0:c'.toNat*i'.size=0
            · have:c'.toNat=0:=by rcases Nat.mul_eq_zero.1 h0 with h | h; exact h; exact absurd h hsz
              rw [this]
              simp [rep,Vs,lrel]
            · rw [if_neg h0]
              have:=rep_range (zc:=zv.cells) (by rw [hzs]; exact hsz) c'.toNat
              rw [hzs] at this ⊢
              rw [this]; exact rep_rel hzz _
          refine ⟨_,i'.size,_,_,e,.inr ⟨_,_,by omega,rfl⟩,rfl,rfl,hcells,fun w=> ?_⟩
          have htl:(decide (c' <0)||decide ((i'.bytes:Int)*c' >2 ^ 48))=false:=by simp; omega
          have hcond:((decide (c' <0)||decide ((i'.bytes:Int)*c' >2 ^ 48)||decide (l' <0)||decide (l' >c'))=true)↔False:=by simp; omega
          have hsz' :szO P e=some i'.size:=by simp [szO,hi]
          by_cases h0:c'.toNat*i'.size=0
          · simp only [execOp,Instr.makeSlice,Sem.run_bind,run_und hu,Result.andThen_ok,hel',hec',asInt,asIntOf,Sem.run_pure,run_info hi,hwl,hwc,hcond,if_false,run_askRoom,run_size hsz',if_pos h0,newRow,run_newObj,World.alloc_eq]
          · simp only [execOp,Instr.makeSlice,Sem.run_bind,run_und hu,Result.andThen_ok,hel',hec',asInt,asIntOf,Sem.run_pure,run_info hi,hwl,hwc,hcond,if_false,run_askRoom,run_size hsz',if_neg h0,hzr,newRow,run_newObj,World.alloc_eq]
        · simp at h
      · simp at h
    · simp at h
theorem make_sim {G G' :GS} {w:World} {B:Nat} {T:List Value} {a:Act} (hR:Rel G M w B) (hT:Vs M T a.tmps.toList) {o:Oper} {v:Value} (hok:opOk o.op=true)
    (h:gMake P T o.op G=some (v,G')) :
    ∃ u M' w',V M' v u∧(execOp a.eval o).run P w= .ok (.value u) w' ∧Rel G' M' w' B∧Evo G M w G' M' w' :=by
  obtain ⟨cells,esz,mk,c,e,hmk,rfl,rfl,hc,hrun⟩:=make_run hT hok h
  obtain ⟨M',h1,h2,h3⟩:=newRel hR (e:=e) (esz:=esz) hc
  exact ⟨_,M',_,hmk.rel h3,hrun w,h1,h2⟩
def setMany (c:Array Value) (k:Nat):List Value→Array Value
  | []=>c
  | u::us=>setMany (c.setIfInBounds k u) (k+1) us
theorem setMany_size:∀ (us:List Value) (c:Array Value) (k:Nat),(setMany c k us).size=c.size
  | [],_,_=>rfl
  | u::us,c,k=>by simp [setMany,setMany_size us]
theorem setMany_get:∀ (us:List Value) (c:Array Value) (k i:Nat),k+us.length≤c.size→(setMany c k us)[i]? =if k≤i∧i<k+us.length then us[i - k]? else c[i]?
  | [],c,k,i,_=>by
    rw [if_neg (by simp only [List.length_nil]; omega)]; rfl
  | u::us,c,k,i,h=>by
    simp only [List.length_cons] at h
    simp only [setMany]
    rw [setMany_get us _ (k+1) i (by simp; omega)]
    by_cases hi:i=k
    · subst hi
      rw [if_neg (by omega),if_pos (by simp)]
      simp [show i<c.size by omega]
    · by_cases hc:k+1≤i∧i<k+1+us.length
      · rw [if_pos hc,if_pos (by simp only [List.length_cons]; omega)]
        have:i - k=(i - (k+1))+1:=by omega
        rw [this]; simp
      · rw [if_neg hc,if_neg (by simp only [List.length_cons]; omega),Array.getElem?_setIfInBounds_ne (Ne.symm hi)]
theorem heap_setCell {w:World} {b k:Nat} {c:Array Value} {e:TypeId} (h:w.heap[b]? =some (.cells c e (0,0))) (v:Value) :
    (w.setCell ⟨b,k,none⟩ v)={ w with heap:=w.heap.setIfInBounds b (.cells (c.setIfInBounds k v) e (0,0)) }:=by
  have hlt:=(Array.getElem?_eq_some_iff.1 h).1
  have:(w.setCell ⟨b,k,none⟩ v).heap=w.heap.setIfInBounds b (.cells (c.setIfInBounds k v) e (0,0)):=by
    apply Array.ext_getElem?
    intro i
    simp only [World.setCell,Array.getElem?_modify]
    by_cases hi:b=i
    · subst hi
      rw [h]
      simp [hlt]
    · simp [hi]
  simp only [World.setCell] at this ⊢
  rw [this]
theorem run_storeMany {b off:Nat} {e:TypeId}:∀ (us:List Value) (i:Nat) (w:World) (c:Array Value),w.heap[b]? =some (.cells c e (0,0))→off+i+us.length≤c.size→us.all one=true →
    (storeCells ⟨b,off,none⟩ us i).run P w= .ok () { w with heap:=w.heap.setIfInBounds b (.cells (setMany c (off+i) us) e (0,0)) }
  | [],i,w,c,h,_,_=>by
    have hlt:=(Array.getElem?_eq_some_iff.1 h).1
    have:w.heap.setIfInBounds b (.cells c e (0,0))=w.heap:=by
      apply Array.ext_getElem?
      intro j
      by_cases hj:b=j
      · subst hj; simp [hlt]; exact ((Array.getElem?_eq_some_iff.1 h).2).symm
      · rw [Array.getElem?_setIfInBounds_ne hj]
    simp only [storeCells,Sem.run_pure,setMany,this]
  | u::us,i,w,c,h,hs,ho=>by
    simp only [List.all_cons,Bool.and_eq_true,List.length_cons] at ho hs
    have hcell:w.cell? ((⟨b,off,none⟩:Addr).add i)=some (c[off+i]'(by omega)):=by
      rw [addr_add]; simp [World.cell?,h]
    have hfr:w.frozen? ((⟨b,off,none⟩:Addr).add i)=false:=by
      rw [addr_add]; simp [World.frozen?,h]
    have ho' :u.oneCell' =true:=by have:=ho.1; revert this; cases u<;>simp [one,Value.oneCell']
    have hst:(store ((⟨b,off,none⟩:Addr).add i) u).run P w= .ok () { w with heap:=w.heap.setIfInBounds b (.cells (c.setIfInBounds (off+i) u) e (0,0)) }:=by
      rw [run_store P w _ u .plain ho',hcell]
      simp only [hfr,Bool.false_eq_true,if_false]
      rw [addr_add,heap_setCell h]
    have hlt:=(Array.getElem?_eq_some_iff.1 h).1
    have ih:=run_storeMany (b:=b) (off:=off) (e:=e) us (i+1) { w with heap:=w.heap.setIfInBounds b (.cells (c.setIfInBounds (off+i) u) e (0,0)) } (c.setIfInBounds (off+i) u) (by simp [hlt]) (by simp; omega) ho.2
    simp only [storeCells,Sem.run_bind,hst,Result.andThen_ok,ih,setMany,Array.setIfInBounds_setIfInBounds,Nat.add_assoc]
end Go.Proofs.YtlaojmcekeohnaaGreatDoor.Gh
