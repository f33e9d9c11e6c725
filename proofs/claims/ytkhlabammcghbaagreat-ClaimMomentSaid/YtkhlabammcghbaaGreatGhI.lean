import Derived.Test.YtkhlabammcghbaaGreatGhH
namespace Go.Proofs.YtkhlabammcghbaaGreat.Gh
open Go
variable {P:Program} {M:Map}
theorem M7 {α:Type} (z:List α):∀ n,(rep z n).length=n*z.length
  | 0=>by simp [rep]
  | n+1=>by simp [rep,M7 z n,Nat.succ_mul]; omega
theorem M8 {α:Type} (z:List α):∀ (n i:Nat),i<n*z.length→(rep z n)[i]? =z[i % z.length]?
  | 0,i,h=>by simp at h
  | n+1,i,h=>by
    simp only [rep]
    rcases Nat.lt_or_ge i z.length with hi | hi
    · rw [List.getElem?_append_left hi,Nat.mod_eq_of_lt hi]
    · rw [List.getElem?_append_right hi,M8 z n (i - z.length) (by rw [Nat.succ_mul] at h; omega)]
      congr 1
      rw [Nat.mod_eq_sub_mod hi]
theorem Hm {z:List Value} (h:Vs M z z):∀ n,Vs M (rep z n) (rep z n)
  | 0=>trivial
  | n+1=>uQ h (Hm h n)
theorem M9 {zc:Array Value} (hz:zc.size≠0) (n:Nat):((Array.range (n*zc.size)).map fun i=>zc[i % zc.size]!).toList=rep zc.toList n:=by
  apply List.ext_getElem?
  intro i
  rcases Nat.lt_or_ge i (n*zc.size) with hi | hi
  · rw [M8 _ _ _ (by simpa using hi)]
    have hm:i % zc.size<zc.size:=Nat.mod_lt _ (Nat.pos_of_ne_zero hz)
    simp [hi,hm]
  · rw [List.getElem?_eq_none (by simpa using hi),List.getElem?_eq_none (by rw [M7]; simpa using hi)]
theorem Vn {G:GS} {w:World} {B:Nat} (hR:Rel G M w B) {cells:List Value} {c:Array Value} {e:TypeId} {esz:Nat} (hc:Vs M cells c.toList) :
    ∃ M',Rel (iU G cells esz) M' (w.alloc (.cells c e)) B∧cy G M w (iU G cells esz) M' (w.alloc (.cells c e)) ∧
      M'.mu G.nx=some ⟨w.heap.size,0,0,esz,false,cells.length⟩:=by
  obtain ⟨h1,h2,h3⟩:=hR.push (e:=e) (esz:=esz) (ex:=0) (opn:=false) (fun i v hv=>by simpa using (iH.1 hc).2 i v hv) (by have:=iG hc; simp at this; simp; omega)
  exact ⟨_,h1,h2,h3⟩
def DE (mk:Nat→Value):Prop:=(mk=fun n=>.pointer (some ⟨n,0,none⟩))∨∃ l c,l≤c∧mk=fun n=>.slice (some ⟨n,0,none⟩) l c
theorem DE.rel {mk:Nat→Value} (h:DE mk) {M':Map} {g b esz len:Nat} (hx:M'.mu g=some ⟨b,0,0,esz,false,len⟩):V M' (mk g) (mk b):=by
  rcases h with rfl | ⟨l,c,mX,rfl⟩
  · exact lU.2 ⟨_,hx,rfl⟩
  · exact gC.2 ⟨_,_,c,hx,rfl,mX,.inl rfl,fun _=>rfl⟩
theorem Na {G G':GS} {T:List Value} {a:Act} (hT:Vs M T a.tmps.toList) {o:Oper} {v:Value} (aV:dL o.op=true)
    (h:lQ P T o.op G=some (v,G')) :
    ∃ (cells:List Value) (esz:Nat) (mk:Nat→Value) (c:Array Value) (e:TypeId),DE mk∧v=mk G.nx∧G' =iU G cells esz∧Vs M cells c.toList ∧
      ∀ w,(execOp a.eval o).run P w= .ok (.value (mk w.heap.size)) (w.alloc (.cells c e)):=by
  obtain ⟨dst,op,ty,pos,after,guard⟩:=o
  cases op<;>simp only [lQ,dL,Bool.and_eq_true,reduceCtorEq] at h aV
  case alloc t =>
    split at h
    · rename_i z hz
      simp only [Option.some.injEq,Prod.mk.injEq] at h
      obtain ⟨rfl,rfl⟩:=h
      obtain ⟨i,zv,hi,Dx,rfl,uS,qv,sZ⟩:=AN (M:=M) hz
      exact ⟨_,1,_,_,t,.inl rfl,rfl,rfl,sZ,fun w=>by simp only [execOp,Instr.alloc,Sem.run_bind,qv,Result.andThen_ok,newVar,newRow,run_newObj,Sem.run_pure,World.alloc_eq]⟩
    · simp at h
  case box t x =>
    simp only [Option.some.injEq,Prod.mk.injEq] at h
    obtain ⟨rfl,rfl⟩:=h
    exact ⟨_,1,_,_,t,.inl rfl,rfl,rfl,GX (cV hT aV),fun w=>by simp only [execOp,Instr.box,Sem.run_bind,Result.andThen_ok,newVar,newRow,run_newObj,Sem.run_pure,World.alloc_eq]⟩
  case buildSlice t len parts =>
    split at h
    · rename_i e hu
      split at h
      · rename_i s z hs hz
        split at h
        · rename_i mY
          split at h
          · rename_i c hc
            simp only [Option.some.injEq,Prod.mk.injEq] at h
            obtain ⟨rfl,rfl⟩:=h
            obtain ⟨i,zv,hi,Dx,rfl,uS,qv,sZ⟩:=AN (M:=M) hz
            obtain ⟨i',bG,yC⟩:=MN hs
            have Hn:i' =i:=by rw [hi] at bG; exact (Option.some.inj bG).symm
            subst Hn
            have Nb:zv.cells.size=s:=by rw [uS,yC]
            have DF:Vs M (rep zv.cells.toList len) ((Array.range (len*s)).map fun j=>(if len*s=0 then #[] else zv.cells)[j % (if len*s=0 then #[] else zv.cells).size]!).toList:=by
              by_cases h0:len*s=0
              · have:len=0:=by rcases Nat.mul_eq_zero.1 h0 with h | h; exact h; exact absurd h mY.1
                subst this
                simp [rep,Vs,eT]
              · rw [if_neg h0]
                have:=M9 (zc:=zv.cells) (by rw [Nb]; exact mY.1) len
                rw [Nb] at this ⊢
                rw [this]; exact Hm sZ len
            obtain ⟨c',h4,h5⟩:=Dw (place':=fun i=>some (i*s,s)) (fun _ _ h=>h) hc DF (MU hT aV)
            refine ⟨_,s,_,_,e,.inr ⟨_,_,Nat.le_refl _,rfl⟩,rfl,rfl,h5,fun w=>?_⟩
            have hle:¬ (len*s>2 ^ 24):=by omega
            by_cases h0:len*s=0
            · rw [if_pos h0] at h4
              simp only [execOp,Instr.buildSlice,Sem.run_bind,cD hu,Result.andThen_ok,hQ hs,if_neg hle,if_pos h0,h4,newRow,run_newObj,Sem.run_pure,World.alloc_eq]
            · rw [if_neg h0] at h4
              simp only [execOp,Instr.buildSlice,Sem.run_bind,cD hu,Result.andThen_ok,hQ hs,if_neg hle,if_neg h0,qv,h4,newRow,run_newObj,Sem.run_pure,World.alloc_eq]
          · simp at h
        · simp at h
      · simp at h
    · simp at h
  case makeSlice t l c =>
    split at h
    · rename_i e kl l' kc c' hu hl hc
      split at h
      · rename_i i z hi hz
        split at h
        · rename_i mY
          simp only [Option.some.injEq,Prod.mk.injEq] at h
          obtain ⟨rfl,rfl⟩:=h
          obtain ⟨h0,mX,cm,hby,Nc,Nd⟩:=mY
          obtain ⟨i',zv,bG,Dx,rfl,uS,qv,sZ⟩:=AN (M:=M) hz
          have Hn:i' =i:=by rw [hi] at bG; exact (Option.some.inj bG).symm
          subst Hn
          have uY:=cV hT aV.1
          have Ng:=cV hT aV.2
          rw [hl] at uY; rw [hc] at Ng
          have Nh:=eG.1 uY
          have Ni:=eG.1 Ng
          have DF:Vs M (rep zv.cells.toList c'.toNat) ((Array.range (c'.toNat*i'.size)).map fun j=>(if c'.toNat*i'.size=0 then #[] else zv.cells)[j % (if c'.toNat*i'.size=0 then #[] else zv.cells).size]!).toList:=by
            by_cases h0:c'.toNat*i'.size=0
            · have:c'.toNat=0:=by rcases Nat.mul_eq_zero.1 h0 with h | h; exact h; exact absurd h cm
              rw [this]
              simp [rep,Vs,eT]
            · rw [if_neg h0]
              have:=M9 (zc:=zv.cells) (by rw [uS]; exact cm) c'.toNat
              rw [uS] at this ⊢
              rw [this]; exact Hm sZ _
          refine ⟨_,i'.size,_,_,e,.inr ⟨_,_,by omega,rfl⟩,rfl,rfl,DF,fun w=>?_⟩
          have htl:(decide (c' <0)||decide ((i'.bytes:Int)*c' >2 ^ 48))=false:=by simp; omega
          have DB:((decide (c' <0)||decide ((i'.bytes:Int)*c' >2 ^ 48)||decide (l' <0)||decide (l' >c'))=true)↔False:=by simp; omega
          have Nj:dJ P e=some i'.size:=by simp [dJ,hi]
          by_cases h0:c'.toNat*i'.size=0
          · simp only [execOp,Instr.makeSlice,Sem.run_bind,cD hu,Result.andThen_ok,Nh,Ni,asInt,asIntOf,Sem.run_pure,rO hi,Nc,Nd,DB,if_false,run_askRoom,hQ Nj,if_pos h0,newRow,run_newObj,World.alloc_eq]
          · simp only [execOp,Instr.makeSlice,Sem.run_bind,cD hu,Result.andThen_ok,Nh,Ni,asInt,asIntOf,Sem.run_pure,rO hi,Nc,Nd,DB,if_false,run_askRoom,hQ Nj,if_neg h0,qv,newRow,run_newObj,World.alloc_eq]
        · simp at h
      · simp at h
    · simp at h
theorem Vo {G G':GS} {w:World} {B:Nat} {T:List Value} {a:Act} (hR:Rel G M w B) (hT:Vs M T a.tmps.toList) {o:Oper} {v:Value} (aV:dL o.op=true)
    (h:lQ P T o.op G=some (v,G')) :
    ∃ u M' w',V M' v u∧(execOp a.eval o).run P w= .ok (.value u) w' ∧Rel G' M' w' B∧cy G M w G' M' w':=by
  obtain ⟨cells,esz,mk,c,e,nU,rfl,rfl,hc,gT⟩:=Na hT aV h
  obtain ⟨M',h1,h2,h3⟩:=Vn hR (e:=e) (esz:=esz) hc
  exact ⟨_,M',_,nU.rel h3,gT w,h1,h2⟩
def nV (c:Array Value) (k:Nat):List Value→Array Value
  | []=>c
  | u::us=>nV (c.setIfInBounds k u) (k+1) us
theorem AU:∀ (us:List Value) (c:Array Value) (k:Nat),(nV c k us).size=c.size
  | [],_,_=>rfl
  | u::us,c,k=>by simp [nV,AU us]
theorem DG:∀ (us:List Value) (c:Array Value) (k i:Nat),k+us.length≤c.size→(nV c k us)[i]? =if k≤i∧i<k+us.length then us[i - k]? else c[i]?
  | [],c,k,i,_=>by
    rw [if_neg (by simp only [List.length_nil]; omega)]; rfl
  | u::us,c,k,i,h=>by
    simp only [List.length_cons] at h
    simp only [nV]
    rw [DG us _ (k+1) i (by simp; omega)]
    by_cases hi:i=k
    · subst hi
      rw [if_neg (by omega),if_pos (by simp)]
      simp [show i<c.size by omega]
    · by_cases hc:k+1≤i∧i<k+1+us.length
      · rw [if_pos hc,if_pos (by simp only [List.length_cons]; omega)]
        have:i - k=(i - (k+1))+1:=by omega
        rw [this]; simp
      · rw [if_neg hc,if_neg (by simp only [List.length_cons]; omega),Array.getElem?_setIfInBounds_ne (Ne.symm hi)]
theorem heap_setCell {w:World} {b k:Nat} {c:Array Value} {e:TypeId} (h:w.heap[b]? =some (.cells c e (0,0))) (v:Value) :
    (w.setCell ⟨b,k,none⟩ v)={ w with heap:=w.heap.setIfInBounds b (.cells (c.setIfInBounds k v) e (0,0)) }:=by
  have aT:=(Array.getElem?_eq_some_iff.1 h).1
  have:(w.setCell ⟨b,k,none⟩ v).heap=w.heap.setIfInBounds b (.cells (c.setIfInBounds k v) e (0,0)):=by
    apply Array.ext_getElem?
    intro i
    simp only [World.setCell,Array.getElem?_modify]
    by_cases hi:b=i
    · subst hi
      rw [h]
      simp [aT]
    · simp [hi]
  simp only [World.setCell] at this ⊢
  rw [this]
theorem Ho {b off:Nat} {e:TypeId}:∀ (us:List Value) (i:Nat) (w:World) (c:Array Value),w.heap[b]? =some (.cells c e (0,0))→off+i+us.length≤c.size→us.all one=true →
    (storeCells ⟨b,off,none⟩ us i).run P w= .ok () { w with heap:=w.heap.setIfInBounds b (.cells (nV c (off+i) us) e (0,0)) }
  | [],i,w,c,h,_,_=>by
    have aT:=(Array.getElem?_eq_some_iff.1 h).1
    have:w.heap.setIfInBounds b (.cells c e (0,0))=w.heap:=by
      apply Array.ext_getElem?
      intro j
      by_cases hj:b=j
      · subst hj; simp [aT]; exact ((Array.getElem?_eq_some_iff.1 h).2).symm
      · rw [Array.getElem?_setIfInBounds_ne hj]
    simp only [storeCells,Sem.run_pure,nV,this]
  | u::us,i,w,c,h,hs,ho=>by
    simp only [List.all_cons,Bool.and_eq_true,List.length_cons] at ho hs
    have iZ:w.cell? ((⟨b,off,none⟩:Addr).add i)=some (c[off+i]'(by omega)):=by
      rw [qx]; simp [World.cell?,h]
    have Hp:w.frozen? ((⟨b,off,none⟩:Addr).add i)=false:=by
      rw [qx]; simp [World.frozen?,h]
    have cW:u.oneCell' =true:=by have:=ho.1; revert this; cases u<;>simp [one,Value.oneCell']
    have au:(store ((⟨b,off,none⟩:Addr).add i) u).run P w= .ok () { w with heap:=w.heap.setIfInBounds b (.cells (c.setIfInBounds (off+i) u) e (0,0)) }:=by
      rw [run_store P w _ u .plain cW,iZ]
      simp only [Hp,Bool.false_eq_true,if_false]
      rw [qx,heap_setCell h]
    have aT:=(Array.getElem?_eq_some_iff.1 h).1
    have ih:=Ho (b:=b) (off:=off) (e:=e) us (i+1) { w with heap:=w.heap.setIfInBounds b (.cells (c.setIfInBounds (off+i) u) e (0,0)) } (c.setIfInBounds (off+i) u) (by simp [aT]) (by simp; omega) ho.2
    simp only [storeCells,Sem.run_bind,au,Result.andThen_ok,ih,nV,Array.setIfInBounds_setIfInBounds,Nat.add_assoc]
end Go.Proofs.YtkhlabammcghbaaGreat.Gh
