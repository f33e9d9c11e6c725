import Derived.Test.YtphandknhnkhfaaGreatGhC
namespace Go.Proofs.YtphandknhnkhfaaGreat.Gh
open Go
variable {P:Program} {M:Map}
theorem cM {t:TypeId} {d:TypeDesc} (h:P.underlying t=some d) (w:World):(underlying t).run P w= .ok d w:=by
  simp [underlying,h]
theorem ry {t:TypeId} {i:TypeInfo} (h:P.info? t=some i) (w:World):(typeInfo t).run P w= .ok i w:=by
  simp [typeInfo,h]
theorem Li {t:TypeId} {s:Nat} (h:dN P t=some s):∃ i,P.info? t=some i∧i.size=s:=by
  unfold dN at h
  split at h
  · rename_i i hi; exact ⟨i,hi,by simpa using h⟩
  · simp at h
theorem ia {t:TypeId} {s:Nat} (h:dN P t=some s) (w:World):(sizeOf t).run P w= .ok s w:=by
  obtain ⟨i,hi,rfl⟩:=Li h
  simp [sizeOf,ry hi]
theorem CH {t:TypeId} {b:Bool} (h:z7 P t=some b) (w:World):(isAgg t).run P w= .ok b w:=by
  unfold z7 at h
  split at h<;>simp only [Option.some.injEq,reduceCtorEq] at h<;>subst h<;>rename_i hu
  · simp [isAgg,cM hu]
  · simp [isAgg,cM hu]
  · rename_i hs ha
    simp only [isAgg,Sem.run_bind,cM hu,Result.andThen_ok]
    first
      | rfl
      | (split
         · exact absurd hu (hs _)
         · exact absurd hu (ha _ _)
         · rfl)
theorem vW {s:Sem Value} {v:Value} (h:mO P s=some v):V M v v∧∀ w,s.run P w= .ok v w:=by
  unfold mO at h
  cases hp:prun P s with
  | none=>simp [hp] at h
  | some x =>
    simp only [hp] at h
    split at h
    · rename_i hx
      simp at h; subst h
      exact ⟨CG hx,fun w=>Fw P s _ hp w⟩
    · simp at h
theorem TP {op:BinOp} {k k':IntKind} {m n:Int} {v:Value} (h:z8 op k m n=some v) (hk:k=k' ∨op= .shl∨op= .shr) (t:TypeId) (w:World) :
    (binOp op t (.int k m) (.int k' n)).run P w= .ok v w:=by
  cases op<;>simp only [z8] at h
  case shl =>
    split at h
    · simp at h
    · rename_i hn
      simp only [Option.some.injEq] at h; subst h
      simp [binOp,Op.shift,hn]
  case shr =>
    split at h
    · simp at h
    · rename_i hn
      simp only [Option.some.injEq] at h; subst h
      simp [binOp,Op.shift,hn]
  case quo =>
    split at h
    · simp at h
    · rename_i hn
      simp only [Option.some.injEq] at h; subst h
      obtain rfl:k=k':=by simpa using hk
      simp [binOp,Op.intDiv,hn]
  case rem =>
    split at h
    · simp at h
    · rename_i hn
      simp only [Option.some.injEq] at h; subst h
      obtain rfl:k=k':=by simpa using hk
      simp [binOp,Op.intDiv,hn]
  all_goals
    simp only [Option.some.injEq] at h; subst h
    obtain rfl:k=k':=by simpa using hk
    simp [binOp,Op.intArith,Op.intBits,Op.intCmp]
theorem TQ {op:BinOp} {k:IntKind} {m n:Int} {v:Value} (h:z8 op k m n=some v):V M v v:=by
  cases op<;>simp only [z8] at h<;>(try split at h)<;>simp only [Option.some.injEq,reduceCtorEq] at h<;>subst h<;>first | exact eM.2 rfl | exact ji.2 rfl
theorem Lj {t:TypeId} {a b a' b':Value} {r:Bool} (h:Cu P t a b=some r) (ha:V M a a') (hb:V M b b') (w:World) :
    (∀ d,(Op.equalIn (d+1) t a' b').run P w= .ok r w)∧(∀ op x y,(eqGuard op t x y a' b').run P w= .ok () w) ∧
    (binOp .eql t a' b' =(do pure (.bool (← Op.equal t a' b'))))∧(binOp .neq t a' b' =(do pure (.bool (!(← Op.equal t a' b'))))):=by
  unfold Cu at h
  split at h<;>simp only [Option.some.injEq,reduceCtorEq] at h<;>subst h<;>rename_i hu
  · obtain ⟨x,_,rfl⟩:=mc.1 ha
    rw [xZ.1 hb]
    refine ⟨fun d=>by simp [Op.equalIn,cM hu],fun op x y=>?_,rfl,rfl⟩
    unfold eqGuard; split<;>rfl
  · obtain ⟨x,_,rfl⟩:=mc.1 hb
    rw [xZ.1 ha]
    refine ⟨fun d=>by simp [Op.equalIn,cM hu],fun op x y=>?_,rfl,rfl⟩
    unfold eqGuard; split<;>rfl
  · obtain ⟨x,c,cr,_,rfl,_⟩:=gN.1 ha
    obtain ⟨_,_,rfl⟩:=jN.1 hb
    refine ⟨fun d=>by simp [Op.equalIn,cM hu],fun op x y=>?_,rfl,rfl⟩
    unfold eqGuard; split<;>rfl
  · obtain ⟨x,c,cr,_,rfl,_⟩:=gN.1 hb
    obtain ⟨_,_,rfl⟩:=jN.1 ha
    refine ⟨fun d=>by simp [Op.equalIn,cM hu],fun op x y=>?_,rfl,rfl⟩
    unfold eqGuard; split<;>rfl
  · obtain ⟨f',a',b',rfl,_⟩:=lj.1 ha
    rw [ya.1 hb]
    refine ⟨fun d=>by simp [Op.equalIn,cM hu],fun op x y=>?_,rfl,rfl⟩
    unfold eqGuard; split<;>rfl
  · obtain ⟨f',a',b',rfl,_⟩:=lj.1 hb
    rw [ya.1 ha]
    refine ⟨fun d=>by simp [Op.equalIn,cM hu],fun op x y=>?_,rfl,rfl⟩
    unfold eqGuard; split<;>rfl
  · obtain ⟨f',rfl,_⟩:=oZ.1 ha
    rw [uF.1 hb]
    refine ⟨fun d=>by simp [Op.equalIn,cM hu],fun op x y=>?_,rfl,rfl⟩
    unfold eqGuard; split<;>rfl
  · obtain ⟨f',rfl,_⟩:=oZ.1 hb
    rw [uF.1 ha]
    refine ⟨fun d=>by simp [Op.equalIn,cM hu],fun op x y=>?_,rfl,rfl⟩
    unfold eqGuard; split<;>rfl
theorem TR {op:BinOp} {t:TypeId} {x y:Operand} {a b a' b' v:Value} (h:Cv P op t x y a b=some v) (ha:V M a a') (hb:V M b b') :
    ∃ u,V M v u∧∀ w,(do eqGuard op t x y a' b'; binOp op t a' b').run P w= .ok u w:=by
  unfold Cv at h
  split at h
  · rename_i hp
    simp only [Bool.and_eq_true] at hp
    rw [sN hp.1 ha,sN hp.2 hb]
    exact ⟨v,(vW (M:=M) h).1,(vW (M:=M) h).2⟩
  · split at h
    · split at h
      · rename_i r hr
        simp only [Option.some.injEq] at h; subst h
        refine ⟨_,ji.2 rfl,fun w=>?_⟩
        obtain ⟨h1,h2,h3,_⟩:=Lj hr ha hb w
        have eN:(Op.equal t a' b').run P w= .ok r w:=h1 9999
        simp only [Sem.run_bind,h2,Result.andThen_ok,h3,eN,Sem.run_pure]
      · simp at h
    · split at h
      · rename_i r hr
        simp only [Option.some.injEq] at h; subst h
        refine ⟨_,ji.2 rfl,fun w=>?_⟩
        obtain ⟨h1,h2,_,h3⟩:=Lj hr ha hb w
        have eN:(Op.equal t a' b').run P w= .ok r w:=h1 9999
        simp only [Sem.run_bind,h2,Result.andThen_ok,h3,eN,Sem.run_pure]
      · simp at h
    · simp at h
theorem TS {op:BinOp} {t:TypeId} {x y:Operand} {a b a' b' v:Value} (h:Fy P op t x y a b=some v) (ha:V M a a') (hb:V M b b') :
    ∃ u,V M v u∧∀ w,(do eqGuard op t x y a' b'; binOp op t a' b').run P w= .ok u w:=by
  unfold Fy at h
  split at h
  · rename_i k m k' n
    split at h
    · rename_i hk
      obtain rfl:=eM.1 ha
      obtain rfl:=eM.1 hb
      refine ⟨v,TQ h,fun w=>?_⟩
      have me:k=k' ∨op= .shl∨op= .shr:=by
        simp only [Bool.or_eq_true,decide_eq_true_eq] at hk
        rcases hk with hk | hk
        · exact .inl hk
        · cases op<;>simp [vQ] at hk<;>simp
      have hg:(eqGuard op t x y (.int k m) (.int k' n)).run P w= .ok () w:=by
        unfold eqGuard; split<;>rfl
      simp only [Sem.run_bind,hg,Result.andThen_ok,TP h me t w]
    · simp at h
  · exact TR h ha hb
theorem Lk {l l':List Value} (h:Vs M l l') {i:Nat} {v:Value} (hv:mP l i=some v):∃ u,l'[i]? =some u∧V M v u:=by
  rw [Ab] at hv
  exact (iR.1 h).2 i v hv
theorem TT {l l' r:List Value} (h:Vs M l l') {n:Nat} (hr:takeN n l=some r):Vs M r (l'.take n)∧n≤l'.length∧r.length=n:=by
  obtain ⟨rfl,hn⟩:=FE hr
  exact ⟨Lc n h,by rw [← iQ h]; exact hn,by simp; omega⟩
theorem Ll {t:TypeId} {cs dX:Array Value} {off:Nat} {v:Value} (h:Cw P t cs.toList off=some v) (hc:Vs M cs.toList dX.toList) :
    ∃ u,V M v u∧∀ w,(part t dX off).run P w= .ok u w:=by
  unfold Cw at h
  split at h
  · rename_i sO
    split at h
    · rename_i s hs
      split at h
      · rename_i l hl
        simp only [Option.some.injEq] at h; subst h
        rw [xW] at hl
        obtain ⟨h1,h2,_⟩:=TT (Ld off hc) hl
        refine ⟨.agg (dX.extract off (off+s)),ru.2 ⟨_,rfl,?_⟩,fun w=>?_⟩
        · simpa [List.extract_eq_take_drop] using h1
        · simp [part,CH sO,ia hs]
      · simp at h
    · simp at h
  · rename_i sO
    obtain ⟨u,hu,hv⟩:=Lk hc h
    refine ⟨u,hv,fun w=>?_⟩
    have vX:dX[off]? =some u:=by simpa using hu
    simp [part,CH sO,vX]
  · simp at h
end Go.Proofs.YtphandknhnkhfaaGreat.Gh
