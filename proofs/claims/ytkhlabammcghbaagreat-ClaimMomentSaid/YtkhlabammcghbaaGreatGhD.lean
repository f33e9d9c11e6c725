import Derived.Test.YtkhlabammcghbaaGreatGhC
namespace Go.Proofs.YtkhlabammcghbaaGreat.Gh
open Go
variable {P:Program} {M:Map}
theorem cD {t:TypeId} {d:TypeDesc} (h:P.underlying t=some d) (w:World):(underlying t).run P w= .ok d w:=by
  simp [underlying,h]
theorem rO {t:TypeId} {i:TypeInfo} (h:P.info? t=some i) (w:World):(typeInfo t).run P w= .ok i w:=by
  simp [typeInfo,h]
theorem MN {t:TypeId} {s:Nat} (h:dJ P t=some s):∃ i,P.info? t=some i∧i.size=s:=by
  unfold dJ at h
  split at h
  · rename_i i hi; exact ⟨i,hi,by simpa using h⟩
  · simp at h
theorem hQ {t:TypeId} {s:Nat} (h:dJ P t=some s) (w:World):(sizeOf t).run P w= .ok s w:=by
  obtain ⟨i,hi,rfl⟩:=MN h
  simp [sizeOf,rO hi]
theorem Dv {t:TypeId} {b:Bool} (h:Az P t=some b) (w:World):(isAgg t).run P w= .ok b w:=by
  unfold Az at h
  split at h<;>simp only [Option.some.injEq,reduceCtorEq] at h<;>subst h<;>rename_i hu
  · simp [isAgg,cD hu]
  · simp [isAgg,cD hu]
  · rename_i hs ha
    simp only [isAgg,Sem.run_bind,cD hu,Result.andThen_ok]
    first
      | rfl
      | (split
         · exact absurd hu (hs _)
         · exact absurd hu (ha _ _)
         · rfl)
theorem wv {s:Sem Value} {v:Value} (h:kR P s=some v):V M v v∧∀ w,s.run P w= .ok v w:=by
  unfold kR at h
  cases hp:prun P s with
  | none=>simp [hp] at h
  | some x =>
    simp only [hp] at h
    split at h
    · rename_i hx
      simp at h; subst h
      exact ⟨Du hx,fun w=>GK P s _ hp w⟩
    · simp at h
theorem UY {op:BinOp} {k k':IntKind} {m n:Int} {v:Value} (h:yq op k m n=some v) (hk:k=k' ∨op= .shl∨op= .shr) (t:TypeId) (w:World) :
    (binOp op t (.int k m) (.int k' n)).run P w= .ok v w:=by
  cases op<;>simp only [yq] at h
  case shl =>
    split at h
    · simp at h
    · rename_i hn
      simp only [Option.some.injEq] at h; subst h
      simp [binOp,Op.shift,hn]
  case shr =>
    split at h
    · simp at h
    · rename_i hn
      simp only [Option.some.injEq] at h; subst h
      simp [binOp,Op.shift,hn]
  case quo =>
    split at h
    · simp at h
    · rename_i hn
      simp only [Option.some.injEq] at h; subst h
      obtain rfl:k=k':=by simpa using hk
      simp [binOp,Op.intDiv,hn]
  case rem =>
    split at h
    · simp at h
    · rename_i hn
      simp only [Option.some.injEq] at h; subst h
      obtain rfl:k=k':=by simpa using hk
      simp [binOp,Op.intDiv,hn]
  all_goals
    simp only [Option.some.injEq] at h; subst h
    obtain rfl:k=k':=by simpa using hk
    simp [binOp,Op.intArith,Op.intBits,Op.intCmp]
theorem UZ {op:BinOp} {k:IntKind} {m n:Int} {v:Value} (h:yq op k m n=some v):V M v v:=by
  cases op<;>simp only [yq] at h<;>(try split at h)<;>simp only [Option.some.injEq,reduceCtorEq] at h<;>subst h<;>first | exact eG.2 rfl | exact iX.2 rfl
theorem MO {t:TypeId} {a b a' b':Value} {r:Bool} (h:Dj P t a b=some r) (ha:V M a a') (hb:V M b b') (w:World) :
    (∀ d,(Op.equalIn (d+1) t a' b').run P w= .ok r w)∧(∀ op x y,(eqGuard op t x y a' b').run P w= .ok () w) ∧
    (binOp .eql t a' b' =(do pure (.bool (← Op.equal t a' b'))))∧(binOp .neq t a' b' =(do pure (.bool (!(← Op.equal t a' b'))))):=by
  unfold Dj at h
  split at h<;>simp only [Option.some.injEq,reduceCtorEq] at h<;>subst h<;>rename_i hu
  · obtain ⟨x,_,rfl⟩:=lU.1 ha
    rw [yx.1 hb]
    refine ⟨fun d=>by simp [Op.equalIn,cD hu],fun op x y=>?_,rfl,rfl⟩
    unfold eqGuard; split<;>rfl
  · obtain ⟨x,_,rfl⟩:=lU.1 hb
    rw [yx.1 ha]
    refine ⟨fun d=>by simp [Op.equalIn,cD hu],fun op x y=>?_,rfl,rfl⟩
    unfold eqGuard; split<;>rfl
  · obtain ⟨x,c,cr,_,rfl,_⟩:=gC.1 ha
    obtain ⟨_,_,rfl⟩:=jx.1 hb
    refine ⟨fun d=>by simp [Op.equalIn,cD hu],fun op x y=>?_,rfl,rfl⟩
    unfold eqGuard; split<;>rfl
  · obtain ⟨x,c,cr,_,rfl,_⟩:=gC.1 hb
    obtain ⟨_,_,rfl⟩:=jx.1 ha
    refine ⟨fun d=>by simp [Op.equalIn,cD hu],fun op x y=>?_,rfl,rfl⟩
    unfold eqGuard; split<;>rfl
  · obtain ⟨f',a',b',rfl,_⟩:=kT.1 ha
    rw [yy.1 hb]
    refine ⟨fun d=>by simp [Op.equalIn,cD hu],fun op x y=>?_,rfl,rfl⟩
    unfold eqGuard; split<;>rfl
  · obtain ⟨f',a',b',rfl,_⟩:=kT.1 hb
    rw [yy.1 ha]
    refine ⟨fun d=>by simp [Op.equalIn,cD hu],fun op x y=>?_,rfl,rfl⟩
    unfold eqGuard; split<;>rfl
  · obtain ⟨f',rfl,_⟩:=pd.1 ha
    rw [uR.1 hb]
    refine ⟨fun d=>by simp [Op.equalIn,cD hu],fun op x y=>?_,rfl,rfl⟩
    unfold eqGuard; split<;>rfl
  · obtain ⟨f',rfl,_⟩:=pd.1 hb
    rw [uR.1 ha]
    refine ⟨fun d=>by simp [Op.equalIn,cD hu],fun op x y=>?_,rfl,rfl⟩
    unfold eqGuard; split<;>rfl
theorem U0 {op:BinOp} {t:TypeId} {x y:Operand} {a b a' b' v:Value} (h:uJ P op t x y a b=some v) (ha:V M a a') (hb:V M b b') :
    ∃ u,V M v u∧∀ w,(do eqGuard op t x y a' b'; binOp op t a' b').run P w= .ok u w:=by
  unfold uJ at h
  split at h
  · rename_i hp
    simp only [Bool.and_eq_true] at hp
    rw [sX hp.1 ha,sX hp.2 hb]
    exact ⟨v,(wv (M:=M) h).1,(wv (M:=M) h).2⟩
  · split at h
    · split at h
      · rename_i r hr
        simp only [Option.some.injEq] at h; subst h
        refine ⟨_,iX.2 rfl,fun w=>?_⟩
        obtain ⟨h1,h2,h3,_⟩:=MO hr ha hb w
        have ft:(Op.equal t a' b').run P w= .ok r w:=h1 9999
        simp only [Sem.run_bind,h2,Result.andThen_ok,h3,ft,Sem.run_pure]
      · simp at h
    · split at h
      · rename_i r hr
        simp only [Option.some.injEq] at h; subst h
        refine ⟨_,iX.2 rfl,fun w=>?_⟩
        obtain ⟨h1,h2,_,h3⟩:=MO hr ha hb w
        have ft:(Op.equal t a' b').run P w= .ok r w:=h1 9999
        simp only [Sem.run_bind,h2,Result.andThen_ok,h3,ft,Sem.run_pure]
      · simp at h
    · simp at h
theorem U1 {op:BinOp} {t:TypeId} {x y:Operand} {a b a' b' v:Value} (h:wh P op t x y a b=some v) (ha:V M a a') (hb:V M b b') :
    ∃ u,V M v u∧∀ w,(do eqGuard op t x y a' b'; binOp op t a' b').run P w= .ok u w:=by
  unfold wh at h
  split at h
  · rename_i k m k' n
    split at h
    · rename_i hk
      obtain rfl:=eG.1 ha
      obtain rfl:=eG.1 hb
      refine ⟨v,UZ h,fun w=>?_⟩
      have iI:k=k' ∨op= .shl∨op= .shr:=by
        simp only [Bool.or_eq_true,decide_eq_true_eq] at hk
        rcases hk with hk | hk
        · exact .inl hk
        · cases op<;>simp [wg] at hk<;>simp
      have hg:(eqGuard op t x y (.int k m) (.int k' n)).run P w= .ok () w:=by
        unfold eqGuard; split<;>rfl
      simp only [Sem.run_bind,hg,Result.andThen_ok,UY h iI t w]
    · simp at h
  · exact U0 h ha hb
theorem MP {l l':List Value} (h:Vs M l l') {i:Nat} {v:Value} (hv:mQ l i=some v):∃ u,l'[i]? =some u∧V M v u:=by
  rw [AF] at hv
  exact (iH.1 h).2 i v hv
theorem U2 {l l' r:List Value} (h:Vs M l l') {n:Nat} (hr:takeN n l=some r):Vs M r (l'.take n)∧n≤l'.length∧r.length=n:=by
  obtain ⟨rfl,hn⟩:=GR hr
  exact ⟨MH n h,by rw [← iG h]; exact hn,by simp; omega⟩
theorem MQ {t:TypeId} {cs dM:Array Value} {off:Nat} {v:Value} (h:Dk P t cs.toList off=some v) (hc:Vs M cs.toList dM.toList) :
    ∃ u,V M v u∧∀ w,(part t dM off).run P w= .ok u w:=by
  unfold Dk at h
  split at h
  · rename_i sY
    split at h
    · rename_i s hs
      split at h
      · rename_i l hl
        simp only [Option.some.injEq] at h; subst h
        rw [yu] at hl
        obtain ⟨h1,h2,_⟩:=U2 (MI off hc) hl
        refine ⟨.agg (dM.extract off (off+s)),rM.2 ⟨_,rfl,?_⟩,fun w=>?_⟩
        · simpa [List.extract_eq_take_drop] using h1
        · simp [part,Dv sY,hQ hs]
      · simp at h
    · simp at h
  · rename_i sY
    obtain ⟨u,hu,hv⟩:=MP hc h
    refine ⟨u,hv,fun w=>?_⟩
    have wx:dM[off]? =some u:=by simpa using hu
    simp [part,Dv sY,wx]
  · simp at h
end Go.Proofs.YtkhlabammcghbaaGreat.Gh
