import Derived.Test.YtlaojmcekeohnaaGreatDoorGhC
namespace Go.Proofs.YtlaojmcekeohnaaGreatDoor.Gh
open Go
variable {P:Program} {M:Map}
theorem run_und {t:TypeId} {d:TypeDesc} (h:P.underlying t=some d) (w:World):(underlying t).run P w= .ok d w:=by
  simp [underlying,h]
theorem run_info {t:TypeId} {i:TypeInfo} (h:P.info? t=some i) (w:World):(typeInfo t).run P w= .ok i w:=by
  simp [typeInfo,h]
theorem szO_some {t:TypeId} {s:Nat} (h:szO P t=some s):∃ i,P.info? t=some i∧i.size=s:=by
  unfold szO at h
  split at h
  · rename_i i hi; exact ⟨i,hi,by simpa using h⟩
  · simp at h
theorem run_size {t:TypeId} {s:Nat} (h:szO P t=some s) (w:World):(sizeOf t).run P w= .ok s w:=by
  obtain ⟨i,hi,rfl⟩:=szO_some h
  simp [sizeOf,run_info hi]
theorem run_agg {t:TypeId} {b:Bool} (h:aggO P t=some b) (w:World):(isAgg t).run P w= .ok b w:=by
  unfold aggO at h
  split at h<;>simp only [Option.some.injEq,reduceCtorEq] at h<;>subst h<;>rename_i hu
  · simp [isAgg,run_und hu]
  · simp [isAgg,run_und hu]
  · rename_i hs ha
    simp only [isAgg,Sem.run_bind,run_und hu,Result.andThen_ok]
    first
      | rfl
      | (split
         · exact absurd hu (hs _)
         · exact absurd hu (ha _ _)
         · rfl)
theorem prunP_run {s:Sem Value} {v:Value} (h:prunP P s=some v):V M v v∧∀ w,s.run P w= .ok v w:=by
  unfold prunP at h
  cases hp:prun P s with
  | none=>simp [hp] at h
  | some x =>
    simp only [hp] at h
    split at h
    · rename_i hx
      simp at h; subst h
      exact ⟨plain_rel hx,fun w=>prun_run P s _ hp w⟩
    · simp at h
theorem gInt_run {op:BinOp} {k k' :IntKind} {m n:Int} {v:Value} (h:gInt op k m n=some v) (hk:k=k' ∨op= .shl∨op= .shr) (t:TypeId) (w:World) :
    (binOp op t (.int k m) (.int k' n)).run P w= .ok v w:=by
  cases op<;>simp only [gInt] at h
  case shl =>
    split at h
    · simp at h
    · rename_i hn
      simp only [Option.some.injEq] at h; subst h
      simp [binOp,Op.shift,hn]
  case shr =>
    split at h
    · simp at h
    · rename_i hn
      simp only [Option.some.injEq] at h; subst h
      simp [binOp,Op.shift,hn]
  case quo =>
    split at h
    · simp at h
    · rename_i hn
      simp only [Option.some.injEq] at h; subst h
      obtain rfl:k=k' :=by simpa using hk
      simp [binOp,Op.intDiv,hn]
  case rem =>
    split at h
    · simp at h
    · rename_i hn
      simp only [Option.some.injEq] at h; subst h
      obtain rfl:k=k' :=by simpa using hk
      simp [binOp,Op.intDiv,hn]
  all_goals
    simp only [Option.some.injEq] at h; subst h
    obtain rfl:k=k' :=by simpa using hk
    simp [binOp,Op.intArith,Op.intBits,Op.intCmp]
theorem gInt_plain {op:BinOp} {k:IntKind} {m n:Int} {v:Value} (h:gInt op k m n=some v):V M v v:=by
  cases op<;>simp only [gInt] at h<;>(try split at h)<;>simp only [Option.some.injEq,reduceCtorEq] at h<;>subst h<;>first | exact V_int.2 rfl | exact V_bool.2 rfl
theorem gCmp_run {t:TypeId} {a b a' b' :Value} {r:Bool} (h:gCmp P t a b=some r) (ha:V M a a') (hb:V M b b') (w:World) :
    (∀ d,(Op.equalIn (d+1) t a' b').run P w= .ok r w)∧(∀ op x y,(eqGuard op t x y a' b').run P w= .ok () w) ∧
    (binOp .eql t a' b' =(do pure (.bool (← Op.equal t a' b'))))∧(binOp .neq t a' b' =(do pure (.bool (!(← Op.equal t a' b'))))):=by
  unfold gCmp at h
  split at h<;>simp only [Option.some.injEq,reduceCtorEq] at h<;>subst h<;>rename_i hu
  · obtain ⟨x,_,rfl⟩:=V_ptr.1 ha
    rw [V_nil.1 hb]
    refine ⟨fun d=>by simp [Op.equalIn,run_und hu],fun op x y=> ?_,rfl,rfl⟩
    unfold eqGuard; split<;>rfl
  · obtain ⟨x,_,rfl⟩:=V_ptr.1 hb
    rw [V_nil.1 ha]
    refine ⟨fun d=>by simp [Op.equalIn,run_und hu],fun op x y=> ?_,rfl,rfl⟩
    unfold eqGuard; split<;>rfl
  · obtain ⟨x,c,cr,_,rfl,_⟩:=V_slice.1 ha
    obtain ⟨_,_,rfl⟩:=V_nilSlice.1 hb
    refine ⟨fun d=>by simp [Op.equalIn,run_und hu],fun op x y=> ?_,rfl,rfl⟩
    unfold eqGuard; split<;>rfl
  · obtain ⟨x,c,cr,_,rfl,_⟩:=V_slice.1 hb
    obtain ⟨_,_,rfl⟩:=V_nilSlice.1 ha
    refine ⟨fun d=>by simp [Op.equalIn,run_und hu],fun op x y=> ?_,rfl,rfl⟩
    unfold eqGuard; split<;>rfl
  · obtain ⟨f',a',b',rfl,_⟩:=V_func.1 ha
    rw [V_nilFunc.1 hb]
    refine ⟨fun d=>by simp [Op.equalIn,run_und hu],fun op x y=> ?_,rfl,rfl⟩
    unfold eqGuard; split<;>rfl
  · obtain ⟨f',a',b',rfl,_⟩:=V_func.1 hb
    rw [V_nilFunc.1 ha]
    refine ⟨fun d=>by simp [Op.equalIn,run_und hu],fun op x y=> ?_,rfl,rfl⟩
    unfold eqGuard; split<;>rfl
  · obtain ⟨f',rfl,_⟩:=V_iface.1 ha
    rw [V_nilIface.1 hb]
    refine ⟨fun d=>by simp [Op.equalIn,run_und hu],fun op x y=> ?_,rfl,rfl⟩
    unfold eqGuard; split<;>rfl
  · obtain ⟨f',rfl,_⟩:=V_iface.1 hb
    rw [V_nilIface.1 ha]
    refine ⟨fun d=>by simp [Op.equalIn,run_und hu],fun op x y=> ?_,rfl,rfl⟩
    unfold eqGuard; split<;>rfl
theorem gBinAny_run {op:BinOp} {t:TypeId} {x y:Operand} {a b a' b' v:Value} (h:gBinAny P op t x y a b=some v) (ha:V M a a') (hb:V M b b') :
    ∃ u,V M v u∧∀ w,(do eqGuard op t x y a' b'; binOp op t a' b').run P w= .ok u w:=by
  unfold gBinAny at h
  split at h
  · rename_i hp
    simp only [Bool.and_eq_true] at hp
    rw [plain_eq hp.1 ha,plain_eq hp.2 hb]
    exact ⟨v,(prunP_run (M:=M) h).1,(prunP_run (M:=M) h).2⟩
  · split at h
    · split at h
      · rename_i r hr
        simp only [Option.some.injEq] at h; subst h
        refine ⟨_,V_bool.2 rfl,fun w=> ?_⟩
        obtain ⟨h1,h2,h3,_⟩:=gCmp_run hr ha hb w
        have h1' :(Op.equal t a' b').run P w= .ok r w:=h1 9999
        simp only [Sem.run_bind,h2,Result.andThen_ok,h3,h1',Sem.run_pure]
      · simp at h
    · split at h
      · rename_i r hr
        simp only [Option.some.injEq] at h; subst h
        refine ⟨_,V_bool.2 rfl,fun w=> ?_⟩
        obtain ⟨h1,h2,_,h3⟩:=gCmp_run hr ha hb w
        have h1' :(Op.equal t a' b').run P w= .ok r w:=h1 9999
        simp only [Sem.run_bind,h2,Result.andThen_ok,h3,h1',Sem.run_pure]
      · simp at h
    · simp at h
theorem gBin_run {op:BinOp} {t:TypeId} {x y:Operand} {a b a' b' v:Value} (h:gBin P op t x y a b=some v) (ha:V M a a') (hb:V M b b') :
    ∃ u,V M v u∧∀ w,(do eqGuard op t x y a' b'; binOp op t a' b').run P w= .ok u w:=by
  unfold gBin at h
  split at h
  · rename_i k m k' n
    split at h
    · rename_i hk
      obtain rfl:=V_int.1 ha
      obtain rfl:=V_int.1 hb
      refine ⟨v,gInt_plain h,fun w=> ?_⟩
      have hk' :k=k' ∨op= .shl∨op= .shr:=by
        simp only [Bool.or_eq_true,decide_eq_true_eq] at hk
        rcases hk with hk | hk
        · exact .inl hk
        · cases op<;>simp [isShift] at hk<;>simp
      have hg:(eqGuard op t x y (.int k m) (.int k' n)).run P w= .ok () w:=by
        unfold eqGuard; split<;>rfl
      simp only [Sem.run_bind,hg,Result.andThen_ok,gInt_run h hk' t w]
    · simp at h
  · exact gBinAny_run h ha hb
theorem getN_rel {l l' :List Value} (h:Vs M l l') {i:Nat} {v:Value} (hv:getN l i=some v):∃ u,l'[i]? =some u∧V M v u:=by
  rw [getN_eq] at hv
  exact (lrel_iff.1 h).2 i v hv
theorem takeN_rel {l l' r:List Value} (h:Vs M l l') {n:Nat} (hr:takeN n l=some r):Vs M r (l'.take n)∧n≤l'.length∧r.length=n:=by
  obtain ⟨rfl,hn⟩:=takeN_eq hr
  exact ⟨lrel_take n h,by rw [← lrel_length h]; exact hn,by simp; omega⟩
theorem gPart_run {t:TypeId} {cs cs' :Array Value} {off:Nat} {v:Value} (h:gPart P t cs.toList off=some v) (hc:Vs M cs.toList cs'.toList) :
    ∃ u,V M v u∧∀ w,(part t cs' off).run P w= .ok u w:=by
  unfold gPart at h
  split at h
  · rename_i hag
    split at h
    · rename_i s hs
      split at h
      · rename_i l hl
        simp only [Option.some.injEq] at h; subst h
        rw [dropN_eq] at hl
        obtain ⟨h1,h2,_⟩:=takeN_rel (lrel_drop off hc) hl
        refine ⟨.agg (cs'.extract off (off+s)),V_agg.2 ⟨_,rfl,?_⟩,fun w=> ?_⟩
        · simpa [List.extract_eq_take_drop] using h1
        · simp [part,run_agg hag,run_size hs]
      · simp at h
    · simp at h
  · rename_i hag
    obtain ⟨u,hu,hv⟩:=getN_rel hc h
    refine ⟨u,hv,fun w=> ?_⟩
    have hu' :cs'[off]? =some u:=by simpa using hu
    simp [part,run_agg hag,hu']
  · simp at h
end Go.Proofs.YtlaojmcekeohnaaGreatDoor.Gh
