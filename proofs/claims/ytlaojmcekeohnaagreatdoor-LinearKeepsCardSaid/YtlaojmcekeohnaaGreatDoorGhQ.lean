import Derived.Test.YtlaojmcekeohnaaGreatDoorGhO
namespace Go.Proofs.YtlaojmcekeohnaaGreatDoor.Gh
open Go
variable {P:Program} {M:Map} {B:Nat} {E:Ev}
def Map.extLp (M:Map) (l r:Nat):Map:=⟨M.mu,fun k=>if k=l then some r else M.lp k,M.mp⟩
theorem Rel.pushLoop {G:GS} {w:World} (hR:Rel G M w B) {p:Lp} {lo:Loop} (h1:lo.state=p.st) (h2:lo.pending=p.pend) (h3:Vs M p.tmps lo.tmps.toList) (h4:lo.params.toList=p.params) (h5:lo.assign=p.assign) (h6:lo.body=p.body) :
    let M' :=M.extLp G.nl w.heap.size
    Rel (G.pushLoop p) M' (w.alloc (.loop lo)) B∧Evo G M w (G.pushLoop p) M' (w.alloc (.loop lo))∧M'.lp G.nl=some w.heap.size:=by
  intro M'
  have hnone:M.lp G.nl=none:=by
    cases hm:M.lp G.nl with
    | none=>rfl
    | some x=>exact absurd (hR.lp _ _ hm).1 (Nat.lt_irrefl _)
  have hM:M.Le M' :=⟨fun _ _ h=>h,fun l r h=>by
    show (if l=G.nl then some w.heap.size else M.lp l)=some r
    rw [if_neg (fun e=>by rw [e,hnone] at h; cases h)]; exact h,fun _ _ h=>h⟩
  obtain ⟨hO,hE⟩:=hR.other (.loop lo)
  have hlp:∀ l r,M'.lp l=some r→(l=G.nl∧r=w.heap.size)∨(l≠G.nl∧M.lp l=some r):=by
    intro l r hl
    change (if l=G.nl then some w.heap.size else M.lp l)=some r at hl
    split at hl
    · rename_i he; exact .inl ⟨he,(Option.some.inj hl).symm⟩
    · rename_i he; exact .inr ⟨he,hl⟩
  have hltp:∀ l r,M.lp l=some r→r<w.heap.size:=by
    intro l r hl
    obtain ⟨_,q,_,_,lo',h4',_⟩:=hR.lp l r hl
    exact (Array.getElem?_eq_some_iff.1 h4').1
  refine ⟨⟨hO.size,fun g x o hx ho=> ?_,hO.apart,hO.nx,fun l r hl=> ?_,?_,fun l r hl=> ?_,hR.mpinj,fun l r hl=> ?_,hO.wf,hO.gl⟩,⟨hM,hE.size,hE.keep,?_,rfl,rfl,rfl,Nat.le_refl _,fun _ _ h=>⟨h,rfl⟩,fun _ _ h=>h⟩,by show (if G.nl=G.nl then _ else _)=_; rw [if_pos rfl]⟩
  · have hb:=hO.blk g x o hx ho
    exact ⟨hb.esz,hb.opn,hb.len,fun hm=>cells_mono hM (hb.cells hm) fun _ _ h _=>h,hb.own,hb.ro⟩
  · rcases hlp l r hl with ⟨rfl,rfl⟩ | ⟨hne,hl⟩
    · refine ⟨Nat.lt_succ_self _,p,by rw [GS.loop_push,if_pos rfl],hR.size,lo,World.alloc_heap_new w _,h1,h2,h3.mono hM,h4,h5,h6⟩
    · obtain ⟨k1,q,k2,k3,lo',k4,k5,k6,k7,k8⟩:=hO.lp l r hl
      exact ⟨Nat.lt_succ_of_lt k1,q,by rw [GS.loop_push,if_neg hne]; exact k2,k3,lo',k4,k5,k6,k7.mono hM,k8⟩
  · intro l l' r hl hl'
    rcases hlp l r hl with ⟨e1,e2⟩ | ⟨hne,k1⟩<;>rcases hlp l' r hl' with ⟨e3,e4⟩ | ⟨hne',k2⟩
    · rw [e1,e3]
    · have:=hltp _ _ k2; omega
    · have:=hltp _ _ k1; omega
    · exact hR.lpinj l l' r k1 k2
  · obtain ⟨k1,q,k2,k3⟩:=hO.mp l r hl
    exact ⟨Nat.lt_succ_of_lt k1,q,by rw [GS.loop_push,if_neg (by omega)]; exact k2,k3⟩
  · obtain ⟨k1,_⟩:=hO.mp l r hl
    show (if l=G.nl then some w.heap.size else M.lp l)=none
    rw [if_neg (by omega)]; exact hR.mplp l r hl
  · rintro r (⟨g,x,o,hx,ho,hm,rfl⟩ | ⟨l,hl | hl⟩)
    · exact .inl (.inl ⟨g,x,o,hx,ho,hm,rfl⟩)
    · rcases hlp l r hl with ⟨rfl,rfl⟩ | ⟨hne,hl⟩
      · exact .inr (Nat.le_refl _)
      · exact .inl (.inr ⟨l,.inl hl⟩)
    · exact .inl (.inr ⟨l,.inr hl⟩)
theorem Rel.putLoop {G:GS} {w:World} (hR:Rel G M w B) {l r:Nat} {p q:Lp} {lo lo' :Loop} (hl:M.lp l=some r) (hp:G.loop l=some p) (hlo:w.heap[r]? =some (.loop lo))
    (hq:q.tmps=p.tmps∧q.params=p.params∧q.assign=p.assign∧q.body=p.body) (h1:lo'.state=q.st) (h2:lo'.pending=q.pend) (hlo' :lo'.tmps=lo.tmps∧lo'.params=lo.params∧lo'.assign=lo.assign∧lo'.body=lo.body) :
    Rel (G.putLoop l q) M (w.putObj r (.loop lo')) B∧Evo G M w (G.putLoop l q) M (w.putObj r (.loop lo')):=by
  have hlt:=(Array.getElem?_eq_some_iff.1 hlo).1
  have hother:∀ k,k≠r→(w.putObj r (.loop lo')).heap[k]? =w.heap[k]? :=fun k hk=>World.putObj_heap_other hk
  have hsame:(w.putObj r (.loop lo')).heap[r]? =some (.loop lo'):=World.putObj_heap_same hlt
  have hcellne:∀ a u,w.cell? a=some u→a.block≠r:=by
    rintro a u h rfl
    simp [World.cell?,hlo] at h
  obtain ⟨hlnl,p',hp',hB,lo1,hlo1,e1,e2,e3,e4,e5,e6⟩:=hR.lp l r hl
  obtain rfl:p' =p:=by rw [hp] at hp'; exact (Option.some.inj hp').symm
  obtain rfl:lo1=lo:=by rw [hlo] at hlo1; simpa using hlo1.symm
  refine ⟨⟨by rw [World.putObj_size]; exact hR.size,fun g x o hx ho=> ?_,hR.apart,hR.nx,fun l' r' hl' => ?_,hR.lpinj,fun l' r' hl' => ?_,hR.mpinj,hR.mplp,hR.wf,fun g o ho hm=>(hR.gl g o ho hm).keep fun k hk=>hother k (by omega)⟩,⟨.refl M,by rw [World.putObj_size]; exact Nat.le_refl _,fun k hk hf=>hother k (fun e=>hf (.inr ⟨l,.inl (by rw [e]; exact hl)⟩)),fun _ h=> .inl h,rfl,rfl,rfl,Nat.le_refl _,fun _ _ h=>⟨h,rfl⟩,fun _ _ h=>h⟩⟩
  · have hb:=hR.blk g x o hx ho
    refine ⟨hb.esz,hb.opn,hb.len,fun hm=>cells_mono (.refl M) (hb.cells hm) fun a u h _=>heap_cell (hother _ (hcellne a u h)) h,fun hm=> ?_,hb.ro⟩
    obtain ⟨h1',c,e,h2',h3'⟩:=hb.own hm
    exact ⟨h1',c,e,by rw [hother _ (fun he=>by rw [he,hlo] at h2'; cases h2')]; exact h2',h3'⟩
  · by_cases hll:l' =l
    · subst hll
      obtain rfl:r' =r:=by rw [hl] at hl'; exact (Option.some.inj hl').symm
      refine ⟨hlnl,q,by rw [GS.loop_put,if_pos rfl],hB,lo',hsame,h1,h2,?_,?_,?_,?_⟩
      · rw [hq.1,hlo'.1]; exact e3
      · rw [hq.2.1,hlo'.2.1]; exact e4
      · rw [hq.2.2.1,hlo'.2.2.1]; exact e5
      · rw [hq.2.2.2,hlo'.2.2.2]; exact e6
    · obtain ⟨k1,q',k2,k3,lo2,k4,k5⟩:=hR.lp l' r' hl'
      refine ⟨k1,q',by rw [GS.loop_put,if_neg hll]; exact k2,k3,lo2,?_,k5⟩
      rw [hother _ (fun e=>hll (hR.lpinj l' l r (by rw [← e]; exact hl') hl))]
      exact k4
  · obtain ⟨k1,q',k2,k3⟩:=hR.mp l' r' hl'
    refine ⟨k1,q',?_,?_⟩
    · rw [GS.loop_put,if_neg (fun e=>by have:=hR.mplp l' r' hl'; rw [e,hl] at this; cases this)]; exact k2
    · obtain ⟨es,ck,h4⟩:=k3.obj
      exact k3.keep (hother _ (fun e=>by rw [e,hlo] at h4; cases h4))
theorem results_run {G:GS} {w:World} {T:List Value} {tmps:Array Value} (hR:Rel G M w B) (hT:Vs M T tmps.toList):∀ {rs:List ResultVar} {l:List Value},gResults P T G rs=some l →
    ∃ us,Vs M l us∧(rs.mapM fun (r:ResultVar)=>(match r with
      | .tmp t=>pure (tmps.getD t undef)
      | .cell a t=>do loadVar t (← asAddr (tmps.getD a undef)):Sem Value)).run P w= .ok us w
  | [],l,h=>by
    simp only [gResults,Option.some.injEq] at h; subst h
    exact ⟨[],trivial,rfl⟩
  | .tmp t::r,l,h=>by
    simp only [gResults] at h
    split at h
    · rename_i l' hl
      simp only [Option.some.injEq] at h; subst h
      obtain ⟨us,h1,h2⟩:=results_run hR hT hl
      have h3:=nth_rel hT t
      refine ⟨tmps.getD t undef::us,⟨by simpa using h3,h1⟩,?_⟩
      simp only [List.mapM_cons,Sem.run_bind,Sem.run_pure,Result.andThen_ok,h2]
    · simp at h
  | .cell a t::r,l,h=>by
    simp only [gResults] at h
    split at h
    · rename_i v l' hv hl
      simp only [Option.some.injEq] at h; subst h
      obtain ⟨us,h1,h2⟩:=results_run hR hT hl
      obtain ⟨u,h3,h4,ad,h5⟩:=gLoad_run hR (nth_rel hT a) hv
      refine ⟨u::us,⟨h3,h1⟩,?_⟩
      have h5' :tmps.getD a undef= .pointer (some ad):=by simpa using h5
      rw [h5] at h4
      simp only [Instr.loadAt,Instr.sureAddr,Sem.run_bind,Sem.run_pure,Result.andThen_ok] at h4
      have has:(asAddr (tmps.getD a undef)).run P w= .ok ad w:=by rw [h5']; rfl
      simp only [List.mapM_cons,Sem.run_bind,has,Sem.run_pure,Result.andThen_ok,h4,h2]
    · simp at h
theorem oneOr_rel {l us:List Value} (h:Vs M l us):V M (oneOr l) (if h:(⟨us⟩:Array Value).size=1 then (⟨us⟩:Array Value)[0] else .tuple ⟨us⟩):=by
  match l,us,h with
  | [],[],_=>exact V_tuple.2 ⟨_,rfl,trivial⟩
  | [v],[u],h=>exact h.1
  | v::v' ::l,u::u' ::us,h => 
    rw [dif_neg (by simp)]
    exact V_tuple.2 ⟨_,rfl,h⟩
  | [],_::_,h=>exact h.elim
  | _::_,[],h=>exact h.elim
  | [_],_::_::_,h=>exact h.2.elim
  | _::_::_,[_],h=>exact h.2.elim
theorem gResults_run {G:GS} {w:World} {T:List Value} {tmps:Array Value} {fn:Func} {l:List Value} (hR:Rel G M w B) (hT:Vs M T tmps.toList) (h:gResults P T G fn.results.toList=some l) :
    ∃ u,V M (oneOr l) u∧(results fn tmps).run P w= .ok u w:=by
  obtain ⟨us,h1,h2⟩:=results_run hR hT h
  refine ⟨_,oneOr_rel h1,?_⟩
  unfold results
  rw [Array.mapM_eq_mapM_toList]
  simp only [Sem.run_bind,Sem.run_map,Sem.run_pure]
  exact congrArg (fun z:Result (List Value)=>(z.andThen fun a w' =>Result.ok a.toArray w').andThen fun a w' =>Result.ok (if h:a.size=1 then a[0] else Value.tuple a) w') h2
end Go.Proofs.YtlaojmcekeohnaaGreatDoor.Gh
