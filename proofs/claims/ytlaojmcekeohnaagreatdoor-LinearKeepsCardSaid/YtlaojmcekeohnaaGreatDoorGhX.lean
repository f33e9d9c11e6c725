import Derived.Test.YtlaojmcekeohnaaGreatDoorGhW
namespace Go.Proofs.YtlaojmcekeohnaaGreatDoor.Gh
open Go
variable {P:Program} {M:Map} {B:Nat} {E:Ev}
theorem gMake_form {T:List Value} {op:Op} {G G' :GS} {v:Value} (h:gMake P T op G=some (v,G')):∃ cells esz,G' =newBlk G cells esz:=by
  cases op<;>simp only [gMake,reduceCtorEq] at h
  all_goals (repeat' split at h)
  all_goals first
    | (simp only [reduceCtorEq] at h; done)
    | (simp only [Option.some.injEq,Prod.mk.injEq] at h; exact ⟨_,_,h.2.symm⟩)
theorem drawStep_cases {ops:Array Oper} {base i:Nat} {o:Oper} {T:List Value} {G G' :GS} {v:Value} (h:drawStep P E ops base i o T G=some (v,G')) :
    (gWanted ops T o=false∧v=undef∧G' =G)∨(gWanted ops T o=true∧opOk o.op=true ∧
      ((cls o.op=0∧gPure P T o.op=some v∧G' =G)∨(cls o.op=1∧gRead P T o.op G=some v∧G' =G) ∨
       (cls o.op=2∧∃ G1,gMake P T o.op { G with nx:=base+i }=some (v,G1)∧G' ={ G1 with nx:=G.nx }) ∨
       (cls o.op=3∧opStep P E T G o.op=some (v,G')))):=by
  unfold drawStep at h
  split at h
  · rename_i hw
    split at h
    · simp at h
    rename_i hok
    refine .inr ⟨hw,by simpa using hok,?_⟩
    have hle:=cls_le o.op
    split at h
    · rename_i hc
      split at h
      · rename_i u hu
        simp only [Option.some.injEq,Prod.mk.injEq] at h
        exact .inl ⟨hc,by rw [hu,h.1],h.2.symm⟩
      · simp at h
    · rename_i hc
      split at h
      · rename_i u hu
        simp only [Option.some.injEq,Prod.mk.injEq] at h
        exact .inr (.inl ⟨hc,by rw [hu,h.1],h.2.symm⟩)
      · simp at h
    · rename_i hc
      split at h
      · rename_i u G1 hu
        simp only [Option.some.injEq,Prod.mk.injEq] at h
        exact .inr (.inr (.inl ⟨hc,G1,by rw [hu,h.1],h.2.symm⟩))
      · simp at h
    · rename_i h0 h1 h2
      have h0:¬ cls o.op=0:=h0
      have h1:¬ cls o.op=1:=h1
      have h2:¬ cls o.op=2:=h2
      have hc:cls o.op=3:=by omega
      refine .inr (.inr (.inr ⟨hc,?_⟩))
      unfold opStep
      rw [if_neg hok,hc]
      exact h
  · rename_i hw
    simp only [Option.some.injEq,Prod.mk.injEq] at h
    exact .inl ⟨by simpa using hw,h.1.symm,h.2.symm⟩
structure MkStep (G G' :GS) (k:Nat) (o:GObj):Prop where
  obj:∀ g,G'.obj g=if g=k then some o else G.obj g
  nx:G'.nx=G.nx
  lp:∀ l,G'.loop l=G.loop l
  nl:G'.nl=G.nl
  mode:o.mode=1
theorem mkStep_of {G:GS} {k:Nat} {cells:List Value} {esz:Nat}:MkStep G { newBlk { G with nx:=k } cells esz with nx:=G.nx } k ⟨cells,esz,false,1⟩ where
  obj g:=by
    show tget (tset G.hp k _) g=_
    rw [tget_tset]; rfl
  nx:=rfl
  lp _:=rfl
  nl:=rfl
  mode:=rfl
theorem MkStep.foot {G G' :GS} {k:Nat} {o:GObj} (h:MkStep G G' k o) {r:Nat} (hf:foot G' M r):Gh.foot G M r∨∃ x,M.mu k=some x∧x.blk=r:=by
  rcases hf with ⟨g,x,o',hx,ho,hm,rfl⟩ | hl
  · rw [h.obj] at ho
    split at ho
    · rename_i hg; subst hg; exact .inr ⟨x,hx,rfl⟩
    · exact .inl (.inl ⟨g,x,o',hx,ho,hm,rfl⟩)
  · exact .inl (.inr hl)
theorem MkStep.rel {G G' :GS} {k:Nat} {o:GObj} {w:World} (h:MkStep G G' k o) (hR:Rel G M w B) (hk:k<G.nx) (hb:∀ x,M.mu k=some x→BlkOk M w B x o∧¬ Gh.foot G M x.blk):Rel G' M w B where
  size:=hR.size
  blk g x o' hx ho:=by
    rw [h.obj] at ho
    split at ho
    · rename_i hg; subst hg
      obtain rfl:=Option.some.inj ho
      exact (hb x hx).1
    · exact hR.blk g x o' hx ho
  apart g g' x x' o₁ o₂ hx hx' ho ho' hm hm' he:=by
    rw [h.obj] at ho ho'
    split at ho<;>split at ho'
    · rename_i h1 h2; rw [h1,h2]
    · rename_i h1 h2
      subst h1
      exact absurd (.inl ⟨g',x',o₂,hx',ho',hm',he.symm⟩) (hb x hx).2
    · rename_i h1 h2
      subst h2
      exact absurd (.inl ⟨g,x,o₁,hx,ho,hm,he⟩) (hb x' hx').2
    · exact hR.apart g g' x x' o₁ o₂ hx hx' ho ho' hm hm' he
  nx g x hx:=by rw [h.nx]; exact hR.nx g x hx
  lp l r hl:=by rw [h.nl,h.lp]; exact hR.lp l r hl
  lpinj:=hR.lpinj
  mp l r hl:=by rw [h.nl,h.lp]; exact hR.mp l r hl
  mpinj:=hR.mpinj
  mplp:=hR.mplp
  wf g hg:=by
    rw [h.nx] at hg
    rw [h.obj,if_neg (by omega)]; exact hR.wf g hg
  gl g o' ho hm:=by
    rw [h.obj] at ho
    split at ho
    · cases ho; have:=h.mode; omega
    · exact hR.gl g o' ho hm
theorem MkStep.evo {Gs G G' :GS} {k:Nat} {o:GObj} {M₀:Map} {w₀ w:World} (h:MkStep G G' k o) (hE:Evo Gs M₀ w₀ G M w) (hk:Gs.nx≤k) (hb:∀ x,M.mu k=some x→w₀.heap.size≤x.blk):Evo Gs M₀ w₀ G' M w where
  map:=hE.map
  size:=hE.size
  keep:=hE.keep
  foot r hf:=by
    rcases h.foot hf with hf | ⟨x,hx,rfl⟩
    · exact hE.foot r hf
    · exact .inr (hb x hx)
  os:=hE.os
  tape:=hE.tape
  output:=hE.output
  nx:=by rw [h.nx]; exact hE.nx
  gk g hg hn:=by rw [h.obj,if_neg (by omega)]; exact hE.gk g hg hn
  gn g hg hn:=by rw [h.obj,if_neg (by omega)]; exact hE.gn g hg hn
section
variable {G:GS} {w:World} {k esz:Nat} {cells:List Value} {c:Array Value} {e:TypeId}
theorem own_lt {x:Blk} {o:GObj} (hb:BlkOk M w B x o) (hm:o.mode=1):x.blk<w.heap.size:=by
  obtain ⟨_,c',e',h1,_⟩:=hb.own hm
  exact (Array.getElem?_eq_some_iff.1 h1).1
theorem foot_lt (hR:Rel G M w B) {r:Nat} (hf:foot G M r):r<w.heap.size:=by
  rcases hf with ⟨g,x,o,hx,ho,hm,rfl⟩ | ⟨l,hl | hl⟩
  · exact own_lt (hR.blk g x o hx ho) hm
  · obtain ⟨_,p,_,_,lo,h4,_⟩:=hR.lp l r hl
    exact (Array.getElem?_eq_some_iff.1 h4).1
  · obtain ⟨_,p,_,h3⟩:=hR.mp l r hl
    exact h3.lt
theorem BlkOk.lift {M' :Map} {w' :World} {x:Blk} {o:GObj} (hb:BlkOk M w B x o) (hM:M.Le M') (hm:o.mode=1) (hw:w'.heap[x.blk]? =w.heap[x.blk]?):BlkOk M' w' B x o where
  esz:=hb.esz
  opn:=hb.opn
  len:=hb.len
  cells h:=cells_mono hM (hb.cells h) fun a u hc ha=>heap_cell (by rw [ha]; exact hw) hc
  own h:=by
    obtain ⟨h1,c',e',h2,h3⟩:=hb.own h
    exact ⟨h1,c',e',by rw [hw]; exact h2,h3⟩
  ro h:=absurd hm h
theorem alloc_keep (w:World) (ob:Obj):∀ r,r<w.heap.size→(w.alloc ob).heap[r]? =w.heap[r]? :=fun r hr=>Go.RowKit.Below.heap_alloc w _ r hr
theorem blk_new (hsz:B≤w.heap.size) {M' :Map} (hc:Vs M' cells c.toList):BlkOk M' (w.alloc (.cells c e)) B ⟨w.heap.size,0,0,esz,false,cells.length⟩ ⟨cells,esz,false,1⟩ where
  esz:=rfl
  opn:=rfl
  len:=rfl
  cells _ i v hv:=by
    obtain ⟨u,h1,h2⟩:=(lrel_iff.1 hc).2 i v hv
    have hnew:(w.alloc (.cells c e)).heap[w.heap.size]? =some (.cells c e (0,0)):=World.alloc_heap_new w _
    exact ⟨u,by simp only [World.cell?,hnew,Nat.zero_add]; simpa using h1,h2⟩
  own _:=⟨hsz,c,e,World.alloc_heap_new w _,by have:=lrel_length hc; simp at this; simp; omega⟩
  ro h:=absurd rfl h
theorem ext_mu_cases {g:Nat} {x y:Blk} (h:(M.ext k x).mu g=some y):(g=k∧y=x)∨(g≠k∧M.mu g=some y):=by
  rw [Map.ext_mu] at h
  split at h
  · rename_i he; exact .inl ⟨he,(Option.some.inj h).symm⟩
  · rename_i he; exact .inr ⟨he,h⟩
theorem Rel.late (hR:Rel G M w B) (hk:M.mu k=none) (hkn:k<G.nx) (hc:Vs M cells c.toList) (ho:∀ o,G.obj k=some o→o=⟨cells,esz,false,1⟩) :
    Rel G (M.ext k ⟨w.heap.size,0,0,esz,false,cells.length⟩) (w.alloc (.cells c e)) B:=by
  have hM:M.Le (M.ext k ⟨w.heap.size,0,0,esz,false,cells.length⟩):=Map.le_ext hk
  have hcell:∀ a u,w.cell? a=some u→(w.alloc (.cells c e)).cell? a=some u:=fun a u h=>heap_cell (alloc_keep w _ _ (World.block_lt_of_cell? w a h)) h
  refine ⟨Nat.le_trans hR.size (by simp),fun g x o hx hog=> ?_,fun g g' x x' o o' hx hx' hog hog' hm hm' he=> ?_,fun g x hx=> ?_,fun l r hl=> ?_,hR.lpinj,fun l r hl=>let ⟨h1,p,h2,h3⟩:=hR.mp l r hl; ⟨h1,p,h2,h3.keep (alloc_keep w _ _ h3.lt)⟩,hR.mpinj,hR.mplp,hR.wf,fun g o ho' hm=>by
    exact (hR.gl g o ho' hm).keep fun r hr=>alloc_keep w _ _ (Nat.lt_of_lt_of_le hr hR.size)⟩
  · rcases ext_mu_cases hx with ⟨rfl,rfl⟩ | ⟨_,hx⟩
    · rw [ho o hog]; exact blk_new hR.size (hc.mono hM)
    · have hb:=hR.blk g x o hx hog
      refine ⟨hb.esz,hb.opn,hb.len,fun hm=>cells_mono hM (hb.cells hm) fun a u h _=>hcell a u h,fun hm=> ?_,hb.ro⟩
      obtain ⟨h1,c',e',h2,h3⟩:=hb.own hm
      exact ⟨h1,c',e',by rw [alloc_keep w _ _ (own_lt hb hm)]; exact h2,h3⟩
  · rcases ext_mu_cases hx with ⟨rfl,rfl⟩ | ⟨_,hx1⟩<;>rcases ext_mu_cases hx' with ⟨rfl,rfl⟩ | ⟨_,hx2⟩
    · rfl
    · have:=own_lt (hR.blk g' x' o' hx2 hog') hm'
      simp only at he; omega
    · have:=own_lt (hR.blk g x o hx1 hog) hm
      simp only at he; omega
    · exact hR.apart g g' x x' o o' hx1 hx2 hog hog' hm hm' he
  · rcases ext_mu_cases hx with ⟨rfl,rfl⟩ | ⟨_,hx⟩
    · exact hkn
    · exact hR.nx g x hx
  · obtain ⟨h1,p,h2,h3,lo,h4,h5,h6,h7,h8⟩:=hR.lp l r hl
    exact ⟨h1,p,h2,h3,lo,by rw [alloc_keep w _ _ (Array.getElem?_eq_some_iff.1 h4).1]; exact h4,h5,h6,h7.mono hM,h8⟩
theorem foot_ext {x:Blk} {r:Nat} (hf:foot G (M.ext k x) r):foot G M r∨(r=x.blk∧∃ o,G.obj k=some o):=by
  rcases hf with ⟨g,y,o,hy,ho,hm,rfl⟩ | hl
  · rcases ext_mu_cases hy with ⟨rfl,rfl⟩ | ⟨_,hy⟩
    · exact .inr ⟨rfl,o,ho⟩
    · exact .inl (.inl ⟨g,y,o,hy,ho,hm,rfl⟩)
  · exact .inl (.inr hl)
theorem Evo.late {Gs:GS} {M₀:Map} {w₀:World} (hE:Evo Gs M₀ w₀ G M w) (hk:Gs.nx≤k) (hn:M.mu k=none) {x:Blk} (hx:x.blk=w.heap.size) (ob:Obj):Evo Gs M₀ w₀ G (M.ext k x) (w.alloc ob) where
  map:=hE.map.trans (Map.le_ext hn)
  size:=Nat.le_trans hE.size (by simp)
  keep r hr hf:=by rw [alloc_keep w _ _ (Nat.lt_of_lt_of_le hr hE.size)]; exact hE.keep r hr hf
  foot r hf:=by
    rcases foot_ext hf with hf | ⟨rfl,_⟩
    · exact hE.foot r hf
    · exact .inr (by rw [hx]; exact hE.size)
  os:=hE.os
  tape:=hE.tape
  output:=hE.output
  nx:=hE.nx
  gk g hg h:=by
    obtain ⟨h1,h2⟩:=hE.gk g hg h
    exact ⟨by rw [Map.ext_mu,if_neg (by omega)]; exact h1,h2⟩
  gn:=hE.gn
end
theorem setT_eq:∀ (l:List Value) (n:Nat) (v:Value),setT l n v=l.set n v
  | [],_,_=>by simp [setT_nil]
  | _::_,0,_=>by simp [setT_zero]
  | _::xs,n+1,v=>by simp [setT_succ,setT_eq xs n v]
theorem put_tmps (a:Act) (d:Option Tmp) (u:Value):(a.put d u).tmps.toList=putT a.tmps.toList d u:=by
  cases d with
  | none=>rfl
  | some d =>
    show (a.tmps.setIfInBounds d u).toList=setT a.tmps.toList d u
    rw [Array.toList_setIfInBounds,setT_eq]
theorem put_defers (a:Act) (d:Option Tmp) (u:Value):(a.put d u).defers=a.defers:=by cases d<;>rfl
theorem putT_length (T:List Value) (d:Option Tmp) (u:Value):(putT T d u).length=T.length:=by
  cases d<;>simp [putT,setT_eq]
theorem putT_nth (T:List Value) (d' :Option Tmp) (u:Value) (d:Nat):nth undef (putT T d' u) d=if d' =some d then (if d<T.length then u else undef) else nth undef T d:=by
  cases d' with
  | none=>simp [putT]
  | some d' =>
    simp only [putT,setT_eq,nth_eq,Option.some.injEq,List.getD]
    by_cases h:d' =d
    · subst h
      rw [if_pos rfl]
      by_cases hl:d' <T.length
      · rw [if_pos hl]; simp [hl]
      · rw [if_neg hl]; simp [hl]
    · rw [if_neg h,List.getElem?_set_ne h]
end Go.Proofs.YtlaojmcekeohnaaGreatDoor.Gh
