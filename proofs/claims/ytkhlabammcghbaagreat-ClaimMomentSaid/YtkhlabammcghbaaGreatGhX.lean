import Derived.Test.YtkhlabammcghbaaGreatGhW
namespace Go.Proofs.YtkhlabammcghbaaGreat.Gh
open Go
variable {P:Program} {M:Map} {B:Nat} {E:Ev}
theorem WT {T:List Value} {op:Op} {G G':GS} {v:Value} (h:lQ P T op G=some (v,G')):∃ cells esz,G' =iU G cells esz:=by
  cases op<;>simp only [lQ,reduceCtorEq] at h
  all_goals (repeat' split at h)
  all_goals first
    | (simp only [reduceCtorEq] at h; done)
    | (simp only [Option.some.injEq,Prod.mk.injEq] at h; exact ⟨_,_,h.2.symm⟩)
theorem HV {ops:Array Oper} {base i:Nat} {o:Oper} {T:List Value} {G G':GS} {v:Value} (h:pk P E ops base i o T G=some (v,G')) :
    (dx ops T o=false∧v=undef∧G' =G)∨(dx ops T o=true∧dL o.op=true ∧
      ((cls o.op=0∧nO P T o.op=some v∧G' =G)∨(cls o.op=1∧fD P T o.op G=some v∧G' =G) ∨
       (cls o.op=2∧∃ G1,lQ P T o.op { G with nx:=base+i }=some (v,G1)∧G' ={ G1 with nx:=G.nx }) ∨
       (cls o.op=3∧iV P E T G o.op=some (v,G')))):=by
  unfold pk at h
  split at h
  · rename_i hw
    split at h
    · simp at h
    rename_i aV
    refine .inr ⟨hw,by simpa using aV,?_⟩
    have hle:=Oa o.op
    split at h
    · rename_i hc
      split at h
      · rename_i u hu
        simp only [Option.some.injEq,Prod.mk.injEq] at h
        exact .inl ⟨hc,by rw [hu,h.1],h.2.symm⟩
      · simp at h
    · rename_i hc
      split at h
      · rename_i u hu
        simp only [Option.some.injEq,Prod.mk.injEq] at h
        exact .inr (.inl ⟨hc,by rw [hu,h.1],h.2.symm⟩)
      · simp at h
    · rename_i hc
      split at h
      · rename_i u G1 hu
        simp only [Option.some.injEq,Prod.mk.injEq] at h
        exact .inr (.inr (.inl ⟨hc,G1,by rw [hu,h.1],h.2.symm⟩))
      · simp at h
    · rename_i h0 h1 h2
      have h0:¬ cls o.op=0:=h0
      have h1:¬ cls o.op=1:=h1
      have h2:¬ cls o.op=2:=h2
      have hc:cls o.op=3:=by omega
      refine .inr (.inr (.inr ⟨hc,?_⟩))
      unfold iV
      rw [if_neg aV,hc]
      exact h
  · rename_i hw
    simp only [Option.some.injEq,Prod.mk.injEq] at h
    exact .inl ⟨by simpa using hw,h.1.symm,h.2.symm⟩
structure tA (G G':GS) (k:Nat) (o:bK):Prop where
  obj:∀ g,G'.obj g=if g=k then some o else G.obj g
  nx:G'.nx=G.nx
  lp:∀ l,G'.loop l=G.loop l
  nl:G'.nl=G.nl
  mode:o.mode=1
theorem Ok {G:GS} {k:Nat} {cells:List Value} {esz:Nat}:tA G { iU { G with nx:=k } cells esz with nx:=G.nx } k ⟨cells,esz,false,1⟩ where
  obj g:=by
    show vZ (sS G.hp k _) g=_
    rw [sT]; rfl
  nx:=rfl
  lp _:=rfl
  nl:=rfl
  mode:=rfl
theorem tA.eu {G G':GS} {k:Nat} {o:bK} (h:tA G G' k o) {r:Nat} (hf:eu G' M r):Gh.eu G M r∨∃ x,M.mu k=some x∧x.aY=r:=by
  rcases hf with ⟨g,x,o',hx,ho,hm,rfl⟩ | hl
  · rw [h.obj] at ho
    split at ho
    · rename_i hg; subst hg; exact .inr ⟨x,hx,rfl⟩
    · exact .inl (.inl ⟨g,x,o',hx,ho,hm,rfl⟩)
  · exact .inl (.inr hl)
theorem tA.rel {G G':GS} {k:Nat} {o:bK} {w:World} (h:tA G G' k o) (hR:Rel G M w B) (hk:k<G.nx) (hb:∀ x,M.mu k=some x→s0 M w B x o∧¬ Gh.eu G M x.aY):Rel G' M w B where
  size:=hR.size
  aY g x o' hx ho:=by
    rw [h.obj] at ho
    split at ho
    · rename_i hg; subst hg
      obtain rfl:=Option.some.inj ho
      exact (hb x hx).1
    · exact hR.aY g x o' hx ho
  apart g g' x x' o₁ o₂ hx ja ho cW hm jB he:=by
    rw [h.obj] at ho cW
    split at ho<;>split at cW
    · rename_i h1 h2; rw [h1,h2]
    · rename_i h1 h2
      subst h1
      exact absurd (.inl ⟨g',x',o₂,ja,cW,jB,he.symm⟩) (hb x hx).2
    · rename_i h1 h2
      subst h2
      exact absurd (.inl ⟨g,x,o₁,hx,ho,hm,he⟩) (hb x' ja).2
    · exact hR.apart g g' x x' o₁ o₂ hx ja ho cW hm jB he
  nx g x hx:=by rw [h.nx]; exact hR.nx g x hx
  lp l r hl:=by rw [h.nl,h.lp]; exact hR.lp l r hl
  jz:=hR.jz
  mp l r hl:=by rw [h.nl,h.lp]; exact hR.mp l r hl
  jA:=hR.jA
  iY:=hR.iY
  wf g hg:=by
    rw [h.nx] at hg
    rw [h.obj,if_neg (by omega)]; exact hR.wf g hg
  gl g o' ho hm:=by
    rw [h.obj] at ho
    split at ho
    · cases ho; have:=h.mode; omega
    · exact hR.gl g o' ho hm
theorem tA.jb {Gs G G':GS} {k:Nat} {o:bK} {M₀:Map} {w₀ w:World} (h:tA G G' k o) (hE:cy Gs M₀ w₀ G M w) (hk:Gs.nx≤k) (hb:∀ x,M.mu k=some x→w₀.heap.size≤x.aY):cy Gs M₀ w₀ G' M w where
  map:=hE.map
  size:=hE.size
  keep:=hE.keep
  eu r hf:=by
    rcases h.eu hf with hf | ⟨x,hx,rfl⟩
    · exact hE.eu r hf
    · exact .inr (hb x hx)
  os:=hE.os
  tape:=hE.tape
  output:=hE.output
  nx:=by rw [h.nx]; exact hE.nx
  gk g hg hn:=by rw [h.obj,if_neg (by omega)]; exact hE.gk g hg hn
  gn g hg hn:=by rw [h.obj,if_neg (by omega)]; exact hE.gn g hg hn
section
variable {G:GS} {w:World} {k esz:Nat} {cells:List Value} {c:Array Value} {e:TypeId}
theorem wG {x:jv} {o:bK} (hb:s0 M w B x o) (hm:o.mode=1):x.aY<w.heap.size:=by
  obtain ⟨_,c',e',h1,_⟩:=hb.own hm
  exact (Array.getElem?_eq_some_iff.1 h1).1
theorem WU (hR:Rel G M w B) {r:Nat} (hf:eu G M r):r<w.heap.size:=by
  rcases hf with ⟨g,x,o,hx,ho,hm,rfl⟩ | ⟨l,hl | hl⟩
  · exact wG (hR.aY g x o hx ho) hm
  · obtain ⟨_,p,_,_,lo,h4,_⟩:=hR.lp l r hl
    exact (Array.getElem?_eq_some_iff.1 h4).1
  · obtain ⟨_,p,_,h3⟩:=hR.mp l r hl
    exact h3.lt
theorem s0.lift {M':Map} {w':World} {x:jv} {o:bK} (hb:s0 M w B x o) (hM:M.Le M') (hm:o.mode=1) (hw:w'.heap[x.aY]? =w.heap[x.aY]?):s0 M' w' B x o where
  esz:=hb.esz
  opn:=hb.opn
  len:=hb.len
  cells h:=nS hM (hb.cells h) fun a u hc ha=>ta (by rw [ha]; exact hw) hc
  own h:=by
    obtain ⟨h1,c',e',h2,h3⟩:=hb.own h
    exact ⟨h1,c',e',by rw [hw]; exact h2,h3⟩
  ro h:=absurd hm h
theorem vg (w:World) (ob:Obj):∀ r,r<w.heap.size→(w.alloc ob).heap[r]? =w.heap[r]?:=fun r hr=>Go.RowKit.Below.heap_alloc w _ r hr
theorem Ol (cm:B≤w.heap.size) {M':Map} (hc:Vs M' cells c.toList):s0 M' (w.alloc (.cells c e)) B ⟨w.heap.size,0,0,esz,false,cells.length⟩ ⟨cells,esz,false,1⟩ where
  esz:=rfl
  opn:=rfl
  len:=rfl
  cells _ i v hv:=by
    obtain ⟨u,h1,h2⟩:=(iH.1 hc).2 i v hv
    have pe:(w.alloc (.cells c e)).heap[w.heap.size]? =some (.cells c e (0,0)):=World.alloc_heap_new w _
    exact ⟨u,by simp only [World.cell?,pe,Nat.zero_add]; simpa using h1,h2⟩
  own _:=⟨cm,c,e,World.alloc_heap_new w _,by have:=iG hc; simp at this; simp; omega⟩
  ro h:=absurd rfl h
theorem wH {g:Nat} {x y:jv} (h:(M.ext k x).mu g=some y):(g=k∧y=x)∨(g≠k∧M.mu g=some y):=by
  rw [Map.m7] at h
  split at h
  · rename_i he; exact .inl ⟨he,(Option.some.inj h).symm⟩
  · rename_i he; exact .inr ⟨he,h⟩
theorem Rel.late (hR:Rel G M w B) (hk:M.mu k=none) (WV:k<G.nx) (hc:Vs M cells c.toList) (ho:∀ o,G.obj k=some o→o=⟨cells,esz,false,1⟩) :
    Rel G (M.ext k ⟨w.heap.size,0,0,esz,false,cells.length⟩) (w.alloc (.cells c e)) B:=by
  have hM:M.Le (M.ext k ⟨w.heap.size,0,0,esz,false,cells.length⟩):=Map.yB hk
  have iZ:∀ a u,w.cell? a=some u→(w.alloc (.cells c e)).cell? a=some u:=fun a u h=>ta (vg w _ _ (World.block_lt_of_cell? w a h)) h
  refine ⟨Nat.le_trans hR.size (by simp),fun g x o hx Bl=>?_,fun g g' x x' o o' hx ja Bl Om hm jB he=>?_,fun g x hx=>?_,fun l r hl=>?_,hR.jz,fun l r hl=>let ⟨h1,p,h2,h3⟩:=hR.mp l r hl; ⟨h1,p,h2,h3.keep (vg w _ _ h3.lt)⟩,hR.jA,hR.iY,hR.wf,fun g o cW hm=>by
    exact (hR.gl g o cW hm).keep fun r hr=>vg w _ _ (Nat.lt_of_lt_of_le hr hR.size)⟩
  · rcases wH hx with ⟨rfl,rfl⟩ | ⟨_,hx⟩
    · rw [ho o Bl]; exact Ol hR.size (hc.mono hM)
    · have hb:=hR.aY g x o hx Bl
      refine ⟨hb.esz,hb.opn,hb.len,fun hm=>nS hM (hb.cells hm) fun a u h _=>iZ a u h,fun hm=>?_,hb.ro⟩
      obtain ⟨h1,c',e',h2,h3⟩:=hb.own hm
      exact ⟨h1,c',e',by rw [vg w _ _ (wG hb hm)]; exact h2,h3⟩
  · rcases wH hx with ⟨rfl,rfl⟩ | ⟨_,gR⟩<;>rcases wH ja with ⟨rfl,rfl⟩ | ⟨_,cH⟩
    · rfl
    · have:=wG (hR.aY g' x' o' cH Om) jB
      simp only at he; omega
    · have:=wG (hR.aY g x o gR Bl) hm
      simp only at he; omega
    · exact hR.apart g g' x x' o o' gR cH Bl Om hm jB he
  · rcases wH hx with ⟨rfl,rfl⟩ | ⟨_,hx⟩
    · exact WV
    · exact hR.nx g x hx
  · obtain ⟨h1,p,h2,h3,lo,h4,h5,h6,h7,h8⟩:=hR.lp l r hl
    exact ⟨h1,p,h2,h3,lo,by rw [vg w _ _ (Array.getElem?_eq_some_iff.1 h4).1]; exact h4,h5,h6,h7.mono hM,h8⟩
theorem HW {x:jv} {r:Nat} (hf:eu G (M.ext k x) r):eu G M r∨(r=x.aY∧∃ o,G.obj k=some o):=by
  rcases hf with ⟨g,y,o,hy,ho,hm,rfl⟩ | hl
  · rcases wH hy with ⟨rfl,rfl⟩ | ⟨_,hy⟩
    · exact .inr ⟨rfl,o,ho⟩
    · exact .inl (.inl ⟨g,y,o,hy,ho,hm,rfl⟩)
  · exact .inl (.inr hl)
theorem cy.late {Gs:GS} {M₀:Map} {w₀:World} (hE:cy Gs M₀ w₀ G M w) (hk:Gs.nx≤k) (hn:M.mu k=none) {x:jv} (hx:x.aY=w.heap.size) (ob:Obj):cy Gs M₀ w₀ G (M.ext k x) (w.alloc ob) where
  map:=hE.map.trans (Map.yB hn)
  size:=Nat.le_trans hE.size (by simp)
  keep r hr hf:=by rw [vg w _ _ (Nat.lt_of_lt_of_le hr hE.size)]; exact hE.keep r hr hf
  eu r hf:=by
    rcases HW hf with hf | ⟨rfl,_⟩
    · exact hE.eu r hf
    · exact .inr (by rw [hx]; exact hE.size)
  os:=hE.os
  tape:=hE.tape
  output:=hE.output
  nx:=hE.nx
  gk g hg h:=by
    obtain ⟨h1,h2⟩:=hE.gk g hg h
    exact ⟨by rw [Map.m7,if_neg (by omega)]; exact h1,h2⟩
  gn:=hE.gn
end
theorem DW:∀ (l:List Value) (n:Nat) (v:Value),nP l n v=l.set n v
  | [],_,_=>by simp [GM]
  | _::_,0,_=>by simp [GN]
  | _::xs,n+1,v=>by simp [GO,DW xs n v]
theorem HX (a:Act) (d:Option Tmp) (u:Value):(a.put d u).tmps.toList=aW a.tmps.toList d u:=by
  cases d with
  | none=>rfl
  | some d =>
    show (a.tmps.setIfInBounds d u).toList=nP a.tmps.toList d u
    rw [Array.toList_setIfInBounds,DW]
theorem put_defers (a:Act) (d:Option Tmp) (u:Value):(a.put d u).defers=a.defers:=by cases d<;>rfl
theorem On (T:List Value) (d:Option Tmp) (u:Value):(aW T d u).length=T.length:=by
  cases d<;>simp [aW,DW]
theorem DX (T:List Value) (d':Option Tmp) (u:Value) (d:Nat):nth undef (aW T d' u) d=if d' =some d then (if d<T.length then u else undef) else nth undef T d:=by
  cases d' with
  | none=>simp [aW]
  | some d' =>
    simp only [aW,DW,ju,Option.some.injEq,List.getD]
    by_cases h:d' =d
    · subst h
      rw [if_pos rfl]
      by_cases hl:d' <T.length
      · rw [if_pos hl]; simp [hl]
      · rw [if_neg hl]; simp [hl]
    · rw [if_neg h,List.getElem?_set_ne h]
end Go.Proofs.YtkhlabammcghbaaGreat.Gh
