import Derived.Test.YtkhlabammcghbaaGreatGhPL
import Derived.Carry
import Derived.ChangeSlices
namespace Go.Proofs.YtkhlabammcghbaaGreat.Gh
open Go
set_option linter.unusedVariables false
set_option linter.unusedSimpArgs false
def Q0 (W:World) (sz:Nat) (v:Value) (n:Nat) (cs:List Value):Prop :=
  cs.length=n*sz∧(v= .slice none 0 0∧n=0∨∃ a c,v= .slice (some a) n c∧a.spot=none∧n≤c∧a.block<W.heap.size∧∀ i u,cs[i]? =some u→W.cell? ⟨a.block,a.off+i,none⟩=some u)
def Self (cs:List Value):Prop:=∀ u∈cs,∀ M,V M u u
theorem ZU {P:Program} {w:World} {r:_root_.Go.Reach} {base:Nat} {a:Addr} {e:TypeId} {n:Nat} (h:w.has P r base a e n):a.spot=none∧a.block<w.heap.size:=by
  obtain ⟨_,h1,row,cells,h2,_⟩:=h
  refine ⟨h1,?_⟩
  unfold World.shape? at h2
  split at h2
  · rename_i hh
    exact (Array.getElem?_eq_some_iff.1 hh).1
  · cases h2
theorem ZV {P:Program} {W:World} {base:Nat} {t e:TypeId} (ht:P.underlying t=some (.slice e)) {v:Value} (hv:Value.okWide P W .any base t v) :
    v= .slice none 0 0∨∃ a n c,v= .slice (some a) n c∧n≤c∧a.spot=none∧a.block<W.heap.size:=by
  simp only [Value.okWide,ht,Cell.okWide,Cell.ok] at hv
  cases v with
  | slice o n c =>
    cases o with
    | none =>
      left
      cases n<;>cases c<;>first | rfl | exact hv.elim
    | some a=>exact .inr ⟨a,n,c,rfl,hv.1,ZU hv.2.2⟩
  | _=>exact hv.elim
section
variable {H:Type} {enc:TypeId×Value→H}
theorem Q5 {P:Program} {W:World} {base:Nat} {t e:TypeId} {k:IntKind} {v:Value} {d:DataW H} {ps:List MemPlace} (ht:P.underlying t=some (.slice e)) (he:P.underlying e=some (.int k)) (hc:P.cellsOf e=1)
    (hv:Value.okWide P W .any base t v) (h:DataW.Trod enc P W 0 (fun _=>true) true t v d ps) :
    ∃ L:List Int,Q0 W 1 v L.length (L.map (Value.int k))∧∀ x∈L,(Lit.int k x).wf=true:=by
  obtain ⟨fuel,h⟩:=h
  rcases ZV ht hv with rfl | ⟨a,n,c,rfl,hn,hs,hb⟩
  · exact ⟨[],⟨by simp,.inl ⟨rfl,rfl⟩⟩,by simp⟩
  · rcases ChangeShapes.open_ints ht he hc h with ⟨h1,_⟩ | ⟨a',len,cap,zs,h1,_,h3,h4,h5,_,h7,h8⟩
    · simp [Value.cells] at h1
    · simp only [Value.cells,List.cons.injEq,Value.slice.injEq,Option.some.injEq,and_true] at h1
      obtain ⟨rfl,rfl,rfl⟩:=h1
      simp only [if_true] at h5
      have hl:(zs.take n).length=n:=by simp; omega
      refine ⟨zs.take n,⟨by simp,.inr ⟨a,c,by rw [hl],hs,by rw [hl]; exact hn,hb,fun i u hu=>?_⟩⟩,fun x hx=>h8 x (List.mem_of_mem_take hx)⟩
      rw [List.getElem?_map,List.getElem?_take] at hu
      split at hu
      · rename_i hi
        have Jw:i<zs.length:=by omega
        have h9:=h7 i Jw
        rw [List.getElem?_eq_getElem Jw] at hu
        simp only [Option.map_some,Option.some.injEq] at hu
        have ha:(⟨a.block,a.off+i,none⟩:Addr)=a.add i:=by
          unfold Addr.add
          split
          · rename_i h0; subst h0; cases a; simp_all
          · rfl
        rw [ha,h9,← hu]
        simp [List.getD_eq_getElem?_getD,Jw]
      · cases hu
end
theorem Q6 (k:IntKind) (L:List Int):Self (L.map (Value.int k)):=fun u hu M=>by
  obtain ⟨x,_,rfl⟩:=List.mem_map.1 hu
  exact eG.2 rfl
section
variable {H:Type} {enc:TypeId×Value→H} {P:Program} {w:World} {base:Nat} {sp:Nat→Bool} {held:Bool}
end
section
variable {H:Type} {enc:TypeId×Value→H}
end
def Jx (G:GS) (M:Map):Prop:=∀ r,¬ eu G M r
theorem ZW:Jx GS.empty Map.empty:=fun r hf=>by
  rcases hf with ⟨g,x,o,hx,_⟩ | ⟨l,hl | hl⟩
  · cases hx
  · cases hl
  · cases hl
theorem Q7 {G:GS} {M:Map} {W:World} {sz n:Nat} {v:Value} {cs:List Value} (hR:Rel G M W W.heap.size) (hf:Jx G M) (h:Q0 W sz v n cs) (hs:Self cs) :
    ∃ G' M' gv,Rel G' M' W W.heap.size∧Jx G' M' ∧M.Le M' ∧Ext G G' ∧V M' gv v∧mf G' sz gv n cs∧Fit G' sz gv:=by
  rcases h.2 with ⟨rfl,rfl⟩ | ⟨a,c,rfl,g5,hn,hb,hc⟩
  · exact ⟨G,M,.slice none 0 0,hR,hf,.refl M,.refl G,jx.2 ⟨rfl,rfl,rfl⟩,⟨h.1,.inl ⟨rfl,rfl⟩⟩,fun a n c e=>(by cases e)⟩
  have m9:M.mu G.nx=none:=by
    cases hm:M.mu G.nx with
    | none=>rfl
    | some x=>exact absurd (hR.nx _ _ hm) (Nat.lt_irrefl _)
  let x:jv:=⟨a.block,a.off,0,sz,false,cs.length⟩
  have hM:M.Le (M.ext G.nx x):=Map.yB m9
  have dA:∀ g,g≠G.nx→(G.push ⟨cs,sz,false,0⟩).obj g=G.obj g:=fun g hg=>by rw [GS.kU,if_neg hg]
  have nT:(G.push ⟨cs,sz,false,0⟩).obj G.nx=some ⟨cs,sz,false,0⟩:=by rw [GS.kU,if_pos rfl]
  have jU:∀ g y,(M.ext G.nx x).mu g=some y→(g=G.nx∧y=x)∨(g≠G.nx∧M.mu g=some y):=by
    intro g y hy
    rw [Map.m7] at hy
    split at hy
    · rename_i he; exact .inl ⟨he,(Option.some.inj hy).symm⟩
    · rename_i he; exact .inr ⟨he,hy⟩
  refine ⟨G.push ⟨cs,sz,false,0⟩,M.ext G.nx x,.slice (some ⟨G.nx,0,none⟩) n c,⟨Nat.le_refl _,?_,?_,?_,?_,hR.jz,hR.mp,hR.jA,hR.iY,?_,fun g o ho hm=>by
    by_cases e:g=G.nx
    · rw [e,nT] at ho; cases ho; simp at hm
    · rw [dA g e] at ho
      exact hR.gl g o ho hm⟩,?_,hM,(Ext.refl G).push _,?_,⟨h.1,.inr ⟨G.nx,0,c,_,rfl,hn,by simp,nT,by simp,fun i _=>by simp⟩⟩,fun a' n' c' e' ob' cW nt=>(by cases e'; rw [nT] at cW; cases cW; cases nt)⟩
  · intro g y o hy ho
    rcases jU g y hy with ⟨rfl,rfl⟩ | ⟨hg,hy⟩
    · rw [nT] at ho
      obtain rfl:=Option.some.inj ho
      exact ⟨rfl,rfl,rfl,fun _ i u hu=>⟨u,hc i u hu,hs u (List.mem_of_getElem? hu) _⟩,(fun h=>by cases h),fun _ _=>hb⟩
    · rw [dA g hg] at ho
      have hb:=hR.aY g y o hy ho
      exact ⟨hb.esz,hb.opn,hb.len,fun hm=>nS hM (hb.cells hm) fun _ _ h _=>h,hb.own,hb.ro⟩
  · intro g g' y y' o o' hy qz ho cW hm jB he
    rcases jU g y hy with ⟨rfl,rfl⟩ | ⟨hg,hy⟩
    · rw [nT] at ho; obtain rfl:=Option.some.inj ho; cases hm
    rcases jU g' y' qz with ⟨rfl,rfl⟩ | ⟨dU,qz⟩
    · rw [nT] at cW; obtain rfl:=Option.some.inj cW; cases jB
    rw [dA g hg] at ho
    rw [dA g' dU] at cW
    exact hR.apart g g' y y' o o' hy qz ho cW hm jB he
  · intro g y hy
    show g<G.nx+1
    rcases jU g y hy with ⟨rfl,rfl⟩ | ⟨hg,hy⟩
    · omega
    · have:=hR.nx g y hy; omega
  · intro l r hl
    obtain ⟨h1,p,h2,h3,lo,h4,h5,h6,h7,h8⟩:=hR.lp l r hl
    exact ⟨h1,p,h2,h3,lo,h4,h5,h6,h7.mono hM,h8⟩
  · intro g hg
    have dU:G.nx+1≤g:=hg
    rw [dA g (by omega)]
    exact hR.wf g (by omega)
  · rintro r (⟨g,y,o,hy,ho,hm,rfl⟩ | ⟨l,hl⟩)
    · rcases jU g y hy with ⟨rfl,rfl⟩ | ⟨hg,hy⟩
      · rw [nT] at ho; obtain rfl:=Option.some.inj ho; cases hm
      · rw [dA g hg] at ho
        exact hf _ (.inl ⟨g,y,o,hy,ho,hm,rfl⟩)
    · exact hf _ (.inr ⟨l,hl⟩)
  · refine gC.2 ⟨x,a,c,by rw [Map.m7,if_pos rfl],rfl,hn,.inl rfl,fun _=>?_⟩
    obtain ⟨b,o,s⟩:=a
    simp only at g5
    subst g5
    rfl
end Go.Proofs.YtkhlabammcghbaaGreat.Gh
