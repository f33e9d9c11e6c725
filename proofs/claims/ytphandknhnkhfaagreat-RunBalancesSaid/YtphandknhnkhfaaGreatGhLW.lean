import Derived.Test.YtphandknhnkhfaaGreatGhPL
import Derived.Carry
import Derived.ChangeSlices
namespace Go.Proofs.YtphandknhnkhfaaGreat.Gh
open Go
set_option linter.unusedVariables false
set_option linter.unusedSimpArgs false
def PC (W:World) (sz:Nat) (v:Value) (n:Nat) (cs:List Value):Prop :=
  cs.length=n*sz∧(v= .slice none 0 0∧n=0∨∃ a c,v= .slice (some a) n c∧a.spot=none∧n≤c∧a.block<W.heap.size∧∀ i u,cs[i]? =some u→W.cell? ⟨a.block,a.off+i,none⟩=some u)
def Self (cs:List Value):Prop:=∀ u∈cs,∀ M,V M u u
theorem YO {P:Program} {w:World} {r:_root_.Go.Reach} {base:Nat} {a:Addr} {e:TypeId} {n:Nat} (h:w.has P r base a e n):a.spot=none∧a.block<w.heap.size:=by
  obtain ⟨_,h1,row,cells,h2,_⟩:=h
  refine ⟨h1,?_⟩
  unfold World.shape? at h2
  split at h2
  · rename_i hh
    exact (Array.getElem?_eq_some_iff.1 hh).1
  · cases h2
theorem YP {P:Program} {W:World} {base:Nat} {t e:TypeId} (ht:P.underlying t=some (.slice e)) {v:Value} (hv:Value.okWide P W .any base t v) :
    v= .slice none 0 0∨∃ a n c,v= .slice (some a) n c∧n≤c∧a.spot=none∧a.block<W.heap.size:=by
  simp only [Value.okWide,ht,Cell.okWide,Cell.ok] at hv
  cases v with
  | slice o n c =>
    cases o with
    | none =>
      left
      cases n<;>cases c<;>first | rfl | exact hv.elim
    | some a=>exact .inr ⟨a,n,c,rfl,hv.1,YO hv.2.2⟩
  | _=>exact hv.elim
section
variable {H:Type} {enc:TypeId×Value→H}
theorem PD {P:Program} {W:World} {base:Nat} {t e:TypeId} {k:IntKind} {v:Value} {d:DataW H} {ps:List MemPlace} (ht:P.underlying t=some (.slice e)) (he:P.underlying e=some (.int k)) (hc:P.cellsOf e=1)
    (hv:Value.okWide P W .any base t v) (h:DataW.Trod enc P W 0 (fun _=>true) true t v d ps) :
    ∃ L:List Int,PC W 1 v L.length (L.map (Value.int k))∧∀ x∈L,(Lit.int k x).wf=true:=by
  obtain ⟨fuel,h⟩:=h
  rcases YP ht hv with rfl | ⟨a,n,c,rfl,hn,hs,hb⟩
  · exact ⟨[],⟨by simp,.inl ⟨rfl,rfl⟩⟩,by simp⟩
  · rcases ChangeShapes.open_ints ht he hc h with ⟨h1,_⟩ | ⟨a',len,cap,zs,h1,_,h3,h4,h5,_,h7,h8⟩
    · simp [Value.cells] at h1
    · simp only [Value.cells,List.cons.injEq,Value.slice.injEq,Option.some.injEq,and_true] at h1
      obtain ⟨rfl,rfl,rfl⟩:=h1
      simp only [if_true] at h5
      have hl:(zs.take n).length=n:=by simp; omega
      refine ⟨zs.take n,⟨by simp,.inr ⟨a,c,by rw [hl],hs,by rw [hl]; exact hn,hb,fun i u hu=>?_⟩⟩,fun x hx=>h8 x (List.mem_of_mem_take hx)⟩
      rw [List.getElem?_map,List.getElem?_take] at hu
      split at hu
      · rename_i hi
        have Ip:i<zs.length:=by omega
        have h9:=h7 i Ip
        rw [List.getElem?_eq_getElem Ip] at hu
        simp only [Option.map_some,Option.some.injEq] at hu
        have ha:(⟨a.block,a.off+i,none⟩:Addr)=a.add i:=by
          unfold Addr.add
          split
          · rename_i h0; subst h0; cases a; simp_all
          · rfl
        rw [ha,h9,← hu]
        simp [List.getD_eq_getElem?_getD,Ip]
      · cases hu
end
theorem PE (k:IntKind) (L:List Int):Self (L.map (Value.int k)):=fun u hu M=>by
  obtain ⟨x,_,rfl⟩:=List.mem_map.1 hu
  exact eM.2 rfl
section
variable {H:Type} {enc:TypeId×Value→H} {P:Program} {w:World} {base:Nat} {sp:Nat→Bool} {held:Bool}
end
section
variable {H:Type} {enc:TypeId×Value→H}
end
def Iq (G:GS) (M:Map):Prop:=∀ r,¬ eF G M r
theorem YQ:Iq GS.empty Map.empty:=fun r hf=>by
  rcases hf with ⟨g,x,o,hx,_⟩ | ⟨l,hl | hl⟩
  · cases hx
  · cases hl
  · cases hl
theorem PF {G:GS} {M:Map} {W:World} {sz n:Nat} {v:Value} {cs:List Value} (hR:Rel G M W W.heap.size) (hf:Iq G M) (h:PC W sz v n cs) (hs:Self cs) :
    ∃ G' M' gv,Rel G' M' W W.heap.size∧Iq G' M' ∧M.Le M' ∧Ext G G' ∧V M' gv v∧mq G' sz gv n cs∧Fit G' sz gv:=by
  rcases h.2 with ⟨rfl,rfl⟩ | ⟨a,c,rfl,g7,hn,hb,hc⟩
  · exact ⟨G,M,.slice none 0 0,hR,hf,.refl M,.refl G,jN.2 ⟨rfl,rfl,rfl⟩,⟨h.1,.inl ⟨rfl,rfl⟩⟩,fun a n c e=>(by cases e)⟩
  have mW:M.mu G.nx=none:=by
    cases hm:M.mu G.nx with
    | none=>rfl
    | some x=>exact absurd (hR.nx _ _ hm) (Nat.lt_irrefl _)
  let x:jM:=⟨a.block,a.off,0,sz,false,cs.length⟩
  have hM:M.Le (M.ext G.nx x):=Map.yd mW
  have dH:∀ g,g≠G.nx→(G.push ⟨cs,sz,false,0⟩).obj g=G.obj g:=fun g hg=>by rw [GS.jR,if_neg hg]
  have nX:(G.push ⟨cs,sz,false,0⟩).obj G.nx=some ⟨cs,sz,false,0⟩:=by rw [GS.jR,if_pos rfl]
  have kD:∀ g y,(M.ext G.nx x).mu g=some y→(g=G.nx∧y=x)∨(g≠G.nx∧M.mu g=some y):=by
    intro g y hy
    rw [Map.mV] at hy
    split at hy
    · rename_i he; exact .inl ⟨he,(Option.some.inj hy).symm⟩
    · rename_i he; exact .inr ⟨he,hy⟩
  refine ⟨G.push ⟨cs,sz,false,0⟩,M.ext G.nx x,.slice (some ⟨G.nx,0,none⟩) n c,⟨Nat.le_refl _,?_,?_,?_,?_,hR.jO,hR.mp,hR.jP,hR.jj,?_,fun g o ho hm=>by
    by_cases e:g=G.nx
    · rw [e,nX] at ho; cases ho; simp at hm
    · rw [dH g e] at ho
      exact hR.gl g o ho hm⟩,?_,hM,(Ext.refl G).push _,?_,⟨h.1,.inr ⟨G.nx,0,c,_,rfl,hn,by simp,nX,by simp,fun i _=>by simp⟩⟩,fun a' n' c' e' PG da m0=>(by cases e'; rw [nX] at da; cases da; cases m0)⟩
  · intro g y o hy ho
    rcases kD g y hy with ⟨rfl,rfl⟩ | ⟨hg,hy⟩
    · rw [nX] at ho
      obtain rfl:=Option.some.inj ho
      exact ⟨rfl,rfl,rfl,fun _ i u hu=>⟨u,hc i u hu,hs u (List.mem_of_getElem? hu) _⟩,(fun h=>by cases h),fun _ _=>hb⟩
    · rw [dH g hg] at ho
      have hb:=hR.aZ g y o hy ho
      exact ⟨hb.esz,hb.opn,hb.len,fun hm=>nW hM (hb.cells hm) fun _ _ h _=>h,hb.own,hb.ro⟩
  · intro g g' y y' o o' hy sX ho da hm jS he
    rcases kD g y hy with ⟨rfl,rfl⟩ | ⟨hg,hy⟩
    · rw [nX] at ho; obtain rfl:=Option.some.inj ho; cases hm
    rcases kD g' y' sX with ⟨rfl,rfl⟩ | ⟨eZ,sX⟩
    · rw [nX] at da; obtain rfl:=Option.some.inj da; cases jS
    rw [dH g hg] at ho
    rw [dH g' eZ] at da
    exact hR.apart g g' y y' o o' hy sX ho da hm jS he
  · intro g y hy
    show g<G.nx+1
    rcases kD g y hy with ⟨rfl,rfl⟩ | ⟨hg,hy⟩
    · omega
    · have:=hR.nx g y hy; omega
  · intro l r hl
    obtain ⟨h1,p,h2,h3,lo,h4,h5,h6,h7,h8⟩:=hR.lp l r hl
    exact ⟨h1,p,h2,h3,lo,h4,h5,h6,h7.mono hM,h8⟩
  · intro g hg
    have eZ:G.nx+1≤g:=hg
    rw [dH g (by omega)]
    exact hR.wf g (by omega)
  · rintro r (⟨g,y,o,hy,ho,hm,rfl⟩ | ⟨l,hl⟩)
    · rcases kD g y hy with ⟨rfl,rfl⟩ | ⟨hg,hy⟩
      · rw [nX] at ho; obtain rfl:=Option.some.inj ho; cases hm
      · rw [dH g hg] at ho
        exact hf _ (.inl ⟨g,y,o,hy,ho,hm,rfl⟩)
    · exact hf _ (.inr ⟨l,hl⟩)
  · refine gN.2 ⟨x,a,c,by rw [Map.mV,if_pos rfl],rfl,hn,.inl rfl,fun _=>?_⟩
    obtain ⟨b,o,s⟩:=a
    simp only at g7
    subst g7
    rfl
end Go.Proofs.YtphandknhnkhfaaGreat.Gh
