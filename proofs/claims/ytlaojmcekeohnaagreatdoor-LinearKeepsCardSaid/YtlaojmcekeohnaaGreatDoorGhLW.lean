import Derived.Test.YtlaojmcekeohnaaGreatDoorGhPL
import Derived.Carry
import Derived.ChangeSlices
namespace Go.Proofs.YtlaojmcekeohnaaGreatDoor.Gh
open Go
set_option linter.unusedVariables false
set_option linter.unusedSimpArgs false
def ArgSl (W:World) (sz:Nat) (v:Value) (n:Nat) (cs:List Value):Prop :=
  cs.length=n*sz∧(v= .slice none 0 0∧n=0∨∃ a c,v= .slice (some a) n c∧a.spot=none∧n≤c∧a.block<W.heap.size∧∀ i u,cs[i]? =some u→W.cell? ⟨a.block,a.off+i,none⟩=some u)
def Self (cs:List Value):Prop:=∀ u∈cs,∀ M,V M u u
theorem has_lt {P:Program} {w:World} {r:_root_.Go.Reach} {base:Nat} {a:Addr} {e:TypeId} {n:Nat} (h:w.has P r base a e n):a.spot=none∧a.block<w.heap.size:=by
  obtain ⟨_,h1,row,cells,h2,_⟩:=h
  refine ⟨h1,?_⟩
  unfold World.shape? at h2
  split at h2
  · rename_i hh
    exact (Array.getElem?_eq_some_iff.1 hh).1
  · cases h2
theorem arg_slice {P:Program} {W:World} {base:Nat} {t e:TypeId} (ht:P.underlying t=some (.slice e)) {v:Value} (hv:Value.okWide P W .any base t v) :
    v= .slice none 0 0∨∃ a n c,v= .slice (some a) n c∧n≤c∧a.spot=none∧a.block<W.heap.size:=by
  simp only [Value.okWide,ht,Cell.okWide,Cell.ok] at hv
  cases v with
  | slice o n c =>
    cases o with
    | none =>
      left
      cases n<;>cases c<;>first | rfl | exact hv.elim
    | some a=>exact .inr ⟨a,n,c,rfl,hv.1,has_lt hv.2.2⟩
  | _=>exact hv.elim
section
variable {H:Type} {enc:TypeId×Value→H}
end
abbrev Kd:=Option IntKind
def leafFs (P:Program) (lf:TypeId→Option (List Kd)):Nat→List Field→Option (List Kd)
  | _,[]=>some []
  | off,f::r=>match lf f.type with
    | some ks=>if f.offset=off∧P.cellsOf f.type=ks.length then (match leafFs P lf (off+ks.length) r with | some l=>some (ks++l) | none=>none) else none
    | none=>none
def leafs (P:Program):Nat→TypeId→Option (List Kd)
  | 0,_=>none
  | d+1,t=>match P.underlying t with
    | some .bool=>some [none]
    | some (.int k)=>some [some k]
    | some (.struct fs)=>leafFs P (leafs P d) 0 fs.toList
    | _=>none
def Leaf (k:Kd) (c:Value):Prop:=match k with | some k=>∃ n,c= .int k n∧(Lit.int k n).wf=true | none=>∃ b,c= .bool b
abbrev Row (ks:List Kd) (cs:List Value):Prop:=lrel Leaf ks cs
theorem row_self {ks:List Kd} {cs:List Value} (h:Row ks cs):Self cs:=by
  intro u hu M
  obtain ⟨i,hi⟩:=List.getElem?_of_mem hu
  obtain ⟨hl,hr⟩:=lrel_iff.1 h
  have hlt:i<ks.length:=by rw [hl]; exact (List.getElem?_eq_some_iff.1 hi).1
  obtain ⟨y,hy,hL⟩:=hr i ks[i] (List.getElem?_eq_getElem hlt)
  rw [hi] at hy
  obtain rfl:=Option.some.inj hy
  cases hk:ks[i] with
  | some k=>rw [hk] at hL; obtain ⟨n,rfl,_⟩:=hL; exact V_int.2 rfl
  | none=>rw [hk] at hL; obtain ⟨b,rfl⟩:=hL; exact V_bool.2 rfl
section
variable {H:Type} {enc:TypeId×Value→H} {P:Program} {w:World} {base:Nat} {sp:Nat→Bool} {held:Bool}
theorem row_of:∀ (d:Nat) (t:TypeId) (ks:List Kd) (n:Nat) (cs:List Value) (x:DataW H×List MemPlace),leafs P d t=some ks→P.cellsOf t=ks.length→DataW.trod enc P w base sp held n t cs=some x→Row ks cs:=by
  intro d
  induction d with
  | zero=>intro t ks n cs x h; cases h
  | succ d ih =>
    intro t ks n cs x h hz hx
    simp only [leafs] at h
    split at h
    · rename_i hu
      obtain ⟨b,rfl,_⟩:=DataW.trod_bool hu hx
      cases h
      exact ⟨⟨b,rfl⟩,trivial⟩
    · rename_i k hu
      obtain ⟨m,rfl,_,hw⟩:=DataW.trod_int hu hx
      cases h
      exact ⟨⟨m,rfl,hw⟩,trivial⟩
    · rename_i fs hu
      obtain ⟨xs,m,rfl,_,hl,hlen,hf⟩:=DataW.trod_struct hu hx
      have hall:∀ f∈fs.toList,∃ x,DataW.trod enc P w base sp held m f.type ((cs.drop f.offset).take (P.cellsOf f.type))=some x:=by
        intro f hfm
        obtain ⟨i,hi⟩:=List.getElem?_of_mem hfm
        have h1:=hf i f (by simpa using hi)
        have:i<xs.length:=by rw [hlen]; have:=(List.getElem?_eq_some_iff.1 hi).1; simpa using this
        exact ⟨xs[i],by rw [h1,List.getElem?_eq_getElem this]⟩
      -- the cells of a field's type are as many as its leafs: asked for by leafFs
      have key:∀ (fs:List Field) (off:Nat) (ks:List Kd),leafFs P (leafs P d) off fs=some ks→(∀ f∈fs,∃ x,DataW.trod enc P w base sp held m f.type ((cs.drop f.offset).take (P.cellsOf f.type))=some x)→Row ks ((cs.drop off).take ks.length):=by
        intro fs
        induction fs with
        | nil =>
          intro off ks h _
          simp only [leafFs,Option.some.injEq] at h
          subst h
          simp [lrel]
        | cons f r ihf =>
          intro off ks h hx
          simp only [leafFs] at h
          split at h
          · rename_i k1 hk
            split at h
            · rename_i hc
              split at h
              · rename_i k2 hk2
                simp only [Option.some.injEq] at h
                subst h
                obtain ⟨x,hx1⟩:=hx f (by simp)
                have h1:=ih _ _ _ _ _ hk hc.2 hx1
                have h2:=ihf _ _ hk2 fun g hg=>hx g (by simp [hg])
                rw [hc.1,hc.2] at h1
                have e:(cs.drop off).take (k1++k2).length=(cs.drop off).take k1.length++(cs.drop (off+k1.length)).take k2.length:=by
                  rw [List.length_append,List.take_add,List.drop_drop]
                rw [e]
                exact lrel_append h1 h2
              · cases h
            · cases h
          · cases h
      have:=key fs.toList 0 ks h hall
      rw [List.drop_zero,← hz,← hl,List.take_length] at this
      exact this
    · cases h
theorem cells_get {w:World} {base:Nat} {a:Addr} (hs:a.spot=none) {k m:Nat} {cs:List Value} (h:w.cells? base (a.add k) m=some cs):cs.length=m∧∀ i u,cs[i]? =some u→w.cell? ⟨a.block,a.off+k+i,none⟩=some u:=by
  obtain ⟨_,h1,h2⟩:=World.cells?_some h
  refine ⟨h1,fun i u hu=> ?_⟩
  have hi:i<m:=by rw [← h1]; exact (List.getElem?_eq_some_iff.1 hu).1
  have:=h2 i hi
  have ha:(a.add k).add i=⟨a.block,a.off+k+i,none⟩:=by
    cases a
    simp only at hs
    subst hs
    unfold Addr.add
    by_cases hk:k=0<;>by_cases hi:i=0<;>simp [hk,hi]
  rw [ha] at this
  rw [this,hu]
end
section
variable {H:Type} {enc:TypeId×Value→H}
theorem open_slice_rows {P:Program} {W:World} {base:Nat} {t e:TypeId} {v:Value} {d:DataW H} {ps:List MemPlace} {ks:List Kd} (ht:P.underlying t=some (.slice e)) (hk:leafs P 8 e=some ks) (hc:P.cellsOf e=ks.length)
    (hv:Value.okWide P W .any base t v) (h:DataW.Trod enc P W 0 (fun _=>true) true t v d ps) :
    ∃ R:List (List Value),ArgSl W ks.length v R.length R.flatten∧∀ r∈R,Row ks r:=by
  obtain ⟨fuel,h⟩:=h
  rcases arg_slice ht hv with rfl | ⟨a,n,c,rfl,hn,hs,hb⟩
  · exact ⟨[],⟨by simp,.inl ⟨rfl,rfl⟩⟩,by simp⟩
  · rcases DataW.trod_slice ht h with ⟨h1,_⟩ | ⟨a',len,cap,elems,rest,m,_,h1,_,_,_,_,h5,h6,_⟩
    · simp [Value.cells] at h1
    · simp only [Value.cells,List.cons.injEq,Value.slice.injEq,Option.some.injEq,and_true] at h1
      obtain ⟨rfl,rfl,rfl⟩:=h1
      -- element by element
      have hel:∀ i,i<n→∃ cs,W.cells? 0 (a.add (i*ks.length)) ks.length=some cs∧Row ks cs:=by
        intro i hi
        have h7:=h6 i hi
        rw [List.getElem?_eq_getElem (by omega),Option.bind_eq_some_iff] at h7
        obtain ⟨cs,h8,h9⟩:=h7
        rw [hc] at h8
        exact ⟨cs,h8,row_of 8 e ks m cs _ hk hc h9⟩
      let row (i:Nat):List Value:=(W.cells? 0 (a.add (i*ks.length)) ks.length).getD []
      have hrow:∀ i,i<n→W.cells? 0 (a.add (i*ks.length)) ks.length=some (row i)∧Row ks (row i):=fun i hi=>by
        obtain ⟨cs,h1,h2⟩:=hel i hi
        have:row i=cs:=by simp [row,h1]
        rw [this]; exact ⟨h1,h2⟩
      have hfl:∀ k,k≤n→(((List.range k).map row).flatten.length=k*ks.length∧∀ i u,((List.range k).map row).flatten[i]? =some u→W.cell? ⟨a.block,a.off+i,none⟩=some u):=by
        intro k
        induction k with
        | zero=>intro _; simp
        | succ k ihk =>
          intro hk'
          obtain ⟨q1,q2⟩:=ihk (by omega)
          obtain ⟨q3,q4⟩:=cells_get hs (hrow k (by omega)).1
          rw [List.range_succ,List.map_append,List.flatten_append]
          refine ⟨by simp [q1,q3,Nat.add_mul],fun i u hu=> ?_⟩
          rw [List.getElem?_append] at hu
          split at hu
          · exact q2 i u hu
          · rename_i hge
            rw [q1] at hu hge
            have:=q4 (i - k*ks.length) u (by simpa using hu)
            rw [show a.off+k*ks.length+(i - k*ks.length)=a.off+i by omega] at this
            exact this
      refine ⟨(List.range n).map row,⟨?_,.inr ⟨a,c,by simp,hs,by simpa using hn,hb,(hfl n (Nat.le_refl _)).2⟩⟩,fun r hr=> ?_⟩
      · have:=(hfl n (Nat.le_refl _)).1
        simpa using this
      · obtain ⟨i,hi,rfl⟩:=List.mem_map.1 hr
        exact (hrow i (by simpa using hi)).2
end
theorem self_rows {ks:List Kd} {R:List (List Value)} (h:∀ r∈R,Row ks r):Self R.flatten:=fun u hu M=>by
  obtain ⟨r,hr,hu⟩:=List.mem_flatten.1 hu
  exact row_self (h r hr) u hu M
def NoFoot (G:GS) (M:Map):Prop:=∀ r,¬ foot G M r
theorem rel_argF {G:GS} {M:Map} {W:World} {sz n:Nat} {v:Value} {cs:List Value} (hR:Rel G M W W.heap.size) (hf:NoFoot G M) (h:ArgSl W sz v n cs) (hs:Self cs) :
    ∃ G' M' gv,Rel G' M' W W.heap.size∧NoFoot G' M' ∧M.Le M' ∧Ext G G' ∧V M' gv v∧SlIs G' sz gv n cs∧Fit G' sz gv:=by
  rcases h.2 with ⟨rfl,rfl⟩ | ⟨a,c,rfl,hsp,hn,hb,hc⟩
  · exact ⟨G,M,.slice none 0 0,hR,hf,.refl M,.refl G,V_nilSlice.2 ⟨rfl,rfl,rfl⟩,⟨h.1,.inl ⟨rfl,rfl⟩⟩,fun a n c e=>(by cases e)⟩
  have hnone:M.mu G.nx=none:=by
    cases hm:M.mu G.nx with
    | none=>rfl
    | some x=>exact absurd (hR.nx _ _ hm) (Nat.lt_irrefl _)
  let x:Blk:=⟨a.block,a.off,0,sz,false,cs.length⟩
  have hM:M.Le (M.ext G.nx x):=Map.le_ext hnone
  have hobj:∀ g,g≠G.nx→(G.push ⟨cs,sz,false,0⟩).obj g=G.obj g:=fun g hg=>by rw [GS.obj_push,if_neg hg]
  have hobjn:(G.push ⟨cs,sz,false,0⟩).obj G.nx=some ⟨cs,sz,false,0⟩:=by rw [GS.obj_push,if_pos rfl]
  have hmu:∀ g y,(M.ext G.nx x).mu g=some y→(g=G.nx∧y=x)∨(g≠G.nx∧M.mu g=some y):=by
    intro g y hy
    rw [Map.ext_mu] at hy
    split at hy
    · rename_i he; exact .inl ⟨he,(Option.some.inj hy).symm⟩
    · rename_i he; exact .inr ⟨he,hy⟩
  refine ⟨G.push ⟨cs,sz,false,0⟩,M.ext G.nx x,.slice (some ⟨G.nx,0,none⟩) n c,⟨Nat.le_refl _,?_,?_,?_,?_,hR.lpinj,hR.mp,hR.mpinj,hR.mplp,?_,fun g o ho hm=>by
    by_cases e:g=G.nx
    · rw [e,hobjn] at ho; cases ho; simp at hm
    · rw [hobj g e] at ho
      exact hR.gl g o ho hm⟩,?_,hM,(Ext.refl G).push _,?_,⟨h.1,.inr ⟨G.nx,0,c,_,rfl,hn,by simp,hobjn,by simp,fun i _=>by simp⟩⟩,fun a' n' c' e' ob' ho' hop' =>(by cases e'; rw [hobjn] at ho'; cases ho'; cases hop')⟩
  · intro g y o hy ho
    rcases hmu g y hy with ⟨rfl,rfl⟩ | ⟨hg,hy⟩
    · rw [hobjn] at ho
      obtain rfl:=Option.some.inj ho
      exact ⟨rfl,rfl,rfl,fun _ i u hu=>⟨u,hc i u hu,hs u (List.mem_of_getElem? hu) _⟩,(fun h=>by cases h),fun _ _=>hb⟩
    · rw [hobj g hg] at ho
      have hb:=hR.blk g y o hy ho
      exact ⟨hb.esz,hb.opn,hb.len,fun hm=>cells_mono hM (hb.cells hm) fun _ _ h _=>h,hb.own,hb.ro⟩
  · intro g g' y y' o o' hy hy' ho ho' hm hm' he
    rcases hmu g y hy with ⟨rfl,rfl⟩ | ⟨hg,hy⟩
    · rw [hobjn] at ho; obtain rfl:=Option.some.inj ho; cases hm
    rcases hmu g' y' hy' with ⟨rfl,rfl⟩ | ⟨hg',hy'⟩
    · rw [hobjn] at ho'; obtain rfl:=Option.some.inj ho'; cases hm'
    rw [hobj g hg] at ho
    rw [hobj g' hg'] at ho'
    exact hR.apart g g' y y' o o' hy hy' ho ho' hm hm' he
  · intro g y hy
    show g<G.nx+1
    rcases hmu g y hy with ⟨rfl,rfl⟩ | ⟨hg,hy⟩
    · omega
    · have:=hR.nx g y hy; omega
  · intro l r hl
    obtain ⟨h1,p,h2,h3,lo,h4,h5,h6,h7,h8⟩:=hR.lp l r hl
    exact ⟨h1,p,h2,h3,lo,h4,h5,h6,h7.mono hM,h8⟩
  · intro g hg
    have hg' :G.nx+1≤g:=hg
    rw [hobj g (by omega)]
    exact hR.wf g (by omega)
  · rintro r (⟨g,y,o,hy,ho,hm,rfl⟩ | ⟨l,hl⟩)
    · rcases hmu g y hy with ⟨rfl,rfl⟩ | ⟨hg,hy⟩
      · rw [hobjn] at ho; obtain rfl:=Option.some.inj ho; cases hm
      · rw [hobj g hg] at ho
        exact hf _ (.inl ⟨g,y,o,hy,ho,hm,rfl⟩)
    · exact hf _ (.inr ⟨l,hl⟩)
  · refine V_slice.2 ⟨x,a,c,by rw [Map.ext_mu,if_pos rfl],rfl,hn,.inl rfl,fun _=> ?_⟩
    obtain ⟨b,o,s⟩:=a
    simp only at hsp
    subst hsp
    rfl
end Go.Proofs.YtlaojmcekeohnaaGreatDoor.Gh
