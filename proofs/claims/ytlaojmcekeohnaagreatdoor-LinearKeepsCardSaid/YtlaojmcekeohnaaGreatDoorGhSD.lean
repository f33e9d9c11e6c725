import Derived.Test.YtlaojmcekeohnaaGreatDoorGhT
namespace Go.Proofs.YtlaojmcekeohnaaGreatDoor.Gh
open Go
set_option linter.unusedVariables false
noncomputable section
def sortF:Nat:=4294967297
def sortC:Nat:=196
def ansF:Nat:=4294967299
def ansG:Nat:=4294967300
def ansL:List (List (IntKind×Int)×(IntKind×Int)):=[]
def litV (l:List (IntKind×Int)):List Value:=l.map fun x=> .int x.1 x.2
def isLit:List (IntKind×Int)→List Value→Bool
  | [],[]=>true
  | (k,x)::l,.int k' y::vs=>decide (k=k')&&decide (x=y)&&isLit l vs
  | _,_=>false
theorem isLit_eq:∀ {l:List (IntKind×Int)} {vs:List Value},isLit l vs=true→vs=litV l
  | [],[],_=>rfl
  | (k,x)::l,.int k' y::vs,h=>by
    simp only [isLit,Bool.and_eq_true,decide_eq_true_eq] at h
    rw [isLit_eq h.2,← h.1.1,← h.1.2]; rfl
def ansFind:List (List (IntKind×Int)×(IntKind×Int))→List Value→Option Value
  | [],_=>none
  | x::t,vs=>if isLit x.1 vs=true then some (.int x.2.1 x.2.2) else ansFind t vs
theorem ansFind_some:∀ {L:List (List (IntKind×Int)×(IntKind×Int))} {vs:List Value} {v:Value},ansFind L vs=some v→∃ x,x∈L∧vs=litV x.1∧v= .int x.2.1 x.2.2
  | x::t,vs,v,h=>by
    unfold ansFind at h
    split at h
    · rename_i hx; cases h; exact ⟨x,List.mem_cons_self ..,isLit_eq hx,rfl⟩
    · obtain ⟨y,h1,h2⟩:=ansFind_some h; exact ⟨y,List.mem_cons_of_mem _ h1,h2⟩
def ans (vs:List Value) (G:GS):Option (Value×GS):=match ansFind ansL vs with | some v=>some (v,G) | none=>none
def AnsOk (P:Program):Prop:=∀ fn,P.funcs[ansF]? =some fn→(fn.name == "runtime.NumGoroutine")=false∧fn.body.isSome=true ∧
  ∀ x,x∈ansL→∀ w,Calls P ansF (litV x.1).toArray w fun e w' =>e= .returned (.int x.2.1 x.2.2)∧Go.RowKit.Below w.heap.size w w'
theorem ansOk_none {P:Program} (h:(P.funcs[ansF]?).isNone=true):AnsOk P:=fun fn hf=>by rw [hf] at h; cases h
def intsU (l:List Value):Option (List Int) :=
  List.rec (motive:=fun _=>Option (List Int)) (some []) (fun v _ ih=>match v with | .int .u64 x=>(match ih with | some l=>some (x::l) | none=>none) | _=>none) l
theorem intsU_cons (v:Value) (l:List Value):intsU (v::l)=none∨∃ x,v= .int .u64 x∧intsU (v::l)=(intsU l).map (x::·):=by
  cases v with
  | int k x =>
    cases k with
    | u64 =>
      refine .inr ⟨x,rfl,?_⟩
      generalize hl:intsU l=y
      have:intsU (Value.int .u64 x::l)=(match intsU l with | some l=>some (x::l) | none=>none):=rfl
      rw [this,hl]
      cases y<;>rfl
    | _=>exact .inl rfl
  | _=>exact .inl rfl
theorem intsU_some:∀ {l:List Value} {L:List Int},intsU l=some L→l=L.map (Value.int .u64)
  | [],L,h=>by cases h; rfl
  | v::l,L,h=>by
    rcases intsU_cons v l with h1 | ⟨x,rfl,h1⟩
    · rw [h1] at h; cases h
    · rw [h1] at h
      cases hl:intsU l with
      | none=>rw [hl] at h; cases h
      | some l' =>rw [hl] at h; cases h; rw [intsU_some hl]; rfl
def insI (x:Int) (l:List Int):List Int :=
  List.rec (motive:=fun _=>List Int) [x] (fun y r ih=>if x≤y then x::y::r else y::ih) l
def sortI (l:List Int):List Int:=List.rec (motive:=fun _=>List Int) [] (fun x _ ih=>insI x ih) l
theorem insI_cons (x y:Int) (r:List Int):insI x (y::r)=if x≤y then x::y::r else y::insI x r:=rfl
theorem insI_perm (x:Int):∀ l:List Int,(insI x l).Perm (x::l)
  | []=> .refl _
  | y::r=>by
    rw [insI_cons]
    split
    · exact .refl _
    · exact ((insI_perm x r).cons y).trans (.swap x y r)
theorem sortI_perm:∀ l:List Int,(sortI l).Perm l
  | []=> .refl _
  | x::l=>(insI_perm x (sortI l)).trans ((sortI_perm l).cons x)
theorem sortI_len (l:List Int):(sortI l).length=l.length:=(sortI_perm l).length_eq
def srt (vs:List Value) (G:GS):Option (Value×GS):=match vs with
  | [.slice _ 0 _,.func (.func g) ⟨[]⟩ ⟨[]⟩]=>if Nat.beq g sortC=true then some (.tuple #[],G) else none
  | [.slice (some ⟨b,o,none⟩) (n+1) _,.func (.func g) ⟨[]⟩ ⟨[]⟩] =>
    if (Nat.beq g sortC&&Nat.ble n 1000000000000)=true then (match rdN G b o (n+1) with
      | some l=>(match intsU l with
        | some L=>(match wrN G b o ((sortI L).map (Value.int .u64)) with
          | some G' =>some (.tuple #[],G')
          | none=>none)
        | none=>none)
      | none=>none) else none
  | _=>none
def SortOk (P:Program):Prop :=
  ∀ fn,P.funcs[sortF]? =some fn→(fn.name == "runtime.NumGoroutine")=false∧fn.body.isSome=true ∧
    (∀ (w:World) (p:Option Addr) (cap:Nat),Calls P sortF #[.slice p 0 cap,.func (.func sortC) #[] #[]] w fun e w' =>e= .returned (.tuple #[])∧w' =w) ∧
    ∀ (w:World) (blk off cap:Nat) (L:List Int) (c:Array Value) (e:TypeId),w.heap[blk]? =some (.cells c e (0,0))→off+L.length≤c.size→(∀ (j:Nat) (v:Value),(L.map (Value.int .u64))[j]? =some v→c[off+j]? =some v)→0<L.length→L.length<4611686018427387904 →
      Calls P sortF #[.slice (some ⟨blk,off,none⟩) L.length cap,.func (.func sortC) #[] #[]] w fun r w' =>r= .returned (.tuple #[])∧∃ (os:List Obj) (d:Nat),w' ={ (os.foldl (fun w o=>w.alloc o) (World.putCells w blk (setMany c off ((sortI L).map (Value.int .u64))) e)) with drawn:=d }
theorem Rel.allocs {M:Map} {B:Nat} {G:GS}:∀ (os:List Obj) {w:World},Rel G M w B→Rel G M (os.foldl (fun w o=>w.alloc o) w) B∧Evo G M w G M (os.foldl (fun w o=>w.alloc o) w)
  | [],w,h=>⟨h,⟨.refl M,Nat.le_refl _,fun r hr _=>rfl,fun _ h=> .inl h,rfl,rfl,rfl,Nat.le_refl _,fun _ _ h=>⟨h,rfl⟩,fun _ _ h=>h⟩⟩
  | o::os,w,h=>by
    obtain ⟨h1,h2⟩:=h.other o
    obtain ⟨h3,h4⟩:=Rel.allocs os h1
    exact ⟨h3,h2.trans h4⟩
theorem srt_run {P:Program} {fn:Func} (hS:SortOk P) (hf:P.funcs[sortF]? =some fn) {vs:List Value} {G G' :GS} {v:Value} (h:srt vs G=some (v,G')) {M:Map} {w:World} {B:Nat} {args:Array Value} (hR:Rel G M w B) (hv:Vs M vs args.toList) :
    Calls P sortF args w fun e w' =>e= .returned (.tuple #[])∧v= .tuple #[]∧Rel G' M w' B∧Evo G M w G' M w' :=by
  obtain ⟨_,_,hN,hC⟩:=hS fn hf
  unfold srt at h
  split at h
  · rename_i p0 c0 g
    split at h
    · rename_i hg
      obtain rfl:=Nat.eq_of_beq_eq_true hg
      cases h
      obtain ⟨p,cap,hargs⟩:∃ p cap,args= #[.slice p 0 cap,.func (.func sortC) #[] #[]]:=by
        obtain ⟨l⟩:=args
        match l,hv with
        | [a,b],hv =>
          obtain ⟨ha,hb,_⟩:=hv
          obtain ⟨f',a',b',rfl,hff,h1,h2⟩:=V_func.1 hb
          cases hff
          have e1:a' = #[]:=Array.eq_empty_of_size_eq_zero (by simpa using (lrel_length h1).symm)
          have e2:b' = #[]:=Array.eq_empty_of_size_eq_zero (by simpa using (lrel_length h2).symm)
          rw [e1,e2]
          cases p0 with
          | none=>obtain ⟨_,_,rfl⟩:=V_nilSlice.1 ha; exact ⟨_,_,rfl⟩
          | some p1=>obtain ⟨x,b1,cr,_,rfl,_⟩:=V_slice.1 ha; exact ⟨_,_,rfl⟩
      subst hargs
      refine (hN w p cap).mono fun e w' ⟨h1,h2⟩=> ?_
      subst h2
      obtain ⟨h3,h4⟩:=Rel.allocs [] hR
      exact ⟨h1,rfl,h3,h4⟩
    · cases h
  · rename_i b o n cap g
    split at h
    · rename_i hgn
      obtain ⟨hg,hn62⟩:=(Bool.and_eq_true _ _).mp hgn
      have hn62:=Nat.le_of_ble_eq_true hn62
      obtain rfl:=Nat.eq_of_beq_eq_true hg
      split at h
      · rename_i l hl
        split at h
        · rename_i L hL
          split at h
          · rename_i G1 hG
            obtain ⟨rfl,rfl⟩:v= .tuple #[]∧G' =G1:=by cases h; exact ⟨rfl,rfl⟩
            obtain ⟨l'⟩:=args
            match l',hv with
            | [a,f],hv =>
              obtain ⟨ha,hb,_⟩:=hv
              obtain ⟨x,b',cr,hx,rfl,hlc,hcr,hb'⟩:=V_slice.1 ha
              obtain ⟨f',a',b'',rfl,hff,h1,h2⟩:=V_func.1 hb
              cases hff
              have e1:a' = #[]:=Array.eq_empty_of_size_eq_zero (by simpa using (lrel_length h1).symm)
              have e2:b'' = #[]:=Array.eq_empty_of_size_eq_zero (by simpa using (lrel_length h2).symm)
              subst e1; subst e2
              have hcr0:cr≠0:=by
                rcases hcr with h | ⟨_,_,h⟩<;>omega
              obtain rfl:=hb' hcr0
              have hmap:=intsU_some hL
              obtain ⟨us,hus,hun,hcell⟩:=rd_run hR hx hl
              have hlen:L.length=n+1:=by have:=lrel_length hus; rw [hmap,List.length_map] at this; omega
              have hus' :us=L.map (Value.int .u64):=by
                refine List.ext_getElem? fun j=> ?_
                rcases Nat.lt_or_ge j L.length with hj | hj
                · obtain ⟨y,hy,hV⟩:=(lrel_iff.1 hus).2 j (.int .u64 L[j]) (by rw [hmap]; simp [hj])
                  rw [hy,V_int.1 hV]; simp [hj]
                · rw [List.getElem?_eq_none (by omega),List.getElem?_eq_none (by simp; omega)]
              subst hus'
              unfold wrN at hG
              split at hG
              · rename_i ob ho
                split at hG
                · rename_i hm
                  simp only [Bool.and_eq_true,decide_eq_true_eq] at hm
                  split at hG
                  · rename_i cs hcs
                    simp only [Option.some.injEq] at hG
                    obtain ⟨g1,g2,g3⟩:=splice_spec hcs
                    rw [List.length_map,sortI_len,hlen] at g2
                    have hb:=hR.blk b x ob hx ho
                    obtain ⟨hB,c0,e,hc0,hsz⟩:=hb.own hm.1
                    have hxl:=hb.len
                    have hslen:((sortI L).map (Value.int .u64)).length=n+1:=by rw [List.length_map,sortI_len,hlen]
                    have hw:=hR.write (c' :=setMany c0 (x.off+o) ((sortI L).map (Value.int .u64))) (m:=1) hx ho hm.1 hc0 (setMany_size _ _ _) g1 (.inl rfl) (by
                      intro _ i v hv1
                      rw [g3 i] at hv1
                      rw [setMany_get _ c0 _ _ (by omega)]
                      by_cases hcnd:o≤i∧i<o+((sortI L).map (Value.int .u64)).length
                      · rw [if_pos hcnd] at hv1
                        rw [if_pos (by omega)]
                        refine ⟨v,by rw [← hv1,show x.off+i - (x.off+o)=i - o by omega],?_⟩
                        rw [List.getElem?_map] at hv1
                        cases hk:(sortI L)[i - o]? with
                        | none=>rw [hk] at hv1; cases hv1
                        | some k=>rw [hk] at hv1; cases hv1; exact V_int.2 rfl
                      · rw [if_neg hcnd] at hv1
                        rw [if_neg (by omega)]
                        obtain ⟨u,hu,hV⟩:=hb.cells (by rw [hm.1]; omega) i v hv1
                        rw [cell_of_heap hc0] at hu
                        exact ⟨u,hu,hV⟩)
                    have hG1:G.put b { ob with cells:=cs,mode:=1 }=G' :=by
                      rw [← hG]; obtain ⟨a,b,c,d⟩:=ob; simp only at hm; rw [hm.1]
                    rw [hG1] at hw
                    have hcall:=hC w x.blk (x.off+o) cr L c0 e hc0 (by omega) (fun j v hj=>by have:=hcell j v hj; rw [cell_of_heap hc0] at this; rw [← this]) (by omega) (by omega)
                    rw [hlen] at hcall
                    refine hcall.mono fun r w' ⟨h1,os,d,h2⟩=> ?_
                    subst h2
                    obtain ⟨h3,h4⟩:=Rel.allocs os hw.1
                    exact ⟨h1,rfl,h3.drawn d,(hw.2.trans h4).drawn d⟩
                  · cases hG
                · cases hG
              · cases hG
          · cases h
        · cases h
      · cases h
    · cases h
  · cases h
theorem sortOk_none {P:Program} (h:(P.funcs[sortF]?).isNone=true):SortOk P:=fun fn hf=>by rw [hf] at h; cases h
end
end Go.Proofs.YtlaojmcekeohnaaGreatDoor.Gh
