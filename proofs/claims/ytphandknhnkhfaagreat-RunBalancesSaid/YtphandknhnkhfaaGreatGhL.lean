import Derived.Test.YtphandknhnkhfaaGreatEA
namespace Go.Proofs.YtphandknhnkhfaaGreat.Gh
open Go
variable {P:Program} {M:Map}
theorem LU (n:Nat):∀ (r c:Nat),Builtin.growBy n r c≤max c (n+(n+768) / 4)
  | 0,c=>by simp only [Builtin.growBy]; omega
  | r+1,c=>by
    simp only [Builtin.growBy]
    split
    · omega
    · have:=LU n r (c+(c+768) / 4); omega
theorem UA {n c:Nat} (h:c<n):Builtin.nextslicecap n c≤2*n+1000:=by
  unfold Builtin.nextslicecap
  split
  · omega
  · split
    · omega
    · have:=LU n 4 c; omega
theorem LV (z:Array Value) (k:Nat):(Builtin.zeroCells z k).size=k*z.size:=by simp [Builtin.zeroCells]
theorem Rel.kill {G:GS} {w:World} {B:Nat} (hR:Rel G M w B) {g:Nat} {o:aR} (ho:G.obj g=some o) (CU:M.mu g≠none) :
    Rel (G.put g { o with mode:=2 }) M w B∧cI G M w (G.put g { o with mode:=2 }) M w∧∀ x,M.mu g=some x→o.mode=1→∀ h y p,M.mu h=some y→(G.put g { o with mode:=2 }).obj h=some p→p.mode=1→y.aZ≠x.aZ:=by
  have dH:∀ h,h≠g→(G.put g { o with mode:=2 }).obj h=G.obj h:=fun h hh=>by rw [GS.aT,if_neg hh]
  have yg:(G.put g { o with mode:=2 }).obj g=some { o with mode:=2 }:=by rw [GS.aT,if_pos rfl]
  have conv:∀ h p,(G.put g { o with mode:=2 }).obj h=some p→p.mode=1→h≠g∧G.obj h=some p:=by
    intro h p hp h1
    by_cases hh:h=g
    · subst hh; rw [yg] at hp; obtain rfl:=Option.some.inj hp; simp at h1
    · rw [dH h hh] at hp; exact ⟨hh,hp⟩
  refine ⟨⟨hR.size,fun h y p hy hp=>?_,?_,hR.nx,hR.lp,hR.jO,hR.mp,hR.jP,hR.jj,fun h hh=>by rw [dH h (fun e=>by have:=hR.wf h hh; rw [e,ho] at this; cases this)]; exact hR.wf h hh,fun h p hp h3=>by
    by_cases e:h=g
    · rw [e,yg] at hp; cases hp; simp at h3
    · rw [dH h e] at hp; exact hR.gl h p hp h3⟩,⟨.refl M,Nat.le_refl _,fun _ _ _=>rfl,?_,rfl,rfl,rfl,Nat.le_refl _,fun h _ hn=>⟨hn,dH h (fun e=>CU (by rw [← e]; exact hn))⟩,fun h _ hn=>by rw [dH h (fun e=>by rw [e,ho] at hn; cases hn)]; exact hn⟩,?_⟩
  · by_cases hh:h=g
    · subst hh
      have hb:=hR.aZ h y o hy ho
      rw [yg] at hp; obtain rfl:=Option.some.inj hp
      exact ⟨hb.esz,hb.opn,hb.len,fun h=>absurd rfl h,fun h=>by simp at h,fun _ h=>absurd rfl h⟩
    · rw [dH h hh] at hp; exact hR.aZ h y p hy hp
  · intro h h' y y' p p' hy sX hp eG h1 eN he
    exact hR.apart h h' y y' p p' hy sX (conv h p hp h1).2 (conv h' p' eG eN).2 h1 eN he
  · rintro r (⟨h,y,p,hy,hp,h1,rfl⟩ | ⟨l,hl⟩)
    · exact .inl (.inl ⟨h,y,p,hy,(conv h p hp h1).2,h1,rfl⟩)
    · exact .inl (.inr ⟨l,hl⟩)
  · intro x hx hm h y p hy hp h1 he
    obtain ⟨hh,eG⟩:=conv h p hp h1
    exact hh (hR.apart h g y x p o hy hx eG ho h1 hm he)
theorem Rel.UB {G:GS} {w:World} {B:Nat} (hR:Rel G M w B) {x:jM} {cells:List Value} {c:Array Value} {e:TypeId}
    (hB:B≤x.aZ) (hc:w.heap[x.aZ]? =some (.cells c e (0,0))) (hl:x.len=cells.length) (hs:x.off+x.len+x.ex*x.esz≤c.size)
    (iH:∀ (i:Nat) (v:Value),cells[i]? =some v→∃ u,c[x.off+i]? =some u∧V M v u)
    (Am:∀ h y p,M.mu h=some y→G.obj h=some p→p.mode=1→y.aZ≠x.aZ) :
    Rel (G.push ⟨cells,x.esz,x.opn,1⟩) (M.ext G.nx x) w B∧M.Le (M.ext G.nx x)∧∀ r,eF (G.push ⟨cells,x.esz,x.opn,1⟩) (M.ext G.nx x) r→eF G M r∨r=x.aZ:=by
  have mW:M.mu G.nx=none:=by
    cases hm:M.mu G.nx with
    | none=>rfl
    | some x=>exact absurd (hR.nx _ _ hm) (Nat.lt_irrefl _)
  have hM:M.Le (M.ext G.nx x):=Map.yd mW
  have kD:∀ g y,(M.ext G.nx x).mu g=some y→(g=G.nx∧y=x)∨(g≠G.nx∧M.mu g=some y):=by
    intro g y hy
    rw [Map.mV] at hy
    split at hy
    · rename_i he; exact .inl ⟨he,(Option.some.inj hy).symm⟩
    · rename_i he; exact .inr ⟨he,hy⟩
  have dH:∀ g,g≠G.nx→(G.push ⟨cells,x.esz,x.opn,1⟩).obj g=G.obj g:=fun g hg=>by rw [GS.jR,if_neg hg]
  have nX:(G.push ⟨cells,x.esz,x.opn,1⟩).obj G.nx=some ⟨cells,x.esz,x.opn,1⟩:=by rw [GS.jR,if_pos rfl]
  refine ⟨⟨hR.size,fun g y o hy ho=>?_,?_,?_,?_,hR.jO,hR.mp,hR.jP,hR.jj,fun g hg=>by have eZ:G.nx+1≤g:=hg; rw [dH g (by omega)]; exact hR.wf g (by omega),fun g o ho hm=>by
    by_cases e:g=G.nx
    · rw [e,nX] at ho; cases ho; simp at hm
    · rw [dH g e] at ho
      exact hR.gl g o ho hm⟩,hM,?_⟩
  · rcases kD g y hy with ⟨rfl,rfl⟩ | ⟨hg,hy⟩
    · rw [nX] at ho; obtain rfl:=Option.some.inj ho
      refine ⟨rfl,rfl,hl,fun _ i v hv=>?_,fun _=>⟨hB,c,e,hc,hs⟩,fun h=>absurd rfl h⟩
      obtain ⟨u,h1,h2⟩:=iH i v hv
      exact ⟨u,by rw [An hc]; exact h1,h2.mono hM⟩
    · rw [dH g hg] at ho
      have hb:=hR.aZ g y o hy ho
      exact ⟨hb.esz,hb.opn,hb.len,fun hm=>nW hM (hb.cells hm) fun _ _ h _=>h,hb.own,hb.ro⟩
  · intro g g' y y' o o' hy sX ho da hm jS he
    rcases kD g y hy with ⟨e1,e2⟩ | ⟨hg,LW⟩<;>rcases kD g' y' sX with ⟨e3,e4⟩ | ⟨eZ,wg⟩
    · rw [e1,e3]
    · rw [dH g' eZ] at da; rw [e2] at he; exact absurd he.symm (Am g' y' o' wg da jS)
    · rw [dH g hg] at ho; rw [e4] at he; exact absurd he (Am g y o LW ho hm)
    · rw [dH g hg] at ho
      rw [dH g' eZ] at da
      exact hR.apart g g' y y' o o' LW wg ho da hm jS he
  · intro g y hy
    show g<G.nx+1
    rcases kD g y hy with ⟨rfl,rfl⟩ | ⟨hg,hy⟩
    · omega
    · have:=hR.nx g y hy; omega
  · intro l r hl
    obtain ⟨h1,p,h2,h3,lo,h4,h5,h6,h7,h8⟩:=hR.lp l r hl
    exact ⟨h1,p,h2,h3,lo,h4,h5,h6,h7.mono hM,h8⟩
  · rintro r (⟨g,y,o,hy,ho,hm,rfl⟩ | ⟨l,hl⟩)
    · rcases kD g y hy with ⟨rfl,rfl⟩ | ⟨hg,hy⟩
      · exact .inr rfl
      · rw [dH g hg] at ho
        exact .inl (.inl ⟨g,y,o,hy,ho,hm,rfl⟩)
    · exact .inl (.inr ⟨l,hl⟩)
theorem run_append_fits {ts:Array TypeId} {as:Array Value} {t tx e e' ty:TypeId} {i:TypeInfo} {base b:Option Addr} {len cr n uK:Nat} {us:List Value} {w w':World}
    (ht:ts[0]? =some t) (oc:ts[1]? =some tx) (mh:as[0]? =some (.slice base len cr)) (mj:as[1]? =some (.slice b n uK))
    (hu:P.underlying t=some (.slice e)) (ql:P.underlying tx=some (.slice e')) (hi:P.info? e=some i) (uL:len+n≤cr)
    (ic:(Builtin.firstCells i.size n (.slice b n uK)).run P w= .ok ⟨us⟩ w)
    (ax:∀ a,base=some a→(storeCells (a.add (len*i.size)) us).run P w= .ok () w') (sZ:base=none→w' =w) :
    (Builtin.append_ ts ty as).run P w= .ok (.slice base (len+n) cr) w':=by
  have cQ:dN P e=some i.size:=by simp [dN,hi]
  cases base with
  | none =>
    rw [sZ rfl]
    simp only [Builtin.append_,ht,oc,mh,mj,Sem.run_bind,cM hu,cM ql,Result.andThen_ok,ia cQ,Sem.run_pure,Bool.false_eq_true,if_false,Builtin.lenOf,Bool.not_false,if_true,uL,ic]
  | some a =>
    simp only [Builtin.append_,ht,oc,mh,mj,Sem.run_bind,cM hu,cM ql,Result.andThen_ok,ia cQ,Sem.run_pure,Bool.false_eq_true,if_false,Builtin.lenOf,Bool.not_false,if_true,uL,ic,ax a rfl]
theorem LX {ts:Array TypeId} {as:Array Value} {t tx e e' ty:TypeId} {i:TypeInfo} {z:Value} {base b:Option Addr} {len cr n uK:Nat} {us old:List Value} {w:World}
    (ht:ts[0]? =some t) (oc:ts[1]? =some tx) (mh:as[0]? =some (.slice base len cr)) (mj:as[1]? =some (.slice b n uK))
    (hu:P.underlying t=some (.slice e)) (ql:P.underlying tx=some (.slice e')) (hi:P.info? e=some i) (hz:∀ w,(zeroValue e).run P w= .ok z w) (uL:¬ len+n≤cr)
    (hb:i.bytes≠0) (CV:(2*(len+n)+1000)*i.bytes≤2 ^ 48)
    (ic:∀ k,(Builtin.firstCells i.size n (.slice b n uK)).run P { w with drawn:=k }= .ok ⟨us⟩ { w with drawn:=k })
    (hold:∀ k,(Builtin.firstCells i.size len (.slice base len cr)).run P { w with drawn:=k }= .ok ⟨old⟩ { w with drawn:=k }) :
    ∃ ex k,(Builtin.append_ ts ty as).run P w =
      .ok (.slice (some ⟨w.heap.size,0,none⟩) (len+n) (len+n+ex)) ({ w with drawn:=k }.alloc (.cells ((⟨old⟩:Array Value)++(⟨us⟩:Array Value)++Builtin.zeroCells z.cells ex) e)):=by
  have cQ:dN P e=some i.size:=by simp [dN,hi]
  have FU:¬ (Builtin.nextslicecap (len+n) cr*i.bytes>2 ^ 48):=by
    have h1:=UA (show cr<len+n by omega)
    have h2:=Nat.mul_le_mul_right i.bytes h1
    omega
  have od:¬ (((len+n:Nat):Int)>IntKind.i64.max∧((false=true)∨i.bytes=0)):=by simp [hb]
  refine ⟨(w.tape w.drawn (.appendCap (len+n) cr e)) % (2 ^ 63 - (len+n)),w.drawn+1,?_⟩
  have hdr:w.heap.size=({ w with drawn:=w.drawn+1 }:World).heap.size:=rfl
  have UC:len+n+w.tape w.drawn (Question.appendCap (len+n) cr e) % (2 ^ 63 - (len+n)) - (len+n)=w.tape w.drawn (Question.appendCap (len+n) cr e) % (2 ^ 63 - (len+n)):=by omega
  simp only [Builtin.append_,ht,oc,mh,mj,Sem.run_bind,cM hu,cM ql,Result.andThen_ok,ia cQ,Sem.run_pure,Bool.false_eq_true,if_false,Builtin.lenOf,Bool.not_false,if_true,
    if_neg uL,ry hi,or_false,hb,and_false,FU,run_choose,Question.forced,Question.cut,run_askRoom,hold,ic,hz,newRow,run_newObj,World.alloc_eq,UC]
theorem UD {G G':GS} {w:World} {B:Nat} {t tx ty:TypeId} {s s' x x' r:Value} {ts:Array TypeId} {as:Array Value} (hR:Rel G M w B) (hs:V M s s') (hx:V M x x') (h:qe P t tx s x G=some (r,G'))
    (ht:ts[0]? =some t) (oc:ts[1]? =some tx) (mh:as[0]? =some s') (mj:as[1]? =some x') :
    ∃ r' M' w',V M' r r' ∧(Builtin.append_ ts ty as).run P w= .ok r' w' ∧Rel G' M' w' B∧cI G M w G' M' w':=by
  unfold qe at h
  split at h
  case h_2=>simp at h
  rename_i e e' hu ql
  split at h
  case h_2=>simp at h
  rename_i i zl hi Gq
  split at h
  · simp at h
  rename_i LY
  split at h
  case h_2=>simp at h
  rename_i xa n xc
  split at h
  · simp at h
  rename_i new pa
  split at h
  · simp at h
  rename_i lA
  obtain ⟨i',z,bw,CJ,aev,uG,qh,sP⟩:=Ag (M:=M) Gq
  obtain rfl:i' =i:=by rw [hi] at bw; exact (Option.some.inj bw).symm
  obtain ⟨us,ic,nU,CW⟩:=Gi (P:=P) hR pa (Nat.le_refl _) hx
  obtain ⟨uK,b,rfl⟩:∃ uK b,x' = .slice b n uK:=by
    cases xa with
    | none=>obtain ⟨rfl,rfl,rfl⟩:=jN.1 hx; exact ⟨0,none,rfl⟩
    | some xa=>obtain ⟨y,b,cr,hy,rfl,_⟩:=gN.1 hx; exact ⟨cr,some b,rfl⟩
  have oe:new.length=n*i'.size:=by rw [iQ nU,CW]
  have aew:i'.size≠0:=fun e=>LY (.inl e)
  have LZ:i'.bytes≠0:=fun e=>LY (.inr e)
  have L0:z.cells.size=i'.size:=uG
  split at h
  · -- an empty slice that is nil
    obtain ⟨_,_,rfl⟩:=jN.1 hs
    split at h
    · rename_i iU
      subst iU
      simp only [Option.some.injEq,Prod.mk.injEq] at h
      obtain ⟨rfl,rfl⟩:=h
      refine ⟨_,M,w,jN.2 ⟨rfl,rfl,rfl⟩,?_,hR,.refl _ _ _⟩
      exact run_append_fits ht oc mh mj hu ql hi (by omega) (ic w rfl) (fun a ha=>by cases ha) (fun _=>rfl)
    · rename_i iU
      split at h
      · rename_i CV
        simp only [Option.some.injEq,Prod.mk.injEq] at h
        obtain ⟨rfl,rfl⟩:=h
        obtain ⟨ex,k,et⟩:=LX (ty:=ty) (old:=[]) ht oc mh mj hu ql hi qh (by omega) LZ (by simpa using CV) (fun k=>ic _ rfl) (fun k=>rfl)
        have hp:=(hR.drawn k).push (cells:=new) (c:=(⟨[]⟩:Array Value)++⟨us⟩++Builtin.zeroCells z.cells ex) (e:=e) (esz:=i'.size) (ex:=ex) (opn:=true)
          (fun j v hv=>by
            obtain ⟨u,mY,mU⟩:=(iR.1 nU).2 j v hv
            have hj:j<us.length:=(List.getElem?_eq_some_iff.1 mY).1
            exact ⟨u,by rw [Array.getElem?_append_left (by simpa using hj)]; simpa using mY,mU⟩)
          (by simp [LV,L0]; omega)
        simp only [Nat.zero_add] at et
        refine ⟨_,_,_,?_,et,hp.1,hp.2.1.FQ⟩
        exact gN.2 ⟨_,_,n+ex,hp.2.2,rfl,Nat.le_refl _,.inr ⟨rfl,by simp [oe],rfl⟩,fun _=>rfl⟩
      · simp at h
  · rename_i a len cap
    obtain ⟨y,ba,cr,hy,rfl,o9,gm,L1⟩:=gN.1 hs
    have aex:cap≤cr:=by rcases gm with h | h<;>omega
    split at h
    · rename_i iU
      subst iU
      simp only [Option.some.injEq,Prod.mk.injEq] at h
      obtain ⟨rfl,rfl⟩:=h
      obtain rfl:us=[]:=by
        cases us with
        | nil=>rfl
        | cons _ _=>simp at CW
      refine ⟨_,M,w,hs,?_,hR,.refl _ _ _⟩
      exact run_append_fits ht oc mh mj hu ql hi (by omega) (ic w rfl) (fun a ha=>rfl) (fun h=>by cases h)
    · rename_i iU
      split at h
      · simp at h
      · rename_i o ho
        have uJ:=hR.aZ _ _ _ hy ho
        split at h
        · -- there is room
          rename_i uL
          split at h
          · rename_i G2 hw
            simp only [Option.some.injEq,Prod.mk.injEq] at h
            obtain ⟨rfl,rfl⟩:=h
            have mf:cr≠0:=by omega
            obtain rfl:=L1 mf
            obtain ⟨w',h1,h2,h3⟩:=Gf (P:=P) hR hy hw nU
            refine ⟨_,M,w',gN.2 ⟨y,_,cr,hy,rfl,by omega,gm,fun _=>rfl⟩,?_,h2,h3⟩
            refine run_append_fits ht oc mh mj hu ql hi (by omega) (ic w rfl) (fun a' ha'=>?_) (fun h=>by cases h)
            simp only [Option.some.injEq] at ha'; subst ha'
            rw [qj,Nat.add_assoc]; exact h1
          · simp at h
        · rename_i uL
          split at h
          · simp at h
          · rename_i old hold
            split at h
            · rename_i CV
              have UE:∀ (hc:¬ (o.opn&&decide (a.off+cap*o.esz=o.cells.length))=true),cr=cap:=by
                intro hc
                rcases gm with h | ⟨h1,h2,h3⟩
                · exact h
                · exfalso; apply hc
                  rw [← uJ.opn,← uJ.esz,← uJ.len]
                  simp [h1,h2]
              have UF:elems i'.size len (.slice (some a) len cap) G=some old:=hold
              obtain ⟨Gr,UG,Gt,L2⟩:=Gi (P:=P) hR UF (Nat.le_refl _) hs
              have Gu:old.length=len*i'.size:=by rw [iQ Gt,L2]
              have L3:∀ G0,Rel G0 M w B→cI G M w G0 M w→¬ len+n≤cr →
                  ∃ r' M' w',V M' (.slice (some ⟨G0.nx,0,none⟩) (len+n) (len+n)) r' ∧(Builtin.append_ ts ty as).run P w= .ok r' w' ∧Rel (G0.push ⟨old++new,i'.size,true,1⟩) M' w' B∧cI G M w (G0.push ⟨old++new,i'.size,true,1⟩) M' w':=by
                intro G0 UH UI UJ
                obtain ⟨ex,k,et⟩:=LX (ty:=ty) (old:=Gr) ht oc mh mj hu ql hi qh UJ LZ CV (fun k=>ic _ rfl) (fun k=>UG _ rfl)
                have hp:=(UH.drawn k).push (cells:=old++new) (c:=(⟨Gr⟩:Array Value)++⟨us⟩++Builtin.zeroCells z.cells ex) (e:=e) (esz:=i'.size) (ex:=ex) (opn:=true)
                  (fun j v hv=>by
                    obtain ⟨u,mY,mU⟩:=(iR.1 (uE Gt nU)).2 j v hv
                    have hj:j<(Gr++us).length:=(List.getElem?_eq_some_iff.1 mY).1
                    exact ⟨u,by rw [Array.getElem?_append_left (by simpa using hj)]; simpa using mY,mU⟩)
                  (by simp [LV,L0,Gu,oe,L2,CW])
                refine ⟨_,_,_,?_,et,hp.1,UI.trans hp.2.1.FQ⟩
                exact gN.2 ⟨_,_,len+n+ex,hp.2.2,rfl,Nat.le_refl _,.inr ⟨rfl,by simp [oe,Gu,Nat.add_mul],rfl⟩,fun _=>rfl⟩
              split at h
              · rename_i Gv
                split at h
                · rename_i hm
                  simp only [Bool.and_eq_true,decide_eq_true_eq] at hm Gv
                  simp only [Option.some.injEq,Prod.mk.injEq] at h
                  obtain ⟨rfl,rfl⟩:=h
                  obtain ⟨iI,CX,UK⟩:=hR.kill ho (by rw [hy]; simp)
                  have CY:(G.put a.block { o with mode:=2 }).nx=G.nx:=rfl
                  by_cases fG:len+n≤cr
                  · -- the model aey room: the same block goes on under a new name
                    have mf:cr≠0:=by omega
                    obtain rfl:=L1 mf
                    obtain ⟨h1,h2,h3⟩:y.opn=true∧a.off+cap*y.esz=y.len∧cr=cap+y.ex:=by
                      rcases gm with h | h
                      · omega
                      · exact h
                    obtain ⟨hB,c0,e0,jT,UL⟩:=uJ.own hm.1
                    have FW:y.esz=i'.size:=by rw [uJ.esz]; exact hm.2
                    have UM:y.off+a.off+(len+n)*i'.size+(cr - (len+n))*i'.size≤c0.size:=by
                      have e1:(len+n)*i'.size+(cr - (len+n))*i'.size=cr*i'.size:=by rw [← Nat.add_mul]; congr 1; omega
                      have e2:cr*i'.size=cap*i'.size+y.ex*i'.size:=by rw [h3,Nat.add_mul]
                      rw [FW] at h2 UL
                      omega
                    have aez:len*i'.size+us.length=(len+n)*i'.size:=by rw [CW,Nat.add_mul]
                    have Gg:us.all one=true:=by
                      refine List.all_eq_true.2 fun u hu=>?_
                      obtain ⟨j,hj,rfl⟩:=List.getElem_of_mem hu
                      have L4:j<new.length:=by omega
                      obtain ⟨q,hq,hV⟩:=(iR.1 nU).2 j new[j] (by simp [L4])
                      simp only [List.getElem?_eq_getElem hj,Option.some.injEq] at hq
                      rw [hq,← Lh hV]
                      simp only [Bool.not_eq_true,Bool.not_eq_false'] at lA
                      exact List.all_eq_true.1 (by simpa using lA) _ (List.getElem_mem L4)
                    have ax:=F4 (P:=P) (off:=y.off+(a.off+len*i'.size)) us 0 w c0 jT (by omega) Gg
                    have wh:=hR.write (c':=nY c0 (y.off+(a.off+len*i'.size)+0) us) (m:=2) (cs:=o.cells) hy ho hm.1 jT (Al _ _ _) rfl (.inr rfl) (fun h=>by omega)
                    have UN:G.put a.block { o with cells:=o.cells,mode:=2 }=G.put a.block { o with mode:=2 }:=rfl
                    rw [UN] at wh
                    have aJ:y.aZ<w.heap.size:=(Array.getElem?_eq_some_iff.1 jT).1
                    have UO:∀ (j:Nat) (v:Value),old[j]? =some v→∃ u,c0[y.off+a.off+j]? =some u∧V M v u:=by
                      intro j v hv
                      obtain ⟨u,mY,mU⟩:=(iR.1 Gt).2 j v hv
                      obtain ⟨us0,iJ,wi,Aq⟩:=yb hR hy hold
                      obtain ⟨u',UQ,UR⟩:=(iR.1 iJ).2 j v hv
                      have jk:=Aq j u' UQ
                      rw [An jT] at jk
                      exact ⟨u',jk,UR⟩
                    have Gw:=wh.1.UB (x:=⟨y.aZ,y.off+a.off,cr - (len+n),i'.size,true,(len+n)*i'.size⟩) (cells:=old++new) (c:=nY c0 (y.off+(a.off+len*i'.size)+0) us) (e:=e0)
                      hB (Ge aJ) (by simp [Gu,oe,Nat.add_mul]) (by simp only [Al]; exact UM) (by
                        intro j v hv
                        rw [CR us c0 _ _ (by omega)]
                        rcases Nat.lt_or_ge j old.length with hj | hj
                        · rw [List.getElem?_append_left hj] at hv
                          rw [if_neg (by simp only; omega)]
                          exact UO j v hv
                        · rw [List.getElem?_append_right hj] at hv
                          have hjn:j - old.length<new.length:=(List.getElem?_eq_some_iff.1 hv).1
                          obtain ⟨u,mY,mU⟩:=(iR.1 nU).2 _ v hv
                          rw [if_pos (by simp only; omega)]
                          exact ⟨u,by rw [← mY]; congr 1; simp only; omega,mU⟩)
                      (fun h q p hq hp fH=>UK y hy hm.1 h q p hq hp fH)
                    refine ⟨_,_,_,gN.2 ⟨⟨y.aZ,y.off+a.off,cr - (len+n),i'.size,true,(len+n)*i'.size⟩,⟨y.aZ,y.off+a.off,none⟩,cr,by rw [Map.mV,CY,if_pos rfl],rfl,Nat.le_refl _,.inr ⟨rfl,by simp,by simp only; omega⟩,fun _=>rfl⟩,?_,Gw.1,?_⟩
                    · refine run_append_fits ht oc mh mj hu ql hi fG (ic w rfl) (fun a' ha'=>?_) (fun h=>by cases h)
                      simp only [Option.some.injEq] at ha'; subst ha'
                      rw [qj,Nat.add_assoc]; exact ax
                    · have hE:=wh.2
                      refine ⟨Gw.2.1,hE.size,hE.keep,fun r hr=>?_,hE.os,hE.tape,hE.output,by show G.nx≤G.nx+1; omega,fun q hq CZ=>?_,fun q hq CZ=>by rw [GS.jR,if_neg (by rw [CY]; omega)]; exact hE.gn q hq CZ⟩
                      rotate_left
                      · obtain ⟨k1,k2⟩:=hE.gk q hq CZ
                        exact ⟨by rw [Map.mV,if_neg (by rw [CY]; omega)]; exact CZ,by rw [GS.jR,if_neg (by rw [CY]; omega)]; exact k2⟩
                      rcases Gw.2.2 r hr with h | h
                      · exact hE.eF r h
                      · exact .inl (.inl ⟨a.block,y,o,hy,ho,hm.1,h.symm⟩)
                  · exact L3 _ iI CX fG
                · simp at h
              · rename_i Gv
                simp only [Option.some.injEq,Prod.mk.injEq] at h
                obtain ⟨rfl,rfl⟩:=h
                have:=UE Gv
                exact L3 G hR (.refl _ _ _) (by omega)
            · simp at h
  · simp at h
theorem US (t:TypeId) (w:World):(Instr.makeMap t none).run P w= .ok (.map (some w.heap.size)) (w.alloc (.map #[] 0)):=rfl
theorem UT {G G':GS} {w:World} {B:Nat} {T:List Value} {a:Act} (hR:Rel G M w B) (hT:Vs M T a.tmps.toList) {o:Oper} {v:Value} (aP:dW o.op=true)
    (h:rj P T o.op G=some (v,G')) :
    ∃ u M' w',V M' v u∧((execOp a.eval o).run P w= .ok (.value u) w' ∨(u=undef∧(execOp a.eval o).run P w= .ok .skip w'))∧Rel G' M' w' B∧cI G M w G' M' w':=by
  obtain ⟨dst,op,ty,pos,after,guard⟩:=o
  cases op<;>simp only [rj,dW,Bool.and_eq_true,reduceCtorEq] at h aP
  case store t p x =>
    split at h
    · rename_i G2 ax
      simp only [Option.some.injEq,Prod.mk.injEq] at h
      obtain ⟨rfl,rfl⟩:=h
      obtain ⟨w',h1,h2,h3⟩:=Um (P:=P) hR (dh hT aP.1) (dh hT aP.2) ax
      exact ⟨undef,M,w',sM,.inr ⟨rfl,by simp only [execOp,Sem.run_bind,h1,Result.andThen_ok,Sem.run_pure]⟩,h2,h3⟩
    · simp at h
  case call c =>
    obtain ⟨callee,args,argTypes⟩:=c
    simp only at h aP
    split at h
    · rename_i ts tx s x UU oc hx
      have kG:args= #[s,x]:=by apply Array.toList_inj.1; simpa using hx
      subst kG
      simp only [List.all_cons,List.all_nil,Bool.and_true,Bool.and_eq_true] at aP
      obtain ⟨r',M',w',h1,h2,h3,h4⟩:=UD (P:=P) (ty:=ty) (as:=#[a.eval s,a.eval x]) hR (dh hT aP.2.1) (dh hT aP.2.2) h UU oc rfl rfl
      exact ⟨r',M',w',h1,.inl (by simp only [execOp,resolve,invoke,builtin,List.map_toArray,List.map_cons,List.map_nil,Sem.run_bind,Sem.run_pure,Result.andThen_ok,h2]),h3,h4⟩
    · rename_i td d s UW hx
      have kG:args= #[d,s]:=by apply Array.toList_inj.1; simpa using hx
      subst kG
      simp only [List.all_cons,List.all_nil,Bool.and_true,Bool.and_eq_true] at aP
      obtain ⟨r',w',h1,h2,h3,h4⟩:=Up (P:=P) (ty:=ty) (as:=#[a.eval d,a.eval s]) hR (dh hT aP.2.1) (dh hT aP.2.2) h UW rfl rfl
      exact ⟨r',M,w',h1,.inl (by simp only [execOp,resolve,invoke,builtin,List.map_toArray,List.map_cons,List.map_nil,Sem.run_bind,Sem.run_pure,Result.andThen_ok,h2]),h3,h4⟩
    · simp at h
  case makeMap t r =>
    cases r with
    | some r=>simp at h
    | none =>
      simp only [Option.some.injEq,Prod.mk.injEq] at h
      obtain ⟨rfl,rfl⟩:=h
      obtain ⟨h1,h2,h3⟩:=hR.Ut
      exact ⟨.map (some w.heap.size),_,_,Ad.2 ⟨_,h3,rfl⟩,.inl (by simp only [execOp,Option.map_none,Sem.run_bind,US,Result.andThen_ok,Sem.run_pure]),h1,h2⟩
  case lookup t x i ok =>
    split at h
    · rename_i v2 hl
      simp only [Option.some.injEq,Prod.mk.injEq] at h
      obtain ⟨rfl,rfl⟩:=h
      obtain ⟨h1,h2⟩:=Ur (P:=P) hR hl (dh hT aP.1) (dh hT aP.2)
      exact ⟨v2,M,w,h1,.inl (by simp only [execOp,Sem.run_bind,h2,Result.andThen_ok,Sem.run_pure]),hR,.refl G M w⟩
    · simp at h
  case mapUpdate t m k x =>
    split at h
    · rename_i G2 hp
      simp only [Option.some.injEq,Prod.mk.injEq] at h
      obtain ⟨rfl,rfl⟩:=h
      obtain ⟨w',h1,h2,h3⟩:=Uw (P:=P) hR hp (dh hT aP.1.1) (dh hT aP.1.2) (dh hT aP.2)
      exact ⟨undef,M,w',sM,.inr ⟨rfl,by simp only [execOp,Sem.run_bind,h1,Result.andThen_ok,Sem.run_pure]⟩,h2,h3⟩
    · simp at h
end Go.Proofs.YtphandknhnkhfaaGreat.Gh
