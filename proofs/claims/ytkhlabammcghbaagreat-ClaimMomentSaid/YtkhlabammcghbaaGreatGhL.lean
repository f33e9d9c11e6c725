import Derived.Test.YtkhlabammcghbaaGreatEA
namespace Go.Proofs.YtkhlabammcghbaaGreat.Gh
open Go
variable {P:Program} {M:Map}
theorem Nr (n:Nat):∀ (r c:Nat),Builtin.growBy n r c≤max c (n+(n+768) / 4)
  | 0,c=>by simp only [Builtin.growBy]; omega
  | r+1,c=>by
    simp only [Builtin.growBy]
    split
    · omega
    · have:=Nr n r (c+(c+768) / 4); omega
theorem VI {n c:Nat} (h:c<n):Builtin.nextslicecap n c≤2*n+1000:=by
  unfold Builtin.nextslicecap
  split
  · omega
  · split
    · omega
    · have:=Nr n 4 c; omega
theorem Ns (z:Array Value) (k:Nat):(Builtin.zeroCells z k).size=k*z.size:=by simp [Builtin.zeroCells]
theorem Rel.kill {G:GS} {w:World} {B:Nat} (hR:Rel G M w B) {g:Nat} {o:bK} (ho:G.obj g=some o) (DH:M.mu g≠none) :
    Rel (G.put g { o with mode:=2 }) M w B∧cy G M w (G.put g { o with mode:=2 }) M w∧∀ x,M.mu g=some x→o.mode=1→∀ h y p,M.mu h=some y→(G.put g { o with mode:=2 }).obj h=some p→p.mode=1→y.aY≠x.aY:=by
  have dA:∀ h,h≠g→(G.put g { o with mode:=2 }).obj h=G.obj h:=fun h hh=>by rw [GS.cM,if_neg hh]
  have yE:(G.put g { o with mode:=2 }).obj g=some { o with mode:=2 }:=by rw [GS.cM,if_pos rfl]
  have conv:∀ h p,(G.put g { o with mode:=2 }).obj h=some p→p.mode=1→h≠g∧G.obj h=some p:=by
    intro h p hp h1
    by_cases hh:h=g
    · subst hh; rw [yE] at hp; obtain rfl:=Option.some.inj hp; simp at h1
    · rw [dA h hh] at hp; exact ⟨hh,hp⟩
  refine ⟨⟨hR.size,fun h y p hy hp=>?_,?_,hR.nx,hR.lp,hR.jz,hR.mp,hR.jA,hR.iY,fun h hh=>by rw [dA h (fun e=>by have:=hR.wf h hh; rw [e,ho] at this; cases this)]; exact hR.wf h hh,fun h p hp h3=>by
    by_cases e:h=g
    · rw [e,yE] at hp; cases hp; simp at h3
    · rw [dA h e] at hp; exact hR.gl h p hp h3⟩,⟨.refl M,Nat.le_refl _,fun _ _ _=>rfl,?_,rfl,rfl,rfl,Nat.le_refl _,fun h _ hn=>⟨hn,dA h (fun e=>DH (by rw [← e]; exact hn))⟩,fun h _ hn=>by rw [dA h (fun e=>by rw [e,ho] at hn; cases hn)]; exact hn⟩,?_⟩
  · by_cases hh:h=g
    · subst hh
      have hb:=hR.aY h y o hy ho
      rw [yE] at hp; obtain rfl:=Option.some.inj hp
      exact ⟨hb.esz,hb.opn,hb.len,fun h=>absurd rfl h,fun h=>by simp at h,fun _ h=>absurd rfl h⟩
    · rw [dA h hh] at hp; exact hR.aY h y p hy hp
  · intro h h' y y' p p' hy qz hp dB h1 ft he
    exact hR.apart h h' y y' p p' hy qz (conv h p hp h1).2 (conv h' p' dB ft).2 h1 ft he
  · rintro r (⟨h,y,p,hy,hp,h1,rfl⟩ | ⟨l,hl⟩)
    · exact .inl (.inl ⟨h,y,p,hy,(conv h p hp h1).2,h1,rfl⟩)
    · exact .inl (.inr ⟨l,hl⟩)
  · intro x hx hm h y p hy hp h1 he
    obtain ⟨hh,dB⟩:=conv h p hp h1
    exact hh (hR.apart h g y x p o hy hx dB ho h1 hm he)
theorem Rel.VJ {G:GS} {w:World} {B:Nat} (hR:Rel G M w B) {x:jv} {cells:List Value} {c:Array Value} {e:TypeId}
    (hB:B≤x.aY) (hc:w.heap[x.aY]? =some (.cells c e (0,0))) (hl:x.len=cells.length) (hs:x.off+x.len+x.ex*x.esz≤c.size)
    (fE:∀ (i:Nat) (v:Value),cells[i]? =some v→∃ u,c[x.off+i]? =some u∧V M v u)
    (AV:∀ h y p,M.mu h=some y→G.obj h=some p→p.mode=1→y.aY≠x.aY) :
    Rel (G.push ⟨cells,x.esz,x.opn,1⟩) (M.ext G.nx x) w B∧M.Le (M.ext G.nx x)∧∀ r,eu (G.push ⟨cells,x.esz,x.opn,1⟩) (M.ext G.nx x) r→eu G M r∨r=x.aY:=by
  have m9:M.mu G.nx=none:=by
    cases hm:M.mu G.nx with
    | none=>rfl
    | some x=>exact absurd (hR.nx _ _ hm) (Nat.lt_irrefl _)
  have hM:M.Le (M.ext G.nx x):=Map.yB m9
  have jU:∀ g y,(M.ext G.nx x).mu g=some y→(g=G.nx∧y=x)∨(g≠G.nx∧M.mu g=some y):=by
    intro g y hy
    rw [Map.m7] at hy
    split at hy
    · rename_i he; exact .inl ⟨he,(Option.some.inj hy).symm⟩
    · rename_i he; exact .inr ⟨he,hy⟩
  have dA:∀ g,g≠G.nx→(G.push ⟨cells,x.esz,x.opn,1⟩).obj g=G.obj g:=fun g hg=>by rw [GS.kU,if_neg hg]
  have nT:(G.push ⟨cells,x.esz,x.opn,1⟩).obj G.nx=some ⟨cells,x.esz,x.opn,1⟩:=by rw [GS.kU,if_pos rfl]
  refine ⟨⟨hR.size,fun g y o hy ho=>?_,?_,?_,?_,hR.jz,hR.mp,hR.jA,hR.iY,fun g hg=>by have dU:G.nx+1≤g:=hg; rw [dA g (by omega)]; exact hR.wf g (by omega),fun g o ho hm=>by
    by_cases e:g=G.nx
    · rw [e,nT] at ho; cases ho; simp at hm
    · rw [dA g e] at ho
      exact hR.gl g o ho hm⟩,hM,?_⟩
  · rcases jU g y hy with ⟨rfl,rfl⟩ | ⟨hg,hy⟩
    · rw [nT] at ho; obtain rfl:=Option.some.inj ho
      refine ⟨rfl,rfl,hl,fun _ i v hv=>?_,fun _=>⟨hB,c,e,hc,hs⟩,fun h=>absurd rfl h⟩
      obtain ⟨u,h1,h2⟩:=fE i v hv
      exact ⟨u,by rw [AW hc]; exact h1,h2.mono hM⟩
    · rw [dA g hg] at ho
      have hb:=hR.aY g y o hy ho
      exact ⟨hb.esz,hb.opn,hb.len,fun hm=>nS hM (hb.cells hm) fun _ _ h _=>h,hb.own,hb.ro⟩
  · intro g g' y y' o o' hy qz ho cW hm jB he
    rcases jU g y hy with ⟨e1,e2⟩ | ⟨hg,Nt⟩<;>rcases jU g' y' qz with ⟨e3,e4⟩ | ⟨dU,Nu⟩
    · rw [e1,e3]
    · rw [dA g' dU] at cW; rw [e2] at he; exact absurd he.symm (AV g' y' o' Nu cW jB)
    · rw [dA g hg] at ho; rw [e4] at he; exact absurd he (AV g y o Nt ho hm)
    · rw [dA g hg] at ho
      rw [dA g' dU] at cW
      exact hR.apart g g' y y' o o' Nt Nu ho cW hm jB he
  · intro g y hy
    show g<G.nx+1
    rcases jU g y hy with ⟨rfl,rfl⟩ | ⟨hg,hy⟩
    · omega
    · have:=hR.nx g y hy; omega
  · intro l r hl
    obtain ⟨h1,p,h2,h3,lo,h4,h5,h6,h7,h8⟩:=hR.lp l r hl
    exact ⟨h1,p,h2,h3,lo,h4,h5,h6,h7.mono hM,h8⟩
  · rintro r (⟨g,y,o,hy,ho,hm,rfl⟩ | ⟨l,hl⟩)
    · rcases jU g y hy with ⟨rfl,rfl⟩ | ⟨hg,hy⟩
      · exact .inr rfl
      · rw [dA g hg] at ho
        exact .inl (.inl ⟨g,y,o,hy,ho,hm,rfl⟩)
    · exact .inl (.inr ⟨l,hl⟩)
theorem run_append_fits {ts:Array TypeId} {as:Array Value} {t tx e e' ty:TypeId} {i:TypeInfo} {base b:Option Addr} {len cr n u3:Nat} {us:List Value} {w w':World}
    (ht:ts[0]? =some t) (nX:ts[1]? =some tx) (lX:as[0]? =some (.slice base len cr)) (lY:as[1]? =some (.slice b n u3))
    (hu:P.underlying t=some (.slice e)) (qA:P.underlying tx=some (.slice e')) (hi:P.info? e=some i) (yI:len+n≤cr)
    (hZ:(Builtin.firstCells i.size n (.slice b n u3)).run P w= .ok ⟨us⟩ w)
    (au:∀ a,base=some a→(storeCells (a.add (len*i.size)) us).run P w= .ok () w') (ti:base=none→w' =w) :
    (Builtin.append_ ts ty as).run P w= .ok (.slice base (len+n) cr) w':=by
  have cm:dJ P e=some i.size:=by simp [dJ,hi]
  cases base with
  | none =>
    rw [ti rfl]
    simp only [Builtin.append_,ht,nX,lX,lY,Sem.run_bind,cD hu,cD qA,Result.andThen_ok,hQ cm,Sem.run_pure,Bool.false_eq_true,if_false,Builtin.lenOf,Bool.not_false,if_true,yI,hZ]
  | some a =>
    simp only [Builtin.append_,ht,nX,lX,lY,Sem.run_bind,cD hu,cD qA,Result.andThen_ok,hQ cm,Sem.run_pure,Bool.false_eq_true,if_false,Builtin.lenOf,Bool.not_false,if_true,yI,hZ,au a rfl]
theorem Nv {ts:Array TypeId} {as:Array Value} {t tx e e' ty:TypeId} {i:TypeInfo} {z:Value} {base b:Option Addr} {len cr n u3:Nat} {us old:List Value} {w:World}
    (ht:ts[0]? =some t) (nX:ts[1]? =some tx) (lX:as[0]? =some (.slice base len cr)) (lY:as[1]? =some (.slice b n u3))
    (hu:P.underlying t=some (.slice e)) (qA:P.underlying tx=some (.slice e')) (hi:P.info? e=some i) (hz:∀ w,(zeroValue e).run P w= .ok z w) (yI:¬ len+n≤cr)
    (hb:i.bytes≠0) (DI:(2*(len+n)+1000)*i.bytes≤2 ^ 48)
    (hZ:∀ k,(Builtin.firstCells i.size n (.slice b n u3)).run P { w with drawn:=k }= .ok ⟨us⟩ { w with drawn:=k })
    (hold:∀ k,(Builtin.firstCells i.size len (.slice base len cr)).run P { w with drawn:=k }= .ok ⟨old⟩ { w with drawn:=k }) :
    ∃ ex k,(Builtin.append_ ts ty as).run P w =
      .ok (.slice (some ⟨w.heap.size,0,none⟩) (len+n) (len+n+ex)) ({ w with drawn:=k }.alloc (.cells ((⟨old⟩:Array Value)++(⟨us⟩:Array Value)++Builtin.zeroCells z.cells ex) e)):=by
  have cm:dJ P e=some i.size:=by simp [dJ,hi]
  have Hi:¬ (Builtin.nextslicecap (len+n) cr*i.bytes>2 ^ 48):=by
    have h1:=VI (show cr<len+n by omega)
    have h2:=Nat.mul_le_mul_right i.bytes h1
    omega
  have nY:¬ (((len+n:Nat):Int)>IntKind.i64.max∧((false=true)∨i.bytes=0)):=by simp [hb]
  refine ⟨(w.tape w.drawn (.appendCap (len+n) cr e)) % (2 ^ 63 - (len+n)),w.drawn+1,?_⟩
  have hdr:w.heap.size=({ w with drawn:=w.drawn+1 }:World).heap.size:=rfl
  have VK:len+n+w.tape w.drawn (Question.appendCap (len+n) cr e) % (2 ^ 63 - (len+n)) - (len+n)=w.tape w.drawn (Question.appendCap (len+n) cr e) % (2 ^ 63 - (len+n)):=by omega
  simp only [Builtin.append_,ht,nX,lX,lY,Sem.run_bind,cD hu,cD qA,Result.andThen_ok,hQ cm,Sem.run_pure,Bool.false_eq_true,if_false,Builtin.lenOf,Bool.not_false,if_true,
    if_neg yI,rO hi,or_false,hb,and_false,Hi,run_choose,Question.forced,Question.cut,run_askRoom,hold,hZ,hz,newRow,run_newObj,World.alloc_eq,VK]
theorem VL {G G':GS} {w:World} {B:Nat} {t tx ty:TypeId} {s s' x x' r:Value} {ts:Array TypeId} {as:Array Value} (hR:Rel G M w B) (hs:V M s s') (hx:V M x x') (h:qp P t tx s x G=some (r,G'))
    (ht:ts[0]? =some t) (nX:ts[1]? =some tx) (lX:as[0]? =some s') (lY:as[1]? =some x') :
    ∃ r' M' w',V M' r r' ∧(Builtin.append_ ts ty as).run P w= .ok r' w' ∧Rel G' M' w' B∧cy G M w G' M' w':=by
  unfold qp at h
  split at h
  case h_2=>simp at h
  rename_i e e' hu qA
  split at h
  case h_2=>simp at h
  rename_i i zl hi VM
  split at h
  · simp at h
  rename_i Nw
  split at h
  case h_2=>simp at h
  rename_i xa n xc
  split at h
  · simp at h
  rename_i new pe
  split at h
  · simp at h
  rename_i kV
  obtain ⟨i',z,bG,Dx,afm,uS,qv,sZ⟩:=AN (M:=M) VM
  obtain rfl:i' =i:=by rw [hi] at bG; exact (Option.some.inj bG).symm
  obtain ⟨us,hZ,nQ,DJ⟩:=Hw (P:=P) hR pe (Nat.le_refl _) hx
  obtain ⟨u3,b,rfl⟩:∃ u3 b,x' = .slice b n u3:=by
    cases xa with
    | none=>obtain ⟨rfl,rfl,rfl⟩:=jx.1 hx; exact ⟨0,none,rfl⟩
    | some xa=>obtain ⟨y,b,cr,hy,rfl,_⟩:=gC.1 hx; exact ⟨cr,some b,rfl⟩
  have nZ:new.length=n*i'.size:=by rw [iG nQ,DJ]
  have afn:i'.size≠0:=fun e=>Nw (.inl e)
  have Nx:i'.bytes≠0:=fun e=>Nw (.inr e)
  have Ny:z.cells.size=i'.size:=uS
  split at h
  · -- an empty slice that is nil
    obtain ⟨_,_,rfl⟩:=jx.1 hs
    split at h
    · rename_i eI
      subst eI
      simp only [Option.some.injEq,Prod.mk.injEq] at h
      obtain ⟨rfl,rfl⟩:=h
      refine ⟨_,M,w,jx.2 ⟨rfl,rfl,rfl⟩,?_,hR,.refl _ _ _⟩
      exact run_append_fits ht nX lX lY hu qA hi (by omega) (hZ w rfl) (fun a ha=>by cases ha) (fun _=>rfl)
    · rename_i eI
      split at h
      · rename_i DI
        simp only [Option.some.injEq,Prod.mk.injEq] at h
        obtain ⟨rfl,rfl⟩:=h
        obtain ⟨ex,k,gT⟩:=Nv (ty:=ty) (old:=[]) ht nX lX lY hu qA hi qv (by omega) Nx (by simpa using DI) (fun k=>hZ _ rfl) (fun k=>rfl)
        have hp:=(hR.drawn k).push (cells:=new) (c:=(⟨[]⟩:Array Value)++⟨us⟩++Builtin.zeroCells z.cells ex) (e:=e) (esz:=i'.size) (ex:=ex) (opn:=true)
          (fun j v hv=>by
            obtain ⟨u,jC,jy⟩:=(iH.1 nQ).2 j v hv
            have hj:j<us.length:=(List.getElem?_eq_some_iff.1 jC).1
            exact ⟨u,by rw [Array.getElem?_append_left (by simpa using hj)]; simpa using jC,jy⟩)
          (by simp [Ns,Ny]; omega)
        simp only [Nat.zero_add] at gT
        refine ⟨_,_,_,?_,gT,hp.1,hp.2.1.He⟩
        exact gC.2 ⟨_,_,n+ex,hp.2.2,rfl,Nat.le_refl _,.inr ⟨rfl,by simp [nZ],rfl⟩,fun _=>rfl⟩
      · simp at h
  · rename_i a len cap
    obtain ⟨y,ba,cr,hy,rfl,mX,hY,Nz⟩:=gC.1 hs
    have afo:cap≤cr:=by rcases hY with h | h<;>omega
    split at h
    · rename_i eI
      subst eI
      simp only [Option.some.injEq,Prod.mk.injEq] at h
      obtain ⟨rfl,rfl⟩:=h
      obtain rfl:us=[]:=by
        cases us with
        | nil=>rfl
        | cons _ _=>simp at DJ
      refine ⟨_,M,w,hs,?_,hR,.refl _ _ _⟩
      exact run_append_fits ht nX lX lY hu qA hi (by omega) (hZ w rfl) (fun a ha=>rfl) (fun h=>by cases h)
    · rename_i eI
      split at h
      · simp at h
      · rename_i o ho
        have uX:=hR.aY _ _ _ hy ho
        split at h
        · -- there is room
          rename_i yI
          split at h
          · rename_i G2 hw
            simp only [Option.some.injEq,Prod.mk.injEq] at h
            obtain ⟨rfl,rfl⟩:=h
            have lV:cr≠0:=by omega
            obtain rfl:=Nz lV
            obtain ⟨w',h1,h2,h3⟩:=Hu (P:=P) hR hy hw nQ
            refine ⟨_,M,w',gC.2 ⟨y,_,cr,hy,rfl,by omega,hY,fun _=>rfl⟩,?_,h2,h3⟩
            refine run_append_fits ht nX lX lY hu qA hi (by omega) (hZ w rfl) (fun a' ha'=>?_) (fun h=>by cases h)
            simp only [Option.some.injEq] at ha'; subst ha'
            rw [qx,Nat.add_assoc]; exact h1
          · simp at h
        · rename_i yI
          split at h
          · simp at h
          · rename_i old hold
            split at h
            · rename_i DI
              have VN:∀ (hc:¬ (o.opn&&decide (a.off+cap*o.esz=o.cells.length))=true),cr=cap:=by
                intro hc
                rcases hY with h | ⟨h1,h2,h3⟩
                · exact h
                · exfalso; apply hc
                  rw [← uX.opn,← uX.esz,← uX.len]
                  simp [h1,h2]
              have VO:elems i'.size len (.slice (some a) len cap) G=some old:=hold
              obtain ⟨HC,VP,HD,NA⟩:=Hw (P:=P) hR VO (Nat.le_refl _) hs
              have HE:old.length=len*i'.size:=by rw [iG HD,NA]
              have NB:∀ G0,Rel G0 M w B→cy G M w G0 M w→¬ len+n≤cr →
                  ∃ r' M' w',V M' (.slice (some ⟨G0.nx,0,none⟩) (len+n) (len+n)) r' ∧(Builtin.append_ ts ty as).run P w= .ok r' w' ∧Rel (G0.push ⟨old++new,i'.size,true,1⟩) M' w' B∧cy G M w (G0.push ⟨old++new,i'.size,true,1⟩) M' w':=by
                intro G0 VQ VR VS
                obtain ⟨ex,k,gT⟩:=Nv (ty:=ty) (old:=HC) ht nX lX lY hu qA hi qv VS Nx DI (fun k=>hZ _ rfl) (fun k=>VP _ rfl)
                have hp:=(VQ.drawn k).push (cells:=old++new) (c:=(⟨HC⟩:Array Value)++⟨us⟩++Builtin.zeroCells z.cells ex) (e:=e) (esz:=i'.size) (ex:=ex) (opn:=true)
                  (fun j v hv=>by
                    obtain ⟨u,jC,jy⟩:=(iH.1 (uQ HD nQ)).2 j v hv
                    have hj:j<(HC++us).length:=(List.getElem?_eq_some_iff.1 jC).1
                    exact ⟨u,by rw [Array.getElem?_append_left (by simpa using hj)]; simpa using jC,jy⟩)
                  (by simp [Ns,Ny,HE,nZ,NA,DJ])
                refine ⟨_,_,_,?_,gT,hp.1,VR.trans hp.2.1.He⟩
                exact gC.2 ⟨_,_,len+n+ex,hp.2.2,rfl,Nat.le_refl _,.inr ⟨rfl,by simp [nZ,HE,Nat.add_mul],rfl⟩,fun _=>rfl⟩
              split at h
              · rename_i HF
                split at h
                · rename_i hm
                  simp only [Bool.and_eq_true,decide_eq_true_eq] at hm HF
                  simp only [Option.some.injEq,Prod.mk.injEq] at h
                  obtain ⟨rfl,rfl⟩:=h
                  obtain ⟨qB,AZ,VT⟩:=hR.kill ho (by rw [hy]; simp)
                  have DK:(G.put a.block { o with mode:=2 }).nx=G.nx:=rfl
                  by_cases eJ:len+n≤cr
                  · -- the model afp room: the same block goes on under a new name
                    have lV:cr≠0:=by omega
                    obtain rfl:=Nz lV
                    obtain ⟨h1,h2,h3⟩:y.opn=true∧a.off+cap*y.esz=y.len∧cr=cap+y.ex:=by
                      rcases hY with h | h
                      · omega
                      · exact h
                    obtain ⟨hB,c0,e0,lW,VU⟩:=uX.own hm.1
                    have Hk:y.esz=i'.size:=by rw [uX.esz]; exact hm.2
                    have VW:y.off+a.off+(len+n)*i'.size+(cr - (len+n))*i'.size≤c0.size:=by
                      have e1:(len+n)*i'.size+(cr - (len+n))*i'.size=cr*i'.size:=by rw [← Nat.add_mul]; congr 1; omega
                      have e2:cr*i'.size=cap*i'.size+y.ex*i'.size:=by rw [h3,Nat.add_mul]
                      rw [Hk] at h2 VU
                      omega
                    have afq:len*i'.size+us.length=(len+n)*i'.size:=by rw [DJ,Nat.add_mul]
                    have Hv:us.all one=true:=by
                      refine List.all_eq_true.2 fun u hu=>?_
                      obtain ⟨j,hj,rfl⟩:=List.getElem_of_mem hu
                      have NC:j<new.length:=by omega
                      obtain ⟨q,hq,hV⟩:=(iH.1 nQ).2 j new[j] (by simp [NC])
                      simp only [List.getElem?_eq_getElem hj,Option.some.injEq] at hq
                      rw [hq,← ML hV]
                      simp only [Bool.not_eq_true,Bool.not_eq_false'] at kV
                      exact List.all_eq_true.1 (by simpa using kV) _ (List.getElem_mem NC)
                    have au:=Ho (P:=P) (off:=y.off+(a.off+len*i'.size)) us 0 w c0 lW (by omega) Hv
                    have pg:=hR.write (c':=nV c0 (y.off+(a.off+len*i'.size)+0) us) (m:=2) (cs:=o.cells) hy ho hm.1 lW (AU _ _ _) rfl (.inr rfl) (fun h=>by omega)
                    have VX:G.put a.block { o with cells:=o.cells,mode:=2 }=G.put a.block { o with mode:=2 }:=rfl
                    rw [VX] at pg
                    have aT:y.aY<w.heap.size:=(Array.getElem?_eq_some_iff.1 lW).1
                    have VY:∀ (j:Nat) (v:Value),old[j]? =some v→∃ u,c0[y.off+a.off+j]? =some u∧V M v u:=by
                      intro j v hv
                      obtain ⟨u,jC,jy⟩:=(iH.1 HD).2 j v hv
                      obtain ⟨us0,A0,wD,A3⟩:=yz hR hy hold
                      obtain ⟨u',VZ,V0⟩:=(iH.1 A0).2 j v hv
                      have iZ:=A3 j u' VZ
                      rw [AW lW] at iZ
                      exact ⟨u',iZ,V0⟩
                    have HG:=pg.1.VJ (x:=⟨y.aY,y.off+a.off,cr - (len+n),i'.size,true,(len+n)*i'.size⟩) (cells:=old++new) (c:=nV c0 (y.off+(a.off+len*i'.size)+0) us) (e:=e0)
                      hB (Hq aT) (by simp [HE,nZ,Nat.add_mul]) (by simp only [AU]; exact VW) (by
                        intro j v hv
                        rw [DG us c0 _ _ (by omega)]
                        rcases Nat.lt_or_ge j old.length with hj | hj
                        · rw [List.getElem?_append_left hj] at hv
                          rw [if_neg (by simp only; omega)]
                          exact VY j v hv
                        · rw [List.getElem?_append_right hj] at hv
                          have hjn:j - old.length<new.length:=(List.getElem?_eq_some_iff.1 hv).1
                          obtain ⟨u,jC,jy⟩:=(iH.1 nQ).2 _ v hv
                          rw [if_pos (by simp only; omega)]
                          exact ⟨u,by rw [← jC]; congr 1; simp only; omega,jy⟩)
                      (fun h q p hq hp fu=>VT y hy hm.1 h q p hq hp fu)
                    refine ⟨_,_,_,gC.2 ⟨⟨y.aY,y.off+a.off,cr - (len+n),i'.size,true,(len+n)*i'.size⟩,⟨y.aY,y.off+a.off,none⟩,cr,by rw [Map.m7,DK,if_pos rfl],rfl,Nat.le_refl _,.inr ⟨rfl,by simp,by simp only; omega⟩,fun _=>rfl⟩,?_,HG.1,?_⟩
                    · refine run_append_fits ht nX lX lY hu qA hi eJ (hZ w rfl) (fun a' ha'=>?_) (fun h=>by cases h)
                      simp only [Option.some.injEq] at ha'; subst ha'
                      rw [qx,Nat.add_assoc]; exact au
                    · have hE:=pg.2
                      refine ⟨HG.2.1,hE.size,hE.keep,fun r hr=>?_,hE.os,hE.tape,hE.output,by show G.nx≤G.nx+1; omega,fun q hq DL=>?_,fun q hq DL=>by rw [GS.kU,if_neg (by rw [DK]; omega)]; exact hE.gn q hq DL⟩
                      rotate_left
                      · obtain ⟨k1,k2⟩:=hE.gk q hq DL
                        exact ⟨by rw [Map.m7,if_neg (by rw [DK]; omega)]; exact DL,by rw [GS.kU,if_neg (by rw [DK]; omega)]; exact k2⟩
                      rcases HG.2.2 r hr with h | h
                      · exact hE.eu r h
                      · exact .inl (.inl ⟨a.block,y,o,hy,ho,hm.1,h.symm⟩)
                  · exact NB _ qB AZ eJ
                · simp at h
              · rename_i HF
                simp only [Option.some.injEq,Prod.mk.injEq] at h
                obtain ⟨rfl,rfl⟩:=h
                have:=VN HF
                exact NB G hR (.refl _ _ _) (by omega)
            · simp at h
  · simp at h
theorem V1 (t:TypeId) (w:World):(Instr.makeMap t none).run P w= .ok (.map (some w.heap.size)) (w.alloc (.map #[] 0)):=rfl
theorem V2 {G G':GS} {w:World} {B:Nat} {T:List Value} {a:Act} (hR:Rel G M w B) (hT:Vs M T a.tmps.toList) {o:Oper} {v:Value} (aV:dL o.op=true)
    (h:rI P T o.op G=some (v,G')) :
    ∃ u M' w',V M' v u∧((execOp a.eval o).run P w= .ok (.value u) w' ∨(u=undef∧(execOp a.eval o).run P w= .ok .skip w'))∧Rel G' M' w' B∧cy G M w G' M' w':=by
  obtain ⟨dst,op,ty,pos,after,guard⟩:=o
  cases op<;>simp only [rI,dL,Bool.and_eq_true,reduceCtorEq] at h aV
  case store t p x =>
    split at h
    · rename_i G2 au
      simp only [Option.some.injEq,Prod.mk.injEq] at h
      obtain ⟨rfl,rfl⟩:=h
      obtain ⟨w',h1,h2,h3⟩:=Vr (P:=P) hR (cV hT aV.1) (cV hT aV.2) au
      exact ⟨undef,M,w',sW,.inr ⟨rfl,by simp only [execOp,Sem.run_bind,h1,Result.andThen_ok,Sem.run_pure]⟩,h2,h3⟩
    · simp at h
  case call c =>
    obtain ⟨callee,args,argTypes⟩:=c
    simp only at h aV
    split at h
    · rename_i ts tx s x A5 nX hx
      have jV:args= #[s,x]:=by apply Array.toList_inj.1; simpa using hx
      subst jV
      simp only [List.all_cons,List.all_nil,Bool.and_true,Bool.and_eq_true] at aV
      obtain ⟨r',M',w',h1,h2,h3,h4⟩:=VL (P:=P) (ty:=ty) (as:=#[a.eval s,a.eval x]) hR (cV hT aV.2.1) (cV hT aV.2.2) h A5 nX rfl rfl
      exact ⟨r',M',w',h1,.inl (by simp only [execOp,resolve,invoke,builtin,List.map_toArray,List.map_cons,List.map_nil,Sem.run_bind,Sem.run_pure,Result.andThen_ok,h2]),h3,h4⟩
    · rename_i td d s V3 hx
      have jV:args= #[d,s]:=by apply Array.toList_inj.1; simpa using hx
      subst jV
      simp only [List.all_cons,List.all_nil,Bool.and_true,Bool.and_eq_true] at aV
      obtain ⟨r',w',h1,h2,h3,h4⟩:=Vv (P:=P) (ty:=ty) (as:=#[a.eval d,a.eval s]) hR (cV hT aV.2.1) (cV hT aV.2.2) h V3 rfl rfl
      exact ⟨r',M,w',h1,.inl (by simp only [execOp,resolve,invoke,builtin,List.map_toArray,List.map_cons,List.map_nil,Sem.run_bind,Sem.run_pure,Result.andThen_ok,h2]),h3,h4⟩
    · simp at h
  case makeMap t r =>
    cases r with
    | some r=>simp at h
    | none =>
      simp only [Option.some.injEq,Prod.mk.injEq] at h
      obtain ⟨rfl,rfl⟩:=h
      obtain ⟨h1,h2,h3⟩:=hR.VA
      exact ⟨.map (some w.heap.size),_,_,AH.2 ⟨_,h3,rfl⟩,.inl (by simp only [execOp,Option.map_none,Sem.run_bind,V1,Result.andThen_ok,Sem.run_pure]),h1,h2⟩
  case lookup t x i ok =>
    split at h
    · rename_i v2 hl
      simp only [Option.some.injEq,Prod.mk.injEq] at h
      obtain ⟨rfl,rfl⟩:=h
      obtain ⟨h1,h2⟩:=Vy (P:=P) hR hl (cV hT aV.1) (cV hT aV.2)
      exact ⟨v2,M,w,h1,.inl (by simp only [execOp,Sem.run_bind,h2,Result.andThen_ok,Sem.run_pure]),hR,.refl G M w⟩
    · simp at h
  case mapUpdate t m k x =>
    split at h
    · rename_i G2 hp
      simp only [Option.some.injEq,Prod.mk.injEq] at h
      obtain ⟨rfl,rfl⟩:=h
      obtain ⟨w',h1,h2,h3⟩:=VD (P:=P) hR hp (cV hT aV.1.1) (cV hT aV.1.2) (cV hT aV.2)
      exact ⟨undef,M,w',sW,.inr ⟨rfl,by simp only [execOp,Sem.run_bind,h1,Result.andThen_ok,Sem.run_pure]⟩,h2,h3⟩
    · simp at h
end Go.Proofs.YtkhlabammcghbaaGreat.Gh
