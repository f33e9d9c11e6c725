import Derived.Test.YtkhlabammcghbaaGreatGhX
namespace Go.Proofs.YtkhlabammcghbaaGreat.Gh
open Go
variable {P:Program} {E:Ev} {B N:Nat} {ops:Array Oper} {ms:List Nat} {base:Nat} {T:Nat→List Value} {G:Nat→GS} {v:Nat→Value}
def ei (ops:Array Oper) (T:Nat→List Value) (c j:Nat):Prop:=∃ o,ops[j]? =some o∧dx ops (T j) o=true∧cls o.op=c
theorem ei.uniq {c d j:Nat} (h:ei ops T c j) (h':ei ops T d j):c=d:=by
  obtain ⟨o,h1,_,h2⟩:=h
  obtain ⟨o',ft,_,iw⟩:=h'
  rw [h1] at ft; obtain rfl:=Option.some.inj ft
  rw [← h2,← iw]
theorem ei.lt {c j:Nat} (h:ei ops T c j):j<ops.size:=by
  obtain ⟨o,h1,_⟩:=h
  exact (Array.getElem?_eq_some_iff.1 h1).1
theorem Trace.Oo (cY:Trace P E ops ms base T G v) {i:Nat} (hi:i<ops.size) (h2:¬ ei ops T 2 i) (h3:¬ ei ops T 3 i):G (i+1)=G i:=by
  have ho:ops[i]? =some ops[i]:=by simp [hi]
  rcases HV (cY.step i _ ho).1 with ⟨_,_,hG⟩ | ⟨hw,aV,⟨_,_,hG⟩ | ⟨_,_,hG⟩ | ⟨hc,_⟩ | ⟨hc,_⟩⟩
  · exact hG
  · exact hG
  · exact hG
  · exact absurd ⟨_,ho,hw,hc⟩ h2
  · exact absurd ⟨_,ho,hw,hc⟩ h3
theorem Trace.Oq (cY:Trace P E ops ms base T G v) {i:Nat} (h:ei ops T 2 i):∃ cells esz,tA (G i) (G (i+1)) (base+i) ⟨cells,esz,false,1⟩:=by
  obtain ⟨o,ho,hw,hc⟩:=h
  rcases HV (cY.step i _ ho).1 with ⟨kW,_⟩ | ⟨_,aV,⟨uT,_⟩ | ⟨uT,_⟩ | ⟨_,G1,nU,hG⟩ | ⟨uT,_⟩⟩
  · rw [hw] at kW; cases kW
  · omega
  · omega
  · obtain ⟨cells,esz,rfl⟩:=WT nU
    exact ⟨cells,esz,by rw [hG]; exact Ok⟩
  · omega
theorem Trace.len (cY:Trace P E ops ms base T G v):∀ i,i≤ops.size→(T i).length=(T 0).length
  | 0,_=>rfl
  | i+1,hi=>by
    have ho:ops[i]? =some ops[i]:=by simp [show i<ops.size by omega]
    rw [(cY.step i _ ho).2,On,cY.len i (by omega)]
theorem Trace.still (cY:Trace P E ops ms base T G v) {d p:Nat}:∀ i,p≤i→i≤ops.size→(∀ j oj,p≤j→j<i→ops[j]? =some oj→oj.dst=some d→False)→nth undef (T p) d=nth undef (T i) d
  | 0,hp,_,_=>by rw [show p=0 by omega]
  | i+1,hp,hi,h=>by
    rcases Nat.lt_or_ge i p with aT | nR
    · rw [show p=i+1 by omega]
    · have ho:ops[i]? =some ops[i]:=by simp [show i<ops.size by omega]
      rw [cY.still i nR (by omega) fun j oj h1 h2=>h j oj h1 (by omega),(cY.step i _ ho).2,DX,if_neg]
      exact fun hd=>h i _ nR (by omega) ho hd
structure eU (ops:Array Oper) (ms:List Nat) (base:Nat) (T:Nat→List Value) (G:Nat→GS) (Gs:GS) (M₀:Map) (w₀:World) (B N:Nat) (S:Nat→Prop) (q:Nat) (M:Map) (w:World) (a:Act):Prop where
  closed:∀ k j,S k→(nth 0 ms k).testBit j=true→S j
  rR:q≤ops.size
  ws:∀ j,ei ops T 3 j→(S j↔j<q)
  rel:Rel (G q) M w B
  nx:base+ops.size≤(G q).nx
  jb:cy Gs M₀ w₀ (G q) M w
  marks:tq N a.defers w
  len:(T 0).length=a.tmps.size
  slot:∀ d,∃ p,p≤ops.size∧(∀ j o,ops[j]? =some o→o.dst=some d→(S j↔j<p))∧V M (nth undef (T p) d) (nth undef a.tmps.toList d)
  early:∀ i,ei ops T 2 i→S i→q≤i→∃ x o,M.mu (base+i)=some x∧(G (i+1)).obj (base+i)=some o∧o.mode=1∧s0 M w B x o∧¬ eu (G q) M x.aY∧w₀.heap.size≤x.aY
  rS:∀ i j x y,q≤i→q≤j→i<ops.size→j<ops.size→M.mu (base+i)=some x→M.mu (base+j)=some y→x.aY=y.aY→i=j
  un:∀ i,i<ops.size→¬ (ei ops T 2 i∧S i)→M.mu (base+i)=none
  fresh:∀ m i,m≤q→m≤i→i<ops.size→(G m).obj (base+i)=none
  late:∀ j,j<q→ei ops T 2 j→¬ S j→(G q).obj (base+j)=(G (j+1)).obj (base+j)
section
variable {Gs:GS} {M₀ M:Map} {w₀ w:World} {S:Nat→Prop} {q:Nat} {a:Act}
theorem eU.WW (cY:Trace P E ops ms base T G v) (tB:Gs.nx≤base) (h:eU ops ms base T G Gs M₀ w₀ B N S q M w a) (hq:q<ops.size) (hw:¬ ei ops T 3 q) :
    eU ops ms base T G Gs M₀ w₀ B N S (q+1) M w a:=by
  have Ot:∀ j,ei ops T 3 j→(S j↔j<q+1):=fun j hj=>by
    rw [h.ws j hj]
    have:j≠q:=by rintro rfl; exact hw hj
    omega
  by_cases hm:ei ops T 2 q
  · obtain ⟨cells,esz,au⟩:=cY.Oq hm
    have pq:(G (q+1)).obj (base+q)=some ⟨cells,esz,false,1⟩:=by rw [au.obj,if_pos rfl]
    have hx:∀ x,M.mu (base+q)=some x→s0 M w B x ⟨cells,esz,false,1⟩∧¬ eu (G q) M x.aY∧w₀.heap.size≤x.aY:=by
      intro x hx
      have hs:S q:=by
        by_cases hs:S q
        · exact hs
        · rw [h.un q hq fun hh=>hs hh.2] at hx; cases hx
      obtain ⟨x',o,h1,h2,h3,h4,h5,h6⟩:=h.early q hm hs (Nat.le_refl _)
      rw [hx] at h1; obtain rfl:=Option.some.inj h1
      rw [pq] at h2; obtain rfl:=Option.some.inj h2
      exact ⟨h4,h5,h6⟩
    refine { closed := h.closed, rR := hq, ws := Ot, rel := au.rel h.rel (by have := h.nx; omega) (fun x ja => ⟨(hx x ja).1, (hx x ja).2.1⟩), nx := by rw [au.nx]; exact h.nx,
             jb:=au.jb h.jb (by omega) (fun x ja=>(hx x ja).2.2),marks:=h.marks,len:=h.len,slot:=h.slot,early:=?_,rS:=?_,un:=h.un,fresh:=?_,late:=?_ }
    · intro i hi hs WX
      obtain ⟨x,o,h1,h2,h3,h4,h5,h6⟩:=h.early i hi hs (by omega)
      refine ⟨x,o,h1,h2,h3,h4,fun hf=>?_,h6⟩
      rcases au.eu hf with hf | ⟨y,hy,he⟩
      · exact h5 hf
      · have:=h.rS q i y x (Nat.le_refl _) (by omega) hq hi.lt hy h1 he
        omega
    · exact fun i j x y hi hj=>h.rS i j x y (by omega) (by omega)
    · intro m i WY HY eJ
      rcases Nat.lt_or_ge m (q+1) with aT | nR
      · exact h.fresh m i (by omega) HY eJ
      · obtain rfl:m=q+1:=by omega
        rw [au.obj,if_neg (by omega)]
        exact h.fresh q i (Nat.le_refl _) (by omega) eJ
    · intro j hj tC hs
      by_cases DY:j=q
      · subst DY; rfl
      · rw [au.obj,if_neg (by omega)]
        exact h.late j (by omega) tC hs
  · have hG:=cY.Oo hq hm hw
    refine { closed:=h.closed,rR:=hq,ws:=Ot,rel:=by rw [hG]; exact h.rel,nx:=by rw [hG]; exact h.nx,jb:=by rw [hG]; exact h.jb,marks:=h.marks,len:=h.len,slot:=h.slot,early:=?_,rS:=?_,un:=h.un,fresh:=?_,late:=?_ }
    · intro i hi hs WX
      rw [hG]
      exact h.early i hi hs (by omega)
    · exact fun i j x y hi hj=>h.rS i j x y (by omega) (by omega)
    · intro m i WY HY eJ
      rcases Nat.lt_or_ge m (q+1) with aT | nR
      · exact h.fresh m i (by omega) HY eJ
      · obtain rfl:m=q+1:=by omega
        rw [hG]
        exact h.fresh q i (Nat.le_refl _) (by omega) eJ
    · intro j hj tC hs
      have DY:j≠q:=by rintro rfl; exact hm tC
      rw [hG]
      exact h.late j (by omega) tC hs
theorem eU.max (cY:Trace P E ops ms base T G v) (tB:Gs.nx≤base):∀ (n q:Nat),ops.size - q=n→eU ops ms base T G Gs M₀ w₀ B N S q M w a→∃ q',eU ops ms base T G Gs M₀ w₀ B N S q' M w a∧(q' <ops.size→ei ops T 3 q')
  | 0,q,hn,h=>⟨q,h,fun aT=>by omega⟩
  | n+1,q,hn,h=>by
    by_cases hw:ei ops T 3 q
    · exact ⟨q,h,fun _=>hw⟩
    · exact eU.max cY tB n (q+1) (by omega) (h.WW cY tB (by omega) hw)
theorem eU.WZ (gU:vf ops ms) (h:eU ops ms base T G Gs M₀ w₀ B N S q M w a) {i:Nat} {o:Oper} (ho:ops[i]? =some o) (hr:∀ e∈o.after,Region.binds .any e=true→S e.on) (j:Nat) (hj:(nth 0 ms i).testBit j=true):S j:=by
  obtain ⟨e,h1,h2,h3⟩:=gU.mask i o j ho hj
  rcases h3 with rfl | h3
  · exact hr e h1 h2
  · exact h.closed _ _ (hr e h1 h2) h3
theorem eU.look (cY:Trace P E ops ms base T G v) (gU:vf ops ms) (h:eU ops ms base T G Gs M₀ w₀ B N S q M w a) {i:Nat} {o:Oper} (ho:ops[i]? =some o) (hs:¬ S i) (hp:∀ j,(nth 0 ms i).testBit j=true→S j) :
    ∀ d∈o.looksAt ops,V M (nth undef (T i) d) (nth undef a.tmps.toList d):=by
  intro d hd
  have hi:i<ops.size:=(Array.getElem?_eq_some_iff.1 ho).1
  obtain ⟨p,Bm,yP,hv⟩:=h.slot d
  have heq:nth undef (T p) d=nth undef (T i) d:=by
    rcases Nat.le_total p i with hle | hle
    · refine cY.still i hle (by omega) fun j oj W0 kX dr qD=>?_
      rcases gU.pair j i oj o dr ho kX with hb | ⟨wI,_⟩
      · have:=(yP j oj dr qD).1 (hp j hb); omega
      · exact (Oper.apart_spec wI).1 d qD hd
    · refine (cY.still p hle Bm fun j oj gD Ou dr qD=>?_).symm
      have pr:=(yP j oj dr qD).2 Ou
      rcases Nat.lt_or_ge i j with aT | nR
      · rcases gU.pair i j o oj ho dr aT with hb | ⟨wI,_⟩
        · exact hs (h.closed j i pr hb)
        · exact (Oper.apart_spec wI).2.2 d qD hd
      · obtain rfl:j=i:=by omega
        exact hs pr
  rw [← heq]; exact hv
theorem eU.Ov (cY:Trace P E ops ms base T G v) (gU:vf ops ms) (h:eU ops ms base T G Gs M₀ w₀ B N S q M w a) {i:Nat} {o:Oper} (ho:ops[i]? =some o) (hs:¬ S i) (hp:∀ j,(nth 0 ms i).testBit j=true→S j)
    {M':Map} (hM:M.Le M') {u:Value} (hu:V M' (v i) u) :
    ∀ d,∃ p,p≤ops.size∧(∀ j oj,ops[j]? =some oj→oj.dst=some d→((S j∨j=i)↔j<p))∧V M' (nth undef (T p) d) (nth undef (a.put o.dst u).tmps.toList d):=by
  intro d
  have hi:i<ops.size:=(Array.getElem?_eq_some_iff.1 ho).1
  by_cases hd:o.dst=some d
  · refine ⟨i+1,hi,fun j oj dr Bn=>⟨?_,fun aT=>?_⟩,?_⟩
    · rintro (pr | rfl)
      · rcases Nat.lt_or_ge i j with aT | nR
        · rcases gU.pair i j o oj ho dr aT with hb | ⟨wI,_⟩
          · exact absurd (h.closed j i pr hb) hs
          · exact absurd Bn ((Oper.apart_spec wI).2.1 d hd)
        · omega
      · omega
    · by_cases kX:j=i
      · exact .inr kX
      · rcases gU.pair j i oj o dr ho (by omega) with hb | ⟨wI,_⟩
        · exact .inl (hp j hb)
        · exact absurd hd ((Oper.apart_spec wI).2.1 d Bn)
    · have hlen:(T i).length=a.tmps.toList.length:=by rw [cY.len i (by omega),h.len]; simp
      rw [(cY.step i o ho).2,HX,DX,DX,if_pos hd,if_pos hd,hlen]
      split
      · exact hu
      · exact sW
  · obtain ⟨p,Bm,yP,hv⟩:=h.slot d
    refine ⟨p,Bm,fun j oj dr Bn=>?_,by rw [HX,DX,if_neg hd]; exact hv.mono hM⟩
    have aB:j≠i:=by
      rintro rfl
      rw [ho] at dr; obtain rfl:=Option.some.inj dr
      exact hd Bn
    rw [← yP j oj dr Bn]
    exact ⟨fun hh=>hh.resolve_right aB,.inl⟩
theorem eU.Ow (h:eU ops ms base T G Gs M₀ w₀ B N S q M w a) {i:Nat} (hp:∀ j,(nth 0 ms i).testBit j=true→S j):∀ k j,(S k∨k=i)→(nth 0 ms k).testBit j=true→(S j∨j=i):=by
  rintro k j (hk | rfl) hb
  · exact .inl (h.closed k j hk hb)
  · exact .inl (hp j hb)
theorem Ox (a:Act) (d:Option Tmp) (u:Value):(a.put d u).tmps.size=a.tmps.size:=by
  have:=congrArg List.length (HX a d u)
  rw [On] at this
  simpa using this
theorem eU.Oy (cY:Trace P E ops ms base T G v) (gU:vf ops ms) (h:eU ops ms base T G Gs M₀ w₀ B N S q M w a) {i:Nat} {o:Oper} (ho:ops[i]? =some o) (hs:¬ S i) (hp:∀ j,(nth 0 ms i).testBit j=true→S j)
    (Oz:¬ ei ops T 2 i) {q':Nat} (wJ:(q' =q∧¬ ei ops T 3 i)∨(q' =q+1∧i=q∧ei ops T 3 i)) {M':Map} {w':World} {u:Value} (hE:cy (G q) M w (G q') M' w') (hR:Rel (G q') M' w' B) (hu:V M' (v i) u) :
    eU ops ms base T G Gs M₀ w₀ B N (fun j=>S j∨j=i) q' M' w' (a.put o.dst u):=by
  have hi:i<ops.size:=(Array.getElem?_eq_some_iff.1 ho).1
  have jX:=h.nx
  have OA:=h.rR
  have hqq:q≤q':=by rcases wJ with ⟨rfl,_⟩ | ⟨rfl,_⟩<;>omega
  have OB:∀ j x,j<ops.size→M'.mu (base+j)=some x→M.mu (base+j)=some x:=by
    intro j x hj hx
    cases hm:M.mu (base+j) with
    | none=>rw [(hE.gk (base+j) (by omega) hm).1] at hx; cases hx
    | some y=>rw [hE.map.mu _ _ hm] at hx; rw [Option.some.inj hx]
  refine { closed := h.Ow hp, rR := ?_, ws := ?_, rel := hR, nx := Nat.le_trans h.nx hE.nx, jb := h.jb.trans hE, marks := by rw [put_defers]; exact h.marks.jb h.rel hE,
           len:=by rw [Ox]; exact h.len,slot:=h.Ov cY gU ho hs hp hE.map hu,early:=?_,rS:=?_,un:=?_,fresh:=?_,late:=?_ }
  · rcases wJ with ⟨rfl,_⟩ | ⟨rfl,rfl,_⟩<;>omega
  · intro j hj
    rcases wJ with ⟨rfl,hn⟩ | ⟨rfl,rfl,_⟩
    · rw [← h.ws j hj]
      have aB:j≠i:=by rintro rfl; exact hn hj
      exact ⟨fun hh=>hh.resolve_right aB,.inl⟩
    · rw [h.ws j hj]; omega
  · intro j hj pr Bo
    have aB:j≠i:=by rintro rfl; exact Oz hj
    obtain ⟨x,o',h1,h2,h3,h4,h5,h6⟩:=h.early j hj (pr.resolve_right aB) (by omega)
    have aT:=wG h4 h3
    exact ⟨x,o',hE.map.mu _ _ h1,h2,h3,h4.lift hE.map h3 (hE.keep _ aT h5),fun hf=>(hE.eu _ hf).elim h5 (fun _=>by omega),h6⟩
  · exact fun i j x y hi hj bG sR hx hy=>h.rS i j x y (by omega) (by omega) bG sR (OB _ _ bG hx) (OB _ _ sR hy)
  · exact fun j hj hn=>(hE.gk (base+j) (by omega) (h.un j hj fun hh=>hn ⟨hh.1,.inl hh.2⟩)).1
  · intro m j hm W1 hj
    rcases Nat.lt_or_ge q m with aT | nR
    · obtain rfl:m=q':=by rcases wJ with ⟨rfl,_⟩ | ⟨rfl,_⟩<;>omega
      exact hE.gn (base+j) (by omega) (h.fresh q j (Nat.le_refl _) (by omega) hj)
    · exact h.fresh m j nR W1 hj
  · intro j hj tC pr
    have DY:j<q:=by
      rcases wJ with ⟨rfl,_⟩ | ⟨rfl,rfl,hw⟩
      · exact hj
      · have:j≠i:=by rintro rfl; exact Oz tC
        omega
    have OC:¬ S j:=fun hh=>pr (.inl hh)
    rw [(hE.gk (base+j) (by omega) (h.un j (by omega) fun hh=>OC hh.2)).2]
    exact h.late j DY tC OC
theorem eU.W4 (cY:Trace P E ops ms base T G v) (gU:vf ops ms) (tB:Gs.nx≤base) (h:eU ops ms base T G Gs M₀ w₀ B N S q M w a) {i:Nat} {o:Oper} (ho:ops[i]? =some o) (hs:¬ S i) (hp:∀ j,(nth 0 ms i).testBit j=true→S j)
    (hm:ei ops T 2 i) {cells:List Value} {esz:Nat} {mk:Nat→Value} {c:Array Value} {e:TypeId} (au:tA (G i) (G (i+1)) (base+i) ⟨cells,esz,false,1⟩) (hc:Vs M cells c.toList) (nU:DE mk) (hv:v i=mk (base+i)) :
    ∃ M',eU ops ms base T G Gs M₀ w₀ B N (fun j=>S j∨j=i) q M' (w.alloc (.cells c e)) (a.put o.dst (mk w.heap.size)):=by
  have hi:i<ops.size:=hm.lt
  have jX:=h.nx
  have OA:=h.rR
  have m9:M.mu (base+i)=none:=h.un i hi fun hh=>hs hh.2
  have hM:M.Le (M.ext (base+i) ⟨w.heap.size,0,0,esz,false,cells.length⟩):=Map.yB m9
  have pq:(G (i+1)).obj (base+i)=some ⟨cells,esz,false,1⟩:=by rw [au.obj,if_pos rfl]
  have W5:∀ o',(G q).obj (base+i)=some o' →o' =⟨cells,esz,false,1⟩:=by
    intro o' cW
    rcases Nat.lt_or_ge i q with aT | nR
    · rw [h.late i aT hm hs,pq] at cW; exact (Option.some.inj cW).symm
    · rw [h.fresh q i (Nat.le_refl _) nR hi] at cW; cases cW
  have hold:∀ j x,q≤j→j<ops.size→M.mu (base+j)=some x→x.aY<w.heap.size:=by
    intro j x Bo hj hx
    have hk:ei ops T 2 j∧S j:=Classical.byContradiction fun hn=>by rw [h.un j hj hn] at hx; cases hx
    obtain ⟨y,o',h1,_,h3,h4,_⟩:=h.early j hk.1 hk.2 Bo
    rw [hx] at h1; obtain rfl:=Option.some.inj h1
    exact wG h4 h3
  refine ⟨M.ext (base+i) ⟨w.heap.size,0,0,esz,false,cells.length⟩,?_⟩
  refine { closed := h.Ow hp, rR := h.rR, ws := ?_, rel := h.rel.late m9 (by omega) hc W5, nx := h.nx, jb := h.jb.late (by omega) m9 rfl _, marks := ?_,
           len:=by rw [Ox]; exact h.len,slot:=h.Ov cY gU ho hs hp hM (by rw [hv]; exact nU.rel (by rw [Map.m7,if_pos rfl])),early:=?_,rS:=?_,un:=?_,fresh:=h.fresh,late:=?_ }
  · intro j hj
    rw [← h.ws j hj]
    have aB:j≠i:=by rintro rfl; exact absurd (hj.uniq hm) (by omega)
    exact ⟨fun hh=>hh.resolve_right aB,.inl⟩
  · rw [put_defers]
    obtain ⟨rs,h1,h2,h3⟩:=h.marks
    refine ⟨rs,h1,h2,fun r hr=>⟨(h3 r hr).1,?_⟩⟩
    have aT:=(Array.getElem?_eq_some_iff.1 (h3 r hr).2).1
    rw [vg w _ _ aT]; exact (h3 r hr).2
  · intro j hj pr Bo
    by_cases kX:j=i
    · subst kX
      refine ⟨_,_,by rw [Map.m7,if_pos rfl],pq,rfl,Ol h.rel.size (hc.mono hM),fun hf=>?_,h.jb.size⟩
      rcases HW hf with hf | ⟨_,o',cW⟩
      · exact absurd (WU h.rel hf) (Nat.lt_irrefl _)
      · rw [h.fresh q j (Nat.le_refl _) Bo hi] at cW; cases cW
    · obtain ⟨y,o',h1,h2,h3,h4,h5,h6⟩:=h.early j hj (pr.resolve_right kX) Bo
      have aT:=wG h4 h3
      refine ⟨y,o',hM.mu _ _ h1,h2,h3,h4.lift hM h3 (vg w _ _ aT),fun hf=>?_,h6⟩
      rcases HW hf with hf | ⟨he,_⟩
      · exact h5 hf
      · simp only at he; omega
  · intro j k x y hj hk sR iI hx hy he
    rcases wH hx with ⟨h1,h2⟩ | ⟨h1,h2⟩<;>rcases wH hy with ⟨h3,h4⟩ | ⟨h3,h4⟩
    · omega
    · have:=hold k y hk iI h4
      rw [h2] at he; simp only at he; omega
    · have:=hold j x hj sR h2
      rw [h4] at he; simp only at he; omega
    · exact h.rS j k x y hj hk sR iI h2 h4 he
  · intro j hj hn
    have aB:j≠i:=by rintro rfl; exact hn ⟨hm,.inr rfl⟩
    rw [Map.m7,if_neg (by omega)]
    exact h.un j hj fun hh=>hn ⟨hh.1,.inl hh.2⟩
  · exact fun j hj tC pr=>h.late j hj tC fun hh=>pr (.inl hh)
theorem eU.W6 (cY:Trace P E ops ms base T G v) (h:eU ops ms base T G Gs M₀ w₀ B N S q M w a) (nY:q<ops.size→ei ops T 3 q) {i:Nat} {o:Oper} (ho:ops[i]? =some o) (hs:¬ S i) (hp:∀ j,(nth 0 ms i).testBit j=true→S j)
    (hw:dx ops (T i) o=true) (hc:cls o.op=1) (hr:fD P (T i) o.op (G i)=some (v i)):fD P (T i) o.op (G q)=some (v i):=by
  have hi:i<ops.size:=(Array.getElem?_eq_some_iff.1 ho).1
  have OA:=h.rR
  have hk:ei ops T 1 i:=⟨o,ho,hw,hc⟩
  rcases Nat.lt_trichotomy i q with aT | heq | lZ
  · have key:∀ n,i+n≤q→fD P (T i) o.op (G (i+n))=some (v i):=by
      intro n
      induction n with
      | zero=>exact fun _=>hr
      | succ n ih =>
        intro hn
        have ih:=ih (by omega)
        show fD P (T i) o.op (G (i+n+1))=some (v i)
        by_cases h3:ei ops T 3 (i+n)
        · have aB:n≠0:=by rintro rfl; exact absurd (hk.uniq h3) (by omega)
          have W7:=(h.ws _ h3).2 (by omega)
          obtain ⟨om,W8,W9,Xa⟩:=h3
          rcases cY.after i (i+n) o om ho W8 (by omega) hw W9 hc Xa with hb | hb
          · exact absurd (h.closed _ _ W7 hb) hs
          · exact hb
        · by_cases h2:ei ops T 2 (i+n)
          · obtain ⟨cells,esz,au⟩:=cY.Oq h2
            refine tw.read (fun g o' hg=>?_) ih
            rw [au.obj]
            split
            · rename_i he
              rw [he,h.fresh (i+n) (i+n) (by omega) (Nat.le_refl _) h2.lt] at hg; cases hg
            · exact hg
          · rw [cY.Oo (by omega) h2 h3]; exact ih
    have:=key (q - i) (by omega)
    rwa [show i+(q - i)=q by omega] at this
  · subst heq
    exact absurd (hk.uniq (nY hi)) (by omega)
  · have h3:=nY (by omega)
    have hq:=h.ws q h3
    obtain ⟨oq,HZ,OD,H0⟩:=h3
    rcases cY.before i q o oq ho HZ lZ hw OD hc H0 with hb | hb
    · exact absurd (hq.1 (hp q hb)) (Nat.lt_irrefl _)
    · exact hb
theorem eU.exec (hE:jD P B E) (cY:Trace P E ops ms base T G v) (gU:vf ops ms) (tB:Gs.nx≤base) (h:eU ops ms base T G Gs M₀ w₀ B N S q M w a) (nY:q<ops.size→ei ops T 3 q) {i:Nat} {o:Oper} (ho:ops[i]? =some o) (hs:¬ S i)
    (hr:∀ e∈o.after,Region.binds .any e=true→S e.on) {b:Frame} {k:List Item} {cs:List Frame} {rest:List Nat} :
    ∃ q' M' w' a',eU ops ms base T G Gs M₀ w₀ B N (fun j=>S j∨j=i) q' M' w' a' ∧Steps P (lone (b.atR a (.inRegion ops (i::rest)::k)) cs w) (lone (b.atR a' (.inRegion ops rest::k)) cs w'):=by
  have hi:i<ops.size:=(Array.getElem?_eq_some_iff.1 ho).1
  have hp:=h.WZ gU ho hr
  have OE:=h.look cY gU ho hs hp
  have OH:Region.wanted o (yielded ops a.tmps)=dx ops (T i) o:=WM OE
  have OI:Vs M (qE (o.looksAt ops) (T i)) (DV (o.looksAt ops) a).tmps.toList:=WK (by rw [cY.len i (by omega),h.len]) OE
  have Bp:∀ c,dx ops (T i) o=true→cls o.op≠c→¬ ei ops T c i:=by
    rintro c _ aB ⟨o',cW,_,hc⟩
    rw [ho] at cW; obtain rfl:=Option.some.inj cW
    exact aB hc
  rcases HV (cY.step i o ho).1 with ⟨hw,hv,hG⟩ | ⟨hw,aV,hc⟩
  · have od:∀ c,¬ ei ops T c i:=by
      rintro c ⟨o',cW,kW,_⟩
      rw [ho] at cW; obtain rfl:=Option.some.inj cW
      rw [hw] at kW; cases kW
    refine ⟨q,M,w,_,h.Oy cY gU ho hs hp (od 2) (.inl ⟨rfl,od 3⟩) (.refl _ _ _) h.rel (by rw [hv]; exact sW),.one ?_⟩
    have:=stepR_op_skip (P:=P) (b:=b) (a:=a) (k:=k) (cs:=cs) (w:=w) (ops:=ops) (i:=i) (rest:=rest) (by simp [ho,OH,hw])
    simpa [ho] using this
  · have kW:=OH.trans hw
    have Bq:∀ {G':GS} {q':Nat},G' =G q' →iV P E (T i) (G q) o.op=some (v i,G')→¬ ei ops T 2 i→((q' =q∧¬ ei ops T 3 i)∨(q' =q+1∧i=q∧ei ops T 3 i)) →
        ∃ q' M' w' a',eU ops ms base T G Gs M₀ w₀ B N (fun j=>S j∨j=i) q' M' w' a' ∧Steps P (lone (b.atR a (.inRegion ops (i::rest)::k)) cs w) (lone (b.atR a' (.inRegion ops rest::k)) cs w'):=by
      intro G' q' Xb eL h2 wJ
      subst Xb
      have nt:iV P E (qE (o.looksAt ops) (T i)) (G q) o.op=some (v i,G q'):=by rw [WI N8]; exact eL
      obtain ⟨M',w',u,h1,iw,h3,h4⟩:=NG hE nt (b:=b) (k:=k) (cs:=cs) (rest:=rest) ho kW h.rel OI (N9 (WJ nt))
      exact ⟨q',M',w',_,h.Oy cY gU ho hs hp h2 wJ h1 iw h3,h4⟩
    rcases hc with ⟨hc,Xc,hG⟩ | ⟨hc,Xd,hG⟩ | ⟨hc,G1,nU,hG⟩ | ⟨hc,eL⟩
    · exact Bq (q':=q) rfl (by unfold iV; rw [if_neg (by simp [aV]),hc]; simp only [Xc]) (Bp 2 hw (by omega)) (.inl ⟨rfl,Bp 3 hw (by omega)⟩)
    · have Xe:=h.W6 cY nY ho hs hp hw hc Xd
      exact Bq (q':=q) rfl (by unfold iV; rw [if_neg (by simp [aV]),hc]; simp only [Xe]) (Bp 2 hw (by omega)) (.inl ⟨rfl,Bp 3 hw (by omega)⟩)
    · have hd:∀ c,o.op≠ .defer c:=by rintro c H2; rw [H2] at hc; simp [cls] at hc
      have Xf:∀ cs b,o.op≠ .select cs b:=by rintro c b H2; rw [H2] at hc; simp [cls] at hc
      have Xg:lQ P (qE (o.looksAt ops) (T i)) o.op { G i with nx:=base+i }=some (v i,G1):=by rw [N0 N8]; exact nU
      obtain ⟨cells,esz,mk,c,e,h1,h2,rfl,h4,h5⟩:=Na (P:=P) OI aV Xg
      obtain ⟨M',hD⟩:=h.W4 cY gU tB ho hs hp ⟨o,ho,hw,hc⟩ (cells:=cells) (esz:=esz) (e:=e) (by rw [hG]; exact Ok) h4 h1 h2
      exact ⟨q,M',_,_,hD,.one (Ba ho kW hd (by rw [N9 (ops:=ops) Xf]; exact h5 w))⟩
    · have hk:ei ops T 3 i:=⟨o,ho,hw,hc⟩
      have OJ:i=q:=by
        have h1:¬ i<q:=fun aT=>hs ((h.ws i hk).2 aT)
        rcases Nat.lt_or_ge q i with aT | nR
        · have h3:=nY (by omega)
          have hq:=h.ws q h3
          obtain ⟨oq,HZ,OD,H0⟩:=h3
          rcases gU.pair q i oq o HZ ho aT with hb | ⟨_,hn⟩
          · exact absurd (hq.1 (hp q hb)) (Nat.lt_irrefl _)
          · exact absurd ⟨H0,hc⟩ hn
        · omega
      refine Bq (q':=q+1) (G':=G (q+1)) rfl ?_ (Bp 2 hw (by omega)) (.inr ⟨rfl,OJ,hk⟩)
      rw [← OJ]; exact eL
end
end Go.Proofs.YtkhlabammcghbaaGreat.Gh
