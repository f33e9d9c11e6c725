import Derived.Test.YtphandknhnkhfaaGreatGhX
namespace Go.Proofs.YtphandknhnkhfaaGreat.Gh
open Go
variable {P:Program} {E:Ev} {B N:Nat} {ops:Array Oper} {ms:List Nat} {base:Nat} {T:Nat→List Value} {G:Nat→GS} {v:Nat→Value}
def eD (ops:Array Oper) (T:Nat→List Value) (c j:Nat):Prop:=∃ o,ops[j]? =some o∧dD ops (T j) o=true∧cls o.op=c
theorem eD.uniq {c d j:Nat} (h:eD ops T c j) (h':eD ops T d j):c=d:=by
  obtain ⟨o,h1,_,h2⟩:=h
  obtain ⟨o',eN,_,iS⟩:=h'
  rw [h1] at eN; obtain rfl:=Option.some.inj eN
  rw [← h2,← iS]
theorem eD.lt {c j:Nat} (h:eD ops T c j):j<ops.size:=by
  obtain ⟨o,h1,_⟩:=h
  exact (Array.getElem?_eq_some_iff.1 h1).1
theorem Trace.MJ (dj:Trace P E ops ms base T G v) {i:Nat} (hi:i<ops.size) (h2:¬ eD ops T 2 i) (h3:¬ eD ops T 3 i):G (i+1)=G i:=by
  have ho:ops[i]? =some ops[i]:=by simp [hi]
  rcases GR (dj.step i _ ho).1 with ⟨_,_,hG⟩ | ⟨hw,aP,⟨_,_,hG⟩ | ⟨_,_,hG⟩ | ⟨hc,_⟩ | ⟨hc,_⟩⟩
  · exact hG
  · exact hG
  · exact hG
  · exact absurd ⟨_,ho,hw,hc⟩ h2
  · exact absurd ⟨_,ho,hw,hc⟩ h3
theorem Trace.MK (dj:Trace P E ops ms base T G v) {i:Nat} (h:eD ops T 2 i):∃ cells esz,tq (G i) (G (i+1)) (base+i) ⟨cells,esz,false,1⟩:=by
  obtain ⟨o,ho,hw,hc⟩:=h
  rcases GR (dj.step i _ ho).1 with ⟨lB,_⟩ | ⟨_,aP,⟨nT,_⟩ | ⟨nT,_⟩ | ⟨_,G1,iT,hG⟩ | ⟨nT,_⟩⟩
  · rw [hw] at lB; cases lB
  · omega
  · omega
  · obtain ⟨cells,esz,rfl⟩:=VI iT
    exact ⟨cells,esz,by rw [hG]; exact MF⟩
  · omega
theorem Trace.len (dj:Trace P E ops ms base T G v):∀ i,i≤ops.size→(T i).length=(T 0).length
  | 0,_=>rfl
  | i+1,hi=>by
    have ho:ops[i]? =some ops[i]:=by simp [show i<ops.size by omega]
    rw [(dj.step i _ ho).2,MI,dj.len i (by omega)]
theorem Trace.still (dj:Trace P E ops ms base T G v) {d p:Nat}:∀ i,p≤i→i≤ops.size→(∀ j oj,p≤j→j<i→ops[j]? =some oj→oj.dst=some d→False)→nth undef (T p) d=nth undef (T i) d
  | 0,hp,_,_=>by rw [show p=0 by omega]
  | i+1,hp,hi,h=>by
    rcases Nat.lt_or_ge i p with aJ | nV
    · rw [show p=i+1 by omega]
    · have ho:ops[i]? =some ops[i]:=by simp [show i<ops.size by omega]
      rw [dj.still i nV (by omega) fun j oj h1 h2=>h j oj h1 (by omega),(dj.step i _ ho).2,C8,if_neg]
      exact fun hd=>h i _ nV (by omega) ho hd
structure fj (ops:Array Oper) (ms:List Nat) (base:Nat) (T:Nat→List Value) (G:Nat→GS) (Gs:GS) (M₀:Map) (w₀:World) (B N:Nat) (S:Nat→Prop) (q:Nat) (M:Map) (w:World) (a:Act):Prop where
  closed:∀ k j,S k→(nth 0 ms k).testBit j=true→S j
  rF:q≤ops.size
  ws:∀ j,eD ops T 3 j→(S j↔j<q)
  rel:Rel (G q) M w B
  nx:base+ops.size≤(G q).nx
  jl:cI Gs M₀ w₀ (G q) M w
  marks:ti N a.defers w
  len:(T 0).length=a.tmps.size
  slot:∀ d,∃ p,p≤ops.size∧(∀ j o,ops[j]? =some o→o.dst=some d→(S j↔j<p))∧V M (nth undef (T p) d) (nth undef a.tmps.toList d)
  early:∀ i,eD ops T 2 i→S i→q≤i→∃ x o,M.mu (base+i)=some x∧(G (i+1)).obj (base+i)=some o∧o.mode=1∧sQ M w B x o∧¬ eF (G q) M x.aZ∧w₀.heap.size≤x.aZ
  rG:∀ i j x y,q≤i→q≤j→i<ops.size→j<ops.size→M.mu (base+i)=some x→M.mu (base+j)=some y→x.aZ=y.aZ→i=j
  un:∀ i,i<ops.size→¬ (eD ops T 2 i∧S i)→M.mu (base+i)=none
  fresh:∀ m i,m≤q→m≤i→i<ops.size→(G m).obj (base+i)=none
  late:∀ j,j<q→eD ops T 2 j→¬ S j→(G q).obj (base+j)=(G (j+1)).obj (base+j)
section
variable {Gs:GS} {M₀ M:Map} {w₀ w:World} {S:Nat→Prop} {q:Nat} {a:Act}
theorem fj.VL (dj:Trace P E ops ms base T G v) (tt:Gs.nx≤base) (h:fj ops ms base T G Gs M₀ w₀ B N S q M w a) (hq:q<ops.size) (hw:¬ eD ops T 3 q) :
    fj ops ms base T G Gs M₀ w₀ B N S (q+1) M w a:=by
  have ML:∀ j,eD ops T 3 j→(S j↔j<q+1):=fun j hj=>by
    rw [h.ws j hj]
    have:j≠q:=by rintro rfl; exact hw hj
    omega
  by_cases hm:eD ops T 2 q
  · obtain ⟨cells,esz,ax⟩:=dj.MK hm
    have tw:(G (q+1)).obj (base+q)=some ⟨cells,esz,false,1⟩:=by rw [ax.obj,if_pos rfl]
    have hx:∀ x,M.mu (base+q)=some x→sQ M w B x ⟨cells,esz,false,1⟩∧¬ eF (G q) M x.aZ∧w₀.heap.size≤x.aZ:=by
      intro x hx
      have hs:S q:=by
        by_cases hs:S q
        · exact hs
        · rw [h.un q hq fun hh=>hs hh.2] at hx; cases hx
      obtain ⟨x',o,h1,h2,h3,h4,h5,h6⟩:=h.early q hm hs (Nat.le_refl _)
      rw [hx] at h1; obtain rfl:=Option.some.inj h1
      rw [tw] at h2; obtain rfl:=Option.some.inj h2
      exact ⟨h4,h5,h6⟩
    refine { closed := h.closed, rF := hq, ws := ML, rel := ax.rel h.rel (by have := h.nx; omega) (fun x fF => ⟨(hx x fF).1, (hx x fF).2.1⟩), nx := by rw [ax.nx]; exact h.nx,
             jl:=ax.jl h.jl (by omega) (fun x fF=>(hx x fF).2.2),marks:=h.marks,len:=h.len,slot:=h.slot,early:=?_,rG:=?_,un:=h.un,fresh:=?_,late:=?_ }
    · intro i hi hs VM
      obtain ⟨x,o,h1,h2,h3,h4,h5,h6⟩:=h.early i hi hs (by omega)
      refine ⟨x,o,h1,h2,h3,h4,fun hf=>?_,h6⟩
      rcases ax.eF hf with hf | ⟨y,hy,he⟩
      · exact h5 hf
      · have:=h.rG q i y x (Nat.le_refl _) (by omega) hq hi.lt hy h1 he
        omega
    · exact fun i j x y hi hj=>h.rG i j x y (by omega) (by omega)
    · intro m i VN GX fG
      rcases Nat.lt_or_ge m (q+1) with aJ | nV
      · exact h.fresh m i (by omega) GX fG
      · obtain rfl:m=q+1:=by omega
        rw [ax.obj,if_neg (by omega)]
        exact h.fresh q i (Nat.le_refl _) (by omega) fG
    · intro j hj tA hs
      by_cases C9:j=q
      · subst C9; rfl
      · rw [ax.obj,if_neg (by omega)]
        exact h.late j (by omega) tA hs
  · have hG:=dj.MJ hq hm hw
    refine { closed:=h.closed,rF:=hq,ws:=ML,rel:=by rw [hG]; exact h.rel,nx:=by rw [hG]; exact h.nx,jl:=by rw [hG]; exact h.jl,marks:=h.marks,len:=h.len,slot:=h.slot,early:=?_,rG:=?_,un:=h.un,fresh:=?_,late:=?_ }
    · intro i hi hs VM
      rw [hG]
      exact h.early i hi hs (by omega)
    · exact fun i j x y hi hj=>h.rG i j x y (by omega) (by omega)
    · intro m i VN GX fG
      rcases Nat.lt_or_ge m (q+1) with aJ | nV
      · exact h.fresh m i (by omega) GX fG
      · obtain rfl:m=q+1:=by omega
        rw [hG]
        exact h.fresh q i (Nat.le_refl _) (by omega) fG
    · intro j hj tA hs
      have C9:j≠q:=by rintro rfl; exact hm tA
      rw [hG]
      exact h.late j (by omega) tA hs
theorem fj.max (dj:Trace P E ops ms base T G v) (tt:Gs.nx≤base):∀ (n q:Nat),ops.size - q=n→fj ops ms base T G Gs M₀ w₀ B N S q M w a→∃ q',fj ops ms base T G Gs M₀ w₀ B N S q' M w a∧(q' <ops.size→eD ops T 3 q')
  | 0,q,hn,h=>⟨q,h,fun aJ=>by omega⟩
  | n+1,q,hn,h=>by
    by_cases hw:eD ops T 3 q
    · exact ⟨q,h,fun _=>hw⟩
    · exact fj.max dj tt n (q+1) (by omega) (h.VL dj tt (by omega) hw)
theorem fj.VO (gU:uS ops ms) (h:fj ops ms base T G Gs M₀ w₀ B N S q M w a) {i:Nat} {o:Oper} (ho:ops[i]? =some o) (hr:∀ e∈o.after,Region.binds .any e=true→S e.on) (j:Nat) (hj:(nth 0 ms i).testBit j=true):S j:=by
  obtain ⟨e,h1,h2,h3⟩:=gU.mask i o j ho hj
  rcases h3 with rfl | h3
  · exact hr e h1 h2
  · exact h.closed _ _ (hr e h1 h2) h3
theorem fj.look (dj:Trace P E ops ms base T G v) (gU:uS ops ms) (h:fj ops ms base T G Gs M₀ w₀ B N S q M w a) {i:Nat} {o:Oper} (ho:ops[i]? =some o) (hs:¬ S i) (hp:∀ j,(nth 0 ms i).testBit j=true→S j) :
    ∀ d∈o.looksAt ops,V M (nth undef (T i) d) (nth undef a.tmps.toList d):=by
  intro d hd
  have hi:i<ops.size:=(Array.getElem?_eq_some_iff.1 ho).1
  obtain ⟨p,AK,yl,hv⟩:=h.slot d
  have heq:nth undef (T p) d=nth undef (T i) d:=by
    rcases Nat.le_total p i with hle | hle
    · refine dj.still i hle (by omega) fun j oj VP lC dI qn=>?_
      rcases gU.pair j i oj o dI ho lC with hb | ⟨wx,_⟩
      · have:=(yl j oj dI qn).1 (hp j hb); omega
      · exact (Oper.apart_spec wx).1 d qn hd
    · refine (dj.still p hle AK fun j oj rE MN dI qn=>?_).symm
      have ph:=(yl j oj dI qn).2 MN
      rcases Nat.lt_or_ge i j with aJ | nV
      · rcases gU.pair i j o oj ho dI aJ with hb | ⟨wx,_⟩
        · exact hs (h.closed j i ph hb)
        · exact (Oper.apart_spec wx).2.2 d qn hd
      · obtain rfl:j=i:=by omega
        exact hs ph
  rw [← heq]; exact hv
theorem fj.MO (dj:Trace P E ops ms base T G v) (gU:uS ops ms) (h:fj ops ms base T G Gs M₀ w₀ B N S q M w a) {i:Nat} {o:Oper} (ho:ops[i]? =some o) (hs:¬ S i) (hp:∀ j,(nth 0 ms i).testBit j=true→S j)
    {M':Map} (hM:M.Le M') {u:Value} (hu:V M' (v i) u) :
    ∀ d,∃ p,p≤ops.size∧(∀ j oj,ops[j]? =some oj→oj.dst=some d→((S j∨j=i)↔j<p))∧V M' (nth undef (T p) d) (nth undef (a.put o.dst u).tmps.toList d):=by
  intro d
  have hi:i<ops.size:=(Array.getElem?_eq_some_iff.1 ho).1
  by_cases hd:o.dst=some d
  · refine ⟨i+1,hi,fun j oj dI AL=>⟨?_,fun aJ=>?_⟩,?_⟩
    · rintro (ph | rfl)
      · rcases Nat.lt_or_ge i j with aJ | nV
        · rcases gU.pair i j o oj ho dI aJ with hb | ⟨wx,_⟩
          · exact absurd (h.closed j i ph hb) hs
          · exact absurd AL ((Oper.apart_spec wx).2.1 d hd)
        · omega
      · omega
    · by_cases lC:j=i
      · exact .inr lC
      · rcases gU.pair j i oj o dI ho (by omega) with hb | ⟨wx,_⟩
        · exact .inl (hp j hb)
        · exact absurd hd ((Oper.apart_spec wx).2.1 d AL)
    · have hlen:(T i).length=a.tmps.toList.length:=by rw [dj.len i (by omega),h.len]; simp
      rw [(dj.step i o ho).2,GV,C8,C8,if_pos hd,if_pos hd,hlen]
      split
      · exact hu
      · exact sM
  · obtain ⟨p,AK,yl,hv⟩:=h.slot d
    refine ⟨p,AK,fun j oj dI AL=>?_,by rw [GV,C8,if_neg hd]; exact hv.mono hM⟩
    have az:j≠i:=by
      rintro rfl
      rw [ho] at dI; obtain rfl:=Option.some.inj dI
      exact hd AL
    rw [← yl j oj dI AL]
    exact ⟨fun hh=>hh.resolve_right az,.inl⟩
theorem fj.MP (h:fj ops ms base T G Gs M₀ w₀ B N S q M w a) {i:Nat} (hp:∀ j,(nth 0 ms i).testBit j=true→S j):∀ k j,(S k∨k=i)→(nth 0 ms k).testBit j=true→(S j∨j=i):=by
  rintro k j (hk | rfl) hb
  · exact .inl (h.closed k j hk hb)
  · exact .inl (hp j hb)
theorem MQ (a:Act) (d:Option Tmp) (u:Value):(a.put d u).tmps.size=a.tmps.size:=by
  have:=congrArg List.length (GV a d u)
  rw [MI] at this
  simpa using this
theorem fj.MR (dj:Trace P E ops ms base T G v) (gU:uS ops ms) (h:fj ops ms base T G Gs M₀ w₀ B N S q M w a) {i:Nat} {o:Oper} (ho:ops[i]? =some o) (hs:¬ S i) (hp:∀ j,(nth 0 ms i).testBit j=true→S j)
    (MT:¬ eD ops T 2 i) {q':Nat} (wy:(q' =q∧¬ eD ops T 3 i)∨(q' =q+1∧i=q∧eD ops T 3 i)) {M':Map} {w':World} {u:Value} (hE:cI (G q) M w (G q') M' w') (hR:Rel (G q') M' w' B) (hu:V M' (v i) u) :
    fj ops ms base T G Gs M₀ w₀ B N (fun j=>S j∨j=i) q' M' w' (a.put o.dst u):=by
  have hi:i<ops.size:=(Array.getElem?_eq_some_iff.1 ho).1
  have tB:=h.nx
  have MU:=h.rF
  have hqq:q≤q':=by rcases wy with ⟨rfl,_⟩ | ⟨rfl,_⟩<;>omega
  have MV:∀ j x,j<ops.size→M'.mu (base+j)=some x→M.mu (base+j)=some x:=by
    intro j x hj hx
    cases hm:M.mu (base+j) with
    | none=>rw [(hE.gk (base+j) (by omega) hm).1] at hx; cases hx
    | some y=>rw [hE.map.mu _ _ hm] at hx; rw [Option.some.inj hx]
  refine { closed := h.MP hp, rF := ?_, ws := ?_, rel := hR, nx := Nat.le_trans h.nx hE.nx, jl := h.jl.trans hE, marks := by rw [put_defers]; exact h.marks.jl h.rel hE,
           len:=by rw [MQ]; exact h.len,slot:=h.MO dj gU ho hs hp hE.map hu,early:=?_,rG:=?_,un:=?_,fresh:=?_,late:=?_ }
  · rcases wy with ⟨rfl,_⟩ | ⟨rfl,rfl,_⟩<;>omega
  · intro j hj
    rcases wy with ⟨rfl,hn⟩ | ⟨rfl,rfl,_⟩
    · rw [← h.ws j hj]
      have az:j≠i:=by rintro rfl; exact hn hj
      exact ⟨fun hh=>hh.resolve_right az,.inl⟩
    · rw [h.ws j hj]; omega
  · intro j hj ph AN
    have az:j≠i:=by rintro rfl; exact MT hj
    obtain ⟨x,o',h1,h2,h3,h4,h5,h6⟩:=h.early j hj (ph.resolve_right az) (by omega)
    have aJ:=wq h4 h3
    exact ⟨x,o',hE.map.mu _ _ h1,h2,h3,h4.lift hE.map h3 (hE.keep _ aJ h5),fun hf=>(hE.eF _ hf).elim h5 (fun _=>by omega),h6⟩
  · exact fun i j x y hi hj bw ux hx hy=>h.rG i j x y (by omega) (by omega) bw ux (MV _ _ bw hx) (MV _ _ ux hy)
  · exact fun j hj hn=>(hE.gk (base+j) (by omega) (h.un j hj fun hh=>hn ⟨hh.1,.inl hh.2⟩)).1
  · intro m j hm VQ hj
    rcases Nat.lt_or_ge q m with aJ | nV
    · obtain rfl:m=q':=by rcases wy with ⟨rfl,_⟩ | ⟨rfl,_⟩<;>omega
      exact hE.gn (base+j) (by omega) (h.fresh q j (Nat.le_refl _) (by omega) hj)
    · exact h.fresh m j nV VQ hj
  · intro j hj tA ph
    have C9:j<q:=by
      rcases wy with ⟨rfl,_⟩ | ⟨rfl,rfl,hw⟩
      · exact hj
      · have:j≠i:=by rintro rfl; exact MT tA
        omega
    have MW:¬ S j:=fun hh=>ph (.inl hh)
    rw [(hE.gk (base+j) (by omega) (h.un j (by omega) fun hh=>MW hh.2)).2]
    exact h.late j C9 tA MW
theorem fj.VR (dj:Trace P E ops ms base T G v) (gU:uS ops ms) (tt:Gs.nx≤base) (h:fj ops ms base T G Gs M₀ w₀ B N S q M w a) {i:Nat} {o:Oper} (ho:ops[i]? =some o) (hs:¬ S i) (hp:∀ j,(nth 0 ms i).testBit j=true→S j)
    (hm:eD ops T 2 i) {cells:List Value} {esz:Nat} {mk:Nat→Value} {c:Array Value} {e:TypeId} (ax:tq (G i) (G (i+1)) (base+i) ⟨cells,esz,false,1⟩) (hc:Vs M cells c.toList) (iT:CP mk) (hv:v i=mk (base+i)) :
    ∃ M',fj ops ms base T G Gs M₀ w₀ B N (fun j=>S j∨j=i) q M' (w.alloc (.cells c e)) (a.put o.dst (mk w.heap.size)):=by
  have hi:i<ops.size:=hm.lt
  have tB:=h.nx
  have MU:=h.rF
  have mW:M.mu (base+i)=none:=h.un i hi fun hh=>hs hh.2
  have hM:M.Le (M.ext (base+i) ⟨w.heap.size,0,0,esz,false,cells.length⟩):=Map.yd mW
  have tw:(G (i+1)).obj (base+i)=some ⟨cells,esz,false,1⟩:=by rw [ax.obj,if_pos rfl]
  have VS:∀ o',(G q).obj (base+i)=some o' →o' =⟨cells,esz,false,1⟩:=by
    intro o' da
    rcases Nat.lt_or_ge i q with aJ | nV
    · rw [h.late i aJ hm hs,tw] at da; exact (Option.some.inj da).symm
    · rw [h.fresh q i (Nat.le_refl _) nV hi] at da; cases da
  have hold:∀ j x,q≤j→j<ops.size→M.mu (base+j)=some x→x.aZ<w.heap.size:=by
    intro j x AN hj hx
    have hk:eD ops T 2 j∧S j:=Classical.byContradiction fun hn=>by rw [h.un j hj hn] at hx; cases hx
    obtain ⟨y,o',h1,_,h3,h4,_⟩:=h.early j hk.1 hk.2 AN
    rw [hx] at h1; obtain rfl:=Option.some.inj h1
    exact wq h4 h3
  refine ⟨M.ext (base+i) ⟨w.heap.size,0,0,esz,false,cells.length⟩,?_⟩
  refine { closed := h.MP hp, rF := h.rF, ws := ?_, rel := h.rel.late mW (by omega) hc VS, nx := h.nx, jl := h.jl.late (by omega) mW rfl _, marks := ?_,
           len:=by rw [MQ]; exact h.len,slot:=h.MO dj gU ho hs hp hM (by rw [hv]; exact iT.rel (by rw [Map.mV,if_pos rfl])),early:=?_,rG:=?_,un:=?_,fresh:=h.fresh,late:=?_ }
  · intro j hj
    rw [← h.ws j hj]
    have az:j≠i:=by rintro rfl; exact absurd (hj.uniq hm) (by omega)
    exact ⟨fun hh=>hh.resolve_right az,.inl⟩
  · rw [put_defers]
    obtain ⟨rs,h1,h2,h3⟩:=h.marks
    refine ⟨rs,h1,h2,fun r hr=>⟨(h3 r hr).1,?_⟩⟩
    have aJ:=(Array.getElem?_eq_some_iff.1 (h3 r hr).2).1
    rw [uT w _ _ aJ]; exact (h3 r hr).2
  · intro j hj ph AN
    by_cases lC:j=i
    · subst lC
      refine ⟨_,_,by rw [Map.mV,if_pos rfl],tw,rfl,MG h.rel.size (hc.mono hM),fun hf=>?_,h.jl.size⟩
      rcases GU hf with hf | ⟨_,o',da⟩
      · exact absurd (VJ h.rel hf) (Nat.lt_irrefl _)
      · rw [h.fresh q j (Nat.le_refl _) AN hi] at da; cases da
    · obtain ⟨y,o',h1,h2,h3,h4,h5,h6⟩:=h.early j hj (ph.resolve_right lC) AN
      have aJ:=wq h4 h3
      refine ⟨y,o',hM.mu _ _ h1,h2,h3,h4.lift hM h3 (uT w _ _ aJ),fun hf=>?_,h6⟩
      rcases GU hf with hf | ⟨he,_⟩
      · exact h5 hf
      · simp only at he; omega
  · intro j k x y hj hk ux me hx hy he
    rcases wu hx with ⟨h1,h2⟩ | ⟨h1,h2⟩<;>rcases wu hy with ⟨h3,h4⟩ | ⟨h3,h4⟩
    · omega
    · have:=hold k y hk me h4
      rw [h2] at he; simp only at he; omega
    · have:=hold j x hj ux h2
      rw [h4] at he; simp only at he; omega
    · exact h.rG j k x y hj hk ux me h2 h4 he
  · intro j hj hn
    have az:j≠i:=by rintro rfl; exact hn ⟨hm,.inr rfl⟩
    rw [Map.mV,if_neg (by omega)]
    exact h.un j hj fun hh=>hn ⟨hh.1,.inl hh.2⟩
  · exact fun j hj tA ph=>h.late j hj tA fun hh=>ph (.inl hh)
theorem fj.VT (dj:Trace P E ops ms base T G v) (h:fj ops ms base T G Gs M₀ w₀ B N S q M w a) (od:q<ops.size→eD ops T 3 q) {i:Nat} {o:Oper} (ho:ops[i]? =some o) (hs:¬ S i) (hp:∀ j,(nth 0 ms i).testBit j=true→S j)
    (hw:dD ops (T i) o=true) (hc:cls o.op=1) (hr:fQ P (T i) o.op (G i)=some (v i)):fQ P (T i) o.op (G q)=some (v i):=by
  have hi:i<ops.size:=(Array.getElem?_eq_some_iff.1 ho).1
  have MU:=h.rF
  have hk:eD ops T 1 i:=⟨o,ho,hw,hc⟩
  rcases Nat.lt_trichotomy i q with aJ | heq | rH
  · have key:∀ n,i+n≤q→fQ P (T i) o.op (G (i+n))=some (v i):=by
      intro n
      induction n with
      | zero=>exact fun _=>hr
      | succ n ih =>
        intro hn
        have ih:=ih (by omega)
        show fQ P (T i) o.op (G (i+n+1))=some (v i)
        by_cases h3:eD ops T 3 (i+n)
        · have az:n≠0:=by rintro rfl; exact absurd (hk.uniq h3) (by omega)
          have ym:=(h.ws _ h3).2 (by omega)
          obtain ⟨om,VU,VW,AO⟩:=h3
          rcases dj.after i (i+n) o om ho VU (by omega) hw VW hc AO with hb | hb
          · exact absurd (h.closed _ _ ym hb) hs
          · exact hb
        · by_cases h2:eD ops T 2 (i+n)
          · obtain ⟨cells,esz,ax⟩:=dj.MK h2
            refine tl.read (fun g o' hg=>?_) ih
            rw [ax.obj]
            split
            · rename_i he
              rw [he,h.fresh (i+n) (i+n) (by omega) (Nat.le_refl _) h2.lt] at hg; cases hg
            · exact hg
          · rw [dj.MJ (by omega) h2 h3]; exact ih
    have:=key (q - i) (by omega)
    rwa [show i+(q - i)=q by omega] at this
  · subst heq
    exact absurd (hk.uniq (od hi)) (by omega)
  · have h3:=od (by omega)
    have hq:=h.ws q h3
    obtain ⟨oq,GY,MX,GZ⟩:=h3
    rcases dj.before i q o oq ho GY rH hw MX hc GZ with hb | hb
    · exact absurd (hq.1 (hp q hb)) (Nat.lt_irrefl _)
    · exact hb
theorem fj.exec (hE:jU P B E) (dj:Trace P E ops ms base T G v) (gU:uS ops ms) (tt:Gs.nx≤base) (h:fj ops ms base T G Gs M₀ w₀ B N S q M w a) (od:q<ops.size→eD ops T 3 q) {i:Nat} {o:Oper} (ho:ops[i]? =some o) (hs:¬ S i)
    (hr:∀ e∈o.after,Region.binds .any e=true→S e.on) {b:Frame} {k:List Item} {cs:List Frame} {rest:List Nat} :
    ∃ q' M' w' a',fj ops ms base T G Gs M₀ w₀ B N (fun j=>S j∨j=i) q' M' w' a' ∧Steps P (lone (b.atR a (.inRegion ops (i::rest)::k)) cs w) (lone (b.atR a' (.inRegion ops rest::k)) cs w'):=by
  have hi:i<ops.size:=(Array.getElem?_eq_some_iff.1 ho).1
  have hp:=h.VO gU ho hr
  have MY:=h.look dj gU ho hs hp
  have AP:Region.wanted o (yielded ops a.tmps)=dD ops (T i) o:=VB MY
  have MZ:Vs M (qp (o.looksAt ops) (T i)) (C6 (o.looksAt ops) a).tmps.toList:=Vz (by rw [dj.len i (by omega),h.len]) MY
  have AQ:∀ c,dD ops (T i) o=true→cls o.op≠c→¬ eD ops T c i:=by
    rintro c _ az ⟨o',da,_,hc⟩
    rw [ho] at da; obtain rfl:=Option.some.inj da
    exact az hc
  rcases GR (dj.step i o ho).1 with ⟨hw,hv,hG⟩ | ⟨hw,aP,hc⟩
  · have AR:∀ c,¬ eD ops T c i:=by
      rintro c ⟨o',da,lB,_⟩
      rw [ho] at da; obtain rfl:=Option.some.inj da
      rw [hw] at lB; cases lB
    refine ⟨q,M,w,_,h.MR dj gU ho hs hp (AR 2) (.inl ⟨rfl,AR 3⟩) (.refl _ _ _) h.rel (by rw [hv]; exact sM),.one ?_⟩
    have:=stepR_op_skip (P:=P) (b:=b) (a:=a) (k:=k) (cs:=cs) (w:=w) (ops:=ops) (i:=i) (rest:=rest) (by simp [ho,AP,hw])
    simpa [ho] using this
  · have lB:=AP.trans hw
    have qs:∀ {G':GS} {q':Nat},G' =G q' →jg P E (T i) (G q) o.op=some (v i,G')→¬ eD ops T 2 i→((q' =q∧¬ eD ops T 3 i)∨(q' =q+1∧i=q∧eD ops T 3 i)) →
        ∃ q' M' w' a',fj ops ms base T G Gs M₀ w₀ B N (fun j=>S j∨j=i) q' M' w' a' ∧Steps P (lone (b.atR a (.inRegion ops (i::rest)::k)) cs w) (lone (b.atR a' (.inRegion ops rest::k)) cs w'):=by
      intro G' q' M0 fc h2 wy
      subst M0
      have m0:jg P E (qp (o.looksAt ops) (T i)) (G q) o.op=some (v i,G q'):=by rw [Vx Mu]; exact fc
      obtain ⟨M',w',u,h1,iS,h3,h4⟩:=L7 hE m0 (b:=b) (k:=k) (cs:=cs) (rest:=rest) ho lB h.rel MZ (Mv (Vy m0))
      exact ⟨q',M',w',_,h.MR dj gU ho hs hp h2 wy h1 iS h3,h4⟩
    rcases hc with ⟨hc,VX,hG⟩ | ⟨hc,VY,hG⟩ | ⟨hc,G1,iT,hG⟩ | ⟨hc,fc⟩
    · exact qs (q':=q) rfl (by unfold jg; rw [if_neg (by simp [aP]),hc]; simp only [VX]) (AQ 2 hw (by omega)) (.inl ⟨rfl,AQ 3 hw (by omega)⟩)
    · have VZ:=h.VT dj od ho hs hp hw hc VY
      exact qs (q':=q) rfl (by unfold jg; rw [if_neg (by simp [aP]),hc]; simp only [VZ]) (AQ 2 hw (by omega)) (.inl ⟨rfl,AQ 3 hw (by omega)⟩)
    · have hd:∀ c,o.op≠ .defer c:=by rintro c Ha; rw [Ha] at hc; simp [cls] at hc
      have V0:∀ cs b,o.op≠ .select cs b:=by rintro c b Ha; rw [Ha] at hc; simp [cls] at hc
      have V1:lX P (qp (o.looksAt ops) (T i)) o.op { G i with nx:=base+i }=some (v i,G1):=by rw [Mp Mu]; exact iT
      obtain ⟨cells,esz,mk,c,e,h1,h2,rfl,h4,h5⟩:=LD (P:=P) MZ aP V1
      obtain ⟨M',hD⟩:=h.VR dj gU tt ho hs hp ⟨o,ho,hw,hc⟩ (cells:=cells) (esz:=esz) (e:=e) (by rw [hG]; exact MF) h4 h1 h2
      exact ⟨q,M',_,_,hD,.one (Au ho lB hd (by rw [Mv (ops:=ops) V0]; exact h5 w))⟩
    · have hk:eD ops T 3 i:=⟨o,ho,hw,hc⟩
      have M8:i=q:=by
        have h1:¬ i<q:=fun aJ=>hs ((h.ws i hk).2 aJ)
        rcases Nat.lt_or_ge q i with aJ | nV
        · have h3:=od (by omega)
          have hq:=h.ws q h3
          obtain ⟨oq,GY,MX,GZ⟩:=h3
          rcases gU.pair q i oq o GY ho aJ with hb | ⟨_,hn⟩
          · exact absurd (hq.1 (hp q hb)) (Nat.lt_irrefl _)
          · exact absurd ⟨GZ,hc⟩ hn
        · omega
      refine qs (q':=q+1) (G':=G (q+1)) rfl ?_ (AQ 2 hw (by omega)) (.inr ⟨rfl,M8,hk⟩)
      rw [← M8]; exact fc
end
end Go.Proofs.YtphandknhnkhfaaGreat.Gh
