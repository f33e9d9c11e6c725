import Derived.Test.YtlaojmcekeohnaaGreatDoorGhX
namespace Go.Proofs.YtlaojmcekeohnaaGreatDoor.Gh
open Go
variable {P:Program} {E:Ev} {B N:Nat} {ops:Array Oper} {ms:List Nat} {base:Nat} {T:Nat→List Value} {G:Nat→GS} {v:Nat→Value}
def IsK (ops:Array Oper) (T:Nat→List Value) (c j:Nat):Prop:=∃ o,ops[j]? =some o∧gWanted ops (T j) o=true∧cls o.op=c
theorem IsK.uniq {c d j:Nat} (h:IsK ops T c j) (h' :IsK ops T d j):c=d:=by
  obtain ⟨o,h1,_,h2⟩:=h
  obtain ⟨o',h1',_,h2'⟩:=h'
  rw [h1] at h1'; obtain rfl:=Option.some.inj h1'
  rw [← h2,← h2']
theorem IsK.lt {c j:Nat} (h:IsK ops T c j):j<ops.size:=by
  obtain ⟨o,h1,_⟩:=h
  exact (Array.getElem?_eq_some_iff.1 h1).1
theorem Trace.notK (hTr:Trace P E ops ms base T G v) {i:Nat} (hi:i<ops.size) (h2:¬ IsK ops T 2 i) (h3:¬ IsK ops T 3 i):G (i+1)=G i:=by
  have ho:ops[i]? =some ops[i]:=by simp [hi]
  rcases drawStep_cases (hTr.step i _ ho).1 with ⟨_,_,hG⟩ | ⟨hw,hok,⟨_,_,hG⟩ | ⟨_,_,hG⟩ | ⟨hc,_⟩ | ⟨hc,_⟩⟩
  · exact hG
  · exact hG
  · exact hG
  · exact absurd ⟨_,ho,hw,hc⟩ h2
  · exact absurd ⟨_,ho,hw,hc⟩ h3
theorem Trace.mk2 (hTr:Trace P E ops ms base T G v) {i:Nat} (h:IsK ops T 2 i):∃ cells esz,MkStep (G i) (G (i+1)) (base+i) ⟨cells,esz,false,1⟩:=by
  obtain ⟨o,ho,hw,hc⟩:=h
  rcases drawStep_cases (hTr.step i _ ho).1 with ⟨hw',_⟩ | ⟨_,hok,⟨hc',_⟩ | ⟨hc',_⟩ | ⟨_,G1,hmk,hG⟩ | ⟨hc',_⟩⟩
  · rw [hw] at hw'; cases hw'
  · omega
  · omega
  · obtain ⟨cells,esz,rfl⟩:=gMake_form hmk
    exact ⟨cells,esz,by rw [hG]; exact mkStep_of⟩
  · omega
theorem Trace.len (hTr:Trace P E ops ms base T G v):∀ i,i≤ops.size→(T i).length=(T 0).length
  | 0,_=>rfl
  | i+1,hi=>by
    have ho:ops[i]? =some ops[i]:=by simp [show i<ops.size by omega]
    rw [(hTr.step i _ ho).2,putT_length,hTr.len i (by omega)]
theorem Trace.still (hTr:Trace P E ops ms base T G v) {d p:Nat}:∀ i,p≤i→i≤ops.size→(∀ j oj,p≤j→j<i→ops[j]? =some oj→oj.dst=some d→False)→nth undef (T p) d=nth undef (T i) d
  | 0,hp,_,_=>by rw [show p=0 by omega]
  | i+1,hp,hi,h=>by
    rcases Nat.lt_or_ge i p with hlt | hge
    · rw [show p=i+1 by omega]
    · have ho:ops[i]? =some ops[i]:=by simp [show i<ops.size by omega]
      rw [hTr.still i hge (by omega) fun j oj h1 h2=>h j oj h1 (by omega),(hTr.step i _ ho).2,putT_nth,if_neg]
      exact fun hd=>h i _ hge (by omega) ho hd
structure DInv (ops:Array Oper) (ms:List Nat) (base:Nat) (T:Nat→List Value) (G:Nat→GS) (Gs:GS) (M₀:Map) (w₀:World) (B N:Nat) (S:Nat→Prop) (q:Nat) (M:Map) (w:World) (a:Act):Prop where
  closed:∀ k j,S k→(nth 0 ms k).testBit j=true→S j
  qle:q≤ops.size
  ws:∀ j,IsK ops T 3 j→(S j↔j<q)
  rel:Rel (G q) M w B
  nx:base+ops.size≤(G q).nx
  evo:Evo Gs M₀ w₀ (G q) M w
  marks:MarksOk N a.defers w
  len:(T 0).length=a.tmps.size
  slot:∀ d,∃ p,p≤ops.size∧(∀ j o,ops[j]? =some o→o.dst=some d→(S j↔j<p))∧V M (nth undef (T p) d) (nth undef a.tmps.toList d)
  early:∀ i,IsK ops T 2 i→S i→q≤i→∃ x o,M.mu (base+i)=some x∧(G (i+1)).obj (base+i)=some o∧o.mode=1∧BlkOk M w B x o∧¬ foot (G q) M x.blk∧w₀.heap.size≤x.blk
  eapart:∀ i j x y,q≤i→q≤j→i<ops.size→j<ops.size→M.mu (base+i)=some x→M.mu (base+j)=some y→x.blk=y.blk→i=j
  un:∀ i,i<ops.size→¬ (IsK ops T 2 i∧S i)→M.mu (base+i)=none
  fresh:∀ m i,m≤q→m≤i→i<ops.size→(G m).obj (base+i)=none
  late:∀ j,j<q→IsK ops T 2 j→¬ S j→(G q).obj (base+j)=(G (j+1)).obj (base+j)
section
variable {Gs:GS} {M₀ M:Map} {w₀ w:World} {S:Nat→Prop} {q:Nat} {a:Act}
theorem DInv.adv (hTr:Trace P E ops ms base T G v) (hGs:Gs.nx≤base) (h:DInv ops ms base T G Gs M₀ w₀ B N S q M w a) (hq:q<ops.size) (hw:¬ IsK ops T 3 q) :
    DInv ops ms base T G Gs M₀ w₀ B N S (q+1) M w a:=by
  have hws:∀ j,IsK ops T 3 j→(S j↔j<q+1):=fun j hj=>by
    rw [h.ws j hj]
    have:j≠q:=by rintro rfl; exact hw hj
    omega
  by_cases hm:IsK ops T 2 q
  · obtain ⟨cells,esz,hst⟩:=hTr.mk2 hm
    have hob:(G (q+1)).obj (base+q)=some ⟨cells,esz,false,1⟩:=by rw [hst.obj,if_pos rfl]
    have hx:∀ x,M.mu (base+q)=some x→BlkOk M w B x ⟨cells,esz,false,1⟩∧¬ foot (G q) M x.blk∧w₀.heap.size≤x.blk:=by
      intro x hx
      have hs:S q:=by
        by_cases hs:S q
        · exact hs
        · rw [h.un q hq fun hh=>hs hh.2] at hx; cases hx
      obtain ⟨x',o,h1,h2,h3,h4,h5,h6⟩:=h.early q hm hs (Nat.le_refl _)
      rw [hx] at h1; obtain rfl:=Option.some.inj h1
      rw [hob] at h2; obtain rfl:=Option.some.inj h2
      exact ⟨h4,h5,h6⟩
    refine { closed := h.closed, qle := hq, ws := hws, rel := hst.rel h.rel (by have := h.nx; omega) (fun x hx' => ⟨(hx x hx').1, (hx x hx').2.1⟩), nx := by rw [hst.nx]; exact h.nx,
             evo:=hst.evo h.evo (by omega) (fun x hx' =>(hx x hx').2.2),marks:=h.marks,len:=h.len,slot:=h.slot,early:= ?_,eapart:= ?_,un:=h.un,fresh:= ?_,late:= ?_ }
    · intro i hi hs hqi
      obtain ⟨x,o,h1,h2,h3,h4,h5,h6⟩:=h.early i hi hs (by omega)
      refine ⟨x,o,h1,h2,h3,h4,fun hf=> ?_,h6⟩
      rcases hst.foot hf with hf | ⟨y,hy,he⟩
      · exact h5 hf
      · have:=h.eapart q i y x (Nat.le_refl _) (by omega) hq hi.lt hy h1 he
        omega
    · exact fun i j x y hi hj=>h.eapart i j x y (by omega) (by omega)
    · intro m i hmq hmi hin
      rcases Nat.lt_or_ge m (q+1) with hlt | hge
      · exact h.fresh m i (by omega) hmi hin
      · obtain rfl:m=q+1:=by omega
        rw [hst.obj,if_neg (by omega)]
        exact h.fresh q i (Nat.le_refl _) (by omega) hin
    · intro j hj hjm hs
      by_cases hjq:j=q
      · subst hjq; rfl
      · rw [hst.obj,if_neg (by omega)]
        exact h.late j (by omega) hjm hs
  · have hG:=hTr.notK hq hm hw
    refine { closed:=h.closed,qle:=hq,ws:=hws,rel:=by rw [hG]; exact h.rel,nx:=by rw [hG]; exact h.nx,evo:=by rw [hG]; exact h.evo,marks:=h.marks,len:=h.len,slot:=h.slot,early:= ?_,eapart:= ?_,un:=h.un,fresh:= ?_,late:= ?_ }
    · intro i hi hs hqi
      rw [hG]
      exact h.early i hi hs (by omega)
    · exact fun i j x y hi hj=>h.eapart i j x y (by omega) (by omega)
    · intro m i hmq hmi hin
      rcases Nat.lt_or_ge m (q+1) with hlt | hge
      · exact h.fresh m i (by omega) hmi hin
      · obtain rfl:m=q+1:=by omega
        rw [hG]
        exact h.fresh q i (Nat.le_refl _) (by omega) hin
    · intro j hj hjm hs
      have hjq:j≠q:=by rintro rfl; exact hm hjm
      rw [hG]
      exact h.late j (by omega) hjm hs
theorem DInv.max (hTr:Trace P E ops ms base T G v) (hGs:Gs.nx≤base):∀ (n q:Nat),ops.size - q=n→DInv ops ms base T G Gs M₀ w₀ B N S q M w a→∃ q',DInv ops ms base T G Gs M₀ w₀ B N S q' M w a∧(q' <ops.size→IsK ops T 3 q')
  | 0,q,hn,h=>⟨q,h,fun hlt=>by omega⟩
  | n+1,q,hn,h=>by
    by_cases hw:IsK ops T 3 q
    · exact ⟨q,h,fun _=>hw⟩
    · exact DInv.max hTr hGs n (q+1) (by omega) (h.adv hTr hGs (by omega) hw)
theorem DInv.preds (hEd:Edges ops ms) (h:DInv ops ms base T G Gs M₀ w₀ B N S q M w a) {i:Nat} {o:Oper} (ho:ops[i]? =some o) (hr:∀ e∈o.after,Region.binds .any e=true→S e.on) (j:Nat) (hj:(nth 0 ms i).testBit j=true):S j:=by
  obtain ⟨e,h1,h2,h3⟩:=hEd.mask i o j ho hj
  rcases h3 with rfl | h3
  · exact hr e h1 h2
  · exact h.closed _ _ (hr e h1 h2) h3
theorem DInv.look (hTr:Trace P E ops ms base T G v) (hEd:Edges ops ms) (h:DInv ops ms base T G Gs M₀ w₀ B N S q M w a) {i:Nat} {o:Oper} (ho:ops[i]? =some o) (hs:¬ S i) (hp:∀ j,(nth 0 ms i).testBit j=true→S j) :
    ∀ d∈o.looksAt ops,V M (nth undef (T i) d) (nth undef a.tmps.toList d):=by
  intro d hd
  have hi:i<ops.size:=(Array.getElem?_eq_some_iff.1 ho).1
  obtain ⟨p,hpn,hpw,hv⟩:=h.slot d
  have heq:nth undef (T p) d=nth undef (T i) d:=by
    rcases Nat.le_total p i with hle | hle
    · refine hTr.still i hle (by omega) fun j oj hpj hji hoj hdst=> ?_
      rcases hEd.pair j i oj o hoj ho hji with hb | ⟨hap,_⟩
      · have:=(hpw j oj hoj hdst).1 (hp j hb); omega
      · exact (Oper.apart_spec hap).1 d hdst hd
    · refine (hTr.still p hle hpn fun j oj hij hjp hoj hdst=> ?_).symm
      have hsj:=(hpw j oj hoj hdst).2 hjp
      rcases Nat.lt_or_ge i j with hlt | hge
      · rcases hEd.pair i j o oj ho hoj hlt with hb | ⟨hap,_⟩
        · exact hs (h.closed j i hsj hb)
        · exact (Oper.apart_spec hap).2.2 d hdst hd
      · obtain rfl:j=i:=by omega
        exact hs hsj
  rw [← heq]; exact hv
theorem DInv.slotStep (hTr:Trace P E ops ms base T G v) (hEd:Edges ops ms) (h:DInv ops ms base T G Gs M₀ w₀ B N S q M w a) {i:Nat} {o:Oper} (ho:ops[i]? =some o) (hs:¬ S i) (hp:∀ j,(nth 0 ms i).testBit j=true→S j)
    {M' :Map} (hM:M.Le M') {u:Value} (hu:V M' (v i) u) :
    ∀ d,∃ p,p≤ops.size∧(∀ j oj,ops[j]? =some oj→oj.dst=some d→((S j∨j=i)↔j<p))∧V M' (nth undef (T p) d) (nth undef (a.put o.dst u).tmps.toList d):=by
  intro d
  have hi:i<ops.size:=(Array.getElem?_eq_some_iff.1 ho).1
  by_cases hd:o.dst=some d
  · refine ⟨i+1,hi,fun j oj hoj hdj=>⟨?_,fun hlt=> ?_⟩,?_⟩
    · rintro (hsj | rfl)
      · rcases Nat.lt_or_ge i j with hlt | hge
        · rcases hEd.pair i j o oj ho hoj hlt with hb | ⟨hap,_⟩
          · exact absurd (h.closed j i hsj hb) hs
          · exact absurd hdj ((Oper.apart_spec hap).2.1 d hd)
        · omega
      · omega
    · by_cases hji:j=i
      · exact .inr hji
      · rcases hEd.pair j i oj o hoj ho (by omega) with hb | ⟨hap,_⟩
        · exact .inl (hp j hb)
        · exact absurd hd ((Oper.apart_spec hap).2.1 d hdj)
    · have hlen:(T i).length=a.tmps.toList.length:=by rw [hTr.len i (by omega),h.len]; simp
      rw [(hTr.step i o ho).2,put_tmps,putT_nth,putT_nth,if_pos hd,if_pos hd,hlen]
      split
      · exact hu
      · exact V_undef
  · obtain ⟨p,hpn,hpw,hv⟩:=h.slot d
    refine ⟨p,hpn,fun j oj hoj hdj=> ?_,by rw [put_tmps,putT_nth,if_neg hd]; exact hv.mono hM⟩
    have hne:j≠i:=by
      rintro rfl
      rw [ho] at hoj; obtain rfl:=Option.some.inj hoj
      exact hd hdj
    rw [← hpw j oj hoj hdj]
    exact ⟨fun hh=>hh.resolve_right hne,.inl⟩
theorem DInv.closedStep (h:DInv ops ms base T G Gs M₀ w₀ B N S q M w a) {i:Nat} (hp:∀ j,(nth 0 ms i).testBit j=true→S j):∀ k j,(S k∨k=i)→(nth 0 ms k).testBit j=true→(S j∨j=i):=by
  rintro k j (hk | rfl) hb
  · exact .inl (h.closed k j hk hb)
  · exact .inl (hp j hb)
theorem put_size (a:Act) (d:Option Tmp) (u:Value):(a.put d u).tmps.size=a.tmps.size:=by
  have:=congrArg List.length (put_tmps a d u)
  rw [putT_length] at this
  simpa using this
theorem DInv.evoStep (hTr:Trace P E ops ms base T G v) (hEd:Edges ops ms) (h:DInv ops ms base T G Gs M₀ w₀ B N S q M w a) {i:Nat} {o:Oper} (ho:ops[i]? =some o) (hs:¬ S i) (hp:∀ j,(nth 0 ms i).testBit j=true→S j)
    (hnm:¬ IsK ops T 2 i) {q' :Nat} (hq' :(q' =q∧¬ IsK ops T 3 i)∨(q' =q+1∧i=q∧IsK ops T 3 i)) {M' :Map} {w' :World} {u:Value} (hE:Evo (G q) M w (G q') M' w') (hR:Rel (G q') M' w' B) (hu:V M' (v i) u) :
    DInv ops ms base T G Gs M₀ w₀ B N (fun j=>S j∨j=i) q' M' w' (a.put o.dst u):=by
  have hi:i<ops.size:=(Array.getElem?_eq_some_iff.1 ho).1
  have hnx:=h.nx
  have hqle:=h.qle
  have hqq:q≤q' :=by rcases hq' with ⟨rfl,_⟩ | ⟨rfl,_⟩<;>omega
  have hback:∀ j x,j<ops.size→M'.mu (base+j)=some x→M.mu (base+j)=some x:=by
    intro j x hj hx
    cases hm:M.mu (base+j) with
    | none=>rw [(hE.gk (base+j) (by omega) hm).1] at hx; cases hx
    | some y=>rw [hE.map.mu _ _ hm] at hx; rw [Option.some.inj hx]
  refine { closed := h.closedStep hp, qle := ?_, ws := ?_, rel := hR, nx := Nat.le_trans h.nx hE.nx, evo := h.evo.trans hE, marks := by rw [put_defers]; exact h.marks.evo h.rel hE,
           len:=by rw [put_size]; exact h.len,slot:=h.slotStep hTr hEd ho hs hp hE.map hu,early:= ?_,eapart:= ?_,un:= ?_,fresh:= ?_,late:= ?_ }
  · rcases hq' with ⟨rfl,_⟩ | ⟨rfl,rfl,_⟩<;>omega
  · intro j hj
    rcases hq' with ⟨rfl,hn⟩ | ⟨rfl,rfl,_⟩
    · rw [← h.ws j hj]
      have hne:j≠i:=by rintro rfl; exact hn hj
      exact ⟨fun hh=>hh.resolve_right hne,.inl⟩
    · rw [h.ws j hj]; omega
  · intro j hj hsj hqj
    have hne:j≠i:=by rintro rfl; exact hnm hj
    obtain ⟨x,o',h1,h2,h3,h4,h5,h6⟩:=h.early j hj (hsj.resolve_right hne) (by omega)
    have hlt:=own_lt h4 h3
    exact ⟨x,o',hE.map.mu _ _ h1,h2,h3,h4.lift hE.map h3 (hE.keep _ hlt h5),fun hf=>(hE.foot _ hf).elim h5 (fun _=>by omega),h6⟩
  · exact fun i j x y hi hj hi' hj' hx hy=>h.eapart i j x y (by omega) (by omega) hi' hj' (hback _ _ hi' hx) (hback _ _ hj' hy)
  · exact fun j hj hn=>(hE.gk (base+j) (by omega) (h.un j hj fun hh=>hn ⟨hh.1,.inl hh.2⟩)).1
  · intro m j hm hmj hj
    rcases Nat.lt_or_ge q m with hlt | hge
    · obtain rfl:m=q' :=by rcases hq' with ⟨rfl,_⟩ | ⟨rfl,_⟩<;>omega
      exact hE.gn (base+j) (by omega) (h.fresh q j (Nat.le_refl _) (by omega) hj)
    · exact h.fresh m j hge hmj hj
  · intro j hj hjm hsj
    have hjq:j<q:=by
      rcases hq' with ⟨rfl,_⟩ | ⟨rfl,rfl,hw⟩
      · exact hj
      · have:j≠i:=by rintro rfl; exact hnm hjm
        omega
    have hsj' :¬ S j:=fun hh=>hsj (.inl hh)
    rw [(hE.gk (base+j) (by omega) (h.un j (by omega) fun hh=>hsj' hh.2)).2]
    exact h.late j hjq hjm hsj'
theorem DInv.makeStep (hTr:Trace P E ops ms base T G v) (hEd:Edges ops ms) (hGs:Gs.nx≤base) (h:DInv ops ms base T G Gs M₀ w₀ B N S q M w a) {i:Nat} {o:Oper} (ho:ops[i]? =some o) (hs:¬ S i) (hp:∀ j,(nth 0 ms i).testBit j=true→S j)
    (hm:IsK ops T 2 i) {cells:List Value} {esz:Nat} {mk:Nat→Value} {c:Array Value} {e:TypeId} (hst:MkStep (G i) (G (i+1)) (base+i) ⟨cells,esz,false,1⟩) (hc:Vs M cells c.toList) (hmk:MkOk mk) (hv:v i=mk (base+i)) :
    ∃ M',DInv ops ms base T G Gs M₀ w₀ B N (fun j=>S j∨j=i) q M' (w.alloc (.cells c e)) (a.put o.dst (mk w.heap.size)):=by
  have hi:i<ops.size:=hm.lt
  have hnx:=h.nx
  have hqle:=h.qle
  have hnone:M.mu (base+i)=none:=h.un i hi fun hh=>hs hh.2
  have hM:M.Le (M.ext (base+i) ⟨w.heap.size,0,0,esz,false,cells.length⟩):=Map.le_ext hnone
  have hob:(G (i+1)).obj (base+i)=some ⟨cells,esz,false,1⟩:=by rw [hst.obj,if_pos rfl]
  have hobq:∀ o',(G q).obj (base+i)=some o' →o' =⟨cells,esz,false,1⟩:=by
    intro o' ho'
    rcases Nat.lt_or_ge i q with hlt | hge
    · rw [h.late i hlt hm hs,hob] at ho'; exact (Option.some.inj ho').symm
    · rw [h.fresh q i (Nat.le_refl _) hge hi] at ho'; cases ho'
  have hold:∀ j x,q≤j→j<ops.size→M.mu (base+j)=some x→x.blk<w.heap.size:=by
    intro j x hqj hj hx
    have hk:IsK ops T 2 j∧S j:=Classical.byContradiction fun hn=>by rw [h.un j hj hn] at hx; cases hx
    obtain ⟨y,o',h1,_,h3,h4,_⟩:=h.early j hk.1 hk.2 hqj
    rw [hx] at h1; obtain rfl:=Option.some.inj h1
    exact own_lt h4 h3
  refine ⟨M.ext (base+i) ⟨w.heap.size,0,0,esz,false,cells.length⟩,?_⟩
  refine { closed := h.closedStep hp, qle := h.qle, ws := ?_, rel := h.rel.late hnone (by omega) hc hobq, nx := h.nx, evo := h.evo.late (by omega) hnone rfl _, marks := ?_,
           len:=by rw [put_size]; exact h.len,slot:=h.slotStep hTr hEd ho hs hp hM (by rw [hv]; exact hmk.rel (by rw [Map.ext_mu,if_pos rfl])),early:= ?_,eapart:= ?_,un:= ?_,fresh:=h.fresh,late:= ?_ }
  · intro j hj
    rw [← h.ws j hj]
    have hne:j≠i:=by rintro rfl; exact absurd (hj.uniq hm) (by omega)
    exact ⟨fun hh=>hh.resolve_right hne,.inl⟩
  · rw [put_defers]
    obtain ⟨rs,h1,h2,h3⟩:=h.marks
    refine ⟨rs,h1,h2,fun r hr=>⟨(h3 r hr).1,?_⟩⟩
    have hlt:=(Array.getElem?_eq_some_iff.1 (h3 r hr).2).1
    rw [alloc_keep w _ _ hlt]; exact (h3 r hr).2
  · intro j hj hsj hqj
    by_cases hji:j=i
    · subst hji
      refine ⟨_,_,by rw [Map.ext_mu,if_pos rfl],hob,rfl,blk_new h.rel.size (hc.mono hM),fun hf=> ?_,h.evo.size⟩
      rcases foot_ext hf with hf | ⟨_,o',ho'⟩
      · exact absurd (foot_lt h.rel hf) (Nat.lt_irrefl _)
      · rw [h.fresh q j (Nat.le_refl _) hqj hi] at ho'; cases ho'
    · obtain ⟨y,o',h1,h2,h3,h4,h5,h6⟩:=h.early j hj (hsj.resolve_right hji) hqj
      have hlt:=own_lt h4 h3
      refine ⟨y,o',hM.mu _ _ h1,h2,h3,h4.lift hM h3 (alloc_keep w _ _ hlt),fun hf=> ?_,h6⟩
      rcases foot_ext hf with hf | ⟨he,_⟩
      · exact h5 hf
      · simp only at he; omega
  · intro j k x y hj hk hj' hk' hx hy he
    rcases ext_mu_cases hx with ⟨h1,h2⟩ | ⟨h1,h2⟩<;>rcases ext_mu_cases hy with ⟨h3,h4⟩ | ⟨h3,h4⟩
    · omega
    · have:=hold k y hk hk' h4
      rw [h2] at he; simp only at he; omega
    · have:=hold j x hj hj' h2
      rw [h4] at he; simp only at he; omega
    · exact h.eapart j k x y hj hk hj' hk' h2 h4 he
  · intro j hj hn
    have hne:j≠i:=by rintro rfl; exact hn ⟨hm,.inr rfl⟩
    rw [Map.ext_mu,if_neg (by omega)]
    exact h.un j hj fun hh=>hn ⟨hh.1,.inl hh.2⟩
  · exact fun j hj hjm hsj=>h.late j hj hjm fun hh=>hsj (.inl hh)
theorem DInv.readNow (hTr:Trace P E ops ms base T G v) (h:DInv ops ms base T G Gs M₀ w₀ B N S q M w a) (hmax:q<ops.size→IsK ops T 3 q) {i:Nat} {o:Oper} (ho:ops[i]? =some o) (hs:¬ S i) (hp:∀ j,(nth 0 ms i).testBit j=true→S j)
    (hw:gWanted ops (T i) o=true) (hc:cls o.op=1) (hr:gRead P (T i) o.op (G i)=some (v i)):gRead P (T i) o.op (G q)=some (v i):=by
  have hi:i<ops.size:=(Array.getElem?_eq_some_iff.1 ho).1
  have hqle:=h.qle
  have hk:IsK ops T 1 i:=⟨o,ho,hw,hc⟩
  rcases Nat.lt_trichotomy i q with hlt | heq | hgt
  · have key:∀ n,i+n≤q→gRead P (T i) o.op (G (i+n))=some (v i):=by
      intro n
      induction n with
      | zero=>exact fun _=>hr
      | succ n ih =>
        intro hn
        have ih:=ih (by omega)
        show gRead P (T i) o.op (G (i+n+1))=some (v i)
        by_cases h3:IsK ops T 3 (i+n)
        · have hne:n≠0:=by rintro rfl; exact absurd (hk.uniq h3) (by omega)
          have hsm:=(h.ws _ h3).2 (by omega)
          obtain ⟨om,hom,hwm,hcm⟩:=h3
          rcases hTr.after i (i+n) o om ho hom (by omega) hw hwm hc hcm with hb | hb
          · exact absurd (h.closed _ _ hsm hb) hs
          · exact hb
        · by_cases h2:IsK ops T 2 (i+n)
          · obtain ⟨cells,esz,hst⟩:=hTr.mk2 h2
            refine GLe.read (fun g o' hg=> ?_) ih
            rw [hst.obj]
            split
            · rename_i he
              rw [he,h.fresh (i+n) (i+n) (by omega) (Nat.le_refl _) h2.lt] at hg; cases hg
            · exact hg
          · rw [hTr.notK (by omega) h2 h3]; exact ih
    have:=key (q - i) (by omega)
    rwa [show i+(q - i)=q by omega] at this
  · subst heq
    exact absurd (hk.uniq (hmax hi)) (by omega)
  · have h3:=hmax (by omega)
    have hq:=h.ws q h3
    obtain ⟨oq,hoq,hwq,hcq⟩:=h3
    rcases hTr.before i q o oq ho hoq hgt hw hwq hc hcq with hb | hb
    · exact absurd (hq.1 (hp q hb)) (Nat.lt_irrefl _)
    · exact hb
theorem DInv.exec (hE:SimE P B E) (hTr:Trace P E ops ms base T G v) (hEd:Edges ops ms) (hGs:Gs.nx≤base) (h:DInv ops ms base T G Gs M₀ w₀ B N S q M w a) (hmax:q<ops.size→IsK ops T 3 q) {i:Nat} {o:Oper} (ho:ops[i]? =some o) (hs:¬ S i)
    (hr:∀ e∈o.after,Region.binds .any e=true→S e.on) {b:Frame} {k:List Item} {cs:List Frame} {rest:List Nat} :
    ∃ q' M' w' a',DInv ops ms base T G Gs M₀ w₀ B N (fun j=>S j∨j=i) q' M' w' a' ∧Steps P (lone (b.atR a (.inRegion ops (i::rest)::k)) cs w) (lone (b.atR a' (.inRegion ops rest::k)) cs w'):=by
  have hi:i<ops.size:=(Array.getElem?_eq_some_iff.1 ho).1
  have hp:=h.preds hEd ho hr
  have hlook:=h.look hTr hEd ho hs hp
  have hwt:Region.wanted o (yielded ops a.tmps)=gWanted ops (T i) o:=wanted_at hlook
  have hcut:Vs M (cutT (o.looksAt ops) (T i)) (cutA (o.looksAt ops) a).tmps.toList:=cut_rel (by rw [hTr.len i (by omega),h.len]) hlook
  have hnotK:∀ c,gWanted ops (T i) o=true→cls o.op≠c→¬ IsK ops T c i:=by
    rintro c _ hne ⟨o',ho',_,hc⟩
    rw [ho] at ho'; obtain rfl:=Option.some.inj ho'
    exact hne hc
  rcases drawStep_cases (hTr.step i o ho).1 with ⟨hw,hv,hG⟩ | ⟨hw,hok,hc⟩
  · have hno:∀ c,¬ IsK ops T c i:=by
      rintro c ⟨o',ho',hw',_⟩
      rw [ho] at ho'; obtain rfl:=Option.some.inj ho'
      rw [hw] at hw'; cases hw'
    refine ⟨q,M,w,_,h.evoStep hTr hEd ho hs hp (hno 2) (.inl ⟨rfl,hno 3⟩) (.refl _ _ _) h.rel (by rw [hv]; exact V_undef),.one ?_⟩
    have:=stepR_op_skip (P:=P) (b:=b) (a:=a) (k:=k) (cs:=cs) (w:=w) (ops:=ops) (i:=i) (rest:=rest) (by simp [ho,hwt,hw])
    simpa [ho] using this
  · have hw' :=hwt.trans hw
    have hgo:∀ {G' :GS} {q' :Nat},G' =G q' →opStep P E (T i) (G q) o.op=some (v i,G')→¬ IsK ops T 2 i→((q' =q∧¬ IsK ops T 3 i)∨(q' =q+1∧i=q∧IsK ops T 3 i)) →
        ∃ q' M' w' a',DInv ops ms base T G Gs M₀ w₀ B N (fun j=>S j∨j=i) q' M' w' a' ∧Steps P (lone (b.atR a (.inRegion ops (i::rest)::k)) cs w) (lone (b.atR a' (.inRegion ops rest::k)) cs w'):=by
      intro G' q' hG' hop h2 hq'
      subst hG'
      have hop' :opStep P E (cutT (o.looksAt ops) (T i)) (G q) o.op=some (v i,G q'):=by rw [agree_step cut_agree]; exact hop
      obtain ⟨M',w',u,h1,h2',h3,h4⟩:=op_stepsAt hE hop' (b:=b) (k:=k) (cs:=cs) (rest:=rest) ho hw' h.rel hcut (cut_exec (opStep_noSelect hop'))
      exact ⟨q',M',w',_,h.evoStep hTr hEd ho hs hp h2 hq' h1 h2' h3,h4⟩
    rcases hc with ⟨hc,hpure,hG⟩ | ⟨hc,hread,hG⟩ | ⟨hc,G1,hmk,hG⟩ | ⟨hc,hop⟩
    · exact hgo (q' :=q) rfl (by unfold opStep; rw [if_neg (by simp [hok]),hc]; simp only [hpure]) (hnotK 2 hw (by omega)) (.inl ⟨rfl,hnotK 3 hw (by omega)⟩)
    · have hread' :=h.readNow hTr hmax ho hs hp hw hc hread
      exact hgo (q' :=q) rfl (by unfold opStep; rw [if_neg (by simp [hok]),hc]; simp only [hread']) (hnotK 2 hw (by omega)) (.inl ⟨rfl,hnotK 3 hw (by omega)⟩)
    · have hd:∀ c,o.op≠ .defer c:=by rintro c hcc; rw [hcc] at hc; simp [cls] at hc
      have hns:∀ cs b,o.op≠ .select cs b:=by rintro c b hcc; rw [hcc] at hc; simp [cls] at hc
      have hmk' :gMake P (cutT (o.looksAt ops) (T i)) o.op { G i with nx:=base+i }=some (v i,G1):=by rw [agree_make cut_agree]; exact hmk
      obtain ⟨cells,esz,mk,c,e,h1,h2,rfl,h4,h5⟩:=make_run (P:=P) hcut hok hmk'
      obtain ⟨M',hD⟩:=h.makeStep hTr hEd hGs ho hs hp ⟨o,ho,hw,hc⟩ (cells:=cells) (esz:=esz) (e:=e) (by rw [hG]; exact mkStep_of) h4 h1 h2
      exact ⟨q,M',_,_,hD,.one (step_value ho hw' hd (by rw [cut_exec (ops:=ops) hns]; exact h5 w))⟩
    · have hk:IsK ops T 3 i:=⟨o,ho,hw,hc⟩
      have hiq:i=q:=by
        have h1:¬ i<q:=fun hlt=>hs ((h.ws i hk).2 hlt)
        rcases Nat.lt_or_ge q i with hlt | hge
        · have h3:=hmax (by omega)
          have hq:=h.ws q h3
          obtain ⟨oq,hoq,hwq,hcq⟩:=h3
          rcases hEd.pair q i oq o hoq ho hlt with hb | ⟨_,hn⟩
          · exact absurd (hq.1 (hp q hb)) (Nat.lt_irrefl _)
          · exact absurd ⟨hcq,hc⟩ hn
        · omega
      refine hgo (q' :=q+1) (G' :=G (q+1)) rfl ?_ (hnotK 2 hw (by omega)) (.inr ⟨rfl,hiq,hk⟩)
      rw [← hiq]; exact hop
end
end Go.Proofs.YtlaojmcekeohnaaGreatDoor.Gh
