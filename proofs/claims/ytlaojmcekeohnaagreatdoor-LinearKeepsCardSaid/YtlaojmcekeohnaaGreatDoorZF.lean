import Derived.Test.YtlaojmcekeohnaaGreatDoorZE
import Derived.Test.YtlaojmcekeohnaaGreatDoorZH
import Derived.Test.YtlaojmcekeohnaaGreatDoorZB
set_option linter.unusedVariables false
set_option linter.unusedSimpArgs false
set_option maxRecDepth 20000
namespace Go.Proofs.YtlaojmcekeohnaaGreatDoor.Lift
open Go Go.Proofs.YtlaojmcekeohnaaGreatDoor.Gh Go.Proofs
section
variable {l:List Sp} {lV idv:Value} {row:List Nat} {G:GS} {room:Int}
def wP (c:Sp):Nat:=if isLoose c then 1024 else 1
theorem ptold_le (room:Int) (c:Sp) (s:List Int) (hs:pInv s):(toldP (pMac room) s c).length≤wP c:=by
 unfold toldP wP isLoose
 split
 ·split<;>simp
 ·rename_i h
  have h':c.to<0:=by omega
  show (pFine s c.op).length≤_
  unfold pFine
  split
  ·rename_i h7
   simp [h',h7]
   exact hs.1
  ·rename_i h7
   simp [h7]
theorem bd_loose:∀ (k:Nat) (L:List Sp) (n:Nat),(L.filter isLoose).length≤k→n*1024 ^ k≤2000000→Bd n (L.map wP)
 | k,[],n,h,hn=>by
  show n≤2000000
  have:1≤1024 ^ k:=Nat.one_le_pow _ _ (by decide)
  have:=Nat.le_mul_of_pos_right n this
  omega
 | k,c::L,n,h,hn=>by
  have h1:1≤1024 ^ k:=Nat.one_le_pow _ _ (by decide)
  have h2:=Nat.le_mul_of_pos_right n h1
  refine ⟨by omega,?_⟩
  unfold wP
  cases hc:isLoose c with
  | false =>
   rw [List.filter_cons_of_neg (by simp [hc])] at h
   simp only [Bool.false_eq_true,if_false,Nat.mul_one]
   exact bd_loose k L n h hn
  | true =>
   rw [List.filter_cons_of_pos hc,List.length_cons] at h
   obtain ⟨k,rfl⟩:∃ k',k=k' +1:=⟨k - 1,by omega⟩
   simp only [if_true]
   exact bd_loose k L (n*1024) (by omega) (by rw [Nat.mul_assoc,Nat.mul_comm 1024,← Nat.pow_succ]; exact hn)
theorem loose_row:∀ (row:List Nat) (l:List Sp),row.Nodup→(∀ a∈row,a<l.length)→((row.map (sp l)).filter isLoose).length≤looseP l:=by
 intro row l hn hr
 have e:((row.map (sp l)).filter isLoose).length=(row.filter fun a=>isLoose (sp l a)).length:=by
  rw [List.filter_map,List.length_map]; rfl
 have e2:looseP l=((List.range l.length).filter fun a=>isLoose (sp l a)).length:=by
  have hl:l=(List.range l.length).map (sp l):=by
   apply List.ext_getElem (by simp)
   intro i h1 h2
   rw [List.getElem_map,List.getElem_range,sp_at h1]
  conv=>lhs; rw [hl]
  unfold looseP
  rw [List.filter_map,List.length_map]; rfl
 rw [e,e2]
 have sub:∀ (A B:List Nat),A.Nodup→(∀ x∈A,x∈B)→A.length≤B.length:=by
  intro A
  induction A with
  | nil=>intro B _ _; exact Nat.zero_le _
  | cons x A ih =>
   intro B hA hB
   obtain ⟨h1,h2⟩:=List.nodup_cons.1 hA
   have hx:=hB x (List.mem_cons_self ..)
   have:=ih (B.erase x) h2 fun y hy=>(List.mem_erase_of_ne (fun e=>h1 (by rw [← e]; exact hy))).2 (hB y (List.mem_cons_of_mem _ hy))
   rw [List.length_erase_of_mem hx] at this
   have:=List.length_pos_of_mem hx
   simp only [List.length_cons]; omega
 refine sub _ _ (hn.sublist List.filter_sublist) fun x hx=>?_
 obtain ⟨h1,h2⟩:=List.mem_filter.1 hx
 exact List.mem_filter.2 ⟨List.mem_range.2 (hr x h1),h2⟩
theorem fitsP_ok (orc:FuncId→Bool) (ht:tabs G=true) (h2:2≤G.nx) (hl:SlR rSp G lV l) (okl:∀ c∈l,okOp c.op) (hm:MayOk 3 room l) (hv:SlR (rowsI .i64) G idv (row.map fun a=>(sp l a).id)) {s2:List Int} {d2:Nat} (hway:Way (pMac room) l (pFirst room) 0 row s2 d2) (hov:ovrP l d2) :
  Wp ((E orc).cl 16 [.int .i64 3,.int .i64 room,lV,idv] G) fun r=>r.1= .tuple #[.bool true,.int .i64 0]∧Ext G r.2:=by
 refine Wp.ref (f16 (exL_ok Q orc) _ _ _ _ G) ?_
 have hf:=way_fresh hway
 have hrl:row.length≤l.length:=nd_len _ _ hf.2.1 fun x hx=>(hf.1 x hx).2
 have hlen:=hm.2.2.1
 obtain ⟨⟨r1,G1⟩,e1,x1,x,rfl,hx⟩:=may_ok orc hl 3 room
 have hx0:=hx.2 hm
 subst hx0
 simp only at x1
 obtain ⟨⟨r2,G2⟩,e2,pv,rfl,x2,wp⟩:=places_ok orc (hl.ext x1) (by omega) hm.2.2.2.2 (fun a ha=>(hf.1 a ha).2) (by omega) hf.2.1 (hv.ext x1)
 simp only at x2 wp
 obtain ⟨⟨r3,G3⟩,e3,fv,rfl,x3,w3⟩:=pools_ok orc room (tabs_extP (x1.trans x2) ht h2) (Nat.le_trans h2 (x1.trans x2).nx)
 simp only at x3 w3
 have xx:=(x1.trans x2).trans x3
 have hbd:Bd 1 (row.map fun a=>wP (sp l a)):=by
  have:=bd_loose 2 (row.map (sp l)) 1 (Nat.le_trans (loose_row row l hf.2.1 fun a ha=>(hf.1 a ha).2) (hm.2.2.2.1 rfl)) (by decide)
  rwa [List.map_map] at this
 obtain ⟨⟨r4,G4⟩,e4,rfl,x4⟩:=fits_P (orc:=orc) (macP orc (room:=room) (tabs_extP xx ht h2) (by have:=xx.nx; omega) w3) (Ext.refl G3) (hl.ext xx) (by omega) okl (wp.ext x3) (by omega) wP (fun c _ s hs=>ptold_le room c s hs) hbd hway hov
 have e4:(E orc).cl 49 [.agg ⟨rowP fv⟩,lV,pv] G3=some (.bool true,G4):=e4
 simp [s16,e1,e2,e3,e4,pExtract,getN_zero,getN_succ]
 exact xx.trans x4
end
section
variable {A:GS} {L:List Int} {v:Value}
def WhP (L:List Int) (x r:Int):Prop:=r= -1∧x∉L∨∃ (i:Nat) (h:i<L.length),r=i∧L[i]=x
def WhE (A:GS) (L:List Int) (x:Int) (q:Exit×Env×GS):Prop:=q.2.2=A∧(q.1= .exit 0∧x∉L∨∃ r,q.1= .ret∧q.2.1 4= .int .i64 r∧WhP L x r)
theorem where_lp (orc:FuncId→Bool) (hs:SlR (rowsI .i64) A v L) (hlen:L.length≤100000) (x:Int):∀ (k i:Nat) (τ:Env),i+k=L.length→τ 0=v→τ 1= .int .i64 x→τ 5= .int .i64 (i:Int)→x∉L.take i →
  Wp ((exL Q orc).lpx 22 0 τ A) (WhE A L x):=by
 intro k
 induction k with
 | zero =>
  intro i τ hi t0 t1 t5 hn
  have hi':i=L.length:=by omega
  subst hi'
  rw [List.take_length] at hn
  obtain ⟨a,c,e0⟩:=hs.len
  have ll:∀ x,ln Q true x v=some (.int .i64 L.length):=fun x=>by rw [e0]; simp
  refine Wp.lp (l22_0 (exL_ok Q orc)) ?_
  simp [b22_0,clip_t,t0,t1,t5,ll]
  exact ⟨rfl,.inl ⟨rfl,hn⟩⟩
 | succ k ih =>
  intro i τ hi t0 t1 t5 hn
  have hlt:i<L.length:=by omega
  have hw:IntKind.wrap .i64 ((i:Int)+1)=((i+1:Nat):Int):=wrap64 (by omega) (by omega)
  have h1:(i:Int)<L.length:=by omega
  have h2:(0:Int)≤i:=by omega
  obtain ⟨b',o,c,e0,_,hz,_⟩:=hs.at hlt
  have hz:=hz 0 (by decide)
  simp [rowsI] at hz
  refine Wp.lp (l22_0 (exL_ok Q orc)) ?_
  by_cases hne:L[i]=x
  ·simp [-Int.natCast_add,b22_0,clip_t,t0,t1,t5,e0,h1,h2,hlt,hz,hne]
   exact ⟨rfl,.inr ⟨(i:Int),rfl,by simp [clip_t],.inr ⟨i,hlt,rfl,hne⟩⟩⟩
  ·simp [-Int.natCast_add,b22_0,clip_t,t0,t1,t5,e0,h1,h2,hlt,hz,hne,hw]
   refine ih (i+1) _ (by omega) (by simp [clip_t,e0]) (by simp [clip_t]) (by simp [clip_t]) ?_
   rw [← List.take_append_getElem hlt]
   intro h
   rcases List.mem_append.1 h with h | h
   ·exact hn h
   ·exact hne (List.mem_singleton.1 h).symm
theorem where_ok (orc:FuncId→Bool) (hs:SlR (rowsI .i64) A v L) (hlen:L.length≤100000) (x:Int):∃ r,(E orc).cl 22 [v,.int .i64 x] A=some (.int .i64 r,A)∧WhP L x r:=by
 have w:Wp ((E orc).cl 22 [v,.int .i64 x] A) fun q=>q.2=A∧∃ r,q.1= .int .i64 r∧WhP L x r:=by
  refine Wp.ref (f22 (exL_ok Q orc) _ _ A) ?_
  simp [s22]
  refine Wp.bE ((where_lp orc hs hlen x L.length 0 _ (by omega) (by simp [clip_t]) (by simp [clip_t]) (by simp [clip_t]) (by simp)).mono ?_)
  rintro ⟨ee,τ,G'⟩ ⟨q0,⟨q1,q2⟩ | ⟨r,q1,q2,q3⟩⟩
  ·simp only at q0 q1
   subst q0 q1
   simp
   exact .inl ⟨rfl,q2⟩
  ·simp only at q0 q1 q2
   subst q0 q1
   simp [q2]
   exact q3
 obtain ⟨⟨u,G'⟩,e,h1,r,h2,h3⟩:=w
 simp only at h1 h2
 subst h1 h2
 exact ⟨r,e,h3⟩
theorem amongY_lp (orc:FuncId→Bool) (hs:SlR (rowsI .i64) A v L) (hlen:L.length≤100000) (x:Int):∀ (k i:Nat) (τ:Env),i+k=L.length→τ 0=v→τ 1= .int .i64 x→τ 5= .int .i64 (i:Int)→x∈L.drop i →
  Wp ((exL Q orc).lpx 20 0 τ A) fun q=>q.2.2=A∧q.1= .ret∧q.2.1 4= .bool true:=by
 intro k
 induction k with
 | zero =>
  intro i τ hi t0 t1 t5 hm
  rw [List.drop_eq_nil_of_le (by omega)] at hm
  cases hm
 | succ k ih =>
  intro i τ hi t0 t1 t5 hm
  have hlt:i<L.length:=by omega
  have hw:IntKind.wrap .i64 ((i:Int)+1)=((i+1:Nat):Int):=wrap64 (by omega) (by omega)
  have h1:(i:Int)<L.length:=by omega
  have h2:(0:Int)≤i:=by omega
  obtain ⟨b',o,c,e0,_,hz,_⟩:=hs.at hlt
  have hz:=hz 0 (by decide)
  simp [rowsI] at hz
  refine Wp.lp (l20_0 (exL_ok Q orc)) ?_
  by_cases hne:L[i]=x
  ·simp [-Int.natCast_add,b20_0,clip_t,t0,t1,t5,e0,h1,h2,hlt,hz,hne]
  ·simp [-Int.natCast_add,b20_0,clip_t,t0,t1,t5,e0,h1,h2,hlt,hz,hne,hw]
   refine ih (i+1) _ (by omega) (by simp [clip_t,e0]) (by simp [clip_t]) (by simp [clip_t]) ?_
   rw [List.drop_eq_getElem_cons hlt] at hm
   exact (List.mem_cons.1 hm).resolve_left fun e=>hne e.symm
theorem amongY_ok (orc:FuncId→Bool) (hs:SlR (rowsI .i64) A v L) (hlen:L.length≤100000) {x:Int} (hx:x∈L):(E orc).cl 20 [v,.int .i64 x] A=some (.bool true,A):=by
 have w:Wp ((E orc).cl 20 [v,.int .i64 x] A) fun q=>q=(.bool true,A):=by
  refine Wp.ref (f20 (exL_ok Q orc) _ _ A) ?_
  simp [s20]
  refine Wp.bE ((amongY_lp orc hs hlen x L.length 0 _ (by omega) (by simp [clip_t]) (by simp [clip_t]) (by simp [clip_t]) (by simpa using hx)).mono ?_)
  rintro ⟨ee,τ,G'⟩ ⟨q0,q1,q2⟩
  simp only at q0 q1 q2
  subst q0 q1
  simp [q2]
 obtain ⟨r,e,rfl⟩:=w
 exact e
theorem way_ahead {α:Type} {m:Mac α} {l:List Sp} {s s2:List α} {d d2:Nat} {row:List Nat} (h:Way m l s d row s2 d2):∀ (p:Nat) (hp:p<row.length) (i:Nat),i<l.length→i≠row[p]→ahead (sp l i) (sp l row[p])=true→d.testBit i=true∨i∈row.take p:=by
 induction h with
 | nil=>intro p hp; simp at hp
 | @cons s d a an s1 r s2 d2 h1 h2 h3 h4 h5 ih =>
  intro p hp i hi hne hah
  cases p with
  | zero =>
   simp only [List.getElem_cons_zero] at hne hah
   cases hb:d.testBit i with
   | true=>exact .inl rfl
   | false=>have:=h2.2 i hi hne hb; rw [hah] at this; cases this
  | succ p =>
   simp only [List.getElem_cons_succ] at hne hah
   rcases ih p (by simpa using hp) i hi hne hah with h | h
   ·rw [Nat.testBit_or,Bool.or_eq_true] at h
    rcases h with h | h
    ·exact .inl h
    ·rw [Nat.testBit_shiftLeft,Bool.and_eq_true,decide_eq_true_eq] at h
     obtain ⟨g1,g2⟩:=h
     have:i=a:=by
      by_cases h0:i - a=0
      ·omega
      ·obtain ⟨z,hz⟩:∃ z,i - a=z+1:=⟨i - a - 1,by omega⟩
       rw [hz] at g2; simp [Nat.testBit_succ] at g2
     exact .inr (by rw [this]; simp)
   ·exact .inr (by rw [List.take_succ_cons]; exact List.mem_cons_of_mem _ h)
end
def OrdP {α:Type} (m:Mac α) (l:List Sp) (G:GS) (r:Value×GS):Prop :=
 Ext G r.2∧(r.1= .tuple #[.slice none 0 0,.bool false,.int .i64 0]∧¬ Goes m l [] m.first 0∨∃ outv row s2,r.1= .tuple #[outv,.bool true,.int .i64 0]∧Way m l m.first 0 row s2 (dn row 0)∧ovrP l (dn row 0)∧OwR (rowsI .i64) G.nx r.2 outv (row.map fun a=>(sp l a).id))
structure ModL {α:Type} (orc:FuncId→Bool) (md room:Int) (m:Mac α):Prop where
 ord:∀ (G:GS) (lV:Value) (l:List Sp),tabs G=true→2≤G.nx→SlR rSp G lV l→(∀ c∈l,okOp c.op)→MayOk md room l→Wp ((E orc).cl 14 [.int .i64 md,.int .i64 room,lV] G) (OrdP m l G)
 fit:∀ (G:GS) (lV idv:Value) (l:List Sp) (row:List Nat) (s2:List α) (d2:Nat),tabs G=true→2≤G.nx→SlR rSp G lV l→(∀ c∈l,okOp c.op)→MayOk md room l→SlR (rowsI .i64) G idv (row.map fun a=>(sp l a).id)→Way m l m.first 0 row s2 d2→ovrP l d2→Wp ((E orc).cl 16 [.int .i64 md,.int .i64 room,lV,idv] G) fun r=>r.1= .tuple #[.bool true,.int .i64 0]∧Ext G r.2
theorem modQ (orc:FuncId→Bool) (room:Int):ModL orc 1 room (qMac room):=⟨fun G lV l ht h2 hl ok hm=>orderF orc ht h2 hl ok room hm,fun G lV idv l row s2 d2 ht h2 hl ok hm hv hw ho=>fitsQ_ok orc ht h2 hl ok hm hv hw ho⟩
theorem modH (orc:FuncId→Bool) (hk:orc 127=false) (hs:orc 43=false) (room:Int):ModL orc 2 room hMac:=⟨fun G lV l ht h2 hl ok hm=>orderH orc hk hs ht h2 hl ok room hm,fun G lV idv l row s2 d2 ht h2 hl ok hm hv hw ho=>fitsH_ok orc hk hs ht h2 hl ok hm hv hw ho⟩
theorem modP (orc:FuncId→Bool) (room:Int):ModL orc 3 room (pMac room):=⟨fun G lV l ht h2 hl ok hm=>orderP orc ht h2 hl ok room hm,fun G lV idv l row s2 d2 ht h2 hl ok hm hv hw ho=>fitsP_ok orc ht h2 hl ok hm hv hw ho⟩
theorem order_bad (orc:FuncId→Bool) {G:GS} {lV:Value} {l:List Sp} (hl:SlR rSp G lV l) {md room:Int} (hm:¬ MayOk md room l):Wp ((E orc).cl 14 [.int .i64 md,.int .i64 room,lV] G) fun r=>Ext G r.2∧∃ x,x≠0∧r.1= .tuple #[.slice none 0 0,.bool false,.int .i64 x]:=by
 refine Wp.ref (f14 (exL_ok Q orc) _ _ _ G) ?_
 obtain ⟨⟨r1,G1⟩,e1,x1,x,rfl,hx⟩:=may_ok orc hl md room
 have hx0:¬ x=0:=fun e=>hm (hx.1 e)
 simp only at x1
 simp [jb14_0,j14_0,sb14,s14,e1,hx0]
 exact x1
theorem goes_more1 {α:Type} {m:Mac α} {l:List Sp} {c:Sp} (hc:c.to= -1) {row:List Nat} {s2:List α} {d2:Nat} (h:Way m l m.first 0 row s2 d2) (ho:ovrP l d2):Goes m (l++[c]) [] m.first 0:=by
 have hf:=way_fresh h
 have hs:∀ a,a<l.length→sp (l++[c]) a=sp l a:=fun a ha=>by rw [sp_app,if_pos ha]
 have hW:=fun a ha=>(hf.1 a ha).2
 refine ⟨row,s2,d2,?_,fun i hi ht=>?_⟩
 ·rw [List.nil_append]
  refine way_mono (by simp) (fun a ha=>by rw [hs a (hW a ha)]) (fun a ha s an=>by rw [hs a (hW a ha)]; exact id) (fun a ha d hr=>⟨hr.1,fun i hi hne hb=>?_⟩) h
  rw [hs a (hW a ha),sp_app]
  by_cases h1:i<l.length
  ·rw [if_pos h1]; exact hr.2 i h1 hne hb
  ·rw [if_neg h1,if_pos (by simp at hi; omega)]
   unfold ahead; rw [hc]; rfl
 ·rw [sp_app] at ht
  by_cases h1:i<l.length
  ·rw [if_pos h1] at ht; exact ho i h1 ht
  ·rw [if_neg h1,if_pos (by simp at hi; omega),hc] at ht; omega
theorem id_inj {l:List Sp} (hid:(l.map (·.id)).Nodup) {a b:Nat} (ha:a<l.length) (hb:b<l.length) (h:(sp l a).id=(sp l b).id):a=b:=by
 rcases Nat.lt_trichotomy a b with h1 | h1 | h1
 ·exact absurd h (id_first hid hb a h1)
 ·exact h1
 ·exact absurd h.symm (id_first hid ha b h1)
section
variable {α:Type} {m:Mac α} {l:List Sp} {row:List Nat} {s s2:List α} {d2:Nat}
theorem wh_ord (hway:Way m l s 0 row s2 d2) (hid:(l.map (·.id)).Nodup) {i k:Nat} (hi:i<l.length) (hk:k<l.length) (hne:i≠k) (hah:ahead (sp l i) (sp l k)=true) {r1 r2:Int} (h1:WhP (row.map fun a=>(sp l a).id) (sp l k).id r1) (h2:WhP (row.map fun a=>(sp l a).id) (sp l i).id r2) (h0:0≤r1):¬ r1<r2:=by
 have hf:=way_fresh hway
 rcases h1 with ⟨rfl,_⟩ | ⟨p,hp,rfl,hpe⟩
 ·omega
 rw [List.getElem_map] at hpe
 have hp':p<row.length:=by simpa using hp
 have e1:row[p]=k:=id_inj hid (hf.1 _ (List.getElem_mem hp')).2 hk hpe
 rcases way_ahead hway p hp' i hi (by rw [e1]; exact hne) (by rw [e1]; exact hah) with h | h
 ·simp at h
 obtain ⟨q,hq,hqe⟩:=List.getElem_of_mem h
 rw [List.length_take] at hq
 rw [List.getElem_take] at hqe
 rcases h2 with ⟨rfl,_⟩ | ⟨q',hq',rfl,hqe'⟩
 ·omega
 rw [List.getElem_map] at hqe'
 have hq'':q' <row.length:=by simpa using hq'
 have e2:row[q']=i:=id_inj hid (hf.1 _ (List.getElem_mem hq'')).2 hi hqe'
 have e3:q' =q:=by
  rcases Nat.lt_trichotomy q' q with h | h | h
  ·exact absurd (e2.trans hqe.symm) (List.pairwise_iff_getElem.1 hf.2.1 q' q hq'' (by omega) h)
  ·exact h
  ·exact absurd (hqe.trans e2.symm) (List.pairwise_iff_getElem.1 hf.2.1 q q' (by omega) hq'' h)
 omega
variable {A:GS} {v2 av:Value} {L:List Int}
theorem k1_lp (orc:FuncId→Bool) (hs:SlR rSp A v2 l) (hlen:l.length≤50) (ha:SlR (rowsI .i64) A av L) (hal:L.length≤3000) {i:Nat} (hi:i<l.length)
  (hord:∀ k,k<l.length→i≠k→ahead (sp l i) (sp l k)=true→∀ r1 r2,WhP L (sp l k).id r1→WhP L (sp l i).id r2→0≤r1→¬ r1<r2):∀ (n k:Nat) (τ:Env) (G:GS),k+n=l.length→τ 2=v2→τ 10=av→τ 17= .int .i64 (i:Int)→τ 18= .int .i64 (k:Int)→Ext A G →
  Wp ((exL Q orc).lpx 4 1 τ G) fun q=>q.1= .exit 2∧Ext A q.2.2∧Kep [0,1,2,9,10,17] τ q.2.1:=by
 intro n
 induction n with
 | zero =>
  intro k τ G hk t2 t10 t17 t18 hA
  have hk':k=l.length:=by omega
  subst hk'
  obtain ⟨va,vc,ev⟩:=hs.len
  have ll:∀ x,ln Q true x v2=some (.int .i64 l.length):=fun x=>by rw [ev]; simp
  refine Wp.lp (l4_1 (exL_ok Q orc)) ?_
  simp [b4_1,clip_t,t2,t10,t17,t18,ll,hA]
  simp [Kep,clip_t,t2,t10,t17]
 | succ n ih =>
  intro k τ G hk t2 t10 t17 t18 hA
  have hlt:k<l.length:=by omega
  have hw:IntKind.wrap .i64 ((k:Int)+1)=((k+1:Nat):Int):=wrap64 (by omega) (by omega)
  have h1:(k:Int)<l.length:=by omega
  have h2:(0:Int)≤k:=by omega
  have k1:(i:Int)<l.length:=by omega
  have k2:(0:Int)≤i:=by omega
  obtain ⟨va,vc,ev⟩:=hs.len
  have ll:∀ x,ln Q true x v2=some (.int .i64 l.length):=fun x=>by rw [ev]; simp
  have next:∀ (τ':Env) (G':GS),τ' 2=v2→τ' 10=av→τ' 17= .int .i64 (i:Int)→τ' 18= .int .i64 ((k+1:Nat):Int)→Ext A G' →Kep [0,1,2,9,10,17] τ τ' →
    Wp ((exL Q orc).lpx 4 1 τ' G') fun q=>q.1= .exit 2∧Ext A q.2.2∧Kep [0,1,2,9,10,17] τ q.2.1:=by
   intro τ' G' s2 s10 s17 s18 hE hkp
   refine Wp.mono (ih (k+1) τ' G' (by omega) s2 s10 s17 s18 hE) fun q hq=>?_
   exact ⟨hq.1,hq.2.1,hkp.trans hq.2.2⟩
  refine Wp.lp (l4_1 (exL_ok Q orc)) ?_
  by_cases hik:i=k
  ·subst hik
   simp [-Int.natCast_add,b4_1,clip_t,t2,t10,t17,t18,ll,h1,hlt,hw]
   exact next _ _ (by simp [clip_t]) (by simp [clip_t]) (by simp [clip_t]) (by simp [clip_t]) (hA.room 41) (by simp [Kep,clip_t,t2,t10,t17])
  have hik':¬ ((i:Int)=k):=by omega
  obtain ⟨b,o,c,e0,hbG,hcz,hz⟩:=(hs.ext hA).at hi
  obtain ⟨b',o',c',e0',_,hcy,hy⟩:=(hs.ext hA).at hlt
  have e1:=e0.symm.trans e0'
  simp only [Value.slice.injEq,Option.some.injEq,Addr.mk.injEq,and_true,true_and] at e1
  obtain ⟨⟨rfl,rfl⟩,rfl⟩:=e1
  have hc0:=hcz 0 (by decide)
  have hy0:=hcy 0 (by decide)
  rw [rSp_sz] at hz hy hc0 hy0
  rw [← sp_at hi,loadA_eq] at hz
  rw [← sp_at hlt,loadA_eq] at hy
  rw [← sp_at hi] at hc0
  rw [← sp_at hlt] at hy0
  obtain ⟨⟨r,G'⟩,e5,rfl,x5⟩:=ahead_ok orc (sp l i) (sp l k) (G.room 41)
  simp only at e5 x5
  have x41:Ext G G':=((Ext.refl G).room 41).trans x5
  have hb':G'.obj b=G.obj b:=x41.obj b hbG
  rw [rSp_row,List.getElem?_cons_zero,Nat.add_zero] at hc0 hy0
  simp at hc0 hy0
  cases hah:ahead (sp l i) (sp l k) with
  | false =>
   rw [hah] at e5
   generalize hri:rSp.row (sp l i)=ri at *
   generalize hrk:rSp.row (sp l k)=rk at *
   simp [-Int.natCast_add,b4_1,clip_t,t2,t10,t17,t18,e0,h1,h2,hlt,hw,hik,hik',k1,k2,hi,hz,hy,e5]
   exact next _ _ (by simp [clip_t,e0]) (by simp [clip_t]) (by simp [clip_t]) (by simp [clip_t]) (hA.trans x41) (by simp [Kep,clip_t,t2,t10,t17,e0])
  | true =>
   rw [hah] at e5
   obtain ⟨q1,f1,w1⟩:=where_ok orc (ha.ext (hA.trans x41)) (by omega) (sp l k).id
   obtain ⟨q2,f2,w2⟩:=where_ok orc (ha.ext (hA.trans x41)) (by omega) (sp l i).id
   generalize hri:rSp.row (sp l i)=ri at *
   generalize hrk:rSp.row (sp l k)=rk at *
   have hs:same (.int .i64 (sp l k).id) (.int .i64 (sp l k).id)=true:=by simp [same,sameD]
   by_cases h0:0≤q1
   ·have hno:=hord k hlt hik hah q1 q2 w1 w2 h0
    simp [-Int.natCast_add,b4_1,clip_t,t2,t10,t17,t18,e0,h1,h2,hlt,hw,hik,hik',k1,k2,hi,hz,hy,e5,hb',hc0,hy0,f1,f2,h0,hno,hs,sameO]
    exact next _ _ (by simp [clip_t,e0]) (by simp [clip_t]) (by simp [clip_t]) (by simp [clip_t]) (hA.trans x41) (by simp [Kep,clip_t,t2,t10,t17,e0])
   ·simp [-Int.natCast_add,b4_1,clip_t,t2,t10,t17,t18,e0,h1,h2,hlt,hw,hik,hik',k1,k2,hi,hz,hy,e5,hb',hc0,hy0,f1,h0]
    exact next _ _ (by simp [clip_t,e0]) (by simp [clip_t]) (by simp [clip_t]) (by simp [clip_t]) (hA.trans x41) (by simp [Kep,clip_t,t2,t10,t17,e0])
theorem k0_lp (orc:FuncId→Bool) (hs:SlR rSp A v2 l) (hlen:l.length≤50) (ha:SlR (rowsI .i64) A av L) (hal:L.length≤3000) (hin:∀ i,i<l.length→0≤(sp l i).to→(sp l i).id∈L)
  (hord:∀ i,i<l.length→∀ k,k<l.length→i≠k→ahead (sp l i) (sp l k)=true→∀ r1 r2,WhP L (sp l k).id r1→WhP L (sp l i).id r2→0≤r1→¬ r1<r2):∀ (n i:Nat) (τ:Env) (G:GS),i+n=l.length→τ 2=v2→τ 10=av→τ 17= .int .i64 (i:Int)→Ext A G →
  Wp ((exL Q orc).lpx 4 0 τ G) fun q=>q.1= .exit 0∧Ext A q.2.2∧Kep [0,1,2,9,10] τ q.2.1:=by
 intro n
 induction n with
 | zero =>
  intro k τ G hk t2 t10 t17 hA
  have hk':k=l.length:=by omega
  subst hk'
  obtain ⟨va,vc,ev⟩:=hs.len
  have ll:∀ x,ln Q true x v2=some (.int .i64 l.length):=fun x=>by rw [ev]; simp
  refine Wp.lp (l4_0 (exL_ok Q orc)) ?_
  simp [b4_0,clip_t,t2,t10,t17,ll,hA]
  simp [Kep,clip_t,t2,t10]
 | succ n ih =>
  intro i τ G hk t2 t10 t17 hA
  have hlt:i<l.length:=by omega
  have hw:IntKind.wrap .i64 ((i:Int)+1)=((i+1:Nat):Int):=wrap64 (by omega) (by omega)
  have h1:(i:Int)<l.length:=by omega
  have h2:(0:Int)≤i:=by omega
  obtain ⟨b,o,c,e0,hbG,hcz,_⟩:=(hs.ext hA).at hlt
  have hc0:=hcz 0 (by decide)
  have hc2:=hcz 2 (by decide)
  rw [rSp_sz,← sp_at hlt,rSp_row] at hc0 hc2
  simp at hc0 hc2
  have next:∀ (τ':Env) (G':GS),τ' 2=v2→τ' 10=av→τ' 17= .int .i64 (i:Int)→τ' 18= .int .i64 0→Ext A G' →Kep [0,1,2,9,10] τ τ' →
    Wp (bE ((exL Q orc).lpx 4 1 τ' G') fun e23 t24 G25=>ifE e23 (.exit 2) (bP (gBinF Q .add 3 (.tmp 76) (.const (.int .i64 1)) (t24 17) (.int .i64 1)) fun x26=>(exL Q orc).lpx 4 0 (clip 157 (tu (tu t24 [(2,t24 2),(10,t24 10)]) [(17,x26),(77,x26),(76,t24 17)])) G25) (ifE e23 .ret (some (.ret,clip 157 (tu (tu t24 [(2,t24 2),(10,t24 10),(17,t24 17)]) []),G25)) none)) fun q=>q.1= .exit 0∧Ext A q.2.2∧Kep [0,1,2,9,10] τ q.2.1:=by
   intro τ' G' s2 s10 s17 s18 hE hkp
   refine Wp.bE ((k1_lp orc hs hlen ha hal hlt (hord i hlt) l.length 0 τ' G' (by omega) s2 s10 s17 s18 hE).mono ?_)
   rintro ⟨ee,τ2,G2⟩ ⟨q1,q2,q3⟩
   simp only at q1 q2 q3
   subst q1
   have u2:τ2 2=v2:=(q3 2 (by decide)).trans s2
   have u10:τ2 10=av:=(q3 10 (by decide)).trans s10
   have u17:τ2 17= .int .i64 (i:Int):=(q3 17 (by decide)).trans s17
   simp [-Int.natCast_add,u2,u10,u17,hw]
   refine Wp.mono (ih (i+1) _ G2 (by omega) (by simp [clip_t]) (by simp [clip_t]) (by simp [clip_t]) q2) fun q hq=>?_
   refine ⟨hq.1,hq.2.1,hkp.trans (Kep.trans ?_ hq.2.2)⟩
   simp [Kep,clip_t,s2,s10,q3 0 (by decide),q3 1 (by decide),q3 9 (by decide)]
  refine Wp.lp (l4_0 (exL_ok Q orc)) ?_
  by_cases ht:0≤(sp l i).to
  ·have hi:=hin i hlt ht
   have f1:=amongY_ok orc (ha.ext hA) (by omega) hi
   simp [-Int.natCast_add,b4_0,clip_t,t2,t10,t17,e0,h1,h2,hlt,hc0,hc2,ht,f1]
   exact next _ G (by simp [clip_t,t2,e0]) (by simp [clip_t,t10]) (by simp [clip_t,t17]) (by simp [clip_t]) hA (by simp [Kep,clip_t,t2,t10,e0])
  ·simp [-Int.natCast_add,b4_0,clip_t,t2,t10,t17,e0,h1,h2,hlt,hc2,ht]
   exact next _ G (by simp [clip_t,t2,e0]) (by simp [clip_t,t10]) (by simp [clip_t,t17]) (by simp [clip_t]) hA (by simp [Kep,clip_t,t2,t10,e0])
end
theorem pick_ok (orc:FuncId→Bool) (x n:Int) (hn:0<n) (hn2:n<2 ^ 40) (G:GS):(E orc).cl 19 [.int .i64 x,.int .i64 n] G=some (.int .i64 (x % n),G):=by
 refine f19 (exL_ok Q orc) _ _ G _ ?_
 have h1:=Int.emod_nonneg x (show n≠0 by omega)
 have h2:=Int.emod_lt_of_pos x hn
 have ht:=@Int.tmod_eq_emod x n
 have hn0:¬ n≤0:=by omega
 have hn1:¬ n=0:=by omega
 have hw:IntKind.wrap .i64 (x % n)=x % n:=wrap64 (by omega) (by omega)
 by_cases hx:x.tmod n<0
 ·have e:x.tmod n+n=x % n:=by split at ht<;>omega
  simp [s19,clip_t,hx,e,hw,hn0,hn1]
 ·have e:x.tmod n=x % n:=by split at ht<;>omega
  have hx':¬ x % n<0:=by omega
  simp [s19,clip_t,e,hx',hn0,hn1]
section
variable {α:Type} {m:Mac α} {G:GS} {v2:Value} {l:List Sp} {md:Int}
theorem copy_room {A:GS} (hl:SlR rSp A v2 l) (hlen:l.length≤50):∃ v' G',appK 10 80 (.slice (some ⟨A.nx,0,none⟩) 0 0) v2 ((((A.room 7).at' A.nx).push ⟨[],10,false,1⟩).back (A.room 7))=some (v',G')∧Ext A G' ∧A.nx+7≤G'.nx∧OwR rSp A.nx G' v' l∧¬ InB v' (A.nx+4):=by
 have xR:Ext A ((((A.room 7).at' A.nx).push ⟨[],10,false,1⟩).back (A.room 7)):=drawn0 ((Ext.refl A).room 7) (Nat.le_refl _) _
 have oR:OwR rSp A.nx ((((A.room 7).at' A.nx).push ⟨[],10,false,1⟩).back (A.room 7)) (.slice (some ⟨A.nx,0,none⟩) 0 0) []:=⟨by simp,.inr ⟨A.nx,false,rfl,Nat.le_refl _,by simp,by simp⟩⟩
 have nR:((((A.room 7).at' A.nx).push ⟨[],10,false,1⟩).back (A.room 7)).nx=A.nx+7:=by simp
 by_cases h0:l=[]
 ·subst h0
  obtain ⟨a,c,rfl⟩:=hl.len
  have hel:elems 10 0 (.slice a 0 c) ((((A.room 7).at' A.nx).push ⟨[],10,false,1⟩).back (A.room 7))=some []:=elems_of (hl.ext xR).is
  refine ⟨_,_,by unfold appK; rw [if_neg (by decide)]; simp only [List.length_nil]; rw [hel]; rfl,xR,by omega,oR,fun ⟨a',n,c',he,hb⟩=>?_⟩
  simp only [Value.slice.injEq,Option.some.injEq] at he
  obtain ⟨rfl,_⟩:=he
  simp only at hb
  omega
 ·obtain ⟨v',G',h1,h2,h3,h4,_⟩:=oR.app_new (ib:=80) (by decide) xR (hl.ext xR) (List.length_pos_iff.2 h0) (by simp; omega)
  exact ⟨v',G',h1,h2,by omega,h3.mono (by omega),fun hb=>by have:=h3.from hb; omega⟩
theorem more_room {A G19:GS} {v':Value} (c:Sp) (x:Ext A G19) (hn:A.nx+7≤G19.nx) (ho:OwR rSp A.nx G19 v' l) (hb:¬ InB v' (A.nx+4)) (hlen:l.length≤50):∃ v'' G',appK 10 80 v' (.slice (some ⟨A.nx+4,0,none⟩) 1 1) (((G19.at' (A.nx+4)).push ⟨rSp.row c,10,false,1⟩).back G19)=some (v'',G')∧Ext A G' ∧OwR rSp A.nx G' v'' (l++[c]):=by
 have x2:Ext A (((G19.at' (A.nx+4)).push ⟨rSp.row c,10,false,1⟩).back G19):=drawn0 x (by omega) _
 have s2:SlR rSp (((G19.at' (A.nx+4)).push ⟨rSp.row c,10,false,1⟩).back G19) (.slice (some ⟨A.nx+4,0,none⟩) 1 1) [c]:=SlR.oneD rSp G19 c (by omega)
 have o2:OwR rSp A.nx (((G19.at' (A.nx+4)).push ⟨rSp.row c,10,false,1⟩).back G19) v' l:=ho.kept (by simp) fun g hg=>by
  have:¬ g=A.nx+4:=fun e=>hb (e▸hg)
  simp [this]
 exact o2.app (ib:=80) (by decide) x2 s2 (by simp; omega)
theorem keeps_ok (orc:FuncId→Bool) (hkn:orc 3=true) (ht:tabs G=true) (hg:2≤G.nx) (z:Int) (h2:SlR rSp G v2 l) (okl:∀ c∈l,okOp c.op) (more:Sp) (okm:okOp more.op) (hM:MayOk md (1+z % 4) l) (M:ModL orc md (1+z % 4) m) :
  Wp ((E orc).cl 4 [.int .i64 md,.int .i64 z,v2,.agg ⟨rSp.row more⟩] G) fun q=>q.1= .bool true:=by
 refine Wp.ref (f4 (exL_ok Q orc) _ _ _ _ G) ?_
 obtain ⟨va,vc,ev⟩:=h2.len
 have l1:∀ x,ln Q true x v2=some (.int .i64 l.length):=fun x=>by rw [ev]; simp
 obtain ⟨G1,hG1⟩:∃ G1,G1=G.push ⟨rSp.row more,1,false,1⟩:=⟨_,rfl⟩
 have x1:Ext G G1:=by rw [hG1]; exact (Ext.refl G).push _
 have o1:G1.obj G.nx=some ⟨rSp.row more,1,false,1⟩:=by rw [hG1]; simp
 have n1:G1.nx=G.nx+1:=by rw [hG1]; rfl
 have t1:=tabs_ext x1 ht hg
 have g1:2≤G1.nx:=Nat.le_trans hg x1.nx
 have ek:=cl_orcT Q orc hkn G1 (hasTab_at Q t1)
 have ep:=pick_ok orc z 4 (by decide) (by decide) G1
 have y1:=Int.emod_nonneg z (show (4:Int)≠0 by decide)
 have y2:=Int.emod_lt_of_pos z (show (0:Int)<4 by decide)
 generalize z % 4=y at *
 obtain ⟨rm,hrm⟩:∃ rm,rm=1+y:=⟨_,rfl⟩
 have hw:IntKind.wrap .i64 (1+y)=rm:=by rw [hrm]; exact wrap64 (by omega) (by omega)
 rw [← hrm] at hM M
 by_cases c1:6<l.length
 ·have c1':(6:Int)<l.length:=by omega
  simp [-rSp_row,s4,Value.cells,← hG1,l1,ek,ep,hw,c1,c1']
 have c1':¬ (6:Int)<l.length:=by omega
 obtain ⟨⟨r,G10⟩,e10,x10,h10⟩:=M.ord G1 v2 l t1 g1 (h2.ext x1) okl hM
 simp only at x10 h10
 obtain ⟨more',hmore⟩:∃ c:Sp,c={ more with to:=-1 }:=⟨_,rfl⟩
 have hto:more'.to= -1:=by rw [hmore]
 have hop:okOp more'.op:=by rw [hmore]; exact okm
 have o10:=(x10.obj G.nx (by omega)).trans o1
 rw [rSp_row] at o10
 obtain ⟨G16,hG16⟩:∃ G16,G16=G10.put G.nx ⟨rSp.row more',1,false,1⟩:=⟨_,rfl⟩
 have o16:G16.obj G.nx=some ⟨rSp.row more',1,false,1⟩:=by rw [hG16]; simp
 have n16:G16.nx=G10.nx:=by rw [hG16]; rfl
 have n10:=x10.nx
 have xg:Ext G G16:=by rw [hG16]; exact (x1.trans x10).put (Nat.le_refl _) _
 obtain ⟨v',G19,e19,x19,n19,w19,b19⟩:=copy_room (h2.ext xg) (by omega)
 have o19:=(x19.obj G.nx (by omega)).trans o16
 obtain ⟨v'',G24,e24,x24,w24⟩:=more_room more' x19 n19 w19 b19 (by omega)
 have hne:¬ G.nx=G16.nx:=by omega
 have ld:loadO 10 0 (some ⟨rSp.row more',1,false,1⟩)=some (.agg ⟨rSp.row more'⟩):=loadO_whole rfl (by decide)
 have hl10:(rSp.row more').length=10:=rfl
 have hsp:splice z29 0 (rSp.row more')=some (rSp.row more'):=rfl
 have hsm:same (.agg ⟨rSp.row more'⟩) (.agg ⟨rSp.row more'⟩)=true:=by simp [same,sameD,sameD.listD]
 have hst:stO 1 2 (.int .i64 (-1)) (some ⟨rSp.row more,1,false,1⟩)=some ⟨rSp.row more',1,false,1⟩:=by rw [hmore]; rfl
 rw [rSp_row more] at hst
 have xw:=xg.trans x24
 have tw:=tabs_ext xw ht hg
 have gw:2≤G24.nx:=Nat.le_trans hg xw.nx
 have okw:∀ c∈l++[more'],okOp c.op:=fun c hc=>(List.mem_append.1 hc).elim (okl c) fun h=>by rw [List.mem_singleton.1 h]; exact hop
 have two:Wp ((E orc).cl 14 [.int .i64 md,.int .i64 rm,v''] G24) fun r=>Ext G24 r.2∧∃ o is x,r.1= .tuple #[o,.bool is,.int .i64 x]∧(x=0→Goes m l [] m.first 0→is=true):=by
  by_cases hm2:MayOk md rm (l++[more'])
  ·refine Wp.mono (M.ord G24 v'' _ tw gw w24.is okw hm2) fun q hq=>?_
   refine ⟨hq.1,?_⟩
   rcases hq.2 with ⟨h,hno⟩ | ⟨o,row,s2,h,_⟩
   ·refine ⟨_,_,_,h,fun _ hgo=>?_⟩
    obtain ⟨row,s2,d2,hw',ho'⟩:=hgo
    exact absurd (goes_more1 hto (by simpa using hw') ho') hno
   ·exact ⟨_,_,_,h,fun _ _=>rfl⟩
  ·refine Wp.mono (order_bad orc w24.is hm2) fun q hq=>?_
   obtain ⟨x,hx,h⟩:=hq.2
   exact ⟨hq.1,_,_,x,h,fun e=>absurd e hx⟩
 obtain ⟨⟨r27,G27⟩,e27,x27,o27,is27,c27,rfl,hi27⟩:=two
 simp only at x27
 generalize hrow:rSp.row more' =rw' at *
 rcases h10 with ⟨rfl,hno⟩ | ⟨outv,row,s2,rfl,hway,hov,hout⟩
 ·simp [-rSp_row,s4,Value.cells,← hG1,l1,ek,ep,hw,c1,c1',e10,pExtract,getN_zero,getN_succ,o10,hst,← hG16,e19,o19,ld,hne,o16,sameO,hsm,hl10,hsp,e24,e27]
 ·have hf:=way_fresh hway
  have hrl:row.length≤l.length:=nd_len _ _ hf.2.1 fun x hx=>(hf.1 x hx).2
  have hgo:Goes m l [] m.first 0:=⟨row,s2,_,by simpa using hway,hov⟩
  have ho16:SlR (rowsI .i64) G16 outv (row.map fun a=>(sp l a).id):=hout.is.kept (by omega) fun g hg=>by
   have:=hout.from hg
   have:¬ g=G.nx:=by omega
   rw [hG16]; simp [this]
  have xA:=xw.trans x27
  have hin:∀ i,i<l.length→0≤(sp l i).to→(sp l i).id∈row.map fun a=>(sp l a).id:=fun i hi h0=>by
   have:=((hf.2.2 i).1 (hov i hi h0)).resolve_left (by simp)
   exact List.mem_map.2 ⟨i,this,rfl⟩
  by_cases hc:c27=0
  ·have:=hi27 hc hgo
   subst this hc
   simp [-rSp_row,s4,Value.cells,← hG1,l1,ek,ep,hw,c1,c1',e10,pExtract,getN_zero,getN_succ,o10,hst,← hG16,e19,o19,ld,hne,o16,sameO,hsm,hl10,hsp,e24,e27]
   refine Wp.bE ((k0_lp orc (h2.ext xA) (by omega) (ho16.ext (x24.trans x27)) (by simp; omega) hin (fun i hi k hk hne hah r1 r2 q1 q2 q0=>wh_ord hway hM.2.2.2.2 hi hk hne hah q1 q2 q0) l.length 0 _ G27 (by omega) (by simp [clip_t]) (by simp [clip_t]) (by simp [clip_t]) (Ext.refl G27)).mono ?_)
   rintro ⟨ee,τ,G51⟩ ⟨q1,q2,q3⟩
   simp only at q1 q2 q3
   subst q1
   have xB:=xA.trans q2
   obtain ⟨⟨r53,G53⟩,e53,rfl,x53⟩:=M.fit G51 v2 outv l row s2 _ (tabs_ext xB ht hg) (Nat.le_trans hg xB.nx) (h2.ext xB) okl hM ((ho16.ext (x24.trans x27)).ext q2) hway hov
   have u0:τ 0= .int .i64 md:=(q3 0 (by decide)).trans (by simp [clip_t])
   have u1:τ 1= .int .i64 rm:=(q3 1 (by decide)).trans (by simp [clip_t])
   have u2:τ 2=v2:=(q3 2 (by decide)).trans (by simp [clip_t])
   have u9:τ 9= .bool true:=(q3 9 (by decide)).trans (by simp [clip_t])
   have u10:τ 10=outv:=(q3 10 (by decide)).trans (by simp [clip_t])
   simp [u0,u1,u2,u9,u10,e53,pExtract,getN_zero,getN_succ]
  ·simp [-rSp_row,s4,Value.cells,← hG1,l1,ek,ep,hw,c1,c1',e10,pExtract,getN_zero,getN_succ,o10,hst,← hG16,e19,o19,ld,hne,o16,sameO,hsm,hl10,hsp,e24,e27,hc]
   refine Wp.bE ((k0_lp orc (h2.ext xA) (by omega) (ho16.ext (x24.trans x27)) (by simp; omega) hin (fun i hi k hk hne hah r1 r2 q1 q2 q0=>wh_ord hway hM.2.2.2.2 hi hk hne hah q1 q2 q0) l.length 0 _ G27 (by omega) (by simp [clip_t]) (by simp [clip_t]) (by simp [clip_t]) (Ext.refl G27)).mono ?_)
   rintro ⟨ee,τ,G51⟩ ⟨q1,q2,q3⟩
   simp only at q1 q2 q3
   subst q1
   have xB:=xA.trans q2
   obtain ⟨⟨r53,G53⟩,e53,rfl,x53⟩:=M.fit G51 v2 outv l row s2 _ (tabs_ext xB ht hg) (Nat.le_trans hg xB.nx) (h2.ext xB) okl hM ((ho16.ext (x24.trans x27)).ext q2) hway hov
   have u0:τ 0= .int .i64 md:=(q3 0 (by decide)).trans (by simp [clip_t])
   have u1:τ 1= .int .i64 rm:=(q3 1 (by decide)).trans (by simp [clip_t])
   have u2:τ 2=v2:=(q3 2 (by decide)).trans (by simp [clip_t])
   have u9:τ 9= .bool true:=(q3 9 (by decide)).trans (by simp [clip_t])
   have u10:τ 10=outv:=(q3 10 (by decide)).trans (by simp [clip_t])
   simp [u0,u1,u2,u9,u10,e53,pExtract,getN_zero,getN_succ]
theorem linearKeeps (orc:FuncId→Bool) (hkn:orc 3=true) (hk:orc 127=false) (hse:orc 43=false) (ht:tabs G=true) (hg:2≤G.nx) (md z:Int) (h2:SlR rSp G v2 l) (okl:∀ c∈l,okOp c.op) (more:Sp) (okm:okOp more.op) :
  Wp ((E orc).cl 4 [.int .i64 md,.int .i64 z,v2,.agg ⟨rSp.row more⟩] G) fun q=>q.1= .bool true:=by
 by_cases hM:MayOk md (1+z % 4) l
 ·have h3:=hM.1
  rcases (show md=1∨md=2∨md=3 by omega) with rfl | rfl | rfl
  ·exact keeps_ok orc hkn ht hg z h2 okl more okm hM (modQ orc _)
  ·exact keeps_ok orc hkn ht hg z h2 okl more okm hM (modH orc hk hse _)
  ·exact keeps_ok orc hkn ht hg z h2 okl more okm hM (modP orc _)
 ·refine Wp.ref (f4 (exL_ok Q orc) _ _ _ _ G) ?_
  obtain ⟨va,vc,ev⟩:=h2.len
  have l1:∀ x,ln Q true x v2=some (.int .i64 l.length):=fun x=>by rw [ev]; simp
  obtain ⟨G1,hG1⟩:∃ G1,G1=G.push ⟨rSp.row more,1,false,1⟩:=⟨_,rfl⟩
  have x1:Ext G G1:=by rw [hG1]; exact (Ext.refl G).push _
  have t1:=tabs_ext x1 ht hg
  have ek:=cl_orcT Q orc hkn G1 (hasTab_at Q t1)
  have ep:=pick_ok orc z 4 (by decide) (by decide) G1
  have y1:=Int.emod_nonneg z (show (4:Int)≠0 by decide)
  have y2:=Int.emod_lt_of_pos z (show (0:Int)<4 by decide)
  generalize z % 4=y at *
  obtain ⟨rm,hrm⟩:∃ rm,rm=1+y:=⟨_,rfl⟩
  have hw:IntKind.wrap .i64 (1+y)=rm:=by rw [hrm]; exact wrap64 (by omega) (by omega)
  rw [← hrm] at hM
  by_cases c1:6<l.length
  ·have c1':(6:Int)<l.length:=by omega
   simp [-rSp_row,s4,Value.cells,← hG1,l1,ek,ep,hw,c1,c1']
  have c1':¬ (6:Int)<l.length:=by omega
  obtain ⟨⟨r,G10⟩,e10,x10,x,hx,rfl⟩:=order_bad orc (h2.ext x1) hM
  simp [-rSp_row,s4,Value.cells,← hG1,l1,ek,ep,hw,c1,c1',e10,pExtract,getN_zero,getN_succ,hx]
end
end Go.Proofs.YtlaojmcekeohnaaGreatDoor.Lift
