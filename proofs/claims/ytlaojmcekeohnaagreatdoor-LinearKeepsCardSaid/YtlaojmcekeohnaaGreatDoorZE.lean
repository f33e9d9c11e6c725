import Derived.Test.YtlaojmcekeohnaaGreatDoorZA
import Derived.Test.YtlaojmcekeohnaaGreatDoorZC
import Derived.Test.YtlaojmcekeohnaaGreatDoorZB
import Derived.Test.YtlaojmcekeohnaaGreatDoorZH
set_option linter.unusedVariables false
set_option linter.unusedSimpArgs false
set_option maxRecDepth 20000
namespace Go.Proofs.YtlaojmcekeohnaaGreatDoor.Lift
open Go Go.Proofs.YtlaojmcekeohnaaGreatDoor.Gh Go.Proofs
abbrev V1:={v:Value // one v=true}
def eV1:RowE V1:=⟨1,fun x=>[x.1],fun _=>rfl,fun x=>by simp [x.2],by decide⟩
@[simp] theorem eV1_sz:eV1.sz=1:=rfl
@[simp] theorem eV1_row (x:V1):eV1.row x=[x.1]:=rfl
theorem slr_one {α:Type} {e:RowE α} {G:GS} {v:Value} {L:List α} (h:SlR e G v L):one v=true:=by
 obtain ⟨a,c,rfl⟩:=h.len; rfl
theorem ld_part {α:Type} {e:RowE α} {G:GS} {v:Value} {L:List α} (h:SlR e G v L) {i:Nat} (hi:i<L.length) (f s:Nat) (hf:f+(s+1)≤e.sz):∃ b o c,v= .slice (some ⟨b,o,none⟩) L.length c∧loadA (s+1) b (o+i*e.sz+f) G=some (.agg ⟨((e.row L[i]).drop f).take (s+1)⟩):=by
 obtain ⟨b,o,c,h1,h2,h3,_⟩:=h.at hi
 refine ⟨b,o,c,h1,?_⟩
 have hl:=e.len L[i]
 cases ho:G.obj b with
 | none =>
  have:=h3 0 e.pos
  rw [List.getElem?_eq_getElem (by rw [hl]; exact e.pos)] at this
  simp [GS.cell,ho] at this
 | some ob =>
  obtain ⟨cs,ez,op,m⟩:=ob
  have hm:m≠2:=by
   rintro rfl
   have:=h3 0 e.pos
   rw [List.getElem?_eq_getElem (by rw [hl]; exact e.pos)] at this
   simp [GS.cell,ho] at this
  have hc:∀ f,f<e.sz→cs[o+i*e.sz+f]? =(e.row L[i])[f]?:=fun f hf=>by rw [← h3 f hf]; exact (cell_of ho hm _).symm
  have hl2:o+i*e.sz+f+(s+1)≤cs.length:=by
   have:=hc (f+s) (by omega)
   rw [List.getElem?_eq_getElem (l:=e.row L[i]) (by rw [hl]; omega)] at this
   have:=(List.getElem?_eq_some_iff.1 this).1
   omega
  rw [loadA_cells ho hm hl2]
  congr 3
  apply List.ext_getElem?
  intro k
  rw [List.getElem?_take,List.getElem?_take,List.getElem?_drop,List.getElem?_drop]
  split
  ·rw [show o+i*e.sz+f+k=o+i*e.sz+(f+k) by omega]; exact hc (f+k) (by omega)
  ·rfl
def Kep (L:List Nat) (τ τ':Env):Prop:=∀ j∈L,τ' j=τ j
theorem Kep.trans {L:List Nat} {τ τ' τ'':Env} (h:Kep L τ τ') (k:Kep L τ' τ''):Kep L τ τ'':=fun j hj=>(k j hj).trans (h j hj)
structure MoF {α:Type} (e:RowE α) (inv:List α→Prop) (tx:List α→ByteArray) (A:GS) (lv:Nat) (G:GS) (mv:Value) (M:List (V1×List α)):Prop where
 nil:M=[]→mv= .slice none 0 0
 own:∃ n,A.nx≤n∧OwR eV1 n G mv (M.map (·.1))∧∀ p∈M,SlLt n p.1.1
 st:∀ p∈M,SlR e G p.1.1 p.2∧inv p.2
 es:∃ es,G.loop lv=some (mpL es)∧GoodE gStr gInt es∧∀ x,(∃ q∈es,q.1= .string x)↔∃ p∈M,tx p.2=x
section
variable {α:Type} {e:RowE α} {inv:List α→Prop} {tx:List α→ByteArray} {A:GS} {lv:Nat} {G G':GS} {mv:Value} {M:List (V1×List α)}
theorem MoF.ext (h:MoF e inv tx A lv G mv M) (x:Ext G G') (hl:lv<G.nl):MoF e inv tx A lv G' mv M:=by
 obtain ⟨n,h1,h2,h3⟩:=h.own
 obtain ⟨es,k1,k2⟩:=h.es
 exact ⟨h.nil,⟨n,h1,h2.ext x,h3⟩,fun p hp=>⟨(h.st p hp).1.ext x,(h.st p hp).2⟩,es,(x.loop _ hl).trans k1,k2⟩
theorem MoF.start (e:RowE α) (inv:List α→Prop) (tx:List α→ByteArray) (A G:GS) {lv:Nat} (h:G.loop lv=some (mpL [])):MoF e inv tx A lv G (.slice none 0 0) [] :=
 ⟨fun _=>rfl,⟨A.nx,Nat.le_refl _,OwR.nil _ _,fun p hp=>(by cases hp)⟩,fun p hp=>(by cases hp),[],h,fun x hx=>(by cases hx),fun x=>by simp⟩
theorem MoF.len (h:MoF e inv tx A lv G mv M):∃ a c,mv= .slice a M.length c:=by
 obtain ⟨n,_,h2,_⟩:=h.own
 have:=h2.is.len
 rwa [List.length_map] at this
theorem MoF.add {G0:GS} (hk:Kp lv A G0) (x0:Ext G0 G) (h:MoF e inv tx A lv G0 mv M) (hl:lv<G0.nl) {v':Value} {s':List α} (hv:OwR e G0.nx G v' s') (hi:inv s') {es:List (Value×Value)} (hes:G.loop lv=some (mpL es)) (hge:GoodE gStr gInt es) (hmem:∀ x,(∃ q∈es,q.1= .string x)↔∃ p∈M,tx p.2=x) (hlen:M.length≤2000000) (w:Value) (hw:gInt w) :
  ∃ mv' G',appK 1 24 mv (.slice (some ⟨G.nx,0,none⟩) 1 1) (((G.putLoop lv (mpL (es++[(.string (tx s'),w)]))).push ⟨[v'],1,false,1⟩))=some (mv',G')∧Kp lv A G' ∧MoF e inv tx A lv G' mv' (M++[(⟨v',slr_one hv.is⟩,s')])∧(∀ (av:Value) (L:List An3),L≠[]→SlR eAn G av L→SlR eAn G' av L)∧G.nl≤G'.nl:=by
 have hG:=h.ext x0 hl
 obtain ⟨n,h1,h2,h3⟩:=hG.own
 obtain ⟨P,hP⟩:∃ P,P=G.putLoop lv (mpL (es++[(.string (tx s'),w)])):=⟨_,rfl⟩
 have kP:Kp lv G P:=by rw [hP]; exact Kp.put _ _
 have lP:P.loop lv=some (mpL (es++[(.string (tx s'),w)])):=by rw [hP,GS.loop_put,if_pos rfl]
 have nP:P.nx=G.nx:=by rw [hP]; rfl
 rw [← hP,← nP]
 obtain ⟨R,hR⟩:∃ R,R=P.push ⟨[v'],1,false,1⟩:=⟨_,rfl⟩
 have xR:Ext P R:=by rw [hR]; exact (Ext.refl P).push _
 have kR:Kp lv G R:=kP.trans (Kp.ext xR)
 have sx:SlR eV1 R (.slice (some ⟨P.nx,0,none⟩) 1 1) [(⟨v',slr_one hv.is⟩:V1)]:=by rw [hR]; exact SlR.one eV1 P (⟨v',slr_one hv.is⟩:V1)
 have o2:OwR eV1 n R mv (M.map (·.1)):=h2.same kR.nx fun a k c he=>kR.obj _ (h2.is.lt a k c he)
 obtain ⟨mv',G',a1,a2,a3⟩:=OwR.app_mod (ib:=24) o2 (by decide) sx (by simp) (by simp; omega)
 rw [eV1_sz,hR] at a1
 have below:∀ g,InB mv g→n≤g:=fun g hg=>h2.from hg
 have keep:∀ (β:Type) (f:RowE β) (v:Value) (L:List β),SlR f G v L→(∀ g,InB v g→¬ InB mv g)→SlR f G' v L:=fun β f v L hs hd =>
  (slrKp hs kR).kept a2.nx fun g hg=>a2.obj g (by obtain ⟨a,k,c,he,rfl⟩:=hg; exact (slrKp hs kR).lt a k c he) (hd g hg)
 have kp:Kp lv A R:=(hk.trans (Kp.ext x0)).trans kR
 refine ⟨mv',G',a1,⟨Nat.le_trans kp.nx a2.nx,fun g hg=>(a2.obj g (Nat.lt_of_lt_of_le hg kp.nx) fun hb=>by have:=below g hb; omega).trans (kp.obj g hg),Nat.le_trans kp.nl a2.nl,fun k hk' hn=>(a2.loop k (Nat.lt_of_lt_of_le hk' kp.nl)).trans (kp.loop k hk' hn)⟩,⟨fun h=>by simp at h,⟨R.nx,by have:=kp.nx; omega,by rw [List.map_append]; exact a3,fun p hp=>?_⟩,fun p hp=>?_,es++[(.string (tx s'),w)],?_,fun q hq=>?_,fun x=>?_⟩,fun av L hne hs=>?_,Nat.le_trans kR.nl a2.nl⟩
 ·rcases List.mem_append.1 hp with hp | hp
  ·exact (slrKp (hG.st p hp).1 kR).lt
  ·rw [List.mem_singleton.1 hp]; exact (slrKp hv.is kR).lt
 ·rcases List.mem_append.1 hp with hp | hp
  ·refine ⟨keep _ e _ _ (hG.st p hp).1 fun g hg hb=>?_,(hG.st p hp).2⟩
   obtain ⟨a,k,c,he,rfl⟩:=hg
   have:=h3 p hp a k c he
   have:=below _ hb
   omega
  ·rw [List.mem_singleton.1 hp]
   refine ⟨keep _ e _ _ hv.is fun g hg hb=>?_,hi⟩
   have q1:=hv.from hg
   obtain ⟨n',_,k2,_⟩:=h.own
   obtain ⟨a,k,c,he,rfl⟩:=hb
   have:=k2.is.lt a k c he
   omega
 ·rw [a2.loop _ (by have:=kR.nl; have:=x0.nl; omega),xR.loop _ (by have:=kP.nl; have:=x0.nl; omega)]; exact lP
 ·rcases List.mem_append.1 hq with hq | hq
  ·exact hge q hq
  ·rw [List.mem_singleton.1 hq]; exact ⟨⟨_,rfl⟩,hw⟩
 ·constructor
  ·rintro ⟨q,hq,hx⟩
   rcases List.mem_append.1 hq with hq | hq
   ·obtain ⟨p,hp,hpx⟩:=(hmem x).1 ⟨q,hq,hx⟩
    exact ⟨p,List.mem_append_left _ hp,hpx⟩
   ·rw [List.mem_singleton.1 hq] at hx
    exact ⟨_,List.mem_append_right _ (List.mem_singleton.2 rfl),by simpa using hx⟩
  ·rintro ⟨p,hp,hx⟩
   rcases List.mem_append.1 hp with hp | hp
   ·obtain ⟨q,hq,hqx⟩:=(hmem x).2 ⟨p,hp,hx⟩
    exact ⟨q,List.mem_append_left _ hq,hqx⟩
   ·rw [List.mem_singleton.1 hp] at hx
    exact ⟨_,List.mem_append_right _ (List.mem_singleton.2 rfl),by simpa using hx⟩
 ·refine keep _ eAn _ _ hs fun g hg hb=>?_
  obtain ⟨b,o,c,e1,_,f1,_⟩:=hs.at (i:=0) (List.length_pos_iff.2 hne)
  obtain ⟨a,k,c',e2,rfl⟩:=hg
  rw [e1] at e2
  simp only [Value.slice.injEq,Option.some.injEq] at e2
  obtain ⟨rfl,_,_⟩:=e2
  obtain ⟨a2',k2,c2,e3,hbb⟩:=hb
  have f0:=f1 0 (by decide)
  rcases h2.2 with ⟨q1,_⟩ | ⟨b',op,q1,_,_,q4⟩
  ·rw [q1] at e3; cases e3
  ·rw [q1] at e3
   simp only [Value.slice.injEq,Option.some.injEq] at e3
   obtain ⟨rfl,_,_⟩:=e3
   simp only at hbb
   subst hbb
   rw [cell_of q4 (by simp)] at f0
   have hm:=List.mem_of_getElem? (f0.trans rfl)
   obtain ⟨r,hr,hin⟩:=List.mem_flatten.1 hm
   obtain ⟨x,hx,rfl⟩:=List.mem_map.1 hr
   obtain ⟨p,hp,rfl⟩:=List.mem_map.1 hx
   obtain ⟨_,_,hl3⟩:=(hG.st p hp).1.len
   rw [eV1_row,List.mem_singleton,hl3] at hin
   cases hin
def Fnd (e:RowE α) (m:Mac α) (inv:List α→Prop) (tx:List α→ByteArray) (A:GS) (lv:Nat) (G:GS) (mv:Value) (M:List (V1×List α)) (k:Nat) (s:List α) (op:Op4) (L:List An3):Prop :=
 ∃ M',MoF e inv tx A lv G mv (M++M')∧M'.length≤k∧∀ an∈L,∀ s1,m.next s op an=some s1→∃ p∈M++M',p.2=s1
theorem Fnd.zero {m:Mac α} {s:List α} {op:Op4} (h:MoF e inv tx A lv G mv M):Fnd e m inv tx A lv G mv M 0 s op []:=⟨[],by simpa using h,Nat.le_refl _,fun an h=>(by cases h)⟩
theorem Fnd.skip {m:Mac α} {s:List α} {op:Op4} {k:Nat} {an:An3} {L:List An3} (h:Fnd e m inv tx A lv G mv M k s op L) (hn:∀ s1,m.next s op an=some s1→∃ p∈M,p.2=s1):Fnd e m inv tx A lv G mv M (k+1) s op (an::L):=by
 obtain ⟨M',h1,h2,h3⟩:=h
 refine ⟨M',h1,by omega,fun x hx s1 hs=>?_⟩
 rcases List.mem_cons.1 hx with rfl | hx
 ·obtain ⟨p,hp,e⟩:=hn s1 hs
  exact ⟨p,List.mem_append_left _ hp,e⟩
 ·exact h3 x hx s1 hs
theorem Fnd.more {m:Mac α} {s s':List α} {op:Op4} {k:Nat} {an:An3} {L:List An3} {v:V1} (h:Fnd e m inv tx A lv G mv (M++[(v,s')]) k s op L) (hn:m.next s op an=some s'):Fnd e m inv tx A lv G mv M (k+1) s op (an::L):=by
 obtain ⟨M',h1,h2,h3⟩:=h
 refine ⟨(v,s')::M',by simpa using h1,by simp; omega,fun x hx s1 hs=>?_⟩
 rcases List.mem_cons.1 hx with rfl | hx
 ·rw [hn] at hs; cases hs
  exact ⟨(v,s'),by simp,rfl⟩
 ·obtain ⟨p,hp,e⟩:=h3 x hx s1 hs
  exact ⟨p,by simpa using hp,e⟩
def FndS (e:RowE α) (m:Mac α) (inv:List α→Prop) (tx:List α→ByteArray) (A:GS) (lv:Nat) (G:GS) (mv:Value) (M:List (V1×List α)) (k:Nat) (c:Sp) (P:List (V1×List α)):Prop :=
 ∃ M',MoF e inv tx A lv G mv (M++M')∧M'.length≤k∧∀ p∈P,∀ an∈toldP m p.2 c,∀ s1,m.next p.2 c.op an=some s1→∃ p∈M++M',p.2=s1
theorem FndS.zero {m:Mac α} {c:Sp} {k:Nat} (h:MoF e inv tx A lv G mv M):FndS e m inv tx A lv G mv M k c []:=⟨[],by simpa using h,Nat.zero_le _,fun an h=>(by cases h)⟩
theorem FndS.more {m:Mac α} {c:Sp} {k w:Nat} {M1 P:List (V1×List α)} {v:V1} {s:List α} (h1:∀ an∈toldP m s c,∀ s1,m.next s c.op an=some s1→∃ p∈M++M1,p.2=s1) (hl:M1.length≤w) (h:FndS e m inv tx A lv G mv (M++M1) (k*w) c P):FndS e m inv tx A lv G mv M ((k+1)*w) c ((v,s)::P):=by
 obtain ⟨M',k1,k2,k3⟩:=h
 refine ⟨M1++M',by rw [← List.append_assoc]; exact k1,by rw [List.length_append,Nat.add_mul]; omega,fun p hp an han s1 hs=>?_⟩
 rw [← List.append_assoc]
 rcases List.mem_cons.1 hp with rfl | hp
 ·obtain ⟨q,hq,e⟩:=h1 an han s1 hs
  exact ⟨q,List.mem_append_left _ hq,e⟩
 ·exact k3 p hp an han s1 hs
end
theorem way_nc {α:Type} {m:Mac α} {l:List Sp} {s s2:List α} {d d2:Nat} {row:List Nat} (h:Way m l s d row s2 d2):∀ (p q:Nat) (hpq:p<q) (hq:q<row.length),ahead (sp l row[q]) (sp l (row[p]'(by omega)))=false:=by
 induction h with
 | nil=>intro p q _ hq; simp at hq
 | @cons s d a an s1 r s2 d2 h1 h2 h3 h4 h5 ih =>
  intro p q hpq hq
  obtain ⟨q,rfl⟩:∃ q',q=q' +1:=⟨q - 1,by omega⟩
  cases p with
  | zero =>
   have hf:=way_fresh (Way.cons h1 h2 h3 h4 h5)
   simp only [List.length_cons] at hq
   have hm:r[q]∈r:=List.getElem_mem (by omega)
   simp only [List.getElem_cons_succ,List.getElem_cons_zero]
   refine h2.2 _ ((hf.1 _ (List.mem_cons_of_mem _ hm)).2) (fun e=>?_) (hf.1 _ (List.mem_cons_of_mem _ hm)).1
   have:=(List.nodup_cons.1 hf.2.1).1
   rw [e] at hm
   exact this hm
  | succ p =>
   simp only [List.getElem_cons_succ]
   exact ih p q (by omega) (by simpa using hq)
def Bd:Nat→List Nat→Prop
 | n,[]=>n≤2000000
 | n,w::ws=>n≤2000000∧Bd (n*w) ws
theorem Bd.le:∀ {n:Nat} {ws:List Nat},Bd n ws→n≤2000000
 | _,[],h=>h
 | _,_::_,h=>h.1
def StsF {α:Type} (e:RowE α) (inv:List α→Prop) (G:GS) (v:Value) (s:List α) (n:Nat):Prop :=
 ∃ P:List (V1×List α),SlR eV1 G v (P.map (·.1))∧(∀ p∈P,SlR e G p.1.1 p.2∧inv p.2)∧P.length≤n∧∃ p∈P,p.2=s
section
variable {α:Type} {orc:FuncId→Bool} {e:RowE α} {m:Mac α} {inv:List α→Prop} {tx:List α→ByteArray} {B A:GS} {fv nv uv tv lV rowv:Value} {l:List Sp} {p3 lv:Nat}
theorem fwait_Q (orc:FuncId→Bool) (hs:SlR rSp A lV l) (hlen:l.length≤50) {d a:Nat} (hd:d<2 ^ 60) (ha:a<l.length) (hn:∀ i,i<l.length→d.testBit i=true→ahead (sp l a) (sp l i)=false):∀ (k i:Nat) (τ:Env) (G:GS),i+k=l.length→τ 1=lV→τ 8= .int .i64 (d:Int)→τ 10= .int .i64 (a:Int)→τ 32= .int .i64 l.length→τ 33= .int .i64 (i:Int)→Ext A G →
  Wp ((exL Q orc).lpx 47 1 τ G) fun q=>q.1= .exit 2∧Ext A q.2.2∧Kep [1,3,7,8,10,25,26,27] τ q.2.1:=by
 intro k
 induction k with
 | zero =>
  intro i τ G hi t1 t8 t10 t32 t33 hA
  have hi':i=l.length:=by omega
  subst hi'
  refine Wp.lp (l47_1 (exL_ok Q orc)) ?_
  simp [b47_1,clip_t,t1,t8,t10,t32,t33,hA,Kep]
 | succ k ih =>
  intro i τ G hi t1 t8 t10 t32 t33 hA
  have hlt:i<l.length:=by omega
  have hw:IntKind.wrap .i64 ((i:Int)+1)=((i+1:Nat):Int):=wrap64 (by omega) (by omega)
  have h1:(i:Int)<l.length:=by omega
  have h2:(0:Int)≤i:=by omega
  have h3:¬ ((i:Int)<0):=by omega
  have k1:(a:Int)<l.length:=by omega
  have k2:(0:Int)≤a:=by omega
  obtain ⟨b,o,c,e0,hbG,_,hz⟩:=(hs.ext hA).at hlt
  obtain ⟨b',o',c',e0',_,_,hy⟩:=(hs.ext hA).at ha
  have e1:=e0.symm.trans e0'
  simp only [Value.slice.injEq,Option.some.injEq,Addr.mk.injEq,and_true,true_and] at e1
  obtain ⟨⟨rfl,rfl⟩,rfl⟩:=e1
  have hb:=and1 hd (show i<60 by omega)
  have hsp:=sp_at hlt
  have hspa:=sp_at ha
  rw [rSp_sz] at hz hy
  rw [← hsp,loadA_eq] at hz
  rw [← hspa,loadA_eq] at hy
  generalize hri:rSp.row (sp l i)=ri at *
  generalize hra:rSp.row (sp l a)=ra at *
  have next:∀ (τ':Env) (G':GS),τ' 1=lV→τ' 8= .int .i64 (d:Int)→τ' 10= .int .i64 (a:Int)→τ' 32= .int .i64 l.length→τ' 33= .int .i64 ((i+1:Nat):Int)→Ext A G' →Kep [1,3,7,8,10,25,26,27] τ τ' →
    Wp ((exL Q orc).lpx 47 1 τ' G') fun q=>q.1= .exit 2∧Ext A q.2.2∧Kep [1,3,7,8,10,25,26,27] τ q.2.1:=by
   intro τ' G' s1 s8 s10 s32 s33 hE hk
   refine Wp.mono (ih (i+1) τ' G' (by omega) s1 s8 s10 s32 s33 hE) fun q hq=>?_
   exact ⟨hq.1,hq.2.1,hk.trans hq.2.2⟩
  refine Wp.lp (l47_1 (exL_ok Q orc)) ?_
  cases hbit:d.testBit i with
  | false =>
   rw [hbit] at hb
   simp [-Int.natCast_add,b47_1,clip_t,t1,t8,t10,t32,t33,e0,h1,h2,h3,hlt,hw,hb]
   exact next _ _ (by simp [clip_t,e0]) (by simp [clip_t]) (by simp [clip_t]) (by simp [clip_t]) (by simp [clip_t]) (hA.room 16) (by simp [Kep,clip_t,t1,t8,t10,e0])
  | true =>
   rw [hbit] at hb
   obtain ⟨⟨r,G'⟩,e5,rfl,x5⟩:=ahead_ok orc (sp l a) (sp l i) (G.room 16)
   rw [hri,hra,hn i hlt hbit] at e5
   simp only at e5 x5
   simp [-Int.natCast_add,b47_1,clip_t,t1,t8,t10,t32,t33,e0,h1,h2,h3,hlt,hw,hb,k1,k2,hz,hy,e5]
   exact next _ _ (by simp [clip_t,e0]) (by simp [clip_t]) (by simp [clip_t]) (by simp [clip_t]) (by simp [clip_t]) ((hA.room 16).trans x5) (by simp [Kep,clip_t,t1,t8,t10,e0])
end
section
variable {α:Type} {orc:FuncId→Bool} {e:RowE α} {m:Mac α} {inv:List α→Prop} {tx:List α→ByteArray} {B A:GS} {fv nv uv tv lV:Value} {l:List Sp} {p3 lv:Nat}
theorem fans_Q (hm:MacC orc e m inv tx B fv nv uv tv) (hB:Ext B A) (hBl:B.nl≤lv) (c3:A.obj p3=some ⟨[fv,nv,uv,tv],1,false,1⟩) (h3:p3<A.nx) (hl:SlR rSp A lV l) {a:Nat} (ha:a<l.length) (okl:okOp (sp l a).op) {sv:Value} {s:List α} (hs:SlR e A sv s) (hi:inv s) {av:Value} {L:List An3} (hL:L.length≤2000000) :
  ∀ (k j:Nat) (τ:Env) (G:GS) (mv:Value) (M:List (V1×List α)),j+k=L.length→τ 1=lV→τ 3=Pp p3→τ 10= .int .i64 (a:Int)→τ 12=mv→τ 13= .map (some lv)→τ 15=sv→τ 66=av→τ 67= .int .i64 L.length→τ 68= .int .i64 (j:Int)→Kp lv A G→lv<G.nl→SlR eAn G av L→MoF e inv tx A lv G mv M→M.length+k≤2000000 →
  Wp ((exL Q orc).lpx 47 3 τ G) fun q=>q.1= .exit 6∧Kp lv A q.2.2∧lv<q.2.2.nl∧Fnd e m inv tx A lv q.2.2 (q.2.1 12) M k s (sp l a).op (L.drop j)∧Kep [1,3,8,10,13,25,26,27,54,55,56] τ q.2.1:=by
 intro k
 induction k with
 | zero =>
  intro j τ G mv M hj t1 t3 t10 t12 t13 t15 t66 t67 t68 hK hlv hav hM hc
  have hj':j=L.length:=by omega
  subst hj'
  refine Wp.lp (l47_3 (exL_ok Q orc)) ?_
  simp [b47_3,clip_t,t1,t3,t10,t12,t13,t15,t66,t67,t68,-List.drop_length]
  exact ⟨hK,hlv,by rw [List.drop_length]; exact Fnd.zero hM,by simp [Kep,clip_t,t1,t3,t10,t13]⟩
 | succ k ih =>
  intro j τ G mv M hj t1 t3 t10 t12 t13 t15 t66 t67 t68 hK hlv hav hM hc
  have hlt:j<L.length:=by omega
  have hw:IntKind.wrap .i64 ((j:Int)+1)=((j+1:Nat):Int):=wrap64 (by omega) (by omega)
  have h1:(j:Int)<L.length:=by omega
  have h2:(0:Int)≤j:=by omega
  have k1:(a:Int)<l.length:=by omega
  have k2:(0:Int)≤a:=by omega
  obtain ⟨b,o,c,e0,hbG,_,hz⟩:=hav.at hlt
  rw [eAn_sz,loadA_eq] at hz
  rw [List.drop_eq_getElem_cons hlt]
  have hne:L≠[]:=by rintro rfl; simp at hlt
  generalize L[j]=an at *
  obtain ⟨b',o',c',e1,hb'⟩:=ld_part (slrKp hl hK) ha 3 3 (by decide)
  obtain ⟨_,_,_,e1',hbl,_⟩:=(slrKp hl hK).at ha
  rw [e1] at e1'
  simp only [Value.slice.injEq,Option.some.injEq,Addr.mk.injEq,and_true,true_and] at e1'
  obtain ⟨⟨rfl,rfl⟩,rfl⟩:=e1'
  rw [← sp_at ha,rSp_sz,loadA_eq,show ((rSp.row (sp l a)).drop 3).take 4=rowOp (sp l a).op from rfl] at hb'
  have hst:stO 3 0 (.agg ⟨eAn.row an⟩) (some ⟨z27,1,false,1⟩)=some ⟨eAn.row an,1,false,1⟩:=rfl
  have hld:loadO 3 0 (some ⟨eAn.row an,1,false,1⟩)=some (.agg ⟨eAn.row an⟩):=loadO_whole rfl (by decide)
  have hE:Ext G (((G.push ⟨z27,1,false,1⟩).put G.nx ⟨eAn.row an,1,false,1⟩).room 15):=(((Ext.refl G).push _).put (Nat.le_refl _) _).room 15
  have o3:G.obj p3=some ⟨[fv,nv,uv,tv],1,false,1⟩:=(hK.obj _ h3).trans c3
  have o5:(((G.push ⟨z27,1,false,1⟩).put G.nx ⟨eAn.row an,1,false,1⟩).room 15).obj p3=some ⟨[fv,nv,uv,tv],1,false,1⟩:=(hE.obj _ (by have:=hK.nx; omega)).trans o3
  have hb5:(((G.push ⟨z27,1,false,1⟩).put G.nx ⟨eAn.row an,1,false,1⟩).room 15).obj b' =G.obj b':=hE.obj _ hbl
  obtain ⟨⟨r,G12⟩,e5,x5,v',hr5⟩:=hm.next _ sv s (sp l a).op an ((extKp hB hBl hK).trans hE) ((slrKp hs hK).ext hE) hi okl
  simp only at x5 hr5
  have xG:=hE.trans x5
  have hK12:Kp lv A G12:=hK.trans (Kp.ext xG)
  have hM0:=hM.ext hE hlv
  have o12:G12.obj p3=some ⟨[fv,nv,uv,tv],1,false,1⟩:=(hK12.obj _ h3).trans c3
  have l12:lv<G12.nl:=Nat.lt_of_lt_of_le hlv xG.nl
  have next:∀ (τ':Env) (G':GS) (mv':Value) (M1:List (V1×List α)),τ' 1=lV→τ' 3=Pp p3→τ' 10= .int .i64 (a:Int)→τ' 12=mv' →τ' 13= .map (some lv)→τ' 15=sv→τ' 66=av→τ' 67= .int .i64 L.length→τ' 68= .int .i64 ((j+1:Nat):Int)→Kp lv A G' →lv<G'.nl→SlR eAn G' av L→MoF e inv tx A lv G' mv' M1→M1.length+k≤2000000→Kep [1,3,8,10,13,25,26,27,54,55,56] τ τ' →(∀ G2 mv2,Fnd e m inv tx A lv G2 mv2 M1 k s (sp l a).op (L.drop (j+1))→Fnd e m inv tx A lv G2 mv2 M (k+1) s (sp l a).op (an::L.drop (j+1))) →
    Wp ((exL Q orc).lpx 47 3 τ' G') fun q=>q.1= .exit 6∧Kp lv A q.2.2∧lv<q.2.2.nl∧Fnd e m inv tx A lv q.2.2 (q.2.1 12) M (k+1) s (sp l a).op (an::L.drop (j+1))∧Kep [1,3,8,10,13,25,26,27,54,55,56] τ q.2.1:=by
   intro τ' G' mv' M1 s1 s3 s10 s12 s13 s15 s66 s67 s68 q1 q2 q3 q4 q5 q6 q7
   refine Wp.mono (ih (j+1) τ' G' mv' M1 (by omega) s1 s3 s10 s12 s13 s15 s66 s67 s68 q1 q2 q3 q4 q5) fun q hq=>?_
   exact ⟨hq.1,hq.2.1,hq.2.2.1,q7 _ _ hq.2.2.2.1,q6.trans hq.2.2.2.2⟩
  generalize hop:(sp l a).op=op at *
  generalize hG5:((G.push ⟨z27,1,false,1⟩).put G.nx ⟨eAn.row an,1,false,1⟩).room 15=G5 at *
  refine Wp.lp (l47_3 (exL_ok Q orc)) ?_
  rcases hr5 with ⟨rfl,s',hn,hi',hsl⟩ | ⟨rfl,hn⟩
  ·obtain ⟨⟨tr,G12'⟩,e6,h61,h62⟩:=hm.text G12 v' s' (extKp hB hBl hK12) hsl.is hi'
   simp only at h61 h62
   subst h61 h62
   obtain ⟨es,hes,hge,hmem⟩:=hM.es
   have hes12:G12'.loop lv=some (mpL es):=(xG.loop _ hlv).trans hes
   have hu:Q.underlying 190=some (.map 9 3):=Tryz.underlying190
   by_cases hit:∃ p∈M,tx p.2=tx s'
   ·obtain ⟨v2,e7,_⟩:=look_hit keyStr hu hes12 hge ⟨_,rfl⟩ ((hmem _).2 hit)
    simp [-Int.natCast_add,-cValue_func,-eAn_row,b47_3,clip_t,t1,t3,t10,t12,t13,t15,t66,t67,t68,e0,h1,h2,hlt,hz,hst,hld,hG5,o5,hb5,e1,k1,k2,ha,hb',e5,pExtract,getN_zero,getN_succ,o12,e6,e7,hw]
    exact next _ _ mv M (by simp [clip_t,e1]) (by simp [clip_t]) (by simp [clip_t]) (by simp [clip_t]) (by simp [clip_t]) (by simp [clip_t]) (by simp [clip_t,e0]) (by simp [clip_t]) (by simp [clip_t]) hK12 l12 (hav.ext xG) (hM.ext xG hlv) (by omega) (by simp [Kep,clip_t,t1,t3,t10,t13,e1]) fun G2 mv2 hf=>hf.skip fun s1 hs1=>by
     rw [hn] at hs1; cases hs1
     obtain ⟨p,hp,he⟩:=hit
     exact ⟨p,hp,hm.inj _ _ (hM.st p hp).2 hi' he⟩
   ·obtain ⟨ma,mc,hmv⟩:=hM.len
    have hmiss:∀ q∈es,q.1≠ .string (tx s'):=fun q hq h=>hit ((hmem _).1 ⟨q,hq,h⟩)
    have e7:=look_miss (z:=.int .i64 0) keyStr hu (by kernel_rfl) ⟨_,rfl⟩ hes12 hge ⟨_,rfl⟩ hmiss
    have e8:=map_put (v:=.int .i64 (M.length:Int)) keyStr hu hes12 hge ⟨_,rfl⟩ ⟨_,rfl⟩ hmiss
    obtain ⟨mv',G',e9,k9,m9,a9,n9⟩:=MoF.add (hK.trans (Kp.ext hE)) x5 hM0 (Nat.lt_of_lt_of_le hlv hE.nl) hsl hi' hes12 hge hmem (by omega) (.int .i64 (M.length:Int)) ⟨_,rfl⟩
    obtain ⟨va,vc,hva⟩:=hsl.is.len
    subst hva
    have lm:∀ x,ln Q true x mv=some (.int .i64 M.length):=fun x=>by rw [hmv]; simp
    simp [-Int.natCast_add,-cValue_func,-eAn_row,b47_3,clip_t,t1,t3,t10,t12,t13,t15,t66,t67,t68,e0,h1,h2,hlt,hz,hst,hld,hG5,o5,hb5,e1,k1,k2,ha,hb',e5,pExtract,getN_zero,getN_succ,o12,e6,e7,e8,hw,lm,e9]
    have l9:lv<G'.nl:=by
     obtain ⟨es9,q,_⟩:=m9.es
     exact Nat.lt_of_lt_of_le l12 n9
    exact next _ _ mv' _ (by simp [clip_t,e1]) (by simp [clip_t]) (by simp [clip_t]) (by simp [clip_t]) (by simp [clip_t]) (by simp [clip_t]) (by simp [clip_t,e0]) (by simp [clip_t]) (by simp [clip_t]) k9 l9 (a9 _ _ hne (hav.ext xG)) m9 (by simp; omega) (by simp [Kep,clip_t,t1,t3,t10,t13,e1]) fun G2 mv2 hf=>hf.more hn
  ·simp [-Int.natCast_add,-cValue_func,-eAn_row,b47_3,clip_t,t1,t3,t10,t12,t13,t15,t66,t67,t68,e0,h1,h2,hlt,hz,hst,hld,hG5,o5,hb5,e1,k1,k2,ha,hb',e5,pExtract,getN_zero,getN_succ,hw]
   exact next _ _ mv M (by simp [clip_t,e1]) (by simp [clip_t]) (by simp [clip_t]) (by simp [clip_t]) (by simp [clip_t]) (by simp [clip_t]) (by simp [clip_t,e0]) (by simp [clip_t]) (by simp [clip_t]) hK12 l12 (hav.ext xG) (hM.ext xG hlv) (by omega) (by simp [Kep,clip_t,t1,t3,t10,t13,e1]) fun G2 mv2 hf=>hf.skip fun s1 hs1=>by
    rw [hn] at hs1; cases hs1
end
section
variable {α:Type} {orc:FuncId→Bool} {e:RowE α} {m:Mac α} {inv:List α→Prop} {tx:List α→ByteArray} {B A:GS} {fv nv uv tv lV:Value} {l:List Sp} {p3 lv:Nat}
theorem fsts_Q (hm:MacC orc e m inv tx B fv nv uv tv) (hB:Ext B A) (hBl:B.nl≤lv) (c3:A.obj p3=some ⟨[fv,nv,uv,tv],1,false,1⟩) (h3:p3<A.nx) (hl:SlR rSp A lV l) {a:Nat} (ha:a<l.length) (okl:okOp (sp l a).op) {P:List (V1×List α)} {pv:Value} (hp:SlR eV1 A pv (P.map (·.1))) (hP:∀ p∈P,SlR e A p.1.1 p.2∧inv p.2) (hPl:P.length≤2000000) {w:Nat} (hw1:∀ s,inv s→(toldP m s (sp l a)).length≤w) :
  ∀ (k i:Nat) (τ:Env) (G:GS) (mv:Value) (M:List (V1×List α)),i+k=P.length→τ 1=lV→τ 3=Pp p3→τ 10= .int .i64 (a:Int)→τ 12=mv→τ 13= .map (some lv)→τ 54=pv→τ 55= .int .i64 P.length→τ 56= .int .i64 (i:Int)→Kp lv A G→lv<G.nl→MoF e inv tx A lv G mv M→M.length+k*w≤2000000 →
  Wp ((exL Q orc).lpx 47 2 τ G) fun q=>q.1= .exit 4∧Kp lv A q.2.2∧lv<q.2.2.nl∧FndS e m inv tx A lv q.2.2 (q.2.1 12) M (k*w) (sp l a) (P.drop i)∧Kep [1,3,8,10,25,26,27] τ q.2.1:=by
 intro k
 induction k with
 | zero =>
  intro i τ G mv M hj t1 t3 t10 t12 t13 t54 t55 t56 hK hlv hM hc
  have hj':i=P.length:=by omega
  subst hj'
  refine Wp.lp (l47_2 (exL_ok Q orc)) ?_
  simp [b47_2,clip_t,t1,t3,t10,t54,t55,t56,-List.drop_length]
  exact ⟨hK,hlv,by rw [List.drop_length]; exact FndS.zero (by simpa [clip_t,t12] using hM),by simp [Kep,clip_t,t1,t3,t10]⟩
 | succ k ih =>
  intro i τ G mv M hj t1 t3 t10 t12 t13 t54 t55 t56 hK hlv hM hc
  have hlt:i<P.length:=by omega
  have hltm:i<(P.map (·.1)).length:=by simpa using hlt
  have hw:IntKind.wrap .i64 ((i:Int)+1)=((i+1:Nat):Int):=wrap64 (by omega) (by omega)
  have h1:(i:Int)<P.length:=by omega
  have h2:(0:Int)≤i:=by omega
  have k1:(a:Int)<l.length:=by omega
  have k2:(0:Int)≤a:=by omega
  obtain ⟨b,o,c,e0,hbG,hz,_⟩:=(slrKp hp hK).at hltm
  have hz:=hz 0 (by decide)
  rw [eV1_sz,eV1_row,List.getElem_map] at hz
  simp only [List.length_map] at e0
  simp at hz
  rw [List.drop_eq_getElem_cons hlt]
  obtain ⟨hs0,hi⟩:=hP P[i] (List.getElem_mem hlt)
  generalize P[i]=p at *
  obtain ⟨⟨sv,hone⟩,s⟩:=p
  simp only at hs0 hi hz
  have hs:=slrKp hs0 hK
  obtain ⟨b',o',c',e1,hbl,_,hy⟩:=(slrKp hl hK).at ha
  rw [← sp_at ha,rSp_sz,loadA_eq] at hy
  have o3:G.obj p3=some ⟨[fv,nv,uv,tv],1,false,1⟩:=(hK.obj _ h3).trans c3
  have hld:loadO 4 0 (some ⟨[fv,nv,uv,tv],1,false,1⟩)=some (.agg ⟨[fv,nv,uv,tv]⟩):=loadO_whole rfl (by decide)
  have x9:Ext G (G.room 9):=(Ext.refl G).room 9
  obtain ⟨⟨av,G6⟩,e5,x6,w6,l6⟩:=told_Q orc hm (c:=sp l a) ((extKp hB hBl hK).trans x9) (hs.ext x9) hi okl
  simp only at x6 w6
  have xG:=x9.trans x6
  have hK6:Kp lv A G6:=hK.trans (Kp.ext xG)
  obtain ⟨va,vc,eva⟩:=w6.len
  have la:∀ x,ln Q true x av=some (.int .i64 (toldP m s (sp l a)).length):=fun x=>by rw [eva]; simp
  have hwk:(k+1)*w=w+k*w:=by rw [Nat.add_mul]; omega
  have hLw:=hw1 s hi
  obtain ⟨sa,sc,esv⟩:=hs.len
  generalize hrow:rSp.row (sp l a)=ra at *
  refine Wp.lp (l47_2 (exL_ok Q orc)) ?_
  simp [-Int.natCast_add,-cValue_func,b47_2,clip_t,t1,t3,t10,t54,t55,t56,e0,h1,h2,hlt,hz,o3,hld,e1,k1,k2,ha,hy,e5,la]
  refine Wp.bE ((fans_Q hm hB hBl c3 h3 hl ha okl hs0 hi (by omega) (toldP m s (sp l a)).length 0 _ G6 mv M (by omega) (by simp [clip_t,t1,e1]) (by simp [clip_t,t3]) (by simp [clip_t,t10]) (by simp [clip_t,t12]) (by simp [clip_t,t13]) (by simp [clip_t]) (by simp [clip_t]) (by simp [clip_t]) (by simp [clip_t]) hK6 (Nat.lt_of_lt_of_le hlv xG.nl) w6 (hM.ext xG hlv) (by omega)).mono ?_)
  rintro ⟨ee,τ',G'⟩ ⟨q1,q2,q3,q4,q5⟩
  simp only at q1 q2 q3 q4 q5
  subst q1
  obtain ⟨M1,m1,m2,m3⟩:=q4
  simp [-Int.natCast_add,q5 1 (by decide),q5 3 (by decide),q5 10 (by decide),q5 54 (by decide),q5 55 (by decide),q5 56 (by decide),clip_t,t1,t3,t10,t54,t55,t56,hw,e0,e1]
  refine Wp.mono (ih (i+1) _ G' (τ' 12) (M++M1) (by omega) (by simp [clip_t,e1]) (by simp [clip_t]) (by simp [clip_t]) (by simp [clip_t]) (by simp [clip_t,q5 13 (by decide),t13]) (by simp [clip_t,e0]) (by simp [clip_t]) (by simp [clip_t]) q2 q3 m1 (by simp; omega)) fun q hq=>?_
  exact ⟨hq.1,hq.2.1,hq.2.2.1,FndS.more (by simpa using m3) (by omega) hq.2.2.2.1,Kep.trans (by simp [Kep,clip_t,t1,t3,t10,e1,q5 8 (by decide),q5 25 (by decide),q5 26 (by decide),q5 27 (by decide)]) hq.2.2.2.2⟩
end
section
variable {α:Type} {orc:FuncId→Bool} {e:RowE α} {m:Mac α} {inv:List α→Prop} {tx:List α→ByteArray} {B A:GS} {fv nv uv tv lV rowv:Value} {l:List Sp} {p3:Nat} {row:List Nat}
theorem frow_Q (hm:MacC orc e m inv tx B fv nv uv tv) (hB:Ext B A) (c3:A.obj p3=some ⟨[fv,nv,uv,tv],1,false,1⟩) (h3:p3<A.nx) (hl:SlR rSp A lV l) (hlen:l.length≤50) (okl:∀ c∈l,okOp c.op) (hrow:SlR (rowsI .i64) A rowv (row.map fun (a:Nat)=>(a:Int))) (hrl:row.length≤3000) (w:Sp→Nat) (hw1:∀ c∈l,∀ s,inv s→(toldP m s c).length≤w c)
  (hnc:∀ (p q:Nat) (hpq:p<q) (hq:q<row.length),ahead (sp l row[q]) (sp l (row[p]'(by omega)))=false) {s2:List α} {d2:Nat} :
  ∀ (k i:Nat) (τ:Env) (G:GS) (s:List α) (d n:Nat),i+k=row.length→τ 1=lV→τ 3=Pp p3→τ 8= .int .i64 (d:Int)→τ 25=rowv→τ 26= .int .i64 row.length→τ 27= .int .i64 (i:Int)→Ext A G→Way m l s d (row.drop i) s2 d2→d<2 ^ 60→(∀ x,d.testBit x=true→x∈row.take i)→StsF e inv G (τ 7) s n→Bd n ((row.drop i).map fun a=>w (sp l a)) →
  Wp ((exL Q orc).lpx 47 0 τ G) fun q=>q.1= .exit 0∧Ext A q.2.2∧q.2.1 1=lV∧q.2.1 8= .int .i64 (d2:Int)∧d2<2 ^ 60∧∃ n',StsF e inv q.2.2 (q.2.1 7) s2 n':=by
 intro k
 induction k with
 | zero =>
  intro i τ G s d n hi t1 t3 t8 t25 t26 t27 hA hway hd hdx hst hbd
  have hi':i=row.length:=by omega
  subst hi'
  rw [List.drop_length] at hway
  cases hway
  refine Wp.lp (l47_0 (exL_ok Q orc)) ?_
  simp [b47_0,clip_t,t1,t25,t26,t27,hA,t8]
  exact ⟨hd,n,hst⟩
 | succ k ih =>
  intro i τ G s d n hi t1 t3 t8 t25 t26 t27 hA hway hd hdx hst hbd
  have hlt:i<row.length:=by omega
  have hltm:i<(row.map fun (a:Nat)=>(a:Int)).length:=by simpa using hlt
  have hw:IntKind.wrap .i64 ((i:Int)+1)=((i+1:Nat):Int):=wrap64 (by omega) (by omega)
  have h1:(i:Int)<row.length:=by omega
  have h2:(0:Int)≤i:=by omega
  obtain ⟨b,o,c,e0,hbG,hz,_⟩:=(hrow.ext hA).at hltm
  have hz:=hz 0 (by decide)
  simp [rowsI] at hz
  simp only [List.length_map] at e0
  have hncl:=hnc
  rw [List.drop_eq_getElem_cons hlt] at hway hbd
  have htk:row.take (i+1)=row.take i++[row[i]]:=by rw [List.take_append_getElem hlt]
  have hnc1:∀ x,d.testBit x=true→ahead (sp l row[i]) (sp l x)=false:=fun x hx=>by
   obtain ⟨p,hp,he⟩:=List.getElem_of_mem (hdx x hx)
   rw [List.length_take] at hp
   rw [List.getElem_take] at he
   rw [← he]
   exact hnc p i (by omega) hlt
  generalize row[i]=a at *
  cases hway with
  | @cons _ _ _ an s1 _ _ _ ha hr ht hn hway' =>
  obtain ⟨hbn,hbd'⟩:=hbd
  have k3:¬ ((a:Int)<0):=by omega
  have hmem:sp l a∈l:=by rw [sp_at ha]; exact List.getElem_mem ha
  obtain ⟨P,hp,hP,hPn,p0,hp0,hps⟩:=hst
  obtain ⟨lc,lcc,el⟩:=hl.len
  have ll:∀ x,ln Q true x lV=some (.int .i64 l.length):=fun x=>by rw [el]; simp
  obtain ⟨ho1,ho2⟩:=or1 hd (show a<60 by omega)
  refine Wp.lp (l47_0 (exL_ok Q orc)) ?_
  simp [-Int.natCast_add,b47_0,clip_t,t1,t25,t26,t27,e0,h1,h2,hlt,hz,ll]
  refine Wp.bE ((fwait_Q orc (hl.ext hA) hlen hd ha (fun x _ hb=>hnc1 x hb) l.length 0 _ G (by omega) (by simp [clip_t,t1]) (by simp [clip_t,t8]) (by simp [clip_t]) (by simp [clip_t]) (by simp [clip_t]) (Ext.refl G)).mono ?_)
  rintro ⟨ee,τ1,G6⟩ ⟨q1,x6,kp⟩
  simp only at q1 x6 kp
  subst q1
  have u1:τ1 1=lV:=(kp 1 (by decide)).trans (by simp [clip_t,t1])
  have u3:τ1 3=Pp p3:=(kp 3 (by decide)).trans (by simp [clip_t,t3])
  have u7:τ1 7=τ 7:=(kp 7 (by decide)).trans (by simp [clip_t])
  have u8:τ1 8= .int .i64 (d:Int):=(kp 8 (by decide)).trans (by simp [clip_t,t8])
  have u10:τ1 10= .int .i64 (a:Int):=(kp 10 (by decide)).trans (by simp [clip_t])
  have u25:τ1 25=rowv:=(kp 25 (by decide)).trans (by simp [clip_t,t25,e0])
  have u26:τ1 26= .int .i64 row.length:=(kp 26 (by decide)).trans (by simp [clip_t,t26])
  have u27:τ1 27= .int .i64 (i:Int):=(kp 27 (by decide)).trans (by simp [clip_t,t27])
  generalize hpv:τ 7=pv at *
  obtain ⟨sa,sc,es⟩:=hp.len
  rw [List.length_map] at es
  have lp:∀ x,ln Q true x pv=some (.int .i64 P.length):=fun x=>by rw [es]; simp
  have xA6:Ext A G6:=hA.trans x6
  have xm:Ext G6 G6.newMap:=⟨Nat.le_refl _,fun _ _=>rfl,Nat.le_succ _,fun k hk=>by
   show (G6.pushLoop _).loop k=_
   rw [GS.loop_push,if_neg (by omega)]⟩
  have xAm:Ext A G6.newMap:=xA6.trans xm
  have xGm:Ext G G6.newMap:=x6.trans xm
  have hBl:B.nl≤G6.nl:=Nat.le_trans hB.nl xA6.nl
  have hbd2:n*w (sp l a)≤2000000:=Bd.le hbd'
  have hmn:P.length*w (sp l a)≤n*w (sp l a):=Nat.mul_le_mul_right _ hPn
  simp [-Int.natCast_add,u1,u3,u7,u8,u10,u25,u26,u27,lp,nm]
  refine Wp.bE ((fsts_Q hm (hB.trans xAm) hBl ((xAm.obj _ h3).trans c3) (Nat.lt_of_lt_of_le h3 xAm.nx) (hl.ext xAm) ha (okl _ hmem) (hp.ext xGm) (fun p hp'=>⟨(hP p hp').1.ext xGm,(hP p hp').2⟩) (by omega) (hw1 _ hmem) P.length 0 _ G6.newMap (.slice none 0 0) [] (by omega) (by simp [clip_t,u1]) (by simp [clip_t,u3]) (by simp [clip_t,u10]) (by simp [clip_t]) (by simp [clip_t]) (by simp [clip_t]) (by simp [clip_t]) (by simp [clip_t]) (Kp.refl _ _) (Nat.lt_succ_self _) (MoF.start e inv tx _ _ (newMap_loop G6)) (by simp; omega)).mono ?_)
  rintro ⟨ee,τ2,G12⟩ ⟨q1,q2,q3,⟨M,m1,m2,m3⟩,q5⟩
  simp only at q1 q2 q3 m1 q5
  subst q1
  have v1:τ2 1=lV:=(q5 1 (by decide)).trans (by simp [clip_t,u1])
  have v3:τ2 3=Pp p3:=(q5 3 (by decide)).trans (by simp [clip_t,u3])
  have v8:τ2 8= .int .i64 (d:Int):=(q5 8 (by decide)).trans (by simp [clip_t,u8])
  have v10:τ2 10= .int .i64 (a:Int):=(q5 10 (by decide)).trans (by simp [clip_t,u10])
  have v25:τ2 25=rowv:=(q5 25 (by decide)).trans (by simp [clip_t,u25,e0])
  have v26:τ2 26= .int .i64 row.length:=(q5 26 (by decide)).trans (by simp [clip_t,u26])
  have v27:τ2 27= .int .i64 (i:Int):=(q5 27 (by decide)).trans (by simp [clip_t,u27])
  simp [-Int.natCast_add,v1,v8,v10,v25,v26,v27,k3,ho1,hw]
  rw [List.nil_append] at m1 m3
  rw [List.drop_zero] at m3
  obtain ⟨n1,_,mo,_⟩:=m1.own
  have xF:Ext A G12:=extKp xAm xA6.nl q2
  refine ih (i+1) _ (G12.room 7) s1 (d ||| 1 <<< a) (n*w (sp l a)) (by omega) (by simp [clip_t]) (by simp [clip_t,v3]) (by simp [clip_t]) (by simp [clip_t,e0]) (by simp [clip_t]) (by simp [clip_t]) (xF.room 7) hway' ho2 (fun x hx=>?_) ⟨M,?_,fun p hp=>⟨(m1.st p hp).1.ext ((Ext.refl _).room 7),(m1.st p hp).2⟩,by omega,m3 p0 hp0 an (by rw [hps]; exact ht) s1 (by rw [hps]; exact hn)⟩ hbd'
  ·rw [htk]
   rw [Nat.testBit_or,Bool.or_eq_true] at hx
   rcases hx with hx | hx
   ·exact List.mem_append_left _ (hdx x hx)
   ·refine List.mem_append_right _ (List.mem_singleton.2 ?_)
    rw [Nat.testBit_shiftLeft,Bool.and_eq_true,decide_eq_true_eq] at hx
    obtain ⟨g1,g2⟩:=hx
    by_cases h0:x - a=0
    ·omega
    ·obtain ⟨z,hz⟩:∃ z,x - a=z+1:=⟨x - a - 1,by omega⟩
     rw [hz] at g2; simp [Nat.testBit_succ] at g2
  ·have:=mo.is.ext ((Ext.refl G12).room 7)
   simpa [clip_t] using this
end
section
variable {α:Type} {orc:FuncId→Bool} {e:RowE α} {m:Mac α} {inv:List α→Prop} {tx:List α→ByteArray} {B:GS} {fv nv uv tv lV rowv:Value} {l:List Sp} {row:List Nat}
theorem fits_Q (hm:MacC orc e m inv tx B fv nv uv tv) {G:GS} (hB:Ext B G) (hl:SlR rSp G lV l) (hlen:l.length≤50) (okl:∀ c∈l,okOp c.op) (hrow:SlR (rowsI .i64) G rowv (row.map fun (a:Nat)=>(a:Int))) (hrl:row.length≤3000) (w:Sp→Nat) (hw1:∀ c∈l,∀ s,inv s→(toldP m s c).length≤w c) (hbd:Bd 1 (row.map fun a=>w (sp l a))) {s2:List α} {d2:Nat} (hway:Way m l m.first 0 row s2 d2) (hov:ovrP l d2) :
  Wp ((E orc).cl 47 [.agg ⟨[fv,nv,uv,tv]⟩,lV,rowv] G) fun r=>r.1= .bool true∧Ext G r.2:=by
 refine Wp.ref (f47 (exL_ok Q orc) _ _ _ G) ?_
 have hfs:=hm.first.ext hB
 obtain ⟨fa,fc,ef⟩:=hm.first.len
 obtain ⟨ra,rc,er⟩:=hrow.len
 rw [List.length_map] at er
 have lr:∀ x,ln Q true x rowv=some (.int .i64 row.length):=fun x=>by rw [er]; simp
 subst ef
 have hnc:=way_nc hway
 have c3:((G.push ⟨[.slice fa m.first.length fc,nv,uv,tv],1,false,1⟩).push ⟨[.slice fa m.first.length fc],1,false,1⟩).obj G.nx=some ⟨[.slice fa m.first.length fc,nv,uv,tv],1,false,1⟩:=by simp
 have xx:Ext G ((G.push ⟨[.slice fa m.first.length fc,nv,uv,tv],1,false,1⟩).push ⟨[.slice fa m.first.length fc],1,false,1⟩):=((Ext.refl G).push _).push _
 have s1:SlR eV1 ((G.push ⟨[.slice fa m.first.length fc,nv,uv,tv],1,false,1⟩).push ⟨[.slice fa m.first.length fc],1,false,1⟩) (.slice (some ⟨G.nx+1,0,none⟩) 1 1) [(⟨.slice fa m.first.length fc,rfl⟩:V1)]:=SlR.one eV1 (G.push ⟨[.slice fa m.first.length fc,nv,uv,tv],1,false,1⟩) (⟨.slice fa m.first.length fc,rfl⟩:V1)
 have nA:((G.push ⟨[.slice fa m.first.length fc,nv,uv,tv],1,false,1⟩).push ⟨[.slice fa m.first.length fc],1,false,1⟩).nx=G.nx+2:=by simp
 simp [-Int.natCast_add,s47,lr]
 generalize (G.push ⟨[.slice fa m.first.length fc,nv,uv,tv],1,false,1⟩).push ⟨[.slice fa m.first.length fc],1,false,1⟩=A at *
 refine Wp.bE ((frow_Q hm (hB.trans xx) c3 (by omega) (hl.ext xx) hlen okl (hrow.ext xx) hrl w hw1 hnc row.length 0 _ A m.first 0 1 (by omega) (by simp [clip_t]) (by simp [clip_t]) (by simp [clip_t]) (by simp [clip_t]) (by simp [clip_t]) (by simp [clip_t]) (Ext.refl A) (by rw [List.drop_zero]; exact hway) (by decide) (fun x hx=>by simp at hx) ⟨[(⟨.slice fa m.first.length fc,rfl⟩,m.first)],?_,fun p hp=>?_,by simp,_,List.mem_singleton.2 rfl,rfl⟩ (by rw [List.drop_zero]; exact hbd)).mono ?_)
 ·simpa [clip_t] using s1
 ·rw [List.mem_singleton.1 hp]; exact ⟨hfs.ext xx,hm.inv0⟩
 rintro ⟨ee,τ,G9⟩ ⟨q1,xA,q3,q4,q5,n',P,p1,p2,p3,p0,hp0,p4⟩
 simp only at q1 xA q3 q4 p1 p2
 subst q1
 obtain ⟨pa,pc,ep⟩:=p1.len
 rw [List.length_map] at ep
 have hpos:0<P.length:=List.length_pos_of_mem hp0
 have hpos':(0:Int)<P.length:=by omega
 obtain ⟨G',xo,⟨eo,_⟩ | ⟨_,ho⟩⟩:=over_ok orc ((hl.ext xx).ext xA) hlen q5
 ·simp [-Int.natCast_add,q3,q4,ep,hpos',hpos,eo]
  exact (xx.trans xA).trans xo
 ·exact absurd hov ho
end
section
variable {α:Type} {orc:FuncId→Bool} {e:RowE α} {m:Mac α} {inv:List α→Prop} {tx:List α→ByteArray} {B A:GS} {fv nv uv tv lV rowv:Value} {l:List Sp} {p3 lv:Nat}
theorem fwait_H (orc:FuncId→Bool) (hs:SlR rSp A lV l) (hlen:l.length≤50) {d a:Nat} (hd:d<2 ^ 60) (ha:a<l.length) (hn:∀ i,i<l.length→d.testBit i=true→ahead (sp l a) (sp l i)=false):∀ (k i:Nat) (τ:Env) (G:GS),i+k=l.length→τ 1=lV→τ 8= .int .i64 (d:Int)→τ 10= .int .i64 (a:Int)→τ 32= .int .i64 l.length→τ 33= .int .i64 (i:Int)→Ext A G →
  Wp ((exL Q orc).lpx 48 1 τ G) fun q=>q.1= .exit 2∧Ext A q.2.2∧Kep [1,3,7,8,10,25,26,27] τ q.2.1:=by
 intro k
 induction k with
 | zero =>
  intro i τ G hi t1 t8 t10 t32 t33 hA
  have hi':i=l.length:=by omega
  subst hi'
  refine Wp.lp (l48_1 (exL_ok Q orc)) ?_
  simp [b48_1,clip_t,t1,t8,t10,t32,t33,hA,Kep]
 | succ k ih =>
  intro i τ G hi t1 t8 t10 t32 t33 hA
  have hlt:i<l.length:=by omega
  have hw:IntKind.wrap .i64 ((i:Int)+1)=((i+1:Nat):Int):=wrap64 (by omega) (by omega)
  have h1:(i:Int)<l.length:=by omega
  have h2:(0:Int)≤i:=by omega
  have h3:¬ ((i:Int)<0):=by omega
  have k1:(a:Int)<l.length:=by omega
  have k2:(0:Int)≤a:=by omega
  obtain ⟨b,o,c,e0,hbG,_,hz⟩:=(hs.ext hA).at hlt
  obtain ⟨b',o',c',e0',_,_,hy⟩:=(hs.ext hA).at ha
  have e1:=e0.symm.trans e0'
  simp only [Value.slice.injEq,Option.some.injEq,Addr.mk.injEq,and_true,true_and] at e1
  obtain ⟨⟨rfl,rfl⟩,rfl⟩:=e1
  have hb:=and1 hd (show i<60 by omega)
  have hsp:=sp_at hlt
  have hspa:=sp_at ha
  rw [rSp_sz] at hz hy
  rw [← hsp,loadA_eq] at hz
  rw [← hspa,loadA_eq] at hy
  generalize hri:rSp.row (sp l i)=ri at *
  generalize hra:rSp.row (sp l a)=ra at *
  have next:∀ (τ':Env) (G':GS),τ' 1=lV→τ' 8= .int .i64 (d:Int)→τ' 10= .int .i64 (a:Int)→τ' 32= .int .i64 l.length→τ' 33= .int .i64 ((i+1:Nat):Int)→Ext A G' →Kep [1,3,7,8,10,25,26,27] τ τ' →
    Wp ((exL Q orc).lpx 48 1 τ' G') fun q=>q.1= .exit 2∧Ext A q.2.2∧Kep [1,3,7,8,10,25,26,27] τ q.2.1:=by
   intro τ' G' s1 s8 s10 s32 s33 hE hk
   refine Wp.mono (ih (i+1) τ' G' (by omega) s1 s8 s10 s32 s33 hE) fun q hq=>?_
   exact ⟨hq.1,hq.2.1,hk.trans hq.2.2⟩
  refine Wp.lp (l48_1 (exL_ok Q orc)) ?_
  cases hbit:d.testBit i with
  | false =>
   rw [hbit] at hb
   simp [-Int.natCast_add,b48_1,clip_t,t1,t8,t10,t32,t33,e0,h1,h2,h3,hlt,hw,hb]
   exact next _ _ (by simp [clip_t,e0]) (by simp [clip_t]) (by simp [clip_t]) (by simp [clip_t]) (by simp [clip_t]) (hA.room 16) (by simp [Kep,clip_t,t1,t8,t10,e0])
  | true =>
   rw [hbit] at hb
   obtain ⟨⟨r,G'⟩,e5,rfl,x5⟩:=ahead_ok orc (sp l a) (sp l i) (G.room 16)
   rw [hri,hra,hn i hlt hbit] at e5
   simp only at e5 x5
   simp [-Int.natCast_add,b48_1,clip_t,t1,t8,t10,t32,t33,e0,h1,h2,h3,hlt,hw,hb,k1,k2,hz,hy,e5]
   exact next _ _ (by simp [clip_t,e0]) (by simp [clip_t]) (by simp [clip_t]) (by simp [clip_t]) (by simp [clip_t]) ((hA.room 16).trans x5) (by simp [Kep,clip_t,t1,t8,t10,e0])
end
section
variable {α:Type} {orc:FuncId→Bool} {e:RowE α} {m:Mac α} {inv:List α→Prop} {tx:List α→ByteArray} {B A:GS} {fv nv uv tv lV:Value} {l:List Sp} {p3 lv:Nat}
theorem fans_H (hm:MacC orc e m inv tx B fv nv uv tv) (hB:Ext B A) (hBl:B.nl≤lv) (c3:A.obj p3=some ⟨[fv,nv,uv,tv],1,false,1⟩) (h3:p3<A.nx) (hl:SlR rSp A lV l) {a:Nat} (ha:a<l.length) (okl:okOp (sp l a).op) {sv:Value} {s:List α} (hs:SlR e A sv s) (hi:inv s) {av:Value} {L:List An3} (hL:L.length≤2000000) :
  ∀ (k j:Nat) (τ:Env) (G:GS) (mv:Value) (M:List (V1×List α)),j+k=L.length→τ 1=lV→τ 3=Pp p3→τ 10= .int .i64 (a:Int)→τ 12=mv→τ 13= .map (some lv)→τ 15=sv→τ 66=av→τ 67= .int .i64 L.length→τ 68= .int .i64 (j:Int)→Kp lv A G→lv<G.nl→SlR eAn G av L→MoF e inv tx A lv G mv M→M.length+k≤2000000 →
  Wp ((exL Q orc).lpx 48 3 τ G) fun q=>q.1= .exit 6∧Kp lv A q.2.2∧lv<q.2.2.nl∧Fnd e m inv tx A lv q.2.2 (q.2.1 12) M k s (sp l a).op (L.drop j)∧Kep [1,3,8,10,13,25,26,27,54,55,56] τ q.2.1:=by
 intro k
 induction k with
 | zero =>
  intro j τ G mv M hj t1 t3 t10 t12 t13 t15 t66 t67 t68 hK hlv hav hM hc
  have hj':j=L.length:=by omega
  subst hj'
  refine Wp.lp (l48_3 (exL_ok Q orc)) ?_
  simp [b48_3,clip_t,t1,t3,t10,t12,t13,t15,t66,t67,t68,-List.drop_length]
  exact ⟨hK,hlv,by rw [List.drop_length]; exact Fnd.zero hM,by simp [Kep,clip_t,t1,t3,t10,t13]⟩
 | succ k ih =>
  intro j τ G mv M hj t1 t3 t10 t12 t13 t15 t66 t67 t68 hK hlv hav hM hc
  have hlt:j<L.length:=by omega
  have hw:IntKind.wrap .i64 ((j:Int)+1)=((j+1:Nat):Int):=wrap64 (by omega) (by omega)
  have h1:(j:Int)<L.length:=by omega
  have h2:(0:Int)≤j:=by omega
  have k1:(a:Int)<l.length:=by omega
  have k2:(0:Int)≤a:=by omega
  obtain ⟨b,o,c,e0,hbG,_,hz⟩:=hav.at hlt
  rw [eAn_sz,loadA_eq] at hz
  rw [List.drop_eq_getElem_cons hlt]
  have hne:L≠[]:=by rintro rfl; simp at hlt
  generalize L[j]=an at *
  obtain ⟨b',o',c',e1,hb'⟩:=ld_part (slrKp hl hK) ha 3 3 (by decide)
  obtain ⟨_,_,_,e1',hbl,_⟩:=(slrKp hl hK).at ha
  rw [e1] at e1'
  simp only [Value.slice.injEq,Option.some.injEq,Addr.mk.injEq,and_true,true_and] at e1'
  obtain ⟨⟨rfl,rfl⟩,rfl⟩:=e1'
  rw [← sp_at ha,rSp_sz,loadA_eq,show ((rSp.row (sp l a)).drop 3).take 4=rowOp (sp l a).op from rfl] at hb'
  have hst:stO 3 0 (.agg ⟨eAn.row an⟩) (some ⟨z27,1,false,1⟩)=some ⟨eAn.row an,1,false,1⟩:=rfl
  have hld:loadO 3 0 (some ⟨eAn.row an,1,false,1⟩)=some (.agg ⟨eAn.row an⟩):=loadO_whole rfl (by decide)
  have hE:Ext G (((G.push ⟨z27,1,false,1⟩).put G.nx ⟨eAn.row an,1,false,1⟩).room 15):=(((Ext.refl G).push _).put (Nat.le_refl _) _).room 15
  have o3:G.obj p3=some ⟨[fv,nv,uv,tv],1,false,1⟩:=(hK.obj _ h3).trans c3
  have o5:(((G.push ⟨z27,1,false,1⟩).put G.nx ⟨eAn.row an,1,false,1⟩).room 15).obj p3=some ⟨[fv,nv,uv,tv],1,false,1⟩:=(hE.obj _ (by have:=hK.nx; omega)).trans o3
  have hb5:(((G.push ⟨z27,1,false,1⟩).put G.nx ⟨eAn.row an,1,false,1⟩).room 15).obj b' =G.obj b':=hE.obj _ hbl
  obtain ⟨⟨r,G12⟩,e5,x5,v',hr5⟩:=hm.next _ sv s (sp l a).op an ((extKp hB hBl hK).trans hE) ((slrKp hs hK).ext hE) hi okl
  simp only at x5 hr5
  have xG:=hE.trans x5
  have hK12:Kp lv A G12:=hK.trans (Kp.ext xG)
  have hM0:=hM.ext hE hlv
  have o12:G12.obj p3=some ⟨[fv,nv,uv,tv],1,false,1⟩:=(hK12.obj _ h3).trans c3
  have l12:lv<G12.nl:=Nat.lt_of_lt_of_le hlv xG.nl
  have next:∀ (τ':Env) (G':GS) (mv':Value) (M1:List (V1×List α)),τ' 1=lV→τ' 3=Pp p3→τ' 10= .int .i64 (a:Int)→τ' 12=mv' →τ' 13= .map (some lv)→τ' 15=sv→τ' 66=av→τ' 67= .int .i64 L.length→τ' 68= .int .i64 ((j+1:Nat):Int)→Kp lv A G' →lv<G'.nl→SlR eAn G' av L→MoF e inv tx A lv G' mv' M1→M1.length+k≤2000000→Kep [1,3,8,10,13,25,26,27,54,55,56] τ τ' →(∀ G2 mv2,Fnd e m inv tx A lv G2 mv2 M1 k s (sp l a).op (L.drop (j+1))→Fnd e m inv tx A lv G2 mv2 M (k+1) s (sp l a).op (an::L.drop (j+1))) →
    Wp ((exL Q orc).lpx 48 3 τ' G') fun q=>q.1= .exit 6∧Kp lv A q.2.2∧lv<q.2.2.nl∧Fnd e m inv tx A lv q.2.2 (q.2.1 12) M (k+1) s (sp l a).op (an::L.drop (j+1))∧Kep [1,3,8,10,13,25,26,27,54,55,56] τ q.2.1:=by
   intro τ' G' mv' M1 s1 s3 s10 s12 s13 s15 s66 s67 s68 q1 q2 q3 q4 q5 q6 q7
   refine Wp.mono (ih (j+1) τ' G' mv' M1 (by omega) s1 s3 s10 s12 s13 s15 s66 s67 s68 q1 q2 q3 q4 q5) fun q hq=>?_
   exact ⟨hq.1,hq.2.1,hq.2.2.1,q7 _ _ hq.2.2.2.1,q6.trans hq.2.2.2.2⟩
  generalize hop:(sp l a).op=op at *
  generalize hG5:((G.push ⟨z27,1,false,1⟩).put G.nx ⟨eAn.row an,1,false,1⟩).room 15=G5 at *
  refine Wp.lp (l48_3 (exL_ok Q orc)) ?_
  rcases hr5 with ⟨rfl,s',hn,hi',hsl⟩ | ⟨rfl,hn⟩
  ·obtain ⟨⟨tr,G12'⟩,e6,h61,h62⟩:=hm.text G12 v' s' (extKp hB hBl hK12) hsl.is hi'
   simp only at h61 h62
   subst h61 h62
   obtain ⟨es,hes,hge,hmem⟩:=hM.es
   have hes12:G12'.loop lv=some (mpL es):=(xG.loop _ hlv).trans hes
   have hu:Q.underlying 190=some (.map 9 3):=Tryz.underlying190
   by_cases hit:∃ p∈M,tx p.2=tx s'
   ·obtain ⟨v2,e7,_⟩:=look_hit keyStr hu hes12 hge ⟨_,rfl⟩ ((hmem _).2 hit)
    simp [-Int.natCast_add,-cValue_func,-eAn_row,b48_3,clip_t,t1,t3,t10,t12,t13,t15,t66,t67,t68,e0,h1,h2,hlt,hz,hst,hld,hG5,o5,hb5,e1,k1,k2,ha,hb',e5,pExtract,getN_zero,getN_succ,o12,e6,e7,hw]
    exact next _ _ mv M (by simp [clip_t,e1]) (by simp [clip_t]) (by simp [clip_t]) (by simp [clip_t]) (by simp [clip_t]) (by simp [clip_t]) (by simp [clip_t,e0]) (by simp [clip_t]) (by simp [clip_t]) hK12 l12 (hav.ext xG) (hM.ext xG hlv) (by omega) (by simp [Kep,clip_t,t1,t3,t10,t13,e1]) fun G2 mv2 hf=>hf.skip fun s1 hs1=>by
     rw [hn] at hs1; cases hs1
     obtain ⟨p,hp,he⟩:=hit
     exact ⟨p,hp,hm.inj _ _ (hM.st p hp).2 hi' he⟩
   ·obtain ⟨ma,mc,hmv⟩:=hM.len
    have hmiss:∀ q∈es,q.1≠ .string (tx s'):=fun q hq h=>hit ((hmem _).1 ⟨q,hq,h⟩)
    have e7:=look_miss (z:=.int .i64 0) keyStr hu (by kernel_rfl) ⟨_,rfl⟩ hes12 hge ⟨_,rfl⟩ hmiss
    have e8:=map_put (v:=.int .i64 (M.length:Int)) keyStr hu hes12 hge ⟨_,rfl⟩ ⟨_,rfl⟩ hmiss
    obtain ⟨mv',G',e9,k9,m9,a9,n9⟩:=MoF.add (hK.trans (Kp.ext hE)) x5 hM0 (Nat.lt_of_lt_of_le hlv hE.nl) hsl hi' hes12 hge hmem (by omega) (.int .i64 (M.length:Int)) ⟨_,rfl⟩
    obtain ⟨va,vc,hva⟩:=hsl.is.len
    subst hva
    have lm:∀ x,ln Q true x mv=some (.int .i64 M.length):=fun x=>by rw [hmv]; simp
    simp [-Int.natCast_add,-cValue_func,-eAn_row,b48_3,clip_t,t1,t3,t10,t12,t13,t15,t66,t67,t68,e0,h1,h2,hlt,hz,hst,hld,hG5,o5,hb5,e1,k1,k2,ha,hb',e5,pExtract,getN_zero,getN_succ,o12,e6,e7,e8,hw,lm,e9]
    have l9:lv<G'.nl:=by
     obtain ⟨es9,q,_⟩:=m9.es
     exact Nat.lt_of_lt_of_le l12 n9
    exact next _ _ mv' _ (by simp [clip_t,e1]) (by simp [clip_t]) (by simp [clip_t]) (by simp [clip_t]) (by simp [clip_t]) (by simp [clip_t]) (by simp [clip_t,e0]) (by simp [clip_t]) (by simp [clip_t]) k9 l9 (a9 _ _ hne (hav.ext xG)) m9 (by simp; omega) (by simp [Kep,clip_t,t1,t3,t10,t13,e1]) fun G2 mv2 hf=>hf.more hn
  ·simp [-Int.natCast_add,-cValue_func,-eAn_row,b48_3,clip_t,t1,t3,t10,t12,t13,t15,t66,t67,t68,e0,h1,h2,hlt,hz,hst,hld,hG5,o5,hb5,e1,k1,k2,ha,hb',e5,pExtract,getN_zero,getN_succ,hw]
   exact next _ _ mv M (by simp [clip_t,e1]) (by simp [clip_t]) (by simp [clip_t]) (by simp [clip_t]) (by simp [clip_t]) (by simp [clip_t]) (by simp [clip_t,e0]) (by simp [clip_t]) (by simp [clip_t]) hK12 l12 (hav.ext xG) (hM.ext xG hlv) (by omega) (by simp [Kep,clip_t,t1,t3,t10,t13,e1]) fun G2 mv2 hf=>hf.skip fun s1 hs1=>by
    rw [hn] at hs1; cases hs1
end
section
variable {α:Type} {orc:FuncId→Bool} {e:RowE α} {m:Mac α} {inv:List α→Prop} {tx:List α→ByteArray} {B A:GS} {fv nv uv tv lV:Value} {l:List Sp} {p3 lv:Nat}
theorem fsts_H (hm:MacC orc e m inv tx B fv nv uv tv) (hB:Ext B A) (hBl:B.nl≤lv) (c3:A.obj p3=some ⟨[fv,nv,uv,tv],1,false,1⟩) (h3:p3<A.nx) (hl:SlR rSp A lV l) {a:Nat} (ha:a<l.length) (okl:okOp (sp l a).op) {P:List (V1×List α)} {pv:Value} (hp:SlR eV1 A pv (P.map (·.1))) (hP:∀ p∈P,SlR e A p.1.1 p.2∧inv p.2) (hPl:P.length≤2000000) {w:Nat} (hw1:∀ s,inv s→(toldP m s (sp l a)).length≤w) :
  ∀ (k i:Nat) (τ:Env) (G:GS) (mv:Value) (M:List (V1×List α)),i+k=P.length→τ 1=lV→τ 3=Pp p3→τ 10= .int .i64 (a:Int)→τ 12=mv→τ 13= .map (some lv)→τ 54=pv→τ 55= .int .i64 P.length→τ 56= .int .i64 (i:Int)→Kp lv A G→lv<G.nl→MoF e inv tx A lv G mv M→M.length+k*w≤2000000 →
  Wp ((exL Q orc).lpx 48 2 τ G) fun q=>q.1= .exit 4∧Kp lv A q.2.2∧lv<q.2.2.nl∧FndS e m inv tx A lv q.2.2 (q.2.1 12) M (k*w) (sp l a) (P.drop i)∧Kep [1,3,8,10,25,26,27] τ q.2.1:=by
 intro k
 induction k with
 | zero =>
  intro i τ G mv M hj t1 t3 t10 t12 t13 t54 t55 t56 hK hlv hM hc
  have hj':i=P.length:=by omega
  subst hj'
  refine Wp.lp (l48_2 (exL_ok Q orc)) ?_
  simp [b48_2,clip_t,t1,t3,t10,t54,t55,t56,-List.drop_length]
  exact ⟨hK,hlv,by rw [List.drop_length]; exact FndS.zero (by simpa [clip_t,t12] using hM),by simp [Kep,clip_t,t1,t3,t10]⟩
 | succ k ih =>
  intro i τ G mv M hj t1 t3 t10 t12 t13 t54 t55 t56 hK hlv hM hc
  have hlt:i<P.length:=by omega
  have hltm:i<(P.map (·.1)).length:=by simpa using hlt
  have hw:IntKind.wrap .i64 ((i:Int)+1)=((i+1:Nat):Int):=wrap64 (by omega) (by omega)
  have h1:(i:Int)<P.length:=by omega
  have h2:(0:Int)≤i:=by omega
  have k1:(a:Int)<l.length:=by omega
  have k2:(0:Int)≤a:=by omega
  obtain ⟨b,o,c,e0,hbG,hz,_⟩:=(slrKp hp hK).at hltm
  have hz:=hz 0 (by decide)
  rw [eV1_sz,eV1_row,List.getElem_map] at hz
  simp only [List.length_map] at e0
  simp at hz
  rw [List.drop_eq_getElem_cons hlt]
  obtain ⟨hs0,hi⟩:=hP P[i] (List.getElem_mem hlt)
  generalize P[i]=p at *
  obtain ⟨⟨sv,hone⟩,s⟩:=p
  simp only at hs0 hi hz
  have hs:=slrKp hs0 hK
  obtain ⟨b',o',c',e1,hbl,_,hy⟩:=(slrKp hl hK).at ha
  rw [← sp_at ha,rSp_sz,loadA_eq] at hy
  have o3:G.obj p3=some ⟨[fv,nv,uv,tv],1,false,1⟩:=(hK.obj _ h3).trans c3
  have hld:loadO 4 0 (some ⟨[fv,nv,uv,tv],1,false,1⟩)=some (.agg ⟨[fv,nv,uv,tv]⟩):=loadO_whole rfl (by decide)
  have x9:Ext G (G.room 9):=(Ext.refl G).room 9
  obtain ⟨⟨av,G6⟩,e5,x6,w6,l6⟩:=told_H orc hm (c:=sp l a) ((extKp hB hBl hK).trans x9) (hs.ext x9) hi okl
  simp only at x6 w6
  have xG:=x9.trans x6
  have hK6:Kp lv A G6:=hK.trans (Kp.ext xG)
  obtain ⟨va,vc,eva⟩:=w6.len
  have la:∀ x,ln Q true x av=some (.int .i64 (toldP m s (sp l a)).length):=fun x=>by rw [eva]; simp
  have hwk:(k+1)*w=w+k*w:=by rw [Nat.add_mul]; omega
  have hLw:=hw1 s hi
  obtain ⟨sa,sc,esv⟩:=hs.len
  generalize hrow:rSp.row (sp l a)=ra at *
  refine Wp.lp (l48_2 (exL_ok Q orc)) ?_
  simp [-Int.natCast_add,-cValue_func,b48_2,clip_t,t1,t3,t10,t54,t55,t56,e0,h1,h2,hlt,hz,o3,hld,e1,k1,k2,ha,hy,e5,la]
  refine Wp.bE ((fans_H hm hB hBl c3 h3 hl ha okl hs0 hi (by omega) (toldP m s (sp l a)).length 0 _ G6 mv M (by omega) (by simp [clip_t,t1,e1]) (by simp [clip_t,t3]) (by simp [clip_t,t10]) (by simp [clip_t,t12]) (by simp [clip_t,t13]) (by simp [clip_t]) (by simp [clip_t]) (by simp [clip_t]) (by simp [clip_t]) hK6 (Nat.lt_of_lt_of_le hlv xG.nl) w6 (hM.ext xG hlv) (by omega)).mono ?_)
  rintro ⟨ee,τ',G'⟩ ⟨q1,q2,q3,q4,q5⟩
  simp only at q1 q2 q3 q4 q5
  subst q1
  obtain ⟨M1,m1,m2,m3⟩:=q4
  simp [-Int.natCast_add,q5 1 (by decide),q5 3 (by decide),q5 10 (by decide),q5 54 (by decide),q5 55 (by decide),q5 56 (by decide),clip_t,t1,t3,t10,t54,t55,t56,hw,e0,e1]
  refine Wp.mono (ih (i+1) _ G' (τ' 12) (M++M1) (by omega) (by simp [clip_t,e1]) (by simp [clip_t]) (by simp [clip_t]) (by simp [clip_t]) (by simp [clip_t,q5 13 (by decide),t13]) (by simp [clip_t,e0]) (by simp [clip_t]) (by simp [clip_t]) q2 q3 m1 (by simp; omega)) fun q hq=>?_
  exact ⟨hq.1,hq.2.1,hq.2.2.1,FndS.more (by simpa using m3) (by omega) hq.2.2.2.1,Kep.trans (by simp [Kep,clip_t,t1,t3,t10,e1,q5 8 (by decide),q5 25 (by decide),q5 26 (by decide),q5 27 (by decide)]) hq.2.2.2.2⟩
end
section
variable {α:Type} {orc:FuncId→Bool} {e:RowE α} {m:Mac α} {inv:List α→Prop} {tx:List α→ByteArray} {B A:GS} {fv nv uv tv lV rowv:Value} {l:List Sp} {p3:Nat} {row:List Nat}
theorem frow_H (hm:MacC orc e m inv tx B fv nv uv tv) (hB:Ext B A) (c3:A.obj p3=some ⟨[fv,nv,uv,tv],1,false,1⟩) (h3:p3<A.nx) (hl:SlR rSp A lV l) (hlen:l.length≤50) (okl:∀ c∈l,okOp c.op) (hrow:SlR (rowsI .i64) A rowv (row.map fun (a:Nat)=>(a:Int))) (hrl:row.length≤3000) (w:Sp→Nat) (hw1:∀ c∈l,∀ s,inv s→(toldP m s c).length≤w c)
  (hnc:∀ (p q:Nat) (hpq:p<q) (hq:q<row.length),ahead (sp l row[q]) (sp l (row[p]'(by omega)))=false) {s2:List α} {d2:Nat} :
  ∀ (k i:Nat) (τ:Env) (G:GS) (s:List α) (d n:Nat),i+k=row.length→τ 1=lV→τ 3=Pp p3→τ 8= .int .i64 (d:Int)→τ 25=rowv→τ 26= .int .i64 row.length→τ 27= .int .i64 (i:Int)→Ext A G→Way m l s d (row.drop i) s2 d2→d<2 ^ 60→(∀ x,d.testBit x=true→x∈row.take i)→StsF e inv G (τ 7) s n→Bd n ((row.drop i).map fun a=>w (sp l a)) →
  Wp ((exL Q orc).lpx 48 0 τ G) fun q=>q.1= .exit 0∧Ext A q.2.2∧q.2.1 1=lV∧q.2.1 8= .int .i64 (d2:Int)∧d2<2 ^ 60∧∃ n',StsF e inv q.2.2 (q.2.1 7) s2 n':=by
 intro k
 induction k with
 | zero =>
  intro i τ G s d n hi t1 t3 t8 t25 t26 t27 hA hway hd hdx hst hbd
  have hi':i=row.length:=by omega
  subst hi'
  rw [List.drop_length] at hway
  cases hway
  refine Wp.lp (l48_0 (exL_ok Q orc)) ?_
  simp [b48_0,clip_t,t1,t25,t26,t27,hA,t8]
  exact ⟨hd,n,hst⟩
 | succ k ih =>
  intro i τ G s d n hi t1 t3 t8 t25 t26 t27 hA hway hd hdx hst hbd
  have hlt:i<row.length:=by omega
  have hltm:i<(row.map fun (a:Nat)=>(a:Int)).length:=by simpa using hlt
  have hw:IntKind.wrap .i64 ((i:Int)+1)=((i+1:Nat):Int):=wrap64 (by omega) (by omega)
  have h1:(i:Int)<row.length:=by omega
  have h2:(0:Int)≤i:=by omega
  obtain ⟨b,o,c,e0,hbG,hz,_⟩:=(hrow.ext hA).at hltm
  have hz:=hz 0 (by decide)
  simp [rowsI] at hz
  simp only [List.length_map] at e0
  have hncl:=hnc
  rw [List.drop_eq_getElem_cons hlt] at hway hbd
  have htk:row.take (i+1)=row.take i++[row[i]]:=by rw [List.take_append_getElem hlt]
  have hnc1:∀ x,d.testBit x=true→ahead (sp l row[i]) (sp l x)=false:=fun x hx=>by
   obtain ⟨p,hp,he⟩:=List.getElem_of_mem (hdx x hx)
   rw [List.length_take] at hp
   rw [List.getElem_take] at he
   rw [← he]
   exact hnc p i (by omega) hlt
  generalize row[i]=a at *
  cases hway with
  | @cons _ _ _ an s1 _ _ _ ha hr ht hn hway' =>
  obtain ⟨hbn,hbd'⟩:=hbd
  have k3:¬ ((a:Int)<0):=by omega
  have hmem:sp l a∈l:=by rw [sp_at ha]; exact List.getElem_mem ha
  obtain ⟨P,hp,hP,hPn,p0,hp0,hps⟩:=hst
  obtain ⟨lc,lcc,el⟩:=hl.len
  have ll:∀ x,ln Q true x lV=some (.int .i64 l.length):=fun x=>by rw [el]; simp
  obtain ⟨ho1,ho2⟩:=or1 hd (show a<60 by omega)
  refine Wp.lp (l48_0 (exL_ok Q orc)) ?_
  simp [-Int.natCast_add,b48_0,clip_t,t1,t25,t26,t27,e0,h1,h2,hlt,hz,ll]
  refine Wp.bE ((fwait_H orc (hl.ext hA) hlen hd ha (fun x _ hb=>hnc1 x hb) l.length 0 _ G (by omega) (by simp [clip_t,t1]) (by simp [clip_t,t8]) (by simp [clip_t]) (by simp [clip_t]) (by simp [clip_t]) (Ext.refl G)).mono ?_)
  rintro ⟨ee,τ1,G6⟩ ⟨q1,x6,kp⟩
  simp only at q1 x6 kp
  subst q1
  have u1:τ1 1=lV:=(kp 1 (by decide)).trans (by simp [clip_t,t1])
  have u3:τ1 3=Pp p3:=(kp 3 (by decide)).trans (by simp [clip_t,t3])
  have u7:τ1 7=τ 7:=(kp 7 (by decide)).trans (by simp [clip_t])
  have u8:τ1 8= .int .i64 (d:Int):=(kp 8 (by decide)).trans (by simp [clip_t,t8])
  have u10:τ1 10= .int .i64 (a:Int):=(kp 10 (by decide)).trans (by simp [clip_t])
  have u25:τ1 25=rowv:=(kp 25 (by decide)).trans (by simp [clip_t,t25,e0])
  have u26:τ1 26= .int .i64 row.length:=(kp 26 (by decide)).trans (by simp [clip_t,t26])
  have u27:τ1 27= .int .i64 (i:Int):=(kp 27 (by decide)).trans (by simp [clip_t,t27])
  generalize hpv:τ 7=pv at *
  obtain ⟨sa,sc,es⟩:=hp.len
  rw [List.length_map] at es
  have lp:∀ x,ln Q true x pv=some (.int .i64 P.length):=fun x=>by rw [es]; simp
  have xA6:Ext A G6:=hA.trans x6
  have xm:Ext G6 G6.newMap:=⟨Nat.le_refl _,fun _ _=>rfl,Nat.le_succ _,fun k hk=>by
   show (G6.pushLoop _).loop k=_
   rw [GS.loop_push,if_neg (by omega)]⟩
  have xAm:Ext A G6.newMap:=xA6.trans xm
  have xGm:Ext G G6.newMap:=x6.trans xm
  have hBl:B.nl≤G6.nl:=Nat.le_trans hB.nl xA6.nl
  have hbd2:n*w (sp l a)≤2000000:=Bd.le hbd'
  have hmn:P.length*w (sp l a)≤n*w (sp l a):=Nat.mul_le_mul_right _ hPn
  simp [-Int.natCast_add,u1,u3,u7,u8,u10,u25,u26,u27,lp,nm]
  refine Wp.bE ((fsts_H hm (hB.trans xAm) hBl ((xAm.obj _ h3).trans c3) (Nat.lt_of_lt_of_le h3 xAm.nx) (hl.ext xAm) ha (okl _ hmem) (hp.ext xGm) (fun p hp'=>⟨(hP p hp').1.ext xGm,(hP p hp').2⟩) (by omega) (hw1 _ hmem) P.length 0 _ G6.newMap (.slice none 0 0) [] (by omega) (by simp [clip_t,u1]) (by simp [clip_t,u3]) (by simp [clip_t,u10]) (by simp [clip_t]) (by simp [clip_t]) (by simp [clip_t]) (by simp [clip_t]) (by simp [clip_t]) (Kp.refl _ _) (Nat.lt_succ_self _) (MoF.start e inv tx _ _ (newMap_loop G6)) (by simp; omega)).mono ?_)
  rintro ⟨ee,τ2,G12⟩ ⟨q1,q2,q3,⟨M,m1,m2,m3⟩,q5⟩
  simp only at q1 q2 q3 m1 q5
  subst q1
  have v1:τ2 1=lV:=(q5 1 (by decide)).trans (by simp [clip_t,u1])
  have v3:τ2 3=Pp p3:=(q5 3 (by decide)).trans (by simp [clip_t,u3])
  have v8:τ2 8= .int .i64 (d:Int):=(q5 8 (by decide)).trans (by simp [clip_t,u8])
  have v10:τ2 10= .int .i64 (a:Int):=(q5 10 (by decide)).trans (by simp [clip_t,u10])
  have v25:τ2 25=rowv:=(q5 25 (by decide)).trans (by simp [clip_t,u25,e0])
  have v26:τ2 26= .int .i64 row.length:=(q5 26 (by decide)).trans (by simp [clip_t,u26])
  have v27:τ2 27= .int .i64 (i:Int):=(q5 27 (by decide)).trans (by simp [clip_t,u27])
  simp [-Int.natCast_add,v1,v8,v10,v25,v26,v27,k3,ho1,hw]
  rw [List.nil_append] at m1 m3
  rw [List.drop_zero] at m3
  obtain ⟨n1,_,mo,_⟩:=m1.own
  have xF:Ext A G12:=extKp xAm xA6.nl q2
  refine ih (i+1) _ (G12.room 7) s1 (d ||| 1 <<< a) (n*w (sp l a)) (by omega) (by simp [clip_t]) (by simp [clip_t,v3]) (by simp [clip_t]) (by simp [clip_t,e0]) (by simp [clip_t]) (by simp [clip_t]) (xF.room 7) hway' ho2 (fun x hx=>?_) ⟨M,?_,fun p hp=>⟨(m1.st p hp).1.ext ((Ext.refl _).room 7),(m1.st p hp).2⟩,by omega,m3 p0 hp0 an (by rw [hps]; exact ht) s1 (by rw [hps]; exact hn)⟩ hbd'
  ·rw [htk]
   rw [Nat.testBit_or,Bool.or_eq_true] at hx
   rcases hx with hx | hx
   ·exact List.mem_append_left _ (hdx x hx)
   ·refine List.mem_append_right _ (List.mem_singleton.2 ?_)
    rw [Nat.testBit_shiftLeft,Bool.and_eq_true,decide_eq_true_eq] at hx
    obtain ⟨g1,g2⟩:=hx
    by_cases h0:x - a=0
    ·omega
    ·obtain ⟨z,hz⟩:∃ z,x - a=z+1:=⟨x - a - 1,by omega⟩
     rw [hz] at g2; simp [Nat.testBit_succ] at g2
  ·have:=mo.is.ext ((Ext.refl G12).room 7)
   simpa [clip_t] using this
end
section
variable {α:Type} {orc:FuncId→Bool} {e:RowE α} {m:Mac α} {inv:List α→Prop} {tx:List α→ByteArray} {B:GS} {fv nv uv tv lV rowv:Value} {l:List Sp} {row:List Nat}
theorem fits_H (hm:MacC orc e m inv tx B fv nv uv tv) {G:GS} (hB:Ext B G) (hl:SlR rSp G lV l) (hlen:l.length≤50) (okl:∀ c∈l,okOp c.op) (hrow:SlR (rowsI .i64) G rowv (row.map fun (a:Nat)=>(a:Int))) (hrl:row.length≤3000) (w:Sp→Nat) (hw1:∀ c∈l,∀ s,inv s→(toldP m s c).length≤w c) (hbd:Bd 1 (row.map fun a=>w (sp l a))) {s2:List α} {d2:Nat} (hway:Way m l m.first 0 row s2 d2) (hov:ovrP l d2) :
  Wp ((E orc).cl 48 [.agg ⟨[fv,nv,uv,tv]⟩,lV,rowv] G) fun r=>r.1= .bool true∧Ext G r.2:=by
 refine Wp.ref (f48 (exL_ok Q orc) _ _ _ G) ?_
 have hfs:=hm.first.ext hB
 obtain ⟨fa,fc,ef⟩:=hm.first.len
 obtain ⟨ra,rc,er⟩:=hrow.len
 rw [List.length_map] at er
 have lr:∀ x,ln Q true x rowv=some (.int .i64 row.length):=fun x=>by rw [er]; simp
 subst ef
 have hnc:=way_nc hway
 have c3:((G.push ⟨[.slice fa m.first.length fc,nv,uv,tv],1,false,1⟩).push ⟨[.slice fa m.first.length fc],1,false,1⟩).obj G.nx=some ⟨[.slice fa m.first.length fc,nv,uv,tv],1,false,1⟩:=by simp
 have xx:Ext G ((G.push ⟨[.slice fa m.first.length fc,nv,uv,tv],1,false,1⟩).push ⟨[.slice fa m.first.length fc],1,false,1⟩):=((Ext.refl G).push _).push _
 have s1:SlR eV1 ((G.push ⟨[.slice fa m.first.length fc,nv,uv,tv],1,false,1⟩).push ⟨[.slice fa m.first.length fc],1,false,1⟩) (.slice (some ⟨G.nx+1,0,none⟩) 1 1) [(⟨.slice fa m.first.length fc,rfl⟩:V1)]:=SlR.one eV1 (G.push ⟨[.slice fa m.first.length fc,nv,uv,tv],1,false,1⟩) (⟨.slice fa m.first.length fc,rfl⟩:V1)
 have nA:((G.push ⟨[.slice fa m.first.length fc,nv,uv,tv],1,false,1⟩).push ⟨[.slice fa m.first.length fc],1,false,1⟩).nx=G.nx+2:=by simp
 simp [-Int.natCast_add,s48,lr]
 generalize (G.push ⟨[.slice fa m.first.length fc,nv,uv,tv],1,false,1⟩).push ⟨[.slice fa m.first.length fc],1,false,1⟩=A at *
 refine Wp.bE ((frow_H hm (hB.trans xx) c3 (by omega) (hl.ext xx) hlen okl (hrow.ext xx) hrl w hw1 hnc row.length 0 _ A m.first 0 1 (by omega) (by simp [clip_t]) (by simp [clip_t]) (by simp [clip_t]) (by simp [clip_t]) (by simp [clip_t]) (by simp [clip_t]) (Ext.refl A) (by rw [List.drop_zero]; exact hway) (by decide) (fun x hx=>by simp at hx) ⟨[(⟨.slice fa m.first.length fc,rfl⟩,m.first)],?_,fun p hp=>?_,by simp,_,List.mem_singleton.2 rfl,rfl⟩ (by rw [List.drop_zero]; exact hbd)).mono ?_)
 ·simpa [clip_t] using s1
 ·rw [List.mem_singleton.1 hp]; exact ⟨hfs.ext xx,hm.inv0⟩
 rintro ⟨ee,τ,G9⟩ ⟨q1,xA,q3,q4,q5,n',P,p1,p2,p3,p0,hp0,p4⟩
 simp only at q1 xA q3 q4 p1 p2
 subst q1
 obtain ⟨pa,pc,ep⟩:=p1.len
 rw [List.length_map] at ep
 have hpos:0<P.length:=List.length_pos_of_mem hp0
 have hpos':(0:Int)<P.length:=by omega
 obtain ⟨G',xo,⟨eo,_⟩ | ⟨_,ho⟩⟩:=over_ok orc ((hl.ext xx).ext xA) hlen q5
 ·simp [-Int.natCast_add,q3,q4,ep,hpos',hpos,eo]
  exact (xx.trans xA).trans xo
 ·exact absurd hov ho
end
section
variable {α:Type} {orc:FuncId→Bool} {e:RowE α} {m:Mac α} {inv:List α→Prop} {tx:List α→ByteArray} {B A:GS} {fv nv uv tv lV rowv:Value} {l:List Sp} {p3 lv:Nat}
theorem fwait_P (orc:FuncId→Bool) (hs:SlR rSp A lV l) (hlen:l.length≤50) {d a:Nat} (hd:d<2 ^ 60) (ha:a<l.length) (hn:∀ i,i<l.length→d.testBit i=true→ahead (sp l a) (sp l i)=false):∀ (k i:Nat) (τ:Env) (G:GS),i+k=l.length→τ 1=lV→τ 8= .int .i64 (d:Int)→τ 10= .int .i64 (a:Int)→τ 32= .int .i64 l.length→τ 33= .int .i64 (i:Int)→Ext A G →
  Wp ((exL Q orc).lpx 49 1 τ G) fun q=>q.1= .exit 2∧Ext A q.2.2∧Kep [1,3,7,8,10,25,26,27] τ q.2.1:=by
 intro k
 induction k with
 | zero =>
  intro i τ G hi t1 t8 t10 t32 t33 hA
  have hi':i=l.length:=by omega
  subst hi'
  refine Wp.lp (l49_1 (exL_ok Q orc)) ?_
  simp [b49_1,clip_t,t1,t8,t10,t32,t33,hA,Kep]
 | succ k ih =>
  intro i τ G hi t1 t8 t10 t32 t33 hA
  have hlt:i<l.length:=by omega
  have hw:IntKind.wrap .i64 ((i:Int)+1)=((i+1:Nat):Int):=wrap64 (by omega) (by omega)
  have h1:(i:Int)<l.length:=by omega
  have h2:(0:Int)≤i:=by omega
  have h3:¬ ((i:Int)<0):=by omega
  have k1:(a:Int)<l.length:=by omega
  have k2:(0:Int)≤a:=by omega
  obtain ⟨b,o,c,e0,hbG,_,hz⟩:=(hs.ext hA).at hlt
  obtain ⟨b',o',c',e0',_,_,hy⟩:=(hs.ext hA).at ha
  have e1:=e0.symm.trans e0'
  simp only [Value.slice.injEq,Option.some.injEq,Addr.mk.injEq,and_true,true_and] at e1
  obtain ⟨⟨rfl,rfl⟩,rfl⟩:=e1
  have hb:=and1 hd (show i<60 by omega)
  have hsp:=sp_at hlt
  have hspa:=sp_at ha
  rw [rSp_sz] at hz hy
  rw [← hsp,loadA_eq] at hz
  rw [← hspa,loadA_eq] at hy
  generalize hri:rSp.row (sp l i)=ri at *
  generalize hra:rSp.row (sp l a)=ra at *
  have next:∀ (τ':Env) (G':GS),τ' 1=lV→τ' 8= .int .i64 (d:Int)→τ' 10= .int .i64 (a:Int)→τ' 32= .int .i64 l.length→τ' 33= .int .i64 ((i+1:Nat):Int)→Ext A G' →Kep [1,3,7,8,10,25,26,27] τ τ' →
    Wp ((exL Q orc).lpx 49 1 τ' G') fun q=>q.1= .exit 2∧Ext A q.2.2∧Kep [1,3,7,8,10,25,26,27] τ q.2.1:=by
   intro τ' G' s1 s8 s10 s32 s33 hE hk
   refine Wp.mono (ih (i+1) τ' G' (by omega) s1 s8 s10 s32 s33 hE) fun q hq=>?_
   exact ⟨hq.1,hq.2.1,hk.trans hq.2.2⟩
  refine Wp.lp (l49_1 (exL_ok Q orc)) ?_
  cases hbit:d.testBit i with
  | false =>
   rw [hbit] at hb
   simp [-Int.natCast_add,b49_1,clip_t,t1,t8,t10,t32,t33,e0,h1,h2,h3,hlt,hw,hb]
   exact next _ _ (by simp [clip_t,e0]) (by simp [clip_t]) (by simp [clip_t]) (by simp [clip_t]) (by simp [clip_t]) (hA.room 16) (by simp [Kep,clip_t,t1,t8,t10,e0])
  | true =>
   rw [hbit] at hb
   obtain ⟨⟨r,G'⟩,e5,rfl,x5⟩:=ahead_ok orc (sp l a) (sp l i) (G.room 16)
   rw [hri,hra,hn i hlt hbit] at e5
   simp only at e5 x5
   simp [-Int.natCast_add,b49_1,clip_t,t1,t8,t10,t32,t33,e0,h1,h2,h3,hlt,hw,hb,k1,k2,hz,hy,e5]
   exact next _ _ (by simp [clip_t,e0]) (by simp [clip_t]) (by simp [clip_t]) (by simp [clip_t]) (by simp [clip_t]) ((hA.room 16).trans x5) (by simp [Kep,clip_t,t1,t8,t10,e0])
end
section
variable {α:Type} {orc:FuncId→Bool} {e:RowE α} {m:Mac α} {inv:List α→Prop} {tx:List α→ByteArray} {B A:GS} {fv nv uv tv lV:Value} {l:List Sp} {p3 lv:Nat}
theorem fans_P (hm:MacC orc e m inv tx B fv nv uv tv) (hB:Ext B A) (hBl:B.nl≤lv) (c3:A.obj p3=some ⟨[fv,nv,uv,tv],1,false,1⟩) (h3:p3<A.nx) (hl:SlR rSp A lV l) {a:Nat} (ha:a<l.length) (okl:okOp (sp l a).op) {sv:Value} {s:List α} (hs:SlR e A sv s) (hi:inv s) {av:Value} {L:List An3} (hL:L.length≤2000000) :
  ∀ (k j:Nat) (τ:Env) (G:GS) (mv:Value) (M:List (V1×List α)),j+k=L.length→τ 1=lV→τ 3=Pp p3→τ 10= .int .i64 (a:Int)→τ 12=mv→τ 13= .map (some lv)→τ 15=sv→τ 66=av→τ 67= .int .i64 L.length→τ 68= .int .i64 (j:Int)→Kp lv A G→lv<G.nl→SlR eAn G av L→MoF e inv tx A lv G mv M→M.length+k≤2000000 →
  Wp ((exL Q orc).lpx 49 3 τ G) fun q=>q.1= .exit 6∧Kp lv A q.2.2∧lv<q.2.2.nl∧Fnd e m inv tx A lv q.2.2 (q.2.1 12) M k s (sp l a).op (L.drop j)∧Kep [1,3,8,10,13,25,26,27,54,55,56] τ q.2.1:=by
 intro k
 induction k with
 | zero =>
  intro j τ G mv M hj t1 t3 t10 t12 t13 t15 t66 t67 t68 hK hlv hav hM hc
  have hj':j=L.length:=by omega
  subst hj'
  refine Wp.lp (l49_3 (exL_ok Q orc)) ?_
  simp [b49_3,clip_t,t1,t3,t10,t12,t13,t15,t66,t67,t68,-List.drop_length]
  exact ⟨hK,hlv,by rw [List.drop_length]; exact Fnd.zero hM,by simp [Kep,clip_t,t1,t3,t10,t13]⟩
 | succ k ih =>
  intro j τ G mv M hj t1 t3 t10 t12 t13 t15 t66 t67 t68 hK hlv hav hM hc
  have hlt:j<L.length:=by omega
  have hw:IntKind.wrap .i64 ((j:Int)+1)=((j+1:Nat):Int):=wrap64 (by omega) (by omega)
  have h1:(j:Int)<L.length:=by omega
  have h2:(0:Int)≤j:=by omega
  have k1:(a:Int)<l.length:=by omega
  have k2:(0:Int)≤a:=by omega
  obtain ⟨b,o,c,e0,hbG,_,hz⟩:=hav.at hlt
  rw [eAn_sz,loadA_eq] at hz
  rw [List.drop_eq_getElem_cons hlt]
  have hne:L≠[]:=by rintro rfl; simp at hlt
  generalize L[j]=an at *
  obtain ⟨b',o',c',e1,hb'⟩:=ld_part (slrKp hl hK) ha 3 3 (by decide)
  obtain ⟨_,_,_,e1',hbl,_⟩:=(slrKp hl hK).at ha
  rw [e1] at e1'
  simp only [Value.slice.injEq,Option.some.injEq,Addr.mk.injEq,and_true,true_and] at e1'
  obtain ⟨⟨rfl,rfl⟩,rfl⟩:=e1'
  rw [← sp_at ha,rSp_sz,loadA_eq,show ((rSp.row (sp l a)).drop 3).take 4=rowOp (sp l a).op from rfl] at hb'
  have hst:stO 3 0 (.agg ⟨eAn.row an⟩) (some ⟨z27,1,false,1⟩)=some ⟨eAn.row an,1,false,1⟩:=rfl
  have hld:loadO 3 0 (some ⟨eAn.row an,1,false,1⟩)=some (.agg ⟨eAn.row an⟩):=loadO_whole rfl (by decide)
  have hE:Ext G (((G.push ⟨z27,1,false,1⟩).put G.nx ⟨eAn.row an,1,false,1⟩).room 15):=(((Ext.refl G).push _).put (Nat.le_refl _) _).room 15
  have o3:G.obj p3=some ⟨[fv,nv,uv,tv],1,false,1⟩:=(hK.obj _ h3).trans c3
  have o5:(((G.push ⟨z27,1,false,1⟩).put G.nx ⟨eAn.row an,1,false,1⟩).room 15).obj p3=some ⟨[fv,nv,uv,tv],1,false,1⟩:=(hE.obj _ (by have:=hK.nx; omega)).trans o3
  have hb5:(((G.push ⟨z27,1,false,1⟩).put G.nx ⟨eAn.row an,1,false,1⟩).room 15).obj b' =G.obj b':=hE.obj _ hbl
  obtain ⟨⟨r,G12⟩,e5,x5,v',hr5⟩:=hm.next _ sv s (sp l a).op an ((extKp hB hBl hK).trans hE) ((slrKp hs hK).ext hE) hi okl
  simp only at x5 hr5
  have xG:=hE.trans x5
  have hK12:Kp lv A G12:=hK.trans (Kp.ext xG)
  have hM0:=hM.ext hE hlv
  have o12:G12.obj p3=some ⟨[fv,nv,uv,tv],1,false,1⟩:=(hK12.obj _ h3).trans c3
  have l12:lv<G12.nl:=Nat.lt_of_lt_of_le hlv xG.nl
  have next:∀ (τ':Env) (G':GS) (mv':Value) (M1:List (V1×List α)),τ' 1=lV→τ' 3=Pp p3→τ' 10= .int .i64 (a:Int)→τ' 12=mv' →τ' 13= .map (some lv)→τ' 15=sv→τ' 66=av→τ' 67= .int .i64 L.length→τ' 68= .int .i64 ((j+1:Nat):Int)→Kp lv A G' →lv<G'.nl→SlR eAn G' av L→MoF e inv tx A lv G' mv' M1→M1.length+k≤2000000→Kep [1,3,8,10,13,25,26,27,54,55,56] τ τ' →(∀ G2 mv2,Fnd e m inv tx A lv G2 mv2 M1 k s (sp l a).op (L.drop (j+1))→Fnd e m inv tx A lv G2 mv2 M (k+1) s (sp l a).op (an::L.drop (j+1))) →
    Wp ((exL Q orc).lpx 49 3 τ' G') fun q=>q.1= .exit 6∧Kp lv A q.2.2∧lv<q.2.2.nl∧Fnd e m inv tx A lv q.2.2 (q.2.1 12) M (k+1) s (sp l a).op (an::L.drop (j+1))∧Kep [1,3,8,10,13,25,26,27,54,55,56] τ q.2.1:=by
   intro τ' G' mv' M1 s1 s3 s10 s12 s13 s15 s66 s67 s68 q1 q2 q3 q4 q5 q6 q7
   refine Wp.mono (ih (j+1) τ' G' mv' M1 (by omega) s1 s3 s10 s12 s13 s15 s66 s67 s68 q1 q2 q3 q4 q5) fun q hq=>?_
   exact ⟨hq.1,hq.2.1,hq.2.2.1,q7 _ _ hq.2.2.2.1,q6.trans hq.2.2.2.2⟩
  generalize hop:(sp l a).op=op at *
  generalize hG5:((G.push ⟨z27,1,false,1⟩).put G.nx ⟨eAn.row an,1,false,1⟩).room 15=G5 at *
  refine Wp.lp (l49_3 (exL_ok Q orc)) ?_
  rcases hr5 with ⟨rfl,s',hn,hi',hsl⟩ | ⟨rfl,hn⟩
  ·obtain ⟨⟨tr,G12'⟩,e6,h61,h62⟩:=hm.text G12 v' s' (extKp hB hBl hK12) hsl.is hi'
   simp only at h61 h62
   subst h61 h62
   obtain ⟨es,hes,hge,hmem⟩:=hM.es
   have hes12:G12'.loop lv=some (mpL es):=(xG.loop _ hlv).trans hes
   have hu:Q.underlying 190=some (.map 9 3):=Tryz.underlying190
   by_cases hit:∃ p∈M,tx p.2=tx s'
   ·obtain ⟨v2,e7,_⟩:=look_hit keyStr hu hes12 hge ⟨_,rfl⟩ ((hmem _).2 hit)
    simp [-Int.natCast_add,-cValue_func,-eAn_row,b49_3,clip_t,t1,t3,t10,t12,t13,t15,t66,t67,t68,e0,h1,h2,hlt,hz,hst,hld,hG5,o5,hb5,e1,k1,k2,ha,hb',e5,pExtract,getN_zero,getN_succ,o12,e6,e7,hw]
    exact next _ _ mv M (by simp [clip_t,e1]) (by simp [clip_t]) (by simp [clip_t]) (by simp [clip_t]) (by simp [clip_t]) (by simp [clip_t]) (by simp [clip_t,e0]) (by simp [clip_t]) (by simp [clip_t]) hK12 l12 (hav.ext xG) (hM.ext xG hlv) (by omega) (by simp [Kep,clip_t,t1,t3,t10,t13,e1]) fun G2 mv2 hf=>hf.skip fun s1 hs1=>by
     rw [hn] at hs1; cases hs1
     obtain ⟨p,hp,he⟩:=hit
     exact ⟨p,hp,hm.inj _ _ (hM.st p hp).2 hi' he⟩
   ·obtain ⟨ma,mc,hmv⟩:=hM.len
    have hmiss:∀ q∈es,q.1≠ .string (tx s'):=fun q hq h=>hit ((hmem _).1 ⟨q,hq,h⟩)
    have e7:=look_miss (z:=.int .i64 0) keyStr hu (by kernel_rfl) ⟨_,rfl⟩ hes12 hge ⟨_,rfl⟩ hmiss
    have e8:=map_put (v:=.int .i64 (M.length:Int)) keyStr hu hes12 hge ⟨_,rfl⟩ ⟨_,rfl⟩ hmiss
    obtain ⟨mv',G',e9,k9,m9,a9,n9⟩:=MoF.add (hK.trans (Kp.ext hE)) x5 hM0 (Nat.lt_of_lt_of_le hlv hE.nl) hsl hi' hes12 hge hmem (by omega) (.int .i64 (M.length:Int)) ⟨_,rfl⟩
    obtain ⟨va,vc,hva⟩:=hsl.is.len
    subst hva
    have lm:∀ x,ln Q true x mv=some (.int .i64 M.length):=fun x=>by rw [hmv]; simp
    simp [-Int.natCast_add,-cValue_func,-eAn_row,b49_3,clip_t,t1,t3,t10,t12,t13,t15,t66,t67,t68,e0,h1,h2,hlt,hz,hst,hld,hG5,o5,hb5,e1,k1,k2,ha,hb',e5,pExtract,getN_zero,getN_succ,o12,e6,e7,e8,hw,lm,e9]
    have l9:lv<G'.nl:=by
     obtain ⟨es9,q,_⟩:=m9.es
     exact Nat.lt_of_lt_of_le l12 n9
    exact next _ _ mv' _ (by simp [clip_t,e1]) (by simp [clip_t]) (by simp [clip_t]) (by simp [clip_t]) (by simp [clip_t]) (by simp [clip_t]) (by simp [clip_t,e0]) (by simp [clip_t]) (by simp [clip_t]) k9 l9 (a9 _ _ hne (hav.ext xG)) m9 (by simp; omega) (by simp [Kep,clip_t,t1,t3,t10,t13,e1]) fun G2 mv2 hf=>hf.more hn
  ·simp [-Int.natCast_add,-cValue_func,-eAn_row,b49_3,clip_t,t1,t3,t10,t12,t13,t15,t66,t67,t68,e0,h1,h2,hlt,hz,hst,hld,hG5,o5,hb5,e1,k1,k2,ha,hb',e5,pExtract,getN_zero,getN_succ,hw]
   exact next _ _ mv M (by simp [clip_t,e1]) (by simp [clip_t]) (by simp [clip_t]) (by simp [clip_t]) (by simp [clip_t]) (by simp [clip_t]) (by simp [clip_t,e0]) (by simp [clip_t]) (by simp [clip_t]) hK12 l12 (hav.ext xG) (hM.ext xG hlv) (by omega) (by simp [Kep,clip_t,t1,t3,t10,t13,e1]) fun G2 mv2 hf=>hf.skip fun s1 hs1=>by
    rw [hn] at hs1; cases hs1
end
section
variable {α:Type} {orc:FuncId→Bool} {e:RowE α} {m:Mac α} {inv:List α→Prop} {tx:List α→ByteArray} {B A:GS} {fv nv uv tv lV:Value} {l:List Sp} {p3 lv:Nat}
theorem fsts_P (hm:MacC orc e m inv tx B fv nv uv tv) (hB:Ext B A) (hBl:B.nl≤lv) (c3:A.obj p3=some ⟨[fv,nv,uv,tv],1,false,1⟩) (h3:p3<A.nx) (hl:SlR rSp A lV l) {a:Nat} (ha:a<l.length) (okl:okOp (sp l a).op) {P:List (V1×List α)} {pv:Value} (hp:SlR eV1 A pv (P.map (·.1))) (hP:∀ p∈P,SlR e A p.1.1 p.2∧inv p.2) (hPl:P.length≤2000000) {w:Nat} (hw1:∀ s,inv s→(toldP m s (sp l a)).length≤w) :
  ∀ (k i:Nat) (τ:Env) (G:GS) (mv:Value) (M:List (V1×List α)),i+k=P.length→τ 1=lV→τ 3=Pp p3→τ 10= .int .i64 (a:Int)→τ 12=mv→τ 13= .map (some lv)→τ 54=pv→τ 55= .int .i64 P.length→τ 56= .int .i64 (i:Int)→Kp lv A G→lv<G.nl→MoF e inv tx A lv G mv M→M.length+k*w≤2000000 →
  Wp ((exL Q orc).lpx 49 2 τ G) fun q=>q.1= .exit 4∧Kp lv A q.2.2∧lv<q.2.2.nl∧FndS e m inv tx A lv q.2.2 (q.2.1 12) M (k*w) (sp l a) (P.drop i)∧Kep [1,3,8,10,25,26,27] τ q.2.1:=by
 intro k
 induction k with
 | zero =>
  intro i τ G mv M hj t1 t3 t10 t12 t13 t54 t55 t56 hK hlv hM hc
  have hj':i=P.length:=by omega
  subst hj'
  refine Wp.lp (l49_2 (exL_ok Q orc)) ?_
  simp [b49_2,clip_t,t1,t3,t10,t54,t55,t56,-List.drop_length]
  exact ⟨hK,hlv,by rw [List.drop_length]; exact FndS.zero (by simpa [clip_t,t12] using hM),by simp [Kep,clip_t,t1,t3,t10]⟩
 | succ k ih =>
  intro i τ G mv M hj t1 t3 t10 t12 t13 t54 t55 t56 hK hlv hM hc
  have hlt:i<P.length:=by omega
  have hltm:i<(P.map (·.1)).length:=by simpa using hlt
  have hw:IntKind.wrap .i64 ((i:Int)+1)=((i+1:Nat):Int):=wrap64 (by omega) (by omega)
  have h1:(i:Int)<P.length:=by omega
  have h2:(0:Int)≤i:=by omega
  have k1:(a:Int)<l.length:=by omega
  have k2:(0:Int)≤a:=by omega
  obtain ⟨b,o,c,e0,hbG,hz,_⟩:=(slrKp hp hK).at hltm
  have hz:=hz 0 (by decide)
  rw [eV1_sz,eV1_row,List.getElem_map] at hz
  simp only [List.length_map] at e0
  simp at hz
  rw [List.drop_eq_getElem_cons hlt]
  obtain ⟨hs0,hi⟩:=hP P[i] (List.getElem_mem hlt)
  generalize P[i]=p at *
  obtain ⟨⟨sv,hone⟩,s⟩:=p
  simp only at hs0 hi hz
  have hs:=slrKp hs0 hK
  obtain ⟨b',o',c',e1,hbl,_,hy⟩:=(slrKp hl hK).at ha
  rw [← sp_at ha,rSp_sz,loadA_eq] at hy
  have o3:G.obj p3=some ⟨[fv,nv,uv,tv],1,false,1⟩:=(hK.obj _ h3).trans c3
  have hld:loadO 4 0 (some ⟨[fv,nv,uv,tv],1,false,1⟩)=some (.agg ⟨[fv,nv,uv,tv]⟩):=loadO_whole rfl (by decide)
  have x9:Ext G (G.room 9):=(Ext.refl G).room 9
  obtain ⟨⟨av,G6⟩,e5,x6,w6,l6⟩:=told_P orc hm (c:=sp l a) ((extKp hB hBl hK).trans x9) (hs.ext x9) hi okl
  simp only at x6 w6
  have xG:=x9.trans x6
  have hK6:Kp lv A G6:=hK.trans (Kp.ext xG)
  obtain ⟨va,vc,eva⟩:=w6.len
  have la:∀ x,ln Q true x av=some (.int .i64 (toldP m s (sp l a)).length):=fun x=>by rw [eva]; simp
  have hwk:(k+1)*w=w+k*w:=by rw [Nat.add_mul]; omega
  have hLw:=hw1 s hi
  obtain ⟨sa,sc,esv⟩:=hs.len
  generalize hrow:rSp.row (sp l a)=ra at *
  refine Wp.lp (l49_2 (exL_ok Q orc)) ?_
  simp [-Int.natCast_add,-cValue_func,b49_2,clip_t,t1,t3,t10,t54,t55,t56,e0,h1,h2,hlt,hz,o3,hld,e1,k1,k2,ha,hy,e5,la]
  refine Wp.bE ((fans_P hm hB hBl c3 h3 hl ha okl hs0 hi (by omega) (toldP m s (sp l a)).length 0 _ G6 mv M (by omega) (by simp [clip_t,t1,e1]) (by simp [clip_t,t3]) (by simp [clip_t,t10]) (by simp [clip_t,t12]) (by simp [clip_t,t13]) (by simp [clip_t]) (by simp [clip_t]) (by simp [clip_t]) (by simp [clip_t]) hK6 (Nat.lt_of_lt_of_le hlv xG.nl) w6 (hM.ext xG hlv) (by omega)).mono ?_)
  rintro ⟨ee,τ',G'⟩ ⟨q1,q2,q3,q4,q5⟩
  simp only at q1 q2 q3 q4 q5
  subst q1
  obtain ⟨M1,m1,m2,m3⟩:=q4
  simp [-Int.natCast_add,q5 1 (by decide),q5 3 (by decide),q5 10 (by decide),q5 54 (by decide),q5 55 (by decide),q5 56 (by decide),clip_t,t1,t3,t10,t54,t55,t56,hw,e0,e1]
  refine Wp.mono (ih (i+1) _ G' (τ' 12) (M++M1) (by omega) (by simp [clip_t,e1]) (by simp [clip_t]) (by simp [clip_t]) (by simp [clip_t]) (by simp [clip_t,q5 13 (by decide),t13]) (by simp [clip_t,e0]) (by simp [clip_t]) (by simp [clip_t]) q2 q3 m1 (by simp; omega)) fun q hq=>?_
  exact ⟨hq.1,hq.2.1,hq.2.2.1,FndS.more (by simpa using m3) (by omega) hq.2.2.2.1,Kep.trans (by simp [Kep,clip_t,t1,t3,t10,e1,q5 8 (by decide),q5 25 (by decide),q5 26 (by decide),q5 27 (by decide)]) hq.2.2.2.2⟩
end
section
variable {α:Type} {orc:FuncId→Bool} {e:RowE α} {m:Mac α} {inv:List α→Prop} {tx:List α→ByteArray} {B A:GS} {fv nv uv tv lV rowv:Value} {l:List Sp} {p3:Nat} {row:List Nat}
theorem frow_P (hm:MacC orc e m inv tx B fv nv uv tv) (hB:Ext B A) (c3:A.obj p3=some ⟨[fv,nv,uv,tv],1,false,1⟩) (h3:p3<A.nx) (hl:SlR rSp A lV l) (hlen:l.length≤50) (okl:∀ c∈l,okOp c.op) (hrow:SlR (rowsI .i64) A rowv (row.map fun (a:Nat)=>(a:Int))) (hrl:row.length≤3000) (w:Sp→Nat) (hw1:∀ c∈l,∀ s,inv s→(toldP m s c).length≤w c)
  (hnc:∀ (p q:Nat) (hpq:p<q) (hq:q<row.length),ahead (sp l row[q]) (sp l (row[p]'(by omega)))=false) {s2:List α} {d2:Nat} :
  ∀ (k i:Nat) (τ:Env) (G:GS) (s:List α) (d n:Nat),i+k=row.length→τ 1=lV→τ 3=Pp p3→τ 8= .int .i64 (d:Int)→τ 25=rowv→τ 26= .int .i64 row.length→τ 27= .int .i64 (i:Int)→Ext A G→Way m l s d (row.drop i) s2 d2→d<2 ^ 60→(∀ x,d.testBit x=true→x∈row.take i)→StsF e inv G (τ 7) s n→Bd n ((row.drop i).map fun a=>w (sp l a)) →
  Wp ((exL Q orc).lpx 49 0 τ G) fun q=>q.1= .exit 0∧Ext A q.2.2∧q.2.1 1=lV∧q.2.1 8= .int .i64 (d2:Int)∧d2<2 ^ 60∧∃ n',StsF e inv q.2.2 (q.2.1 7) s2 n':=by
 intro k
 induction k with
 | zero =>
  intro i τ G s d n hi t1 t3 t8 t25 t26 t27 hA hway hd hdx hst hbd
  have hi':i=row.length:=by omega
  subst hi'
  rw [List.drop_length] at hway
  cases hway
  refine Wp.lp (l49_0 (exL_ok Q orc)) ?_
  simp [b49_0,clip_t,t1,t25,t26,t27,hA,t8]
  exact ⟨hd,n,hst⟩
 | succ k ih =>
  intro i τ G s d n hi t1 t3 t8 t25 t26 t27 hA hway hd hdx hst hbd
  have hlt:i<row.length:=by omega
  have hltm:i<(row.map fun (a:Nat)=>(a:Int)).length:=by simpa using hlt
  have hw:IntKind.wrap .i64 ((i:Int)+1)=((i+1:Nat):Int):=wrap64 (by omega) (by omega)
  have h1:(i:Int)<row.length:=by omega
  have h2:(0:Int)≤i:=by omega
  obtain ⟨b,o,c,e0,hbG,hz,_⟩:=(hrow.ext hA).at hltm
  have hz:=hz 0 (by decide)
  simp [rowsI] at hz
  simp only [List.length_map] at e0
  have hncl:=hnc
  rw [List.drop_eq_getElem_cons hlt] at hway hbd
  have htk:row.take (i+1)=row.take i++[row[i]]:=by rw [List.take_append_getElem hlt]
  have hnc1:∀ x,d.testBit x=true→ahead (sp l row[i]) (sp l x)=false:=fun x hx=>by
   obtain ⟨p,hp,he⟩:=List.getElem_of_mem (hdx x hx)
   rw [List.length_take] at hp
   rw [List.getElem_take] at he
   rw [← he]
   exact hnc p i (by omega) hlt
  generalize row[i]=a at *
  cases hway with
  | @cons _ _ _ an s1 _ _ _ ha hr ht hn hway' =>
  obtain ⟨hbn,hbd'⟩:=hbd
  have k3:¬ ((a:Int)<0):=by omega
  have hmem:sp l a∈l:=by rw [sp_at ha]; exact List.getElem_mem ha
  obtain ⟨P,hp,hP,hPn,p0,hp0,hps⟩:=hst
  obtain ⟨lc,lcc,el⟩:=hl.len
  have ll:∀ x,ln Q true x lV=some (.int .i64 l.length):=fun x=>by rw [el]; simp
  obtain ⟨ho1,ho2⟩:=or1 hd (show a<60 by omega)
  refine Wp.lp (l49_0 (exL_ok Q orc)) ?_
  simp [-Int.natCast_add,b49_0,clip_t,t1,t25,t26,t27,e0,h1,h2,hlt,hz,ll]
  refine Wp.bE ((fwait_P orc (hl.ext hA) hlen hd ha (fun x _ hb=>hnc1 x hb) l.length 0 _ G (by omega) (by simp [clip_t,t1]) (by simp [clip_t,t8]) (by simp [clip_t]) (by simp [clip_t]) (by simp [clip_t]) (Ext.refl G)).mono ?_)
  rintro ⟨ee,τ1,G6⟩ ⟨q1,x6,kp⟩
  simp only at q1 x6 kp
  subst q1
  have u1:τ1 1=lV:=(kp 1 (by decide)).trans (by simp [clip_t,t1])
  have u3:τ1 3=Pp p3:=(kp 3 (by decide)).trans (by simp [clip_t,t3])
  have u7:τ1 7=τ 7:=(kp 7 (by decide)).trans (by simp [clip_t])
  have u8:τ1 8= .int .i64 (d:Int):=(kp 8 (by decide)).trans (by simp [clip_t,t8])
  have u10:τ1 10= .int .i64 (a:Int):=(kp 10 (by decide)).trans (by simp [clip_t])
  have u25:τ1 25=rowv:=(kp 25 (by decide)).trans (by simp [clip_t,t25,e0])
  have u26:τ1 26= .int .i64 row.length:=(kp 26 (by decide)).trans (by simp [clip_t,t26])
  have u27:τ1 27= .int .i64 (i:Int):=(kp 27 (by decide)).trans (by simp [clip_t,t27])
  generalize hpv:τ 7=pv at *
  obtain ⟨sa,sc,es⟩:=hp.len
  rw [List.length_map] at es
  have lp:∀ x,ln Q true x pv=some (.int .i64 P.length):=fun x=>by rw [es]; simp
  have xA6:Ext A G6:=hA.trans x6
  have xm:Ext G6 G6.newMap:=⟨Nat.le_refl _,fun _ _=>rfl,Nat.le_succ _,fun k hk=>by
   show (G6.pushLoop _).loop k=_
   rw [GS.loop_push,if_neg (by omega)]⟩
  have xAm:Ext A G6.newMap:=xA6.trans xm
  have xGm:Ext G G6.newMap:=x6.trans xm
  have hBl:B.nl≤G6.nl:=Nat.le_trans hB.nl xA6.nl
  have hbd2:n*w (sp l a)≤2000000:=Bd.le hbd'
  have hmn:P.length*w (sp l a)≤n*w (sp l a):=Nat.mul_le_mul_right _ hPn
  simp [-Int.natCast_add,u1,u3,u7,u8,u10,u25,u26,u27,lp,nm]
  refine Wp.bE ((fsts_P hm (hB.trans xAm) hBl ((xAm.obj _ h3).trans c3) (Nat.lt_of_lt_of_le h3 xAm.nx) (hl.ext xAm) ha (okl _ hmem) (hp.ext xGm) (fun p hp'=>⟨(hP p hp').1.ext xGm,(hP p hp').2⟩) (by omega) (hw1 _ hmem) P.length 0 _ G6.newMap (.slice none 0 0) [] (by omega) (by simp [clip_t,u1]) (by simp [clip_t,u3]) (by simp [clip_t,u10]) (by simp [clip_t]) (by simp [clip_t]) (by simp [clip_t]) (by simp [clip_t]) (by simp [clip_t]) (Kp.refl _ _) (Nat.lt_succ_self _) (MoF.start e inv tx _ _ (newMap_loop G6)) (by simp; omega)).mono ?_)
  rintro ⟨ee,τ2,G12⟩ ⟨q1,q2,q3,⟨M,m1,m2,m3⟩,q5⟩
  simp only at q1 q2 q3 m1 q5
  subst q1
  have v1:τ2 1=lV:=(q5 1 (by decide)).trans (by simp [clip_t,u1])
  have v3:τ2 3=Pp p3:=(q5 3 (by decide)).trans (by simp [clip_t,u3])
  have v8:τ2 8= .int .i64 (d:Int):=(q5 8 (by decide)).trans (by simp [clip_t,u8])
  have v10:τ2 10= .int .i64 (a:Int):=(q5 10 (by decide)).trans (by simp [clip_t,u10])
  have v25:τ2 25=rowv:=(q5 25 (by decide)).trans (by simp [clip_t,u25,e0])
  have v26:τ2 26= .int .i64 row.length:=(q5 26 (by decide)).trans (by simp [clip_t,u26])
  have v27:τ2 27= .int .i64 (i:Int):=(q5 27 (by decide)).trans (by simp [clip_t,u27])
  simp [-Int.natCast_add,v1,v8,v10,v25,v26,v27,k3,ho1,hw]
  rw [List.nil_append] at m1 m3
  rw [List.drop_zero] at m3
  obtain ⟨n1,_,mo,_⟩:=m1.own
  have xF:Ext A G12:=extKp xAm xA6.nl q2
  refine ih (i+1) _ (G12.room 7) s1 (d ||| 1 <<< a) (n*w (sp l a)) (by omega) (by simp [clip_t]) (by simp [clip_t,v3]) (by simp [clip_t]) (by simp [clip_t,e0]) (by simp [clip_t]) (by simp [clip_t]) (xF.room 7) hway' ho2 (fun x hx=>?_) ⟨M,?_,fun p hp=>⟨(m1.st p hp).1.ext ((Ext.refl _).room 7),(m1.st p hp).2⟩,by omega,m3 p0 hp0 an (by rw [hps]; exact ht) s1 (by rw [hps]; exact hn)⟩ hbd'
  ·rw [htk]
   rw [Nat.testBit_or,Bool.or_eq_true] at hx
   rcases hx with hx | hx
   ·exact List.mem_append_left _ (hdx x hx)
   ·refine List.mem_append_right _ (List.mem_singleton.2 ?_)
    rw [Nat.testBit_shiftLeft,Bool.and_eq_true,decide_eq_true_eq] at hx
    obtain ⟨g1,g2⟩:=hx
    by_cases h0:x - a=0
    ·omega
    ·obtain ⟨z,hz⟩:∃ z,x - a=z+1:=⟨x - a - 1,by omega⟩
     rw [hz] at g2; simp [Nat.testBit_succ] at g2
  ·have:=mo.is.ext ((Ext.refl G12).room 7)
   simpa [clip_t] using this
end
section
variable {α:Type} {orc:FuncId→Bool} {e:RowE α} {m:Mac α} {inv:List α→Prop} {tx:List α→ByteArray} {B:GS} {fv nv uv tv lV rowv:Value} {l:List Sp} {row:List Nat}
theorem fits_P (hm:MacC orc e m inv tx B fv nv uv tv) {G:GS} (hB:Ext B G) (hl:SlR rSp G lV l) (hlen:l.length≤50) (okl:∀ c∈l,okOp c.op) (hrow:SlR (rowsI .i64) G rowv (row.map fun (a:Nat)=>(a:Int))) (hrl:row.length≤3000) (w:Sp→Nat) (hw1:∀ c∈l,∀ s,inv s→(toldP m s c).length≤w c) (hbd:Bd 1 (row.map fun a=>w (sp l a))) {s2:List α} {d2:Nat} (hway:Way m l m.first 0 row s2 d2) (hov:ovrP l d2) :
  Wp ((E orc).cl 49 [.agg ⟨[fv,nv,uv,tv]⟩,lV,rowv] G) fun r=>r.1= .bool true∧Ext G r.2:=by
 refine Wp.ref (f49 (exL_ok Q orc) _ _ _ G) ?_
 have hfs:=hm.first.ext hB
 obtain ⟨fa,fc,ef⟩:=hm.first.len
 obtain ⟨ra,rc,er⟩:=hrow.len
 rw [List.length_map] at er
 have lr:∀ x,ln Q true x rowv=some (.int .i64 row.length):=fun x=>by rw [er]; simp
 subst ef
 have hnc:=way_nc hway
 have c3:((G.push ⟨[.slice fa m.first.length fc,nv,uv,tv],1,false,1⟩).push ⟨[.slice fa m.first.length fc],1,false,1⟩).obj G.nx=some ⟨[.slice fa m.first.length fc,nv,uv,tv],1,false,1⟩:=by simp
 have xx:Ext G ((G.push ⟨[.slice fa m.first.length fc,nv,uv,tv],1,false,1⟩).push ⟨[.slice fa m.first.length fc],1,false,1⟩):=((Ext.refl G).push _).push _
 have s1:SlR eV1 ((G.push ⟨[.slice fa m.first.length fc,nv,uv,tv],1,false,1⟩).push ⟨[.slice fa m.first.length fc],1,false,1⟩) (.slice (some ⟨G.nx+1,0,none⟩) 1 1) [(⟨.slice fa m.first.length fc,rfl⟩:V1)]:=SlR.one eV1 (G.push ⟨[.slice fa m.first.length fc,nv,uv,tv],1,false,1⟩) (⟨.slice fa m.first.length fc,rfl⟩:V1)
 have nA:((G.push ⟨[.slice fa m.first.length fc,nv,uv,tv],1,false,1⟩).push ⟨[.slice fa m.first.length fc],1,false,1⟩).nx=G.nx+2:=by simp
 simp [-Int.natCast_add,s49,lr]
 generalize (G.push ⟨[.slice fa m.first.length fc,nv,uv,tv],1,false,1⟩).push ⟨[.slice fa m.first.length fc],1,false,1⟩=A at *
 refine Wp.bE ((frow_P hm (hB.trans xx) c3 (by omega) (hl.ext xx) hlen okl (hrow.ext xx) hrl w hw1 hnc row.length 0 _ A m.first 0 1 (by omega) (by simp [clip_t]) (by simp [clip_t]) (by simp [clip_t]) (by simp [clip_t]) (by simp [clip_t]) (by simp [clip_t]) (Ext.refl A) (by rw [List.drop_zero]; exact hway) (by decide) (fun x hx=>by simp at hx) ⟨[(⟨.slice fa m.first.length fc,rfl⟩,m.first)],?_,fun p hp=>?_,by simp,_,List.mem_singleton.2 rfl,rfl⟩ (by rw [List.drop_zero]; exact hbd)).mono ?_)
 ·simpa [clip_t] using s1
 ·rw [List.mem_singleton.1 hp]; exact ⟨hfs.ext xx,hm.inv0⟩
 rintro ⟨ee,τ,G9⟩ ⟨q1,xA,q3,q4,q5,n',P,p1,p2,p3,p0,hp0,p4⟩
 simp only at q1 xA q3 q4 p1 p2
 subst q1
 obtain ⟨pa,pc,ep⟩:=p1.len
 rw [List.length_map] at ep
 have hpos:0<P.length:=List.length_pos_of_mem hp0
 have hpos':(0:Int)<P.length:=by omega
 obtain ⟨G',xo,⟨eo,_⟩ | ⟨_,ho⟩⟩:=over_ok orc ((hl.ext xx).ext xA) hlen q5
 ·simp [-Int.natCast_add,q3,q4,ep,hpos',hpos,eo]
  exact (xx.trans xA).trans xo
 ·exact absurd hov ho
end
section
variable {A:GS} {l:List Sp} {lV:Value}
theorem hasid_ok (orc:FuncId→Bool) (c:Sp) {b:Nat} {G:GS} {x:Int} (hb:b<G.nx) (hc:G.obj b=some ⟨[.int .i64 x],1,false,1⟩):Wp (cValue (E orc) (.func (.func 117) #[] #[Pp b]) [.agg ⟨rSp.row c⟩] G) fun r=>r.1= .bool (decide (c.id=x))∧Ext G r.2:=by
 rw [cValue_func]
 refine Wp.ref (f117 (exL_ok Q orc) _ _ G) ?_
 have hne:¬ b=G.nx:=by omega
 simp [s117,mBox,Value.cells,hne,hc]
 exact (Ext.refl G).push _
theorem idx_lp (orc:FuncId→Bool) (hs:SlR rSp A lV l) (hlen:l.length≤50) {b:Nat} {x:Int} (hb:b<A.nx) (hc:A.obj b=some ⟨[.int .i64 x],1,false,1⟩) {a:Nat} (ha:a<l.length) (hx:(sp l a).id=x) (hn:∀ i,i<a→(sp l i).id≠x):∀ (k i:Nat) (τ:Env) (G:GS),i+k=a→τ 0=lV→τ 1= .func (.func 117) #[] #[Pp b]→τ 7= .int .i64 l.length→τ 8= .int .i64 (i:Int)→Ext A G →
  Wp ((exL Q orc).lpx 116 0 τ G) fun q=>q.1= .ret∧q.2.1 4= .int .i64 (a:Int)∧Ext A q.2.2:=by
 intro k
 induction k with
 | zero =>
  intro i τ G hi t0 t1 t7 t8 hA
  have hi':i=a:=by omega
  subst hi'
  have h1:(i:Int)<l.length:=by omega
  have h2:(0:Int)≤i:=by omega
  obtain ⟨b',o,c,e0,_,_,hz⟩:=(hs.ext hA).at ha
  rw [← sp_at ha,rSp_sz,loadA_eq] at hz
  obtain ⟨⟨r,G'⟩,e5,h5,x5⟩:=hasid_ok orc (sp l i) (G:=G) (Nat.lt_of_lt_of_le hb hA.nx) ((hA.obj _ hb).trans hc)
  simp only at h5 x5
  rw [hx] at h5
  simp only [decide_true] at h5
  subst h5
  generalize hri:rSp.row (sp l i)=ri at *
  refine Wp.lp (l116_0 (exL_ok Q orc)) ?_
  simp [-Int.natCast_add,-cValue_func,b116_0,clip_t,t0,t1,t7,t8,e0,h1,h2,ha,hz,e5]
  exact hA.trans x5
 | succ k ih =>
  intro i τ G hi t0 t1 t7 t8 hA
  have hlt:i<l.length:=by omega
  have hw:IntKind.wrap .i64 ((i:Int)+1)=((i+1:Nat):Int):=wrap64 (by omega) (by omega)
  have h1:(i:Int)<l.length:=by omega
  have h2:(0:Int)≤i:=by omega
  obtain ⟨b',o,c,e0,_,_,hz⟩:=(hs.ext hA).at hlt
  rw [← sp_at hlt,rSp_sz,loadA_eq] at hz
  obtain ⟨⟨r,G'⟩,e5,h5,x5⟩:=hasid_ok orc (sp l i) (G:=G) (Nat.lt_of_lt_of_le hb hA.nx) ((hA.obj _ hb).trans hc)
  simp only at h5 x5
  rw [decide_eq_false (hn i (by omega))] at h5
  subst h5
  generalize hri:rSp.row (sp l i)=ri at *
  refine Wp.lp (l116_0 (exL_ok Q orc)) ?_
  simp [-Int.natCast_add,-cValue_func,b116_0,clip_t,t0,t1,t7,t8,e0,h1,h2,hlt,hz,e5,hw]
  exact ih (i+1) _ _ (by omega) (by simp [clip_t,e0]) (by simp [clip_t]) (by simp [clip_t]) (by simp [clip_t]) (hA.trans x5)
theorem idx_ok (orc:FuncId→Bool) (hs:SlR rSp A lV l) (hlen:l.length≤50) {b:Nat} {x:Int} (hb:b<A.nx) (hc:A.obj b=some ⟨[.int .i64 x],1,false,1⟩) {a:Nat} (ha:a<l.length) (hx:(sp l a).id=x) (hn:∀ i,i<a→(sp l i).id≠x) :
  Wp ((E orc).cl 116 [lV,.func (.func 117) #[] #[Pp b]] A) fun r=>r.1= .int .i64 (a:Int)∧Ext A r.2:=by
 refine Wp.ref (f116 (exL_ok Q orc) _ _ A) ?_
 obtain ⟨la,lc,e0⟩:=hs.len
 have ll:∀ x,ln Q true x lV=some (.int .i64 l.length):=fun x=>by rw [e0]; simp
 simp [s116,ll]
 refine Wp.bE ((idx_lp orc hs hlen hb hc ha hx hn a 0 _ A (by omega) (by simp [clip_t]) (by simp [clip_t]) (by simp [clip_t]) (by simp [clip_t]) (Ext.refl A)).mono ?_)
 rintro ⟨ee,τ,G'⟩ ⟨q1,q2,q3⟩
 simp only at q1 q2 q3
 subst q1
 simp [q2,q3]
theorem index_lp (orc:FuncId→Bool) {L:List Int} {v0:Value} (hs:SlR (rowsI .i64) A v0 L) (hlen:L.length≤100000) {x:Int} (hn:x∉L):∀ (k i:Nat) (τ:Env),i+k=L.length→τ 0=v0→τ 1= .int .i64 x→τ 7= .int .i64 L.length→τ 8= .int .i64 (i:Int) →
  Wp ((exL Q orc).lpx 185 0 τ A) fun q=>q.1= .exit 0∧q.2.2=A:=by
 intro k
 induction k with
 | zero =>
  intro i τ hi t0 t1 t7 t8
  have hi':i=L.length:=by omega
  subst hi'
  refine Wp.lp (l185_0 (exL_ok Q orc)) ?_
  simp [b185_0,clip_t,t0,t1,t7,t8]
 | succ k ih =>
  intro i τ hi t0 t1 t7 t8
  have hlt:i<L.length:=by omega
  have hw:IntKind.wrap .i64 ((i:Int)+1)=((i+1:Nat):Int):=wrap64 (by omega) (by omega)
  have h1:(i:Int)<L.length:=by omega
  have h2:(0:Int)≤i:=by omega
  obtain ⟨b',o,c,e0,_,hz,_⟩:=hs.at hlt
  have hz:=hz 0 (by decide)
  simp [rowsI] at hz
  have hne:¬ x=L[i]:=fun e=>hn (e▸List.getElem_mem hlt)
  refine Wp.lp (l185_0 (exL_ok Q orc)) ?_
  simp [-Int.natCast_add,b185_0,clip_t,t0,t1,t7,t8,e0,h1,h2,hlt,hz,hne,hw]
  exact ih (i+1) _ (by omega) (by simp [clip_t,e0]) (by simp [clip_t]) (by simp [clip_t]) (by simp [clip_t])
theorem among_no (orc:FuncId→Bool) {L:List Int} {v0:Value} (hs:SlR (rowsI .i64) A v0 L) (hlen:L.length≤100000) {x:Int} (hn:x∉L):(E orc).cl 118 [v0,.int .i64 x] A=some (.bool false,A):=by
 have w:Wp ((E orc).cl 185 [v0,.int .i64 x] A) fun r=>r=(.int .i64 (-1),A):=by
  refine Wp.ref (f185 (exL_ok Q orc) _ _ A) ?_
  obtain ⟨la,lc,e0⟩:=hs.len
  have ll:∀ x,ln Q true x v0=some (.int .i64 L.length):=fun x=>by rw [e0]; simp
  simp [s185,ll]
  refine Wp.bE ((index_lp orc hs hlen hn L.length 0 _ (by omega) (by simp [clip_t]) (by simp [clip_t]) (by simp [clip_t]) (by simp [clip_t])).mono ?_)
  rintro ⟨ee,τ,G'⟩ ⟨q1,q2⟩
  simp only at q1 q2
  subst q1 q2
  simp
 obtain ⟨r,e1,rfl⟩:=w
 have w2:Wp ((E orc).cl 118 [v0,.int .i64 x] A) fun r=>r=(.bool false,A):=by
  refine Wp.ref (f118 (exL_ok Q orc) _ _ A) ?_
  simp [s118,e1]
 obtain ⟨r,e2,rfl⟩:=w2
 exact e2
end
theorem nd_len:∀ (n:Nat) (L:List Nat),L.Nodup→(∀ x∈L,x<n)→L.length≤n
 | 0,[],_,_=>Nat.le_refl _
 | 0,x::L,_,h=>absurd (h x (List.mem_cons_self ..)) (by omega)
 | n+1,L,hn,h=>by
  have h1:=nd_len n (L.erase n) (hn.erase n) fun x hx=>by
   have:=(List.Nodup.mem_erase_iff hn).1 hx
   have:=h x this.2
   omega
  rw [List.length_erase] at h1
  split at h1<;>omega
section
variable {A:GS} {l:List Sp} {lV idv:Value} {row:List Nat}
abbrev rI (row:List Nat):List Int:=row.map fun (a:Nat)=>(a:Int)
theorem id_first (hid:(l.map (·.id)).Nodup) {a:Nat} (ha:a<l.length):∀ i,i<a→(sp l i).id≠(sp l a).id:=by
 intro i hi e
 have h1:i<l.length:=by omega
 rw [sp_at h1,sp_at ha] at e
 have:=List.pairwise_iff_getElem.1 hid i a (by simpa using h1) (by simpa using ha) hi
 rw [List.getElem_map,List.getElem_map] at this
 exact this e
theorem plc_lp (orc:FuncId→Bool) (hs:SlR rSp A lV l) (hlen:l.length≤50) (hid:(l.map (·.id)).Nodup) (hr:∀ a∈row,a<l.length) (hrl:row.length≤3000) (hv:SlR (rowsI .i64) A idv (row.map fun a=>(sp l a).id)):∀ (k i:Nat) (τ:Env) (G:GS),i+k=row.length→τ 0=lV→OwR (rowsI .i64) A.nx G (τ 6) (rI (row.take i))→τ 12=idv→τ 13= .int .i64 row.length→τ 14= .int .i64 (i:Int)→Ext A G →
  Wp ((exL Q orc).lpx 46 0 τ G) fun q=>q.1= .exit 0∧Ext A q.2.2∧OwR (rowsI .i64) A.nx q.2.2 (q.2.1 6) (rI row):=by
 intro k
 induction k with
 | zero =>
  intro i τ G hi t0 t6 t12 t13 t14 hA
  have hi':i=row.length:=by omega
  subst hi'
  rw [List.take_length] at t6
  refine Wp.lp (l46_0 (exL_ok Q orc)) ?_
  simp [b46_0,clip_t,t0,t12,t13,t14]
  exact ⟨hA,t6⟩
 | succ k ih =>
  intro i τ G hi t0 t6 t12 t13 t14 hA
  have hlt:i<row.length:=by omega
  have hltm:i<(row.map fun a=>(sp l a).id).length:=by simpa using hlt
  have hw:IntKind.wrap .i64 ((i:Int)+1)=((i+1:Nat):Int):=wrap64 (by omega) (by omega)
  have h1:(i:Int)<row.length:=by omega
  have h2:(0:Int)≤i:=by omega
  obtain ⟨b,o,c,e0,hb,hz,_⟩:=(hv.ext hA).at hltm
  have hz:=hz 0 (by decide)
  simp [rowsI] at hz
  simp only [List.length_map] at e0
  have htk:row.take (i+1)=row.take i++[row[i]]:=by rw [List.take_append_getElem hlt]
  have ha:=hr row[i] (List.getElem_mem hlt)
  generalize row[i]=a at *
  have k3:¬ ((a:Int)<0):=by omega
  have xE:Ext G ((G.push ⟨[.int .i64 0],1,false,1⟩).put G.nx ⟨[.int .i64 (sp l a).id],1,false,1⟩):=((Ext.refl G).push _).put (Nat.le_refl _) _
  have oE:((G.push ⟨[.int .i64 0],1,false,1⟩).put G.nx ⟨[.int .i64 (sp l a).id],1,false,1⟩).obj G.nx=some ⟨[.int .i64 (sp l a).id],1,false,1⟩:=by simp
  have nE:G.nx<((G.push ⟨[.int .i64 0],1,false,1⟩).put G.nx ⟨[.int .i64 (sp l a).id],1,false,1⟩).nx:=by simp
  obtain ⟨⟨r,G7⟩,e5,h5,x5⟩:=idx_ok orc (hs.ext (hA.trans xE)) hlen nE oE ha rfl (id_first hid ha)
  simp only at h5 x5
  subst h5
  have xA7:Ext A G7:=(hA.trans xE).trans x5
  have w7:OwR (rowsI .i64) A.nx (G7.push ⟨[.int .i64 (a:Int)],1,false,1⟩) (τ 6) (rI (row.take i)):=t6.ext ((xE.trans x5).push _)
  obtain ⟨v',G',e9,x9,w9⟩:=OwR.app (ib:=8) w7 (by decide) (xA7.push _) (SlR.one (rowsI .i64) G7 (a:Int)) (by simp; omega)
  rw [show (rowsI .i64).sz=1 from rfl] at e9
  generalize h6:τ 6=v6 at *
  refine Wp.lp (l46_0 (exL_ok Q orc)) ?_
  simp [-Int.natCast_add,b46_0,clip_t,t0,t12,t13,t14,e0,h1,h2,hlt,hz,h6,e5,k3,e9,hw]
  refine ih (i+1) _ G' (by omega) (by simp [clip_t]) ?_ (by simp [clip_t,e0]) (by simp [clip_t]) (by simp [clip_t]) x9
  rw [htk]
  simpa [clip_t] using w9
theorem dbl_lp (orc:FuncId→Bool) (hrl:row.length≤3000) (hnd:row.Nodup) {v:Value} (hv:SlR (rowsI .i64) A v (rI row)):∀ (k i:Nat) (τ:Env),i+k=row.length→τ 6=v→τ 28=v→τ 29= .int .i64 row.length→τ 30= .int .i64 (i:Int) →
  Wp ((exL Q orc).lpx 46 1 τ A) fun q=>q.1= .exit 2∧q.2.2=A∧q.2.1 6=v:=by
 intro k
 induction k with
 | zero =>
  intro i τ hi t6 t28 t29 t30
  have hi':i=row.length:=by omega
  subst hi'
  refine Wp.lp (l46_1 (exL_ok Q orc)) ?_
  simp [b46_1,clip_t,t6,t28,t29,t30]
 | succ k ih =>
  intro i τ hi t6 t28 t29 t30
  have hlt:i<row.length:=by omega
  have hltm:i<(rI row).length:=by simpa using hlt
  have hw:IntKind.wrap .i64 ((i:Int)+1)=((i+1:Nat):Int):=wrap64 (by omega) (by omega)
  have h1:(i:Int)<row.length:=by omega
  have h2:(0:Int)≤i:=by omega
  obtain ⟨b,o,c,e0,hb,hz,_⟩:=hv.at hltm
  have hz:=hz 0 (by decide)
  simp [rowsI] at hz
  simp only [List.length_map] at e0
  obtain ⟨v',e3,h3⟩:=(hv.take (k:=.i64) (o:=i) (by simp; omega)).1
  have hno:(row[i]:Int)∉(rI row).take i:=fun h=>by
   rw [← List.map_take] at h
   obtain ⟨x,hx,he⟩:=List.mem_map.1 h
   obtain ⟨p,hp,hpe⟩:=List.getElem_of_mem hx
   rw [List.length_take] at hp
   rw [List.getElem_take] at hpe
   exact List.pairwise_iff_getElem.1 hnd p i (by omega) hlt (by omega) (by rw [hpe]; omega)
  have e4:=among_no orc h3 (by simp; omega) hno
  rw [show (rowsI .i64).sz=1 from rfl,e0] at e3
  refine Wp.lp (l46_1 (exL_ok Q orc)) ?_
  simp [-Int.natCast_add,b46_1,clip_t,t6,t28,t29,t30,e0,h1,h2,hlt,hz,e3,e4,hw]
  have:=ih (i+1)
  rw [e0] at this
  exact this _ (by omega) (by simp [clip_t]) (by simp [clip_t]) (by simp [clip_t]) (by simp [clip_t])
theorem places_ok (orc:FuncId→Bool) (hs:SlR rSp A lV l) (hlen:l.length≤50) (hid:(l.map (·.id)).Nodup) (hr:∀ a∈row,a<l.length) (hrl:row.length≤3000) (hnd:row.Nodup) (hv:SlR (rowsI .i64) A idv (row.map fun a=>(sp l a).id)) :
  Wp ((E orc).cl 46 [lV,idv] A) fun r=>∃ v,r.1= .tuple #[v,.int .i64 0]∧Ext A r.2∧SlR (rowsI .i64) r.2 v (rI row):=by
 refine Wp.ref (f46 (exL_ok Q orc) _ _ A) ?_
 obtain ⟨la,lc,e0⟩:=hv.len
 rw [List.length_map] at e0
 have ll:∀ x,ln Q true x idv=some (.int .i64 row.length):=fun x=>by rw [e0]; simp
 simp [s46,ll]
 refine Wp.bE ((plc_lp orc hs hlen hid hr hrl hv row.length 0 _ A (by omega) (by simp [clip_t]) (by simpa [clip_t] using OwR.nil _ _) (by simp [clip_t]) (by simp [clip_t]) (by simp [clip_t]) (Ext.refl A)).mono ?_)
 rintro ⟨ee,τ,G'⟩ ⟨q1,q2,q3⟩
 simp only at q1 q2 q3
 subst q1
 obtain ⟨va,vc,ev⟩:=q3.is.len
 rw [List.length_map] at ev
 generalize h6:τ 6=v at *
 have lv:∀ x,ln Q true x v=some (.int .i64 row.length):=fun x=>by rw [ev]; simp
 simp [h6,lv]
 refine Wp.bE ((dbl_lp orc hrl hnd q3.is row.length 0 _ (by omega) (by simp [clip_t,h6]) (by simp [clip_t]) (by simp [clip_t]) (by simp [clip_t])).mono ?_)
 rintro ⟨ee,τ2,G2⟩ ⟨p1,p2,p3⟩
 simp only at p1 p2 p3
 subst p1 p2
 simp [p3]
 exact ⟨q2,q3.is⟩
end
section
variable {l:List Sp} {lV idv:Value} {row:List Nat} {G:GS} {room:Int}
theorem bd_one:∀ (n:Nat) (L:List Nat),n≤1→Bd n (L.map fun _=>1)
 | n,[],h=>by show n≤2000000; omega
 | n,_::L,h=>⟨by omega,by rw [Nat.mul_one]; exact bd_one n L h⟩
theorem qtold_le (room:Int) (c:Sp) (s:List Int):(toldP (qMac room) s c).length≤1:=by
 unfold toldP
 split
 ·simp
 ·show (qFine s c.op).length≤1
  unfold qFine
  split
  ·cases s<;>simp
  ·simp
theorem htold_le (c:Sp) (s:List It):(toldP hMac s c).length≤1:=by
 unfold toldP
 split
 ·simp
 ·show (hFine s c.op).length≤1
  unfold hFine
  split
  ·cases s<;>simp
  ·simp
theorem fitsQ_ok (orc:FuncId→Bool) (ht:tabs G=true) (h2:2≤G.nx) (hl:SlR rSp G lV l) (okl:∀ c∈l,okOp c.op) (hm:MayOk 1 room l) (hv:SlR (rowsI .i64) G idv (row.map fun a=>(sp l a).id)) {s2:List Int} {d2:Nat} (hway:Way (qMac room) l [] 0 row s2 d2) (hov:ovrP l d2) :
  Wp ((E orc).cl 16 [.int .i64 1,.int .i64 room,lV,idv] G) fun r=>r.1= .tuple #[.bool true,.int .i64 0]∧Ext G r.2:=by
 refine Wp.ref (f16 (exL_ok Q orc) _ _ _ _ G) ?_
 have hf:=way_fresh hway
 have hrl:row.length≤l.length:=nd_len _ _ hf.2.1 fun x hx=>(hf.1 x hx).2
 have hlen:=hm.2.2.1
 obtain ⟨⟨r1,G1⟩,e1,x1,x,rfl,hx⟩:=may_ok orc hl 1 room
 have hx0:=hx.2 hm
 subst hx0
 simp only at x1
 obtain ⟨⟨r2,G2⟩,e2,pv,rfl,x2,wp⟩:=places_ok orc (hl.ext x1) (by omega) hm.2.2.2.2 (fun a ha=>(hf.1 a ha).2) (by omega) hf.2.1 (hv.ext x1)
 simp only at x2 wp
 obtain ⟨⟨r3,G3⟩,e3,rfl,x3,o3,n3⟩:=queues_ok orc room G2
 simp only at x3 o3 n3
 have xx:=(x1.trans x2).trans x3
 obtain ⟨⟨r4,G4⟩,e4,rfl,x4⟩:=fits_Q (orc:=orc) (macQ orc (cap:=room) (tabs_ext xx ht h2) (by have:=xx.nx; omega) n3 o3) (Ext.refl G3) (hl.ext xx) (by omega) okl (wp.ext x3) (by omega) (fun _=>1) (fun c _ s _=>qtold_le room c s) (bd_one 1 _ (Nat.le_refl _)) hway hov
 have e4:(E orc).cl 47 [.agg ⟨rowQ G2.nx⟩,lV,pv] G3=some (.bool true,G4):=e4
 simp [s16,e1,e2,e3,e4,pExtract,getN_zero,getN_succ]
 exact xx.trans x4
theorem fitsH_ok (orc:FuncId→Bool) (hk:orc 127=false) (ho:orc 43=false) (ht:tabs G=true) (h2:2≤G.nx) (hl:SlR rSp G lV l) (okl:∀ c∈l,okOp c.op) (hm:MayOk 2 room l) (hv:SlR (rowsI .i64) G idv (row.map fun a=>(sp l a).id)) {s2:List It} {d2:Nat} (hway:Way hMac l [] 0 row s2 d2) (hov:ovrP l d2) :
  Wp ((E orc).cl 16 [.int .i64 2,.int .i64 room,lV,idv] G) fun r=>r.1= .tuple #[.bool true,.int .i64 0]∧Ext G r.2:=by
 refine Wp.ref (f16 (exL_ok Q orc) _ _ _ _ G) ?_
 have hf:=way_fresh hway
 have hrl:row.length≤l.length:=nd_len _ _ hf.2.1 fun x hx=>(hf.1 x hx).2
 have hlen:=hm.2.2.1
 obtain ⟨⟨r1,G1⟩,e1,x1,x,rfl,hx⟩:=may_ok orc hl 2 room
 have hx0:=hx.2 hm
 subst hx0
 simp only at x1
 obtain ⟨⟨r2,G2⟩,e2,pv,rfl,x2,wp⟩:=places_ok orc (hl.ext x1) (by omega) hm.2.2.2.2 (fun a ha=>(hf.1 a ha).2) (by omega) hf.2.1 (hv.ext x1)
 simp only at x2 wp
 obtain ⟨⟨r3,G3⟩,e3,rfl,x3⟩:=sets_ok orc ho G2
 simp only at x3
 have xx:=(x1.trans x2).trans x3
 obtain ⟨⟨r4,G4⟩,e4,rfl,x4⟩:=fits_H (orc:=orc) (macH orc hk (tabs_extH xx ht h2) (by have:=xx.nx; omega)) (Ext.refl G3) (hl.ext xx) (by omega) okl (wp.ext x3) (by omega) (fun _=>1) (fun c _ s _=>htold_le c s) (bd_one 1 _ (Nat.le_refl _)) hway hov
 have e4:(E orc).cl 48 [.agg ⟨rowH⟩,lV,pv] G3=some (.bool true,G4):=e4
 simp [s16,e1,e2,e3,e4,pExtract,getN_zero,getN_succ]
 exact xx.trans x4
end
end Go.Proofs.YtlaojmcekeohnaaGreatDoor.Lift
