import Derived.Test.YtlaojmcekeohnaaGreatDoorGhPD
import Derived.Test.YtlaojmcekeohnaaGreatDoorRVb
import Derived.Test.YtlaojmcekeohnaaGreatDoorGhEQ
set_option linter.unusedVariables false
set_option linter.unusedSimpArgs false
namespace Go.Proofs.YtlaojmcekeohnaaGreatDoor.Lift
open Go Go.Proofs.YtlaojmcekeohnaaGreatDoor.Gh
structure Sp where
 id:Int
 fr:Int
 to:Int
 op:Int×Int×Int×Int
 an:Int×Int×Int
def rSp:RowE Sp:=⟨10,fun x=>[.int .i64 x.id,.int .i64 x.fr,.int .i64 x.to,.int .i64 x.op.1,.int .i64 x.op.2.1,.int .i64 x.op.2.2.1,.int .u64 x.op.2.2.2,.int .i64 x.an.1,.int .i64 x.an.2.1,.int .u64 x.an.2.2],fun _=>rfl,fun _=>rfl,by decide⟩
@[simp] theorem rSp_sz:rSp.sz=10:=rfl
@[simp] theorem rSp_row (x:Sp):rSp.row x=[.int .i64 x.id,.int .i64 x.fr,.int .i64 x.to,.int .i64 x.op.1,.int .i64 x.op.2.1,.int .i64 x.op.2.2.1,.int .u64 x.op.2.2.2,.int .i64 x.an.1,.int .i64 x.an.2.1,.int .u64 x.an.2.2]:=rfl
open Go
abbrev Op4:=Int×Int×Int×Int
abbrev An3:=Int×Int×Int
instance:Inhabited Sp:=⟨⟨0,0,0,(0,0,0,0),(0,0,0)⟩⟩
structure Mac (α:Type) where
 first:List α
 next:List α→Op4→An3→Option (List α)
 fine:List α→Op4→List An3
def ahead (c d:Sp):Bool:=decide (0≤c.to)&&decide (c.to<d.fr)
def sp (l:List Sp) (i:Nat):Sp:=l.getD i default
def rdyP (l:List Sp) (d at_:Nat):Prop:=d.testBit at_=false∧∀ i,i<l.length→i≠at_→d.testBit i=false→ahead (sp l i) (sp l at_)=false
def ovrP (l:List Sp) (d:Nat):Prop:=∀ i,i<l.length→0≤(sp l i).to→d.testBit i=true
def toldP {α:Type} (m:Mac α) (s:List α) (c:Sp):List An3:=if 0≤c.to then [c.an] else m.fine s c.op
section
variable {α:Type} (m:Mac α) (l:List Sp)
inductive Way:List α→Nat→List Nat→List α→Nat→Prop
 | nil (s:List α) (d:Nat):Way s d [] s d
 | cons {s:List α} {d a:Nat} {an:An3} {s1:List α} {r:List Nat} {s2:List α} {d2:Nat} (ha:a<l.length) (hr:rdyP l d a) (ht:an∈toldP m s (sp l a)) (hn:m.next s (sp l a).op an=some s1) (h:Way s1 (d ||| 1 <<< a) r s2 d2):Way s d (a::r) s2 d2
def Goes (b:List Nat) (s:List α) (d:Nat):Prop:=∃ r s2 d2,Way m l s d (b++r) s2 d2∧ovrP l d2
def Step (s:List α) (d a:Nat) (s1:List α):Prop:=a<l.length∧rdyP l d a∧∃ an,an∈toldP m s (sp l a)∧m.next s (sp l a).op an=some s1
theorem Way.step {m:Mac α} {l:List Sp} {s s1 s2:List α} {d a d2:Nat} {r:List Nat} (h:Step m l s d a s1) (k:Way m l s1 (d ||| 1 <<< a) r s2 d2):Way m l s d (a::r) s2 d2 :=
 let ⟨h1,h2,an,h3,h4⟩:=h; .cons h1 h2 h3 h4 k
theorem goes_nil {s:List α} {d:Nat}:Goes m l [] s d↔ovrP l d∨∃ a s1,Step m l s d a s1∧Goes m l [] s1 (d ||| 1 <<< a):=by
 constructor
 ·rintro ⟨r,s2,d2,h,ho⟩
  cases h with
  | nil=>exact .inl ho
  | cons h1 h2 h3 h4 h5=>exact .inr ⟨_,_,⟨h1,h2,_,h3,h4⟩,_,_,_,h5,ho⟩
 ·rintro (ho | ⟨a,s1,hs,r,s2,d2,h,ho⟩)
  ·exact ⟨[],s,d,.nil _ _,ho⟩
  ·exact ⟨a::r,s2,d2,h.step hs,ho⟩
theorem goes_cons {b:Nat} {bs:List Nat} {s:List α} {d:Nat}:Goes m l (b::bs) s d↔∃ s1,Step m l s d b s1∧Goes m l bs s1 (d ||| 1 <<< b):=by
 constructor
 ·rintro ⟨r,s2,d2,h,ho⟩
  cases h with
  | cons h1 h2 h3 h4 h5=>exact ⟨_,⟨h1,h2,_,h3,h4⟩,r,_,_,h5,ho⟩
 ·rintro ⟨s1,hs,r,s2,d2,h,ho⟩
  exact ⟨r,s2,d2,h.step hs,ho⟩
def dn (row:List Nat) (d:Nat):Nat:=row.foldl (fun d a=>d ||| 1 <<< a) d
theorem way_dn {m:Mac α} {l:List Sp} {s s2:List α} {d d2:Nat} {row:List Nat} (h:Way m l s d row s2 d2):d2=dn row d:=by
 induction h with
 | nil=>rfl
 | cons _ _ _ _ _ ih=>exact ih
theorem way_app {m:Mac α} {l:List Sp} {s s2:List α} {d d2:Nat} {a b:List Nat}:Way m l s d (a++b) s2 d2↔∃ s1 d1,Way m l s d a s1 d1∧Way m l s1 d1 b s2 d2:=by
 constructor
 ·intro h
  induction a generalizing s d with
  | nil=>exact ⟨s,d,.nil _ _,h⟩
  | cons x a ih =>
   cases h with
   | cons h1 h2 h3 h4 h5 =>
    obtain ⟨s1,d1,k1,k2⟩:=ih h5
    exact ⟨s1,d1,.cons h1 h2 h3 h4 k1,k2⟩
 ·rintro ⟨s1,d1,h,k⟩
  induction h with
  | nil=>exact k
  | cons h1 h2 h3 h4 _ ih=>exact .cons h1 h2 h3 h4 (ih k)
theorem goes_more {row:List Nat} {s:List α} {d:Nat} (h:Goes m l row s d) (hn:¬ ovrP l (dn row d)):∃ a,a<l.length∧rdyP l (dn row d) a∧Goes m l (row++[a]) s d:=by
 obtain ⟨r,s2,d2,hw,ho⟩:=h
 obtain ⟨s1,d1,h1,h2⟩:=way_app.1 hw
 have e:=way_dn h1
 cases h2 with
 | nil=>rw [e] at ho; exact absurd ho hn
 | @cons _ _ a _ s3 r' _ _ k1 k2 k3 k4 k5 =>
  rw [e] at k2 h1 k5
  refine ⟨a,k1,k2,r',s2,d2,?_,ho⟩
  rw [List.append_assoc]
  exact way_app.2 ⟨s1,_,h1,.cons k1 k2 k3 k4 k5⟩
theorem way_fresh {m:Mac α} {l:List Sp} {s s2:List α} {d d2:Nat} {row:List Nat} (h:Way m l s d row s2 d2):(∀ a∈row,d.testBit a=false∧a<l.length)∧row.Nodup∧(∀ i,d2.testBit i=true↔d.testBit i=true∨i∈row):=by
 induction h with
 | nil=>exact ⟨fun _ h=>(by cases h),.nil,fun i=>by simp⟩
 | @cons s d a an s1 r s2 d2 h1 h2 h3 h4 h5 ih =>
  obtain ⟨i1,i2,i3⟩:=ih
  have hb:∀ i,(d ||| 1 <<< a).testBit i=true↔d.testBit i=true∨i=a:=by
   intro i
   rw [Nat.testBit_or,Nat.testBit_shiftLeft]
   by_cases hi:i=a
   ·subst hi; simp
   ·simp only [hi,or_false,Bool.or_eq_true,Bool.and_eq_true,decide_eq_true_eq,or_iff_left_iff_imp]
    rintro ⟨h,k⟩
    have:Nat.testBit 1 (i - a)=true→i - a=0:=by
     intro h
     by_cases h0:i - a=0
     ·exact h0
     ·obtain ⟨n,hn⟩:∃ n,i - a=n+1:=⟨i - a - 1,by omega⟩
      rw [hn] at h; simp [Nat.testBit_succ] at h
    have:=this k
    omega
  refine ⟨fun x hx=>?_,?_,fun i=>?_⟩
  ·rcases List.mem_cons.1 hx with rfl | hx
   ·exact ⟨h2.1,h1⟩
   ·obtain ⟨k1,k2⟩:=i1 x hx
    refine ⟨?_,k2⟩
    cases hd:d.testBit x with
    | false=>rfl
    | true=>have:=(hb x).2 (.inl hd); rw [this] at k1; cases k1
  ·refine List.nodup_cons.2 ⟨fun ha=>?_,i2⟩
   have:=(i1 a ha).1
   rw [(hb a).2 (.inr rfl)] at this; cases this
  ·rw [i3,hb,List.mem_cons]
   constructor
   ·rintro ((h | h) | h)
    ·exact .inl h
    ·exact .inr (.inl h)
    ·exact .inr (.inr h)
   ·rintro (h | h | h)
    ·exact .inl (.inl h)
    ·exact .inl (.inr h)
    ·exact .inr h
end
set_option maxRecDepth 100000
open Go Go.Proofs.YtlaojmcekeohnaaGreatDoor.Gh Go.Proofs
def flatP (es:List (Value×Value)):List Value:=(es.map fun e=>[e.1,e.2]).flatten
def mpL (es:List (Value×Value)):Lp:=⟨.done,none,flatP es,[],.skip,.skip⟩
theorem mkE_flatP:∀ es:List (Value×Value),mkE (flatP es)=es.map fun e=>⟨e.1,e.2,0⟩
 | []=>rfl
 | e::es=>by
  show mkE (e.1::e.2::flatP es)=_
  rw [mkE,mkE_flatP es]; rfl
theorem flatP_snoc (es:List (Value×Value)) (k v:Value):flatP es++[k,v]=flatP (es++[(k,v)]):=by simp [flatP]
theorem newMap_loop (G:GS):G.newMap.loop G.nl=some (mpL []):=by unfold GS.newMap; rw [GS.loop_push,if_pos rfl]; rfl
structure KeyT (kt:TypeId) (good gv:Value→Prop):Prop where
 pl:∀ k,good k→plain k=true
 pv:∀ v b,gv v→plain v=true∧plain (.tuple #[v,.bool b])=true
 chk:∀ e k,good k→prun Q (Instr.checkKey e 10000 kt k)=some ()
 hit:∀ k (es:List MapEntry),good k→(∀ e∈es,good e.key)→(∃ e∈es,e.key=k)→∃ r,prun Q (Instr.findKey kt k es)=some (some r)∧∃ e∈es,e.val=r.2
 miss:∀ k (es:List MapEntry),good k→(∀ e∈es,good e.key)→(∀ e∈es,e.key≠k)→prun Q (Instr.findKey kt k es)=some none
def GoodE (good gv:Value→Prop) (es:List (Value×Value)):Prop:=∀ e∈es,good e.1∧gv e.2
section
variable {kt:TypeId} {good gv:Value→Prop} {t el:TypeId} {z:Value} {G:GS} {lv:Nat} {es:List (Value×Value)} {k v:Value}
theorem flat_plain (hk:KeyT kt good gv) (h:GoodE good gv es):(mpL es).tmps.all plain=true:=by
 rw [List.all_eq_true]
 intro x hx
 simp only [mpL,flatP,List.mem_flatten,List.mem_map] at hx
 obtain ⟨r,⟨e,he,rfl⟩,hx⟩:=hx
 rcases List.mem_cons.1 hx with rfl | hx
 ·exact hk.pl _ (h e he).1
 ·rw [List.mem_singleton.1 hx]; exact (hk.pv _ true (h e he).2).1
theorem goodM (h:GoodE good gv es):∀ e∈es.map (fun e=>(⟨e.1,e.2,0⟩:MapEntry)),good e.key:=fun e he=>by
 obtain ⟨x,hx,rfl⟩:=List.mem_map.1 he; exact (h x hx).1
theorem look_hit (hk:KeyT kt good gv) (hu:Q.underlying t=some (.map kt el)) (hl:G.loop lv=some (mpL es)) (h:GoodE good gv es) (hg:good k) (hm:∃ e∈es,e.1=k):∃ v,gLookup Q t (.map (some lv)) k true G=some (.tuple #[v,.bool true])∧gv v:=by
 obtain ⟨⟨i,v⟩,h1,e,he,hv⟩:=hk.hit k (es.map fun e=>⟨e.1,e.2,0⟩) hg (goodM h) (by obtain ⟨e,he,rfl⟩:=hm; exact ⟨_,List.mem_map.2 ⟨e,he,rfl⟩,rfl⟩)
 obtain ⟨x,hx,rfl⟩:=List.mem_map.1 he
 simp only at hv
 subst hv
 have hp:=(h x hx).2
 refine ⟨x.2,?_,hp⟩
 unfold gLookup
 simp only [hu,hl,hk.pl k hg,flat_plain hk h,Bool.and_self,if_true]
 unfold prunP lookS
 simp only [mpL,prun_bind,hk.chk _ k hg,mkE_flatP,h1,prun_pure,if_true,(hk.pv _ true hp).2]
theorem look_miss (hk:KeyT kt good gv) (hu:Q.underlying t=some (.map kt el)) (hz:prun Q (zeroValue el)=some z) (hzv:gv z) (hl:G.loop lv=some (mpL es)) (h:GoodE good gv es) (hg:good k) (hm:∀ e∈es,e.1≠k):gLookup Q t (.map (some lv)) k true G=some (.tuple #[z,.bool false]):=by
 have h1:=hk.miss k (es.map fun e=>⟨e.1,e.2,0⟩) hg (goodM h) (fun e he=>by obtain ⟨x,hx,rfl⟩:=List.mem_map.1 he; exact hm x hx)
 unfold gLookup
 simp only [hu,hl,hk.pl k hg,flat_plain hk h,Bool.and_self,if_true]
 unfold prunP lookS
 simp only [mpL,prun_bind,hk.chk _ k hg,mkE_flatP,h1,hz,prun_pure,if_true,(hk.pv _ false hzv).2]
theorem map_put (hk:KeyT kt good gv) (hu:Q.underlying t=some (.map kt el)) (hl:G.loop lv=some (mpL es)) (h:GoodE good gv es) (hg:good k) (hv:gv v) (hm:∀ e∈es,e.1≠k):gMapPut Q t (.map (some lv)) k v G=some (G.putLoop lv (mpL (es++[(k,v)]))):=by
 have h1:=hk.miss k (es.map fun e=>⟨e.1,e.2,0⟩) hg (goodM h) (fun e he=>by obtain ⟨x,hx,rfl⟩:=List.mem_map.1 he; exact hm x hx)
 unfold gMapPut
 simp only [hu,hl,hk.pl k hg,(hk.pv _ true hv).1,flat_plain hk h,Bool.and_self,if_true]
 simp only [mpL,hk.chk _ k hg,mkE_flatP,h1,flatP_snoc]
end
def gInt (v:Value):Prop:=∃ x,v= .int .i64 x
def gStr (v:Value):Prop:=∃ s,v= .string s
def gStg (v:Value):Prop:=∃ d s,v= .agg #[.int .i64 d,.string s]
def gUnit (v:Value):Prop:=v= .agg #[]
theorem beqB (a b:ByteArray):(a==b)=decide (a=b):=by
 obtain ⟨x⟩:=a
 obtain ⟨y⟩:=b
 have:((⟨x⟩:ByteArray)==⟨y⟩)=(x==y):=rfl
 rw [this]
 by_cases h:x=y
 ·subst h; simp
 ·simp [h]
theorem now_hit {P:TypeDesc} {good:Value→Prop} (hs:∀ a b,good a→good b→∃ q,Instr.sameNow P a b=some q∧(q=true↔a=b)) {k:Value} (hg:good k):∀ (es:List MapEntry) (i:Nat),(∀ e∈es,good e.key)→((∃ e∈es,e.key=k)→∃ r,Instr.findNow P k es i=some (some r)∧∃ e∈es,e.val=r.2)∧((∀ e∈es,e.key≠k)→Instr.findNow P k es i=some none)
 | [],i,_=>⟨fun ⟨e,he,_⟩=>(by cases he),fun _=>rfl⟩
 | e::es,i,hge=>by
  obtain ⟨q,h1,h2⟩:=hs k e.key hg (hge e (List.mem_cons_self ..))
  obtain ⟨i1,i2⟩:=now_hit hs hg es (i+1) fun x hx=>hge x (List.mem_cons_of_mem _ hx)
  cases q with
  | true =>
   refine ⟨fun _=>⟨(i,e.val),by simp only [Instr.findNow,h1],e,List.mem_cons_self ..,rfl⟩,fun h=>absurd (h2.1 rfl).symm (h e (List.mem_cons_self ..))⟩
  | false =>
   have hne:e.key≠k:=fun he=>by have:=h2.2 he.symm; cases this
   refine ⟨fun ⟨x,hx,hk⟩=>?_,fun h=>by simp only [Instr.findNow,h1]; exact i2 fun x hx=>h x (List.mem_cons_of_mem _ hx)⟩
   rcases List.mem_cons.1 hx with rfl | hx
   ·exact absurd hk hne
   ·obtain ⟨r,k1,y,hy,k2⟩:=i1 ⟨x,hx,hk⟩
    exact ⟨r,by simp only [Instr.findNow,h1]; exact k1,y,List.mem_cons_of_mem _ hy,k2⟩
theorem ask_hit {kt:TypeId} {good:Value→Prop} (hs:∀ a b,good a→good b→∃ q,prun Q (Op.equal kt a b)=some q∧(q=true↔a=b)) {k:Value} (hg:good k):∀ (es:List MapEntry) (i:Nat),(∀ e∈es,good e.key)→((∃ e∈es,e.key=k)→∃ r,prun Q (Instr.findAsking kt k es i)=some (some r)∧∃ e∈es,e.val=r.2)∧((∀ e∈es,e.key≠k)→prun Q (Instr.findAsking kt k es i)=some none)
 | [],i,_=>⟨fun ⟨e,he,_⟩=>(by cases he),fun _=>rfl⟩
 | e::es,i,hge=>by
  obtain ⟨q,h1,h2⟩:=hs k e.key hg (hge e (List.mem_cons_self ..))
  obtain ⟨i1,i2⟩:=ask_hit hs hg es (i+1) fun x hx=>hge x (List.mem_cons_of_mem _ hx)
  cases q with
  | true =>
   refine ⟨fun _=>⟨(i,e.val),by simp only [Instr.findAsking,prun_bind,h1]; rfl,e,List.mem_cons_self ..,rfl⟩,fun h=>absurd (h2.1 rfl).symm (h e (List.mem_cons_self ..))⟩
  | false =>
   have hne:e.key≠k:=fun he=>by have:=h2.2 he.symm; cases this
   refine ⟨fun ⟨x,hx,hk⟩=>?_,fun h=>by simp only [Instr.findAsking,prun_bind,h1]; exact i2 fun x hx=>h x (List.mem_cons_of_mem _ hx)⟩
   rcases List.mem_cons.1 hx with rfl | hx
   ·exact absurd hk hne
   ·obtain ⟨r,k1,y,hy,k2⟩:=i1 ⟨x,hx,hk⟩
    exact ⟨r,by simp only [Instr.findAsking,prun_bind,h1]; exact k1,y,List.mem_cons_of_mem _ hy,k2⟩
theorem keyNow {kt:TypeId} {P:TypeDesc} {good gv:Value→Prop} (hu:Q.underlying kt=some P) (pl:∀ k,good k→plain k=true) (pv:∀ v b,gv v→plain v=true∧plain (.tuple #[v,.bool b])=true) (chk:∀ e k,good k→prun Q (Instr.checkKey e 10000 kt k)=some ())
  (hs:∀ a b,good a→good b→∃ q,Instr.sameNow P a b=some q∧(q=true↔a=b)):KeyT kt good gv :=
 ⟨pl,pv,chk,fun k es hg he hm=>by
  obtain ⟨r,h1,h2⟩:=(now_hit hs hg es 0 he).1 hm
  exact ⟨r,by simp only [Instr.findKey,prun_bind,prun_underlying hu,h1]; rfl,h2⟩,
  fun k es hg he hm=>by simp only [Instr.findKey,prun_bind,prun_underlying hu,(now_hit hs hg es 0 he).2 hm]; rfl⟩
theorem keyInt:KeyT 3 gInt gInt:=keyNow Tryz.underlying3 (fun k ⟨x,hx⟩=>by subst hx; rfl) (fun v b ⟨x,hx⟩=>by subst hx; exact ⟨rfl,rfl⟩) (fun e k ⟨x,hx⟩=>by subst hx; rfl) (fun a b ⟨x,hx⟩ ⟨y,hy⟩=>by
 subst hx hy; exact ⟨x==y,rfl,by simp⟩)
theorem keyStr:KeyT 9 gStr gInt:=keyNow Tryz.underlying9 (fun k ⟨x,hx⟩=>by subst hx; rfl) (fun v b ⟨x,hx⟩=>by subst hx; exact ⟨rfl,rfl⟩) (fun e k ⟨x,hx⟩=>by subst hx; rfl) (fun a b ⟨x,hx⟩ ⟨y,hy⟩=>by
 subst hx hy; exact ⟨x==y,rfl,by rw [beqB]; simp⟩)
theorem eqStg (d d':Int) (s s':ByteArray):prun Q (Op.equal 323 (.agg #[.int .i64 d,.string s]) (.agg #[.int .i64 d',.string s']))=some ((d==d')&&((s==s')&&true)):=by
 refine eqS (P:=Q) (d:=9999) (L:=[(3,0),(9,1)]) (by kernel_rfl) (by kernel_rfl) ?_
 exact eqL_cons (a:=.int .i64 d) (b:=.int .i64 d') rfl rfl rfl (eqL_cons (a:=.string s) (b:=.string s') rfl rfl rfl rfl)
theorem keyStg:KeyT 323 gStg gUnit:=by
 have hs:∀ a b,gStg a→gStg b→∃ q,prun Q (Op.equal 323 a b)=some q∧(q=true↔a=b):=by
  rintro a b ⟨d,s,rfl⟩ ⟨d',s',rfl⟩
  exact ⟨_,eqStg d d' s s',by rw [beqB]; simp⟩
 obtain ⟨fs,hu⟩:∃ fs,Q.underlying 323=some (.struct fs):=⟨_,Tryz.underlying323⟩
 have hn:∀ a b,Instr.sameNow (.struct fs) a b=none:=fun a b=>by cases a<;>cases b<;>rfl
 refine ⟨fun k ⟨d,s,h⟩=>by subst h; rfl,fun v b h=>by cases h; exact ⟨rfl,rfl⟩,fun e k ⟨d,s,h⟩=>by subst h; rfl,fun k es hg he hm=>?_,fun k es hg he hm=>?_⟩
 ·obtain ⟨r,h1,h2⟩:=(ask_hit hs hg es 0 he).1 hm
  refine ⟨r,?_,h2⟩
  cases es with
  | nil=>obtain ⟨e,he,_⟩:=hm; cases he
  | cons e es=>simp only [Instr.findKey,prun_bind,prun_underlying (P:=Q) hu,Instr.findNow,hn]; exact h1
 ·cases es with
  | nil=>simp only [Instr.findKey,prun_bind,prun_underlying (P:=Q) hu,Instr.findNow]; rfl
  | cons e es=>simp only [Instr.findKey,prun_bind,prun_underlying (P:=Q) hu,Instr.findNow,hn]; exact (ask_hit hs hg (e::es) 0 he).2 hm
set_option maxRecDepth 20000
theorem wrapN {n:Nat} (h:n<2 ^ 63):IntKind.wrap .i64 (n:Int)=(n:Int):=wrap64 (by omega) (by omega)
theorem ofNi (n:Nat):BitVec.ofInt 64 (n:Int)=BitVec.ofNat 64 n:=BitVec.ofInt_natCast 64 n
theorem and1 {d a:Nat} (hd:d<2 ^ 60) (ha:a<60):andI .i64 (shrI .i64 (d:Int) (a:Int)) 1=if d.testBit a then 1 else 0:=by
 have h1:shrI .i64 (d:Int) (a:Int)=((d >>> a:Nat):Int):=by
  show (d:Int).fdiv (2 ^ (min (a:Int).toNat 64))=_
  rw [Int.toNat_natCast,Nat.min_eq_left (by omega),Nat.shiftRight_eq_div_pow]
  have:(2:Int) ^ a=((2 ^ a:Nat):Int):=by simp
  rw [this,Int.fdiv_eq_ediv_of_nonneg _ (Int.natCast_nonneg _)]
  simp
 rw [h1]
 have h2:d >>> a<2 ^ 60:=Nat.lt_of_le_of_lt (Nat.shiftRight_le d a) hd
 show IntKind.wrap .i64 (((BitVec.ofInt 64 ((d >>> a:Nat):Int) &&& BitVec.ofInt 64 ((1:Nat):Int)).toNat:Nat):Int)=_
 rw [ofNi,ofNi,BitVec.toNat_and,BitVec.toNat_ofNat,BitVec.toNat_ofNat,Nat.mod_eq_of_lt (by omega),Nat.mod_eq_of_lt (by omega),Nat.and_one_is_mod]
 have h3:d.testBit a=decide (d >>> a % 2=1):=by rw [Nat.testBit,Nat.and_comm,Nat.and_one_is_mod]; rcases Nat.mod_two_eq_zero_or_one (d >>> a) with h | h<;>simp [h]
 rw [h3]
 rcases Nat.mod_two_eq_zero_or_one (d >>> a) with h | h<;>rw [h]<;>rfl
theorem or1 {d a:Nat} (hd:d<2 ^ 60) (ha:a<60):orI .i64 (d:Int) (shlI .i64 1 (a:Int))=((d ||| 1 <<< a:Nat):Int)∧d ||| 1 <<< a<2 ^ 60:=by
 have hp:1 <<< a<2 ^ 60:=by
  rw [Nat.shiftLeft_eq,Nat.one_mul]
  exact Nat.pow_lt_pow_right (by decide) ha
 have hlt:=Nat.or_lt_two_pow hd hp
 refine ⟨?_,hlt⟩
 have h1:shlI .i64 1 (a:Int)=((1 <<< a:Nat):Int):=by
  show IntKind.wrap .i64 (1*2 ^ (min (a:Int).toNat 64))=_
  rw [Int.toNat_natCast,Nat.min_eq_left (by omega),Int.one_mul]
  have:(2:Int) ^ a=((1 <<< a:Nat):Int):=by rw [Nat.shiftLeft_eq]; simp
  rw [this,wrapN (by omega)]
 rw [h1]
 show IntKind.wrap .i64 (((BitVec.ofInt 64 (d:Int) ||| BitVec.ofInt 64 ((1 <<< a:Nat):Int)).toNat:Nat):Int)=_
 rw [ofNi,ofNi,BitVec.toNat_or,BitVec.toNat_ofNat,BitVec.toNat_ofNat,Nat.mod_eq_of_lt (by omega),Nat.mod_eq_of_lt (by omega),wrapN (by omega)]
theorem ahead_ok (orc:FuncId→Bool) (c d:Sp) (G:GS):Wp ((E orc).cl 21 [.agg ⟨rSp.row c⟩,.agg ⟨rSp.row d⟩] G) fun r=>r.1= .bool (ahead c d)∧Ext G r.2:=by
 refine Wp.ref (f21 (exL_ok Q orc) _ _ G) ?_
 unfold ahead
 by_cases h:0≤c.to
 ·simp [s21,h,Value.cells]
  exact ((Ext.refl G).push _).push _
 ·simp [s21,h,Value.cells]
  exact ((Ext.refl G).push _).push _
theorem sp_at {l:List Sp} {i:Nat} (h:i<l.length):sp l i=l[i]:=by simp [sp,List.getD,List.getElem?_eq_getElem h]
section
variable {A:GS} {l:List Sp} {v0:Value}
theorem over_lp (orc:FuncId→Bool) (hs:SlR rSp A v0 l) (hlen:l.length≤50) {d:Nat} (hd:d<2 ^ 60):∀ (k i:Nat) (τ:Env) (G:GS),i+k=l.length→τ 1= .int .i64 (d:Int)→τ 7=v0→τ 8= .int .i64 l.length→τ 9= .int .i64 (i:Int)→Ext A G →
  Wp ((exL Q orc).lpx 101 0 τ G) fun q=>Ext A q.2.2∧((q.1= .exit 0∧∀ j,i≤j→j<l.length→0≤(sp l j).to→d.testBit j=true)∨(q.1= .ret∧q.2.1 4= .bool false∧∃ j,j<l.length∧0≤(sp l j).to∧d.testBit j=false)):=by
 intro k
 induction k with
 | zero =>
  intro i τ G hi t1 t7 t8 t9 hA
  have hi':i=l.length:=by omega
  subst hi'
  refine Wp.lp (l101_0 (exL_ok Q orc)) ?_
  simp [b101_0,clip_t,t1,t7,t8,t9,hA]
  intro j h1 h2; omega
 | succ k ih =>
  intro i τ G hi t1 t7 t8 t9 hA
  have hlt:i<l.length:=by omega
  have hw:IntKind.wrap .i64 ((i:Int)+1)=((i+1:Nat):Int):=wrap64 (by omega) (by omega)
  have h1:(i:Int)<l.length:=by omega
  have h2:(0:Int)≤i:=by omega
  have h3:¬ ((i:Int)<0):=by omega
  obtain ⟨b,o,c,e0,_,_,hz⟩:=(hs.ext hA).at hlt
  have hb:=and1 hd (show i<60 by omega)
  have hsp:=sp_at hlt
  rw [rSp_sz] at hz
  rw [← hsp,loadA_eq] at hz
  have hst:stO 10 0 (.agg ⟨rSp.row (sp l i)⟩) (some ⟨z29,1,false,1⟩)=some ⟨rSp.row (sp l i),1,false,1⟩:=rfl
  rw [rSp_row] at hz hst
  refine Wp.lp (l101_0 (exL_ok Q orc)) ?_
  by_cases ht:0≤(sp l i).to
  ·cases hbit:d.testBit i with
   | false =>
    rw [hbit] at hb
    simp [-Int.natCast_add,b101_0,clip_t,t1,t7,t8,t9,e0,h1,h2,h3,hlt,hz,hst,ht,hb]
    exact ⟨(hA.push _).put hA.nx _,i,hlt,ht,hbit⟩
   | true =>
    rw [hbit] at hb
    simp [-Int.natCast_add,b101_0,clip_t,t1,t7,t8,t9,e0,h1,h2,h3,hlt,hz,hst,ht,hb,hw]
    refine Wp.mono (ih (i+1) _ _ (by omega) ?_ ?_ ?_ ?_ ((hA.push _).put hA.nx _)) fun q hq=>?_
    ·simp [clip_t]
    ·simp [clip_t,e0]
    ·simp [clip_t]
    ·simp [clip_t]
    ·refine ⟨hq.1,hq.2.imp (fun h=>⟨h.1,fun j hj1 hj2 hj3=>?_⟩) id⟩
     by_cases hji:j=i
     ·subst hji; exact hbit
     ·exact h.2 j (by omega) hj2 hj3
  ·simp [-Int.natCast_add,b101_0,clip_t,t1,t7,t8,t9,e0,h1,h2,h3,hlt,hz,hst,ht,hw]
   refine Wp.mono (ih (i+1) _ _ (by omega) ?_ ?_ ?_ ?_ ((hA.push _).put hA.nx _)) fun q hq=>?_
   ·simp [clip_t]
   ·simp [clip_t,e0]
   ·simp [clip_t]
   ·simp [clip_t]
   ·refine ⟨hq.1,hq.2.imp (fun h=>⟨h.1,fun j hj1 hj2 hj3=>?_⟩) id⟩
    by_cases hji:j=i
    ·subst hji; exact absurd hj3 ht
    ·exact h.2 j (by omega) hj2 hj3
theorem over_ok (orc:FuncId→Bool) (hs:SlR rSp A v0 l) (hlen:l.length≤50) {d:Nat} (hd:d<2 ^ 60):∃ G',Ext A G' ∧((E orc).cl 101 [v0,.int .i64 (d:Int)] A=some (.bool true,G')∧ovrP l d∨(E orc).cl 101 [v0,.int .i64 (d:Int)] A=some (.bool false,G')∧¬ ovrP l d):=by
 have w:Wp ((E orc).cl 101 [v0,.int .i64 (d:Int)] A) fun q=>Ext A q.2∧(q.1= .bool true∧ovrP l d∨q.1= .bool false∧¬ ovrP l d):=by
  refine Wp.ref (f101 (exL_ok Q orc) _ _ A) ?_
  obtain ⟨a,c,e0⟩:=hs.len
  have lc:ln Q true 38 v0=some (.int .i64 l.length):=by rw [e0]; simp
  simp [s101,lc]
  refine Wp.bE ((over_lp orc hs hlen hd l.length 0 _ A (by omega) (by simp) (by simp) (by simp) (by simp) (Ext.refl A)).mono ?_)
  rintro ⟨e,τ,G'⟩ ⟨h0,(⟨h1,h2⟩ | ⟨h1,h2,j,h3,h4,h5⟩)⟩
  ·simp only at h0 h1 h2
   subst h1
   simp [h0]
   exact fun j hj ht=>h2 j (by omega) hj ht
  ·simp only at h0 h1 h2
   subst h1
   simp [h0,h2]
   exact fun h=>by rw [h j h3 h4] at h5; cases h5
 obtain ⟨⟨v,G'⟩,e,h0,(⟨h1,h2⟩ | ⟨h1,h2⟩)⟩:=w
 ·simp only at h0 h1; subst h1; exact ⟨G',h0,.inl ⟨e,h2⟩⟩
 ·simp only at h0 h1; subst h1; exact ⟨G',h0,.inr ⟨e,h2⟩⟩
end
section
variable {A:GS} {l:List Sp} {v0:Value}
theorem ready_lp (orc:FuncId→Bool) (hs:SlR rSp A v0 l) (hlen:l.length≤50) {d a:Nat} (hd:d<2 ^ 60) (ha:a<l.length):∀ (k i:Nat) (τ:Env) (G:GS),i+k=l.length→τ 0=v0→τ 1= .int .i64 (d:Int)→τ 2= .int .i64 (a:Int)→τ 14=v0→τ 15= .int .i64 l.length→τ 16= .int .i64 (i:Int)→Ext A G →
  Wp ((exL Q orc).lpx 102 0 τ G) fun q=>Ext A q.2.2∧((q.1= .exit 0∧∀ j,i≤j→j<l.length→j≠a→d.testBit j=false→ahead (sp l j) (sp l a)=false)∨(q.1= .ret∧q.2.1 6= .bool false∧∃ j,j<l.length∧j≠a∧d.testBit j=false∧ahead (sp l j) (sp l a)=true)):=by
 intro k
 induction k with
 | zero =>
  intro i τ G hi t0 t1 t2 t14 t15 t16 hA
  have hi':i=l.length:=by omega
  subst hi'
  refine Wp.lp (l102_0 (exL_ok Q orc)) ?_
  simp [b102_0,clip_t,t0,t1,t2,t14,t15,t16,hA]
  intro j h1 h2; omega
 | succ k ih =>
  intro i τ G hi t0 t1 t2 t14 t15 t16 hA
  have hlt:i<l.length:=by omega
  have hw:IntKind.wrap .i64 ((i:Int)+1)=((i+1:Nat):Int):=wrap64 (by omega) (by omega)
  have h1:(i:Int)<l.length:=by omega
  have h2:(0:Int)≤i:=by omega
  have h3:¬ ((i:Int)<0):=by omega
  have k1:(a:Int)<l.length:=by omega
  have k2:(0:Int)≤a:=by omega
  obtain ⟨b,o,c,e0,hbG,_,hz⟩:=(hs.ext hA).at hlt
  obtain ⟨b',o',c',e0',_,_,hy⟩:=(hs.ext hA).at ha
  have e1:=e0.symm.trans e0'
  simp only [Value.slice.injEq,Option.some.injEq,Addr.mk.injEq,and_true,true_and] at e1
  obtain ⟨⟨rfl,rfl⟩,rfl⟩:=e1
  have hb:=and1 hd (show i<60 by omega)
  have hsp:=sp_at hlt
  have hspa:=sp_at ha
  rw [rSp_sz] at hz hy
  rw [← hsp,loadA_eq] at hz
  rw [← hspa,loadA_eq] at hy
  have hst:stO 10 0 (.agg ⟨rSp.row (sp l i)⟩) (some ⟨z29,1,false,1⟩)=some ⟨rSp.row (sp l i),1,false,1⟩:=rfl
  have hld:loadO 10 0 (some ⟨rSp.row (sp l i),1,false,1⟩)=some (.agg ⟨rSp.row (sp l i)⟩):=loadO_whole rfl (by decide)
  have hne:¬ b=G.nx:=by omega
  have hA':Ext A ((G.push ⟨z29,1,false,1⟩).put G.nx ⟨rSp.row (sp l i),1,false,1⟩):=(hA.push _).put hA.nx _
  generalize hri:rSp.row (sp l i)=ri at *
  generalize hra:rSp.row (sp l a)=ra at *
  have next:∀ (τ':Env) (G':GS),τ' 0=v0→τ' 1= .int .i64 (d:Int)→τ' 2= .int .i64 (a:Int)→τ' 14=v0→τ' 15= .int .i64 l.length→τ' 16= .int .i64 ((i+1:Nat):Int)→Ext A G' →(i≠a→d.testBit i=false→ahead (sp l i) (sp l a)=false) →
    Wp ((exL Q orc).lpx 102 0 τ' G') fun q=>Ext A q.2.2∧((q.1= .exit 0∧∀ j,i≤j→j<l.length→j≠a→d.testBit j=false→ahead (sp l j) (sp l a)=false)∨(q.1= .ret∧q.2.1 6= .bool false∧∃ j,j<l.length∧j≠a∧d.testBit j=false∧ahead (sp l j) (sp l a)=true)):=by
   intro τ' G' s0 s1 s2 s14 s15 s16 hE hno
   refine Wp.mono (ih (i+1) τ' G' (by omega) s0 s1 s2 s14 s15 s16 hE) fun q hq=>?_
   refine ⟨hq.1,hq.2.imp (fun h=>⟨h.1,fun j hj1 hj2 hj3 hj4=>?_⟩) id⟩
   by_cases hji:j=i
   ·subst hji; exact hno hj3 hj4
   ·exact h.2 j (by omega) hj2 hj3 hj4
  refine Wp.lp (l102_0 (exL_ok Q orc)) ?_
  by_cases hia:i=a
  ·subst hia
   simp [-Int.natCast_add,b102_0,clip_t,t0,t1,t2,t14,t15,t16,e0,h1,h2,h3,hlt,hz,hst,hw]
   exact next _ _ (by simp [clip_t,e0]) (by simp [clip_t]) (by simp [clip_t]) (by simp [clip_t,e0]) (by simp [clip_t]) (by simp [clip_t]) (hA'.room 18) fun h=>absurd rfl h
  ·have hia':¬ ((i:Int)=a):=by omega
   cases hbit:d.testBit i with
   | true =>
    rw [hbit] at hb
    simp [-Int.natCast_add,b102_0,clip_t,t0,t1,t2,t14,t15,t16,e0,h1,h2,h3,hlt,hz,hst,hw,hia,hia',hb]
    exact next _ _ (by simp [clip_t,e0]) (by simp [clip_t]) (by simp [clip_t]) (by simp [clip_t,e0]) (by simp [clip_t]) (by simp [clip_t]) (hA'.room 18) fun _ h=>by rw [hbit] at h; cases h
   | false =>
    rw [hbit] at hb
    obtain ⟨⟨r,G'⟩,e5,rfl,x5⟩:=ahead_ok orc (sp l i) (sp l a) (((G.push ⟨z29,1,false,1⟩).put G.nx ⟨ri,1,false,1⟩).room 18)
    rw [hri,hra] at e5
    simp only at e5 x5
    have xE:=(hA'.room 18).trans x5
    cases hah:ahead (sp l i) (sp l a) with
    | true =>
     rw [hah] at e5
     simp [-Int.natCast_add,b102_0,clip_t,t0,t1,t2,t14,t15,t16,e0,h1,h2,h3,hlt,hz,hst,hw,hia,hia',hb,hld,k1,k2,hy,hne,e5]
     exact ⟨xE,i,hlt,hia,hbit,hah⟩
    | false =>
     rw [hah] at e5
     simp [-Int.natCast_add,b102_0,clip_t,t0,t1,t2,t14,t15,t16,e0,h1,h2,h3,hlt,hz,hst,hw,hia,hia',hb,hld,k1,k2,hy,hne,e5]
     exact next _ _ (by simp [clip_t,e0]) (by simp [clip_t]) (by simp [clip_t]) (by simp [clip_t,e0]) (by simp [clip_t]) (by simp [clip_t]) xE fun _ _=>hah
theorem ready_ok (orc:FuncId→Bool) (hs:SlR rSp A v0 l) (hlen:l.length≤50) {d a:Nat} (hd:d<2 ^ 60) (ha:a<l.length):∃ G',Ext A G' ∧((E orc).cl 102 [v0,.int .i64 (d:Int),.int .i64 (a:Int)] A=some (.bool true,G')∧rdyP l d a∨(E orc).cl 102 [v0,.int .i64 (d:Int),.int .i64 (a:Int)] A=some (.bool false,G')∧¬ rdyP l d a):=by
 have w:Wp ((E orc).cl 102 [v0,.int .i64 (d:Int),.int .i64 (a:Int)] A) fun q=>Ext A q.2∧(q.1= .bool true∧rdyP l d a∨q.1= .bool false∧¬ rdyP l d a):=by
  refine Wp.ref (f102 (exL_ok Q orc) _ _ _ A) ?_
  obtain ⟨x,c,e0⟩:=hs.len
  have lc:ln Q true 38 v0=some (.int .i64 l.length):=by rw [e0]; simp
  have hb:=and1 hd (show a<60 by omega)
  have k3:¬ ((a:Int)<0):=by omega
  cases hbit:d.testBit a with
  | true =>
   rw [hbit] at hb
   simp [s102,lc,hb,k3]
   exact ⟨.refl A,fun h=>by rw [h.1] at hbit; cases hbit⟩
  | false =>
   rw [hbit] at hb
   simp [s102,lc,hb,k3]
   refine Wp.bE ((ready_lp orc hs hlen hd ha l.length 0 _ A (by omega) (by simp) (by simp) (by simp) (by simp) (by simp) (by simp) (Ext.refl A)).mono ?_)
   rintro ⟨e,τ,G'⟩ ⟨h0,(⟨h1,h2⟩ | ⟨h1,h2,j,h3,h4,h5,h6⟩)⟩
   ·simp only at h0 h1 h2
    subst h1
    simp [h0]
    exact ⟨hbit,fun j hj=>h2 j (by omega) hj⟩
   ·simp only at h0 h1 h2
    subst h1
    simp [h0,h2]
    exact fun h=>by rw [h.2 j h3 h4 h5] at h6; cases h6
 obtain ⟨⟨v,G'⟩,e,h0,(⟨h1,h2⟩ | ⟨h1,h2⟩)⟩:=w
 ·simp only at h0 h1; subst h1; exact ⟨G',h0,.inl ⟨e,h2⟩⟩
 ·simp only at h0 h1; subst h1; exact ⟨G',h0,.inr ⟨e,h2⟩⟩
end
theorem cloneI_ok (orc:FuncId→Bool) {A:GS} {L:List Int} {v0:Value} (hs:SlR (rowsI .i64) A v0 L) (hlen:L.length≤4000):∃ v' G',(E orc).cl 98 [v0] A=some (v',G')∧Ext A G' ∧OwR (rowsI .i64) A.nx G' v' L:=by
 have w:Wp ((E orc).cl 98 [v0] A) fun q=>Ext A q.2∧OwR (rowsI .i64) A.nx q.2 q.1 L:=by
  refine Wp.ref (f98 (exL_ok Q orc) _ A) ?_
  obtain ⟨a,c,e0⟩:=hs.len
  cases a with
  | none =>
   have hL:L=[]∧v0= .slice none 0 0:=by
    rcases hs.is.2 with ⟨h1,h2⟩ | ⟨b,o,c',ob,h1,_⟩
    ·exact ⟨List.eq_nil_of_length_eq_zero h2,h1⟩
    ·rw [e0] at h1; cases h1
   obtain ⟨rfl,rfl⟩:=hL
   simp [s98]
   exact ⟨.refl A,OwR.nil _ _⟩
  | some p =>
   have hE:Ext A (A.push ⟨[],1,false,1⟩):=(Ext.refl A).push _
   obtain ⟨v',G',h1,h2,h3⟩:=OwR.app (A:=A) (ib:=8) (OwR.made (rowsI .i64) A) (by decide) hE (hs.ext hE) (by simp; omega)
   rw [show (rowsI .i64).sz=1 from rfl] at h1
   rw [e0] at h1
   rw [List.nil_append] at h3
   simp [s98,e0,h1]
   exact ⟨h2,h3⟩
 obtain ⟨⟨v,G'⟩,e,h1,h2⟩:=w
 exact ⟨v,G',e,h1,h2⟩
def eAn:RowE An3:=⟨3,fun x=>[.int .i64 x.1,.int .i64 x.2.1,.int .u64 x.2.2],fun _=>rfl,fun _=>rfl,by decide⟩
@[simp] theorem eAn_sz:eAn.sz=3:=rfl
@[simp] theorem eAn_row (x:An3):eAn.row x=[.int .i64 x.1,.int .i64 x.2.1,.int .u64 x.2.2]:=rfl
def rowOp (o:Op4):List Value:=[.int .i64 o.1,.int .i64 o.2.1,.int .i64 o.2.2.1,.int .u64 o.2.2.2]
def okOp (o:Op4):Prop:=(0≤o.2.2.2∧o.2.2.2<18446744073709551616)∧ -9223372036854775808≤o.2.1∧o.2.1<9223372036854775808
structure MacC {α:Type} (orc:FuncId→Bool) (e:RowE α) (m:Mac α) (inv:List α→Prop) (tx:List α→ByteArray) (B:GS) (fv nv uv tv:Value):Prop where
 first:SlR e B fv m.first
 inv0:inv m.first
 next:∀ (G:GS) (sv:Value) (s:List α) (op:Op4) (an:An3),Ext B G→SlR e G sv s→inv s→okOp op→Wp (cValue (E orc) nv [sv,.agg ⟨rowOp op⟩,.agg ⟨eAn.row an⟩] G) fun r=>Ext G r.2∧∃ v',(r.1= .tuple #[v',.bool true]∧∃ s',m.next s op an=some s' ∧inv s' ∧OwR e G.nx r.2 v' s')∨(r.1= .tuple #[v',.bool false]∧m.next s op an=none)
 fine:∀ (G:GS) (sv:Value) (s:List α) (op:Op4),Ext B G→SlR e G sv s→inv s→okOp op→Wp (cValue (E orc) uv [sv,.agg ⟨rowOp op⟩] G) fun r=>Ext G r.2∧SlR eAn r.2 r.1 (m.fine s op)∧(m.fine s op).length≤2000
 text:∀ (G:GS) (sv:Value) (s:List α),Ext B G→SlR e G sv s→inv s→Wp (cValue (E orc) tv [sv] G) fun r=>r.1= .string (tx s)∧r.2=G
 inj:∀ s s',inv s→inv s' →tx s=tx s' →s=s'
 sm:same (.agg ⟨[fv,nv,uv,tv]⟩) (.agg ⟨[fv,nv,uv,tv]⟩)=true
section
variable {α:Type} {e:RowE α} {m:Mac α} {inv:List α→Prop} {tx:List α→ByteArray} {B:GS} {fv nv uv tv:Value}
theorem told_Q (orc:FuncId→Bool) (hm:MacC orc e m inv tx B fv nv uv tv) {G:GS} {sv:Value} {s:List α} {c:Sp} (hB:Ext B G) (hs:SlR e G sv s) (hi:inv s) (ho:okOp c.op) :
  Wp ((E orc).cl 119 [.agg ⟨[fv,nv,uv,tv]⟩,sv,.agg ⟨rSp.row c⟩] G) fun r=>Ext G r.2∧SlR eAn r.2 r.1 (toldP m s c)∧(toldP m s c).length≤2000:=by
 refine Wp.ref (f119 (exL_ok Q orc) _ _ _ G) ?_
 have hE:Ext G ((G.push ⟨[fv,nv,uv,tv],1,false,1⟩).push ⟨rSp.row c,1,false,1⟩):=((Ext.refl G).push _).push _
 unfold toldP
 by_cases ht:0≤c.to
 ·simp [s119,ht,Value.cells]
  exact ⟨hE.push _,SlR.one eAn _ c.an⟩
 ·obtain ⟨⟨r,G'⟩,e1,h1,h2,h3⟩:=hm.fine _ sv s c.op (hB.trans hE) (hs.ext hE) hi ho
  simp [s119,ht,Value.cells]
  exact ⟨(r,G'),e1,hE.trans h1,h2,h3⟩
end
abbrev Pp (b:Nat):Value:=.pointer (some ⟨b,0,none⟩)
structure Kp (lv:Nat) (G G':GS):Prop where
 nx:G.nx≤G'.nx
 obj:∀ g,g<G.nx→G'.obj g=G.obj g
 nl:G.nl≤G'.nl
 loop:∀ k,k<G.nl→k≠lv→G'.loop k=G.loop k
theorem Kp.refl (lv:Nat) (G:GS):Kp lv G G:=⟨Nat.le_refl _,fun _ _=>rfl,Nat.le_refl _,fun _ _ _=>rfl⟩
theorem Kp.trans {lv:Nat} {A B C:GS} (h:Kp lv A B) (k:Kp lv B C):Kp lv A C :=
 ⟨Nat.le_trans h.nx k.nx,fun g hg=>(k.obj g (Nat.lt_of_lt_of_le hg h.nx)).trans (h.obj g hg),Nat.le_trans h.nl k.nl,fun l hl hn=>(k.loop l (Nat.lt_of_lt_of_le hl h.nl) hn).trans (h.loop l hl hn)⟩
theorem Kp.ext {lv:Nat} {A B:GS} (h:Ext A B):Kp lv A B:=⟨h.nx,h.obj,h.nl,fun k hk _=>h.loop k hk⟩
theorem Kp.put {lv:Nat} (G:GS) (r:Lp):Kp lv G (G.putLoop lv r):=⟨Nat.le_refl _,fun _ _=>rfl,Nat.le_refl _,fun k _ hn=>by rw [GS.loop_put,if_neg hn]⟩
theorem extKp {lv:Nat} {B G G':GS} (h:Ext B G) (hl:B.nl≤lv) (k:Kp lv G G'):Ext B G' :=
 ⟨Nat.le_trans h.nx k.nx,fun g hg=>(k.obj g (Nat.lt_of_lt_of_le hg h.nx)).trans (h.obj g hg),Nat.le_trans h.nl k.nl,fun l hl'=>(k.loop l (Nat.lt_of_lt_of_le hl' h.nl) (by omega)).trans (h.loop l hl')⟩
theorem slrKp {α:Type} {e:RowE α} {lv:Nat} {G G':GS} {v:Value} {L:List α} (h:SlR e G v L) (k:Kp lv G G'):SlR e G' v L :=
 h.same k.nx fun a n c he=>k.obj _ (h.lt _ _ _ he)
theorem drawn0 {A G:GS} (h:Ext A G) {n:Nat} (hn:A.nx≤n) (o:GObj):Ext A (((G.at' n).push o).back G) :=
 ⟨h.nx,fun g hg=>by simp; rw [if_neg (by omega)]; exact h.obj g hg,h.nl,fun l hl=>by simpa using h.loop l hl⟩
structure TeP where
 p3:Nat
 p4:Nat
 p5:Nat
 p6:Nat
 p7:Nat
 p8:Nat
 lv:Nat
 l0:Nat
 fl:Nat
 bV:Value
 lV:Value
 fv:Value
 nv:Value
 uv:Value
 tv:Value
 l:List Sp
 b:List Nat
 R:Lp
structure Fd (t:TeP) (G G':GS):Prop where
 nx:G.nx≤G'.nx
 obj:∀ g,g<G.nx→g≠t.fl→G'.obj g=G.obj g
 fl:G'.obj t.fl=some ⟨[.bool true],1,false,1⟩
 nl:G.nl≤G'.nl
 loop:∀ k,k<G.nl→k≠t.lv→k≠t.l0→G'.loop k=G.loop k
 l0:∃ r,G'.loop t.l0=some r∧r.st= .done∧jumpOf r.pend=some .ret
theorem Fd.of {t:TeP} {A G G':GS} (k:Kp t.lv A G) (h:Fd t G G'):Fd t A G' :=
 ⟨Nat.le_trans k.nx h.nx,fun g hg hn=>(h.obj g (Nat.lt_of_lt_of_le hg k.nx) hn).trans (k.obj g hg),h.fl,Nat.le_trans k.nl h.nl,fun l hl hn h0=>(h.loop l (Nat.lt_of_lt_of_le hl k.nl) hn h0).trans (k.loop l hl hn),h.l0⟩
structure Te {α:Type} (orc:FuncId→Bool) (e:RowE α) (m:Mac α) (inv:List α→Prop) (tx:List α→ByteArray) (tf:FuncId) (B:GS) (t:TeP) (G:GS):Prop where
 mc:MacC orc e m inv tx B t.fv t.nv t.uv t.tv
 hB:Ext B G
 hlv:B.nl≤t.lv∧t.lv<G.nl
 hl0:t.l0<G.nl∧t.l0≠t.lv
 lt:t.p3<G.nx∧t.p4<G.nx∧t.p5<G.nx∧t.p6<G.nx∧t.p7<G.nx∧t.p8<G.nx∧t.fl<G.nx
 c3:G.obj t.p3=some ⟨[t.bV],1,false,1⟩
 c4:G.obj t.p4=some ⟨[t.lV],1,false,1⟩
 c5:G.obj t.p5=some ⟨[.func (.yield t.l0) #[] #[]],1,false,1⟩
 c6:G.obj t.p6=some ⟨[t.fv,t.nv,t.uv,t.tv],1,false,1⟩
 c7:G.obj t.p7=some ⟨[.map (some t.lv)],1,false,1⟩
 c8:G.obj t.p8=some ⟨[.func (.func tf) ⟨[]⟩ ⟨[Pp t.p3,Pp t.p4,Pp t.p5,Pp t.p6,Pp t.p7,Pp t.p8]⟩],1,false,1⟩
 cf:G.obj t.fl=some ⟨[.bool false],1,false,1⟩
 hb:SlR (rowsI .i64) G t.bV (t.b.map fun (a:Nat)=>(a:Int))
 hl:SlR rSp G t.lV t.l
 okl:∀ c∈t.l,okOp c.op
 len:t.l.length≤11
 lenb:t.b.length≤3000
 r0:G.loop t.l0=some t.R
 yl:∀ (G1:GS) (v:Value),G1.loop t.l0=some t.R→G1.obj t.fl=some ⟨[.bool false],1,false,1⟩→t.fl<G1.nx→t.l0<G1.nl→∃ G2,(E orc).rd t.l0 [v] G1=some (.bool false,G2)∧Fd t G1 G2
section
variable {α:Type} {orc:FuncId→Bool} {e:RowE α} {m:Mac α} {inv:List α→Prop} {tx:List α→ByteArray} {tf:FuncId} {B:GS} {t:TeP} {G G':GS}
theorem Te.kp (h:Te orc e m inv tx tf B t G) (k:Kp t.lv G G'):Te orc e m inv tx tf B t G':=by
 obtain ⟨h3,h4,h5,h6,h7,h8,h9⟩:=h.lt
 have nx:=k.nx
 exact ⟨h.mc,extKp h.hB h.hlv.1 k,⟨h.hlv.1,Nat.lt_of_lt_of_le h.hlv.2 k.nl⟩,⟨Nat.lt_of_lt_of_le h.hl0.1 k.nl,h.hl0.2⟩,⟨by omega,by omega,by omega,by omega,by omega,by omega,by omega⟩,
  (k.obj _ h3).trans h.c3,(k.obj _ h4).trans h.c4,(k.obj _ h5).trans h.c5,(k.obj _ h6).trans h.c6,(k.obj _ h7).trans h.c7,(k.obj _ h8).trans h.c8,(k.obj _ h9).trans h.cf,slrKp h.hb k,slrKp h.hl k,h.okl,h.len,h.lenb,
  (k.loop _ h.hl0.1 h.hl0.2).trans h.r0,h.yl⟩
end
def MemOk {α:Type} (m:Mac α) (l:List Sp) (inv:List α→Prop) (tx:List α→ByteArray) (es:List (Value×Value)):Prop :=
 GoodE gStg gUnit es∧∀ x∈es,∀ (s:List α) (d:Nat),inv s→x.1= .agg #[.int .i64 (d:Int),.string (tx s)]→¬ Goes m l [] s d
def Mem {α:Type} (m:Mac α) (l:List Sp) (inv:List α→Prop) (tx:List α→ByteArray) (lv:Nat) (Z:Nat→ByteArray→Prop) (G:GS):Prop:=∃ es,G.loop lv=some (mpL es)∧MemOk m l inv tx es∧∀ x∈es,∀ d0 s0,Z d0 s0→x.1≠ .agg #[.int .i64 (d0:Int),.string s0]
theorem Mem.ext {α:Type} {m:Mac α} {l:List Sp} {inv:List α→Prop} {tx:List α→ByteArray} {lv:Nat} {Z:Nat→ByteArray→Prop} {G G':GS} (h:Mem m l inv tx lv Z G) (hE:Ext G G') (hl:lv<G.nl):Mem m l inv tx lv Z G' :=
 let ⟨es,h1,h2⟩:=h; ⟨es,(hE.loop _ hl).trans h1,h2⟩
def Out {α:Type} (m:Mac α) (inv:List α→Prop) (tx:List α→ByteArray) (t:TeP) (Z:Nat→ByteArray→Prop) (P:Prop) (G:GS) (r:Value×GS):Prop :=
 (r.1= .bool true∧¬ P∧Kp t.lv G r.2∧Mem m t.l inv tx t.lv Z r.2)∨(r.1= .bool false∧P∧Fd t G r.2)
section
variable {α:Type} {orc:FuncId→Bool} {e:RowE α} {m:Mac α} {inv:List α→Prop} {tx:List α→ByteArray} {B:GS} {t:TeP} {Z:Nat→ByteArray→Prop} {A G:GS} {s:List α} {sv rowv av kv:Value} {d a cb:Nat} {row:List Nat} {op:Bool} {L:List An3} {c:Sp}
abbrev rIQ (row:List Nat):List Int:=row.map fun (a:Nat)=>(a:Int)
structure EvQ (t:TeP) (sv rowv kv:Value) (d:Nat) (op:Bool) (τ:Env):Prop where
 t0:τ 0=sv
 t1:τ 1= .int .i64 (d:Int)
 t2:τ 2=rowv
 t3:τ 3=Pp t.p3
 t4:τ 4=Pp t.p4
 t6:τ 6=Pp t.p6
 t7:τ 7=Pp t.p7
 t8:τ 8=Pp t.p8
 t13:τ 13= .bool op
 t14:τ 14=kv
 t54:τ 54=t.lV
 t55:τ 55= .int .i64 t.l.length
def InPQ (m:Mac α) (inv:List α→Prop) (tx:List α→ByteArray) (t:TeP) (Z:Nat→ByteArray→Prop) (A:GS) (s:List α) (sv rowv kv:Value) (d a:Nat) (row:List Nat) (op:Bool) (c:Sp) (L:List An3) (q:Exit×Env×GS):Prop :=
 (q.1= .exit 2∧Kp t.lv A q.2.2∧Mem m t.l inv tx t.lv Z q.2.2∧(∀ an,an∈L→∀ s1,m.next s c.op an=some s1→¬ Goes m t.l (t.b.drop (row.length+1)) s1 (d ||| 1 <<< a))∧EvQ t sv rowv kv d op q.2.1∧q.2.1 56= .int .i64 (a:Int)) ∨
 (q.1= .ret∧q.2.1 12= .bool false∧(∃ an,an∈L∧∃ s1,m.next s c.op an=some s1∧Goes m t.l (t.b.drop (row.length+1)) s1 (d ||| 1 <<< a))∧Fd t A q.2.2)
theorem inP_cons_Q {an:An3} {q:Exit×Env×GS} (h:InPQ m inv tx t Z A s sv rowv kv d a row op c L q) (hn:∀ s1,m.next s c.op an=some s1→¬ Goes m t.l (t.b.drop (row.length+1)) s1 (d ||| 1 <<< a)):InPQ m inv tx t Z A s sv rowv kv d a row op c (an::L) q:=by
 rcases h with ⟨h1,h2,h3,h4,h5⟩ | ⟨h1,h2,⟨x,h3,h4⟩,h5⟩
 ·exact .inl ⟨h1,h2,h3,fun x hx=>(List.mem_cons.1 hx).elim (fun e=>e▸hn) (h4 x),h5⟩
 ·exact .inr ⟨h1,h2,⟨x,List.mem_cons_of_mem _ h3,h4⟩,h5⟩
theorem inner_Q (hT:Te orc e m inv tx 226 B t A) (hs:SlR e A sv s) (hi:inv s) (hr:SlR (rowsI .i64) A rowv (rIQ row)) (hrl:row.length≤3000) (hd:d<2 ^ 60) (ha:a<50)
  (hc:A.obj cb=some ⟨rSp.row c,1,false,1⟩) (hcb:cb<A.nx) (hoc:okOp c.op) (hL:SlR eAn A av L) (hLl:L.length≤2000)
  (ih:∀ (G:GS) (sv1 rowv1:Value) (s1:List α),Te orc e m inv tx 226 B t G→Mem m t.l inv tx t.lv Z G→SlR e G sv1 s1→inv s1→SlR (rowsI .i64) G rowv1 (rIQ (row++[a])) →
   Wp ((E orc).cl 226 [sv1,.int .i64 ((d ||| 1 <<< a:Nat):Int),rowv1,Pp t.p3,Pp t.p4,Pp t.p5,Pp t.p6,Pp t.p7,Pp t.p8] G) (Out m inv tx t Z (Goes m t.l (t.b.drop (row.length+1)) s1 (d ||| 1 <<< a)) G)) :
  ∀ (k j:Nat) (τ:Env) (G:GS),j+k=L.length→EvQ t sv rowv kv d op τ→τ 56= .int .i64 (a:Int)→τ 17= .int .i64 (a:Int)→τ 18=Pp cb→τ 82=av→τ 83= .int .i64 L.length→τ 84= .int .i64 (j:Int)→Kp t.lv A G→Mem m t.l inv tx t.lv Z G →
  Wp ((exL Q orc).lpx 226 1 τ G) (InPQ m inv tx t Z A s sv rowv kv d a row op c (L.drop j)):=by
 intro k
 induction k with
 | zero =>
  intro j τ G hj ev t56 t17 t18 t82 t83 t84 hK hM
  have hj':j=L.length:=by omega
  subst hj'
  obtain ⟨u0,u1,u2,u3,u4,u6,u7,u8,u13,u14,u54,u55⟩:=ev
  refine Wp.lp (l226_1 (exL_ok Q orc)) ?_
  simp [b226_1,clip_t,u0,u1,u2,u6,u8,t17,t18,t82,t83,t84,-List.drop_length]
  exact .inl ⟨rfl,hK,hM,fun an h=>by simp at h,⟨by simp [clip_t,u0],by simp [clip_t,u1],by simp [clip_t,u2],by simp [clip_t,u3],by simp [clip_t,u4],by simp [clip_t,u6],by simp [clip_t,u7],by simp [clip_t,u8],by simp [clip_t,u13],by simp [clip_t,u14],by simp [clip_t,u54],by simp [clip_t,u55]⟩,by simp [clip_t,t56]⟩
 | succ k ihk =>
  intro j τ G hj ev t56 t17 t18 t82 t83 t84 hK hM
  obtain ⟨u0,u1,u2,u3,u4,u6,u7,u8,u13,u14,u54,u55⟩:=ev
  have hlt:j<L.length:=by omega
  have hw:IntKind.wrap .i64 ((j:Int)+1)=((j+1:Nat):Int):=wrap64 (by omega) (by omega)
  have h1:(j:Int)<L.length:=by omega
  have h2:(0:Int)≤j:=by omega
  have h3:¬ ((a:Int)<0):=by omega
  have hTG:=hT.kp hK
  obtain ⟨b,o,cc,e0,hbG,_,hz⟩:=(slrKp hL hK).at hlt
  rw [eAn_sz,loadA_eq] at hz
  rw [List.drop_eq_getElem_cons hlt]
  generalize L[j]=an at *
  have hst:stO 3 0 (.agg ⟨eAn.row an⟩) (some ⟨z27,1,false,1⟩)=some ⟨eAn.row an,1,false,1⟩:=rfl
  have hE:Ext G ((G.push ⟨z27,1,false,1⟩).put G.nx ⟨eAn.row an,1,false,1⟩):=((Ext.refl G).push _).put (Nat.le_refl _) _
  have hob6:=hTG.c6
  have hcG:G.obj cb=some ⟨rSp.row c,1,false,1⟩:=(hK.obj _ hcb).trans hc
  have n6:¬ t.p6=G.nx:=by have:=hTG.lt.2.2.2.1; omega
  have ncb:¬ cb=G.nx:=by have:=hK.nx; omega
  obtain ⟨⟨r,G12⟩,e5,x5,v',hr5⟩:=hTG.mc.next _ sv s c.op an (hTG.hB.trans hE) ((slrKp hs hK).ext hE) hi hoc
  simp only at x5 hr5
  have e5':cValue (E orc) t.nv [sv,.agg ⟨rowOp c.op⟩,.agg ⟨eAn.row an⟩] ((G.push ⟨z27,1,false,1⟩).put G.nx ⟨eAn.row an,1,false,1⟩)=some (r,G12):=e5
  have hor:=or1 hd (show a<60 by omega)
  have xG:=hE.trans x5
  have hK12:Kp t.lv A G12:=hK.trans (Kp.ext xG)
  refine Wp.lp (l226_1 (exL_ok Q orc)) ?_
  rcases hr5 with ⟨rfl,s',hn,hi',hsl⟩ | ⟨rfl,hn⟩
  ·have hT12:=hT.kp hK12
   have l8:=hT12.lt.2.2.2.2.2.1
   have o8:=hT12.c8
   obtain ⟨rv,G22,e6,x6,w6⟩:=cloneI_ok orc ((slrKp hr hK12).ext ((Ext.refl G12).room 16)) (by simp; omega)
   have n22:=x6.nx
   simp at n22
   have o22:=(x6.obj t.p8 (by simp; omega)).trans o8
   have x26:Ext G12 (((G22.at' (G12.nx+11)).push ⟨[.int .i64 (a:Int)],1,false,1⟩).back G22):=drawn0 (((Ext.refl G12).room 16).trans x6) (by omega) _
   have sl:SlR (rowsI .i64) (((G22.at' (G12.nx+11)).push ⟨[.int .i64 (a:Int)],1,false,1⟩).back G22) (.slice (some ⟨G12.nx+11,0,none⟩) 1 1) [(a:Int)]:=SlR.oneD (rowsI .i64) G22 (a:Int) (by omega)
   have w26:OwR (rowsI .i64) G12.nx (((G22.at' (G12.nx+11)).push ⟨[.int .i64 (a:Int)],1,false,1⟩).back G22) rv (rIQ row):=by
    refine (w6.same (by simp) fun p n c he=>?_).mono (by simp)
    have:=w6.ge p n c he
    simp at this
    have hne:¬ p.block=G12.nx+11:=by omega
    simp [hne]
   obtain ⟨rv',G27,e7,x7,w7⟩:=OwR.app (ib:=8) w26 (by decide) x26 sl (by simp; omega)
   rw [show (rowsI .i64).sz=1 from rfl] at e7
   have o27:=(x7.obj t.p8 l8).trans o8
   have hK27:Kp t.lv A G27:=hK12.trans (Kp.ext x7)
   have hM27:Mem m t.l inv tx t.lv Z G27:=hM.ext (xG.trans x7) hTG.hlv.2
   obtain ⟨⟨r,G29⟩,e8,h8⟩:=ih G27 v' rv' s' (hT.kp hK27) hM27 (hsl.is.ext x7) hi' (by have:=w7.is; rw [rIQ,List.map_append]; exact this)
   simp [-Int.natCast_add,-cValue_func,b226_1,clip_t,u0,u1,u2,u6,u8,t17,t18,t82,t83,t84,e0,h1,h2,hlt,hz,hst,hob6,n6,hcG,ncb,hw]
   rw [rowOp,eAn_row] at e5'
   rcases h8 with ⟨h81,h82,h83,h84⟩ | ⟨h81,h82,h83⟩
   ·simp only at h81 h83 h84
    subst h81
    simp [-Int.natCast_add,e5',pExtract,getN_zero,getN_succ,o8,h3,hor.1,e6,o22,e7,o27,e8]
    refine Wp.mono (ihk (j+1) _ G29 (by omega) ⟨by simp [clip_t,u0],by simp [clip_t,u1],by simp [clip_t,u2],by simp [clip_t,u3],by simp [clip_t,u4],by simp [clip_t,u6],by simp [clip_t,u7],by simp [clip_t,u8],by simp [clip_t,u13],by simp [clip_t,u14],by simp [clip_t,u54],by simp [clip_t,u55]⟩ (by simp [clip_t,t56]) (by simp [clip_t]) (by simp [clip_t]) (by simp [clip_t,e0]) (by simp [clip_t]) (by simp [clip_t]) (hK27.trans h83) h84) fun q hq=>inP_cons_Q hq fun s1 h=>?_
    rw [hn] at h
    cases h
    exact h82
   ·simp only at h81 h83
    subst h81
    simp [-Int.natCast_add,e5',pExtract,getN_zero,getN_succ,o8,h3,hor.1,e6,o22,e7,o27,e8]
    exact .inr ⟨rfl,by simp [clip_t],⟨an,List.mem_cons_self ..,s',hn,h82⟩,Fd.of hK27 h83⟩
  ·simp [-Int.natCast_add,-cValue_func,b226_1,clip_t,u0,u1,u2,u6,u8,t17,t18,t82,t83,t84,e0,h1,h2,hlt,hz,hst,hob6,n6,hcG,ncb,hw]
   rw [rowOp,eAn_row] at e5'
   simp [-Int.natCast_add,-cValue_func,e5',pExtract,getN_zero,getN_succ]
   refine Wp.mono (ihk (j+1) _ _ (by omega) ⟨by simp [clip_t,u0],by simp [clip_t,u1],by simp [clip_t,u2],by simp [clip_t,u3],by simp [clip_t,u4],by simp [clip_t,u6],by simp [clip_t,u7],by simp [clip_t,u8],by simp [clip_t,u13],by simp [clip_t,u14],by simp [clip_t,u54],by simp [clip_t,u55]⟩ (by simp [clip_t,t56]) (by simp [clip_t]) (by simp [clip_t]) (by simp [clip_t,e0]) (by simp [clip_t]) (by simp [clip_t]) (hK12.trans (Kp.ext ((Ext.refl G12).room 16))) (hM.ext (xG.room 16) hTG.hlv.2)) fun q hq=>inP_cons_Q hq fun s1 h=>?_
   rw [hn] at h
   cases h
end
section
variable {α:Type} {orc:FuncId→Bool} {e:RowE α} {m:Mac α} {inv:List α→Prop} {tx:List α→ByteArray} {B:GS} {t:TeP} {Z:Nat→ByteArray→Prop} {A G:GS} {s:List α} {sv rowv kv:Value} {d:Nat} {row:List Nat}
def AlwQ (b:List Nat) (k a:Nat):Prop:=b.length≤k∨b[k]? =some a
def OuPQ (m:Mac α) (inv:List α→Prop) (tx:List α→ByteArray) (t:TeP) (Z:Nat→ByteArray→Prop) (A:GS) (s:List α) (sv rowv kv:Value) (d:Nat) (row:List Nat) (i:Nat) (q:Exit×Env×GS):Prop :=
 (q.1= .exit 0∧Kp t.lv A q.2.2∧Mem m t.l inv tx t.lv Z q.2.2∧(∀ a,i≤a→AlwQ t.b row.length a→∀ s1,Step m t.l s d a s1→¬ Goes m t.l (t.b.drop (row.length+1)) s1 (d ||| 1 <<< a))∧EvQ t sv rowv kv d (decide (t.b.length≤row.length)) q.2.1) ∨
 (q.1= .ret∧q.2.1 12= .bool false∧(∃ a s1,AlwQ t.b row.length a∧Step m t.l s d a s1∧Goes m t.l (t.b.drop (row.length+1)) s1 (d ||| 1 <<< a))∧Fd t A q.2.2)
theorem ouP_less_Q {i:Nat} {q:Exit×Env×GS} (h:OuPQ m inv tx t Z A s sv rowv kv d row (i+1) q) (hn:AlwQ t.b row.length i→∀ s1,Step m t.l s d i s1→¬ Goes m t.l (t.b.drop (row.length+1)) s1 (d ||| 1 <<< i)):OuPQ m inv tx t Z A s sv rowv kv d row i q:=by
 rcases h with ⟨h1,h2,h3,h4,h5⟩ | h
 ·refine .inl ⟨h1,h2,h3,fun a ha hw s1 hs=>?_,h5⟩
  by_cases e:a=i
  ·subst e; exact hn hw s1 hs
  ·exact h4 a (by omega) hw s1 hs
 ·exact .inr h
theorem outer_Q (hT:Te orc e m inv tx 226 B t A) (hs:SlR e A sv s) (hi:inv s) (hr:SlR (rowsI .i64) A rowv (rIQ row)) (hrl:row.length≤3000) (hd:d<2 ^ 60)
  (ih:∀ a,a<t.l.length→rdyP t.l d a→∀ (G:GS) (sv1 rowv1:Value) (s1:List α),Te orc e m inv tx 226 B t G→Mem m t.l inv tx t.lv Z G→SlR e G sv1 s1→inv s1→SlR (rowsI .i64) G rowv1 (rIQ (row++[a])) →
   Wp ((E orc).cl 226 [sv1,.int .i64 ((d ||| 1 <<< a:Nat):Int),rowv1,Pp t.p3,Pp t.p4,Pp t.p5,Pp t.p6,Pp t.p7,Pp t.p8] G) (Out m inv tx t Z (Goes m t.l (t.b.drop (row.length+1)) s1 (d ||| 1 <<< a)) G)) :
  ∀ (k i:Nat) (τ:Env) (G:GS),i+k=t.l.length→EvQ t sv rowv kv d (decide (t.b.length≤row.length)) τ→τ 56= .int .i64 (i:Int)→Kp t.lv A G→Mem m t.l inv tx t.lv Z G →
  Wp ((exL Q orc).lpx 226 0 τ G) (OuPQ m inv tx t Z A s sv rowv kv d row i):=by
 intro k
 induction k with
 | zero =>
  intro i τ G hi' ev t56 hK hM
  have hi':i=t.l.length:=by omega
  subst hi'
  obtain ⟨u0,u1,u2,u3,u4,u6,u7,u8,u13,u14,u54,u55⟩:=ev
  refine Wp.lp (l226_0 (exL_ok Q orc)) ?_
  simp [b226_0,clip_t,u0,u1,u2,u3,u4,u6,u13,u54,u55,t56]
  exact .inl ⟨rfl,hK,hM,fun a h _ s1 hs=>absurd hs.1 (by omega),⟨by simp [clip_t,u0],by simp [clip_t,u1],by simp [clip_t,u2],by simp [clip_t,u3],by simp [clip_t,u4],by simp [clip_t,u6],by simp [clip_t,u7],by simp [clip_t,u8],by simp [clip_t,u13],by simp [clip_t,u14],by simp [clip_t,u54],by simp [clip_t,u55]⟩⟩
 | succ k ihk =>
  intro i τ G hi' ev t56 hK hM
  obtain ⟨u0,u1,u2,u3,u4,u6,u7,u8,u13,u14,u54,u55⟩:=ev
  have hlt:i<t.l.length:=by omega
  have h11:=hT.len
  have hw:IntKind.wrap .i64 ((i:Int)+1)=((i+1:Nat):Int):=wrap64 (by omega) (by omega)
  have h1:(i:Int)<t.l.length:=by omega
  have h2:(0:Int)≤i:=by omega
  have hTG:=hT.kp hK
  obtain ⟨b,o,cc,e0,hbG,_,hz⟩:=hTG.hl.at hlt
  have hsp:=sp_at hlt
  rw [rSp_sz,← hsp,loadA_eq] at hz
  have hst:stO 10 0 (.agg ⟨rSp.row (sp t.l i)⟩) (some ⟨z29,1,false,1⟩)=some ⟨rSp.row (sp t.l i),1,false,1⟩:=rfl
  have hld:loadO 10 0 (some ⟨rSp.row (sp t.l i),1,false,1⟩)=some (.agg ⟨rSp.row (sp t.l i)⟩):=loadO_whole rfl (by decide)
  have hoc:okOp (sp t.l i).op:=by rw [hsp]; exact hTG.okl _ (List.getElem_mem hlt)
  generalize hri:rSp.row (sp t.l i)=ri at *
  have hE:Ext G ((G.push ⟨z29,1,false,1⟩).put G.nx ⟨ri,1,false,1⟩):=((Ext.refl G).push _).put (Nat.le_refl _) _
  obtain ⟨G5,hG5⟩:∃ G5,G5=(G.push ⟨z29,1,false,1⟩).put G.nx ⟨ri,1,false,1⟩:=⟨_,rfl⟩
  have o5:G5.obj G.nx=some ⟨ri,1,false,1⟩:=by rw [hG5]; simp
  have n5:G.nx<G5.nx:=by rw [hG5]; simp
  rw [← hG5] at hE
  have hK5:Kp t.lv A G5:=hK.trans (Kp.ext hE)
  have hT5:=hT.kp hK5
  have hM5:Mem m t.l inv tx t.lv Z G5:=hM.ext hE hTG.hlv.2
  obtain ⟨ra,rc,er⟩:=hr.len
  have lr:∀ x,ln Q true x rowv=some (.int .i64 row.length):=fun x=>by rw [er]; simp
  have next:∀ (τ':Env) (G':GS),EvQ t sv rowv kv d (decide (t.b.length≤row.length)) τ' →τ' 56= .int .i64 ((i+1:Nat):Int)→Kp t.lv A G' →Mem m t.l inv tx t.lv Z G' →(AlwQ t.b row.length i→∀ s1,Step m t.l s d i s1→¬ Goes m t.l (t.b.drop (row.length+1)) s1 (d ||| 1 <<< i)) →
    Wp ((exL Q orc).lpx 226 0 τ' G') (OuPQ m inv tx t Z A s sv rowv kv d row i):=fun τ' G' h3 h4 h5 h6 h7=>Wp.mono (ihk (i+1) τ' G' (by omega) h3 h4 h5 h6) fun q hq=>ouP_less_Q hq h7
  obtain ⟨G8,hx8,hrd⟩:=ready_ok orc hT5.hl (by omega) hd hlt
  rw [e0] at hrd
  have o4:=hT5.c4
  have o3:=hT5.c3
  refine Wp.lp (l226_0 (exL_ok Q orc)) ?_
  by_cases hop:t.b.length≤row.length
  ·have hop':decide (t.b.length≤row.length)=true:=by simp [hop]
   rw [hop'] at u13
   rcases hrd with ⟨er5,hrp⟩ | ⟨er5,hrp⟩
   ·have hT8:=hT5.kp (Kp.ext hx8)
    have o6:=hT8.c6
    have o8:G8.obj G.nx=some ⟨ri,1,false,1⟩:=(hx8.obj _ n5).trans o5
    obtain ⟨⟨av,G37⟩,e37,x37,w37,l37⟩:=told_Q orc hT8.mc hT8.hB (slrKp hs (hK5.trans (Kp.ext hx8))) hi hoc
    rw [hri] at e37
    simp only at x37 w37
    have hK37:Kp t.lv A G37:=(hK5.trans (Kp.ext hx8)).trans (Kp.ext x37)
    have hT37:=hT.kp hK37
    have hM37:Mem m t.l inv tx t.lv Z G37:=hM5.ext (hx8.trans x37) hT5.hlv.2
    have o37:G37.obj G.nx=some ⟨rSp.row (sp t.l i),1,false,1⟩:=by rw [hri]; exact (x37.obj _ (by have:=hx8.nx; omega)).trans o8
    obtain ⟨va,vc,ev37⟩:=w37.len
    have lv37:∀ x,ln Q true x av=some (.int .i64 (toldP m s (sp t.l i)).length):=fun x=>by rw [ev37]; simp
    simp [-Int.natCast_add,b226_0,clip_t,u0,u1,u2,u3,u4,u6,u13,u54,u55,t56,e0,h1,h2,hlt,hz,hst,← hG5,o4,er5,o6,o8,hld,loadO_whole,e37,lv37]
    refine Wp.bE ((inner_Q (kv:=kv) (op:=decide (t.b.length≤row.length)) (row:=row) hT37 (slrKp hs hK37) hi (slrKp hr hK37) hrl hd (by omega) o37 (by have:=hx8.nx; have:=x37.nx; omega) hoc w37 l37 (ih i hlt hrp) (toldP m s (sp t.l i)).length 0 _ G37 (by omega) ⟨by simp [clip_t,u0],by simp [clip_t,u1],by simp [clip_t,u2],by simp [clip_t,u3],by simp [clip_t,u4],by simp [clip_t,u6],by simp [clip_t,u7],by simp [clip_t,u8],by simp [clip_t,u13,hop],by simp [clip_t,u14],by simp [clip_t,u54,e0],by simp [clip_t,u55]⟩ (by simp [clip_t,t56]) (by simp [clip_t]) (by simp [clip_t]) (by simp [clip_t]) (by simp [clip_t]) (by simp [clip_t]) (Kp.refl _ _) hM37).mono ?_)
    rintro ⟨ee,τ',G'⟩ (⟨q1,q2,q3,q4,q5,q6⟩ | ⟨q1,q2,⟨an,q3,s1,q4,q5⟩,q6⟩)
    ·simp only at q1 q2 q3 q5 q6
     subst q1
     obtain ⟨w0,w1,w2,w3,w4,w6,w7,w8,w13,w14,w54,w55⟩:=q5
     simp [-Int.natCast_add,w0,w1,w2,w3,w4,w6,w13,w54,w55,q6,hw]
     exact next _ _ ⟨by simp [clip_t,w0],by simp [clip_t,w1],by simp [clip_t,w2],by simp [clip_t,w3],by simp [clip_t,w4],by simp [clip_t,w6],by simp [clip_t,w7],by simp [clip_t,w8],by simp [clip_t,w13],by simp [clip_t,w14],by simp [clip_t,w54],by simp [clip_t,w55]⟩ (by simp [clip_t]) (hK37.trans q2) q3 fun _ s1 hs1=>by
      obtain ⟨_,_,an,k1,k2⟩:=hs1
      exact q4 an (by simpa using k1) s1 k2
    ·simp only at q1 q2 q6
     subst q1
     simp [-Int.natCast_add]
     exact .inr ⟨rfl,by simp [clip_t,q2],⟨i,s1,.inl hop,⟨hlt,hrp,an,by simpa using q3,q4⟩,q5⟩,Fd.of hK37 q6⟩
   ·simp [-Int.natCast_add,b226_0,clip_t,u0,u1,u2,u3,u4,u6,u13,u54,u55,t56,e0,h1,h2,hlt,hz,hst,← hG5,o4,er5,hw]
    exact next _ _ ⟨by simp [clip_t,u0],by simp [clip_t,u1],by simp [clip_t,u2],by simp [clip_t,u3],by simp [clip_t,u4],by simp [clip_t,u6],by simp [clip_t,u7],by simp [clip_t,u8],by simp [clip_t,u13,hop],by simp [clip_t,u14],by simp [clip_t,u54,e0],by simp [clip_t,u55]⟩ (by simp [clip_t]) (hK5.trans (Kp.ext hx8)) (hM5.ext hx8 hT5.hlv.2) fun _ s1 hs1=>absurd hs1.2.1 hrp
  ·have hop':decide (t.b.length≤row.length)=false:=by simp [hop]
   rw [hop'] at u13
   have hbl:row.length<t.b.length:=by omega
   obtain ⟨b1,o1,c1,e1,_,q1,_⟩:=hT5.hb.at (i:=row.length) (by simpa using hbl)
   have q1:=q1 0 (by decide)
   simp [rowsI] at q1
   simp only [List.length_map] at e1
   have r1:(row.length:Int)<t.b.length:=by omega
   have r2:(0:Int)≤row.length:=by omega
   by_cases hne:t.b[row.length]=i
   ·have hne':(i:Int)=(t.b[row.length]:Int):=by omega
    rcases hrd with ⟨er5,hrp⟩ | ⟨er5,hrp⟩
    ·have hT8:=hT5.kp (Kp.ext hx8)
     have o6:=hT8.c6
     have o8:G8.obj G.nx=some ⟨ri,1,false,1⟩:=(hx8.obj _ n5).trans o5
     obtain ⟨⟨av,G37⟩,e37,x37,w37,l37⟩:=told_Q orc hT8.mc hT8.hB (slrKp hs (hK5.trans (Kp.ext hx8))) hi hoc
     rw [hri] at e37
     simp only at x37 w37
     have hK37:Kp t.lv A G37:=(hK5.trans (Kp.ext hx8)).trans (Kp.ext x37)
     have hT37:=hT.kp hK37
     have hM37:Mem m t.l inv tx t.lv Z G37:=hM5.ext (hx8.trans x37) hT5.hlv.2
     have o37:G37.obj G.nx=some ⟨rSp.row (sp t.l i),1,false,1⟩:=by rw [hri]; exact (x37.obj _ (by have:=hx8.nx; omega)).trans o8
     obtain ⟨va,vc,ev37⟩:=w37.len
     have lv37:∀ x,ln Q true x av=some (.int .i64 (toldP m s (sp t.l i)).length):=fun x=>by rw [ev37]; simp
     simp [-Int.natCast_add,b226_0,clip_t,u0,u1,u2,u3,u4,u6,u13,u54,u55,t56,e0,h1,h2,hlt,hz,hst,← hG5,o4,er5,o6,o8,hld,loadO_whole,e37,lv37,o3,lr,e1,r1,r2,hbl,q1,hne]
     refine Wp.bE ((inner_Q (kv:=kv) (op:=decide (t.b.length≤row.length)) (row:=row) hT37 (slrKp hs hK37) hi (slrKp hr hK37) hrl hd (by omega) o37 (by have:=hx8.nx; have:=x37.nx; omega) hoc w37 l37 (ih i hlt hrp) (toldP m s (sp t.l i)).length 0 _ G37 (by omega) ⟨by simp [clip_t,u0],by simp [clip_t,u1],by simp [clip_t,u2],by simp [clip_t,u3],by simp [clip_t,u4],by simp [clip_t,u6],by simp [clip_t,u7],by simp [clip_t,u8],by simp [clip_t,u13,hop],by simp [clip_t,u14],by simp [clip_t,u54,e0],by simp [clip_t,u55]⟩ (by simp [clip_t,t56]) (by simp [clip_t]) (by simp [clip_t]) (by simp [clip_t]) (by simp [clip_t]) (by simp [clip_t]) (Kp.refl _ _) hM37).mono ?_)
     rintro ⟨ee,τ',G'⟩ (⟨q1,q2,q3,q4,q5,q6⟩ | ⟨q1,q2,⟨an,q3,s1,q4,q5⟩,q6⟩)
     ·simp only at q1 q2 q3 q5 q6
      subst q1
      obtain ⟨w0,w1,w2,w3,w4,w6,w7,w8,w13,w14,w54,w55⟩:=q5
      simp [-Int.natCast_add,w0,w1,w2,w3,w4,w6,w13,w54,w55,q6,hw]
      exact next _ _ ⟨by simp [clip_t,w0],by simp [clip_t,w1],by simp [clip_t,w2],by simp [clip_t,w3],by simp [clip_t,w4],by simp [clip_t,w6],by simp [clip_t,w7],by simp [clip_t,w8],by simp [clip_t,w13],by simp [clip_t,w14],by simp [clip_t,w54],by simp [clip_t,w55]⟩ (by simp [clip_t]) (hK37.trans q2) q3 fun _ s1 hs1=>by
       obtain ⟨_,_,an,k1,k2⟩:=hs1
       exact q4 an (by simpa using k1) s1 k2
     ·simp only at q1 q2 q6
      subst q1
      simp [-Int.natCast_add]
      exact .inr ⟨rfl,by simp [clip_t,q2],⟨i,s1,.inr (by rw [List.getElem?_eq_getElem hbl,hne]),⟨hlt,hrp,an,by simpa using q3,q4⟩,q5⟩,Fd.of hK37 q6⟩
    ·simp [-Int.natCast_add,b226_0,clip_t,u0,u1,u2,u3,u4,u6,u13,u54,u55,t56,e0,h1,h2,hlt,hz,hst,← hG5,o4,er5,hw,o3,lr,e1,r1,r2,hbl,q1,hne]
     exact next _ _ ⟨by simp [clip_t,u0],by simp [clip_t,u1],by simp [clip_t,u2],by simp [clip_t,u3],by simp [clip_t,u4],by simp [clip_t,u6],by simp [clip_t,u7],by simp [clip_t,u8],by simp [clip_t,u13,hop],by simp [clip_t,u14],by simp [clip_t,u54,e0],by simp [clip_t,u55]⟩ (by simp [clip_t]) (hK5.trans (Kp.ext hx8)) (hM5.ext hx8 hT5.hlv.2) fun _ s1 hs1=>absurd hs1.2.1 hrp
   ·have hne':¬ (i:Int)=(t.b[row.length]:Int):=by omega
    simp [-Int.natCast_add,b226_0,clip_t,u0,u1,u2,u3,u4,u6,u13,u54,u55,t56,e0,h1,h2,hlt,hz,hst,← hG5,o4,hw,o3,lr,e1,r1,r2,hbl,q1,hne']
    exact next _ _ ⟨by simp [clip_t,u0],by simp [clip_t,u1],by simp [clip_t,u2],by simp [clip_t,u3],by simp [clip_t,u4],by simp [clip_t,u6],by simp [clip_t,u7],by simp [clip_t,u8],by simp [clip_t,u13,hop],by simp [clip_t,u14],by simp [clip_t,u54,e0],by simp [clip_t,u55]⟩ (by simp [clip_t]) hK5 hM5 fun hal s1 hs1=>by
     rcases hal with h | h
     ·omega
     ·rw [List.getElem?_eq_getElem hbl] at h; cases h; exact absurd rfl hne
end
theorem or_gtQ {d a:Nat} (h:d.testBit a=false):d<d ||| 1 <<< a:=by
 refine Nat.lt_of_le_of_ne Nat.left_le_or fun e=>?_
 have:(d ||| 1 <<< a).testBit a=true:=by rw [Nat.testBit_or,Nat.testBit_shiftLeft]; simp
 rw [← e,h] at this
 cases this
section
variable {α:Type} {orc:FuncId→Bool} {e:RowE α} {m:Mac α} {inv:List α→Prop} {tx:List α→ByteArray} {B:GS} {t:TeP}
theorem try_Q:∀ (n:Nat) (Z:Nat→ByteArray→Prop) (s:List α) (d:Nat) (row:List Nat) (sv rowv:Value) (G:GS),2 ^ t.l.length≤d+n→d<2 ^ t.l.length→row.length≤d→(∀ d0 s0,Z d0 s0→d0<d)→Te orc e m inv tx 226 B t G→Mem m t.l inv tx t.lv Z G→SlR e G sv s→inv s→SlR (rowsI .i64) G rowv (rIQ row) →
  Wp ((E orc).cl 226 [sv,.int .i64 (d:Int),rowv,Pp t.p3,Pp t.p4,Pp t.p5,Pp t.p6,Pp t.p7,Pp t.p8] G) (Out m inv tx t Z (Goes m t.l (t.b.drop row.length) s d) G):=by
 intro n
 induction n with
 | zero=>intro Z s d row sv rowv G h1 h2; omega
 | succ n ihn =>
  intro Z s d row sv rowv G hn hd hrd hZ hT hM hs hi hr
  have h11:=hT.len
  have hb:=hT.lenb
  have h2k:2 ^ t.l.length≤2 ^ 11:=Nat.pow_le_pow_right (by decide) h11
  have hd60:d<2 ^ 60:=by omega
  have hrl:row.length≤3000:=by omega
  obtain ⟨ra,rc,er⟩:=hr.len
  have er:rowv= .slice ra row.length rc:=by rw [er]; simp
  have lr:∀ x,ln Q true x rowv=some (.int .i64 row.length):=fun x=>by rw [er]; simp
  obtain ⟨ba,bc,eb⟩:=hT.hb.len
  have eb:t.bV= .slice ba t.b.length bc:=by rw [eb]; simp
  have lb:∀ x,ln Q true x t.bV=some (.int .i64 t.b.length):=fun x=>by rw [eb]; simp
  have o3:=hT.c3
  have o4:=hT.c4
  have back:∀ (G9:GS),Ext G G9→(t.b.length≤row.length→¬ ovrP t.l d)→∃ (G23 G33:GS) (es:List (Value×Value)),
    cValue (E orc) t.tv [sv] G9=some (.string (tx s),G9)∧G23=(G9.push ⟨z323,1,false,1⟩).put G9.nx ⟨[.int .i64 (d:Int),.string (tx s)],1,false,1⟩∧G33=(G23.push ⟨z324,1,false,1⟩).put G23.nx ⟨[],1,false,1⟩ ∧
    G9.obj t.p6=some ⟨[t.fv,t.nv,t.uv,t.tv],1,false,1⟩∧G23.obj t.p7=some ⟨[.map (some t.lv)],1,false,1⟩∧G23.obj G9.nx=some ⟨[.int .i64 (d:Int),.string (tx s)],1,false,1⟩∧G33.obj t.p4=some ⟨[t.lV],1,false,1⟩∧Ext G G33 ∧
    G23.loop t.lv=some (mpL es)∧MemOk m t.l inv tx es∧(∀ x∈es,∀ d0 s0,Z d0 s0→x.1≠ .agg #[.int .i64 (d0:Int),.string s0])∧G33.obj G9.nx=some ⟨[.int .i64 (d:Int),.string (tx s)],1,false,1⟩∧G33.loop t.lv=some (mpL es):=by
   intro G9 x9 ho
   obtain ⟨⟨r,G'⟩,h1,h2,h3⟩:=hT.mc.text G9 sv s (hT.hB.trans x9) (hs.ext x9) hi
   simp only at h2 h3
   subst h2
   rw [h3] at h1
   have hT9:=hT.kp (Kp.ext x9)
   have x23:Ext G9 ((G9.push ⟨z323,1,false,1⟩).put G9.nx ⟨[.int .i64 (d:Int),.string (tx s)],1,false,1⟩):=((Ext.refl G9).push _).put (Nat.le_refl _) _
   have k23:((G9.push ⟨z323,1,false,1⟩).put G9.nx ⟨[.int .i64 (d:Int),.string (tx s)],1,false,1⟩).obj G9.nx=some ⟨[.int .i64 (d:Int),.string (tx s)],1,false,1⟩:=by simp
   have n23:G9.nx<((G9.push ⟨z323,1,false,1⟩).put G9.nx ⟨[.int .i64 (d:Int),.string (tx s)],1,false,1⟩).nx:=by simp
   obtain ⟨G23,h23⟩:∃ G23,G23=(G9.push ⟨z323,1,false,1⟩).put G9.nx ⟨[.int .i64 (d:Int),.string (tx s)],1,false,1⟩:=⟨_,rfl⟩
   rw [← h23] at x23 k23 n23
   have x33:Ext G23 ((G23.push ⟨z324,1,false,1⟩).put G23.nx ⟨[],1,false,1⟩):=((Ext.refl G23).push _).put (Nat.le_refl _) _
   have hT23:=hT9.kp (Kp.ext x23)
   have hT33:=hT23.kp (Kp.ext x33)
   obtain ⟨es,l1,l2,l3⟩:=(hM.ext (x9.trans x23) hT.hlv.2)
   exact ⟨G23,_,es,h1,h23,rfl,hT9.c6,hT23.c7,k23,hT33.c4,(x9.trans x23).trans x33,l1,l2,l3,(x33.obj _ n23).trans k23,(x33.loop _ hT23.hlv.2).trans l1⟩
  have hst2:stO 2 0 (.agg ⟨[.int .i64 (d:Int),.string (tx s)]⟩) (some ⟨z323,1,false,1⟩)=some ⟨[.int .i64 (d:Int),.string (tx s)],1,false,1⟩:=rfl
  have hld2:loadO 2 0 (some ⟨[.int .i64 (d:Int),.string (tx s)],1,false,1⟩)=some (.agg ⟨[.int .i64 (d:Int),.string (tx s)]⟩):=loadO_whole rfl (by decide)
  have hst0:stO 0 0 (.agg #[]) (some ⟨z324,1,false,1⟩)=some ⟨[],1,false,1⟩:=rfl
  have hu:Q.underlying 320=some (.map 323 324):=Tryz.underlying320
  have hzv:prun Q (zeroValue 324)=some (.agg #[]):=by kernel_rfl
  have hgk:gStg (.agg #[.int .i64 (d:Int),.string (tx s)]):=⟨_,_,rfl⟩
  have ih':∀ a,a<t.l.length→rdyP t.l d a→∀ (G:GS) (sv1 rowv1:Value) (s1:List α),Te orc e m inv tx 226 B t G→Mem m t.l inv tx t.lv (fun d0 s0=>Z d0 s0∨(t.b.length≤row.length∧d0=d∧s0=tx s)) G→SlR e G sv1 s1→inv s1→SlR (rowsI .i64) G rowv1 (rIQ (row++[a])) →
    Wp ((E orc).cl 226 [sv1,.int .i64 ((d ||| 1 <<< a:Nat):Int),rowv1,Pp t.p3,Pp t.p4,Pp t.p5,Pp t.p6,Pp t.p7,Pp t.p8] G) (Out m inv tx t (fun d0 s0=>Z d0 s0∨(t.b.length≤row.length∧d0=d∧s0=tx s)) (Goes m t.l (t.b.drop (row.length+1)) s1 (d ||| 1 <<< a)) G):=by
   intro a ha hra G sv1 rowv1 s1 h1 h2 h3 h4 h5
   have hgt:=or_gtQ hra.1
   have hlt:d ||| 1 <<< a<2 ^ t.l.length:=Nat.or_lt_two_pow hd (by rw [Nat.shiftLeft_eq,Nat.one_mul]; exact Nat.pow_lt_pow_right (by decide) ha)
   have:=ihn (fun d0 s0=>Z d0 s0∨(t.b.length≤row.length∧d0=d∧s0=tx s)) s1 (d ||| 1 <<< a) (row++[a]) sv1 rowv1 G (by omega) hlt (by simp; omega) (fun d0 s0 h=>h.elim (fun h=>by have:=hZ d0 s0 h; omega) fun ⟨_,h,_⟩=>by omega) h1 h2 h3 h4 h5
   rw [List.length_append,List.length_singleton] at this
   exact this
  refine Wp.ref (f226 (exL_ok Q orc) _ _ _ _ _ _ _ _ _ G) ?_
  by_cases hop:t.b.length≤row.length
  ·have hop':(t.b.length:Int)≤row.length:=by omega
   have hdrop:t.b.drop row.length=[]:=List.drop_eq_nil_of_le hop
   obtain ⟨G9,x9,⟨eo,ho⟩ | ⟨eo,ho⟩⟩:=over_ok orc hT.hl (by omega) hd60
   ·have hT9:=hT.kp (Kp.ext x9)
    have o5:=hT9.c5
    obtain ⟨cv,G12,e6,x6,w6⟩:=cloneI_ok orc ((hr.ext x9).ext ((Ext.refl G9).room 5)) (by simp; omega)
    have xx:=((Ext.refl G9).room 5).trans x6
    have hT12:=hT9.kp (Kp.ext xx)
    have o12:=hT12.c5
    obtain ⟨G14,e14,f14⟩:=hT12.yl G12 cv hT12.r0 hT12.cf hT12.lt.2.2.2.2.2.2 hT12.hl0.1
    simp [-Int.natCast_add,s226,lr,lb,o3,o4,hop',eo,o5,e6,o12,e14]
    exact .inr ⟨rfl,by rw [hdrop]; exact (goes_nil m t.l).2 (.inl ho),Fd.of (Kp.ext (x9.trans xx)) f14⟩
   ·obtain ⟨G23,G33,es,etx,h23,h33,o6,o7,k23,o43,x33,l23,mok,mz,k33,l33⟩:=back G9 x9 fun _=>ho
    have hT33:=hT.kp (Kp.ext x33)
    obtain ⟨la,lc,el⟩:=hT33.hl.len
    by_cases hk:∃ x∈es,x.1= .agg #[.int .i64 (d:Int),.string (tx s)]
    ·obtain ⟨v,elk,hv⟩:=look_hit keyStg hu l23 mok.1 hgk hk
     have elk:gLookup Q 320 (.map (some t.lv)) (.agg ⟨[.int .i64 (d:Int),.string (tx s)]⟩) true G23=some (.tuple #[v,.bool true]):=elk
     cases hv
     simp [-Int.natCast_add,-cValue_func,s226,lr,lb,o3,o4,hop',eo,o6,etx,Value.cells,splice_put,splice_end,splice_succ,hst2,← h23,o7,k23,hld2,elk,pExtract,getN_zero,getN_succ,hst0,← h33]
     obtain ⟨x,hx,hxk⟩:=hk
     exact .inl ⟨rfl,by rw [hdrop]; exact mok.2 x hx s d hi hxk,Kp.ext x33,es,l33,mok,mz⟩
    ·have hnk:∀ x∈es,x.1≠ .agg #[.int .i64 (d:Int),.string (tx s)]:=fun x hx h=>hk ⟨x,hx,h⟩
     have elk:=look_miss keyStg hu hzv rfl l23 mok.1 hgk hnk
     have elk:gLookup Q 320 (.map (some t.lv)) (.agg ⟨[.int .i64 (d:Int),.string (tx s)]⟩) true G23=some (.tuple #[.agg #[],.bool false]):=elk
     have hM33:Mem m t.l inv tx t.lv (fun d0 s0=>Z d0 s0∨(t.b.length≤row.length∧d0=d∧s0=tx s)) G33:=⟨es,l33,mok,fun x hx d0 s0 h=>h.elim (mz x hx d0 s0) fun ⟨_,h1,h2⟩=>by rw [h1,h2]; exact hnk x hx⟩
     have lenl:∀ x,ln Q true x t.lV=some (.int .i64 t.l.length):=fun x=>by rw [el]; simp
     simp [-Int.natCast_add,-cValue_func,s226,lr,lb,o3,o4,hop',eo,o6,etx,Value.cells,splice_put,splice_end,splice_succ,hst2,← h23,o7,k23,hld2,elk,pExtract,getN_zero,getN_succ,hst0,← h33,o43,lenl]
     refine Wp.bE ((outer_Q (kv:=Pp G9.nx) (Z:=fun d0 s0=>Z d0 s0∨(t.b.length≤row.length∧d0=d∧s0=tx s)) (row:=row) hT33 (hs.ext x33) hi (hr.ext x33) hrl hd60 ih' t.l.length 0 _ G33 (by omega) ⟨by simp,by simp,by simp,by simp,by simp,by simp,by simp,by simp,by simp [hop],by simp,by simp [el],by simp⟩ (by simp) (Kp.refl _ _) hM33).mono ?_)
     rintro ⟨ee,τ',G'⟩ (⟨q1,q2,q3,q4,q5⟩ | ⟨q1,q2,⟨a,s1,q3,q4,q5⟩,q6⟩)
     ·simp only at q1 q2 q3 q5
      subst q1
      have w7:=q5.t7
      have w13:=q5.t13
      have w14:=q5.t14
      have hT':=hT33.kp q2
      have o7':=hT'.c7
      have k39:G'.obj G9.nx=some ⟨[.int .i64 (d:Int),.string (tx s)],1,false,1⟩:=(q2.obj _ (by rw [h33,h23]; simp; omega)).trans k33
      obtain ⟨es',l',mok',mz'⟩:=q3
      have hnk':∀ x∈es',x.1≠ .agg #[.int .i64 (d:Int),.string (tx s)]:=fun x hx=>mz' x hx d (tx s) (.inr ⟨hop,rfl,rfl⟩)
      have eput:=map_put (v:=.agg #[]) keyStg hu l' mok'.1 hgk rfl hnk'
      have eput:gMapPut Q 320 (.map (some t.lv)) (.agg ⟨[.int .i64 (d:Int),.string (tx s)]⟩) (.agg ⟨z324⟩) G' =some (G'.putLoop t.lv (mpL (es' ++[(.agg #[.int .i64 (d:Int),.string (tx s)],.agg #[])]))):=eput
      have hno:¬ Goes m t.l [] s d:=fun h=>by
       rcases (goes_nil m t.l).1 h with h | ⟨a,s1,h1,h2⟩
       ·exact ho h
       ·exact q4 a (Nat.zero_le _) (.inl hop) s1 h1 (by rw [List.drop_eq_nil_of_le (by omega)]; exact h2)
      simp [-Int.natCast_add,w7,w13,w14,hop,o7',k39,hld2,eput]
      refine .inl ⟨rfl,by rw [hdrop]; exact hno,(Kp.ext x33).trans (q2.trans (Kp.put _ _)),_,by rw [GS.loop_put,if_pos rfl],⟨fun x hx=>?_,fun x hx s0 d0 hi0 hx0=>?_⟩,fun x hx d0 s0 hz=>?_⟩
      ·rcases List.mem_append.1 hx with hx | hx
       ·exact mok'.1 x hx
       ·rw [List.mem_singleton.1 hx]; exact ⟨hgk,rfl⟩
      ·rcases List.mem_append.1 hx with hx | hx
       ·exact mok'.2 x hx s0 d0 hi0 hx0
       ·rw [List.mem_singleton.1 hx] at hx0
        simp only [Value.agg.injEq,Array.mk.injEq,List.cons.injEq,Value.int.injEq,true_and,Value.string.injEq,and_true] at hx0
        have e1:d=d0:=by have:=hx0.1; omega
        have e2:=hT.mc.inj s s0 hi hi0 hx0.2
        subst e1 e2
        exact hno
      ·rcases List.mem_append.1 hx with hx | hx
       ·exact mz' x hx d0 s0 (.inl hz)
       ·rw [List.mem_singleton.1 hx]
        intro h
        simp only [Value.agg.injEq,Array.mk.injEq,List.cons.injEq,Value.int.injEq,true_and,Value.string.injEq,and_true] at h
        have:=hZ d0 s0 hz
        have:=h.1
        omega
     ·simp only at q1 q2 q6
      subst q1
      simp [-Int.natCast_add,q2]
      refine .inr ⟨rfl,?_,Fd.of (Kp.ext x33) q6⟩
      rw [hdrop]
      rw [List.drop_eq_nil_of_le (by omega)] at q5
      exact (goes_nil m t.l).2 (.inr ⟨a,s1,q4,q5⟩)
  ·have hop':¬ (t.b.length:Int)≤row.length:=by omega
   have hbl:row.length<t.b.length:=by omega
   have hdrop:=List.drop_eq_getElem_cons hbl
   obtain ⟨G23,G33,es,etx,h23,h33,o6,o7,k23,o43,x33,l23,mok,mz,k33,l33⟩:=back G (Ext.refl G) fun h=>absurd h hop
   have hT33:=hT.kp (Kp.ext x33)
   obtain ⟨la,lc,el⟩:=hT33.hl.len
   have lenl:∀ x,ln Q true x t.lV=some (.int .i64 t.l.length):=fun x=>by rw [el]; simp
   have hM33:Mem m t.l inv tx t.lv (fun d0 s0=>Z d0 s0∨(t.b.length≤row.length∧d0=d∧s0=tx s)) G33:=⟨es,l33,mok,fun x hx d0 s0 h=>h.elim (mz x hx d0 s0) fun ⟨h,_⟩=>absurd h hop⟩
   have hno:(∀ a,0≤a→AlwQ t.b row.length a→∀ s1,Step m t.l s d a s1→¬ Goes m t.l (t.b.drop (row.length+1)) s1 (d ||| 1 <<< a))→¬ Goes m t.l (t.b.drop row.length) s d:=fun q4 h=>by
    rw [hdrop] at h
    obtain ⟨s1,h1,h2⟩:=(goes_cons m t.l).1 h
    exact q4 _ (Nat.zero_le _) (.inr (List.getElem?_eq_getElem hbl)) s1 h1 h2
   have hyes:∀ a s1,AlwQ t.b row.length a→Step m t.l s d a s1→Goes m t.l (t.b.drop (row.length+1)) s1 (d ||| 1 <<< a)→Goes m t.l (t.b.drop row.length) s d:=fun a s1 h1 h2 h3=>by
    rw [hdrop]
    rcases h1 with h1 | h1
    ·exact absurd h1 hop
    ·rw [List.getElem?_eq_getElem hbl] at h1
     cases h1
     exact (goes_cons m t.l).2 ⟨s1,h2,h3⟩
   by_cases hk:∃ x∈es,x.1= .agg #[.int .i64 (d:Int),.string (tx s)]
   ·obtain ⟨v,elk,hv⟩:=look_hit keyStg hu l23 mok.1 hgk hk
    have elk:gLookup Q 320 (.map (some t.lv)) (.agg ⟨[.int .i64 (d:Int),.string (tx s)]⟩) true G23=some (.tuple #[v,.bool true]):=elk
    cases hv
    simp [-Int.natCast_add,-cValue_func,s226,lr,lb,o3,o4,hop',o6,etx,Value.cells,splice_put,splice_end,splice_succ,hst2,← h23,o7,k23,hld2,elk,pExtract,getN_zero,getN_succ,hst0,← h33,o43,lenl]
    refine Wp.bE ((outer_Q (kv:=Pp G.nx) (Z:=fun d0 s0=>Z d0 s0∨(t.b.length≤row.length∧d0=d∧s0=tx s)) (row:=row) hT33 (hs.ext x33) hi (hr.ext x33) hrl hd60 ih' t.l.length 0 _ G33 (by omega) ⟨by simp,by simp,by simp,by simp,by simp,by simp,by simp,by simp,by simp [hop],by simp,by simp [el],by simp⟩ (by simp) (Kp.refl _ _) hM33).mono ?_)
    rintro ⟨ee,τ',G'⟩ (⟨q1,q2,q3,q4,q5⟩ | ⟨q1,q2,⟨a,s1,q3,q4,q5⟩,q6⟩)
    ·simp only at q1 q2 q3 q5
     subst q1
     have w13:=q5.t13
     obtain ⟨es',l',mok',mz'⟩:=q3
     simp [-Int.natCast_add,w13,hop]
     exact .inl ⟨rfl,hno q4,(Kp.ext x33).trans q2,es',l',mok',fun x hx d0 s0 hz=>mz' x hx d0 s0 (.inl hz)⟩
    ·simp only at q1 q2 q6
     subst q1
     simp [-Int.natCast_add,q2]
     exact .inr ⟨rfl,hyes a s1 q3 q4 q5,Fd.of (Kp.ext x33) q6⟩
   ·have hnk:∀ x∈es,x.1≠ .agg #[.int .i64 (d:Int),.string (tx s)]:=fun x hx h=>hk ⟨x,hx,h⟩
    have elk:=look_miss keyStg hu hzv rfl l23 mok.1 hgk hnk
    have elk:gLookup Q 320 (.map (some t.lv)) (.agg ⟨[.int .i64 (d:Int),.string (tx s)]⟩) true G23=some (.tuple #[.agg #[],.bool false]):=elk
    simp [-Int.natCast_add,-cValue_func,s226,lr,lb,o3,o4,hop',o6,etx,Value.cells,splice_put,splice_end,splice_succ,hst2,← h23,o7,k23,hld2,elk,pExtract,getN_zero,getN_succ,hst0,← h33,o43,lenl]
    refine Wp.bE ((outer_Q (kv:=Pp G.nx) (Z:=fun d0 s0=>Z d0 s0∨(t.b.length≤row.length∧d0=d∧s0=tx s)) (row:=row) hT33 (hs.ext x33) hi (hr.ext x33) hrl hd60 ih' t.l.length 0 _ G33 (by omega) ⟨by simp,by simp,by simp,by simp,by simp,by simp,by simp,by simp,by simp [hop],by simp,by simp [el],by simp⟩ (by simp) (Kp.refl _ _) hM33).mono ?_)
    rintro ⟨ee,τ',G'⟩ (⟨q1,q2,q3,q4,q5⟩ | ⟨q1,q2,⟨a,s1,q3,q4,q5⟩,q6⟩)
    ·simp only at q1 q2 q3 q5
     subst q1
     have w13:=q5.t13
     obtain ⟨es',l',mok',mz'⟩:=q3
     simp [-Int.natCast_add,w13,hop]
     exact .inl ⟨rfl,hno q4,(Kp.ext x33).trans q2,es',l',mok',fun x hx d0 s0 hz=>mz' x hx d0 s0 (.inl hz)⟩
    ·simp only at q1 q2 q6
     subst q1
     simp [-Int.natCast_add,q2]
     exact .inr ⟨rfl,hyes a s1 q3 q4 q5,Fd.of (Kp.ext x33) q6⟩
end
end Go.Proofs.YtlaojmcekeohnaaGreatDoor.Lift
