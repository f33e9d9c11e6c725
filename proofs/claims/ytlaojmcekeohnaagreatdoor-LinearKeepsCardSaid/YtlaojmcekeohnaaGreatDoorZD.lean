import Derived.Test.YtlaojmcekeohnaaGreatDoorRVb
import Derived.Test.YtlaojmcekeohnaaGreatDoorGhPR
import Derived.Test.YtlaojmcekeohnaaGreatDoorGhEQ
set_option linter.unusedVariables false
set_option linter.unusedSimpArgs false
set_option maxRecDepth 20000
namespace Go.Proofs.YtlaojmcekeohnaaGreatDoor.Gh
open Go
theorem Ext.drawn {A G:GS} (h:Ext A G) {n:Nat} (hn:A.nx≤n) (o:GObj):Ext A (((G.at' n).push o).back G) :=
 ⟨h.nx,fun g hg=>by simp; rw [if_neg (by omega)]; exact h.obj g hg,h.nl,fun l hl=>by simpa using h.loop l hl⟩
theorem SlR.oneP {α:Type} (e:RowE α) (G:GS) (a:α) {n:Nat} (hn:n<G.nx):SlR e (((G.at' n).push ⟨e.row a,e.sz,false,1⟩).back G) (.slice (some ⟨n,0,none⟩) 1 1) [a] :=
 ⟨⟨by simp [e.flat_length],.inr ⟨n,0,1,_,rfl,Nat.le_refl _,by simpa using hn,by simp; rfl,by simp,fun i _=>by simp [e.flat_one]⟩⟩,fun a' n' c he ob ho hop=>by cases he; simp at ho; subst ho; cases hop⟩
end Go.Proofs.YtlaojmcekeohnaaGreatDoor.Gh
namespace Go.Proofs.YtlaojmcekeohnaaGreatDoor.Lift
open Go Go.Proofs.YtlaojmcekeohnaaGreatDoor.Gh Go.Proofs
abbrev It:=Int×Int
def rIt:RowE It:=⟨2,fun x=>[.int .u64 x.1,.int .i64 x.2],fun _=>rfl,fun _=>rfl,by decide⟩
@[simp] theorem rIt_sz:rIt.sz=2:=rfl
@[simp] theorem rIt_row (x:It):rIt.row x=[.int .u64 x.1,.int .i64 x.2]:=rfl
abbrev opVH (k a b w:Int):Value:=.agg ⟨[.int .i64 k,.int .i64 a,.int .i64 b,.int .u64 w]⟩
abbrev ansV (c i w:Int):Value:=.agg ⟨[.int .i64 c,.int .i64 i,.int .u64 w]⟩
abbrev P1 (b:Nat):Value:=.pointer (some ⟨b,0,none⟩)
theorem it_at {G:GS} {v:Value} {L:List It} (h:SlR rIt G v L) {i:Nat} (hi:i<L.length):∃ b o c,v= .slice (some ⟨b,o,none⟩) L.length c∧b<G.nx∧G.cell b (o+i*2)=some (.int .u64 L[i].1)∧G.cell b (o+i*2+1)=some (.int .i64 L[i].2)∧loadA 2 b (o+i*2) G=some (.agg ⟨[.int .u64 L[i].1,.int .i64 L[i].2]⟩):=by
 obtain ⟨b,o,c,h1,h2,h3,h4⟩:=h.at hi
 refine ⟨b,o,c,h1,h2,?_,?_,h4⟩
 ·simpa using h3 0 (by decide)
 ·simpa using h3 1 (by decide)
def Up (L:List It) (i:Nat):Prop:=∀ j,0<j→i≤j→(h:j<L.length)→(L[j - 1]'(by omega)).1<L[j].1
theorem Up.step {L:List It} {i:Nat} (hi:i<L.length):Up L i↔((h0:0<i)→(L[i - 1]'(by omega)).1<L[i].1)∧Up L (i+1):=by
 constructor
 ·exact fun h=>⟨fun h0=>h i h0 (Nat.le_refl _) hi,fun j h0 hj hl=>h j h0 (by omega) hl⟩
 ·rintro ⟨h1,h2⟩ j h0 hj hl
  rcases Nat.eq_or_lt_of_le hj with rfl | hj
  ·exact h1 h0
  ·exact h2 j h0 hj hl
noncomputable instance (L:List It) (i:Nat):Decidable (Up L i):=Classical.propDecidable _
noncomputable def ichk (L:List It):Int:=if 1024<L.length then 7 else if Up L 0 then 0 else 9
theorem ichk_zero {L:List It}:ichk L=0↔L.length≤1024∧Up L 0:=by
 unfold ichk
 by_cases h1:1024<L.length
 ·rw [if_pos h1]; omega
 by_cases h2:Up L 0
 ·rw [if_neg h1,if_pos h2]; simp [h2]; omega
 ·rw [if_neg h1,if_neg h2]; simp [h2]
theorem Up.one {L:List It}:Up L 1↔Up L 0:=⟨fun h j h0 _ hl=>h j h0 h0 hl,fun h j h0 _ hl=>h j h0 (Nat.zero_le _) hl⟩
theorem chk_lp (orc:FuncId→Bool) (L:List It) (v0:Value) (hlen:L.length≤1024):∀ (k i:Nat) (τ:Env) (G:GS),i+k=L.length→τ 0=v0→τ 8= .int .i64 L.length→τ 9= .int .i64 i→SlR rIt G v0 L →
  Wp ((exL Q orc).lpx 126 0 τ G) fun r=>Ext G r.2.2∧(Up L i→r.1= .exit 0)∧(¬ Up L i→r.1= .ret∧r.2.1 2= .int .i64 9):=by
 intro k
 induction k with
 | zero =>
  intro i τ G hi h0 h8 h9 hs
  have hi':i=L.length:=by omega
  subst hi'
  refine Wp.lp (l126_0 (exL_ok Q orc)) ?_
  simp [b126_0,clip_t,h0,h8,h9,Ext.refl]
  exact fun j h0 hj hl=>absurd hl (by omega)
 | succ k ih =>
  intro i τ G hi h0 h8 h9 hs
  have hlt:i<L.length:=by omega
  have hw:IntKind.wrap .i64 ((i:Int)+1)=((i+1:Nat):Int):=wrap64 (by omega) (by omega)
  obtain ⟨b,o,c,rfl,hb,hc,_,_⟩:=it_at hs hlt
  have hsr:=hs.ext ((Ext.refl G).room 16)
  refine Wp.lp (l126_0 (exL_ok Q orc)) ?_
  rw [Up.step hlt]
  by_cases hz:i=0
  ·subst hz
   simp [-Int.natCast_add,b126_0,clip_t,h0,h8,h9,hlt,hw]
   refine (ih 1 _ _ (by omega) rfl rfl rfl hsr).mono ?_
   rintro r ⟨h1,h2,h3⟩
   refine ⟨((Ext.refl G).room 16).trans h1,h2,?_⟩
   simpa using h3
  ·obtain ⟨b',o',c',e',_,hc',_,_⟩:=it_at hs (i:=i - 1) (by omega)
   simp only [Value.slice.injEq,Option.some.injEq,Addr.mk.injEq] at e'
   obtain ⟨⟨rfl,rfl,_⟩,_,rfl⟩:=e'
   have hi0:0<i:=by omega
   have hi1:(0:Int)≤i:=by omega
   have hw1:IntKind.wrap .i64 ((i:Int) - 1)=((i - 1:Nat):Int):=by rw [wrap64 (by omega) (by omega)]; omega
   have hlt1:i - 1<L.length:=by omega
   have hh:∀ q:Prop,((0<i→q)↔q):=fun q=>⟨fun h=>h (by omega),fun h _=>h⟩
   by_cases hbad:L[i].1≤(L[i - 1]'(by omega)).1
   ·have hn:¬ (L[i - 1]'(by omega)).1<L[i].1:=by omega
    simp [-Int.natCast_add,b126_0,clip_t,h0,h8,h9,hlt,hw,hi0,hi1,hw1,hlt1,hc,hc',hbad]
    refine ⟨(Ext.refl G).room 16,fun h=>absurd (h (by omega)) hn⟩
   ·have hn:(L[i - 1]'(by omega)).1<L[i].1:=by omega
    simp [-Int.natCast_add,b126_0,clip_t,h0,h8,h9,hlt,hw,hi0,hi1,hw1,hlt1,hc,hc',hbad]
    refine (ih (i+1) _ _ (by omega) rfl rfl rfl hsr).mono ?_
    rintro r ⟨h1,h2,h3⟩
    exact ⟨((Ext.refl G).room 16).trans h1,fun _ h=>h2 h,fun h=>h3 (h fun _=>hn)⟩
theorem hcheck_ok (orc:FuncId→Bool) {L:List It} {v0:Value} {G:GS} (hs:SlR rIt G v0 L) (hl:L.length<2 ^ 40):∃ G',(E orc).cl 126 [v0] G=some (.int .i64 (ichk L),G')∧Ext G G':=by
 obtain ⟨a,c,hv⟩:=hs.len
 have hf:=f126 (exL_ok Q orc) v0 G
 by_cases h1:1024<L.length
 ·have h1':(1024:Int)<L.length:=by omega
  exact ⟨G,hf _ (by rw [hv]; simp [s126,ichk,h1,h1']),Ext.refl G⟩
 ·have h1':¬ (1024:Int)<L.length:=by omega
  have w:Wp (s126 true (exL Q orc) v0 G) fun r=>r.1= .int .i64 (ichk L)∧Ext G r.2:=by
   subst hv
   simp [s126,h1']
   refine Wp.bE ((chk_lp orc L _ (by omega) L.length 0 _ G (by omega) rfl rfl rfl hs).mono ?_)
   rintro ⟨e,τ,G'⟩ ⟨x,y,z⟩
   simp only at x y z
   by_cases hu:Up L 0
   ·rw [y hu]; simp [ichk,h1,hu,x]
   ·obtain ⟨rfl,z2⟩:=z hu
    simp [ichk,h1,hu,x,z2]
  obtain ⟨⟨v,G'⟩,e1,rfl,e3⟩:=w
  exact ⟨G',hf _ e1,e3⟩
set_option linter.unusedVariables false
set_option linter.unusedSimpArgs false
set_option maxRecDepth 20000
def pl (L:List It) (k:Int):Nat:=(L.takeWhile fun x=>decide (x.1<k)).length
theorem pl_le:∀ (L:List It) (k:Int),pl L k≤L.length
 | [],k=>by simp [pl]
 | x::L,k=>by
  have:=pl_le L k
  unfold pl at this ⊢
  rw [List.takeWhile_cons]
  split<;>simp
  omega
theorem pl_lt:∀ (L:List It) (k:Int) (j:Nat) (h:j<L.length),j<pl L k→L[j].1<k
 | [],k,j,h,_=>by simp at h
 | x::L,k,0,h,hj=>by
  unfold pl at hj
  rw [List.takeWhile_cons] at hj
  split at hj
  ·rename_i hx; simpa using hx
  ·simp at hj
 | x::L,k,j+1,h,hj=>by
  unfold pl at hj
  rw [List.takeWhile_cons] at hj
  split at hj
  ·exact pl_lt L k j (by simpa using h) (by unfold pl; simpa using hj)
  ·simp at hj
theorem pl_at:∀ (L:List It) (k:Int) (h:pl L k<L.length),¬ (L[pl L k]).1<k
 | [],k,h=>by simp at h
 | x::L,k,h=>by
  by_cases hx:x.1<k
  ·have e:pl (x::L) k=pl L k+1:=by unfold pl; rw [List.takeWhile_cons,if_pos (by simpa using hx)]; rfl
   have:=pl_at L k (by rw [e] at h; simpa using h)
   simpa [e] using this
  ·have e:pl (x::L) k=0:=by unfold pl; rw [List.takeWhile_cons,if_neg (by simpa using hx)]; rfl
   simpa [e] using hx
theorem Up.mono {L:List It} (h:Up L 0):∀ (d i:Nat) (hd:i+d<L.length),0<d→(L[i]'(by omega)).1<L[i+d].1
 | 0,i,hd,h0=>absurd h0 (by omega)
 | 1,i,hd,h0=>h (i+1) (by omega) (by omega) hd
 | d+2,i,hd,h0=>by
  have h1:=Up.mono h (d+1) i (by omega) (by omega)
  have h2:=h (i+(d+2)) (by omega) (by omega) hd
  have:i+(d+2) - 1=i+(d+1):=by omega
  simp only [this] at h2
  omega
theorem lt_pl {L:List It} (h:Up L 0) {k:Int} {m:Nat} (hm:m<L.length):L[m].1<k↔m<pl L k:=by
 refine ⟨fun hlt=>?_,pl_lt L k m hm⟩
 by_cases hc:m<pl L k
 ·exact hc
 ·have hl:pl L k<L.length:=by omega
  have hn:=pl_at L k hl
  rcases Nat.eq_or_lt_of_le (show pl L k≤m by omega) with he | hg
  ·simp only [he] at hn; exact absurd hlt hn
  ·have:=Up.mono h (m - pl L k) (pl L k) (by omega) (by omega)
   simp only [show pl L k+(m - pl L k)=m by omega] at this
   omega
noncomputable def hsK (L:List It) (k:Int):Bool:=if h:pl L k<L.length then decide (L[pl L k].1=k) else false
def cmpI (x y:Int):Int:=if x<y then -1 else if y<x then 1 else 0
theorem cmp_ok (orc:FuncId→Bool) (x y:Int) (G:GS):(E orc).cl 196 [.int .u64 x,.int .u64 y] G=some (.int .i64 (cmpI x y),G):=by
 have hn:∀ z:Int,(E orc).cl 238 [.int .u64 z] G=some (.bool false,G):=fun z=>f238 (exL_ok Q orc) _ G _ (by simp [s238])
 refine f196 (exL_ok Q orc) _ _ G _ ?_
 unfold cmpI
 by_cases h1:x<y
 ·simp [s196,hn,h1]
 ·by_cases h2:y<x
  ·simp [s196,hn,h1,h2]
  ·simp [s196,hn,h1,h2]
theorem cmpAt_ok (orc:FuncId→Bool) (x a k:Int) {b:Nat} {G:GS} (hb:b<G.nx) (hc:G.cell b 0=some (.int .u64 k)) :
  ∃ G',(E orc).cl 195 [.agg ⟨[.int .u64 x,.int .i64 a]⟩,P1 b] G=some (.int .i64 (cmpI x k),G')∧Ext G G':=by
 refine ⟨_,f195 (exL_ok Q orc) _ _ G (_,G.push ⟨[.int .u64 x,.int .i64 a],1,false,1⟩) ?_,(Ext.refl G).push _⟩
 have hne:b≠G.nx:=by omega
 simp [s195,Value.cells,cell_push,hne,hc,cmp_ok]
theorem find_lp (orc:FuncId→Bool) (L:List It) (hu:Up L 0) (hlen:L.length≤1024) (v0:Value) (key:Int) (b:Nat):∀ (k lo hi:Nat) (τ:Env) (G:GS),hi - lo≤k→lo≤pl L key→pl L key≤hi→hi≤L.length →
  τ 0=v0→τ 1= .func (.func 195) #[] #[P1 b]→τ 6= .int .i64 lo→τ 7= .int .i64 hi→SlR rIt G v0 L→b<G.nx→G.cell b 0=some (.int .u64 key) →
  Wp ((exL Q orc).lpx 194 0 τ G) fun r=>r.1= .exit 0∧Ext G r.2.2∧r.2.1 0=v0∧r.2.1 1= .func (.func 195) #[] #[P1 b]∧r.2.1 6= .int .i64 (pl L key):=by
 intro k
 induction k with
 | zero =>
  intro lo hi τ G hk h1 h2 h3 t0 t1 t6 t7 hs hb hc
  have e1:lo=pl L key:=by omega
  have e2:hi=pl L key:=by omega
  subst e1
  refine Wp.lp (l194_0 (exL_ok Q orc)) ?_
  simp [b194_0,clip_t,t0,t1,t6,t7,e2,Ext.refl]
 | succ k ih =>
  intro lo hi τ G hk h1 h2 h3 t0 t1 t6 t7 hs hb hc
  refine Wp.lp (l194_0 (exL_ok Q orc)) ?_
  by_cases hlh:lo<hi
  ·have hlh':(lo:Int)<hi:=by omega
   have w1:IntKind.wrap .i64 ((hi:Int) - lo)=((hi - lo:Nat):Int):=by rw [wrap64 (by omega) (by omega)]; omega
   have w2:IntKind.wrap .i64 (((hi - lo:Nat):Int) / 2)=(((hi - lo) / 2:Nat):Int):=by rw [wrap64 (by omega) (by omega)]; omega
   have w3:IntKind.wrap .i64 ((lo:Int)+IntKind.wrap .i64 (((hi - lo:Nat):Int) / 2))=((lo+(hi - lo) / 2:Nat):Int):=by rw [w2,wrap64 (by omega) (by omega)]; omega
   generalize hm:lo+(hi - lo) / 2=m at *
   have hml:m<L.length:=by omega
   have w4:IntKind.wrap .i64 ((m:Int)+1)=((m+1:Nat):Int):=wrap64 (by omega) (by omega)
   obtain ⟨bb,o,c,hv,_,_,_,hld⟩:=it_at hs hml
   obtain ⟨G7,e7,x7⟩:=cmpAt_ok orc L[m].1 L[m].2 key hb hc
   have hm0:(0:Int)≤m:=by omega
   by_cases hcmp:L[m].1<key
   ·have hv1:cmpI L[m].1 key= -1:=by simp [cmpI,hcmp]
    rw [hv1] at e7
    simp [-Int.natCast_add,b194_0,clip_t,t0,t1,t6,t7,hlh',w1,w3,w4,hv,hml,hm0,hld,e7]
    refine (ih (m+1) hi _ G7 (by omega) ((lt_pl hu hml).1 hcmp) h2 h3 (by exact hv.symm) rfl rfl rfl (hs.ext x7) (Nat.lt_of_lt_of_le hb x7.nx) (by unfold GS.cell; rw [x7.obj _ hb]; exact hc)).mono ?_
    rintro r ⟨y1,y2,y3⟩
    exact ⟨y1,x7.trans y2,by simpa [hv] using y3⟩
   ·have hv1:¬ cmpI L[m].1 key<0:=by unfold cmpI; rw [if_neg hcmp]; split<;>omega
    have hnp:¬ m<pl L key:=fun h=>hcmp ((lt_pl hu hml).2 h)
    simp [-Int.natCast_add,b194_0,clip_t,t0,t1,t6,t7,hlh',w1,w3,w4,hv,hml,hm0,hld,e7,hv1]
    refine (ih lo m _ G7 (by omega) h1 (by omega) (by omega) (by exact hv.symm) rfl rfl rfl (hs.ext x7) (Nat.lt_of_lt_of_le hb x7.nx) (by unfold GS.cell; rw [x7.obj _ hb]; exact hc)).mono ?_
    rintro r ⟨y1,y2,y3⟩
    exact ⟨y1,x7.trans y2,by simpa [hv] using y3⟩
  ·have e1:lo=pl L key:=by omega
   have e2:¬ (pl L key:Int)<hi:=by omega
   subst e1
   simp [b194_0,clip_t,t0,t1,t6,t7,e2,hlh,Ext.refl]
theorem find_ok (orc:FuncId→Bool) {L:List It} (hu:Up L 0) (hlen:L.length≤1024) {v0:Value} (key:Int) {b:Nat} {G:GS} (hs:SlR rIt G v0 L) (hb:b<G.nx) (hc:G.cell b 0=some (.int .u64 key)) :
  Wp ((E orc).cl 194 [v0,.func (.func 195) #[] #[P1 b]] G) fun r=>r.1= .tuple #[.int .i64 (pl L key),.bool (hsK L key)]∧Ext G r.2:=by
 obtain ⟨a,c,hv⟩:=hs.len
 refine Wp.ref (f194 (exL_ok Q orc) _ _ G) ?_
 have hln:ln Q true 107 v0=some (.int .i64 L.length):=by rw [hv]; simp
 simp [s194,hln]
 refine Wp.bE ((find_lp orc L hu hlen v0 key b L.length 0 L.length _ G (by omega) (by omega) (pl_le L key) (Nat.le_refl _) rfl rfl rfl rfl hs hb hc).mono ?_)
 rintro ⟨e,τ,G3⟩ ⟨rfl,x3,y0,y1,y6⟩
 simp only at x3 y0 y1 y6
 by_cases hl:pl L key<L.length
 ·have hl':(pl L key:Int)<L.length:=by omega
  have hp0:(0:Int)≤pl L key:=by omega
  obtain ⟨bb,o,c',hv',_,_,_,hld⟩:=it_at (hs.ext x3) hl
  have hb3:b<G3.nx:=Nat.lt_of_lt_of_le hb x3.nx
  have hc3:G3.cell b 0=some (.int .u64 key):=by unfold GS.cell; rw [x3.obj _ hb]; exact hc
  obtain ⟨G17,e17,x17⟩:=cmpAt_ok orc (L[pl L key]).1 (L[pl L key]).2 key hb3 hc3
  have hk:hsK L key=decide (cmpI (L[pl L key]).1 key=0):=by
   have hn:=pl_at L key hl
   simp only [hsK,hl,dif_pos]
   rw [decide_eq_decide]
   unfold cmpI
   rw [if_neg hn]
   split<;>omega
  rw [hk]
  simp [y0,y1,y6,hln,hl',hv',hp0,hl,hld,e17]
  exact x3.trans x17
 ·have hl':¬ (pl L key:Int)<L.length:=by omega
  have hk:hsK L key=false:=by simp [hsK,hl]
  simp [y0,y1,y6,hln,hl',hk]
  exact x3
theorem place_ok (orc:FuncId→Bool) {L:List It} (hu:Up L 0) (hlen:L.length≤1024) {v0:Value} (key:Int) {G:GS} (hs:SlR rIt G v0 L) :
  Wp ((E orc).cl 130 [v0,.int .u64 key] G) fun r=>r.1= .tuple #[.int .i64 (pl L key),.bool (hsK L key)]∧Ext G r.2:=by
 obtain ⟨⟨v,G3⟩,e3,rfl,x3⟩:=find_ok orc hu hlen key (b:=G.nx) (hs.ext ((Ext.refl G).push ⟨[.int .u64 key],1,false,1⟩)) (by simp) (by simp [cell_push])
 refine ⟨_,f130 (exL_ok Q orc) _ _ G (_,G3) ?_,rfl,((Ext.refl G).push _).trans x3⟩
 simp [s130,Value.cells,e3]
theorem reqH28 (a0 a1 a2 b0 b1 b2:Int):prun Q (Op.equalIn 10000 27 (ansV a0 a1 a2) (ansV b0 b1 b2))=some (a0==b0&&(a1==b1&&(a2==b2&&true))) :=
 eqS (d:=9999) (L:=[(25,0),(3,1),(22,2)]) (by kernel_rfl) (by kernel_rfl) (eqL_cons (a:=.int .i64 a0) (b:=.int .i64 b0) (by kernel_rfl) (by kernel_rfl) (by kernel_rfl) (eqL_cons (a:=.int .i64 a1) (b:=.int .i64 b1) (by kernel_rfl) (by kernel_rfl) (by kernel_rfl) (eqL_cons (a:=.int .u64 a2) (b:=.int .u64 b2) (by kernel_rfl) (by kernel_rfl) (by kernel_rfl) rfl)))
theorem eqHan (x y:Operand) (a0 a1 a2 b0 b1 b2:Int):gBinF Q .eql 27 x y (ansV a0 a1 a2) (ansV b0 b1 b2)=some (.bool (decide (a0=b0∧a1=b1∧a2=b2))):=by
 rw [eql_aggF (op:=.eql) (by kernel_rfl) (by kernel_rfl) (by kernel_rfl) (reqH28 a0 a1 a2 b0 b1 b2)]
 congr 2
 rw [Bool.eq_iff_iff]
 simp
theorem neHan (x y:Operand) (a0 a1 a2 b0 b1 b2:Int):gBinF Q .neq 27 x y (ansV a0 a1 a2) (ansV b0 b1 b2)=some (.bool (!decide (a0=b0∧a1=b1∧a2=b2))):=by
 rw [neq_aggF (op:=.eql) (by kernel_rfl) (by kernel_rfl) (by kernel_rfl) (reqH28 a0 a1 a2 b0 b1 b2)]
 congr 2
 rw [Bool.eq_iff_iff]
 simp
theorem clone_ok (orc:FuncId→Bool) {A:List It} {v0:Value} {G:GS} (hA:SlR rIt G v0 A) (hlt:A.length<2 ^ 40) :
  ∃ v' G',(E orc).cl 129 [v0] G=some (v',G')∧Ext G G' ∧OwR rIt G.nx G' v' A:=by
 have hf:=f129 (exL_ok Q orc) v0 G
 rcases hA.is.2 with ⟨rfl,h0⟩ | ⟨b,f,c,ob,rfl,h2,h3,h4,h5,h6⟩
 ·have hL:A=[]:=List.eq_nil_of_length_eq_zero h0
  subst hL
  exact ⟨.slice none 0 0,G,hf _ (by simp [s129]),Ext.refl G,OwR.nil _ _⟩
 ·obtain ⟨v',G',h1,h2,h3⟩:=OwR.app (A:=G) (ib:=16) (OwR.made rIt G) (by decide) ((Ext.refl G).push _) (hA.ext ((Ext.refl G).push _)) (by simp; omega)
  refine ⟨v',G',hf _ ?_,h2,by simpa using h3⟩
  simp only [rIt_sz] at h1
  simp [s129,rep,fillS,fillC,h1]
end Go.Proofs.YtlaojmcekeohnaaGreatDoor.Lift
set_option linter.unusedVariables false
set_option linter.unusedSimpArgs false
set_option maxRecDepth 20000
namespace Go.Proofs.YtlaojmcekeohnaaGreatDoor.Gh
open Go
theorem obj_put_self (G:GS) (b:Nat) (o:GObj):(G.put b o).obj b=some o:=by simp
theorem Ext.boxed2 {G G':GS} {o p:GObj} (h:Ext ((G.push o).push p) G'):G'.obj G.nx=some o∧G'.obj (G.nx+1)=some p∧G.nx+2≤G'.nx :=
 ⟨by rw [h.obj _ (by simp; omega)]; simp,by rw [h.obj _ (by simp)]; simp,by have:=h.nx; simpa using this⟩
end Go.Proofs.YtlaojmcekeohnaaGreatDoor.Gh
namespace Go.Proofs.YtlaojmcekeohnaaGreatDoor.Lift
open Go Go.Proofs.YtlaojmcekeohnaaGreatDoor.Gh Go.Proofs
abbrev zAns:List Value:=[.int .i64 0,.int .i64 0,.int .u64 0]
abbrev opC (k a b w:Int):List Value:=[.int .i64 k,.int .i64 a,.int .i64 b,.int .u64 w]
theorem st_ans {G:GS} {b:Nat} {e:Nat} {op:Bool} {x y z:Value} (h:G.obj b=some ⟨[x,y,z],e,op,1⟩) (c i w:Int):storeN 3 b 0 (ansV c i w) G=some (G.put b ⟨[.int .i64 c,.int .i64 i,.int .u64 w],e,op,1⟩):=storeN_whole h rfl rfl rfl
theorem ld_ans (G:GS) (b e:Nat) (op:Bool) (c i w:Int):loadA 3 b 0 (G.put b ⟨[.int .i64 c,.int .i64 i,.int .u64 w],e,op,1⟩)=some (ansV c i w):=loadA_whole (n:=2) (m:=1) (obj_put_self _ _ _) (by decide) rfl
theorem ld_op {G:GS} {b e m:Nat} {op:Bool} {k a c w:Int} (h:G.obj b=some ⟨opC k a c w,e,op,m⟩) (hm:m≠2):loadA 4 b 0 G=some (opVH k a c w):=loadA_whole (n:=3) h hm rfl
theorem ld_an {G:GS} {b e m:Nat} {op:Bool} {c i w:Int} (h:G.obj b=some ⟨[.int .i64 c,.int .i64 i,.int .u64 w],e,op,m⟩) (hm:m≠2):loadA 3 b 0 G=some (ansV c i w):=loadA_whole (n:=2) h hm rfl
noncomputable def hCode (L:List It) (k w:Int):Int:=if ichk L=0 then (if k=4 then (if hsK L w then 8 else 0) else if (k=5∨k=6)∧L=[] then 15 else 0) else 0
noncomputable def hNum (L:List It) (k:Int):Int:=if ichk L=0∧(k=5∨k=6) then (match L with | []=>0 | x::_=>x.2) else 0
noncomputable def hWord (L:List It) (k:Int):Int:=if ichk L=0∧(k=5∨k=6) then (match L with | []=>0 | x::_=>x.1) else 0
noncomputable def hIs (L:List It) (k w:Int):Bool:=decide (ichk L=0)&&(if k=4 then hsK L w||decide (L.length<1024) else decide (k=5∨k=6))
theorem puts_ok (orc:FuncId→Bool) {L:List It} (hu:Up L 0) (hlen:L.length≤1024) {v0:Value} (k a b w:Int) {G:GS} (hs:SlR rIt G v0 L) :
  Wp ((E orc).cl 192 [v0,opVH k a b w] G) fun r=>r.1= .tuple #[ansV (if hsK L w then 8 else 0) 0 0,.bool (hsK L w||decide (L.length<1024))]∧Ext G r.2:=by
 obtain ⟨av,cv,hv⟩:=hs.len
 have hln:ln Q true 107 v0=some (.int .i64 L.length):=by rw [hv]; simp
 have x3:Ext G ((G.push ⟨opC k a b w,1,false,1⟩).push ⟨zAns,1,false,1⟩):=((Ext.refl G).push _).push _
 have hc:((G.push ⟨opC k a b w,1,false,1⟩).push ⟨zAns,1,false,1⟩).cell G.nx 3=some (.int .u64 w):=by simp [cell_push]
 obtain ⟨⟨v,G7⟩,e7,rfl,x7⟩:=place_ok orc hu hlen w (hs.ext x3)
 obtain ⟨_,o2,n7⟩:=x7.boxed2
 refine Wp.ref (f192 (exL_ok Q orc) _ _ G) ?_
 cases hk:hsK L w with
 | true =>
  rw [hk] at e7
  simp [s192,Value.cells,hc,e7,fillL,fillC,splice_put,splice_end,splice_succ,st_ans o2,ld_ans]
  exact (x3.trans x7).put (by omega) _
 | false =>
  rw [hk] at e7
  simp [s192,Value.cells,hc,e7,hln,fillL,fillC,splice_put,splice_end,splice_succ,st_ans o2,ld_ans]
  exact ⟨by omega,(x3.trans x7).put (by omega) _⟩
def lkA:List It→Value
 | []=>ansV 15 0 0
 | x::_=>ansV 0 x.2 x.1
@[simp] theorem lkA_nil:lkA []=ansV 15 0 0:=rfl
@[simp] theorem lkA_cons (x:It) (L:List It):lkA (x::L)=ansV 0 x.2 x.1:=rfl
theorem looks_ok (orc:FuncId→Bool) {L:List It} {v0:Value} (k a b w:Int) {G:GS} (hs:SlR rIt G v0 L) :
  Wp ((E orc).cl 193 [v0,opVH k a b w] G) fun r=>r.1= .tuple #[lkA L,.bool true]∧Ext G r.2:=by
 obtain ⟨av,cv,hv⟩:=hs.len
 have hln:ln Q true 107 v0=some (.int .i64 L.length):=by rw [hv]; simp
 have x3:Ext G ((G.push ⟨opC k a b w,1,false,1⟩).push ⟨zAns,1,false,1⟩):=((Ext.refl G).push _).push _
 refine Wp.ref (f193 (exL_ok Q orc) _ _ G) ?_
 cases L with
 | nil =>
  have o2:((G.push ⟨opC k a b w,1,false,1⟩).push ⟨zAns,1,false,1⟩).obj (G.nx+1)=some ⟨zAns,1,false,1⟩:=by simp
  simp at hln
  simp [s193,Value.cells,hln,fillL,fillC,splice_put,splice_end,splice_succ,st_ans o2,ld_ans]
  exact x3.put (by omega) _
 | cons x L =>
  obtain ⟨bb,o,c,hv',_,hk1,hk2,_⟩:=it_at (hs.ext (x3.room 11)) (i:=0) (by simp)
  simp at hk1 hk2
  have o2:(((G.push ⟨opC k a b w,1,false,1⟩).push ⟨zAns,1,false,1⟩).room 11).obj (G.nx+1)=some ⟨zAns,1,false,1⟩:=by simp
  have hp:(0:Int)<((x::L).length:Nat):=by rw [List.length_cons]; omega
  have hp0:¬ (((x::L).length:Nat):Int)=0:=by omega
  generalize hN:(x::L).length=N at *
  have hp1:0<N:=by omega
  have hp2:¬ N=0:=by omega
  simp [s193,Value.cells,hln,hp,hp0,hp1,hp2,hv',hk1,hk2,fillL,fillC,splice_put,splice_end,splice_succ,st_ans o2,ld_ans]
  exact (x3.room 11).put (by omega) _
theorem kinds_ok (orc:FuncId→Bool) (ho:orc 127=false) (G:GS):∃ G',(E orc).cl 127 [] G=some (.agg ⟨[.func (.func 192) #[] #[],.func (.func 193) #[] #[],.func (.func 193) #[] #[]]⟩,G')∧Ext G G':=by
 refine ⟨_,f127 (exL_ok Q orc) ho G (_,(G.push ⟨z206,1,false,1⟩).put G.nx ⟨[.func (.func 192) #[] #[],.func (.func 193) #[] #[],.func (.func 193) #[] #[]],1,false,1⟩) ?_,((Ext.refl G).push _).put (Nat.le_refl _) _⟩
 have h1:storeN 3 G.nx 0 (.agg ⟨[.func (.func 192) #[] #[],.func (.func 193) #[] #[],.func (.func 193) #[] #[]]⟩) (G.push ⟨z206,1,false,1⟩)=some ((G.push ⟨z206,1,false,1⟩).put G.nx ⟨[.func (.func 192) #[] #[],.func (.func 193) #[] #[],.func (.func 193) #[] #[]],1,false,1⟩):=storeN_whole (cs:=z206) (by simp) rfl rfl rfl
 have h2:loadA 3 G.nx 0 ((G.push ⟨z206,1,false,1⟩).put G.nx ⟨[.func (.func 192) #[] #[],.func (.func 193) #[] #[],.func (.func 193) #[] #[]],1,false,1⟩)=some (.agg ⟨[.func (.func 192) #[] #[],.func (.func 193) #[] #[],.func (.func 193) #[] #[]]⟩):=loadA_whole (n:=2) (m:=1) (obj_put_self _ _ _) (by decide) rfl
 simp [s127,z206,fillL,fillC,splice_put,splice_end,splice_succ,Value.cells] at h1 h2 ⊢
 simp [h1,h2]
theorem answer_ok (orc:FuncId→Bool) (ho:orc 127=false) {L:List It} (hlen:L.length<2 ^ 40) {v0:Value} (k a b w:Int) {G:GS} (hs:SlR rIt G v0 L) :
  Wp ((E orc).cl 53 [v0,opVH k a b w] G) fun r=>r.1= .tuple #[ansV (hCode L k w) (hNum L k) (hWord L k),.bool (hIs L k w)]∧Ext G r.2:=by
 have x3:Ext G ((G.push ⟨opC k a b w,1,false,1⟩).push ⟨zAns,1,false,1⟩):=((Ext.refl G).push _).push _
 have hc:((G.push ⟨opC k a b w,1,false,1⟩).push ⟨zAns,1,false,1⟩).cell G.nx 0=some (.int .i64 k):=by simp [cell_push]
 refine Wp.ref (f53 (exL_ok Q orc) _ _ G) ?_
 by_cases hk:k<4∨6<k
 ·have hn:¬ k=4∧¬ (k=5∨k=6):=by omega
  have o2:((G.push ⟨opC k a b w,1,false,1⟩).push ⟨zAns,1,false,1⟩).obj (G.nx+1)=some ⟨zAns,1,false,1⟩:=by simp
  have e1:hCode L k w=0:=by simp [hCode,hn.1,hn.2]
  have e2:hNum L k=0:=by simp [hNum,hn.2]
  have e3:hWord L k=0:=by simp [hWord,hn.2]
  have e4:hIs L k w=false:=by simp [hIs,hn.1,hn.2]
  rw [e1,e2,e3,e4]
  by_cases hk1:k<4
  ·simp [s53,Value.cells,hc,hk1,fillL,fillC,st_ans o2,ld_ans]
   exact x3.put (by omega) _
  ·have hk2:6<k:=by omega
   simp [s53,Value.cells,hc,hk1,hk2,fillL,fillC,st_ans o2,ld_ans]
   exact x3.put (by omega) _
 have hk1:¬ k<4:=by omega
 have hk2:¬ 6<k:=by omega
 obtain ⟨G5,e5,x5⟩:=hcheck_ok orc (hs.ext x3) hlen
 obtain ⟨o1,o2,n5⟩:=x5.boxed2
 by_cases hz:ichk L=0
 ·obtain ⟨hl,hu⟩:=ichk_zero.1 hz
  rw [hz] at e5
  obtain ⟨G25,e25,x25⟩:=kinds_ok orc ho G5
  have n25:=x25.nx
  have x28:Ext G5 ((G25.push ⟨z206,1,false,1⟩).put G25.nx ⟨[.func (.func 192) #[] #[],.func (.func 193) #[] #[],.func (.func 193) #[] #[]],1,false,1⟩):=(x25.push _).put n25 _
  have h1:storeN 3 G25.nx 0 (.agg ⟨[.func (.func 192) #[] #[],.func (.func 193) #[] #[],.func (.func 193) #[] #[]]⟩) (G25.push ⟨z206,1,false,1⟩)=some ((G25.push ⟨z206,1,false,1⟩).put G25.nx ⟨[.func (.func 192) #[] #[],.func (.func 193) #[] #[],.func (.func 193) #[] #[]],1,false,1⟩):=storeN_whole (cs:=z206) (by simp) rfl rfl rfl
  have c33:∀ f:Nat,(((G25.push ⟨z206,1,false,1⟩).put G25.nx ⟨[.func (.func 192) #[] #[],.func (.func 193) #[] #[],.func (.func 193) #[] #[]],1,false,1⟩).room 12).cell G25.nx f=[Value.func (.func 192) #[] #[],.func (.func 193) #[] #[],.func (.func 193) #[] #[]][f]?:=fun f=>by simp [cell_put]
  have x28r:=x28.room 12
  have p1:(((G25.push ⟨z206,1,false,1⟩).put G25.nx ⟨[.func (.func 192) #[] #[],.func (.func 193) #[] #[],.func (.func 193) #[] #[]],1,false,1⟩).room 12).obj G.nx=some ⟨opC k a b w,1,false,1⟩:=(x28r.obj _ (by omega)).trans o1
  have p2:(((G25.push ⟨z206,1,false,1⟩).put G25.nx ⟨[.func (.func 192) #[] #[],.func (.func 193) #[] #[],.func (.func 193) #[] #[]],1,false,1⟩).room 12).obj (G.nx+1)=some ⟨zAns,1,false,1⟩:=(x28r.obj _ (by omega)).trans o2
  have x0:=(x3.trans x5).trans x28r
  have hs28:=hs.ext x0
  generalize hG:(((G25.push ⟨z206,1,false,1⟩).put G25.nx ⟨[.func (.func 192) #[] #[],.func (.func 193) #[] #[],.func (.func 193) #[] #[]],1,false,1⟩).room 12)=G28 at *
  have ck:G28.cell G.nx 0=some (.int .i64 k):=by rw [cell_at' p1 (by decide)]; rfl
  have lo:=ld_op p1 (by decide)
  have n28:G.nx+2≤G28.nx:=by have:=x28r.nx; omega
  rcases (show k=4∨k=5∨k=6 by omega) with rfl | rfl | rfl
  ·obtain ⟨⟨q,G35⟩,e35,rfl,x35⟩:=puts_ok orc hu hl 4 a b w hs28
   have o35:G35.obj (G.nx+1)=some ⟨zAns,1,false,1⟩:=(x35.obj _ (by omega)).trans p2
   have w0:IntKind.wrap .i64 0=0:=wrap64 (by omega) (by omega)
   simp [s53,Value.cells,hc,e5,e25,h1,hG,c33,ck,lo,w0,e35,st_ans o35,ld_ans,hCode,hNum,hWord,hIs,hz]
   exact (x0.trans x35).put (by omega) _
  ·obtain ⟨⟨q,G35⟩,e35,rfl,x35⟩:=looks_ok orc 5 a b w hs28
   have o35:G35.obj (G.nx+1)=some ⟨zAns,1,false,1⟩:=(x35.obj _ (by omega)).trans p2
   have w0:IntKind.wrap .i64 1=1:=wrap64 (by omega) (by omega)
   cases L with
   | nil =>
    simp [s53,Value.cells,hc,e5,e25,h1,hG,c33,ck,lo,w0,e35,st_ans o35,ld_ans,hCode,hNum,hWord,hIs,hz]
    exact (x0.trans x35).put (by omega) _
   | cons x L =>
    simp [s53,Value.cells,hc,e5,e25,h1,hG,c33,ck,lo,w0,e35,st_ans o35,ld_ans,hCode,hNum,hWord,hIs,hz]
    exact (x0.trans x35).put (by omega) _
  ·obtain ⟨⟨q,G35⟩,e35,rfl,x35⟩:=looks_ok orc 6 a b w hs28
   have o35:G35.obj (G.nx+1)=some ⟨zAns,1,false,1⟩:=(x35.obj _ (by omega)).trans p2
   have w0:IntKind.wrap .i64 2=2:=wrap64 (by omega) (by omega)
   cases L with
   | nil =>
    simp [s53,Value.cells,hc,e5,e25,h1,hG,c33,ck,lo,w0,e35,st_ans o35,ld_ans,hCode,hNum,hWord,hIs,hz]
    exact (x0.trans x35).put (by omega) _
   | cons x L =>
    simp [s53,Value.cells,hc,e5,e25,h1,hG,c33,ck,lo,w0,e35,st_ans o35,ld_ans,hCode,hNum,hWord,hIs,hz]
    exact (x0.trans x35).put (by omega) _
 ·simp [s53,Value.cells,hc,hk1,hk2,e5,hz,fillL,fillC,st_ans o2,ld_ans,hCode,hNum,hWord,hIs]
  exact (x3.trans x5).put (by omega) _
set_option linter.unusedVariables false
set_option linter.unusedSimpArgs false
set_option maxRecDepth 20000
theorem splice_ok {A G:GS} {L:List It} {v0 vc:Value} {p n lo:Nat} (x:It) (hA:Ext A G) (hn:A.nx≤n) (hnl:n<lo) (hlo:lo≤G.nx) (hAl:A.nx≤lo) (hs:SlR rIt A v0 L) (hp:p≤L.length) (hc:OwR rIt lo G vc (L.take p)) (hlen:L.length<2 ^ 40) :
  ∃ v1 G1 v2 v3 G3,appK 2 16 vc (.slice (some ⟨n,0,none⟩) 1 1) (((G.at' n).push ⟨[.int .u64 x.1,.int .i64 x.2],2,false,1⟩).back G)=some (v1,G1)∧slK 2 v0 (some (.int .i64 p)) none none G1=some v2∧appK 2 16 v1 v2 G1=some (v3,G3)∧Ext A G3∧OwR rIt A.nx G3 v3 (L.take p++[x]++L.drop p):=by
 have hd:Ext A (((G.at' n).push ⟨rIt.row x,rIt.sz,false,1⟩).back G):=hA.drawn hn _
 have hc':OwR rIt A.nx (((G.at' n).push ⟨rIt.row x,rIt.sz,false,1⟩).back G) vc (L.take p):=by
  refine OwR.same (hc.mono hAl) (by simp) fun a m c he=>?_
  have:=hc.ge a m c he
  simp
  intro h; omega
 have hlt:(L.take p).length≤L.length:=by simp; omega
 obtain ⟨v1,G1,a1,a2,a3⟩:=hc'.app (ib:=16) (by decide) hd (SlR.oneP rIt G x (n:=n) (by omega)) (by simp; omega)
 obtain ⟨v2,b1,b2⟩:=(hs.ext a2).drop (k:=.i64) hp
 obtain ⟨v3,G3,c1,c2,c3⟩:=a3.app (ib:=16) (by decide) a2 b2 (by simp; omega)
 exact ⟨v1,G1,v2,v3,G3,a1,b1,c1,c2,c3⟩
theorem roomless_ok (orc:FuncId→Bool) (c i u:Int) (G:GS):∃ G',(E orc).cl 128 [ansV c i u] G=some (.bool (decide (c=7∧i=0∧u=0)||decide (c=12∧i=0∧u=0)),G')∧Ext G G':=by
 refine ⟨_,f128 (exL_ok Q orc) _ G (_,G.push ⟨[.int .i64 c,.int .i64 i,.int .u64 u],1,false,1⟩) ?_,(Ext.refl G).push _⟩
 have hl:loadA 3 G.nx 0 (G.push ⟨[.int .i64 c,.int .i64 i,.int .u64 u],1,false,1⟩)=some (ansV c i u):=ld_an (by simp; exact ⟨rfl,rfl,rfl⟩) (by decide)
 by_cases h:c=7∧i=0∧u=0
 ·obtain ⟨rfl,rfl,rfl⟩:=h
  simp [s128,Value.cells,hl,fillL,fillC,splice_put,splice_end,splice_succ,eqHan]
 ·have h':decide (c=7∧i=0∧u=0)=false:=decide_eq_false h
  simp only [s128,Value.cells,bx_t,bS_some,lda_t,hl,bP_some,bd_t,zipF_cons,zipF_nil,fillL,fillC,splice_put,splice_end,splice_succ,bn_eq,h']
  simp [hl,fillL,fillC,splice_put,splice_end,splice_succ,eqHan,h,Value.cells]
def hRef (k c i u:Int):Bool:=decide (k=4)&&(decide (c=7∧i=0∧u=0)||decide (c=12∧i=0∧u=0))
noncomputable def hAcc (L:List It) (k w c i u:Int):Bool:=hIs L k w&&decide (hCode L k w=c∧hNum L k=i∧hWord L k=u)
noncomputable def hOk (L:List It) (k w c i u:Int):Bool:=decide (ichk L=0)&&(hRef k c i u||hAcc L k w c i u)
noncomputable def hNext (L:List It) (k a w c i u:Int):List It :=
 if hOk L k w c i u=true then (if hRef k c i u=true then L else if c≠0∨k=6 then L else if k=5 then L.drop 1 else L.take (pl L w)++[(w,a)]++L.drop (pl L w)) else []
noncomputable def t15 (q:Bool) (e:Ex) (v0 x0 x2:Value) (G13:GS):Option (Value×GS) :=
 bP (lda Q q 24 4 x0 G13) fun x17 =>
 bS (e.ev.cl 53 [v0,x17] G13) fun x18 G19 =>
 bP (pExtract x18 0) fun x20 =>
 bP (pExtract x18 1) fun x21 =>
 bS (al Q q 27 z27 G19) fun x22 G23 =>
 bP (st Q q 27 3 x22 x20 G23) fun G24 =>
 bP (un Q q .not x21) fun x25 =>
 bS (gd x25 false (bP (lda Q q 27 3 x22 G24) fun y=>some (y,G24)) G24) fun x26 G27 =>
 bS (gd x25 false (bP (lda Q q 27 3 x2 G27) fun y=>some (y,G27)) G27) fun x28 G29 =>
 bS (gd x25 false (bP (bn Q q .neq 27 (.tmp 34) (.tmp 35) x26 x28) fun y=>some (y,G29)) G29) fun x30 G31 =>
 bP (pickV x25 (.bool true) x30) fun x32 =>
 ifV x32 (
 some (.tuple #[(.slice none 0 0),(.bool false)],G31)) (
 bP (fa Q q 27 0 0 x2) fun x33 =>
 bP (ld Q q 25 x33 G31) fun x34 =>
 bP (bn Q q .neq 25 (.tmp 40) (.const (.int .i64 0)) x34 (.int .i64 0)) fun x35 =>
 bS (gd x35 false (bP (fa Q q 24 0 0 x0) fun y=>some (y,G31)) G31) fun x36 G37 =>
 bS (gd x35 false (bP (ld Q q 3 x36 G37) fun y=>some (y,G37)) G37) fun x38 G39 =>
 bS (gd x35 false (bP (bn Q q .eql 3 (.tmp 44) (.const (.int .i64 6)) x38 (.int .i64 6)) fun y=>some (y,G39)) G39) fun x40 G41 =>
 bP (pickV x35 (.bool true) x40) fun x42 =>
 ifV x42 (
 bS (e.ev.cl 129 [v0] G41) fun x43 G44 =>
 some (.tuple #[x43,(.bool true)],G44)) (
 bP (fa Q q 24 0 0 x0) fun x45 =>
 bP (ld Q q 3 x45 G41) fun x46 =>
 bP (bn Q q .eql 3 (.tmp 51) (.const (.int .i64 5)) x46 (.int .i64 5)) fun x47 =>
 ifV x47 (
 bP (sl Q q 107 2 v0 (some (.int .i64 1)) none none G41) fun x48 =>
 bS (e.ev.cl 129 [x48] G41) fun x49 G50 =>
 some (.tuple #[x49,(.bool true)],G50)) (
 bP (fa Q q 24 3 3 x0) fun x51 =>
 bP (ld Q q 22 x51 G41) fun x52 =>
 bS (e.ev.cl 130 [v0,x52] G41) fun x53 G54 =>
 bP (pExtract x53 0) fun x55 =>
 bP (pExtract x53 1) fun x56 =>
 bP (sl Q q 107 2 v0 none (some x55) (some x55) (G54.room 13)) fun x57 =>
 bS (e.ev.cl 129 [x57] (G54.room 13)) fun x59 G58 =>
 bP (fa Q q 24 3 3 x0) fun x60 =>
 bP (ld Q q 22 x60 G58) fun x61 =>
 chk ((sameO (ld Q q 22 x60 (G54.room 13)) x61&&true)) <|
 bP (fa Q q 24 1 1 x0) fun x62 =>
 bP (ld Q q 3 x62 G58) fun x63 =>
 chk ((sameO (ld Q q 3 x62 (G54.room 13)) x63&&true)) <|
 bP (bd Q q 184 z184 [(0,0,1),(1,1,1)] [x61,x63]) fun x64 =>
 bS (bs Q q 107 1 (rep z184 1) 2 [(0,0,2)] [x64] (G58.at' (G54.nx+10))) fun x65 G66 =>
 bS (ap Q q 107 22 2 16 x59 x65 (G66.back G58)) fun x68 G67 =>
 bP (sl Q q 107 2 v0 (some x55) none none G67) fun x69 =>
 bS (ap Q q 107 22 2 16 x68 x69 G67) fun x70 G71 =>
 some (.tuple #[x70,(.bool true)],G71))))
theorem t15_ok (orc:FuncId→Bool) (ho:orc 127=false) {L:List It} (hlen:L.length<2 ^ 39) {v0:Value} (k a b w c i u:Int) {G G13:GS} (hz:ichk L=0) (hs:SlR rIt G13 v0 L) (hr:hRef k c i u=false) (hn:G.nx+2≤G13.nx) (hx:Ext G G13)
  (p1:G13.obj G.nx=some ⟨opC k a b w,1,false,1⟩) (p2:G13.obj (G.nx+1)=some ⟨[.int .i64 c,.int .i64 i,.int .u64 u],1,false,1⟩) :
  Wp (t15 true (exL Q orc) v0 (P1 G.nx) (P1 (G.nx+1)) G13) fun r=>Ext G r.2∧∃ v',r.1= .tuple #[v',.bool (hOk L k w c i u)]∧OwR rIt G.nx r.2 v' (hNext L k a w c i u):=by
 obtain ⟨hl,hu⟩:=ichk_zero.1 hz
 have hok:hOk L k w c i u=hAcc L k w c i u:=by simp [hOk,hz,hr]
 obtain ⟨⟨q,G19⟩,e19,rfl,x19⟩:=answer_ok orc ho (by omega) k a b w hs
 simp only at x19
 have n19:=x19.nx
 have x24:Ext G13 ((G19.push ⟨zAns,1,false,1⟩).put G19.nx ⟨[.int .i64 (hCode L k w),.int .i64 (hNum L k),.int .u64 (hWord L k)],1,false,1⟩):=(x19.push _).put n19 _
 have s24:storeN 3 G19.nx 0 (ansV (hCode L k w) (hNum L k) (hWord L k)) (G19.push ⟨zAns,1,false,1⟩)=some ((G19.push ⟨zAns,1,false,1⟩).put G19.nx ⟨[.int .i64 (hCode L k w),.int .i64 (hNum L k),.int .u64 (hWord L k)],1,false,1⟩):=st_ans (by simp; exact ⟨rfl,rfl,rfl⟩) _ _ _
 have l24:=ld_ans (G19.push ⟨zAns,1,false,1⟩) G19.nx 1 false (hCode L k w) (hNum L k) (hWord L k)
 have q1:=(x24.obj G.nx (by omega)).trans p1
 have q2:=(x24.obj (G.nx+1) (by omega)).trans p2
 have n24:G.nx+2≤((G19.push ⟨zAns,1,false,1⟩).put G19.nx ⟨[.int .i64 (hCode L k w),.int .i64 (hNum L k),.int .u64 (hWord L k)],1,false,1⟩).nx:=by simp; omega
 have hs24:=hs.ext x24
 have x0:=hx.trans x24
 have lo:=ld_op p1 (by decide)
 generalize hG:((G19.push ⟨zAns,1,false,1⟩).put G19.nx ⟨[.int .i64 (hCode L k w),.int .i64 (hNum L k),.int .u64 (hWord L k)],1,false,1⟩)=G24 at *
 have la2:=ld_an q2 (by decide)
 have ck:G24.cell G.nx 0=some (.int .i64 k):=by rw [cell_at' q1 (by decide)]; rfl
 have cw:G24.cell G.nx 3=some (.int .u64 w):=by rw [cell_at' q1 (by decide)]; rfl
 have cc:G24.cell (G.nx+1) 0=some (.int .i64 c):=by rw [cell_at' q2 (by decide)]; rfl
 have heq:=neHan (.tmp 34) (.tmp 35) (hCode L k w) (hNum L k) (hWord L k) c i u
 have hacc:hAcc L k w c i u=(hIs L k w&&decide (hCode L k w=c∧hNum L k=i∧hWord L k=u)):=rfl
 cases hi:hIs L k w with
 | false =>
  have h1:hAcc L k w c i u=false:=by simp [hacc,hi]
  rw [hok,h1]
  have h2:hNext L k a w c i u=[]:=by simp [hNext,hok,h1]
  rw [hi] at e19
  simp [t15,lo,e19,s24,hG,h2]
  exact ⟨x0,OwR.nil _ _⟩
 | true =>
  rw [hi] at e19
  by_cases hm:hCode L k w=c∧hNum L k=i∧hWord L k=u
  ·have h1:hAcc L k w c i u=true:=by simp [hacc,hi,hm]
   rw [hok,h1]
   rw [decide_eq_true hm] at heq
   by_cases hc:c≠0∨k=6
   ·have h2:hNext L k a w c i u=L:=by unfold hNext; rw [if_pos (by rw [hok,h1]),if_neg (by simp [hr]),if_pos hc]
    obtain ⟨v',G44,e44,x44,o44⟩:=clone_ok orc hs24 (by omega)
    rw [h2]
    by_cases hc0:c=0
    ·have hk6:k=6:=hc.resolve_left (fun h=>h hc0)
     subst hk6 hc0
     simp [t15,lo,e19,s24,hG,l24,la2,heq,cc,ck,e44]
     exact ⟨x0.trans x44,o44.mono (by omega)⟩
    ·simp [t15,lo,e19,s24,hG,l24,la2,heq,cc,ck,hc0,e44]
     exact ⟨x0.trans x44,o44.mono (by omega)⟩
   ·have hc0:c=0:=by
     by_cases h:c=0
     ·exact h
     ·exact absurd (.inl h) hc
    have hk6:¬ k=6:=fun h=>hc (.inr h)
    by_cases hk5:k=5
    ·have h2:hNext L k a w c i u=L.drop 1:=by unfold hNext; rw [if_pos (by rw [hok,h1]),if_neg (by simp [hr]),if_neg hc,if_pos hk5]
     have hL:1≤L.length:=by
      cases L with
      | nil=>have:=hm.1; simp [hCode,hz,hk5] at this; omega
      | cons x L=>simp
     obtain ⟨vd,d1,d2⟩:=hs24.drop (k:=.i64) hL
     obtain ⟨v',G50,e50,x50,o50⟩:=clone_ok orc d2 (by simp; omega)
     obtain ⟨av,cv,hv⟩:=hs24.len
     rw [h2]
     subst hk5 hc0
     have d3:sl Q true 107 2 v0 (some (.int .i64 1)) none none G24=some vd:=by rw [hv] at d1 ⊢; simpa using d1
     simp [t15,lo,e19,s24,hG,l24,la2,heq,cc,ck,d3,e50]
     exact ⟨x0.trans x50,by simpa using o50.mono (by omega)⟩
    ·have hk4:k=4:=by
      have:hIs L k w=true:=hi
      simp [hIs,hz] at this
      by_cases h:k=4
      ·exact h
      ·simp [h,hk5,hk6] at this
     have h2:hNext L k a w c i u=L.take (pl L w)++[(w,a)]++L.drop (pl L w):=by unfold hNext; rw [if_pos (by rw [hok,h1]),if_neg (by simp [hr]),if_neg hc,if_neg hk5]
     obtain ⟨⟨q,G54⟩,e54,rfl,x54⟩:=place_ok orc hu hl w hs24
     have hp:=pl_le L w
     obtain ⟨_,vt,t1,t2⟩:=((hs24.ext x54).ext ((Ext.refl G54).room 13)).take (k:=.i64) hp
     obtain ⟨vc,G58,e58,x58,o58⟩:=clone_ok orc t2 (by simp; omega)
     simp only at x54
     have n54:=x54.nx
     have n58:=x58.nx
     simp at n58
     have r1:G58.obj G.nx=some ⟨opC k a b w,1,false,1⟩:=by rw [x58.obj _ (by simp; omega)]; simp; rw [x54.obj _ (by omega)]; exact q1
     have cw8:G58.cell G.nx 3=some (.int .u64 w):=by rw [cell_at' r1 (by decide)]; rfl
     have ca8:G58.cell G.nx 1=some (.int .i64 a):=by rw [cell_at' r1 (by decide)]; rfl
     have r2:(G54.room 13).obj G.nx=some ⟨opC k a b w,1,false,1⟩:=by simp; rw [x54.obj _ (by omega)]; exact q1
     have cw7:(G54.room 13).cell G.nx 3=some (.int .u64 w):=by rw [cell_at' r2 (by decide)]; rfl
     have ca7:(G54.room 13).cell G.nx 1=some (.int .i64 a):=by rw [cell_at' r2 (by decide)]; rfl
     obtain ⟨v1,G1,v2,v3,G3,a1,a2,a3,a4,a5⟩:=splice_ok (A:=G54) (G:=G58) (n:=G54.nx+10) (lo:=(G54.room 13).nx) (w,a) (((Ext.refl G54).room 13).trans x58) (by omega) (by simp) (by simpa using n58) (by simp) (hs24.ext x54) hp o58 (by omega)
     obtain ⟨av,cv,hv⟩:=hs.len
     have t3:sl Q true 107 2 v0 none (some (.int .i64 (pl L w))) (some (.int .i64 (pl L w))) (G54.room 13)=some vt:=by rw [hv] at t1 ⊢; simpa using t1
     have a6:sl Q true 107 2 v0 (some (.int .i64 (pl L w))) none none G1=some v2:=by rw [hv] at a2 ⊢; simpa using a2
     rw [h2]
     subst hk4 hc0
     simp only at a1
     simp [t15,lo,e19,s24,hG,l24,la2,heq,cc,ck,cw,e54,t3,e58,cw8,ca8,cw7,ca7,fillL,fillS,fillC,splice_put,splice_end,splice_succ,Value.cells,rep,a1,a6,a3]
     exact ⟨(x0.trans x54).trans a4,by simpa using a5.mono (by omega)⟩
  ·have h1:hAcc L k w c i u=false:=by simp [hacc,hi,hm]
   rw [hok,h1]
   have h2:hNext L k a w c i u=[]:=by simp [hNext,hok,h1]
   rw [decide_eq_false hm] at heq
   simp [t15,lo,e19,s24,hG,l24,la2,heq,h2]
   exact ⟨x0,OwR.nil _ _⟩
theorem hnext_ok (orc:FuncId→Bool) (ho:orc 127=false) {L:List It} (hlen:L.length<2 ^ 39) {v0:Value} (k a b w c i u:Int) {G:GS} (hs:SlR rIt G v0 L) :
  Wp ((E orc).cl 54 [v0,opVH k a b w,ansV c i u] G) fun r=>Ext G r.2∧∃ v',r.1= .tuple #[v',.bool (hOk L k w c i u)]∧OwR rIt G.nx r.2 v' (hNext L k a w c i u):=by
 have x3:Ext G ((G.push ⟨opC k a b w,1,false,1⟩).push ⟨[.int .i64 c,.int .i64 i,.int .u64 u],1,false,1⟩):=((Ext.refl G).push _).push _
 refine Wp.ref (f54 (exL_ok Q orc) _ _ _ G) ?_
 obtain ⟨G5,e5,x5⟩:=hcheck_ok orc (hs.ext x3) (by omega)
 obtain ⟨o1,o2,n5⟩:=x5.boxed2
 have x05:=x3.trans x5
 by_cases hz:ichk L=0
 ·rw [hz] at e5
  have ck5:G5.cell G.nx 0=some (.int .i64 k):=by rw [cell_at' o1 (by decide)]; rfl
  have la5:=ld_an o2 (by decide)
  obtain ⟨G13,e13,x13⟩:=roomless_ok orc c i u G5
  have n13:=x13.nx
  cases hr:hRef k c i u with
  | true =>
   have hk4:k=4:=by simp [hRef] at hr; exact hr.1
   subst hk4
   have hrr:(decide (c=7∧i=0∧u=0)||decide (c=12∧i=0∧u=0))=true:=by simpa [hRef] using hr
   rw [hrr] at e13
   obtain ⟨v',G16,e16,x16,o16⟩:=clone_ok orc ((hs.ext x05).ext x13) (by omega)
   have hok:hOk L 4 w c i u=true:=by simp [hOk,hz,hr]
   have hnx:hNext L 4 a w c i u=L:=by simp [hNext,hok,hr]
   simp [s54,Value.cells,e5,ck5,la5,e13,e16,hok,hnx]
   exact ⟨(x05.trans x13).trans x16,o16.mono (by have:=(x05.trans x13).nx; omega)⟩
  | false =>
   by_cases hk4:k=4
   ·subst hk4
    have hrr:(decide (c=7∧i=0∧u=0)||decide (c=12∧i=0∧u=0))=false:=by simpa [hRef] using hr
    rw [hrr] at e13
    simp [s54,Value.cells,e5,ck5,la5,e13]
    have:=t15_ok orc ho hlen 4 a b w c i u (G:=G) hz ((hs.ext x05).ext x13) hr (by omega) (x05.trans x13) ((x13.obj _ (by omega)).trans o1) ((x13.obj _ (by omega)).trans o2)
    simpa [t15] using this
   ·simp [s54,Value.cells,e5,ck5,la5,hk4]
    have:=t15_ok orc ho hlen k a b w c i u (G:=G) hz (hs.ext x05) hr (by omega) x05 o1 o2
    simpa [t15] using this
 ·have hok:hOk L k w c i u=false:=by simp [hOk,hz]
  have hnx:hNext L k a w c i u=[]:=by simp [hNext,hok]
  rw [hok,hnx]
  simp [s54,Value.cells,e5,hz]
  exact ⟨x05,OwR.nil _ _⟩
end Go.Proofs.YtlaojmcekeohnaaGreatDoor.Lift
