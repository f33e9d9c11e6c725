import Derived.Test.YtedmgpchggogpaaGreatEE
import Derived.Test.YtedmgpchggogpaaGreatEA
import Derived.Test.YtedmgpchggogpaaGreatEG
set_option linter.unusedVariables false
set_option linter.unusedSimpArgs false
set_option maxRecDepth 20000
namespace Go.Proofs.YtedmgpchggogpaaGreat.Lift
open Go Go.Proofs.YtedmgpchggogpaaGreat.Gh Go.Proofs
variable (orc:FuncId → Bool)
theorem cmp_ok (a b:Int) (G:GS):(E orc).cl 53 [.int .u64 a,.int .u64 b] G = some (.int .i64 (cmpI a b),G):=by
 have n:∀ (x:Int) (G:GS),(E orc).cl 93 [.int .u64 x] G = some (.bool false,G):=fun x G=>f93 (exL_ok Q orc) _ G _ (by simp [s93])
 refine f53 (exL_ok Q orc) _ _ G _ ?_
 unfold cmpI
 by_cases h1:a < b
 ·simp [s53,n,h1]
 ·by_cases h2:b < a <;> simp [s53,n,h1,h2]
theorem gr_lp {L:List Int} {v:Value}:∀ (k i:Nat) (τ:Env) (G:GS),i + k = L.length → τ 0 = v → τ 1 = .func (.func 53) #[] #[] → τ 8 = v → τ 9 = .int .i64 L.length → τ 10 = .int .i64 i → τ 5 = .int .i64 (gr L i) →
  SlR (rowsI .u64) G v L → L.length < 2 ^ 40 → Wp ((exL Q orc).lpx 52 0 τ G) fun r=>r.1 = .exit 0 ∧ Ext G r.2.2 ∧ r.2.1 5 = .int .i64 (gr L L.length):=by
 intro k
 induction k with
 | zero =>
  intro i τ G hi h0 h1 h8 h9 h10 h5 hv hlt
  have hi':i = L.length:=by omega
  refine Wp.lp (l52_0 (exL_ok Q orc)) ?_
  simp [b52_0,clip_t,h0,h1,h8,h9,h10,h5,hi',Ext.refl]
 | succ k ih =>
  intro i τ G hi h0 h1 h8 h9 h10 h5 hv hlt
  refine Wp.lp (l52_0 (exL_ok Q orc)) ?_
  have hiL:i < L.length:=by omega
  obtain ⟨b,o,c,e0,_,q0,_⟩:=hv.at hiL
  have hc:=q0 0 (by decide)
  simp [rowsI] at hc
  obtain ⟨g1,g2,g3⟩:=gr_bd L i
  have hw:IntKind.wrap .i64 ((i:Int) + 1) = ((i + 1:Nat):Int):=wrap64 (by omega) (by omega)
  have hi0:(0:Int) ≤ i:=by omega
  have hgi:L.getD i 0 = L[i]:=by simp [hiL]
  by_cases hg:gr L i < 0
  ·have hn:gr L (i + 1) = i:=by unfold gr; rw [if_pos (.inl hg)]
   simp [-Int.natCast_add,b52_0,clip_t,h0,h1,h8,h9,h10,h5,e0,hc,hw,hiL,hi0,hg]
   refine ih (i + 1) _ G (by omega) (by simp [clip_t,e0]) (by simp [clip_t]) (by simp [clip_t,e0]) (by simp [clip_t]) (by simp [clip_t]) (by simp [clip_t,hn]) hv hlt
  ·obtain ⟨m,hm⟩:∃ m:Nat,gr L i = m:=⟨(gr L i).toNat,by omega⟩
   have hmL:m < L.length:=by omega
   obtain ⟨b',o',c',e0',_,q1,_⟩:=hv.at hmL
   rw [e0] at e0'
   simp only [Value.slice.injEq,Option.some.injEq,Addr.mk.injEq,and_true,true_and] at e0'
   obtain ⟨⟨rfl,rfl⟩,rfl⟩:=e0'
   have hc1:=q1 0 (by decide)
   simp [rowsI] at hc1
   have hgm:L.getD m 0 = L[m]:=by simp [hmL]
   have hm0:¬ ((m:Int) < 0):=by omega
   have hm1:(0:Int) ≤ m:=by omega
   rw [hm] at h5
   have hn:gr L (i + 1) = if L[m] < L[i] then (i:Int) else m:=by
    rw [gr,hm,Int.toNat_natCast,hgm,hgi]
    simp [hm0]
   by_cases hlt2:L[m] < L[i]
   ·have hcm:(0:Int) < cmpI L[i] L[m]:=by unfold cmpI; rw [if_neg (by omega),if_pos hlt2]; decide
    rw [if_pos hlt2] at hn
    simp [-Int.natCast_add,b52_0,clip_t,h0,h1,h8,h9,h10,h5,e0,hc,hc1,hw,hiL,hi0,hm0,hm1,hmL,cmp_ok,hcm]
    refine ih (i + 1) _ G (by omega) (by simp [clip_t,e0]) (by simp [clip_t]) (by simp [clip_t,e0]) (by simp [clip_t]) (by simp [clip_t]) (by simp [clip_t,hn]) hv hlt
   ·have hcm:¬ (0:Int) < cmpI L[i] L[m]:=by unfold cmpI; rw [if_neg hlt2]; split <;> decide
    rw [if_neg hlt2] at hn
    simp [-Int.natCast_add,b52_0,clip_t,h0,h1,h8,h9,h10,h5,e0,hc,hc1,hw,hiL,hi0,hm0,hm1,hmL,cmp_ok,hcm]
    refine ih (i + 1) _ G (by omega) (by simp [clip_t,e0]) (by simp [clip_t]) (by simp [clip_t,e0]) (by simp [clip_t]) (by simp [clip_t]) (by simp [clip_t,hn]) hv hlt
theorem greatest_ok {L:List Int} {v:Value} {G:GS} (hv:SlR (rowsI .u64) G v L) (hlt:L.length < 2 ^ 40) :
  ∃ G',(E orc).cl 52 [v,.func (.func 53) #[] #[]] G = some (.int .i64 (gr L L.length),G') ∧ Ext G G':=by
 have w:Wp (s52 true (exL Q orc) v (.func (.func 53) #[] #[]) G) fun r=>r.1 = .int .i64 (gr L L.length) ∧ Ext G r.2:=by
  obtain ⟨a,c,ha⟩:=hv.len
  have l0:∀ t,ln Q true t v = some (.int .i64 L.length):=fun t=>by rw [ha]; simp
  simp [s52,l0]
  refine Wp.bE ((gr_lp orc L.length 0 _ G (by omega) (by simp [clip_t]) (by simp [clip_t]) (by simp [clip_t]) (by simp [clip_t]) (by simp [clip_t]) (by simp [clip_t,gr]) hv hlt).mono ?_)
  rintro ⟨e,τ,G'⟩ ⟨rfl,x,y⟩
  simp only at x y
  simp [y,x]
 obtain ⟨⟨v',G'⟩,e1,rfl,e3⟩:=w
 exact ⟨G',f52 (exL_ok Q orc) _ _ G _ e1,e3⟩
theorem worst_ok {L:List Int} {v:Value} {key:Int} {G:GS} (hv:SlR (rowsI .u64) G v L) (hlt:L.length < 2 ^ 40) :
  ∃ G',(E orc).cl 9 [v,.int .u64 key] G = some (worstV L key,G') ∧ Ext G G':=by
 have w:Wp (s9 true (exL Q orc) v (.int .u64 key) G) fun r=>r.1 = worstV L key ∧ Ext G r.2:=by
  obtain ⟨g1,g2,g3⟩:=gr_bd L L.length
  unfold s9
  refine Wp.step (greatest_ok orc hv hlt) fun G1 x1=>?_
  by_cases hg:gr L L.length < 0
  ·have:worstV L key = .tuple #[.int .i64 (-1),.bool false]:=by simp [worstV,worst,hg]
   rw [this]
   simp [hg,x1]
  ·obtain ⟨m,hm⟩:∃ m:Nat,gr L L.length = m:=⟨(gr L L.length).toNat,by omega⟩
   have hmL:m < L.length:=by omega
   obtain ⟨b,o,c,e0,_,q1,_⟩:=(hv.ext x1).at hmL
   have hc1:=q1 0 (by decide)
   simp [rowsI] at hc1
   have hm0:¬ ((m:Int) < 0):=by omega
   have hm1:(0:Int) ≤ m:=by omega
   have hgm:L.getD m 0 = L[m]:=by simp [hmL]
   have hW:worstV L key = if L[m] ≤ key then .tuple #[.int .i64 (-1),.bool false] else .tuple #[.int .i64 m,.bool true]:=by
    unfold worstV worst
    simp only [hm,Int.toNat_natCast,hgm,hm0,false_or]
    by_cases h:L[m] ≤ key <;> simp [h]
   rw [hm,hW]
   by_cases h:L[m] ≤ key
   ·simp [hm0,hm1,hmL,e0,hc1,h,x1]
   ·simp [hm0,hm1,hmL,e0,hc1,h,x1]
 obtain ⟨⟨v',G'⟩,e1,rfl,e3⟩:=w
 exact ⟨G',f9 (exL_ok Q orc) _ _ G _ e1,e3⟩
theorem rworst_lp {L:List Int} {v:Value}:∀ (k i:Nat) (τ:Env) (G:GS),i + k = L.length → τ 0 = v → τ 6 = .int .i64 (gr L i) → τ 7 = .int .i64 i →
  SlR (rowsI .u64) G v L → L.length < 2 ^ 40 → Wp ((exL Q orc).lpx 10 0 τ G) fun r=>r.1 = .exit 0 ∧ Ext G r.2.2 ∧ r.2.1 0 = v ∧ r.2.1 1 = τ 1 ∧ r.2.1 6 = .int .i64 (gr L L.length):=by
 intro k
 induction k with
 | zero =>
  intro i τ G hi h0 h6 h7 hv hlt
  have hi':i = L.length:=by omega
  obtain ⟨a,c,rfl⟩:=hv.len
  refine Wp.lp (l10_0 (exL_ok Q orc)) ?_
  simp [b10_0,bb10_0,clip_t,h0,h6,h7,hi',Ext.refl]
 | succ k ih =>
  intro i τ G hi h0 h6 h7 hv hlt
  refine Wp.lp (l10_0 (exL_ok Q orc)) ?_
  have hiL:i < L.length:=by omega
  have he:Ext G (G.room 13):=(Ext.refl G).room 13
  obtain ⟨b,o,c,e0,_,q0,_⟩:=(hv.ext he).at hiL
  have hc:=q0 0 (by decide)
  simp [rowsI] at hc
  obtain ⟨g1,g2,g3⟩:=gr_bd L i
  have hw:IntKind.wrap .i64 ((i:Int) + 1) = ((i + 1:Nat):Int):=wrap64 (by omega) (by omega)
  have hi0:(0:Int) ≤ i:=by omega
  have hgi:L.getD i 0 = L[i]:=by simp [hiL]
  have fin:∀ τ':Env,τ' 0 = v → τ' 1 = τ 1 → τ' 6 = .int .i64 (gr L (i + 1)) → τ' 7 = .int .i64 ((i + 1:Nat):Int) → Wp ((exL Q orc).lpx 10 0 τ' (G.room 13)) fun r=>r.1 = .exit 0 ∧ Ext G r.2.2 ∧ r.2.1 0 = v ∧ r.2.1 1 = τ 1 ∧ r.2.1 6 = .int .i64 (gr L L.length):=fun τ' t0 t1 t6 t7=>by
   refine (ih (i + 1) τ' _ (by omega) t0 t6 t7 (hv.ext he) hlt).mono ?_
   rintro r ⟨r1,r2,r3,r4,r5⟩
   exact ⟨r1,he.trans r2,r3,r4.trans t1,r5⟩
  by_cases hg:gr L i < 0
  ·have hn:gr L (i + 1) = i:=by unfold gr; rw [if_pos (.inl hg)]
   simp [-Int.natCast_add,b10_0,bb10_0,jl10_0_0,jbl10_0_0,clip_t,h0,h6,h7,e0,hc,hw,hiL,hi0,hg]
   rw [← e0]
   exact fin _ (by simp [clip_t]) (by simp [clip_t]) (by simp [clip_t,hn]) (by simp [clip_t])
  ·obtain ⟨m,hm⟩:∃ m:Nat,gr L i = m:=⟨(gr L i).toNat,by omega⟩
   have hmL:m < L.length:=by omega
   obtain ⟨b',o',c',e0',_,q1,_⟩:=(hv.ext he).at hmL
   rw [e0] at e0'
   simp only [Value.slice.injEq,Option.some.injEq,Addr.mk.injEq,and_true,true_and] at e0'
   obtain ⟨⟨rfl,rfl⟩,rfl⟩:=e0'
   have hc1:=q1 0 (by decide)
   simp [rowsI] at hc1
   have hgm:L.getD m 0 = L[m]:=by simp [hmL]
   have hm0:¬ ((m:Int) < 0):=by omega
   have hm1:(0:Int) ≤ m:=by omega
   rw [hm] at h6
   have hn:gr L (i + 1) = if L[m] < L[i] then (i:Int) else m:=by
    rw [gr,hm,Int.toNat_natCast,hgm,hgi]
    simp [hm0]
   by_cases hlt2:L[m] < L[i]
   ·rw [if_pos hlt2] at hn
    simp [-Int.natCast_add,b10_0,bb10_0,jl10_0_0,jbl10_0_0,clip_t,h0,h6,h7,e0,hc,hc1,hw,hiL,hi0,hm0,hm1,hmL,hlt2]
    rw [← e0]
    exact fin _ (by simp [clip_t]) (by simp [clip_t]) (by simp [clip_t,hn]) (by simp [clip_t])
   ·rw [if_neg hlt2] at hn
    simp [-Int.natCast_add,b10_0,bb10_0,jl10_0_0,jbl10_0_0,clip_t,h0,h6,h7,e0,hc,hc1,hw,hiL,hi0,hm0,hm1,hmL,hlt2]
    rw [← e0]
    exact fin _ (by simp [clip_t]) (by simp [clip_t]) (by simp [clip_t,hn]) (by simp [clip_t])
theorem rworst_ok {L:List Int} {v:Value} {key:Int} {G:GS} (hv:SlR (rowsI .u64) G v L) (hlt:L.length < 2 ^ 40) :
  ∃ G',(E orc).cl 10 [v,.int .u64 key] G = some (worstV L key,G') ∧ Ext G G':=by
 have w:Wp (s10 true (exL Q orc) v (.int .u64 key) G) fun r=>r.1 = worstV L key ∧ Ext G r.2:=by
  obtain ⟨g1,g2,g3⟩:=gr_bd L L.length
  simp [s10]
  refine Wp.bE ((rworst_lp orc L.length 0 _ G (by omega) (by simp [clip_t]) (by simp [clip_t,gr]) (by simp [clip_t]) hv hlt).mono ?_)
  rintro ⟨e,τ,G1⟩ ⟨rfl,x1,t0,t1,t6⟩
  simp only at x1 t0 t1 t6
  simp [clip_t] at t1
  by_cases hg:gr L L.length < 0
  ·have:worstV L key = .tuple #[.int .i64 (-1),.bool false]:=by simp [worstV,worst,hg]
   rw [this]
   simp [t0,t1,t6,hg,x1]
  ·obtain ⟨m,hm⟩:∃ m:Nat,gr L L.length = m:=⟨(gr L L.length).toNat,by omega⟩
   have hmL:m < L.length:=by omega
   obtain ⟨b,o,c,e0,_,q1,_⟩:=(hv.ext x1).at hmL
   have hc1:=q1 0 (by decide)
   simp [rowsI] at hc1
   have hm0:¬ ((m:Int) < 0):=by omega
   have hm1:(0:Int) ≤ m:=by omega
   have hgm:L.getD m 0 = L[m]:=by simp [hmL]
   have hW:worstV L key = if L[m] ≤ key then .tuple #[.int .i64 (-1),.bool false] else .tuple #[.int .i64 m,.bool true]:=by
    unfold worstV worst
    simp only [hm,Int.toNat_natCast,hgm,hm0,false_or]
    by_cases h:L[m] ≤ key <;> simp [h]
   rw [hm] at t6
   rw [hW]
   by_cases h:L[m] ≤ key
   ·simp [t0,t1,t6,hm0,hm1,hmL,e0,hc1,h,x1]
   ·simp [t0,t1,t6,hm0,hm1,hmL,e0,hc1,h,x1]
 obtain ⟨⟨v',G'⟩,e1,rfl,e3⟩:=w
 exact ⟨G',f10 (exL_ok Q orc) _ _ G _ e1,e3⟩
structure OwW (own:Nat → Nat) (t:Nat) (G:GS) (v:Value) (L:List Int):Prop where
 ow:OwR (rowsI .u64) 0 G v L
 tag:∀ g,InB v g → own g = t
abbrev baB (r:RunW) (at_ left:Int) (look:Value) (key:Int) (wv:Value) (worst flag by_:Int) (dn:Bool) (er:Int):GObj:=⟨[.int .i64 at_,.int .i64 left,.int .i64 r.runs,.int .i64 r.flags,.int .i64 r.cores,look,.int .u64 key,wv,.int .i64 worst,.int .i64 flag,.int .u64 by_,.bool true,.bool dn,.int .i64 er],1,false,1⟩
section
variable {own own' own0 own1 own2:Nat → Nat} {tb tag tg m b lb q:Nat} {t:TW} {w:RunW} {c:Int} {G G' G1 G2:GS} {s s' s1:MS} {x:BaS} {v:Value} {L:List Int}
theorem OwW.lt (h:OwW own tb G v L) {g:Nat} (hg:InB v g):g < G.nx:=h.ow.is.under g hg
theorem OwW.nil (own:Nat → Nat) (t:Nat) (G:GS):OwW own t G (.slice none 0 0) []:=⟨OwR.nil _ _,fun g ⟨a,n,c,he,_⟩=>by cases he⟩
theorem OwW.to (h:OwW own tb G v L) (hn:G.nx ≤ G1.nx) (hk:∀ g,InB v g → G1.obj g = G.obj g) (ha:Agr own own1 G):OwW own1 tb G1 v L :=
 ⟨h.ow.kept hn hk,fun g hg=>(ha g (h.lt hg)).trans (h.tag g hg)⟩
theorem OwW.putO (h:OwW own tb G v L) (nb:¬ InB v b) (o:GObj):OwW own tb (G.put b o) v L :=
 h.to (Nat.le_refl _) (fun g hg=>by rw [obj_put,if_neg (fun (e:g = b)=>nb (by rw [← e]; exact hg))]) (Agr.refl _ _)
abbrev Ow3 (own:Nat → Nat) (t u v:Nat):Nat → Prop:=fun x=>own x = t ∨ own x = u ∨ own x = v
def BaP (own:Nat → Nat) (tb tag tg:Nat) (t:TW) (w:RunW) (c:Int) (G:GS) (b:Nat) (x:BaS):Prop :=
 At own tb G b ∧
 ((x.line = 0 ∧ ∃ lb,G.obj b = some (baB w w.runs w.cores (P0 lb) 0 (.slice none 0 0) (-1) (-1) x.by_ false 0) ∧ LkP own tag tg t c G lb x.look) ∨
  (x.line = 1 ∧ ∃ v,G.obj b = some (baB w (IntKind.wrap .i64 (w.runs + x.words.length)) (w.cores - x.words.length) (.pointer none) x.key v (-1) (-1) x.by_ false 0) ∧ OwW own tb G v x.words ∧ ¬ InB v b) ∨
  (x.line = 2 ∧ ∃ a k v,G.obj b = some (baB w a 0 (.pointer none) k v x.flag (-1) x.by_ false 0) ∧ OwW own tb G v x.words) ∨
  (x.line = 9 ∧ ∃ a l w' lk k v g wr,one lk = true ∧ one v = true ∧ G.obj b = some (baB w' a l lk k v g wr 0 true x.err) ∧ wr = x.flag))
theorem BaP.to (h:BaP own tb tag tg t w c G b x) (hn:G.nx ≤ G'.nx) (hk:∀ g,g < G.nx → own g = tb ∨ own g = tag ∨ own g = tg → G'.obj g = G.obj g) (a:Agr own own' G):BaP own' tb tag tg t w c G' b x:=by
 obtain ⟨hb,h⟩:=h
 have kb:=hk b hb.lt (.inl hb.tag)
 refine ⟨hb.to hn a,?_⟩
 rcases h with ⟨e,lb,h1,h2⟩ | ⟨e,v,h1,h2,h3⟩ | ⟨e,a',k,v,h1,h2⟩ | ⟨e,a',l,w',lk,k,v,g,wr,h1,h2,h3,h4⟩
 ·exact .inl ⟨e,lb,kb.trans h1,h2.to hn (fun g hg e=>hk g hg (.inr e)) a⟩
 ·exact .inr (.inl ⟨e,v,kb.trans h1,h2.to hn (fun g hg=>hk g (h2.lt hg) (.inl (h2.tag g hg))) a,h3⟩)
 ·exact .inr (.inr (.inl ⟨e,a',k,v,kb.trans h1,h2.to hn (fun g hg=>hk g (h2.lt hg) (.inl (h2.tag g hg))) a⟩))
 ·exact .inr (.inr (.inr ⟨e,a',l,w',lk,k,v,g,wr,h1,h2,kb.trans h3,h4⟩))
theorem bErr_ok (hl:x.line = 0 ∨ x.line = 1 ∨ x.line = 2 ∨ x.line = 9) (h:BaP own tb tag tg t w c G b x):(E orc).cl 27 [P0 b] G = some (.int .i64 (if x.line = 9 then x.err else 14),G):=by
 obtain ⟨hb,h⟩:=h
 refine f27 (exL_ok Q orc) _ G _ ?_
 rcases h with ⟨e,lb,h1,h2⟩ | ⟨e,v,h1,h2,h3⟩ | ⟨e,a',k,v,h1,h2⟩ | ⟨e,a',l,w',lk,k,v,g,wr,h1,h2,h3,h4⟩
 ·simp [s27,h1,e]
 ·simp [s27,h1,e]
 ·simp [s27,h1,e]
 ·simp [s27,h3,e]
theorem bFlagged_ok (h:BaP own tb tag tg t w c G b x):(E orc).cl 28 [P0 b] G = some (.int .i64 (if x.line = 9 then x.flag else -1),G):=by
 obtain ⟨hb,h⟩:=h
 refine f28 (exL_ok Q orc) _ G _ ?_
 rcases h with ⟨e,lb,h1,h2⟩ | ⟨e,v,h1,h2,h3⟩ | ⟨e,a',k,v,h1,h2⟩ | ⟨e,a',l,w',lk,k,v,g,wr,h1,h2,h3,h4⟩
 ·simp [s28,h1,e]
 ·simp [s28,h1,e]
 ·simp [s28,h1,e]
 ·simp [s28,h3,e,h4]
theorem bBy_ok (hx:x.kp) (h:BaP own tb tag tg t w c G b x):(E orc).cl 39 [P0 b] G = some (.int .u64 x.by_,G):=by
 obtain ⟨hb,h⟩:=h
 refine f39 (exL_ok Q orc) _ G _ ?_
 rcases h with ⟨e,lb,h1,h2⟩ | ⟨e,v,h1,h2,h3⟩ | ⟨e,a',k,v,h1,h2⟩ | ⟨e,a',l,w',lk,k,v,g,wr,h1,h2,h3,h4⟩
 ·simp [s39,h1]
 ·simp [s39,h1]
 ·simp [s39,h1]
 ·simp [s39,h3,hx.by9 e]
theorem bends_ok {a l k wr fl by_ er er':Int} {lk v:Value} {dn:Bool} (ho:G.obj b = some (baB w a l lk k v wr fl by_ dn er)) (h1:one lk = true) (h2:one v = true) :
  (E orc).cl 67 [P0 b,.int .i64 er'] G = some (.tuple #[],(G.put b (baB w a l lk k v wr fl by_ true er)).put b (baB w a l lk k v wr fl by_ true er')):=by
 refine f67 (exL_ok Q orc) _ _ G _ ?_
 simp [s67,ho]
end
theorem drawn_put (G:GS) (n:Nat) (o:GObj):((G.at' n).push o).back G = G.put n o:=rfl
section
variable {own own' own0 own1 own2:Nat → Nat} {tb tag tg m b lb q:Nat} {t:TW} {w:RunW} {c:Int} {G G' G1 G2:GS} {s s' s1:MS} {x:BaS} {v:Value} {L:List Int}
theorem bwrap {n:Nat} (hw:w.good) (hn:(n:Int) ≤ 64):IntKind.wrap .i64 (w.runs + n) = w.runs + n ∧ IntKind.wrap .i64 (w.runs + n + 1) = w.runs + n + 1:=by
 obtain ⟨h1,h2,h3,h4,-,-⟩:=hw
 exact ⟨wrap64 (by omega) (by omega),wrap64 (by omega) (by omega)⟩
theorem blooks_ok (hto:orc 236 = false) (hs:t.sound) (hlo:t.lok) (hc:0 ≤ c ∧ c < t.u11) (hw:w.good) (h:PM own G m s) (hm:s.ok) (hx:x.look.ok t) (hk:x.kp) (hl0:x.line = 0)
  (h1:tb ≠ 10) (h2:tag ≠ 10) (h3:tg ≠ 10) (d1:tb ≠ tag) (d2:tb ≠ tg) (d3:tag ≠ tg) (hb:At own tb G b) (ho:G.obj b = some (baB w w.runs w.cores (P0 lb) 0 (.slice none 0 0) (-1) (-1) 0 false 0)) (hL:LkP own tag tg t c G lb x.look) :
  ∃ own1 G1,(E orc).cl 68 [P0 b,P0 m] G = some (.tuple #[],G1) ∧ PW (Ow3 own tb tag tg) own G own1 G1 m (x.l0 t c s).2 ∧ BaP own1 tb tag tg t w c G1 b (x.l0 t c s).1:=by
 obtain ⟨k1,k2,k3⟩:=hk.l0 hl0
 obtain ⟨own1,G1,e1,w1,l1⟩:=lkstep_ok orc hto hs hlo hc h hm hx k1 h2 h3 d3 hL
 have hend:(x.look.step t c s).1.line = 9 → (x.look.step t c s).1.by_ = 0:=fun k=>(LkS.ends k1 k).2
 unfold BaS.l0
 simp only
 generalize (x.look.step t c s).2 = s' at *
 generalize (x.look.step t c s).1 = y at *
 have ob1:=(w1.keep2 hb.lt (by rw [hb.tag]; exact h1) (by rw [hb.tag]; exact d1) (by rw [hb.tag]; exact d2)).trans ho
 have hb1:=hb.to w1.nx w1.stp.agr
 have w1':PW (Ow3 own tb tag tg) own G own1 G1 m s':=w1.mono fun _ _ k=>.inr k
 have e2:=lkBy_ok orc l1
 obtain ⟨G2,hG2⟩:∃ G2,G2 = G1.put b (baB w w.runs w.cores (P0 lb) 0 (.slice none 0 0) (-1) (-1) y.by_ false 0):=⟨_,rfl⟩
 have w2:PW (Ow3 own tb tag tg) own G own1 G2 m s':=by rw [hG2]; exact w1'.put (.inl (.inl hb.tag)) (fun _=>by rw [hb1.tag]; exact h1) _
 have o2:G2.obj b = some (baB w w.runs w.cores (P0 lb) 0 (.slice none 0 0) (-1) (-1) y.by_ false 0):=by rw [hG2]; simp
 have hb2:At own1 tb G2 b:=by rw [hG2]; exact hb1.putO _ _
 have l2:LkP own1 tag tg t c G2 lb y:=l1.to (by rw [hG2]; exact Nat.le_refl _) (fun g _ k=>by rw [hG2,obj_put,if_neg]; rintro rfl; rcases k with k | k; exact d1 (hb1.tag.symm.trans k); exact d2 (hb1.tag.symm.trans k)) (Agr.refl _ _)
 by_cases hl:y.line = 9
 ·simp only [hl,decide_true,if_true] at e1 ⊢
  have hby:=hend hl
  obtain ⟨G3,e3,x3⟩:=lkItem_ok orc l2 hl
  have hz:z120 = [.int .u64 0,.int .i64 0]:=rfl
  obtain ⟨G4,hG4⟩:∃ G4,G4 = ((G3.push ⟨z120,1,false,1⟩).put G3.nx ⟨[.int .u64 y.peek.ik,.int .i64 y.peek.ij],1,false,1⟩).room 10:=⟨_,rfl⟩
  have x4:Ext G3 G4:=by rw [hG4]; exact (extPP _ _).room 10
  have p4:G4.obj G3.nx = some ⟨[.int .u64 y.peek.ik,.int .i64 y.peek.ij],1,false,1⟩:=by rw [hG4]; simp
  have x34:=x3.trans x4
  have w4:=w2.extT x34 tb
  have hb4:=hb2.extO x34 tb
  have o4:=(x34.obj b hb2.lt).trans o2
  have hbn:¬ G3.nx = b:=by have:=hb2.lt; have:=x3.nx; omega
  have hbn':¬ b = G3.nx:=fun k=>hbn k.symm
  generalize grown own1 G2 tb = own4 at *
  obtain ⟨G5,hG5⟩:∃ G5,G5 = (G4.put b (baB w w.runs w.cores (.pointer none) 0 (.slice none 0 0) (-1) (-1) y.by_ false 0)).put b (baB w w.runs w.cores (.pointer none) y.peek.ik (.slice none 0 0) (-1) (-1) y.by_ false 0):=⟨_,rfl⟩
  have w5:PW (Ow3 own tb tag tg) own G own4 G5 m s':=by rw [hG5]; exact (w4.put (.inl (.inl hb.tag)) (fun _=>by rw [hb4.tag]; exact h1) _).put (.inl (.inl hb.tag)) (fun _=>by rw [hb4.tag]; exact h1) _
  have o5:G5.obj b = some (baB w w.runs w.cores (.pointer none) y.peek.ik (.slice none 0 0) (-1) (-1) y.by_ false 0):=by rw [hG5]; simp
  have hb5:At own4 tb G5 b:=by rw [hG5]; exact (hb4.putO _ _).putO _ _
  unfold BaS.seen
  simp only
  have o3:=(x3.obj b hb2.lt).trans o2
  unfold itemV at e3
  by_cases c0:y.peek.ie = 0
  ·rw [if_pos c0,if_pos (.inl c0)]
   refine ⟨own4,G5,f68 (exL_ok Q orc) _ _ G _ ?_,w5,hb5,.inr (.inl ⟨rfl,.slice none 0 0,?_,by simp only [k3]; exact OwW.nil _ _ _,fun ⟨a,n,c',k,_⟩=>by cases k⟩)⟩
   ·simp [s68,ho,e1,ob1,e2,← hG2,o2,e3,hz,splice_put,splice_end]
    rw [hz] at hG4
    rw [← hG4]
    simp [p4,o4,o3,hbn,hbn',sameO,same,sameD,c0,← hG5]
   ·have:=(bwrap (n:=0) hw (by decide)).1
    simp only [k3,List.length_nil]
    rw [this]
    simpa using o5
  ·rw [if_neg c0]
   by_cases c15:y.peek.ie = 15
   ·rw [if_pos (.inr c15)]
    have e5:=bends_ok orc (er':=0) o5 rfl rfl
    refine ⟨own4,(G5.put b (baB w w.runs w.cores (.pointer none) y.peek.ik (.slice none 0 0) (-1) (-1) y.by_ true 0)).put b (baB w w.runs w.cores (.pointer none) y.peek.ik (.slice none 0 0) (-1) (-1) y.by_ true 0),f68 (exL_ok Q orc) _ _ G _ ?_,(w5.put (.inl (.inl hb.tag)) (fun _=>by rw [hb5.tag]; exact h1) _).put (.inl (.inl hb.tag)) (fun _=>by rw [hb5.tag]; exact h1) _,(hb5.putO _ _).putO _ _,.inr (.inr (.inr ⟨rfl,w.runs,w.cores,w,.pointer none,y.peek.ik,.slice none 0 0,-1,-1,rfl,rfl,by simp [hby],by simp only [k2]⟩))⟩
    simp [s68,ho,e1,ob1,e2,← hG2,o2,e3,hz,splice_put,splice_end]
    rw [hz] at hG4
    rw [← hG4]
    simp [p4,o4,o3,hbn,hbn',sameO,same,sameD,c15,← hG5,e5]
   ·rw [if_neg (by rintro (k | k); exact c0 k; exact c15 k)]
    have e5:=bends_ok orc (er':=y.peek.ie) o5 rfl rfl
    refine ⟨own4,(G5.put b (baB w w.runs w.cores (.pointer none) y.peek.ik (.slice none 0 0) (-1) (-1) y.by_ true 0)).put b (baB w w.runs w.cores (.pointer none) y.peek.ik (.slice none 0 0) (-1) (-1) y.by_ true y.peek.ie),f68 (exL_ok Q orc) _ _ G _ ?_,(w5.put (.inl (.inl hb.tag)) (fun _=>by rw [hb5.tag]; exact h1) _).put (.inl (.inl hb.tag)) (fun _=>by rw [hb5.tag]; exact h1) _,(hb5.putO _ _).putO _ _,.inr (.inr (.inr ⟨rfl,w.runs,w.cores,w,.pointer none,y.peek.ik,.slice none 0 0,-1,-1,rfl,rfl,by simp [hby],by simp only [k2]⟩))⟩
    simp [s68,ho,e1,ob1,e2,← hG2,o2,e3,hz,splice_put,splice_end]
    rw [hz] at hG4
    rw [← hG4]
    simp [p4,o4,o3,hbn,hbn',sameO,same,sameD,c0,c15,← hG5,e5]
 ·simp only [hl,decide_false,if_false] at e1 ⊢
  refine ⟨own1,G2,f68 (exL_ok Q orc) _ _ G _ ?_,w2,hb2,.inl ⟨hl0,lb,o2,l2⟩⟩
  simp [s68,ho,e1,ob1,e2,← hG2]
end
theorem worstV_cases (L:List Int) (key:Int):(worst L key = none ∧ worstV L key = .tuple #[.int .i64 (-1),.bool false]) ∨ ∃ i,worst L key = some i ∧ worstV L key = .tuple #[.int .i64 i,.bool true]:=by
 unfold worstV
 cases h:worst L key with
 | none=>exact .inl ⟨rfl,rfl⟩
 | some i=>exact .inr ⟨i,rfl,rfl⟩
section
variable {own own' own0 own1 own2:Nat → Nat} {tb tag tg m b lb q:Nat} {t:TW} {w:RunW} {c:Int} {G G' G1 G2:GS} {s s' s1:MS} {x:BaS} {v:Value} {L:List Int}
theorem bnext_ok {a l k wr fl by_ er:Int} {lk wv:Value} {dn:Bool} (h1:one lk = true) (h2:one wv = true) (hl:l ≠ 0) (ha:IntKind.wrap .i64 (a + 1) = a + 1) (ha':IntKind.wrap .i64 a = a) (hl2:IntKind.wrap .i64 (l - 1) = l - 1) (ho:G.obj b = some (baB w a l lk k wv wr fl by_ dn er)) :
  (E orc).cl 69 [P0 b] G = some (.tuple #[.int .i64 a,.bool true],(G.put b (baB w (a + 1) l lk k wv wr fl by_ dn er)).put b (baB w (a + 1) (l - 1) lk k wv wr fl by_ dn er)):=by
 have e:a + 1 - 1 = a:=by omega
 refine f69 (exL_ok Q orc) _ G _ ?_
 simp [s69,ho,hl,ha,hl2,e,ha']
theorem bnext0_ok {a k wr fl by_ er:Int} {lk wv:Value} {dn:Bool} (ho:G.obj b = some (baB w a 0 lk k wv wr fl by_ dn er)) :
  (E orc).cl 69 [P0 b] G = some (.tuple #[.int .i64 0,.bool false],G):=by
 refine f69 (exL_ok Q orc) _ G _ ?_
 simp [s69,ho]
theorem bstep_ok (hto:orc 236 = false) (hs:t.sound) (hlo:t.lok) (hc:0 ≤ c ∧ c < t.u11) (hw:w.good) (h:PM own G m s) (hm:s.ok) (hx:x.ok t w) (hk:x.kp)
  (h1:tb ≠ 10) (h2:tag ≠ 10) (h3:tg ≠ 10) (d1:tb ≠ tag) (d2:tb ≠ tg) (d3:tag ≠ tg) (hp:BaP own tb tag tg t w c G b x) :
  ∃ own1 G1,(E orc).cl 26 [P0 b,P0 m] G = some (.bool (decide ((x.step t w c s).1.line = 9)),G1) ∧ PW (Ow3 own tb tag tg) own G own1 G1 m (x.step t w c s).2 ∧ BaP own1 tb tag tg t w c G1 b (x.step t w c s).1:=by
 obtain ⟨hb,hp⟩:=hp
 have hx':=hx.step (c:=c) hs hlo hm
 rcases hp with ⟨e,lb,ho,hL⟩ | ⟨e,v,ho,hv,hvb⟩ | ⟨e,a',k,v,ho,hv⟩ | ⟨e,a',l,w',lk,k,v,g,wr,ho1,ho2,ho,hwr⟩
 ·obtain ⟨G0,hG0⟩:∃ G0,G0 = G.put b (baB w w.runs w.cores (P0 lb) 0 (.slice none 0 0) (-1) (-1) 0 false 0):=⟨_,rfl⟩
  have w0:PW (Ow3 own tb tag tg) own G own G0 m s:=by rw [hG0]; exact (PW.refl h).put (.inl (.inl hb.tag)) (fun _=>by rw [hb.tag]; exact h1) _
  have o0:G0.obj b = some (baB w w.runs w.cores (P0 lb) 0 (.slice none 0 0) (-1) (-1) 0 false 0):=by rw [hG0]; simp
  have hL0:LkP own tag tg t c G0 lb x.look:=hL.to (by rw [hG0]; exact Nat.le_refl _) (fun g _ k=>by rw [hG0,obj_put,if_neg]; rintro rfl; rcases k with k | k; exact d1 (hb.tag.symm.trans k); exact d2 (hb.tag.symm.trans k)) (Agr.refl _ _)
  have hst:x.step t w c s = x.l0 t c s:=by unfold BaS.step; rw [if_pos e]
  rw [hst] at hx' ⊢
  obtain ⟨own1,G1,e1,w1,p1⟩:=blooks_ok orc hto hs hlo hc hw w0.pm hm hx.look hk e h1 h2 h3 d1 d2 d3 (by rw [hG0]; exact hb.putO _ _) o0 hL0
  refine ⟨own1,G1,f26 (exL_ok Q orc) _ _ G _ ?_,w0.trans w1 fun _ _ k=>k,p1⟩
  have hl:=hx'.1.line
  generalize (x.l0 t c s).1 = y at *
  obtain ⟨-,p1⟩:=p1
  simp [s26,sb26,ho,← hG0,o0,e1]
  rcases p1 with ⟨e',_,h1',_⟩ | ⟨e',_,h1',_,_⟩ | ⟨e',_,_,_,h1',_⟩ | ⟨e',_,_,_,_,_,_,_,_,_,_,h1',_⟩ <;> simp [h1',e']
 ·have hsh:=hx.short (.inr e)
  obtain ⟨g1,g2,g3,g4,g5,g6⟩:=hw
  obtain ⟨n,hn⟩:∃ n,n = x.words.length:=⟨_,rfl⟩
  have hA:IntKind.wrap .i64 (w.runs + n) = w.runs + n:=wrap64 (by omega) (by omega)
  have hA1:IntKind.wrap .i64 (w.runs + n + 1) = w.runs + n + 1:=wrap64 (by omega) (by omega)
  have hA2:w.runs + ((n + 1:Nat):Int) = w.runs + n + 1:=by omega
  have hl1:IntKind.wrap .i64 (w.cores - n - 1) = w.cores - n - 1:=wrap64 (by omega) (by omega)
  have hl0:w.cores - n ≠ 0:=by omega
  have hst:x.step t w c s = x.l1 w s:=by unfold BaS.step; rw [if_neg (by omega),if_pos e]
  rw [hst]
  rw [← hn,hA] at ho
  unfold BaS.l1
  rw [← hn,hA]
  obtain ⟨va,vc,hve⟩:=hv.ow.is.len
  obtain ⟨G0,hG0⟩:∃ G0,G0 = G.put b (baB w (w.runs + n) (w.cores - n) (.pointer none) x.key v (-1) (-1) 0 false 0):=⟨_,rfl⟩
  have o0:G0.obj b = some (baB w (w.runs + n) (w.cores - n) (.pointer none) x.key v (-1) (-1) 0 false 0):=by rw [hG0]; simp
  have hov:one v = true:=by rw [hve]; rfl
  have en:=bnext_ok orc rfl hov hl0 hA1 hA hl1 o0
  obtain ⟨G1,hG1⟩:∃ G1,G1 = (G0.put b (baB w (w.runs + n + 1) (w.cores - n) (.pointer none) x.key v (-1) (-1) 0 false 0)).put b (baB w (w.runs + n + 1) (w.cores - n - 1) (.pointer none) x.key v (-1) (-1) 0 false 0):=⟨_,rfl⟩
  rw [← hG1] at en
  have w1:PW (Own own tb) own G own G1 m s:=by rw [hG1,hG0]; exact (((PW.refl h).putT hb.tag h1 _).putT hb.tag h1 _).putT hb.tag h1 _
  have o1:G1.obj b = some (baB w (w.runs + n + 1) (w.cores - n - 1) (.pointer none) x.key v (-1) (-1) 0 false 0):=by rw [hG1]; simp
  have hb1:At own tb G1 b:=by rw [hG1,hG0]; exact ((hb.putO _ _).putO _ _).putO _ _
  have v1:OwW own tb G1 v x.words:=by rw [hG1,hG0]; exact ((hv.putO hvb _).putO hvb _).putO hvb _
  have x1:Ext G1 (G1.room 13):=(Ext.refl _).room 13
  have w2:=w1.extT x1 tb
  have hb2:=hb1.extO x1 tb
  have v2:OwW (grown own G1 tb) tb (G1.room 13) v x.words:=v1.to x1.nx (fun g hg=>x1.obj g (v1.lt hg)) grown_agr
  have o2:=(x1.obj b hb1.lt).trans o1
  have tn:grown own G1 tb (G1.nx + 8) = tb:=grown_new (by omega)
  have ln2:G1.nx + 8 < (G1.room 13).nx:=by simp
  generalize grown own G1 tb = own2 at *
  obtain ⟨own3,G3,e3,w3⟩:=w2.pm.load orc (w.runs + n)
  have hz:=(hm.load (w.runs + n)).2
  generalize s.load (w.runs + n) = s' at *
  generalize s'.new = z at *
  have hb3:=hb2.to w3.nx w3.stp.agr
  have o3:=(hb2.keep h1 w3).trans o2
  have v3:OwW own3 tb G3 v x.words:=v2.to w3.nx (fun g hg=>w3.keep (v2.lt hg) (by rw [v2.tag g hg]; exact h1) id) w3.stp.agr
  have w3':=w2.tr w3.any
  have tn3:own3 (G1.nx + 8) = tb:=(w3.stp.same ln2).trans tn
  have nvn:¬ InB v (G1.nx + 8):=fun k=>by have:=v1.lt k; omega
  have nbn:b ≠ G1.nx + 8:=by have:=hb1.lt; omega
  obtain ⟨G4,hG4⟩:∃ G4,G4 = G3.put (G1.nx + 8) ⟨[.int .u64 z],1,false,1⟩:=⟨_,rfl⟩
  have w4:PW (Own own tb) own G own3 G4 m s':=by rw [hG4]; exact w3'.putT tn3 h1 _
  have hb4:At own3 tb G4 b:=by rw [hG4]; exact hb3.putO _ _
  have o4:G4.obj b = some (baB w (w.runs + n + 1) (w.cores - n - 1) (.pointer none) x.key v (-1) (-1) 0 false 0):=by rw [hG4,obj_put,if_neg nbn]; exact o3
  have v4:OwW own3 tb G4 v x.words:=by rw [hG4]; exact v3.putO nvn _
  have sz:SlR (rowsI .u64) G4 (.slice (some ⟨G1.nx + 8,0,none⟩) 1 1) [z]:=SlR.block (e:=rowsI .u64) (op:=false) (L:=[z]) (by rw [hG4]; simp [RowE.flat_one]) (by rw [hG4]; have:=w3.nx; simp at this ⊢; omega)
  obtain ⟨v5,G5,e5,md,ow5⟩:=v4.ow.app_mod (ib:=8) (by decide) sz (by simp) (by simp; omega)
  simp only [rowsI_sz] at e5
  have w5:=w4.modT (md.mono fun g hg=>v4.tag g hg) h1 tb
  have hb5:At (grown own3 G4 tb) tb G5 b:=hb4.to md.nx grown_agr
  have o5:G5.obj b = some (baB w (w.runs + n + 1) (w.cores - n - 1) (.pointer none) x.key v (-1) (-1) 0 false 0):=(md.obj b hb4.lt hvb).trans o4
  have v5o:OwW (grown own3 G4 tb) tb G5 v5 (x.words ++ [z]):=⟨ow5.mono (Nat.zero_le _),fun g hg=>grown_new (ow5.from hg)⟩
  have nv5:¬ InB v5 b:=fun k=>by have:=ow5.from k; have:=hb4.lt; omega
  generalize grown own3 G4 tb = own5 at *
  obtain ⟨a5,c5,hv5⟩:=ow5.is.len
  obtain ⟨G6,hG6⟩:∃ G6,G6 = G5.put b (baB w (w.runs + n + 1) (w.cores - n - 1) (.pointer none) x.key v5 (-1) (-1) 0 false 0):=⟨_,rfl⟩
  have w6:PW (Own own tb) own G own5 G6 m s':=by rw [hG6]; exact w5.putT hb5.tag h1 _
  have hb6:At own5 tb G6 b:=by rw [hG6]; exact hb5.putO _ _
  have o6:G6.obj b = some (baB w (w.runs + n + 1) (w.cores - n - 1) (.pointer none) x.key v5 (-1) (-1) 0 false 0):=by rw [hG6]; simp
  have v6:OwW own5 tb G6 v5 (x.words ++ [z]):=by rw [hG6]; exact v5o.putO nv5 _
  have hlen:(x.words ++ [z]).length = n + 1:=by simp [hn]
  rw [hlen] at hv5
  have hsame:sameO (some v) v = true:=by rw [hve]; simp [sameO,same,sameD]
  have hov5:one v5 = true:=by rw [hv5]; rfl
  by_cases hlast:((x.words ++ [z]).length:Int) = w.cores
  ·rw [if_pos hlast]
   have hd0:w.cores - n - 1 = 0:=by omega
   have x6:Ext G6 (G6.room 14):=(Ext.refl _).room 14
   obtain ⟨G7,e7,x7⟩:=worst_ok orc (key:=x.key) (v6.ow.is.ext x6) (by omega)
   have y7:=x6.trans x7
   have w7:=w6.extT y7 tb
   have hb7:=hb6.extO y7 tb
   have o7:=(y7.obj b hb6.lt).trans o6
   have v7:OwW (grown own5 G6 tb) tb G7 v5 (x.words ++ [z]):=v6.to y7.nx (fun g hg=>y7.obj g (v6.lt hg)) grown_agr
   generalize grown own5 G6 tb = own7 at *
   have oroom:(G6.room 14).obj b = some (baB w (w.runs + n + 1) (w.cores - n - 1) (.pointer none) x.key v5 (-1) (-1) 0 false 0):=by simpa using o6
   rcases worstV_cases (x.words ++ [z]) x.key with ⟨c1,c2⟩ | ⟨i,c1,c2⟩
   ·rw [c2] at e7
    rw [c1]
    refine ⟨own7,(G7.put b (baB w (w.runs + n + 1) (w.cores - n - 1) (.pointer none) x.key v5 (-1) (-1) 0 false 0)).put b (baB w (w.runs + n + 1) (w.cores - n - 1) (.pointer none) x.key v5 (-1) (-1) 0 true 0),f26 (exL_ok Q orc) _ _ G _ ?_,((w7.putT hb7.tag h1 _).putT hb7.tag h1 _).mono (fun _ _ k=>.inl k),(hb7.putO _ _).putO _ _,.inr (.inr (.inr ⟨rfl,w.runs + n + 1,w.cores - n - 1,w,.pointer none,x.key,v5,-1,-1,rfl,hov5,by rw [hk.e0 (by omega)]; simp,by simp only [hk.l1 e]⟩))⟩
    rw [hd0] at hG6 o6 oroom o7
    subst hv5
    subst hve
    simp [s26,sb26,ho,← hG0,o0,en,o1,o2,e3,o3,drawn_put,← hG4,e5,o5,← hG6,o6,hd0,oroom,e7,o7,sameO,same,sameD]
    simp [j26_0,jb26_0,clip_t]
   ·rw [c2] at e7
    rw [c1]
    refine ⟨own7,(G7.put b (baB w (w.runs + n + 1) (w.cores - n - 1) (.pointer none) x.key v5 i (-1) 0 false 0)).put b (baB w (w.runs + n + 1) (w.cores - n - 1) (.pointer none) x.key v5 i (-1) 0 false 0),f26 (exL_ok Q orc) _ _ G _ ?_,((w7.putT hb7.tag h1 _).putT hb7.tag h1 _).mono (fun _ _ k=>.inl k),(hb7.putO _ _).putO _ _,.inr (.inr (.inl ⟨rfl,w.runs + n + 1,x.key,v5,by simp [hd0],(v7.putO nv5 _).putO nv5 _⟩))⟩
    rw [hd0] at hG6 o6 oroom o7
    subst hv5
    subst hve
    simp [s26,sb26,ho,← hG0,o0,en,o1,o2,e3,o3,drawn_put,← hG4,e5,o5,← hG6,o6,hd0,oroom,e7,o7,sameO,same,sameD]
    simp [j26_0,jb26_0,clip_t]
  ·rw [if_neg hlast]
   have hd0:¬ w.cores - n - 1 = 0:=by omega
   have hA3:IntKind.wrap .i64 (w.runs + ((x.words ++ [z]).length:Int)) = w.runs + n + 1:=by rw [hlen,hA2,hA1]
   have hl3:w.cores - ((x.words ++ [z]).length:Int) = w.cores - n - 1:=by rw [hlen]; omega
   refine ⟨own5,G6,f26 (exL_ok Q orc) _ _ G _ ?_,w6.mono (fun _ _ k=>.inl k),hb6,.inr (.inl ⟨e,v5,by simp only [hA3,hl3]; exact o6,v6,nv5⟩)⟩
   subst hv5
   subst hve
   simp [s26,sb26,ho,← hG0,o0,en,o1,o2,e3,o3,drawn_put,← hG4,e5,o5,← hG6,o6,hd0,sameO,same,sameD]
   simp [j26_0,jb26_0,clip_t,o6,e]
 ·obtain ⟨va,vc,hve⟩:=hv.ow.is.len
  have hst:x.step t w c s = x.l2 w s:=by unfold BaS.step; rw [if_neg (by omega),if_neg (by omega),if_pos e]
  rw [hst]
  unfold BaS.l2
  have ke:=(hk.l2 e).2
  obtain ⟨G0,hG0⟩:∃ G0,G0 = G.put b (baB w a' 0 (.pointer none) k v x.flag (-1) 0 false 0):=⟨_,rfl⟩
  have w0:PW (Own own tb) own G own G0 m s:=by rw [hG0]; exact (PW.refl h).putT hb.tag h1 _
  have o0:G0.obj b = some (baB w a' 0 (.pointer none) k v x.flag (-1) 0 false 0):=by rw [hG0]; simp
  have hb0:At own tb G0 b:=by rw [hG0]; exact hb.putO _ _
  have en:=bnext0_ok orc o0
  have x1:Ext G0 (G0.room 12):=(Ext.refl _).room 12
  have w1:=w0.extT x1 tb
  have hb1:=hb0.extO x1 tb
  have o1:(G0.room 12).obj b = some (baB w a' 0 (.pointer none) k v x.flag (-1) 0 false 0):=by simpa using o0
  generalize grown own G0 tb = own1 at *
  obtain ⟨own2,G2,e2,w2⟩:=w1.pm.store orc (IntKind.wrap .i64 (w.flags + x.flag)) 1
  generalize s.store (IntKind.wrap .i64 (w.flags + x.flag)) 1 = s' at *
  have w2':=w1.tr w2.any
  have hb2:=hb1.to w2.nx w2.stp.agr
  have o2:=(hb1.keep h1 w2).trans o1
  have e3:=bends_ok orc (G:=G2.put b (baB w a' 0 (.pointer none) k v x.flag x.flag 0 false 0)) (b:=b) (w:=w) (a:=a') (l:=0) (lk:=.pointer none) (k:=k) (v:=v) (wr:=x.flag) (fl:=x.flag) (by_:=0) (dn:=false) (er:=0) (er':=0) (by simp) rfl (by rw [hve]; rfl)
  refine ⟨own2,((G2.put b (baB w a' 0 (.pointer none) k v x.flag x.flag 0 false 0)).put b (baB w a' 0 (.pointer none) k v x.flag x.flag 0 true 0)).put b (baB w a' 0 (.pointer none) k v x.flag x.flag 0 true 0),f26 (exL_ok Q orc) _ _ G _ ?_,(((w2'.putT hb2.tag h1 _).putT hb2.tag h1 _).putT hb2.tag h1 _).mono (fun _ _ k=>.inl k),((hb2.putO _ _).putO _ _).putO _ _,.inr (.inr (.inr ⟨rfl,a',0,w,.pointer none,k,v,x.flag,x.flag,rfl,by rw [hve]; rfl,by simp [ke],rfl⟩))⟩
  subst hve
  simp [s26,sb26,ho,← hG0,o0,en,o1,e2,o2,e3]
 ·have hst:x.step t w c s = ({ x with by_:=0 },s):=by unfold BaS.step; rw [if_neg (by omega),if_neg (by omega),if_neg (by omega)]
  rw [hst]
  refine ⟨own,G,f26 (exL_ok Q orc) _ _ G _ ?_,.refl h,hb,.inr (.inr (.inr ⟨e,a',l,w',lk,k,v,g,wr,ho1,ho2,ho,hwr⟩))⟩
  simp [s26,sb26,ho,e]
end
abbrev raB (w:RunW) (look:Value) (ln key:Int) (lv:Value) (flag by_ er:Int):GObj:=⟨[.int .i64 w.runs,.int .i64 w.flags,.int .i64 w.cores,look,.int .i64 ln,.int .u64 key,lv,.int .i64 flag,.int .u64 by_,.int .i64 er],1,false,1⟩
section
variable {own own' own0 own1 own2:Nat → Nat} {tb tag tg m r b lb q:Nat} {t:TW} {w:RunW} {c:Int} {G G' G1 G2:GS} {s s' s1:MS} {x:BaS} {v:Value} {L:List Int}
def BaR (own:Nat → Nat) (tb tag tg:Nat) (t:TW) (w:RunW) (c:Int) (G:GS) (b:Nat) (x:BaS):Prop :=
 At own tb G b ∧
 ((x.line ≠ 9 ∧ ∃ lk v,G.obj b = some (raB w lk x.line x.key v x.flag x.by_ 0) ∧ one lk = true ∧ OwW own tb G v x.words ∧ ¬ InB v b ∧ (x.line = 0 → ∃ lb,lk = P0 lb ∧ x.key = 0 ∧ LkR own tag tg t c G lb x.look)) ∨
  (x.line = 9 ∧ ∃ w' lk k v by_,one lk = true ∧ one v = true ∧ G.obj b = some (raB w' lk 9 k v x.flag by_ x.err) ∧ by_ = 0))
theorem BaR.to (h:BaR own tb tag tg t w c G b x) (hn:G.nx ≤ G'.nx) (hk:∀ g,g < G.nx → own g = tb ∨ own g = tag ∨ own g = tg → G'.obj g = G.obj g) (a:Agr own own' G):BaR own' tb tag tg t w c G' b x:=by
 obtain ⟨hb,h⟩:=h
 have kb:=hk b hb.lt (.inl hb.tag)
 refine ⟨hb.to hn a,?_⟩
 rcases h with ⟨e,lk,v,h1,h2,h3,h4,h5⟩ | ⟨e,w',lk,k,v,by_,h1,h2,h3,h4⟩
 ·refine .inl ⟨e,lk,v,kb.trans h1,h2,h3.to hn (fun g hg=>hk g (h3.lt hg) (.inl (h3.tag g hg))) a,h4,fun k=>?_⟩
  obtain ⟨lb,k1,k2,k3⟩:=h5 k
  exact ⟨lb,k1,k2,k3.to hn (fun g hg e=>hk g hg (.inr e)) a⟩
 ·exact .inr ⟨e,w',lk,k,v,by_,h1,h2,kb.trans h3,h4⟩
theorem BaR.ob (h:BaR own tb tag tg t w c G b x):∃ w' lk k v by_ er,G.obj b = some (raB w' lk x.line k v x.flag by_ er) ∧ (x.line = 9 → er = x.err ∧ by_ = 0) ∧ (x.line ≠ 9 → by_ = x.by_):=by
 obtain ⟨hb,h⟩:=h
 rcases h with ⟨e,lk,v,h1,-⟩ | ⟨e,w',lk,k,v,by_,-,-,h3,h4⟩
 ·exact ⟨_,_,_,_,_,_,h1,fun k=>absurd k e,fun _=>rfl⟩
 ·exact ⟨_,_,_,_,_,_,by rw [e]; exact h3,fun _=>⟨rfl,h4⟩,fun k=>absurd e k⟩
theorem rbErr_ok (h:BaR own tb tag tg t w c G b x):(E orc).cl 37 [P0 b] G = some (.int .i64 (if x.line = 9 then x.err else 14),G):=by
 obtain ⟨w',lk,k,v,by_,er,ho,h9,-⟩:=h.ob
 refine f37 (exL_ok Q orc) _ G _ ?_
 by_cases e:x.line = 9
 ·simp [s37,ho,e,(h9 e).1]
 ·simp [s37,ho,e]
theorem rbFlagged_ok (h:BaR own tb tag tg t w c G b x):(E orc).cl 38 [P0 b] G = some (.int .i64 (if x.line = 9 then x.flag else -1),G):=by
 obtain ⟨w',lk,k,v,by_,er,ho,h9,-⟩:=h.ob
 refine f38 (exL_ok Q orc) _ G _ ?_
 by_cases e:x.line = 9
 ·simp [s38,ho,e]
 ·simp [s38,ho,e]
theorem rbBy_ok (hx:x.kp) (h:BaR own tb tag tg t w c G b x):(E orc).cl 40 [P0 b] G = some (.int .u64 x.by_,G):=by
 obtain ⟨w',lk,k,v,by_,er,ho,h9,hn⟩:=h.ob
 refine f40 (exL_ok Q orc) _ G _ ?_
 by_cases e:x.line = 9
 ·simp [s40,ho,(h9 e).2,hx.by9 e]
 ·simp [s40,ho,hn e]
theorem rbseen_ok {y:LkS} {k by_ er:Int} {lv:Value} (hs:t.sound) (hlv:one lv = true) (hb:b < G.nx) (ho:G.obj b = some (raB w (P0 lb) 0 k lv (-1) by_ 0)) (hL:LkR own tag tg t c G lb y) (h9:y.line = 9) :
  ∃ G0 G1,(E orc).cl 89 [P0 b] G = some (.tuple #[],G1) ∧ Ext G G0 ∧ (∀ g,g < G0.nx → g ≠ b → G1.obj g = G0.obj g) ∧ ModP (fun g=>g = b) G0 G1 ∧ G1.obj b = some (raB w (P0 lb) (if y.peek.ie = 0 then 1 else 9) y.peek.ik lv (-1) by_ (if y.peek.ie = 0 ∨ y.peek.ie = 15 then 0 else y.peek.ie)):=by
 obtain ⟨G2,e2,x2⟩:=rlItem_ok orc hL h9
 have hz:z120 = [.int .u64 0,.int .i64 0]:=rfl
 obtain ⟨G3,hG3⟩:∃ G3,G3 = (G2.push ⟨z120,1,false,1⟩).put G2.nx ⟨[.int .u64 y.peek.ik,.int .i64 y.peek.ij],1,false,1⟩:=⟨_,rfl⟩
 have x3:Ext G2 G3:=by rw [hG3]; exact extPP _ _
 have p3:G3.obj G2.nx = some ⟨[.int .u64 y.peek.ik,.int .i64 y.peek.ij],1,false,1⟩:=by rw [hG3]; simp
 have y3:=x2.trans x3
 have o2:=(x2.obj b hb).trans ho
 have o3:=(y3.obj b hb).trans ho
 have n3:=y3.nx
 have hbn:¬ b = G2.nx:=by have:=x2.nx; omega
 rw [hz] at hG3
 unfold itemV at e2
 by_cases c0:y.peek.ie = 0
 ·refine ⟨G3,(G3.put b (raB w (P0 lb) 0 y.peek.ik lv (-1) by_ 0)).put b (raB w (P0 lb) 1 y.peek.ik lv (-1) by_ 0),f89 (exL_ok Q orc) _ G _ ?_,y3,fun g _ hg=>by rw [obj_put,if_neg hg,obj_put,if_neg hg],((ModP.refl (fun g=>g = b) _).put (.inl rfl) _).put (.inl rfl) _,by simp [c0]⟩
  simp [s89,sb89,ho,e2,hz,splice_put,splice_end,← hG3,p3,o3,c0]
  simp [j89_0,jb89_0,clip_t]
 ·by_cases c15:y.peek.ie = 15
  ·refine ⟨G3,((G3.put b (raB w (P0 lb) 0 y.peek.ik lv (-1) by_ 0)).put b (raB w (P0 lb) 1 y.peek.ik lv (-1) by_ 0)).put b (raB w (P0 lb) 9 y.peek.ik lv (-1) by_ 0),f89 (exL_ok Q orc) _ G _ ?_,y3,fun g _ hg=>by rw [obj_put,if_neg hg,obj_put,if_neg hg,obj_put,if_neg hg],(((ModP.refl (fun g=>g = b) _).put (.inl rfl) _).put (.inl rfl) _).put (.inl rfl) _,by simp [c15]⟩
   simp [s89,sb89,ho,e2,hz,splice_put,splice_end,← hG3,p3,o3,c15]
   simp [j89_0,jb89_0,clip_t]
  ·refine ⟨G3,(((G3.put b (raB w (P0 lb) 0 y.peek.ik lv (-1) by_ 0)).put b (raB w (P0 lb) 1 y.peek.ik lv (-1) by_ 0)).put b (raB w (P0 lb) 9 y.peek.ik lv (-1) by_ 0)).put b (raB w (P0 lb) 9 y.peek.ik lv (-1) by_ y.peek.ie),f89 (exL_ok Q orc) _ G _ ?_,y3,fun g _ hg=>by rw [obj_put,if_neg hg,obj_put,if_neg hg,obj_put,if_neg hg,obj_put,if_neg hg],((((ModP.refl (fun g=>g = b) _).put (.inl rfl) _).put (.inl rfl) _).put (.inl rfl) _).put (.inl rfl) _,by simp [c0,c15]⟩
   simp [s89,sb89,ho,e2,hz,splice_put,splice_end,← hG3,p3,o3,c0]
   simp [j89_0,jb89_0,clip_t,c0,c15]
end
section
variable {own own' own0 own1 own2:Nat → Nat} {tb tag tg m r b lb q:Nat} {t:TW} {w:RunW} {c:Int} {G G' G1 G2:GS} {s s' s1:MS} {x:BaS} {v:Value} {L:List Int}
theorem rbstep_ok (hs:t.sound) (hlo:t.lok) (hc:0 ≤ c ∧ c < t.u11) (hw:w.good) (h:RM own G r s) (hm:s.ok) (hx:x.ok t w) (hk:x.kp)
  (h1:tb ≠ 11) (h2:tag ≠ 11) (h3:tg ≠ 11) (d1:tb ≠ tag) (d2:tb ≠ tg) (d3:tag ≠ tg) (hp:BaR own tb tag tg t w c G b x) :
  ∃ own1 G1,(E orc).cl 36 [P0 b,P0 r] G = some (.bool (decide ((x.step t w c s).1.line = 9)),G1) ∧ RW (Ow3 own tb tag tg) own G own1 G1 r (x.step t w c s).2 ∧ BaR own1 tb tag tg t w c G1 b (x.step t w c s).1:=by
 obtain ⟨hb,hp⟩:=hp
 rcases hp with ⟨en,lk,v,ho,hlk,hv,hvb,h0⟩ | ⟨e,w',lk,k,v,by_,hlk,hov,ho,hby⟩
 ·rcases hx.line with e | e | e | e
  ·obtain ⟨lb,rfl,hkey,hL⟩:=h0 e
   obtain ⟨k1,k2,k3⟩:=hk.l0 e
   rw [e,hkey,k2] at ho
   obtain ⟨va,vc,hve⟩:=hv.ow.is.len
   have hov:one v = true:=by rw [hve]; rfl
   obtain ⟨G0,hG0⟩:∃ G0,G0 = G.put b (raB w (P0 lb) 0 0 v (-1) 0 0):=⟨_,rfl⟩
   have w0:RW (Ow3 own tb tag tg) own G own G0 r s:=by rw [hG0]; exact (RW.refl h).put (.inl (.inl hb.tag)) (fun _=>by rw [hb.tag]; exact h1) _
   have o0:G0.obj b = some (raB w (P0 lb) 0 0 v (-1) 0 0):=by rw [hG0]; simp
   have hb0:At own tb G0 b:=by rw [hG0]; exact hb.putO _ _
   have hv0:OwW own tb G0 v x.words:=by rw [hG0]; exact hv.putO hvb _
   have hL0:LkR own tag tg t c G0 lb x.look:=hL.to (by rw [hG0]; exact Nat.le_refl _) (fun g _ k=>by rw [hG0,obj_put,if_neg]; rintro rfl; rcases k with k | k; exact d1 (hb.tag.symm.trans k); exact d2 (hb.tag.symm.trans k)) (Agr.refl _ _)
   obtain ⟨own1,G1,e1,w1,l1⟩:=rlstep_ok orc hs hlo hc w0.rm hm hx.look h2 h3 d3 hL0
   have hend:(x.look.step t c s).1.line = 9 → (x.look.step t c s).1.by_ = 0:=fun k=>(LkS.ends k1 k).2
   have hst:x.step t w c s = x.l0 t c s:=by unfold BaS.step; rw [if_pos e]
   rw [hst]
   unfold BaS.l0
   simp only
   generalize (x.look.step t c s).2 = s' at *
   generalize (x.look.step t c s).1 = y at *
   have o1:=(w1.keep2 hb0.lt (by rw [hb.tag]; exact h1) (by rw [hb.tag]; exact d1) (by rw [hb.tag]; exact d2)).trans o0
   have hb1:=hb0.to w1.nx w1.stp.agr
   have hv1:OwW own1 tb G1 v x.words:=hv0.to w1.nx (fun g hg=>w1.keep2 (hv0.lt hg) (by rw [hv0.tag g hg]; exact h1) (by rw [hv0.tag g hg]; exact d1) (by rw [hv0.tag g hg]; exact d2)) w1.stp.agr
   have w01:RW (Ow3 own tb tag tg) own G own1 G1 r s':=w0.trans w1 fun _ _ k=>.inr k
   have e2:=rlBy_ok orc l1
   obtain ⟨G2,hG2⟩:∃ G2,G2 = G1.put b (raB w (P0 lb) 0 0 v (-1) y.by_ 0):=⟨_,rfl⟩
   have w2:RW (Ow3 own tb tag tg) own G own1 G2 r s':=by rw [hG2]; exact w01.put (.inl (.inl hb.tag)) (fun _=>by rw [hb1.tag]; exact h1) _
   have o2:G2.obj b = some (raB w (P0 lb) 0 0 v (-1) y.by_ 0):=by rw [hG2]; simp
   have hb2:At own1 tb G2 b:=by rw [hG2]; exact hb1.putO _ _
   have hv2:OwW own1 tb G2 v x.words:=by rw [hG2]; exact hv1.putO hvb _
   have l2:LkR own1 tag tg t c G2 lb y:=l1.to (by rw [hG2]; exact Nat.le_refl _) (fun g _ k=>by rw [hG2,obj_put,if_neg]; rintro rfl; rcases k with k | k; exact d1 (hb1.tag.symm.trans k); exact d2 (hb1.tag.symm.trans k)) (Agr.refl _ _)
   by_cases hl:y.line = 9
   ·simp only [hl,decide_true,if_true] at e1 ⊢
    have hby:=hend hl
    obtain ⟨G3,G4,e4,x3,kp4,md4,o4⟩:=rbseen_ok (er:=0) orc hs hov hb2.lt o2 l2 hl
    have w3:=w2.extT x3 tb
    have hb3:=hb2.extO x3 tb
    have hv3:OwW (grown own1 G2 tb) tb G3 v x.words:=hv2.to x3.nx (fun g hg=>x3.obj g (hv2.lt hg)) grown_agr
    generalize grown own1 G2 tb = own3 at *
    have w4:RW (Ow3 own tb tag tg) own G own3 G4 r s':=by
     refine w3.trans (B':=Own own3 tb) ⟨⟨Agr.refl _ _,md4.mono fun g hg=>.inr (by rw [hg]; exact hb3.tag)⟩,w3.rm.to (t:=tb) (B:=Own own3 tb) ⟨Agr.refl _ _,md4.mono fun g hg=>.inl (by rw [hg]; exact hb3.tag)⟩ h1 fun _ _ k=>by rw [show own3 _ = tb from k]; exact h1⟩ ?_
     intro g hg k
     exact .inl ((w3.stp.same hg).symm.trans k)
    have hb4:At own3 tb G4 b:=hb3.to md4.nx (Agr.refl _ _)
    have hv4:OwW own3 tb G4 v x.words:=hv3.to md4.nx (fun g hg=>md4.obj g (hv3.lt hg) fun k=>hvb (by rw [← show g = b from k]; exact hg)) (Agr.refl _ _)
    unfold BaS.seen
    simp only
    by_cases c0:y.peek.ie = 0
    ·rw [if_pos c0,if_pos (.inl c0)] at o4
     rw [if_pos c0,if_pos (.inl c0)]
     refine ⟨own3,G4,f36 (exL_ok Q orc) _ _ G _ ?_,w4,hb4,.inl ⟨by simp,P0 lb,v,by simp only [k2]; exact o4,rfl,hv4,hvb,fun k=>absurd k (by simp)⟩⟩
     simp [s36,sb36,clip_t,ho,← hG0,o0,e1,o1,e2,← hG2,e4]
     simp [j36_0,jb36_0,clip_t,o4]
    ·rw [if_neg c0] at o4
     rw [if_neg c0]
     refine ⟨own3,G4,f36 (exL_ok Q orc) _ _ G _ ?_,w4,hb4,.inr ⟨rfl,w,P0 lb,y.peek.ik,v,0,rfl,hov,by simp only [k2]; rw [hby] at o4; exact o4,rfl⟩⟩
     simp [s36,sb36,clip_t,ho,← hG0,o0,e1,o1,e2,← hG2,e4]
     simp [j36_0,jb36_0,clip_t,o4]
   ·simp only [hl,decide_false,if_false] at e1 ⊢
    refine ⟨own1,G2,f36 (exL_ok Q orc) _ _ G _ ?_,w2,hb2,.inl ⟨en,P0 lb,v,by simp only [e,k2,hkey]; exact o2,rfl,hv2,hvb,fun _=>⟨lb,rfl,hkey,l2⟩⟩⟩
    simp [s36,sb36,clip_t,ho,← hG0,o0,e1,o1,e2,← hG2]
    simp [j36_0,jb36_0,clip_t,o2,e]
  ·have hsh:=hx.short (.inr e)
   obtain ⟨g1,g2,g3,g4,g5,g6⟩:=hw
   have hfl:=hk.l1 e
   have her:=hk.e0 (by omega)
   rw [e,hfl] at ho
   obtain ⟨n,hn⟩:∃ n,n = x.words.length:=⟨_,rfl⟩
   have hst:x.step t w c s = x.l1 w s:=by unfold BaS.step; rw [if_neg (by omega),if_pos e]
   rw [hst]
   unfold BaS.l1
   rw [← hn]
   obtain ⟨va,vc,hve⟩:=hv.ow.is.len
   rw [← hn] at hve
   obtain ⟨G0,hG0⟩:∃ G0,G0 = G.put b (raB w lk 1 x.key v (-1) 0 0):=⟨_,rfl⟩
   have o0:G0.obj b = some (raB w lk 1 x.key v (-1) 0 0):=by rw [hG0]; simp
   have w0:RW (Own own tb) own G own G0 r s:=by rw [hG0]; exact (RW.refl h).putT hb.tag h1 _
   have hb0:At own tb G0 b:=by rw [hG0]; exact hb.putO _ _
   have v0:OwW own tb G0 v x.words:=by rw [hG0]; exact hv.putO hvb _
   have x1:Ext G0 (G0.room 23):=(Ext.refl _).room 23
   have w2:=w0.extT x1 tb
   have hb2:=hb0.extO x1 tb
   have v2:OwW (grown own G0 tb) tb (G0.room 23) v x.words:=v0.to x1.nx (fun g hg=>x1.obj g (v0.lt hg)) grown_agr
   have o2:=(x1.obj b hb0.lt).trans o0
   have tn:grown own G0 tb (G0.nx + 18) = tb:=grown_new (by omega)
   have ln2:G0.nx + 18 < (G0.room 23).nx:=by simp
   generalize grown own G0 tb = own2 at *
   obtain ⟨own3,G3,e3,w3⟩:=w2.rm.load orc (IntKind.wrap .i64 (w.runs + n))
   have hz:=(hm.load (IntKind.wrap .i64 (w.runs + n))).2
   generalize s.load (IntKind.wrap .i64 (w.runs + n)) = s' at *
   generalize s'.new = z at *
   have hb3:=hb2.to w3.nx w3.stp.agr
   have o3:=(hb2.rkeep h1 w3).trans o2
   have v3:OwW own3 tb G3 v x.words:=v2.to w3.nx (fun g hg=>w3.keep (v2.lt hg) (by rw [v2.tag g hg]; exact h1) id) w3.stp.agr
   have w3':=w2.tr w3.any
   have tn3:own3 (G0.nx + 18) = tb:=(w3.stp.same ln2).trans tn
   have nvn:¬ InB v (G0.nx + 18):=fun k=>by have:=v0.lt k; omega
   have nbn:b ≠ G0.nx + 18:=by have:=hb0.lt; omega
   obtain ⟨G4,hG4⟩:∃ G4,G4 = G3.put (G0.nx + 18) ⟨[.int .u64 z],1,false,1⟩:=⟨_,rfl⟩
   have w4:RW (Own own tb) own G own3 G4 r s':=by rw [hG4]; exact w3'.putT tn3 h1 _
   have hb4:At own3 tb G4 b:=by rw [hG4]; exact hb3.putO _ _
   have o4:G4.obj b = some (raB w lk 1 x.key v (-1) 0 0):=by rw [hG4,obj_put,if_neg nbn]; exact o3
   have v4:OwW own3 tb G4 v x.words:=by rw [hG4]; exact v3.putO nvn _
   have sz:SlR (rowsI .u64) G4 (.slice (some ⟨G0.nx + 18,0,none⟩) 1 1) [z]:=SlR.block (e:=rowsI .u64) (op:=false) (L:=[z]) (by rw [hG4]; simp [RowE.flat_one]) (by rw [hG4]; have:=w3.nx; simp at this ⊢; omega)
   obtain ⟨v5,G5,e5,md,ow5⟩:=v4.ow.app_mod (ib:=8) (by decide) sz (by simp) (by simp; omega)
   simp only [rowsI_sz] at e5
   have w5:=w4.modT (md.mono fun g hg=>v4.tag g hg) h1 tb
   have hb5:At (grown own3 G4 tb) tb G5 b:=hb4.to md.nx grown_agr
   have o5:G5.obj b = some (raB w lk 1 x.key v (-1) 0 0):=(md.obj b hb4.lt hvb).trans o4
   have v5o:OwW (grown own3 G4 tb) tb G5 v5 (x.words ++ [z]):=⟨ow5.mono (Nat.zero_le _),fun g hg=>grown_new (ow5.from hg)⟩
   have nv5:¬ InB v5 b:=fun k=>by have:=ow5.from k; have:=hb4.lt; omega
   generalize grown own3 G4 tb = own5 at *
   obtain ⟨a5,c5,hv5⟩:=ow5.is.len
   have hlen:(x.words ++ [z]).length = n + 1:=by simp [hn]
   rw [hlen] at hv5
   obtain ⟨G6,hG6⟩:∃ G6,G6 = (G5.put b (raB w lk 1 x.key v5 (-1) 0 0)).room 11:=⟨_,rfl⟩
   have w6':RW (Own own tb) own G own5 (G5.put b (raB w lk 1 x.key v5 (-1) 0 0)) r s':=w5.putT hb5.tag h1 _
   have hb6':At own5 tb (G5.put b (raB w lk 1 x.key v5 (-1) 0 0)) b:=hb5.putO _ _
   have v6':OwW own5 tb (G5.put b (raB w lk 1 x.key v5 (-1) 0 0)) v5 (x.words ++ [z]):=v5o.putO nv5 _
   have x6:Ext (G5.put b (raB w lk 1 x.key v5 (-1) 0 0)) G6:=by rw [hG6]; exact (Ext.refl _).room 11
   have w6:=w6'.extT x6 tb
   have hb6:=hb6'.extO x6 tb
   have v6:OwW (grown own5 (G5.put b (raB w lk 1 x.key v5 (-1) 0 0)) tb) tb G6 v5 (x.words ++ [z]):=v6'.to x6.nx (fun g hg=>x6.obj g (v6'.lt hg)) grown_agr
   have o6:G6.obj b = some (raB w lk 1 x.key v5 (-1) 0 0):=by rw [hG6]; simp
   generalize grown own5 (G5.put b (raB w lk 1 x.key v5 (-1) 0 0)) tb = own6 at *
   have hov5:one v5 = true:=by rw [hv5]; rfl
   by_cases hlast:((x.words ++ [z]).length:Int) = w.cores
   ·rw [if_pos hlast]
    have hd0:(n:Int) + 1 = w.cores:=by rw [hlen] at hlast; omega
    have x7:Ext G6 (G6.room 14):=(Ext.refl _).room 14
    obtain ⟨G7,e7,x7'⟩:=rworst_ok orc (key:=x.key) (v6.ow.is.ext x7) (by omega)
    have y7:=x7.trans x7'
    have w7:=w6.extT y7 tb
    have hb7:=hb6.extO y7 tb
    have o7:=(y7.obj b hb6.lt).trans o6
    have v7:OwW (grown own6 G6 tb) tb G7 v5 (x.words ++ [z]):=v6.to y7.nx (fun g hg=>y7.obj g (v6.lt hg)) grown_agr
    generalize grown own6 G6 tb = own7 at *
    have oroom:(G6.room 14).obj b = some (raB w lk 1 x.key v5 (-1) 0 0):=by simpa using o6
    rcases worstV_cases (x.words ++ [z]) x.key with ⟨c1,c2⟩ | ⟨i,c1,c2⟩
    ·rw [c2] at e7
     rw [c1]
     refine ⟨own7,G7.put b (raB w lk 9 x.key v5 (-1) 0 0),f36 (exL_ok Q orc) _ _ G _ ?_,(w7.putT hb7.tag h1 _).mono (fun _ _ k=>.inl k),hb7.putO _ _,.inr ⟨rfl,w,lk,x.key,v5,0,hlk,hov5,by simp [her,hfl],rfl⟩⟩
     subst hv5
     subst hve
     simp [s36,sb36,clip_t,ho,← hG0,o0,o2,e3,o3,drawn_put,← hG4,e5,o5,← hG6,o6,hd0,oroom,e7,o7,sameO,same,sameD]
     simp [j36_0,jb36_0,clip_t]
    ·rw [c2] at e7
     rw [c1]
     refine ⟨own7,((G7.put b (raB w lk 9 x.key v5 (-1) 0 0)).put b (raB w lk 2 x.key v5 (-1) 0 0)).put b (raB w lk 2 x.key v5 i 0 0),f36 (exL_ok Q orc) _ _ G _ ?_,(((w7.putT hb7.tag h1 _).putT hb7.tag h1 _).putT hb7.tag h1 _).mono (fun _ _ k=>.inl k),((hb7.putO _ _).putO _ _).putO _ _,.inl ⟨by simp,lk,v5,by simp,hlk,((v7.putO nv5 _).putO nv5 _).putO nv5 _,nv5,fun k=>absurd k (by simp)⟩⟩
     subst hv5
     subst hve
     simp [s36,sb36,clip_t,ho,← hG0,o0,o2,e3,o3,drawn_put,← hG4,e5,o5,← hG6,o6,hd0,oroom,e7,o7,sameO,same,sameD]
     simp [j36_0,jb36_0,clip_t]
   ·rw [if_neg hlast]
    have hd0:¬ (n:Int) + 1 = w.cores:=by rw [hlen] at hlast; omega
    refine ⟨own6,G6,f36 (exL_ok Q orc) _ _ G _ ?_,w6.mono (fun _ _ k=>.inl k),hb6,.inl ⟨en,lk,v5,by simp only [e,hfl]; exact o6,hlk,v6,nv5,fun k=>absurd k (by rw [e]; decide)⟩⟩
    subst hv5
    subst hve
    simp [s36,sb36,clip_t,ho,← hG0,o0,o2,e3,o3,drawn_put,← hG4,e5,o5,← hG6,o6,hd0,sameO,same,sameD]
    simp [j36_0,jb36_0,clip_t,o6,e]
  ·have hst:x.step t w c s = x.l2 w s:=by unfold BaS.step; rw [if_neg (by omega),if_neg (by omega),if_pos e]
   rw [hst]
   unfold BaS.l2
   have ke:=(hk.l2 e).2
   obtain ⟨va,vc,hve⟩:=hv.ow.is.len
   rw [e] at ho
   obtain ⟨G0,hG0⟩:∃ G0,G0 = G.put b (raB w lk 2 x.key v x.flag 0 0):=⟨_,rfl⟩
   have w0:RW (Own own tb) own G own G0 r s:=by rw [hG0]; exact (RW.refl h).putT hb.tag h1 _
   have o0:G0.obj b = some (raB w lk 2 x.key v x.flag 0 0):=by rw [hG0]; simp
   have hb0:At own tb G0 b:=by rw [hG0]; exact hb.putO _ _
   have x1:Ext G0 (G0.room 12):=(Ext.refl _).room 12
   have w1:=w0.extT x1 tb
   have hb1:=hb0.extO x1 tb
   have o1:(G0.room 12).obj b = some (raB w lk 2 x.key v x.flag 0 0):=by simpa using o0
   generalize grown own G0 tb = own1 at *
   obtain ⟨own2,G2,e2,w2⟩:=w1.rm.store orc (IntKind.wrap .i64 (w.flags + x.flag)) 1
   generalize s.store (IntKind.wrap .i64 (w.flags + x.flag)) 1 = s' at *
   have w2':=w1.tr w2.any
   have hb2:=hb1.to w2.nx w2.stp.agr
   have o2:=(hb1.rkeep h1 w2).trans o1
   refine ⟨own2,G2.put b (raB w lk 9 x.key v x.flag 0 0),f36 (exL_ok Q orc) _ _ G _ ?_,(w2'.putT hb2.tag h1 _).mono (fun _ _ k=>.inl k),hb2.putO _ _,.inr ⟨rfl,w,lk,x.key,v,0,hlk,by rw [hve]; rfl,by simp [ke],rfl⟩⟩
   simp [s36,sb36,clip_t,ho,← hG0,o0,o1,e2,o2]
   simp [j36_0,jb36_0,clip_t]
  ·exact absurd e en
 ·subst hby
  have hst:x.step t w c s = ({ x with by_:=0 },s):=by unfold BaS.step; rw [if_neg (by omega),if_neg (by omega),if_neg (by omega)]
  rw [hst]
  refine ⟨own,G.put b (raB w' lk 9 k v x.flag 0 x.err),f36 (exL_ok Q orc) _ _ G _ ?_,(RW.refl h).put (.inl (.inl hb.tag)) (fun _=>by rw [hb.tag]; exact h1) _,hb.putO _ _,.inr ⟨e,w',lk,k,v,0,hlk,hov,by simp,rfl⟩⟩
  simp [s36,sb36,clip_t,ho]
  simp [j36_0,jb36_0,clip_t,e]
end
end Go.Proofs.YtedmgpchggogpaaGreat.Lift
