import Derived.Test.YtlaojmcekeohnaaGreatDoorYA
set_option linter.unusedVariables false
set_option linter.unusedSimpArgs false
set_option maxRecDepth 20000
namespace Go.Proofs.YtlaojmcekeohnaaGreatDoor.Lift
open Go Go.Proofs.YtlaojmcekeohnaaGreatDoor.Gh Go.Proofs
structure Ar where
 top:Int
 links:Int
 size:Int
 gens:Int
 worn:Int
 limit:Int
abbrev Ar.R (A:Ar):Sk:=⟨A.top,A.links,A.size⟩
abbrev Ar.cells (A:Ar):List Value:=[.int .i64 A.top,.int .i64 A.links,.int .i64 A.size,.int .i64 A.gens,.int .i64 A.worn,.int .i64 A.limit]
abbrev Ar.v (A:Ar):Value:=.agg ⟨A.cells⟩
def Ar.ok (A:Ar):Prop:=A.R.ok ∧ 0 ≤ A.gens ∧ A.gens + A.size ≤ 4096 ∧ 0 ≤ A.worn ∧ A.worn < 4096 ∧ 1 ≤ A.limit ∧ A.limit ≤ 4294967295
abbrev aL (A:Ar) (c:Nat) (next:Value) (i g e:Int):List Value:=[P0 c,.int .i64 A.top,.int .i64 A.links,.int .i64 A.size,.int .i64 A.gens,.int .i64 A.worn,.int .i64 A.limit,.bool true,next,.int .i64 i,.int .u64 g,.int .i64 e]
inductive AlS where
 | pop (p:PopS)
 | gives (i:Int)
 | lacks
 | done (g e:Int)
def AlS.over:AlS → Bool
 | .done ..=>true
 | _=>false
def AlS.ok (A:Ar):AlS → Prop
 | .pop p=>p.ok A.R ∧ p.over = false
 | .gives i=>0 ≤ i ∧ i < A.size
 | _=>True
def AlS.step (A:Ar):AlS → MS → AlS × MS
 | .pop p,s =>
  match p.step A.R s with
  | (.done i,s')=>(if i < 0 then .lacks else .gives i,s')
  | (p',s')=>(.pop p',s')
 | .gives i,s=>(.done (wordT i ((s.load (A.gens + i)).new % 4294967296)) 0,s.load (A.gens + i))
 | .lacks,s=>(.done 0 (if A.size ≤ (s.load A.worn).new then 12 else 7),s.load A.worn)
 | .done g e,s=>(.done g e,s)
theorem AlS.ok.step {A:Ar} {p:AlS} {s:MS} (hA:A.ok) (hp:p.ok A) (hs:s.ok):(p.step A s).1.ok A ∧ (p.step A s).2.ok:=by
 cases p with
 | done g e=>exact ⟨trivial,hs⟩
 | lacks=>exact ⟨trivial,(hs.load _).1⟩
 | gives i=>exact ⟨trivial,(hs.load _).1⟩
 | pop p =>
  have h:=PopS.ok.step hA.1 hp.1 hs
  simp only [AlS.step]
  cases hq:p.step A.R s with
  | mk q s' =>
   rw [hq] at h
   cases q with
   | done i =>
    refine ⟨?_,h.2⟩
    simp only
    split
    ·trivial
    ·exact ⟨by omega,h.1.2⟩
   | go n w i j=>exact ⟨⟨h.1,rfl⟩,h.2⟩
def AlR (A:Ar) (G:GS) (b c:Nat):AlS → Prop
 | .pop p=>PopR A.R G c p ∧ G.obj b = some ⟨aL A c (.func (.func 214) #[] #[]) 0 0 0,1,false,1⟩
 | .gives i=>G.obj b = some ⟨aL A c (.func (.func 249) #[] #[]) i 0 0,1,false,1⟩
 | .lacks=>∃ i,G.obj b = some ⟨aL A c (.func (.func 250) #[] #[]) i 0 0,1,false,1⟩
 | .done g e=>∃ i,G.obj b = some ⟨aL A c .nilFunc i g e,1,false,1⟩
theorem AlR.kept {A:Ar} {G G':GS} {b c:Nat} {p:AlS} (h:AlR A G b c p) (hk:G'.obj b = G.obj b) (hc:G'.obj c = G.obj c):AlR A G' b c p:=by
 cases p with
 | pop p=>exact ⟨h.1.kept hc,hk.trans h.2⟩
 | gives i=>exact hk.trans h
 | lacks=>obtain ⟨i,h⟩:=h; exact ⟨i,hk.trans h⟩
 | done g e=>obtain ⟨i,h⟩:=h; exact ⟨i,hk.trans h⟩
section
variable {m r b c:Nat} {own own1:Nat → Nat} {G G1:GS} {s s':MS} {A:Ar}
theorem alloc_ok (orc:FuncId → Bool) (ht:orc 270 = false) (hrf:orc 218 = false) {p:AlS} (h:PM own G m s) (hs:s.ok) (hA:A.ok) (hb:b < G.nx) (hc:c < G.nx) (tb:own b ≠ 10) (tc:own c ≠ 10) (hbc:b ≠ c) (hp:p.ok A) (hr:AlR A G b c p) :
  ∃ own1 G1,(E orc).cl 164 [P0 b,P0 m] G = some (.bool (p.step A s).1.over,G1) ∧ PW (fun x=>x = b ∨ x = c) own G own1 G1 m (p.step A s).2 ∧ AlR A G1 b c (p.step A s).1:=by
 obtain ⟨hR,g1,g2,g3,g4,g5,g6⟩:=hA
 have hz2:=hR.2.1
 simp only at hz2
 cases p with
 | done g e =>
  obtain ⟨i,ho⟩:=hr
  refine ⟨own,G,f164 (exL_ok Q orc) _ _ G _ ?_,PW.refl h,i,ho⟩
  simp [s164,ho,AlS.step,AlS.over]
 | lacks =>
  obtain ⟨i,ho⟩:=hr
  obtain ⟨G1,hG1⟩:∃ G1,G1 = (G.put b ⟨aL A c (.func (.func 250) #[] #[]) i 0 7,1,false,1⟩).room 15:=⟨_,rfl⟩
  have w1:=((PW.refl (B:=fun x=>x = b ∨ x = c) h).putB (.inl rfl) hb tb ⟨aL A c (.func (.func 250) #[] #[]) i 0 7,1,false,1⟩).ext ((Ext.refl _).room 15)
  rw [← hG1] at w1
  have o1:G1.obj b = some ⟨aL A c (.func (.func 250) #[] #[]) i 0 7,1,false,1⟩:=by rw [hG1]; simp
  obtain ⟨own2,G2,e2,w2⟩:=w1.pm.load orc A.worn
  have o2:=(w2.keep (Nat.lt_of_lt_of_le hb w1.nx) (by rw [w1.stp.same hb]; exact tb) id).trans o1
  have w12:=w1.trans w2 fun _ _ h=>h.elim
  have hsz:IntKind.wrap .u64 A.size = A.size:=by have:=hR.1; simp only at this; rw [wrap_u64]; omega
  simp only [AlS.step]
  generalize s.load A.worn = s' at *
  by_cases hc:A.size ≤ s'.new
  ·rw [if_pos hc]
   have w3:=(w12.putB (b:=b) (.inl rfl) hb tb ⟨aL A c (.func (.func 250) #[] #[]) i 0 12,1,false,1⟩).putB (b:=b) (.inl rfl) hb tb ⟨aL A c .nilFunc i 0 12,1,false,1⟩
   refine ⟨own2,_,f164 (exL_ok Q orc) _ _ G _ ?_,w3,i,by simp⟩
   have e4:(E orc).cl 250 [P0 b,P0 m] G = some (.tuple #[],(G2.put b ⟨aL A c (.func (.func 250) #[] #[]) i 0 12,1,false,1⟩).put b ⟨aL A c .nilFunc i 0 12,1,false,1⟩):=by
    refine f250 (exL_ok Q orc) _ _ G _ ?_
    simp [jb250_0,j250_0,sb250,s250,clip_t,ho,← hG1,o1,e2,o2,hsz,hc]
   simp [s164,ho,e4,AlS.over]
  ·rw [if_neg hc]
   have w3:=w12.putB (b:=b) (.inl rfl) hb tb ⟨aL A c .nilFunc i 0 7,1,false,1⟩
   refine ⟨own2,_,f164 (exL_ok Q orc) _ _ G _ ?_,w3,i,by simp⟩
   have e4:(E orc).cl 250 [P0 b,P0 m] G = some (.tuple #[],G2.put b ⟨aL A c .nilFunc i 0 7,1,false,1⟩):=by
    refine f250 (exL_ok Q orc) _ _ G _ ?_
    simp [jb250_0,j250_0,sb250,s250,clip_t,ho,← hG1,o1,e2,o2,hsz,hc]
   simp [s164,ho,e4,AlS.over]
 | gives i =>
  have ho:G.obj b = _:=hr
  obtain ⟨hi0,hi1⟩:=hp
  have ha:IntKind.wrap .i64 (A.gens + i) = A.gens + i:=wrap64 (by omega) (by omega)
  obtain ⟨k,x0⟩:∃ k,Ext G (G.room k):=⟨0,(Ext.refl G).room 0⟩
  clear x0 k
  have w1:=(PW.refl (B:=fun x=>x = b ∨ x = c) h)
  simp only [AlS.step]
  have key:∀ k,∃ own2 G2,(E orc).cl 59 [P0 m,.int .i64 (A.gens + i)] (G.room k) = some (.int .u64 (s.load (A.gens + i)).new,G2) ∧ PW no own G own2 G2 m (s.load (A.gens + i)):=fun k=>by
   have w0:=(PW.refl (B:=no) h).ext ((Ext.refl G).room k)
   obtain ⟨own2,G2,e2,w2⟩:=w0.pm.load orc (A.gens + i)
   exact ⟨own2,G2,e2,w0.trans w2 fun _ _ h=>h⟩
  have hw:=(hs.load (A.gens + i)).2
  generalize s.load (A.gens + i) = s' at *
  have fin:∀ {own2:Nat → Nat} {G2:GS},PW no own G own2 G2 m s' → ∃ own3 G3,(∃ G2',(E orc).cl 211 [.int .u64 s'.new] G2 = some (.int .i64 (s'.new % 4294967296),G2) ∧ (E orc).cl 221 [.agg ⟨[.int .i64 i,.int .i64 (s'.new % 4294967296),.bool false]⟩] G2 = some (.tuple #[.int .u64 (wordT i (s'.new % 4294967296)),.int .i64 0],G3) ∧ G2' = G2) ∧ PW no own G own3 G3 m s':=fun {own2 G2} w2=>by
   obtain ⟨G3,e3,x3⟩:=putref_ok orc hrf (i:=i) (g:=s'.new % 4294967296) (by omega) (by omega) G2
   exact ⟨_,G3,⟨G2,gen_ok orc hw G2,e3,rfl⟩,w2.ext x3⟩
  obtain ⟨own2,G2,e2,w2⟩:=key 26
  obtain ⟨own3,G3,⟨_,e3,e4,-⟩,w3⟩:=fin w2
  have o2:=(w2.keep hb tb id).trans ho
  have o3:=(w3.keep hb tb id).trans ho
  have w4:=((w3.mono (B':=fun x=>x = b ∨ x = c) fun _ _ h=>h.elim).putB (b:=b) (.inl rfl) hb tb ⟨aL A c (.func (.func 249) #[] #[]) i (wordT i (s'.new % 4294967296)) 0,1,false,1⟩).putB (b:=b) (.inl rfl) hb tb ⟨aL A c .nilFunc i (wordT i (s'.new % 4294967296)) 0,1,false,1⟩
  refine ⟨own3,_,f164 (exL_ok Q orc) _ _ G _ ?_,w4,i,by simp⟩
  have e5:(E orc).cl 249 [P0 b,P0 m] G = some (.tuple #[],(G3.put b ⟨aL A c (.func (.func 249) #[] #[]) i (wordT i (s'.new % 4294967296)) 0,1,false,1⟩).put b ⟨aL A c .nilFunc i (wordT i (s'.new % 4294967296)) 0,1,false,1⟩):=by
   refine f249 (exL_ok Q orc) _ _ G _ ?_
   simp [s249,ho,ha,e2,o2,e3,e4,o3]
  simp [s164,ho,e5,AlS.over]
 | pop p =>
  obtain ⟨hr1,ho⟩:=hr
  obtain ⟨own1,G1,e1,w1,r1⟩:=pop_ok orc ht h hs hR hc tc hp.1 hr1
  have o1:=(w1.keep hb tb hbc).trans ho
  have w1':PW (fun x=>x = b ∨ x = c) own G own1 G1 m (p.step A.R s).2:=w1.mono fun _ _ h=>.inr h
  simp only [AlS.step]
  generalize hq:p.step A.R s = q at *
  obtain ⟨q,s'⟩:=q
  simp only at e1 w1' r1
  cases q with
  | go n w i j =>
   simp [PopS.over] at e1
   refine ⟨own1,G1,f164 (exL_ok Q orc) _ _ G _ ?_,w1',r1,by simpa using o1⟩
   have e5:(E orc).cl 214 [P0 b,P0 m] G = some (.tuple #[],G1):=by
    refine f214 (exL_ok Q orc) _ _ G _ ?_
    simp [s214,ho,e1]
   simp [s164,ho,e5,o1,AlS.over]
  | done i =>
   simp [PopS.over] at e1
   have e2:=popindex_ok orc r1
   by_cases hi:i < 0
   ·simp only [if_pos hi] at e2 ⊢
    have w4:=((w1'.putB (b:=b) (.inl rfl) hb tb ⟨aL A c (.func (.func 214) #[] #[]) 0 0 0,1,false,1⟩).putB (b:=b) (.inl rfl) hb tb ⟨aL A c (.func (.func 249) #[] #[]) 0 0 0,1,false,1⟩).putB (b:=b) (.inl rfl) hb tb ⟨aL A c (.func (.func 250) #[] #[]) 0 0 0,1,false,1⟩
    refine ⟨own1,_,f164 (exL_ok Q orc) _ _ G _ ?_,w4,0,by simp⟩
    have e5:(E orc).cl 214 [P0 b,P0 m] G = some (.tuple #[],((G1.put b ⟨aL A c (.func (.func 214) #[] #[]) 0 0 0,1,false,1⟩).put b ⟨aL A c (.func (.func 249) #[] #[]) 0 0 0,1,false,1⟩).put b ⟨aL A c (.func (.func 250) #[] #[]) 0 0 0,1,false,1⟩):=by
     refine f214 (exL_ok Q orc) _ _ G _ ?_
     simp [s214,ho,e1,o1,e2]
    simp [s164,ho,e5,AlS.over]
   ·simp only [if_neg hi] at e2 ⊢
    have w4:=(w1'.putB (b:=b) (.inl rfl) hb tb ⟨aL A c (.func (.func 214) #[] #[]) i 0 0,1,false,1⟩).putB (b:=b) (.inl rfl) hb tb ⟨aL A c (.func (.func 249) #[] #[]) i 0 0,1,false,1⟩
    refine ⟨own1,_,f164 (exL_ok Q orc) _ _ G _ ?_,w4,by simp [AlR]⟩
    have e5:(E orc).cl 214 [P0 b,P0 m] G = some (.tuple #[],(G1.put b ⟨aL A c (.func (.func 214) #[] #[]) i 0 0,1,false,1⟩).put b ⟨aL A c (.func (.func 249) #[] #[]) i 0 0,1,false,1⟩):=by
     refine f214 (exL_ok Q orc) _ _ G _ ?_
     simp [s214,ho,e1,o1,e2]
    simp [s164,ho,e5,AlS.over]
end
end Go.Proofs.YtlaojmcekeohnaaGreatDoor.Lift
set_option linter.unusedVariables false
set_option linter.unusedSimpArgs false
set_option maxRecDepth 20000
namespace Go.Proofs.YtlaojmcekeohnaaGreatDoor.Lift
open Go Go.Proofs.YtlaojmcekeohnaaGreatDoor.Gh Go.Proofs
inductive FeS where
 | looks (i:Int)
 | raises (i g:Int)
 | push (p:PusS)
 | wears
 | done (e:Int)
def FeS.over:FeS → Bool
 | .done _=>true
 | _=>false
def FeS.ok (A:Ar):FeS → Prop
 | .looks i=>0 ≤ i ∧ i < A.size
 | .raises i g=>0 ≤ i ∧ i < A.size ∧ U g
 | .push p=>p.ok A.R
 | _=>True
def FeS.step (A:Ar):FeS → MS → FeS × MS
 | .looks i,s=>(if A.limit ≤ (s.load (A.gens + i)).new % 4294967296 then .wears else .raises i (s.load (A.gens + i)).new,s.load (A.gens + i))
 | .raises i g,s=>(.push (.go 1 0 i),s.store (A.gens + i) (IntKind.wrap .u64 (g + 1)))
 | .push p,s=>(if (p.step A.R s).1.over = true then .done 0 else .push (p.step A.R s).1,(p.step A.R s).2)
 | .wears,s=>(.done 0,s.add A.worn 1)
 | .done e,s=>(.done e,s)
theorem FeS.ok.step {A:Ar} {p:FeS} {s:MS} (hA:A.ok) (hp:p.ok A) (hs:s.ok):(p.step A s).1.ok A ∧ (p.step A s).2.ok:=by
 cases p with
 | done e=>exact ⟨trivial,hs⟩
 | wears=>exact ⟨trivial,(hs.add _ _).1⟩
 | looks i =>
  refine ⟨?_,(hs.load _).1⟩
  simp only [FeS.step]
  split
  ·trivial
  ·exact ⟨hp.1,hp.2,(hs.load _).2⟩
 | raises i g=>exact ⟨⟨by decide,by decide,⟨by decide,by decide⟩,hp.1,hp.2.1⟩,hs.store _ (U_wrap _)⟩
 | push p =>
  have h:=PusS.ok.step hA.1 hp hs
  simp only [FeS.step]
  split
  ·exact ⟨trivial,h.2⟩
  ·exact ⟨h.1,h.2⟩
theorem newPus_in {R:Sk} {i:Int} (h:0 ≤ i ∧ i < R.size):newPus R i = .go 1 0 i:=by unfold newPus; rw [if_neg (by omega)]
def FeR (A:Ar) (G:GS) (b c:Nat):FeS → Prop
 | .looks i=>PusR A.R G c (.go 1 0 i) ∧ G.obj b = some ⟨aL A c (.func (.func 154) #[] #[]) i 0 0,1,false,1⟩
 | .raises i g=>PusR A.R G c (.go 1 0 i) ∧ G.obj b = some ⟨aL A c (.func (.func 210) #[] #[]) i g 0,1,false,1⟩
 | .push p=>PusR A.R G c p ∧ ∃ i g,G.obj b = some ⟨aL A c (.func (.func 244) #[] #[]) i g 0,1,false,1⟩
 | .wears=>∃ i g,G.obj b = some ⟨aL A c (.func (.func 212) #[] #[]) i g 0,1,false,1⟩
 | .done e=>∃ i g,G.obj b = some ⟨aL A c .nilFunc i g e,1,false,1⟩
theorem FeR.kept {A:Ar} {G G':GS} {b c:Nat} {p:FeS} (h:FeR A G b c p) (hk:G'.obj b = G.obj b) (hc:G'.obj c = G.obj c):FeR A G' b c p:=by
 cases p with
 | looks i=>exact ⟨h.1.kept hc,hk.trans h.2⟩
 | raises i g=>exact ⟨h.1.kept hc,hk.trans h.2⟩
 | push p=>obtain ⟨h1,i,g,h2⟩:=h; exact ⟨h1.kept hc,i,g,hk.trans h2⟩
 | wears=>obtain ⟨i,g,h⟩:=h; exact ⟨i,g,hk.trans h⟩
 | done e=>obtain ⟨i,g,h⟩:=h; exact ⟨i,g,hk.trans h⟩
section
variable {m r b c:Nat} {own own1:Nat → Nat} {G G1:GS} {s s':MS} {A:Ar}
theorem free_ok (orc:FuncId → Bool) (ht:orc 270 = false) {p:FeS} (h:PM own G m s) (hs:s.ok) (hA:A.ok) (hb:b < G.nx) (hc:c < G.nx) (tb:own b ≠ 10) (tc:own c ≠ 10) (hbc:b ≠ c) (hp:p.ok A) (hr:FeR A G b c p) :
  ∃ own1 G1,(E orc).cl 78 [P0 b,P0 m] G = some (.bool (p.step A s).1.over,G1) ∧ PW (fun x=>x = b ∨ x = c) own G own1 G1 m (p.step A s).2 ∧ FeR A G1 b c (p.step A s).1:=by
 obtain ⟨hR,g1,g2,g3,g4,g5,g6⟩:=hA
 have hz2:=hR.2.1
 simp only at hz2
 cases p with
 | done e =>
  obtain ⟨i,g,ho⟩:=hr
  refine ⟨own,G,f78 (exL_ok Q orc) _ _ G _ ?_,PW.refl h,i,g,ho⟩
  simp [s78,ho,FeS.step,FeS.over]
 | wears =>
  obtain ⟨i,g,ho⟩:=hr
  have key:∀ k,∃ own2 G2,(E orc).cl 245 [P0 m,.int .i64 A.worn,.int .u64 1] (G.room k) = some (.int .u64 (s.add A.worn 1).new,G2) ∧ PW no own G own2 G2 m (s.add A.worn 1):=fun k=>by
   have w0:=(PW.refl (B:=no) h).ext ((Ext.refl G).room k)
   obtain ⟨own2,G2,e2,w2⟩:=w0.pm.add orc A.worn 1
   exact ⟨own2,G2,e2,w0.trans w2 fun _ _ h=>h⟩
  have key0:=PM.add orc h A.worn 1
  simp only [FeS.step]
  generalize s.add A.worn 1 = s' at *
  obtain ⟨own2,G2,e2,w2⟩:=key0
  have o2:=(w2.keep hb tb id).trans ho
  have w3:=(w2.mono (B':=fun x=>x = b ∨ x = c) fun _ _ h=>h.elim).putB (b:=b) (.inl rfl) hb tb ⟨aL A c .nilFunc i g 0,1,false,1⟩
  refine ⟨own2,_,f78 (exL_ok Q orc) _ _ G _ ?_,w3,i,g,by simp⟩
  have e4:(E orc).cl 212 [P0 b,P0 m] G = some (.tuple #[],G2.put b ⟨aL A c .nilFunc i g 0,1,false,1⟩):=by
   refine f212 (exL_ok Q orc) _ _ G _ ?_
   simp [s212,ho,e2,o2]
  simp [s78,ho,e4,FeS.over]
 | looks i =>
  obtain ⟨hr1,ho⟩:=hr
  obtain ⟨hi0,hi1⟩:=hp
  have ha:IntKind.wrap .i64 (A.gens + i) = A.gens + i:=wrap64 (by omega) (by omega)
  have w0:=(PW.refl (B:=no) h).ext ((Ext.refl G).room 16)
  obtain ⟨own2,G2,e2,w2'⟩:=w0.pm.load orc (A.gens + i)
  have w2:=w0.trans w2' fun _ _ h=>h
  have hw:=(hs.load (A.gens + i)).2
  simp only [FeS.step]
  generalize s.load (A.gens + i) = s' at *
  have o2:=(w2.keep hb tb id).trans ho
  have e3:=fun G=>gen_ok orc hw G
  obtain ⟨G3,hG3⟩:∃ G3,G3 = ((G2.put b ⟨aL A c (.func (.func 154) #[] #[]) i s'.new 0,1,false,1⟩).put b ⟨aL A c (.func (.func 210) #[] #[]) i s'.new 0,1,false,1⟩).room 11:=⟨_,rfl⟩
  have w3:=(((w2.mono (B':=fun x=>x = b ∨ x = c) fun _ _ h=>h.elim).putB (b:=b) (.inl rfl) hb tb ⟨aL A c (.func (.func 154) #[] #[]) i s'.new 0,1,false,1⟩).putB (b:=b) (.inl rfl) hb tb ⟨aL A c (.func (.func 210) #[] #[]) i s'.new 0,1,false,1⟩).ext ((Ext.refl _).room 11)
  rw [← hG3] at w3
  have o3:G3.obj b = some ⟨aL A c (.func (.func 210) #[] #[]) i s'.new 0,1,false,1⟩:=by rw [hG3]; simp
  have r2:PusR A.R G3 c (.go 1 0 i):=hr1.kept (by rw [hG3]; simp [Ne.symm hbc]; exact w2.keep hc tc id)
  by_cases hcc:A.limit ≤ s'.new % 4294967296
  ·rw [if_pos hcc]
   have w4:=w3.putB (b:=b) (.inl rfl) hb tb ⟨aL A c (.func (.func 212) #[] #[]) i s'.new 0,1,false,1⟩
   refine ⟨_,_,f78 (exL_ok Q orc) _ _ G _ ?_,w4,i,s'.new,by simp⟩
   have e4:(E orc).cl 154 [P0 b,P0 m] G = some (.tuple #[],G3.put b ⟨aL A c (.func (.func 212) #[] #[]) i s'.new 0,1,false,1⟩):=by
    refine f154 (exL_ok Q orc) _ _ G _ ?_
    simp [s154,ho,ha,e2,o2,← hG3,e3,o3,hcc]
   simp [s78,ho,e4,FeS.over]
  ·rw [if_neg hcc]
   refine ⟨_,_,f78 (exL_ok Q orc) _ _ G _ ?_,w3,r2,by simpa using o3⟩
   have e4:(E orc).cl 154 [P0 b,P0 m] G = some (.tuple #[],G3):=by
    refine f154 (exL_ok Q orc) _ _ G _ ?_
    simp [s154,ho,ha,e2,o2,← hG3,e3,o3,hcc]
   simp [s78,ho,e4,FeS.over,o3]
 | raises i g =>
  obtain ⟨hr1,ho⟩:=hr
  obtain ⟨hi0,hi1,hug⟩:=hp
  have ha:IntKind.wrap .i64 (A.gens + i) = A.gens + i:=wrap64 (by omega) (by omega)
  have key:∀ k,∃ own2 G2,(E orc).cl 150 [P0 m,.int .i64 (A.gens + i),.int .u64 (IntKind.wrap .u64 (g + 1))] (G.room k) = some (.tuple #[],G2) ∧ PW no own G own2 G2 m (s.store (A.gens + i) (IntKind.wrap .u64 (g + 1))):=fun k=>by
   have w0:=(PW.refl (B:=no) h).ext ((Ext.refl G).room k)
   obtain ⟨own2,G2,e2,w2⟩:=w0.pm.store orc (A.gens + i) (IntKind.wrap .u64 (g + 1))
   exact ⟨own2,G2,e2,w0.trans w2 fun _ _ h=>h⟩
  simp only [FeS.step]
  generalize hu:IntKind.wrap .u64 (g + 1) = u at *
  generalize s.store (A.gens + i) u = s' at *
  obtain ⟨own2,G2,e2,w2⟩:=key 17
  have o2:=(w2.keep hb tb id).trans ho
  have w3:=(w2.mono (B':=fun x=>x = b ∨ x = c) fun _ _ h=>h.elim).putB (b:=b) (.inl rfl) hb tb ⟨aL A c (.func (.func 244) #[] #[]) i g 0,1,false,1⟩
  have r2:PusR A.R G2 c (.go 1 0 i):=hr1.kept (w2.keep hc tc id)
  refine ⟨own2,_,f78 (exL_ok Q orc) _ _ G _ ?_,w3,r2.kept (by simp [Ne.symm hbc]),i,g,by simp⟩
  have e4:(E orc).cl 210 [P0 b,P0 m] G = some (.tuple #[],G2.put b ⟨aL A c (.func (.func 244) #[] #[]) i g 0,1,false,1⟩):=by
   refine f210 (exL_ok Q orc) _ _ G _ ?_
   simp [s210,ho,ha,hu,e2,o2]
  simp [s78,ho,e4,FeS.over]
 | push p =>
  obtain ⟨hr1,i,g,ho⟩:=hr
  obtain ⟨own1,G1,e1,w1,r1⟩:=push_ok orc ht h hs hR hc tc hp hr1
  have o1:=(w1.keep hb tb hbc).trans ho
  have w1':PW (fun x=>x = b ∨ x = c) own G own1 G1 m (p.step A.R s).2:=w1.mono fun _ _ h=>.inr h
  simp only [FeS.step]
  generalize hq:p.step A.R s = q at *
  obtain ⟨q,s'⟩:=q
  simp only at e1 w1' r1
  cases hov:q.over with
  | false =>
   rw [hov] at e1
   refine ⟨own1,G1,f78 (exL_ok Q orc) _ _ G _ ?_,w1',r1,i,g,by simpa using o1⟩
   have e5:(E orc).cl 244 [P0 b,P0 m] G = some (.tuple #[],G1):=by
    refine f244 (exL_ok Q orc) _ _ G _ ?_
    simp [s244,ho,e1]
   simp [s78,ho,e5,o1,FeS.over,hov]
  | true =>
   rw [hov] at e1
   have w4:=w1'.putB (b:=b) (.inl rfl) hb tb ⟨aL A c .nilFunc i g 0,1,false,1⟩
   refine ⟨own1,_,f78 (exL_ok Q orc) _ _ G _ ?_,w4,i,g,by simp⟩
   have e5:(E orc).cl 244 [P0 b,P0 m] G = some (.tuple #[],G1.put b ⟨aL A c .nilFunc i g 0,1,false,1⟩):=by
    refine f244 (exL_ok Q orc) _ _ G _ ?_
    simp [s244,ho,e1,o1]
   simp [s78,ho,e5,FeS.over,hov]
theorem newalloc_ok (orc:FuncId → Bool) (A:Ar) (G:GS):∃ b c G',(E orc).cl 155 [A.v] G = some (P0 b,G') ∧ Ext G G' ∧ G.nx ≤ b ∧ b < G'.nx ∧ G.nx ≤ c ∧ c < G'.nx ∧ b ≠ c ∧ AlR A G' b c (.pop (.go 1 0 0 0)):=by
 have w:Wp (s155 true (exL Q orc) A.v G) fun q=>∃ b c,q.1 = P0 b ∧ Ext G q.2 ∧ G.nx ≤ b ∧ b < q.2.nx ∧ G.nx ≤ c ∧ c < q.2.nx ∧ b ≠ c ∧ AlR A q.2 b c (.pop (.go 1 0 0 0)):=by
  have x0:Ext G (G.push ⟨A.cells,1,false,1⟩):=(Ext.refl G).push _
  simp [s155]
  generalize hG0:GS.room _ _ = G0
  have x0:Ext G G0:=by rw [← hG0]; exact x0.room _
  have o0:G0.obj G.nx = some ⟨A.cells,1,false,1⟩:=by rw [← hG0]; simp
  have n0:G.nx < G0.nx:=by rw [← hG0]; simp; omega
  have n0':G.nx + 1 + 5 < G0.nx:=by rw [← hG0]; simp
  refine Wp.stepX (newpop_ok orc A.R _) fun c G1 ⟨x1,c1,c2,c3⟩=>?_
  have n1:=x1.nx
  have o1:=(x1.obj _ n0).trans o0
  simp [o1,o0]
  refine ⟨Ext.drawn (x0.trans x1) (by omega) (by omega) _,by omega,by omega,c,by omega,c2,by omega,c3.kept (by simp; omega),by simp [aL]⟩
 obtain ⟨⟨v,G'⟩,e1,b,c,rfl,h⟩:=w
 exact ⟨b,c,G',f155 (exL_ok Q orc) _ G _ e1,h⟩
def newFe (A:Ar) (i:Int):FeS:=if i < 0 ∨ A.size ≤ i then .done 3 else .looks i
theorem newfree_ok (orc:FuncId → Bool) (A:Ar) (i:Int) (G:GS):∃ b c G',(E orc).cl 76 [A.v,.int .i64 i] G = some (P0 b,G') ∧ Ext G G' ∧ G.nx ≤ b ∧ b < G'.nx ∧ G.nx ≤ c ∧ c < G'.nx ∧ b ≠ c ∧ FeR A G' b c (newFe A i):=by
 have w:Wp (s76 true (exL Q orc) A.v (.int .i64 i) G) fun q=>∃ b c,q.1 = P0 b ∧ Ext G q.2 ∧ G.nx ≤ b ∧ b < q.2.nx ∧ G.nx ≤ c ∧ c < q.2.nx ∧ b ≠ c ∧ FeR A q.2 b c (newFe A i):=by
  have x0:Ext G (G.push ⟨A.cells,1,false,1⟩):=(Ext.refl G).push _
  simp [s76]
  generalize hG0:GS.room _ 9 = G0
  have x0:Ext G G0:=by rw [← hG0]; exact x0.room _
  have o0:G0.obj G.nx = some ⟨A.cells,1,false,1⟩:=by rw [← hG0]; simp
  have n0:G.nx < G0.nx:=by rw [← hG0]; simp; omega
  have n0':G.nx + 1 + 7 < G0.nx:=by rw [← hG0]; simp
  refine Wp.stepX (newpush_ok orc A.R i _) fun c G1 ⟨x1,c1,c2,c3⟩=>?_
  have n1:=x1.nx
  have o1:=(x1.obj _ n0).trans o0
  unfold newFe
  obtain ⟨GB,hGB⟩:∃ GB,GB = ((G1.at' (G.nx + 1 + 7)).push ⟨aL A c .nilFunc i 0 0,1,false,1⟩).back G1:=⟨_,rfl⟩
  have xB:Ext G GB:=by rw [hGB]; exact Ext.drawn (x0.trans x1) (by omega) (by omega) _
  have oB:GB.obj (G.nx + 1 + 7) = some ⟨aL A c .nilFunc i 0 0,1,false,1⟩:=by rw [hGB]; simp
  have oB0:GB.obj G.nx = some ⟨A.cells,1,false,1⟩:=by rw [hGB]; simp [o1]; omega
  have nB:GB.nx = G1.nx:=by rw [hGB]; simp
  have cB:PusR A.R GB c (newPus A.R i):=c3.kept (by rw [hGB]; simp; omega)
  by_cases hi:i < 0
  ·simp [o1,o0,hi,← hGB,oB]
   refine ⟨xB.put (by omega) _,by omega,by omega,c,by omega,by omega,by omega,i,0,by simp⟩
  ·by_cases hi2:A.size ≤ i
   ·simp [o1,o0,hi,hi2,← hGB,oB0,oB]
    refine ⟨xB.put (by omega) _,by omega,by omega,c,by omega,by omega,by omega,i,0,by simp⟩
   ·simp [o1,o0,hi,hi2,← hGB,oB0,oB]
    rw [newPus_in ⟨by omega,by simp only; omega⟩] at cB
    refine ⟨xB.put (by omega) _,by omega,by omega,c,by omega,by omega,by omega,cB.kept (by simp; omega),by simp⟩
 obtain ⟨⟨v,G'⟩,e1,b,c,rfl,h⟩:=w
 exact ⟨b,c,G',f76 (exL_ok Q orc) _ _ G _ e1,h⟩
def AlS.told:AlS → Int × Int
 | .done g e=>(g,e)
 | _=>(0,14)
def FeS.told:FeS → Int
 | .done e=>e
 | _=>14
theorem allocref_ok (orc:FuncId → Bool) {p:AlS} (h:AlR A G b c p):∃ G',(E orc).cl 156 [P0 b] G = some (.tuple #[.int .u64 p.told.1,.int .i64 p.told.2],G') ∧ Ext G G':=by
 cases p with
 | pop p=>exact ⟨_,f156 (exL_ok Q orc) _ G _ (by simp [s156,h.2,AlS.told]),Ext.refl _⟩
 | gives i=>have h:G.obj b = _:=h; exact ⟨_,f156 (exL_ok Q orc) _ G _ (by simp [s156,h,AlS.told]),Ext.refl _⟩
 | lacks=>obtain ⟨i,h⟩:=h; exact ⟨_,f156 (exL_ok Q orc) _ G _ (by simp [s156,h,AlS.told]),Ext.refl _⟩
 | done g e=>obtain ⟨i,h⟩:=h; exact ⟨_,f156 (exL_ok Q orc) _ G _ (by simp [s156,h,AlS.told]; rfl),(Ext.refl _).room _⟩
end
end Go.Proofs.YtlaojmcekeohnaaGreatDoor.Lift
set_option linter.unusedVariables false
set_option linter.unusedSimpArgs false
set_option maxRecDepth 20000
namespace Go.Proofs.YtlaojmcekeohnaaGreatDoor.Lift
open Go Go.Proofs.YtlaojmcekeohnaaGreatDoor.Gh Go.Proofs
abbrev Sk.v (R:Sk):Value:=.agg ⟨[.int .i64 R.top,.int .i64 R.links,.int .i64 R.size]⟩
def Sk.sized (R:Sk):Prop:=1 ≤ R.size ∧ R.size ≤ 4096
instance (R:Sk):Decidable R.sized:=by unfold Sk.sized; exact inferInstance
theorem ssized_ok (orc:FuncId → Bool) (R:Sk) (G:GS):(E orc).cl 215 [R.v] G = some (.bool (decide R.sized),G.push ⟨[.int .i64 R.top,.int .i64 R.links,.int .i64 R.size],1,false,1⟩):=by
 refine f215 (exL_ok Q orc) _ G _ ?_
 unfold Sk.sized
 by_cases h1:1 ≤ R.size
 ·by_cases h2:R.size ≤ 4096 <;> simp [s215,h1,h2]
 ·simp [s215,h1]
end Go.Proofs.YtlaojmcekeohnaaGreatDoor.Lift
set_option linter.unusedVariables false
set_option linter.unusedSimpArgs false
set_option maxRecDepth 20000
namespace Go.Proofs.YtlaojmcekeohnaaGreatDoor.Lift
open Go Go.Proofs.YtlaojmcekeohnaaGreatDoor.Gh Go.Proofs
def lnkV (R:Sk) (i:Nat):Int:=if (i:Int) + 1 = R.size then 0 else i + 2
def lnkN (R:Sk):Nat → Nat → MS → MS
 | 0,_,s=>s
 | k + 1,i,s=>lnkN R k (i + 1) (s.store (R.links + i) (lnkV R i))
def fillS (R:Sk) (s:MS):MS:=lnkN R R.size.toNat 0 (s.store R.top 1)
def genN (A:Ar):Nat → Nat → MS → MS
 | 0,_,s=>s
 | k + 1,i,s=>genN A k (i + 1) (s.store (A.gens + i) 1)
def fillA (A:Ar) (s:MS):MS:=genN A A.size.toNat 0 ((Lift.fillS A.R s).store A.worn 0)
theorem lnkN_ok (R:Sk) (hR:R.ok):∀ (k i:Nat) (s:MS),(i + k:Nat) ≤ R.size → s.ok → (lnkN R k i s).ok
 | 0,_,s,_,h=>h
 | k + 1,i,s,hi,h=>lnkN_ok R hR k (i + 1) _ (by omega) (h.store _ (by have:=hR.2.1; unfold lnkV U; split <;> omega))
theorem genN_ok (A:Ar):∀ (k i:Nat) (s:MS),s.ok → (genN A k i s).ok
 | 0,_,s,h=>h
 | k + 1,i,s,h=>genN_ok A k (i + 1) _ (h.store _ ⟨by decide,by decide⟩)
theorem fillA_ok {A:Ar} (hA:A.ok) {s:MS} (h:s.ok):(fillA A s).ok:=by
 have h1:=hA.1.1
 simp only at h1
 exact genN_ok A _ _ _ ((lnkN_ok A.R hA.1 _ _ _ (by simp only; omega) (h.store _ ⟨by decide,by decide⟩)).store _ ⟨by decide,by decide⟩)
section
variable {m r rb:Nat} {own own0:Nat → Nat} {G G0:GS} {s:MS} {R:Sk} {A:Ar}
theorem sfill_lp (orc:FuncId → Bool) (ht:orc 270 = false) (hR:R.ok) (hrb:rb < G0.nx) (trb:own0 rb ≠ 10) (orb:G0.obj rb = some ⟨[.int .i64 R.top,.int .i64 R.links,.int .i64 R.size],1,false,1⟩) {n:Nat} (hn:R.size = n) :
  ∀ (k i:Nat) (τ:Env) (own:Nat → Nat) (G:GS) (s:MS),i + k = n → PW no own0 G0 own G m s → τ 1 = P0 m → τ 2 = P0 rb → τ 15 = .int .i64 n → τ 16 = .int .i64 i →
  Wp ((exL Q orc).lpx 162 0 τ G) fun q=>q.1 = .exit 0 ∧ ∃ own',PW no own0 G0 own' q.2.2 m (lnkN R k i s):=by
 intro k
 induction k with
 | zero =>
  intro i τ own G s hi w t1 t2 t15 t16
  have hi':i = n:=by omega
  subst hi'
  refine Wp.lp (l162_0 (exL_ok Q orc)) ?_
  simp [b162_0,bb162_0,clip_t,t1,t2,t15,t16,lnkN]
  exact ⟨own,w⟩
 | succ k ih =>
  intro i τ own G s hi w t1 t2 t15 t16
  have hR1:=hR.1; have hR2:=hR.2.1; have hR5:=hR.2.2.2.2.1; have hR6:=hR.2.2.2.2.2
  have o:=(w.keep hrb trb id).trans orb
  have hlt:i < n:=by omega
  have hw:IntKind.wrap .i64 ((i:Int) + 1) = ((i + 1:Nat):Int):=wrap64 (by omega) (by omega)
  have ha:IntKind.wrap .i64 (R.links + i) = R.links + i:=wrap64 (by omega) (by omega)
  refine Wp.lp (l162_0 (exL_ok Q orc)) ?_
  have w0:=w.ext ((Ext.refl G).room 8)
  have o0:(G.room 8).obj rb = some ⟨[.int .i64 R.top,.int .i64 R.links,.int .i64 R.size],1,false,1⟩:=o
  by_cases hl:(i:Int) + 1 = R.size
  ·have hl':((i + 1:Nat):Int) = R.size:=by omega
   have hv:lnkV R i = 0:=by unfold lnkV; rw [if_pos hl]
   obtain ⟨G1,e1,x1⟩:=link_ok orc ht (i:=-1) (by decide) (G.room 8)
   have w1:=w0.ext x1
   have o1:=(x1.obj rb (Nat.lt_of_lt_of_le hrb w0.nx)).trans o0
   obtain ⟨own2,G2,e2,w2⟩:=w1.pm.store orc (R.links + i) 0
   simp [-Int.natCast_add,b162_0,bb162_0,jl162_0_0,jbl162_0_0,clip_t,t1,t2,t15,t16,hlt,hw,o,hl',ha,e1,o1,e2]
   refine (ih (i + 1) _ _ G2 _ (by omega) (w1.trans w2 fun _ _ h=>h) (by simp [clip_t]) (by simp [clip_t]) (by simp [clip_t]) (by simp [clip_t]; omega)).mono ?_
   rintro q ⟨q1,own',q2⟩
   exact ⟨q1,own',by simpa [lnkN,hv] using q2⟩
  ·have hl':¬ ((i + 1:Nat):Int) = R.size:=by omega
   have hv:lnkV R i = i + 2:=by unfold lnkV; rw [if_neg hl]
   obtain ⟨G1,e1,x1⟩:=link_ok orc ht (i:=((i + 1:Nat):Int)) (by omega) (G.room 8)
   have w1:=w0.ext x1
   have o1:=(x1.obj rb (Nat.lt_of_lt_of_le hrb w0.nx)).trans o0
   have hv2:((i + 1:Nat):Int) + 1 = i + 2:=by omega
   rw [hv2] at e1
   obtain ⟨own2,G2,e2,w2⟩:=w1.pm.store orc (R.links + i) (i + 2)
   simp [-Int.natCast_add,b162_0,bb162_0,jl162_0_0,jbl162_0_0,clip_t,t1,t2,t15,t16,hlt,hw,o,hl',ha,e1,o1,e2]
   refine (ih (i + 1) _ _ G2 _ (by omega) (w1.trans w2 fun _ _ h=>h) (by simp [clip_t]) (by simp [clip_t]) (by simp [clip_t]) (by simp [clip_t])).mono ?_
   rintro q ⟨q1,own',q2⟩
   exact ⟨q1,own',by simpa [lnkN,hv] using q2⟩
theorem sfill_ok (orc:FuncId → Bool) (ht:orc 270 = false) (hR:R.ok) (h:PM own G m s):∃ own' G',(E orc).cl 162 [R.v,P0 m] G = some (.tuple #[],G') ∧ PW no own G own' G' m (Lift.fillS R s):=by
 obtain ⟨n,hn⟩:∃ n:Nat,R.size = n:=⟨R.size.toNat,by have:=hR.1; omega⟩
 have w:Wp (s162 true (exL Q orc) R.v (P0 m) G) fun q=>q.1 = .tuple #[] ∧ ∃ own',PW no own G own' q.2 m (Lift.fillS R s):=by
  obtain ⟨G1,hG1⟩:∃ G1,G1 = G.push ⟨[.int .i64 R.top,.int .i64 R.links,.int .i64 R.size],1,false,1⟩:=⟨_,rfl⟩
  have x1:Ext G G1:=by rw [hG1]; exact (Ext.refl G).push _
  have o1:G1.obj G.nx = some ⟨[.int .i64 R.top,.int .i64 R.links,.int .i64 R.size],1,false,1⟩:=by rw [hG1]; simp
  have n1:G1.nx = G.nx + 1:=by rw [hG1]; rfl
  have e2:=ssized_ok orc R G1
  have hz:R.sized:=⟨hR.1,hR.2.1⟩
  simp only [hz,decide_true] at e2
  obtain ⟨G2,hG2⟩:∃ G2,G2 = G1.push ⟨[.int .i64 R.top,.int .i64 R.links,.int .i64 R.size],1,false,1⟩:=⟨_,rfl⟩
  rw [← hG2] at e2
  have x2:Ext G1 G2:=by rw [hG2]; exact (Ext.refl _).push _
  have o2:=(x2.obj _ (by omega)).trans o1
  obtain ⟨G3,e3,x3⟩:=link_ok orc ht (i:=0) (by decide) (G2.room 5)
  have y3:=(x1.trans x2).trans (((Ext.refl G2).room 5).trans x3)
  have o3:=((((Ext.refl G2).room 5).trans x3).obj _ (by have:=x2.nx; omega)).trans o2
  have w3:=(PW.refl (B:=no) h).ext y3
  obtain ⟨own4,G4,e4,w4⟩:=w3.pm.store orc R.top (0 + 1)
  have t0:grown own G 13 G.nx = 13:=grown_new (Nat.le_refl _)
  have n3:G.nx < G3.nx:=by have:=x2.nx; have:=x3.nx; simp at this; omega
  have o4:=(w4.keep n3 (by rw [t0]; decide) id).trans o3
  have w34:=w3.trans w4 fun _ _ h=>h
  simp only [Int.zero_add] at e3 e4 w4 w34
  simp [s162,← hG1,o1,e2,o2,e3,o3,e4,o4]
  refine Wp.bE ((sfill_lp orc ht hR (rb:=G.nx) (G0:=G3) (own0:=grown own G 13) n3 (by rw [t0]; decide) o3 hn n 0 _ own4 G4 (s.store R.top 1) (by omega) w4 (by simp) (by simp) (by simp [hn]) (by simp)).mono ?_)
  rintro ⟨e,τ,G5⟩ ⟨rfl,own5,q⟩
  simp only at q
  simp
  refine ⟨own5,w3.trans ?_ fun _ _ h=>h⟩
  simpa [Lift.fillS,hn] using q
 obtain ⟨⟨v,G'⟩,e1,rfl,own',hh⟩:=w
 exact ⟨own',G',f162 (exL_ok Q orc) _ _ G _ e1,hh⟩
theorem afill_lp (orc:FuncId → Bool) (hA:A.ok) (hrb:rb < G0.nx) (trb:own0 rb ≠ 10) (orb:G0.obj rb = some ⟨A.cells,1,false,1⟩) {n:Nat} (hn:A.size = n) :
  ∀ (k i:Nat) (τ:Env) (own:Nat → Nat) (G:GS) (s:MS),i + k = n → PW no own0 G0 own G m s → τ 1 = P0 m → τ 2 = P0 rb → τ 18 = .int .i64 n → τ 19 = .int .i64 i →
  Wp ((exL Q orc).lpx 81 0 τ G) fun q=>q.1 = .exit 0 ∧ ∃ own',PW no own0 G0 own' q.2.2 m (genN A k i s):=by
 intro k
 induction k with
 | zero =>
  intro i τ own G s hi w t1 t2 t15 t16
  have hi':i = n:=by omega
  subst hi'
  refine Wp.lp (l81_0 (exL_ok Q orc)) ?_
  simp [b81_0,clip_t,t1,t2,t15,t16,genN]
  exact ⟨own,w⟩
 | succ k ih =>
  intro i τ own G s hi w t1 t2 t15 t16
  have h1:=hA.2.1; have h2:=hA.2.2.1; have h3:=hA.1.2.1
  simp only at h3
  have o:=(w.keep hrb trb id).trans orb
  have hlt:i < n:=by omega
  have hw:IntKind.wrap .i64 ((i:Int) + 1) = ((i + 1:Nat):Int):=wrap64 (by omega) (by omega)
  have ha:IntKind.wrap .i64 (A.gens + i) = A.gens + i:=wrap64 (by omega) (by omega)
  refine Wp.lp (l81_0 (exL_ok Q orc)) ?_
  obtain ⟨own2,G2,e2,w2⟩:=w.pm.store orc (A.gens + i) 1
  simp [-Int.natCast_add,b81_0,clip_t,t1,t2,t15,t16,hlt,hw,o,ha,e2]
  refine (ih (i + 1) _ _ G2 _ (by omega) (w.trans w2 fun _ _ h=>h) (by simp [clip_t]) (by simp [clip_t]) (by simp [clip_t]) (by simp [clip_t])).mono ?_
  rintro q ⟨q1,own',q2⟩
  exact ⟨q1,own',by simpa [genN] using q2⟩
theorem afill_ok (orc:FuncId → Bool) (ht:orc 270 = false) (hA:A.ok) (h:PM own G m s):∃ own' G',(E orc).cl 81 [A.v,P0 m] G = some (.tuple #[],G') ∧ PW no own G own' G' m (fillA A s):=by
 obtain ⟨n,hn⟩:∃ n:Nat,A.size = n:=⟨A.size.toNat,by have:=hA.1.1; simp only at this; omega⟩
 have w:Wp (s81 true (exL Q orc) A.v (P0 m) G) fun q=>q.1 = .tuple #[] ∧ ∃ own',PW no own G own' q.2 m (fillA A s):=by
  obtain ⟨G1,hG1⟩:∃ G1,G1 = G.push ⟨A.cells,1,false,1⟩:=⟨_,rfl⟩
  have x1:Ext G G1:=by rw [hG1]; exact (Ext.refl G).push _
  have o1:G1.obj G.nx = some ⟨A.cells,1,false,1⟩:=by rw [hG1]; simp
  have n1:G1.nx = G.nx + 1:=by rw [hG1]; rfl
  have e2:∃ G2,(E orc).cl 161 [A.v] G1 = some (.bool true,G2) ∧ Ext G1 G2:=by
   have z1:=hA.1.1; have z2:=hA.1.2.1
   simp only at z1 z2
   exact ⟨G1.push ⟨A.cells,1,false,1⟩,f161 (exL_ok Q orc) _ G1 _ (by simp [s161,z1,z2]),(Ext.refl _).push _⟩
  obtain ⟨G2,e2,x2⟩:=e2
  have o2:=(x2.obj _ (by omega)).trans o1
  have n2:=x2.nx
  have w2:=(PW.refl (B:=no) h).ext (x1.trans x2)
  obtain ⟨own3,G3,e3,w3⟩:=sfill_ok orc ht (R:=A.R) hA.1 w2.pm
  have t0:grown own G 13 G.nx = 13:=grown_new (Nat.le_refl _)
  have o3:=(w3.keep (show G.nx < G2.nx by omega) (by rw [t0]; decide) id).trans o2
  have t3:own3 G.nx = 13:=(w3.stp.same (by omega)).trans t0
  obtain ⟨own4,G4,e4,w4⟩:=w3.pm.store orc A.worn 0
  have n3:=w3.nx
  have o4:=(w4.keep (show G.nx < G3.nx by omega) (by rw [t3]; decide) id).trans o3
  simp [s81,← hG1,o1,e2,o2,e3,o3,e4,o4]
  refine Wp.bE ((afill_lp orc hA (rb:=G.nx) (G0:=G3) (own0:=own3) (by omega) (by rw [t3]; decide) o3 hn n 0 _ own4 G4 _ (by omega) w4 (by simp) (by simp) (by simp [hn]) (by simp)).mono ?_)
  rintro ⟨e,τ,G5⟩ ⟨rfl,own5,q⟩
  simp only at q
  simp
  refine ⟨own5,(w2.trans w3 fun _ _ h=>h).trans ?_ fun _ _ h=>h⟩
  simpa [fillA,hn] using q
 obtain ⟨⟨v,G'⟩,e1,rfl,own',hh⟩:=w
 exact ⟨own',G',f81 (exL_ok Q orc) _ _ G _ e1,hh⟩
end
end Go.Proofs.YtlaojmcekeohnaaGreatDoor.Lift
set_option linter.unusedVariables false
set_option linter.unusedSimpArgs false
set_option maxRecDepth 20000
namespace Go.Proofs.YtlaojmcekeohnaaGreatDoor.Lift
open Go Go.Proofs.YtlaojmcekeohnaaGreatDoor.Gh Go.Proofs
theorem take_mid (orc:FuncId → Bool) {w:Int} (h:U w) (G:GS):∃ G',(E orc).cl 219 [.int .u64 w,.agg ⟨[.int .i64 16,.int .i64 32]⟩] G = some (.int .i64 (w / 65536 % 4294967296),G') ∧ Ext G G':=by
 refine ⟨(G.push ⟨[.int .i64 16,.int .i64 32],1,false,1⟩).room 11,f219 (exL_ok Q orc) _ _ G _ ?_,((Ext.refl G).push _).room 11⟩
 have e1:shlI .u64 1 32 = 4294967296:=by decide
 have e2:IntKind.wrap .u64 4294967295 = 4294967295:=by decide
 have e3:IntKind.wrap .i64 (w / 65536 % 4294967296) = w / 65536 % 4294967296:=wrap64 (by omega) (by omega)
 simp [s219,shr_16 h,e1,e2,and_32 (U_div h 65536 (by decide)),e3]
theorem shr_63 {w:Int} (h:U w):shrI .u64 w 63 = w / 9223372036854775808:=by
 show w.fdiv (2 ^ (min (63:Int).toNat 64)) = _
 rw [show (min (63:Int).toNat 64) = 63 from rfl,Int.fdiv_eq_ediv_of_nonneg _ (by decide)]; rfl
theorem marked_ok (orc:FuncId → Bool) {w:Int} (h:U w) (G:GS):(E orc).cl 220 [.int .u64 w] G = some (.bool (decide (9223372036854775808 ≤ w)),G):=by
 refine f220 (exL_ok Q orc) _ G _ ?_
 have h1:=h.1; have h2:=h.2
 have e:(w / 9223372036854775808 = 1) = (9223372036854775808 ≤ w):=by rw [eq_iff_iff]; omega
 simp [s220,shr_63 h,e]
theorem marks_t (orc:FuncId → Bool) {w:Int} (h0:0 ≤ w) (h1:w < 9223372036854775808) (G:GS):(E orc).cl 253 [.int .u64 w,.bool true] G = some (.int .u64 (w + 9223372036854775808),G):=by
 refine f253 (exL_ok Q orc) _ _ G _ ?_
 have hu1:U w:=⟨h0,by omega⟩
 have hu2:U 9223372036854775808:=⟨by decide,by decide⟩
 have k:=or_add 63 1 hu2 hu1 (by decide) (by omega)
 have e:orI .u64 w 9223372036854775808 = w + 9223372036854775808:=by
  rw [or_u64 hu1 hu2,Nat.or_comm,← or_u64 hu2 hu1,k]; omega
 simp [s253,e]
def mkI (m:Bool):Int:=if m then 9223372036854775808 else 0
theorem marks_ok (orc:FuncId → Bool) {w:Int} (m:Bool) (h0:0 ≤ w) (h1:w < 9223372036854775808) (G:GS):(E orc).cl 253 [.int .u64 w,.bool m] G = some (.int .u64 (w + mkI m),G):=by
 cases m
 ·simpa [mkI] using marks_f orc h0 h1 G
 ·simpa [mkI] using marks_t orc h0 h1 G
theorem putrefm_ok (orc:FuncId → Bool) (ht:orc 218 = false) {i g:Int} (m:Bool) (h0:-1 ≤ i ∧ i ≤ 65534) (h1:0 ≤ g ∧ g < 4294967296) (G:GS):∃ G',(E orc).cl 221 [.agg ⟨[.int .i64 i,.int .i64 g,.bool m]⟩] G = some (if i = -1 ∧ g ≠ 0 then .tuple #[.int .u64 0,.int .i64 5] else .tuple #[.int .u64 (wordT i g + mkI m),.int .i64 0],G') ∧ Ext G G':=by
 have x1:Ext G ((G.push ⟨[.int .i64 i,.int .i64 g,.bool m],1,false,1⟩).push ⟨[.int .i64 i,.int .i64 (-1),.int .i64 65534,.int .i64 g,.int .i64 0,.int .i64 4294967295],3,false,1⟩):=((Ext.refl G).push _).push _
 have o1:((G.push ⟨[.int .i64 i,.int .i64 g,.bool m],1,false,1⟩).push ⟨[.int .i64 i,.int .i64 (-1),.int .i64 65534,.int .i64 g,.int .i64 0,.int .i64 4294967295],3,false,1⟩).obj G.nx = some ⟨[.int .i64 i,.int .i64 g,.bool m],1,false,1⟩:=by simp
 have p1:((G.push ⟨[.int .i64 i,.int .i64 g,.bool m],1,false,1⟩).push ⟨[.int .i64 i,.int .i64 (-1),.int .i64 65534,.int .i64 g,.int .i64 0,.int .i64 4294967295],3,false,1⟩).obj (G.nx + 1) = some ⟨[.int .i64 i,.int .i64 (-1),.int .i64 65534,.int .i64 g,.int .i64 0,.int .i64 4294967295],3,false,1⟩:=by simp
 have n1:((G.push ⟨[.int .i64 i,.int .i64 g,.bool m],1,false,1⟩).push ⟨[.int .i64 i,.int .i64 (-1),.int .i64 65534,.int .i64 g,.int .i64 0,.int .i64 4294967295],3,false,1⟩).nx = G.nx + 2:=rfl
 have hw:wordT i g = i + 1 + g * 65536:=rfl
 have w:Wp (s221 true (exL Q orc) (.agg ⟨[.int .i64 i,.int .i64 g,.bool m]⟩) G) fun r=>r.1 = (if i = -1 ∧ g ≠ 0 then .tuple #[.int .u64 0,.int .i64 5] else .tuple #[.int .u64 (wordT i g + mkI m),.int .i64 0]) ∧ Ext G r.2:=by
  simp only [s221]
  simp
  generalize hG1:(GS.push (GS.push G _) _) = G1 at *
  obtain ⟨G2,e2,x2⟩:=within2_ok orc p1 (by omega) ⟨by omega,h0.2⟩ ⟨h1.1,by omega⟩
  have n2:=x2.nx
  have o2:=(x2.obj G.nx (by omega)).trans o1
  by_cases hb:i = -1 ∧ g ≠ 0
  ·have hb1:=hb.1
   have hb2:=hb.2
   subst hb1
   simp [e2,o2,hb2]
   exact x1.trans x2
  ·obtain ⟨G3,e3,x3⟩:=refs_ok orc ht G2
   have n3:=x3.nx
   have o3:=(x3.obj G.nx (by omega)).trans o2
   have hne:¬ G.nx = G3.nx:=by omega
   have hi:IntKind.wrap .i64 (i + 1) = i + 1:=wrap64 (by omega) (by omega)
   obtain ⟨G5,hG5⟩:∃ G5,G5 = ((((((G3.push ⟨z313,1,false,1⟩).put G3.nx ⟨[.int .i64 0,.int .i64 16,.int .i64 16,.int .i64 32],1,false,1⟩).room 13).at' (G3.nx + 1 + 6)).push ⟨[.int .i64 (i + 1),.int .i64 g],1,false,1⟩).back (((G3.push ⟨z313,1,false,1⟩).put G3.nx ⟨[.int .i64 0,.int .i64 16,.int .i64 16,.int .i64 32],1,false,1⟩).room 13)):=⟨_,rfl⟩
   have x5:Ext G3 G5:=by rw [hG5]; exact Ext.drawn ((((Ext.refl G3).push _).put (Nat.le_refl _) _).room 13) (by omega) (by simp; omega) _
   have p5:G5.obj G3.nx = some ⟨[.int .i64 0,.int .i64 16,.int .i64 16,.int .i64 32],1,false,1⟩:=by rw [hG5]; simp; omega
   have c5:G5.obj (G3.nx + 1 + 6) = some ⟨[.int .i64 (i + 1),.int .i64 g],1,false,1⟩:=by rw [hG5]; simp
   have n5:G5.nx = G3.nx + 1 + 13:=by rw [hG5]; simp
   have o5:=(x5.obj G.nx (by omega)).trans o3
   obtain ⟨G6,e6,x6⟩:=lay2_ok orc p5 c5 (by omega) (by omega)
   rw [lay_val (by omega) (by omega)] at e6
   have o6:=(x6.obj G.nx (by omega)).trans o5
   have e7:=marks_ok orc (w:=wordT i g) m (by omega) (by omega) G6
   have hne6:¬ G.nx = G3.nx + 1 + 6:=by omega
   by_cases hi1:i = -1
   ·have hg:g = 0:=Classical.byContradiction fun h=>hb ⟨hi1,h⟩
    have q1:(i = -1) = True:=eq_true hi1
    have q2:(g = 0) = True:=eq_true hg
    simp [e2,o2,q1,q2,e3,hne,o3,splice_put,splice_end,slA,bound,hi,← hG5,e6,o5,o6,e7,hne6]
    exact (((x1.trans x2).trans x3).trans x5).trans x6
   ·simp [e2,o2,hi1,e3,hne,o3,splice_put,splice_end,slA,bound,hi,← hG5,e6,o5,o6,e7,hne6]
    exact (((x1.trans x2).trans x3).trans x5).trans x6
 obtain ⟨⟨v,G'⟩,e1,rfl,e3⟩:=w
 exact ⟨G',f221 (exL_ok Q orc) _ G _ e1,e3⟩
def refOk (w:Int):Prop:=¬ (w % 65536 = 0 ∧ w / 65536 % 4294967296 ≠ 0) ∧ w = w % 65536 + (w / 65536 % 4294967296) * 65536 + mkI (decide (9223372036854775808 ≤ w))
instance (w:Int):Decidable (refOk w):=by unfold refOk; exact inferInstance
def refV (w:Int):List Value:=if refOk w then [.int .i64 (w % 65536 - 1),.int .i64 (w / 65536 % 4294967296),.bool (decide (9223372036854775808 ≤ w))] else [.int .i64 0,.int .i64 0,.bool false]
theorem getref_ok (orc:FuncId → Bool) (ht:orc 218 = false) {w:Int} (h:U w) (G:GS):∃ G',(E orc).cl 163 [.int .u64 w] G = some (.tuple #[.agg ⟨refV w⟩,.int .i64 (if refOk w then 0 else 5)],G') ∧ Ext G G':=by
 obtain ⟨G1,hG1⟩:∃ G1,G1 = G.push ⟨[.int .i64 0,.int .i64 0,.bool false],1,false,1⟩:=⟨_,rfl⟩
 have x1:Ext G G1:=by rw [hG1]; exact (Ext.refl G).push _
 have n1:G1.nx = G.nx + 1:=by rw [hG1]; rfl
 have o1:G1.obj G.nx = some ⟨[.int .i64 0,.int .i64 0,.bool false],1,false,1⟩:=by rw [hG1]; simp
 obtain ⟨G2,e2,x2⟩:=refs_ok orc ht G1
 have n2:=x2.nx
 obtain ⟨G3,hG3⟩:∃ G3,G3 = ((G2.push ⟨z313,1,false,1⟩).put G2.nx ⟨[.int .i64 0,.int .i64 16,.int .i64 16,.int .i64 32],1,false,1⟩).room 14:=⟨_,rfl⟩
 have x3:Ext G2 G3:=by rw [hG3]; exact (((Ext.refl G2).push _).put (Nat.le_refl _) _).room 14
 have p3:G3.obj G2.nx = some ⟨[.int .i64 0,.int .i64 16,.int .i64 16,.int .i64 32],1,false,1⟩:=by rw [hG3]; simp
 have n3:G3.nx = G2.nx + 1 + 14:=by rw [hG3]; rfl
 obtain ⟨G4,e4,x4⟩:=take_lo orc h G3
 have p4:=(x4.obj _ (by omega)).trans p3
 have n4:=x4.nx
 obtain ⟨G5,e5,x5⟩:=take_mid orc h G4
 have n5:=x5.nx
 have e6:=marked_ok orc h G5
 have hm:IntKind.wrap .i64 (w % 65536 - 1) = w % 65536 - 1:=wrap64 (by omega) (by omega)
 generalize hmk:decide (9223372036854775808 ≤ w) = mk at *
 obtain ⟨G6,hG6⟩:∃ G6,G6 = ((((G5.at' (G2.nx + 1 + 12)).push ⟨[.int .i64 0,.int .i64 0,.bool false],1,false,1⟩).back G5).put (G2.nx + 1 + 12) ⟨[.int .i64 (w % 65536 - 1),.int .i64 (w / 65536 % 4294967296),.bool mk],1,false,1⟩):=⟨_,rfl⟩
 have x6:Ext G2 G6:=by rw [hG6]; exact (Ext.drawn ((x3.trans x4).trans x5) (by omega) (by omega) _).put (by omega) _
 have n6:G6.nx = G5.nx:=by rw [hG6]; simp
 have o6:G6.obj (G2.nx + 1 + 12) = some ⟨[.int .i64 (w % 65536 - 1),.int .i64 (w / 65536 % 4294967296),.bool mk],1,false,1⟩:=by rw [hG6]; simp
 have r6:=(x6.obj G.nx (by omega)).trans ((x2.obj G.nx (by omega)).trans o1)
 obtain ⟨G7,e7,x7⟩:=putrefm_ok orc ht mk (i:=w % 65536 - 1) (g:=w / 65536 % 4294967296) (by omega) (by omega) G6
 have o7:=(x7.obj _ (by omega)).trans o6
 have r7:=(x7.obj G.nx (by omega)).trans r6
 have y7:=(x1.trans (x2.trans x6)).trans x7
 have hne:¬ G.nx = G2.nx + 1 + 12:=by omega
 have hwt:wordT (w % 65536 - 1) (w / 65536 % 4294967296) = w % 65536 + w / 65536 % 4294967296 * 65536:=by unfold wordT; omega
 have wp:Wp (s163 true (exL Q orc) (.int .u64 w) G) fun q=>q.1 = .tuple #[.agg ⟨refV w⟩,.int .i64 (if refOk w then 0 else 5)] ∧ Ext G q.2:=by
  by_cases hok:refOk w
  ·have hok':=hok
   unfold refOk at hok'
   rw [hmk] at hok'
   have hc:¬ (w % 65536 - 1 = -1 ∧ w / 65536 % 4294967296 ≠ 0):=fun h=>hok'.1 ⟨by omega,h.2⟩
   rw [if_neg hc,hwt,← hok'.2] at e7
   simp [s163,← hG1,e2,splice_put,splice_end,splice_succ,← hG3,p3,e4,p4,e5,e6,hm,← hG6,o6,e7,o7,r7,hne,hok,refV,hmk]
   exact y7.put (by omega) _
  ·have hok':=hok
   unfold refOk at hok'
   rw [hmk] at hok'
   by_cases hc:w % 65536 - 1 = -1 ∧ w / 65536 % 4294967296 ≠ 0
   ·rw [if_pos hc] at e7
    simp [s163,← hG1,e2,splice_put,splice_end,splice_succ,← hG3,p3,e4,p4,e5,e6,hm,← hG6,o6,e7,o7,r7,hne,hok,refV,hmk]
    exact y7.put (by omega) _
   ·rw [if_neg hc,hwt] at e7
    have hv:¬ w % 65536 + w / 65536 % 4294967296 * 65536 + mkI mk = w:=fun h=>hok' ⟨fun k=>hc ⟨by omega,k.2⟩,h.symm⟩
    simp [s163,← hG1,e2,splice_put,splice_end,splice_succ,← hG3,p3,e4,p4,e5,e6,hm,← hG6,o6,e7,o7,r7,hne,hok,refV,hmk,hv]
    exact y7.put (by omega) _
 obtain ⟨⟨v,G'⟩,e1,rfl,e3⟩:=wp
 exact ⟨G',f163 (exL_ok Q orc) _ G _ e1,e3⟩
end Go.Proofs.YtlaojmcekeohnaaGreatDoor.Lift
set_option linter.unusedVariables false
set_option linter.unusedSimpArgs false
set_option maxRecDepth 20000
namespace Go.Proofs.YtlaojmcekeohnaaGreatDoor.Lift
open Go Go.Proofs.YtlaojmcekeohnaaGreatDoor.Gh Go.Proofs
section
variable {s:MS} {a b v x y:Int} {k:Int} {u:Int → Int × Bool}
theorem MS.at_in (s:MS) (h:0 ≤ a ∧ a < s.W.length):s.at' a = (s.W[a.toNat]?).getD 0:=by unfold MS.at'; rw [if_pos h]
theorem acc_len' (s:MS) (k a:Int) (u:Int → Int × Bool):(s.acc k a u).W.length = s.W.length:=by unfold MS.acc; split <;> simp
theorem acc_new (h:0 ≤ a ∧ a < s.W.length):(s.acc k a u).new = (u (s.at' a)).1 ∧ (s.acc k a u).held = (u (s.at' a)).2:=by
 unfold MS.acc
 rw [if_pos h,s.at_in h]
 exact ⟨rfl,rfl⟩
theorem acc_at (h:0 ≤ a ∧ a < s.W.length) (b:Int):(s.acc k a u).at' b = if b = a then (u (s.at' a)).1 else s.at' b:=by
 have hl:=acc_len' s k a u
 by_cases hb:0 ≤ b ∧ b < s.W.length
 ·rw [MS.at_in _ (by rw [hl]; exact hb),s.at_in h,s.at_in hb]
  unfold MS.acc
  rw [if_pos h]
  simp only [List.getElem?_set]
  by_cases e:b = a
  ·subst e
   rw [if_pos rfl,if_pos rfl,if_pos (by omega)]
   rfl
  ·rw [if_neg (by omega),if_neg e]
 ·have e:¬ b = a:=by rintro rfl; exact hb h
  rw [if_neg e]
  unfold MS.at'
  rw [if_neg (by rw [hl]; exact hb),if_neg hb]
theorem load_new (h:0 ≤ a ∧ a < s.W.length):(s.load a).new = s.at' a:=(acc_new (k:=1) (u:=uLoad) h).1
theorem load_at (h:0 ≤ a ∧ a < s.W.length) (b:Int):(s.load a).at' b = s.at' b:=by
 have:=acc_at (k:=1) (u:=uLoad) h b
 rw [show (s.load a).at' b = _ from this]
 split
 ·rename_i e; rw [e]; rfl
 ·rfl
theorem load_len (s:MS) (a:Int):(s.load a).W.length = s.W.length:=acc_len' _ _ _ _
theorem store_at (h:0 ≤ a ∧ a < s.W.length) (v b:Int):(s.store a v).at' b = if b = a then v else s.at' b:=acc_at (k:=2) (u:=uStore v) h b
theorem store_len (s:MS) (a v:Int):(s.store a v).W.length = s.W.length:=acc_len' _ _ _ _
theorem cas_held (h:0 ≤ a ∧ a < s.W.length) (x y:Int):(s.cas a x y).held = decide (s.at' a = x):=by
 have:=(acc_new (k:=3) (u:=uCas x y) h).2
 rw [show (s.cas a x y).held = _ from this]
 unfold uCas
 split
 ·rename_i e; simp [e]
 ·rename_i e; simp [e]
theorem cas_at (h:0 ≤ a ∧ a < s.W.length) (x y b:Int):(s.cas a x y).at' b = if b = a ∧ s.at' a = x then y else s.at' b:=by
 have:=acc_at (k:=3) (u:=uCas x y) h b
 rw [show (s.cas a x y).at' b = _ from this]
 unfold uCas
 by_cases e:b = a
 ·by_cases e2:s.at' a = x
  ·simp [e,e2]
  ·simp [e,e2]
 ·simp [e]
theorem cas_len (s:MS) (a x y:Int):(s.cas a x y).W.length = s.W.length:=acc_len' _ _ _ _
theorem add_at (h:0 ≤ a ∧ a < s.W.length) (v b:Int):(s.add a v).at' b = if b = a then IntKind.wrap .u64 (s.at' a + v) else s.at' b:=acc_at (k:=4) (u:=uAdd v) h b
theorem add_len (s:MS) (a v:Int):(s.add a v).W.length = s.W.length:=acc_len' _ _ _ _
end
end Go.Proofs.YtlaojmcekeohnaaGreatDoor.Lift
set_option linter.unusedVariables false
set_option linter.unusedSimpArgs false
set_option maxRecDepth 20000
namespace Go.Proofs.YtlaojmcekeohnaaGreatDoor.Lift
open Go Go.Proofs.YtlaojmcekeohnaaGreatDoor.Gh Go.Proofs
def upN {α:Type} (f:Nat → α) (c:Nat) (a:α):Nat → α:=fun j=>if j = c then a else f j
theorem upN_same {α:Type} (f:Nat → α) (c:Nat) (a:α):upN f c a c = a:=by unfold upN; rw [if_pos rfl]
theorem upN_ne {α:Type} (f:Nat → α) {c j:Nat} (a:α) (h:j ≠ c):upN f c a j = f j:=by unfold upN; rw [if_neg h]
inductive CoS
 | idle
 | al (p:AlS)
 | fe (p:FeS)
def arN (n lim:Int):Ar:=⟨0,1,n,1 + n,1 + 2 * n,lim⟩
def ixW (w:Int):Int:=w % 65536 - 1
def hd:List Int → Int
 | []=>-1
 | a :: _=>a
def Chain (M:Int → Int):List Int → Prop
 | []=>True
 | a :: F=>M (1 + a) = hd F + 1 ∧ Chain M F
theorem Chain.to {M M':Int → Int}:∀ {F:List Int},Chain M F → (∀ a ∈ F,M' (1 + a) = M (1 + a)) → Chain M' F
 | [],_,_=>trivial
 | a :: F,h,k=>⟨(k a (List.mem_cons_self ..)).trans h.1,Chain.to h.2 fun b hb=>k b (List.mem_cons_of_mem _ hb)⟩
def ow:CoS → List Int
 | .al (.gives i)=>[i]
 | .al (.done g e)=>if e = 0 then [ixW g] else []
 | .fe (.looks i)=>[i]
 | .fe (.raises i _)=>[i]
 | .fe (.push (.go _ _ i))=>[i]
 | _=>[]
def wc:CoS → Int
 | .fe .wears=>1
 | _=>0
def CoOk (n lim:Int) (M:Int → Int) (F:List Int) (T:Int):CoS → Prop
 | .idle=>True
 | .al (.pop (.go ph w i j))=>(ph ≠ 1 → w / 65536 ≤ T ∧ w % 65536 - 1 = i) ∧ (ph = 3 → M 0 = w → F = i :: F.tail ∧ j = hd F.tail)
 | .al (.pop (.done _))=>False
 | .al (.gives _)=>True
 | .al .lacks=>True
 | .al (.done g e)=>(e = 0 ∧ ∃ i g',g = wordT i g' ∧ 0 ≤ i ∧ i < n ∧ 1 ≤ g' ∧ g' ≤ 1000) ∨ (g = 0 ∧ (e = 7 ∨ (e = 12 ∧ n ≤ M (1 + 2 * n))))
 | .fe (.looks _)=>True
 | .fe (.raises i g)=>1 ≤ g ∧ g < lim
 | .fe (.push (.go ph w i))=>(ph ≠ 1 → w / 65536 ≤ T) ∧ (ph = 3 → M (1 + i) = idxI n w + 1)
 | .fe (.push (.done _))=>False
 | .fe .wears=>True
 | .fe (.done _)=>True
def okK (A:Ar):CoS → Prop
 | .idle=>True
 | .al p=>p.ok A
 | .fe p=>p.ok A
theorem CoOk.other {n lim T T':Int} {M M':Int → Int} {F F':List Int} {y:CoS} (h:CoOk n lim M F T y) (hT:T ≤ T') (h0:∀ w,w / 65536 ≤ T → M' 0 = w → M 0 = w ∧ F' = F) (hl:∀ i,i ∈ ow y → M' (1 + i) = M (1 + i)) (hw:M (1 + 2 * n) ≤ M' (1 + 2 * n)):CoOk n lim M' F' T' y:=by
 match y,h,hl with
 | .idle,h,_=>trivial
 | .al (.pop (.go ph w i j)),h,_ =>
  refine ⟨fun k=>⟨Int.le_trans (h.1 k).1 hT,(h.1 k).2⟩,fun k e=>?_⟩
  obtain ⟨h1,h2⟩:=h0 w (h.1 (by omega)).1 e
  rw [h2]
  exact h.2 k h1
 | .al (.pop (.done _)),h,_=>exact h.elim
 | .al (.gives _),_,_=>trivial
 | .al .lacks,_,_=>trivial
 | .al (.done g e),h,_ =>
  rcases h with h | ⟨h1,h2 | ⟨h2,h3⟩⟩
  ·exact .inl h
  ·exact .inr ⟨h1,.inl h2⟩
  ·exact .inr ⟨h1,.inr ⟨h2,Int.le_trans h3 hw⟩⟩
 | .fe (.looks _),_,_=>trivial
 | .fe (.raises i g),h,_=>exact h
 | .fe (.push (.go ph w i)),h,hl=>exact ⟨fun k=>Int.le_trans (h.1 k) hT,fun k=>(hl i (by simp [ow])).trans (h.2 k)⟩
 | .fe (.push (.done _)),h,_=>exact h.elim
 | .fe .wears,_,_=>trivial
 | .fe (.done _),_,_=>trivial
def cO (k:Nat → CoS) (a:Int):Nat:=(ow (k 0)).count a + (ow (k 1)).count a + (ow (k 2)).count a
def lO (k:Nat → CoS):Int:=(ow (k 0)).length + (ow (k 1)).length + (ow (k 2)).length
def wO (k:Nat → CoS):Int:=wc (k 0) + wc (k 1) + wc (k 2)
section
variable {k:Nat → CoS} {c:Nat} {y:CoS}
theorem cO_up (hc:c < 3) (a:Int):cO (upN k c y) a + (ow (k c)).count a = cO k a + (ow y).count a:=by
 unfold cO
 rcases (show c = 0 ∨ c = 1 ∨ c = 2 by omega) with rfl | rfl | rfl <;> simp [upN] <;> omega
theorem lO_up (hc:c < 3):lO (upN k c y) + (ow (k c)).length = lO k + (ow y).length:=by
 unfold lO
 rcases (show c = 0 ∨ c = 1 ∨ c = 2 by omega) with rfl | rfl | rfl <;> simp [upN] <;> omega
theorem wO_up (hc:c < 3):wO (upN k c y) + wc (k c) = wO k + wc y:=by
 unfold wO
 rcases (show c = 0 ∨ c = 1 ∨ c = 2 by omega) with rfl | rfl | rfl <;> simp [upN] <;> omega
theorem cO_le (hc:c < 3) (a:Int):(ow (k c)).count a ≤ cO k a:=by
 unfold cO
 rcases (show c = 0 ∨ c = 1 ∨ c = 2 by omega) with rfl | rfl | rfl <;> omega
theorem cO_two {c':Nat} (hc:c < 3) (hc':c' < 3) (h:c' ≠ c) (a:Int):(ow (k c)).count a + (ow (k c')).count a ≤ cO k a:=by
 unfold cO
 rcases (show c = 0 ∨ c = 1 ∨ c = 2 by omega) with rfl | rfl | rfl <;> rcases (show c' = 0 ∨ c' = 1 ∨ c' = 2 by omega) with rfl | rfl | rfl <;> first | omega | exact absurd rfl h
theorem wc_nn (y:CoS):0 ≤ wc y:=by unfold wc; split <;> omega
end
def mu (n M0:Int):CoS → Nat
 | .al (.pop (.go ph w _ _))=>if ph = 1 then (if idxI n M0 < 0 then 2 else 4) else if ph = 2 then (if M0 = w then 3 else 6) else (if M0 = w then 2 else 5)
 | .al (.gives _)=>1
 | .al .lacks=>1
 | .fe (.looks _)=>5
 | .fe (.raises _ _)=>4
 | .fe (.push (.go ph w _))=>if ph = 1 then 3 else if ph = 2 then (if M0 = w then 2 else 5) else (if M0 = w then 1 else 4)
 | .fe .wears=>1
 | _=>0
theorem mu_le (n M0:Int) (y:CoS):mu n M0 y ≤ 6:=by
 unfold mu
 split <;> (repeat' split) <;> omega
structure RI (n lim T:Int) (F H:List Int) (s:MS) (k:Nat → CoS):Prop where
 n1:1 ≤ n ∧ n ≤ 8
 lm:1 ≤ lim ∧ lim ≤ 1000
 len:(s.W.length:Int) = 2 + 2 * n
 top:s.at' 0 = hd F + 1 + T * 65536
 t0:0 ≤ T ∧ T < 1000000
 ch:Chain s.at' F
 gn:∀ i,0 ≤ i → i < n → 1 ≤ s.at' (1 + n + i) ∧ s.at' (1 + n + i) ≤ lim
 nd:∀ a,F.count a + H.count a + cO k a ≤ 1
 rg:∀ a,1 ≤ F.count a + H.count a + cO k a → 0 ≤ a ∧ a < n
 ln:(F.length:Int) + H.length + lO k + wO k + s.at' (1 + 2 * n) = n
 w0:0 ≤ s.at' (1 + 2 * n)
 co:∀ c,c < 3 → CoOk n lim s.at' F T (k c)
 ok:∀ c,c < 3 → okK (arN n lim) (k c)
theorem hd_rg {n:Int} {F:List Int} (h:∀ a,1 ≤ F.count a → 0 ≤ a ∧ a < n) (hn:1 ≤ n):-1 ≤ hd F ∧ hd F < n:=by
 cases F with
 | nil=>exact ⟨by decide,by show -1 < n; omega⟩
 | cons a F =>
  have:=h a (by simp)
  exact ⟨by show -1 ≤ a; omega,this.2⟩
section
variable {n lim T:Int} {F H:List Int} {s:MS} {k:Nat → CoS} {c:Nat}
theorem RI.hd (h:RI n lim T F H s k):-1 ≤ hd F ∧ hd F < n:=hd_rg (fun a ha=>h.rg a (by omega)) h.n1.1
theorem RI.hdn (h:RI n lim T F H s k) {i:Int} {F':List Int} (e:F = i :: F'):-1 ≤ Lift.hd F' ∧ Lift.hd F' < n:=hd_rg (fun a ha=>h.rg a (by rw [e,List.count_cons]; omega)) h.n1.1
theorem RI.owned (h:RI n lim T F H s k) (hc:c < 3) {i:Int} (hi:i ∈ ow (k c)):0 ≤ i ∧ i < n ∧ i ∉ F ∧ i ∉ H ∧ ∀ c',c' < 3 → c' ≠ c → i ∉ ow (k c'):=by
 have h1:1 ≤ (ow (k c)).count i:=List.one_le_count_iff.2 hi
 have h2:=cO_le (k:=k) hc i
 have h3:=h.nd i
 have h4:=h.rg i (by omega)
 refine ⟨h4.1,h4.2,fun hf=>?_,fun hf=>?_,fun c' hc' hne hf=>?_⟩
 ·have:=List.one_le_count_iff.2 hf; omega
 ·have:=List.one_le_count_iff.2 hf; omega
 ·have:=List.one_le_count_iff.2 hf
  have:=cO_two (k:=k) hc hc' hne i
  omega
theorem RI.same (h:RI n lim T F H s k) (hc:c < 3) {y:CoS} {s':MS} (hl:s'.W.length = s.W.length) (hat:∀ b,s'.at' b = s.at' b) (ho:ow y = ow (k c)) (hw:wc y = wc (k c)) (hy:CoOk n lim s.at' F T y) (hk:okK (arN n lim) y):RI n lim T F H s' (upN k c y):=by
 have e:s'.at' = s.at':=funext hat
 have e1:∀ a,cO (upN k c y) a = cO k a:=fun a=>by have:=cO_up (k:=k) (y:=y) hc a; rw [ho] at this; omega
 have e2:lO (upN k c y) = lO k:=by have:=lO_up (k:=k) (y:=y) hc; rw [ho] at this; omega
 have e3:wO (upN k c y) = wO k:=by have:=wO_up (k:=k) (y:=y) hc; rw [hw] at this; omega
 refine ⟨h.n1,h.lm,by rw [hl]; exact h.len,by rw [e]; exact h.top,h.t0,by rw [e]; exact h.ch,by rw [e]; exact h.gn,fun a=>by rw [e1]; exact h.nd a,fun a ha=>h.rg a (by rw [e1] at ha; exact ha),by rw [e2,e3,e]; exact h.ln,by rw [e]; exact h.w0,fun c' hc'=>?_,fun c' hc'=>?_⟩
 ·rw [e]
  by_cases q:c' = c
  ·subst q; rw [upN_same]; exact hy
  ·rw [upN_ne _ _ q]; exact h.co c' hc'
 ·by_cases q:c' = c
  ·subst q; rw [upN_same]; exact hk
  ·rw [upN_ne _ _ q]; exact h.ok c' hc'
end
end Go.Proofs.YtlaojmcekeohnaaGreatDoor.Lift
set_option linter.unusedVariables false
set_option linter.unusedSimpArgs false
set_option maxRecDepth 20000
namespace Go.Proofs.YtlaojmcekeohnaaGreatDoor.Lift
open Go Go.Proofs.YtlaojmcekeohnaaGreatDoor.Gh Go.Proofs
section
variable {n lim T:Int} {F H:List Int} {s:MS} {k:Nat → CoS} {c:Nat}
theorem pop1 (R:Sk) (w i j:Int) (s:MS):PopS.step R (.go 1 w i j) s = (if idxI R.size (s.load R.top).new < 0 then .done (idxI R.size (s.load R.top).new) else .go 2 (s.load R.top).new (idxI R.size (s.load R.top).new) j,s.load R.top):=by simp [PopS.step]
theorem pop2 (R:Sk) (w i j:Int) (s:MS):PopS.step R (.go 2 w i j) s = (.go 3 w i (idxI R.size (s.load (R.links + i)).new),s.load (R.links + i)):=by simp [PopS.step]
theorem pop3 (R:Sk) (w i j:Int) (s:MS):PopS.step R (.go 3 w i j) s = (if (s.cas R.top w (topI j w)).held = true then .done i else .go 1 w i j,s.cas R.top w (topI j w)):=by simp [PopS.step]
theorem upN_self {α:Type} (f:Nat → α) (c:Nat):upN f c (f c) = f:=by
 funext j
 unfold upN
 split
 ·rename_i e; rw [e]
 ·rfl
theorem RI.m0 (h:RI n lim T F H s k):(0:Int) ≤ 0 ∧ (0:Int) < s.W.length:=by have:=h.len; have:=h.n1; omega
theorem RI.topm (h:RI n lim T F H s k):s.at' 0 % 65536 - 1 = Lift.hd F ∧ s.at' 0 / 65536 = T ∧ idxI n (s.at' 0) = Lift.hd F:=by
 have h1:=h.top
 have h2:=h.hd
 have h3:=h.n1
 have h4:s.at' 0 % 65536 - 1 = Lift.hd F:=by omega
 refine ⟨h4,by omega,?_⟩
 unfold idxI
 rw [if_neg (by omega)]
 exact h4
theorem RI.swap (h:RI n lim T F H s k) (hT:T < 999999) (hc:c < 3) {y:CoS} {s':MS} {F':List Int} {v:Int} (hv:v = Lift.hd F' + 1 + (T + 1) * 65536) (hr:-1 ≤ Lift.hd F' ∧ Lift.hd F' < n) (hl:s'.W.length = s.W.length) (hat:∀ b,s'.at' b = if b = 0 then v else s.at' b)
  (hcnt:∀ a,F'.count a + (ow y).count a = F.count a + (ow (k c)).count a) (hlen:(F'.length:Int) + (ow y).length = F.length + (ow (k c)).length) (hwc:wc y = wc (k c)) (hch:Chain s.at' F') (hy:CoOk n lim s'.at' F' (T + 1) y) (hk:okK (arN n lim) y) :
  RI n lim (T + 1) F' H s' (upN k c y):=by
 have h1:=h.n1
 have e1:∀ a,F'.count a + H.count a + cO (upN k c y) a = F.count a + H.count a + cO k a:=fun a=>by have:=cO_up (k:=k) (y:=y) hc a; have:=hcnt a; omega
 have e2:=lO_up (k:=k) (y:=y) hc
 have e3:=wO_up (k:=k) (y:=y) hc
 have rg:∀ a,1 ≤ F'.count a + H.count a + cO (upN k c y) a → 0 ≤ a ∧ a < n:=fun a ha=>h.rg a (by rw [e1] at ha; exact ha)
 have at1:∀ b,b ≠ 0 → s'.at' b = s.at' b:=fun b hb=>by rw [hat,if_neg hb]
 refine ⟨h.n1,h.lm,by rw [hl]; exact h.len,by rw [hat,if_pos rfl]; exact hv,by have:=h.t0; omega,hch.to fun a ha=>at1 _ ?_,fun i h2 h3=>?_,fun a=>by rw [e1]; exact h.nd a,rg,?_,by rw [at1 _ (by omega)]; exact h.w0,fun c' hc'=>?_,fun c' hc'=>?_⟩
 ·have:=rg a (by have:=List.one_le_count_iff.2 ha; omega); omega
 ·rw [at1 _ (by omega)]; exact h.gn i h2 h3
 ·rw [at1 _ (by omega)]; have:=h.ln; omega
 ·by_cases q:c' = c
  ·subst q; rw [upN_same]; exact hy
  ·rw [upN_ne _ _ q]
   refine (h.co c' hc').other (by omega) (fun w hw e=>?_) (fun i hi=>at1 _ ?_) (by rw [at1 _ (by omega)]; exact Int.le_refl _)
   ·exfalso
    rw [hat,if_pos rfl,hv] at e
    omega
   ·have:=h.owned hc' hi; omega
 ·by_cases q:c' = c
  ·subst q; rw [upN_same]; exact hk
  ·rw [upN_ne _ _ q]; exact h.ok c' hc'
theorem RI.alstep (h:RI n lim T F H s k) (hs:s.ok) (hT:T < 999999) (hc:c < 3) {p:AlS} (hp:k c = .al p) (ho:p.over = false):∃ F' T',T ≤ T' ∧ T' ≤ T + 1 ∧ RI n lim T' F' H (p.step (arN n lim) s).2 (upN k c (.al (p.step (arN n lim) s).1)) ∧ mu n ((p.step (arN n lim) s).2.at' 0) (.al (p.step (arN n lim) s).1) < mu n (s.at' 0) (.al p):=by
 have hn:=h.n1
 have hlen:=h.len
 have hco:=h.co c hc
 have hok:=h.ok c hc
 have hlm:=h.lm
 rw [hp] at hco hok
 have hA:(arN n lim).ok:=⟨⟨by show 1 ≤ n; omega,by show n ≤ 4096; omega,by show (0:Int) ≤ 0; decide,by show (0:Int) < 4096; decide,by show (0:Int) ≤ 1; decide,by show 1 + n ≤ 4096; omega⟩,by show 0 ≤ 1 + n; omega,by show 1 + n + n ≤ 4096; omega,by show 0 ≤ 1 + 2 * n; omega,by show 1 + 2 * n < 4096; omega,by show 1 ≤ lim; omega,by show lim ≤ 4294967295; omega⟩
 have hok':=(AlS.ok.step hA hok hs).1
 have m0:=h.m0
 cases p with
 | done g e=>cases ho
 | lacks =>
  have hm:(0:Int) ≤ 1 + 2 * n ∧ 1 + 2 * n < (s.W.length:Int):=by omega
  refine ⟨F,T,Int.le_refl _,by omega,h.same hc (load_len _ _) (load_at hm) ?_ (by rw [hp]; rfl) ?_ hok',Nat.zero_lt_one⟩
  ·rw [hp]
   show (if (if n ≤ (s.load (1 + 2 * n)).new then (12:Int) else 7) = 0 then [ixW 0] else []) = []
   rw [if_neg (by split <;> decide)]
  ·refine .inr ⟨rfl,?_⟩
   have key:(if n ≤ (s.load (1 + 2 * n)).new then (12:Int) else 7) = 7 ∨ ((if n ≤ (s.load (1 + 2 * n)).new then (12:Int) else 7) = 12 ∧ n ≤ s.at' (1 + 2 * n)):=by
    rw [load_new hm]
    by_cases q:n ≤ s.at' (1 + 2 * n)
    ·rw [if_pos q]; exact .inr ⟨rfl,q⟩
    ·rw [if_neg q]; exact .inl rfl
   exact key
 | gives i =>
  obtain ⟨hi0,hi1⟩:0 ≤ i ∧ i < n:=hok
  have hm:(0:Int) ≤ 1 + n + i ∧ 1 + n + i < (s.W.length:Int):=by omega
  have hg:=h.gn i hi0 hi1
  have e1:(s.load (1 + n + i)).new % 4294967296 = s.at' (1 + n + i):=by rw [load_new hm]; omega
  refine ⟨F,T,Int.le_refl _,by omega,h.same hc (load_len _ _) (load_at hm) ?_ (by rw [hp]; rfl) ?_ hok',Nat.zero_lt_one⟩
  ·rw [hp]
   show (if (0:Int) = 0 then [ixW (wordT i ((s.load (1 + n + i)).new % 4294967296))] else []) = [i]
   rw [if_pos rfl,e1]
   unfold ixW wordT
   congr 1
   omega
  ·refine .inl ⟨rfl,i,s.at' (1 + n + i),?_,hi0,hi1,hg.1,by omega⟩
   show wordT i ((s.load (1 + n + i)).new % 4294967296) = _
   rw [e1]
 | pop p =>
  obtain ⟨hpo,hov⟩:=hok
  cases p with
  | done i=>cases hov
  | go ph w i j =>
   obtain ⟨p1,p2,p3,p4,p5,p6,p7,p8⟩:=hpo
   obtain ⟨t1,t2,t3⟩:=h.topm
   obtain ⟨c1,c2⟩:=hco
   rcases (show ph = 1 ∨ ph = 2 ∨ ph = 3 by omega) with rfl | rfl | rfl
   ·have e0:(s.load 0).new = s.at' 0:=load_new m0
    have e1:idxI n (s.load 0).new = Lift.hd F:=by rw [e0]; exact t3
    by_cases hq:Lift.hd F < 0
    ·have est:AlS.step (arN n lim) (.pop (.go 1 w i j)) s = (.lacks,s.load 0):=by
      have:PopS.step (arN n lim).R (.go 1 w i j) s = (.done (Lift.hd F),s.load 0):=by
       rw [pop1]
       show (if idxI n (s.load 0).new < 0 then PopS.done (idxI n (s.load 0).new) else .go 2 (s.load 0).new (idxI n (s.load 0).new) j,s.load 0) = _
       rw [ e1,if_pos hq]
      simp only [AlS.step,this]
      rw [if_pos hq]
     rw [est] at hok' ⊢
     exact ⟨F,T,Int.le_refl _,by omega,h.same hc (load_len _ _) (load_at m0) (by rw [hp]; rfl) (by rw [hp]; rfl) trivial hok',by simp [mu,t3,hq]⟩
    ·have est:AlS.step (arN n lim) (.pop (.go 1 w i j)) s = (.pop (.go 2 (s.at' 0) (Lift.hd F) j),s.load 0):=by
      have:PopS.step (arN n lim).R (.go 1 w i j) s = (.go 2 (s.at' 0) (Lift.hd F) j,s.load 0):=by
       rw [pop1]
       show (if idxI n (s.load 0).new < 0 then PopS.done (idxI n (s.load 0).new) else .go 2 (s.load 0).new (idxI n (s.load 0).new) j,s.load 0) = _
       rw [ e1,if_neg hq,e0]
      simp only [AlS.step,this]
     rw [est] at hok' ⊢
     exact ⟨F,T,Int.le_refl _,by omega,h.same hc (load_len _ _) (load_at m0) (by rw [hp]; rfl) (by rw [hp]; rfl) ⟨fun _=>⟨by omega,t1⟩,fun k=>absurd k (by decide)⟩ hok',by simp [mu,t3,hq,load_at m0]⟩
   ·have hi0:=p8 (by decide)
    have p5':i < n:=p5
    have hm:(0:Int) ≤ 1 + i ∧ 1 + i < (s.W.length:Int):=by omega
    have est:AlS.step (arN n lim) (.pop (.go 2 w i j)) s = (.pop (.go 3 w i (idxI n (s.at' (1 + i)))),s.load (1 + i)):=by
     have:PopS.step (arN n lim).R (.go 2 w i j) s = (.go 3 w i (idxI n (s.at' (1 + i))),s.load (1 + i)):=by
      rw [pop2]
      show (PopS.go 3 w i (idxI n (s.load (1 + i)).new),s.load (1 + i)) = _
      rw [load_new hm]
     simp only [AlS.step,this]
    rw [est] at hok' ⊢
    refine ⟨F,T,Int.le_refl _,by omega,h.same hc (load_len _ _) (load_at hm) (by rw [hp]; rfl) (by rw [hp]; rfl) ⟨fun _=>c1 (by decide),fun _ e=>?_⟩ hok',by by_cases q:s.at' 0 = w <;> simp [mu,load_at hm,q]⟩
    have hi:=(c1 (by decide)).2
    rw [← e,t1] at hi
    cases F with
    | nil=>exact absurd hi (by show ¬ (-1:Int) = i; omega)
    | cons a F' =>
     have ha:a = i:=hi
     subst ha
     refine ⟨rfl,?_⟩
     have hl:=h.ch.1
     have hr:=h.hdn rfl
     rw [hl]
     unfold idxI
     rw [if_neg (by omega)]
     show _ = Lift.hd F'
     omega
   ·have hi0:=p8 (by decide)
    have p7':j < n:=p7
    have hh:(s.cas 0 w (topI j w)).held = decide (s.at' 0 = w):=cas_held m0 _ _
    by_cases e:s.at' 0 = w
    ·obtain ⟨d1,d2⟩:=c2 rfl e
     have est:AlS.step (arN n lim) (.pop (.go 3 w i j)) s = (.gives i,s.cas 0 w (topI j w)):=by
      have:PopS.step (arN n lim).R (.go 3 w i j) s = (.done i,s.cas 0 w (topI j w)):=by
       rw [pop3]
       show (if (s.cas 0 w (topI j w)).held = true then PopS.done i else .go 1 w i j,s.cas 0 w (topI j w)) = _
       rw [hh,if_pos (by simp [e])]
      simp only [AlS.step,this]
      rw [if_neg (by omega)]
     rw [est] at hok' ⊢
     have hw:w / 65536 = T:=by rw [← e]; exact t2
     have ht:=h.t0
     refine ⟨F.tail,T + 1,by omega,Int.le_refl _,h.swap hT hc (v:=topI j w) ?_ (h.hdn d1) (cas_len _ _ _ _) (fun b=>?_) (fun a=>?_) ?_ (by rw [hp]; rfl) ?_ trivial hok',by simp [mu,e]⟩
     ·rw [← d2]; unfold topI wordT; rw [hw]; omega
     ·rw [cas_at m0]; by_cases q:b = 0
      ·rw [if_pos ⟨q,e⟩,if_pos q]
      ·rw [if_neg (fun k=>q k.1),if_neg q]
     ·rw [hp]
      show F.tail.count a + [i].count a = F.count a + ([]:List Int).count a
      have:F.count a = (i :: F.tail).count a:=by rw [← d1]
      rw [this,List.count_cons,List.count_cons,List.count_nil]
      omega
     ·rw [hp]
      show (F.tail.length:Int) + ([i]:List Int).length = F.length + ([]:List Int).length
      have:F.length = (i :: F.tail).length:=by rw [← d1]
      rw [this]
      simp
     ·have hch:=h.ch
      rw [d1] at hch
      exact hch.2
    ·have est:AlS.step (arN n lim) (.pop (.go 3 w i j)) s = (.pop (.go 1 w i j),s.cas 0 w (topI j w)):=by
      have:PopS.step (arN n lim).R (.go 3 w i j) s = (.go 1 w i j,s.cas 0 w (topI j w)):=by
       rw [pop3]
       show (if (s.cas 0 w (topI j w)).held = true then PopS.done i else .go 1 w i j,s.cas 0 w (topI j w)) = _
       rw [hh,if_neg (by simp [e])]
      simp only [AlS.step,this]
     rw [est] at hok' ⊢
     exact ⟨F,T,Int.le_refl _,by omega,h.same hc (cas_len _ _ _ _) (fun b=>by rw [cas_at m0,if_neg (fun k=>e k.2)]) (by rw [hp]; rfl) (by rw [hp]; rfl) ⟨fun k=>absurd rfl k,fun k=>absurd k (by decide)⟩ hok',by have key:∀ (P:Prop) [Decidable P],(if P then 2 else 4) < 5:=fun P _=>(by split <;> decide); simp [mu,e,key]⟩
end
end Go.Proofs.YtlaojmcekeohnaaGreatDoor.Lift
set_option linter.unusedVariables false
set_option linter.unusedSimpArgs false
set_option maxRecDepth 20000
namespace Go.Proofs.YtlaojmcekeohnaaGreatDoor.Lift
open Go Go.Proofs.YtlaojmcekeohnaaGreatDoor.Gh Go.Proofs
theorem pus1 (R:Sk) (w i:Int) (s:MS):PusS.step R (.go 1 w i) s = (.go 2 (s.load R.top).new i,s.load R.top):=by simp [PusS.step]
theorem pus2 (R:Sk) (w i:Int) (s:MS):PusS.step R (.go 2 w i) s = (.go 3 w i,s.store (R.links + i) (idxI R.size w + 1)):=by simp [PusS.step]
theorem pus3 (R:Sk) (w i:Int) (s:MS):PusS.step R (.go 3 w i) s = (if (s.cas R.top w (topI i w)).held = true then .done 0 else .go 1 w i,s.cas R.top w (topI i w)):=by simp [PusS.step]
section
variable {n lim T:Int} {F H:List Int} {s:MS} {k:Nat → CoS} {c:Nat}
theorem arN_ok (h1:1 ≤ n ∧ n ≤ 8) (h2:1 ≤ lim ∧ lim ≤ 1000):(arN n lim).ok:=⟨⟨by show 1 ≤ n; omega,by show n ≤ 4096; omega,by show (0:Int) ≤ 0; decide,by show (0:Int) < 4096; decide,by show (0:Int) ≤ 1; decide,by show 1 + n ≤ 4096; omega⟩,by show 0 ≤ 1 + n; omega,by show 1 + n + n ≤ 4096; omega,by show 0 ≤ 1 + 2 * n; omega,by show 1 + 2 * n < 4096; omega,by show 1 ≤ lim; omega,by show lim ≤ 4294967295; omega⟩
theorem RI.writes (h:RI n lim T F H s k) (hc:c < 3) {y:CoS} {s':MS} (hl:s'.W.length = s.W.length) (h0:s'.at' 0 = s.at' 0) (hli:∀ a,0 ≤ a → a < n → a ∉ ow (k c) → s'.at' (1 + a) = s.at' (1 + a)) (hgn:∀ i,0 ≤ i → i < n → 1 ≤ s'.at' (1 + n + i) ∧ s'.at' (1 + n + i) ≤ lim)
  (hsub:∀ a,(ow y).count a ≤ (ow (k c)).count a) (hln:((ow y).length:Int) + wc y + s'.at' (1 + 2 * n) = (ow (k c)).length + wc (k c) + s.at' (1 + 2 * n)) (hwn:s.at' (1 + 2 * n) ≤ s'.at' (1 + 2 * n)) (hy:CoOk n lim s'.at' F T y) (hk:okK (arN n lim) y):RI n lim T F H s' (upN k c y):=by
 have h1:=h.n1
 have e1:∀ a,cO (upN k c y) a ≤ cO k a:=fun a=>by have:=cO_up (k:=k) (y:=y) hc a; have:=hsub a; omega
 have e2:=lO_up (k:=k) (y:=y) hc
 have e3:=wO_up (k:=k) (y:=y) hc
 have hmem:∀ a,a ∈ F → s'.at' (1 + a) = s.at' (1 + a):=fun a ha=>by
  have hca:=List.one_le_count_iff.2 ha
  have hr:=h.rg a (by omega)
  exact hli a hr.1 hr.2 fun hx=>(h.owned hc hx).2.2.1 ha
 refine ⟨h.n1,h.lm,by rw [hl]; exact h.len,by rw [h0]; exact h.top,h.t0,h.ch.to hmem,hgn,fun a=>Nat.le_trans (Nat.add_le_add_left (e1 a) _) (h.nd a),fun a ha=>h.rg a (Nat.le_trans ha (Nat.add_le_add_left (e1 a) _)),by have:=h.ln; omega,by have:=h.w0; omega,fun c' hc'=>?_,fun c' hc'=>?_⟩
 ·by_cases q:c' = c
  ·subst q; rw [upN_same]; exact hy
  ·rw [upN_ne _ _ q]
   refine (h.co c' hc').other (Int.le_refl _) (fun w _ e=>⟨by rw [← h0]; exact e,rfl⟩) (fun i hi=>?_) hwn
   have ho:=h.owned hc' hi
   exact hli i ho.1 ho.2.1 (ho.2.2.2.2 c hc (Ne.symm q))
 ·by_cases q:c' = c
  ·subst q; rw [upN_same]; exact hk
  ·rw [upN_ne _ _ q]; exact h.ok c' hc'
theorem RI.festep (h:RI n lim T F H s k) (hs:s.ok) (hT:T < 999999) (hc:c < 3) {p:FeS} (hp:k c = .fe p) (ho:p.over = false):∃ F' T',T ≤ T' ∧ T' ≤ T + 1 ∧ RI n lim T' F' H (p.step (arN n lim) s).2 (upN k c (.fe (p.step (arN n lim) s).1)) ∧ mu n ((p.step (arN n lim) s).2.at' 0) (.fe (p.step (arN n lim) s).1) < mu n (s.at' 0) (.fe p):=by
 have hn:=h.n1
 have hlen:=h.len
 have hco:=h.co c hc
 have hok:=h.ok c hc
 have hlm:=h.lm
 have hA:=arN_ok hn hlm
 rw [hp] at hco hok
 have hok':=(FeS.ok.step hA hok hs).1
 have m0:=h.m0
 cases p with
 | done e=>cases ho
 | looks i =>
  have hi:=h.owned hc (i:=i) (by rw [hp]; simp [ow])
  have hm:(0:Int) ≤ 1 + n + i ∧ 1 + n + i < (s.W.length:Int):=by omega
  have hg:=h.gn i hi.1 hi.2.1
  have e1:(s.load (1 + n + i)).new = s.at' (1 + n + i):=load_new hm
  have e2:s.at' (1 + n + i) % 4294967296 = s.at' (1 + n + i):=by omega
  by_cases q:lim ≤ s.at' (1 + n + i)
  ·have est:FeS.step (arN n lim) (.looks i) s = (.wears,s.load (1 + n + i)):=by
    show (if lim ≤ (s.load (1 + n + i)).new % 4294967296 then FeS.wears else .raises i (s.load (1 + n + i)).new,s.load (1 + n + i)) = _
    rw [e1,e2,if_pos q]
   rw [est] at hok' ⊢
   have ha:=load_at hm
   refine ⟨F,T,Int.le_refl _,by omega,h.writes hc (load_len _ _) (ha _) (fun a _ _ _=>ha _) (fun j h1 h2=>by rw [ha]; exact h.gn j h1 h2) (fun a=>by simp [ow]) ?_ (by rw [ha]; exact Int.le_refl _) trivial hok',by simp [mu]⟩
   rw [hp,ha]
   simp [ow,wc]
  ·have est:FeS.step (arN n lim) (.looks i) s = (.raises i (s.at' (1 + n + i)),s.load (1 + n + i)):=by
    show (if lim ≤ (s.load (1 + n + i)).new % 4294967296 then FeS.wears else .raises i (s.load (1 + n + i)).new,s.load (1 + n + i)) = _
    rw [e1,e2,if_neg q]
   rw [est] at hok' ⊢
   exact ⟨F,T,Int.le_refl _,by omega,h.same hc (load_len _ _) (load_at hm) (by rw [hp]; rfl) (by rw [hp]; rfl) ⟨hg.1,by omega⟩ hok',by simp [mu]⟩
 | raises i g =>
  have hi:=h.owned hc (i:=i) (by rw [hp]; simp [ow])
  have hm:(0:Int) ≤ 1 + n + i ∧ 1 + n + i < (s.W.length:Int):=by omega
  obtain ⟨g1,g2⟩:=hco
  have ew:IntKind.wrap .u64 (g + 1) = g + 1:=by rw [wrap_u64]; omega
  have est:FeS.step (arN n lim) (.raises i g) s = (.push (.go 1 0 i),s.store (1 + n + i) (g + 1)):=by
   show (FeS.push (.go 1 0 i),s.store (1 + n + i) (IntKind.wrap .u64 (g + 1))) = _
   rw [ew]
  rw [est] at hok' ⊢
  have ha:=store_at hm (g + 1)
  refine ⟨F,T,Int.le_refl _,by omega,h.writes hc (store_len _ _ _) (by rw [ha,if_neg (by omega)]) (fun a h1 h2 _=>by rw [ha,if_neg (by omega)]) (fun j h1 h2=>?_) (fun a=>by rw [hp]; exact Nat.le_refl _) ?_ (by rw [ha,if_neg (by omega)]; exact Int.le_refl _) ⟨fun k=>absurd rfl k,fun k=>absurd k (by decide)⟩ hok',by simp [mu]⟩
  ·rw [ha]
   by_cases e:j = i
   ·rw [if_pos (by rw [e])]; omega
   ·rw [if_neg (by omega)]; exact h.gn j h1 h2
  ·rw [ha,if_neg (by omega),hp]
   rfl
 | wears =>
  have hm:(0:Int) ≤ 1 + 2 * n ∧ 1 + 2 * n < (s.W.length:Int):=by omega
  have hw0:=h.w0
  have hle:s.at' (1 + 2 * n) ≤ n:=by
   have:=h.ln
   have q1:0 ≤ lO k:=by unfold lO; omega
   have q2:0 ≤ wO k:=by unfold wO; have:=wc_nn (k 0); have:=wc_nn (k 1); have:=wc_nn (k 2); omega
   omega
  have ew:IntKind.wrap .u64 (s.at' (1 + 2 * n) + 1) = s.at' (1 + 2 * n) + 1:=by rw [wrap_u64]; omega
  have ha:=add_at hm 1
  rw [ew] at ha
  refine ⟨F,T,Int.le_refl _,by omega,h.writes hc (add_len _ _ _) ?_ (fun a h1 h2 _=>?_) (fun j h1 h2=>?_) (fun a=>by rw [hp]; exact Nat.le_refl _) ?_ ?_ trivial hok',Nat.zero_lt_one⟩
  ·show (s.add (1 + 2 * n) 1).at' 0 = _
   rw [ha,if_neg (by omega)]
  ·show (s.add (1 + 2 * n) 1).at' _ = _
   rw [ha,if_neg (by omega)]
  ·show 1 ≤ (s.add (1 + 2 * n) 1).at' _ ∧ (s.add (1 + 2 * n) 1).at' _ ≤ lim
   rw [ha,if_neg (by omega)]
   exact h.gn j h1 h2
  ·show (0:Int) + 0 + (s.add (1 + 2 * n) 1).at' (1 + 2 * n) = _
   rw [ha,if_pos rfl,hp]
   show 0 + 0 + (s.at' (1 + 2 * n) + 1) = 0 + 1 + s.at' (1 + 2 * n)
   omega
  ·show _ ≤ (s.add (1 + 2 * n) 1).at' (1 + 2 * n)
   rw [ha,if_pos rfl]
   omega
 | push p =>
  cases p with
  | done e=>exact hco.elim
  | go ph w i =>
   have hi:=h.owned hc (i:=i) (by rw [hp]; simp [ow])
   obtain ⟨p1,p2,p3,p4,p5⟩:=hok
   obtain ⟨t1,t2,t3⟩:=h.topm
   obtain ⟨c1,c2⟩:=hco
   rcases (show ph = 1 ∨ ph = 2 ∨ ph = 3 by omega) with rfl | rfl | rfl
   ·have est:FeS.step (arN n lim) (.push (.go 1 w i)) s = (.push (.go 2 (s.at' 0) i),s.load 0):=by
     simp only [FeS.step]
     rw [pus1]
     show (if (PusS.go 2 (s.load 0).new i).over = true then FeS.done 0 else FeS.push (.go 2 (s.load 0).new i),s.load 0) = _
     rw [load_new m0]
     rfl
    rw [est] at hok' ⊢
    exact ⟨F,T,Int.le_refl _,by omega,h.same hc (load_len _ _) (load_at m0) (by rw [hp]; rfl) (by rw [hp]; rfl) ⟨fun _=>by omega,fun k=>absurd k (by decide)⟩ hok',by simp [mu,load_at m0]⟩
   ·have hm:(0:Int) ≤ 1 + i ∧ 1 + i < (s.W.length:Int):=by omega
    have est:FeS.step (arN n lim) (.push (.go 2 w i)) s = (.push (.go 3 w i),s.store (1 + i) (idxI n w + 1)):=by
     simp only [FeS.step]
     rw [pus2]
     rfl
    rw [est] at hok' ⊢
    have ha:=store_at hm (idxI n w + 1)
    refine ⟨F,T,Int.le_refl _,by omega,h.writes hc (store_len _ _ _) (by rw [ha,if_neg (by omega)]) (fun a h1 h2 h3=>?_) (fun j h1 h2=>by rw [ha,if_neg (by omega)]; exact h.gn j h1 h2) (fun a=>by rw [hp]; exact Nat.le_refl _) ?_ (by rw [ha,if_neg (by omega)]; exact Int.le_refl _) ⟨fun _=>c1 (by decide),fun _=>by rw [ha,if_pos rfl]⟩ hok',by have h0:¬ (0:Int) = 1 + i:=(by omega); by_cases q:s.at' 0 = w <;> simp [mu,ha,h0,q]⟩
    ·have:a ≠ i:=fun e=>h3 (by rw [hp,e]; simp [ow])
     rw [ha,if_neg (by omega)]
    ·rw [ha,if_neg (by omega),hp]
     rfl
   ·have hh:(s.cas 0 w (topI i w)).held = decide (s.at' 0 = w):=cas_held m0 _ _
    by_cases e:s.at' 0 = w
    ·have est:FeS.step (arN n lim) (.push (.go 3 w i)) s = (.done 0,s.cas 0 w (topI i w)):=by
      simp only [FeS.step]
      rw [pus3]
      show (if (if (s.cas 0 w (topI i w)).held = true then PusS.done 0 else .go 1 w i).over = true then FeS.done 0 else FeS.push (if (s.cas 0 w (topI i w)).held = true then PusS.done 0 else .go 1 w i),s.cas 0 w (topI i w)) = _
      rw [hh,decide_eq_true e,if_pos rfl]
      rfl
     rw [est] at hok' ⊢
     have hw:w / 65536 = T:=by rw [← e]; exact t2
     have hix:idxI n w = Lift.hd F:=by rw [← e]; exact t3
     have ht:=h.t0
     refine ⟨i :: F,T + 1,by omega,Int.le_refl _,h.swap hT hc (v:=topI i w) ?_ ⟨by show -1 ≤ i; omega,hi.2.1⟩ (cas_len _ _ _ _) (fun b=>?_) (fun a=>?_) ?_ (by rw [hp]; rfl) ⟨by rw [c2 rfl,hix],h.ch⟩ trivial hok',by simp [mu,e]⟩
     ·show topI i w = i + 1 + _
      unfold topI wordT; rw [hw]; omega
     ·rw [cas_at m0]; by_cases q:b = 0
      ·rw [if_pos ⟨q,e⟩,if_pos q]
      ·rw [if_neg (fun k=>q k.1),if_neg q]
     ·rw [hp]
      show (i :: F).count a + ([]:List Int).count a = F.count a + [i].count a
      rw [List.count_cons,List.count_cons,List.count_nil]
      omega
     ·rw [hp]
      show (((i :: F).length:Nat):Int) + (([]:List Int).length:Nat) = F.length + (([i]:List Int).length:Nat)
      simp
    ·have est:FeS.step (arN n lim) (.push (.go 3 w i)) s = (.push (.go 1 w i),s.cas 0 w (topI i w)):=by
      simp only [FeS.step]
      rw [pus3]
      show (if (if (s.cas 0 w (topI i w)).held = true then PusS.done 0 else .go 1 w i).over = true then FeS.done 0 else FeS.push (if (s.cas 0 w (topI i w)).held = true then PusS.done 0 else .go 1 w i),s.cas 0 w (topI i w)) = _
      rw [hh,decide_eq_false e]
      rfl
     rw [est] at hok' ⊢
     exact ⟨F,T,Int.le_refl _,by omega,h.same hc (cas_len _ _ _ _) (fun b=>by rw [cas_at m0,if_neg (fun k=>e k.2)]) (by rw [hp]; rfl) (by rw [hp]; rfl) ⟨fun k=>absurd rfl k,fun k=>absurd k (by decide)⟩ hok',by simp [mu,e]⟩
end
end Go.Proofs.YtlaojmcekeohnaaGreatDoor.Lift
