import Derived.Test.YtedmgpchggogpaaGreatEH
import Derived.Test.YtedmgpchggogpaaGreatEC
import Derived.Test.YtedmgpchggogpaaGreatEA
set_option linter.unusedVariables false
set_option linter.unusedSimpArgs false
set_option maxRecDepth 20000
namespace Go.Proofs.YtedmgpchggogpaaGreat.Lift
open Go Go.Proofs.YtedmgpchggogpaaGreat.Gh Go.Proofs
variable (orc:FuncId → Bool)
def BaS.new (t:TW):BaS:=⟨0,.new t,0,[],-1,0,0⟩
def BaS.no (t:TW):BaS:=⟨9,.new t,0,[],-1,0,3⟩
abbrev RunW.cells (w:RunW):List Value:=[.int .i64 w.runs,.int .i64 w.flags,.int .i64 w.cores]
abbrev RunW.v (w:RunW):Value:=.agg ⟨w.cells⟩
section
variable {own own' own0 own1 own2:Nat → Nat} {tb tag tg m r b lb q:Nat} {t:TW} {w:RunW} {c:Int} {G G' G1 G2:GS} {s s' s1:MS} {x:BaS} {v:Value} {L:List Int}
theorem BaS.new_ok (hs:t.sound) (hw:w.good):(BaS.new t).ok t w:=⟨.inl rfl,LkS.new_ok hs,U_zero',by simp [BaS.new],fun _=>by have:=hw.1; simp [BaS.new]; omega,U_zero'⟩
theorem BaS.new_kp (t:TW):(BaS.new t).kp:=⟨fun _=>⟨by simp [BaS.new,LkS.new],rfl,rfl⟩,by simp [BaS.new],by simp [BaS.new],by simp [BaS.new],fun _=>rfl⟩
theorem BaS.no_ok (hs:t.sound) (hw:w.good):(BaS.no t).ok t w:=⟨.inr (.inr (.inr rfl)),LkS.new_ok hs,U_zero',by simp [BaS.no],by simp [BaS.no],U_zero'⟩
theorem BaS.no_kp (t:TW):(BaS.no t).kp:=⟨by simp [BaS.no],fun _=>rfl,by simp [BaS.no],by simp [BaS.no],by simp [BaS.no]⟩
theorem rsized_ok (w:RunW) (G:GS):(E orc).cl 58 [w.v] G = some (.bool (decide w.sized),G.push ⟨w.cells,1,false,1⟩):=by
 refine f58 (exL_ok Q orc) _ G _ ?_
 unfold RunW.sized
 by_cases h1:1 ≤ w.cores
 ·by_cases h2:w.cores ≤ 64 <;> simp [s58,h1,h2]
 ·simp [s58,h1]
theorem many26_ok (n:Int) (G:GS):(E orc).cl 71 [.int .i64 n] G = some (.bool (decide (1 ≤ n ∧ n ≤ 64)),G):=by
 refine f71 (exL_ok Q orc) _ G _ ?_
 by_cases h1:1 ≤ n
 ·by_cases h2:n ≤ 64 <;> simp [s71,h1,h2]
 ·simp [s71,h1]
theorem lkItemE (hlb:lb < G.nx) (ho:G.obj lb = some ⟨[.int .i64 t.nodes,.int .i64 t.heads,.int .i64 t.height,.int .i64 t.top,.int .i64 t.links,.int .i64 t.size,.int .i64 t.u6,.int .i64 t.u7,.int .i64 t.u8,.int .i64 t.u9,.int .i64 t.u10,.int .i64 t.u11,.int .i64 t.u12,.int .i64 c,.bool true,.int .i64 0,.slice none 0 0,.int .u64 0,.int .i64 3,.int .u64 0,.int .i64 0,.int .i64 0],1,false,1⟩) :
  ∃ G',(E orc).cl 66 [P0 lb] G = some (.tuple #[itemV 0 0,.int .i64 3],G') ∧ Ext G G':=by
 obtain ⟨G1,hG1⟩:∃ G1,G1 = (G.push ⟨z120,1,false,1⟩).room 12:=⟨_,rfl⟩
 have x1:Ext G G1:=by rw [hG1]; exact ((Ext.refl G).push _).room 12
 have n1:G1.nx = G.nx + 13:=by rw [hG1]; simp
 have o1:=(x1.obj lb hlb).trans ho
 have p1:G1.obj G.nx = some ⟨z120,1,false,1⟩:=by rw [hG1]; simp
 have hz:z120 = [.int .u64 0,.int .i64 0]:=rfl
 obtain ⟨G2,hG2⟩:∃ G2,G2 = (G1.push ⟨[.int .u64 0,.int .i64 0,.int .i64 0],1,false,1⟩).push ⟨z120,1,false,1⟩:=⟨_,rfl⟩
 have x2:Ext G1 G2:=by rw [hG2]; exact ((Ext.refl _).push _).push _
 have o2:=(x2.obj lb (by omega)).trans o1
 have e2:(E orc).cl 103 [P0 lb] G2 = some (.int .i64 3,G2):=f103 (exL_ok Q orc) _ _ _ (by simp [s103,o2])
 have e3:(E orc).cl 111 [.agg ⟨[.int .u64 0,.int .i64 0,.int .i64 0]⟩,P0 lb] G1 = some (.tuple #[itemV 0 0,.int .i64 3],G2.put (G1.nx + 1) ⟨[.int .u64 0,.int .i64 0],1,false,1⟩):=by
  refine f111 (exL_ok Q orc) _ _ _ _ ?_
  have q2:G2.obj (G1.nx + 1) = some ⟨z120,1,false,1⟩:=by rw [hG2]; simp
  unfold itemV
  simp [s111,← hG2,e2,q2,hz,splice_put,splice_end]
 have n2:=x2.nx
 have p2:(G2.put (G1.nx + 1) ⟨[.int .u64 0,.int .i64 0],1,false,1⟩).obj G.nx = some ⟨z120,1,false,1⟩:=by
  rw [obj_put,if_neg (by omega)]
  exact (x2.obj G.nx (by omega)).trans p1
 have y:Ext G (G2.put (G1.nx + 1) ⟨[.int .u64 0,.int .i64 0],1,false,1⟩):=(x1.trans x2).put (by omega) _
 generalize G2.put (G1.nx + 1) ⟨[.int .u64 0,.int .i64 0],1,false,1⟩ = G3 at *
 have w:Wp (s66 true (exL Q orc) (P0 lb) G) fun r=>r.1 = .tuple #[itemV 0 0,.int .i64 3] ∧ Ext G r.2:=by
  unfold itemV at *
  simp [s66,← hG1,o1,e3,p2,hz,splice_put,splice_end]
  exact y.put (Nat.le_refl _) _
 obtain ⟨⟨v,G'⟩,e1,rfl,e3⟩:=w
 exact ⟨G',f66 (exL_ok Q orc) _ G _ e1,e3⟩
theorem newbal_ok (hs:t.sound) (h0:0 ≤ atI t 0 0) (hw:w.good) (c:Int) (G:GS):∃ b G',(E orc).cl 25 [t.v,w.v,.int .i64 c] G = some (P0 b,G') ∧ Ext G G' ∧ (G.nx ≤ b ∧ b < G'.nx) ∧
  ∀ own tb tag tg,tb ≠ tag → tb ≠ tg → own b = tb → (∀ g,G.nx ≤ g → g < G'.nx → g ≠ b → own g = tag) → BaP own tb tag tg t w c G' b (if 0 ≤ c ∧ c < t.u11 then .new t else .no t):=by
 have hz:z118 = [.int .i64 0,.int .i64 0,.int .i64 0,.int .i64 0,.int .i64 0,.pointer none,.int .u64 0,.slice none 0 0,.int .i64 0,.int .i64 0,.int .u64 0,.bool false,.bool false,.int .i64 0]:=rfl
 have hz2:z114 = [.int .i64 0,.int .i64 0]:=rfl
 have hz3:z120 = [.int .u64 0,.int .i64 0]:=rfl
 obtain ⟨G1,hG1⟩:∃ G1,G1 = ((G.push ⟨t.cells,1,false,1⟩).push ⟨w.cells,1,false,1⟩):=⟨_,rfl⟩
 have x1:Ext G G1:=by rw [hG1]; exact ((Ext.refl G).push _).push _
 have n1:G1.nx = G.nx + 2:=by rw [hG1]; rfl
 have ot1:G1.obj G.nx = some ⟨t.cells,1,false,1⟩:=by rw [hG1]; simp
 have ow1:G1.obj (G.nx + 1) = some ⟨w.cells,1,false,1⟩:=by rw [hG1]; simp
 have otr:(G1.room 12).obj G.nx = some ⟨t.cells,1,false,1⟩:=by simpa using ot1
 have owr:(G1.room 12).obj (G.nx + 1) = some ⟨w.cells,1,false,1⟩:=by simpa using ow1
 obtain ⟨b,hb⟩:∃ b,b = G1.nx + 10:=⟨_,rfl⟩
 have hsz:w.sized:=⟨hw.1,hw.2.1⟩
 have key:∀ lb G2,(E orc).cl 65 [t.v,.int .i64 c] (G1.room 12) = some (P0 lb,G2) → Ext (G1.room 12) G2 → (G1.room 12).nx ≤ lb → lb < G2.nx → ∀ er G4,er ≠ 0 → (E orc).cl 66 [P0 lb] (G2.put b (baB w w.runs w.cores (P0 lb) 0 (.slice none 0 0) (-1) (-1) 0 false 0)) = some (.tuple #[itemV 0 0,.int .i64 er],G4) → Ext (G2.put b (baB w w.runs w.cores (P0 lb) 0 (.slice none 0 0) (-1) (-1) 0 false 0)) G4 →
   ∃ G',(E orc).cl 25 [t.v,w.v,.int .i64 c] G = some (P0 b,G') ∧ Ext G G' ∧ b < G'.nx ∧ G2.nx ≤ G'.nx ∧ (∀ g,g < G2.nx → g ≠ b → G'.obj g = G2.obj g) ∧ G'.obj b = some (if er = 14 then baB w w.runs w.cores (P0 lb) 0 (.slice none 0 0) (-1) (-1) 0 false 0 else baB w w.runs w.cores (P0 lb) 0 (.slice none 0 0) (-1) (-1) 0 true er):=by
  intro lb G2 e2 x2 hl1 hl2 er G4 her e4 x4
  have y2:Ext G1 G2:=((Ext.refl G1).room 12).trans x2
  have n2:=x2.nx
  simp at n2
  obtain ⟨G3,hG3⟩:∃ G3,G3 = G2.put b (baB w w.runs w.cores (P0 lb) 0 (.slice none 0 0) (-1) (-1) 0 false 0):=⟨_,rfl⟩
  rw [← hG3] at e4 x4
  have n3:G3.nx = G2.nx:=by rw [hG3]; rfl
  have x3:Ext G1 G3:=by rw [hG3]; exact y2.put (by omega) _
  have ow2:=(y2.obj (G.nx + 1) (by omega)).trans ow1
  have ob3:G3.obj b = some (baB w w.runs w.cores (P0 lb) 0 (.slice none 0 0) (-1) (-1) 0 false 0):=by rw [hG3]; simp
  have ob4:=(x4.obj b (by omega)).trans ob3
  have ow4:=(x4.obj (G.nx + 1) (by omega)).trans ((x3.obj (G.nx + 1) (by omega)).trans ow1)
  have n4:=x4.nx
  obtain ⟨G5,hG5⟩:∃ G5,G5 = (G4.push ⟨z120,1,false,1⟩).put G4.nx ⟨[.int .u64 0,.int .i64 0],1,false,1⟩:=⟨_,rfl⟩
  have x5:Ext G4 G5:=by rw [hG5]; exact extPP _ _
  have ob5:=(x5.obj b (by omega)).trans ob4
  have ow5:=(x5.obj (G.nx + 1) (by omega)).trans ow4
  have n5:=x5.nx
  have x45:=x4.trans x5
  have hk:∀ g,g < G2.nx → g ≠ b → G5.obj g = G2.obj g:=fun g hg hne=>by rw [x45.obj g (by omega),hG3,obj_put,if_neg hne]
  rw [hz3] at hG5
  unfold itemV at e4
  by_cases c14:er = 14
  ·subst c14
   have e6:=rsized_ok orc w G5
   simp only [hsz,decide_true] at e6
   refine ⟨G5.push ⟨w.cells,1,false,1⟩,f25 (exL_ok Q orc) _ _ _ G _ ?_,((x1.trans x3).trans x45).push _,by simp; omega,by simp; omega,fun g hg hne=>?_,?_⟩
   ·simp [s25,hz,hz2,hz3,splice_put,splice_end,splice_succ,← hG1,otr,owr,e2,ow2,sameO,same,sameD,sameD.listD,← hb,drawn_put,← hG3,ob3,e4,← hG5,ow5,e6]
   ·rw [obj_push,if_neg (by omega)]; exact hk g hg hne
   ·rw [obj_push,if_neg (by omega)]; exact ob5
  ·have e6:=bends_ok orc (er':=er) ob5 rfl rfl
   refine ⟨(G5.put b (baB w w.runs w.cores (P0 lb) 0 (.slice none 0 0) (-1) (-1) 0 true 0)).put b (baB w w.runs w.cores (P0 lb) 0 (.slice none 0 0) (-1) (-1) 0 true er),f25 (exL_ok Q orc) _ _ _ G _ ?_,(((x1.trans x3).trans x45).put (by omega) _).put (by omega) _,by simp; omega,by simp; omega,fun g hg hne=>?_,by simp [c14]⟩
   ·simp [s25,hz,hz2,hz3,splice_put,splice_end,splice_succ,← hG1,otr,owr,e2,ow2,sameO,same,sameD,sameD.listD,← hb,drawn_put,← hG3,ob3,e4,← hG5,c14,e6]
   ·rw [obj_put,if_neg hne,obj_put,if_neg hne]; exact hk g hg hne
 by_cases hc:0 ≤ c ∧ c < t.u11
 ·rw [if_pos hc]
  obtain ⟨lb,G2,e2,x2,⟨hl1,hl2⟩,hL⟩:=newlook_ok orc hs h0 hc (G1.room 12)
  have n2:=x2.nx
  simp at n2 hl1
  obtain ⟨k,vv,p,LL,hF,ho,hV,hLL⟩:=hL (fun _=>0) 0 1 fun _ _ _=>rfl
  have hl3:LL.length ≠ 0:=by
   rcases hLL with ⟨_,e,_⟩ | ⟨e,_⟩ | ⟨e,_⟩ | ⟨e,_⟩
   ·rw [e]; simp
   ·exact absurd e (by simp [LkS.new])
   ·exact absurd e (by simp [LkS.new])
   ·exact absurd e (by simp [LkS.new])
  obtain ⟨va,vc,rfl⟩:=hV.sl.len
  have hlb:lb ≠ b:=by omega
  obtain ⟨G4,e4,x4⟩:=lkItem0 orc (G:=G2.put b (baB w w.runs w.cores (P0 lb) 0 (.slice none 0 0) (-1) (-1) 0 false 0)) (lb:=lb) (by simpa using hl2) (by rw [obj_put,if_neg hlb]; exact ho)
  rw [if_neg hl3,if_neg hl3] at e4
  obtain ⟨G',k1,k2,k3,k4,k5,k6⟩:=key lb G2 e2 x2 (by simpa using hl1) hl2 14 G4 (by decide) e4 x4
  refine ⟨b,G',k1,k2,⟨by omega,k3⟩,fun own tb tag tg d1 d2 hbt hg=>⟨⟨k3,hbt⟩,.inl ⟨rfl,lb,by simpa [BaS.new] using k6,?_⟩⟩⟩
  have:=hL own tag tg fun g h1 h2=>hg g (by simp at h1; omega) (by omega) (by simp at h1; omega)
  exact this.to k4 (fun g hgl hgt=>k5 g hgl (by rintro rfl; rw [hbt] at hgt; rcases hgt with h | h; exact d1 h; exact d2 h)) (Agr.refl _ _)
 ·rw [if_neg hc]
  obtain ⟨lb,G2,e2,x2,⟨hl1,hl2⟩,-,-,ho⟩:=newlook_no orc hs h0 (c:=c) (by omega) (G1.room 12)
  have n2:=x2.nx
  simp at n2 hl1
  have hlb:lb ≠ b:=by omega
  obtain ⟨G4,e4,x4⟩:=lkItemE orc (G:=G2.put b (baB w w.runs w.cores (P0 lb) 0 (.slice none 0 0) (-1) (-1) 0 false 0)) (lb:=lb) (by simpa using hl2) (by rw [obj_put,if_neg hlb]; exact ho)
  obtain ⟨G',k1,k2,k3,k4,k5,k6⟩:=key lb G2 e2 x2 (by simpa using hl1) hl2 3 G4 (by decide) e4 x4
  refine ⟨b,G',k1,k2,⟨by omega,k3⟩,fun own tb tag tg d1 d2 hbt hg=>⟨⟨k3,hbt⟩,.inr (.inr (.inr ⟨rfl,w.runs,w.cores,w,P0 lb,0,.slice none 0 0,-1,-1,rfl,rfl,by simpa [BaS.no] using k6,rfl⟩))⟩⟩
end
section
variable {own own' own0 own1 own2:Nat → Nat} {tb tag tg m r b lb q:Nat} {t:TW} {w:RunW} {c:Int} {G G' G1 G2:GS} {s s' s1:MS} {x:BaS} {v:Value} {L:List Int}
theorem rnewbal_ok (hs:t.sound) (hw:w.good) (c:Int) (G:GS):∃ b lb G',(E orc).cl 34 [t.v,w.v,.int .i64 c] G = some (P0 b,G') ∧ Ext G G' ∧ (G.nx ≤ b ∧ b < G'.nx) ∧ lb ≠ b ∧ G.nx ≤ lb ∧
  ∀ own tb tag tg,tb ≠ tag → tb ≠ tg → own b = tb → own lb = tag → (∀ g,G.nx ≤ g → g < G'.nx → g ≠ b → g ≠ lb → own g = tg) → BaR own tb tag tg t w c G' b (if 0 ≤ c ∧ c < t.u11 then .new t else .no t):=by
 have hz:z143 = [.int .i64 0,.int .i64 0,.int .i64 0,.pointer none,.int .i64 0,.int .u64 0,.slice none 0 0,.int .i64 0,.int .u64 0,.int .i64 0]:=rfl
 obtain ⟨G1,hG1⟩:∃ G1,G1 = ((G.push ⟨t.cells,1,false,1⟩).push ⟨w.cells,1,false,1⟩):=⟨_,rfl⟩
 have x1:Ext G G1:=by rw [hG1]; exact ((Ext.refl G).push _).push _
 have n1:G1.nx = G.nx + 2:=by rw [hG1]; rfl
 have ot1:G1.obj G.nx = some ⟨t.cells,1,false,1⟩:=by rw [hG1]; simp
 have ow1:G1.obj (G.nx + 1) = some ⟨w.cells,1,false,1⟩:=by rw [hG1]; simp
 obtain ⟨G2,e2,x2⟩:=refused_ok orc hs c G1
 have n2:=x2.nx
 have ot2:=(x2.obj G.nx (by omega)).trans ot1
 have ow2:=(x2.obj (G.nx + 1) (by omega)).trans ow1
 have y2:=x1.trans x2
 by_cases hc:0 ≤ c ∧ c < t.u11
 ·rw [if_neg (by omega)] at e2
  rw [if_pos hc]
  have em:=many26_ok orc w.cores G2
  have hm':1 ≤ w.cores ∧ w.cores ≤ 64:=⟨hw.1,hw.2.1⟩
  simp only [hm',decide_true,and_self] at em
  obtain ⟨lb,G3,e3,x3,⟨hl1,hl2⟩,hL⟩:=rnewlook_ok orc hs hc (G2.room 7)
  simp at hl1
  have y3:Ext G2 G3:=((Ext.refl G2).room 7).trans x3
  have n3:=x3.nx
  simp at n3
  have ow3:=(y3.obj (G.nx + 1) (by omega)).trans ow2
  have otr:(G2.room 7).obj G.nx = some ⟨t.cells,1,false,1⟩:=by simpa using ot2
  have owr:(G2.room 7).obj (G.nx + 1) = some ⟨w.cells,1,false,1⟩:=by simpa using ow2
  obtain ⟨b,hb⟩:∃ b,b = G2.nx + 5:=⟨_,rfl⟩
  have hlb:lb ≠ b:=by omega
  refine ⟨b,lb,G3.put b (raB w (P0 lb) 0 0 (.slice none 0 0) (-1) 0 0),f34 (exL_ok Q orc) _ _ _ G _ ?_,(y2.trans y3).put (by omega) _,⟨by omega,by simp; omega⟩,hlb,by omega,fun own tb tag tg d1 d2 hbt hlt hg=>⟨⟨by simp; omega,hbt⟩,.inl ⟨by simp [BaS.new],P0 lb,.slice none 0 0,by simp [BaS.new],rfl,OwW.nil _ _ _,fun ⟨a,n,c',k,_⟩=>(by cases k),fun _=>⟨lb,rfl,rfl,?_⟩⟩⟩⟩
  ·simp [s34,sb34,← hG1,ot1,e2,ow2,em]
   simp [j34_0,jb34_0,clip_t,otr,owr,e3,ow3,sameO,same,sameD,sameD.listD,hz,splice_put,splice_end,splice_succ,← hb,drawn_put]
  ·have:=hL own tag tg hlt fun g h1 h2 h3=>hg g (by simp at h1; omega) (by simp; omega) (by simp at h1; omega) h3
   exact this.to (Nat.le_refl _) (fun g hgl hgt=>by rw [obj_put,if_neg]; rintro rfl; rw [hbt] at hgt; rcases hgt with h | h; exact d1 h; exact d2 h) (Agr.refl _ _)
 ·rw [if_pos (by omega)] at e2
  rw [if_neg hc]
  refine ⟨G2.nx,G2.nx + 1,G2.push (raB ⟨0,0,0⟩ (.pointer none) 9 0 (.slice none 0 0) (-1) 0 3),f34 (exL_ok Q orc) _ _ _ G _ ?_,y2.push _,⟨by omega,by simp⟩,by omega,by omega,fun own tb tag tg d1 d2 hbt hlt hg=>⟨⟨by simp,hbt⟩,.inr ⟨rfl,⟨0,0,0⟩,.pointer none,0,.slice none 0 0,0,rfl,rfl,by simp [BaS.no],rfl⟩⟩⟩
  simp [s34,sb34,← hG1,ot1,e2]
  simp [j34_0,jb34_0,clip_t,hz,splice_put,splice_end,splice_succ]
end
structure Opy (X:Type) where
 e:RowE X
 ok:(Nat → Nat) → GS → Nat → X → Prop
 to:∀ {own own':Nat → Nat} {G G':GS} {i:Nat} {x:X},ok own G i x → G.nx ≤ G'.nx → (∀ g,g < G.nx → own g ∈ [i,100 + i,200 + i,300 + i,400 + i,500 + i] → G'.obj g = G.obj g) → Agr own own' G → ok own' G' i x
structure RK {X:Type} (O:Opy X) (n:Nat) (own:Nat → Nat) (G:GS) (m r cb:Nat) (s:MS) (L:List X):Prop where
 pm:PM own G m s
 rm:RM own G r s
 ok:s.ok
 tc:own cb = 12
 lc:cb < G.nx
 oc:G.obj cb = some ⟨O.e.flat L,O.e.sz,false,1⟩
 len:L.length = n
 n9:n ≤ 9
 core:∀ i x,L[i]? = some x → O.ok own G i x
section
variable {X:Type} {O O':Opy X} {n m r b cb t i:Nat} {B:Nat → Prop} {own own':Nat → Nat} {G G' G1:GS} {s s':MS} {L:List X} {ts:List Nat} {x y:X}
theorem RK.lt (h:RK O n own G m r cb s L) (hx:L[i]? = some x):i < n:=by have:=(List.getElem?_eq_some_iff.1 hx).1; rw [h.len] at this; exact this
theorem RK.to (h:RK O n own G m r cb s L) (q:ModT [13] own G G') (a:Agr own own' G):RK O n own' G' m r cb s L :=
 ⟨h.pm.modT q (by simp) a,h.rm.modT q (by simp) a,h.ok,(a _ h.lc).trans h.tc,Nat.lt_of_lt_of_le h.lc q.nx,(q.same h.lc (by rw [h.tc]; simp)).trans h.oc,h.len,h.n9,
  fun i x hx=>O.to (h.core i x hx) q.nx (fun g hg hi=>q.same hg (by have:=h.lt hx; have:=h.n9; simp at hi ⊢; omega)) a⟩
theorem RK.ext (h:RK O n own G m r cb s L) (x:Ext G G'):RK O n (grown own G 13) G' m r cb s L:=h.to (ModT.ext x) grown_agr
theorem RK.room (h:RK O n own G m r cb s L) (k:Nat):RK O n (grown own G 13) (G.room k) m r cb s L:=h.ext ((Ext.refl G).room k)
theorem RK.begin (h:RK O n own G m r cb s L) (x:Ext G G') (hi:i < n) (a:Agr own own' G) (hy:O.ok own' (G'.put cb ⟨O.e.flat (L.set i y),O.e.sz,false,1⟩) i y) :
  RK O n own' (G'.put cb ⟨O.e.flat (L.set i y),O.e.sz,false,1⟩) m r cb s (L.set i y):=by
 have lc:=h.lc
 have m1:ModT [12] own G (G'.put cb ⟨O.e.flat (L.set i y),O.e.sz,false,1⟩):=(ModT.ext x).put (.inl (by rw [h.tc]; simp)) _
 refine ⟨h.pm.modT m1 (by simp) a,h.rm.modT m1 (by simp) a,h.ok,(a _ lc).trans h.tc,Nat.lt_of_lt_of_le lc x.nx,by simp,by simpa using h.len,h.n9,fun j z hz=>?_⟩
 rw [List.getElem?_set] at hz
 split at hz
 ·rename_i hji
  subst hji
  rw [if_pos (by rw [h.len]; exact hi)] at hz
  cases hz
  exact hy
 ·exact O.to (h.core j z hz) m1.nx (fun g hg hj=>m1.same hg (by have:=h.lt hz; have:=h.n9; simp at hj ⊢; omega)) a
theorem RK.told (h:RK O n own G m r cb s L) (hx:L[i]? = some x) (q:ModT [10,11,i,100 + i,200 + i,300 + i,400 + i,500 + i] own G G') (a:Agr own own' G) (p1:PM own' G' m s') (p2:RM own' G' r s') (p3:s'.ok) (hy:O.ok own' G' i y) (hrow:O.e.row y = O.e.row x) :
  RK O n own' G' m r cb s' (L.set i y):=by
 have hi:=h.lt hx
 have hn:=h.n9
 refine ⟨p1,p2,p3,(a _ h.lc).trans h.tc,Nat.lt_of_lt_of_le h.lc q.nx,?_,by simpa using h.len,hn,fun j z hz=>?_⟩
 ·rw [q.same h.lc (by rw [h.tc]; simp; omega),h.oc]
  congr 2
  have hl:i < L.length:=by rw [h.len]; exact hi
  rw [List.getElem?_eq_getElem hl] at hx
  have hx':=Option.some.inj hx
  rw [← O.e.flat_over L hl,hrow,← hx',O.e.flat_over L hl,List.set_getElem_self]
 ·rw [List.getElem?_set] at hz
  split at hz
  ·rename_i hji
   subst hji
   rw [if_pos (by rw [h.len]; exact hi)] at hz
   cases hz
   exact hy
  ·rename_i hji
   exact O.to (h.core j z hz) q.nx (fun g hg hj=>q.same hg (by have:=h.lt hz; simp at hj ⊢; omega)) a
theorem RK.words (h:RK O n own G m r cb s L):∃ v G',(E orc).cl 24 [P0 m] G = some (v,G') ∧ Ext G G' ∧ OwR (rowsI .u64) G.nx G' v s.W:=by
 obtain ⟨bb,rest,hm⟩:=h.pm; exact words_ok orc hm
theorem RK.rwords (h:RK O n own G m r cb s L):∃ v G',(E orc).cl 45 [P0 r] G = some (v,G') ∧ Ext G G' ∧ OwR (rowsI .u64) G.nx G' v s.W:=rwords_ok orc h.rm
theorem RK.last (h:RK O n own G m r cb s L):∃ G',(E orc).cl 41 [P0 m] G = some (.agg ⟨accV s⟩,G') ∧ Ext G G':=by
 obtain ⟨bb,rest,hm⟩:=h.pm; exact last_ok orc hm
theorem RK.rlast (h:RK O n own G m r cb s L):∃ G',(E orc).cl 42 [P0 r] G = some (.agg ⟨accV s⟩,G') ∧ Ext G G':=by
 obtain ⟨wb,hm⟩:=h.rm; exact rlast_ok orc hm
theorem RK.count (h:RK O n own G m r cb s L):(E orc).cl 43 [P0 m] G = some (.int .i64 s.many,G):=by
 obtain ⟨bb,rest,hm⟩:=h.pm; exact count_ok orc hm
theorem RK.rcount (h:RK O n own G m r cb s L):(E orc).cl 44 [P0 r] G = some (.int .i64 s.many,G):=by
 obtain ⟨wb,hm⟩:=h.rm; exact rcount_ok orc hm
end
theorem xfits_ok (w:RunW) (n:Int) (G:GS):∃ G',(E orc).cl 29 [w.v,.int .i64 n] G = some (.int .i64 (w.code n),G') ∧ Ext G G':=by
 obtain ⟨G1,hG1⟩:∃ G1,G1 = G.push ⟨w.cells,1,false,1⟩:=⟨_,rfl⟩
 have x1:Ext G G1:=by rw [hG1]; exact (Ext.refl G).push _
 have o1:G1.obj G.nx = some ⟨w.cells,1,false,1⟩:=by rw [hG1]; simp
 have n1:G1.nx = G.nx + 1:=by rw [hG1]; rfl
 have e2:=rsized_ok orc w G1
 obtain ⟨G2,hG2⟩:∃ G2,G2 = G1.push ⟨w.cells,1,false,1⟩:=⟨_,rfl⟩
 rw [← hG2] at e2
 have x2:Ext G1 G2:=by rw [hG2]; exact (Ext.refl _).push _
 have o2:=(x2.obj G.nx (by omega)).trans o1
 have y2:=x1.trans x2
 have w:Wp (s29 true (exL Q orc) w.v (.int .i64 n) G) fun r=>r.1 = .int .i64 (w.code n) ∧ Ext G r.2:=by
  by_cases c1:n < 1
  ·have hc:w.code n = 3:=by unfold RunW.code; rw [if_pos (.inl c1)]
   rw [hc]; simp [s29,← hG1,c1,x1]
  by_cases c2:4096 < n
  ·have hc:w.code n = 3:=by unfold RunW.code; rw [if_pos (.inr c2)]
   rw [hc]; simp [s29,← hG1,c1,c2,x1]
  by_cases hs:w.sized
  ·simp only [hs,decide_true] at e2
   have hs1:=hs.1
   have hs2:=hs.2
   have hw:IntKind.wrap .i64 (n - w.cores) = n - w.cores:=wrap64 (by omega) (by omega)
   by_cases hlt:w.flags < w.runs
   ·have hlt':¬ w.runs < w.flags:=by omega
    by_cases c3:w.flags < 0
    ·have hc:w.code n = 2:=by unfold RunW.code; rw [if_neg (by omega),if_pos (by omega)]
     rw [hc]; simp [s29,← hG1,c1,c2,o1,e2,o2,hlt,hlt',c3,y2]
    by_cases c4:n - w.cores < w.runs
    ·have hc:w.code n = 2:=by unfold RunW.code; rw [if_neg (by omega),if_pos (by omega)]
     rw [hc]; simp [s29,← hG1,c1,c2,o1,e2,o2,hlt,hlt',c3,hw,c4,y2]
    have hw2:IntKind.wrap .i64 (w.runs - w.flags) = w.runs - w.flags:=wrap64 (by omega) (by omega)
    by_cases c5:w.runs - w.flags < w.cores
    ·have hc:w.code n = 2:=by unfold RunW.code; rw [if_neg (by omega),if_pos (by omega)]
     rw [hc]; simp [s29,← hG1,c1,c2,o1,e2,o2,hlt,hlt',c3,hw,c4,hw2,c5,y2]
    ·have hc:w.code n = 0:=by unfold RunW.code; rw [if_neg (by omega),if_neg (by omega)]
     rw [hc]; simp [s29,← hG1,c1,c2,o1,e2,o2,hlt,hlt',c3,hw,c4,hw2,c5,y2]
   ·by_cases c3:w.runs < 0
    ·have hc:w.code n = 2:=by unfold RunW.code; rw [if_neg (by omega),if_pos (by omega)]
     by_cases hl2:w.runs < w.flags
     ·rw [hc]; simp [s29,← hG1,c1,c2,o1,e2,o2,hlt,hl2,c3,y2]
     ·rw [hc]; simp [s29,← hG1,c1,c2,o1,e2,o2,hlt,hl2,c3,y2]
    by_cases hl2:w.runs < w.flags
    ·by_cases c4:n - w.cores < w.flags
     ·have hc:w.code n = 2:=by unfold RunW.code; rw [if_neg (by omega),if_pos (by omega)]
      rw [hc]; simp [s29,← hG1,c1,c2,o1,e2,o2,hlt,hl2,c3,hw,c4,y2]
     have hw2:IntKind.wrap .i64 (w.flags - w.runs) = w.flags - w.runs:=wrap64 (by omega) (by omega)
     by_cases c5:w.flags - w.runs < w.cores
     ·have hc:w.code n = 2:=by unfold RunW.code; rw [if_neg (by omega),if_pos (by omega)]
      rw [hc]; simp [s29,← hG1,c1,c2,o1,e2,o2,hlt,hl2,c3,hw,c4,hw2,c5,y2]
     ·have hc:w.code n = 0:=by unfold RunW.code; rw [if_neg (by omega),if_neg (by omega)]
      rw [hc]; simp [s29,← hG1,c1,c2,o1,e2,o2,hlt,hl2,c3,hw,c4,hw2,c5,y2]
    ·have he:w.flags = w.runs:=by omega
     have hc:w.code n = 2:=by unfold RunW.code; rw [if_neg (by omega),if_pos (by omega)]
     have hp:0 < w.cores:=by omega
     have hw0:IntKind.wrap .i64 0 = 0:=wrap64 (by omega) (by omega)
     by_cases c4:n - w.cores < w.runs
     ·rw [hc]; simp [s29,← hG1,c1,c2,o1,e2,o2,hlt,hl2,c3,hw,c4,y2]
     ·rw [hc]; simp [s29,← hG1,c1,c2,o1,e2,o2,hlt,hl2,c3,hw,c4,hw0,hp,y2]
  ·simp only [hs,decide_false] at e2
   have hc:w.code n = 2:=by unfold RunW.code; rw [if_neg (by omega),if_pos (by unfold RunW.sized at hs; omega)]
   rw [hc]; simp [s29,← hG1,c1,c2,o1,e2,y2]
 obtain ⟨⟨v,G'⟩,e1,rfl,e3⟩:=w
 exact ⟨G',f29 (exL_ok Q orc) _ _ G _ e1,e3⟩
theorem rxfits_ok (w:RunW) (n:Int) (G:GS):∃ G',(E orc).cl 30 [w.v,.int .i64 n] G = some (.int .i64 (w.code n),G') ∧ Ext G G':=by
 obtain ⟨G1,hG1⟩:∃ G1,G1 = G.push ⟨w.cells,1,false,1⟩:=⟨_,rfl⟩
 have x1:Ext G G1:=by rw [hG1]; exact (Ext.refl G).push _
 have o1:G1.obj G.nx = some ⟨w.cells,1,false,1⟩:=by rw [hG1]; simp
 have e2:=many26_ok orc w.cores G1
 refine ⟨G1,f30 (exL_ok Q orc) _ _ G _ ?_,x1⟩
 by_cases c1:n < 1
 ·have hc:w.code n = 3:=by unfold RunW.code; rw [if_pos (.inl c1)]
  rw [hc]; simp [s30,← hG1,c1]
 by_cases c2:4096 < n
 ·have hc:w.code n = 3:=by unfold RunW.code; rw [if_pos (.inr c2)]
  rw [hc]; simp [s30,← hG1,c1,c2]
 by_cases hs:1 ≤ w.cores ∧ w.cores ≤ 64
 ·simp only [hs,decide_true,and_self] at e2
  obtain ⟨hs1,hs2⟩:=hs
  have hw:IntKind.wrap .i64 (n - w.cores) = n - w.cores:=wrap64 (by omega) (by omega)
  by_cases c3:w.runs < 0
  ·have hc:w.code n = 2:=by unfold RunW.code; rw [if_neg (by omega),if_pos (by omega)]
   rw [hc]; simp [s30,← hG1,c1,c2,o1,e2,c3]
  by_cases c4:n - w.cores < w.runs
  ·have hc:w.code n = 2:=by unfold RunW.code; rw [if_neg (by omega),if_pos (by omega)]
   rw [hc]; simp [s30,← hG1,c1,c2,o1,e2,c3,hw,c4]
  by_cases c5:w.flags < 0
  ·have hc:w.code n = 2:=by unfold RunW.code; rw [if_neg (by omega),if_pos (by omega)]
   rw [hc]; simp [s30,← hG1,c1,c2,o1,e2,c3,hw,c4,c5]
  by_cases c6:n - w.cores < w.flags
  ·have hc:w.code n = 2:=by unfold RunW.code; rw [if_neg (by omega),if_pos (by omega)]
   rw [hc]; simp [s30,← hG1,c1,c2,o1,e2,c3,hw,c4,c5,c6]
  have w1:IntKind.wrap .i64 (w.flags + w.cores) = w.flags + w.cores:=wrap64 (by omega) (by omega)
  have w2:IntKind.wrap .i64 (w.runs + w.cores) = w.runs + w.cores:=wrap64 (by omega) (by omega)
  by_cases c7:w.runs < w.flags + w.cores
  ·by_cases c8:w.flags < w.runs + w.cores
   ·have hc:w.code n = 2:=by unfold RunW.code; rw [if_neg (by omega),if_pos (by omega)]
    rw [hc]; simp [s30,← hG1,c1,c2,o1,e2,c3,hw,c4,c5,c6,w1,w2,c7,c8]
   ·have hc:w.code n = 0:=by unfold RunW.code; rw [if_neg (by omega),if_neg (by omega)]
    rw [hc]; simp [s30,← hG1,c1,c2,o1,e2,c3,hw,c4,c5,c6,w1,w2,c7,c8]
  ·have hc:w.code n = 0:=by unfold RunW.code; rw [if_neg (by omega),if_neg (by omega)]
   rw [hc]; simp [s30,← hG1,c1,c2,o1,e2,c3,hw,c4,c5,c6,w1,w2,c7]
 ·simp only [hs,decide_false] at e2
  have hc:w.code n = 2:=by unfold RunW.code; rw [if_neg (by omega),if_pos (by omega)]
  rw [hc]; simp [s30,← hG1,c1,c2,o1,e2]
section
variable {m r wb:Nat} {own own0 own1:Nat → Nat} {G G0 G1 A:GS} {s:MS} {w:RunW}
theorem xfill_lp (hw:w.good) (hrb:wb < G0.nx) (trb:own0 wb ≠ 10) (orb:G0.obj wb = some ⟨w.cells,1,false,1⟩) :
  ∀ (k i:Nat) (τ:Env) (own:Nat → Nat) (G:GS) (s:MS),(i:Int) + k = w.cores → PW no own0 G0 own G m s → τ 1 = P0 m → τ 2 = P0 wb → τ 9 = .int .i64 w.cores → τ 10 = .int .i64 i →
  Wp ((exL Q orc).lpx 21 0 τ G) fun q=>q.1 = .exit 0 ∧ ∃ own',PW no own0 G0 own' q.2.2 m (fillR w k i s):=by
 obtain ⟨g1,g2,g3,g4,g5,g6⟩:=hw
 intro k
 induction k with
 | zero =>
  intro i τ own G s hi w' t1 t2 t9 t10
  have o:=(w'.keep hrb trb id).trans orb
  have hi':¬ (i:Int) < w.cores:=by omega
  refine Wp.lp (l21_0 (exL_ok Q orc)) ?_
  simp [-Int.natCast_add,b21_0,clip_t,t1,t2,t9,t10,o,hi',fillR]
  exact ⟨own,w'⟩
 | succ k ih =>
  intro i τ own G s hi w' t1 t2 t9 t10
  have o:=(w'.keep hrb trb id).trans orb
  have hlt:(i:Int) < w.cores:=by omega
  have hww:IntKind.wrap .i64 ((i:Int) + 1) = ((i + 1:Nat):Int):=wrap64 (by omega) (by omega)
  have h1:IntKind.wrap .i64 (w.runs + i) = w.runs + i:=wrap64 (by omega) (by omega)
  have h2:IntKind.wrap .i64 (w.flags + i) = w.flags + i:=wrap64 (by omega) (by omega)
  refine Wp.lp (l21_0 (exL_ok Q orc)) ?_
  obtain ⟨own1,G1,e1,w1⟩:=w'.pm.store orc (w.runs + i) 18446744073709551615
  have w01:=w'.trans w1 fun _ _ h=>h
  have o1:=(w01.keep hrb trb id).trans orb
  obtain ⟨own2,G2,e2,w2⟩:=w1.pm.store orc (w.flags + i) 0
  simp [-Int.natCast_add,b21_0,clip_t,t1,t2,t9,t10,hlt,hww,h1,h2,o,e1,o1,e2]
  exact ih (i + 1) _ _ G2 _ (by omega) (w01.trans w2 fun _ _ h=>h) (by simp [clip_t]) (by simp [clip_t]) (by simp [clip_t]) (by simp [clip_t])
theorem xfill_ok (hw:w.good) (h:PM own G m s):∃ own' G',(E orc).cl 21 [w.v,P0 m] G = some (.tuple #[],G') ∧ PW no own G own' G' m (fillR w w.cores.toNat 0 s):=by
 have hsz:w.sized:=⟨hw.1,hw.2.1⟩
 obtain ⟨G1,hG1⟩:∃ G1,G1 = G.push ⟨w.cells,1,false,1⟩:=⟨_,rfl⟩
 have x1:Ext G G1:=by rw [hG1]; exact (Ext.refl G).push _
 have o1:G1.obj G.nx = some ⟨w.cells,1,false,1⟩:=by rw [hG1]; simp
 have n1:G1.nx = G.nx + 1:=by rw [hG1]; rfl
 have e2:=rsized_ok orc w G1
 simp only [hsz,decide_true] at e2
 obtain ⟨G2,hG2⟩:∃ G2,G2 = G1.push ⟨w.cells,1,false,1⟩:=⟨_,rfl⟩
 rw [← hG2] at e2
 have x2:Ext G1 G2:=by rw [hG2]; exact (Ext.refl _).push _
 have o2:=(x2.obj G.nx (by omega)).trans o1
 have n2:=x2.nx
 have w2:=(PW.refl (B:=no) h).ext (x1.trans x2)
 have w:Wp (s21 true (exL Q orc) w.v (P0 m) G) fun q=>q.1 = .tuple #[] ∧ ∃ own',PW no own G own' q.2 m (fillR w w.cores.toNat 0 s):=by
  simp [s21,← hG1,o1,e2,o2]
  refine Wp.bE ((xfill_lp orc hw (wb:=G.nx) (G0:=G2) (own0:=grown own G 13) (by omega) (by rw [grown_new (Nat.le_refl _)]; decide) o2 w.cores.toNat 0 _ _ G2 _ (by have:=hw.1; omega) (PW.refl w2.pm) (by simp [clip_t]) (by simp [clip_t]) (by simp [clip_t]) (by simp [clip_t])).mono ?_)
  rintro ⟨e,τ,G5⟩ ⟨rfl,own5,q⟩
  simp only at q
  simp
  exact ⟨own5,w2.trans q fun _ _ h=>h⟩
 obtain ⟨⟨v,G'⟩,e1,rfl,own',hh⟩:=w
 exact ⟨own',G',f21 (exL_ok Q orc) _ _ G _ e1,hh⟩
theorem rxfill_lp (hw:w.good) (hrb:wb < G0.nx) (trb:own0 wb ≠ 11) (orb:G0.obj wb = some ⟨w.cells,1,false,1⟩) :
  ∀ (k i:Nat) (τ:Env) (own:Nat → Nat) (G:GS) (s:MS),(i:Int) + k = w.cores → RW no own0 G0 own G r s → τ 1 = P0 r → τ 2 = P0 wb → τ 4 = .int .i64 i →
  Wp ((exL Q orc).lpx 79 0 τ G) fun q=>q.1 = .exit 0 ∧ ∃ own',RW no own0 G0 own' q.2.2 r (fillR w k i s):=by
 obtain ⟨g1,g2,g3,g4,g5,g6⟩:=hw
 have em:=fun G=>many26_ok orc w.cores G
 have hm':1 ≤ w.cores ∧ w.cores ≤ 64:=⟨g1,g2⟩
 simp only [hm',decide_true,and_self] at em
 intro k
 induction k with
 | zero =>
  intro i τ own G s hi w' t1 t2 t4
  have o:=(w'.keep hrb trb id).trans orb
  have hi':¬ (i:Int) < w.cores:=by omega
  refine Wp.lp (l79_0 (exL_ok Q orc)) ?_
  simp [-Int.natCast_add,b79_0,clip_t,t1,t2,t4,o,em,hi',fillR]
  exact ⟨own,w'⟩
 | succ k ih =>
  intro i τ own G s hi w' t1 t2 t4
  have o:=(w'.keep hrb trb id).trans orb
  have hlt:(i:Int) < w.cores:=by omega
  have hww:IntKind.wrap .i64 ((i:Int) + 1) = ((i + 1:Nat):Int):=wrap64 (by omega) (by omega)
  have h1:IntKind.wrap .i64 (w.runs + i) = w.runs + i:=wrap64 (by omega) (by omega)
  have h2:IntKind.wrap .i64 (w.flags + i) = w.flags + i:=wrap64 (by omega) (by omega)
  refine Wp.lp (l79_0 (exL_ok Q orc)) ?_
  obtain ⟨own1,G1,e1,w1⟩:=w'.rm.store orc (w.runs + i) 18446744073709551615
  have w01:=w'.trans w1 fun _ _ h=>h
  have o1:=(w01.keep hrb trb id).trans orb
  obtain ⟨own2,G2,e2,w2⟩:=w1.rm.store orc (w.flags + i) 0
  simp [-Int.natCast_add,b79_0,clip_t,t1,t2,t4,em,hlt,hww,h1,h2,o,e1,o1,e2]
  exact ih (i + 1) _ _ G2 _ (by omega) (w01.trans w2 fun _ _ h=>h) (by simp [clip_t]) (by simp [clip_t]) (by simp [clip_t])
theorem rxfill_ok (hw:w.good) (h:RM own G r s):∃ own' G',(E orc).cl 79 [w.v,P0 r] G = some (.tuple #[],G') ∧ RW no own G own' G' r (fillR w w.cores.toNat 0 s):=by
 obtain ⟨G1,hG1⟩:∃ G1,G1 = G.push ⟨w.cells,1,false,1⟩:=⟨_,rfl⟩
 have x1:Ext G G1:=by rw [hG1]; exact (Ext.refl G).push _
 have o1:G1.obj G.nx = some ⟨w.cells,1,false,1⟩:=by rw [hG1]; simp
 have n1:G1.nx = G.nx + 1:=by rw [hG1]; rfl
 have w1:=(RW.refl (B:=no) h).ext x1
 have w:Wp (s79 true (exL Q orc) w.v (P0 r) G) fun q=>q.1 = .tuple #[] ∧ ∃ own',RW no own G own' q.2 r (fillR w w.cores.toNat 0 s):=by
  simp [s79,← hG1]
  refine Wp.bE ((rxfill_lp orc hw (wb:=G.nx) (G0:=G1) (own0:=grown own G 13) (by omega) (by rw [grown_new (Nat.le_refl _)]; decide) o1 w.cores.toNat 0 _ _ G1 _ (by have:=hw.1; omega) (RW.refl w1.rm) (by simp [clip_t]) (by simp [clip_t]) (by simp [clip_t])).mono ?_)
  rintro ⟨e,τ,G5⟩ ⟨rfl,own5,q⟩
  simp only at q
  simp
  exact ⟨own5,w1.trans q fun _ _ h=>h⟩
 obtain ⟨⟨v,G'⟩,e1,rfl,own',hh⟩:=w
 exact ⟨own',G',f79 (exL_ok Q orc) _ _ G _ e1,hh⟩
end
def rowsB:RowE Bool:=⟨1,fun x=>[.bool x],fun _=>rfl,fun _=>rfl,by decide⟩
@[simp] theorem rowsB_sz:rowsB.sz = 1:=rfl
@[simp] theorem rowsB_row (x:Bool):rowsB.row x = [.bool x]:=rfl
def nz (x:Int):Bool:=!decide (x = 0)
theorem overw_at {α:Type} (A B:List α) (x y:α):overw (A ++ x :: B) A.length [y] = A ++ y :: B:=by
 unfold overw
 simp
section
variable {m r wb:Nat} {own own0 own1:Nat → Nat} {G G0 G1 A:GS} {s:MS} {w:RunW}
abbrev iu (x:Int):Value:=.int .u64 x
theorem row_lp {f n ob:Nat} {wv:Value} (hf:f + n ≤ 4096) (hA:A.nx ≤ ob) (hv:SlR (rowsI .u64) A wv s.W) (hW:s.W.length ≤ 4096) :
  ∀ (k i:Nat) (τ:Env) (G:GS),i + k = n → Ext A G → τ 1 = .int .i64 f → τ 7 = wv → τ 8 = .slice (some ⟨ob,0,none⟩) n n → τ 20 = .int .i64 n → τ 21 = .int .i64 i → ob < G.nx → G.obj ob = some ⟨(rowS s f i ++ List.replicate k 0).map iu,1,false,1⟩ →
  Wp ((exL Q orc).lpx 91 0 τ G) fun q=>q.1 = .exit 0 ∧ Ext A q.2.2 ∧ q.2.1 8 = .slice (some ⟨ob,0,none⟩) n n ∧ ob < q.2.2.nx ∧ q.2.2.obj ob = some ⟨(rowS s f n).map iu,1,false,1⟩:=by
 intro k
 induction k with
 | zero =>
  intro i τ G hi hx t1 t7 t8 t20 t21 hob ho
  have hi':i = n:=by omega
  subst hi'
  refine Wp.lp (l91_0 (exL_ok Q orc)) ?_
  simp [-Int.natCast_add,b91_0,clip_t,t1,t7,t8,t20,t21]
  exact ⟨hx,hob,by simpa using ho⟩
 | succ k ih =>
  intro i τ G hi hx t1 t7 t8 t20 t21 hob ho
  have hlt:i < n:=by omega
  have hww:IntKind.wrap .i64 ((i:Int) + 1) = ((i + 1:Nat):Int):=wrap64 (by omega) (by omega)
  have hwa:IntKind.wrap .i64 ((f:Int) + i) = ((f + i:Nat):Int):=wrap64 (by omega) (by omega)
  have ha0:(0:Int) ≤ ((f + i:Nat):Int):=by omega
  have hi0:(0:Int) ≤ i:=by omega
  have hrs:rowS s f (i + 1) = rowS s f i ++ [s.at' ((f + i:Nat):Int)]:=by rw [rowS_succ]; simp
  have lw:∀ t,ln Q true t wv = some (.int .i64 s.W.length):=fun t=>by obtain ⟨a,c,h⟩:=hv.len; rw [h]; simp
  refine Wp.lp (l91_0 (exL_ok Q orc)) ?_
  by_cases hin:f + i < s.W.length
  ·obtain ⟨b,o,c,e0,_,q0,_⟩:=(hv.ext hx).at hin
   have hc:=q0 0 (by decide)
   simp [rowsI] at hc
   have hat:s.at' ((f + i:Nat):Int) = s.W[f + i]:=by
    unfold MS.at'
    rw [if_pos ⟨by omega,by omega⟩,Int.toNat_natCast,List.getElem?_eq_getElem hin]
    rfl
   have hlen:(rowS s f i).length = i:=rowS_len _ _ _
   have hst:storeN 1 ob (i * 1) (iu s.W[f + i]) G = some (G.put ob (GObj.over ⟨(rowS s f i ++ List.replicate (k + 1) 0).map iu,1,false,1⟩ (i * 1) [iu s.W[f + i]])):=by
    simp only [storeN,Value.cells]
    exact wrN_of ho rfl rfl (by simp)
   have hov:GObj.over ⟨(rowS s f i ++ List.replicate (k + 1) 0).map iu,1,false,1⟩ (i * 1) [iu s.W[f + i]] = ⟨(rowS s f (i + 1) ++ List.replicate k 0).map iu,1,false,1⟩:=by
    have h1:(rowS s f i ++ List.replicate (k + 1) 0).map iu = (rowS s f i).map iu ++ iu 0 :: (List.replicate k 0).map iu:=by rw [List.map_append,List.replicate_succ,List.map_cons]
    have h2:=overw_at ((rowS s f i).map iu) ((List.replicate k 0).map iu) (iu 0) (iu s.W[f + i])
    rw [List.length_map,hlen] at h2
    unfold GObj.over
    simp only [Nat.mul_one]
    rw [h1,h2,hrs,hat]
    simp
   rw [hov] at hst
   simp only [Nat.mul_one] at hst
   simp [-Int.natCast_add,-storeN_s,b91_0,clip_t,t1,t7,t8,t20,t21,hlt,hww,hwa,ha0,e0,hin,hc,hi0,hst]
   exact ih (i + 1) _ _ (by omega) (hx.put hA _) (by simp [clip_t]) (by simp [clip_t,e0]) (by simp [clip_t]) (by simp [clip_t]) (by simp [clip_t]) (by simpa using hob) (by simp)
  ·have hat:s.at' ((f + i:Nat):Int) = 0:=by unfold MS.at'; rw [if_neg (by omega)]
   simp [-Int.natCast_add,b91_0,clip_t,t1,t7,t8,t20,t21,hlt,hww,hwa,ha0,lw,hin]
   refine ih (i + 1) _ G (by omega) hx (by simp [clip_t]) (by simp [clip_t]) (by simp [clip_t]) (by simp [clip_t]) (by simp [clip_t]) hob ?_
   rw [ho,hrs,hat,List.append_assoc]
   rfl
theorem rep_iu (n:Nat):rep z23 ((n:Nat):Int).toNat = (List.replicate n 0).map iu:=by
 rw [Int.toNat_natCast]
 induction n with
 | zero=>rfl
 | succ n ih=>rw [List.replicate_succ,List.map_cons,← ih]; rfl
theorem xrow_ok (hw:w.good) {f:Int} (h0:0 ≤ f) (hf:f + w.cores ≤ 4096) (h:PM own G m s) (hm:s.ok):∃ v G',(E orc).cl 91 [w.v,.int .i64 f,P0 m] G = some (v,G') ∧ Ext G G' ∧ OwR (rowsI .u64) G.nx G' v (rowS s f w.cores.toNat):=by
 obtain ⟨g1,g2,g3,g4,g5,g6⟩:=hw
 have hsz:w.sized:=⟨g1,g2⟩
 obtain ⟨n,hn⟩:=Int.eq_ofNat_of_zero_le (show 0 ≤ w.cores by omega)
 obtain ⟨f',hf'⟩:=Int.eq_ofNat_of_zero_le h0
 subst hf'
 obtain ⟨G1,hG1⟩:∃ G1,G1 = G.push ⟨w.cells,1,false,1⟩:=⟨_,rfl⟩
 have x1:Ext G G1:=by rw [hG1]; exact (Ext.refl G).push _
 have o1:G1.obj G.nx = some ⟨w.cells,1,false,1⟩:=by rw [hG1]; simp
 have n1:G1.nx = G.nx + 1:=by rw [hG1]; rfl
 have e2:=rsized_ok orc w G1
 simp only [hsz,decide_true] at e2
 obtain ⟨G2,hG2⟩:∃ G2,G2 = G1.push ⟨w.cells,1,false,1⟩:=⟨_,rfl⟩
 rw [← hG2] at e2
 have x2:Ext G1 G2:=by rw [hG2]; exact (Ext.refl _).push _
 have y2:=x1.trans x2
 obtain ⟨wv,G3,e3,x3,w3⟩:∃ v G',(E orc).cl 24 [P0 m] G2 = some (v,G') ∧ Ext G2 G' ∧ OwR (rowsI .u64) G2.nx G' v s.W:=by
  obtain ⟨bb,rest,hm⟩:=h.ext y2
  exact words_ok orc hm
 have y3:=y2.trans x3
 have o3:=((x2.trans x3).obj G.nx (by omega)).trans o1
 obtain ⟨G4,hG4⟩:∃ G4,G4 = G3.push ⟨(List.replicate n 0).map iu,1,false,1⟩:=⟨_,rfl⟩
 have x4:Ext G3 G4:=by rw [hG4]; exact (Ext.refl _).push _
 have em:mkK 1 8 z23 n n G3 = some (.slice (some ⟨G3.nx,0,none⟩) n n,G4):=by
  unfold mkK
  rw [if_pos ⟨by omega,by omega,by decide,by omega,wrap64 (by omega) (by omega),wrap64 (by omega) (by omega)⟩]
  rw [rep_iu,hG4]
  rfl
 have n3:=y3.nx
 have w':Wp (s91 true (exL Q orc) w.v (.int .i64 (f':Int)) (P0 m) G) fun q=>Ext G q.2 ∧ OwR (rowsI .u64) G.nx q.2 q.1 (rowS s f' w.cores.toNat):=by
  rw [← hn] at em
  simp [s91,← hG1,o1,e2,e3,o3,em]
  rw [hn]
  refine Wp.bE ((row_lp orc (A:=G3) (f:=f') (n:=n) (ob:=G3.nx) (wv:=wv) (s:=s) (by omega) (Nat.le_refl _) w3.is hm.2 n 0 _ G4 (by omega) x4 (by simp [clip_t]) (by simp [clip_t]) (by simp [clip_t]) (by simp [clip_t]) (by simp [clip_t]) (by rw [hG4]; simp) (by rw [hG4]; simp [rowS])).mono ?_)
  rintro ⟨e,τ,G5⟩ ⟨rfl,x5,t8,q1,q2⟩
  simp only at x5 t8 q1 q2
  simp [t8]
  refine ⟨y3.trans x5,RowE.flat_length _ _,.inr ⟨G3.nx,false,by simp,n3,q1,?_⟩⟩
  rw [q2]
  congr 2
  have:∀ L:List Int,(rowsI .u64).flat L = L.map iu:=fun L=>by
   induction L with
   | nil=>rfl
   | cons a l ih=>rw [RowE.flat_cons,ih]; rfl
  rw [this]
 obtain ⟨⟨v,G'⟩,e1,k1,k2⟩:=w'
 exact ⟨v,G',f91 (exL_ok Q orc) _ _ _ G _ e1,k1,k2⟩
theorem xall_ok (hw:w.good) (h:PM own G m s) (hm:s.ok):∃ v G',(E orc).cl 47 [w.v,P0 m] G = some (v,G') ∧ Ext G G' ∧ OwR (rowsI .u64) G.nx G' v (rowS s w.runs w.cores.toNat):=by
 obtain ⟨G1,hG1⟩:∃ G1,G1 = G.push ⟨w.cells,1,false,1⟩:=⟨_,rfl⟩
 have x1:Ext G G1:=by rw [hG1]; exact (Ext.refl G).push _
 have o1:G1.obj G.nx = some ⟨w.cells,1,false,1⟩:=by rw [hG1]; simp
 obtain ⟨v,G2,e2,x2,w2⟩:=xrow_ok orc hw hw.2.2.1 hw.2.2.2.1 (h.ext x1) hm
 exact ⟨v,G2,f47 (exL_ok Q orc) _ _ G _ (by simp [s47,← hG1,o1,e2]),x1.trans x2,w2.mono x1.nx⟩
theorem rowS_le (s:MS) (k:Int) (n:Nat) (hn:n ≤ 64):(rowS s k n).length < 2 ^ 30:=by rw [rowS_len]; omega
theorem flags_lp {L:List Int} {v:Value} (hv:SlR (rowsI .u64) A v L) (hL:L.length < 2 ^ 30):∀ (k i:Nat) (τ:Env) (G:GS) (u:Value),i + k = L.length → Ext A G → τ 5 = u → τ 12 = v → τ 13 = .int .i64 L.length → τ 14 = .int .i64 i → OwR rowsB A.nx G u ((L.take i).map nz) →
  Wp ((exL Q orc).lpx 82 0 τ G) fun q=>q.1 = .exit 0 ∧ Ext A q.2.2 ∧ OwR rowsB A.nx q.2.2 (q.2.1 5) (L.map nz):=by
 intro k
 induction k with
 | zero =>
  intro i τ G u hi hx t5 t12 t13 t14 ho
  have hi':i = L.length:=by omega
  subst hi'
  rw [List.take_length] at ho
  refine Wp.lp (l82_0 (exL_ok Q orc)) ?_
  simp [b82_0,clip_t,t5,t12,t13,t14]
  exact ⟨hx,ho⟩
 | succ k ih =>
  intro i τ G u hi hx t5 t12 t13 t14 ho
  have hlt:i < L.length:=by omega
  have hww:IntKind.wrap .i64 ((i:Int) + 1) = ((i + 1:Nat):Int):=wrap64 (by omega) (by omega)
  have hi0:(0:Int) ≤ i:=by omega
  obtain ⟨b,o,c,e0,_,q0,_⟩:=(hv.ext hx).at hlt
  have hc:=q0 0 (by decide)
  simp [rowsI] at hc
  have hta:(L.take (i + 1)).map nz = (L.take i).map nz ++ [nz L[i]]:=by rw [List.take_add_one,List.getElem?_eq_getElem hlt,List.map_append]; rfl
  obtain ⟨v',G',a1,a2,a3⟩:=OwR.app (A:=A) (ib:=1) (x:=.slice (some ⟨G.nx,0,none⟩) 1 1) (OwR.ext ho ((Ext.refl G).push ⟨rowsB.row (nz L[i]),1,false,1⟩)) (by decide) (hx.push _) (SlR.one rowsB G (nz L[i])) (by simp; omega)
  rw [rowsB_sz,rowsB_row] at a1
  unfold nz at a1
  refine Wp.lp (l82_0 (exL_ok Q orc)) ?_
  simp [-Int.natCast_add,b82_0,clip_t,t5,t12,t13,t14,hlt,hww,hi0,e0,hc,a1]
  exact ih (i + 1) _ G' v' (by omega) a2 (by simp [clip_t]) (by simp [clip_t,e0]) (by simp [clip_t]) (by simp [clip_t]) (by rw [hta]; exact a3)
theorem xflags_ok (hw:w.good) (h:PM own G m s) (hm:s.ok):∃ v G',(E orc).cl 82 [w.v,P0 m] G = some (v,G') ∧ Ext G G' ∧ OwR rowsB G.nx G' v ((rowS s w.flags w.cores.toNat).map nz):=by
 obtain ⟨G1,hG1⟩:∃ G1,G1 = G.push ⟨w.cells,1,false,1⟩:=⟨_,rfl⟩
 have x1:Ext G G1:=by rw [hG1]; exact (Ext.refl G).push _
 have o1:G1.obj G.nx = some ⟨w.cells,1,false,1⟩:=by rw [hG1]; simp
 obtain ⟨v,G2,e2,x2,w2⟩:=xrow_ok orc hw hw.2.2.2.2.1 hw.2.2.2.2.2 (h.ext x1) hm
 have y2:=x1.trans x2
 have lw:∀ t,ln Q true t v = some (.int .i64 (rowS s w.flags w.cores.toNat).length):=fun t=>by obtain ⟨a,c,h⟩:=w2.is.len; rw [h]; simp
 have hL:=rowS_le s w.flags w.cores.toNat (by have:=hw.2.1; omega)
 generalize rowS s w.flags w.cores.toNat = L at *
 have w':Wp (s82 true (exL Q orc) w.v (P0 m) G) fun q=>Ext G q.2 ∧ OwR rowsB G.nx q.2 q.1 (L.map nz):=by
  simp [s82,← hG1,o1,e2,lw]
  refine Wp.bE ((flags_lp orc (A:=G2) (L:=L) (v:=v) w2.is hL L.length 0 _ G2 (.slice none 0 0) (by omega) (Ext.refl _) (by simp [clip_t]) (by simp [clip_t]) (by simp [clip_t]) (by simp [clip_t]) (by simpa using OwR.nil _ _)).mono ?_)
  rintro ⟨e,τ,G5⟩ ⟨rfl,x5,q⟩
  simp only at x5 q
  simp
  exact ⟨y2.trans x5,q.mono y2.nx⟩
 obtain ⟨⟨u,G'⟩,e1,k1,k2⟩:=w'
 exact ⟨u,G',f82 (exL_ok Q orc) _ _ G _ e1,k1,k2⟩
end
section
variable {r rb wb:Nat} {P:Nat → Prop} {own:Nat → Nat} {G A:GS} {s:MS} {w:RunW}
theorem rall_lp (hw:w.good) (hM:RMr P A r wb s) (hrb:rb < A.nx) (orb:A.obj rb = some ⟨w.cells,1,false,1⟩) :
  ∀ (k i:Nat) (τ:Env) (G:GS) (u:Value),i + k = w.cores.toNat → Ext A G → τ 1 = P0 r → τ 2 = P0 rb → τ 5 = u → τ 6 = .int .i64 i → OwR (rowsI .u64) A.nx G u (rowS s w.runs i) →
  Wp ((exL Q orc).lpx 80 0 τ G) fun q=>q.1 = .exit 0 ∧ Ext A q.2.2 ∧ OwR (rowsI .u64) A.nx q.2.2 (q.2.1 5) (rowS s w.runs w.cores.toNat):=by
 obtain ⟨g1,g2,g3,g4,g5,g6⟩:=hw
 have em:=fun G=>many26_ok orc w.cores G
 have hm':1 ≤ w.cores ∧ w.cores ≤ 64:=⟨g1,g2⟩
 simp only [hm',decide_true,and_self] at em
 intro k
 induction k with
 | zero =>
  intro i τ G u hi hx t1 t2 t5 t6 ho
  have o:=(hx.obj rb hrb).trans orb
  have hi':¬ (i:Int) < w.cores:=by omega
  have hi2:i = w.cores.toNat:=by omega
  refine Wp.lp (l80_0 (exL_ok Q orc)) ?_
  simp [-Int.natCast_add,b80_0,clip_t,t1,t2,t5,t6,o,em,hi']
  exact ⟨hx,hi2 ▸ ho⟩
 | succ k ih =>
  intro i τ G u hi hx t1 t2 t5 t6 ho
  have o:=(hx.obj rb hrb).trans orb
  have hlt:(i:Int) < w.cores:=by omega
  have hww:IntKind.wrap .i64 ((i:Int) + 1) = ((i + 1:Nat):Int):=wrap64 (by omega) (by omega)
  have h1:IntKind.wrap .i64 (w.runs + i) = w.runs + i:=wrap64 (by omega) (by omega)
  have e1:=rat_ok orc (hM.ext hx) (w.runs + i)
  obtain ⟨v',G',a1,a2,a3⟩:=OwR.app (A:=A) (ib:=8) (x:=.slice (some ⟨G.nx,0,none⟩) 1 1) (OwR.ext ho ((Ext.refl G).push ⟨(rowsI .u64).row (s.at' (w.runs + i)),1,false,1⟩)) (by decide) (hx.push _) (SlR.one (rowsI .u64) G (s.at' (w.runs + i))) (by simp; omega)
  simp [rowsI] at a1
  refine Wp.lp (l80_0 (exL_ok Q orc)) ?_
  simp [-Int.natCast_add,b80_0,clip_t,t1,t2,t5,t6,em,hlt,hww,h1,o,e1,a1]
  exact ih (i + 1) _ G' v' (by omega) a2 (by simp [clip_t]) (by simp [clip_t]) (by simp [clip_t]) (by simp [clip_t]) (by rw [rowS_succ]; exact a3)
theorem rall_ok (hw:w.good) (h:RM own G r s):∃ v G',(E orc).cl 80 [w.v,P0 r] G = some (v,G') ∧ Ext G G' ∧ OwR (rowsI .u64) G.nx G' v (rowS s w.runs w.cores.toNat):=by
 obtain ⟨wb,h⟩:=h
 obtain ⟨G1,hG1⟩:∃ G1,G1 = G.push ⟨w.cells,1,false,1⟩:=⟨_,rfl⟩
 have x1:Ext G G1:=by rw [hG1]; exact (Ext.refl G).push _
 have o1:G1.obj G.nx = some ⟨w.cells,1,false,1⟩:=by rw [hG1]; simp
 have n1:G1.nx = G.nx + 1:=by rw [hG1]; rfl
 have w':Wp (s80 true (exL Q orc) w.v (P0 r) G) fun q=>Ext G q.2 ∧ OwR (rowsI .u64) G.nx q.2 q.1 (rowS s w.runs w.cores.toNat):=by
  simp [s80,← hG1]
  refine Wp.bE ((rall_lp orc hw (A:=G1) (rb:=G.nx) (h.ext x1) (by omega) o1 w.cores.toNat 0 _ G1 (.slice none 0 0) (by omega) (Ext.refl _) (by simp [clip_t]) (by simp [clip_t]) (by simp [clip_t]) (by simp [clip_t]) (by simpa [rowS] using OwR.nil _ _)).mono ?_)
  rintro ⟨e,τ,G5⟩ ⟨rfl,x5,q⟩
  simp only at x5 q
  simp
  exact ⟨x1.trans x5,q.mono x1.nx⟩
 obtain ⟨⟨v,G'⟩,e1,k1,k2⟩:=w'
 exact ⟨v,G',f80 (exL_ok Q orc) _ _ G _ e1,k1,k2⟩
theorem rflags_lp (hw:w.good) (hM:RMr P A r wb s) (hrb:rb < A.nx) (orb:A.obj rb = some ⟨w.cells,1,false,1⟩) :
  ∀ (k i:Nat) (τ:Env) (G:GS) (u:Value),i + k = w.cores.toNat → Ext A G → τ 1 = P0 r → τ 2 = P0 rb → τ 5 = u → τ 6 = .int .i64 i → OwR rowsB A.nx G u ((rowS s w.flags i).map nz) →
  Wp ((exL Q orc).lpx 83 0 τ G) fun q=>q.1 = .exit 0 ∧ Ext A q.2.2 ∧ OwR rowsB A.nx q.2.2 (q.2.1 5) ((rowS s w.flags w.cores.toNat).map nz):=by
 obtain ⟨g1,g2,g3,g4,g5,g6⟩:=hw
 have em:=fun G=>many26_ok orc w.cores G
 have hm':1 ≤ w.cores ∧ w.cores ≤ 64:=⟨g1,g2⟩
 simp only [hm',decide_true,and_self] at em
 intro k
 induction k with
 | zero =>
  intro i τ G u hi hx t1 t2 t5 t6 ho
  have o:=(hx.obj rb hrb).trans orb
  have hi':¬ (i:Int) < w.cores:=by omega
  have hi2:i = w.cores.toNat:=by omega
  refine Wp.lp (l83_0 (exL_ok Q orc)) ?_
  simp [-Int.natCast_add,b83_0,clip_t,t1,t2,t5,t6,o,em,hi']
  exact ⟨hx,hi2 ▸ ho⟩
 | succ k ih =>
  intro i τ G u hi hx t1 t2 t5 t6 ho
  have o:=(hx.obj rb hrb).trans orb
  have hlt:(i:Int) < w.cores:=by omega
  have hww:IntKind.wrap .i64 ((i:Int) + 1) = ((i + 1:Nat):Int):=wrap64 (by omega) (by omega)
  have h1:IntKind.wrap .i64 (w.flags + i) = w.flags + i:=wrap64 (by omega) (by omega)
  have e1:=rat_ok orc (hM.ext hx) (w.flags + i)
  obtain ⟨v',G',a1,a2,a3⟩:=OwR.app (A:=A) (ib:=1) (x:=.slice (some ⟨G.nx,0,none⟩) 1 1) (OwR.ext ho ((Ext.refl G).push ⟨rowsB.row (nz (s.at' (w.flags + i))),1,false,1⟩)) (by decide) (hx.push _) (SlR.one rowsB G (nz (s.at' (w.flags + i)))) (by simp; omega)
  rw [rowsB_sz,rowsB_row] at a1
  unfold nz at a1
  refine Wp.lp (l83_0 (exL_ok Q orc)) ?_
  simp [-Int.natCast_add,b83_0,clip_t,t1,t2,t5,t6,em,hlt,hww,h1,o,e1,a1]
  exact ih (i + 1) _ G' v' (by omega) a2 (by simp [clip_t]) (by simp [clip_t]) (by simp [clip_t]) (by simp [clip_t]) (by rw [rowS_succ,List.map_append]; exact a3)
theorem rflags_ok (hw:w.good) (h:RM own G r s):∃ v G',(E orc).cl 83 [w.v,P0 r] G = some (v,G') ∧ Ext G G' ∧ OwR rowsB G.nx G' v ((rowS s w.flags w.cores.toNat).map nz):=by
 obtain ⟨wb,h⟩:=h
 obtain ⟨G1,hG1⟩:∃ G1,G1 = G.push ⟨w.cells,1,false,1⟩:=⟨_,rfl⟩
 have x1:Ext G G1:=by rw [hG1]; exact (Ext.refl G).push _
 have o1:G1.obj G.nx = some ⟨w.cells,1,false,1⟩:=by rw [hG1]; simp
 have n1:G1.nx = G.nx + 1:=by rw [hG1]; rfl
 have w':Wp (s83 true (exL Q orc) w.v (P0 r) G) fun q=>Ext G q.2 ∧ OwR rowsB G.nx q.2 q.1 ((rowS s w.flags w.cores.toNat).map nz):=by
  simp [s83,← hG1]
  refine Wp.bE ((rflags_lp orc hw (A:=G1) (rb:=G.nx) (h.ext x1) (by omega) o1 w.cores.toNat 0 _ G1 (.slice none 0 0) (by omega) (Ext.refl _) (by simp [clip_t]) (by simp [clip_t]) (by simp [clip_t]) (by simp [clip_t]) (by simpa [rowS] using OwR.nil _ _)).mono ?_)
  rintro ⟨e,τ,G5⟩ ⟨rfl,x5,q⟩
  simp only at x5 q
  simp
  exact ⟨x1.trans x5,q.mono x1.nx⟩
 obtain ⟨⟨v,G'⟩,e1,k1,k2⟩:=w'
 exact ⟨v,G',f83 (exL_ok Q orc) _ _ G _ e1,k1,k2⟩
end
end Go.Proofs.YtedmgpchggogpaaGreat.Lift
