import Derived.Test.YtlaojmcekeohnaaGreatDoorYG
import Derived.Test.YtlaojmcekeohnaaGreatDoorYE
import Derived.Test.YtlaojmcekeohnaaGreatDoorYF
set_option linter.unusedVariables false
set_option linter.unusedSimpArgs false
set_option maxRecDepth 20000
namespace Go.Proofs.YtlaojmcekeohnaaGreatDoor.Lift
open Go Go.Proofs.YtlaojmcekeohnaaGreatDoor.Gh Go.Proofs
section
variable {B G:GS} {A:List Int} {v0:Value}
end
end Go.Proofs.YtlaojmcekeohnaaGreatDoor.Lift
set_option linter.unusedVariables false
set_option linter.unusedSimpArgs false
set_option maxRecDepth 20000
namespace Go.Proofs.YtlaojmcekeohnaaGreatDoor.Lift
open Go Go.Proofs.YtlaojmcekeohnaaGreatDoor.Gh Go.Proofs
def allA (l:List Int) (op:Opn):List An :=
 if checkI l = 0 then (if op.1 = 7 then l.map (fun x=>(0,x,0)) ++ [(7,0,0),(12,0,0)] else if op.1 = 8 then [if inI op.2.1 = true then (if op.2.1 ∈ l then (8,0,0) else (0,0,0)) else (3,0,0)] else []) else []
theorem checkI_zero {l:List Int}:checkI l = 0 ↔ l.all inI = true ∧ ascB l = true:=by
 unfold checkI
 split
 ·rename_i h1
  split
  ·rename_i h2; simp [h1,h2]
  ·rename_i h2; simp [h1,h2]
 ·rename_i h1; simp [h1]
theorem asc_pair:∀ {l:List Int},ascB l = true → l.Pairwise (· < ·)
 | [],_=>List.Pairwise.nil
 | [a],_=>List.pairwise_singleton _ _
 | a :: b :: r,h=>by
  simp only [ascB,Bool.and_eq_true,decide_eq_true_eq] at h
  have ih:=asc_pair h.2
  refine List.pairwise_cons.2 ⟨fun x hx=>?_,ih⟩
  rcases List.mem_cons.1 hx with rfl | hx
  ·exact h.1
  ·have:=(List.pairwise_cons.1 ih).1 x hx; omega
theorem pair_asc:∀ {l:List Int},l.Pairwise (· < ·) → ascB l = true
 | [],_=>rfl
 | [a],_=>rfl
 | a :: b :: r,h=>by
  obtain ⟨h1,h2⟩:=List.pairwise_cons.1 h
  simp only [ascB,Bool.and_eq_true,decide_eq_true_eq]
  exact ⟨h1 b (by simp),pair_asc h2⟩
theorem asc_extI {A B:List Int} (hA:A.Pairwise (· < ·)) (hB:B.Pairwise (· < ·)) (h:∀ x,x ∈ A ↔ x ∈ B):A = B:=by
 induction A generalizing B with
 | nil =>
  cases B with
  | nil=>rfl
  | cons b B=>exact absurd ((h b).2 (by simp)) (by simp)
 | cons a A ih =>
  cases B with
  | nil=>exact absurd ((h a).1 (by simp)) (by simp)
  | cons b B =>
   obtain ⟨ha,hA'⟩:=List.pairwise_cons.1 hA
   obtain ⟨hb,hB'⟩:=List.pairwise_cons.1 hB
   have hab:a = b:=by
    rcases List.mem_cons.1 ((h a).1 (by simp)) with h1 | h1
    ·exact h1
    ·rcases List.mem_cons.1 ((h b).2 (by simp)) with h2 | h2
     ·exact h2.symm
     ·have:=ha b h2; have:=hb a h1; omega
   subst hab
   rw [ih hA' hB' fun x=>?_]
   constructor
   ·intro hx
    rcases List.mem_cons.1 ((h x).1 (by simp [hx])) with h1 | h1
    ·have:=ha x hx; omega
    ·exact h1
   ·intro hx
    rcases List.mem_cons.1 ((h x).2 (by simp [hx])) with h1 | h1
    ·have:=hb x hx; omega
    ·exact h1
def elsI (W:List Nat):List Int:=(els W).map fun n:Nat=>(n:Int)
theorem elsI_asc (W:List Nat):(elsI W).Pairwise (· < ·):=by
 unfold elsI
 rw [List.pairwise_map]
 exact (els_asc W).imp fun h=>by omega
theorem mem_elsI {W:List Nat} {x:Int}:x ∈ elsI W ↔ inI x = true ∧ has W x.toNat = true:=by
 unfold elsI
 simp only [List.mem_map,mem_els,inI,decide_eq_true_eq]
 constructor
 ·rintro ⟨n,⟨h1,h2⟩,rfl⟩
  exact ⟨by omega,by simpa using h2⟩
 ·rintro ⟨h1,h2⟩
  exact ⟨x.toNat,⟨by omega,h2⟩,by omega⟩
theorem mem_of (l:List Int) {x:Int}:x ∈ elsI (ofW l) ↔ inI x = true ∧ x ∈ l:=by
 rw [mem_elsI]
 constructor
 ·rintro ⟨h1,h2⟩
  have h3:x.toNat < 1024 ∧ ((x.toNat:Nat):Int) = x:=by simp [inI] at h1; omega
  rw [has_of l h3.1,h3.2] at h2
  exact ⟨h1,by simpa using h2⟩
 ·rintro ⟨h1,h2⟩
  have h3:x.toNat < 1024 ∧ ((x.toNat:Nat):Int) = x:=by simp [inI] at h1; omega
  rw [has_of l h3.1,h3.2]
  exact ⟨h1,by simpa using h2⟩
theorem elsI_of {l:List Int} (h:checkI l = 0):elsI (ofW l) = l:=by
 obtain ⟨h1,h2⟩:=checkI_zero.1 h
 refine asc_extI (elsI_asc _) (asc_pair h2) fun x=>?_
 rw [mem_of]
 exact ⟨fun h=>h.2,fun hx=>⟨List.all_eq_true.1 h1 x hx,hx⟩⟩
section
variable {B G:GS} {ob l nb:Nat} {T:List Value} {L:List An} {W:List Nat} {A:List Int} {v0:Value}
end
end Go.Proofs.YtlaojmcekeohnaaGreatDoor.Lift
set_option linter.unusedVariables false
set_option linter.unusedSimpArgs false
set_option maxRecDepth 20000
namespace Go.Proofs.YtlaojmcekeohnaaGreatDoor.Lift
open Go Go.Proofs.YtlaojmcekeohnaaGreatDoor.Gh Go.Proofs
section
variable {B G:GS} {A:List Int} {v0:Value}
def behP (l:List Int) (op:Opn) (an:An) (j:Nat):Bool:=if op.1 = 8 ∧ (j:Int) = op.2.1 then true else if op.1 = 7 ∧ (j:Int) = an.2.1 then false else decide ((j:Int) ∈ l)
def behN (l:List Int) (op:Opn) (an:An) (n:Nat):List Int:=((List.range n).filter (behP l op an)).map fun n:Nat=>(n:Int)
def behA (l:List Int) (op:Opn) (an:An):List Int:=if an.1 = 0 then behN l op an 1024 else l
theorem behN_len (l:List Int) (op:Opn) (an:An) (i:Nat):(behN l op an i).length ≤ i:=by
 unfold behN
 have:=List.length_filter_le (behP l op an) (List.range i)
 simpa using this
end
end Go.Proofs.YtlaojmcekeohnaaGreatDoor.Lift
set_option linter.unusedVariables false
set_option linter.unusedSimpArgs false
set_option maxRecDepth 20000
namespace Go.Proofs.YtlaojmcekeohnaaGreatDoor.Lift
open Go Go.Proofs.YtlaojmcekeohnaaGreatDoor.Gh Go.Proofs
def nextA (l:List Int) (op:Opn) (an:An):List Int × Bool:=if an ∈ allA l op then (behA l op an,true) else ([],false)
section
variable {B G:GS} {A:List Int} {v0 v1:Value} {L:List An}
end
end Go.Proofs.YtlaojmcekeohnaaGreatDoor.Lift
set_option linter.unusedVariables false
set_option linter.unusedSimpArgs false
set_option maxRecDepth 20000
namespace Go.Proofs.YtlaojmcekeohnaaGreatDoor.Lift
open Go Go.Proofs.YtlaojmcekeohnaaGreatDoor.Gh Go.Proofs
theorem inI_nat {x:Int} (h:inI x = true):x.toNat < 1024 ∧ ((x.toNat:Nat):Int) = x:=by simp [inI] at h; omega
theorem mem_behN {l:List Int} {op:Opn} {an:An} {x:Int}:x ∈ behN l op an 1024 ↔ inI x = true ∧ behP l op an x.toNat = true:=by
 unfold behN
 simp only [List.mem_map,List.mem_filter,List.mem_range]
 constructor
 ·rintro ⟨n,⟨h1,h2⟩,rfl⟩
  exact ⟨by simp [inI]; omega,by simpa using h2⟩
 ·rintro ⟨h1,h2⟩
  obtain ⟨h3,h4⟩:=inI_nat h1
  exact ⟨x.toNat,⟨h3,h2⟩,h4⟩
theorem behN_asc (l:List Int) (op:Opn) (an:An):(behN l op an 1024).Pairwise (· < ·):=by
 unfold behN
 rw [List.pairwise_map]
 exact (asc_range _ _).imp fun h=>by omega
theorem els_free {l:List Int} {op:Opn} {an:An} (h8:op.1 = 8) (hi:inI op.2.1 = true) (h0:op.2.1 ∉ l):elsI (withW (ofW l) op.2.1.toNat) = behN l op an 1024:=by
 refine asc_extI (elsI_asc _) (behN_asc _ _ _) fun x=>?_
 rw [mem_elsI,mem_behN]
 obtain ⟨h3,h4⟩:=inI_nat hi
 refine and_congr_right fun hx=>?_
 obtain ⟨h5,h6⟩:=inI_nat hx
 rw [has_with (ofW_ok l) h3,has_of l h5]
 unfold behP
 rw [h6]
 by_cases hj:x = op.2.1
 ·rw [if_pos ⟨h8,hj⟩,hj]; simp
 ·rw [if_neg (fun h=>hj h.2),if_neg (fun h=>by omega)]
  have:¬ x.toNat = op.2.1.toNat:=by omega
  simp [this]
theorem els_alloc {l:List Int} {op:Opn} {an:An} (h7:op.1 = 7) (hi:inI an.2.1 = true):elsI (woW (ofW l) an.2.1.toNat) = behN l op an 1024:=by
 refine asc_extI (elsI_asc _) (behN_asc _ _ _) fun x=>?_
 rw [mem_elsI,mem_behN]
 obtain ⟨h3,h4⟩:=inI_nat hi
 refine and_congr_right fun hx=>?_
 obtain ⟨h5,h6⟩:=inI_nat hx
 rw [has_wo (ofW_ok l) h3,has_of l h5]
 unfold behP
 rw [h6,if_neg (fun h=>by omega)]
 by_cases hj:x = an.2.1
 ·rw [if_pos ⟨h7,hj⟩,hj]; simp
 ·rw [if_neg (fun h=>hj h.2)]
  have:¬ x.toNat = an.2.1.toNat:=by omega
  simp [this]
theorem next_free {l:List Int} {op:Opn} {an:An} (hc:checkI l = 0) (h8:op.1 = 8):nextA l op an = if (freeI (ofW l) op.2.1).1 = an then (elsI (freeI (ofW l) op.2.1).2,true) else ([],false):=by
 have h7:¬ op.1 = 7:=by omega
 unfold nextA allA behA
 rw [if_pos hc,if_neg h7,if_pos h8]
 simp only [List.mem_singleton]
 unfold freeI
 by_cases hi:inI op.2.1 = true
 ·obtain ⟨h3,h4⟩:=inI_nat hi
  rw [if_pos hi,if_pos hi,has_of l h3,h4]
  by_cases hm:op.2.1 ∈ l
  ·simp only [hm,decide_true,if_true]
   by_cases ha:an = (8,0,0)
   ·subst ha; simp [elsI_of hc]
   ·rw [if_neg ha,if_neg (fun h=>ha h.symm)]
  ·simp only [hm,decide_false,if_false,Bool.false_eq_true]
   by_cases ha:an = (0,0,0)
   ·subst ha; simp [els_free (an:=(0,0,0)) h8 hi hm]
   ·rw [if_neg ha,if_neg (fun h=>ha h.symm)]
 ·rw [if_neg hi,if_neg hi]
  by_cases ha:an = (3,0,0)
  ·subst ha; simp [elsI_of hc]
  ·rw [if_neg ha,if_neg (fun h=>ha h.symm)]
theorem next_alloc {l:List Int} {op:Opn} {an:An} (hc:checkI l = 0) (h7:op.1 = 7):nextA l op an = if an = (7,0,0) ∨ an = (12,0,0) then (elsI (ofW l),true) else if inI an.2.1 = true ∧ an = (0,an.2.1,0) ∧ has (ofW l) an.2.1.toNat = true then (elsI (woW (ofW l) an.2.1.toNat),true) else ([],false):=by
 have hrng:=(checkI_zero.1 hc).1
 unfold nextA allA behA
 rw [if_pos hc,if_pos h7]
 by_cases hr:an = (7,0,0) ∨ an = (12,0,0)
 ·rw [if_pos hr,if_pos (by simp only [List.mem_append,List.mem_cons,List.not_mem_nil,or_false]; exact .inr hr),elsI_of hc]
  rcases hr with rfl | rfl <;> simp
 ·rw [if_neg hr]
  by_cases hg:inI an.2.1 = true ∧ an = (0,an.2.1,0) ∧ has (ofW l) an.2.1.toNat = true
  ·rw [if_pos hg]
   obtain ⟨h1,h2,h3⟩:=hg
   obtain ⟨h4,h5⟩:=inI_nat h1
   rw [has_of l h4,h5] at h3
   have h0:an.1 = 0:=by rw [h2]
   rw [if_pos,if_pos h0,els_alloc h7 h1]
   simp only [List.mem_append,List.mem_map]
   exact .inl ⟨an.2.1,by simpa using h3,h2.symm⟩
  ·rw [if_neg hg,if_neg]
   simp only [List.mem_append,List.mem_map,List.mem_cons,List.not_mem_nil,or_false]
   rintro (⟨x,hx,rfl⟩ | h)
   ·refine hg ⟨List.all_eq_true.1 hrng x hx,rfl,?_⟩
    obtain ⟨h4,h5⟩:=inI_nat (List.all_eq_true.1 hrng x hx)
    show has (ofW l) x.toNat = true
    rw [has_of l h4,h5]; simpa using hx
   ·exact hr h
theorem next_none {l:List Int} {op:Opn} {an:An} (h:checkI l ≠ 0 ∨ (op.1 ≠ 7 ∧ op.1 ≠ 8)):nextA l op an = ([],false):=by
 unfold nextA allA
 rcases h with h | ⟨h1,h2⟩
 ·rw [if_neg h]; simp
 ·rw [if_neg h1,if_neg h2]
  split <;> simp
section
variable {B G:GS} {A:List Int} {v0:Value}
theorem next_ok (orc:FuncId → Bool) (hA:SlR (rowsI .i64) G v0 A) (hlen:A.length < 2 ^ 36) (op:Opn) (an:An) (hG:Tab G):∃ v G',(E orc).cl 113 [v0,opV op,anV an] G = some (.tuple #[v,.bool (nextA A op an).2],G') ∧ Ext G G' ∧ OwR (rowsI .i64) G.nx G' v (nextA A op an).1:=by
 have w:Wp ((E orc).cl 113 [v0,opV op,anV an] G) fun q=>∃ v,q.1 = .tuple #[v,.bool (nextA A op an).2] ∧ Ext G q.2 ∧ OwR (rowsI .i64) G.nx q.2 v (nextA A op an).1:=by
  refine Wp.ref (f113 (exL_ok Q orc) _ _ _ G) ?_
  obtain ⟨G1,hG1⟩:∃ G1,G1 = (G.push ⟨[.int .i64 op.1,.int .i64 op.2.1,.int .i64 op.2.2.1,.int .u64 op.2.2.2],1,false,1⟩).push ⟨[.int .i64 an.1,.int .i64 an.2.1,.int .u64 an.2.2],1,false,1⟩:=⟨_,rfl⟩
  have x1:Ext G G1:=by rw [hG1]; exact ((Ext.refl G).push _).push _
  have n1:G1.nx = G.nx + 2:=by rw [hG1]; rfl
  have oo:G1.obj G.nx = some ⟨[.int .i64 op.1,.int .i64 op.2.1,.int .i64 op.2.2.1,.int .u64 op.2.2.2],1,false,1⟩:=by rw [hG1]; simp
  have oa:G1.obj (G.nx + 1) = some ⟨[.int .i64 an.1,.int .i64 an.2.1,.int .u64 an.2.2],1,false,1⟩:=by rw [hG1]; simp
  obtain ⟨G2,e2,x2⟩:=pcheck_ok orc (hA.ext x1) (by omega)
  have n2:=x2.nx
  by_cases hk:checkI A = 0
  ·rw [hk] at e2
   obtain ⟨G3,e3,x3⟩:=of_ok orc (hA.ext (x1.trans x2)) (by omega)
   have n3:=x3.nx
   have hO:=ofW_ok A
   obtain ⟨G4,hG4⟩:∃ G4,G4 = (G3.push ⟨z276,1,false,1⟩).put G3.nx ⟨setC (ofW A),1,false,1⟩:=⟨_,rfl⟩
   have x4:Ext G3 G4:=by rw [hG4]; exact ((Ext.refl G3).push _).put (Nat.le_refl _) _
   have n4:G4.nx = G3.nx + 1:=by rw [hG4]; rfl
   have y4:=(x2.trans x3).trans x4
   have oo4:=(y4.obj G.nx (by omega)).trans oo
   have oa4:=(y4.obj (G.nx + 1) (by omega)).trans oa
   have os4:G4.obj G3.nx = some ⟨setC (ofW A),1,false,1⟩:=by rw [hG4]; simp
   have z4:=x1.trans y4
   simp [s113,sb113,← hG1,e2,e3,setC_sto hO (cs:=z276) rfl,← hG4]
   clear hG1 hG4
   have fin:∀ (G':GS) (τ:Env) (W:List Nat),OkW W → Ext G G' → τ 8 = P0 G3.nx → G'.obj G3.nx = some ⟨setC W,1,false,1⟩ → Wp (j113_0 true (exL Q orc) τ G') fun q=>∃ v,q.1 = .tuple #[v,.bool true] ∧ Ext G q.2 ∧ OwR (rowsI .i64) G.nx q.2 v (elsI W):=by
    intro G' τ W hW x t8 o
    obtain ⟨v,G7,e7,x7,w7⟩:=list_ok orc hW (hG.ext x)
    simp [j113_0,jb113_0,t8,o,setC_len hW,setC_take hW,e7]
    exact ⟨x.trans x7,w7.mono x.nx⟩
   by_cases h8:op.1 = 8
   ·rw [next_free hk h8]
    obtain ⟨G5,e5,x5⟩:=pfree_ok orc hO op.2.1 G4
    have n5:=x5.nx
    have hF:=freeI_ok hO op.2.1
    generalize hfr:freeI (ofW A) op.2.1 = fr at *
    have oa5:=(x5.obj (G.nx + 1) (by omega)).trans oa4
    have os5:=(x5.obj G3.nx (by omega)).trans os4
    have hne:=ne_an (.tmp 29) (.tmp 30) fr.1 an
    have d1:¬ G.nx + 1 = G5.nx:=by omega
    have d2:¬ G.nx + 1 = G5.nx + 1:=by omega
    have d3:¬ G3.nx = G5.nx:=by omega
    have d4:¬ G3.nx = G5.nx + 1:=by omega
    have d5:¬ G.nx = G5.nx:=by omega
    have y5:Ext G (((((G5.push ⟨z27,1,false,1⟩).push ⟨z276,1,false,1⟩).put G5.nx ⟨[.int .i64 fr.1.1,.int .i64 fr.1.2.1,.int .u64 fr.1.2.2],1,false,1⟩).put (G5.nx + 1) ⟨setC fr.2,1,false,1⟩)) :=
     Ext.put (Ext.put ((((z4.trans x5).push _).push _)) (by omega) _) (by omega) _
    by_cases hc:fr.1 = an
    ·simp only [hc,decide_true,Bool.not_true] at hne
     rw [if_pos hc]
     simp only [hc] at y5
     simp [oo4,h8,os4,setC_len hO,setC_take hO,e5,hc,setC_len hF,setC_take hF,setC_allT,d1,d2,d3,d4,d5,oa5,os5,hne]
     refine fin _ _ fr.2 hF ?_ ?_ ?_
     ·exact Ext.put y5 (by omega) _
     ·simp [clip_t]
     ·simp [setC_len hO]
    ·have hc':decide (fr.1 = an) = false:=by simpa using hc
     rw [hc'] at hne
     rw [if_neg hc]
     simp [oo4,h8,os4,setC_len hO,setC_take hO,e5,setC_len hF,setC_take hF,setC_allT,d1,d2,d3,d4,d5,oa5,os5,hne]
     exact ⟨y5,OwR.nil _ _⟩
   by_cases h7:op.1 = 7
   ·rw [next_alloc hk h7]
    have q1:=eq_an (.tmp 35) (.tmp 36) an (7,0,0)
    have q2:=eq_an (.tmp 39) (.tmp 40) an (12,0,0)
    have q3:=eq_an (.tmp 47) (.tmp 50) an (0,an.2.1,0)
    cases hi:inI an.2.1 with
    | false =>
     by_cases a1:an = (7,0,0)
     ·rw [show decide (an = (7,0,0)) = true by simpa using a1] at q1
      rw [if_pos (.inl a1)]
      simp [oo4,h7,h8,oa4,os4,setC_len hO,setC_take hO,q1,q2,q3,inside_ok',hi]
      exact fin _ _ _ hO z4 (by simp [clip_t]) os4
     by_cases a2:an = (12,0,0)
     ·rw [show decide (an = (7,0,0)) = false by simpa using a1] at q1
      rw [show decide (an = (12,0,0)) = true by simpa using a2] at q2
      rw [if_pos (.inr a2)]
      simp [oo4,h7,h8,oa4,os4,setC_len hO,setC_take hO,q1,q2,q3,inside_ok',hi]
      exact fin _ _ _ hO z4 (by simp [clip_t]) os4
     rw [show decide (an = (7,0,0)) = false by simpa using a1] at q1
     rw [show decide (an = (12,0,0)) = false by simpa using a2] at q2
     rw [if_neg (by rintro (h | h); exact a1 h; exact a2 h),if_neg (fun h=>by cases h.1)]
     simp [oo4,h7,h8,oa4,os4,setC_len hO,setC_take hO,q1,q2,q3,inside_ok',hi]
     exact ⟨z4,OwR.nil _ _⟩
    | true =>
     by_cases hq:an = (0,an.2.1,0)
     ·have a1:¬ an = (7,0,0):=fun h=>by rw [h] at hq; simp at hq
      have a2:¬ an = (12,0,0):=fun h=>by rw [h] at hq; simp at hq
      rw [show decide (an = (7,0,0)) = false by simpa using a1] at q1
      rw [show decide (an = (12,0,0)) = false by simpa using a2] at q2
      rw [show decide (an = (0,an.2.1,0)) = true by simpa using hq] at q3
      obtain ⟨n3',n4'⟩:=inI_nat hi
      obtain ⟨G5,e5,x5⟩:=has_ok orc hO n3' G4
      rw [n4'] at e5
      have n5:=x5.nx
      have oa5:=(x5.obj (G.nx + 1) (by omega)).trans oa4
      have os5:=(x5.obj G3.nx (by omega)).trans os4
      rw [if_neg (by rintro (h | h); exact a1 h; exact a2 h)]
      cases hh:has (ofW A) an.2.1.toNat with
      | false =>
       rw [hh] at e5
       rw [if_neg (fun h=>by have:=h.2.2; cases this)]
       simp [oo4,h7,h8,oa4,os4,setC_len hO,setC_take hO,q1,q2,q3,inside_ok',hi,e5]
       exact ⟨z4.trans x5,OwR.nil _ _⟩
      | true =>
       rw [hh] at e5
       rw [if_pos ⟨rfl,hq,rfl⟩]
       obtain ⟨G6,e6,x6⟩:=wo_ok orc hO n3' G5
       rw [n4'] at e6
       have n6:=x6.nx
       have hw:=hO.wo an.2.1.toNat
       have os6:=(x6.obj G3.nx (by omega)).trans os5
       simp [oo4,h7,h8,oa4,os4,setC_len hO,setC_take hO,q1,q2,q3,inside_ok',hi,e5,oa5,os5,e6,os6,setC_len hw,setC_take hw,setC_allT]
       refine fin _ _ _ hw ?_ ?_ ?_
       ·exact ((z4.trans x5).trans x6).put (by omega) _
       ·simp [clip_t]
       ·simp [setC_len hO]
     ·rw [show decide (an = (0,an.2.1,0)) = false by simpa using hq] at q3
      by_cases a1:an = (7,0,0)
      ·rw [show decide (an = (7,0,0)) = true by simpa using a1] at q1
       rw [if_pos (.inl a1)]
       simp [oo4,h7,h8,oa4,os4,setC_len hO,setC_take hO,q1,q2,q3,inside_ok',hi]
       exact fin _ _ _ hO z4 (by simp [clip_t]) os4
      by_cases a2:an = (12,0,0)
      ·rw [show decide (an = (7,0,0)) = false by simpa using a1] at q1
       rw [show decide (an = (12,0,0)) = true by simpa using a2] at q2
       rw [if_pos (.inr a2)]
       simp [oo4,h7,h8,oa4,os4,setC_len hO,setC_take hO,q1,q2,q3,inside_ok',hi]
       exact fin _ _ _ hO z4 (by simp [clip_t]) os4
      rw [show decide (an = (7,0,0)) = false by simpa using a1] at q1
      rw [show decide (an = (12,0,0)) = false by simpa using a2] at q2
      rw [if_neg (by rintro (h | h); exact a1 h; exact a2 h),if_neg (fun h=>hq h.2.1)]
      simp [oo4,h7,h8,oa4,os4,setC_len hO,setC_take hO,q1,q2,q3,inside_ok',hi]
      exact ⟨z4,OwR.nil _ _⟩
   ·rw [next_none (.inr ⟨h7,h8⟩)]
    simp [oo4,h7,h8]
    exact ⟨z4,OwR.nil _ _⟩
  ·rw [next_none (.inl hk)]
   simp [s113,sb113,← hG1,e2,hk]
   exact ⟨x1.trans x2,OwR.nil _ _⟩
 obtain ⟨⟨v,G'⟩,e,v',rfl,e1,e2⟩:=w
 exact ⟨v',G',e,e1,e2⟩
end
end Go.Proofs.YtlaojmcekeohnaaGreatDoor.Lift
set_option linter.unusedVariables false
set_option linter.unusedSimpArgs false
set_option linter.unnecessarySimpa false
set_option maxRecDepth 20000
namespace Go.Proofs.YtlaojmcekeohnaaGreatDoor.Lift
open Go Go.Proofs.YtlaojmcekeohnaaGreatDoor.Gh Go.Proofs
def pNext (s:List Int) (o:Op4) (an:An3):Option (List Int):=if (nextA s o an).2 = true then some (nextA s o an).1 else none
def pFine (s:List Int) (o:Op4):List An3:=if o.1 = 7 then s.map (fun i=>(0,i,0)) else [(0,0,0)]
def pFirst (room:Int):List Int:=(restN [] room).map fun n:Nat=>(n:Int)
def pMac (room:Int):Mac Int:=⟨pFirst room,pNext,pFine⟩
def pInv (L:List Int):Prop:=L.length ≤ 1024 ∧ ∀ x ∈ L,0 ≤ x ∧ x < 1024
theorem restN_le (l:List Int) (n:Int):(restN l n).length ≤ 1024:=by
 unfold restN
 refine Nat.le_trans (List.length_filter_le _ _) ?_
 rw [List.length_range]; exact lowN_le n
theorem pInv_first (room:Int):pInv (pFirst room):=by
 refine ⟨by unfold pFirst; rw [List.length_map]; exact restN_le _ _,fun x hx=>?_⟩
 obtain ⟨n,hn,rfl⟩:=List.mem_map.1 hx
 unfold restN at hn
 have:=List.mem_range.1 (List.mem_filter.1 hn).1
 have:=lowN_le room
 omega
theorem pInv_next {L L':List Int} {o:Op4} {an:An3} (h:pInv L) (hn:pNext L o an = some L'):pInv L':=by
 unfold pNext nextA at hn
 by_cases ha:an ∈ allA L o
 ·rw [if_pos ha] at hn
  simp only [if_true] at hn
  cases hn
  unfold behA
  split
  ·refine ⟨behN_len _ _ _ _,fun x hx=>?_⟩
   unfold behN at hx
   obtain ⟨n,hn,rfl⟩:=List.mem_map.1 hx
   have:=List.mem_range.1 (List.mem_filter.1 hn).1
   omega
  ·exact h
 ·rw [if_neg ha] at hn
  simp at hn
theorem txp_flat:∀ {L:List Int},(∀ x ∈ L,0 ≤ x ∧ x < 1024) → txtL ((rowsI .i64).flat L) (.i64,44) (.i64,44) = some (txN L)
 | [],_=>rfl
 | x :: L,h=>by
  have hx:=h x (List.mem_cons_self ..)
  have ih:=txp_flat (L:=L) fun y hy=>h y (List.mem_cons_of_mem _ hy)
  rw [RowE.flat_cons,rowsI_row,List.singleton_append,txtL_cons,ih]
  have h1:(-9223372036854775808:Int) ≤ x:=by omega
  have h2:x < 9223372036854775808:=by omega
  have:txt1 (.i64,44) (.int .i64 x) = some (dgI x ++ [44]):=by simp [txt1,inR,h1,h2]
  rw [this]
  simp [txN]
section
variable {B G:GS} {sv:Value} {s L:List Int}
theorem tab_of (h:Ext B G) (ht:tabs B = true) (hn:2 ≤ B.nx):Tab G:=Tab.ext ⟨ht,hn⟩ h
theorem ptext (orc:FuncId → Bool) (ht:tabs G = true) (hs:SlR (rowsI .i64) G sv L) (hi:pInv L):Wp ((E orc).cl 115 [sv] G) fun r=>r.1 = .string ⟨(txN L).toArray⟩ ∧ r.2 = G:=by
 refine Wp.ref (Ref.txC (P:=Q) (by kernel_rfl) (by kernel_rfl) (by kernel_rfl) (by kernel_rfl) (by kernel_rfl) [sv] G) ?_
 obtain ⟨a,c,e0⟩:=hs.len
 have hel:=elems_of hs.is
 rw [rowsI_sz] at hel
 cases L with
 | nil =>
  subst e0
  simp [txt,txN]
 | cons x L =>
  have htx:=txp_flat hi.2
  have hle:=hi.1
  rcases hs.is.2 with ⟨h1,h2⟩ | ⟨b,o,c',ob,h1,_⟩
  ·simp at h2
  ·subst h1
   have hr:rdN G b o ((L.length + 1) * 1) = some ((rowsI .i64).flat (x :: L)):=hel
   have hb:Nat.ble L.length 1000000 = true:=Nat.ble_eq_true_of_le (by simp at hle; omega)
   simp only [List.length_cons,txt,kC,ht,hb,Bool.and_self,if_true,hr,htx]
   exact ⟨_,rfl,rfl,rfl⟩
theorem pfine_lp (orc:FuncId → Bool) {A:GS} (hs:SlR (rowsI .i64) A sv s) (hl:s.length ≤ 1024):∀ (k i:Nat) (τ:Env) (G:GS),i + k = s.length → τ 13 = sv → τ 14 = .int .i64 s.length → τ 15 = .int .i64 (i:Int) → Ext A G → OwR eAn A.nx G (τ 5) ((s.take i).map fun x=>(0,x,0)) →
  Wp ((exL Q orc).lpx 114 0 τ G) fun q=>q.1 = .exit 0 ∧ Ext A q.2.2 ∧ OwR eAn A.nx q.2.2 (q.2.1 5) (s.map fun x=>(0,x,0)):=by
 intro k
 induction k with
 | zero =>
  intro i τ G hi t13 t14 t15 hx ho
  obtain rfl:i = s.length:=by omega
  refine Wp.lp (l114_0 (exL_ok Q orc)) ?_
  simp [b114_0,clip_t,t13,t14,t15]
  rw [List.take_length] at ho
  exact ⟨hx,ho⟩
 | succ k ih =>
  intro i τ G hi t13 t14 t15 hx ho
  have hlt:i < s.length:=by omega
  have hlt':(i:Int) < s.length:=by omega
  have h0:(0:Int) ≤ i:=by omega
  have hw:IntKind.wrap .i64 ((i:Int) + 1) = ((i + 1:Nat):Int):=wrap64 (by omega) (by omega)
  obtain ⟨b,o,c',e1,hb,q,_⟩:=(hs.ext hx).at (i:=i) hlt
  have q0:=q 0 (by decide)
  simp at q0
  obtain ⟨x,hxi⟩:∃ x,x = s[i]:=⟨_,rfl⟩
  rw [← hxi] at q0
  have hz:z27 = [.int .i64 0,.int .i64 0,.int .u64 0]:=rfl
  obtain ⟨G1,hG1⟩:∃ G1,G1 = G.push ⟨eAn.row (0,x,0),3,false,1⟩:=⟨_,rfl⟩
  have sl:SlR eAn G1 (.slice (some ⟨G.nx,0,none⟩) 1 1) [(0,x,0)]:=by rw [hG1]; exact SlR.one eAn G _
  have x1:Ext G G1:=by rw [hG1]; exact (Ext.refl G).push _
  have hll:((s.take i).map fun x=>((0,x,0):An3)).length = i:=by simp; omega
  obtain ⟨v',G2,e2,x2,w2⟩:=(ho.ext x1).app (ib:=24) (by decide) (hx.trans x1) sl (by rw [hll]; simp; omega)
  have htk:((s.take i).map fun x=>((0,x,0):An3)) ++ [(0,x,0)] = (s.take (i + 1)).map fun x=>(0,x,0):=by
   rw [List.take_add_one,List.getElem?_eq_getElem hlt,hxi]
   simp only [Option.toList_some,List.map_append,List.map_cons,List.map_nil]
  rw [htk] at w2
  have hr3:rep [Value.int .i64 0,.int .i64 0,.int .u64 0] 1 = [.int .i64 0,.int .i64 0,.int .u64 0]:=rfl
  rw [hG1] at e2
  simp only [eAn_row] at e2
  simp only [eAn_sz] at e2
  refine Wp.lp (l114_0 (exL_ok Q orc)) ?_
  simp [-Int.natCast_add,b114_0,clip_t,t13,t14,t15,hlt,hlt',h0,e1,q0,hz,hr3,e2,hw]
  subst e1
  refine ih (i + 1) _ G2 (by omega) ?_ ?_ ?_ x2 ?_
  ·simp [clip_t]
  ·simp [clip_t]
  ·simp [clip_t]
  ·simpa [clip_t] using w2
theorem macP (orc:FuncId → Bool) {room:Int} {fv:Value} (ht:tabs B = true) (h2:2 ≤ B.nx) (hf:SlR (rowsI .i64) B fv (pFirst room)) :
  MacC orc (rowsI .i64) (pMac room) pInv (fun L=>⟨(txN L).toArray⟩) B fv (.func (.func 113) ⟨[]⟩ ⟨[]⟩) (.func (.func 114) ⟨[]⟩ ⟨[]⟩) (.func (.func 115) ⟨[]⟩ ⟨[]⟩) where
 first:=hf
 inv0:=pInv_first room
 next G sv s op an hB hs hi ho:=by
  rw [cValue_func]
  obtain ⟨v,G',e,x,w⟩:=next_ok orc hs (by have:=hi.1; omega) op an (tab_of hB ht h2)
  refine ⟨(_,G'),e,x,v,?_⟩
  by_cases hn:(nextA s op an).2 = true
  ·have hp:pNext s op an = some (nextA s op an).1:=by unfold pNext; rw [if_pos hn]
   exact .inl ⟨by rw [hn],_,hp,pInv_next hi hp,w.is⟩
  ·exact .inr ⟨by rw [show (nextA s op an).2 = false by simpa using hn],by show pNext s op an = none; unfold pNext; rw [if_neg hn]⟩
 fine G sv s op hB hs hi ho:=by
  rw [cValue_func]
  refine Wp.ref (f114 (exL_ok Q orc) _ _ G) ?_
  obtain ⟨a,c,e0⟩:=hs.len
  show Wp _ fun (r:Value × GS)=>Ext G r.2 ∧ SlR eAn r.2 r.1 (pFine s op) ∧ (pFine s op).length ≤ 2000
  have lc:∀ t,ln Q true t sv = some (.int .i64 s.length):=fun t=>by rw [e0]; simp
  unfold pFine
  by_cases h7:op.1 = 7
  ·rw [if_pos h7]
   simp [s114,mBox,Value.cells,rowOp,h7,lc]
   refine Wp.bE (Wp.mono (pfine_lp orc (A:=G) hs hi.1 s.length 0 _ _ (by omega) ?_ ?_ ?_ ?_ ?_) ?_)
   ·simp
   ·simp
   ·simp
   ·exact (Ext.refl G).push _
   ·simpa using OwR.nil _ _
   rintro ⟨e,τ,G'⟩ ⟨rfl,x,w⟩
   simp only at x w
   simp
   exact ⟨x,w.is,by have:=hi.1; omega⟩
  ·rw [if_neg h7]
   have hz:z27 = [.int .i64 0,.int .i64 0,.int .u64 0]:=rfl
   simp [s114,mBox,Value.cells,rowOp,h7,hz]
   exact ⟨((Ext.refl G).push _).push _,SlR.one eAn _ (0,0,0)⟩
 text G sv s hB hs hi:=by
  rw [cValue_func]
  exact ptext orc (tab_of hB ht h2).ob hs hi
 inj s s' h1 h2 h:=txN_inj (fun x hx=>by have:=h1.2 x hx; omega) (fun x hx=>by have:=h2.2 x hx; omega) (by simpa using h)
 sm:=by
  obtain ⟨a,c,e0⟩:=hf.len
  subst e0
  simp [same,sameD,sameD.listD]
end
end Go.Proofs.YtlaojmcekeohnaaGreatDoor.Lift
set_option linter.unusedVariables false
set_option linter.unusedSimpArgs false
set_option linter.unnecessarySimpa false
set_option maxRecDepth 20000
namespace Go.Proofs.YtlaojmcekeohnaaGreatDoor.Lift
open Go Go.Proofs.YtlaojmcekeohnaaGreatDoor.Gh Go.Proofs
theorem tabs_extP {B G:GS} (h:Ext B G) (ht:tabs B = true) (hn:2 ≤ B.nx):tabs G = true:=by
 unfold tabs at ht ⊢
 rw [h.obj 0 (by omega),h.obj 1 (by omega)]
 exact ht
def rowP (fv:Value):List Value:=[fv,.func (.func 113) ⟨[]⟩ ⟨[]⟩,.func (.func 114) ⟨[]⟩ ⟨[]⟩,.func (.func 115) ⟨[]⟩ ⟨[]⟩]
theorem pools_ok (orc:FuncId → Bool) (room:Int) {G:GS} (ht:tabs G = true) (h2:2 ≤ G.nx):Wp ((E orc).cl 45 [.int .i64 room] G) fun r=>∃ fv,r.1 = .agg ⟨rowP fv⟩ ∧ Ext G r.2 ∧ SlR (rowsI .i64) r.2 fv (pFirst room):=by
 refine Wp.ref (f45 (exL_ok Q orc) _ G) ?_
 have hz:z119 = [.slice none 0 0,.nilFunc,.nilFunc,.nilFunc]:=rfl
 obtain ⟨G1,hG1⟩:∃ G1,G1 = G.push ⟨[.slice none 0 0,.nilFunc,.nilFunc,.nilFunc],1,false,1⟩:=⟨_,rfl⟩
 have x1:Ext G G1:=by rw [hG1]; exact (Ext.refl G).push _
 obtain ⟨fv,G2,e2,x2,w2⟩:=rest_ok orc (G:=G1) (A:=[]) (v0:=.slice none 0 0) SlR.nil (by simp) room (Tab.ext ⟨ht,h2⟩ x1)
 have o1:G1.obj G.nx = some ⟨[.slice none 0 0,.nilFunc,.nilFunc,.nilFunc],1,false,1⟩:=by rw [hG1]; simp
 have n1:G1.nx = G.nx + 1:=by rw [hG1]; rfl
 have o2:=(x2.obj G.nx (by omega)).trans o1
 have wf:=w2.is
 have wk:∀ G3:GS,G2.nx ≤ G3.nx → (∀ g,G1.nx ≤ g → G3.obj g = G2.obj g) → SlR (rowsI .i64) G3 fv (pFirst room):=fun G3 hn hk=>wf.kept hn fun g hg=>hk g (w2.from hg)
 obtain ⟨a,c,rfl⟩:=wf.len
 simp [s45,hz,← hG1,e2,o2]
 refine ⟨.slice a (restN [] room).length c,rfl,(x1.trans x2).put (Nat.le_refl _) _,?_⟩
 have k:=wk (G2.put G.nx ⟨rowP (.slice a (restN [] room).length c),1,false,1⟩) (Nat.le_refl _) fun g hg=>by rw [obj_put,if_neg (by omega)]
 simp only [List.length_map] at k
 simpa [rowP] using k
theorem orderP (orc:FuncId → Bool) {G:GS} {lV:Value} {l:List Sp} (ht:tabs G = true) (h2:2 ≤ G.nx) (hl:SlR rSp G lV l) (okl:∀ c ∈ l,okOp c.op) (room:Int) (hm:MayOk 3 room l) :
  Wp ((E orc).cl 14 [.int .i64 3,.int .i64 room,lV] G) fun r=>Ext G r.2 ∧ (r.1 = .tuple #[.slice none 0 0,.bool false,.int .i64 0] ∧ ¬ Goes (pMac room) l [] (pFirst room) 0 ∨ ∃ outv row s2,r.1 = .tuple #[outv,.bool true,.int .i64 0] ∧ Way (pMac room) l (pFirst room) 0 row s2 (dn row 0) ∧ ovrP l (dn row 0) ∧ OwR (rowsI .i64) G.nx r.2 outv (row.map fun a=>(sp l a).id)):=by
 refine Wp.ref (f14 (exL_ok Q orc) _ _ _ G) ?_
 obtain ⟨⟨r1,G1⟩,e1,x1,x,rfl,hx⟩:=may_ok orc hl 3 room
 have hx0:=hx.2 hm
 subst hx0
 simp only at x1
 obtain ⟨⟨r2,G2⟩,e2,fv,rfl,x2,w2⟩:=pools_ok orc room (tabs_extP x1 ht h2) (Nat.le_trans h2 x1.nx)
 simp only at x2 w2
 have xx:=x1.trans x2
 obtain ⟨⟨r3,G3⟩,e3,x3,h3⟩:=order_P (orc:=orc) (macP orc (room:=room) (tabs_extP xx ht h2) (by have:=xx.nx; omega) w2) (Ext.refl G2) (hl.ext xx) okl (by have:=hm.2.2.1; omega)
 simp only at x3 h3
 have e3:(E orc).cl 44 [.agg ⟨rowP fv⟩,lV] G2 = some (r3,G3):=e3
 have x13:=xx.trans x3
 rcases h3 with ⟨rfl,hg⟩ | ⟨outv,row,s2,rfl,hw,ho,hv⟩
 ·simp [-eAn_row,jb14_0,j14_0,sb14,s14,e1,e2,e3,pExtract,getN_zero,getN_succ,clip_t]
  exact ⟨x13,hg⟩
 ·simp [-eAn_row,jb14_0,j14_0,sb14,s14,e1,e2,e3,pExtract,getN_zero,getN_succ,clip_t]
  exact ⟨x13,row,⟨s2,hw⟩,ho,hv.mono xx.nx⟩
end Go.Proofs.YtlaojmcekeohnaaGreatDoor.Lift
