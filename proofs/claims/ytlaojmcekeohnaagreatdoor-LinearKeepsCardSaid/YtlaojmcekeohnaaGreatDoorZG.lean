import Derived.Test.YtlaojmcekeohnaaGreatDoorRVb
import Derived.Shelf.Strconv.AppendIntPublic10
import Derived.Shelf.Strconv.AppendUint10
import Derived.Ground.NamesProg
import Derived.Tactics
import Derived.Tactics2
import Derived.StillTactics
import Derived.Laws.Pointers
import Derived.RegionTactic
import Derived.LoopTactic
import Derived.ChangeAlike
import Derived.WalkKit
import Derived.ProofKit
import Derived.Laws.IdiomStrings
import Derived.Lib.AppendIntMem
import Derived.Lib.ItoaLen
import Derived.Lib.Slices
import Derived.Lib.Hide
import Derived.OwnWalk
import Derived.BigCall
import Derived.LaidMore
import Derived.OpenShut
import Derived.Stop.Joined
import Derived.Stop.LaidErr
import Derived.Test.YtlaojmcekeohnaaGreatDoorZF
namespace Go.Proofs.YtlaojmcekeohnaaGreatDoor.Lift
open Go Go.Proofs.YtlaojmcekeohnaaGreatDoor.Gh Go.Proofs Go.Shelf
def txL176_ren:Go.Shelf.Ren:=⟨fun | 176=>110 | 249=>174 | 288=>172 | 283=>227 | 284=>228 | 285=>229 | 286=>230 | 129=>256 | 317=>255 | 318=>257 | 319=>258 | 320=>259 | 337=>272 | 338=>237 | n=>n,fun | 37=>181 | 2=>2 | 3=>3 | 53=>22 | 4=>4 | 9=>9 | 171=>327 | 0=>0 | 173=>329 | 212=>351 | 51=>295 | 5=>5 | 20=>20 | 213=>352 | 46=>333 | 232=>364 | 233=>354 | n=>n,fun | 17=>0 | 18=>2 | 19=>1 | n=>n⟩
theorem txL176:Go.Proofs.LaysM.n176 Tryz.prog txL176_ren:={
 mixed:=by kernel_rfl
 f129:=Tryz.func256.trans (congrArg some (by kernel_rfl))
 f176:=Tryz.func110.trans (congrArg some (by kernel_rfl))
 f249:=Tryz.func174.trans (congrArg some (by kernel_rfl))
 f283:=Tryz.func227.trans (congrArg some (by kernel_rfl))
 f284:=Tryz.func228.trans (congrArg some (by kernel_rfl))
 f285:=Tryz.func229.trans (congrArg some (by kernel_rfl))
 f286:=Tryz.func230.trans (congrArg some (by kernel_rfl))
 f288:=Tryz.func172.trans (congrArg some (by kernel_rfl))
 f317:=Tryz.func255.trans (congrArg some (by kernel_rfl))
 f318:=Tryz.func257.trans (congrArg some (by kernel_rfl))
 f319:=Tryz.func258.trans (congrArg some (by kernel_rfl))
 f320:=Tryz.func259.trans (congrArg some (by kernel_rfl))
 f337:=Tryz.func272.trans (congrArg some (by kernel_rfl))
 f338:=Tryz.func237.trans (congrArg some (by kernel_rfl))
 t0:=Tryz.underlying0
 a0:=Tryz.isAgg0
 z0:=Tryz.sizeOf0
 v0:=Tryz.zeroValue0
 t2:=Tryz.underlying2
 a2:=Tryz.isAgg2
 z2:=Tryz.sizeOf2
 v2:=Tryz.zeroValue2
 t3:=Tryz.underlying3
 a3:=Tryz.isAgg3
 z3:=Tryz.sizeOf3
 v3:=Tryz.zeroValue3
 t4:=Tryz.underlying4
 a4:=Tryz.isAgg4
 z4:=Tryz.sizeOf4
 v4:=Tryz.zeroValue4
 t5:=Tryz.underlying5
 a5:=Tryz.isAgg5
 z5:=Tryz.sizeOf5
 v5:=Tryz.zeroValue5
 t9:=Tryz.underlying9
 a9:=Tryz.isAgg9
 z9:=Tryz.sizeOf9
 v9:=Tryz.zeroValue9
 t20:=Tryz.underlying20
 a20:=Tryz.isAgg20
 z20:=Tryz.sizeOf20
 v20:=Tryz.zeroValue20
 t37:=Tryz.underlying181
 a37:=Tryz.isAgg181
 z37:=Tryz.sizeOf181
 v37:=Tryz.zeroValue181
 t46:=Tryz.underlying333
 a46:=Tryz.isAgg333
 z46:=Tryz.sizeOf333
 v46:=Tryz.zeroValue333
 t51:=Tryz.underlying295
 a51:=Tryz.isAgg295
 z51:=Tryz.sizeOf295
 v51:=Tryz.zeroValue295
 t53:=Tryz.underlying22
 a53:=Tryz.isAgg22
 z53:=Tryz.sizeOf22
 v53:=Tryz.zeroValue22
 t171:=Tryz.underlying327
 a171:=Tryz.isAgg327
 z171:=Tryz.sizeOf327
 v171:=Tryz.zeroValue327
 t173:=Tryz.underlying329
 a173:=Tryz.isAgg329
 z173:=Tryz.sizeOf329
 v173:=Tryz.zeroValue329
 t212:=Tryz.underlying351
 a212:=Tryz.isAgg351
 z212:=Tryz.sizeOf351
 v212:=Tryz.zeroValue351
 t213:=Tryz.underlying352
 a213:=Tryz.isAgg352
 z213:=Tryz.sizeOf352
 t232:=Tryz.underlying364
 a232:=Tryz.isAgg364
 z232:=Tryz.sizeOf364
 v232:=Tryz.zeroValue364
 t233:=Tryz.underlying354
 a233:=Tryz.isAgg354
 z233:=Tryz.sizeOf354
 v233:=Tryz.zeroValue354
 g17:=by kernel_rfl
 g18:=by kernel_rfl
 g19:=by kernel_rfl
 i0:=by kernel_rfl
 i2:=by kernel_rfl
 i3:=by kernel_rfl
 i4:=by kernel_rfl
 i5:=by kernel_rfl
 i9:=by kernel_rfl
 i20:=by kernel_rfl
 i37:=by kernel_rfl
 i46:=by kernel_rfl
 i51:=by kernel_rfl
 i53:=by kernel_rfl
 i171:=by kernel_rfl
 i173:=by kernel_rfl
 i212:=by kernel_rfl
 i232:=by kernel_rfl
 i233:=by kernel_rfl
 m17:=by kernel_rfl
 m18:=by kernel_rfl
 m19:=by kernel_rfl }
def txL288_ren:Go.Shelf.Ren:=⟨fun | 288=>172 | 283=>227 | 284=>228 | 285=>229 | 286=>230 | 129=>256 | 317=>255 | 318=>257 | 319=>258 | 320=>259 | 337=>272 | 338=>237 | n=>n,fun | 37=>181 | 53=>22 | 3=>3 | 4=>4 | 9=>9 | 171=>327 | 0=>0 | 173=>329 | 212=>351 | 51=>295 | 5=>5 | 20=>20 | 213=>352 | 46=>333 | 232=>364 | 233=>354 | n=>n,fun | 17=>0 | 18=>2 | 19=>1 | n=>n⟩
theorem txL288:Go.Proofs.LaysM.n288 Tryz.prog txL288_ren:={
 mixed:=by kernel_rfl
 f129:=Tryz.func256.trans (congrArg some (by kernel_rfl))
 f283:=Tryz.func227.trans (congrArg some (by kernel_rfl))
 f284:=Tryz.func228.trans (congrArg some (by kernel_rfl))
 f285:=Tryz.func229.trans (congrArg some (by kernel_rfl))
 f286:=Tryz.func230.trans (congrArg some (by kernel_rfl))
 f288:=Tryz.func172.trans (congrArg some (by kernel_rfl))
 f317:=Tryz.func255.trans (congrArg some (by kernel_rfl))
 f318:=Tryz.func257.trans (congrArg some (by kernel_rfl))
 f319:=Tryz.func258.trans (congrArg some (by kernel_rfl))
 f320:=Tryz.func259.trans (congrArg some (by kernel_rfl))
 f337:=Tryz.func272.trans (congrArg some (by kernel_rfl))
 f338:=Tryz.func237.trans (congrArg some (by kernel_rfl))
 t0:=Tryz.underlying0
 a0:=Tryz.isAgg0
 z0:=Tryz.sizeOf0
 v0:=Tryz.zeroValue0
 t3:=Tryz.underlying3
 a3:=Tryz.isAgg3
 z3:=Tryz.sizeOf3
 v3:=Tryz.zeroValue3
 t4:=Tryz.underlying4
 a4:=Tryz.isAgg4
 z4:=Tryz.sizeOf4
 v4:=Tryz.zeroValue4
 t5:=Tryz.underlying5
 a5:=Tryz.isAgg5
 z5:=Tryz.sizeOf5
 v5:=Tryz.zeroValue5
 t9:=Tryz.underlying9
 a9:=Tryz.isAgg9
 z9:=Tryz.sizeOf9
 v9:=Tryz.zeroValue9
 t20:=Tryz.underlying20
 a20:=Tryz.isAgg20
 z20:=Tryz.sizeOf20
 v20:=Tryz.zeroValue20
 t37:=Tryz.underlying181
 a37:=Tryz.isAgg181
 z37:=Tryz.sizeOf181
 v37:=Tryz.zeroValue181
 t46:=Tryz.underlying333
 a46:=Tryz.isAgg333
 z46:=Tryz.sizeOf333
 v46:=Tryz.zeroValue333
 t51:=Tryz.underlying295
 a51:=Tryz.isAgg295
 z51:=Tryz.sizeOf295
 v51:=Tryz.zeroValue295
 t53:=Tryz.underlying22
 a53:=Tryz.isAgg22
 z53:=Tryz.sizeOf22
 v53:=Tryz.zeroValue22
 t171:=Tryz.underlying327
 a171:=Tryz.isAgg327
 z171:=Tryz.sizeOf327
 v171:=Tryz.zeroValue327
 t173:=Tryz.underlying329
 a173:=Tryz.isAgg329
 z173:=Tryz.sizeOf329
 v173:=Tryz.zeroValue329
 t212:=Tryz.underlying351
 a212:=Tryz.isAgg351
 z212:=Tryz.sizeOf351
 v212:=Tryz.zeroValue351
 t213:=Tryz.underlying352
 a213:=Tryz.isAgg352
 z213:=Tryz.sizeOf352
 t232:=Tryz.underlying364
 a232:=Tryz.isAgg364
 z232:=Tryz.sizeOf364
 v232:=Tryz.zeroValue364
 t233:=Tryz.underlying354
 a233:=Tryz.isAgg354
 z233:=Tryz.sizeOf354
 v233:=Tryz.zeroValue354
 g17:=by kernel_rfl
 g18:=by kernel_rfl
 g19:=by kernel_rfl
 i0:=by kernel_rfl
 i3:=by kernel_rfl
 i4:=by kernel_rfl
 i5:=by kernel_rfl
 i9:=by kernel_rfl
 i20:=by kernel_rfl
 i37:=by kernel_rfl
 i46:=by kernel_rfl
 i51:=by kernel_rfl
 i53:=by kernel_rfl
 i171:=by kernel_rfl
 i173:=by kernel_rfl
 i212:=by kernel_rfl
 i232:=by kernel_rfl
 i233:=by kernel_rfl
 m17:=by kernel_rfl
 m18:=by kernel_rfl
 m19:=by kernel_rfl }
set_option linter.unusedVariables false
set_option linter.unusedSimpArgs false
set_option maxRecDepth 100000
open Go Go.Proofs.YtlaojmcekeohnaaGreatDoor.Gh Go.Proofs Go.Shelf Go.RowKit Go.Lib
theorem appI (B n:Nat) (i:Int) (h0:-9223372036854775808≤i) (h1:i≤9223372036854775807) (sv:Value) (xs:List Value) (w:World) (hown:w.ownsRow B 5 1 sv n xs) (hBw:B≤w.heap.size) (hlim:n+21≤140737488355328)
  (htab:Lib.TabBelow Tryz.prog B w "internal/strconv.uint64pow10" .u64 Lib.pow10Tab) :
  Calls Tryz.prog 110 #[sv,.int .i64 i,.int .i64 10] w fun e w'=>∃ v',e= .returned v' ∧w'.ownsRow B 5 1 v' (n+(Lib.itoa i).length) (xs++Lib.byteCells (Lib.itoa i))∧RowKit.Below B w w' ∧Lib.OthersKept 5 none w w':=Any.strconv_AppendInt_10 txL176 B n i h0 h1 sv xs w hown hBw hlim htab
theorem appUi (B n u:Nat) (hu:u<18446744073709551616) (sv:Value) (xs:List Value) (w:World) (hown:w.ownsRow B 5 1 sv n xs) (hBw:B≤w.heap.size) (hlim:n+20≤140737488355328)
  (htab:Lib.TabBelow Tryz.prog B w "internal/strconv.uint64pow10" .u64 Lib.pow10Tab) :
  Calls Tryz.prog 172 #[sv,.int .u64 u,.int .i64 10] w fun e w'=>∃ v',e= .returned v' ∧w'.ownsRow B 5 1 v' (n+(Lib.decDigits u).length) (xs++Lib.byteCells (Lib.decDigits u))∧RowKit.Below B w w' ∧Lib.OthersKept 5 none w w':=by
 by_cases h:u<100
 ·exact Any.internal_strconv_AppendUint_10_small txL288 B n u h sv xs w hown hBw hlim
 ·exact Any.internal_strconv_AppendUint_10_big txL288 B n u (by omega) hu sv xs w hown hBw hlim htab.here
theorem appU (B n u:Nat) (hu:u<18446744073709551616) (sv:Value) (xs:List Value) (w:World) (hown:w.ownsRow B 5 1 sv n xs) (hBw:B≤w.heap.size) (hlim:n+20≤140737488355328)
  (htab:Lib.TabBelow Tryz.prog B w "internal/strconv.uint64pow10" .u64 Lib.pow10Tab) :
  Calls Tryz.prog 106 #[sv,.int .u64 u,.int .i64 10] w fun e w'=>∃ v',e= .returned v' ∧w'.ownsRow B 5 1 v' (n+(Lib.decDigits u).length) (xs++Lib.byteCells (Lib.decDigits u))∧RowKit.Below B w w' ∧Lib.OthersKept 5 none w w':=by
 go_enter Tryz.func106,Tryz.ntmps106
 go_wp2_with (go_at_call 172; refine (appUi B n u hu sv xs w hown hBw hlim htab).mono ?_; rintro e w2 ⟨v2,rfl,hown2,hnx2,hok2⟩)
 go_wp2
 go_ret
 exact ⟨v2,rfl,hown2,hnx2,hok2⟩
def tU (us:List Nat):List UInt8:=(us.map fun u=>Lib.decDigits u++[44]).flatten
theorem tU_take {us:List Nat} {k:Nat} (h:k<us.length):tU (us.take (k+1))=tU (us.take k)++Lib.decDigits (us.getD k 0)++[44]:=by
 unfold tU
 rw [← List.take_append_getElem h]
 simp only [List.map_append,List.flatten_append,List.map_cons,List.map_nil,List.flatten_cons,List.flatten_nil,List.append_nil,List.append_assoc]
 simp [List.getD,List.getElem?_eq_getElem h]
theorem tU_len:∀ {us:List Nat},(∀ u∈us,u<18446744073709551616)→(tU us).length≤21*us.length
 | [],_=>Nat.le_refl _
 | u::us,h=>by
  have h1:=tU_len (us:=us) fun x hx=>h x (List.mem_cons_of_mem _ hx)
  have h2:=h u (List.mem_cons_self ..)
  have h3:(Lib.decDigits u).length≤20:=by
   rw [Lib.decDigits_length]
   by_cases h0:1≤u
   ·have:=Lib.numDigits_eq u h0 h2
    split at this<;>omega
   ·rw [Lib.nDigits_small (by omega)]; omega
  have:(tU (u::us)).length=(Lib.decDigits u).length+1+(tU us).length:=by
   show ((Lib.decDigits u++[44])++tU us).length=_
   rw [List.length_append,List.length_append]; rfl
  rw [this]; simp; omega
theorem infoB:(Tryz.prog.info? 5).map (fun i=>(i.zero,i.size,i.bytes))=some (some (.int .u8 0),1,1):=by kernel_rfl
theorem conv0 (w:World) (p:Option Addr) (cap:Nat):(convert 181 9 (.slice p 0 cap)).run Tryz.prog w= .ok (.string ⟨#[]⟩) w:=by
 cases p<;>rfl
set_option maxHeartbeats 6400000 in
theorem txA0 (w:World) (p:Option Addr) (cap:Nat):Calls Tryz.prog 105 #[.slice p 0 cap] w fun e w'=>e= .returned (.string ⟨#[]⟩)∧Below w.heap.size w w':=by
 have hcv:=fun w=>conv0 w none 0
 go_enter Tryz.func105,Tryz.ntmps105
 go_wp2
 refine wp_loop_rounds 1 ?_
 rw [rounds_succ]
 go_wp2
 go_ret
 exact ⟨rfl,Below.refl _ _⟩
set_option maxHeartbeats 6400000 in
theorem txA1 (w:World) (b off cap:Nat) (us:List Nat) (h0:0<us.length) (hl:us.length<1000002) (hu:∀ u∈us,u<18446744073709551616)
  (hT:Lib.TabIs Tryz.prog w "internal/strconv.uint64pow10" .u64 Lib.pow10Tab) (hc:∀ j,j<us.length→w.cell? ⟨b,off+j,none⟩=some (.int .u64 (us.getD j 0:Nat))) :
  Calls Tryz.prog 105 #[.slice (some ⟨b,off,none⟩) us.length cap] w fun e w'=>e= .returned (.string ⟨(tU us).toArray⟩)∧Below w.heap.size w w':=by
 obtain ⟨i0,hi,hz0,hz1,hz2⟩:=info_parts infoB
 have hTB:=Lib.tabBelow_of_tabIs hT
 have hb:b<w.heap.size:=World.block_lt_of_cell? w _ (hc 0 h0)
 go_enter Tryz.func105,Tryz.ntmps105
 go_wp2
 go_loopw [3,8] (fun v i wr=>∃ k:Nat,k≤us.length∧i= .int .i64 k∧wr.ownsRow w.heap.size 5 1 v (tU (us.take k)).length (Lib.byteCells (tU (us.take k)))∧Below w.heap.size w wr)
  (fun _ i _=>us.length - (RowKit.intOf i).toNat)
 case atStart=>exact ⟨0,Nat.zero_le _,rfl,World.ownsRow_nil _ _ _ _,Below.refl _ _⟩
 case round =>
  obtain ⟨k,hk,rfl,hown,hnx⟩:=hrel
  have hlen:(tU (us.take k)).length≤21*us.length:=Nat.le_trans (tU_len fun x hx=>hu x (List.mem_of_mem_take hx)) (by rw [List.length_take]; omega)
  have hcx:k<us.length→wr.cell? ⟨b,off+k,none⟩=some (.int .u64 (us.getD k 0:Nat)):=fun h=>(hnx.cell (by exact hb)).trans (hc k h)
  have hTr:=hTB.on hnx
  by_cases hlt:k<us.length
  ·replace hcx:=hcx hlt
   have hux:us.getD k 0<18446744073709551616:=by
    rw [show us.getD k 0=us[k] by simp [List.getD,List.getElem?_eq_getElem hlt]]
    exact hu _ (List.getElem_mem hlt)
   have htk:=tU_take hlt
   generalize us.getD k 0=u at hcx hux htk
   have hd20:(Lib.decDigits u).length≤20:=by
    rw [Lib.decDigits_length]
    by_cases h0:1≤u
    ·have:=Lib.numDigits_eq u h0 hux
     split at this<;>omega
    ·rw [Lib.nDigits_small (by omega)]; omega
   have hsz:=hnx.size
   go_wp2_with (first
    | (go_at_call 106; refine (appU w.heap.size _ u hux _ _ _ hown hsz (by omega) hTr).mono ?_; rintro e w1 ⟨v1,rfl,hown1,hnx1,-⟩; refine Hid.out ?_)
    | fail)
   refine Lib.hid ?_
   go_wp2_with (at_builtin; refine wpList_append_own _ rfl _ _ 181 rfl w.heap.size 5 i0 (.int .u8 0) 1 1 Tryz.underlying181 hi hz0 hz1 hz2 rfl (by decide) _ _ _ rfl (hown1.alloc _) ⟨w1.heap.size,0,none⟩ 1 1 [Value.int .u8 44] rfl rfl (by intro j u' hj; match j,hj with | 0,hj=>simp at hj; subst hj; simp [Addr.add]) (by intro u' hu'; simp at hu'; subst hu'; rfl) (by unfold maxLen; omega) (by omega) (by have:=hnx1.size; simp; omega) ?_)
   intro v2 w2 hown2 hgrow _
   have hnx2:Below w.heap.size w w2:=((hnx.trans hnx1).alloc (by have:=hnx1.size; omega) _).grown hgrow (by have:=hnx1.size; simp; omega) (fun k hk=>(hown1.lt k hk).1)
   have eL:Lib.byteCells (tU (us.take k))++(Lib.byteCells (Lib.decDigits u)++[Value.int .u8 44])=Lib.byteCells (tU (us.take (k+1))):=by rw [htk]; simp [Lib.byteCells]
   have eN:(tU (us.take k)).length+(Lib.decDigits u).length+1=(tU (us.take (k+1))).length:=by rw [htk]; simp; omega
   rw [eL,eN] at hown2
   have R:w2.ownsRow w.heap.size 5 1 v2 (tU (us.take (k+1))).length (Lib.byteCells (tU (us.take (k+1))))∧Below w.heap.size w w2:=⟨hown2,hnx2⟩
   have hk1:k+1≤us.length:=hlt
   clear hown hown1 hown2 hnx hnx1 hnx2 hgrow eL eN htk hTr hcx hlen hux hd20
   go_wp2
   go_roundw
   case rel=>exact ⟨k+1,hk1,by simp,R.1,R.2⟩
   case measure=>simp [RowKit.intOf]; omega
  ·have hkl:k=us.length:=by omega
   subst hkl
   rw [List.take_length] at hown
   have hpos:0<(tU us).length:=by
    cases us with
    | nil=>simp at h0
    | cons u us=>show 0<((Lib.decDigits u++[44])++tU us).length; simp; omega
   obtain ⟨l,hl'⟩:∃ l,l=tU us:=⟨_,rfl⟩
   rw [← hl'] at hown hpos
   have HL:=Lib.hid hl'
   clear hl' hcx hlen
   rcases hown.2 with ⟨-,h0'⟩ | ⟨g,cap',cur,rfl,-,-,-,-,-,-⟩
   ·omega
   ·have hcv:=run_convert_bytes_back (P:=Tryz.prog) wr 181 9 5 ⟨g,0,none⟩ cap' l Tryz.underlying181 Tryz.underlying5 Tryz.underlying9 (fun j hj=>hown.cells (g:=g) rfl j _ (by simp [Lib.byteCells,hj]))
    go_wp2
    go_ret
    have hl:=HL.out
    subst hl
    exact ⟨rfl,hnx⟩
def tI (us:List Int):List UInt8:=(us.map fun u=>Lib.itoa u++[44]).flatten
theorem tI_take {us:List Int} {k:Nat} (h:k<us.length):tI (us.take (k+1))=tI (us.take k)++Lib.itoa (us.getD k 0)++[44]:=by
 unfold tI
 rw [← List.take_append_getElem h]
 simp only [List.map_append,List.flatten_append,List.map_cons,List.map_nil,List.flatten_cons,List.flatten_nil,List.append_nil,List.append_assoc]
 simp [List.getD,List.getElem?_eq_getElem h]
theorem tI_len:∀ {us:List Int},(∀ u∈us,-9223372036854775808≤u∧u≤9223372036854775807)→(tI us).length≤22*us.length
 | [],_=>Nat.le_refl _
 | u::us,h=>by
  have h1:=tI_len (us:=us) fun x hx=>h x (List.mem_cons_of_mem _ hx)
  have h2:=h u (List.mem_cons_self ..)
  have h3:=Lib.itoa_length_le u h2.1 h2.2
  have:(tI (u::us)).length=(Lib.itoa u).length+1+(tI us).length:=by
   show ((Lib.itoa u++[44])++tI us).length=_
   rw [List.length_append,List.length_append]; rfl
  rw [this]; simp; omega
set_option maxHeartbeats 6400000 in
theorem txC0 (w:World) (p:Option Addr) (cap:Nat):Calls Tryz.prog 115 #[.slice p 0 cap] w fun e w'=>e= .returned (.string ⟨#[]⟩)∧Below w.heap.size w w':=by
 have hcv:=fun w=>conv0 w none 0
 go_enter Tryz.func115,Tryz.ntmps115
 go_wp2
 refine wp_loop_rounds 1 ?_
 rw [rounds_succ]
 go_wp2
 go_ret
 exact ⟨rfl,Below.refl _ _⟩
set_option maxHeartbeats 6400000 in
theorem txC1 (w:World) (b off cap:Nat) (us:List Int) (h0:0<us.length) (hl:us.length<1000002) (hu:∀ u∈us,-9223372036854775808≤u∧u≤9223372036854775807)
  (hT:Lib.TabIs Tryz.prog w "internal/strconv.uint64pow10" .u64 Lib.pow10Tab) (hc:∀ j,j<us.length→w.cell? ⟨b,off+j,none⟩=some (.int .i64 (us.getD j 0))) :
  Calls Tryz.prog 115 #[.slice (some ⟨b,off,none⟩) us.length cap] w fun e w'=>e= .returned (.string ⟨(tI us).toArray⟩)∧Below w.heap.size w w':=by
 obtain ⟨i0,hi,hz0,hz1,hz2⟩:=info_parts infoB
 have hTB:=Lib.tabBelow_of_tabIs hT
 have hb:b<w.heap.size:=World.block_lt_of_cell? w _ (hc 0 h0)
 go_enter Tryz.func115,Tryz.ntmps115
 go_wp2
 go_loopw [3,8] (fun v i wr=>∃ k:Nat,k≤us.length∧i= .int .i64 k∧wr.ownsRow w.heap.size 5 1 v (tI (us.take k)).length (Lib.byteCells (tI (us.take k)))∧Below w.heap.size w wr)
  (fun _ i _=>us.length - (RowKit.intOf i).toNat)
 case atStart=>exact ⟨0,Nat.zero_le _,rfl,World.ownsRow_nil _ _ _ _,Below.refl _ _⟩
 case round =>
  obtain ⟨k,hk,rfl,hown,hnx⟩:=hrel
  have hlen:(tI (us.take k)).length≤22*us.length:=Nat.le_trans (tI_len fun x hx=>hu x (List.mem_of_mem_take hx)) (by rw [List.length_take]; omega)
  have hcx:k<us.length→wr.cell? ⟨b,off+k,none⟩=some (.int .i64 (us.getD k 0)):=fun h=>(hnx.cell (by exact hb)).trans (hc k h)
  have hTr:=hTB.on hnx
  by_cases hlt:k<us.length
  ·replace hcx:=hcx hlt
   have hux:-9223372036854775808≤us.getD k 0∧us.getD k 0≤9223372036854775807:=by
    rw [show us.getD k 0=us[k] by simp [List.getD,List.getElem?_eq_getElem hlt]]
    exact hu _ (List.getElem_mem hlt)
   have htk:=tI_take hlt
   generalize us.getD k 0=u at hcx hux htk
   have hd20:=Lib.itoa_length_le u hux.1 hux.2
   have hsz:=hnx.size
   go_wp2_with (first
    | (go_at_call 110; refine (appI w.heap.size _ u hux.1 hux.2 _ _ _ hown hsz (by omega) hTr).mono ?_; rintro e w1 ⟨v1,rfl,hown1,hnx1,-⟩; refine Hid.out ?_)
    | fail)
   refine Lib.hid ?_
   go_wp2_with (at_builtin; refine wpList_append_own _ rfl _ _ 181 rfl w.heap.size 5 i0 (.int .u8 0) 1 1 Tryz.underlying181 hi hz0 hz1 hz2 rfl (by decide) _ _ _ rfl (hown1.alloc _) ⟨w1.heap.size,0,none⟩ 1 1 [Value.int .u8 44] rfl rfl (by intro j u' hj; match j,hj with | 0,hj=>simp at hj; subst hj; simp [Addr.add]) (by intro u' hu'; simp at hu'; subst hu'; rfl) (by unfold maxLen; omega) (by omega) (by have:=hnx1.size; simp; omega) ?_)
   intro v2 w2 hown2 hgrow _
   have hnx2:Below w.heap.size w w2:=((hnx.trans hnx1).alloc (by have:=hnx1.size; omega) _).grown hgrow (by have:=hnx1.size; simp; omega) (fun k hk=>(hown1.lt k hk).1)
   have eL:Lib.byteCells (tI (us.take k))++(Lib.byteCells (Lib.itoa u)++[Value.int .u8 44])=Lib.byteCells (tI (us.take (k+1))):=by rw [htk]; simp [Lib.byteCells]
   have eN:(tI (us.take k)).length+(Lib.itoa u).length+1=(tI (us.take (k+1))).length:=by rw [htk]; simp; omega
   rw [eL,eN] at hown2
   have R:w2.ownsRow w.heap.size 5 1 v2 (tI (us.take (k+1))).length (Lib.byteCells (tI (us.take (k+1))))∧Below w.heap.size w w2:=⟨hown2,hnx2⟩
   have hk1:k+1≤us.length:=hlt
   clear hown hown1 hown2 hnx hnx1 hnx2 hgrow eL eN htk hTr hcx hlen hux hd20
   go_wp2
   go_roundw
   case rel=>exact ⟨k+1,hk1,by simp,R.1,R.2⟩
   case measure=>simp [RowKit.intOf]; omega
  ·have hkl:k=us.length:=by omega
   subst hkl
   rw [List.take_length] at hown
   have hpos:0<(tI us).length:=by
    cases us with
    | nil=>simp at h0
    | cons u us=>show 0<((Lib.itoa u++[44])++tI us).length; simp; omega
   obtain ⟨l,hl'⟩:∃ l,l=tI us:=⟨_,rfl⟩
   rw [← hl'] at hown hpos
   have HL:=Lib.hid hl'
   clear hl' hcx hlen
   rcases hown.2 with ⟨-,h0'⟩ | ⟨g,cap',cur,rfl,-,-,-,-,-,-⟩
   ·omega
   ·have hcv:=run_convert_bytes_back (P:=Tryz.prog) wr 181 9 5 ⟨g,0,none⟩ cap' l Tryz.underlying181 Tryz.underlying5 Tryz.underlying9 (fun j hj=>hown.cells (g:=g) rfl j _ (by simp [Lib.byteCells,hj]))
    go_wp2
    go_ret
    have hl:=HL.out
    subst hl
    exact ⟨rfl,hnx⟩
def tS (us:List (Nat×Int)):List UInt8:=(us.map fun u=>(Lib.decDigits u.1++[32])++(Lib.itoa u.2++[44])).flatten
theorem tS_take {us:List (Nat×Int)} {k:Nat} (h:k<us.length):tS (us.take (k+1))=tS (us.take k)++((Lib.decDigits (us.getD k (0,0)).1++[32])++(Lib.itoa (us.getD k (0,0)).2++[44])):=by
 unfold tS
 rw [← List.take_append_getElem h]
 simp only [List.map_append,List.flatten_append,List.map_cons,List.map_nil,List.flatten_cons,List.flatten_nil,List.append_nil]
 simp [List.getD,List.getElem?_eq_getElem h]
theorem dd20 {u:Nat} (hux:u<18446744073709551616):(Lib.decDigits u).length≤20:=by
 rw [Lib.decDigits_length]
 by_cases h0:1≤u
 ·have:=Lib.numDigits_eq u h0 hux
  split at this<;>omega
 ·rw [Lib.nDigits_small (by omega)]; omega
def okS (u:Nat×Int):Prop:=u.1<18446744073709551616∧ -9223372036854775808≤u.2∧u.2≤9223372036854775807
theorem tS_len:∀ {us:List (Nat×Int)},(∀ u∈us,okS u)→(tS us).length≤43*us.length
 | [],_=>Nat.le_refl _
 | u::us,h=>by
  have h1:=tS_len (us:=us) fun x hx=>h x (List.mem_cons_of_mem _ hx)
  have h2:=h u (List.mem_cons_self ..)
  have h3:=dd20 h2.1
  have h4:=Lib.itoa_length_le u.2 h2.2.1 h2.2.2
  have:(tS (u::us)).length=(Lib.decDigits u.1).length+1+((Lib.itoa u.2).length+1)+(tS us).length:=by
   show (((Lib.decDigits u.1++[32])++(Lib.itoa u.2++[44]))++tS us).length=_
   rw [List.length_append,List.length_append,List.length_append,List.length_append]; rfl
  rw [this]; simp; omega
set_option maxHeartbeats 6400000 in
theorem txB0 (w:World) (p:Option Addr) (cap:Nat):Calls Tryz.prog 109 #[.slice p 0 cap] w fun e w'=>e= .returned (.string ⟨#[]⟩)∧Below w.heap.size w w':=by
 have hcv:=fun w=>conv0 w none 0
 go_enter Tryz.func109,Tryz.ntmps109
 go_wp2
 refine wp_loop_rounds 1 ?_
 rw [rounds_succ]
 go_wp2
 go_ret
 exact ⟨rfl,Below.refl _ _⟩
set_option maxHeartbeats 6400000 in
theorem txB1 (w:World) (b off cap:Nat) (us:List (Nat×Int)) (h0:0<us.length) (hl:us.length<1000002) (hu:∀ u∈us,okS u)
  (hT:Lib.TabIs Tryz.prog w "internal/strconv.uint64pow10" .u64 Lib.pow10Tab) (hc:∀ j,j<us.length→w.cell? ⟨b,off+j*2,none⟩=some (.int .u64 ((us.getD j (0,0)).1:Nat))∧w.cell? ⟨b,off+j*2+1,none⟩=some (.int .i64 (us.getD j (0,0)).2)) :
  Calls Tryz.prog 109 #[.slice (some ⟨b,off,none⟩) us.length cap] w fun e w'=>e= .returned (.string ⟨(tS us).toArray⟩)∧Below w.heap.size w w':=by
 obtain ⟨i0,hi,hz0,hz1,hz2⟩:=info_parts infoB
 have hTB:=Lib.tabBelow_of_tabIs hT
 have hb:b<w.heap.size:=World.block_lt_of_cell? w _ (hc 0 h0).1
 go_enter Tryz.func109,Tryz.ntmps109
 go_wp2
 go_loopw [3,8] (fun v i wr=>∃ k:Nat,k≤us.length∧i= .int .i64 k∧wr.ownsRow w.heap.size 5 1 v (tS (us.take k)).length (Lib.byteCells (tS (us.take k)))∧Below w.heap.size w wr)
  (fun _ i _=>us.length - (RowKit.intOf i).toNat)
 case atStart=>exact ⟨0,Nat.zero_le _,rfl,World.ownsRow_nil _ _ _ _,Below.refl _ _⟩
 case round =>
  obtain ⟨k,hk,rfl,hown,hnx⟩:=hrel
  have hlen:(tS (us.take k)).length≤43*us.length:=Nat.le_trans (tS_len fun x hx=>hu x (List.mem_of_mem_take hx)) (by rw [List.length_take]; omega)
  have hTr:=hTB.on hnx
  by_cases hlt:k<us.length
  ·have hcx0:=(hnx.cell (by exact hb)).trans (hc k hlt).1
   have hcx1:=(hnx.cell (by exact hb)).trans (hc k hlt).2
   have hux:okS (us.getD k (0,0)):=by
    rw [show us.getD k (0,0)=us[k] by simp [List.getD,List.getElem?_eq_getElem hlt]]
    exact hu _ (List.getElem_mem hlt)
   have htk:=tS_take hlt
   generalize us.getD k (0,0)=u at hcx0 hcx1 hux htk
   obtain ⟨u,x⟩:=u
   obtain ⟨hu1,hx0,hx1⟩:=hux
   simp only at hu1 hx0 hx1 hcx0 hcx1 htk
   have hd20:=dd20 hu1
   have hd21:=Lib.itoa_length_le x hx0 hx1
   have hsz:=hnx.size
   clear hc
   have hx:(wr.alloc (.cells #[.int .u64 (u:Nat),.int .i64 x] 184)).heap[wr.heap.size]? =some (.cells #[.int .u64 (u:Nat),.int .i64 x] 184 (0,0)):=heap_alloc_new wr _
   have hnx0:Below w.heap.size w (wr.alloc (.cells #[.int .u64 (u:Nat),.int .i64 x] 184)):=hnx.alloc hsz _
   have hown0:=hown.alloc (.cells #[.int .u64 (u:Nat),.int .i64 x] 184)
   have hTr0:=hTB.on hnx0
   have hsz0:=hnx0.size
   have HX:Hid (wr.alloc (.cells #[.int .u64 (u:Nat),.int .i64 x] 184)=wr.alloc (.cells #[.int .u64 (u:Nat),.int .i64 x] 184)):=Lib.hid rfl
   go_wp2_with (first
    | (go_at_call 106; refine (appU w.heap.size _ u hu1 _ _ _ hown0 hsz0 (by omega) hTr0).mono ?_; rintro e w1 ⟨v1,rfl,hown1,hnx1,hok1⟩; refine Hid.out ?_)
    | fail)
   refine Lib.hid ?_
   go_wp2_with (at_builtin; refine wpList_append_own _ rfl _ _ 181 rfl w.heap.size 5 i0 (.int .u8 0) 1 1 Tryz.underlying181 hi hz0 hz1 hz2 rfl (by decide) _ _ _ rfl (hown1.alloc _) ⟨w1.heap.size,0,none⟩ 1 1 [Value.int .u8 32] rfl rfl (by intro j u' hj; match j,hj with | 0,hj=>simp at hj; subst hj; simp [Addr.add]) (by intro u' hu'; simp at hu'; subst hu'; rfl) (by unfold maxLen; omega) (by omega) (by have:=hnx1.size; simp at this ⊢; omega) ?_)
   intro v2 w2 hown2 hgrow _
   have hs1:=hnx1.size
   have hnx2:Below w.heap.size w w2:=((hnx0.trans hnx1).alloc (by omega) _).grown hgrow (by simp; omega) (fun k hk=>(hown1.lt k hk).1)
   have hok2:=(hok1.alloc _).grown hgrow (Lib.ownsRow_kind (hown1.alloc _))
   have hx2:w2.heap[wr.heap.size]? =_:=hok2 _ _ hx (by simp) (by intro c fz h; cases h)
   have hcy:w2.cell? ⟨wr.heap.size,1,none⟩=some (.int .i64 x):=by simp [World.cell?,hx2]
   have hTr2:=hTB.on hnx2
   have hsz2:=hnx2.size
   have eL:Lib.byteCells (tS (us.take k))++(Lib.byteCells (Lib.decDigits u)++[Value.int .u8 32])=Lib.byteCells (tS (us.take k)++(Lib.decDigits u++[32])):=by simp [Lib.byteCells]
   have eN:(tS (us.take k)).length+(Lib.decDigits u).length+1=(tS (us.take k)++(Lib.decDigits u++[32])).length:=by simp; omega
   rw [eL,eN] at hown2
   have hl2:(tS (us.take k)++(Lib.decDigits u++[32])).length≤43*us.length+21:=by simp; omega
   have htk2:tS (us.take (k+1))=(tS (us.take k)++(Lib.decDigits u++[32]))++(Lib.itoa x++[44]):=by rw [htk]; simp
   clear hown hown0 hown1 hnx hnx0 hnx1 hgrow eL eN htk hTr hTr0 hcx0 hcx1 hlen hd20 hok1 hok2 hx hx2 HX hs1
   generalize tS (us.take k)++(Lib.decDigits u++[32])=l2 at hown2 hl2 htk2
   have hlw:wr.heap.size<w2.heap.size:=World.block_lt_of_cell? w2 _ hcy
   go_wp2_with (first
    | (go_at_call 110; refine (appI w.heap.size _ x hx0 hx1 _ _ _ hown2 hsz2 (by omega) hTr2).mono ?_; rintro e w3 ⟨v3,rfl,hown3,hnx3,-⟩; refine Hid.out ?_)
    | fail)
   refine Lib.hid ?_
   have hs3:=hnx3.size
   go_wp2_with (at_builtin; refine wpList_append_own _ rfl _ _ 181 rfl w.heap.size 5 i0 (.int .u8 0) 1 1 Tryz.underlying181 hi hz0 hz1 hz2 rfl (by decide) _ _ _ rfl (hown3.alloc _) ⟨w3.heap.size,0,none⟩ 1 1 [Value.int .u8 44] rfl rfl (by intro j u' hj; match j,hj with | 0,hj=>simp at hj; subst hj; simp [Addr.add]) (by intro u' hu'; simp at hu'; subst hu'; rfl) (by unfold maxLen; omega) (by omega) (by simp; omega) ?_)
   intro v4 w4 hown4 hgrow4 _
   have hnx4:Below w.heap.size w w4:=((hnx2.trans hnx3).alloc (by omega) _).grown hgrow4 (by simp; omega) (fun k hk=>(hown3.lt k hk).1)
   have eL:Lib.byteCells l2++(Lib.byteCells (Lib.itoa x)++[Value.int .u8 44])=Lib.byteCells (tS (us.take (k+1))):=by rw [htk2]; simp [Lib.byteCells]
   have eN:l2.length+(Lib.itoa x).length+1=(tS (us.take (k+1))).length:=by rw [htk2]; simp; omega
   rw [eL,eN] at hown4
   have R:w4.ownsRow w.heap.size 5 1 v4 (tS (us.take (k+1))).length (Lib.byteCells (tS (us.take (k+1))))∧Below w.heap.size w w4:=⟨hown4,hnx4⟩
   have hk1:k+1≤us.length:=hlt
   clear hown2 hown3 hown4 hnx2 hnx3 hnx4 hgrow4 eL eN htk2 hTr2 hcy hl2 hd21 hlw
   go_wp2
   go_roundw
   case rel=>exact ⟨k+1,hk1,by simp,R.1,R.2⟩
   case measure=>simp [RowKit.intOf]; omega
  ·have hkl:k=us.length:=by omega
   subst hkl
   rw [List.take_length] at hown
   have hpos:0<(tS us).length:=by
    cases us with
    | nil=>simp at h0
    | cons u us=>show 0<(((Lib.decDigits u.1++[32])++(Lib.itoa u.2++[44]))++tS us).length; simp; omega
   obtain ⟨l,hl'⟩:∃ l,l=tS us:=⟨_,rfl⟩
   rw [← hl'] at hown hpos
   have HL:=Lib.hid hl'
   clear hl' hlen
   rcases hown.2 with ⟨-,h0'⟩ | ⟨g,cap',cur,rfl,-,-,-,-,-,-⟩
   ·omega
   ·have hcv:=run_convert_bytes_back (P:=Tryz.prog) wr 181 9 5 ⟨g,0,none⟩ cap' l Tryz.underlying181 Tryz.underlying5 Tryz.underlying9 (fun j hj=>hown.cells (g:=g) rfl j _ (by simp [Lib.byteCells,hj]))
    go_wp2
    go_ret
    have hl:=HL.out
    subst hl
    exact ⟨rfl,hnx⟩
open Go Go.Proofs.YtlaojmcekeohnaaGreatDoor.Gh Go.Proofs
theorem bits_and (n:Nat) (hn:n≤18446744073709551615) (h0:n≠0):bits BinOp.and IntKind.u64 (n:Int) (IntKind.u64.wrap (-(n:Int)))=((Nat.land n (18446744073709551616 - n):Nat):Int):=by
 have hw:IntKind.u64.wrap (-(n:Int))=((18446744073709551616 - n:Nat):Int):=by
  simp only [IntKind.wrap,IntKind.bits,IntKind.signed,Bool.false_and]
  simp
  omega
 rw [hw]
 show IntKind.u64.wrap (((BitVec.ofInt 64 (n:Int) &&& BitVec.ofInt 64 ((18446744073709551616 - n:Nat):Int)).toNat:Nat):Int)=_
 rw [BitVec.ofInt_natCast,BitVec.ofInt_natCast,BitVec.toNat_and,BitVec.toNat_ofNat,BitVec.toNat_ofNat,Nat.mod_eq_of_lt (by omega:n<2 ^ 64),Nat.mod_eq_of_lt (by omega:18446744073709551616 - n<2 ^ 64)]
 have:(n &&& (18446744073709551616 - n))≤n:=Nat.and_le_left
 show IntKind.u64.wrap ((n &&& (18446744073709551616 - n):Nat):Int)=((n &&& (18446744073709551616 - n):Nat):Int)
 simp only [IntKind.wrap,IntKind.bits,IntKind.signed,Bool.false_and]
 simp
 omega
def idxN (n:Nat):Nat:=((Nat.land n (18446744073709551616 - n))*285870213051353865) % 18446744073709551616 / 288230376151711744
theorem idx_eq (n:Nat) (hn:n≤18446744073709551615) (h0:n≠0):IntKind.u64.wrap (bits BinOp.and IntKind.u64 (n:Int) (IntKind.u64.wrap (-(n:Int)))*285870213051353865) / 288230376151711744=(idxN n:Int):=by
 rw [bits_and n hn h0]
 unfold idxN
 generalize Nat.land n (18446744073709551616 - n)=m
 simp only [IntKind.wrap,IntKind.bits,IntKind.signed,Bool.false_and]
 simp
theorem tab_at {i:Nat} (h:i<64):tabV[i]? =some (.int .u8 (Int.ofNat (nth 0 tabN i))):=by
 have:∀ i:Fin 64,tabN[i.val]? =some (nth 0 tabN i.val):=by decide
 unfold tabV
 rw [List.getElem?_map,this ⟨i,h⟩]
 rfl
theorem tz1 (n:Nat) (hn:n≤18446744073709551615) (h0:n≠0) (w:World) (hT0:TabAt w):Calls Tryz.prog 237 #[.int .u64 (Int.ofNat n)] w fun e w'=>e= .returned (.int .i64 (ctzN n))∧w' =w:=by
 have h1:((Int.ofNat n:Int)==0)=false:=by simp; omega
 have hi:idxN n<64:=by unfold idxN; omega
 have hb:0≤IntKind.u64.wrap (bits BinOp.and IntKind.u64 (n:Int) (IntKind.u64.wrap (-(n:Int)))*285870213051353865) / 288230376151711744∧IntKind.u64.wrap (bits BinOp.and IntKind.u64 (n:Int) (IntKind.u64.wrap (-(n:Int)))*285870213051353865) / 288230376151711744<64:=by
  rw [idx_eq n hn h0]; omega
 have hT:∀ (i:Nat) (v:Value),tabV[i]? =some v→w.cell? ⟨1,i,none⟩=some v:=fun i v hv=>by
  obtain ⟨⟨e,f,hh⟩,_⟩:=hT0
  have hh:w.heap[1]? =some (.cells tabV.toArray e f):=hh
  simp only [World.cell?,hh]
  simpa using hv
 have hc:w.cell? ⟨1,(IntKind.u64.wrap (bits BinOp.and IntKind.u64 (n:Int) (IntKind.u64.wrap (-(n:Int)))*285870213051353865) / 288230376151711744).toNat,none⟩=some (.int .u8 (Int.ofNat (nth 0 tabN (idxN n)))):=by
  rw [idx_eq n hn h0,Int.toNat_natCast]
  exact hT _ _ (tab_at hi)
 have hk:∀ i:Fin 64,nth 0 tabN i.val<64:=by decide
 have hk':=hk ⟨idxN n,hi⟩
 simp only at hk'
 have hz:ctzN n=Int.ofNat (nth 0 tabN (idxN n)):=by
  unfold ctzN
  have:Nat.beq n 0=false:=by cases n with | zero=>exact absurd rfl h0 | succ k=>rfl
  rw [this]
  rfl
 generalize hg:nth 0 tabN (idxN n)=k at hc hk' hz
 have hwr:IntKind.i64.wrap (Int.ofNat k)=Int.ofNat k:=by
  simp only [IntKind.wrap,IntKind.bits,IntKind.signed,Bool.true_and]
  simp
  omega
 go_enter Tryz.func237,Tryz.ntmps237
 go_wp2
 go_ret
 exact ⟨by rw [hz]; rfl,rfl⟩
theorem tz0 (w:World):Calls Tryz.prog 237 #[.int .u64 (Int.ofNat 0)] w fun e w'=>e= .returned (.int .i64 64)∧w' =w:=by
 go_enter Tryz.func237,Tryz.ntmps237
 go_wp2
 go_ret
 exact ⟨rfl,rfl⟩
theorem purOk1:PurOk1 Tryz.prog:=fun fn hf=>by
 obtain rfl:Tryz.f237=fn:=Option.some.inj (Tryz.func237.symm.trans hf)
 refine ⟨by kernel_rfl,by kernel_rfl,fun w n hn hT=>?_⟩
 by_cases h0:n=0
 ·subst h0
  exact (tz0 w).mono fun e w' ⟨he,hw⟩=>⟨he,by rw [hw]; exact Go.RowKit.Below.refl _ _⟩
 ·exact (tz1 n hn h0 w hT).mono fun e w' ⟨he,hw⟩=>⟨he,by rw [hw]; exact Go.RowKit.Below.refl _ _⟩
theorem dgs_eq:∀ (k n:Nat),n<10 ^ (k+1)→dgs (k+1) n=Lib.decDigits n
 | 0,n,h=>by rw [dgs_succ,if_pos (by omega),Lib.decDigits,dif_pos (by omega)]
 | k+1,n,h=>by
  rw [dgs_succ,Lib.decDigits]
  by_cases h1:n<10
  ·rw [if_pos h1,dif_pos h1]
  ·rw [if_neg h1,dif_neg h1,dgs_eq k (n / 10) (by rw [Nat.pow_succ] at h; omega)]
theorem dgI_itoa (x:Int) (h0:-9223372036854775808≤x) (h1:x≤9223372036854775807):dgI x=Lib.itoa x:=by
 cases x with
 | ofNat n =>
  show dgs 20 n=Lib.itoa (n:Int)
  rw [Lib.itoa_nonneg,dgs_eq 19 n (by have:(n:Int)≤9223372036854775807:=h1; omega)]
 | negSucc n =>
  show 45::dgs 20 (n+1)=_
  rw [dgs_eq 19 (n+1) (by omega),show (Int.negSucc n)= -((n+1:Nat):Int) from rfl,Lib.itoa_neg _ (by omega)]
theorem txt1_u {s:UInt8} {v:Value} {a:List UInt8} (h:txt1 (.u64,s) v=some a):∃ u:Nat,v= .int .u64 u∧u<18446744073709551616∧a=Lib.decDigits u++[s]:=by
 unfold txt1 at h
 split at h
 ·rename_i k x
  split at h
  ·rename_i hc
   simp only [Bool.and_eq_true,decide_eq_true_eq] at hc
   obtain ⟨rfl,hr⟩:=hc
   simp only [inR,Bool.and_eq_true,decide_eq_true_eq] at hr
   cases x with
   | negSucc n=>exact absurd hr.1 (by omega)
   | ofNat n =>
    have hn:n<18446744073709551616:=by have h2:(n:Int)<18446744073709551616:=hr.2; omega
    cases h
    exact ⟨n,rfl,hn,by rw [show dgI (Int.ofNat n)=dgs 20 n from rfl,dgs_eq 19 n (by omega)]⟩
  ·cases h
 ·cases h
theorem txt1_i {s:UInt8} {v:Value} {a:List UInt8} (h:txt1 (.i64,s) v=some a):∃ x:Int,v= .int .i64 x∧(-9223372036854775808≤x∧x≤9223372036854775807)∧a=Lib.itoa x++[s]:=by
 unfold txt1 at h
 split at h
 ·rename_i k x
  split at h
  ·rename_i hc
   simp only [Bool.and_eq_true,decide_eq_true_eq] at hc
   obtain ⟨rfl,hr⟩:=hc
   simp only [inR,Bool.and_eq_true,decide_eq_true_eq] at hr
   cases h
   exact ⟨x,rfl,⟨hr.1,by omega⟩,by rw [dgI_itoa x hr.1 (by omega)]⟩
  ·cases h
 ·cases h
theorem txtL_A:∀ {cs:List Value} {s:List UInt8},txtL cs (.u64,44) (.u64,44)=some s→∃ us:List Nat,cs=us.map (fun (u:Nat)=>Value.int .u64 u)∧(∀ u∈us,u<18446744073709551616)∧s=tU us
 | [],s,h=>by cases h; exact ⟨[],rfl,fun _ h=>(by cases h),rfl⟩
 | v::cs,s,h=>by
  rw [txtL_cons] at h
  split at h
  ·rename_i a b h1 h2
   cases h
   obtain ⟨u,rfl,hu,rfl⟩:=txt1_u h1
   obtain ⟨us,rfl,hus,rfl⟩:=txtL_A h2
   exact ⟨u::us,rfl,fun x hx=>(List.mem_cons.1 hx).elim (fun e=>e▸hu) (hus x),rfl⟩
  ·cases h
theorem txtL_C:∀ {cs:List Value} {s:List UInt8},txtL cs (.i64,44) (.i64,44)=some s→∃ us:List Int,cs=us.map (fun u=>Value.int .i64 u)∧(∀ u∈us,-9223372036854775808≤u∧u≤9223372036854775807)∧s=tI us
 | [],s,h=>by cases h; exact ⟨[],rfl,fun _ h=>(by cases h),rfl⟩
 | v::cs,s,h=>by
  rw [txtL_cons] at h
  split at h
  ·rename_i a b h1 h2
   cases h
   obtain ⟨u,rfl,hu,rfl⟩:=txt1_i h1
   obtain ⟨us,rfl,hus,rfl⟩:=txtL_C h2
   exact ⟨u::us,rfl,fun x hx=>(List.mem_cons.1 hx).elim (fun e=>e▸hu) (hus x),rfl⟩
  ·cases h
theorem txtL_B:∀ (n:Nat) {cs:List Value} {s:List UInt8},cs.length=n*2→txtL cs (.u64,32) (.i64,44)=some s→∃ us:List (Nat×Int),us.length=n∧cs=(us.map (fun (u:Nat×Int)=>[Value.int .u64 u.1,Value.int .i64 u.2])).flatten∧(∀ u∈us,okS u)∧s=tS us
 | 0,[],s,_,h=>by cases h; exact ⟨[],rfl,rfl,fun _ h=>(by cases h),rfl⟩
 | 0,_::_,s,hl,_=>by simp at hl
 | n+1,[],s,hl,_=>by simp at hl
 | n+1,[_],s,hl,_=>by simp at hl; omega
 | n+1,v::v' ::cs,s,hl,h=>by
  rw [txtL_cons,txtL_cons] at h
  split at h
  ·rename_i a b h1 h2
   split at h2
   ·rename_i a' b' h3 h4
    cases h; cases h2
    obtain ⟨u,rfl,hu,rfl⟩:=txt1_u h1
    obtain ⟨x,rfl,hx,rfl⟩:=txt1_i h3
    obtain ⟨us,hl',rfl,hus,rfl⟩:=txtL_B n (by simp at hl; omega) h4
    refine ⟨(u,x)::us,by simp [hl'],rfl,fun y hy=>(List.mem_cons.1 hy).elim (fun e=>e▸⟨hu,hx⟩) (hus y),?_⟩
    show _=((Lib.decDigits u++[32])++(Lib.itoa x++[44]))++tS us
    simp
   ·cases h2
  ·cases h
theorem tab_pow {w:World} (h:TabAt w):Lib.TabIs Tryz.prog w "internal/strconv.uint64pow10" .u64 Lib.pow10Tab:=by
 obtain ⟨_,e,f,hh⟩:=h
 have hh:w.heap[0]? =some (.cells powV.toArray e f):=hh
 have hg:Tryz.prog.globalNamed "internal/strconv.uint64pow10" = some 0:=by kernel_rfl
 unfold Lib.TabIs World.var?
 rw [hg]
 simp only [Option.bind_some,hh]
 rfl
theorem okA:TxtOk Tryz.prog txtA kA:=fun fn hf=>by
 obtain rfl:Tryz.f105=fn:=Option.some.inj (Tryz.func105.symm.trans hf)
 refine ⟨by kernel_rfl,by kernel_rfl,fun w p cap=>txA0 w p cap,fun w blk off cap n cs s hT hn hl hc hs=>?_⟩
 obtain ⟨us,rfl,hu,rfl⟩:=txtL_A hs
 have hlu:us.length=n+1:=by simpa [kA] using hl
 have:=txA1 w blk off cap us (by omega) (by omega) hu (tab_pow hT) fun j hj=>hc j _ (by simp [List.getD,List.getElem?_eq_getElem hj])
 rw [hlu] at this
 exact this
theorem okC:TxtOk Tryz.prog txtC kC:=fun fn hf=>by
 obtain rfl:Tryz.f115=fn:=Option.some.inj (Tryz.func115.symm.trans hf)
 refine ⟨by kernel_rfl,by kernel_rfl,fun w p cap=>txC0 w p cap,fun w blk off cap n cs s hT hn hl hc hs=>?_⟩
 obtain ⟨us,rfl,hu,rfl⟩:=txtL_C hs
 have hlu:us.length=n+1:=by simpa [kC] using hl
 have:=txC1 w blk off cap us (by omega) (by omega) hu (tab_pow hT) fun j hj=>hc j _ (by simp [List.getD,List.getElem?_eq_getElem hj])
 rw [hlu] at this
 exact this
theorem flat2:∀ (us:List (Nat×Int)) (j:Nat),j<us.length→((us.map (fun (u:Nat×Int)=>[Value.int .u64 u.1,Value.int .i64 u.2])).flatten)[j*2]? =some (.int .u64 ((us.getD j (0,0)).1:Nat))∧((us.map (fun (u:Nat×Int)=>[Value.int .u64 u.1,Value.int .i64 u.2])).flatten)[j*2+1]? =some (.int .i64 (us.getD j (0,0)).2)
 | u::us,0,_=>⟨rfl,rfl⟩
 | u::us,j+1,h=>by
  have:=flat2 us j (by simpa using h)
  simp only [List.map_cons,List.flatten_cons,List.cons_append,List.nil_append,show (j+1)*2=j*2+1+1 by omega,List.getElem?_cons_succ,List.getD_cons_succ]
  exact this
theorem okB:TxtOk Tryz.prog txtB kB:=fun fn hf=>by
 obtain rfl:Tryz.f109=fn:=Option.some.inj (Tryz.func109.symm.trans hf)
 refine ⟨by kernel_rfl,by kernel_rfl,fun w p cap=>txB0 w p cap,fun w blk off cap n cs s hT hn hl hc hs=>?_⟩
 obtain ⟨us,hlu,rfl,hu,rfl⟩:=txtL_B (n+1) hl hs
 have:=txB1 w blk off cap us (by omega) (by omega) hu (tab_pow hT) fun j hj=>⟨hc _ _ (flat2 us j hj).1,by have:=hc _ _ (flat2 us j hj).2; rw [← Nat.add_assoc] at this; exact this⟩
 rw [hlu] at this
 exact this
theorem purOk:PurOk Tryz.prog:=⟨purOk1,sortOk_none (by kernel_rfl),okA,okB,okC⟩
def laid3:List (String×DataW Unit):=[("math/bits.deBruijn32tab",Lib.tabData .u8 [0,1,28,2,29,14,24,3,30,22,20,15,25,17,4,8,31,27,13,23,21,19,16,7,26,12,18,6,11,5,10,9]),("math/bits.deBruijn64tab",Lib.tabData .u8 (tabN.map Int.ofNat)),("internal/strconv.uint64pow10",Lib.tabData .u64 (powN.map Int.ofNat))]
theorem heap_of {w:World} {nm:String} {k:IntKind} {zs:List Int} {g:Nat} (hg:Tryz.prog.globalNamed nm=some g) (h:Lib.TabIs Tryz.prog w nm k zs):∃ e f,w.heap[g]? =some (.cells (zs.map fun z=>Value.int k z).toArray e f):=by
 unfold Lib.TabIs World.var? at h
 rw [hg] at h
 simp only [Option.bind_some] at h
 split at h
 ·rename_i cs e f hh
  cases h
  exact ⟨e,f,hh⟩
 ·cases h
theorem of_laid {W:World} (h:laidMetH Tryz.prog laid3 W):TabAt W:=by
 rw [MakeChecks.laidMetH_plain _ _ _ (by kernel_rfl)] at h
 have h1:=h.tail
 have t1:=Lib.tabIs_of_head (P:=Tryz.prog) (g:=1) (t:=354) (e:=5) (n:=64) (by kernel_rfl) (by kernel_rfl) Tryz.underlying354 Tryz.underlying5 (by kernel_rfl) (by kernel_rfl) h1
 have t2:=Lib.tabIs_of_head (P:=Tryz.prog) (g:=0) (t:=351) (e:=22) (n:=20) (by kernel_rfl) (by kernel_rfl) Tryz.underlying351 Tryz.underlying22 (by kernel_rfl) (by kernel_rfl) h1.tail
 obtain ⟨e,f,k1⟩:=heap_of (g:=1) (by kernel_rfl) t1
 obtain ⟨e',f',k2⟩:=heap_of (g:=0) (by kernel_rfl) t2
 exact ⟨⟨e,f,k1⟩,e',f',k2⟩
theorem door_met (os:Os) (args:Array Value):laidMetH Tryz.prog laid3 ((World.doorLaid Tryz.prog 400 os).forCall (fun _ _=>0) ⟨#[],args,[]⟩).memory :=
 laidMetH_of_parts3 (fuel:=8) (laidMet_of_run' 8 (by kernel_rfl) (by kernel_rfl)) (by kernel_rfl) (by kernel_rfl)
theorem okNone:OrcOk Q (among []):=among_ok _ (fun f hf=>by simp at hf) purOk
theorem trueKn:isTrue ((kE (among []) 60).ev.cl 3 [] GS.tab)=true:=by kernel_rfl
theorem tab_kE {n f:Nat} (h:isTrue ((kE (among []) n).ev.cl f [] GS.tab)=true) {w:World} (hT:TabAt w):Calls Q f #[] w fun e w'=>e= .returned (.bool true)∧Go.RowKit.Below w.heap.size w w' :=
 let ⟨_,hG⟩:=isTrue_of ((kE_ok (among []) n).ev.cl f [] GS.tab) h
 law_tab (by kernel_rfl) okNone hG hT fun _=>trivial
theorem okKn:OrcOk Q (among [3]):=among_ok _ (hp:=purOk) fun f hf=>by
 simp only [List.mem_cons,List.not_mem_nil,or_false] at hf
 subst hf
 exact ⟨⟨_,Tryz.func3,by kernel_rfl,by kernel_rfl⟩,fun w hw=>tab_kE trueKn (hw (by kernel_rfl))⟩
theorem tab_two:2≤GS.tab.nx:=by decide
theorem row_spk {r:List Value} (h:Row [some .i64,some .i64,some .i64,some .i64,some .i64,some .i64,some .u64,some .i64,some .i64,some .u64] r):∃ c:Sp,okOp c.op∧r=rSp.row c:=by
 obtain ⟨hl,hr⟩:=lrel_iff.1 h
 have at_:∀ (i:Nat) (k:IntKind),[some IntKind.i64,some .i64,some .i64,some .i64,some .i64,some .i64,some .u64,some .i64,some .i64,some .u64][i]? =some (some k)→∃ n,r[i]? =some (.int k n)∧(Lit.int k n).wf=true:=fun i k hk=>by
  obtain ⟨y,hy,n,rfl,hw⟩:=hr i (some k) hk
  exact ⟨n,hy,hw⟩
 obtain ⟨a0,e0,_⟩:=at_ 0 .i64 rfl
 obtain ⟨a1,e1,_⟩:=at_ 1 .i64 rfl
 obtain ⟨a2,e2,_⟩:=at_ 2 .i64 rfl
 obtain ⟨a3,e3,_⟩:=at_ 3 .i64 rfl
 obtain ⟨a4,e4,w4⟩:=at_ 4 .i64 rfl
 obtain ⟨a5,e5,_⟩:=at_ 5 .i64 rfl
 obtain ⟨a6,e6,w6⟩:=at_ 6 .u64 rfl
 obtain ⟨a7,e7,_⟩:=at_ 7 .i64 rfl
 obtain ⟨a8,e8,_⟩:=at_ 8 .i64 rfl
 obtain ⟨a9,e9,_⟩:=at_ 9 .u64 rfl
 have m1:IntKind.min .i64= -9223372036854775808:=by decide
 have m2:IntKind.max .i64=9223372036854775807:=by decide
 have m3:IntKind.min .u64=0:=by decide
 have m4:IntKind.max .u64=18446744073709551615:=by decide
 unfold Lit.wf at w4 w6
 simp only [Bool.and_eq_true,decide_eq_true_eq] at w4 w6
 refine ⟨⟨a0,a1,a2,(a3,a4,a5,a6),(a7,a8,a9)⟩,⟨⟨?_,?_⟩,?_,?_⟩,?_⟩
 ·simp only; omega
 ·simp only; omega
 ·simp only; omega
 ·simp only; omega
 ·apply List.ext_getElem?
  intro i
  rw [rSp_row]
  match i with
  | 0=>exact e0
  | 1=>exact e1
  | 2=>exact e2
  | 3=>exact e3
  | 4=>exact e4
  | 5=>exact e5
  | 6=>exact e6
  | 7=>exact e7
  | 8=>exact e8
  | 9=>exact e9
  | i+10=>rw [List.getElem?_eq_none (by rw [← hl]; simp)]; rfl
theorem list_pick2 {α β:Type} {f:β→α} {p:β→Prop}:∀ {l:List α},(∀ x∈l,∃ y,p y∧x=f y)→∃ m:List β,(∀ y∈m,p y)∧l=m.map f
 | [],_=>⟨[],fun _ h=>(by cases h),rfl⟩
 | x::l,h=>by
  obtain ⟨y,hp,hy⟩:=h x (by simp)
  obtain ⟨m,hm,he⟩:=list_pick2 (l:=l) fun z hz=>h z (by simp [hz])
  exact ⟨y::m,fun z hz=>(List.mem_cons.1 hz).elim (fun e=>e▸hp) (hm z),by simp [hy,← he]⟩
end Go.Proofs.YtlaojmcekeohnaaGreatDoor.Lift
