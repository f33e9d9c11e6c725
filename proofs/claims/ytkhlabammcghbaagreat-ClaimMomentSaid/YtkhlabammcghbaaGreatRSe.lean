import Derived.Test.YtkhlabammcghbaaGreatRSb
import Derived.Test.YtkhlabammcghbaaGreatRSc
import Derived.Test.YtkhlabammcghbaaGreatRSd
namespace Go.Proofs.YtkhlabammcghbaaGreat.Lift
open Go Go.Proofs.YtkhlabammcghbaaGreat.Gh Go.Proofs
set_option linter.unusedVariables false
set_option linter.unusedSimpArgs false
set_option maxRecDepth 100000
attribute [simp] Y1 Y8 Za Zl Zu Zv Zw Zx Zy Zz ZA ZB ZC ZD ZE ZF ZG ZH ZI ZJ ZK ZL ZM ZN ZO ZP
variable {ae:FuncId→Bool} {e:Ex}
noncomputable section
def s3 (q:Bool) (e:Ex) (v0 v1 v2 v3:Value) (G:GS):OG :=
 bS (e.ev.cl 5 [] G) fun x0 G1 =>
 bP (ln Q q 22 v3) fun x2 =>
 bP (bn Q q .gtr 3 (.tmp 13) (.const (.int .i64 400)) x2 (.int .i64 400)) fun x3 =>
 bl x3 (
 some (x0,G1)) (
 bS (e.ev.cl 7 [v0,(.int .i64 6)] G1) fun x4 G5 =>
 bP (bn Q q .add 3 (.const (.int .i64 1)) (.tmp 17) (.int .i64 1) x4) fun x6 =>
 bS (e.ev.cl 7 [v1,(.int .i64 4)] G5) fun x7 G8 =>
 bP (bn Q q .add 3 (.const (.int .i64 1)) (.tmp 20) (.int .i64 1) x7) fun x9 =>
 bS (e.ev.cl 6 [x6,x9,v2] G8) fun x10 G11 =>
 bS (gV x0 true x10 G11) fun x12 G13 =>
 bS (gP x0 true (ep Q q true 24 (.tmp 26) (.const (.pointer none)) x12 (.pointer none)) G13) fun x14 G15 =>
 bP (iL x0 x14 (.bool false)) fun x16 =>
 bS (gV x16 true x10 G15) fun x17 G18 =>
 bS (gV x16 true v3 G18) fun x19 G20 =>
 bS (gS x16 true (e.ev.cl 8 [x17,x19] G20) G20) fun x21 G22 =>
 bP (iL x16 x21 (.bool false)) fun x23 =>
 some (x23,G22))
theorem f3 (h:bm Q e (E ae)) (v0 v1 v2 v3:Value) (G:GS):Ref (s3 true e v0 v1 v2 v3 G) ((E ae).cl 3 [v0,v1,v2,v3] G):=cS (S:=fun q e=>s3 q e v0 v1 v2 v3 G) Tryz.func3 (by unfold s3; exact Ref.gq)
def EO (q:Bool) (e:Ex) (lp:bF) (τ:Env) (G:GS):OL :=
 bV q (τ 0) fun ax =>
 bV q (τ 1) fun bq =>
 bV q (τ 7) fun Cb =>
 bV q (τ 11) fun lE =>
 bV q (τ 12) fun g7 =>
 bV q (τ 13) fun zw =>
 bP (aR lE) fun x1 =>
 bP (fa Q q 49 2 14 x1) fun x2 =>
 bP (ld Q q 41 x2 G) fun x3 =>
 bP (bn Q q .rem 3 (.tmp 62) (.const (.int .i64 50)) zw (.int .i64 50)) fun x4 =>
 bP (bn Q q .mul 3 (.tmp 63) (.tmp 64) x4 ax) fun x5 =>
 bP (bn Q q .add 3 (.const (.int .i64 1)) (.tmp 65) (.int .i64 1) x5) fun x6 =>
 bP (bn Q q .add 3 (.tmp 66) (.tmp 67) x6 g7) fun x7 =>
 bP (cv Q q 3 51 .i64 .u64 x7) fun x8 =>
 bS (bs Q q 41 1 (rep z51 1) 1 [(0,0,1)] [x8] G) fun x9 G10 =>
 bS (ap Q q 41 41 1 8 x3 x9 G10) fun x11 G12 =>
 bP (aR lE) fun x13 =>
 bP (fa Q q 49 2 14 x13) fun x14 =>
 bP (st Q q 41 1 x14 x11 G12) fun G15 =>
 bP (aR lE) fun x16 =>
 bP (fa Q q 49 3 15 x16) fun x17 =>
 bP (ld Q q 22 x17 (G15.room 15)) fun x18 =>
 bP (bn Q q .quo 3 (.tmp 79) (.const (.int .i64 50)) zw (.int .i64 50)) fun x19 =>
 bS (e.ev.cl 7 [x19,bq] (G15.room 15)) fun x21 G20 =>
 eV ((bp (ld Q q 22 x17 G20) x18&&true)) <|
 bP (bn Q q .add 3 (.const (.int .i64 1)) (.tmp 82) (.int .i64 1) x21) fun x22 =>
 bS (bs Q q 22 1 (rep z3 1) 1 [(0,0,1)] [x22] (G20.aS (G15.nx+10))) fun x23 G24 =>
 bS (ap Q q 22 22 1 8 x18 x23 (G24.back G20)) fun x26 G25 =>
 bP (aR lE) fun x27 =>
 bP (fa Q q 49 3 15 x27) fun x28 =>
 bP (st Q q 22 1 x28 x26 G25) fun G29 =>
 bP (de Q q 39 13 Cb (G29.room 22)) fun x30 =>
 bP (bn Q q .add 3 (.tmp 89) (.const (.int .i64 1)) g7 (.int .i64 1)) fun x31 =>
 bP (cv Q q 3 51 .i64 .u64 x31) fun x32 =>
 bP (bn Q q .or 51 (.tmp 91) (.const (.int .u64 65536)) x32 (.int .u64 65536)) fun x33 =>
 bP (aR lE) fun x34 =>
 bP (fa Q q 49 2 14 x34) fun x35 =>
 bP (ld Q q 41 x35 (G29.room 22)) fun x36 =>
 bP (fW Q q 41 1 x36 g7) fun x37 =>
 bP (ld Q q 51 x37 (G29.room 22)) fun x38 =>
 bP (aR lE) fun x39 =>
 bP (fa Q q 49 3 15 x39) fun x40 =>
 bP (ld Q q 22 x40 (G29.room 22)) fun x41 =>
 bP (fW Q q 22 1 x41 g7) fun x42 =>
 bP (ld Q q 3 x42 (G29.room 22)) fun x43 =>
 bS (e.ev.cl 30 [x30,x33,x38,g7,x43] (G29.room 22)) fun x45 G44 =>
 ml q e 6 1 (aU [1,1,1,1,1,1,0,1,0,0,1,0,0,1,1,1,1,1,0,1,0,0] (aL Tryz.f6)) 120 τ [(15,(.int .i64 0)),(14,x45),(108,x45),(107,x43),(106,x42),(105,g7),(104,x41),(103,x40),(102,x39),(101,lE),(100,g7),(99,x38),(98,x37),(97,g7),(96,x36),(95,x35),(94,x34),(93,lE),(92,x33),(91,x32),(90,x31),(89,g7),(88,x30),(87,x28),(86,x27),(85,x26),(84,x23),(83,x22),(82,x21),(81,bq),(80,x19),(79,zw),(78,x18),(77,x17),(76,x16),(75,lE),(74,lE),(73,x14),(72,x13),(71,x11),(70,x9),(69,x8),(68,x7),(67,g7),(66,x6),(65,x5),(64,ax),(63,x4),(62,zw),(61,x3),(60,x2),(59,x1),(58,lE),(57,lE)] [] G44 fun e46 t47 G48 =>
 bV q (t47 0) fun Ro =>
 bV q (t47 1) fun Rp =>
 bV q (t47 2) fun Rq =>
 bV q (t47 7) fun Rr =>
 bV q (t47 11) fun Rs =>
 bV q (t47 12) fun JM =>
 bV q (t47 13) fun Rt =>
 bV q (t47 14) fun JN =>
 dP e46 (.exit 2) (
 bS (e.ev.cl 32 [JN] G48) fun x49 G50 =>
 bP (bn Q q .neq 61 (.tmp 117) (.const (.int .i64 0)) x49 (.int .i64 0)) fun x51 =>
 bl x51 (
 some (.ret,xq q 120 t47 [(6,(.pointer none)),(118,x51),(117,x49),(116,JN)] [(0,Ro),(1,Rp),(2,Rq),(7,Rr),(11,Rs),(12,JM),(13,Rt)],G50)) (
 bP (bn Q q .add 3 (.tmp 46) (.const (.int .i64 1)) JM (.int .i64 1)) fun x52 =>
 lp (xq q 120 t47 [(12,x52),(47,x52),(46,JM),(118,x51),(117,x49),(116,JN)] [(0,Ro),(1,Rp),(2,Rq),(7,Rr),(11,Rs),(13,Rt)]) G50)) (none)
def oC (q:Bool) (e:Ex) (lp:bF) (τ:Env) (G:GS):OL:=EO q e lp τ G
theorem ZX {e:Ex} {E:Ev} (h:bm Q e E) {lp bO:bF} (bw:g0 lp bO) (τ:Env) (G:GS):Ref (oC true e lp τ G) (oC false (Ex.of E) bO τ G):=by
 unfold oC EO
 exact Ref.gq
theorem ZY {e:Ex} {E:Ev} (h:bm Q e E) {lp bO:bF} (bw:g0 lp bO) {τ:Env} {l U:List (Nat×Value)} {G:GS} (hU:eO τ U):Ref (oC true e lp (xq true 120 τ l U) G) (oC false (Ex.of E) bO (xq false 120 τ l U) G):=by
 rw [se hU]
 exact ZX h bw _ _
def zx (q:Bool) (e:Ex) (lp:bF) (J0:bF) (τ:Env) (G:GS):OL :=
 bV q (τ 0) fun ax =>
 bV q (τ 1) fun bq =>
 bV q (τ 2) fun ic =>
 bV q (τ 7) fun Cb =>
 bV q (τ 11) fun lE =>
 bV q (τ 12) fun g7 =>
 bV q (τ 13) fun zw =>
 bP (bn Q q .lss 3 (.tmp 43) (.tmp 44) g7 ax) fun x0 =>
 bl x0 (
 bP (ln Q q 22 ic) fun x53 =>
 bP (bn Q q .lss 3 (.tmp 48) (.tmp 50) g7 x53) fun x54 =>
 bl x54 (
 bP (fW Q q 22 1 ic g7) fun x55 =>
 bP (ld Q q 3 x55 G) fun x56 =>
 bS (e.ev.cl 7 [x56,(.int .i64 1000)] G) fun x57 G58 =>
 J0 (xq q 120 τ [(13,x57),(56,x57),(55,x56),(54,x55),(53,g7),(52,ic),(51,x54),(50,x53),(49,ic),(48,g7),(13,(.int .i64 0)),(45,x0),(44,ax),(43,g7)] [(0,ax),(1,bq),(2,ic),(7,Cb),(11,lE),(12,g7)]) G58) (
 J0 (xq q 120 τ [(51,x54),(50,x53),(49,ic),(48,g7),(13,(.int .i64 0)),(45,x0),(44,ax),(43,g7)] [(0,ax),(1,bq),(2,ic),(7,Cb),(11,lE),(12,g7)]) G)) (
 some ((.exit 0),xq q 120 τ [(45,x0),(44,ax),(43,g7)] [(0,ax),(1,bq),(2,ic),(7,Cb),(11,lE),(12,g7),(13,zw)],G))
def xo (q:Bool) (e:Ex) (lp:bF) (τ:Env) (G:GS):OL:=zx q e lp (oC q e lp) τ G
theorem ZZ {e:Ex} {E:Ev} (h:bm Q e E) {lp bO:bF} (bw:g0 lp bO) (τ:Env) (G:GS):Ref (xo true e lp τ G) (xo false (Ex.of E) bO τ G):=by
 unfold xo zx
 have j0:=@ZY e E h lp bO bw
 exact Ref.gj
def EP (J0:bF):JT (Exit×Env×GS) :=
 (.n none .e (.n none (.n none (.n none .e (.n (some (fun T G=>J0 (nth undef T) G)) .e .e)) .e) .e))
set_option maxHeartbeats 8000000 in
theorem Z0 (ae:FuncId→Bool) (J0:bF) (T:List Value) (G:GS):mh Q (aD Q ae) 120 (EP J0) (aU [1,1,1,1,1,1,0,1,0,0] (aL Tryz.f6)) (fU (fun τ G'=>bc ((E ae).lp (aU [1,1,1,1,1,1,0,1,0,0] (aL Tryz.f6)) (aG 120 (nth undef (aG 120 τ))) G')) fun e τ G'=>some (e,nth undef (aG 120 τ),G')) [true,false,false,true] (nth undef T) G=EO false (Ex.of (E ae)) (fun τ G=>bc ((E ae).lp (aU [1,1,1,1,1,1,0,1,0,0] (aL Tryz.f6)) (aG 120 τ) G))  (nth undef T) G:=by kernel_rfl
set_option maxHeartbeats 8000000 in
theorem Z1 (ae:FuncId→Bool):mj Q ae 120 (EP (oC false (Ex.of (E ae)) (fun τ G=>bc ((E ae).lp (aU [1,1,1,1,1,1,0,1,0,0] (aL Tryz.f6)) (aG 120 τ) G))) ) (aU [1,1,1,1,1,1,0,1,0,0] (aL Tryz.f6)) (fU (fun τ G'=>bc ((E ae).lp (aU [1,1,1,1,1,1,0,1,0,0] (aL Tryz.f6)) (aG 120 (nth undef (aG 120 τ))) G')) fun e τ G'=>some (e,nth undef (aG 120 τ),G')) :=
 zr Q ae (l:=[([true,false,false,true],(fun T G=>oC false (Ex.of (E ae)) (fun τ G=>bc ((E ae).lp (aU [1,1,1,1,1,1,0,1,0,0] (aL Tryz.f6)) (aG 120 τ) G)) (nth undef T) G))]) (by kernel_rfl) (gi.c (fun T G=>Z0 ae (oC false (Ex.of (E ae)) (fun τ G=>bc ((E ae).lp (aU [1,1,1,1,1,1,0,1,0,0] (aL Tryz.f6)) (aG 120 τ) G))) T G) (gi.z))
set_option maxHeartbeats 8000000 in
theorem Z2 (ae:FuncId→Bool) (J0:bF) (T:List Value) (G:GS):jI Q (aD Q ae) 120 (EP J0) (aU [1,1,1,1,1,1,0,1,0,0] (aL Tryz.f6)) (nth undef T) G (fU (fun τ G'=>bc ((E ae).lp (aU [1,1,1,1,1,1,0,1,0,0] (aL Tryz.f6)) (aG 120 (nth undef (aG 120 τ))) G')) fun e τ G'=>some (e,nth undef (aG 120 τ),G'))=zx false (Ex.of (E ae)) (fun τ G=>bc ((E ae).lp (aU [1,1,1,1,1,1,0,1,0,0] (aL Tryz.f6)) (aG 120 τ) G)) J0 (nth undef T) G:=by kernel_rfl
set_option maxHeartbeats 8000000 in
theorem Ru {ae:FuncId→Bool} {e:Ex} (h:bm Q e (E ae)) (lp:bF) (bw:∀ τ G,Ref (lp τ G) (bc ((E ae).lp (aU [1,1,1,1,1,1,0,1,0,0] (aL Tryz.f6)) (aG 120 τ) G))) (T:List Value) (G:GS) (hT:T.length=120):Ref (xo true e lp (nth undef T) G) (bc ((E ae).lp (aU [1,1,1,1,1,1,0,1,0,0] (aL Tryz.f6)) T G)) :=
 fun r hr=>Jq Q ae G (EP (oC false (Ex.of (E ae)) (fun τ G=>bc ((E ae).lp (aU [1,1,1,1,1,1,0,1,0,0] (aL Tryz.f6)) (aG 120 τ) G))) ) hT (Z1 ae) (Z2 ae (oC false (Ex.of (E ae)) (fun τ G=>bc ((E ae).lp (aU [1,1,1,1,1,1,0,1,0,0] (aL Tryz.f6)) (aG 120 τ) G))) T G) (ZZ h ⟨bw⟩ _ _ r hr)
def zy (q:Bool) (e:Ex) (lp:bF) (τ:Env) (G:GS):OL :=
 bV q (τ 9) fun ER =>
 bV q (τ 14) fun ES =>
 bV q (τ 15) fun oD =>
 bP (bn Q q .lss 3 (.tmp 109) (.const (.int .i64 4)) oD (.int .i64 4)) fun x0 =>
 bl x0 (
 bS (e.ev.cl 31 [ES,ER] G) fun x1 G2 =>
 bP (bn Q q .add 3 (.tmp 111) (.const (.int .i64 1)) oD (.int .i64 1)) fun x3 =>
 lp (xq q 120 τ [(15,x3),(112,x3),(111,oD),(115,x1),(114,ER),(113,ES),(110,x0),(109,oD)] [(9,ER),(14,ES)]) G2) (
 some ((.exit 2),xq q 120 τ [(110,x0),(109,oD)] [(9,ER),(14,ES),(15,oD)],G))
theorem Z3 {e:Ex} {E:Ev} (h:bm Q e E) {lp bO:bF} (bw:g0 lp bO) (τ:Env) (G:GS):Ref (zy true e lp τ G) (zy false (Ex.of E) bO τ G):=by
 unfold zy
 exact Ref.gq
set_option maxHeartbeats 8000000 in
theorem Rv {ae:FuncId→Bool} {e:Ex} (h:bm Q e (E ae)) (lp:bF) (bw:∀ τ G,Ref (lp τ G) (bc ((E ae).lp (aU [1,1,1,1,1,1,0,1,0,0,1,0,0,1,1,1,1,1,0,1,0,0] (aL Tryz.f6)) (aG 120 τ) G))) (T:List Value) (G:GS) (hT:T.length=120):Ref (zy true e lp (nth undef T) G) (bc ((E ae).lp (aU [1,1,1,1,1,1,0,1,0,0,1,0,0,1,1,1,1,1,0,1,0,0] (aL Tryz.f6)) T G)) :=
 fun r hr=>EH Q ae G hT (by kernel_rfl) (Z3 h ⟨bw⟩ _ _ r hr)
def s6 (q:Bool) (e:Ex) (v0 v1 v2:Value) (G:GS):OG :=
 bS (e.ev.cl 27 [v0,(.int .i64 4),v1,(.int .i64 9)] G) fun x0 G1 =>
 bP (gW x0 0) fun x2 =>
 bP (gW x0 1) fun x3 =>
 bS (al Q q 39 z39 G1) fun x4 G5 =>
 bP (st Q q 39 13 x4 x2 G5) fun G6 =>
 bS (e.ev.cl 28 [x3] G6) fun x7 G8 =>
 bP (gW x7 0) fun x9 =>
 bP (gW x7 1) fun x10 =>
 bP (bn Q q .neq 61 (.tmp 27) (.const (.int .i64 0)) x10 (.int .i64 0)) fun x11 =>
 bS (gV x11 false x9 G8) fun x12 G13 =>
 bS (gP x11 false (ep Q q false 40 (.tmp 30) (.const (.pointer none)) x12 (.pointer none)) G13) fun x14 G15 =>
 bP (iL x11 (.bool true) x14) fun x16 =>
 bl x16 (
 some ((.pointer none),G15)) (
 bP (de Q q 39 13 x4 G15) fun x17 =>
 bS (e.ev.cl 29 [x17,x9] G15) fun x18 G19 =>
 bP (de Q q 39 13 x4 (G19.room 8)) fun x20 =>
 bS (mk Q q 44 1 8 z63 (.int .i64 2) (.int .i64 2) ((G19.room 8).aS (G19.nx+2))) fun x21 G22 =>
 bS (mk Q q 46 1 24 z22 (.int .i64 4) (.int .i64 4) ((G22.back (G19.room 8)).aS (G19.nx+3))) fun x23 G24 =>
 bS (bs Q q 22 4 (rep z3 4) 1 [(0,0,1),(1,1,1),(2,2,1),(3,3,1)] [(.int .i64 (-1)),(.int .i64 (-1)),(.int .i64 (-1)),(.int .i64 (-1))] ((G24.back (G22.back (G19.room 8))).aS (G19.nx+4))) fun x25 G26 =>
 bP (bd Q q 49 z49 [(0,0,13),(1,13,1),(6,18,1),(8,20,1),(11,23,1)] [x20,x9,x21,x23,x25]) fun x27 =>
 bS (bx q x27 ((G26.back (G24.back (G22.back (G19.room 8)))).aS (G19.nx+6))) fun x28 G29 =>
 ml q e 6 0 (aU [1,1,1,1,1,1,0,1,0,0] (aL Tryz.f6)) 120 (nth undef [v0,v1,v2]) [(12,(.int .i64 0)),(11,x28),(42,x28),(41,x27),(40,x25),(39,x23),(38,x21),(37,x9),(36,x20),(35,x18),(34,x9),(33,x17),(32,x16),(31,x14),(30,x12),(29,x11),(28,x11),(27,x10),(10,x10),(9,x9),(26,x10),(25,x9),(22,x7),(24,x7),(23,x3),(8,x3),(7,x4),(21,x3),(20,x2),(16,x0),(19,x0),(18,v1),(17,v0),(6,(.pointer none))] [] (G29.back (G26.back (G24.back (G22.back (G19.room 8))))) fun e30 t31 G32 =>
 bV q (t31 6) fun Z4 =>
 bV q (t31 11) fun Z5 =>
 dP e30 (.exit 0) (
 some (Z5,G32)) (dP e30 .ret (
 some (Z4,G32)) (none)))
theorem m6 {e:Ex} {E:Ev} (h:bm Q e E) (v0 v1 v2:Value) (G:GS):Ref (s6 true e v0 v1 v2 G) (s6 false (Ex.of E) v0 v1 v2 G):=by
 unfold s6
 exact Ref.gq
set_option maxHeartbeats 8000000 in
theorem f6 {ae:FuncId→Bool} {e:Ex} (h:bm Q e (E ae)) (v0 v1 v2:Value) (G:GS):Ref (s6 true e v0 v1 v2 G) ((E ae).cl 6 [v0,v1,v2] G) :=
 fun r hr=>zd Q ae (vs:=[v0,v1,v2]) G Tryz.func6 (by kernel_rfl) (by kernel_rfl) (by kernel_rfl) (by kernel_rfl) (by kernel_rfl) (by kernel_rfl) (m6 h v0 v1 v2 G r hr)
def s10 (q:Bool) (e:Ex) (v0 v1:Value) (G:GS):OG :=
 bS (bx q v0 G) fun x0 G1 =>
 bS (al Q q 22 z22 G1) fun x2 G3 =>
 bP (de Q q 39 13 x0 G3) fun x4 =>
 bS (e.ev.cl 36 [x4] G3) fun x5 G6 =>
 bP (un Q q .not x5) fun x7 =>
 bl x7 (
 bP (ld Q q 22 x2 G6) fun x8 =>
 some (x8,G6)) (
 bS (e.ev.cl 37 [v1] G6) fun x9 G10 =>
 bS (al Q q 82 z82 G10) fun x11 G12 =>
 bP (st Q q 82 1 x11 x9 G12) fun G13 =>
 bP (ld Q q 82 x11 G13) fun x14 =>
 bP (de Q q 39 13 x0 G13) fun x15 =>
 bS (e.ev.cl 38 [x14,x15,(.int .i64 0)] G13) fun x16 G17 =>
 bX (gE e.ev x16 #[17] (aU [1,1,1,1,0,1,0,0] (aL Tryz.f10)) (aU [1,1,1,1,0,1,0,1] (aL Tryz.f10)) (sd q 30 (nth undef [v0,v1]) [(16,x16),(15,x15),(14,x14),(6,x11),(13,x9),(12,v1),(10,x7),(9,x5),(8,x4),(5,x2),(4,(.slice none 0 0)),(2,x0)]) G17) fun e18 T19 G20 =>
 bV q (nth undef T19 5) fun Z6 =>
 dP e18 .normal (
 bP (ld Q q 22 Z6 G20) fun x21 =>
 some (x21,G20)) (none))
theorem f10 (h:bm Q e (E ae)) (v0 v1:Value) (G:GS):Ref (s10 true e v0 v1 G) ((E ae).cl 10 [v0,v1] G):=cS (S:=fun q e=>s10 q e v0 v1 G) Tryz.func10 (by unfold s10; exact Ref.gq)
def zz (q:Bool) (e:Ex) (l:Nat) (τ:Env) (u0:Value) (G:GS):OG :=
 bV q (τ 2) fun ic =>
 bV q (τ 5) fun gG =>
 bV q (τ 6) fun il =>
 bP (G.loop l) fun r0=>if r0.st= .ready then
 bP (ld Q q 82 il ((G.bR l (Lp.gf r0 .busy)).room 7)) fun x1 =>
 bP (de Q q 39 13 ic ((G.bR l (Lp.gf r0 .busy)).room 7)) fun x2 =>
 bS (e.ev.cl 41 [x2,u0,(.int .i64 0)] ((G.bR l (Lp.gf r0 .busy)).room 7)) fun x4 G3 =>
 eV ((bp (ld Q q 82 il G3) x1&&true)) <|
 bS (e.ev.cl 40 [x1,x4] G3) fun x6 G5 =>
 bS (e.ev.cl 39 [x6] G5) fun x8 G7 =>
 bP (un Q q .not x8) fun x9 =>
 bl x9 (
 bP (ld Q q 22 gG G7) fun x10 =>
 bS (bs Q q 22 1 (rep z3 1) 1 [(0,0,1)] [u0] G7) fun x11 G12 =>
 bS (ap Q q 22 22 1 8 x10 x11 G12) fun x13 G14 =>
 bP (st Q q 22 1 gG x13 G14) fun G15 =>
 me l .normal G15) (
 me l .normal G7)
 else none
theorem Z7 {e:Ex} {E:Ev} (h:bm Q e E) (l:Nat) (τ:Env) (u0:Value) (G:GS):Ref (zz true e l τ u0 G) (zz false (Ex.of E) l τ u0 G):=by
 unfold zz
 repeat' (with_reducible first | exact Ref.rfl' _ | exact dV.r | refine Ref.bP ?_ fun _=>?_ | refine Ref.bS ?_ fun _ _=>?_ | exact Ref.cl (by assumption) | refine Ref.bl ?_ ?_ | refine g0.rx (by assumption) ?_ | refine Ref.BZ ?_ | exact eO.z | refine eO.c (by assumption) ?_ | exact Ref.nil _ | refine Ref.BX fun _ _=>?_ | refine Ref.ml (by assumption) ?_ fun _ _ _=>?_ | refine Ref.dP ?_ ?_ | refine Ref.eV ?_ ?_ | refine eA.and ?_ ?_ | refine eA.or ?_ | exact eA.rfl' _ | refine eA.bp ?_ | refine Ref.gd ?_ | exact Ref.fJ (by assumption) | refine Ref.bX ?_ fun _ _ _=>?_ | exact Ref.B3 (by assumption) | exact Ref.B0 (by assumption) | exact Ref.jF (by assumption) | refine Ref.IV ?_)
theorem Z8 {ae:FuncId→Bool} {e:Ex} (h:bm Q e (E ae)) (l:Nat) (T:List Value) (u0:Value) (G:GS) {st:LoopState} {aC:Option Code} (hl:G.loop l=some ⟨st,aC,T,[17],(aU [1,1,1,1,0,1,0,0] (aL Tryz.f10)),(aU [1,1,1,1,0,1,0,1] (aL Tryz.f10))⟩) (hT:T.length=30):Ref (zz true e l (nth undef T) u0 G) ((E ae).rd l [u0] G) :=
 fun r hr=>IH Q ae hl (by kernel_rfl) hT (by kernel_rfl) (Z7 h l _ u0 G r hr)
def zA (q:Bool) (e:Ex) (lp:bF) (τ:Env) (G:GS):OL :=
 bV q (τ 0) fun ax =>
 bV q (τ 1) fun bq =>
 bV q (τ 17) fun eQ =>
 bS (e.ev.cl 50 [ax,bq] G) fun x4 G5 =>
 some ((.exit 0),xq q 162 τ [(43,x4),(42,bq),(41,ax)] [(0,ax),(1,bq),(17,eQ)],G5)
def jJ (q:Bool) (e:Ex) (lp:bF) (τ:Env) (G:GS):OL:=zA q e lp τ G
theorem Z9 {e:Ex} {E:Ev} (h:bm Q e E) {lp bO:bF} (bw:g0 lp bO) (τ:Env) (G:GS):Ref (jJ true e lp τ G) (jJ false (Ex.of E) bO τ G):=by
 unfold jJ zA
 exact Ref.gq
theorem JO {e:Ex} {E:Ev} (h:bm Q e E) {lp bO:bF} (bw:g0 lp bO) {τ:Env} {l U:List (Nat×Value)} {G:GS} (hU:eO τ U):Ref (jJ true e lp (xq true 162 τ l U) G) (jJ false (Ex.of E) bO (xq false 162 τ l U) G):=by
 rw [se hU]
 exact Z9 h bw _ _
def zB (q:Bool) (e:Ex) (lp:bF) (J0:bF) (τ:Env) (G:GS):OL :=
 bV q (τ 0) fun ax =>
 bV q (τ 1) fun bq =>
 bV q (τ 17) fun eQ =>
 bP (aR ax) fun x6 =>
 bP (fa Q q 102 0 0 x6) fun x7 =>
 bS (e.ev.cl 49 [x7,bq] G) fun x8 G9 =>
 some ((.exit 0),xq q 162 τ [(40,x8),(39,bq),(38,x7),(37,x6),(36,ax)] [(0,ax),(1,bq),(17,eQ)],G9)
def kj (q:Bool) (e:Ex) (lp:bF) (τ:Env) (G:GS):OL:=zB q e lp (jJ q e lp) τ G
theorem aac {e:Ex} {E:Ev} (h:bm Q e E) {lp bO:bF} (bw:g0 lp bO) (τ:Env) (G:GS):Ref (kj true e lp τ G) (kj false (Ex.of E) bO τ G):=by
 unfold kj zB
 have j0:=@JO e E h lp bO bw
 exact Ref.gj
theorem Rw {e:Ex} {E:Ev} (h:bm Q e E) {lp bO:bF} (bw:g0 lp bO) {τ:Env} {l U:List (Nat×Value)} {G:GS} (hU:eO τ U):Ref (kj true e lp (xq true 162 τ l U) G) (kj false (Ex.of E) bO (xq false 162 τ l U) G):=by
 rw [se hU]
 exact aac h bw _ _
def pH (q:Bool) (e:Ex) (lp:bF) (J0 J1:bF) (τ:Env) (G:GS):OL :=
 bV q (τ 0) fun ax =>
 bV q (τ 1) fun bq =>
 bV q (τ 17) fun eQ =>
 bP (bn Q q .eql 3 (.tmp 17) (.const (.int .i64 7)) eQ (.int .i64 7)) fun x13 =>
 bl x13 (
 bP (aR ax) fun x14 =>
 bP (fa Q q 102 0 0 x14) fun x15 =>
 bS (e.ev.cl 51 [x15,bq,(.int .i64 4)] G) fun x16 G17 =>
 bP (aR ax) fun x18 =>
 bP (fa Q q 102 0 0 x18) fun x19 =>
 bP (fa Q q 99 5 20 x19) fun x20 =>
 bP (st Q q 97 1 x20 x16 G17) fun G21 =>
 bP (aR ax) fun x22 =>
 bP (fa Q q 102 0 0 x22) fun x23 =>
 bP (fa Q q 99 2 17 x23) fun x24 =>
 bP (st Q q 3 1 x24 (.int .i64 8) G21) fun G25 =>
 bP (aR ax) fun x26 =>
 bP (fa Q q 102 0 0 x26) fun x27 =>
 bP (fa Q q 99 5 20 x27) fun x28 =>
 bP (ld Q q 97 x28 G25) fun x29 =>
 bS (e.ev.cl 52 [x29] G25) fun x30 G31 =>
 bl x30 (
 bP (aR ax) fun x32 =>
 bP (fa Q q 102 0 0 x32) fun x33 =>
 bP (fa Q q 99 2 17 x33) fun x34 =>
 bP (st Q q 3 1 x34 (.int .i64 3) G31) fun G35 =>
 some ((.exit 0),xq q 162 τ [(66,x34),(65,x33),(64,x32),(63,ax),(62,x30),(61,x29),(60,x28),(59,x27),(58,x26),(57,ax),(56,x24),(55,x23),(54,x22),(53,ax),(52,x20),(51,x19),(50,x18),(49,x16),(48,bq),(47,x15),(46,x14),(45,ax),(44,ax),(28,x13),(29,x13)] [(0,ax),(1,bq),(17,eQ)],G35)) (
 some ((.exit 0),xq q 162 τ [(62,x30),(61,x29),(60,x28),(59,x27),(58,x26),(57,ax),(56,x24),(55,x23),(54,x22),(53,ax),(52,x20),(51,x19),(50,x18),(49,x16),(48,bq),(47,x15),(46,x14),(45,ax),(44,ax),(28,x13),(29,x13)] [(0,ax),(1,bq),(17,eQ)],G31))) (
 bP (bn Q q .eql 3 (.tmp 17) (.const (.int .i64 8)) eQ (.int .i64 8)) fun x36 =>
 bl x36 (
 bP (aR ax) fun x37 =>
 bP (fa Q q 102 0 0 x37) fun x38 =>
 bP (fa Q q 99 3 18 x38) fun x39 =>
 bP (ld Q q 51 x39 G) fun x40 =>
 bP (aR ax) fun x41 =>
 bP (fa Q q 102 0 0 x41) fun x42 =>
 bP (fa Q q 99 7 23 x42) fun x43 =>
 bP (st Q q 51 1 x43 x40 G) fun G44 =>
 bP (aR ax) fun x45 =>
 bP (fa Q q 102 0 0 x45) fun x46 =>
 bP (fa Q q 99 2 17 x46) fun x47 =>
 bP (st Q q 3 1 x47 (.int .i64 7) G44) fun G48 =>
 bP (aR ax) fun x49 =>
 bP (fa Q q 102 0 0 x49) fun x50 =>
 bP (fa Q q 99 0 0 x50) fun x51 =>
 bP (de Q q 39 13 x51 (G48.room 24)) fun x52 =>
 bP (aR ax) fun x53 =>
 bP (fa Q q 102 0 0 x53) fun x54 =>
 bP (fa Q q 99 4 19 x54) fun x55 =>
 bP (ld Q q 3 x55 (G48.room 24)) fun x56 =>
 bS (e.ev.cl 41 [x52,x56,(.int .i64 0)] (G48.room 24)) fun x58 G57 =>
 bP (aR ax) fun x59 =>
 bP (fa Q q 102 0 0 x59) fun x60 =>
 bP (fa Q q 99 5 20 x60) fun x61 =>
 bP (ld Q q 97 x61 G57) fun x62 =>
 eV ((bp (ld Q q 97 x61 (G48.room 24)) x62&&true)) <|
 bP (aR ax) fun x63 =>
 bP (fa Q q 102 0 0 x63) fun x64 =>
 bP (fa Q q 99 5 20 x64) fun x65 =>
 bP (ld Q q 97 x65 G57) fun x66 =>
 eV ((bp (ld Q q 97 x65 (G48.room 24)) x66&&true)) <|
 bS (e.ev.cl 54 [x66,(.bool true)] G57) fun x68 G67 =>
 eV ((bp (ld Q q 97 x61 G67) x62&&true)) <|
 bS (e.ev.cl 53 [bq,x58,x62,x68] G67) fun x70 G69 =>
 bl x70 (
 bP (aR ax) fun x71 =>
 bP (fa Q q 102 0 0 x71) fun x72 =>
 bP (fa Q q 99 1 13 x72) fun x73 =>
 bP (fa Q q 96 1 1 x73) fun x74 =>
 bP (st Q q 4 1 x74 (.bool true) G69) fun G75 =>
 bP (aR ax) fun x76 =>
 bP (fa Q q 102 0 0 x76) fun x77 =>
 bP (fa Q q 99 2 17 x77) fun x78 =>
 bP (st Q q 3 1 x78 (.int .i64 9) G75) fun G79 =>
 some ((.exit 0),xq q 162 τ [(112,x78),(111,x77),(110,x76),(109,x74),(108,x73),(107,x72),(106,x71),(105,ax),(104,ax),(103,x70),(102,x68),(101,x66),(100,x65),(99,x64),(98,x63),(97,ax),(96,x62),(95,x61),(94,x60),(93,x59),(92,ax),(91,x58),(90,x56),(89,x55),(88,x54),(87,x53),(86,ax),(85,x52),(84,x51),(83,x50),(82,x49),(81,ax),(80,bq),(79,x47),(78,x46),(77,x45),(76,x43),(75,x42),(74,x41),(73,x40),(72,x39),(71,x38),(70,x37),(69,ax),(68,ax),(67,ax),(30,x36),(31,x36),(28,x13),(29,x13)] [(0,ax),(1,bq),(17,eQ)],G79)) (
 some ((.exit 0),xq q 162 τ [(103,x70),(102,x68),(101,x66),(100,x65),(99,x64),(98,x63),(97,ax),(96,x62),(95,x61),(94,x60),(93,x59),(92,ax),(91,x58),(90,x56),(89,x55),(88,x54),(87,x53),(86,ax),(85,x52),(84,x51),(83,x50),(82,x49),(81,ax),(80,bq),(79,x47),(78,x46),(77,x45),(76,x43),(75,x42),(74,x41),(73,x40),(72,x39),(71,x38),(70,x37),(69,ax),(68,ax),(67,ax),(30,x36),(31,x36),(28,x13),(29,x13)] [(0,ax),(1,bq),(17,eQ)],G69))) (
 bP (bn Q q .eql 3 (.tmp 17) (.const (.int .i64 9)) eQ (.int .i64 9)) fun x80 =>
 bl x80 (
 bP (aR ax) fun x81 =>
 bP (fa Q q 102 0 0 x81) fun x82 =>
 bS (e.ev.cl 51 [x82,bq,(.int .i64 0)] G) fun x83 G84 =>
 bP (aR ax) fun x85 =>
 bP (fa Q q 102 0 0 x85) fun x86 =>
 bP (fa Q q 99 6 21 x86) fun x87 =>
 bP (fa Q q 60 0 0 x87) fun x88 =>
 bP (st Q q 51 1 x88 x83 G84) fun G89 =>
 bP (aR ax) fun x90 =>
 bP (fa Q q 102 0 0 x90) fun x91 =>
 bP (fa Q q 99 2 17 x91) fun x92 =>
 bP (st Q q 3 1 x92 (.int .i64 91) G89) fun G93 =>
 some ((.exit 0),xq q 162 τ [(126,x92),(125,x91),(124,x90),(123,x88),(122,x87),(121,x86),(120,x85),(119,x83),(118,bq),(117,x82),(116,x81),(115,ax),(114,ax),(113,ax),(32,x80),(33,x80),(30,x36),(31,x36),(28,x13),(29,x13)] [(0,ax),(1,bq),(17,eQ)],G93)) (
 bP (bn Q q .eql 3 (.tmp 17) (.const (.int .i64 91)) eQ (.int .i64 91)) fun x94 =>
 bl x94 (
 bP (aR ax) fun x95 =>
 bP (fa Q q 102 0 0 x95) fun x96 =>
 bS (e.ev.cl 55 [x96,bq] G) fun x97 G98 =>
 bP (aR ax) fun x99 =>
 bP (fa Q q 102 0 0 x99) fun x100 =>
 bP (fa Q q 99 0 0 x100) fun x101 =>
 bP (de Q q 39 13 x101 (G98.room 23)) fun x102 =>
 bP (aR ax) fun x103 =>
 bP (fa Q q 102 0 0 x103) fun x104 =>
 bP (fa Q q 99 6 21 x104) fun x105 =>
 bP (fa Q q 60 0 0 x105) fun x106 =>
 bP (ld Q q 51 x106 (G98.room 23)) fun x107 =>
 bS (e.ev.cl 56 [x102,x107] (G98.room 23)) fun x109 G108 =>
 bP (aR ax) fun x110 =>
 bP (fa Q q 102 0 0 x110) fun x111 =>
 bP (fa Q q 99 1 13 x111) fun x112 =>
 bP (fa Q q 96 2 2 x112) fun x113 =>
 bP (st Q q 93 1 x113 x109 G108) fun G114 =>
 bP (aR ax) fun x115 =>
 bP (fa Q q 102 0 0 x115) fun x116 =>
 bP (fa Q q 99 2 17 x116) fun x117 =>
 bP (st Q q 3 1 x117 (.int .i64 10) G114) fun G118 =>
 some ((.exit 0),xq q 162 τ [(152,x117),(151,x116),(150,x115),(149,x113),(148,x112),(147,x111),(146,x110),(145,x109),(144,x107),(143,x106),(142,x105),(141,x104),(140,x103),(139,ax),(138,x102),(137,x101),(136,x100),(135,x99),(134,ax),(133,ax),(132,ax),(131,x97),(130,bq),(129,x96),(128,x95),(127,ax),(34,x94),(35,x94),(32,x80),(33,x80),(30,x36),(31,x36),(28,x13),(29,x13)] [(0,ax),(1,bq),(17,eQ)],G118)) (
 bS (e.ev.cl 57 [ax,bq] G) fun x119 G120 =>
 some ((.exit 0),xq q 162 τ [(155,x119),(154,bq),(153,ax),(34,x94),(35,x94),(32,x80),(33,x80),(30,x36),(31,x36),(28,x13),(29,x13)] [(0,ax),(1,bq),(17,eQ)],G120)))))
def im (q:Bool) (e:Ex) (lp:bF) (τ:Env) (G:GS):OL:=pH q e lp (jJ q e lp) (kj q e lp) τ G
theorem aad {e:Ex} {E:Ev} (h:bm Q e E) {lp bO:bF} (bw:g0 lp bO) (τ:Env) (G:GS):Ref (im true e lp τ G) (im false (Ex.of E) bO τ G):=by
 unfold im pH
 have j0:=@JO e E h lp bO bw
 have j1:=@Rw e E h lp bO bw
 exact Ref.gj
theorem aae {e:Ex} {E:Ev} (h:bm Q e E) {lp bO:bF} (bw:g0 lp bO) {τ:Env} {l U:List (Nat×Value)} {G:GS} (hU:eO τ U):Ref (im true e lp (xq true 162 τ l U) G) (im false (Ex.of E) bO (xq false 162 τ l U) G):=by
 rw [se hU]
 exact aad h bw _ _
def jK (q:Bool) (e:Ex) (lp:bF) (J0 J1 J2:bF) (τ:Env) (G:GS):OL :=
 bV q (τ 0) fun ax =>
 bV q (τ 1) fun bq =>
 bP (aR ax) fun x0 =>
 bP (fa Q q 102 0 0 x0) fun x1 =>
 bP (fa Q q 99 2 17 x1) fun x2 =>
 bP (ld Q q 3 x2 G) fun x3 =>
 bP (bn Q q .eql 3 (.tmp 17) (.const (.int .i64 1)) x3 (.int .i64 1)) fun x10 =>
 bl x10 (
 J1 (xq q 162 τ [(18,x10),(19,x10),(17,x3),(16,x2),(15,x1),(14,x0),(13,ax)] [(0,ax),(1,bq)]) G) (
 bP (bn Q q .eql 3 (.tmp 17) (.const (.int .i64 2)) x3 (.int .i64 2)) fun x11 =>
 bl x11 (
 J1 (xq q 162 τ [(20,x11),(21,x11),(18,x10),(19,x10),(17,x3),(16,x2),(15,x1),(14,x0),(13,ax)] [(0,ax),(1,bq)]) G) (
 bP (bn Q q .eql 3 (.tmp 17) (.const (.int .i64 3)) x3 (.int .i64 3)) fun x12 =>
 bl x12 (
 J1 (xq q 162 τ [(22,x12),(23,x12),(20,x11),(21,x11),(18,x10),(19,x10),(17,x3),(16,x2),(15,x1),(14,x0),(13,ax)] [(0,ax),(1,bq)]) G) (
 bP (bn Q q .eql 3 (.tmp 17) (.const (.int .i64 4)) x3 (.int .i64 4)) fun x121 =>
 bl x121 (
 bl x121 (
 J0 (xq q 162 τ [(24,x121),(25,x121),(22,x12),(23,x12),(20,x11),(21,x11),(18,x10),(19,x10),(17,x3),(16,x2),(15,x1),(14,x0),(13,ax)] [(0,ax),(1,bq)]) G) (
 J2 (xq q 162 τ [(24,x121),(25,x121),(22,x12),(23,x12),(20,x11),(21,x11),(18,x10),(19,x10),(17,x3),(16,x2),(15,x1),(14,x0),(13,ax)] [(0,ax),(1,bq)]) G)) (
 bP (bn Q q .eql 3 (.tmp 17) (.const (.int .i64 5)) x3 (.int .i64 5)) fun x122 =>
 bl x122 (
 bl x122 (
 J0 (xq q 162 τ [(24,x122),(26,x122),(24,x121),(25,x121),(22,x12),(23,x12),(20,x11),(21,x11),(18,x10),(19,x10),(17,x3),(16,x2),(15,x1),(14,x0),(13,ax)] [(0,ax),(1,bq)]) G) (
 J2 (xq q 162 τ [(24,x122),(26,x122),(24,x121),(25,x121),(22,x12),(23,x12),(20,x11),(21,x11),(18,x10),(19,x10),(17,x3),(16,x2),(15,x1),(14,x0),(13,ax)] [(0,ax),(1,bq)]) G)) (
 bP (bn Q q .eql 3 (.tmp 17) (.const (.int .i64 6)) x3 (.int .i64 6)) fun x123 =>
 bl x123 (
 J0 (xq q 162 τ [(24,x123),(27,x123),(24,x122),(26,x122),(24,x121),(25,x121),(22,x12),(23,x12),(20,x11),(21,x11),(18,x10),(19,x10),(17,x3),(16,x2),(15,x1),(14,x0),(13,ax)] [(0,ax),(1,bq)]) G) (
 J2 (xq q 162 τ [(24,x123),(27,x123),(24,x122),(26,x122),(24,x121),(25,x121),(22,x12),(23,x12),(20,x11),(21,x11),(18,x10),(19,x10),(17,x3),(16,x2),(15,x1),(14,x0),(13,ax)] [(0,ax),(1,bq)]) G))))))
def iz (q:Bool) (e:Ex) (lp:bF) (τ:Env) (G:GS):OL:=jK q e lp (jJ q e lp) (kj q e lp) (im q e lp) τ G
theorem aaf {e:Ex} {E:Ev} (h:bm Q e E) {lp bO:bF} (bw:g0 lp bO) (τ:Env) (G:GS):Ref (iz true e lp τ G) (iz false (Ex.of E) bO τ G):=by
 unfold iz jK
 have j0:=@JO e E h lp bO bw
 have j1:=@Rw e E h lp bO bw
 have j2:=@aae e E h lp bO bw
 exact Ref.gj
def zC (J0 J1 J2:bF):JT (Exit×Env×GS) :=
 (.n none (.n none .e (.n none (.n none (.n none (.n none (.n none (.n none (.n none (.n none (.n none (.n none (.n none (.n (some (fun T G=>J0 (nth undef T) G)) (.n none (.n (some (fun T G=>J1 (nth undef T) G)) (.n none (.n none (.n none (.n none (.n none .e (.n none .e (.n none .e (.n (some (fun T G=>J2 (nth undef T) G)) .e .e)))) .e) .e) .e) .e) .e) .e) .e) .e) .e) .e) .e) .e) .e) .e) .e) .e) .e) .e)) .e)
set_option maxHeartbeats 8000000 in
theorem aag (ae:FuncId→Bool) (J0 J1 J2:bF) (T:List Value) (G:GS):mh Q (aD Q ae) 162 (zC J0 J1 J2) (aU [1,0,1,1,0,0,0] (aL Tryz.f20)) (fU (fun τ G'=>bc ((E ae).lp (aU [1,0,1,1,0,0,0] (aL Tryz.f20)) (aG 162 (nth undef (aG 162 τ))) G')) fun e τ G'=>some (e,nth undef (aG 162 τ),G')) [false,true,false,false,false,false,false,false,false,false,false,false,false] (nth undef T) G=zA false (Ex.of (E ae)) (fun τ G=>bc ((E ae).lp (aU [1,0,1,1,0,0,0] (aL Tryz.f20)) (aG 162 τ) G))  (nth undef T) G:=by kernel_rfl
set_option maxHeartbeats 8000000 in
theorem aah (ae:FuncId→Bool) (J0 J1 J2:bF) (T:List Value) (G:GS):mh Q (aD Q ae) 162 (zC J0 J1 J2) (aU [1,0,1,1,0,0,0] (aL Tryz.f20)) (fU (fun τ G'=>bc ((E ae).lp (aU [1,0,1,1,0,0,0] (aL Tryz.f20)) (aG 162 (nth undef (aG 162 τ))) G')) fun e τ G'=>some (e,nth undef (aG 162 τ),G')) [false,true,false,false,false,false,false,false,false,false,false,false,false,false,false] (nth undef T) G=zB false (Ex.of (E ae)) (fun τ G=>bc ((E ae).lp (aU [1,0,1,1,0,0,0] (aL Tryz.f20)) (aG 162 τ) G)) J0 (nth undef T) G:=by kernel_rfl
set_option maxHeartbeats 8000000 in
theorem aai (ae:FuncId→Bool) (J0 J1 J2:bF) (T:List Value) (G:GS):mh Q (aD Q ae) 162 (zC J0 J1 J2) (aU [1,0,1,1,0,0,0] (aL Tryz.f20)) (fU (fun τ G'=>bc ((E ae).lp (aU [1,0,1,1,0,0,0] (aL Tryz.f20)) (aG 162 (nth undef (aG 162 τ))) G')) fun e τ G'=>some (e,nth undef (aG 162 τ),G')) [false,true,false,false,false,false,false,false,false,false,false,false,false,false,false,false,false,false,false,false,true,true,true] (nth undef T) G=pH false (Ex.of (E ae)) (fun τ G=>bc ((E ae).lp (aU [1,0,1,1,0,0,0] (aL Tryz.f20)) (aG 162 τ) G)) J0 J1 (nth undef T) G:=by kernel_rfl
set_option maxHeartbeats 8000000 in
theorem aaj (ae:FuncId→Bool):mj Q ae 162 (zC (jJ false (Ex.of (E ae)) (fun τ G=>bc ((E ae).lp (aU [1,0,1,1,0,0,0] (aL Tryz.f20)) (aG 162 τ) G))) (kj false (Ex.of (E ae)) (fun τ G=>bc ((E ae).lp (aU [1,0,1,1,0,0,0] (aL Tryz.f20)) (aG 162 τ) G))) (im false (Ex.of (E ae)) (fun τ G=>bc ((E ae).lp (aU [1,0,1,1,0,0,0] (aL Tryz.f20)) (aG 162 τ) G))) ) (aU [1,0,1,1,0,0,0] (aL Tryz.f20)) (fU (fun τ G'=>bc ((E ae).lp (aU [1,0,1,1,0,0,0] (aL Tryz.f20)) (aG 162 (nth undef (aG 162 τ))) G')) fun e τ G'=>some (e,nth undef (aG 162 τ),G')) :=
 zr Q ae (l:=[([false,true,false,false,false,false,false,false,false,false,false,false,false],(fun T G=>jJ false (Ex.of (E ae)) (fun τ G=>bc ((E ae).lp (aU [1,0,1,1,0,0,0] (aL Tryz.f20)) (aG 162 τ) G)) (nth undef T) G)),([false,true,false,false,false,false,false,false,false,false,false,false,false,false,false],(fun T G=>kj false (Ex.of (E ae)) (fun τ G=>bc ((E ae).lp (aU [1,0,1,1,0,0,0] (aL Tryz.f20)) (aG 162 τ) G)) (nth undef T) G)),([false,true,false,false,false,false,false,false,false,false,false,false,false,false,false,false,false,false,false,false,true,true,true],(fun T G=>im false (Ex.of (E ae)) (fun τ G=>bc ((E ae).lp (aU [1,0,1,1,0,0,0] (aL Tryz.f20)) (aG 162 τ) G)) (nth undef T) G))]) (by kernel_rfl) (gi.c (fun T G=>aag ae (jJ false (Ex.of (E ae)) (fun τ G=>bc ((E ae).lp (aU [1,0,1,1,0,0,0] (aL Tryz.f20)) (aG 162 τ) G))) (kj false (Ex.of (E ae)) (fun τ G=>bc ((E ae).lp (aU [1,0,1,1,0,0,0] (aL Tryz.f20)) (aG 162 τ) G))) (im false (Ex.of (E ae)) (fun τ G=>bc ((E ae).lp (aU [1,0,1,1,0,0,0] (aL Tryz.f20)) (aG 162 τ) G))) T G) (gi.c (fun T G=>aah ae (jJ false (Ex.of (E ae)) (fun τ G=>bc ((E ae).lp (aU [1,0,1,1,0,0,0] (aL Tryz.f20)) (aG 162 τ) G))) (kj false (Ex.of (E ae)) (fun τ G=>bc ((E ae).lp (aU [1,0,1,1,0,0,0] (aL Tryz.f20)) (aG 162 τ) G))) (im false (Ex.of (E ae)) (fun τ G=>bc ((E ae).lp (aU [1,0,1,1,0,0,0] (aL Tryz.f20)) (aG 162 τ) G))) T G) (gi.c (fun T G=>aai ae (jJ false (Ex.of (E ae)) (fun τ G=>bc ((E ae).lp (aU [1,0,1,1,0,0,0] (aL Tryz.f20)) (aG 162 τ) G))) (kj false (Ex.of (E ae)) (fun τ G=>bc ((E ae).lp (aU [1,0,1,1,0,0,0] (aL Tryz.f20)) (aG 162 τ) G))) (im false (Ex.of (E ae)) (fun τ G=>bc ((E ae).lp (aU [1,0,1,1,0,0,0] (aL Tryz.f20)) (aG 162 τ) G))) T G) (gi.z))))
set_option maxHeartbeats 8000000 in
theorem aak (ae:FuncId→Bool) (J0 J1 J2:bF) (T:List Value) (G:GS):jI Q (aD Q ae) 162 (zC J0 J1 J2) (aU [1,0,1,1,0,0,0] (aL Tryz.f20)) (nth undef T) G (fU (fun τ G'=>bc ((E ae).lp (aU [1,0,1,1,0,0,0] (aL Tryz.f20)) (aG 162 (nth undef (aG 162 τ))) G')) fun e τ G'=>some (e,nth undef (aG 162 τ),G'))=jK false (Ex.of (E ae)) (fun τ G=>bc ((E ae).lp (aU [1,0,1,1,0,0,0] (aL Tryz.f20)) (aG 162 τ) G)) J0 J1 J2 (nth undef T) G:=by kernel_rfl
set_option maxHeartbeats 8000000 in
theorem Rx {ae:FuncId→Bool} {e:Ex} (h:bm Q e (E ae)) (lp:bF) (bw:∀ τ G,Ref (lp τ G) (bc ((E ae).lp (aU [1,0,1,1,0,0,0] (aL Tryz.f20)) (aG 162 τ) G))) (T:List Value) (G:GS) (hT:T.length=162):Ref (iz true e lp (nth undef T) G) (bc ((E ae).lp (aU [1,0,1,1,0,0,0] (aL Tryz.f20)) T G)) :=
 fun r hr=>Jq Q ae G (zC (jJ false (Ex.of (E ae)) (fun τ G=>bc ((E ae).lp (aU [1,0,1,1,0,0,0] (aL Tryz.f20)) (aG 162 τ) G))) (kj false (Ex.of (E ae)) (fun τ G=>bc ((E ae).lp (aU [1,0,1,1,0,0,0] (aL Tryz.f20)) (aG 162 τ) G))) (im false (Ex.of (E ae)) (fun τ G=>bc ((E ae).lp (aU [1,0,1,1,0,0,0] (aL Tryz.f20)) (aG 162 τ) G))) ) hT (aaj ae) (aak ae (jJ false (Ex.of (E ae)) (fun τ G=>bc ((E ae).lp (aU [1,0,1,1,0,0,0] (aL Tryz.f20)) (aG 162 τ) G))) (kj false (Ex.of (E ae)) (fun τ G=>bc ((E ae).lp (aU [1,0,1,1,0,0,0] (aL Tryz.f20)) (aG 162 τ) G))) (im false (Ex.of (E ae)) (fun τ G=>bc ((E ae).lp (aU [1,0,1,1,0,0,0] (aL Tryz.f20)) (aG 162 τ) G))) T G) (aaf h ⟨bw⟩ _ _ r hr)
def s20 (q:Bool) (e:Ex) (v0 v1:Value) (G:GS):OG :=
 bP (ep Q q false 63 (.tmp 5) (.const (.pointer none)) v0 (.pointer none)) fun x0 =>
 bS (gV x0 false v0 G) fun x1 G2 =>
 bS (gP x0 false (aR x1) G2) fun x3 G4 =>
 bS (gP x0 false (fa Q q 102 0 0 x3) G4) fun x5 G6 =>
 bS (gS x0 false (e.ev.cl 48 [x5] G6) G6) fun x7 G8 =>
 bP (iL x0 (.bool true) x7) fun x9 =>
 bl x9 (
 some ((.bool true),G8)) (
 ml q e 20 0 (aU [1,0,1,1,0,0,0] (aL Tryz.f20)) 162 (nth undef [v0,v1]) [(12,x9),(11,x7),(10,x5),(9,x3),(8,x1),(7,x0),(6,x0),(5,v0),(4,(.bool false))] [] G8 fun e10 t11 G12 =>
 bV q (t11 0) fun aal =>
 dP e10 (.exit 0) (
 nf q 102 0 0 aal fun x14 =>
 fl q 99 2 17 3 x14 G12 fun x16 =>
 bP (bn Q q .eql 3 (.tmp 160) (.const (.int .i64 99)) x16 (.int .i64 99)) fun x17 =>
 some (x17,G12)) (none))
theorem m20 {e:Ex} {E:Ev} (h:bm Q e E) (v0 v1:Value) (G:GS):Ref (s20 true e v0 v1 G) (s20 false (Ex.of E) v0 v1 G):=by
 unfold s20
 exact Ref.gq
set_option maxHeartbeats 8000000 in
theorem f20 {ae:FuncId→Bool} {e:Ex} (h:bm Q e (E ae)) (v0 v1:Value) (G:GS):Ref (s20 true e v0 v1 G) ((E ae).cl 20 [v0,v1] G) :=
 fun r hr=>zd Q ae (vs:=[v0,v1]) G Tryz.func20 (by kernel_rfl) (by kernel_rfl) (by kernel_rfl) (by kernel_rfl) (by kernel_rfl) (by kernel_rfl) (m20 h v0 v1 G r hr)
def s27 (q:Bool) (e:Ex) (v0 v1 v2 v3:Value) (G:GS):OG :=
 bS (al Q q 39 z39 G) fun x0 G1 =>
 bP (bd Q q 31 z31 [(0,0,1),(1,1,1),(2,2,1)] [(.int .i64 0),(.int .i64 1),v0]) fun x2 =>
 bP (bn Q q .add 3 (.const (.int .i64 1)) (.tmp 15) (.int .i64 1) v0) fun x3 =>
 bP (bn Q q .mul 3 (.const (.int .i64 2)) (.tmp 17) (.int .i64 2) v0) fun x4 =>
 bP (bn Q q .add 3 (.const (.int .i64 1)) (.tmp 18) (.int .i64 1) x4) fun x5 =>
 bP (bd Q q 33 z33 [(0,0,3),(1,3,1),(2,4,1),(3,5,1)] [x2,x3,x5,v3]) fun x6 =>
 bS (al Q q 33 z33 G1) fun x7 G8 =>
 bP (st Q q 33 6 x7 x6 G8) fun G9 =>
 bP (de Q q 33 6 x7 G9) fun x10 =>
 bP (bn Q q .mul 3 (.const (.int .i64 2)) (.tmp 23) (.int .i64 2) v0) fun x11 =>
 bP (bn Q q .add 3 (.const (.int .i64 2)) (.tmp 24) (.int .i64 2) x11) fun x12 =>
 bP (bn Q q .mul 3 (.const (.int .i64 2)) (.tmp 26) (.int .i64 2) v0) fun x13 =>
 bP (bn Q q .add 3 (.const (.int .i64 3)) (.tmp 27) (.int .i64 3) x13) fun x14 =>
 bP (bd Q q 35 z35 [(0,0,1),(1,1,1),(2,2,1)] [x12,x14,v1]) fun x15 =>
 bP (bn Q q .mul 3 (.const (.int .i64 2)) (.tmp 31) (.int .i64 2) v0) fun x16 =>
 bP (bn Q q .add 3 (.const (.int .i64 3)) (.tmp 32) (.int .i64 3) x16) fun x17 =>
 bP (bn Q q .add 3 (.tmp 33) (.tmp 34) x17 v1) fun x18 =>
 bP (bd Q q 37 z37 [(0,0,6),(1,6,3),(2,9,1)] [x10,x15,x18]) fun x19 =>
 bS (al Q q 37 z37 G9) fun x20 G21 =>
 bP (st Q q 37 10 x20 x19 G21) fun G22 =>
 bP (bn Q q .mul 3 (.const (.int .i64 2)) (.tmp 37) (.int .i64 2) v0) fun x23 =>
 bP (bn Q q .add 3 (.const (.int .i64 6)) (.tmp 38) (.int .i64 6) x23) fun x24 =>
 bP (bn Q q .add 3 (.tmp 39) (.tmp 40) x24 v1) fun x25 =>
 bP (bn Q q .mul 3 (.const (.int .i64 2)) (.tmp 42) (.int .i64 2) v0) fun x26 =>
 bP (bn Q q .add 3 (.const (.int .i64 6)) (.tmp 43) (.int .i64 6) x26) fun x27 =>
 bP (bn Q q .add 3 (.tmp 44) (.tmp 45) x27 v1) fun x28 =>
 bP (bn Q q .add 3 (.tmp 46) (.tmp 47) x28 v2) fun x29 =>
 bP (de Q q 37 10 x20 G22) fun x30 =>
 bP (bd Q q 39 z39 [(1,1,1),(0,0,1),(2,2,1),(3,3,10)] [x25,x29,v2,x30]) fun x31 =>
 bS (al Q q 39 z39 G22) fun x32 G33 =>
 bP (st Q q 39 13 x32 x31 G33) fun G34 =>
 bP (de Q q 39 13 x32 (G34.room 10)) fun x35 =>
 bP (fa Q q 39 0 0 x32) fun x36 =>
 bP (ld Q q 3 x36 (G34.room 10)) fun x37 =>
 bP (bn Q q .add 3 (.const (.int .i64 4)) (.tmp 56) (.int .i64 4) v2) fun x38 =>
 bP (bn Q q .mul 3 (.tmp 55) (.tmp 57) v0 x38) fun x39 =>
 bP (bn Q q .add 3 (.tmp 54) (.tmp 58) x37 x39) fun x40 =>
 bP (st Q q 39 13 x0 x35 (G34.room 10)) fun G41 =>
 eV ((bp (ld Q q 3 x36 G41) x37&&true)) <|
 bP (de Q q 39 13 x0 G41) fun x42 =>
 some (.tuple #[x42,x40],G41)
theorem f27 (h:bm Q e (E ae)) (v0 v1 v2 v3:Value) (G:GS):Ref (s27 true e v0 v1 v2 v3 G) ((E ae).cl 27 [v0,v1,v2,v3] G):=cS (S:=fun q e=>s27 q e v0 v1 v2 v3 G) Tryz.func27 (by unfold s27; exact Ref.gq)
def s30 (q:Bool) (e:Ex) (v0 v1 v2 v3 v4:Value) (G:GS):OG :=
 bS (bx q v0 G) fun x0 G1 =>
 bP (de Q q 39 13 x0 G1) fun x2 =>
 bS (e.ev.cl 65 [x2,v1,v3,v4] G1) fun x3 G4 =>
 bP (bd Q q 125 z125 [(0,0,1),(1,1,1),(4,7,1)] [(.bool true),v1,x3]) fun x5 =>
 bS (bx q x5 G4) fun x6 G7 =>
 nl q 125 4 7 61 x6 G7 fun x10 =>
 bP (bn Q q .neq 61 (.tmp 25) (.const (.int .i64 0)) x10 (.int .i64 0)) fun x11 =>
 bl x11 (
 nf q 125 3 6 x6 fun x13 =>
 bP (st Q q 3 1 x13 (.int .i64 4) G7) fun G14 =>
 some (x6,G14)) (
 bP (de Q q 39 13 x0 G7) fun x15 =>
 bS (e.ev.cl 66 [x15,v1] G7) fun x16 G17 =>
 bS (al Q q 3 z3 G17) fun x18 G19 =>
 bP (st Q q 3 1 x18 x16 G19) fun G20 =>
 bS (fJ e.ev (.func (.func 67) #[] #[x0,x18]) [(.int .i64 0),v2] G20) fun x21 G22 =>
 bP (cv Q q 3 51 .i64 .u64 v3) fun x23 =>
 bS (fJ e.ev (.func (.func 67) #[] #[x0,x18]) [(.int .i64 1),x23] G22) fun x24 G25 =>
 bP (cv Q q 3 51 .i64 .u64 v4) fun x26 =>
 bS (fJ e.ev (.func (.func 67) #[] #[x0,x18]) [(.int .i64 2),x26] G25) fun x27 G28 =>
 bS (fJ e.ev (.func (.func 67) #[] #[x0,x18]) [(.int .i64 3),(.int .u64 2)] G28) fun x29 G30 =>
 bP (bd Q q 123 z123 [(0,0,1),(1,1,1),(2,2,1),(3,3,1)] [x21,x24,x27,x29]) fun x31 =>
 nf q 125 2 2 x6 fun x33 =>
 bP (st Q q 123 4 x33 x31 G30) fun G34 =>
 some (x6,G34))
theorem f30 (h:bm Q e (E ae)) (v0 v1 v2 v3 v4:Value) (G:GS):Ref (s30 true e v0 v1 v2 v3 v4 G) ((E ae).cl 30 [v0,v1,v2,v3,v4] G):=cS (S:=fun q e=>s30 q e v0 v1 v2 v3 v4 G) Tryz.func30 (by unfold s30; exact Ref.gq)
def s33 (q:Bool) (e:Ex) (v0 v1:Value) (G:GS):OG :=
 nl q 49 11 23 22 v0 G fun x2 =>
 bP (fW Q q 22 1 x2 v1) fun x3 =>
 bP (ld Q q 3 x3 G) fun x4 =>
 bP (bn Q q .lss 3 (.tmp 15) (.const (.int .i64 0)) x4 (.int .i64 0)) fun x5 =>
 bl x5 (
 bS (e.ev.cl 70 [v0,v1] G) fun x6 G7 =>
 some ((.bool true),G7)) (
 nf q 49 8 20 v0 fun x9 =>
 bP (ld Q q 46 x9 (G.room 18)) fun x10 =>
 nf q 49 8 20 v0 fun x12 =>
 bP (ld Q q 46 x12 (G.room 18)) fun x13 =>
 bP (fW Q q 46 1 x13 v1) fun x14 =>
 bP (ld Q q 22 x14 (G.room 18)) fun x15 =>
 bS (e.ev.cl 71 [v0] (G.room 18)) fun x17 G16 =>
 eV ((bp (ld Q q 22 x14 G16) x15&&(bp (ld Q q 46 x12 G16) x13&&(bp (ld Q q 46 x9 G16) x10&&true)))) <|
 bS (bs Q q 22 1 (rep z3 1) 1 [(0,0,1)] [x17] (G16.aS (G.nx+14))) fun x18 G19 =>
 bS (ap Q q 22 22 1 8 x15 x18 (G19.back G16)) fun x21 G20 =>
 eV ((bp (ld Q q 46 x9 G20) x10&&true)) <|
 bP (fW Q q 46 1 x10 v1) fun x22 =>
 bP (st Q q 22 1 x22 x21 G20) fun G23 =>
 bP (bn Q q .eql 3 (.tmp 60) (.const (.int .i64 0)) v1 (.int .i64 0)) fun x24 =>
 bl x24 (
 nl q 49 4 16 42 v0 (G23.room 9) fun x27 =>
 nl q 49 1 13 40 v0 (G23.room 9) fun x30 =>
 bS (e.ev.cl 72 [x27,x30] (G23.room 9)) fun x32 G31 =>
 bl x32 (
 bP (bd Q q 60 z60 [] []) fun x33 =>
 nl q 49 4 16 42 v0 G31 fun x36 =>
 bS (e.ev.cl 74 [x36] G31) fun x37 G38 =>
 bS (e.ev.cl 73 [v0,v1,x33,x37] G38) fun x39 G40 =>
 some (x39,G40)) (
 some ((.bool true),G31))) (
 bP (bn Q q .lss 3 (.tmp 81) (.const (.int .i64 3)) v1 (.int .i64 3)) fun x41 =>
 bl x41 (
 nl q 49 6 18 44 v0 (G23.room 13) fun x44 =>
 bP (bn Q q .sub 3 (.tmp 87) (.const (.int .i64 1)) v1 (.int .i64 1)) fun x45 =>
 bP (fW Q q 44 1 x44 x45) fun x46 =>
 bP (ld Q q 63 x46 (G23.room 13)) fun x47 =>
 nl q 49 1 13 40 v0 (G23.room 13) fun x50 =>
 bS (e.ev.cl 20 [x47,x50] (G23.room 13)) fun x52 G51 =>
 bl x52 (
 nl q 49 6 18 44 v0 G51 fun x55 =>
 bP (bn Q q .sub 3 (.tmp 101) (.const (.int .i64 1)) v1 (.int .i64 1)) fun x56 =>
 bP (fW Q q 44 1 x55 x56) fun x57 =>
 bP (ld Q q 63 x57 G51) fun x58 =>
 bS (e.ev.cl 22 [x58] G51) fun x59 G60 =>
 bP (gW x59 0) fun x61 =>
 bP (gW x59 1) fun x62 =>
 bS (al Q q 60 z60 G60) fun x63 G64 =>
 bP (st Q q 60 2 x63 x61 G64) fun G65 =>
 bP (de Q q 60 2 x63 G65) fun x66 =>
 bS (e.ev.cl 73 [v0,v1,x66,x62] G65) fun x67 G68 =>
 some (x67,G68)) (
 some ((.bool true),G51))) (
 nl q 49 7 19 45 v0 (G23.room 9) fun x71 =>
 nl q 49 1 13 40 v0 (G23.room 9) fun x74 =>
 bS (e.ev.cl 26 [x71,x74] (G23.room 9)) fun x76 G75 =>
 bl x76 (
 nl q 49 7 19 45 v0 G75 fun x79 =>
 bS (e.ev.cl 23 [x79] G75) fun x80 G81 =>
 bP (gW x80 0) fun x82 =>
 bP (gW x80 1) fun x83 =>
 bS (al Q q 60 z60 G81) fun x84 G85 =>
 bP (st Q q 60 2 x84 x82 G85) fun G86 =>
 bP (de Q q 60 2 x84 G86) fun x87 =>
 bS (e.ev.cl 73 [v0,v1,x87,x83] G86) fun x88 G89 =>
 some (x88,G89)) (
 some ((.bool true),G75)))))
theorem m33 {e:Ex} {E:Ev} (h:bm Q e E) (v0 v1:Value) (G:GS):Ref (s33 true e v0 v1 G) (s33 false (Ex.of E) v0 v1 G):=by
 unfold s33
 exact Ref.gq
set_option maxHeartbeats 8000000 in
theorem f33 {ae:FuncId→Bool} {e:Ex} (h:bm Q e (E ae)) (v0 v1:Value) (G:GS):Ref (s33 true e v0 v1 G) ((E ae).cl 33 [v0,v1] G) :=
 fun r hr=>zd Q ae (vs:=[v0,v1]) G Tryz.func33 (by kernel_rfl) (by kernel_rfl) (by kernel_rfl) (by kernel_rfl) (by kernel_rfl) (by kernel_rfl) (m33 h v0 v1 G r hr)
def s41 (q:Bool) (e:Ex) (v0 v1 v2:Value) (G:GS):OG :=
 bS (bx q v0 G) fun x0 G1 =>
 bP (bn Q q .lss 3 (.tmp 7) (.const (.int .i64 0)) v2 (.int .i64 0)) fun x2 =>
 bS (gV x2 false v2 G1) fun x3 G4 =>
 bS (gP x2 false (bn Q q .geq 3 (.tmp 10) (.const (.int .i64 4)) x3 (.int .i64 4)) G4) fun x5 G6 =>
 bP (iL x2 (.bool true) x5) fun x7 =>
 bl x7 (
 some ((.int .i64 (-1)),G6)) (
 bP (de Q q 39 13 x0 G6) fun x8 =>
 bP (bn Q q .add 3 (.const (.int .i64 4)) (.tmp 15) (.int .i64 4) v2) fun x9 =>
 bS (e.ev.cl 42 [x8,v1,x9] G6) fun x10 G11 =>
 some (x10,G11))
theorem f41 (h:bm Q e (E ae)) (v0 v1 v2:Value) (G:GS):Ref (s41 true e v0 v1 v2 G) ((E ae).cl 41 [v0,v1,v2] G):=cS (S:=fun q e=>s41 q e v0 v1 v2 G) Tryz.func41 (by unfold s41; exact Ref.gq)
def s42 (q:Bool) (e:Ex) (v0 v1 v2:Value) (G:GS):OG :=
 bS (bx q v0 G) fun x0 G1 =>
 bP (de Q q 39 13 x0 G1) fun x2 =>
 bS (e.ev.cl 36 [x2] G1) fun x3 G4 =>
 bP (un Q q .not x3) fun x5 =>
 bl x5 (
 some ((.int .i64 (-1)),G4)) (
 bP (bn Q q .neq 3 (.tmp 12) (.const (.int .i64 (-1))) v1 (.int .i64 (-1))) fun x6 =>
 bl x6 (
 bP (de Q q 39 13 x0 G4) fun x7 =>
 bS (e.ev.cl 77 [x7] G4) fun x8 G9 =>
 bS (e.ev.cl 78 [x8,v1,v2] G9) fun x10 G11 =>
 some (x10,G11)) (
 bP (bn Q q .lss 3 (.tmp 20) (.const (.int .i64 4)) v2 (.int .i64 4)) fun x12 =>
 bS (gV x12 false v2 G4) fun x13 G14 =>
 bS (gP x12 false (fa Q q 39 2 2 x0) G14) fun x15 G16 =>
 bS (gP x12 false (ld Q q 3 x15 G16) G16) fun x17 G18 =>
 bS (gP x12 false (bn Q q .add 3 (.const (.int .i64 4)) (.tmp 25) (.int .i64 4) x17) G18) fun x19 G20 =>
 bS (gP x12 false (bn Q q .geq 3 (.tmp 23) (.tmp 26) x13 x19) G20) fun x21 G22 =>
 bP (iL x12 (.bool true) x21) fun x23 =>
 bl x23 (
 some ((.int .i64 (-1)),G22)) (
 bP (de Q q 39 13 x0 G22) fun x24 =>
 bS (e.ev.cl 79 [x24] G22) fun x25 G26 =>
 bP (bn Q q .sub 3 (.tmp 31) (.const (.int .i64 4)) v2 (.int .i64 4)) fun x27 =>
 bS (e.ev.cl 80 [x25,(.int .i64 0),x27] G26) fun x28 G29 =>
 some (x28,G29))))
theorem f42 (h:bm Q e (E ae)) (v0 v1 v2:Value) (G:GS):Ref (s42 true e v0 v1 v2 G) ((E ae).cl 42 [v0,v1,v2] G):=cS (S:=fun q e=>s42 q e v0 v1 v2 G) Tryz.func42 (by unfold s42; exact Ref.gq)
def s44 (q:Bool) (e:Ex) (v0 v1 v2:Value) (G:GS):OG :=
 bS (e.ev.cl 81 [v0,v1] G) fun x0 G1 =>
 bP (bd Q q 144 z144 [(0,0,1),(1,1,1)] [x0,v2]) fun x2 =>
 bS (al Q q 144 z144 G1) fun x3 G4 =>
 bP (st Q q 144 3 x3 x2 G4) fun G5 =>
 fl q 144 0 0 141 x3 G5 fun x7 =>
 bP (de Q q 144 3 x3 G5) fun x8 =>
 bS (e.ev.cl 82 [v0,(.int .i64 2),v1,x7,(.func (.func 83) #[x8] #[])] G5) fun x9 G10 =>
 some (.tuple #[],G10)
theorem f44 (h:bm Q e (E ae)) (v0 v1 v2:Value) (G:GS):Ref (s44 true e v0 v1 v2 G) ((E ae).cl 44 [v0,v1,v2] G):=cS (S:=fun q e=>s44 q e v0 v1 v2 G) Tryz.func44 (by unfold s44; exact Ref.gq)
def tU (q:Bool) (e:Ex) (τ:Env) (G:GS):OG :=
 bV q (τ 0) fun ax =>
 nf q 102 0 0 ax fun x6 =>
 bP (fa Q q 99 1 13 x6) fun x7 =>
 fl q 96 2 2 93 x7 G fun x9 =>
 bS (e.ev.cl 92 [x9] G) fun x10 G11 =>
 nf q 102 0 0 ax fun x13 =>
 bP (fa Q q 99 7 23 x13) fun x14 =>
 bP (st Q q 51 1 x14 x10 G11) fun G15 =>
 some (.tuple #[],G15)
def kr (q:Bool) (e:Ex) (τ:Env) (G:GS):OG:=tU q e τ G
theorem aam {e:Ex} {E:Ev} (h:bm Q e E) (τ:Env) (G:GS):Ref (kr true e τ G) (kr false (Ex.of E) τ G):=by
 unfold kr tU
 exact Ref.gq
theorem aan {e:Ex} {E:Ev} (h:bm Q e E) {τ:Env} {l U:List (Nat×Value)} {G:GS} (hU:eO τ U):Ref (kr true e (xq true 102 τ l U) G) (kr false (Ex.of E) (xq false 102 τ l U) G):=by
 rw [se hU]
 exact aam h _ _
def tV (q:Bool) (e:Ex) (J0:Env→GS→OG) (v0 v1:Value) (G:GS):OG :=
 bP (aR v0) fun x0 =>
 bP (fa Q q 102 0 0 x0) fun x1 =>
 bP (fa Q q 99 2 17 x1) fun x2 =>
 bP (ld Q q 3 x2 G) fun x3 =>
 bP (bn Q q .eql 3 (.tmp 8) (.const (.int .i64 10)) x3 (.int .i64 10)) fun x4 =>
 bl x4 (
 bP (aR v0) fun x16 =>
 bP (fa Q q 102 0 0 x16) fun x17 =>
 bP (fa Q q 99 1 13 x17) fun x18 =>
 bP (fa Q q 96 2 2 x18) fun x19 =>
 bP (ld Q q 93 x19 G) fun x20 =>
 bS (e.ev.cl 91 [x20,v1] G) fun x21 G22 =>
 bl x21 (
 bP (aR v0) fun x23 =>
 bP (fa Q q 102 0 0 x23) fun x24 =>
 bP (fa Q q 99 2 17 x24) fun x25 =>
 bP (st Q q 3 1 x25 (.int .i64 11) G22) fun G26 =>
 J0 (xq q 102 (nth undef [v0,v1]) [(22,x25),(21,x24),(20,x23),(19,v0),(18,x21),(17,v1),(16,x20),(15,x19),(14,x18),(13,x17),(12,x16),(11,v0),(9,x4),(10,x4),(8,x3),(7,x2),(6,x1),(5,x0),(4,v0)] []) G26) (
 J0 (xq q 102 (nth undef [v0,v1]) [(18,x21),(17,v1),(16,x20),(15,x19),(14,x18),(13,x17),(12,x16),(11,v0),(9,x4),(10,x4),(8,x3),(7,x2),(6,x1),(5,x0),(4,v0)] []) G22)) (
 bP (bn Q q .eql 3 (.tmp 8) (.const (.int .i64 11)) x3 (.int .i64 11)) fun x27 =>
 bl x27 (
 nf q 102 0 0 v0 fun x29 =>
 fl q 99 3 18 51 x29 G fun x31 =>
 nf q 102 0 0 v0 fun x33 =>
 bP (fa Q q 99 7 23 x33) fun x34 =>
 bP (st Q q 51 1 x34 x31 G) fun G35 =>
 nf q 102 0 0 v0 fun x37 =>
 bP (fa Q q 99 2 17 x37) fun x38 =>
 bP (st Q q 3 1 x38 (.int .i64 99) G35) fun G39 =>
 nf q 102 0 0 v0 fun x41 =>
 bP (fa Q q 99 0 0 x41) fun x42 =>
 bP (de Q q 39 13 x42 (G39.room 14)) fun x43 =>
 nf q 102 0 0 v0 fun x45 =>
 fl q 99 4 19 3 x45 (G39.room 14) fun x47 =>
 bS (e.ev.cl 42 [x43,x47,(.int .i64 3)] (G39.room 14)) fun x49 G48 =>
 bS (e.ev.cl 93 [v1,x49,(.int .u64 18446744073709551615)] G48) fun x51 G50 =>
 bP (bn Q q .eql 51 (.tmp 61) (.const (.int .u64 0)) x51 (.int .u64 0)) fun x52 =>
 bl x52 (
 nf q 102 0 0 v0 fun x54 =>
 bP (fa Q q 99 0 0 x54) fun x55 =>
 bP (fa Q q 39 3 3 x55) fun x56 =>
 bP (de Q q 37 10 x56 (G50.room 23)) fun x57 =>
 nf q 102 0 0 v0 fun x59 =>
 fl q 99 4 19 3 x59 (G50.room 23) fun x61 =>
 bS (e.ev.cl 94 [x57,x61] (G50.room 23)) fun x63 G62 =>
 nf q 102 0 0 v0 fun x65 =>
 bP (fa Q q 99 1 13 x65) fun x66 =>
 bP (fa Q q 96 3 3 x66) fun x67 =>
 bP (st Q q 94 1 x67 x63 G62) fun G68 =>
 nf q 102 0 0 v0 fun x70 =>
 bP (fa Q q 99 2 17 x70) fun x71 =>
 bP (st Q q 3 1 x71 (.int .i64 12) G68) fun G72 =>
 some (.tuple #[],G72)) (
 some (.tuple #[],G50))) (
 bP (bn Q q .eql 3 (.tmp 8) (.const (.int .i64 12)) x3 (.int .i64 12)) fun x73 =>
 bl x73 (
 nf q 102 0 0 v0 fun x75 =>
 bP (fa Q q 99 7 23 x75) fun x76 =>
 bP (st Q q 51 1 x76 (.int .u64 0) G) fun G77 =>
 nf q 102 0 0 v0 fun x79 =>
 bP (fa Q q 99 1 13 x79) fun x80 =>
 fl q 96 3 3 94 x80 G77 fun x82 =>
 bS (e.ev.cl 95 [x82,v1] G77) fun x83 G84 =>
 bl x83 (
 nf q 102 0 0 v0 fun x86 =>
 bP (fa Q q 99 2 17 x86) fun x87 =>
 bP (st Q q 3 1 x87 (.int .i64 99) G84) fun G88 =>
 some (.tuple #[],G88)) (
 some (.tuple #[],G84))) (
 some (.tuple #[],G))))
def s57 (q:Bool) (e:Ex) (v0 v1:Value) (G:GS):OG:=tV q e (kr q e) v0 v1 G
theorem m57 {e:Ex} {E:Ev} (h:bm Q e E) (v0 v1:Value) (G:GS):Ref (s57 true e v0 v1 G) (s57 false (Ex.of E) v0 v1 G):=by
 unfold s57 tV
 have j0:=@aan e E h
 exact Ref.gj
def ET (J0:Env→GS→OG):JT (Value×GS) :=
 (.n none .e (.n none (.n none .e (.n none (.n (some (fun T G=>J0 (nth undef T) G)) .e .e) .e)) .e))
set_option maxHeartbeats 8000000 in
theorem aao (ae:FuncId→Bool) (J0:Env→GS→OG) (T:List Value) (G:GS):mh Q (aD Q ae) Tryz.f57.ntmps (ET J0) (aL Tryz.f57) (j8 Q Tryz.f57.results.toList) [true,false,true,false] (nth undef T) G=tU false (Ex.of (E ae))  (nth undef T) G:=by kernel_rfl
set_option maxHeartbeats 8000000 in
theorem aap (ae:FuncId→Bool):mj Q ae Tryz.f57.ntmps (ET (kr false (Ex.of (E ae))) ) (aL Tryz.f57) (j8 Q Tryz.f57.results.toList) :=
 zr Q ae (l:=[([true,false,true,false],(fun T G=>kr false (Ex.of (E ae)) (nth undef T) G))]) (by kernel_rfl) (gi.c (fun T G=>aao ae (kr false (Ex.of (E ae))) T G) (gi.z))
set_option maxHeartbeats 8000000 in
theorem aaq (ae:FuncId→Bool) (J0:Env→GS→OG) (v0 v1:Value) (G:GS):jI Q (aD Q ae) Tryz.f57.ntmps (ET J0) (aL Tryz.f57) (nth undef [v0,v1]) G (j8 Q Tryz.f57.results.toList)=tV false (Ex.of (E ae)) J0 v0 v1 G:=by kernel_rfl
set_option maxHeartbeats 8000000 in
theorem f57 {ae:FuncId→Bool} {e:Ex} (h:bm Q e (E ae)) (v0 v1:Value) (G:GS):Ref (s57 true e v0 v1 G) ((E ae).cl 57 [v0,v1] G) :=
 fun r hr=>Jp Q ae (vs:=[v0,v1]) G (ET (kr false (Ex.of (E ae))) ) Tryz.func57 (by kernel_rfl) (by kernel_rfl) (by kernel_rfl) (by kernel_rfl) (by kernel_rfl) (aap ae) (aaq ae (kr false (Ex.of (E ae))) v0 v1 G) (m57 h v0 v1 G r hr)
def zD (q:Bool) (e:Ex) (τ:Env) (G:GS):OG :=
 bV q (τ 0) fun ax =>
 bV q (τ 1) fun bq =>
 bV q (τ 4) fun xp =>
 nl q 49 8 20 46 ax G fun x21 =>
 bP (fW Q q 46 1 x21 bq) fun x22 =>
 bP (st Q q 22 1 x22 (.slice none 0 0) G) fun G23 =>
 nl q 49 11 23 22 ax (G23.room 12) fun x26 =>
 nl q 49 10 22 47 ax (G23.room 12) fun x29 =>
 bP (ln Q q 47 x29) fun x30 =>
 bP (fW Q q 22 1 x26 bq) fun x31 =>
 bP (st Q q 3 1 x31 x30 (G23.room 12)) fun G32 =>
 nl q 49 10 22 47 ax (G32.room 11) fun x35 =>
 bP (de Q q 175 10 xp (G32.room 11)) fun x36 =>
 bS (bs Q q 47 1 (rep z175 1) 10 [(0,0,10)] [x36] ((G32.room 11).aS (G32.nx+6))) fun x37 G38 =>
 bS (ap Q q 47 47 10 80 x35 x37 (G38.back (G32.room 11))) fun x40 G39 =>
 nf q 49 10 22 ax fun x42 =>
 bP (st Q q 47 1 x42 x40 G39) fun G43 =>
 some (.tuple #[],G43)
def nC (q:Bool) (e:Ex) (τ:Env) (G:GS):OG:=zD q e τ G
theorem aar {e:Ex} {E:Ev} (h:bm Q e E) (τ:Env) (G:GS):Ref (nC true e τ G) (nC false (Ex.of E) τ G):=by
 unfold nC zD
 exact Ref.gq
theorem aas {e:Ex} {E:Ev} (h:bm Q e E) {τ:Env} {l U:List (Nat×Value)} {G:GS} (hU:eO τ U):Ref (nC true e (xq true 140 τ l U) G) (nC false (Ex.of E) (xq false 140 τ l U) G):=by
 rw [se hU]
 exact aar h _ _
def xr (q:Bool) (e:Ex) (J0:Env→GS→OG) (v0 v1:Value) (G:GS):OG :=
 bP (aR v0) fun x0 =>
 bP (fa Q q 49 12 24 x0) fun x1 =>
 bP (ld Q q 3 x1 G) fun x2 =>
 bP (bn Q q .add 3 (.tmp 9) (.const (.int .i64 1)) x2 (.int .i64 1)) fun x3 =>
 bP (aR v0) fun x4 =>
 bP (fa Q q 49 12 24 x4) fun x5 =>
 bP (st Q q 3 1 x5 x3 G) fun G6 =>
 bP (aR v0) fun x7 =>
 bP (fa Q q 49 10 22 x7) fun x8 =>
 bP (ld Q q 47 x8 (G6.room 13)) fun x9 =>
 bP (ln Q q 47 x9) fun x10 =>
 bP (aR v0) fun x11 =>
 bP (fa Q q 49 12 24 x11) fun x12 =>
 bP (ld Q q 3 x12 (G6.room 13)) fun x13 =>
 bP (bd Q q 171 z171 [(0,0,1)] [(.int .i64 5)]) fun x14 =>
 bP (bd Q q 175 z175 [(0,0,1),(1,1,1),(2,2,1),(3,3,4)] [x10,x13,(.int .i64 (-1)),x14]) fun x15 =>
 bS (al Q q 175 z175 ((G6.room 13).aS (G6.nx+11))) fun x16 G17 =>
 bP (st Q q 175 10 x16 x15 (G17.back (G6.room 13))) fun G18 =>
 bP (bn Q q .eql 3 (.tmp 35) (.const (.int .i64 0)) v1 (.int .i64 0)) fun x44 =>
 bl x44 (
 bP (aR v0) fun x45 =>
 bP (fa Q q 49 5 17 x45) fun x46 =>
 bP (ld Q q 43 x46 G18) fun x47 =>
 bP (ln Q q 43 x47) fun x48 =>
 bP (aR v0) fun x49 =>
 bP (fa Q q 49 2 14 x49) fun x50 =>
 bP (ld Q q 41 x50 G18) fun x51 =>
 bP (ln Q q 41 x51) fun x52 =>
 bP (bn Q q .geq 3 (.tmp 42) (.tmp 47) x48 x52) fun x53 =>
 bl x53 (
 some (.tuple #[],G18)) (
 bP (aR v0) fun x54 =>
 bP (fa Q q 49 0 0 x54) fun x55 =>
 bP (de Q q 39 13 x55 (G18.room 27)) fun x56 =>
 bP (bn Q q .add 3 (.tmp 54) (.const (.int .i64 1)) x48 (.int .i64 1)) fun x57 =>
 bP (cv Q q 3 51 .i64 .u64 x57) fun x58 =>
 bP (bn Q q .or 51 (.tmp 56) (.const (.int .u64 65536)) x58 (.int .u64 65536)) fun x59 =>
 bP (aR v0) fun x60 =>
 bP (fa Q q 49 2 14 x60) fun x61 =>
 bP (ld Q q 41 x61 (G18.room 27)) fun x62 =>
 bP (fW Q q 41 1 x62 x48) fun x63 =>
 bP (ld Q q 51 x63 (G18.room 27)) fun x64 =>
 bP (aR v0) fun x65 =>
 bP (fa Q q 49 3 15 x65) fun x66 =>
 bP (ld Q q 22 x66 (G18.room 27)) fun x67 =>
 bP (fW Q q 22 1 x67 x48) fun x68 =>
 bP (ld Q q 3 x68 (G18.room 27)) fun x69 =>
 bS (e.ev.cl 100 [x56,x59,x64,x69] (G18.room 27)) fun x71 G70 =>
 bP (aR v0) fun x72 =>
 bP (fa Q q 49 4 16 x72) fun x73 =>
 bP (st Q q 42 1 x73 x71 G70) fun G74 =>
 bP (aR v0) fun x75 =>
 bP (fa Q q 49 5 17 x75) fun x76 =>
 bP (ld Q q 43 x76 (G74.room 14)) fun x77 =>
 bP (aR v0) fun x78 =>
 bP (fa Q q 49 4 16 x78) fun x79 =>
 bP (ld Q q 42 x79 (G74.room 14)) fun x80 =>
 bS (bs Q q 43 1 (rep z42 1) 1 [(0,0,1)] [x80] ((G74.room 14).aS (G74.nx+9))) fun x81 G82 =>
 bS (ap Q q 43 43 1 8 x77 x81 (G82.back (G74.room 14))) fun x84 G83 =>
 bP (aR v0) fun x85 =>
 bP (fa Q q 49 5 17 x85) fun x86 =>
 bP (st Q q 43 1 x86 x84 G83) fun G87 =>
 bP (aR v0) fun x88 =>
 bP (fa Q q 49 2 14 x88) fun x89 =>
 bP (ld Q q 41 x89 G87) fun x90 =>
 bP (fW Q q 41 1 x90 x48) fun x91 =>
 bP (ld Q q 51 x91 G87) fun x92 =>
 bP (bd Q q 171 z171 [(0,0,1),(1,1,1),(3,3,1)] [(.int .i64 4),x48,x92]) fun x93 =>
 bP (fa Q q 175 3 3 x16) fun x94 =>
 bP (st Q q 171 4 x94 x93 G87) fun G95 =>
 J0 (xq q 140 (nth undef [v0,v1]) [(97,x94),(96,x93),(95,x92),(94,x91),(93,x48),(92,x90),(91,x89),(90,x88),(89,v0),(88,x48),(87,x86),(86,x85),(85,x84),(84,x81),(83,x80),(82,x79),(81,x78),(80,v0),(79,x77),(78,x76),(77,x75),(76,v0),(75,v0),(74,x73),(73,x72),(72,x71),(71,x69),(70,x68),(69,x48),(68,x67),(67,x66),(66,x65),(65,v0),(64,x64),(63,x63),(62,x48),(61,x62),(60,x61),(59,x60),(58,v0),(57,x59),(56,x58),(55,x57),(54,x48),(53,x56),(52,x55),(51,x54),(50,v0),(49,v0),(48,x53),(47,x52),(46,x51),(45,x50),(44,x49),(43,v0),(42,x48),(5,x48),(41,x48),(40,x47),(39,x46),(38,x45),(37,v0),(34,x44),(36,x44),(35,v1),(4,x16),(23,x15),(22,x14),(21,x13),(20,x12),(19,x11),(18,v0),(17,x10),(16,x9),(15,x8),(14,x7),(13,v0),(12,x5),(11,x4),(10,x3),(9,x2),(8,x1),(7,x0),(6,v0)] []) G95)) (
 bP (bn Q q .lss 3 (.tmp 99) (.const (.int .i64 3)) v1 (.int .i64 3)) fun x96 =>
 bl x96 (
 bP (aR v0) fun x97 =>
 bP (fa Q q 49 6 18 x97) fun x98 =>
 bP (ld Q q 44 x98 (G18.room 13)) fun x99 =>
 bP (bn Q q .sub 3 (.tmp 105) (.const (.int .i64 1)) v1 (.int .i64 1)) fun x100 =>
 bP (aR v0) fun x101 =>
 bP (fa Q q 49 0 0 x101) fun x102 =>
 bP (de Q q 39 13 x102 (G18.room 13)) fun x103 =>
 bS (e.ev.cl 18 [x103] (G18.room 13)) fun x105 G104 =>
 eV ((bp (ld Q q 44 x98 G104) x99&&true)) <|
 bP (fW Q q 44 1 x99 x100) fun x106 =>
 bP (st Q q 63 1 x106 x105 G104) fun G107 =>
 J0 (xq q 140 (nth undef [v0,v1]) [(112,x106),(111,x105),(110,x103),(109,x102),(108,x101),(107,v0),(106,x100),(105,v1),(104,x99),(103,x98),(102,x97),(101,v0),(98,x96),(100,x96),(99,v1),(34,x44),(36,x44),(35,v1),(4,x16),(23,x15),(22,x14),(21,x13),(20,x12),(19,x11),(18,v0),(17,x10),(16,x9),(15,x8),(14,x7),(13,v0),(12,x5),(11,x4),(10,x3),(9,x2),(8,x1),(7,x0),(6,v0)] []) G107) (
 bP (aR v0) fun x108 =>
 bP (fa Q q 49 0 0 x108) fun x109 =>
 bP (de Q q 39 13 x109 G18) fun x110 =>
 bS (e.ev.cl 46 [x110] G18) fun x111 G112 =>
 bP (aR v0) fun x113 =>
 bP (fa Q q 49 7 19 x113) fun x114 =>
 bP (st Q q 45 1 x114 x111 G112) fun G115 =>
 bP (fa Q q 175 3 3 x16) fun x116 =>
 bP (fa Q q 171 0 0 x116) fun x117 =>
 bP (st Q q 3 1 x117 (.int .i64 6) G115) fun G118 =>
 J0 (xq q 140 (nth undef [v0,v1]) [(33,x117),(32,x116),(31,x114),(30,x113),(29,x111),(28,x110),(27,x109),(26,x108),(25,v0),(24,v0),(98,x96),(100,x96),(99,v1),(34,x44),(36,x44),(35,v1),(4,x16),(23,x15),(22,x14),(21,x13),(20,x12),(19,x11),(18,v0),(17,x10),(16,x9),(15,x8),(14,x7),(13,v0),(12,x5),(11,x4),(10,x3),(9,x2),(8,x1),(7,x0),(6,v0)] []) G118))
def s70 (q:Bool) (e:Ex) (v0 v1:Value) (G:GS):OG:=xr q e (nC q e) v0 v1 G
theorem m70 {e:Ex} {E:Ev} (h:bm Q e E) (v0 v1:Value) (G:GS):Ref (s70 true e v0 v1 G) (s70 false (Ex.of E) v0 v1 G):=by
 unfold s70 xr
 have j0:=@aas e E h
 exact Ref.gj
def EU (J0:Env→GS→OG):JT (Value×GS) :=
 (.n none .e (.n none .e (.n (some (fun T G=>J0 (nth undef T) G)) .e .e)))
set_option maxHeartbeats 8000000 in
theorem aat (ae:FuncId→Bool) (J0:Env→GS→OG) (T:List Value) (G:GS):mh Q (aD Q ae) Tryz.f70.ntmps (EU J0) (aL Tryz.f70) (j8 Q Tryz.f70.results.toList) [true,true] (nth undef T) G=zD false (Ex.of (E ae))  (nth undef T) G:=by kernel_rfl
set_option maxHeartbeats 8000000 in
theorem aau (ae:FuncId→Bool):mj Q ae Tryz.f70.ntmps (EU (nC false (Ex.of (E ae))) ) (aL Tryz.f70) (j8 Q Tryz.f70.results.toList) :=
 zr Q ae (l:=[([true,true],(fun T G=>nC false (Ex.of (E ae)) (nth undef T) G))]) (by kernel_rfl) (gi.c (fun T G=>aat ae (nC false (Ex.of (E ae))) T G) (gi.z))
set_option maxHeartbeats 8000000 in
theorem aav (ae:FuncId→Bool) (J0:Env→GS→OG) (v0 v1:Value) (G:GS):jI Q (aD Q ae) Tryz.f70.ntmps (EU J0) (aL Tryz.f70) (nth undef [v0,v1]) G (j8 Q Tryz.f70.results.toList)=xr false (Ex.of (E ae)) J0 v0 v1 G:=by kernel_rfl
set_option maxHeartbeats 8000000 in
theorem f70 {ae:FuncId→Bool} {e:Ex} (h:bm Q e (E ae)) (v0 v1:Value) (G:GS):Ref (s70 true e v0 v1 G) ((E ae).cl 70 [v0,v1] G) :=
 fun r hr=>Jp Q ae (vs:=[v0,v1]) G (EU (nC false (Ex.of (E ae))) ) Tryz.func70 (by kernel_rfl) (by kernel_rfl) (by kernel_rfl) (by kernel_rfl) (by kernel_rfl) (aau ae) (aav ae (nC false (Ex.of (E ae))) v0 v1 G) (m70 h v0 v1 G r hr)
def xu (q:Bool) (e:Ex) (τ:Env) (G:GS):OG :=
 bV q (τ 0) fun ax =>
 bV q (τ 1) fun bq =>
 bV q (τ 3) fun zE =>
 bV q (τ 6) fun il =>
 bV q (τ 10) fun aaw =>
 bP (bn Q q .eql 61 (.tmp 107) (.const (.int .i64 0)) zE (.int .i64 0)) fun x39 =>
 bS (gV x39 false zE G) fun x40 G41 =>
 bS (gP x39 false (bn Q q .eql 61 (.tmp 110) (.const (.int .i64 15)) x40 (.int .i64 15)) G41) fun x42 G43 =>
 bS (gV x39 false x42 G43) fun x44 G45 =>
 bS (gP x44 true (de Q q 60 2 il G45) G45) fun x46 G47 =>
 bS (gP x44 true (bd Q q 60 z60 [] []) G47) fun x48 G49 =>
 bS (gP x44 true (bn Q q .eql 60 (.tmp 113) (.tmp 114) x46 x48) G49) fun x50 G51 =>
 bS (gP x39 false (iL x44 x50 (.bool false)) G51) fun x52 G53 =>
 bP (iL x39 (.bool true) x52) fun x54 =>
 bS (gV x54 true ax G53) fun x55 G56 =>
 bS (gP x54 true (aR x55) G56) fun x57 G58 =>
 bS (gP x54 true (fa Q q 49 8 20 x57) G58) fun x59 G60 =>
 bS (gP x54 true (ld Q q 46 x59 G60) G60) fun x61 G62 =>
 bS (gV x54 true bq G62) fun x63 G64 =>
 bS (gP x54 true (fW Q q 46 1 x61 x63) G64) fun x65 G66 =>
 bS (gP x54 true (ld Q q 22 x65 G66) G66) fun x67 G68 =>
 bS (gV x54 true aaw G68) fun x69 G70 =>
 bS (gS x54 true (e.ev.cl 11 [x67,x69] G70) G70) fun x71 G72 =>
 bP (iL x54 x71 (.bool false)) fun x73 =>
 some (x73,G72)
def mq (q:Bool) (e:Ex) (τ:Env) (G:GS):OG:=xu q e τ G
theorem aax {e:Ex} {E:Ev} (h:bm Q e E) (τ:Env) (G:GS):Ref (mq true e τ G) (mq false (Ex.of E) τ G):=by
 unfold mq xu
 exact Ref.gq
theorem aay {e:Ex} {E:Ev} (h:bm Q e E) {τ:Env} {l U:List (Nat×Value)} {G:GS} (hU:eO τ U):Ref (mq true e (xq true 129 τ l U) G) (mq false (Ex.of E) (xq false 129 τ l U) G):=by
 rw [se hU]
 exact aax h _ _
def vA (q:Bool) (e:Ex) (J0:Env→GS→OG) (v0 v1 v2 v3:Value) (G:GS):OG :=
 bS (bx q v2 G) fun x0 G1 =>
 bP (aR v0) fun x2 =>
 bP (fa Q q 49 12 24 x2) fun x3 =>
 bP (ld Q q 3 x3 G1) fun x4 =>
 bP (bn Q q .add 3 (.tmp 14) (.const (.int .i64 1)) x4 (.int .i64 1)) fun x5 =>
 bP (aR v0) fun x6 =>
 bP (fa Q q 49 12 24 x6) fun x7 =>
 bP (st Q q 3 1 x7 x5 G1) fun G8 =>
 bP (aR v0) fun x9 =>
 bP (fa Q q 49 10 22 x9) fun x10 =>
 bP (ld Q q 47 x10 (G8.room 13)) fun x11 =>
 bP (aR v0) fun x12 =>
 bP (fa Q q 49 11 23 x12) fun x13 =>
 bP (ld Q q 22 x13 (G8.room 13)) fun x14 =>
 bP (fW Q q 22 1 x14 v1) fun x15 =>
 bP (ld Q q 3 x15 (G8.room 13)) fun x16 =>
 bP (fW Q q 47 10 x11 x16) fun x17 =>
 bP (aR v0) fun x18 =>
 bP (fa Q q 49 12 24 x18) fun x19 =>
 bP (ld Q q 3 x19 (G8.room 13)) fun x20 =>
 bP (aR x17) fun x21 =>
 bP (fa Q q 175 2 2 x21) fun x22 =>
 bP (st Q q 3 1 x22 x20 (G8.room 13)) fun G23 =>
 bP (fa Q q 60 1 1 x0) fun x24 =>
 bP (ld Q q 3 x24 G23) fun x25 =>
 bP (fa Q q 60 0 0 x0) fun x26 =>
 bP (ld Q q 51 x26 G23) fun x27 =>
 bP (bd Q q 173 z173 [(0,0,1),(1,1,1),(2,2,1)] [v3,x25,x27]) fun x28 =>
 bP (aR x17) fun x29 =>
 bP (fa Q q 175 4 7 x29) fun x30 =>
 bP (st Q q 173 3 x30 x28 G23) fun G31 =>
 bP (aR v0) fun x32 =>
 bP (fa Q q 49 11 23 x32) fun x33 =>
 bP (ld Q q 22 x33 G31) fun x34 =>
 bP (fW Q q 22 1 x34 v1) fun x35 =>
 bP (st Q q 3 1 x35 (.int .i64 (-1)) G31) fun G36 =>
 bP (bn Q q .eql 3 (.tmp 52) (.const (.int .i64 0)) v1 (.int .i64 0)) fun x37 =>
 bl x37 (
 bP (bn Q q .eql 61 (.tmp 54) (.const (.int .i64 0)) v3 (.int .i64 0)) fun x38 =>
 some (x38,G36)) (
 bP (bn Q q .eql 61 (.tmp 56) (.const (.int .i64 0)) v3 (.int .i64 0)) fun x74 =>
 bl x74 (
 bP (fa Q q 60 1 1 x0) fun x75 =>
 bP (ld Q q 3 x75 G36) fun x76 =>
 bP (bn Q q .lss 3 (.tmp 60) (.const (.int .i64 0)) x76 (.int .i64 0)) fun x77 =>
 bS (gV x77 false x76 (G36.room 35)) fun x78 _ =>
 bS (gV x77 false v0 (G36.room 35)) fun x79 _ =>
 bS (gP x77 false (aR x79) (G36.room 35)) fun x80 _ =>
 bS (gP x77 false (fa Q q 49 5 17 x80) (G36.room 35)) fun x81 _ =>
 bS (gP x77 false (ld Q q 43 x81 (G36.room 35)) (G36.room 35)) fun x82 _ =>
 bS (gP x77 false (ln Q q 43 x82) (G36.room 35)) fun x83 _ =>
 bS (gP x77 false (bn Q q .geq 3 (.tmp 63) (.tmp 68) x78 x83) (G36.room 35)) fun x84 _ =>
 bP (iL x77 (.bool true) x84) fun x85 =>
 bS (gP x85 false (fa Q q 60 0 0 x0) (G36.room 35)) fun x86 _ =>
 bS (gP x85 false (ld Q q 51 x86 (G36.room 35)) (G36.room 35)) fun x87 _ =>
 bS (gV x85 false v0 (G36.room 35)) fun x88 _ =>
 bS (gP x85 false (aR x88) (G36.room 35)) fun x89 _ =>
 bS (gP x85 false (fa Q q 49 2 14 x89) (G36.room 35)) fun x90 _ =>
 bS (gP x85 false (ld Q q 41 x90 (G36.room 35)) (G36.room 35)) fun x91 _ =>
 bS (gV x85 false x76 (G36.room 35)) fun x92 _ =>
 bS (gP x85 false (fW Q q 41 1 x91 x92) (G36.room 35)) fun x93 _ =>
 bS (gP x85 false (ld Q q 51 x93 (G36.room 35)) (G36.room 35)) fun x94 _ =>
 bS (gP x85 false (bn Q q .neq 51 (.tmp 73) (.tmp 80) x87 x94) (G36.room 35)) fun x95 _ =>
 bP (iL x85 (.bool true) x95) fun x96 =>
 bS (gV x96 false v1 (G36.room 35)) fun x97 _ =>
 bS (gP x96 false (bn Q q .lss 3 (.tmp 84) (.const (.int .i64 3)) x97 (.int .i64 3)) (G36.room 35)) fun x98 _ =>
 bS (gV x96 false x98 (G36.room 35)) fun x99 _ =>
 bS (gV x99 true v0 (G36.room 35)) fun x100 _ =>
 bS (gP x99 true (aR x100) (G36.room 35)) fun x101 _ =>
 bS (gP x99 true (fa Q q 49 9 21 x101) (G36.room 35)) fun x102 _ =>
 bS (gP x99 true (ld Q q 22 x102 (G36.room 35)) (G36.room 35)) fun x103 _ =>
 bS (gV x99 true x76 (G36.room 35)) fun x104 _ =>
 bS (gS x99 true (e.ev.cl 11 [x103,x104] (G36.room 35)) (G36.room 35)) fun x106 G105 =>
 bS (gP x96 false (iL x99 x106 (.bool false)) G105) fun x107 _ =>
 bP (iL x96 (.bool true) x107) fun x108 =>
 bl x108 (
 some ((.bool false),G105)) (
 bP (bn Q q .lss 3 (.tmp 95) (.const (.int .i64 3)) v1 (.int .i64 3)) fun x109 =>
 bl x109 (
 bP (aR v0) fun x110 =>
 bP (fa Q q 49 9 21 x110) fun x111 =>
 bP (ld Q q 22 x111 G105) fun x112 =>
 bS (bs Q q 22 1 (rep z3 1) 1 [(0,0,1)] [x76] G105) fun x113 G114 =>
 bS (ap Q q 22 22 1 8 x112 x113 G114) fun x115 G116 =>
 bP (aR v0) fun x117 =>
 bP (fa Q q 49 9 21 x117) fun x118 =>
 bP (st Q q 22 1 x118 x115 G116) fun G119 =>
 J0 (xq q 129 (nth undef [v0,v1,v2,v3]) [(106,x118),(105,x117),(104,x115),(103,x113),(102,x76),(101,x112),(100,x111),(99,x110),(98,v0),(97,v0),(96,x109),(95,v1),(94,x108),(93,x107),(92,x106),(91,x104),(90,x103),(89,x102),(88,x101),(87,x100),(86,x99),(85,x98),(84,x97),(83,x96),(82,x96),(81,x95),(80,x94),(79,x93),(78,x92),(77,x91),(76,x90),(75,x89),(74,x88),(73,x87),(72,x86),(71,x85),(70,x85),(69,x84),(68,x83),(67,x82),(66,x81),(65,x80),(64,x79),(63,x78),(62,x77),(61,x77),(60,x76),(10,x76),(59,x76),(58,x75),(57,x74),(56,v3),(10,(.int .i64 (-1))),(53,x37),(52,v1),(51,x35),(50,v1),(49,x34),(48,x33),(47,x32),(46,v0),(45,x30),(44,x29),(43,x28),(42,x27),(41,x26),(40,x25),(39,x24),(38,v3),(37,x17),(36,x22),(35,x21),(34,x20),(33,x19),(32,x18),(31,v0),(30,x17),(9,x17),(29,x17),(28,x16),(27,x15),(26,v1),(25,x14),(24,x13),(23,x12),(22,v0),(21,x11),(20,x10),(19,x9),(18,v0),(17,x7),(16,x6),(15,x5),(14,x4),(13,x3),(12,x2),(11,v0),(8,(.bool false)),(6,x0)] []) G119) (
 J0 (xq q 129 (nth undef [v0,v1,v2,v3]) [(96,x109),(95,v1),(94,x108),(93,x107),(92,x106),(91,x104),(90,x103),(89,x102),(88,x101),(87,x100),(86,x99),(85,x98),(84,x97),(83,x96),(82,x96),(81,x95),(80,x94),(79,x93),(78,x92),(77,x91),(76,x90),(75,x89),(74,x88),(73,x87),(72,x86),(71,x85),(70,x85),(69,x84),(68,x83),(67,x82),(66,x81),(65,x80),(64,x79),(63,x78),(62,x77),(61,x77),(60,x76),(10,x76),(59,x76),(58,x75),(57,x74),(56,v3),(10,(.int .i64 (-1))),(53,x37),(52,v1),(51,x35),(50,v1),(49,x34),(48,x33),(47,x32),(46,v0),(45,x30),(44,x29),(43,x28),(42,x27),(41,x26),(40,x25),(39,x24),(38,v3),(37,x17),(36,x22),(35,x21),(34,x20),(33,x19),(32,x18),(31,v0),(30,x17),(9,x17),(29,x17),(28,x16),(27,x15),(26,v1),(25,x14),(24,x13),(23,x12),(22,v0),(21,x11),(20,x10),(19,x9),(18,v0),(17,x7),(16,x6),(15,x5),(14,x4),(13,x3),(12,x2),(11,v0),(8,(.bool false)),(6,x0)] []) G105))) (
 J0 (xq q 129 (nth undef [v0,v1,v2,v3]) [(57,x74),(56,v3),(10,(.int .i64 (-1))),(53,x37),(52,v1),(51,x35),(50,v1),(49,x34),(48,x33),(47,x32),(46,v0),(45,x30),(44,x29),(43,x28),(42,x27),(41,x26),(40,x25),(39,x24),(38,v3),(37,x17),(36,x22),(35,x21),(34,x20),(33,x19),(32,x18),(31,v0),(30,x17),(9,x17),(29,x17),(28,x16),(27,x15),(26,v1),(25,x14),(24,x13),(23,x12),(22,v0),(21,x11),(20,x10),(19,x9),(18,v0),(17,x7),(16,x6),(15,x5),(14,x4),(13,x3),(12,x2),(11,v0),(8,(.bool false)),(6,x0)] []) G36))
def s73 (q:Bool) (e:Ex) (v0 v1 v2 v3:Value) (G:GS):OG:=vA q e (mq q e) v0 v1 v2 v3 G
theorem m73 {e:Ex} {E:Ev} (h:bm Q e E) (v0 v1 v2 v3:Value) (G:GS):Ref (s73 true e v0 v1 v2 v3 G) (s73 false (Ex.of E) v0 v1 v2 v3 G):=by
 unfold s73 vA
 have j0:=@aay e E h
 exact Ref.gj
def EV (J0:Env→GS→OG):JT (Value×GS) :=
 (.n none .e (.n none .e (.n none .e (.n none .e (.n none .e (.n none .e (.n none .e (.n none .e (.n (some (fun T G=>J0 (nth undef T) G)) .e .e)))))))))
set_option maxHeartbeats 8000000 in
theorem aaz (ae:FuncId→Bool) (J0:Env→GS→OG) (T:List Value) (G:GS):mh Q (aD Q ae) Tryz.f73.ntmps (EV J0) (aL Tryz.f73) (j8 Q Tryz.f73.results.toList) [true,true,true,true,true,true,true,true] (nth undef T) G=xu false (Ex.of (E ae))  (nth undef T) G:=by kernel_rfl
set_option maxHeartbeats 8000000 in
theorem aaA (ae:FuncId→Bool):mj Q ae Tryz.f73.ntmps (EV (mq false (Ex.of (E ae))) ) (aL Tryz.f73) (j8 Q Tryz.f73.results.toList) :=
 zr Q ae (l:=[([true,true,true,true,true,true,true,true],(fun T G=>mq false (Ex.of (E ae)) (nth undef T) G))]) (by kernel_rfl) (gi.c (fun T G=>aaz ae (mq false (Ex.of (E ae))) T G) (gi.z))
set_option maxHeartbeats 8000000 in
theorem aaB (ae:FuncId→Bool) (J0:Env→GS→OG) (v0 v1 v2 v3:Value) (G:GS):jI Q (aD Q ae) Tryz.f73.ntmps (EV J0) (aL Tryz.f73) (nth undef [v0,v1,v2,v3]) G (j8 Q Tryz.f73.results.toList)=vA false (Ex.of (E ae)) J0 v0 v1 v2 v3 G:=by kernel_rfl
set_option maxHeartbeats 8000000 in
theorem f73 {ae:FuncId→Bool} {e:Ex} (h:bm Q e (E ae)) (v0 v1 v2 v3:Value) (G:GS):Ref (s73 true e v0 v1 v2 v3 G) ((E ae).cl 73 [v0,v1,v2,v3] G) :=
 fun r hr=>Jp Q ae (vs:=[v0,v1,v2,v3]) G (EV (mq false (Ex.of (E ae))) ) Tryz.func73 (by kernel_rfl) (by kernel_rfl) (by kernel_rfl) (by kernel_rfl) (by kernel_rfl) (aaA ae) (aaB ae (mq false (Ex.of (E ae))) v0 v1 v2 v3 G) (m73 h v0 v1 v2 v3 G r hr)
def s81 (q:Bool) (e:Ex) (v0 v1:Value) (G:GS):OG :=
 bP (ep Q q false 40 (.tmp 5) (.const (.pointer none)) v0 (.pointer none)) fun x0 =>
 bS (gV x0 false v0 G) fun x1 G2 =>
 bS (gP x0 false (aR x1) G2) fun x3 G4 =>
 bS (gP x0 false (fa Q q 120 0 0 x3) G4) fun x5 G6 =>
 bS (gP x0 false (ld Q q 113 x5 G6) G6) fun x7 G8 =>
 bS (gP x0 false (ep Q q false 113 (.tmp 11) (.const (.pointer none)) x7 (.pointer none)) G8) fun x9 G10 =>
 bP (iL x0 (.bool true) x9) fun x11 =>
 bS (gV x11 false v1 G10) fun x12 G13 =>
 bS (gP x11 false (bn Q q .lss 3 (.tmp 15) (.const (.int .i64 0)) x12 (.int .i64 0)) G13) fun x14 G15 =>
 bP (iL x11 (.bool true) x14) fun x16 =>
 bS (gV x16 false v1 G15) fun x17 G18 =>
 bS (gV x16 false v0 G18) fun x19 G20 =>
 bS (gP x16 false (aR x19) G20) fun x21 G22 =>
 bS (gP x16 false (fa Q q 120 1 1 x21) G22) fun x23 G24 =>
 bS (gP x16 false (ld Q q 3 x23 G24) G24) fun x25 G26 =>
 bS (gP x16 false (bn Q q .geq 3 (.tmp 19) (.tmp 23) x17 x25) G26) fun x27 G28 =>
 bP (iL x16 (.bool true) x27) fun x29 =>
 bl x29 (
 some ((.pointer none),G28)) (
 nl q 120 0 0 113 v0 G28 fun x32 =>
 bP (aR x32) fun x33 =>
 bP (xi Q q 116 4096 1 x33 v1) fun x34 =>
 some (x34,G28))
theorem f81 (h:bm Q e (E ae)) (v0 v1:Value) (G:GS):Ref (s81 true e v0 v1 G) ((E ae).cl 81 [v0,v1] G):=cS (S:=fun q e=>s81 q e v0 v1 G) Tryz.func81 (by unfold s81; exact Ref.gq)
def s83 (q:Bool) (e:Ex) (v0:Value) (G:GS):OG :=
 bS (bx q v0 G) fun x0 G1 =>
 fl q 144 1 1 51 x0 G1 fun x3 =>
 some (.tuple #[x3,(.bool true)],G1)
theorem f83 (h:bm Q e (E ae)) (v0:Value) (G:GS):Ref (s83 true e v0 G) ((E ae).cl 83 [v0] G):=cS (S:=fun q e=>s83 q e v0 G) Tryz.func83 (by unfold s83; exact Ref.gq)
def s85 (q:Bool) (e:Ex) (v0 v1:Value) (G:GS):OG :=
 bS (e.ev.cl 81 [v0,v1] G) fun x0 G1 =>
 bP (bd Q q 144 z144 [(0,0,1)] [x0]) fun x2 =>
 bS (al Q q 144 z144 G1) fun x3 G4 =>
 bP (st Q q 144 3 x3 x2 G4) fun G5 =>
 fl q 144 0 0 141 x3 G5 fun x7 =>
 bP (de Q q 144 3 x3 G5) fun x8 =>
 bS (e.ev.cl 82 [v0,(.int .i64 1),v1,x7,(.func (.func 106) #[x8] #[])] G5) fun x9 G10 =>
 bP (fd Q q 118 3 3 x9) fun x11 =>
 some (x11,G10)
theorem f85 (h:bm Q e (E ae)) (v0 v1:Value) (G:GS):Ref (s85 true e v0 v1 G) ((E ae).cl 85 [v0,v1] G):=cS (S:=fun q e=>s85 q e v0 v1 G) Tryz.func85 (by unfold s85; exact Ref.gq)
def oG (q:Bool) (e:Ex) (lp:bF) (τ:Env) (G:GS):OL :=
 bV q (τ 0) fun ax =>
 bV q (τ 1) fun bq =>
 bV q (τ 5) fun gG =>
 bV q (τ 6) fun il =>
 bP (aR ax) fun x0 =>
 bP (fa Q q 158 2 14 x0) fun x1 =>
 bP (ld Q q 3 x1 G) fun x2 =>
 bP (bn Q q .eql 3 (.tmp 56) (.const (.int .i64 1)) x2 (.int .i64 1)) fun x3 =>
 bl x3 (
 bS (e.ev.cl 85 [bq,gG] G) fun x4 G5 =>
 bP (aR ax) fun x6 =>
 bP (fa Q q 158 3 15 x6) fun x7 =>
 bP (fa Q q 155 3 3 x7) fun x8 =>
 bP (st Q q 51 1 x8 x4 G5) fun G9 =>
 bP (aR ax) fun x10 =>
 bP (fa Q q 158 3 15 x10) fun x11 =>
 bP (fa Q q 155 3 3 x11) fun x12 =>
 bP (ld Q q 51 x12 G9) fun x13 =>
 bS (e.ev.cl 39 [x13] G9) fun x14 G15 =>
 bl x14 (
 bS (e.ev.cl 90 [ax] G15) fun x16 G17 =>
 some ((.exit 0),xq q 195 τ [(76,x16),(75,ax),(74,x14),(73,x13),(72,x12),(71,x11),(70,x10),(69,ax),(68,x8),(67,x7),(66,x6),(65,x4),(64,gG),(63,bq),(62,ax),(60,x3),(61,x3),(56,x2),(55,x1),(54,x0),(53,ax)] [(0,ax),(1,bq),(5,gG),(6,il)],G17)) (
 bS (e.ev.cl 112 [ax] G15) fun x18 G19 =>
 some ((.exit 0),xq q 195 τ [(189,x18),(188,ax),(74,x14),(73,x13),(72,x12),(71,x11),(70,x10),(69,ax),(68,x8),(67,x7),(66,x6),(65,x4),(64,gG),(63,bq),(62,ax),(60,x3),(61,x3),(56,x2),(55,x1),(54,x0),(53,ax)] [(0,ax),(1,bq),(5,gG),(6,il)],G19))) (
 bP (bn Q q .eql 3 (.tmp 56) (.const (.int .i64 2)) x2 (.int .i64 2)) fun x20 =>
 bl x20 (
 bP (aR ax) fun x21 =>
 bP (fa Q q 158 3 15 x21) fun x22 =>
 bP (fa Q q 155 3 3 x22) fun x23 =>
 bP (ld Q q 51 x23 G) fun x24 =>
 bP (aR ax) fun x25 =>
 bP (fa Q q 158 6 21 x25) fun x26 =>
 bP (st Q q 51 1 x26 x24 G) fun G27 =>
 bP (aR ax) fun x28 =>
 bP (fa Q q 158 0 0 x28) fun x29 =>
 bP (de Q q 39 13 x29 (G27.room 17)) fun x30 =>
 bP (aR ax) fun x31 =>
 bP (fa Q q 158 3 15 x31) fun x32 =>
 bP (fa Q q 155 0 0 x32) fun x33 =>
 bP (ld Q q 3 x33 (G27.room 17)) fun x34 =>
 bS (e.ev.cl 41 [x30,il,x34] (G27.room 17)) fun x36 G35 =>
 bS (e.ev.cl 85 [bq,x36] G35) fun x38 G37 =>
 bP (aR ax) fun x39 =>
 bP (fa Q q 158 4 19 x39) fun x40 =>
 bP (st Q q 51 1 x40 x38 G37) fun G41 =>
 bP (aR ax) fun x42 =>
 bP (fa Q q 158 2 14 x42) fun x43 =>
 bP (st Q q 3 1 x43 (.int .i64 4) G41) fun G44 =>
 bP (aR ax) fun x45 =>
 bP (fa Q q 158 4 19 x45) fun x46 =>
 bP (ld Q q 51 x46 G44) fun x47 =>
 bS (e.ev.cl 39 [x47] G44) fun x48 G49 =>
 bl x48 (
 bP (aR ax) fun x50 =>
 bP (fa Q q 158 2 14 x50) fun x51 =>
 bP (st Q q 3 1 x51 (.int .i64 3) G49) fun G52 =>
 some ((.exit 0),xq q 195 τ [(113,x51),(112,x50),(111,ax),(110,x48),(109,x47),(108,x46),(107,x45),(106,ax),(105,x43),(104,x42),(103,ax),(102,x40),(101,x39),(100,x38),(99,x36),(98,x34),(97,x33),(96,x32),(95,x31),(94,ax),(93,il),(92,x30),(91,x29),(90,x28),(89,ax),(88,bq),(87,ax),(86,x26),(85,x25),(84,x24),(83,x23),(82,x22),(81,x21),(80,ax),(79,ax),(77,x20),(78,x20),(60,x3),(61,x3),(56,x2),(55,x1),(54,x0),(53,ax)] [(0,ax),(1,bq),(5,gG),(6,il)],G52)) (
 some ((.exit 0),xq q 195 τ [(110,x48),(109,x47),(108,x46),(107,x45),(106,ax),(105,x43),(104,x42),(103,ax),(102,x40),(101,x39),(100,x38),(99,x36),(98,x34),(97,x33),(96,x32),(95,x31),(94,ax),(93,il),(92,x30),(91,x29),(90,x28),(89,ax),(88,bq),(87,ax),(86,x26),(85,x25),(84,x24),(83,x23),(82,x22),(81,x21),(80,ax),(79,ax),(77,x20),(78,x20),(60,x3),(61,x3),(56,x2),(55,x1),(54,x0),(53,ax)] [(0,ax),(1,bq),(5,gG),(6,il)],G49))) (
 bP (bn Q q .eql 3 (.tmp 56) (.const (.int .i64 3)) x2 (.int .i64 3)) fun x53 =>
 bl x53 (
 bP (aR ax) fun x54 =>
 bP (fa Q q 158 3 15 x54) fun x55 =>
 bP (fa Q q 155 3 3 x55) fun x56 =>
 bP (ld Q q 51 x56 (G.room 14)) fun x57 =>
 bP (aR ax) fun x58 =>
 bP (fa Q q 158 4 19 x58) fun x59 =>
 bP (ld Q q 51 x59 (G.room 14)) fun x60 =>
 bS (e.ev.cl 89 [x60,(.bool false)] (G.room 14)) fun x62 G61 =>
 eV ((bp (ld Q q 51 x56 G61) x57&&true)) <|
 bS (e.ev.cl 53 [bq,gG,x57,x62] G61) fun x64 G63 =>
 bP (un Q q .not x64) fun x65 =>
 bl x65 (
 bS (e.ev.cl 90 [ax] G63) fun x66 G67 =>
 some ((.exit 0),xq q 195 τ [(131,x66),(130,ax),(129,x65),(128,x64),(127,x62),(126,x60),(125,x59),(124,x58),(123,ax),(122,x57),(121,x56),(120,x55),(119,x54),(118,ax),(117,gG),(116,bq),(114,x53),(115,x53),(77,x20),(78,x20),(60,x3),(61,x3),(56,x2),(55,x1),(54,x0),(53,ax)] [(0,ax),(1,bq),(5,gG),(6,il)],G67)) (
 bP (aR ax) fun x68 =>
 bP (fa Q q 158 4 19 x68) fun x69 =>
 bP (ld Q q 51 x69 G63) fun x70 =>
 bS (e.ev.cl 89 [x70,(.bool false)] G63) fun x71 G72 =>
 bP (aR ax) fun x73 =>
 bP (fa Q q 158 3 15 x73) fun x74 =>
 bP (fa Q q 155 3 3 x74) fun x75 =>
 bP (st Q q 51 1 x75 x71 G72) fun G76 =>
 bS (e.ev.cl 112 [ax] G76) fun x77 G78 =>
 some ((.exit 0),xq q 195 τ [(189,x77),(188,ax),(140,x75),(139,x74),(138,x73),(137,x71),(136,x70),(135,x69),(134,x68),(133,ax),(132,ax),(129,x65),(128,x64),(127,x62),(126,x60),(125,x59),(124,x58),(123,ax),(122,x57),(121,x56),(120,x55),(119,x54),(118,ax),(117,gG),(116,bq),(114,x53),(115,x53),(77,x20),(78,x20),(60,x3),(61,x3),(56,x2),(55,x1),(54,x0),(53,ax)] [(0,ax),(1,bq),(5,gG),(6,il)],G78))) (
 bP (bn Q q .eql 3 (.tmp 56) (.const (.int .i64 4)) x2 (.int .i64 4)) fun x79 =>
 bl x79 (
 bP (aR ax) fun x80 =>
 bP (fa Q q 158 3 15 x80) fun x81 =>
 bP (fa Q q 155 3 3 x81) fun x82 =>
 bP (ld Q q 51 x82 G) fun x83 =>
 bP (aR ax) fun x84 =>
 bP (fa Q q 158 6 21 x84) fun x85 =>
 bP (st Q q 51 1 x85 x83 G) fun G86 =>
 bP (aR ax) fun x87 =>
 bP (fa Q q 158 0 0 x87) fun x88 =>
 bP (de Q q 39 13 x88 (G86.room 13)) fun x89 =>
 bS (e.ev.cl 42 [x89,il,(.int .i64 0)] (G86.room 13)) fun x91 G90 =>
 bS (e.ev.cl 85 [bq,x91] G90) fun x93 G92 =>
 bP (aR ax) fun x94 =>
 bP (fa Q q 158 1 13 x94) fun x95 =>
 bP (ld Q q 51 x95 G92) fun x96 =>
 eV ((bp (ld Q q 51 x95 G90) x96&&(bp (ld Q q 51 x95 (G86.room 13)) x96&&true))) <|
 bP (bn Q q .geq 51 (.tmp 158) (.tmp 162) x93 x96) fun x97 =>
 bl x97 (
 bS (e.ev.cl 111 [ax] G92) fun x98 G99 =>
 some ((.exit 0),xq q 195 τ [(165,x98),(164,ax),(163,x97),(162,x96),(161,x95),(160,x94),(159,ax),(158,x93),(157,x91),(156,il),(155,x89),(154,x88),(153,x87),(152,ax),(151,bq),(150,x85),(149,x84),(148,x83),(147,x82),(146,x81),(145,x80),(144,ax),(143,ax),(141,x79),(142,x79),(114,x53),(115,x53),(77,x20),(78,x20),(60,x3),(61,x3),(56,x2),(55,x1),(54,x0),(53,ax)] [(0,ax),(1,bq),(5,gG),(6,il)],G99)) (
 bP (aR ax) fun x100 =>
 bP (fa Q q 158 3 15 x100) fun x101 =>
 bP (fa Q q 155 3 3 x101) fun x102 =>
 bP (ld Q q 51 x102 (G92.room 25)) fun x103 =>
 bP (aR ax) fun x104 =>
 bP (fa Q q 158 4 19 x104) fun x105 =>
 bP (ld Q q 51 x105 (G92.room 25)) fun x106 =>
 bP (aR ax) fun x107 =>
 bP (fa Q q 158 3 15 x107) fun x108 =>
 bP (fa Q q 155 1 1 x108) fun x109 =>
 bP (st Q q 3 1 x109 il (G92.room 25)) fun G110 =>
 bP (aR ax) fun x111 =>
 bP (fa Q q 158 3 15 x111) fun x112 =>
 bP (fa Q q 155 2 2 x112) fun x113 =>
 bP (st Q q 51 1 x113 x103 G110) fun G114 =>
 bP (aR ax) fun x115 =>
 bP (fa Q q 158 3 15 x115) fun x116 =>
 bP (fa Q q 155 3 3 x116) fun x117 =>
 bP (st Q q 51 1 x117 x106 G114) fun G118 =>
 bS (e.ev.cl 112 [ax] G118) fun x119 G120 =>
 some ((.exit 0),xq q 195 τ [(189,x119),(188,ax),(187,x117),(186,x116),(185,x115),(184,x113),(183,x112),(182,x111),(181,x109),(180,x108),(179,x107),(178,x106),(177,x105),(176,x104),(175,ax),(174,x103),(173,x102),(172,x101),(171,x100),(170,ax),(169,il),(168,ax),(167,ax),(166,ax),(163,x97),(162,x96),(161,x95),(160,x94),(159,ax),(158,x93),(157,x91),(156,il),(155,x89),(154,x88),(153,x87),(152,ax),(151,bq),(150,x85),(149,x84),(148,x83),(147,x82),(146,x81),(145,x80),(144,ax),(143,ax),(141,x79),(142,x79),(114,x53),(115,x53),(77,x20),(78,x20),(60,x3),(61,x3),(56,x2),(55,x1),(54,x0),(53,ax)] [(0,ax),(1,bq),(5,gG),(6,il)],G120))) (
 bP (aR ax) fun x121 =>
 bP (fa Q q 158 2 14 x121) fun x122 =>
 bP (st Q q 3 1 x122 (.int .i64 1) G) fun G123 =>
 lp (xq q 195 τ [(59,x122),(58,x121),(57,ax),(141,x79),(142,x79),(114,x53),(115,x53),(77,x20),(78,x20),(60,x3),(61,x3),(56,x2),(55,x1),(54,x0),(53,ax)] [(0,ax),(1,bq),(5,gG),(6,il)]) G123))))
theorem aaC {e:Ex} {E:Ev} (h:bm Q e E) {lp bO:bF} (bw:g0 lp bO) (τ:Env) (G:GS):Ref (oG true e lp τ G) (oG false (Ex.of E) bO τ G):=by
 unfold oG
 exact Ref.gq
set_option maxHeartbeats 8000000 in
theorem Ry {ae:FuncId→Bool} {e:Ex} (h:bm Q e (E ae)) (lp:bF) (bw:∀ τ G,Ref (lp τ G) (bc ((E ae).lp (aU [1,0,1,1,1,1,1,0,0,0] (aL Tryz.f91)) (aG 195 τ) G))) (T:List Value) (G:GS) (hT:T.length=195):Ref (oG true e lp (nth undef T) G) (bc ((E ae).lp (aU [1,0,1,1,1,1,1,0,0,0] (aL Tryz.f91)) T G)) :=
 fun r hr=>EH Q ae G hT (by kernel_rfl) (aaC h ⟨bw⟩ _ _ r hr)
def s91 (q:Bool) (e:Ex) (v0 v1:Value) (G:GS):OG :=
 bP (ep Q q false 93 (.tmp 7) (.const (.pointer none)) v0 (.pointer none)) fun x0 =>
 bS (gV x0 false v0 G) fun x1 G2 =>
 bS (gP x0 false (aR x1) G2) fun x3 G4 =>
 bS (gP x0 false (fa Q q 158 7 22 x3) G4) fun x5 G6 =>
 bS (gP x0 false (ld Q q 4 x5 G6) G6) fun x7 G8 =>
 bS (gP x0 false (un Q q .not x7) G8) fun x9 G10 =>
 bP (iL x0 (.bool true) x9) fun x11 =>
 bS (gV x11 false v0 G10) fun x12 G13 =>
 bS (gP x11 false (aR x12) G13) fun x14 G15 =>
 bS (gP x11 false (fa Q q 158 2 14 x14) G15) fun x16 G17 =>
 bS (gP x11 false (ld Q q 3 x16 G17) G17) fun x18 G19 =>
 bS (gP x11 false (bn Q q .eql 3 (.tmp 20) (.const (.int .i64 9)) x18 (.int .i64 9)) G19) fun x20 G21 =>
 bP (iL x11 (.bool true) x20) fun x22 =>
 bl x22 (
 some ((.bool true),G21)) (
 bP (aR v0) fun x23 =>
 bP (fa Q q 158 0 0 x23) fun x24 =>
 bP (de Q q 39 13 x24 (G21.room 16)) fun x25 =>
 bP (aR v0) fun x26 =>
 bP (fa Q q 158 3 15 x26) fun x27 =>
 bP (fa Q q 155 1 1 x27) fun x28 =>
 bP (ld Q q 3 x28 (G21.room 16)) fun x29 =>
 bP (aR v0) fun x30 =>
 bP (fa Q q 158 3 15 x30) fun x31 =>
 bP (fa Q q 155 0 0 x31) fun x32 =>
 bP (ld Q q 3 x32 (G21.room 16)) fun x33 =>
 bS (e.ev.cl 41 [x25,x29,x33] (G21.room 16)) fun x35 G34 =>
 bP (aR v0) fun x36 =>
 bP (fa Q q 158 3 15 x36) fun x37 =>
 bP (fa Q q 155 3 3 x37) fun x38 =>
 bP (ld Q q 51 x38 G34) fun x39 =>
 bS (e.ev.cl 110 [v0,x39] G34) fun x40 G41 =>
 bP (aR v0) fun x42 =>
 bP (fa Q q 158 3 15 x42) fun x43 =>
 bP (fa Q q 155 2 2 x43) fun x44 =>
 bP (ld Q q 51 x44 G41) fun x45 =>
 bP (aR v0) fun x46 =>
 bP (fa Q q 158 6 21 x46) fun x47 =>
 bP (st Q q 51 1 x47 x45 G41) fun G48 =>
 ml q e 91 0 (aU [1,0,1,1,1,1,1,0,0,0] (aL Tryz.f91)) 195 (nth undef [v0,v1]) [(52,x47),(51,x46),(50,x45),(49,x44),(48,x43),(47,x42),(46,v0),(45,v0),(6,x40),(44,x40),(43,x39),(42,x38),(41,x37),(40,x36),(39,v0),(38,v0),(5,x35),(37,x35),(36,x33),(35,x32),(34,x31),(33,x30),(32,v0),(31,x29),(30,x28),(29,x27),(28,x26),(27,v0),(26,x25),(25,x24),(24,x23),(23,v0),(22,x22),(21,x20),(20,x18),(19,x16),(18,x14),(17,x12),(16,x11),(15,x11),(14,x9),(13,x7),(12,x5),(11,x3),(10,x1),(9,x0),(8,x0),(7,v0),(4,(.bool false))] [] G48 fun e49 t50 G51 =>
 bV q (t50 0) fun aaD =>
 dP e49 (.exit 0) (
 nl q 158 2 14 3 aaD G51 fun x54 =>
 bP (bn Q q .eql 3 (.tmp 193) (.const (.int .i64 9)) x54 (.int .i64 9)) fun x55 =>
 some (x55,G51)) (none))
theorem m91 {e:Ex} {E:Ev} (h:bm Q e E) (v0 v1:Value) (G:GS):Ref (s91 true e v0 v1 G) (s91 false (Ex.of E) v0 v1 G):=by
 unfold s91
 exact Ref.gq
set_option maxHeartbeats 8000000 in
theorem f91 {ae:FuncId→Bool} {e:Ex} (h:bm Q e (E ae)) (v0 v1:Value) (G:GS):Ref (s91 true e v0 v1 G) ((E ae).cl 91 [v0,v1] G) :=
 fun r hr=>zd Q ae (vs:=[v0,v1]) G Tryz.func91 (by kernel_rfl) (by kernel_rfl) (by kernel_rfl) (by kernel_rfl) (by kernel_rfl) (by kernel_rfl) (m91 h v0 v1 G r hr)
def s97 (q:Bool) (e:Ex) (v0 v1:Value) (G:GS):OG :=
 bS (bx q v0 G) fun x0 G1 =>
 bS (bx q v1 G1) fun x2 G3 =>
 bP (de Q q 35 3 x0 G3) fun x4 =>
 bS (e.ev.cl 118 [x4] G3) fun x5 G6 =>
 bP (un Q q .not x5) fun x7 =>
 bl x7 (
 some (.tuple #[],G6)) (
 bP (ld Q q 40 x2 G6) fun x8 =>
 bP (fa Q q 35 0 0 x0) fun x9 =>
 bP (ld Q q 3 x9 G6) fun x10 =>
 bS (e.ev.cl 44 [x8,x10,(.int .u64 0)] G6) fun x11 G12 =>
 bP (de Q q 35 3 x0 G12) fun x13 =>
 bS (e.ev.cl 119 [x13] G12) fun x14 G15 =>
 bX (gE e.ev x14 #[15,16] (aU [1,1,1,1,0,0] (aL Tryz.f97)) (aU [1,1,1,1,0,1] (aL Tryz.f97)) (sd q 20 (nth undef [v0,v1]) [(14,x14),(13,x13),(12,x11),(11,x10),(10,x9),(9,x8),(8,x7),(7,x5),(6,x4),(3,x2),(2,x0)]) G15) fun e16 T17 G18 =>
 dP e16 .normal (
 some (.tuple #[],G18)) (none))
theorem f97 (h:bm Q e (E ae)) (v0 v1:Value) (G:GS):Ref (s97 true e v0 v1 G) ((E ae).cl 97 [v0,v1] G):=cS (S:=fun q e=>s97 q e v0 v1 G) Tryz.func97 (by unfold s97; exact Ref.gq)
def Cc (q:Bool) (e:Ex) (l:Nat) (τ:Env) (u0 u1:Value) (G:GS):OG :=
 bV q (τ 3) fun zE =>
 bP (G.loop l) fun r0=>if r0.st= .ready then
 bP (ld Q q 40 zE (G.bR l (Lp.gf r0 .busy))) fun x1 =>
 bS (e.ev.cl 44 [x1,u1,(.int .u64 0)] (G.bR l (Lp.gf r0 .busy))) fun x2 G3 =>
 me l .normal G3
 else none
theorem aaE {e:Ex} {E:Ev} (h:bm Q e E) (l:Nat) (τ:Env) (u0 u1:Value) (G:GS):Ref (Cc true e l τ u0 u1 G) (Cc false (Ex.of E) l τ u0 u1 G):=by
 unfold Cc
 repeat' (with_reducible first | exact Ref.rfl' _ | exact dV.r | refine Ref.bP ?_ fun _=>?_ | refine Ref.bS ?_ fun _ _=>?_ | exact Ref.cl (by assumption) | refine Ref.bl ?_ ?_ | refine g0.rx (by assumption) ?_ | refine Ref.BZ ?_ | exact eO.z | refine eO.c (by assumption) ?_ | exact Ref.nil _ | refine Ref.BX fun _ _=>?_ | refine Ref.ml (by assumption) ?_ fun _ _ _=>?_ | refine Ref.dP ?_ ?_ | refine Ref.eV ?_ ?_ | refine eA.and ?_ ?_ | refine eA.or ?_ | exact eA.rfl' _ | refine eA.bp ?_ | refine Ref.gd ?_ | exact Ref.fJ (by assumption) | refine Ref.bX ?_ fun _ _ _=>?_ | exact Ref.B3 (by assumption) | exact Ref.B0 (by assumption) | exact Ref.jF (by assumption) | refine Ref.IV ?_)
theorem aaF {ae:FuncId→Bool} {e:Ex} (h:bm Q e (E ae)) (l:Nat) (T:List Value) (u0 u1:Value) (G:GS) {st:LoopState} {aC:Option Code} (hl:G.loop l=some ⟨st,aC,T,[15,16],(aU [1,1,1,1,0,0] (aL Tryz.f97)),(aU [1,1,1,1,0,1] (aL Tryz.f97))⟩) (hT:T.length=20):Ref (Cc true e l (nth undef T) u0 u1 G) ((E ae).rd l [u0,u1] G) :=
 fun r hr=>IH Q ae hl (by kernel_rfl) hT (by kernel_rfl) (aaE h l _ u0 u1 G r hr)
def s105 (q:Bool) (e:Ex) (v0:Value) (G:GS):OG :=
 bP (ep Q q true 141 (.tmp 3) (.const (.pointer none)) v0 (.pointer none)) fun x0 =>
 some (x0,G)
theorem f105 (h:bm Q e (E ae)) (v0:Value) (G:GS):Ref (s105 true e v0 G) ((E ae).cl 105 [v0] G):=cS (S:=fun q e=>s105 q e v0 G) Tryz.func105 (by unfold s105; exact Ref.gq)
def s106 (q:Bool) (e:Ex) (v0:Value) (G:GS):OG :=
 bS (bx q v0 G) fun x0 G1 =>
 fl q 144 0 0 141 x0 G1 fun x3 =>
 bP (aR x3) fun x4 =>
 bP (ld Q q 114 x4 G1) fun x5 =>
 some (.tuple #[x5,(.bool false)],G1)
theorem f106 (h:bm Q e (E ae)) (v0:Value) (G:GS):Ref (s106 true e v0 G) ((E ae).cl 106 [v0] G):=cS (S:=fun q e=>s106 q e v0 G) Tryz.func106 (by unfold s106; exact Ref.gq)
def s109 (q:Bool) (e:Ex) (v0 v1:Value) (G:GS):OG :=
 bS (bx q v0 G) fun x0 G1 =>
 bS (bx q v1 G1) fun x2 G3 =>
 bP (ld Q q 93 x0 (G3.room 10)) fun x4 =>
 bP (aR x4) fun x5 =>
 bP (fa Q q 158 0 0 x5) fun x6 =>
 bP (fa Q q 39 2 2 x6) fun x7 =>
 bP (ld Q q 3 x7 (G3.room 10)) fun x8 =>
 bP (ld Q q 93 x0 (G3.room 10)) fun x9 =>
 bP (aR x9) fun x10 =>
 bP (fa Q q 158 5 20 x10) fun x11 =>
 bP (ld Q q 156 x11 (G3.room 10)) fun x12 =>
 bS (e.ev.cl 136 [x8,x12] (G3.room 10)) fun x14 G13 =>
 bX (gE e.ev x14 #[16,17] (aU [1,0,1,0,0] (aL Tryz.f109)) (aU [1,0,1,0,1] (aL Tryz.f109)) (sd q 31 (nth undef [v0,v1]) [(15,x14),(14,x12),(13,x11),(12,x10),(11,x9),(10,x8),(9,x7),(8,x6),(7,x5),(6,x4),(3,x2),(2,x0)]) G13) fun e15 T16 G17 =>
 bV q (nth undef T16 2) fun aaG =>
 dP e15 .normal (
 bP (ld Q q 93 aaG G17) fun x18 =>
 nf q 158 2 14 x18 fun x20 =>
 bP (st Q q 3 1 x20 (.int .i64 9) G17) fun G21 =>
 some (.tuple #[],G21)) (dP e15 .ret (
 some (.tuple #[],G17)) (none))
theorem f109 (h:bm Q e (E ae)) (v0 v1:Value) (G:GS):Ref (s109 true e v0 v1 G) ((E ae).cl 109 [v0,v1] G):=cS (S:=fun q e=>s109 q e v0 v1 G) Tryz.func109 (by unfold s109; exact Ref.gq)
def zF (q:Bool) (e:Ex) (l:Nat) (τ:Env) (u0 u1:Value) (G:GS):OG :=
 bV q (τ 2) fun ic =>
 bV q (τ 3) fun zE =>
 bS (al Q q 155 z155 G) fun x0 G1 =>
 bP (st Q q 155 4 x0 u1 G1) fun G2 =>
 bP (G2.loop l) fun r3=>if r3.st= .ready then
 bP (ld Q q 3 zE (G2.bR l (Lp.gf r3 .busy))) fun x4 =>
 bP (bn Q q .eql 3 (.tmp 18) (.tmp 19) u0 x4) fun x5 =>
 bl x5 (
 bP (ld Q q 93 ic ((G2.bR l (Lp.gf r3 .busy)).room 9)) fun x6 =>
 bP (ld Q q 93 ic ((G2.bR l (Lp.gf r3 .busy)).room 9)) fun x7 =>
 bP (de Q q 155 4 x0 ((G2.bR l (Lp.gf r3 .busy)).room 9)) fun x8 =>
 nf q 158 3 15 x6 fun x10 =>
 bP (st Q q 155 4 x10 x8 ((G2.bR l (Lp.gf r3 .busy)).room 9)) fun G11 =>
 eV ((bp (ld Q q 93 ic G11) x7&&true)) <|
 nf q 158 2 14 x7 fun x13 =>
 bP (st Q q 3 1 x13 (.int .i64 1) G11) fun G14 =>
 me l .ret G14) (
 me l .normal (G2.bR l (Lp.gf r3 .busy)))
 else none
theorem aaH {e:Ex} {E:Ev} (h:bm Q e E) (l:Nat) (τ:Env) (u0 u1:Value) (G:GS):Ref (zF true e l τ u0 u1 G) (zF false (Ex.of E) l τ u0 u1 G):=by
 unfold zF
 repeat' (with_reducible first | exact Ref.rfl' _ | exact dV.r | refine Ref.bP ?_ fun _=>?_ | refine Ref.bS ?_ fun _ _=>?_ | exact Ref.cl (by assumption) | refine Ref.bl ?_ ?_ | refine g0.rx (by assumption) ?_ | refine Ref.BZ ?_ | exact eO.z | refine eO.c (by assumption) ?_ | exact Ref.nil _ | refine Ref.BX fun _ _=>?_ | refine Ref.ml (by assumption) ?_ fun _ _ _=>?_ | refine Ref.dP ?_ ?_ | refine Ref.eV ?_ ?_ | refine eA.and ?_ ?_ | refine eA.or ?_ | exact eA.rfl' _ | refine eA.bp ?_ | refine Ref.gd ?_ | exact Ref.fJ (by assumption) | refine Ref.bX ?_ fun _ _ _=>?_ | exact Ref.B3 (by assumption) | exact Ref.B0 (by assumption) | exact Ref.jF (by assumption) | refine Ref.IV ?_)
theorem Rz {ae:FuncId→Bool} {e:Ex} (h:bm Q e (E ae)) (l:Nat) (T:List Value) (u0 u1:Value) (G:GS) {st:LoopState} {aC:Option Code} (hl:G.loop l=some ⟨st,aC,T,[16,17],(aU [1,0,1,0,0] (aL Tryz.f109)),(aU [1,0,1,0,1] (aL Tryz.f109))⟩) (hT:T.length=31):Ref (zF true e l (nth undef T) u0 u1 G) ((E ae).rd l [u0,u1] G) :=
 fun r hr=>IH Q ae hl (by kernel_rfl) hT (by kernel_rfl) (aaH h l _ u0 u1 G r hr)
def Cd (q:Bool) (e:Ex) (lp:bF) (τ:Env) (G:GS):OL :=
 bV q (τ 1) fun bq =>
 bV q (τ 2) fun ic =>
 bV q (τ 4) fun xp =>
 bV q (τ 5) fun gG =>
 bV q (τ 15) fun oD =>
 bV q (τ 16) fun jL =>
 bP (fa Q q 31 1 1 ic) fun x2 =>
 bP (ld Q q 3 x2 (G.room 8)) fun x3 =>
 bP (bn Q q .add 3 (.tmp 27) (.tmp 28) x3 xp) fun x4 =>
 bS (e.ev.cl 140 [gG] (G.room 8)) fun x6 G5 =>
 eV ((bp (ld Q q 3 x2 G5) x3&&true)) <|
 bS (e.ev.cl 44 [bq,x4,x6] G5) fun x8 G7 =>
 bP (bn Q q .add 3 (.tmp 16) (.const (.int .i64 1)) jL (.int .i64 1)) fun x9 =>
 lp (xq q 34 τ [(16,x9),(33,x9),(32,x8),(31,x6),(30,gG),(29,x4),(28,xp),(27,x3),(26,x2),(25,bq)] [(1,bq),(2,ic),(4,xp),(5,gG),(15,oD)]) G7
def oH (q:Bool) (e:Ex) (lp:bF) (τ:Env) (G:GS):OL:=Cd q e lp τ G
theorem aaI {e:Ex} {E:Ev} (h:bm Q e E) {lp bO:bF} (bw:g0 lp bO) (τ:Env) (G:GS):Ref (oH true e lp τ G) (oH false (Ex.of E) bO τ G):=by
 unfold oH Cd
 exact Ref.gq
theorem aaJ {e:Ex} {E:Ev} (h:bm Q e E) {lp bO:bF} (bw:g0 lp bO) {τ:Env} {l U:List (Nat×Value)} {G:GS} (hU:eO τ U):Ref (oH true e lp (xq true 34 τ l U) G) (oH false (Ex.of E) bO (xq false 34 τ l U) G):=by
 rw [se hU]
 exact aaI h bw _ _
def zG (q:Bool) (e:Ex) (lp:bF) (J0:bF) (τ:Env) (G:GS):OL :=
 bV q (τ 1) fun bq =>
 bV q (τ 2) fun ic =>
 bV q (τ 4) fun xp =>
 bV q (τ 5) fun gG =>
 bV q (τ 15) fun oD =>
 bV q (τ 16) fun jL =>
 bP (bn Q q .lss 3 (.tmp 16) (.tmp 15) jL oD) fun x0 =>
 bl x0 (
 bP (bn Q q .add 3 (.tmp 19) (.const (.int .i64 1)) jL (.int .i64 1)) fun x1 =>
 bP (fa Q q 31 2 2 ic) fun x10 =>
 bP (ld Q q 3 x10 G) fun x11 =>
 bP (bn Q q .eql 3 (.tmp 21) (.tmp 23) x1 x11) fun x12 =>
 bl x12 (
 J0 (xq q 34 τ [(5,(.int .i64 (-1))),(24,x12),(23,x11),(22,x10),(21,x1),(5,x1),(20,x1),(19,jL),(4,jL),(18,jL),(17,x0)] [(1,bq),(2,ic),(15,oD),(16,jL)]) G) (
 J0 (xq q 34 τ [(24,x12),(23,x11),(22,x10),(21,x1),(5,x1),(20,x1),(19,jL),(4,jL),(18,jL),(17,x0)] [(1,bq),(2,ic),(15,oD),(16,jL)]) G)) (
 some ((.exit 0),xq q 34 τ [(17,x0)] [(1,bq),(2,ic),(4,xp),(5,gG),(15,oD),(16,jL)],G))
def xw (q:Bool) (e:Ex) (lp:bF) (τ:Env) (G:GS):OL:=zG q e lp (oH q e lp) τ G
theorem aaK {e:Ex} {E:Ev} (h:bm Q e E) {lp bO:bF} (bw:g0 lp bO) (τ:Env) (G:GS):Ref (xw true e lp τ G) (xw false (Ex.of E) bO τ G):=by
 unfold xw zG
 have j0:=@aaJ e E h lp bO bw
 exact Ref.gj
def EW (J0:bF):JT (Exit×Env×GS) :=
 (.n none .e (.n none .e (.n none (.n none (.n none .e (.n none .e (.n (some (fun T G=>J0 (nth undef T) G)) .e .e))) .e) .e)))
theorem aaL (ae:FuncId→Bool) (J0:bF) (T:List Value) (G:GS):mh Q (aD Q ae) 34 (EW J0) (aU [1,1,1,1,0,0] (aL Tryz.f117)) (fU (fun τ G'=>bc ((E ae).lp (aU [1,1,1,1,0,0] (aL Tryz.f117)) (aG 34 (nth undef (aG 34 τ))) G')) fun e τ G'=>some (e,nth undef (aG 34 τ),G')) [true,true,false,false,true,true] (nth undef T) G=Cd false (Ex.of (E ae)) (fun τ G=>bc ((E ae).lp (aU [1,1,1,1,0,0] (aL Tryz.f117)) (aG 34 τ) G))  (nth undef T) G:=by kernel_rfl
theorem aaM (ae:FuncId→Bool):mj Q ae 34 (EW (oH false (Ex.of (E ae)) (fun τ G=>bc ((E ae).lp (aU [1,1,1,1,0,0] (aL Tryz.f117)) (aG 34 τ) G))) ) (aU [1,1,1,1,0,0] (aL Tryz.f117)) (fU (fun τ G'=>bc ((E ae).lp (aU [1,1,1,1,0,0] (aL Tryz.f117)) (aG 34 (nth undef (aG 34 τ))) G')) fun e τ G'=>some (e,nth undef (aG 34 τ),G')) :=
 zr Q ae (l:=[([true,true,false,false,true,true],(fun T G=>oH false (Ex.of (E ae)) (fun τ G=>bc ((E ae).lp (aU [1,1,1,1,0,0] (aL Tryz.f117)) (aG 34 τ) G)) (nth undef T) G))]) (by kernel_rfl) (gi.c (fun T G=>aaL ae (oH false (Ex.of (E ae)) (fun τ G=>bc ((E ae).lp (aU [1,1,1,1,0,0] (aL Tryz.f117)) (aG 34 τ) G))) T G) (gi.z))
theorem aaN (ae:FuncId→Bool) (J0:bF) (T:List Value) (G:GS):jI Q (aD Q ae) 34 (EW J0) (aU [1,1,1,1,0,0] (aL Tryz.f117)) (nth undef T) G (fU (fun τ G'=>bc ((E ae).lp (aU [1,1,1,1,0,0] (aL Tryz.f117)) (aG 34 (nth undef (aG 34 τ))) G')) fun e τ G'=>some (e,nth undef (aG 34 τ),G'))=zG false (Ex.of (E ae)) (fun τ G=>bc ((E ae).lp (aU [1,1,1,1,0,0] (aL Tryz.f117)) (aG 34 τ) G)) J0 (nth undef T) G:=by kernel_rfl
theorem RA {ae:FuncId→Bool} {e:Ex} (h:bm Q e (E ae)) (lp:bF) (bw:∀ τ G,Ref (lp τ G) (bc ((E ae).lp (aU [1,1,1,1,0,0] (aL Tryz.f117)) (aG 34 τ) G))) (T:List Value) (G:GS) (hT:T.length=34):Ref (xw true e lp (nth undef T) G) (bc ((E ae).lp (aU [1,1,1,1,0,0] (aL Tryz.f117)) T G)) :=
 fun r hr=>Jq Q ae G (EW (oH false (Ex.of (E ae)) (fun τ G=>bc ((E ae).lp (aU [1,1,1,1,0,0] (aL Tryz.f117)) (aG 34 τ) G))) ) hT (aaM ae) (aaN ae (oH false (Ex.of (E ae)) (fun τ G=>bc ((E ae).lp (aU [1,1,1,1,0,0] (aL Tryz.f117)) (aG 34 τ) G))) T G) (aaK h ⟨bw⟩ _ _ r hr)
def s117 (q:Bool) (e:Ex) (v0 v1:Value) (G:GS):OG :=
 bS (bx q v0 G) fun x0 G1 =>
 bP (de Q q 31 3 x0 G1) fun x2 =>
 bS (e.ev.cl 139 [x2] G1) fun x3 G4 =>
 bP (un Q q .not x3) fun x5 =>
 bl x5 (
 some (.tuple #[],G4)) (
 bP (fa Q q 31 0 0 x0) fun x6 =>
 bP (ld Q q 3 x6 (G4.room 5)) fun x7 =>
 bS (e.ev.cl 140 [(.int .i64 0)] (G4.room 5)) fun x9 G8 =>
 eV ((bp (ld Q q 3 x6 G8) x7&&true)) <|
 bS (e.ev.cl 44 [v1,x7,x9] G8) fun x11 G10 =>
 bP (fa Q q 31 2 2 x0) fun x12 =>
 bP (ld Q q 3 x12 G10) fun x13 =>
 ml q e 117 0 (aU [1,1,1,1,0,0] (aL Tryz.f117)) 34 (nth undef [v0,v1]) [(16,(.int .i64 0)),(15,x13),(14,x12),(13,x11),(12,x9),(11,x7),(10,x6),(9,v1),(8,x5),(7,x3),(6,x2),(2,x0)] [] G10 fun e14 t15 G16 =>
 dP e14 (.exit 0) (
 some (.tuple #[],G16)) (none))
theorem f117 (h:bm Q e (E ae)) (v0 v1:Value) (G:GS):Ref (s117 true e v0 v1 G) ((E ae).cl 117 [v0,v1] G):=cS (S:=fun q e=>s117 q e v0 v1 G) Tryz.func117 (by unfold s117; exact Ref.gq)
def zH (q:Bool) (e:Ex) (lp:bF) (τ:Env) (G:GS):OL :=
 bV q (τ 0) fun ax =>
 bV q (τ 1) fun bq =>
 bV q (τ 16) fun jL =>
 bV q (τ 17) fun eQ =>
 bP (bn Q q .lss 3 (.tmp 17) (.tmp 16) eQ jL) fun x0 =>
 bl x0 (
 bP (aR ax) fun x1 =>
 bP (fa Q q 179 8 20 x1) fun x2 =>
 bP (ld Q q 3 x2 G) fun x3 =>
 bP (bn Q q .neq 3 (.tmp 20) (.tmp 24) eQ x3) fun x4 =>
 bl x4 (
 bP (bn Q q .add 3 (.tmp 17) (.const (.int .i64 1)) eQ (.int .i64 1)) fun x5 =>
 lp (xq q 66 τ [(17,x5),(46,x5),(25,x4),(24,x3),(23,x2),(22,x1),(21,ax),(20,eQ),(5,eQ),(19,eQ),(18,x0)] [(0,ax),(1,bq),(16,jL)]) G) (
 bP (aR ax) fun x6 =>
 bP (fa Q q 179 0 0 x6) fun x7 =>
 bP (de Q q 39 13 x7 (G.room 20)) fun x8 =>
 bP (aR ax) fun x9 =>
 bP (fa Q q 179 5 17 x9) fun x10 =>
 bP (ld Q q 3 x10 (G.room 20)) fun x11 =>
 bS (e.ev.cl 41 [x8,x11,eQ] (G.room 20)) fun x13 G12 =>
 bP (aR ax) fun x14 =>
 bP (fa Q q 179 10 22 x14) fun x15 =>
 bP (ld Q q 93 x15 G12) fun x16 =>
 eV ((bp (ld Q q 93 x15 (G.room 20)) x16&&true)) <|
 bS (e.ev.cl 145 [x16] G12) fun x18 G17 =>
 bP (fW Q q 41 1 x18 eQ) fun x19 =>
 bP (ld Q q 51 x19 G17) fun x20 =>
 bS (e.ev.cl 44 [bq,x13,x20] G17) fun x22 G21 =>
 bP (bn Q q .add 3 (.tmp 17) (.const (.int .i64 1)) eQ (.int .i64 1)) fun x23 =>
 lp (xq q 66 τ [(17,x23),(46,x23),(45,x22),(44,x20),(43,x19),(42,eQ),(41,x18),(40,x16),(39,x15),(38,x14),(37,ax),(36,x13),(35,eQ),(34,x11),(33,x10),(32,x9),(31,ax),(30,x8),(29,x7),(28,x6),(27,ax),(26,bq),(25,x4),(24,x3),(23,x2),(22,x1),(21,ax),(20,eQ),(5,eQ),(19,eQ),(18,x0)] [(0,ax),(1,bq),(16,jL)]) G21)) (
 some ((.exit 0),xq q 66 τ [(18,x0)] [(0,ax),(1,bq),(16,jL),(17,eQ)],G))
theorem EX (h:bm Q e (E ae)):LT ae 66 (aU [1,0,1,1,0,1,0,0] (aL Tryz.f125)) (zH true e):=cL fun bw τ G=>by unfold zH; exact Ref.gq
def s125 (q:Bool) (e:Ex) (v0 v1:Value) (G:GS):OG :=
 bP (aR v0) fun x0 =>
 bP (fa Q q 179 3 15 x0) fun x1 =>
 bP (ld Q q 51 x1 G) fun x2 =>
 bP (aR v0) fun x3 =>
 bP (fa Q q 179 12 24 x3) fun x4 =>
 bP (st Q q 51 1 x4 x2 G) fun G5 =>
 bP (aR v0) fun x6 =>
 bP (fa Q q 179 6 18 x6) fun x7 =>
 bP (ld Q q 3 x7 G5) fun x8 =>
 ml q e 125 0 (aU [1,0,1,1,0,1,0,0] (aL Tryz.f125)) 66 (nth undef [v0,v1]) [(17,(.int .i64 0)),(16,x8),(15,x7),(14,x6),(13,v0),(12,x4),(11,x3),(10,x2),(9,x1),(8,x0),(7,v0),(6,v0),(4,(.int .i64 0))] [] G5 fun e9 t10 G11 =>
 bV q (t10 0) fun Ce =>
 dP e9 (.exit 0) (
 nl q 179 8 20 3 Ce G11 fun x14 =>
 bP (bn Q q .add 3 (.tmp 50) (.const (.int .i64 1)) x14 (.int .i64 1)) fun x15 =>
 nf q 179 8 20 Ce fun x17 =>
 bP (st Q q 3 1 x17 x15 G11) fun G18 =>
 nl q 179 8 20 3 Ce (G18.room 9) fun x21 =>
 nl q 179 6 18 3 Ce (G18.room 9) fun x24 =>
 bP (bn Q q .lss 3 (.tmp 57) (.tmp 61) x21 x24) fun x25 =>
 bl x25 (
 some ((.int .i64 2),(G18.room 9))) (
 nf q 179 8 20 Ce fun x27 =>
 bP (st Q q 3 1 x27 (.int .i64 0) (G18.room 9)) fun G28 =>
 some ((.int .i64 3),G28))) (none)
theorem f125 (h:bm Q e (E ae)) (v0 v1:Value) (G:GS):Ref (s125 true e v0 v1 G) ((E ae).cl 125 [v0,v1] G):=cS (S:=fun q e=>s125 q e v0 v1 G) Tryz.func125 (by unfold s125; exact Ref.gq)
def s134 (q:Bool) (e:Ex) (v0 v1:Value) (G:GS):OG :=
 nl q 179 3 15 51 v0 G fun x2 =>
 nf q 179 12 24 v0 fun x4 =>
 bP (st Q q 51 1 x4 x2 G) fun G5 =>
 nf q 179 0 0 v0 fun x7 =>
 bP (de Q q 39 13 x7 (G5.room 12)) fun x8 =>
 nl q 179 5 17 3 v0 (G5.room 12) fun x11 =>
 bS (e.ev.cl 42 [x8,x11,(.int .i64 3)] (G5.room 12)) fun x13 G12 =>
 bS (e.ev.cl 93 [v1,x13,(.int .u64 18446744073709551615)] G12) fun x15 G14 =>
 bP (bn Q q .neq 51 (.tmp 22) (.const (.int .u64 0)) x15 (.int .u64 0)) fun x16 =>
 bl x16 (
 some ((.int .i64 0),G14)) (
 nf q 179 0 0 v0 fun x18 =>
 bP (fa Q q 39 3 3 x18) fun x19 =>
 bP (de Q q 37 10 x19 (G14.room 14)) fun x20 =>
 nl q 179 5 17 3 v0 (G14.room 14) fun x23 =>
 bS (e.ev.cl 94 [x20,x23] (G14.room 14)) fun x25 G24 =>
 nf q 179 11 23 v0 fun x27 =>
 bP (st Q q 94 1 x27 x25 G24) fun G28 =>
 some ((.int .i64 12),G28))
theorem f134 (h:bm Q e (E ae)) (v0 v1:Value) (G:GS):Ref (s134 true e v0 v1 G) ((E ae).cl 134 [v0,v1] G):=cS (S:=fun q e=>s134 q e v0 v1 G) Tryz.func134 (by unfold s134; exact Ref.gq)
def JP (ae:FuncId→Bool) (e:Ex) (f:FuncId) (vs:List Value) (G:GS):OG :=
fork f 81 (fork f 41 (fork f 20 (leaf f 20 (qL (s20 true e) vs G)) (
leaf f 41 (tS (s41 true e) vs G))) (
fork f 42 (leaf f 42 (tS (s42 true e) vs G)) (
fork f 44 (leaf f 44 (tS (s44 true e) vs G)) (
leaf f 81 (qL (s81 true e) vs G))))) (
fork f 85 (fork f 83 (leaf f 83 (tR (s83 true e) vs G)) (
leaf f 85 (qL (s85 true e) vs G))) (
fork f 91 (leaf f 91 (qL (s91 true e) vs G)) (
fork f 105 (leaf f 105 (tR (s105 true e) vs G)) (
leaf f 106 (tR (s106 true e) vs G)))))
theorem aaO (h:bm Q e (E ae)) (f:FuncId) (vs:List Value) (G:GS):Ref (JP ae e f vs G) ((E ae).cl f vs G) :=
Ref.fork (Ref.fork (Ref.fork (cf (Ref.qL (f20 h) vs G)) (
cf (Ref.tS (f41 h) vs G))) (
Ref.fork (cf (Ref.tS (f42 h) vs G)) (
Ref.fork (cf (Ref.tS (f44 h) vs G)) (
cf (Ref.qL (f81 h) vs G))))) (
Ref.fork (Ref.fork (cf (Ref.tR (f83 h) vs G)) (
cf (Ref.qL (f85 h) vs G))) (
Ref.fork (cf (Ref.qL (f91 h) vs G)) (
Ref.fork (cf (Ref.tR (f105 h) vs G)) (
cf (Ref.tR (f106 h) vs G)))))
def JQ (EY:Nat) (e:Ex) (f k:Nat) (τ:Env) (G:GS):OL :=
fork f 20 (leaf f 20 (leaf k 0 (BV 162 (iz true e) EY τ G))) (
leaf f 91 (leaf k 0 (BV 195 (oG true e) EY τ G)))
theorem aaP (h:bm Q e (E ae)) (EY f k:Nat) (τ:Env) (G:GS):Ref (JQ EY e f k τ G) (bc ((E ae).lp (iO Q f k) (aG (jd Q f) τ) G)) :=
Ref.fork (cl' (ck (QO (Rx h) _ _ _))) (
cl' (ck (QO (Ry h) _ _ _)))
def kE (ae:FuncId→Bool) (n:Nat):Ex:=Nat.rec (motive:=fun _=>Ex) ⟨Ev.zero,fun _ _ _ _=>none⟩ (fun _ e=>⟨⟨(fL Q ae 0).ex,JP ae e,(fL Q ae 2000).rd,(fL Q ae 2000).sc,(fL Q ae 0).lp⟩,JQ 6000 e⟩) n
end
end Go.Proofs.YtkhlabammcghbaaGreat.Lift
