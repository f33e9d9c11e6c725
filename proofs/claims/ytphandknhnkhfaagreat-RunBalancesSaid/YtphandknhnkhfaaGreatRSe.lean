import Derived.Test.YtphandknhnkhfaaGreatRSb
import Derived.Test.YtphandknhnkhfaaGreatRSc
import Derived.Test.YtphandknhnkhfaaGreatRSd
namespace Go.Proofs.YtphandknhnkhfaaGreat.Lift
open Go Go.Proofs.YtphandknhnkhfaaGreat.Gh Go.Proofs
set_option linter.unusedVariables false
set_option linter.unusedSimpArgs false
set_option maxRecDepth 100000
attribute [simp] XV X2 X4 Yf Yo Yp Yq Yr Ys Yt Yu Yv Yw Yx Yy Yz YA YB YC YD YE YF YG YH YI YJ
variable {ae:FuncId→Bool} {e:Ex}
noncomputable section
def yU (q:Bool) (e:Ex) (lp:bU) (τ:Env) (G:GS):OL :=
 bV q (τ 0) fun aK =>
 bV q (τ 1) fun cq =>
 bV q (τ 12) fun Bv =>
 bV q (τ 15) fun fe =>
 bV q (τ 17) fun iY =>
 bV q (τ 18) fun iZ =>
 bP (ln Q q 22 aK) fun x0 =>
 bP (bn Q q .lss 3 (.tmp 76) (.tmp 78) iZ x0) fun x1 =>
 cD x1 (
 bP (lK Q q 22 1 aK iZ) fun x2 =>
 bP (ld Q q 3 x2 G) fun x3 =>
 bS (e.ev.cl 6 [x3,(.int .i64 20)] G) fun x4 G5 =>
 bP (bn Q q .mul 3 (.const (.int .i64 7)) (.tmp 86) (.int .i64 7) x4) fun x6 =>
 bP (bn Q q .add 3 (.tmp 87) (.tmp 88) x6 iZ) fun x7 =>
 bP (bn Q q .add 3 (.tmp 89) (.const (.int .i64 1)) x7 (.int .i64 1)) fun x8 =>
 bP (cv Q q 3 46 .i64 .u64 x8) fun x9 =>
 bS (bs Q q 45 1 (rep z46 1) 1 [(0,0,1)] [x9] G5) fun x10 G11 =>
 bS (ap Q q 45 45 1 8 iY x10 G11) fun x12 G13 =>
 bP (fV Q q 34 13 Bv (G13.room 13)) fun x14 =>
 bP (lK Q q 22 1 aK iZ) fun x15 =>
 bP (ld Q q 3 x15 (G13.room 13)) fun x16 =>
 bS (e.ev.cl 6 [x16,cq] (G13.room 13)) fun x18 G17 =>
 gp ((br (fV Q q 34 13 Bv G17) x14&&true)) <|
 bP (bn Q q .add 3 (.const (.int .i64 1)) (.tmp 105) (.int .i64 1) x18) fun x19 =>
 bS (e.ev.cl 11 [x14,fe,x9,iZ,x19] G17) fun x21 G20 =>
 bP (un Q q .not x21) fun x22 =>
 cD x22 (
 some (.ret,xq q 209 τ [(10,(.bool false)),(108,x22),(107,x21),(106,x19),(105,x18),(104,cq),(103,x16),(102,x15),(101,iZ),(100,aK),(99,iZ),(98,x9),(97,fe),(96,x14),(17,x12),(95,x12),(94,x10),(93,x9),(92,iY),(19,x9),(91,x9),(90,x8),(89,x7),(88,iZ),(87,x6),(86,x4),(85,x3),(84,x2),(83,iZ),(82,aK),(79,x1),(78,x0),(77,aK),(76,iZ)] [(0,aK),(1,cq),(12,Bv),(15,fe),(18,iZ)],G20)) (
 bP (bn Q q .add 3 (.tmp 80) (.const (.int .i64 1)) iZ (.int .i64 1)) fun x23 =>
 lp (xq q 209 τ [(18,x23),(81,x23),(80,iZ),(108,x22),(107,x21),(106,x19),(105,x18),(104,cq),(103,x16),(102,x15),(101,iZ),(100,aK),(99,iZ),(98,x9),(97,fe),(96,x14),(17,x12),(95,x12),(94,x10),(93,x9),(92,iY),(19,x9),(91,x9),(90,x8),(89,x7),(88,iZ),(87,x6),(86,x4),(85,x3),(84,x2),(83,iZ),(82,aK),(79,x1),(78,x0),(77,aK),(76,iZ)] [(0,aK),(1,cq),(12,Bv),(15,fe)]) G20)) (
 some ((.exit 0),xq q 209 τ [(79,x1),(78,x0),(77,aK),(76,iZ)] [(0,aK),(1,cq),(12,Bv),(15,fe),(17,iY),(18,iZ)],G))
theorem YS {e:Ex} {E:Ev} (h:cf Q e E) {lp cN:bU} (bJ:jr lp cN) (τ:Env) (G:GS):Ref (yU true e lp τ G) (yU false (Ex.of E) cN τ G):=by
 unfold yU
 exact Ref.gq
set_option maxHeartbeats 8000000 in
theorem PV {ae:FuncId→Bool} {e:Ex} (h:cf Q e (E ae)) (lp:bU) (bJ:∀ τ G,Ref (lp τ G) (bZ ((E ae).lp (bm [1,1,1,1,1,1,1,1,1,1,1,1,0,1,0,0] (aS Tryz.f3)) (aN 209 τ) G))) (T:List Value) (G:GS) (hT:T.length=209):Ref (yU true e lp (nth undef T) G) (bZ ((E ae).lp (bm [1,1,1,1,1,1,1,1,1,1,1,1,0,1,0,0] (aS Tryz.f3)) T G)) :=
 fun r hr=>yQ Q ae G hT (by kernel_rfl) (YS h ⟨bJ⟩ _ _ r hr)
def Bw (q:Bool) (e:Ex) (lp:bU) (τ:Env) (G:GS):OL :=
 bV q (τ 2) fun cE =>
 bV q (τ 3) fun j9 =>
 bV q (τ 14) fun tR =>
 bV q (τ 15) fun fe =>
 bV q (τ 20) fun rU =>
 bV q (τ 21) fun tS =>
 bV q (τ 22) fun fX =>
 bV q (τ 23) fun py =>
 bP (bn Q q .add 3 (.tmp 112) (.const (.int .i64 1)) fX (.int .i64 1)) fun x1 =>
 lp (xq q 209 τ [(22,x1),(113,x1),(112,fX)] [(2,cE),(3,j9),(14,tR),(15,fe),(20,rU),(21,tS),(23,py)]) G
def mF (q:Bool) (e:Ex) (lp:bU) (τ:Env) (G:GS):OL:=Bw q e lp τ G
theorem YT {e:Ex} {E:Ev} (h:cf Q e E) {lp cN:bU} (bJ:jr lp cN) (τ:Env) (G:GS):Ref (mF true e lp τ G) (mF false (Ex.of E) cN τ G):=by
 unfold mF Bw
 exact Ref.gq
theorem PX {e:Ex} {E:Ev} (h:cf Q e E) {lp cN:bU} (bJ:jr lp cN) {τ:Env} {l U:List (Nat×Value)} {G:GS} (hU:gI τ U):Ref (mF true e lp (xq true 209 τ l U) G) (mF false (Ex.of E) cN (xq false 209 τ l U) G):=by
 rw [yR hU]
 exact YT h bJ _ _
def D2 (q:Bool) (e:Ex) (lp:bU) (J0:bU) (τ:Env) (G:GS):OL :=
 bV q (τ 2) fun cE =>
 bV q (τ 3) fun j9 =>
 bV q (τ 14) fun tR =>
 bV q (τ 15) fun fe =>
 bV q (τ 20) fun rU =>
 bV q (τ 21) fun tS =>
 bV q (τ 22) fun fX =>
 bV q (τ 23) fun py =>
 bP (fa Q q 38 0 0 tR) fun x2 =>
 bP (ld Q q 3 x2 G) fun x3 =>
 bP (bn Q q .add 3 (.tmp 134) (.tmp 135) x3 fX) fun x4 =>
 bS (e.ev.cl 12 [fe,x4,py] G) fun x5 G6 =>
 bS (bs Q q 45 1 (rep z46 1) 1 [(0,0,1)] [py] G6) fun x7 G8 =>
 bS (ap Q q 45 45 1 8 tS x7 G8) fun x9 G10 =>
 bP (lK Q q 45 1 x9 fX) fun x11 =>
 bP (ld Q q 46 x11 (G10.room 9)) fun x12 =>
 bP (lK Q q 45 1 x9 rU) fun x13 =>
 bP (ld Q q 46 x13 (G10.room 9)) fun x14 =>
 bP (bn Q q .gtr 46 (.tmp 146) (.tmp 150) x12 x14) fun x15 =>
 cD x15 (
 J0 (xq q 209 τ [(20,fX),(152,fX),(151,x15),(150,x14),(149,x13),(148,rU),(147,x9),(146,x12),(145,x11),(144,fX),(143,x9),(21,x9),(142,x9),(141,x7),(140,py),(139,tS),(138,x5),(137,py),(136,x4),(135,fX),(134,x3),(133,x2),(132,fe)] [(2,cE),(3,j9),(14,tR),(15,fe),(22,fX),(23,py)]) (G10.room 9)) (
 J0 (xq q 209 τ [(151,x15),(150,x14),(149,x13),(148,rU),(147,x9),(146,x12),(145,x11),(144,fX),(143,x9),(21,x9),(142,x9),(141,x7),(140,py),(139,tS),(138,x5),(137,py),(136,x4),(135,fX),(134,x3),(133,x2),(132,fe)] [(2,cE),(3,j9),(14,tR),(15,fe),(20,rU),(22,fX),(23,py)]) (G10.room 9))
def nj (q:Bool) (e:Ex) (lp:bU) (τ:Env) (G:GS):OL:=D2 q e lp (mF q e lp) τ G
theorem YU {e:Ex} {E:Ev} (h:cf Q e E) {lp cN:bU} (bJ:jr lp cN) (τ:Env) (G:GS):Ref (nj true e lp τ G) (nj false (Ex.of E) cN τ G):=by
 unfold nj D2
 have j0:=@PX e E h lp cN bJ
 exact Ref.gj
theorem YV {e:Ex} {E:Ev} (h:cf Q e E) {lp cN:bU} (bJ:jr lp cN) {τ:Env} {l U:List (Nat×Value)} {G:GS} (hU:gI τ U):Ref (nj true e lp (xq true 209 τ l U) G) (nj false (Ex.of E) cN (xq false 209 τ l U) G):=by
 rw [yR hU]
 exact YU h bJ _ _
def wZ (q:Bool) (e:Ex) (lp:bU) (J0 J1:bU) (τ:Env) (G:GS):OL :=
 bV q (τ 2) fun cE =>
 bV q (τ 3) fun j9 =>
 bV q (τ 14) fun tR =>
 bV q (τ 15) fun fe =>
 bV q (τ 20) fun rU =>
 bV q (τ 21) fun tS =>
 bV q (τ 22) fun fX =>
 bV q (τ 23) fun py =>
 bP (bn Q q .lss 3 (.tmp 109) (.tmp 110) fX cE) fun x0 =>
 cD x0 (
 bP (ln Q q 22 j9) fun x16 =>
 bP (bn Q q .lss 3 (.tmp 114) (.tmp 116) fX x16) fun x17 =>
 bS (gV x17 true j9 G) fun x18 G19 =>
 bS (gV x17 true fX G19) fun x20 G21 =>
 bS (gP x17 true (lK Q q 22 1 x18 x20) G21) fun x22 G23 =>
 bS (gP x17 true (ld Q q 3 x22 G23) G23) fun x24 G25 =>
 bS (gP x17 true (bn Q q .rem 3 (.tmp 122) (.const (.int .i64 5)) x24 (.int .i64 5)) G25) fun x26 G27 =>
 bS (gP x17 true (bn Q q .neq 3 (.tmp 123) (.const (.int .i64 0)) x26 (.int .i64 0)) G27) fun x28 G29 =>
 bP (pq x17 x28 (.bool false)) fun x30 =>
 cD x30 (
 bP (lK Q q 22 1 j9 fX) fun x31 =>
 bP (ld Q q 3 x31 G29) fun x32 =>
 bS (e.ev.cl 6 [x32,(.int .i64 150)] G29) fun x33 G34 =>
 bP (cv Q q 3 46 .i64 .u64 x33) fun x35 =>
 J1 (xq q 209 τ [(23,x35),(131,x35),(130,x33),(129,x32),(128,x31),(127,fX),(126,j9),(125,x30),(124,x28),(123,x26),(122,x24),(121,x22),(120,x20),(119,x18),(118,x17),(117,x17),(116,x16),(115,j9),(114,fX),(23,(.int .u64 18446744073709551615)),(111,x0),(110,cE),(109,fX)] [(2,cE),(3,j9),(14,tR),(15,fe),(20,rU),(21,tS),(22,fX)]) G34) (
 J1 (xq q 209 τ [(125,x30),(124,x28),(123,x26),(122,x24),(121,x22),(120,x20),(119,x18),(118,x17),(117,x17),(116,x16),(115,j9),(114,fX),(23,(.int .u64 18446744073709551615)),(111,x0),(110,cE),(109,fX)] [(2,cE),(3,j9),(14,tR),(15,fe),(20,rU),(21,tS),(22,fX)]) G29)) (
 some ((.exit 2),xq q 209 τ [(111,x0),(110,cE),(109,fX)] [(2,cE),(3,j9),(14,tR),(15,fe),(20,rU),(21,tS),(22,fX),(23,py)],G))
def vq (q:Bool) (e:Ex) (lp:bU) (τ:Env) (G:GS):OL:=wZ q e lp (mF q e lp) (nj q e lp) τ G
theorem YW {e:Ex} {E:Ev} (h:cf Q e E) {lp cN:bU} (bJ:jr lp cN) (τ:Env) (G:GS):Ref (vq true e lp τ G) (vq false (Ex.of E) cN τ G):=by
 unfold vq wZ
 have j0:=@PX e E h lp cN bJ
 have j1:=@YV e E h lp cN bJ
 exact Ref.gj
def Bx (J0 J1:bU):JT (Exit×Env×GS) :=
 (.n none .e (.n (some (fun T G=>J0 (nth undef T) G)) (.n none (.n none .e (.n (some (fun T G=>J1 (nth undef T) G)) .e .e)) .e) .e))
set_option maxHeartbeats 8000000 in
theorem YX (ae:FuncId→Bool) (J0 J1:bU) (T:List Value) (G:GS):qD Q (aC Q ae) 209 (Bx J0 J1) (bm [1,1,1,1,1,1,1,1,1,1,1,1,1,1,1,0,1,0,0] (aS Tryz.f3)) (iq (fun τ G'=>bZ ((E ae).lp (bm [1,1,1,1,1,1,1,1,1,1,1,1,1,1,1,0,1,0,0] (aS Tryz.f3)) (aN 209 (nth undef (aN 209 τ))) G')) fun e τ G'=>some (e,nth undef (aN 209 τ),G')) [true] (nth undef T) G=Bw false (Ex.of (E ae)) (fun τ G=>bZ ((E ae).lp (bm [1,1,1,1,1,1,1,1,1,1,1,1,1,1,1,0,1,0,0] (aS Tryz.f3)) (aN 209 τ) G))  (nth undef T) G:=by kernel_rfl
set_option maxHeartbeats 8000000 in
theorem YY (ae:FuncId→Bool) (J0 J1:bU) (T:List Value) (G:GS):qD Q (aC Q ae) 209 (Bx J0 J1) (bm [1,1,1,1,1,1,1,1,1,1,1,1,1,1,1,0,1,0,0] (aS Tryz.f3)) (iq (fun τ G'=>bZ ((E ae).lp (bm [1,1,1,1,1,1,1,1,1,1,1,1,1,1,1,0,1,0,0] (aS Tryz.f3)) (aN 209 (nth undef (aN 209 τ))) G')) fun e τ G'=>some (e,nth undef (aN 209 τ),G')) [true,false,false,true] (nth undef T) G=D2 false (Ex.of (E ae)) (fun τ G=>bZ ((E ae).lp (bm [1,1,1,1,1,1,1,1,1,1,1,1,1,1,1,0,1,0,0] (aS Tryz.f3)) (aN 209 τ) G)) J0 (nth undef T) G:=by kernel_rfl
set_option maxHeartbeats 8000000 in
theorem YZ (ae:FuncId→Bool):px Q ae 209 (Bx (mF false (Ex.of (E ae)) (fun τ G=>bZ ((E ae).lp (bm [1,1,1,1,1,1,1,1,1,1,1,1,1,1,1,0,1,0,0] (aS Tryz.f3)) (aN 209 τ) G))) (nj false (Ex.of (E ae)) (fun τ G=>bZ ((E ae).lp (bm [1,1,1,1,1,1,1,1,1,1,1,1,1,1,1,0,1,0,0] (aS Tryz.f3)) (aN 209 τ) G))) ) (bm [1,1,1,1,1,1,1,1,1,1,1,1,1,1,1,0,1,0,0] (aS Tryz.f3)) (iq (fun τ G'=>bZ ((E ae).lp (bm [1,1,1,1,1,1,1,1,1,1,1,1,1,1,1,0,1,0,0] (aS Tryz.f3)) (aN 209 (nth undef (aN 209 τ))) G')) fun e τ G'=>some (e,nth undef (aN 209 τ),G')) :=
 Ii Q ae (l:=[([true],(fun T G=>mF false (Ex.of (E ae)) (fun τ G=>bZ ((E ae).lp (bm [1,1,1,1,1,1,1,1,1,1,1,1,1,1,1,0,1,0,0] (aS Tryz.f3)) (aN 209 τ) G)) (nth undef T) G)),([true,false,false,true],(fun T G=>nj false (Ex.of (E ae)) (fun τ G=>bZ ((E ae).lp (bm [1,1,1,1,1,1,1,1,1,1,1,1,1,1,1,0,1,0,0] (aS Tryz.f3)) (aN 209 τ) G)) (nth undef T) G))]) (by kernel_rfl) (j8.c (fun T G=>YX ae (mF false (Ex.of (E ae)) (fun τ G=>bZ ((E ae).lp (bm [1,1,1,1,1,1,1,1,1,1,1,1,1,1,1,0,1,0,0] (aS Tryz.f3)) (aN 209 τ) G))) (nj false (Ex.of (E ae)) (fun τ G=>bZ ((E ae).lp (bm [1,1,1,1,1,1,1,1,1,1,1,1,1,1,1,0,1,0,0] (aS Tryz.f3)) (aN 209 τ) G))) T G) (j8.c (fun T G=>YY ae (mF false (Ex.of (E ae)) (fun τ G=>bZ ((E ae).lp (bm [1,1,1,1,1,1,1,1,1,1,1,1,1,1,1,0,1,0,0] (aS Tryz.f3)) (aN 209 τ) G))) (nj false (Ex.of (E ae)) (fun τ G=>bZ ((E ae).lp (bm [1,1,1,1,1,1,1,1,1,1,1,1,1,1,1,0,1,0,0] (aS Tryz.f3)) (aN 209 τ) G))) T G) (j8.z)))
set_option maxHeartbeats 8000000 in
theorem Y0 (ae:FuncId→Bool) (J0 J1:bU) (T:List Value) (G:GS):mB Q (aC Q ae) 209 (Bx J0 J1) (bm [1,1,1,1,1,1,1,1,1,1,1,1,1,1,1,0,1,0,0] (aS Tryz.f3)) (nth undef T) G (iq (fun τ G'=>bZ ((E ae).lp (bm [1,1,1,1,1,1,1,1,1,1,1,1,1,1,1,0,1,0,0] (aS Tryz.f3)) (aN 209 (nth undef (aN 209 τ))) G')) fun e τ G'=>some (e,nth undef (aN 209 τ),G'))=wZ false (Ex.of (E ae)) (fun τ G=>bZ ((E ae).lp (bm [1,1,1,1,1,1,1,1,1,1,1,1,1,1,1,0,1,0,0] (aS Tryz.f3)) (aN 209 τ) G)) J0 J1 (nth undef T) G:=by kernel_rfl
set_option maxHeartbeats 8000000 in
theorem PY {ae:FuncId→Bool} {e:Ex} (h:cf Q e (E ae)) (lp:bU) (bJ:∀ τ G,Ref (lp τ G) (bZ ((E ae).lp (bm [1,1,1,1,1,1,1,1,1,1,1,1,1,1,1,0,1,0,0] (aS Tryz.f3)) (aN 209 τ) G))) (T:List Value) (G:GS) (hT:T.length=209):Ref (vq true e lp (nth undef T) G) (bZ ((E ae).lp (bm [1,1,1,1,1,1,1,1,1,1,1,1,1,1,1,0,1,0,0] (aS Tryz.f3)) T G)) :=
 fun r hr=>Pr Q ae G (Bx (mF false (Ex.of (E ae)) (fun τ G=>bZ ((E ae).lp (bm [1,1,1,1,1,1,1,1,1,1,1,1,1,1,1,0,1,0,0] (aS Tryz.f3)) (aN 209 τ) G))) (nj false (Ex.of (E ae)) (fun τ G=>bZ ((E ae).lp (bm [1,1,1,1,1,1,1,1,1,1,1,1,1,1,1,0,1,0,0] (aS Tryz.f3)) (aN 209 τ) G))) ) hT (YZ ae) (Y0 ae (mF false (Ex.of (E ae)) (fun τ G=>bZ ((E ae).lp (bm [1,1,1,1,1,1,1,1,1,1,1,1,1,1,1,0,1,0,0] (aS Tryz.f3)) (aN 209 τ) G))) (nj false (Ex.of (E ae)) (fun τ G=>bZ ((E ae).lp (bm [1,1,1,1,1,1,1,1,1,1,1,1,1,1,1,0,1,0,0] (aS Tryz.f3)) (aN 209 τ) G))) T G) (YW h ⟨bJ⟩ _ _ r hr)
def yV (q:Bool) (e:Ex) (lp:bU) (τ:Env) (G:GS):OL :=
 bV q (τ 1) fun cq =>
 bV q (τ 2) fun cE =>
 bV q (τ 15) fun fe =>
 bV q (τ 25) fun yW =>
 bV q (τ 26) fun yX =>
 bP (bn Q q .mul 3 (.const (.int .i64 6)) (.tmp 162) (.int .i64 6) cq) fun x0 =>
 bP (bn Q q .mul 3 (.tmp 163) (.const (.int .i64 15)) x0 (.int .i64 15)) fun x1 =>
 bP (bn Q q .add 3 (.tmp 164) (.const (.int .i64 60)) x1 (.int .i64 60)) fun x2 =>
 bP (bn Q q .add 3 (.tmp 165) (.tmp 166) x2 cE) fun x3 =>
 bP (bn Q q .lss 3 (.tmp 161) (.tmp 167) yX x3) fun x4 =>
 bS (gV x4 true yW G) fun x5 G6 =>
 bS (gV x4 true fe G6) fun x7 G8 =>
 bS (gS x4 true (e.ev.cl 15 [x5,x7] G8) G8) fun x9 G10 =>
 bS (gP x4 true (un Q q .not x9) G10) fun x11 G12 =>
 bP (pq x4 x11 (.bool false)) fun x13 =>
 cD x13 (
 bP (bn Q q .add 3 (.tmp 175) (.const (.int .i64 1)) yX (.int .i64 1)) fun x14 =>
 lp (xq q 209 τ [(26,x14),(176,x14),(175,yX),(174,x13),(173,x11),(172,x9),(171,x7),(170,x5),(169,x4),(168,x4),(167,x3),(166,cE),(165,x2),(164,x1),(163,x0),(162,cq),(161,yX)] [(1,cq),(2,cE),(15,fe),(25,yW)]) G12) (
 some ((.exit 4),xq q 209 τ [(174,x13),(173,x11),(172,x9),(171,x7),(170,x5),(169,x4),(168,x4),(167,x3),(166,cE),(165,x2),(164,x1),(163,x0),(162,cq),(161,yX)] [(1,cq),(2,cE),(15,fe),(25,yW),(26,yX)],G12))
theorem Y1 {e:Ex} {E:Ev} (h:cf Q e E) {lp cN:bU} (bJ:jr lp cN) (τ:Env) (G:GS):Ref (yV true e lp τ G) (yV false (Ex.of E) cN τ G):=by
 unfold yV
 exact Ref.gq
set_option maxHeartbeats 8000000 in
theorem Y2 {ae:FuncId→Bool} {e:Ex} (h:cf Q e (E ae)) (lp:bU) (bJ:∀ τ G,Ref (lp τ G) (bZ ((E ae).lp (bm [1,1,1,1,1,1,1,1,1,1,1,1,1,1,1,1,1,1,1,0,0,0] (aS Tryz.f3)) (aN 209 τ) G))) (T:List Value) (G:GS) (hT:T.length=209):Ref (yV true e lp (nth undef T) G) (bZ ((E ae).lp (bm [1,1,1,1,1,1,1,1,1,1,1,1,1,1,1,1,1,1,1,0,0,0] (aS Tryz.f3)) T G)) :=
 fun r hr=>yQ Q ae G hT (by kernel_rfl) (Y1 h ⟨bJ⟩ _ _ r hr)
def D3 (q:Bool) (e:Ex) (τ:Env) (G:GS):OG :=
 bV q (τ 11) fun D4 =>
 bV q (τ 15) fun fe =>
 bV q (τ 24) fun Y3 =>
 bV q (τ 25) fun yW =>
 bV q (τ 27) fun xd =>
 bS (gV D4 true yW G) fun x64 G65 =>
 bS (gS D4 true (e.ev.cl 17 [x64] G65) G65) fun x66 G67 =>
 bS (gP D4 true (bn Q q .eql 40 (.tmp 194) (.const (.int .i64 0)) x66 (.int .i64 0)) G67) fun x68 G69 =>
 bP (pq D4 x68 (.bool false)) fun x70 =>
 bS (gV x70 true yW G69) fun x71 G72 =>
 bS (gS x70 true (e.ev.cl 18 [x71] G72) G72) fun x73 G74 =>
 bS (gV x70 true xd G74) fun x75 G76 =>
 bS (gP x70 true (bn Q q .eql 3 (.tmp 199) (.tmp 200) x73 x75) G76) fun x77 G78 =>
 bP (pq x70 x77 (.bool false)) fun x79 =>
 bS (gV x79 true fe G78) fun x80 G81 =>
 bS (gS x79 true (e.ev.cl 13 [x80] G81) G81) fun x82 G83 =>
 bS (gV x79 true Y3 G83) fun x84 G85 =>
 bS (gS x79 true (e.ev.cl 19 [x82,x84] G85) G85) fun x86 G87 =>
 bP (pq x79 x86 (.bool false)) fun x88 =>
 some (x88,G87)
def oB (q:Bool) (e:Ex) (τ:Env) (G:GS):OG:=D3 q e τ G
theorem Y4 {e:Ex} {E:Ev} (h:cf Q e E) (τ:Env) (G:GS):Ref (oB true e τ G) (oB false (Ex.of E) τ G):=by
 unfold oB D3
 exact Ref.gq
theorem Y5 {e:Ex} {E:Ev} (h:cf Q e E) {τ:Env} {l U:List (Nat×Value)} {G:GS} (hU:gI τ U):Ref (oB true e (xq true 209 τ l U) G) (oB false (Ex.of E) (xq false 209 τ l U) G):=by
 rw [yR hU]
 exact Y4 h _ _
def yY (q:Bool) (e:Ex) (J0:Env→GS→OG) (v0 v1 v2 v3 v4:Value) (G:GS):OG :=
 bS (e.ev.cl 5 [] G) fun x0 G1 =>
 bP (ln Q q 22 v0) fun x2 =>
 bP (bn Q q .gtr 3 (.tmp 30) (.const (.int .i64 6)) x2 (.int .i64 6)) fun x3 =>
 bS (gV x3 false v3 G1) fun x4 G5 =>
 bS (gP x3 false (ln Q q 22 x4) G5) fun x6 G7 =>
 bS (gP x3 false (bn Q q .gtr 3 (.tmp 34) (.const (.int .i64 5)) x6 (.int .i64 5)) G7) fun x8 G9 =>
 bP (pq x3 (.bool true) x8) fun x10 =>
 cD x10 (
 some (x0,G9)) (
 bS (e.ev.cl 6 [v2,(.int .i64 5)] G9) fun x11 G12 =>
 bP (bn Q q .add 3 (.const (.int .i64 1)) (.tmp 39) (.int .i64 1) x11) fun x13 =>
 bS (e.ev.cl 6 [v1,(.int .i64 3)] G12) fun x14 G15 =>
 bP (bn Q q .add 3 (.const (.int .i64 1)) (.tmp 42) (.int .i64 1) x14) fun x16 =>
 bS (e.ev.cl 7 [(.int .i64 7),x13,x16,(.int .i64 9)] G15) fun x17 G18 =>
 bP (lF x17 0) fun x19 =>
 bP (lF x17 1) fun x20 =>
 bS (al Q q 34 z34 G18) fun x21 G22 =>
 bP (st Q q 34 13 x21 x19 G22) fun G23 =>
 bP (bn Q q .add 3 (.tmp 51) (.tmp 52) x20 x13) fun x24 =>
 bP (bd Q q 38 z38 [(0,0,1),(1,1,1),(2,2,1)] [x20,x24,x13]) fun x25 =>
 bS (al Q q 38 z38 G23) fun x26 G27 =>
 bP (st Q q 38 3 x26 x25 G27) fun G28 =>
 bP (bn Q q .mul 3 (.const (.int .i64 2)) (.tmp 58) (.int .i64 2) x13) fun x29 =>
 bP (bn Q q .add 3 (.tmp 57) (.tmp 59) x20 x29) fun x30 =>
 bS (e.ev.cl 8 [x30] G28) fun x31 G32 =>
 bP (lF x31 0) fun x33 =>
 bP (lF x31 1) fun x34 =>
 bP (bn Q q .neq 40 (.tmp 64) (.const (.int .i64 0)) x34 (.int .i64 0)) fun x35 =>
 bS (gV x35 false x33 G32) fun x36 G37 =>
 bS (gP x35 false (ep Q q false 39 (.tmp 67) (.const (.pointer none)) x36 (.pointer none)) G37) fun x38 G39 =>
 bP (pq x35 (.bool true) x38) fun x40 =>
 cD x40 (
 some ((.bool false),G39)) (
 bP (fV Q q 34 13 x21 G39) fun x41 =>
 bS (e.ev.cl 9 [x41,x33] G39) fun x42 G43 =>
 bP (fV Q q 38 3 x26 G43) fun x44 =>
 bS (e.ev.cl 10 [x44,x33] G43) fun x45 G46 =>
 kP q e 3 0 (bm [1,1,1,1,1,1,1,1,1,1,1,1,0,1,0,0] (aS Tryz.f3)) 209 (nth undef [v0,v1,v2,v3,v4]) [(18,(.int .i64 0)),(17,(.slice none 0 0)),(75,x45),(74,x33),(73,x44),(72,x42),(71,x33),(70,x41),(69,x40),(68,x38),(67,x36),(66,x35),(65,x35),(64,x34),(16,x34),(15,x33),(63,x34),(62,x33),(56,x31),(61,x31),(60,x30),(59,x29),(58,x13),(57,x20),(14,x26),(55,x25),(54,x13),(53,x24),(52,x13),(51,x20),(50,x20),(13,x20),(12,x21),(49,x20),(48,x19),(44,x17),(47,x17),(46,x16),(45,x13),(1,x16),(43,x16),(42,x14),(41,v1),(2,x13),(40,x13),(39,x11),(38,v2),(36,x10),(35,x8),(34,x6),(33,x4),(32,x3),(31,x3),(30,x2),(29,v0),(11,x0),(28,x0),(10,(.bool false))] [] G46 fun e47 t48 G49 =>
 bV q (t48 10) fun Y6 =>
 dt e47 (.exit 0) (
 kP q e 3 1 (bm [1,1,1,1,1,1,1,1,1,1,1,1,1,1,1,0,1,0,0] (aS Tryz.f3)) 209 t48 [(22,(.int .i64 0)),(21,(.slice none 0 0)),(20,(.int .i64 0))] [] G49 fun e50 t51 G52 =>
 bV q (t51 2) fun PZ =>
 bV q (t51 4) fun P1 =>
 bV q (t51 12) fun P2 =>
 bV q (t51 14) fun P4 =>
 bV q (t51 15) fun P5 =>
 dt e50 (.exit 2) (
 bS (e.ev.cl 13 [P5] G52) fun x53 G54 =>
 bP (fV Q q 34 13 P2 (G54.room 7)) fun x55 =>
 bP (fV Q q 38 3 P4 (G54.room 7)) fun x56 =>
 bS (e.ev.cl 6 [P1,PZ] (G54.room 7)) fun x58 G57 =>
 gp ((br (fV Q q 38 3 P4 G57) x56&&(br (fV Q q 34 13 P2 G57) x55&&true))) <|
 bS (e.ev.cl 14 [x55,x56,x58] G57) fun x60 G59 =>
 kP q e 3 2 (bm [1,1,1,1,1,1,1,1,1,1,1,1,1,1,1,1,1,1,1,0,0,0] (aS Tryz.f3)) 209 t51 [(26,(.int .i64 0)),(25,x60),(160,x60),(159,x58),(158,PZ),(157,P1),(156,x56),(155,x55),(24,x53),(154,x53),(153,P5)] [] G59 fun e61 t62 G63 =>
 bV q (t62 14) fun Y7 =>
 bV q (t62 17) fun IH =>
 bV q (t62 20) fun xe =>
 bV q (t62 21) fun II =>
 bV q (t62 24) fun P6 =>
 dt e61 (.exit 4) (
 bS (e.ev.cl 16 [IH] (G63.room 7)) fun x90 G89 =>
 bP (lK Q q 45 1 II xe) fun x91 =>
 bP (ld Q q 46 x91 G89) fun x92 =>
 gp ((br (ld Q q 46 x91 (G63.room 7)) x92&&true)) <|
 bP (bn Q q .lss 46 (.tmp 178) (.tmp 182) x90 x92) fun x93 =>
 cD x93 (
 bP (fa Q q 38 1 1 Y7) fun x94 =>
 bP (ld Q q 3 x94 G89) fun x95 =>
 bP (bn Q q .add 3 (.tmp 187) (.tmp 188) x95 xe) fun x96 =>
 bP (lK Q q 45 1 P6 x96) fun x97 =>
 bP (st Q q 46 1 x97 (.int .u64 1) G89) fun G98 =>
 J0 (xq q 209 t62 [(190,x97),(189,x96),(188,xe),(187,x95),(186,x94),(185,P6),(27,xe),(184,xe),(183,x93),(182,x92),(181,x91),(180,xe),(179,II),(178,x90),(177,IH),(27,(.int .i64 (-1)))] []) G98) (
 J0 (xq q 209 t62 [(183,x93),(182,x92),(181,x91),(180,xe),(179,II),(178,x90),(177,IH),(27,(.int .i64 (-1)))] []) G89)) (none)) (none)) (dt e47 .ret (
 some (Y6,G49)) (none))))
def s3 (q:Bool) (e:Ex) (v0 v1 v2 v3 v4:Value) (G:GS):OG:=yY q e (oB q e) v0 v1 v2 v3 v4 G
theorem m3 {e:Ex} {E:Ev} (h:cf Q e E) (v0 v1 v2 v3 v4:Value) (G:GS):Ref (s3 true e v0 v1 v2 v3 v4 G) (s3 false (Ex.of E) v0 v1 v2 v3 v4 G):=by
 unfold s3 yY
 have j0:=@Y5 e E h
 exact Ref.gj
def D5 (J0:Env→GS→OG):JT (Value×GS) :=
 (.n none .e (.n none .e (.n none .e (.n none .e (.n none .e (.n none .e (.n none .e (.n none .e (.n none .e (.n none .e (.n none .e (.n none .e (.n none .e (.n none .e (.n none .e (.n none .e (.n none .e (.n none .e (.n none .e (.n none .e (.n none .e (.n (some (fun T G=>J0 (nth undef T) G)) .e .e))))))))))))))))))))))
set_option maxHeartbeats 8000000 in
theorem Y8 (ae:FuncId→Bool) (J0:Env→GS→OG) (T:List Value) (G:GS):qD Q (aC Q ae) Tryz.f3.ntmps (D5 J0) (aS Tryz.f3) (qy Q Tryz.f3.results.toList) [true,true,true,true,true,true,true,true,true,true,true,true,true,true,true,true,true,true,true,true,true] (nth undef T) G=D3 false (Ex.of (E ae))  (nth undef T) G:=by kernel_rfl
set_option maxHeartbeats 8000000 in
theorem Y9 (ae:FuncId→Bool):px Q ae Tryz.f3.ntmps (D5 (oB false (Ex.of (E ae))) ) (aS Tryz.f3) (qy Q Tryz.f3.results.toList) :=
 Ii Q ae (l:=[([true,true,true,true,true,true,true,true,true,true,true,true,true,true,true,true,true,true,true,true,true],(fun T G=>oB false (Ex.of (E ae)) (nth undef T) G))]) (by kernel_rfl) (j8.c (fun T G=>Y8 ae (oB false (Ex.of (E ae))) T G) (j8.z))
set_option maxHeartbeats 8000000 in
theorem Za (ae:FuncId→Bool) (J0:Env→GS→OG) (v0 v1 v2 v3 v4:Value) (G:GS):mB Q (aC Q ae) Tryz.f3.ntmps (D5 J0) (aS Tryz.f3) (nth undef [v0,v1,v2,v3,v4]) G (qy Q Tryz.f3.results.toList)=yY false (Ex.of (E ae)) J0 v0 v1 v2 v3 v4 G:=by kernel_rfl
set_option maxHeartbeats 8000000 in
theorem f3 {ae:FuncId→Bool} {e:Ex} (h:cf Q e (E ae)) (v0 v1 v2 v3 v4:Value) (G:GS):Ref (s3 true e v0 v1 v2 v3 v4 G) ((E ae).cl 3 [v0,v1,v2,v3,v4] G) :=
 fun r hr=>XQ Q ae (vs:=[v0,v1,v2,v3,v4]) G (D5 (oB false (Ex.of (E ae))) ) Tryz.func3 (by kernel_rfl) (by kernel_rfl) (by kernel_rfl) (by kernel_rfl) (by kernel_rfl) (Y9 ae) (Za ae (oB false (Ex.of (E ae))) v0 v1 v2 v3 v4 G) (m3 h v0 v1 v2 v3 v4 G r hr)
def D6 (q:Bool) (e:Ex) (lp:bU) (τ:Env) (G:GS):OL :=
 bV q (τ 1) fun cq =>
 bV q (τ 2) fun cE =>
 bV q (τ 9) fun IJ =>
 bV q (τ 10) fun tT =>
 bP (bn Q q .lss 3 (.tmp 10) (.tmp 9) tT IJ) fun x0 =>
 cD x0 (
 bP (fa Q q 38 0 0 cE) fun x1 =>
 bP (ld Q q 3 x1 G) fun x2 =>
 bP (bn Q q .add 3 (.tmp 15) (.tmp 16) x2 tT) fun x3 =>
 bS (e.ev.cl 12 [cq,x3,(.int .u64 18446744073709551615)] G) fun x4 G5 =>
 bP (fa Q q 38 1 1 cE) fun x6 =>
 bP (ld Q q 3 x6 G5) fun x7 =>
 bP (bn Q q .add 3 (.tmp 21) (.tmp 22) x7 tT) fun x8 =>
 bS (e.ev.cl 12 [cq,x8,(.int .u64 0)] G5) fun x9 G10 =>
 bP (bn Q q .add 3 (.tmp 10) (.const (.int .i64 1)) tT (.int .i64 1)) fun x11 =>
 lp (xq q 26 τ [(10,x11),(25,x11),(24,x9),(23,x8),(22,tT),(21,x7),(20,x6),(19,cq),(18,x4),(17,x3),(16,tT),(15,x2),(14,x1),(13,cq),(4,tT),(12,tT),(11,x0)] [(1,cq),(2,cE),(9,IJ)]) G10) (
 some ((.exit 0),xq q 26 τ [(11,x0)] [(1,cq),(2,cE),(9,IJ),(10,tT)],G))
theorem P7 (h:cf Q e (E ae)):LT ae 26 (bm [1,1,1,0,0] (aS Tryz.f10)) (D6 true e):=cL fun bJ τ G=>by unfold D6; exact Ref.gq
def s10 (q:Bool) (e:Ex) (v0 v1:Value) (G:GS):OG :=
 bS (bx q v0 G) fun x0 G1 =>
 bP (fV Q q 38 3 x0 G1) fun x2 =>
 bS (e.ev.cl 37 [x2] G1) fun x3 G4 =>
 bP (un Q q .not x3) fun x5 =>
 cD x5 (
 some (.tuple #[],G4)) (
 bP (fa Q q 38 2 2 x0) fun x6 =>
 bP (ld Q q 3 x6 G4) fun x7 =>
 kP q e 10 0 (bm [1,1,1,0,0] (aS Tryz.f10)) 26 (nth undef [v0,v1]) [(10,(.int .i64 0)),(9,x7),(8,x6),(7,x5),(6,x3),(5,x2),(2,x0)] [] G4 fun e8 t9 G10 =>
 dt e8 (.exit 0) (
 some (.tuple #[],G10)) (none))
theorem f10 (h:cf Q e (E ae)) (v0 v1:Value) (G:GS):Ref (s10 true e v0 v1 G) ((E ae).cl 10 [v0,v1] G):=cS (S:=fun q e=>s10 q e v0 v1 G) Tryz.func10 (by unfold s10; exact Ref.gq)
def s74 (q:Bool) (e:Ex) (v0 v1:Value) (G:GS):OG :=
 bS (bx q v0 G) fun x0 G1 =>
 bS (bx q v1 G1) fun x2 G3 =>
 bP (fV Q q 30 3 x0 G3) fun x4 =>
 bS (e.ev.cl 108 [x4] G3) fun x5 G6 =>
 bP (un Q q .not x5) fun x7 =>
 cD x7 (
 some (.tuple #[],G6)) (
 bP (ld Q q 39 x2 G6) fun x8 =>
 bP (fa Q q 30 0 0 x0) fun x9 =>
 bP (ld Q q 3 x9 G6) fun x10 =>
 bS (e.ev.cl 12 [x8,x10,(.int .u64 0)] G6) fun x11 G12 =>
 bP (fV Q q 30 3 x0 G12) fun x13 =>
 bS (e.ev.cl 109 [x13] G12) fun x14 G15 =>
 bX (gW e.ev x14 #[15,16] (bm [1,1,1,1,0,0] (aS Tryz.f74)) (bm [1,1,1,1,0,1] (aS Tryz.f74)) (rR q 20 (nth undef [v0,v1]) [(14,x14),(13,x13),(12,x11),(11,x10),(10,x9),(9,x8),(8,x7),(7,x5),(6,x4),(3,x2),(2,x0)]) G15) fun e16 T17 G18 =>
 dt e16 .normal (
 some (.tuple #[],G18)) (none))
theorem f74 (h:cf Q e (E ae)) (v0 v1:Value) (G:GS):Ref (s74 true e v0 v1 G) ((E ae).cl 74 [v0,v1] G):=cS (S:=fun q e=>s74 q e v0 v1 G) Tryz.func74 (by unfold s74; exact Ref.gq)
def Bz (q:Bool) (e:Ex) (l:Nat) (τ:Env) (u0 u1:Value) (G:GS):OG :=
 bV q (τ 3) fun j9 =>
 bP (G.loop l) fun r0=>if r0.st= .ready then
 bP (ld Q q 39 j9 (G.cC l (Lp.jW r0 .busy))) fun x1 =>
 bS (e.ev.cl 12 [x1,u1,(.int .u64 0)] (G.cC l (Lp.jW r0 .busy))) fun x2 G3 =>
 qx l .normal G3
 else none
theorem Zb {e:Ex} {E:Ev} (h:cf Q e E) (l:Nat) (τ:Env) (u0 u1:Value) (G:GS):Ref (Bz true e l τ u0 u1 G) (Bz false (Ex.of E) l τ u0 u1 G):=by
 unfold Bz
 repeat' (with_reducible first | exact Ref.rfl' _ | exact eE.r | refine Ref.bP ?_ fun _=>?_ | refine Ref.bS ?_ fun _ _=>?_ | exact Ref.cl (by assumption) | refine Ref.cD ?_ ?_ | refine jr.rx (by assumption) ?_ | refine Ref.DW ?_ | exact gI.z | refine gI.c (by assumption) ?_ | exact Ref.nil _ | refine Ref.DV fun _ _=>?_ | refine Ref.kP (by assumption) ?_ fun _ _ _=>?_ | refine Ref.dt ?_ ?_ | refine Ref.gp ?_ ?_ | refine fx.and ?_ ?_ | refine fx.or ?_ | exact fx.rfl' _ | refine fx.br ?_ | refine Ref.gd ?_ | exact Ref.dO (by assumption) | refine Ref.bX ?_ fun _ _ _=>?_ | exact Ref.DY (by assumption) | exact Ref.DX (by assumption) | exact Ref.dS (by assumption) | refine Ref.OJ ?_)
theorem Zc {ae:FuncId→Bool} {e:Ex} (h:cf Q e (E ae)) (l:Nat) (T:List Value) (u0 u1:Value) (G:GS) {st:LoopState} {aF:Option Code} (hl:G.loop l=some ⟨st,aF,T,[15,16],(bm [1,1,1,1,0,0] (aS Tryz.f74)),(bm [1,1,1,1,0,1] (aS Tryz.f74))⟩) (hT:T.length=20):Ref (Bz true e l (nth undef T) u0 u1 G) ((E ae).rd l [u0,u1] G) :=
 fun r hr=>OC Q ae hl (by kernel_rfl) hT (by kernel_rfl) (Zb h l _ u0 u1 G r hr)
def BA (q:Bool) (e:Ex) (lp:bU) (τ:Env) (G:GS):OL :=
 bV q (τ 1) fun cq =>
 bV q (τ 2) fun cE =>
 bV q (τ 4) fun BB =>
 bV q (τ 5) fun dT =>
 bV q (τ 15) fun fe =>
 bV q (τ 16) fun kg =>
 bP (fa Q q 26 1 1 cE) fun x2 =>
 bP (ld Q q 3 x2 (G.room 8)) fun x3 =>
 bP (bn Q q .add 3 (.tmp 27) (.tmp 28) x3 BB) fun x4 =>
 bS (e.ev.cl 141 [dT] (G.room 8)) fun x6 G5 =>
 gp ((br (ld Q q 3 x2 G5) x3&&true)) <|
 bS (e.ev.cl 12 [cq,x4,x6] G5) fun x8 G7 =>
 bP (bn Q q .add 3 (.tmp 16) (.const (.int .i64 1)) kg (.int .i64 1)) fun x9 =>
 lp (xq q 34 τ [(16,x9),(33,x9),(32,x8),(31,x6),(30,dT),(29,x4),(28,BB),(27,x3),(26,x2),(25,cq)] [(1,cq),(2,cE),(4,BB),(5,dT),(15,fe)]) G7
def oC (q:Bool) (e:Ex) (lp:bU) (τ:Env) (G:GS):OL:=BA q e lp τ G
theorem Zd {e:Ex} {E:Ev} (h:cf Q e E) {lp cN:bU} (bJ:jr lp cN) (τ:Env) (G:GS):Ref (oC true e lp τ G) (oC false (Ex.of E) cN τ G):=by
 unfold oC BA
 exact Ref.gq
theorem Ze {e:Ex} {E:Ev} (h:cf Q e E) {lp cN:bU} (bJ:jr lp cN) {τ:Env} {l U:List (Nat×Value)} {G:GS} (hU:gI τ U):Ref (oC true e lp (xq true 34 τ l U) G) (oC false (Ex.of E) cN (xq false 34 τ l U) G):=by
 rw [yR hU]
 exact Zd h bJ _ _
def yZ (q:Bool) (e:Ex) (lp:bU) (J0:bU) (τ:Env) (G:GS):OL :=
 bV q (τ 1) fun cq =>
 bV q (τ 2) fun cE =>
 bV q (τ 4) fun BB =>
 bV q (τ 5) fun dT =>
 bV q (τ 15) fun fe =>
 bV q (τ 16) fun kg =>
 bP (bn Q q .lss 3 (.tmp 16) (.tmp 15) kg fe) fun x0 =>
 cD x0 (
 bP (bn Q q .add 3 (.tmp 19) (.const (.int .i64 1)) kg (.int .i64 1)) fun x1 =>
 bP (fa Q q 26 2 2 cE) fun x10 =>
 bP (ld Q q 3 x10 G) fun x11 =>
 bP (bn Q q .eql 3 (.tmp 21) (.tmp 23) x1 x11) fun x12 =>
 cD x12 (
 J0 (xq q 34 τ [(5,(.int .i64 (-1))),(24,x12),(23,x11),(22,x10),(21,x1),(5,x1),(20,x1),(19,kg),(4,kg),(18,kg),(17,x0)] [(1,cq),(2,cE),(15,fe),(16,kg)]) G) (
 J0 (xq q 34 τ [(24,x12),(23,x11),(22,x10),(21,x1),(5,x1),(20,x1),(19,kg),(4,kg),(18,kg),(17,x0)] [(1,cq),(2,cE),(15,fe),(16,kg)]) G)) (
 some ((.exit 0),xq q 34 τ [(17,x0)] [(1,cq),(2,cE),(4,BB),(5,dT),(15,fe),(16,kg)],G))
def xf (q:Bool) (e:Ex) (lp:bU) (τ:Env) (G:GS):OL:=yZ q e lp (oC q e lp) τ G
theorem Zf {e:Ex} {E:Ev} (h:cf Q e E) {lp cN:bU} (bJ:jr lp cN) (τ:Env) (G:GS):Ref (xf true e lp τ G) (xf false (Ex.of E) cN τ G):=by
 unfold xf yZ
 have j0:=@Ze e E h lp cN bJ
 exact Ref.gj
def D7 (J0:bU):JT (Exit×Env×GS) :=
 (.n none .e (.n none .e (.n none (.n none (.n none .e (.n none .e (.n (some (fun T G=>J0 (nth undef T) G)) .e .e))) .e) .e)))
theorem Zg (ae:FuncId→Bool) (J0:bU) (T:List Value) (G:GS):qD Q (aC Q ae) 34 (D7 J0) (bm [1,1,1,1,0,0] (aS Tryz.f107)) (iq (fun τ G'=>bZ ((E ae).lp (bm [1,1,1,1,0,0] (aS Tryz.f107)) (aN 34 (nth undef (aN 34 τ))) G')) fun e τ G'=>some (e,nth undef (aN 34 τ),G')) [true,true,false,false,true,true] (nth undef T) G=BA false (Ex.of (E ae)) (fun τ G=>bZ ((E ae).lp (bm [1,1,1,1,0,0] (aS Tryz.f107)) (aN 34 τ) G))  (nth undef T) G:=by kernel_rfl
theorem Zh (ae:FuncId→Bool):px Q ae 34 (D7 (oC false (Ex.of (E ae)) (fun τ G=>bZ ((E ae).lp (bm [1,1,1,1,0,0] (aS Tryz.f107)) (aN 34 τ) G))) ) (bm [1,1,1,1,0,0] (aS Tryz.f107)) (iq (fun τ G'=>bZ ((E ae).lp (bm [1,1,1,1,0,0] (aS Tryz.f107)) (aN 34 (nth undef (aN 34 τ))) G')) fun e τ G'=>some (e,nth undef (aN 34 τ),G')) :=
 Ii Q ae (l:=[([true,true,false,false,true,true],(fun T G=>oC false (Ex.of (E ae)) (fun τ G=>bZ ((E ae).lp (bm [1,1,1,1,0,0] (aS Tryz.f107)) (aN 34 τ) G)) (nth undef T) G))]) (by kernel_rfl) (j8.c (fun T G=>Zg ae (oC false (Ex.of (E ae)) (fun τ G=>bZ ((E ae).lp (bm [1,1,1,1,0,0] (aS Tryz.f107)) (aN 34 τ) G))) T G) (j8.z))
theorem Zi (ae:FuncId→Bool) (J0:bU) (T:List Value) (G:GS):mB Q (aC Q ae) 34 (D7 J0) (bm [1,1,1,1,0,0] (aS Tryz.f107)) (nth undef T) G (iq (fun τ G'=>bZ ((E ae).lp (bm [1,1,1,1,0,0] (aS Tryz.f107)) (aN 34 (nth undef (aN 34 τ))) G')) fun e τ G'=>some (e,nth undef (aN 34 τ),G'))=yZ false (Ex.of (E ae)) (fun τ G=>bZ ((E ae).lp (bm [1,1,1,1,0,0] (aS Tryz.f107)) (aN 34 τ) G)) J0 (nth undef T) G:=by kernel_rfl
theorem P8 {ae:FuncId→Bool} {e:Ex} (h:cf Q e (E ae)) (lp:bU) (bJ:∀ τ G,Ref (lp τ G) (bZ ((E ae).lp (bm [1,1,1,1,0,0] (aS Tryz.f107)) (aN 34 τ) G))) (T:List Value) (G:GS) (hT:T.length=34):Ref (xf true e lp (nth undef T) G) (bZ ((E ae).lp (bm [1,1,1,1,0,0] (aS Tryz.f107)) T G)) :=
 fun r hr=>Pr Q ae G (D7 (oC false (Ex.of (E ae)) (fun τ G=>bZ ((E ae).lp (bm [1,1,1,1,0,0] (aS Tryz.f107)) (aN 34 τ) G))) ) hT (Zh ae) (Zi ae (oC false (Ex.of (E ae)) (fun τ G=>bZ ((E ae).lp (bm [1,1,1,1,0,0] (aS Tryz.f107)) (aN 34 τ) G))) T G) (Zf h ⟨bJ⟩ _ _ r hr)
def s107 (q:Bool) (e:Ex) (v0 v1:Value) (G:GS):OG :=
 bS (bx q v0 G) fun x0 G1 =>
 bP (fV Q q 26 3 x0 G1) fun x2 =>
 bS (e.ev.cl 140 [x2] G1) fun x3 G4 =>
 bP (un Q q .not x3) fun x5 =>
 cD x5 (
 some (.tuple #[],G4)) (
 bP (fa Q q 26 0 0 x0) fun x6 =>
 bP (ld Q q 3 x6 (G4.room 5)) fun x7 =>
 bS (e.ev.cl 141 [(.int .i64 0)] (G4.room 5)) fun x9 G8 =>
 gp ((br (ld Q q 3 x6 G8) x7&&true)) <|
 bS (e.ev.cl 12 [v1,x7,x9] G8) fun x11 G10 =>
 bP (fa Q q 26 2 2 x0) fun x12 =>
 bP (ld Q q 3 x12 G10) fun x13 =>
 kP q e 107 0 (bm [1,1,1,1,0,0] (aS Tryz.f107)) 34 (nth undef [v0,v1]) [(16,(.int .i64 0)),(15,x13),(14,x12),(13,x11),(12,x9),(11,x7),(10,x6),(9,v1),(8,x5),(7,x3),(6,x2),(2,x0)] [] G10 fun e14 t15 G16 =>
 dt e14 (.exit 0) (
 some (.tuple #[],G16)) (none))
theorem f107 (h:cf Q e (E ae)) (v0 v1:Value) (G:GS):Ref (s107 true e v0 v1 G) ((E ae).cl 107 [v0,v1] G):=cS (S:=fun q e=>s107 q e v0 v1 G) Tryz.func107 (by unfold s107; exact Ref.gq)
def y6 (q:Bool) (e:Ex) (lp:bU) (τ:Env) (G:GS):OL :=
 bV q (τ 2) fun cE =>
 bV q (τ 5) fun dT =>
 bV q (τ 27) fun xd =>
 bV q (τ 28) fun BD =>
 bV q (τ 29) fun y8 =>
 bP (bn Q q .lss 3 (.tmp 29) (.tmp 28) y8 BD) fun x0 =>
 cD x0 (
 bP (lK Q q 269 1 xd y8) fun x1 =>
 bP (ld Q q 141 x1 G) fun x2 =>
 bP (bn Q q .eql 40 (.tmp 33) (.const (.int .i64 7)) dT (.int .i64 7)) fun x3 =>
 bS (gP x3 true (ld Q q 95 cE G) G) fun x4 G5 =>
 bS (gP x3 true (cg x4) G5) fun x6 G7 =>
 bS (gP x3 true (fa Q q 138 4 22 x6) G7) fun x8 G9 =>
 bS (gP x3 true (ld Q q 3 x8 G9) G9) fun x10 G11 =>
 bS (gP x3 true (bn Q q .lss 3 (.tmp 39) (.const (.int .i64 3)) x10 (.int .i64 3)) G11) fun x12 G13 =>
 bP (pq x3 x12 (.bool false)) fun x14 =>
 cD x14 (
 bP (ld Q q 95 cE G13) fun x15 =>
 bP (cg x15) fun x16 =>
 bP (fa Q q 138 4 22 x16) fun x17 =>
 bP (ld Q q 3 x17 G13) fun x18 =>
 bP (bn Q q .add 3 (.tmp 45) (.const (.int .i64 1)) x18 (.int .i64 1)) fun x19 =>
 bP (cg x15) fun x20 =>
 bP (fa Q q 138 4 22 x20) fun x21 =>
 bP (st Q q 3 1 x21 x19 G13) fun G22 =>
 bP (ld Q q 95 cE (G22.room 13)) fun x23 =>
 bP (cg x23) fun x24 =>
 bP (fa Q q 138 0 0 x24) fun x25 =>
 bP (ld Q q 95 cE (G22.room 13)) fun x26 =>
 bP (cg x26) fun x27 =>
 bP (fa Q q 138 0 0 x27) fun x28 =>
 bP (ld Q q 95 cE (G22.room 13)) fun x29 =>
 bS (bs Q q 269 4 (rep z141 4) 1 [(0,0,1),(1,1,1),(2,2,1),(3,3,1)] [(.func (.func 158) #[] #[cE]),(.func (.func 87) #[x25] #[]),(.func (.func 77) #[x28] #[]),(.func (.func 78) #[x29] #[])] ((G22.room 13).aI (G22.nx+11))) fun x30 G31 =>
 some ((.goto 0),xq q 91 τ [(6,x30),(60,x30),(59,(.func (.func 78) #[x29] #[])),(58,x29),(57,(.func (.func 77) #[x28] #[])),(56,x28),(55,x27),(54,x26),(53,(.func (.func 87) #[x25] #[])),(52,x25),(51,x24),(50,x23),(49,(.func (.func 158) #[] #[cE])),(5,(.int .i64 0)),(48,x21),(47,x20),(46,x19),(45,x18),(44,x17),(43,x16),(42,x15),(41,x14),(40,x12),(39,x10),(38,x8),(37,x6),(36,x4),(35,x3),(34,x3),(33,dT),(8,x2),(32,x2),(31,x1),(30,x0)] [(2,cE),(27,xd),(28,BD),(29,y8)],(G31.back (G22.room 13)))) (
 bP (bn Q q .neq 40 (.tmp 61) (.const (.int .i64 0)) dT (.int .i64 0)) fun x32 =>
 cD x32 (
 bP (ld Q q 95 cE G13) fun x33 =>
 bP (cg x33) fun x34 =>
 bP (fa Q q 138 0 0 x34) fun x35 =>
 bP (fa Q q 135 6 18 x35) fun x36 =>
 bP (st Q q 40 1 x36 dT G13) fun G37 =>
 bP (ld Q q 95 cE (G37.room 10)) fun x38 =>
 bP (ld Q q 95 cE (G37.room 10)) fun x39 =>
 bP (cg x39) fun x40 =>
 bP (fa Q q 138 0 0 x40) fun x41 =>
 bS (e.ev.cl 87 [x41] (G37.room 10)) fun x43 G42 =>
 gp ((br (ld Q q 95 cE G42) x38&&true)) <|
 bS (bs Q q 133 1 (rep z140 1) 1 [(0,0,1)] [x43] (G42.aI (G37.nx+5))) fun x44 G45 =>
 bP (cg x38) fun x46 =>
 bP (fa Q q 138 0 0 x46) fun x47 =>
 bP (fa Q q 135 4 16 x47) fun x48 =>
 bP (st Q q 133 1 x48 x44 (G45.back G42)) fun G49 =>
 some (.ret,xq q 91 τ [(76,x48),(75,x47),(74,x46),(73,x44),(72,x43),(71,x41),(70,x40),(69,x39),(68,x38),(67,x36),(66,x35),(65,x34),(64,dT),(63,x33),(62,x32),(61,dT),(41,x14),(40,x12),(39,x10),(38,x8),(37,x6),(36,x4),(35,x3),(34,x3),(33,dT),(8,x2),(32,x2),(31,x1),(30,x0)] [(2,cE),(5,dT),(27,xd),(28,BD),(29,y8)],G49)) (
 bP (ld Q q 95 cE (G13.room 14)) fun x50 =>
 bP (ld Q q 95 cE (G13.room 14)) fun x51 =>
 bP (cg x51) fun x52 =>
 bP (fa Q q 138 0 0 x52) fun x53 =>
 bP (fa Q q 135 4 16 x53) fun x54 =>
 bP (ld Q q 133 x54 (G13.room 14)) fun x55 =>
 bS (dO e.ev x2 [] (G13.room 14)) fun x57 G56 =>
 gp ((br (ld Q q 133 x54 G56) x55&&(br (ld Q q 95 cE G56) x51&&(br (ld Q q 95 cE G56) x50&&true)))) <|
 bS (bs Q q 133 1 (rep z140 1) 1 [(0,0,1)] [x57] (G56.aI (G13.nx+8))) fun x58 G59 =>
 bS (ap Q q 133 133 1 16 x55 x58 (G59.back G56)) fun x61 G60 =>
 gp ((br (ld Q q 95 cE G60) x50&&true)) <|
 bP (cg x50) fun x62 =>
 bP (fa Q q 138 0 0 x62) fun x63 =>
 bP (fa Q q 135 4 16 x63) fun x64 =>
 bP (st Q q 133 1 x64 x61 G60) fun G65 =>
 bP (bn Q q .add 3 (.tmp 29) (.const (.int .i64 1)) y8 (.int .i64 1)) fun x66 =>
 lp (xq q 91 τ [(29,x66),(90,x66),(89,x64),(88,x63),(87,x62),(86,x61),(85,x58),(84,x57),(83,x2),(82,x55),(81,x54),(80,x53),(79,x52),(78,x51),(77,x50),(62,x32),(61,dT),(41,x14),(40,x12),(39,x10),(38,x8),(37,x6),(36,x4),(35,x3),(34,x3),(33,dT),(8,x2),(32,x2),(31,x1),(30,x0)] [(2,cE),(5,dT),(27,xd),(28,BD)]) G65))) (
 some ((.exit 0),xq q 91 τ [(30,x0)] [(2,cE),(5,dT),(27,xd),(28,BD),(29,y8)],G))
theorem Zj {e:Ex} {E:Ev} (h:cf Q e E) {lp cN:bU} (bJ:jr lp cN) (τ:Env) (G:GS):Ref (y6 true e lp τ G) (y6 false (Ex.of E) cN τ G):=by
 unfold y6
 exact Ref.gq
set_option maxHeartbeats 8000000 in
theorem P9 {ae:FuncId→Bool} {e:Ex} (h:cf Q e (E ae)) (lp:bU) (bJ:∀ τ G,Ref (lp τ G) (bZ ((E ae).lp (bm [1,0,1,1,1,1,1,0,0] (aS Tryz.f117)) (aN 91 τ) G))) (T:List Value) (G:GS) (hT:T.length=91):Ref (y6 true e lp (nth undef T) G) (bZ ((E ae).lp (bm [1,0,1,1,1,1,1,0,0] (aS Tryz.f117)) T G)) :=
 fun r hr=>yQ Q ae G hT (by kernel_rfl) (Zj h ⟨bJ⟩ _ _ r hr)
def s117 (q:Bool) (e:Ex) (v0 v1:Value) (G:GS):OG :=
 bS (bx q v0 G) fun x0 G1 =>
 bS (e.ev.cl 155 [v1] G1) fun x2 G3 =>
 bP (lF x2 0) fun x4 =>
 bP (lF x2 1) fun x5 =>
 bP (ld Q q 95 x0 G3) fun x6 =>
 bP (cg x6) fun x7 =>
 bP (fa Q q 138 5 23 x7) fun x8 =>
 bP (st Q q 46 1 x8 x4 G3) fun G9 =>
 bP (ld Q q 95 x0 (G9.room 10)) fun x10 =>
 bP (ld Q q 95 x0 (G9.room 10)) fun x11 =>
 bP (ld Q q 95 x0 (G9.room 10)) fun x12 =>
 bP (cg x12) fun x13 =>
 bP (fa Q q 138 0 0 x13) fun x14 =>
 bS (bs Q q 269 3 (rep z141 3) 1 [(0,0,1),(1,1,1),(2,2,1)] [(.func (.func 156) #[x10] #[]),(.func (.func 157) #[x11] #[]),(.func (.func 87) #[x14] #[])] ((G9.room 10).aI (G9.nx+8))) fun x15 G16 =>
 bP (ln Q q 269 x15) fun x17 =>
 kP q e 117 0 (bm [1,0,1,1,1,1,1,0,0] (aS Tryz.f117)) 91 (nth undef [v0,v1]) [(29,(.int .i64 0)),(28,x17),(27,x15),(6,x15),(26,x15),(25,(.func (.func 87) #[x14] #[])),(24,x14),(23,x13),(22,x12),(21,(.func (.func 157) #[x11] #[])),(20,x11),(19,(.func (.func 156) #[x10] #[])),(18,x10),(17,x8),(16,x7),(15,x4),(14,x6),(5,x5),(4,x4),(13,x5),(12,x4),(9,x2),(11,x2),(10,v1),(2,x0)] [] (G16.back (G9.room 10)) fun e18 t19 G20 =>
 dt e18 (.exit 0) (
 some (.tuple #[],G20)) (dt e18 (.goto 0) (
 bX (e.ev.sc (bm [1,0] (aS Tryz.f117)) (Xc 0 (bm [1,0] (aS Tryz.f117))) (rR q 91 t19 []) G20) fun e21 T22 G23 =>
 dt e21 .normal (
 some (.tuple #[],G23)) (dt e21 (.goto 0) (
 none) (dt e21 .ret (
 some (.tuple #[],G23)) (none)))) (dt e18 .ret (
 some (.tuple #[],G20)) (none)))
theorem m117 {e:Ex} {E:Ev} (h:cf Q e E) (v0 v1:Value) (G:GS):Ref (s117 true e v0 v1 G) (s117 false (Ex.of E) v0 v1 G):=by
 unfold s117
 exact Ref.gq
set_option maxHeartbeats 8000000 in
theorem f117 {ae:FuncId→Bool} {e:Ex} (h:cf Q e (E ae)) (v0 v1:Value) (G:GS):Ref (s117 true e v0 v1 G) ((E ae).cl 117 [v0,v1] G) :=
 fun r hr=>Dz Q ae (vs:=[v0,v1]) G Tryz.func117 (by kernel_rfl) (by kernel_rfl) (by kernel_rfl) (by kernel_rfl) (by kernel_rfl) (by kernel_rfl) (m117 h v0 v1 G r hr)
def D8 (q:Bool) (e:Ex) (lp:bU) (τ:Env) (G:GS):OL :=
 bV q (τ 0) fun aK =>
 bV q (τ 1) fun cq =>
 bV q (τ 5) fun dT =>
 bV q (τ 6) fun eS =>
 bP (bn Q q .lss 3 (.tmp 6) (.tmp 5) eS dT) fun x0 =>
 cD x0 (
 bP (fa Q q 30 1 1 cq) fun x1 =>
 bP (ld Q q 3 x1 G) fun x2 =>
 bP (bn Q q .add 3 (.tmp 12) (.tmp 13) x2 eS) fun x3 =>
 bS (dO e.ev aK [eS,x3] G) fun x4 G5 =>
 bP (un Q q .not x4) fun x6 =>
 cD x6 (
 some (.ret,xq q 18 τ [(16,x6),(15,x4),(14,x3),(13,eS),(12,x2),(11,x1),(10,eS),(9,aK),(3,eS),(8,eS),(7,x0)] [(0,aK),(1,cq),(5,dT),(6,eS)],G5)) (
 bP (bn Q q .add 3 (.tmp 6) (.const (.int .i64 1)) eS (.int .i64 1)) fun x7 =>
 lp (xq q 18 τ [(6,x7),(17,x7),(16,x6),(15,x4),(14,x3),(13,eS),(12,x2),(11,x1),(10,eS),(9,aK),(3,eS),(8,eS),(7,x0)] [(0,aK),(1,cq),(5,dT)]) G5)) (
 some ((.exit 0),xq q 18 τ [(7,x0)] [(0,aK),(1,cq),(5,dT),(6,eS)],G))
theorem Qa (h:cf Q e (E ae)):LT ae 18 (bm [1,0,0] (aS Tryz.f142)) (D8 true e):=cL fun bJ τ G=>by unfold D8; exact Ref.gq
def s142 (q:Bool) (e:Ex) (v0 v1:Value) (G:GS):OG :=
 bP (fa Q q 30 2 2 v1) fun x0 =>
 bP (ld Q q 3 x0 G) fun x1 =>
 kP q e 142 0 (bm [1,0,0] (aS Tryz.f142)) 18 (nth undef [v0,v1]) [(6,(.int .i64 0)),(5,x1),(4,x0)] [] G fun e2 t3 G4 =>
 dt e2 (.exit 0) (
 some (.tuple #[],G4)) (dt e2 .ret (
 some (.tuple #[],G4)) (none))
theorem f142 (h:cf Q e (E ae)) (v0 v1:Value) (G:GS):Ref (s142 true e v0 v1 G) ((E ae).cl 142 [v0,v1] G):=cS (S:=fun q e=>s142 q e v0 v1 G) Tryz.func142 (by unfold s142; exact Ref.gq)
def s179 (q:Bool) (e:Ex) (v0 v1 v2 v3 v4:Value) (G:GS):OG :=
 bS (bx q v0 G) fun x0 G1 =>
 bP (fV Q q 34 13 x0 G1) fun x2 =>
 bS (e.ev.cl 199 [x2,v1,v3,v4] G1) fun x3 G4 =>
 bP (bd Q q 349 z349 [(0,0,1),(1,1,1),(4,7,1)] [(.bool true),v1,x3]) fun x5 =>
 bS (bx q x5 G4) fun x6 G7 =>
 nl q 349 4 7 40 x6 G7 fun x10 =>
 bP (bn Q q .neq 40 (.tmp 25) (.const (.int .i64 0)) x10 (.int .i64 0)) fun x11 =>
 cD x11 (
 nf q 349 3 6 x6 fun x13 =>
 bP (st Q q 3 1 x13 (.int .i64 4) G7) fun G14 =>
 some (x6,G14)) (
 bP (fV Q q 34 13 x0 G7) fun x15 =>
 bS (e.ev.cl 129 [x15,v1] G7) fun x16 G17 =>
 bS (al Q q 3 z3 G17) fun x18 G19 =>
 bP (st Q q 3 1 x18 x16 G19) fun G20 =>
 bS (dO e.ev (.func (.func 200) #[] #[x0,x18]) [(.int .i64 0),v2] G20) fun x21 G22 =>
 bP (cv Q q 3 46 .i64 .u64 v3) fun x23 =>
 bS (dO e.ev (.func (.func 200) #[] #[x0,x18]) [(.int .i64 1),x23] G22) fun x24 G25 =>
 bP (cv Q q 3 46 .i64 .u64 v4) fun x26 =>
 bS (dO e.ev (.func (.func 200) #[] #[x0,x18]) [(.int .i64 2),x26] G25) fun x27 G28 =>
 bS (dO e.ev (.func (.func 200) #[] #[x0,x18]) [(.int .i64 3),(.int .u64 2)] G28) fun x29 G30 =>
 bP (bd Q q 347 z347 [(0,0,1),(1,1,1),(2,2,1),(3,3,1)] [x21,x24,x27,x29]) fun x31 =>
 nf q 349 2 2 x6 fun x33 =>
 bP (st Q q 347 4 x33 x31 G30) fun G34 =>
 some (x6,G34))
theorem f179 (h:cf Q e (E ae)) (v0 v1 v2 v3 v4:Value) (G:GS):Ref (s179 true e v0 v1 v2 v3 v4 G) ((E ae).cl 179 [v0,v1,v2,v3,v4] G):=cS (S:=fun q e=>s179 q e v0 v1 v2 v3 v4 G) Tryz.func179 (by unfold s179; exact Ref.gq)
def s230 (q:Bool) (e:Ex) (v0 v1:Value) (G:GS):OG :=
 bS (bx q v0 G) fun x0 G1 =>
 bS (bx q v1 G1) fun x2 G3 =>
 bP (ld Q q 221 x0 (G3.room 10)) fun x4 =>
 bP (cg x4) fun x5 =>
 bP (fa Q q 376 0 0 x5) fun x6 =>
 bP (fa Q q 34 2 2 x6) fun x7 =>
 bP (ld Q q 3 x7 (G3.room 10)) fun x8 =>
 bP (ld Q q 221 x0 (G3.room 10)) fun x9 =>
 bP (cg x9) fun x10 =>
 bP (fa Q q 376 5 20 x10) fun x11 =>
 bP (ld Q q 374 x11 (G3.room 10)) fun x12 =>
 bS (e.ev.cl 234 [x8,x12] (G3.room 10)) fun x14 G13 =>
 bX (gW e.ev x14 #[16,17] (bm [1,0,1,0,0] (aS Tryz.f230)) (bm [1,0,1,0,1] (aS Tryz.f230)) (rR q 31 (nth undef [v0,v1]) [(15,x14),(14,x12),(13,x11),(12,x10),(11,x9),(10,x8),(9,x7),(8,x6),(7,x5),(6,x4),(3,x2),(2,x0)]) G13) fun e15 T16 G17 =>
 bV q (nth undef T16 2) fun Zk =>
 dt e15 .normal (
 bP (ld Q q 221 Zk G17) fun x18 =>
 nf q 376 2 14 x18 fun x20 =>
 bP (st Q q 3 1 x20 (.int .i64 9) G17) fun G21 =>
 some (.tuple #[],G21)) (dt e15 .ret (
 some (.tuple #[],G17)) (none))
theorem f230 (h:cf Q e (E ae)) (v0 v1:Value) (G:GS):Ref (s230 true e v0 v1 G) ((E ae).cl 230 [v0,v1] G):=cS (S:=fun q e=>s230 q e v0 v1 G) Tryz.func230 (by unfold s230; exact Ref.gq)
def y9 (q:Bool) (e:Ex) (l:Nat) (τ:Env) (u0 u1:Value) (G:GS):OG :=
 bV q (τ 2) fun cE =>
 bV q (τ 3) fun j9 =>
 bS (al Q q 373 z373 G) fun x0 G1 =>
 bP (st Q q 373 4 x0 u1 G1) fun G2 =>
 bP (G2.loop l) fun r3=>if r3.st= .ready then
 bP (ld Q q 3 j9 (G2.cC l (Lp.jW r3 .busy))) fun x4 =>
 bP (bn Q q .eql 3 (.tmp 18) (.tmp 19) u0 x4) fun x5 =>
 cD x5 (
 bP (ld Q q 221 cE ((G2.cC l (Lp.jW r3 .busy)).room 9)) fun x6 =>
 bP (ld Q q 221 cE ((G2.cC l (Lp.jW r3 .busy)).room 9)) fun x7 =>
 bP (fV Q q 373 4 x0 ((G2.cC l (Lp.jW r3 .busy)).room 9)) fun x8 =>
 nf q 376 3 15 x6 fun x10 =>
 bP (st Q q 373 4 x10 x8 ((G2.cC l (Lp.jW r3 .busy)).room 9)) fun G11 =>
 gp ((br (ld Q q 221 cE G11) x7&&true)) <|
 nf q 376 2 14 x7 fun x13 =>
 bP (st Q q 3 1 x13 (.int .i64 1) G11) fun G14 =>
 qx l .ret G14) (
 qx l .normal (G2.cC l (Lp.jW r3 .busy)))
 else none
theorem Zl {e:Ex} {E:Ev} (h:cf Q e E) (l:Nat) (τ:Env) (u0 u1:Value) (G:GS):Ref (y9 true e l τ u0 u1 G) (y9 false (Ex.of E) l τ u0 u1 G):=by
 unfold y9
 repeat' (with_reducible first | exact Ref.rfl' _ | exact eE.r | refine Ref.bP ?_ fun _=>?_ | refine Ref.bS ?_ fun _ _=>?_ | exact Ref.cl (by assumption) | refine Ref.cD ?_ ?_ | refine jr.rx (by assumption) ?_ | refine Ref.DW ?_ | exact gI.z | refine gI.c (by assumption) ?_ | exact Ref.nil _ | refine Ref.DV fun _ _=>?_ | refine Ref.kP (by assumption) ?_ fun _ _ _=>?_ | refine Ref.dt ?_ ?_ | refine Ref.gp ?_ ?_ | refine fx.and ?_ ?_ | refine fx.or ?_ | exact fx.rfl' _ | refine fx.br ?_ | refine Ref.gd ?_ | exact Ref.dO (by assumption) | refine Ref.bX ?_ fun _ _ _=>?_ | exact Ref.DY (by assumption) | exact Ref.DX (by assumption) | exact Ref.dS (by assumption) | refine Ref.OJ ?_)
theorem Qb {ae:FuncId→Bool} {e:Ex} (h:cf Q e (E ae)) (l:Nat) (T:List Value) (u0 u1:Value) (G:GS) {st:LoopState} {aF:Option Code} (hl:G.loop l=some ⟨st,aF,T,[16,17],(bm [1,0,1,0,0] (aS Tryz.f230)),(bm [1,0,1,0,1] (aS Tryz.f230))⟩) (hT:T.length=31):Ref (y9 true e l (nth undef T) u0 u1 G) ((E ae).rd l [u0,u1] G) :=
 fun r hr=>OC Q ae hl (by kernel_rfl) hT (by kernel_rfl) (Zl h l _ u0 u1 G r hr)
def pz (q:Bool) (e:Ex) (lp:bU) (τ:Env) (G:GS):OL :=
 bV q (τ 0) fun aK =>
 bV q (τ 1) fun cq =>
 bV q (τ 5) fun dT =>
 bV q (τ 6) fun eS =>
 bP (cg aK) fun x0 =>
 bP (fa Q q 376 2 14 x0) fun x1 =>
 bP (ld Q q 3 x1 G) fun x2 =>
 bP (bn Q q .eql 3 (.tmp 56) (.const (.int .i64 1)) x2 (.int .i64 1)) fun x3 =>
 cD x3 (
 bS (e.ev.cl 49 [cq,dT] G) fun x4 G5 =>
 bP (cg aK) fun x6 =>
 bP (fa Q q 376 3 15 x6) fun x7 =>
 bP (fa Q q 373 3 3 x7) fun x8 =>
 bP (st Q q 46 1 x8 x4 G5) fun G9 =>
 bP (cg aK) fun x10 =>
 bP (fa Q q 376 3 15 x10) fun x11 =>
 bP (fa Q q 373 3 3 x11) fun x12 =>
 bP (ld Q q 46 x12 G9) fun x13 =>
 bS (e.ev.cl 99 [x13] G9) fun x14 G15 =>
 cD x14 (
 bS (e.ev.cl 222 [aK] G15) fun x16 G17 =>
 some ((.exit 0),xq q 195 τ [(76,x16),(75,aK),(74,x14),(73,x13),(72,x12),(71,x11),(70,x10),(69,aK),(68,x8),(67,x7),(66,x6),(65,x4),(64,dT),(63,cq),(62,aK),(60,x3),(61,x3),(56,x2),(55,x1),(54,x0),(53,aK)] [(0,aK),(1,cq),(5,dT),(6,eS)],G17)) (
 bS (e.ev.cl 289 [aK] G15) fun x18 G19 =>
 some ((.exit 0),xq q 195 τ [(189,x18),(188,aK),(74,x14),(73,x13),(72,x12),(71,x11),(70,x10),(69,aK),(68,x8),(67,x7),(66,x6),(65,x4),(64,dT),(63,cq),(62,aK),(60,x3),(61,x3),(56,x2),(55,x1),(54,x0),(53,aK)] [(0,aK),(1,cq),(5,dT),(6,eS)],G19))) (
 bP (bn Q q .eql 3 (.tmp 56) (.const (.int .i64 2)) x2 (.int .i64 2)) fun x20 =>
 cD x20 (
 bP (cg aK) fun x21 =>
 bP (fa Q q 376 3 15 x21) fun x22 =>
 bP (fa Q q 373 3 3 x22) fun x23 =>
 bP (ld Q q 46 x23 G) fun x24 =>
 bP (cg aK) fun x25 =>
 bP (fa Q q 376 6 21 x25) fun x26 =>
 bP (st Q q 46 1 x26 x24 G) fun G27 =>
 bP (cg aK) fun x28 =>
 bP (fa Q q 376 0 0 x28) fun x29 =>
 bP (fV Q q 34 13 x29 (G27.room 17)) fun x30 =>
 bP (cg aK) fun x31 =>
 bP (fa Q q 376 3 15 x31) fun x32 =>
 bP (fa Q q 373 0 0 x32) fun x33 =>
 bP (ld Q q 3 x33 (G27.room 17)) fun x34 =>
 bS (e.ev.cl 101 [x30,eS,x34] (G27.room 17)) fun x36 G35 =>
 bS (e.ev.cl 49 [cq,x36] G35) fun x38 G37 =>
 bP (cg aK) fun x39 =>
 bP (fa Q q 376 4 19 x39) fun x40 =>
 bP (st Q q 46 1 x40 x38 G37) fun G41 =>
 bP (cg aK) fun x42 =>
 bP (fa Q q 376 2 14 x42) fun x43 =>
 bP (st Q q 3 1 x43 (.int .i64 4) G41) fun G44 =>
 bP (cg aK) fun x45 =>
 bP (fa Q q 376 4 19 x45) fun x46 =>
 bP (ld Q q 46 x46 G44) fun x47 =>
 bS (e.ev.cl 99 [x47] G44) fun x48 G49 =>
 cD x48 (
 bP (cg aK) fun x50 =>
 bP (fa Q q 376 2 14 x50) fun x51 =>
 bP (st Q q 3 1 x51 (.int .i64 3) G49) fun G52 =>
 some ((.exit 0),xq q 195 τ [(113,x51),(112,x50),(111,aK),(110,x48),(109,x47),(108,x46),(107,x45),(106,aK),(105,x43),(104,x42),(103,aK),(102,x40),(101,x39),(100,x38),(99,x36),(98,x34),(97,x33),(96,x32),(95,x31),(94,aK),(93,eS),(92,x30),(91,x29),(90,x28),(89,aK),(88,cq),(87,aK),(86,x26),(85,x25),(84,x24),(83,x23),(82,x22),(81,x21),(80,aK),(79,aK),(77,x20),(78,x20),(60,x3),(61,x3),(56,x2),(55,x1),(54,x0),(53,aK)] [(0,aK),(1,cq),(5,dT),(6,eS)],G52)) (
 some ((.exit 0),xq q 195 τ [(110,x48),(109,x47),(108,x46),(107,x45),(106,aK),(105,x43),(104,x42),(103,aK),(102,x40),(101,x39),(100,x38),(99,x36),(98,x34),(97,x33),(96,x32),(95,x31),(94,aK),(93,eS),(92,x30),(91,x29),(90,x28),(89,aK),(88,cq),(87,aK),(86,x26),(85,x25),(84,x24),(83,x23),(82,x22),(81,x21),(80,aK),(79,aK),(77,x20),(78,x20),(60,x3),(61,x3),(56,x2),(55,x1),(54,x0),(53,aK)] [(0,aK),(1,cq),(5,dT),(6,eS)],G49))) (
 bP (bn Q q .eql 3 (.tmp 56) (.const (.int .i64 3)) x2 (.int .i64 3)) fun x53 =>
 cD x53 (
 bP (cg aK) fun x54 =>
 bP (fa Q q 376 3 15 x54) fun x55 =>
 bP (fa Q q 373 3 3 x55) fun x56 =>
 bP (ld Q q 46 x56 (G.room 14)) fun x57 =>
 bP (cg aK) fun x58 =>
 bP (fa Q q 376 4 19 x58) fun x59 =>
 bP (ld Q q 46 x59 (G.room 14)) fun x60 =>
 bS (e.ev.cl 212 [x60,(.bool false)] (G.room 14)) fun x62 G61 =>
 gp ((br (ld Q q 46 x56 G61) x57&&true)) <|
 bS (e.ev.cl 224 [cq,dT,x57,x62] G61) fun x64 G63 =>
 bP (un Q q .not x64) fun x65 =>
 cD x65 (
 bS (e.ev.cl 222 [aK] G63) fun x66 G67 =>
 some ((.exit 0),xq q 195 τ [(131,x66),(130,aK),(129,x65),(128,x64),(127,x62),(126,x60),(125,x59),(124,x58),(123,aK),(122,x57),(121,x56),(120,x55),(119,x54),(118,aK),(117,dT),(116,cq),(114,x53),(115,x53),(77,x20),(78,x20),(60,x3),(61,x3),(56,x2),(55,x1),(54,x0),(53,aK)] [(0,aK),(1,cq),(5,dT),(6,eS)],G67)) (
 bP (cg aK) fun x68 =>
 bP (fa Q q 376 4 19 x68) fun x69 =>
 bP (ld Q q 46 x69 G63) fun x70 =>
 bS (e.ev.cl 212 [x70,(.bool false)] G63) fun x71 G72 =>
 bP (cg aK) fun x73 =>
 bP (fa Q q 376 3 15 x73) fun x74 =>
 bP (fa Q q 373 3 3 x74) fun x75 =>
 bP (st Q q 46 1 x75 x71 G72) fun G76 =>
 bS (e.ev.cl 289 [aK] G76) fun x77 G78 =>
 some ((.exit 0),xq q 195 τ [(189,x77),(188,aK),(140,x75),(139,x74),(138,x73),(137,x71),(136,x70),(135,x69),(134,x68),(133,aK),(132,aK),(129,x65),(128,x64),(127,x62),(126,x60),(125,x59),(124,x58),(123,aK),(122,x57),(121,x56),(120,x55),(119,x54),(118,aK),(117,dT),(116,cq),(114,x53),(115,x53),(77,x20),(78,x20),(60,x3),(61,x3),(56,x2),(55,x1),(54,x0),(53,aK)] [(0,aK),(1,cq),(5,dT),(6,eS)],G78))) (
 bP (bn Q q .eql 3 (.tmp 56) (.const (.int .i64 4)) x2 (.int .i64 4)) fun x79 =>
 cD x79 (
 bP (cg aK) fun x80 =>
 bP (fa Q q 376 3 15 x80) fun x81 =>
 bP (fa Q q 373 3 3 x81) fun x82 =>
 bP (ld Q q 46 x82 G) fun x83 =>
 bP (cg aK) fun x84 =>
 bP (fa Q q 376 6 21 x84) fun x85 =>
 bP (st Q q 46 1 x85 x83 G) fun G86 =>
 bP (cg aK) fun x87 =>
 bP (fa Q q 376 0 0 x87) fun x88 =>
 bP (fV Q q 34 13 x88 (G86.room 13)) fun x89 =>
 bS (e.ev.cl 110 [x89,eS,(.int .i64 0)] (G86.room 13)) fun x91 G90 =>
 bS (e.ev.cl 49 [cq,x91] G90) fun x93 G92 =>
 bP (cg aK) fun x94 =>
 bP (fa Q q 376 1 13 x94) fun x95 =>
 bP (ld Q q 46 x95 G92) fun x96 =>
 gp ((br (ld Q q 46 x95 G90) x96&&(br (ld Q q 46 x95 (G86.room 13)) x96&&true))) <|
 bP (bn Q q .geq 46 (.tmp 158) (.tmp 162) x93 x96) fun x97 =>
 cD x97 (
 bS (e.ev.cl 288 [aK] G92) fun x98 G99 =>
 some ((.exit 0),xq q 195 τ [(165,x98),(164,aK),(163,x97),(162,x96),(161,x95),(160,x94),(159,aK),(158,x93),(157,x91),(156,eS),(155,x89),(154,x88),(153,x87),(152,aK),(151,cq),(150,x85),(149,x84),(148,x83),(147,x82),(146,x81),(145,x80),(144,aK),(143,aK),(141,x79),(142,x79),(114,x53),(115,x53),(77,x20),(78,x20),(60,x3),(61,x3),(56,x2),(55,x1),(54,x0),(53,aK)] [(0,aK),(1,cq),(5,dT),(6,eS)],G99)) (
 bP (cg aK) fun x100 =>
 bP (fa Q q 376 3 15 x100) fun x101 =>
 bP (fa Q q 373 3 3 x101) fun x102 =>
 bP (ld Q q 46 x102 (G92.room 25)) fun x103 =>
 bP (cg aK) fun x104 =>
 bP (fa Q q 376 4 19 x104) fun x105 =>
 bP (ld Q q 46 x105 (G92.room 25)) fun x106 =>
 bP (cg aK) fun x107 =>
 bP (fa Q q 376 3 15 x107) fun x108 =>
 bP (fa Q q 373 1 1 x108) fun x109 =>
 bP (st Q q 3 1 x109 eS (G92.room 25)) fun G110 =>
 bP (cg aK) fun x111 =>
 bP (fa Q q 376 3 15 x111) fun x112 =>
 bP (fa Q q 373 2 2 x112) fun x113 =>
 bP (st Q q 46 1 x113 x103 G110) fun G114 =>
 bP (cg aK) fun x115 =>
 bP (fa Q q 376 3 15 x115) fun x116 =>
 bP (fa Q q 373 3 3 x116) fun x117 =>
 bP (st Q q 46 1 x117 x106 G114) fun G118 =>
 bS (e.ev.cl 289 [aK] G118) fun x119 G120 =>
 some ((.exit 0),xq q 195 τ [(189,x119),(188,aK),(187,x117),(186,x116),(185,x115),(184,x113),(183,x112),(182,x111),(181,x109),(180,x108),(179,x107),(178,x106),(177,x105),(176,x104),(175,aK),(174,x103),(173,x102),(172,x101),(171,x100),(170,aK),(169,eS),(168,aK),(167,aK),(166,aK),(163,x97),(162,x96),(161,x95),(160,x94),(159,aK),(158,x93),(157,x91),(156,eS),(155,x89),(154,x88),(153,x87),(152,aK),(151,cq),(150,x85),(149,x84),(148,x83),(147,x82),(146,x81),(145,x80),(144,aK),(143,aK),(141,x79),(142,x79),(114,x53),(115,x53),(77,x20),(78,x20),(60,x3),(61,x3),(56,x2),(55,x1),(54,x0),(53,aK)] [(0,aK),(1,cq),(5,dT),(6,eS)],G120))) (
 bP (cg aK) fun x121 =>
 bP (fa Q q 376 2 14 x121) fun x122 =>
 bP (st Q q 3 1 x122 (.int .i64 1) G) fun G123 =>
 lp (xq q 195 τ [(59,x122),(58,x121),(57,aK),(141,x79),(142,x79),(114,x53),(115,x53),(77,x20),(78,x20),(60,x3),(61,x3),(56,x2),(55,x1),(54,x0),(53,aK)] [(0,aK),(1,cq),(5,dT),(6,eS)]) G123))))
theorem Zm {e:Ex} {E:Ev} (h:cf Q e E) {lp cN:bU} (bJ:jr lp cN) (τ:Env) (G:GS):Ref (pz true e lp τ G) (pz false (Ex.of E) cN τ G):=by
 unfold pz
 exact Ref.gq
set_option maxHeartbeats 8000000 in
theorem Zn {ae:FuncId→Bool} {e:Ex} (h:cf Q e (E ae)) (lp:bU) (bJ:∀ τ G,Ref (lp τ G) (bZ ((E ae).lp (bm [1,0,1,1,1,1,1,0,0,0] (aS Tryz.f283)) (aN 195 τ) G))) (T:List Value) (G:GS) (hT:T.length=195):Ref (pz true e lp (nth undef T) G) (bZ ((E ae).lp (bm [1,0,1,1,1,1,1,0,0,0] (aS Tryz.f283)) T G)) :=
 fun r hr=>yQ Q ae G hT (by kernel_rfl) (Zm h ⟨bJ⟩ _ _ r hr)
def s283 (q:Bool) (e:Ex) (v0 v1:Value) (G:GS):OG :=
 bP (ep Q q false 221 (.tmp 7) (.const (.pointer none)) v0 (.pointer none)) fun x0 =>
 bS (gV x0 false v0 G) fun x1 G2 =>
 bS (gP x0 false (cg x1) G2) fun x3 G4 =>
 bS (gP x0 false (fa Q q 376 7 22 x3) G4) fun x5 G6 =>
 bS (gP x0 false (ld Q q 4 x5 G6) G6) fun x7 G8 =>
 bS (gP x0 false (un Q q .not x7) G8) fun x9 G10 =>
 bP (pq x0 (.bool true) x9) fun x11 =>
 bS (gV x11 false v0 G10) fun x12 G13 =>
 bS (gP x11 false (cg x12) G13) fun x14 G15 =>
 bS (gP x11 false (fa Q q 376 2 14 x14) G15) fun x16 G17 =>
 bS (gP x11 false (ld Q q 3 x16 G17) G17) fun x18 G19 =>
 bS (gP x11 false (bn Q q .eql 3 (.tmp 20) (.const (.int .i64 9)) x18 (.int .i64 9)) G19) fun x20 G21 =>
 bP (pq x11 (.bool true) x20) fun x22 =>
 cD x22 (
 some ((.bool true),G21)) (
 bP (cg v0) fun x23 =>
 bP (fa Q q 376 0 0 x23) fun x24 =>
 bP (fV Q q 34 13 x24 (G21.room 16)) fun x25 =>
 bP (cg v0) fun x26 =>
 bP (fa Q q 376 3 15 x26) fun x27 =>
 bP (fa Q q 373 1 1 x27) fun x28 =>
 bP (ld Q q 3 x28 (G21.room 16)) fun x29 =>
 bP (cg v0) fun x30 =>
 bP (fa Q q 376 3 15 x30) fun x31 =>
 bP (fa Q q 373 0 0 x31) fun x32 =>
 bP (ld Q q 3 x32 (G21.room 16)) fun x33 =>
 bS (e.ev.cl 101 [x25,x29,x33] (G21.room 16)) fun x35 G34 =>
 bP (cg v0) fun x36 =>
 bP (fa Q q 376 3 15 x36) fun x37 =>
 bP (fa Q q 373 3 3 x37) fun x38 =>
 bP (ld Q q 46 x38 G34) fun x39 =>
 bS (e.ev.cl 287 [v0,x39] G34) fun x40 G41 =>
 bP (cg v0) fun x42 =>
 bP (fa Q q 376 3 15 x42) fun x43 =>
 bP (fa Q q 373 2 2 x43) fun x44 =>
 bP (ld Q q 46 x44 G41) fun x45 =>
 bP (cg v0) fun x46 =>
 bP (fa Q q 376 6 21 x46) fun x47 =>
 bP (st Q q 46 1 x47 x45 G41) fun G48 =>
 kP q e 283 0 (bm [1,0,1,1,1,1,1,0,0,0] (aS Tryz.f283)) 195 (nth undef [v0,v1]) [(52,x47),(51,x46),(50,x45),(49,x44),(48,x43),(47,x42),(46,v0),(45,v0),(6,x40),(44,x40),(43,x39),(42,x38),(41,x37),(40,x36),(39,v0),(38,v0),(5,x35),(37,x35),(36,x33),(35,x32),(34,x31),(33,x30),(32,v0),(31,x29),(30,x28),(29,x27),(28,x26),(27,v0),(26,x25),(25,x24),(24,x23),(23,v0),(22,x22),(21,x20),(20,x18),(19,x16),(18,x14),(17,x12),(16,x11),(15,x11),(14,x9),(13,x7),(12,x5),(11,x3),(10,x1),(9,x0),(8,x0),(7,v0),(4,(.bool false))] [] G48 fun e49 t50 G51 =>
 bV q (t50 0) fun Zo =>
 dt e49 (.exit 0) (
 nl q 376 2 14 3 Zo G51 fun x54 =>
 bP (bn Q q .eql 3 (.tmp 193) (.const (.int .i64 9)) x54 (.int .i64 9)) fun x55 =>
 some (x55,G51)) (none))
theorem m283 {e:Ex} {E:Ev} (h:cf Q e E) (v0 v1:Value) (G:GS):Ref (s283 true e v0 v1 G) (s283 false (Ex.of E) v0 v1 G):=by
 unfold s283
 exact Ref.gq
set_option maxHeartbeats 8000000 in
theorem f283 {ae:FuncId→Bool} {e:Ex} (h:cf Q e (E ae)) (v0 v1:Value) (G:GS):Ref (s283 true e v0 v1 G) ((E ae).cl 283 [v0,v1] G) :=
 fun r hr=>Dz Q ae (vs:=[v0,v1]) G Tryz.func283 (by kernel_rfl) (by kernel_rfl) (by kernel_rfl) (by kernel_rfl) (by kernel_rfl) (by kernel_rfl) (m283 h v0 v1 G r hr)
def za (q:Bool) (e:Ex) (lp:bU) (τ:Env) (G:GS):OL :=
 bV q (τ 0) fun aK =>
 bV q (τ 1) fun cq =>
 bV q (τ 16) fun kg =>
 bV q (τ 17) fun iY =>
 bP (bn Q q .lss 3 (.tmp 17) (.tmp 16) iY kg) fun x0 =>
 cD x0 (
 bP (cg aK) fun x1 =>
 bP (fa Q q 354 8 20 x1) fun x2 =>
 bP (ld Q q 3 x2 G) fun x3 =>
 bP (bn Q q .neq 3 (.tmp 20) (.tmp 24) iY x3) fun x4 =>
 cD x4 (
 bP (bn Q q .add 3 (.tmp 17) (.const (.int .i64 1)) iY (.int .i64 1)) fun x5 =>
 lp (xq q 66 τ [(17,x5),(46,x5),(25,x4),(24,x3),(23,x2),(22,x1),(21,aK),(20,iY),(5,iY),(19,iY),(18,x0)] [(0,aK),(1,cq),(16,kg)]) G) (
 bP (cg aK) fun x6 =>
 bP (fa Q q 354 0 0 x6) fun x7 =>
 bP (fV Q q 34 13 x7 (G.room 20)) fun x8 =>
 bP (cg aK) fun x9 =>
 bP (fa Q q 354 5 17 x9) fun x10 =>
 bP (ld Q q 3 x10 (G.room 20)) fun x11 =>
 bS (e.ev.cl 101 [x8,x11,iY] (G.room 20)) fun x13 G12 =>
 bP (cg aK) fun x14 =>
 bP (fa Q q 354 10 22 x14) fun x15 =>
 bP (ld Q q 221 x15 G12) fun x16 =>
 gp ((br (ld Q q 221 x15 (G.room 20)) x16&&true)) <|
 bS (e.ev.cl 323 [x16] G12) fun x18 G17 =>
 bP (lK Q q 45 1 x18 iY) fun x19 =>
 bP (ld Q q 46 x19 G17) fun x20 =>
 bS (e.ev.cl 12 [cq,x13,x20] G17) fun x22 G21 =>
 bP (bn Q q .add 3 (.tmp 17) (.const (.int .i64 1)) iY (.int .i64 1)) fun x23 =>
 lp (xq q 66 τ [(17,x23),(46,x23),(45,x22),(44,x20),(43,x19),(42,iY),(41,x18),(40,x16),(39,x15),(38,x14),(37,aK),(36,x13),(35,iY),(34,x11),(33,x10),(32,x9),(31,aK),(30,x8),(29,x7),(28,x6),(27,aK),(26,cq),(25,x4),(24,x3),(23,x2),(22,x1),(21,aK),(20,iY),(5,iY),(19,iY),(18,x0)] [(0,aK),(1,cq),(16,kg)]) G21)) (
 some ((.exit 0),xq q 66 τ [(18,x0)] [(0,aK),(1,cq),(16,kg),(17,iY)],G))
theorem D9 (h:cf Q e (E ae)):LT ae 66 (bm [1,0,1,1,0,1,0,0] (aS Tryz.f311)) (za true e):=cL fun bJ τ G=>by unfold za; exact Ref.gq
def s311 (q:Bool) (e:Ex) (v0 v1:Value) (G:GS):OG :=
 bP (cg v0) fun x0 =>
 bP (fa Q q 354 3 15 x0) fun x1 =>
 bP (ld Q q 46 x1 G) fun x2 =>
 bP (cg v0) fun x3 =>
 bP (fa Q q 354 12 24 x3) fun x4 =>
 bP (st Q q 46 1 x4 x2 G) fun G5 =>
 bP (cg v0) fun x6 =>
 bP (fa Q q 354 6 18 x6) fun x7 =>
 bP (ld Q q 3 x7 G5) fun x8 =>
 kP q e 311 0 (bm [1,0,1,1,0,1,0,0] (aS Tryz.f311)) 66 (nth undef [v0,v1]) [(17,(.int .i64 0)),(16,x8),(15,x7),(14,x6),(13,v0),(12,x4),(11,x3),(10,x2),(9,x1),(8,x0),(7,v0),(6,v0),(4,(.int .i64 0))] [] G5 fun e9 t10 G11 =>
 bV q (t10 0) fun BF =>
 dt e9 (.exit 0) (
 nl q 354 8 20 3 BF G11 fun x14 =>
 bP (bn Q q .add 3 (.tmp 50) (.const (.int .i64 1)) x14 (.int .i64 1)) fun x15 =>
 nf q 354 8 20 BF fun x17 =>
 bP (st Q q 3 1 x17 x15 G11) fun G18 =>
 nl q 354 8 20 3 BF (G18.room 9) fun x21 =>
 nl q 354 6 18 3 BF (G18.room 9) fun x24 =>
 bP (bn Q q .lss 3 (.tmp 57) (.tmp 61) x21 x24) fun x25 =>
 cD x25 (
 some ((.int .i64 2),(G18.room 9))) (
 nf q 354 8 20 BF fun x27 =>
 bP (st Q q 3 1 x27 (.int .i64 0) (G18.room 9)) fun G28 =>
 some ((.int .i64 3),G28))) (none)
theorem f311 (h:cf Q e (E ae)) (v0 v1:Value) (G:GS):Ref (s311 true e v0 v1 G) ((E ae).cl 311 [v0,v1] G):=cS (S:=fun q e=>s311 q e v0 v1 G) Tryz.func311 (by unfold s311; exact Ref.gq)
def s320 (q:Bool) (e:Ex) (v0 v1:Value) (G:GS):OG :=
 nl q 354 3 15 46 v0 G fun x2 =>
 nf q 354 12 24 v0 fun x4 =>
 bP (st Q q 46 1 x4 x2 G) fun G5 =>
 nf q 354 0 0 v0 fun x7 =>
 bP (fV Q q 34 13 x7 (G5.room 12)) fun x8 =>
 nl q 354 5 17 3 v0 (G5.room 12) fun x11 =>
 bS (e.ev.cl 110 [x8,x11,(.int .i64 3)] (G5.room 12)) fun x13 G12 =>
 bS (e.ev.cl 244 [v1,x13,(.int .u64 18446744073709551615)] G12) fun x15 G14 =>
 bP (bn Q q .neq 46 (.tmp 22) (.const (.int .u64 0)) x15 (.int .u64 0)) fun x16 =>
 cD x16 (
 some ((.int .i64 0),G14)) (
 nf q 354 0 0 v0 fun x18 =>
 bP (fa Q q 34 3 3 x18) fun x19 =>
 bP (fV Q q 32 10 x19 (G14.room 14)) fun x20 =>
 nl q 354 5 17 3 v0 (G14.room 14) fun x23 =>
 bS (e.ev.cl 285 [x20,x23] (G14.room 14)) fun x25 G24 =>
 nf q 354 11 23 v0 fun x27 =>
 bP (st Q q 222 1 x27 x25 G24) fun G28 =>
 some ((.int .i64 12),G28))
theorem f320 (h:cf Q e (E ae)) (v0 v1:Value) (G:GS):Ref (s320 true e v0 v1 G) ((E ae).cl 320 [v0,v1] G):=cS (S:=fun q e=>s320 q e v0 v1 G) Tryz.func320 (by unfold s320; exact Ref.gq)
end
end Go.Proofs.YtphandknhnkhfaaGreat.Lift
