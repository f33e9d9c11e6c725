import Derived.Test.YtaanpcoglijohaaGreatRa
namespace Go.Proofs.YtaanpcoglijohaaGreat.Lift
open Go Go.Proofs.YtaanpcoglijohaaGreat.Gh Go.Proofs
set_option linter.unusedVariables false
set_option maxRecDepth 100000
noncomputable def jt161 (J0:Env → GS → Option (Value × GS)):JT (Value × GS) :=
 (.n none .e (.n none (.n none .e (.n none (.n (some (fun T G=>J0 (nth undef T) G)) .e .e) .e)) .e))
set_option maxHeartbeats 8000000 in
theorem jr161_0 (orc:FuncId → Bool) (J0:Env → GS → Option (Value × GS)) (T:List Value) (G:GS):runC Q (evL Q orc) Tryz.f161.ntmps (jt161 J0) (bodyOf Tryz.f161) (retE Q Tryz.f161.results.toList) [true,false,true,false] (nth undef T) G = jb161_0 false (Ex.of (E orc))  (nth undef T) G:=by kernel_rfl
set_option maxHeartbeats 8000000 in
theorem jo161 (orc:FuncId → Bool):JOk Q orc Tryz.f161.ntmps (jt161 (j161_0 false (Ex.of (E orc))) ) (bodyOf Tryz.f161) (retE Q Tryz.f161.results.toList) :=
 jOk Q orc (l:=[([true,false,true,false],(fun T G=>j161_0 false (Ex.of (E orc)) (nth undef T) G))]) (by kernel_rfl) (AllE.c (fun T G=>jr161_0 orc (j161_0 false (Ex.of (E orc))) T G) (AllE.z))
set_option maxHeartbeats 8000000 in
theorem je161 (orc:FuncId → Bool) (J0:Env → GS → Option (Value × GS)) (v0 v1:Value) (G:GS):sxC Q (evL Q orc) Tryz.f161.ntmps (jt161 J0) (bodyOf Tryz.f161) (nth undef [v0,v1]) G (retE Q Tryz.f161.results.toList) = sb161 false (Ex.of (E orc)) J0 v0 v1 G:=by kernel_rfl
set_option maxHeartbeats 8000000 in
theorem f161 {orc:FuncId → Bool} {e:Ex} (h:ExLe Q e (E orc)) (v0 v1:Value) (G:GS):Ref (s161 true e v0 v1 G) ((E orc).cl 161 [v0,v1] G) :=
 fun r hr=>cl_sxC Q orc (vs:=[v0,v1]) G (jt161 (j161_0 false (Ex.of (E orc))) ) Tryz.func161 (by kernel_rfl) (by kernel_rfl) (by kernel_rfl) (by kernel_rfl) (by kernel_rfl) (jo161 orc) (je161 orc (j161_0 false (Ex.of (E orc))) v0 v1 G) (m161 h v0 v1 G r hr)
noncomputable def s162 (q:Bool) (e:Ex) (v0:Value) (G:GS):Option (Value × GS) :=
 bS (al Q q 92 z92 G) fun x0 G1 =>
 bP (pNil v0) fun x2 =>
 bP (fa Q q 168 8 20 x2) fun x3 =>
 bP (ld Q q 4 x3 G1) fun x4 =>
 bP (un Q q .not x4) fun x5 =>
 ifV x5 (
 bP (bd Q q 92 z92 [] []) fun x6 =>
 bP (st Q q 92 2 x0 x6 G1) fun G7 =>
 bP (lda Q q 92 2 x0 G7) fun x8 =>
 some (.tuple #[x8,(.int .i64 1)],G7)) (
 bP (pNil v0) fun x9 =>
 bP (fa Q q 168 2 13 x9) fun x10 =>
 bP (ld Q q 3 x10 G1) fun x11 =>
 bP (bn Q q .neq 3 (.tmp 15) (.const (.int .i64 99)) x11 (.int .i64 99)) fun x12 =>
 ifV x12 (
 bP (bd Q q 92 z92 [] []) fun x13 =>
 bP (st Q q 92 2 x0 x13 G1) fun G14 =>
 bP (lda Q q 92 2 x0 G14) fun x15 =>
 some (.tuple #[x15,(.int .i64 14)],G14)) (
 bP (pNil v0) fun x16 =>
 bP (fa Q q 168 9 21 x16) fun x17 =>
 bP (ld Q q 26 x17 G1) fun x18 =>
 bP (bn Q q .neq 26 (.tmp 22) (.const (.int .i64 0)) x18 (.int .i64 0)) fun x19 =>
 ifV x19 (
 bP (bd Q q 92 z92 [] []) fun x20 =>
 bP (pNil v0) fun x21 =>
 bP (fa Q q 168 9 21 x21) fun x22 =>
 bP (ld Q q 26 x22 (G1.room 7)) fun x23 =>
 bP (st Q q 92 2 x0 x20 (G1.room 7)) fun G24 =>
 chk ((sameO (ld Q q 26 x22 G24) x23 && true)) <|
 bP (lda Q q 92 2 x0 G24) fun x25 =>
 some (.tuple #[x25,x23],G24)) (
 bP (pNil v0) fun x26 =>
 bP (fa Q q 168 6 17 x26) fun x27 =>
 bP (lda Q q 92 2 x27 G1) fun x28 =>
 bP (st Q q 92 2 x0 x28 G1) fun G29 =>
 bP (lda Q q 92 2 x0 G29) fun x30 =>
 some (.tuple #[x30,(.int .i64 0)],G29))))
theorem m162 {e:Ex} {E:Ev} (h:ExLe Q e E) (v0:Value) (G:GS):Ref (s162 true e v0 G) (s162 false (Ex.of E) v0 G):=by
 unfold s162
 exact Ref.gq
theorem f162 {orc:FuncId → Bool} {e:Ex} (h:ExLe Q e (E orc)) (v0:Value) (G:GS):Ref (s162 true e v0 G) ((E orc).cl 162 [v0] G) :=
 fun r hr=>cl_sxE_some Q orc (vs:=[v0]) G Tryz.func162 (by kernel_rfl) (by kernel_rfl) (by kernel_rfl) (by kernel_rfl) (by kernel_rfl) (by kernel_rfl) (m162 h v0 G r hr)
noncomputable def s163 (q:Bool) (e:Ex) (v0:Value) (G:GS):Option (Value × GS) :=
 bS (al Q q 92 z92 G) fun x0 G1 =>
 bP (pNil v0) fun x2 =>
 bP (fa Q q 162 8 24 x2) fun x3 =>
 bP (ld Q q 4 x3 G1) fun x4 =>
 bP (un Q q .not x4) fun x5 =>
 ifV x5 (
 bP (bd Q q 92 z92 [] []) fun x6 =>
 bP (st Q q 92 2 x0 x6 G1) fun G7 =>
 bP (lda Q q 92 2 x0 G7) fun x8 =>
 some (.tuple #[x8,(.int .i64 1)],G7)) (
 bP (pNil v0) fun x9 =>
 bP (fa Q q 162 2 17 x9) fun x10 =>
 bP (ld Q q 3 x10 G1) fun x11 =>
 bP (bn Q q .neq 3 (.tmp 15) (.const (.int .i64 99)) x11 (.int .i64 99)) fun x12 =>
 ifV x12 (
 bP (bd Q q 92 z92 [] []) fun x13 =>
 bP (st Q q 92 2 x0 x13 G1) fun G14 =>
 bP (lda Q q 92 2 x0 G14) fun x15 =>
 some (.tuple #[x15,(.int .i64 14)],G14)) (
 bP (pNil v0) fun x16 =>
 bP (fa Q q 162 9 25 x16) fun x17 =>
 bP (ld Q q 26 x17 G1) fun x18 =>
 bP (bn Q q .neq 26 (.tmp 22) (.const (.int .i64 0)) x18 (.int .i64 0)) fun x19 =>
 ifV x19 (
 bP (bd Q q 92 z92 [] []) fun x20 =>
 bP (pNil v0) fun x21 =>
 bP (fa Q q 162 9 25 x21) fun x22 =>
 bP (ld Q q 26 x22 (G1.room 7)) fun x23 =>
 bP (st Q q 92 2 x0 x20 (G1.room 7)) fun G24 =>
 chk ((sameO (ld Q q 26 x22 G24) x23 && true)) <|
 bP (lda Q q 92 2 x0 G24) fun x25 =>
 some (.tuple #[x25,x23],G24)) (
 bP (pNil v0) fun x26 =>
 bP (fa Q q 162 6 21 x26) fun x27 =>
 bP (lda Q q 92 2 x27 G1) fun x28 =>
 bP (st Q q 92 2 x0 x28 G1) fun G29 =>
 bP (lda Q q 92 2 x0 G29) fun x30 =>
 some (.tuple #[x30,(.int .i64 0)],G29))))
theorem m163 {e:Ex} {E:Ev} (h:ExLe Q e E) (v0:Value) (G:GS):Ref (s163 true e v0 G) (s163 false (Ex.of E) v0 G):=by
 unfold s163
 exact Ref.gq
theorem f163 {orc:FuncId → Bool} {e:Ex} (h:ExLe Q e (E orc)) (v0:Value) (G:GS):Ref (s163 true e v0 G) ((E orc).cl 163 [v0] G) :=
 fun r hr=>cl_sxE_some Q orc (vs:=[v0]) G Tryz.func163 (by kernel_rfl) (by kernel_rfl) (by kernel_rfl) (by kernel_rfl) (by kernel_rfl) (by kernel_rfl) (m163 h v0 G r hr)
noncomputable def s166 (q:Bool) (e:Ex) (v0 v1:Value) (G:GS):Option (Value × GS) :=
 bS (e.ev.cl 55 [v0,(.int .i64 1),v1,(.bool false),(.int .u64 0)] G) fun x0 G1 =>
 bP (pNil v0) fun x2 =>
 bP (fa Q q 114 1 1 x2) fun x3 =>
 bP (fa Q q 59 3 3 x3) fun x4 =>
 bP (ld Q q 39 x4 G1) fun x5 =>
 some (x5,G1)
theorem m166 {e:Ex} {E:Ev} (h:ExLe Q e E) (v0 v1:Value) (G:GS):Ref (s166 true e v0 v1 G) (s166 false (Ex.of E) v0 v1 G):=by
 unfold s166
 exact Ref.gq
theorem f166 {orc:FuncId → Bool} {e:Ex} (h:ExLe Q e (E orc)) (v0 v1:Value) (G:GS):Ref (s166 true e v0 v1 G) ((E orc).cl 166 [v0,v1] G) :=
 fun r hr=>cl_sxE_some Q orc (vs:=[v0,v1]) G Tryz.func166 (by kernel_rfl) (by kernel_rfl) (by kernel_rfl) (by kernel_rfl) (by kernel_rfl) (by kernel_rfl) (m166 h v0 v1 G r hr)
noncomputable def s168 (q:Bool) (e:Ex) (v0 v1 v2 v3:Value) (G:GS):Option (Value × GS) :=
 bS (e.ev.cl 129 [v0,v1] G) fun x0 G1 =>
 bP (bn Q q .eql 39 (.tmp 13) (.tmp 14) x0 v2) fun x2 =>
 bS (e.ev.cl 55 [v0,(.int .i64 3),v1,x2,v3] G1) fun x3 G4 =>
 bP (pNil v0) fun x5 =>
 bP (fa Q q 114 1 1 x5) fun x6 =>
 bP (fa Q q 59 4 4 x6) fun x7 =>
 bP (ld Q q 4 x7 G4) fun x8 =>
 some (x8,G4)
theorem m168 {e:Ex} {E:Ev} (h:ExLe Q e E) (v0 v1 v2 v3:Value) (G:GS):Ref (s168 true e v0 v1 v2 v3 G) (s168 false (Ex.of E) v0 v1 v2 v3 G):=by
 unfold s168
 exact Ref.gq
theorem f168 {orc:FuncId → Bool} {e:Ex} (h:ExLe Q e (E orc)) (v0 v1 v2 v3:Value) (G:GS):Ref (s168 true e v0 v1 v2 v3 G) ((E orc).cl 168 [v0,v1,v2,v3] G) :=
 fun r hr=>cl_sxE_some Q orc (vs:=[v0,v1,v2,v3]) G Tryz.func168 (by kernel_rfl) (by kernel_rfl) (by kernel_rfl) (by kernel_rfl) (by kernel_rfl) (by kernel_rfl) (m168 h v0 v1 v2 v3 G r hr)
noncomputable def s178 (q:Bool) (e:Ex) (v0 v1:Value) (G:GS):Option (Value × GS) :=
 bS (bx q v0 G) fun x0 G1 =>
 bP (bn Q q .lss 3 (.tmp 5) (.const (.int .i64 1)) v1 (.int .i64 1)) fun x2 =>
 bS (gd x2 false (some (v1,G1)) G1) fun x3 G4 =>
 bS (gd x2 false (bP (bn Q q .gtr 3 (.tmp 8) (.const (.int .i64 4096)) x3 (.int .i64 4096)) fun y=>some (y,G4)) G4) fun x5 G6 =>
 bP (pickV x2 (.bool true) x5) fun x7 =>
 ifV x7 (
 some ((.int .i64 3),G6)) (
 bP (fa Q q 67 2 2 x0) fun x8 =>
 bP (ld Q q 3 x8 G6) fun x9 =>
 bP (bn Q q .lss 3 (.tmp 12) (.const (.int .i64 1)) x9 (.int .i64 1)) fun x10 =>
 bS (gd x10 false (bP (fa Q q 67 2 2 x0) fun y=>some (y,G6)) G6) fun x11 G12 =>
 bS (gd x10 false (bP (ld Q q 3 x11 G12) fun y=>some (y,G12)) G12) fun x13 G14 =>
 bS (gd x10 false (bP (bn Q q .gtr 3 (.tmp 16) (.const (.int .i64 4096)) x13 (.int .i64 4096)) fun y=>some (y,G14)) G14) fun x15 G16 =>
 bP (pickV x10 (.bool true) x15) fun x17 =>
 bS (gd x17 false (bP (fa Q q 67 0 0 x0) fun y=>some (y,G16)) G16) fun x18 G19 =>
 bS (gd x17 false (bP (ld Q q 3 x18 G19) fun y=>some (y,G19)) G19) fun x20 G21 =>
 bS (gd x17 false (bP (bn Q q .lss 3 (.tmp 21) (.const (.int .i64 0)) x20 (.int .i64 0)) fun y=>some (y,G21)) G21) fun x22 G23 =>
 bP (pickV x17 (.bool true) x22) fun x24 =>
 bS (gd x24 false (bP (fa Q q 67 0 0 x0) fun y=>some (y,G23)) G23) fun x25 G26 =>
 bS (gd x24 false (bP (ld Q q 3 x25 G26) fun y=>some (y,G26)) G26) fun x27 G28 =>
 bS (gd x24 false (some (v1,G28)) G28) fun x29 G30 =>
 bS (gd x24 false (bP (bn Q q .geq 3 (.tmp 26) (.tmp 27) x27 x29) fun y=>some (y,G30)) G30) fun x31 G32 =>
 bP (pickV x24 (.bool true) x31) fun x33 =>
 bS (gd x33 false (bP (fa Q q 67 1 1 x0) fun y=>some (y,G32)) G32) fun x34 G35 =>
 bS (gd x33 false (bP (ld Q q 3 x34 G35) fun y=>some (y,G35)) G35) fun x36 G37 =>
 bS (gd x33 false (bP (bn Q q .lss 3 (.tmp 32) (.const (.int .i64 0)) x36 (.int .i64 0)) fun y=>some (y,G37)) G37) fun x38 G39 =>
 bP (pickV x33 (.bool true) x38) fun x40 =>
 bS (gd x40 false (bP (fa Q q 67 1 1 x0) fun y=>some (y,G39)) G39) fun x41 G42 =>
 bS (gd x40 false (bP (ld Q q 3 x41 G42) fun y=>some (y,G42)) G42) fun x43 G44 =>
 bS (gd x40 false (some (v1,G44)) G44) fun x45 G46 =>
 bS (gd x40 false (bP (fa Q q 67 2 2 x0) fun y=>some (y,G46)) G46) fun x47 G48 =>
 bS (gd x40 false (bP (ld Q q 3 x47 G48) fun y=>some (y,G48)) G48) fun x49 G50 =>
 bS (gd x40 false (bP (bn Q q .sub 3 (.tmp 38) (.tmp 40) x45 x49) fun y=>some (y,G50)) G50) fun x51 G52 =>
 bS (gd x40 false (bP (bn Q q .gtr 3 (.tmp 37) (.tmp 41) x43 x51) fun y=>some (y,G52)) G52) fun x53 G54 =>
 bP (pickV x40 (.bool true) x53) fun x55 =>
 bS (gd x55 false (bP (fa Q q 67 0 0 x0) fun y=>some (y,G54)) G54) fun x56 G57 =>
 bS (gd x55 false (bP (ld Q q 3 x56 G57) fun y=>some (y,G57)) G57) fun x58 G59 =>
 bS (gd x55 false (bP (fa Q q 67 1 1 x0) fun y=>some (y,G59)) G59) fun x60 G61 =>
 bS (gd x55 false (bP (ld Q q 3 x60 G61) fun y=>some (y,G61)) G61) fun x62 G63 =>
 bS (gd x55 false (bP (bn Q q .geq 3 (.tmp 46) (.tmp 48) x58 x62) fun y=>some (y,G63)) G63) fun x64 G65 =>
 bS (gd x55 false (some (x64,G65)) G65) fun x66 G67 =>
 bS (gd x66 true (bP (fa Q q 67 0 0 x0) fun y=>some (y,G67)) G67) fun x68 G69 =>
 bS (gd x66 true (bP (ld Q q 3 x68 G69) fun y=>some (y,G69)) G69) fun x70 G71 =>
 bS (gd x66 true (bP (fa Q q 67 1 1 x0) fun y=>some (y,G71)) G71) fun x72 G73 =>
 bS (gd x66 true (bP (ld Q q 3 x72 G73) fun y=>some (y,G73)) G73) fun x74 G75 =>
 bS (gd x66 true (bP (fa Q q 67 2 2 x0) fun y=>some (y,G75)) G75) fun x76 G77 =>
 bS (gd x66 true (bP (ld Q q 3 x76 G77) fun y=>some (y,G77)) G77) fun x78 G79 =>
 bS (gd x66 true (bP (bn Q q .add 3 (.tmp 54) (.tmp 56) x74 x78) fun y=>some (y,G79)) G79) fun x80 G81 =>
 bS (gd x66 true (bP (bn Q q .lss 3 (.tmp 52) (.tmp 57) x70 x80) fun y=>some (y,G81)) G81) fun x82 G83 =>
 bS (gd x55 false (bP (pickV x66 x82 (.bool false)) fun y=>some (y,G83)) G83) fun x84 G85 =>
 bP (pickV x55 (.bool true) x84) fun x86 =>
 ifV x86 (
 some ((.int .i64 2),G85)) (
 some ((.int .i64 0),G85)))
theorem m178 {e:Ex} {E:Ev} (h:ExLe Q e E) (v0 v1:Value) (G:GS):Ref (s178 true e v0 v1 G) (s178 false (Ex.of E) v0 v1 G):=by
 unfold s178
 exact Ref.gq
theorem f178 {orc:FuncId → Bool} {e:Ex} (h:ExLe Q e (E orc)) (v0 v1:Value) (G:GS):Ref (s178 true e v0 v1 G) ((E orc).cl 178 [v0,v1] G) :=
 fun r hr=>cl_sxE_some Q orc (vs:=[v0,v1]) G Tryz.func178 (by kernel_rfl) (by kernel_rfl) (by kernel_rfl) (by kernel_rfl) (by kernel_rfl) (by kernel_rfl) (m178 h v0 v1 G r hr)
noncomputable def s179 (q:Bool) (e:Ex) (v0:Value) (G:GS):Option (Value × GS) :=
 bP (bn Q q .geq 3 (.tmp 3) (.const (.int .i64 1)) v0 (.int .i64 1)) fun x0 =>
 bS (gd x0 true (some (v0,G)) G) fun x1 G2 =>
 bS (gd x0 true (bP (bn Q q .leq 3 (.tmp 6) (.const (.int .i64 64)) x1 (.int .i64 64)) fun y=>some (y,G2)) G2) fun x3 G4 =>
 bP (pickV x0 x3 (.bool false)) fun x5 =>
 some (x5,G4)
theorem m179 {e:Ex} {E:Ev} (h:ExLe Q e E) (v0:Value) (G:GS):Ref (s179 true e v0 G) (s179 false (Ex.of E) v0 G):=by
 unfold s179
 exact Ref.gq
theorem f179 {orc:FuncId → Bool} {e:Ex} (h:ExLe Q e (E orc)) (v0:Value) (G:GS):Ref (s179 true e v0 G) ((E orc).cl 179 [v0] G) :=
 fun r hr=>cl_sxE_some Q orc (vs:=[v0]) G Tryz.func179 (by kernel_rfl) (by kernel_rfl) (by kernel_rfl) (by kernel_rfl) (by kernel_rfl) (by kernel_rfl) (m179 h v0 G r hr)
noncomputable def b182_0 (q:Bool) (e:Ex) (lp:Env → GS → Option (Exit × Env × GS)) (τ:Env) (G:GS):Option (Exit × Env × GS) :=
 bV q (τ 1) fun a1_ =>
 bV q (τ 2) fun a2_ =>
 bV q (τ 18) fun a18_ =>
 bV q (τ 19) fun a19_ =>
 bP (bn Q q .lss 3 (.tmp 19) (.tmp 18) a19_ a18_) fun x0 =>
 ifV x0 (
 bP (fa Q q 69 1 3 a2_) fun x1 =>
 bP (ld Q q 3 x1 G) fun x2 =>
 bP (bn Q q .add 3 (.tmp 24) (.tmp 25) x2 a19_) fun x3 =>
 bS (e.ev.cl 14 [a1_,x3,(.int .u64 1)] G) fun x4 G5 =>
 bP (bn Q q .add 3 (.tmp 19) (.const (.int .i64 1)) a19_ (.int .i64 1)) fun x6 =>
 lp (xq q 29 τ [(19,x6),(28,x6),(27,x4),(26,x3),(25,a19_),(24,x2),(23,x1),(22,a1_),(4,a19_),(21,a19_),(20,x0)] [(1,a1_),(2,a2_),(18,a18_)]) G5) (
 some ((.exit 0),xq q 29 τ [(20,x0)] [(1,a1_),(2,a2_),(18,a18_),(19,a19_)],G))
theorem mb182_0 {e:Ex} {E:Ev} (h:ExLe Q e E) {lp lp':Env → GS → Option (Exit × Env × GS)} (hlp:LpLe lp lp') (τ:Env) (G:GS):Ref (b182_0 true e lp τ G) (b182_0 false (Ex.of E) lp' τ G):=by
 unfold b182_0
 exact Ref.gq
theorem l182_0 {orc:FuncId → Bool} {e:Ex} (h:ExLe Q e (E orc)) (lp:Env → GS → Option (Exit × Env × GS)) (hlp:∀ τ G,Ref (lp τ G) (mapE ((E orc).lp (subAt [1,1,1,1,1,0,0] (bodyOf Tryz.f182)) (lst 29 τ) G))) (T:List Value) (G:GS) (hT:T.length = 29):Ref (b182_0 true e lp (nth undef T) G) (mapE ((E orc).lp (subAt [1,1,1,1,1,0,0] (bodyOf Tryz.f182)) T G)) :=
 fun r hr=>lp_sxN Q orc G hT (by kernel_rfl) (mb182_0 h ⟨hlp⟩ _ _ r hr)
noncomputable def s182 (q:Bool) (e:Ex) (v0 v1:Value) (G:GS):Option (Value × GS) :=
 bS (bx q v0 G) fun x0 G1 =>
 bP (lda Q q 69 6 x0 G1) fun x2 =>
 bS (e.ev.cl 222 [x2] G1) fun x3 G4 =>
 bP (un Q q .not x3) fun x5 =>
 ifV x5 (
 some (.tuple #[],G4)) (
 bP (fa Q q 69 0 0 x0) fun x6 =>
 bP (lda Q q 67 3 x6 G4) fun x7 =>
 bS (e.ev.cl 223 [x7,v1] G4) fun x8 G9 =>
 bP (fa Q q 69 2 4 x0) fun x10 =>
 bP (ld Q q 3 x10 G9) fun x11 =>
 bS (e.ev.cl 14 [v1,x11,(.int .u64 0)] G9) fun x12 G13 =>
 bP (fa Q q 69 0 0 x0) fun x14 =>
 bP (fa Q q 67 2 2 x14) fun x15 =>
 bP (ld Q q 3 x15 G13) fun x16 =>
 bLq q e 182 0 (subAt [1,1,1,1,1,0,0] (bodyOf Tryz.f182)) 29 (nth undef [v0,v1]) [(19,(.int .i64 0)),(18,x16),(17,x15),(16,x14),(15,x12),(14,x11),(13,x10),(12,v1),(11,x8),(10,v1),(9,x7),(8,x6),(7,x5),(6,x3),(5,x2),(2,x0)] [] G13 fun e17 t18 G19 =>
 ifE e17 (.exit 0) (
 some (.tuple #[],G19)) (none))
theorem m182 {e:Ex} {E:Ev} (h:ExLe Q e E) (v0 v1:Value) (G:GS):Ref (s182 true e v0 v1 G) (s182 false (Ex.of E) v0 v1 G):=by
 unfold s182
 exact Ref.gq
theorem f182 {orc:FuncId → Bool} {e:Ex} (h:ExLe Q e (E orc)) (v0 v1:Value) (G:GS):Ref (s182 true e v0 v1 G) ((E orc).cl 182 [v0,v1] G) :=
 fun r hr=>cl_sxE_some Q orc (vs:=[v0,v1]) G Tryz.func182 (by kernel_rfl) (by kernel_rfl) (by kernel_rfl) (by kernel_rfl) (by kernel_rfl) (by kernel_rfl) (m182 h v0 v1 G r hr)
noncomputable def s183 (q:Bool) (e:Ex) (v0 v1:Value) (G:GS):Option (Value × GS) :=
 bS (bx q v0 G) fun x0 G1 =>
 bS (bx q v1 G1) fun x2 G3 =>
 bP (lda Q q 71 3 x0 G3) fun x4 =>
 bS (e.ev.cl 224 [x4] G3) fun x5 G6 =>
 bP (un Q q .not x5) fun x7 =>
 ifV x7 (
 some (.tuple #[],G6)) (
 bP (ld Q q 30 x2 G6) fun x8 =>
 bP (fa Q q 71 0 0 x0) fun x9 =>
 bP (ld Q q 3 x9 G6) fun x10 =>
 bS (e.ev.cl 14 [x8,x10,(.int .u64 0)] G6) fun x11 G12 =>
 bP (lda Q q 71 3 x0 G12) fun x13 =>
 bS (e.ev.cl 225 [x13] G12) fun x14 G15 =>
 bX (xRange e.ev x14 #[15,16] (subAt [1,1,1,1,0,0] (bodyOf Tryz.f183)) (subAt [1,1,1,1,0,1] (bodyOf Tryz.f183)) (lsq q 20 (nth undef [v0,v1]) [(14,x14),(13,x13),(12,x11),(11,x10),(10,x9),(9,x8),(8,x7),(7,x5),(6,x4),(3,x2),(2,x0)]) G15) fun e16 T17 G18 =>
 ifE e16 .normal (
 some (.tuple #[],G18)) (none))
theorem m183 {e:Ex} {E:Ev} (h:ExLe Q e E) (v0 v1:Value) (G:GS):Ref (s183 true e v0 v1 G) (s183 false (Ex.of E) v0 v1 G):=by
 unfold s183
 exact Ref.gq
theorem f183 {orc:FuncId → Bool} {e:Ex} (h:ExLe Q e (E orc)) (v0 v1:Value) (G:GS):Ref (s183 true e v0 v1 G) ((E orc).cl 183 [v0,v1] G) :=
 fun r hr=>cl_sxE_some Q orc (vs:=[v0,v1]) G Tryz.func183 (by kernel_rfl) (by kernel_rfl) (by kernel_rfl) (by kernel_rfl) (by kernel_rfl) (by kernel_rfl) (m183 h v0 v1 G r hr)
noncomputable def r183_0 (q:Bool) (e:Ex) (l:Nat) (τ:Env) (u0 u1:Value) (G:GS):Option (Value × GS) :=
 bV q (τ 3) fun a3_ =>
 bP (G.loop l) fun r0=>if r0.st = .ready then
 bP (ld Q q 30 a3_ (G.putLoop l (Lp.setSt r0 .busy))) fun x1 =>
 bS (e.ev.cl 14 [x1,u1,(.int .u64 0)] (G.putLoop l (Lp.setSt r0 .busy))) fun x2 G3 =>
 roundEnd l .normal G3
 else none
theorem mr183_0 {e:Ex} {E:Ev} (h:ExLe Q e E) (l:Nat) (τ:Env) (u0 u1:Value) (G:GS):Ref (r183_0 true e l τ u0 u1 G) (r183_0 false (Ex.of E) l τ u0 u1 G):=by
 unfold r183_0
 repeat' (with_reducible first | exact Ref.rfl' _ | exact ROp.r | refine Ref.bP ?_ fun _=>?_ | refine Ref.bS ?_ fun _ _=>?_ | exact Ref.cl (by assumption) | refine Ref.ifV ?_ ?_ | refine LpLe.rx (by assumption) ?_ | refine Ref.xitq ?_ | exact UOk.z | refine UOk.c (by assumption) ?_ | exact Ref.nil _ | refine Ref.bVe fun _ _=>?_ | refine Ref.bLq (by assumption) ?_ fun _ _ _=>?_ | refine Ref.ifE ?_ ?_ | refine Ref.chk ?_ ?_ | refine Imp.and ?_ ?_ | refine Imp.or ?_ | exact Imp.rfl' _ | refine Imp.sameO ?_ | refine Ref.gd ?_ | exact Ref.cValue (by assumption) | refine Ref.bX ?_ fun _ _ _=>?_ | exact Ref.scQ (by assumption) | exact Ref.xRangeQ (by assumption) | exact Ref.cInvoke (by assumption) | refine Ref.rdy ?_)
theorem d183_0 {orc:FuncId → Bool} {e:Ex} (h:ExLe Q e (E orc)) (l:Nat) (T:List Value) (u0 u1:Value) (G:GS) {st:LoopState} {pend:Option Code} (hl:G.loop l = some ⟨st,pend,T,[15,16],(subAt [1,1,1,1,0,0] (bodyOf Tryz.f183)),(subAt [1,1,1,1,0,1] (bodyOf Tryz.f183))⟩) (hT:T.length = 20):Ref (r183_0 true e l (nth undef T) u0 u1 G) ((E orc).rd l [u0,u1] G) :=
 fun r hr=>rd_sxE Q orc hl (by kernel_rfl) hT (by kernel_rfl) (mr183_0 h l _ u0 u1 G r hr)
noncomputable def s184 (q:Bool) (e:Ex) (v0 v1:Value) (G:GS):Option (Value × GS) :=
 bS (bx q v1 G) fun x0 G1 =>
 bS (al Q q 67 z67 G1) fun x2 G3 =>
 bP (fa Q q 73 2 9 x0) fun x4 =>
 bP (ld Q q 3 x4 G3) fun x5 =>
 bP (bn Q q .add 3 (.tmp 6) (.tmp 7) x5 v0) fun x6 =>
 bP (fa Q q 73 0 0 x0) fun x7 =>
 bP (fa Q q 69 0 0 x7) fun x8 =>
 bP (fa Q q 67 1 1 x8) fun x9 =>
 bP (ld Q q 3 x9 G3) fun x10 =>
 bP (fa Q q 73 0 0 x0) fun x11 =>
 bP (fa Q q 69 0 0 x11) fun x12 =>
 bP (fa Q q 67 2 2 x12) fun x13 =>
 bP (ld Q q 3 x13 G3) fun x14 =>
 bP (bd Q q 67 z67 [(0,0,1),(1,1,1),(2,2,1)] [x6,x10,x14]) fun x15 =>
 bP (st Q q 67 3 x2 x15 G3) fun G16 =>
 bP (lda Q q 67 3 x2 G16) fun x17 =>
 some (x17,G16)
theorem m184 {e:Ex} {E:Ev} (h:ExLe Q e E) (v0 v1:Value) (G:GS):Ref (s184 true e v0 v1 G) (s184 false (Ex.of E) v0 v1 G):=by
 unfold s184
 exact Ref.gq
theorem f184 {orc:FuncId → Bool} {e:Ex} (h:ExLe Q e (E orc)) (v0 v1:Value) (G:GS):Ref (s184 true e v0 v1 G) ((E orc).cl 184 [v0,v1] G) :=
 fun r hr=>cl_sxE_some Q orc (vs:=[v0,v1]) G Tryz.func184 (by kernel_rfl) (by kernel_rfl) (by kernel_rfl) (by kernel_rfl) (by kernel_rfl) (by kernel_rfl) (m184 h v0 v1 G r hr)
noncomputable def b185_0 (q:Bool) (e:Ex) (lp:Env → GS → Option (Exit × Env × GS)) (τ:Env) (G:GS):Option (Exit × Env × GS) :=
 bV q (τ 1) fun a1_ =>
 bV q (τ 2) fun a2_ =>
 bV q (τ 4) fun a4_ =>
 bP (fa Q q 69 0 0 a2_) fun x0 =>
 bP (fa Q q 67 2 2 x0) fun x1 =>
 bP (ld Q q 3 x1 G) fun x2 =>
 bP (bn Q q .lss 3 (.tmp 23) (.tmp 26) a4_ x2) fun x3 =>
 ifV x3 (
 bP (fa Q q 69 1 3 a2_) fun x4 =>
 bP (ld Q q 3 x4 G) fun x5 =>
 bP (bn Q q .add 3 (.tmp 32) (.tmp 33) x5 a4_) fun x6 =>
 bS (e.ev.cl 15 [a1_,x6,(.int .u64 1)] G) fun x7 G8 =>
 bP (bn Q q .add 3 (.tmp 28) (.const (.int .i64 1)) a4_ (.int .i64 1)) fun x9 =>
 lp (xq q 36 τ [(4,x9),(29,x9),(28,a4_),(35,x7),(34,x6),(33,a4_),(32,x5),(31,x4),(30,a1_),(27,x3),(26,x2),(25,x1),(24,x0),(23,a4_)] [(1,a1_),(2,a2_)]) G8) (
 some ((.exit 0),xq q 36 τ [(27,x3),(26,x2),(25,x1),(24,x0),(23,a4_)] [(1,a1_),(2,a2_),(4,a4_)],G))
theorem mb185_0 {e:Ex} {E:Ev} (h:ExLe Q e E) {lp lp':Env → GS → Option (Exit × Env × GS)} (hlp:LpLe lp lp') (τ:Env) (G:GS):Ref (b185_0 true e lp τ G) (b185_0 false (Ex.of E) lp' τ G):=by
 unfold b185_0
 exact Ref.gq
theorem l185_0 {orc:FuncId → Bool} {e:Ex} (h:ExLe Q e (E orc)) (lp:Env → GS → Option (Exit × Env × GS)) (hlp:∀ τ G,Ref (lp τ G) (mapE ((E orc).lp (subAt [1,1,1,1,1,0,0] (bodyOf Tryz.f185)) (lst 36 τ) G))) (T:List Value) (G:GS) (hT:T.length = 36):Ref (b185_0 true e lp (nth undef T) G) (mapE ((E orc).lp (subAt [1,1,1,1,1,0,0] (bodyOf Tryz.f185)) T G)) :=
 fun r hr=>lp_sxN Q orc G hT (by kernel_rfl) (mb185_0 h ⟨hlp⟩ _ _ r hr)
noncomputable def s185 (q:Bool) (e:Ex) (v0 v1:Value) (G:GS):Option (Value × GS) :=
 bS (bx q v0 G) fun x0 G1 =>
 bP (fa Q q 69 0 0 x0) fun x2 =>
 bP (fa Q q 67 2 2 x2) fun x3 =>
 bP (ld Q q 3 x3 G1) fun x4 =>
 bP (bn Q q .lss 3 (.tmp 7) (.const (.int .i64 1)) x4 (.int .i64 1)) fun x5 =>
 bS (gd x5 false (bP (fa Q q 69 0 0 x0) fun y=>some (y,G1)) G1) fun x6 G7 =>
 bS (gd x5 false (bP (fa Q q 67 2 2 x6) fun y=>some (y,G7)) G7) fun x8 G9 =>
 bS (gd x5 false (bP (ld Q q 3 x8 G9) fun y=>some (y,G9)) G9) fun x10 G11 =>
 bS (gd x5 false (bP (bn Q q .gtr 3 (.tmp 12) (.const (.int .i64 4096)) x10 (.int .i64 4096)) fun y=>some (y,G11)) G11) fun x12 G13 =>
 bP (pickV x5 (.bool true) x12) fun x14 =>
 ifV x14 (
 some (.tuple #[],G13)) (
 bP (fa Q q 69 0 0 x0) fun x15 =>
 bP (lda Q q 67 3 x15 G13) fun x16 =>
 bS (e.ev.cl 226 [x16,v1] G13) fun x17 G18 =>
 bP (fa Q q 69 2 4 x0) fun x19 =>
 bP (ld Q q 3 x19 G18) fun x20 =>
 bS (e.ev.cl 15 [v1,x20,(.int .u64 0)] G18) fun x21 G22 =>
 bLq q e 185 0 (subAt [1,1,1,1,1,0,0] (bodyOf Tryz.f185)) 36 (nth undef [v0,v1]) [(4,(.int .i64 0)),(22,x21),(21,x20),(20,x19),(19,v1),(18,x17),(17,v1),(16,x16),(15,x15),(14,x14),(13,x12),(12,x10),(11,x8),(10,x6),(9,x5),(8,x5),(7,x4),(6,x3),(5,x2),(2,x0)] [] G22 fun e23 t24 G25 =>
 ifE e23 (.exit 0) (
 some (.tuple #[],G25)) (none))
theorem m185 {e:Ex} {E:Ev} (h:ExLe Q e E) (v0 v1:Value) (G:GS):Ref (s185 true e v0 v1 G) (s185 false (Ex.of E) v0 v1 G):=by
 unfold s185
 exact Ref.gq
theorem f185 {orc:FuncId → Bool} {e:Ex} (h:ExLe Q e (E orc)) (v0 v1:Value) (G:GS):Ref (s185 true e v0 v1 G) ((E orc).cl 185 [v0,v1] G) :=
 fun r hr=>cl_sxE_some Q orc (vs:=[v0,v1]) G Tryz.func185 (by kernel_rfl) (by kernel_rfl) (by kernel_rfl) (by kernel_rfl) (by kernel_rfl) (by kernel_rfl) (m185 h v0 v1 G r hr)
noncomputable def b186_0 (q:Bool) (e:Ex) (lp:Env → GS → Option (Exit × Env × GS)) (τ:Env) (G:GS):Option (Exit × Env × GS) :=
 bV q (τ 1) fun a1_ =>
 bV q (τ 2) fun a2_ =>
 bV q (τ 4) fun a4_ =>
 bP (fa Q q 71 2 2 a2_) fun x0 =>
 bP (ld Q q 3 x0 G) fun x1 =>
 bP (bn Q q .lss 3 (.tmp 13) (.tmp 15) a4_ x1) fun x2 =>
 ifV x2 (
 bP (fa Q q 71 1 1 a2_) fun x3 =>
 bP (ld Q q 3 x3 G) fun x4 =>
 bP (bn Q q .add 3 (.tmp 21) (.tmp 22) x4 a4_) fun x5 =>
 bS (e.ev.cl 15 [a1_,x5,(.int .u64 0)] G) fun x6 G7 =>
 bP (bn Q q .add 3 (.tmp 17) (.const (.int .i64 1)) a4_ (.int .i64 1)) fun x8 =>
 lp (xq q 25 τ [(4,x8),(18,x8),(17,a4_),(24,x6),(23,x5),(22,a4_),(21,x4),(20,x3),(19,a1_),(16,x2),(15,x1),(14,x0),(13,a4_)] [(1,a1_),(2,a2_)]) G7) (
 some ((.exit 0),xq q 25 τ [(16,x2),(15,x1),(14,x0),(13,a4_)] [(1,a1_),(2,a2_),(4,a4_)],G))
theorem mb186_0 {e:Ex} {E:Ev} (h:ExLe Q e E) {lp lp':Env → GS → Option (Exit × Env × GS)} (hlp:LpLe lp lp') (τ:Env) (G:GS):Ref (b186_0 true e lp τ G) (b186_0 false (Ex.of E) lp' τ G):=by
 unfold b186_0
 exact Ref.gq
theorem l186_0 {orc:FuncId → Bool} {e:Ex} (h:ExLe Q e (E orc)) (lp:Env → GS → Option (Exit × Env × GS)) (hlp:∀ τ G,Ref (lp τ G) (mapE ((E orc).lp (subAt [1,1,1,1,0,0] (bodyOf Tryz.f186)) (lst 25 τ) G))) (T:List Value) (G:GS) (hT:T.length = 25):Ref (b186_0 true e lp (nth undef T) G) (mapE ((E orc).lp (subAt [1,1,1,1,0,0] (bodyOf Tryz.f186)) T G)) :=
 fun r hr=>lp_sxN Q orc G hT (by kernel_rfl) (mb186_0 h ⟨hlp⟩ _ _ r hr)
noncomputable def s186 (q:Bool) (e:Ex) (v0 v1:Value) (G:GS):Option (Value × GS) :=
 bS (bx q v0 G) fun x0 G1 =>
 bP (fa Q q 71 2 2 x0) fun x2 =>
 bP (ld Q q 3 x2 G1) fun x3 =>
 bS (e.ev.cl 179 [x3] G1) fun x4 G5 =>
 bP (un Q q .not x4) fun x6 =>
 ifV x6 (
 some (.tuple #[],G5)) (
 bP (fa Q q 71 0 0 x0) fun x7 =>
 bP (ld Q q 3 x7 G5) fun x8 =>
 bS (e.ev.cl 15 [v1,x8,(.int .u64 0)] G5) fun x9 G10 =>
 bLq q e 186 0 (subAt [1,1,1,1,0,0] (bodyOf Tryz.f186)) 25 (nth undef [v0,v1]) [(4,(.int .i64 0)),(12,x9),(11,x8),(10,x7),(9,v1),(8,x6),(7,x4),(6,x3),(5,x2),(2,x0)] [] G10 fun e11 t12 G13 =>
 ifE e11 (.exit 0) (
 some (.tuple #[],G13)) (none))
theorem m186 {e:Ex} {E:Ev} (h:ExLe Q e E) (v0 v1:Value) (G:GS):Ref (s186 true e v0 v1 G) (s186 false (Ex.of E) v0 v1 G):=by
 unfold s186
 exact Ref.gq
theorem f186 {orc:FuncId → Bool} {e:Ex} (h:ExLe Q e (E orc)) (v0 v1:Value) (G:GS):Ref (s186 true e v0 v1 G) ((E orc).cl 186 [v0,v1] G) :=
 fun r hr=>cl_sxE_some Q orc (vs:=[v0,v1]) G Tryz.func186 (by kernel_rfl) (by kernel_rfl) (by kernel_rfl) (by kernel_rfl) (by kernel_rfl) (by kernel_rfl) (m186 h v0 v1 G r hr)
noncomputable def s187 (q:Bool) (e:Ex) (v0 v1 v2:Value) (G:GS):Option (Value × GS) :=
 bS (bx q v0 G) fun x0 G1 =>
 bP (lda Q q 75 13 x0 G1) fun x2 =>
 bS (e.ev.cl 139 [x2] G1) fun x3 G4 =>
 bP (un Q q .not x3) fun x5 =>
 ifV x5 (
 some ((.int .i64 (-1)),G4)) (
 bP (bn Q q .neq 3 (.tmp 12) (.const (.int .i64 (-1))) v1 (.int .i64 (-1))) fun x6 =>
 ifV x6 (
 bP (lda Q q 75 13 x0 G4) fun x7 =>
 bS (e.ev.cl 227 [x7] G4) fun x8 G9 =>
 bS (e.ev.cl 228 [x8,v1,v2] G9) fun x10 G11 =>
 some (x10,G11)) (
 bP (bn Q q .lss 3 (.tmp 20) (.const (.int .i64 4)) v2 (.int .i64 4)) fun x12 =>
 bS (gd x12 false (some (v2,G4)) G4) fun x13 G14 =>
 bS (gd x12 false (bP (fa Q q 75 2 2 x0) fun y=>some (y,G14)) G14) fun x15 G16 =>
 bS (gd x12 false (bP (ld Q q 3 x15 G16) fun y=>some (y,G16)) G16) fun x17 G18 =>
 bS (gd x12 false (bP (bn Q q .add 3 (.const (.int .i64 4)) (.tmp 25) (.int .i64 4) x17) fun y=>some (y,G18)) G18) fun x19 G20 =>
 bS (gd x12 false (bP (bn Q q .geq 3 (.tmp 23) (.tmp 26) x13 x19) fun y=>some (y,G20)) G20) fun x21 G22 =>
 bP (pickV x12 (.bool true) x21) fun x23 =>
 ifV x23 (
 some ((.int .i64 (-1)),G22)) (
 bP (lda Q q 75 13 x0 G22) fun x24 =>
 bS (e.ev.cl 229 [x24] G22) fun x25 G26 =>
 bP (bn Q q .sub 3 (.tmp 31) (.const (.int .i64 4)) v2 (.int .i64 4)) fun x27 =>
 bS (e.ev.cl 230 [x25,(.int .i64 0),x27] G26) fun x28 G29 =>
 some (x28,G29))))
theorem m187 {e:Ex} {E:Ev} (h:ExLe Q e E) (v0 v1 v2:Value) (G:GS):Ref (s187 true e v0 v1 v2 G) (s187 false (Ex.of E) v0 v1 v2 G):=by
 unfold s187
 exact Ref.gq
theorem f187 {orc:FuncId → Bool} {e:Ex} (h:ExLe Q e (E orc)) (v0 v1 v2:Value) (G:GS):Ref (s187 true e v0 v1 v2 G) ((E orc).cl 187 [v0,v1,v2] G) :=
 fun r hr=>cl_sxE_some Q orc (vs:=[v0,v1,v2]) G Tryz.func187 (by kernel_rfl) (by kernel_rfl) (by kernel_rfl) (by kernel_rfl) (by kernel_rfl) (by kernel_rfl) (m187 h v0 v1 v2 G r hr)
noncomputable def s188 (q:Bool) (e:Ex) (v0 v1 v2:Value) (G:GS):Option (Value × GS) :=
 bP (pNil v0) fun x0 =>
 bP (fa Q q 96 0 0 x0) fun x1 =>
 bP (lda Q q 75 13 x1 G) fun x2 =>
 bS (e.ev.cl 231 [x2,v1,v2] G) fun x3 G4 =>
 some (x3,G4)
theorem m188 {e:Ex} {E:Ev} (h:ExLe Q e E) (v0 v1 v2:Value) (G:GS):Ref (s188 true e v0 v1 v2 G) (s188 false (Ex.of E) v0 v1 v2 G):=by
 unfold s188
 exact Ref.gq
theorem f188 {orc:FuncId → Bool} {e:Ex} (h:ExLe Q e (E orc)) (v0 v1 v2:Value) (G:GS):Ref (s188 true e v0 v1 v2 G) ((E orc).cl 188 [v0,v1,v2] G) :=
 fun r hr=>cl_sxE_some Q orc (vs:=[v0,v1,v2]) G Tryz.func188 (by kernel_rfl) (by kernel_rfl) (by kernel_rfl) (by kernel_rfl) (by kernel_rfl) (by kernel_rfl) (m188 h v0 v1 v2 G r hr)
noncomputable def s189 (q:Bool) (e:Ex) (v0 v1:Value) (G:GS):Option (Value × GS) :=
 bS (bx q v0 G) fun x0 G1 =>
 bP (fa Q q 75 3 3 x0) fun x2 =>
 bP (fa Q q 73 0 0 x2) fun x3 =>
 bP (fa Q q 69 0 0 x3) fun x4 =>
 bP (lda Q q 67 3 x4 G1) fun x5 =>
 bS (e.ev.cl 232 [x5,v1] G1) fun x6 G7 =>
 some (x6,G7)
theorem m189 {e:Ex} {E:Ev} (h:ExLe Q e E) (v0 v1:Value) (G:GS):Ref (s189 true e v0 v1 G) (s189 false (Ex.of E) v0 v1 G):=by
 unfold s189
 exact Ref.gq
theorem f189 {orc:FuncId → Bool} {e:Ex} (h:ExLe Q e (E orc)) (v0 v1:Value) (G:GS):Ref (s189 true e v0 v1 G) ((E orc).cl 189 [v0,v1] G) :=
 fun r hr=>cl_sxE_some Q orc (vs:=[v0,v1]) G Tryz.func189 (by kernel_rfl) (by kernel_rfl) (by kernel_rfl) (by kernel_rfl) (by kernel_rfl) (by kernel_rfl) (m189 h v0 v1 G r hr)
noncomputable def s190 (q:Bool) (e:Ex) (v0 v1 v2:Value) (G:GS):Option (Value × GS) :=
 bP (pNil v0) fun x0 =>
 bP (fa Q q 96 3 15 x0) fun x1 =>
 bP (ld Q q 39 x1 G) fun x2 =>
 bP (pNil v0) fun x3 =>
 bP (fa Q q 96 11 24 x3) fun x4 =>
 bP (st Q q 39 1 x4 x2 G) fun G5 =>
 bP (pNil v0) fun x6 =>
 bP (fa Q q 96 0 0 x6) fun x7 =>
 bP (lda Q q 75 13 x7 (G5.room 13)) fun x8 =>
 bP (pNil v0) fun x9 =>
 bP (fa Q q 96 5 17 x9) fun x10 =>
 bP (ld Q q 3 x10 (G5.room 13)) fun x11 =>
 bS (e.ev.cl 196 [x8,x11,v2] (G5.room 13)) fun x13 G12 =>
 bS (e.ev.cl 166 [v1,x13] G12) fun x15 G14 =>
 some (x15,G14)
theorem m190 {e:Ex} {E:Ev} (h:ExLe Q e E) (v0 v1 v2:Value) (G:GS):Ref (s190 true e v0 v1 v2 G) (s190 false (Ex.of E) v0 v1 v2 G):=by
 unfold s190
 exact Ref.gq
theorem f190 {orc:FuncId → Bool} {e:Ex} (h:ExLe Q e (E orc)) (v0 v1 v2:Value) (G:GS):Ref (s190 true e v0 v1 v2 G) ((E orc).cl 190 [v0,v1,v2] G) :=
 fun r hr=>cl_sxE_some Q orc (vs:=[v0,v1,v2]) G Tryz.func190 (by kernel_rfl) (by kernel_rfl) (by kernel_rfl) (by kernel_rfl) (by kernel_rfl) (by kernel_rfl) (m190 h v0 v1 v2 G r hr)
noncomputable def s191 (q:Bool) (e:Ex) (v0:Value) (G:GS):Option (Value × GS) :=
 bP (pNil v0) fun x0 =>
 bP (fa Q q 96 6 18 x0) fun x1 =>
 bP (ld Q q 3 x1 G) fun x2 =>
 bP (bn Q q .sub 3 (.tmp 5) (.const (.int .i64 1)) x2 (.int .i64 1)) fun x3 =>
 bP (pNil v0) fun x4 =>
 bP (fa Q q 96 6 18 x4) fun x5 =>
 bP (st Q q 3 1 x5 x3 G) fun G6 =>
 bP (pNil v0) fun x7 =>
 bP (fa Q q 96 2 14 x7) fun x8 =>
 bP (st Q q 3 1 x8 (.int .i64 5) G6) fun G9 =>
 bP (pNil v0) fun x10 =>
 bP (fa Q q 96 6 18 x10) fun x11 =>
 bP (ld Q q 3 x11 G9) fun x12 =>
 bP (bn Q q .lss 3 (.tmp 15) (.const (.int .i64 1)) x12 (.int .i64 1)) fun x13 =>
 ifV x13 (
 bP (pNil v0) fun x14 =>
 bP (fa Q q 96 2 14 x14) fun x15 =>
 bP (st Q q 3 1 x15 (.int .i64 7) G9) fun G16 =>
 some (.tuple #[],G16)) (
 some (.tuple #[],G9))
theorem m191 {e:Ex} {E:Ev} (h:ExLe Q e E) (v0:Value) (G:GS):Ref (s191 true e v0 G) (s191 false (Ex.of E) v0 G):=by
 unfold s191
 exact Ref.gq
theorem f191 {orc:FuncId → Bool} {e:Ex} (h:ExLe Q e (E orc)) (v0:Value) (G:GS):Ref (s191 true e v0 G) ((E orc).cl 191 [v0] G) :=
 fun r hr=>cl_sxE_some Q orc (vs:=[v0]) G Tryz.func191 (by kernel_rfl) (by kernel_rfl) (by kernel_rfl) (by kernel_rfl) (by kernel_rfl) (by kernel_rfl) (m191 h v0 G r hr)
noncomputable def s192 (q:Bool) (e:Ex) (v0 v1:Value) (G:GS):Option (Value × GS) :=
 bS (bx q v0 G) fun x0 G1 =>
 bP (lda Q q 75 13 x0 G1) fun x2 =>
 bS (e.ev.cl 73 [x2] G1) fun x3 G4 =>
 bP (un Q q .not x3) fun x5 =>
 ifV x5 (
 bP (bd Q q 300 z300 [(2,14,1),(12,24,1)] [(.int .i64 9),(.int .i64 2)]) fun x6 =>
 bS (bx q x6 G4) fun x7 G8 =>
 some (x7,G8)) (
 bP (lda Q q 75 13 x0 (G4.room 14)) fun x9 =>
 bP (fa Q q 75 2 2 x0) fun x10 =>
 bP (ld Q q 3 x10 (G4.room 14)) fun x11 =>
 bS (mk Q q 52 1 8 z3 x11 x11 ((G4.room 14).at' (G4.nx + 4))) fun x12 G13 =>
 bP (fa Q q 75 2 2 x0) fun x14 =>
 bP (ld Q q 3 x14 (G13.back (G4.room 14))) fun x15 =>
 bS (mk Q q 24 1 8 z39 x15 x15 ((G13.back (G4.room 14)).at' (G4.nx + 7))) fun x16 G17 =>
 bP (fa Q q 75 2 2 x0) fun x18 =>
 bP (ld Q q 3 x18 (G17.back (G13.back (G4.room 14)))) fun x19 =>
 bS (mk Q q 24 1 8 z39 x19 x19 ((G17.back (G13.back (G4.room 14))).at' (G4.nx + 10))) fun x20 G21 =>
 bP (bd Q q 300 z300 [(0,0,13),(1,13,1),(8,20,1),(9,21,1),(10,22,1)] [x9,v1,x12,x16,x20]) fun x22 =>
 bS (bx q x22 ((G21.back (G17.back (G13.back (G4.room 14)))).at' (G4.nx + 12))) fun x23 G24 =>
 bS (e.ev.cl 233 [x23] (G24.back (G21.back (G17.back (G13.back (G4.room 14)))))) fun x25 G26 =>
 some (x23,G26))
theorem m192 {e:Ex} {E:Ev} (h:ExLe Q e E) (v0 v1:Value) (G:GS):Ref (s192 true e v0 v1 G) (s192 false (Ex.of E) v0 v1 G):=by
 unfold s192
 exact Ref.gq
theorem f192 {orc:FuncId → Bool} {e:Ex} (h:ExLe Q e (E orc)) (v0 v1:Value) (G:GS):Ref (s192 true e v0 v1 G) ((E orc).cl 192 [v0,v1] G) :=
 fun r hr=>cl_sxE_some Q orc (vs:=[v0,v1]) G Tryz.func192 (by kernel_rfl) (by kernel_rfl) (by kernel_rfl) (by kernel_rfl) (by kernel_rfl) (by kernel_rfl) (m192 h v0 v1 G r hr)
noncomputable def jb193_0 (q:Bool) (e:Ex) (τ:Env) (G:GS):Option (Value × GS) :=
 bV q (τ 0) fun a0_ =>
 bP (pNil a0_) fun x0 =>
 bP (fa Q q 300 2 14 x0) fun x1 =>
 bP (ld Q q 3 x1 G) fun x2 =>
 bP (bn Q q .eql 3 (.tmp 177) (.const (.int .i64 9)) x2 (.int .i64 9)) fun x3 =>
 some (x3,G)
noncomputable def j193_0 (q:Bool) (e:Ex) (τ:Env) (G:GS):Option (Value × GS):=jb193_0 q e τ G
theorem mj193_0 {e:Ex} {E:Ev} (h:ExLe Q e E) (τ:Env) (G:GS):Ref (j193_0 true e τ G) (j193_0 false (Ex.of E) τ G):=by
 unfold j193_0 jb193_0
 exact Ref.gq
theorem mkj193_0 {e:Ex} {E:Ev} (h:ExLe Q e E) {τ:Env} {l U:List (Nat × Value)} {G:GS} (hU:UOk τ U):Ref (j193_0 true e (xq true 179 τ l U) G) (j193_0 false (Ex.of E) (xq false 179 τ l U) G):=by
 rw [xq_eq hU]
 exact mj193_0 h _ _
noncomputable def sb193 (q:Bool) (e:Ex) (J0:Env → GS → Option (Value × GS)) (v0 v1:Value) (G:GS):Option (Value × GS) :=
 bP (pNil v0) fun x4 =>
 bP (fa Q q 300 2 14 x4) fun x5 =>
 bP (ld Q q 3 x5 G) fun x6 =>
 bP (bn Q q .eql 3 (.tmp 9) (.const (.int .i64 1)) x6 (.int .i64 1)) fun x7 =>
 ifV x7 (
 bP (pNil v0) fun x8 =>
 bP (fa Q q 300 5 17 x8) fun x9 =>
 bP (ld Q q 39 x9 G) fun x10 =>
 bP (pNil v0) fun x11 =>
 bP (fa Q q 300 11 23 x11) fun x12 =>
 bP (st Q q 39 1 x12 x10 G) fun G13 =>
 bP (pNil v0) fun x14 =>
 bP (fa Q q 300 0 0 x14) fun x15 =>
 bP (lda Q q 75 13 x15 (G13.room 19)) fun x16 =>
 bP (pNil v0) fun x17 =>
 bP (fa Q q 300 4 16 x17) fun x18 =>
 bP (ld Q q 3 x18 (G13.room 19)) fun x19 =>
 bP (pNil v0) fun x20 =>
 bP (fa Q q 300 3 15 x20) fun x21 =>
 bP (ld Q q 3 x21 (G13.room 19)) fun x22 =>
 bS (e.ev.cl 231 [x16,x19,x22] (G13.room 19)) fun x24 G23 =>
 bS (e.ev.cl 166 [v1,x24] G23) fun x26 G25 =>
 bP (pNil v0) fun x27 =>
 bP (fa Q q 300 6 18 x27) fun x28 =>
 bP (st Q q 39 1 x28 x26 G25) fun G29 =>
 bP (pNil v0) fun x30 =>
 bP (fa Q q 300 6 18 x30) fun x31 =>
 bP (ld Q q 39 x31 G29) fun x32 =>
 bP (bn Q q .geq 39 (.tmp 40) (.const (.int .u64 9223372036854775808)) x32 (.int .u64 9223372036854775808)) fun x33 =>
 ifV x33 (
 bS (e.ev.cl 233 [v0] G29) fun x34 G35 =>
 J0 (xq q 179 (nth undef [v0,v1]) [(43,x34),(42,v0),(41,x33),(40,x32),(39,x31),(38,x30),(37,v0),(36,x28),(35,x27),(34,x26),(33,x24),(32,x22),(31,x21),(30,x20),(29,v0),(28,x19),(27,x18),(26,x17),(25,v0),(24,x16),(23,x15),(22,x14),(21,v0),(20,v1),(19,v0),(18,x12),(17,x11),(16,x10),(15,x9),(14,x8),(13,v0),(12,v0),(10,x7),(11,x7),(9,x6),(8,x5),(7,x4),(6,v0),(4,(.bool false))] []) G35) (
 bS (e.ev.cl 234 [v0] G29) fun x36 G37 =>
 J0 (xq q 179 (nth undef [v0,v1]) [(45,x36),(44,v0),(41,x33),(40,x32),(39,x31),(38,x30),(37,v0),(36,x28),(35,x27),(34,x26),(33,x24),(32,x22),(31,x21),(30,x20),(29,v0),(28,x19),(27,x18),(26,x17),(25,v0),(24,x16),(23,x15),(22,x14),(21,v0),(20,v1),(19,v0),(18,x12),(17,x11),(16,x10),(15,x9),(14,x8),(13,v0),(12,v0),(10,x7),(11,x7),(9,x6),(8,x5),(7,x4),(6,v0),(4,(.bool false))] []) G37)) (
 bP (bn Q q .eql 3 (.tmp 9) (.const (.int .i64 2)) x6 (.int .i64 2)) fun x38 =>
 ifV x38 (
 bP (pNil v0) fun x39 =>
 bP (fa Q q 300 6 18 x39) fun x40 =>
 bP (ld Q q 39 x40 G) fun x41 =>
 bP (pNil v0) fun x42 =>
 bP (fa Q q 300 11 23 x42) fun x43 =>
 bP (st Q q 39 1 x43 x41 G) fun G44 =>
 bP (pNil v0) fun x45 =>
 bP (fa Q q 300 0 0 x45) fun x46 =>
 bP (lda Q q 75 13 x46 (G44.room 17)) fun x47 =>
 bS (e.ev.cl 235 [v0] (G44.room 17)) fun x49 G48 =>
 chk ((sameO (lda Q q 75 13 x46 G48) x47 && true)) <|
 bP (pNil v0) fun x50 =>
 bP (fa Q q 300 3 15 x50) fun x51 =>
 bP (ld Q q 3 x51 G48) fun x52 =>
 chk ((sameO (ld Q q 3 x51 (G44.room 17)) x52 && true)) <|
 bS (e.ev.cl 231 [x47,x49,x52] G48) fun x54 G53 =>
 bS (e.ev.cl 166 [v1,x54] G53) fun x56 G55 =>
 bP (pNil v0) fun x57 =>
 bP (fa Q q 300 7 19 x57) fun x58 =>
 bP (st Q q 39 1 x58 x56 G55) fun G59 =>
 bP (pNil v0) fun x60 =>
 bP (fa Q q 300 2 14 x60) fun x61 =>
 bP (st Q q 3 1 x61 (.int .i64 4) G59) fun G62 =>
 bP (pNil v0) fun x63 =>
 bP (fa Q q 300 7 19 x63) fun x64 =>
 bP (ld Q q 39 x64 G62) fun x65 =>
 bP (bn Q q .geq 39 (.tmp 77) (.const (.int .u64 9223372036854775808)) x65 (.int .u64 9223372036854775808)) fun x66 =>
 ifV x66 (
 bP (pNil v0) fun x67 =>
 bP (fa Q q 300 2 14 x67) fun x68 =>
 bP (st Q q 3 1 x68 (.int .i64 3) G62) fun G69 =>
 J0 (xq q 179 (nth undef [v0,v1]) [(81,x68),(80,x67),(79,v0),(78,x66),(77,x65),(76,x64),(75,x63),(74,v0),(73,x61),(72,x60),(71,v0),(70,x58),(69,x57),(68,x56),(67,x54),(66,x52),(65,x51),(64,x50),(63,v0),(62,x49),(61,v0),(60,x47),(59,x46),(58,x45),(57,v0),(56,v1),(55,v0),(54,x43),(53,x42),(52,x41),(51,x40),(50,x39),(49,v0),(48,v0),(46,x38),(47,x38),(10,x7),(11,x7),(9,x6),(8,x5),(7,x4),(6,v0),(4,(.bool false))] []) G69) (
 J0 (xq q 179 (nth undef [v0,v1]) [(78,x66),(77,x65),(76,x64),(75,x63),(74,v0),(73,x61),(72,x60),(71,v0),(70,x58),(69,x57),(68,x56),(67,x54),(66,x52),(65,x51),(64,x50),(63,v0),(62,x49),(61,v0),(60,x47),(59,x46),(58,x45),(57,v0),(56,v1),(55,v0),(54,x43),(53,x42),(52,x41),(51,x40),(50,x39),(49,v0),(48,v0),(46,x38),(47,x38),(10,x7),(11,x7),(9,x6),(8,x5),(7,x4),(6,v0),(4,(.bool false))] []) G62)) (
 bP (bn Q q .eql 3 (.tmp 9) (.const (.int .i64 3)) x6 (.int .i64 3)) fun x70 =>
 ifV x70 (
 bP (pNil v0) fun x71 =>
 bP (fa Q q 300 5 17 x71) fun x72 =>
 bP (ld Q q 39 x72 G) fun x73 =>
 bP (pNil v0) fun x74 =>
 bP (fa Q q 300 11 23 x74) fun x75 =>
 bP (st Q q 39 1 x75 x73 G) fun G76 =>
 bP (pNil v0) fun x77 =>
 bP (fa Q q 300 0 0 x77) fun x78 =>
 bP (lda Q q 75 13 x78 (G76.room 24)) fun x79 =>
 bP (pNil v0) fun x80 =>
 bP (fa Q q 300 4 16 x80) fun x81 =>
 bP (ld Q q 3 x81 (G76.room 24)) fun x82 =>
 bP (pNil v0) fun x83 =>
 bP (fa Q q 300 3 15 x83) fun x84 =>
 bP (ld Q q 3 x84 (G76.room 24)) fun x85 =>
 bS (e.ev.cl 231 [x79,x82,x85] (G76.room 24)) fun x87 G86 =>
 bP (pNil v0) fun x88 =>
 bP (fa Q q 300 6 18 x88) fun x89 =>
 bP (ld Q q 39 x89 G86) fun x90 =>
 chk ((sameO (ld Q q 39 x89 (G76.room 24)) x90 && true)) <|
 bP (pNil v0) fun x91 =>
 bP (fa Q q 300 7 19 x91) fun x92 =>
 bP (ld Q q 39 x92 G86) fun x93 =>
 chk ((sameO (ld Q q 39 x92 (G76.room 24)) x93 && true)) <|
 bP (bn Q q .sub 39 (.tmp 112) (.const (.int .u64 9223372036854775808)) x93 (.int .u64 9223372036854775808)) fun x94 =>
 bS (e.ev.cl 168 [v1,x87,x90,x94] G86) fun x96 G95 =>
 ifV x96 (
 bP (pNil v0) fun x97 =>
 bP (fa Q q 300 7 19 x97) fun x98 =>
 bP (ld Q q 39 x98 G95) fun x99 =>
 bP (bn Q q .sub 39 (.tmp 119) (.const (.int .u64 9223372036854775808)) x99 (.int .u64 9223372036854775808)) fun x100 =>
 bP (pNil v0) fun x101 =>
 bP (fa Q q 300 6 18 x101) fun x102 =>
 bP (st Q q 39 1 x102 x100 G95) fun G103 =>
 bS (e.ev.cl 234 [v0] G103) fun x104 G105 =>
 J0 (xq q 179 (nth undef [v0,v1]) [(124,x104),(123,v0),(122,x102),(121,x101),(120,x100),(119,x99),(118,x98),(117,x97),(116,v0),(115,v0),(114,x96),(113,x94),(112,x93),(111,x92),(110,x91),(109,v0),(108,x90),(107,x89),(106,x88),(105,v0),(104,x87),(103,x85),(102,x84),(101,x83),(100,v0),(99,x82),(98,x81),(97,x80),(96,v0),(95,x79),(94,x78),(93,x77),(92,v0),(91,v1),(90,x75),(89,x74),(88,x73),(87,x72),(86,x71),(85,v0),(84,v0),(82,x70),(83,x70),(46,x38),(47,x38),(10,x7),(11,x7),(9,x6),(8,x5),(7,x4),(6,v0),(4,(.bool false))] []) G105) (
 bS (e.ev.cl 233 [v0] G95) fun x106 G107 =>
 J0 (xq q 179 (nth undef [v0,v1]) [(126,x106),(125,v0),(114,x96),(113,x94),(112,x93),(111,x92),(110,x91),(109,v0),(108,x90),(107,x89),(106,x88),(105,v0),(104,x87),(103,x85),(102,x84),(101,x83),(100,v0),(99,x82),(98,x81),(97,x80),(96,v0),(95,x79),(94,x78),(93,x77),(92,v0),(91,v1),(90,x75),(89,x74),(88,x73),(87,x72),(86,x71),(85,v0),(84,v0),(82,x70),(83,x70),(46,x38),(47,x38),(10,x7),(11,x7),(9,x6),(8,x5),(7,x4),(6,v0),(4,(.bool false))] []) G107)) (
 bP (bn Q q .eql 3 (.tmp 9) (.const (.int .i64 4)) x6 (.int .i64 4)) fun x108 =>
 ifV x108 (
 bP (pNil v0) fun x109 =>
 bP (fa Q q 300 6 18 x109) fun x110 =>
 bP (ld Q q 39 x110 G) fun x111 =>
 bP (pNil v0) fun x112 =>
 bP (fa Q q 300 11 23 x112) fun x113 =>
 bP (st Q q 39 1 x113 x111 G) fun G114 =>
 bP (pNil v0) fun x115 =>
 bP (fa Q q 300 0 0 x115) fun x116 =>
 bP (lda Q q 75 13 x116 (G114.room 10)) fun x117 =>
 bS (e.ev.cl 235 [v0] (G114.room 10)) fun x119 G118 =>
 chk ((sameO (lda Q q 75 13 x116 G118) x117 && true)) <|
 bS (e.ev.cl 196 [x117,x119,(.int .i64 0)] G118) fun x121 G120 =>
 bS (e.ev.cl 166 [v1,x121] G120) fun x123 G122 =>
 bP (pNil v0) fun x124 =>
 bP (fa Q q 300 1 13 x124) fun x125 =>
 bP (ld Q q 39 x125 G122) fun x126 =>
 bP (bn Q q .lss 39 (.tmp 145) (.tmp 149) x123 x126) fun x127 =>
 ifV x127 (
 bS (e.ev.cl 235 [v0] G122) fun x128 G129 =>
 bP (pNil v0) fun x130 =>
 bP (fa Q q 300 4 16 x130) fun x131 =>
 bP (st Q q 3 1 x131 x128 G129) fun G132 =>
 bP (pNil v0) fun x133 =>
 bP (fa Q q 300 6 18 x133) fun x134 =>
 bP (ld Q q 39 x134 G132) fun x135 =>
 bP (pNil v0) fun x136 =>
 bP (fa Q q 300 5 17 x136) fun x137 =>
 bP (st Q q 39 1 x137 x135 G132) fun G138 =>
 bP (pNil v0) fun x139 =>
 bP (fa Q q 300 7 19 x139) fun x140 =>
 bP (ld Q q 39 x140 G138) fun x141 =>
 bP (pNil v0) fun x142 =>
 bP (fa Q q 300 6 18 x142) fun x143 =>
 bP (st Q q 39 1 x143 x141 G138) fun G144 =>
 bS (e.ev.cl 234 [v0] G144) fun x145 G146 =>
 J0 (xq q 179 (nth undef [v0,v1]) [(171,x145),(170,v0),(169,x143),(168,x142),(167,x141),(166,x140),(165,x139),(164,v0),(163,v0),(162,x137),(161,x136),(160,x135),(159,x134),(158,x133),(157,v0),(156,v0),(155,x131),(154,x130),(153,x128),(152,v0),(151,v0),(150,x127),(149,x126),(148,x125),(147,x124),(146,v0),(145,x123),(5,x123),(144,x123),(143,x121),(142,x119),(141,v0),(140,x117),(139,x116),(138,x115),(137,v0),(136,v1),(135,x113),(134,x112),(133,x111),(132,x110),(131,x109),(130,v0),(129,v0),(127,x108),(128,x108),(82,x70),(83,x70),(46,x38),(47,x38),(10,x7),(11,x7),(9,x6),(8,x5),(7,x4),(6,v0),(4,(.bool false))] []) G146) (
 bS (e.ev.cl 236 [v0] G122) fun x147 G148 =>
 J0 (xq q 179 (nth undef [v0,v1]) [(173,x147),(172,v0),(150,x127),(149,x126),(148,x125),(147,x124),(146,v0),(145,x123),(5,x123),(144,x123),(143,x121),(142,x119),(141,v0),(140,x117),(139,x116),(138,x115),(137,v0),(136,v1),(135,x113),(134,x112),(133,x111),(132,x110),(131,x109),(130,v0),(129,v0),(127,x108),(128,x108),(82,x70),(83,x70),(46,x38),(47,x38),(10,x7),(11,x7),(9,x6),(8,x5),(7,x4),(6,v0),(4,(.bool false))] []) G148)) (
 J0 (xq q 179 (nth undef [v0,v1]) [(127,x108),(128,x108),(82,x70),(83,x70),(46,x38),(47,x38),(10,x7),(11,x7),(9,x6),(8,x5),(7,x4),(6,v0),(4,(.bool false))] []) G))))
noncomputable def s193 (q:Bool) (e:Ex) (v0 v1:Value) (G:GS):Option (Value × GS):=sb193 q e (j193_0 q e) v0 v1 G
theorem m193 {e:Ex} {E:Ev} (h:ExLe Q e E) (v0 v1:Value) (G:GS):Ref (s193 true e v0 v1 G) (s193 false (Ex.of E) v0 v1 G):=by
 unfold s193 sb193
 repeat' (with_reducible first | exact Ref.rfl' _ | exact ROp.r | refine Ref.bP ?_ fun _=>?_ | refine Ref.bS ?_ fun _ _=>?_ | exact Ref.cl (by assumption) | refine Ref.ifV ?_ ?_ | refine LpLe.rx (by assumption) ?_ | refine Ref.xitq ?_ | exact UOk.z | refine UOk.c (by assumption) ?_ | exact Ref.nil _ | refine Ref.bVe fun _ _=>?_ | refine Ref.bLq (by assumption) ?_ fun _ _ _=>?_ | refine Ref.ifE ?_ ?_ | refine Ref.chk ?_ ?_ | refine Imp.and ?_ ?_ | refine Imp.or ?_ | exact Imp.rfl' _ | refine Imp.sameO ?_ | refine Ref.gd ?_ | exact Ref.cValue (by assumption) | refine Ref.bX ?_ fun _ _ _=>?_ | exact Ref.scQ (by assumption) | exact Ref.xRangeQ (by assumption) | exact Ref.cInvoke (by assumption) | refine mkj193_0 (by assumption) ?_)
noncomputable def jt193 (J0:Env → GS → Option (Value × GS)):JT (Value × GS) :=
 (.n none .e (.n (some (fun T G=>J0 (nth undef T) G)) .e .e))
set_option maxHeartbeats 8000000 in
theorem jr193_0 (orc:FuncId → Bool) (J0:Env → GS → Option (Value × GS)) (T:List Value) (G:GS):runC Q (evL Q orc) Tryz.f193.ntmps (jt193 J0) (bodyOf Tryz.f193) (retE Q Tryz.f193.results.toList) [true] (nth undef T) G = jb193_0 false (Ex.of (E orc))  (nth undef T) G:=by kernel_rfl
set_option maxHeartbeats 8000000 in
theorem jo193 (orc:FuncId → Bool):JOk Q orc Tryz.f193.ntmps (jt193 (j193_0 false (Ex.of (E orc))) ) (bodyOf Tryz.f193) (retE Q Tryz.f193.results.toList) :=
 jOk Q orc (l:=[([true],(fun T G=>j193_0 false (Ex.of (E orc)) (nth undef T) G))]) (by kernel_rfl) (AllE.c (fun T G=>jr193_0 orc (j193_0 false (Ex.of (E orc))) T G) (AllE.z))
set_option maxHeartbeats 8000000 in
theorem je193 (orc:FuncId → Bool) (J0:Env → GS → Option (Value × GS)) (v0 v1:Value) (G:GS):sxC Q (evL Q orc) Tryz.f193.ntmps (jt193 J0) (bodyOf Tryz.f193) (nth undef [v0,v1]) G (retE Q Tryz.f193.results.toList) = sb193 false (Ex.of (E orc)) J0 v0 v1 G:=by kernel_rfl
set_option maxHeartbeats 8000000 in
theorem f193 {orc:FuncId → Bool} {e:Ex} (h:ExLe Q e (E orc)) (v0 v1:Value) (G:GS):Ref (s193 true e v0 v1 G) ((E orc).cl 193 [v0,v1] G) :=
 fun r hr=>cl_sxC Q orc (vs:=[v0,v1]) G (jt193 (j193_0 false (Ex.of (E orc))) ) Tryz.func193 (by kernel_rfl) (by kernel_rfl) (by kernel_rfl) (by kernel_rfl) (by kernel_rfl) (jo193 orc) (je193 orc (j193_0 false (Ex.of (E orc))) v0 v1 G) (m193 h v0 v1 G r hr)
noncomputable def s194 (q:Bool) (e:Ex) (v0:Value) (G:GS):Option (Value × GS) :=
 bP (pNil v0) fun x0 =>
 bP (fa Q q 300 11 23 x0) fun x1 =>
 bP (ld Q q 39 x1 G) fun x2 =>
 some (x2,G)
theorem m194 {e:Ex} {E:Ev} (h:ExLe Q e E) (v0:Value) (G:GS):Ref (s194 true e v0 G) (s194 false (Ex.of E) v0 G):=by
 unfold s194
 exact Ref.gq
theorem f194 {orc:FuncId → Bool} {e:Ex} (h:ExLe Q e (E orc)) (v0:Value) (G:GS):Ref (s194 true e v0 G) ((E orc).cl 194 [v0] G) :=
 fun r hr=>cl_sxE_some Q orc (vs:=[v0]) G Tryz.func194 (by kernel_rfl) (by kernel_rfl) (by kernel_rfl) (by kernel_rfl) (by kernel_rfl) (by kernel_rfl) (m194 h v0 G r hr)
noncomputable def s195 (q:Bool) (e:Ex) (v0 v1 v2:Value) (G:GS):Option (Value × GS) :=
 bS (e.ev.cl 129 [v0,v1] G) fun x0 G1 =>
 bP (bn Q q .add 39 (.tmp 11) (.tmp 12) x0 v2) fun x2 =>
 bS (e.ev.cl 55 [v0,(.int .i64 4),v1,(.bool true),x2] G1) fun x3 G4 =>
 bP (pNil v0) fun x5 =>
 bP (fa Q q 114 1 1 x5) fun x6 =>
 bP (fa Q q 59 3 3 x6) fun x7 =>
 bP (ld Q q 39 x7 G4) fun x8 =>
 some (x8,G4)
theorem m195 {e:Ex} {E:Ev} (h:ExLe Q e E) (v0 v1 v2:Value) (G:GS):Ref (s195 true e v0 v1 v2 G) (s195 false (Ex.of E) v0 v1 v2 G):=by
 unfold s195
 exact Ref.gq
theorem f195 {orc:FuncId → Bool} {e:Ex} (h:ExLe Q e (E orc)) (v0 v1 v2:Value) (G:GS):Ref (s195 true e v0 v1 v2 G) ((E orc).cl 195 [v0,v1,v2] G) :=
 fun r hr=>cl_sxE_some Q orc (vs:=[v0,v1,v2]) G Tryz.func195 (by kernel_rfl) (by kernel_rfl) (by kernel_rfl) (by kernel_rfl) (by kernel_rfl) (by kernel_rfl) (m195 h v0 v1 v2 G r hr)
noncomputable def s196 (q:Bool) (e:Ex) (v0 v1 v2:Value) (G:GS):Option (Value × GS) :=
 bS (bx q v0 G) fun x0 G1 =>
 bP (lda Q q 75 13 x0 G1) fun x2 =>
 bS (e.ev.cl 73 [x2] G1) fun x3 G4 =>
 bP (un Q q .not x3) fun x5 =>
 bS (gd x5 false (some (v1,G4)) G4) fun x6 G7 =>
 bS (gd x5 false (bP (bn Q q .lss 3 (.tmp 11) (.const (.int .i64 (-1))) x6 (.int .i64 (-1))) fun y=>some (y,G7)) G7) fun x8 G9 =>
 bP (pickV x5 (.bool true) x8) fun x10 =>
 bS (gd x10 false (some (v1,G9)) G9) fun x11 G12 =>
 bS (gd x10 false (bP (fa Q q 75 3 3 x0) fun y=>some (y,G12)) G12) fun x13 G14 =>
 bS (gd x10 false (bP (fa Q q 73 0 0 x13) fun y=>some (y,G14)) G14) fun x15 G16 =>
 bS (gd x10 false (bP (fa Q q 69 0 0 x15) fun y=>some (y,G16)) G16) fun x17 G18 =>
 bS (gd x10 false (bP (fa Q q 67 2 2 x17) fun y=>some (y,G18)) G18) fun x19 G20 =>
 bS (gd x10 false (bP (ld Q q 3 x19 G20) fun y=>some (y,G20)) G20) fun x21 G22 =>
 bS (gd x10 false (bP (bn Q q .geq 3 (.tmp 15) (.tmp 20) x11 x21) fun y=>some (y,G22)) G22) fun x23 G24 =>
 bP (pickV x10 (.bool true) x23) fun x25 =>
 bS (gd x25 false (some (v2,G24)) G24) fun x26 G27 =>
 bS (gd x25 false (bP (bn Q q .lss 3 (.tmp 24) (.const (.int .i64 0)) x26 (.int .i64 0)) fun y=>some (y,G27)) G27) fun x28 G29 =>
 bP (pickV x25 (.bool true) x28) fun x30 =>
 bS (gd x30 false (some (v2,G29)) G29) fun x31 G32 =>
 bS (gd x30 false (bP (fa Q q 75 2 2 x0) fun y=>some (y,G32)) G32) fun x33 G34 =>
 bS (gd x30 false (bP (ld Q q 3 x33 G34) fun y=>some (y,G34)) G34) fun x35 G36 =>
 bS (gd x30 false (bP (bn Q q .add 3 (.const (.int .i64 4)) (.tmp 30) (.int .i64 4) x35) fun y=>some (y,G36)) G36) fun x37 G38 =>
 bS (gd x30 false (bP (bn Q q .geq 3 (.tmp 28) (.tmp 31) x31 x37) fun y=>some (y,G38)) G38) fun x39 G40 =>
 bP (pickV x30 (.bool true) x39) fun x41 =>
 bS (gd x41 false (some (v1,G40)) G40) fun x42 G43 =>
 bS (gd x41 false (bP (bn Q q .lss 3 (.tmp 35) (.const (.int .i64 0)) x42 (.int .i64 0)) fun y=>some (y,G43)) G43) fun x44 G45 =>
 bS (gd x41 false (some (x44,G45)) G45) fun x46 G47 =>
 bS (gd x46 true (some (v2,G47)) G47) fun x48 G49 =>
 bS (gd x46 true (bP (bn Q q .lss 3 (.tmp 38) (.const (.int .i64 4)) x48 (.int .i64 4)) fun y=>some (y,G49)) G49) fun x50 G51 =>
 bS (gd x41 false (bP (pickV x46 x50 (.bool false)) fun y=>some (y,G51)) G51) fun x52 G53 =>
 bP (pickV x41 (.bool true) x52) fun x54 =>
 ifV x54 (
 some ((.int .i64 (-1)),G53)) (
 bP (bn Q q .lss 3 (.tmp 42) (.const (.int .i64 0)) v1 (.int .i64 0)) fun x55 =>
 ifV x55 (
 bP (fa Q q 75 1 1 x0) fun x56 =>
 bP (ld Q q 3 x56 G53) fun x57 =>
 bP (bn Q q .add 3 (.tmp 45) (.tmp 46) x57 v2) fun x58 =>
 bP (bn Q q .sub 3 (.tmp 47) (.const (.int .i64 4)) x58 (.int .i64 4)) fun x59 =>
 some (x59,G53)) (
 bP (fa Q q 75 0 0 x0) fun x60 =>
 bP (ld Q q 3 x60 G53) fun x61 =>
 bP (fa Q q 75 2 2 x0) fun x62 =>
 bP (ld Q q 3 x62 G53) fun x63 =>
 bP (bn Q q .add 3 (.const (.int .i64 4)) (.tmp 53) (.int .i64 4) x63) fun x64 =>
 bP (bn Q q .mul 3 (.tmp 51) (.tmp 54) v1 x64) fun x65 =>
 bP (bn Q q .add 3 (.tmp 50) (.tmp 55) x61 x65) fun x66 =>
 bP (bn Q q .add 3 (.tmp 56) (.tmp 57) x66 v2) fun x67 =>
 some (x67,G53)))
theorem m196 {e:Ex} {E:Ev} (h:ExLe Q e E) (v0 v1 v2:Value) (G:GS):Ref (s196 true e v0 v1 v2 G) (s196 false (Ex.of E) v0 v1 v2 G):=by
 unfold s196
 exact Ref.gq
theorem f196 {orc:FuncId → Bool} {e:Ex} (h:ExLe Q e (E orc)) (v0 v1 v2:Value) (G:GS):Ref (s196 true e v0 v1 v2 G) ((E orc).cl 196 [v0,v1,v2] G) :=
 fun r hr=>cl_sxE_some Q orc (vs:=[v0,v1,v2]) G Tryz.func196 (by kernel_rfl) (by kernel_rfl) (by kernel_rfl) (by kernel_rfl) (by kernel_rfl) (by kernel_rfl) (m196 h v0 v1 v2 G r hr)
noncomputable def s197 (q:Bool) (e:Ex) (v0 v1:Value) (G:GS):Option (Value × GS) :=
 bS (bx q v0 G) fun x0 G1 =>
 bP (lda Q q 73 10 x0 G1) fun x2 =>
 bP (bd Q q 303 z303 [(0,0,10),(1,10,1)] [x2,v1]) fun x3 =>
 bS (bx q x3 G1) fun x4 G5 =>
 bP (bn Q q .lss 3 (.tmp 10) (.const (.int .i64 0)) v1 (.int .i64 0)) fun x6 =>
 bS (gd x6 false (some (v1,G5)) G5) fun x7 G8 =>
 bS (gd x6 false (bP (fa Q q 73 0 0 x0) fun y=>some (y,G8)) G8) fun x9 G10 =>
 bS (gd x6 false (bP (fa Q q 69 0 0 x9) fun y=>some (y,G10)) G10) fun x11 G12 =>
 bS (gd x6 false (bP (fa Q q 67 2 2 x11) fun y=>some (y,G12)) G12) fun x13 G14 =>
 bS (gd x6 false (bP (ld Q q 3 x13 G14) fun y=>some (y,G14)) G14) fun x15 G16 =>
 bS (gd x6 false (bP (bn Q q .geq 3 (.tmp 13) (.tmp 17) x7 x15) fun y=>some (y,G16)) G16) fun x17 G18 =>
 bP (pickV x6 (.bool true) x17) fun x19 =>
 ifV x19 (
 bP (pNil x4) fun x20 =>
 bP (fa Q q 303 3 12 x20) fun x21 =>
 bP (st Q q 3 1 x21 (.int .i64 9) G18) fun G22 =>
 bP (pNil x4) fun x23 =>
 bP (fa Q q 303 4 13 x23) fun x24 =>
 bP (st Q q 26 1 x24 (.int .i64 3) G22) fun G25 =>
 some (x4,G25)) (
 some (x4,G18))
theorem m197 {e:Ex} {E:Ev} (h:ExLe Q e E) (v0 v1:Value) (G:GS):Ref (s197 true e v0 v1 G) (s197 false (Ex.of E) v0 v1 G):=by
 unfold s197
 exact Ref.gq
theorem f197 {orc:FuncId → Bool} {e:Ex} (h:ExLe Q e (E orc)) (v0 v1:Value) (G:GS):Ref (s197 true e v0 v1 G) ((E orc).cl 197 [v0,v1] G) :=
 fun r hr=>cl_sxE_some Q orc (vs:=[v0,v1]) G Tryz.func197 (by kernel_rfl) (by kernel_rfl) (by kernel_rfl) (by kernel_rfl) (by kernel_rfl) (by kernel_rfl) (m197 h v0 v1 G r hr)
noncomputable def jb198_0 (q:Bool) (e:Ex) (τ:Env) (G:GS):Option (Value × GS) :=
 bV q (τ 0) fun a0_ =>
 bP (pNil a0_) fun x0 =>
 bP (fa Q q 303 3 12 x0) fun x1 =>
 bP (ld Q q 3 x1 G) fun x2 =>
 bP (bn Q q .eql 3 (.tmp 52) (.const (.int .i64 9)) x2 (.int .i64 9)) fun x3 =>
 some (x3,G)
noncomputable def j198_0 (q:Bool) (e:Ex) (τ:Env) (G:GS):Option (Value × GS):=jb198_0 q e τ G
theorem mj198_0 {e:Ex} {E:Ev} (h:ExLe Q e E) (τ:Env) (G:GS):Ref (j198_0 true e τ G) (j198_0 false (Ex.of E) τ G):=by
 unfold j198_0 jb198_0
 exact Ref.gq
theorem mkj198_0 {e:Ex} {E:Ev} (h:ExLe Q e E) {τ:Env} {l U:List (Nat × Value)} {G:GS} (hU:UOk τ U):Ref (j198_0 true e (xq true 54 τ l U) G) (j198_0 false (Ex.of E) (xq false 54 τ l U) G):=by
 rw [xq_eq hU]
 exact mj198_0 h _ _
noncomputable def sb198 (q:Bool) (e:Ex) (J0:Env → GS → Option (Value × GS)) (v0 v1:Value) (G:GS):Option (Value × GS) :=
 bP (pNil v0) fun x4 =>
 bP (fa Q q 303 3 12 x4) fun x5 =>
 bP (ld Q q 3 x5 G) fun x6 =>
 bP (bn Q q .eql 3 (.tmp 9) (.const (.int .i64 0)) x6 (.int .i64 0)) fun x7 =>
 ifV x7 (
 bP (pNil v0) fun x8 =>
 bP (fa Q q 303 0 0 x8) fun x9 =>
 bP (fa Q q 73 1 6 x9) fun x10 =>
 bP (fa Q q 71 0 0 x10) fun x11 =>
 bP (ld Q q 3 x11 G) fun x12 =>
 bS (e.ev.cl 166 [v1,x12] G) fun x13 G14 =>
 bP (bn Q q .rem 39 (.tmp 19) (.const (.int .u64 4294967296)) x13 (.int .u64 4294967296)) fun x15 =>
 bP (pNil v0) fun x16 =>
 bP (fa Q q 303 0 0 x16) fun x17 =>
 bP (lda Q q 73 10 x17 (G14.room 15)) fun x18 =>
 bS (e.ev.cl 238 [x18,x15] (G14.room 15)) fun x20 G19 =>
 bP (pNil v0) fun x21 =>
 bP (fa Q q 303 1 10 x21) fun x22 =>
 bP (ld Q q 3 x22 G19) fun x23 =>
 chk ((sameO (ld Q q 3 x22 (G14.room 15)) x23 && true)) <|
 bS (e.ev.cl 237 [x20,x23] G19) fun x25 G24 =>
 bP (pNil v0) fun x26 =>
 bP (fa Q q 303 2 11 x26) fun x27 =>
 bP (st Q q 301 1 x27 x25 G24) fun G28 =>
 bP (pNil v0) fun x29 =>
 bP (fa Q q 303 3 12 x29) fun x30 =>
 bP (st Q q 3 1 x30 (.int .i64 1) G28) fun G31 =>
 J0 (xq q 54 (nth undef [v0,v1]) [(37,x30),(36,x29),(35,v0),(34,x27),(33,x26),(32,x25),(31,x23),(30,x22),(29,x21),(28,v0),(27,x20),(26,x15),(25,x18),(24,x17),(23,x16),(22,v0),(21,v0),(5,x15),(20,x15),(19,x13),(18,x12),(17,x11),(16,x10),(15,x9),(14,x8),(13,v0),(12,v1),(10,x7),(11,x7),(9,x6),(8,x5),(7,x4),(6,v0),(4,(.bool false))] []) G31) (
 bP (bn Q q .eql 3 (.tmp 9) (.const (.int .i64 1)) x6 (.int .i64 1)) fun x32 =>
 ifV x32 (
 bP (pNil v0) fun x33 =>
 bP (fa Q q 303 2 11 x33) fun x34 =>
 bP (ld Q q 301 x34 G) fun x35 =>
 bS (e.ev.cl 239 [x35,v1] G) fun x36 G37 =>
 ifV x36 (
 bP (pNil v0) fun x38 =>
 bP (fa Q q 303 3 12 x38) fun x39 =>
 bP (st Q q 3 1 x39 (.int .i64 9) G37) fun G40 =>
 J0 (xq q 54 (nth undef [v0,v1]) [(48,x39),(47,x38),(46,v0),(45,x36),(44,v1),(43,x35),(42,x34),(41,x33),(40,v0),(38,x32),(39,x32),(10,x7),(11,x7),(9,x6),(8,x5),(7,x4),(6,v0),(4,(.bool false))] []) G40) (
 J0 (xq q 54 (nth undef [v0,v1]) [(45,x36),(44,v1),(43,x35),(42,x34),(41,x33),(40,v0),(38,x32),(39,x32),(10,x7),(11,x7),(9,x6),(8,x5),(7,x4),(6,v0),(4,(.bool false))] []) G37)) (
 J0 (xq q 54 (nth undef [v0,v1]) [(38,x32),(39,x32),(10,x7),(11,x7),(9,x6),(8,x5),(7,x4),(6,v0),(4,(.bool false))] []) G))
noncomputable def s198 (q:Bool) (e:Ex) (v0 v1:Value) (G:GS):Option (Value × GS):=sb198 q e (j198_0 q e) v0 v1 G
theorem m198 {e:Ex} {E:Ev} (h:ExLe Q e E) (v0 v1:Value) (G:GS):Ref (s198 true e v0 v1 G) (s198 false (Ex.of E) v0 v1 G):=by
 unfold s198 sb198
 repeat' (with_reducible first | exact Ref.rfl' _ | exact ROp.r | refine Ref.bP ?_ fun _=>?_ | refine Ref.bS ?_ fun _ _=>?_ | exact Ref.cl (by assumption) | refine Ref.ifV ?_ ?_ | refine LpLe.rx (by assumption) ?_ | refine Ref.xitq ?_ | exact UOk.z | refine UOk.c (by assumption) ?_ | exact Ref.nil _ | refine Ref.bVe fun _ _=>?_ | refine Ref.bLq (by assumption) ?_ fun _ _ _=>?_ | refine Ref.ifE ?_ ?_ | refine Ref.chk ?_ ?_ | refine Imp.and ?_ ?_ | refine Imp.or ?_ | exact Imp.rfl' _ | refine Imp.sameO ?_ | refine Ref.gd ?_ | exact Ref.cValue (by assumption) | refine Ref.bX ?_ fun _ _ _=>?_ | exact Ref.scQ (by assumption) | exact Ref.xRangeQ (by assumption) | exact Ref.cInvoke (by assumption) | refine mkj198_0 (by assumption) ?_)
noncomputable def jt198 (J0:Env → GS → Option (Value × GS)):JT (Value × GS) :=
 (.n none .e (.n (some (fun T G=>J0 (nth undef T) G)) .e .e))
theorem jr198_0 (orc:FuncId → Bool) (J0:Env → GS → Option (Value × GS)) (T:List Value) (G:GS):runC Q (evL Q orc) Tryz.f198.ntmps (jt198 J0) (bodyOf Tryz.f198) (retE Q Tryz.f198.results.toList) [true] (nth undef T) G = jb198_0 false (Ex.of (E orc))  (nth undef T) G:=by kernel_rfl
theorem jo198 (orc:FuncId → Bool):JOk Q orc Tryz.f198.ntmps (jt198 (j198_0 false (Ex.of (E orc))) ) (bodyOf Tryz.f198) (retE Q Tryz.f198.results.toList) :=
 jOk Q orc (l:=[([true],(fun T G=>j198_0 false (Ex.of (E orc)) (nth undef T) G))]) (by kernel_rfl) (AllE.c (fun T G=>jr198_0 orc (j198_0 false (Ex.of (E orc))) T G) (AllE.z))
theorem je198 (orc:FuncId → Bool) (J0:Env → GS → Option (Value × GS)) (v0 v1:Value) (G:GS):sxC Q (evL Q orc) Tryz.f198.ntmps (jt198 J0) (bodyOf Tryz.f198) (nth undef [v0,v1]) G (retE Q Tryz.f198.results.toList) = sb198 false (Ex.of (E orc)) J0 v0 v1 G:=by kernel_rfl
theorem f198 {orc:FuncId → Bool} {e:Ex} (h:ExLe Q e (E orc)) (v0 v1:Value) (G:GS):Ref (s198 true e v0 v1 G) ((E orc).cl 198 [v0,v1] G) :=
 fun r hr=>cl_sxC Q orc (vs:=[v0,v1]) G (jt198 (j198_0 false (Ex.of (E orc))) ) Tryz.func198 (by kernel_rfl) (by kernel_rfl) (by kernel_rfl) (by kernel_rfl) (by kernel_rfl) (jo198 orc) (je198 orc (j198_0 false (Ex.of (E orc))) v0 v1 G) (m198 h v0 v1 G r hr)
noncomputable def s199 (q:Bool) (e:Ex) (v0 v1:Value) (G:GS):Option (Value × GS) :=
 bS (e.ev.cl 52 [v0,v1] G) fun x0 G1 =>
 bP (bd Q q 126 z126 [(0,0,1)] [x0]) fun x2 =>
 bS (al Q q 126 z126 G1) fun x3 G4 =>
 bP (st Q q 126 3 x3 x2 G4) fun G5 =>
 bP (fa Q q 126 0 0 x3) fun x6 =>
 bP (ld Q q 123 x6 G5) fun x7 =>
 bP (lda Q q 126 3 x3 G5) fun x8 =>
 bS (e.ev.cl 53 [v0,(.int .i64 1),v1,x7,(.func (.func 240) #[x8] #[])] G5) fun x9 G10 =>
 bP (fd Q q 59 3 3 x9) fun x11 =>
 some (x11,G10)
theorem m199 {e:Ex} {E:Ev} (h:ExLe Q e E) (v0 v1:Value) (G:GS):Ref (s199 true e v0 v1 G) (s199 false (Ex.of E) v0 v1 G):=by
 unfold s199
 exact Ref.gq
theorem f199 {orc:FuncId → Bool} {e:Ex} (h:ExLe Q e (E orc)) (v0 v1:Value) (G:GS):Ref (s199 true e v0 v1 G) ((E orc).cl 199 [v0,v1] G) :=
 fun r hr=>cl_sxE_some Q orc (vs:=[v0,v1]) G Tryz.func199 (by kernel_rfl) (by kernel_rfl) (by kernel_rfl) (by kernel_rfl) (by kernel_rfl) (by kernel_rfl) (m199 h v0 v1 G r hr)
noncomputable def s200 (q:Bool) (e:Ex) (v0:Value) (G:GS):Option (Value × GS) :=
 bS (al Q q 270 z270 G) fun x0 G1 =>
 bS (e.ev.cl 241 [] G1) fun x2 G3 =>
 bS (al Q q 308 z308 G3) fun x4 G5 =>
 bP (st Q q 308 4 x4 x2 G5) fun G6 =>
 bP (iaa Q q 308 2 2 x4 (.int .i64 0)) fun x7 =>
 bP (lda Q q 307 2 x7 (G6.room 12)) fun x8 =>
 bS (e.ev.cl 242 [v0,x8] (G6.room 12)) fun x10 G9 =>
 bP (bn Q q .sub 3 (.tmp 9) (.const (.int .i64 1)) x10 (.int .i64 1)) fun x11 =>
 bP (iaa Q q 308 2 2 x4 (.int .i64 1)) fun x12 =>
 bP (lda Q q 307 2 x12 G9) fun x13 =>
 chk ((sameO (lda Q q 307 2 x12 (G6.room 12)) x13 && true)) <|
 bS (e.ev.cl 242 [v0,x13] G9) fun x15 G14 =>
 bP (bd Q q 270 z270 [(0,0,1),(1,1,1)] [x11,x15]) fun x16 =>
 bP (st Q q 270 2 x0 x16 G14) fun G17 =>
 bP (lda Q q 270 2 x0 G17) fun x18 =>
 some (.tuple #[x18,(.int .i64 0)],G17)
theorem m200 {e:Ex} {E:Ev} (h:ExLe Q e E) (v0:Value) (G:GS):Ref (s200 true e v0 G) (s200 false (Ex.of E) v0 G):=by
 unfold s200
 exact Ref.gq
theorem f200 {orc:FuncId → Bool} {e:Ex} (h:ExLe Q e (E orc)) (v0:Value) (G:GS):Ref (s200 true e v0 G) ((E orc).cl 200 [v0] G) :=
 fun r hr=>cl_sxE_some Q orc (vs:=[v0]) G Tryz.func200 (by kernel_rfl) (by kernel_rfl) (by kernel_rfl) (by kernel_rfl) (by kernel_rfl) (by kernel_rfl) (m200 h v0 G r hr)
noncomputable def s201 (q:Bool) (e:Ex) (v0:Value) (G:GS):Option (Value × GS) :=
 bP (pNil v0) fun x0 =>
 bP (fa Q q 165 0 0 x0) fun x1 =>
 bP (fa Q q 162 1 13 x1) fun x2 =>
 bP (fa Q q 159 0 0 x2) fun x3 =>
 bP (ld Q q 3 x3 G) fun x4 =>
 bP (bn Q q .sub 3 (.tmp 7) (.const (.int .i64 1)) x4 (.int .i64 1)) fun x5 =>
 bP (pNil v0) fun x6 =>
 bP (fa Q q 165 0 0 x6) fun x7 =>
 bP (fa Q q 162 1 13 x7) fun x8 =>
 bP (fa Q q 159 0 0 x8) fun x9 =>
 bP (st Q q 3 1 x9 x5 G) fun G10 =>
 bP (pNil v0) fun x11 =>
 bP (fa Q q 165 0 0 x11) fun x12 =>
 bP (fa Q q 162 2 17 x12) fun x13 =>
 bP (st Q q 3 1 x13 (.int .i64 5) G10) fun G14 =>
 bP (pNil v0) fun x15 =>
 bP (fa Q q 165 0 0 x15) fun x16 =>
 bP (fa Q q 162 1 13 x16) fun x17 =>
 bP (fa Q q 159 0 0 x17) fun x18 =>
 bP (ld Q q 3 x18 G14) fun x19 =>
 bP (bn Q q .lss 3 (.tmp 22) (.const (.int .i64 1)) x19 (.int .i64 1)) fun x20 =>
 ifV x20 (
 bP (pNil v0) fun x21 =>
 bP (fa Q q 165 0 0 x21) fun x22 =>
 bP (fa Q q 162 2 17 x22) fun x23 =>
 bP (st Q q 3 1 x23 (.int .i64 7) G14) fun G24 =>
 some (.tuple #[],G24)) (
 some (.tuple #[],G14))
theorem m201 {e:Ex} {E:Ev} (h:ExLe Q e E) (v0:Value) (G:GS):Ref (s201 true e v0 G) (s201 false (Ex.of E) v0 G):=by
 unfold s201
 exact Ref.gq
theorem f201 {orc:FuncId → Bool} {e:Ex} (h:ExLe Q e (E orc)) (v0:Value) (G:GS):Ref (s201 true e v0 G) ((E orc).cl 201 [v0] G) :=
 fun r hr=>cl_sxE_some Q orc (vs:=[v0]) G Tryz.func201 (by kernel_rfl) (by kernel_rfl) (by kernel_rfl) (by kernel_rfl) (by kernel_rfl) (by kernel_rfl) (m201 h v0 G r hr)
noncomputable def s202 (q:Bool) (e:Ex) (v0:Value) (G:GS):Option (Value × GS) :=
 bP (bn Q q .shr 39 (.tmp 3) (.const (.int .u64 63)) v0 (.int .u64 63)) fun x0 =>
 bP (bn Q q .eql 39 (.tmp 4) (.const (.int .u64 1)) x0 (.int .u64 1)) fun x1 =>
 some (x1,G)
theorem m202 {e:Ex} {E:Ev} (h:ExLe Q e E) (v0:Value) (G:GS):Ref (s202 true e v0 G) (s202 false (Ex.of E) v0 G):=by
 unfold s202
 exact Ref.gq
theorem f202 {orc:FuncId → Bool} {e:Ex} (h:ExLe Q e (E orc)) (v0:Value) (G:GS):Ref (s202 true e v0 G) ((E orc).cl 202 [v0] G) :=
 fun r hr=>cl_sxE_some Q orc (vs:=[v0]) G Tryz.func202 (by kernel_rfl) (by kernel_rfl) (by kernel_rfl) (by kernel_rfl) (by kernel_rfl) (by kernel_rfl) (m202 h v0 G r hr)
noncomputable def s203 (q:Bool) (e:Ex) (v0:Value) (G:GS):Option (Value × GS) :=
 bS (bx q v0 G) fun x0 G1 =>
 bP (fa Q q 126 0 0 x0) fun x2 =>
 bP (ld Q q 123 x2 (G1.room 7)) fun x3 =>
 bP (pNil x3) fun x4 =>
 bP (ld Q q 108 x4 (G1.room 7)) fun x5 =>
 bP (fa Q q 126 1 1 x0) fun x6 =>
 bP (ld Q q 39 x6 (G1.room 7)) fun x7 =>
 bP (bn Q q .neq 39 (.tmp 7) (.tmp 9) x5 x7) fun x8 =>
 ifV x8 (
 bP (fa Q q 126 0 0 x0) fun x9 =>
 bP (ld Q q 123 x9 (G1.room 7)) fun x10 =>
 bP (pNil x10) fun x11 =>
 bP (ld Q q 108 x11 (G1.room 7)) fun x12 =>
 some (.tuple #[x12,(.bool false)],(G1.room 7))) (
 bP (fa Q q 126 2 2 x0) fun x13 =>
 bP (ld Q q 39 x13 (G1.room 7)) fun x14 =>
 some (.tuple #[x14,(.bool true)],(G1.room 7)))
theorem m203 {e:Ex} {E:Ev} (h:ExLe Q e E) (v0:Value) (G:GS):Ref (s203 true e v0 G) (s203 false (Ex.of E) v0 G):=by
 unfold s203
 exact Ref.gq
theorem f203 {orc:FuncId → Bool} {e:Ex} (h:ExLe Q e (E orc)) (v0:Value) (G:GS):Ref (s203 true e v0 G) ((E orc).cl 203 [v0] G) :=
 fun r hr=>cl_sxE_some Q orc (vs:=[v0]) G Tryz.func203 (by kernel_rfl) (by kernel_rfl) (by kernel_rfl) (by kernel_rfl) (by kernel_rfl) (by kernel_rfl) (m203 h v0 G r hr)
noncomputable def s204 (q:Bool) (e:Ex) (v0 v1:Value) (G:GS):Option (Value × GS) :=
 ifV v1 (
 bP (bn Q q .or 39 (.tmp 6) (.const (.int .u64 9223372036854775808)) v0 (.int .u64 9223372036854775808)) fun x0 =>
 some (x0,G)) (
 bP (bn Q q .andNot 39 (.tmp 8) (.const (.int .u64 9223372036854775808)) v0 (.int .u64 9223372036854775808)) fun x1 =>
 some (x1,G))
theorem m204 {e:Ex} {E:Ev} (h:ExLe Q e E) (v0 v1:Value) (G:GS):Ref (s204 true e v0 v1 G) (s204 false (Ex.of E) v0 v1 G):=by
 unfold s204
 exact Ref.gq
theorem f204 {orc:FuncId → Bool} {e:Ex} (h:ExLe Q e (E orc)) (v0 v1:Value) (G:GS):Ref (s204 true e v0 v1 G) ((E orc).cl 204 [v0,v1] G) :=
 fun r hr=>cl_sxE_some Q orc (vs:=[v0,v1]) G Tryz.func204 (by kernel_rfl) (by kernel_rfl) (by kernel_rfl) (by kernel_rfl) (by kernel_rfl) (by kernel_rfl) (m204 h v0 v1 G r hr)
noncomputable def s205 (q:Bool) (e:Ex) (v0:Value) (G:GS):Option (Value × GS) :=
 bP (pNil v0) fun x0 =>
 bP (fa Q q 279 0 0 x0) fun x1 =>
 bP (fa Q q 75 2 2 x1) fun x2 =>
 bP (ld Q q 3 x2 G) fun x3 =>
 bP (bn Q q .sub 3 (.tmp 7) (.const (.int .i64 1)) x3 (.int .i64 1)) fun x4 =>
 bS (e.ev.cl 243 [v0,x4] G) fun x5 G6 =>
 some (.tuple #[],G6)
theorem m205 {e:Ex} {E:Ev} (h:ExLe Q e E) (v0:Value) (G:GS):Ref (s205 true e v0 G) (s205 false (Ex.of E) v0 G):=by
 unfold s205
 exact Ref.gq
theorem f205 {orc:FuncId → Bool} {e:Ex} (h:ExLe Q e (E orc)) (v0:Value) (G:GS):Ref (s205 true e v0 G) ((E orc).cl 205 [v0] G) :=
 fun r hr=>cl_sxE_some Q orc (vs:=[v0]) G Tryz.func205 (by kernel_rfl) (by kernel_rfl) (by kernel_rfl) (by kernel_rfl) (by kernel_rfl) (by kernel_rfl) (m205 h v0 G r hr)
noncomputable def b206_0 (q:Bool) (e:Ex) (lp:Env → GS → Option (Exit × Env × GS)) (τ:Env) (G:GS):Option (Exit × Env × GS) :=
 bV q (τ 0) fun a0_ =>
 bV q (τ 1) fun a1_ =>
 bV q (τ 5) fun a5_ =>
 bV q (τ 6) fun a6_ =>
 bP (pNil a0_) fun x0 =>
 bP (fa Q q 279 2 14 x0) fun x1 =>
 bP (ld Q q 3 x1 G) fun x2 =>
 bP (bn Q q .eql 3 (.tmp 56) (.const (.int .i64 1)) x2 (.int .i64 1)) fun x3 =>
 ifV x3 (
 bS (e.ev.cl 199 [a1_,a5_] G) fun x4 G5 =>
 bP (pNil a0_) fun x6 =>
 bP (fa Q q 279 3 15 x6) fun x7 =>
 bP (fa Q q 276 3 3 x7) fun x8 =>
 bP (st Q q 39 1 x8 x4 G5) fun G9 =>
 bP (pNil a0_) fun x10 =>
 bP (fa Q q 279 3 15 x10) fun x11 =>
 bP (fa Q q 276 3 3 x11) fun x12 =>
 bP (ld Q q 39 x12 G9) fun x13 =>
 bS (e.ev.cl 202 [x13] G9) fun x14 G15 =>
 ifV x14 (
 bS (e.ev.cl 205 [a0_] G15) fun x16 G17 =>
 some ((.exit 0),xq q 195 τ [(76,x16),(75,a0_),(74,x14),(73,x13),(72,x12),(71,x11),(70,x10),(69,a0_),(68,x8),(67,x7),(66,x6),(65,x4),(64,a5_),(63,a1_),(62,a0_),(60,x3),(61,x3),(56,x2),(55,x1),(54,x0),(53,a0_)] [(0,a0_),(1,a1_),(5,a5_),(6,a6_)],G17)) (
 bS (e.ev.cl 246 [a0_] G15) fun x18 G19 =>
 some ((.exit 0),xq q 195 τ [(189,x18),(188,a0_),(74,x14),(73,x13),(72,x12),(71,x11),(70,x10),(69,a0_),(68,x8),(67,x7),(66,x6),(65,x4),(64,a5_),(63,a1_),(62,a0_),(60,x3),(61,x3),(56,x2),(55,x1),(54,x0),(53,a0_)] [(0,a0_),(1,a1_),(5,a5_),(6,a6_)],G19))) (
 bP (bn Q q .eql 3 (.tmp 56) (.const (.int .i64 2)) x2 (.int .i64 2)) fun x20 =>
 ifV x20 (
 bP (pNil a0_) fun x21 =>
 bP (fa Q q 279 3 15 x21) fun x22 =>
 bP (fa Q q 276 3 3 x22) fun x23 =>
 bP (ld Q q 39 x23 G) fun x24 =>
 bP (pNil a0_) fun x25 =>
 bP (fa Q q 279 6 21 x25) fun x26 =>
 bP (st Q q 39 1 x26 x24 G) fun G27 =>
 bP (pNil a0_) fun x28 =>
 bP (fa Q q 279 0 0 x28) fun x29 =>
 bP (lda Q q 75 13 x29 (G27.room 17)) fun x30 =>
 bP (pNil a0_) fun x31 =>
 bP (fa Q q 279 3 15 x31) fun x32 =>
 bP (fa Q q 276 0 0 x32) fun x33 =>
 bP (ld Q q 3 x33 (G27.room 17)) fun x34 =>
 bS (e.ev.cl 142 [x30,a6_,x34] (G27.room 17)) fun x36 G35 =>
 bS (e.ev.cl 199 [a1_,x36] G35) fun x38 G37 =>
 bP (pNil a0_) fun x39 =>
 bP (fa Q q 279 4 19 x39) fun x40 =>
 bP (st Q q 39 1 x40 x38 G37) fun G41 =>
 bP (pNil a0_) fun x42 =>
 bP (fa Q q 279 2 14 x42) fun x43 =>
 bP (st Q q 3 1 x43 (.int .i64 4) G41) fun G44 =>
 bP (pNil a0_) fun x45 =>
 bP (fa Q q 279 4 19 x45) fun x46 =>
 bP (ld Q q 39 x46 G44) fun x47 =>
 bS (e.ev.cl 202 [x47] G44) fun x48 G49 =>
 ifV x48 (
 bP (pNil a0_) fun x50 =>
 bP (fa Q q 279 2 14 x50) fun x51 =>
 bP (st Q q 3 1 x51 (.int .i64 3) G49) fun G52 =>
 some ((.exit 0),xq q 195 τ [(113,x51),(112,x50),(111,a0_),(110,x48),(109,x47),(108,x46),(107,x45),(106,a0_),(105,x43),(104,x42),(103,a0_),(102,x40),(101,x39),(100,x38),(99,x36),(98,x34),(97,x33),(96,x32),(95,x31),(94,a0_),(93,a6_),(92,x30),(91,x29),(90,x28),(89,a0_),(88,a1_),(87,a0_),(86,x26),(85,x25),(84,x24),(83,x23),(82,x22),(81,x21),(80,a0_),(79,a0_),(77,x20),(78,x20),(60,x3),(61,x3),(56,x2),(55,x1),(54,x0),(53,a0_)] [(0,a0_),(1,a1_),(5,a5_),(6,a6_)],G52)) (
 some ((.exit 0),xq q 195 τ [(110,x48),(109,x47),(108,x46),(107,x45),(106,a0_),(105,x43),(104,x42),(103,a0_),(102,x40),(101,x39),(100,x38),(99,x36),(98,x34),(97,x33),(96,x32),(95,x31),(94,a0_),(93,a6_),(92,x30),(91,x29),(90,x28),(89,a0_),(88,a1_),(87,a0_),(86,x26),(85,x25),(84,x24),(83,x23),(82,x22),(81,x21),(80,a0_),(79,a0_),(77,x20),(78,x20),(60,x3),(61,x3),(56,x2),(55,x1),(54,x0),(53,a0_)] [(0,a0_),(1,a1_),(5,a5_),(6,a6_)],G49))) (
 bP (bn Q q .eql 3 (.tmp 56) (.const (.int .i64 3)) x2 (.int .i64 3)) fun x53 =>
 ifV x53 (
 bP (pNil a0_) fun x54 =>
 bP (fa Q q 279 3 15 x54) fun x55 =>
 bP (fa Q q 276 3 3 x55) fun x56 =>
 bP (ld Q q 39 x56 (G.room 14)) fun x57 =>
 bP (pNil a0_) fun x58 =>
 bP (fa Q q 279 4 19 x58) fun x59 =>
 bP (ld Q q 39 x59 (G.room 14)) fun x60 =>
 bS (e.ev.cl 204 [x60,(.bool false)] (G.room 14)) fun x62 G61 =>
 chk ((sameO (ld Q q 39 x56 G61) x57 && true)) <|
 bS (e.ev.cl 157 [a1_,a5_,x57,x62] G61) fun x64 G63 =>
 bP (un Q q .not x64) fun x65 =>
 ifV x65 (
 bS (e.ev.cl 205 [a0_] G63) fun x66 G67 =>
 some ((.exit 0),xq q 195 τ [(131,x66),(130,a0_),(129,x65),(128,x64),(127,x62),(126,x60),(125,x59),(124,x58),(123,a0_),(122,x57),(121,x56),(120,x55),(119,x54),(118,a0_),(117,a5_),(116,a1_),(114,x53),(115,x53),(77,x20),(78,x20),(60,x3),(61,x3),(56,x2),(55,x1),(54,x0),(53,a0_)] [(0,a0_),(1,a1_),(5,a5_),(6,a6_)],G67)) (
 bP (pNil a0_) fun x68 =>
 bP (fa Q q 279 4 19 x68) fun x69 =>
 bP (ld Q q 39 x69 G63) fun x70 =>
 bS (e.ev.cl 204 [x70,(.bool false)] G63) fun x71 G72 =>
 bP (pNil a0_) fun x73 =>
 bP (fa Q q 279 3 15 x73) fun x74 =>
 bP (fa Q q 276 3 3 x74) fun x75 =>
 bP (st Q q 39 1 x75 x71 G72) fun G76 =>
 bS (e.ev.cl 246 [a0_] G76) fun x77 G78 =>
 some ((.exit 0),xq q 195 τ [(189,x77),(188,a0_),(140,x75),(139,x74),(138,x73),(137,x71),(136,x70),(135,x69),(134,x68),(133,a0_),(132,a0_),(129,x65),(128,x64),(127,x62),(126,x60),(125,x59),(124,x58),(123,a0_),(122,x57),(121,x56),(120,x55),(119,x54),(118,a0_),(117,a5_),(116,a1_),(114,x53),(115,x53),(77,x20),(78,x20),(60,x3),(61,x3),(56,x2),(55,x1),(54,x0),(53,a0_)] [(0,a0_),(1,a1_),(5,a5_),(6,a6_)],G78))) (
 bP (bn Q q .eql 3 (.tmp 56) (.const (.int .i64 4)) x2 (.int .i64 4)) fun x79 =>
 ifV x79 (
 bP (pNil a0_) fun x80 =>
 bP (fa Q q 279 3 15 x80) fun x81 =>
 bP (fa Q q 276 3 3 x81) fun x82 =>
 bP (ld Q q 39 x82 G) fun x83 =>
 bP (pNil a0_) fun x84 =>
 bP (fa Q q 279 6 21 x84) fun x85 =>
 bP (st Q q 39 1 x85 x83 G) fun G86 =>
 bP (pNil a0_) fun x87 =>
 bP (fa Q q 279 0 0 x87) fun x88 =>
 bP (lda Q q 75 13 x88 (G86.room 13)) fun x89 =>
 bS (e.ev.cl 187 [x89,a6_,(.int .i64 0)] (G86.room 13)) fun x91 G90 =>
 bS (e.ev.cl 199 [a1_,x91] G90) fun x93 G92 =>
 bP (pNil a0_) fun x94 =>
 bP (fa Q q 279 1 13 x94) fun x95 =>
 bP (ld Q q 39 x95 G92) fun x96 =>
 chk ((sameO (ld Q q 39 x95 G90) x96 && (sameO (ld Q q 39 x95 (G86.room 13)) x96 && true))) <|
 bP (bn Q q .geq 39 (.tmp 158) (.tmp 162) x93 x96) fun x97 =>
 ifV x97 (
 bS (e.ev.cl 245 [a0_] G92) fun x98 G99 =>
 some ((.exit 0),xq q 195 τ [(165,x98),(164,a0_),(163,x97),(162,x96),(161,x95),(160,x94),(159,a0_),(158,x93),(157,x91),(156,a6_),(155,x89),(154,x88),(153,x87),(152,a0_),(151,a1_),(150,x85),(149,x84),(148,x83),(147,x82),(146,x81),(145,x80),(144,a0_),(143,a0_),(141,x79),(142,x79),(114,x53),(115,x53),(77,x20),(78,x20),(60,x3),(61,x3),(56,x2),(55,x1),(54,x0),(53,a0_)] [(0,a0_),(1,a1_),(5,a5_),(6,a6_)],G99)) (
 bP (pNil a0_) fun x100 =>
 bP (fa Q q 279 3 15 x100) fun x101 =>
 bP (fa Q q 276 3 3 x101) fun x102 =>
 bP (ld Q q 39 x102 (G92.room 25)) fun x103 =>
 bP (pNil a0_) fun x104 =>
 bP (fa Q q 279 4 19 x104) fun x105 =>
 bP (ld Q q 39 x105 (G92.room 25)) fun x106 =>
 bP (pNil a0_) fun x107 =>
 bP (fa Q q 279 3 15 x107) fun x108 =>
 bP (fa Q q 276 1 1 x108) fun x109 =>
 bP (st Q q 3 1 x109 a6_ (G92.room 25)) fun G110 =>
 bP (pNil a0_) fun x111 =>
 bP (fa Q q 279 3 15 x111) fun x112 =>
 bP (fa Q q 276 2 2 x112) fun x113 =>
 bP (st Q q 39 1 x113 x103 G110) fun G114 =>
 bP (pNil a0_) fun x115 =>
 bP (fa Q q 279 3 15 x115) fun x116 =>
 bP (fa Q q 276 3 3 x116) fun x117 =>
 bP (st Q q 39 1 x117 x106 G114) fun G118 =>
 bS (e.ev.cl 246 [a0_] G118) fun x119 G120 =>
 some ((.exit 0),xq q 195 τ [(189,x119),(188,a0_),(187,x117),(186,x116),(185,x115),(184,x113),(183,x112),(182,x111),(181,x109),(180,x108),(179,x107),(178,x106),(177,x105),(176,x104),(175,a0_),(174,x103),(173,x102),(172,x101),(171,x100),(170,a0_),(169,a6_),(168,a0_),(167,a0_),(166,a0_),(163,x97),(162,x96),(161,x95),(160,x94),(159,a0_),(158,x93),(157,x91),(156,a6_),(155,x89),(154,x88),(153,x87),(152,a0_),(151,a1_),(150,x85),(149,x84),(148,x83),(147,x82),(146,x81),(145,x80),(144,a0_),(143,a0_),(141,x79),(142,x79),(114,x53),(115,x53),(77,x20),(78,x20),(60,x3),(61,x3),(56,x2),(55,x1),(54,x0),(53,a0_)] [(0,a0_),(1,a1_),(5,a5_),(6,a6_)],G120))) (
 bP (pNil a0_) fun x121 =>
 bP (fa Q q 279 2 14 x121) fun x122 =>
 bP (st Q q 3 1 x122 (.int .i64 1) G) fun G123 =>
 lp (xq q 195 τ [(59,x122),(58,x121),(57,a0_),(141,x79),(142,x79),(114,x53),(115,x53),(77,x20),(78,x20),(60,x3),(61,x3),(56,x2),(55,x1),(54,x0),(53,a0_)] [(0,a0_),(1,a1_),(5,a5_),(6,a6_)]) G123))))
theorem mb206_0 {e:Ex} {E:Ev} (h:ExLe Q e E) {lp lp':Env → GS → Option (Exit × Env × GS)} (hlp:LpLe lp lp') (τ:Env) (G:GS):Ref (b206_0 true e lp τ G) (b206_0 false (Ex.of E) lp' τ G):=by
 unfold b206_0
 exact Ref.gq
set_option maxHeartbeats 8000000 in
theorem l206_0 {orc:FuncId → Bool} {e:Ex} (h:ExLe Q e (E orc)) (lp:Env → GS → Option (Exit × Env × GS)) (hlp:∀ τ G,Ref (lp τ G) (mapE ((E orc).lp (subAt [1,0,1,1,1,1,1,0,0,0] (bodyOf Tryz.f206)) (lst 195 τ) G))) (T:List Value) (G:GS) (hT:T.length = 195):Ref (b206_0 true e lp (nth undef T) G) (mapE ((E orc).lp (subAt [1,0,1,1,1,1,1,0,0,0] (bodyOf Tryz.f206)) T G)) :=
 fun r hr=>lp_sxN Q orc G hT (by kernel_rfl) (mb206_0 h ⟨hlp⟩ _ _ r hr)
noncomputable def s206 (q:Bool) (e:Ex) (v0 v1:Value) (G:GS):Option (Value × GS) :=
 bP (ep Q q false 156 (.tmp 7) (.const (.pointer none)) v0 (.pointer none)) fun x0 =>
 bS (gd x0 false (some (v0,G)) G) fun x1 G2 =>
 bS (gd x0 false (bP (pNil x1) fun y=>some (y,G2)) G2) fun x3 G4 =>
 bS (gd x0 false (bP (fa Q q 279 7 22 x3) fun y=>some (y,G4)) G4) fun x5 G6 =>
 bS (gd x0 false (bP (ld Q q 4 x5 G6) fun y=>some (y,G6)) G6) fun x7 G8 =>
 bS (gd x0 false (bP (un Q q .not x7) fun y=>some (y,G8)) G8) fun x9 G10 =>
 bP (pickV x0 (.bool true) x9) fun x11 =>
 bS (gd x11 false (some (v0,G10)) G10) fun x12 G13 =>
 bS (gd x11 false (bP (pNil x12) fun y=>some (y,G13)) G13) fun x14 G15 =>
 bS (gd x11 false (bP (fa Q q 279 2 14 x14) fun y=>some (y,G15)) G15) fun x16 G17 =>
 bS (gd x11 false (bP (ld Q q 3 x16 G17) fun y=>some (y,G17)) G17) fun x18 G19 =>
 bS (gd x11 false (bP (bn Q q .eql 3 (.tmp 20) (.const (.int .i64 9)) x18 (.int .i64 9)) fun y=>some (y,G19)) G19) fun x20 G21 =>
 bP (pickV x11 (.bool true) x20) fun x22 =>
 ifV x22 (
 some ((.bool true),G21)) (
 bP (pNil v0) fun x23 =>
 bP (fa Q q 279 0 0 x23) fun x24 =>
 bP (lda Q q 75 13 x24 (G21.room 16)) fun x25 =>
 bP (pNil v0) fun x26 =>
 bP (fa Q q 279 3 15 x26) fun x27 =>
 bP (fa Q q 276 1 1 x27) fun x28 =>
 bP (ld Q q 3 x28 (G21.room 16)) fun x29 =>
 bP (pNil v0) fun x30 =>
 bP (fa Q q 279 3 15 x30) fun x31 =>
 bP (fa Q q 276 0 0 x31) fun x32 =>
 bP (ld Q q 3 x32 (G21.room 16)) fun x33 =>
 bS (e.ev.cl 142 [x25,x29,x33] (G21.room 16)) fun x35 G34 =>
 bP (pNil v0) fun x36 =>
 bP (fa Q q 279 3 15 x36) fun x37 =>
 bP (fa Q q 276 3 3 x37) fun x38 =>
 bP (ld Q q 39 x38 G34) fun x39 =>
 bS (e.ev.cl 244 [v0,x39] G34) fun x40 G41 =>
 bP (pNil v0) fun x42 =>
 bP (fa Q q 279 3 15 x42) fun x43 =>
 bP (fa Q q 276 2 2 x43) fun x44 =>
 bP (ld Q q 39 x44 G41) fun x45 =>
 bP (pNil v0) fun x46 =>
 bP (fa Q q 279 6 21 x46) fun x47 =>
 bP (st Q q 39 1 x47 x45 G41) fun G48 =>
 bLq q e 206 0 (subAt [1,0,1,1,1,1,1,0,0,0] (bodyOf Tryz.f206)) 195 (nth undef [v0,v1]) [(52,x47),(51,x46),(50,x45),(49,x44),(48,x43),(47,x42),(46,v0),(45,v0),(6,x40),(44,x40),(43,x39),(42,x38),(41,x37),(40,x36),(39,v0),(38,v0),(5,x35),(37,x35),(36,x33),(35,x32),(34,x31),(33,x30),(32,v0),(31,x29),(30,x28),(29,x27),(28,x26),(27,v0),(26,x25),(25,x24),(24,x23),(23,v0),(22,x22),(21,x20),(20,x18),(19,x16),(18,x14),(17,x12),(16,x11),(15,x11),(14,x9),(13,x7),(12,x5),(11,x3),(10,x1),(9,x0),(8,x0),(7,v0),(4,(.bool false))] [] G48 fun e49 t50 G51 =>
 bV q (t50 0) fun t50x0_ =>
 ifE e49 (.exit 0) (
 bP (pNil t50x0_) fun x52 =>
 bP (fa Q q 279 2 14 x52) fun x53 =>
 bP (ld Q q 3 x53 G51) fun x54 =>
 bP (bn Q q .eql 3 (.tmp 193) (.const (.int .i64 9)) x54 (.int .i64 9)) fun x55 =>
 some (x55,G51)) (none))
theorem m206 {e:Ex} {E:Ev} (h:ExLe Q e E) (v0 v1:Value) (G:GS):Ref (s206 true e v0 v1 G) (s206 false (Ex.of E) v0 v1 G):=by
 unfold s206
 exact Ref.gq
set_option maxHeartbeats 8000000 in
theorem f206 {orc:FuncId → Bool} {e:Ex} (h:ExLe Q e (E orc)) (v0 v1:Value) (G:GS):Ref (s206 true e v0 v1 G) ((E orc).cl 206 [v0,v1] G) :=
 fun r hr=>cl_sxE_some Q orc (vs:=[v0,v1]) G Tryz.func206 (by kernel_rfl) (by kernel_rfl) (by kernel_rfl) (by kernel_rfl) (by kernel_rfl) (by kernel_rfl) (m206 h v0 v1 G r hr)
noncomputable def s207 (q:Bool) (e:Ex) (v0:Value) (G:GS):Option (Value × GS) :=
 bP (ep Q q false 156 (.tmp 3) (.const (.pointer none)) v0 (.pointer none)) fun x0 =>
 ifV x0 (
 some ((.int .u64 0),G)) (
 bP (pNil v0) fun x1 =>
 bP (fa Q q 279 6 21 x1) fun x2 =>
 bP (ld Q q 39 x2 G) fun x3 =>
 some (x3,G))
theorem m207 {e:Ex} {E:Ev} (h:ExLe Q e E) (v0:Value) (G:GS):Ref (s207 true e v0 G) (s207 false (Ex.of E) v0 G):=by
 unfold s207
 exact Ref.gq
theorem f207 {orc:FuncId → Bool} {e:Ex} (h:ExLe Q e (E orc)) (v0:Value) (G:GS):Ref (s207 true e v0 G) ((E orc).cl 207 [v0] G) :=
 fun r hr=>cl_sxE_some Q orc (vs:=[v0]) G Tryz.func207 (by kernel_rfl) (by kernel_rfl) (by kernel_rfl) (by kernel_rfl) (by kernel_rfl) (by kernel_rfl) (m207 h v0 G r hr)
noncomputable def s208 (q:Bool) (e:Ex) (v0 v1 v2:Value) (G:GS):Option (Value × GS) :=
 bS (e.ev.cl 52 [v0,v1] G) fun x0 G1 =>
 bP (bd Q q 126 z126 [(0,0,1),(1,1,1)] [x0,v2]) fun x2 =>
 bS (al Q q 126 z126 G1) fun x3 G4 =>
 bP (st Q q 126 3 x3 x2 G4) fun G5 =>
 bP (fa Q q 126 0 0 x3) fun x6 =>
 bP (ld Q q 123 x6 G5) fun x7 =>
 bP (lda Q q 126 3 x3 G5) fun x8 =>
 bS (e.ev.cl 53 [v0,(.int .i64 4),v1,x7,(.func (.func 247) #[x8] #[])] G5) fun x9 G10 =>
 bP (fd Q q 59 3 3 x9) fun x11 =>
 some (x11,G10)
theorem m208 {e:Ex} {E:Ev} (h:ExLe Q e E) (v0 v1 v2:Value) (G:GS):Ref (s208 true e v0 v1 v2 G) (s208 false (Ex.of E) v0 v1 v2 G):=by
 unfold s208
 exact Ref.gq
theorem f208 {orc:FuncId → Bool} {e:Ex} (h:ExLe Q e (E orc)) (v0 v1 v2:Value) (G:GS):Ref (s208 true e v0 v1 v2 G) ((E orc).cl 208 [v0,v1,v2] G) :=
 fun r hr=>cl_sxE_some Q orc (vs:=[v0,v1,v2]) G Tryz.func208 (by kernel_rfl) (by kernel_rfl) (by kernel_rfl) (by kernel_rfl) (by kernel_rfl) (by kernel_rfl) (m208 h v0 v1 v2 G r hr)
noncomputable def s209 (q:Bool) (e:Ex) (v0 v1:Value) (G:GS):Option (Value × GS) :=
 bS (bx q v0 G) fun x0 G1 =>
 bP (bd Q q 317 z317 [(1,1,1)] [(.bool true)]) fun x2 =>
 bP (lda Q q 73 10 x0 G1) fun x3 =>
 bP (bd Q q 320 z320 [(0,0,3),(1,3,10),(2,13,1)] [x2,x3,v1]) fun x4 =>
 bS (bx q x4 G1) fun x5 G6 =>
 bP (bn Q q .lss 3 (.tmp 11) (.const (.int .i64 0)) v1 (.int .i64 0)) fun x7 =>
 bS (gd x7 false (some (v1,G6)) G6) fun x8 G9 =>
 bS (gd x7 false (bP (fa Q q 73 0 0 x0) fun y=>some (y,G9)) G9) fun x10 G11 =>
 bS (gd x7 false (bP (fa Q q 69 0 0 x10) fun y=>some (y,G11)) G11) fun x12 G13 =>
 bS (gd x7 false (bP (fa Q q 67 2 2 x12) fun y=>some (y,G13)) G13) fun x14 G15 =>
 bS (gd x7 false (bP (ld Q q 3 x14 G15) fun y=>some (y,G15)) G15) fun x16 G17 =>
 bS (gd x7 false (bP (bn Q q .geq 3 (.tmp 14) (.tmp 18) x8 x16) fun y=>some (y,G17)) G17) fun x18 G19 =>
 bP (pickV x7 (.bool true) x18) fun x20 =>
 ifV x20 (
 bP (pNil x5) fun x21 =>
 bP (fa Q q 320 0 0 x21) fun x22 =>
 bP (fa Q q 317 2 2 x22) fun x23 =>
 bP (st Q q 26 1 x23 (.int .i64 3) G19) fun G24 =>
 some (x5,G24)) (
 bP (pNil x5) fun x25 =>
 bP (fa Q q 320 0 0 x25) fun x26 =>
 bP (fa Q q 317 0 0 x26) fun x27 =>
 bP (st Q q 315 1 x27 (.func (.func 248) #[x5] #[]) G19) fun G28 =>
 some (x5,G28))
theorem m209 {e:Ex} {E:Ev} (h:ExLe Q e E) (v0 v1:Value) (G:GS):Ref (s209 true e v0 v1 G) (s209 false (Ex.of E) v0 v1 G):=by
 unfold s209
 exact Ref.gq
theorem f209 {orc:FuncId → Bool} {e:Ex} (h:ExLe Q e (E orc)) (v0 v1:Value) (G:GS):Ref (s209 true e v0 v1 G) ((E orc).cl 209 [v0,v1] G) :=
 fun r hr=>cl_sxE_some Q orc (vs:=[v0,v1]) G Tryz.func209 (by kernel_rfl) (by kernel_rfl) (by kernel_rfl) (by kernel_rfl) (by kernel_rfl) (by kernel_rfl) (m209 h v0 v1 G r hr)
noncomputable def s210 (q:Bool) (e:Ex) (v0 v1:Value) (G:GS):Option (Value × GS) :=
 bP (ep Q q false 157 (.tmp 5) (.const (.pointer none)) v0 (.pointer none)) fun x0 =>
 bS (gd x0 false (some (v0,G)) G) fun x1 G2 =>
 bS (gd x0 false (bP (pNil x1) fun y=>some (y,G2)) G2) fun x3 G4 =>
 bS (gd x0 false (bP (fa Q q 320 0 0 x3) fun y=>some (y,G4)) G4) fun x5 G6 =>
 bS (gd x0 false (some (v1,G6)) G6) fun x7 G8 =>
 bS (gd x0 false (bS (e.ev.cl 249 [x5,x7] G8) fun y G=>some (y,G)) G8) fun x9 G10 =>
 bP (pickV x0 (.bool true) x9) fun x11 =>
 some (x11,G10)
theorem m210 {e:Ex} {E:Ev} (h:ExLe Q e E) (v0 v1:Value) (G:GS):Ref (s210 true e v0 v1 G) (s210 false (Ex.of E) v0 v1 G):=by
 unfold s210
 exact Ref.gq
theorem f210 {orc:FuncId → Bool} {e:Ex} (h:ExLe Q e (E orc)) (v0 v1:Value) (G:GS):Ref (s210 true e v0 v1 G) ((E orc).cl 210 [v0,v1] G) :=
 fun r hr=>cl_sxE_some Q orc (vs:=[v0,v1]) G Tryz.func210 (by kernel_rfl) (by kernel_rfl) (by kernel_rfl) (by kernel_rfl) (by kernel_rfl) (by kernel_rfl) (m210 h v0 v1 G r hr)
noncomputable def s221 (q:Bool) (e:Ex) (v0 v1:Value) (G:GS):Option (Value × GS) :=
 bS (bx q v0 G) fun x0 G1 =>
 bS (e.ev.cl 200 [v1] G1) fun x2 G3 =>
 bP (pExtract x2 0) fun x4 =>
 bP (pExtract x2 1) fun x5 =>
 bS (al Q q 270 z270 G3) fun x6 G7 =>
 bP (st Q q 270 2 x6 x4 G7) fun G8 =>
 bP (fa Q q 270 0 0 x6) fun x9 =>
 bP (ld Q q 3 x9 G8) fun x10 =>
 bP (fa Q q 67 2 2 x0) fun x11 =>
 bP (ld Q q 3 x11 G8) fun x12 =>
 bP (bn Q q .geq 3 (.tmp 13) (.tmp 15) x10 x12) fun x13 =>
 ifV x13 (
 some ((.int .i64 (-1)),G8)) (
 bP (fa Q q 270 0 0 x6) fun x14 =>
 bP (ld Q q 3 x14 G8) fun x15 =>
 some (x15,G8))
theorem m221 {e:Ex} {E:Ev} (h:ExLe Q e E) (v0 v1:Value) (G:GS):Ref (s221 true e v0 v1 G) (s221 false (Ex.of E) v0 v1 G):=by
 unfold s221
 exact Ref.gq
theorem f221 {orc:FuncId → Bool} {e:Ex} (h:ExLe Q e (E orc)) (v0 v1:Value) (G:GS):Ref (s221 true e v0 v1 G) ((E orc).cl 221 [v0,v1] G) :=
 fun r hr=>cl_sxE_some Q orc (vs:=[v0,v1]) G Tryz.func221 (by kernel_rfl) (by kernel_rfl) (by kernel_rfl) (by kernel_rfl) (by kernel_rfl) (by kernel_rfl) (m221 h v0 v1 G r hr)
noncomputable def s222 (q:Bool) (e:Ex) (v0:Value) (G:GS):Option (Value × GS) :=
 bS (bx q v0 G) fun x0 G1 =>
 bP (fa Q q 69 0 0 x0) fun x2 =>
 bP (fa Q q 67 2 2 x2) fun x3 =>
 bP (ld Q q 3 x3 G1) fun x4 =>
 bP (bn Q q .geq 3 (.tmp 5) (.const (.int .i64 1)) x4 (.int .i64 1)) fun x5 =>
 bS (gd x5 true (bP (fa Q q 69 0 0 x0) fun y=>some (y,G1)) G1) fun x6 G7 =>
 bS (gd x5 true (bP (fa Q q 67 2 2 x6) fun y=>some (y,G7)) G7) fun x8 G9 =>
 bS (gd x5 true (bP (ld Q q 3 x8 G9) fun y=>some (y,G9)) G9) fun x10 G11 =>
 bS (gd x5 true (bP (bn Q q .leq 3 (.tmp 10) (.const (.int .i64 4096)) x10 (.int .i64 4096)) fun y=>some (y,G11)) G11) fun x12 G13 =>
 bP (pickV x5 x12 (.bool false)) fun x14 =>
 some (x14,G13)
theorem m222 {e:Ex} {E:Ev} (h:ExLe Q e E) (v0:Value) (G:GS):Ref (s222 true e v0 G) (s222 false (Ex.of E) v0 G):=by
 unfold s222
 exact Ref.gq
theorem f222 {orc:FuncId → Bool} {e:Ex} (h:ExLe Q e (E orc)) (v0:Value) (G:GS):Ref (s222 true e v0 G) ((E orc).cl 222 [v0] G) :=
 fun r hr=>cl_sxE_some Q orc (vs:=[v0]) G Tryz.func222 (by kernel_rfl) (by kernel_rfl) (by kernel_rfl) (by kernel_rfl) (by kernel_rfl) (by kernel_rfl) (m222 h v0 G r hr)
noncomputable def jbl223_0_0 (q:Bool) (e:Ex) (lp:Env → GS → Option (Exit × Env × GS)) (τ:Env) (G:GS):Option (Exit × Env × GS) :=
 bV q (τ 1) fun a1_ =>
 bV q (τ 2) fun a2_ =>
 bV q (τ 4) fun a4_ =>
 bV q (τ 5) fun a5_ =>
 bV q (τ 15) fun a15_ =>
 bV q (τ 16) fun a16_ =>
 bP (fa Q q 67 1 1 a2_) fun x2 =>
 bP (ld Q q 3 x2 (G.room 8)) fun x3 =>
 bP (bn Q q .add 3 (.tmp 27) (.tmp 28) x3 a4_) fun x4 =>
 bS (e.ev.cl 254 [a5_] (G.room 8)) fun x6 G5 =>
 chk ((sameO (ld Q q 3 x2 G5) x3 && true)) <|
 bS (e.ev.cl 14 [a1_,x4,x6] G5) fun x8 G7 =>
 bP (bn Q q .add 3 (.tmp 16) (.const (.int .i64 1)) a16_ (.int .i64 1)) fun x9 =>
 lp (xq q 34 τ [(16,x9),(33,x9),(32,x8),(31,x6),(30,a5_),(29,x4),(28,a4_),(27,x3),(26,x2),(25,a1_)] [(1,a1_),(2,a2_),(4,a4_),(5,a5_),(15,a15_)]) G7
noncomputable def jl223_0_0 (q:Bool) (e:Ex) (lp:Env → GS → Option (Exit × Env × GS)) (τ:Env) (G:GS):Option (Exit × Env × GS):=jbl223_0_0 q e lp τ G
theorem mjl223_0_0 {e:Ex} {E:Ev} (h:ExLe Q e E) {lp lp':Env → GS → Option (Exit × Env × GS)} (hlp:LpLe lp lp') (τ:Env) (G:GS):Ref (jl223_0_0 true e lp τ G) (jl223_0_0 false (Ex.of E) lp' τ G):=by
 unfold jl223_0_0 jbl223_0_0
 exact Ref.gq
theorem mkjl223_0_0 {e:Ex} {E:Ev} (h:ExLe Q e E) {lp lp':Env → GS → Option (Exit × Env × GS)} (hlp:LpLe lp lp') {τ:Env} {l U:List (Nat × Value)} {G:GS} (hU:UOk τ U):Ref (jl223_0_0 true e lp (xq true 34 τ l U) G) (jl223_0_0 false (Ex.of E) lp' (xq false 34 τ l U) G):=by
 rw [xq_eq hU]
 exact mjl223_0_0 h hlp _ _
noncomputable def bb223_0 (q:Bool) (e:Ex) (lp:Env → GS → Option (Exit × Env × GS)) (J0:Env → GS → Option (Exit × Env × GS)) (τ:Env) (G:GS):Option (Exit × Env × GS) :=
 bV q (τ 1) fun a1_ =>
 bV q (τ 2) fun a2_ =>
 bV q (τ 4) fun a4_ =>
 bV q (τ 5) fun a5_ =>
 bV q (τ 15) fun a15_ =>
 bV q (τ 16) fun a16_ =>
 bP (bn Q q .lss 3 (.tmp 16) (.tmp 15) a16_ a15_) fun x0 =>
 ifV x0 (
 bP (bn Q q .add 3 (.tmp 19) (.const (.int .i64 1)) a16_ (.int .i64 1)) fun x1 =>
 bP (fa Q q 67 2 2 a2_) fun x10 =>
 bP (ld Q q 3 x10 G) fun x11 =>
 bP (bn Q q .eql 3 (.tmp 21) (.tmp 23) x1 x11) fun x12 =>
 ifV x12 (
 J0 (xq q 34 τ [(5,(.int .i64 (-1))),(24,x12),(23,x11),(22,x10),(21,x1),(5,x1),(20,x1),(19,a16_),(4,a16_),(18,a16_),(17,x0)] [(1,a1_),(2,a2_),(15,a15_),(16,a16_)]) G) (
 J0 (xq q 34 τ [(24,x12),(23,x11),(22,x10),(21,x1),(5,x1),(20,x1),(19,a16_),(4,a16_),(18,a16_),(17,x0)] [(1,a1_),(2,a2_),(15,a15_),(16,a16_)]) G)) (
 some ((.exit 0),xq q 34 τ [(17,x0)] [(1,a1_),(2,a2_),(4,a4_),(5,a5_),(15,a15_),(16,a16_)],G))
noncomputable def b223_0 (q:Bool) (e:Ex) (lp:Env → GS → Option (Exit × Env × GS)) (τ:Env) (G:GS):Option (Exit × Env × GS):=bb223_0 q e lp (jl223_0_0 q e lp) τ G
theorem mb223_0 {e:Ex} {E:Ev} (h:ExLe Q e E) {lp lp':Env → GS → Option (Exit × Env × GS)} (hlp:LpLe lp lp') (τ:Env) (G:GS):Ref (b223_0 true e lp τ G) (b223_0 false (Ex.of E) lp' τ G):=by
 unfold b223_0 bb223_0
 repeat' (with_reducible first | exact Ref.rfl' _ | exact ROp.r | refine Ref.bP ?_ fun _=>?_ | refine Ref.bS ?_ fun _ _=>?_ | exact Ref.cl (by assumption) | refine Ref.ifV ?_ ?_ | refine LpLe.rx (by assumption) ?_ | refine Ref.xitq ?_ | exact UOk.z | refine UOk.c (by assumption) ?_ | exact Ref.nil _ | refine Ref.bVe fun _ _=>?_ | refine Ref.bLq (by assumption) ?_ fun _ _ _=>?_ | refine Ref.ifE ?_ ?_ | refine Ref.chk ?_ ?_ | refine Imp.and ?_ ?_ | refine Imp.or ?_ | exact Imp.rfl' _ | refine Imp.sameO ?_ | refine Ref.gd ?_ | exact Ref.cValue (by assumption) | refine Ref.bX ?_ fun _ _ _=>?_ | exact Ref.scQ (by assumption) | exact Ref.xRangeQ (by assumption) | exact Ref.cInvoke (by assumption) | refine mkjl223_0_0 (by assumption) (by assumption) ?_)
noncomputable def jtl223_0 (J0:Env → GS → Option (Exit × Env × GS)):JT (Exit × Env × GS) :=
 (.n none .e (.n none .e (.n none (.n none (.n none .e (.n none .e (.n (some (fun T G=>J0 (nth undef T) G)) .e .e))) .e) .e)))
theorem jrl223_0_0 (orc:FuncId → Bool) (J0:Env → GS → Option (Exit × Env × GS)) (T:List Value) (G:GS):runC Q (evL Q orc) 34 (jtl223_0 J0) (subAt [1,1,1,1,0,0] (bodyOf Tryz.f223)) (seqXE (fun τ G'=>mapE ((E orc).lp (subAt [1,1,1,1,0,0] (bodyOf Tryz.f223)) (lst 34 (nth undef (lst 34 τ))) G')) fun e τ G'=>some (e,nth undef (lst 34 τ),G')) [true,true,false,false,true,true] (nth undef T) G = jbl223_0_0 false (Ex.of (E orc)) (fun τ G=>mapE ((E orc).lp (subAt [1,1,1,1,0,0] (bodyOf Tryz.f223)) (lst 34 τ) G))  (nth undef T) G:=by kernel_rfl
theorem jol223_0 (orc:FuncId → Bool):JOk Q orc 34 (jtl223_0 (jl223_0_0 false (Ex.of (E orc)) (fun τ G=>mapE ((E orc).lp (subAt [1,1,1,1,0,0] (bodyOf Tryz.f223)) (lst 34 τ) G))) ) (subAt [1,1,1,1,0,0] (bodyOf Tryz.f223)) (seqXE (fun τ G'=>mapE ((E orc).lp (subAt [1,1,1,1,0,0] (bodyOf Tryz.f223)) (lst 34 (nth undef (lst 34 τ))) G')) fun e τ G'=>some (e,nth undef (lst 34 τ),G')) :=
 jOk Q orc (l:=[([true,true,false,false,true,true],(fun T G=>jl223_0_0 false (Ex.of (E orc)) (fun τ G=>mapE ((E orc).lp (subAt [1,1,1,1,0,0] (bodyOf Tryz.f223)) (lst 34 τ) G)) (nth undef T) G))]) (by kernel_rfl) (AllE.c (fun T G=>jrl223_0_0 orc (jl223_0_0 false (Ex.of (E orc)) (fun τ G=>mapE ((E orc).lp (subAt [1,1,1,1,0,0] (bodyOf Tryz.f223)) (lst 34 τ) G))) T G) (AllE.z))
theorem jel223_0 (orc:FuncId → Bool) (J0:Env → GS → Option (Exit × Env × GS)) (T:List Value) (G:GS):sxC Q (evL Q orc) 34 (jtl223_0 J0) (subAt [1,1,1,1,0,0] (bodyOf Tryz.f223)) (nth undef T) G (seqXE (fun τ G'=>mapE ((E orc).lp (subAt [1,1,1,1,0,0] (bodyOf Tryz.f223)) (lst 34 (nth undef (lst 34 τ))) G')) fun e τ G'=>some (e,nth undef (lst 34 τ),G')) = bb223_0 false (Ex.of (E orc)) (fun τ G=>mapE ((E orc).lp (subAt [1,1,1,1,0,0] (bodyOf Tryz.f223)) (lst 34 τ) G)) J0 (nth undef T) G:=by kernel_rfl
theorem l223_0 {orc:FuncId → Bool} {e:Ex} (h:ExLe Q e (E orc)) (lp:Env → GS → Option (Exit × Env × GS)) (hlp:∀ τ G,Ref (lp τ G) (mapE ((E orc).lp (subAt [1,1,1,1,0,0] (bodyOf Tryz.f223)) (lst 34 τ) G))) (T:List Value) (G:GS) (hT:T.length = 34):Ref (b223_0 true e lp (nth undef T) G) (mapE ((E orc).lp (subAt [1,1,1,1,0,0] (bodyOf Tryz.f223)) T G)) :=
 fun r hr=>lp_sxC Q orc G (jtl223_0 (jl223_0_0 false (Ex.of (E orc)) (fun τ G=>mapE ((E orc).lp (subAt [1,1,1,1,0,0] (bodyOf Tryz.f223)) (lst 34 τ) G))) ) hT (jol223_0 orc) (jel223_0 orc (jl223_0_0 false (Ex.of (E orc)) (fun τ G=>mapE ((E orc).lp (subAt [1,1,1,1,0,0] (bodyOf Tryz.f223)) (lst 34 τ) G))) T G) (mb223_0 h ⟨hlp⟩ _ _ r hr)
noncomputable def s223 (q:Bool) (e:Ex) (v0 v1:Value) (G:GS):Option (Value × GS) :=
 bS (bx q v0 G) fun x0 G1 =>
 bP (lda Q q 67 3 x0 G1) fun x2 =>
 bS (e.ev.cl 253 [x2] G1) fun x3 G4 =>
 bP (un Q q .not x3) fun x5 =>
 ifV x5 (
 some (.tuple #[],G4)) (
 bP (fa Q q 67 0 0 x0) fun x6 =>
 bP (ld Q q 3 x6 (G4.room 5)) fun x7 =>
 bS (e.ev.cl 254 [(.int .i64 0)] (G4.room 5)) fun x9 G8 =>
 chk ((sameO (ld Q q 3 x6 G8) x7 && true)) <|
 bS (e.ev.cl 14 [v1,x7,x9] G8) fun x11 G10 =>
 bP (fa Q q 67 2 2 x0) fun x12 =>
 bP (ld Q q 3 x12 G10) fun x13 =>
 bLq q e 223 0 (subAt [1,1,1,1,0,0] (bodyOf Tryz.f223)) 34 (nth undef [v0,v1]) [(16,(.int .i64 0)),(15,x13),(14,x12),(13,x11),(12,x9),(11,x7),(10,x6),(9,v1),(8,x5),(7,x3),(6,x2),(2,x0)] [] G10 fun e14 t15 G16 =>
 ifE e14 (.exit 0) (
 some (.tuple #[],G16)) (none))
theorem m223 {e:Ex} {E:Ev} (h:ExLe Q e E) (v0 v1:Value) (G:GS):Ref (s223 true e v0 v1 G) (s223 false (Ex.of E) v0 v1 G):=by
 unfold s223
 exact Ref.gq
theorem f223 {orc:FuncId → Bool} {e:Ex} (h:ExLe Q e (E orc)) (v0 v1:Value) (G:GS):Ref (s223 true e v0 v1 G) ((E orc).cl 223 [v0,v1] G) :=
 fun r hr=>cl_sxE_some Q orc (vs:=[v0,v1]) G Tryz.func223 (by kernel_rfl) (by kernel_rfl) (by kernel_rfl) (by kernel_rfl) (by kernel_rfl) (by kernel_rfl) (m223 h v0 v1 G r hr)
noncomputable def s224 (q:Bool) (e:Ex) (v0:Value) (G:GS):Option (Value × GS) :=
 bS (bx q v0 G) fun x0 G1 =>
 bP (fa Q q 71 2 2 x0) fun x2 =>
 bP (ld Q q 3 x2 G1) fun x3 =>
 bP (bn Q q .geq 3 (.tmp 4) (.const (.int .i64 1)) x3 (.int .i64 1)) fun x4 =>
 bS (gd x4 true (bP (fa Q q 71 2 2 x0) fun y=>some (y,G1)) G1) fun x5 G6 =>
 bS (gd x4 true (bP (ld Q q 3 x5 G6) fun y=>some (y,G6)) G6) fun x7 G8 =>
 bS (gd x4 true (bP (bn Q q .leq 3 (.tmp 8) (.const (.int .i64 64)) x7 (.int .i64 64)) fun y=>some (y,G8)) G8) fun x9 G10 =>
 bP (pickV x4 x9 (.bool false)) fun x11 =>
 some (x11,G10)
theorem m224 {e:Ex} {E:Ev} (h:ExLe Q e E) (v0:Value) (G:GS):Ref (s224 true e v0 G) (s224 false (Ex.of E) v0 G):=by
 unfold s224
 exact Ref.gq
theorem f224 {orc:FuncId → Bool} {e:Ex} (h:ExLe Q e (E orc)) (v0:Value) (G:GS):Ref (s224 true e v0 G) ((E orc).cl 224 [v0] G) :=
 fun r hr=>cl_sxE_some Q orc (vs:=[v0]) G Tryz.func224 (by kernel_rfl) (by kernel_rfl) (by kernel_rfl) (by kernel_rfl) (by kernel_rfl) (by kernel_rfl) (m224 h v0 G r hr)
noncomputable def s225 (q:Bool) (e:Ex) (v0:Value) (G:GS):Option (Value × GS) :=
 bS (bx q v0 G) fun x0 G1 =>
 some ((.func (.func 255) #[] #[x0]),G1)
theorem m225 {e:Ex} {E:Ev} (h:ExLe Q e E) (v0:Value) (G:GS):Ref (s225 true e v0 G) (s225 false (Ex.of E) v0 G):=by
 unfold s225
 exact Ref.gq
theorem f225 {orc:FuncId → Bool} {e:Ex} (h:ExLe Q e (E orc)) (v0:Value) (G:GS):Ref (s225 true e v0 G) ((E orc).cl 225 [v0] G) :=
 fun r hr=>cl_sxE_some Q orc (vs:=[v0]) G Tryz.func225 (by kernel_rfl) (by kernel_rfl) (by kernel_rfl) (by kernel_rfl) (by kernel_rfl) (by kernel_rfl) (m225 h v0 G r hr)
noncomputable def b226_0 (q:Bool) (e:Ex) (lp:Env → GS → Option (Exit × Env × GS)) (τ:Env) (G:GS):Option (Exit × Env × GS) :=
 bV q (τ 1) fun a1_ =>
 bV q (τ 2) fun a2_ =>
 bV q (τ 4) fun a4_ =>
 bP (fa Q q 67 2 2 a2_) fun x0 =>
 bP (ld Q q 3 x0 G) fun x1 =>
 bP (bn Q q .sub 3 (.tmp 19) (.const (.int .i64 1)) x1 (.int .i64 1)) fun x2 =>
 bP (bn Q q .lss 3 (.tmp 17) (.tmp 20) a4_ x2) fun x3 =>
 ifV x3 (
 bP (fa Q q 67 1 1 a2_) fun x4 =>
 bP (ld Q q 3 x4 G) fun x5 =>
 bP (bn Q q .add 3 (.tmp 26) (.tmp 27) x5 a4_) fun x6 =>
 bP (bn Q q .add 3 (.tmp 29) (.const (.int .i64 2)) a4_ (.int .i64 2)) fun x7 =>
 bP (cv Q q 3 39 .i64 .u64 x7) fun x8 =>
 bS (e.ev.cl 15 [a1_,x6,x8] G) fun x9 G10 =>
 bP (bn Q q .add 3 (.tmp 22) (.const (.int .i64 1)) a4_ (.int .i64 1)) fun x11 =>
 lp (xq q 41 τ [(4,x11),(23,x11),(22,a4_),(32,x9),(31,x8),(30,x7),(29,a4_),(28,x6),(27,a4_),(26,x5),(25,x4),(24,a1_),(21,x3),(20,x2),(19,x1),(18,x0),(17,a4_)] [(1,a1_),(2,a2_)]) G10) (
 some ((.exit 0),xq q 41 τ [(21,x3),(20,x2),(19,x1),(18,x0),(17,a4_)] [(1,a1_),(2,a2_),(4,a4_)],G))
theorem mb226_0 {e:Ex} {E:Ev} (h:ExLe Q e E) {lp lp':Env → GS → Option (Exit × Env × GS)} (hlp:LpLe lp lp') (τ:Env) (G:GS):Ref (b226_0 true e lp τ G) (b226_0 false (Ex.of E) lp' τ G):=by
 unfold b226_0
 exact Ref.gq
theorem l226_0 {orc:FuncId → Bool} {e:Ex} (h:ExLe Q e (E orc)) (lp:Env → GS → Option (Exit × Env × GS)) (hlp:∀ τ G,Ref (lp τ G) (mapE ((E orc).lp (subAt [1,1,1,0,1,0,0] (bodyOf Tryz.f226)) (lst 41 τ) G))) (T:List Value) (G:GS) (hT:T.length = 41):Ref (b226_0 true e lp (nth undef T) G) (mapE ((E orc).lp (subAt [1,1,1,0,1,0,0] (bodyOf Tryz.f226)) T G)) :=
 fun r hr=>lp_sxN Q orc G hT (by kernel_rfl) (mb226_0 h ⟨hlp⟩ _ _ r hr)
noncomputable def s226 (q:Bool) (e:Ex) (v0 v1:Value) (G:GS):Option (Value × GS) :=
 bS (bx q v0 G) fun x0 G1 =>
 bP (fa Q q 67 2 2 x0) fun x2 =>
 bP (ld Q q 3 x2 G1) fun x3 =>
 bP (bn Q q .lss 3 (.tmp 6) (.const (.int .i64 1)) x3 (.int .i64 1)) fun x4 =>
 bS (gd x4 false (bP (fa Q q 67 2 2 x0) fun y=>some (y,G1)) G1) fun x5 G6 =>
 bS (gd x4 false (bP (ld Q q 3 x5 G6) fun y=>some (y,G6)) G6) fun x7 G8 =>
 bS (gd x4 false (bP (bn Q q .gtr 3 (.tmp 10) (.const (.int .i64 4096)) x7 (.int .i64 4096)) fun y=>some (y,G8)) G8) fun x9 G10 =>
 bP (pickV x4 (.bool true) x9) fun x11 =>
 ifV x11 (
 some (.tuple #[],G10)) (
 bP (fa Q q 67 0 0 x0) fun x12 =>
 bP (ld Q q 3 x12 G10) fun x13 =>
 bS (e.ev.cl 15 [v1,x13,(.int .u64 1)] G10) fun x14 G15 =>
 bLq q e 226 0 (subAt [1,1,1,0,1,0,0] (bodyOf Tryz.f226)) 41 (nth undef [v0,v1]) [(4,(.int .i64 0)),(16,x14),(15,x13),(14,x12),(13,v1),(12,x11),(11,x9),(10,x7),(9,x5),(8,x4),(7,x4),(6,x3),(5,x2),(2,x0)] [] G15 fun e16 t17 G18 =>
 bV q (t17 1) fun t17x1_ =>
 bV q (t17 2) fun t17x2_ =>
 ifE e16 (.exit 0) (
 bP (fa Q q 67 1 1 t17x2_) fun x19 =>
 bP (ld Q q 3 x19 G18) fun x20 =>
 bP (fa Q q 67 2 2 t17x2_) fun x21 =>
 bP (ld Q q 3 x21 G18) fun x22 =>
 bP (bn Q q .add 3 (.tmp 35) (.tmp 37) x20 x22) fun x23 =>
 bP (bn Q q .sub 3 (.tmp 38) (.const (.int .i64 1)) x23 (.int .i64 1)) fun x24 =>
 bS (e.ev.cl 15 [t17x1_,x24,(.int .u64 0)] G18) fun x25 G26 =>
 some (.tuple #[],G26)) (none))
theorem m226 {e:Ex} {E:Ev} (h:ExLe Q e E) (v0 v1:Value) (G:GS):Ref (s226 true e v0 v1 G) (s226 false (Ex.of E) v0 v1 G):=by
 unfold s226
 exact Ref.gq
theorem f226 {orc:FuncId → Bool} {e:Ex} (h:ExLe Q e (E orc)) (v0 v1:Value) (G:GS):Ref (s226 true e v0 v1 G) ((E orc).cl 226 [v0,v1] G) :=
 fun r hr=>cl_sxE_some Q orc (vs:=[v0,v1]) G Tryz.func226 (by kernel_rfl) (by kernel_rfl) (by kernel_rfl) (by kernel_rfl) (by kernel_rfl) (by kernel_rfl) (m226 h v0 v1 G r hr)
noncomputable def s227 (q:Bool) (e:Ex) (v0:Value) (G:GS):Option (Value × GS) :=
 bS (bx q v0 G) fun x0 G1 =>
 bS (al Q q 293 z293 G1) fun x2 G3 =>
 bP (fa Q q 75 0 0 x0) fun x4 =>
 bP (ld Q q 3 x4 G3) fun x5 =>
 bP (fa Q q 75 3 3 x0) fun x6 =>
 bP (fa Q q 73 0 0 x6) fun x7 =>
 bP (fa Q q 69 0 0 x7) fun x8 =>
 bP (fa Q q 67 2 2 x8) fun x9 =>
 bP (ld Q q 3 x9 G3) fun x10 =>
 bP (fa Q q 75 2 2 x0) fun x11 =>
 bP (ld Q q 3 x11 G3) fun x12 =>
 bP (bd Q q 293 z293 [(0,0,1),(1,1,1),(2,2,1)] [x5,x10,x12]) fun x13 =>
 bP (st Q q 293 3 x2 x13 G3) fun G14 =>
 bP (lda Q q 293 3 x2 G14) fun x15 =>
 some (x15,G14)
theorem m227 {e:Ex} {E:Ev} (h:ExLe Q e E) (v0:Value) (G:GS):Ref (s227 true e v0 G) (s227 false (Ex.of E) v0 G):=by
 unfold s227
 exact Ref.gq
theorem f227 {orc:FuncId → Bool} {e:Ex} (h:ExLe Q e (E orc)) (v0:Value) (G:GS):Ref (s227 true e v0 G) ((E orc).cl 227 [v0] G) :=
 fun r hr=>cl_sxE_some Q orc (vs:=[v0]) G Tryz.func227 (by kernel_rfl) (by kernel_rfl) (by kernel_rfl) (by kernel_rfl) (by kernel_rfl) (by kernel_rfl) (m227 h v0 G r hr)
noncomputable def s228 (q:Bool) (e:Ex) (v0 v1 v2:Value) (G:GS):Option (Value × GS) :=
 bS (bx q v0 G) fun x0 G1 =>
 bP (bn Q q .lss 3 (.tmp 7) (.const (.int .i64 0)) v1 (.int .i64 0)) fun x2 =>
 bS (gd x2 false (some (v1,G1)) G1) fun x3 G4 =>
 bS (gd x2 false (bP (fa Q q 293 1 1 x0) fun y=>some (y,G4)) G4) fun x5 G6 =>
 bS (gd x2 false (bP (ld Q q 3 x5 G6) fun y=>some (y,G6)) G6) fun x7 G8 =>
 bS (gd x2 false (bP (bn Q q .geq 3 (.tmp 10) (.tmp 12) x3 x7) fun y=>some (y,G8)) G8) fun x9 G10 =>
 bP (pickV x2 (.bool true) x9) fun x11 =>
 bS (gd x11 false (some (v2,G10)) G10) fun x12 G13 =>
 bS (gd x11 false (bP (bn Q q .lss 3 (.tmp 16) (.const (.int .i64 0)) x12 (.int .i64 0)) fun y=>some (y,G13)) G13) fun x14 G15 =>
 bP (pickV x11 (.bool true) x14) fun x16 =>
 bS (gd x16 false (some (v2,G15)) G15) fun x17 G18 =>
 bS (gd x16 false (bP (fa Q q 293 2 2 x0) fun y=>some (y,G18)) G18) fun x19 G20 =>
 bS (gd x16 false (bP (ld Q q 291 x19 G20) fun y=>some (y,G20)) G20) fun x21 G22 =>
 bS (gd x16 false (bP (ifc Q q 291 x21) fun y=>some (y,G22)) G22) fun x23 G24 =>
 bS (gd x16 false (bS (cInvoke Q e.ev x23 "coxswain/tower.cells" [] G24) fun y G => some (y, G)) G24) fun x25 G26 =>
 bS (gd x16 false (bP (bn Q q .geq 3 (.tmp 20) (.tmp 24) x17 x25) fun y=>some (y,G26)) G26) fun x27 G28 =>
 bP (pickV x16 (.bool true) x27) fun x29 =>
 ifV x29 (
 some ((.int .i64 (-1)),G28)) (
 bP (fa Q q 293 0 0 x0) fun x30 =>
 bP (ld Q q 3 x30 (G28.room 12)) fun x31 =>
 bP (fa Q q 293 2 2 x0) fun x32 =>
 bP (ld Q q 291 x32 (G28.room 12)) fun x33 =>
 bP (ifc Q q 291 x33) fun x34 =>
 bS (cInvoke Q e.ev x34 "coxswain/tower.cells" [] (G28.room 12)) fun x36 G35 =>
 chk ((sameO (ld Q q 3 x30 G35) x31 && true)) <|
 bP (bn Q q .mul 3 (.tmp 29) (.tmp 33) v1 x36) fun x37 =>
 bP (bn Q q .add 3 (.tmp 28) (.tmp 34) x31 x37) fun x38 =>
 bP (bn Q q .add 3 (.tmp 35) (.tmp 36) x38 v2) fun x39 =>
 some (x39,G35))
theorem m228 {e:Ex} {E:Ev} (h:ExLe Q e E) (v0 v1 v2:Value) (G:GS):Ref (s228 true e v0 v1 v2 G) (s228 false (Ex.of E) v0 v1 v2 G):=by
 unfold s228
 exact Ref.gq
theorem f228 {orc:FuncId → Bool} {e:Ex} (h:ExLe Q e (E orc)) (v0 v1 v2:Value) (G:GS):Ref (s228 true e v0 v1 v2 G) ((E orc).cl 228 [v0,v1,v2] G) :=
 fun r hr=>cl_sxE_some Q orc (vs:=[v0,v1,v2]) G Tryz.func228 (by kernel_rfl) (by kernel_rfl) (by kernel_rfl) (by kernel_rfl) (by kernel_rfl) (by kernel_rfl) (m228 h v0 v1 v2 G r hr)
noncomputable def s229 (q:Bool) (e:Ex) (v0:Value) (G:GS):Option (Value × GS) :=
 bS (bx q v0 G) fun x0 G1 =>
 bS (al Q q 297 z297 G1) fun x2 G3 =>
 bP (fa Q q 75 1 1 x0) fun x4 =>
 bP (ld Q q 3 x4 G3) fun x5 =>
 bP (fa Q q 75 2 2 x0) fun x6 =>
 bP (ld Q q 3 x6 G3) fun x7 =>
 bP (bd Q q 297 z297 [(0,0,1),(1,1,1),(2,2,1)] [x5,(.int .i64 1),x7]) fun x8 =>
 bP (st Q q 297 3 x2 x8 G3) fun G9 =>
 bP (lda Q q 297 3 x2 G9) fun x10 =>
 some (x10,G9)
theorem m229 {e:Ex} {E:Ev} (h:ExLe Q e E) (v0:Value) (G:GS):Ref (s229 true e v0 G) (s229 false (Ex.of E) v0 G):=by
 unfold s229
 exact Ref.gq
theorem f229 {orc:FuncId → Bool} {e:Ex} (h:ExLe Q e (E orc)) (v0:Value) (G:GS):Ref (s229 true e v0 G) ((E orc).cl 229 [v0] G) :=
 fun r hr=>cl_sxE_some Q orc (vs:=[v0]) G Tryz.func229 (by kernel_rfl) (by kernel_rfl) (by kernel_rfl) (by kernel_rfl) (by kernel_rfl) (by kernel_rfl) (m229 h v0 G r hr)
noncomputable def s230 (q:Bool) (e:Ex) (v0 v1 v2:Value) (G:GS):Option (Value × GS) :=
 bS (bx q v0 G) fun x0 G1 =>
 bP (bn Q q .lss 3 (.tmp 7) (.const (.int .i64 0)) v1 (.int .i64 0)) fun x2 =>
 bS (gd x2 false (some (v1,G1)) G1) fun x3 G4 =>
 bS (gd x2 false (bP (fa Q q 297 1 1 x0) fun y=>some (y,G4)) G4) fun x5 G6 =>
 bS (gd x2 false (bP (ld Q q 3 x5 G6) fun y=>some (y,G6)) G6) fun x7 G8 =>
 bS (gd x2 false (bP (bn Q q .geq 3 (.tmp 10) (.tmp 12) x3 x7) fun y=>some (y,G8)) G8) fun x9 G10 =>
 bP (pickV x2 (.bool true) x9) fun x11 =>
 bS (gd x11 false (some (v2,G10)) G10) fun x12 G13 =>
 bS (gd x11 false (bP (bn Q q .lss 3 (.tmp 16) (.const (.int .i64 0)) x12 (.int .i64 0)) fun y=>some (y,G13)) G13) fun x14 G15 =>
 bP (pickV x11 (.bool true) x14) fun x16 =>
 bS (gd x16 false (some (v2,G15)) G15) fun x17 G18 =>
 bS (gd x16 false (bP (fa Q q 297 2 2 x0) fun y=>some (y,G18)) G18) fun x19 G20 =>
 bS (gd x16 false (bP (ld Q q 295 x19 G20) fun y=>some (y,G20)) G20) fun x21 G22 =>
 bS (gd x16 false (bP (ifc Q q 295 x21) fun y=>some (y,G22)) G22) fun x23 G24 =>
 bS (gd x16 false (bS (cInvoke Q e.ev x23 "coxswain/tower.cells" [] G24) fun y G => some (y, G)) G24) fun x25 G26 =>
 bS (gd x16 false (bP (bn Q q .geq 3 (.tmp 20) (.tmp 24) x17 x25) fun y=>some (y,G26)) G26) fun x27 G28 =>
 bP (pickV x16 (.bool true) x27) fun x29 =>
 ifV x29 (
 some ((.int .i64 (-1)),G28)) (
 bP (fa Q q 297 0 0 x0) fun x30 =>
 bP (ld Q q 3 x30 (G28.room 12)) fun x31 =>
 bP (fa Q q 297 2 2 x0) fun x32 =>
 bP (ld Q q 295 x32 (G28.room 12)) fun x33 =>
 bP (ifc Q q 295 x33) fun x34 =>
 bS (cInvoke Q e.ev x34 "coxswain/tower.cells" [] (G28.room 12)) fun x36 G35 =>
 chk ((sameO (ld Q q 3 x30 G35) x31 && true)) <|
 bP (bn Q q .mul 3 (.tmp 29) (.tmp 33) v1 x36) fun x37 =>
 bP (bn Q q .add 3 (.tmp 28) (.tmp 34) x31 x37) fun x38 =>
 bP (bn Q q .add 3 (.tmp 35) (.tmp 36) x38 v2) fun x39 =>
 some (x39,G35))
theorem m230 {e:Ex} {E:Ev} (h:ExLe Q e E) (v0 v1 v2:Value) (G:GS):Ref (s230 true e v0 v1 v2 G) (s230 false (Ex.of E) v0 v1 v2 G):=by
 unfold s230
 exact Ref.gq
theorem f230 {orc:FuncId → Bool} {e:Ex} (h:ExLe Q e (E orc)) (v0 v1 v2:Value) (G:GS):Ref (s230 true e v0 v1 v2 G) ((E orc).cl 230 [v0,v1,v2] G) :=
 fun r hr=>cl_sxE_some Q orc (vs:=[v0,v1,v2]) G Tryz.func230 (by kernel_rfl) (by kernel_rfl) (by kernel_rfl) (by kernel_rfl) (by kernel_rfl) (by kernel_rfl) (m230 h v0 v1 v2 G r hr)
noncomputable def s231 (q:Bool) (e:Ex) (v0 v1 v2:Value) (G:GS):Option (Value × GS) :=
 bS (bx q v0 G) fun x0 G1 =>
 bP (bn Q q .lss 3 (.tmp 7) (.const (.int .i64 0)) v2 (.int .i64 0)) fun x2 =>
 bS (gd x2 false (some (v2,G1)) G1) fun x3 G4 =>
 bS (gd x2 false (bP (bn Q q .geq 3 (.tmp 10) (.const (.int .i64 4)) x3 (.int .i64 4)) fun y=>some (y,G4)) G4) fun x5 G6 =>
 bP (pickV x2 (.bool true) x5) fun x7 =>
 ifV x7 (
 some ((.int .i64 (-1)),G6)) (
 bP (lda Q q 75 13 x0 G6) fun x8 =>
 bP (bn Q q .add 3 (.const (.int .i64 4)) (.tmp 15) (.int .i64 4) v2) fun x9 =>
 bS (e.ev.cl 196 [x8,v1,x9] G6) fun x10 G11 =>
 some (x10,G11))
theorem m231 {e:Ex} {E:Ev} (h:ExLe Q e E) (v0 v1 v2:Value) (G:GS):Ref (s231 true e v0 v1 v2 G) (s231 false (Ex.of E) v0 v1 v2 G):=by
 unfold s231
 exact Ref.gq
theorem f231 {orc:FuncId → Bool} {e:Ex} (h:ExLe Q e (E orc)) (v0 v1 v2:Value) (G:GS):Ref (s231 true e v0 v1 v2 G) ((E orc).cl 231 [v0,v1,v2] G) :=
 fun r hr=>cl_sxE_some Q orc (vs:=[v0,v1,v2]) G Tryz.func231 (by kernel_rfl) (by kernel_rfl) (by kernel_rfl) (by kernel_rfl) (by kernel_rfl) (by kernel_rfl) (m231 h v0 v1 v2 G r hr)
noncomputable def s232 (q:Bool) (e:Ex) (v0 v1:Value) (G:GS):Option (Value × GS) :=
 bS (bx q v0 G) fun x0 G1 =>
 bP (bn Q q .rem 39 (.tmp 6) (.const (.int .u64 65536)) v1 (.int .u64 65536)) fun x2 =>
 bP (cv Q q 39 3 .u64 .i64 x2) fun x3 =>
 bP (bn Q q .sub 3 (.tmp 8) (.const (.int .i64 1)) x3 (.int .i64 1)) fun x4 =>
 bP (fa Q q 67 2 2 x0) fun x5 =>
 bP (ld Q q 3 x5 G1) fun x6 =>
 bP (bn Q q .geq 3 (.tmp 10) (.tmp 12) x4 x6) fun x7 =>
 ifV x7 (
 some ((.int .i64 (-1)),G1)) (
 some (x4,G1))
theorem m232 {e:Ex} {E:Ev} (h:ExLe Q e E) (v0 v1:Value) (G:GS):Ref (s232 true e v0 v1 G) (s232 false (Ex.of E) v0 v1 G):=by
 unfold s232
 exact Ref.gq
theorem f232 {orc:FuncId → Bool} {e:Ex} (h:ExLe Q e (E orc)) (v0 v1:Value) (G:GS):Ref (s232 true e v0 v1 G) ((E orc).cl 232 [v0,v1] G) :=
 fun r hr=>cl_sxE_some Q orc (vs:=[v0,v1]) G Tryz.func232 (by kernel_rfl) (by kernel_rfl) (by kernel_rfl) (by kernel_rfl) (by kernel_rfl) (by kernel_rfl) (m232 h v0 v1 G r hr)
noncomputable def s233 (q:Bool) (e:Ex) (v0:Value) (G:GS):Option (Value × GS) :=
 bP (pNil v0) fun x0 =>
 bP (fa Q q 300 2 14 x0) fun x1 =>
 bP (st Q q 3 1 x1 (.int .i64 1) G) fun G2 =>
 bP (pNil v0) fun x3 =>
 bP (fa Q q 300 0 0 x3) fun x4 =>
 bP (fa Q q 75 2 2 x4) fun x5 =>
 bP (ld Q q 3 x5 G2) fun x6 =>
 bP (bn Q q .sub 3 (.tmp 10) (.const (.int .i64 1)) x6 (.int .i64 1)) fun x7 =>
 bP (pNil v0) fun x8 =>
 bP (fa Q q 300 3 15 x8) fun x9 =>
 bP (st Q q 3 1 x9 x7 G2) fun G10 =>
 bP (pNil v0) fun x11 =>
 bP (fa Q q 300 4 16 x11) fun x12 =>
 bP (st Q q 3 1 x12 (.int .i64 (-1)) G10) fun G13 =>
 bP (pNil v0) fun x14 =>
 bP (fa Q q 300 5 17 x14) fun x15 =>
 bP (st Q q 39 1 x15 (.int .u64 0) G13) fun G16 =>
 some (.tuple #[],G16)
theorem m233 {e:Ex} {E:Ev} (h:ExLe Q e E) (v0:Value) (G:GS):Ref (s233 true e v0 G) (s233 false (Ex.of E) v0 G):=by
 unfold s233
 exact Ref.gq
theorem f233 {orc:FuncId → Bool} {e:Ex} (h:ExLe Q e (E orc)) (v0:Value) (G:GS):Ref (s233 true e v0 G) ((E orc).cl 233 [v0] G) :=
 fun r hr=>cl_sxE_some Q orc (vs:=[v0]) G Tryz.func233 (by kernel_rfl) (by kernel_rfl) (by kernel_rfl) (by kernel_rfl) (by kernel_rfl) (by kernel_rfl) (m233 h v0 G r hr)
noncomputable def s234 (q:Bool) (e:Ex) (v0:Value) (G:GS):Option (Value × GS) :=
 bP (pNil v0) fun x0 =>
 bP (fa Q q 300 2 14 x0) fun x1 =>
 bP (st Q q 3 1 x1 (.int .i64 2) G) fun G2 =>
 bS (e.ev.cl 235 [v0] G2) fun x3 G4 =>
 bP (bn Q q .lss 3 (.tmp 6) (.const (.int .i64 0)) x3 (.int .i64 0)) fun x5 =>
 ifV x5 (
 bS (e.ev.cl 236 [v0] G4) fun x6 G7 =>
 some (.tuple #[],G7)) (
 some (.tuple #[],G4))
theorem m234 {e:Ex} {E:Ev} (h:ExLe Q e E) (v0:Value) (G:GS):Ref (s234 true e v0 G) (s234 false (Ex.of E) v0 G):=by
 unfold s234
 exact Ref.gq
theorem f234 {orc:FuncId → Bool} {e:Ex} (h:ExLe Q e (E orc)) (v0:Value) (G:GS):Ref (s234 true e v0 G) ((E orc).cl 234 [v0] G) :=
 fun r hr=>cl_sxE_some Q orc (vs:=[v0]) G Tryz.func234 (by kernel_rfl) (by kernel_rfl) (by kernel_rfl) (by kernel_rfl) (by kernel_rfl) (by kernel_rfl) (m234 h v0 G r hr)
noncomputable def s235 (q:Bool) (e:Ex) (v0:Value) (G:GS):Option (Value × GS) :=
 bP (pNil v0) fun x0 =>
 bP (fa Q q 300 0 0 x0) fun x1 =>
 bP (lda Q q 75 13 x1 (G.room 10)) fun x2 =>
 bP (pNil v0) fun x3 =>
 bP (fa Q q 300 6 18 x3) fun x4 =>
 bP (ld Q q 39 x4 (G.room 10)) fun x5 =>
 bS (e.ev.cl 189 [x2,x5] (G.room 10)) fun x7 G6 =>
 some (x7,G6)
theorem m235 {e:Ex} {E:Ev} (h:ExLe Q e E) (v0:Value) (G:GS):Ref (s235 true e v0 G) (s235 false (Ex.of E) v0 G):=by
 unfold s235
 exact Ref.gq
theorem f235 {orc:FuncId → Bool} {e:Ex} (h:ExLe Q e (E orc)) (v0:Value) (G:GS):Ref (s235 true e v0 G) ((E orc).cl 235 [v0] G) :=
 fun r hr=>cl_sxE_some Q orc (vs:=[v0]) G Tryz.func235 (by kernel_rfl) (by kernel_rfl) (by kernel_rfl) (by kernel_rfl) (by kernel_rfl) (by kernel_rfl) (m235 h v0 G r hr)
noncomputable def s236 (q:Bool) (e:Ex) (v0:Value) (G:GS):Option (Value × GS) :=
 bP (pNil v0) fun x0 =>
 bP (fa Q q 300 8 20 x0) fun x1 =>
 bP (ld Q q 52 x1 (G.room 14)) fun x2 =>
 bP (pNil v0) fun x3 =>
 bP (fa Q q 300 3 15 x3) fun x4 =>
 bP (ld Q q 3 x4 (G.room 14)) fun x5 =>
 bP (pNil v0) fun x6 =>
 bP (fa Q q 300 4 16 x6) fun x7 =>
 bP (ld Q q 3 x7 (G.room 14)) fun x8 =>
 bP (ias Q q 52 1 x2 x5) fun x9 =>
 bP (st Q q 3 1 x9 x8 (G.room 14)) fun G10 =>
 bP (pNil v0) fun x11 =>
 bP (fa Q q 300 10 22 x11) fun x12 =>
 bP (ld Q q 24 x12 (G10.room 14)) fun x13 =>
 bP (pNil v0) fun x14 =>
 bP (fa Q q 300 3 15 x14) fun x15 =>
 bP (ld Q q 3 x15 (G10.room 14)) fun x16 =>
 bP (pNil v0) fun x17 =>
 bP (fa Q q 300 5 17 x17) fun x18 =>
 bP (ld Q q 39 x18 (G10.room 14)) fun x19 =>
 bP (ias Q q 24 1 x13 x16) fun x20 =>
 bP (st Q q 39 1 x20 x19 (G10.room 14)) fun G21 =>
 bP (pNil v0) fun x22 =>
 bP (fa Q q 300 9 21 x22) fun x23 =>
 bP (ld Q q 24 x23 (G21.room 14)) fun x24 =>
 bP (pNil v0) fun x25 =>
 bP (fa Q q 300 3 15 x25) fun x26 =>
 bP (ld Q q 3 x26 (G21.room 14)) fun x27 =>
 bP (pNil v0) fun x28 =>
 bP (fa Q q 300 6 18 x28) fun x29 =>
 bP (ld Q q 39 x29 (G21.room 14)) fun x30 =>
 bP (ias Q q 24 1 x24 x27) fun x31 =>
 bP (st Q q 39 1 x31 x30 (G21.room 14)) fun G32 =>
 bP (pNil v0) fun x33 =>
 bP (fa Q q 300 2 14 x33) fun x34 =>
 bP (st Q q 3 1 x34 (.int .i64 1) G32) fun G35 =>
 bP (pNil v0) fun x36 =>
 bP (fa Q q 300 3 15 x36) fun x37 =>
 bP (ld Q q 3 x37 G35) fun x38 =>
 bP (bn Q q .sub 3 (.tmp 47) (.const (.int .i64 1)) x38 (.int .i64 1)) fun x39 =>
 bP (pNil v0) fun x40 =>
 bP (fa Q q 300 3 15 x40) fun x41 =>
 bP (st Q q 3 1 x41 x39 G35) fun G42 =>
 bP (pNil v0) fun x43 =>
 bP (fa Q q 300 3 15 x43) fun x44 =>
 bP (ld Q q 3 x44 G42) fun x45 =>
 bP (bn Q q .lss 3 (.tmp 54) (.const (.int .i64 0)) x45 (.int .i64 0)) fun x46 =>
 ifV x46 (
 bP (pNil v0) fun x47 =>
 bP (fa Q q 300 2 14 x47) fun x48 =>
 bP (st Q q 3 1 x48 (.int .i64 9) G42) fun G49 =>
 some (.tuple #[],G49)) (
 some (.tuple #[],G42))
theorem m236 {e:Ex} {E:Ev} (h:ExLe Q e E) (v0:Value) (G:GS):Ref (s236 true e v0 G) (s236 false (Ex.of E) v0 G):=by
 unfold s236
 exact Ref.gq
theorem f236 {orc:FuncId → Bool} {e:Ex} (h:ExLe Q e (E orc)) (v0:Value) (G:GS):Ref (s236 true e v0 G) ((E orc).cl 236 [v0] G) :=
 fun r hr=>cl_sxE_some Q orc (vs:=[v0]) G Tryz.func236 (by kernel_rfl) (by kernel_rfl) (by kernel_rfl) (by kernel_rfl) (by kernel_rfl) (by kernel_rfl) (m236 h v0 G r hr)
noncomputable def s237 (q:Bool) (e:Ex) (v0 v1:Value) (G:GS):Option (Value × GS) :=
 bS (bx q v0 G) fun x0 G1 =>
 bP (bn Q q .lss 3 (.tmp 5) (.const (.int .i64 0)) v1 (.int .i64 0)) fun x2 =>
 bS (gd x2 false (some (v1,G1)) G1) fun x3 G4 =>
 bS (gd x2 false (bP (fa Q q 67 2 2 x0) fun y=>some (y,G4)) G4) fun x5 G6 =>
 bS (gd x2 false (bP (ld Q q 3 x5 G6) fun y=>some (y,G6)) G6) fun x7 G8 =>
 bS (gd x2 false (bP (bn Q q .geq 3 (.tmp 8) (.tmp 10) x3 x7) fun y=>some (y,G8)) G8) fun x9 G10 =>
 bP (pickV x2 (.bool true) x9) fun x11 =>
 ifV x11 (
 bP (lda Q q 67 3 x0 G10) fun x12 =>
 bP (bd Q q 324 z324 [(0,0,3),(1,3,1),(4,6,1)] [x12,(.int .i64 9),(.int .i64 3)]) fun x13 =>
 bS (bx q x13 G10) fun x14 G15 =>
 some (x14,G15)) (
 bP (lda Q q 67 3 x0 G10) fun x16 =>
 bP (bd Q q 324 z324 [(0,0,3),(1,3,1),(3,5,1)] [x16,(.int .i64 1),v1]) fun x17 =>
 bS (bx q x17 G10) fun x18 G19 =>
 some (x18,G19))
theorem m237 {e:Ex} {E:Ev} (h:ExLe Q e E) (v0 v1:Value) (G:GS):Ref (s237 true e v0 v1 G) (s237 false (Ex.of E) v0 v1 G):=by
 unfold s237
 exact Ref.gq
theorem f237 {orc:FuncId → Bool} {e:Ex} (h:ExLe Q e (E orc)) (v0 v1:Value) (G:GS):Ref (s237 true e v0 v1 G) ((E orc).cl 237 [v0,v1] G) :=
 fun r hr=>cl_sxE_some Q orc (vs:=[v0,v1]) G Tryz.func237 (by kernel_rfl) (by kernel_rfl) (by kernel_rfl) (by kernel_rfl) (by kernel_rfl) (by kernel_rfl) (m237 h v0 v1 G r hr)
noncomputable def s238 (q:Bool) (e:Ex) (v0 v1:Value) (G:GS):Option (Value × GS) :=
 bS (bx q v0 G) fun x0 G1 =>
 bS (al Q q 67 z67 G1) fun x2 G3 =>
 bP (fa Q q 73 2 9 x0) fun x4 =>
 bP (ld Q q 3 x4 G3) fun x5 =>
 bP (bn Q q .rem 39 (.tmp 7) (.const (.int .u64 3)) v1 (.int .u64 3)) fun x6 =>
 bP (cv Q q 39 3 .u64 .i64 x6) fun x7 =>
 bP (bn Q q .add 3 (.tmp 6) (.tmp 9) x5 x7) fun x8 =>
 bP (fa Q q 73 0 0 x0) fun x9 =>
 bP (fa Q q 69 0 0 x9) fun x10 =>
 bP (fa Q q 67 1 1 x10) fun x11 =>
 bP (ld Q q 3 x11 G3) fun x12 =>
 bP (fa Q q 73 0 0 x0) fun x13 =>
 bP (fa Q q 69 0 0 x13) fun x14 =>
 bP (fa Q q 67 2 2 x14) fun x15 =>
 bP (ld Q q 3 x15 G3) fun x16 =>
 bP (bd Q q 67 z67 [(0,0,1),(1,1,1),(2,2,1)] [x8,x12,x16]) fun x17 =>
 bP (st Q q 67 3 x2 x17 G3) fun G18 =>
 bP (lda Q q 67 3 x2 G18) fun x19 =>
 some (x19,G18)
theorem m238 {e:Ex} {E:Ev} (h:ExLe Q e E) (v0 v1:Value) (G:GS):Ref (s238 true e v0 v1 G) (s238 false (Ex.of E) v0 v1 G):=by
 unfold s238
 exact Ref.gq
theorem f238 {orc:FuncId → Bool} {e:Ex} (h:ExLe Q e (E orc)) (v0 v1:Value) (G:GS):Ref (s238 true e v0 v1 G) ((E orc).cl 238 [v0,v1] G) :=
 fun r hr=>cl_sxE_some Q orc (vs:=[v0,v1]) G Tryz.func238 (by kernel_rfl) (by kernel_rfl) (by kernel_rfl) (by kernel_rfl) (by kernel_rfl) (by kernel_rfl) (m238 h v0 v1 G r hr)
noncomputable def jb239_0 (q:Bool) (e:Ex) (τ:Env) (G:GS):Option (Value × GS) :=
 bV q (τ 0) fun a0_ =>
 bP (pNil a0_) fun x0 =>
 bP (fa Q q 324 1 3 x0) fun x1 =>
 bP (ld Q q 3 x1 G) fun x2 =>
 bP (bn Q q .eql 3 (.tmp 83) (.const (.int .i64 9)) x2 (.int .i64 9)) fun x3 =>
 some (x3,G)
noncomputable def j239_0 (q:Bool) (e:Ex) (τ:Env) (G:GS):Option (Value × GS):=jb239_0 q e τ G
theorem mj239_0 {e:Ex} {E:Ev} (h:ExLe Q e E) (τ:Env) (G:GS):Ref (j239_0 true e τ G) (j239_0 false (Ex.of E) τ G):=by
 unfold j239_0 jb239_0
 exact Ref.gq
theorem mkj239_0 {e:Ex} {E:Ev} (h:ExLe Q e E) {τ:Env} {l U:List (Nat × Value)} {G:GS} (hU:UOk τ U):Ref (j239_0 true e (xq true 85 τ l U) G) (j239_0 false (Ex.of E) (xq false 85 τ l U) G):=by
 rw [xq_eq hU]
 exact mj239_0 h _ _
noncomputable def sb239 (q:Bool) (e:Ex) (J0:Env → GS → Option (Value × GS)) (v0 v1:Value) (G:GS):Option (Value × GS) :=
 bP (pNil v0) fun x4 =>
 bP (fa Q q 324 1 3 x4) fun x5 =>
 bP (ld Q q 3 x5 G) fun x6 =>
 bP (bn Q q .eql 3 (.tmp 8) (.const (.int .i64 1)) x6 (.int .i64 1)) fun x7 =>
 ifV x7 (
 bP (pNil v0) fun x8 =>
 bP (fa Q q 324 0 0 x8) fun x9 =>
 bP (fa Q q 67 0 0 x9) fun x10 =>
 bP (ld Q q 3 x10 G) fun x11 =>
 bS (e.ev.cl 166 [v1,x11] G) fun x12 G13 =>
 bP (pNil v0) fun x14 =>
 bP (fa Q q 324 2 4 x14) fun x15 =>
 bP (st Q q 39 1 x15 x12 G13) fun G16 =>
 bP (pNil v0) fun x17 =>
 bP (fa Q q 324 1 3 x17) fun x18 =>
 bP (st Q q 3 1 x18 (.int .i64 2) G16) fun G19 =>
 J0 (xq q 85 (nth undef [v0,v1]) [(23,x18),(22,x17),(21,v0),(20,x15),(19,x14),(18,x12),(17,x11),(16,x10),(15,x9),(14,x8),(13,v0),(12,v1),(11,v0),(9,x7),(10,x7),(8,x6),(7,x5),(6,x4),(5,v0),(4,(.bool false))] []) G19) (
 bP (bn Q q .eql 3 (.tmp 8) (.const (.int .i64 2)) x6 (.int .i64 2)) fun x20 =>
 ifV x20 (
 bP (pNil v0) fun x21 =>
 bP (fa Q q 324 0 0 x21) fun x22 =>
 bP (fa Q q 67 1 1 x22) fun x23 =>
 bP (ld Q q 3 x23 (G.room 23)) fun x24 =>
 bP (pNil v0) fun x25 =>
 bP (fa Q q 324 3 5 x25) fun x26 =>
 bP (ld Q q 3 x26 (G.room 23)) fun x27 =>
 bP (bn Q q .add 3 (.tmp 31) (.tmp 35) x24 x27) fun x28 =>
 bP (pNil v0) fun x29 =>
 bP (fa Q q 324 0 0 x29) fun x30 =>
 bP (lda Q q 67 3 x30 (G.room 23)) fun x31 =>
 bP (pNil v0) fun x32 =>
 bP (fa Q q 324 2 4 x32) fun x33 =>
 bP (ld Q q 39 x33 (G.room 23)) fun x34 =>
 bS (e.ev.cl 232 [x31,x34] (G.room 23)) fun x36 G35 =>
 chk ((sameO (ld Q q 3 x26 G35) x27 && (sameO (ld Q q 3 x23 G35) x24 && true))) <|
 bP (bn Q q .add 3 (.tmp 45) (.const (.int .i64 1)) x36 (.int .i64 1)) fun x37 =>
 bP (cv Q q 3 39 .i64 .u64 x37) fun x38 =>
 bS (e.ev.cl 15 [v1,x28,x38] G35) fun x40 G39 =>
 bP (pNil v0) fun x41 =>
 bP (fa Q q 324 1 3 x41) fun x42 =>
 bP (st Q q 3 1 x42 (.int .i64 3) G39) fun G43 =>
 J0 (xq q 85 (nth undef [v0,v1]) [(51,x42),(50,x41),(49,v0),(48,x40),(47,x38),(46,x37),(45,x36),(44,x34),(43,x33),(42,x32),(41,v0),(40,x31),(39,x30),(38,x29),(37,v0),(36,x28),(35,x27),(34,x26),(33,x25),(32,v0),(31,x24),(30,x23),(29,x22),(28,x21),(27,v0),(26,v1),(24,x20),(25,x20),(9,x7),(10,x7),(8,x6),(7,x5),(6,x4),(5,v0),(4,(.bool false))] []) G43) (
 bP (bn Q q .eql 3 (.tmp 8) (.const (.int .i64 3)) x6 (.int .i64 3)) fun x44 =>
 ifV x44 (
 bP (pNil v0) fun x45 =>
 bP (fa Q q 324 1 3 x45) fun x46 =>
 bP (st Q q 3 1 x46 (.int .i64 1) G) fun G47 =>
 bP (pNil v0) fun x48 =>
 bP (fa Q q 324 0 0 x48) fun x49 =>
 bP (fa Q q 67 0 0 x49) fun x50 =>
 bP (ld Q q 3 x50 (G47.room 20)) fun x51 =>
 bP (pNil v0) fun x52 =>
 bP (fa Q q 324 2 4 x52) fun x53 =>
 bP (ld Q q 39 x53 (G47.room 20)) fun x54 =>
 bP (pNil v0) fun x55 =>
 bP (fa Q q 324 3 5 x55) fun x56 =>
 bP (ld Q q 3 x56 (G47.room 20)) fun x57 =>
 bP (pNil v0) fun x58 =>
 bP (fa Q q 324 2 4 x58) fun x59 =>
 bP (ld Q q 39 x59 (G47.room 20)) fun x60 =>
 bS (e.ev.cl 256 [x57,x60] (G47.room 20)) fun x62 G61 =>
 chk ((sameO (ld Q q 39 x53 G61) x54 && (sameO (ld Q q 3 x50 G61) x51 && true))) <|
 bS (e.ev.cl 168 [v1,x51,x54,x62] G61) fun x64 G63 =>
 ifV x64 (
 bP (pNil v0) fun x65 =>
 bP (fa Q q 324 1 3 x65) fun x66 =>
 bP (st Q q 3 1 x66 (.int .i64 9) G63) fun G67 =>
 J0 (xq q 85 (nth undef [v0,v1]) [(79,x66),(78,x65),(77,v0),(76,x64),(75,x62),(74,x60),(73,x59),(72,x58),(71,v0),(70,x57),(69,x56),(68,x55),(67,v0),(66,x54),(65,x53),(64,x52),(63,v0),(62,x51),(61,x50),(60,x49),(59,x48),(58,v0),(57,v1),(56,x46),(55,x45),(54,v0),(52,x44),(53,x44),(24,x20),(25,x20),(9,x7),(10,x7),(8,x6),(7,x5),(6,x4),(5,v0),(4,(.bool false))] []) G67) (
 J0 (xq q 85 (nth undef [v0,v1]) [(76,x64),(75,x62),(74,x60),(73,x59),(72,x58),(71,v0),(70,x57),(69,x56),(68,x55),(67,v0),(66,x54),(65,x53),(64,x52),(63,v0),(62,x51),(61,x50),(60,x49),(59,x48),(58,v0),(57,v1),(56,x46),(55,x45),(54,v0),(52,x44),(53,x44),(24,x20),(25,x20),(9,x7),(10,x7),(8,x6),(7,x5),(6,x4),(5,v0),(4,(.bool false))] []) G63)) (
 J0 (xq q 85 (nth undef [v0,v1]) [(52,x44),(53,x44),(24,x20),(25,x20),(9,x7),(10,x7),(8,x6),(7,x5),(6,x4),(5,v0),(4,(.bool false))] []) G)))
noncomputable def s239 (q:Bool) (e:Ex) (v0 v1:Value) (G:GS):Option (Value × GS):=sb239 q e (j239_0 q e) v0 v1 G
theorem m239 {e:Ex} {E:Ev} (h:ExLe Q e E) (v0 v1:Value) (G:GS):Ref (s239 true e v0 v1 G) (s239 false (Ex.of E) v0 v1 G):=by
 unfold s239 sb239
 repeat' (with_reducible first | exact Ref.rfl' _ | exact ROp.r | refine Ref.bP ?_ fun _=>?_ | refine Ref.bS ?_ fun _ _=>?_ | exact Ref.cl (by assumption) | refine Ref.ifV ?_ ?_ | refine LpLe.rx (by assumption) ?_ | refine Ref.xitq ?_ | exact UOk.z | refine UOk.c (by assumption) ?_ | exact Ref.nil _ | refine Ref.bVe fun _ _=>?_ | refine Ref.bLq (by assumption) ?_ fun _ _ _=>?_ | refine Ref.ifE ?_ ?_ | refine Ref.chk ?_ ?_ | refine Imp.and ?_ ?_ | refine Imp.or ?_ | exact Imp.rfl' _ | refine Imp.sameO ?_ | refine Ref.gd ?_ | exact Ref.cValue (by assumption) | refine Ref.bX ?_ fun _ _ _=>?_ | exact Ref.scQ (by assumption) | exact Ref.xRangeQ (by assumption) | exact Ref.cInvoke (by assumption) | refine mkj239_0 (by assumption) ?_)
noncomputable def jt239 (J0:Env → GS → Option (Value × GS)):JT (Value × GS) :=
 (.n none .e (.n (some (fun T G=>J0 (nth undef T) G)) .e .e))
theorem jr239_0 (orc:FuncId → Bool) (J0:Env → GS → Option (Value × GS)) (T:List Value) (G:GS):runC Q (evL Q orc) Tryz.f239.ntmps (jt239 J0) (bodyOf Tryz.f239) (retE Q Tryz.f239.results.toList) [true] (nth undef T) G = jb239_0 false (Ex.of (E orc))  (nth undef T) G:=by kernel_rfl
theorem jo239 (orc:FuncId → Bool):JOk Q orc Tryz.f239.ntmps (jt239 (j239_0 false (Ex.of (E orc))) ) (bodyOf Tryz.f239) (retE Q Tryz.f239.results.toList) :=
 jOk Q orc (l:=[([true],(fun T G=>j239_0 false (Ex.of (E orc)) (nth undef T) G))]) (by kernel_rfl) (AllE.c (fun T G=>jr239_0 orc (j239_0 false (Ex.of (E orc))) T G) (AllE.z))
theorem je239 (orc:FuncId → Bool) (J0:Env → GS → Option (Value × GS)) (v0 v1:Value) (G:GS):sxC Q (evL Q orc) Tryz.f239.ntmps (jt239 J0) (bodyOf Tryz.f239) (nth undef [v0,v1]) G (retE Q Tryz.f239.results.toList) = sb239 false (Ex.of (E orc)) J0 v0 v1 G:=by kernel_rfl
theorem f239 {orc:FuncId → Bool} {e:Ex} (h:ExLe Q e (E orc)) (v0 v1:Value) (G:GS):Ref (s239 true e v0 v1 G) ((E orc).cl 239 [v0,v1] G) :=
 fun r hr=>cl_sxC Q orc (vs:=[v0,v1]) G (jt239 (j239_0 false (Ex.of (E orc))) ) Tryz.func239 (by kernel_rfl) (by kernel_rfl) (by kernel_rfl) (by kernel_rfl) (by kernel_rfl) (jo239 orc) (je239 orc (j239_0 false (Ex.of (E orc))) v0 v1 G) (m239 h v0 v1 G r hr)
noncomputable def s240 (q:Bool) (e:Ex) (v0:Value) (G:GS):Option (Value × GS) :=
 bS (bx q v0 G) fun x0 G1 =>
 bP (fa Q q 126 0 0 x0) fun x2 =>
 bP (ld Q q 123 x2 G1) fun x3 =>
 bP (pNil x3) fun x4 =>
 bP (ld Q q 108 x4 G1) fun x5 =>
 some (.tuple #[x5,(.bool false)],G1)
theorem m240 {e:Ex} {E:Ev} (h:ExLe Q e E) (v0:Value) (G:GS):Ref (s240 true e v0 G) (s240 false (Ex.of E) v0 G):=by
 unfold s240
 exact Ref.gq
theorem f240 {orc:FuncId → Bool} {e:Ex} (h:ExLe Q e (E orc)) (v0:Value) (G:GS):Ref (s240 true e v0 G) ((E orc).cl 240 [v0] G) :=
 fun r hr=>cl_sxE_some Q orc (vs:=[v0]) G Tryz.func240 (by kernel_rfl) (by kernel_rfl) (by kernel_rfl) (by kernel_rfl) (by kernel_rfl) (by kernel_rfl) (m240 h v0 G r hr)
noncomputable def s241 (q:Bool) (e:Ex) (G:GS):Option (Value × GS) :=
 bS (al Q q 308 z308 G) fun x0 G1 =>
 bP (bd Q q 307 z307 [(0,0,1),(1,1,1)] [(.int .i64 0),(.int .i64 16)]) fun x2 =>
 bP (bd Q q 307 z307 [(0,0,1),(1,1,1)] [(.int .i64 16),(.int .i64 48)]) fun x3 =>
 bP (bd Q q 308 z308 [(0,0,2),(1,2,2)] [x2,x3]) fun x4 =>
 bP (st Q q 308 4 x0 x4 G1) fun G5 =>
 bP (lda Q q 308 4 x0 G5) fun x6 =>
 some (x6,G5)
theorem m241 {e:Ex} {E:Ev} (h:ExLe Q e E) (G:GS):Ref (s241 true e  G) (s241 false (Ex.of E)  G):=by
 unfold s241
 exact Ref.gq
theorem f241 {orc:FuncId → Bool} {e:Ex} (h:ExLe Q e (E orc)) (ho:orc 241 = false) (G:GS):Ref (s241 true e  G) ((E orc).cl 241 [] G) :=
 fun r hr=>cl_sxE_some Q orc (vs:=[]) G Tryz.func241 (by kernel_rfl) (by kernel_rfl) ho (by kernel_rfl) (by kernel_rfl) (by kernel_rfl) (m241 h  G r hr)
noncomputable def s242 (q:Bool) (e:Ex) (v0 v1:Value) (G:GS):Option (Value × GS) :=
 bS (bx q v1 G) fun x0 G1 =>
 bP (fa Q q 307 0 0 x0) fun x2 =>
 bP (ld Q q 3 x2 (G1.room 11)) fun x3 =>
 bP (bn Q q .shr 39 (.tmp 5) (.tmp 7) v0 x3) fun x4 =>
 bP (fa Q q 307 1 1 x0) fun x5 =>
 bP (ld Q q 3 x5 (G1.room 11)) fun x6 =>
 bP (bn Q q .shl 39 (.const (.int .u64 1)) (.tmp 10) (.int .u64 1) x6) fun x7 =>
 bP (bn Q q .sub 39 (.tmp 11) (.const (.int .u64 1)) x7 (.int .u64 1)) fun x8 =>
 bP (bn Q q .and 39 (.tmp 8) (.tmp 12) x4 x8) fun x9 =>
 bP (cv Q q 39 3 .u64 .i64 x9) fun x10 =>
 some (x10,(G1.room 11))
theorem m242 {e:Ex} {E:Ev} (h:ExLe Q e E) (v0 v1:Value) (G:GS):Ref (s242 true e v0 v1 G) (s242 false (Ex.of E) v0 v1 G):=by
 unfold s242
 exact Ref.gq
theorem f242 {orc:FuncId → Bool} {e:Ex} (h:ExLe Q e (E orc)) (v0 v1:Value) (G:GS):Ref (s242 true e v0 v1 G) ((E orc).cl 242 [v0,v1] G) :=
 fun r hr=>cl_sxE_some Q orc (vs:=[v0,v1]) G Tryz.func242 (by kernel_rfl) (by kernel_rfl) (by kernel_rfl) (by kernel_rfl) (by kernel_rfl) (by kernel_rfl) (m242 h v0 v1 G r hr)
noncomputable def s243 (q:Bool) (e:Ex) (v0 v1:Value) (G:GS):Option (Value × GS) :=
 bS (bx q v0 G) fun x0 G1 =>
 bS (bx q v1 G1) fun x2 G3 =>
 bP (ld Q q 156 x0 (G3.room 10)) fun x4 =>
 bP (pNil x4) fun x5 =>
 bP (fa Q q 279 0 0 x5) fun x6 =>
 bP (fa Q q 75 2 2 x6) fun x7 =>
 bP (ld Q q 3 x7 (G3.room 10)) fun x8 =>
 bP (ld Q q 156 x0 (G3.room 10)) fun x9 =>
 bP (pNil x9) fun x10 =>
 bP (fa Q q 279 5 20 x10) fun x11 =>
 bP (ld Q q 277 x11 (G3.room 10)) fun x12 =>
 bS (e.ev.cl 257 [x8,x12] (G3.room 10)) fun x14 G13 =>
 bX (xRange e.ev x14 #[16,17] (subAt [1,0,1,0,0] (bodyOf Tryz.f243)) (subAt [1,0,1,0,1] (bodyOf Tryz.f243)) (lsq q 31 (nth undef [v0,v1]) [(15,x14),(14,x12),(13,x11),(12,x10),(11,x9),(10,x8),(9,x7),(8,x6),(7,x5),(6,x4),(3,x2),(2,x0)]) G13) fun e15 T16 G17 =>
 bV q (nth undef T16 2) fun T16x2_ =>
 ifE e15 .normal (
 bP (ld Q q 156 T16x2_ G17) fun x18 =>
 bP (pNil x18) fun x19 =>
 bP (fa Q q 279 2 14 x19) fun x20 =>
 bP (st Q q 3 1 x20 (.int .i64 9) G17) fun G21 =>
 some (.tuple #[],G21)) (ifE e15 .ret (
 some (.tuple #[],G17)) (none))
theorem m243 {e:Ex} {E:Ev} (h:ExLe Q e E) (v0 v1:Value) (G:GS):Ref (s243 true e v0 v1 G) (s243 false (Ex.of E) v0 v1 G):=by
 unfold s243
 exact Ref.gq
theorem f243 {orc:FuncId → Bool} {e:Ex} (h:ExLe Q e (E orc)) (v0 v1:Value) (G:GS):Ref (s243 true e v0 v1 G) ((E orc).cl 243 [v0,v1] G) :=
 fun r hr=>cl_sxE_some Q orc (vs:=[v0,v1]) G Tryz.func243 (by kernel_rfl) (by kernel_rfl) (by kernel_rfl) (by kernel_rfl) (by kernel_rfl) (by kernel_rfl) (m243 h v0 v1 G r hr)
noncomputable def r243_0 (q:Bool) (e:Ex) (l:Nat) (τ:Env) (u0 u1:Value) (G:GS):Option (Value × GS) :=
 bV q (τ 2) fun a2_ =>
 bV q (τ 3) fun a3_ =>
 bS (al Q q 276 z276 G) fun x0 G1 =>
 bP (st Q q 276 4 x0 u1 G1) fun G2 =>
 bP (G2.loop l) fun r3=>if r3.st = .ready then
 bP (ld Q q 3 a3_ (G2.putLoop l (Lp.setSt r3 .busy))) fun x4 =>
 bP (bn Q q .eql 3 (.tmp 18) (.tmp 19) u0 x4) fun x5 =>
 ifV x5 (
 bP (ld Q q 156 a2_ ((G2.putLoop l (Lp.setSt r3 .busy)).room 9)) fun x6 =>
 bP (ld Q q 156 a2_ ((G2.putLoop l (Lp.setSt r3 .busy)).room 9)) fun x7 =>
 bP (lda Q q 276 4 x0 ((G2.putLoop l (Lp.setSt r3 .busy)).room 9)) fun x8 =>
 bP (pNil x6) fun x9 =>
 bP (fa Q q 279 3 15 x9) fun x10 =>
 bP (st Q q 276 4 x10 x8 ((G2.putLoop l (Lp.setSt r3 .busy)).room 9)) fun G11 =>
 chk ((sameO (ld Q q 156 a2_ G11) x7 && true)) <|
 bP (pNil x7) fun x12 =>
 bP (fa Q q 279 2 14 x12) fun x13 =>
 bP (st Q q 3 1 x13 (.int .i64 1) G11) fun G14 =>
 roundEnd l .ret G14) (
 roundEnd l .normal (G2.putLoop l (Lp.setSt r3 .busy)))
 else none
theorem mr243_0 {e:Ex} {E:Ev} (h:ExLe Q e E) (l:Nat) (τ:Env) (u0 u1:Value) (G:GS):Ref (r243_0 true e l τ u0 u1 G) (r243_0 false (Ex.of E) l τ u0 u1 G):=by
 unfold r243_0
 repeat' (with_reducible first | exact Ref.rfl' _ | exact ROp.r | refine Ref.bP ?_ fun _=>?_ | refine Ref.bS ?_ fun _ _=>?_ | exact Ref.cl (by assumption) | refine Ref.ifV ?_ ?_ | refine LpLe.rx (by assumption) ?_ | refine Ref.xitq ?_ | exact UOk.z | refine UOk.c (by assumption) ?_ | exact Ref.nil _ | refine Ref.bVe fun _ _=>?_ | refine Ref.bLq (by assumption) ?_ fun _ _ _=>?_ | refine Ref.ifE ?_ ?_ | refine Ref.chk ?_ ?_ | refine Imp.and ?_ ?_ | refine Imp.or ?_ | exact Imp.rfl' _ | refine Imp.sameO ?_ | refine Ref.gd ?_ | exact Ref.cValue (by assumption) | refine Ref.bX ?_ fun _ _ _=>?_ | exact Ref.scQ (by assumption) | exact Ref.xRangeQ (by assumption) | exact Ref.cInvoke (by assumption) | refine Ref.rdy ?_)
theorem d243_0 {orc:FuncId → Bool} {e:Ex} (h:ExLe Q e (E orc)) (l:Nat) (T:List Value) (u0 u1:Value) (G:GS) {st:LoopState} {pend:Option Code} (hl:G.loop l = some ⟨st,pend,T,[16,17],(subAt [1,0,1,0,0] (bodyOf Tryz.f243)),(subAt [1,0,1,0,1] (bodyOf Tryz.f243))⟩) (hT:T.length = 31):Ref (r243_0 true e l (nth undef T) u0 u1 G) ((E orc).rd l [u0,u1] G) :=
 fun r hr=>rd_sxE Q orc hl (by kernel_rfl) hT (by kernel_rfl) (mr243_0 h l _ u0 u1 G r hr)
noncomputable def s244 (q:Bool) (e:Ex) (v0 v1:Value) (G:GS):Option (Value × GS) :=
 bS (e.ev.cl 200 [v1] G) fun x0 G1 =>
 bP (pExtract x0 0) fun x2 =>
 bP (pExtract x0 1) fun x3 =>
 bS (al Q q 270 z270 G1) fun x4 G5 =>
 bP (st Q q 270 2 x4 x2 G5) fun G6 =>
 bP (fa Q q 270 0 0 x4) fun x7 =>
 bP (ld Q q 3 x7 (G6.room 11)) fun x8 =>
 bP (pNil v0) fun x9 =>
 bP (fa Q q 279 0 0 x9) fun x10 =>
 bP (fa Q q 75 3 3 x10) fun x11 =>
 bP (fa Q q 73 0 0 x11) fun x12 =>
 bP (fa Q q 69 0 0 x12) fun x13 =>
 bP (fa Q q 67 2 2 x13) fun x14 =>
 bP (ld Q q 3 x14 (G6.room 11)) fun x15 =>
 bP (bn Q q .geq 3 (.tmp 13) (.tmp 21) x8 x15) fun x16 =>
 ifV x16 (
 some ((.int .i64 (-1)),(G6.room 11))) (
 bP (fa Q q 270 0 0 x4) fun x17 =>
 bP (ld Q q 3 x17 (G6.room 11)) fun x18 =>
 some (x18,(G6.room 11)))
theorem m244 {e:Ex} {E:Ev} (h:ExLe Q e E) (v0 v1:Value) (G:GS):Ref (s244 true e v0 v1 G) (s244 false (Ex.of E) v0 v1 G):=by
 unfold s244
 exact Ref.gq
theorem f244 {orc:FuncId → Bool} {e:Ex} (h:ExLe Q e (E orc)) (v0 v1:Value) (G:GS):Ref (s244 true e v0 v1 G) ((E orc).cl 244 [v0,v1] G) :=
 fun r hr=>cl_sxE_some Q orc (vs:=[v0,v1]) G Tryz.func244 (by kernel_rfl) (by kernel_rfl) (by kernel_rfl) (by kernel_rfl) (by kernel_rfl) (by kernel_rfl) (m244 h v0 v1 G r hr)
noncomputable def s245 (q:Bool) (e:Ex) (v0:Value) (G:GS):Option (Value × GS) :=
 bP (pNil v0) fun x0 =>
 bP (fa Q q 279 5 20 x0) fun x1 =>
 bP (ld Q q 277 x1 (G.room 15)) fun x2 =>
 bP (pNil v0) fun x3 =>
 bP (fa Q q 279 3 15 x3) fun x4 =>
 bP (fa Q q 276 0 0 x4) fun x5 =>
 bP (ld Q q 3 x5 (G.room 15)) fun x6 =>
 bP (pNil v0) fun x7 =>
 bP (fa Q q 279 3 15 x7) fun x8 =>
 bP (lda Q q 276 4 x8 (G.room 15)) fun x9 =>
 bP (ias Q q 277 4 x2 x6) fun x10 =>
 bP (st Q q 276 4 x10 x9 (G.room 15)) fun G11 =>
 bP (pNil v0) fun x12 =>
 bP (fa Q q 279 3 15 x12) fun x13 =>
 bP (fa Q q 276 0 0 x13) fun x14 =>
 bP (ld Q q 3 x14 G11) fun x15 =>
 bP (bn Q q .sub 3 (.tmp 21) (.const (.int .i64 1)) x15 (.int .i64 1)) fun x16 =>
 bS (e.ev.cl 243 [v0,x16] G11) fun x17 G18 =>
 some (.tuple #[],G18)
theorem m245 {e:Ex} {E:Ev} (h:ExLe Q e E) (v0:Value) (G:GS):Ref (s245 true e v0 G) (s245 false (Ex.of E) v0 G):=by
 unfold s245
 exact Ref.gq
theorem f245 {orc:FuncId → Bool} {e:Ex} (h:ExLe Q e (E orc)) (v0:Value) (G:GS):Ref (s245 true e v0 G) ((E orc).cl 245 [v0] G) :=
 fun r hr=>cl_sxE_some Q orc (vs:=[v0]) G Tryz.func245 (by kernel_rfl) (by kernel_rfl) (by kernel_rfl) (by kernel_rfl) (by kernel_rfl) (by kernel_rfl) (m245 h v0 G r hr)
noncomputable def s246 (q:Bool) (e:Ex) (v0:Value) (G:GS):Option (Value × GS) :=
 bP (pNil v0) fun x0 =>
 bP (fa Q q 279 2 14 x0) fun x1 =>
 bP (st Q q 3 1 x1 (.int .i64 2) G) fun G2 =>
 bP (pNil v0) fun x3 =>
 bP (fa Q q 279 3 15 x3) fun x4 =>
 bP (fa Q q 276 3 3 x4) fun x5 =>
 bP (ld Q q 39 x5 G2) fun x6 =>
 bS (e.ev.cl 244 [v0,x6] G2) fun x7 G8 =>
 bP (bn Q q .lss 3 (.tmp 11) (.const (.int .i64 0)) x7 (.int .i64 0)) fun x9 =>
 ifV x9 (
 bS (e.ev.cl 245 [v0] G8) fun x10 G11 =>
 some (.tuple #[],G11)) (
 some (.tuple #[],G8))
theorem m246 {e:Ex} {E:Ev} (h:ExLe Q e E) (v0:Value) (G:GS):Ref (s246 true e v0 G) (s246 false (Ex.of E) v0 G):=by
 unfold s246
 exact Ref.gq
theorem f246 {orc:FuncId → Bool} {e:Ex} (h:ExLe Q e (E orc)) (v0:Value) (G:GS):Ref (s246 true e v0 G) ((E orc).cl 246 [v0] G) :=
 fun r hr=>cl_sxE_some Q orc (vs:=[v0]) G Tryz.func246 (by kernel_rfl) (by kernel_rfl) (by kernel_rfl) (by kernel_rfl) (by kernel_rfl) (by kernel_rfl) (m246 h v0 G r hr)
noncomputable def s247 (q:Bool) (e:Ex) (v0:Value) (G:GS):Option (Value × GS) :=
 bS (bx q v0 G) fun x0 G1 =>
 bP (fa Q q 126 0 0 x0) fun x2 =>
 bP (ld Q q 123 x2 (G1.room 9)) fun x3 =>
 bP (pNil x3) fun x4 =>
 bP (ld Q q 108 x4 (G1.room 9)) fun x5 =>
 bP (fa Q q 126 1 1 x0) fun x6 =>
 bP (ld Q q 39 x6 (G1.room 9)) fun x7 =>
 bP (bn Q q .add 39 (.tmp 7) (.tmp 9) x5 x7) fun x8 =>
 some (.tuple #[x8,(.bool true)],(G1.room 9))
theorem m247 {e:Ex} {E:Ev} (h:ExLe Q e E) (v0:Value) (G:GS):Ref (s247 true e v0 G) (s247 false (Ex.of E) v0 G):=by
 unfold s247
 exact Ref.gq
theorem f247 {orc:FuncId → Bool} {e:Ex} (h:ExLe Q e (E orc)) (v0:Value) (G:GS):Ref (s247 true e v0 G) ((E orc).cl 247 [v0] G) :=
 fun r hr=>cl_sxE_some Q orc (vs:=[v0]) G Tryz.func247 (by kernel_rfl) (by kernel_rfl) (by kernel_rfl) (by kernel_rfl) (by kernel_rfl) (by kernel_rfl) (m247 h v0 G r hr)
noncomputable def s248 (q:Bool) (e:Ex) (v0 v1:Value) (G:GS):Option (Value × GS) :=
 bP (pNil v0) fun x0 =>
 bP (fa Q q 320 1 3 x0) fun x1 =>
 bP (fa Q q 73 1 6 x1) fun x2 =>
 bP (fa Q q 71 0 0 x2) fun x3 =>
 bP (ld Q q 3 x3 G) fun x4 =>
 bS (e.ev.cl 199 [v1,x4] G) fun x5 G6 =>
 bP (bn Q q .and 39 (.tmp 13) (.const (.int .u64 4294967295)) x5 (.int .u64 4294967295)) fun x7 =>
 bP (bn Q q .rem 39 (.tmp 16) (.const (.int .u64 3)) x7 (.int .u64 3)) fun x8 =>
 bP (cv Q q 39 259 .u64 .i64 x8) fun x9 =>
 bP (pNil v0) fun x10 =>
 bP (fa Q q 320 1 3 x10) fun x11 =>
 bP (lda Q q 73 10 x11 (G6.room 17)) fun x12 =>
 bS (e.ev.cl 184 [x9,x12] (G6.room 17)) fun x14 G13 =>
 bP (pNil v0) fun x15 =>
 bP (fa Q q 320 2 13 x15) fun x16 =>
 bP (ld Q q 3 x16 G13) fun x17 =>
 chk ((sameO (ld Q q 3 x16 (G6.room 17)) x17 && true)) <|
 bS (e.ev.cl 258 [x14,x17] G13) fun x19 G18 =>
 bP (pNil v0) fun x20 =>
 bP (fa Q q 320 3 14 x20) fun x21 =>
 bP (st Q q 318 1 x21 x19 G18) fun G22 =>
 some ((.func (.func 259) #[v0] #[]),G22)
theorem m248 {e:Ex} {E:Ev} (h:ExLe Q e E) (v0 v1:Value) (G:GS):Ref (s248 true e v0 v1 G) (s248 false (Ex.of E) v0 v1 G):=by
 unfold s248
 exact Ref.gq
theorem f248 {orc:FuncId → Bool} {e:Ex} (h:ExLe Q e (E orc)) (v0 v1:Value) (G:GS):Ref (s248 true e v0 v1 G) ((E orc).cl 248 [v0,v1] G) :=
 fun r hr=>cl_sxE_some Q orc (vs:=[v0,v1]) G Tryz.func248 (by kernel_rfl) (by kernel_rfl) (by kernel_rfl) (by kernel_rfl) (by kernel_rfl) (by kernel_rfl) (m248 h v0 v1 G r hr)
noncomputable def jb249_0 (q:Bool) (e:Ex) (τ:Env) (G:GS):Option (Value × GS) :=
 bV q (τ 0) fun a0_ =>
 bP (pNil a0_) fun x0 =>
 bP (fa Q q 317 0 0 x0) fun x1 =>
 bP (ld Q q 315 x1 G) fun x2 =>
 bP (ef Q q false 315 (.tmp 22) (.const .nilFunc) x2 .nilFunc) fun x3 =>
 some (x3,G)
noncomputable def j249_0 (q:Bool) (e:Ex) (τ:Env) (G:GS):Option (Value × GS):=jb249_0 q e τ G
theorem mj249_0 {e:Ex} {E:Ev} (h:ExLe Q e E) (τ:Env) (G:GS):Ref (j249_0 true e τ G) (j249_0 false (Ex.of E) τ G):=by
 unfold j249_0 jb249_0
 exact Ref.gq
theorem mkj249_0 {e:Ex} {E:Ev} (h:ExLe Q e E) {τ:Env} {l U:List (Nat × Value)} {G:GS} (hU:UOk τ U):Ref (j249_0 true e (xq true 24 τ l U) G) (j249_0 false (Ex.of E) (xq false 24 τ l U) G):=by
 rw [xq_eq hU]
 exact mj249_0 h _ _
noncomputable def sb249 (q:Bool) (e:Ex) (J0:Env → GS → Option (Value × GS)) (v0 v1:Value) (G:GS):Option (Value × GS) :=
 bP (pNil v0) fun x4 =>
 bP (fa Q q 317 0 0 x4) fun x5 =>
 bP (ld Q q 315 x5 G) fun x6 =>
 bP (ef Q q true 315 (.tmp 8) (.const .nilFunc) x6 .nilFunc) fun x7 =>
 ifV x7 (
 bP (pNil v0) fun x8 =>
 bP (fa Q q 317 0 0 x8) fun x9 =>
 bP (ld Q q 315 x9 G) fun x10 =>
 bS (cValue e.ev x10 [v1] G) fun x11 G12 =>
 bP (pNil v0) fun x13 =>
 bP (fa Q q 317 0 0 x13) fun x14 =>
 bP (st Q q 315 1 x14 x11 G12) fun G15 =>
 J0 (xq q 24 (nth undef [v0,v1]) [(18,x14),(17,x13),(16,x11),(15,v1),(14,x10),(13,x9),(12,x8),(11,v0),(10,v0),(9,x7),(8,x6),(7,x5),(6,x4),(5,v0),(4,(.bool false))] []) G15) (
 J0 (xq q 24 (nth undef [v0,v1]) [(9,x7),(8,x6),(7,x5),(6,x4),(5,v0),(4,(.bool false))] []) G)
noncomputable def s249 (q:Bool) (e:Ex) (v0 v1:Value) (G:GS):Option (Value × GS):=sb249 q e (j249_0 q e) v0 v1 G
theorem m249 {e:Ex} {E:Ev} (h:ExLe Q e E) (v0 v1:Value) (G:GS):Ref (s249 true e v0 v1 G) (s249 false (Ex.of E) v0 v1 G):=by
 unfold s249 sb249
 repeat' (with_reducible first | exact Ref.rfl' _ | exact ROp.r | refine Ref.bP ?_ fun _=>?_ | refine Ref.bS ?_ fun _ _=>?_ | exact Ref.cl (by assumption) | refine Ref.ifV ?_ ?_ | refine LpLe.rx (by assumption) ?_ | refine Ref.xitq ?_ | exact UOk.z | refine UOk.c (by assumption) ?_ | exact Ref.nil _ | refine Ref.bVe fun _ _=>?_ | refine Ref.bLq (by assumption) ?_ fun _ _ _=>?_ | refine Ref.ifE ?_ ?_ | refine Ref.chk ?_ ?_ | refine Imp.and ?_ ?_ | refine Imp.or ?_ | exact Imp.rfl' _ | refine Imp.sameO ?_ | refine Ref.gd ?_ | exact Ref.cValue (by assumption) | refine Ref.bX ?_ fun _ _ _=>?_ | exact Ref.scQ (by assumption) | exact Ref.xRangeQ (by assumption) | exact Ref.cInvoke (by assumption) | refine mkj249_0 (by assumption) ?_)
noncomputable def jt249 (J0:Env → GS → Option (Value × GS)):JT (Value × GS) :=
 (.n none .e (.n (some (fun T G=>J0 (nth undef T) G)) .e .e))
theorem jr249_0 (orc:FuncId → Bool) (J0:Env → GS → Option (Value × GS)) (T:List Value) (G:GS):runC Q (evL Q orc) Tryz.f249.ntmps (jt249 J0) (bodyOf Tryz.f249) (retE Q Tryz.f249.results.toList) [true] (nth undef T) G = jb249_0 false (Ex.of (E orc))  (nth undef T) G:=by kernel_rfl
theorem jo249 (orc:FuncId → Bool):JOk Q orc Tryz.f249.ntmps (jt249 (j249_0 false (Ex.of (E orc))) ) (bodyOf Tryz.f249) (retE Q Tryz.f249.results.toList) :=
 jOk Q orc (l:=[([true],(fun T G=>j249_0 false (Ex.of (E orc)) (nth undef T) G))]) (by kernel_rfl) (AllE.c (fun T G=>jr249_0 orc (j249_0 false (Ex.of (E orc))) T G) (AllE.z))
theorem je249 (orc:FuncId → Bool) (J0:Env → GS → Option (Value × GS)) (v0 v1:Value) (G:GS):sxC Q (evL Q orc) Tryz.f249.ntmps (jt249 J0) (bodyOf Tryz.f249) (nth undef [v0,v1]) G (retE Q Tryz.f249.results.toList) = sb249 false (Ex.of (E orc)) J0 v0 v1 G:=by kernel_rfl
theorem f249 {orc:FuncId → Bool} {e:Ex} (h:ExLe Q e (E orc)) (v0 v1:Value) (G:GS):Ref (s249 true e v0 v1 G) ((E orc).cl 249 [v0,v1] G) :=
 fun r hr=>cl_sxC Q orc (vs:=[v0,v1]) G (jt249 (j249_0 false (Ex.of (E orc))) ) Tryz.func249 (by kernel_rfl) (by kernel_rfl) (by kernel_rfl) (by kernel_rfl) (by kernel_rfl) (jo249 orc) (je249 orc (j249_0 false (Ex.of (E orc))) v0 v1 G) (m249 h v0 v1 G r hr)
noncomputable def s253 (q:Bool) (e:Ex) (v0:Value) (G:GS):Option (Value × GS) :=
 bS (bx q v0 G) fun x0 G1 =>
 bP (fa Q q 67 2 2 x0) fun x2 =>
 bP (ld Q q 3 x2 G1) fun x3 =>
 bP (bn Q q .geq 3 (.tmp 4) (.const (.int .i64 1)) x3 (.int .i64 1)) fun x4 =>
 bS (gd x4 true (bP (fa Q q 67 2 2 x0) fun y=>some (y,G1)) G1) fun x5 G6 =>
 bS (gd x4 true (bP (ld Q q 3 x5 G6) fun y=>some (y,G6)) G6) fun x7 G8 =>
 bS (gd x4 true (bP (bn Q q .leq 3 (.tmp 8) (.const (.int .i64 4096)) x7 (.int .i64 4096)) fun y=>some (y,G8)) G8) fun x9 G10 =>
 bP (pickV x4 x9 (.bool false)) fun x11 =>
 some (x11,G10)
theorem m253 {e:Ex} {E:Ev} (h:ExLe Q e E) (v0:Value) (G:GS):Ref (s253 true e v0 G) (s253 false (Ex.of E) v0 G):=by
 unfold s253
 exact Ref.gq
theorem f253 {orc:FuncId → Bool} {e:Ex} (h:ExLe Q e (E orc)) (v0:Value) (G:GS):Ref (s253 true e v0 G) ((E orc).cl 253 [v0] G) :=
 fun r hr=>cl_sxE_some Q orc (vs:=[v0]) G Tryz.func253 (by kernel_rfl) (by kernel_rfl) (by kernel_rfl) (by kernel_rfl) (by kernel_rfl) (by kernel_rfl) (m253 h v0 G r hr)
noncomputable def s254 (q:Bool) (e:Ex) (v0:Value) (G:GS):Option (Value × GS) :=
 bP (bd Q q 270 z270 [(0,0,1)] [v0]) fun x0 =>
 bS (e.ev.cl 262 [x0] G) fun x1 G2 =>
 bP (pExtract x1 0) fun x3 =>
 bP (pExtract x1 1) fun x4 =>
 some (x3,G2)
theorem m254 {e:Ex} {E:Ev} (h:ExLe Q e E) (v0:Value) (G:GS):Ref (s254 true e v0 G) (s254 false (Ex.of E) v0 G):=by
 unfold s254
 exact Ref.gq
theorem f254 {orc:FuncId → Bool} {e:Ex} (h:ExLe Q e (E orc)) (v0:Value) (G:GS):Ref (s254 true e v0 G) ((E orc).cl 254 [v0] G) :=
 fun r hr=>cl_sxE_some Q orc (vs:=[v0]) G Tryz.func254 (by kernel_rfl) (by kernel_rfl) (by kernel_rfl) (by kernel_rfl) (by kernel_rfl) (by kernel_rfl) (m254 h v0 G r hr)
noncomputable def b255_0 (q:Bool) (e:Ex) (lp:Env → GS → Option (Exit × Env × GS)) (τ:Env) (G:GS):Option (Exit × Env × GS) :=
 bV q (τ 0) fun a0_ =>
 bV q (τ 1) fun a1_ =>
 bV q (τ 5) fun a5_ =>
 bV q (τ 6) fun a6_ =>
 bP (bn Q q .lss 3 (.tmp 6) (.tmp 5) a6_ a5_) fun x0 =>
 ifV x0 (
 bP (fa Q q 71 1 1 a1_) fun x1 =>
 bP (ld Q q 3 x1 G) fun x2 =>
 bP (bn Q q .add 3 (.tmp 12) (.tmp 13) x2 a6_) fun x3 =>
 bS (cValue e.ev a0_ [a6_,x3] G) fun x4 G5 =>
 bP (un Q q .not x4) fun x6 =>
 ifV x6 (
 some (.ret,xq q 18 τ [(16,x6),(15,x4),(14,x3),(13,a6_),(12,x2),(11,x1),(10,a6_),(9,a0_),(3,a6_),(8,a6_),(7,x0)] [(0,a0_),(1,a1_),(5,a5_),(6,a6_)],G5)) (
 bP (bn Q q .add 3 (.tmp 6) (.const (.int .i64 1)) a6_ (.int .i64 1)) fun x7 =>
 lp (xq q 18 τ [(6,x7),(17,x7),(16,x6),(15,x4),(14,x3),(13,a6_),(12,x2),(11,x1),(10,a6_),(9,a0_),(3,a6_),(8,a6_),(7,x0)] [(0,a0_),(1,a1_),(5,a5_)]) G5)) (
 some ((.exit 0),xq q 18 τ [(7,x0)] [(0,a0_),(1,a1_),(5,a5_),(6,a6_)],G))
theorem mb255_0 {e:Ex} {E:Ev} (h:ExLe Q e E) {lp lp':Env → GS → Option (Exit × Env × GS)} (hlp:LpLe lp lp') (τ:Env) (G:GS):Ref (b255_0 true e lp τ G) (b255_0 false (Ex.of E) lp' τ G):=by
 unfold b255_0
 exact Ref.gq
theorem l255_0 {orc:FuncId → Bool} {e:Ex} (h:ExLe Q e (E orc)) (lp:Env → GS → Option (Exit × Env × GS)) (hlp:∀ τ G,Ref (lp τ G) (mapE ((E orc).lp (subAt [1,0,0] (bodyOf Tryz.f255)) (lst 18 τ) G))) (T:List Value) (G:GS) (hT:T.length = 18):Ref (b255_0 true e lp (nth undef T) G) (mapE ((E orc).lp (subAt [1,0,0] (bodyOf Tryz.f255)) T G)) :=
 fun r hr=>lp_sxN Q orc G hT (by kernel_rfl) (mb255_0 h ⟨hlp⟩ _ _ r hr)
noncomputable def s255 (q:Bool) (e:Ex) (v0 v1:Value) (G:GS):Option (Value × GS) :=
 bP (fa Q q 71 2 2 v1) fun x0 =>
 bP (ld Q q 3 x0 G) fun x1 =>
 bLq q e 255 0 (subAt [1,0,0] (bodyOf Tryz.f255)) 18 (nth undef [v0,v1]) [(6,(.int .i64 0)),(5,x1),(4,x0)] [] G fun e2 t3 G4 =>
 ifE e2 (.exit 0) (
 some (.tuple #[],G4)) (ifE e2 .ret (
 some (.tuple #[],G4)) (none))
theorem m255 {e:Ex} {E:Ev} (h:ExLe Q e E) (v0 v1:Value) (G:GS):Ref (s255 true e v0 v1 G) (s255 false (Ex.of E) v0 v1 G):=by
 unfold s255
 exact Ref.gq
theorem f255 {orc:FuncId → Bool} {e:Ex} (h:ExLe Q e (E orc)) (v0 v1:Value) (G:GS):Ref (s255 true e v0 v1 G) ((E orc).cl 255 [v0,v1] G) :=
 fun r hr=>cl_sxE_some Q orc (vs:=[v0,v1]) G Tryz.func255 (by kernel_rfl) (by kernel_rfl) (by kernel_rfl) (by kernel_rfl) (by kernel_rfl) (by kernel_rfl) (m255 h v0 v1 G r hr)
noncomputable def s256 (q:Bool) (e:Ex) (v0 v1:Value) (G:GS):Option (Value × GS) :=
 bP (bn Q q .add 3 (.tmp 5) (.const (.int .i64 1)) v0 (.int .i64 1)) fun x0 =>
 bP (cv Q q 3 39 .i64 .u64 x0) fun x1 =>
 bP (bn Q q .shr 39 (.tmp 8) (.const (.int .u64 16)) v1 (.int .u64 16)) fun x2 =>
 bP (bn Q q .add 39 (.tmp 9) (.const (.int .u64 1)) x2 (.int .u64 1)) fun x3 =>
 bP (bn Q q .shl 39 (.tmp 10) (.const (.int .u64 16)) x3 (.int .u64 16)) fun x4 =>
 bP (bn Q q .or 39 (.tmp 7) (.tmp 11) x1 x4) fun x5 =>
 some (x5,G)
theorem m256 {e:Ex} {E:Ev} (h:ExLe Q e E) (v0 v1:Value) (G:GS):Ref (s256 true e v0 v1 G) (s256 false (Ex.of E) v0 v1 G):=by
 unfold s256
 exact Ref.gq
theorem f256 {orc:FuncId → Bool} {e:Ex} (h:ExLe Q e (E orc)) (v0 v1:Value) (G:GS):Ref (s256 true e v0 v1 G) ((E orc).cl 256 [v0,v1] G) :=
 fun r hr=>cl_sxE_some Q orc (vs:=[v0,v1]) G Tryz.func256 (by kernel_rfl) (by kernel_rfl) (by kernel_rfl) (by kernel_rfl) (by kernel_rfl) (by kernel_rfl) (m256 h v0 v1 G r hr)
noncomputable def s257 (q:Bool) (e:Ex) (v0 v1:Value) (G:GS):Option (Value × GS) :=
 bS (bx q v0 G) fun x0 G1 =>
 bS (bx q v1 G1) fun x2 G3 =>
 some ((.func (.func 263) #[] #[x0,x2]),G3)
theorem m257 {e:Ex} {E:Ev} (h:ExLe Q e E) (v0 v1:Value) (G:GS):Ref (s257 true e v0 v1 G) (s257 false (Ex.of E) v0 v1 G):=by
 unfold s257
 exact Ref.gq
theorem f257 {orc:FuncId → Bool} {e:Ex} (h:ExLe Q e (E orc)) (v0 v1:Value) (G:GS):Ref (s257 true e v0 v1 G) ((E orc).cl 257 [v0,v1] G) :=
 fun r hr=>cl_sxE_some Q orc (vs:=[v0,v1]) G Tryz.func257 (by kernel_rfl) (by kernel_rfl) (by kernel_rfl) (by kernel_rfl) (by kernel_rfl) (by kernel_rfl) (m257 h v0 v1 G r hr)
noncomputable def s258 (q:Bool) (e:Ex) (v0 v1:Value) (G:GS):Option (Value × GS) :=
 bS (bx q v0 G) fun x0 G1 =>
 bP (lda Q q 67 3 x0 G1) fun x2 =>
 bP (bd Q q 335 z335 [(0,0,3),(2,4,1),(4,6,1)] [x2,v1,(.bool true)]) fun x3 =>
 bP (bd Q q 338 z338 [(0,0,9),(1,9,1)] [x3,(.func (.func 264) #[] #[])]) fun x4 =>
 bS (bx q x4 G1) fun x5 G6 =>
 bP (bn Q q .lss 3 (.tmp 11) (.const (.int .i64 0)) v1 (.int .i64 0)) fun x7 =>
 bS (gd x7 false (some (v1,G6)) G6) fun x8 G9 =>
 bS (gd x7 false (bP (fa Q q 67 2 2 x0) fun y=>some (y,G9)) G9) fun x10 G11 =>
 bS (gd x7 false (bP (ld Q q 3 x10 G11) fun y=>some (y,G11)) G11) fun x12 G13 =>
 bS (gd x7 false (bP (bn Q q .geq 3 (.tmp 14) (.tmp 16) x8 x12) fun y=>some (y,G13)) G13) fun x14 G15 =>
 bP (pickV x7 (.bool true) x14) fun x16 =>
 ifV x16 (
 bP (pNil x5) fun x17 =>
 bP (fa Q q 338 0 0 x17) fun x18 =>
 bS (e.ev.cl 265 [x18,(.int .i64 3)] G15) fun x19 G20 =>
 some (x5,G20)) (
 some (x5,G15))
theorem m258 {e:Ex} {E:Ev} (h:ExLe Q e E) (v0 v1:Value) (G:GS):Ref (s258 true e v0 v1 G) (s258 false (Ex.of E) v0 v1 G):=by
 unfold s258
 exact Ref.gq
theorem f258 {orc:FuncId → Bool} {e:Ex} (h:ExLe Q e (E orc)) (v0 v1:Value) (G:GS):Ref (s258 true e v0 v1 G) ((E orc).cl 258 [v0,v1] G) :=
 fun r hr=>cl_sxE_some Q orc (vs:=[v0,v1]) G Tryz.func258 (by kernel_rfl) (by kernel_rfl) (by kernel_rfl) (by kernel_rfl) (by kernel_rfl) (by kernel_rfl) (m258 h v0 v1 G r hr)
noncomputable def s259 (q:Bool) (e:Ex) (v0 v1:Value) (G:GS):Option (Value × GS) :=
 bP (pNil v0) fun x0 =>
 bP (fa Q q 320 3 14 x0) fun x1 =>
 bP (ld Q q 318 x1 G) fun x2 =>
 bS (e.ev.cl 266 [x2,v1] G) fun x3 G4 =>
 ifV x3 (
 some (.nilFunc,G4)) (
 some ((.func (.func 259) #[v0] #[]),G4))
theorem m259 {e:Ex} {E:Ev} (h:ExLe Q e E) (v0 v1:Value) (G:GS):Ref (s259 true e v0 v1 G) (s259 false (Ex.of E) v0 v1 G):=by
 unfold s259
 exact Ref.gq
theorem f259 {orc:FuncId → Bool} {e:Ex} (h:ExLe Q e (E orc)) (v0 v1:Value) (G:GS):Ref (s259 true e v0 v1 G) ((E orc).cl 259 [v0,v1] G) :=
 fun r hr=>cl_sxE_some Q orc (vs:=[v0,v1]) G Tryz.func259 (by kernel_rfl) (by kernel_rfl) (by kernel_rfl) (by kernel_rfl) (by kernel_rfl) (by kernel_rfl) (m259 h v0 v1 G r hr)
noncomputable def s262 (q:Bool) (e:Ex) (v0:Value) (G:GS):Option (Value × GS) :=
 bS (bx q v0 G) fun x0 G1 =>
 bP (fa Q q 270 0 0 x0) fun x2 =>
 bP (ld Q q 3 x2 G1) fun x3 =>
 bP (bd Q q 341 z341 [(0,0,1),(1,1,1),(2,2,1)] [x3,(.int .i64 (-1)),(.int .i64 65534)]) fun x4 =>
 bP (fa Q q 270 1 1 x0) fun x5 =>
 bP (ld Q q 3 x5 G1) fun x6 =>
 bP (bd Q q 341 z341 [(0,0,1),(1,1,1),(2,2,1)] [x6,(.int .i64 0),(.int .i64 281474976710655)]) fun x7 =>
 bS (bs Q q 346 2 (rep z341 2) 3 [(0,0,3),(1,3,3)] [x4,x7] G1) fun x8 G9 =>
 bS (e.ev.cl 267 [x8] G9) fun x10 G11 =>
 bP (un Q q .not x10) fun x12 =>
 ifV x12 (
 some (.tuple #[(.int .u64 0),(.int .i64 3)],G11)) (
 bS (e.ev.cl 241 [] G11) fun x13 G14 =>
 bS (al Q q 308 z308 G14) fun x15 G16 =>
 bP (st Q q 308 4 x15 x13 G16) fun G17 =>
 bP (sla Q q 308 2 2 x15 none none none (G17.room 10)) fun x18 =>
 bP (fa Q q 270 0 0 x0) fun x19 =>
 bP (ld Q q 3 x19 (G17.room 10)) fun x20 =>
 bP (bn Q q .add 3 (.tmp 17) (.const (.int .i64 1)) x20 (.int .i64 1)) fun x21 =>
 bP (fa Q q 270 1 1 x0) fun x22 =>
 bP (ld Q q 3 x22 (G17.room 10)) fun x23 =>
 bS (bs Q q 52 2 (rep z3 2) 1 [(0,0,1),(1,1,1)] [x21,x23] ((G17.room 10).at' (G17.nx + 6))) fun x24 G25 =>
 bS (e.ev.cl 268 [x18,x24] (G25.back (G17.room 10))) fun x27 G26 =>
 some (.tuple #[x27,(.int .i64 0)],G26))
theorem m262 {e:Ex} {E:Ev} (h:ExLe Q e E) (v0:Value) (G:GS):Ref (s262 true e v0 G) (s262 false (Ex.of E) v0 G):=by
 unfold s262
 exact Ref.gq
theorem f262 {orc:FuncId → Bool} {e:Ex} (h:ExLe Q e (E orc)) (v0:Value) (G:GS):Ref (s262 true e v0 G) ((E orc).cl 262 [v0] G) :=
 fun r hr=>cl_sxE_some Q orc (vs:=[v0]) G Tryz.func262 (by kernel_rfl) (by kernel_rfl) (by kernel_rfl) (by kernel_rfl) (by kernel_rfl) (by kernel_rfl) (m262 h v0 G r hr)
noncomputable def b263_0 (q:Bool) (e:Ex) (lp:Env → GS → Option (Exit × Env × GS)) (τ:Env) (G:GS):Option (Exit × Env × GS) :=
 bV q (τ 0) fun a0_ =>
 bV q (τ 2) fun a2_ =>
 bV q (τ 4) fun a4_ =>
 bV q (τ 5) fun a5_ =>
 bP (bn Q q .geq 3 (.tmp 9) (.const (.int .i64 0)) a5_ (.int .i64 0)) fun x0 =>
 ifV x0 (
 bP (fa Q q 276 0 0 a4_) fun x1 =>
 bP (st Q q 3 1 x1 a5_ G) fun G2 =>
 bP (fa Q q 276 3 3 a4_) fun x3 =>
 bP (st Q q 39 1 x3 (.int .u64 0) G2) fun G4 =>
 bP (lda Q q 276 4 a4_ G4) fun x5 =>
 bS (cValue e.ev a0_ [a5_,x5] G4) fun x6 G7 =>
 bP (un Q q .not x6) fun x8 =>
 ifV x8 (
 some (.ret,xq q 25 τ [(20,x8),(19,x6),(18,x5),(17,a5_),(16,a0_),(15,x3),(14,x1),(13,a5_),(10,x0),(9,a5_)] [(0,a0_),(2,a2_),(4,a4_),(5,a5_)],G7)) (
 bP (ld Q q 277 a2_ G7) fun x9 =>
 bP (ias Q q 277 4 x9 a5_) fun x10 =>
 bP (lda Q q 276 4 x10 G7) fun x11 =>
 bP (st Q q 276 4 a4_ x11 G7) fun G12 =>
 bP (bn Q q .sub 3 (.tmp 11) (.const (.int .i64 1)) a5_ (.int .i64 1)) fun x13 =>
 lp (xq q 25 τ [(5,x13),(12,x13),(11,a5_),(24,x11),(23,x10),(22,a5_),(21,x9),(20,x8),(19,x6),(18,x5),(17,a5_),(16,a0_),(15,x3),(14,x1),(13,a5_),(10,x0),(9,a5_)] [(0,a0_),(2,a2_),(4,a4_)]) G12)) (
 some ((.exit 0),xq q 25 τ [(10,x0),(9,a5_)] [(0,a0_),(2,a2_),(4,a4_),(5,a5_)],G))
theorem mb263_0 {e:Ex} {E:Ev} (h:ExLe Q e E) {lp lp':Env → GS → Option (Exit × Env × GS)} (hlp:LpLe lp lp') (τ:Env) (G:GS):Ref (b263_0 true e lp τ G) (b263_0 false (Ex.of E) lp' τ G):=by
 unfold b263_0
 exact Ref.gq
theorem l263_0 {orc:FuncId → Bool} {e:Ex} (h:ExLe Q e (E orc)) (lp:Env → GS → Option (Exit × Env × GS)) (hlp:∀ τ G,Ref (lp τ G) (mapE ((E orc).lp (subAt [1,1,0,0] (bodyOf Tryz.f263)) (lst 25 τ) G))) (T:List Value) (G:GS) (hT:T.length = 25):Ref (b263_0 true e lp (nth undef T) G) (mapE ((E orc).lp (subAt [1,1,0,0] (bodyOf Tryz.f263)) T G)) :=
 fun r hr=>lp_sxN Q orc G hT (by kernel_rfl) (mb263_0 h ⟨hlp⟩ _ _ r hr)
noncomputable def s263 (q:Bool) (e:Ex) (v0 v1 v2:Value) (G:GS):Option (Value × GS) :=
 bP (bd Q q 276 z276 [(1,1,1)] [(.int .i64 (-1))]) fun x0 =>
 bS (al Q q 276 z276 G) fun x1 G2 =>
 bP (st Q q 276 4 x1 x0 G2) fun G3 =>
 bP (ld Q q 3 v1 G3) fun x4 =>
 bP (bn Q q .sub 3 (.tmp 7) (.const (.int .i64 1)) x4 (.int .i64 1)) fun x5 =>
 bLq q e 263 0 (subAt [1,1,0,0] (bodyOf Tryz.f263)) 25 (nth undef [v0,v1,v2]) [(5,x5),(8,x5),(7,x4),(4,x1),(6,x0)] [] G3 fun e6 t7 G8 =>
 ifE e6 (.exit 0) (
 some (.tuple #[],G8)) (ifE e6 .ret (
 some (.tuple #[],G8)) (none))
theorem m263 {e:Ex} {E:Ev} (h:ExLe Q e E) (v0 v1 v2:Value) (G:GS):Ref (s263 true e v0 v1 v2 G) (s263 false (Ex.of E) v0 v1 v2 G):=by
 unfold s263
 exact Ref.gq
theorem f263 {orc:FuncId → Bool} {e:Ex} (h:ExLe Q e (E orc)) (v0 v1 v2:Value) (G:GS):Ref (s263 true e v0 v1 v2 G) ((E orc).cl 263 [v0,v1,v2] G) :=
 fun r hr=>cl_sxE_some Q orc (vs:=[v0,v1,v2]) G Tryz.func263 (by kernel_rfl) (by kernel_rfl) (by kernel_rfl) (by kernel_rfl) (by kernel_rfl) (by kernel_rfl) (m263 h v0 v1 v2 G r hr)
noncomputable def s264 (q:Bool) (e:Ex) (v0 v1:Value) (G:GS):Option (Value × GS) :=
 bP (pNil v0) fun x0 =>
 bP (fa Q q 338 0 0 x0) fun x1 =>
 bS (e.ev.cl 269 [x1,v1] G) fun x2 G3 =>
 bP (pNil v0) fun x4 =>
 bP (fa Q q 338 0 0 x4) fun x5 =>
 bP (fa Q q 335 3 5 x5) fun x6 =>
 bP (st Q q 3 1 x6 x2 G3) fun G7 =>
 bP (pNil v0) fun x8 =>
 bP (fa Q q 338 1 9 x8) fun x9 =>
 bP (st Q q 336 1 x9 (.func (.func 270) #[] #[]) G7) fun G10 =>
 some (.tuple #[],G10)
theorem m264 {e:Ex} {E:Ev} (h:ExLe Q e E) (v0 v1:Value) (G:GS):Ref (s264 true e v0 v1 G) (s264 false (Ex.of E) v0 v1 G):=by
 unfold s264
 exact Ref.gq
theorem f264 {orc:FuncId → Bool} {e:Ex} (h:ExLe Q e (E orc)) (v0 v1:Value) (G:GS):Ref (s264 true e v0 v1 G) ((E orc).cl 264 [v0,v1] G) :=
 fun r hr=>cl_sxE_some Q orc (vs:=[v0,v1]) G Tryz.func264 (by kernel_rfl) (by kernel_rfl) (by kernel_rfl) (by kernel_rfl) (by kernel_rfl) (by kernel_rfl) (m264 h v0 v1 G r hr)
noncomputable def s265 (q:Bool) (e:Ex) (v0 v1:Value) (G:GS):Option (Value × GS) :=
 bP (pNil v0) fun x0 =>
 bP (fa Q q 335 5 7 x0) fun x1 =>
 bP (st Q q 4 1 x1 (.bool true) G) fun G2 =>
 bP (pNil v0) fun x3 =>
 bP (fa Q q 335 6 8 x3) fun x4 =>
 bP (st Q q 26 1 x4 v1 G2) fun G5 =>
 some (.tuple #[],G5)
theorem m265 {e:Ex} {E:Ev} (h:ExLe Q e E) (v0 v1:Value) (G:GS):Ref (s265 true e v0 v1 G) (s265 false (Ex.of E) v0 v1 G):=by
 unfold s265
 exact Ref.gq
theorem f265 {orc:FuncId → Bool} {e:Ex} (h:ExLe Q e (E orc)) (v0 v1:Value) (G:GS):Ref (s265 true e v0 v1 G) ((E orc).cl 265 [v0,v1] G) :=
 fun r hr=>cl_sxE_some Q orc (vs:=[v0,v1]) G Tryz.func265 (by kernel_rfl) (by kernel_rfl) (by kernel_rfl) (by kernel_rfl) (by kernel_rfl) (by kernel_rfl) (m265 h v0 v1 G r hr)
noncomputable def s266 (q:Bool) (e:Ex) (v0 v1:Value) (G:GS):Option (Value × GS) :=
 bP (ep Q q false 318 (.tmp 5) (.const (.pointer none)) v0 (.pointer none)) fun x0 =>
 bS (gd x0 false (some (v0,G)) G) fun x1 G2 =>
 bS (gd x0 false (bP (pNil x1) fun y=>some (y,G2)) G2) fun x3 G4 =>
 bS (gd x0 false (bP (fa Q q 338 0 0 x3) fun y=>some (y,G4)) G4) fun x5 G6 =>
 bS (gd x0 false (bS (e.ev.cl 271 [x5] G6) fun y G=>some (y,G)) G6) fun x7 G8 =>
 bP (pickV x0 (.bool true) x7) fun x9 =>
 ifV x9 (
 some ((.bool true),G8)) (
 bP (pNil v0) fun x10 =>
 bP (fa Q q 338 1 9 x10) fun x11 =>
 bP (ld Q q 336 x11 G8) fun x12 =>
 bS (cValue e.ev x12 [v0,v1] G8) fun x13 G14 =>
 bP (pNil v0) fun x15 =>
 bP (fa Q q 338 0 0 x15) fun x16 =>
 bP (fa Q q 335 5 7 x16) fun x17 =>
 bP (ld Q q 4 x17 G14) fun x18 =>
 some (x18,G14))
theorem m266 {e:Ex} {E:Ev} (h:ExLe Q e E) (v0 v1:Value) (G:GS):Ref (s266 true e v0 v1 G) (s266 false (Ex.of E) v0 v1 G):=by
 unfold s266
 exact Ref.gq
theorem f266 {orc:FuncId → Bool} {e:Ex} (h:ExLe Q e (E orc)) (v0 v1:Value) (G:GS):Ref (s266 true e v0 v1 G) ((E orc).cl 266 [v0,v1] G) :=
 fun r hr=>cl_sxE_some Q orc (vs:=[v0,v1]) G Tryz.func266 (by kernel_rfl) (by kernel_rfl) (by kernel_rfl) (by kernel_rfl) (by kernel_rfl) (by kernel_rfl) (m266 h v0 v1 G r hr)
noncomputable def b267_0 (q:Bool) (e:Ex) (lp:Env → GS → Option (Exit × Env × GS)) (τ:Env) (G:GS):Option (Exit × Env × GS) :=
 bV q (τ 5) fun a5_ =>
 bV q (τ 6) fun a6_ =>
 bV q (τ 7) fun a7_ =>
 bP (bn Q q .lss 3 (.tmp 7) (.tmp 6) a7_ a6_) fun x0 =>
 ifV x0 (
 bP (ias Q q 346 3 a5_ a7_) fun x1 =>
 bP (lda Q q 341 3 x1 G) fun x2 =>
 bS (al Q q 341 z341 G) fun x3 G4 =>
 bP (st Q q 341 3 x3 x2 G4) fun G5 =>
 bP (fa Q q 341 0 0 x3) fun x6 =>
 bP (ld Q q 3 x6 G5) fun x7 =>
 bP (fa Q q 341 1 1 x3) fun x8 =>
 bP (ld Q q 3 x8 G5) fun x9 =>
 bP (bn Q q .lss 3 (.tmp 12) (.tmp 14) x7 x9) fun x10 =>
 bS (gd x10 false (bP (fa Q q 341 0 0 x3) fun y=>some (y,G5)) G5) fun x11 G12 =>
 bS (gd x10 false (bP (ld Q q 3 x11 G12) fun y=>some (y,G12)) G12) fun x13 G14 =>
 bS (gd x10 false (bP (fa Q q 341 2 2 x3) fun y=>some (y,G14)) G14) fun x15 G16 =>
 bS (gd x10 false (bP (ld Q q 3 x15 G16) fun y=>some (y,G16)) G16) fun x17 G18 =>
 bS (gd x10 false (bP (bn Q q .gtr 3 (.tmp 18) (.tmp 20) x13 x17) fun y=>some (y,G18)) G18) fun x19 G20 =>
 bP (pickV x10 (.bool true) x19) fun x21 =>
 ifV x21 (
 some (.ret,xq q 24 τ [(2,(.bool false)),(22,x21),(21,x19),(20,x17),(19,x15),(18,x13),(17,x11),(16,x10),(15,x10),(14,x9),(13,x8),(12,x7),(11,x6),(4,x3),(10,x2),(9,x1),(8,x0)] [(5,a5_),(6,a6_),(7,a7_)],G20)) (
 bP (bn Q q .add 3 (.tmp 7) (.const (.int .i64 1)) a7_ (.int .i64 1)) fun x22 =>
 lp (xq q 24 τ [(7,x22),(23,x22),(22,x21),(21,x19),(20,x17),(19,x15),(18,x13),(17,x11),(16,x10),(15,x10),(14,x9),(13,x8),(12,x7),(11,x6),(4,x3),(10,x2),(9,x1),(8,x0)] [(5,a5_),(6,a6_)]) G20)) (
 some ((.exit 0),xq q 24 τ [(8,x0)] [(5,a5_),(6,a6_),(7,a7_)],G))
theorem mb267_0 {e:Ex} {E:Ev} (h:ExLe Q e E) {lp lp':Env → GS → Option (Exit × Env × GS)} (hlp:LpLe lp lp') (τ:Env) (G:GS):Ref (b267_0 true e lp τ G) (b267_0 false (Ex.of E) lp' τ G):=by
 unfold b267_0
 exact Ref.gq
theorem l267_0 {orc:FuncId → Bool} {e:Ex} (h:ExLe Q e (E orc)) (lp:Env → GS → Option (Exit × Env × GS)) (hlp:∀ τ G,Ref (lp τ G) (mapE ((E orc).lp (subAt [1,0,1,0,0] (bodyOf Tryz.f267)) (lst 24 τ) G))) (T:List Value) (G:GS) (hT:T.length = 24):Ref (b267_0 true e lp (nth undef T) G) (mapE ((E orc).lp (subAt [1,0,1,0,0] (bodyOf Tryz.f267)) T G)) :=
 fun r hr=>lp_sxN Q orc G hT (by kernel_rfl) (mb267_0 h ⟨hlp⟩ _ _ r hr)
noncomputable def s267 (q:Bool) (e:Ex) (v0:Value) (G:GS):Option (Value × GS) :=
 bP (ln Q q 346 v0) fun x0 =>
 bLq q e 267 0 (subAt [1,0,1,0,0] (bodyOf Tryz.f267)) 24 (nth undef [v0]) [(7,(.int .i64 0)),(6,x0),(5,v0),(2,(.bool false))] [] G fun e1 t2 G3 =>
 bV q (t2 2) fun t2x2_ =>
 ifE e1 (.exit 0) (
 some ((.bool true),G3)) (ifE e1 .ret (
 some (t2x2_,G3)) (none))
theorem m267 {e:Ex} {E:Ev} (h:ExLe Q e E) (v0:Value) (G:GS):Ref (s267 true e v0 G) (s267 false (Ex.of E) v0 G):=by
 unfold s267
 exact Ref.gq
theorem f267 {orc:FuncId → Bool} {e:Ex} (h:ExLe Q e (E orc)) (v0:Value) (G:GS):Ref (s267 true e v0 G) ((E orc).cl 267 [v0] G) :=
 fun r hr=>cl_sxE_some Q orc (vs:=[v0]) G Tryz.func267 (by kernel_rfl) (by kernel_rfl) (by kernel_rfl) (by kernel_rfl) (by kernel_rfl) (by kernel_rfl) (m267 h v0 G r hr)
noncomputable def b268_0 (q:Bool) (e:Ex) (lp:Env → GS → Option (Exit × Env × GS)) (τ:Env) (G:GS):Option (Exit × Env × GS) :=
 bV q (τ 1) fun a1_ =>
 bV q (τ 5) fun a5_ =>
 bV q (τ 8) fun a8_ =>
 bV q (τ 9) fun a9_ =>
 bV q (τ 10) fun a10_ =>
 bP (bn Q q .lss 3 (.tmp 10) (.tmp 9) a10_ a9_) fun x0 =>
 ifV x0 (
 bP (ias Q q 343 2 a8_ a10_) fun x1 =>
 bP (lda Q q 307 2 x1 G) fun x2 =>
 bS (al Q q 307 z307 G) fun x3 G4 =>
 bP (st Q q 307 2 x3 x2 G4) fun G5 =>
 bP (lda Q q 307 2 x3 (G5.room 8)) fun x6 =>
 bP (ias Q q 52 1 a1_ a10_) fun x7 =>
 bP (ld Q q 3 x7 (G5.room 8)) fun x8 =>
 bS (e.ev.cl 272 [a5_,x6,x8] (G5.room 8)) fun x10 G9 =>
 bP (bn Q q .add 3 (.tmp 10) (.const (.int .i64 1)) a10_ (.int .i64 1)) fun x11 =>
 lp (xq q 24 τ [(10,x11),(22,x11),(5,x10),(21,x10),(20,x8),(19,x7),(18,a10_),(17,a1_),(16,x6),(15,a5_),(6,a10_),(7,x3),(14,x2),(13,x1),(12,a10_),(11,x0)] [(1,a1_),(8,a8_),(9,a9_)]) G9) (
 some ((.exit 0),xq q 24 τ [(11,x0)] [(1,a1_),(5,a5_),(8,a8_),(9,a9_),(10,a10_)],G))
theorem mb268_0 {e:Ex} {E:Ev} (h:ExLe Q e E) {lp lp':Env → GS → Option (Exit × Env × GS)} (hlp:LpLe lp lp') (τ:Env) (G:GS):Ref (b268_0 true e lp τ G) (b268_0 false (Ex.of E) lp' τ G):=by
 unfold b268_0
 exact Ref.gq
theorem l268_0 {orc:FuncId → Bool} {e:Ex} (h:ExLe Q e (E orc)) (lp:Env → GS → Option (Exit × Env × GS)) (hlp:∀ τ G,Ref (lp τ G) (mapE ((E orc).lp (subAt [1,1,0,1,0,0] (bodyOf Tryz.f268)) (lst 24 τ) G))) (T:List Value) (G:GS) (hT:T.length = 24):Ref (b268_0 true e lp (nth undef T) G) (mapE ((E orc).lp (subAt [1,1,0,1,0,0] (bodyOf Tryz.f268)) T G)) :=
 fun r hr=>lp_sxN Q orc G hT (by kernel_rfl) (mb268_0 h ⟨hlp⟩ _ _ r hr)
noncomputable def s268 (q:Bool) (e:Ex) (v0 v1:Value) (G:GS):Option (Value × GS) :=
 bP (ln Q q 343 v0) fun x0 =>
 bLq q e 268 0 (subAt [1,1,0,1,0,0] (bodyOf Tryz.f268)) 24 (nth undef [v0,v1]) [(10,(.int .i64 0)),(9,x0),(8,v0),(5,(.int .u64 0)),(4,(.int .u64 0))] [] G fun e1 t2 G3 =>
 bV q (t2 5) fun t2x5_ =>
 ifE e1 (.exit 0) (
 some (t2x5_,G3)) (none)
theorem m268 {e:Ex} {E:Ev} (h:ExLe Q e E) (v0 v1:Value) (G:GS):Ref (s268 true e v0 v1 G) (s268 false (Ex.of E) v0 v1 G):=by
 unfold s268
 exact Ref.gq
theorem f268 {orc:FuncId → Bool} {e:Ex} (h:ExLe Q e (E orc)) (v0 v1:Value) (G:GS):Ref (s268 true e v0 v1 G) ((E orc).cl 268 [v0,v1] G) :=
 fun r hr=>cl_sxE_some Q orc (vs:=[v0,v1]) G Tryz.func268 (by kernel_rfl) (by kernel_rfl) (by kernel_rfl) (by kernel_rfl) (by kernel_rfl) (by kernel_rfl) (m268 h v0 v1 G r hr)
noncomputable def s269 (q:Bool) (e:Ex) (v0 v1:Value) (G:GS):Option (Value × GS) :=
 bP (pNil v0) fun x0 =>
 bP (fa Q q 335 0 0 x0) fun x1 =>
 bP (fa Q q 67 0 0 x1) fun x2 =>
 bP (ld Q q 3 x2 G) fun x3 =>
 bS (e.ev.cl 199 [v1,x3] G) fun x4 G5 =>
 bP (pNil v0) fun x6 =>
 bP (fa Q q 335 1 3 x6) fun x7 =>
 bP (st Q q 39 1 x7 x4 G5) fun G8 =>
 bP (pNil v0) fun x9 =>
 bP (fa Q q 335 0 0 x9) fun x10 =>
 bP (lda Q q 67 3 x10 (G8.room 10)) fun x11 =>
 bP (pNil v0) fun x12 =>
 bP (fa Q q 335 1 3 x12) fun x13 =>
 bP (ld Q q 39 x13 (G8.room 10)) fun x14 =>
 bS (e.ev.cl 221 [x11,x14] (G8.room 10)) fun x16 G15 =>
 some (x16,G15)
theorem m269 {e:Ex} {E:Ev} (h:ExLe Q e E) (v0 v1:Value) (G:GS):Ref (s269 true e v0 v1 G) (s269 false (Ex.of E) v0 v1 G):=by
 unfold s269
 exact Ref.gq
theorem f269 {orc:FuncId → Bool} {e:Ex} (h:ExLe Q e (E orc)) (v0 v1:Value) (G:GS):Ref (s269 true e v0 v1 G) ((E orc).cl 269 [v0,v1] G) :=
 fun r hr=>cl_sxE_some Q orc (vs:=[v0,v1]) G Tryz.func269 (by kernel_rfl) (by kernel_rfl) (by kernel_rfl) (by kernel_rfl) (by kernel_rfl) (by kernel_rfl) (m269 h v0 v1 G r hr)
noncomputable def s270 (q:Bool) (e:Ex) (v0 v1:Value) (G:GS):Option (Value × GS) :=
 bP (pNil v0) fun x0 =>
 bP (fa Q q 338 0 0 x0) fun x1 =>
 bP (fa Q q 335 0 0 x1) fun x2 =>
 bP (fa Q q 67 1 1 x2) fun x3 =>
 bP (ld Q q 3 x3 (G.room 20)) fun x4 =>
 bP (pNil v0) fun x5 =>
 bP (fa Q q 338 0 0 x5) fun x6 =>
 bP (fa Q q 335 2 4 x6) fun x7 =>
 bP (ld Q q 3 x7 (G.room 20)) fun x8 =>
 bP (bn Q q .add 3 (.tmp 10) (.tmp 15) x4 x8) fun x9 =>
 bP (pNil v0) fun x10 =>
 bP (fa Q q 338 0 0 x10) fun x11 =>
 bP (fa Q q 335 3 5 x11) fun x12 =>
 bP (ld Q q 3 x12 (G.room 20)) fun x13 =>
 bS (e.ev.cl 254 [x13] (G.room 20)) fun x15 G14 =>
 chk ((sameO (ld Q q 3 x7 G14) x8 && (sameO (ld Q q 3 x3 G14) x4 && true))) <|
 bS (e.ev.cl 14 [v1,x9,x15] G14) fun x17 G16 =>
 bP (pNil v0) fun x18 =>
 bP (fa Q q 338 1 9 x18) fun x19 =>
 bP (st Q q 336 1 x19 (.func (.func 273) #[] #[]) G16) fun G20 =>
 some (.tuple #[],G20)
theorem m270 {e:Ex} {E:Ev} (h:ExLe Q e E) (v0 v1:Value) (G:GS):Ref (s270 true e v0 v1 G) (s270 false (Ex.of E) v0 v1 G):=by
 unfold s270
 exact Ref.gq
theorem f270 {orc:FuncId → Bool} {e:Ex} (h:ExLe Q e (E orc)) (v0 v1:Value) (G:GS):Ref (s270 true e v0 v1 G) ((E orc).cl 270 [v0,v1] G) :=
 fun r hr=>cl_sxE_some Q orc (vs:=[v0,v1]) G Tryz.func270 (by kernel_rfl) (by kernel_rfl) (by kernel_rfl) (by kernel_rfl) (by kernel_rfl) (by kernel_rfl) (m270 h v0 v1 G r hr)
noncomputable def s271 (q:Bool) (e:Ex) (v0:Value) (G:GS):Option (Value × GS) :=
 bP (ep Q q false 345 (.tmp 3) (.const (.pointer none)) v0 (.pointer none)) fun x0 =>
 bS (gd x0 false (some (v0,G)) G) fun x1 G2 =>
 bS (gd x0 false (bP (pNil x1) fun y=>some (y,G2)) G2) fun x3 G4 =>
 bS (gd x0 false (bP (fa Q q 335 4 6 x3) fun y=>some (y,G4)) G4) fun x5 G6 =>
 bS (gd x0 false (bP (ld Q q 4 x5 G6) fun y=>some (y,G6)) G6) fun x7 G8 =>
 bS (gd x0 false (bP (un Q q .not x7) fun y=>some (y,G8)) G8) fun x9 G10 =>
 bP (pickV x0 (.bool true) x9) fun x11 =>
 bS (gd x11 false (some (v0,G10)) G10) fun x12 G13 =>
 bS (gd x11 false (bP (pNil x12) fun y=>some (y,G13)) G13) fun x14 G15 =>
 bS (gd x11 false (bP (fa Q q 335 5 7 x14) fun y=>some (y,G15)) G15) fun x16 G17 =>
 bS (gd x11 false (bP (ld Q q 4 x16 G17) fun y=>some (y,G17)) G17) fun x18 G19 =>
 bP (pickV x11 (.bool true) x18) fun x20 =>
 some (x20,G19)
theorem m271 {e:Ex} {E:Ev} (h:ExLe Q e E) (v0:Value) (G:GS):Ref (s271 true e v0 G) (s271 false (Ex.of E) v0 G):=by
 unfold s271
 exact Ref.gq
theorem f271 {orc:FuncId → Bool} {e:Ex} (h:ExLe Q e (E orc)) (v0:Value) (G:GS):Ref (s271 true e v0 G) ((E orc).cl 271 [v0] G) :=
 fun r hr=>cl_sxE_some Q orc (vs:=[v0]) G Tryz.func271 (by kernel_rfl) (by kernel_rfl) (by kernel_rfl) (by kernel_rfl) (by kernel_rfl) (by kernel_rfl) (m271 h v0 G r hr)
noncomputable def s272 (q:Bool) (e:Ex) (v0 v1 v2:Value) (G:GS):Option (Value × GS) :=
 bS (bx q v1 G) fun x0 G1 =>
 bP (cv Q q 3 39 .i64 .u64 v2) fun x2 =>
 bP (fa Q q 307 0 0 x0) fun x3 =>
 bP (ld Q q 3 x3 G1) fun x4 =>
 bP (bn Q q .shl 39 (.tmp 9) (.tmp 11) x2 x4) fun x5 =>
 bP (bn Q q .or 310 (.tmp 7) (.tmp 12) v0 x5) fun x6 =>
 some (x6,G1)
theorem m272 {e:Ex} {E:Ev} (h:ExLe Q e E) (v0 v1 v2:Value) (G:GS):Ref (s272 true e v0 v1 v2 G) (s272 false (Ex.of E) v0 v1 v2 G):=by
 unfold s272
 exact Ref.gq
theorem f272 {orc:FuncId → Bool} {e:Ex} (h:ExLe Q e (E orc)) (v0 v1 v2:Value) (G:GS):Ref (s272 true e v0 v1 v2 G) ((E orc).cl 272 [v0,v1,v2] G) :=
 fun r hr=>cl_sxE_some Q orc (vs:=[v0,v1,v2]) G Tryz.func272 (by kernel_rfl) (by kernel_rfl) (by kernel_rfl) (by kernel_rfl) (by kernel_rfl) (by kernel_rfl) (m272 h v0 v1 v2 G r hr)
noncomputable def s273 (q:Bool) (e:Ex) (v0 v1:Value) (G:GS):Option (Value × GS) :=
 bP (pNil v0) fun x0 =>
 bP (fa Q q 338 1 9 x0) fun x1 =>
 bP (st Q q 336 1 x1 (.func (.func 264) #[] #[]) G) fun G2 =>
 bP (pNil v0) fun x3 =>
 bP (fa Q q 338 0 0 x3) fun x4 =>
 bP (pNil v0) fun x5 =>
 bP (fa Q q 338 0 0 x5) fun x6 =>
 bP (fa Q q 335 2 4 x6) fun x7 =>
 bP (ld Q q 3 x7 (G2.room 10)) fun x8 =>
 bS (e.ev.cl 274 [x4,v1,x8] (G2.room 10)) fun x10 G9 =>
 ifV x10 (
 bP (pNil v0) fun x11 =>
 bP (fa Q q 338 0 0 x11) fun x12 =>
 bS (e.ev.cl 265 [x12,(.int .i64 0)] G9) fun x13 G14 =>
 some (.tuple #[],G14)) (
 some (.tuple #[],G9))
theorem m273 {e:Ex} {E:Ev} (h:ExLe Q e E) (v0 v1:Value) (G:GS):Ref (s273 true e v0 v1 G) (s273 false (Ex.of E) v0 v1 G):=by
 unfold s273
 exact Ref.gq
theorem f273 {orc:FuncId → Bool} {e:Ex} (h:ExLe Q e (E orc)) (v0 v1:Value) (G:GS):Ref (s273 true e v0 v1 G) ((E orc).cl 273 [v0,v1] G) :=
 fun r hr=>cl_sxE_some Q orc (vs:=[v0,v1]) G Tryz.func273 (by kernel_rfl) (by kernel_rfl) (by kernel_rfl) (by kernel_rfl) (by kernel_rfl) (by kernel_rfl) (m273 h v0 v1 G r hr)
noncomputable def s274 (q:Bool) (e:Ex) (v0 v1 v2:Value) (G:GS):Option (Value × GS) :=
 bP (pNil v0) fun x0 =>
 bP (fa Q q 335 1 3 x0) fun x1 =>
 bP (ld Q q 39 x1 G) fun x2 =>
 bS (e.ev.cl 200 [x2] G) fun x3 G4 =>
 bP (pExtract x3 0) fun x5 =>
 bP (pExtract x3 1) fun x6 =>
 bS (al Q q 270 z270 G4) fun x7 G8 =>
 bP (st Q q 270 2 x7 x5 G8) fun G9 =>
 bP (fa Q q 270 1 1 x7) fun x10 =>
 bP (ld Q q 3 x10 G9) fun x11 =>
 bP (bn Q q .add 3 (.tmp 22) (.const (.int .i64 1)) x11 (.int .i64 1)) fun x12 =>
 bP (bn Q q .and 3 (.tmp 23) (.const (.int .i64 281474976710655)) x12 (.int .i64 281474976710655)) fun x13 =>
 bP (bd Q q 270 z270 [(0,0,1),(1,1,1)] [v2,x13]) fun x14 =>
 bS (e.ev.cl 262 [x14] G9) fun x15 G16 =>
 bP (pExtract x15 0) fun x17 =>
 bP (pExtract x15 1) fun x18 =>
 bP (pNil v0) fun x19 =>
 bP (fa Q q 335 0 0 x19) fun x20 =>
 bP (fa Q q 67 0 0 x20) fun x21 =>
 bP (ld Q q 3 x21 (G16.room 13)) fun x22 =>
 bP (pNil v0) fun x23 =>
 bP (fa Q q 335 1 3 x23) fun x24 =>
 bP (ld Q q 39 x24 (G16.room 13)) fun x25 =>
 bS (e.ev.cl 157 [v1,x22,x25,x17] (G16.room 13)) fun x27 G26 =>
 some (x27,G26)
theorem m274 {e:Ex} {E:Ev} (h:ExLe Q e E) (v0 v1 v2:Value) (G:GS):Ref (s274 true e v0 v1 v2 G) (s274 false (Ex.of E) v0 v1 v2 G):=by
 unfold s274
 exact Ref.gq
theorem f274 {orc:FuncId → Bool} {e:Ex} (h:ExLe Q e (E orc)) (v0 v1 v2:Value) (G:GS):Ref (s274 true e v0 v1 v2 G) ((E orc).cl 274 [v0,v1,v2] G) :=
 fun r hr=>cl_sxE_some Q orc (vs:=[v0,v1,v2]) G Tryz.func274 (by kernel_rfl) (by kernel_rfl) (by kernel_rfl) (by kernel_rfl) (by kernel_rfl) (by kernel_rfl) (m274 h v0 v1 v2 G r hr)
noncomputable def s296 (q:Bool) (e:Ex) (v0:Value) (G:GS):Option (Value × GS) :=
 bP (bn Q q .add 3 (.const (.int .i64 4)) (.tmp 3) (.int .i64 4) v0) fun x0 =>
 some (x0,G)
theorem m296 {e:Ex} {E:Ev} (h:ExLe Q e E) (v0:Value) (G:GS):Ref (s296 true e v0 G) (s296 false (Ex.of E) v0 G):=by
 unfold s296
 exact Ref.gq
theorem f296 {orc:FuncId → Bool} {e:Ex} (h:ExLe Q e (E orc)) (v0:Value) (G:GS):Ref (s296 true e v0 G) ((E orc).cl 296 [v0] G) :=
 fun r hr=>cl_sxE_some Q orc (vs:=[v0]) G Tryz.func296 (by kernel_rfl) (by kernel_rfl) (by kernel_rfl) (by kernel_rfl) (by kernel_rfl) (by kernel_rfl) (m296 h v0 G r hr)
noncomputable def s297 (q:Bool) (e:Ex) (v0:Value) (G:GS):Option (Value × GS) :=
 some (v0,G)
theorem m297 {e:Ex} {E:Ev} (h:ExLe Q e E) (v0:Value) (G:GS):Ref (s297 true e v0 G) (s297 false (Ex.of E) v0 G):=by
 unfold s297
 exact Ref.gq
theorem f297 {orc:FuncId → Bool} {e:Ex} (h:ExLe Q e (E orc)) (v0:Value) (G:GS):Ref (s297 true e v0 G) ((E orc).cl 297 [v0] G) :=
 fun r hr=>cl_sxE_some Q orc (vs:=[v0]) G Tryz.func297 (by kernel_rfl) (by kernel_rfl) (by kernel_rfl) (by kernel_rfl) (by kernel_rfl) (by kernel_rfl) (m297 h v0 G r hr)
end Go.Proofs.YtaanpcoglijohaaGreat.Lift
