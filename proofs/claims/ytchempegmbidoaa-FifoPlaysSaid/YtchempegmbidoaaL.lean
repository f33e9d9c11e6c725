/- the program's code, spelled out by a program of ours (lift.lean) -/
import Derived.Test.YtchempegmbidoaaProg
import Derived.Test.YtchempegmbidoaaGhP
import Derived.KernelRfl
namespace Go.Proofs.Ytchempegmbidoaa.Lift
open Go Go.Proofs.Ytchempegmbidoaa.Gh Go.Proofs
set_option linter.unusedVariables false
set_option maxRecDepth 100000
@[reducible] noncomputable def Q : Program := Try.prog
@[reducible] noncomputable def E (orc : FuncId → Bool) : Ev := evL Try.prog orc
@[simp] theorem ln_22 (a : Option Addr) (n c : Nat) : gLen Q 22 (.slice a n c) = some (.int .i64 n) := Eq.trans (by kernel_rfl) rfl
@[simp] theorem ia_22 (b o : Nat) (s : Option Nat) (n c : Nat) (k : IntKind) (j : Int) : gIndexAddr Q 22 (.slice (some ⟨b, o, s⟩) n c) (.int k j) = if 0 ≤ j ∧ j < n then some (.pointer (some ⟨b, o + j.toNat * 1, none⟩)) else none := Eq.trans (by kernel_rfl) rfl
@[simp] theorem ld_3 (b o : Nat) (s : Option Nat) (G : GS) : gLoadF Q 3 (.pointer (some ⟨b, o, s⟩)) G = G.cell b o := (show _ = loadOne b o G by kernel_rfl).trans (loadOne_eq b o G)
@[simp] theorem ln_30 (a : Option Addr) (n c : Nat) : gLen Q 30 (.slice a n c) = some (.int .i64 n) := Eq.trans (by kernel_rfl) rfl
@[simp] theorem eql_31_nn (x y : Operand) : gBinF Q .eql 31 x y (.pointer none) (.pointer none) = some (.bool true) := Eq.trans (by kernel_rfl) rfl
@[simp] theorem eql_31_sn (x y : Operand) (a : Addr) : gBinF Q .eql 31 x y (.pointer (some a)) (.pointer none) = some (.bool false) := Eq.trans (by kernel_rfl) rfl
@[simp] theorem eql_31_ns (x y : Operand) (a : Addr) : gBinF Q .eql 31 x y (.pointer none) (.pointer (some a)) = some (.bool false) := Eq.trans (by kernel_rfl) rfl
@[simp] theorem eql_35_nn (x y : Operand) : gBinF Q .eql 35 x y (.pointer none) (.pointer none) = some (.bool true) := Eq.trans (by kernel_rfl) rfl
@[simp] theorem eql_35_sn (x y : Operand) (a : Addr) : gBinF Q .eql 35 x y (.pointer (some a)) (.pointer none) = some (.bool false) := Eq.trans (by kernel_rfl) rfl
@[simp] theorem eql_35_ns (x y : Operand) (a : Addr) : gBinF Q .eql 35 x y (.pointer none) (.pointer (some a)) = some (.bool false) := Eq.trans (by kernel_rfl) rfl
@[simp] theorem neq_4 (x y : Operand) (a b : Bool) : gBinF Q .neq 4 x y (.bool a) (.bool b) = some (.bool (a != b)) := by cases a <;> cases b <;> kernel_rfl
@[simp] theorem neq_35_nn (x y : Operand) : gBinF Q .neq 35 x y (.pointer none) (.pointer none) = some (.bool false) := Eq.trans (by kernel_rfl) rfl
@[simp] theorem neq_35_sn (x y : Operand) (a : Addr) : gBinF Q .neq 35 x y (.pointer (some a)) (.pointer none) = some (.bool true) := Eq.trans (by kernel_rfl) rfl
@[simp] theorem neq_35_ns (x y : Operand) (a : Addr) : gBinF Q .neq 35 x y (.pointer none) (.pointer (some a)) = some (.bool true) := Eq.trans (by kernel_rfl) rfl
@[simp] theorem ia_30 (b o : Nat) (s : Option Nat) (n c : Nat) (k : IntKind) (j : Int) : gIndexAddr Q 30 (.slice (some ⟨b, o, s⟩) n c) (.int k j) = if 0 ≤ j ∧ j < n then some (.pointer (some ⟨b, o + j.toNat * 2, none⟩)) else none := Eq.trans (by kernel_rfl) rfl
@[simp] theorem fa_39_0 (b o : Nat) (s : Option Nat) : gFieldAddr Q 39 (.pointer (some ⟨b, o, s⟩)) 0 = some (.pointer (some ⟨b, o + 0, none⟩)) := Eq.trans (by kernel_rfl) rfl
@[simp] theorem fa_39_1 (b o : Nat) (s : Option Nat) : gFieldAddr Q 39 (.pointer (some ⟨b, o, s⟩)) 1 = some (.pointer (some ⟨b, o + 1, none⟩)) := Eq.trans (by kernel_rfl) rfl
@[simp] theorem bd_46_ : gBuild Q 46 [] = fillL [(.pointer none)] [] := Eq.trans (by kernel_rfl) rfl
@[simp] theorem bs_47_2_0_1 (v0 v1 : Value) (G : GS) : mBuildV Q 47 2 [(0, v0), (1, v1)] G = fillS [(.pointer none), (.pointer none)] [(0, 1, v0), (1, 1, v1)] 2 1 G := Eq.trans (by kernel_rfl) rfl
@[simp] theorem ln_47 (a : Option Addr) (n c : Nat) : gLen Q 47 (.slice a n c) = some (.int .i64 n) := Eq.trans (by kernel_rfl) rfl
@[simp] theorem ia_47 (b o : Nat) (s : Option Nat) (n c : Nat) (k : IntKind) (j : Int) : gIndexAddr Q 47 (.slice (some ⟨b, o, s⟩) n c) (.int k j) = if 0 ≤ j ∧ j < n then some (.pointer (some ⟨b, o + j.toNat * 1, none⟩)) else none := Eq.trans (by kernel_rfl) rfl
@[simp] theorem ld_31 (b o : Nat) (s : Option Nat) (G : GS) : gLoadF Q 31 (.pointer (some ⟨b, o, s⟩)) G = G.cell b o := (show _ = loadOne b o G by kernel_rfl).trans (loadOne_eq b o G)
@[simp] theorem neq_31_nn (x y : Operand) : gBinF Q .neq 31 x y (.pointer none) (.pointer none) = some (.bool false) := Eq.trans (by kernel_rfl) rfl
@[simp] theorem neq_31_sn (x y : Operand) (a : Addr) : gBinF Q .neq 31 x y (.pointer (some a)) (.pointer none) = some (.bool true) := Eq.trans (by kernel_rfl) rfl
@[simp] theorem neq_31_ns (x y : Operand) (a : Addr) : gBinF Q .neq 31 x y (.pointer none) (.pointer (some a)) = some (.bool true) := Eq.trans (by kernel_rfl) rfl
@[simp] theorem bs_22_4_0_1_2_3 (v0 v1 v2 v3 : Value) (G : GS) : mBuildV Q 22 4 [(0, v0), (1, v1), (2, v2), (3, v3)] G = fillS [(.int .i64 0), (.int .i64 0), (.int .i64 0), (.int .i64 0)] [(0, 1, v0), (1, 1, v1), (2, 1, v2), (3, 1, v3)] 4 1 G := Eq.trans (by kernel_rfl) rfl
@[simp] theorem mk_22 (k k' : IntKind) (l c : Int) (G : GS) : mMake Q 22 (.int k l) (.int k' c) G = mkK 1 8 [(.int .i64 0)] l c G := Eq.trans (by kernel_rfl) rfl
@[simp] theorem bs_22_3_0_1_2 (v0 v1 v2 : Value) (G : GS) : mBuildV Q 22 3 [(0, v0), (1, v1), (2, v2)] G = fillS [(.int .i64 0), (.int .i64 0), (.int .i64 0)] [(0, 1, v0), (1, 1, v1), (2, 1, v2)] 3 1 G := Eq.trans (by kernel_rfl) rfl
@[simp] theorem ln_50 (a : Option Addr) (n c : Nat) : gLen Q 50 (.slice a n c) = some (.int .i64 n) := Eq.trans (by kernel_rfl) rfl
@[simp] theorem ld_53 (b o : Nat) (s : Option Nat) (G : GS) : gLoadF Q 53 (.pointer (some ⟨b, o, s⟩)) G = loadA 4 b o G := Eq.trans (by kernel_rfl) rfl
@[simp] theorem al_55 (G : GS) : mAlloc Q 55 G = some (.pointer (some ⟨G.nx, 0, none⟩), newBlk G [(.int .i64 0), (.int .i64 0), (.int .u64 0)] 1) := Eq.trans (by kernel_rfl) rfl
@[simp] theorem st_55 (b o : Nat) (s : Option Nat) (v : Value) (G : GS) : gStore Q 55 (.pointer (some ⟨b, o, s⟩)) v G = storeN 3 b o v G := Eq.trans (by kernel_rfl) rfl
@[simp] theorem ld_55 (b o : Nat) (s : Option Nat) (G : GS) : gLoadF Q 55 (.pointer (some ⟨b, o, s⟩)) G = loadA 3 b o G := Eq.trans (by kernel_rfl) rfl
@[simp] theorem eql_4 (x y : Operand) (a b : Bool) : gBinF Q .eql 4 x y (.bool a) (.bool b) = some (.bool (a == b)) := by cases a <;> cases b <;> kernel_rfl
@[simp] theorem ln_65 (a : Option Addr) (n c : Nat) : gLen Q 65 (.slice a n c) = some (.int .i64 n) := Eq.trans (by kernel_rfl) rfl
@[simp] theorem bs_50_2_0_1 (v0 v1 : Value) (G : GS) : mBuildV Q 50 2 [(0, v0), (1, v1)] G = fillS [(.int .u64 0), (.int .u64 0)] [(0, 1, v0), (1, 1, v1)] 2 1 G := Eq.trans (by kernel_rfl) rfl
@[simp] theorem bs_50_1_0 (v0 : Value) (G : GS) : mBuildV Q 50 1 [(0, v0)] G = fillS [(.int .u64 0)] [(0, 1, v0)] 1 1 G := Eq.trans (by kernel_rfl) rfl
@[simp] theorem bs_65_7_0_1_2_3_4_5_6 (v0 v1 v2 v3 v4 v5 v6 : Value) (G : GS) : mBuildV Q 65 7 [(0, v0), (1, v1), (2, v2), (3, v3), (4, v4), (5, v5), (6, v6)] G = fillS [(.int .i64 0), (.int .i64 0), (.int .i64 0), (.int .u64 0), (.int .i64 0), (.int .i64 0), (.int .i64 0), (.int .u64 0), (.int .i64 0), (.int .i64 0), (.int .i64 0), (.int .u64 0), (.int .i64 0), (.int .i64 0), (.int .i64 0), (.int .u64 0), (.int .i64 0), (.int .i64 0), (.int .i64 0), (.int .u64 0), (.int .i64 0), (.int .i64 0), (.int .i64 0), (.int .u64 0), (.int .i64 0), (.int .i64 0), (.int .i64 0), (.int .u64 0)] [(0, 4, v0), (4, 4, v1), (8, 4, v2), (12, 4, v3), (16, 4, v4), (20, 4, v5), (24, 4, v6)] 7 4 G := Eq.trans (by kernel_rfl) rfl
@[simp] theorem bd_55_ : gBuild Q 55 [] = fillL [(.int .i64 0), (.int .i64 0), (.int .u64 0)] [] := Eq.trans (by kernel_rfl) rfl
@[simp] theorem bd_55_0 (v0 : Value) : gBuild Q 55 [(0, v0)] = fillL [(.int .i64 0), (.int .i64 0), (.int .u64 0)] [(0, 1, v0)] := Eq.trans (by kernel_rfl) rfl
@[simp] theorem bd_55_2 (v0 : Value) : gBuild Q 55 [(2, v0)] = fillL [(.int .i64 0), (.int .i64 0), (.int .u64 0)] [(2, 1, v0)] := Eq.trans (by kernel_rfl) rfl
@[simp] theorem bs_67_7_0_1_2_3_4_5_6 (v0 v1 v2 v3 v4 v5 v6 : Value) (G : GS) : mBuildV Q 67 7 [(0, v0), (1, v1), (2, v2), (3, v3), (4, v4), (5, v5), (6, v6)] G = fillS [(.int .i64 0), (.int .i64 0), (.int .u64 0), (.int .i64 0), (.int .i64 0), (.int .u64 0), (.int .i64 0), (.int .i64 0), (.int .u64 0), (.int .i64 0), (.int .i64 0), (.int .u64 0), (.int .i64 0), (.int .i64 0), (.int .u64 0), (.int .i64 0), (.int .i64 0), (.int .u64 0), (.int .i64 0), (.int .i64 0), (.int .u64 0)] [(0, 3, v0), (3, 3, v1), (6, 3, v2), (9, 3, v3), (12, 3, v4), (15, 3, v5), (18, 3, v6)] 7 3 G := Eq.trans (by kernel_rfl) rfl
@[simp] theorem ln_67 (a : Option Addr) (n c : Nat) : gLen Q 67 (.slice a n c) = some (.int .i64 n) := Eq.trans (by kernel_rfl) rfl
@[simp] theorem ia_65 (b o : Nat) (s : Option Nat) (n c : Nat) (k : IntKind) (j : Int) : gIndexAddr Q 65 (.slice (some ⟨b, o, s⟩) n c) (.int k j) = if 0 ≤ j ∧ j < n then some (.pointer (some ⟨b, o + j.toNat * 4, none⟩)) else none := Eq.trans (by kernel_rfl) rfl
@[simp] theorem fa_53_0 (b o : Nat) (s : Option Nat) : gFieldAddr Q 53 (.pointer (some ⟨b, o, s⟩)) 0 = some (.pointer (some ⟨b, o + 0, none⟩)) := Eq.trans (by kernel_rfl) rfl
@[simp] theorem ia_67 (b o : Nat) (s : Option Nat) (n c : Nat) (k : IntKind) (j : Int) : gIndexAddr Q 67 (.slice (some ⟨b, o, s⟩) n c) (.int k j) = if 0 ≤ j ∧ j < n then some (.pointer (some ⟨b, o + j.toNat * 3, none⟩)) else none := Eq.trans (by kernel_rfl) rfl
@[simp] theorem fa_55_0 (b o : Nat) (s : Option Nat) : gFieldAddr Q 55 (.pointer (some ⟨b, o, s⟩)) 0 = some (.pointer (some ⟨b, o + 0, none⟩)) := Eq.trans (by kernel_rfl) rfl
@[simp] theorem ld_32 (b o : Nat) (s : Option Nat) (G : GS) : gLoadF Q 32 (.pointer (some ⟨b, o, s⟩)) G = G.cell b o := (show _ = loadOne b o G by kernel_rfl).trans (loadOne_eq b o G)
@[simp] theorem fa_53_3 (b o : Nat) (s : Option Nat) : gFieldAddr Q 53 (.pointer (some ⟨b, o, s⟩)) 3 = some (.pointer (some ⟨b, o + 3, none⟩)) := Eq.trans (by kernel_rfl) rfl
@[simp] theorem ld_51 (b o : Nat) (s : Option Nat) (G : GS) : gLoadF Q 51 (.pointer (some ⟨b, o, s⟩)) G = G.cell b o := (show _ = loadOne b o G by kernel_rfl).trans (loadOne_eq b o G)
@[simp] theorem ap_50_50 (s x : Value) (G : GS) : gAppend Q 50 50 s x G = appK 1 8 s x G := Eq.trans (by kernel_rfl) rfl
@[simp] theorem fa_55_2 (b o : Nat) (s : Option Nat) : gFieldAddr Q 55 (.pointer (some ⟨b, o, s⟩)) 2 = some (.pointer (some ⟨b, o + 2, none⟩)) := Eq.trans (by kernel_rfl) rfl
@[simp] theorem ia_50 (b o : Nat) (s : Option Nat) (n c : Nat) (k : IntKind) (j : Int) : gIndexAddr Q 50 (.slice (some ⟨b, o, s⟩) n c) (.int k j) = if 0 ≤ j ∧ j < n then some (.pointer (some ⟨b, o + j.toNat * 1, none⟩)) else none := Eq.trans (by kernel_rfl) rfl
@[simp] theorem sl_50 (a : Option Addr) (n c : Nat) (lo hi mx : Option Value) (G : GS) : gSlice Q 50 (.slice a n c) lo hi mx G = slK 1 (.slice a n c) lo hi mx G := sl_eq Q (e := 51) (by kernel_rfl) (by kernel_rfl) a n c lo hi mx G
@[simp] theorem bs_22_0_ (G : GS) : mBuildV Q 22 0 [] G = fillS [] [] 0 1 G := Eq.trans (by kernel_rfl) rfl
@[simp] theorem ap_22_22 (s x : Value) (G : GS) : gAppend Q 22 22 s x G = appK 1 8 s x G := Eq.trans (by kernel_rfl) rfl
@[simp] theorem bs_22_1_0 (v0 : Value) (G : GS) : mBuildV Q 22 1 [(0, v0)] G = fillS [(.int .i64 0)] [(0, 1, v0)] 1 1 G := Eq.trans (by kernel_rfl) rfl
@[simp] theorem st_3 (b o : Nat) (s : Option Nat) (v : Value) (G : GS) : gStore Q 3 (.pointer (some ⟨b, o, s⟩)) v G = storeN 1 b o v G := Eq.trans (by kernel_rfl) rfl
@[simp] theorem cv_3_51 (n : Int) : pConv Q 3 51 (.int .i64 n) = some (.int .u64 (IntKind.wrap .u64 n)) := Eq.trans (by kernel_rfl) rfl
@[simp] theorem bd_79_0 (v0 : Value) : gBuild Q 79 [(0, v0)] = fillL [(.slice none 0 0), (.int .i64 0)] [(0, 1, v0)] := Eq.trans (by kernel_rfl) rfl
@[simp] theorem bd_46_0 (v0 : Value) : gBuild Q 46 [(0, v0)] = fillL [(.pointer none)] [(0, 1, v0)] := Eq.trans (by kernel_rfl) rfl
@[simp] theorem bd_81_0 (v0 : Value) : gBuild Q 81 [(0, v0)] = fillL [(.slice none 0 0), (.int .i64 0)] [(0, 1, v0)] := Eq.trans (by kernel_rfl) rfl
@[simp] theorem al_3 (G : GS) : mAlloc Q 3 G = some (.pointer (some ⟨G.nx, 0, none⟩), newBlk G [(.int .i64 0)] 1) := Eq.trans (by kernel_rfl) rfl
@[simp] theorem fa_81_1 (b o : Nat) (s : Option Nat) : gFieldAddr Q 81 (.pointer (some ⟨b, o, s⟩)) 1 = some (.pointer (some ⟨b, o + 1, none⟩)) := Eq.trans (by kernel_rfl) rfl
@[simp] theorem fa_81_0 (b o : Nat) (s : Option Nat) : gFieldAddr Q 81 (.pointer (some ⟨b, o, s⟩)) 0 = some (.pointer (some ⟨b, o + 0, none⟩)) := Eq.trans (by kernel_rfl) rfl
@[simp] theorem ld_22 (b o : Nat) (s : Option Nat) (G : GS) : gLoadF Q 22 (.pointer (some ⟨b, o, s⟩)) G = G.cell b o := (show _ = loadOne b o G by kernel_rfl).trans (loadOne_eq b o G)
@[simp] theorem fa_46_0 (b o : Nat) (s : Option Nat) : gFieldAddr Q 46 (.pointer (some ⟨b, o, s⟩)) 0 = some (.pointer (some ⟨b, o + 0, none⟩)) := Eq.trans (by kernel_rfl) rfl
@[simp] theorem ld_44 (b o : Nat) (s : Option Nat) (G : GS) : gLoadF Q 44 (.pointer (some ⟨b, o, s⟩)) G = G.cell b o := (show _ = loadOne b o G by kernel_rfl).trans (loadOne_eq b o G)
@[simp] theorem ld_79 (b o : Nat) (s : Option Nat) (G : GS) : gLoadF Q 79 (.pointer (some ⟨b, o, s⟩)) G = loadA 2 b o G := Eq.trans (by kernel_rfl) rfl
@[simp] theorem al_79 (G : GS) : mAlloc Q 79 G = some (.pointer (some ⟨G.nx, 0, none⟩), newBlk G [(.slice none 0 0), (.int .i64 0)] 1) := Eq.trans (by kernel_rfl) rfl
@[simp] theorem st_79 (b o : Nat) (s : Option Nat) (v : Value) (G : GS) : gStore Q 79 (.pointer (some ⟨b, o, s⟩)) v G = storeN 2 b o v G := Eq.trans (by kernel_rfl) rfl
@[simp] theorem fa_79_0 (b o : Nat) (s : Option Nat) : gFieldAddr Q 79 (.pointer (some ⟨b, o, s⟩)) 0 = some (.pointer (some ⟨b, o + 0, none⟩)) := Eq.trans (by kernel_rfl) rfl
@[simp] theorem fa_79_1 (b o : Nat) (s : Option Nat) : gFieldAddr Q 79 (.pointer (some ⟨b, o, s⟩)) 1 = some (.pointer (some ⟨b, o + 1, none⟩)) := Eq.trans (by kernel_rfl) rfl
@[simp] theorem bs_50_0_ (G : GS) : mBuildV Q 50 0 [] G = fillS [] [] 0 1 G := Eq.trans (by kernel_rfl) rfl
@[simp] theorem st_51 (b o : Nat) (s : Option Nat) (v : Value) (G : GS) : gStore Q 51 (.pointer (some ⟨b, o, s⟩)) v G = storeN 1 b o v G := Eq.trans (by kernel_rfl) rfl
@[simp] theorem bs_65_0_ (G : GS) : mBuildV Q 65 0 [] G = fillS [] [] 0 4 G := Eq.trans (by kernel_rfl) rfl
@[simp] theorem ap_65_65 (s x : Value) (G : GS) : gAppend Q 65 65 s x G = appK 4 32 s x G := Eq.trans (by kernel_rfl) rfl
@[simp] theorem al_91 (G : GS) : mAlloc Q 91 G = some (.pointer (some ⟨G.nx, 0, none⟩), newBlk G (zs 1024 (.int .u64 0) ++ [(.int .i64 0), (.int .i64 0)]) 1) := Eq.trans (by kernel_rfl) rfl
@[simp] theorem al_53 (G : GS) : mAlloc Q 53 G = some (.pointer (some ⟨G.nx, 0, none⟩), newBlk G [(.int .i64 0), (.int .i64 0), (.int .i64 0), (.int .u64 0)] 1) := Eq.trans (by kernel_rfl) rfl
@[simp] theorem st_53 (b o : Nat) (s : Option Nat) (v : Value) (G : GS) : gStore Q 53 (.pointer (some ⟨b, o, s⟩)) v G = storeN 4 b o v G := Eq.trans (by kernel_rfl) rfl
@[simp] theorem ld_91 (b o : Nat) (s : Option Nat) (G : GS) : gLoadF Q 91 (.pointer (some ⟨b, o, s⟩)) G = loadA 1026 b o G := Eq.trans (by kernel_rfl) rfl
@[simp] theorem bs_67_1_0 (v0 : Value) (G : GS) : mBuildV Q 67 1 [(0, v0)] G = fillS [(.int .i64 0), (.int .i64 0), (.int .u64 0)] [(0, 3, v0)] 1 3 G := Eq.trans (by kernel_rfl) rfl
@[simp] theorem ap_67_67 (s x : Value) (G : GS) : gAppend Q 67 67 s x G = appK 3 24 s x G := Eq.trans (by kernel_rfl) rfl
@[simp] theorem st_91 (b o : Nat) (s : Option Nat) (v : Value) (G : GS) : gStore Q 91 (.pointer (some ⟨b, o, s⟩)) v G = storeN 1026 b o v G := Eq.trans (by kernel_rfl) rfl
@[simp] theorem bd_55_1 (v0 : Value) : gBuild Q 55 [(1, v0)] = fillL [(.int .i64 0), (.int .i64 0), (.int .u64 0)] [(1, 1, v0)] := Eq.trans (by kernel_rfl) rfl
@[simp] theorem bd_53_0_3 (v0 v1 : Value) : gBuild Q 53 [(0, v0), (3, v1)] = fillL [(.int .i64 0), (.int .i64 0), (.int .i64 0), (.int .u64 0)] [(0, 1, v0), (3, 1, v1)] := Eq.trans (by kernel_rfl) rfl
@[simp] theorem bd_55_0_2 (v0 v1 : Value) : gBuild Q 55 [(0, v0), (2, v1)] = fillL [(.int .i64 0), (.int .i64 0), (.int .u64 0)] [(0, 1, v0), (2, 1, v1)] := Eq.trans (by kernel_rfl) rfl
@[simp] theorem eql_22_nn (x y : Operand) : gBinF Q .eql 22 x y (.slice none 0 0) (.slice none 0 0) = some (.bool true) := Eq.trans (by kernel_rfl) rfl
@[simp] theorem eql_22_sn (x y : Operand) (a : Addr) (n c : Nat) : gBinF Q .eql 22 x y (.slice (some a) n c) (.slice none 0 0) = some (.bool false) := Eq.trans (by kernel_rfl) rfl
@[simp] theorem eql_44_nn (x y : Operand) : gBinF Q .eql 44 x y (.pointer none) (.pointer none) = some (.bool true) := Eq.trans (by kernel_rfl) rfl
@[simp] theorem eql_44_sn (x y : Operand) (a : Addr) : gBinF Q .eql 44 x y (.pointer (some a)) (.pointer none) = some (.bool false) := Eq.trans (by kernel_rfl) rfl
@[simp] theorem eql_44_ns (x y : Operand) (a : Addr) : gBinF Q .eql 44 x y (.pointer none) (.pointer (some a)) = some (.bool false) := Eq.trans (by kernel_rfl) rfl
@[simp] theorem fa_91_2 (b o : Nat) (s : Option Nat) : gFieldAddr Q 91 (.pointer (some ⟨b, o, s⟩)) 2 = some (.pointer (some ⟨b, o + 1025, none⟩)) := Eq.trans (by kernel_rfl) rfl
@[simp] theorem fa_91_0 (b o : Nat) (s : Option Nat) : gFieldAddr Q 91 (.pointer (some ⟨b, o, s⟩)) 0 = some (.pointer (some ⟨b, o + 0, none⟩)) := Eq.trans (by kernel_rfl) rfl
@[simp] theorem sl_89 (a : Addr) (lo hi mx : Option Value) (G : GS) : gSlice Q 89 (.pointer (some a)) lo hi mx G = slA 1024 1 (.pointer (some a)) lo hi mx := Eq.trans (by kernel_rfl) rfl
@[simp] theorem cp_50 (d s : Value) (G : GS) : gCopy Q 50 d s G = cpK 1 d s G := Eq.trans (by kernel_rfl) rfl
@[simp] theorem fa_91_1 (b o : Nat) (s : Option Nat) : gFieldAddr Q 91 (.pointer (some ⟨b, o, s⟩)) 1 = some (.pointer (some ⟨b, o + 1024, none⟩)) := Eq.trans (by kernel_rfl) rfl
@[simp] theorem ia_89 (b o : Nat) (s : Option Nat) (k : IntKind) (j : Int) : gIndexAddr Q 89 (.pointer (some ⟨b, o, s⟩)) (.int k j) = if 0 ≤ j ∧ j < (1024 : Nat) then some (.pointer (some ⟨b, o + j.toNat * 1, none⟩)) else none := Eq.trans (by kernel_rfl) rfl
/-- coxswain/coxswainlaw03.DrawHeights -/
noncomputable def s3 (orc : FuncId → Bool) (v0 v1 : Value) (G : GS) : Option (Value × GS) :=
  bP (gLen Q 22 v0) fun x0 =>
  bP (gBinF Q .gtr 3 (.tmp 10) (.const (.int .i64 100)) x0 (.int .i64 100)) fun x1 =>
  ifV x1 (
  bS ((E orc).cl 14 [] G) fun x2 G3 =>
  some (x2, G3)) (
  bS ((E orc).cl 15 [v0] G) fun x4 G5 =>
  bS ((E orc).cl 16 [x4, v1] G5) fun x6 G7 =>
  bS ((E orc).cl 18 [v0, v1] G7) fun x8 G9 =>
  bS ((E orc).cl 17 [x6, x8] G9) fun x10 G11 =>
  bS ((E orc).cl 19 [x6] G11) fun x12 G13 =>
  bX ((E orc).lp (subAt [1, 1, 1, 1, 1, 1, 0, 1, 0, 0] (bodyOf Try.f3)) [v0, v1, undef, undef, (.bool false), x4, x6, x10, (.int .i64 0), v0, x0, x1, undef, v0, x4, x4, v1, x6, x6, v0, v1, x8, x10, x6, x12, undef, undef, undef, undef, undef, undef, undef, undef, undef, undef, undef, undef, undef, undef, undef, undef, undef, undef, undef, undef, undef, undef, undef, undef, undef, undef, undef, undef, undef, undef, undef] G13) fun e14 T15 G16 =>
  ifE e14 (.exit 0) (
  bS (gd (nth undef T15 7) true (some ((nth undef T15 5), G16)) G16) fun x17 G18 =>
  bS (gd (nth undef T15 7) true (some ((nth undef T15 0), G18)) G18) fun x19 G20 =>
  bS (gd (nth undef T15 7) true (bS ((E orc).cl 17 [x17, x19] G20) fun y G => some (y, G)) G20) fun x21 G22 =>
  bP (pickV (nth undef T15 7) x21 (.bool false)) fun x23 =>
  bS (gd x23 true (bS ((E orc).cl 14 [] G22) fun y G => some (y, G)) G22) fun x24 G25 =>
  bP (pickV x23 x24 (.bool false)) fun x26 =>
  some (x26, G25)) (none))
theorem c3 (orc : FuncId → Bool) (v0 v1 : Value) (G : GS) {r : Value × GS} (h : s3 orc v0 v1 G = some r) : (E orc).cl 3 [v0, v1] G = some r :=
  cl_sxE_some Q orc (vs := [v0, v1]) G Try.func3 (by kernel_rfl) (by kernel_rfl) (by kernel_rfl) (by kernel_rfl) (by kernel_rfl) h
noncomputable def b3_0 (orc : FuncId → Bool) (T : List Value) (G : GS) : Option (Exit × List Value × GS) :=
  bP (gLen Q 22 (nth undef T 0)) fun x0 =>
  bP (gBinF Q .lss 3 (.tmp 25) (.tmp 27) (nth undef T 8) x0) fun x1 =>
  ifV x1 (
  bS (gd (nth undef T 7) true (some ((nth undef T 0), (G.room 17))) (G.room 17)) fun x2 _ =>
  bS (gd (nth undef T 7) true (some ((nth undef T 8), (G.room 17))) (G.room 17)) fun x3 _ =>
  bS (gd (nth undef T 7) true (bP (gIndexAddr Q 22 x2 x3) fun y => some (y, (G.room 17))) (G.room 17)) fun x4 _ =>
  bS (gd (nth undef T 7) true (bP (gLoadF Q 3 x4 (G.room 17)) fun y => some (y, (G.room 17))) (G.room 17)) fun x5 _ =>
  bS (gd (nth undef T 7) true (some ((nth undef T 1), (G.room 17))) (G.room 17)) fun x6 _ =>
  bS (gd (nth undef T 7) true (bS ((E orc).cl 20 [x5, x6] (G.room 17)) fun y G => some (y, G)) (G.room 17)) fun x8 G7 =>
  bS (gd (nth undef T 7) true (some ((nth undef T 0), G7)) G7) fun x9 _ =>
  bS (gd (nth undef T 7) true (some ((nth undef T 8), G7)) G7) fun x10 _ =>
  bS (gd (nth undef T 7) true (bP (gIndexAddr Q 22 x9 x10) fun y => some (y, G7)) G7) fun x11 _ =>
  bS (gd (nth undef T 7) true (bP (gLoadF Q 3 x11 G7) fun y => some (y, G7)) G7) fun x12 _ =>
  chk (((!(gB (nth undef T 7) true) || (!(gB (nth undef T 7) true) || sameO (gLoadF Q 3 x11 (G.room 17)) x12)) && true)) <|
  bS (gd (nth undef T 7) true (some ((nth undef T 1), G7)) G7) fun x13 _ =>
  bS (gd (nth undef T 7) true (bS ((E orc).cl 21 [x12, x13] G7) fun y G => some (y, G)) G7) fun x15 G14 =>
  bS (gd (nth undef T 7) true (bP (gBinF Q .eql 3 (.tmp 38) (.tmp 44) x8 x15) fun y => some (y, G14)) G14) fun x16 _ =>
  bP (pickV (nth undef T 7) x16 (.bool false)) fun x17 =>
  bP (gBinF Q .add 3 (.tmp 29) (.const (.int .i64 1)) (nth undef T 8) (.int .i64 1)) fun x18 =>
  (E orc).lp (subAt [1, 1, 1, 1, 1, 1, 0, 1, 0, 0] (bodyOf Try.f3)) [(nth undef T 0), (nth undef T 1), (nth undef T 2), (nth undef T 3), (nth undef T 4), (nth undef T 5), (nth undef T 6), x17, x18, (nth undef T 9), (nth undef T 10), (nth undef T 11), (nth undef T 12), (nth undef T 13), (nth undef T 14), (nth undef T 15), (nth undef T 16), (nth undef T 17), (nth undef T 18), (nth undef T 19), (nth undef T 20), (nth undef T 21), (nth undef T 22), (nth undef T 23), (nth undef T 24), (nth undef T 8), (nth undef T 0), x0, x1, (nth undef T 8), x18, (nth undef T 7), (nth undef T 7), x2, x3, x4, x5, x6, x8, x9, x10, x11, x12, x13, x15, x16, x17, (nth undef T 47), (nth undef T 48), (nth undef T 49), (nth undef T 50), (nth undef T 51), (nth undef T 52), (nth undef T 53), (nth undef T 54), (nth undef T 55)] G14) (
  some ((.exit 0), [(nth undef T 0), (nth undef T 1), (nth undef T 2), (nth undef T 3), (nth undef T 4), (nth undef T 5), (nth undef T 6), (nth undef T 7), (nth undef T 8), (nth undef T 9), (nth undef T 10), (nth undef T 11), (nth undef T 12), (nth undef T 13), (nth undef T 14), (nth undef T 15), (nth undef T 16), (nth undef T 17), (nth undef T 18), (nth undef T 19), (nth undef T 20), (nth undef T 21), (nth undef T 22), (nth undef T 23), (nth undef T 24), (nth undef T 8), (nth undef T 0), x0, x1, (nth undef T 29), (nth undef T 30), (nth undef T 31), (nth undef T 32), (nth undef T 33), (nth undef T 34), (nth undef T 35), (nth undef T 36), (nth undef T 37), (nth undef T 38), (nth undef T 39), (nth undef T 40), (nth undef T 41), (nth undef T 42), (nth undef T 43), (nth undef T 44), (nth undef T 45), (nth undef T 46), (nth undef T 47), (nth undef T 48), (nth undef T 49), (nth undef T 50), (nth undef T 51), (nth undef T 52), (nth undef T 53), (nth undef T 54), (nth undef T 55)], G))
theorem l3_0 (orc : FuncId → Bool) (T : List Value) (G : GS) (hT : T.length = 56) {r : Exit × List Value × GS} (h : b3_0 orc T G = some r) : (E orc).lp (subAt [1, 1, 1, 1, 1, 1, 0, 1, 0, 0] (bodyOf Try.f3)) T G = some r :=
  lp_sxE Q orc G hT (by kernel_rfl) h
/-- coxswain/coxswainlaw03.DrawActs -/
noncomputable def s4 (orc : FuncId → Bool) (v0 v1 : Value) (G : GS) : Option (Value × GS) :=
  bP (gLen Q 22 v0) fun x0 =>
  bP (gBinF Q .gtr 3 (.tmp 14) (.const (.int .i64 5000)) x0 (.int .i64 5000)) fun x1 =>
  bS (gd x1 false (some (v1, G)) G) fun x2 G3 =>
  bS (gd x1 false (bP (gLen Q 30 x2) fun y => some (y, G3)) G3) fun x4 G5 =>
  bS (gd x1 false (bP (gBinF Q .gtr 3 (.tmp 18) (.const (.int .i64 60)) x4 (.int .i64 60)) fun y => some (y, G5)) G5) fun x6 G7 =>
  bP (pickV x1 (.bool true) x6) fun x8 =>
  ifV x8 (
  bS ((E orc).cl 14 [] G7) fun x9 G10 =>
  some (x9, G10)) (
  bS ((E orc).cl 15 [v0] G7) fun x11 G12 =>
  bS ((E orc).cl 22 [x11] G12) fun x13 G14 =>
  bP (pExtract x13 0) fun x15 =>
  bP (pExtract x13 1) fun x16 =>
  bS ((E orc).cl 23 [v0] G14) fun x17 G18 =>
  bP (pExtract x17 0) fun x19 =>
  bP (pExtract x17 1) fun x20 =>
  bP (gBinF Q .neq 32 (.tmp 34) (.tmp 35) x16 x20) fun x21 =>
  bS (gd x21 false (some (x15, G18)) G18) fun x22 G23 =>
  bS (gd x21 false (bP (gBinF Q .eql 31 (.tmp 38) (.const (.pointer none)) x22 (.pointer none)) fun y => some (y, G23)) G23) fun x24 G25 =>
  bS (gd x21 false (some (x19, G25)) G25) fun x26 G27 =>
  bS (gd x21 false (bP (gBinF Q .eql 35 (.tmp 40) (.const (.pointer none)) x26 (.pointer none)) fun y => some (y, G27)) G27) fun x28 G29 =>
  bS (gd x21 false (bP (gBinF Q .neq 4 (.tmp 39) (.tmp 41) x24 x28) fun y => some (y, G29)) G29) fun x30 G31 =>
  bP (pickV x21 (.bool true) x30) fun x32 =>
  bS (gd x32 false (some (x11, G31)) G31) fun x33 G34 =>
  bS (gd x32 false (some (v0, G34)) G34) fun x35 G36 =>
  bS (gd x32 false (bS ((E orc).cl 17 [x33, x35] G36) fun y G => some (y, G)) G36) fun x37 G38 =>
  bS (gd x32 false (bP (pUn Q .not x37) fun y => some (y, G38)) G38) fun x39 G40 =>
  bP (pickV x32 (.bool true) x39) fun x41 =>
  ifV x41 (
  some ((.bool false), G40)) (
  bS ((E orc).cl 19 [x11] G40) fun x42 G43 =>
  bX ((E orc).lp (subAt [1, 1, 1, 1, 1, 1, 1, 0, 1, 0, 0] (bodyOf Try.f4)) [v0, v1, undef, undef, (.bool false), x11, x15, x16, x19, x20, (.int .i64 0), undef, undef, v0, x0, x1, x1, x2, x4, x6, x8, undef, v0, x11, x13, x11, x13, x15, x16, x17, v0, x17, x19, x20, x16, x20, x21, x21, x22, x24, x26, x28, x30, x32, x32, x33, x35, x37, x39, x41, x11, x42, undef, undef, undef, undef, undef, undef, undef, undef, undef, undef, undef, undef, undef, undef, undef, undef, undef, undef, undef, undef, undef, undef, undef, undef, undef, undef, undef, undef, undef, undef, undef, undef, undef, undef, undef, undef, undef, undef, undef, undef, undef, undef, undef, undef, undef, undef, undef, undef, undef, undef, undef, undef, undef, undef, undef, undef, undef, undef, undef, undef, undef, undef, undef, undef, undef, undef, undef, undef, undef, undef, undef, undef, undef, undef, undef, undef, undef, undef] G43) fun e44 T45 G46 =>
  ifE e44 (.exit 0) (
  bS ((E orc).cl 14 [] G46) fun x47 G48 =>
  some (x47, G48)) (ifE e44 .ret (
  some ((nth undef T45 4), G46)) (none))))
theorem c4 (orc : FuncId → Bool) (v0 v1 : Value) (G : GS) {r : Value × GS} (h : s4 orc v0 v1 G = some r) : (E orc).cl 4 [v0, v1] G = some r :=
  cl_sxE_some Q orc (vs := [v0, v1]) G Try.func4 (by kernel_rfl) (by kernel_rfl) (by kernel_rfl) (by kernel_rfl) (by kernel_rfl) h
noncomputable def b4_0 (orc : FuncId → Bool) (T : List Value) (G : GS) : Option (Exit × List Value × GS) :=
  bP (gBinF Q .neq 35 (.tmp 52) (.const (.pointer none)) (nth undef T 8) (.pointer none)) fun x0 =>
  bS (gd x0 true (some ((nth undef T 10), G)) G) fun x1 G2 =>
  bS (gd x0 true (some ((nth undef T 1), G2)) G2) fun x3 G4 =>
  bS (gd x0 true (bP (gLen Q 30 x3) fun y => some (y, G4)) G4) fun x5 G6 =>
  bS (gd x0 true (bP (gBinF Q .lss 3 (.tmp 55) (.tmp 57) x1 x5) fun y => some (y, G6)) G6) fun x7 G8 =>
  bP (pickV x0 x7 (.bool false)) fun x9 =>
  ifV x9 (
  bP (gIndexAddr Q 30 (nth undef T 1) (nth undef T 10)) fun x10 =>
  bP (gFieldAddr Q 39 x10 0) fun x11 =>
  bP (gLoadF Q 3 x11 G8) fun x12 =>
  bP (gBinF Q .eql 3 (.tmp 66) (.const (.int .i64 0)) x12 (.int .i64 0)) fun x13 =>
  ifV x13 (
  bS ((E orc).cl 24 [(nth undef T 6)] G8) fun x14 G15 =>
  bS ((E orc).cl 25 [(nth undef T 8)] G15) fun x16 G17 =>
  bP (gBinF Q .eql 3 (.tmp 70) (.tmp 72) x14 x16) fun x18 =>
  bP (pUn Q .not x18) fun x19 =>
  bS (gd x19 false (some ((nth undef T 6), G17)) G17) fun x20 G21 =>
  bS (gd x19 false (bP (gBinF Q .eql 31 (.tmp 119) (.const (.pointer none)) x20 (.pointer none)) fun y => some (y, G21)) G21) fun x22 G23 =>
  bP (pickV x19 (.bool true) x22) fun x24 =>
  bS (gd x24 false (some ((nth undef T 6), G23)) G23) fun x25 G26 =>
  bS (gd x24 false (bS ((E orc).cl 30 [x25] G26) fun y G => some (y, G)) G26) fun x27 G28 =>
  bS (gd x24 false (some ((nth undef T 8), G28)) G28) fun x29 G30 =>
  bS (gd x24 false (bS ((E orc).cl 31 [x29] G30) fun y G => some (y, G)) G30) fun x31 G32 =>
  bS (gd x24 false (bP (gBinF Q .neq 3 (.tmp 124) (.tmp 126) x27 x31) fun y => some (y, G32)) G32) fun x33 G34 =>
  bP (pickV x24 (.bool true) x33) fun x35 =>
  ifV x35 (
  some (.ret, [(nth undef T 0), (nth undef T 1), (nth undef T 2), (nth undef T 3), (.bool false), (nth undef T 5), (nth undef T 6), (nth undef T 7), (nth undef T 8), (nth undef T 9), (nth undef T 10), x18, (nth undef T 12), (nth undef T 13), (nth undef T 14), (nth undef T 15), (nth undef T 16), (nth undef T 17), (nth undef T 18), (nth undef T 19), (nth undef T 20), (nth undef T 21), (nth undef T 22), (nth undef T 23), (nth undef T 24), (nth undef T 25), (nth undef T 26), (nth undef T 27), (nth undef T 28), (nth undef T 29), (nth undef T 30), (nth undef T 31), (nth undef T 32), (nth undef T 33), (nth undef T 34), (nth undef T 35), (nth undef T 36), (nth undef T 37), (nth undef T 38), (nth undef T 39), (nth undef T 40), (nth undef T 41), (nth undef T 42), (nth undef T 43), (nth undef T 44), (nth undef T 45), (nth undef T 46), (nth undef T 47), (nth undef T 48), (nth undef T 49), (nth undef T 50), (nth undef T 51), (nth undef T 8), x0, x0, x1, x3, x5, x7, x9, (nth undef T 60), (nth undef T 61), (nth undef T 1), (nth undef T 10), x10, x11, x12, x13, x13, (nth undef T 6), x14, (nth undef T 8), x16, x18, (nth undef T 74), (nth undef T 75), (nth undef T 76), (nth undef T 77), (nth undef T 78), (nth undef T 79), (nth undef T 80), (nth undef T 81), (nth undef T 82), (nth undef T 83), (nth undef T 84), (nth undef T 85), (nth undef T 86), (nth undef T 87), (nth undef T 88), (nth undef T 89), (nth undef T 90), (nth undef T 91), (nth undef T 92), (nth undef T 93), (nth undef T 94), (nth undef T 95), (nth undef T 96), (nth undef T 97), (nth undef T 98), (nth undef T 99), (nth undef T 100), (nth undef T 101), (nth undef T 102), (nth undef T 103), (nth undef T 104), (nth undef T 105), (nth undef T 106), (nth undef T 107), (nth undef T 108), (nth undef T 109), (nth undef T 110), (nth undef T 111), (nth undef T 112), (nth undef T 113), (nth undef T 114), (nth undef T 115), x18, x19, x19, x20, x22, x24, x24, x25, x27, x29, x31, x33, x35, (nth undef T 129)], G34)) (
  bP (gBinF Q .add 3 (.tmp 60) (.const (.int .i64 1)) (nth undef T 10) (.int .i64 1)) fun x36 =>
  (E orc).lp (subAt [1, 1, 1, 1, 1, 1, 1, 0, 1, 0, 0] (bodyOf Try.f4)) [(nth undef T 0), (nth undef T 1), (nth undef T 2), (nth undef T 3), (nth undef T 4), (nth undef T 5), (nth undef T 6), (nth undef T 7), (nth undef T 8), (nth undef T 9), x36, x18, (nth undef T 12), (nth undef T 13), (nth undef T 14), (nth undef T 15), (nth undef T 16), (nth undef T 17), (nth undef T 18), (nth undef T 19), (nth undef T 20), (nth undef T 21), (nth undef T 22), (nth undef T 23), (nth undef T 24), (nth undef T 25), (nth undef T 26), (nth undef T 27), (nth undef T 28), (nth undef T 29), (nth undef T 30), (nth undef T 31), (nth undef T 32), (nth undef T 33), (nth undef T 34), (nth undef T 35), (nth undef T 36), (nth undef T 37), (nth undef T 38), (nth undef T 39), (nth undef T 40), (nth undef T 41), (nth undef T 42), (nth undef T 43), (nth undef T 44), (nth undef T 45), (nth undef T 46), (nth undef T 47), (nth undef T 48), (nth undef T 49), (nth undef T 50), (nth undef T 51), (nth undef T 8), x0, x0, x1, x3, x5, x7, x9, (nth undef T 10), x36, (nth undef T 1), (nth undef T 10), x10, x11, x12, x13, x13, (nth undef T 6), x14, (nth undef T 8), x16, x18, (nth undef T 74), (nth undef T 75), (nth undef T 76), (nth undef T 77), (nth undef T 78), (nth undef T 79), (nth undef T 80), (nth undef T 81), (nth undef T 82), (nth undef T 83), (nth undef T 84), (nth undef T 85), (nth undef T 86), (nth undef T 87), (nth undef T 88), (nth undef T 89), (nth undef T 90), (nth undef T 91), (nth undef T 92), (nth undef T 93), (nth undef T 94), (nth undef T 95), (nth undef T 96), (nth undef T 97), (nth undef T 98), (nth undef T 99), (nth undef T 100), (nth undef T 101), (nth undef T 102), (nth undef T 103), (nth undef T 104), (nth undef T 105), (nth undef T 106), (nth undef T 107), (nth undef T 108), (nth undef T 109), (nth undef T 110), (nth undef T 111), (nth undef T 112), (nth undef T 113), (nth undef T 114), (nth undef T 115), x18, x19, x19, x20, x22, x24, x24, x25, x27, x29, x31, x33, x35, (nth undef T 129)] G34)) (
  bP (gBinF Q .eql 3 (.tmp 66) (.const (.int .i64 1)) x12 (.int .i64 1)) fun x37 =>
  ifV x37 (
  bP (gIndexAddr Q 30 (nth undef T 1) (nth undef T 10)) fun x38 =>
  bP (gFieldAddr Q 39 x38 1) fun x39 =>
  bP (gLoadF Q 3 x39 (G8.room 17)) fun x40 =>
  bS ((E orc).cl 26 [(nth undef T 6), x40] (G8.room 17)) fun x42 G41 =>
  bS ((E orc).cl 25 [(nth undef T 8)] G41) fun x44 G43 =>
  bP (gIndexAddr Q 30 (nth undef T 1) (nth undef T 10)) fun x45 =>
  bP (gFieldAddr Q 39 x45 1) fun x46 =>
  bP (gLoadF Q 3 x46 G43) fun x47 =>
  chk ((sameO (gLoadF Q 3 x46 G41) x47 && (sameO (gLoadF Q 3 x46 (G8.room 17)) x47 && true))) <|
  bS ((E orc).cl 21 [x44, x47] G43) fun x49 G48 =>
  bP (gBinF Q .eql 3 (.tmp 82) (.tmp 90) x42 x49) fun x50 =>
  bP (pUn Q .not x50) fun x51 =>
  bS (gd x51 false (some ((nth undef T 6), G48)) G48) fun x52 G53 =>
  bS (gd x51 false (bP (gBinF Q .eql 31 (.tmp 119) (.const (.pointer none)) x52 (.pointer none)) fun y => some (y, G53)) G53) fun x54 G55 =>
  bP (pickV x51 (.bool true) x54) fun x56 =>
  bS (gd x56 false (some ((nth undef T 6), G55)) G55) fun x57 G58 =>
  bS (gd x56 false (bS ((E orc).cl 30 [x57] G58) fun y G => some (y, G)) G58) fun x59 G60 =>
  bS (gd x56 false (some ((nth undef T 8), G60)) G60) fun x61 G62 =>
  bS (gd x56 false (bS ((E orc).cl 31 [x61] G62) fun y G => some (y, G)) G62) fun x63 G64 =>
  bS (gd x56 false (bP (gBinF Q .neq 3 (.tmp 124) (.tmp 126) x59 x63) fun y => some (y, G64)) G64) fun x65 G66 =>
  bP (pickV x56 (.bool true) x65) fun x67 =>
  ifV x67 (
  some (.ret, [(nth undef T 0), (nth undef T 1), (nth undef T 2), (nth undef T 3), (.bool false), (nth undef T 5), (nth undef T 6), (nth undef T 7), (nth undef T 8), (nth undef T 9), (nth undef T 10), x50, (nth undef T 12), (nth undef T 13), (nth undef T 14), (nth undef T 15), (nth undef T 16), (nth undef T 17), (nth undef T 18), (nth undef T 19), (nth undef T 20), (nth undef T 21), (nth undef T 22), (nth undef T 23), (nth undef T 24), (nth undef T 25), (nth undef T 26), (nth undef T 27), (nth undef T 28), (nth undef T 29), (nth undef T 30), (nth undef T 31), (nth undef T 32), (nth undef T 33), (nth undef T 34), (nth undef T 35), (nth undef T 36), (nth undef T 37), (nth undef T 38), (nth undef T 39), (nth undef T 40), (nth undef T 41), (nth undef T 42), (nth undef T 43), (nth undef T 44), (nth undef T 45), (nth undef T 46), (nth undef T 47), (nth undef T 48), (nth undef T 49), (nth undef T 50), (nth undef T 51), (nth undef T 8), x0, x0, x1, x3, x5, x7, x9, (nth undef T 60), (nth undef T 61), (nth undef T 1), (nth undef T 10), x10, x11, x12, x13, x13, (nth undef T 69), (nth undef T 70), (nth undef T 71), (nth undef T 72), (nth undef T 73), x37, x37, (nth undef T 6), (nth undef T 1), (nth undef T 10), x38, x39, x40, x42, (nth undef T 8), x44, (nth undef T 1), (nth undef T 10), x45, x46, x47, x49, x50, (nth undef T 92), (nth undef T 93), (nth undef T 94), (nth undef T 95), (nth undef T 96), (nth undef T 97), (nth undef T 98), (nth undef T 99), (nth undef T 100), (nth undef T 101), (nth undef T 102), (nth undef T 103), (nth undef T 104), (nth undef T 105), (nth undef T 106), (nth undef T 107), (nth undef T 108), (nth undef T 109), (nth undef T 110), (nth undef T 111), (nth undef T 112), (nth undef T 113), (nth undef T 114), (nth undef T 115), x50, x51, x51, x52, x54, x56, x56, x57, x59, x61, x63, x65, x67, (nth undef T 129)], G66)) (
  bP (gBinF Q .add 3 (.tmp 60) (.const (.int .i64 1)) (nth undef T 10) (.int .i64 1)) fun x68 =>
  (E orc).lp (subAt [1, 1, 1, 1, 1, 1, 1, 0, 1, 0, 0] (bodyOf Try.f4)) [(nth undef T 0), (nth undef T 1), (nth undef T 2), (nth undef T 3), (nth undef T 4), (nth undef T 5), (nth undef T 6), (nth undef T 7), (nth undef T 8), (nth undef T 9), x68, x50, (nth undef T 12), (nth undef T 13), (nth undef T 14), (nth undef T 15), (nth undef T 16), (nth undef T 17), (nth undef T 18), (nth undef T 19), (nth undef T 20), (nth undef T 21), (nth undef T 22), (nth undef T 23), (nth undef T 24), (nth undef T 25), (nth undef T 26), (nth undef T 27), (nth undef T 28), (nth undef T 29), (nth undef T 30), (nth undef T 31), (nth undef T 32), (nth undef T 33), (nth undef T 34), (nth undef T 35), (nth undef T 36), (nth undef T 37), (nth undef T 38), (nth undef T 39), (nth undef T 40), (nth undef T 41), (nth undef T 42), (nth undef T 43), (nth undef T 44), (nth undef T 45), (nth undef T 46), (nth undef T 47), (nth undef T 48), (nth undef T 49), (nth undef T 50), (nth undef T 51), (nth undef T 8), x0, x0, x1, x3, x5, x7, x9, (nth undef T 10), x68, (nth undef T 1), (nth undef T 10), x10, x11, x12, x13, x13, (nth undef T 69), (nth undef T 70), (nth undef T 71), (nth undef T 72), (nth undef T 73), x37, x37, (nth undef T 6), (nth undef T 1), (nth undef T 10), x38, x39, x40, x42, (nth undef T 8), x44, (nth undef T 1), (nth undef T 10), x45, x46, x47, x49, x50, (nth undef T 92), (nth undef T 93), (nth undef T 94), (nth undef T 95), (nth undef T 96), (nth undef T 97), (nth undef T 98), (nth undef T 99), (nth undef T 100), (nth undef T 101), (nth undef T 102), (nth undef T 103), (nth undef T 104), (nth undef T 105), (nth undef T 106), (nth undef T 107), (nth undef T 108), (nth undef T 109), (nth undef T 110), (nth undef T 111), (nth undef T 112), (nth undef T 113), (nth undef T 114), (nth undef T 115), x50, x51, x51, x52, x54, x56, x56, x57, x59, x61, x63, x65, x67, (nth undef T 129)] G66)) (
  bP (gBinF Q .eql 3 (.tmp 66) (.const (.int .i64 2)) x12 (.int .i64 2)) fun x69 =>
  ifV x69 (
  bP (gIndexAddr Q 30 (nth undef T 1) (nth undef T 10)) fun x70 =>
  bP (gFieldAddr Q 39 x70 1) fun x71 =>
  bP (gLoadF Q 3 x71 (G8.room 16)) fun x72 =>
  bS ((E orc).cl 27 [(nth undef T 6), x72] (G8.room 16)) fun x74 G73 =>
  bP (gIndexAddr Q 30 (nth undef T 1) (nth undef T 10)) fun x75 =>
  bP (gFieldAddr Q 39 x75 1) fun x76 =>
  bP (gLoadF Q 3 x76 G73) fun x77 =>
  chk ((sameO (gLoadF Q 3 x76 (G8.room 16)) x77 && true)) <|
  bS ((E orc).cl 28 [(nth undef T 8), x77] G73) fun x79 G78 =>
  bP (gBinF Q .eql 3 (.tmp 100) (.tmp 107) x74 x79) fun x80 =>
  bP (pUn Q .not x80) fun x81 =>
  bS (gd x81 false (some ((nth undef T 6), G78)) G78) fun x82 G83 =>
  bS (gd x81 false (bP (gBinF Q .eql 31 (.tmp 119) (.const (.pointer none)) x82 (.pointer none)) fun y => some (y, G83)) G83) fun x84 G85 =>
  bP (pickV x81 (.bool true) x84) fun x86 =>
  bS (gd x86 false (some ((nth undef T 6), G85)) G85) fun x87 G88 =>
  bS (gd x86 false (bS ((E orc).cl 30 [x87] G88) fun y G => some (y, G)) G88) fun x89 G90 =>
  bS (gd x86 false (some ((nth undef T 8), G90)) G90) fun x91 G92 =>
  bS (gd x86 false (bS ((E orc).cl 31 [x91] G92) fun y G => some (y, G)) G92) fun x93 G94 =>
  bS (gd x86 false (bP (gBinF Q .neq 3 (.tmp 124) (.tmp 126) x89 x93) fun y => some (y, G94)) G94) fun x95 G96 =>
  bP (pickV x86 (.bool true) x95) fun x97 =>
  ifV x97 (
  some (.ret, [(nth undef T 0), (nth undef T 1), (nth undef T 2), (nth undef T 3), (.bool false), (nth undef T 5), (nth undef T 6), (nth undef T 7), (nth undef T 8), (nth undef T 9), (nth undef T 10), x80, (nth undef T 12), (nth undef T 13), (nth undef T 14), (nth undef T 15), (nth undef T 16), (nth undef T 17), (nth undef T 18), (nth undef T 19), (nth undef T 20), (nth undef T 21), (nth undef T 22), (nth undef T 23), (nth undef T 24), (nth undef T 25), (nth undef T 26), (nth undef T 27), (nth undef T 28), (nth undef T 29), (nth undef T 30), (nth undef T 31), (nth undef T 32), (nth undef T 33), (nth undef T 34), (nth undef T 35), (nth undef T 36), (nth undef T 37), (nth undef T 38), (nth undef T 39), (nth undef T 40), (nth undef T 41), (nth undef T 42), (nth undef T 43), (nth undef T 44), (nth undef T 45), (nth undef T 46), (nth undef T 47), (nth undef T 48), (nth undef T 49), (nth undef T 50), (nth undef T 51), (nth undef T 8), x0, x0, x1, x3, x5, x7, x9, (nth undef T 60), (nth undef T 61), (nth undef T 1), (nth undef T 10), x10, x11, x12, x13, x13, (nth undef T 69), (nth undef T 70), (nth undef T 71), (nth undef T 72), (nth undef T 73), x37, x37, (nth undef T 76), (nth undef T 77), (nth undef T 78), (nth undef T 79), (nth undef T 80), (nth undef T 81), (nth undef T 82), (nth undef T 83), (nth undef T 84), (nth undef T 85), (nth undef T 86), (nth undef T 87), (nth undef T 88), (nth undef T 89), (nth undef T 90), (nth undef T 91), x69, x69, (nth undef T 6), (nth undef T 1), (nth undef T 10), x70, x71, x72, x74, (nth undef T 8), (nth undef T 1), (nth undef T 10), x75, x76, x77, x79, x80, (nth undef T 109), (nth undef T 110), (nth undef T 111), (nth undef T 112), (nth undef T 113), (nth undef T 114), (nth undef T 115), x80, x81, x81, x82, x84, x86, x86, x87, x89, x91, x93, x95, x97, (nth undef T 129)], G96)) (
  bP (gBinF Q .add 3 (.tmp 60) (.const (.int .i64 1)) (nth undef T 10) (.int .i64 1)) fun x98 =>
  (E orc).lp (subAt [1, 1, 1, 1, 1, 1, 1, 0, 1, 0, 0] (bodyOf Try.f4)) [(nth undef T 0), (nth undef T 1), (nth undef T 2), (nth undef T 3), (nth undef T 4), (nth undef T 5), (nth undef T 6), (nth undef T 7), (nth undef T 8), (nth undef T 9), x98, x80, (nth undef T 12), (nth undef T 13), (nth undef T 14), (nth undef T 15), (nth undef T 16), (nth undef T 17), (nth undef T 18), (nth undef T 19), (nth undef T 20), (nth undef T 21), (nth undef T 22), (nth undef T 23), (nth undef T 24), (nth undef T 25), (nth undef T 26), (nth undef T 27), (nth undef T 28), (nth undef T 29), (nth undef T 30), (nth undef T 31), (nth undef T 32), (nth undef T 33), (nth undef T 34), (nth undef T 35), (nth undef T 36), (nth undef T 37), (nth undef T 38), (nth undef T 39), (nth undef T 40), (nth undef T 41), (nth undef T 42), (nth undef T 43), (nth undef T 44), (nth undef T 45), (nth undef T 46), (nth undef T 47), (nth undef T 48), (nth undef T 49), (nth undef T 50), (nth undef T 51), (nth undef T 8), x0, x0, x1, x3, x5, x7, x9, (nth undef T 10), x98, (nth undef T 1), (nth undef T 10), x10, x11, x12, x13, x13, (nth undef T 69), (nth undef T 70), (nth undef T 71), (nth undef T 72), (nth undef T 73), x37, x37, (nth undef T 76), (nth undef T 77), (nth undef T 78), (nth undef T 79), (nth undef T 80), (nth undef T 81), (nth undef T 82), (nth undef T 83), (nth undef T 84), (nth undef T 85), (nth undef T 86), (nth undef T 87), (nth undef T 88), (nth undef T 89), (nth undef T 90), (nth undef T 91), x69, x69, (nth undef T 6), (nth undef T 1), (nth undef T 10), x70, x71, x72, x74, (nth undef T 8), (nth undef T 1), (nth undef T 10), x75, x76, x77, x79, x80, (nth undef T 109), (nth undef T 110), (nth undef T 111), (nth undef T 112), (nth undef T 113), (nth undef T 114), (nth undef T 115), x80, x81, x81, x82, x84, x86, x86, x87, x89, x91, x93, x95, x97, (nth undef T 129)] G96)) (
  bP (gBinF Q .eql 3 (.tmp 66) (.const (.int .i64 3)) x12 (.int .i64 3)) fun x99 =>
  ifV x99 (
  bS ((E orc).cl 29 [(nth undef T 6)] G8) fun x100 G101 =>
  bS ((E orc).cl 24 [(nth undef T 6)] G101) fun x102 G103 =>
  bP (pUn Q .not (.bool true)) fun x104 =>
  bS (gd x104 false (some (x100, G103)) G103) fun x105 G106 =>
  bS (gd x104 false (bP (gBinF Q .eql 31 (.tmp 119) (.const (.pointer none)) x105 (.pointer none)) fun y => some (y, G106)) G106) fun x107 G108 =>
  bP (pickV x104 (.bool true) x107) fun x109 =>
  bS (gd x109 false (some (x100, G108)) G108) fun x110 G111 =>
  bS (gd x109 false (bS ((E orc).cl 30 [x110] G111) fun y G => some (y, G)) G111) fun x112 G113 =>
  bS (gd x109 false (some ((nth undef T 8), G113)) G113) fun x114 G115 =>
  bS (gd x109 false (bS ((E orc).cl 31 [x114] G115) fun y G => some (y, G)) G115) fun x116 G117 =>
  bS (gd x109 false (bP (gBinF Q .neq 3 (.tmp 124) (.tmp 126) x112 x116) fun y => some (y, G117)) G117) fun x118 G119 =>
  bP (pickV x109 (.bool true) x118) fun x120 =>
  ifV x120 (
  some (.ret, [(nth undef T 0), (nth undef T 1), (nth undef T 2), (nth undef T 3), (.bool false), (nth undef T 5), x100, (nth undef T 7), (nth undef T 8), (nth undef T 9), (nth undef T 10), (.bool true), (nth undef T 6), (nth undef T 13), (nth undef T 14), (nth undef T 15), (nth undef T 16), (nth undef T 17), (nth undef T 18), (nth undef T 19), (nth undef T 20), (nth undef T 21), (nth undef T 22), (nth undef T 23), (nth undef T 24), (nth undef T 25), (nth undef T 26), (nth undef T 27), (nth undef T 28), (nth undef T 29), (nth undef T 30), (nth undef T 31), (nth undef T 32), (nth undef T 33), (nth undef T 34), (nth undef T 35), (nth undef T 36), (nth undef T 37), (nth undef T 38), (nth undef T 39), (nth undef T 40), (nth undef T 41), (nth undef T 42), (nth undef T 43), (nth undef T 44), (nth undef T 45), (nth undef T 46), (nth undef T 47), (nth undef T 48), (nth undef T 49), (nth undef T 50), (nth undef T 51), (nth undef T 8), x0, x0, x1, x3, x5, x7, x9, (nth undef T 60), (nth undef T 61), (nth undef T 1), (nth undef T 10), x10, x11, x12, x13, x13, (nth undef T 69), (nth undef T 70), (nth undef T 71), (nth undef T 72), (nth undef T 73), x37, x37, (nth undef T 76), (nth undef T 77), (nth undef T 78), (nth undef T 79), (nth undef T 80), (nth undef T 81), (nth undef T 82), (nth undef T 83), (nth undef T 84), (nth undef T 85), (nth undef T 86), (nth undef T 87), (nth undef T 88), (nth undef T 89), (nth undef T 90), (nth undef T 91), x69, x69, (nth undef T 94), (nth undef T 95), (nth undef T 96), (nth undef T 97), (nth undef T 98), (nth undef T 99), (nth undef T 100), (nth undef T 101), (nth undef T 102), (nth undef T 103), (nth undef T 104), (nth undef T 105), (nth undef T 106), (nth undef T 107), (nth undef T 108), x99, x99, (nth undef T 6), (nth undef T 6), x100, (nth undef T 6), x102, (.bool true), x104, x104, x105, x107, x109, x109, x110, x112, x114, x116, x118, x120, (nth undef T 129)], G119)) (
  bP (gBinF Q .add 3 (.tmp 60) (.const (.int .i64 1)) (nth undef T 10) (.int .i64 1)) fun x121 =>
  (E orc).lp (subAt [1, 1, 1, 1, 1, 1, 1, 0, 1, 0, 0] (bodyOf Try.f4)) [(nth undef T 0), (nth undef T 1), (nth undef T 2), (nth undef T 3), (nth undef T 4), (nth undef T 5), x100, (nth undef T 7), (nth undef T 8), (nth undef T 9), x121, (.bool true), (nth undef T 6), (nth undef T 13), (nth undef T 14), (nth undef T 15), (nth undef T 16), (nth undef T 17), (nth undef T 18), (nth undef T 19), (nth undef T 20), (nth undef T 21), (nth undef T 22), (nth undef T 23), (nth undef T 24), (nth undef T 25), (nth undef T 26), (nth undef T 27), (nth undef T 28), (nth undef T 29), (nth undef T 30), (nth undef T 31), (nth undef T 32), (nth undef T 33), (nth undef T 34), (nth undef T 35), (nth undef T 36), (nth undef T 37), (nth undef T 38), (nth undef T 39), (nth undef T 40), (nth undef T 41), (nth undef T 42), (nth undef T 43), (nth undef T 44), (nth undef T 45), (nth undef T 46), (nth undef T 47), (nth undef T 48), (nth undef T 49), (nth undef T 50), (nth undef T 51), (nth undef T 8), x0, x0, x1, x3, x5, x7, x9, (nth undef T 10), x121, (nth undef T 1), (nth undef T 10), x10, x11, x12, x13, x13, (nth undef T 69), (nth undef T 70), (nth undef T 71), (nth undef T 72), (nth undef T 73), x37, x37, (nth undef T 76), (nth undef T 77), (nth undef T 78), (nth undef T 79), (nth undef T 80), (nth undef T 81), (nth undef T 82), (nth undef T 83), (nth undef T 84), (nth undef T 85), (nth undef T 86), (nth undef T 87), (nth undef T 88), (nth undef T 89), (nth undef T 90), (nth undef T 91), x69, x69, (nth undef T 94), (nth undef T 95), (nth undef T 96), (nth undef T 97), (nth undef T 98), (nth undef T 99), (nth undef T 100), (nth undef T 101), (nth undef T 102), (nth undef T 103), (nth undef T 104), (nth undef T 105), (nth undef T 106), (nth undef T 107), (nth undef T 108), x99, x99, (nth undef T 6), (nth undef T 6), x100, (nth undef T 6), x102, (.bool true), x104, x104, x105, x107, x109, x109, x110, x112, x114, x116, x118, x120, (nth undef T 129)] G119)) (
  bP (pUn Q .not (.bool true)) fun x122 =>
  bS (gd x122 false (some ((nth undef T 6), G8)) G8) fun x123 G124 =>
  bS (gd x122 false (bP (gBinF Q .eql 31 (.tmp 119) (.const (.pointer none)) x123 (.pointer none)) fun y => some (y, G124)) G124) fun x125 G126 =>
  bP (pickV x122 (.bool true) x125) fun x127 =>
  bS (gd x127 false (some ((nth undef T 6), G126)) G126) fun x128 G129 =>
  bS (gd x127 false (bS ((E orc).cl 30 [x128] G129) fun y G => some (y, G)) G129) fun x130 G131 =>
  bS (gd x127 false (some ((nth undef T 8), G131)) G131) fun x132 G133 =>
  bS (gd x127 false (bS ((E orc).cl 31 [x132] G133) fun y G => some (y, G)) G133) fun x134 G135 =>
  bS (gd x127 false (bP (gBinF Q .neq 3 (.tmp 124) (.tmp 126) x130 x134) fun y => some (y, G135)) G135) fun x136 G137 =>
  bP (pickV x127 (.bool true) x136) fun x138 =>
  ifV x138 (
  some (.ret, [(nth undef T 0), (nth undef T 1), (nth undef T 2), (nth undef T 3), (.bool false), (nth undef T 5), (nth undef T 6), (nth undef T 7), (nth undef T 8), (nth undef T 9), (nth undef T 10), (.bool true), (nth undef T 12), (nth undef T 13), (nth undef T 14), (nth undef T 15), (nth undef T 16), (nth undef T 17), (nth undef T 18), (nth undef T 19), (nth undef T 20), (nth undef T 21), (nth undef T 22), (nth undef T 23), (nth undef T 24), (nth undef T 25), (nth undef T 26), (nth undef T 27), (nth undef T 28), (nth undef T 29), (nth undef T 30), (nth undef T 31), (nth undef T 32), (nth undef T 33), (nth undef T 34), (nth undef T 35), (nth undef T 36), (nth undef T 37), (nth undef T 38), (nth undef T 39), (nth undef T 40), (nth undef T 41), (nth undef T 42), (nth undef T 43), (nth undef T 44), (nth undef T 45), (nth undef T 46), (nth undef T 47), (nth undef T 48), (nth undef T 49), (nth undef T 50), (nth undef T 51), (nth undef T 8), x0, x0, x1, x3, x5, x7, x9, (nth undef T 60), (nth undef T 61), (nth undef T 1), (nth undef T 10), x10, x11, x12, x13, x13, (nth undef T 69), (nth undef T 70), (nth undef T 71), (nth undef T 72), (nth undef T 73), x37, x37, (nth undef T 76), (nth undef T 77), (nth undef T 78), (nth undef T 79), (nth undef T 80), (nth undef T 81), (nth undef T 82), (nth undef T 83), (nth undef T 84), (nth undef T 85), (nth undef T 86), (nth undef T 87), (nth undef T 88), (nth undef T 89), (nth undef T 90), (nth undef T 91), x69, x69, (nth undef T 94), (nth undef T 95), (nth undef T 96), (nth undef T 97), (nth undef T 98), (nth undef T 99), (nth undef T 100), (nth undef T 101), (nth undef T 102), (nth undef T 103), (nth undef T 104), (nth undef T 105), (nth undef T 106), (nth undef T 107), (nth undef T 108), x99, x99, (nth undef T 111), (nth undef T 112), (nth undef T 113), (nth undef T 114), (nth undef T 115), (.bool true), x122, x122, x123, x125, x127, x127, x128, x130, x132, x134, x136, x138, (nth undef T 129)], G137)) (
  bP (gBinF Q .add 3 (.tmp 60) (.const (.int .i64 1)) (nth undef T 10) (.int .i64 1)) fun x139 =>
  (E orc).lp (subAt [1, 1, 1, 1, 1, 1, 1, 0, 1, 0, 0] (bodyOf Try.f4)) [(nth undef T 0), (nth undef T 1), (nth undef T 2), (nth undef T 3), (nth undef T 4), (nth undef T 5), (nth undef T 6), (nth undef T 7), (nth undef T 8), (nth undef T 9), x139, (.bool true), (nth undef T 12), (nth undef T 13), (nth undef T 14), (nth undef T 15), (nth undef T 16), (nth undef T 17), (nth undef T 18), (nth undef T 19), (nth undef T 20), (nth undef T 21), (nth undef T 22), (nth undef T 23), (nth undef T 24), (nth undef T 25), (nth undef T 26), (nth undef T 27), (nth undef T 28), (nth undef T 29), (nth undef T 30), (nth undef T 31), (nth undef T 32), (nth undef T 33), (nth undef T 34), (nth undef T 35), (nth undef T 36), (nth undef T 37), (nth undef T 38), (nth undef T 39), (nth undef T 40), (nth undef T 41), (nth undef T 42), (nth undef T 43), (nth undef T 44), (nth undef T 45), (nth undef T 46), (nth undef T 47), (nth undef T 48), (nth undef T 49), (nth undef T 50), (nth undef T 51), (nth undef T 8), x0, x0, x1, x3, x5, x7, x9, (nth undef T 10), x139, (nth undef T 1), (nth undef T 10), x10, x11, x12, x13, x13, (nth undef T 69), (nth undef T 70), (nth undef T 71), (nth undef T 72), (nth undef T 73), x37, x37, (nth undef T 76), (nth undef T 77), (nth undef T 78), (nth undef T 79), (nth undef T 80), (nth undef T 81), (nth undef T 82), (nth undef T 83), (nth undef T 84), (nth undef T 85), (nth undef T 86), (nth undef T 87), (nth undef T 88), (nth undef T 89), (nth undef T 90), (nth undef T 91), x69, x69, (nth undef T 94), (nth undef T 95), (nth undef T 96), (nth undef T 97), (nth undef T 98), (nth undef T 99), (nth undef T 100), (nth undef T 101), (nth undef T 102), (nth undef T 103), (nth undef T 104), (nth undef T 105), (nth undef T 106), (nth undef T 107), (nth undef T 108), x99, x99, (nth undef T 111), (nth undef T 112), (nth undef T 113), (nth undef T 114), (nth undef T 115), (.bool true), x122, x122, x123, x125, x127, x127, x128, x130, x132, x134, x136, x138, (nth undef T 129)] G137)))))) (
  some ((.exit 0), [(nth undef T 0), (nth undef T 1), (nth undef T 2), (nth undef T 3), (nth undef T 4), (nth undef T 5), (nth undef T 6), (nth undef T 7), (nth undef T 8), (nth undef T 9), (nth undef T 10), (nth undef T 11), (nth undef T 12), (nth undef T 13), (nth undef T 14), (nth undef T 15), (nth undef T 16), (nth undef T 17), (nth undef T 18), (nth undef T 19), (nth undef T 20), (nth undef T 21), (nth undef T 22), (nth undef T 23), (nth undef T 24), (nth undef T 25), (nth undef T 26), (nth undef T 27), (nth undef T 28), (nth undef T 29), (nth undef T 30), (nth undef T 31), (nth undef T 32), (nth undef T 33), (nth undef T 34), (nth undef T 35), (nth undef T 36), (nth undef T 37), (nth undef T 38), (nth undef T 39), (nth undef T 40), (nth undef T 41), (nth undef T 42), (nth undef T 43), (nth undef T 44), (nth undef T 45), (nth undef T 46), (nth undef T 47), (nth undef T 48), (nth undef T 49), (nth undef T 50), (nth undef T 51), (nth undef T 8), x0, x0, x1, x3, x5, x7, x9, (nth undef T 60), (nth undef T 61), (nth undef T 62), (nth undef T 63), (nth undef T 64), (nth undef T 65), (nth undef T 66), (nth undef T 67), (nth undef T 68), (nth undef T 69), (nth undef T 70), (nth undef T 71), (nth undef T 72), (nth undef T 73), (nth undef T 74), (nth undef T 75), (nth undef T 76), (nth undef T 77), (nth undef T 78), (nth undef T 79), (nth undef T 80), (nth undef T 81), (nth undef T 82), (nth undef T 83), (nth undef T 84), (nth undef T 85), (nth undef T 86), (nth undef T 87), (nth undef T 88), (nth undef T 89), (nth undef T 90), (nth undef T 91), (nth undef T 92), (nth undef T 93), (nth undef T 94), (nth undef T 95), (nth undef T 96), (nth undef T 97), (nth undef T 98), (nth undef T 99), (nth undef T 100), (nth undef T 101), (nth undef T 102), (nth undef T 103), (nth undef T 104), (nth undef T 105), (nth undef T 106), (nth undef T 107), (nth undef T 108), (nth undef T 109), (nth undef T 110), (nth undef T 111), (nth undef T 112), (nth undef T 113), (nth undef T 114), (nth undef T 115), (nth undef T 116), (nth undef T 117), (nth undef T 118), (nth undef T 119), (nth undef T 120), (nth undef T 121), (nth undef T 122), (nth undef T 123), (nth undef T 124), (nth undef T 125), (nth undef T 126), (nth undef T 127), (nth undef T 128), (nth undef T 129)], G8))
theorem l4_0 (orc : FuncId → Bool) (T : List Value) (G : GS) (hT : T.length = 130) {r : Exit × List Value × GS} (h : b4_0 orc T G = some r) : (E orc).lp (subAt [1, 1, 1, 1, 1, 1, 1, 0, 1, 0, 0] (bodyOf Try.f4)) T G = some r :=
  lp_sxE Q orc G hT (by kernel_rfl) h
/-- coxswain/coxswainlaw03.DrawNone -/
noncomputable def s5 (orc : FuncId → Bool) (v0 : Value) (G : GS) : Option (Value × GS) :=
  bP (gBuild Q 46 []) fun x0 =>
  bS (mBox x0 G) fun x1 G2 =>
  bS (mBuildV Q 47 2 [(0, (.pointer none)), (1, x1)] G2) fun x3 G4 =>
  bX ((E orc).lp (subAt [1, 1, 0, 1, 0, 0] (bodyOf Try.f5)) [v0, undef, (.bool false), x3, (.int .i64 0), undef, x0, x1, x3, undef, undef, undef, undef, undef, undef, undef, undef, undef, undef, undef, undef, undef, undef, undef, undef, undef, undef, undef, undef, undef, undef, undef, undef, undef, undef, undef, undef, undef, undef, undef, undef] G4) fun e5 T6 G7 =>
  ifE e5 (.exit 0) (
  bS ((E orc).cl 14 [] G7) fun x8 G9 =>
  some (x8, G9)) (ifE e5 .ret (
  some ((nth undef T6 2), G7)) (none))
theorem c5 (orc : FuncId → Bool) (v0 : Value) (G : GS) {r : Value × GS} (h : s5 orc v0 G = some r) : (E orc).cl 5 [v0] G = some r :=
  cl_sxE_some Q orc (vs := [v0]) G Try.func5 (by kernel_rfl) (by kernel_rfl) (by kernel_rfl) (by kernel_rfl) (by kernel_rfl) h
noncomputable def b5_0 (orc : FuncId → Bool) (T : List Value) (G : GS) : Option (Exit × List Value × GS) :=
  bP (gLen Q 47 (nth undef T 3)) fun x0 =>
  bP (gBinF Q .lss 3 (.tmp 9) (.tmp 11) (nth undef T 4) x0) fun x1 =>
  ifV x1 (
  bP (gIndexAddr Q 47 (nth undef T 3) (nth undef T 4)) fun x2 =>
  bP (gLoadF Q 31 x2 G) fun x3 =>
  bS ((E orc).cl 24 [x3] G) fun x4 G5 =>
  bS ((E orc).cl 30 [x3] G5) fun x6 G7 =>
  bP (gBinF Q .add 3 (.tmp 20) (.tmp 22) x4 x6) fun x8 =>
  bS ((E orc).cl 27 [x3, (nth undef T 0)] G7) fun x9 G10 =>
  bP (gBinF Q .add 3 (.tmp 23) (.tmp 26) x8 x9) fun x11 =>
  bP (gBinF Q .neq 3 (.tmp 27) (.const (.int .i64 0)) x11 (.int .i64 0)) fun x12 =>
  bS (gd x12 false (some (x3, G10)) G10) fun x13 G14 =>
  bS (gd x12 false (some ((nth undef T 0), G14)) G14) fun x15 G16 =>
  bS (gd x12 false (bS ((E orc).cl 26 [x13, x15] G16) fun y G => some (y, G)) G16) fun x17 G18 =>
  bS (gd x12 false (bP (gBinF Q .neq 3 (.tmp 32) (.const (.int .i64 1)) x17 (.int .i64 1)) fun y => some (y, G18)) G18) fun x19 G20 =>
  bP (pickV x12 (.bool true) x19) fun x21 =>
  bS (gd x21 false (some (x3, G20)) G20) fun x22 G23 =>
  bS (gd x21 false (bS ((E orc).cl 29 [x22] G23) fun y G => some (y, G)) G23) fun x24 G25 =>
  bS (gd x21 false (bP (gBinF Q .neq 31 (.tmp 37) (.const (.pointer none)) x24 (.pointer none)) fun y => some (y, G25)) G25) fun x26 G27 =>
  bP (pickV x21 (.bool true) x26) fun x28 =>
  ifV x28 (
  some (.ret, [(nth undef T 0), (nth undef T 1), (.bool false), (nth undef T 3), (nth undef T 4), x3, (nth undef T 6), (nth undef T 7), (nth undef T 8), (nth undef T 4), (nth undef T 3), x0, x1, (nth undef T 13), (nth undef T 14), (nth undef T 3), (nth undef T 4), x2, x3, x3, x4, x3, x6, x8, x3, (nth undef T 0), x9, x11, x12, x12, x13, x15, x17, x19, x21, x21, x22, x24, x26, x28, (nth undef T 40)], G27)) (
  bP (gBinF Q .add 3 (.tmp 13) (.const (.int .i64 1)) (nth undef T 4) (.int .i64 1)) fun x29 =>
  (E orc).lp (subAt [1, 1, 0, 1, 0, 0] (bodyOf Try.f5)) [(nth undef T 0), (nth undef T 1), (nth undef T 2), (nth undef T 3), x29, x3, (nth undef T 6), (nth undef T 7), (nth undef T 8), (nth undef T 4), (nth undef T 3), x0, x1, (nth undef T 4), x29, (nth undef T 3), (nth undef T 4), x2, x3, x3, x4, x3, x6, x8, x3, (nth undef T 0), x9, x11, x12, x12, x13, x15, x17, x19, x21, x21, x22, x24, x26, x28, (nth undef T 40)] G27)) (
  some ((.exit 0), [(nth undef T 0), (nth undef T 1), (nth undef T 2), (nth undef T 3), (nth undef T 4), (nth undef T 5), (nth undef T 6), (nth undef T 7), (nth undef T 8), (nth undef T 4), (nth undef T 3), x0, x1, (nth undef T 13), (nth undef T 14), (nth undef T 15), (nth undef T 16), (nth undef T 17), (nth undef T 18), (nth undef T 19), (nth undef T 20), (nth undef T 21), (nth undef T 22), (nth undef T 23), (nth undef T 24), (nth undef T 25), (nth undef T 26), (nth undef T 27), (nth undef T 28), (nth undef T 29), (nth undef T 30), (nth undef T 31), (nth undef T 32), (nth undef T 33), (nth undef T 34), (nth undef T 35), (nth undef T 36), (nth undef T 37), (nth undef T 38), (nth undef T 39), (nth undef T 40)], G))
theorem l5_0 (orc : FuncId → Bool) (T : List Value) (G : GS) (hT : T.length = 41) {r : Exit × List Value × GS} (h : b5_0 orc T G = some r) : (E orc).lp (subAt [1, 1, 0, 1, 0, 0] (bodyOf Try.f5)) T G = some r :=
  lp_sxE Q orc G hT (by kernel_rfl) h
/-- coxswain/coxswainlaw03.DrawKnown -/
noncomputable def s6 (orc : FuncId → Bool) (G : GS) : Option (Value × GS) :=
  bS ((E orc).cl 20 [(.int .i64 0), (.int .i64 4)] G) fun x0 G1 =>
  bP (gBinF Q .eql 3 (.tmp 7) (.const (.int .i64 1)) x0 (.int .i64 1)) fun x2 =>
  bS (gd x2 true (bS ((E orc).cl 20 [(.int .i64 1), (.int .i64 4)] G1) fun y G => some (y, G)) G1) fun x3 G4 =>
  bS (gd x2 true (bP (gBinF Q .eql 3 (.tmp 10) (.const (.int .i64 2)) x3 (.int .i64 2)) fun y => some (y, G4)) G4) fun x5 G6 =>
  bP (pickV x2 x5 (.bool false)) fun x7 =>
  bS (gd x7 true (bS ((E orc).cl 20 [(.int .i64 5), (.int .i64 4)] G6) fun y G => some (y, G)) G6) fun x8 G9 =>
  bS (gd x7 true (bP (gBinF Q .eql 3 (.tmp 14) (.const (.int .i64 2)) x8 (.int .i64 2)) fun y => some (y, G9)) G9) fun x10 G11 =>
  bP (pickV x7 x10 (.bool false)) fun x12 =>
  bS (gd x12 true (bS ((E orc).cl 20 [(.int .i64 (-1)), (.int .i64 4)] G11) fun y G => some (y, G)) G11) fun x13 G14 =>
  bS (gd x12 true (bP (gBinF Q .eql 3 (.tmp 18) (.const (.int .i64 4)) x13 (.int .i64 4)) fun y => some (y, G14)) G14) fun x15 G16 =>
  bP (pickV x12 x15 (.bool false)) fun x17 =>
  bS (gd x17 true (bS ((E orc).cl 20 [(.int .i64 7), (.int .i64 2)] G16) fun y G => some (y, G)) G16) fun x18 G19 =>
  bS (gd x17 true (bP (gBinF Q .eql 3 (.tmp 22) (.const (.int .i64 2)) x18 (.int .i64 2)) fun y => some (y, G19)) G19) fun x20 G21 =>
  bP (pickV x17 x20 (.bool false)) fun x22 =>
  bS (gd x22 true (bS ((E orc).cl 20 [(.int .i64 7), (.int .i64 0)] G21) fun y G => some (y, G)) G21) fun x23 G24 =>
  bS (gd x22 true (bP (gBinF Q .eql 3 (.tmp 26) (.const (.int .i64 1)) x23 (.int .i64 1)) fun y => some (y, G24)) G24) fun x25 G26 =>
  bP (pickV x22 x25 (.bool false)) fun x27 =>
  bS (mBuildV Q 22 4 [(0, (.int .i64 1)), (1, (.int .i64 2)), (2, (.int .i64 3)), (3, (.int .i64 4))] G26) fun x28 G29 =>
  bS ((E orc).cl 22 [x28] G29) fun x30 G31 =>
  bP (pExtract x30 0) fun x32 =>
  bP (pExtract x30 1) fun x33 =>
  bS (mMake Q 22 (.int .i64 4097) (.int .i64 4097) G31) fun x34 G35 =>
  bS ((E orc).cl 22 [x34] G35) fun x36 G37 =>
  bP (pExtract x36 0) fun x38 =>
  bP (pExtract x36 1) fun x39 =>
  bP (gBinF Q .neq 32 (.tmp 39) (.const (.int .i64 0)) x33 (.int .i64 0)) fun x40 =>
  bS (gd x40 false (some (x32, G37)) G37) fun x41 G42 =>
  bS (gd x40 false (bP (gBinF Q .eql 31 (.tmp 42) (.const (.pointer none)) x41 (.pointer none)) fun y => some (y, G42)) G42) fun x43 G44 =>
  bP (pickV x40 (.bool true) x43) fun x45 =>
  ifV x45 (
  some ((.bool false), G44)) (
  bS ((E orc).cl 27 [x32, (.int .i64 2)] G44) fun x46 G47 =>
  bP (gBinF Q .eql 3 (.tmp 46) (.const (.int .i64 2)) x46 (.int .i64 2)) fun x48 =>
  bS (gd x48 true (some (x32, G47)) G47) fun x49 G50 =>
  bS (gd x48 true (bS ((E orc).cl 24 [x49] G50) fun y G => some (y, G)) G50) fun x51 G52 =>
  bS (gd x48 true (bP (gBinF Q .eql 3 (.tmp 50) (.const (.int .i64 3)) x51 (.int .i64 3)) fun y => some (y, G52)) G52) fun x53 G54 =>
  bP (pickV x48 x53 (.bool false)) fun x55 =>
  bS (gd x55 true (some (x32, G54)) G54) fun x56 G57 =>
  bS (gd x55 true (bS ((E orc).cl 27 [x56, (.int .i64 9)] G57) fun y G => some (y, G)) G57) fun x58 G59 =>
  bS (gd x55 true (bP (gBinF Q .eql 3 (.tmp 55) (.const (.int .i64 1)) x58 (.int .i64 1)) fun y => some (y, G59)) G59) fun x60 G61 =>
  bP (pickV x55 x60 (.bool false)) fun x62 =>
  bS (gd x62 true (some (x32, G61)) G61) fun x63 G64 =>
  bS (gd x62 true (bS ((E orc).cl 27 [x63, (.int .i64 (-1))] G64) fun y G => some (y, G)) G64) fun x65 G66 =>
  bS (gd x62 true (bP (gBinF Q .eql 3 (.tmp 60) (.const (.int .i64 0)) x65 (.int .i64 0)) fun y => some (y, G66)) G66) fun x67 G68 =>
  bP (pickV x62 x67 (.bool false)) fun x69 =>
  bS (gd x69 true (some (x32, G68)) G68) fun x70 G71 =>
  bS (gd x69 true (bS ((E orc).cl 24 [x70] G71) fun y G => some (y, G)) G71) fun x72 G73 =>
  bS (gd x69 true (bP (gBinF Q .eql 3 (.tmp 65) (.const (.int .i64 0)) x72 (.int .i64 0)) fun y => some (y, G73)) G73) fun x74 G75 =>
  bP (pickV x69 x74 (.bool false)) fun x76 =>
  bS ((E orc).cl 14 [] G75) fun x77 G78 =>
  bS (gd x77 true (some (x27, G78)) G78) fun x79 G80 =>
  bP (pickV x77 x79 (.bool false)) fun x81 =>
  bS (gd x81 true (some (x76, G80)) G80) fun x82 G83 =>
  bP (pickV x81 x82 (.bool false)) fun x84 =>
  bS (gd x84 true (some (x39, G83)) G83) fun x85 G86 =>
  bS (gd x84 true (bP (gBinF Q .eql 32 (.tmp 76) (.const (.int .i64 4)) x85 (.int .i64 4)) fun y => some (y, G86)) G86) fun x87 G88 =>
  bP (pickV x84 x87 (.bool false)) fun x89 =>
  bS (gd x89 true (bS (mBuildV Q 22 3 [(0, (.int .i64 0)), (1, (.int .i64 1)), (2, (.int .i64 3))] G88) fun y G => some (y, G)) G88) fun x90 G91 =>
  bS (gd x89 true (bS ((E orc).cl 16 [x90, (.int .i64 2)] G91) fun y G => some (y, G)) G91) fun x92 G93 =>
  bS (gd x89 true (bS (mBuildV Q 22 3 [(0, (.int .i64 1)), (1, (.int .i64 2)), (2, (.int .i64 2))] G93) fun y G => some (y, G)) G93) fun x94 G95 =>
  bS (gd x89 true (bS ((E orc).cl 17 [x92, x94] G95) fun y G => some (y, G)) G95) fun x96 G97 =>
  bP (pickV x89 x96 (.bool false)) fun x98 =>
  some (x98, G97))
theorem c6 (orc : FuncId → Bool) (ho : orc 6 = false) (G : GS) : (E orc).cl 6 [] G = s6 orc  G :=
  cl_sxE Q orc (vs := []) G Try.func6 (by kernel_rfl) (by kernel_rfl) ho (by kernel_rfl) (by kernel_rfl) (by kernel_rfl)
/-- coxswain/coxswainlaw03.DrawRange -/
noncomputable def s7 (orc : FuncId → Bool) (v0 v1 v2 : Value) (G : GS) : Option (Value × GS) :=
  bS ((E orc).cl 6 [] G) fun x0 G1 =>
  bS ((E orc).cl 20 [v0, v1] G1) fun x2 G3 =>
  bS ((E orc).cl 20 [v0, v2] G3) fun x4 G5 =>
  bP (gBinF Q .lss 3 (.tmp 17) (.const (.int .i64 1)) x2 (.int .i64 1)) fun x6 =>
  bS (gd x6 false (some (x2, G5)) G5) fun x7 G8 =>
  bS (gd x6 false (some (v1, G8)) G8) fun x9 G10 =>
  bS (gd x6 false (bP (maxV Q #[3, 3] [(.int .i64 1), x9]) fun y => some (y, G10)) G10) fun x11 G12 =>
  bS (gd x6 false (bP (gBinF Q .gtr 3 (.tmp 20) (.tmp 22) x7 x11) fun y => some (y, G12)) G12) fun x13 G14 =>
  bP (pickV x6 (.bool true) x13) fun x15 =>
  bS (gd x15 false (some (v1, G14)) G14) fun x16 G17 =>
  bS (gd x15 false (some (v2, G17)) G17) fun x18 G19 =>
  bS (gd x15 false (bP (gBinF Q .leq 3 (.tmp 26) (.tmp 27) x16 x18) fun y => some (y, G19)) G19) fun x20 G21 =>
  bS (gd x15 false (some (x20, G21)) G21) fun x22 G23 =>
  bS (gd x22 true (some (x4, G23)) G23) fun x24 G25 =>
  bS (gd x22 true (some (x2, G25)) G25) fun x26 G27 =>
  bS (gd x22 true (bP (gBinF Q .lss 3 (.tmp 30) (.tmp 31) x24 x26) fun y => some (y, G27)) G27) fun x28 G29 =>
  bS (gd x15 false (bP (pickV x22 x28 (.bool false)) fun y => some (y, G29)) G29) fun x30 G31 =>
  bP (pickV x15 (.bool true) x30) fun x32 =>
  ifV x32 (
  some ((.bool false), G31)) (
  bS (gd x0 true (some (x2, G31)) G31) fun x33 G34 =>
  bS (gd x0 true (some (v0, G34)) G34) fun x35 G36 =>
  bS (gd x0 true (bS ((E orc).cl 20 [x35, (.int .i64 65)] G36) fun y G => some (y, G)) G36) fun x37 G38 =>
  bS (gd x0 true (some (v1, G38)) G38) fun x39 G40 =>
  bS (gd x0 true (bP (maxV Q #[3, 3] [(.int .i64 1), x39]) fun y => some (y, G40)) G40) fun x41 G42 =>
  bS (gd x0 true (bP (minV Q #[3, 3] [x37, x41]) fun y => some (y, G42)) G42) fun x43 G44 =>
  bS (gd x0 true (bP (gBinF Q .eql 3 (.tmp 37) (.tmp 42) x33 x43) fun y => some (y, G44)) G44) fun x45 G46 =>
  bP (pickV x0 x45 (.bool false)) fun x47 =>
  some (x47, G46))
theorem c7 (orc : FuncId → Bool) (v0 v1 v2 : Value) (G : GS) : (E orc).cl 7 [v0, v1, v2] G = s7 orc v0 v1 v2 G :=
  cl_sxE Q orc (vs := [v0, v1, v2]) G Try.func7 (by kernel_rfl) (by kernel_rfl) (by kernel_rfl) (by kernel_rfl) (by kernel_rfl) (by kernel_rfl)
/-- coxswain/coxswainlaw03.DrawSkips -/
noncomputable def s8 (orc : FuncId → Bool) (v0 v1 : Value) (G : GS) : Option (Value × GS) :=
  bS ((E orc).cl 6 [] G) fun x0 G1 =>
  bP (gLen Q 22 v0) fun x2 =>
  bP (gBinF Q .gtr 3 (.tmp 14) (.const (.int .i64 200)) x2 (.int .i64 200)) fun x3 =>
  ifV x3 (
  some (x0, G1)) (
  bS ((E orc).cl 32 [v1, (.int .i64 210)] G1) fun x4 G5 =>
  bS ((E orc).cl 22 [v0] G5) fun x6 G7 =>
  bP (pExtract x6 0) fun x8 =>
  bP (pExtract x6 1) fun x9 =>
  bS ((E orc).cl 22 [v0] G7) fun x10 G11 =>
  bP (pExtract x10 0) fun x12 =>
  bP (pExtract x10 1) fun x13 =>
  bP (gBinF Q .neq 32 (.tmp 29) (.const (.int .i64 0)) x9 (.int .i64 0)) fun x14 =>
  bS (gd x14 false (some (x13, G11)) G11) fun x15 G16 =>
  bS (gd x14 false (bP (gBinF Q .neq 32 (.tmp 32) (.const (.int .i64 0)) x15 (.int .i64 0)) fun y => some (y, G16)) G16) fun x17 G18 =>
  bP (pickV x14 (.bool true) x17) fun x19 =>
  bS (gd x19 false (some (x8, G18)) G18) fun x20 G21 =>
  bS (gd x19 false (bP (gBinF Q .eql 31 (.tmp 36) (.const (.pointer none)) x20 (.pointer none)) fun y => some (y, G21)) G21) fun x22 G23 =>
  bP (pickV x19 (.bool true) x22) fun x24 =>
  bS (gd x24 false (some (x12, G23)) G23) fun x25 G26 =>
  bS (gd x24 false (bP (gBinF Q .eql 31 (.tmp 40) (.const (.pointer none)) x25 (.pointer none)) fun y => some (y, G26)) G26) fun x27 G28 =>
  bP (pickV x24 (.bool true) x27) fun x29 =>
  ifV x29 (
  some ((.bool false), G28)) (
  bX ((E orc).lp (subAt [1, 1, 1, 1, 1, 1, 1, 0, 1, 0, 0] (bodyOf Try.f8)) [v0, x4, undef, undef, (.bool false), x0, x8, x9, x12, x13, (.int .i64 0), undef, x0, v0, x2, x3, undef, v1, x4, x6, v0, x6, x8, x9, x10, v0, x10, x12, x13, x9, x14, x14, x15, x17, x19, x19, x20, x22, x24, x24, x25, x27, x29, undef, undef, undef, undef, undef, undef, undef, undef, undef, undef, undef, undef, undef, undef, undef, undef, undef, undef, undef, undef, undef, undef, undef, undef, undef, undef, undef, undef, undef, undef, undef, undef, undef, undef, undef, undef, undef, undef, undef, undef] G28) fun e30 T31 G32 =>
  ifE e30 (.exit 0) (
  bS ((E orc).cl 27 [(nth undef T31 6), (nth undef T31 1)] G32) fun x33 G34 =>
  bP (gLen Q 22 (nth undef T31 0)) fun x35 =>
  bP (minV Q #[3, 3] [(nth undef T31 1), x35]) fun x36 =>
  bP (gBinF Q .neq 3 (.tmp 52) (.tmp 56) x33 x36) fun x37 =>
  ifV x37 (
  some ((.bool false), G34)) (
  bX ((E orc).lp (subAt [1, 1, 1, 1, 1, 1, 1, 1, 1, 0, 1, 0, 0] (bodyOf Try.f8)) [(nth undef T31 0), (nth undef T31 1), (nth undef T31 2), (nth undef T31 3), (nth undef T31 4), (nth undef T31 5), (nth undef T31 6), (nth undef T31 7), (nth undef T31 8), (nth undef T31 9), (nth undef T31 10), (.int .i64 0), (nth undef T31 12), (nth undef T31 13), (nth undef T31 14), (nth undef T31 15), (nth undef T31 16), (nth undef T31 17), (nth undef T31 18), (nth undef T31 19), (nth undef T31 20), (nth undef T31 21), (nth undef T31 22), (nth undef T31 23), (nth undef T31 24), (nth undef T31 25), (nth undef T31 26), (nth undef T31 27), (nth undef T31 28), (nth undef T31 29), (nth undef T31 30), (nth undef T31 31), (nth undef T31 32), (nth undef T31 33), (nth undef T31 34), (nth undef T31 35), (nth undef T31 36), (nth undef T31 37), (nth undef T31 38), (nth undef T31 39), (nth undef T31 40), (nth undef T31 41), (nth undef T31 42), (nth undef T31 43), (nth undef T31 44), (nth undef T31 45), (nth undef T31 46), (nth undef T31 47), (nth undef T31 48), (nth undef T31 49), (nth undef T31 6), (nth undef T31 1), x33, (nth undef T31 1), (nth undef T31 0), x35, x36, x37, (nth undef T31 58), (nth undef T31 59), (nth undef T31 60), (nth undef T31 61), (nth undef T31 62), (nth undef T31 63), (nth undef T31 64), (nth undef T31 65), (nth undef T31 66), (nth undef T31 67), (nth undef T31 68), (nth undef T31 69), (nth undef T31 70), (nth undef T31 71), (nth undef T31 72), (nth undef T31 73), (nth undef T31 74), (nth undef T31 75), (nth undef T31 76), (nth undef T31 77), (nth undef T31 78), (nth undef T31 79), (nth undef T31 80), (nth undef T31 81), (nth undef T31 82)] G34) fun e38 T39 G40 =>
  ifE e38 (.exit 2) (
  bS (gd (nth undef T39 5) true (some ((nth undef T39 6), G40)) G40) fun x41 G42 =>
  bS (gd (nth undef T39 5) true (bS ((E orc).cl 30 [x41] G42) fun y G => some (y, G)) G42) fun x43 G44 =>
  bS (gd (nth undef T39 5) true (bP (gBinF Q .eql 3 (.tmp 80) (.const (.int .i64 0)) x43 (.int .i64 0)) fun y => some (y, G44)) G44) fun x45 G46 =>
  bP (pickV (nth undef T39 5) x45 (.bool false)) fun x47 =>
  some (x47, G46)) (ifE e38 .ret (
  some ((nth undef T39 4), G40)) (none)))) (none)))
theorem c8 (orc : FuncId → Bool) (v0 v1 : Value) (G : GS) {r : Value × GS} (h : s8 orc v0 v1 G = some r) : (E orc).cl 8 [v0, v1] G = some r :=
  cl_sxE_some Q orc (vs := [v0, v1]) G Try.func8 (by kernel_rfl) (by kernel_rfl) (by kernel_rfl) (by kernel_rfl) (by kernel_rfl) h
noncomputable def b8_0 (orc : FuncId → Bool) (T : List Value) (G : GS) : Option (Exit × List Value × GS) :=
  bP (gBinF Q .lss 3 (.tmp 43) (.tmp 44) (nth undef T 10) (nth undef T 1)) fun x0 =>
  ifV x0 (
  bS ((E orc).cl 24 [(nth undef T 8)] G) fun x1 G2 =>
  bP (gBinF Q .add 3 (.tmp 46) (.const (.int .i64 1)) (nth undef T 10) (.int .i64 1)) fun x3 =>
  (E orc).lp (subAt [1, 1, 1, 1, 1, 1, 1, 0, 1, 0, 0] (bodyOf Try.f8)) [(nth undef T 0), (nth undef T 1), (nth undef T 2), (nth undef T 3), (nth undef T 4), (nth undef T 5), (nth undef T 6), (nth undef T 7), (nth undef T 8), (nth undef T 9), x3, (nth undef T 11), (nth undef T 12), (nth undef T 13), (nth undef T 14), (nth undef T 15), (nth undef T 16), (nth undef T 17), (nth undef T 18), (nth undef T 19), (nth undef T 20), (nth undef T 21), (nth undef T 22), (nth undef T 23), (nth undef T 24), (nth undef T 25), (nth undef T 26), (nth undef T 27), (nth undef T 28), (nth undef T 29), (nth undef T 30), (nth undef T 31), (nth undef T 32), (nth undef T 33), (nth undef T 34), (nth undef T 35), (nth undef T 36), (nth undef T 37), (nth undef T 38), (nth undef T 39), (nth undef T 40), (nth undef T 41), (nth undef T 42), (nth undef T 10), (nth undef T 1), x0, (nth undef T 10), x3, (nth undef T 8), x1, (nth undef T 50), (nth undef T 51), (nth undef T 52), (nth undef T 53), (nth undef T 54), (nth undef T 55), (nth undef T 56), (nth undef T 57), (nth undef T 58), (nth undef T 59), (nth undef T 60), (nth undef T 61), (nth undef T 62), (nth undef T 63), (nth undef T 64), (nth undef T 65), (nth undef T 66), (nth undef T 67), (nth undef T 68), (nth undef T 69), (nth undef T 70), (nth undef T 71), (nth undef T 72), (nth undef T 73), (nth undef T 74), (nth undef T 75), (nth undef T 76), (nth undef T 77), (nth undef T 78), (nth undef T 79), (nth undef T 80), (nth undef T 81), (nth undef T 82)] G2) (
  some ((.exit 0), [(nth undef T 0), (nth undef T 1), (nth undef T 2), (nth undef T 3), (nth undef T 4), (nth undef T 5), (nth undef T 6), (nth undef T 7), (nth undef T 8), (nth undef T 9), (nth undef T 10), (nth undef T 11), (nth undef T 12), (nth undef T 13), (nth undef T 14), (nth undef T 15), (nth undef T 16), (nth undef T 17), (nth undef T 18), (nth undef T 19), (nth undef T 20), (nth undef T 21), (nth undef T 22), (nth undef T 23), (nth undef T 24), (nth undef T 25), (nth undef T 26), (nth undef T 27), (nth undef T 28), (nth undef T 29), (nth undef T 30), (nth undef T 31), (nth undef T 32), (nth undef T 33), (nth undef T 34), (nth undef T 35), (nth undef T 36), (nth undef T 37), (nth undef T 38), (nth undef T 39), (nth undef T 40), (nth undef T 41), (nth undef T 42), (nth undef T 10), (nth undef T 1), x0, (nth undef T 46), (nth undef T 47), (nth undef T 48), (nth undef T 49), (nth undef T 50), (nth undef T 51), (nth undef T 52), (nth undef T 53), (nth undef T 54), (nth undef T 55), (nth undef T 56), (nth undef T 57), (nth undef T 58), (nth undef T 59), (nth undef T 60), (nth undef T 61), (nth undef T 62), (nth undef T 63), (nth undef T 64), (nth undef T 65), (nth undef T 66), (nth undef T 67), (nth undef T 68), (nth undef T 69), (nth undef T 70), (nth undef T 71), (nth undef T 72), (nth undef T 73), (nth undef T 74), (nth undef T 75), (nth undef T 76), (nth undef T 77), (nth undef T 78), (nth undef T 79), (nth undef T 80), (nth undef T 81), (nth undef T 82)], G))
theorem l8_0 (orc : FuncId → Bool) (T : List Value) (G : GS) (hT : T.length = 83) {r : Exit × List Value × GS} (h : b8_0 orc T G = some r) : (E orc).lp (subAt [1, 1, 1, 1, 1, 1, 1, 0, 1, 0, 0] (bodyOf Try.f8)) T G = some r :=
  lp_sxE Q orc G hT (by kernel_rfl) h
noncomputable def b8_1 (orc : FuncId → Bool) (T : List Value) (G : GS) : Option (Exit × List Value × GS) :=
  bP (gLen Q 22 (nth undef T 0)) fun x0 =>
  bP (gBinF Q .add 3 (.tmp 60) (.const (.int .i64 1)) x0 (.int .i64 1)) fun x1 =>
  bP (gBinF Q .lss 3 (.tmp 58) (.tmp 61) (nth undef T 11) x1) fun x2 =>
  ifV x2 (
  bS ((E orc).cl 30 [(nth undef T 6)] G) fun x3 G4 =>
  bS ((E orc).cl 30 [(nth undef T 8)] G4) fun x5 G6 =>
  bP (gBinF Q .neq 3 (.tmp 66) (.tmp 68) x3 x5) fun x7 =>
  bS (gd x7 false (some ((nth undef T 6), G6)) G6) fun x8 G9 =>
  bS (gd x7 false (bS ((E orc).cl 24 [x8] G9) fun y G => some (y, G)) G9) fun x10 G11 =>
  bS (gd x7 false (some ((nth undef T 8), G11)) G11) fun x12 G13 =>
  bS (gd x7 false (bS ((E orc).cl 24 [x12] G13) fun y G => some (y, G)) G13) fun x14 G15 =>
  bS (gd x7 false (bP (gBinF Q .neq 3 (.tmp 72) (.tmp 74) x10 x14) fun y => some (y, G15)) G15) fun x16 G17 =>
  bP (pickV x7 (.bool true) x16) fun x18 =>
  ifV x18 (
  some (.ret, [(nth undef T 0), (nth undef T 1), (nth undef T 2), (nth undef T 3), (.bool false), (nth undef T 5), (nth undef T 6), (nth undef T 7), (nth undef T 8), (nth undef T 9), (nth undef T 10), (nth undef T 11), (nth undef T 12), (nth undef T 13), (nth undef T 14), (nth undef T 15), (nth undef T 16), (nth undef T 17), (nth undef T 18), (nth undef T 19), (nth undef T 20), (nth undef T 21), (nth undef T 22), (nth undef T 23), (nth undef T 24), (nth undef T 25), (nth undef T 26), (nth undef T 27), (nth undef T 28), (nth undef T 29), (nth undef T 30), (nth undef T 31), (nth undef T 32), (nth undef T 33), (nth undef T 34), (nth undef T 35), (nth undef T 36), (nth undef T 37), (nth undef T 38), (nth undef T 39), (nth undef T 40), (nth undef T 41), (nth undef T 42), (nth undef T 43), (nth undef T 44), (nth undef T 45), (nth undef T 46), (nth undef T 47), (nth undef T 48), (nth undef T 49), (nth undef T 50), (nth undef T 51), (nth undef T 52), (nth undef T 53), (nth undef T 54), (nth undef T 55), (nth undef T 56), (nth undef T 57), (nth undef T 11), (nth undef T 0), x0, x1, x2, (nth undef T 63), (nth undef T 64), (nth undef T 6), x3, (nth undef T 8), x5, x7, x7, x8, x10, x12, x14, x16, x18, (nth undef T 77), (nth undef T 78), (nth undef T 79), (nth undef T 80), (nth undef T 81), (nth undef T 82)], G17)) (
  bP (gBinF Q .add 3 (.tmp 63) (.const (.int .i64 1)) (nth undef T 11) (.int .i64 1)) fun x19 =>
  (E orc).lp (subAt [1, 1, 1, 1, 1, 1, 1, 1, 1, 0, 1, 0, 0] (bodyOf Try.f8)) [(nth undef T 0), (nth undef T 1), (nth undef T 2), (nth undef T 3), (nth undef T 4), (nth undef T 5), (nth undef T 6), (nth undef T 7), (nth undef T 8), (nth undef T 9), (nth undef T 10), x19, (nth undef T 12), (nth undef T 13), (nth undef T 14), (nth undef T 15), (nth undef T 16), (nth undef T 17), (nth undef T 18), (nth undef T 19), (nth undef T 20), (nth undef T 21), (nth undef T 22), (nth undef T 23), (nth undef T 24), (nth undef T 25), (nth undef T 26), (nth undef T 27), (nth undef T 28), (nth undef T 29), (nth undef T 30), (nth undef T 31), (nth undef T 32), (nth undef T 33), (nth undef T 34), (nth undef T 35), (nth undef T 36), (nth undef T 37), (nth undef T 38), (nth undef T 39), (nth undef T 40), (nth undef T 41), (nth undef T 42), (nth undef T 43), (nth undef T 44), (nth undef T 45), (nth undef T 46), (nth undef T 47), (nth undef T 48), (nth undef T 49), (nth undef T 50), (nth undef T 51), (nth undef T 52), (nth undef T 53), (nth undef T 54), (nth undef T 55), (nth undef T 56), (nth undef T 57), (nth undef T 11), (nth undef T 0), x0, x1, x2, (nth undef T 11), x19, (nth undef T 6), x3, (nth undef T 8), x5, x7, x7, x8, x10, x12, x14, x16, x18, (nth undef T 77), (nth undef T 78), (nth undef T 79), (nth undef T 80), (nth undef T 81), (nth undef T 82)] G17)) (
  some ((.exit 2), [(nth undef T 0), (nth undef T 1), (nth undef T 2), (nth undef T 3), (nth undef T 4), (nth undef T 5), (nth undef T 6), (nth undef T 7), (nth undef T 8), (nth undef T 9), (nth undef T 10), (nth undef T 11), (nth undef T 12), (nth undef T 13), (nth undef T 14), (nth undef T 15), (nth undef T 16), (nth undef T 17), (nth undef T 18), (nth undef T 19), (nth undef T 20), (nth undef T 21), (nth undef T 22), (nth undef T 23), (nth undef T 24), (nth undef T 25), (nth undef T 26), (nth undef T 27), (nth undef T 28), (nth undef T 29), (nth undef T 30), (nth undef T 31), (nth undef T 32), (nth undef T 33), (nth undef T 34), (nth undef T 35), (nth undef T 36), (nth undef T 37), (nth undef T 38), (nth undef T 39), (nth undef T 40), (nth undef T 41), (nth undef T 42), (nth undef T 43), (nth undef T 44), (nth undef T 45), (nth undef T 46), (nth undef T 47), (nth undef T 48), (nth undef T 49), (nth undef T 50), (nth undef T 51), (nth undef T 52), (nth undef T 53), (nth undef T 54), (nth undef T 55), (nth undef T 56), (nth undef T 57), (nth undef T 11), (nth undef T 0), x0, x1, x2, (nth undef T 63), (nth undef T 64), (nth undef T 65), (nth undef T 66), (nth undef T 67), (nth undef T 68), (nth undef T 69), (nth undef T 70), (nth undef T 71), (nth undef T 72), (nth undef T 73), (nth undef T 74), (nth undef T 75), (nth undef T 76), (nth undef T 77), (nth undef T 78), (nth undef T 79), (nth undef T 80), (nth undef T 81), (nth undef T 82)], G))
theorem l8_1 (orc : FuncId → Bool) (T : List Value) (G : GS) (hT : T.length = 83) {r : Exit × List Value × GS} (h : b8_1 orc T G = some r) : (E orc).lp (subAt [1, 1, 1, 1, 1, 1, 1, 1, 1, 0, 1, 0, 0] (bodyOf Try.f8)) T G = some r :=
  lp_sxE Q orc G hT (by kernel_rfl) h
/-- coxswain/coxswainlaw06.FifoNext -/
noncomputable def s9 (orc : FuncId → Bool) (v0 v1 v2 v3 : Value) (G : GS) : Option (Value × GS) :=
  bS (mBox v2 G) fun x0 G1 =>
  bS (mBox v3 G1) fun x2 G3 =>
  bP (gLen Q 50 v1) fun x4 =>
  bP (gBinF Q .gtr 3 (.tmp 24) (.const (.int .i64 1100)) x4 (.int .i64 1100)) fun x5 =>
  ifV x5 (
  bS ((E orc).cl 33 [] G3) fun x6 G7 =>
  some (x6, G7)) (
  bS ((E orc).cl 34 [v1] G3) fun x8 G9 =>
  bP (gLoadF Q 53 x0 G9) fun x10 =>
  bS ((E orc).cl 35 [v0, x8, x10] G9) fun x11 G12 =>
  bP (pExtract x11 0) fun x13 =>
  bP (pExtract x11 1) fun x14 =>
  bS (mAlloc Q 55 G12) fun x15 G16 =>
  bP (gStore Q 55 x15 x13 G16) fun G17 =>
  bP (gLoadF Q 53 x0 G17) fun x18 =>
  bS ((E orc).cl 36 [v0, v1, x18] G17) fun x19 G20 =>
  bP (pExtract x19 0) fun x21 =>
  bP (pExtract x19 1) fun x22 =>
  bS (mAlloc Q 55 G20) fun x23 G24 =>
  bP (gStore Q 55 x23 x21 G24) fun G25 =>
  bP (gLoadF Q 53 x0 G25) fun x26 =>
  bP (gLoadF Q 55 x2 G25) fun x27 =>
  bS ((E orc).cl 37 [v0, x8, x26, x27] G25) fun x28 G29 =>
  bP (pExtract x28 0) fun x30 =>
  bP (pExtract x28 1) fun x31 =>
  bP (gLoadF Q 53 x0 G29) fun x32 =>
  bP (gLoadF Q 55 x2 G29) fun x33 =>
  bS ((E orc).cl 38 [v0, v1, x32, x33] G29) fun x34 G35 =>
  bP (pExtract x34 0) fun x36 =>
  bP (pExtract x34 1) fun x37 =>
  bP (gLoadF Q 53 x0 G35) fun x38 =>
  bP (gLoadF Q 55 x23 G35) fun x39 =>
  bS ((E orc).cl 37 [v0, x8, x38, x39] G35) fun x40 G41 =>
  bP (pExtract x40 0) fun x42 =>
  bP (pExtract x40 1) fun x43 =>
  bP (gLoadF Q 53 x0 G41) fun x44 =>
  bP (gLoadF Q 55 x23 G41) fun x45 =>
  bS ((E orc).cl 38 [v0, v1, x44, x45] G41) fun x46 G47 =>
  bP (pExtract x46 0) fun x48 =>
  bP (pExtract x46 1) fun x49 =>
  bP (gLoadF Q 55 x15 G47) fun x50 =>
  bP (gLoadF Q 55 x23 G47) fun x51 =>
  bP (gBinF Q .eql 55 (.tmp 75) (.tmp 76) x50 x51) fun x52 =>
  bS (gd x52 true (some (x14, G47)) G47) fun x53 G54 =>
  bS (gd x52 true (some (x22, G54)) G54) fun x55 G56 =>
  bS (gd x52 true (bP (gBinF Q .eql 4 (.tmp 79) (.tmp 80) x53 x55) fun y => some (y, G56)) G56) fun x57 G58 =>
  bP (pickV x52 x57 (.bool false)) fun x59 =>
  bS (gd x59 true (some (x30, G58)) G58) fun x60 G61 =>
  bS (gd x59 true (some (x36, G61)) G61) fun x62 G63 =>
  bS (gd x59 true (bS ((E orc).cl 39 [x60, x62] G63) fun y G => some (y, G)) G63) fun x64 G65 =>
  bP (pickV x59 x64 (.bool false)) fun x66 =>
  bS (gd x66 true (some (x31, G65)) G65) fun x67 G68 =>
  bS (gd x66 true (some (x37, G68)) G68) fun x69 G70 =>
  bS (gd x66 true (bP (gBinF Q .eql 4 (.tmp 89) (.tmp 90) x67 x69) fun y => some (y, G70)) G70) fun x71 G72 =>
  bP (pickV x66 x71 (.bool false)) fun x73 =>
  bS (gd x73 true (some (x42, G72)) G72) fun x74 G75 =>
  bS (gd x73 true (some (x48, G75)) G75) fun x76 G77 =>
  bS (gd x73 true (bS ((E orc).cl 39 [x74, x76] G77) fun y G => some (y, G)) G77) fun x78 G79 =>
  bP (pickV x73 x78 (.bool false)) fun x80 =>
  bS (gd x80 true (some (x43, G79)) G79) fun x81 G82 =>
  bS (gd x80 true (some (x49, G82)) G82) fun x83 G84 =>
  bS (gd x80 true (bP (gBinF Q .eql 4 (.tmp 99) (.tmp 100) x81 x83) fun y => some (y, G84)) G84) fun x85 G86 =>
  bP (pickV x80 x85 (.bool false)) fun x87 =>
  bS (gd x87 true (some (v0, G86)) G86) fun x88 G89 =>
  bS (gd x87 true (some (x8, G89)) G89) fun x90 G91 =>
  bS (gd x87 true (bS ((E orc).cl 40 [x88, x90] G91) fun y G => some (y, G)) G91) fun x92 G93 =>
  bS (gd x87 true (some (v0, G93)) G93) fun x94 G95 =>
  bS (gd x87 true (some (v1, G95)) G95) fun x96 G97 =>
  bS (gd x87 true (bS ((E orc).cl 41 [x94, x96] G97) fun y G => some (y, G)) G97) fun x98 G99 =>
  bS (gd x87 true (bP (gBinF Q .eql 32 (.tmp 106) (.tmp 109) x92 x98) fun y => some (y, G99)) G99) fun x100 G101 =>
  bP (pickV x87 x100 (.bool false)) fun x102 =>
  bS ((E orc).cl 42 [x30] G101) fun x103 G104 =>
  bS ((E orc).cl 42 [x42] G104) fun x105 G106 =>
  bS (gd x102 true (some (x8, G106)) G106) fun x107 G108 =>
  bS (gd x102 true (some (v1, G108)) G108) fun x109 G110 =>
  bS (gd x102 true (bS ((E orc).cl 39 [x107, x109] G110) fun y G => some (y, G)) G110) fun x111 G112 =>
  bP (pickV x102 x111 (.bool false)) fun x113 =>
  bS (gd x113 true (bS ((E orc).cl 33 [] G112) fun y G => some (y, G)) G112) fun x114 G115 =>
  bP (pickV x113 x114 (.bool false)) fun x116 =>
  some (x116, G115))
theorem c9 (orc : FuncId → Bool) (v0 v1 v2 v3 : Value) (G : GS) : (E orc).cl 9 [v0, v1, v2, v3] G = s9 orc v0 v1 v2 v3 G :=
  cl_sxE Q orc (vs := [v0, v1, v2, v3]) G Try.func9 (by kernel_rfl) (by kernel_rfl) (by kernel_rfl) (by kernel_rfl) (by kernel_rfl) (by kernel_rfl)
/-- coxswain/coxswainlaw06.FifoPlays -/
noncomputable def s10 (orc : FuncId → Bool) (v0 v1 : Value) (G : GS) : Option (Value × GS) :=
  bP (gLen Q 65 v1) fun x0 =>
  bP (gBinF Q .gtr 3 (.tmp 14) (.const (.int .i64 80)) x0 (.int .i64 80)) fun x1 =>
  ifV x1 (
  bS ((E orc).cl 33 [] G) fun x2 G3 =>
  some (x2, G3)) (
  bS ((E orc).cl 43 [v1] G) fun x4 G5 =>
  bS ((E orc).cl 44 [v0, x4] G5) fun x6 G7 =>
  bP (pExtract x6 0) fun x8 =>
  bP (pExtract x6 1) fun x9 =>
  bP (pExtract x6 2) fun x10 =>
  bS ((E orc).cl 45 [v0, v1] G7) fun x11 G12 =>
  bP (pExtract x11 0) fun x13 =>
  bP (pExtract x11 1) fun x14 =>
  bP (pExtract x11 2) fun x15 =>
  bS ((E orc).cl 46 [x8, x13] G12) fun x16 G17 =>
  bS (gd x16 true (some (x9, G17)) G17) fun x18 G19 =>
  bS (gd x16 true (some (x14, G19)) G19) fun x20 G21 =>
  bS (gd x16 true (bS ((E orc).cl 39 [x18, x20] G21) fun y G => some (y, G)) G21) fun x22 G23 =>
  bP (pickV x16 x22 (.bool false)) fun x24 =>
  bS (gd x24 true (some (x10, G23)) G23) fun x25 G26 =>
  bS (gd x24 true (some (x15, G26)) G26) fun x27 G28 =>
  bS (gd x24 true (bP (gBinF Q .eql 32 (.tmp 42) (.tmp 43) x25 x27) fun y => some (y, G28)) G28) fun x29 G30 =>
  bP (pickV x24 x29 (.bool false)) fun x31 =>
  bS ((E orc).cl 47 [x8] G30) fun x32 G33 =>
  bS ((E orc).cl 42 [x9] G33) fun x34 G35 =>
  bS (gd x31 true (some (x4, G35)) G35) fun x36 G37 =>
  bS (gd x31 true (some (v1, G37)) G37) fun x38 G39 =>
  bS (gd x31 true (bS ((E orc).cl 48 [x36, x38] G39) fun y G => some (y, G)) G39) fun x40 G41 =>
  bP (pickV x31 x40 (.bool false)) fun x42 =>
  bS (gd x42 true (bS ((E orc).cl 33 [] G41) fun y G => some (y, G)) G41) fun x43 G44 =>
  bP (pickV x42 x43 (.bool false)) fun x45 =>
  some (x45, G44))
theorem c10 (orc : FuncId → Bool) (v0 v1 : Value) (G : GS) : (E orc).cl 10 [v0, v1] G = s10 orc v0 v1 G :=
  cl_sxE Q orc (vs := [v0, v1]) G Try.func10 (by kernel_rfl) (by kernel_rfl) (by kernel_rfl) (by kernel_rfl) (by kernel_rfl) (by kernel_rfl)
/-- coxswain/coxswainlaw06.FifoKnown -/
noncomputable def s11 (orc : FuncId → Bool) (G : GS) : Option (Value × GS) :=
  bS (mBuildV Q 50 2 [(0, (.int .u64 5)), (1, (.int .u64 7))] G) fun x0 G1 =>
  bS ((E orc).cl 49 [(.int .i64 4), (.int .u64 1)] G1) fun x2 G3 =>
  bS ((E orc).cl 35 [(.int .i64 2), x0, x2] G3) fun x4 G5 =>
  bP (pExtract x4 0) fun x6 =>
  bP (pExtract x4 1) fun x7 =>
  bS (mAlloc Q 55 G5) fun x8 G9 =>
  bP (gStore Q 55 x8 x6 G9) fun G10 =>
  bP (pUn Q .not x7) fun x11 =>
  bS (gd x11 true (bS (mBuildV Q 50 2 [(0, (.int .u64 5)), (1, (.int .u64 7))] G10) fun y G => some (y, G)) G10) fun x12 G13 =>
  bS (gd x11 true (bS ((E orc).cl 49 [(.int .i64 3), (.int .u64 0)] G13) fun y G => some (y, G)) G13) fun x14 G15 =>
  bS (gd x11 true (bS ((E orc).cl 50 [x12, x14, (.int .i64 0), (.int .u64 0)] G15) fun y G => some (y, G)) G15) fun x16 G17 =>
  bP (pickV x11 x16 (.bool false)) fun x18 =>
  bS (gd x18 true (bS (mBuildV Q 50 1 [(0, (.int .u64 5))] G17) fun y G => some (y, G)) G17) fun x19 G20 =>
  bS (gd x18 true (bS ((E orc).cl 49 [(.int .i64 1), (.int .u64 9)] G20) fun y G => some (y, G)) G20) fun x21 G22 =>
  bS (gd x18 true (bS ((E orc).cl 51 [x19, x21, (.int .i64 7), (.int .u64 0), (.bool false), (.slice none 0 0)] G22) fun y G => some (y, G)) G22) fun x23 G24 =>
  bP (pickV x18 x23 (.bool false)) fun x25 =>
  bS (gd x25 true (bS (mBuildV Q 50 1 [(0, (.int .u64 5))] G24) fun y G => some (y, G)) G24) fun x26 G27 =>
  bS (gd x25 true (bS ((E orc).cl 49 [(.int .i64 2), (.int .u64 0)] G27) fun y G => some (y, G)) G27) fun x28 G29 =>
  bS (gd x25 true (bS (mBuildV Q 50 1 [(0, (.int .u64 5))] G29) fun y G => some (y, G)) G29) fun x30 G31 =>
  bS (gd x25 true (bS ((E orc).cl 51 [x26, x28, (.int .i64 0), (.int .u64 5), (.bool true), x30] G31) fun y G => some (y, G)) G31) fun x32 G33 =>
  bP (pickV x25 x32 (.bool false)) fun x34 =>
  bS (gd x34 true (bS (mBuildV Q 50 1 [(0, (.int .u64 5))] G33) fun y G => some (y, G)) G33) fun x35 G36 =>
  bS (gd x34 true (bS ((E orc).cl 49 [(.int .i64 2), (.int .u64 0)] G36) fun y G => some (y, G)) G36) fun x37 G38 =>
  bS (gd x34 true (bS ((E orc).cl 51 [x35, x37, (.int .i64 0), (.int .u64 6), (.bool false), (.slice none 0 0)] G38) fun y G => some (y, G)) G38) fun x39 G40 =>
  bP (pickV x34 x39 (.bool false)) fun x41 =>
  bS (mBuildV Q 50 1 [(0, (.int .u64 5))] G40) fun x42 G43 =>
  bS ((E orc).cl 49 [(.int .i64 3), (.int .u64 0)] G43) fun x44 G45 =>
  bS ((E orc).cl 51 [x42, x44, (.int .i64 0), (.int .u64 0), (.bool true), (.slice none 0 0)] G45) fun x46 G47 =>
  bS (gd x46 true (bS ((E orc).cl 49 [(.int .i64 3), (.int .u64 0)] G47) fun y G => some (y, G)) G47) fun x48 G49 =>
  bS (gd x46 true (bS ((E orc).cl 51 [(.slice none 0 0), x48, (.int .i64 15), (.int .u64 0), (.bool true), (.slice none 0 0)] G49) fun y G => some (y, G)) G49) fun x50 G51 =>
  bP (pickV x46 x50 (.bool false)) fun x52 =>
  bS (gd x52 true (bS ((E orc).cl 40 [(.int .i64 0), (.slice none 0 0)] G51) fun y G => some (y, G)) G51) fun x53 G54 =>
  bS (gd x52 true (bP (gBinF Q .eql 32 (.tmp 45) (.const (.int .i64 3)) x53 (.int .i64 3)) fun y => some (y, G54)) G54) fun x55 G56 =>
  bP (pickV x52 x55 (.bool false)) fun x57 =>
  bS (gd x57 true (bS (mBuildV Q 50 2 [(0, (.int .u64 5)), (1, (.int .u64 7))] G56) fun y G => some (y, G)) G56) fun x58 G59 =>
  bS (gd x57 true (bS ((E orc).cl 40 [(.int .i64 1), x58] G59) fun y G => some (y, G)) G59) fun x60 G61 =>
  bS (gd x57 true (bP (gBinF Q .eql 32 (.tmp 50) (.const (.int .i64 7)) x60 (.int .i64 7)) fun y => some (y, G61)) G61) fun x62 G63 =>
  bP (pickV x57 x62 (.bool false)) fun x64 =>
  bS ((E orc).cl 49 [(.int .i64 1), (.int .u64 1)] G63) fun x65 G66 =>
  bS ((E orc).cl 49 [(.int .i64 1), (.int .u64 2)] G66) fun x67 G68 =>
  bS ((E orc).cl 49 [(.int .i64 1), (.int .u64 3)] G68) fun x69 G70 =>
  bS ((E orc).cl 49 [(.int .i64 2), (.int .u64 0)] G70) fun x71 G72 =>
  bS ((E orc).cl 49 [(.int .i64 3), (.int .u64 0)] G72) fun x73 G74 =>
  bS ((E orc).cl 49 [(.int .i64 1), (.int .u64 3)] G74) fun x75 G76 =>
  bS ((E orc).cl 49 [(.int .i64 3), (.int .u64 0)] G76) fun x77 G78 =>
  bS (mBuildV Q 65 7 [(0, x65), (1, x67), (2, x69), (3, x71), (4, x73), (5, x75), (6, x77)] G78) fun x79 G80 =>
  bS ((E orc).cl 44 [(.int .i64 2), x79] G80) fun x81 G82 =>
  bP (pExtract x81 0) fun x83 =>
  bP (pExtract x81 1) fun x84 =>
  bP (pExtract x81 2) fun x85 =>
  bS ((E orc).cl 33 [] G82) fun x86 G87 =>
  bS (gd x86 true (some (x41, G87)) G87) fun x88 G89 =>
  bP (pickV x86 x88 (.bool false)) fun x90 =>
  bS (gd x90 true (some (x64, G89)) G89) fun x91 G92 =>
  bP (pickV x90 x91 (.bool false)) fun x93 =>
  bS (gd x93 true (some (x85, G92)) G92) fun x94 G95 =>
  bS (gd x93 true (bP (gBinF Q .eql 32 (.tmp 74) (.const (.int .i64 0)) x94 (.int .i64 0)) fun y => some (y, G95)) G95) fun x96 G97 =>
  bP (pickV x93 x96 (.bool false)) fun x98 =>
  bS (gd x98 true (some (x84, G97)) G97) fun x99 G100 =>
  bS (gd x98 true (bS (mBuildV Q 50 1 [(0, (.int .u64 3))] G100) fun y G => some (y, G)) G100) fun x101 G102 =>
  bS (gd x98 true (bS ((E orc).cl 39 [x99, x101] G102) fun y G => some (y, G)) G102) fun x103 G104 =>
  bP (pickV x98 x103 (.bool false)) fun x105 =>
  bS (gd x105 true (some (x83, G104)) G104) fun x106 G107 =>
  bS (gd x105 true (bP (gBuild Q 55 []) fun y => some (y, G107)) G107) fun x108 G109 =>
  bS (gd x105 true (bP (gBuild Q 55 []) fun y => some (y, G109)) G109) fun x110 G111 =>
  bS (gd x105 true (bP (gBuild Q 55 [(0, (.int .i64 7))]) fun y => some (y, G111)) G111) fun x112 G113 =>
  bS (gd x105 true (bP (gBuild Q 55 [(2, (.int .u64 1))]) fun y => some (y, G113)) G113) fun x114 G115 =>
  bS (gd x105 true (bP (gBuild Q 55 []) fun y => some (y, G115)) G115) fun x116 G117 =>
  bS (gd x105 true (bP (gBuild Q 55 []) fun y => some (y, G117)) G117) fun x118 G119 =>
  bS (gd x105 true (bP (gBuild Q 55 []) fun y => some (y, G119)) G119) fun x120 G121 =>
  bS (gd x105 true (bS (mBuildV Q 67 7 [(0, x108), (1, x110), (2, x112), (3, x114), (4, x116), (5, x118), (6, x120)] G121) fun y G => some (y, G)) G121) fun x122 G123 =>
  bS (gd x105 true (bS ((E orc).cl 46 [x106, x122] G123) fun y G => some (y, G)) G123) fun x124 G125 =>
  bP (pickV x105 x124 (.bool false)) fun x126 =>
  some (x126, G125)
theorem c11 (orc : FuncId → Bool) (ho : orc 11 = false) (G : GS) : (E orc).cl 11 [] G = s11 orc  G :=
  cl_sxE Q orc (vs := []) G Try.func11 (by kernel_rfl) (by kernel_rfl) ho (by kernel_rfl) (by kernel_rfl) (by kernel_rfl)
/-- coxswain/coxswainlaw06.FifoOrder -/
noncomputable def s12 (orc : FuncId → Bool) (v0 v1 : Value) (G : GS) : Option (Value × GS) :=
  bS ((E orc).cl 11 [] G) fun x0 G1 =>
  bP (gLen Q 65 v1) fun x2 =>
  bP (gBinF Q .gtr 3 (.tmp 15) (.const (.int .i64 80)) x2 (.int .i64 80)) fun x3 =>
  ifV x3 (
  some (x0, G1)) (
  bS ((E orc).cl 32 [v0, (.int .i64 20)] G1) fun x4 G5 =>
  bP (gBinF Q .add 3 (.const (.int .i64 1)) (.tmp 19) (.int .i64 1) x4) fun x6 =>
  bS ((E orc).cl 44 [x6, v1] G5) fun x7 G8 =>
  bP (pExtract x7 0) fun x9 =>
  bP (pExtract x7 1) fun x10 =>
  bP (pExtract x7 2) fun x11 =>
  bP (gBinF Q .neq 32 (.tmp 28) (.const (.int .i64 0)) x11 (.int .i64 0)) fun x12 =>
  bS (gd x12 false (some (x9, G8)) G8) fun x13 G14 =>
  bS (gd x12 false (bP (gLen Q 67 x13) fun y => some (y, G14)) G14) fun x15 G16 =>
  bS (gd x12 false (some (v1, G16)) G16) fun x17 G18 =>
  bS (gd x12 false (bP (gLen Q 65 x17) fun y => some (y, G18)) G18) fun x19 G20 =>
  bS (gd x12 false (bP (gBinF Q .neq 3 (.tmp 32) (.tmp 34) x15 x19) fun y => some (y, G20)) G20) fun x21 G22 =>
  bP (pickV x12 (.bool true) x21) fun x23 =>
  ifV x23 (
  some ((.bool false), G22)) (
  bX ((E orc).lp (subAt [1, 1, 1, 1, 1, 1, 1, 1, 0, 1, 0, 0] (bodyOf Try.f12)) [x6, v1, undef, undef, (.bool false), x0, x9, x10, x11, (.slice none 0 0), (.int .i64 0), (.int .i64 0), undef, x0, v1, x2, x3, undef, v0, x4, x6, x7, x6, v1, x7, x9, x10, x11, x11, x12, x12, x13, x15, x17, x19, x21, x23, undef, undef, undef, undef, undef, undef, undef, undef, undef, undef, undef, undef, undef, undef, undef, undef, undef, undef, undef, undef, undef, undef, undef, undef, undef, undef, undef, undef, undef, undef, undef, undef, undef, undef, undef, undef, undef, undef, undef, undef, undef, undef, undef, undef, undef, undef, undef, undef, undef, undef, undef, undef, undef, undef, undef, undef, undef, undef, undef, undef, undef, undef, undef, undef, undef, undef, undef, undef, undef, undef, undef, undef, undef, undef, undef, undef, undef, undef, undef, undef, undef, undef, undef, undef, undef, undef, undef, undef, undef, undef, undef, undef, undef, undef, undef, undef, undef, undef, undef, undef, undef, undef, undef, undef, undef, undef, undef, undef, undef, undef, undef, undef, undef, undef, undef, undef, undef, undef, undef, undef, undef, undef, undef, undef, undef, undef, undef, undef, undef, undef, undef, undef, undef] G22) fun e24 T25 G26 =>
  ifE e24 (.exit 0) (
  bS (gd (nth undef T25 5) true (some ((nth undef T25 7), G26)) G26) fun x27 G28 =>
  bS (gd (nth undef T25 5) true (some ((nth undef T25 9), G28)) G28) fun x29 G30 =>
  bS (gd (nth undef T25 5) true (some ((nth undef T25 10), G30)) G30) fun x31 G32 =>
  bS (gd (nth undef T25 5) true (bP (gSlice Q 50 x29 (some x31) none none G32) fun y => some (y, G32)) G32) fun x33 G34 =>
  bS (gd (nth undef T25 5) true (bS ((E orc).cl 39 [x27, x33] G34) fun y G => some (y, G)) G34) fun x35 G36 =>
  bP (pickV (nth undef T25 5) x35 (.bool false)) fun x37 =>
  some (x37, G36)) (ifE e24 .ret (
  some ((nth undef T25 4), G26)) (none))))
theorem c12 (orc : FuncId → Bool) (v0 v1 : Value) (G : GS) {r : Value × GS} (h : s12 orc v0 v1 G = some r) : (E orc).cl 12 [v0, v1] G = some r :=
  cl_sxE_some Q orc (vs := [v0, v1]) G Try.func12 (by kernel_rfl) (by kernel_rfl) (by kernel_rfl) (by kernel_rfl) (by kernel_rfl) h
noncomputable def b12_0 (orc : FuncId → Bool) (T : List Value) (G : GS) : Option (Exit × List Value × GS) :=
  bP (gLen Q 65 (nth undef T 1)) fun x0 =>
  bP (gBinF Q .lss 3 (.tmp 37) (.tmp 39) (nth undef T 11) x0) fun x1 =>
  ifV x1 (
  bP (gLen Q 50 (nth undef T 9)) fun x2 =>
  bP (gBinF Q .sub 3 (.tmp 44) (.tmp 45) x2 (nth undef T 10)) fun x3 =>
  bP (gBinF Q .eql 3 (.tmp 46) (.tmp 47) x3 (nth undef T 0)) fun x4 =>
  bP (gIndexAddr Q 65 (nth undef T 1) (nth undef T 11)) fun x5 =>
  bP (gFieldAddr Q 53 x5 0) fun x6 =>
  bP (gLoadF Q 3 x6 G) fun x7 =>
  bP (gBinF Q .eql 3 (.tmp 53) (.const (.int .i64 1)) x7 (.int .i64 1)) fun x8 =>
  ifV x8 (
  bP (gIndexAddr Q 67 (nth undef T 6) (nth undef T 11)) fun x9 =>
  bP (gFieldAddr Q 55 x9 0) fun x10 =>
  bP (gLoadF Q 32 x10 G) fun x11 =>
  bP (gBinF Q .eql 32 (.tmp 60) (.const (.int .i64 7)) x11 (.int .i64 7)) fun x12 =>
  bP (gBinF Q .neq 4 (.tmp 61) (.tmp 62) x12 x4) fun x13 =>
  bS (gd x13 false (some ((nth undef T 6), G)) G) fun x14 G15 =>
  bS (gd x13 false (some ((nth undef T 11), G15)) G15) fun x16 G17 =>
  bS (gd x13 false (bP (gIndexAddr Q 67 x14 x16) fun y => some (y, G17)) G17) fun x18 G19 =>
  bS (gd x13 false (bP (gFieldAddr Q 55 x18 0) fun y => some (y, G19)) G19) fun x20 G21 =>
  bS (gd x13 false (bP (gLoadF Q 32 x20 G21) fun y => some (y, G21)) G21) fun x22 G23 =>
  bS (gd x13 false (bP (gBinF Q .neq 32 (.tmp 69) (.const (.int .i64 0)) x22 (.int .i64 0)) fun y => some (y, G23)) G23) fun x24 G25 =>
  bS (gd x13 false (some (x24, G25)) G25) fun x26 G27 =>
  bS (gd x26 true (some (x4, G27)) G27) fun x28 G29 =>
  bS (gd x26 true (bP (pUn Q .not x28) fun y => some (y, G29)) G29) fun x30 G31 =>
  bS (gd x13 false (bP (pickV x26 x30 (.bool false)) fun y => some (y, G31)) G31) fun x32 G33 =>
  bP (pickV x13 (.bool true) x32) fun x34 =>
  ifV x34 (
  some (.ret, [(nth undef T 0), (nth undef T 1), (nth undef T 2), (nth undef T 3), (.bool false), (nth undef T 5), (nth undef T 6), (nth undef T 7), (nth undef T 8), (nth undef T 9), (nth undef T 10), (nth undef T 11), x4, (nth undef T 13), (nth undef T 14), (nth undef T 15), (nth undef T 16), (nth undef T 17), (nth undef T 18), (nth undef T 19), (nth undef T 20), (nth undef T 21), (nth undef T 22), (nth undef T 23), (nth undef T 24), (nth undef T 25), (nth undef T 26), (nth undef T 27), (nth undef T 28), (nth undef T 29), (nth undef T 30), (nth undef T 31), (nth undef T 32), (nth undef T 33), (nth undef T 34), (nth undef T 35), (nth undef T 36), (nth undef T 11), (nth undef T 1), x0, x1, (nth undef T 41), (nth undef T 42), (nth undef T 9), x2, (nth undef T 10), x3, (nth undef T 0), x4, (nth undef T 1), (nth undef T 11), x5, x6, x7, x8, x8, (nth undef T 6), (nth undef T 11), x9, x10, x11, x12, x4, x13, x13, x14, x16, x18, x20, x22, x24, x26, x28, x30, x32, x34, (nth undef T 76), (nth undef T 77), (nth undef T 78), (nth undef T 79), (nth undef T 80), (nth undef T 81), (nth undef T 82), (nth undef T 83), (nth undef T 84), (nth undef T 85), (nth undef T 86), (nth undef T 87), (nth undef T 88), (nth undef T 89), (nth undef T 90), (nth undef T 91), (nth undef T 92), (nth undef T 93), (nth undef T 94), (nth undef T 95), (nth undef T 96), (nth undef T 97), (nth undef T 98), (nth undef T 99), (nth undef T 100), (nth undef T 101), (nth undef T 102), (nth undef T 103), (nth undef T 104), (nth undef T 105), (nth undef T 106), (nth undef T 107), (nth undef T 108), (nth undef T 109), (nth undef T 110), (nth undef T 111), (nth undef T 112), (nth undef T 113), (nth undef T 114), (nth undef T 115), (nth undef T 116), (nth undef T 117), (nth undef T 118), (nth undef T 119), (nth undef T 120), (nth undef T 121), (nth undef T 122), (nth undef T 123), (nth undef T 124), (nth undef T 125), (nth undef T 126), (nth undef T 127), (nth undef T 128), (nth undef T 129), (nth undef T 130), (nth undef T 131), (nth undef T 132), (nth undef T 133), (nth undef T 134), (nth undef T 135), (nth undef T 136), (nth undef T 137), (nth undef T 138), (nth undef T 139), (nth undef T 140), (nth undef T 141), (nth undef T 142), (nth undef T 143), (nth undef T 144), (nth undef T 145), (nth undef T 146), (nth undef T 147), (nth undef T 148), (nth undef T 149), (nth undef T 150), (nth undef T 151), (nth undef T 152), (nth undef T 153), (nth undef T 154), (nth undef T 155), (nth undef T 156), (nth undef T 157), (nth undef T 158), (nth undef T 159), (nth undef T 160), (nth undef T 161), (nth undef T 162), (nth undef T 163), (nth undef T 164), (nth undef T 165), (nth undef T 166), (nth undef T 167), (nth undef T 168), (nth undef T 169)], G33)) (
  bP (gIndexAddr Q 67 (nth undef T 6) (nth undef T 11)) fun x35 =>
  bP (gFieldAddr Q 55 x35 0) fun x36 =>
  bP (gLoadF Q 32 x36 G33) fun x37 =>
  bP (gBinF Q .eql 32 (.tmp 80) (.const (.int .i64 0)) x37 (.int .i64 0)) fun x38 =>
  ifV x38 (
  bP (gIndexAddr Q 65 (nth undef T 1) (nth undef T 11)) fun x39 =>
  bP (gFieldAddr Q 53 x39 3) fun x40 =>
  bP (gLoadF Q 51 x40 G33) fun x41 =>
  bS (mBuildV Q 50 1 [(0, x41)] G33) fun x42 G43 =>
  bS (gAppend Q 50 50 (nth undef T 9) x42 G43) fun x44 G45 =>
  bP (gLen Q 50 x44) fun x46 =>
  bP (gBinF Q .gtr 3 (.tmp 150) (.tmp 152) (nth undef T 10) x46) fun x47 =>
  bS (gd x47 false (some (x44, G45)) G45) fun x48 G49 =>
  bS (gd x47 false (bP (gLen Q 50 x48) fun y => some (y, G49)) G49) fun x50 G51 =>
  bS (gd x47 false (some ((nth undef T 10), G51)) G51) fun x52 G53 =>
  bS (gd x47 false (bP (gBinF Q .sub 3 (.tmp 156) (.tmp 157) x50 x52) fun y => some (y, G53)) G53) fun x54 G55 =>
  bS (gd x47 false (some ((nth undef T 0), G55)) G55) fun x56 G57 =>
  bS (gd x47 false (bP (gBinF Q .gtr 3 (.tmp 158) (.tmp 159) x54 x56) fun y => some (y, G57)) G57) fun x58 G59 =>
  bP (pickV x47 (.bool true) x58) fun x60 =>
  ifV x60 (
  some (.ret, [(nth undef T 0), (nth undef T 1), (nth undef T 2), (nth undef T 3), (.bool false), (nth undef T 5), (nth undef T 6), (nth undef T 7), (nth undef T 8), x44, (nth undef T 10), (nth undef T 11), x4, (nth undef T 13), (nth undef T 14), (nth undef T 15), (nth undef T 16), (nth undef T 17), (nth undef T 18), (nth undef T 19), (nth undef T 20), (nth undef T 21), (nth undef T 22), (nth undef T 23), (nth undef T 24), (nth undef T 25), (nth undef T 26), (nth undef T 27), (nth undef T 28), (nth undef T 29), (nth undef T 30), (nth undef T 31), (nth undef T 32), (nth undef T 33), (nth undef T 34), (nth undef T 35), (nth undef T 36), (nth undef T 11), (nth undef T 1), x0, x1, (nth undef T 41), (nth undef T 42), (nth undef T 9), x2, (nth undef T 10), x3, (nth undef T 0), x4, (nth undef T 1), (nth undef T 11), x5, x6, x7, x8, x8, (nth undef T 6), (nth undef T 11), x9, x10, x11, x12, x4, x13, x13, x14, x16, x18, x20, x22, x24, x26, x28, x30, x32, x34, (nth undef T 6), (nth undef T 11), x35, x36, x37, x38, (nth undef T 9), (nth undef T 1), (nth undef T 11), x39, x40, x41, x42, x44, (nth undef T 90), (nth undef T 91), (nth undef T 92), (nth undef T 93), (nth undef T 94), (nth undef T 95), (nth undef T 96), (nth undef T 97), (nth undef T 98), (nth undef T 99), (nth undef T 100), (nth undef T 101), (nth undef T 102), (nth undef T 103), (nth undef T 104), (nth undef T 105), (nth undef T 106), (nth undef T 107), (nth undef T 108), (nth undef T 109), (nth undef T 110), (nth undef T 111), (nth undef T 112), (nth undef T 113), (nth undef T 114), (nth undef T 115), (nth undef T 116), (nth undef T 117), (nth undef T 118), (nth undef T 119), (nth undef T 120), (nth undef T 121), (nth undef T 122), (nth undef T 123), (nth undef T 124), (nth undef T 125), (nth undef T 126), (nth undef T 127), (nth undef T 128), (nth undef T 129), (nth undef T 130), (nth undef T 131), (nth undef T 132), (nth undef T 133), (nth undef T 134), (nth undef T 135), (nth undef T 136), (nth undef T 137), (nth undef T 138), (nth undef T 139), (nth undef T 140), (nth undef T 141), (nth undef T 142), (nth undef T 143), (nth undef T 144), (nth undef T 145), (nth undef T 146), (nth undef T 147), (nth undef T 148), (nth undef T 149), (nth undef T 10), x44, x46, x47, x47, x48, x50, x52, x54, x56, x58, x60, (nth undef T 162), (nth undef T 163), (nth undef T 164), (nth undef T 165), (nth undef T 166), (nth undef T 167), (nth undef T 168), (nth undef T 169)], G59)) (
  bP (gBinF Q .add 3 (.tmp 41) (.const (.int .i64 1)) (nth undef T 11) (.int .i64 1)) fun x61 =>
  (E orc).lp (subAt [1, 1, 1, 1, 1, 1, 1, 1, 0, 1, 0, 0] (bodyOf Try.f12)) [(nth undef T 0), (nth undef T 1), (nth undef T 2), (nth undef T 3), (nth undef T 4), (nth undef T 5), (nth undef T 6), (nth undef T 7), (nth undef T 8), x44, (nth undef T 10), x61, x4, (nth undef T 13), (nth undef T 14), (nth undef T 15), (nth undef T 16), (nth undef T 17), (nth undef T 18), (nth undef T 19), (nth undef T 20), (nth undef T 21), (nth undef T 22), (nth undef T 23), (nth undef T 24), (nth undef T 25), (nth undef T 26), (nth undef T 27), (nth undef T 28), (nth undef T 29), (nth undef T 30), (nth undef T 31), (nth undef T 32), (nth undef T 33), (nth undef T 34), (nth undef T 35), (nth undef T 36), (nth undef T 11), (nth undef T 1), x0, x1, (nth undef T 11), x61, (nth undef T 9), x2, (nth undef T 10), x3, (nth undef T 0), x4, (nth undef T 1), (nth undef T 11), x5, x6, x7, x8, x8, (nth undef T 6), (nth undef T 11), x9, x10, x11, x12, x4, x13, x13, x14, x16, x18, x20, x22, x24, x26, x28, x30, x32, x34, (nth undef T 6), (nth undef T 11), x35, x36, x37, x38, (nth undef T 9), (nth undef T 1), (nth undef T 11), x39, x40, x41, x42, x44, (nth undef T 90), (nth undef T 91), (nth undef T 92), (nth undef T 93), (nth undef T 94), (nth undef T 95), (nth undef T 96), (nth undef T 97), (nth undef T 98), (nth undef T 99), (nth undef T 100), (nth undef T 101), (nth undef T 102), (nth undef T 103), (nth undef T 104), (nth undef T 105), (nth undef T 106), (nth undef T 107), (nth undef T 108), (nth undef T 109), (nth undef T 110), (nth undef T 111), (nth undef T 112), (nth undef T 113), (nth undef T 114), (nth undef T 115), (nth undef T 116), (nth undef T 117), (nth undef T 118), (nth undef T 119), (nth undef T 120), (nth undef T 121), (nth undef T 122), (nth undef T 123), (nth undef T 124), (nth undef T 125), (nth undef T 126), (nth undef T 127), (nth undef T 128), (nth undef T 129), (nth undef T 130), (nth undef T 131), (nth undef T 132), (nth undef T 133), (nth undef T 134), (nth undef T 135), (nth undef T 136), (nth undef T 137), (nth undef T 138), (nth undef T 139), (nth undef T 140), (nth undef T 141), (nth undef T 142), (nth undef T 143), (nth undef T 144), (nth undef T 145), (nth undef T 146), (nth undef T 147), (nth undef T 148), (nth undef T 149), (nth undef T 10), x44, x46, x47, x47, x48, x50, x52, x54, x56, x58, x60, (nth undef T 162), (nth undef T 163), (nth undef T 164), (nth undef T 165), (nth undef T 166), (nth undef T 167), (nth undef T 168), (nth undef T 169)] G59)) (
  bP (gLen Q 50 (nth undef T 9)) fun x62 =>
  bP (gBinF Q .gtr 3 (.tmp 150) (.tmp 152) (nth undef T 10) x62) fun x63 =>
  bS (gd x63 false (some ((nth undef T 9), G33)) G33) fun x64 G65 =>
  bS (gd x63 false (bP (gLen Q 50 x64) fun y => some (y, G65)) G65) fun x66 G67 =>
  bS (gd x63 false (some ((nth undef T 10), G67)) G67) fun x68 G69 =>
  bS (gd x63 false (bP (gBinF Q .sub 3 (.tmp 156) (.tmp 157) x66 x68) fun y => some (y, G69)) G69) fun x70 G71 =>
  bS (gd x63 false (some ((nth undef T 0), G71)) G71) fun x72 G73 =>
  bS (gd x63 false (bP (gBinF Q .gtr 3 (.tmp 158) (.tmp 159) x70 x72) fun y => some (y, G73)) G73) fun x74 G75 =>
  bP (pickV x63 (.bool true) x74) fun x76 =>
  ifV x76 (
  some (.ret, [(nth undef T 0), (nth undef T 1), (nth undef T 2), (nth undef T 3), (.bool false), (nth undef T 5), (nth undef T 6), (nth undef T 7), (nth undef T 8), (nth undef T 9), (nth undef T 10), (nth undef T 11), x4, (nth undef T 13), (nth undef T 14), (nth undef T 15), (nth undef T 16), (nth undef T 17), (nth undef T 18), (nth undef T 19), (nth undef T 20), (nth undef T 21), (nth undef T 22), (nth undef T 23), (nth undef T 24), (nth undef T 25), (nth undef T 26), (nth undef T 27), (nth undef T 28), (nth undef T 29), (nth undef T 30), (nth undef T 31), (nth undef T 32), (nth undef T 33), (nth undef T 34), (nth undef T 35), (nth undef T 36), (nth undef T 11), (nth undef T 1), x0, x1, (nth undef T 41), (nth undef T 42), (nth undef T 9), x2, (nth undef T 10), x3, (nth undef T 0), x4, (nth undef T 1), (nth undef T 11), x5, x6, x7, x8, x8, (nth undef T 6), (nth undef T 11), x9, x10, x11, x12, x4, x13, x13, x14, x16, x18, x20, x22, x24, x26, x28, x30, x32, x34, (nth undef T 6), (nth undef T 11), x35, x36, x37, x38, (nth undef T 82), (nth undef T 83), (nth undef T 84), (nth undef T 85), (nth undef T 86), (nth undef T 87), (nth undef T 88), (nth undef T 89), (nth undef T 90), (nth undef T 91), (nth undef T 92), (nth undef T 93), (nth undef T 94), (nth undef T 95), (nth undef T 96), (nth undef T 97), (nth undef T 98), (nth undef T 99), (nth undef T 100), (nth undef T 101), (nth undef T 102), (nth undef T 103), (nth undef T 104), (nth undef T 105), (nth undef T 106), (nth undef T 107), (nth undef T 108), (nth undef T 109), (nth undef T 110), (nth undef T 111), (nth undef T 112), (nth undef T 113), (nth undef T 114), (nth undef T 115), (nth undef T 116), (nth undef T 117), (nth undef T 118), (nth undef T 119), (nth undef T 120), (nth undef T 121), (nth undef T 122), (nth undef T 123), (nth undef T 124), (nth undef T 125), (nth undef T 126), (nth undef T 127), (nth undef T 128), (nth undef T 129), (nth undef T 130), (nth undef T 131), (nth undef T 132), (nth undef T 133), (nth undef T 134), (nth undef T 135), (nth undef T 136), (nth undef T 137), (nth undef T 138), (nth undef T 139), (nth undef T 140), (nth undef T 141), (nth undef T 142), (nth undef T 143), (nth undef T 144), (nth undef T 145), (nth undef T 146), (nth undef T 147), (nth undef T 148), (nth undef T 149), (nth undef T 10), (nth undef T 9), x62, x63, x63, x64, x66, x68, x70, x72, x74, x76, (nth undef T 162), (nth undef T 163), (nth undef T 164), (nth undef T 165), (nth undef T 166), (nth undef T 167), (nth undef T 168), (nth undef T 169)], G75)) (
  bP (gBinF Q .add 3 (.tmp 41) (.const (.int .i64 1)) (nth undef T 11) (.int .i64 1)) fun x77 =>
  (E orc).lp (subAt [1, 1, 1, 1, 1, 1, 1, 1, 0, 1, 0, 0] (bodyOf Try.f12)) [(nth undef T 0), (nth undef T 1), (nth undef T 2), (nth undef T 3), (nth undef T 4), (nth undef T 5), (nth undef T 6), (nth undef T 7), (nth undef T 8), (nth undef T 9), (nth undef T 10), x77, x4, (nth undef T 13), (nth undef T 14), (nth undef T 15), (nth undef T 16), (nth undef T 17), (nth undef T 18), (nth undef T 19), (nth undef T 20), (nth undef T 21), (nth undef T 22), (nth undef T 23), (nth undef T 24), (nth undef T 25), (nth undef T 26), (nth undef T 27), (nth undef T 28), (nth undef T 29), (nth undef T 30), (nth undef T 31), (nth undef T 32), (nth undef T 33), (nth undef T 34), (nth undef T 35), (nth undef T 36), (nth undef T 11), (nth undef T 1), x0, x1, (nth undef T 11), x77, (nth undef T 9), x2, (nth undef T 10), x3, (nth undef T 0), x4, (nth undef T 1), (nth undef T 11), x5, x6, x7, x8, x8, (nth undef T 6), (nth undef T 11), x9, x10, x11, x12, x4, x13, x13, x14, x16, x18, x20, x22, x24, x26, x28, x30, x32, x34, (nth undef T 6), (nth undef T 11), x35, x36, x37, x38, (nth undef T 82), (nth undef T 83), (nth undef T 84), (nth undef T 85), (nth undef T 86), (nth undef T 87), (nth undef T 88), (nth undef T 89), (nth undef T 90), (nth undef T 91), (nth undef T 92), (nth undef T 93), (nth undef T 94), (nth undef T 95), (nth undef T 96), (nth undef T 97), (nth undef T 98), (nth undef T 99), (nth undef T 100), (nth undef T 101), (nth undef T 102), (nth undef T 103), (nth undef T 104), (nth undef T 105), (nth undef T 106), (nth undef T 107), (nth undef T 108), (nth undef T 109), (nth undef T 110), (nth undef T 111), (nth undef T 112), (nth undef T 113), (nth undef T 114), (nth undef T 115), (nth undef T 116), (nth undef T 117), (nth undef T 118), (nth undef T 119), (nth undef T 120), (nth undef T 121), (nth undef T 122), (nth undef T 123), (nth undef T 124), (nth undef T 125), (nth undef T 126), (nth undef T 127), (nth undef T 128), (nth undef T 129), (nth undef T 130), (nth undef T 131), (nth undef T 132), (nth undef T 133), (nth undef T 134), (nth undef T 135), (nth undef T 136), (nth undef T 137), (nth undef T 138), (nth undef T 139), (nth undef T 140), (nth undef T 141), (nth undef T 142), (nth undef T 143), (nth undef T 144), (nth undef T 145), (nth undef T 146), (nth undef T 147), (nth undef T 148), (nth undef T 149), (nth undef T 10), (nth undef T 9), x62, x63, x63, x64, x66, x68, x70, x72, x74, x76, (nth undef T 162), (nth undef T 163), (nth undef T 164), (nth undef T 165), (nth undef T 166), (nth undef T 167), (nth undef T 168), (nth undef T 169)] G75)))) (
  bP (gBinF Q .eql 3 (.tmp 53) (.const (.int .i64 2)) x7 (.int .i64 2)) fun x78 =>
  ifV x78 (
  bP (gIndexAddr Q 67 (nth undef T 6) (nth undef T 11)) fun x79 =>
  bP (gFieldAddr Q 55 x79 0) fun x80 =>
  bP (gLoadF Q 32 x80 (G.room 37)) fun x81 =>
  bP (gBinF Q .eql 32 (.tmp 96) (.const (.int .i64 15)) x81 (.int .i64 15)) fun x82 =>
  bP (gLen Q 50 (nth undef T 9)) fun x83 =>
  bP (gBinF Q .eql 3 (.tmp 99) (.tmp 100) x83 (nth undef T 10)) fun x84 =>
  bP (gBinF Q .neq 4 (.tmp 97) (.tmp 101) x82 x84) fun x85 =>
  bS (gd x85 false (some ((nth undef T 6), (G.room 37))) (G.room 37)) fun x86 _ =>
  bS (gd x85 false (some ((nth undef T 11), (G.room 37))) (G.room 37)) fun x87 _ =>
  bS (gd x85 false (bP (gIndexAddr Q 67 x86 x87) fun y => some (y, (G.room 37))) (G.room 37)) fun x88 _ =>
  bS (gd x85 false (bP (gFieldAddr Q 55 x88 0) fun y => some (y, (G.room 37))) (G.room 37)) fun x89 _ =>
  bS (gd x85 false (bP (gLoadF Q 32 x89 (G.room 37)) fun y => some (y, (G.room 37))) (G.room 37)) fun x90 _ =>
  bS (gd x85 false (bP (gBinF Q .eql 32 (.tmp 108) (.const (.int .i64 0)) x90 (.int .i64 0)) fun y => some (y, (G.room 37))) (G.room 37)) fun x91 _ =>
  bS (gd x85 false (some (x91, (G.room 37))) (G.room 37)) fun x92 _ =>
  bS (gd x92 true (some ((nth undef T 10), (G.room 37))) (G.room 37)) fun x93 _ =>
  bS (gd x92 true (some ((nth undef T 9), (G.room 37))) (G.room 37)) fun x94 _ =>
  bS (gd x92 true (bP (gLen Q 50 x94) fun y => some (y, (G.room 37))) (G.room 37)) fun x95 _ =>
  bS (gd x92 true (bP (gBinF Q .geq 3 (.tmp 111) (.tmp 113) x93 x95) fun y => some (y, (G.room 37))) (G.room 37)) fun x96 _ =>
  bS (gd x92 true (some (x96, (G.room 37))) (G.room 37)) fun x97 _ =>
  bS (gd x97 false (some ((nth undef T 6), (G.room 37))) (G.room 37)) fun x98 _ =>
  bS (gd x97 false (some ((nth undef T 11), (G.room 37))) (G.room 37)) fun x99 _ =>
  bS (gd x97 false (bP (gIndexAddr Q 67 x98 x99) fun y => some (y, (G.room 37))) (G.room 37)) fun x100 _ =>
  bS (gd x97 false (bP (gFieldAddr Q 55 x100 2) fun y => some (y, (G.room 37))) (G.room 37)) fun x101 _ =>
  bS (gd x97 false (bP (gLoadF Q 51 x101 (G.room 37)) fun y => some (y, (G.room 37))) (G.room 37)) fun x102 _ =>
  bS (gd x97 false (some ((nth undef T 9), (G.room 37))) (G.room 37)) fun x103 _ =>
  bS (gd x97 false (some ((nth undef T 10), (G.room 37))) (G.room 37)) fun x104 _ =>
  bS (gd x97 false (bP (gIndexAddr Q 50 x103 x104) fun y => some (y, (G.room 37))) (G.room 37)) fun x105 _ =>
  bS (gd x97 false (bP (gLoadF Q 51 x105 (G.room 37)) fun y => some (y, (G.room 37))) (G.room 37)) fun x106 _ =>
  bS (gd x97 false (bP (gBinF Q .neq 51 (.tmp 120) (.tmp 124) x102 x106) fun y => some (y, (G.room 37))) (G.room 37)) fun x107 _ =>
  bS (gd x92 true (bP (pickV x97 (.bool true) x107) fun y => some (y, (G.room 37))) (G.room 37)) fun x108 _ =>
  bS (gd x85 false (bP (pickV x92 x108 (.bool false)) fun y => some (y, (G.room 37))) (G.room 37)) fun x109 _ =>
  bP (pickV x85 (.bool true) x109) fun x110 =>
  ifV x110 (
  some (.ret, [(nth undef T 0), (nth undef T 1), (nth undef T 2), (nth undef T 3), (.bool false), (nth undef T 5), (nth undef T 6), (nth undef T 7), (nth undef T 8), (nth undef T 9), (nth undef T 10), (nth undef T 11), x4, (nth undef T 13), (nth undef T 14), (nth undef T 15), (nth undef T 16), (nth undef T 17), (nth undef T 18), (nth undef T 19), (nth undef T 20), (nth undef T 21), (nth undef T 22), (nth undef T 23), (nth undef T 24), (nth undef T 25), (nth undef T 26), (nth undef T 27), (nth undef T 28), (nth undef T 29), (nth undef T 30), (nth undef T 31), (nth undef T 32), (nth undef T 33), (nth undef T 34), (nth undef T 35), (nth undef T 36), (nth undef T 11), (nth undef T 1), x0, x1, (nth undef T 41), (nth undef T 42), (nth undef T 9), x2, (nth undef T 10), x3, (nth undef T 0), x4, (nth undef T 1), (nth undef T 11), x5, x6, x7, x8, x8, (nth undef T 56), (nth undef T 57), (nth undef T 58), (nth undef T 59), (nth undef T 60), (nth undef T 61), (nth undef T 62), (nth undef T 63), (nth undef T 64), (nth undef T 65), (nth undef T 66), (nth undef T 67), (nth undef T 68), (nth undef T 69), (nth undef T 70), (nth undef T 71), (nth undef T 72), (nth undef T 73), (nth undef T 74), (nth undef T 75), (nth undef T 76), (nth undef T 77), (nth undef T 78), (nth undef T 79), (nth undef T 80), (nth undef T 81), (nth undef T 82), (nth undef T 83), (nth undef T 84), (nth undef T 85), (nth undef T 86), (nth undef T 87), (nth undef T 88), (nth undef T 89), x78, x78, (nth undef T 6), (nth undef T 11), x79, x80, x81, x82, (nth undef T 9), x83, (nth undef T 10), x84, x85, x85, x86, x87, x88, x89, x90, x91, x92, x93, x94, x95, x96, x97, x98, x99, x100, x101, x102, x103, x104, x105, x106, x107, x108, x109, x110, (nth undef T 129), (nth undef T 130), (nth undef T 131), (nth undef T 132), (nth undef T 133), (nth undef T 134), (nth undef T 135), (nth undef T 136), (nth undef T 137), (nth undef T 138), (nth undef T 139), (nth undef T 140), (nth undef T 141), (nth undef T 142), (nth undef T 143), (nth undef T 144), (nth undef T 145), (nth undef T 146), (nth undef T 147), (nth undef T 148), (nth undef T 149), (nth undef T 150), (nth undef T 151), (nth undef T 152), (nth undef T 153), (nth undef T 154), (nth undef T 155), (nth undef T 156), (nth undef T 157), (nth undef T 158), (nth undef T 159), (nth undef T 160), (nth undef T 161), (nth undef T 162), (nth undef T 163), (nth undef T 164), (nth undef T 165), (nth undef T 166), (nth undef T 167), (nth undef T 168), (nth undef T 169)], (G.room 37))) (
  bP (gLen Q 50 (nth undef T 9)) fun x111 =>
  bP (gBinF Q .gtr 3 (.tmp 150) (.tmp 152) (nth undef T 10) x111) fun x112 =>
  bS (gd x112 false (some ((nth undef T 9), (G.room 37))) (G.room 37)) fun x113 G114 =>
  bS (gd x112 false (bP (gLen Q 50 x113) fun y => some (y, G114)) G114) fun x115 G116 =>
  bS (gd x112 false (some ((nth undef T 10), G116)) G116) fun x117 G118 =>
  bS (gd x112 false (bP (gBinF Q .sub 3 (.tmp 156) (.tmp 157) x115 x117) fun y => some (y, G118)) G118) fun x119 G120 =>
  bS (gd x112 false (some ((nth undef T 0), G120)) G120) fun x121 G122 =>
  bS (gd x112 false (bP (gBinF Q .gtr 3 (.tmp 158) (.tmp 159) x119 x121) fun y => some (y, G122)) G122) fun x123 G124 =>
  bP (pickV x112 (.bool true) x123) fun x125 =>
  ifV x125 (
  some (.ret, [(nth undef T 0), (nth undef T 1), (nth undef T 2), (nth undef T 3), (.bool false), (nth undef T 5), (nth undef T 6), (nth undef T 7), (nth undef T 8), (nth undef T 9), (nth undef T 10), (nth undef T 11), x4, (nth undef T 13), (nth undef T 14), (nth undef T 15), (nth undef T 16), (nth undef T 17), (nth undef T 18), (nth undef T 19), (nth undef T 20), (nth undef T 21), (nth undef T 22), (nth undef T 23), (nth undef T 24), (nth undef T 25), (nth undef T 26), (nth undef T 27), (nth undef T 28), (nth undef T 29), (nth undef T 30), (nth undef T 31), (nth undef T 32), (nth undef T 33), (nth undef T 34), (nth undef T 35), (nth undef T 36), (nth undef T 11), (nth undef T 1), x0, x1, (nth undef T 41), (nth undef T 42), (nth undef T 9), x2, (nth undef T 10), x3, (nth undef T 0), x4, (nth undef T 1), (nth undef T 11), x5, x6, x7, x8, x8, (nth undef T 56), (nth undef T 57), (nth undef T 58), (nth undef T 59), (nth undef T 60), (nth undef T 61), (nth undef T 62), (nth undef T 63), (nth undef T 64), (nth undef T 65), (nth undef T 66), (nth undef T 67), (nth undef T 68), (nth undef T 69), (nth undef T 70), (nth undef T 71), (nth undef T 72), (nth undef T 73), (nth undef T 74), (nth undef T 75), (nth undef T 76), (nth undef T 77), (nth undef T 78), (nth undef T 79), (nth undef T 80), (nth undef T 81), (nth undef T 82), (nth undef T 83), (nth undef T 84), (nth undef T 85), (nth undef T 86), (nth undef T 87), (nth undef T 88), (nth undef T 89), x78, x78, (nth undef T 6), (nth undef T 11), x79, x80, x81, x82, (nth undef T 9), x83, (nth undef T 10), x84, x85, x85, x86, x87, x88, x89, x90, x91, x92, x93, x94, x95, x96, x97, x98, x99, x100, x101, x102, x103, x104, x105, x106, x107, x108, x109, x110, (nth undef T 129), (nth undef T 130), (nth undef T 131), (nth undef T 132), (nth undef T 133), (nth undef T 134), (nth undef T 135), (nth undef T 136), (nth undef T 137), (nth undef T 138), (nth undef T 139), (nth undef T 140), (nth undef T 141), (nth undef T 142), (nth undef T 143), (nth undef T 144), (nth undef T 145), (nth undef T 146), (nth undef T 147), (nth undef T 148), (nth undef T 149), (nth undef T 10), (nth undef T 9), x111, x112, x112, x113, x115, x117, x119, x121, x123, x125, (nth undef T 162), (nth undef T 163), (nth undef T 164), (nth undef T 165), (nth undef T 166), (nth undef T 167), (nth undef T 168), (nth undef T 169)], G124)) (
  bP (gBinF Q .add 3 (.tmp 41) (.const (.int .i64 1)) (nth undef T 11) (.int .i64 1)) fun x126 =>
  (E orc).lp (subAt [1, 1, 1, 1, 1, 1, 1, 1, 0, 1, 0, 0] (bodyOf Try.f12)) [(nth undef T 0), (nth undef T 1), (nth undef T 2), (nth undef T 3), (nth undef T 4), (nth undef T 5), (nth undef T 6), (nth undef T 7), (nth undef T 8), (nth undef T 9), (nth undef T 10), x126, x4, (nth undef T 13), (nth undef T 14), (nth undef T 15), (nth undef T 16), (nth undef T 17), (nth undef T 18), (nth undef T 19), (nth undef T 20), (nth undef T 21), (nth undef T 22), (nth undef T 23), (nth undef T 24), (nth undef T 25), (nth undef T 26), (nth undef T 27), (nth undef T 28), (nth undef T 29), (nth undef T 30), (nth undef T 31), (nth undef T 32), (nth undef T 33), (nth undef T 34), (nth undef T 35), (nth undef T 36), (nth undef T 11), (nth undef T 1), x0, x1, (nth undef T 11), x126, (nth undef T 9), x2, (nth undef T 10), x3, (nth undef T 0), x4, (nth undef T 1), (nth undef T 11), x5, x6, x7, x8, x8, (nth undef T 56), (nth undef T 57), (nth undef T 58), (nth undef T 59), (nth undef T 60), (nth undef T 61), (nth undef T 62), (nth undef T 63), (nth undef T 64), (nth undef T 65), (nth undef T 66), (nth undef T 67), (nth undef T 68), (nth undef T 69), (nth undef T 70), (nth undef T 71), (nth undef T 72), (nth undef T 73), (nth undef T 74), (nth undef T 75), (nth undef T 76), (nth undef T 77), (nth undef T 78), (nth undef T 79), (nth undef T 80), (nth undef T 81), (nth undef T 82), (nth undef T 83), (nth undef T 84), (nth undef T 85), (nth undef T 86), (nth undef T 87), (nth undef T 88), (nth undef T 89), x78, x78, (nth undef T 6), (nth undef T 11), x79, x80, x81, x82, (nth undef T 9), x83, (nth undef T 10), x84, x85, x85, x86, x87, x88, x89, x90, x91, x92, x93, x94, x95, x96, x97, x98, x99, x100, x101, x102, x103, x104, x105, x106, x107, x108, x109, x110, (nth undef T 129), (nth undef T 130), (nth undef T 131), (nth undef T 132), (nth undef T 133), (nth undef T 134), (nth undef T 135), (nth undef T 136), (nth undef T 137), (nth undef T 138), (nth undef T 139), (nth undef T 140), (nth undef T 141), (nth undef T 142), (nth undef T 143), (nth undef T 144), (nth undef T 145), (nth undef T 146), (nth undef T 147), (nth undef T 148), (nth undef T 149), (nth undef T 10), (nth undef T 9), x111, x112, x112, x113, x115, x117, x119, x121, x123, x125, (nth undef T 162), (nth undef T 163), (nth undef T 164), (nth undef T 165), (nth undef T 166), (nth undef T 167), (nth undef T 168), (nth undef T 169)] G124))) (
  bP (gBinF Q .eql 3 (.tmp 53) (.const (.int .i64 3)) x7 (.int .i64 3)) fun x127 =>
  ifV x127 (
  bP (gIndexAddr Q 67 (nth undef T 6) (nth undef T 11)) fun x128 =>
  bP (gFieldAddr Q 55 x128 0) fun x129 =>
  bP (gLoadF Q 32 x129 G) fun x130 =>
  bP (gBinF Q .eql 32 (.tmp 135) (.const (.int .i64 15)) x130 (.int .i64 15)) fun x131 =>
  bP (gLen Q 50 (nth undef T 9)) fun x132 =>
  bP (gBinF Q .eql 3 (.tmp 138) (.tmp 139) x132 (nth undef T 10)) fun x133 =>
  bP (gBinF Q .neq 4 (.tmp 136) (.tmp 140) x131 x133) fun x134 =>
  ifV x134 (
  some (.ret, [(nth undef T 0), (nth undef T 1), (nth undef T 2), (nth undef T 3), (.bool false), (nth undef T 5), (nth undef T 6), (nth undef T 7), (nth undef T 8), (nth undef T 9), (nth undef T 10), (nth undef T 11), x4, (nth undef T 13), (nth undef T 14), (nth undef T 15), (nth undef T 16), (nth undef T 17), (nth undef T 18), (nth undef T 19), (nth undef T 20), (nth undef T 21), (nth undef T 22), (nth undef T 23), (nth undef T 24), (nth undef T 25), (nth undef T 26), (nth undef T 27), (nth undef T 28), (nth undef T 29), (nth undef T 30), (nth undef T 31), (nth undef T 32), (nth undef T 33), (nth undef T 34), (nth undef T 35), (nth undef T 36), (nth undef T 11), (nth undef T 1), x0, x1, (nth undef T 41), (nth undef T 42), (nth undef T 9), x2, (nth undef T 10), x3, (nth undef T 0), x4, (nth undef T 1), (nth undef T 11), x5, x6, x7, x8, x8, (nth undef T 56), (nth undef T 57), (nth undef T 58), (nth undef T 59), (nth undef T 60), (nth undef T 61), (nth undef T 62), (nth undef T 63), (nth undef T 64), (nth undef T 65), (nth undef T 66), (nth undef T 67), (nth undef T 68), (nth undef T 69), (nth undef T 70), (nth undef T 71), (nth undef T 72), (nth undef T 73), (nth undef T 74), (nth undef T 75), (nth undef T 76), (nth undef T 77), (nth undef T 78), (nth undef T 79), (nth undef T 80), (nth undef T 81), (nth undef T 82), (nth undef T 83), (nth undef T 84), (nth undef T 85), (nth undef T 86), (nth undef T 87), (nth undef T 88), (nth undef T 89), x78, x78, (nth undef T 92), (nth undef T 93), (nth undef T 94), (nth undef T 95), (nth undef T 96), (nth undef T 97), (nth undef T 98), (nth undef T 99), (nth undef T 100), (nth undef T 101), (nth undef T 102), (nth undef T 103), (nth undef T 104), (nth undef T 105), (nth undef T 106), (nth undef T 107), (nth undef T 108), (nth undef T 109), (nth undef T 110), (nth undef T 111), (nth undef T 112), (nth undef T 113), (nth undef T 114), (nth undef T 115), (nth undef T 116), (nth undef T 117), (nth undef T 118), (nth undef T 119), (nth undef T 120), (nth undef T 121), (nth undef T 122), (nth undef T 123), (nth undef T 124), (nth undef T 125), (nth undef T 126), (nth undef T 127), (nth undef T 128), x127, x127, (nth undef T 6), (nth undef T 11), x128, x129, x130, x131, (nth undef T 9), x132, (nth undef T 10), x133, x134, (nth undef T 142), (nth undef T 143), (nth undef T 144), (nth undef T 145), (nth undef T 146), (nth undef T 147), (nth undef T 148), (nth undef T 149), (nth undef T 150), (nth undef T 151), (nth undef T 152), (nth undef T 153), (nth undef T 154), (nth undef T 155), (nth undef T 156), (nth undef T 157), (nth undef T 158), (nth undef T 159), (nth undef T 160), (nth undef T 161), (nth undef T 162), (nth undef T 163), (nth undef T 164), (nth undef T 165), (nth undef T 166), (nth undef T 167), (nth undef T 168), (nth undef T 169)], G)) (
  bP (gIndexAddr Q 67 (nth undef T 6) (nth undef T 11)) fun x135 =>
  bP (gFieldAddr Q 55 x135 0) fun x136 =>
  bP (gLoadF Q 32 x136 G) fun x137 =>
  bP (gBinF Q .eql 32 (.tmp 146) (.const (.int .i64 0)) x137 (.int .i64 0)) fun x138 =>
  ifV x138 (
  bP (gBinF Q .add 3 (.tmp 148) (.const (.int .i64 1)) (nth undef T 10) (.int .i64 1)) fun x139 =>
  bP (gLen Q 50 (nth undef T 9)) fun x140 =>
  bP (gBinF Q .gtr 3 (.tmp 150) (.tmp 152) x139 x140) fun x141 =>
  bS (gd x141 false (some ((nth undef T 9), G)) G) fun x142 G143 =>
  bS (gd x141 false (bP (gLen Q 50 x142) fun y => some (y, G143)) G143) fun x144 G145 =>
  bS (gd x141 false (some (x139, G145)) G145) fun x146 G147 =>
  bS (gd x141 false (bP (gBinF Q .sub 3 (.tmp 156) (.tmp 157) x144 x146) fun y => some (y, G147)) G147) fun x148 G149 =>
  bS (gd x141 false (some ((nth undef T 0), G149)) G149) fun x150 G151 =>
  bS (gd x141 false (bP (gBinF Q .gtr 3 (.tmp 158) (.tmp 159) x148 x150) fun y => some (y, G151)) G151) fun x152 G153 =>
  bP (pickV x141 (.bool true) x152) fun x154 =>
  ifV x154 (
  some (.ret, [(nth undef T 0), (nth undef T 1), (nth undef T 2), (nth undef T 3), (.bool false), (nth undef T 5), (nth undef T 6), (nth undef T 7), (nth undef T 8), (nth undef T 9), x139, (nth undef T 11), x4, (nth undef T 13), (nth undef T 14), (nth undef T 15), (nth undef T 16), (nth undef T 17), (nth undef T 18), (nth undef T 19), (nth undef T 20), (nth undef T 21), (nth undef T 22), (nth undef T 23), (nth undef T 24), (nth undef T 25), (nth undef T 26), (nth undef T 27), (nth undef T 28), (nth undef T 29), (nth undef T 30), (nth undef T 31), (nth undef T 32), (nth undef T 33), (nth undef T 34), (nth undef T 35), (nth undef T 36), (nth undef T 11), (nth undef T 1), x0, x1, (nth undef T 41), (nth undef T 42), (nth undef T 9), x2, (nth undef T 10), x3, (nth undef T 0), x4, (nth undef T 1), (nth undef T 11), x5, x6, x7, x8, x8, (nth undef T 56), (nth undef T 57), (nth undef T 58), (nth undef T 59), (nth undef T 60), (nth undef T 61), (nth undef T 62), (nth undef T 63), (nth undef T 64), (nth undef T 65), (nth undef T 66), (nth undef T 67), (nth undef T 68), (nth undef T 69), (nth undef T 70), (nth undef T 71), (nth undef T 72), (nth undef T 73), (nth undef T 74), (nth undef T 75), (nth undef T 76), (nth undef T 77), (nth undef T 78), (nth undef T 79), (nth undef T 80), (nth undef T 81), (nth undef T 82), (nth undef T 83), (nth undef T 84), (nth undef T 85), (nth undef T 86), (nth undef T 87), (nth undef T 88), (nth undef T 89), x78, x78, (nth undef T 92), (nth undef T 93), (nth undef T 94), (nth undef T 95), (nth undef T 96), (nth undef T 97), (nth undef T 98), (nth undef T 99), (nth undef T 100), (nth undef T 101), (nth undef T 102), (nth undef T 103), (nth undef T 104), (nth undef T 105), (nth undef T 106), (nth undef T 107), (nth undef T 108), (nth undef T 109), (nth undef T 110), (nth undef T 111), (nth undef T 112), (nth undef T 113), (nth undef T 114), (nth undef T 115), (nth undef T 116), (nth undef T 117), (nth undef T 118), (nth undef T 119), (nth undef T 120), (nth undef T 121), (nth undef T 122), (nth undef T 123), (nth undef T 124), (nth undef T 125), (nth undef T 126), (nth undef T 127), (nth undef T 128), x127, x127, (nth undef T 6), (nth undef T 11), x128, x129, x130, x131, (nth undef T 9), x132, (nth undef T 10), x133, x134, (nth undef T 6), (nth undef T 11), x135, x136, x137, x138, (nth undef T 10), x139, x139, (nth undef T 9), x140, x141, x141, x142, x144, x146, x148, x150, x152, x154, (nth undef T 162), (nth undef T 163), (nth undef T 164), (nth undef T 165), (nth undef T 166), (nth undef T 167), (nth undef T 168), (nth undef T 169)], G153)) (
  bP (gBinF Q .add 3 (.tmp 41) (.const (.int .i64 1)) (nth undef T 11) (.int .i64 1)) fun x155 =>
  (E orc).lp (subAt [1, 1, 1, 1, 1, 1, 1, 1, 0, 1, 0, 0] (bodyOf Try.f12)) [(nth undef T 0), (nth undef T 1), (nth undef T 2), (nth undef T 3), (nth undef T 4), (nth undef T 5), (nth undef T 6), (nth undef T 7), (nth undef T 8), (nth undef T 9), x139, x155, x4, (nth undef T 13), (nth undef T 14), (nth undef T 15), (nth undef T 16), (nth undef T 17), (nth undef T 18), (nth undef T 19), (nth undef T 20), (nth undef T 21), (nth undef T 22), (nth undef T 23), (nth undef T 24), (nth undef T 25), (nth undef T 26), (nth undef T 27), (nth undef T 28), (nth undef T 29), (nth undef T 30), (nth undef T 31), (nth undef T 32), (nth undef T 33), (nth undef T 34), (nth undef T 35), (nth undef T 36), (nth undef T 11), (nth undef T 1), x0, x1, (nth undef T 11), x155, (nth undef T 9), x2, (nth undef T 10), x3, (nth undef T 0), x4, (nth undef T 1), (nth undef T 11), x5, x6, x7, x8, x8, (nth undef T 56), (nth undef T 57), (nth undef T 58), (nth undef T 59), (nth undef T 60), (nth undef T 61), (nth undef T 62), (nth undef T 63), (nth undef T 64), (nth undef T 65), (nth undef T 66), (nth undef T 67), (nth undef T 68), (nth undef T 69), (nth undef T 70), (nth undef T 71), (nth undef T 72), (nth undef T 73), (nth undef T 74), (nth undef T 75), (nth undef T 76), (nth undef T 77), (nth undef T 78), (nth undef T 79), (nth undef T 80), (nth undef T 81), (nth undef T 82), (nth undef T 83), (nth undef T 84), (nth undef T 85), (nth undef T 86), (nth undef T 87), (nth undef T 88), (nth undef T 89), x78, x78, (nth undef T 92), (nth undef T 93), (nth undef T 94), (nth undef T 95), (nth undef T 96), (nth undef T 97), (nth undef T 98), (nth undef T 99), (nth undef T 100), (nth undef T 101), (nth undef T 102), (nth undef T 103), (nth undef T 104), (nth undef T 105), (nth undef T 106), (nth undef T 107), (nth undef T 108), (nth undef T 109), (nth undef T 110), (nth undef T 111), (nth undef T 112), (nth undef T 113), (nth undef T 114), (nth undef T 115), (nth undef T 116), (nth undef T 117), (nth undef T 118), (nth undef T 119), (nth undef T 120), (nth undef T 121), (nth undef T 122), (nth undef T 123), (nth undef T 124), (nth undef T 125), (nth undef T 126), (nth undef T 127), (nth undef T 128), x127, x127, (nth undef T 6), (nth undef T 11), x128, x129, x130, x131, (nth undef T 9), x132, (nth undef T 10), x133, x134, (nth undef T 6), (nth undef T 11), x135, x136, x137, x138, (nth undef T 10), x139, x139, (nth undef T 9), x140, x141, x141, x142, x144, x146, x148, x150, x152, x154, (nth undef T 162), (nth undef T 163), (nth undef T 164), (nth undef T 165), (nth undef T 166), (nth undef T 167), (nth undef T 168), (nth undef T 169)] G153)) (
  bP (gLen Q 50 (nth undef T 9)) fun x156 =>
  bP (gBinF Q .gtr 3 (.tmp 150) (.tmp 152) (nth undef T 10) x156) fun x157 =>
  bS (gd x157 false (some ((nth undef T 9), G)) G) fun x158 G159 =>
  bS (gd x157 false (bP (gLen Q 50 x158) fun y => some (y, G159)) G159) fun x160 G161 =>
  bS (gd x157 false (some ((nth undef T 10), G161)) G161) fun x162 G163 =>
  bS (gd x157 false (bP (gBinF Q .sub 3 (.tmp 156) (.tmp 157) x160 x162) fun y => some (y, G163)) G163) fun x164 G165 =>
  bS (gd x157 false (some ((nth undef T 0), G165)) G165) fun x166 G167 =>
  bS (gd x157 false (bP (gBinF Q .gtr 3 (.tmp 158) (.tmp 159) x164 x166) fun y => some (y, G167)) G167) fun x168 G169 =>
  bP (pickV x157 (.bool true) x168) fun x170 =>
  ifV x170 (
  some (.ret, [(nth undef T 0), (nth undef T 1), (nth undef T 2), (nth undef T 3), (.bool false), (nth undef T 5), (nth undef T 6), (nth undef T 7), (nth undef T 8), (nth undef T 9), (nth undef T 10), (nth undef T 11), x4, (nth undef T 13), (nth undef T 14), (nth undef T 15), (nth undef T 16), (nth undef T 17), (nth undef T 18), (nth undef T 19), (nth undef T 20), (nth undef T 21), (nth undef T 22), (nth undef T 23), (nth undef T 24), (nth undef T 25), (nth undef T 26), (nth undef T 27), (nth undef T 28), (nth undef T 29), (nth undef T 30), (nth undef T 31), (nth undef T 32), (nth undef T 33), (nth undef T 34), (nth undef T 35), (nth undef T 36), (nth undef T 11), (nth undef T 1), x0, x1, (nth undef T 41), (nth undef T 42), (nth undef T 9), x2, (nth undef T 10), x3, (nth undef T 0), x4, (nth undef T 1), (nth undef T 11), x5, x6, x7, x8, x8, (nth undef T 56), (nth undef T 57), (nth undef T 58), (nth undef T 59), (nth undef T 60), (nth undef T 61), (nth undef T 62), (nth undef T 63), (nth undef T 64), (nth undef T 65), (nth undef T 66), (nth undef T 67), (nth undef T 68), (nth undef T 69), (nth undef T 70), (nth undef T 71), (nth undef T 72), (nth undef T 73), (nth undef T 74), (nth undef T 75), (nth undef T 76), (nth undef T 77), (nth undef T 78), (nth undef T 79), (nth undef T 80), (nth undef T 81), (nth undef T 82), (nth undef T 83), (nth undef T 84), (nth undef T 85), (nth undef T 86), (nth undef T 87), (nth undef T 88), (nth undef T 89), x78, x78, (nth undef T 92), (nth undef T 93), (nth undef T 94), (nth undef T 95), (nth undef T 96), (nth undef T 97), (nth undef T 98), (nth undef T 99), (nth undef T 100), (nth undef T 101), (nth undef T 102), (nth undef T 103), (nth undef T 104), (nth undef T 105), (nth undef T 106), (nth undef T 107), (nth undef T 108), (nth undef T 109), (nth undef T 110), (nth undef T 111), (nth undef T 112), (nth undef T 113), (nth undef T 114), (nth undef T 115), (nth undef T 116), (nth undef T 117), (nth undef T 118), (nth undef T 119), (nth undef T 120), (nth undef T 121), (nth undef T 122), (nth undef T 123), (nth undef T 124), (nth undef T 125), (nth undef T 126), (nth undef T 127), (nth undef T 128), x127, x127, (nth undef T 6), (nth undef T 11), x128, x129, x130, x131, (nth undef T 9), x132, (nth undef T 10), x133, x134, (nth undef T 6), (nth undef T 11), x135, x136, x137, x138, (nth undef T 148), (nth undef T 149), (nth undef T 10), (nth undef T 9), x156, x157, x157, x158, x160, x162, x164, x166, x168, x170, (nth undef T 162), (nth undef T 163), (nth undef T 164), (nth undef T 165), (nth undef T 166), (nth undef T 167), (nth undef T 168), (nth undef T 169)], G169)) (
  bP (gBinF Q .add 3 (.tmp 41) (.const (.int .i64 1)) (nth undef T 11) (.int .i64 1)) fun x171 =>
  (E orc).lp (subAt [1, 1, 1, 1, 1, 1, 1, 1, 0, 1, 0, 0] (bodyOf Try.f12)) [(nth undef T 0), (nth undef T 1), (nth undef T 2), (nth undef T 3), (nth undef T 4), (nth undef T 5), (nth undef T 6), (nth undef T 7), (nth undef T 8), (nth undef T 9), (nth undef T 10), x171, x4, (nth undef T 13), (nth undef T 14), (nth undef T 15), (nth undef T 16), (nth undef T 17), (nth undef T 18), (nth undef T 19), (nth undef T 20), (nth undef T 21), (nth undef T 22), (nth undef T 23), (nth undef T 24), (nth undef T 25), (nth undef T 26), (nth undef T 27), (nth undef T 28), (nth undef T 29), (nth undef T 30), (nth undef T 31), (nth undef T 32), (nth undef T 33), (nth undef T 34), (nth undef T 35), (nth undef T 36), (nth undef T 11), (nth undef T 1), x0, x1, (nth undef T 11), x171, (nth undef T 9), x2, (nth undef T 10), x3, (nth undef T 0), x4, (nth undef T 1), (nth undef T 11), x5, x6, x7, x8, x8, (nth undef T 56), (nth undef T 57), (nth undef T 58), (nth undef T 59), (nth undef T 60), (nth undef T 61), (nth undef T 62), (nth undef T 63), (nth undef T 64), (nth undef T 65), (nth undef T 66), (nth undef T 67), (nth undef T 68), (nth undef T 69), (nth undef T 70), (nth undef T 71), (nth undef T 72), (nth undef T 73), (nth undef T 74), (nth undef T 75), (nth undef T 76), (nth undef T 77), (nth undef T 78), (nth undef T 79), (nth undef T 80), (nth undef T 81), (nth undef T 82), (nth undef T 83), (nth undef T 84), (nth undef T 85), (nth undef T 86), (nth undef T 87), (nth undef T 88), (nth undef T 89), x78, x78, (nth undef T 92), (nth undef T 93), (nth undef T 94), (nth undef T 95), (nth undef T 96), (nth undef T 97), (nth undef T 98), (nth undef T 99), (nth undef T 100), (nth undef T 101), (nth undef T 102), (nth undef T 103), (nth undef T 104), (nth undef T 105), (nth undef T 106), (nth undef T 107), (nth undef T 108), (nth undef T 109), (nth undef T 110), (nth undef T 111), (nth undef T 112), (nth undef T 113), (nth undef T 114), (nth undef T 115), (nth undef T 116), (nth undef T 117), (nth undef T 118), (nth undef T 119), (nth undef T 120), (nth undef T 121), (nth undef T 122), (nth undef T 123), (nth undef T 124), (nth undef T 125), (nth undef T 126), (nth undef T 127), (nth undef T 128), x127, x127, (nth undef T 6), (nth undef T 11), x128, x129, x130, x131, (nth undef T 9), x132, (nth undef T 10), x133, x134, (nth undef T 6), (nth undef T 11), x135, x136, x137, x138, (nth undef T 148), (nth undef T 149), (nth undef T 10), (nth undef T 9), x156, x157, x157, x158, x160, x162, x164, x166, x168, x170, (nth undef T 162), (nth undef T 163), (nth undef T 164), (nth undef T 165), (nth undef T 166), (nth undef T 167), (nth undef T 168), (nth undef T 169)] G169)))) (
  bP (gLen Q 50 (nth undef T 9)) fun x172 =>
  bP (gBinF Q .gtr 3 (.tmp 150) (.tmp 152) (nth undef T 10) x172) fun x173 =>
  bS (gd x173 false (some ((nth undef T 9), G)) G) fun x174 G175 =>
  bS (gd x173 false (bP (gLen Q 50 x174) fun y => some (y, G175)) G175) fun x176 G177 =>
  bS (gd x173 false (some ((nth undef T 10), G177)) G177) fun x178 G179 =>
  bS (gd x173 false (bP (gBinF Q .sub 3 (.tmp 156) (.tmp 157) x176 x178) fun y => some (y, G179)) G179) fun x180 G181 =>
  bS (gd x173 false (some ((nth undef T 0), G181)) G181) fun x182 G183 =>
  bS (gd x173 false (bP (gBinF Q .gtr 3 (.tmp 158) (.tmp 159) x180 x182) fun y => some (y, G183)) G183) fun x184 G185 =>
  bP (pickV x173 (.bool true) x184) fun x186 =>
  ifV x186 (
  some (.ret, [(nth undef T 0), (nth undef T 1), (nth undef T 2), (nth undef T 3), (.bool false), (nth undef T 5), (nth undef T 6), (nth undef T 7), (nth undef T 8), (nth undef T 9), (nth undef T 10), (nth undef T 11), x4, (nth undef T 13), (nth undef T 14), (nth undef T 15), (nth undef T 16), (nth undef T 17), (nth undef T 18), (nth undef T 19), (nth undef T 20), (nth undef T 21), (nth undef T 22), (nth undef T 23), (nth undef T 24), (nth undef T 25), (nth undef T 26), (nth undef T 27), (nth undef T 28), (nth undef T 29), (nth undef T 30), (nth undef T 31), (nth undef T 32), (nth undef T 33), (nth undef T 34), (nth undef T 35), (nth undef T 36), (nth undef T 11), (nth undef T 1), x0, x1, (nth undef T 41), (nth undef T 42), (nth undef T 9), x2, (nth undef T 10), x3, (nth undef T 0), x4, (nth undef T 1), (nth undef T 11), x5, x6, x7, x8, x8, (nth undef T 56), (nth undef T 57), (nth undef T 58), (nth undef T 59), (nth undef T 60), (nth undef T 61), (nth undef T 62), (nth undef T 63), (nth undef T 64), (nth undef T 65), (nth undef T 66), (nth undef T 67), (nth undef T 68), (nth undef T 69), (nth undef T 70), (nth undef T 71), (nth undef T 72), (nth undef T 73), (nth undef T 74), (nth undef T 75), (nth undef T 76), (nth undef T 77), (nth undef T 78), (nth undef T 79), (nth undef T 80), (nth undef T 81), (nth undef T 82), (nth undef T 83), (nth undef T 84), (nth undef T 85), (nth undef T 86), (nth undef T 87), (nth undef T 88), (nth undef T 89), x78, x78, (nth undef T 92), (nth undef T 93), (nth undef T 94), (nth undef T 95), (nth undef T 96), (nth undef T 97), (nth undef T 98), (nth undef T 99), (nth undef T 100), (nth undef T 101), (nth undef T 102), (nth undef T 103), (nth undef T 104), (nth undef T 105), (nth undef T 106), (nth undef T 107), (nth undef T 108), (nth undef T 109), (nth undef T 110), (nth undef T 111), (nth undef T 112), (nth undef T 113), (nth undef T 114), (nth undef T 115), (nth undef T 116), (nth undef T 117), (nth undef T 118), (nth undef T 119), (nth undef T 120), (nth undef T 121), (nth undef T 122), (nth undef T 123), (nth undef T 124), (nth undef T 125), (nth undef T 126), (nth undef T 127), (nth undef T 128), x127, x127, (nth undef T 131), (nth undef T 132), (nth undef T 133), (nth undef T 134), (nth undef T 135), (nth undef T 136), (nth undef T 137), (nth undef T 138), (nth undef T 139), (nth undef T 140), (nth undef T 141), (nth undef T 142), (nth undef T 143), (nth undef T 144), (nth undef T 145), (nth undef T 146), (nth undef T 147), (nth undef T 148), (nth undef T 149), (nth undef T 10), (nth undef T 9), x172, x173, x173, x174, x176, x178, x180, x182, x184, x186, (nth undef T 162), (nth undef T 163), (nth undef T 164), (nth undef T 165), (nth undef T 166), (nth undef T 167), (nth undef T 168), (nth undef T 169)], G185)) (
  bP (gBinF Q .add 3 (.tmp 41) (.const (.int .i64 1)) (nth undef T 11) (.int .i64 1)) fun x187 =>
  (E orc).lp (subAt [1, 1, 1, 1, 1, 1, 1, 1, 0, 1, 0, 0] (bodyOf Try.f12)) [(nth undef T 0), (nth undef T 1), (nth undef T 2), (nth undef T 3), (nth undef T 4), (nth undef T 5), (nth undef T 6), (nth undef T 7), (nth undef T 8), (nth undef T 9), (nth undef T 10), x187, x4, (nth undef T 13), (nth undef T 14), (nth undef T 15), (nth undef T 16), (nth undef T 17), (nth undef T 18), (nth undef T 19), (nth undef T 20), (nth undef T 21), (nth undef T 22), (nth undef T 23), (nth undef T 24), (nth undef T 25), (nth undef T 26), (nth undef T 27), (nth undef T 28), (nth undef T 29), (nth undef T 30), (nth undef T 31), (nth undef T 32), (nth undef T 33), (nth undef T 34), (nth undef T 35), (nth undef T 36), (nth undef T 11), (nth undef T 1), x0, x1, (nth undef T 11), x187, (nth undef T 9), x2, (nth undef T 10), x3, (nth undef T 0), x4, (nth undef T 1), (nth undef T 11), x5, x6, x7, x8, x8, (nth undef T 56), (nth undef T 57), (nth undef T 58), (nth undef T 59), (nth undef T 60), (nth undef T 61), (nth undef T 62), (nth undef T 63), (nth undef T 64), (nth undef T 65), (nth undef T 66), (nth undef T 67), (nth undef T 68), (nth undef T 69), (nth undef T 70), (nth undef T 71), (nth undef T 72), (nth undef T 73), (nth undef T 74), (nth undef T 75), (nth undef T 76), (nth undef T 77), (nth undef T 78), (nth undef T 79), (nth undef T 80), (nth undef T 81), (nth undef T 82), (nth undef T 83), (nth undef T 84), (nth undef T 85), (nth undef T 86), (nth undef T 87), (nth undef T 88), (nth undef T 89), x78, x78, (nth undef T 92), (nth undef T 93), (nth undef T 94), (nth undef T 95), (nth undef T 96), (nth undef T 97), (nth undef T 98), (nth undef T 99), (nth undef T 100), (nth undef T 101), (nth undef T 102), (nth undef T 103), (nth undef T 104), (nth undef T 105), (nth undef T 106), (nth undef T 107), (nth undef T 108), (nth undef T 109), (nth undef T 110), (nth undef T 111), (nth undef T 112), (nth undef T 113), (nth undef T 114), (nth undef T 115), (nth undef T 116), (nth undef T 117), (nth undef T 118), (nth undef T 119), (nth undef T 120), (nth undef T 121), (nth undef T 122), (nth undef T 123), (nth undef T 124), (nth undef T 125), (nth undef T 126), (nth undef T 127), (nth undef T 128), x127, x127, (nth undef T 131), (nth undef T 132), (nth undef T 133), (nth undef T 134), (nth undef T 135), (nth undef T 136), (nth undef T 137), (nth undef T 138), (nth undef T 139), (nth undef T 140), (nth undef T 141), (nth undef T 142), (nth undef T 143), (nth undef T 144), (nth undef T 145), (nth undef T 146), (nth undef T 147), (nth undef T 148), (nth undef T 149), (nth undef T 10), (nth undef T 9), x172, x173, x173, x174, x176, x178, x180, x182, x184, x186, (nth undef T 162), (nth undef T 163), (nth undef T 164), (nth undef T 165), (nth undef T 166), (nth undef T 167), (nth undef T 168), (nth undef T 169)] G185))))) (
  some ((.exit 0), [(nth undef T 0), (nth undef T 1), (nth undef T 2), (nth undef T 3), (nth undef T 4), (nth undef T 5), (nth undef T 6), (nth undef T 7), (nth undef T 8), (nth undef T 9), (nth undef T 10), (nth undef T 11), (nth undef T 12), (nth undef T 13), (nth undef T 14), (nth undef T 15), (nth undef T 16), (nth undef T 17), (nth undef T 18), (nth undef T 19), (nth undef T 20), (nth undef T 21), (nth undef T 22), (nth undef T 23), (nth undef T 24), (nth undef T 25), (nth undef T 26), (nth undef T 27), (nth undef T 28), (nth undef T 29), (nth undef T 30), (nth undef T 31), (nth undef T 32), (nth undef T 33), (nth undef T 34), (nth undef T 35), (nth undef T 36), (nth undef T 11), (nth undef T 1), x0, x1, (nth undef T 41), (nth undef T 42), (nth undef T 43), (nth undef T 44), (nth undef T 45), (nth undef T 46), (nth undef T 47), (nth undef T 48), (nth undef T 49), (nth undef T 50), (nth undef T 51), (nth undef T 52), (nth undef T 53), (nth undef T 54), (nth undef T 55), (nth undef T 56), (nth undef T 57), (nth undef T 58), (nth undef T 59), (nth undef T 60), (nth undef T 61), (nth undef T 62), (nth undef T 63), (nth undef T 64), (nth undef T 65), (nth undef T 66), (nth undef T 67), (nth undef T 68), (nth undef T 69), (nth undef T 70), (nth undef T 71), (nth undef T 72), (nth undef T 73), (nth undef T 74), (nth undef T 75), (nth undef T 76), (nth undef T 77), (nth undef T 78), (nth undef T 79), (nth undef T 80), (nth undef T 81), (nth undef T 82), (nth undef T 83), (nth undef T 84), (nth undef T 85), (nth undef T 86), (nth undef T 87), (nth undef T 88), (nth undef T 89), (nth undef T 90), (nth undef T 91), (nth undef T 92), (nth undef T 93), (nth undef T 94), (nth undef T 95), (nth undef T 96), (nth undef T 97), (nth undef T 98), (nth undef T 99), (nth undef T 100), (nth undef T 101), (nth undef T 102), (nth undef T 103), (nth undef T 104), (nth undef T 105), (nth undef T 106), (nth undef T 107), (nth undef T 108), (nth undef T 109), (nth undef T 110), (nth undef T 111), (nth undef T 112), (nth undef T 113), (nth undef T 114), (nth undef T 115), (nth undef T 116), (nth undef T 117), (nth undef T 118), (nth undef T 119), (nth undef T 120), (nth undef T 121), (nth undef T 122), (nth undef T 123), (nth undef T 124), (nth undef T 125), (nth undef T 126), (nth undef T 127), (nth undef T 128), (nth undef T 129), (nth undef T 130), (nth undef T 131), (nth undef T 132), (nth undef T 133), (nth undef T 134), (nth undef T 135), (nth undef T 136), (nth undef T 137), (nth undef T 138), (nth undef T 139), (nth undef T 140), (nth undef T 141), (nth undef T 142), (nth undef T 143), (nth undef T 144), (nth undef T 145), (nth undef T 146), (nth undef T 147), (nth undef T 148), (nth undef T 149), (nth undef T 150), (nth undef T 151), (nth undef T 152), (nth undef T 153), (nth undef T 154), (nth undef T 155), (nth undef T 156), (nth undef T 157), (nth undef T 158), (nth undef T 159), (nth undef T 160), (nth undef T 161), (nth undef T 162), (nth undef T 163), (nth undef T 164), (nth undef T 165), (nth undef T 166), (nth undef T 167), (nth undef T 168), (nth undef T 169)], G))
theorem l12_0 (orc : FuncId → Bool) (T : List Value) (G : GS) (hT : T.length = 170) {r : Exit × List Value × GS} (h : b12_0 orc T G = some r) : (E orc).lp (subAt [1, 1, 1, 1, 1, 1, 1, 1, 0, 1, 0, 0] (bodyOf Try.f12)) T G = some r :=
  lp_sxE Q orc G hT (by kernel_rfl) h
/-- coxswain/coxswainlaw06.FifoOne -/
noncomputable def s13 (orc : FuncId → Bool) (v0 v1 v2 : Value) (G : GS) : Option (Value × GS) :=
  bS (mBox v2 G) fun x0 G1 =>
  bS ((E orc).cl 11 [] G1) fun x2 G3 =>
  bP (gLen Q 65 v1) fun x4 =>
  bP (gBinF Q .gtr 3 (.tmp 21) (.const (.int .i64 40)) x4 (.int .i64 40)) fun x5 =>
  ifV x5 (
  some (x2, G3)) (
  bS ((E orc).cl 32 [v0, (.int .i64 20)] G3) fun x6 G7 =>
  bP (gBinF Q .add 3 (.const (.int .i64 1)) (.tmp 25) (.int .i64 1) x6) fun x8 =>
  bS ((E orc).cl 44 [x8, v1] G7) fun x9 G10 =>
  bP (pExtract x9 0) fun x11 =>
  bP (pExtract x9 1) fun x12 =>
  bP (pExtract x9 2) fun x13 =>
  bP (gBinF Q .neq 32 (.tmp 34) (.const (.int .i64 0)) x13 (.int .i64 0)) fun x14 =>
  bS (gd x14 false (some (x11, G10)) G10) fun x15 G16 =>
  bS (gd x14 false (bP (gLen Q 67 x15) fun y => some (y, G16)) G16) fun x17 G18 =>
  bS (gd x14 false (some (v1, G18)) G18) fun x19 G20 =>
  bS (gd x14 false (bP (gLen Q 65 x19) fun y => some (y, G20)) G20) fun x21 G22 =>
  bS (gd x14 false (bP (gBinF Q .neq 3 (.tmp 38) (.tmp 40) x17 x21) fun y => some (y, G22)) G22) fun x23 G24 =>
  bP (pickV x14 (.bool true) x23) fun x25 =>
  ifV x25 (
  some ((.bool false), G24)) (
  bX ((E orc).lp (subAt [1, 1, 1, 1, 1, 1, 1, 0, 1, 0, 0] (bodyOf Try.f13)) [x8, v1, v2, undef, undef, x0, (.bool false), x2, (.slice none 0 0), x11, x12, x13, (.int .i64 0), undef, undef, undef, undef, undef, undef, x2, v1, x4, x5, undef, v0, x6, x8, x9, x8, v1, x9, x11, x12, x13, x13, x14, x14, x15, x17, x19, x21, x23, x25, undef, undef, undef, undef, undef, undef, undef, undef, undef, undef, undef, undef, undef, undef, undef, undef, undef, undef, undef, undef, undef, undef, undef, undef, undef, undef, undef, undef, undef, undef, undef, undef, undef, undef, undef, undef, undef, undef, undef, undef, undef, undef, undef, undef, undef, undef, undef, undef, undef, undef, undef, undef, undef, undef, undef, undef, undef, undef, undef, undef, undef, undef] G24) fun e26 T27 G28 =>
  ifE e26 (.exit 0) (
  bS (gd (nth undef T27 7) true (some ((nth undef T27 8), G28)) G28) fun x29 G30 =>
  bS (gd (nth undef T27 7) true (some ((nth undef T27 10), G30)) G30) fun x31 G32 =>
  bS (gd (nth undef T27 7) true (bS ((E orc).cl 39 [x29, x31] G32) fun y G => some (y, G)) G32) fun x33 G34 =>
  bP (pickV (nth undef T27 7) x33 (.bool false)) fun x35 =>
  some (x35, G34)) (ifE e26 .ret (
  some ((nth undef T27 6), G28)) (none))))
theorem c13 (orc : FuncId → Bool) (v0 v1 v2 : Value) (G : GS) {r : Value × GS} (h : s13 orc v0 v1 v2 G = some r) : (E orc).cl 13 [v0, v1, v2] G = some r :=
  cl_sxE_some Q orc (vs := [v0, v1, v2]) G Try.func13 (by kernel_rfl) (by kernel_rfl) (by kernel_rfl) (by kernel_rfl) (by kernel_rfl) h
noncomputable def b13_0 (orc : FuncId → Bool) (T : List Value) (G : GS) : Option (Exit × List Value × GS) :=
  bP (gLen Q 65 (nth undef T 1)) fun x0 =>
  bP (gBinF Q .lss 3 (.tmp 43) (.tmp 45) (nth undef T 12) x0) fun x1 =>
  ifV x1 (
  bP (gIndexAddr Q 65 (nth undef T 1) (nth undef T 12)) fun x2 =>
  bP (gLoadF Q 53 x2 G) fun x3 =>
  bS ((E orc).cl 35 [(nth undef T 0), (nth undef T 8), x3] G) fun x4 G5 =>
  bP (pExtract x4 0) fun x6 =>
  bP (pExtract x4 1) fun x7 =>
  bS (mAlloc Q 55 G5) fun x8 G9 =>
  bP (gStore Q 55 x8 x6 G9) fun G10 =>
  bP (gLoadF Q 55 x8 (G10.room 6)) fun x11 =>
  bP (gIndexAddr Q 67 (nth undef T 9) (nth undef T 12)) fun x12 =>
  bP (gLoadF Q 55 x12 (G10.room 6)) fun x13 =>
  bP (gBinF Q .neq 55 (.tmp 59) (.tmp 63) x11 x13) fun x14 =>
  ifV x14 (
  some (.ret, [(nth undef T 0), (nth undef T 1), (nth undef T 2), (nth undef T 3), (nth undef T 4), (nth undef T 5), (.bool false), (nth undef T 7), (nth undef T 8), (nth undef T 9), (nth undef T 10), (nth undef T 11), (nth undef T 12), x8, x7, (nth undef T 15), (nth undef T 16), (nth undef T 17), (nth undef T 18), (nth undef T 19), (nth undef T 20), (nth undef T 21), (nth undef T 22), (nth undef T 23), (nth undef T 24), (nth undef T 25), (nth undef T 26), (nth undef T 27), (nth undef T 28), (nth undef T 29), (nth undef T 30), (nth undef T 31), (nth undef T 32), (nth undef T 33), (nth undef T 34), (nth undef T 35), (nth undef T 36), (nth undef T 37), (nth undef T 38), (nth undef T 39), (nth undef T 40), (nth undef T 41), (nth undef T 42), (nth undef T 12), (nth undef T 1), x0, x1, (nth undef T 47), (nth undef T 48), x4, (nth undef T 0), (nth undef T 8), (nth undef T 1), (nth undef T 12), x2, x3, x4, x6, x7, x11, (nth undef T 9), (nth undef T 12), x12, x13, x14, (nth undef T 65), (nth undef T 66), (nth undef T 67), (nth undef T 68), (nth undef T 69), (nth undef T 70), (nth undef T 71), (nth undef T 72), (nth undef T 73), (nth undef T 74), (nth undef T 75), (nth undef T 76), (nth undef T 77), (nth undef T 78), (nth undef T 79), (nth undef T 80), (nth undef T 81), (nth undef T 82), (nth undef T 83), (nth undef T 84), (nth undef T 85), (nth undef T 86), (nth undef T 87), (nth undef T 88), (nth undef T 89), (nth undef T 90), (nth undef T 91), (nth undef T 92), (nth undef T 93), (nth undef T 94), (nth undef T 95), (nth undef T 96), (nth undef T 97), (nth undef T 98), (nth undef T 99), (nth undef T 100), (nth undef T 101), (nth undef T 102), (nth undef T 103), (nth undef T 104)], (G10.room 6))) (
  bP (gIndexAddr Q 65 (nth undef T 1) (nth undef T 12)) fun x15 =>
  bP (gLoadF Q 53 x15 ((G10.room 6).room 13)) fun x16 =>
  bP (gLoadF Q 55 (nth undef T 5) ((G10.room 6).room 13)) fun x17 =>
  bS ((E orc).cl 37 [(nth undef T 0), (nth undef T 8), x16, x17] ((G10.room 6).room 13)) fun x19 G18 =>
  bP (pExtract x19 0) fun x20 =>
  bP (pExtract x19 1) fun x21 =>
  bS (gd x7 true (bP (gLoadF Q 55 (nth undef T 5) G18) fun y => some (y, G18)) G18) fun x22 G23 =>
  bS (gd x7 true (bP (gLoadF Q 55 x8 G23) fun y => some (y, G23)) G23) fun x24 G25 =>
  bS (gd x7 true (bP (gBinF Q .eql 55 (.tmp 79) (.tmp 80) x22 x24) fun y => some (y, G25)) G25) fun x26 G27 =>
  bP (pickV x7 x26 (.bool false)) fun x28 =>
  bP (gBinF Q .neq 4 (.tmp 76) (.tmp 82) x21 x28) fun x29 =>
  ifV x29 (
  some (.ret, [(nth undef T 0), (nth undef T 1), (nth undef T 2), (nth undef T 3), (nth undef T 4), (nth undef T 5), (.bool false), (nth undef T 7), (nth undef T 8), (nth undef T 9), (nth undef T 10), (nth undef T 11), (nth undef T 12), x8, x7, x20, x21, (nth undef T 17), (nth undef T 18), (nth undef T 19), (nth undef T 20), (nth undef T 21), (nth undef T 22), (nth undef T 23), (nth undef T 24), (nth undef T 25), (nth undef T 26), (nth undef T 27), (nth undef T 28), (nth undef T 29), (nth undef T 30), (nth undef T 31), (nth undef T 32), (nth undef T 33), (nth undef T 34), (nth undef T 35), (nth undef T 36), (nth undef T 37), (nth undef T 38), (nth undef T 39), (nth undef T 40), (nth undef T 41), (nth undef T 42), (nth undef T 12), (nth undef T 1), x0, x1, (nth undef T 47), (nth undef T 48), x4, (nth undef T 0), (nth undef T 8), (nth undef T 1), (nth undef T 12), x2, x3, x4, x6, x7, x11, (nth undef T 9), (nth undef T 12), x12, x13, x14, x19, (nth undef T 0), (nth undef T 8), (nth undef T 1), (nth undef T 12), x15, x16, x17, x19, x20, x21, x21, x7, x7, x22, x24, x26, x28, x29, (nth undef T 84), (nth undef T 85), (nth undef T 86), (nth undef T 87), (nth undef T 88), (nth undef T 89), (nth undef T 90), (nth undef T 91), (nth undef T 92), (nth undef T 93), (nth undef T 94), (nth undef T 95), (nth undef T 96), (nth undef T 97), (nth undef T 98), (nth undef T 99), (nth undef T 100), (nth undef T 101), (nth undef T 102), (nth undef T 103), (nth undef T 104)], G27)) (
  ifV x7 (
  bP (gIndexAddr Q 65 (nth undef T 1) (nth undef T 12)) fun x30 =>
  bP (gLoadF Q 53 x30 (G27.room 13)) fun x31 =>
  bP (gLoadF Q 55 x8 (G27.room 13)) fun x32 =>
  bS ((E orc).cl 37 [(nth undef T 0), (nth undef T 8), x31, x32] (G27.room 13)) fun x34 G33 =>
  bP (pExtract x34 0) fun x35 =>
  bP (pExtract x34 1) fun x36 =>
  bP (pUn Q .not x36) fun x37 =>
  ifV x37 (
  some (.ret, [(nth undef T 0), (nth undef T 1), (nth undef T 2), (nth undef T 3), (nth undef T 4), (nth undef T 5), (.bool false), (nth undef T 7), (nth undef T 8), (nth undef T 9), (nth undef T 10), (nth undef T 11), (nth undef T 12), x8, x7, x20, x21, x35, x36, (nth undef T 19), (nth undef T 20), (nth undef T 21), (nth undef T 22), (nth undef T 23), (nth undef T 24), (nth undef T 25), (nth undef T 26), (nth undef T 27), (nth undef T 28), (nth undef T 29), (nth undef T 30), (nth undef T 31), (nth undef T 32), (nth undef T 33), (nth undef T 34), (nth undef T 35), (nth undef T 36), (nth undef T 37), (nth undef T 38), (nth undef T 39), (nth undef T 40), (nth undef T 41), (nth undef T 42), (nth undef T 12), (nth undef T 1), x0, x1, (nth undef T 47), (nth undef T 48), x4, (nth undef T 0), (nth undef T 8), (nth undef T 1), (nth undef T 12), x2, x3, x4, x6, x7, x11, (nth undef T 9), (nth undef T 12), x12, x13, x14, x19, (nth undef T 0), (nth undef T 8), (nth undef T 1), (nth undef T 12), x15, x16, x17, x19, x20, x21, x21, x7, x7, x22, x24, x26, x28, x29, x7, x34, (nth undef T 0), (nth undef T 8), (nth undef T 1), (nth undef T 12), x30, x31, x32, x34, x35, x36, x36, x37, (nth undef T 98), (nth undef T 99), (nth undef T 100), (nth undef T 101), (nth undef T 102), (nth undef T 103), (nth undef T 104)], G33)) (
  bP (gBinF Q .add 3 (.tmp 47) (.const (.int .i64 1)) (nth undef T 12) (.int .i64 1)) fun x38 =>
  (E orc).lp (subAt [1, 1, 1, 1, 1, 1, 1, 0, 1, 0, 0] (bodyOf Try.f13)) [(nth undef T 0), (nth undef T 1), (nth undef T 2), (nth undef T 3), (nth undef T 4), (nth undef T 5), (nth undef T 6), (nth undef T 7), x35, (nth undef T 9), (nth undef T 10), (nth undef T 11), x38, x8, x7, x20, x21, x35, x36, (nth undef T 19), (nth undef T 20), (nth undef T 21), (nth undef T 22), (nth undef T 23), (nth undef T 24), (nth undef T 25), (nth undef T 26), (nth undef T 27), (nth undef T 28), (nth undef T 29), (nth undef T 30), (nth undef T 31), (nth undef T 32), (nth undef T 33), (nth undef T 34), (nth undef T 35), (nth undef T 36), (nth undef T 37), (nth undef T 38), (nth undef T 39), (nth undef T 40), (nth undef T 41), (nth undef T 42), (nth undef T 12), (nth undef T 1), x0, x1, (nth undef T 12), x38, x4, (nth undef T 0), (nth undef T 8), (nth undef T 1), (nth undef T 12), x2, x3, x4, x6, x7, x11, (nth undef T 9), (nth undef T 12), x12, x13, x14, x19, (nth undef T 0), (nth undef T 8), (nth undef T 1), (nth undef T 12), x15, x16, x17, x19, x20, x21, x21, x7, x7, x22, x24, x26, x28, x29, x7, x34, (nth undef T 0), (nth undef T 8), (nth undef T 1), (nth undef T 12), x30, x31, x32, x34, x35, x36, x36, x37, x35, (nth undef T 99), (nth undef T 100), (nth undef T 101), (nth undef T 102), (nth undef T 103), (nth undef T 104)] G33)) (
  bP (gBinF Q .add 3 (.tmp 47) (.const (.int .i64 1)) (nth undef T 12) (.int .i64 1)) fun x39 =>
  (E orc).lp (subAt [1, 1, 1, 1, 1, 1, 1, 0, 1, 0, 0] (bodyOf Try.f13)) [(nth undef T 0), (nth undef T 1), (nth undef T 2), (nth undef T 3), (nth undef T 4), (nth undef T 5), (nth undef T 6), (nth undef T 7), (nth undef T 8), (nth undef T 9), (nth undef T 10), (nth undef T 11), x39, x8, x7, x20, x21, (nth undef T 17), (nth undef T 18), (nth undef T 19), (nth undef T 20), (nth undef T 21), (nth undef T 22), (nth undef T 23), (nth undef T 24), (nth undef T 25), (nth undef T 26), (nth undef T 27), (nth undef T 28), (nth undef T 29), (nth undef T 30), (nth undef T 31), (nth undef T 32), (nth undef T 33), (nth undef T 34), (nth undef T 35), (nth undef T 36), (nth undef T 37), (nth undef T 38), (nth undef T 39), (nth undef T 40), (nth undef T 41), (nth undef T 42), (nth undef T 12), (nth undef T 1), x0, x1, (nth undef T 12), x39, x4, (nth undef T 0), (nth undef T 8), (nth undef T 1), (nth undef T 12), x2, x3, x4, x6, x7, x11, (nth undef T 9), (nth undef T 12), x12, x13, x14, x19, (nth undef T 0), (nth undef T 8), (nth undef T 1), (nth undef T 12), x15, x16, x17, x19, x20, x21, x21, x7, x7, x22, x24, x26, x28, x29, x7, (nth undef T 85), (nth undef T 86), (nth undef T 87), (nth undef T 88), (nth undef T 89), (nth undef T 90), (nth undef T 91), (nth undef T 92), (nth undef T 93), (nth undef T 94), (nth undef T 95), (nth undef T 96), (nth undef T 97), (nth undef T 98), (nth undef T 99), (nth undef T 100), (nth undef T 101), (nth undef T 102), (nth undef T 103), (nth undef T 104)] G27)))) (
  some ((.exit 0), [(nth undef T 0), (nth undef T 1), (nth undef T 2), (nth undef T 3), (nth undef T 4), (nth undef T 5), (nth undef T 6), (nth undef T 7), (nth undef T 8), (nth undef T 9), (nth undef T 10), (nth undef T 11), (nth undef T 12), (nth undef T 13), (nth undef T 14), (nth undef T 15), (nth undef T 16), (nth undef T 17), (nth undef T 18), (nth undef T 19), (nth undef T 20), (nth undef T 21), (nth undef T 22), (nth undef T 23), (nth undef T 24), (nth undef T 25), (nth undef T 26), (nth undef T 27), (nth undef T 28), (nth undef T 29), (nth undef T 30), (nth undef T 31), (nth undef T 32), (nth undef T 33), (nth undef T 34), (nth undef T 35), (nth undef T 36), (nth undef T 37), (nth undef T 38), (nth undef T 39), (nth undef T 40), (nth undef T 41), (nth undef T 42), (nth undef T 12), (nth undef T 1), x0, x1, (nth undef T 47), (nth undef T 48), (nth undef T 49), (nth undef T 50), (nth undef T 51), (nth undef T 52), (nth undef T 53), (nth undef T 54), (nth undef T 55), (nth undef T 56), (nth undef T 57), (nth undef T 58), (nth undef T 59), (nth undef T 60), (nth undef T 61), (nth undef T 62), (nth undef T 63), (nth undef T 64), (nth undef T 65), (nth undef T 66), (nth undef T 67), (nth undef T 68), (nth undef T 69), (nth undef T 70), (nth undef T 71), (nth undef T 72), (nth undef T 73), (nth undef T 74), (nth undef T 75), (nth undef T 76), (nth undef T 77), (nth undef T 78), (nth undef T 79), (nth undef T 80), (nth undef T 81), (nth undef T 82), (nth undef T 83), (nth undef T 84), (nth undef T 85), (nth undef T 86), (nth undef T 87), (nth undef T 88), (nth undef T 89), (nth undef T 90), (nth undef T 91), (nth undef T 92), (nth undef T 93), (nth undef T 94), (nth undef T 95), (nth undef T 96), (nth undef T 97), (nth undef T 98), (nth undef T 99), (nth undef T 100), (nth undef T 101), (nth undef T 102), (nth undef T 103), (nth undef T 104)], G))
theorem l13_0 (orc : FuncId → Bool) (T : List Value) (G : GS) (hT : T.length = 105) {r : Exit × List Value × GS} (h : b13_0 orc T G = some r) : (E orc).lp (subAt [1, 1, 1, 1, 1, 1, 1, 0, 1, 0, 0] (bodyOf Try.f13)) T G = some r :=
  lp_sxE Q orc G hT (by kernel_rfl) h
/-- coxswain/coxswainlaw03.awake -/
noncomputable def s14 (orc : FuncId → Bool) (G : GS) : Option (Value × GS) :=
  bS (mBuildV Q 22 3 [(0, (.int .i64 3)), (1, (.int .i64 8)), (2, (.int .i64 1))] G) fun x0 G1 =>
  bS ((E orc).cl 22 [x0] G1) fun x2 G3 =>
  bP (pExtract x2 0) fun x4 =>
  bP (pExtract x2 1) fun x5 =>
  bP (gBinF Q .eql 32 (.tmp 8) (.const (.int .i64 0)) x5 (.int .i64 0)) fun x6 =>
  bS (gd x6 true (some (x4, G3)) G3) fun x7 G8 =>
  bS (gd x6 true (bP (gBinF Q .neq 31 (.tmp 11) (.const (.pointer none)) x7 (.pointer none)) fun y => some (y, G8)) G8) fun x9 G10 =>
  bP (pickV x6 x9 (.bool false)) fun x11 =>
  bS (gd x11 true (some (x4, G10)) G10) fun x12 G13 =>
  bS (gd x11 true (bS ((E orc).cl 30 [x12] G13) fun y G => some (y, G)) G13) fun x14 G15 =>
  bS (gd x11 true (bP (gBinF Q .eql 3 (.tmp 16) (.const (.int .i64 3)) x14 (.int .i64 3)) fun y => some (y, G15)) G15) fun x16 G17 =>
  bP (pickV x11 x16 (.bool false)) fun x18 =>
  bS (gd x18 true (some (x4, G17)) G17) fun x19 G20 =>
  bS (gd x18 true (bS ((E orc).cl 24 [x19] G20) fun y G => some (y, G)) G20) fun x21 G22 =>
  bS (gd x18 true (bP (gBinF Q .eql 3 (.tmp 21) (.const (.int .i64 3)) x21 (.int .i64 3)) fun y => some (y, G22)) G22) fun x23 G24 =>
  bP (pickV x18 x23 (.bool false)) fun x25 =>
  bS (gd x25 true (some (x4, G24)) G24) fun x26 G27 =>
  bS (gd x25 true (bS ((E orc).cl 26 [x26, (.int .i64 4)] G27) fun y G => some (y, G)) G27) fun x28 G29 =>
  bS (gd x25 true (bP (gBinF Q .eql 3 (.tmp 26) (.const (.int .i64 1)) x28 (.int .i64 1)) fun y => some (y, G29)) G29) fun x30 G31 =>
  bP (pickV x25 x30 (.bool false)) fun x32 =>
  bS (gd x32 true (some (x4, G31)) G31) fun x33 G34 =>
  bS (gd x32 true (bS ((E orc).cl 30 [x33] G34) fun y G => some (y, G)) G34) fun x35 G36 =>
  bS (gd x32 true (bP (gBinF Q .eql 3 (.tmp 31) (.const (.int .i64 1)) x35 (.int .i64 1)) fun y => some (y, G36)) G36) fun x37 G38 =>
  bP (pickV x32 x37 (.bool false)) fun x39 =>
  bS (gd x39 true (some (x4, G38)) G38) fun x40 G41 =>
  bS (gd x39 true (bS ((E orc).cl 24 [x40] G41) fun y G => some (y, G)) G41) fun x42 G43 =>
  bS (gd x39 true (bP (gBinF Q .eql 3 (.tmp 36) (.const (.int .i64 1)) x42 (.int .i64 1)) fun y => some (y, G43)) G43) fun x44 G45 =>
  bP (pickV x39 x44 (.bool false)) fun x46 =>
  bS (gd x46 true (some (x4, G45)) G45) fun x47 G48 =>
  bS (gd x46 true (bS ((E orc).cl 24 [x47] G48) fun y G => some (y, G)) G48) fun x49 G50 =>
  bS (gd x46 true (bP (gBinF Q .eql 3 (.tmp 41) (.const (.int .i64 0)) x49 (.int .i64 0)) fun y => some (y, G50)) G50) fun x51 G52 =>
  bP (pickV x46 x51 (.bool false)) fun x53 =>
  bS (gd x53 true (bS ((E orc).cl 20 [(.int .i64 3), (.int .i64 4)] G52) fun y G => some (y, G)) G52) fun x54 G55 =>
  bS (gd x53 true (bP (gBinF Q .eql 3 (.tmp 45) (.const (.int .i64 3)) x54 (.int .i64 3)) fun y => some (y, G55)) G55) fun x56 G57 =>
  bP (pickV x53 x56 (.bool false)) fun x58 =>
  some (x58, G57)
theorem c14 (orc : FuncId → Bool) (ho : orc 14 = false) (G : GS) : (E orc).cl 14 [] G = s14 orc  G :=
  cl_sxE Q orc (vs := []) G Try.func14 (by kernel_rfl) (by kernel_rfl) ho (by kernel_rfl) (by kernel_rfl) (by kernel_rfl)
/-- coxswain/coxswainkit.CopyInts -/
noncomputable def s15 (orc : FuncId → Bool) (v0 : Value) (G : GS) : Option (Value × GS) :=
  bS (mBuildV Q 22 0 [] G) fun x0 G1 =>
  bS (gAppend Q 22 22 x0 v0 G1) fun x2 G3 =>
  some (x2, G3)
theorem c15 (orc : FuncId → Bool) (v0 : Value) (G : GS) : (E orc).cl 15 [v0] G = s15 orc v0 G :=
  cl_sxE Q orc (vs := [v0]) G Try.func15 (by kernel_rfl) (by kernel_rfl) (by kernel_rfl) (by kernel_rfl) (by kernel_rfl) (by kernel_rfl)
/-- coxswain/draw.Heights -/
noncomputable def s16 (orc : FuncId → Bool) (v0 v1 : Value) (G : GS) : Option (Value × GS) :=
  bP (gLen Q 22 v0) fun x0 =>
  bX ((E orc).lp (subAt [1, 1, 0, 1, 0, 0] (bodyOf Try.f16)) [v0, v1, undef, undef, (.slice none 0 0), (.slice none 0 0), undef, undef, v0, x0, (.int .i64 0), undef, undef, undef, undef, undef, undef, undef, undef, undef, undef, undef] G) fun e1 T2 G3 =>
  ifE e1 (.exit 0) (
  some ((nth undef T2 5), G3)) (none)
theorem c16 (orc : FuncId → Bool) (v0 v1 : Value) (G : GS) {r : Value × GS} (h : s16 orc v0 v1 G = some r) : (E orc).cl 16 [v0, v1] G = some r :=
  cl_sxE_some Q orc (vs := [v0, v1]) G Try.func16 (by kernel_rfl) (by kernel_rfl) (by kernel_rfl) (by kernel_rfl) (by kernel_rfl) h
noncomputable def b16_0 (orc : FuncId → Bool) (T : List Value) (G : GS) : Option (Exit × List Value × GS) :=
  bP (gBinF Q .lss 3 (.tmp 10) (.tmp 9) (nth undef T 10) (nth undef T 9)) fun x0 =>
  ifV x0 (
  bP (gIndexAddr Q 22 (nth undef T 8) (nth undef T 10)) fun x1 =>
  bP (gLoadF Q 3 x1 G) fun x2 =>
  bS ((E orc).cl 20 [x2, (nth undef T 1)] G) fun x3 G4 =>
  bS (mBuildV Q 22 1 [(0, x3)] G4) fun x5 G6 =>
  bS (gAppend Q 22 22 (nth undef T 5) x5 G6) fun x7 G8 =>
  bP (gBinF Q .add 3 (.tmp 10) (.const (.int .i64 1)) (nth undef T 10) (.int .i64 1)) fun x9 =>
  (E orc).lp (subAt [1, 1, 0, 1, 0, 0] (bodyOf Try.f16)) [(nth undef T 0), (nth undef T 1), (nth undef T 2), (nth undef T 3), (nth undef T 4), x7, (nth undef T 6), x2, (nth undef T 8), (nth undef T 9), x9, x0, x1, x2, (nth undef T 5), x2, (nth undef T 1), x3, x5, x7, x9, (nth undef T 21)] G8) (
  some ((.exit 0), [(nth undef T 0), (nth undef T 1), (nth undef T 2), (nth undef T 3), (nth undef T 4), (nth undef T 5), (nth undef T 6), (nth undef T 7), (nth undef T 8), (nth undef T 9), (nth undef T 10), x0, (nth undef T 12), (nth undef T 13), (nth undef T 14), (nth undef T 15), (nth undef T 16), (nth undef T 17), (nth undef T 18), (nth undef T 19), (nth undef T 20), (nth undef T 21)], G))
theorem l16_0 (orc : FuncId → Bool) (T : List Value) (G : GS) (hT : T.length = 22) {r : Exit × List Value × GS} (h : b16_0 orc T G = some r) : (E orc).lp (subAt [1, 1, 0, 1, 0, 0] (bodyOf Try.f16)) T G = some r :=
  lp_sxE Q orc G hT (by kernel_rfl) h
/-- coxswain/coxswainkit.SameInts -/
noncomputable def s17 (orc : FuncId → Bool) (v0 v1 : Value) (G : GS) : Option (Value × GS) :=
  bP (gLen Q 22 v0) fun x0 =>
  bP (gLen Q 22 v1) fun x1 =>
  bP (gBinF Q .eql 3 (.tmp 8) (.tmp 10) x0 x1) fun x2 =>
  bX ((E orc).lp (subAt [1, 1, 0, 1, 0, 0] (bodyOf Try.f17)) [v0, v1, undef, undef, (.bool false), x2, (.int .i64 0), v0, x0, v1, x1, x2, undef, undef, undef, undef, undef, undef, undef, undef, undef, undef, undef, undef, undef, undef, undef, undef, undef, undef, undef] G) fun e3 T4 G5 =>
  ifE e3 (.exit 0) (
  some ((nth undef T4 5), G5)) (none)
theorem c17 (orc : FuncId → Bool) (v0 v1 : Value) (G : GS) {r : Value × GS} (h : s17 orc v0 v1 G = some r) : (E orc).cl 17 [v0, v1] G = some r :=
  cl_sxE_some Q orc (vs := [v0, v1]) G Try.func17 (by kernel_rfl) (by kernel_rfl) (by kernel_rfl) (by kernel_rfl) (by kernel_rfl) h
noncomputable def b17_0 (orc : FuncId → Bool) (T : List Value) (G : GS) : Option (Exit × List Value × GS) :=
  bS (gd (nth undef T 5) true (some ((nth undef T 6), G)) G) fun x0 G1 =>
  bS (gd (nth undef T 5) true (some ((nth undef T 0), G1)) G1) fun x2 G3 =>
  bS (gd (nth undef T 5) true (bP (gLen Q 22 x2) fun y => some (y, G3)) G3) fun x4 G5 =>
  bS (gd (nth undef T 5) true (bP (gBinF Q .lss 3 (.tmp 14) (.tmp 16) x0 x4) fun y => some (y, G5)) G5) fun x6 G7 =>
  bP (pickV (nth undef T 5) x6 (.bool false)) fun x8 =>
  ifV x8 (
  bP (gIndexAddr Q 22 (nth undef T 0) (nth undef T 6)) fun x9 =>
  bP (gLoadF Q 3 x9 (G7.room 10)) fun x10 =>
  bP (gIndexAddr Q 22 (nth undef T 1) (nth undef T 6)) fun x11 =>
  bP (gLoadF Q 3 x11 (G7.room 10)) fun x12 =>
  bP (gBinF Q .eql 3 (.tmp 24) (.tmp 28) x10 x12) fun x13 =>
  bP (gBinF Q .add 3 (.tmp 19) (.const (.int .i64 1)) (nth undef T 6) (.int .i64 1)) fun x14 =>
  (E orc).lp (subAt [1, 1, 0, 1, 0, 0] (bodyOf Try.f17)) [(nth undef T 0), (nth undef T 1), (nth undef T 2), (nth undef T 3), (nth undef T 4), x13, x14, (nth undef T 7), (nth undef T 8), (nth undef T 9), (nth undef T 10), (nth undef T 11), (nth undef T 5), (nth undef T 5), x0, x2, x4, x6, x8, (nth undef T 6), x14, (nth undef T 0), (nth undef T 6), x9, x10, (nth undef T 1), (nth undef T 6), x11, x12, x13, (nth undef T 30)] (G7.room 10)) (
  some ((.exit 0), [(nth undef T 0), (nth undef T 1), (nth undef T 2), (nth undef T 3), (nth undef T 4), (nth undef T 5), (nth undef T 6), (nth undef T 7), (nth undef T 8), (nth undef T 9), (nth undef T 10), (nth undef T 11), (nth undef T 5), (nth undef T 5), x0, x2, x4, x6, x8, (nth undef T 19), (nth undef T 20), (nth undef T 21), (nth undef T 22), (nth undef T 23), (nth undef T 24), (nth undef T 25), (nth undef T 26), (nth undef T 27), (nth undef T 28), (nth undef T 29), (nth undef T 30)], G7))
theorem l17_0 (orc : FuncId → Bool) (T : List Value) (G : GS) (hT : T.length = 31) {r : Exit × List Value × GS} (h : b17_0 orc T G = some r) : (E orc).lp (subAt [1, 1, 0, 1, 0, 0] (bodyOf Try.f17)) T G = some r :=
  lp_sxE Q orc G hT (by kernel_rfl) h
/-- coxswain/coxswainref03.Heights -/
noncomputable def s18 (orc : FuncId → Bool) (v0 v1 : Value) (G : GS) : Option (Value × GS) :=
  bX ((E orc).lp (subAt [1, 1, 0, 1, 0, 0] (bodyOf Try.f18)) [v0, v1, undef, undef, (.slice none 0 0), (.slice none 0 0), (.int .i64 0), undef, undef, undef, undef, undef, undef, undef, undef, undef, undef, undef, undef, undef, undef, undef, undef] G) fun e0 T1 G2 =>
  ifE e0 (.exit 0) (
  some ((nth undef T1 5), G2)) (none)
theorem c18 (orc : FuncId → Bool) (v0 v1 : Value) (G : GS) {r : Value × GS} (h : s18 orc v0 v1 G = some r) : (E orc).cl 18 [v0, v1] G = some r :=
  cl_sxE_some Q orc (vs := [v0, v1]) G Try.func18 (by kernel_rfl) (by kernel_rfl) (by kernel_rfl) (by kernel_rfl) (by kernel_rfl) h
noncomputable def b18_0 (orc : FuncId → Bool) (T : List Value) (G : GS) : Option (Exit × List Value × GS) :=
  bP (gLen Q 22 (nth undef T 0)) fun x0 =>
  bP (gBinF Q .lss 3 (.tmp 7) (.tmp 9) (nth undef T 6) x0) fun x1 =>
  ifV x1 (
  bP (gIndexAddr Q 22 (nth undef T 0) (nth undef T 6)) fun x2 =>
  bP (gLoadF Q 3 x2 G) fun x3 =>
  bS ((E orc).cl 21 [x3, (nth undef T 1)] G) fun x4 G5 =>
  bS (mBuildV Q 22 1 [(0, x4)] G5) fun x6 G7 =>
  bS (gAppend Q 22 22 (nth undef T 5) x6 G7) fun x8 G9 =>
  bP (gBinF Q .add 3 (.tmp 11) (.const (.int .i64 1)) (nth undef T 6) (.int .i64 1)) fun x10 =>
  (E orc).lp (subAt [1, 1, 0, 1, 0, 0] (bodyOf Try.f18)) [(nth undef T 0), (nth undef T 1), (nth undef T 2), (nth undef T 3), (nth undef T 4), x8, x10, (nth undef T 6), (nth undef T 0), x0, x1, (nth undef T 6), x10, (nth undef T 5), (nth undef T 0), (nth undef T 6), x2, x3, (nth undef T 1), x4, x6, x8, (nth undef T 22)] G9) (
  some ((.exit 0), [(nth undef T 0), (nth undef T 1), (nth undef T 2), (nth undef T 3), (nth undef T 4), (nth undef T 5), (nth undef T 6), (nth undef T 6), (nth undef T 0), x0, x1, (nth undef T 11), (nth undef T 12), (nth undef T 13), (nth undef T 14), (nth undef T 15), (nth undef T 16), (nth undef T 17), (nth undef T 18), (nth undef T 19), (nth undef T 20), (nth undef T 21), (nth undef T 22)], G))
theorem l18_0 (orc : FuncId → Bool) (T : List Value) (G : GS) (hT : T.length = 23) {r : Exit × List Value × GS} (h : b18_0 orc T G = some r) : (E orc).lp (subAt [1, 1, 0, 1, 0, 0] (bodyOf Try.f18)) T G = some r :=
  lp_sxE Q orc G hT (by kernel_rfl) h
/-- coxswain/coxswainkit.OverInts -/
noncomputable def s19 (orc : FuncId → Bool) (v0 : Value) (G : GS) : Option (Value × GS) :=
  bX ((E orc).lp (subAt [1, 0, 0] (bodyOf Try.f19)) [v0, undef, (.int .i64 0), undef, undef, undef, undef, undef, undef, undef, undef, undef] G) fun e0 T1 G2 =>
  ifE e0 (.exit 0) (
  some (.tuple #[], G2)) (none)
theorem c19 (orc : FuncId → Bool) (v0 : Value) (G : GS) {r : Value × GS} (h : s19 orc v0 G = some r) : (E orc).cl 19 [v0] G = some r :=
  cl_sxE_some Q orc (vs := [v0]) G Try.func19 (by kernel_rfl) (by kernel_rfl) (by kernel_rfl) (by kernel_rfl) (by kernel_rfl) h
noncomputable def b19_0 (orc : FuncId → Bool) (T : List Value) (G : GS) : Option (Exit × List Value × GS) :=
  bP (gLen Q 22 (nth undef T 0)) fun x0 =>
  bP (gBinF Q .lss 3 (.tmp 3) (.tmp 5) (nth undef T 2) x0) fun x1 =>
  ifV x1 (
  bP (gIndexAddr Q 22 (nth undef T 0) (nth undef T 2)) fun x2 =>
  bP (gStore Q 3 x2 (.int .i64 (-77)) G) fun G3 =>
  bP (gBinF Q .add 3 (.tmp 7) (.const (.int .i64 1)) (nth undef T 2) (.int .i64 1)) fun x4 =>
  (E orc).lp (subAt [1, 0, 0] (bodyOf Try.f19)) [(nth undef T 0), (nth undef T 1), x4, (nth undef T 2), (nth undef T 0), x0, x1, (nth undef T 2), x4, (nth undef T 0), (nth undef T 2), x2] G3) (
  some ((.exit 0), [(nth undef T 0), (nth undef T 1), (nth undef T 2), (nth undef T 2), (nth undef T 0), x0, x1, (nth undef T 7), (nth undef T 8), (nth undef T 9), (nth undef T 10), (nth undef T 11)], G))
theorem l19_0 (orc : FuncId → Bool) (T : List Value) (G : GS) (hT : T.length = 12) {r : Exit × List Value × GS} (h : b19_0 orc T G = some r) : (E orc).lp (subAt [1, 0, 0] (bodyOf Try.f19)) T G = some r :=
  lp_sxE Q orc G hT (by kernel_rfl) h
/-- coxswain/draw.Height -/
noncomputable def s20 (orc : FuncId → Bool) (v0 v1 : Value) (G : GS) : Option (Value × GS) :=
  bX ((E orc).lp (subAt [1, 1, 0, 1, 0, 0] (bodyOf Try.f20)) [v0, v1, undef, undef, (.int .i64 0), (.int .i64 1), undef, (.int .i64 0), undef, undef, undef, undef, undef, undef, undef, undef, undef, undef, undef, undef, undef, undef, undef, undef, undef] G) fun e0 T1 G2 =>
  ifE e0 (.exit 0) (
  some ((nth undef T1 5), G2)) (none)
theorem c20 (orc : FuncId → Bool) (v0 v1 : Value) (G : GS) {r : Value × GS} (h : s20 orc v0 v1 G = some r) : (E orc).cl 20 [v0, v1] G = some r :=
  cl_sxE_some Q orc (vs := [v0, v1]) G Try.func20 (by kernel_rfl) (by kernel_rfl) (by kernel_rfl) (by kernel_rfl) (by kernel_rfl) h
noncomputable def b20_0 (orc : FuncId → Bool) (T : List Value) (G : GS) : Option (Exit × List Value × GS) :=
  bP (gBinF Q .lss 3 (.tmp 7) (.const (.int .i64 64)) (nth undef T 7) (.int .i64 64)) fun x0 =>
  ifV x0 (
  bP (gBinF Q .geq 3 (.tmp 10) (.tmp 11) (nth undef T 5) (nth undef T 1)) fun x1 =>
  bS (gd x1 false (some ((nth undef T 0), G)) G) fun x2 G3 =>
  bS (gd x1 false (bP (pConv Q 3 51 x2) fun y => some (y, G3)) G3) fun x4 G5 =>
  bS (gd x1 false (some ((nth undef T 7), G5)) G5) fun x6 G7 =>
  bS (gd x1 false (bP (gBinF Q .shr 51 (.tmp 15) (.tmp 16) x4 x6) fun y => some (y, G7)) G7) fun x8 G9 =>
  bS (gd x1 false (bP (gBinF Q .and 51 (.tmp 17) (.const (.int .u64 1)) x8 (.int .u64 1)) fun y => some (y, G9)) G9) fun x10 G11 =>
  bS (gd x1 false (bP (gBinF Q .eql 51 (.tmp 18) (.const (.int .u64 0)) x10 (.int .u64 0)) fun y => some (y, G11)) G11) fun x12 G13 =>
  bP (pickV x1 (.bool true) x12) fun x14 =>
  ifV x14 (
  some ((.exit 0), [(nth undef T 0), (nth undef T 1), (nth undef T 2), (nth undef T 3), (nth undef T 4), (nth undef T 5), (nth undef T 7), (nth undef T 7), x0, (nth undef T 7), (nth undef T 5), (nth undef T 1), x1, x1, x2, x4, x6, x8, x10, x12, x14, (nth undef T 21), (nth undef T 22), (nth undef T 23), (nth undef T 24)], G13)) (
  bP (gBinF Q .add 3 (.tmp 21) (.const (.int .i64 1)) (nth undef T 5) (.int .i64 1)) fun x15 =>
  bP (gBinF Q .add 3 (.tmp 7) (.const (.int .i64 1)) (nth undef T 7) (.int .i64 1)) fun x16 =>
  (E orc).lp (subAt [1, 1, 0, 1, 0, 0] (bodyOf Try.f20)) [(nth undef T 0), (nth undef T 1), (nth undef T 2), (nth undef T 3), (nth undef T 4), x15, (nth undef T 7), x16, x0, (nth undef T 7), (nth undef T 5), (nth undef T 1), x1, x1, x2, x4, x6, x8, x10, x12, x14, (nth undef T 5), x15, x16, (nth undef T 24)] G13)) (
  some ((.exit 0), [(nth undef T 0), (nth undef T 1), (nth undef T 2), (nth undef T 3), (nth undef T 4), (nth undef T 5), (nth undef T 6), (nth undef T 7), x0, (nth undef T 9), (nth undef T 10), (nth undef T 11), (nth undef T 12), (nth undef T 13), (nth undef T 14), (nth undef T 15), (nth undef T 16), (nth undef T 17), (nth undef T 18), (nth undef T 19), (nth undef T 20), (nth undef T 21), (nth undef T 22), (nth undef T 23), (nth undef T 24)], G))
theorem l20_0 (orc : FuncId → Bool) (T : List Value) (G : GS) (hT : T.length = 25) {r : Exit × List Value × GS} (h : b20_0 orc T G = some r) : (E orc).lp (subAt [1, 1, 0, 1, 0, 0] (bodyOf Try.f20)) T G = some r :=
  lp_sxE Q orc G hT (by kernel_rfl) h
/-- coxswain/coxswainref03.Height -/
noncomputable def s21 (orc : FuncId → Bool) (v0 v1 : Value) (G : GS) : Option (Value × GS) :=
  bP (pConv Q 3 51 v0) fun x0 =>
  bX ((E orc).lp (subAt [1, 1, 1, 0, 0, 0] (bodyOf Try.f21)) [v0, v1, undef, undef, (.int .i64 0), (.int .i64 1), x0, v0, x0, undef, undef, undef, undef, undef, undef, undef, undef, undef, undef, undef, undef, undef] G) fun e1 T2 G3 =>
  ifE e1 (.exit 0) (
  some ((nth undef T2 5), G3)) (none)
theorem c21 (orc : FuncId → Bool) (v0 v1 : Value) (G : GS) {r : Value × GS} (h : s21 orc v0 v1 G = some r) : (E orc).cl 21 [v0, v1] G = some r :=
  cl_sxE_some Q orc (vs := [v0, v1]) G Try.func21 (by kernel_rfl) (by kernel_rfl) (by kernel_rfl) (by kernel_rfl) (by kernel_rfl) h
noncomputable def b21_0 (orc : FuncId → Bool) (T : List Value) (G : GS) : Option (Exit × List Value × GS) :=
  bP (gBinF Q .lss 3 (.tmp 9) (.tmp 10) (nth undef T 5) (nth undef T 1)) fun x0 =>
  bS (gd x0 true (some ((nth undef T 6), G)) G) fun x1 G2 =>
  bS (gd x0 true (bP (gBinF Q .rem 51 (.tmp 13) (.const (.int .u64 2)) x1 (.int .u64 2)) fun y => some (y, G2)) G2) fun x3 G4 =>
  bS (gd x0 true (bP (gBinF Q .eql 51 (.tmp 14) (.const (.int .u64 1)) x3 (.int .u64 1)) fun y => some (y, G4)) G4) fun x5 G6 =>
  bP (pickV x0 x5 (.bool false)) fun x7 =>
  ifV x7 (
  bP (gBinF Q .add 3 (.tmp 17) (.const (.int .i64 1)) (nth undef T 5) (.int .i64 1)) fun x8 =>
  bP (gBinF Q .quo 51 (.tmp 19) (.const (.int .u64 2)) (nth undef T 6) (.int .u64 2)) fun x9 =>
  (E orc).lp (subAt [1, 1, 1, 0, 0, 0] (bodyOf Try.f21)) [(nth undef T 0), (nth undef T 1), (nth undef T 2), (nth undef T 3), (nth undef T 4), x8, x9, (nth undef T 7), (nth undef T 8), (nth undef T 5), (nth undef T 1), x0, x0, x1, x3, x5, x7, (nth undef T 5), x8, (nth undef T 6), x9, (nth undef T 21)] G6) (
  some ((.exit 0), [(nth undef T 0), (nth undef T 1), (nth undef T 2), (nth undef T 3), (nth undef T 4), (nth undef T 5), (nth undef T 6), (nth undef T 7), (nth undef T 8), (nth undef T 5), (nth undef T 1), x0, x0, x1, x3, x5, x7, (nth undef T 17), (nth undef T 18), (nth undef T 19), (nth undef T 20), (nth undef T 21)], G6))
theorem l21_0 (orc : FuncId → Bool) (T : List Value) (G : GS) (hT : T.length = 22) {r : Exit × List Value × GS} (h : b21_0 orc T G = some r) : (E orc).lp (subAt [1, 1, 1, 0, 0, 0] (bodyOf Try.f21)) T G = some r :=
  lp_sxE Q orc G hT (by kernel_rfl) h
/-- coxswain/draw.New -/
noncomputable def s22 (orc : FuncId → Bool) (v0 : Value) (G : GS) : Option (Value × GS) :=
  bP (gLen Q 22 v0) fun x0 =>
  bP (gBinF Q .gtr 3 (.tmp 5) (.const (.int .i64 4096)) x0 (.int .i64 4096)) fun x1 =>
  ifV x1 (
  some (.tuple #[(.pointer none), (.int .i64 4)], G)) (
  bS ((E orc).cl 52 [v0] G) fun x2 G3 =>
  bP (gBuild Q 79 [(0, x2)]) fun x4 =>
  bS (mBox x4 G3) fun x5 G6 =>
  bP (gBuild Q 46 [(0, x5)]) fun x7 =>
  bS (mBox x7 G6) fun x8 G9 =>
  some (.tuple #[x8, (.int .i64 0)], G9))
theorem c22 (orc : FuncId → Bool) (v0 : Value) (G : GS) : (E orc).cl 22 [v0] G = s22 orc v0 G :=
  cl_sxE Q orc (vs := [v0]) G Try.func22 (by kernel_rfl) (by kernel_rfl) (by kernel_rfl) (by kernel_rfl) (by kernel_rfl) (by kernel_rfl)
/-- coxswain/coxswainref03.New -/
noncomputable def s23 (orc : FuncId → Bool) (v0 : Value) (G : GS) : Option (Value × GS) :=
  bP (gLen Q 22 v0) fun x0 =>
  bP (gBinF Q .gtr 3 (.tmp 5) (.const (.int .i64 4096)) x0 (.int .i64 4096)) fun x1 =>
  ifV x1 (
  some (.tuple #[(.pointer none), (.int .i64 4)], G)) (
  bS (mBuildV Q 22 0 [] G) fun x2 G3 =>
  bS (gAppend Q 22 22 x2 v0 G3) fun x4 G5 =>
  bP (gBuild Q 81 [(0, x4)]) fun x6 =>
  bS (mBox x6 G5) fun x7 G8 =>
  some (.tuple #[x7, (.int .i64 0)], G8))
theorem c23 (orc : FuncId → Bool) (v0 : Value) (G : GS) : (E orc).cl 23 [v0] G = s23 orc v0 G :=
  cl_sxE Q orc (vs := [v0]) G Try.func23 (by kernel_rfl) (by kernel_rfl) (by kernel_rfl) (by kernel_rfl) (by kernel_rfl) (by kernel_rfl)
/-- (*coxswain/draw.Draws).Next -/
noncomputable def s24 (orc : FuncId → Bool) (v0 : Value) (G : GS) : Option (Value × GS) :=
  bS (mAlloc Q 3 G) fun x0 G1 =>
  bP (gStore Q 3 x0 (.int .i64 0) G1) fun G2 =>
  bS ((E orc).cl 53 [v0] G2) fun x3 G4 =>
  ifV x3 (
  bP (gLoadF Q 3 x0 G4) fun x5 =>
  some (x5, G4)) (
  bS ((E orc).cl 54 [v0] G4) fun x6 G7 =>
  bX (xRange (E orc) x6 #[10] (subAt [1, 0, 1, 1, 1, 0, 1, 0, 0] (bodyOf Try.f24)) (subAt [1, 0, 1, 1, 1, 0, 1, 0, 1] (bodyOf Try.f24)) [v0, undef, (.int .i64 0), x0, undef, v0, x3, undef, v0, x6, undef, undef, undef] G7) fun e8 T9 G10 =>
  ifE e8 .normal (
  bP (gLoadF Q 3 (nth undef T9 3) G10) fun x11 =>
  some (x11, G10)) (ifE e8 (.exit 0) (
  bP (gLoadF Q 3 (nth undef T9 3) G10) fun x12 =>
  some (x12, G10)) (none)))
theorem c24 (orc : FuncId → Bool) (v0 : Value) (G : GS) {r : Value × GS} (h : s24 orc v0 G = some r) : (E orc).cl 24 [v0] G = some r :=
  cl_sxE_some Q orc (vs := [v0]) G Try.func24 (by kernel_rfl) (by kernel_rfl) (by kernel_rfl) (by kernel_rfl) (by kernel_rfl) h
noncomputable def r24_0 (orc : FuncId → Bool) (l : Nat) (T : List Value) (u0 : Value) (G : GS) : Option (Value × GS) :=
  bP (G.loop l) fun r0 => if r0.st = .ready then
  bP (gStore Q 3 (nth undef T 3) u0 (G.putLoop l (Lp.setSt r0 .busy))) fun G1 =>
  roundEnd l (.exit 0) G1
  else none
theorem d24_0 (orc : FuncId → Bool) (l : Nat) (T : List Value) (u0 : Value) (G : GS) {st : LoopState} {pend : Option Code} (hl : G.loop l = some ⟨st, pend, T, [10], (subAt [1, 0, 1, 1, 1, 0, 1, 0, 0] (bodyOf Try.f24)), (subAt [1, 0, 1, 1, 1, 0, 1, 0, 1] (bodyOf Try.f24))⟩) (hT : T.length = 13) {r : Value × GS} (h : r24_0 orc l T u0 G = some r) : (E orc).rd l [u0] G = some r :=
  rd_sxE Q orc hl (by kernel_rfl) hT (by kernel_rfl) h
/-- (*coxswain/coxswainref03.Draws).Next -/
noncomputable def s25 (orc : FuncId → Bool) (v0 : Value) (G : GS) : Option (Value × GS) :=
  bS ((E orc).cl 31 [v0] G) fun x0 G1 =>
  bP (gBinF Q .eql 3 (.tmp 4) (.const (.int .i64 0)) x0 (.int .i64 0)) fun x2 =>
  ifV x2 (
  some ((.int .i64 0), G1)) (
  bP (pNil v0) fun x3 =>
  bP (gFieldAddr Q 81 x3 1) fun x4 =>
  bP (gLoadF Q 3 x4 G1) fun x5 =>
  bP (gBinF Q .add 3 (.tmp 9) (.const (.int .i64 1)) x5 (.int .i64 1)) fun x6 =>
  bP (pNil v0) fun x7 =>
  bP (gFieldAddr Q 81 x7 1) fun x8 =>
  bP (gStore Q 3 x8 x6 G1) fun G9 =>
  bP (pNil v0) fun x10 =>
  bP (gFieldAddr Q 81 x10 0) fun x11 =>
  bP (gLoadF Q 22 x11 (G9.room 12)) fun x12 =>
  bP (pNil v0) fun x13 =>
  bP (gFieldAddr Q 81 x13 1) fun x14 =>
  bP (gLoadF Q 3 x14 (G9.room 12)) fun x15 =>
  bP (gBinF Q .sub 3 (.tmp 20) (.const (.int .i64 1)) x15 (.int .i64 1)) fun x16 =>
  bP (gIndexAddr Q 22 x12 x16) fun x17 =>
  bP (gLoadF Q 3 x17 (G9.room 12)) fun x18 =>
  some (x18, (G9.room 12)))
theorem c25 (orc : FuncId → Bool) (v0 : Value) (G : GS) : (E orc).cl 25 [v0] G = s25 orc v0 G :=
  cl_sxE Q orc (vs := [v0]) G Try.func25 (by kernel_rfl) (by kernel_rfl) (by kernel_rfl) (by kernel_rfl) (by kernel_rfl) (by kernel_rfl)
/-- (*coxswain/draw.Draws).Height -/
noncomputable def s26 (orc : FuncId → Bool) (v0 v1 : Value) (G : GS) : Option (Value × GS) :=
  bS ((E orc).cl 53 [v0] G) fun x0 G1 =>
  ifV x0 (
  some ((.int .i64 1), G1)) (
  bS ((E orc).cl 24 [v0] G1) fun x2 G3 =>
  bS ((E orc).cl 20 [x2, v1] G3) fun x4 G5 =>
  some (x4, G5))
theorem c26 (orc : FuncId → Bool) (v0 v1 : Value) (G : GS) : (E orc).cl 26 [v0, v1] G = s26 orc v0 v1 G :=
  cl_sxE Q orc (vs := [v0, v1]) G Try.func26 (by kernel_rfl) (by kernel_rfl) (by kernel_rfl) (by kernel_rfl) (by kernel_rfl) (by kernel_rfl)
/-- (*coxswain/draw.Draws).Skip -/
noncomputable def s27 (orc : FuncId → Bool) (v0 v1 : Value) (G : GS) : Option (Value × GS) :=
  bS (mBox v1 G) fun x0 G1 =>
  bS ((E orc).cl 53 [v0] G1) fun x2 G3 =>
  bS (gd x2 false (bP (gLoadF Q 3 x0 G3) fun y => some (y, G3)) G3) fun x4 G5 =>
  bS (gd x2 false (bP (gBinF Q .leq 3 (.tmp 9) (.const (.int .i64 0)) x4 (.int .i64 0)) fun y => some (y, G5)) G5) fun x6 G7 =>
  bP (pickV x2 (.bool true) x6) fun x8 =>
  ifV x8 (
  some ((.int .i64 0), G7)) (
  bS (mAlloc Q 3 G7) fun x9 G10 =>
  bP (gStore Q 3 x9 (.int .i64 0) G10) fun G11 =>
  bS ((E orc).cl 54 [v0] G11) fun x12 G13 =>
  bX (xRange (E orc) x12 #[14] (subAt [1, 0, 1, 1, 1, 0, 1, 0, 0] (bodyOf Try.f27)) (subAt [1, 0, 1, 1, 1, 0, 1, 0, 1] (bodyOf Try.f27)) [v0, v1, undef, x0, (.int .i64 0), x9, v0, x2, x2, x4, x6, x8, v0, x12, undef, undef, undef, undef, undef, undef, undef] G13) fun e14 T15 G16 =>
  ifE e14 .normal (
  bP (gLoadF Q 3 (nth undef T15 5) G16) fun x17 =>
  some (x17, G16)) (ifE e14 (.exit 0) (
  bP (gLoadF Q 3 (nth undef T15 5) G16) fun x18 =>
  some (x18, G16)) (none)))
theorem c27 (orc : FuncId → Bool) (v0 v1 : Value) (G : GS) {r : Value × GS} (h : s27 orc v0 v1 G = some r) : (E orc).cl 27 [v0, v1] G = some r :=
  cl_sxE_some Q orc (vs := [v0, v1]) G Try.func27 (by kernel_rfl) (by kernel_rfl) (by kernel_rfl) (by kernel_rfl) (by kernel_rfl) h
noncomputable def r27_0 (orc : FuncId → Bool) (l : Nat) (T : List Value) (u0 : Value) (G : GS) : Option (Value × GS) :=
  bP (G.loop l) fun r0 => if r0.st = .ready then
  bP (gLoadF Q 3 (nth undef T 5) (G.putLoop l (Lp.setSt r0 .busy))) fun x1 =>
  bP (gBinF Q .add 3 (.tmp 15) (.const (.int .i64 1)) x1 (.int .i64 1)) fun x2 =>
  bP (gStore Q 3 (nth undef T 5) x2 (G.putLoop l (Lp.setSt r0 .busy))) fun G3 =>
  bP (gLoadF Q 3 (nth undef T 5) G3) fun x4 =>
  bP (gLoadF Q 3 (nth undef T 3) G3) fun x5 =>
  bP (gBinF Q .eql 3 (.tmp 17) (.tmp 18) x4 x5) fun x6 =>
  ifV x6 (
  roundEnd l (.exit 0) G3) (
  roundEnd l .normal G3)
  else none
theorem d27_0 (orc : FuncId → Bool) (l : Nat) (T : List Value) (u0 : Value) (G : GS) {st : LoopState} {pend : Option Code} (hl : G.loop l = some ⟨st, pend, T, [14], (subAt [1, 0, 1, 1, 1, 0, 1, 0, 0] (bodyOf Try.f27)), (subAt [1, 0, 1, 1, 1, 0, 1, 0, 1] (bodyOf Try.f27))⟩) (hT : T.length = 21) {r : Value × GS} (h : r27_0 orc l T u0 G = some r) : (E orc).rd l [u0] G = some r :=
  rd_sxE Q orc hl (by kernel_rfl) hT (by kernel_rfl) h
/-- (*coxswain/coxswainref03.Draws).Skip -/
noncomputable def s28 (orc : FuncId → Bool) (v0 v1 : Value) (G : GS) : Option (Value × GS) :=
  bS ((E orc).cl 31 [v0] G) fun x0 G1 =>
  bP (minV Q #[3, 3] [v1, x0]) fun x2 =>
  bP (maxV Q #[3, 3] [(.int .i64 0), x2]) fun x3 =>
  bP (pNil v0) fun x4 =>
  bP (gFieldAddr Q 81 x4 1) fun x5 =>
  bP (gLoadF Q 3 x5 G1) fun x6 =>
  bP (gBinF Q .add 3 (.tmp 14) (.tmp 15) x6 x3) fun x7 =>
  bP (pNil v0) fun x8 =>
  bP (gFieldAddr Q 81 x8 1) fun x9 =>
  bP (gStore Q 3 x9 x7 G1) fun G10 =>
  some (x3, G10)
theorem c28 (orc : FuncId → Bool) (v0 v1 : Value) (G : GS) : (E orc).cl 28 [v0, v1] G = s28 orc v0 v1 G :=
  cl_sxE Q orc (vs := [v0, v1]) G Try.func28 (by kernel_rfl) (by kernel_rfl) (by kernel_rfl) (by kernel_rfl) (by kernel_rfl) (by kernel_rfl)
/-- (*coxswain/draw.Draws).Copy -/
noncomputable def s29 (orc : FuncId → Bool) (v0 : Value) (G : GS) : Option (Value × GS) :=
  bS ((E orc).cl 53 [v0] G) fun x0 G1 =>
  ifV x0 (
  some ((.pointer none), G1)) (
  bP (pNil v0) fun x2 =>
  bP (gFieldAddr Q 46 x2 0) fun x3 =>
  bP (gLoadF Q 44 x3 G1) fun x4 =>
  bP (pNil x4) fun x5 =>
  bP (gLoadF Q 79 x5 G1) fun x6 =>
  bS (mAlloc Q 79 G1) fun x7 G8 =>
  bP (gStore Q 79 x7 x6 G8) fun G9 =>
  bP (gBuild Q 46 [(0, x7)]) fun x10 =>
  bS (mBox x10 G9) fun x11 G12 =>
  some (x11, G12))
theorem c29 (orc : FuncId → Bool) (v0 : Value) (G : GS) : (E orc).cl 29 [v0] G = s29 orc v0 G :=
  cl_sxE Q orc (vs := [v0]) G Try.func29 (by kernel_rfl) (by kernel_rfl) (by kernel_rfl) (by kernel_rfl) (by kernel_rfl) (by kernel_rfl)
/-- (*coxswain/draw.Draws).Left -/
noncomputable def s30 (orc : FuncId → Bool) (v0 : Value) (G : GS) : Option (Value × GS) :=
  bS ((E orc).cl 53 [v0] G) fun x0 G1 =>
  ifV x0 (
  some ((.int .i64 0), G1)) (
  bP (pNil v0) fun x2 =>
  bP (gFieldAddr Q 46 x2 0) fun x3 =>
  bP (gLoadF Q 44 x3 (G1.room 17)) fun x4 =>
  bP (pNil x4) fun x5 =>
  bP (gFieldAddr Q 79 x5 0) fun x6 =>
  bP (gLoadF Q 22 x6 (G1.room 17)) fun x7 =>
  bP (gLen Q 22 x7) fun x8 =>
  bP (pNil v0) fun x9 =>
  bP (gFieldAddr Q 46 x9 0) fun x10 =>
  bP (gLoadF Q 44 x10 (G1.room 17)) fun x11 =>
  bP (pNil x11) fun x12 =>
  bP (gFieldAddr Q 79 x12 1) fun x13 =>
  bP (gLoadF Q 3 x13 (G1.room 17)) fun x14 =>
  bP (gBinF Q .sub 3 (.tmp 12) (.tmp 19) x8 x14) fun x15 =>
  some (x15, (G1.room 17)))
theorem c30 (orc : FuncId → Bool) (v0 : Value) (G : GS) : (E orc).cl 30 [v0] G = s30 orc v0 G :=
  cl_sxE Q orc (vs := [v0]) G Try.func30 (by kernel_rfl) (by kernel_rfl) (by kernel_rfl) (by kernel_rfl) (by kernel_rfl) (by kernel_rfl)
/-- (*coxswain/coxswainref03.Draws).Left -/
noncomputable def s31 (orc : FuncId → Bool) (v0 : Value) (G : GS) : Option (Value × GS) :=
  bP (pNil v0) fun x0 =>
  bP (gFieldAddr Q 81 x0 0) fun x1 =>
  bP (gLoadF Q 22 x1 (G.room 11)) fun x2 =>
  bP (gLen Q 22 x2) fun x3 =>
  bP (pNil v0) fun x4 =>
  bP (gFieldAddr Q 81 x4 1) fun x5 =>
  bP (gLoadF Q 3 x5 (G.room 11)) fun x6 =>
  bP (gBinF Q .sub 3 (.tmp 7) (.tmp 11) x3 x6) fun x7 =>
  some (x7, (G.room 11))
theorem c31 (orc : FuncId → Bool) (v0 : Value) (G : GS) : (E orc).cl 31 [v0] G = s31 orc v0 G :=
  cl_sxE Q orc (vs := [v0]) G Try.func31 (by kernel_rfl) (by kernel_rfl) (by kernel_rfl) (by kernel_rfl) (by kernel_rfl) (by kernel_rfl)
/-- coxswain/coxswainkit.Pick -/
noncomputable def s32 (orc : FuncId → Bool) (v0 v1 : Value) (G : GS) : Option (Value × GS) :=
  bP (gBinF Q .leq 3 (.tmp 5) (.const (.int .i64 0)) v1 (.int .i64 0)) fun x0 =>
  ifV x0 (
  some ((.int .i64 0), G)) (
  bP (gBinF Q .rem 3 (.tmp 7) (.tmp 8) v0 v1) fun x1 =>
  bP (gBinF Q .lss 3 (.tmp 10) (.const (.int .i64 0)) x1 (.int .i64 0)) fun x2 =>
  ifV x2 (
  bP (gBinF Q .add 3 (.tmp 12) (.tmp 13) x1 v1) fun x3 =>
  some (x3, G)) (
  some (x1, G)))
theorem c32 (orc : FuncId → Bool) (v0 v1 : Value) (G : GS) : (E orc).cl 32 [v0, v1] G = s32 orc v0 v1 G :=
  cl_sxE Q orc (vs := [v0, v1]) G Try.func32 (by kernel_rfl) (by kernel_rfl) (by kernel_rfl) (by kernel_rfl) (by kernel_rfl) (by kernel_rfl)
/-- coxswain/coxswainlaw06.awake -/
noncomputable def s33 (orc : FuncId → Bool) (G : GS) : Option (Value × GS) :=
  bS (mBuildV Q 50 2 [(0, (.int .u64 5)), (1, (.int .u64 7))] G) fun x0 G1 =>
  bS ((E orc).cl 49 [(.int .i64 1), (.int .u64 9)] G1) fun x2 G3 =>
  bS ((E orc).cl 50 [x0, x2, (.int .i64 7), (.int .u64 0)] G3) fun x4 G5 =>
  bS (gd x4 true (bS (mBuildV Q 50 2 [(0, (.int .u64 5)), (1, (.int .u64 7))] G5) fun y G => some (y, G)) G5) fun x6 G7 =>
  bS (gd x4 true (bS ((E orc).cl 49 [(.int .i64 2), (.int .u64 0)] G7) fun y G => some (y, G)) G7) fun x8 G9 =>
  bS (gd x4 true (bS ((E orc).cl 50 [x6, x8, (.int .i64 0), (.int .u64 5)] G9) fun y G => some (y, G)) G9) fun x10 G11 =>
  bP (pickV x4 x10 (.bool false)) fun x12 =>
  bS (gd x12 true (bS (mBuildV Q 50 1 [(0, (.int .u64 5))] G11) fun y G => some (y, G)) G11) fun x13 G14 =>
  bS (gd x12 true (bS ((E orc).cl 49 [(.int .i64 1), (.int .u64 9)] G14) fun y G => some (y, G)) G14) fun x15 G16 =>
  bS (gd x12 true (bS (mBuildV Q 50 2 [(0, (.int .u64 5)), (1, (.int .u64 9))] G16) fun y G => some (y, G)) G16) fun x17 G18 =>
  bS (gd x12 true (bS ((E orc).cl 51 [x13, x15, (.int .i64 0), (.int .u64 0), (.bool true), x17] G18) fun y G => some (y, G)) G18) fun x19 G20 =>
  bP (pickV x12 x19 (.bool false)) fun x21 =>
  bS (gd x21 true (bS ((E orc).cl 40 [(.int .i64 1025), (.slice none 0 0)] G20) fun y G => some (y, G)) G20) fun x22 G23 =>
  bS (gd x21 true (bP (gBinF Q .eql 32 (.tmp 16) (.const (.int .i64 3)) x22 (.int .i64 3)) fun y => some (y, G23)) G23) fun x24 G25 =>
  bP (pickV x21 x24 (.bool false)) fun x26 =>
  some (x26, G25)
theorem c33 (orc : FuncId → Bool) (ho : orc 33 = false) (G : GS) : (E orc).cl 33 [] G = s33 orc  G :=
  cl_sxE Q orc (vs := []) G Try.func33 (by kernel_rfl) (by kernel_rfl) ho (by kernel_rfl) (by kernel_rfl) (by kernel_rfl)
/-- coxswain/coxswainkit.CopyWords -/
noncomputable def s34 (orc : FuncId → Bool) (v0 : Value) (G : GS) : Option (Value × GS) :=
  bS (mBuildV Q 50 0 [] G) fun x0 G1 =>
  bS (gAppend Q 50 50 x0 v0 G1) fun x2 G3 =>
  some (x2, G3)
theorem c34 (orc : FuncId → Bool) (v0 : Value) (G : GS) : (E orc).cl 34 [v0] G = s34 orc v0 G :=
  cl_sxE Q orc (vs := [v0]) G Try.func34 (by kernel_rfl) (by kernel_rfl) (by kernel_rfl) (by kernel_rfl) (by kernel_rfl) (by kernel_rfl)
/-- coxswain/fifo.Answer -/
noncomputable def s35 (orc : FuncId → Bool) (v0 v1 v2 : Value) (G : GS) : Option (Value × GS) :=
  bS (mBox v2 G) fun x0 G1 =>
  bS (mAlloc Q 55 G1) fun x2 G3 =>
  bS ((E orc).cl 40 [v0, v1] G3) fun x4 G5 =>
  bP (gBinF Q .neq 32 (.tmp 13) (.const (.int .i64 0)) x4 (.int .i64 0)) fun x6 =>
  ifV x6 (
  bP (gBuild Q 55 []) fun x7 =>
  bP (gStore Q 55 x2 x7 G5) fun G8 =>
  bP (gLoadF Q 55 x2 G8) fun x9 =>
  some (.tuple #[x9, (.bool false)], G8)) (
  bS ((E orc).cl 56 [v1] (G5.room 13)) fun x11 G10 =>
  bP (gLoadF Q 53 x0 G10) fun x12 =>
  chk ((sameO (gLoadF Q 53 x0 (G5.room 13)) x12 && true)) <|
  bS ((E orc).cl 55 [v0, x11, x12] G10) fun x14 G13 =>
  bP (pExtract x14 0) fun x15 =>
  bP (pExtract x14 1) fun x16 =>
  bP (pExtract x14 2) fun x17 =>
  bS (mAlloc Q 55 (G13.at' (G5.nx + 9))) fun x18 G19 =>
  bP (gStore Q 55 x18 x15 (G19.back G13)) fun G20 =>
  bP (gLoadF Q 55 x18 G20) fun x21 =>
  bP (gStore Q 55 x2 x21 G20) fun G22 =>
  bP (gLoadF Q 55 x2 G22) fun x23 =>
  some (.tuple #[x23, x17], G22))
theorem c35 (orc : FuncId → Bool) (v0 v1 v2 : Value) (G : GS) : (E orc).cl 35 [v0, v1, v2] G = s35 orc v0 v1 v2 G :=
  cl_sxE Q orc (vs := [v0, v1, v2]) G Try.func35 (by kernel_rfl) (by kernel_rfl) (by kernel_rfl) (by kernel_rfl) (by kernel_rfl) (by kernel_rfl)
/-- coxswain/coxswainref06.Answer -/
noncomputable def s36 (orc : FuncId → Bool) (v0 v1 v2 : Value) (G : GS) : Option (Value × GS) :=
  bS (mBox v2 G) fun x0 G1 =>
  bS (mAlloc Q 55 G1) fun x2 G3 =>
  bP (gLoadF Q 53 x0 G3) fun x4 =>
  bS ((E orc).cl 57 [v0, v1, x4] G3) fun x5 G6 =>
  bP (pExtract x5 0) fun x7 =>
  bP (pExtract x5 1) fun x8 =>
  bP (pExtract x5 2) fun x9 =>
  bS (mAlloc Q 55 G6) fun x10 G11 =>
  bP (gStore Q 55 x10 x7 G11) fun G12 =>
  bP (gLoadF Q 55 x10 G12) fun x13 =>
  bP (gStore Q 55 x2 x13 G12) fun G14 =>
  bP (gLoadF Q 55 x2 G14) fun x15 =>
  some (.tuple #[x15, x9], G14)
theorem c36 (orc : FuncId → Bool) (v0 v1 v2 : Value) (G : GS) : (E orc).cl 36 [v0, v1, v2] G = s36 orc v0 v1 v2 G :=
  cl_sxE Q orc (vs := [v0, v1, v2]) G Try.func36 (by kernel_rfl) (by kernel_rfl) (by kernel_rfl) (by kernel_rfl) (by kernel_rfl) (by kernel_rfl)
/-- coxswain/fifo.Next -/
noncomputable def s37 (orc : FuncId → Bool) (v0 v1 v2 v3 : Value) (G : GS) : Option (Value × GS) :=
  bS (mBox v2 G) fun x0 G1 =>
  bS (mBox v3 G1) fun x2 G3 =>
  bS ((E orc).cl 40 [v0, v1] G3) fun x4 G5 =>
  bP (gBinF Q .neq 32 (.tmp 15) (.const (.int .i64 0)) x4 (.int .i64 0)) fun x6 =>
  ifV x6 (
  some (.tuple #[(.slice none 0 0), (.bool false)], G5)) (
  bS ((E orc).cl 56 [v1] (G5.room 13)) fun x8 G7 =>
  bP (gLoadF Q 53 x0 G7) fun x9 =>
  chk ((sameO (gLoadF Q 53 x0 (G5.room 13)) x9 && true)) <|
  bS ((E orc).cl 55 [v0, x8, x9] G7) fun x11 G10 =>
  bP (pExtract x11 0) fun x12 =>
  bP (pExtract x11 1) fun x13 =>
  bP (pExtract x11 2) fun x14 =>
  bS (mAlloc Q 55 (G10.at' (G5.nx + 9))) fun x15 G16 =>
  bP (gStore Q 55 x15 x12 (G16.back G10)) fun G17 =>
  bP (pUn Q .not x14) fun x18 =>
  bS (gd x18 false (bP (gLoadF Q 55 x15 G17) fun y => some (y, G17)) G17) fun x19 G20 =>
  bS (gd x18 false (bP (gLoadF Q 55 x2 G20) fun y => some (y, G20)) G20) fun x21 G22 =>
  bS (gd x18 false (bP (gBinF Q .neq 55 (.tmp 29) (.tmp 30) x19 x21) fun y => some (y, G22)) G22) fun x23 G24 =>
  bP (pickV x18 (.bool true) x23) fun x25 =>
  ifV x25 (
  some (.tuple #[(.slice none 0 0), (.bool false)], G24)) (
  bS (cValue (E orc) x13 [] G24) fun x26 G27 =>
  bS ((E orc).cl 58 [x26] G27) fun x28 G29 =>
  some (.tuple #[x28, (.bool true)], G29)))
theorem c37 (orc : FuncId → Bool) (v0 v1 v2 v3 : Value) (G : GS) : (E orc).cl 37 [v0, v1, v2, v3] G = s37 orc v0 v1 v2 v3 G :=
  cl_sxE Q orc (vs := [v0, v1, v2, v3]) G Try.func37 (by kernel_rfl) (by kernel_rfl) (by kernel_rfl) (by kernel_rfl) (by kernel_rfl) (by kernel_rfl)
/-- coxswain/coxswainref06.Next -/
noncomputable def s38 (orc : FuncId → Bool) (v0 v1 v2 v3 : Value) (G : GS) : Option (Value × GS) :=
  bS (mBox v2 G) fun x0 G1 =>
  bS (mBox v3 G1) fun x2 G3 =>
  bP (gLoadF Q 53 x0 G3) fun x4 =>
  bS ((E orc).cl 57 [v0, v1, x4] G3) fun x5 G6 =>
  bP (pExtract x5 0) fun x7 =>
  bP (pExtract x5 1) fun x8 =>
  bP (pExtract x5 2) fun x9 =>
  bS (mAlloc Q 55 G6) fun x10 G11 =>
  bP (gStore Q 55 x10 x7 G11) fun G12 =>
  bP (pUn Q .not x9) fun x13 =>
  bS (gd x13 false (bP (gLoadF Q 55 x10 G12) fun y => some (y, G12)) G12) fun x14 G15 =>
  bS (gd x13 false (bP (gLoadF Q 55 x2 G15) fun y => some (y, G15)) G15) fun x16 G17 =>
  bS (gd x13 false (bP (gBinF Q .neq 55 (.tmp 24) (.tmp 25) x14 x16) fun y => some (y, G17)) G17) fun x18 G19 =>
  bP (pickV x13 (.bool true) x18) fun x20 =>
  ifV x20 (
  some (.tuple #[(.slice none 0 0), (.bool false)], G19)) (
  some (.tuple #[x8, (.bool true)], G19))
theorem c38 (orc : FuncId → Bool) (v0 v1 v2 v3 : Value) (G : GS) : (E orc).cl 38 [v0, v1, v2, v3] G = s38 orc v0 v1 v2 v3 G :=
  cl_sxE Q orc (vs := [v0, v1, v2, v3]) G Try.func38 (by kernel_rfl) (by kernel_rfl) (by kernel_rfl) (by kernel_rfl) (by kernel_rfl) (by kernel_rfl)
/-- coxswain/coxswainkit.SameWords -/
noncomputable def s39 (orc : FuncId → Bool) (v0 v1 : Value) (G : GS) : Option (Value × GS) :=
  bP (gLen Q 50 v0) fun x0 =>
  bP (gLen Q 50 v1) fun x1 =>
  bP (gBinF Q .eql 3 (.tmp 8) (.tmp 10) x0 x1) fun x2 =>
  bX ((E orc).lp (subAt [1, 1, 0, 1, 0, 0] (bodyOf Try.f39)) [v0, v1, undef, undef, (.bool false), x2, (.int .i64 0), v0, x0, v1, x1, x2, undef, undef, undef, undef, undef, undef, undef, undef, undef, undef, undef, undef, undef, undef, undef, undef, undef, undef, undef] G) fun e3 T4 G5 =>
  ifE e3 (.exit 0) (
  some ((nth undef T4 5), G5)) (none)
theorem c39 (orc : FuncId → Bool) (v0 v1 : Value) (G : GS) {r : Value × GS} (h : s39 orc v0 v1 G = some r) : (E orc).cl 39 [v0, v1] G = some r :=
  cl_sxE_some Q orc (vs := [v0, v1]) G Try.func39 (by kernel_rfl) (by kernel_rfl) (by kernel_rfl) (by kernel_rfl) (by kernel_rfl) h
noncomputable def b39_0 (orc : FuncId → Bool) (T : List Value) (G : GS) : Option (Exit × List Value × GS) :=
  bS (gd (nth undef T 5) true (some ((nth undef T 6), G)) G) fun x0 G1 =>
  bS (gd (nth undef T 5) true (some ((nth undef T 0), G1)) G1) fun x2 G3 =>
  bS (gd (nth undef T 5) true (bP (gLen Q 50 x2) fun y => some (y, G3)) G3) fun x4 G5 =>
  bS (gd (nth undef T 5) true (bP (gBinF Q .lss 3 (.tmp 14) (.tmp 16) x0 x4) fun y => some (y, G5)) G5) fun x6 G7 =>
  bP (pickV (nth undef T 5) x6 (.bool false)) fun x8 =>
  ifV x8 (
  bP (gIndexAddr Q 50 (nth undef T 0) (nth undef T 6)) fun x9 =>
  bP (gLoadF Q 51 x9 (G7.room 10)) fun x10 =>
  bP (gIndexAddr Q 50 (nth undef T 1) (nth undef T 6)) fun x11 =>
  bP (gLoadF Q 51 x11 (G7.room 10)) fun x12 =>
  bP (gBinF Q .eql 51 (.tmp 24) (.tmp 28) x10 x12) fun x13 =>
  bP (gBinF Q .add 3 (.tmp 19) (.const (.int .i64 1)) (nth undef T 6) (.int .i64 1)) fun x14 =>
  (E orc).lp (subAt [1, 1, 0, 1, 0, 0] (bodyOf Try.f39)) [(nth undef T 0), (nth undef T 1), (nth undef T 2), (nth undef T 3), (nth undef T 4), x13, x14, (nth undef T 7), (nth undef T 8), (nth undef T 9), (nth undef T 10), (nth undef T 11), (nth undef T 5), (nth undef T 5), x0, x2, x4, x6, x8, (nth undef T 6), x14, (nth undef T 0), (nth undef T 6), x9, x10, (nth undef T 1), (nth undef T 6), x11, x12, x13, (nth undef T 30)] (G7.room 10)) (
  some ((.exit 0), [(nth undef T 0), (nth undef T 1), (nth undef T 2), (nth undef T 3), (nth undef T 4), (nth undef T 5), (nth undef T 6), (nth undef T 7), (nth undef T 8), (nth undef T 9), (nth undef T 10), (nth undef T 11), (nth undef T 5), (nth undef T 5), x0, x2, x4, x6, x8, (nth undef T 19), (nth undef T 20), (nth undef T 21), (nth undef T 22), (nth undef T 23), (nth undef T 24), (nth undef T 25), (nth undef T 26), (nth undef T 27), (nth undef T 28), (nth undef T 29), (nth undef T 30)], G7))
theorem l39_0 (orc : FuncId → Bool) (T : List Value) (G : GS) (hT : T.length = 31) {r : Exit × List Value × GS} (h : b39_0 orc T G = some r) : (E orc).lp (subAt [1, 1, 0, 1, 0, 0] (bodyOf Try.f39)) T G = some r :=
  lp_sxE Q orc G hT (by kernel_rfl) h
/-- coxswain/fifo.Check -/
noncomputable def s40 (orc : FuncId → Bool) (v0 v1 : Value) (G : GS) : Option (Value × GS) :=
  bP (gBinF Q .lss 3 (.tmp 6) (.const (.int .i64 1)) v0 (.int .i64 1)) fun x0 =>
  bS (gd x0 false (some (v0, G)) G) fun x1 G2 =>
  bS (gd x0 false (bP (gBinF Q .gtr 3 (.tmp 9) (.const (.int .i64 1024)) x1 (.int .i64 1024)) fun y => some (y, G2)) G2) fun x3 G4 =>
  bP (pickV x0 (.bool true) x3) fun x5 =>
  ifV x5 (
  some ((.int .i64 3), G4)) (
  bP (gLen Q 50 v1) fun x6 =>
  bP (gBinF Q .gtr 3 (.tmp 14) (.tmp 15) x6 v0) fun x7 =>
  ifV x7 (
  some ((.int .i64 7), G4)) (
  some ((.int .i64 0), G4)))
theorem c40 (orc : FuncId → Bool) (v0 v1 : Value) (G : GS) : (E orc).cl 40 [v0, v1] G = s40 orc v0 v1 G :=
  cl_sxE Q orc (vs := [v0, v1]) G Try.func40 (by kernel_rfl) (by kernel_rfl) (by kernel_rfl) (by kernel_rfl) (by kernel_rfl) (by kernel_rfl)
/-- coxswain/coxswainref06.Check -/
noncomputable def s41 (orc : FuncId → Bool) (v0 v1 : Value) (G : GS) : Option (Value × GS) :=
  bP (gBinF Q .lss 3 (.tmp 6) (.const (.int .i64 1)) v0 (.int .i64 1)) fun x0 =>
  bS (gd x0 false (some (v0, G)) G) fun x1 G2 =>
  bS (gd x0 false (bP (gBinF Q .gtr 3 (.tmp 9) (.const (.int .i64 1024)) x1 (.int .i64 1024)) fun y => some (y, G2)) G2) fun x3 G4 =>
  bP (pickV x0 (.bool true) x3) fun x5 =>
  ifV x5 (
  some ((.int .i64 3), G4)) (
  bP (gLen Q 50 v1) fun x6 =>
  bP (gBinF Q .gtr 3 (.tmp 14) (.tmp 15) x6 v0) fun x7 =>
  ifV x7 (
  some ((.int .i64 7), G4)) (
  some ((.int .i64 0), G4)))
theorem c41 (orc : FuncId → Bool) (v0 v1 : Value) (G : GS) : (E orc).cl 41 [v0, v1] G = s41 orc v0 v1 G :=
  cl_sxE Q orc (vs := [v0, v1]) G Try.func41 (by kernel_rfl) (by kernel_rfl) (by kernel_rfl) (by kernel_rfl) (by kernel_rfl) (by kernel_rfl)
/-- coxswain/coxswainkit.OverWords -/
noncomputable def s42 (orc : FuncId → Bool) (v0 : Value) (G : GS) : Option (Value × GS) :=
  bX ((E orc).lp (subAt [1, 0, 0] (bodyOf Try.f42)) [v0, undef, (.int .i64 0), undef, undef, undef, undef, undef, undef, undef, undef, undef] G) fun e0 T1 G2 =>
  ifE e0 (.exit 0) (
  some (.tuple #[], G2)) (none)
theorem c42 (orc : FuncId → Bool) (v0 : Value) (G : GS) {r : Value × GS} (h : s42 orc v0 G = some r) : (E orc).cl 42 [v0] G = some r :=
  cl_sxE_some Q orc (vs := [v0]) G Try.func42 (by kernel_rfl) (by kernel_rfl) (by kernel_rfl) (by kernel_rfl) (by kernel_rfl) h
noncomputable def b42_0 (orc : FuncId → Bool) (T : List Value) (G : GS) : Option (Exit × List Value × GS) :=
  bP (gLen Q 50 (nth undef T 0)) fun x0 =>
  bP (gBinF Q .lss 3 (.tmp 3) (.tmp 5) (nth undef T 2) x0) fun x1 =>
  ifV x1 (
  bP (gIndexAddr Q 50 (nth undef T 0) (nth undef T 2)) fun x2 =>
  bP (gStore Q 51 x2 (.int .u64 7777777) G) fun G3 =>
  bP (gBinF Q .add 3 (.tmp 7) (.const (.int .i64 1)) (nth undef T 2) (.int .i64 1)) fun x4 =>
  (E orc).lp (subAt [1, 0, 0] (bodyOf Try.f42)) [(nth undef T 0), (nth undef T 1), x4, (nth undef T 2), (nth undef T 0), x0, x1, (nth undef T 2), x4, (nth undef T 0), (nth undef T 2), x2] G3) (
  some ((.exit 0), [(nth undef T 0), (nth undef T 1), (nth undef T 2), (nth undef T 2), (nth undef T 0), x0, x1, (nth undef T 7), (nth undef T 8), (nth undef T 9), (nth undef T 10), (nth undef T 11)], G))
theorem l42_0 (orc : FuncId → Bool) (T : List Value) (G : GS) (hT : T.length = 12) {r : Exit × List Value × GS} (h : b42_0 orc T G = some r) : (E orc).lp (subAt [1, 0, 0] (bodyOf Try.f42)) T G = some r :=
  lp_sxE Q orc G hT (by kernel_rfl) h
/-- coxswain/coxswainkit.CopyOps -/
noncomputable def s43 (orc : FuncId → Bool) (v0 : Value) (G : GS) : Option (Value × GS) :=
  bS (mBuildV Q 65 0 [] G) fun x0 G1 =>
  bS (gAppend Q 65 65 x0 v0 G1) fun x2 G3 =>
  some (x2, G3)
theorem c43 (orc : FuncId → Bool) (v0 : Value) (G : GS) : (E orc).cl 43 [v0] G = s43 orc v0 G :=
  cl_sxE Q orc (vs := [v0]) G Try.func43 (by kernel_rfl) (by kernel_rfl) (by kernel_rfl) (by kernel_rfl) (by kernel_rfl) (by kernel_rfl)
/-- coxswain/fifo.Play -/
noncomputable def s44 (orc : FuncId → Bool) (v0 v1 : Value) (G : GS) : Option (Value × GS) :=
  bS ((E orc).cl 40 [v0, (.slice none 0 0)] G) fun x0 G1 =>
  bP (gBinF Q .neq 32 (.tmp 17) (.const (.int .i64 0)) x0 (.int .i64 0)) fun x2 =>
  ifV x2 (
  some (.tuple #[(.slice none 0 0), (.slice none 0 0), x0], G1)) (
  bS (mAlloc Q 91 G1) fun x3 G4 =>
  bP (gLen Q 65 v1) fun x5 =>
  bX ((E orc).lp (subAt [1, 1, 1, 1, 0, 1, 0, 0] (bodyOf Try.f44)) [v0, v1, undef, undef, (.slice none 0 0), (.slice none 0 0), (.int .i64 0), x0, (.slice none 0 0), x3, undef, undef, undef, undef, undef, v0, x0, x0, x2, undef, v1, x5, (.int .i64 0), undef, undef, undef, undef, undef, undef, undef, undef, undef, undef, undef, undef, undef, undef, undef, undef, undef, undef, undef, undef, undef, undef, undef, undef] G4) fun e6 T7 G8 =>
  ifE e6 (.exit 0) (
  bP (gLoadF Q 91 (nth undef T7 9) G8) fun x9 =>
  bS ((E orc).cl 58 [x9] G8) fun x10 G11 =>
  some (.tuple #[(nth undef T7 8), x10, (.int .i64 0)], G11)) (none))
theorem c44 (orc : FuncId → Bool) (v0 v1 : Value) (G : GS) {r : Value × GS} (h : s44 orc v0 v1 G = some r) : (E orc).cl 44 [v0, v1] G = some r :=
  cl_sxE_some Q orc (vs := [v0, v1]) G Try.func44 (by kernel_rfl) (by kernel_rfl) (by kernel_rfl) (by kernel_rfl) (by kernel_rfl) h
noncomputable def b44_0 (orc : FuncId → Bool) (T : List Value) (G : GS) : Option (Exit × List Value × GS) :=
  bP (gBinF Q .lss 3 (.tmp 22) (.tmp 21) (nth undef T 22) (nth undef T 21)) fun x0 =>
  ifV x0 (
  bP (gIndexAddr Q 65 (nth undef T 20) (nth undef T 22)) fun x1 =>
  bP (gLoadF Q 53 x1 G) fun x2 =>
  bS (mAlloc Q 53 G) fun x3 G4 =>
  bP (gStore Q 53 x3 x2 G4) fun G5 =>
  bP (gLoadF Q 91 (nth undef T 9) G5) fun x6 =>
  bP (gLoadF Q 53 x3 G5) fun x7 =>
  bS ((E orc).cl 55 [(nth undef T 0), x6, x7] G5) fun x8 G9 =>
  bP (pExtract x8 0) fun x10 =>
  bP (pExtract x8 1) fun x11 =>
  bP (pExtract x8 2) fun x12 =>
  bS (mAlloc Q 55 G9) fun x13 G14 =>
  bP (gStore Q 55 x13 x10 G14) fun G15 =>
  bP (pUn Q .not x12) fun x16 =>
  ifV x16 (
  bP (gBuild Q 55 []) fun x17 =>
  bP (gStore Q 55 x13 x17 G15) fun G18 =>
  bP (gLoadF Q 55 x13 G18) fun x19 =>
  bS (mBuildV Q 67 1 [(0, x19)] G18) fun x20 G21 =>
  bS (gAppend Q 67 67 (nth undef T 8) x20 G21) fun x22 G23 =>
  bS (cValue (E orc) x11 [] G23) fun x24 G25 =>
  bP (gStore Q 91 (nth undef T 9) x24 G25) fun G26 =>
  bP (gBinF Q .add 3 (.tmp 22) (.const (.int .i64 1)) (nth undef T 22) (.int .i64 1)) fun x27 =>
  (E orc).lp (subAt [1, 1, 1, 1, 0, 1, 0, 0] (bodyOf Try.f44)) [(nth undef T 0), (nth undef T 1), (nth undef T 2), (nth undef T 3), (nth undef T 4), (nth undef T 5), (nth undef T 6), (nth undef T 7), x22, (nth undef T 9), (nth undef T 10), x3, x13, x11, x12, (nth undef T 15), (nth undef T 16), (nth undef T 17), (nth undef T 18), (nth undef T 19), (nth undef T 20), (nth undef T 21), x27, x0, x1, x2, x8, (nth undef T 0), x6, x7, x8, x10, x11, x12, x12, x16, x17, (nth undef T 8), x19, x20, x22, x11, x24, x27, (nth undef T 44), (nth undef T 45), (nth undef T 46)] G26) (
  bP (gLoadF Q 55 x13 G15) fun x28 =>
  bS (mBuildV Q 67 1 [(0, x28)] G15) fun x29 G30 =>
  bS (gAppend Q 67 67 (nth undef T 8) x29 G30) fun x31 G32 =>
  bS (cValue (E orc) x11 [] G32) fun x33 G34 =>
  bP (gStore Q 91 (nth undef T 9) x33 G34) fun G35 =>
  bP (gBinF Q .add 3 (.tmp 22) (.const (.int .i64 1)) (nth undef T 22) (.int .i64 1)) fun x36 =>
  (E orc).lp (subAt [1, 1, 1, 1, 0, 1, 0, 0] (bodyOf Try.f44)) [(nth undef T 0), (nth undef T 1), (nth undef T 2), (nth undef T 3), (nth undef T 4), (nth undef T 5), (nth undef T 6), (nth undef T 7), x31, (nth undef T 9), (nth undef T 10), x3, x13, x11, x12, (nth undef T 15), (nth undef T 16), (nth undef T 17), (nth undef T 18), (nth undef T 19), (nth undef T 20), (nth undef T 21), x36, x0, x1, x2, x8, (nth undef T 0), x6, x7, x8, x10, x11, x12, x12, x16, (nth undef T 36), (nth undef T 8), x28, x29, x31, x11, x33, x36, (nth undef T 44), (nth undef T 45), (nth undef T 46)] G35)) (
  some ((.exit 0), [(nth undef T 0), (nth undef T 1), (nth undef T 2), (nth undef T 3), (nth undef T 4), (nth undef T 5), (nth undef T 6), (nth undef T 7), (nth undef T 8), (nth undef T 9), (nth undef T 10), (nth undef T 11), (nth undef T 12), (nth undef T 13), (nth undef T 14), (nth undef T 15), (nth undef T 16), (nth undef T 17), (nth undef T 18), (nth undef T 19), (nth undef T 20), (nth undef T 21), (nth undef T 22), x0, (nth undef T 24), (nth undef T 25), (nth undef T 26), (nth undef T 27), (nth undef T 28), (nth undef T 29), (nth undef T 30), (nth undef T 31), (nth undef T 32), (nth undef T 33), (nth undef T 34), (nth undef T 35), (nth undef T 36), (nth undef T 37), (nth undef T 38), (nth undef T 39), (nth undef T 40), (nth undef T 41), (nth undef T 42), (nth undef T 43), (nth undef T 44), (nth undef T 45), (nth undef T 46)], G))
theorem l44_0 (orc : FuncId → Bool) (T : List Value) (G : GS) (hT : T.length = 47) {r : Exit × List Value × GS} (h : b44_0 orc T G = some r) : (E orc).lp (subAt [1, 1, 1, 1, 0, 1, 0, 0] (bodyOf Try.f44)) T G = some r :=
  lp_sxE Q orc G hT (by kernel_rfl) h
/-- coxswain/coxswainref06.Play -/
noncomputable def s45 (orc : FuncId → Bool) (v0 v1 : Value) (G : GS) : Option (Value × GS) :=
  bS ((E orc).cl 41 [v0, (.slice none 0 0)] G) fun x0 G1 =>
  bP (gBinF Q .neq 32 (.tmp 16) (.const (.int .i64 0)) x0 (.int .i64 0)) fun x2 =>
  ifV x2 (
  some (.tuple #[(.slice none 0 0), (.slice none 0 0), x0], G1)) (
  bX ((E orc).lp (subAt [1, 1, 1, 1, 1, 0, 1, 0, 0] (bodyOf Try.f45)) [v0, v1, undef, undef, (.slice none 0 0), (.slice none 0 0), (.int .i64 0), x0, (.slice none 0 0), (.slice none 0 0), (.int .i64 0), undef, undef, undef, v0, x0, x0, x2, undef, undef, undef, undef, undef, undef, undef, undef, undef, undef, undef, undef, undef, undef, undef, undef, undef, undef, undef, undef, undef, undef, undef, undef, undef, undef] G1) fun e3 T4 G5 =>
  ifE e3 (.exit 0) (
  some (.tuple #[(nth undef T4 8), (nth undef T4 9), (.int .i64 0)], G5)) (none))
theorem c45 (orc : FuncId → Bool) (v0 v1 : Value) (G : GS) {r : Value × GS} (h : s45 orc v0 v1 G = some r) : (E orc).cl 45 [v0, v1] G = some r :=
  cl_sxE_some Q orc (vs := [v0, v1]) G Try.func45 (by kernel_rfl) (by kernel_rfl) (by kernel_rfl) (by kernel_rfl) (by kernel_rfl) h
noncomputable def b45_0 (orc : FuncId → Bool) (T : List Value) (G : GS) : Option (Exit × List Value × GS) :=
  bP (gLen Q 65 (nth undef T 1)) fun x0 =>
  bP (gBinF Q .lss 3 (.tmp 19) (.tmp 21) (nth undef T 10) x0) fun x1 =>
  ifV x1 (
  bP (gIndexAddr Q 65 (nth undef T 1) (nth undef T 10)) fun x2 =>
  bP (gLoadF Q 53 x2 G) fun x3 =>
  bS ((E orc).cl 57 [(nth undef T 0), (nth undef T 9), x3] G) fun x4 G5 =>
  bP (pExtract x4 0) fun x6 =>
  bP (pExtract x4 1) fun x7 =>
  bP (pExtract x4 2) fun x8 =>
  bS (mAlloc Q 55 G5) fun x9 G10 =>
  bP (gStore Q 55 x9 x6 G10) fun G11 =>
  bP (gLoadF Q 55 x9 G11) fun x12 =>
  bS (mBuildV Q 67 1 [(0, x12)] G11) fun x13 G14 =>
  bS (gAppend Q 67 67 (nth undef T 8) x13 G14) fun x15 G16 =>
  ifV x8 (
  bP (gBinF Q .add 3 (.tmp 23) (.const (.int .i64 1)) (nth undef T 10) (.int .i64 1)) fun x17 =>
  (E orc).lp (subAt [1, 1, 1, 1, 1, 0, 1, 0, 0] (bodyOf Try.f45)) [(nth undef T 0), (nth undef T 1), (nth undef T 2), (nth undef T 3), (nth undef T 4), (nth undef T 5), (nth undef T 6), (nth undef T 7), x15, x7, x17, x9, x7, x8, (nth undef T 14), (nth undef T 15), (nth undef T 16), (nth undef T 17), (nth undef T 18), (nth undef T 10), (nth undef T 1), x0, x1, (nth undef T 10), x17, x4, (nth undef T 0), (nth undef T 9), (nth undef T 1), (nth undef T 10), x2, x3, x4, x6, x7, x8, (nth undef T 8), x12, x13, x15, x8, x7, (nth undef T 42), (nth undef T 43)] G16) (
  bP (gBinF Q .add 3 (.tmp 23) (.const (.int .i64 1)) (nth undef T 10) (.int .i64 1)) fun x18 =>
  (E orc).lp (subAt [1, 1, 1, 1, 1, 0, 1, 0, 0] (bodyOf Try.f45)) [(nth undef T 0), (nth undef T 1), (nth undef T 2), (nth undef T 3), (nth undef T 4), (nth undef T 5), (nth undef T 6), (nth undef T 7), x15, (nth undef T 9), x18, x9, x7, x8, (nth undef T 14), (nth undef T 15), (nth undef T 16), (nth undef T 17), (nth undef T 18), (nth undef T 10), (nth undef T 1), x0, x1, (nth undef T 10), x18, x4, (nth undef T 0), (nth undef T 9), (nth undef T 1), (nth undef T 10), x2, x3, x4, x6, x7, x8, (nth undef T 8), x12, x13, x15, x8, (nth undef T 41), (nth undef T 42), (nth undef T 43)] G16)) (
  some ((.exit 0), [(nth undef T 0), (nth undef T 1), (nth undef T 2), (nth undef T 3), (nth undef T 4), (nth undef T 5), (nth undef T 6), (nth undef T 7), (nth undef T 8), (nth undef T 9), (nth undef T 10), (nth undef T 11), (nth undef T 12), (nth undef T 13), (nth undef T 14), (nth undef T 15), (nth undef T 16), (nth undef T 17), (nth undef T 18), (nth undef T 10), (nth undef T 1), x0, x1, (nth undef T 23), (nth undef T 24), (nth undef T 25), (nth undef T 26), (nth undef T 27), (nth undef T 28), (nth undef T 29), (nth undef T 30), (nth undef T 31), (nth undef T 32), (nth undef T 33), (nth undef T 34), (nth undef T 35), (nth undef T 36), (nth undef T 37), (nth undef T 38), (nth undef T 39), (nth undef T 40), (nth undef T 41), (nth undef T 42), (nth undef T 43)], G))
theorem l45_0 (orc : FuncId → Bool) (T : List Value) (G : GS) (hT : T.length = 44) {r : Exit × List Value × GS} (h : b45_0 orc T G = some r) : (E orc).lp (subAt [1, 1, 1, 1, 1, 0, 1, 0, 0] (bodyOf Try.f45)) T G = some r :=
  lp_sxE Q orc G hT (by kernel_rfl) h
/-- coxswain/coxswainkit.SameAnswers -/
noncomputable def s46 (orc : FuncId → Bool) (v0 v1 : Value) (G : GS) : Option (Value × GS) :=
  bP (gLen Q 67 v0) fun x0 =>
  bP (gLen Q 67 v1) fun x1 =>
  bP (gBinF Q .eql 3 (.tmp 8) (.tmp 10) x0 x1) fun x2 =>
  bX ((E orc).lp (subAt [1, 1, 0, 1, 0, 0] (bodyOf Try.f46)) [v0, v1, undef, undef, (.bool false), x2, (.int .i64 0), v0, x0, v1, x1, x2, undef, undef, undef, undef, undef, undef, undef, undef, undef, undef, undef, undef, undef, undef, undef, undef, undef, undef, undef] G) fun e3 T4 G5 =>
  ifE e3 (.exit 0) (
  some ((nth undef T4 5), G5)) (none)
theorem c46 (orc : FuncId → Bool) (v0 v1 : Value) (G : GS) {r : Value × GS} (h : s46 orc v0 v1 G = some r) : (E orc).cl 46 [v0, v1] G = some r :=
  cl_sxE_some Q orc (vs := [v0, v1]) G Try.func46 (by kernel_rfl) (by kernel_rfl) (by kernel_rfl) (by kernel_rfl) (by kernel_rfl) h
noncomputable def b46_0 (orc : FuncId → Bool) (T : List Value) (G : GS) : Option (Exit × List Value × GS) :=
  bS (gd (nth undef T 5) true (some ((nth undef T 6), G)) G) fun x0 G1 =>
  bS (gd (nth undef T 5) true (some ((nth undef T 0), G1)) G1) fun x2 G3 =>
  bS (gd (nth undef T 5) true (bP (gLen Q 67 x2) fun y => some (y, G3)) G3) fun x4 G5 =>
  bS (gd (nth undef T 5) true (bP (gBinF Q .lss 3 (.tmp 14) (.tmp 16) x0 x4) fun y => some (y, G5)) G5) fun x6 G7 =>
  bP (pickV (nth undef T 5) x6 (.bool false)) fun x8 =>
  ifV x8 (
  bP (gIndexAddr Q 67 (nth undef T 0) (nth undef T 6)) fun x9 =>
  bP (gLoadF Q 55 x9 (G7.room 10)) fun x10 =>
  bP (gIndexAddr Q 67 (nth undef T 1) (nth undef T 6)) fun x11 =>
  bP (gLoadF Q 55 x11 (G7.room 10)) fun x12 =>
  bP (gBinF Q .eql 55 (.tmp 24) (.tmp 28) x10 x12) fun x13 =>
  bP (gBinF Q .add 3 (.tmp 19) (.const (.int .i64 1)) (nth undef T 6) (.int .i64 1)) fun x14 =>
  (E orc).lp (subAt [1, 1, 0, 1, 0, 0] (bodyOf Try.f46)) [(nth undef T 0), (nth undef T 1), (nth undef T 2), (nth undef T 3), (nth undef T 4), x13, x14, (nth undef T 7), (nth undef T 8), (nth undef T 9), (nth undef T 10), (nth undef T 11), (nth undef T 5), (nth undef T 5), x0, x2, x4, x6, x8, (nth undef T 6), x14, (nth undef T 0), (nth undef T 6), x9, x10, (nth undef T 1), (nth undef T 6), x11, x12, x13, (nth undef T 30)] (G7.room 10)) (
  some ((.exit 0), [(nth undef T 0), (nth undef T 1), (nth undef T 2), (nth undef T 3), (nth undef T 4), (nth undef T 5), (nth undef T 6), (nth undef T 7), (nth undef T 8), (nth undef T 9), (nth undef T 10), (nth undef T 11), (nth undef T 5), (nth undef T 5), x0, x2, x4, x6, x8, (nth undef T 19), (nth undef T 20), (nth undef T 21), (nth undef T 22), (nth undef T 23), (nth undef T 24), (nth undef T 25), (nth undef T 26), (nth undef T 27), (nth undef T 28), (nth undef T 29), (nth undef T 30)], G7))
theorem l46_0 (orc : FuncId → Bool) (T : List Value) (G : GS) (hT : T.length = 31) {r : Exit × List Value × GS} (h : b46_0 orc T G = some r) : (E orc).lp (subAt [1, 1, 0, 1, 0, 0] (bodyOf Try.f46)) T G = some r :=
  lp_sxE Q orc G hT (by kernel_rfl) h
/-- coxswain/coxswainkit.OverAnswers -/
noncomputable def s47 (orc : FuncId → Bool) (v0 : Value) (G : GS) : Option (Value × GS) :=
  bX ((E orc).lp (subAt [1, 0, 0] (bodyOf Try.f47)) [v0, undef, (.int .i64 0), undef, undef, undef, undef, undef, undef, undef, undef, undef, undef] G) fun e0 T1 G2 =>
  ifE e0 (.exit 0) (
  some (.tuple #[], G2)) (none)
theorem c47 (orc : FuncId → Bool) (v0 : Value) (G : GS) {r : Value × GS} (h : s47 orc v0 G = some r) : (E orc).cl 47 [v0] G = some r :=
  cl_sxE_some Q orc (vs := [v0]) G Try.func47 (by kernel_rfl) (by kernel_rfl) (by kernel_rfl) (by kernel_rfl) (by kernel_rfl) h
noncomputable def b47_0 (orc : FuncId → Bool) (T : List Value) (G : GS) : Option (Exit × List Value × GS) :=
  bP (gLen Q 67 (nth undef T 0)) fun x0 =>
  bP (gBinF Q .lss 3 (.tmp 3) (.tmp 5) (nth undef T 2) x0) fun x1 =>
  ifV x1 (
  bP (gBuild Q 55 [(1, (.int .i64 (-77)))]) fun x2 =>
  bP (gIndexAddr Q 67 (nth undef T 0) (nth undef T 2)) fun x3 =>
  bP (gStore Q 55 x3 x2 G) fun G4 =>
  bP (gBinF Q .add 3 (.tmp 7) (.const (.int .i64 1)) (nth undef T 2) (.int .i64 1)) fun x5 =>
  (E orc).lp (subAt [1, 0, 0] (bodyOf Try.f47)) [(nth undef T 0), (nth undef T 1), x5, (nth undef T 2), (nth undef T 0), x0, x1, (nth undef T 2), x5, (nth undef T 0), (nth undef T 2), x2, x3] G4) (
  some ((.exit 0), [(nth undef T 0), (nth undef T 1), (nth undef T 2), (nth undef T 2), (nth undef T 0), x0, x1, (nth undef T 7), (nth undef T 8), (nth undef T 9), (nth undef T 10), (nth undef T 11), (nth undef T 12)], G))
theorem l47_0 (orc : FuncId → Bool) (T : List Value) (G : GS) (hT : T.length = 13) {r : Exit × List Value × GS} (h : b47_0 orc T G = some r) : (E orc).lp (subAt [1, 0, 0] (bodyOf Try.f47)) T G = some r :=
  lp_sxE Q orc G hT (by kernel_rfl) h
/-- coxswain/coxswainkit.SameOps -/
noncomputable def s48 (orc : FuncId → Bool) (v0 v1 : Value) (G : GS) : Option (Value × GS) :=
  bP (gLen Q 65 v0) fun x0 =>
  bP (gLen Q 65 v1) fun x1 =>
  bP (gBinF Q .eql 3 (.tmp 8) (.tmp 10) x0 x1) fun x2 =>
  bX ((E orc).lp (subAt [1, 1, 0, 1, 0, 0] (bodyOf Try.f48)) [v0, v1, undef, undef, (.bool false), x2, (.int .i64 0), v0, x0, v1, x1, x2, undef, undef, undef, undef, undef, undef, undef, undef, undef, undef, undef, undef, undef, undef, undef, undef, undef, undef, undef] G) fun e3 T4 G5 =>
  ifE e3 (.exit 0) (
  some ((nth undef T4 5), G5)) (none)
theorem c48 (orc : FuncId → Bool) (v0 v1 : Value) (G : GS) {r : Value × GS} (h : s48 orc v0 v1 G = some r) : (E orc).cl 48 [v0, v1] G = some r :=
  cl_sxE_some Q orc (vs := [v0, v1]) G Try.func48 (by kernel_rfl) (by kernel_rfl) (by kernel_rfl) (by kernel_rfl) (by kernel_rfl) h
noncomputable def b48_0 (orc : FuncId → Bool) (T : List Value) (G : GS) : Option (Exit × List Value × GS) :=
  bS (gd (nth undef T 5) true (some ((nth undef T 6), G)) G) fun x0 G1 =>
  bS (gd (nth undef T 5) true (some ((nth undef T 0), G1)) G1) fun x2 G3 =>
  bS (gd (nth undef T 5) true (bP (gLen Q 65 x2) fun y => some (y, G3)) G3) fun x4 G5 =>
  bS (gd (nth undef T 5) true (bP (gBinF Q .lss 3 (.tmp 14) (.tmp 16) x0 x4) fun y => some (y, G5)) G5) fun x6 G7 =>
  bP (pickV (nth undef T 5) x6 (.bool false)) fun x8 =>
  ifV x8 (
  bP (gIndexAddr Q 65 (nth undef T 0) (nth undef T 6)) fun x9 =>
  bP (gLoadF Q 53 x9 (G7.room 10)) fun x10 =>
  bP (gIndexAddr Q 65 (nth undef T 1) (nth undef T 6)) fun x11 =>
  bP (gLoadF Q 53 x11 (G7.room 10)) fun x12 =>
  bP (gBinF Q .eql 53 (.tmp 24) (.tmp 28) x10 x12) fun x13 =>
  bP (gBinF Q .add 3 (.tmp 19) (.const (.int .i64 1)) (nth undef T 6) (.int .i64 1)) fun x14 =>
  (E orc).lp (subAt [1, 1, 0, 1, 0, 0] (bodyOf Try.f48)) [(nth undef T 0), (nth undef T 1), (nth undef T 2), (nth undef T 3), (nth undef T 4), x13, x14, (nth undef T 7), (nth undef T 8), (nth undef T 9), (nth undef T 10), (nth undef T 11), (nth undef T 5), (nth undef T 5), x0, x2, x4, x6, x8, (nth undef T 6), x14, (nth undef T 0), (nth undef T 6), x9, x10, (nth undef T 1), (nth undef T 6), x11, x12, x13, (nth undef T 30)] (G7.room 10)) (
  some ((.exit 0), [(nth undef T 0), (nth undef T 1), (nth undef T 2), (nth undef T 3), (nth undef T 4), (nth undef T 5), (nth undef T 6), (nth undef T 7), (nth undef T 8), (nth undef T 9), (nth undef T 10), (nth undef T 11), (nth undef T 5), (nth undef T 5), x0, x2, x4, x6, x8, (nth undef T 19), (nth undef T 20), (nth undef T 21), (nth undef T 22), (nth undef T 23), (nth undef T 24), (nth undef T 25), (nth undef T 26), (nth undef T 27), (nth undef T 28), (nth undef T 29), (nth undef T 30)], G7))
theorem l48_0 (orc : FuncId → Bool) (T : List Value) (G : GS) (hT : T.length = 31) {r : Exit × List Value × GS} (h : b48_0 orc T G = some r) : (E orc).lp (subAt [1, 1, 0, 1, 0, 0] (bodyOf Try.f48)) T G = some r :=
  lp_sxE Q orc G hT (by kernel_rfl) h
/-- coxswain/coxswainlaw06.op -/
noncomputable def s49 (orc : FuncId → Bool) (v0 v1 : Value) (G : GS) : Option (Value × GS) :=
  bS (mAlloc Q 53 G) fun x0 G1 =>
  bP (gBuild Q 53 [(0, v0), (3, v1)]) fun x2 =>
  bP (gStore Q 53 x0 x2 G1) fun G3 =>
  bP (gLoadF Q 53 x0 G3) fun x4 =>
  some (x4, G3)
theorem c49 (orc : FuncId → Bool) (v0 v1 : Value) (G : GS) : (E orc).cl 49 [v0, v1] G = s49 orc v0 v1 G :=
  cl_sxE Q orc (vs := [v0, v1]) G Try.func49 (by kernel_rfl) (by kernel_rfl) (by kernel_rfl) (by kernel_rfl) (by kernel_rfl) (by kernel_rfl)
/-- coxswain/coxswainlaw06.answers -/
noncomputable def s50 (orc : FuncId → Bool) (v0 v1 v2 v3 : Value) (G : GS) : Option (Value × GS) :=
  bS (mBox v1 G) fun x0 G1 =>
  bP (gLoadF Q 53 x0 G1) fun x2 =>
  bS ((E orc).cl 35 [(.int .i64 2), v0, x2] G1) fun x3 G4 =>
  bP (pExtract x3 0) fun x5 =>
  bP (pExtract x3 1) fun x6 =>
  bS (mAlloc Q 55 G4) fun x7 G8 =>
  bP (gStore Q 55 x7 x5 G8) fun G9 =>
  bS (gd x6 true (bP (gLoadF Q 55 x7 G9) fun y => some (y, G9)) G9) fun x10 G11 =>
  bS (gd x6 true (some (v2, G11)) G11) fun x12 G13 =>
  bS (gd x6 true (some (v3, G13)) G13) fun x14 G15 =>
  bS (gd x6 true (bP (gBuild Q 55 [(0, x12), (2, x14)]) fun y => some (y, G15)) G15) fun x16 G17 =>
  bS (gd x6 true (bP (gBinF Q .eql 55 (.tmp 19) (.tmp 22) x10 x16) fun y => some (y, G17)) G17) fun x18 G19 =>
  bP (pickV x6 x18 (.bool false)) fun x20 =>
  some (x20, G19)
theorem c50 (orc : FuncId → Bool) (v0 v1 v2 v3 : Value) (G : GS) : (E orc).cl 50 [v0, v1, v2, v3] G = s50 orc v0 v1 v2 v3 G :=
  cl_sxE Q orc (vs := [v0, v1, v2, v3]) G Try.func50 (by kernel_rfl) (by kernel_rfl) (by kernel_rfl) (by kernel_rfl) (by kernel_rfl) (by kernel_rfl)
/-- coxswain/coxswainlaw06.next -/
noncomputable def s51 (orc : FuncId → Bool) (v0 v1 v2 v3 v4 v5 : Value) (G : GS) : Option (Value × GS) :=
  bS (mBox v1 G) fun x0 G1 =>
  bP (gLoadF Q 53 x0 G1) fun x2 =>
  bP (gBuild Q 55 [(0, v2), (2, v3)]) fun x3 =>
  bS ((E orc).cl 37 [(.int .i64 2), v0, x2, x3] G1) fun x4 G5 =>
  bP (pExtract x4 0) fun x6 =>
  bP (pExtract x4 1) fun x7 =>
  bP (gBinF Q .eql 4 (.tmp 24) (.tmp 25) x7 v4) fun x8 =>
  bS (gd x8 true (some (x6, G5)) G5) fun x9 G10 =>
  bS (gd x8 true (some (v5, G10)) G10) fun x11 G12 =>
  bS (gd x8 true (bS ((E orc).cl 39 [x9, x11] G12) fun y G => some (y, G)) G12) fun x13 G14 =>
  bP (pickV x8 x13 (.bool false)) fun x15 =>
  some (x15, G14)
theorem c51 (orc : FuncId → Bool) (v0 v1 v2 v3 v4 v5 : Value) (G : GS) : (E orc).cl 51 [v0, v1, v2, v3, v4, v5] G = s51 orc v0 v1 v2 v3 v4 v5 G :=
  cl_sxE Q orc (vs := [v0, v1, v2, v3, v4, v5]) G Try.func51 (by kernel_rfl) (by kernel_rfl) (by kernel_rfl) (by kernel_rfl) (by kernel_rfl) (by kernel_rfl)
/-- slices.Clone[[]int,int] -/
noncomputable def s52 (orc : FuncId → Bool) (v0 : Value) (G : GS) : Option (Value × GS) :=
  bP (gBinF Q .eql 22 (.tmp 3) (.const (.slice none 0 0)) v0 (.slice none 0 0)) fun x0 =>
  ifV x0 (
  some ((.slice none 0 0), G)) (
  bS (mBuildV Q 22 0 [] G) fun x1 G2 =>
  bS (gAppend Q 22 22 x1 v0 G2) fun x3 G4 =>
  some (x3, G4))
theorem c52 (orc : FuncId → Bool) (v0 : Value) (G : GS) : (E orc).cl 52 [v0] G = s52 orc v0 G :=
  cl_sxE Q orc (vs := [v0]) G Try.func52 (by kernel_rfl) (by kernel_rfl) (by kernel_rfl) (by kernel_rfl) (by kernel_rfl) (by kernel_rfl)
/-- (*coxswain/draw.Draws).none -/
noncomputable def s53 (orc : FuncId → Bool) (v0 : Value) (G : GS) : Option (Value × GS) :=
  bP (gBinF Q .eql 31 (.tmp 3) (.const (.pointer none)) v0 (.pointer none)) fun x0 =>
  bS (gd x0 false (some (v0, G)) G) fun x1 G2 =>
  bS (gd x0 false (bP (pNil x1) fun y => some (y, G2)) G2) fun x3 G4 =>
  bS (gd x0 false (bP (gFieldAddr Q 46 x3 0) fun y => some (y, G4)) G4) fun x5 G6 =>
  bS (gd x0 false (bP (gLoadF Q 44 x5 G6) fun y => some (y, G6)) G6) fun x7 G8 =>
  bS (gd x0 false (bP (gBinF Q .eql 44 (.tmp 9) (.const (.pointer none)) x7 (.pointer none)) fun y => some (y, G8)) G8) fun x9 G10 =>
  bP (pickV x0 (.bool true) x9) fun x11 =>
  some (x11, G10)
theorem c53 (orc : FuncId → Bool) (v0 : Value) (G : GS) : (E orc).cl 53 [v0] G = s53 orc v0 G :=
  cl_sxE Q orc (vs := [v0]) G Try.func53 (by kernel_rfl) (by kernel_rfl) (by kernel_rfl) (by kernel_rfl) (by kernel_rfl) (by kernel_rfl)
/-- (*coxswain/draw.Draws).rest -/
noncomputable def s54 (orc : FuncId → Bool) (v0 : Value) (G : GS) : Option (Value × GS) :=
  bS (mBox v0 G) fun x0 G1 =>
  some ((.func (.func 59) #[] #[x0]), G1)
theorem c54 (orc : FuncId → Bool) (v0 : Value) (G : GS) : (E orc).cl 54 [v0] G = s54 orc v0 G :=
  cl_sxE Q orc (vs := [v0]) G Try.func54 (by kernel_rfl) (by kernel_rfl) (by kernel_rfl) (by kernel_rfl) (by kernel_rfl) (by kernel_rfl)
/-- coxswain/fifo.does -/
noncomputable def s55 (orc : FuncId → Bool) (v0 v1 v2 : Value) (G : GS) : Option (Value × GS) :=
  bS (mBox v1 G) fun x0 G1 =>
  bS (mBox v2 G1) fun x2 G3 =>
  bS (mAlloc Q 55 G3) fun x4 G5 =>
  bS (mAlloc Q 55 G5) fun x6 G7 =>
  bP (gFieldAddr Q 53 x2 0) fun x8 =>
  bP (gLoadF Q 3 x8 G7) fun x9 =>
  bP (gBinF Q .eql 3 (.tmp 13) (.const (.int .i64 1)) x9 (.int .i64 1)) fun x10 =>
  ifV x10 (
  bP (gFieldAddr Q 91 x0 2) fun x11 =>
  bP (gLoadF Q 3 x11 G7) fun x12 =>
  bP (gBinF Q .geq 3 (.tmp 17) (.tmp 18) x12 v0) fun x13 =>
  ifV x13 (
  bP (gBuild Q 55 [(0, (.int .i64 7))]) fun x14 =>
  bP (gStore Q 55 x4 x14 G7) fun G15 =>
  bP (gLoadF Q 55 x4 G15) fun x16 =>
  some (.tuple #[x16, (.func (.func 60) #[] #[x0]), (.bool true)], G15)) (
  bP (gLoadF Q 55 x6 G7) fun x17 =>
  bP (gStore Q 55 x4 x17 G7) fun G18 =>
  bP (gLoadF Q 55 x4 G18) fun x19 =>
  some (.tuple #[x19, (.func (.func 61) #[] #[x0, x2]), (.bool true)], G18))) (
  bP (gBinF Q .eql 3 (.tmp 13) (.const (.int .i64 2)) x9 (.int .i64 2)) fun x20 =>
  ifV x20 (
  bP (gFieldAddr Q 91 x0 2) fun x21 =>
  bP (gLoadF Q 3 x21 G7) fun x22 =>
  bP (gBinF Q .eql 3 (.tmp 27) (.const (.int .i64 0)) x22 (.int .i64 0)) fun x23 =>
  ifV x23 (
  bX ((E orc).sc (subAt [1, 0] (bodyOf Try.f55)) (labelAt 0 (subAt [1, 0] (bodyOf Try.f55))) [v0, v1, v2, undef, x0, x2, x4, .nilFunc, (.bool false), (.func (.func 60) #[] #[x0]), x6, (.func (.func 60) #[] #[x0]), x8, x9, x10, x10, undef, undef, undef, undef, undef, undef, undef, undef, x20, x20, x21, x22, x23, undef, undef, undef, undef, undef, undef, undef, undef, undef, undef, undef, undef, undef, undef, undef, undef] G7) fun e24 T25 G26 =>
  ifE e24 .normal (
  bP (gLoadF Q 55 (nth undef T25 6) G26) fun x27 =>
  some (.tuple #[x27, (nth undef T25 7), (nth undef T25 8)], G26)) (ifE e24 (.goto 0) (
  none) (ifE e24 .ret (
  bP (gLoadF Q 55 (nth undef T25 6) G26) fun x28 =>
  some (.tuple #[x28, (nth undef T25 7), (nth undef T25 8)], G26)) (none)))) (
  bP (gLoadF Q 91 x0 G7) fun x29 =>
  bS ((E orc).cl 63 [x29] G7) fun x30 G31 =>
  bP (gFieldAddr Q 55 x6 2) fun x32 =>
  bP (gStore Q 51 x32 x30 G31) fun G33 =>
  bP (gLoadF Q 55 x6 G33) fun x34 =>
  bP (gStore Q 55 x4 x34 G33) fun G35 =>
  bP (gLoadF Q 55 x4 G35) fun x36 =>
  some (.tuple #[x36, (.func (.func 60) #[] #[x0]), (.bool true)], G35))) (
  bP (gBinF Q .eql 3 (.tmp 13) (.const (.int .i64 3)) x9 (.int .i64 3)) fun x37 =>
  ifV x37 (
  bP (gFieldAddr Q 91 x0 2) fun x38 =>
  bP (gLoadF Q 3 x38 G7) fun x39 =>
  bP (gBinF Q .eql 3 (.tmp 37) (.const (.int .i64 0)) x39 (.int .i64 0)) fun x40 =>
  ifV x40 (
  bX ((E orc).sc (subAt [1, 0] (bodyOf Try.f55)) (labelAt 0 (subAt [1, 0] (bodyOf Try.f55))) [v0, v1, v2, undef, x0, x2, x4, .nilFunc, (.bool false), (.func (.func 60) #[] #[x0]), x6, (.func (.func 60) #[] #[x0]), x8, x9, x10, x10, undef, undef, undef, undef, undef, undef, undef, undef, x20, x20, undef, undef, undef, undef, undef, undef, undef, undef, x37, x37, x38, x39, x40, undef, undef, undef, undef, undef, undef] G7) fun e41 T42 G43 =>
  ifE e41 .normal (
  bP (gLoadF Q 55 (nth undef T42 6) G43) fun x44 =>
  some (.tuple #[x44, (nth undef T42 7), (nth undef T42 8)], G43)) (ifE e41 (.goto 0) (
  none) (ifE e41 .ret (
  bP (gLoadF Q 55 (nth undef T42 6) G43) fun x45 =>
  some (.tuple #[x45, (nth undef T42 7), (nth undef T42 8)], G43)) (none)))) (
  bP (gLoadF Q 55 x6 G7) fun x46 =>
  bP (gStore Q 55 x4 x46 G7) fun G47 =>
  bP (gLoadF Q 55 x4 G47) fun x48 =>
  some (.tuple #[x48, (.func (.func 64) #[] #[x0]), (.bool true)], G47))) (
  bP (gLoadF Q 55 x6 G7) fun x49 =>
  bP (gStore Q 55 x4 x49 G7) fun G50 =>
  bP (gLoadF Q 55 x4 G50) fun x51 =>
  some (.tuple #[x51, (.func (.func 60) #[] #[x0]), (.bool false)], G50))))
theorem c55 (orc : FuncId → Bool) (v0 v1 v2 : Value) (G : GS) {r : Value × GS} (h : s55 orc v0 v1 v2 G = some r) : (E orc).cl 55 [v0, v1, v2] G = some r :=
  cl_sxE_some Q orc (vs := [v0, v1, v2]) G Try.func55 (by kernel_rfl) (by kernel_rfl) (by kernel_rfl) (by kernel_rfl) (by kernel_rfl) h
noncomputable def g55_0 (orc : FuncId → Bool) (T : List Value) (G : GS) : Option (Exit × List Value × GS) :=
  bP (gBuild Q 55 [(0, (.int .i64 15))]) fun x0 =>
  bP (gStore Q 55 (nth undef T 6) x0 G) fun G1 =>
  some (.ret, [(nth undef T 0), (nth undef T 1), (nth undef T 2), (nth undef T 3), (nth undef T 4), (nth undef T 5), (nth undef T 6), (nth undef T 9), (.bool true), (nth undef T 9), (nth undef T 10), (nth undef T 11), (nth undef T 12), (nth undef T 13), (nth undef T 14), (nth undef T 15), (nth undef T 16), (nth undef T 17), (nth undef T 18), (nth undef T 19), (nth undef T 20), (nth undef T 21), (nth undef T 22), (nth undef T 23), (nth undef T 24), (nth undef T 25), (nth undef T 26), (nth undef T 27), (nth undef T 28), (nth undef T 29), (nth undef T 30), (nth undef T 31), (nth undef T 32), (nth undef T 33), (nth undef T 34), (nth undef T 35), (nth undef T 36), (nth undef T 37), (nth undef T 38), (nth undef T 39), (nth undef T 40), (nth undef T 41), (nth undef T 42), x0, (nth undef T 9)], G1)
theorem j55_0 (orc : FuncId → Bool) (T : List Value) (G : GS) (hT : T.length = 45) {r : Exit × List Value × GS} (h : g55_0 orc T G = some r) : (E orc).sc (subAt [1, 0] (bodyOf Try.f55)) (labelAt 0 (subAt [1, 0] (bodyOf Try.f55))) T G = some r :=
  sc_sxE Q orc G hT (by kernel_rfl) h
/-- coxswain/fifo.queue -/
noncomputable def s56 (orc : FuncId → Bool) (v0 : Value) (G : GS) : Option (Value × GS) :=
  bS (mAlloc Q 91 G) fun x0 G1 =>
  bS (mAlloc Q 91 G1) fun x2 G3 =>
  bP (gFieldAddr Q 91 x2 0) fun x4 =>
  bP (gSlice Q 89 x4 none none none G3) fun x5 =>
  bS (gCopy Q 50 x5 v0 G3) fun x6 G7 =>
  bP (gFieldAddr Q 91 x2 2) fun x8 =>
  bP (gStore Q 3 x8 x6 G7) fun G9 =>
  bP (gLoadF Q 91 x2 G9) fun x10 =>
  bP (gStore Q 91 x0 x10 G9) fun G11 =>
  bP (gLoadF Q 91 x0 G11) fun x12 =>
  some (x12, G11)
theorem c56 (orc : FuncId → Bool) (v0 : Value) (G : GS) : (E orc).cl 56 [v0] G = s56 orc v0 G :=
  cl_sxE Q orc (vs := [v0]) G Try.func56 (by kernel_rfl) (by kernel_rfl) (by kernel_rfl) (by kernel_rfl) (by kernel_rfl) (by kernel_rfl)
/-- coxswain/coxswainref06.does -/
noncomputable def s57 (orc : FuncId → Bool) (v0 v1 v2 : Value) (G : GS) : Option (Value × GS) :=
  bS (mBox v2 G) fun x0 G1 =>
  bS (mAlloc Q 55 G1) fun x2 G3 =>
  bS ((E orc).cl 34 [v1] G3) fun x4 G5 =>
  bS ((E orc).cl 41 [v0, v1] G5) fun x6 G7 =>
  bP (gBinF Q .neq 32 (.tmp 15) (.const (.int .i64 0)) x6 (.int .i64 0)) fun x8 =>
  bS (gd x8 false (bP (gFieldAddr Q 53 x0 0) fun y => some (y, G7)) G7) fun x9 G10 =>
  bS (gd x8 false (bP (gLoadF Q 3 x9 G10) fun y => some (y, G10)) G10) fun x11 G12 =>
  bS (gd x8 false (bP (gBinF Q .lss 3 (.tmp 19) (.const (.int .i64 1)) x11 (.int .i64 1)) fun y => some (y, G12)) G12) fun x13 G14 =>
  bP (pickV x8 (.bool true) x13) fun x15 =>
  bS (gd x15 false (bP (gFieldAddr Q 53 x0 0) fun y => some (y, G14)) G14) fun x16 G17 =>
  bS (gd x15 false (bP (gLoadF Q 3 x16 G17) fun y => some (y, G17)) G17) fun x18 G19 =>
  bS (gd x15 false (bP (gBinF Q .gtr 3 (.tmp 24) (.const (.int .i64 3)) x18 (.int .i64 3)) fun y => some (y, G19)) G19) fun x20 G21 =>
  bP (pickV x15 (.bool true) x20) fun x22 =>
  ifV x22 (
  bP (gBuild Q 55 []) fun x23 =>
  bP (gStore Q 55 x2 x23 G21) fun G24 =>
  bP (gLoadF Q 55 x2 G24) fun x25 =>
  some (.tuple #[x25, (.slice none 0 0), (.bool false)], G24)) (
  bP (gFieldAddr Q 53 x0 0) fun x26 =>
  bP (gLoadF Q 3 x26 G21) fun x27 =>
  bP (gBinF Q .eql 3 (.tmp 30) (.const (.int .i64 1)) x27 (.int .i64 1)) fun x28 =>
  bS (gd x28 true (some (v1, G21)) G21) fun x29 G30 =>
  bS (gd x28 true (bP (gLen Q 50 x29) fun y => some (y, G30)) G30) fun x31 G32 =>
  bS (gd x28 true (some (v0, G32)) G32) fun x33 G34 =>
  bS (gd x28 true (bP (gBinF Q .eql 3 (.tmp 34) (.tmp 35) x31 x33) fun y => some (y, G34)) G34) fun x35 G36 =>
  bP (pickV x28 x35 (.bool false)) fun x37 =>
  ifV x37 (
  bP (gBuild Q 55 [(0, (.int .i64 7))]) fun x38 =>
  bP (gStore Q 55 x2 x38 G36) fun G39 =>
  bP (gLoadF Q 55 x2 G39) fun x40 =>
  some (.tuple #[x40, x4, (.bool true)], G39)) (
  bP (gFieldAddr Q 53 x0 0) fun x41 =>
  bP (gLoadF Q 3 x41 G36) fun x42 =>
  bP (gBinF Q .eql 3 (.tmp 42) (.const (.int .i64 1)) x42 (.int .i64 1)) fun x43 =>
  ifV x43 (
  bP (gBuild Q 55 []) fun x44 =>
  bP (gFieldAddr Q 53 x0 3) fun x45 =>
  bP (gLoadF Q 51 x45 G36) fun x46 =>
  bS (mBuildV Q 50 1 [(0, x46)] G36) fun x47 G48 =>
  bS (gAppend Q 50 50 x4 x47 G48) fun x49 G50 =>
  bP (gStore Q 55 x2 x44 G50) fun G51 =>
  bP (gLoadF Q 55 x2 G51) fun x52 =>
  some (.tuple #[x52, x49, (.bool true)], G51)) (
  bP (gLen Q 50 v1) fun x53 =>
  bP (gBinF Q .eql 3 (.tmp 52) (.const (.int .i64 0)) x53 (.int .i64 0)) fun x54 =>
  ifV x54 (
  bP (gBuild Q 55 [(0, (.int .i64 15))]) fun x55 =>
  bP (gStore Q 55 x2 x55 G36) fun G56 =>
  bP (gLoadF Q 55 x2 G56) fun x57 =>
  some (.tuple #[x57, x4, (.bool true)], G56)) (
  bP (gFieldAddr Q 53 x0 0) fun x58 =>
  bP (gLoadF Q 3 x58 G36) fun x59 =>
  bP (gBinF Q .eql 3 (.tmp 58) (.const (.int .i64 2)) x59 (.int .i64 2)) fun x60 =>
  ifV x60 (
  bP (gIndexAddr Q 50 v1 (.int .i64 0)) fun x61 =>
  bP (gLoadF Q 51 x61 G36) fun x62 =>
  bP (gBuild Q 55 [(2, x62)]) fun x63 =>
  bP (gStore Q 55 x2 x63 G36) fun G64 =>
  bP (gLoadF Q 55 x2 G64) fun x65 =>
  some (.tuple #[x65, x4, (.bool true)], G64)) (
  bP (gBuild Q 55 []) fun x66 =>
  bP (gSlice Q 50 x4 (some (.int .i64 1)) none none (G36.room 6)) fun x67 =>
  bP (gStore Q 55 x2 x66 (G36.room 6)) fun G68 =>
  chk ((sameO (gSlice Q 50 x4 (some (.int .i64 1)) none none G68) x67 && true)) <|
  bP (gLoadF Q 55 x2 G68) fun x69 =>
  some (.tuple #[x69, x67, (.bool true)], G68))))))
theorem c57 (orc : FuncId → Bool) (v0 v1 v2 : Value) (G : GS) : (E orc).cl 57 [v0, v1, v2] G = s57 orc v0 v1 v2 G :=
  cl_sxE Q orc (vs := [v0, v1, v2]) G Try.func57 (by kernel_rfl) (by kernel_rfl) (by kernel_rfl) (by kernel_rfl) (by kernel_rfl) (by kernel_rfl)
/-- (coxswain/fifo.ring[uint64]).list -/
noncomputable def s58 (orc : FuncId → Bool) (v0 : Value) (G : GS) : Option (Value × GS) :=
  bS (mBox v0 G) fun x0 G1 =>
  bP (gFieldAddr Q 91 x0 2) fun x2 =>
  bP (gLoadF Q 3 x2 G1) fun x3 =>
  bX ((E orc).lp (subAt [1, 1, 0, 1, 0, 0] (bodyOf Try.f58)) [v0, x0, (.slice none 0 0), (.slice none 0 0), undef, x2, x3, (.int .i64 0), undef, undef, undef, undef, undef, undef, undef, undef, undef, undef, undef, undef, undef, undef, undef] G1) fun e4 T5 G6 =>
  ifE e4 (.exit 0) (
  some ((nth undef T5 3), G6)) (none)
theorem c58 (orc : FuncId → Bool) (v0 : Value) (G : GS) {r : Value × GS} (h : s58 orc v0 G = some r) : (E orc).cl 58 [v0] G = some r :=
  cl_sxE_some Q orc (vs := [v0]) G Try.func58 (by kernel_rfl) (by kernel_rfl) (by kernel_rfl) (by kernel_rfl) (by kernel_rfl) h
noncomputable def b58_0 (orc : FuncId → Bool) (T : List Value) (G : GS) : Option (Exit × List Value × GS) :=
  bP (gBinF Q .lss 3 (.tmp 7) (.tmp 6) (nth undef T 7) (nth undef T 6)) fun x0 =>
  ifV x0 (
  bP (gFieldAddr Q 91 (nth undef T 1) 1) fun x1 =>
  bP (gLoadF Q 3 x1 G) fun x2 =>
  bP (gBinF Q .add 3 (.tmp 12) (.tmp 13) x2 (nth undef T 7)) fun x3 =>
  bP (gBinF Q .rem 3 (.tmp 14) (.const (.int .i64 1024)) x3 (.int .i64 1024)) fun x4 =>
  bP (gFieldAddr Q 91 (nth undef T 1) 0) fun x5 =>
  bP (gIndexAddr Q 89 x5 x4) fun x6 =>
  bP (gLoadF Q 51 x6 G) fun x7 =>
  bS (mBuildV Q 50 1 [(0, x7)] G) fun x8 G9 =>
  bS (gAppend Q 50 50 (nth undef T 3) x8 G9) fun x10 G11 =>
  bP (gBinF Q .add 3 (.tmp 7) (.const (.int .i64 1)) (nth undef T 7) (.int .i64 1)) fun x12 =>
  (E orc).lp (subAt [1, 1, 0, 1, 0, 0] (bodyOf Try.f58)) [(nth undef T 0), (nth undef T 1), (nth undef T 2), x10, (nth undef T 7), (nth undef T 5), (nth undef T 6), x12, x0, (nth undef T 7), (nth undef T 3), x1, x2, (nth undef T 7), x3, x4, x5, x6, x7, x8, x10, x12, (nth undef T 22)] G11) (
  some ((.exit 0), [(nth undef T 0), (nth undef T 1), (nth undef T 2), (nth undef T 3), (nth undef T 4), (nth undef T 5), (nth undef T 6), (nth undef T 7), x0, (nth undef T 9), (nth undef T 10), (nth undef T 11), (nth undef T 12), (nth undef T 13), (nth undef T 14), (nth undef T 15), (nth undef T 16), (nth undef T 17), (nth undef T 18), (nth undef T 19), (nth undef T 20), (nth undef T 21), (nth undef T 22)], G))
theorem l58_0 (orc : FuncId → Bool) (T : List Value) (G : GS) (hT : T.length = 23) {r : Exit × List Value × GS} (h : b58_0 orc T G = some r) : (E orc).lp (subAt [1, 1, 0, 1, 0, 0] (bodyOf Try.f58)) T G = some r :=
  lp_sxE Q orc G hT (by kernel_rfl) h
/-- (*coxswain/draw.Draws).rest$1 -/
noncomputable def s59 (orc : FuncId → Bool) (v0 v1 : Value) (G : GS) : Option (Value × GS) :=
  bX ((E orc).lp (subAt [0, 0] (bodyOf Try.f59)) [v0, v1, undef, undef, undef, undef, undef, undef, undef, undef, undef, undef, undef, undef, undef, undef, undef, undef, undef, undef, undef, undef, undef, undef, undef, undef, undef, undef, undef, undef, undef, undef, undef, undef, undef, undef, undef, undef, undef, undef, undef, undef, undef, undef, undef, undef, undef, undef, undef] G) fun e0 T1 G2 =>
  ifE e0 (.exit 0) (
  some (.tuple #[], G2)) (ifE e0 .ret (
  some (.tuple #[], G2)) (none))
theorem c59 (orc : FuncId → Bool) (v0 v1 : Value) (G : GS) {r : Value × GS} (h : s59 orc v0 v1 G = some r) : (E orc).cl 59 [v0, v1] G = some r :=
  cl_sxE_some Q orc (vs := [v0, v1]) G Try.func59 (by kernel_rfl) (by kernel_rfl) (by kernel_rfl) (by kernel_rfl) (by kernel_rfl) h
noncomputable def b59_0 (orc : FuncId → Bool) (T : List Value) (G : GS) : Option (Exit × List Value × GS) :=
  bP (gLoadF Q 31 (nth undef T 1) (G.room 16)) fun x0 =>
  bP (pNil x0) fun x1 =>
  bP (gFieldAddr Q 46 x1 0) fun x2 =>
  bP (gLoadF Q 44 x2 (G.room 16)) fun x3 =>
  bP (pNil x3) fun x4 =>
  bP (gFieldAddr Q 79 x4 1) fun x5 =>
  bP (gLoadF Q 3 x5 (G.room 16)) fun x6 =>
  bP (gLoadF Q 31 (nth undef T 1) (G.room 16)) fun x7 =>
  bP (pNil x7) fun x8 =>
  bP (gFieldAddr Q 46 x8 0) fun x9 =>
  bP (gLoadF Q 44 x9 (G.room 16)) fun x10 =>
  bP (pNil x10) fun x11 =>
  bP (gFieldAddr Q 79 x11 0) fun x12 =>
  bP (gLoadF Q 22 x12 (G.room 16)) fun x13 =>
  bP (gLen Q 22 x13) fun x14 =>
  bP (gBinF Q .lss 3 (.tmp 9) (.tmp 17) x6 x14) fun x15 =>
  ifV x15 (
  bP (gLoadF Q 31 (nth undef T 1) (G.room 16)) fun x16 =>
  bP (pNil x16) fun x17 =>
  bP (gFieldAddr Q 46 x17 0) fun x18 =>
  bP (gLoadF Q 44 x18 (G.room 16)) fun x19 =>
  bP (pNil x19) fun x20 =>
  bP (gFieldAddr Q 79 x20 1) fun x21 =>
  bP (gLoadF Q 3 x21 (G.room 16)) fun x22 =>
  bP (gBinF Q .add 3 (.tmp 25) (.const (.int .i64 1)) x22 (.int .i64 1)) fun x23 =>
  bP (pNil x19) fun x24 =>
  bP (gFieldAddr Q 79 x24 1) fun x25 =>
  bP (gStore Q 3 x25 x23 (G.room 16)) fun G26 =>
  bP (gLoadF Q 31 (nth undef T 1) (G26.room 20)) fun x27 =>
  bP (pNil x27) fun x28 =>
  bP (gFieldAddr Q 46 x28 0) fun x29 =>
  bP (gLoadF Q 44 x29 (G26.room 20)) fun x30 =>
  bP (pNil x30) fun x31 =>
  bP (gFieldAddr Q 79 x31 0) fun x32 =>
  bP (gLoadF Q 22 x32 (G26.room 20)) fun x33 =>
  bP (gLoadF Q 31 (nth undef T 1) (G26.room 20)) fun x34 =>
  bP (pNil x34) fun x35 =>
  bP (gFieldAddr Q 46 x35 0) fun x36 =>
  bP (gLoadF Q 44 x36 (G26.room 20)) fun x37 =>
  bP (pNil x37) fun x38 =>
  bP (gFieldAddr Q 79 x38 1) fun x39 =>
  bP (gLoadF Q 3 x39 (G26.room 20)) fun x40 =>
  bP (gBinF Q .sub 3 (.tmp 43) (.const (.int .i64 1)) x40 (.int .i64 1)) fun x41 =>
  bP (gIndexAddr Q 22 x33 x41) fun x42 =>
  bP (gLoadF Q 3 x42 (G26.room 20)) fun x43 =>
  bS (cValue (E orc) (nth undef T 0) [x43] (G26.room 20)) fun x45 G44 =>
  bP (pUn Q .not x45) fun x46 =>
  ifV x46 (
  some (.ret, [(nth undef T 0), (nth undef T 1), (nth undef T 2), x0, x1, x2, x3, x4, x5, x6, x7, x8, x9, x10, x11, x12, x13, x14, x15, x16, x17, x18, x19, x20, x21, x22, x23, x24, x25, (nth undef T 0), x27, x28, x29, x30, x31, x32, x33, x34, x35, x36, x37, x38, x39, x40, x41, x42, x43, x45, x46], G44)) (
  (E orc).lp (subAt [0, 0] (bodyOf Try.f59)) [(nth undef T 0), (nth undef T 1), (nth undef T 2), x0, x1, x2, x3, x4, x5, x6, x7, x8, x9, x10, x11, x12, x13, x14, x15, x16, x17, x18, x19, x20, x21, x22, x23, x24, x25, (nth undef T 0), x27, x28, x29, x30, x31, x32, x33, x34, x35, x36, x37, x38, x39, x40, x41, x42, x43, x45, x46] G44)) (
  some ((.exit 0), [(nth undef T 0), (nth undef T 1), (nth undef T 2), x0, x1, x2, x3, x4, x5, x6, x7, x8, x9, x10, x11, x12, x13, x14, x15, (nth undef T 19), (nth undef T 20), (nth undef T 21), (nth undef T 22), (nth undef T 23), (nth undef T 24), (nth undef T 25), (nth undef T 26), (nth undef T 27), (nth undef T 28), (nth undef T 29), (nth undef T 30), (nth undef T 31), (nth undef T 32), (nth undef T 33), (nth undef T 34), (nth undef T 35), (nth undef T 36), (nth undef T 37), (nth undef T 38), (nth undef T 39), (nth undef T 40), (nth undef T 41), (nth undef T 42), (nth undef T 43), (nth undef T 44), (nth undef T 45), (nth undef T 46), (nth undef T 47), (nth undef T 48)], (G.room 16)))
theorem l59_0 (orc : FuncId → Bool) (T : List Value) (G : GS) (hT : T.length = 49) {r : Exit × List Value × GS} (h : b59_0 orc T G = some r) : (E orc).lp (subAt [0, 0] (bodyOf Try.f59)) T G = some r :=
  lp_sxE Q orc G hT (by kernel_rfl) h
/-- coxswain/fifo.does$1 -/
noncomputable def s60 (orc : FuncId → Bool) (v0 : Value) (G : GS) : Option (Value × GS) :=
  bS (mAlloc Q 91 G) fun x0 G1 =>
  bP (gLoadF Q 91 v0 G1) fun x2 =>
  bP (gStore Q 91 x0 x2 G1) fun G3 =>
  bP (gLoadF Q 91 x0 G3) fun x4 =>
  some (x4, G3)
theorem c60 (orc : FuncId → Bool) (v0 : Value) (G : GS) : (E orc).cl 60 [v0] G = s60 orc v0 G :=
  cl_sxE Q orc (vs := [v0]) G Try.func60 (by kernel_rfl) (by kernel_rfl) (by kernel_rfl) (by kernel_rfl) (by kernel_rfl) (by kernel_rfl)
/-- coxswain/fifo.does$2 -/
noncomputable def s61 (orc : FuncId → Bool) (v0 v1 : Value) (G : GS) : Option (Value × GS) :=
  bS (mAlloc Q 91 G) fun x0 G1 =>
  bP (gLoadF Q 91 v0 G1) fun x2 =>
  bP (gFieldAddr Q 53 v1 3) fun x3 =>
  bP (gLoadF Q 51 x3 G1) fun x4 =>
  bS ((E orc).cl 62 [x2, x4] G1) fun x5 G6 =>
  bP (gStore Q 91 x0 x5 G6) fun G7 =>
  bP (gLoadF Q 91 x0 G7) fun x8 =>
  some (x8, G7)
theorem c61 (orc : FuncId → Bool) (v0 v1 : Value) (G : GS) : (E orc).cl 61 [v0, v1] G = s61 orc v0 v1 G :=
  cl_sxE Q orc (vs := [v0, v1]) G Try.func61 (by kernel_rfl) (by kernel_rfl) (by kernel_rfl) (by kernel_rfl) (by kernel_rfl) (by kernel_rfl)
/-- (coxswain/fifo.ring[uint64]).push -/
noncomputable def s62 (orc : FuncId → Bool) (v0 v1 : Value) (G : GS) : Option (Value × GS) :=
  bS (mBox v0 G) fun x0 G1 =>
  bS (mAlloc Q 91 G1) fun x2 G3 =>
  bP (gFieldAddr Q 91 x0 1) fun x4 =>
  bP (gLoadF Q 3 x4 G3) fun x5 =>
  bP (gFieldAddr Q 91 x0 2) fun x6 =>
  bP (gLoadF Q 3 x6 G3) fun x7 =>
  bP (gBinF Q .add 3 (.tmp 6) (.tmp 8) x5 x7) fun x8 =>
  bP (gBinF Q .rem 3 (.tmp 9) (.const (.int .i64 1024)) x8 (.int .i64 1024)) fun x9 =>
  bP (gFieldAddr Q 91 x0 0) fun x10 =>
  bP (gIndexAddr Q 89 x10 x9) fun x11 =>
  bP (gStore Q 51 x11 v1 G3) fun G12 =>
  bP (gFieldAddr Q 91 x0 2) fun x13 =>
  bP (gLoadF Q 3 x13 G12) fun x14 =>
  bP (gBinF Q .add 3 (.tmp 15) (.const (.int .i64 1)) x14 (.int .i64 1)) fun x15 =>
  bP (gFieldAddr Q 91 x0 2) fun x16 =>
  bP (gStore Q 3 x16 x15 G12) fun G17 =>
  bP (gLoadF Q 91 x0 G17) fun x18 =>
  bP (gStore Q 91 x2 x18 G17) fun G19 =>
  bP (gLoadF Q 91 x2 G19) fun x20 =>
  some (x20, G19)
theorem c62 (orc : FuncId → Bool) (v0 v1 : Value) (G : GS) : (E orc).cl 62 [v0, v1] G = s62 orc v0 v1 G :=
  cl_sxE Q orc (vs := [v0, v1]) G Try.func62 (by kernel_rfl) (by kernel_rfl) (by kernel_rfl) (by kernel_rfl) (by kernel_rfl) (by kernel_rfl)
/-- (coxswain/fifo.ring[uint64]).front -/
noncomputable def s63 (orc : FuncId → Bool) (v0 : Value) (G : GS) : Option (Value × GS) :=
  bS (mBox v0 G) fun x0 G1 =>
  bP (gFieldAddr Q 91 x0 1) fun x2 =>
  bP (gLoadF Q 3 x2 G1) fun x3 =>
  bP (gFieldAddr Q 91 x0 0) fun x4 =>
  bP (gIndexAddr Q 89 x4 x3) fun x5 =>
  bP (gLoadF Q 51 x5 G1) fun x6 =>
  some (x6, G1)
theorem c63 (orc : FuncId → Bool) (v0 : Value) (G : GS) : (E orc).cl 63 [v0] G = s63 orc v0 G :=
  cl_sxE Q orc (vs := [v0]) G Try.func63 (by kernel_rfl) (by kernel_rfl) (by kernel_rfl) (by kernel_rfl) (by kernel_rfl) (by kernel_rfl)
/-- coxswain/fifo.does$3 -/
noncomputable def s64 (orc : FuncId → Bool) (v0 : Value) (G : GS) : Option (Value × GS) :=
  bS (mAlloc Q 91 G) fun x0 G1 =>
  bP (gLoadF Q 91 v0 G1) fun x2 =>
  bS ((E orc).cl 65 [x2] G1) fun x3 G4 =>
  bP (gStore Q 91 x0 x3 G4) fun G5 =>
  bP (gLoadF Q 91 x0 G5) fun x6 =>
  some (x6, G5)
theorem c64 (orc : FuncId → Bool) (v0 : Value) (G : GS) : (E orc).cl 64 [v0] G = s64 orc v0 G :=
  cl_sxE Q orc (vs := [v0]) G Try.func64 (by kernel_rfl) (by kernel_rfl) (by kernel_rfl) (by kernel_rfl) (by kernel_rfl) (by kernel_rfl)
/-- (coxswain/fifo.ring[uint64]).drop -/
noncomputable def s65 (orc : FuncId → Bool) (v0 : Value) (G : GS) : Option (Value × GS) :=
  bS (mBox v0 G) fun x0 G1 =>
  bS (mAlloc Q 91 G1) fun x2 G3 =>
  bP (gFieldAddr Q 91 x0 1) fun x4 =>
  bP (gLoadF Q 3 x4 G3) fun x5 =>
  bP (gBinF Q .add 3 (.tmp 4) (.const (.int .i64 1)) x5 (.int .i64 1)) fun x6 =>
  bP (gBinF Q .rem 3 (.tmp 5) (.const (.int .i64 1024)) x6 (.int .i64 1024)) fun x7 =>
  bP (gFieldAddr Q 91 x0 1) fun x8 =>
  bP (gStore Q 3 x8 x7 G3) fun G9 =>
  bP (gFieldAddr Q 91 x0 2) fun x10 =>
  bP (gLoadF Q 3 x10 G9) fun x11 =>
  bP (gBinF Q .sub 3 (.tmp 9) (.const (.int .i64 1)) x11 (.int .i64 1)) fun x12 =>
  bP (gFieldAddr Q 91 x0 2) fun x13 =>
  bP (gStore Q 3 x13 x12 G9) fun G14 =>
  bP (gLoadF Q 91 x0 G14) fun x15 =>
  bP (gStore Q 91 x2 x15 G14) fun G16 =>
  bP (gLoadF Q 91 x2 G16) fun x17 =>
  some (x17, G16)
theorem c65 (orc : FuncId → Bool) (v0 : Value) (G : GS) : (E orc).cl 65 [v0] G = s65 orc v0 G :=
  cl_sxE Q orc (vs := [v0]) G Try.func65 (by kernel_rfl) (by kernel_rfl) (by kernel_rfl) (by kernel_rfl) (by kernel_rfl) (by kernel_rfl)
end Go.Proofs.Ytchempegmbidoaa.Lift
