import Derived.Test.YtaanpcoglijohaaGreatProg
import Derived.Test.YtaanpcoglijohaaGreatGhPJ
import Derived.Test.YtaanpcoglijohaaGreatGhPG
import Derived.KernelRfl
namespace Go.Proofs.YtaanpcoglijohaaGreat.Lift
open Go Go.Proofs.YtaanpcoglijohaaGreat.Gh Go.Proofs
set_option linter.unusedVariables false
set_option maxRecDepth 100000
@[reducible] noncomputable def Q:Program:=Tryz.prog
@[reducible] noncomputable def E (orc:FuncId → Bool):Ev:=evL Tryz.prog orc
instance ilp4_0:LpIs Q 4 0 (subAt [1,1,1,1,1,0,1,0,0] (bodyOf Tryz.f4)) 186:=⟨by kernel_rfl,by kernel_rfl⟩
instance ilp29_0:LpIs Q 29 0 (subAt [1,1,0,1,0,0] (bodyOf Tryz.f29)) 31:=⟨by kernel_rfl,by kernel_rfl⟩
instance ilp30_0:LpIs Q 30 0 (subAt [1,1,1,0,1,0,0] (bodyOf Tryz.f30)) 42:=⟨by kernel_rfl,by kernel_rfl⟩
instance ilp35_0:LpIs Q 35 0 (subAt [1,1,1,1,1,1,0,1,0,0] (bodyOf Tryz.f35)) 61:=⟨by kernel_rfl,by kernel_rfl⟩
instance ilp75_0:LpIs Q 75 0 (subAt [1,0,1,0,0] (bodyOf Tryz.f75)) 35:=⟨by kernel_rfl,by kernel_rfl⟩
instance ilp76_0:LpIs Q 76 0 (subAt [1,1,0,1,0,0] (bodyOf Tryz.f76)) 37:=⟨by kernel_rfl,by kernel_rfl⟩
instance ilp77_0:LpIs Q 77 0 (subAt [1,1,0,1,0,0] (bodyOf Tryz.f77)) 40:=⟨by kernel_rfl,by kernel_rfl⟩
instance ilp77_1:LpIs Q 77 1 (subAt [1,1,1,0,1,0,0] (bodyOf Tryz.f77)) 40:=⟨by kernel_rfl,by kernel_rfl⟩
instance ilp84_0:LpIs Q 84 0 (subAt [1,1,1,1,0,0] (bodyOf Tryz.f84)) 24:=⟨by kernel_rfl,by kernel_rfl⟩
instance ilp85_0:LpIs Q 85 0 (subAt [1,1,1,1,0,0] (bodyOf Tryz.f85)) 24:=⟨by kernel_rfl,by kernel_rfl⟩
instance ilp90_0:LpIs Q 90 0 (subAt [1,0,1,1,0,0,0] (bodyOf Tryz.f90)) 162:=⟨by kernel_rfl,by kernel_rfl⟩
instance ilp135_0:LpIs Q 135 0 (subAt [1,0,1,0,0] (bodyOf Tryz.f135)) 18:=⟨by kernel_rfl,by kernel_rfl⟩
instance ilp136_0:LpIs Q 136 0 (subAt [1,1,0,1,0,0] (bodyOf Tryz.f136)) 31:=⟨by kernel_rfl,by kernel_rfl⟩
instance ilp140_0:LpIs Q 140 0 (subAt [1,1,1,1,0,0] (bodyOf Tryz.f140)) 23:=⟨by kernel_rfl,by kernel_rfl⟩
instance ilp141_0:LpIs Q 141 0 (subAt [1,1,1,1,0,0] (bodyOf Tryz.f141)) 23:=⟨by kernel_rfl,by kernel_rfl⟩
instance ilp182_0:LpIs Q 182 0 (subAt [1,1,1,1,1,0,0] (bodyOf Tryz.f182)) 29:=⟨by kernel_rfl,by kernel_rfl⟩
instance ilp185_0:LpIs Q 185 0 (subAt [1,1,1,1,1,0,0] (bodyOf Tryz.f185)) 36:=⟨by kernel_rfl,by kernel_rfl⟩
instance ilp186_0:LpIs Q 186 0 (subAt [1,1,1,1,0,0] (bodyOf Tryz.f186)) 25:=⟨by kernel_rfl,by kernel_rfl⟩
instance ilp206_0:LpIs Q 206 0 (subAt [1,0,1,1,1,1,1,0,0,0] (bodyOf Tryz.f206)) 195:=⟨by kernel_rfl,by kernel_rfl⟩
instance ilp223_0:LpIs Q 223 0 (subAt [1,1,1,1,0,0] (bodyOf Tryz.f223)) 34:=⟨by kernel_rfl,by kernel_rfl⟩
instance ilp226_0:LpIs Q 226 0 (subAt [1,1,1,0,1,0,0] (bodyOf Tryz.f226)) 41:=⟨by kernel_rfl,by kernel_rfl⟩
instance ilp255_0:LpIs Q 255 0 (subAt [1,0,0] (bodyOf Tryz.f255)) 18:=⟨by kernel_rfl,by kernel_rfl⟩
instance ilp263_0:LpIs Q 263 0 (subAt [1,1,0,0] (bodyOf Tryz.f263)) 25:=⟨by kernel_rfl,by kernel_rfl⟩
instance ilp267_0:LpIs Q 267 0 (subAt [1,0,1,0,0] (bodyOf Tryz.f267)) 24:=⟨by kernel_rfl,by kernel_rfl⟩
instance ilp268_0:LpIs Q 268 0 (subAt [1,1,0,1,0,0] (bodyOf Tryz.f268)) 24:=⟨by kernel_rfl,by kernel_rfl⟩
instance ilda75:LdAOk Q 75 13:=⟨fun b o s G=>by kernel_rfl⟩
instance ifa75_3:FaOk Q 75 3 3:=⟨fun b o s=>by kernel_rfl⟩
instance ifa73_0:FaOk Q 73 0 0:=⟨fun b o s=>by kernel_rfl⟩
instance ifa69_0:FaOk Q 69 0 0:=⟨fun b o s=>by kernel_rfl⟩
instance ifa67_2:FaOk Q 67 2 2:=⟨fun b o s=>by kernel_rfl⟩
instance ild3:LdOk Q 3:=⟨fun b o s G=>(show _ = loadOne b o G by kernel_rfl).trans (loadOne_eq b o G)⟩
instance iln24:LnOk Q 24:=⟨fun a n c=>by kernel_rfl⟩
instance iln76:LnOk Q 76:=⟨fun a n c=>by kernel_rfl⟩
instance iep30:EpOk Q 30:=⟨fun neg x y=>by cases neg <;> kernel_rfl,fun neg x y a=>by cases neg <;> kernel_rfl,fun neg x y a=>by cases neg <;> kernel_rfl⟩
noncomputable abbrev z89:List Value:=[(.pointer none),(.pointer none),(.pointer none)]
instance imk80:MkSlOk Q 80 3 24 z89:=⟨fun k k' l c G=>by kernel_rfl⟩
instance iias76:IasOk Q 76 4:=⟨fun b o s n c k j=>by kernel_rfl⟩
instance ifa82_0:FaOk Q 82 0 0:=⟨fun b o s=>by kernel_rfl⟩
instance ifa82_1:FaOk Q 82 1 1:=⟨fun b o s=>by kernel_rfl⟩
instance ibd89_0_2:BdOk Q 89 z89 [(0,0,1),(2,2,1)]:=bd_ok Q (by kernel_rfl) (by kernel_rfl) (by kernel_rfl)
instance iias80:IasOk Q 80 3:=⟨fun b o s n c k j=>by kernel_rfl⟩
instance ist89:StOk Q 89 3:=⟨fun b o s v G=>by kernel_rfl⟩
instance ifa98_0:FaOk Q 98 0 0:=⟨fun b o s=>by kernel_rfl⟩
instance ibd89_1_2:BdOk Q 89 z89 [(1,1,1),(2,2,1)]:=bd_ok Q (by kernel_rfl) (by kernel_rfl) (by kernel_rfl)
instance ifa82_2:FaOk Q 82 2 2:=⟨fun b o s=>by kernel_rfl⟩
instance ifa82_3:FaOk Q 82 3 3:=⟨fun b o s=>by kernel_rfl⟩
instance ild39:LdOk Q 39:=⟨fun b o s G=>(show _ = loadOne b o G by kernel_rfl).trans (loadOne_eq b o G)⟩
instance ifa89_2:FaOk Q 89 2 2:=⟨fun b o s=>by kernel_rfl⟩
instance ild85:LdOk Q 85:=⟨fun b o s G=>(show _ = loadOne b o G by kernel_rfl).trans (loadOne_eq b o G)⟩
instance iep85:EpOk Q 85:=⟨fun neg x y=>by cases neg <;> kernel_rfl,fun neg x y a=>by cases neg <;> kernel_rfl,fun neg x y a=>by cases neg <;> kernel_rfl⟩
instance ilda89:LdAOk Q 89 3:=⟨fun b o s G=>by kernel_rfl⟩
noncomputable abbrev z110:List Value:=(zs 4096 (.int .u64 0))
instance ial110:AlOk Q 110 z110:=⟨fun G=>by kernel_rfl⟩
noncomputable abbrev z112:List Value:=[(.pointer none),(.int .i64 0),(.int .i64 0),(.int .i64 0),(.int .u64 0),(.int .u64 0),(.bool false),(.int .i64 0)]
instance ibd112_0_1:BdOk Q 112 z112 [(0,0,1),(1,1,1)]:=bd_ok Q (by kernel_rfl) (by kernel_rfl) (by kernel_rfl)
noncomputable abbrev z39:List Value:=[(.int .u64 0)]
instance imk24:MkSlOk Q 24 1 8 z39:=⟨fun k k' l c G=>by kernel_rfl⟩
noncomputable abbrev z114:List Value:=[(.slice none 0 0),(.int .i64 0),(.int .i64 0),(.int .u64 0),(.int .u64 0),(.bool false),(.int .i64 0)]
instance ibd114_0:BdOk Q 114 z114 [(0,0,1)]:=bd_ok Q (by kernel_rfl) (by kernel_rfl) (by kernel_rfl)
noncomputable abbrev z126:List Value:=[(.pointer none),(.int .u64 0),(.int .u64 0)]
instance ibd126_0_1:BdOk Q 126 z126 [(0,0,1),(1,1,1)]:=bd_ok Q (by kernel_rfl) (by kernel_rfl) (by kernel_rfl)
instance ial126:AlOk Q 126 z126:=⟨fun G=>by kernel_rfl⟩
instance ist126:StOk Q 126 3:=⟨fun b o s v G=>by kernel_rfl⟩
instance ifa126_0:FaOk Q 126 0 0:=⟨fun b o s=>by kernel_rfl⟩
instance ild123:LdOk Q 123:=⟨fun b o s G=>(show _ = loadOne b o G by kernel_rfl).trans (loadOne_eq b o G)⟩
instance ilda126:LdAOk Q 126 3:=⟨fun b o s G=>by kernel_rfl⟩
noncomputable abbrev z59:List Value:=[(.int .i64 0),(.int .i64 0),(.int .u64 0),(.int .u64 0),(.bool false)]
instance ial59:AlOk Q 59 z59:=⟨fun G=>by kernel_rfl⟩
instance ibd59_:BdOk Q 59 z59 []:=bd_ok Q (by kernel_rfl) (by kernel_rfl) (by kernel_rfl)
instance ist59:StOk Q 59 5:=⟨fun b o s v G=>by kernel_rfl⟩
instance ifa112_2:FaOk Q 112 2 2:=⟨fun b o s=>by kernel_rfl⟩
instance ilda59:LdAOk Q 59 5:=⟨fun b o s G=>by kernel_rfl⟩
instance ifa114_1:FaOk Q 114 1 1:=⟨fun b o s=>by kernel_rfl⟩
instance ifa112_3:FaOk Q 112 3 7:=⟨fun b o s=>by kernel_rfl⟩
instance ifa114_2:FaOk Q 114 2 6:=⟨fun b o s=>by kernel_rfl⟩
instance iias24:IasOk Q 24 1:=⟨fun b o s n c k j=>by kernel_rfl⟩
instance ifa112_0:FaOk Q 112 0 0:=⟨fun b o s=>by kernel_rfl⟩
instance ild107:LdOk Q 107:=⟨fun b o s G=>(show _ = loadOne b o G by kernel_rfl).trans (loadOne_eq b o G)⟩
instance iep107:EpOk Q 107:=⟨fun neg x y=>by cases neg <;> kernel_rfl,fun neg x y a=>by cases neg <;> kernel_rfl,fun neg x y a=>by cases neg <;> kernel_rfl⟩
instance ifa112_1:FaOk Q 112 1 1:=⟨fun b o s=>by kernel_rfl⟩
instance isla110:SlAOk Q 110 4096 1:=⟨fun a lo hi mx G=>by kernel_rfl⟩
instance iln143:LnOk Q 143:=⟨fun a n c=>by kernel_rfl⟩
instance iias143:IasOk Q 143 1:=⟨fun b o s n c k j=>by kernel_rfl⟩
instance ild108:LdOk Q 108:=⟨fun b o s G=>(show _ = loadOne b o G by kernel_rfl).trans (loadOne_eq b o G)⟩
instance ist39:StOk Q 39 1:=⟨fun b o s v G=>by kernel_rfl⟩
instance ifa114_0:FaOk Q 114 0 0:=⟨fun b o s=>by kernel_rfl⟩
instance ild24:LdOk Q 24:=⟨fun b o s G=>(show _ = loadOne b o G by kernel_rfl).trans (loadOne_eq b o G)⟩
instance ilda73:LdAOk Q 73 10:=⟨fun b o s G=>by kernel_rfl⟩
instance iap52_52:ApOk Q 52 52 1 8:=⟨fun s x G=>by kernel_rfl⟩
noncomputable abbrev z92:List Value:=[(.int .u64 0),(.int .i64 0)]
instance ibd92_0_1:BdOk Q 92 z92 [(0,0,1),(1,1,1)]:=bd_ok Q (by kernel_rfl) (by kernel_rfl) (by kernel_rfl)
noncomputable abbrev z3:List Value:=[(.int .i64 0)]
instance ibs52_2_0_1:BsOk Q 52 2 (rep z3 2) 1 [(0,0,1),(1,1,1)]:=bs_ok Q (z0:=z3) (by kernel_rfl) rfl (by decide) (by kernel_rfl)
instance ibs52_1_0:BsOk Q 52 1 (rep z3 1) 1 [(0,0,1)]:=bs_ok Q (z0:=z3) (by kernel_rfl) rfl (by decide) (by kernel_rfl)
noncomputable abbrev z165:List Value:=[(.int .i64 0),(.int .i64 0),(.int .i64 0),(.int .i64 0),(.int .i64 0),(.int .i64 0),(.int .i64 0),(.int .i64 0),(.int .i64 0),(.int .i64 0),(.int .i64 0),(.int .i64 0),(.int .i64 0),(.int .i64 0),(.bool false),(.pointer none),(.pointer none),(.int .i64 0),(.int .u64 0),(.int .i64 0),(.int .u64 0),(.int .u64 0),(.int .i64 0),(.int .u64 0),(.bool false),(.int .i64 0)]
instance ibd165_0:BdOk Q 165 z165 [(0,0,26)]:=bd_ok Q (by kernel_rfl) (by kernel_rfl) (by kernel_rfl)
noncomputable abbrev z96:List Value:=[(.int .i64 0),(.int .i64 0),(.int .i64 0),(.int .i64 0),(.int .i64 0),(.int .i64 0),(.int .i64 0),(.int .i64 0),(.int .i64 0),(.int .i64 0),(.int .i64 0),(.int .i64 0),(.int .i64 0),(.bool false),(.int .i64 0),(.int .u64 0),(.int .u64 0),(.int .i64 0),(.int .i64 0),(.int .u64 0),(.int .i64 0),(.pointer none),(.pointer none),(.bool false),(.int .u64 0),(.int .i64 0)]
instance ibd96_2_12:BdOk Q 96 z96 [(2,14,1),(12,25,1)]:=bd_ok Q (by kernel_rfl) (by kernel_rfl) (by kernel_rfl)
instance ibd96_0_2:BdOk Q 96 z96 [(0,0,13),(2,14,1)]:=bd_ok Q (by kernel_rfl) (by kernel_rfl) (by kernel_rfl)
noncomputable abbrev z171:List Value:=[(.int .i64 0),(.int .i64 0),(.int .i64 0),(.int .i64 0),(.int .i64 0),(.int .i64 0),(.int .i64 0),(.int .i64 0),(.int .i64 0),(.int .i64 0),(.int .i64 0),(.int .i64 0),(.int .i64 0),(.int .i64 0),(.int .u64 0),(.int .i64 0),(.int .u64 0),(.int .u64 0),(.int .i64 0),(.int .u64 0),(.bool false),(.int .i64 0)]
instance ibd171_0:BdOk Q 171 z171 [(0,0,22)]:=bd_ok Q (by kernel_rfl) (by kernel_rfl) (by kernel_rfl)
instance ilda96:LdAOk Q 96 26:=⟨fun b o s G=>by kernel_rfl⟩
noncomputable abbrev z98:List Value:=[(.int .i64 0),(.int .i64 0),(.int .i64 0),(.int .i64 0),(.int .i64 0),(.int .i64 0),(.int .i64 0),(.int .i64 0),(.int .i64 0),(.int .i64 0),(.int .i64 0),(.int .i64 0),(.int .i64 0),(.bool false),(.int .i64 0),(.int .u64 0),(.int .u64 0),(.int .i64 0),(.int .i64 0),(.int .u64 0),(.int .i64 0),(.pointer none),(.pointer none),(.bool false),(.int .u64 0),(.int .i64 0)]
instance ibd98_0:BdOk Q 98 z98 [(0,0,26)]:=bd_ok Q (by kernel_rfl) (by kernel_rfl) (by kernel_rfl)
instance ifa96_1:FaOk Q 96 1 13:=⟨fun b o s=>by kernel_rfl⟩
instance ist4:StOk Q 4 1:=⟨fun b o s v G=>by kernel_rfl⟩
instance ild4:LdOk Q 4:=⟨fun b o s G=>(show _ = loadOne b o G by kernel_rfl).trans (loadOne_eq b o G)⟩
instance ifa89_1:FaOk Q 89 1 1:=⟨fun b o s=>by kernel_rfl⟩
instance ild87:LdOk Q 87:=⟨fun b o s G=>(show _ = loadOne b o G by kernel_rfl).trans (loadOne_eq b o G)⟩
instance ieb4:EbOk Q 4:=⟨fun neg x y a b=>by cases neg <;> cases a <;> cases b <;> kernel_rfl⟩
instance ifa89_0:FaOk Q 89 0 0:=⟨fun b o s=>by kernel_rfl⟩
instance ild83:LdOk Q 83:=⟨fun b o s G=>(show _ = loadOne b o G by kernel_rfl).trans (loadOne_eq b o G)⟩
instance ial92:AlOk Q 92 z92:=⟨fun G=>by kernel_rfl⟩
instance ist92:StOk Q 92 2:=⟨fun b o s v G=>by kernel_rfl⟩
instance ilda92:LdAOk Q 92 2:=⟨fun b o s G=>by kernel_rfl⟩
instance iiaa110:IaaOk Q 110 4096 1:=⟨fun b o s k j=>by kernel_rfl⟩
instance ist3:StOk Q 3 1:=⟨fun b o s v G=>by kernel_rfl⟩
instance ibd59_0_1:BdOk Q 59 z59 [(0,0,1),(1,1,1)]:=bd_ok Q (by kernel_rfl) (by kernel_rfl) (by kernel_rfl)
instance ifa59_2:FaOk Q 59 2 2:=⟨fun b o s=>by kernel_rfl⟩
instance ifa59_3:FaOk Q 59 3 3:=⟨fun b o s=>by kernel_rfl⟩
instance ifa59_4:FaOk Q 59 4 4:=⟨fun b o s=>by kernel_rfl⟩
instance ist108:StOk Q 108 1:=⟨fun b o s v G=>by kernel_rfl⟩
instance ifa126_1:FaOk Q 126 1 1:=⟨fun b o s=>by kernel_rfl⟩
instance ibs24_0_:BsOk Q 24 0 (rep z39 0) 1 []:=bs_ok Q (z0:=z39) (by kernel_rfl) rfl (by decide) (by kernel_rfl)
instance iap24_24:ApOk Q 24 24 1 8:=⟨fun s x G=>by kernel_rfl⟩
instance ifa75_2:FaOk Q 75 2 2:=⟨fun b o s=>by kernel_rfl⟩
instance ifa75_0:FaOk Q 75 0 0:=⟨fun b o s=>by kernel_rfl⟩
instance ifa75_1:FaOk Q 75 1 1:=⟨fun b o s=>by kernel_rfl⟩
instance ilda69:LdAOk Q 69 6:=⟨fun b o s G=>by kernel_rfl⟩
instance ifa73_1:FaOk Q 73 1 6:=⟨fun b o s=>by kernel_rfl⟩
instance ilda71:LdAOk Q 71 3:=⟨fun b o s G=>by kernel_rfl⟩
instance iln52:LnOk Q 52:=⟨fun a n c=>by kernel_rfl⟩
instance iias52:IasOk Q 52 1:=⟨fun b o s n c k j=>by kernel_rfl⟩
instance isl52:SlOk Q 52 1:=⟨fun a n c lo hi mx G=>sl_eq Q (e:=3) (by kernel_rfl) (by kernel_rfl) a n c lo hi mx G⟩
instance ifa71_0:FaOk Q 71 0 0:=⟨fun b o s=>by kernel_rfl⟩
instance ifa73_2:FaOk Q 73 2 9:=⟨fun b o s=>by kernel_rfl⟩
instance ibs52_4_0_1_2_3:BsOk Q 52 4 (rep z3 4) 1 [(0,0,1),(1,1,1),(2,2,1),(3,3,1)]:=bs_ok Q (z0:=z3) (by kernel_rfl) rfl (by decide) (by kernel_rfl)
instance ifa71_2:FaOk Q 71 2 2:=⟨fun b o s=>by kernel_rfl⟩
instance ifa71_1:FaOk Q 71 1 1:=⟨fun b o s=>by kernel_rfl⟩
noncomputable abbrev z162:List Value:=[(.int .i64 0),(.int .i64 0),(.int .i64 0),(.int .i64 0),(.int .i64 0),(.int .i64 0),(.int .i64 0),(.int .i64 0),(.int .i64 0),(.int .i64 0),(.int .i64 0),(.int .i64 0),(.int .i64 0),(.int .i64 0),(.bool false),(.pointer none),(.pointer none),(.int .i64 0),(.int .u64 0),(.int .i64 0),(.int .u64 0),(.int .u64 0),(.int .i64 0),(.int .u64 0),(.bool false),(.int .i64 0)]
instance ial162:AlOk Q 162 z162:=⟨fun G=>by kernel_rfl⟩
instance ibd162_8_2_9:BdOk Q 162 z162 [(8,24,1),(2,17,1),(9,25,1)]:=bd_ok Q (by kernel_rfl) (by kernel_rfl) (by kernel_rfl)
instance ist162:StOk Q 162 26:=⟨fun b o s v G=>by kernel_rfl⟩
instance ibd162_0_8_2:BdOk Q 162 z162 [(0,0,13),(8,24,1),(2,17,1)]:=bd_ok Q (by kernel_rfl) (by kernel_rfl) (by kernel_rfl)
instance ilda162:LdAOk Q 162 26:=⟨fun b o s G=>by kernel_rfl⟩
noncomputable abbrev z168:List Value:=[(.int .i64 0),(.int .i64 0),(.int .i64 0),(.int .i64 0),(.int .i64 0),(.int .i64 0),(.int .i64 0),(.int .i64 0),(.int .i64 0),(.int .i64 0),(.int .i64 0),(.int .i64 0),(.int .i64 0),(.int .i64 0),(.int .u64 0),(.int .i64 0),(.int .u64 0),(.int .u64 0),(.int .i64 0),(.int .u64 0),(.bool false),(.int .i64 0)]
instance ial168:AlOk Q 168 z168:=⟨fun G=>by kernel_rfl⟩
instance ibd168_8_2_9:BdOk Q 168 z168 [(8,20,1),(2,13,1),(9,21,1)]:=bd_ok Q (by kernel_rfl) (by kernel_rfl) (by kernel_rfl)
instance ist168:StOk Q 168 22:=⟨fun b o s v G=>by kernel_rfl⟩
instance ibd168_0_8_2:BdOk Q 168 z168 [(0,0,13),(8,20,1),(2,13,1)]:=bd_ok Q (by kernel_rfl) (by kernel_rfl) (by kernel_rfl)
instance ilda168:LdAOk Q 168 22:=⟨fun b o s G=>by kernel_rfl⟩
instance ifa96_2:FaOk Q 96 2 14:=⟨fun b o s=>by kernel_rfl⟩
instance iep87:EpOk Q 87:=⟨fun neg x y=>by cases neg <;> kernel_rfl,fun neg x y a=>by cases neg <;> kernel_rfl,fun neg x y a=>by cases neg <;> kernel_rfl⟩
instance ifa171_0:FaOk Q 171 0 0:=⟨fun b o s=>by kernel_rfl⟩
instance ifa168_2:FaOk Q 168 2 13:=⟨fun b o s=>by kernel_rfl⟩
instance ifa168_6:FaOk Q 168 6 17:=⟨fun b o s=>by kernel_rfl⟩
instance ifa92_0:FaOk Q 92 0 0:=⟨fun b o s=>by kernel_rfl⟩
instance iep83:EpOk Q 83:=⟨fun neg x y=>by cases neg <;> kernel_rfl,fun neg x y a=>by cases neg <;> kernel_rfl,fun neg x y a=>by cases neg <;> kernel_rfl⟩
instance ifa165_0:FaOk Q 165 0 0:=⟨fun b o s=>by kernel_rfl⟩
instance ifa162_2:FaOk Q 162 2 17:=⟨fun b o s=>by kernel_rfl⟩
instance ifa162_5:FaOk Q 162 5 20:=⟨fun b o s=>by kernel_rfl⟩
instance ist160:StOk Q 160 1:=⟨fun b o s v G=>by kernel_rfl⟩
instance ild160:LdOk Q 160:=⟨fun b o s G=>(show _ = loadOne b o G by kernel_rfl).trans (loadOne_eq b o G)⟩
instance ifa162_3:FaOk Q 162 3 18:=⟨fun b o s=>by kernel_rfl⟩
instance ifa162_7:FaOk Q 162 7 23:=⟨fun b o s=>by kernel_rfl⟩
instance ifa162_0:FaOk Q 162 0 0:=⟨fun b o s=>by kernel_rfl⟩
instance ifa162_4:FaOk Q 162 4 19:=⟨fun b o s=>by kernel_rfl⟩
instance ifa162_1:FaOk Q 162 1 13:=⟨fun b o s=>by kernel_rfl⟩
instance ifa159_1:FaOk Q 159 1 1:=⟨fun b o s=>by kernel_rfl⟩
instance ifa162_6:FaOk Q 162 6 21:=⟨fun b o s=>by kernel_rfl⟩
instance ifa159_2:FaOk Q 159 2 2:=⟨fun b o s=>by kernel_rfl⟩
instance ist156:StOk Q 156 1:=⟨fun b o s v G=>by kernel_rfl⟩
instance ibd92_:BdOk Q 92 z92 []:=bd_ok Q (by kernel_rfl) (by kernel_rfl) (by kernel_rfl)
instance ifa96_12:FaOk Q 96 12 25:=⟨fun b o s=>by kernel_rfl⟩
instance ild26:LdOk Q 26:=⟨fun b o s G=>(show _ = loadOne b o G by kernel_rfl).trans (loadOne_eq b o G)⟩
instance ifa96_7:FaOk Q 96 7 19:=⟨fun b o s=>by kernel_rfl⟩
instance ifa168_7:FaOk Q 168 7 19:=⟨fun b o s=>by kernel_rfl⟩
instance ifa96_11:FaOk Q 96 11 24:=⟨fun b o s=>by kernel_rfl⟩
instance ifa96_10:FaOk Q 96 10 23:=⟨fun b o s=>by kernel_rfl⟩
instance iep123:EpOk Q 123:=⟨fun neg x y=>by cases neg <;> kernel_rfl,fun neg x y a=>by cases neg <;> kernel_rfl,fun neg x y a=>by cases neg <;> kernel_rfl⟩
instance ilda67:LdAOk Q 67 3:=⟨fun b o s G=>by kernel_rfl⟩
instance ifa69_3:FaOk Q 69 3 5:=⟨fun b o s=>by kernel_rfl⟩
instance ifa67_0:FaOk Q 67 0 0:=⟨fun b o s=>by kernel_rfl⟩
instance ifa69_2:FaOk Q 69 2 4:=⟨fun b o s=>by kernel_rfl⟩
instance ifa67_1:FaOk Q 67 1 1:=⟨fun b o s=>by kernel_rfl⟩
instance ifa69_1:FaOk Q 69 1 3:=⟨fun b o s=>by kernel_rfl⟩
instance ifd67_0:FdOk Q 67 0 0:=⟨fun l=>by kernel_rfl⟩
instance ifa96_3:FaOk Q 96 3 15:=⟨fun b o s=>by kernel_rfl⟩
instance ifa96_0:FaOk Q 96 0 0:=⟨fun b o s=>by kernel_rfl⟩
instance ifa96_5:FaOk Q 96 5 17:=⟨fun b o s=>by kernel_rfl⟩
instance ist26:StOk Q 26 1:=⟨fun b o s v G=>by kernel_rfl⟩
instance ifa96_4:FaOk Q 96 4 16:=⟨fun b o s=>by kernel_rfl⟩
instance ifa96_6:FaOk Q 96 6 18:=⟨fun b o s=>by kernel_rfl⟩
instance icv3_39:CvOk Q 3 39 .i64 .u64:=⟨fun n=>by kernel_rfl⟩
instance icv39_3:CvOk Q 39 3 .u64 .i64:=⟨fun n=>by kernel_rfl⟩
instance ifa92_1:FaOk Q 92 1 1:=⟨fun b o s=>by kernel_rfl⟩
instance ifa96_8:FaOk Q 96 8 21:=⟨fun b o s=>by kernel_rfl⟩
instance ist93:StOk Q 93 1:=⟨fun b o s v G=>by kernel_rfl⟩
instance ild93:LdOk Q 93:=⟨fun b o s G=>(show _ = loadOne b o G by kernel_rfl).trans (loadOne_eq b o G)⟩
instance ifa96_9:FaOk Q 96 9 22:=⟨fun b o s=>by kernel_rfl⟩
instance ist94:StOk Q 94 1:=⟨fun b o s v G=>by kernel_rfl⟩
instance ild94:LdOk Q 94:=⟨fun b o s G=>(show _ = loadOne b o G by kernel_rfl).trans (loadOne_eq b o G)⟩
instance ifa168_8:FaOk Q 168 8 20:=⟨fun b o s=>by kernel_rfl⟩
instance ifa168_0:FaOk Q 168 0 0:=⟨fun b o s=>by kernel_rfl⟩
instance ifa168_3:FaOk Q 168 3 14:=⟨fun b o s=>by kernel_rfl⟩
noncomputable abbrev z270:List Value:=[(.int .i64 0),(.int .i64 0)]
instance ial270:AlOk Q 270 z270:=⟨fun G=>by kernel_rfl⟩
instance ist270:StOk Q 270 2:=⟨fun b o s v G=>by kernel_rfl⟩
instance ifa270_0:FaOk Q 270 0 0:=⟨fun b o s=>by kernel_rfl⟩
instance ifa168_4:FaOk Q 168 4 15:=⟨fun b o s=>by kernel_rfl⟩
instance ifa168_9:FaOk Q 168 9 21:=⟨fun b o s=>by kernel_rfl⟩
instance ifa168_5:FaOk Q 168 5 16:=⟨fun b o s=>by kernel_rfl⟩
instance ifa162_8:FaOk Q 162 8 24:=⟨fun b o s=>by kernel_rfl⟩
instance ifa162_9:FaOk Q 162 9 25:=⟨fun b o s=>by kernel_rfl⟩
instance ifa159_0:FaOk Q 159 0 0:=⟨fun b o s=>by kernel_rfl⟩
instance ibd126_0_1_2:BdOk Q 126 z126 [(0,0,1),(1,1,1),(2,2,1)]:=bd_ok Q (by kernel_rfl) (by kernel_rfl) (by kernel_rfl)
instance ifd59_4:FdOk Q 59 4 4:=⟨fun l=>by kernel_rfl⟩
noncomputable abbrev z279:List Value:=[(.int .i64 0),(.int .i64 0),(.int .i64 0),(.int .i64 0),(.int .i64 0),(.int .i64 0),(.int .i64 0),(.int .i64 0),(.int .i64 0),(.int .i64 0),(.int .i64 0),(.int .i64 0),(.int .i64 0),(.int .u64 0),(.int .i64 0),(.int .i64 0),(.int .i64 0),(.int .u64 0),(.int .u64 0),(.int .u64 0),(.slice none 0 0),(.int .u64 0),(.bool false),(.int .i64 0)]
instance ibd279_0_1_7:BdOk Q 279 z279 [(0,0,13),(1,13,1),(7,22,1)]:=bd_ok Q (by kernel_rfl) (by kernel_rfl) (by kernel_rfl)
instance ifa279_2:FaOk Q 279 2 14:=⟨fun b o s=>by kernel_rfl⟩
instance ifa279_8:FaOk Q 279 8 23:=⟨fun b o s=>by kernel_rfl⟩
noncomputable abbrev z276:List Value:=[(.int .i64 0),(.int .i64 0),(.int .u64 0),(.int .u64 0)]
instance imk277:MkSlOk Q 277 4 32 z276:=⟨fun k k' l c G=>by kernel_rfl⟩
instance ifa279_5:FaOk Q 279 5 20:=⟨fun b o s=>by kernel_rfl⟩
instance ist277:StOk Q 277 1:=⟨fun b o s v G=>by kernel_rfl⟩
instance ild156:LdOk Q 156:=⟨fun b o s G=>(show _ = loadOne b o G by kernel_rfl).trans (loadOne_eq b o G)⟩
instance ifa159_3:FaOk Q 159 3 3:=⟨fun b o s=>by kernel_rfl⟩
instance ist157:StOk Q 157 1:=⟨fun b o s v G=>by kernel_rfl⟩
instance ild157:LdOk Q 157:=⟨fun b o s G=>(show _ = loadOne b o G by kernel_rfl).trans (loadOne_eq b o G)⟩
instance ild30:LdOk Q 30:=⟨fun b o s G=>(show _ = loadOne b o G by kernel_rfl).trans (loadOne_eq b o G)⟩
noncomputable abbrev z67:List Value:=[(.int .i64 0),(.int .i64 0),(.int .i64 0)]
instance ial67:AlOk Q 67 z67:=⟨fun G=>by kernel_rfl⟩
instance ibd67_0_1_2:BdOk Q 67 z67 [(0,0,1),(1,1,1),(2,2,1)]:=bd_ok Q (by kernel_rfl) (by kernel_rfl) (by kernel_rfl)
instance ist67:StOk Q 67 3:=⟨fun b o s v G=>by kernel_rfl⟩
noncomputable abbrev z300:List Value:=[(.int .i64 0),(.int .i64 0),(.int .i64 0),(.int .i64 0),(.int .i64 0),(.int .i64 0),(.int .i64 0),(.int .i64 0),(.int .i64 0),(.int .i64 0),(.int .i64 0),(.int .i64 0),(.int .i64 0),(.int .u64 0),(.int .i64 0),(.int .i64 0),(.int .i64 0),(.int .u64 0),(.int .u64 0),(.int .u64 0),(.slice none 0 0),(.slice none 0 0),(.slice none 0 0),(.int .u64 0),(.int .i64 0)]
instance ibd300_2_12:BdOk Q 300 z300 [(2,14,1),(12,24,1)]:=bd_ok Q (by kernel_rfl) (by kernel_rfl) (by kernel_rfl)
instance imk52:MkSlOk Q 52 1 8 z3:=⟨fun k k' l c G=>by kernel_rfl⟩
instance ibd300_0_1_8_9_10:BdOk Q 300 z300 [(0,0,13),(1,13,1),(8,20,1),(9,21,1),(10,22,1)]:=bd_ok Q (by kernel_rfl) (by kernel_rfl) (by kernel_rfl)
instance ifa300_2:FaOk Q 300 2 14:=⟨fun b o s=>by kernel_rfl⟩
instance ifa300_5:FaOk Q 300 5 17:=⟨fun b o s=>by kernel_rfl⟩
instance ifa300_11:FaOk Q 300 11 23:=⟨fun b o s=>by kernel_rfl⟩
instance ifa300_0:FaOk Q 300 0 0:=⟨fun b o s=>by kernel_rfl⟩
instance ifa300_4:FaOk Q 300 4 16:=⟨fun b o s=>by kernel_rfl⟩
instance ifa300_3:FaOk Q 300 3 15:=⟨fun b o s=>by kernel_rfl⟩
instance ifa300_6:FaOk Q 300 6 18:=⟨fun b o s=>by kernel_rfl⟩
instance ifa300_7:FaOk Q 300 7 19:=⟨fun b o s=>by kernel_rfl⟩
instance ifa300_1:FaOk Q 300 1 13:=⟨fun b o s=>by kernel_rfl⟩
noncomputable abbrev z303:List Value:=[(.int .i64 0),(.int .i64 0),(.int .i64 0),(.int .i64 0),(.int .i64 0),(.int .i64 0),(.int .i64 0),(.int .i64 0),(.int .i64 0),(.int .i64 0),(.int .i64 0),(.pointer none),(.int .i64 0),(.int .i64 0)]
instance ibd303_0_1:BdOk Q 303 z303 [(0,0,10),(1,10,1)]:=bd_ok Q (by kernel_rfl) (by kernel_rfl) (by kernel_rfl)
instance ifa303_3:FaOk Q 303 3 12:=⟨fun b o s=>by kernel_rfl⟩
instance ifa303_4:FaOk Q 303 4 13:=⟨fun b o s=>by kernel_rfl⟩
instance ifa303_0:FaOk Q 303 0 0:=⟨fun b o s=>by kernel_rfl⟩
instance ifa303_1:FaOk Q 303 1 10:=⟨fun b o s=>by kernel_rfl⟩
instance ifa303_2:FaOk Q 303 2 11:=⟨fun b o s=>by kernel_rfl⟩
instance ist301:StOk Q 301 1:=⟨fun b o s v G=>by kernel_rfl⟩
instance ild301:LdOk Q 301:=⟨fun b o s G=>(show _ = loadOne b o G by kernel_rfl).trans (loadOne_eq b o G)⟩
instance ibd126_0:BdOk Q 126 z126 [(0,0,1)]:=bd_ok Q (by kernel_rfl) (by kernel_rfl) (by kernel_rfl)
instance ifd59_3:FdOk Q 59 3 3:=⟨fun l=>by kernel_rfl⟩
noncomputable abbrev z308:List Value:=[(.int .i64 0),(.int .i64 0),(.int .i64 0),(.int .i64 0)]
instance ial308:AlOk Q 308 z308:=⟨fun G=>by kernel_rfl⟩
instance ist308:StOk Q 308 4:=⟨fun b o s v G=>by kernel_rfl⟩
instance iiaa308:IaaOk Q 308 2 2:=⟨fun b o s k j=>by kernel_rfl⟩
instance ilda307:LdAOk Q 307 2:=⟨fun b o s G=>by kernel_rfl⟩
instance ibd270_0_1:BdOk Q 270 z270 [(0,0,1),(1,1,1)]:=bd_ok Q (by kernel_rfl) (by kernel_rfl) (by kernel_rfl)
instance ilda270:LdAOk Q 270 2:=⟨fun b o s G=>by kernel_rfl⟩
instance ifa126_2:FaOk Q 126 2 2:=⟨fun b o s=>by kernel_rfl⟩
instance ifa279_0:FaOk Q 279 0 0:=⟨fun b o s=>by kernel_rfl⟩
instance iep156:EpOk Q 156:=⟨fun neg x y=>by cases neg <;> kernel_rfl,fun neg x y a=>by cases neg <;> kernel_rfl,fun neg x y a=>by cases neg <;> kernel_rfl⟩
instance ifa279_7:FaOk Q 279 7 22:=⟨fun b o s=>by kernel_rfl⟩
instance ifa279_3:FaOk Q 279 3 15:=⟨fun b o s=>by kernel_rfl⟩
instance ifa276_1:FaOk Q 276 1 1:=⟨fun b o s=>by kernel_rfl⟩
instance ifa276_0:FaOk Q 276 0 0:=⟨fun b o s=>by kernel_rfl⟩
instance ifa276_3:FaOk Q 276 3 3:=⟨fun b o s=>by kernel_rfl⟩
instance ifa276_2:FaOk Q 276 2 2:=⟨fun b o s=>by kernel_rfl⟩
instance ifa279_6:FaOk Q 279 6 21:=⟨fun b o s=>by kernel_rfl⟩
instance ifa279_4:FaOk Q 279 4 19:=⟨fun b o s=>by kernel_rfl⟩
instance ifa279_1:FaOk Q 279 1 13:=⟨fun b o s=>by kernel_rfl⟩
noncomputable abbrev z317:List Value:=[.nilFunc,(.bool false),(.int .i64 0)]
instance ibd317_1:BdOk Q 317 z317 [(1,1,1)]:=bd_ok Q (by kernel_rfl) (by kernel_rfl) (by kernel_rfl)
noncomputable abbrev z320:List Value:=[.nilFunc,(.bool false),(.int .i64 0),(.int .i64 0),(.int .i64 0),(.int .i64 0),(.int .i64 0),(.int .i64 0),(.int .i64 0),(.int .i64 0),(.int .i64 0),(.int .i64 0),(.int .i64 0),(.int .i64 0),(.pointer none)]
instance ibd320_0_1_2:BdOk Q 320 z320 [(0,0,3),(1,3,10),(2,13,1)]:=bd_ok Q (by kernel_rfl) (by kernel_rfl) (by kernel_rfl)
instance ifa320_0:FaOk Q 320 0 0:=⟨fun b o s=>by kernel_rfl⟩
instance ifa317_2:FaOk Q 317 2 2:=⟨fun b o s=>by kernel_rfl⟩
instance ifa317_0:FaOk Q 317 0 0:=⟨fun b o s=>by kernel_rfl⟩
instance ist315:StOk Q 315 1:=⟨fun b o s v G=>by kernel_rfl⟩
instance iep157:EpOk Q 157:=⟨fun neg x y=>by cases neg <;> kernel_rfl,fun neg x y a=>by cases neg <;> kernel_rfl,fun neg x y a=>by cases neg <;> kernel_rfl⟩
noncomputable abbrev z293:List Value:=[(.int .i64 0),(.int .i64 0),(.int .i64 0)]
instance ial293:AlOk Q 293 z293:=⟨fun G=>by kernel_rfl⟩
instance ibd293_0_1_2:BdOk Q 293 z293 [(0,0,1),(1,1,1),(2,2,1)]:=bd_ok Q (by kernel_rfl) (by kernel_rfl) (by kernel_rfl)
instance ist293:StOk Q 293 3:=⟨fun b o s v G=>by kernel_rfl⟩
instance ilda293:LdAOk Q 293 3:=⟨fun b o s G=>by kernel_rfl⟩
instance ifa293_1:FaOk Q 293 1 1:=⟨fun b o s=>by kernel_rfl⟩
instance ifa293_2:FaOk Q 293 2 2:=⟨fun b o s=>by kernel_rfl⟩
instance ild291:LdOk Q 291:=⟨fun b o s G=>(show _ = loadOne b o G by kernel_rfl).trans (loadOne_eq b o G)⟩
instance iifc291:IfcOk Q 291:=⟨fun v=>by kernel_rfl⟩
instance ifa293_0:FaOk Q 293 0 0:=⟨fun b o s=>by kernel_rfl⟩
noncomputable abbrev z297:List Value:=[(.int .i64 0),(.int .i64 0),(.int .i64 0)]
instance ial297:AlOk Q 297 z297:=⟨fun G=>by kernel_rfl⟩
instance ibd297_0_1_2:BdOk Q 297 z297 [(0,0,1),(1,1,1),(2,2,1)]:=bd_ok Q (by kernel_rfl) (by kernel_rfl) (by kernel_rfl)
instance ist297:StOk Q 297 3:=⟨fun b o s v G=>by kernel_rfl⟩
instance ilda297:LdAOk Q 297 3:=⟨fun b o s G=>by kernel_rfl⟩
instance ifa297_1:FaOk Q 297 1 1:=⟨fun b o s=>by kernel_rfl⟩
instance ifa297_2:FaOk Q 297 2 2:=⟨fun b o s=>by kernel_rfl⟩
instance ild295:LdOk Q 295:=⟨fun b o s G=>(show _ = loadOne b o G by kernel_rfl).trans (loadOne_eq b o G)⟩
instance iifc295:IfcOk Q 295:=⟨fun v=>by kernel_rfl⟩
instance ifa297_0:FaOk Q 297 0 0:=⟨fun b o s=>by kernel_rfl⟩
instance ifa300_8:FaOk Q 300 8 20:=⟨fun b o s=>by kernel_rfl⟩
instance ild52:LdOk Q 52:=⟨fun b o s G=>(show _ = loadOne b o G by kernel_rfl).trans (loadOne_eq b o G)⟩
instance ifa300_10:FaOk Q 300 10 22:=⟨fun b o s=>by kernel_rfl⟩
instance ifa300_9:FaOk Q 300 9 21:=⟨fun b o s=>by kernel_rfl⟩
noncomputable abbrev z324:List Value:=[(.int .i64 0),(.int .i64 0),(.int .i64 0),(.int .i64 0),(.int .u64 0),(.int .i64 0),(.int .i64 0)]
instance ibd324_0_1_4:BdOk Q 324 z324 [(0,0,3),(1,3,1),(4,6,1)]:=bd_ok Q (by kernel_rfl) (by kernel_rfl) (by kernel_rfl)
instance ibd324_0_1_3:BdOk Q 324 z324 [(0,0,3),(1,3,1),(3,5,1)]:=bd_ok Q (by kernel_rfl) (by kernel_rfl) (by kernel_rfl)
instance ifa324_1:FaOk Q 324 1 3:=⟨fun b o s=>by kernel_rfl⟩
instance ifa324_0:FaOk Q 324 0 0:=⟨fun b o s=>by kernel_rfl⟩
instance ifa324_2:FaOk Q 324 2 4:=⟨fun b o s=>by kernel_rfl⟩
instance ifa324_3:FaOk Q 324 3 5:=⟨fun b o s=>by kernel_rfl⟩
noncomputable abbrev z307:List Value:=[(.int .i64 0),(.int .i64 0)]
instance ibd307_0_1:BdOk Q 307 z307 [(0,0,1),(1,1,1)]:=bd_ok Q (by kernel_rfl) (by kernel_rfl) (by kernel_rfl)
instance ibd308_0_1:BdOk Q 308 z308 [(0,0,2),(1,2,2)]:=bd_ok Q (by kernel_rfl) (by kernel_rfl) (by kernel_rfl)
instance ilda308:LdAOk Q 308 4:=⟨fun b o s G=>by kernel_rfl⟩
instance ifa307_0:FaOk Q 307 0 0:=⟨fun b o s=>by kernel_rfl⟩
instance ifa307_1:FaOk Q 307 1 1:=⟨fun b o s=>by kernel_rfl⟩
instance ild277:LdOk Q 277:=⟨fun b o s G=>(show _ = loadOne b o G by kernel_rfl).trans (loadOne_eq b o G)⟩
instance ial276:AlOk Q 276 z276:=⟨fun G=>by kernel_rfl⟩
instance ist276:StOk Q 276 4:=⟨fun b o s v G=>by kernel_rfl⟩
instance ilda276:LdAOk Q 276 4:=⟨fun b o s G=>by kernel_rfl⟩
instance iias277:IasOk Q 277 4:=⟨fun b o s n c k j=>by kernel_rfl⟩
instance ifa320_1:FaOk Q 320 1 3:=⟨fun b o s=>by kernel_rfl⟩
instance icv39_259:CvOk Q 39 259 .u64 .i64:=⟨fun n=>by kernel_rfl⟩
instance ifa320_2:FaOk Q 320 2 13:=⟨fun b o s=>by kernel_rfl⟩
instance ifa320_3:FaOk Q 320 3 14:=⟨fun b o s=>by kernel_rfl⟩
instance ist318:StOk Q 318 1:=⟨fun b o s v G=>by kernel_rfl⟩
instance ild315:LdOk Q 315:=⟨fun b o s G=>(show _ = loadOne b o G by kernel_rfl).trans (loadOne_eq b o G)⟩
instance ief315:EfOk Q 315:=⟨fun neg x y=>by cases neg <;> kernel_rfl,fun neg x y f a b=>by cases neg <;> kernel_rfl⟩
instance ibd270_0:BdOk Q 270 z270 [(0,0,1)]:=bd_ok Q (by kernel_rfl) (by kernel_rfl) (by kernel_rfl)
noncomputable abbrev z335:List Value:=[(.int .i64 0),(.int .i64 0),(.int .i64 0),(.int .u64 0),(.int .i64 0),(.int .i64 0),(.bool false),(.bool false),(.int .i64 0)]
instance ibd335_0_2_4:BdOk Q 335 z335 [(0,0,3),(2,4,1),(4,6,1)]:=bd_ok Q (by kernel_rfl) (by kernel_rfl) (by kernel_rfl)
noncomputable abbrev z338:List Value:=[(.int .i64 0),(.int .i64 0),(.int .i64 0),(.int .u64 0),(.int .i64 0),(.int .i64 0),(.bool false),(.bool false),(.int .i64 0),.nilFunc]
instance ibd338_0_1:BdOk Q 338 z338 [(0,0,9),(1,9,1)]:=bd_ok Q (by kernel_rfl) (by kernel_rfl) (by kernel_rfl)
instance ifa338_0:FaOk Q 338 0 0:=⟨fun b o s=>by kernel_rfl⟩
instance ild318:LdOk Q 318:=⟨fun b o s G=>(show _ = loadOne b o G by kernel_rfl).trans (loadOne_eq b o G)⟩
noncomputable abbrev z341:List Value:=[(.int .i64 0),(.int .i64 0),(.int .i64 0)]
instance ibd341_0_1_2:BdOk Q 341 z341 [(0,0,1),(1,1,1),(2,2,1)]:=bd_ok Q (by kernel_rfl) (by kernel_rfl) (by kernel_rfl)
instance ifa270_1:FaOk Q 270 1 1:=⟨fun b o s=>by kernel_rfl⟩
instance ibs346_2_0_1:BsOk Q 346 2 (rep z341 2) 3 [(0,0,3),(1,3,3)]:=bs_ok Q (z0:=z341) (by kernel_rfl) rfl (by decide) (by kernel_rfl)
instance isla308:SlAOk Q 308 2 2:=⟨fun a lo hi mx G=>by kernel_rfl⟩
instance ibd276_1:BdOk Q 276 z276 [(1,1,1)]:=bd_ok Q (by kernel_rfl) (by kernel_rfl) (by kernel_rfl)
instance ifa335_3:FaOk Q 335 3 5:=⟨fun b o s=>by kernel_rfl⟩
instance ifa338_1:FaOk Q 338 1 9:=⟨fun b o s=>by kernel_rfl⟩
instance ist336:StOk Q 336 1:=⟨fun b o s v G=>by kernel_rfl⟩
instance ifa335_5:FaOk Q 335 5 7:=⟨fun b o s=>by kernel_rfl⟩
instance ifa335_6:FaOk Q 335 6 8:=⟨fun b o s=>by kernel_rfl⟩
instance iep318:EpOk Q 318:=⟨fun neg x y=>by cases neg <;> kernel_rfl,fun neg x y a=>by cases neg <;> kernel_rfl,fun neg x y a=>by cases neg <;> kernel_rfl⟩
instance ild336:LdOk Q 336:=⟨fun b o s G=>(show _ = loadOne b o G by kernel_rfl).trans (loadOne_eq b o G)⟩
instance iln346:LnOk Q 346:=⟨fun a n c=>by kernel_rfl⟩
instance iias346:IasOk Q 346 3:=⟨fun b o s n c k j=>by kernel_rfl⟩
instance ilda341:LdAOk Q 341 3:=⟨fun b o s G=>by kernel_rfl⟩
instance ial341:AlOk Q 341 z341:=⟨fun G=>by kernel_rfl⟩
instance ist341:StOk Q 341 3:=⟨fun b o s v G=>by kernel_rfl⟩
instance ifa341_0:FaOk Q 341 0 0:=⟨fun b o s=>by kernel_rfl⟩
instance ifa341_1:FaOk Q 341 1 1:=⟨fun b o s=>by kernel_rfl⟩
instance ifa341_2:FaOk Q 341 2 2:=⟨fun b o s=>by kernel_rfl⟩
instance iln343:LnOk Q 343:=⟨fun a n c=>by kernel_rfl⟩
instance iias343:IasOk Q 343 2:=⟨fun b o s n c k j=>by kernel_rfl⟩
instance ial307:AlOk Q 307 z307:=⟨fun G=>by kernel_rfl⟩
instance ist307:StOk Q 307 2:=⟨fun b o s v G=>by kernel_rfl⟩
instance ifa335_0:FaOk Q 335 0 0:=⟨fun b o s=>by kernel_rfl⟩
instance ifa335_1:FaOk Q 335 1 3:=⟨fun b o s=>by kernel_rfl⟩
instance ifa335_2:FaOk Q 335 2 4:=⟨fun b o s=>by kernel_rfl⟩
instance iep345:EpOk Q 345:=⟨fun neg x y=>by cases neg <;> kernel_rfl,fun neg x y a=>by cases neg <;> kernel_rfl,fun neg x y a=>by cases neg <;> kernel_rfl⟩
instance ifa335_4:FaOk Q 335 4 6:=⟨fun b o s=>by kernel_rfl⟩
noncomputable def jbl4_0_0 (q:Bool) (e:Ex) (lp:Env → GS → Option (Exit × Env × GS)) (τ:Env) (G:GS):Option (Exit × Env × GS) :=
 bV q (τ 3) fun a3_ =>
 bV q (τ 4) fun a4_ =>
 bV q (τ 9) fun a9_ =>
 bV q (τ 10) fun a10_ =>
 bV q (τ 11) fun a11_ =>
 bV q (τ 12) fun a12_ =>
 bV q (τ 13) fun a13_ =>
 bP (ias Q q 80 3 a11_ a13_) fun x7 =>
 bP (fa Q q 89 2 2 x7) fun x8 =>
 bP (ld Q q 85 x8 G) fun x9 =>
 bP (ep Q q true 85 (.tmp 153) (.const (.pointer none)) x9 (.pointer none)) fun x10 =>
 bS (gd x10 true (some (a11_,G)) G) fun x11 G12 =>
 bS (gd x10 true (some (a13_,G12)) G12) fun x13 G14 =>
 bS (gd x10 true (bP (ias Q q 80 3 x11 x13) fun y=>some (y,G14)) G14) fun x15 G16 =>
 bS (gd x10 true (bP (lda Q q 89 3 x15 G16) fun y=>some (y,G16)) G16) fun x17 G18 =>
 bS (gd x10 true (bS (e.ev.cl 41 [x17] G18) fun y G=>some (y,G)) G18) fun x19 G20 =>
 bS (gd x10 true (bP (un Q q .not x19) fun y=>some (y,G20)) G20) fun x21 G22 =>
 bP (pickV x10 x21 (.bool false)) fun x23 =>
 bS (gd x23 false (some (a9_,G22)) G22) fun x24 G25 =>
 bS (gd x23 false (bS (e.ev.cl 25 [x24] G25) fun y G=>some (y,G)) G25) fun x26 G27 =>
 bS (gd x23 false (some (a10_,G27)) G27) fun x28 G29 =>
 bS (gd x23 false (bS (e.ev.cl 26 [x28] G29) fun y G=>some (y,G)) G29) fun x30 G31 =>
 bS (gd x23 false (bP (bn Q q .neq 59 (.tmp 165) (.tmp 167) x26 x30) fun y=>some (y,G31)) G31) fun x32 G33 =>
 bP (pickV x23 (.bool true) x32) fun x34 =>
 bS (gd x34 false (some (a9_,G33)) G33) fun x35 G36 =>
 bS (gd x34 false (bS (e.ev.cl 27 [x35] G36) fun y G=>some (y,G)) G36) fun x37 G38 =>
 bS (gd x34 false (some (a10_,G38)) G38) fun x39 G40 =>
 bS (gd x34 false (bS (e.ev.cl 28 [x39] G40) fun y G=>some (y,G)) G40) fun x41 G42 =>
 bS (gd x34 false (bP (bn Q q .neq 3 (.tmp 172) (.tmp 174) x37 x41) fun y=>some (y,G42)) G42) fun x43 G44 =>
 bP (pickV x34 (.bool true) x43) fun x45 =>
 bS (gd x45 false (some (a9_,G44)) G44) fun x46 G47 =>
 bS (gd x45 false (bS (e.ev.cl 30 [x46] G47) fun y G=>some (y,G)) G47) fun x48 G49 =>
 bS (gd x45 false (some (a10_,G49)) G49) fun x50 G51 =>
 bS (gd x45 false (bS (e.ev.cl 31 [x50] G51) fun y G=>some (y,G)) G51) fun x52 G53 =>
 bS (gd x45 false (bS (e.ev.cl 29 [x48,x52] G53) fun y G=>some (y,G)) G53) fun x54 G55 =>
 bS (gd x45 false (bP (un Q q .not x54) fun y=>some (y,G55)) G55) fun x56 G57 =>
 bP (pickV x45 (.bool true) x56) fun x58 =>
 ifV x58 (
 some (.ret,xq q 186 τ [(8,(.bool false)),(184,x58),(183,x56),(182,x54),(181,x52),(180,x50),(179,x48),(178,x46),(177,x45),(176,x45),(175,x43),(174,x41),(173,x39),(172,x37),(171,x35),(170,x34),(169,x34),(168,x32),(167,x30),(166,x28),(165,x26),(164,x24),(163,x23),(162,x23),(161,x21),(160,x19),(159,x17),(158,x15),(157,x13),(156,x11),(155,x10),(154,x10),(153,x9),(152,x8),(151,x7),(150,a13_),(149,a11_)] [(3,a3_),(4,a4_),(9,a9_),(10,a10_),(11,a11_),(12,a12_),(13,a13_)],G57)) (
 bP (bn Q q .add 3 (.tmp 55) (.const (.int .i64 1)) a12_ (.int .i64 1)) fun x59 =>
 lp (xq q 186 τ [(12,x59),(56,x59),(55,a12_),(184,x58),(183,x56),(182,x54),(181,x52),(180,x50),(179,x48),(178,x46),(177,x45),(176,x45),(175,x43),(174,x41),(173,x39),(172,x37),(171,x35),(170,x34),(169,x34),(168,x32),(167,x30),(166,x28),(165,x26),(164,x24),(163,x23),(162,x23),(161,x21),(160,x19),(159,x17),(158,x15),(157,x13),(156,x11),(155,x10),(154,x10),(153,x9),(152,x8),(151,x7),(150,a13_),(149,a11_)] [(3,a3_),(4,a4_),(9,a9_),(10,a10_),(11,a11_),(13,a13_)]) G57)
noncomputable def jl4_0_0 (q:Bool) (e:Ex) (lp:Env → GS → Option (Exit × Env × GS)) (τ:Env) (G:GS):Option (Exit × Env × GS):=jbl4_0_0 q e lp τ G
theorem mjl4_0_0 {e:Ex} {E:Ev} (h:ExLe Q e E) {lp lp':Env → GS → Option (Exit × Env × GS)} (hlp:LpLe lp lp') (τ:Env) (G:GS):Ref (jl4_0_0 true e lp τ G) (jl4_0_0 false (Ex.of E) lp' τ G):=by
 unfold jl4_0_0 jbl4_0_0
 exact Ref.gq
theorem mkjl4_0_0 {e:Ex} {E:Ev} (h:ExLe Q e E) {lp lp':Env → GS → Option (Exit × Env × GS)} (hlp:LpLe lp lp') {τ:Env} {l U:List (Nat × Value)} {G:GS} (hU:UOk τ U):Ref (jl4_0_0 true e lp (xq true 186 τ l U) G) (jl4_0_0 false (Ex.of E) lp' (xq false 186 τ l U) G):=by
 rw [xq_eq hU]
 exact mjl4_0_0 h hlp _ _
noncomputable def bb4_0 (q:Bool) (e:Ex) (lp:Env → GS → Option (Exit × Env × GS)) (J0:Env → GS → Option (Exit × Env × GS)) (τ:Env) (G:GS):Option (Exit × Env × GS) :=
 bV q (τ 3) fun a3_ =>
 bV q (τ 4) fun a4_ =>
 bV q (τ 9) fun a9_ =>
 bV q (τ 10) fun a10_ =>
 bV q (τ 11) fun a11_ =>
 bV q (τ 12) fun a12_ =>
 bV q (τ 13) fun a13_ =>
 bP (ln Q q 76 a3_) fun x0 =>
 bP (bn Q q .lss 3 (.tmp 51) (.tmp 53) a12_ x0) fun x1 =>
 ifV x1 (
 bP (ias Q q 76 4 a3_ a12_) fun x2 =>
 bP (fa Q q 82 0 0 x2) fun x3 =>
 bP (ld Q q 3 x3 G) fun x4 =>
 bS (e.ev.cl 16 [x4,(.int .i64 3)] G) fun x5 G6 =>
 bP (ias Q q 76 4 a3_ a12_) fun x60 =>
 bP (fa Q q 82 1 1 x60) fun x61 =>
 bP (ld Q q 3 x61 G6) fun x62 =>
 bP (bn Q q .eql 3 (.tmp 68) (.const (.int .i64 1)) x62 (.int .i64 1)) fun x63 =>
 ifV x63 (
 bP (lda Q q 75 13 a4_ (G6.room 9)) fun x64 =>
 bS (e.ev.cl 36 [x64] (G6.room 9)) fun x66 G65 =>
 bP (lda Q q 75 13 a4_ G65) fun x67 =>
 chk ((sameO (lda Q q 75 13 a4_ (G6.room 9)) x67 && true)) <|
 bS (e.ev.cl 37 [x67] G65) fun x69 G68 =>
 bP (bd Q q 89 z89 [(0,0,1),(2,2,1)] [x66,x69]) fun x70 =>
 bP (ias Q q 80 3 a11_ x5) fun x71 =>
 bP (st Q q 89 3 x71 x70 G68) fun G72 =>
 J0 (xq q 186 τ [(77,x71),(76,x70),(75,x69),(74,x67),(73,x66),(72,x64),(71,x5),(70,a11_),(63,x63),(69,x63),(68,x62),(67,x61),(66,x60),(65,a12_),(64,a3_),(13,x5),(62,x5),(61,x4),(60,x3),(59,x2),(58,a12_),(57,a3_),(54,x1),(53,x0),(52,a3_),(51,a12_)] [(3,a3_),(4,a4_),(9,a9_),(10,a10_),(11,a11_),(12,a12_)]) G72) (
 bP (ias Q q 76 4 a3_ a12_) fun x73 =>
 bP (fa Q q 82 1 1 x73) fun x74 =>
 bP (ld Q q 3 x74 G6) fun x75 =>
 bP (bn Q q .eql 3 (.tmp 83) (.const (.int .i64 2)) x75 (.int .i64 2)) fun x76 =>
 ifV x76 (
 bP (lda Q q 75 13 a4_ (G6.room 11)) fun x77 =>
 bS (e.ev.cl 38 [x77] (G6.room 11)) fun x79 G78 =>
 bP (lda Q q 75 13 a4_ G78) fun x80 =>
 chk ((sameO (lda Q q 75 13 a4_ (G6.room 11)) x80 && true)) <|
 bS (e.ev.cl 39 [x80] G78) fun x82 G81 =>
 bP (pNil x82) fun x83 =>
 bP (fa Q q 98 0 0 x83) fun x84 =>
 bP (bd Q q 89 z89 [(1,1,1),(2,2,1)] [x79,x84]) fun x85 =>
 bP (ias Q q 80 3 a11_ x5) fun x86 =>
 bP (st Q q 89 3 x86 x85 G81) fun G87 =>
 J0 (xq q 186 τ [(94,x86),(93,x85),(92,x84),(91,x83),(90,x82),(89,x80),(88,x79),(87,x77),(86,x5),(85,a11_),(78,x76),(84,x76),(83,x75),(82,x74),(81,x73),(80,a12_),(79,a3_),(63,x63),(69,x63),(68,x62),(67,x61),(66,x60),(65,a12_),(64,a3_),(13,x5),(62,x5),(61,x4),(60,x3),(59,x2),(58,a12_),(57,a3_),(54,x1),(53,x0),(52,a3_),(51,a12_)] [(3,a3_),(4,a4_),(9,a9_),(10,a10_),(11,a11_),(12,a12_)]) G87) (
 bP (ias Q q 76 4 a3_ a12_) fun x88 =>
 bP (fa Q q 82 1 1 x88) fun x89 =>
 bP (ld Q q 3 x89 G6) fun x90 =>
 bP (bn Q q .eql 3 (.tmp 100) (.const (.int .i64 3)) x90 (.int .i64 3)) fun x91 =>
 ifV x91 (
 bP (ias Q q 76 4 a3_ a12_) fun x92 =>
 bP (fa Q q 82 2 2 x92) fun x93 =>
 bP (ld Q q 3 x93 (G6.room 12)) fun x94 =>
 bP (ias Q q 76 4 a3_ a12_) fun x95 =>
 bP (fa Q q 82 3 3 x95) fun x96 =>
 bP (ld Q q 39 x96 (G6.room 12)) fun x97 =>
 bS (e.ev.cl 14 [a9_,x94,x97] (G6.room 12)) fun x99 G98 =>
 bP (ias Q q 76 4 a3_ a12_) fun x100 =>
 bP (fa Q q 82 2 2 x100) fun x101 =>
 bP (ld Q q 3 x101 (G98.room 12)) fun x102 =>
 bP (ias Q q 76 4 a3_ a12_) fun x103 =>
 bP (fa Q q 82 3 3 x103) fun x104 =>
 bP (ld Q q 39 x104 (G98.room 12)) fun x105 =>
 bS (e.ev.cl 15 [a10_,x102,x105] (G98.room 12)) fun x107 G106 =>
 J0 (xq q 186 τ [(125,x107),(124,x105),(123,x104),(122,x103),(121,a12_),(120,a3_),(119,x102),(118,x101),(117,x100),(116,a12_),(115,a3_),(114,a10_),(113,x99),(112,x97),(111,x96),(110,x95),(109,a12_),(108,a3_),(107,x94),(106,x93),(105,x92),(104,a12_),(103,a3_),(102,a9_),(95,x91),(101,x91),(100,x90),(99,x89),(98,x88),(97,a12_),(96,a3_),(78,x76),(84,x76),(83,x75),(82,x74),(81,x73),(80,a12_),(79,a3_),(63,x63),(69,x63),(68,x62),(67,x61),(66,x60),(65,a12_),(64,a3_),(13,x5),(62,x5),(61,x4),(60,x3),(59,x2),(58,a12_),(57,a3_),(54,x1),(53,x0),(52,a3_),(51,a12_)] [(3,a3_),(4,a4_),(9,a9_),(10,a10_),(11,a11_),(12,a12_)]) G106) (
 bP (ias Q q 76 4 a3_ a12_) fun x108 =>
 bP (fa Q q 82 1 1 x108) fun x109 =>
 bP (ld Q q 3 x109 G6) fun x110 =>
 bP (bn Q q .eql 3 (.tmp 131) (.const (.int .i64 0)) x110 (.int .i64 0)) fun x111 =>
 bS (gd x111 true (some (a11_,G6)) G6) fun x112 G113 =>
 bS (gd x111 true (some (x5,G113)) G113) fun x114 G115 =>
 bS (gd x111 true (bP (ias Q q 80 3 x112 x114) fun y=>some (y,G115)) G115) fun x116 G117 =>
 bS (gd x111 true (bP (fa Q q 89 2 2 x116) fun y=>some (y,G117)) G117) fun x118 G119 =>
 bS (gd x111 true (bP (ld Q q 85 x118 G119) fun y=>some (y,G119)) G119) fun x120 G121 =>
 bS (gd x111 true (bP (ep Q q true 85 (.tmp 138) (.const (.pointer none)) x120 (.pointer none)) fun y=>some (y,G121)) G121) fun x122 G123 =>
 bP (pickV x111 x122 (.bool false)) fun x124 =>
 ifV x124 (
 bP (ias Q q 80 3 a11_ x5) fun x125 =>
 bP (lda Q q 89 3 x125 G123) fun x126 =>
 bS (e.ev.cl 40 [x126,a9_,a10_] G123) fun x127 G128 =>
 bP (un Q q .not x127) fun x129 =>
 ifV x129 (
 some (.ret,xq q 186 τ [(8,(.bool false)),(148,x129),(147,x127),(146,a10_),(145,a9_),(144,x126),(143,x125),(142,x5),(141,a11_),(126,x124),(140,x124),(139,x122),(138,x120),(137,x118),(136,x116),(135,x114),(134,x112),(133,x111),(132,x111),(131,x110),(130,x109),(129,x108),(128,a12_),(127,a3_),(95,x91),(101,x91),(100,x90),(99,x89),(98,x88),(97,a12_),(96,a3_),(78,x76),(84,x76),(83,x75),(82,x74),(81,x73),(80,a12_),(79,a3_),(63,x63),(69,x63),(68,x62),(67,x61),(66,x60),(65,a12_),(64,a3_),(13,x5),(62,x5),(61,x4),(60,x3),(59,x2),(58,a12_),(57,a3_),(54,x1),(53,x0),(52,a3_),(51,a12_)] [(3,a3_),(4,a4_),(9,a9_),(10,a10_),(11,a11_),(12,a12_)],G128)) (
 J0 (xq q 186 τ [(148,x129),(147,x127),(146,a10_),(145,a9_),(144,x126),(143,x125),(142,x5),(141,a11_),(126,x124),(140,x124),(139,x122),(138,x120),(137,x118),(136,x116),(135,x114),(134,x112),(133,x111),(132,x111),(131,x110),(130,x109),(129,x108),(128,a12_),(127,a3_),(95,x91),(101,x91),(100,x90),(99,x89),(98,x88),(97,a12_),(96,a3_),(78,x76),(84,x76),(83,x75),(82,x74),(81,x73),(80,a12_),(79,a3_),(63,x63),(69,x63),(68,x62),(67,x61),(66,x60),(65,a12_),(64,a3_),(13,x5),(62,x5),(61,x4),(60,x3),(59,x2),(58,a12_),(57,a3_),(54,x1),(53,x0),(52,a3_),(51,a12_)] [(3,a3_),(4,a4_),(9,a9_),(10,a10_),(11,a11_),(12,a12_)]) G128)) (
 J0 (xq q 186 τ [(126,x124),(140,x124),(139,x122),(138,x120),(137,x118),(136,x116),(135,x114),(134,x112),(133,x111),(132,x111),(131,x110),(130,x109),(129,x108),(128,a12_),(127,a3_),(95,x91),(101,x91),(100,x90),(99,x89),(98,x88),(97,a12_),(96,a3_),(78,x76),(84,x76),(83,x75),(82,x74),(81,x73),(80,a12_),(79,a3_),(63,x63),(69,x63),(68,x62),(67,x61),(66,x60),(65,a12_),(64,a3_),(13,x5),(62,x5),(61,x4),(60,x3),(59,x2),(58,a12_),(57,a3_),(54,x1),(53,x0),(52,a3_),(51,a12_)] [(3,a3_),(4,a4_),(9,a9_),(10,a10_),(11,a11_),(12,a12_)]) G123))))) (
 some ((.exit 0),xq q 186 τ [(54,x1),(53,x0),(52,a3_),(51,a12_)] [(3,a3_),(4,a4_),(9,a9_),(10,a10_),(11,a11_),(12,a12_),(13,a13_)],G))
noncomputable def b4_0 (q:Bool) (e:Ex) (lp:Env → GS → Option (Exit × Env × GS)) (τ:Env) (G:GS):Option (Exit × Env × GS):=bb4_0 q e lp (jl4_0_0 q e lp) τ G
theorem mb4_0 {e:Ex} {E:Ev} (h:ExLe Q e E) {lp lp':Env → GS → Option (Exit × Env × GS)} (hlp:LpLe lp lp') (τ:Env) (G:GS):Ref (b4_0 true e lp τ G) (b4_0 false (Ex.of E) lp' τ G):=by
 unfold b4_0 bb4_0
 repeat' (with_reducible first | exact Ref.rfl' _ | exact ROp.r | refine Ref.bP ?_ fun _=>?_ | refine Ref.bS ?_ fun _ _=>?_ | exact Ref.cl (by assumption) | refine Ref.ifV ?_ ?_ | refine LpLe.rx (by assumption) ?_ | refine Ref.xitq ?_ | exact UOk.z | refine UOk.c (by assumption) ?_ | exact Ref.nil _ | refine Ref.bVe fun _ _=>?_ | refine Ref.bLq (by assumption) ?_ fun _ _ _=>?_ | refine Ref.ifE ?_ ?_ | refine Ref.chk ?_ ?_ | refine Imp.and ?_ ?_ | refine Imp.or ?_ | exact Imp.rfl' _ | refine Imp.sameO ?_ | refine Ref.gd ?_ | exact Ref.cValue (by assumption) | refine Ref.bX ?_ fun _ _ _=>?_ | exact Ref.scQ (by assumption) | exact Ref.xRangeQ (by assumption) | exact Ref.cInvoke (by assumption) | refine mkjl4_0_0 (by assumption) (by assumption) ?_)
noncomputable def jtl4_0 (J0:Env → GS → Option (Exit × Env × GS)):JT (Exit × Env × GS) :=
 (.n none .e (.n none (.n none (.n none .e (.n (some (fun T G=>J0 (nth undef T) G)) .e .e)) .e) .e))
set_option maxHeartbeats 8000000 in
theorem jrl4_0_0 (orc:FuncId → Bool) (J0:Env → GS → Option (Exit × Env × GS)) (T:List Value) (G:GS):runC Q (evL Q orc) 186 (jtl4_0 J0) (subAt [1,1,1,1,1,0,1,0,0] (bodyOf Tryz.f4)) (seqXE (fun τ G'=>mapE ((E orc).lp (subAt [1,1,1,1,1,0,1,0,0] (bodyOf Tryz.f4)) (lst 186 (nth undef (lst 186 τ))) G')) fun e τ G'=>some (e,nth undef (lst 186 τ),G')) [true,false,false,true] (nth undef T) G = jbl4_0_0 false (Ex.of (E orc)) (fun τ G=>mapE ((E orc).lp (subAt [1,1,1,1,1,0,1,0,0] (bodyOf Tryz.f4)) (lst 186 τ) G))  (nth undef T) G:=by kernel_rfl
set_option maxHeartbeats 8000000 in
theorem jol4_0 (orc:FuncId → Bool):JOk Q orc 186 (jtl4_0 (jl4_0_0 false (Ex.of (E orc)) (fun τ G=>mapE ((E orc).lp (subAt [1,1,1,1,1,0,1,0,0] (bodyOf Tryz.f4)) (lst 186 τ) G))) ) (subAt [1,1,1,1,1,0,1,0,0] (bodyOf Tryz.f4)) (seqXE (fun τ G'=>mapE ((E orc).lp (subAt [1,1,1,1,1,0,1,0,0] (bodyOf Tryz.f4)) (lst 186 (nth undef (lst 186 τ))) G')) fun e τ G'=>some (e,nth undef (lst 186 τ),G')) :=
 jOk Q orc (l:=[([true,false,false,true],(fun T G=>jl4_0_0 false (Ex.of (E orc)) (fun τ G=>mapE ((E orc).lp (subAt [1,1,1,1,1,0,1,0,0] (bodyOf Tryz.f4)) (lst 186 τ) G)) (nth undef T) G))]) (by kernel_rfl) (AllE.c (fun T G=>jrl4_0_0 orc (jl4_0_0 false (Ex.of (E orc)) (fun τ G=>mapE ((E orc).lp (subAt [1,1,1,1,1,0,1,0,0] (bodyOf Tryz.f4)) (lst 186 τ) G))) T G) (AllE.z))
set_option maxHeartbeats 8000000 in
theorem jel4_0 (orc:FuncId → Bool) (J0:Env → GS → Option (Exit × Env × GS)) (T:List Value) (G:GS):sxC Q (evL Q orc) 186 (jtl4_0 J0) (subAt [1,1,1,1,1,0,1,0,0] (bodyOf Tryz.f4)) (nth undef T) G (seqXE (fun τ G'=>mapE ((E orc).lp (subAt [1,1,1,1,1,0,1,0,0] (bodyOf Tryz.f4)) (lst 186 (nth undef (lst 186 τ))) G')) fun e τ G'=>some (e,nth undef (lst 186 τ),G')) = bb4_0 false (Ex.of (E orc)) (fun τ G=>mapE ((E orc).lp (subAt [1,1,1,1,1,0,1,0,0] (bodyOf Tryz.f4)) (lst 186 τ) G)) J0 (nth undef T) G:=by kernel_rfl
set_option maxHeartbeats 8000000 in
theorem l4_0 {orc:FuncId → Bool} {e:Ex} (h:ExLe Q e (E orc)) (lp:Env → GS → Option (Exit × Env × GS)) (hlp:∀ τ G,Ref (lp τ G) (mapE ((E orc).lp (subAt [1,1,1,1,1,0,1,0,0] (bodyOf Tryz.f4)) (lst 186 τ) G))) (T:List Value) (G:GS) (hT:T.length = 186):Ref (b4_0 true e lp (nth undef T) G) (mapE ((E orc).lp (subAt [1,1,1,1,1,0,1,0,0] (bodyOf Tryz.f4)) T G)) :=
 fun r hr=>lp_sxC Q orc G (jtl4_0 (jl4_0_0 false (Ex.of (E orc)) (fun τ G=>mapE ((E orc).lp (subAt [1,1,1,1,1,0,1,0,0] (bodyOf Tryz.f4)) (lst 186 τ) G))) ) hT (jol4_0 orc) (jel4_0 orc (jl4_0_0 false (Ex.of (E orc)) (fun τ G=>mapE ((E orc).lp (subAt [1,1,1,1,1,0,1,0,0] (bodyOf Tryz.f4)) (lst 186 τ) G))) T G) (mb4_0 h ⟨hlp⟩ _ _ r hr)
noncomputable def s4 (q:Bool) (e:Ex) (v0 v1 v2 v3:Value) (G:GS):Option (Value × GS) :=
 bS (bx q v0 G) fun x0 G1 =>
 bP (lda Q q 75 13 x0 G1) fun x2 =>
 bS (e.ev.cl 33 [x2,v1] G1) fun x3 G4 =>
 bP (bn Q q .neq 26 (.tmp 16) (.const (.int .i64 0)) x3 (.int .i64 0)) fun x5 =>
 bS (gd x5 false (bP (fa Q q 75 3 3 x0) fun y=>some (y,G4)) G4) fun x6 G7 =>
 bS (gd x5 false (bP (fa Q q 73 0 0 x6) fun y=>some (y,G7)) G7) fun x8 G9 =>
 bS (gd x5 false (bP (fa Q q 69 0 0 x8) fun y=>some (y,G9)) G9) fun x10 G11 =>
 bS (gd x5 false (bP (fa Q q 67 2 2 x10) fun y=>some (y,G11)) G11) fun x12 G13 =>
 bS (gd x5 false (bP (ld Q q 3 x12 G13) fun y=>some (y,G13)) G13) fun x14 G15 =>
 bS (gd x5 false (bP (bn Q q .gtr 3 (.tmp 23) (.const (.int .i64 12)) x14 (.int .i64 12)) fun y=>some (y,G15)) G15) fun x16 G17 =>
 bP (pickV x5 (.bool true) x16) fun x18 =>
 bS (gd x18 false (some (v1,G17)) G17) fun x19 G20 =>
 bS (gd x18 false (bP (bn Q q .gtr 3 (.tmp 27) (.const (.int .i64 130)) x19 (.int .i64 130)) fun y=>some (y,G20)) G20) fun x21 G22 =>
 bP (pickV x18 (.bool true) x21) fun x23 =>
 bS (gd x23 false (some (v2,G22)) G22) fun x24 G25 =>
 bS (gd x23 false (bP (ln Q q 24 x24) fun y=>some (y,G25)) G25) fun x26 G27 =>
 bS (gd x23 false (bP (bn Q q .gtr 3 (.tmp 32) (.const (.int .i64 130)) x26 (.int .i64 130)) fun y=>some (y,G27)) G27) fun x28 G29 =>
 bP (pickV x23 (.bool true) x28) fun x30 =>
 bS (gd x30 false (some (v3,G29)) G29) fun x31 G32 =>
 bS (gd x30 false (bP (ln Q q 76 x31) fun y=>some (y,G32)) G32) fun x33 G34 =>
 bS (gd x30 false (bP (bn Q q .gtr 3 (.tmp 37) (.const (.int .i64 200)) x33 (.int .i64 200)) fun y=>some (y,G34)) G34) fun x35 G36 =>
 bP (pickV x30 (.bool true) x35) fun x37 =>
 ifV x37 (
 bS (e.ev.cl 34 [] G36) fun x38 G39 =>
 some (x38,G39)) (
 bP (lda Q q 75 13 x0 G36) fun x40 =>
 bS (e.ev.cl 35 [x40,v1,v2] G36) fun x41 G42 =>
 bP (pExtract x41 0) fun x43 =>
 bP (pExtract x41 1) fun x44 =>
 bP (ep Q q false 30 (.tmp 48) (.const (.pointer none)) x43 (.pointer none)) fun x45 =>
 ifV x45 (
 some ((.bool false),G42)) (
 bS (mk Q q 80 3 24 z89 (.int .i64 3) (.int .i64 3) G42) fun x46 G47 =>
 bLq q e 4 0 (subAt [1,1,1,1,1,0,1,0,0] (bodyOf Tryz.f4)) 186 (nth undef [v0,v1,v2,v3]) [(12,(.int .i64 0)),(11,x46),(50,x46),(49,x45),(48,x43),(10,x44),(9,x43),(47,x44),(46,x43),(41,x41),(45,x41),(44,v2),(43,v1),(42,x40),(39,x37),(38,x35),(37,x33),(36,x31),(35,x30),(34,x30),(33,x28),(32,x26),(31,x24),(30,x23),(29,x23),(28,x21),(27,x19),(26,x18),(25,x18),(24,x16),(23,x14),(22,x12),(21,x10),(20,x8),(19,x6),(18,x5),(17,x5),(16,x3),(15,v1),(14,x2),(8,(.bool false)),(4,x0)] [] G47 fun e48 t49 G50 =>
 bV q (t49 8) fun t49x8_ =>
 ifE e48 (.exit 0) (
 bS (e.ev.cl 34 [] G50) fun x51 G52 =>
 some (x51,G52)) (ifE e48 .ret (
 some (t49x8_,G50)) (none))))
theorem m4 {e:Ex} {E:Ev} (h:ExLe Q e E) (v0 v1 v2 v3:Value) (G:GS):Ref (s4 true e v0 v1 v2 v3 G) (s4 false (Ex.of E) v0 v1 v2 v3 G):=by
 unfold s4
 exact Ref.gq
set_option maxHeartbeats 8000000 in
theorem f4 {orc:FuncId → Bool} {e:Ex} (h:ExLe Q e (E orc)) (v0 v1 v2 v3:Value) (G:GS):Ref (s4 true e v0 v1 v2 v3 G) ((E orc).cl 4 [v0,v1,v2,v3] G) :=
 fun r hr=>cl_sxE_some Q orc (vs:=[v0,v1,v2,v3]) G Tryz.func4 (by kernel_rfl) (by kernel_rfl) (by kernel_rfl) (by kernel_rfl) (by kernel_rfl) (by kernel_rfl) (m4 h v0 v1 v2 v3 G r hr)
noncomputable def s10 (q:Bool) (e:Ex) (v0:Value) (G:GS):Option (Value × GS) :=
 bP (bn Q q .lss 3 (.tmp 4) (.const (.int .i64 1)) v0 (.int .i64 1)) fun x0 =>
 bS (gd x0 false (some (v0,G)) G) fun x1 G2 =>
 bS (gd x0 false (bP (bn Q q .gtr 3 (.tmp 7) (.const (.int .i64 4096)) x1 (.int .i64 4096)) fun y=>some (y,G2)) G2) fun x3 G4 =>
 bP (pickV x0 (.bool true) x3) fun x5 =>
 ifV x5 (
 some (.tuple #[(.pointer none),(.int .i64 3)],G4)) (
 bS (al Q q 110 z110 G4) fun x6 G7 =>
 bP (bd Q q 112 z112 [(0,0,1),(1,1,1)] [x6,v0]) fun x8 =>
 bS (bx q x8 G7) fun x9 G10 =>
 some (.tuple #[x9,(.int .i64 0)],G10))
theorem m10 {e:Ex} {E:Ev} (h:ExLe Q e E) (v0:Value) (G:GS):Ref (s10 true e v0 G) (s10 false (Ex.of E) v0 G):=by
 unfold s10
 exact Ref.gq
theorem f10 {orc:FuncId → Bool} {e:Ex} (h:ExLe Q e (E orc)) (v0:Value) (G:GS):Ref (s10 true e v0 G) ((E orc).cl 10 [v0] G) :=
 fun r hr=>cl_sxE_some Q orc (vs:=[v0]) G Tryz.func10 (by kernel_rfl) (by kernel_rfl) (by kernel_rfl) (by kernel_rfl) (by kernel_rfl) (by kernel_rfl) (m10 h v0 G r hr)
noncomputable def s11 (q:Bool) (e:Ex) (v0:Value) (G:GS):Option (Value × GS) :=
 bP (bn Q q .lss 3 (.tmp 4) (.const (.int .i64 1)) v0 (.int .i64 1)) fun x0 =>
 bS (gd x0 false (some (v0,G)) G) fun x1 G2 =>
 bS (gd x0 false (bP (bn Q q .gtr 3 (.tmp 7) (.const (.int .i64 4096)) x1 (.int .i64 4096)) fun y=>some (y,G2)) G2) fun x3 G4 =>
 bP (pickV x0 (.bool true) x3) fun x5 =>
 ifV x5 (
 some (.tuple #[(.pointer none),(.int .i64 3)],G4)) (
 bS (mk Q q 24 1 8 z39 v0 v0 G4) fun x6 G7 =>
 bP (bd Q q 114 z114 [(0,0,1)] [x6]) fun x8 =>
 bS (bx q x8 G7) fun x9 G10 =>
 some (.tuple #[x9,(.int .i64 0)],G10))
theorem m11 {e:Ex} {E:Ev} (h:ExLe Q e E) (v0:Value) (G:GS):Ref (s11 true e v0 G) (s11 false (Ex.of E) v0 G):=by
 unfold s11
 exact Ref.gq
theorem f11 {orc:FuncId → Bool} {e:Ex} (h:ExLe Q e (E orc)) (v0:Value) (G:GS):Ref (s11 true e v0 G) ((E orc).cl 11 [v0] G) :=
 fun r hr=>cl_sxE_some Q orc (vs:=[v0]) G Tryz.func11 (by kernel_rfl) (by kernel_rfl) (by kernel_rfl) (by kernel_rfl) (by kernel_rfl) (by kernel_rfl) (m11 h v0 G r hr)
noncomputable def s14 (q:Bool) (e:Ex) (v0 v1 v2:Value) (G:GS):Option (Value × GS) :=
 bS (e.ev.cl 52 [v0,v1] G) fun x0 G1 =>
 bP (bd Q q 126 z126 [(0,0,1),(1,1,1)] [x0,v2]) fun x2 =>
 bS (al Q q 126 z126 G1) fun x3 G4 =>
 bP (st Q q 126 3 x3 x2 G4) fun G5 =>
 bP (fa Q q 126 0 0 x3) fun x6 =>
 bP (ld Q q 123 x6 G5) fun x7 =>
 bP (lda Q q 126 3 x3 G5) fun x8 =>
 bS (e.ev.cl 53 [v0,(.int .i64 2),v1,x7,(.func (.func 54) #[x8] #[])] G5) fun x9 G10 =>
 some (.tuple #[],G10)
theorem m14 {e:Ex} {E:Ev} (h:ExLe Q e E) (v0 v1 v2:Value) (G:GS):Ref (s14 true e v0 v1 v2 G) (s14 false (Ex.of E) v0 v1 v2 G):=by
 unfold s14
 exact Ref.gq
theorem f14 {orc:FuncId → Bool} {e:Ex} (h:ExLe Q e (E orc)) (v0 v1 v2:Value) (G:GS):Ref (s14 true e v0 v1 v2 G) ((E orc).cl 14 [v0,v1,v2] G) :=
 fun r hr=>cl_sxE_some Q orc (vs:=[v0,v1,v2]) G Tryz.func14 (by kernel_rfl) (by kernel_rfl) (by kernel_rfl) (by kernel_rfl) (by kernel_rfl) (by kernel_rfl) (m14 h v0 v1 v2 G r hr)
noncomputable def s15 (q:Bool) (e:Ex) (v0 v1 v2:Value) (G:GS):Option (Value × GS) :=
 bS (e.ev.cl 55 [v0,(.int .i64 2),v1,(.bool true),v2] G) fun x0 G1 =>
 some (.tuple #[],G1)
theorem m15 {e:Ex} {E:Ev} (h:ExLe Q e E) (v0 v1 v2:Value) (G:GS):Ref (s15 true e v0 v1 v2 G) (s15 false (Ex.of E) v0 v1 v2 G):=by
 unfold s15
 exact Ref.gq
theorem f15 {orc:FuncId → Bool} {e:Ex} (h:ExLe Q e (E orc)) (v0 v1 v2:Value) (G:GS):Ref (s15 true e v0 v1 v2 G) ((E orc).cl 15 [v0,v1,v2] G) :=
 fun r hr=>cl_sxE_some Q orc (vs:=[v0,v1,v2]) G Tryz.func15 (by kernel_rfl) (by kernel_rfl) (by kernel_rfl) (by kernel_rfl) (by kernel_rfl) (by kernel_rfl) (m15 h v0 v1 v2 G r hr)
noncomputable def s16 (q:Bool) (e:Ex) (v0 v1:Value) (G:GS):Option (Value × GS) :=
 bP (bn Q q .leq 3 (.tmp 5) (.const (.int .i64 0)) v1 (.int .i64 0)) fun x0 =>
 ifV x0 (
 some ((.int .i64 0),G)) (
 bP (bn Q q .rem 3 (.tmp 7) (.tmp 8) v0 v1) fun x1 =>
 bP (bn Q q .lss 3 (.tmp 10) (.const (.int .i64 0)) x1 (.int .i64 0)) fun x2 =>
 ifV x2 (
 bP (bn Q q .add 3 (.tmp 12) (.tmp 13) x1 v1) fun x3 =>
 some (x3,G)) (
 some (x1,G)))
theorem m16 {e:Ex} {E:Ev} (h:ExLe Q e E) (v0 v1:Value) (G:GS):Ref (s16 true e v0 v1 G) (s16 false (Ex.of E) v0 v1 G):=by
 unfold s16
 exact Ref.gq
theorem f16 {orc:FuncId → Bool} {e:Ex} (h:ExLe Q e (E orc)) (v0 v1:Value) (G:GS):Ref (s16 true e v0 v1 G) ((E orc).cl 16 [v0,v1] G) :=
 fun r hr=>cl_sxE_some Q orc (vs:=[v0,v1]) G Tryz.func16 (by kernel_rfl) (by kernel_rfl) (by kernel_rfl) (by kernel_rfl) (by kernel_rfl) (by kernel_rfl) (m16 h v0 v1 G r hr)
noncomputable def s25 (q:Bool) (e:Ex) (v0:Value) (G:GS):Option (Value × GS) :=
 bS (al Q q 59 z59 G) fun x0 G1 =>
 bP (ep Q q false 30 (.tmp 3) (.const (.pointer none)) v0 (.pointer none)) fun x2 =>
 ifV x2 (
 bP (bd Q q 59 z59 [] []) fun x3 =>
 bP (st Q q 59 5 x0 x3 G1) fun G4 =>
 bP (lda Q q 59 5 x0 G4) fun x5 =>
 some (x5,G4)) (
 bP (pNil v0) fun x6 =>
 bP (fa Q q 112 2 2 x6) fun x7 =>
 bP (lda Q q 59 5 x7 G1) fun x8 =>
 bP (st Q q 59 5 x0 x8 G1) fun G9 =>
 bP (lda Q q 59 5 x0 G9) fun x10 =>
 some (x10,G9))
theorem m25 {e:Ex} {E:Ev} (h:ExLe Q e E) (v0:Value) (G:GS):Ref (s25 true e v0 G) (s25 false (Ex.of E) v0 G):=by
 unfold s25
 exact Ref.gq
theorem f25 {orc:FuncId → Bool} {e:Ex} (h:ExLe Q e (E orc)) (v0:Value) (G:GS):Ref (s25 true e v0 G) ((E orc).cl 25 [v0] G) :=
 fun r hr=>cl_sxE_some Q orc (vs:=[v0]) G Tryz.func25 (by kernel_rfl) (by kernel_rfl) (by kernel_rfl) (by kernel_rfl) (by kernel_rfl) (by kernel_rfl) (m25 h v0 G r hr)
noncomputable def s26 (q:Bool) (e:Ex) (v0:Value) (G:GS):Option (Value × GS) :=
 bS (al Q q 59 z59 G) fun x0 G1 =>
 bP (pNil v0) fun x2 =>
 bP (fa Q q 114 1 1 x2) fun x3 =>
 bP (lda Q q 59 5 x3 G1) fun x4 =>
 bP (st Q q 59 5 x0 x4 G1) fun G5 =>
 bP (lda Q q 59 5 x0 G5) fun x6 =>
 some (x6,G5)
theorem m26 {e:Ex} {E:Ev} (h:ExLe Q e E) (v0:Value) (G:GS):Ref (s26 true e v0 G) (s26 false (Ex.of E) v0 G):=by
 unfold s26
 exact Ref.gq
theorem f26 {orc:FuncId → Bool} {e:Ex} (h:ExLe Q e (E orc)) (v0:Value) (G:GS):Ref (s26 true e v0 G) ((E orc).cl 26 [v0] G) :=
 fun r hr=>cl_sxE_some Q orc (vs:=[v0]) G Tryz.func26 (by kernel_rfl) (by kernel_rfl) (by kernel_rfl) (by kernel_rfl) (by kernel_rfl) (by kernel_rfl) (m26 h v0 G r hr)
noncomputable def s27 (q:Bool) (e:Ex) (v0:Value) (G:GS):Option (Value × GS) :=
 bP (ep Q q false 30 (.tmp 3) (.const (.pointer none)) v0 (.pointer none)) fun x0 =>
 ifV x0 (
 some ((.int .i64 0),G)) (
 bP (pNil v0) fun x1 =>
 bP (fa Q q 112 3 7 x1) fun x2 =>
 bP (ld Q q 3 x2 G) fun x3 =>
 some (x3,G))
theorem m27 {e:Ex} {E:Ev} (h:ExLe Q e E) (v0:Value) (G:GS):Ref (s27 true e v0 G) (s27 false (Ex.of E) v0 G):=by
 unfold s27
 exact Ref.gq
theorem f27 {orc:FuncId → Bool} {e:Ex} (h:ExLe Q e (E orc)) (v0:Value) (G:GS):Ref (s27 true e v0 G) ((E orc).cl 27 [v0] G) :=
 fun r hr=>cl_sxE_some Q orc (vs:=[v0]) G Tryz.func27 (by kernel_rfl) (by kernel_rfl) (by kernel_rfl) (by kernel_rfl) (by kernel_rfl) (by kernel_rfl) (m27 h v0 G r hr)
noncomputable def s28 (q:Bool) (e:Ex) (v0:Value) (G:GS):Option (Value × GS) :=
 bP (pNil v0) fun x0 =>
 bP (fa Q q 114 2 6 x0) fun x1 =>
 bP (ld Q q 3 x1 G) fun x2 =>
 some (x2,G)
theorem m28 {e:Ex} {E:Ev} (h:ExLe Q e E) (v0:Value) (G:GS):Ref (s28 true e v0 G) (s28 false (Ex.of E) v0 G):=by
 unfold s28
 exact Ref.gq
theorem f28 {orc:FuncId → Bool} {e:Ex} (h:ExLe Q e (E orc)) (v0:Value) (G:GS):Ref (s28 true e v0 G) ((E orc).cl 28 [v0] G) :=
 fun r hr=>cl_sxE_some Q orc (vs:=[v0]) G Tryz.func28 (by kernel_rfl) (by kernel_rfl) (by kernel_rfl) (by kernel_rfl) (by kernel_rfl) (by kernel_rfl) (m28 h v0 G r hr)
noncomputable def b29_0 (q:Bool) (e:Ex) (lp:Env → GS → Option (Exit × Env × GS)) (τ:Env) (G:GS):Option (Exit × Env × GS) :=
 bV q (τ 0) fun a0_ =>
 bV q (τ 1) fun a1_ =>
 bV q (τ 5) fun a5_ =>
 bV q (τ 6) fun a6_ =>
 bS (gd a5_ true (some (a6_,G)) G) fun x0 G1 =>
 bS (gd a5_ true (some (a0_,G1)) G1) fun x2 G3 =>
 bS (gd a5_ true (bP (ln Q q 24 x2) fun y=>some (y,G3)) G3) fun x4 G5 =>
 bS (gd a5_ true (bP (bn Q q .lss 3 (.tmp 14) (.tmp 16) x0 x4) fun y=>some (y,G5)) G5) fun x6 G7 =>
 bP (pickV a5_ x6 (.bool false)) fun x8 =>
 ifV x8 (
 bP (ias Q q 24 1 a0_ a6_) fun x9 =>
 bP (ld Q q 39 x9 (G7.room 10)) fun x10 =>
 bP (ias Q q 24 1 a1_ a6_) fun x11 =>
 bP (ld Q q 39 x11 (G7.room 10)) fun x12 =>
 bP (bn Q q .eql 39 (.tmp 24) (.tmp 28) x10 x12) fun x13 =>
 bP (bn Q q .add 3 (.tmp 19) (.const (.int .i64 1)) a6_ (.int .i64 1)) fun x14 =>
 lp (xq q 31 τ [(6,x14),(20,x14),(19,a6_),(5,x13),(29,x13),(28,x12),(27,x11),(26,a6_),(25,a1_),(24,x10),(23,x9),(22,a6_),(21,a0_),(18,x8),(17,x6),(16,x4),(15,x2),(14,x0),(13,a5_),(12,a5_)] [(0,a0_),(1,a1_)]) (G7.room 10)) (
 some ((.exit 0),xq q 31 τ [(18,x8),(17,x6),(16,x4),(15,x2),(14,x0),(13,a5_),(12,a5_)] [(0,a0_),(1,a1_),(5,a5_),(6,a6_)],G7))
theorem mb29_0 {e:Ex} {E:Ev} (h:ExLe Q e E) {lp lp':Env → GS → Option (Exit × Env × GS)} (hlp:LpLe lp lp') (τ:Env) (G:GS):Ref (b29_0 true e lp τ G) (b29_0 false (Ex.of E) lp' τ G):=by
 unfold b29_0
 exact Ref.gq
theorem l29_0 {orc:FuncId → Bool} {e:Ex} (h:ExLe Q e (E orc)) (lp:Env → GS → Option (Exit × Env × GS)) (hlp:∀ τ G,Ref (lp τ G) (mapE ((E orc).lp (subAt [1,1,0,1,0,0] (bodyOf Tryz.f29)) (lst 31 τ) G))) (T:List Value) (G:GS) (hT:T.length = 31):Ref (b29_0 true e lp (nth undef T) G) (mapE ((E orc).lp (subAt [1,1,0,1,0,0] (bodyOf Tryz.f29)) T G)) :=
 fun r hr=>lp_sxN Q orc G hT (by kernel_rfl) (mb29_0 h ⟨hlp⟩ _ _ r hr)
noncomputable def s29 (q:Bool) (e:Ex) (v0 v1:Value) (G:GS):Option (Value × GS) :=
 bP (ln Q q 24 v0) fun x0 =>
 bP (ln Q q 24 v1) fun x1 =>
 bP (bn Q q .eql 3 (.tmp 8) (.tmp 10) x0 x1) fun x2 =>
 bLq q e 29 0 (subAt [1,1,0,1,0,0] (bodyOf Tryz.f29)) 31 (nth undef [v0,v1]) [(6,(.int .i64 0)),(5,x2),(11,x2),(10,x1),(9,v1),(8,x0),(7,v0),(4,(.bool false))] [] G fun e3 t4 G5 =>
 bV q (t4 5) fun t4x5_ =>
 ifE e3 (.exit 0) (
 some (t4x5_,G5)) (none)
theorem m29 {e:Ex} {E:Ev} (h:ExLe Q e E) (v0 v1:Value) (G:GS):Ref (s29 true e v0 v1 G) (s29 false (Ex.of E) v0 v1 G):=by
 unfold s29
 exact Ref.gq
theorem f29 {orc:FuncId → Bool} {e:Ex} (h:ExLe Q e (E orc)) (v0 v1:Value) (G:GS):Ref (s29 true e v0 v1 G) ((E orc).cl 29 [v0,v1] G) :=
 fun r hr=>cl_sxE_some Q orc (vs:=[v0,v1]) G Tryz.func29 (by kernel_rfl) (by kernel_rfl) (by kernel_rfl) (by kernel_rfl) (by kernel_rfl) (by kernel_rfl) (m29 h v0 v1 G r hr)
noncomputable def b30_0 (q:Bool) (e:Ex) (lp:Env → GS → Option (Exit × Env × GS)) (τ:Env) (G:GS):Option (Exit × Env × GS) :=
 bV q (τ 3) fun a3_ =>
 bV q (τ 29) fun a29_ =>
 bV q (τ 30) fun a30_ =>
 bV q (τ 31) fun a31_ =>
 bP (bn Q q .lss 3 (.tmp 31) (.tmp 30) a31_ a30_) fun x0 =>
 ifV x0 (
 bP (ias Q q 143 1 a29_ a31_) fun x1 =>
 bP (ld Q q 108 x1 G) fun x2 =>
 bP (ias Q q 24 1 a3_ a31_) fun x3 =>
 bP (st Q q 39 1 x3 x2 G) fun G4 =>
 bP (bn Q q .add 3 (.tmp 31) (.const (.int .i64 1)) a31_ (.int .i64 1)) fun x5 =>
 lp (xq q 42 τ [(31,x5),(40,x5),(39,x3),(38,x2),(37,a31_),(36,a3_),(5,x2),(4,a31_),(35,x2),(34,x1),(33,a31_),(32,x0)] [(3,a3_),(29,a29_),(30,a30_)]) G4) (
 some ((.exit 0),xq q 42 τ [(32,x0)] [(3,a3_),(29,a29_),(30,a30_),(31,a31_)],G))
theorem mb30_0 {e:Ex} {E:Ev} (h:ExLe Q e E) {lp lp':Env → GS → Option (Exit × Env × GS)} (hlp:LpLe lp lp') (τ:Env) (G:GS):Ref (b30_0 true e lp τ G) (b30_0 false (Ex.of E) lp' τ G):=by
 unfold b30_0
 exact Ref.gq
theorem l30_0 {orc:FuncId → Bool} {e:Ex} (h:ExLe Q e (E orc)) (lp:Env → GS → Option (Exit × Env × GS)) (hlp:∀ τ G,Ref (lp τ G) (mapE ((E orc).lp (subAt [1,1,1,0,1,0,0] (bodyOf Tryz.f30)) (lst 42 τ) G))) (T:List Value) (G:GS) (hT:T.length = 42):Ref (b30_0 true e lp (nth undef T) G) (mapE ((E orc).lp (subAt [1,1,1,0,1,0,0] (bodyOf Tryz.f30)) T G)) :=
 fun r hr=>lp_sxN Q orc G hT (by kernel_rfl) (mb30_0 h ⟨hlp⟩ _ _ r hr)
noncomputable def s30 (q:Bool) (e:Ex) (v0:Value) (G:GS):Option (Value × GS) :=
 bP (ep Q q false 30 (.tmp 6) (.const (.pointer none)) v0 (.pointer none)) fun x0 =>
 bS (gd x0 false (some (v0,G)) G) fun x1 G2 =>
 bS (gd x0 false (bP (pNil x1) fun y=>some (y,G2)) G2) fun x3 G4 =>
 bS (gd x0 false (bP (fa Q q 112 0 0 x3) fun y=>some (y,G4)) G4) fun x5 G6 =>
 bS (gd x0 false (bP (ld Q q 107 x5 G6) fun y=>some (y,G6)) G6) fun x7 G8 =>
 bS (gd x0 false (bP (ep Q q false 107 (.tmp 12) (.const (.pointer none)) x7 (.pointer none)) fun y=>some (y,G8)) G8) fun x9 G10 =>
 bP (pickV x0 (.bool true) x9) fun x11 =>
 ifV x11 (
 some ((.slice none 0 0),G10)) (
 bP (pNil v0) fun x12 =>
 bP (fa Q q 112 1 1 x12) fun x13 =>
 bP (ld Q q 3 x13 G10) fun x14 =>
 bS (mk Q q 24 1 8 z39 x14 x14 G10) fun x15 G16 =>
 bP (pNil v0) fun x17 =>
 bP (fa Q q 112 0 0 x17) fun x18 =>
 bP (ld Q q 107 x18 (G16.room 12)) fun x19 =>
 bP (pNil x19) fun x20 =>
 bP (pNil v0) fun x21 =>
 bP (fa Q q 112 1 1 x21) fun x22 =>
 bP (ld Q q 3 x22 (G16.room 12)) fun x23 =>
 bP (sla Q q 110 4096 1 x20 none (some x23) none (G16.room 12)) fun x24 =>
 bP (ln Q q 143 x24) fun x25 =>
 bLq q e 30 0 (subAt [1,1,1,0,1,0,0] (bodyOf Tryz.f30)) 42 (nth undef [v0]) [(31,(.int .i64 0)),(30,x25),(29,x24),(28,x23),(27,x22),(26,x21),(25,v0),(24,x20),(23,x19),(22,x18),(21,x17),(20,v0),(3,x15),(19,x15),(18,x14),(17,x13),(16,x12),(15,v0),(14,x11),(13,x9),(12,x7),(11,x5),(10,x3),(9,x1),(8,x0),(7,x0),(6,v0),(2,(.slice none 0 0))] [] (G16.room 12) fun e26 t27 G28 =>
 bV q (t27 3) fun t27x3_ =>
 ifE e26 (.exit 0) (
 some (t27x3_,G28)) (none))
theorem m30 {e:Ex} {E:Ev} (h:ExLe Q e E) (v0:Value) (G:GS):Ref (s30 true e v0 G) (s30 false (Ex.of E) v0 G):=by
 unfold s30
 exact Ref.gq
theorem f30 {orc:FuncId → Bool} {e:Ex} (h:ExLe Q e (E orc)) (v0:Value) (G:GS):Ref (s30 true e v0 G) ((E orc).cl 30 [v0] G) :=
 fun r hr=>cl_sxE_some Q orc (vs:=[v0]) G Tryz.func30 (by kernel_rfl) (by kernel_rfl) (by kernel_rfl) (by kernel_rfl) (by kernel_rfl) (by kernel_rfl) (m30 h v0 G r hr)
noncomputable def s31 (q:Bool) (e:Ex) (v0:Value) (G:GS):Option (Value × GS) :=
 bP (pNil v0) fun x0 =>
 bP (fa Q q 114 0 0 x0) fun x1 =>
 bP (ld Q q 24 x1 G) fun x2 =>
 bS (e.ev.cl 72 [x2] G) fun x3 G4 =>
 some (x3,G4)
theorem m31 {e:Ex} {E:Ev} (h:ExLe Q e E) (v0:Value) (G:GS):Ref (s31 true e v0 G) (s31 false (Ex.of E) v0 G):=by
 unfold s31
 exact Ref.gq
theorem f31 {orc:FuncId → Bool} {e:Ex} (h:ExLe Q e (E orc)) (v0:Value) (G:GS):Ref (s31 true e v0 G) ((E orc).cl 31 [v0] G) :=
 fun r hr=>cl_sxE_some Q orc (vs:=[v0]) G Tryz.func31 (by kernel_rfl) (by kernel_rfl) (by kernel_rfl) (by kernel_rfl) (by kernel_rfl) (by kernel_rfl) (m31 h v0 G r hr)
noncomputable def s33 (q:Bool) (e:Ex) (v0 v1:Value) (G:GS):Option (Value × GS) :=
 bS (bx q v0 G) fun x0 G1 =>
 bP (bn Q q .lss 3 (.tmp 6) (.const (.int .i64 1)) v1 (.int .i64 1)) fun x2 =>
 bS (gd x2 false (some (v1,G1)) G1) fun x3 G4 =>
 bS (gd x2 false (bP (bn Q q .gtr 3 (.tmp 9) (.const (.int .i64 4096)) x3 (.int .i64 4096)) fun y=>some (y,G4)) G4) fun x5 G6 =>
 bP (pickV x2 (.bool true) x5) fun x7 =>
 ifV x7 (
 some ((.int .i64 3),G6)) (
 bP (lda Q q 75 13 x0 (G6.room 22)) fun x8 =>
 bS (e.ev.cl 73 [x8] (G6.room 22)) fun x10 G9 =>
 bP (un Q q .not x10) fun x11 =>
 bS (gd x11 false (bP (fa Q q 75 3 3 x0) fun y=>some (y,G9)) G9) fun x12 _ =>
 bS (gd x11 false (bP (lda Q q 73 10 x12 G9) fun y=>some (y,G9)) G9) fun x13 _ =>
 bS (gd x11 false (some (v1,G9)) G9) fun x14 _ =>
 bS (gd x11 false (bS (e.ev.cl 74 [x13,x14] G9) fun y G=>some (y,G)) G9) fun x16 G15 =>
 bS (gd x11 false (bP (bn Q q .neq 26 (.tmp 20) (.const (.int .i64 0)) x16 (.int .i64 0)) fun y=>some (y,G15)) G15) fun x17 _ =>
 bP (pickV x11 (.bool true) x17) fun x18 =>
 bS (gd x18 false (bP (fa Q q 75 3 3 x0) fun y=>some (y,G15)) G15) fun x19 _ =>
 bS (gd x18 false (bP (lda Q q 73 10 x19 G15) fun y=>some (y,G15)) G15) fun x20 _ =>
 bS (gd x18 false (bS (e.ev.cl 76 [x20] G15) fun y G=>some (y,G)) G15) fun x22 G21 =>
 bS (gd x18 false (bP (lda Q q 75 13 x0 G21) fun y=>some (y,G21)) G21) fun x23 _ =>
 chk (((!(gB x18 false) || (!(gB x18 false) || sameO (lda Q q 75 13 x0 G15) x23)) && true)) <|
 bS (gd x18 false (bS (e.ev.cl 77 [x23] G21) fun y G=>some (y,G)) G21) fun x25 G24 =>
 bS (gd x18 false (bS (ap Q q 52 52 1 8 x22 x25 G24) fun y G=>some (y,G)) G24) fun x27 G26 =>
 bS (gd x18 false (some (v1,G26)) G26) fun x28 _ =>
 bS (gd x18 false (bS (e.ev.cl 75 [x27,x28] G26) fun y G=>some (y,G)) G26) fun x30 G29 =>
 bS (gd x18 false (bP (un Q q .not x30) fun y=>some (y,G29)) G29) fun x31 _ =>
 bP (pickV x18 (.bool true) x31) fun x32 =>
 ifV x32 (
 some ((.int .i64 2),G29)) (
 some ((.int .i64 0),G29)))
theorem m33 {e:Ex} {E:Ev} (h:ExLe Q e E) (v0 v1:Value) (G:GS):Ref (s33 true e v0 v1 G) (s33 false (Ex.of E) v0 v1 G):=by
 unfold s33
 exact Ref.gq
theorem f33 {orc:FuncId → Bool} {e:Ex} (h:ExLe Q e (E orc)) (v0 v1:Value) (G:GS):Ref (s33 true e v0 v1 G) ((E orc).cl 33 [v0,v1] G) :=
 fun r hr=>cl_sxE_some Q orc (vs:=[v0,v1]) G Tryz.func33 (by kernel_rfl) (by kernel_rfl) (by kernel_rfl) (by kernel_rfl) (by kernel_rfl) (by kernel_rfl) (m33 h v0 v1 G r hr)
noncomputable def b35_0 (q:Bool) (e:Ex) (lp:Env → GS → Option (Exit × Env × GS)) (τ:Env) (G:GS):Option (Exit × Env × GS) :=
 bV q (τ 2) fun a2_ =>
 bV q (τ 8) fun a8_ =>
 bV q (τ 10) fun a10_ =>
 bV q (τ 12) fun a12_ =>
 bP (ln Q q 24 a2_) fun x0 =>
 bP (bn Q q .lss 3 (.tmp 39) (.tmp 41) a12_ x0) fun x1 =>
 ifV x1 (
 bP (ias Q q 24 1 a2_ a12_) fun x2 =>
 bP (ld Q q 39 x2 G) fun x3 =>
 bS (e.ev.cl 14 [a8_,a12_,x3] G) fun x4 G5 =>
 bP (ias Q q 24 1 a2_ a12_) fun x6 =>
 bP (ld Q q 39 x6 G5) fun x7 =>
 bS (e.ev.cl 15 [a10_,a12_,x7] G5) fun x8 G9 =>
 bP (bn Q q .add 3 (.tmp 43) (.const (.int .i64 1)) a12_ (.int .i64 1)) fun x10 =>
 lp (xq q 61 τ [(12,x10),(44,x10),(43,a12_),(58,x8),(57,x7),(56,x6),(55,a12_),(54,a2_),(53,a12_),(52,a10_),(51,x4),(50,x3),(49,x2),(48,a12_),(47,a2_),(46,a12_),(45,a8_),(42,x1),(41,x0),(40,a2_),(39,a12_)] [(2,a2_),(8,a8_),(10,a10_)]) G9) (
 some ((.exit 0),xq q 61 τ [(42,x1),(41,x0),(40,a2_),(39,a12_)] [(2,a2_),(8,a8_),(10,a10_),(12,a12_)],G))
theorem mb35_0 {e:Ex} {E:Ev} (h:ExLe Q e E) {lp lp':Env → GS → Option (Exit × Env × GS)} (hlp:LpLe lp lp') (τ:Env) (G:GS):Ref (b35_0 true e lp τ G) (b35_0 false (Ex.of E) lp' τ G):=by
 unfold b35_0
 exact Ref.gq
theorem l35_0 {orc:FuncId → Bool} {e:Ex} (h:ExLe Q e (E orc)) (lp:Env → GS → Option (Exit × Env × GS)) (hlp:∀ τ G,Ref (lp τ G) (mapE ((E orc).lp (subAt [1,1,1,1,1,1,0,1,0,0] (bodyOf Tryz.f35)) (lst 61 τ) G))) (T:List Value) (G:GS) (hT:T.length = 61):Ref (b35_0 true e lp (nth undef T) G) (mapE ((E orc).lp (subAt [1,1,1,1,1,1,0,1,0,0] (bodyOf Tryz.f35)) T G)) :=
 fun r hr=>lp_sxN Q orc G hT (by kernel_rfl) (mb35_0 h ⟨hlp⟩ _ _ r hr)
noncomputable def s35 (q:Bool) (e:Ex) (v0 v1 v2:Value) (G:GS):Option (Value × GS) :=
 bS (bx q v0 G) fun x0 G1 =>
 bS (e.ev.cl 10 [v1] G1) fun x2 G3 =>
 bP (pExtract x2 0) fun x4 =>
 bP (pExtract x2 1) fun x5 =>
 bS (e.ev.cl 11 [v1] G3) fun x6 G7 =>
 bP (pExtract x6 0) fun x8 =>
 bP (pExtract x6 1) fun x9 =>
 bP (bn Q q .neq 26 (.tmp 23) (.const (.int .i64 0)) x5 (.int .i64 0)) fun x10 =>
 bS (gd x10 false (some (x9,G7)) G7) fun x11 G12 =>
 bS (gd x10 false (bP (bn Q q .neq 26 (.tmp 26) (.const (.int .i64 0)) x11 (.int .i64 0)) fun y=>some (y,G12)) G12) fun x13 G14 =>
 bP (pickV x10 (.bool true) x13) fun x15 =>
 bS (gd x15 false (some (x4,G14)) G14) fun x16 G17 =>
 bS (gd x15 false (bP (ep Q q false 30 (.tmp 30) (.const (.pointer none)) x16 (.pointer none)) fun y=>some (y,G17)) G17) fun x18 G19 =>
 bP (pickV x15 (.bool true) x18) fun x20 =>
 ifV x20 (
 some (.tuple #[(.pointer none),(.pointer none)],G19)) (
 bP (lda Q q 75 13 x0 G19) fun x21 =>
 bS (e.ev.cl 84 [x21,x4] G19) fun x22 G23 =>
 bP (lda Q q 75 13 x0 G23) fun x24 =>
 bS (e.ev.cl 85 [x24,x8] G23) fun x25 G26 =>
 bLq q e 35 0 (subAt [1,1,1,1,1,1,0,1,0,0] (bodyOf Tryz.f35)) 61 (nth undef [v0,v1,v2]) [(12,(.int .i64 0)),(38,x25),(37,x8),(36,x24),(35,x22),(34,x4),(33,x21),(32,x20),(31,x18),(30,x16),(29,x15),(28,x15),(27,x13),(26,x11),(25,x10),(24,x10),(23,x5),(11,x9),(10,x8),(22,x9),(21,x8),(18,x6),(20,x6),(19,v1),(9,x5),(8,x4),(17,x5),(16,x4),(13,x2),(15,x2),(14,v1),(7,(.pointer none)),(6,(.pointer none)),(3,x0)] [] G26 fun e27 t28 G29 =>
 bV q (t28 8) fun t28x8_ =>
 bV q (t28 10) fun t28x10_ =>
 ifE e27 (.exit 0) (
 some (.tuple #[t28x8_,t28x10_],G29)) (none))
theorem m35 {e:Ex} {E:Ev} (h:ExLe Q e E) (v0 v1 v2:Value) (G:GS):Ref (s35 true e v0 v1 v2 G) (s35 false (Ex.of E) v0 v1 v2 G):=by
 unfold s35
 exact Ref.gq
theorem f35 {orc:FuncId → Bool} {e:Ex} (h:ExLe Q e (E orc)) (v0 v1 v2:Value) (G:GS):Ref (s35 true e v0 v1 v2 G) ((E orc).cl 35 [v0,v1,v2] G) :=
 fun r hr=>cl_sxE_some Q orc (vs:=[v0,v1,v2]) G Tryz.func35 (by kernel_rfl) (by kernel_rfl) (by kernel_rfl) (by kernel_rfl) (by kernel_rfl) (by kernel_rfl) (m35 h v0 v1 v2 G r hr)
noncomputable def s36 (q:Bool) (e:Ex) (v0:Value) (G:GS):Option (Value × GS) :=
 bS (bx q v0 G) fun x0 G1 =>
 bP (lda Q q 75 13 x0 G1) fun x2 =>
 bS (e.ev.cl 86 [x2] G1) fun x3 G4 =>
 bP (bd Q q 165 z165 [(0,0,26)] [x3]) fun x5 =>
 bS (bx q x5 G4) fun x6 G7 =>
 some (x6,G7)
theorem m36 {e:Ex} {E:Ev} (h:ExLe Q e E) (v0:Value) (G:GS):Ref (s36 true e v0 G) (s36 false (Ex.of E) v0 G):=by
 unfold s36
 exact Ref.gq
theorem f36 {orc:FuncId → Bool} {e:Ex} (h:ExLe Q e (E orc)) (v0:Value) (G:GS):Ref (s36 true e v0 G) ((E orc).cl 36 [v0] G) :=
 fun r hr=>cl_sxE_some Q orc (vs:=[v0]) G Tryz.func36 (by kernel_rfl) (by kernel_rfl) (by kernel_rfl) (by kernel_rfl) (by kernel_rfl) (by kernel_rfl) (m36 h v0 G r hr)
noncomputable def s37 (q:Bool) (e:Ex) (v0:Value) (G:GS):Option (Value × GS) :=
 bS (bx q v0 G) fun x0 G1 =>
 bP (lda Q q 75 13 x0 G1) fun x2 =>
 bS (e.ev.cl 73 [x2] G1) fun x3 G4 =>
 bP (un Q q .not x3) fun x5 =>
 ifV x5 (
 bP (bd Q q 96 z96 [(2,14,1),(12,25,1)] [(.int .i64 99),(.int .i64 2)]) fun x6 =>
 bS (bx q x6 G4) fun x7 G8 =>
 some (x7,G8)) (
 bP (lda Q q 75 13 x0 G4) fun x9 =>
 bP (bd Q q 96 z96 [(0,0,13),(2,14,1)] [x9,(.int .i64 1)]) fun x10 =>
 bS (bx q x10 G4) fun x11 G12 =>
 some (x11,G12))
theorem m37 {e:Ex} {E:Ev} (h:ExLe Q e E) (v0:Value) (G:GS):Ref (s37 true e v0 G) (s37 false (Ex.of E) v0 G):=by
 unfold s37
 exact Ref.gq
theorem f37 {orc:FuncId → Bool} {e:Ex} (h:ExLe Q e (E orc)) (v0:Value) (G:GS):Ref (s37 true e v0 G) ((E orc).cl 37 [v0] G) :=
 fun r hr=>cl_sxE_some Q orc (vs:=[v0]) G Tryz.func37 (by kernel_rfl) (by kernel_rfl) (by kernel_rfl) (by kernel_rfl) (by kernel_rfl) (by kernel_rfl) (m37 h v0 G r hr)
noncomputable def s38 (q:Bool) (e:Ex) (v0:Value) (G:GS):Option (Value × GS) :=
 bS (bx q v0 G) fun x0 G1 =>
 bP (lda Q q 75 13 x0 G1) fun x2 =>
 bS (e.ev.cl 87 [x2] G1) fun x3 G4 =>
 bP (bd Q q 171 z171 [(0,0,22)] [x3]) fun x5 =>
 bS (bx q x5 G4) fun x6 G7 =>
 some (x6,G7)
theorem m38 {e:Ex} {E:Ev} (h:ExLe Q e E) (v0:Value) (G:GS):Ref (s38 true e v0 G) (s38 false (Ex.of E) v0 G):=by
 unfold s38
 exact Ref.gq
theorem f38 {orc:FuncId → Bool} {e:Ex} (h:ExLe Q e (E orc)) (v0:Value) (G:GS):Ref (s38 true e v0 G) ((E orc).cl 38 [v0] G) :=
 fun r hr=>cl_sxE_some Q orc (vs:=[v0]) G Tryz.func38 (by kernel_rfl) (by kernel_rfl) (by kernel_rfl) (by kernel_rfl) (by kernel_rfl) (by kernel_rfl) (m38 h v0 G r hr)
noncomputable def s39 (q:Bool) (e:Ex) (v0:Value) (G:GS):Option (Value × GS) :=
 bS (bx q v0 G) fun x0 G1 =>
 bP (lda Q q 75 13 x0 G1) fun x2 =>
 bS (e.ev.cl 37 [x2] G1) fun x3 G4 =>
 bP (pNil x3) fun x5 =>
 bP (lda Q q 96 26 x5 G4) fun x6 =>
 bP (bd Q q 98 z98 [(0,0,26)] [x6]) fun x7 =>
 bS (bx q x7 G4) fun x8 G9 =>
 bP (pNil x8) fun x10 =>
 bP (fa Q q 98 0 0 x10) fun x11 =>
 bP (fa Q q 96 1 13 x11) fun x12 =>
 bP (st Q q 4 1 x12 (.bool true) G9) fun G13 =>
 some (x8,G13)
theorem m39 {e:Ex} {E:Ev} (h:ExLe Q e E) (v0:Value) (G:GS):Ref (s39 true e v0 G) (s39 false (Ex.of E) v0 G):=by
 unfold s39
 exact Ref.gq
theorem f39 {orc:FuncId → Bool} {e:Ex} (h:ExLe Q e (E orc)) (v0:Value) (G:GS):Ref (s39 true e v0 G) ((E orc).cl 39 [v0] G) :=
 fun r hr=>cl_sxE_some Q orc (vs:=[v0]) G Tryz.func39 (by kernel_rfl) (by kernel_rfl) (by kernel_rfl) (by kernel_rfl) (by kernel_rfl) (by kernel_rfl) (m39 h v0 G r hr)
noncomputable def s40 (q:Bool) (e:Ex) (v0 v1 v2:Value) (G:GS):Option (Value × GS) :=
 bS (bx q v0 G) fun x0 G1 =>
 bP (fa Q q 89 2 2 x0) fun x2 =>
 bP (ld Q q 85 x2 G1) fun x3 =>
 bS (e.ev.cl 88 [x3,v2] G1) fun x4 G5 =>
 bP (fa Q q 89 2 2 x0) fun x6 =>
 bP (ld Q q 85 x6 G5) fun x7 =>
 bP (pNil x7) fun x8 =>
 bP (fa Q q 96 1 13 x8) fun x9 =>
 bP (ld Q q 4 x9 G5) fun x10 =>
 ifV x10 (
 bP (fa Q q 89 1 1 x0) fun x11 =>
 bP (ld Q q 87 x11 G5) fun x12 =>
 bS (e.ev.cl 89 [x12,v1] G5) fun x13 G14 =>
 bP (eb Q q false 4 (.tmp 20) (.tmp 21) x13 x4) fun x15 =>
 some (x15,G14)) (
 bP (fa Q q 89 0 0 x0) fun x16 =>
 bP (ld Q q 83 x16 G5) fun x17 =>
 bS (e.ev.cl 90 [x17,v1] G5) fun x18 G19 =>
 bP (eb Q q false 4 (.tmp 26) (.tmp 27) x18 x4) fun x20 =>
 some (x20,G19))
theorem m40 {e:Ex} {E:Ev} (h:ExLe Q e E) (v0 v1 v2:Value) (G:GS):Ref (s40 true e v0 v1 v2 G) (s40 false (Ex.of E) v0 v1 v2 G):=by
 unfold s40
 exact Ref.gq
theorem f40 {orc:FuncId → Bool} {e:Ex} (h:ExLe Q e (E orc)) (v0 v1 v2:Value) (G:GS):Ref (s40 true e v0 v1 v2 G) ((E orc).cl 40 [v0,v1,v2] G) :=
 fun r hr=>cl_sxE_some Q orc (vs:=[v0,v1,v2]) G Tryz.func40 (by kernel_rfl) (by kernel_rfl) (by kernel_rfl) (by kernel_rfl) (by kernel_rfl) (by kernel_rfl) (m40 h v0 v1 v2 G r hr)
noncomputable def s41 (q:Bool) (e:Ex) (v0:Value) (G:GS):Option (Value × GS) :=
 bS (bx q v0 G) fun x0 G1 =>
 bP (fa Q q 89 2 2 x0) fun x2 =>
 bP (ld Q q 85 x2 G1) fun x3 =>
 bS (e.ev.cl 91 [x3] G1) fun x4 G5 =>
 bP (pExtract x4 0) fun x6 =>
 bP (pExtract x4 1) fun x7 =>
 bS (al Q q 92 z92 G5) fun x8 G9 =>
 bP (st Q q 92 2 x8 x6 G9) fun G10 =>
 bP (fa Q q 89 2 2 x0) fun x11 =>
 bP (ld Q q 85 x11 G10) fun x12 =>
 bP (pNil x12) fun x13 =>
 bP (fa Q q 96 1 13 x13) fun x14 =>
 bP (ld Q q 4 x14 G10) fun x15 =>
 ifV x15 (
 bP (fa Q q 89 1 1 x0) fun x16 =>
 bP (ld Q q 87 x16 G10) fun x17 =>
 bS (e.ev.cl 92 [x17] G10) fun x18 G19 =>
 bP (pExtract x18 0) fun x20 =>
 bP (pExtract x18 1) fun x21 =>
 bS (al Q q 92 z92 G19) fun x22 G23 =>
 bP (st Q q 92 2 x22 x20 G23) fun G24 =>
 bP (lda Q q 92 2 x22 (G24.room 18)) fun x25 =>
 bP (lda Q q 92 2 x8 (G24.room 18)) fun x26 =>
 bP (bn Q q .eql 92 (.tmp 26) (.tmp 27) x25 x26) fun x27 =>
 bS (gd x27 true (some (x21,(G24.room 18))) (G24.room 18)) fun x28 _ =>
 bS (gd x27 true (some (x7,(G24.room 18))) (G24.room 18)) fun x29 _ =>
 bS (gd x27 true (bP (bn Q q .eql 26 (.tmp 30) (.tmp 31) x28 x29) fun y=>some (y,(G24.room 18))) (G24.room 18)) fun x30 _ =>
 bP (pickV x27 x30 (.bool false)) fun x31 =>
 bS (gd x31 true (bP (fa Q q 89 1 1 x0) fun y=>some (y,(G24.room 18))) (G24.room 18)) fun x32 _ =>
 bS (gd x31 true (bP (ld Q q 87 x32 (G24.room 18)) fun y=>some (y,(G24.room 18))) (G24.room 18)) fun x33 _ =>
 bS (gd x31 true (bS (e.ev.cl 93 [x33] (G24.room 18)) fun y G=>some (y,G)) (G24.room 18)) fun x35 G34 =>
 bS (gd x31 true (bP (fa Q q 89 2 2 x0) fun y=>some (y,G34)) G34) fun x36 _ =>
 bS (gd x31 true (bP (ld Q q 85 x36 G34) fun y=>some (y,G34)) G34) fun x37 _ =>
 chk (((!(gB x31 true) || (!(gB x31 true) || sameO (ld Q q 85 x36 (G24.room 18)) x37)) && true)) <|
 bS (gd x31 true (bS (e.ev.cl 94 [x37] G34) fun y G=>some (y,G)) G34) fun x39 G38 =>
 bS (gd x31 true (bP (bn Q q .eql 39 (.tmp 37) (.tmp 40) x35 x39) fun y=>some (y,G38)) G38) fun x40 _ =>
 bP (pickV x31 x40 (.bool false)) fun x41 =>
 some (x41,G38)) (
 bP (fa Q q 89 0 0 x0) fun x42 =>
 bP (ld Q q 83 x42 G10) fun x43 =>
 bS (e.ev.cl 95 [x43] G10) fun x44 G45 =>
 bP (pExtract x44 0) fun x46 =>
 bP (pExtract x44 1) fun x47 =>
 bS (al Q q 92 z92 G45) fun x48 G49 =>
 bP (st Q q 92 2 x48 x46 G49) fun G50 =>
 bP (lda Q q 92 2 x48 (G50.room 27)) fun x51 =>
 bP (lda Q q 92 2 x8 (G50.room 27)) fun x52 =>
 bP (bn Q q .eql 92 (.tmp 49) (.tmp 50) x51 x52) fun x53 =>
 bS (gd x53 true (some (x47,(G50.room 27))) (G50.room 27)) fun x54 _ =>
 bS (gd x53 true (some (x7,(G50.room 27))) (G50.room 27)) fun x55 _ =>
 bS (gd x53 true (bP (bn Q q .eql 26 (.tmp 53) (.tmp 54) x54 x55) fun y=>some (y,(G50.room 27))) (G50.room 27)) fun x56 _ =>
 bP (pickV x53 x56 (.bool false)) fun x57 =>
 bS (gd x57 true (bP (fa Q q 89 0 0 x0) fun y=>some (y,(G50.room 27))) (G50.room 27)) fun x58 _ =>
 bS (gd x57 true (bP (ld Q q 83 x58 (G50.room 27)) fun y=>some (y,(G50.room 27))) (G50.room 27)) fun x59 _ =>
 bS (gd x57 true (bS (e.ev.cl 96 [x59] (G50.room 27)) fun y G=>some (y,G)) (G50.room 27)) fun x61 G60 =>
 bS (gd x57 true (bP (fa Q q 89 2 2 x0) fun y=>some (y,G60)) G60) fun x62 _ =>
 bS (gd x57 true (bP (ld Q q 85 x62 G60) fun y=>some (y,G60)) G60) fun x63 _ =>
 chk (((!(gB x57 true) || (!(gB x57 true) || sameO (ld Q q 85 x62 (G50.room 27)) x63)) && true)) <|
 bS (gd x57 true (bS (e.ev.cl 94 [x63] G60) fun y G=>some (y,G)) G60) fun x65 G64 =>
 bS (gd x57 true (bP (bn Q q .eql 39 (.tmp 60) (.tmp 63) x61 x65) fun y=>some (y,G64)) G64) fun x66 _ =>
 bP (pickV x57 x66 (.bool false)) fun x67 =>
 bS (gd x67 true (bP (fa Q q 89 0 0 x0) fun y=>some (y,G64)) G64) fun x68 _ =>
 bS (gd x67 true (bP (ld Q q 83 x68 G64) fun y=>some (y,G64)) G64) fun x69 _ =>
 bS (gd x67 true (bS (e.ev.cl 97 [x69] G64) fun y G=>some (y,G)) G64) fun x71 G70 =>
 bS (gd x67 true (bP (fa Q q 89 2 2 x0) fun y=>some (y,G70)) G70) fun x72 _ =>
 bS (gd x67 true (bP (ld Q q 85 x72 G70) fun y=>some (y,G70)) G70) fun x73 _ =>
 chk (((!(gB x67 true) || (!(gB x67 true) || sameO (ld Q q 85 x72 G64) x73)) && true)) <|
 bS (gd x67 true (bS (e.ev.cl 98 [x73] G70) fun y G=>some (y,G)) G70) fun x75 G74 =>
 bS (gd x67 true (bP (eb Q q false 4 (.tmp 69) (.tmp 72) x71 x75) fun y=>some (y,G74)) G74) fun x76 _ =>
 bP (pickV x67 x76 (.bool false)) fun x77 =>
 some (x77,G74))
theorem m41 {e:Ex} {E:Ev} (h:ExLe Q e E) (v0:Value) (G:GS):Ref (s41 true e v0 G) (s41 false (Ex.of E) v0 G):=by
 unfold s41
 exact Ref.gq
theorem f41 {orc:FuncId → Bool} {e:Ex} (h:ExLe Q e (E orc)) (v0:Value) (G:GS):Ref (s41 true e v0 G) ((E orc).cl 41 [v0] G) :=
 fun r hr=>cl_sxE_some Q orc (vs:=[v0]) G Tryz.func41 (by kernel_rfl) (by kernel_rfl) (by kernel_rfl) (by kernel_rfl) (by kernel_rfl) (by kernel_rfl) (m41 h v0 G r hr)
noncomputable def s52 (q:Bool) (e:Ex) (v0 v1:Value) (G:GS):Option (Value × GS) :=
 bP (ep Q q false 30 (.tmp 5) (.const (.pointer none)) v0 (.pointer none)) fun x0 =>
 bS (gd x0 false (some (v0,G)) G) fun x1 G2 =>
 bS (gd x0 false (bP (pNil x1) fun y=>some (y,G2)) G2) fun x3 G4 =>
 bS (gd x0 false (bP (fa Q q 112 0 0 x3) fun y=>some (y,G4)) G4) fun x5 G6 =>
 bS (gd x0 false (bP (ld Q q 107 x5 G6) fun y=>some (y,G6)) G6) fun x7 G8 =>
 bS (gd x0 false (bP (ep Q q false 107 (.tmp 11) (.const (.pointer none)) x7 (.pointer none)) fun y=>some (y,G8)) G8) fun x9 G10 =>
 bP (pickV x0 (.bool true) x9) fun x11 =>
 bS (gd x11 false (some (v1,G10)) G10) fun x12 G13 =>
 bS (gd x11 false (bP (bn Q q .lss 3 (.tmp 15) (.const (.int .i64 0)) x12 (.int .i64 0)) fun y=>some (y,G13)) G13) fun x14 G15 =>
 bP (pickV x11 (.bool true) x14) fun x16 =>
 bS (gd x16 false (some (v1,G15)) G15) fun x17 G18 =>
 bS (gd x16 false (some (v0,G18)) G18) fun x19 G20 =>
 bS (gd x16 false (bP (pNil x19) fun y=>some (y,G20)) G20) fun x21 G22 =>
 bS (gd x16 false (bP (fa Q q 112 1 1 x21) fun y=>some (y,G22)) G22) fun x23 G24 =>
 bS (gd x16 false (bP (ld Q q 3 x23 G24) fun y=>some (y,G24)) G24) fun x25 G26 =>
 bS (gd x16 false (bP (bn Q q .geq 3 (.tmp 19) (.tmp 23) x17 x25) fun y=>some (y,G26)) G26) fun x27 G28 =>
 bP (pickV x16 (.bool true) x27) fun x29 =>
 ifV x29 (
 some ((.pointer none),G28)) (
 bP (pNil v0) fun x30 =>
 bP (fa Q q 112 0 0 x30) fun x31 =>
 bP (ld Q q 107 x31 G28) fun x32 =>
 bP (pNil x32) fun x33 =>
 bP (iaa Q q 110 4096 1 x33 v1) fun x34 =>
 some (x34,G28))
theorem m52 {e:Ex} {E:Ev} (h:ExLe Q e E) (v0 v1:Value) (G:GS):Ref (s52 true e v0 v1 G) (s52 false (Ex.of E) v0 v1 G):=by
 unfold s52
 exact Ref.gq
theorem f52 {orc:FuncId → Bool} {e:Ex} (h:ExLe Q e (E orc)) (v0 v1:Value) (G:GS):Ref (s52 true e v0 v1 G) ((E orc).cl 52 [v0,v1] G) :=
 fun r hr=>cl_sxE_some Q orc (vs:=[v0,v1]) G Tryz.func52 (by kernel_rfl) (by kernel_rfl) (by kernel_rfl) (by kernel_rfl) (by kernel_rfl) (by kernel_rfl) (m52 h v0 v1 G r hr)
noncomputable def jb53_0 (q:Bool) (e:Ex) (τ:Env) (G:GS):Option (Value × GS) :=
 bV q (τ 0) fun a0_ =>
 bV q (τ 10) fun a10_ =>
 bP (pNil a0_) fun x28 =>
 bP (fa Q q 112 2 2 x28) fun x29 =>
 bP (lda Q q 59 5 x29 G) fun x30 =>
 bP (st Q q 59 5 a10_ x30 G) fun G31 =>
 bP (lda Q q 59 5 a10_ G31) fun x32 =>
 some (x32,G31)
noncomputable def j53_0 (q:Bool) (e:Ex) (τ:Env) (G:GS):Option (Value × GS):=jb53_0 q e τ G
theorem mj53_0 {e:Ex} {E:Ev} (h:ExLe Q e E) (τ:Env) (G:GS):Ref (j53_0 true e τ G) (j53_0 false (Ex.of E) τ G):=by
 unfold j53_0 jb53_0
 exact Ref.gq
theorem mkj53_0 {e:Ex} {E:Ev} (h:ExLe Q e E) {τ:Env} {l U:List (Nat × Value)} {G:GS} (hU:UOk τ U):Ref (j53_0 true e (xq true 67 τ l U) G) (j53_0 false (Ex.of E) (xq false 67 τ l U) G):=by
 rw [xq_eq hU]
 exact mj53_0 h _ _
noncomputable def sb53 (q:Bool) (e:Ex) (J0:Env → GS → Option (Value × GS)) (v0 v1 v2 v3 v4:Value) (G:GS):Option (Value × GS) :=
 bS (al Q q 59 z59 G) fun x0 G1 =>
 bP (ep Q q false 30 (.tmp 13) (.const (.pointer none)) v0 (.pointer none)) fun x2 =>
 bS (gd x2 false (some (v0,G1)) G1) fun x3 G4 =>
 bS (gd x2 false (bP (pNil x3) fun y=>some (y,G4)) G4) fun x5 G6 =>
 bS (gd x2 false (bP (fa Q q 112 0 0 x5) fun y=>some (y,G6)) G6) fun x7 G8 =>
 bS (gd x2 false (bP (ld Q q 107 x7 G8) fun y=>some (y,G8)) G8) fun x9 G10 =>
 bS (gd x2 false (bP (ep Q q false 107 (.tmp 19) (.const (.pointer none)) x9 (.pointer none)) fun y=>some (y,G10)) G10) fun x11 G12 =>
 bP (pickV x2 (.bool true) x11) fun x13 =>
 ifV x13 (
 bP (bd Q q 59 z59 [] []) fun x14 =>
 bP (st Q q 59 5 x0 x14 G12) fun G15 =>
 bP (lda Q q 59 5 x0 G15) fun x16 =>
 some (x16,G15)) (
 bP (pNil v0) fun x17 =>
 bP (fa Q q 112 3 7 x17) fun x18 =>
 bP (ld Q q 3 x18 G12) fun x19 =>
 bP (bn Q q .add 3 (.tmp 26) (.const (.int .i64 1)) x19 (.int .i64 1)) fun x20 =>
 bP (pNil v0) fun x21 =>
 bP (fa Q q 112 3 7 x21) fun x22 =>
 bP (st Q q 3 1 x22 x20 G12) fun G23 =>
 bP (bd Q q 59 z59 [(0,0,1),(1,1,1)] [v1,v2]) fun x24 =>
 bP (pNil v0) fun x25 =>
 bP (fa Q q 112 2 2 x25) fun x26 =>
 bP (st Q q 59 5 x26 x24 G23) fun G27 =>
 bS (e.ev.cl 104 [v3] G27) fun x33 G34 =>
 ifV x33 (
 bS (cValue e.ev v4 [] G34) fun x35 G36 =>
 bP (pExtract x35 0) fun x37 =>
 bP (pExtract x35 1) fun x38 =>
 bP (pNil v3) fun x39 =>
 bP (ld Q q 108 x39 G36) fun x40 =>
 bP (pNil v0) fun x41 =>
 bP (fa Q q 112 2 2 x41) fun x42 =>
 bP (fa Q q 59 2 2 x42) fun x43 =>
 bP (st Q q 39 1 x43 x40 G36) fun G44 =>
 bP (pNil v0) fun x45 =>
 bP (fa Q q 112 2 2 x45) fun x46 =>
 bP (fa Q q 59 3 3 x46) fun x47 =>
 bP (st Q q 39 1 x47 x37 G44) fun G48 =>
 bP (pNil v0) fun x49 =>
 bP (fa Q q 112 2 2 x49) fun x50 =>
 bP (fa Q q 59 4 4 x50) fun x51 =>
 bP (st Q q 4 1 x51 x38 G48) fun G52 =>
 bP (pNil v3) fun x53 =>
 bP (st Q q 108 1 x53 x37 G52) fun G54 =>
 J0 (xq q 67 (nth undef [v0,v1,v2,v3,v4]) [(62,x53),(61,x37),(60,v3),(59,x51),(58,x50),(57,x49),(56,x47),(55,x46),(54,x45),(53,x43),(52,x42),(51,x41),(50,x38),(49,x37),(48,x40),(47,x39),(46,v3),(45,v0),(44,v0),(43,v0),(12,x38),(11,x37),(42,x38),(41,x37),(38,x35),(40,x35),(39,v4),(37,x33),(36,v3),(35,x26),(34,x25),(33,x24),(32,v2),(31,v1),(30,v0),(29,x22),(28,x21),(27,x20),(26,x19),(25,x18),(24,x17),(23,v0),(21,x13),(20,x11),(19,x9),(18,x7),(17,x5),(16,x3),(15,x2),(14,x2),(13,v0),(10,x0)] []) G54) (
 J0 (xq q 67 (nth undef [v0,v1,v2,v3,v4]) [(37,x33),(36,v3),(35,x26),(34,x25),(33,x24),(32,v2),(31,v1),(30,v0),(29,x22),(28,x21),(27,x20),(26,x19),(25,x18),(24,x17),(23,v0),(21,x13),(20,x11),(19,x9),(18,x7),(17,x5),(16,x3),(15,x2),(14,x2),(13,v0),(10,x0)] []) G34))
noncomputable def s53 (q:Bool) (e:Ex) (v0 v1 v2 v3 v4:Value) (G:GS):Option (Value × GS):=sb53 q e (j53_0 q e) v0 v1 v2 v3 v4 G
theorem m53 {e:Ex} {E:Ev} (h:ExLe Q e E) (v0 v1 v2 v3 v4:Value) (G:GS):Ref (s53 true e v0 v1 v2 v3 v4 G) (s53 false (Ex.of E) v0 v1 v2 v3 v4 G):=by
 unfold s53 sb53
 repeat' (with_reducible first | exact Ref.rfl' _ | exact ROp.r | refine Ref.bP ?_ fun _=>?_ | refine Ref.bS ?_ fun _ _=>?_ | exact Ref.cl (by assumption) | refine Ref.ifV ?_ ?_ | refine LpLe.rx (by assumption) ?_ | refine Ref.xitq ?_ | exact UOk.z | refine UOk.c (by assumption) ?_ | exact Ref.nil _ | refine Ref.bVe fun _ _=>?_ | refine Ref.bLq (by assumption) ?_ fun _ _ _=>?_ | refine Ref.ifE ?_ ?_ | refine Ref.chk ?_ ?_ | refine Imp.and ?_ ?_ | refine Imp.or ?_ | exact Imp.rfl' _ | refine Imp.sameO ?_ | refine Ref.gd ?_ | exact Ref.cValue (by assumption) | refine Ref.bX ?_ fun _ _ _=>?_ | exact Ref.scQ (by assumption) | exact Ref.xRangeQ (by assumption) | exact Ref.cInvoke (by assumption) | refine mkj53_0 (by assumption) ?_)
noncomputable def jt53 (J0:Env → GS → Option (Value × GS)):JT (Value × GS) :=
 (.n none .e (.n none .e (.n none .e (.n none .e (.n (some (fun T G=>J0 (nth undef T) G)) .e .e)))))
theorem jr53_0 (orc:FuncId → Bool) (J0:Env → GS → Option (Value × GS)) (T:List Value) (G:GS):runC Q (evL Q orc) Tryz.f53.ntmps (jt53 J0) (bodyOf Tryz.f53) (retE Q Tryz.f53.results.toList) [true,true,true,true] (nth undef T) G = jb53_0 false (Ex.of (E orc))  (nth undef T) G:=by kernel_rfl
theorem jo53 (orc:FuncId → Bool):JOk Q orc Tryz.f53.ntmps (jt53 (j53_0 false (Ex.of (E orc))) ) (bodyOf Tryz.f53) (retE Q Tryz.f53.results.toList) :=
 jOk Q orc (l:=[([true,true,true,true],(fun T G=>j53_0 false (Ex.of (E orc)) (nth undef T) G))]) (by kernel_rfl) (AllE.c (fun T G=>jr53_0 orc (j53_0 false (Ex.of (E orc))) T G) (AllE.z))
theorem je53 (orc:FuncId → Bool) (J0:Env → GS → Option (Value × GS)) (v0 v1 v2 v3 v4:Value) (G:GS):sxC Q (evL Q orc) Tryz.f53.ntmps (jt53 J0) (bodyOf Tryz.f53) (nth undef [v0,v1,v2,v3,v4]) G (retE Q Tryz.f53.results.toList) = sb53 false (Ex.of (E orc)) J0 v0 v1 v2 v3 v4 G:=by kernel_rfl
theorem f53 {orc:FuncId → Bool} {e:Ex} (h:ExLe Q e (E orc)) (v0 v1 v2 v3 v4:Value) (G:GS):Ref (s53 true e v0 v1 v2 v3 v4 G) ((E orc).cl 53 [v0,v1,v2,v3,v4] G) :=
 fun r hr=>cl_sxC Q orc (vs:=[v0,v1,v2,v3,v4]) G (jt53 (j53_0 false (Ex.of (E orc))) ) Tryz.func53 (by kernel_rfl) (by kernel_rfl) (by kernel_rfl) (by kernel_rfl) (by kernel_rfl) (jo53 orc) (je53 orc (j53_0 false (Ex.of (E orc))) v0 v1 v2 v3 v4 G) (m53 h v0 v1 v2 v3 v4 G r hr)
noncomputable def s54 (q:Bool) (e:Ex) (v0:Value) (G:GS):Option (Value × GS) :=
 bS (bx q v0 G) fun x0 G1 =>
 bP (fa Q q 126 1 1 x0) fun x2 =>
 bP (ld Q q 39 x2 G1) fun x3 =>
 some (.tuple #[x3,(.bool true)],G1)
theorem m54 {e:Ex} {E:Ev} (h:ExLe Q e E) (v0:Value) (G:GS):Ref (s54 true e v0 G) (s54 false (Ex.of E) v0 G):=by
 unfold s54
 exact Ref.gq
theorem f54 {orc:FuncId → Bool} {e:Ex} (h:ExLe Q e (E orc)) (v0:Value) (G:GS):Ref (s54 true e v0 G) ((E orc).cl 54 [v0] G) :=
 fun r hr=>cl_sxE_some Q orc (vs:=[v0]) G Tryz.func54 (by kernel_rfl) (by kernel_rfl) (by kernel_rfl) (by kernel_rfl) (by kernel_rfl) (by kernel_rfl) (m54 h v0 G r hr)
noncomputable def jb55_0 (q:Bool) (e:Ex) (τ:Env) (G:GS):Option (Value × GS) :=
 bV q (τ 0) fun a0_ =>
 bV q (τ 2) fun a2_ =>
 bV q (τ 3) fun a3_ =>
 bP (pNil a0_) fun x36 =>
 bP (fa Q q 114 0 0 x36) fun x37 =>
 bP (ld Q q 24 x37 G) fun x38 =>
 bP (ias Q q 24 1 x38 a2_) fun x39 =>
 bP (ld Q q 39 x39 G) fun x40 =>
 bP (pNil a0_) fun x41 =>
 bP (fa Q q 114 1 1 x41) fun x42 =>
 bP (fa Q q 59 3 3 x42) fun x43 =>
 bP (st Q q 39 1 x43 x40 G) fun G44 =>
 bP (pNil a0_) fun x45 =>
 bP (fa Q q 114 1 1 x45) fun x46 =>
 bP (fa Q q 59 4 4 x46) fun x47 =>
 bP (st Q q 4 1 x47 a3_ G44) fun G48 =>
 some (.tuple #[],G48)
noncomputable def j55_0 (q:Bool) (e:Ex) (τ:Env) (G:GS):Option (Value × GS):=jb55_0 q e τ G
theorem mj55_0 {e:Ex} {E:Ev} (h:ExLe Q e E) (τ:Env) (G:GS):Ref (j55_0 true e τ G) (j55_0 false (Ex.of E) τ G):=by
 unfold j55_0 jb55_0
 exact Ref.gq
theorem mkj55_0 {e:Ex} {E:Ev} (h:ExLe Q e E) {τ:Env} {l U:List (Nat × Value)} {G:GS} (hU:UOk τ U):Ref (j55_0 true e (xq true 69 τ l U) G) (j55_0 false (Ex.of E) (xq false 69 τ l U) G):=by
 rw [xq_eq hU]
 exact mj55_0 h _ _
noncomputable def sb55 (q:Bool) (e:Ex) (J0:Env → GS → Option (Value × GS)) (v0 v1 v2 v3 v4:Value) (G:GS):Option (Value × GS) :=
 bP (pNil v0) fun x0 =>
 bP (fa Q q 114 2 6 x0) fun x1 =>
 bP (ld Q q 3 x1 G) fun x2 =>
 bP (bn Q q .add 3 (.tmp 13) (.const (.int .i64 1)) x2 (.int .i64 1)) fun x3 =>
 bP (pNil v0) fun x4 =>
 bP (fa Q q 114 2 6 x4) fun x5 =>
 bP (st Q q 3 1 x5 x3 G) fun G6 =>
 bP (bd Q q 59 z59 [(0,0,1),(1,1,1)] [v1,v2]) fun x7 =>
 bP (pNil v0) fun x8 =>
 bP (fa Q q 114 1 1 x8) fun x9 =>
 bP (st Q q 59 5 x9 x7 G6) fun G10 =>
 bP (bn Q q .lss 3 (.tmp 23) (.const (.int .i64 0)) v2 (.int .i64 0)) fun x11 =>
 bS (gd x11 false (some (v2,G10)) G10) fun x12 G13 =>
 bS (gd x11 false (some (v0,G13)) G13) fun x14 G15 =>
 bS (gd x11 false (bP (pNil x14) fun y=>some (y,G15)) G15) fun x16 G17 =>
 bS (gd x11 false (bP (fa Q q 114 0 0 x16) fun y=>some (y,G17)) G17) fun x18 G19 =>
 bS (gd x11 false (bP (ld Q q 24 x18 G19) fun y=>some (y,G19)) G19) fun x20 G21 =>
 bS (gd x11 false (bP (ln Q q 24 x20) fun y=>some (y,G21)) G21) fun x22 G23 =>
 bS (gd x11 false (bP (bn Q q .geq 3 (.tmp 26) (.tmp 31) x12 x22) fun y=>some (y,G23)) G23) fun x24 G25 =>
 bP (pickV x11 (.bool true) x24) fun x26 =>
 ifV x26 (
 some (.tuple #[],G25)) (
 bP (pNil v0) fun x27 =>
 bP (fa Q q 114 0 0 x27) fun x28 =>
 bP (ld Q q 24 x28 G25) fun x29 =>
 bP (ias Q q 24 1 x29 v2) fun x30 =>
 bP (ld Q q 39 x30 G25) fun x31 =>
 bP (pNil v0) fun x32 =>
 bP (fa Q q 114 1 1 x32) fun x33 =>
 bP (fa Q q 59 2 2 x33) fun x34 =>
 bP (st Q q 39 1 x34 x31 G25) fun G35 =>
 ifV v3 (
 bP (pNil v0) fun x49 =>
 bP (fa Q q 114 0 0 x49) fun x50 =>
 bP (ld Q q 24 x50 G35) fun x51 =>
 bP (ias Q q 24 1 x51 v2) fun x52 =>
 bP (st Q q 39 1 x52 v4 G35) fun G53 =>
 J0 (xq q 69 (nth undef [v0,v1,v2,v3,v4]) [(52,x52),(51,v4),(50,v2),(49,x51),(48,x50),(47,x49),(46,v0),(45,v3),(44,x34),(43,x33),(42,x32),(41,x31),(40,x30),(39,v2),(38,x29),(37,x28),(36,x27),(35,v0),(34,v0),(33,x26),(32,x24),(31,x22),(30,x20),(29,x18),(28,x16),(27,x14),(26,x12),(25,x11),(24,x11),(23,v2),(22,x9),(21,x8),(20,x7),(19,v2),(18,v1),(17,v0),(16,x5),(15,x4),(14,x3),(13,x2),(12,x1),(11,x0),(10,v0)] []) G53) (
 J0 (xq q 69 (nth undef [v0,v1,v2,v3,v4]) [(45,v3),(44,x34),(43,x33),(42,x32),(41,x31),(40,x30),(39,v2),(38,x29),(37,x28),(36,x27),(35,v0),(34,v0),(33,x26),(32,x24),(31,x22),(30,x20),(29,x18),(28,x16),(27,x14),(26,x12),(25,x11),(24,x11),(23,v2),(22,x9),(21,x8),(20,x7),(19,v2),(18,v1),(17,v0),(16,x5),(15,x4),(14,x3),(13,x2),(12,x1),(11,x0),(10,v0)] []) G35))
noncomputable def s55 (q:Bool) (e:Ex) (v0 v1 v2 v3 v4:Value) (G:GS):Option (Value × GS):=sb55 q e (j55_0 q e) v0 v1 v2 v3 v4 G
theorem m55 {e:Ex} {E:Ev} (h:ExLe Q e E) (v0 v1 v2 v3 v4:Value) (G:GS):Ref (s55 true e v0 v1 v2 v3 v4 G) (s55 false (Ex.of E) v0 v1 v2 v3 v4 G):=by
 unfold s55 sb55
 repeat' (with_reducible first | exact Ref.rfl' _ | exact ROp.r | refine Ref.bP ?_ fun _=>?_ | refine Ref.bS ?_ fun _ _=>?_ | exact Ref.cl (by assumption) | refine Ref.ifV ?_ ?_ | refine LpLe.rx (by assumption) ?_ | refine Ref.xitq ?_ | exact UOk.z | refine UOk.c (by assumption) ?_ | exact Ref.nil _ | refine Ref.bVe fun _ _=>?_ | refine Ref.bLq (by assumption) ?_ fun _ _ _=>?_ | refine Ref.ifE ?_ ?_ | refine Ref.chk ?_ ?_ | refine Imp.and ?_ ?_ | refine Imp.or ?_ | exact Imp.rfl' _ | refine Imp.sameO ?_ | refine Ref.gd ?_ | exact Ref.cValue (by assumption) | refine Ref.bX ?_ fun _ _ _=>?_ | exact Ref.scQ (by assumption) | exact Ref.xRangeQ (by assumption) | exact Ref.cInvoke (by assumption) | refine mkj55_0 (by assumption) ?_)
noncomputable def jt55 (J0:Env → GS → Option (Value × GS)):JT (Value × GS) :=
 (.n none .e (.n none .e (.n none .e (.n none .e (.n (some (fun T G=>J0 (nth undef T) G)) .e .e)))))
theorem jr55_0 (orc:FuncId → Bool) (J0:Env → GS → Option (Value × GS)) (T:List Value) (G:GS):runC Q (evL Q orc) Tryz.f55.ntmps (jt55 J0) (bodyOf Tryz.f55) (retE Q Tryz.f55.results.toList) [true,true,true,true] (nth undef T) G = jb55_0 false (Ex.of (E orc))  (nth undef T) G:=by kernel_rfl
theorem jo55 (orc:FuncId → Bool):JOk Q orc Tryz.f55.ntmps (jt55 (j55_0 false (Ex.of (E orc))) ) (bodyOf Tryz.f55) (retE Q Tryz.f55.results.toList) :=
 jOk Q orc (l:=[([true,true,true,true],(fun T G=>j55_0 false (Ex.of (E orc)) (nth undef T) G))]) (by kernel_rfl) (AllE.c (fun T G=>jr55_0 orc (j55_0 false (Ex.of (E orc))) T G) (AllE.z))
theorem je55 (orc:FuncId → Bool) (J0:Env → GS → Option (Value × GS)) (v0 v1 v2 v3 v4:Value) (G:GS):sxC Q (evL Q orc) Tryz.f55.ntmps (jt55 J0) (bodyOf Tryz.f55) (nth undef [v0,v1,v2,v3,v4]) G (retE Q Tryz.f55.results.toList) = sb55 false (Ex.of (E orc)) J0 v0 v1 v2 v3 v4 G:=by kernel_rfl
theorem f55 {orc:FuncId → Bool} {e:Ex} (h:ExLe Q e (E orc)) (v0 v1 v2 v3 v4:Value) (G:GS):Ref (s55 true e v0 v1 v2 v3 v4 G) ((E orc).cl 55 [v0,v1,v2,v3,v4] G) :=
 fun r hr=>cl_sxC Q orc (vs:=[v0,v1,v2,v3,v4]) G (jt55 (j55_0 false (Ex.of (E orc))) ) Tryz.func55 (by kernel_rfl) (by kernel_rfl) (by kernel_rfl) (by kernel_rfl) (by kernel_rfl) (jo55 orc) (je55 orc (j55_0 false (Ex.of (E orc))) v0 v1 v2 v3 v4 G) (m55 h v0 v1 v2 v3 v4 G r hr)
noncomputable def s72 (q:Bool) (e:Ex) (v0:Value) (G:GS):Option (Value × GS) :=
 bS (bs Q q 24 0 (rep z39 0) 1 [] [] G) fun x0 G1 =>
 bS (ap Q q 24 24 1 8 x0 v0 G1) fun x2 G3 =>
 some (x2,G3)
theorem m72 {e:Ex} {E:Ev} (h:ExLe Q e E) (v0:Value) (G:GS):Ref (s72 true e v0 G) (s72 false (Ex.of E) v0 G):=by
 unfold s72
 exact Ref.gq
theorem f72 {orc:FuncId → Bool} {e:Ex} (h:ExLe Q e (E orc)) (v0:Value) (G:GS):Ref (s72 true e v0 G) ((E orc).cl 72 [v0] G) :=
 fun r hr=>cl_sxE_some Q orc (vs:=[v0]) G Tryz.func72 (by kernel_rfl) (by kernel_rfl) (by kernel_rfl) (by kernel_rfl) (by kernel_rfl) (by kernel_rfl) (m72 h v0 G r hr)
noncomputable def s73 (q:Bool) (e:Ex) (v0:Value) (G:GS):Option (Value × GS) :=
 bS (bx q v0 G) fun x0 G1 =>
 bP (fa Q q 75 3 3 x0) fun x2 =>
 bP (fa Q q 73 0 0 x2) fun x3 =>
 bP (fa Q q 69 0 0 x3) fun x4 =>
 bP (fa Q q 67 2 2 x4) fun x5 =>
 bP (ld Q q 3 x5 G1) fun x6 =>
 bP (fa Q q 75 2 2 x0) fun x7 =>
 bP (ld Q q 3 x7 G1) fun x8 =>
 bP (bn Q q .geq 3 (.tmp 10) (.const (.int .i64 1)) x8 (.int .i64 1)) fun x9 =>
 bS (gd x9 true (bP (fa Q q 75 2 2 x0) fun y=>some (y,G1)) G1) fun x10 G11 =>
 bS (gd x9 true (bP (ld Q q 3 x10 G11) fun y=>some (y,G11)) G11) fun x12 G13 =>
 bS (gd x9 true (bP (bn Q q .leq 3 (.tmp 14) (.const (.int .i64 4)) x12 (.int .i64 4)) fun y=>some (y,G13)) G13) fun x14 G15 =>
 bP (pickV x9 x14 (.bool false)) fun x16 =>
 bS (gd x16 true (some (x6,G15)) G15) fun x17 G18 =>
 bS (gd x16 true (bP (bn Q q .geq 3 (.tmp 18) (.const (.int .i64 1)) x17 (.int .i64 1)) fun y=>some (y,G18)) G18) fun x19 G20 =>
 bP (pickV x16 x19 (.bool false)) fun x21 =>
 bS (gd x21 true (some (x6,G20)) G20) fun x22 G23 =>
 bS (gd x21 true (bP (bn Q q .leq 3 (.tmp 22) (.const (.int .i64 128)) x22 (.int .i64 128)) fun y=>some (y,G23)) G23) fun x24 G25 =>
 bP (pickV x21 x24 (.bool false)) fun x26 =>
 bS (gd x26 true (bP (fa Q q 75 0 0 x0) fun y=>some (y,G25)) G25) fun x27 G28 =>
 bS (gd x26 true (bP (ld Q q 3 x27 G28) fun y=>some (y,G28)) G28) fun x29 G30 =>
 bS (gd x26 true (bP (bn Q q .geq 3 (.tmp 27) (.const (.int .i64 0)) x29 (.int .i64 0)) fun y=>some (y,G30)) G30) fun x31 G32 =>
 bP (pickV x26 x31 (.bool false)) fun x33 =>
 bS (gd x33 true (bP (fa Q q 75 0 0 x0) fun y=>some (y,G32)) G32) fun x34 G35 =>
 bS (gd x33 true (bP (ld Q q 3 x34 G35) fun y=>some (y,G35)) G35) fun x36 G37 =>
 bS (gd x33 true (bP (bn Q q .lss 3 (.tmp 32) (.const (.int .i64 4096)) x36 (.int .i64 4096)) fun y=>some (y,G37)) G37) fun x38 G39 =>
 bP (pickV x33 x38 (.bool false)) fun x40 =>
 bS (gd x40 true (bP (fa Q q 75 1 1 x0) fun y=>some (y,G39)) G39) fun x41 G42 =>
 bS (gd x40 true (bP (ld Q q 3 x41 G42) fun y=>some (y,G42)) G42) fun x43 G44 =>
 bS (gd x40 true (bP (bn Q q .geq 3 (.tmp 37) (.const (.int .i64 0)) x43 (.int .i64 0)) fun y=>some (y,G44)) G44) fun x45 G46 =>
 bP (pickV x40 x45 (.bool false)) fun x47 =>
 bS (gd x47 true (bP (fa Q q 75 1 1 x0) fun y=>some (y,G46)) G46) fun x48 G49 =>
 bS (gd x47 true (bP (ld Q q 3 x48 G49) fun y=>some (y,G49)) G49) fun x50 G51 =>
 bS (gd x47 true (bP (bn Q q .lss 3 (.tmp 42) (.const (.int .i64 4096)) x50 (.int .i64 4096)) fun y=>some (y,G51)) G51) fun x52 G53 =>
 bP (pickV x47 x52 (.bool false)) fun x54 =>
 some (x54,G53)
theorem m73 {e:Ex} {E:Ev} (h:ExLe Q e E) (v0:Value) (G:GS):Ref (s73 true e v0 G) (s73 false (Ex.of E) v0 G):=by
 unfold s73
 exact Ref.gq
theorem f73 {orc:FuncId → Bool} {e:Ex} (h:ExLe Q e (E orc)) (v0:Value) (G:GS):Ref (s73 true e v0 G) ((E orc).cl 73 [v0] G) :=
 fun r hr=>cl_sxE_some Q orc (vs:=[v0]) G Tryz.func73 (by kernel_rfl) (by kernel_rfl) (by kernel_rfl) (by kernel_rfl) (by kernel_rfl) (by kernel_rfl) (m73 h v0 G r hr)
noncomputable def s74 (q:Bool) (e:Ex) (v0 v1:Value) (G:GS):Option (Value × GS) :=
 bS (bx q v0 G) fun x0 G1 =>
 bP (bn Q q .lss 3 (.tmp 5) (.const (.int .i64 1)) v1 (.int .i64 1)) fun x2 =>
 bS (gd x2 false (some (v1,G1)) G1) fun x3 G4 =>
 bS (gd x2 false (bP (bn Q q .gtr 3 (.tmp 8) (.const (.int .i64 4096)) x3 (.int .i64 4096)) fun y=>some (y,G4)) G4) fun x5 G6 =>
 bP (pickV x2 (.bool true) x5) fun x7 =>
 ifV x7 (
 some ((.int .i64 3),G6)) (
 bP (fa Q q 73 0 0 x0) fun x8 =>
 bP (lda Q q 69 6 x8 G6) fun x9 =>
 bS (e.ev.cl 133 [x9,v1] G6) fun x10 G11 =>
 bP (bn Q q .neq 26 (.tmp 14) (.const (.int .i64 0)) x10 (.int .i64 0)) fun x12 =>
 bS (gd x12 false (bP (fa Q q 73 1 6 x0) fun y=>some (y,G11)) G11) fun x13 G14 =>
 bS (gd x12 false (bP (lda Q q 71 3 x13 G14) fun y=>some (y,G14)) G14) fun x15 G16 =>
 bS (gd x12 false (some (v1,G16)) G16) fun x17 G18 =>
 bS (gd x12 false (bS (e.ev.cl 134 [x15,x17] G18) fun y G=>some (y,G)) G18) fun x19 G20 =>
 bS (gd x12 false (bP (bn Q q .neq 26 (.tmp 20) (.const (.int .i64 0)) x19 (.int .i64 0)) fun y=>some (y,G20)) G20) fun x21 G22 =>
 bP (pickV x12 (.bool true) x21) fun x23 =>
 bS (gd x23 false (bP (lda Q q 73 10 x0 G22) fun y=>some (y,G22)) G22) fun x24 G25 =>
 bS (gd x23 false (bS (e.ev.cl 76 [x24] G25) fun y G=>some (y,G)) G25) fun x26 G27 =>
 bS (gd x23 false (some (v1,G27)) G27) fun x28 G29 =>
 bS (gd x23 false (bS (e.ev.cl 75 [x26,x28] G29) fun y G=>some (y,G)) G29) fun x30 G31 =>
 bS (gd x23 false (bP (un Q q .not x30) fun y=>some (y,G31)) G31) fun x32 G33 =>
 bP (pickV x23 (.bool true) x32) fun x34 =>
 ifV x34 (
 some ((.int .i64 2),G33)) (
 some ((.int .i64 0),G33)))
theorem m74 {e:Ex} {E:Ev} (h:ExLe Q e E) (v0 v1:Value) (G:GS):Ref (s74 true e v0 v1 G) (s74 false (Ex.of E) v0 v1 G):=by
 unfold s74
 exact Ref.gq
theorem f74 {orc:FuncId → Bool} {e:Ex} (h:ExLe Q e (E orc)) (v0 v1:Value) (G:GS):Ref (s74 true e v0 v1 G) ((E orc).cl 74 [v0,v1] G) :=
 fun r hr=>cl_sxE_some Q orc (vs:=[v0,v1]) G Tryz.func74 (by kernel_rfl) (by kernel_rfl) (by kernel_rfl) (by kernel_rfl) (by kernel_rfl) (by kernel_rfl) (m74 h v0 v1 G r hr)
noncomputable def b75_0 (q:Bool) (e:Ex) (lp:Env → GS → Option (Exit × Env × GS)) (τ:Env) (G:GS):Option (Exit × Env × GS) :=
 bV q (τ 0) fun a0_ =>
 bV q (τ 1) fun a1_ =>
 bV q (τ 5) fun a5_ =>
 bP (ln Q q 52 a0_) fun x0 =>
 bP (bn Q q .lss 3 (.tmp 6) (.tmp 8) a5_ x0) fun x1 =>
 ifV x1 (
 bP (ias Q q 52 1 a0_ a5_) fun x2 =>
 bP (ld Q q 3 x2 (G.room 23)) fun x3 =>
 bP (bn Q q .lss 3 (.tmp 15) (.const (.int .i64 0)) x3 (.int .i64 0)) fun x4 =>
 bS (gd x4 false (some (a0_,(G.room 23))) (G.room 23)) fun x5 _ =>
 bS (gd x4 false (some (a5_,(G.room 23))) (G.room 23)) fun x6 _ =>
 bS (gd x4 false (bP (ias Q q 52 1 x5 x6) fun y=>some (y,(G.room 23))) (G.room 23)) fun x7 _ =>
 bS (gd x4 false (bP (ld Q q 3 x7 (G.room 23)) fun y=>some (y,(G.room 23))) (G.room 23)) fun x8 _ =>
 bS (gd x4 false (some (a1_,(G.room 23))) (G.room 23)) fun x9 _ =>
 bS (gd x4 false (bP (bn Q q .geq 3 (.tmp 21) (.tmp 22) x8 x9) fun y=>some (y,(G.room 23))) (G.room 23)) fun x10 _ =>
 bP (pickV x4 (.bool true) x10) fun x11 =>
 bS (gd x11 false (some (a0_,(G.room 23))) (G.room 23)) fun x12 _ =>
 bS (gd x11 false (some (a5_,(G.room 23))) (G.room 23)) fun x13 _ =>
 bS (gd x11 false (bP (sl Q q 52 1 x12 none (some x13) none (G.room 23)) fun y=>some (y,(G.room 23))) (G.room 23)) fun x14 _ =>
 bS (gd x11 false (some (a0_,(G.room 23))) (G.room 23)) fun x15 _ =>
 bS (gd x11 false (some (a5_,(G.room 23))) (G.room 23)) fun x16 _ =>
 bS (gd x11 false (bP (ias Q q 52 1 x15 x16) fun y=>some (y,(G.room 23))) (G.room 23)) fun x17 _ =>
 bS (gd x11 false (bP (ld Q q 3 x17 (G.room 23)) fun y=>some (y,(G.room 23))) (G.room 23)) fun x18 _ =>
 bS (gd x11 false (bS (e.ev.cl 135 [x14,x18] (G.room 23)) fun y G=>some (y,G)) (G.room 23)) fun x20 G19 =>
 bP (pickV x11 (.bool true) x20) fun x21 =>
 ifV x21 (
 some (.ret,xq q 35 τ [(4,(.bool false)),(34,x21),(33,x20),(32,x18),(31,x17),(30,x16),(29,x15),(28,x14),(27,x13),(26,x12),(25,x11),(24,x11),(23,x10),(22,x9),(21,x8),(20,x7),(19,x6),(18,x5),(17,x4),(16,x4),(15,x3),(14,x2),(13,a5_),(12,a0_),(9,x1),(8,x0),(7,a0_),(6,a5_)] [(0,a0_),(1,a1_),(5,a5_)],G19)) (
 bP (bn Q q .add 3 (.tmp 10) (.const (.int .i64 1)) a5_ (.int .i64 1)) fun x22 =>
 lp (xq q 35 τ [(5,x22),(11,x22),(10,a5_),(34,x21),(33,x20),(32,x18),(31,x17),(30,x16),(29,x15),(28,x14),(27,x13),(26,x12),(25,x11),(24,x11),(23,x10),(22,x9),(21,x8),(20,x7),(19,x6),(18,x5),(17,x4),(16,x4),(15,x3),(14,x2),(13,a5_),(12,a0_),(9,x1),(8,x0),(7,a0_),(6,a5_)] [(0,a0_),(1,a1_)]) G19)) (
 some ((.exit 0),xq q 35 τ [(9,x1),(8,x0),(7,a0_),(6,a5_)] [(0,a0_),(1,a1_),(5,a5_)],G))
theorem mb75_0 {e:Ex} {E:Ev} (h:ExLe Q e E) {lp lp':Env → GS → Option (Exit × Env × GS)} (hlp:LpLe lp lp') (τ:Env) (G:GS):Ref (b75_0 true e lp τ G) (b75_0 false (Ex.of E) lp' τ G):=by
 unfold b75_0
 exact Ref.gq
theorem l75_0 {orc:FuncId → Bool} {e:Ex} (h:ExLe Q e (E orc)) (lp:Env → GS → Option (Exit × Env × GS)) (hlp:∀ τ G,Ref (lp τ G) (mapE ((E orc).lp (subAt [1,0,1,0,0] (bodyOf Tryz.f75)) (lst 35 τ) G))) (T:List Value) (G:GS) (hT:T.length = 35):Ref (b75_0 true e lp (nth undef T) G) (mapE ((E orc).lp (subAt [1,0,1,0,0] (bodyOf Tryz.f75)) T G)) :=
 fun r hr=>lp_sxN Q orc G hT (by kernel_rfl) (mb75_0 h ⟨hlp⟩ _ _ r hr)
noncomputable def s75 (q:Bool) (e:Ex) (v0 v1:Value) (G:GS):Option (Value × GS) :=
 bLq q e 75 0 (subAt [1,0,1,0,0] (bodyOf Tryz.f75)) 35 (nth undef [v0,v1]) [(5,(.int .i64 0)),(4,(.bool false))] [] G fun e0 t1 G2 =>
 bV q (t1 4) fun t1x4_ =>
 ifE e0 (.exit 0) (
 some ((.bool true),G2)) (ifE e0 .ret (
 some (t1x4_,G2)) (none))
theorem m75 {e:Ex} {E:Ev} (h:ExLe Q e E) (v0 v1:Value) (G:GS):Ref (s75 true e v0 v1 G) (s75 false (Ex.of E) v0 v1 G):=by
 unfold s75
 exact Ref.gq
theorem f75 {orc:FuncId → Bool} {e:Ex} (h:ExLe Q e (E orc)) (v0 v1:Value) (G:GS):Ref (s75 true e v0 v1 G) ((E orc).cl 75 [v0,v1] G) :=
 fun r hr=>cl_sxE_some Q orc (vs:=[v0,v1]) G Tryz.func75 (by kernel_rfl) (by kernel_rfl) (by kernel_rfl) (by kernel_rfl) (by kernel_rfl) (by kernel_rfl) (m75 h v0 v1 G r hr)
noncomputable def b76_0 (q:Bool) (e:Ex) (lp:Env → GS → Option (Exit × Env × GS)) (τ:Env) (G:GS):Option (Exit × Env × GS) :=
 bV q (τ 1) fun a1_ =>
 bV q (τ 3) fun a3_ =>
 bV q (τ 4) fun a4_ =>
 bP (fa Q q 73 1 6 a1_) fun x0 =>
 bP (fa Q q 71 2 2 x0) fun x1 =>
 bP (ld Q q 3 x1 G) fun x2 =>
 bP (bn Q q .lss 3 (.tmp 21) (.tmp 24) a4_ x2) fun x3 =>
 ifV x3 (
 bP (fa Q q 73 1 6 a1_) fun x4 =>
 bP (fa Q q 71 1 1 x4) fun x5 =>
 bP (ld Q q 3 x5 G) fun x6 =>
 bP (bn Q q .add 3 (.tmp 31) (.tmp 32) x6 a4_) fun x7 =>
 bS (bs Q q 52 1 (rep z3 1) 1 [(0,0,1)] [x7] G) fun x8 G9 =>
 bS (ap Q q 52 52 1 8 a3_ x8 G9) fun x10 G11 =>
 bP (bn Q q .add 3 (.tmp 26) (.const (.int .i64 1)) a4_ (.int .i64 1)) fun x12 =>
 lp (xq q 37 τ [(4,x12),(27,x12),(26,a4_),(3,x10),(35,x10),(34,x8),(33,x7),(32,a4_),(31,x6),(30,x5),(29,x4),(28,a3_),(25,x3),(24,x2),(23,x1),(22,x0),(21,a4_)] [(1,a1_)]) G11) (
 some ((.exit 0),xq q 37 τ [(25,x3),(24,x2),(23,x1),(22,x0),(21,a4_)] [(1,a1_),(3,a3_),(4,a4_)],G))
theorem mb76_0 {e:Ex} {E:Ev} (h:ExLe Q e E) {lp lp':Env → GS → Option (Exit × Env × GS)} (hlp:LpLe lp lp') (τ:Env) (G:GS):Ref (b76_0 true e lp τ G) (b76_0 false (Ex.of E) lp' τ G):=by
 unfold b76_0
 exact Ref.gq
theorem l76_0 {orc:FuncId → Bool} {e:Ex} (h:ExLe Q e (E orc)) (lp:Env → GS → Option (Exit × Env × GS)) (hlp:∀ τ G,Ref (lp τ G) (mapE ((E orc).lp (subAt [1,1,0,1,0,0] (bodyOf Tryz.f76)) (lst 37 τ) G))) (T:List Value) (G:GS) (hT:T.length = 37):Ref (b76_0 true e lp (nth undef T) G) (mapE ((E orc).lp (subAt [1,1,0,1,0,0] (bodyOf Tryz.f76)) T G)) :=
 fun r hr=>lp_sxN Q orc G hT (by kernel_rfl) (mb76_0 h ⟨hlp⟩ _ _ r hr)
noncomputable def s76 (q:Bool) (e:Ex) (v0:Value) (G:GS):Option (Value × GS) :=
 bS (bx q v0 G) fun x0 G1 =>
 bP (fa Q q 73 0 0 x0) fun x2 =>
 bP (lda Q q 69 6 x2 (G1.room 17)) fun x3 =>
 bS (e.ev.cl 136 [x3] (G1.room 17)) fun x5 G4 =>
 bP (fa Q q 73 1 6 x0) fun x6 =>
 bP (fa Q q 71 0 0 x6) fun x7 =>
 bP (ld Q q 3 x7 G4) fun x8 =>
 chk ((sameO (ld Q q 3 x7 (G1.room 17)) x8 && true)) <|
 bP (fa Q q 73 2 9 x0) fun x9 =>
 bP (ld Q q 3 x9 G4) fun x10 =>
 chk ((sameO (ld Q q 3 x9 (G1.room 17)) x10 && true)) <|
 bP (fa Q q 73 2 9 x0) fun x11 =>
 bP (ld Q q 3 x11 G4) fun x12 =>
 chk ((sameO (ld Q q 3 x11 (G1.room 17)) x12 && true)) <|
 bP (bn Q q .add 3 (.tmp 14) (.const (.int .i64 1)) x12 (.int .i64 1)) fun x13 =>
 bP (fa Q q 73 2 9 x0) fun x14 =>
 bP (ld Q q 3 x14 G4) fun x15 =>
 chk ((sameO (ld Q q 3 x14 (G1.room 17)) x15 && true)) <|
 bP (bn Q q .add 3 (.tmp 17) (.const (.int .i64 2)) x15 (.int .i64 2)) fun x16 =>
 bS (bs Q q 52 4 (rep z3 4) 1 [(0,0,1),(1,1,1),(2,2,1),(3,3,1)] [x8,x10,x13,x16] (G4.at' (G1.nx + 14))) fun x17 G18 =>
 bS (ap Q q 52 52 1 8 x5 x17 (G18.back G4)) fun x20 G19 =>
 bLq q e 76 0 (subAt [1,1,0,1,0,0] (bodyOf Tryz.f76)) 37 (nth undef [v0]) [(4,(.int .i64 0)),(3,x20),(20,x20),(19,x17),(18,x16),(17,x15),(16,x14),(15,x13),(14,x12),(13,x11),(12,x10),(11,x9),(10,x8),(9,x7),(8,x6),(7,x5),(6,x3),(5,x2),(2,(.slice none 0 0)),(1,x0)] [] G19 fun e21 t22 G23 =>
 bV q (t22 3) fun t22x3_ =>
 ifE e21 (.exit 0) (
 some (t22x3_,G23)) (none)
theorem m76 {e:Ex} {E:Ev} (h:ExLe Q e E) (v0:Value) (G:GS):Ref (s76 true e v0 G) (s76 false (Ex.of E) v0 G):=by
 unfold s76
 exact Ref.gq
theorem f76 {orc:FuncId → Bool} {e:Ex} (h:ExLe Q e (E orc)) (v0:Value) (G:GS):Ref (s76 true e v0 G) ((E orc).cl 76 [v0] G) :=
 fun r hr=>cl_sxE_some Q orc (vs:=[v0]) G Tryz.func76 (by kernel_rfl) (by kernel_rfl) (by kernel_rfl) (by kernel_rfl) (by kernel_rfl) (by kernel_rfl) (m76 h v0 G r hr)
noncomputable def b77_0 (q:Bool) (e:Ex) (lp:Env → GS → Option (Exit × Env × GS)) (τ:Env) (G:GS):Option (Exit × Env × GS) :=
 bV q (τ 1) fun a1_ =>
 bV q (τ 3) fun a3_ =>
 bV q (τ 4) fun a4_ =>
 bP (fa Q q 75 3 3 a1_) fun x0 =>
 bP (fa Q q 73 0 0 x0) fun x1 =>
 bP (fa Q q 69 0 0 x1) fun x2 =>
 bP (fa Q q 67 2 2 x2) fun x3 =>
 bP (ld Q q 3 x3 G) fun x4 =>
 bP (fa Q q 75 2 2 a1_) fun x5 =>
 bP (ld Q q 3 x5 G) fun x6 =>
 bP (bn Q q .add 3 (.const (.int .i64 4)) (.tmp 13) (.int .i64 4) x6) fun x7 =>
 bP (bn Q q .mul 3 (.tmp 11) (.tmp 14) x4 x7) fun x8 =>
 bP (bn Q q .lss 3 (.tmp 6) (.tmp 15) a4_ x8) fun x9 =>
 ifV x9 (
 bP (fa Q q 75 0 0 a1_) fun x10 =>
 bP (ld Q q 3 x10 G) fun x11 =>
 bP (bn Q q .add 3 (.tmp 21) (.tmp 22) x11 a4_) fun x12 =>
 bS (bs Q q 52 1 (rep z3 1) 1 [(0,0,1)] [x12] G) fun x13 G14 =>
 bS (ap Q q 52 52 1 8 a3_ x13 G14) fun x15 G16 =>
 bP (bn Q q .add 3 (.tmp 17) (.const (.int .i64 1)) a4_ (.int .i64 1)) fun x17 =>
 lp (xq q 40 τ [(4,x17),(18,x17),(17,a4_),(3,x15),(25,x15),(24,x13),(23,x12),(22,a4_),(21,x11),(20,x10),(19,a3_),(16,x9),(15,x8),(14,x7),(13,x6),(12,x5),(11,x4),(10,x3),(9,x2),(8,x1),(7,x0),(6,a4_)] [(1,a1_)]) G16) (
 some ((.exit 0),xq q 40 τ [(16,x9),(15,x8),(14,x7),(13,x6),(12,x5),(11,x4),(10,x3),(9,x2),(8,x1),(7,x0),(6,a4_)] [(1,a1_),(3,a3_),(4,a4_)],G))
theorem mb77_0 {e:Ex} {E:Ev} (h:ExLe Q e E) {lp lp':Env → GS → Option (Exit × Env × GS)} (hlp:LpLe lp lp') (τ:Env) (G:GS):Ref (b77_0 true e lp τ G) (b77_0 false (Ex.of E) lp' τ G):=by
 unfold b77_0
 exact Ref.gq
theorem l77_0 {orc:FuncId → Bool} {e:Ex} (h:ExLe Q e (E orc)) (lp:Env → GS → Option (Exit × Env × GS)) (hlp:∀ τ G,Ref (lp τ G) (mapE ((E orc).lp (subAt [1,1,0,1,0,0] (bodyOf Tryz.f77)) (lst 40 τ) G))) (T:List Value) (G:GS) (hT:T.length = 40):Ref (b77_0 true e lp (nth undef T) G) (mapE ((E orc).lp (subAt [1,1,0,1,0,0] (bodyOf Tryz.f77)) T G)) :=
 fun r hr=>lp_sxN Q orc G hT (by kernel_rfl) (mb77_0 h ⟨hlp⟩ _ _ r hr)
noncomputable def b77_1 (q:Bool) (e:Ex) (lp:Env → GS → Option (Exit × Env × GS)) (τ:Env) (G:GS):Option (Exit × Env × GS) :=
 bV q (τ 1) fun a1_ =>
 bV q (τ 3) fun a3_ =>
 bV q (τ 5) fun a5_ =>
 bP (fa Q q 75 2 2 a1_) fun x0 =>
 bP (ld Q q 3 x0 G) fun x1 =>
 bP (bn Q q .lss 3 (.tmp 26) (.tmp 28) a5_ x1) fun x2 =>
 ifV x2 (
 bP (fa Q q 75 1 1 a1_) fun x3 =>
 bP (ld Q q 3 x3 G) fun x4 =>
 bP (bn Q q .add 3 (.tmp 34) (.tmp 35) x4 a5_) fun x5 =>
 bS (bs Q q 52 1 (rep z3 1) 1 [(0,0,1)] [x5] G) fun x6 G7 =>
 bS (ap Q q 52 52 1 8 a3_ x6 G7) fun x8 G9 =>
 bP (bn Q q .add 3 (.tmp 30) (.const (.int .i64 1)) a5_ (.int .i64 1)) fun x10 =>
 lp (xq q 40 τ [(5,x10),(31,x10),(30,a5_),(3,x8),(38,x8),(37,x6),(36,x5),(35,a5_),(34,x4),(33,x3),(32,a3_),(29,x2),(28,x1),(27,x0),(26,a5_)] [(1,a1_)]) G9) (
 some ((.exit 2),xq q 40 τ [(29,x2),(28,x1),(27,x0),(26,a5_)] [(1,a1_),(3,a3_),(5,a5_)],G))
theorem mb77_1 {e:Ex} {E:Ev} (h:ExLe Q e E) {lp lp':Env → GS → Option (Exit × Env × GS)} (hlp:LpLe lp lp') (τ:Env) (G:GS):Ref (b77_1 true e lp τ G) (b77_1 false (Ex.of E) lp' τ G):=by
 unfold b77_1
 exact Ref.gq
theorem l77_1 {orc:FuncId → Bool} {e:Ex} (h:ExLe Q e (E orc)) (lp:Env → GS → Option (Exit × Env × GS)) (hlp:∀ τ G,Ref (lp τ G) (mapE ((E orc).lp (subAt [1,1,1,0,1,0,0] (bodyOf Tryz.f77)) (lst 40 τ) G))) (T:List Value) (G:GS) (hT:T.length = 40):Ref (b77_1 true e lp (nth undef T) G) (mapE ((E orc).lp (subAt [1,1,1,0,1,0,0] (bodyOf Tryz.f77)) T G)) :=
 fun r hr=>lp_sxN Q orc G hT (by kernel_rfl) (mb77_1 h ⟨hlp⟩ _ _ r hr)
noncomputable def s77 (q:Bool) (e:Ex) (v0:Value) (G:GS):Option (Value × GS) :=
 bS (bx q v0 G) fun x0 G1 =>
 bLq q e 77 0 (subAt [1,1,0,1,0,0] (bodyOf Tryz.f77)) 40 (nth undef [v0]) [(4,(.int .i64 0)),(3,(.slice none 0 0)),(2,(.slice none 0 0)),(1,x0)] [] G1 fun e2 t3 G4 =>
 ifE e2 (.exit 0) (
 bLq q e 77 1 (subAt [1,1,1,0,1,0,0] (bodyOf Tryz.f77)) 40 t3 [(5,(.int .i64 0))] [] G4 fun e5 t6 G7 =>
 bV q (t6 3) fun t6x3_ =>
 ifE e5 (.exit 2) (
 some (t6x3_,G7)) (none)) (none)
theorem m77 {e:Ex} {E:Ev} (h:ExLe Q e E) (v0:Value) (G:GS):Ref (s77 true e v0 G) (s77 false (Ex.of E) v0 G):=by
 unfold s77
 exact Ref.gq
theorem f77 {orc:FuncId → Bool} {e:Ex} (h:ExLe Q e (E orc)) (v0:Value) (G:GS):Ref (s77 true e v0 G) ((E orc).cl 77 [v0] G) :=
 fun r hr=>cl_sxE_some Q orc (vs:=[v0]) G Tryz.func77 (by kernel_rfl) (by kernel_rfl) (by kernel_rfl) (by kernel_rfl) (by kernel_rfl) (by kernel_rfl) (m77 h v0 G r hr)
noncomputable def b84_0 (q:Bool) (e:Ex) (lp:Env → GS → Option (Exit × Env × GS)) (τ:Env) (G:GS):Option (Exit × Env × GS) :=
 bV q (τ 1) fun a1_ =>
 bV q (τ 2) fun a2_ =>
 bV q (τ 13) fun a13_ =>
 bV q (τ 14) fun a14_ =>
 bP (bn Q q .lss 3 (.tmp 14) (.tmp 13) a14_ a13_) fun x0 =>
 ifV x0 (
 bP (fa Q q 75 1 1 a2_) fun x1 =>
 bP (ld Q q 3 x1 G) fun x2 =>
 bP (bn Q q .add 3 (.tmp 19) (.tmp 20) x2 a14_) fun x3 =>
 bS (e.ev.cl 14 [a1_,x3,(.int .u64 0)] G) fun x4 G5 =>
 bP (bn Q q .add 3 (.tmp 14) (.const (.int .i64 1)) a14_ (.int .i64 1)) fun x6 =>
 lp (xq q 24 τ [(14,x6),(23,x6),(22,x4),(21,x3),(20,a14_),(19,x2),(18,x1),(17,a1_),(4,a14_),(16,a14_),(15,x0)] [(1,a1_),(2,a2_),(13,a13_)]) G5) (
 some ((.exit 0),xq q 24 τ [(15,x0)] [(1,a1_),(2,a2_),(13,a13_),(14,a14_)],G))
theorem mb84_0 {e:Ex} {E:Ev} (h:ExLe Q e E) {lp lp':Env → GS → Option (Exit × Env × GS)} (hlp:LpLe lp lp') (τ:Env) (G:GS):Ref (b84_0 true e lp τ G) (b84_0 false (Ex.of E) lp' τ G):=by
 unfold b84_0
 exact Ref.gq
theorem l84_0 {orc:FuncId → Bool} {e:Ex} (h:ExLe Q e (E orc)) (lp:Env → GS → Option (Exit × Env × GS)) (hlp:∀ τ G,Ref (lp τ G) (mapE ((E orc).lp (subAt [1,1,1,1,0,0] (bodyOf Tryz.f84)) (lst 24 τ) G))) (T:List Value) (G:GS) (hT:T.length = 24):Ref (b84_0 true e lp (nth undef T) G) (mapE ((E orc).lp (subAt [1,1,1,1,0,0] (bodyOf Tryz.f84)) T G)) :=
 fun r hr=>lp_sxN Q orc G hT (by kernel_rfl) (mb84_0 h ⟨hlp⟩ _ _ r hr)
noncomputable def s84 (q:Bool) (e:Ex) (v0 v1:Value) (G:GS):Option (Value × GS) :=
 bS (bx q v0 G) fun x0 G1 =>
 bP (lda Q q 75 13 x0 G1) fun x2 =>
 bS (e.ev.cl 139 [x2] G1) fun x3 G4 =>
 bP (un Q q .not x3) fun x5 =>
 ifV x5 (
 some (.tuple #[],G4)) (
 bP (fa Q q 75 3 3 x0) fun x6 =>
 bP (lda Q q 73 10 x6 G4) fun x7 =>
 bS (e.ev.cl 140 [x7,v1] G4) fun x8 G9 =>
 bP (fa Q q 75 2 2 x0) fun x10 =>
 bP (ld Q q 3 x10 G9) fun x11 =>
 bLq q e 84 0 (subAt [1,1,1,1,0,0] (bodyOf Tryz.f84)) 24 (nth undef [v0,v1]) [(14,(.int .i64 0)),(13,x11),(12,x10),(11,x8),(10,v1),(9,x7),(8,x6),(7,x5),(6,x3),(5,x2),(2,x0)] [] G9 fun e12 t13 G14 =>
 ifE e12 (.exit 0) (
 some (.tuple #[],G14)) (none))
theorem m84 {e:Ex} {E:Ev} (h:ExLe Q e E) (v0 v1:Value) (G:GS):Ref (s84 true e v0 v1 G) (s84 false (Ex.of E) v0 v1 G):=by
 unfold s84
 exact Ref.gq
theorem f84 {orc:FuncId → Bool} {e:Ex} (h:ExLe Q e (E orc)) (v0 v1:Value) (G:GS):Ref (s84 true e v0 v1 G) ((E orc).cl 84 [v0,v1] G) :=
 fun r hr=>cl_sxE_some Q orc (vs:=[v0,v1]) G Tryz.func84 (by kernel_rfl) (by kernel_rfl) (by kernel_rfl) (by kernel_rfl) (by kernel_rfl) (by kernel_rfl) (m84 h v0 v1 G r hr)
noncomputable def b85_0 (q:Bool) (e:Ex) (lp:Env → GS → Option (Exit × Env × GS)) (τ:Env) (G:GS):Option (Exit × Env × GS) :=
 bV q (τ 1) fun a1_ =>
 bV q (τ 2) fun a2_ =>
 bV q (τ 4) fun a4_ =>
 bP (fa Q q 75 2 2 a2_) fun x0 =>
 bP (ld Q q 3 x0 G) fun x1 =>
 bP (bn Q q .lss 3 (.tmp 12) (.tmp 14) a4_ x1) fun x2 =>
 ifV x2 (
 bP (fa Q q 75 1 1 a2_) fun x3 =>
 bP (ld Q q 3 x3 G) fun x4 =>
 bP (bn Q q .add 3 (.tmp 20) (.tmp 21) x4 a4_) fun x5 =>
 bS (e.ev.cl 15 [a1_,x5,(.int .u64 0)] G) fun x6 G7 =>
 bP (bn Q q .add 3 (.tmp 16) (.const (.int .i64 1)) a4_ (.int .i64 1)) fun x8 =>
 lp (xq q 24 τ [(4,x8),(17,x8),(16,a4_),(23,x6),(22,x5),(21,a4_),(20,x4),(19,x3),(18,a1_),(15,x2),(14,x1),(13,x0),(12,a4_)] [(1,a1_),(2,a2_)]) G7) (
 some ((.exit 0),xq q 24 τ [(15,x2),(14,x1),(13,x0),(12,a4_)] [(1,a1_),(2,a2_),(4,a4_)],G))
theorem mb85_0 {e:Ex} {E:Ev} (h:ExLe Q e E) {lp lp':Env → GS → Option (Exit × Env × GS)} (hlp:LpLe lp lp') (τ:Env) (G:GS):Ref (b85_0 true e lp τ G) (b85_0 false (Ex.of E) lp' τ G):=by
 unfold b85_0
 exact Ref.gq
theorem l85_0 {orc:FuncId → Bool} {e:Ex} (h:ExLe Q e (E orc)) (lp:Env → GS → Option (Exit × Env × GS)) (hlp:∀ τ G,Ref (lp τ G) (mapE ((E orc).lp (subAt [1,1,1,1,0,0] (bodyOf Tryz.f85)) (lst 24 τ) G))) (T:List Value) (G:GS) (hT:T.length = 24):Ref (b85_0 true e lp (nth undef T) G) (mapE ((E orc).lp (subAt [1,1,1,1,0,0] (bodyOf Tryz.f85)) T G)) :=
 fun r hr=>lp_sxN Q orc G hT (by kernel_rfl) (mb85_0 h ⟨hlp⟩ _ _ r hr)
noncomputable def s85 (q:Bool) (e:Ex) (v0 v1:Value) (G:GS):Option (Value × GS) :=
 bS (bx q v0 G) fun x0 G1 =>
 bP (lda Q q 75 13 x0 G1) fun x2 =>
 bS (e.ev.cl 73 [x2] G1) fun x3 G4 =>
 bP (un Q q .not x3) fun x5 =>
 ifV x5 (
 some (.tuple #[],G4)) (
 bP (fa Q q 75 3 3 x0) fun x6 =>
 bP (lda Q q 73 10 x6 G4) fun x7 =>
 bS (e.ev.cl 141 [x7,v1] G4) fun x8 G9 =>
 bLq q e 85 0 (subAt [1,1,1,1,0,0] (bodyOf Tryz.f85)) 24 (nth undef [v0,v1]) [(4,(.int .i64 0)),(11,x8),(10,v1),(9,x7),(8,x6),(7,x5),(6,x3),(5,x2),(2,x0)] [] G9 fun e10 t11 G12 =>
 ifE e10 (.exit 0) (
 some (.tuple #[],G12)) (none))
theorem m85 {e:Ex} {E:Ev} (h:ExLe Q e E) (v0 v1:Value) (G:GS):Ref (s85 true e v0 v1 G) (s85 false (Ex.of E) v0 v1 G):=by
 unfold s85
 exact Ref.gq
theorem f85 {orc:FuncId → Bool} {e:Ex} (h:ExLe Q e (E orc)) (v0 v1:Value) (G:GS):Ref (s85 true e v0 v1 G) ((E orc).cl 85 [v0,v1] G) :=
 fun r hr=>cl_sxE_some Q orc (vs:=[v0,v1]) G Tryz.func85 (by kernel_rfl) (by kernel_rfl) (by kernel_rfl) (by kernel_rfl) (by kernel_rfl) (by kernel_rfl) (m85 h v0 v1 G r hr)
noncomputable def s86 (q:Bool) (e:Ex) (v0:Value) (G:GS):Option (Value × GS) :=
 bS (bx q v0 G) fun x0 G1 =>
 bS (al Q q 162 z162 G1) fun x2 G3 =>
 bP (lda Q q 75 13 x0 G3) fun x4 =>
 bS (e.ev.cl 142 [x4,(.int .i64 (-1)),(.int .i64 0)] G3) fun x5 G6 =>
 bP (bn Q q .lss 3 (.tmp 4) (.const (.int .i64 0)) x5 (.int .i64 0)) fun x7 =>
 ifV x7 (
 bP (bd Q q 162 z162 [(8,24,1),(2,17,1),(9,25,1)] [(.bool true),(.int .i64 99),(.int .i64 2)]) fun x8 =>
 bP (st Q q 162 26 x2 x8 G6) fun G9 =>
 bP (lda Q q 162 26 x2 G9) fun x10 =>
 some (x10,G9)) (
 bP (lda Q q 75 13 x0 G6) fun x11 =>
 bP (bd Q q 162 z162 [(0,0,13),(8,24,1),(2,17,1)] [x11,(.bool true),(.int .i64 1)]) fun x12 =>
 bP (st Q q 162 26 x2 x12 G6) fun G13 =>
 bP (lda Q q 162 26 x2 G13) fun x14 =>
 some (x14,G13))
theorem m86 {e:Ex} {E:Ev} (h:ExLe Q e E) (v0:Value) (G:GS):Ref (s86 true e v0 G) (s86 false (Ex.of E) v0 G):=by
 unfold s86
 exact Ref.gq
theorem f86 {orc:FuncId → Bool} {e:Ex} (h:ExLe Q e (E orc)) (v0:Value) (G:GS):Ref (s86 true e v0 G) ((E orc).cl 86 [v0] G) :=
 fun r hr=>cl_sxE_some Q orc (vs:=[v0]) G Tryz.func86 (by kernel_rfl) (by kernel_rfl) (by kernel_rfl) (by kernel_rfl) (by kernel_rfl) (by kernel_rfl) (m86 h v0 G r hr)
noncomputable def s87 (q:Bool) (e:Ex) (v0:Value) (G:GS):Option (Value × GS) :=
 bS (bx q v0 G) fun x0 G1 =>
 bS (al Q q 168 z168 G1) fun x2 G3 =>
 bP (lda Q q 75 13 x0 G3) fun x4 =>
 bS (e.ev.cl 142 [x4,(.int .i64 (-1)),(.int .i64 0)] G3) fun x5 G6 =>
 bP (bn Q q .lss 3 (.tmp 4) (.const (.int .i64 0)) x5 (.int .i64 0)) fun x7 =>
 ifV x7 (
 bP (bd Q q 168 z168 [(8,20,1),(2,13,1),(9,21,1)] [(.bool true),(.int .i64 99),(.int .i64 2)]) fun x8 =>
 bP (st Q q 168 22 x2 x8 G6) fun G9 =>
 bP (lda Q q 168 22 x2 G9) fun x10 =>
 some (x10,G9)) (
 bP (lda Q q 75 13 x0 G6) fun x11 =>
 bP (bd Q q 168 z168 [(0,0,13),(8,20,1),(2,13,1)] [x11,(.bool true),(.int .i64 1)]) fun x12 =>
 bP (st Q q 168 22 x2 x12 G6) fun G13 =>
 bP (lda Q q 168 22 x2 G13) fun x14 =>
 some (x14,G13))
theorem m87 {e:Ex} {E:Ev} (h:ExLe Q e E) (v0:Value) (G:GS):Ref (s87 true e v0 G) (s87 false (Ex.of E) v0 G):=by
 unfold s87
 exact Ref.gq
theorem f87 {orc:FuncId → Bool} {e:Ex} (h:ExLe Q e (E orc)) (v0:Value) (G:GS):Ref (s87 true e v0 G) ((E orc).cl 87 [v0] G) :=
 fun r hr=>cl_sxE_some Q orc (vs:=[v0]) G Tryz.func87 (by kernel_rfl) (by kernel_rfl) (by kernel_rfl) (by kernel_rfl) (by kernel_rfl) (by kernel_rfl) (m87 h v0 G r hr)
noncomputable def jb88_0 (q:Bool) (e:Ex) (τ:Env) (G:GS):Option (Value × GS) :=
 bV q (τ 0) fun a0_ =>
 bP (pNil a0_) fun x0 =>
 bP (fa Q q 96 2 14 x0) fun x1 =>
 bP (ld Q q 3 x1 G) fun x2 =>
 bP (bn Q q .eql 3 (.tmp 45) (.const (.int .i64 99)) x2 (.int .i64 99)) fun x3 =>
 some (x3,G)
noncomputable def j88_0 (q:Bool) (e:Ex) (τ:Env) (G:GS):Option (Value × GS):=jb88_0 q e τ G
theorem mj88_0 {e:Ex} {E:Ev} (h:ExLe Q e E) (τ:Env) (G:GS):Ref (j88_0 true e τ G) (j88_0 false (Ex.of E) τ G):=by
 unfold j88_0 jb88_0
 exact Ref.gq
theorem mkj88_0 {e:Ex} {E:Ev} (h:ExLe Q e E) {τ:Env} {l U:List (Nat × Value)} {G:GS} (hU:UOk τ U):Ref (j88_0 true e (xq true 47 τ l U) G) (j88_0 false (Ex.of E) (xq false 47 τ l U) G):=by
 rw [xq_eq hU]
 exact mj88_0 h _ _
noncomputable def jb88_1 (q:Bool) (e:Ex) (J0:Env → GS → Option (Value × GS)) (τ:Env) (G:GS):Option (Value × GS) :=
 bV q (τ 0) fun a0_ =>
 bV q (τ 1) fun a1_ =>
 bV q (τ 35) fun a35_ =>
 ifV a35_ (
 bS (e.ev.cl 147 [a0_,a1_] G) fun x15 G16 =>
 J0 (xq q 47 τ [(41,x15),(40,a1_),(39,a0_)] []) G16) (
 J0 (xq q 47 τ [] []) G)
noncomputable def j88_1 (q:Bool) (e:Ex) (τ:Env) (G:GS):Option (Value × GS):=jb88_1 q e (j88_0 q e) τ G
theorem mj88_1 {e:Ex} {E:Ev} (h:ExLe Q e E) (τ:Env) (G:GS):Ref (j88_1 true e τ G) (j88_1 false (Ex.of E) τ G):=by
 unfold j88_1 jb88_1
 repeat' (with_reducible first | exact Ref.rfl' _ | exact ROp.r | refine Ref.bP ?_ fun _=>?_ | refine Ref.bS ?_ fun _ _=>?_ | exact Ref.cl (by assumption) | refine Ref.ifV ?_ ?_ | refine LpLe.rx (by assumption) ?_ | refine Ref.xitq ?_ | exact UOk.z | refine UOk.c (by assumption) ?_ | exact Ref.nil _ | refine Ref.bVe fun _ _=>?_ | refine Ref.bLq (by assumption) ?_ fun _ _ _=>?_ | refine Ref.ifE ?_ ?_ | refine Ref.chk ?_ ?_ | refine Imp.and ?_ ?_ | refine Imp.or ?_ | exact Imp.rfl' _ | refine Imp.sameO ?_ | refine Ref.gd ?_ | exact Ref.cValue (by assumption) | refine Ref.bX ?_ fun _ _ _=>?_ | exact Ref.scQ (by assumption) | exact Ref.xRangeQ (by assumption) | exact Ref.cInvoke (by assumption) | refine mkj88_0 (by assumption) ?_)
theorem mkj88_1 {e:Ex} {E:Ev} (h:ExLe Q e E) {τ:Env} {l U:List (Nat × Value)} {G:GS} (hU:UOk τ U):Ref (j88_1 true e (xq true 47 τ l U) G) (j88_1 false (Ex.of E) (xq false 47 τ l U) G):=by
 rw [xq_eq hU]
 exact mj88_1 h _ _
noncomputable def jb88_2 (q:Bool) (e:Ex) (J0 J1:Env → GS → Option (Value × GS)) (τ:Env) (G:GS):Option (Value × GS) :=
 bV q (τ 0) fun a0_ =>
 bV q (τ 1) fun a1_ =>
 bV q (τ 8) fun a8_ =>
 bV q (τ 29) fun a29_ =>
 ifV a29_ (
 bS (e.ev.cl 146 [a0_,a1_] G) fun x13 G14 =>
 J0 (xq q 47 τ [(34,x13),(33,a1_),(32,a0_)] []) G14) (
 bP (bn Q q .eql 3 (.tmp 8) (.const (.int .i64 10)) a8_ (.int .i64 10)) fun x17 =>
 ifV x17 (
 J1 (xq q 47 τ [(35,x17),(36,x17)] []) G) (
 bP (bn Q q .eql 3 (.tmp 8) (.const (.int .i64 11)) a8_ (.int .i64 11)) fun x18 =>
 ifV x18 (
 J1 (xq q 47 τ [(35,x18),(37,x18),(35,x17),(36,x17)] []) G) (
 bP (bn Q q .eql 3 (.tmp 8) (.const (.int .i64 92)) a8_ (.int .i64 92)) fun x19 =>
 J1 (xq q 47 τ [(35,x19),(38,x19),(35,x18),(37,x18),(35,x17),(36,x17)] []) G)))
noncomputable def j88_2 (q:Bool) (e:Ex) (τ:Env) (G:GS):Option (Value × GS):=jb88_2 q e (j88_0 q e) (j88_1 q e) τ G
theorem mj88_2 {e:Ex} {E:Ev} (h:ExLe Q e E) (τ:Env) (G:GS):Ref (j88_2 true e τ G) (j88_2 false (Ex.of E) τ G):=by
 unfold j88_2 jb88_2
 repeat' (with_reducible first | exact Ref.rfl' _ | exact ROp.r | refine Ref.bP ?_ fun _=>?_ | refine Ref.bS ?_ fun _ _=>?_ | exact Ref.cl (by assumption) | refine Ref.ifV ?_ ?_ | refine LpLe.rx (by assumption) ?_ | refine Ref.xitq ?_ | exact UOk.z | refine UOk.c (by assumption) ?_ | exact Ref.nil _ | refine Ref.bVe fun _ _=>?_ | refine Ref.bLq (by assumption) ?_ fun _ _ _=>?_ | refine Ref.ifE ?_ ?_ | refine Ref.chk ?_ ?_ | refine Imp.and ?_ ?_ | refine Imp.or ?_ | exact Imp.rfl' _ | refine Imp.sameO ?_ | refine Ref.gd ?_ | exact Ref.cValue (by assumption) | refine Ref.bX ?_ fun _ _ _=>?_ | exact Ref.scQ (by assumption) | exact Ref.xRangeQ (by assumption) | exact Ref.cInvoke (by assumption) | refine mkj88_0 (by assumption) ?_ | refine mkj88_1 (by assumption) ?_)
theorem mkj88_2 {e:Ex} {E:Ev} (h:ExLe Q e E) {τ:Env} {l U:List (Nat × Value)} {G:GS} (hU:UOk τ U):Ref (j88_2 true e (xq true 47 τ l U) G) (j88_2 false (Ex.of E) (xq false 47 τ l U) G):=by
 rw [xq_eq hU]
 exact mj88_2 h _ _
noncomputable def jb88_3 (q:Bool) (e:Ex) (J0 J1 J2:Env → GS → Option (Value × GS)) (τ:Env) (G:GS):Option (Value × GS) :=
 bV q (τ 0) fun a0_ =>
 bV q (τ 1) fun a1_ =>
 bV q (τ 8) fun a8_ =>
 bV q (τ 23) fun a23_ =>
 ifV a23_ (
 bS (e.ev.cl 145 [a0_,a1_] G) fun x11 G12 =>
 J0 (xq q 47 τ [(28,x11),(27,a1_),(26,a0_)] []) G12) (
 bP (bn Q q .eql 3 (.tmp 8) (.const (.int .i64 9)) a8_ (.int .i64 9)) fun x20 =>
 ifV x20 (
 J2 (xq q 47 τ [(29,x20),(30,x20)] []) G) (
 bP (bn Q q .eql 3 (.tmp 8) (.const (.int .i64 91)) a8_ (.int .i64 91)) fun x21 =>
 J2 (xq q 47 τ [(29,x21),(31,x21),(29,x20),(30,x20)] []) G))
noncomputable def j88_3 (q:Bool) (e:Ex) (τ:Env) (G:GS):Option (Value × GS):=jb88_3 q e (j88_0 q e) (j88_1 q e) (j88_2 q e) τ G
theorem mj88_3 {e:Ex} {E:Ev} (h:ExLe Q e E) (τ:Env) (G:GS):Ref (j88_3 true e τ G) (j88_3 false (Ex.of E) τ G):=by
 unfold j88_3 jb88_3
 repeat' (with_reducible first | exact Ref.rfl' _ | exact ROp.r | refine Ref.bP ?_ fun _=>?_ | refine Ref.bS ?_ fun _ _=>?_ | exact Ref.cl (by assumption) | refine Ref.ifV ?_ ?_ | refine LpLe.rx (by assumption) ?_ | refine Ref.xitq ?_ | exact UOk.z | refine UOk.c (by assumption) ?_ | exact Ref.nil _ | refine Ref.bVe fun _ _=>?_ | refine Ref.bLq (by assumption) ?_ fun _ _ _=>?_ | refine Ref.ifE ?_ ?_ | refine Ref.chk ?_ ?_ | refine Imp.and ?_ ?_ | refine Imp.or ?_ | exact Imp.rfl' _ | refine Imp.sameO ?_ | refine Ref.gd ?_ | exact Ref.cValue (by assumption) | refine Ref.bX ?_ fun _ _ _=>?_ | exact Ref.scQ (by assumption) | exact Ref.xRangeQ (by assumption) | exact Ref.cInvoke (by assumption) | refine mkj88_0 (by assumption) ?_ | refine mkj88_1 (by assumption) ?_ | refine mkj88_2 (by assumption) ?_)
theorem mkj88_3 {e:Ex} {E:Ev} (h:ExLe Q e E) {τ:Env} {l U:List (Nat × Value)} {G:GS} (hU:UOk τ U):Ref (j88_3 true e (xq true 47 τ l U) G) (j88_3 false (Ex.of E) (xq false 47 τ l U) G):=by
 rw [xq_eq hU]
 exact mj88_3 h _ _
noncomputable def jb88_4 (q:Bool) (e:Ex) (J0 J1 J2 J3:Env → GS → Option (Value × GS)) (τ:Env) (G:GS):Option (Value × GS) :=
 bV q (τ 0) fun a0_ =>
 bV q (τ 1) fun a1_ =>
 bV q (τ 8) fun a8_ =>
 bV q (τ 16) fun a16_ =>
 ifV a16_ (
 bS (e.ev.cl 144 [a0_,a1_] G) fun x9 G10 =>
 J0 (xq q 47 τ [(22,x9),(21,a1_),(20,a0_)] []) G10) (
 bP (bn Q q .eql 3 (.tmp 8) (.const (.int .i64 7)) a8_ (.int .i64 7)) fun x22 =>
 ifV x22 (
 J3 (xq q 47 τ [(23,x22),(24,x22)] []) G) (
 bP (bn Q q .eql 3 (.tmp 8) (.const (.int .i64 8)) a8_ (.int .i64 8)) fun x23 =>
 J3 (xq q 47 τ [(23,x23),(25,x23),(23,x22),(24,x22)] []) G))
noncomputable def j88_4 (q:Bool) (e:Ex) (τ:Env) (G:GS):Option (Value × GS):=jb88_4 q e (j88_0 q e) (j88_1 q e) (j88_2 q e) (j88_3 q e) τ G
theorem mj88_4 {e:Ex} {E:Ev} (h:ExLe Q e E) (τ:Env) (G:GS):Ref (j88_4 true e τ G) (j88_4 false (Ex.of E) τ G):=by
 unfold j88_4 jb88_4
 repeat' (with_reducible first | exact Ref.rfl' _ | exact ROp.r | refine Ref.bP ?_ fun _=>?_ | refine Ref.bS ?_ fun _ _=>?_ | exact Ref.cl (by assumption) | refine Ref.ifV ?_ ?_ | refine LpLe.rx (by assumption) ?_ | refine Ref.xitq ?_ | exact UOk.z | refine UOk.c (by assumption) ?_ | exact Ref.nil _ | refine Ref.bVe fun _ _=>?_ | refine Ref.bLq (by assumption) ?_ fun _ _ _=>?_ | refine Ref.ifE ?_ ?_ | refine Ref.chk ?_ ?_ | refine Imp.and ?_ ?_ | refine Imp.or ?_ | exact Imp.rfl' _ | refine Imp.sameO ?_ | refine Ref.gd ?_ | exact Ref.cValue (by assumption) | refine Ref.bX ?_ fun _ _ _=>?_ | exact Ref.scQ (by assumption) | exact Ref.xRangeQ (by assumption) | exact Ref.cInvoke (by assumption) | refine mkj88_0 (by assumption) ?_ | refine mkj88_1 (by assumption) ?_ | refine mkj88_2 (by assumption) ?_ | refine mkj88_3 (by assumption) ?_)
theorem mkj88_4 {e:Ex} {E:Ev} (h:ExLe Q e E) {τ:Env} {l U:List (Nat × Value)} {G:GS} (hU:UOk τ U):Ref (j88_4 true e (xq true 47 τ l U) G) (j88_4 false (Ex.of E) (xq false 47 τ l U) G):=by
 rw [xq_eq hU]
 exact mj88_4 h _ _
noncomputable def jb88_5 (q:Bool) (e:Ex) (J0 J1 J2 J3 J4:Env → GS → Option (Value × GS)) (τ:Env) (G:GS):Option (Value × GS) :=
 bV q (τ 0) fun a0_ =>
 bV q (τ 1) fun a1_ =>
 bV q (τ 8) fun a8_ =>
 bV q (τ 9) fun a9_ =>
 ifV a9_ (
 bS (e.ev.cl 143 [a0_,a1_] G) fun x7 G8 =>
 J0 (xq q 47 τ [(15,x7),(14,a1_),(13,a0_)] []) G8) (
 bP (bn Q q .eql 3 (.tmp 8) (.const (.int .i64 4)) a8_ (.int .i64 4)) fun x24 =>
 ifV x24 (
 J4 (xq q 47 τ [(16,x24),(17,x24)] []) G) (
 bP (bn Q q .eql 3 (.tmp 8) (.const (.int .i64 5)) a8_ (.int .i64 5)) fun x25 =>
 ifV x25 (
 J4 (xq q 47 τ [(16,x25),(18,x25),(16,x24),(17,x24)] []) G) (
 bP (bn Q q .eql 3 (.tmp 8) (.const (.int .i64 6)) a8_ (.int .i64 6)) fun x26 =>
 J4 (xq q 47 τ [(16,x26),(19,x26),(16,x25),(18,x25),(16,x24),(17,x24)] []) G)))
noncomputable def j88_5 (q:Bool) (e:Ex) (τ:Env) (G:GS):Option (Value × GS):=jb88_5 q e (j88_0 q e) (j88_1 q e) (j88_2 q e) (j88_3 q e) (j88_4 q e) τ G
theorem mj88_5 {e:Ex} {E:Ev} (h:ExLe Q e E) (τ:Env) (G:GS):Ref (j88_5 true e τ G) (j88_5 false (Ex.of E) τ G):=by
 unfold j88_5 jb88_5
 repeat' (with_reducible first | exact Ref.rfl' _ | exact ROp.r | refine Ref.bP ?_ fun _=>?_ | refine Ref.bS ?_ fun _ _=>?_ | exact Ref.cl (by assumption) | refine Ref.ifV ?_ ?_ | refine LpLe.rx (by assumption) ?_ | refine Ref.xitq ?_ | exact UOk.z | refine UOk.c (by assumption) ?_ | exact Ref.nil _ | refine Ref.bVe fun _ _=>?_ | refine Ref.bLq (by assumption) ?_ fun _ _ _=>?_ | refine Ref.ifE ?_ ?_ | refine Ref.chk ?_ ?_ | refine Imp.and ?_ ?_ | refine Imp.or ?_ | exact Imp.rfl' _ | refine Imp.sameO ?_ | refine Ref.gd ?_ | exact Ref.cValue (by assumption) | refine Ref.bX ?_ fun _ _ _=>?_ | exact Ref.scQ (by assumption) | exact Ref.xRangeQ (by assumption) | exact Ref.cInvoke (by assumption) | refine mkj88_0 (by assumption) ?_ | refine mkj88_1 (by assumption) ?_ | refine mkj88_2 (by assumption) ?_ | refine mkj88_3 (by assumption) ?_ | refine mkj88_4 (by assumption) ?_)
theorem mkj88_5 {e:Ex} {E:Ev} (h:ExLe Q e E) {τ:Env} {l U:List (Nat × Value)} {G:GS} (hU:UOk τ U):Ref (j88_5 true e (xq true 47 τ l U) G) (j88_5 false (Ex.of E) (xq false 47 τ l U) G):=by
 rw [xq_eq hU]
 exact mj88_5 h _ _
noncomputable def sb88 (q:Bool) (e:Ex) (J0 J1 J2 J3 J4 J5:Env → GS → Option (Value × GS)) (v0 v1:Value) (G:GS):Option (Value × GS) :=
 bP (pNil v0) fun x4 =>
 bP (fa Q q 96 2 14 x4) fun x5 =>
 bP (ld Q q 3 x5 G) fun x6 =>
 bP (bn Q q .eql 3 (.tmp 8) (.const (.int .i64 1)) x6 (.int .i64 1)) fun x27 =>
 ifV x27 (
 J5 (xq q 47 (nth undef [v0,v1]) [(9,x27),(10,x27),(8,x6),(7,x5),(6,x4),(5,v0),(4,(.bool false))] []) G) (
 bP (bn Q q .eql 3 (.tmp 8) (.const (.int .i64 2)) x6 (.int .i64 2)) fun x28 =>
 ifV x28 (
 J5 (xq q 47 (nth undef [v0,v1]) [(9,x28),(11,x28),(9,x27),(10,x27),(8,x6),(7,x5),(6,x4),(5,v0),(4,(.bool false))] []) G) (
 bP (bn Q q .eql 3 (.tmp 8) (.const (.int .i64 3)) x6 (.int .i64 3)) fun x29 =>
 J5 (xq q 47 (nth undef [v0,v1]) [(9,x29),(12,x29),(9,x28),(11,x28),(9,x27),(10,x27),(8,x6),(7,x5),(6,x4),(5,v0),(4,(.bool false))] []) G))
noncomputable def s88 (q:Bool) (e:Ex) (v0 v1:Value) (G:GS):Option (Value × GS):=sb88 q e (j88_0 q e) (j88_1 q e) (j88_2 q e) (j88_3 q e) (j88_4 q e) (j88_5 q e) v0 v1 G
theorem m88 {e:Ex} {E:Ev} (h:ExLe Q e E) (v0 v1:Value) (G:GS):Ref (s88 true e v0 v1 G) (s88 false (Ex.of E) v0 v1 G):=by
 unfold s88 sb88
 repeat' (with_reducible first | exact Ref.rfl' _ | exact ROp.r | refine Ref.bP ?_ fun _=>?_ | refine Ref.bS ?_ fun _ _=>?_ | exact Ref.cl (by assumption) | refine Ref.ifV ?_ ?_ | refine LpLe.rx (by assumption) ?_ | refine Ref.xitq ?_ | exact UOk.z | refine UOk.c (by assumption) ?_ | exact Ref.nil _ | refine Ref.bVe fun _ _=>?_ | refine Ref.bLq (by assumption) ?_ fun _ _ _=>?_ | refine Ref.ifE ?_ ?_ | refine Ref.chk ?_ ?_ | refine Imp.and ?_ ?_ | refine Imp.or ?_ | exact Imp.rfl' _ | refine Imp.sameO ?_ | refine Ref.gd ?_ | exact Ref.cValue (by assumption) | refine Ref.bX ?_ fun _ _ _=>?_ | exact Ref.scQ (by assumption) | exact Ref.xRangeQ (by assumption) | exact Ref.cInvoke (by assumption) | refine mkj88_0 (by assumption) ?_ | refine mkj88_1 (by assumption) ?_ | refine mkj88_2 (by assumption) ?_ | refine mkj88_3 (by assumption) ?_ | refine mkj88_4 (by assumption) ?_ | refine mkj88_5 (by assumption) ?_)
noncomputable def jt88 (J0 J1 J2 J3 J4 J5:Env → GS → Option (Value × GS)):JT (Value × GS) :=
 (.n none .e (.n (some (fun T G=>J0 (nth undef T) G)) (.n none .e (.n none (.n (some (fun T G=>J5 (nth undef T) G)) .e (.n none .e (.n (some (fun T G=>J4 (nth undef T) G)) .e (.n none .e (.n (some (fun T G=>J3 (nth undef T) G)) .e (.n none .e (.n (some (fun T G=>J2 (nth undef T) G)) .e (.n none .e (.n (some (fun T G=>J1 (nth undef T) G)) .e .e))))))))) .e)) .e))
theorem jr88_0 (orc:FuncId → Bool) (J0 J1 J2 J3 J4 J5:Env → GS → Option (Value × GS)) (T:List Value) (G:GS):runC Q (evL Q orc) Tryz.f88.ntmps (jt88 J0 J1 J2 J3 J4 J5) (bodyOf Tryz.f88) (retE Q Tryz.f88.results.toList) [true] (nth undef T) G = jb88_0 false (Ex.of (E orc))  (nth undef T) G:=by kernel_rfl
theorem jr88_5 (orc:FuncId → Bool) (J0 J1 J2 J3 J4 J5:Env → GS → Option (Value × GS)) (T:List Value) (G:GS):runC Q (evL Q orc) Tryz.f88.ntmps (jt88 J0 J1 J2 J3 J4 J5) (bodyOf Tryz.f88) (retE Q Tryz.f88.results.toList) [true,false,true,false] (nth undef T) G = jb88_5 false (Ex.of (E orc)) J0 J1 J2 J3 J4 (nth undef T) G:=by kernel_rfl
theorem jr88_4 (orc:FuncId → Bool) (J0 J1 J2 J3 J4 J5:Env → GS → Option (Value × GS)) (T:List Value) (G:GS):runC Q (evL Q orc) Tryz.f88.ntmps (jt88 J0 J1 J2 J3 J4 J5) (bodyOf Tryz.f88) (retE Q Tryz.f88.results.toList) [true,false,true,false,true,true] (nth undef T) G = jb88_4 false (Ex.of (E orc)) J0 J1 J2 J3 (nth undef T) G:=by kernel_rfl
theorem jr88_3 (orc:FuncId → Bool) (J0 J1 J2 J3 J4 J5:Env → GS → Option (Value × GS)) (T:List Value) (G:GS):runC Q (evL Q orc) Tryz.f88.ntmps (jt88 J0 J1 J2 J3 J4 J5) (bodyOf Tryz.f88) (retE Q Tryz.f88.results.toList) [true,false,true,false,true,true,true,true] (nth undef T) G = jb88_3 false (Ex.of (E orc)) J0 J1 J2 (nth undef T) G:=by kernel_rfl
theorem jr88_2 (orc:FuncId → Bool) (J0 J1 J2 J3 J4 J5:Env → GS → Option (Value × GS)) (T:List Value) (G:GS):runC Q (evL Q orc) Tryz.f88.ntmps (jt88 J0 J1 J2 J3 J4 J5) (bodyOf Tryz.f88) (retE Q Tryz.f88.results.toList) [true,false,true,false,true,true,true,true,true,true] (nth undef T) G = jb88_2 false (Ex.of (E orc)) J0 J1 (nth undef T) G:=by kernel_rfl
theorem jr88_1 (orc:FuncId → Bool) (J0 J1 J2 J3 J4 J5:Env → GS → Option (Value × GS)) (T:List Value) (G:GS):runC Q (evL Q orc) Tryz.f88.ntmps (jt88 J0 J1 J2 J3 J4 J5) (bodyOf Tryz.f88) (retE Q Tryz.f88.results.toList) [true,false,true,false,true,true,true,true,true,true,true,true] (nth undef T) G = jb88_1 false (Ex.of (E orc)) J0 (nth undef T) G:=by kernel_rfl
theorem jo88 (orc:FuncId → Bool):JOk Q orc Tryz.f88.ntmps (jt88 (j88_0 false (Ex.of (E orc))) (j88_1 false (Ex.of (E orc))) (j88_2 false (Ex.of (E orc))) (j88_3 false (Ex.of (E orc))) (j88_4 false (Ex.of (E orc))) (j88_5 false (Ex.of (E orc))) ) (bodyOf Tryz.f88) (retE Q Tryz.f88.results.toList) :=
 jOk Q orc (l:=[([true],(fun T G=>j88_0 false (Ex.of (E orc)) (nth undef T) G)),([true,false,true,false],(fun T G=>j88_5 false (Ex.of (E orc)) (nth undef T) G)),([true,false,true,false,true,true],(fun T G=>j88_4 false (Ex.of (E orc)) (nth undef T) G)),([true,false,true,false,true,true,true,true],(fun T G=>j88_3 false (Ex.of (E orc)) (nth undef T) G)),([true,false,true,false,true,true,true,true,true,true],(fun T G=>j88_2 false (Ex.of (E orc)) (nth undef T) G)),([true,false,true,false,true,true,true,true,true,true,true,true],(fun T G=>j88_1 false (Ex.of (E orc)) (nth undef T) G))]) (by kernel_rfl) (AllE.c (fun T G=>jr88_0 orc (j88_0 false (Ex.of (E orc))) (j88_1 false (Ex.of (E orc))) (j88_2 false (Ex.of (E orc))) (j88_3 false (Ex.of (E orc))) (j88_4 false (Ex.of (E orc))) (j88_5 false (Ex.of (E orc))) T G) (AllE.c (fun T G=>jr88_5 orc (j88_0 false (Ex.of (E orc))) (j88_1 false (Ex.of (E orc))) (j88_2 false (Ex.of (E orc))) (j88_3 false (Ex.of (E orc))) (j88_4 false (Ex.of (E orc))) (j88_5 false (Ex.of (E orc))) T G) (AllE.c (fun T G=>jr88_4 orc (j88_0 false (Ex.of (E orc))) (j88_1 false (Ex.of (E orc))) (j88_2 false (Ex.of (E orc))) (j88_3 false (Ex.of (E orc))) (j88_4 false (Ex.of (E orc))) (j88_5 false (Ex.of (E orc))) T G) (AllE.c (fun T G=>jr88_3 orc (j88_0 false (Ex.of (E orc))) (j88_1 false (Ex.of (E orc))) (j88_2 false (Ex.of (E orc))) (j88_3 false (Ex.of (E orc))) (j88_4 false (Ex.of (E orc))) (j88_5 false (Ex.of (E orc))) T G) (AllE.c (fun T G=>jr88_2 orc (j88_0 false (Ex.of (E orc))) (j88_1 false (Ex.of (E orc))) (j88_2 false (Ex.of (E orc))) (j88_3 false (Ex.of (E orc))) (j88_4 false (Ex.of (E orc))) (j88_5 false (Ex.of (E orc))) T G) (AllE.c (fun T G=>jr88_1 orc (j88_0 false (Ex.of (E orc))) (j88_1 false (Ex.of (E orc))) (j88_2 false (Ex.of (E orc))) (j88_3 false (Ex.of (E orc))) (j88_4 false (Ex.of (E orc))) (j88_5 false (Ex.of (E orc))) T G) (AllE.z)))))))
theorem je88 (orc:FuncId → Bool) (J0 J1 J2 J3 J4 J5:Env → GS → Option (Value × GS)) (v0 v1:Value) (G:GS):sxC Q (evL Q orc) Tryz.f88.ntmps (jt88 J0 J1 J2 J3 J4 J5) (bodyOf Tryz.f88) (nth undef [v0,v1]) G (retE Q Tryz.f88.results.toList) = sb88 false (Ex.of (E orc)) J0 J1 J2 J3 J4 J5 v0 v1 G:=by kernel_rfl
theorem f88 {orc:FuncId → Bool} {e:Ex} (h:ExLe Q e (E orc)) (v0 v1:Value) (G:GS):Ref (s88 true e v0 v1 G) ((E orc).cl 88 [v0,v1] G) :=
 fun r hr=>cl_sxC Q orc (vs:=[v0,v1]) G (jt88 (j88_0 false (Ex.of (E orc))) (j88_1 false (Ex.of (E orc))) (j88_2 false (Ex.of (E orc))) (j88_3 false (Ex.of (E orc))) (j88_4 false (Ex.of (E orc))) (j88_5 false (Ex.of (E orc))) ) Tryz.func88 (by kernel_rfl) (by kernel_rfl) (by kernel_rfl) (by kernel_rfl) (by kernel_rfl) (jo88 orc) (je88 orc (j88_0 false (Ex.of (E orc))) (j88_1 false (Ex.of (E orc))) (j88_2 false (Ex.of (E orc))) (j88_3 false (Ex.of (E orc))) (j88_4 false (Ex.of (E orc))) (j88_5 false (Ex.of (E orc))) v0 v1 G) (m88 h v0 v1 G r hr)
noncomputable def jb89_0 (q:Bool) (e:Ex) (τ:Env) (G:GS):Option (Value × GS) :=
 bV q (τ 0) fun a0_ =>
 bP (pNil a0_) fun x10 =>
 bP (fa Q q 171 0 0 x10) fun x11 =>
 bP (fa Q q 168 2 13 x11) fun x12 =>
 bP (ld Q q 3 x12 G) fun x13 =>
 bP (bn Q q .eql 3 (.tmp 54) (.const (.int .i64 99)) x13 (.int .i64 99)) fun x14 =>
 some (x14,G)
noncomputable def j89_0 (q:Bool) (e:Ex) (τ:Env) (G:GS):Option (Value × GS):=jb89_0 q e τ G
theorem mj89_0 {e:Ex} {E:Ev} (h:ExLe Q e E) (τ:Env) (G:GS):Ref (j89_0 true e τ G) (j89_0 false (Ex.of E) τ G):=by
 unfold j89_0 jb89_0
 exact Ref.gq
theorem mkj89_0 {e:Ex} {E:Ev} (h:ExLe Q e E) {τ:Env} {l U:List (Nat × Value)} {G:GS} (hU:UOk τ U):Ref (j89_0 true e (xq true 56 τ l U) G) (j89_0 false (Ex.of E) (xq false 56 τ l U) G):=by
 rw [xq_eq hU]
 exact mj89_0 h _ _
noncomputable def sb89 (q:Bool) (e:Ex) (J0:Env → GS → Option (Value × GS)) (v0 v1:Value) (G:GS):Option (Value × GS) :=
 bP (ep Q q false 87 (.tmp 5) (.const (.pointer none)) v0 (.pointer none)) fun x0 =>
 bS (gd x0 false (some (v0,G)) G) fun x1 G2 =>
 bS (gd x0 false (bP (pNil x1) fun y=>some (y,G2)) G2) fun x3 G4 =>
 bS (gd x0 false (bP (fa Q q 171 0 0 x3) fun y=>some (y,G4)) G4) fun x5 G6 =>
 bS (gd x0 false (bS (e.ev.cl 148 [x5] G6) fun y G=>some (y,G)) G6) fun x7 G8 =>
 bP (pickV x0 (.bool true) x7) fun x9 =>
 ifV x9 (
 some ((.bool true),G8)) (
 bP (pNil v0) fun x15 =>
 bP (fa Q q 171 0 0 x15) fun x16 =>
 bP (fa Q q 168 2 13 x16) fun x17 =>
 bP (ld Q q 3 x17 G8) fun x18 =>
 bP (bn Q q .eql 3 (.tmp 17) (.const (.int .i64 4)) x18 (.int .i64 4)) fun x19 =>
 ifV x19 (
 bP (pNil v0) fun x20 =>
 bP (fa Q q 171 0 0 x20) fun x21 =>
 bS (e.ev.cl 150 [x21,v1,(.int .i64 0)] G8) fun x22 G23 =>
 bP (pNil v0) fun x24 =>
 bP (fa Q q 171 0 0 x24) fun x25 =>
 bP (fa Q q 168 6 17 x25) fun x26 =>
 bP (fa Q q 92 0 0 x26) fun x27 =>
 bP (st Q q 39 1 x27 x22 G23) fun G28 =>
 bP (pNil v0) fun x29 =>
 bP (fa Q q 171 0 0 x29) fun x30 =>
 bP (fa Q q 168 2 13 x30) fun x31 =>
 bP (st Q q 3 1 x31 (.int .i64 5) G28) fun G32 =>
 J0 (xq q 56 (nth undef [v0,v1]) [(38,x31),(37,x30),(36,x29),(35,x27),(34,x26),(33,x25),(32,x24),(31,x22),(30,v1),(29,x21),(28,x20),(27,v0),(26,v0),(25,v0),(23,x19),(24,x19),(17,x18),(16,x17),(15,x16),(14,x15),(13,v0),(12,x9),(11,x7),(10,x5),(9,x3),(8,x1),(7,x0),(6,x0),(5,v0),(4,(.bool false))] []) G32) (
 bP (bn Q q .eql 3 (.tmp 17) (.const (.int .i64 5)) x18 (.int .i64 5)) fun x33 =>
 ifV x33 (
 bP (pNil v0) fun x34 =>
 bP (fa Q q 171 0 0 x34) fun x35 =>
 bS (e.ev.cl 151 [x35,v1] G8) fun x36 G37 =>
 bP (pNil v0) fun x38 =>
 bP (fa Q q 171 0 0 x38) fun x39 =>
 bP (fa Q q 168 2 13 x39) fun x40 =>
 bP (st Q q 3 1 x40 (.int .i64 99) G37) fun G41 =>
 J0 (xq q 56 (nth undef [v0,v1]) [(49,x40),(48,x39),(47,x38),(46,v0),(45,x36),(44,v1),(43,x35),(42,x34),(41,v0),(39,x33),(40,x33),(23,x19),(24,x19),(17,x18),(16,x17),(15,x16),(14,x15),(13,v0),(12,x9),(11,x7),(10,x5),(9,x3),(8,x1),(7,x0),(6,x0),(5,v0),(4,(.bool false))] []) G41) (
 bP (pNil v0) fun x42 =>
 bP (fa Q q 171 0 0 x42) fun x43 =>
 bS (e.ev.cl 149 [x43,v1] G8) fun x44 G45 =>
 J0 (xq q 56 (nth undef [v0,v1]) [(22,x44),(21,v1),(20,x43),(19,x42),(18,v0),(39,x33),(40,x33),(23,x19),(24,x19),(17,x18),(16,x17),(15,x16),(14,x15),(13,v0),(12,x9),(11,x7),(10,x5),(9,x3),(8,x1),(7,x0),(6,x0),(5,v0),(4,(.bool false))] []) G45)))
noncomputable def s89 (q:Bool) (e:Ex) (v0 v1:Value) (G:GS):Option (Value × GS):=sb89 q e (j89_0 q e) v0 v1 G
theorem m89 {e:Ex} {E:Ev} (h:ExLe Q e E) (v0 v1:Value) (G:GS):Ref (s89 true e v0 v1 G) (s89 false (Ex.of E) v0 v1 G):=by
 unfold s89 sb89
 repeat' (with_reducible first | exact Ref.rfl' _ | exact ROp.r | refine Ref.bP ?_ fun _=>?_ | refine Ref.bS ?_ fun _ _=>?_ | exact Ref.cl (by assumption) | refine Ref.ifV ?_ ?_ | refine LpLe.rx (by assumption) ?_ | refine Ref.xitq ?_ | exact UOk.z | refine UOk.c (by assumption) ?_ | exact Ref.nil _ | refine Ref.bVe fun _ _=>?_ | refine Ref.bLq (by assumption) ?_ fun _ _ _=>?_ | refine Ref.ifE ?_ ?_ | refine Ref.chk ?_ ?_ | refine Imp.and ?_ ?_ | refine Imp.or ?_ | exact Imp.rfl' _ | refine Imp.sameO ?_ | refine Ref.gd ?_ | exact Ref.cValue (by assumption) | refine Ref.bX ?_ fun _ _ _=>?_ | exact Ref.scQ (by assumption) | exact Ref.xRangeQ (by assumption) | exact Ref.cInvoke (by assumption) | refine mkj89_0 (by assumption) ?_)
noncomputable def jt89 (J0:Env → GS → Option (Value × GS)):JT (Value × GS) :=
 (.n none .e (.n none .e (.n (some (fun T G=>J0 (nth undef T) G)) .e .e)))
theorem jr89_0 (orc:FuncId → Bool) (J0:Env → GS → Option (Value × GS)) (T:List Value) (G:GS):runC Q (evL Q orc) Tryz.f89.ntmps (jt89 J0) (bodyOf Tryz.f89) (retE Q Tryz.f89.results.toList) [true,true] (nth undef T) G = jb89_0 false (Ex.of (E orc))  (nth undef T) G:=by kernel_rfl
theorem jo89 (orc:FuncId → Bool):JOk Q orc Tryz.f89.ntmps (jt89 (j89_0 false (Ex.of (E orc))) ) (bodyOf Tryz.f89) (retE Q Tryz.f89.results.toList) :=
 jOk Q orc (l:=[([true,true],(fun T G=>j89_0 false (Ex.of (E orc)) (nth undef T) G))]) (by kernel_rfl) (AllE.c (fun T G=>jr89_0 orc (j89_0 false (Ex.of (E orc))) T G) (AllE.z))
theorem je89 (orc:FuncId → Bool) (J0:Env → GS → Option (Value × GS)) (v0 v1:Value) (G:GS):sxC Q (evL Q orc) Tryz.f89.ntmps (jt89 J0) (bodyOf Tryz.f89) (nth undef [v0,v1]) G (retE Q Tryz.f89.results.toList) = sb89 false (Ex.of (E orc)) J0 v0 v1 G:=by kernel_rfl
theorem f89 {orc:FuncId → Bool} {e:Ex} (h:ExLe Q e (E orc)) (v0 v1:Value) (G:GS):Ref (s89 true e v0 v1 G) ((E orc).cl 89 [v0,v1] G) :=
 fun r hr=>cl_sxC Q orc (vs:=[v0,v1]) G (jt89 (j89_0 false (Ex.of (E orc))) ) Tryz.func89 (by kernel_rfl) (by kernel_rfl) (by kernel_rfl) (by kernel_rfl) (by kernel_rfl) (jo89 orc) (je89 orc (j89_0 false (Ex.of (E orc))) v0 v1 G) (m89 h v0 v1 G r hr)
noncomputable def jbl90_0_0 (q:Bool) (e:Ex) (lp:Env → GS → Option (Exit × Env × GS)) (τ:Env) (G:GS):Option (Exit × Env × GS) :=
 bV q (τ 0) fun a0_ =>
 bV q (τ 1) fun a1_ =>
 bV q (τ 17) fun a17_ =>
 bS (e.ev.cl 154 [a0_,a1_] G) fun x4 G5 =>
 some ((.exit 0),xq q 162 τ [(43,x4),(42,a1_),(41,a0_)] [(0,a0_),(1,a1_),(17,a17_)],G5)
noncomputable def jl90_0_0 (q:Bool) (e:Ex) (lp:Env → GS → Option (Exit × Env × GS)) (τ:Env) (G:GS):Option (Exit × Env × GS):=jbl90_0_0 q e lp τ G
theorem mjl90_0_0 {e:Ex} {E:Ev} (h:ExLe Q e E) {lp lp':Env → GS → Option (Exit × Env × GS)} (hlp:LpLe lp lp') (τ:Env) (G:GS):Ref (jl90_0_0 true e lp τ G) (jl90_0_0 false (Ex.of E) lp' τ G):=by
 unfold jl90_0_0 jbl90_0_0
 exact Ref.gq
theorem mkjl90_0_0 {e:Ex} {E:Ev} (h:ExLe Q e E) {lp lp':Env → GS → Option (Exit × Env × GS)} (hlp:LpLe lp lp') {τ:Env} {l U:List (Nat × Value)} {G:GS} (hU:UOk τ U):Ref (jl90_0_0 true e lp (xq true 162 τ l U) G) (jl90_0_0 false (Ex.of E) lp' (xq false 162 τ l U) G):=by
 rw [xq_eq hU]
 exact mjl90_0_0 h hlp _ _
noncomputable def jbl90_0_1 (q:Bool) (e:Ex) (lp:Env → GS → Option (Exit × Env × GS)) (J0:Env → GS → Option (Exit × Env × GS)) (τ:Env) (G:GS):Option (Exit × Env × GS) :=
 bV q (τ 0) fun a0_ =>
 bV q (τ 1) fun a1_ =>
 bV q (τ 17) fun a17_ =>
 bP (pNil a0_) fun x6 =>
 bP (fa Q q 165 0 0 x6) fun x7 =>
 bS (e.ev.cl 153 [x7,a1_] G) fun x8 G9 =>
 some ((.exit 0),xq q 162 τ [(40,x8),(39,a1_),(38,x7),(37,x6),(36,a0_)] [(0,a0_),(1,a1_),(17,a17_)],G9)
noncomputable def jl90_0_1 (q:Bool) (e:Ex) (lp:Env → GS → Option (Exit × Env × GS)) (τ:Env) (G:GS):Option (Exit × Env × GS):=jbl90_0_1 q e lp (jl90_0_0 q e lp) τ G
theorem mjl90_0_1 {e:Ex} {E:Ev} (h:ExLe Q e E) {lp lp':Env → GS → Option (Exit × Env × GS)} (hlp:LpLe lp lp') (τ:Env) (G:GS):Ref (jl90_0_1 true e lp τ G) (jl90_0_1 false (Ex.of E) lp' τ G):=by
 unfold jl90_0_1 jbl90_0_1
 repeat' (with_reducible first | exact Ref.rfl' _ | exact ROp.r | refine Ref.bP ?_ fun _=>?_ | refine Ref.bS ?_ fun _ _=>?_ | exact Ref.cl (by assumption) | refine Ref.ifV ?_ ?_ | refine LpLe.rx (by assumption) ?_ | refine Ref.xitq ?_ | exact UOk.z | refine UOk.c (by assumption) ?_ | exact Ref.nil _ | refine Ref.bVe fun _ _=>?_ | refine Ref.bLq (by assumption) ?_ fun _ _ _=>?_ | refine Ref.ifE ?_ ?_ | refine Ref.chk ?_ ?_ | refine Imp.and ?_ ?_ | refine Imp.or ?_ | exact Imp.rfl' _ | refine Imp.sameO ?_ | refine Ref.gd ?_ | exact Ref.cValue (by assumption) | refine Ref.bX ?_ fun _ _ _=>?_ | exact Ref.scQ (by assumption) | exact Ref.xRangeQ (by assumption) | exact Ref.cInvoke (by assumption) | refine mkjl90_0_0 (by assumption) (by assumption) ?_)
theorem mkjl90_0_1 {e:Ex} {E:Ev} (h:ExLe Q e E) {lp lp':Env → GS → Option (Exit × Env × GS)} (hlp:LpLe lp lp') {τ:Env} {l U:List (Nat × Value)} {G:GS} (hU:UOk τ U):Ref (jl90_0_1 true e lp (xq true 162 τ l U) G) (jl90_0_1 false (Ex.of E) lp' (xq false 162 τ l U) G):=by
 rw [xq_eq hU]
 exact mjl90_0_1 h hlp _ _
noncomputable def jbl90_0_2 (q:Bool) (e:Ex) (lp:Env → GS → Option (Exit × Env × GS)) (J0 J1:Env → GS → Option (Exit × Env × GS)) (τ:Env) (G:GS):Option (Exit × Env × GS) :=
 bV q (τ 0) fun a0_ =>
 bV q (τ 1) fun a1_ =>
 bV q (τ 17) fun a17_ =>
 bP (bn Q q .eql 3 (.tmp 17) (.const (.int .i64 7)) a17_ (.int .i64 7)) fun x13 =>
 ifV x13 (
 bP (pNil a0_) fun x14 =>
 bP (fa Q q 165 0 0 x14) fun x15 =>
 bS (e.ev.cl 155 [x15,a1_,(.int .i64 4)] G) fun x16 G17 =>
 bP (pNil a0_) fun x18 =>
 bP (fa Q q 165 0 0 x18) fun x19 =>
 bP (fa Q q 162 5 20 x19) fun x20 =>
 bP (st Q q 160 1 x20 x16 G17) fun G21 =>
 bP (pNil a0_) fun x22 =>
 bP (fa Q q 165 0 0 x22) fun x23 =>
 bP (fa Q q 162 2 17 x23) fun x24 =>
 bP (st Q q 3 1 x24 (.int .i64 8) G21) fun G25 =>
 bP (pNil a0_) fun x26 =>
 bP (fa Q q 165 0 0 x26) fun x27 =>
 bP (fa Q q 162 5 20 x27) fun x28 =>
 bP (ld Q q 160 x28 G25) fun x29 =>
 bS (e.ev.cl 156 [x29] G25) fun x30 G31 =>
 ifV x30 (
 bP (pNil a0_) fun x32 =>
 bP (fa Q q 165 0 0 x32) fun x33 =>
 bP (fa Q q 162 2 17 x33) fun x34 =>
 bP (st Q q 3 1 x34 (.int .i64 3) G31) fun G35 =>
 some ((.exit 0),xq q 162 τ [(66,x34),(65,x33),(64,x32),(63,a0_),(62,x30),(61,x29),(60,x28),(59,x27),(58,x26),(57,a0_),(56,x24),(55,x23),(54,x22),(53,a0_),(52,x20),(51,x19),(50,x18),(49,x16),(48,a1_),(47,x15),(46,x14),(45,a0_),(44,a0_),(28,x13),(29,x13)] [(0,a0_),(1,a1_),(17,a17_)],G35)) (
 some ((.exit 0),xq q 162 τ [(62,x30),(61,x29),(60,x28),(59,x27),(58,x26),(57,a0_),(56,x24),(55,x23),(54,x22),(53,a0_),(52,x20),(51,x19),(50,x18),(49,x16),(48,a1_),(47,x15),(46,x14),(45,a0_),(44,a0_),(28,x13),(29,x13)] [(0,a0_),(1,a1_),(17,a17_)],G31))) (
 bP (bn Q q .eql 3 (.tmp 17) (.const (.int .i64 8)) a17_ (.int .i64 8)) fun x36 =>
 ifV x36 (
 bP (pNil a0_) fun x37 =>
 bP (fa Q q 165 0 0 x37) fun x38 =>
 bP (fa Q q 162 3 18 x38) fun x39 =>
 bP (ld Q q 39 x39 G) fun x40 =>
 bP (pNil a0_) fun x41 =>
 bP (fa Q q 165 0 0 x41) fun x42 =>
 bP (fa Q q 162 7 23 x42) fun x43 =>
 bP (st Q q 39 1 x43 x40 G) fun G44 =>
 bP (pNil a0_) fun x45 =>
 bP (fa Q q 165 0 0 x45) fun x46 =>
 bP (fa Q q 162 2 17 x46) fun x47 =>
 bP (st Q q 3 1 x47 (.int .i64 7) G44) fun G48 =>
 bP (pNil a0_) fun x49 =>
 bP (fa Q q 165 0 0 x49) fun x50 =>
 bP (fa Q q 162 0 0 x50) fun x51 =>
 bP (lda Q q 75 13 x51 (G48.room 24)) fun x52 =>
 bP (pNil a0_) fun x53 =>
 bP (fa Q q 165 0 0 x53) fun x54 =>
 bP (fa Q q 162 4 19 x54) fun x55 =>
 bP (ld Q q 3 x55 (G48.room 24)) fun x56 =>
 bS (e.ev.cl 142 [x52,x56,(.int .i64 0)] (G48.room 24)) fun x58 G57 =>
 bP (pNil a0_) fun x59 =>
 bP (fa Q q 165 0 0 x59) fun x60 =>
 bP (fa Q q 162 5 20 x60) fun x61 =>
 bP (ld Q q 160 x61 G57) fun x62 =>
 chk ((sameO (ld Q q 160 x61 (G48.room 24)) x62 && true)) <|
 bP (pNil a0_) fun x63 =>
 bP (fa Q q 165 0 0 x63) fun x64 =>
 bP (fa Q q 162 5 20 x64) fun x65 =>
 bP (ld Q q 160 x65 G57) fun x66 =>
 chk ((sameO (ld Q q 160 x65 (G48.room 24)) x66 && true)) <|
 bS (e.ev.cl 158 [x66,(.bool true)] G57) fun x68 G67 =>
 chk ((sameO (ld Q q 160 x61 G67) x62 && true)) <|
 bS (e.ev.cl 157 [a1_,x58,x62,x68] G67) fun x70 G69 =>
 ifV x70 (
 bP (pNil a0_) fun x71 =>
 bP (fa Q q 165 0 0 x71) fun x72 =>
 bP (fa Q q 162 1 13 x72) fun x73 =>
 bP (fa Q q 159 1 1 x73) fun x74 =>
 bP (st Q q 4 1 x74 (.bool true) G69) fun G75 =>
 bP (pNil a0_) fun x76 =>
 bP (fa Q q 165 0 0 x76) fun x77 =>
 bP (fa Q q 162 2 17 x77) fun x78 =>
 bP (st Q q 3 1 x78 (.int .i64 9) G75) fun G79 =>
 some ((.exit 0),xq q 162 τ [(112,x78),(111,x77),(110,x76),(109,x74),(108,x73),(107,x72),(106,x71),(105,a0_),(104,a0_),(103,x70),(102,x68),(101,x66),(100,x65),(99,x64),(98,x63),(97,a0_),(96,x62),(95,x61),(94,x60),(93,x59),(92,a0_),(91,x58),(90,x56),(89,x55),(88,x54),(87,x53),(86,a0_),(85,x52),(84,x51),(83,x50),(82,x49),(81,a0_),(80,a1_),(79,x47),(78,x46),(77,x45),(76,x43),(75,x42),(74,x41),(73,x40),(72,x39),(71,x38),(70,x37),(69,a0_),(68,a0_),(67,a0_),(30,x36),(31,x36),(28,x13),(29,x13)] [(0,a0_),(1,a1_),(17,a17_)],G79)) (
 some ((.exit 0),xq q 162 τ [(103,x70),(102,x68),(101,x66),(100,x65),(99,x64),(98,x63),(97,a0_),(96,x62),(95,x61),(94,x60),(93,x59),(92,a0_),(91,x58),(90,x56),(89,x55),(88,x54),(87,x53),(86,a0_),(85,x52),(84,x51),(83,x50),(82,x49),(81,a0_),(80,a1_),(79,x47),(78,x46),(77,x45),(76,x43),(75,x42),(74,x41),(73,x40),(72,x39),(71,x38),(70,x37),(69,a0_),(68,a0_),(67,a0_),(30,x36),(31,x36),(28,x13),(29,x13)] [(0,a0_),(1,a1_),(17,a17_)],G69))) (
 bP (bn Q q .eql 3 (.tmp 17) (.const (.int .i64 9)) a17_ (.int .i64 9)) fun x80 =>
 ifV x80 (
 bP (pNil a0_) fun x81 =>
 bP (fa Q q 165 0 0 x81) fun x82 =>
 bS (e.ev.cl 155 [x82,a1_,(.int .i64 0)] G) fun x83 G84 =>
 bP (pNil a0_) fun x85 =>
 bP (fa Q q 165 0 0 x85) fun x86 =>
 bP (fa Q q 162 6 21 x86) fun x87 =>
 bP (fa Q q 92 0 0 x87) fun x88 =>
 bP (st Q q 39 1 x88 x83 G84) fun G89 =>
 bP (pNil a0_) fun x90 =>
 bP (fa Q q 165 0 0 x90) fun x91 =>
 bP (fa Q q 162 2 17 x91) fun x92 =>
 bP (st Q q 3 1 x92 (.int .i64 91) G89) fun G93 =>
 some ((.exit 0),xq q 162 τ [(126,x92),(125,x91),(124,x90),(123,x88),(122,x87),(121,x86),(120,x85),(119,x83),(118,a1_),(117,x82),(116,x81),(115,a0_),(114,a0_),(113,a0_),(32,x80),(33,x80),(30,x36),(31,x36),(28,x13),(29,x13)] [(0,a0_),(1,a1_),(17,a17_)],G93)) (
 bP (bn Q q .eql 3 (.tmp 17) (.const (.int .i64 91)) a17_ (.int .i64 91)) fun x94 =>
 ifV x94 (
 bP (pNil a0_) fun x95 =>
 bP (fa Q q 165 0 0 x95) fun x96 =>
 bS (e.ev.cl 159 [x96,a1_] G) fun x97 G98 =>
 bP (pNil a0_) fun x99 =>
 bP (fa Q q 165 0 0 x99) fun x100 =>
 bP (fa Q q 162 0 0 x100) fun x101 =>
 bP (lda Q q 75 13 x101 (G98.room 23)) fun x102 =>
 bP (pNil a0_) fun x103 =>
 bP (fa Q q 165 0 0 x103) fun x104 =>
 bP (fa Q q 162 6 21 x104) fun x105 =>
 bP (fa Q q 92 0 0 x105) fun x106 =>
 bP (ld Q q 39 x106 (G98.room 23)) fun x107 =>
 bS (e.ev.cl 160 [x102,x107] (G98.room 23)) fun x109 G108 =>
 bP (pNil a0_) fun x110 =>
 bP (fa Q q 165 0 0 x110) fun x111 =>
 bP (fa Q q 162 1 13 x111) fun x112 =>
 bP (fa Q q 159 2 2 x112) fun x113 =>
 bP (st Q q 156 1 x113 x109 G108) fun G114 =>
 bP (pNil a0_) fun x115 =>
 bP (fa Q q 165 0 0 x115) fun x116 =>
 bP (fa Q q 162 2 17 x116) fun x117 =>
 bP (st Q q 3 1 x117 (.int .i64 10) G114) fun G118 =>
 some ((.exit 0),xq q 162 τ [(152,x117),(151,x116),(150,x115),(149,x113),(148,x112),(147,x111),(146,x110),(145,x109),(144,x107),(143,x106),(142,x105),(141,x104),(140,x103),(139,a0_),(138,x102),(137,x101),(136,x100),(135,x99),(134,a0_),(133,a0_),(132,a0_),(131,x97),(130,a1_),(129,x96),(128,x95),(127,a0_),(34,x94),(35,x94),(32,x80),(33,x80),(30,x36),(31,x36),(28,x13),(29,x13)] [(0,a0_),(1,a1_),(17,a17_)],G118)) (
 bS (e.ev.cl 161 [a0_,a1_] G) fun x119 G120 =>
 some ((.exit 0),xq q 162 τ [(155,x119),(154,a1_),(153,a0_),(34,x94),(35,x94),(32,x80),(33,x80),(30,x36),(31,x36),(28,x13),(29,x13)] [(0,a0_),(1,a1_),(17,a17_)],G120)))))
noncomputable def jl90_0_2 (q:Bool) (e:Ex) (lp:Env → GS → Option (Exit × Env × GS)) (τ:Env) (G:GS):Option (Exit × Env × GS):=jbl90_0_2 q e lp (jl90_0_0 q e lp) (jl90_0_1 q e lp) τ G
theorem mjl90_0_2 {e:Ex} {E:Ev} (h:ExLe Q e E) {lp lp':Env → GS → Option (Exit × Env × GS)} (hlp:LpLe lp lp') (τ:Env) (G:GS):Ref (jl90_0_2 true e lp τ G) (jl90_0_2 false (Ex.of E) lp' τ G):=by
 unfold jl90_0_2 jbl90_0_2
 repeat' (with_reducible first | exact Ref.rfl' _ | exact ROp.r | refine Ref.bP ?_ fun _=>?_ | refine Ref.bS ?_ fun _ _=>?_ | exact Ref.cl (by assumption) | refine Ref.ifV ?_ ?_ | refine LpLe.rx (by assumption) ?_ | refine Ref.xitq ?_ | exact UOk.z | refine UOk.c (by assumption) ?_ | exact Ref.nil _ | refine Ref.bVe fun _ _=>?_ | refine Ref.bLq (by assumption) ?_ fun _ _ _=>?_ | refine Ref.ifE ?_ ?_ | refine Ref.chk ?_ ?_ | refine Imp.and ?_ ?_ | refine Imp.or ?_ | exact Imp.rfl' _ | refine Imp.sameO ?_ | refine Ref.gd ?_ | exact Ref.cValue (by assumption) | refine Ref.bX ?_ fun _ _ _=>?_ | exact Ref.scQ (by assumption) | exact Ref.xRangeQ (by assumption) | exact Ref.cInvoke (by assumption) | refine mkjl90_0_0 (by assumption) (by assumption) ?_ | refine mkjl90_0_1 (by assumption) (by assumption) ?_)
theorem mkjl90_0_2 {e:Ex} {E:Ev} (h:ExLe Q e E) {lp lp':Env → GS → Option (Exit × Env × GS)} (hlp:LpLe lp lp') {τ:Env} {l U:List (Nat × Value)} {G:GS} (hU:UOk τ U):Ref (jl90_0_2 true e lp (xq true 162 τ l U) G) (jl90_0_2 false (Ex.of E) lp' (xq false 162 τ l U) G):=by
 rw [xq_eq hU]
 exact mjl90_0_2 h hlp _ _
noncomputable def bb90_0 (q:Bool) (e:Ex) (lp:Env → GS → Option (Exit × Env × GS)) (J0 J1 J2:Env → GS → Option (Exit × Env × GS)) (τ:Env) (G:GS):Option (Exit × Env × GS) :=
 bV q (τ 0) fun a0_ =>
 bV q (τ 1) fun a1_ =>
 bP (pNil a0_) fun x0 =>
 bP (fa Q q 165 0 0 x0) fun x1 =>
 bP (fa Q q 162 2 17 x1) fun x2 =>
 bP (ld Q q 3 x2 G) fun x3 =>
 bP (bn Q q .eql 3 (.tmp 17) (.const (.int .i64 1)) x3 (.int .i64 1)) fun x10 =>
 ifV x10 (
 J1 (xq q 162 τ [(18,x10),(19,x10),(17,x3),(16,x2),(15,x1),(14,x0),(13,a0_)] [(0,a0_),(1,a1_)]) G) (
 bP (bn Q q .eql 3 (.tmp 17) (.const (.int .i64 2)) x3 (.int .i64 2)) fun x11 =>
 ifV x11 (
 J1 (xq q 162 τ [(20,x11),(21,x11),(18,x10),(19,x10),(17,x3),(16,x2),(15,x1),(14,x0),(13,a0_)] [(0,a0_),(1,a1_)]) G) (
 bP (bn Q q .eql 3 (.tmp 17) (.const (.int .i64 3)) x3 (.int .i64 3)) fun x12 =>
 ifV x12 (
 J1 (xq q 162 τ [(22,x12),(23,x12),(20,x11),(21,x11),(18,x10),(19,x10),(17,x3),(16,x2),(15,x1),(14,x0),(13,a0_)] [(0,a0_),(1,a1_)]) G) (
 bP (bn Q q .eql 3 (.tmp 17) (.const (.int .i64 4)) x3 (.int .i64 4)) fun x121 =>
 ifV x121 (
 ifV x121 (
 J0 (xq q 162 τ [(24,x121),(25,x121),(22,x12),(23,x12),(20,x11),(21,x11),(18,x10),(19,x10),(17,x3),(16,x2),(15,x1),(14,x0),(13,a0_)] [(0,a0_),(1,a1_)]) G) (
 J2 (xq q 162 τ [(24,x121),(25,x121),(22,x12),(23,x12),(20,x11),(21,x11),(18,x10),(19,x10),(17,x3),(16,x2),(15,x1),(14,x0),(13,a0_)] [(0,a0_),(1,a1_)]) G)) (
 bP (bn Q q .eql 3 (.tmp 17) (.const (.int .i64 5)) x3 (.int .i64 5)) fun x122 =>
 ifV x122 (
 ifV x122 (
 J0 (xq q 162 τ [(24,x122),(26,x122),(24,x121),(25,x121),(22,x12),(23,x12),(20,x11),(21,x11),(18,x10),(19,x10),(17,x3),(16,x2),(15,x1),(14,x0),(13,a0_)] [(0,a0_),(1,a1_)]) G) (
 J2 (xq q 162 τ [(24,x122),(26,x122),(24,x121),(25,x121),(22,x12),(23,x12),(20,x11),(21,x11),(18,x10),(19,x10),(17,x3),(16,x2),(15,x1),(14,x0),(13,a0_)] [(0,a0_),(1,a1_)]) G)) (
 bP (bn Q q .eql 3 (.tmp 17) (.const (.int .i64 6)) x3 (.int .i64 6)) fun x123 =>
 ifV x123 (
 J0 (xq q 162 τ [(24,x123),(27,x123),(24,x122),(26,x122),(24,x121),(25,x121),(22,x12),(23,x12),(20,x11),(21,x11),(18,x10),(19,x10),(17,x3),(16,x2),(15,x1),(14,x0),(13,a0_)] [(0,a0_),(1,a1_)]) G) (
 J2 (xq q 162 τ [(24,x123),(27,x123),(24,x122),(26,x122),(24,x121),(25,x121),(22,x12),(23,x12),(20,x11),(21,x11),(18,x10),(19,x10),(17,x3),(16,x2),(15,x1),(14,x0),(13,a0_)] [(0,a0_),(1,a1_)]) G))))))
noncomputable def b90_0 (q:Bool) (e:Ex) (lp:Env → GS → Option (Exit × Env × GS)) (τ:Env) (G:GS):Option (Exit × Env × GS):=bb90_0 q e lp (jl90_0_0 q e lp) (jl90_0_1 q e lp) (jl90_0_2 q e lp) τ G
theorem mb90_0 {e:Ex} {E:Ev} (h:ExLe Q e E) {lp lp':Env → GS → Option (Exit × Env × GS)} (hlp:LpLe lp lp') (τ:Env) (G:GS):Ref (b90_0 true e lp τ G) (b90_0 false (Ex.of E) lp' τ G):=by
 unfold b90_0 bb90_0
 repeat' (with_reducible first | exact Ref.rfl' _ | exact ROp.r | refine Ref.bP ?_ fun _=>?_ | refine Ref.bS ?_ fun _ _=>?_ | exact Ref.cl (by assumption) | refine Ref.ifV ?_ ?_ | refine LpLe.rx (by assumption) ?_ | refine Ref.xitq ?_ | exact UOk.z | refine UOk.c (by assumption) ?_ | exact Ref.nil _ | refine Ref.bVe fun _ _=>?_ | refine Ref.bLq (by assumption) ?_ fun _ _ _=>?_ | refine Ref.ifE ?_ ?_ | refine Ref.chk ?_ ?_ | refine Imp.and ?_ ?_ | refine Imp.or ?_ | exact Imp.rfl' _ | refine Imp.sameO ?_ | refine Ref.gd ?_ | exact Ref.cValue (by assumption) | refine Ref.bX ?_ fun _ _ _=>?_ | exact Ref.scQ (by assumption) | exact Ref.xRangeQ (by assumption) | exact Ref.cInvoke (by assumption) | refine mkjl90_0_0 (by assumption) (by assumption) ?_ | refine mkjl90_0_1 (by assumption) (by assumption) ?_ | refine mkjl90_0_2 (by assumption) (by assumption) ?_)
noncomputable def jtl90_0 (J0 J1 J2:Env → GS → Option (Exit × Env × GS)):JT (Exit × Env × GS) :=
 (.n none (.n none .e (.n none (.n none (.n none (.n none (.n none (.n none (.n none (.n none (.n none (.n none (.n none (.n (some (fun T G=>J0 (nth undef T) G)) (.n none (.n (some (fun T G=>J1 (nth undef T) G)) (.n none (.n none (.n none (.n none (.n none .e (.n none .e (.n none .e (.n (some (fun T G=>J2 (nth undef T) G)) .e .e)))) .e) .e) .e) .e) .e) .e) .e) .e) .e) .e) .e) .e) .e) .e) .e) .e) .e) .e)) .e)
set_option maxHeartbeats 8000000 in
theorem jrl90_0_0 (orc:FuncId → Bool) (J0 J1 J2:Env → GS → Option (Exit × Env × GS)) (T:List Value) (G:GS):runC Q (evL Q orc) 162 (jtl90_0 J0 J1 J2) (subAt [1,0,1,1,0,0,0] (bodyOf Tryz.f90)) (seqXE (fun τ G'=>mapE ((E orc).lp (subAt [1,0,1,1,0,0,0] (bodyOf Tryz.f90)) (lst 162 (nth undef (lst 162 τ))) G')) fun e τ G'=>some (e,nth undef (lst 162 τ),G')) [false,true,false,false,false,false,false,false,false,false,false,false,false] (nth undef T) G = jbl90_0_0 false (Ex.of (E orc)) (fun τ G=>mapE ((E orc).lp (subAt [1,0,1,1,0,0,0] (bodyOf Tryz.f90)) (lst 162 τ) G))  (nth undef T) G:=by kernel_rfl
set_option maxHeartbeats 8000000 in
theorem jrl90_0_1 (orc:FuncId → Bool) (J0 J1 J2:Env → GS → Option (Exit × Env × GS)) (T:List Value) (G:GS):runC Q (evL Q orc) 162 (jtl90_0 J0 J1 J2) (subAt [1,0,1,1,0,0,0] (bodyOf Tryz.f90)) (seqXE (fun τ G'=>mapE ((E orc).lp (subAt [1,0,1,1,0,0,0] (bodyOf Tryz.f90)) (lst 162 (nth undef (lst 162 τ))) G')) fun e τ G'=>some (e,nth undef (lst 162 τ),G')) [false,true,false,false,false,false,false,false,false,false,false,false,false,false,false] (nth undef T) G = jbl90_0_1 false (Ex.of (E orc)) (fun τ G=>mapE ((E orc).lp (subAt [1,0,1,1,0,0,0] (bodyOf Tryz.f90)) (lst 162 τ) G)) J0 (nth undef T) G:=by kernel_rfl
set_option maxHeartbeats 8000000 in
theorem jrl90_0_2 (orc:FuncId → Bool) (J0 J1 J2:Env → GS → Option (Exit × Env × GS)) (T:List Value) (G:GS):runC Q (evL Q orc) 162 (jtl90_0 J0 J1 J2) (subAt [1,0,1,1,0,0,0] (bodyOf Tryz.f90)) (seqXE (fun τ G'=>mapE ((E orc).lp (subAt [1,0,1,1,0,0,0] (bodyOf Tryz.f90)) (lst 162 (nth undef (lst 162 τ))) G')) fun e τ G'=>some (e,nth undef (lst 162 τ),G')) [false,true,false,false,false,false,false,false,false,false,false,false,false,false,false,false,false,false,false,false,true,true,true] (nth undef T) G = jbl90_0_2 false (Ex.of (E orc)) (fun τ G=>mapE ((E orc).lp (subAt [1,0,1,1,0,0,0] (bodyOf Tryz.f90)) (lst 162 τ) G)) J0 J1 (nth undef T) G:=by kernel_rfl
set_option maxHeartbeats 8000000 in
theorem jol90_0 (orc:FuncId → Bool):JOk Q orc 162 (jtl90_0 (jl90_0_0 false (Ex.of (E orc)) (fun τ G=>mapE ((E orc).lp (subAt [1,0,1,1,0,0,0] (bodyOf Tryz.f90)) (lst 162 τ) G))) (jl90_0_1 false (Ex.of (E orc)) (fun τ G=>mapE ((E orc).lp (subAt [1,0,1,1,0,0,0] (bodyOf Tryz.f90)) (lst 162 τ) G))) (jl90_0_2 false (Ex.of (E orc)) (fun τ G=>mapE ((E orc).lp (subAt [1,0,1,1,0,0,0] (bodyOf Tryz.f90)) (lst 162 τ) G))) ) (subAt [1,0,1,1,0,0,0] (bodyOf Tryz.f90)) (seqXE (fun τ G'=>mapE ((E orc).lp (subAt [1,0,1,1,0,0,0] (bodyOf Tryz.f90)) (lst 162 (nth undef (lst 162 τ))) G')) fun e τ G'=>some (e,nth undef (lst 162 τ),G')) :=
 jOk Q orc (l:=[([false,true,false,false,false,false,false,false,false,false,false,false,false],(fun T G=>jl90_0_0 false (Ex.of (E orc)) (fun τ G=>mapE ((E orc).lp (subAt [1,0,1,1,0,0,0] (bodyOf Tryz.f90)) (lst 162 τ) G)) (nth undef T) G)),([false,true,false,false,false,false,false,false,false,false,false,false,false,false,false],(fun T G=>jl90_0_1 false (Ex.of (E orc)) (fun τ G=>mapE ((E orc).lp (subAt [1,0,1,1,0,0,0] (bodyOf Tryz.f90)) (lst 162 τ) G)) (nth undef T) G)),([false,true,false,false,false,false,false,false,false,false,false,false,false,false,false,false,false,false,false,false,true,true,true],(fun T G=>jl90_0_2 false (Ex.of (E orc)) (fun τ G=>mapE ((E orc).lp (subAt [1,0,1,1,0,0,0] (bodyOf Tryz.f90)) (lst 162 τ) G)) (nth undef T) G))]) (by kernel_rfl) (AllE.c (fun T G=>jrl90_0_0 orc (jl90_0_0 false (Ex.of (E orc)) (fun τ G=>mapE ((E orc).lp (subAt [1,0,1,1,0,0,0] (bodyOf Tryz.f90)) (lst 162 τ) G))) (jl90_0_1 false (Ex.of (E orc)) (fun τ G=>mapE ((E orc).lp (subAt [1,0,1,1,0,0,0] (bodyOf Tryz.f90)) (lst 162 τ) G))) (jl90_0_2 false (Ex.of (E orc)) (fun τ G=>mapE ((E orc).lp (subAt [1,0,1,1,0,0,0] (bodyOf Tryz.f90)) (lst 162 τ) G))) T G) (AllE.c (fun T G=>jrl90_0_1 orc (jl90_0_0 false (Ex.of (E orc)) (fun τ G=>mapE ((E orc).lp (subAt [1,0,1,1,0,0,0] (bodyOf Tryz.f90)) (lst 162 τ) G))) (jl90_0_1 false (Ex.of (E orc)) (fun τ G=>mapE ((E orc).lp (subAt [1,0,1,1,0,0,0] (bodyOf Tryz.f90)) (lst 162 τ) G))) (jl90_0_2 false (Ex.of (E orc)) (fun τ G=>mapE ((E orc).lp (subAt [1,0,1,1,0,0,0] (bodyOf Tryz.f90)) (lst 162 τ) G))) T G) (AllE.c (fun T G=>jrl90_0_2 orc (jl90_0_0 false (Ex.of (E orc)) (fun τ G=>mapE ((E orc).lp (subAt [1,0,1,1,0,0,0] (bodyOf Tryz.f90)) (lst 162 τ) G))) (jl90_0_1 false (Ex.of (E orc)) (fun τ G=>mapE ((E orc).lp (subAt [1,0,1,1,0,0,0] (bodyOf Tryz.f90)) (lst 162 τ) G))) (jl90_0_2 false (Ex.of (E orc)) (fun τ G=>mapE ((E orc).lp (subAt [1,0,1,1,0,0,0] (bodyOf Tryz.f90)) (lst 162 τ) G))) T G) (AllE.z))))
set_option maxHeartbeats 8000000 in
theorem jel90_0 (orc:FuncId → Bool) (J0 J1 J2:Env → GS → Option (Exit × Env × GS)) (T:List Value) (G:GS):sxC Q (evL Q orc) 162 (jtl90_0 J0 J1 J2) (subAt [1,0,1,1,0,0,0] (bodyOf Tryz.f90)) (nth undef T) G (seqXE (fun τ G'=>mapE ((E orc).lp (subAt [1,0,1,1,0,0,0] (bodyOf Tryz.f90)) (lst 162 (nth undef (lst 162 τ))) G')) fun e τ G'=>some (e,nth undef (lst 162 τ),G')) = bb90_0 false (Ex.of (E orc)) (fun τ G=>mapE ((E orc).lp (subAt [1,0,1,1,0,0,0] (bodyOf Tryz.f90)) (lst 162 τ) G)) J0 J1 J2 (nth undef T) G:=by kernel_rfl
set_option maxHeartbeats 8000000 in
theorem l90_0 {orc:FuncId → Bool} {e:Ex} (h:ExLe Q e (E orc)) (lp:Env → GS → Option (Exit × Env × GS)) (hlp:∀ τ G,Ref (lp τ G) (mapE ((E orc).lp (subAt [1,0,1,1,0,0,0] (bodyOf Tryz.f90)) (lst 162 τ) G))) (T:List Value) (G:GS) (hT:T.length = 162):Ref (b90_0 true e lp (nth undef T) G) (mapE ((E orc).lp (subAt [1,0,1,1,0,0,0] (bodyOf Tryz.f90)) T G)) :=
 fun r hr=>lp_sxC Q orc G (jtl90_0 (jl90_0_0 false (Ex.of (E orc)) (fun τ G=>mapE ((E orc).lp (subAt [1,0,1,1,0,0,0] (bodyOf Tryz.f90)) (lst 162 τ) G))) (jl90_0_1 false (Ex.of (E orc)) (fun τ G=>mapE ((E orc).lp (subAt [1,0,1,1,0,0,0] (bodyOf Tryz.f90)) (lst 162 τ) G))) (jl90_0_2 false (Ex.of (E orc)) (fun τ G=>mapE ((E orc).lp (subAt [1,0,1,1,0,0,0] (bodyOf Tryz.f90)) (lst 162 τ) G))) ) hT (jol90_0 orc) (jel90_0 orc (jl90_0_0 false (Ex.of (E orc)) (fun τ G=>mapE ((E orc).lp (subAt [1,0,1,1,0,0,0] (bodyOf Tryz.f90)) (lst 162 τ) G))) (jl90_0_1 false (Ex.of (E orc)) (fun τ G=>mapE ((E orc).lp (subAt [1,0,1,1,0,0,0] (bodyOf Tryz.f90)) (lst 162 τ) G))) (jl90_0_2 false (Ex.of (E orc)) (fun τ G=>mapE ((E orc).lp (subAt [1,0,1,1,0,0,0] (bodyOf Tryz.f90)) (lst 162 τ) G))) T G) (mb90_0 h ⟨hlp⟩ _ _ r hr)
noncomputable def s90 (q:Bool) (e:Ex) (v0 v1:Value) (G:GS):Option (Value × GS) :=
 bP (ep Q q false 83 (.tmp 5) (.const (.pointer none)) v0 (.pointer none)) fun x0 =>
 bS (gd x0 false (some (v0,G)) G) fun x1 G2 =>
 bS (gd x0 false (bP (pNil x1) fun y=>some (y,G2)) G2) fun x3 G4 =>
 bS (gd x0 false (bP (fa Q q 165 0 0 x3) fun y=>some (y,G4)) G4) fun x5 G6 =>
 bS (gd x0 false (bS (e.ev.cl 152 [x5] G6) fun y G=>some (y,G)) G6) fun x7 G8 =>
 bP (pickV x0 (.bool true) x7) fun x9 =>
 ifV x9 (
 some ((.bool true),G8)) (
 bLq q e 90 0 (subAt [1,0,1,1,0,0,0] (bodyOf Tryz.f90)) 162 (nth undef [v0,v1]) [(12,x9),(11,x7),(10,x5),(9,x3),(8,x1),(7,x0),(6,x0),(5,v0),(4,(.bool false))] [] G8 fun e10 t11 G12 =>
 bV q (t11 0) fun t11x0_ =>
 ifE e10 (.exit 0) (
 bP (pNil t11x0_) fun x13 =>
 bP (fa Q q 165 0 0 x13) fun x14 =>
 bP (fa Q q 162 2 17 x14) fun x15 =>
 bP (ld Q q 3 x15 G12) fun x16 =>
 bP (bn Q q .eql 3 (.tmp 160) (.const (.int .i64 99)) x16 (.int .i64 99)) fun x17 =>
 some (x17,G12)) (none))
theorem m90 {e:Ex} {E:Ev} (h:ExLe Q e E) (v0 v1:Value) (G:GS):Ref (s90 true e v0 v1 G) (s90 false (Ex.of E) v0 v1 G):=by
 unfold s90
 exact Ref.gq
set_option maxHeartbeats 8000000 in
theorem f90 {orc:FuncId → Bool} {e:Ex} (h:ExLe Q e (E orc)) (v0 v1:Value) (G:GS):Ref (s90 true e v0 v1 G) ((E orc).cl 90 [v0,v1] G) :=
 fun r hr=>cl_sxE_some Q orc (vs:=[v0,v1]) G Tryz.func90 (by kernel_rfl) (by kernel_rfl) (by kernel_rfl) (by kernel_rfl) (by kernel_rfl) (by kernel_rfl) (m90 h v0 v1 G r hr)
noncomputable def s91 (q:Bool) (e:Ex) (v0:Value) (G:GS):Option (Value × GS) :=
 bS (al Q q 92 z92 G) fun x0 G1 =>
 bP (pNil v0) fun x2 =>
 bP (fa Q q 96 2 14 x2) fun x3 =>
 bP (ld Q q 3 x3 G1) fun x4 =>
 bP (bn Q q .neq 3 (.tmp 8) (.const (.int .i64 99)) x4 (.int .i64 99)) fun x5 =>
 ifV x5 (
 bP (bd Q q 92 z92 [] []) fun x6 =>
 bP (st Q q 92 2 x0 x6 G1) fun G7 =>
 bP (lda Q q 92 2 x0 G7) fun x8 =>
 some (.tuple #[x8,(.int .i64 14)],G7)) (
 bP (pNil v0) fun x9 =>
 bP (fa Q q 96 12 25 x9) fun x10 =>
 bP (ld Q q 26 x10 G1) fun x11 =>
 bP (bn Q q .neq 26 (.tmp 15) (.const (.int .i64 0)) x11 (.int .i64 0)) fun x12 =>
 ifV x12 (
 bP (bd Q q 92 z92 [] []) fun x13 =>
 bP (pNil v0) fun x14 =>
 bP (fa Q q 96 12 25 x14) fun x15 =>
 bP (ld Q q 26 x15 (G1.room 7)) fun x16 =>
 bP (st Q q 92 2 x0 x13 (G1.room 7)) fun G17 =>
 chk ((sameO (ld Q q 26 x15 G17) x16 && true)) <|
 bP (lda Q q 92 2 x0 G17) fun x18 =>
 some (.tuple #[x18,x16],G17)) (
 bP (pNil v0) fun x19 =>
 bP (fa Q q 96 7 19 x19) fun x20 =>
 bP (lda Q q 92 2 x20 G1) fun x21 =>
 bP (st Q q 92 2 x0 x21 G1) fun G22 =>
 bP (lda Q q 92 2 x0 G22) fun x23 =>
 some (.tuple #[x23,(.int .i64 0)],G22)))
theorem m91 {e:Ex} {E:Ev} (h:ExLe Q e E) (v0:Value) (G:GS):Ref (s91 true e v0 G) (s91 false (Ex.of E) v0 G):=by
 unfold s91
 exact Ref.gq
theorem f91 {orc:FuncId → Bool} {e:Ex} (h:ExLe Q e (E orc)) (v0:Value) (G:GS):Ref (s91 true e v0 G) ((E orc).cl 91 [v0] G) :=
 fun r hr=>cl_sxE_some Q orc (vs:=[v0]) G Tryz.func91 (by kernel_rfl) (by kernel_rfl) (by kernel_rfl) (by kernel_rfl) (by kernel_rfl) (by kernel_rfl) (m91 h v0 G r hr)
noncomputable def s92 (q:Bool) (e:Ex) (v0:Value) (G:GS):Option (Value × GS) :=
 bS (al Q q 92 z92 G) fun x0 G1 =>
 bP (ep Q q false 87 (.tmp 4) (.const (.pointer none)) v0 (.pointer none)) fun x2 =>
 ifV x2 (
 bP (bd Q q 92 z92 [] []) fun x3 =>
 bP (st Q q 92 2 x0 x3 G1) fun G4 =>
 bP (lda Q q 92 2 x0 G4) fun x5 =>
 some (.tuple #[x5,(.int .i64 1)],G4)) (
 bP (pNil v0) fun x6 =>
 bP (fa Q q 171 0 0 x6) fun x7 =>
 bS (e.ev.cl 162 [x7] G1) fun x8 G9 =>
 bP (pExtract x8 0) fun x10 =>
 bP (pExtract x8 1) fun x11 =>
 bP (st Q q 92 2 x0 x10 G9) fun G12 =>
 bP (lda Q q 92 2 x0 G12) fun x13 =>
 some (.tuple #[x13,x11],G12))
theorem m92 {e:Ex} {E:Ev} (h:ExLe Q e E) (v0:Value) (G:GS):Ref (s92 true e v0 G) (s92 false (Ex.of E) v0 G):=by
 unfold s92
 exact Ref.gq
theorem f92 {orc:FuncId → Bool} {e:Ex} (h:ExLe Q e (E orc)) (v0:Value) (G:GS):Ref (s92 true e v0 G) ((E orc).cl 92 [v0] G) :=
 fun r hr=>cl_sxE_some Q orc (vs:=[v0]) G Tryz.func92 (by kernel_rfl) (by kernel_rfl) (by kernel_rfl) (by kernel_rfl) (by kernel_rfl) (by kernel_rfl) (m92 h v0 G r hr)
noncomputable def s93 (q:Bool) (e:Ex) (v0:Value) (G:GS):Option (Value × GS) :=
 bP (ep Q q false 87 (.tmp 3) (.const (.pointer none)) v0 (.pointer none)) fun x0 =>
 ifV x0 (
 some ((.int .u64 0),G)) (
 bP (pNil v0) fun x1 =>
 bP (fa Q q 171 0 0 x1) fun x2 =>
 bP (fa Q q 168 7 19 x2) fun x3 =>
 bP (ld Q q 39 x3 G) fun x4 =>
 some (x4,G))
theorem m93 {e:Ex} {E:Ev} (h:ExLe Q e E) (v0:Value) (G:GS):Ref (s93 true e v0 G) (s93 false (Ex.of E) v0 G):=by
 unfold s93
 exact Ref.gq
theorem f93 {orc:FuncId → Bool} {e:Ex} (h:ExLe Q e (E orc)) (v0:Value) (G:GS):Ref (s93 true e v0 G) ((E orc).cl 93 [v0] G) :=
 fun r hr=>cl_sxE_some Q orc (vs:=[v0]) G Tryz.func93 (by kernel_rfl) (by kernel_rfl) (by kernel_rfl) (by kernel_rfl) (by kernel_rfl) (by kernel_rfl) (m93 h v0 G r hr)
noncomputable def s94 (q:Bool) (e:Ex) (v0:Value) (G:GS):Option (Value × GS) :=
 bP (pNil v0) fun x0 =>
 bP (fa Q q 96 11 24 x0) fun x1 =>
 bP (ld Q q 39 x1 G) fun x2 =>
 some (x2,G)
theorem m94 {e:Ex} {E:Ev} (h:ExLe Q e E) (v0:Value) (G:GS):Ref (s94 true e v0 G) (s94 false (Ex.of E) v0 G):=by
 unfold s94
 exact Ref.gq
theorem f94 {orc:FuncId → Bool} {e:Ex} (h:ExLe Q e (E orc)) (v0:Value) (G:GS):Ref (s94 true e v0 G) ((E orc).cl 94 [v0] G) :=
 fun r hr=>cl_sxE_some Q orc (vs:=[v0]) G Tryz.func94 (by kernel_rfl) (by kernel_rfl) (by kernel_rfl) (by kernel_rfl) (by kernel_rfl) (by kernel_rfl) (m94 h v0 G r hr)
noncomputable def s95 (q:Bool) (e:Ex) (v0:Value) (G:GS):Option (Value × GS) :=
 bS (al Q q 92 z92 G) fun x0 G1 =>
 bP (ep Q q false 83 (.tmp 4) (.const (.pointer none)) v0 (.pointer none)) fun x2 =>
 ifV x2 (
 bP (bd Q q 92 z92 [] []) fun x3 =>
 bP (st Q q 92 2 x0 x3 G1) fun G4 =>
 bP (lda Q q 92 2 x0 G4) fun x5 =>
 some (.tuple #[x5,(.int .i64 1)],G4)) (
 bP (pNil v0) fun x6 =>
 bP (fa Q q 165 0 0 x6) fun x7 =>
 bS (e.ev.cl 163 [x7] G1) fun x8 G9 =>
 bP (pExtract x8 0) fun x10 =>
 bP (pExtract x8 1) fun x11 =>
 bP (st Q q 92 2 x0 x10 G9) fun G12 =>
 bP (lda Q q 92 2 x0 G12) fun x13 =>
 some (.tuple #[x13,x11],G12))
theorem m95 {e:Ex} {E:Ev} (h:ExLe Q e E) (v0:Value) (G:GS):Ref (s95 true e v0 G) (s95 false (Ex.of E) v0 G):=by
 unfold s95
 exact Ref.gq
theorem f95 {orc:FuncId → Bool} {e:Ex} (h:ExLe Q e (E orc)) (v0:Value) (G:GS):Ref (s95 true e v0 G) ((E orc).cl 95 [v0] G) :=
 fun r hr=>cl_sxE_some Q orc (vs:=[v0]) G Tryz.func95 (by kernel_rfl) (by kernel_rfl) (by kernel_rfl) (by kernel_rfl) (by kernel_rfl) (by kernel_rfl) (m95 h v0 G r hr)
noncomputable def s96 (q:Bool) (e:Ex) (v0:Value) (G:GS):Option (Value × GS) :=
 bP (ep Q q false 83 (.tmp 3) (.const (.pointer none)) v0 (.pointer none)) fun x0 =>
 ifV x0 (
 some ((.int .u64 0),G)) (
 bP (pNil v0) fun x1 =>
 bP (fa Q q 165 0 0 x1) fun x2 =>
 bP (fa Q q 162 7 23 x2) fun x3 =>
 bP (ld Q q 39 x3 G) fun x4 =>
 some (x4,G))
theorem m96 {e:Ex} {E:Ev} (h:ExLe Q e E) (v0:Value) (G:GS):Ref (s96 true e v0 G) (s96 false (Ex.of E) v0 G):=by
 unfold s96
 exact Ref.gq
theorem f96 {orc:FuncId → Bool} {e:Ex} (h:ExLe Q e (E orc)) (v0:Value) (G:GS):Ref (s96 true e v0 G) ((E orc).cl 96 [v0] G) :=
 fun r hr=>cl_sxE_some Q orc (vs:=[v0]) G Tryz.func96 (by kernel_rfl) (by kernel_rfl) (by kernel_rfl) (by kernel_rfl) (by kernel_rfl) (by kernel_rfl) (m96 h v0 G r hr)
noncomputable def s97 (q:Bool) (e:Ex) (v0:Value) (G:GS):Option (Value × GS) :=
 bP (ep Q q true 83 (.tmp 3) (.const (.pointer none)) v0 (.pointer none)) fun x0 =>
 bS (gd x0 true (some (v0,G)) G) fun x1 G2 =>
 bS (gd x0 true (bP (pNil x1) fun y=>some (y,G2)) G2) fun x3 G4 =>
 bS (gd x0 true (bP (fa Q q 165 0 0 x3) fun y=>some (y,G4)) G4) fun x5 G6 =>
 bS (gd x0 true (bP (fa Q q 162 1 13 x5) fun y=>some (y,G6)) G6) fun x7 G8 =>
 bS (gd x0 true (bP (fa Q q 159 1 1 x7) fun y=>some (y,G8)) G8) fun x9 G10 =>
 bS (gd x0 true (bP (ld Q q 4 x9 G10) fun y=>some (y,G10)) G10) fun x11 G12 =>
 bP (pickV x0 x11 (.bool false)) fun x13 =>
 some (x13,G12)
theorem m97 {e:Ex} {E:Ev} (h:ExLe Q e E) (v0:Value) (G:GS):Ref (s97 true e v0 G) (s97 false (Ex.of E) v0 G):=by
 unfold s97
 exact Ref.gq
theorem f97 {orc:FuncId → Bool} {e:Ex} (h:ExLe Q e (E orc)) (v0:Value) (G:GS):Ref (s97 true e v0 G) ((E orc).cl 97 [v0] G) :=
 fun r hr=>cl_sxE_some Q orc (vs:=[v0]) G Tryz.func97 (by kernel_rfl) (by kernel_rfl) (by kernel_rfl) (by kernel_rfl) (by kernel_rfl) (by kernel_rfl) (m97 h v0 G r hr)
noncomputable def s98 (q:Bool) (e:Ex) (v0:Value) (G:GS):Option (Value × GS) :=
 bP (pNil v0) fun x0 =>
 bP (fa Q q 96 10 23 x0) fun x1 =>
 bP (ld Q q 4 x1 G) fun x2 =>
 some (x2,G)
theorem m98 {e:Ex} {E:Ev} (h:ExLe Q e E) (v0:Value) (G:GS):Ref (s98 true e v0 G) (s98 false (Ex.of E) v0 G):=by
 unfold s98
 exact Ref.gq
theorem f98 {orc:FuncId → Bool} {e:Ex} (h:ExLe Q e (E orc)) (v0:Value) (G:GS):Ref (s98 true e v0 G) ((E orc).cl 98 [v0] G) :=
 fun r hr=>cl_sxE_some Q orc (vs:=[v0]) G Tryz.func98 (by kernel_rfl) (by kernel_rfl) (by kernel_rfl) (by kernel_rfl) (by kernel_rfl) (by kernel_rfl) (m98 h v0 G r hr)
noncomputable def s104 (q:Bool) (e:Ex) (v0:Value) (G:GS):Option (Value × GS) :=
 bP (ep Q q true 123 (.tmp 3) (.const (.pointer none)) v0 (.pointer none)) fun x0 =>
 some (x0,G)
theorem m104 {e:Ex} {E:Ev} (h:ExLe Q e E) (v0:Value) (G:GS):Ref (s104 true e v0 G) (s104 false (Ex.of E) v0 G):=by
 unfold s104
 exact Ref.gq
theorem f104 {orc:FuncId → Bool} {e:Ex} (h:ExLe Q e (E orc)) (v0:Value) (G:GS):Ref (s104 true e v0 G) ((E orc).cl 104 [v0] G) :=
 fun r hr=>cl_sxE_some Q orc (vs:=[v0]) G Tryz.func104 (by kernel_rfl) (by kernel_rfl) (by kernel_rfl) (by kernel_rfl) (by kernel_rfl) (by kernel_rfl) (m104 h v0 G r hr)
noncomputable def s129 (q:Bool) (e:Ex) (v0 v1:Value) (G:GS):Option (Value × GS) :=
 bP (bn Q q .lss 3 (.tmp 5) (.const (.int .i64 0)) v1 (.int .i64 0)) fun x0 =>
 bS (gd x0 false (some (v1,G)) G) fun x1 G2 =>
 bS (gd x0 false (some (v0,G2)) G2) fun x3 G4 =>
 bS (gd x0 false (bP (pNil x3) fun y=>some (y,G4)) G4) fun x5 G6 =>
 bS (gd x0 false (bP (fa Q q 114 0 0 x5) fun y=>some (y,G6)) G6) fun x7 G8 =>
 bS (gd x0 false (bP (ld Q q 24 x7 G8) fun y=>some (y,G8)) G8) fun x9 G10 =>
 bS (gd x0 false (bP (ln Q q 24 x9) fun y=>some (y,G10)) G10) fun x11 G12 =>
 bS (gd x0 false (bP (bn Q q .geq 3 (.tmp 8) (.tmp 13) x1 x11) fun y=>some (y,G12)) G12) fun x13 G14 =>
 bP (pickV x0 (.bool true) x13) fun x15 =>
 ifV x15 (
 some ((.int .u64 0),G14)) (
 bP (pNil v0) fun x16 =>
 bP (fa Q q 114 0 0 x16) fun x17 =>
 bP (ld Q q 24 x17 G14) fun x18 =>
 bP (ias Q q 24 1 x18 v1) fun x19 =>
 bP (ld Q q 39 x19 G14) fun x20 =>
 some (x20,G14))
theorem m129 {e:Ex} {E:Ev} (h:ExLe Q e E) (v0 v1:Value) (G:GS):Ref (s129 true e v0 v1 G) (s129 false (Ex.of E) v0 v1 G):=by
 unfold s129
 exact Ref.gq
theorem f129 {orc:FuncId → Bool} {e:Ex} (h:ExLe Q e (E orc)) (v0 v1:Value) (G:GS):Ref (s129 true e v0 v1 G) ((E orc).cl 129 [v0,v1] G) :=
 fun r hr=>cl_sxE_some Q orc (vs:=[v0,v1]) G Tryz.func129 (by kernel_rfl) (by kernel_rfl) (by kernel_rfl) (by kernel_rfl) (by kernel_rfl) (by kernel_rfl) (m129 h v0 v1 G r hr)
noncomputable def s133 (q:Bool) (e:Ex) (v0 v1:Value) (G:GS):Option (Value × GS) :=
 bS (bx q v0 G) fun x0 G1 =>
 bP (bn Q q .lss 3 (.tmp 6) (.const (.int .i64 1)) v1 (.int .i64 1)) fun x2 =>
 bS (gd x2 false (some (v1,G1)) G1) fun x3 G4 =>
 bS (gd x2 false (bP (bn Q q .gtr 3 (.tmp 9) (.const (.int .i64 4096)) x3 (.int .i64 4096)) fun y=>some (y,G4)) G4) fun x5 G6 =>
 bP (pickV x2 (.bool true) x5) fun x7 =>
 ifV x7 (
 some ((.int .i64 3),G6)) (
 bP (fa Q q 69 0 0 x0) fun x8 =>
 bP (lda Q q 67 3 x8 G6) fun x9 =>
 bS (e.ev.cl 178 [x9,v1] G6) fun x10 G11 =>
 bP (bn Q q .neq 26 (.tmp 16) (.const (.int .i64 0)) x10 (.int .i64 0)) fun x12 =>
 bS (gd x12 false (bP (fa Q q 69 3 5 x0) fun y=>some (y,G11)) G11) fun x13 G14 =>
 bS (gd x12 false (bP (ld Q q 3 x13 G14) fun y=>some (y,G14)) G14) fun x15 G16 =>
 bS (gd x12 false (bP (bn Q q .lss 3 (.tmp 20) (.const (.int .i64 1)) x15 (.int .i64 1)) fun y=>some (y,G16)) G16) fun x17 G18 =>
 bP (pickV x12 (.bool true) x17) fun x19 =>
 bS (gd x19 false (bP (fa Q q 69 3 5 x0) fun y=>some (y,G18)) G18) fun x20 G21 =>
 bS (gd x19 false (bP (ld Q q 3 x20 G21) fun y=>some (y,G21)) G21) fun x22 G23 =>
 bS (gd x19 false (bP (bn Q q .gtr 3 (.tmp 25) (.const (.int .i64 4294967295)) x22 (.int .i64 4294967295)) fun y=>some (y,G23)) G23) fun x24 G25 =>
 bP (pickV x19 (.bool true) x24) fun x26 =>
 bS (gd x26 false (bP (lda Q q 69 6 x0 G25) fun y=>some (y,G25)) G25) fun x27 G28 =>
 bS (gd x26 false (bS (e.ev.cl 136 [x27] G28) fun y G=>some (y,G)) G28) fun x29 G30 =>
 bS (gd x26 false (some (v1,G30)) G30) fun x31 G32 =>
 bS (gd x26 false (bS (e.ev.cl 75 [x29,x31] G32) fun y G=>some (y,G)) G32) fun x33 G34 =>
 bS (gd x26 false (bP (un Q q .not x33) fun y=>some (y,G34)) G34) fun x35 G36 =>
 bP (pickV x26 (.bool true) x35) fun x37 =>
 ifV x37 (
 some ((.int .i64 2),G36)) (
 some ((.int .i64 0),G36)))
theorem m133 {e:Ex} {E:Ev} (h:ExLe Q e E) (v0 v1:Value) (G:GS):Ref (s133 true e v0 v1 G) (s133 false (Ex.of E) v0 v1 G):=by
 unfold s133
 exact Ref.gq
theorem f133 {orc:FuncId → Bool} {e:Ex} (h:ExLe Q e (E orc)) (v0 v1:Value) (G:GS):Ref (s133 true e v0 v1 G) ((E orc).cl 133 [v0,v1] G) :=
 fun r hr=>cl_sxE_some Q orc (vs:=[v0,v1]) G Tryz.func133 (by kernel_rfl) (by kernel_rfl) (by kernel_rfl) (by kernel_rfl) (by kernel_rfl) (by kernel_rfl) (m133 h v0 v1 G r hr)
noncomputable def s134 (q:Bool) (e:Ex) (v0 v1:Value) (G:GS):Option (Value × GS) :=
 bS (bx q v0 G) fun x0 G1 =>
 bP (bn Q q .lss 3 (.tmp 5) (.const (.int .i64 1)) v1 (.int .i64 1)) fun x2 =>
 bS (gd x2 false (some (v1,G1)) G1) fun x3 G4 =>
 bS (gd x2 false (bP (bn Q q .gtr 3 (.tmp 8) (.const (.int .i64 4096)) x3 (.int .i64 4096)) fun y=>some (y,G4)) G4) fun x5 G6 =>
 bP (pickV x2 (.bool true) x5) fun x7 =>
 ifV x7 (
 some ((.int .i64 3),G6)) (
 bP (fa Q q 71 2 2 x0) fun x8 =>
 bP (ld Q q 3 x8 G6) fun x9 =>
 bS (e.ev.cl 179 [x9] G6) fun x10 G11 =>
 bP (un Q q .not x10) fun x12 =>
 bS (gd x12 false (bP (fa Q q 71 0 0 x0) fun y=>some (y,G11)) G11) fun x13 G14 =>
 bS (gd x12 false (bP (ld Q q 3 x13 G14) fun y=>some (y,G14)) G14) fun x15 G16 =>
 bS (gd x12 false (bP (bn Q q .lss 3 (.tmp 17) (.const (.int .i64 0)) x15 (.int .i64 0)) fun y=>some (y,G16)) G16) fun x17 G18 =>
 bP (pickV x12 (.bool true) x17) fun x19 =>
 bS (gd x19 false (bP (fa Q q 71 0 0 x0) fun y=>some (y,G18)) G18) fun x20 G21 =>
 bS (gd x19 false (bP (ld Q q 3 x20 G21) fun y=>some (y,G21)) G21) fun x22 G23 =>
 bS (gd x19 false (some (v1,G23)) G23) fun x24 G25 =>
 bS (gd x19 false (bP (bn Q q .geq 3 (.tmp 22) (.tmp 23) x22 x24) fun y=>some (y,G25)) G25) fun x26 G27 =>
 bP (pickV x19 (.bool true) x26) fun x28 =>
 bS (gd x28 false (bP (fa Q q 71 1 1 x0) fun y=>some (y,G27)) G27) fun x29 G30 =>
 bS (gd x28 false (bP (ld Q q 3 x29 G30) fun y=>some (y,G30)) G30) fun x31 G32 =>
 bS (gd x28 false (bP (bn Q q .lss 3 (.tmp 28) (.const (.int .i64 0)) x31 (.int .i64 0)) fun y=>some (y,G32)) G32) fun x33 G34 =>
 bP (pickV x28 (.bool true) x33) fun x35 =>
 bS (gd x35 false (bP (fa Q q 71 1 1 x0) fun y=>some (y,G34)) G34) fun x36 G37 =>
 bS (gd x35 false (bP (ld Q q 3 x36 G37) fun y=>some (y,G37)) G37) fun x38 G39 =>
 bS (gd x35 false (some (v1,G39)) G39) fun x40 G41 =>
 bS (gd x35 false (bP (fa Q q 71 2 2 x0) fun y=>some (y,G41)) G41) fun x42 G43 =>
 bS (gd x35 false (bP (ld Q q 3 x42 G43) fun y=>some (y,G43)) G43) fun x44 G45 =>
 bS (gd x35 false (bP (bn Q q .sub 3 (.tmp 34) (.tmp 36) x40 x44) fun y=>some (y,G45)) G45) fun x46 G47 =>
 bS (gd x35 false (bP (bn Q q .gtr 3 (.tmp 33) (.tmp 37) x38 x46) fun y=>some (y,G47)) G47) fun x48 G49 =>
 bP (pickV x35 (.bool true) x48) fun x50 =>
 bS (gd x50 false (bP (fa Q q 71 0 0 x0) fun y=>some (y,G49)) G49) fun x51 G52 =>
 bS (gd x50 false (bP (ld Q q 3 x51 G52) fun y=>some (y,G52)) G52) fun x53 G54 =>
 bS (gd x50 false (bP (fa Q q 71 1 1 x0) fun y=>some (y,G54)) G54) fun x55 G56 =>
 bS (gd x50 false (bP (ld Q q 3 x55 G56) fun y=>some (y,G56)) G56) fun x57 G58 =>
 bS (gd x50 false (bP (bn Q q .geq 3 (.tmp 42) (.tmp 44) x53 x57) fun y=>some (y,G58)) G58) fun x59 G60 =>
 bS (gd x50 false (some (x59,G60)) G60) fun x61 G62 =>
 bS (gd x61 true (bP (fa Q q 71 0 0 x0) fun y=>some (y,G62)) G62) fun x63 G64 =>
 bS (gd x61 true (bP (ld Q q 3 x63 G64) fun y=>some (y,G64)) G64) fun x65 G66 =>
 bS (gd x61 true (bP (fa Q q 71 1 1 x0) fun y=>some (y,G66)) G66) fun x67 G68 =>
 bS (gd x61 true (bP (ld Q q 3 x67 G68) fun y=>some (y,G68)) G68) fun x69 G70 =>
 bS (gd x61 true (bP (fa Q q 71 2 2 x0) fun y=>some (y,G70)) G70) fun x71 G72 =>
 bS (gd x61 true (bP (ld Q q 3 x71 G72) fun y=>some (y,G72)) G72) fun x73 G74 =>
 bS (gd x61 true (bP (bn Q q .add 3 (.tmp 50) (.tmp 52) x69 x73) fun y=>some (y,G74)) G74) fun x75 G76 =>
 bS (gd x61 true (bP (bn Q q .lss 3 (.tmp 48) (.tmp 53) x65 x75) fun y=>some (y,G76)) G76) fun x77 G78 =>
 bS (gd x50 false (bP (pickV x61 x77 (.bool false)) fun y=>some (y,G78)) G78) fun x79 G80 =>
 bP (pickV x50 (.bool true) x79) fun x81 =>
 ifV x81 (
 some ((.int .i64 2),G80)) (
 some ((.int .i64 0),G80)))
theorem m134 {e:Ex} {E:Ev} (h:ExLe Q e E) (v0 v1:Value) (G:GS):Ref (s134 true e v0 v1 G) (s134 false (Ex.of E) v0 v1 G):=by
 unfold s134
 exact Ref.gq
theorem f134 {orc:FuncId → Bool} {e:Ex} (h:ExLe Q e (E orc)) (v0 v1:Value) (G:GS):Ref (s134 true e v0 v1 G) ((E orc).cl 134 [v0,v1] G) :=
 fun r hr=>cl_sxE_some Q orc (vs:=[v0,v1]) G Tryz.func134 (by kernel_rfl) (by kernel_rfl) (by kernel_rfl) (by kernel_rfl) (by kernel_rfl) (by kernel_rfl) (m134 h v0 v1 G r hr)
noncomputable def b135_0 (q:Bool) (e:Ex) (lp:Env → GS → Option (Exit × Env × GS)) (τ:Env) (G:GS):Option (Exit × Env × GS) :=
 bV q (τ 0) fun a0_ =>
 bV q (τ 1) fun a1_ =>
 bV q (τ 5) fun a5_ =>
 bP (ln Q q 52 a0_) fun x0 =>
 bP (bn Q q .lss 3 (.tmp 6) (.tmp 8) a5_ x0) fun x1 =>
 ifV x1 (
 bP (ias Q q 52 1 a0_ a5_) fun x2 =>
 bP (ld Q q 3 x2 G) fun x3 =>
 bP (bn Q q .eql 3 (.tmp 15) (.tmp 16) x3 a1_) fun x4 =>
 ifV x4 (
 some (.ret,xq q 18 τ [(4,(.bool true)),(17,x4),(16,a1_),(15,x3),(14,x2),(13,a5_),(12,a0_),(9,x1),(8,x0),(7,a0_),(6,a5_)] [(0,a0_),(1,a1_),(5,a5_)],G)) (
 bP (bn Q q .add 3 (.tmp 10) (.const (.int .i64 1)) a5_ (.int .i64 1)) fun x5 =>
 lp (xq q 18 τ [(5,x5),(11,x5),(10,a5_),(17,x4),(16,a1_),(15,x3),(14,x2),(13,a5_),(12,a0_),(9,x1),(8,x0),(7,a0_),(6,a5_)] [(0,a0_),(1,a1_)]) G)) (
 some ((.exit 0),xq q 18 τ [(9,x1),(8,x0),(7,a0_),(6,a5_)] [(0,a0_),(1,a1_),(5,a5_)],G))
theorem mb135_0 {e:Ex} {E:Ev} (h:ExLe Q e E) {lp lp':Env → GS → Option (Exit × Env × GS)} (hlp:LpLe lp lp') (τ:Env) (G:GS):Ref (b135_0 true e lp τ G) (b135_0 false (Ex.of E) lp' τ G):=by
 unfold b135_0
 exact Ref.gq
theorem l135_0 {orc:FuncId → Bool} {e:Ex} (h:ExLe Q e (E orc)) (lp:Env → GS → Option (Exit × Env × GS)) (hlp:∀ τ G,Ref (lp τ G) (mapE ((E orc).lp (subAt [1,0,1,0,0] (bodyOf Tryz.f135)) (lst 18 τ) G))) (T:List Value) (G:GS) (hT:T.length = 18):Ref (b135_0 true e lp (nth undef T) G) (mapE ((E orc).lp (subAt [1,0,1,0,0] (bodyOf Tryz.f135)) T G)) :=
 fun r hr=>lp_sxN Q orc G hT (by kernel_rfl) (mb135_0 h ⟨hlp⟩ _ _ r hr)
noncomputable def s135 (q:Bool) (e:Ex) (v0 v1:Value) (G:GS):Option (Value × GS) :=
 bLq q e 135 0 (subAt [1,0,1,0,0] (bodyOf Tryz.f135)) 18 (nth undef [v0,v1]) [(5,(.int .i64 0)),(4,(.bool false))] [] G fun e0 t1 G2 =>
 bV q (t1 4) fun t1x4_ =>
 ifE e0 (.exit 0) (
 some ((.bool false),G2)) (ifE e0 .ret (
 some (t1x4_,G2)) (none))
theorem m135 {e:Ex} {E:Ev} (h:ExLe Q e E) (v0 v1:Value) (G:GS):Ref (s135 true e v0 v1 G) (s135 false (Ex.of E) v0 v1 G):=by
 unfold s135
 exact Ref.gq
theorem f135 {orc:FuncId → Bool} {e:Ex} (h:ExLe Q e (E orc)) (v0 v1:Value) (G:GS):Ref (s135 true e v0 v1 G) ((E orc).cl 135 [v0,v1] G) :=
 fun r hr=>cl_sxE_some Q orc (vs:=[v0,v1]) G Tryz.func135 (by kernel_rfl) (by kernel_rfl) (by kernel_rfl) (by kernel_rfl) (by kernel_rfl) (by kernel_rfl) (m135 h v0 v1 G r hr)
noncomputable def b136_0 (q:Bool) (e:Ex) (lp:Env → GS → Option (Exit × Env × GS)) (τ:Env) (G:GS):Option (Exit × Env × GS) :=
 bV q (τ 1) fun a1_ =>
 bV q (τ 3) fun a3_ =>
 bV q (τ 4) fun a4_ =>
 bP (fa Q q 69 0 0 a1_) fun x0 =>
 bP (fa Q q 67 2 2 x0) fun x1 =>
 bP (ld Q q 3 x1 G) fun x2 =>
 bP (bn Q q .lss 3 (.tmp 11) (.tmp 14) a4_ x2) fun x3 =>
 ifV x3 (
 bP (fa Q q 69 0 0 a1_) fun x4 =>
 bP (fa Q q 67 1 1 x4) fun x5 =>
 bP (ld Q q 3 x5 G) fun x6 =>
 bP (bn Q q .add 3 (.tmp 21) (.tmp 22) x6 a4_) fun x7 =>
 bP (fa Q q 69 1 3 a1_) fun x8 =>
 bP (ld Q q 3 x8 G) fun x9 =>
 bP (bn Q q .add 3 (.tmp 25) (.tmp 26) x9 a4_) fun x10 =>
 bS (bs Q q 52 2 (rep z3 2) 1 [(0,0,1),(1,1,1)] [x7,x10] G) fun x11 G12 =>
 bS (ap Q q 52 52 1 8 a3_ x11 G12) fun x13 G14 =>
 bP (bn Q q .add 3 (.tmp 16) (.const (.int .i64 1)) a4_ (.int .i64 1)) fun x15 =>
 lp (xq q 31 τ [(4,x15),(17,x15),(16,a4_),(3,x13),(29,x13),(28,x11),(27,x10),(26,a4_),(25,x9),(24,x8),(23,x7),(22,a4_),(21,x6),(20,x5),(19,x4),(18,a3_),(15,x3),(14,x2),(13,x1),(12,x0),(11,a4_)] [(1,a1_)]) G14) (
 some ((.exit 0),xq q 31 τ [(15,x3),(14,x2),(13,x1),(12,x0),(11,a4_)] [(1,a1_),(3,a3_),(4,a4_)],G))
theorem mb136_0 {e:Ex} {E:Ev} (h:ExLe Q e E) {lp lp':Env → GS → Option (Exit × Env × GS)} (hlp:LpLe lp lp') (τ:Env) (G:GS):Ref (b136_0 true e lp τ G) (b136_0 false (Ex.of E) lp' τ G):=by
 unfold b136_0
 exact Ref.gq
theorem l136_0 {orc:FuncId → Bool} {e:Ex} (h:ExLe Q e (E orc)) (lp:Env → GS → Option (Exit × Env × GS)) (hlp:∀ τ G,Ref (lp τ G) (mapE ((E orc).lp (subAt [1,1,0,1,0,0] (bodyOf Tryz.f136)) (lst 31 τ) G))) (T:List Value) (G:GS) (hT:T.length = 31):Ref (b136_0 true e lp (nth undef T) G) (mapE ((E orc).lp (subAt [1,1,0,1,0,0] (bodyOf Tryz.f136)) T G)) :=
 fun r hr=>lp_sxN Q orc G hT (by kernel_rfl) (mb136_0 h ⟨hlp⟩ _ _ r hr)
noncomputable def s136 (q:Bool) (e:Ex) (v0:Value) (G:GS):Option (Value × GS) :=
 bS (bx q v0 G) fun x0 G1 =>
 bP (fa Q q 69 0 0 x0) fun x2 =>
 bP (fa Q q 67 0 0 x2) fun x3 =>
 bP (ld Q q 3 x3 G1) fun x4 =>
 bP (fa Q q 69 2 4 x0) fun x5 =>
 bP (ld Q q 3 x5 G1) fun x6 =>
 bS (bs Q q 52 2 (rep z3 2) 1 [(0,0,1),(1,1,1)] [x4,x6] G1) fun x7 G8 =>
 bLq q e 136 0 (subAt [1,1,0,1,0,0] (bodyOf Tryz.f136)) 31 (nth undef [v0]) [(4,(.int .i64 0)),(3,x7),(10,x7),(9,x6),(8,x5),(7,x4),(6,x3),(5,x2),(2,(.slice none 0 0)),(1,x0)] [] G8 fun e9 t10 G11 =>
 bV q (t10 3) fun t10x3_ =>
 ifE e9 (.exit 0) (
 some (t10x3_,G11)) (none)
theorem m136 {e:Ex} {E:Ev} (h:ExLe Q e E) (v0:Value) (G:GS):Ref (s136 true e v0 G) (s136 false (Ex.of E) v0 G):=by
 unfold s136
 exact Ref.gq
theorem f136 {orc:FuncId → Bool} {e:Ex} (h:ExLe Q e (E orc)) (v0:Value) (G:GS):Ref (s136 true e v0 G) ((E orc).cl 136 [v0] G) :=
 fun r hr=>cl_sxE_some Q orc (vs:=[v0]) G Tryz.func136 (by kernel_rfl) (by kernel_rfl) (by kernel_rfl) (by kernel_rfl) (by kernel_rfl) (by kernel_rfl) (m136 h v0 G r hr)
noncomputable def s139 (q:Bool) (e:Ex) (v0:Value) (G:GS):Option (Value × GS) :=
 bS (bx q v0 G) fun x0 G1 =>
 bP (fa Q q 75 3 3 x0) fun x2 =>
 bP (fa Q q 73 0 0 x2) fun x3 =>
 bP (fa Q q 69 0 0 x3) fun x4 =>
 bP (fa Q q 67 2 2 x4) fun x5 =>
 bP (ld Q q 3 x5 G1) fun x6 =>
 bP (fa Q q 75 2 2 x0) fun x7 =>
 bP (ld Q q 3 x7 G1) fun x8 =>
 bP (bn Q q .geq 3 (.tmp 10) (.const (.int .i64 1)) x8 (.int .i64 1)) fun x9 =>
 bS (gd x9 true (bP (fa Q q 75 2 2 x0) fun y=>some (y,G1)) G1) fun x10 G11 =>
 bS (gd x9 true (bP (ld Q q 3 x10 G11) fun y=>some (y,G11)) G11) fun x12 G13 =>
 bS (gd x9 true (bP (bn Q q .leq 3 (.tmp 14) (.const (.int .i64 4)) x12 (.int .i64 4)) fun y=>some (y,G13)) G13) fun x14 G15 =>
 bP (pickV x9 x14 (.bool false)) fun x16 =>
 bS (gd x16 true (some (x6,G15)) G15) fun x17 G18 =>
 bS (gd x16 true (bP (bn Q q .geq 3 (.tmp 18) (.const (.int .i64 1)) x17 (.int .i64 1)) fun y=>some (y,G18)) G18) fun x19 G20 =>
 bP (pickV x16 x19 (.bool false)) fun x21 =>
 bS (gd x21 true (some (x6,G20)) G20) fun x22 G23 =>
 bS (gd x21 true (bP (bn Q q .leq 3 (.tmp 22) (.const (.int .i64 128)) x22 (.int .i64 128)) fun y=>some (y,G23)) G23) fun x24 G25 =>
 bP (pickV x21 x24 (.bool false)) fun x26 =>
 bS (gd x26 true (bP (fa Q q 75 0 0 x0) fun y=>some (y,G25)) G25) fun x27 G28 =>
 bS (gd x26 true (bP (ld Q q 3 x27 G28) fun y=>some (y,G28)) G28) fun x29 G30 =>
 bS (gd x26 true (bP (bn Q q .geq 3 (.tmp 27) (.const (.int .i64 0)) x29 (.int .i64 0)) fun y=>some (y,G30)) G30) fun x31 G32 =>
 bP (pickV x26 x31 (.bool false)) fun x33 =>
 bS (gd x33 true (bP (fa Q q 75 0 0 x0) fun y=>some (y,G32)) G32) fun x34 G35 =>
 bS (gd x33 true (bP (ld Q q 3 x34 G35) fun y=>some (y,G35)) G35) fun x36 G37 =>
 bS (gd x33 true (bP (bn Q q .lss 3 (.tmp 32) (.const (.int .i64 4096)) x36 (.int .i64 4096)) fun y=>some (y,G37)) G37) fun x38 G39 =>
 bP (pickV x33 x38 (.bool false)) fun x40 =>
 bS (gd x40 true (bP (fa Q q 75 1 1 x0) fun y=>some (y,G39)) G39) fun x41 G42 =>
 bS (gd x40 true (bP (ld Q q 3 x41 G42) fun y=>some (y,G42)) G42) fun x43 G44 =>
 bS (gd x40 true (bP (bn Q q .geq 3 (.tmp 37) (.const (.int .i64 0)) x43 (.int .i64 0)) fun y=>some (y,G44)) G44) fun x45 G46 =>
 bP (pickV x40 x45 (.bool false)) fun x47 =>
 bS (gd x47 true (bP (fa Q q 75 1 1 x0) fun y=>some (y,G46)) G46) fun x48 G49 =>
 bS (gd x47 true (bP (ld Q q 3 x48 G49) fun y=>some (y,G49)) G49) fun x50 G51 =>
 bS (gd x47 true (bP (bn Q q .lss 3 (.tmp 42) (.const (.int .i64 4096)) x50 (.int .i64 4096)) fun y=>some (y,G51)) G51) fun x52 G53 =>
 bP (pickV x47 x52 (.bool false)) fun x54 =>
 some (x54,G53)
theorem m139 {e:Ex} {E:Ev} (h:ExLe Q e E) (v0:Value) (G:GS):Ref (s139 true e v0 G) (s139 false (Ex.of E) v0 G):=by
 unfold s139
 exact Ref.gq
theorem f139 {orc:FuncId → Bool} {e:Ex} (h:ExLe Q e (E orc)) (v0:Value) (G:GS):Ref (s139 true e v0 G) ((E orc).cl 139 [v0] G) :=
 fun r hr=>cl_sxE_some Q orc (vs:=[v0]) G Tryz.func139 (by kernel_rfl) (by kernel_rfl) (by kernel_rfl) (by kernel_rfl) (by kernel_rfl) (by kernel_rfl) (m139 h v0 G r hr)
noncomputable def b140_0 (q:Bool) (e:Ex) (lp:Env → GS → Option (Exit × Env × GS)) (τ:Env) (G:GS):Option (Exit × Env × GS) :=
 bV q (τ 1) fun a1_ =>
 bV q (τ 2) fun a2_ =>
 bV q (τ 13) fun a13_ =>
 bP (bn Q q .lss 3 (.tmp 13) (.const (.int .i64 3)) a13_ (.int .i64 3)) fun x0 =>
 ifV x0 (
 bP (lda Q q 73 10 a2_ G) fun x1 =>
 bS (e.ev.cl 184 [a13_,x1] G) fun x2 G3 =>
 bP (fd Q q 67 0 0 x2) fun x4 =>
 bS (e.ev.cl 14 [a1_,x4,(.int .u64 0)] G3) fun x5 G6 =>
 bP (bn Q q .add 3 (.tmp 13) (.const (.int .i64 1)) a13_ (.int .i64 1)) fun x7 =>
 lp (xq q 23 τ [(13,x7),(22,x7),(21,x5),(20,x4),(19,x2),(18,x1),(17,a13_),(16,a1_),(4,a13_),(15,a13_),(14,x0)] [(1,a1_),(2,a2_)]) G6) (
 some ((.exit 0),xq q 23 τ [(14,x0)] [(1,a1_),(2,a2_),(13,a13_)],G))
theorem mb140_0 {e:Ex} {E:Ev} (h:ExLe Q e E) {lp lp':Env → GS → Option (Exit × Env × GS)} (hlp:LpLe lp lp') (τ:Env) (G:GS):Ref (b140_0 true e lp τ G) (b140_0 false (Ex.of E) lp' τ G):=by
 unfold b140_0
 exact Ref.gq
theorem l140_0 {orc:FuncId → Bool} {e:Ex} (h:ExLe Q e (E orc)) (lp:Env → GS → Option (Exit × Env × GS)) (hlp:∀ τ G,Ref (lp τ G) (mapE ((E orc).lp (subAt [1,1,1,1,0,0] (bodyOf Tryz.f140)) (lst 23 τ) G))) (T:List Value) (G:GS) (hT:T.length = 23):Ref (b140_0 true e lp (nth undef T) G) (mapE ((E orc).lp (subAt [1,1,1,1,0,0] (bodyOf Tryz.f140)) T G)) :=
 fun r hr=>lp_sxN Q orc G hT (by kernel_rfl) (mb140_0 h ⟨hlp⟩ _ _ r hr)
noncomputable def s140 (q:Bool) (e:Ex) (v0 v1:Value) (G:GS):Option (Value × GS) :=
 bS (bx q v0 G) fun x0 G1 =>
 bP (fa Q q 73 0 0 x0) fun x2 =>
 bP (lda Q q 69 6 x2 G1) fun x3 =>
 bS (e.ev.cl 182 [x3,v1] G1) fun x4 G5 =>
 bP (fa Q q 73 1 6 x0) fun x6 =>
 bP (lda Q q 71 3 x6 G5) fun x7 =>
 bS (e.ev.cl 183 [x7,v1] G5) fun x8 G9 =>
 bLq q e 140 0 (subAt [1,1,1,1,0,0] (bodyOf Tryz.f140)) 23 (nth undef [v0,v1]) [(13,(.int .i64 0)),(12,x8),(11,v1),(10,x7),(9,x6),(8,x4),(7,v1),(6,x3),(5,x2),(2,x0)] [] G9 fun e10 t11 G12 =>
 ifE e10 (.exit 0) (
 some (.tuple #[],G12)) (none)
theorem m140 {e:Ex} {E:Ev} (h:ExLe Q e E) (v0 v1:Value) (G:GS):Ref (s140 true e v0 v1 G) (s140 false (Ex.of E) v0 v1 G):=by
 unfold s140
 exact Ref.gq
theorem f140 {orc:FuncId → Bool} {e:Ex} (h:ExLe Q e (E orc)) (v0 v1:Value) (G:GS):Ref (s140 true e v0 v1 G) ((E orc).cl 140 [v0,v1] G) :=
 fun r hr=>cl_sxE_some Q orc (vs:=[v0,v1]) G Tryz.func140 (by kernel_rfl) (by kernel_rfl) (by kernel_rfl) (by kernel_rfl) (by kernel_rfl) (by kernel_rfl) (m140 h v0 v1 G r hr)
noncomputable def b141_0 (q:Bool) (e:Ex) (lp:Env → GS → Option (Exit × Env × GS)) (τ:Env) (G:GS):Option (Exit × Env × GS) :=
 bV q (τ 1) fun a1_ =>
 bV q (τ 2) fun a2_ =>
 bV q (τ 4) fun a4_ =>
 bP (bn Q q .lss 3 (.tmp 13) (.const (.int .i64 3)) a4_ (.int .i64 3)) fun x0 =>
 ifV x0 (
 bP (fa Q q 73 2 9 a2_) fun x1 =>
 bP (ld Q q 3 x1 G) fun x2 =>
 bP (bn Q q .add 3 (.tmp 19) (.tmp 20) x2 a4_) fun x3 =>
 bS (e.ev.cl 15 [a1_,x3,(.int .u64 0)] G) fun x4 G5 =>
 bP (bn Q q .add 3 (.tmp 15) (.const (.int .i64 1)) a4_ (.int .i64 1)) fun x6 =>
 lp (xq q 23 τ [(4,x6),(16,x6),(15,a4_),(22,x4),(21,x3),(20,a4_),(19,x2),(18,x1),(17,a1_),(14,x0),(13,a4_)] [(1,a1_),(2,a2_)]) G5) (
 some ((.exit 0),xq q 23 τ [(14,x0),(13,a4_)] [(1,a1_),(2,a2_),(4,a4_)],G))
theorem mb141_0 {e:Ex} {E:Ev} (h:ExLe Q e E) {lp lp':Env → GS → Option (Exit × Env × GS)} (hlp:LpLe lp lp') (τ:Env) (G:GS):Ref (b141_0 true e lp τ G) (b141_0 false (Ex.of E) lp' τ G):=by
 unfold b141_0
 exact Ref.gq
theorem l141_0 {orc:FuncId → Bool} {e:Ex} (h:ExLe Q e (E orc)) (lp:Env → GS → Option (Exit × Env × GS)) (hlp:∀ τ G,Ref (lp τ G) (mapE ((E orc).lp (subAt [1,1,1,1,0,0] (bodyOf Tryz.f141)) (lst 23 τ) G))) (T:List Value) (G:GS) (hT:T.length = 23):Ref (b141_0 true e lp (nth undef T) G) (mapE ((E orc).lp (subAt [1,1,1,1,0,0] (bodyOf Tryz.f141)) T G)) :=
 fun r hr=>lp_sxN Q orc G hT (by kernel_rfl) (mb141_0 h ⟨hlp⟩ _ _ r hr)
noncomputable def s141 (q:Bool) (e:Ex) (v0 v1:Value) (G:GS):Option (Value × GS) :=
 bS (bx q v0 G) fun x0 G1 =>
 bP (fa Q q 73 0 0 x0) fun x2 =>
 bP (lda Q q 69 6 x2 G1) fun x3 =>
 bS (e.ev.cl 185 [x3,v1] G1) fun x4 G5 =>
 bP (fa Q q 73 1 6 x0) fun x6 =>
 bP (lda Q q 71 3 x6 G5) fun x7 =>
 bS (e.ev.cl 186 [x7,v1] G5) fun x8 G9 =>
 bLq q e 141 0 (subAt [1,1,1,1,0,0] (bodyOf Tryz.f141)) 23 (nth undef [v0,v1]) [(4,(.int .i64 0)),(12,x8),(11,v1),(10,x7),(9,x6),(8,x4),(7,v1),(6,x3),(5,x2),(2,x0)] [] G9 fun e10 t11 G12 =>
 ifE e10 (.exit 0) (
 some (.tuple #[],G12)) (none)
theorem m141 {e:Ex} {E:Ev} (h:ExLe Q e E) (v0 v1:Value) (G:GS):Ref (s141 true e v0 v1 G) (s141 false (Ex.of E) v0 v1 G):=by
 unfold s141
 exact Ref.gq
theorem f141 {orc:FuncId → Bool} {e:Ex} (h:ExLe Q e (E orc)) (v0 v1:Value) (G:GS):Ref (s141 true e v0 v1 G) ((E orc).cl 141 [v0,v1] G) :=
 fun r hr=>cl_sxE_some Q orc (vs:=[v0,v1]) G Tryz.func141 (by kernel_rfl) (by kernel_rfl) (by kernel_rfl) (by kernel_rfl) (by kernel_rfl) (by kernel_rfl) (m141 h v0 v1 G r hr)
noncomputable def s142 (q:Bool) (e:Ex) (v0 v1 v2:Value) (G:GS):Option (Value × GS) :=
 bS (bx q v0 G) fun x0 G1 =>
 bP (bn Q q .lss 3 (.tmp 7) (.const (.int .i64 0)) v2 (.int .i64 0)) fun x2 =>
 bS (gd x2 false (some (v2,G1)) G1) fun x3 G4 =>
 bS (gd x2 false (bP (bn Q q .geq 3 (.tmp 10) (.const (.int .i64 4)) x3 (.int .i64 4)) fun y=>some (y,G4)) G4) fun x5 G6 =>
 bP (pickV x2 (.bool true) x5) fun x7 =>
 ifV x7 (
 some ((.int .i64 (-1)),G6)) (
 bP (lda Q q 75 13 x0 G6) fun x8 =>
 bP (bn Q q .add 3 (.const (.int .i64 4)) (.tmp 15) (.int .i64 4) v2) fun x9 =>
 bS (e.ev.cl 187 [x8,v1,x9] G6) fun x10 G11 =>
 some (x10,G11))
theorem m142 {e:Ex} {E:Ev} (h:ExLe Q e E) (v0 v1 v2:Value) (G:GS):Ref (s142 true e v0 v1 v2 G) (s142 false (Ex.of E) v0 v1 v2 G):=by
 unfold s142
 exact Ref.gq
theorem f142 {orc:FuncId → Bool} {e:Ex} (h:ExLe Q e (E orc)) (v0 v1 v2:Value) (G:GS):Ref (s142 true e v0 v1 v2 G) ((E orc).cl 142 [v0,v1,v2] G) :=
 fun r hr=>cl_sxE_some Q orc (vs:=[v0,v1,v2]) G Tryz.func142 (by kernel_rfl) (by kernel_rfl) (by kernel_rfl) (by kernel_rfl) (by kernel_rfl) (by kernel_rfl) (m142 h v0 v1 v2 G r hr)
noncomputable def s143 (q:Bool) (e:Ex) (v0 v1:Value) (G:GS):Option (Value × GS) :=
 bP (pNil v0) fun x0 =>
 bP (fa Q q 96 2 14 x0) fun x1 =>
 bP (ld Q q 3 x1 G) fun x2 =>
 bP (bn Q q .eql 3 (.tmp 7) (.const (.int .i64 1)) x2 (.int .i64 1)) fun x3 =>
 ifV x3 (
 bP (pNil v0) fun x4 =>
 bP (fa Q q 96 11 24 x4) fun x5 =>
 bP (st Q q 39 1 x5 (.int .u64 0) G) fun G6 =>
 bS (e.ev.cl 188 [v0,(.int .i64 (-1)),(.int .i64 0)] G6) fun x7 G8 =>
 bS (e.ev.cl 166 [v1,x7] G8) fun x9 G10 =>
 bP (pNil v0) fun x11 =>
 bP (fa Q q 96 3 15 x11) fun x12 =>
 bP (st Q q 39 1 x12 x9 G10) fun G13 =>
 bP (pNil v0) fun x14 =>
 bP (fa Q q 96 0 0 x14) fun x15 =>
 bP (lda Q q 75 13 x15 (G13.room 13)) fun x16 =>
 bP (pNil v0) fun x17 =>
 bP (fa Q q 96 3 15 x17) fun x18 =>
 bP (ld Q q 39 x18 (G13.room 13)) fun x19 =>
 bS (e.ev.cl 189 [x16,x19] (G13.room 13)) fun x21 G20 =>
 bP (pNil v0) fun x22 =>
 bP (fa Q q 96 5 17 x22) fun x23 =>
 bP (st Q q 3 1 x23 x21 G20) fun G24 =>
 bP (pNil v0) fun x25 =>
 bP (fa Q q 96 2 14 x25) fun x26 =>
 bP (st Q q 3 1 x26 (.int .i64 2) G24) fun G27 =>
 bP (pNil v0) fun x28 =>
 bP (fa Q q 96 5 17 x28) fun x29 =>
 bP (ld Q q 3 x29 G27) fun x30 =>
 bP (bn Q q .lss 3 (.tmp 38) (.const (.int .i64 0)) x30 (.int .i64 0)) fun x31 =>
 ifV x31 (
 bP (pNil v0) fun x32 =>
 bP (fa Q q 96 2 14 x32) fun x33 =>
 bP (st Q q 3 1 x33 (.int .i64 99) G27) fun G34 =>
 bP (pNil v0) fun x35 =>
 bP (fa Q q 96 12 25 x35) fun x36 =>
 bP (st Q q 26 1 x36 (.int .i64 15) G34) fun G37 =>
 some (.tuple #[],G37)) (
 some (.tuple #[],G27))) (
 bP (bn Q q .eql 3 (.tmp 7) (.const (.int .i64 2)) x2 (.int .i64 2)) fun x38 =>
 ifV x38 (
 bS (e.ev.cl 190 [v0,v1,(.int .i64 4)] G) fun x39 G40 =>
 bP (pNil v0) fun x41 =>
 bP (fa Q q 96 4 16 x41) fun x42 =>
 bP (st Q q 39 1 x42 x39 G40) fun G43 =>
 bP (pNil v0) fun x44 =>
 bP (fa Q q 96 4 16 x44) fun x45 =>
 bP (ld Q q 39 x45 G43) fun x46 =>
 bP (bn Q q .geq 39 (.tmp 61) (.const (.int .u64 9223372036854775808)) x46 (.int .u64 9223372036854775808)) fun x47 =>
 ifV x47 (
 bP (pNil v0) fun x48 =>
 bP (fa Q q 96 2 14 x48) fun x49 =>
 bP (st Q q 3 1 x49 (.int .i64 3) G43) fun G50 =>
 some (.tuple #[],G50)) (
 bP (pNil v0) fun x51 =>
 bP (fa Q q 96 1 13 x51) fun x52 =>
 bP (ld Q q 4 x52 G43) fun x53 =>
 ifV x53 (
 bP (pNil v0) fun x54 =>
 bP (fa Q q 96 2 14 x54) fun x55 =>
 bP (st Q q 3 1 x55 (.int .i64 9) G43) fun G56 =>
 some (.tuple #[],G56)) (
 bP (pNil v0) fun x57 =>
 bP (fa Q q 96 2 14 x57) fun x58 =>
 bP (st Q q 3 1 x58 (.int .i64 4) G43) fun G59 =>
 some (.tuple #[],G59)))) (
 bP (bn Q q .eql 3 (.tmp 7) (.const (.int .i64 3)) x2 (.int .i64 3)) fun x60 =>
 ifV x60 (
 bP (pNil v0) fun x61 =>
 bP (fa Q q 96 11 24 x61) fun x62 =>
 bP (st Q q 39 1 x62 (.int .u64 0) G) fun G63 =>
 bS (e.ev.cl 188 [v0,(.int .i64 (-1)),(.int .i64 0)] (G63.room 13)) fun x65 G64 =>
 bP (pNil v0) fun x66 =>
 bP (fa Q q 96 3 15 x66) fun x67 =>
 bP (ld Q q 39 x67 G64) fun x68 =>
 chk ((sameO (ld Q q 39 x67 (G63.room 13)) x68 && true)) <|
 bP (pNil v0) fun x69 =>
 bP (fa Q q 96 4 16 x69) fun x70 =>
 bP (ld Q q 39 x70 G64) fun x71 =>
 chk ((sameO (ld Q q 39 x70 (G63.room 13)) x71 && true)) <|
 bP (bn Q q .sub 39 (.tmp 89) (.const (.int .u64 9223372036854775808)) x71 (.int .u64 9223372036854775808)) fun x72 =>
 bS (e.ev.cl 168 [v1,x65,x68,x72] G64) fun x74 G73 =>
 bP (pNil v0) fun x75 =>
 bP (fa Q q 96 2 14 x75) fun x76 =>
 bP (st Q q 3 1 x76 (.int .i64 1) G73) fun G77 =>
 some (.tuple #[],G77)) (
 some (.tuple #[],G))))
theorem m143 {e:Ex} {E:Ev} (h:ExLe Q e E) (v0 v1:Value) (G:GS):Ref (s143 true e v0 v1 G) (s143 false (Ex.of E) v0 v1 G):=by
 unfold s143
 exact Ref.gq
set_option maxHeartbeats 8000000 in
theorem f143 {orc:FuncId → Bool} {e:Ex} (h:ExLe Q e (E orc)) (v0 v1:Value) (G:GS):Ref (s143 true e v0 v1 G) ((E orc).cl 143 [v0,v1] G) :=
 fun r hr=>cl_sxE_some Q orc (vs:=[v0,v1]) G Tryz.func143 (by kernel_rfl) (by kernel_rfl) (by kernel_rfl) (by kernel_rfl) (by kernel_rfl) (by kernel_rfl) (m143 h v0 v1 G r hr)
noncomputable def s144 (q:Bool) (e:Ex) (v0 v1:Value) (G:GS):Option (Value × GS) :=
 bP (pNil v0) fun x0 =>
 bP (fa Q q 96 2 14 x0) fun x1 =>
 bP (ld Q q 3 x1 G) fun x2 =>
 bP (bn Q q .eql 3 (.tmp 8) (.const (.int .i64 4)) x2 (.int .i64 4)) fun x3 =>
 ifV x3 (
 bS (e.ev.cl 190 [v0,v1,(.int .i64 2)] G) fun x4 G5 =>
 bP (pNil v0) fun x6 =>
 bP (fa Q q 96 0 0 x6) fun x7 =>
 bP (fa Q q 75 2 2 x7) fun x8 =>
 bP (ld Q q 3 x8 G5) fun x9 =>
 bP (pNil v0) fun x10 =>
 bP (fa Q q 96 6 18 x10) fun x11 =>
 bP (st Q q 3 1 x11 x9 G5) fun G12 =>
 bP (pNil v0) fun x13 =>
 bP (fa Q q 96 0 0 x13) fun x14 =>
 bP (fa Q q 75 2 2 x14) fun x15 =>
 bP (ld Q q 3 x15 G12) fun x16 =>
 bP (cv Q q 3 39 .i64 .u64 x16) fun x17 =>
 bP (bn Q q .lss 39 (.tmp 22) (.tmp 28) x4 x17) fun x18 =>
 ifV x18 (
 bP (cv Q q 39 3 .u64 .i64 x4) fun x19 =>
 bP (pNil v0) fun x20 =>
 bP (fa Q q 96 6 18 x20) fun x21 =>
 bP (st Q q 3 1 x21 x19 G12) fun G22 =>
 bS (e.ev.cl 191 [v0] G22) fun x23 G24 =>
 some (.tuple #[],G24)) (
 bS (e.ev.cl 191 [v0] G12) fun x25 G26 =>
 some (.tuple #[],G26))) (
 bP (bn Q q .eql 3 (.tmp 8) (.const (.int .i64 5)) x2 (.int .i64 5)) fun x27 =>
 ifV x27 (
 bP (pNil v0) fun x28 =>
 bP (fa Q q 96 6 18 x28) fun x29 =>
 bP (ld Q q 3 x29 G) fun x30 =>
 bP (bn Q q .add 3 (.const (.int .i64 4)) (.tmp 45) (.int .i64 4) x30) fun x31 =>
 bS (e.ev.cl 190 [v0,v1,x31] G) fun x32 G33 =>
 bP (pNil v0) fun x34 =>
 bP (fa Q q 96 4 16 x34) fun x35 =>
 bP (st Q q 39 1 x35 x32 G33) fun G36 =>
 bP (pNil v0) fun x37 =>
 bP (fa Q q 96 2 14 x37) fun x38 =>
 bP (st Q q 3 1 x38 (.int .i64 6) G36) fun G39 =>
 bP (pNil v0) fun x40 =>
 bP (fa Q q 96 4 16 x40) fun x41 =>
 bP (ld Q q 39 x41 G39) fun x42 =>
 bP (bn Q q .geq 39 (.tmp 56) (.const (.int .u64 9223372036854775808)) x42 (.int .u64 9223372036854775808)) fun x43 =>
 ifV x43 (
 bS (e.ev.cl 191 [v0] G39) fun x44 G45 =>
 some (.tuple #[],G45)) (
 some (.tuple #[],G39))) (
 bP (bn Q q .eql 3 (.tmp 8) (.const (.int .i64 6)) x2 (.int .i64 6)) fun x46 =>
 ifV x46 (
 bP (pNil v0) fun x47 =>
 bP (fa Q q 96 3 15 x47) fun x48 =>
 bP (ld Q q 39 x48 G) fun x49 =>
 bP (pNil v0) fun x50 =>
 bP (fa Q q 96 11 24 x50) fun x51 =>
 bP (st Q q 39 1 x51 x49 G) fun G52 =>
 bP (pNil v0) fun x53 =>
 bP (fa Q q 96 5 17 x53) fun x54 =>
 bP (ld Q q 3 x54 (G52.room 21)) fun x55 =>
 bP (pNil v0) fun x56 =>
 bP (fa Q q 96 6 18 x56) fun x57 =>
 bP (ld Q q 3 x57 (G52.room 21)) fun x58 =>
 bS (e.ev.cl 188 [v0,x55,x58] (G52.room 21)) fun x60 G59 =>
 bP (pNil v0) fun x61 =>
 bP (fa Q q 96 4 16 x61) fun x62 =>
 bP (ld Q q 39 x62 G59) fun x63 =>
 chk ((sameO (ld Q q 39 x62 (G52.room 21)) x63 && true)) <|
 bP (pNil v0) fun x64 =>
 bP (fa Q q 96 4 16 x64) fun x65 =>
 bP (ld Q q 39 x65 G59) fun x66 =>
 chk ((sameO (ld Q q 39 x65 (G52.room 21)) x66 && true)) <|
 bP (bn Q q .add 39 (.tmp 87) (.const (.int .u64 9223372036854775808)) x66 (.int .u64 9223372036854775808)) fun x67 =>
 bS (e.ev.cl 168 [v1,x60,x63,x67] G59) fun x69 G68 =>
 ifV x69 (
 bS (e.ev.cl 191 [v0] G68) fun x70 G71 =>
 some (.tuple #[],G71)) (
 bP (pNil v0) fun x72 =>
 bP (fa Q q 96 2 14 x72) fun x73 =>
 bP (st Q q 3 1 x73 (.int .i64 5) G68) fun G74 =>
 some (.tuple #[],G74))) (
 some (.tuple #[],G))))
theorem m144 {e:Ex} {E:Ev} (h:ExLe Q e E) (v0 v1:Value) (G:GS):Ref (s144 true e v0 v1 G) (s144 false (Ex.of E) v0 v1 G):=by
 unfold s144
 exact Ref.gq
set_option maxHeartbeats 8000000 in
theorem f144 {orc:FuncId → Bool} {e:Ex} (h:ExLe Q e (E orc)) (v0 v1:Value) (G:GS):Ref (s144 true e v0 v1 G) ((E orc).cl 144 [v0,v1] G) :=
 fun r hr=>cl_sxE_some Q orc (vs:=[v0,v1]) G Tryz.func144 (by kernel_rfl) (by kernel_rfl) (by kernel_rfl) (by kernel_rfl) (by kernel_rfl) (by kernel_rfl) (m144 h v0 v1 G r hr)
noncomputable def s145 (q:Bool) (e:Ex) (v0 v1:Value) (G:GS):Option (Value × GS) :=
 bP (pNil v0) fun x0 =>
 bP (fa Q q 96 2 14 x0) fun x1 =>
 bP (ld Q q 3 x1 G) fun x2 =>
 bP (bn Q q .eql 3 (.tmp 7) (.const (.int .i64 7)) x2 (.int .i64 7)) fun x3 =>
 ifV x3 (
 bS (e.ev.cl 190 [v0,v1,(.int .i64 4)] G) fun x4 G5 =>
 bP (pNil v0) fun x6 =>
 bP (fa Q q 96 4 16 x6) fun x7 =>
 bP (st Q q 39 1 x7 x4 G5) fun G8 =>
 bP (pNil v0) fun x9 =>
 bP (fa Q q 96 2 14 x9) fun x10 =>
 bP (st Q q 3 1 x10 (.int .i64 8) G8) fun G11 =>
 bP (pNil v0) fun x12 =>
 bP (fa Q q 96 4 16 x12) fun x13 =>
 bP (ld Q q 39 x13 G11) fun x14 =>
 bP (bn Q q .geq 39 (.tmp 21) (.const (.int .u64 9223372036854775808)) x14 (.int .u64 9223372036854775808)) fun x15 =>
 ifV x15 (
 bP (pNil v0) fun x16 =>
 bP (fa Q q 96 2 14 x16) fun x17 =>
 bP (st Q q 3 1 x17 (.int .i64 3) G11) fun G18 =>
 some (.tuple #[],G18)) (
 some (.tuple #[],G11))) (
 bP (pNil v0) fun x19 =>
 bP (fa Q q 96 3 15 x19) fun x20 =>
 bP (ld Q q 39 x20 G) fun x21 =>
 bP (pNil v0) fun x22 =>
 bP (fa Q q 96 11 24 x22) fun x23 =>
 bP (st Q q 39 1 x23 x21 G) fun G24 =>
 bP (pNil v0) fun x25 =>
 bP (fa Q q 96 2 14 x25) fun x26 =>
 bP (st Q q 3 1 x26 (.int .i64 7) G24) fun G27 =>
 bP (pNil v0) fun x28 =>
 bP (fa Q q 96 5 17 x28) fun x29 =>
 bP (ld Q q 3 x29 (G27.room 17)) fun x30 =>
 bS (e.ev.cl 188 [v0,x30,(.int .i64 0)] (G27.room 17)) fun x32 G31 =>
 bP (pNil v0) fun x33 =>
 bP (fa Q q 96 4 16 x33) fun x34 =>
 bP (ld Q q 39 x34 G31) fun x35 =>
 chk ((sameO (ld Q q 39 x34 (G27.room 17)) x35 && true)) <|
 bP (pNil v0) fun x36 =>
 bP (fa Q q 96 4 16 x36) fun x37 =>
 bP (ld Q q 39 x37 G31) fun x38 =>
 chk ((sameO (ld Q q 39 x37 (G27.room 17)) x38 && true)) <|
 bP (bn Q q .add 39 (.tmp 50) (.const (.int .u64 9223372036854775808)) x38 (.int .u64 9223372036854775808)) fun x39 =>
 bS (e.ev.cl 168 [v1,x32,x35,x39] G31) fun x41 G40 =>
 ifV x41 (
 bP (pNil v0) fun x42 =>
 bP (fa Q q 96 10 23 x42) fun x43 =>
 bP (st Q q 4 1 x43 (.bool true) G40) fun G44 =>
 bP (pNil v0) fun x45 =>
 bP (fa Q q 96 2 14 x45) fun x46 =>
 bP (st Q q 3 1 x46 (.int .i64 9) G44) fun G47 =>
 some (.tuple #[],G47)) (
 some (.tuple #[],G40)))
theorem m145 {e:Ex} {E:Ev} (h:ExLe Q e E) (v0 v1:Value) (G:GS):Ref (s145 true e v0 v1 G) (s145 false (Ex.of E) v0 v1 G):=by
 unfold s145
 exact Ref.gq
theorem f145 {orc:FuncId → Bool} {e:Ex} (h:ExLe Q e (E orc)) (v0 v1:Value) (G:GS):Ref (s145 true e v0 v1 G) ((E orc).cl 145 [v0,v1] G) :=
 fun r hr=>cl_sxE_some Q orc (vs:=[v0,v1]) G Tryz.func145 (by kernel_rfl) (by kernel_rfl) (by kernel_rfl) (by kernel_rfl) (by kernel_rfl) (by kernel_rfl) (m145 h v0 v1 G r hr)
noncomputable def s146 (q:Bool) (e:Ex) (v0 v1:Value) (G:GS):Option (Value × GS) :=
 bP (pNil v0) fun x0 =>
 bP (fa Q q 96 2 14 x0) fun x1 =>
 bP (ld Q q 3 x1 G) fun x2 =>
 bP (bn Q q .eql 3 (.tmp 7) (.const (.int .i64 9)) x2 (.int .i64 9)) fun x3 =>
 ifV x3 (
 bS (e.ev.cl 190 [v0,v1,(.int .i64 0)] G) fun x4 G5 =>
 bP (pNil v0) fun x6 =>
 bP (fa Q q 96 7 19 x6) fun x7 =>
 bP (fa Q q 92 0 0 x7) fun x8 =>
 bP (st Q q 39 1 x8 x4 G5) fun G9 =>
 bP (pNil v0) fun x10 =>
 bP (fa Q q 96 2 14 x10) fun x11 =>
 bP (st Q q 3 1 x11 (.int .i64 91) G9) fun G12 =>
 some (.tuple #[],G12)) (
 bS (e.ev.cl 190 [v0,v1,(.int .i64 1)] G) fun x13 G14 =>
 bP (bn Q q .rem 39 (.tmp 22) (.const (.int .u64 65536)) x13 (.int .u64 65536)) fun x15 =>
 bP (cv Q q 39 3 .u64 .i64 x15) fun x16 =>
 bP (pNil v0) fun x17 =>
 bP (fa Q q 96 7 19 x17) fun x18 =>
 bP (fa Q q 92 1 1 x18) fun x19 =>
 bP (st Q q 3 1 x19 x16 G14) fun G20 =>
 bP (pNil v0) fun x21 =>
 bP (fa Q q 96 2 14 x21) fun x22 =>
 bP (st Q q 3 1 x22 (.int .i64 99) G20) fun G23 =>
 bP (pNil v0) fun x24 =>
 bP (fa Q q 96 1 13 x24) fun x25 =>
 bP (ld Q q 4 x25 G23) fun x26 =>
 bP (un Q q .not x26) fun x27 =>
 ifV x27 (
 bP (pNil v0) fun x28 =>
 bP (fa Q q 96 0 0 x28) fun x29 =>
 bP (lda Q q 75 13 x29 (G23.room 14)) fun x30 =>
 bP (pNil v0) fun x31 =>
 bP (fa Q q 96 7 19 x31) fun x32 =>
 bP (fa Q q 92 0 0 x32) fun x33 =>
 bP (ld Q q 39 x33 (G23.room 14)) fun x34 =>
 bS (e.ev.cl 192 [x30,x34] (G23.room 14)) fun x36 G35 =>
 bP (pNil v0) fun x37 =>
 bP (fa Q q 96 8 21 x37) fun x38 =>
 bP (st Q q 93 1 x38 x36 G35) fun G39 =>
 bP (pNil v0) fun x40 =>
 bP (fa Q q 96 2 14 x40) fun x41 =>
 bP (st Q q 3 1 x41 (.int .i64 10) G39) fun G42 =>
 some (.tuple #[],G42)) (
 some (.tuple #[],G23)))
theorem m146 {e:Ex} {E:Ev} (h:ExLe Q e E) (v0 v1:Value) (G:GS):Ref (s146 true e v0 v1 G) (s146 false (Ex.of E) v0 v1 G):=by
 unfold s146
 exact Ref.gq
theorem f146 {orc:FuncId → Bool} {e:Ex} (h:ExLe Q e (E orc)) (v0 v1:Value) (G:GS):Ref (s146 true e v0 v1 G) ((E orc).cl 146 [v0,v1] G) :=
 fun r hr=>cl_sxE_some Q orc (vs:=[v0,v1]) G Tryz.func146 (by kernel_rfl) (by kernel_rfl) (by kernel_rfl) (by kernel_rfl) (by kernel_rfl) (by kernel_rfl) (m146 h v0 v1 G r hr)
noncomputable def jb147_0 (q:Bool) (e:Ex) (τ:Env) (G:GS):Option (Value × GS) :=
 bV q (τ 0) fun a0_ =>
 bP (pNil a0_) fun x4 =>
 bP (fa Q q 96 8 21 x4) fun x5 =>
 bP (ld Q q 93 x5 G) fun x6 =>
 bS (e.ev.cl 194 [x6] G) fun x7 G8 =>
 bP (pNil a0_) fun x9 =>
 bP (fa Q q 96 11 24 x9) fun x10 =>
 bP (st Q q 39 1 x10 x7 G8) fun G11 =>
 some (.tuple #[],G11)
noncomputable def j147_0 (q:Bool) (e:Ex) (τ:Env) (G:GS):Option (Value × GS):=jb147_0 q e τ G
theorem mj147_0 {e:Ex} {E:Ev} (h:ExLe Q e E) (τ:Env) (G:GS):Ref (j147_0 true e τ G) (j147_0 false (Ex.of E) τ G):=by
 unfold j147_0 jb147_0
 exact Ref.gq
theorem mkj147_0 {e:Ex} {E:Ev} (h:ExLe Q e E) {τ:Env} {l U:List (Nat × Value)} {G:GS} (hU:UOk τ U):Ref (j147_0 true e (xq true 81 τ l U) G) (j147_0 false (Ex.of E) (xq false 81 τ l U) G):=by
 rw [xq_eq hU]
 exact mj147_0 h _ _
noncomputable def sb147 (q:Bool) (e:Ex) (J0:Env → GS → Option (Value × GS)) (v0 v1:Value) (G:GS):Option (Value × GS) :=
 bP (pNil v0) fun x0 =>
 bP (fa Q q 96 2 14 x0) fun x1 =>
 bP (ld Q q 3 x1 G) fun x2 =>
 bP (bn Q q .eql 3 (.tmp 7) (.const (.int .i64 10)) x2 (.int .i64 10)) fun x3 =>
 ifV x3 (
 bP (pNil v0) fun x12 =>
 bP (fa Q q 96 8 21 x12) fun x13 =>
 bP (ld Q q 93 x13 G) fun x14 =>
 bS (e.ev.cl 193 [x14,v1] G) fun x15 G16 =>
 ifV x15 (
 bP (pNil v0) fun x17 =>
 bP (fa Q q 96 2 14 x17) fun x18 =>
 bP (st Q q 3 1 x18 (.int .i64 11) G16) fun G19 =>
 J0 (xq q 81 (nth undef [v0,v1]) [(18,x18),(17,x17),(16,v0),(15,x15),(14,v1),(13,x14),(12,x13),(11,x12),(10,v0),(8,x3),(9,x3),(7,x2),(6,x1),(5,x0),(4,v0)] []) G19) (
 J0 (xq q 81 (nth undef [v0,v1]) [(15,x15),(14,v1),(13,x14),(12,x13),(11,x12),(10,v0),(8,x3),(9,x3),(7,x2),(6,x1),(5,x0),(4,v0)] []) G16)) (
 bP (bn Q q .eql 3 (.tmp 7) (.const (.int .i64 11)) x2 (.int .i64 11)) fun x20 =>
 ifV x20 (
 bP (pNil v0) fun x21 =>
 bP (fa Q q 96 3 15 x21) fun x22 =>
 bP (ld Q q 39 x22 G) fun x23 =>
 bP (pNil v0) fun x24 =>
 bP (fa Q q 96 11 24 x24) fun x25 =>
 bP (st Q q 39 1 x25 x23 G) fun G26 =>
 bP (pNil v0) fun x27 =>
 bP (fa Q q 96 2 14 x27) fun x28 =>
 bP (st Q q 3 1 x28 (.int .i64 99) G26) fun G29 =>
 bP (pNil v0) fun x30 =>
 bP (fa Q q 96 0 0 x30) fun x31 =>
 bP (lda Q q 75 13 x31 (G29.room 12)) fun x32 =>
 bP (pNil v0) fun x33 =>
 bP (fa Q q 96 5 17 x33) fun x34 =>
 bP (ld Q q 3 x34 (G29.room 12)) fun x35 =>
 bS (e.ev.cl 196 [x32,x35,(.int .i64 3)] (G29.room 12)) fun x37 G36 =>
 bS (e.ev.cl 195 [v1,x37,(.int .u64 18446744073709551615)] G36) fun x39 G38 =>
 bP (bn Q q .eql 39 (.tmp 49) (.const (.int .u64 0)) x39 (.int .u64 0)) fun x40 =>
 ifV x40 (
 bP (pNil v0) fun x41 =>
 bP (fa Q q 96 0 0 x41) fun x42 =>
 bP (fa Q q 75 3 3 x42) fun x43 =>
 bP (lda Q q 73 10 x43 (G38.room 14)) fun x44 =>
 bP (pNil v0) fun x45 =>
 bP (fa Q q 96 5 17 x45) fun x46 =>
 bP (ld Q q 3 x46 (G38.room 14)) fun x47 =>
 bS (e.ev.cl 197 [x44,x47] (G38.room 14)) fun x49 G48 =>
 bP (pNil v0) fun x50 =>
 bP (fa Q q 96 9 22 x50) fun x51 =>
 bP (st Q q 94 1 x51 x49 G48) fun G52 =>
 bP (pNil v0) fun x53 =>
 bP (fa Q q 96 2 14 x53) fun x54 =>
 bP (st Q q 3 1 x54 (.int .i64 92) G52) fun G55 =>
 some (.tuple #[],G55)) (
 some (.tuple #[],G38))) (
 bP (bn Q q .eql 3 (.tmp 7) (.const (.int .i64 92)) x2 (.int .i64 92)) fun x56 =>
 ifV x56 (
 bP (pNil v0) fun x57 =>
 bP (fa Q q 96 11 24 x57) fun x58 =>
 bP (st Q q 39 1 x58 (.int .u64 0) G) fun G59 =>
 bP (pNil v0) fun x60 =>
 bP (fa Q q 96 9 22 x60) fun x61 =>
 bP (ld Q q 94 x61 G59) fun x62 =>
 bS (e.ev.cl 198 [x62,v1] G59) fun x63 G64 =>
 ifV x63 (
 bP (pNil v0) fun x65 =>
 bP (fa Q q 96 2 14 x65) fun x66 =>
 bP (st Q q 3 1 x66 (.int .i64 99) G64) fun G67 =>
 some (.tuple #[],G67)) (
 some (.tuple #[],G64))) (
 some (.tuple #[],G))))
noncomputable def s147 (q:Bool) (e:Ex) (v0 v1:Value) (G:GS):Option (Value × GS):=sb147 q e (j147_0 q e) v0 v1 G
theorem m147 {e:Ex} {E:Ev} (h:ExLe Q e E) (v0 v1:Value) (G:GS):Ref (s147 true e v0 v1 G) (s147 false (Ex.of E) v0 v1 G):=by
 unfold s147 sb147
 repeat' (with_reducible first | exact Ref.rfl' _ | exact ROp.r | refine Ref.bP ?_ fun _=>?_ | refine Ref.bS ?_ fun _ _=>?_ | exact Ref.cl (by assumption) | refine Ref.ifV ?_ ?_ | refine LpLe.rx (by assumption) ?_ | refine Ref.xitq ?_ | exact UOk.z | refine UOk.c (by assumption) ?_ | exact Ref.nil _ | refine Ref.bVe fun _ _=>?_ | refine Ref.bLq (by assumption) ?_ fun _ _ _=>?_ | refine Ref.ifE ?_ ?_ | refine Ref.chk ?_ ?_ | refine Imp.and ?_ ?_ | refine Imp.or ?_ | exact Imp.rfl' _ | refine Imp.sameO ?_ | refine Ref.gd ?_ | exact Ref.cValue (by assumption) | refine Ref.bX ?_ fun _ _ _=>?_ | exact Ref.scQ (by assumption) | exact Ref.xRangeQ (by assumption) | exact Ref.cInvoke (by assumption) | refine mkj147_0 (by assumption) ?_)
noncomputable def jt147 (J0:Env → GS → Option (Value × GS)):JT (Value × GS) :=
 (.n none .e (.n none (.n none .e (.n none (.n (some (fun T G=>J0 (nth undef T) G)) .e .e) .e)) .e))
theorem jr147_0 (orc:FuncId → Bool) (J0:Env → GS → Option (Value × GS)) (T:List Value) (G:GS):runC Q (evL Q orc) Tryz.f147.ntmps (jt147 J0) (bodyOf Tryz.f147) (retE Q Tryz.f147.results.toList) [true,false,true,false] (nth undef T) G = jb147_0 false (Ex.of (E orc))  (nth undef T) G:=by kernel_rfl
theorem jo147 (orc:FuncId → Bool):JOk Q orc Tryz.f147.ntmps (jt147 (j147_0 false (Ex.of (E orc))) ) (bodyOf Tryz.f147) (retE Q Tryz.f147.results.toList) :=
 jOk Q orc (l:=[([true,false,true,false],(fun T G=>j147_0 false (Ex.of (E orc)) (nth undef T) G))]) (by kernel_rfl) (AllE.c (fun T G=>jr147_0 orc (j147_0 false (Ex.of (E orc))) T G) (AllE.z))
theorem je147 (orc:FuncId → Bool) (J0:Env → GS → Option (Value × GS)) (v0 v1:Value) (G:GS):sxC Q (evL Q orc) Tryz.f147.ntmps (jt147 J0) (bodyOf Tryz.f147) (nth undef [v0,v1]) G (retE Q Tryz.f147.results.toList) = sb147 false (Ex.of (E orc)) J0 v0 v1 G:=by kernel_rfl
theorem f147 {orc:FuncId → Bool} {e:Ex} (h:ExLe Q e (E orc)) (v0 v1:Value) (G:GS):Ref (s147 true e v0 v1 G) ((E orc).cl 147 [v0,v1] G) :=
 fun r hr=>cl_sxC Q orc (vs:=[v0,v1]) G (jt147 (j147_0 false (Ex.of (E orc))) ) Tryz.func147 (by kernel_rfl) (by kernel_rfl) (by kernel_rfl) (by kernel_rfl) (by kernel_rfl) (jo147 orc) (je147 orc (j147_0 false (Ex.of (E orc))) v0 v1 G) (m147 h v0 v1 G r hr)
noncomputable def s148 (q:Bool) (e:Ex) (v0:Value) (G:GS):Option (Value × GS) :=
 bP (pNil v0) fun x0 =>
 bP (fa Q q 168 8 20 x0) fun x1 =>
 bP (ld Q q 4 x1 G) fun x2 =>
 bP (un Q q .not x2) fun x3 =>
 bS (gd x3 false (some (v0,G)) G) fun x4 G5 =>
 bS (gd x3 false (bP (pNil x4) fun y=>some (y,G5)) G5) fun x6 G7 =>
 bS (gd x3 false (bP (fa Q q 168 2 13 x6) fun y=>some (y,G7)) G7) fun x8 G9 =>
 bS (gd x3 false (bP (ld Q q 3 x8 G9) fun y=>some (y,G9)) G9) fun x10 G11 =>
 bS (gd x3 false (bP (bn Q q .eql 3 (.tmp 12) (.const (.int .i64 99)) x10 (.int .i64 99)) fun y=>some (y,G11)) G11) fun x12 G13 =>
 bP (pickV x3 (.bool true) x12) fun x14 =>
 some (x14,G13)
theorem m148 {e:Ex} {E:Ev} (h:ExLe Q e E) (v0:Value) (G:GS):Ref (s148 true e v0 G) (s148 false (Ex.of E) v0 G):=by
 unfold s148
 exact Ref.gq
theorem f148 {orc:FuncId → Bool} {e:Ex} (h:ExLe Q e (E orc)) (v0:Value) (G:GS):Ref (s148 true e v0 G) ((E orc).cl 148 [v0] G) :=
 fun r hr=>cl_sxE_some Q orc (vs:=[v0]) G Tryz.func148 (by kernel_rfl) (by kernel_rfl) (by kernel_rfl) (by kernel_rfl) (by kernel_rfl) (by kernel_rfl) (m148 h v0 G r hr)
noncomputable def s149 (q:Bool) (e:Ex) (v0 v1:Value) (G:GS):Option (Value × GS) :=
 bP (pNil v0) fun x0 =>
 bP (fa Q q 168 2 13 x0) fun x1 =>
 bP (ld Q q 3 x1 G) fun x2 =>
 bP (bn Q q .eql 3 (.tmp 9) (.const (.int .i64 1)) x2 (.int .i64 1)) fun x3 =>
 ifV x3 (
 bP (pNil v0) fun x4 =>
 bP (fa Q q 168 7 19 x4) fun x5 =>
 bP (st Q q 39 1 x5 (.int .u64 0) G) fun G6 =>
 bP (pNil v0) fun x7 =>
 bP (fa Q q 168 0 0 x7) fun x8 =>
 bP (lda Q q 75 13 x8 G6) fun x9 =>
 bS (e.ev.cl 142 [x9,(.int .i64 (-1)),(.int .i64 0)] G6) fun x10 G11 =>
 bS (e.ev.cl 199 [v1,x10] G11) fun x12 G13 =>
 bP (pNil v0) fun x14 =>
 bP (fa Q q 168 3 14 x14) fun x15 =>
 bP (st Q q 39 1 x15 x12 G13) fun G16 =>
 bP (pNil v0) fun x17 =>
 bP (fa Q q 168 3 14 x17) fun x18 =>
 bP (ld Q q 39 x18 G16) fun x19 =>
 bS (e.ev.cl 200 [x19] G16) fun x20 G21 =>
 bP (pExtract x20 0) fun x22 =>
 bP (pExtract x20 1) fun x23 =>
 bS (al Q q 270 z270 G21) fun x24 G25 =>
 bP (st Q q 270 2 x24 x22 G25) fun G26 =>
 bP (fa Q q 270 0 0 x24) fun x27 =>
 bP (ld Q q 3 x27 G26) fun x28 =>
 bP (pNil v0) fun x29 =>
 bP (fa Q q 168 4 15 x29) fun x30 =>
 bP (st Q q 3 1 x30 x28 G26) fun G31 =>
 bP (pNil v0) fun x32 =>
 bP (fa Q q 168 2 13 x32) fun x33 =>
 bP (st Q q 3 1 x33 (.int .i64 2) G31) fun G34 =>
 bP (pNil v0) fun x35 =>
 bP (fa Q q 168 4 15 x35) fun x36 =>
 bP (ld Q q 3 x36 (G34.room 20)) fun x37 =>
 bP (bn Q q .lss 3 (.tmp 44) (.const (.int .i64 0)) x37 (.int .i64 0)) fun x38 =>
 bS (gd x38 false (some (v0,(G34.room 20))) (G34.room 20)) fun x39 _ =>
 bS (gd x38 false (bP (pNil x39) fun y=>some (y,(G34.room 20))) (G34.room 20)) fun x40 _ =>
 bS (gd x38 false (bP (fa Q q 168 4 15 x40) fun y=>some (y,(G34.room 20))) (G34.room 20)) fun x41 _ =>
 bS (gd x38 false (bP (ld Q q 3 x41 (G34.room 20)) fun y=>some (y,(G34.room 20))) (G34.room 20)) fun x42 _ =>
 bS (gd x38 false (some (v0,(G34.room 20))) (G34.room 20)) fun x43 _ =>
 bS (gd x38 false (bP (pNil x43) fun y=>some (y,(G34.room 20))) (G34.room 20)) fun x44 _ =>
 bS (gd x38 false (bP (fa Q q 168 0 0 x44) fun y=>some (y,(G34.room 20))) (G34.room 20)) fun x45 _ =>
 bS (gd x38 false (bP (fa Q q 75 3 3 x45) fun y=>some (y,(G34.room 20))) (G34.room 20)) fun x46 _ =>
 bS (gd x38 false (bP (fa Q q 73 0 0 x46) fun y=>some (y,(G34.room 20))) (G34.room 20)) fun x47 _ =>
 bS (gd x38 false (bP (fa Q q 69 0 0 x47) fun y=>some (y,(G34.room 20))) (G34.room 20)) fun x48 _ =>
 bS (gd x38 false (bP (fa Q q 67 2 2 x48) fun y=>some (y,(G34.room 20))) (G34.room 20)) fun x49 _ =>
 bS (gd x38 false (bP (ld Q q 3 x49 (G34.room 20)) fun y=>some (y,(G34.room 20))) (G34.room 20)) fun x50 _ =>
 bS (gd x38 false (bP (bn Q q .geq 3 (.tmp 50) (.tmp 58) x42 x50) fun y=>some (y,(G34.room 20))) (G34.room 20)) fun x51 _ =>
 bP (pickV x38 (.bool true) x51) fun x52 =>
 ifV x52 (
 bP (pNil v0) fun x53 =>
 bP (fa Q q 168 2 13 x53) fun x54 =>
 bP (st Q q 3 1 x54 (.int .i64 99) (G34.room 20)) fun G55 =>
 bP (pNil v0) fun x56 =>
 bP (fa Q q 168 9 21 x56) fun x57 =>
 bP (st Q q 26 1 x57 (.int .i64 15) G55) fun G58 =>
 some (.tuple #[],G58)) (
 some (.tuple #[],(G34.room 20)))) (
 bP (bn Q q .eql 3 (.tmp 9) (.const (.int .i64 2)) x2 (.int .i64 2)) fun x59 =>
 ifV x59 (
 bS (e.ev.cl 150 [v0,v1,(.int .i64 4)] G) fun x60 G61 =>
 bP (pNil v0) fun x62 =>
 bP (fa Q q 168 5 16 x62) fun x63 =>
 bP (st Q q 160 1 x63 x60 G61) fun G64 =>
 bP (pNil v0) fun x65 =>
 bP (fa Q q 168 2 13 x65) fun x66 =>
 bP (st Q q 3 1 x66 (.int .i64 4) G64) fun G67 =>
 bP (pNil v0) fun x68 =>
 bP (fa Q q 168 5 16 x68) fun x69 =>
 bP (ld Q q 160 x69 G67) fun x70 =>
 bS (e.ev.cl 156 [x70] G67) fun x71 G72 =>
 ifV x71 (
 bP (pNil v0) fun x73 =>
 bP (fa Q q 168 2 13 x73) fun x74 =>
 bP (st Q q 3 1 x74 (.int .i64 3) G72) fun G75 =>
 some (.tuple #[],G75)) (
 some (.tuple #[],G72))) (
 bP (bn Q q .eql 3 (.tmp 9) (.const (.int .i64 3)) x2 (.int .i64 3)) fun x76 =>
 ifV x76 (
 bP (pNil v0) fun x77 =>
 bP (fa Q q 168 7 19 x77) fun x78 =>
 bP (st Q q 39 1 x78 (.int .u64 0) G) fun G79 =>
 bP (pNil v0) fun x80 =>
 bP (fa Q q 168 0 0 x80) fun x81 =>
 bP (lda Q q 75 13 x81 (G79.room 16)) fun x82 =>
 bS (e.ev.cl 142 [x82,(.int .i64 (-1)),(.int .i64 0)] (G79.room 16)) fun x84 G83 =>
 bP (pNil v0) fun x85 =>
 bP (fa Q q 168 3 14 x85) fun x86 =>
 bP (ld Q q 39 x86 G83) fun x87 =>
 chk ((sameO (ld Q q 39 x86 (G79.room 16)) x87 && true)) <|
 bP (pNil v0) fun x88 =>
 bP (fa Q q 168 5 16 x88) fun x89 =>
 bP (ld Q q 160 x89 G83) fun x90 =>
 chk ((sameO (ld Q q 160 x89 (G79.room 16)) x90 && true)) <|
 bS (e.ev.cl 158 [x90,(.bool false)] G83) fun x92 G91 =>
 chk ((sameO (ld Q q 39 x86 G91) x87 && true)) <|
 bS (e.ev.cl 157 [v1,x84,x87,x92] G91) fun x94 G93 =>
 bP (pNil v0) fun x95 =>
 bP (fa Q q 168 2 13 x95) fun x96 =>
 bP (st Q q 3 1 x96 (.int .i64 1) G93) fun G97 =>
 some (.tuple #[],G97)) (
 some (.tuple #[],G))))
theorem m149 {e:Ex} {E:Ev} (h:ExLe Q e E) (v0 v1:Value) (G:GS):Ref (s149 true e v0 v1 G) (s149 false (Ex.of E) v0 v1 G):=by
 unfold s149
 exact Ref.gq
set_option maxHeartbeats 8000000 in
theorem f149 {orc:FuncId → Bool} {e:Ex} (h:ExLe Q e (E orc)) (v0 v1:Value) (G:GS):Ref (s149 true e v0 v1 G) ((E orc).cl 149 [v0,v1] G) :=
 fun r hr=>cl_sxE_some Q orc (vs:=[v0,v1]) G Tryz.func149 (by kernel_rfl) (by kernel_rfl) (by kernel_rfl) (by kernel_rfl) (by kernel_rfl) (by kernel_rfl) (m149 h v0 v1 G r hr)
noncomputable def s150 (q:Bool) (e:Ex) (v0 v1 v2:Value) (G:GS):Option (Value × GS) :=
 bP (pNil v0) fun x0 =>
 bP (fa Q q 168 3 14 x0) fun x1 =>
 bP (ld Q q 39 x1 G) fun x2 =>
 bP (pNil v0) fun x3 =>
 bP (fa Q q 168 7 19 x3) fun x4 =>
 bP (st Q q 39 1 x4 x2 G) fun G5 =>
 bP (pNil v0) fun x6 =>
 bP (fa Q q 168 0 0 x6) fun x7 =>
 bP (lda Q q 75 13 x7 (G5.room 13)) fun x8 =>
 bP (pNil v0) fun x9 =>
 bP (fa Q q 168 4 15 x9) fun x10 =>
 bP (ld Q q 3 x10 (G5.room 13)) fun x11 =>
 bS (e.ev.cl 187 [x8,x11,v2] (G5.room 13)) fun x13 G12 =>
 bS (e.ev.cl 199 [v1,x13] G12) fun x15 G14 =>
 some (x15,G14)
theorem m150 {e:Ex} {E:Ev} (h:ExLe Q e E) (v0 v1 v2:Value) (G:GS):Ref (s150 true e v0 v1 v2 G) (s150 false (Ex.of E) v0 v1 v2 G):=by
 unfold s150
 exact Ref.gq
theorem f150 {orc:FuncId → Bool} {e:Ex} (h:ExLe Q e (E orc)) (v0 v1 v2:Value) (G:GS):Ref (s150 true e v0 v1 v2 G) ((E orc).cl 150 [v0,v1,v2] G) :=
 fun r hr=>cl_sxE_some Q orc (vs:=[v0,v1,v2]) G Tryz.func150 (by kernel_rfl) (by kernel_rfl) (by kernel_rfl) (by kernel_rfl) (by kernel_rfl) (by kernel_rfl) (m150 h v0 v1 v2 G r hr)
noncomputable def s151 (q:Bool) (e:Ex) (v0 v1:Value) (G:GS):Option (Value × GS) :=
 bS (e.ev.cl 150 [v0,v1,(.int .i64 1)] G) fun x0 G1 =>
 bP (bn Q q .and 39 (.tmp 7) (.const (.int .u64 65535)) x0 (.int .u64 65535)) fun x2 =>
 bP (cv Q q 39 3 .u64 .i64 x2) fun x3 =>
 bP (pNil v0) fun x4 =>
 bP (fa Q q 168 6 17 x4) fun x5 =>
 bP (fa Q q 92 1 1 x5) fun x6 =>
 bP (st Q q 3 1 x6 x3 G1) fun G7 =>
 some (.tuple #[],G7)
theorem m151 {e:Ex} {E:Ev} (h:ExLe Q e E) (v0 v1:Value) (G:GS):Ref (s151 true e v0 v1 G) (s151 false (Ex.of E) v0 v1 G):=by
 unfold s151
 exact Ref.gq
theorem f151 {orc:FuncId → Bool} {e:Ex} (h:ExLe Q e (E orc)) (v0 v1:Value) (G:GS):Ref (s151 true e v0 v1 G) ((E orc).cl 151 [v0,v1] G) :=
 fun r hr=>cl_sxE_some Q orc (vs:=[v0,v1]) G Tryz.func151 (by kernel_rfl) (by kernel_rfl) (by kernel_rfl) (by kernel_rfl) (by kernel_rfl) (by kernel_rfl) (m151 h v0 v1 G r hr)
noncomputable def s152 (q:Bool) (e:Ex) (v0:Value) (G:GS):Option (Value × GS) :=
 bP (pNil v0) fun x0 =>
 bP (fa Q q 162 8 24 x0) fun x1 =>
 bP (ld Q q 4 x1 G) fun x2 =>
 bP (un Q q .not x2) fun x3 =>
 bS (gd x3 false (some (v0,G)) G) fun x4 G5 =>
 bS (gd x3 false (bP (pNil x4) fun y=>some (y,G5)) G5) fun x6 G7 =>
 bS (gd x3 false (bP (fa Q q 162 2 17 x6) fun y=>some (y,G7)) G7) fun x8 G9 =>
 bS (gd x3 false (bP (ld Q q 3 x8 G9) fun y=>some (y,G9)) G9) fun x10 G11 =>
 bS (gd x3 false (bP (bn Q q .eql 3 (.tmp 12) (.const (.int .i64 99)) x10 (.int .i64 99)) fun y=>some (y,G11)) G11) fun x12 G13 =>
 bP (pickV x3 (.bool true) x12) fun x14 =>
 some (x14,G13)
theorem m152 {e:Ex} {E:Ev} (h:ExLe Q e E) (v0:Value) (G:GS):Ref (s152 true e v0 G) (s152 false (Ex.of E) v0 G):=by
 unfold s152
 exact Ref.gq
theorem f152 {orc:FuncId → Bool} {e:Ex} (h:ExLe Q e (E orc)) (v0:Value) (G:GS):Ref (s152 true e v0 G) ((E orc).cl 152 [v0] G) :=
 fun r hr=>cl_sxE_some Q orc (vs:=[v0]) G Tryz.func152 (by kernel_rfl) (by kernel_rfl) (by kernel_rfl) (by kernel_rfl) (by kernel_rfl) (by kernel_rfl) (m152 h v0 G r hr)
noncomputable def s153 (q:Bool) (e:Ex) (v0 v1:Value) (G:GS):Option (Value × GS) :=
 bP (pNil v0) fun x0 =>
 bP (fa Q q 162 2 17 x0) fun x1 =>
 bP (ld Q q 3 x1 G) fun x2 =>
 bP (bn Q q .eql 3 (.tmp 9) (.const (.int .i64 1)) x2 (.int .i64 1)) fun x3 =>
 ifV x3 (
 bP (pNil v0) fun x4 =>
 bP (fa Q q 162 7 23 x4) fun x5 =>
 bP (st Q q 39 1 x5 (.int .u64 0) G) fun G6 =>
 bP (pNil v0) fun x7 =>
 bP (fa Q q 162 0 0 x7) fun x8 =>
 bP (lda Q q 75 13 x8 G6) fun x9 =>
 bS (e.ev.cl 142 [x9,(.int .i64 (-1)),(.int .i64 0)] G6) fun x10 G11 =>
 bS (e.ev.cl 199 [v1,x10] G11) fun x12 G13 =>
 bP (pNil v0) fun x14 =>
 bP (fa Q q 162 3 18 x14) fun x15 =>
 bP (st Q q 39 1 x15 x12 G13) fun G16 =>
 bP (pNil v0) fun x17 =>
 bP (fa Q q 162 3 18 x17) fun x18 =>
 bP (ld Q q 39 x18 G16) fun x19 =>
 bS (e.ev.cl 200 [x19] G16) fun x20 G21 =>
 bP (pExtract x20 0) fun x22 =>
 bP (pExtract x20 1) fun x23 =>
 bS (al Q q 270 z270 G21) fun x24 G25 =>
 bP (st Q q 270 2 x24 x22 G25) fun G26 =>
 bP (fa Q q 270 0 0 x24) fun x27 =>
 bP (ld Q q 3 x27 G26) fun x28 =>
 bP (pNil v0) fun x29 =>
 bP (fa Q q 162 4 19 x29) fun x30 =>
 bP (st Q q 3 1 x30 x28 G26) fun G31 =>
 bP (pNil v0) fun x32 =>
 bP (fa Q q 162 2 17 x32) fun x33 =>
 bP (st Q q 3 1 x33 (.int .i64 2) G31) fun G34 =>
 bP (pNil v0) fun x35 =>
 bP (fa Q q 162 4 19 x35) fun x36 =>
 bP (ld Q q 3 x36 (G34.room 20)) fun x37 =>
 bP (bn Q q .lss 3 (.tmp 44) (.const (.int .i64 0)) x37 (.int .i64 0)) fun x38 =>
 bS (gd x38 false (some (v0,(G34.room 20))) (G34.room 20)) fun x39 _ =>
 bS (gd x38 false (bP (pNil x39) fun y=>some (y,(G34.room 20))) (G34.room 20)) fun x40 _ =>
 bS (gd x38 false (bP (fa Q q 162 4 19 x40) fun y=>some (y,(G34.room 20))) (G34.room 20)) fun x41 _ =>
 bS (gd x38 false (bP (ld Q q 3 x41 (G34.room 20)) fun y=>some (y,(G34.room 20))) (G34.room 20)) fun x42 _ =>
 bS (gd x38 false (some (v0,(G34.room 20))) (G34.room 20)) fun x43 _ =>
 bS (gd x38 false (bP (pNil x43) fun y=>some (y,(G34.room 20))) (G34.room 20)) fun x44 _ =>
 bS (gd x38 false (bP (fa Q q 162 0 0 x44) fun y=>some (y,(G34.room 20))) (G34.room 20)) fun x45 _ =>
 bS (gd x38 false (bP (fa Q q 75 3 3 x45) fun y=>some (y,(G34.room 20))) (G34.room 20)) fun x46 _ =>
 bS (gd x38 false (bP (fa Q q 73 0 0 x46) fun y=>some (y,(G34.room 20))) (G34.room 20)) fun x47 _ =>
 bS (gd x38 false (bP (fa Q q 69 0 0 x47) fun y=>some (y,(G34.room 20))) (G34.room 20)) fun x48 _ =>
 bS (gd x38 false (bP (fa Q q 67 2 2 x48) fun y=>some (y,(G34.room 20))) (G34.room 20)) fun x49 _ =>
 bS (gd x38 false (bP (ld Q q 3 x49 (G34.room 20)) fun y=>some (y,(G34.room 20))) (G34.room 20)) fun x50 _ =>
 bS (gd x38 false (bP (bn Q q .geq 3 (.tmp 50) (.tmp 58) x42 x50) fun y=>some (y,(G34.room 20))) (G34.room 20)) fun x51 _ =>
 bP (pickV x38 (.bool true) x51) fun x52 =>
 ifV x52 (
 bP (pNil v0) fun x53 =>
 bP (fa Q q 162 2 17 x53) fun x54 =>
 bP (st Q q 3 1 x54 (.int .i64 99) (G34.room 20)) fun G55 =>
 bP (pNil v0) fun x56 =>
 bP (fa Q q 162 9 25 x56) fun x57 =>
 bP (st Q q 26 1 x57 (.int .i64 15) G55) fun G58 =>
 some (.tuple #[],G58)) (
 some (.tuple #[],(G34.room 20)))) (
 bP (bn Q q .eql 3 (.tmp 9) (.const (.int .i64 2)) x2 (.int .i64 2)) fun x59 =>
 ifV x59 (
 bS (e.ev.cl 155 [v0,v1,(.int .i64 4)] G) fun x60 G61 =>
 bP (pNil v0) fun x62 =>
 bP (fa Q q 162 5 20 x62) fun x63 =>
 bP (st Q q 160 1 x63 x60 G61) fun G64 =>
 bP (pNil v0) fun x65 =>
 bP (fa Q q 162 2 17 x65) fun x66 =>
 bP (st Q q 3 1 x66 (.int .i64 4) G64) fun G67 =>
 bP (pNil v0) fun x68 =>
 bP (fa Q q 162 5 20 x68) fun x69 =>
 bP (ld Q q 160 x69 G67) fun x70 =>
 bS (e.ev.cl 156 [x70] G67) fun x71 G72 =>
 ifV x71 (
 bP (pNil v0) fun x73 =>
 bP (fa Q q 162 2 17 x73) fun x74 =>
 bP (st Q q 3 1 x74 (.int .i64 3) G72) fun G75 =>
 some (.tuple #[],G75)) (
 some (.tuple #[],G72))) (
 bP (bn Q q .eql 3 (.tmp 9) (.const (.int .i64 3)) x2 (.int .i64 3)) fun x76 =>
 ifV x76 (
 bP (pNil v0) fun x77 =>
 bP (fa Q q 162 7 23 x77) fun x78 =>
 bP (st Q q 39 1 x78 (.int .u64 0) G) fun G79 =>
 bP (pNil v0) fun x80 =>
 bP (fa Q q 162 0 0 x80) fun x81 =>
 bP (lda Q q 75 13 x81 (G79.room 16)) fun x82 =>
 bS (e.ev.cl 142 [x82,(.int .i64 (-1)),(.int .i64 0)] (G79.room 16)) fun x84 G83 =>
 bP (pNil v0) fun x85 =>
 bP (fa Q q 162 3 18 x85) fun x86 =>
 bP (ld Q q 39 x86 G83) fun x87 =>
 chk ((sameO (ld Q q 39 x86 (G79.room 16)) x87 && true)) <|
 bP (pNil v0) fun x88 =>
 bP (fa Q q 162 5 20 x88) fun x89 =>
 bP (ld Q q 160 x89 G83) fun x90 =>
 chk ((sameO (ld Q q 160 x89 (G79.room 16)) x90 && true)) <|
 bS (e.ev.cl 158 [x90,(.bool false)] G83) fun x92 G91 =>
 chk ((sameO (ld Q q 39 x86 G91) x87 && true)) <|
 bS (e.ev.cl 157 [v1,x84,x87,x92] G91) fun x94 G93 =>
 bP (pNil v0) fun x95 =>
 bP (fa Q q 162 2 17 x95) fun x96 =>
 bP (st Q q 3 1 x96 (.int .i64 1) G93) fun G97 =>
 some (.tuple #[],G97)) (
 some (.tuple #[],G))))
theorem m153 {e:Ex} {E:Ev} (h:ExLe Q e E) (v0 v1:Value) (G:GS):Ref (s153 true e v0 v1 G) (s153 false (Ex.of E) v0 v1 G):=by
 unfold s153
 exact Ref.gq
set_option maxHeartbeats 8000000 in
theorem f153 {orc:FuncId → Bool} {e:Ex} (h:ExLe Q e (E orc)) (v0 v1:Value) (G:GS):Ref (s153 true e v0 v1 G) ((E orc).cl 153 [v0,v1] G) :=
 fun r hr=>cl_sxE_some Q orc (vs:=[v0,v1]) G Tryz.func153 (by kernel_rfl) (by kernel_rfl) (by kernel_rfl) (by kernel_rfl) (by kernel_rfl) (by kernel_rfl) (m153 h v0 v1 G r hr)
noncomputable def s154 (q:Bool) (e:Ex) (v0 v1:Value) (G:GS):Option (Value × GS) :=
 bP (pNil v0) fun x0 =>
 bP (fa Q q 165 0 0 x0) fun x1 =>
 bP (fa Q q 162 2 17 x1) fun x2 =>
 bP (ld Q q 3 x2 G) fun x3 =>
 bP (bn Q q .eql 3 (.tmp 9) (.const (.int .i64 4)) x3 (.int .i64 4)) fun x4 =>
 ifV x4 (
 bP (pNil v0) fun x5 =>
 bP (fa Q q 165 0 0 x5) fun x6 =>
 bP (fa Q q 162 0 0 x6) fun x7 =>
 bP (fa Q q 75 2 2 x7) fun x8 =>
 bP (ld Q q 3 x8 G) fun x9 =>
 bP (pNil v0) fun x10 =>
 bP (fa Q q 165 0 0 x10) fun x11 =>
 bP (fa Q q 162 1 13 x11) fun x12 =>
 bP (fa Q q 159 0 0 x12) fun x13 =>
 bP (st Q q 3 1 x13 x9 G) fun G14 =>
 bP (pNil v0) fun x15 =>
 bP (fa Q q 165 0 0 x15) fun x16 =>
 bS (e.ev.cl 155 [x16,v1,(.int .i64 2)] G14) fun x17 G18 =>
 bP (pNil v0) fun x19 =>
 bP (fa Q q 165 0 0 x19) fun x20 =>
 bP (fa Q q 162 0 0 x20) fun x21 =>
 bP (fa Q q 75 2 2 x21) fun x22 =>
 bP (ld Q q 3 x22 G18) fun x23 =>
 bP (cv Q q 3 39 .i64 .u64 x23) fun x24 =>
 bP (bn Q q .lss 39 (.tmp 28) (.tmp 35) x17 x24) fun x25 =>
 ifV x25 (
 bP (cv Q q 39 3 .u64 .i64 x17) fun x26 =>
 bP (pNil v0) fun x27 =>
 bP (fa Q q 165 0 0 x27) fun x28 =>
 bP (fa Q q 162 1 13 x28) fun x29 =>
 bP (fa Q q 159 0 0 x29) fun x30 =>
 bP (st Q q 3 1 x30 x26 G18) fun G31 =>
 bS (e.ev.cl 201 [v0] G31) fun x32 G33 =>
 some (.tuple #[],G33)) (
 bS (e.ev.cl 201 [v0] G18) fun x34 G35 =>
 some (.tuple #[],G35))) (
 bP (bn Q q .eql 3 (.tmp 9) (.const (.int .i64 5)) x3 (.int .i64 5)) fun x36 =>
 ifV x36 (
 bP (pNil v0) fun x37 =>
 bP (fa Q q 165 0 0 x37) fun x38 =>
 bP (pNil v0) fun x39 =>
 bP (fa Q q 165 0 0 x39) fun x40 =>
 bP (fa Q q 162 1 13 x40) fun x41 =>
 bP (fa Q q 159 0 0 x41) fun x42 =>
 bP (ld Q q 3 x42 (G.room 17)) fun x43 =>
 bP (bn Q q .add 3 (.const (.int .i64 4)) (.tmp 58) (.int .i64 4) x43) fun x44 =>
 bS (e.ev.cl 155 [x38,v1,x44] (G.room 17)) fun x46 G45 =>
 bP (pNil v0) fun x47 =>
 bP (fa Q q 165 0 0 x47) fun x48 =>
 bP (fa Q q 162 5 20 x48) fun x49 =>
 bP (st Q q 160 1 x49 x46 G45) fun G50 =>
 bP (pNil v0) fun x51 =>
 bP (fa Q q 165 0 0 x51) fun x52 =>
 bP (fa Q q 162 2 17 x52) fun x53 =>
 bP (st Q q 3 1 x53 (.int .i64 6) G50) fun G54 =>
 bP (pNil v0) fun x55 =>
 bP (fa Q q 165 0 0 x55) fun x56 =>
 bP (fa Q q 162 5 20 x56) fun x57 =>
 bP (ld Q q 160 x57 G54) fun x58 =>
 bS (e.ev.cl 156 [x58] G54) fun x59 G60 =>
 ifV x59 (
 bS (e.ev.cl 201 [v0] G60) fun x61 G62 =>
 some (.tuple #[],G62)) (
 some (.tuple #[],G60))) (
 bP (bn Q q .eql 3 (.tmp 9) (.const (.int .i64 6)) x3 (.int .i64 6)) fun x63 =>
 ifV x63 (
 bP (pNil v0) fun x64 =>
 bP (fa Q q 165 0 0 x64) fun x65 =>
 bP (fa Q q 162 3 18 x65) fun x66 =>
 bP (ld Q q 39 x66 G) fun x67 =>
 bP (pNil v0) fun x68 =>
 bP (fa Q q 165 0 0 x68) fun x69 =>
 bP (fa Q q 162 7 23 x69) fun x70 =>
 bP (st Q q 39 1 x70 x67 G) fun G71 =>
 bP (pNil v0) fun x72 =>
 bP (fa Q q 165 0 0 x72) fun x73 =>
 bP (fa Q q 162 2 17 x73) fun x74 =>
 bP (st Q q 3 1 x74 (.int .i64 5) G71) fun G75 =>
 bP (pNil v0) fun x76 =>
 bP (fa Q q 165 0 0 x76) fun x77 =>
 bP (fa Q q 162 0 0 x77) fun x78 =>
 bP (lda Q q 75 13 x78 (G75.room 30)) fun x79 =>
 bP (pNil v0) fun x80 =>
 bP (fa Q q 165 0 0 x80) fun x81 =>
 bP (fa Q q 162 4 19 x81) fun x82 =>
 bP (ld Q q 3 x82 (G75.room 30)) fun x83 =>
 bP (pNil v0) fun x84 =>
 bP (fa Q q 165 0 0 x84) fun x85 =>
 bP (fa Q q 162 1 13 x85) fun x86 =>
 bP (fa Q q 159 0 0 x86) fun x87 =>
 bP (ld Q q 3 x87 (G75.room 30)) fun x88 =>
 bS (e.ev.cl 142 [x79,x83,x88] (G75.room 30)) fun x90 G89 =>
 bP (pNil v0) fun x91 =>
 bP (fa Q q 165 0 0 x91) fun x92 =>
 bP (fa Q q 162 5 20 x92) fun x93 =>
 bP (ld Q q 160 x93 G89) fun x94 =>
 chk ((sameO (ld Q q 160 x93 (G75.room 30)) x94 && true)) <|
 bP (pNil v0) fun x95 =>
 bP (fa Q q 165 0 0 x95) fun x96 =>
 bP (fa Q q 162 5 20 x96) fun x97 =>
 bP (ld Q q 160 x97 G89) fun x98 =>
 chk ((sameO (ld Q q 160 x97 (G75.room 30)) x98 && true)) <|
 bS (e.ev.cl 158 [x98,(.bool true)] G89) fun x100 G99 =>
 chk ((sameO (ld Q q 160 x93 G99) x94 && true)) <|
 bS (e.ev.cl 157 [v1,x90,x94,x100] G99) fun x102 G101 =>
 ifV x102 (
 bS (e.ev.cl 201 [v0] G101) fun x103 G104 =>
 some (.tuple #[],G104)) (
 some (.tuple #[],G101))) (
 some (.tuple #[],G))))
theorem m154 {e:Ex} {E:Ev} (h:ExLe Q e E) (v0 v1:Value) (G:GS):Ref (s154 true e v0 v1 G) (s154 false (Ex.of E) v0 v1 G):=by
 unfold s154
 exact Ref.gq
set_option maxHeartbeats 8000000 in
theorem f154 {orc:FuncId → Bool} {e:Ex} (h:ExLe Q e (E orc)) (v0 v1:Value) (G:GS):Ref (s154 true e v0 v1 G) ((E orc).cl 154 [v0,v1] G) :=
 fun r hr=>cl_sxE_some Q orc (vs:=[v0,v1]) G Tryz.func154 (by kernel_rfl) (by kernel_rfl) (by kernel_rfl) (by kernel_rfl) (by kernel_rfl) (by kernel_rfl) (m154 h v0 v1 G r hr)
noncomputable def s155 (q:Bool) (e:Ex) (v0 v1 v2:Value) (G:GS):Option (Value × GS) :=
 bP (pNil v0) fun x0 =>
 bP (fa Q q 162 3 18 x0) fun x1 =>
 bP (ld Q q 39 x1 G) fun x2 =>
 bP (pNil v0) fun x3 =>
 bP (fa Q q 162 7 23 x3) fun x4 =>
 bP (st Q q 39 1 x4 x2 G) fun G5 =>
 bP (pNil v0) fun x6 =>
 bP (fa Q q 162 0 0 x6) fun x7 =>
 bP (lda Q q 75 13 x7 (G5.room 13)) fun x8 =>
 bP (pNil v0) fun x9 =>
 bP (fa Q q 162 4 19 x9) fun x10 =>
 bP (ld Q q 3 x10 (G5.room 13)) fun x11 =>
 bS (e.ev.cl 187 [x8,x11,v2] (G5.room 13)) fun x13 G12 =>
 bS (e.ev.cl 199 [v1,x13] G12) fun x15 G14 =>
 some (x15,G14)
theorem m155 {e:Ex} {E:Ev} (h:ExLe Q e E) (v0 v1 v2:Value) (G:GS):Ref (s155 true e v0 v1 v2 G) (s155 false (Ex.of E) v0 v1 v2 G):=by
 unfold s155
 exact Ref.gq
theorem f155 {orc:FuncId → Bool} {e:Ex} (h:ExLe Q e (E orc)) (v0 v1 v2:Value) (G:GS):Ref (s155 true e v0 v1 v2 G) ((E orc).cl 155 [v0,v1,v2] G) :=
 fun r hr=>cl_sxE_some Q orc (vs:=[v0,v1,v2]) G Tryz.func155 (by kernel_rfl) (by kernel_rfl) (by kernel_rfl) (by kernel_rfl) (by kernel_rfl) (by kernel_rfl) (m155 h v0 v1 v2 G r hr)
noncomputable def s156 (q:Bool) (e:Ex) (v0:Value) (G:GS):Option (Value × GS) :=
 bS (e.ev.cl 202 [v0] G) fun x0 G1 =>
 some (x0,G1)
theorem m156 {e:Ex} {E:Ev} (h:ExLe Q e E) (v0:Value) (G:GS):Ref (s156 true e v0 G) (s156 false (Ex.of E) v0 G):=by
 unfold s156
 exact Ref.gq
theorem f156 {orc:FuncId → Bool} {e:Ex} (h:ExLe Q e (E orc)) (v0:Value) (G:GS):Ref (s156 true e v0 G) ((E orc).cl 156 [v0] G) :=
 fun r hr=>cl_sxE_some Q orc (vs:=[v0]) G Tryz.func156 (by kernel_rfl) (by kernel_rfl) (by kernel_rfl) (by kernel_rfl) (by kernel_rfl) (by kernel_rfl) (m156 h v0 G r hr)
noncomputable def s157 (q:Bool) (e:Ex) (v0 v1 v2 v3:Value) (G:GS):Option (Value × GS) :=
 bS (e.ev.cl 52 [v0,v1] G) fun x0 G1 =>
 bP (bd Q q 126 z126 [(0,0,1),(1,1,1),(2,2,1)] [x0,v2,v3]) fun x2 =>
 bS (al Q q 126 z126 G1) fun x3 G4 =>
 bP (st Q q 126 3 x3 x2 G4) fun G5 =>
 bP (fa Q q 126 0 0 x3) fun x6 =>
 bP (ld Q q 123 x6 G5) fun x7 =>
 bP (lda Q q 126 3 x3 G5) fun x8 =>
 bS (e.ev.cl 53 [v0,(.int .i64 3),v1,x7,(.func (.func 203) #[x8] #[])] G5) fun x9 G10 =>
 bP (fd Q q 59 4 4 x9) fun x11 =>
 some (x11,G10)
theorem m157 {e:Ex} {E:Ev} (h:ExLe Q e E) (v0 v1 v2 v3:Value) (G:GS):Ref (s157 true e v0 v1 v2 v3 G) (s157 false (Ex.of E) v0 v1 v2 v3 G):=by
 unfold s157
 exact Ref.gq
theorem f157 {orc:FuncId → Bool} {e:Ex} (h:ExLe Q e (E orc)) (v0 v1 v2 v3:Value) (G:GS):Ref (s157 true e v0 v1 v2 v3 G) ((E orc).cl 157 [v0,v1,v2,v3] G) :=
 fun r hr=>cl_sxE_some Q orc (vs:=[v0,v1,v2,v3]) G Tryz.func157 (by kernel_rfl) (by kernel_rfl) (by kernel_rfl) (by kernel_rfl) (by kernel_rfl) (by kernel_rfl) (m157 h v0 v1 v2 v3 G r hr)
noncomputable def s158 (q:Bool) (e:Ex) (v0 v1:Value) (G:GS):Option (Value × GS) :=
 bS (e.ev.cl 204 [v0,v1] G) fun x0 G1 =>
 some (x0,G1)
theorem m158 {e:Ex} {E:Ev} (h:ExLe Q e E) (v0 v1:Value) (G:GS):Ref (s158 true e v0 v1 G) (s158 false (Ex.of E) v0 v1 G):=by
 unfold s158
 exact Ref.gq
theorem f158 {orc:FuncId → Bool} {e:Ex} (h:ExLe Q e (E orc)) (v0 v1:Value) (G:GS):Ref (s158 true e v0 v1 G) ((E orc).cl 158 [v0,v1] G) :=
 fun r hr=>cl_sxE_some Q orc (vs:=[v0,v1]) G Tryz.func158 (by kernel_rfl) (by kernel_rfl) (by kernel_rfl) (by kernel_rfl) (by kernel_rfl) (by kernel_rfl) (m158 h v0 v1 G r hr)
noncomputable def s159 (q:Bool) (e:Ex) (v0 v1:Value) (G:GS):Option (Value × GS) :=
 bS (e.ev.cl 155 [v0,v1,(.int .i64 1)] G) fun x0 G1 =>
 bP (bn Q q .and 39 (.tmp 7) (.const (.int .u64 65535)) x0 (.int .u64 65535)) fun x2 =>
 bP (cv Q q 39 3 .u64 .i64 x2) fun x3 =>
 bP (pNil v0) fun x4 =>
 bP (fa Q q 162 6 21 x4) fun x5 =>
 bP (fa Q q 92 1 1 x5) fun x6 =>
 bP (st Q q 3 1 x6 x3 G1) fun G7 =>
 some (.tuple #[],G7)
theorem m159 {e:Ex} {E:Ev} (h:ExLe Q e E) (v0 v1:Value) (G:GS):Ref (s159 true e v0 v1 G) (s159 false (Ex.of E) v0 v1 G):=by
 unfold s159
 exact Ref.gq
theorem f159 {orc:FuncId → Bool} {e:Ex} (h:ExLe Q e (E orc)) (v0 v1:Value) (G:GS):Ref (s159 true e v0 v1 G) ((E orc).cl 159 [v0,v1] G) :=
 fun r hr=>cl_sxE_some Q orc (vs:=[v0,v1]) G Tryz.func159 (by kernel_rfl) (by kernel_rfl) (by kernel_rfl) (by kernel_rfl) (by kernel_rfl) (by kernel_rfl) (m159 h v0 v1 G r hr)
noncomputable def s160 (q:Bool) (e:Ex) (v0 v1:Value) (G:GS):Option (Value × GS) :=
 bS (bx q v0 G) fun x0 G1 =>
 bP (lda Q q 75 13 x0 G1) fun x2 =>
 bP (bd Q q 279 z279 [(0,0,13),(1,13,1),(7,22,1)] [x2,v1,(.bool true)]) fun x3 =>
 bS (bx q x3 G1) fun x4 G5 =>
 bP (lda Q q 75 13 x0 G5) fun x6 =>
 bS (e.ev.cl 142 [x6,(.int .i64 (-1)),(.int .i64 0)] G5) fun x7 G8 =>
 bP (bn Q q .lss 3 (.tmp 11) (.const (.int .i64 0)) x7 (.int .i64 0)) fun x9 =>
 ifV x9 (
 bP (pNil x4) fun x10 =>
 bP (fa Q q 279 2 14 x10) fun x11 =>
 bP (st Q q 3 1 x11 (.int .i64 9) G8) fun G12 =>
 bP (pNil x4) fun x13 =>
 bP (fa Q q 279 8 23 x13) fun x14 =>
 bP (st Q q 26 1 x14 (.int .i64 2) G12) fun G15 =>
 some (x4,G15)) (
 bP (fa Q q 75 2 2 x0) fun x16 =>
 bP (ld Q q 3 x16 G8) fun x17 =>
 bS (mk Q q 277 4 32 z276 x17 x17 G8) fun x18 G19 =>
 bP (pNil x4) fun x20 =>
 bP (fa Q q 279 5 20 x20) fun x21 =>
 bP (st Q q 277 1 x21 x18 G19) fun G22 =>
 bS (e.ev.cl 205 [x4] G22) fun x23 G24 =>
 some (x4,G24))
theorem m160 {e:Ex} {E:Ev} (h:ExLe Q e E) (v0 v1:Value) (G:GS):Ref (s160 true e v0 v1 G) (s160 false (Ex.of E) v0 v1 G):=by
 unfold s160
 exact Ref.gq
theorem f160 {orc:FuncId → Bool} {e:Ex} (h:ExLe Q e (E orc)) (v0 v1:Value) (G:GS):Ref (s160 true e v0 v1 G) ((E orc).cl 160 [v0,v1] G) :=
 fun r hr=>cl_sxE_some Q orc (vs:=[v0,v1]) G Tryz.func160 (by kernel_rfl) (by kernel_rfl) (by kernel_rfl) (by kernel_rfl) (by kernel_rfl) (by kernel_rfl) (m160 h v0 v1 G r hr)
noncomputable def jb161_0 (q:Bool) (e:Ex) (τ:Env) (G:GS):Option (Value × GS) :=
 bV q (τ 0) fun a0_ =>
 bP (pNil a0_) fun x5 =>
 bP (fa Q q 165 0 0 x5) fun x6 =>
 bP (fa Q q 162 1 13 x6) fun x7 =>
 bP (fa Q q 159 2 2 x7) fun x8 =>
 bP (ld Q q 156 x8 G) fun x9 =>
 bS (e.ev.cl 207 [x9] G) fun x10 G11 =>
 bP (pNil a0_) fun x12 =>
 bP (fa Q q 165 0 0 x12) fun x13 =>
 bP (fa Q q 162 7 23 x13) fun x14 =>
 bP (st Q q 39 1 x14 x10 G11) fun G15 =>
 some (.tuple #[],G15)
noncomputable def j161_0 (q:Bool) (e:Ex) (τ:Env) (G:GS):Option (Value × GS):=jb161_0 q e τ G
theorem mj161_0 {e:Ex} {E:Ev} (h:ExLe Q e E) (τ:Env) (G:GS):Ref (j161_0 true e τ G) (j161_0 false (Ex.of E) τ G):=by
 unfold j161_0 jb161_0
 exact Ref.gq
theorem mkj161_0 {e:Ex} {E:Ev} (h:ExLe Q e E) {τ:Env} {l U:List (Nat × Value)} {G:GS} (hU:UOk τ U):Ref (j161_0 true e (xq true 102 τ l U) G) (j161_0 false (Ex.of E) (xq false 102 τ l U) G):=by
 rw [xq_eq hU]
 exact mj161_0 h _ _
noncomputable def sb161 (q:Bool) (e:Ex) (J0:Env → GS → Option (Value × GS)) (v0 v1:Value) (G:GS):Option (Value × GS) :=
 bP (pNil v0) fun x0 =>
 bP (fa Q q 165 0 0 x0) fun x1 =>
 bP (fa Q q 162 2 17 x1) fun x2 =>
 bP (ld Q q 3 x2 G) fun x3 =>
 bP (bn Q q .eql 3 (.tmp 8) (.const (.int .i64 10)) x3 (.int .i64 10)) fun x4 =>
 ifV x4 (
 bP (pNil v0) fun x16 =>
 bP (fa Q q 165 0 0 x16) fun x17 =>
 bP (fa Q q 162 1 13 x17) fun x18 =>
 bP (fa Q q 159 2 2 x18) fun x19 =>
 bP (ld Q q 156 x19 G) fun x20 =>
 bS (e.ev.cl 206 [x20,v1] G) fun x21 G22 =>
 ifV x21 (
 bP (pNil v0) fun x23 =>
 bP (fa Q q 165 0 0 x23) fun x24 =>
 bP (fa Q q 162 2 17 x24) fun x25 =>
 bP (st Q q 3 1 x25 (.int .i64 11) G22) fun G26 =>
 J0 (xq q 102 (nth undef [v0,v1]) [(22,x25),(21,x24),(20,x23),(19,v0),(18,x21),(17,v1),(16,x20),(15,x19),(14,x18),(13,x17),(12,x16),(11,v0),(9,x4),(10,x4),(8,x3),(7,x2),(6,x1),(5,x0),(4,v0)] []) G26) (
 J0 (xq q 102 (nth undef [v0,v1]) [(18,x21),(17,v1),(16,x20),(15,x19),(14,x18),(13,x17),(12,x16),(11,v0),(9,x4),(10,x4),(8,x3),(7,x2),(6,x1),(5,x0),(4,v0)] []) G22)) (
 bP (bn Q q .eql 3 (.tmp 8) (.const (.int .i64 11)) x3 (.int .i64 11)) fun x27 =>
 ifV x27 (
 bP (pNil v0) fun x28 =>
 bP (fa Q q 165 0 0 x28) fun x29 =>
 bP (fa Q q 162 3 18 x29) fun x30 =>
 bP (ld Q q 39 x30 G) fun x31 =>
 bP (pNil v0) fun x32 =>
 bP (fa Q q 165 0 0 x32) fun x33 =>
 bP (fa Q q 162 7 23 x33) fun x34 =>
 bP (st Q q 39 1 x34 x31 G) fun G35 =>
 bP (pNil v0) fun x36 =>
 bP (fa Q q 165 0 0 x36) fun x37 =>
 bP (fa Q q 162 2 17 x37) fun x38 =>
 bP (st Q q 3 1 x38 (.int .i64 99) G35) fun G39 =>
 bP (pNil v0) fun x40 =>
 bP (fa Q q 165 0 0 x40) fun x41 =>
 bP (fa Q q 162 0 0 x41) fun x42 =>
 bP (lda Q q 75 13 x42 (G39.room 14)) fun x43 =>
 bP (pNil v0) fun x44 =>
 bP (fa Q q 165 0 0 x44) fun x45 =>
 bP (fa Q q 162 4 19 x45) fun x46 =>
 bP (ld Q q 3 x46 (G39.room 14)) fun x47 =>
 bS (e.ev.cl 187 [x43,x47,(.int .i64 3)] (G39.room 14)) fun x49 G48 =>
 bS (e.ev.cl 208 [v1,x49,(.int .u64 18446744073709551615)] G48) fun x51 G50 =>
 bP (bn Q q .eql 39 (.tmp 61) (.const (.int .u64 0)) x51 (.int .u64 0)) fun x52 =>
 ifV x52 (
 bP (pNil v0) fun x53 =>
 bP (fa Q q 165 0 0 x53) fun x54 =>
 bP (fa Q q 162 0 0 x54) fun x55 =>
 bP (fa Q q 75 3 3 x55) fun x56 =>
 bP (lda Q q 73 10 x56 (G50.room 23)) fun x57 =>
 bP (pNil v0) fun x58 =>
 bP (fa Q q 165 0 0 x58) fun x59 =>
 bP (fa Q q 162 4 19 x59) fun x60 =>
 bP (ld Q q 3 x60 (G50.room 23)) fun x61 =>
 bS (e.ev.cl 209 [x57,x61] (G50.room 23)) fun x63 G62 =>
 bP (pNil v0) fun x64 =>
 bP (fa Q q 165 0 0 x64) fun x65 =>
 bP (fa Q q 162 1 13 x65) fun x66 =>
 bP (fa Q q 159 3 3 x66) fun x67 =>
 bP (st Q q 157 1 x67 x63 G62) fun G68 =>
 bP (pNil v0) fun x69 =>
 bP (fa Q q 165 0 0 x69) fun x70 =>
 bP (fa Q q 162 2 17 x70) fun x71 =>
 bP (st Q q 3 1 x71 (.int .i64 12) G68) fun G72 =>
 some (.tuple #[],G72)) (
 some (.tuple #[],G50))) (
 bP (bn Q q .eql 3 (.tmp 8) (.const (.int .i64 12)) x3 (.int .i64 12)) fun x73 =>
 ifV x73 (
 bP (pNil v0) fun x74 =>
 bP (fa Q q 165 0 0 x74) fun x75 =>
 bP (fa Q q 162 7 23 x75) fun x76 =>
 bP (st Q q 39 1 x76 (.int .u64 0) G) fun G77 =>
 bP (pNil v0) fun x78 =>
 bP (fa Q q 165 0 0 x78) fun x79 =>
 bP (fa Q q 162 1 13 x79) fun x80 =>
 bP (fa Q q 159 3 3 x80) fun x81 =>
 bP (ld Q q 157 x81 G77) fun x82 =>
 bS (e.ev.cl 210 [x82,v1] G77) fun x83 G84 =>
 ifV x83 (
 bP (pNil v0) fun x85 =>
 bP (fa Q q 165 0 0 x85) fun x86 =>
 bP (fa Q q 162 2 17 x86) fun x87 =>
 bP (st Q q 3 1 x87 (.int .i64 99) G84) fun G88 =>
 some (.tuple #[],G88)) (
 some (.tuple #[],G84))) (
 some (.tuple #[],G))))
noncomputable def s161 (q:Bool) (e:Ex) (v0 v1:Value) (G:GS):Option (Value × GS):=sb161 q e (j161_0 q e) v0 v1 G
theorem m161 {e:Ex} {E:Ev} (h:ExLe Q e E) (v0 v1:Value) (G:GS):Ref (s161 true e v0 v1 G) (s161 false (Ex.of E) v0 v1 G):=by
 unfold s161 sb161
 repeat' (with_reducible first | exact Ref.rfl' _ | exact ROp.r | refine Ref.bP ?_ fun _=>?_ | refine Ref.bS ?_ fun _ _=>?_ | exact Ref.cl (by assumption) | refine Ref.ifV ?_ ?_ | refine LpLe.rx (by assumption) ?_ | refine Ref.xitq ?_ | exact UOk.z | refine UOk.c (by assumption) ?_ | exact Ref.nil _ | refine Ref.bVe fun _ _=>?_ | refine Ref.bLq (by assumption) ?_ fun _ _ _=>?_ | refine Ref.ifE ?_ ?_ | refine Ref.chk ?_ ?_ | refine Imp.and ?_ ?_ | refine Imp.or ?_ | exact Imp.rfl' _ | refine Imp.sameO ?_ | refine Ref.gd ?_ | exact Ref.cValue (by assumption) | refine Ref.bX ?_ fun _ _ _=>?_ | exact Ref.scQ (by assumption) | exact Ref.xRangeQ (by assumption) | exact Ref.cInvoke (by assumption) | refine mkj161_0 (by assumption) ?_)
end Go.Proofs.YtaanpcoglijohaaGreat.Lift
