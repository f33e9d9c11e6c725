import Derived.Test.YtkhlabammcghbaaGreatRSa
namespace Go.Proofs.YtkhlabammcghbaaGreat.Lift
open Go Go.Proofs.YtkhlabammcghbaaGreat.Gh Go.Proofs
set_option linter.unusedVariables false
set_option linter.unusedSimpArgs false
set_option maxRecDepth 100000
attribute [local simp] Tryz.f8 Tryz.f22 Tryz.f28 Tryz.f32 Tryz.f37 Tryz.f40 Tryz.f48 Tryz.f51 Tryz.f54 Tryz.f58 Tryz.f61 Tryz.f64 Tryz.f67 Tryz.f71 Tryz.f76 Tryz.f79 Tryz.f84 Tryz.f88 Tryz.f92 Tryz.f95 Tryz.f99 Tryz.f104 Tryz.f110 Tryz.f113 Tryz.f116 Tryz.f120 Tryz.f123 Tryz.f127 Tryz.f130 Tryz.f133 Tryz.f137 Tryz.f140 Tryz.f143 Tryz.f146 Tryz.f149 Tryz.f152 Tryz.f155 Tryz.f158 Tryz.f161 Tryz.f164
noncomputable section
variable {ae:FuncId→Bool} {e:Ex}
def JC (q:Bool) (e:Ex) (lp:bF) (τ:Env) (G:GS):OL:=(aH:NL Q e 8 46 false [0,1,5,6,7] Tryz.f8 0 lp τ G).y
theorem Rb (h:EL ae e):LT ae 46 (cP Tryz.f8 0) (JC true e):=fun lp bw T G hT=>NL.ref _ h Tryz.func8 hT bw
def JD (q:Bool) (e:Ex) (lp:bF) (τ:Env) (G:GS):OL:=(aH:NL Q e 8 46 true [0,1,5,6,7] Tryz.f8 1 lp τ G).y
theorem Rc (h:EL ae e):LT ae 46 (cP Tryz.f8 1) (JD true e):=fun lp bw T G hT=>NL.ref _ h Tryz.func8 hT bw
def EJ (q:Bool) (e:Ex) (lp:bF) (τ:Env) (G:GS):OL:=(aH:NL Q e 8 46 false [0,1,5,6,7] Tryz.f8 2 lp τ G).y
theorem JE (h:EL ae e):LT ae 46 (cP Tryz.f8 2) (EJ true e):=fun lp bw T G hT=>NL.ref _ h Tryz.func8 hT bw
def s8 (q:Bool) (e:Ex) (v0 v1:Value) (G:GS):OG:=(aH:NS Q e 8 true [4] Tryz.f8 [v0,v1] G).y
theorem f8 (h:EL ae e) (v0 v1:Value) (G:GS):RF ae 8 [v0,v1] G (s8 true e v0 v1 G):=Nf.ref _ h Tryz.func8
def s22 (q:Bool) (e:Ex) (v0:Value) (G:GS):OG:=(aH:NS Q e 22 false [] Tryz.f22 [v0] G).y
theorem f22 (h:EL ae e) (v0:Value) (G:GS):RF ae 22 [v0] G (s22 true e v0 G):=Nf.ref _ h Tryz.func22
def s28 (q:Bool) (e:Ex) (v0:Value) (G:GS):OG:=(aH:NS Q e 28 false [] Tryz.f28 [v0] G).y
theorem f28 (h:EL ae e) (v0:Value) (G:GS):RF ae 28 [v0] G (s28 true e v0 G):=Nf.ref _ h Tryz.func28
def s32 (q:Bool) (e:Ex) (v0:Value) (G:GS):OG:=(aH:NS Q e 32 false [] Tryz.f32 [v0] G).y
theorem f32 (h:EL ae e) (v0:Value) (G:GS):RF ae 32 [v0] G (s32 true e v0 G):=Nf.ref _ h Tryz.func32
def JF (q:Bool) (e:Ex) (lp:bF) (τ:Env) (G:GS):OL:=(aH:NL Q e 37 42 false [3,29,30,31] Tryz.f37 0 lp τ G).y
theorem Re (h:EL ae e):LT ae 42 (cP Tryz.f37 0) (JF true e):=fun lp bw T G hT=>NL.ref _ h Tryz.func37 hT bw
def s37 (q:Bool) (e:Ex) (v0:Value) (G:GS):OG:=(aH:NS Q e 37 true [3] Tryz.f37 [v0] G).y
theorem f37 (h:EL ae e) (v0:Value) (G:GS):RF ae 37 [v0] G (s37 true e v0 G):=Nf.ref _ h Tryz.func37
def s40 (q:Bool) (e:Ex) (v0 v1:Value) (G:GS):OG:=(aH:NS Q e 40 false [] Tryz.f40 [v0,v1] G).y
theorem f40 (h:EL ae e) (v0 v1:Value) (G:GS):RF ae 40 [v0,v1] G (s40 true e v0 v1 G):=Nf.ref _ h Tryz.func40
def s48 (q:Bool) (e:Ex) (v0:Value) (G:GS):OG:=(aH:NS Q e 48 false [] Tryz.f48 [v0] G).y
theorem f48 (h:EL ae e) (v0:Value) (G:GS):RF ae 48 [v0] G (s48 true e v0 G):=Nf.ref _ h Tryz.func48
def s51 (q:Bool) (e:Ex) (v0 v1 v2:Value) (G:GS):OG:=(aH:NS Q e 51 false [] Tryz.f51 [v0,v1,v2] G).y
theorem f51 (h:EL ae e) (v0 v1 v2:Value) (G:GS):RF ae 51 [v0,v1,v2] G (s51 true e v0 v1 v2 G):=Nf.ref _ h Tryz.func51
def s54 (q:Bool) (e:Ex) (v0 v1:Value) (G:GS):OG:=(aH:NS Q e 54 false [] Tryz.f54 [v0,v1] G).y
theorem f54 (h:EL ae e) (v0 v1:Value) (G:GS):RF ae 54 [v0,v1] G (s54 true e v0 v1 G):=Nf.ref _ h Tryz.func54
def s58 (q:Bool) (e:Ex) (v0:Value) (G:GS):OG:=(aH:NS Q e 58 false [] Tryz.f58 [v0] G).y
theorem f58 (h:EL ae e) (v0:Value) (G:GS):RF ae 58 [v0] G (s58 true e v0 G):=Nf.ref _ h Tryz.func58
def s61 (q:Bool) (e:Ex) (v0 v1:Value) (G:GS):OG:=(aH:NS Q e 61 false [] Tryz.f61 [v0,v1] G).y
theorem f61 (h:EL ae e) (v0 v1:Value) (G:GS):RF ae 61 [v0,v1] G (s61 true e v0 v1 G):=Nf.ref _ h Tryz.func61
def JG (q:Bool) (e:Ex) (lp:bF) (τ:Env) (G:GS):OL:=(aH:NL Q e 64 23 false [1,2,13] Tryz.f64 0 lp τ G).y
theorem Rf (h:EL ae e):LT ae 23 (cP Tryz.f64 0) (JG true e):=fun lp bw T G hT=>NL.ref _ h Tryz.func64 hT bw
def s64 (q:Bool) (e:Ex) (v0 v1:Value) (G:GS):OG:=(aH:NS Q e 64 true [] Tryz.f64 [v0,v1] G).y
theorem f64 (h:EL ae e) (v0 v1:Value) (G:GS):RF ae 64 [v0,v1] G (s64 true e v0 v1 G):=Nf.ref _ h Tryz.func64
def s67 (q:Bool) (e:Ex) (v0 v1 v2 v3:Value) (G:GS):OG:=(aH:NS Q e 67 false [] Tryz.f67 [v0,v1,v2,v3] G).y
theorem f67 (h:EL ae e) (v0 v1 v2 v3:Value) (G:GS):RF ae 67 [v0,v1,v2,v3] G (s67 true e v0 v1 v2 v3 G):=Nf.ref _ h Tryz.func67
def s71 (q:Bool) (e:Ex) (v0:Value) (G:GS):OG:=(aH:NS Q e 71 false [] Tryz.f71 [v0] G).y
theorem f71 (h:EL ae e) (v0:Value) (G:GS):RF ae 71 [v0] G (s71 true e v0 G):=Nf.ref _ h Tryz.func71
def Ca (q:Bool) (e:Ex) (lp:bF) (τ:Env) (G:GS):OL:=(aH:NL Q e 76 40 false [0,1,2,3,5,6] Tryz.f76 0 lp τ G).y
theorem Rg (h:EL ae e):LT ae 40 (cP Tryz.f76 0) (Ca true e):=fun lp bw T G hT=>NL.ref _ h Tryz.func76 hT bw
def s76 (q:Bool) (e:Ex) (v0 v1 v2 v3:Value) (G:GS):OG:=(aH:NS Q e 76 true [] Tryz.f76 [v0,v1,v2,v3] G).y
theorem f76 (h:EL ae e) (v0 v1 v2 v3:Value) (G:GS):RF ae 76 [v0,v1,v2,v3] G (s76 true e v0 v1 v2 v3 G):=Nf.ref _ h Tryz.func76
def s79 (q:Bool) (e:Ex) (v0:Value) (G:GS):OG:=(aH:NS Q e 79 false [] Tryz.f79 [v0] G).y
theorem f79 (h:EL ae e) (v0:Value) (G:GS):RF ae 79 [v0] G (s79 true e v0 G):=Nf.ref _ h Tryz.func79
def s84 (q:Bool) (e:Ex) (v0:Value) (G:GS):OG:=(aH:NS Q e 84 false [] Tryz.f84 [v0] G).y
theorem f84 (h:EL ae e) (v0:Value) (G:GS):RF ae 84 [v0] G (s84 true e v0 G):=Nf.ref _ h Tryz.func84
def s88 (q:Bool) (e:Ex) (v0:Value) (G:GS):OG:=(aH:NS Q e 88 false [] Tryz.f88 [v0] G).y
theorem f88 (h:EL ae e) (v0:Value) (G:GS):RF ae 88 [v0] G (s88 true e v0 G):=Nf.ref _ h Tryz.func88
def s92 (q:Bool) (e:Ex) (v0:Value) (G:GS):OG:=(aH:NS Q e 92 false [] Tryz.f92 [v0] G).y
theorem f92 (h:EL ae e) (v0:Value) (G:GS):RF ae 92 [v0] G (s92 true e v0 G):=Nf.ref _ h Tryz.func92
def s95 (q:Bool) (e:Ex) (v0 v1:Value) (G:GS):OG:=(aH:NS Q e 95 false [] Tryz.f95 [v0,v1] G).y
theorem f95 (h:EL ae e) (v0 v1:Value) (G:GS):RF ae 95 [v0,v1] G (s95 true e v0 v1 G):=Nf.ref _ h Tryz.func95
def s99 (q:Bool) (e:Ex) (v0:Value) (G:GS):OG:=(aH:NS Q e 99 false [] Tryz.f99 [v0] G).y
theorem f99 (h:EL ae e) (v0:Value) (G:GS):RF ae 99 [v0] G (s99 true e v0 G):=Nf.ref _ h Tryz.func99
def s104 (q:Bool) (e:Ex) (v0 v1:Value) (G:GS):OG:=(aH:NS Q e 104 false [] Tryz.f104 [v0,v1] G).y
theorem f104 (h:EL ae e) (v0 v1:Value) (G:GS):RF ae 104 [v0,v1] G (s104 true e v0 v1 G):=Nf.ref _ h Tryz.func104
def s110 (q:Bool) (e:Ex) (v0 v1:Value) (G:GS):OG:=(aH:NS Q e 110 false [] Tryz.f110 [v0,v1] G).y
theorem f110 (h:EL ae e) (v0 v1:Value) (G:GS):RF ae 110 [v0,v1] G (s110 true e v0 v1 G):=Nf.ref _ h Tryz.func110
def s113 (q:Bool) (e:Ex) (v0:Value) (G:GS):OG:=(aH:NS Q e 113 false [] Tryz.f113 [v0] G).y
theorem f113 (h:EL ae e) (v0:Value) (G:GS):RF ae 113 [v0] G (s113 true e v0 G):=Nf.ref _ h Tryz.func113
def s116 (q:Bool) (e:Ex) (v0:Value) (G:GS):OG:=(aH:NS Q e 116 false [] Tryz.f116 [v0] G).y
theorem f116 (h:EL ae e) (v0:Value) (G:GS):RF ae 116 [v0] G (s116 true e v0 G):=Nf.ref _ h Tryz.func116
def s120 (q:Bool) (e:Ex) (G:GS):OG:=(aH:NS Q e 120 false [] Tryz.f120 [] G).y
theorem f120 (h:EL ae e) (ho:ae 120=false) (G:GS):RF ae 120 [] G (s120 true e G):=Nf.ref _ h Tryz.func120
def s123 (q:Bool) (e:Ex) (v0 v1:Value) (G:GS):OG:=(aH:NS Q e 123 false [] Tryz.f123 [v0,v1] G).y
theorem f123 (h:EL ae e) (v0 v1:Value) (G:GS):RF ae 123 [v0,v1] G (s123 true e v0 v1 G):=Nf.ref _ h Tryz.func123
def s127 (q:Bool) (e:Ex) (v0 v1:Value) (G:GS):OG:=(aH:NS Q e 127 false [] Tryz.f127 [v0,v1] G).y
theorem f127 (h:EL ae e) (v0 v1:Value) (G:GS):RF ae 127 [v0,v1] G (s127 true e v0 v1 G):=Nf.ref _ h Tryz.func127
def s130 (q:Bool) (e:Ex) (v0 v1:Value) (G:GS):OG:=(aH:NS Q e 130 false [] Tryz.f130 [v0,v1] G).y
theorem f130 (h:EL ae e) (v0 v1:Value) (G:GS):RF ae 130 [v0,v1] G (s130 true e v0 v1 G):=Nf.ref _ h Tryz.func130
def s133 (q:Bool) (e:Ex) (v0 v1:Value) (G:GS):OG:=(aH:NS Q e 133 false [] Tryz.f133 [v0,v1] G).y
theorem f133 (h:EL ae e) (v0 v1:Value) (G:GS):RF ae 133 [v0,v1] G (s133 true e v0 v1 G):=Nf.ref _ h Tryz.func133
def s137 (q:Bool) (e:Ex) (v0 v1:Value) (G:GS):OG:=(aH:NS Q e 137 false [] Tryz.f137 [v0,v1] G).y
theorem f137 (h:EL ae e) (v0 v1:Value) (G:GS):RF ae 137 [v0,v1] G (s137 true e v0 v1 G):=Nf.ref _ h Tryz.func137
def s140 (q:Bool) (e:Ex) (v0:Value) (G:GS):OG:=(aH:NS Q e 140 false [] Tryz.f140 [v0] G).y
theorem f140 (h:EL ae e) (v0:Value) (G:GS):RF ae 140 [v0] G (s140 true e v0 G):=Nf.ref _ h Tryz.func140
def EK (q:Bool) (e:Ex) (lp:bF) (τ:Env) (G:GS):OL:=(aH:NL Q e 143 24 false [1,5,8,9,10] Tryz.f143 0 lp τ G).y
theorem JH (h:EL ae e):LT ae 24 (cP Tryz.f143 0) (EK true e):=fun lp bw T G hT=>NL.ref _ h Tryz.func143 hT bw
def s143 (q:Bool) (e:Ex) (v0 v1:Value) (G:GS):OG:=(aH:NS Q e 143 true [5] Tryz.f143 [v0,v1] G).y
theorem f143 (h:EL ae e) (v0 v1:Value) (G:GS):RF ae 143 [v0,v1] G (s143 true e v0 v1 G):=Nf.ref _ h Tryz.func143
def s146 (q:Bool) (e:Ex) (v0 v1:Value) (G:GS):OG:=(aH:NS Q e 146 false [] Tryz.f146 [v0,v1] G).y
theorem f146 (h:EL ae e) (v0 v1:Value) (G:GS):RF ae 146 [v0,v1] G (s146 true e v0 v1 G):=Nf.ref _ h Tryz.func146
def s149 (q:Bool) (e:Ex) (v0 v1 v2 v3 v4:Value) (G:GS):OG:=(aH:NS Q e 149 false [] Tryz.f149 [v0,v1,v2,v3,v4] G).y
theorem f149 (h:EL ae e) (v0 v1 v2 v3 v4:Value) (G:GS):RF ae 149 [v0,v1,v2,v3,v4] G (s149 true e v0 v1 v2 v3 v4 G):=Nf.ref _ h Tryz.func149
def s152 (q:Bool) (e:Ex) (v0 v1:Value) (G:GS):OG:=(aH:NS Q e 152 false [] Tryz.f152 [v0,v1] G).y
theorem f152 (h:EL ae e) (v0 v1:Value) (G:GS):RF ae 152 [v0,v1] G (s152 true e v0 v1 G):=Nf.ref _ h Tryz.func152
def s155 (q:Bool) (e:Ex) (v0 v1 v2:Value) (G:GS):OG:=(aH:NS Q e 155 false [] Tryz.f155 [v0,v1,v2] G).y
theorem f155 (h:EL ae e) (v0 v1 v2:Value) (G:GS):RF ae 155 [v0,v1,v2] G (s155 true e v0 v1 v2 G):=Nf.ref _ h Tryz.func155
def JI (q:Bool) (e:Ex) (lp:bF) (τ:Env) (G:GS):OL:=(aH:NL Q e 158 20 false [3,7,8,9] Tryz.f158 0 lp τ G).y
theorem Rh (h:EL ae e):LT ae 20 (cP Tryz.f158 0) (JI true e):=fun lp bw T G hT=>NL.ref _ h Tryz.func158 hT bw
def s158 (q:Bool) (e:Ex) (v0:Value) (G:GS):OG:=(aH:NS Q e 158 true [3] Tryz.f158 [v0] G).y
theorem f158 (h:EL ae e) (v0:Value) (G:GS):RF ae 158 [v0] G (s158 true e v0 G):=Nf.ref _ h Tryz.func158
def s161 (q:Bool) (e:Ex) (v0:Value) (G:GS):OG:=(aH:NS Q e 161 false [] Tryz.f161 [v0] G).y
theorem f161 (h:EL ae e) (v0:Value) (G:GS):RF ae 161 [v0] G (s161 true e v0 G):=Nf.ref _ h Tryz.func161
def s164 (q:Bool) (e:Ex) (v0 v1 v2:Value) (G:GS):OG:=(aH:NS Q e 164 false [] Tryz.f164 [v0,v1,v2] G).y
theorem f164 (h:EL ae e) (v0 v1 v2:Value) (G:GS):RF ae 164 [v0,v1,v2] G (s164 true e v0 v1 v2 G):=Nf.ref _ h Tryz.func164
end
end Go.Proofs.YtkhlabammcghbaaGreat.Lift
