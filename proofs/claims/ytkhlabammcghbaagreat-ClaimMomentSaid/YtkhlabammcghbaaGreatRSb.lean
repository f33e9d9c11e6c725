import Derived.Test.YtkhlabammcghbaaGreatRSa
namespace Go.Proofs.YtkhlabammcghbaaGreat.Lift
open Go Go.Proofs.YtkhlabammcghbaaGreat.Gh Go.Proofs
set_option linter.unusedVariables false
set_option linter.unusedSimpArgs false
set_option maxRecDepth 100000
attribute [local simp] Tryz.f7 Tryz.f18 Tryz.f26 Tryz.f31 Tryz.f36 Tryz.f39 Tryz.f47 Tryz.f50 Tryz.f53 Tryz.f56 Tryz.f60 Tryz.f63 Tryz.f66 Tryz.f69 Tryz.f74 Tryz.f78 Tryz.f82 Tryz.f87 Tryz.f90 Tryz.f94 Tryz.f98 Tryz.f101 Tryz.f108 Tryz.f112 Tryz.f115 Tryz.f119 Tryz.f122 Tryz.f126 Tryz.f129 Tryz.f132 Tryz.f136 Tryz.f139 Tryz.f142 Tryz.f145 Tryz.f148 Tryz.f151 Tryz.f154 Tryz.f157 Tryz.f160 Tryz.f163 Tryz.f186
noncomputable section
variable {ae:FuncId→Bool} {e:Ex}
def s7 (q:Bool) (e:Ex) (v0 v1:Value) (G:GS):OG:=(aH:NS Q e 7 false [] Tryz.f7 [v0,v1] G).y
theorem f7 (h:EL ae e) (v0 v1:Value) (G:GS):RF ae 7 [v0,v1] G (s7 true e v0 v1 G):=Nf.ref _ h Tryz.func7
def s18 (q:Bool) (e:Ex) (v0:Value) (G:GS):OG:=(aH:NS Q e 18 false [] Tryz.f18 [v0] G).y
theorem f18 (h:EL ae e) (v0:Value) (G:GS):RF ae 18 [v0] G (s18 true e v0 G):=Nf.ref _ h Tryz.func18
def s26 (q:Bool) (e:Ex) (v0 v1:Value) (G:GS):OG:=(aH:NS Q e 26 false [0] Tryz.f26 [v0,v1] G).y
theorem f26 (h:EL ae e) (v0 v1:Value) (G:GS):RF ae 26 [v0,v1] G (s26 true e v0 v1 G):=Nf.ref _ h Tryz.func26
def Jy (q:Bool) (e:Ex) (lp:bF) (τ:Env) (G:GS):OL:=(aH:NL Q e 31 36 false [0,1,12,13] Tryz.f31 0 lp τ G).y
theorem Q8 (h:EL ae e):LT ae 36 (cP Tryz.f31 0) (Jy true e):=fun lp bw T G hT=>NL.ref _ h Tryz.func31 hT bw
def s31 (q:Bool) (e:Ex) (v0 v1:Value) (G:GS):OG:=(aH:NS Q e 31 true [0] Tryz.f31 [v0,v1] G).y
theorem f31 (h:EL ae e) (v0 v1:Value) (G:GS):RF ae 31 [v0,v1] G (s31 true e v0 v1 G):=Nf.ref _ h Tryz.func31
def s36 (q:Bool) (e:Ex) (v0:Value) (G:GS):OG:=(aH:NS Q e 36 false [] Tryz.f36 [v0] G).y
theorem f36 (h:EL ae e) (v0:Value) (G:GS):RF ae 36 [v0] G (s36 true e v0 G):=Nf.ref _ h Tryz.func36
def s39 (q:Bool) (e:Ex) (v0:Value) (G:GS):OG:=(aH:NS Q e 39 false [] Tryz.f39 [v0] G).y
theorem f39 (h:EL ae e) (v0:Value) (G:GS):RF ae 39 [v0] G (s39 true e v0 G):=Nf.ref _ h Tryz.func39
def s47 (q:Bool) (e:Ex) (v0:Value) (G:GS):OG:=(aH:NS Q e 47 false [] Tryz.f47 [v0] G).y
theorem f47 (h:EL ae e) (v0:Value) (G:GS):RF ae 47 [v0] G (s47 true e v0 G):=Nf.ref _ h Tryz.func47
def s50 (q:Bool) (e:Ex) (v0 v1:Value) (G:GS):OG:=(aH:NS Q e 50 false [] Tryz.f50 [v0,v1] G).y
theorem f50 (h:EL ae e) (v0 v1:Value) (G:GS):RF ae 50 [v0,v1] G (s50 true e v0 v1 G):=Nf.ref _ h Tryz.func50
def s53 (q:Bool) (e:Ex) (v0 v1 v2 v3:Value) (G:GS):OG:=(aH:NS Q e 53 false [] Tryz.f53 [v0,v1,v2,v3] G).y
theorem f53 (h:EL ae e) (v0 v1 v2 v3:Value) (G:GS):RF ae 53 [v0,v1,v2,v3] G (s53 true e v0 v1 v2 v3 G):=Nf.ref _ h Tryz.func53
def s56 (q:Bool) (e:Ex) (v0 v1:Value) (G:GS):OG:=(aH:NS Q e 56 false [] Tryz.f56 [v0,v1] G).y
theorem f56 (h:EL ae e) (v0 v1:Value) (G:GS):RF ae 56 [v0,v1] G (s56 true e v0 v1 G):=Nf.ref _ h Tryz.func56
def s60 (q:Bool) (e:Ex) (v0:Value) (G:GS):OG:=(aH:NS Q e 60 false [] Tryz.f60 [v0] G).y
theorem f60 (h:EL ae e) (v0:Value) (G:GS):RF ae 60 [v0] G (s60 true e v0 G):=Nf.ref _ h Tryz.func60
def s63 (q:Bool) (e:Ex) (v0 v1:Value) (G:GS):OG:=(aH:NS Q e 63 false [] Tryz.f63 [v0,v1] G).y
theorem f63 (h:EL ae e) (v0 v1:Value) (G:GS):RF ae 63 [v0,v1] G (s63 true e v0 v1 G):=Nf.ref _ h Tryz.func63
def s66 (q:Bool) (e:Ex) (v0 v1:Value) (G:GS):OG:=(aH:NS Q e 66 false [] Tryz.f66 [v0,v1] G).y
theorem f66 (h:EL ae e) (v0 v1:Value) (G:GS):RF ae 66 [v0,v1] G (s66 true e v0 v1 G):=Nf.ref _ h Tryz.func66
def s69 (q:Bool) (e:Ex) (v0:Value) (G:GS):OG:=(aH:NS Q e 69 false [] Tryz.f69 [v0] G).y
theorem f69 (h:EL ae e) (v0:Value) (G:GS):RF ae 69 [v0] G (s69 true e v0 G):=Nf.ref _ h Tryz.func69
def s74 (q:Bool) (e:Ex) (v0:Value) (G:GS):OG:=(aH:NS Q e 74 false [] Tryz.f74 [v0] G).y
theorem f74 (h:EL ae e) (v0:Value) (G:GS):RF ae 74 [v0] G (s74 true e v0 G):=Nf.ref _ h Tryz.func74
def s78 (q:Bool) (e:Ex) (v0 v1 v2:Value) (G:GS):OG:=(aH:NS Q e 78 false [] Tryz.f78 [v0,v1,v2] G).y
theorem f78 (h:EL ae e) (v0 v1 v2:Value) (G:GS):RF ae 78 [v0,v1,v2] G (s78 true e v0 v1 v2 G):=Nf.ref _ h Tryz.func78
def s82 (q:Bool) (e:Ex) (v0 v1 v2 v3 v4:Value) (G:GS):OG:=(aH:NS Q e 82 false [0,10] Tryz.f82 [v0,v1,v2,v3,v4] G).y
theorem f82 (h:EL ae e) (v0 v1 v2 v3 v4:Value) (G:GS):RF ae 82 [v0,v1,v2,v3,v4] G (s82 true e v0 v1 v2 v3 v4 G):=Nf.ref _ h Tryz.func82
def s87 (q:Bool) (e:Ex) (v0:Value) (G:GS):OG:=(aH:NS Q e 87 false [] Tryz.f87 [v0] G).y
theorem f87 (h:EL ae e) (v0:Value) (G:GS):RF ae 87 [v0] G (s87 true e v0 G):=Nf.ref _ h Tryz.func87
def s90 (q:Bool) (e:Ex) (v0:Value) (G:GS):OG:=(aH:NS Q e 90 false [] Tryz.f90 [v0] G).y
theorem f90 (h:EL ae e) (v0:Value) (G:GS):RF ae 90 [v0] G (s90 true e v0 G):=Nf.ref _ h Tryz.func90
def s94 (q:Bool) (e:Ex) (v0 v1:Value) (G:GS):OG:=(aH:NS Q e 94 false [] Tryz.f94 [v0,v1] G).y
theorem f94 (h:EL ae e) (v0 v1:Value) (G:GS):RF ae 94 [v0,v1] G (s94 true e v0 v1 G):=Nf.ref _ h Tryz.func94
def s98 (q:Bool) (e:Ex) (v0 v1:Value) (G:GS):OG:=(aH:NS Q e 98 false [] Tryz.f98 [v0,v1] G).y
theorem f98 (h:EL ae e) (v0 v1:Value) (G:GS):RF ae 98 [v0,v1] G (s98 true e v0 v1 G):=Nf.ref _ h Tryz.func98
def s101 (q:Bool) (e:Ex) (G:GS):OG:=(aH:NS Q e 101 false [] Tryz.f101 [] G).y
theorem f101 (h:EL ae e) (ho:ae 101=false) (G:GS):RF ae 101 [] G (s101 true e G):=Nf.ref _ h Tryz.func101
def s108 (q:Bool) (e:Ex) (v0 v1:Value) (G:GS):OG:=(aH:NS Q e 108 false [] Tryz.f108 [v0,v1] G).y
theorem f108 (h:EL ae e) (v0 v1:Value) (G:GS):RF ae 108 [v0,v1] G (s108 true e v0 v1 G):=Nf.ref _ h Tryz.func108
def s112 (q:Bool) (e:Ex) (v0:Value) (G:GS):OG:=(aH:NS Q e 112 false [] Tryz.f112 [v0] G).y
theorem f112 (h:EL ae e) (v0:Value) (G:GS):RF ae 112 [v0] G (s112 true e v0 G):=Nf.ref _ h Tryz.func112
def s115 (q:Bool) (e:Ex) (v0 v1:Value) (G:GS):OG:=(aH:NS Q e 115 false [0] Tryz.f115 [v0,v1] G).y
theorem f115 (h:EL ae e) (v0 v1:Value) (G:GS):RF ae 115 [v0,v1] G (s115 true e v0 v1 G):=Nf.ref _ h Tryz.func115
def s119 (q:Bool) (e:Ex) (v0:Value) (G:GS):OG:=(aH:NS Q e 119 false [] Tryz.f119 [v0] G).y
theorem f119 (h:EL ae e) (v0:Value) (G:GS):RF ae 119 [v0] G (s119 true e v0 G):=Nf.ref _ h Tryz.func119
def s122 (q:Bool) (e:Ex) (v0 v1 v2:Value) (G:GS):OG:=(aH:NS Q e 122 false [] Tryz.f122 [v0,v1,v2] G).y
theorem f122 (h:EL ae e) (v0 v1 v2:Value) (G:GS):RF ae 122 [v0,v1,v2] G (s122 true e v0 v1 v2 G):=Nf.ref _ h Tryz.func122
def s126 (q:Bool) (e:Ex) (v0 v1:Value) (G:GS):OG:=(aH:NS Q e 126 false [] Tryz.f126 [v0,v1] G).y
theorem f126 (h:EL ae e) (v0 v1:Value) (G:GS):RF ae 126 [v0,v1] G (s126 true e v0 v1 G):=Nf.ref _ h Tryz.func126
def s129 (q:Bool) (e:Ex) (v0 v1:Value) (G:GS):OG:=(aH:NS Q e 129 false [] Tryz.f129 [v0,v1] G).y
theorem f129 (h:EL ae e) (v0 v1:Value) (G:GS):RF ae 129 [v0,v1] G (s129 true e v0 v1 G):=Nf.ref _ h Tryz.func129
def s132 (q:Bool) (e:Ex) (v0 v1:Value) (G:GS):OG:=(aH:NS Q e 132 false [] Tryz.f132 [v0,v1] G).y
theorem f132 (h:EL ae e) (v0 v1:Value) (G:GS):RF ae 132 [v0,v1] G (s132 true e v0 v1 G):=Nf.ref _ h Tryz.func132
def s136 (q:Bool) (e:Ex) (v0 v1:Value) (G:GS):OG:=(aH:NS Q e 136 false [] Tryz.f136 [v0,v1] G).y
theorem f136 (h:EL ae e) (v0 v1:Value) (G:GS):RF ae 136 [v0,v1] G (s136 true e v0 v1 G):=Nf.ref _ h Tryz.func136
def s139 (q:Bool) (e:Ex) (v0:Value) (G:GS):OG:=(aH:NS Q e 139 false [] Tryz.f139 [v0] G).y
theorem f139 (h:EL ae e) (v0:Value) (G:GS):RF ae 139 [v0] G (s139 true e v0 G):=Nf.ref _ h Tryz.func139
def EI (q:Bool) (e:Ex) (lp:bF) (τ:Env) (G:GS):OL:=(aH:NL Q e 142 24 false [5,6,7] Tryz.f142 0 lp τ G).y
theorem Jz (h:EL ae e):LT ae 24 (cP Tryz.f142 0) (EI true e):=fun lp bw T G hT=>NL.ref _ h Tryz.func142 hT bw
def s142 (q:Bool) (e:Ex) (v0:Value) (G:GS):OG:=(aH:NS Q e 142 true [2] Tryz.f142 [v0] G).y
theorem f142 (h:EL ae e) (v0:Value) (G:GS):RF ae 142 [v0] G (s142 true e v0 G):=Nf.ref _ h Tryz.func142
def JA (q:Bool) (e:Ex) (lp:bF) (τ:Env) (G:GS):OL:=(aH:NL Q e 145 20 false [3,7,8,9] Tryz.f145 0 lp τ G).y
theorem Q9 (h:EL ae e):LT ae 20 (cP Tryz.f145 0) (JA true e):=fun lp bw T G hT=>NL.ref _ h Tryz.func145 hT bw
def s145 (q:Bool) (e:Ex) (v0:Value) (G:GS):OG:=(aH:NS Q e 145 true [3] Tryz.f145 [v0] G).y
theorem f145 (h:EL ae e) (v0:Value) (G:GS):RF ae 145 [v0] G (s145 true e v0 G):=Nf.ref _ h Tryz.func145
def s148 (q:Bool) (e:Ex) (v0 v1 v2:Value) (G:GS):OG:=(aH:NS Q e 148 false [] Tryz.f148 [v0,v1,v2] G).y
theorem f148 (h:EL ae e) (v0 v1 v2:Value) (G:GS):RF ae 148 [v0,v1,v2] G (s148 true e v0 v1 v2 G):=Nf.ref _ h Tryz.func148
def s151 (q:Bool) (e:Ex) (v0 v1:Value) (G:GS):OG:=(aH:NS Q e 151 false [] Tryz.f151 [v0,v1] G).y
theorem f151 (h:EL ae e) (v0 v1:Value) (G:GS):RF ae 151 [v0,v1] G (s151 true e v0 v1 G):=Nf.ref _ h Tryz.func151
def s154 (q:Bool) (e:Ex) (v0:Value) (G:GS):OG:=(aH:NS Q e 154 false [] Tryz.f154 [v0] G).y
theorem f154 (h:EL ae e) (v0:Value) (G:GS):RF ae 154 [v0] G (s154 true e v0 G):=Nf.ref _ h Tryz.func154
def JB (q:Bool) (e:Ex) (lp:bF) (τ:Env) (G:GS):OL:=(aH:NL Q e 157 20 false [3,7,8,9] Tryz.f157 0 lp τ G).y
theorem Ra (h:EL ae e):LT ae 20 (cP Tryz.f157 0) (JB true e):=fun lp bw T G hT=>NL.ref _ h Tryz.func157 hT bw
def s157 (q:Bool) (e:Ex) (v0:Value) (G:GS):OG:=(aH:NS Q e 157 true [3] Tryz.f157 [v0] G).y
theorem f157 (h:EL ae e) (v0:Value) (G:GS):RF ae 157 [v0] G (s157 true e v0 G):=Nf.ref _ h Tryz.func157
def s160 (q:Bool) (e:Ex) (v0 v1:Value) (G:GS):OG:=(aH:NS Q e 160 false [] Tryz.f160 [v0,v1] G).y
theorem f160 (h:EL ae e) (v0 v1:Value) (G:GS):RF ae 160 [v0,v1] G (s160 true e v0 v1 G):=Nf.ref _ h Tryz.func160
def s163 (q:Bool) (e:Ex) (v0 v1:Value) (G:GS):OG:=(aH:NS Q e 163 false [] Tryz.f163 [v0,v1] G).y
theorem f163 (h:EL ae e) (v0 v1:Value) (G:GS):RF ae 163 [v0,v1] G (s163 true e v0 v1 G):=Nf.ref _ h Tryz.func163
def s186 (q:Bool) (e:Ex) (v0:Value) (G:GS):OG:=(aH:NS Q e 186 false [] Tryz.f186 [v0] G).y
theorem f186 (h:EL ae e) (v0:Value) (G:GS):RF ae 186 [v0] G (s186 true e v0 G):=Nf.ref _ h Tryz.func186
end
end Go.Proofs.YtkhlabammcghbaaGreat.Lift
