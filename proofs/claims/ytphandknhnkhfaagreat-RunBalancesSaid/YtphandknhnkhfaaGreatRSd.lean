import Derived.Test.YtphandknhnkhfaaGreatRSa
namespace Go.Proofs.YtphandknhnkhfaaGreat.Lift
open Go Go.Proofs.YtphandknhnkhfaaGreat.Gh Go.Proofs
set_option linter.unusedVariables false
set_option linter.unusedSimpArgs false
set_option maxRecDepth 100000
attribute [local simp] Tryz.f7 Tryz.f11 Tryz.f14 Tryz.f17 Tryz.f31 Tryz.f37 Tryz.f40 Tryz.f43 Tryz.f46 Tryz.f49 Tryz.f69 Tryz.f75 Tryz.f78 Tryz.f81 Tryz.f84 Tryz.f87 Tryz.f90 Tryz.f103 Tryz.f109 Tryz.f112 Tryz.f115 Tryz.f119 Tryz.f125 Tryz.f141 Tryz.f145 Tryz.f148 Tryz.f151 Tryz.f154 Tryz.f157 Tryz.f160 Tryz.f172 Tryz.f175 Tryz.f178 Tryz.f182 Tryz.f185 Tryz.f190 Tryz.f193 Tryz.f196 Tryz.f199 Tryz.f202 Tryz.f205 Tryz.f208 Tryz.f211 Tryz.f214 Tryz.f217 Tryz.f220 Tryz.f224 Tryz.f227 Tryz.f231 Tryz.f234 Tryz.f237 Tryz.f240 Tryz.f243 Tryz.f246 Tryz.f267 Tryz.f270 Tryz.f273 Tryz.f277 Tryz.f280 Tryz.f285 Tryz.f288 Tryz.f291 Tryz.f294 Tryz.f297 Tryz.f302 Tryz.f305 Tryz.f308 Tryz.f312 Tryz.f315 Tryz.f318 Tryz.f322 Tryz.f325 Tryz.f328 Tryz.f331
noncomputable section
variable {ae:FuncId→Bool} {e:Ex}
def s7 (q:Bool) (e:Ex) (v0 v1 v2 v3:Value) (G:GS):OG:=(av:NS Q e 7 false [] Tryz.f7 [v0,v1,v2,v3] G).y
theorem f7 (h:EL ae e) (v0 v1 v2 v3:Value) (G:GS):RF ae 7 [v0,v1,v2,v3] G (s7 true e v0 v1 v2 v3 G):=Nf.ref _ h Tryz.func7
def IE (q:Bool) (e:Ex) (lp:bU) (τ:Env) (G:GS):OL:=(av:NL Q e 11 34 false [1,11,12] Tryz.f11 0 lp τ G).y
theorem YR (h:EL ae e):LT ae 34 (dw Tryz.f11 0) (IE true e):=fun lp bJ T G hT=>NL.ref _ h Tryz.func11 hT bJ
def s11 (q:Bool) (e:Ex) (v0 v1 v2 v3 v4:Value) (G:GS):OG:=(av:NS Q e 11 true [10,11] Tryz.f11 [v0,v1,v2,v3,v4] G).y
theorem f11 (h:EL ae e) (v0 v1 v2 v3 v4:Value) (G:GS):RF ae 11 [v0,v1,v2,v3,v4] G (s11 true e v0 v1 v2 v3 v4 G):=Nf.ref _ h Tryz.func11
def s14 (q:Bool) (e:Ex) (v0 v1 v2:Value) (G:GS):OG:=(av:NS Q e 14 false [] Tryz.f14 [v0,v1,v2] G).y
theorem f14 (h:EL ae e) (v0 v1 v2:Value) (G:GS):RF ae 14 [v0,v1,v2] G (s14 true e v0 v1 v2 G):=Nf.ref _ h Tryz.func14
def s17 (q:Bool) (e:Ex) (v0:Value) (G:GS):OG:=(av:NS Q e 17 false [] Tryz.f17 [v0] G).y
theorem f17 (h:EL ae e) (v0:Value) (G:GS):RF ae 17 [v0] G (s17 true e v0 G):=Nf.ref _ h Tryz.func17
def s31 (q:Bool) (e:Ex) (v0 v1:Value) (G:GS):OG:=(av:NS Q e 31 false [] Tryz.f31 [v0,v1] G).y
theorem f31 (h:EL ae e) (v0 v1:Value) (G:GS):RF ae 31 [v0,v1] G (s31 true e v0 v1 G):=Nf.ref _ h Tryz.func31
def s37 (q:Bool) (e:Ex) (v0:Value) (G:GS):OG:=(av:NS Q e 37 false [] Tryz.f37 [v0] G).y
theorem f37 (h:EL ae e) (v0:Value) (G:GS):RF ae 37 [v0] G (s37 true e v0 G):=Nf.ref _ h Tryz.func37
def s40 (q:Bool) (e:Ex) (v0:Value) (G:GS):OG:=(av:NS Q e 40 false [] Tryz.f40 [v0] G).y
theorem f40 (h:EL ae e) (v0:Value) (G:GS):RF ae 40 [v0] G (s40 true e v0 G):=Nf.ref _ h Tryz.func40
def s43 (q:Bool) (e:Ex) (v0:Value) (G:GS):OG:=(av:NS Q e 43 false [] Tryz.f43 [v0] G).y
theorem f43 (h:EL ae e) (v0:Value) (G:GS):RF ae 43 [v0] G (s43 true e v0 G):=Nf.ref _ h Tryz.func43
def s46 (q:Bool) (e:Ex) (v0 v1:Value) (G:GS):OG:=(av:NS Q e 46 false [] Tryz.f46 [v0,v1] G).y
theorem f46 (h:EL ae e) (v0 v1:Value) (G:GS):RF ae 46 [v0,v1] G (s46 true e v0 v1 G):=Nf.ref _ h Tryz.func46
def s49 (q:Bool) (e:Ex) (v0 v1:Value) (G:GS):OG:=(av:NS Q e 49 false [] Tryz.f49 [v0,v1] G).y
theorem f49 (h:EL ae e) (v0 v1:Value) (G:GS):RF ae 49 [v0,v1] G (s49 true e v0 v1 G):=Nf.ref _ h Tryz.func49
def Bu (q:Bool) (e:Ex) (lp:bU) (τ:Env) (G:GS):OL:=(av:NL Q e 69 30 false [0,1,5,8,9,10] Tryz.f69 0 lp τ G).y
theorem PT (h:EL ae e):LT ae 30 (dw Tryz.f69 0) (Bu true e):=fun lp bJ T G hT=>NL.ref _ h Tryz.func69 hT bJ
def s69 (q:Bool) (e:Ex) (v0 v1:Value) (G:GS):OG:=(av:NS Q e 69 true [5] Tryz.f69 [v0,v1] G).y
theorem f69 (h:EL ae e) (v0 v1:Value) (G:GS):RF ae 69 [v0,v1] G (s69 true e v0 v1 G):=Nf.ref _ h Tryz.func69
def s75 (q:Bool) (e:Ex) (v0 v1:Value) (G:GS):OG:=(av:NS Q e 75 false [] Tryz.f75 [v0,v1] G).y
theorem f75 (h:EL ae e) (v0 v1:Value) (G:GS):RF ae 75 [v0,v1] G (s75 true e v0 v1 G):=Nf.ref _ h Tryz.func75
def s78 (q:Bool) (e:Ex) (v0:Value) (G:GS):OG:=(av:NS Q e 78 false [] Tryz.f78 [v0] G).y
theorem f78 (h:EL ae e) (v0:Value) (G:GS):RF ae 78 [v0] G (s78 true e v0 G):=Nf.ref _ h Tryz.func78
def s81 (q:Bool) (e:Ex) (v0:Value) (G:GS):OG:=(av:NS Q e 81 false [] Tryz.f81 [v0] G).y
theorem f81 (h:EL ae e) (v0:Value) (G:GS):RF ae 81 [v0] G (s81 true e v0 G):=Nf.ref _ h Tryz.func81
def s84 (q:Bool) (e:Ex) (v0:Value) (G:GS):OG:=(av:NS Q e 84 false [] Tryz.f84 [v0] G).y
theorem f84 (h:EL ae e) (v0:Value) (G:GS):RF ae 84 [v0] G (s84 true e v0 G):=Nf.ref _ h Tryz.func84
def s87 (q:Bool) (e:Ex) (v0:Value) (G:GS):OG:=(av:NS Q e 87 false [] Tryz.f87 [v0] G).y
theorem f87 (h:EL ae e) (v0:Value) (G:GS):RF ae 87 [v0] G (s87 true e v0 G):=Nf.ref _ h Tryz.func87
def s90 (q:Bool) (e:Ex) (v0:Value) (G:GS):OG:=(av:NS Q e 90 false [] Tryz.f90 [v0] G).y
theorem f90 (h:EL ae e) (v0:Value) (G:GS):RF ae 90 [v0] G (s90 true e v0 G):=Nf.ref _ h Tryz.func90
def s103 (q:Bool) (e:Ex) (v0:Value) (G:GS):OG:=(av:NS Q e 103 false [] Tryz.f103 [v0] G).y
theorem f103 (h:EL ae e) (v0:Value) (G:GS):RF ae 103 [v0] G (s103 true e v0 G):=Nf.ref _ h Tryz.func103
def s109 (q:Bool) (e:Ex) (v0:Value) (G:GS):OG:=(av:NS Q e 109 false [] Tryz.f109 [v0] G).y
theorem f109 (h:EL ae e) (v0:Value) (G:GS):RF ae 109 [v0] G (s109 true e v0 G):=Nf.ref _ h Tryz.func109
def s112 (q:Bool) (e:Ex) (v0 v1:Value) (G:GS):OG:=(av:NS Q e 112 false [] Tryz.f112 [v0,v1] G).y
theorem f112 (h:EL ae e) (v0 v1:Value) (G:GS):RF ae 112 [v0,v1] G (s112 true e v0 v1 G):=Nf.ref _ h Tryz.func112
def s115 (q:Bool) (e:Ex) (v0:Value) (G:GS):OG:=(av:NS Q e 115 false [] Tryz.f115 [v0] G).y
theorem f115 (h:EL ae e) (v0:Value) (G:GS):RF ae 115 [v0] G (s115 true e v0 G):=Nf.ref _ h Tryz.func115
def s119 (q:Bool) (e:Ex) (v0:Value) (G:GS):OG:=(av:NS Q e 119 false [] Tryz.f119 [v0] G).y
theorem f119 (h:EL ae e) (v0:Value) (G:GS):RF ae 119 [v0] G (s119 true e v0 G):=Nf.ref _ h Tryz.func119
def s125 (q:Bool) (e:Ex) (v0 v1:Value) (G:GS):OG:=(av:NS Q e 125 false [] Tryz.f125 [v0,v1] G).y
theorem f125 (h:EL ae e) (v0 v1:Value) (G:GS):RF ae 125 [v0,v1] G (s125 true e v0 v1 G):=Nf.ref _ h Tryz.func125
def s141 (q:Bool) (e:Ex) (v0:Value) (G:GS):OG:=(av:NS Q e 141 false [] Tryz.f141 [v0] G).y
theorem f141 (h:EL ae e) (v0:Value) (G:GS):RF ae 141 [v0] G (s141 true e v0 G):=Nf.ref _ h Tryz.func141
def s145 (q:Bool) (e:Ex) (v0:Value) (G:GS):OG:=(av:NS Q e 145 false [] Tryz.f145 [v0] G).y
theorem f145 (h:EL ae e) (v0:Value) (G:GS):RF ae 145 [v0] G (s145 true e v0 G):=Nf.ref _ h Tryz.func145
def s148 (q:Bool) (e:Ex) (v0 v1:Value) (G:GS):OG:=(av:NS Q e 148 false [] Tryz.f148 [v0,v1] G).y
theorem f148 (h:EL ae e) (v0 v1:Value) (G:GS):RF ae 148 [v0,v1] G (s148 true e v0 v1 G):=Nf.ref _ h Tryz.func148
def s151 (q:Bool) (e:Ex) (v0 v1:Value) (G:GS):OG:=(av:NS Q e 151 false [] Tryz.f151 [v0,v1] G).y
theorem f151 (h:EL ae e) (v0 v1:Value) (G:GS):RF ae 151 [v0,v1] G (s151 true e v0 v1 G):=Nf.ref _ h Tryz.func151
def s154 (q:Bool) (e:Ex) (v0 v1:Value) (G:GS):OG:=(av:NS Q e 154 false [] Tryz.f154 [v0,v1] G).y
theorem f154 (h:EL ae e) (v0 v1:Value) (G:GS):RF ae 154 [v0,v1] G (s154 true e v0 v1 G):=Nf.ref _ h Tryz.func154
def s157 (q:Bool) (e:Ex) (v0:Value) (G:GS):OG:=(av:NS Q e 157 false [] Tryz.f157 [v0] G).y
theorem f157 (h:EL ae e) (v0:Value) (G:GS):RF ae 157 [v0] G (s157 true e v0 G):=Nf.ref _ h Tryz.func157
def s160 (q:Bool) (e:Ex) (v0 v1:Value) (G:GS):OG:=(av:NS Q e 160 false [] Tryz.f160 [v0,v1] G).y
theorem f160 (h:EL ae e) (v0 v1:Value) (G:GS):RF ae 160 [v0,v1] G (s160 true e v0 v1 G):=Nf.ref _ h Tryz.func160
def s172 (q:Bool) (e:Ex) (v0:Value) (G:GS):OG:=(av:NS Q e 172 false [] Tryz.f172 [v0] G).y
theorem f172 (h:EL ae e) (v0:Value) (G:GS):RF ae 172 [v0] G (s172 true e v0 G):=Nf.ref _ h Tryz.func172
def s175 (q:Bool) (e:Ex) (v0:Value) (G:GS):OG:=(av:NS Q e 175 false [] Tryz.f175 [v0] G).y
theorem f175 (h:EL ae e) (v0:Value) (G:GS):RF ae 175 [v0] G (s175 true e v0 G):=Nf.ref _ h Tryz.func175
def s178 (q:Bool) (e:Ex) (v0:Value) (G:GS):OG:=(av:NS Q e 178 false [] Tryz.f178 [v0] G).y
theorem f178 (h:EL ae e) (v0:Value) (G:GS):RF ae 178 [v0] G (s178 true e v0 G):=Nf.ref _ h Tryz.func178
def s182 (q:Bool) (e:Ex) (v0 v1 v2 v3:Value) (G:GS):OG:=(av:NS Q e 182 false [] Tryz.f182 [v0,v1,v2,v3] G).y
theorem f182 (h:EL ae e) (v0 v1 v2 v3:Value) (G:GS):RF ae 182 [v0,v1,v2,v3] G (s182 true e v0 v1 v2 v3 G):=Nf.ref _ h Tryz.func182
def s185 (q:Bool) (e:Ex) (v0 v1 v2:Value) (G:GS):OG:=(av:NS Q e 185 false [] Tryz.f185 [v0,v1,v2] G).y
theorem f185 (h:EL ae e) (v0 v1 v2:Value) (G:GS):RF ae 185 [v0,v1,v2] G (s185 true e v0 v1 v2 G):=Nf.ref _ h Tryz.func185
def D1 (q:Bool) (e:Ex) (lp:bU) (τ:Env) (G:GS):OL:=(av:NL Q e 190 24 false [5,6,7] Tryz.f190 0 lp τ G).y
theorem IF (h:EL ae e):LT ae 24 (dw Tryz.f190 0) (D1 true e):=fun lp bJ T G hT=>NL.ref _ h Tryz.func190 hT bJ
def s190 (q:Bool) (e:Ex) (v0:Value) (G:GS):OG:=(av:NS Q e 190 true [2] Tryz.f190 [v0] G).y
theorem f190 (h:EL ae e) (v0:Value) (G:GS):RF ae 190 [v0] G (s190 true e v0 G):=Nf.ref _ h Tryz.func190
def s193 (q:Bool) (e:Ex) (v0 v1:Value) (G:GS):OG:=(av:NS Q e 193 false [] Tryz.f193 [v0,v1] G).y
theorem f193 (h:EL ae e) (v0 v1:Value) (G:GS):RF ae 193 [v0,v1] G (s193 true e v0 v1 G):=Nf.ref _ h Tryz.func193
def s196 (q:Bool) (e:Ex) (v0:Value) (G:GS):OG:=(av:NS Q e 196 false [] Tryz.f196 [v0] G).y
theorem f196 (h:EL ae e) (v0:Value) (G:GS):RF ae 196 [v0] G (s196 true e v0 G):=Nf.ref _ h Tryz.func196
def s199 (q:Bool) (e:Ex) (v0 v1 v2 v3:Value) (G:GS):OG:=(av:NS Q e 199 false [] Tryz.f199 [v0,v1,v2,v3] G).y
theorem f199 (h:EL ae e) (v0 v1 v2 v3:Value) (G:GS):RF ae 199 [v0,v1,v2,v3] G (s199 true e v0 v1 v2 v3 G):=Nf.ref _ h Tryz.func199
def s202 (q:Bool) (e:Ex) (v0 v1 v2:Value) (G:GS):OG:=(av:NS Q e 202 false [] Tryz.f202 [v0,v1,v2] G).y
theorem f202 (h:EL ae e) (v0 v1 v2:Value) (G:GS):RF ae 202 [v0,v1,v2] G (s202 true e v0 v1 v2 G):=Nf.ref _ h Tryz.func202
def s205 (q:Bool) (e:Ex) (v0 v1 v2:Value) (G:GS):OG:=(av:NS Q e 205 false [] Tryz.f205 [v0,v1,v2] G).y
theorem f205 (h:EL ae e) (v0 v1 v2:Value) (G:GS):RF ae 205 [v0,v1,v2] G (s205 true e v0 v1 v2 G):=Nf.ref _ h Tryz.func205
def s208 (q:Bool) (e:Ex) (v0 v1 v2:Value) (G:GS):OG:=(av:NS Q e 208 false [] Tryz.f208 [v0,v1,v2] G).y
theorem f208 (h:EL ae e) (v0 v1 v2:Value) (G:GS):RF ae 208 [v0,v1,v2] G (s208 true e v0 v1 v2 G):=Nf.ref _ h Tryz.func208
def s211 (q:Bool) (e:Ex) (G:GS):OG:=(av:NS Q e 211 false [] Tryz.f211 [] G).y
theorem f211 (h:EL ae e) (ho:ae 211=false) (G:GS):RF ae 211 [] G (s211 true e G):=Nf.ref _ h Tryz.func211
def s214 (q:Bool) (e:Ex) (v0 v1:Value) (G:GS):OG:=(av:NS Q e 214 false [] Tryz.f214 [v0,v1] G).y
theorem f214 (h:EL ae e) (v0 v1:Value) (G:GS):RF ae 214 [v0,v1] G (s214 true e v0 v1 G):=Nf.ref _ h Tryz.func214
def s217 (q:Bool) (e:Ex) (v0 v1:Value) (G:GS):OG:=(av:NS Q e 217 false [] Tryz.f217 [v0,v1] G).y
theorem f217 (h:EL ae e) (v0 v1:Value) (G:GS):RF ae 217 [v0,v1] G (s217 true e v0 v1 G):=Nf.ref _ h Tryz.func217
def s220 (q:Bool) (e:Ex) (v0 v1:Value) (G:GS):OG:=(av:NS Q e 220 false [] Tryz.f220 [v0,v1] G).y
theorem f220 (h:EL ae e) (v0 v1:Value) (G:GS):RF ae 220 [v0,v1] G (s220 true e v0 v1 G):=Nf.ref _ h Tryz.func220
def s224 (q:Bool) (e:Ex) (v0 v1 v2 v3:Value) (G:GS):OG:=(av:NS Q e 224 false [] Tryz.f224 [v0,v1,v2,v3] G).y
theorem f224 (h:EL ae e) (v0 v1 v2 v3:Value) (G:GS):RF ae 224 [v0,v1,v2,v3] G (s224 true e v0 v1 v2 v3 G):=Nf.ref _ h Tryz.func224
def s227 (q:Bool) (e:Ex) (v0 v1:Value) (G:GS):OG:=(av:NS Q e 227 false [] Tryz.f227 [v0,v1] G).y
theorem f227 (h:EL ae e) (v0 v1:Value) (G:GS):RF ae 227 [v0,v1] G (s227 true e v0 v1 G):=Nf.ref _ h Tryz.func227
def s231 (q:Bool) (e:Ex) (v0:Value) (G:GS):OG:=(av:NS Q e 231 false [] Tryz.f231 [v0] G).y
theorem f231 (h:EL ae e) (v0:Value) (G:GS):RF ae 231 [v0] G (s231 true e v0 G):=Nf.ref _ h Tryz.func231
def s234 (q:Bool) (e:Ex) (v0 v1:Value) (G:GS):OG:=(av:NS Q e 234 false [] Tryz.f234 [v0,v1] G).y
theorem f234 (h:EL ae e) (v0 v1:Value) (G:GS):RF ae 234 [v0,v1] G (s234 true e v0 v1 G):=Nf.ref _ h Tryz.func234
def s237 (q:Bool) (e:Ex) (v0 v1:Value) (G:GS):OG:=(av:NS Q e 237 false [] Tryz.f237 [v0,v1] G).y
theorem f237 (h:EL ae e) (v0 v1:Value) (G:GS):RF ae 237 [v0,v1] G (s237 true e v0 v1 G):=Nf.ref _ h Tryz.func237
def s240 (q:Bool) (e:Ex) (v0 v1:Value) (G:GS):OG:=(av:NS Q e 240 false [] Tryz.f240 [v0,v1] G).y
theorem f240 (h:EL ae e) (v0 v1:Value) (G:GS):RF ae 240 [v0,v1] G (s240 true e v0 v1 G):=Nf.ref _ h Tryz.func240
def s243 (q:Bool) (e:Ex) (v0 v1:Value) (G:GS):OG:=(av:NS Q e 243 false [] Tryz.f243 [v0,v1] G).y
theorem f243 (h:EL ae e) (v0 v1:Value) (G:GS):RF ae 243 [v0,v1] G (s243 true e v0 v1 G):=Nf.ref _ h Tryz.func243
def s246 (q:Bool) (e:Ex) (v0 v1:Value) (G:GS):OG:=(av:NS Q e 246 false [] Tryz.f246 [v0,v1] G).y
theorem f246 (h:EL ae e) (v0 v1:Value) (G:GS):RF ae 246 [v0,v1] G (s246 true e v0 v1 G):=Nf.ref _ h Tryz.func246
def s267 (q:Bool) (e:Ex) (v0 v1:Value) (G:GS):OG:=(av:NS Q e 267 false [0] Tryz.f267 [v0,v1] G).y
theorem f267 (h:EL ae e) (v0 v1:Value) (G:GS):RF ae 267 [v0,v1] G (s267 true e v0 v1 G):=Nf.ref _ h Tryz.func267
def s270 (q:Bool) (e:Ex) (v0 v1 v2:Value) (G:GS):OG:=(av:NS Q e 270 false [] Tryz.f270 [v0,v1,v2] G).y
theorem f270 (h:EL ae e) (v0 v1 v2:Value) (G:GS):RF ae 270 [v0,v1,v2] G (s270 true e v0 v1 v2 G):=Nf.ref _ h Tryz.func270
def s273 (q:Bool) (e:Ex) (v0 v1:Value) (G:GS):OG:=(av:NS Q e 273 false [] Tryz.f273 [v0,v1] G).y
theorem f273 (h:EL ae e) (v0 v1:Value) (G:GS):RF ae 273 [v0,v1] G (s273 true e v0 v1 G):=Nf.ref _ h Tryz.func273
def s277 (q:Bool) (e:Ex) (v0:Value) (G:GS):OG:=(av:NS Q e 277 false [] Tryz.f277 [v0] G).y
theorem f277 (h:EL ae e) (v0:Value) (G:GS):RF ae 277 [v0] G (s277 true e v0 G):=Nf.ref _ h Tryz.func277
def s280 (q:Bool) (e:Ex) (v0 v1 v2:Value) (G:GS):OG:=(av:NS Q e 280 false [] Tryz.f280 [v0,v1,v2] G).y
theorem f280 (h:EL ae e) (v0 v1 v2:Value) (G:GS):RF ae 280 [v0,v1,v2] G (s280 true e v0 v1 v2 G):=Nf.ref _ h Tryz.func280
def s285 (q:Bool) (e:Ex) (v0 v1:Value) (G:GS):OG:=(av:NS Q e 285 false [] Tryz.f285 [v0,v1] G).y
theorem f285 (h:EL ae e) (v0 v1:Value) (G:GS):RF ae 285 [v0,v1] G (s285 true e v0 v1 G):=Nf.ref _ h Tryz.func285
def s288 (q:Bool) (e:Ex) (v0:Value) (G:GS):OG:=(av:NS Q e 288 false [] Tryz.f288 [v0] G).y
theorem f288 (h:EL ae e) (v0:Value) (G:GS):RF ae 288 [v0] G (s288 true e v0 G):=Nf.ref _ h Tryz.func288
def s291 (q:Bool) (e:Ex) (v0 v1:Value) (G:GS):OG:=(av:NS Q e 291 false [0] Tryz.f291 [v0,v1] G).y
theorem f291 (h:EL ae e) (v0 v1:Value) (G:GS):RF ae 291 [v0,v1] G (s291 true e v0 v1 G):=Nf.ref _ h Tryz.func291
def s294 (q:Bool) (e:Ex) (v0 v1:Value) (G:GS):OG:=(av:NS Q e 294 false [] Tryz.f294 [v0,v1] G).y
theorem f294 (h:EL ae e) (v0 v1:Value) (G:GS):RF ae 294 [v0,v1] G (s294 true e v0 v1 G):=Nf.ref _ h Tryz.func294
def s297 (q:Bool) (e:Ex) (v0 v1:Value) (G:GS):OG:=(av:NS Q e 297 false [0,1,6,7] Tryz.f297 [v0,v1] G).y
theorem f297 (h:EL ae e) (v0 v1:Value) (G:GS):RF ae 297 [v0,v1] G (s297 true e v0 v1 G):=Nf.ref _ h Tryz.func297
def s302 (q:Bool) (e:Ex) (v0:Value) (G:GS):OG:=(av:NS Q e 302 false [] Tryz.f302 [v0] G).y
theorem f302 (h:EL ae e) (v0:Value) (G:GS):RF ae 302 [v0] G (s302 true e v0 G):=Nf.ref _ h Tryz.func302
def IG (q:Bool) (e:Ex) (lp:bU) (τ:Env) (G:GS):OL:=(av:NL Q e 305 36 false [0,1,12,13] Tryz.f305 0 lp τ G).y
theorem PU (h:EL ae e):LT ae 36 (dw Tryz.f305 0) (IG true e):=fun lp bJ T G hT=>NL.ref _ h Tryz.func305 hT bJ
def s305 (q:Bool) (e:Ex) (v0 v1:Value) (G:GS):OG:=(av:NS Q e 305 true [0] Tryz.f305 [v0,v1] G).y
theorem f305 (h:EL ae e) (v0 v1:Value) (G:GS):RF ae 305 [v0,v1] G (s305 true e v0 v1 G):=Nf.ref _ h Tryz.func305
def s308 (q:Bool) (e:Ex) (v0 v1:Value) (G:GS):OG:=(av:NS Q e 308 false [] Tryz.f308 [v0,v1] G).y
theorem f308 (h:EL ae e) (v0 v1:Value) (G:GS):RF ae 308 [v0,v1] G (s308 true e v0 v1 G):=Nf.ref _ h Tryz.func308
def s312 (q:Bool) (e:Ex) (v0 v1:Value) (G:GS):OG:=(av:NS Q e 312 false [] Tryz.f312 [v0,v1] G).y
theorem f312 (h:EL ae e) (v0 v1:Value) (G:GS):RF ae 312 [v0,v1] G (s312 true e v0 v1 G):=Nf.ref _ h Tryz.func312
def s315 (q:Bool) (e:Ex) (v0 v1:Value) (G:GS):OG:=(av:NS Q e 315 false [] Tryz.f315 [v0,v1] G).y
theorem f315 (h:EL ae e) (v0 v1:Value) (G:GS):RF ae 315 [v0,v1] G (s315 true e v0 v1 G):=Nf.ref _ h Tryz.func315
def s318 (q:Bool) (e:Ex) (v0 v1:Value) (G:GS):OG:=(av:NS Q e 318 false [] Tryz.f318 [v0,v1] G).y
theorem f318 (h:EL ae e) (v0 v1:Value) (G:GS):RF ae 318 [v0,v1] G (s318 true e v0 v1 G):=Nf.ref _ h Tryz.func318
def s322 (q:Bool) (e:Ex) (v0 v1:Value) (G:GS):OG:=(av:NS Q e 322 false [] Tryz.f322 [v0,v1] G).y
theorem f322 (h:EL ae e) (v0 v1:Value) (G:GS):RF ae 322 [v0,v1] G (s322 true e v0 v1 G):=Nf.ref _ h Tryz.func322
def s325 (q:Bool) (e:Ex) (v0:Value) (G:GS):OG:=(av:NS Q e 325 false [] Tryz.f325 [v0] G).y
theorem f325 (h:EL ae e) (v0:Value) (G:GS):RF ae 325 [v0] G (s325 true e v0 G):=Nf.ref _ h Tryz.func325
def s328 (q:Bool) (e:Ex) (v0:Value) (G:GS):OG:=(av:NS Q e 328 false [] Tryz.f328 [v0] G).y
theorem f328 (h:EL ae e) (v0:Value) (G:GS):RF ae 328 [v0] G (s328 true e v0 G):=Nf.ref _ h Tryz.func328
def s331 (q:Bool) (e:Ex) (v0:Value) (G:GS):OG:=(av:NS Q e 331 false [] Tryz.f331 [v0] G).y
theorem f331 (h:EL ae e) (v0:Value) (G:GS):RF ae 331 [v0] G (s331 true e v0 G):=Nf.ref _ h Tryz.func331
end
end Go.Proofs.YtphandknhnkhfaaGreat.Lift
