import Derived.Test.YtphandknhnkhfaaGreatRSa
namespace Go.Proofs.YtphandknhnkhfaaGreat.Lift
open Go Go.Proofs.YtphandknhnkhfaaGreat.Gh Go.Proofs
set_option linter.unusedVariables false
set_option linter.unusedSimpArgs false
set_option maxRecDepth 100000
attribute [local simp] Tryz.f5 Tryz.f8 Tryz.f12 Tryz.f15 Tryz.f18 Tryz.f35 Tryz.f38 Tryz.f41 Tryz.f44 Tryz.f47 Tryz.f59 Tryz.f70 Tryz.f76 Tryz.f79 Tryz.f82 Tryz.f85 Tryz.f88 Tryz.f99 Tryz.f106 Tryz.f110 Tryz.f113 Tryz.f116 Tryz.f120 Tryz.f129 Tryz.f143 Tryz.f146 Tryz.f149 Tryz.f152 Tryz.f155 Tryz.f158 Tryz.f165 Tryz.f173 Tryz.f176 Tryz.f180 Tryz.f183 Tryz.f187 Tryz.f191 Tryz.f194 Tryz.f197 Tryz.f200 Tryz.f203 Tryz.f206 Tryz.f209 Tryz.f212 Tryz.f215 Tryz.f218 Tryz.f221 Tryz.f225 Tryz.f228 Tryz.f232 Tryz.f235 Tryz.f238 Tryz.f241 Tryz.f244 Tryz.f247 Tryz.f268 Tryz.f271 Tryz.f274 Tryz.f278 Tryz.f281 Tryz.f286 Tryz.f289 Tryz.f292 Tryz.f295 Tryz.f299 Tryz.f303 Tryz.f306 Tryz.f309 Tryz.f313 Tryz.f316 Tryz.f319 Tryz.f323 Tryz.f326 Tryz.f329 Tryz.f332
noncomputable section
variable {ae:FuncId→Bool} {e:Ex}
def s5 (q:Bool) (e:Ex) (G:GS):OG:=(av:NS Q e 5 false [] Tryz.f5 [] G).y
theorem f5 (h:EL ae e) (ho:ae 5=false) (G:GS):RF ae 5 [] G (s5 true e G):=Nf.ref _ h Tryz.func5
def s8 (q:Bool) (e:Ex) (v0:Value) (G:GS):OG:=(av:NS Q e 8 false [] Tryz.f8 [v0] G).y
theorem f8 (h:EL ae e) (v0:Value) (G:GS):RF ae 8 [v0] G (s8 true e v0 G):=Nf.ref _ h Tryz.func8
def s12 (q:Bool) (e:Ex) (v0 v1 v2:Value) (G:GS):OG:=(av:NS Q e 12 false [] Tryz.f12 [v0,v1,v2] G).y
theorem f12 (h:EL ae e) (v0 v1 v2:Value) (G:GS):RF ae 12 [v0,v1,v2] G (s12 true e v0 v1 v2 G):=Nf.ref _ h Tryz.func12
def s15 (q:Bool) (e:Ex) (v0 v1:Value) (G:GS):OG:=(av:NS Q e 15 false [0] Tryz.f15 [v0,v1] G).y
theorem f15 (h:EL ae e) (v0 v1:Value) (G:GS):RF ae 15 [v0,v1] G (s15 true e v0 v1 G):=Nf.ref _ h Tryz.func15
def s18 (q:Bool) (e:Ex) (v0:Value) (G:GS):OG:=(av:NS Q e 18 false [] Tryz.f18 [v0] G).y
theorem f18 (h:EL ae e) (v0:Value) (G:GS):RF ae 18 [v0] G (s18 true e v0 G):=Nf.ref _ h Tryz.func18
def s35 (q:Bool) (e:Ex) (v0:Value) (G:GS):OG:=(av:NS Q e 35 false [] Tryz.f35 [v0] G).y
theorem f35 (h:EL ae e) (v0:Value) (G:GS):RF ae 35 [v0] G (s35 true e v0 G):=Nf.ref _ h Tryz.func35
def s38 (q:Bool) (e:Ex) (v0 v1 v2 v3 v4:Value) (G:GS):OG:=(av:NS Q e 38 false [11] Tryz.f38 [v0,v1,v2,v3,v4] G).y
theorem f38 (h:EL ae e) (v0 v1 v2 v3 v4:Value) (G:GS):RF ae 38 [v0,v1,v2,v3,v4] G (s38 true e v0 v1 v2 v3 v4 G):=Nf.ref _ h Tryz.func38
def s41 (q:Bool) (e:Ex) (v0 v1:Value) (G:GS):OG:=(av:NS Q e 41 false [] Tryz.f41 [v0,v1] G).y
theorem f41 (h:EL ae e) (v0 v1:Value) (G:GS):RF ae 41 [v0,v1] G (s41 true e v0 v1 G):=Nf.ref _ h Tryz.func41
def s44 (q:Bool) (e:Ex) (v0 v1:Value) (G:GS):OG:=(av:NS Q e 44 false [] Tryz.f44 [v0,v1] G).y
theorem f44 (h:EL ae e) (v0 v1:Value) (G:GS):RF ae 44 [v0,v1] G (s44 true e v0 v1 G):=Nf.ref _ h Tryz.func44
def s47 (q:Bool) (e:Ex) (v0 v1:Value) (G:GS):OG:=(av:NS Q e 47 false [] Tryz.f47 [v0,v1] G).y
theorem f47 (h:EL ae e) (v0 v1:Value) (G:GS):RF ae 47 [v0,v1] G (s47 true e v0 v1 G):=Nf.ref _ h Tryz.func47
def s59 (q:Bool) (e:Ex) (v0 v1:Value) (G:GS):OG:=(av:NS Q e 59 false [] Tryz.f59 [v0,v1] G).y
theorem f59 (h:EL ae e) (v0 v1:Value) (G:GS):RF ae 59 [v0,v1] G (s59 true e v0 v1 G):=Nf.ref _ h Tryz.func59
def s70 (q:Bool) (e:Ex) (v0 v1:Value) (G:GS):OG:=(av:NS Q e 70 false [] Tryz.f70 [v0,v1] G).y
theorem f70 (h:EL ae e) (v0 v1:Value) (G:GS):RF ae 70 [v0,v1] G (s70 true e v0 v1 G):=Nf.ref _ h Tryz.func70
def s76 (q:Bool) (e:Ex) (v0 v1:Value) (G:GS):OG:=(av:NS Q e 76 false [] Tryz.f76 [v0,v1] G).y
theorem f76 (h:EL ae e) (v0 v1:Value) (G:GS):RF ae 76 [v0,v1] G (s76 true e v0 v1 G):=Nf.ref _ h Tryz.func76
def s79 (q:Bool) (e:Ex) (v0 v1:Value) (G:GS):OG:=(av:NS Q e 79 false [0] Tryz.f79 [v0,v1] G).y
theorem f79 (h:EL ae e) (v0 v1:Value) (G:GS):RF ae 79 [v0,v1] G (s79 true e v0 v1 G):=Nf.ref _ h Tryz.func79
def s82 (q:Bool) (e:Ex) (v0:Value) (G:GS):OG:=(av:NS Q e 82 false [] Tryz.f82 [v0] G).y
theorem f82 (h:EL ae e) (v0:Value) (G:GS):RF ae 82 [v0] G (s82 true e v0 G):=Nf.ref _ h Tryz.func82
def s85 (q:Bool) (e:Ex) (v0 v1:Value) (G:GS):OG:=(av:NS Q e 85 false [] Tryz.f85 [v0,v1] G).y
theorem f85 (h:EL ae e) (v0 v1:Value) (G:GS):RF ae 85 [v0,v1] G (s85 true e v0 v1 G):=Nf.ref _ h Tryz.func85
def s88 (q:Bool) (e:Ex) (v0 v1:Value) (G:GS):OG:=(av:NS Q e 88 false [] Tryz.f88 [v0,v1] G).y
theorem f88 (h:EL ae e) (v0 v1:Value) (G:GS):RF ae 88 [v0,v1] G (s88 true e v0 v1 G):=Nf.ref _ h Tryz.func88
def s99 (q:Bool) (e:Ex) (v0:Value) (G:GS):OG:=(av:NS Q e 99 false [] Tryz.f99 [v0] G).y
theorem f99 (h:EL ae e) (v0:Value) (G:GS):RF ae 99 [v0] G (s99 true e v0 G):=Nf.ref _ h Tryz.func99
def s106 (q:Bool) (e:Ex) (v0:Value) (G:GS):OG:=(av:NS Q e 106 false [] Tryz.f106 [v0] G).y
theorem f106 (h:EL ae e) (v0:Value) (G:GS):RF ae 106 [v0] G (s106 true e v0 G):=Nf.ref _ h Tryz.func106
def s110 (q:Bool) (e:Ex) (v0 v1 v2:Value) (G:GS):OG:=(av:NS Q e 110 false [] Tryz.f110 [v0,v1,v2] G).y
theorem f110 (h:EL ae e) (v0 v1 v2:Value) (G:GS):RF ae 110 [v0,v1,v2] G (s110 true e v0 v1 v2 G):=Nf.ref _ h Tryz.func110
def s113 (q:Bool) (e:Ex) (v0 v1:Value) (G:GS):OG:=(av:NS Q e 113 false [] Tryz.f113 [v0,v1] G).y
theorem f113 (h:EL ae e) (v0 v1:Value) (G:GS):RF ae 113 [v0,v1] G (s113 true e v0 v1 G):=Nf.ref _ h Tryz.func113
def s116 (q:Bool) (e:Ex) (v0:Value) (G:GS):OG:=(av:NS Q e 116 false [] Tryz.f116 [v0] G).y
theorem f116 (h:EL ae e) (v0:Value) (G:GS):RF ae 116 [v0] G (s116 true e v0 G):=Nf.ref _ h Tryz.func116
def s120 (q:Bool) (e:Ex) (v0:Value) (G:GS):OG:=(av:NS Q e 120 false [] Tryz.f120 [v0] G).y
theorem f120 (h:EL ae e) (v0:Value) (G:GS):RF ae 120 [v0] G (s120 true e v0 G):=Nf.ref _ h Tryz.func120
def s129 (q:Bool) (e:Ex) (v0 v1:Value) (G:GS):OG:=(av:NS Q e 129 false [] Tryz.f129 [v0,v1] G).y
theorem f129 (h:EL ae e) (v0 v1:Value) (G:GS):RF ae 129 [v0,v1] G (s129 true e v0 v1 G):=Nf.ref _ h Tryz.func129
def s143 (q:Bool) (e:Ex) (v0:Value) (G:GS):OG:=(av:NS Q e 143 false [] Tryz.f143 [v0] G).y
theorem f143 (h:EL ae e) (v0:Value) (G:GS):RF ae 143 [v0] G (s143 true e v0 G):=Nf.ref _ h Tryz.func143
def s146 (q:Bool) (e:Ex) (v0 v1 v2:Value) (G:GS):OG:=(av:NS Q e 146 false [] Tryz.f146 [v0,v1,v2] G).y
theorem f146 (h:EL ae e) (v0 v1 v2:Value) (G:GS):RF ae 146 [v0,v1,v2] G (s146 true e v0 v1 v2 G):=Nf.ref _ h Tryz.func146
def s149 (q:Bool) (e:Ex) (v0 v1:Value) (G:GS):OG:=(av:NS Q e 149 false [] Tryz.f149 [v0,v1] G).y
theorem f149 (h:EL ae e) (v0 v1:Value) (G:GS):RF ae 149 [v0,v1] G (s149 true e v0 v1 G):=Nf.ref _ h Tryz.func149
def s152 (q:Bool) (e:Ex) (v0:Value) (G:GS):OG:=(av:NS Q e 152 false [] Tryz.f152 [v0] G).y
theorem f152 (h:EL ae e) (v0:Value) (G:GS):RF ae 152 [v0] G (s152 true e v0 G):=Nf.ref _ h Tryz.func152
def s155 (q:Bool) (e:Ex) (v0:Value) (G:GS):OG:=(av:NS Q e 155 false [] Tryz.f155 [v0] G).y
theorem f155 (h:EL ae e) (v0:Value) (G:GS):RF ae 155 [v0] G (s155 true e v0 G):=Nf.ref _ h Tryz.func155
def s158 (q:Bool) (e:Ex) (v0:Value) (G:GS):OG:=(av:NS Q e 158 false [] Tryz.f158 [v0] G).y
theorem f158 (h:EL ae e) (v0:Value) (G:GS):RF ae 158 [v0] G (s158 true e v0 G):=Nf.ref _ h Tryz.func158
def s165 (q:Bool) (e:Ex) (v0 v1:Value) (G:GS):OG:=(av:NS Q e 165 false [] Tryz.f165 [v0,v1] G).y
theorem f165 (h:EL ae e) (v0 v1:Value) (G:GS):RF ae 165 [v0,v1] G (s165 true e v0 v1 G):=Nf.ref _ h Tryz.func165
def s173 (q:Bool) (e:Ex) (v0 v1:Value) (G:GS):OG:=(av:NS Q e 173 false [] Tryz.f173 [v0,v1] G).y
theorem f173 (h:EL ae e) (v0 v1:Value) (G:GS):RF ae 173 [v0,v1] G (s173 true e v0 v1 G):=Nf.ref _ h Tryz.func173
def s176 (q:Bool) (e:Ex) (v0 v1:Value) (G:GS):OG:=(av:NS Q e 176 false [] Tryz.f176 [v0,v1] G).y
theorem f176 (h:EL ae e) (v0 v1:Value) (G:GS):RF ae 176 [v0,v1] G (s176 true e v0 v1 G):=Nf.ref _ h Tryz.func176
def s180 (q:Bool) (e:Ex) (v0:Value) (G:GS):OG:=(av:NS Q e 180 false [] Tryz.f180 [v0] G).y
theorem f180 (h:EL ae e) (v0:Value) (G:GS):RF ae 180 [v0] G (s180 true e v0 G):=Nf.ref _ h Tryz.func180
def s183 (q:Bool) (e:Ex) (v0:Value) (G:GS):OG:=(av:NS Q e 183 false [] Tryz.f183 [v0] G).y
theorem f183 (h:EL ae e) (v0:Value) (G:GS):RF ae 183 [v0] G (s183 true e v0 G):=Nf.ref _ h Tryz.func183
def s187 (q:Bool) (e:Ex) (G:GS):OG:=(av:NS Q e 187 false [] Tryz.f187 [] G).y
theorem f187 (h:EL ae e) (ho:ae 187=false) (G:GS):RF ae 187 [] G (s187 true e G):=Nf.ref _ h Tryz.func187
def DZ (q:Bool) (e:Ex) (lp:bU) (τ:Env) (G:GS):OL:=(av:NL Q e 191 24 false [1,5,8,9,10] Tryz.f191 0 lp τ G).y
theorem Ir (h:EL ae e):LT ae 24 (dw Tryz.f191 0) (DZ true e):=fun lp bJ T G hT=>NL.ref _ h Tryz.func191 hT bJ
def s191 (q:Bool) (e:Ex) (v0 v1:Value) (G:GS):OG:=(av:NS Q e 191 true [5] Tryz.f191 [v0,v1] G).y
theorem f191 (h:EL ae e) (v0 v1:Value) (G:GS):RF ae 191 [v0,v1] G (s191 true e v0 v1 G):=Nf.ref _ h Tryz.func191
def s194 (q:Bool) (e:Ex) (v0 v1:Value) (G:GS):OG:=(av:NS Q e 194 false [] Tryz.f194 [v0,v1] G).y
theorem f194 (h:EL ae e) (v0 v1:Value) (G:GS):RF ae 194 [v0,v1] G (s194 true e v0 v1 G):=Nf.ref _ h Tryz.func194
def s197 (q:Bool) (e:Ex) (v0:Value) (G:GS):OG:=(av:NS Q e 197 false [] Tryz.f197 [v0] G).y
theorem f197 (h:EL ae e) (v0:Value) (G:GS):RF ae 197 [v0] G (s197 true e v0 G):=Nf.ref _ h Tryz.func197
def s200 (q:Bool) (e:Ex) (v0 v1 v2 v3:Value) (G:GS):OG:=(av:NS Q e 200 false [] Tryz.f200 [v0,v1,v2,v3] G).y
theorem f200 (h:EL ae e) (v0 v1 v2 v3:Value) (G:GS):RF ae 200 [v0,v1,v2,v3] G (s200 true e v0 v1 v2 v3 G):=Nf.ref _ h Tryz.func200
def s203 (q:Bool) (e:Ex) (v0:Value) (G:GS):OG:=(av:NS Q e 203 false [] Tryz.f203 [v0] G).y
theorem f203 (h:EL ae e) (v0:Value) (G:GS):RF ae 203 [v0] G (s203 true e v0 G):=Nf.ref _ h Tryz.func203
def s206 (q:Bool) (e:Ex) (v0:Value) (G:GS):OG:=(av:NS Q e 206 false [] Tryz.f206 [v0] G).y
theorem f206 (h:EL ae e) (v0:Value) (G:GS):RF ae 206 [v0] G (s206 true e v0 G):=Nf.ref _ h Tryz.func206
def s209 (q:Bool) (e:Ex) (v0 v1:Value) (G:GS):OG:=(av:NS Q e 209 false [] Tryz.f209 [v0,v1] G).y
theorem f209 (h:EL ae e) (v0 v1:Value) (G:GS):RF ae 209 [v0,v1] G (s209 true e v0 v1 G):=Nf.ref _ h Tryz.func209
def s212 (q:Bool) (e:Ex) (v0 v1:Value) (G:GS):OG:=(av:NS Q e 212 false [] Tryz.f212 [v0,v1] G).y
theorem f212 (h:EL ae e) (v0 v1:Value) (G:GS):RF ae 212 [v0,v1] G (s212 true e v0 v1 G):=Nf.ref _ h Tryz.func212
def s215 (q:Bool) (e:Ex) (v0 v1:Value) (G:GS):OG:=(av:NS Q e 215 false [] Tryz.f215 [v0,v1] G).y
theorem f215 (h:EL ae e) (v0 v1:Value) (G:GS):RF ae 215 [v0,v1] G (s215 true e v0 v1 G):=Nf.ref _ h Tryz.func215
def s218 (q:Bool) (e:Ex) (v0 v1:Value) (G:GS):OG:=(av:NS Q e 218 false [] Tryz.f218 [v0,v1] G).y
theorem f218 (h:EL ae e) (v0 v1:Value) (G:GS):RF ae 218 [v0,v1] G (s218 true e v0 v1 G):=Nf.ref _ h Tryz.func218
def s221 (q:Bool) (e:Ex) (v0 v1 v2:Value) (G:GS):OG:=(av:NS Q e 221 false [] Tryz.f221 [v0,v1,v2] G).y
theorem f221 (h:EL ae e) (v0 v1 v2:Value) (G:GS):RF ae 221 [v0,v1,v2] G (s221 true e v0 v1 v2 G):=Nf.ref _ h Tryz.func221
def s225 (q:Bool) (e:Ex) (v0 v1:Value) (G:GS):OG:=(av:NS Q e 225 false [] Tryz.f225 [v0,v1] G).y
theorem f225 (h:EL ae e) (v0 v1:Value) (G:GS):RF ae 225 [v0,v1] G (s225 true e v0 v1 G):=Nf.ref _ h Tryz.func225
def s228 (q:Bool) (e:Ex) (v0:Value) (G:GS):OG:=(av:NS Q e 228 false [] Tryz.f228 [v0] G).y
theorem f228 (h:EL ae e) (v0:Value) (G:GS):RF ae 228 [v0] G (s228 true e v0 G):=Nf.ref _ h Tryz.func228
def s232 (q:Bool) (e:Ex) (v0 v1:Value) (G:GS):OG:=(av:NS Q e 232 false [] Tryz.f232 [v0,v1] G).y
theorem f232 (h:EL ae e) (v0 v1:Value) (G:GS):RF ae 232 [v0,v1] G (s232 true e v0 v1 G):=Nf.ref _ h Tryz.func232
def s235 (q:Bool) (e:Ex) (v0 v1:Value) (G:GS):OG:=(av:NS Q e 235 false [] Tryz.f235 [v0,v1] G).y
theorem f235 (h:EL ae e) (v0 v1:Value) (G:GS):RF ae 235 [v0,v1] G (s235 true e v0 v1 G):=Nf.ref _ h Tryz.func235
def D0 (q:Bool) (e:Ex) (lp:bU) (τ:Env) (G:GS):OL:=(av:NL Q e 238 25 false [0,2,4,5] Tryz.f238 0 lp τ G).y
theorem PH (h:EL ae e):LT ae 25 (dw Tryz.f238 0) (D0 true e):=fun lp bJ T G hT=>NL.ref _ h Tryz.func238 hT bJ
def s238 (q:Bool) (e:Ex) (v0 v1 v2:Value) (G:GS):OG:=(av:NS Q e 238 true [] Tryz.f238 [v0,v1,v2] G).y
theorem f238 (h:EL ae e) (v0 v1 v2:Value) (G:GS):RF ae 238 [v0,v1,v2] G (s238 true e v0 v1 v2 G):=Nf.ref _ h Tryz.func238
def s241 (q:Bool) (e:Ex) (v0 v1:Value) (G:GS):OG:=(av:NS Q e 241 false [] Tryz.f241 [v0,v1] G).y
theorem f241 (h:EL ae e) (v0 v1:Value) (G:GS):RF ae 241 [v0,v1] G (s241 true e v0 v1 G):=Nf.ref _ h Tryz.func241
def s244 (q:Bool) (e:Ex) (v0 v1 v2:Value) (G:GS):OG:=(av:NS Q e 244 false [] Tryz.f244 [v0,v1,v2] G).y
theorem f244 (h:EL ae e) (v0 v1 v2:Value) (G:GS):RF ae 244 [v0,v1,v2] G (s244 true e v0 v1 v2 G):=Nf.ref _ h Tryz.func244
def s247 (q:Bool) (e:Ex) (v0:Value) (G:GS):OG:=(av:NS Q e 247 false [] Tryz.f247 [v0] G).y
theorem f247 (h:EL ae e) (v0:Value) (G:GS):RF ae 247 [v0] G (s247 true e v0 G):=Nf.ref _ h Tryz.func247
def s268 (q:Bool) (e:Ex) (v0:Value) (G:GS):OG:=(av:NS Q e 268 false [] Tryz.f268 [v0] G).y
theorem f268 (h:EL ae e) (v0:Value) (G:GS):RF ae 268 [v0] G (s268 true e v0 G):=Nf.ref _ h Tryz.func268
def s271 (q:Bool) (e:Ex) (v0 v1:Value) (G:GS):OG:=(av:NS Q e 271 false [] Tryz.f271 [v0,v1] G).y
theorem f271 (h:EL ae e) (v0 v1:Value) (G:GS):RF ae 271 [v0,v1] G (s271 true e v0 v1 G):=Nf.ref _ h Tryz.func271
def s274 (q:Bool) (e:Ex) (v0 v1:Value) (G:GS):OG:=(av:NS Q e 274 false [0,1,6,7] Tryz.f274 [v0,v1] G).y
theorem f274 (h:EL ae e) (v0 v1:Value) (G:GS):RF ae 274 [v0,v1] G (s274 true e v0 v1 G):=Nf.ref _ h Tryz.func274
def s278 (q:Bool) (e:Ex) (v0 v1:Value) (G:GS):OG:=(av:NS Q e 278 false [] Tryz.f278 [v0,v1] G).y
theorem f278 (h:EL ae e) (v0 v1:Value) (G:GS):RF ae 278 [v0,v1] G (s278 true e v0 v1 G):=Nf.ref _ h Tryz.func278
def s281 (q:Bool) (e:Ex) (v0 v1:Value) (G:GS):OG:=(av:NS Q e 281 false [] Tryz.f281 [v0,v1] G).y
theorem f281 (h:EL ae e) (v0 v1:Value) (G:GS):RF ae 281 [v0,v1] G (s281 true e v0 v1 G):=Nf.ref _ h Tryz.func281
def s286 (q:Bool) (e:Ex) (v0 v1:Value) (G:GS):OG:=(av:NS Q e 286 false [] Tryz.f286 [v0,v1] G).y
theorem f286 (h:EL ae e) (v0 v1:Value) (G:GS):RF ae 286 [v0,v1] G (s286 true e v0 v1 G):=Nf.ref _ h Tryz.func286
def s289 (q:Bool) (e:Ex) (v0:Value) (G:GS):OG:=(av:NS Q e 289 false [] Tryz.f289 [v0] G).y
theorem f289 (h:EL ae e) (v0:Value) (G:GS):RF ae 289 [v0] G (s289 true e v0 G):=Nf.ref _ h Tryz.func289
def s292 (q:Bool) (e:Ex) (v0 v1:Value) (G:GS):OG:=(av:NS Q e 292 false [] Tryz.f292 [v0,v1] G).y
theorem f292 (h:EL ae e) (v0 v1:Value) (G:GS):RF ae 292 [v0,v1] G (s292 true e v0 v1 G):=Nf.ref _ h Tryz.func292
def s295 (q:Bool) (e:Ex) (v0 v1:Value) (G:GS):OG:=(av:NS Q e 295 false [0,1,6,7] Tryz.f295 [v0,v1] G).y
theorem f295 (h:EL ae e) (v0 v1:Value) (G:GS):RF ae 295 [v0,v1] G (s295 true e v0 v1 G):=Nf.ref _ h Tryz.func295
def s299 (q:Bool) (e:Ex) (v0 v1:Value) (G:GS):OG:=(av:NS Q e 299 false [] Tryz.f299 [v0,v1] G).y
theorem f299 (h:EL ae e) (v0 v1:Value) (G:GS):RF ae 299 [v0,v1] G (s299 true e v0 v1 G):=Nf.ref _ h Tryz.func299
def s303 (q:Bool) (e:Ex) (v0 v1:Value) (G:GS):OG:=(av:NS Q e 303 false [] Tryz.f303 [v0,v1] G).y
theorem f303 (h:EL ae e) (v0 v1:Value) (G:GS):RF ae 303 [v0,v1] G (s303 true e v0 v1 G):=Nf.ref _ h Tryz.func303
def s306 (q:Bool) (e:Ex) (v0:Value) (G:GS):OG:=(av:NS Q e 306 false [] Tryz.f306 [v0] G).y
theorem f306 (h:EL ae e) (v0:Value) (G:GS):RF ae 306 [v0] G (s306 true e v0 G):=Nf.ref _ h Tryz.func306
def s309 (q:Bool) (e:Ex) (G:GS):OG:=(av:NS Q e 309 false [] Tryz.f309 [] G).y
theorem f309 (h:EL ae e) (ho:ae 309=false) (G:GS):RF ae 309 [] G (s309 true e G):=Nf.ref _ h Tryz.func309
def s313 (q:Bool) (e:Ex) (v0 v1:Value) (G:GS):OG:=(av:NS Q e 313 false [] Tryz.f313 [v0,v1] G).y
theorem f313 (h:EL ae e) (v0 v1:Value) (G:GS):RF ae 313 [v0,v1] G (s313 true e v0 v1 G):=Nf.ref _ h Tryz.func313
def s316 (q:Bool) (e:Ex) (v0 v1:Value) (G:GS):OG:=(av:NS Q e 316 false [] Tryz.f316 [v0,v1] G).y
theorem f316 (h:EL ae e) (v0 v1:Value) (G:GS):RF ae 316 [v0,v1] G (s316 true e v0 v1 G):=Nf.ref _ h Tryz.func316
def s319 (q:Bool) (e:Ex) (v0 v1:Value) (G:GS):OG:=(av:NS Q e 319 false [] Tryz.f319 [v0,v1] G).y
theorem f319 (h:EL ae e) (v0 v1:Value) (G:GS):RF ae 319 [v0,v1] G (s319 true e v0 v1 G):=Nf.ref _ h Tryz.func319
def Iu (q:Bool) (e:Ex) (lp:bU) (τ:Env) (G:GS):OL:=(av:NL Q e 323 20 false [3,7,8,9] Tryz.f323 0 lp τ G).y
theorem PI (h:EL ae e):LT ae 20 (dw Tryz.f323 0) (Iu true e):=fun lp bJ T G hT=>NL.ref _ h Tryz.func323 hT bJ
def s323 (q:Bool) (e:Ex) (v0:Value) (G:GS):OG:=(av:NS Q e 323 true [3] Tryz.f323 [v0] G).y
theorem f323 (h:EL ae e) (v0:Value) (G:GS):RF ae 323 [v0] G (s323 true e v0 G):=Nf.ref _ h Tryz.func323
def s326 (q:Bool) (e:Ex) (v0 v1 v2:Value) (G:GS):OG:=(av:NS Q e 326 false [] Tryz.f326 [v0,v1,v2] G).y
theorem f326 (h:EL ae e) (v0 v1 v2:Value) (G:GS):RF ae 326 [v0,v1,v2] G (s326 true e v0 v1 v2 G):=Nf.ref _ h Tryz.func326
def Iv (q:Bool) (e:Ex) (lp:bU) (τ:Env) (G:GS):OL:=(av:NL Q e 329 20 false [3,7,8,9] Tryz.f329 0 lp τ G).y
theorem PJ (h:EL ae e):LT ae 20 (dw Tryz.f329 0) (Iv true e):=fun lp bJ T G hT=>NL.ref _ h Tryz.func329 hT bJ
def s329 (q:Bool) (e:Ex) (v0:Value) (G:GS):OG:=(av:NS Q e 329 true [3] Tryz.f329 [v0] G).y
theorem f329 (h:EL ae e) (v0:Value) (G:GS):RF ae 329 [v0] G (s329 true e v0 G):=Nf.ref _ h Tryz.func329
def s332 (q:Bool) (e:Ex) (v0 v1:Value) (G:GS):OG:=(av:NS Q e 332 false [0,1,6,7] Tryz.f332 [v0,v1] G).y
theorem f332 (h:EL ae e) (v0 v1:Value) (G:GS):RF ae 332 [v0,v1] G (s332 true e v0 v1 G):=Nf.ref _ h Tryz.func332
end
end Go.Proofs.YtphandknhnkhfaaGreat.Lift
