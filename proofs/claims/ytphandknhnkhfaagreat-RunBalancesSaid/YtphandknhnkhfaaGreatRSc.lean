import Derived.Test.YtphandknhnkhfaaGreatRSa
namespace Go.Proofs.YtphandknhnkhfaaGreat.Lift
open Go Go.Proofs.YtphandknhnkhfaaGreat.Gh Go.Proofs
set_option linter.unusedVariables false
set_option linter.unusedSimpArgs false
set_option maxRecDepth 100000
attribute [local simp] Tryz.f6 Tryz.f9 Tryz.f13 Tryz.f16 Tryz.f19 Tryz.f36 Tryz.f39 Tryz.f42 Tryz.f45 Tryz.f48 Tryz.f61 Tryz.f73 Tryz.f77 Tryz.f80 Tryz.f83 Tryz.f86 Tryz.f89 Tryz.f101 Tryz.f108 Tryz.f111 Tryz.f114 Tryz.f118 Tryz.f121 Tryz.f140 Tryz.f144 Tryz.f147 Tryz.f150 Tryz.f153 Tryz.f156 Tryz.f159 Tryz.f166 Tryz.f174 Tryz.f177 Tryz.f181 Tryz.f184 Tryz.f188 Tryz.f192 Tryz.f195 Tryz.f198 Tryz.f201 Tryz.f204 Tryz.f207 Tryz.f210 Tryz.f213 Tryz.f216 Tryz.f219 Tryz.f222 Tryz.f226 Tryz.f229 Tryz.f233 Tryz.f236 Tryz.f239 Tryz.f242 Tryz.f245 Tryz.f266 Tryz.f269 Tryz.f272 Tryz.f276 Tryz.f279 Tryz.f284 Tryz.f287 Tryz.f290 Tryz.f293 Tryz.f296 Tryz.f301 Tryz.f304 Tryz.f307 Tryz.f310 Tryz.f314 Tryz.f317 Tryz.f321 Tryz.f324 Tryz.f327 Tryz.f330
noncomputable section
variable {ae:FuncId→Bool} {e:Ex}
def s6 (q:Bool) (e:Ex) (v0 v1:Value) (G:GS):OG:=(av:NS Q e 6 false [] Tryz.f6 [v0,v1] G).y
theorem f6 (h:EL ae e) (v0 v1:Value) (G:GS):RF ae 6 [v0,v1] G (s6 true e v0 v1 G):=Nf.ref _ h Tryz.func6
def Iw (q:Bool) (e:Ex) (lp:bU) (τ:Env) (G:GS):OL:=(av:NL Q e 9 24 false [1,2,13,14] Tryz.f9 0 lp τ G).y
theorem PK (h:EL ae e):LT ae 24 (dw Tryz.f9 0) (Iw true e):=fun lp bJ T G hT=>NL.ref _ h Tryz.func9 hT bJ
def s9 (q:Bool) (e:Ex) (v0 v1:Value) (G:GS):OG:=(av:NS Q e 9 true [] Tryz.f9 [v0,v1] G).y
theorem f9 (h:EL ae e) (v0 v1:Value) (G:GS):RF ae 9 [v0,v1] G (s9 true e v0 v1 G):=Nf.ref _ h Tryz.func9
def Ix (q:Bool) (e:Ex) (lp:bU) (τ:Env) (G:GS):OL:=(av:NL Q e 13 42 false [3,29,30,31] Tryz.f13 0 lp τ G).y
theorem PL (h:EL ae e):LT ae 42 (dw Tryz.f13 0) (Ix true e):=fun lp bJ T G hT=>NL.ref _ h Tryz.func13 hT bJ
def s13 (q:Bool) (e:Ex) (v0:Value) (G:GS):OG:=(av:NS Q e 13 true [3] Tryz.f13 [v0] G).y
theorem f13 (h:EL ae e) (v0:Value) (G:GS):RF ae 13 [v0] G (s13 true e v0 G):=Nf.ref _ h Tryz.func13
def Iy (q:Bool) (e:Ex) (lp:bU) (τ:Env) (G:GS):OL:=(av:NL Q e 16 18 false [0,3,4] Tryz.f16 0 lp τ G).y
theorem PN (h:EL ae e):LT ae 18 (dw Tryz.f16 0) (Iy true e):=fun lp bJ T G hT=>NL.ref _ h Tryz.func16 hT bJ
def s16 (q:Bool) (e:Ex) (v0:Value) (G:GS):OG:=(av:NS Q e 16 true [3] Tryz.f16 [v0] G).y
theorem f16 (h:EL ae e) (v0:Value) (G:GS):RF ae 16 [v0] G (s16 true e v0 G):=Nf.ref _ h Tryz.func16
def Bt (q:Bool) (e:Ex) (lp:bU) (τ:Env) (G:GS):OL:=(av:NL Q e 19 31 false [0,1,5,6] Tryz.f19 0 lp τ G).y
theorem PO (h:EL ae e):LT ae 31 (dw Tryz.f19 0) (Bt true e):=fun lp bJ T G hT=>NL.ref _ h Tryz.func19 hT bJ
def s19 (q:Bool) (e:Ex) (v0 v1:Value) (G:GS):OG:=(av:NS Q e 19 true [5] Tryz.f19 [v0,v1] G).y
theorem f19 (h:EL ae e) (v0 v1:Value) (G:GS):RF ae 19 [v0,v1] G (s19 true e v0 v1 G):=Nf.ref _ h Tryz.func19
def Iz (q:Bool) (e:Ex) (lp:bU) (τ:Env) (G:GS):OL:=(av:NL Q e 36 23 false [1,2,13] Tryz.f36 0 lp τ G).y
theorem PQ (h:EL ae e):LT ae 23 (dw Tryz.f36 0) (Iz true e):=fun lp bJ T G hT=>NL.ref _ h Tryz.func36 hT bJ
def s36 (q:Bool) (e:Ex) (v0 v1:Value) (G:GS):OG:=(av:NS Q e 36 true [] Tryz.f36 [v0,v1] G).y
theorem f36 (h:EL ae e) (v0 v1:Value) (G:GS):RF ae 36 [v0,v1] G (s36 true e v0 v1 G):=Nf.ref _ h Tryz.func36
def s39 (q:Bool) (e:Ex) (v0 v1:Value) (G:GS):OG:=(av:NS Q e 39 false [] Tryz.f39 [v0,v1] G).y
theorem f39 (h:EL ae e) (v0 v1:Value) (G:GS):RF ae 39 [v0,v1] G (s39 true e v0 v1 G):=Nf.ref _ h Tryz.func39
def s42 (q:Bool) (e:Ex) (v0 v1 v2 v3 v4:Value) (G:GS):OG:=(av:NS Q e 42 false [0,10] Tryz.f42 [v0,v1,v2,v3,v4] G).y
theorem f42 (h:EL ae e) (v0 v1 v2 v3 v4:Value) (G:GS):RF ae 42 [v0,v1,v2,v3,v4] G (s42 true e v0 v1 v2 v3 v4 G):=Nf.ref _ h Tryz.func42
def s45 (q:Bool) (e:Ex) (v0:Value) (G:GS):OG:=(av:NS Q e 45 false [] Tryz.f45 [v0] G).y
theorem f45 (h:EL ae e) (v0:Value) (G:GS):RF ae 45 [v0] G (s45 true e v0 G):=Nf.ref _ h Tryz.func45
def s48 (q:Bool) (e:Ex) (v0:Value) (G:GS):OG:=(av:NS Q e 48 false [] Tryz.f48 [v0] G).y
theorem f48 (h:EL ae e) (v0:Value) (G:GS):RF ae 48 [v0] G (s48 true e v0 G):=Nf.ref _ h Tryz.func48
def s61 (q:Bool) (e:Ex) (v0 v1:Value) (G:GS):OG:=(av:NS Q e 61 false [] Tryz.f61 [v0,v1] G).y
theorem f61 (h:EL ae e) (v0 v1:Value) (G:GS):RF ae 61 [v0,v1] G (s61 true e v0 v1 G):=Nf.ref _ h Tryz.func61
def IA (q:Bool) (e:Ex) (lp:bU) (τ:Env) (G:GS):OL:=(av:NL Q e 73 29 false [1,2,18,19] Tryz.f73 0 lp τ G).y
theorem PR (h:EL ae e):LT ae 29 (dw Tryz.f73 0) (IA true e):=fun lp bJ T G hT=>NL.ref _ h Tryz.func73 hT bJ
def s73 (q:Bool) (e:Ex) (v0 v1:Value) (G:GS):OG:=(av:NS Q e 73 true [] Tryz.f73 [v0,v1] G).y
theorem f73 (h:EL ae e) (v0 v1:Value) (G:GS):RF ae 73 [v0,v1] G (s73 true e v0 v1 G):=Nf.ref _ h Tryz.func73
def s77 (q:Bool) (e:Ex) (v0:Value) (G:GS):OG:=(av:NS Q e 77 false [] Tryz.f77 [v0] G).y
theorem f77 (h:EL ae e) (v0:Value) (G:GS):RF ae 77 [v0] G (s77 true e v0 G):=Nf.ref _ h Tryz.func77
def s80 (q:Bool) (e:Ex) (v0:Value) (G:GS):OG:=(av:NS Q e 80 false [] Tryz.f80 [v0] G).y
theorem f80 (h:EL ae e) (v0:Value) (G:GS):RF ae 80 [v0] G (s80 true e v0 G):=Nf.ref _ h Tryz.func80
def s83 (q:Bool) (e:Ex) (v0:Value) (G:GS):OG:=(av:NS Q e 83 false [] Tryz.f83 [v0] G).y
theorem f83 (h:EL ae e) (v0:Value) (G:GS):RF ae 83 [v0] G (s83 true e v0 G):=Nf.ref _ h Tryz.func83
def s86 (q:Bool) (e:Ex) (v0:Value) (G:GS):OG:=(av:NS Q e 86 false [] Tryz.f86 [v0] G).y
theorem f86 (h:EL ae e) (v0:Value) (G:GS):RF ae 86 [v0] G (s86 true e v0 G):=Nf.ref _ h Tryz.func86
def s89 (q:Bool) (e:Ex) (v0:Value) (G:GS):OG:=(av:NS Q e 89 false [] Tryz.f89 [v0] G).y
theorem f89 (h:EL ae e) (v0:Value) (G:GS):RF ae 89 [v0] G (s89 true e v0 G):=Nf.ref _ h Tryz.func89
def s101 (q:Bool) (e:Ex) (v0 v1 v2:Value) (G:GS):OG:=(av:NS Q e 101 false [] Tryz.f101 [v0,v1,v2] G).y
theorem f101 (h:EL ae e) (v0 v1 v2:Value) (G:GS):RF ae 101 [v0,v1,v2] G (s101 true e v0 v1 v2 G):=Nf.ref _ h Tryz.func101
def s108 (q:Bool) (e:Ex) (v0:Value) (G:GS):OG:=(av:NS Q e 108 false [] Tryz.f108 [v0] G).y
theorem f108 (h:EL ae e) (v0:Value) (G:GS):RF ae 108 [v0] G (s108 true e v0 G):=Nf.ref _ h Tryz.func108
def s111 (q:Bool) (e:Ex) (v0:Value) (G:GS):OG:=(av:NS Q e 111 false [] Tryz.f111 [v0] G).y
theorem f111 (h:EL ae e) (v0:Value) (G:GS):RF ae 111 [v0] G (s111 true e v0 G):=Nf.ref _ h Tryz.func111
def s114 (q:Bool) (e:Ex) (v0:Value) (G:GS):OG:=(av:NS Q e 114 false [] Tryz.f114 [v0] G).y
theorem f114 (h:EL ae e) (v0:Value) (G:GS):RF ae 114 [v0] G (s114 true e v0 G):=Nf.ref _ h Tryz.func114
def s118 (q:Bool) (e:Ex) (v0:Value) (G:GS):OG:=(av:NS Q e 118 false [] Tryz.f118 [v0] G).y
theorem f118 (h:EL ae e) (v0:Value) (G:GS):RF ae 118 [v0] G (s118 true e v0 G):=Nf.ref _ h Tryz.func118
def s121 (q:Bool) (e:Ex) (v0 v1:Value) (G:GS):OG:=(av:NS Q e 121 false [] Tryz.f121 [v0,v1] G).y
theorem f121 (h:EL ae e) (v0 v1:Value) (G:GS):RF ae 121 [v0,v1] G (s121 true e v0 v1 G):=Nf.ref _ h Tryz.func121
def s140 (q:Bool) (e:Ex) (v0:Value) (G:GS):OG:=(av:NS Q e 140 false [] Tryz.f140 [v0] G).y
theorem f140 (h:EL ae e) (v0:Value) (G:GS):RF ae 140 [v0] G (s140 true e v0 G):=Nf.ref _ h Tryz.func140
def s144 (q:Bool) (e:Ex) (v0 v1 v2:Value) (G:GS):OG:=(av:NS Q e 144 false [] Tryz.f144 [v0,v1,v2] G).y
theorem f144 (h:EL ae e) (v0 v1 v2:Value) (G:GS):RF ae 144 [v0,v1,v2] G (s144 true e v0 v1 v2 G):=Nf.ref _ h Tryz.func144
def s147 (q:Bool) (e:Ex) (v0 v1:Value) (G:GS):OG:=(av:NS Q e 147 false [] Tryz.f147 [v0,v1] G).y
theorem f147 (h:EL ae e) (v0 v1:Value) (G:GS):RF ae 147 [v0,v1] G (s147 true e v0 v1 G):=Nf.ref _ h Tryz.func147
def s150 (q:Bool) (e:Ex) (v0 v1:Value) (G:GS):OG:=(av:NS Q e 150 false [] Tryz.f150 [v0,v1] G).y
theorem f150 (h:EL ae e) (v0 v1:Value) (G:GS):RF ae 150 [v0,v1] G (s150 true e v0 v1 G):=Nf.ref _ h Tryz.func150
def s153 (q:Bool) (e:Ex) (v0:Value) (G:GS):OG:=(av:NS Q e 153 false [] Tryz.f153 [v0] G).y
theorem f153 (h:EL ae e) (v0:Value) (G:GS):RF ae 153 [v0] G (s153 true e v0 G):=Nf.ref _ h Tryz.func153
def s156 (q:Bool) (e:Ex) (v0:Value) (G:GS):OG:=(av:NS Q e 156 false [] Tryz.f156 [v0] G).y
theorem f156 (h:EL ae e) (v0:Value) (G:GS):RF ae 156 [v0] G (s156 true e v0 G):=Nf.ref _ h Tryz.func156
def s159 (q:Bool) (e:Ex) (v0 v1:Value) (G:GS):OG:=(av:NS Q e 159 false [] Tryz.f159 [v0,v1] G).y
theorem f159 (h:EL ae e) (v0 v1:Value) (G:GS):RF ae 159 [v0,v1] G (s159 true e v0 v1 G):=Nf.ref _ h Tryz.func159
def s166 (q:Bool) (e:Ex) (v0:Value) (G:GS):OG:=(av:NS Q e 166 false [] Tryz.f166 [v0] G).y
theorem f166 (h:EL ae e) (v0:Value) (G:GS):RF ae 166 [v0] G (s166 true e v0 G):=Nf.ref _ h Tryz.func166
def s174 (q:Bool) (e:Ex) (v0 v1:Value) (G:GS):OG:=(av:NS Q e 174 false [] Tryz.f174 [v0,v1] G).y
theorem f174 (h:EL ae e) (v0 v1:Value) (G:GS):RF ae 174 [v0,v1] G (s174 true e v0 v1 G):=Nf.ref _ h Tryz.func174
def s177 (q:Bool) (e:Ex) (v0 v1:Value) (G:GS):OG:=(av:NS Q e 177 false [0] Tryz.f177 [v0,v1] G).y
theorem f177 (h:EL ae e) (v0 v1:Value) (G:GS):RF ae 177 [v0,v1] G (s177 true e v0 v1 G):=Nf.ref _ h Tryz.func177
def s181 (q:Bool) (e:Ex) (v0:Value) (G:GS):OG:=(av:NS Q e 181 false [] Tryz.f181 [v0] G).y
theorem f181 (h:EL ae e) (v0:Value) (G:GS):RF ae 181 [v0] G (s181 true e v0 G):=Nf.ref _ h Tryz.func181
def s184 (q:Bool) (e:Ex) (v0:Value) (G:GS):OG:=(av:NS Q e 184 false [] Tryz.f184 [v0] G).y
theorem f184 (h:EL ae e) (v0:Value) (G:GS):RF ae 184 [v0] G (s184 true e v0 G):=Nf.ref _ h Tryz.func184
def s188 (q:Bool) (e:Ex) (v0 v1:Value) (G:GS):OG:=(av:NS Q e 188 false [] Tryz.f188 [v0,v1] G).y
theorem f188 (h:EL ae e) (v0 v1:Value) (G:GS):RF ae 188 [v0,v1] G (s188 true e v0 v1 G):=Nf.ref _ h Tryz.func188
def s192 (q:Bool) (e:Ex) (v0 v1:Value) (G:GS):OG:=(av:NS Q e 192 false [] Tryz.f192 [v0,v1] G).y
theorem f192 (h:EL ae e) (v0 v1:Value) (G:GS):RF ae 192 [v0,v1] G (s192 true e v0 v1 G):=Nf.ref _ h Tryz.func192
def s195 (q:Bool) (e:Ex) (v0:Value) (G:GS):OG:=(av:NS Q e 195 false [] Tryz.f195 [v0] G).y
theorem f195 (h:EL ae e) (v0:Value) (G:GS):RF ae 195 [v0] G (s195 true e v0 G):=Nf.ref _ h Tryz.func195
def s198 (q:Bool) (e:Ex) (v0:Value) (G:GS):OG:=(av:NS Q e 198 false [] Tryz.f198 [v0] G).y
theorem f198 (h:EL ae e) (v0:Value) (G:GS):RF ae 198 [v0] G (s198 true e v0 G):=Nf.ref _ h Tryz.func198
def s201 (q:Bool) (e:Ex) (v0 v1 v2 v3 v4:Value) (G:GS):OG:=(av:NS Q e 201 false [] Tryz.f201 [v0,v1,v2,v3,v4] G).y
theorem f201 (h:EL ae e) (v0 v1 v2 v3 v4:Value) (G:GS):RF ae 201 [v0,v1,v2,v3,v4] G (s201 true e v0 v1 v2 v3 v4 G):=Nf.ref _ h Tryz.func201
def s204 (q:Bool) (e:Ex) (v0 v1:Value) (G:GS):OG:=(av:NS Q e 204 false [] Tryz.f204 [v0,v1] G).y
theorem f204 (h:EL ae e) (v0 v1:Value) (G:GS):RF ae 204 [v0,v1] G (s204 true e v0 v1 G):=Nf.ref _ h Tryz.func204
def s207 (q:Bool) (e:Ex) (v0 v1:Value) (G:GS):OG:=(av:NS Q e 207 false [] Tryz.f207 [v0,v1] G).y
theorem f207 (h:EL ae e) (v0 v1:Value) (G:GS):RF ae 207 [v0,v1] G (s207 true e v0 v1 G):=Nf.ref _ h Tryz.func207
def s210 (q:Bool) (e:Ex) (v0:Value) (G:GS):OG:=(av:NS Q e 210 false [] Tryz.f210 [v0] G).y
theorem f210 (h:EL ae e) (v0:Value) (G:GS):RF ae 210 [v0] G (s210 true e v0 G):=Nf.ref _ h Tryz.func210
def s213 (q:Bool) (e:Ex) (v0 v1:Value) (G:GS):OG:=(av:NS Q e 213 false [] Tryz.f213 [v0,v1] G).y
theorem f213 (h:EL ae e) (v0 v1:Value) (G:GS):RF ae 213 [v0,v1] G (s213 true e v0 v1 G):=Nf.ref _ h Tryz.func213
def s216 (q:Bool) (e:Ex) (v0 v1:Value) (G:GS):OG:=(av:NS Q e 216 false [] Tryz.f216 [v0,v1] G).y
theorem f216 (h:EL ae e) (v0 v1:Value) (G:GS):RF ae 216 [v0,v1] G (s216 true e v0 v1 G):=Nf.ref _ h Tryz.func216
def s219 (q:Bool) (e:Ex) (v0:Value) (G:GS):OG:=(av:NS Q e 219 false [] Tryz.f219 [v0] G).y
theorem f219 (h:EL ae e) (v0:Value) (G:GS):RF ae 219 [v0] G (s219 true e v0 G):=Nf.ref _ h Tryz.func219
def s222 (q:Bool) (e:Ex) (v0:Value) (G:GS):OG:=(av:NS Q e 222 false [] Tryz.f222 [v0] G).y
theorem f222 (h:EL ae e) (v0:Value) (G:GS):RF ae 222 [v0] G (s222 true e v0 G):=Nf.ref _ h Tryz.func222
def s226 (q:Bool) (e:Ex) (v0 v1:Value) (G:GS):OG:=(av:NS Q e 226 false [] Tryz.f226 [v0,v1] G).y
theorem f226 (h:EL ae e) (v0 v1:Value) (G:GS):RF ae 226 [v0,v1] G (s226 true e v0 v1 G):=Nf.ref _ h Tryz.func226
def s229 (q:Bool) (e:Ex) (v0 v1:Value) (G:GS):OG:=(av:NS Q e 229 false [] Tryz.f229 [v0,v1] G).y
theorem f229 (h:EL ae e) (v0 v1:Value) (G:GS):RF ae 229 [v0,v1] G (s229 true e v0 v1 G):=Nf.ref _ h Tryz.func229
def s233 (q:Bool) (e:Ex) (v0 v1:Value) (G:GS):OG:=(av:NS Q e 233 false [] Tryz.f233 [v0,v1] G).y
theorem f233 (h:EL ae e) (v0 v1:Value) (G:GS):RF ae 233 [v0,v1] G (s233 true e v0 v1 G):=Nf.ref _ h Tryz.func233
def s236 (q:Bool) (e:Ex) (v0 v1:Value) (G:GS):OG:=(av:NS Q e 236 false [] Tryz.f236 [v0,v1] G).y
theorem f236 (h:EL ae e) (v0 v1:Value) (G:GS):RF ae 236 [v0,v1] G (s236 true e v0 v1 G):=Nf.ref _ h Tryz.func236
def s239 (q:Bool) (e:Ex) (v0 v1:Value) (G:GS):OG:=(av:NS Q e 239 false [] Tryz.f239 [v0,v1] G).y
theorem f239 (h:EL ae e) (v0 v1:Value) (G:GS):RF ae 239 [v0,v1] G (s239 true e v0 v1 G):=Nf.ref _ h Tryz.func239
def s242 (q:Bool) (e:Ex) (v0 v1:Value) (G:GS):OG:=(av:NS Q e 242 false [] Tryz.f242 [v0,v1] G).y
theorem f242 (h:EL ae e) (v0 v1:Value) (G:GS):RF ae 242 [v0,v1] G (s242 true e v0 v1 G):=Nf.ref _ h Tryz.func242
def s245 (q:Bool) (e:Ex) (v0 v1:Value) (G:GS):OG:=(av:NS Q e 245 false [] Tryz.f245 [v0,v1] G).y
theorem f245 (h:EL ae e) (v0 v1:Value) (G:GS):RF ae 245 [v0,v1] G (s245 true e v0 v1 G):=Nf.ref _ h Tryz.func245
def s266 (q:Bool) (e:Ex) (v0 v1:Value) (G:GS):OG:=(av:NS Q e 266 false [0,1,6,7] Tryz.f266 [v0,v1] G).y
theorem f266 (h:EL ae e) (v0 v1:Value) (G:GS):RF ae 266 [v0,v1] G (s266 true e v0 v1 G):=Nf.ref _ h Tryz.func266
def s269 (q:Bool) (e:Ex) (v0 v1:Value) (G:GS):OG:=(av:NS Q e 269 false [] Tryz.f269 [v0,v1] G).y
theorem f269 (h:EL ae e) (v0 v1:Value) (G:GS):RF ae 269 [v0,v1] G (s269 true e v0 v1 G):=Nf.ref _ h Tryz.func269
def s272 (q:Bool) (e:Ex) (v0:Value) (G:GS):OG:=(av:NS Q e 272 false [] Tryz.f272 [v0] G).y
theorem f272 (h:EL ae e) (v0:Value) (G:GS):RF ae 272 [v0] G (s272 true e v0 G):=Nf.ref _ h Tryz.func272
def s276 (q:Bool) (e:Ex) (v0:Value) (G:GS):OG:=(av:NS Q e 276 false [] Tryz.f276 [v0] G).y
theorem f276 (h:EL ae e) (v0:Value) (G:GS):RF ae 276 [v0] G (s276 true e v0 G):=Nf.ref _ h Tryz.func276
def s279 (q:Bool) (e:Ex) (v0 v1:Value) (G:GS):OG:=(av:NS Q e 279 false [] Tryz.f279 [v0,v1] G).y
theorem f279 (h:EL ae e) (v0 v1:Value) (G:GS):RF ae 279 [v0,v1] G (s279 true e v0 v1 G):=Nf.ref _ h Tryz.func279
def s284 (q:Bool) (e:Ex) (v0:Value) (G:GS):OG:=(av:NS Q e 284 false [] Tryz.f284 [v0] G).y
theorem f284 (h:EL ae e) (v0:Value) (G:GS):RF ae 284 [v0] G (s284 true e v0 G):=Nf.ref _ h Tryz.func284
def s287 (q:Bool) (e:Ex) (v0 v1:Value) (G:GS):OG:=(av:NS Q e 287 false [] Tryz.f287 [v0,v1] G).y
theorem f287 (h:EL ae e) (v0 v1:Value) (G:GS):RF ae 287 [v0,v1] G (s287 true e v0 v1 G):=Nf.ref _ h Tryz.func287
def s290 (q:Bool) (e:Ex) (v0 v1:Value) (G:GS):OG:=(av:NS Q e 290 false [] Tryz.f290 [v0,v1] G).y
theorem f290 (h:EL ae e) (v0 v1:Value) (G:GS):RF ae 290 [v0,v1] G (s290 true e v0 v1 G):=Nf.ref _ h Tryz.func290
def s293 (q:Bool) (e:Ex) (v0 v1:Value) (G:GS):OG:=(av:NS Q e 293 false [0,1,6,7] Tryz.f293 [v0,v1] G).y
theorem f293 (h:EL ae e) (v0 v1:Value) (G:GS):RF ae 293 [v0,v1] G (s293 true e v0 v1 G):=Nf.ref _ h Tryz.func293
def s296 (q:Bool) (e:Ex) (v0 v1:Value) (G:GS):OG:=(av:NS Q e 296 false [] Tryz.f296 [v0,v1] G).y
theorem f296 (h:EL ae e) (v0 v1:Value) (G:GS):RF ae 296 [v0,v1] G (s296 true e v0 v1 G):=Nf.ref _ h Tryz.func296
def s301 (q:Bool) (e:Ex) (v0:Value) (G:GS):OG:=(av:NS Q e 301 false [] Tryz.f301 [v0] G).y
theorem f301 (h:EL ae e) (v0:Value) (G:GS):RF ae 301 [v0] G (s301 true e v0 G):=Nf.ref _ h Tryz.func301
def s304 (q:Bool) (e:Ex) (v0 v1:Value) (G:GS):OG:=(av:NS Q e 304 false [0,1,6,7] Tryz.f304 [v0,v1] G).y
theorem f304 (h:EL ae e) (v0 v1:Value) (G:GS):RF ae 304 [v0,v1] G (s304 true e v0 v1 G):=Nf.ref _ h Tryz.func304
def s307 (q:Bool) (e:Ex) (v0 v1:Value) (G:GS):OG:=(av:NS Q e 307 false [0,1,6,7] Tryz.f307 [v0,v1] G).y
theorem f307 (h:EL ae e) (v0 v1:Value) (G:GS):RF ae 307 [v0,v1] G (s307 true e v0 v1 G):=Nf.ref _ h Tryz.func307
def s310 (q:Bool) (e:Ex) (v0 v1:Value) (G:GS):OG:=(av:NS Q e 310 false [] Tryz.f310 [v0,v1] G).y
theorem f310 (h:EL ae e) (v0 v1:Value) (G:GS):RF ae 310 [v0,v1] G (s310 true e v0 v1 G):=Nf.ref _ h Tryz.func310
def s314 (q:Bool) (e:Ex) (v0 v1:Value) (G:GS):OG:=(av:NS Q e 314 false [] Tryz.f314 [v0,v1] G).y
theorem f314 (h:EL ae e) (v0 v1:Value) (G:GS):RF ae 314 [v0,v1] G (s314 true e v0 v1 G):=Nf.ref _ h Tryz.func314
def s317 (q:Bool) (e:Ex) (v0 v1:Value) (G:GS):OG:=(av:NS Q e 317 false [] Tryz.f317 [v0,v1] G).y
theorem f317 (h:EL ae e) (v0 v1:Value) (G:GS):RF ae 317 [v0,v1] G (s317 true e v0 v1 G):=Nf.ref _ h Tryz.func317
def s321 (q:Bool) (e:Ex) (v0 v1:Value) (G:GS):OG:=(av:NS Q e 321 false [] Tryz.f321 [v0,v1] G).y
theorem f321 (h:EL ae e) (v0 v1:Value) (G:GS):RF ae 321 [v0,v1] G (s321 true e v0 v1 G):=Nf.ref _ h Tryz.func321
def s324 (q:Bool) (e:Ex) (v0 v1:Value) (G:GS):OG:=(av:NS Q e 324 false [] Tryz.f324 [v0,v1] G).y
theorem f324 (h:EL ae e) (v0 v1:Value) (G:GS):RF ae 324 [v0,v1] G (s324 true e v0 v1 G):=Nf.ref _ h Tryz.func324
def s327 (q:Bool) (e:Ex) (v0 v1 v2 v3 v4:Value) (G:GS):OG:=(av:NS Q e 327 false [] Tryz.f327 [v0,v1,v2,v3,v4] G).y
theorem f327 (h:EL ae e) (v0 v1 v2 v3 v4:Value) (G:GS):RF ae 327 [v0,v1,v2,v3,v4] G (s327 true e v0 v1 v2 v3 v4 G):=Nf.ref _ h Tryz.func327
def IC (q:Bool) (e:Ex) (lp:bU) (τ:Env) (G:GS):OL:=(av:NL Q e 330 20 false [3,7,8,9] Tryz.f330 0 lp τ G).y
theorem PS (h:EL ae e):LT ae 20 (dw Tryz.f330 0) (IC true e):=fun lp bJ T G hT=>NL.ref _ h Tryz.func330 hT bJ
def s330 (q:Bool) (e:Ex) (v0:Value) (G:GS):OG:=(av:NS Q e 330 true [3] Tryz.f330 [v0] G).y
theorem f330 (h:EL ae e) (v0:Value) (G:GS):RF ae 330 [v0] G (s330 true e v0 G):=Nf.ref _ h Tryz.func330
end
end Go.Proofs.YtphandknhnkhfaaGreat.Lift
