import Derived.Test.YtkhlabammcghbaaGreatRSa
namespace Go.Proofs.YtkhlabammcghbaaGreat.Lift
open Go Go.Proofs.YtkhlabammcghbaaGreat.Gh Go.Proofs
set_option linter.unusedVariables false
set_option linter.unusedSimpArgs false
set_option maxRecDepth 100000
attribute [local simp] Tryz.f11 Tryz.f23 Tryz.f29 Tryz.f34 Tryz.f38 Tryz.f46 Tryz.f49 Tryz.f52 Tryz.f55 Tryz.f59 Tryz.f62 Tryz.f65 Tryz.f68 Tryz.f72 Tryz.f77 Tryz.f80 Tryz.f86 Tryz.f89 Tryz.f93 Tryz.f96 Tryz.f100 Tryz.f107 Tryz.f111 Tryz.f114 Tryz.f118 Tryz.f121 Tryz.f124 Tryz.f128 Tryz.f131 Tryz.f135 Tryz.f138 Tryz.f141 Tryz.f144 Tryz.f147 Tryz.f150 Tryz.f153 Tryz.f156 Tryz.f159 Tryz.f162 Tryz.f185
noncomputable section
variable {ae:FuncId→Bool} {e:Ex}
def EM (q:Bool) (e:Ex) (lp:bF) (τ:Env) (G:GS):OL:=(aH:NL Q e 11 18 false [0,1,5] Tryz.f11 0 lp τ G).y
theorem Ri (h:EL ae e):LT ae 18 (cP Tryz.f11 0) (EM true e):=fun lp bw T G hT=>NL.ref _ h Tryz.func11 hT bw
def s11 (q:Bool) (e:Ex) (v0 v1:Value) (G:GS):OG:=(aH:NS Q e 11 true [4] Tryz.f11 [v0,v1] G).y
theorem f11 (h:EL ae e) (v0 v1:Value) (G:GS):RF ae 11 [v0,v1] G (s11 true e v0 v1 G):=Nf.ref _ h Tryz.func11
def s23 (q:Bool) (e:Ex) (v0:Value) (G:GS):OG:=(aH:NS Q e 23 false [] Tryz.f23 [v0] G).y
theorem f23 (h:EL ae e) (v0:Value) (G:GS):RF ae 23 [v0] G (s23 true e v0 G):=Nf.ref _ h Tryz.func23
def JJ (q:Bool) (e:Ex) (lp:bF) (τ:Env) (G:GS):OL:=(aH:NL Q e 29 24 false [1,2,13,14] Tryz.f29 0 lp τ G).y
theorem Rj (h:EL ae e):LT ae 24 (cP Tryz.f29 0) (JJ true e):=fun lp bw T G hT=>NL.ref _ h Tryz.func29 hT bw
def s29 (q:Bool) (e:Ex) (v0 v1:Value) (G:GS):OG:=(aH:NS Q e 29 true [] Tryz.f29 [v0,v1] G).y
theorem f29 (h:EL ae e) (v0 v1:Value) (G:GS):RF ae 29 [v0,v1] G (s29 true e v0 v1 G):=Nf.ref _ h Tryz.func29
def s34 (q:Bool) (e:Ex) (v0:Value) (G:GS):OG:=(aH:NS Q e 34 false [] Tryz.f34 [v0] G).y
theorem f34 (h:EL ae e) (v0:Value) (G:GS):RF ae 34 [v0] G (s34 true e v0 G):=Nf.ref _ h Tryz.func34
def s38 (q:Bool) (e:Ex) (v0 v1 v2:Value) (G:GS):OG:=(aH:NS Q e 38 false [] Tryz.f38 [v0,v1,v2] G).y
theorem f38 (h:EL ae e) (v0 v1 v2:Value) (G:GS):RF ae 38 [v0,v1,v2] G (s38 true e v0 v1 v2 G):=Nf.ref _ h Tryz.func38
def s46 (q:Bool) (e:Ex) (v0:Value) (G:GS):OG:=(aH:NS Q e 46 false [] Tryz.f46 [v0] G).y
theorem f46 (h:EL ae e) (v0:Value) (G:GS):RF ae 46 [v0] G (s46 true e v0 G):=Nf.ref _ h Tryz.func46
def s49 (q:Bool) (e:Ex) (v0 v1:Value) (G:GS):OG:=(aH:NS Q e 49 false [] Tryz.f49 [v0,v1] G).y
theorem f49 (h:EL ae e) (v0 v1:Value) (G:GS):RF ae 49 [v0,v1] G (s49 true e v0 v1 G):=Nf.ref _ h Tryz.func49
def s52 (q:Bool) (e:Ex) (v0:Value) (G:GS):OG:=(aH:NS Q e 52 false [] Tryz.f52 [v0] G).y
theorem f52 (h:EL ae e) (v0:Value) (G:GS):RF ae 52 [v0] G (s52 true e v0 G):=Nf.ref _ h Tryz.func52
def s55 (q:Bool) (e:Ex) (v0 v1:Value) (G:GS):OG:=(aH:NS Q e 55 false [] Tryz.f55 [v0,v1] G).y
theorem f55 (h:EL ae e) (v0 v1:Value) (G:GS):RF ae 55 [v0,v1] G (s55 true e v0 v1 G):=Nf.ref _ h Tryz.func55
def s59 (q:Bool) (e:Ex) (v0:Value) (G:GS):OG:=(aH:NS Q e 59 false [] Tryz.f59 [v0] G).y
theorem f59 (h:EL ae e) (v0:Value) (G:GS):RF ae 59 [v0] G (s59 true e v0 G):=Nf.ref _ h Tryz.func59
def s62 (q:Bool) (e:Ex) (v0 v1 v2:Value) (G:GS):OG:=(aH:NS Q e 62 false [] Tryz.f62 [v0,v1,v2] G).y
theorem f62 (h:EL ae e) (v0 v1 v2:Value) (G:GS):RF ae 62 [v0,v1,v2] G (s62 true e v0 v1 v2 G):=Nf.ref _ h Tryz.func62
def s65 (q:Bool) (e:Ex) (v0 v1 v2 v3:Value) (G:GS):OG:=(aH:NS Q e 65 false [] Tryz.f65 [v0,v1,v2,v3] G).y
theorem f65 (h:EL ae e) (v0 v1 v2 v3:Value) (G:GS):RF ae 65 [v0,v1,v2,v3] G (s65 true e v0 v1 v2 v3 G):=Nf.ref _ h Tryz.func65
def s68 (q:Bool) (e:Ex) (v0 v1 v2 v3 v4:Value) (G:GS):OG:=(aH:NS Q e 68 false [] Tryz.f68 [v0,v1,v2,v3,v4] G).y
theorem f68 (h:EL ae e) (v0 v1 v2 v3 v4:Value) (G:GS):RF ae 68 [v0,v1,v2,v3,v4] G (s68 true e v0 v1 v2 v3 v4 G):=Nf.ref _ h Tryz.func68
def s72 (q:Bool) (e:Ex) (v0 v1:Value) (G:GS):OG:=(aH:NS Q e 72 false [] Tryz.f72 [v0,v1] G).y
theorem f72 (h:EL ae e) (v0 v1:Value) (G:GS):RF ae 72 [v0,v1] G (s72 true e v0 v1 G):=Nf.ref _ h Tryz.func72
def s77 (q:Bool) (e:Ex) (v0:Value) (G:GS):OG:=(aH:NS Q e 77 false [] Tryz.f77 [v0] G).y
theorem f77 (h:EL ae e) (v0:Value) (G:GS):RF ae 77 [v0] G (s77 true e v0 G):=Nf.ref _ h Tryz.func77
def s80 (q:Bool) (e:Ex) (v0 v1 v2:Value) (G:GS):OG:=(aH:NS Q e 80 false [] Tryz.f80 [v0,v1,v2] G).y
theorem f80 (h:EL ae e) (v0 v1 v2:Value) (G:GS):RF ae 80 [v0,v1,v2] G (s80 true e v0 v1 v2 G):=Nf.ref _ h Tryz.func80
def s86 (q:Bool) (e:Ex) (v0:Value) (G:GS):OG:=(aH:NS Q e 86 false [] Tryz.f86 [v0] G).y
theorem f86 (h:EL ae e) (v0:Value) (G:GS):RF ae 86 [v0] G (s86 true e v0 G):=Nf.ref _ h Tryz.func86
def s89 (q:Bool) (e:Ex) (v0 v1:Value) (G:GS):OG:=(aH:NS Q e 89 false [] Tryz.f89 [v0,v1] G).y
theorem f89 (h:EL ae e) (v0 v1:Value) (G:GS):RF ae 89 [v0,v1] G (s89 true e v0 v1 G):=Nf.ref _ h Tryz.func89
def s93 (q:Bool) (e:Ex) (v0 v1 v2:Value) (G:GS):OG:=(aH:NS Q e 93 false [] Tryz.f93 [v0,v1,v2] G).y
theorem f93 (h:EL ae e) (v0 v1 v2:Value) (G:GS):RF ae 93 [v0,v1,v2] G (s93 true e v0 v1 v2 G):=Nf.ref _ h Tryz.func93
def JK (q:Bool) (e:Ex) (lp:bF) (τ:Env) (G:GS):OL:=(aH:NL Q e 96 29 false [1,2,18,19] Tryz.f96 0 lp τ G).y
theorem Rk (h:EL ae e):LT ae 29 (cP Tryz.f96 0) (JK true e):=fun lp bw T G hT=>NL.ref _ h Tryz.func96 hT bw
def s96 (q:Bool) (e:Ex) (v0 v1:Value) (G:GS):OG:=(aH:NS Q e 96 true [] Tryz.f96 [v0,v1] G).y
theorem f96 (h:EL ae e) (v0 v1:Value) (G:GS):RF ae 96 [v0,v1] G (s96 true e v0 v1 G):=Nf.ref _ h Tryz.func96
def s100 (q:Bool) (e:Ex) (v0 v1 v2 v3:Value) (G:GS):OG:=(aH:NS Q e 100 false [] Tryz.f100 [v0,v1,v2,v3] G).y
theorem f100 (h:EL ae e) (v0 v1 v2 v3:Value) (G:GS):RF ae 100 [v0,v1,v2,v3] G (s100 true e v0 v1 v2 v3 G):=Nf.ref _ h Tryz.func100
def s107 (q:Bool) (e:Ex) (G:GS):OG:=(aH:NS Q e 107 false [] Tryz.f107 [] G).y
theorem f107 (h:EL ae e) (ho:ae 107=false) (G:GS):RF ae 107 [] G (s107 true e G):=Nf.ref _ h Tryz.func107
def s111 (q:Bool) (e:Ex) (v0:Value) (G:GS):OG:=(aH:NS Q e 111 false [] Tryz.f111 [v0] G).y
theorem f111 (h:EL ae e) (v0:Value) (G:GS):RF ae 111 [v0] G (s111 true e v0 G):=Nf.ref _ h Tryz.func111
def s114 (q:Bool) (e:Ex) (v0 v1:Value) (G:GS):OG:=(aH:NS Q e 114 false [] Tryz.f114 [v0,v1] G).y
theorem f114 (h:EL ae e) (v0 v1:Value) (G:GS):RF ae 114 [v0,v1] G (s114 true e v0 v1 G):=Nf.ref _ h Tryz.func114
def s118 (q:Bool) (e:Ex) (v0:Value) (G:GS):OG:=(aH:NS Q e 118 false [] Tryz.f118 [v0] G).y
theorem f118 (h:EL ae e) (v0:Value) (G:GS):RF ae 118 [v0] G (s118 true e v0 G):=Nf.ref _ h Tryz.func118
def s121 (q:Bool) (e:Ex) (v0:Value) (G:GS):OG:=(aH:NS Q e 121 false [] Tryz.f121 [v0] G).y
theorem f121 (h:EL ae e) (v0:Value) (G:GS):RF ae 121 [v0] G (s121 true e v0 G):=Nf.ref _ h Tryz.func121
def s124 (q:Bool) (e:Ex) (v0 v1:Value) (G:GS):OG:=(aH:NS Q e 124 false [] Tryz.f124 [v0,v1] G).y
theorem f124 (h:EL ae e) (v0 v1:Value) (G:GS):RF ae 124 [v0,v1] G (s124 true e v0 v1 G):=Nf.ref _ h Tryz.func124
def s128 (q:Bool) (e:Ex) (v0 v1:Value) (G:GS):OG:=(aH:NS Q e 128 false [] Tryz.f128 [v0,v1] G).y
theorem f128 (h:EL ae e) (v0 v1:Value) (G:GS):RF ae 128 [v0,v1] G (s128 true e v0 v1 G):=Nf.ref _ h Tryz.func128
def s131 (q:Bool) (e:Ex) (v0 v1:Value) (G:GS):OG:=(aH:NS Q e 131 false [] Tryz.f131 [v0,v1] G).y
theorem f131 (h:EL ae e) (v0 v1:Value) (G:GS):RF ae 131 [v0,v1] G (s131 true e v0 v1 G):=Nf.ref _ h Tryz.func131
def s135 (q:Bool) (e:Ex) (v0 v1:Value) (G:GS):OG:=(aH:NS Q e 135 false [] Tryz.f135 [v0,v1] G).y
theorem f135 (h:EL ae e) (v0 v1:Value) (G:GS):RF ae 135 [v0,v1] G (s135 true e v0 v1 G):=Nf.ref _ h Tryz.func135
def s138 (q:Bool) (e:Ex) (v0 v1:Value) (G:GS):OG:=(aH:NS Q e 138 false [] Tryz.f138 [v0,v1] G).y
theorem f138 (h:EL ae e) (v0 v1:Value) (G:GS):RF ae 138 [v0,v1] G (s138 true e v0 v1 G):=Nf.ref _ h Tryz.func138
set_option maxHeartbeats 0 in
def JL (q:Bool) (e:Ex) (lp:bF) (τ:Env) (G:GS):OL:=(aH:NL Q e 141 18 false [0,1,5,6] Tryz.f141 0 lp τ G).y
theorem Rl (h:EL ae e):LT ae 18 (cP Tryz.f141 0) (JL true e):=fun lp bw T G hT=>NL.ref _ h Tryz.func141 hT bw
def s141 (q:Bool) (e:Ex) (v0 v1:Value) (G:GS):OG:=(aH:NS Q e 141 true [] Tryz.f141 [v0,v1] G).y
theorem f141 (h:EL ae e) (v0 v1:Value) (G:GS):RF ae 141 [v0,v1] G (s141 true e v0 v1 G):=Nf.ref _ h Tryz.func141
def s144 (q:Bool) (e:Ex) (v0 v1:Value) (G:GS):OG:=(aH:NS Q e 144 false [] Tryz.f144 [v0,v1] G).y
theorem f144 (h:EL ae e) (v0 v1:Value) (G:GS):RF ae 144 [v0,v1] G (s144 true e v0 v1 G):=Nf.ref _ h Tryz.func144
def s147 (q:Bool) (e:Ex) (v0:Value) (G:GS):OG:=(aH:NS Q e 147 false [] Tryz.f147 [v0] G).y
theorem f147 (h:EL ae e) (v0:Value) (G:GS):RF ae 147 [v0] G (s147 true e v0 G):=Nf.ref _ h Tryz.func147
def EN (q:Bool) (e:Ex) (lp:bF) (τ:Env) (G:GS):OL:=(aH:NL Q e 150 25 false [0,2,4,5] Tryz.f150 0 lp τ G).y
theorem Rn (h:EL ae e):LT ae 25 (cP Tryz.f150 0) (EN true e):=fun lp bw T G hT=>NL.ref _ h Tryz.func150 hT bw
def s150 (q:Bool) (e:Ex) (v0 v1 v2:Value) (G:GS):OG:=(aH:NS Q e 150 true [] Tryz.f150 [v0,v1,v2] G).y
theorem f150 (h:EL ae e) (v0 v1 v2:Value) (G:GS):RF ae 150 [v0,v1,v2] G (s150 true e v0 v1 v2 G):=Nf.ref _ h Tryz.func150
def s153 (q:Bool) (e:Ex) (v0 v1:Value) (G:GS):OG:=(aH:NS Q e 153 false [] Tryz.f153 [v0,v1] G).y
theorem f153 (h:EL ae e) (v0 v1:Value) (G:GS):RF ae 153 [v0,v1] G (s153 true e v0 v1 G):=Nf.ref _ h Tryz.func153
def s156 (q:Bool) (e:Ex) (v0:Value) (G:GS):OG:=(aH:NS Q e 156 false [] Tryz.f156 [v0] G).y
theorem f156 (h:EL ae e) (v0:Value) (G:GS):RF ae 156 [v0] G (s156 true e v0 G):=Nf.ref _ h Tryz.func156
def s159 (q:Bool) (e:Ex) (v0 v1:Value) (G:GS):OG:=(aH:NS Q e 159 false [] Tryz.f159 [v0,v1] G).y
theorem f159 (h:EL ae e) (v0 v1:Value) (G:GS):RF ae 159 [v0,v1] G (s159 true e v0 v1 G):=Nf.ref _ h Tryz.func159
def s162 (q:Bool) (e:Ex) (v0:Value) (G:GS):OG:=(aH:NS Q e 162 false [] Tryz.f162 [v0] G).y
theorem f162 (h:EL ae e) (v0:Value) (G:GS):RF ae 162 [v0] G (s162 true e v0 G):=Nf.ref _ h Tryz.func162
def s185 (q:Bool) (e:Ex) (v0:Value) (G:GS):OG:=(aH:NS Q e 185 false [] Tryz.f185 [v0] G).y
theorem f185 (h:EL ae e) (v0:Value) (G:GS):RF ae 185 [v0] G (s185 true e v0 G):=Nf.ref _ h Tryz.func185
end
end Go.Proofs.YtkhlabammcghbaaGreat.Lift
