/- the program's code, spelled out by a program of ours (lift2.lean) -/
import Derived.Test.YtgcceeillefbpaaGreatKClaimKnowna
namespace Go.Proofs.YtgcceeillefbpaaGreat.Lift
open Go Go.Proofs.YtgcceeillefbpaaGreat.Gh Go.Proofs
set_option linter.unusedVariables false
set_option maxRecDepth 100000
noncomputable def clT (orc : FuncId → Bool) (e : Ex) (f : FuncId) (vs : List Value) (G : GS) : Option (Value × GS) :=
  fork f 172 (
fork f 97 (
fork f 33 (
fork f 26 (
fork f 23 (
fork f 4 (
leaf f 4 (app0 (orc 4) (s4 true e) vs G)) (
fork f 17 (
leaf f 17 (app1 (s17 true e) vs G)) (
leaf f 23 (app0 (orc 23) (s23 true e) vs G)))) (
fork f 24 (
leaf f 24 (app4 (s24 true e) vs G)) (
fork f 25 (
leaf f 25 (app3 (s25 true e) vs G)) (
leaf f 26 (app4 (s26 true e) vs G))))) (
fork f 29 (
fork f 27 (
leaf f 27 (app1 (s27 true e) vs G)) (
fork f 28 (
leaf f 28 (app0 (orc 28) (s28 true e) vs G)) (
leaf f 29 (app2 (s29 true e) vs G)))) (
fork f 31 (
fork f 30 (
leaf f 30 (app1 (s30 true e) vs G)) (
leaf f 31 (app1 (s31 true e) vs G))) (
fork f 32 (
leaf f 32 (app1 (s32 true e) vs G)) (
leaf f 33 (app0 (orc 33) (s33 true e) vs G)))))) (
fork f 73 (
fork f 36 (
fork f 34 (
leaf f 34 (app1 (s34 true e) vs G)) (
fork f 35 (
leaf f 35 (app2 (s35 true e) vs G)) (
leaf f 36 (app1 (s36 true e) vs G)))) (
fork f 45 (
fork f 40 (
leaf f 40 (app1 (s40 true e) vs G)) (
leaf f 45 (app3 (s45 true e) vs G))) (
fork f 63 (
leaf f 63 (app2 (s63 true e) vs G)) (
leaf f 73 (app2 (s73 true e) vs G))))) (
fork f 93 (
fork f 79 (
leaf f 79 (app2 (s79 true e) vs G)) (
fork f 92 (
leaf f 92 (app2 (s92 true e) vs G)) (
leaf f 93 (app3 (s93 true e) vs G)))) (
fork f 95 (
fork f 94 (
leaf f 94 (app1 (s94 true e) vs G)) (
leaf f 95 (app1 (s95 true e) vs G))) (
fork f 96 (
leaf f 96 (app2 (s96 true e) vs G)) (
leaf f 97 (app2 (s97 true e) vs G))))))) (
fork f 111 (
fork f 104 (
fork f 100 (
fork f 98 (
leaf f 98 (app3 (s98 true e) vs G)) (
fork f 99 (
leaf f 99 (app1 (s99 true e) vs G)) (
leaf f 100 (app4 (s100 true e) vs G)))) (
fork f 102 (
fork f 101 (
leaf f 101 (app3 (s101 true e) vs G)) (
leaf f 102 (app2 (s102 true e) vs G))) (
fork f 103 (
leaf f 103 (app2 (s103 true e) vs G)) (
leaf f 104 (app2 (s104 true e) vs G))))) (
fork f 107 (
fork f 105 (
leaf f 105 (app2 (s105 true e) vs G)) (
fork f 106 (
leaf f 106 (app1 (s106 true e) vs G)) (
leaf f 107 (app1 (s107 true e) vs G)))) (
fork f 109 (
fork f 108 (
leaf f 108 (app2 (s108 true e) vs G)) (
leaf f 109 (app1 (s109 true e) vs G))) (
fork f 110 (
leaf f 110 (app2 (s110 true e) vs G)) (
leaf f 111 (app3 (s111 true e) vs G)))))) (
fork f 154 (
fork f 118 (
fork f 112 (
leaf f 112 (app2 (s112 true e) vs G)) (
fork f 113 (
leaf f 113 (app1 (s113 true e) vs G)) (
leaf f 118 (app2 (s118 true e) vs G)))) (
fork f 120 (
fork f 119 (
leaf f 119 (app5 (s119 true e) vs G)) (
leaf f 120 (app1 (s120 true e) vs G))) (
fork f 151 (
leaf f 151 (app1 (s151 true e) vs G)) (
leaf f 154 (app1 (s154 true e) vs G))))) (
fork f 166 (
fork f 155 (
leaf f 155 (app2 (s155 true e) vs G)) (
fork f 158 (
leaf f 158 (app1 (s158 true e) vs G)) (
leaf f 166 (app2 (s166 true e) vs G)))) (
fork f 170 (
fork f 169 (
leaf f 169 (app1 (s169 true e) vs G)) (
leaf f 170 (app2 (s170 true e) vs G))) (
fork f 171 (
leaf f 171 (app3 (s171 true e) vs G)) (
leaf f 172 (app1 (s172 true e) vs G)))))))) (
fork f 251 (
fork f 225 (
fork f 179 (
fork f 175 (
fork f 173 (
leaf f 173 (app1 (s173 true e) vs G)) (
fork f 174 (
leaf f 174 (app3 (s174 true e) vs G)) (
leaf f 175 (app1 (s175 true e) vs G)))) (
fork f 177 (
fork f 176 (
leaf f 176 (app1 (s176 true e) vs G)) (
leaf f 177 (app2 (s177 true e) vs G))) (
fork f 178 (
leaf f 178 (app1 (s178 true e) vs G)) (
leaf f 179 (app2 (s179 true e) vs G))))) (
fork f 182 (
fork f 180 (
leaf f 180 (app1 (s180 true e) vs G)) (
fork f 181 (
leaf f 181 (app3 (s181 true e) vs G)) (
leaf f 182 (app2 (s182 true e) vs G)))) (
fork f 184 (
fork f 183 (
leaf f 183 (app2 (s183 true e) vs G)) (
leaf f 184 (app2 (s184 true e) vs G))) (
fork f 187 (
leaf f 187 (app1 (s187 true e) vs G)) (
leaf f 225 (app1 (s225 true e) vs G)))))) (
fork f 244 (
fork f 240 (
fork f 235 (
leaf f 235 (app2 (s235 true e) vs G)) (
fork f 236 (
leaf f 236 (app2 (s236 true e) vs G)) (
leaf f 240 (app2 (s240 true e) vs G)))) (
fork f 242 (
fork f 241 (
leaf f 241 (app2 (s241 true e) vs G)) (
leaf f 242 (app4 (s242 true e) vs G))) (
fork f 243 (
leaf f 243 (app2 (s243 true e) vs G)) (
leaf f 244 (app2 (s244 true e) vs G))))) (
fork f 247 (
fork f 245 (
leaf f 245 (app0 (orc 245) (s245 true e) vs G)) (
fork f 246 (
leaf f 246 (app2 (s246 true e) vs G)) (
leaf f 247 (app1 (s247 true e) vs G)))) (
fork f 249 (
fork f 248 (
leaf f 248 (app3 (s248 true e) vs G)) (
leaf f 249 (app1 (s249 true e) vs G))) (
fork f 250 (
leaf f 250 (app3 (s250 true e) vs G)) (
leaf f 251 (app2 (s251 true e) vs G))))))) (
fork f 293 (
fork f 258 (
fork f 254 (
fork f 252 (
leaf f 252 (app2 (s252 true e) vs G)) (
fork f 253 (
leaf f 253 (app1 (s253 true e) vs G)) (
leaf f 254 (app1 (s254 true e) vs G)))) (
fork f 256 (
fork f 255 (
leaf f 255 (app1 (s255 true e) vs G)) (
leaf f 256 (app2 (s256 true e) vs G))) (
fork f 257 (
leaf f 257 (app2 (s257 true e) vs G)) (
leaf f 258 (app2 (s258 true e) vs G))))) (
fork f 286 (
fork f 283 (
leaf f 283 (app1 (s283 true e) vs G)) (
fork f 285 (
leaf f 285 (app2 (s285 true e) vs G)) (
leaf f 286 (app1 (s286 true e) vs G)))) (
fork f 291 (
fork f 289 (
leaf f 289 (app2 (s289 true e) vs G)) (
leaf f 291 (app1 (s291 true e) vs G))) (
fork f 292 (
leaf f 292 (app1 (s292 true e) vs G)) (
leaf f 293 (app2 (s293 true e) vs G)))))) (
fork f 314 (
fork f 296 (
fork f 294 (
leaf f 294 (app2 (s294 true e) vs G)) (
fork f 295 (
leaf f 295 (app2 (s295 true e) vs G)) (
leaf f 296 (app3 (s296 true e) vs G)))) (
fork f 309 (
fork f 297 (
leaf f 297 (app2 (s297 true e) vs G)) (
leaf f 309 (app1 (s309 true e) vs G))) (
fork f 310 (
leaf f 310 (app2 (s310 true e) vs G)) (
leaf f 314 (app2 (s314 true e) vs G))))) (
fork f 317 (
fork f 315 (
leaf f 315 (app2 (s315 true e) vs G)) (
fork f 316 (
leaf f 316 (app2 (s316 true e) vs G)) (
leaf f 317 (app3 (s317 true e) vs G)))) (
fork f 322 (
fork f 321 (
leaf f 321 (app3 (s321 true e) vs G)) (
leaf f 322 (app3 (s322 true e) vs G))) (
fork f 347 (
leaf f 347 (app1 (s347 true e) vs G)) (
leaf f 348 (app1 (s348 true e) vs G))))))))
theorem clT_ok {orc : FuncId → Bool} {e : Ex} (h : ExLe Q e (E orc)) (f : FuncId) (vs : List Value) (G : GS) : Ref (clT orc e f vs G) ((E orc).cl f vs G) :=
  Ref.fork (
Ref.fork (
Ref.fork (
Ref.fork (
Ref.fork (
Ref.fork (
Ref.leaf (y := fun f => (E orc).cl f vs G) (Ref.app0 (fun ho G => f4 h ho G) vs G)) (
Ref.fork (
Ref.leaf (y := fun f => (E orc).cl f vs G) (Ref.app1 (fun u0 G => f17 h u0 G) vs G)) (
Ref.leaf (y := fun f => (E orc).cl f vs G) (Ref.app0 (fun ho G => f23 h ho G) vs G)))) (
Ref.fork (
Ref.leaf (y := fun f => (E orc).cl f vs G) (Ref.app4 (fun u0 u1 u2 u3 G => f24 h u0 u1 u2 u3 G) vs G)) (
Ref.fork (
Ref.leaf (y := fun f => (E orc).cl f vs G) (Ref.app3 (fun u0 u1 u2 G => f25 h u0 u1 u2 G) vs G)) (
Ref.leaf (y := fun f => (E orc).cl f vs G) (Ref.app4 (fun u0 u1 u2 u3 G => f26 h u0 u1 u2 u3 G) vs G))))) (
Ref.fork (
Ref.fork (
Ref.leaf (y := fun f => (E orc).cl f vs G) (Ref.app1 (fun u0 G => f27 h u0 G) vs G)) (
Ref.fork (
Ref.leaf (y := fun f => (E orc).cl f vs G) (Ref.app0 (fun ho G => f28 h ho G) vs G)) (
Ref.leaf (y := fun f => (E orc).cl f vs G) (Ref.app2 (fun u0 u1 G => f29 h u0 u1 G) vs G)))) (
Ref.fork (
Ref.fork (
Ref.leaf (y := fun f => (E orc).cl f vs G) (Ref.app1 (fun u0 G => f30 h u0 G) vs G)) (
Ref.leaf (y := fun f => (E orc).cl f vs G) (Ref.app1 (fun u0 G => f31 h u0 G) vs G))) (
Ref.fork (
Ref.leaf (y := fun f => (E orc).cl f vs G) (Ref.app1 (fun u0 G => f32 h u0 G) vs G)) (
Ref.leaf (y := fun f => (E orc).cl f vs G) (Ref.app0 (fun ho G => f33 h ho G) vs G)))))) (
Ref.fork (
Ref.fork (
Ref.fork (
Ref.leaf (y := fun f => (E orc).cl f vs G) (Ref.app1 (fun u0 G => f34 h u0 G) vs G)) (
Ref.fork (
Ref.leaf (y := fun f => (E orc).cl f vs G) (Ref.app2 (fun u0 u1 G => f35 h u0 u1 G) vs G)) (
Ref.leaf (y := fun f => (E orc).cl f vs G) (Ref.app1 (fun u0 G => f36 h u0 G) vs G)))) (
Ref.fork (
Ref.fork (
Ref.leaf (y := fun f => (E orc).cl f vs G) (Ref.app1 (fun u0 G => f40 h u0 G) vs G)) (
Ref.leaf (y := fun f => (E orc).cl f vs G) (Ref.app3 (fun u0 u1 u2 G => f45 h u0 u1 u2 G) vs G))) (
Ref.fork (
Ref.leaf (y := fun f => (E orc).cl f vs G) (Ref.app2 (fun u0 u1 G => f63 h u0 u1 G) vs G)) (
Ref.leaf (y := fun f => (E orc).cl f vs G) (Ref.app2 (fun u0 u1 G => f73 h u0 u1 G) vs G))))) (
Ref.fork (
Ref.fork (
Ref.leaf (y := fun f => (E orc).cl f vs G) (Ref.app2 (fun u0 u1 G => f79 h u0 u1 G) vs G)) (
Ref.fork (
Ref.leaf (y := fun f => (E orc).cl f vs G) (Ref.app2 (fun u0 u1 G => f92 h u0 u1 G) vs G)) (
Ref.leaf (y := fun f => (E orc).cl f vs G) (Ref.app3 (fun u0 u1 u2 G => f93 h u0 u1 u2 G) vs G)))) (
Ref.fork (
Ref.fork (
Ref.leaf (y := fun f => (E orc).cl f vs G) (Ref.app1 (fun u0 G => f94 h u0 G) vs G)) (
Ref.leaf (y := fun f => (E orc).cl f vs G) (Ref.app1 (fun u0 G => f95 h u0 G) vs G))) (
Ref.fork (
Ref.leaf (y := fun f => (E orc).cl f vs G) (Ref.app2 (fun u0 u1 G => f96 h u0 u1 G) vs G)) (
Ref.leaf (y := fun f => (E orc).cl f vs G) (Ref.app2 (fun u0 u1 G => f97 h u0 u1 G) vs G))))))) (
Ref.fork (
Ref.fork (
Ref.fork (
Ref.fork (
Ref.leaf (y := fun f => (E orc).cl f vs G) (Ref.app3 (fun u0 u1 u2 G => f98 h u0 u1 u2 G) vs G)) (
Ref.fork (
Ref.leaf (y := fun f => (E orc).cl f vs G) (Ref.app1 (fun u0 G => f99 h u0 G) vs G)) (
Ref.leaf (y := fun f => (E orc).cl f vs G) (Ref.app4 (fun u0 u1 u2 u3 G => f100 h u0 u1 u2 u3 G) vs G)))) (
Ref.fork (
Ref.fork (
Ref.leaf (y := fun f => (E orc).cl f vs G) (Ref.app3 (fun u0 u1 u2 G => f101 h u0 u1 u2 G) vs G)) (
Ref.leaf (y := fun f => (E orc).cl f vs G) (Ref.app2 (fun u0 u1 G => f102 h u0 u1 G) vs G))) (
Ref.fork (
Ref.leaf (y := fun f => (E orc).cl f vs G) (Ref.app2 (fun u0 u1 G => f103 h u0 u1 G) vs G)) (
Ref.leaf (y := fun f => (E orc).cl f vs G) (Ref.app2 (fun u0 u1 G => f104 h u0 u1 G) vs G))))) (
Ref.fork (
Ref.fork (
Ref.leaf (y := fun f => (E orc).cl f vs G) (Ref.app2 (fun u0 u1 G => f105 h u0 u1 G) vs G)) (
Ref.fork (
Ref.leaf (y := fun f => (E orc).cl f vs G) (Ref.app1 (fun u0 G => f106 h u0 G) vs G)) (
Ref.leaf (y := fun f => (E orc).cl f vs G) (Ref.app1 (fun u0 G => f107 h u0 G) vs G)))) (
Ref.fork (
Ref.fork (
Ref.leaf (y := fun f => (E orc).cl f vs G) (Ref.app2 (fun u0 u1 G => f108 h u0 u1 G) vs G)) (
Ref.leaf (y := fun f => (E orc).cl f vs G) (Ref.app1 (fun u0 G => f109 h u0 G) vs G))) (
Ref.fork (
Ref.leaf (y := fun f => (E orc).cl f vs G) (Ref.app2 (fun u0 u1 G => f110 h u0 u1 G) vs G)) (
Ref.leaf (y := fun f => (E orc).cl f vs G) (Ref.app3 (fun u0 u1 u2 G => f111 h u0 u1 u2 G) vs G)))))) (
Ref.fork (
Ref.fork (
Ref.fork (
Ref.leaf (y := fun f => (E orc).cl f vs G) (Ref.app2 (fun u0 u1 G => f112 h u0 u1 G) vs G)) (
Ref.fork (
Ref.leaf (y := fun f => (E orc).cl f vs G) (Ref.app1 (fun u0 G => f113 h u0 G) vs G)) (
Ref.leaf (y := fun f => (E orc).cl f vs G) (Ref.app2 (fun u0 u1 G => f118 h u0 u1 G) vs G)))) (
Ref.fork (
Ref.fork (
Ref.leaf (y := fun f => (E orc).cl f vs G) (Ref.app5 (fun u0 u1 u2 u3 u4 G => f119 h u0 u1 u2 u3 u4 G) vs G)) (
Ref.leaf (y := fun f => (E orc).cl f vs G) (Ref.app1 (fun u0 G => f120 h u0 G) vs G))) (
Ref.fork (
Ref.leaf (y := fun f => (E orc).cl f vs G) (Ref.app1 (fun u0 G => f151 h u0 G) vs G)) (
Ref.leaf (y := fun f => (E orc).cl f vs G) (Ref.app1 (fun u0 G => f154 h u0 G) vs G))))) (
Ref.fork (
Ref.fork (
Ref.leaf (y := fun f => (E orc).cl f vs G) (Ref.app2 (fun u0 u1 G => f155 h u0 u1 G) vs G)) (
Ref.fork (
Ref.leaf (y := fun f => (E orc).cl f vs G) (Ref.app1 (fun u0 G => f158 h u0 G) vs G)) (
Ref.leaf (y := fun f => (E orc).cl f vs G) (Ref.app2 (fun u0 u1 G => f166 h u0 u1 G) vs G)))) (
Ref.fork (
Ref.fork (
Ref.leaf (y := fun f => (E orc).cl f vs G) (Ref.app1 (fun u0 G => f169 h u0 G) vs G)) (
Ref.leaf (y := fun f => (E orc).cl f vs G) (Ref.app2 (fun u0 u1 G => f170 h u0 u1 G) vs G))) (
Ref.fork (
Ref.leaf (y := fun f => (E orc).cl f vs G) (Ref.app3 (fun u0 u1 u2 G => f171 h u0 u1 u2 G) vs G)) (
Ref.leaf (y := fun f => (E orc).cl f vs G) (Ref.app1 (fun u0 G => f172 h u0 G) vs G)))))))) (
Ref.fork (
Ref.fork (
Ref.fork (
Ref.fork (
Ref.fork (
Ref.leaf (y := fun f => (E orc).cl f vs G) (Ref.app1 (fun u0 G => f173 h u0 G) vs G)) (
Ref.fork (
Ref.leaf (y := fun f => (E orc).cl f vs G) (Ref.app3 (fun u0 u1 u2 G => f174 h u0 u1 u2 G) vs G)) (
Ref.leaf (y := fun f => (E orc).cl f vs G) (Ref.app1 (fun u0 G => f175 h u0 G) vs G)))) (
Ref.fork (
Ref.fork (
Ref.leaf (y := fun f => (E orc).cl f vs G) (Ref.app1 (fun u0 G => f176 h u0 G) vs G)) (
Ref.leaf (y := fun f => (E orc).cl f vs G) (Ref.app2 (fun u0 u1 G => f177 h u0 u1 G) vs G))) (
Ref.fork (
Ref.leaf (y := fun f => (E orc).cl f vs G) (Ref.app1 (fun u0 G => f178 h u0 G) vs G)) (
Ref.leaf (y := fun f => (E orc).cl f vs G) (Ref.app2 (fun u0 u1 G => f179 h u0 u1 G) vs G))))) (
Ref.fork (
Ref.fork (
Ref.leaf (y := fun f => (E orc).cl f vs G) (Ref.app1 (fun u0 G => f180 h u0 G) vs G)) (
Ref.fork (
Ref.leaf (y := fun f => (E orc).cl f vs G) (Ref.app3 (fun u0 u1 u2 G => f181 h u0 u1 u2 G) vs G)) (
Ref.leaf (y := fun f => (E orc).cl f vs G) (Ref.app2 (fun u0 u1 G => f182 h u0 u1 G) vs G)))) (
Ref.fork (
Ref.fork (
Ref.leaf (y := fun f => (E orc).cl f vs G) (Ref.app2 (fun u0 u1 G => f183 h u0 u1 G) vs G)) (
Ref.leaf (y := fun f => (E orc).cl f vs G) (Ref.app2 (fun u0 u1 G => f184 h u0 u1 G) vs G))) (
Ref.fork (
Ref.leaf (y := fun f => (E orc).cl f vs G) (Ref.app1 (fun u0 G => f187 h u0 G) vs G)) (
Ref.leaf (y := fun f => (E orc).cl f vs G) (Ref.app1 (fun u0 G => f225 h u0 G) vs G)))))) (
Ref.fork (
Ref.fork (
Ref.fork (
Ref.leaf (y := fun f => (E orc).cl f vs G) (Ref.app2 (fun u0 u1 G => f235 h u0 u1 G) vs G)) (
Ref.fork (
Ref.leaf (y := fun f => (E orc).cl f vs G) (Ref.app2 (fun u0 u1 G => f236 h u0 u1 G) vs G)) (
Ref.leaf (y := fun f => (E orc).cl f vs G) (Ref.app2 (fun u0 u1 G => f240 h u0 u1 G) vs G)))) (
Ref.fork (
Ref.fork (
Ref.leaf (y := fun f => (E orc).cl f vs G) (Ref.app2 (fun u0 u1 G => f241 h u0 u1 G) vs G)) (
Ref.leaf (y := fun f => (E orc).cl f vs G) (Ref.app4 (fun u0 u1 u2 u3 G => f242 h u0 u1 u2 u3 G) vs G))) (
Ref.fork (
Ref.leaf (y := fun f => (E orc).cl f vs G) (Ref.app2 (fun u0 u1 G => f243 h u0 u1 G) vs G)) (
Ref.leaf (y := fun f => (E orc).cl f vs G) (Ref.app2 (fun u0 u1 G => f244 h u0 u1 G) vs G))))) (
Ref.fork (
Ref.fork (
Ref.leaf (y := fun f => (E orc).cl f vs G) (Ref.app0 (fun ho G => f245 h ho G) vs G)) (
Ref.fork (
Ref.leaf (y := fun f => (E orc).cl f vs G) (Ref.app2 (fun u0 u1 G => f246 h u0 u1 G) vs G)) (
Ref.leaf (y := fun f => (E orc).cl f vs G) (Ref.app1 (fun u0 G => f247 h u0 G) vs G)))) (
Ref.fork (
Ref.fork (
Ref.leaf (y := fun f => (E orc).cl f vs G) (Ref.app3 (fun u0 u1 u2 G => f248 h u0 u1 u2 G) vs G)) (
Ref.leaf (y := fun f => (E orc).cl f vs G) (Ref.app1 (fun u0 G => f249 h u0 G) vs G))) (
Ref.fork (
Ref.leaf (y := fun f => (E orc).cl f vs G) (Ref.app3 (fun u0 u1 u2 G => f250 h u0 u1 u2 G) vs G)) (
Ref.leaf (y := fun f => (E orc).cl f vs G) (Ref.app2 (fun u0 u1 G => f251 h u0 u1 G) vs G))))))) (
Ref.fork (
Ref.fork (
Ref.fork (
Ref.fork (
Ref.leaf (y := fun f => (E orc).cl f vs G) (Ref.app2 (fun u0 u1 G => f252 h u0 u1 G) vs G)) (
Ref.fork (
Ref.leaf (y := fun f => (E orc).cl f vs G) (Ref.app1 (fun u0 G => f253 h u0 G) vs G)) (
Ref.leaf (y := fun f => (E orc).cl f vs G) (Ref.app1 (fun u0 G => f254 h u0 G) vs G)))) (
Ref.fork (
Ref.fork (
Ref.leaf (y := fun f => (E orc).cl f vs G) (Ref.app1 (fun u0 G => f255 h u0 G) vs G)) (
Ref.leaf (y := fun f => (E orc).cl f vs G) (Ref.app2 (fun u0 u1 G => f256 h u0 u1 G) vs G))) (
Ref.fork (
Ref.leaf (y := fun f => (E orc).cl f vs G) (Ref.app2 (fun u0 u1 G => f257 h u0 u1 G) vs G)) (
Ref.leaf (y := fun f => (E orc).cl f vs G) (Ref.app2 (fun u0 u1 G => f258 h u0 u1 G) vs G))))) (
Ref.fork (
Ref.fork (
Ref.leaf (y := fun f => (E orc).cl f vs G) (Ref.app1 (fun u0 G => f283 h u0 G) vs G)) (
Ref.fork (
Ref.leaf (y := fun f => (E orc).cl f vs G) (Ref.app2 (fun u0 u1 G => f285 h u0 u1 G) vs G)) (
Ref.leaf (y := fun f => (E orc).cl f vs G) (Ref.app1 (fun u0 G => f286 h u0 G) vs G)))) (
Ref.fork (
Ref.fork (
Ref.leaf (y := fun f => (E orc).cl f vs G) (Ref.app2 (fun u0 u1 G => f289 h u0 u1 G) vs G)) (
Ref.leaf (y := fun f => (E orc).cl f vs G) (Ref.app1 (fun u0 G => f291 h u0 G) vs G))) (
Ref.fork (
Ref.leaf (y := fun f => (E orc).cl f vs G) (Ref.app1 (fun u0 G => f292 h u0 G) vs G)) (
Ref.leaf (y := fun f => (E orc).cl f vs G) (Ref.app2 (fun u0 u1 G => f293 h u0 u1 G) vs G)))))) (
Ref.fork (
Ref.fork (
Ref.fork (
Ref.leaf (y := fun f => (E orc).cl f vs G) (Ref.app2 (fun u0 u1 G => f294 h u0 u1 G) vs G)) (
Ref.fork (
Ref.leaf (y := fun f => (E orc).cl f vs G) (Ref.app2 (fun u0 u1 G => f295 h u0 u1 G) vs G)) (
Ref.leaf (y := fun f => (E orc).cl f vs G) (Ref.app3 (fun u0 u1 u2 G => f296 h u0 u1 u2 G) vs G)))) (
Ref.fork (
Ref.fork (
Ref.leaf (y := fun f => (E orc).cl f vs G) (Ref.app2 (fun u0 u1 G => f297 h u0 u1 G) vs G)) (
Ref.leaf (y := fun f => (E orc).cl f vs G) (Ref.app1 (fun u0 G => f309 h u0 G) vs G))) (
Ref.fork (
Ref.leaf (y := fun f => (E orc).cl f vs G) (Ref.app2 (fun u0 u1 G => f310 h u0 u1 G) vs G)) (
Ref.leaf (y := fun f => (E orc).cl f vs G) (Ref.app2 (fun u0 u1 G => f314 h u0 u1 G) vs G))))) (
Ref.fork (
Ref.fork (
Ref.leaf (y := fun f => (E orc).cl f vs G) (Ref.app2 (fun u0 u1 G => f315 h u0 u1 G) vs G)) (
Ref.fork (
Ref.leaf (y := fun f => (E orc).cl f vs G) (Ref.app2 (fun u0 u1 G => f316 h u0 u1 G) vs G)) (
Ref.leaf (y := fun f => (E orc).cl f vs G) (Ref.app3 (fun u0 u1 u2 G => f317 h u0 u1 u2 G) vs G)))) (
Ref.fork (
Ref.fork (
Ref.leaf (y := fun f => (E orc).cl f vs G) (Ref.app3 (fun u0 u1 u2 G => f321 h u0 u1 u2 G) vs G)) (
Ref.leaf (y := fun f => (E orc).cl f vs G) (Ref.app3 (fun u0 u1 u2 G => f322 h u0 u1 u2 G) vs G))) (
Ref.fork (
Ref.leaf (y := fun f => (E orc).cl f vs G) (Ref.app1 (fun u0 G => f347 h u0 G) vs G)) (
Ref.leaf (y := fun f => (E orc).cl f vs G) (Ref.app1 (fun u0 G => f348 h u0 G) vs G))))))))
noncomputable def lpT (FUEL : Nat) (e : Ex) (f k : Nat) (τ : Env) (G : GS) : Option (Exit × Env × GS) :=
  fork f 92 (
fork f 24 (
fork f 17 (
fork f 4 (
leaf f 4 (leaf k 0 (lpS 132 (b4_0 true e) FUEL τ G))) (
leaf f 17 (leaf k 0 (lpS 42 (b17_0 true e) FUEL τ G)))) (
fork f 23 (
leaf f 23 (leaf k 0 (lpS 38 (b23_0 true e) FUEL τ G))) (
leaf f 24 (leaf k 0 (lpS 61 (b24_0 true e) FUEL τ G))))) (
fork f 29 (
fork f 26 (
leaf f 26 (leaf k 0 (lpS 54 (b26_0 true e) FUEL τ G))) (
leaf f 29 (leaf k 0 (lpS 162 (b29_0 true e) FUEL τ G)))) (
fork f 63 (
leaf f 63 (leaf k 0 (lpS 31 (b63_0 true e) FUEL τ G))) (
fork f 73 (
leaf f 73 (leaf k 0 (lpS 29 (b73_0 true e) FUEL τ G))) (
leaf f 92 (leaf k 0 (lpS 24 (b92_0 true e) FUEL τ G))))))) (
fork f 242 (
fork f 170 (
fork f 155 (
leaf f 155 (leaf k 0 (lpS 34 (b155_0 true e) FUEL τ G))) (
leaf f 170 (leaf k 0 (lpS 23 (b170_0 true e) FUEL τ G)))) (
fork f 179 (
leaf f 179 (leaf k 0 (lpS 195 (b179_0 true e) FUEL τ G))) (
leaf f 242 (leaf k 0 (lpS 40 (b242_0 true e) FUEL τ G))))) (
fork f 309 (
fork f 296 (
leaf f 296 (leaf k 0 (lpS 35 (b296_0 true e) FUEL τ G))) (
leaf f 309 (leaf k 0 (lpS 24 (b309_0 true e) FUEL τ G)))) (
fork f 310 (
leaf f 310 (leaf k 0 (lpS 24 (b310_0 true e) FUEL τ G))) (
fork f 316 (
leaf f 316 (leaf k 0 (lpS 18 (b316_0 true e) FUEL τ G))) (
leaf f 317 (leaf k 0 (lpS 25 (b317_0 true e) FUEL τ G)))))))
theorem lpT_ok {orc : FuncId → Bool} {e : Ex} (h : ExLe Q e (E orc)) (FUEL f k : Nat) (τ : Env) (G : GS) : Ref (lpT FUEL e f k τ G) (mapE ((E orc).lp (codeAt Q f k) (lst (nOf Q f) τ) G)) :=
  Ref.fork (
Ref.fork (
Ref.fork (
Ref.fork (
Ref.leaf (y := fun f => mapE ((E orc).lp (codeAt Q f k) (lst (nOf Q f) τ) G)) (Ref.leaf (y := fun k => mapE ((E orc).lp (codeAt Q 4 k) (lst (nOf Q 4) τ) G)) (lp_leaf (c := (subAt [1, 1, 1, 1, 1, 1, 0, 1, 0, 0] (bodyOf Tryz.f4))) (l4_0 h) _ _ _))) (
Ref.leaf (y := fun f => mapE ((E orc).lp (codeAt Q f k) (lst (nOf Q f) τ) G)) (Ref.leaf (y := fun k => mapE ((E orc).lp (codeAt Q 17 k) (lst (nOf Q 17) τ) G)) (lp_leaf (c := (subAt [1, 1, 1, 0, 1, 0, 0] (bodyOf Tryz.f17))) (l17_0 h) _ _ _)))) (
Ref.fork (
Ref.leaf (y := fun f => mapE ((E orc).lp (codeAt Q f k) (lst (nOf Q f) τ) G)) (Ref.leaf (y := fun k => mapE ((E orc).lp (codeAt Q 23 k) (lst (nOf Q 23) τ) G)) (lp_leaf (c := (subAt [1, 1, 1, 1, 1, 0, 1, 0, 0] (bodyOf Tryz.f23))) (l23_0 h) _ _ _))) (
Ref.leaf (y := fun f => mapE ((E orc).lp (codeAt Q f k) (lst (nOf Q f) τ) G)) (Ref.leaf (y := fun k => mapE ((E orc).lp (codeAt Q 24 k) (lst (nOf Q 24) τ) G)) (lp_leaf (c := (subAt [1, 1, 0, 1, 0, 0] (bodyOf Tryz.f24))) (l24_0 h) _ _ _))))) (
Ref.fork (
Ref.fork (
Ref.leaf (y := fun f => mapE ((E orc).lp (codeAt Q f k) (lst (nOf Q f) τ) G)) (Ref.leaf (y := fun k => mapE ((E orc).lp (codeAt Q 26 k) (lst (nOf Q 26) τ) G)) (lp_leaf (c := (subAt [1, 1, 0, 1, 0, 0] (bodyOf Tryz.f26))) (l26_0 h) _ _ _))) (
Ref.leaf (y := fun f => mapE ((E orc).lp (codeAt Q f k) (lst (nOf Q f) τ) G)) (Ref.leaf (y := fun k => mapE ((E orc).lp (codeAt Q 29 k) (lst (nOf Q 29) τ) G)) (lp_leaf (c := (subAt [1, 0, 1, 1, 0, 0, 0] (bodyOf Tryz.f29))) (l29_0 h) _ _ _)))) (
Ref.fork (
Ref.leaf (y := fun f => mapE ((E orc).lp (codeAt Q f k) (lst (nOf Q f) τ) G)) (Ref.leaf (y := fun k => mapE ((E orc).lp (codeAt Q 63 k) (lst (nOf Q 63) τ) G)) (lp_leaf (c := (subAt [1, 1, 0, 1, 0, 0] (bodyOf Tryz.f63))) (l63_0 h) _ _ _))) (
Ref.fork (
Ref.leaf (y := fun f => mapE ((E orc).lp (codeAt Q f k) (lst (nOf Q f) τ) G)) (Ref.leaf (y := fun k => mapE ((E orc).lp (codeAt Q 73 k) (lst (nOf Q 73) τ) G)) (lp_leaf (c := (subAt [1, 1, 1, 1, 1, 0, 0] (bodyOf Tryz.f73))) (l73_0 h) _ _ _))) (
Ref.leaf (y := fun f => mapE ((E orc).lp (codeAt Q f k) (lst (nOf Q f) τ) G)) (Ref.leaf (y := fun k => mapE ((E orc).lp (codeAt Q 92 k) (lst (nOf Q 92) τ) G)) (lp_leaf (c := (subAt [1, 1, 1, 1, 0, 0] (bodyOf Tryz.f92))) (l92_0 h) _ _ _))))))) (
Ref.fork (
Ref.fork (
Ref.fork (
Ref.leaf (y := fun f => mapE ((E orc).lp (codeAt Q f k) (lst (nOf Q f) τ) G)) (Ref.leaf (y := fun k => mapE ((E orc).lp (codeAt Q 155 k) (lst (nOf Q 155) τ) G)) (lp_leaf (c := (subAt [1, 1, 1, 1, 0, 0] (bodyOf Tryz.f155))) (l155_0 h) _ _ _))) (
Ref.leaf (y := fun f => mapE ((E orc).lp (codeAt Q f k) (lst (nOf Q f) τ) G)) (Ref.leaf (y := fun k => mapE ((E orc).lp (codeAt Q 170 k) (lst (nOf Q 170) τ) G)) (lp_leaf (c := (subAt [1, 1, 1, 1, 0, 0] (bodyOf Tryz.f170))) (l170_0 h) _ _ _)))) (
Ref.fork (
Ref.leaf (y := fun f => mapE ((E orc).lp (codeAt Q f k) (lst (nOf Q f) τ) G)) (Ref.leaf (y := fun k => mapE ((E orc).lp (codeAt Q 179 k) (lst (nOf Q 179) τ) G)) (lp_leaf (c := (subAt [1, 0, 1, 1, 1, 1, 1, 0, 0, 0] (bodyOf Tryz.f179))) (l179_0 h) _ _ _))) (
Ref.leaf (y := fun f => mapE ((E orc).lp (codeAt Q f k) (lst (nOf Q f) τ) G)) (Ref.leaf (y := fun k => mapE ((E orc).lp (codeAt Q 242 k) (lst (nOf Q 242) τ) G)) (lp_leaf (c := (subAt [1, 1, 0, 0] (bodyOf Tryz.f242))) (l242_0 h) _ _ _))))) (
Ref.fork (
Ref.fork (
Ref.leaf (y := fun f => mapE ((E orc).lp (codeAt Q f k) (lst (nOf Q f) τ) G)) (Ref.leaf (y := fun k => mapE ((E orc).lp (codeAt Q 296 k) (lst (nOf Q 296) τ) G)) (lp_leaf (c := (subAt [1, 1, 0, 0] (bodyOf Tryz.f296))) (l296_0 h) _ _ _))) (
Ref.leaf (y := fun f => mapE ((E orc).lp (codeAt Q f k) (lst (nOf Q f) τ) G)) (Ref.leaf (y := fun k => mapE ((E orc).lp (codeAt Q 309 k) (lst (nOf Q 309) τ) G)) (lp_leaf (c := (subAt [1, 0, 1, 0, 0] (bodyOf Tryz.f309))) (l309_0 h) _ _ _)))) (
Ref.fork (
Ref.leaf (y := fun f => mapE ((E orc).lp (codeAt Q f k) (lst (nOf Q f) τ) G)) (Ref.leaf (y := fun k => mapE ((E orc).lp (codeAt Q 310 k) (lst (nOf Q 310) τ) G)) (lp_leaf (c := (subAt [1, 1, 0, 1, 0, 0] (bodyOf Tryz.f310))) (l310_0 h) _ _ _))) (
Ref.fork (
Ref.leaf (y := fun f => mapE ((E orc).lp (codeAt Q f k) (lst (nOf Q f) τ) G)) (Ref.leaf (y := fun k => mapE ((E orc).lp (codeAt Q 316 k) (lst (nOf Q 316) τ) G)) (lp_leaf (c := (subAt [1, 0, 0] (bodyOf Tryz.f316))) (l316_0 h) _ _ _))) (
Ref.leaf (y := fun f => mapE ((E orc).lp (codeAt Q f k) (lst (nOf Q f) τ) G)) (Ref.leaf (y := fun k => mapE ((E orc).lp (codeAt Q 317 k) (lst (nOf Q 317) τ) G)) (lp_leaf (c := (subAt [1, 1, 0, 0] (bodyOf Tryz.f317))) (l317_0 h) _ _ _)))))))
noncomputable def kE (orc : FuncId → Bool) (n : Nat) : Ex := Nat.rec (motive := fun _ => Ex) ⟨Ev.zero, fun _ _ _ _ => none⟩ (fun _ e => ⟨⟨(evO Q orc 0).ex, clT orc e, (evO Q orc 2000).rd, (evO Q orc 2000).sc, (evO Q orc 0).lp⟩, lpT 6000 e⟩) n
theorem kE_ok (orc : FuncId → Bool) : ∀ n, ExLe Q (kE orc n) (E orc)
  | 0 => ⟨zero_le _, fun _ _ _ _ => .nil _⟩
  | n + 1 => ⟨⟨(le_evL Q orc 0).ex, fun f vs G r hr => clT_ok (kE_ok orc n) f vs G r hr, (le_evL Q orc 2000).rd, (le_evL Q orc 2000).sc, (le_evL Q orc 0).lp⟩, lpT_ok (kE_ok orc n) 6000⟩
/-- what the tables find true is true -/
theorem at_kE {orc : FuncId → Bool} {n f : Nat} {vs : List Value} (h : isTrue ((kE orc n).ev.cl f vs GS.empty) = true) : ∃ G', (E orc).cl f vs GS.empty = some (.bool true, G') := isTrue_of ((kE_ok orc n).ev.cl f vs GS.empty) h
theorem closed_kE {orc : FuncId → Bool} (ho : OrcOk Q orc) (hmix : Q.follows .mixedOrders = true) {n f : Nat} (h : isTrue ((kE orc n).ev.cl f [] GS.empty) = true) (w : World) : Calls Q f #[] w fun e w' => e = .returned (.bool true) ∧ Go.RowKit.Below w.heap.size w w' :=
  let ⟨_, hG⟩ := at_kE h
  law_plain hmix ho hG fun _ => trivial
end Go.Proofs.YtgcceeillefbpaaGreat.Lift
