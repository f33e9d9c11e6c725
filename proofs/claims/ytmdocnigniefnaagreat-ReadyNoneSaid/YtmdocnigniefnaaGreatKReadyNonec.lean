/- the program's code, spelled out by a program of ours (lift2.lean) -/
import Derived.Test.YtmdocnigniefnaaGreatKReadyNoneb
namespace Go.Proofs.YtmdocnigniefnaaGreat.Lift
open Go Go.Proofs.YtmdocnigniefnaaGreat.Gh Go.Proofs
set_option linter.unusedVariables false
set_option maxRecDepth 100000
noncomputable def clT (orc : FuncId → Bool) (e : Ex) (f : FuncId) (vs : List Value) (G : GS) : Option (Value × GS) :=
  fork f 206 (
fork f 117 (
fork f 60 (
fork f 19 (
fork f 11 (
fork f 7 (
fork f 3 (
leaf f 3 (app1 (s3 true e) vs G)) (
fork f 6 (
leaf f 6 (app1 (s6 true e) vs G)) (
leaf f 7 (app1 (s7 true e) vs G)))) (
fork f 9 (
fork f 8 (
leaf f 8 (app1 (s8 true e) vs G)) (
leaf f 9 (app1 (s9 true e) vs G))) (
fork f 10 (
leaf f 10 (app2 (s10 true e) vs G)) (
leaf f 11 (app2 (s11 true e) vs G))))) (
fork f 15 (
fork f 13 (
fork f 12 (
leaf f 12 (app2 (s12 true e) vs G)) (
leaf f 13 (app2 (s13 true e) vs G))) (
fork f 14 (
leaf f 14 (app1 (s14 true e) vs G)) (
leaf f 15 (app5 (s15 true e) vs G)))) (
fork f 17 (
fork f 16 (
leaf f 16 (app0 (orc 16) (hasTab Q G) (s16 true e) vs G)) (
leaf f 17 (app2 (s17 true e) vs G))) (
fork f 18 (
leaf f 18 (app1 (s18 true e) vs G)) (
leaf f 19 (app0 (orc 19) (hasTab Q G) (s19 true e) vs G)))))) (
fork f 47 (
fork f 37 (
fork f 25 (
leaf f 25 (app2 (s25 true e) vs G)) (
fork f 29 (
leaf f 29 (app3 (s29 true e) vs G)) (
leaf f 37 (app2 (s37 true e) vs G)))) (
fork f 45 (
fork f 44 (
leaf f 44 (app2 (s44 true e) vs G)) (
leaf f 45 (app1 (s45 true e) vs G))) (
fork f 46 (
leaf f 46 (app2 (s46 true e) vs G)) (
leaf f 47 (app2 (s47 true e) vs G))))) (
fork f 51 (
fork f 49 (
fork f 48 (
leaf f 48 (app1 (s48 true e) vs G)) (
leaf f 49 (app1 (s49 true e) vs G))) (
fork f 50 (
leaf f 50 (app0 (orc 50) (hasTab Q G) (s50 true e) vs G)) (
leaf f 51 (app3 (s51 true e) vs G)))) (
fork f 53 (
fork f 52 (
leaf f 52 (app4 (s52 true e) vs G)) (
leaf f 53 (app2 (s53 true e) vs G))) (
fork f 59 (
leaf f 59 (app1 (s59 true e) vs G)) (
leaf f 60 (app1 (s60 true e) vs G))))))) (
fork f 89 (
fork f 74 (
fork f 63 (
fork f 61 (
leaf f 61 (app1 (s61 true e) vs G)) (
fork f 62 (
leaf f 62 (app2 (s62 true e) vs G)) (
leaf f 63 (app1 (s63 true e) vs G)))) (
fork f 72 (
fork f 64 (
leaf f 64 (app1 (s64 true e) vs G)) (
leaf f 72 (app2 (s72 true e) vs G))) (
fork f 73 (
leaf f 73 (app5 (s73 true e) vs G)) (
leaf f 74 (app1 (s74 true e) vs G))))) (
fork f 83 (
fork f 80 (
fork f 76 (
leaf f 76 (app2 (s76 true e) vs G)) (
leaf f 80 (app2 (s80 true e) vs G))) (
fork f 81 (
leaf f 81 (app2 (s81 true e) vs G)) (
leaf f 83 (app2 (s83 true e) vs G)))) (
fork f 87 (
fork f 84 (
leaf f 84 (app2 (s84 true e) vs G)) (
leaf f 87 (app3 (s87 true e) vs G))) (
fork f 88 (
leaf f 88 (app1 (s88 true e) vs G)) (
leaf f 89 (app2 (s89 true e) vs G)))))) (
fork f 97 (
fork f 93 (
fork f 91 (
fork f 90 (
leaf f 90 (app2 (s90 true e) vs G)) (
leaf f 91 (app1 (s91 true e) vs G))) (
fork f 92 (
leaf f 92 (app1 (s92 true e) vs G)) (
leaf f 93 (app1 (s93 true e) vs G)))) (
fork f 95 (
fork f 94 (
leaf f 94 (app2 (s94 true e) vs G)) (
leaf f 95 (app2 (s95 true e) vs G))) (
fork f 96 (
leaf f 96 (app6 (s96 true e) vs G)) (
leaf f 97 (app3 (s97 true e) vs G))))) (
fork f 107 (
fork f 99 (
fork f 98 (
leaf f 98 (app1 (s98 true e) vs G)) (
leaf f 99 (app2 (s99 true e) vs G))) (
fork f 100 (
leaf f 100 (app3 (s100 true e) vs G)) (
leaf f 107 (app1 (s107 true e) vs G)))) (
fork f 109 (
fork f 108 (
leaf f 108 (app1 (s108 true e) vs G)) (
leaf f 109 (app1 (s109 true e) vs G))) (
fork f 110 (
leaf f 110 (app2 (s110 true e) vs G)) (
leaf f 117 (app1 (s117 true e) vs G)))))))) (
fork f 154 (
fork f 135 (
fork f 127 (
fork f 120 (
fork f 118 (
leaf f 118 (app2 (s118 true e) vs G)) (
fork f 119 (
leaf f 119 (app1 (s119 true e) vs G)) (
leaf f 120 (app2 (s120 true e) vs G)))) (
fork f 125 (
fork f 122 (
leaf f 122 (app1 (s122 true e) vs G)) (
leaf f 125 (app1 (s125 true e) vs G))) (
fork f 126 (
leaf f 126 (app1 (s126 true e) vs G)) (
leaf f 127 (app1 (s127 true e) vs G))))) (
fork f 131 (
fork f 129 (
fork f 128 (
leaf f 128 (app2 (s128 true e) vs G)) (
leaf f 129 (app1 (s129 true e) vs G))) (
fork f 130 (
leaf f 130 (app1 (s130 true e) vs G)) (
leaf f 131 (app3 (s131 true e) vs G)))) (
fork f 133 (
fork f 132 (
leaf f 132 (app1 (s132 true e) vs G)) (
leaf f 133 (app3 (s133 true e) vs G))) (
fork f 134 (
leaf f 134 (app2 (s134 true e) vs G)) (
leaf f 135 (app2 (s135 true e) vs G)))))) (
fork f 142 (
fork f 138 (
fork f 136 (
leaf f 136 (app2 (s136 true e) vs G)) (
fork f 137 (
leaf f 137 (app2 (s137 true e) vs G)) (
leaf f 138 (app2 (s138 true e) vs G)))) (
fork f 140 (
fork f 139 (
leaf f 139 (app1 (s139 true e) vs G)) (
leaf f 140 (app1 (s140 true e) vs G))) (
fork f 141 (
leaf f 141 (app2 (s141 true e) vs G)) (
leaf f 142 (app1 (s142 true e) vs G))))) (
fork f 146 (
fork f 144 (
fork f 143 (
leaf f 143 (app1 (s143 true e) vs G)) (
leaf f 144 (app1 (s144 true e) vs G))) (
fork f 145 (
leaf f 145 (app1 (s145 true e) vs G)) (
leaf f 146 (app2 (s146 true e) vs G)))) (
fork f 148 (
fork f 147 (
leaf f 147 (app2 (s147 true e) vs G)) (
leaf f 148 (app2 (s148 true e) vs G))) (
fork f 149 (
leaf f 149 (app2 (s149 true e) vs G)) (
leaf f 154 (app1 (s154 true e) vs G))))))) (
fork f 181 (
fork f 173 (
fork f 158 (
fork f 156 (
leaf f 156 (app2 (s156 true e) vs G)) (
fork f 157 (
leaf f 157 (app1 (s157 true e) vs G)) (
leaf f 158 (app1 (s158 true e) vs G)))) (
fork f 161 (
fork f 160 (
leaf f 160 (app1 (s160 true e) vs G)) (
leaf f 161 (app1 (s161 true e) vs G))) (
fork f 172 (
leaf f 172 (app1 (s172 true e) vs G)) (
leaf f 173 (app1 (s173 true e) vs G))))) (
fork f 177 (
fork f 175 (
fork f 174 (
leaf f 174 (app2 (s174 true e) vs G)) (
leaf f 175 (app2 (s175 true e) vs G))) (
fork f 176 (
leaf f 176 (app1 (s176 true e) vs G)) (
leaf f 177 (app2 (s177 true e) vs G)))) (
fork f 179 (
fork f 178 (
leaf f 178 (app2 (s178 true e) vs G)) (
leaf f 179 (app1 (s179 true e) vs G))) (
fork f 180 (
leaf f 180 (app5 (s180 true e) vs G)) (
leaf f 181 (app1 (s181 true e) vs G)))))) (
fork f 191 (
fork f 185 (
fork f 183 (
fork f 182 (
leaf f 182 (app1 (s182 true e) vs G)) (
leaf f 183 (app4 (s183 true e) vs G))) (
fork f 184 (
leaf f 184 (app1 (s184 true e) vs G)) (
leaf f 185 (app1 (s185 true e) vs G)))) (
fork f 187 (
fork f 186 (
leaf f 186 (app3 (s186 true e) vs G)) (
leaf f 187 (app1 (s187 true e) vs G))) (
fork f 188 (
leaf f 188 (app2 (s188 true e) vs G)) (
leaf f 191 (app2 (s191 true e) vs G))))) (
fork f 197 (
fork f 195 (
fork f 193 (
leaf f 193 (app2 (s193 true e) vs G)) (
leaf f 195 (app0 (orc 195) (hasTab Q G) (s195 true e) vs G))) (
fork f 196 (
leaf f 196 (app2 (s196 true e) vs G)) (
leaf f 197 (app1 (s197 true e) vs G)))) (
fork f 199 (
fork f 198 (
leaf f 198 (app1 (s198 true e) vs G)) (
leaf f 199 (app2 (s199 true e) vs G))) (
fork f 205 (
leaf f 205 (app2 (s205 true e) vs G)) (
leaf f 206 (app2 (s206 true e) vs G))))))))) (
fork f 285 (
fork f 237 (
fork f 221 (
fork f 213 (
fork f 209 (
fork f 207 (
leaf f 207 (app2 (s207 true e) vs G)) (
fork f 208 (
leaf f 208 (app1 (s208 true e) vs G)) (
leaf f 209 (app1 (s209 true e) vs G)))) (
fork f 211 (
fork f 210 (
leaf f 210 (app1 (s210 true e) vs G)) (
leaf f 211 (app4 (s211 true e) vs G))) (
fork f 212 (
leaf f 212 (app4 (s212 true e) vs G)) (
leaf f 213 (app5 (s213 true e) vs G))))) (
fork f 217 (
fork f 215 (
fork f 214 (
leaf f 214 (app3 (s214 true e) vs G)) (
leaf f 215 (app2 (s215 true e) vs G))) (
fork f 216 (
leaf f 216 (app3 (s216 true e) vs G)) (
leaf f 217 (app1 (s217 true e) vs G)))) (
fork f 219 (
fork f 218 (
leaf f 218 (app2 (s218 true e) vs G)) (
leaf f 219 (app1 (s219 true e) vs G))) (
fork f 220 (
leaf f 220 (app1 (s220 true e) vs G)) (
leaf f 221 (app1 (s221 true e) vs G)))))) (
fork f 229 (
fork f 224 (
fork f 222 (
leaf f 222 (app1 (s222 true e) vs G)) (
fork f 223 (
leaf f 223 (app2 (s223 true e) vs G)) (
leaf f 224 (app2 (s224 true e) vs G)))) (
fork f 227 (
fork f 226 (
leaf f 226 (app2 (s226 true e) vs G)) (
leaf f 227 (app1 (s227 true e) vs G))) (
fork f 228 (
leaf f 228 (app2 (s228 true e) vs G)) (
leaf f 229 (app2 (s229 true e) vs G))))) (
fork f 233 (
fork f 231 (
fork f 230 (
leaf f 230 (app2 (s230 true e) vs G)) (
leaf f 231 (app2 (s231 true e) vs G))) (
fork f 232 (
leaf f 232 (app2 (s232 true e) vs G)) (
leaf f 233 (app2 (s233 true e) vs G)))) (
fork f 235 (
fork f 234 (
leaf f 234 (app1 (s234 true e) vs G)) (
leaf f 235 (app2 (s235 true e) vs G))) (
fork f 236 (
leaf f 236 (app1 (s236 true e) vs G)) (
leaf f 237 (app0 (orc 237) (hasTab Q G) (s237 true e) vs G))))))) (
fork f 252 (
fork f 244 (
fork f 240 (
fork f 238 (
leaf f 238 (app3 (s238 true e) vs G)) (
fork f 239 (
leaf f 239 (app3 (s239 true e) vs G)) (
leaf f 240 (app1 (s240 true e) vs G)))) (
fork f 242 (
fork f 241 (
leaf f 241 (app2 (s241 true e) vs G)) (
leaf f 242 (app4 (s242 true e) vs G))) (
fork f 243 (
leaf f 243 (app2 (s243 true e) vs G)) (
leaf f 244 (app2 (s244 true e) vs G))))) (
fork f 248 (
fork f 246 (
fork f 245 (
leaf f 245 (app2 (s245 true e) vs G)) (
leaf f 246 (app1 (s246 true e) vs G))) (
fork f 247 (
leaf f 247 (app2 (s247 true e) vs G)) (
leaf f 248 (app2 (s248 true e) vs G)))) (
fork f 250 (
fork f 249 (
leaf f 249 (app1 (s249 true e) vs G)) (
leaf f 250 (app2 (s250 true e) vs G))) (
fork f 251 (
leaf f 251 (app2 (s251 true e) vs G)) (
leaf f 252 (app2 (s252 true e) vs G)))))) (
fork f 260 (
fork f 256 (
fork f 254 (
fork f 253 (
leaf f 253 (app2 (s253 true e) vs G)) (
leaf f 254 (app2 (s254 true e) vs G))) (
fork f 255 (
leaf f 255 (app2 (s255 true e) vs G)) (
leaf f 256 (app3 (s256 true e) vs G)))) (
fork f 258 (
fork f 257 (
leaf f 257 (app2 (s257 true e) vs G)) (
leaf f 258 (app2 (s258 true e) vs G))) (
fork f 259 (
leaf f 259 (app2 (s259 true e) vs G)) (
leaf f 260 (app2 (s260 true e) vs G))))) (
fork f 264 (
fork f 262 (
fork f 261 (
leaf f 261 (app2 (s261 true e) vs G)) (
leaf f 262 (app3 (s262 true e) vs G))) (
fork f 263 (
leaf f 263 (app2 (s263 true e) vs G)) (
leaf f 264 (app2 (s264 true e) vs G)))) (
fork f 283 (
fork f 265 (
leaf f 265 (app1 (s265 true e) vs G)) (
leaf f 283 (app2 (s283 true e) vs G))) (
fork f 284 (
leaf f 284 (app2 (s284 true e) vs G)) (
leaf f 285 (app1 (s285 true e) vs G)))))))) (
fork f 318 (
fork f 300 (
fork f 292 (
fork f 288 (
fork f 286 (
leaf f 286 (app1 (s286 true e) vs G)) (
fork f 287 (
leaf f 287 (app2 (s287 true e) vs G)) (
leaf f 288 (app2 (s288 true e) vs G)))) (
fork f 290 (
fork f 289 (
leaf f 289 (app3 (s289 true e) vs G)) (
leaf f 290 (app1 (s290 true e) vs G))) (
fork f 291 (
leaf f 291 (app2 (s291 true e) vs G)) (
leaf f 292 (app2 (s292 true e) vs G))))) (
fork f 296 (
fork f 294 (
fork f 293 (
leaf f 293 (app2 (s293 true e) vs G)) (
leaf f 294 (app2 (s294 true e) vs G))) (
fork f 295 (
leaf f 295 (app1 (s295 true e) vs G)) (
leaf f 296 (app2 (s296 true e) vs G)))) (
fork f 298 (
fork f 297 (
leaf f 297 (app2 (s297 true e) vs G)) (
leaf f 298 (app2 (s298 true e) vs G))) (
fork f 299 (
leaf f 299 (app1 (s299 true e) vs G)) (
leaf f 300 (app1 (s300 true e) vs G)))))) (
fork f 309 (
fork f 304 (
fork f 302 (
fork f 301 (
leaf f 301 (app2 (s301 true e) vs G)) (
leaf f 302 (app2 (s302 true e) vs G))) (
fork f 303 (
leaf f 303 (app2 (s303 true e) vs G)) (
leaf f 304 (app2 (s304 true e) vs G)))) (
fork f 306 (
fork f 305 (
leaf f 305 (app2 (s305 true e) vs G)) (
leaf f 306 (app2 (s306 true e) vs G))) (
fork f 307 (
leaf f 307 (app2 (s307 true e) vs G)) (
leaf f 309 (app2 (s309 true e) vs G))))) (
fork f 314 (
fork f 312 (
fork f 311 (
leaf f 311 (app2 (s311 true e) vs G)) (
leaf f 312 (app2 (s312 true e) vs G))) (
fork f 313 (
leaf f 313 (app2 (s313 true e) vs G)) (
leaf f 314 (app1 (s314 true e) vs G)))) (
fork f 316 (
fork f 315 (
leaf f 315 (app2 (s315 true e) vs G)) (
leaf f 316 (app2 (s316 true e) vs G))) (
fork f 317 (
leaf f 317 (app3 (s317 true e) vs G)) (
leaf f 318 (app1 (s318 true e) vs G))))))) (
fork f 333 (
fork f 325 (
fork f 321 (
fork f 319 (
leaf f 319 (app1 (s319 true e) vs G)) (
fork f 320 (
leaf f 320 (app2 (s320 true e) vs G)) (
leaf f 321 (app2 (s321 true e) vs G)))) (
fork f 323 (
fork f 322 (
leaf f 322 (app1 (s322 true e) vs G)) (
leaf f 323 (app2 (s323 true e) vs G))) (
fork f 324 (
leaf f 324 (app2 (s324 true e) vs G)) (
leaf f 325 (app0 (orc 325) (hasTab Q G) (s325 true e) vs G))))) (
fork f 329 (
fork f 327 (
fork f 326 (
leaf f 326 (app2 (s326 true e) vs G)) (
leaf f 327 (app2 (s327 true e) vs G))) (
fork f 328 (
leaf f 328 (app2 (s328 true e) vs G)) (
leaf f 329 (app2 (s329 true e) vs G)))) (
fork f 331 (
fork f 330 (
leaf f 330 (app2 (s330 true e) vs G)) (
leaf f 331 (app2 (s331 true e) vs G))) (
fork f 332 (
leaf f 332 (app2 (s332 true e) vs G)) (
leaf f 333 (app2 (s333 true e) vs G)))))) (
fork f 341 (
fork f 337 (
fork f 335 (
fork f 334 (
leaf f 334 (app2 (s334 true e) vs G)) (
leaf f 335 (app2 (s335 true e) vs G))) (
fork f 336 (
leaf f 336 (app2 (s336 true e) vs G)) (
leaf f 337 (app2 (s337 true e) vs G)))) (
fork f 339 (
fork f 338 (
leaf f 338 (app2 (s338 true e) vs G)) (
leaf f 339 (app1 (s339 true e) vs G))) (
fork f 340 (
leaf f 340 (app2 (s340 true e) vs G)) (
leaf f 341 (app1 (s341 true e) vs G))))) (
fork f 345 (
fork f 343 (
fork f 342 (
leaf f 342 (app3 (s342 true e) vs G)) (
leaf f 343 (app5 (s343 true e) vs G))) (
fork f 344 (
leaf f 344 (app1 (s344 true e) vs G)) (
leaf f 345 (app1 (s345 true e) vs G)))) (
fork f 347 (
fork f 346 (
leaf f 346 (app1 (s346 true e) vs G)) (
leaf f 347 (app1 (s347 true e) vs G))) (
fork f 348 (
leaf f 348 (app2 (s348 true e) vs G)) (
leaf f 349 (app2 (s349 true e) vs G)))))))))
theorem clT_ok {orc : FuncId → Bool} {e : Ex} (h : ExLe Q e (E orc)) (f : FuncId) (vs : List Value) (G : GS) : Ref (clT orc e f vs G) ((E orc).cl f vs G) :=
  Ref.fork (
Ref.fork (
Ref.fork (
Ref.fork (
Ref.fork (
Ref.fork (
Ref.fork (
Ref.leaf (y := fun f => (E orc).cl f vs G) (Ref.app1 (fun u0 G => f3 h u0 G) vs G)) (
Ref.fork (
Ref.leaf (y := fun f => (E orc).cl f vs G) (Ref.app1 (fun u0 G => f6 h u0 G) vs G)) (
Ref.leaf (y := fun f => (E orc).cl f vs G) (Ref.app1 (fun u0 G => f7 h u0 G) vs G)))) (
Ref.fork (
Ref.fork (
Ref.leaf (y := fun f => (E orc).cl f vs G) (Ref.app1 (fun u0 G => f8 h u0 G) vs G)) (
Ref.leaf (y := fun f => (E orc).cl f vs G) (Ref.app1 (fun u0 G => f9 h u0 G) vs G))) (
Ref.fork (
Ref.leaf (y := fun f => (E orc).cl f vs G) (Ref.app2 (fun u0 u1 G => f10 h u0 u1 G) vs G)) (
Ref.leaf (y := fun f => (E orc).cl f vs G) (Ref.app2 (fun u0 u1 G => f11 h u0 u1 G) vs G))))) (
Ref.fork (
Ref.fork (
Ref.fork (
Ref.leaf (y := fun f => (E orc).cl f vs G) (Ref.app2 (fun u0 u1 G => f12 h u0 u1 G) vs G)) (
Ref.leaf (y := fun f => (E orc).cl f vs G) (Ref.app2 (fun u0 u1 G => f13 h u0 u1 G) vs G))) (
Ref.fork (
Ref.leaf (y := fun f => (E orc).cl f vs G) (Ref.app1 (fun u0 G => f14 h u0 G) vs G)) (
Ref.leaf (y := fun f => (E orc).cl f vs G) (Ref.app5 (fun u0 u1 u2 u3 u4 G => f15 h u0 u1 u2 u3 u4 G) vs G)))) (
Ref.fork (
Ref.fork (
Ref.leaf (y := fun f => (E orc).cl f vs G) (Ref.app0 (fun ho G => f16 h ho G) vs G)) (
Ref.leaf (y := fun f => (E orc).cl f vs G) (Ref.app2 (fun u0 u1 G => f17 h u0 u1 G) vs G))) (
Ref.fork (
Ref.leaf (y := fun f => (E orc).cl f vs G) (Ref.app1 (fun u0 G => f18 h u0 G) vs G)) (
Ref.leaf (y := fun f => (E orc).cl f vs G) (Ref.app0 (fun ho G => f19 h ho G) vs G)))))) (
Ref.fork (
Ref.fork (
Ref.fork (
Ref.leaf (y := fun f => (E orc).cl f vs G) (Ref.app2 (fun u0 u1 G => f25 h u0 u1 G) vs G)) (
Ref.fork (
Ref.leaf (y := fun f => (E orc).cl f vs G) (Ref.app3 (fun u0 u1 u2 G => f29 h u0 u1 u2 G) vs G)) (
Ref.leaf (y := fun f => (E orc).cl f vs G) (Ref.app2 (fun u0 u1 G => f37 h u0 u1 G) vs G)))) (
Ref.fork (
Ref.fork (
Ref.leaf (y := fun f => (E orc).cl f vs G) (Ref.app2 (fun u0 u1 G => f44 h u0 u1 G) vs G)) (
Ref.leaf (y := fun f => (E orc).cl f vs G) (Ref.app1 (fun u0 G => f45 h u0 G) vs G))) (
Ref.fork (
Ref.leaf (y := fun f => (E orc).cl f vs G) (Ref.app2 (fun u0 u1 G => f46 h u0 u1 G) vs G)) (
Ref.leaf (y := fun f => (E orc).cl f vs G) (Ref.app2 (fun u0 u1 G => f47 h u0 u1 G) vs G))))) (
Ref.fork (
Ref.fork (
Ref.fork (
Ref.leaf (y := fun f => (E orc).cl f vs G) (Ref.app1 (fun u0 G => f48 h u0 G) vs G)) (
Ref.leaf (y := fun f => (E orc).cl f vs G) (Ref.app1 (fun u0 G => f49 h u0 G) vs G))) (
Ref.fork (
Ref.leaf (y := fun f => (E orc).cl f vs G) (Ref.app0 (fun ho G => f50 h ho G) vs G)) (
Ref.leaf (y := fun f => (E orc).cl f vs G) (Ref.app3 (fun u0 u1 u2 G => f51 h u0 u1 u2 G) vs G)))) (
Ref.fork (
Ref.fork (
Ref.leaf (y := fun f => (E orc).cl f vs G) (Ref.app4 (fun u0 u1 u2 u3 G => f52 h u0 u1 u2 u3 G) vs G)) (
Ref.leaf (y := fun f => (E orc).cl f vs G) (Ref.app2 (fun u0 u1 G => f53 h u0 u1 G) vs G))) (
Ref.fork (
Ref.leaf (y := fun f => (E orc).cl f vs G) (Ref.app1 (fun u0 G => f59 h u0 G) vs G)) (
Ref.leaf (y := fun f => (E orc).cl f vs G) (Ref.app1 (fun u0 G => f60 h u0 G) vs G))))))) (
Ref.fork (
Ref.fork (
Ref.fork (
Ref.fork (
Ref.leaf (y := fun f => (E orc).cl f vs G) (Ref.app1 (fun u0 G => f61 h u0 G) vs G)) (
Ref.fork (
Ref.leaf (y := fun f => (E orc).cl f vs G) (Ref.app2 (fun u0 u1 G => f62 h u0 u1 G) vs G)) (
Ref.leaf (y := fun f => (E orc).cl f vs G) (Ref.app1 (fun u0 G => f63 h u0 G) vs G)))) (
Ref.fork (
Ref.fork (
Ref.leaf (y := fun f => (E orc).cl f vs G) (Ref.app1 (fun u0 G => f64 h u0 G) vs G)) (
Ref.leaf (y := fun f => (E orc).cl f vs G) (Ref.app2 (fun u0 u1 G => f72 h u0 u1 G) vs G))) (
Ref.fork (
Ref.leaf (y := fun f => (E orc).cl f vs G) (Ref.app5 (fun u0 u1 u2 u3 u4 G => f73 h u0 u1 u2 u3 u4 G) vs G)) (
Ref.leaf (y := fun f => (E orc).cl f vs G) (Ref.app1 (fun u0 G => f74 h u0 G) vs G))))) (
Ref.fork (
Ref.fork (
Ref.fork (
Ref.leaf (y := fun f => (E orc).cl f vs G) (Ref.app2 (fun u0 u1 G => f76 h u0 u1 G) vs G)) (
Ref.leaf (y := fun f => (E orc).cl f vs G) (Ref.app2 (fun u0 u1 G => f80 h u0 u1 G) vs G))) (
Ref.fork (
Ref.leaf (y := fun f => (E orc).cl f vs G) (Ref.app2 (fun u0 u1 G => f81 h u0 u1 G) vs G)) (
Ref.leaf (y := fun f => (E orc).cl f vs G) (Ref.app2 (fun u0 u1 G => f83 h u0 u1 G) vs G)))) (
Ref.fork (
Ref.fork (
Ref.leaf (y := fun f => (E orc).cl f vs G) (Ref.app2 (fun u0 u1 G => f84 h u0 u1 G) vs G)) (
Ref.leaf (y := fun f => (E orc).cl f vs G) (Ref.app3 (fun u0 u1 u2 G => f87 h u0 u1 u2 G) vs G))) (
Ref.fork (
Ref.leaf (y := fun f => (E orc).cl f vs G) (Ref.app1 (fun u0 G => f88 h u0 G) vs G)) (
Ref.leaf (y := fun f => (E orc).cl f vs G) (Ref.app2 (fun u0 u1 G => f89 h u0 u1 G) vs G)))))) (
Ref.fork (
Ref.fork (
Ref.fork (
Ref.fork (
Ref.leaf (y := fun f => (E orc).cl f vs G) (Ref.app2 (fun u0 u1 G => f90 h u0 u1 G) vs G)) (
Ref.leaf (y := fun f => (E orc).cl f vs G) (Ref.app1 (fun u0 G => f91 h u0 G) vs G))) (
Ref.fork (
Ref.leaf (y := fun f => (E orc).cl f vs G) (Ref.app1 (fun u0 G => f92 h u0 G) vs G)) (
Ref.leaf (y := fun f => (E orc).cl f vs G) (Ref.app1 (fun u0 G => f93 h u0 G) vs G)))) (
Ref.fork (
Ref.fork (
Ref.leaf (y := fun f => (E orc).cl f vs G) (Ref.app2 (fun u0 u1 G => f94 h u0 u1 G) vs G)) (
Ref.leaf (y := fun f => (E orc).cl f vs G) (Ref.app2 (fun u0 u1 G => f95 h u0 u1 G) vs G))) (
Ref.fork (
Ref.leaf (y := fun f => (E orc).cl f vs G) (Ref.app6 (fun u0 u1 u2 u3 u4 u5 G => f96 h u0 u1 u2 u3 u4 u5 G) vs G)) (
Ref.leaf (y := fun f => (E orc).cl f vs G) (Ref.app3 (fun u0 u1 u2 G => f97 h u0 u1 u2 G) vs G))))) (
Ref.fork (
Ref.fork (
Ref.fork (
Ref.leaf (y := fun f => (E orc).cl f vs G) (Ref.app1 (fun u0 G => f98 h u0 G) vs G)) (
Ref.leaf (y := fun f => (E orc).cl f vs G) (Ref.app2 (fun u0 u1 G => f99 h u0 u1 G) vs G))) (
Ref.fork (
Ref.leaf (y := fun f => (E orc).cl f vs G) (Ref.app3 (fun u0 u1 u2 G => f100 h u0 u1 u2 G) vs G)) (
Ref.leaf (y := fun f => (E orc).cl f vs G) (Ref.app1 (fun u0 G => f107 h u0 G) vs G)))) (
Ref.fork (
Ref.fork (
Ref.leaf (y := fun f => (E orc).cl f vs G) (Ref.app1 (fun u0 G => f108 h u0 G) vs G)) (
Ref.leaf (y := fun f => (E orc).cl f vs G) (Ref.app1 (fun u0 G => f109 h u0 G) vs G))) (
Ref.fork (
Ref.leaf (y := fun f => (E orc).cl f vs G) (Ref.app2 (fun u0 u1 G => f110 h u0 u1 G) vs G)) (
Ref.leaf (y := fun f => (E orc).cl f vs G) (Ref.app1 (fun u0 G => f117 h u0 G) vs G)))))))) (
Ref.fork (
Ref.fork (
Ref.fork (
Ref.fork (
Ref.fork (
Ref.leaf (y := fun f => (E orc).cl f vs G) (Ref.app2 (fun u0 u1 G => f118 h u0 u1 G) vs G)) (
Ref.fork (
Ref.leaf (y := fun f => (E orc).cl f vs G) (Ref.app1 (fun u0 G => f119 h u0 G) vs G)) (
Ref.leaf (y := fun f => (E orc).cl f vs G) (Ref.app2 (fun u0 u1 G => f120 h u0 u1 G) vs G)))) (
Ref.fork (
Ref.fork (
Ref.leaf (y := fun f => (E orc).cl f vs G) (Ref.app1 (fun u0 G => f122 h u0 G) vs G)) (
Ref.leaf (y := fun f => (E orc).cl f vs G) (Ref.app1 (fun u0 G => f125 h u0 G) vs G))) (
Ref.fork (
Ref.leaf (y := fun f => (E orc).cl f vs G) (Ref.app1 (fun u0 G => f126 h u0 G) vs G)) (
Ref.leaf (y := fun f => (E orc).cl f vs G) (Ref.app1 (fun u0 G => f127 h u0 G) vs G))))) (
Ref.fork (
Ref.fork (
Ref.fork (
Ref.leaf (y := fun f => (E orc).cl f vs G) (Ref.app2 (fun u0 u1 G => f128 h u0 u1 G) vs G)) (
Ref.leaf (y := fun f => (E orc).cl f vs G) (Ref.app1 (fun u0 G => f129 h u0 G) vs G))) (
Ref.fork (
Ref.leaf (y := fun f => (E orc).cl f vs G) (Ref.app1 (fun u0 G => f130 h u0 G) vs G)) (
Ref.leaf (y := fun f => (E orc).cl f vs G) (Ref.app3 (fun u0 u1 u2 G => f131 h u0 u1 u2 G) vs G)))) (
Ref.fork (
Ref.fork (
Ref.leaf (y := fun f => (E orc).cl f vs G) (Ref.app1 (fun u0 G => f132 h u0 G) vs G)) (
Ref.leaf (y := fun f => (E orc).cl f vs G) (Ref.app3 (fun u0 u1 u2 G => f133 h u0 u1 u2 G) vs G))) (
Ref.fork (
Ref.leaf (y := fun f => (E orc).cl f vs G) (Ref.app2 (fun u0 u1 G => f134 h u0 u1 G) vs G)) (
Ref.leaf (y := fun f => (E orc).cl f vs G) (Ref.app2 (fun u0 u1 G => f135 h u0 u1 G) vs G)))))) (
Ref.fork (
Ref.fork (
Ref.fork (
Ref.leaf (y := fun f => (E orc).cl f vs G) (Ref.app2 (fun u0 u1 G => f136 h u0 u1 G) vs G)) (
Ref.fork (
Ref.leaf (y := fun f => (E orc).cl f vs G) (Ref.app2 (fun u0 u1 G => f137 h u0 u1 G) vs G)) (
Ref.leaf (y := fun f => (E orc).cl f vs G) (Ref.app2 (fun u0 u1 G => f138 h u0 u1 G) vs G)))) (
Ref.fork (
Ref.fork (
Ref.leaf (y := fun f => (E orc).cl f vs G) (Ref.app1 (fun u0 G => f139 h u0 G) vs G)) (
Ref.leaf (y := fun f => (E orc).cl f vs G) (Ref.app1 (fun u0 G => f140 h u0 G) vs G))) (
Ref.fork (
Ref.leaf (y := fun f => (E orc).cl f vs G) (Ref.app2 (fun u0 u1 G => f141 h u0 u1 G) vs G)) (
Ref.leaf (y := fun f => (E orc).cl f vs G) (Ref.app1 (fun u0 G => f142 h u0 G) vs G))))) (
Ref.fork (
Ref.fork (
Ref.fork (
Ref.leaf (y := fun f => (E orc).cl f vs G) (Ref.app1 (fun u0 G => f143 h u0 G) vs G)) (
Ref.leaf (y := fun f => (E orc).cl f vs G) (Ref.app1 (fun u0 G => f144 h u0 G) vs G))) (
Ref.fork (
Ref.leaf (y := fun f => (E orc).cl f vs G) (Ref.app1 (fun u0 G => f145 h u0 G) vs G)) (
Ref.leaf (y := fun f => (E orc).cl f vs G) (Ref.app2 (fun u0 u1 G => f146 h u0 u1 G) vs G)))) (
Ref.fork (
Ref.fork (
Ref.leaf (y := fun f => (E orc).cl f vs G) (Ref.app2 (fun u0 u1 G => f147 h u0 u1 G) vs G)) (
Ref.leaf (y := fun f => (E orc).cl f vs G) (Ref.app2 (fun u0 u1 G => f148 h u0 u1 G) vs G))) (
Ref.fork (
Ref.leaf (y := fun f => (E orc).cl f vs G) (Ref.app2 (fun u0 u1 G => f149 h u0 u1 G) vs G)) (
Ref.leaf (y := fun f => (E orc).cl f vs G) (Ref.app1 (fun u0 G => f154 h u0 G) vs G))))))) (
Ref.fork (
Ref.fork (
Ref.fork (
Ref.fork (
Ref.leaf (y := fun f => (E orc).cl f vs G) (Ref.app2 (fun u0 u1 G => f156 h u0 u1 G) vs G)) (
Ref.fork (
Ref.leaf (y := fun f => (E orc).cl f vs G) (Ref.app1 (fun u0 G => f157 h u0 G) vs G)) (
Ref.leaf (y := fun f => (E orc).cl f vs G) (Ref.app1 (fun u0 G => f158 h u0 G) vs G)))) (
Ref.fork (
Ref.fork (
Ref.leaf (y := fun f => (E orc).cl f vs G) (Ref.app1 (fun u0 G => f160 h u0 G) vs G)) (
Ref.leaf (y := fun f => (E orc).cl f vs G) (Ref.app1 (fun u0 G => f161 h u0 G) vs G))) (
Ref.fork (
Ref.leaf (y := fun f => (E orc).cl f vs G) (Ref.app1 (fun u0 G => f172 h u0 G) vs G)) (
Ref.leaf (y := fun f => (E orc).cl f vs G) (Ref.app1 (fun u0 G => f173 h u0 G) vs G))))) (
Ref.fork (
Ref.fork (
Ref.fork (
Ref.leaf (y := fun f => (E orc).cl f vs G) (Ref.app2 (fun u0 u1 G => f174 h u0 u1 G) vs G)) (
Ref.leaf (y := fun f => (E orc).cl f vs G) (Ref.app2 (fun u0 u1 G => f175 h u0 u1 G) vs G))) (
Ref.fork (
Ref.leaf (y := fun f => (E orc).cl f vs G) (Ref.app1 (fun u0 G => f176 h u0 G) vs G)) (
Ref.leaf (y := fun f => (E orc).cl f vs G) (Ref.app2 (fun u0 u1 G => f177 h u0 u1 G) vs G)))) (
Ref.fork (
Ref.fork (
Ref.leaf (y := fun f => (E orc).cl f vs G) (Ref.app2 (fun u0 u1 G => f178 h u0 u1 G) vs G)) (
Ref.leaf (y := fun f => (E orc).cl f vs G) (Ref.app1 (fun u0 G => f179 h u0 G) vs G))) (
Ref.fork (
Ref.leaf (y := fun f => (E orc).cl f vs G) (Ref.app5 (fun u0 u1 u2 u3 u4 G => f180 h u0 u1 u2 u3 u4 G) vs G)) (
Ref.leaf (y := fun f => (E orc).cl f vs G) (Ref.app1 (fun u0 G => f181 h u0 G) vs G)))))) (
Ref.fork (
Ref.fork (
Ref.fork (
Ref.fork (
Ref.leaf (y := fun f => (E orc).cl f vs G) (Ref.app1 (fun u0 G => f182 h u0 G) vs G)) (
Ref.leaf (y := fun f => (E orc).cl f vs G) (Ref.app4 (fun u0 u1 u2 u3 G => f183 h u0 u1 u2 u3 G) vs G))) (
Ref.fork (
Ref.leaf (y := fun f => (E orc).cl f vs G) (Ref.app1 (fun u0 G => f184 h u0 G) vs G)) (
Ref.leaf (y := fun f => (E orc).cl f vs G) (Ref.app1 (fun u0 G => f185 h u0 G) vs G)))) (
Ref.fork (
Ref.fork (
Ref.leaf (y := fun f => (E orc).cl f vs G) (Ref.app3 (fun u0 u1 u2 G => f186 h u0 u1 u2 G) vs G)) (
Ref.leaf (y := fun f => (E orc).cl f vs G) (Ref.app1 (fun u0 G => f187 h u0 G) vs G))) (
Ref.fork (
Ref.leaf (y := fun f => (E orc).cl f vs G) (Ref.app2 (fun u0 u1 G => f188 h u0 u1 G) vs G)) (
Ref.leaf (y := fun f => (E orc).cl f vs G) (Ref.app2 (fun u0 u1 G => f191 h u0 u1 G) vs G))))) (
Ref.fork (
Ref.fork (
Ref.fork (
Ref.leaf (y := fun f => (E orc).cl f vs G) (Ref.app2 (fun u0 u1 G => f193 h u0 u1 G) vs G)) (
Ref.leaf (y := fun f => (E orc).cl f vs G) (Ref.app0 (fun ho G => f195 h ho G) vs G))) (
Ref.fork (
Ref.leaf (y := fun f => (E orc).cl f vs G) (Ref.app2 (fun u0 u1 G => f196 h u0 u1 G) vs G)) (
Ref.leaf (y := fun f => (E orc).cl f vs G) (Ref.app1 (fun u0 G => f197 h u0 G) vs G)))) (
Ref.fork (
Ref.fork (
Ref.leaf (y := fun f => (E orc).cl f vs G) (Ref.app1 (fun u0 G => f198 h u0 G) vs G)) (
Ref.leaf (y := fun f => (E orc).cl f vs G) (Ref.app2 (fun u0 u1 G => f199 h u0 u1 G) vs G))) (
Ref.fork (
Ref.leaf (y := fun f => (E orc).cl f vs G) (Ref.app2 (fun u0 u1 G => f205 h u0 u1 G) vs G)) (
Ref.leaf (y := fun f => (E orc).cl f vs G) (Ref.app2 (fun u0 u1 G => f206 h u0 u1 G) vs G))))))))) (
Ref.fork (
Ref.fork (
Ref.fork (
Ref.fork (
Ref.fork (
Ref.fork (
Ref.leaf (y := fun f => (E orc).cl f vs G) (Ref.app2 (fun u0 u1 G => f207 h u0 u1 G) vs G)) (
Ref.fork (
Ref.leaf (y := fun f => (E orc).cl f vs G) (Ref.app1 (fun u0 G => f208 h u0 G) vs G)) (
Ref.leaf (y := fun f => (E orc).cl f vs G) (Ref.app1 (fun u0 G => f209 h u0 G) vs G)))) (
Ref.fork (
Ref.fork (
Ref.leaf (y := fun f => (E orc).cl f vs G) (Ref.app1 (fun u0 G => f210 h u0 G) vs G)) (
Ref.leaf (y := fun f => (E orc).cl f vs G) (Ref.app4 (fun u0 u1 u2 u3 G => f211 h u0 u1 u2 u3 G) vs G))) (
Ref.fork (
Ref.leaf (y := fun f => (E orc).cl f vs G) (Ref.app4 (fun u0 u1 u2 u3 G => f212 h u0 u1 u2 u3 G) vs G)) (
Ref.leaf (y := fun f => (E orc).cl f vs G) (Ref.app5 (fun u0 u1 u2 u3 u4 G => f213 h u0 u1 u2 u3 u4 G) vs G))))) (
Ref.fork (
Ref.fork (
Ref.fork (
Ref.leaf (y := fun f => (E orc).cl f vs G) (Ref.app3 (fun u0 u1 u2 G => f214 h u0 u1 u2 G) vs G)) (
Ref.leaf (y := fun f => (E orc).cl f vs G) (Ref.app2 (fun u0 u1 G => f215 h u0 u1 G) vs G))) (
Ref.fork (
Ref.leaf (y := fun f => (E orc).cl f vs G) (Ref.app3 (fun u0 u1 u2 G => f216 h u0 u1 u2 G) vs G)) (
Ref.leaf (y := fun f => (E orc).cl f vs G) (Ref.app1 (fun u0 G => f217 h u0 G) vs G)))) (
Ref.fork (
Ref.fork (
Ref.leaf (y := fun f => (E orc).cl f vs G) (Ref.app2 (fun u0 u1 G => f218 h u0 u1 G) vs G)) (
Ref.leaf (y := fun f => (E orc).cl f vs G) (Ref.app1 (fun u0 G => f219 h u0 G) vs G))) (
Ref.fork (
Ref.leaf (y := fun f => (E orc).cl f vs G) (Ref.app1 (fun u0 G => f220 h u0 G) vs G)) (
Ref.leaf (y := fun f => (E orc).cl f vs G) (Ref.app1 (fun u0 G => f221 h u0 G) vs G)))))) (
Ref.fork (
Ref.fork (
Ref.fork (
Ref.leaf (y := fun f => (E orc).cl f vs G) (Ref.app1 (fun u0 G => f222 h u0 G) vs G)) (
Ref.fork (
Ref.leaf (y := fun f => (E orc).cl f vs G) (Ref.app2 (fun u0 u1 G => f223 h u0 u1 G) vs G)) (
Ref.leaf (y := fun f => (E orc).cl f vs G) (Ref.app2 (fun u0 u1 G => f224 h u0 u1 G) vs G)))) (
Ref.fork (
Ref.fork (
Ref.leaf (y := fun f => (E orc).cl f vs G) (Ref.app2 (fun u0 u1 G => f226 h u0 u1 G) vs G)) (
Ref.leaf (y := fun f => (E orc).cl f vs G) (Ref.app1 (fun u0 G => f227 h u0 G) vs G))) (
Ref.fork (
Ref.leaf (y := fun f => (E orc).cl f vs G) (Ref.app2 (fun u0 u1 G => f228 h u0 u1 G) vs G)) (
Ref.leaf (y := fun f => (E orc).cl f vs G) (Ref.app2 (fun u0 u1 G => f229 h u0 u1 G) vs G))))) (
Ref.fork (
Ref.fork (
Ref.fork (
Ref.leaf (y := fun f => (E orc).cl f vs G) (Ref.app2 (fun u0 u1 G => f230 h u0 u1 G) vs G)) (
Ref.leaf (y := fun f => (E orc).cl f vs G) (Ref.app2 (fun u0 u1 G => f231 h u0 u1 G) vs G))) (
Ref.fork (
Ref.leaf (y := fun f => (E orc).cl f vs G) (Ref.app2 (fun u0 u1 G => f232 h u0 u1 G) vs G)) (
Ref.leaf (y := fun f => (E orc).cl f vs G) (Ref.app2 (fun u0 u1 G => f233 h u0 u1 G) vs G)))) (
Ref.fork (
Ref.fork (
Ref.leaf (y := fun f => (E orc).cl f vs G) (Ref.app1 (fun u0 G => f234 h u0 G) vs G)) (
Ref.leaf (y := fun f => (E orc).cl f vs G) (Ref.app2 (fun u0 u1 G => f235 h u0 u1 G) vs G))) (
Ref.fork (
Ref.leaf (y := fun f => (E orc).cl f vs G) (Ref.app1 (fun u0 G => f236 h u0 G) vs G)) (
Ref.leaf (y := fun f => (E orc).cl f vs G) (Ref.app0 (fun ho G => f237 h ho G) vs G))))))) (
Ref.fork (
Ref.fork (
Ref.fork (
Ref.fork (
Ref.leaf (y := fun f => (E orc).cl f vs G) (Ref.app3 (fun u0 u1 u2 G => f238 h u0 u1 u2 G) vs G)) (
Ref.fork (
Ref.leaf (y := fun f => (E orc).cl f vs G) (Ref.app3 (fun u0 u1 u2 G => f239 h u0 u1 u2 G) vs G)) (
Ref.leaf (y := fun f => (E orc).cl f vs G) (Ref.app1 (fun u0 G => f240 h u0 G) vs G)))) (
Ref.fork (
Ref.fork (
Ref.leaf (y := fun f => (E orc).cl f vs G) (Ref.app2 (fun u0 u1 G => f241 h u0 u1 G) vs G)) (
Ref.leaf (y := fun f => (E orc).cl f vs G) (Ref.app4 (fun u0 u1 u2 u3 G => f242 h u0 u1 u2 u3 G) vs G))) (
Ref.fork (
Ref.leaf (y := fun f => (E orc).cl f vs G) (Ref.app2 (fun u0 u1 G => f243 h u0 u1 G) vs G)) (
Ref.leaf (y := fun f => (E orc).cl f vs G) (Ref.app2 (fun u0 u1 G => f244 h u0 u1 G) vs G))))) (
Ref.fork (
Ref.fork (
Ref.fork (
Ref.leaf (y := fun f => (E orc).cl f vs G) (Ref.app2 (fun u0 u1 G => f245 h u0 u1 G) vs G)) (
Ref.leaf (y := fun f => (E orc).cl f vs G) (Ref.app1 (fun u0 G => f246 h u0 G) vs G))) (
Ref.fork (
Ref.leaf (y := fun f => (E orc).cl f vs G) (Ref.app2 (fun u0 u1 G => f247 h u0 u1 G) vs G)) (
Ref.leaf (y := fun f => (E orc).cl f vs G) (Ref.app2 (fun u0 u1 G => f248 h u0 u1 G) vs G)))) (
Ref.fork (
Ref.fork (
Ref.leaf (y := fun f => (E orc).cl f vs G) (Ref.app1 (fun u0 G => f249 h u0 G) vs G)) (
Ref.leaf (y := fun f => (E orc).cl f vs G) (Ref.app2 (fun u0 u1 G => f250 h u0 u1 G) vs G))) (
Ref.fork (
Ref.leaf (y := fun f => (E orc).cl f vs G) (Ref.app2 (fun u0 u1 G => f251 h u0 u1 G) vs G)) (
Ref.leaf (y := fun f => (E orc).cl f vs G) (Ref.app2 (fun u0 u1 G => f252 h u0 u1 G) vs G)))))) (
Ref.fork (
Ref.fork (
Ref.fork (
Ref.fork (
Ref.leaf (y := fun f => (E orc).cl f vs G) (Ref.app2 (fun u0 u1 G => f253 h u0 u1 G) vs G)) (
Ref.leaf (y := fun f => (E orc).cl f vs G) (Ref.app2 (fun u0 u1 G => f254 h u0 u1 G) vs G))) (
Ref.fork (
Ref.leaf (y := fun f => (E orc).cl f vs G) (Ref.app2 (fun u0 u1 G => f255 h u0 u1 G) vs G)) (
Ref.leaf (y := fun f => (E orc).cl f vs G) (Ref.app3 (fun u0 u1 u2 G => f256 h u0 u1 u2 G) vs G)))) (
Ref.fork (
Ref.fork (
Ref.leaf (y := fun f => (E orc).cl f vs G) (Ref.app2 (fun u0 u1 G => f257 h u0 u1 G) vs G)) (
Ref.leaf (y := fun f => (E orc).cl f vs G) (Ref.app2 (fun u0 u1 G => f258 h u0 u1 G) vs G))) (
Ref.fork (
Ref.leaf (y := fun f => (E orc).cl f vs G) (Ref.app2 (fun u0 u1 G => f259 h u0 u1 G) vs G)) (
Ref.leaf (y := fun f => (E orc).cl f vs G) (Ref.app2 (fun u0 u1 G => f260 h u0 u1 G) vs G))))) (
Ref.fork (
Ref.fork (
Ref.fork (
Ref.leaf (y := fun f => (E orc).cl f vs G) (Ref.app2 (fun u0 u1 G => f261 h u0 u1 G) vs G)) (
Ref.leaf (y := fun f => (E orc).cl f vs G) (Ref.app3 (fun u0 u1 u2 G => f262 h u0 u1 u2 G) vs G))) (
Ref.fork (
Ref.leaf (y := fun f => (E orc).cl f vs G) (Ref.app2 (fun u0 u1 G => f263 h u0 u1 G) vs G)) (
Ref.leaf (y := fun f => (E orc).cl f vs G) (Ref.app2 (fun u0 u1 G => f264 h u0 u1 G) vs G)))) (
Ref.fork (
Ref.fork (
Ref.leaf (y := fun f => (E orc).cl f vs G) (Ref.app1 (fun u0 G => f265 h u0 G) vs G)) (
Ref.leaf (y := fun f => (E orc).cl f vs G) (Ref.app2 (fun u0 u1 G => f283 h u0 u1 G) vs G))) (
Ref.fork (
Ref.leaf (y := fun f => (E orc).cl f vs G) (Ref.app2 (fun u0 u1 G => f284 h u0 u1 G) vs G)) (
Ref.leaf (y := fun f => (E orc).cl f vs G) (Ref.app1 (fun u0 G => f285 h u0 G) vs G)))))))) (
Ref.fork (
Ref.fork (
Ref.fork (
Ref.fork (
Ref.fork (
Ref.leaf (y := fun f => (E orc).cl f vs G) (Ref.app1 (fun u0 G => f286 h u0 G) vs G)) (
Ref.fork (
Ref.leaf (y := fun f => (E orc).cl f vs G) (Ref.app2 (fun u0 u1 G => f287 h u0 u1 G) vs G)) (
Ref.leaf (y := fun f => (E orc).cl f vs G) (Ref.app2 (fun u0 u1 G => f288 h u0 u1 G) vs G)))) (
Ref.fork (
Ref.fork (
Ref.leaf (y := fun f => (E orc).cl f vs G) (Ref.app3 (fun u0 u1 u2 G => f289 h u0 u1 u2 G) vs G)) (
Ref.leaf (y := fun f => (E orc).cl f vs G) (Ref.app1 (fun u0 G => f290 h u0 G) vs G))) (
Ref.fork (
Ref.leaf (y := fun f => (E orc).cl f vs G) (Ref.app2 (fun u0 u1 G => f291 h u0 u1 G) vs G)) (
Ref.leaf (y := fun f => (E orc).cl f vs G) (Ref.app2 (fun u0 u1 G => f292 h u0 u1 G) vs G))))) (
Ref.fork (
Ref.fork (
Ref.fork (
Ref.leaf (y := fun f => (E orc).cl f vs G) (Ref.app2 (fun u0 u1 G => f293 h u0 u1 G) vs G)) (
Ref.leaf (y := fun f => (E orc).cl f vs G) (Ref.app2 (fun u0 u1 G => f294 h u0 u1 G) vs G))) (
Ref.fork (
Ref.leaf (y := fun f => (E orc).cl f vs G) (Ref.app1 (fun u0 G => f295 h u0 G) vs G)) (
Ref.leaf (y := fun f => (E orc).cl f vs G) (Ref.app2 (fun u0 u1 G => f296 h u0 u1 G) vs G)))) (
Ref.fork (
Ref.fork (
Ref.leaf (y := fun f => (E orc).cl f vs G) (Ref.app2 (fun u0 u1 G => f297 h u0 u1 G) vs G)) (
Ref.leaf (y := fun f => (E orc).cl f vs G) (Ref.app2 (fun u0 u1 G => f298 h u0 u1 G) vs G))) (
Ref.fork (
Ref.leaf (y := fun f => (E orc).cl f vs G) (Ref.app1 (fun u0 G => f299 h u0 G) vs G)) (
Ref.leaf (y := fun f => (E orc).cl f vs G) (Ref.app1 (fun u0 G => f300 h u0 G) vs G)))))) (
Ref.fork (
Ref.fork (
Ref.fork (
Ref.fork (
Ref.leaf (y := fun f => (E orc).cl f vs G) (Ref.app2 (fun u0 u1 G => f301 h u0 u1 G) vs G)) (
Ref.leaf (y := fun f => (E orc).cl f vs G) (Ref.app2 (fun u0 u1 G => f302 h u0 u1 G) vs G))) (
Ref.fork (
Ref.leaf (y := fun f => (E orc).cl f vs G) (Ref.app2 (fun u0 u1 G => f303 h u0 u1 G) vs G)) (
Ref.leaf (y := fun f => (E orc).cl f vs G) (Ref.app2 (fun u0 u1 G => f304 h u0 u1 G) vs G)))) (
Ref.fork (
Ref.fork (
Ref.leaf (y := fun f => (E orc).cl f vs G) (Ref.app2 (fun u0 u1 G => f305 h u0 u1 G) vs G)) (
Ref.leaf (y := fun f => (E orc).cl f vs G) (Ref.app2 (fun u0 u1 G => f306 h u0 u1 G) vs G))) (
Ref.fork (
Ref.leaf (y := fun f => (E orc).cl f vs G) (Ref.app2 (fun u0 u1 G => f307 h u0 u1 G) vs G)) (
Ref.leaf (y := fun f => (E orc).cl f vs G) (Ref.app2 (fun u0 u1 G => f309 h u0 u1 G) vs G))))) (
Ref.fork (
Ref.fork (
Ref.fork (
Ref.leaf (y := fun f => (E orc).cl f vs G) (Ref.app2 (fun u0 u1 G => f311 h u0 u1 G) vs G)) (
Ref.leaf (y := fun f => (E orc).cl f vs G) (Ref.app2 (fun u0 u1 G => f312 h u0 u1 G) vs G))) (
Ref.fork (
Ref.leaf (y := fun f => (E orc).cl f vs G) (Ref.app2 (fun u0 u1 G => f313 h u0 u1 G) vs G)) (
Ref.leaf (y := fun f => (E orc).cl f vs G) (Ref.app1 (fun u0 G => f314 h u0 G) vs G)))) (
Ref.fork (
Ref.fork (
Ref.leaf (y := fun f => (E orc).cl f vs G) (Ref.app2 (fun u0 u1 G => f315 h u0 u1 G) vs G)) (
Ref.leaf (y := fun f => (E orc).cl f vs G) (Ref.app2 (fun u0 u1 G => f316 h u0 u1 G) vs G))) (
Ref.fork (
Ref.leaf (y := fun f => (E orc).cl f vs G) (Ref.app3 (fun u0 u1 u2 G => f317 h u0 u1 u2 G) vs G)) (
Ref.leaf (y := fun f => (E orc).cl f vs G) (Ref.app1 (fun u0 G => f318 h u0 G) vs G))))))) (
Ref.fork (
Ref.fork (
Ref.fork (
Ref.fork (
Ref.leaf (y := fun f => (E orc).cl f vs G) (Ref.app1 (fun u0 G => f319 h u0 G) vs G)) (
Ref.fork (
Ref.leaf (y := fun f => (E orc).cl f vs G) (Ref.app2 (fun u0 u1 G => f320 h u0 u1 G) vs G)) (
Ref.leaf (y := fun f => (E orc).cl f vs G) (Ref.app2 (fun u0 u1 G => f321 h u0 u1 G) vs G)))) (
Ref.fork (
Ref.fork (
Ref.leaf (y := fun f => (E orc).cl f vs G) (Ref.app1 (fun u0 G => f322 h u0 G) vs G)) (
Ref.leaf (y := fun f => (E orc).cl f vs G) (Ref.app2 (fun u0 u1 G => f323 h u0 u1 G) vs G))) (
Ref.fork (
Ref.leaf (y := fun f => (E orc).cl f vs G) (Ref.app2 (fun u0 u1 G => f324 h u0 u1 G) vs G)) (
Ref.leaf (y := fun f => (E orc).cl f vs G) (Ref.app0 (fun ho G => f325 h ho G) vs G))))) (
Ref.fork (
Ref.fork (
Ref.fork (
Ref.leaf (y := fun f => (E orc).cl f vs G) (Ref.app2 (fun u0 u1 G => f326 h u0 u1 G) vs G)) (
Ref.leaf (y := fun f => (E orc).cl f vs G) (Ref.app2 (fun u0 u1 G => f327 h u0 u1 G) vs G))) (
Ref.fork (
Ref.leaf (y := fun f => (E orc).cl f vs G) (Ref.app2 (fun u0 u1 G => f328 h u0 u1 G) vs G)) (
Ref.leaf (y := fun f => (E orc).cl f vs G) (Ref.app2 (fun u0 u1 G => f329 h u0 u1 G) vs G)))) (
Ref.fork (
Ref.fork (
Ref.leaf (y := fun f => (E orc).cl f vs G) (Ref.app2 (fun u0 u1 G => f330 h u0 u1 G) vs G)) (
Ref.leaf (y := fun f => (E orc).cl f vs G) (Ref.app2 (fun u0 u1 G => f331 h u0 u1 G) vs G))) (
Ref.fork (
Ref.leaf (y := fun f => (E orc).cl f vs G) (Ref.app2 (fun u0 u1 G => f332 h u0 u1 G) vs G)) (
Ref.leaf (y := fun f => (E orc).cl f vs G) (Ref.app2 (fun u0 u1 G => f333 h u0 u1 G) vs G)))))) (
Ref.fork (
Ref.fork (
Ref.fork (
Ref.fork (
Ref.leaf (y := fun f => (E orc).cl f vs G) (Ref.app2 (fun u0 u1 G => f334 h u0 u1 G) vs G)) (
Ref.leaf (y := fun f => (E orc).cl f vs G) (Ref.app2 (fun u0 u1 G => f335 h u0 u1 G) vs G))) (
Ref.fork (
Ref.leaf (y := fun f => (E orc).cl f vs G) (Ref.app2 (fun u0 u1 G => f336 h u0 u1 G) vs G)) (
Ref.leaf (y := fun f => (E orc).cl f vs G) (Ref.app2 (fun u0 u1 G => f337 h u0 u1 G) vs G)))) (
Ref.fork (
Ref.fork (
Ref.leaf (y := fun f => (E orc).cl f vs G) (Ref.app2 (fun u0 u1 G => f338 h u0 u1 G) vs G)) (
Ref.leaf (y := fun f => (E orc).cl f vs G) (Ref.app1 (fun u0 G => f339 h u0 G) vs G))) (
Ref.fork (
Ref.leaf (y := fun f => (E orc).cl f vs G) (Ref.app2 (fun u0 u1 G => f340 h u0 u1 G) vs G)) (
Ref.leaf (y := fun f => (E orc).cl f vs G) (Ref.app1 (fun u0 G => f341 h u0 G) vs G))))) (
Ref.fork (
Ref.fork (
Ref.fork (
Ref.leaf (y := fun f => (E orc).cl f vs G) (Ref.app3 (fun u0 u1 u2 G => f342 h u0 u1 u2 G) vs G)) (
Ref.leaf (y := fun f => (E orc).cl f vs G) (Ref.app5 (fun u0 u1 u2 u3 u4 G => f343 h u0 u1 u2 u3 u4 G) vs G))) (
Ref.fork (
Ref.leaf (y := fun f => (E orc).cl f vs G) (Ref.app1 (fun u0 G => f344 h u0 G) vs G)) (
Ref.leaf (y := fun f => (E orc).cl f vs G) (Ref.app1 (fun u0 G => f345 h u0 G) vs G)))) (
Ref.fork (
Ref.fork (
Ref.leaf (y := fun f => (E orc).cl f vs G) (Ref.app1 (fun u0 G => f346 h u0 G) vs G)) (
Ref.leaf (y := fun f => (E orc).cl f vs G) (Ref.app1 (fun u0 G => f347 h u0 G) vs G))) (
Ref.fork (
Ref.leaf (y := fun f => (E orc).cl f vs G) (Ref.app2 (fun u0 u1 G => f348 h u0 u1 G) vs G)) (
Ref.leaf (y := fun f => (E orc).cl f vs G) (Ref.app2 (fun u0 u1 G => f349 h u0 u1 G) vs G)))))))))
noncomputable def lpT (FUEL : Nat) (e : Ex) (f k : Nat) (τ : Env) (G : GS) : Option (Exit × Env × GS) :=
  fork f 188 (
fork f 94 (
fork f 51 (
fork f 3 (
leaf f 3 (leaf k 0 (lpS 156 (b3_0 true e) FUEL τ G))) (
leaf f 51 (leaf k 0 (lpS 29 (b51_0 true e) FUEL τ G)))) (
fork f 53 (
leaf f 53 (leaf k 0 (lpS 24 (b53_0 true e) FUEL τ G))) (
fork f 80 (
leaf f 80 (leaf k 0 (lpS 30 (b80_0 true e) FUEL τ G))) (
leaf f 94 (leaf k 0 (lpS 91 (b94_0 true e) FUEL τ G)))))) (
fork f 97 (
fork f 96 (
leaf f 96 (leaf k 0 (lpS 35 (b96_0 true e) FUEL τ G))) (
leaf f 97 (leaf k 0 (lpS 29 (b97_0 true e) FUEL τ G)))) (
fork f 99 (
leaf f 99 (leaf k 0 (lpS 23 (b99_0 true e) FUEL τ G))) (
fork f 147 (
leaf f 147 (leaf k 0 (lpS 29 (b147_0 true e) FUEL τ G))) (
leaf f 188 (leaf k 0 (lpS 34 (b188_0 true e) FUEL τ G))))))) (
fork f 284 (
fork f 222 (
fork f 199 (
leaf f 199 (leaf k 0 (lpS 18 (b199_0 true e) FUEL τ G))) (
leaf f 222 (leaf k 0 (lpS 24 (b222_0 true e) FUEL τ G)))) (
fork f 224 (
leaf f 224 (leaf k 0 (lpS 24 (b224_0 true e) FUEL τ G))) (
fork f 256 (
leaf f 256 (leaf k 0 (lpS 25 (b256_0 true e) FUEL τ G))) (
leaf f 284 (leaf k 0 (lpS 162 (b284_0 true e) FUEL τ G)))))) (
fork f 327 (
fork f 294 (
leaf f 294 (leaf k 0 (lpS 195 (b294_0 true e) FUEL τ G))) (
fork f 321 (
leaf f 321 (leaf k 0 (lpS 36 (b321_0 true e) FUEL τ G))) (
leaf f 327 (leaf k 0 (lpS 66 (b327_0 true e) FUEL τ G))))) (
fork f 339 (
leaf f 339 (leaf k 0 (lpS 20 (b339_0 true e) FUEL τ G))) (
fork f 345 (
leaf f 345 (leaf k 0 (lpS 20 (b345_0 true e) FUEL τ G))) (
leaf f 346 (leaf k 0 (lpS 20 (b346_0 true e) FUEL τ G)))))))
theorem lpT_ok {orc : FuncId → Bool} {e : Ex} (h : ExLe Q e (E orc)) (FUEL f k : Nat) (τ : Env) (G : GS) : Ref (lpT FUEL e f k τ G) (mapE ((E orc).lp (codeAt Q f k) (lst (nOf Q f) τ) G)) :=
  Ref.fork (
Ref.fork (
Ref.fork (
Ref.fork (
Ref.leaf (y := fun f => mapE ((E orc).lp (codeAt Q f k) (lst (nOf Q f) τ) G)) (Ref.leaf (y := fun k => mapE ((E orc).lp (codeAt Q 3 k) (lst (nOf Q 3) τ) G)) (lp_leaf (c := (subAt [1, 1, 1, 1, 1, 0, 1, 0, 0] (bodyOf Tryz.f3))) (l3_0 h) _ _ _))) (
Ref.leaf (y := fun f => mapE ((E orc).lp (codeAt Q f k) (lst (nOf Q f) τ) G)) (Ref.leaf (y := fun k => mapE ((E orc).lp (codeAt Q 51 k) (lst (nOf Q 51) τ) G)) (lp_leaf (c := (subAt [1, 1, 0, 1, 0, 0] (bodyOf Tryz.f51))) (l51_0 h) _ _ _)))) (
Ref.fork (
Ref.leaf (y := fun f => mapE ((E orc).lp (codeAt Q f k) (lst (nOf Q f) τ) G)) (Ref.leaf (y := fun k => mapE ((E orc).lp (codeAt Q 53 k) (lst (nOf Q 53) τ) G)) (lp_leaf (c := (subAt [1, 1, 1, 1, 0, 0] (bodyOf Tryz.f53))) (l53_0 h) _ _ _))) (
Ref.fork (
Ref.leaf (y := fun f => mapE ((E orc).lp (codeAt Q f k) (lst (nOf Q f) τ) G)) (Ref.leaf (y := fun k => mapE ((E orc).lp (codeAt Q 80 k) (lst (nOf Q 80) τ) G)) (lp_leaf (c := (subAt [1, 1, 0, 1, 0, 0] (bodyOf Tryz.f80))) (l80_0 h) _ _ _))) (
Ref.leaf (y := fun f => mapE ((E orc).lp (codeAt Q f k) (lst (nOf Q f) τ) G)) (Ref.leaf (y := fun k => mapE ((E orc).lp (codeAt Q 94 k) (lst (nOf Q 94) τ) G)) (lp_leaf (c := (subAt [1, 0, 1, 1, 1, 1, 1, 0, 0] (bodyOf Tryz.f94))) (l94_0 h) _ _ _)))))) (
Ref.fork (
Ref.fork (
Ref.leaf (y := fun f => mapE ((E orc).lp (codeAt Q f k) (lst (nOf Q f) τ) G)) (Ref.leaf (y := fun k => mapE ((E orc).lp (codeAt Q 96 k) (lst (nOf Q 96) τ) G)) (lp_leaf (c := (subAt [1, 1, 1, 0, 0, 0] (bodyOf Tryz.f96))) (l96_0 h) _ _ _))) (
Ref.leaf (y := fun f => mapE ((E orc).lp (codeAt Q f k) (lst (nOf Q f) τ) G)) (Ref.leaf (y := fun k => mapE ((E orc).lp (codeAt Q 97 k) (lst (nOf Q 97) τ) G)) (lp_leaf (c := (subAt [1, 1, 0, 1, 0, 0] (bodyOf Tryz.f97))) (l97_0 h) _ _ _)))) (
Ref.fork (
Ref.leaf (y := fun f => mapE ((E orc).lp (codeAt Q f k) (lst (nOf Q f) τ) G)) (Ref.leaf (y := fun k => mapE ((E orc).lp (codeAt Q 99 k) (lst (nOf Q 99) τ) G)) (lp_leaf (c := (subAt [1, 1, 1, 1, 0, 0] (bodyOf Tryz.f99))) (l99_0 h) _ _ _))) (
Ref.fork (
Ref.leaf (y := fun f => mapE ((E orc).lp (codeAt Q f k) (lst (nOf Q f) τ) G)) (Ref.leaf (y := fun k => mapE ((E orc).lp (codeAt Q 147 k) (lst (nOf Q 147) τ) G)) (lp_leaf (c := (subAt [1, 1, 1, 1, 1, 0, 0] (bodyOf Tryz.f147))) (l147_0 h) _ _ _))) (
Ref.leaf (y := fun f => mapE ((E orc).lp (codeAt Q f k) (lst (nOf Q f) τ) G)) (Ref.leaf (y := fun k => mapE ((E orc).lp (codeAt Q 188 k) (lst (nOf Q 188) τ) G)) (lp_leaf (c := (subAt [1, 1, 1, 1, 0, 0] (bodyOf Tryz.f188))) (l188_0 h) _ _ _))))))) (
Ref.fork (
Ref.fork (
Ref.fork (
Ref.leaf (y := fun f => mapE ((E orc).lp (codeAt Q f k) (lst (nOf Q f) τ) G)) (Ref.leaf (y := fun k => mapE ((E orc).lp (codeAt Q 199 k) (lst (nOf Q 199) τ) G)) (lp_leaf (c := (subAt [1, 0, 0] (bodyOf Tryz.f199))) (l199_0 h) _ _ _))) (
Ref.leaf (y := fun f => mapE ((E orc).lp (codeAt Q f k) (lst (nOf Q f) τ) G)) (Ref.leaf (y := fun k => mapE ((E orc).lp (codeAt Q 222 k) (lst (nOf Q 222) τ) G)) (lp_leaf (c := (subAt [1, 0, 1, 0, 0] (bodyOf Tryz.f222))) (l222_0 h) _ _ _)))) (
Ref.fork (
Ref.leaf (y := fun f => mapE ((E orc).lp (codeAt Q f k) (lst (nOf Q f) τ) G)) (Ref.leaf (y := fun k => mapE ((E orc).lp (codeAt Q 224 k) (lst (nOf Q 224) τ) G)) (lp_leaf (c := (subAt [1, 1, 0, 1, 0, 0] (bodyOf Tryz.f224))) (l224_0 h) _ _ _))) (
Ref.fork (
Ref.leaf (y := fun f => mapE ((E orc).lp (codeAt Q f k) (lst (nOf Q f) τ) G)) (Ref.leaf (y := fun k => mapE ((E orc).lp (codeAt Q 256 k) (lst (nOf Q 256) τ) G)) (lp_leaf (c := (subAt [1, 1, 0, 0] (bodyOf Tryz.f256))) (l256_0 h) _ _ _))) (
Ref.leaf (y := fun f => mapE ((E orc).lp (codeAt Q f k) (lst (nOf Q f) τ) G)) (Ref.leaf (y := fun k => mapE ((E orc).lp (codeAt Q 284 k) (lst (nOf Q 284) τ) G)) (lp_leaf (c := (subAt [1, 0, 1, 1, 0, 0, 0] (bodyOf Tryz.f284))) (l284_0 h) _ _ _)))))) (
Ref.fork (
Ref.fork (
Ref.leaf (y := fun f => mapE ((E orc).lp (codeAt Q f k) (lst (nOf Q f) τ) G)) (Ref.leaf (y := fun k => mapE ((E orc).lp (codeAt Q 294 k) (lst (nOf Q 294) τ) G)) (lp_leaf (c := (subAt [1, 0, 1, 1, 1, 1, 1, 0, 0, 0] (bodyOf Tryz.f294))) (l294_0 h) _ _ _))) (
Ref.fork (
Ref.leaf (y := fun f => mapE ((E orc).lp (codeAt Q f k) (lst (nOf Q f) τ) G)) (Ref.leaf (y := fun k => mapE ((E orc).lp (codeAt Q 321 k) (lst (nOf Q 321) τ) G)) (lp_leaf (c := (subAt [1, 1, 0, 1, 0, 0] (bodyOf Tryz.f321))) (l321_0 h) _ _ _))) (
Ref.leaf (y := fun f => mapE ((E orc).lp (codeAt Q f k) (lst (nOf Q f) τ) G)) (Ref.leaf (y := fun k => mapE ((E orc).lp (codeAt Q 327 k) (lst (nOf Q 327) τ) G)) (lp_leaf (c := (subAt [1, 0, 1, 1, 0, 1, 0, 0] (bodyOf Tryz.f327))) (l327_0 h) _ _ _))))) (
Ref.fork (
Ref.leaf (y := fun f => mapE ((E orc).lp (codeAt Q f k) (lst (nOf Q f) τ) G)) (Ref.leaf (y := fun k => mapE ((E orc).lp (codeAt Q 339 k) (lst (nOf Q 339) τ) G)) (lp_leaf (c := (subAt [1, 1, 0, 1, 0, 0] (bodyOf Tryz.f339))) (l339_0 h) _ _ _))) (
Ref.fork (
Ref.leaf (y := fun f => mapE ((E orc).lp (codeAt Q f k) (lst (nOf Q f) τ) G)) (Ref.leaf (y := fun k => mapE ((E orc).lp (codeAt Q 345 k) (lst (nOf Q 345) τ) G)) (lp_leaf (c := (subAt [1, 1, 0, 1, 0, 0] (bodyOf Tryz.f345))) (l345_0 h) _ _ _))) (
Ref.leaf (y := fun f => mapE ((E orc).lp (codeAt Q f k) (lst (nOf Q f) τ) G)) (Ref.leaf (y := fun k => mapE ((E orc).lp (codeAt Q 346 k) (lst (nOf Q 346) τ) G)) (lp_leaf (c := (subAt [1, 1, 0, 1, 0, 0] (bodyOf Tryz.f346))) (l346_0 h) _ _ _)))))))
noncomputable def kE (orc : FuncId → Bool) (n : Nat) : Ex := Nat.rec (motive := fun _ => Ex) ⟨Ev.zero, fun _ _ _ _ => none⟩ (fun _ e => ⟨⟨(evO Q orc 0).ex, clT orc e, (evO Q orc 2000).rd, (evO Q orc 2000).sc, (evO Q orc 0).lp⟩, lpT 6000 e⟩) n
theorem kE_ok (orc : FuncId → Bool) : ∀ n, ExLe Q (kE orc n) (E orc)
  | 0 => ⟨zero_le _, fun _ _ _ _ => .nil _⟩
  | n + 1 => ⟨⟨(le_evL Q orc 0).ex, fun f vs G r hr => clT_ok (kE_ok orc n) f vs G r hr, (le_evL Q orc 2000).rd, (le_evL Q orc 2000).sc, (le_evL Q orc 0).lp⟩, lpT_ok (kE_ok orc n) 6000⟩
/-- what the tables find true is true -/
theorem at_kE {orc : FuncId → Bool} {n f : Nat} {vs : List Value} (h : isTrue ((kE orc n).ev.cl f vs GS.empty) = true) : ∃ G', (E orc).cl f vs GS.empty = some (.bool true, G') := isTrue_of ((kE_ok orc n).ev.cl f vs GS.empty) h
theorem closed_kE {orc : FuncId → Bool} (ho : OrcOk Q orc) (hmix : Q.follows .mixedOrders = true) {n f : Nat} (h : isTrue ((kE orc n).ev.cl f [] GS.empty) = true) (w : World) : Calls Q f #[] w fun e w' => e = .returned (.bool true) ∧ Go.RowKit.Below w.heap.size w w' :=
  let ⟨_, hG⟩ := at_kE h
  law_plain hmix ho hG fun _ => trivial
end Go.Proofs.YtmdocnigniefnaaGreat.Lift
