import Derived.Test.YtfkdhlghpjbbpaaGreatDoorWf
import Derived.Test.YtfkdhlghpjbbpaaGreatDoorAvJ
import Derived.Test.YtfkdhlghpjbbpaaGreatDoorWa
import Derived.Test.YtfkdhlghpjbbpaaGreatDoorWe
import Derived.Test.YtfkdhlghpjbbpaaGreatDoorAvG
import Derived.Test.YtfkdhlghpjbbpaaGreatDoorWd
set_option linter.unusedSimpArgs false
set_option maxRecDepth 100000
set_option maxHeartbeats 16000000
namespace Go.Av.Tryz
open Go.Proofs
def q4b(fd:D)(q:PT)(o:AObj)(m:Option AObj):Prop:=∃c rest,(match c with
 |none=>q.saved=[]∧rest=[]
 |some c=>(q.saved++rest).length≤c∧c≤maxLen)∧o=rob fd q c∧m=rsO (q.saved++rest) c
theorem q1W{fd:D}{q q':PT}{c:Option Nat}{m:Option AObj}(hc:svOK q c)(hm:rsO q.saved c=m)(hs:q'.saved=q.saved):q4b fd q' (rob fd q' c) m:=by
 refine⟨c,[],?_,rfl,by rw[Zdc,hs];exact hm.symm⟩;cases c with
 |none=>exact⟨hs.trans hc,rfl⟩
 |some c=>rw[Zdc,hs];exact hc
theorem z3x(l:List PSt):∀y∈l.map PSt.r,y.cells.length=18:=fun y hy=>by
 obtain⟨s,_,rfl⟩:=Zak.1 hy;rfl
theorem j6d:q3V Tryz.prog 91=some (90,18,160):=by kernel_rfl
theorem j86:q9N Tryz.prog 90=true:=by kernel_rfl
theorem j85:isSl Tryz.prog 91=true:=by kernel_rfl
theorem z4G(l:List Gph):j0H l=.ns∨∃a b c d,j0H l=.own a b c d:=by
 cases l with
 |nil=>exact .inl rfl
 |cons g l=>exact .inr ⟨_,_,_,_,rfl⟩
theorem j2I{o:OpV}(ho:o.ok)(k:Nat):∀n∈q1v o.args k,Lim n:=by
 intro n hn;unfold q1v q2Y at hn;split at hn
 ·simp only[Zbj,q9H,Zdh]at hn;obtain⟨v,hv,h2⟩:=hn;split at h2
  ·cases h2;rename_i hk;exact(ho.s v hv).2.1 hk
  ·cases h2
 ·simp only[Zbm]at hn;rw[(Zcy.1 hn).2];decide
theorem q7c{q:PT}(h:q.ri)(e:Nat):(q.er e).ri:=⟨h.tm,h.lm,h.ctm,h.sv⟩
theorem j2r{q:PT}(h:q.ri)(x y:Int):(q.mv x y).ri:=⟨z2p _ _,z2p _ _,h.ctm,h.sv⟩
theorem j6b{q:PT}(h:q.ri)(t:List UInt8):(q.shw t).ri:=by
 unfold PT.shw;split
 ·split
  ·split
   ·exact j5W h _
   ·exact q7c h _
  ·exact q7c h _
 ·exact q7c h _
theorem j9u{q:PT}(h:q.ri)(n:Int):(q.bk n).ri:=⟨z2p _ _,h.lm,h.ctm,h.sv⟩
theorem j8k{q:PT}(h:q.ri)(v:Val):(q.ls1 v).ri:=by
 unfold PT.ls1;split
 ·exact j6b h _
 ·split
  ·exact j9u h _
  ·exact q7c h _
theorem j52{q:PT}(h:q.ri)(l:List Val):(q.lst l).ri:=by
 induction l generalizing q with
 |nil=>exact h
 |cons v l ih=>exact ih (j8k h v)
def q0b:q0m:=
 .seq (.reg [⟨some 3,.box (.t 1),none⟩]) (.seq (.reg [Q 11 (.fa 0 (.t 3)),Q 12 (.ld false 1 (.t 11))]) (.block 0 (.seq (.reg [Q 14 (.bin .eql (.t 12) (.k (.d (.str [113])))),Qa 
 13 14]) (.cond (.t 13) (.seq (.seq (.reg [Qc 15 0,Q 16 (.nck (.t 15)),Q 17 (.fa 19 (.t 16)),Q 18 (.ld false 1 (.t 17)),Q 19 (.len false (.t 18)),Q 20 (.bin .eql (.t 19) (Ki 
 8))]) (.cond (.t 20) (.seq (.reg [Qc 21 0,⟨some 22,.prim .call [.k (.fn (.func 50) [] []),.t 21,.k (.d (.int .i64 10))] [],none⟩]) .ret) .skip)) (.dreg [Qc 23 0,Qc 24 0,Qc 
 28 0,Q 25 (.nck (.t 24)),Q 26 (.fa 19 (.t 25)),Q 27 (.ld false 1 (.t 26)),Q 29 (.nck (.t 28)),Q 30 (.fa 1 (.t 29)),Q 31 (.ld true 18 (.t 30)),⟨some 32,.bsl 90 18 [.t 31], 
 none⟩,⟨some 33,.prim (.bi .append [91,91]) [.t 27,.t 32] [(23,.cp (.t 0))],none⟩,Q 34 (.nck (.t 23)),Q 35 (.fa 19 (.t 34)),⟨none,.st 1 (.t 35) (.t 33),none⟩])) (.seq 
 (.reg [Q 37 (.bin .eql (.t 12) (.k (.d (.str [81])))),Qa 36 37]) (.cond (.t 36) (.seq (.seq (.reg [Qc 38 0,Q 39 (.nck (.t 38)),Q 40 (.fa 19 (.t 39)),Q 41 (.ld false 1 (.t 
 40)),Q 42 (.len false (.t 41)),Q 43 (.bin .eql (.t 42) (Ki 0))]) (.cond (.t 43) (.seq (.reg [Qc 44 0,⟨some 45,.prim .call [.k (.fn (.func 50) [] []),.t 44,.k (.d (.int .i64 
 10))] [],none⟩]) .ret) .skip)) (.seq (.dreg [Qc 46 0,Qc 47 0,Q 48 (.nck (.t 47)),Q 49 (.fa 19 (.t 48)),Q 50 (.ld false 1 (.t 49)),Qc 51 0,Q 52 (.nck (.t 51)),Q 53 (.fa 19 
 (.t 52)),Q 54 (.ld false 1 (.t 53)),Q 55 (.len false (.t 54)),Q 56 (.bin .sub (.t 55) (Ki 1)),Q 57 (.ia 18 (.t 50) (.t 56)),Q 58 (.ld true 18 (.t 57)),Q 59 (.nck (.t 46)), 
 Q 60 (.fa 1 (.t 59)),⟨none,.st 18 (.t 60) (.t 58),none⟩]) (.dreg [Qc 61 0,Qc 62 0,Q 63 (.nck (.t 62)),Q 64 (.fa 19 (.t 63)),Q 65 (.ld false 1 (.t 64)),Qc 66 0,Q 67 (.nck 
 (.t 66)),Q 68 (.fa 19 (.t 67)),Q 69 (.ld false 1 (.t 68)),Q 70 (.len false (.t 69)),Q 71 (.bin .sub (.t 70) (Ki 1)),Q 72 (.sub 18 (.t 65) none (some (.t 71))),Q 73 (.nck 
 (.t 61)),Q 74 (.fa 19 (.t 73)),⟨none,.st 1 (.t 74) (.t 72),none⟩]))) (.seq (.reg [Q 76 (.bin .eql (.t 12) (.k (.d (.str [99,109])))),Qa 75 76]) (.cond (.t 75) (.fam [Qc 77 
 0,Qc 78 0,Qc 79 0,Q 80 (.ld true 2 (.t 3)),⟨some 81,.prim .call [.k (.fn (.func 53) [] []),.t 79,.t 80,.k (.d (.int .i64 6))] [],none⟩,⟨some 82,.call 52 [.t 81], 
 none⟩,Qc 83 0,Q 84 (.nck (.t 83)),Q 85 (.fa 1 (.t 84)),Q 86 (.fa 0 (.t 85)),Q 87 (.ld true 6 (.t 86)),⟨some 88,.prim .call [.k (.fn (.func 51) [] []),.t 78,.t 82,.t 87] 
 [],none⟩,Q 89 (.nck (.t 77)),Q 90 (.fa 1 (.t 89)),Q 91 (.fa 0 (.t 90)),⟨none,.st 6 (.t 91) (.t 88),none⟩] [[],[],[],[],[2,3],[4,4],[],[6],[7],[8],[9],[1,5, 
 10,5],[0,0,1,2,3,4,5,6,7,8,9,10,11],[12,0,1,2,3,4,5,6,7,8,9,10,11],[13,0,1,2,3,4,5,6,7,8,9,10,11],[14,11,11,0,1,2,3,4,5,6,7,8, 
 9,10,11]]) (.seq (.seq (.reg [Q 93 (.bin .eql (.t 12) (.k (.d (.str [66,84])))),Qa 92 93]) (.cond (.t 92) .skip (.reg [Q 94 (.bin .eql (.t 12) (.k (.d (.str [69,84])))),Qa 
 92 94]))) (.cond (.t 92) (.seq (.seq (.dreg [Qc 95 0,Q 96 (.nck (.t 95)),Q 97 (.fa 32 (.t 96)),Q 98 (.ld false 1 (.t 97)),Q 99 (.fa 0 (.t 3)),Q 100 (.ld false 1 (.t 99)),Q 
 101 (.bin .eql (.t 100) (.k (.d (.str [66,84])))),Q 102 (.eqB false (.t 98) (.t 101))]) (.cond (.t 102) (.reg [Qc 103 0,⟨some 104,.prim .call [.k (.fn (.func 50) [] []),.t 
 103,.k (.d (.int .i64 10))] [],none⟩]) .skip)) (.seq (.reg [Qc 105 0,Q 106 (.fa 0 (.t 3)),Q 107 (.ld false 1 (.t 106)),Q 108 (.bin .eql (.t 107) (.k (.d (.str [66,84])))), 
 Q 109 (.nck (.t 105)),Q 110 (.fa 32 (.t 109)),⟨none,.st 1 (.t 110) (.t 108),none⟩]) (.seq (.reg [Qc 111 0,⟨some 112,.call 32 [],none⟩,Q 113 (.nck (.t 111)),Q 114 (.fa 20 
 (.t 113)),⟨none,.st 6 (.t 114) (.t 112),none⟩]) (.reg [Qc 115 0,⟨some 116,.call 32 [],none⟩,Q 117 (.nck (.t 115)),Q 118 (.fa 26 (.t 117)),⟨none,.st 6 (.t 118) (.t 116), 
 none⟩])))) (.seq (.reg [Q 120 (.bin .eql (.t 12) (.k (.d (.str [84,102])))),Qa 119 120]) (.cond (.t 119) (.seq (.seq (.reg [Q 121 (.fa 1 (.t 3)),Q 122 (.ld false 1 (.t 121)), 
 Q 123 (.len false (.t 122)),Q 124 (.bin .neq (.t 123) (Ki 2)),Qc 125 124,Qg 126 (.fa 1 (.t 3)) 125 false,Qg 127 (.ld false 1 (.t 126)) 125 false,Qg 128 (.ia 5 (.t 127) (Ki 
 0)) 125 false,Qg 129 (.fa 0 (.t 128)) 125 false,Qg 130 (.ld false 1 (.t 129)) 125 false,Qg 131 (.bin .neq (.t 130) (Ki 4)) 125 false,Q 132 (.pick (.t 125) KT (.t 131)),Qc 
 133 132,Qg 134 (.fa 1 (.t 3)) 133 false,Qg 135 (.ld false 1 (.t 134)) 133 false,Qg 136 (.ia 5 (.t 135) (Ki 1)) 133 false,Qg 137 (.fa 0 (.t 136)) 133 false,Qg 138 (.ld false 
 1 (.t 137)) 133 false,Qg 139 (.bin .neq (.t 138) (Ki 2)) 133 false,Q 140 (.pick (.t 133) KT (.t 139))]) (.cond (.t 140) (.seq (.reg [Qc 141 0,⟨some 142,.prim .call [.k (.fn 
 (.func 50) [] []),.t 141,.k (.d (.int .i64 8))] [],none⟩]) .ret) .skip)) (.seq (.fam [Qc 144 0,Q 145 (.nck (.t 144)),Q 146 (.fa 0 (.t 145)),Q 147 (.ld false 1 (.t 146)),Q 
 148 (.fa 1 (.t 3)),Q 149 (.ld false 1 (.t 148)),Q 150 (.ia 5 (.t 149) (Ki 0)),Q 151 (.fa 2 (.t 150)),Q 152 (.ld false 1 (.t 151)),⟨some 153,.prim (.lookup 25 true) [.t 147, 
 .t 152] [],none⟩,Qc 143 153,Q 154 (.ext 0 (.t 143)),Q 155 (.ext 1 (.t 143)),⟨some 4,.allo [.bool false,.map [] [],.int .i64 0,.map [] [],.list []],none⟩,⟨none,.st 5 
 (.t 4) (.t 154),none⟩,Qa 5 155] [[],[0],[1],[2],[],[4],[5],[6],[7],[3,8],[9],[10],[10],[],[13,11,0,1,2,3,4,5,6,7,8,9,10,11,13],[12,14,0,1,2, 
 3,4,5,6,7,8,9,10,11,12,13,14]]) (.seq (.seq (.reg [Qc 156 5,Q 157 (.not (.t 156))]) (.cond (.t 157) (.seq (.reg [Qc 158 0,⟨some 159,.prim .call [.k (.fn (.func 50) 
 [] []),.t 158,.k (.d (.int .i64 6))] [],none⟩]) .ret) .skip)) (.seq (.reg [Qc 160 0,Q 161 (.ld true 5 (.t 4)),Q 162 (.nck (.t 160)),Q 163 (.fa 1 (.t 162)),Q 164 (.fa 6 (.t 
 163)),⟨none,.st 5 (.t 164) (.t 161),none⟩]) (.seq (.reg [Qc 165 0,Q 166 (.nck (.t 165)),Q 167 (.fa 1 (.t 166)),Q 168 (.fa 11 (.t 167)),⟨none,.st 1 (.t 168) KT,none⟩]) 
 (.reg [Qc 169 0,Q 170 (.fa 1 (.t 3)),Q 171 (.ld false 1 (.t 170)),Q 172 (.ia 5 (.t 171) (Ki 1)),Q 173 (.fa 1 (.t 172)),Q 174 (.ld false 1 (.t 173)),Q 175 (.nck (.t 169)),Q 
 176 (.fa 1 (.t 175)),Q 177 (.fa 12 (.t 176)),⟨none,.st 1 (.t 177) (.t 174),none⟩])))))) (.seq (.reg [Q 179 (.bin .eql (.t 12) (.k (.d (.str [84,99])))),Qa 178 179]) (.cond 
 (.t 178) (.reg [Qc 180 0,Qc 181 0,Q 182 (.ld true 2 (.t 3)),⟨some 183,.prim .call [.k (.fn (.func 53) [] []),.t 181,.t 182,.k (.d (.int .i64 1))] [],none⟩,Q 184 (.ia 1 
 (.t 183) (Ki 0)),Q 185 (.ld false 1 (.t 184)),Q 186 (.nck (.t 180)),Q 187 (.fa 1 (.t 186)),Q 188 (.fa 13 (.t 187)),⟨none,.st 1 (.t 188) (.t 185),none⟩]) (.seq (.reg [Q 190 
 (.bin .eql (.t 12) (.k (.d (.str [84,119])))),Qa 189 190]) (.cond (.t 189) (.reg [Qc 191 0,Qc 192 0,Q 193 (.ld true 2 (.t 3)),⟨some 194,.prim .call [.k (.fn (.func 53) [] 
 []),.t 192,.t 193,.k (.d (.int .i64 1))] [],none⟩,Q 195 (.ia 1 (.t 194) (Ki 0)),Q 196 (.ld false 1 (.t 195)),Q 197 (.nck (.t 191)),Q 198 (.fa 1 (.t 197)),Q 199 (.fa 14 
 (.t 198)),⟨none,.st 1 (.t 199) (.t 196),none⟩]) (.seq (.reg [Q 201 (.bin .eql (.t 12) (.k (.d (.str [84,122])))),Qa 200 201]) (.cond (.t 200) (.reg [Qc 202 0,Qc 203 0,Q 
 204 (.ld true 2 (.t 3)),⟨some 205,.prim .call [.k (.fn (.func 53) [] []),.t 203,.t 204,.k (.d (.int .i64 1))] [],none⟩,Q 206 (.ia 1 (.t 205) (Ki 0)),Q 207 (.ld false 1 
 (.t 206)),Q 208 (.bin .quo (.t 207) (Ki 100)),Q 209 (.nck (.t 202)),Q 210 (.fa 1 (.t 209)),Q 211 (.fa 15 (.t 210)),⟨none,.st 1 (.t 211) (.t 208),none⟩]) (.seq (.reg [Q 213 
 (.bin .eql (.t 12) (.k (.d (.str [84,76])))),Qa 212 213]) (.cond (.t 212) (.reg [Qc 214 0,Qc 215 0,Q 216 (.ld true 2 (.t 3)),⟨some 217,.prim .call [.k (.fn (.func 53) [] 
 []),.t 215,.t 216,.k (.d (.int .i64 1))] [],none⟩,Q 218 (.ia 1 (.t 217) (Ki 0)),Q 219 (.ld false 1 (.t 218)),Q 220 (.nck (.t 214)),Q 221 (.fa 1 (.t 220)),Q 222 (.fa 16 
 (.t 221)),⟨none,.st 1 (.t 222) (.t 219),none⟩]) (.seq (.reg [Q 224 (.bin .eql (.t 12) (.k (.d (.str [84,115])))),Qa 223 224]) (.cond (.t 223) (.reg [Qc 225 0,Qc 226 0,Q 
 227 (.ld true 2 (.t 3)),⟨some 228,.prim .call [.k (.fn (.func 53) [] []),.t 226,.t 227,.k (.d (.int .i64 1))] [],none⟩,Q 229 (.ia 1 (.t 228) (Ki 0)),Q 230 (.ld false 1 
 (.t 229)),Q 231 (.nck (.t 225)),Q 232 (.fa 1 (.t 231)),Q 233 (.fa 17 (.t 232)),⟨none,.st 1 (.t 233) (.t 230),none⟩]) (.seq (.reg [Q 235 (.bin .eql (.t 12) (.k (.d (.str 
 [84,100])))),Qa 234 235]) (.cond (.t 234) (.seq (.reg [Qc 236 0,Q 237 (.ld true 2 (.t 3)),⟨some 238,.prim .call [.k (.fn (.func 53) [] []),.t 236,.t 237,.k (.d (.int .i64 
 2))] [],none⟩,Qa 6 238]) (.dreg [Qc 239 0,Qc 240 6,Q 241 (.ia 1 (.t 240) (Ki 0)),Q 242 (.ld false 1 (.t 241)),Qc 243 6,Q 244 (.ia 1 (.t 243) (Ki 1)),Q 245 (.ld false 1 
 (.t 244)),⟨some 246,.prim .call [.k (.fn (.func 54) [] []),.t 239,.t 242,.t 245] [],none⟩])) (.seq (.reg [Q 248 (.bin .eql (.t 12) (.k (.d (.str [84,68])))),Qa 247 248]) 
 (.cond (.t 247) (.seq (.reg [Qc 249 0,Q 250 (.ld true 2 (.t 3)),⟨some 251,.prim .call [.k (.fn (.func 53) [] []),.t 249,.t 250,.k (.d (.int .i64 2))] [],none⟩,Qa 7 251]) 
 (.seq (.reg [Qc 252 0,Qc 253 7,Q 254 (.ia 1 (.t 253) (Ki 1)),Q 255 (.ld false 1 (.t 254)),Q 256 (.neg (.t 255)),Q 257 (.nck (.t 252)),Q 258 (.fa 1 (.t 257)),Q 259 (.fa 16 
 (.t 258)),⟨none,.st 1 (.t 259) (.t 256),none⟩]) (.dreg [Qc 260 0,Qc 261 7,Q 262 (.ia 1 (.t 261) (Ki 0)),Q 263 (.ld false 1 (.t 262)),Qc 264 7,Q 265 (.ia 1 (.t 264) (Ki 
 1)),Q 266 (.ld false 1 (.t 265)),⟨some 267,.prim .call [.k (.fn (.func 54) [] []),.t 260,.t 263,.t 266] [],none⟩]))) (.seq (.reg [Q 269 (.bin .eql (.t 12) (.k (.d (.str 
 [84,109])))),Qa 268 269]) (.cond (.t 268) (.seq (.reg [Qc 270 0,Qc 271 0,Q 272 (.ld true 2 (.t 3)),⟨some 273,.prim .call [.k (.fn (.func 53) [] []),.t 271,.t 272,.k (.d 
 (.int .i64 6))] [],none⟩,⟨some 274,.call 52 [.t 273],none⟩,Q 275 (.nck (.t 270)),Q 276 (.fa 20 (.t 275)),⟨none,.st 6 (.t 276) (.t 274),none⟩]) (.reg [Qc 277 0,Qc 278 0, 
 Q 279 (.nck (.t 278)),Q 280 (.fa 20 (.t 279)),Q 281 (.ld true 6 (.t 280)),Q 282 (.nck (.t 277)),Q 283 (.fa 26 (.t 282)),⟨none,.st 6 (.t 283) (.t 281),none⟩])) (.seq (.reg 
 [Q 285 (.bin .eql (.t 12) (.k (.d (.str [84,42])))),Qa 284 285]) (.cond (.t 284) (.seq (.reg [Qc 286 0,Q 287 (.ld true 2 (.t 3)),⟨some 288,.prim .call [.k (.fn (.func 53) [] 
 []),.t 286,.t 287,.k (.d (.int .i64 0))] [],none⟩]) (.reg [Qc 289 0,Qc 290 0,Q 291 (.nck (.t 290)),Q 292 (.fa 1 (.t 291)),Q 293 (.fa 16 (.t 292)),Q 294 (.ld false 1 (.t 
 293)),Q 295 (.neg (.t 294)),⟨some 296,.prim .call [.k (.fn (.func 54) [] []),.t 289,.k (.d (.int .i64 0)),.t 295] [],none⟩])) (.seq (.seq (.reg [Q 298 (.bin .eql (.t 12) 
 (.k (.d (.str [84,106])))),Qa 297 298]) (.cond (.t 297) .skip (.reg [Q 299 (.bin .eql (.t 12) (.k (.d (.str [39])))),Qa 297 299]))) (.cond (.t 297) (.seq (.seq (.reg [Q 300 
 (.fa 0 (.t 3)),Q 301 (.ld false 1 (.t 300)),Q 302 (.bin .eql (.t 301) (.k (.d (.str [39]))))]) (.cond (.t 302) (.reg [Qc 303 0,Qc 304 0,Q 305 (.nck (.t 304)),Q 306 (.fa 1 
 (.t 305)),Q 307 (.fa 16 (.t 306)),Q 308 (.ld false 1 (.t 307)),Q 309 (.neg (.t 308)),⟨some 310,.prim .call [.k (.fn (.func 54) [] []),.t 303,.k (.d (.int .i64 0)),.t 309] 
 [],none⟩]) .skip)) (.seq (.seq (.reg [Q 311 (.fa 1 (.t 3)),Q 312 (.ld false 1 (.t 311)),Q 313 (.len false (.t 312)),Q 314 (.bin .neq (.t 313) (Ki 1)),Qc 315 314,Qg 316 (.fa 
 1 (.t 3)) 315 false,Qg 317 (.ld false 1 (.t 316)) 315 false,Qg 318 (.ia 5 (.t 317) (Ki 0)) 315 false,Qg 319 (.fa 0 (.t 318)) 315 false,Qg 320 (.ld false 1 (.t 319)) 315 
 false,Qg 321 (.bin .neq (.t 320) (Ki 3)) 315 false,Q 322 (.pick (.t 315) KT (.t 321))]) (.cond (.t 322) (.seq (.reg [Qc 323 0,⟨some 324,.prim .call [.k (.fn (.func 50) [] 
 []),.t 323,.k (.d (.int .i64 8))] [],none⟩]) (.seq (.reg [Qc 325 0,⟨some 326,.prim .call [.k (.fn (.func 55) [] []),.t 325,.k (.d (.str []))] [],none⟩]) .ret)) .skip)) 
 (.reg [Qc 327 0,Q 328 (.fa 1 (.t 3)),Q 329 (.ld false 1 (.t 328)),Q 330 (.ia 5 (.t 329) (Ki 0)),Q 331 (.fa 2 (.t 330)),Q 332 (.ld false 1 (.t 331)),⟨some 333,.prim .call 
 [.k (.fn (.func 55) [] []),.t 327,.t 332] [],none⟩]))) (.seq (.reg [Q 335 (.bin .eql (.t 12) (.k (.d (.str [84,74])))),Qa 334 335]) (.cond (.t 334) (.seq (.seq (.reg [Q 336 
 (.fa 1 (.t 3)),Q 337 (.ld false 1 (.t 336)),Q 338 (.len false (.t 337)),Q 339 (.bin .neq (.t 338) (Ki 1)),Qc 340 339,Qg 341 (.fa 1 (.t 3)) 340 false,Qg 342 (.ld false 1 (.t 
 341)) 340 false,Qg 343 (.ia 5 (.t 342) (Ki 0)) 340 false,Qg 344 (.fa 0 (.t 343)) 340 false,Qg 345 (.ld false 1 (.t 344)) 340 false,Qg 346 (.bin .neq (.t 345) (Ki 5)) 340 
 false,Q 347 (.pick (.t 340) KT (.t 346))]) (.cond (.t 347) (.seq (.reg [Qc 348 0,⟨some 349,.prim .call [.k (.fn (.func 50) [] []),.t 348,.k (.d (.int .i64 8))] [],none⟩]) 
 .ret) .skip)) (.seq (.reg [Q 350 (.fa 1 (.t 3)),Q 351 (.ld false 1 (.t 350)),Q 352 (.ia 5 (.t 351) (Ki 0)),Q 353 (.fa 3 (.t 352)),Q 354 (.ld false 1 (.t 353)),Qa 8 354]) 
 (.seq (.reg [Qx 9 (Ki 0)]) (.block 1 (.loop (.seq (.seq (.reg [Qc 355 9,Qc 356 8,Q 357 (.len false (.t 356)),Q 358 (.bin .lss (.t 355) (.t 357))]) (.cond (.t 358) .skip (.exit 
 1))) (.seq (.block 2 (.seq (.reg [Qc 361 8,Qc 362 9,Q 363 (.ia 5 (.t 361) (.t 362)),Q 364 (.fa 0 (.t 363)),Q 365 (.ld false 1 (.t 364)),Q 366 (.bin .eql (.t 365) (Ki 3))]) 
 (.cond (.t 366) (.reg [Qc 367 0,Qc 368 8,Qc 369 9,Q 370 (.ia 5 (.t 368) (.t 369)),Q 371 (.fa 2 (.t 370)),Q 372 (.ld false 1 (.t 371)),⟨some 373,.prim .call [.k (.fn (.func 
 55) [] []),.t 367,.t 372] [],none⟩]) (.seq (.reg [Qc 374 8,Qc 375 9,Q 376 (.ia 5 (.t 374) (.t 375)),Q 377 (.fa 0 (.t 376)),Q 378 (.ld false 1 (.t 377)),Q 379 (.bin .eql 
 (.t 378) (Ki 2))]) (.cond (.t 379) (.seq (.reg [Qc 380 8,Qc 381 9,Q 382 (.ia 5 (.t 380) (.t 381)),Q 383 (.fa 1 (.t 382)),Q 384 (.ld false 1 (.t 383)),Q 385 (.bin .quo (.t 
 384) (Ki 1000)),Qa 10 385]) (.fam [Qc 386 0,Qc 387 0,Qc 388 0,Qc 389 0,Qc 390 10,Q 391 (.neg (.t 390)),Qc 392 0,Q 393 (.nck (.t 392)),Q 394 (.fa 1 (.t 393)),Q 395 (.fa 
 12 (.t 394)),Q 396 (.ld false 1 (.t 395)),⟨some 397,.prim .call [.k (.fn (.func 57) [] []),.t 389,.t 391,.t 396] [],none⟩,Qc 398 0,Q 399 (.nck (.t 398)),Q 400 (.fa 1 
 (.t 399)),Q 401 (.fa 15 (.t 400)),Q 402 (.ld false 1 (.t 401)),⟨some 403,.prim .call [.k (.fn (.func 57) [] []),.t 388,.t 397,.t 402] [],none⟩,⟨some 404,.call 56 [.t 
 403,.k (.d (.int .i64 0))],none⟩,Qc 405 0,Q 406 (.nck (.t 405)),Q 407 (.fa 20 (.t 406)),Q 408 (.ld true 6 (.t 407)),⟨some 409,.prim .call [.k (.fn (.func 51) [] []),.t 
 387,.t 404,.t 408] [],none⟩,Q 410 (.nck (.t 386)),Q 411 (.fa 20 (.t 410)),⟨none,.st 6 (.t 411) (.t 409),none⟩] [[],[],[],[],[],[4],[],[6],[7],[8],[9],[3,5, 
 10],[],[12],[13],[14],[15],[2,11,16,11],[17,17],[],[19],[20],[21],[1,18,22,18],[0,0,1,2,3,4,5,6,7,8,9,10,11,12,13,14,15,16,17,18,19,20, 
 21,22,23],[24,0,1,2,3,4,5,6,7,8,9,10,11,12,13,14,15,16,17,18,19,20,21,22,23],[25,23,23,0,1,2,3,4,5,6,7,8,9,10,11,12,13,14,15,16, 
 17,18,19,20,21,22,23]])) (.reg [Qc 412 0,⟨some 413,.prim .call [.k (.fn (.func 50) [] []),.t 412,.k (.d (.int .i64 8))] [],none⟩])))))) (.reg [Qc 359 9,Q 360 (.bin 
 .add (.t 359) (Ki 1)),Qa 9 360])))))))) .skip))))))))))))))))))))))))))))))))))
def q0c:List LRes:=[]
theorem q0a:q0t Tryz.prog 33 414 q0b q0c:=⟨_,_,Tryz.func33,rfl,by kernel_rfl,by kernel_rfl,rfl⟩
theorem j0I(l:List PSt)(x:PSt)(c:Nat):List.take 18 (List.drop (l.length*18) (rowC 18 ((l++[x]).map PSt.r) c))=x.r.cells.map .d:=by
 have h1:((l.map PSt.r).flatMap D.cells).length=l.length*18:=by rw[q0G (z3x l),Zas]
 have h2:l.length*18=(((l.map PSt.r).flatMap D.cells).map AV.d).length:=by rw[Zas,h1]
 rw[rowC,List.map_append,Zde,List.map_append,Zcs,h2,List.drop_left];rfl
theorem j3j(l:List PSt)(c:Nat)(h:l.length≤c):(rowC 18 (l.map PSt.r) c).length=c*18:=q4j (z3x l) (by rw[Zas];exact h)
theorem j9F(fl:Fl)(q:PT)(c:Option Nat)(hc:svOK q c)(hs8:q.saved.length≤8)(nm:List UInt8)(args:List Val)(hq:q.ok)(hri:q.ri)(ho:OpV.ok ⟨nm,args⟩)(h0:nm=[113]):
  MV Tryz.prog 33 [.ptr (.x 0) 0,.d (OpV.d ⟨nm,args⟩)] [rob (q0g fl) q c] (rsO q.saved c) (fun r hs' m'=>r=.tuple []∧∃o',hs'=[o']∧q4b (q0g fl) (q.dop fl ⟨nm,args⟩) o' m'):=by
 have hm:=q4D q.saved c;generalize hmm:rsO q.saved c=m at *;refine q0a.mv (by kernel_rfl) rfl rfl ?_;generalize hM:mob m=M;have ha:aget M 1000=m:=hM▸q0o m;have hn:=hm;unfold rowM at hn;have hMM:∀o:AObj,Sub ((0,o)::M) ((0,o)::M):=fun o=>hM▸subM o m
 have hvl:=q0n args;have e:q.dop fl ⟨nm,args⟩=q.sv false:=by
  subst h0;rfl
 rw[e];simp(disch:=omega)only[go_sem,↓reduceIte,q0b,q0c,OpV.d,I,hvl,eq_true h0];cases c with
 |none=>
  have hs:q.saved=[]:=hc;have e1:q.sv false={ q with saved:=q.saved++[q.s] }:=by simp[PT.sv,hs]
  rw[e1];subst hM;subst hmm;simp(disch:=omega)only[go_sem,↓reduceIte,rob,svV,rsO,mob,I];refine q0e.appX (c:=0) (fs:=[]) (ys:=[q.s.r]) j6d j86 j85 (.inl ⟨.inl rfl,rfl⟩) (.inl rfl) (by simp) (fun y hy=>by simp at hy;subst hy;rfl) (fun y hy=>by cases hy) (by simp only[Zad,Zam,maxLen];omega) (fun c' hc1 hc2=>?_)
  rcases z4G q.out with ho|⟨o1,o2,o3,o4,ho⟩<;>simp only[go_sem,↓reduceIte,St.q3B,AV.drop,AV.has,Zam,Zad,Zbu,q4Y,ho]<;>refine⟨_,rfl,some c',[],⟨by simp only[Zdc,Zaq,Zas,Zad,Zam]at hc1 ⊢;rw[hs];simpa using hc1,hc2⟩,?_,?_⟩
  ·simp[rob,svV,ho,I,hs]
  ·simp[rsO,List.map_append,hs]
  ·simp[rob,svV,ho,I,hs]
  ·simp[rsO,List.map_append,hs]
 |some c=>
  have hc':q.saved.length≤c∧c≤maxLen:=hc
  by_cases h8:q.saved.length=8
  ·have e1:q.sv false=q.er 10:=by simp[PT.sv,h8]
   rw[e1];have hz:(q.saved.length:Int)=8:=by omega
   simp(disch:=omega)only[go_sem,↓reduceIte,rob,svV,I,hz];refine q0e.poM rfl (q5s (q0g fl) q (some c) 10 hm) (q0k _ _ _) (q0k _ _ _) hm hM rfl rfl rfl ⟨⟨rfl,rfl⟩,rfl⟩ ?_;simp only[go_sem,↓reduceIte,ha,hn];exact⟨_,rfl,q1W hc hmm rfl⟩
  ·have e1:q.sv false={ q with saved:=q.saved++[q.s] }:=by simp[PT.sv,h8]
   rw[e1];have hz:((q.saved.length:Int)=8)=False:=eq_false (by omega);subst hM;subst hmm;simp(disch:=omega)only[go_sem,↓reduceIte,rob,svV,rsO,mob,I,hz];refine q0e.appX (c:=c) (fs:=q.saved.map PSt.r) (ys:=[q.s.r]) j6d j86 j85 (.inr ⟨by rw[Zas];rfl,rfl,by rw[Zas];exact hc'.1,hc'.2⟩) (.inl rfl) (by simp) (fun y hy=>by simp at hy;subst hy;rfl) (z3x _) (by simp only[Zas,Zad,Zam,maxLen]at hc' ⊢;omega) (fun c' hc1 hc2=>?_)
   rcases z4G q.out with ho|⟨o1,o2,o3,o4,ho⟩<;>simp only[go_sem,↓reduceIte,St.q3B,AV.drop,AV.has,Zam,Zad,Zbu,q4Y,ho]<;>refine⟨_,rfl,some c',[],⟨by simp only[Zdc,Zaq,Zas,Zad,Zam]at hc1 ⊢;omega,hc2⟩,?_,?_⟩
   ·simp[rob,svV,ho,I]
   ·simp[rsO,List.map_append]
   ·simp[rob,svV,ho,I]
   ·simp[rsO,List.map_append]
theorem j9E(fl:Fl)(q:PT)(c:Option Nat)(hc:svOK q c)(hs8:q.saved.length≤8)(nm:List UInt8)(args:List Val)(hq:q.ok)(hri:q.ri)(ho:OpV.ok ⟨nm,args⟩)(h0:¬nm=[113])(h1:nm=[81]):
  MV Tryz.prog 33 [.ptr (.x 0) 0,.d (OpV.d ⟨nm,args⟩)] [rob (q0g fl) q c] (rsO q.saved c) (fun r hs' m'=>r=.tuple []∧∃o',hs'=[o']∧q4b (q0g fl) (q.dop fl ⟨nm,args⟩) o' m'):=by
 have hm:=q4D q.saved c;generalize hmm:rsO q.saved c=m at *;refine q0a.mv (by kernel_rfl) rfl rfl ?_;generalize hM:mob m=M;have ha:aget M 1000=m:=hM▸q0o m;have hn:=hm;unfold rowM at hn;have hMM:∀o:AObj,Sub ((0,o)::M) ((0,o)::M):=fun o=>hM▸subM o m
 have hvl:=q0n args;have e:q.dop fl ⟨nm,args⟩=q.sv true:=by
  subst h1;rfl
 rw[e];simp(disch:=omega)only[go_sem,↓reduceIte,q0b,q0c,OpV.d,I,hvl,eq_false h0,eq_true h1];cases c with
 |none=>
  have hs:q.saved=[]:=hc;have e1:q.sv true=q.er 10:=by simp[PT.sv,hs]
  rw[e1];simp(disch:=omega)only[go_sem,↓reduceIte,rob,svV,I];refine q0e.poM rfl (q5s (q0g fl) q none 10 hm) (q0k _ _ _) (q0k _ _ _) hm hM rfl rfl rfl ⟨⟨rfl,rfl⟩,rfl⟩ ?_;simp only[go_sem,↓reduceIte,ha,hn];exact⟨_,rfl,q1W hc hmm rfl⟩
 |some c=>
  have hc':q.saved.length≤c∧c≤maxLen:=hc;rcases List.eq_nil_or_concat q.saved with hs|⟨l,x,hs⟩
  ·have e1:q.sv true=q.er 10:=by simp[PT.sv,hs]
   rw[e1];have hz:(q.saved.length:Int)=0:=by rw[hs];rfl
   simp(disch:=omega)only[go_sem,↓reduceIte,rob,svV,I,hz];refine q0e.poM rfl (q5s (q0g fl) q (some c) 10 hm) (q0k _ _ _) (q0k _ _ _) hm hM rfl rfl rfl ⟨⟨rfl,rfl⟩,rfl⟩ ?_;simp only[go_sem,↓reduceIte,ha,hn];exact⟨_,rfl,q1W hc hmm rfl⟩
  ·rw[List.concat_eq_append]at hs;have e1:q.sv true={ q with s:=x,saved:=l }:=by simp[PT.sv,hs]
   rw[e1];have hlen:q.saved.length=l.length+1:=by rw[hs];simp
   have hz:((q.saved.length:Int)=0)=False:=eq_false (by omega);subst hM;subst hmm;have hw:IntKind.i64.wrap ((q.saved.length:Int)-1)=l.length:=by rw[hlen,Int.natCast_add,Zcp,Int.add_sub_cancel];exact IntWalk.i64_in _ (by omega)
   have hz1:(0≤(l.length:Int)∧(l.length:Int)<q.saved.length)=True:=eq_true (by omega);have hz2:(l.length*18+18≤(rowC 18 (q.saved.map PSt.r) c).length)=True:=eq_true (by rw[j3j _ _ hc'.1];omega);have hz3:=j0I l x c;rw[←hs]at hz3;simp only[PSt.r,D.cells,Zai,Zbe]at hz3;have hz4:(0≤(l.length:Int)∧(l.length:Int)≤c)=True:=eq_true (by omega);simp(disch:=omega)only[go_sem,↓reduceIte,rob,svV,rsO,mob,hz,hw,hz1,hz2,hz3,hz4,Zdd,q4Y]
   exact⟨_,rfl,some c,[x],⟨by simp only[Zaq,Zad,Zam];omega,hc'.2⟩,rfl,by rw[←hs];rfl⟩
theorem j8V(fl:Fl)(q:PT)(c:Option Nat)(hc:svOK q c)(hs8:q.saved.length≤8)(nm:List UInt8)(args:List Val)(hq:q.ok)(hri:q.ri)(ho:OpV.ok ⟨nm,args⟩)(h0:¬nm=[113])(h1:¬nm=[81])(h2:nm=[99,109]):
  MV Tryz.prog 33 [.ptr (.x 0) 0,.d (OpV.d ⟨nm,args⟩)] [rob (q0g fl) q c] (rsO q.saved c) (fun r hs' m'=>r=.tuple []∧∃o',hs'=[o']∧q4b (q0g fl) (q.dop fl ⟨nm,args⟩) o' m'):=by
 have hm:=q4D q.saved c;generalize hmm:rsO q.saved c=m at *;refine q0a.mv (by kernel_rfl) rfl rfl ?_;generalize hM:mob m=M;have ha:aget M 1000=m:=hM▸q0o m;have hn:=hm;unfold rowM at hn;have hMM:∀o:AObj,Sub ((0,o)::M) ((0,o)::M):=fun o=>hM▸subM o m
 have hvl:=q0n args;have e:q.dop fl ⟨nm,args⟩=(q.nu args 6).cm (m6L (q1v args 6)):=by
  subst h2;rfl
 rw[e];simp(disch:=omega)only[go_sem,↓reduceIte,q0b,q0c,OpV.d,I,hvl,eq_false h0,eq_false h1,eq_true h2];have hnum:MVE Tryz.prog 53 [.ptr (.x 0) 0,.d (OpV.d ⟨nm,args⟩),.d (I 6)] [rX (q0g fl) q c q.bad] m (.d (.list (nmD (q1v args 6)))) [rX (q0g fl) q c (orE q.bad (kErr (q2Y args 6)))] m:=q5A (q0g fl) (q.wb q.bad) c ⟨nm,args⟩ 6 ho.n (by decide) hm
 have hcat:∀n a b,M6.ok b→MVE Tryz.prog 51 [.ptr (.x 0) 0,.d (m6D a),.d (m6D b)] [rX (q0g fl) q c n] m (.d (m6D ((catF a b).getD m60))) [rX (q0g fl) q c (orE n (errO (catF a b)))] m:=fun n a b hb=>j26 (q0g fl) (q.wb n) c a b hb hm
 obtain⟨a1,a2,a3,a4,a5,a6,hab⟩:=len6 (q2b args 6);rw[hab]at hnum;refine q6J (rX (q0g fl) q c) M 12 [0,3] [] q.bad (by kernel_rfl) rfl rfl rfl ?_;simp only[go_sem,↓reduceIte,rX,rob,PT.wb,OpV.d];refine FR.prim (q3b.mve rfl hM hnum (q3h _ _ _ _) (q3h _ _ _ _) hm rfl rfl ⟨⟨rfl,rfl⟩,rfl⟩) rfl ?_;refine FR.call (z9M a1 a2 a3 a4 a5 a6) rfl ?_;simp only[go_sem,↓reduceIte,rX,rob,PT.wb];refine FR.prim (q3b.mve rfl hM (hcat _ (a1,a2,a3,a4,a5,a6) q.s.ctm hri.ctm) (q3h _ _ _ _) (q3h _ _ _ _) hm rfl rfl ⟨⟨rfl,rfl⟩,rfl⟩) rfl ?_
 simp only[go_sem,↓reduceIte,rX,rob,PT.wb,m6D,mat,I,ha,hn];rw[hab];exact⟨_,rfl,q1W (q':=(q.nu args 6).cm (m6L [a1,a2,a3,a4,a5,a6])) hc hmm rfl⟩
theorem j8G(fl:Fl)(q:PT)(c:Option Nat)(hc:svOK q c)(hs8:q.saved.length≤8)(nm:List UInt8)(args:List Val)(hq:q.ok)(hri:q.ri)(ho:OpV.ok ⟨nm,args⟩)(h0:¬nm=[113])(h1:¬nm=[81])(h2:¬nm=[99,109])(h3:nm=[66,84]):
  MV Tryz.prog 33 [.ptr (.x 0) 0,.d (OpV.d ⟨nm,args⟩)] [rob (q0g fl) q c] (rsO q.saved c) (fun r hs' m'=>r=.tuple []∧∃o',hs'=[o']∧q4b (q0g fl) (q.dop fl ⟨nm,args⟩) o' m'):=by
 have hm:=q4D q.saved c;generalize hmm:rsO q.saved c=m at *;refine q0a.mv (by kernel_rfl) rfl rfl ?_;generalize hM:mob m=M;have ha:aget M 1000=m:=hM▸q0o m;have hn:=hm;unfold rowM at hn;have hMM:∀o:AObj,Sub ((0,o)::M) ((0,o)::M):=fun o=>hM▸subM o m
 have hvl:=q0n args;have e:q.dop fl ⟨nm,args⟩=q.tx true:=by
  subst h3;rfl
 rw[e];simp(disch:=omega)only[go_sem,↓reduceIte,q0b,q0c,OpV.d,I,hvl,eq_false h0,eq_false h1,eq_false h2,eq_true h3];simp only[go_sem,↓reduceIte,rob,I];have hbd:decide (nm=[66,84])=true:=decide_eq_true h3;rw[hbd];refine⟨fun h=>?_,fun h=>?_⟩
 ·have e2:q.tx true={ q.er 10 with inn:=true,tm:=q20,lm:=q20 }:=by simp[PT.tx,h]
  refine q0e.poM rfl (q5s (q0g fl) q c 10 hm) (q0k _ _ _) (q0k _ _ _) hm hM rfl rfl rfl ⟨⟨rfl,rfl⟩,rfl⟩ ?_;simp only[go_sem,↓reduceIte,rob,I,hbd];refine q0i.of q2Z ?_;simp only[go_sem,↓reduceIte,m6D,mat,I,q20];refine q0i.of q2Z ?_;simp only[go_sem,↓reduceIte,m6D,mat,I,q20,ha,hn];rw[e2];exact⟨_,rfl,q1W (q':={ q.er 10 with inn:=true,tm:=q20,lm:=q20 }) hc hmm rfl⟩
 ·have e2:q.tx true={ q with inn:=true,tm:=q20,lm:=q20 }:=by simp[PT.tx,h]
  refine q0i.of q2Z ?_;simp only[go_sem,↓reduceIte,m6D,mat,I,q20];refine q0i.of q2Z ?_;simp only[go_sem,↓reduceIte,m6D,mat,I,q20,ha,hn];rw[e2];exact⟨_,rfl,q1W (q':={ q with inn:=true,tm:=q20,lm:=q20 }) hc hmm rfl⟩
theorem j8H(fl:Fl)(q:PT)(c:Option Nat)(hc:svOK q c)(hs8:q.saved.length≤8)(nm:List UInt8)(args:List Val)(hq:q.ok)(hri:q.ri)(ho:OpV.ok ⟨nm,args⟩)(h0:¬nm=[113])(h1:¬nm=[81])(h2:¬nm=[99,109])(h3:¬nm=[66,84])(h4:nm=[69,84]):
  MV Tryz.prog 33 [.ptr (.x 0) 0,.d (OpV.d ⟨nm,args⟩)] [rob (q0g fl) q c] (rsO q.saved c) (fun r hs' m'=>r=.tuple []∧∃o',hs'=[o']∧q4b (q0g fl) (q.dop fl ⟨nm,args⟩) o' m'):=by
 have hm:=q4D q.saved c;generalize hmm:rsO q.saved c=m at *;refine q0a.mv (by kernel_rfl) rfl rfl ?_;generalize hM:mob m=M;have ha:aget M 1000=m:=hM▸q0o m;have hn:=hm;unfold rowM at hn;have hMM:∀o:AObj,Sub ((0,o)::M) ((0,o)::M):=fun o=>hM▸subM o m
 have hvl:=q0n args;have e:q.dop fl ⟨nm,args⟩=q.tx false:=by
  subst h4;rfl
 rw[e];simp(disch:=omega)only[go_sem,↓reduceIte,q0b,q0c,OpV.d,I,hvl,eq_false h0,eq_false h1,eq_false h2,eq_false h3,eq_true h4];simp only[go_sem,↓reduceIte,rob,I];have hbd:decide (nm=[66,84])=false:=decide_eq_false h3;rw[hbd];refine⟨fun h=>?_,fun h=>?_⟩
 ·have e2:q.tx false={ q.er 10 with inn:=false,tm:=q20,lm:=q20 }:=by simp[PT.tx,h]
  refine q0e.poM rfl (q5s (q0g fl) q c 10 hm) (q0k _ _ _) (q0k _ _ _) hm hM rfl rfl rfl ⟨⟨rfl,rfl⟩,rfl⟩ ?_;simp only[go_sem,↓reduceIte,rob,I,hbd];refine q0i.of q2Z ?_;simp only[go_sem,↓reduceIte,m6D,mat,I,q20];refine q0i.of q2Z ?_;simp only[go_sem,↓reduceIte,m6D,mat,I,q20,ha,hn];rw[e2];exact⟨_,rfl,q1W (q':={ q.er 10 with inn:=false,tm:=q20,lm:=q20 }) hc hmm rfl⟩
 ·have e2:q.tx false={ q with inn:=false,tm:=q20,lm:=q20 }:=by simp[PT.tx,h]
  refine q0i.of q2Z ?_;simp only[go_sem,↓reduceIte,m6D,mat,I,q20];refine q0i.of q2Z ?_;simp only[go_sem,↓reduceIte,m6D,mat,I,q20,ha,hn];rw[e2];exact⟨_,rfl,q1W (q':={ q with inn:=false,tm:=q20,lm:=q20 }) hc hmm rfl⟩
theorem j8N(fl:Fl)(q:PT)(c:Option Nat)(hc:svOK q c)(hs8:q.saved.length≤8)(nm:List UInt8)(args:List Val)(hq:q.ok)(hri:q.ri)(ho:OpV.ok ⟨nm,args⟩)(h0:¬nm=[113])(h1:¬nm=[81])(h2:¬nm=[99,109])(h3:¬nm=[66,84])(h4:¬nm=[69,84])(h5:nm=[84,102]):
  MV Tryz.prog 33 [.ptr (.x 0) 0,.d (OpV.d ⟨nm,args⟩)] [rob (q0g fl) q c] (rsO q.saved c) (fun r hs' m'=>r=.tuple []∧∃o',hs'=[o']∧q4b (q0g fl) (q.dop fl ⟨nm,args⟩) o' m'):=by
 have hm:=q4D q.saved c;generalize hmm:rsO q.saved c=m at *;refine q0a.mv (by kernel_rfl) rfl rfl ?_;generalize hM:mob m=M;have ha:aget M 1000=m:=hM▸q0o m;have hn:=hm;unfold rowM at hn;have hMM:∀o:AObj,Sub ((0,o)::M) ((0,o)::M):=fun o=>hM▸subM o m
 have hvl:=q0n args;have e:q.dop fl ⟨nm,args⟩=q.chs fl args:=by
  subst h5;rfl
 rw[e];simp(disch:=omega)only[go_sem,↓reduceIte,q0b,q0c,OpV.d,I,hvl,eq_false h0,eq_false h1,eq_false h2,eq_false h3,eq_false h4,eq_true h5];have hbad:∀n,∀l,q.chs fl l=q.er n→(q.chs fl l).saved=q.saved:=fun n l h=>by rw[h];rfl
 refine⟨fun g1=>?_,fun g1=>?_⟩
 ·obtain⟨a,b,rfl⟩:=len2 (show args.length=2 by omega);have hg0:getI (q0M [a,b]) 0=some a.d:=rfl;have hg1:getI (q0M [a,b]) 1=some b.d:=rfl;simp(disch:=omega)only[go_sem,↓reduceIte,hg0,hg1,Val.d_eq];refine⟨fun g2=>⟨fun g3=>?_,fun g3=>?_⟩,fun g2=>?_⟩
  ·have e2:q.chs fl [a,b]=q.er 8:=if_neg fun h=>g3 h.2
   rw[e2];refine q0e.poM rfl (q5s (q0g fl) q c 8 hm) (q0k _ _ _) (q0k _ _ _) hm hM rfl rfl rfl ⟨⟨rfl,rfl⟩,rfl⟩ ?_;simp only[go_sem,↓reduceIte,ha,hn];exact⟨_,rfl,q1W hc hmm rfl⟩
  ·refine q6J (rX (q0g fl) q c) M 15 [0,3] [4] q.bad (by kernel_rfl) rfl rfl rfl ?_;simp only[go_sem,↓reduceIte,rX,rob,PT.wb,hg0,Val.d_eq];refine FR.prim (q3b.lookup (ks:=fl.map fun p=>.str p.1) (vs:=fl.map fun p=>p.2.d) (key:=.str a.s) rfl rfl j6V z8G rfl (fun k hk=>by obtain⟨p,_,rfl⟩:=Zak.1 hk;rfl) fntZ) z8F ?_;rw[z5u];cases hlk:z0m fl a.s with
   |none=>
    have e2:q.chs fl [a,b]=q.er 6:=by
     show(if a.kind=4∧b.kind=2 then _ else _)=_
     rw[if_pos ⟨g2,g3⟩,hlk]
    rw[e2];simp only[go_sem,↓reduceIte,Fnt.d,fnt0,rX,rob,PT.wb,Zcg];refine⟨_,rfl,rfl,?_⟩;refine q0e.poM rfl (q5s (q0g fl) q c 6 hm) (q0k _ _ _) (q0k _ _ _) hm hM rfl rfl rfl ⟨⟨rfl,rfl⟩,rfl⟩ ?_;simp only[go_sem,↓reduceIte,ha,hn];exact⟨_,rfl,q1W hc hmm rfl⟩
   |some f=>
    have e2:q.chs fl [a,b]={ q with s:={ q.s with font:=some f,size:=b.n } }:=by
     show(if a.kind=4∧b.kind=2 then _ else _)=_
     rw[if_pos ⟨g2,g3⟩,hlk]
    rw[e2];simp only[go_sem,↓reduceIte,Fnt.d,rX,rob,PT.wb,Zcq];refine⟨_,rfl,rfl,?_⟩;simp only[go_sem,↓reduceIte,hg1,Val.d_eq,ha,hn];exact⟨_,rfl,q1W (q':={ q with s:={ q.s with font:=some f,size:=b.n } }) hc hmm rfl⟩
  ·have e2:q.chs fl [a,b]=q.er 8:=if_neg fun h=>g2 h.1
   rw[e2];refine q0e.poM rfl (q5s (q0g fl) q c 8 hm) (q0k _ _ _) (q0k _ _ _) hm hM rfl rfl rfl ⟨⟨rfl,rfl⟩,rfl⟩ ?_;simp only[go_sem,↓reduceIte,ha,hn];exact⟨_,rfl,q1W hc hmm rfl⟩
 ·have e2:q.chs fl args=q.er 8:=by
   match args,g1 with
   |[a,b],g1=>simp at g1
   |[],_=>rfl
   |[_],_=>rfl
   |_::_::_::_,_=>rfl
  rw[e2];refine q0e.poM rfl (q5s (q0g fl) q c 8 hm) (q0k _ _ _) (q0k _ _ _) hm hM rfl rfl rfl ⟨⟨rfl,rfl⟩,rfl⟩ ?_;simp only[go_sem,↓reduceIte,ha,hn];exact⟨_,rfl,q1W hc hmm rfl⟩
theorem j8L(fl:Fl)(q:PT)(c:Option Nat)(hc:svOK q c)(hs8:q.saved.length≤8)(nm:List UInt8)(args:List Val)(hq:q.ok)(hri:q.ri)(ho:OpV.ok ⟨nm,args⟩)(h0:¬nm=[113])(h1:¬nm=[81])(h2:¬nm=[99,109])(h3:¬nm=[66,84])(h4:¬nm=[69,84])(h5:¬nm=[84,102])(h6:nm=[84,99]):
  MV Tryz.prog 33 [.ptr (.x 0) 0,.d (OpV.d ⟨nm,args⟩)] [rob (q0g fl) q c] (rsO q.saved c) (fun r hs' m'=>r=.tuple []∧∃o',hs'=[o']∧q4b (q0g fl) (q.dop fl ⟨nm,args⟩) o' m'):=by
 have hm:=q4D q.saved c;generalize hmm:rsO q.saved c=m at *;refine q0a.mv (by kernel_rfl) rfl rfl ?_;generalize hM:mob m=M;have ha:aget M 1000=m:=hM▸q0o m;have hn:=hm;unfold rowM at hn;have hMM:∀o:AObj,Sub ((0,o)::M) ((0,o)::M):=fun o=>hM▸subM o m
 have hvl:=q0n args;have e:q.dop fl ⟨nm,args⟩=(q.nu args 1).setN 9 ((q1v args 1).getD 0 0):=by
  subst h6;rfl
 rw[e];simp(disch:=omega)only[go_sem,↓reduceIte,q0b,q0c,OpV.d,I,hvl,eq_false h0,eq_false h1,eq_false h2,eq_false h3,eq_false h4,eq_false h5,eq_true h6];refine q0e.poM rfl (q5A (q0g fl) q c ⟨nm,args⟩ 1 ho.n (by decide) hm) (q0k _ _ _) (q0k _ _ _) hm hM rfl rfl rfl ⟨⟨rfl,rfl⟩,rfl⟩ ?_;obtain⟨a,hab⟩:∃a,q1v args 1=[a]:=Zch.1 (q2b args 1);rw[PT.nu];simp only[hab,Zaz]
 have hq1:(q.er (kErr (q2Y args 1))).saved=q.saved:=rfl;generalize q.er (kErr (q2Y args 1))=q1 at *;simp only[go_sem,↓reduceIte,rob,nmD,I,ha,hn];exact⟨_,rfl,q1W (q':=q1.setN 9 (a)) hc hmm hq1⟩
theorem j8S(fl:Fl)(q:PT)(c:Option Nat)(hc:svOK q c)(hs8:q.saved.length≤8)(nm:List UInt8)(args:List Val)(hq:q.ok)(hri:q.ri)(ho:OpV.ok ⟨nm,args⟩)(h0:¬nm=[113])(h1:¬nm=[81])(h2:¬nm=[99,109])(h3:¬nm=[66,84])(h4:¬nm=[69,84])(h5:¬nm=[84,102])(h6:¬nm=[84,99])(h7:nm=[84,119]):
  MV Tryz.prog 33 [.ptr (.x 0) 0,.d (OpV.d ⟨nm,args⟩)] [rob (q0g fl) q c] (rsO q.saved c) (fun r hs' m'=>r=.tuple []∧∃o',hs'=[o']∧q4b (q0g fl) (q.dop fl ⟨nm,args⟩) o' m'):=by
 have hm:=q4D q.saved c;generalize hmm:rsO q.saved c=m at *;refine q0a.mv (by kernel_rfl) rfl rfl ?_;generalize hM:mob m=M;have ha:aget M 1000=m:=hM▸q0o m;have hn:=hm;unfold rowM at hn;have hMM:∀o:AObj,Sub ((0,o)::M) ((0,o)::M):=fun o=>hM▸subM o m
 have hvl:=q0n args;have e:q.dop fl ⟨nm,args⟩=(q.nu args 1).setN 10 ((q1v args 1).getD 0 0):=by
  subst h7;rfl
 rw[e];simp(disch:=omega)only[go_sem,↓reduceIte,q0b,q0c,OpV.d,I,hvl,eq_false h0,eq_false h1,eq_false h2,eq_false h3,eq_false h4,eq_false h5,eq_false h6,eq_true h7];refine q0e.poM rfl (q5A (q0g fl) q c ⟨nm,args⟩ 1 ho.n (by decide) hm) (q0k _ _ _) (q0k _ _ _) hm hM rfl rfl rfl ⟨⟨rfl,rfl⟩,rfl⟩ ?_;obtain⟨a,hab⟩:∃a,q1v args 1=[a]:=Zch.1 (q2b args 1);rw[PT.nu];simp only[hab,Zaz]
 have hq1:(q.er (kErr (q2Y args 1))).saved=q.saved:=rfl;generalize q.er (kErr (q2Y args 1))=q1 at *;simp only[go_sem,↓reduceIte,rob,nmD,I,ha,hn];exact⟨_,rfl,q1W (q':=q1.setN 10 (a)) hc hmm hq1⟩
theorem j8U(fl:Fl)(q:PT)(c:Option Nat)(hc:svOK q c)(hs8:q.saved.length≤8)(nm:List UInt8)(args:List Val)(hq:q.ok)(hri:q.ri)(ho:OpV.ok ⟨nm,args⟩)(h0:¬nm=[113])(h1:¬nm=[81])(h2:¬nm=[99,109])(h3:¬nm=[66,84])(h4:¬nm=[69,84])(h5:¬nm=[84,102])(h6:¬nm=[84,99])(h7:¬nm=[84,119])(h8:nm=[84,122]):
  MV Tryz.prog 33 [.ptr (.x 0) 0,.d (OpV.d ⟨nm,args⟩)] [rob (q0g fl) q c] (rsO q.saved c) (fun r hs' m'=>r=.tuple []∧∃o',hs'=[o']∧q4b (q0g fl) (q.dop fl ⟨nm,args⟩) o' m'):=by
 have hm:=q4D q.saved c;generalize hmm:rsO q.saved c=m at *;refine q0a.mv (by kernel_rfl) rfl rfl ?_;generalize hM:mob m=M;have ha:aget M 1000=m:=hM▸q0o m;have hn:=hm;unfold rowM at hn;have hMM:∀o:AObj,Sub ((0,o)::M) ((0,o)::M):=fun o=>hM▸subM o m
 have hvl:=q0n args;have e:q.dop fl ⟨nm,args⟩=(q.nu args 1).setN 11 (IntKind.i64.wrap (((q1v args 1).getD 0 0).tdiv 100)):=by
  subst h8;rfl
 rw[e];simp(disch:=omega)only[go_sem,↓reduceIte,q0b,q0c,OpV.d,I,hvl,eq_false h0,eq_false h1,eq_false h2,eq_false h3,eq_false h4,eq_false h5,eq_false h6,eq_false h7,eq_true h8];refine q0e.poM rfl (q5A (q0g fl) q c ⟨nm,args⟩ 1 ho.n (by decide) hm) (q0k _ _ _) (q0k _ _ _) hm hM rfl rfl rfl ⟨⟨rfl,rfl⟩,rfl⟩ ?_;obtain⟨a,hab⟩:∃a,q1v args 1=[a]:=Zch.1 (q2b args 1);rw[PT.nu];simp only[hab,Zaz]
 have hq1:(q.er (kErr (q2Y args 1))).saved=q.saved:=rfl;generalize q.er (kErr (q2Y args 1))=q1 at *;simp only[go_sem,↓reduceIte,rob,nmD,I,ha,hn];exact⟨_,rfl,q1W (q':=q1.setN 11 (IntKind.i64.wrap (a.tdiv 100))) hc hmm hq1⟩
theorem j8K(fl:Fl)(q:PT)(c:Option Nat)(hc:svOK q c)(hs8:q.saved.length≤8)(nm:List UInt8)(args:List Val)(hq:q.ok)(hri:q.ri)(ho:OpV.ok ⟨nm,args⟩)(h0:¬nm=[113])(h1:¬nm=[81])(h2:¬nm=[99,109])(h3:¬nm=[66,84])(h4:¬nm=[69,84])(h5:¬nm=[84,102])(h6:¬nm=[84,99])(h7:¬nm=[84,119])(h8:¬nm=[84,122])(h9:nm=[84,76]):
  MV Tryz.prog 33 [.ptr (.x 0) 0,.d (OpV.d ⟨nm,args⟩)] [rob (q0g fl) q c] (rsO q.saved c) (fun r hs' m'=>r=.tuple []∧∃o',hs'=[o']∧q4b (q0g fl) (q.dop fl ⟨nm,args⟩) o' m'):=by
 have hm:=q4D q.saved c;generalize hmm:rsO q.saved c=m at *;refine q0a.mv (by kernel_rfl) rfl rfl ?_;generalize hM:mob m=M;have ha:aget M 1000=m:=hM▸q0o m;have hn:=hm;unfold rowM at hn;have hMM:∀o:AObj,Sub ((0,o)::M) ((0,o)::M):=fun o=>hM▸subM o m
 have hvl:=q0n args;have e:q.dop fl ⟨nm,args⟩=(q.nu args 1).setN 12 ((q1v args 1).getD 0 0):=by
  subst h9;rfl
 rw[e];simp(disch:=omega)only[go_sem,↓reduceIte,q0b,q0c,OpV.d,I,hvl,eq_false h0,eq_false h1,eq_false h2,eq_false h3,eq_false h4,eq_false h5,eq_false h6,eq_false h7,eq_false h8,eq_true h9];refine q0e.poM rfl (q5A (q0g fl) q c ⟨nm,args⟩ 1 ho.n (by decide) hm) (q0k _ _ _) (q0k _ _ _) hm hM rfl rfl rfl ⟨⟨rfl,rfl⟩,rfl⟩ ?_;obtain⟨a,hab⟩:∃a,q1v args 1=[a]:=Zch.1 (q2b args 1);rw[PT.nu];simp only[hab,Zaz]
 have hq1:(q.er (kErr (q2Y args 1))).saved=q.saved:=rfl;generalize q.er (kErr (q2Y args 1))=q1 at *;simp only[go_sem,↓reduceIte,rob,nmD,I,ha,hn];exact⟨_,rfl,q1W (q':=q1.setN 12 (a)) hc hmm hq1⟩
theorem j8R(fl:Fl)(q:PT)(c:Option Nat)(hc:svOK q c)(hs8:q.saved.length≤8)(nm:List UInt8)(args:List Val)(hq:q.ok)(hri:q.ri)(ho:OpV.ok ⟨nm,args⟩)(h0:¬nm=[113])(h1:¬nm=[81])(h2:¬nm=[99,109])(h3:¬nm=[66,84])(h4:¬nm=[69,84])(h5:¬nm=[84,102])(h6:¬nm=[84,99])(h7:¬nm=[84,119])(h8:¬nm=[84,122])(h9:¬nm=[84,76])(h10:nm=[84,115]):
  MV Tryz.prog 33 [.ptr (.x 0) 0,.d (OpV.d ⟨nm,args⟩)] [rob (q0g fl) q c] (rsO q.saved c) (fun r hs' m'=>r=.tuple []∧∃o',hs'=[o']∧q4b (q0g fl) (q.dop fl ⟨nm,args⟩) o' m'):=by
 have hm:=q4D q.saved c;generalize hmm:rsO q.saved c=m at *;refine q0a.mv (by kernel_rfl) rfl rfl ?_;generalize hM:mob m=M;have ha:aget M 1000=m:=hM▸q0o m;have hn:=hm;unfold rowM at hn;have hMM:∀o:AObj,Sub ((0,o)::M) ((0,o)::M):=fun o=>hM▸subM o m
 have hvl:=q0n args;have e:q.dop fl ⟨nm,args⟩=(q.nu args 1).setN 13 ((q1v args 1).getD 0 0):=by
  subst h10;rfl
 rw[e];simp(disch:=omega)only[go_sem,↓reduceIte,q0b,q0c,OpV.d,I,hvl,eq_false h0,eq_false h1,eq_false h2,eq_false h3,eq_false h4,eq_false h5,eq_false h6,eq_false h7,eq_false h8,eq_false h9,eq_true h10];refine q0e.poM rfl (q5A (q0g fl) q c ⟨nm,args⟩ 1 ho.n (by decide) hm) (q0k _ _ _) (q0k _ _ _) hm hM rfl rfl rfl ⟨⟨rfl,rfl⟩,rfl⟩ ?_;obtain⟨a,hab⟩:∃a,q1v args 1=[a]:=Zch.1 (q2b args 1);rw[PT.nu];simp only[hab,Zaz]
 have hq1:(q.er (kErr (q2Y args 1))).saved=q.saved:=rfl;generalize q.er (kErr (q2Y args 1))=q1 at *;simp only[go_sem,↓reduceIte,rob,nmD,I,ha,hn];exact⟨_,rfl,q1W (q':=q1.setN 13 (a)) hc hmm hq1⟩
theorem j8M(fl:Fl)(q:PT)(c:Option Nat)(hc:svOK q c)(hs8:q.saved.length≤8)(nm:List UInt8)(args:List Val)(hq:q.ok)(hri:q.ri)(ho:OpV.ok ⟨nm,args⟩)(h0:¬nm=[113])(h1:¬nm=[81])(h2:¬nm=[99,109])(h3:¬nm=[66,84])(h4:¬nm=[69,84])(h5:¬nm=[84,102])(h6:¬nm=[84,99])(h7:¬nm=[84,119])(h8:¬nm=[84,122])(h9:¬nm=[84,76])(h10:¬nm=[84,115])(h11:nm=[84,100]):
  MV Tryz.prog 33 [.ptr (.x 0) 0,.d (OpV.d ⟨nm,args⟩)] [rob (q0g fl) q c] (rsO q.saved c) (fun r hs' m'=>r=.tuple []∧∃o',hs'=[o']∧q4b (q0g fl) (q.dop fl ⟨nm,args⟩) o' m'):=by
 have hm:=q4D q.saved c;generalize hmm:rsO q.saved c=m at *;refine q0a.mv (by kernel_rfl) rfl rfl ?_;generalize hM:mob m=M;have ha:aget M 1000=m:=hM▸q0o m;have hn:=hm;unfold rowM at hn;have hMM:∀o:AObj,Sub ((0,o)::M) ((0,o)::M):=fun o=>hM▸subM o m
 have hvl:=q0n args;have e:q.dop fl ⟨nm,args⟩=(q.nu args 2).mv ((q1v args 2).getD 0 0) ((q1v args 2).getD 1 0):=by
  subst h11;rfl
 rw[e];simp(disch:=omega)only[go_sem,↓reduceIte,q0b,q0c,OpV.d,I,hvl,eq_false h0,eq_false h1,eq_false h2,eq_false h3,eq_false h4,eq_false h5,eq_false h6,eq_false h7,eq_false h8,eq_false h9,eq_false h10,eq_true h11];refine q0e.poM rfl (q5A (q0g fl) q c ⟨nm,args⟩ 2 ho.n (by decide) hm) (q0k _ _ _) (q0k _ _ _) hm hM rfl rfl rfl ⟨⟨rfl,rfl⟩,rfl⟩ ?_;rw[PT.nu];obtain⟨a,b,hab⟩:=len2 (q2b args 2);simp only[hab,Zaz,Zbo]
 have hq1:(q.er (kErr (q2Y args 2))).saved=q.saved:=rfl;have hr1:=q7c hri (kErr (q2Y args 2));generalize q.er (kErr (q2Y args 2))=q1 at *;simp only[go_sem,↓reduceIte,nmD,I];refine q0e.poM rfl (j5e (q0g fl) q1 c a b hr1.lm hm) (q0k _ _ _) (q0k _ _ _) hm hM rfl rfl rfl ⟨⟨rfl,rfl⟩,rfl⟩ ?_;simp only[go_sem,↓reduceIte,ha,hn];exact⟨_,rfl,q1W (q':=q1.mv a b) hc hmm hq1⟩
theorem j8I(fl:Fl)(q:PT)(c:Option Nat)(hc:svOK q c)(hs8:q.saved.length≤8)(nm:List UInt8)(args:List Val)(hq:q.ok)(hri:q.ri)(ho:OpV.ok ⟨nm,args⟩)(h0:¬nm=[113])(h1:¬nm=[81])(h2:¬nm=[99,109])(h3:¬nm=[66,84])(h4:¬nm=[69,84])(h5:¬nm=[84,102])(h6:¬nm=[84,99])(h7:¬nm=[84,119])(h8:¬nm=[84,122])(h9:¬nm=[84,76])(h10:¬nm=[84,115])(h11:¬nm=[84,100])(h12:nm=[84,68]):
  MV Tryz.prog 33 [.ptr (.x 0) 0,.d (OpV.d ⟨nm,args⟩)] [rob (q0g fl) q c] (rsO q.saved c) (fun r hs' m'=>r=.tuple []∧∃o',hs'=[o']∧q4b (q0g fl) (q.dop fl ⟨nm,args⟩) o' m'):=by
 have hm:=q4D q.saved c;generalize hmm:rsO q.saved c=m at *;refine q0a.mv (by kernel_rfl) rfl rfl ?_;generalize hM:mob m=M;have ha:aget M 1000=m:=hM▸q0o m;have hn:=hm;unfold rowM at hn;have hMM:∀o:AObj,Sub ((0,o)::M) ((0,o)::M):=fun o=>hM▸subM o m
 have hvl:=q0n args;have e:q.dop fl ⟨nm,args⟩=((q.nu args 2).ld (ng ((q1v args 2).getD 1 0))).mv ((q1v args 2).getD 0 0) ((q1v args 2).getD 1 0):=by
  subst h12;rfl
 rw[e];simp(disch:=omega)only[go_sem,↓reduceIte,q0b,q0c,OpV.d,I,hvl,eq_false h0,eq_false h1,eq_false h2,eq_false h3,eq_false h4,eq_false h5,eq_false h6,eq_false h7,eq_false h8,eq_false h9,eq_false h10,eq_false h11,eq_true h12];refine q0e.poM rfl (q5A (q0g fl) q c ⟨nm,args⟩ 2 ho.n (by decide) hm) (q0k _ _ _) (q0k _ _ _) hm hM rfl rfl rfl ⟨⟨rfl,rfl⟩,rfl⟩ ?_;rw[PT.nu];obtain⟨a,b,hab⟩:=len2 (q2b args 2);simp only[hab,Zaz,Zbo]
 have hq1:(q.er (kErr (q2Y args 2))).saved=q.saved:=rfl;have hr1:=q7c hri (kErr (q2Y args 2));generalize q.er (kErr (q2Y args 2))=q1 at *;simp only[go_sem,↓reduceIte,nmD,rob,I];refine q0e.poM rfl (j5e (q0g fl) (q1.ld (ng b)) c a b hr1.lm hm) (q0k _ _ _) (q0k _ _ _) hm hM rfl rfl rfl ⟨⟨rfl,rfl⟩,rfl⟩ ?_;simp only[go_sem,↓reduceIte,ha,hn];exact⟨_,rfl,q1W (q':=(q1.ld (ng b)).mv a b) hc hmm hq1⟩
theorem j8P(fl:Fl)(q:PT)(c:Option Nat)(hc:svOK q c)(hs8:q.saved.length≤8)(nm:List UInt8)(args:List Val)(hq:q.ok)(hri:q.ri)(ho:OpV.ok ⟨nm,args⟩)(h0:¬nm=[113])(h1:¬nm=[81])(h2:¬nm=[99,109])(h3:¬nm=[66,84])(h4:¬nm=[69,84])(h5:¬nm=[84,102])(h6:¬nm=[84,99])(h7:¬nm=[84,119])(h8:¬nm=[84,122])(h9:¬nm=[84,76])(h10:¬nm=[84,115])(h11:¬nm=[84,100])(h12:¬nm=[84,68])(h13:nm=[84,109]):
  MV Tryz.prog 33 [.ptr (.x 0) 0,.d (OpV.d ⟨nm,args⟩)] [rob (q0g fl) q c] (rsO q.saved c) (fun r hs' m'=>r=.tuple []∧∃o',hs'=[o']∧q4b (q0g fl) (q.dop fl ⟨nm,args⟩) o' m'):=by
 have hm:=q4D q.saved c;generalize hmm:rsO q.saved c=m at *;refine q0a.mv (by kernel_rfl) rfl rfl ?_;generalize hM:mob m=M;have ha:aget M 1000=m:=hM▸q0o m;have hn:=hm;unfold rowM at hn;have hMM:∀o:AObj,Sub ((0,o)::M) ((0,o)::M):=fun o=>hM▸subM o m
 have hvl:=q0n args;have e:q.dop fl ⟨nm,args⟩={ q.nu args 6 with tm:=m6L (q1v args 6),lm:=m6L (q1v args 6) }:=by
  subst h13;rfl
 rw[e];simp(disch:=omega)only[go_sem,↓reduceIte,q0b,q0c,OpV.d,I,hvl,eq_false h0,eq_false h1,eq_false h2,eq_false h3,eq_false h4,eq_false h5,eq_false h6,eq_false h7,eq_false h8,eq_false h9,eq_false h10,eq_false h11,eq_false h12,eq_true h13];refine q0e.poM rfl (q5A (q0g fl) q c ⟨nm,args⟩ 6 ho.n (by decide) hm) (q0k _ _ _) (q0k _ _ _) hm hM rfl rfl rfl ⟨⟨rfl,rfl⟩,rfl⟩ ?_;rw[PT.nu];obtain⟨a1,a2,a3,a4,a5,a6,hab⟩:=len6 (q2b args 6);simp only[hab]
 have hq1:(q.er (kErr (q2Y args 6))).saved=q.saved:=rfl;generalize q.er (kErr (q2Y args 6))=q1 at *;simp only[go_sem,↓reduceIte,nmD,I];refine q0i.of (z9M a1 a2 a3 a4 a5 a6) ?_;simp only[go_sem,↓reduceIte,rob,m6D,mat,I,ha,hn];exact⟨_,rfl,q1W (q':={ q1 with tm:=m6L [a1,a2,a3,a4,a5,a6],lm:=m6L [a1,a2,a3,a4,a5,a6] }) hc hmm hq1⟩
theorem j8T(fl:Fl)(q:PT)(c:Option Nat)(hc:svOK q c)(hs8:q.saved.length≤8)(nm:List UInt8)(args:List Val)(hq:q.ok)(hri:q.ri)(ho:OpV.ok ⟨nm,args⟩)(h0:¬nm=[113])(h1:¬nm=[81])(h2:¬nm=[99,109])(h3:¬nm=[66,84])(h4:¬nm=[69,84])(h5:¬nm=[84,102])(h6:¬nm=[84,99])(h7:¬nm=[84,119])(h8:¬nm=[84,122])(h9:¬nm=[84,76])(h10:¬nm=[84,115])(h11:¬nm=[84,100])(h12:¬nm=[84,68])(h13:¬nm=[84,109])(h14:nm=[84,42]):
  MV Tryz.prog 33 [.ptr (.x 0) 0,.d (OpV.d ⟨nm,args⟩)] [rob (q0g fl) q c] (rsO q.saved c) (fun r hs' m'=>r=.tuple []∧∃o',hs'=[o']∧q4b (q0g fl) (q.dop fl ⟨nm,args⟩) o' m'):=by
 have hm:=q4D q.saved c;generalize hmm:rsO q.saved c=m at *;refine q0a.mv (by kernel_rfl) rfl rfl ?_;generalize hM:mob m=M;have ha:aget M 1000=m:=hM▸q0o m;have hn:=hm;unfold rowM at hn;have hMM:∀o:AObj,Sub ((0,o)::M) ((0,o)::M):=fun o=>hM▸subM o m
 have hvl:=q0n args;have e:q.dop fl ⟨nm,args⟩=(q.nu args 0).mv 0 (ng (q.nu args 0).s.lead):=by
  subst h14;rfl
 rw[e];simp(disch:=omega)only[go_sem,↓reduceIte,q0b,q0c,OpV.d,I,hvl,eq_false h0,eq_false h1,eq_false h2,eq_false h3,eq_false h4,eq_false h5,eq_false h6,eq_false h7,eq_false h8,eq_false h9,eq_false h10,eq_false h11,eq_false h12,eq_false h13,eq_true h14];refine q0e.poM rfl (q5A (q0g fl) q c ⟨nm,args⟩ 0 ho.n (by decide) hm) (q0k _ _ _) (q0k _ _ _) hm hM rfl rfl rfl ⟨⟨rfl,rfl⟩,rfl⟩ ?_;rw[PT.nu];have hq1:(q.er (kErr (q2Y args 0))).saved=q.saved:=rfl
 have hr1:=q7c hri (kErr (q2Y args 0));generalize q.er (kErr (q2Y args 0))=q1 at *;simp only[go_sem,↓reduceIte,nmD,rob,I];refine q0e.poM rfl (j5e (q0g fl) q1 c 0 (ng q1.s.lead) hr1.lm hm) (q0k _ _ _) (q0k _ _ _) hm hM rfl rfl rfl ⟨⟨rfl,rfl⟩,rfl⟩ ?_;simp only[go_sem,↓reduceIte,ha,hn];exact⟨_,rfl,q1W (q':=q1.mv 0 (ng q1.s.lead)) hc hmm hq1⟩
theorem j8O(fl:Fl)(q:PT)(c:Option Nat)(hc:svOK q c)(hs8:q.saved.length≤8)(nm:List UInt8)(args:List Val)(hq:q.ok)(hri:q.ri)(ho:OpV.ok ⟨nm,args⟩)(h0:¬nm=[113])(h1:¬nm=[81])(h2:¬nm=[99,109])(h3:¬nm=[66,84])(h4:¬nm=[69,84])(h5:¬nm=[84,102])(h6:¬nm=[84,99])(h7:¬nm=[84,119])(h8:¬nm=[84,122])(h9:¬nm=[84,76])(h10:¬nm=[84,115])(h11:¬nm=[84,100])(h12:¬nm=[84,68])(h13:¬nm=[84,109])(h14:¬nm=[84,42])(h15:nm=[84,106]):
  MV Tryz.prog 33 [.ptr (.x 0) 0,.d (OpV.d ⟨nm,args⟩)] [rob (q0g fl) q c] (rsO q.saved c) (fun r hs' m'=>r=.tuple []∧∃o',hs'=[o']∧q4b (q0g fl) (q.dop fl ⟨nm,args⟩) o' m'):=by
 have hm:=q4D q.saved c;generalize hmm:rsO q.saved c=m at *;refine q0a.mv (by kernel_rfl) rfl rfl ?_;generalize hM:mob m=M;have ha:aget M 1000=m:=hM▸q0o m;have hn:=hm;unfold rowM at hn;have hMM:∀o:AObj,Sub ((0,o)::M) ((0,o)::M):=fun o=>hM▸subM o m
 have hvl:=q0n args;have e:q.dop fl ⟨nm,args⟩=q.st args:=by
  subst h15;rfl
 rw[e];have hn39:¬nm=[39]:=by rw[h15];decide
 simp(disch:=omega)only[go_sem,↓reduceIte,q0b,q0c,OpV.d,I,hvl,eq_false h0,eq_false h1,eq_false h2,eq_false h3,eq_false h4,eq_false h5,eq_false h6,eq_false h7,eq_false h8,eq_false h9,eq_false h10,eq_false h11,eq_false h12,eq_false h13,eq_false h14,eq_true h15,eq_false hn39];refine⟨fun g1=>?_,fun g1=>?_⟩
 ·obtain⟨v,rfl⟩:∃v,args=[v]:=by
   match args,g1 with
   |[v],_=>exact⟨v,rfl⟩
   |[],g1=>simp at g1
   |_::_::_,g1=>simp at g1;omega
  have hg:getI (q0M [v]) 0=some v.d:=rfl;simp(disch:=omega)only[go_sem,↓reduceIte,hg,Val.d_eq];refine⟨fun g2=>?_,fun g2=>?_⟩
  ·have e2:q.st [v]=(q.er 8).shw []:=by
    have e3:strM [v]=none:=if_neg g2;simp only[PT.st,e3,kErr,Zcl,↓reduceIte,Zbm]
   rw[e2];refine q0e.poM rfl (q5s (q0g fl) q c 8 hm) (q0k _ _ _) (q0k _ _ _) hm hM rfl rfl rfl ⟨⟨rfl,rfl⟩,rfl⟩ ?_;have hqe:=q7b hq 8;have hre:=q7c hri 8;have hsv:(q.er 8).saved=q.saved:=rfl;generalize q.er 8=q1 at *;simp only[go_sem,↓reduceIte];refine q0e.poM rfl (z8z (q0g fl) q1 c [] hqe hre (by simp) hm) (q0k _ _ _) (q0k _ _ _) hm hM rfl rfl rfl ⟨⟨rfl,rfl⟩,rfl⟩ ?_;simp only[go_sem,↓reduceIte,ha,hn];exact⟨_,rfl,q1W (q':=q1.shw []) hc hmm ((q5W hqe []).trans hsv)⟩
  ·have e2:q.st [v]=q.shw v.s:=by
    have e3:strM [v]=some v.s:=if_pos g2;simp only[PT.st,e3,kErr,Option.isNone_some,Zan,↓reduceIte,Zbj,er0]
   rw[e2];refine q0e.poM rfl (z8z (q0g fl) q c v.s hq hri (ho.s v (by simp)).1 hm) (q0k _ _ _) (q0k _ _ _) hm hM rfl rfl rfl ⟨⟨rfl,rfl⟩,rfl⟩ ?_;simp only[go_sem,↓reduceIte,ha,hn];exact⟨_,rfl,q1W (q':=q.shw v.s) hc hmm ((q5W hq v.s).trans rfl)⟩
 ·have e2:q.st args=(q.er 8).shw []:=by
   have e3:strM args=none:=z3v (by omega);simp only[PT.st,e3,kErr,Zcl,↓reduceIte,Zbm]
  rw[e2];refine q0e.poM rfl (q5s (q0g fl) q c 8 hm) (q0k _ _ _) (q0k _ _ _) hm hM rfl rfl rfl ⟨⟨rfl,rfl⟩,rfl⟩ ?_;have hqe:=q7b hq 8;have hre:=q7c hri 8;have hsv:(q.er 8).saved=q.saved:=rfl;generalize q.er 8=q1 at *;simp only[go_sem,↓reduceIte];refine q0e.poM rfl (z8z (q0g fl) q1 c [] hqe hre (by simp) hm) (q0k _ _ _) (q0k _ _ _) hm hM rfl rfl rfl ⟨⟨rfl,rfl⟩,rfl⟩ ?_;simp only[go_sem,↓reduceIte,ha,hn];exact⟨_,rfl,q1W (q':=q1.shw []) hc hmm ((q5W hqe []).trans hsv)⟩
theorem j8Q(fl:Fl)(q:PT)(c:Option Nat)(hc:svOK q c)(hs8:q.saved.length≤8)(nm:List UInt8)(args:List Val)(hq:q.ok)(hri:q.ri)(ho:OpV.ok ⟨nm,args⟩)(h0:¬nm=[113])(h1:¬nm=[81])(h2:¬nm=[99,109])(h3:¬nm=[66,84])(h4:¬nm=[69,84])(h5:¬nm=[84,102])(h6:¬nm=[84,99])(h7:¬nm=[84,119])(h8:¬nm=[84,122])(h9:¬nm=[84,76])(h10:¬nm=[84,115])(h11:¬nm=[84,100])(h12:¬nm=[84,68])(h13:¬nm=[84,109])(h14:¬nm=[84,42])(h15:¬nm=[84,106])(h16:nm=[39]):
  MV Tryz.prog 33 [.ptr (.x 0) 0,.d (OpV.d ⟨nm,args⟩)] [rob (q0g fl) q c] (rsO q.saved c) (fun r hs' m'=>r=.tuple []∧∃o',hs'=[o']∧q4b (q0g fl) (q.dop fl ⟨nm,args⟩) o' m'):=by
 have hm:=q4D q.saved c;generalize hmm:rsO q.saved c=m at *;refine q0a.mv (by kernel_rfl) rfl rfl ?_;generalize hM:mob m=M;have ha:aget M 1000=m:=hM▸q0o m;have hn:=hm;unfold rowM at hn;have hMM:∀o:AObj,Sub ((0,o)::M) ((0,o)::M):=fun o=>hM▸subM o m
 have hvl:=q0n args;have e:q.dop fl ⟨nm,args⟩=(q.mv 0 (ng q.s.lead)).st args:=by
  subst h16;rfl
 rw[e];simp(disch:=omega)only[go_sem,↓reduceIte,q0b,q0c,OpV.d,I,hvl,eq_false h0,eq_false h1,eq_false h2,eq_false h3,eq_false h4,eq_false h5,eq_false h6,eq_false h7,eq_false h8,eq_false h9,eq_false h10,eq_false h11,eq_false h12,eq_false h13,eq_false h14,eq_false h15,eq_true h16];simp only[go_sem,↓reduceIte,rob,I];refine q0e.poM rfl (j5e (q0g fl) q c 0 (ng q.s.lead) hri.lm hm) (q0k _ _ _) (q0k _ _ _) hm hM rfl rfl rfl ⟨⟨rfl,rfl⟩,rfl⟩ ?_
 have hq0:=z8c hq 0 (ng q.s.lead);have hr0:=j2r hri 0 (ng q.s.lead);have hs0:(q.mv 0 (ng q.s.lead)).saved=q.saved:=rfl;generalize q.mv 0 (ng q.s.lead)=q0 at *;simp(disch:=omega)only[go_sem,↓reduceIte,hvl];refine⟨fun g1=>?_,fun g1=>?_⟩
 ·obtain⟨v,rfl⟩:∃v,args=[v]:=by
   match args,g1 with
   |[v],_=>exact⟨v,rfl⟩
   |[],g1=>simp at g1
   |_::_::_,g1=>simp at g1;omega
  have hg:getI (q0M [v]) 0=some v.d:=rfl;simp(disch:=omega)only[go_sem,↓reduceIte,hg,Val.d_eq];refine⟨fun g2=>?_,fun g2=>?_⟩
  ·have e2:q0.st [v]=(q0.er 8).shw []:=by
    have e3:strM [v]=none:=if_neg g2;simp only[PT.st,e3,kErr,Zcl,↓reduceIte,Zbm]
   rw[e2];refine q0e.poM rfl (q5s (q0g fl) q0 c 8 hm) (q0k _ _ _) (q0k _ _ _) hm hM rfl rfl rfl ⟨⟨rfl,rfl⟩,rfl⟩ ?_;have hqe:=q7b hq0 8;have hre:=q7c hr0 8;have hsv:(q0.er 8).saved=q.saved:=hs0;generalize q0.er 8=q1 at *;simp only[go_sem,↓reduceIte];refine q0e.poM rfl (z8z (q0g fl) q1 c [] hqe hre (by simp) hm) (q0k _ _ _) (q0k _ _ _) hm hM rfl rfl rfl ⟨⟨rfl,rfl⟩,rfl⟩ ?_;simp only[go_sem,↓reduceIte,ha,hn];exact⟨_,rfl,q1W (q':=q1.shw []) hc hmm ((q5W hqe []).trans hsv)⟩
  ·have e2:q0.st [v]=q0.shw v.s:=by
    have e3:strM [v]=some v.s:=if_pos g2;simp only[PT.st,e3,kErr,Option.isNone_some,Zan,↓reduceIte,Zbj,er0]
   rw[e2];refine q0e.poM rfl (z8z (q0g fl) q0 c v.s hq0 hr0 (ho.s v (by simp)).1 hm) (q0k _ _ _) (q0k _ _ _) hm hM rfl rfl rfl ⟨⟨rfl,rfl⟩,rfl⟩ ?_;simp only[go_sem,↓reduceIte,ha,hn];exact⟨_,rfl,q1W (q':=q0.shw v.s) hc hmm ((q5W hq0 v.s).trans hs0)⟩
 ·have e2:q0.st args=(q0.er 8).shw []:=by
   have e3:strM args=none:=z3v (by omega);simp only[PT.st,e3,kErr,Zcl,↓reduceIte,Zbm]
  rw[e2];refine q0e.poM rfl (q5s (q0g fl) q0 c 8 hm) (q0k _ _ _) (q0k _ _ _) hm hM rfl rfl rfl ⟨⟨rfl,rfl⟩,rfl⟩ ?_;have hqe:=q7b hq0 8;have hre:=q7c hr0 8;have hsv:(q0.er 8).saved=q.saved:=hs0;generalize q0.er 8=q1 at *;simp only[go_sem,↓reduceIte];refine q0e.poM rfl (z8z (q0g fl) q1 c [] hqe hre (by simp) hm) (q0k _ _ _) (q0k _ _ _) hm hM rfl rfl rfl ⟨⟨rfl,rfl⟩,rfl⟩ ?_;simp only[go_sem,↓reduceIte,ha,hn];exact⟨_,rfl,q1W (q':=q1.shw []) hc hmm ((q5W hqe []).trans hsv)⟩
theorem j8J(fl:Fl)(q:PT)(c:Option Nat)(hc:svOK q c)(hs8:q.saved.length≤8)(nm:List UInt8)(args:List Val)(hq:q.ok)(hri:q.ri)(ho:OpV.ok ⟨nm,args⟩)(h0:¬nm=[113])(h1:¬nm=[81])(h2:¬nm=[99,109])(h3:¬nm=[66,84])(h4:¬nm=[69,84])(h5:¬nm=[84,102])(h6:¬nm=[84,99])(h7:¬nm=[84,119])(h8:¬nm=[84,122])(h9:¬nm=[84,76])(h10:¬nm=[84,115])(h11:¬nm=[84,100])(h12:¬nm=[84,68])(h13:¬nm=[84,109])(h14:¬nm=[84,42])(h15:¬nm=[84,106])(h16:¬nm=[39])(h17:nm=[84,74]):
  MV Tryz.prog 33 [.ptr (.x 0) 0,.d (OpV.d ⟨nm,args⟩)] [rob (q0g fl) q c] (rsO q.saved c) (fun r hs' m'=>r=.tuple []∧∃o',hs'=[o']∧q4b (q0g fl) (q.dop fl ⟨nm,args⟩) o' m'):=by
 have hm:=q4D q.saved c;generalize hmm:rsO q.saved c=m at *;refine q0a.mv (by kernel_rfl) rfl rfl ?_;generalize hM:mob m=M;have ha:aget M 1000=m:=hM▸q0o m;have hn:=hm;unfold rowM at hn;have hMM:∀o:AObj,Sub ((0,o)::M) ((0,o)::M):=fun o=>hM▸subM o m
 have hvl:=q0n args;have e:q.dop fl ⟨nm,args⟩=q.tj args:=by
  subst h17;rfl
 rw[e];simp(disch:=omega)only[go_sem,↓reduceIte,q0b,q0c,OpV.d,I,hvl,eq_false h0,eq_false h1,eq_false h2,eq_false h3,eq_false h4,eq_false h5,eq_false h6,eq_false h7,eq_false h8,eq_false h9,eq_false h10,eq_false h11,eq_false h12,eq_false h13,eq_false h14,eq_false h15,eq_false h16,eq_true h17];refine⟨fun g1=>?_,fun g1=>?_⟩
 ·obtain⟨v,rfl⟩:∃v,args=[v]:=by
   match args,g1 with
   |[v],_=>exact⟨v,rfl⟩
   |[],g1=>simp at g1
   |_::_::_,g1=>simp at g1;omega
  have hg:getI (q0M [v]) 0=some v.d:=rfl;simp(disch:=omega)only[go_sem,↓reduceIte,hg,Val.d_eq];refine⟨fun g2=>?_,fun g2=>?_⟩
  ·have e2:q.tj [v]=q.er 8:=if_neg g2;rw[e2];refine q0e.poM rfl (q5s (q0g fl) q c 8 hm) (q0k _ _ _) (q0k _ _ _) hm hM rfl rfl rfl ⟨⟨rfl,rfl⟩,rfl⟩ ?_;simp only[go_sem,↓reduceIte,ha,hn];exact⟨_,rfl,q1W hc hmm rfl⟩
  ·have e2:q.tj [v]=q.lst v.l:=if_pos g2;rw[e2];obtain⟨_,_,hl,hv⟩:=ho.s v (by simp);generalize v.l=l at *;have hll:=q0n l;obtain⟨S,hS⟩:∃S:Nat→AObj,∀i,S i=rob (q0g fl) (q.lst (l.take i)) c:=⟨_,fun _=>rfl⟩;refine q0j (fun i:Nat=>⟨[(0,.ptr (.x 0) 0),(8,.d (.list (q0M l))),(9,.d (.int .i64 i))],[],(0,S i)::M⟩) (fun i=>i≤l.length) (fun i=>l.length-i) 0 ?_ (Zar _) ?_
   ·rw[hS 0];refine Weak.mk ?_ ?_ (hMM _)<;>simp only[go_sem,↓reduceIte,Sub,Int.natCast_add,Int.natCast_mul,PT.lst]
   ·intro i hi;rw[hS i];simp(disch:=omega)only[go_sem,↓reduceIte,hll];refine⟨fun hlt=>?_,fun hge=>?_⟩
    ·obtain⟨w,hx⟩:=get_some (l:=l) (i:=i) (by omega);have hgw:getI (q0M l) (i:Int)=some w.d:=by rw[q0d,q4Z,hx];rfl
     have htk:l.take (i+1)=l.take i++[w]:=by rw[Zbd,hx];rfl
     have hgl:=hS (i+1);rw[htk,z9k]at hgl;have hok:=j2n hq (l.take i);have hrl:=j52 hri (l.take i);obtain⟨hv1,hv2⟩:=hv w (Zaa hx);generalize q.lst (l.take i)=q1 at *;simp(disch:=omega)only[go_sem,↓reduceIte,hgw,Val.d_eq];refine⟨fun g3=>?_,fun g3=>⟨fun g4=>?_,fun g4=>?_⟩⟩
     ·have e3:q1.ls1 w=q1.shw w.s:=if_pos g3;refine q0e.poM rfl (z8z (q0g fl) q1 c w.s hok hrl hv1 hm) (q0k _ _ _) (q0k _ _ _) hm hM rfl rfl rfl ⟨⟨rfl,rfl⟩,rfl⟩ ?_;simp(disch:=omega)only[go_sem,↓reduceIte];refine⟨i+1,?_,by omega,by omega⟩;rw[hgl,e3];refine Weak.mk ?_ ?_ (hMM _)<;>simp only[go_sem,↓reduceIte,Sub,Int.natCast_add,Int.natCast_mul]
     ·have e3:q1.ls1 w=q1.bk w.n:=by
       show(if w.kind=3 then _ else if w.kind=2 then _ else _)=_
       rw[if_neg g3,if_pos g4]
      obtain⟨b1,b2⟩:=hv2 g4;obtain⟨t1,t2⟩:=z8J (x:=w.n) (B:=1000000000) (by omega) (by omega);obtain⟨t3,t4⟩:=z8J (x := -w.n) (B:=1000000000) (by omega) (by omega);have hw1:IntKind.i64.wrap (w.n.tdiv 1000)=w.n.tdiv 1000:=IntWalk.i64_in _ (by omega);have hw2:IntKind.i64.wrap (0-w.n.tdiv 1000)=(-w.n).tdiv 1000:=by rw[Int.zero_sub,←Int.neg_tdiv];exact IntWalk.i64_in _ (by omega)
      have hmul:∀n a b,MVE Tryz.prog 57 [.ptr (.x 0) 0,.d (I a),.d (I b)] [rX (q0g fl) q1 c n] m (.d (I ((mulF a b).getD 0))) [rX (q0g fl) q1 c (orE n (errO (mulF a b)))] m:=fun n a b=>rmul (q0g fl) (q1.wb n) c a b hm
      have hcat:∀n a b,M6.ok b→MVE Tryz.prog 51 [.ptr (.x 0) 0,.d (m6D a),.d (m6D b)] [rX (q0g fl) q1 c n] m (.d (m6D ((catF a b).getD m60))) [rX (q0g fl) q1 c (orE n (errO (catF a b)))] m:=fun n a b hb=>j26 (q0g fl) (q1.wb n) c a b hb hm
      refine q6J (rX (q0g fl) q1 c) M 24 [0,10] [] q1.bad (by kernel_rfl) rfl rfl rfl ?_;simp only[go_sem,↓reduceIte,rX,rob,PT.wb,I,hw1,hw2];refine FR.prim (q3b.mve rfl hM (hmul _ ((-w.n).tdiv 1000) q1.s.size) (q3h _ _ _ _) (q3h _ _ _ _) hm rfl rfl ⟨⟨rfl,rfl⟩,rfl⟩) rfl ?_;generalize ho1:mulF ((-w.n).tdiv 1000) q1.s.size=o1 at *;simp only[go_sem,↓reduceIte,rX,rob,PT.wb,I];refine FR.prim (q3b.mve rfl hM (hmul _ (o1.getD 0) q1.s.scale) (q3h _ _ _ _) (q3h _ _ _ _) hm rfl rfl ⟨⟨rfl,rfl⟩,rfl⟩) rfl ?_;generalize ho2:mulF (o1.getD 0) q1.s.scale=o2 at *
      simp only[go_sem,↓reduceIte,rX,rob,PT.wb,I];refine FR.call (q8Q (o2.getD 0) 0) rfl ?_;simp only[go_sem,↓reduceIte,rX,rob,PT.wb,I];refine FR.prim (q3b.mve rfl hM (hcat _ (1000,0,0,1000,o2.getD 0,0) q1.tm hrl.tm) (q3h _ _ _ _) (q3h _ _ _ _) hm rfl rfl ⟨⟨rfl,rfl⟩,rfl⟩) rfl ?_;simp(disch:=omega)only[go_sem,↓reduceIte,rX,rob,PT.wb,m6D,mat,I];refine⟨i+1,?_,by omega,by omega⟩;have hgB:q1.bk w.n=(q1.wb (orE (orE q1.bad (errO o1)) (errO o2))).on (o2.getD 0):=by
       unfold PT.bk;simp only[ho1,ho2]
      rw[hgl,e3,hgB];refine Weak.mk ?_ ?_ (hMM _)
      ·simp only[go_sem,↓reduceIte,Sub,Int.natCast_add]
      ·simp only[go_sem,↓reduceIte,Sub]
     ·have e3:q1.ls1 w=q1.er 8:=by
       show(if w.kind=3 then _ else if w.kind=2 then _ else _)=_
       rw[if_neg g3,if_neg g4]
      refine q0e.poM rfl (q5s (q0g fl) q1 c 8 hm) (q0k _ _ _) (q0k _ _ _) hm hM rfl rfl rfl ⟨⟨rfl,rfl⟩,rfl⟩ ?_;simp(disch:=omega)only[go_sem,↓reduceIte];refine⟨i+1,?_,by omega,by omega⟩;rw[hgl,e3];refine Weak.mk ?_ ?_ (hMM _)<;>simp only[go_sem,↓reduceIte,Sub,Int.natCast_add,Int.natCast_mul]
    ·have hie:l.take i=l:=List.take_of_length_le (by omega);rw[hie];simp only[go_sem,↓reduceIte,ha,hn];exact⟨_,rfl,q1W (q':=q.lst l) hc hmm (z6M hq l)⟩
 ·have e2:q.tj args=q.er 8:=by
   match args,g1 with
   |[v],g1=>simp at g1
   |[],_=>rfl
   |_::_::_,_=>rfl
  rw[e2];refine q0e.poM rfl (q5s (q0g fl) q c 8 hm) (q0k _ _ _) (q0k _ _ _) hm hM rfl rfl rfl ⟨⟨rfl,rfl⟩,rfl⟩ ?_;simp only[go_sem,↓reduceIte,ha,hn];exact⟨_,rfl,q1W hc hmm rfl⟩
theorem j28(fl:Fl)(q:PT)(c:Option Nat)(hc:svOK q c)(hs8:q.saved.length≤8)(nm:List UInt8)(args:List Val)(hq:q.ok)(hri:q.ri)(ho:OpV.ok ⟨nm,args⟩)(h0:¬nm=[113])(h1:¬nm=[81])(h2:¬nm=[99,109])(h3:¬nm=[66,84])(h4:¬nm=[69,84])(h5:¬nm=[84,102])(h6:¬nm=[84,99])(h7:¬nm=[84,119])(h8:¬nm=[84,122])(h9:¬nm=[84,76])(h10:¬nm=[84,115])(h11:¬nm=[84,100])(h12:¬nm=[84,68])(h13:¬nm=[84,109])(h14:¬nm=[84,42])(h15:¬nm=[84,106])(h16:¬nm=[39])(h17:¬nm=[84,74]):
  MV Tryz.prog 33 [.ptr (.x 0) 0,.d (OpV.d ⟨nm,args⟩)] [rob (q0g fl) q c] (rsO q.saved c) (fun r hs' m'=>r=.tuple []∧∃o',hs'=[o']∧q4b (q0g fl) (q.dop fl ⟨nm,args⟩) o' m'):=by
 have hm:=q4D q.saved c;generalize hmm:rsO q.saved c=m at *;refine q0a.mv (by kernel_rfl) rfl rfl ?_;generalize hM:mob m=M;have ha:aget M 1000=m:=hM▸q0o m;have hn:=hm;unfold rowM at hn;have hMM:∀o:AObj,Sub ((0,o)::M) ((0,o)::M):=fun o=>hM▸subM o m
 have hvl:=q0n args;have e:q.dop fl ⟨nm,args⟩=q:=by
  simp only[PT.dop,PT.ins,setAt,h0,h1,h2,h3,h4,h5,h6,h7,h8,h9,h10,h11,h12,h13,h14,h15,h16,h17,or_self,↓reduceIte]
 rw[e];simp(disch:=omega)only[go_sem,↓reduceIte,q0b,q0c,OpV.d,I,hvl,eq_false h0,eq_false h1,eq_false h2,eq_false h3,eq_false h4,eq_false h5,eq_false h6,eq_false h7,eq_false h8,eq_false h9,eq_false h10,eq_false h11,eq_false h12,eq_false h13,eq_false h14,eq_false h15,eq_false h16,eq_false h17];simp only[go_sem,↓reduceIte,ha,hn];exact⟨_,rfl,q1W hc hmm rfl⟩
theorem rdo(fl:Fl)(q:PT)(c:Option Nat)(hc:svOK q c)(hs8:q.saved.length≤8)(o:OpV)(hq:q.ok)(hri:q.ri)(ho:o.ok):
  MV Tryz.prog 33 [.ptr (.x 0) 0,.d o.d] [rob (q0g fl) q c] (rsO q.saved c) (fun r hs' m'=>r=.tuple []∧∃o',hs'=[o']∧q4b (q0g fl) (q.dop fl o) o' m'):=by
 obtain⟨nm,args⟩:=o
 by_cases h0:nm=[113]
 ·exact j9F fl q c hc hs8 nm args hq hri ho h0
 by_cases h1:nm=[81]
 ·exact j9E fl q c hc hs8 nm args hq hri ho h0 h1
 by_cases h2:nm=[99,109]
 ·exact j8V fl q c hc hs8 nm args hq hri ho h0 h1 h2
 by_cases h3:nm=[66,84]
 ·exact j8G fl q c hc hs8 nm args hq hri ho h0 h1 h2 h3
 by_cases h4:nm=[69,84]
 ·exact j8H fl q c hc hs8 nm args hq hri ho h0 h1 h2 h3 h4
 by_cases h5:nm=[84,102]
 ·exact j8N fl q c hc hs8 nm args hq hri ho h0 h1 h2 h3 h4 h5
 by_cases h6:nm=[84,99]
 ·exact j8L fl q c hc hs8 nm args hq hri ho h0 h1 h2 h3 h4 h5 h6
 by_cases h7:nm=[84,119]
 ·exact j8S fl q c hc hs8 nm args hq hri ho h0 h1 h2 h3 h4 h5 h6 h7
 by_cases h8:nm=[84,122]
 ·exact j8U fl q c hc hs8 nm args hq hri ho h0 h1 h2 h3 h4 h5 h6 h7 h8
 by_cases h9:nm=[84,76]
 ·exact j8K fl q c hc hs8 nm args hq hri ho h0 h1 h2 h3 h4 h5 h6 h7 h8 h9
 by_cases h10:nm=[84,115]
 ·exact j8R fl q c hc hs8 nm args hq hri ho h0 h1 h2 h3 h4 h5 h6 h7 h8 h9 h10
 by_cases h11:nm=[84,100]
 ·exact j8M fl q c hc hs8 nm args hq hri ho h0 h1 h2 h3 h4 h5 h6 h7 h8 h9 h10 h11
 by_cases h12:nm=[84,68]
 ·exact j8I fl q c hc hs8 nm args hq hri ho h0 h1 h2 h3 h4 h5 h6 h7 h8 h9 h10 h11 h12
 by_cases h13:nm=[84,109]
 ·exact j8P fl q c hc hs8 nm args hq hri ho h0 h1 h2 h3 h4 h5 h6 h7 h8 h9 h10 h11 h12 h13
 by_cases h14:nm=[84,42]
 ·exact j8T fl q c hc hs8 nm args hq hri ho h0 h1 h2 h3 h4 h5 h6 h7 h8 h9 h10 h11 h12 h13 h14
 by_cases h15:nm=[84,106]
 ·exact j8O fl q c hc hs8 nm args hq hri ho h0 h1 h2 h3 h4 h5 h6 h7 h8 h9 h10 h11 h12 h13 h14 h15
 by_cases h16:nm=[39]
 ·exact j8Q fl q c hc hs8 nm args hq hri ho h0 h1 h2 h3 h4 h5 h6 h7 h8 h9 h10 h11 h12 h13 h14 h15 h16
 by_cases h17:nm=[84,74]
 ·exact j8J fl q c hc hs8 nm args hq hri ho h0 h1 h2 h3 h4 h5 h6 h7 h8 h9 h10 h11 h12 h13 h14 h15 h16 h17
 exact j28 fl q c hc hs8 nm args hq hri ho h0 h1 h2 h3 h4 h5 h6 h7 h8 h9 h10 h11 h12 h13 h14 h15 h16 h17
theorem z0I:q20.ok:=⟨⟨by decide,by decide⟩,⟨by decide,by decide⟩⟩
theorem j53{o:OpV}(ho:o.ok):(m6L (q1v o.args 6)).ok:=by
 have h:=j2I ho 6;obtain⟨a,b,c,d,e,f,hab⟩:=len6 (q2b o.args 6);rw[hab]at h ⊢;exact⟨(h e (by simp)).i64,(h f (by simp)).i64⟩
theorem j9K{q:PT}(h:q.ri)(b:Bool):(q.sv b).ri:=by
 unfold PT.sv;split
 ·split
  ·exact q7c h _
  ·rename_i x hx;exact⟨h.tm,h.lm,h.sv x (List.mem_of_getLast? hx),fun s hs=>h.sv s (List.dropLast_subset _ hs)⟩
 ·split
  ·exact q7c h _
  ·refine⟨h.tm,h.lm,h.ctm,fun s hs=>?_⟩;rcases Zbb.1 hs with hs|hs
   ·exact h.sv s hs
   ·simp at hs;subst hs;exact h.ctm
theorem j9S{q:PT}(h:q.ri)(b:Bool):(q.tx b).ri:=by
 unfold PT.tx;split<;>exact⟨z0I,z0I,h.ctm,h.sv⟩
theorem j7W{q:PT}(h:q.ri)(fl:Fl)(l:List Val):(q.chs fl l).ri:=by
 unfold PT.chs;split
 ·split
  ·split
   ·exact⟨h.tm,h.lm,h.ctm,h.sv⟩
   ·exact q7c h _
  ·exact q7c h _
 ·exact q7c h _
theorem j82{q:PT}(h:q.ri)(l:List Val):(q.st l).ri:=j6b (q7c h _) _
theorem j9Q{q:PT}(h:q.ri)(l:List Val):(q.tj l).ri:=by
 unfold PT.tj;split
 ·split
  ·exact j52 h _
  ·exact q7c h _
 ·exact q7c h _
theorem j8f{q:PT}(h:q.ri){o:OpV}(ho:o.ok):(q.ins o).ri:=by
 unfold PT.ins;split
 ·exact j2r (q7c h _) _ _
 split
 ·exact j2r (q:=(q.nu o.args 2).ld (ng ((q1v o.args 2).getD 1 0))) ⟨h.tm,h.lm,h.ctm,h.sv⟩ _ _
 split
 ·exact⟨j53 ho,j53 ho,h.ctm,h.sv⟩
 split
 ·exact j2r (q7c h _) _ _
 split
 ·exact j82 h _
 split
 ·exact j82 (j2r h _ _) _
 split
 ·exact j9Q h _
 ·exact h
theorem j7Y{q:PT}(h:q.ri)(fl:Fl){o:OpV}(ho:o.ok):(q.dop fl o).ri:=by
 unfold PT.dop;split
 ·exact⟨h.tm,h.lm,h.ctm,h.sv⟩
 ·split
  ·exact j9K h _
  ·split
   ·exact⟨h.tm,h.lm,z2p _ _,h.sv⟩
   ·split
    ·exact j9S h _
    ·split
     ·exact j7W h fl _
     ·exact j8f h ho
def j7m:List Gph→AV
 |[]=>.ns
 |g::l=>.own (.c (.l 17) 33) 55 10 (q3d (g::l))
def robC(fd:D)(q:PT)(c:Option Nat)(z:AV):List AV:=
 [.d fd,.d (I q.s.ctm.1),.d (I q.s.ctm.2.1),.d (I q.s.ctm.2.2.1),.d (I q.s.ctm.2.2.2.1),.d (I q.s.ctm.2.2.2.2.1),.d (I q.s.ctm.2.2.2.2.2),.d (.bool (rfnt q.s.font).wide),.d (.map (q2A (rfnt q.s.font).ws) (q7Z (rfnt q.s.font).ws)),.d (.int .i64 (rfnt q.s.font).miss),.d (.map (q2A (rfnt q.s.font).ns) (q7U (rfnt q.s.font).ns)),z,.d (.bool q.s.font.isSome),.d (I q.s.size),.d (I q.s.char),.d (I q.s.word),.d (I q.s.scale),.d (I q.s.lead),.d (I q.s.rise),
  svV q.saved c,.d (I q.tm.1),.d (I q.tm.2.1),.d (I q.tm.2.2.1),.d (I q.tm.2.2.2.1),.d (I q.tm.2.2.2.2.1),.d (I q.tm.2.2.2.2.2),.d (I q.lm.1),.d (I q.lm.2.1),.d (I q.lm.2.2.1),.d (I q.lm.2.2.2.1),.d (I q.lm.2.2.2.2.1),.d (I q.lm.2.2.2.2.2),
  .d (.bool q.inn),j7m q.out,.d (I q.bad)]
def robL(fd:D)(q:PT)(c:Option Nat)(z:AV):AObj:=.cells (robC fd q c z)
def spZ(q:PT):AV:=.d (.list (q1s (rfnt q.s.font).cs))
theorem j3f(fd:D)(q:PT)(c:Option Nat):(rob fd q c).ren [.l 17]=robL fd q c (spZ q):=by
 obtain⟨s,saved,tm,lm,inn,out,bad⟩:=q;cases c<;>cases out<;>rfl
theorem j7l(fd:D)(q:PT)(c:Option Nat)(z:AV)(hz:z=spZ q∨z=.ns∧(rfnt q.s.font).cs=[])(i:Nat)(x':AV)(h:(robC fd q c (spZ q))[i]?=some x'):∃x,(robC fd q c z)[i]?=some x∧(x'=x∨(x=.ns∧x'=.d (.list []))):=by
 by_cases hi:i=11
 ·subst hi;have hx:x'=spZ q:=(Option.some.inj h).symm;refine⟨z,rfl,?_⟩;rcases hz with rfl|⟨rfl,h2⟩
  ·exact .inl hx
  ·exact .inr ⟨rfl,by rw[hx,spZ,h2];rfl⟩
 ·have e:robC fd q c z=(robC fd q c (spZ q)).set 11 z:=rfl;exact⟨x',by rw[e,List.getElem?_set_ne (fun e=>hi e.symm)];exact h,.inl rfl⟩
theorem rvGh{σ:St}{q:PT}{rest:List PSt}{c:Option Nat}(h:match c with
 |none=>q.saved=[]∧rest=[]
 |some c=>(q.saved++rest).length≤c∧c≤maxLen)(hH:σ.H=mob (rsO (q.saved++rest) c)):Gh σ ⟨σ.ρ,σ.L,mob (rsO q.saved c)⟩∧svOK q c:=by
 cases c with
 |none=>
  refine⟨?_,h.1⟩;have e:(⟨σ.ρ,σ.L,mob (rsO q.saved none)⟩:St)=σ:=by
   obtain⟨ρ,L,H⟩:=σ;simp only at hH;rw[hH];rfl
  rw[e];exact Gh.refl σ
 |some c=>
  simp only at h;have hl:(q.saved++rest).length≤c:=h.1;rw[Zaq]at hl;refine⟨?_,by omega,h.2⟩;have e:(⟨σ.ρ,σ.L,mob (rsO q.saved (some c))⟩:St)=σ.setObj (.x 1000) (.cells (rowC 18 (q.saved.map PSt.r) c)):=by
   obtain⟨ρ,L,H⟩:=σ;simp only at hH;subst hH;rfl
  rw[e];refine Gh.z5L (gs:=rest.map PSt.r) ?_ (z3x _) (z3x _) (by rw[Zaq,Zas,Zas];exact hl);rw[hH,←List.map_append];rfl
def z0t(q:PT):Res:=if q.bad=0 then .tup [.list (q3d q.out),I 0]else .tup [.list [],I q.bad]
def z60(fl:Fl)(l:List OpV):Res:=if l.length>2000 then .tup [.list [],I 2]else z0t (q00.run fl l)
def q2k:q0m:=
 .seq (.reg [⟨some 4,.nils 55 10,none⟩,Qx 5 (Ki 0)]) (.seq (.seq (.reg [Qc 8 0,Q 9 (.len false (.t 8)),Q 10 (.bin .gtr (.t 9) (Ki 2000))]) (.cond (.t 10) (.seq (.reg [⟨some 4, 
 .nils 55 10,none⟩,Qx 5 (Ki 2)]) .ret) .skip)) (.seq (.reg [Qc 11 1,⟨some 12,.call 32 [],none⟩,Q 13 (.bld [(0,6),(6,5),(11,1),(12,1),(13,1),(14,1),(15,1),(16, 
 1),(17,1)] [.int .i64 0,.int .i64 0,.int .i64 0,.int .i64 0,.int .i64 0,.int .i64 0,.bool false,.map [] [],.int .i64 0,.map [] [],.list [],.bool false,.int .i64 0, 
 .int .i64 0,.int .i64 0,.int .i64 0,.int .i64 0,.int .i64 0] [false,false,false,false,false,false,false,false,false,false,true,false,false,false,false,false, 
 false,false] [(0,.t 12),(6,.k (.d (.int .i64 1000)))]),⟨some 14,.call 32 [],none⟩,⟨some 15,.call 32 [],none⟩,Q 16 (.bld [(0,1),(1,18),(19,1),(20,6),(26,6), 
 (32,1),(33,1),(34,1)] [.map [] [],.int .i64 0,.int .i64 0,.int .i64 0,.int .i64 0,.int .i64 0,.int .i64 0,.bool false,.map [] [],.int .i64 0,.map [] [],.list [], 
 .bool false,.int .i64 0,.int .i64 0,.int .i64 0,.int .i64 0,.int .i64 0,.int .i64 0,.list [],.int .i64 0,.int .i64 0,.int .i64 0,.int .i64 0,.int .i64 0,.int .i64 0, 
 .int .i64 0,.int .i64 0,.int .i64 0,.int .i64 0,.int .i64 0,.int .i64 0,.bool false,.list [],.int .i64 0] [false,false,false,false,false,false,false,false,false, 
 false,false,false,false,false,false,false,false,false,false,true,false,false,false,false,false,false,false,false,false,false,false,false,false,true, 
 false] [(0,.t 11),(1,.t 13),(3,.t 14),(4,.t 15)]),⟨some 17,.box (.t 16),none⟩,Qa 6 17]) (.seq (.seq (.reg [Qx 7 (Ki 0)]) (.block 0 (.loop (.seq (.seq (.reg [Qc 18 7, 
 Qc 19 0,Q 20 (.len false (.t 19)),Q 21 (.bin .lss (.t 18) (.t 20))]) (.cond (.t 21) .skip (.exit 0))) (.seq (.block 1 (.seq (.alt [([],Qc 24 6)] [Qc 25 0,Qc 26 7,Q 27 (.ia 2 
 (.t 25) (.t 26)),Q 28 (.ld true 2 (.t 27)),⟨some 29,.prim .call [.k (.fn (.func 33) [] []),.t 24,.t 28] [],none⟩]) (.seq (.reg [Qc 30 6,Q 31 (.nck (.t 30)),Q 32 (.fa 34 
 (.t 31)),Q 33 (.ld false 1 (.t 32)),Q 34 (.bin .gtr (.t 33) (Ki 0))]) (.cond (.t 34) (.seq (.dreg [Qc 35 6,Q 36 (.nck (.t 35)),Q 37 (.fa 34 (.t 36)),Q 38 (.ld false 1 (.t 
 37)),Q 4 (.cp (.k (.d (.list [])))),Qc 5 38]) .ret) .skip)))) (.reg [Qc 22 7,Q 23 (.bin .add (.t 22) (Ki 1)),Qa 7 23])))))) (.seq (.reg [Qc 39 6,Q 40 (.nck (.t 39)),Q 41 
 (.fa 33 (.t 40)),Q 42 (.ld false 1 (.t 41)),Qa 4 42,Qx 5 (Ki 0)]) .ret))))
def q2q:List LRes:=[.tmp 4,.tmp 5]
theorem q31:q0t Tryz.prog 12 43 q2k q2q:=⟨_,_,Tryz.func12,rfl,by kernel_rfl,by kernel_rfl,rfl⟩
theorem j0y(fl:Fl)(l:List OpV)(hl:l.length≤1000000)(hf:∀p∈fl,p.2.ok)(ho:∀o∈l,o.ok):
  q0y Tryz.prog 12 [opsD l,q0g fl] (fun r=>r=z60 fl l):=by
 refine q31.call rfl ?_;have hlen:(l.map OpV.d).length=l.length:=Zas ..;simp(disch:=omega)only[go_sem,↓reduceIte,q2k,q2q,opsD,hlen];refine⟨fun h1=>?_,fun h1=>?_⟩
 ·have e:z60 fl l=.tup [.list [],I 2]:=if_pos (by omega);rw[e];rfl
 ·refine q0i.of q2Z ?_;simp only[go_sem,↓reduceIte,m6D,mat,q20,I];refine q0i.of q2Z ?_;simp only[go_sem,↓reduceIte,m6D,mat,q20,I];refine q0i.of q2Z ?_;simp only[go_sem,↓reduceIte,m6D,mat,q20,I,q0g];have e:z60 fl l=z0t (q00.run fl l):=if_neg (by omega);rw[e];have hq0:q00.inv:=⟨⟨fun _=>Zar _,fun f h=>by cases h⟩,Zar _,fun s h=>by cases h⟩;have hr0:q00.ri:=⟨z0I,z0I,z0I,fun s h=>by cases h⟩
  refine q0j (fun y:Nat×PT×Option Nat×AV=>⟨[(0,.d (.list (l.map OpV.d))),(1,.d (q0g fl)),(4,.own (.t 4) 55 10 []),(6,.ptr (.l 17) 0),(7,.d (.int .i64 y.1))],[(17,robL (q0g fl) y.2.1 y.2.2.1 y.2.2.2)],mob (rsO y.2.1.saved y.2.2.1)⟩)
   (fun y=>y.1≤l.length∧y.2.1.inv∧y.2.1.ri∧svOK y.2.1 y.2.2.1∧y.2.1.bad=0∧(y.2.2.2=spZ y.2.1∨y.2.2.2=.ns∧(rfnt y.2.1.s.font).cs=[])∧q00.run fl l=y.2.1.run fl (l.drop y.1)) (fun y=>l.length-y.1) (0,q00,none,spZ q00) ?_ ⟨Zar _,hq0,hr0,rfl,rfl,.inl rfl,rfl⟩ ?_
  ·refine Weak.mk ?_ ?_ ?_
   ·simp only[go_sem,↓reduceIte,Sub,q0g]
   ·exact⟨rfl,trivial⟩
   ·simp only[go_sem,↓reduceIte,Sub,rsO,mob,q00]
  ·intro⟨i,q,c,z⟩ ⟨hi,hq,hri,hc,hb,hz,hr⟩;simp only at hi hq hri hc hb hz hr ⊢;rw[hr];simp(disch:=omega)only[go_sem,↓reduceIte,hlen];refine⟨fun hlt=>?_,fun hge=>?_⟩
   ·obtain⟨o,hx⟩:=get_some (l:=l) (i:=i) (by omega);have hg:getI (l.map OpV.d) (i:Int)=some o.d:=by rw[q0d,Zae,hx];rfl
    have hdr:l.drop i=o::l.drop (i+1):=q07 hx;rw[hdr,z5M];refine q3t.ghost (q3t.step rfl (fun _ _ _ h=>by cases h) rfl ?_);refine⟨_,Gh.wkc (r0:=.l 17) (cs':=robC (q0g fl) q c (spZ q)) rfl rfl (j7l _ q c z hz),?_⟩;have hom:=ho o (Zaa hx);have hq1:=z4X hq hf o;have hr1:=j7Y hri fl hom;simp(disch:=omega)only[go_sem,↓reduceIte,hg,OpV.d];refine q0e.ghost (q0e.loP 17 rfl (rdo fl q c hc hq.n o hq.ok hri hom) (q0k _ _ _) (q4D _ _) rfl (by rw[j3f];rfl) rfl rfl ⟨rfl,rfl⟩ (fun o1 m1 hp=>?_))
    obtain⟨c1,rest,hcr,rfl,rfl⟩:=hp;refine⟨q0k _ _ _,?_⟩;rw[j3f];generalize q.dop fl o=q1 at *;obtain⟨g1,hc1⟩:=rvGh (σ:=(putO ⟨_,_,mob (rsO (q1.saved++rest) c1)⟩ (some 29) ((AV.tuple []).ren [.l 17]))) hcr rfl;refine⟨_,g1,?_⟩;clear g1
    by_cases hb1:q1.bad=0
    ·have hz0:((q1.bad:Int))=0:=by rw[hb1];rfl
     simp only[hb1,↓reduceIte];simp(disch:=omega)only[go_sem,↓reduceIte,robL,robC,I,hz0];refine⟨(i+1,q1,c1,spZ q1),Weak.mk ?_ ?_ ?_,⟨by simp only;omega,hq1,hr1,hc1,hb1,.inl rfl,rfl⟩,by simp only;omega⟩
     ·simp only[go_sem,↓reduceIte,Sub,Int.natCast_add]
     ·simp only[go_sem,↓reduceIte,Sub,hz0]
     ·cases hs:rsO q1.saved c1<;>simp only[go_sem,↓reduceIte,Sub,hs]
    ·have hz0:(0<(q1.bad:Int))=True:=eq_true (by omega);simp only[hb1,↓reduceIte];simp(disch:=omega)only[go_sem,↓reduceIte,robL,robC,I,hz0];rw[z0t,if_neg hb1];rfl
   ·have hie:i=l.length:=by omega
    subst hie;rw[List.drop_length];have e2:PT.run fl q []=q:=rfl;rw[e2,z0t,if_pos hb];cases ho:q.out with
    |nil=>
     simp only[go_sem,↓reduceIte,robL,robC,ho,j7m];rfl
    |cons g r=>
     simp only[go_sem,↓reduceIte,robL,robC,ho,j7m];rfl
def paT:List UInt8:=[66,84,32,47,70,32,49,48,32,84,102,32,51,32,52,32,84,100,32,40,97,98,41,32,84,106,32,69,84]
def paO:List OpV:=[⟨[66,84],[]⟩,⟨[84,102],[namW [70],numW 10000]⟩,⟨[84,100],[numW 3000,numW 4000]⟩,⟨[84,106],[strW [97,98]]⟩,⟨[69,84],[]⟩]
theorem paP:q0y Tryz.prog 24 [.str paT] (fun r=>r=.tup [opsD paO,.nil]):=by
 have h:=z5A paT (by decide) (by unfold Flt paT;decide);rw[show j3c (opqP paT)=.tup [opsD paO,.nil] by kernel_rfl]at h;exact h
theorem j8z:∀o∈paO,o.ok:=fun o ho=>by
 simp[paO]at ho;rcases ho with rfl|rfl|rfl|rfl|rfl
 ·exact⟨by simp,fun v h=>by simp at h⟩
 ·refine⟨by simp,fun v h=>?_⟩;simp at h;rcases h with rfl|rfl
  ·exact⟨by simp[namW,Val.s],fun h=>by simp[namW,Val.kind]at h,by simp[namW,Val.l],fun w h=>by simp[namW,Val.l]at h⟩
  ·exact⟨by simp[numW,Val.s],fun _=>by simp only[numW,Val.n];decide,by simp[numW,Val.l],fun w h=>by simp[numW,Val.l]at h⟩
 ·refine⟨by simp,fun v h=>?_⟩;simp at h;rcases h with rfl|rfl
  ·exact⟨by simp[numW,Val.s],fun _=>by simp only[numW,Val.n];decide,by simp[numW,Val.l],fun w h=>by simp[numW,Val.l]at h⟩
  ·exact⟨by simp[numW,Val.s],fun _=>by simp only[numW,Val.n];decide,by simp[numW,Val.l],fun w h=>by simp[numW,Val.l]at h⟩
 ·refine⟨by simp,fun v h=>?_⟩;simp at h;subst h;exact⟨by simp[strW,Val.s],fun h=>by simp[strW,Val.kind]at h,by simp[strW,Val.l],fun w h=>by simp[strW,Val.l]at h⟩
 ·exact⟨by simp,fun v h=>by simp at h⟩
def j1Z:Res→Bool
 |.tup [.list [_,.agg [.str s,.int .i64 x,.int .i64 y,_,_,_,_,_,_,_]],.nil]=>decide (s=[98])&&decide (x=8000)&&decide (y=4000)
 |_=>false
theorem j0g{r:Res}(h:j1Z r=true):∃g a b c d e f i,r=.tup [.list [g,.agg [.str [98],.int .i64 8000,.int .i64 4000,a,b,c,d,e,f,i]],.nil]:=by
 unfold j1Z at h;split at h
 ·simp only[Zac,decide_eq_true_eq]at h;obtain⟨⟨rfl,rfl⟩,rfl⟩:=h;exact⟨_,_,_,_,_,_,_,_,rfl⟩
 ·cases h
theorem paR:j1Z (j0x z9L paO)=true:=by kernel_rfl
def q11:q0m:=
 .seq (.reg [Qx 0 KF]) (.seq (.alt [([⟨some 6,.prim (.mkMap 25) [] [],none⟩,Q 7 (.bld [(0,1),(1,1),(2,1),(3,1),(4,1)] [.bool false,.map [] [],.int .i64 0,.map [] [], 
 .list []] [false,false,false,false,true] [(2,.k (.d (.int .i64 500)))]),⟨none,.prim (.mapUpd 25) [.t 6,.k (.d (.str [70])),.t 7] [],none⟩],Qc 8 6)] [Qa 1 8]) (.seq 
 (.reg [⟨some 10,.call 24 [.k (.d (.str [66,84,32,47,70,32,49,48,32,84,102,32,51,32,52,32,84,100,32,40,97,98,41,32,84,106,32,69,84]))],none⟩,Qc 9 
 10,Q 11 (.ext 0 (.t 9)),Q 12 (.ext 1 (.t 9)),Qa 2 11,Qa 3 12]) (.seq (.seq (.reg [Qc 13 3,Q 14 (.eqN 0 true (.t 13))]) (.cond (.t 14) (.seq (.reg [Qx 0 KF]) .ret) .skip)) 
 (.seq (.reg [Qc 16 2,Qc 17 1,⟨some 18,.prim .call [.k (.fn (.func 11) [] []),.t 16,.t 17] [],none⟩,Qc 15 18,Q 19 (.ext 0 (.t 15)),Q 20 (.ext 1 (.t 15)),Qa 4 19,Qa 5 
 20]) (.seq (.reg [Qc 21 5,⟨some 22,.call 13 [.t 21,.k (.d (.int .i64 0))],none⟩,Qc 23 22,Qd 24 4 23 true,Qg 25 (.len false (.t 24)) 23 true,Qg 26 (.bin .eql (.t 25) (Ki 
 2)) 23 true,Q 27 (.pick (.t 23) (.t 26) KF),Qc 28 27,Qd 29 4 28 true,Qg 30 (.ia 10 (.t 29) (Ki 1)) 28 true,Qg 31 (.fa 1 (.t 30)) 28 true,Qg 32 (.ld true 2 (.t 31)) 28 true, 
 Qg 33 (.bld [(0,1),(1,1)] [.int .i64 0,.int .i64 0] [] [(0,.k (.d (.int .i64 8000))),(1,.k (.d (.int .i64 4000)))]) 28 true,Qg 34 (.eqS false [0,0] (.t 32) (.t 33)) 28 
 true,Q 35 (.pick (.t 28) (.t 34) KF),Qc 36 35,Qd 37 4 36 true,Qg 38 (.ia 10 (.t 37) (Ki 1)) 36 true,Qg 39 (.fa 0 (.t 38)) 36 true,Qg 40 (.ld false 1 (.t 39)) 36 true,Qg 41 
 (.bin .eql (.t 40) (.k (.d (.str [98])))) 36 true,Q 42 (.pick (.t 36) (.t 41) KF),Qa 0 42]) .ret)))))
def q17:List LRes:=[.tmp 0]
theorem q3P:q0t Tryz.prog 7 43 q11 q17:=⟨_,_,Tryz.func7,rfl,by kernel_rfl,by kernel_rfl,rfl⟩
theorem z8l:q0y Tryz.prog 7 [] (fun r=>r=.one (.bool true)):=by
 refine q3P.call rfl ?_;have hP:=paP;unfold paT at hP;simp only[go_sem,↓reduceIte,q11,q17];refine q0e.mkMap z6N ?_;simp only[go_sem,↓reduceIte];refine q0e.z9l (ks:=[]) (vs:=[]) (key:=.str [70]) (v:=Fnt.d ⟨false,[],500,[],[]⟩) (s:=6) rfl rfl rfl rfl z6N z8G rfl (fun k hk=>by cases hk) rfl ?_;simp only[go_sem,↓reduceIte];refine q3t.ghost (q3t.step rfl (fun _ _ _ h=>by cases h) rfl ?_);refine⟨_,Gh.frzM (a:=6) rfl,?_⟩
 simp only[go_sem,↓reduceIte,amap,AV.frzM];refine q0i.of hP ?_;simp only[go_sem,↓reduceIte];have hpg:=z6Z z9L paO (by decide) j3q j8z;obtain⟨g,a,b,c,d,e,f,i,hg⟩:=j0g paR;rw[hg]at hpg;refine q0e.q4X ([]) ([]) rfl (hpg.z9m (by kernel_rfl)) rfl rfl (by simp only[q3W,St.obj,aget,AObj.ren,AV.ren,AV.ren1,renL,z0x,renR,renQ,Zaz,Zbo,and_true,and_self,Nat.reduceEqDiff,↓reduceIte,reduceCtorEq]) rfl rfl rfl ⟨rfl,rfl⟩ ?_;simp only[go_sem,↓reduceIte];have hs:=z9J 0 0
 rw[show errD 0=.nil from rfl]at hs;refine q0i.of hs ?_;simp only[go_sem,↓reduceIte]
theorem j2S(fl:Fl)(l:List OpV)(h:l.length≤2000):z60 fl l=.tup [.list (q3d (q00.run fl l).res),I (q00.run fl l).bad]:=by
 unfold z60 z0t PT.res;rw[if_neg (by omega)];split
 ·rename_i e;rw[e];rfl
 ·rfl
def q1B:q0m:=
 .seq (.reg [Qx 4 KF]) (.seq (.reg [⟨some 14,.call 7 [],none⟩,Qa 5 14]) (.seq (.reg [Qc 16 1,⟨some 17,.call 8 [.t 16],none⟩,Qc 15 17,Q 18 (.ext 0 (.t 15)),Q 19 (.ext 1 (.t 
 15)),Qa 6 18,Qa 7 19]) (.seq (.seq (.reg [Qc 20 5,Q 21 (.not (.t 20)),Qc 22 21,Qd 23 0 22 false,⟨some 24,.call 9 [.t 23],some (22,false)⟩,Qg 25 (.not (.t 24)) 22 false, 
 Q 26 (.pick (.t 22) KT (.t 25)),Qc 27 26,Qd 28 7 27 false,Qg 29 (.not (.t 28)) 27 false,Q 30 (.pick (.t 27) KT (.t 29))]) (.cond (.t 30) (.seq (.reg [Qc 31 5,Qa 4 31]) .ret) 
 .skip)) (.seq (.seq (.reg [Qx 8 (Ki 0)]) (.block 0 (.loop (.seq (.seq (.reg [Qc 32 8,Qc 33 0,Q 34 (.len false (.t 33)),Q 35 (.bin .lss (.t 32) (.t 34))]) (.cond (.t 35) .skip 
 (.exit 0))) (.seq (.block 1 (.seq (.reg [Qx 9 (Ki 0)]) (.block 2 (.loop (.seq (.seq (.reg [Qc 38 9,Qc 39 0,Qc 40 8,Q 41 (.ia 2 (.t 39) (.t 40)),Q 42 (.fa 1 (.t 41)),Q 43 
 (.ld false 1 (.t 42)),Q 44 (.len false (.t 43)),Q 45 (.bin .lss (.t 38) (.t 44))]) (.cond (.t 45) .skip (.exit 2))) (.seq (.block 3 (.seq (.reg [Qc 48 0,Qc 49 8,Q 50 (.ia 2 
 (.t 48) (.t 49)),Q 51 (.fa 1 (.t 50)),Q 52 (.ld false 1 (.t 51)),Qc 53 9,Q 54 (.ia 5 (.t 52) (.t 53)),Q 55 (.ld true 5 (.t 54)),⟨some 56,.call 10 [.t 55],none⟩,Q 57 
 (.bin .gtr (.t 56) (Ki 0))]) (.cond (.t 57) (.seq (.reg [Qx 4 KT]) .ret) .skip))) (.reg [Qc 46 9,Q 47 (.bin .add (.t 46) (Ki 1)),Qa 9 47]))))))) (.reg [Qc 36 8,Q 37 (.bin .add 
 (.t 36) (Ki 1)),Qa 8 37])))))) (.seq (.reg [Qc 59 0,Qc 60 6,⟨some 61,.prim .call [.k (.fn (.func 11) [] []),.t 59,.t 60] [],none⟩,Qc 58 61,Q 62 (.ext 0 (.t 58)),Q 63 
 (.ext 1 (.t 58)),Qa 10 62,Qa 11 63]) (.seq (.reg [Qc 65 0,Qc 66 6,⟨some 67,.prim .call [.k (.fn (.func 12) [] []),.t 65,.t 66] [],none⟩,Qc 64 67,Q 68 (.ext 0 (.t 64)), 
 Q 69 (.ext 1 (.t 64)),Qa 12 68,Qa 13 69]) (.seq (.reg [Qc 70 11,Qc 71 13,⟨some 72,.call 13 [.t 70,.t 71],none⟩,Qc 73 72,Qd 74 10 73 true,Qd 75 12 73 true,⟨some 76, 
 .call 14 [.t 74,.t 75],some (73,true)⟩,Q 77 (.pick (.t 73) (.t 76) KF),Qa 4 77]) .ret)))))))
def q1F:List LRes:=[.tmp 4]
theorem q3l:q0t Tryz.prog 3 78 q1B q1F:=⟨_,_,Tryz.func3,rfl,by kernel_rfl,by kernel_rfl,rfl⟩
theorem z3X(l:List OpV)(fs:Fl)(hl:j6n l)(hpt:∀o∈l,∀v∈o.args,(ptV v).1≤1000000000)(hfs:fs.length≤1000000000)(hw:∀p∈fs,p.2.wf∧p.1.length≤9223372036854775807∧i64 p.2.miss):
  q0y Tryz.prog 3 [opsD l,.list (fs.map namD)] (fun r=>r=.one (.bool true)):=by
 have hlen:=z22 l;refine q3l.call rfl ?_;simp only[go_sem,↓reduceIte,q1B,q1F];refine q0i.of z8l ?_;simp only[go_sem,↓reduceIte];refine q0i.of (z7P fs hfs hw) ?_;obtain⟨hf5,hfb⟩:=j78 fs fun p hp=>(hw p hp).1
 generalize foR fs=R at *;obtain⟨fl,b⟩:=R;simp only at hf5 hfb;simp only[go_sem,↓reduceIte];refine q0i.post (z5r l hl) (fun r hr=>?_);obtain⟨b2,rfl,hb2⟩:=hr;cases b2 with
 |false=>simp only[go_sem,↓reduceIte]
 |true=>
 cases b with
 |false=>simp only[go_sem,↓reduceIte]
 |true=>
  have l1:=hb2 rfl;obtain⟨rfl,hl5,hok⟩:=hfb rfl;have hfk:∀p∈q4x fs,p.2.ok:=fun p hp=>by
   obtain⟨s,hs⟩:=j0d hp;exact(hok _ hs).2.1
  have hl1:=l1.1;simp only[go_sem,↓reduceIte,opsD];refine q0j (fun i:Nat=>⟨[(0,.d (.list (l.map OpV.d))),(6,.d (q0g (q4x fs))),(8,.d (.int .i64 i))],[],[]⟩)
   (fun i=>i≤l.length∧∀j o,j<i→l[j]?=some o→∀v∈o.args,q5K v=0) (fun i=>l.length-i) 0 ?_ ?_ ?_
  ·refine q0h ?_ trivial;simp only[go_sem,↓reduceIte,Sub,Int.natCast_add,Int.natCast_mul,opsD]
  ·exact⟨by simp,fun j o hj=>by simp at hj⟩
  ·rintro i ⟨g1,g2⟩;simp only[go_sem,↓reduceIte,hlen];refine⟨fun q1=>?_,fun q1=>?_⟩
   ·obtain⟨o,ho⟩:=get_some (l:=l) (i:=i) (by omega);have hd:=z9r ho;obtain⟨hi1,hi2,hi3⟩:=hl.2 o (Zaa ho);have hal:=z7n o.args;refine q0j (fun k:Nat=>⟨[(0,.d (.list (l.map OpV.d))),(6,.d (q0g (q4x fs))),(8,.d (.int .i64 i)),(9,.d (.int .i64 k))],[],[]⟩)
     (fun k=>k≤o.args.length∧∀j v,j<k→o.args[j]?=some v→q5K v=0) (fun k=>o.args.length-k) 0 ?_ ?_ ?_
    ·refine q0h ?_ trivial;simp only[go_sem,↓reduceIte,Sub,Int.natCast_add,Int.natCast_mul]
    ·exact⟨by simp,fun j o hj=>by simp at hj⟩
    ·rintro k ⟨k1,k2⟩;simp(disch:=omega)only[go_sem,↓reduceIte,q0d,hd,hal];refine⟨fun q2=>?_,fun q2=>?_⟩
     ·obtain⟨v,hv⟩:=get_some (l:=o.args) (i:=k) (by omega);have hvd:=z4M hv;have hvm:=Zaa hv;have hck:=z7N v (hi3 v hvm).1 (hpt o (Zaa ho) v hvm);rw[Val.d_eq v]at hck;simp(disch:=omega)only[go_sem,↓reduceIte,q0d,hvd];refine q0i.of hck ?_
      by_cases f0:q5K v=0
      ·rw[f0];simp(disch:=omega)only[go_sem,↓reduceIte];refine⟨k+1,?_,⟨by omega,fun j u hj hu=>?_⟩,by omega⟩
       ·refine q0h ?_ trivial;simp only[go_sem,↓reduceIte,Sub,Int.natCast_add,Int.natCast_mul]
       ·by_cases e:j=k
        ·subst e;rw[hv]at hu;cases hu;exact f0
        ·exact k2 j u (by omega) hu
      ·have f1:((q5K v:Nat):Int)>0:=by omega
       simp only[go_sem,↓reduceIte,f1]
     ·refine⟨i+1,?_,⟨by omega,fun j u hj hu=>?_⟩,by omega⟩
      ·refine q0h ?_ trivial;simp only[go_sem,↓reduceIte,Sub,Int.natCast_add,Int.natCast_mul]
      ·by_cases e:j=i
       ·subst e;rw[ho]at hu;cases hu;intro v hv;obtain⟨j,hj⟩:=Zap hv;have:=(Zab.1 hj).1;exact k2 j v (by omega) hj
       ·exact g2 j u (by omega) hu
   ·have hmay:j5J l:=fun o ho=>by
     obtain⟨j,hj⟩:=Zap ho;have:=(Zab.1 hj).1;exact g2 j o (by omega) hj
    have hlo:=j8p l1 hmay;have pA:=z6Z (q4x fs) l (by omega) hfk hlo;have pB:=j0y (q4x fs) l (by omega) hfk hlo;rw[j4U (q4x fs) l (by omega)]at pA;rw[j2S (q4x fs) l (by omega)]at pB;have iA:=j3m hfk l j7i;generalize q00.run (q4x fs) l=q at *;have hsm:=z9J q.bad q.bad;rw[decide_eq_true rfl]at hsm;have hrl:q.res.length≤1000000:=by
     unfold PT.res;split
     ·rename_i e;have:=iA.ok.out e;omega
     ·simp
    rw[opsD]at pA pB;refine q0e.q4X ([]) ([]) rfl (pA.z9m (by kernel_rfl)) rfl rfl (by simp only[q3W,St.obj,aget,AObj.ren,AV.ren,AV.ren1,renL,z0x,renR,renQ,Zaz,Zbo,and_true,and_self,Nat.reduceEqDiff,↓reduceIte,reduceCtorEq]) rfl rfl rfl ⟨rfl,rfl⟩ ?_;simp only[go_sem,↓reduceIte]
    refine q0e.q4X ([]) ([]) rfl (pB.z9m (by kernel_rfl)) rfl rfl (by simp only[q3W,St.obj,aget,AObj.ren,AV.ren,AV.ren1,renL,z0x,renR,renQ,Zaz,Zbo,and_true,and_self,Nat.reduceEqDiff,↓reduceIte,reduceCtorEq]) rfl rfl rfl ⟨rfl,rfl⟩ ?_;simp only[go_sem,↓reduceIte,I];refine q0i.of hsm ?_;simp only[go_sem,↓reduceIte];refine q0i.of (z3k q.res hrl) ?_;simp only[go_sem,↓reduceIte]
/-! ### A glyph -/
/-! ### What is painted is of no great numbers -/
/-! ### The page that is moved along -/
theorem j7Q:Tryz.prog.cellsOf 3=1:=by kernel_rfl
theorem z8V:Tryz.prog.cellsOf 9=1:=by kernel_rfl
theorem j5P:Tryz.prog.cellsOf 29=1:=by kernel_rfl
theorem j7R:Tryz.prog.cellsOf 33=1:=by kernel_rfl
theorem j5Q:Tryz.prog.cellsOf 35=5:=by kernel_rfl
theorem j7U:Tryz.prog.cellsOf 105=6:=by kernel_rfl
theorem j2p(v:Val):mkD v.d.cells=v.d:=by rw[Val.d_eq];rfl
theorem j6W(x:Fld):mkD x.d.cells=x.d:=by rw[Fld.d_eq];rfl
set_option maxRecDepth 100000 in
theorem j9l:∀k:Nat,(∀ds,OfT Tryz.prog k 35 ds→∃v:Val,ds=v.d.cells)∧(∀ds,OfT Tryz.prog k 105 ds→∃x:Fld,ds=x.d.cells):=by
 intro k;induction k using Nat.strongRecOn with
 |_ k ih=>
  cases k with
  |zero=>exact⟨fun _ h=>h.elim,fun _ h=>h.elim⟩
  |succ k=>
   refine⟨fun ds h=>?_,fun ds h=>?_⟩
   ·unfold OfT at h;rw[Tryz.underlying35]at h;obtain⟨h1,h2⟩:=h;rw[j5Q]at h1;match ds,h1 with
    |[a,b,c,d,e],_=>
     have f0:OfT Tryz.prog k 3 (([a,b,c,d,e].drop 0).take (Tryz.prog.cellsOf 3)):=h2 0 _ rfl;have f1:OfT Tryz.prog k 3 (([a,b,c,d,e].drop 1).take (Tryz.prog.cellsOf 3)):=h2 1 _ rfl;have f2:OfT Tryz.prog k 9 (([a,b,c,d,e].drop 2).take (Tryz.prog.cellsOf 9)):=h2 2 _ rfl;have f3:OfT Tryz.prog k 29 (([a,b,c,d,e].drop 3).take (Tryz.prog.cellsOf 29)):=h2 3 _ rfl;have f4:OfT Tryz.prog k 33 (([a,b,c,d,e].drop 4).take (Tryz.prog.cellsOf 33)):=h2 4 _ rfl
     simp only[j7Q,z8V,j5P,j7R,Zdf,Zcx,Zbz,Zce]at f0 f1 f2 f3 f4;obtain⟨n0,e0,_⟩:=f0.int Tryz.underlying3;obtain⟨n1,e1,_⟩:=f1.int Tryz.underlying3;obtain⟨s,e2,_⟩:=f2.string Tryz.underlying9;obtain⟨l,m,hm,e3,_,hl⟩:=f3.slice Tryz.underlying29;obtain⟨f,m',hm',e4,_,hf⟩:=f4.slice Tryz.underlying33;obtain⟨ls,rfl⟩:=q6j (g:=Val.d) (l:=l) fun x hx=>by
      obtain⟨cs,q1,q2⟩:=hl x hx;obtain⟨v,rfl⟩:=(ih m (by omega)).1 cs q2;exact⟨v,by rw[q1,j2p]⟩
     obtain⟨fs,rfl⟩:=q6j (g:=Fld.d) (l:=f) fun x hx=>by
      obtain⟨cs,q1,q2⟩:=hf x hx;obtain⟨y,rfl⟩:=(ih m' (by omega)).2 cs q2;exact⟨y,by rw[q1,j6W]⟩
     simp only[Zcv,and_true]at e0 e1 e2 e3 e4;refine⟨.mk n0 n1 s ls fs,?_⟩;rw[mk_d,e0,e1,e2,e3,e4,q6i,z48];rfl
   ·unfold OfT at h;rw[Tryz.underlying105]at h;obtain⟨h1,h2⟩:=h;rw[j7U]at h1;match ds,h1 with
    |[a,b,c,d,e,f],_=>
     have f0:OfT Tryz.prog k 9 (([a,b,c,d,e,f].drop 0).take (Tryz.prog.cellsOf 9)):=h2 0 _ rfl;have f1:OfT Tryz.prog k 35 (([a,b,c,d,e,f].drop 1).take (Tryz.prog.cellsOf 35)):=h2 1 _ rfl;simp only[z8V,j5Q,Zdf,Zcx,Zbz,Zce]at f0 f1;obtain⟨s,e0,_⟩:=f0.string Tryz.underlying9;obtain⟨v,e1⟩:=(ih k (by omega)).1 _ f1;simp only[Zcv,and_true]at e0;refine⟨.mk s v,?_⟩;rw[e0,e1];rfl
mutual
theorem bkV:∀(v:Val) (N:Nat),bkD v.d≤N→v.sm N=true∧(ptV v).1≤bkD v.d
 |.mk k n s l f,N,h=>by
  rw[mk_d]at h ⊢;simp only[bkD,bkL]at h ⊢;obtain⟨a1,a2,a3⟩:=bkVL l N (by omega);obtain⟨b1,b2,b3⟩:=bkVF f N (by omega);simp only[Val.sm,ptV,Zac,decide_eq_true_eq];exact⟨⟨by omega,by omega,by omega,a1,b1⟩,by omega⟩
theorem bkVL:∀(l:List Val) (N:Nat),bkL (q0M l)≤N→smL N l=true∧l.length≤bkL (q0M l)∧(ptL l).1≤bkL (q0M l)
 |[],N,h=>by simp[smL,ptL,q0M,bkL]
 |v::r,N,h=>by
  simp only[q0M,bkL]at h ⊢;obtain⟨a1,a2⟩:=bkV v N (by omega);obtain⟨b1,b2,b3⟩:=bkVL r N (by omega);have:=(q8I v).1;simp only[smL,ptL,Zac,Zad];exact⟨⟨a1,b1⟩,by omega,by omega⟩
theorem bkVF:∀(l:List Fld) (N:Nat),bkL (q3H l)≤N→smF N l=true∧l.length≤bkL (q3H l)∧(ptF l).1≤bkL (q3H l)
 |[],N,h=>by simp[smF,ptF,q3H,bkL]
 |.mk nm v::r,N,h=>by
  have hd:bkD (Fld.mk nm v).d=nm.length+1+bkD v.d:=by
   rw[j77,Val.d_eq v];simp only[bkD,bkL]
  simp only[q3H,bkL,hd]at h ⊢;obtain⟨a1,a2⟩:=bkV v N (by omega);obtain⟨b1,b2,b3⟩:=bkVF r N (by omega);have:=(q8I v).1;simp only[smF,Fld.sm,ptF,Zac,Zad,decide_eq_true_eq];exact⟨⟨⟨by omega,a1⟩,b1⟩,by omega,by omega⟩
end
theorem j2K{P:Program}{k:Nat}{t kt e:TypeId}{ds:List D}(hu:P.underlying t=some (.map kt e))(h:OfT P k t ds):∃ks vs m,k=m+1∧ds=[.map ks vs]∧ks.length=vs.length∧
  (∀x∈ks,(∃i n,P.underlying kt=some (.int i)∧x=.int i n)∨(∃s,P.underlying kt=some .string∧x=.str s))∧∀x∈vs,∃cs,x=mkD cs∧OfT P m e cs:=by
 cases k with
 |zero=>exact h.elim
 |succ k=>unfold OfT at h;rw[hu]at h;obtain⟨ks,vs,h1,h2,_,h3,h4⟩:=h;exact⟨ks,vs,k,rfl,h1,h2,h3,h4⟩
theorem zip_map{α:Type}{g:α→D}:∀(ks vs:List D),ks.length=vs.length→(∀x∈ks,∃n:Int,x=.int .i64 n)→(∀x∈vs,∃y:α,x=g y)→∃l:List (Int×α),ks=q2A l∧vs=l.map fun p=>g p.2
 |[],[],_,_,_=>⟨[],rfl,rfl⟩
 |[],_::_,h,_,_=>by simp at h
 |_::_,[],h,_,_=>by simp at h
 |k::ks,v::vs,h,h1,h2=>by
  obtain⟨l,e1,e2⟩:=zip_map ks vs (by simpa using h) (fun x hx=>h1 x (by simp[hx])) (fun x hx=>h2 x (by simp[hx]));obtain⟨n,rfl⟩:=h1 k (by simp);obtain⟨y,rfl⟩:=h2 v (by simp);exact⟨(n,y)::l,by rw[e1];rfl,by rw[e2];rfl⟩
theorem j9g:Tryz.prog.cellsOf 3=1:=by kernel_rfl
theorem j9e:Tryz.prog.cellsOf 4=1:=by kernel_rfl
theorem j9V:Tryz.prog.cellsOf 9=1:=by kernel_rfl
theorem j9T:Tryz.prog.cellsOf 58=1:=by kernel_rfl
theorem j9U:Tryz.prog.cellsOf 59=1:=by kernel_rfl
theorem j7H:Tryz.prog.cellsOf 60=1:=by kernel_rfl
theorem j9h:Tryz.prog.cellsOf 127=3:=by kernel_rfl
theorem j9f:Tryz.prog.cellsOf 62=5:=by kernel_rfl
theorem wf64{n:Int}(h:(Lit.int .i64 n).wf=true): -9223372036854775808≤n∧n≤9223372036854775807:=by
 have:=wf_i64 h;omega
def Span.in64(s:Span):Prop := -9223372036854775808≤s.fr∧s.fr≤9223372036854775807 ∧ -9223372036854775808≤s.to∧s.to≤9223372036854775807
theorem j7v{k:Nat}{ds:List D}(h:OfT Tryz.prog k 127 ds):∃s:Span,mkD ds=s.d∧s.in64:=by
 cases k with
 |zero=>exact h.elim
 |succ k=>
  unfold OfT at h;rw[Tryz.underlying127]at h;obtain⟨h1,h2⟩:=h;rw[j9h]at h1;match ds,h1 with
  |[a,b,c],_=>
   have f0:OfT Tryz.prog k 3 (([a,b,c].drop 0).take (Tryz.prog.cellsOf 3)):=h2 0 _ rfl;have f1:OfT Tryz.prog k 3 (([a,b,c].drop 1).take (Tryz.prog.cellsOf 3)):=h2 1 _ rfl;have f2:OfT Tryz.prog k 9 (([a,b,c].drop 2).take (Tryz.prog.cellsOf 9)):=h2 2 _ rfl;simp only[j9g,j9V,Zdf,Zcx,Zbz,Zce]at f0 f1 f2;obtain⟨n0,e0,w0⟩:=f0.int Tryz.underlying3;obtain⟨n1,e1,w1⟩:=f1.int Tryz.underlying3;obtain⟨s,e2,_⟩:=f2.string Tryz.underlying9;simp only[Zcv,and_true]at e0 e1 e2
   obtain⟨a1,a2⟩:=wf64 w0;obtain⟨b1,b2⟩:=wf64 w1;exact⟨⟨n0,n1,s⟩,by rw[e0,e1,e2];rfl,a1,a2,b1,b2⟩
theorem j5s{k:Nat}{ds:List D}(h:OfT Tryz.prog k 60 ds):∃l:List Span,ds=[.list (q1s l)]∧l.length≤maxLen∧∀s∈l,s.in64:=by
 obtain⟨l,m,_,h1,h2,h3⟩:=h.slice Tryz.underlying60;obtain⟨ys,rfl⟩:=q6j (g:=fun y:{ s:Span // s.in64 }=>y.1.d) (l:=l) fun x hx=>by
  obtain⟨cs,h4,h5⟩:=h3 x hx;obtain⟨s,h6,h7⟩:=j7v h5;exact⟨⟨s,h7⟩,by rw[h4,h6]⟩
 refine⟨ys.map (·.1),by rw[h1];simp[q1s,Function.comp_def],by simpa using h2,fun s hs=>?_⟩;obtain⟨y,_,rfl⟩:=Zak.1 hs;exact y.2
theorem j6M{k:Nat}{ds:List D}(h:OfT Tryz.prog k 62 ds):∃x:Fnt,D.agg ds=x.d∧x.wf ∧ -9223372036854775808≤x.miss∧x.miss≤9223372036854775807:=by
 cases k with
 |zero=>exact h.elim
 |succ k=>
  unfold OfT at h;rw[Tryz.underlying62]at h;obtain⟨h1,h2⟩:=h;rw[j9f]at h1;match ds,h1 with
  |[a,b,c,d,e],_=>
   have f0:OfT Tryz.prog k 4 (([a,b,c,d,e].drop 0).take (Tryz.prog.cellsOf 4)):=h2 0 _ rfl;have f1:OfT Tryz.prog k 58 (([a,b,c,d,e].drop 1).take (Tryz.prog.cellsOf 58)):=h2 1 _ rfl;have f2:OfT Tryz.prog k 3 (([a,b,c,d,e].drop 2).take (Tryz.prog.cellsOf 3)):=h2 2 _ rfl;have f3:OfT Tryz.prog k 59 (([a,b,c,d,e].drop 3).take (Tryz.prog.cellsOf 59)):=h2 3 _ rfl;have f4:OfT Tryz.prog k 60 (([a,b,c,d,e].drop 4).take (Tryz.prog.cellsOf 60)):=h2 4 _ rfl
   simp only[j9g,j9e,j9T,j9U,j7H,Zdf,Zcx,Zbz,Zce]at f0 f1 f2 f3 f4;obtain⟨wd,e0⟩:=f0.bool Tryz.underlying4;obtain⟨kw,vw,m1,_,e1,l1,k1,v1⟩:=j2K Tryz.underlying58 f1;obtain⟨ms,e2,wm⟩:=f2.int Tryz.underlying3;obtain⟨kn,vn,m3,_,e3,l3,k3,v3⟩:=j2K Tryz.underlying59 f3;obtain⟨cs,e4,l4,w4⟩:=j5s f4
   have keys:∀ks:List D,(∀x∈ks,(∃i n,Tryz.prog.underlying 3=some (.int i)∧x=.int i n)∨(∃s,Tryz.prog.underlying 3=some .string∧x=.str s))→∀x∈ks,∃n:Int,x=.int .i64 n:=fun ks h x hx=>by
    rcases h x hx with⟨i,n,q1,q2⟩|⟨s,q1,_⟩
    ·rw[Tryz.underlying3]at q1;cases q1;exact⟨n,q2⟩
    ·rw[Tryz.underlying3]at q1;cases q1
   obtain⟨ws,rfl,rfl⟩:=zip_map (g:=D.int .i64) kw vw l1 (keys kw k1) fun x hx=>by
    obtain⟨cs,q1,q2⟩:=v1 x hx;obtain⟨n,q3,_⟩:=q2.int Tryz.underlying3;exact⟨n,by rw[q1,q3];rfl⟩
   obtain⟨ns,rfl,rfl⟩:=zip_map (g:=D.str) kn vn l3 (keys kn k3) fun x hx=>by
    obtain⟨cs,q1,q2⟩:=v3 x hx;obtain⟨n,q3,_⟩:=q2.string Tryz.underlying9;exact⟨n,by rw[q1,q3];rfl⟩
   simp only[Zcv,and_true]at e0 e1 e2 e3 e4;refine⟨⟨wd,ws,ms,ns,cs⟩,by rw[e0,e1,e2,e3,e4];rfl,⟨fun s hs=>w4 s hs,by unfold maxLen at l4;omega⟩,wf64 wm⟩
theorem j7T:Tryz.prog.cellsOf 31=2:=by kernel_rfl
theorem j8q(o:OpV):mkD [.str o.nm,.list (q0M o.args)]=o.d:=rfl
set_option maxRecDepth 100000 in
theorem j9A{k:Nat}{ds:List D}(h:OfT Tryz.prog k 31 ds):∃o:OpV,ds=[.str o.nm,.list (q0M o.args)]:=by
 cases k with
 |zero=>exact h.elim
 |succ k=>
  unfold OfT at h;rw[Tryz.underlying31]at h;obtain⟨h1,h2⟩:=h;rw[j7T]at h1;match ds,h1 with
  |[a,b],_=>
   have f0:OfT Tryz.prog k 9 (([a,b].drop 0).take (Tryz.prog.cellsOf 9)):=h2 0 _ rfl;have f1:OfT Tryz.prog k 29 (([a,b].drop 1).take (Tryz.prog.cellsOf 29)):=h2 1 _ rfl;simp only[z8V,j5P,Zdf,Zcx,Zbz,Zce]at f0 f1;obtain⟨s,e0,_⟩:=f0.string Tryz.underlying9;obtain⟨l,m,hm,e1,_,hl⟩:=f1.slice Tryz.underlying29;obtain⟨ls,rfl⟩:=q6j (g:=Val.d) (l:=l) fun x hx=>by
    obtain⟨cs,q1,q2⟩:=hl x hx;obtain⟨v,rfl⟩:=(j9l m).1 cs q2;exact⟨v,by rw[q1,j2p]⟩
   simp only[Zcv,and_true]at e0 e1;exact⟨⟨s,ls⟩,by rw[e0,e1,q6i]⟩
theorem j8x{k:Nat}{ds:List D}(h:OfT Tryz.prog k 22 ds):∃l:List OpV,ds=[opsD l]:=by
 obtain⟨l,m,hm,e1,_,hl⟩:=h.slice Tryz.underlying22;obtain⟨ls,rfl⟩:=q6j (g:=OpV.d) (l:=l) fun x hx=>by
  obtain⟨cs,q1,q2⟩:=hl x hx;obtain⟨o,rfl⟩:=j9A q2;exact⟨o,by rw[q1,j8q]⟩
 exact⟨ls,e1⟩
mutual
theorem j6r:∀v:Val,awV v≤bkD v.d
 |.mk k n s l f=>by
  have h1:=j5M l;have h2:=j5L f;rw[mk_d];simp only[awV,bkD,bkL];omega
theorem j5M:∀l:List Val,awL l≤bkL (q0M l)
 |[]=>by simp[awL]
 |v::r=>by
  have h1:=j6r v;have h2:=j5M r;simp only[awL,q0M,bkL];omega
theorem j5L:∀l:List Fld,awF l≤bkL (q3H l)
 |[]=>by simp[awF]
 |.mk nm v::r=>by
  have h1:=j6r v;have h2:=j5L r;simp only[awF,q3H,bkL];have:nm.length+bkD v.d≤bkD (Fld.mk nm v).d:=by
   rw[Fld.d_eq,Val.d_eq v];simp only[Fld.name,Fld.v,bkD,bkL,D.cells];omega
  omega
end
theorem z8T{x:D}:∀{l:List D},x∈l→bkD x≤bkL l
 |y::r,h=>by
  simp only[bkL];rcases Zau.1 h with rfl|h
  ·omega
  ·have:=z8T h;omega
theorem j6u(o:OpV):bkD o.d=o.nm.length+1+(bkL (q0M o.args)+1):=by simp only[OpV.d,bkD,bkL];try omega
theorem j1j:∀l:List OpV,l.length≤bkL (l.map OpV.d)
 |[]=>by simp
 |o::r=>by
  have:=j1j r;have e:bkL ((o::r).map OpV.d)=bkD o.d+bkL (r.map OpV.d):=by simp only[Zai,bkL]
  rw[e,j6u];simp only[Zad];omega
theorem j1k:∀l:List Val,l.length≤bkL (q0M l)
 |[]=>by simp
 |v::r=>by
  have:=j1k r;have h:=(bkV v _ (Zal _)).2;have:=(q8I v).1;simp only[q0M,bkL,Zad];omega
theorem j4P{l:List OpV}(h:bkD (opsD l)≤1048576):j6n l∧∀o∈l,∀v∈o.args,(ptV v).1≤1048576:=by
 simp only[opsD,bkD]at h;have hlen:=j1j l;have ho:∀o∈l,bkD o.d≤bkL (l.map OpV.d):=fun o ho=>z8T (Zbs ho)
 have hv:∀o∈l,∀v∈o.args,bkD v.d≤1048576:=fun o h1 v h2=>by
  have:=ho o h1;rw[j6u]at this;have h3:bkD v.d≤bkL (q0M o.args):=z8T (by rw[q6i];exact Zbs h2);omega
 refine⟨⟨by omega,fun o h1=>?_⟩,fun o h1 v h2=>?_⟩
 ·have:=ho o h1;rw[j6u]at this;have h4:=j1k o.args;exact⟨by omega,by omega,fun v h2=>⟨(bkV v 1048576 (hv o h1 v h2)).1,by have:=j6r v;have:=hv o h1 v h2;omega⟩⟩
 ·have:=(bkV v 1048576 (hv o h1 v h2)).2;have:=hv o h1 v h2;omega
theorem j7S:Tryz.prog.cellsOf 64=6:=by kernel_rfl
theorem j6w:Tryz.prog.cellsOf 62=5:=by kernel_rfl
set_option maxRecDepth 100000 in
theorem j8u{k:Nat}{ds:List D}(h:OfT Tryz.prog k 64 ds):∃p:List UInt8×Fnt,mkD ds=namD p∧p.2.wf∧i64 p.2.miss:=by
 cases k with
 |zero=>exact h.elim
 |succ k=>
  unfold OfT at h;rw[Tryz.underlying64]at h;obtain⟨h1,h2⟩:=h;rw[j7S]at h1;match ds,h1 with
  |[a,b,c,d,e,f],_=>
   have f0:OfT Tryz.prog k 9 (([a,b,c,d,e,f].drop 0).take (Tryz.prog.cellsOf 9)):=h2 0 _ rfl;have f1:OfT Tryz.prog k 62 (([a,b,c,d,e,f].drop 1).take (Tryz.prog.cellsOf 62)):=h2 1 _ rfl;simp only[z8V,j6w,Zdf,Zcx,Zbz,Zce]at f0 f1;obtain⟨s,e0,_⟩:=f0.string Tryz.underlying9;obtain⟨x,e1,hw,hm⟩:=j6M f1;simp only[Zcv,and_true]at e0;have e2:x.d=.agg [.bool x.wide,.map (q2A x.ws) (q7Z x.ws),.int .i64 x.miss,.map (q2A x.ns) (q7U x.ns),.list (q1s x.cs)]:=rfl
   rw[e2,D.agg.injEq]at e1;refine⟨(s,x),?_,hw,hm⟩;rw[e0,e1];rfl
theorem j1i:∀l:Fl,l.length≤bkL (l.map namD)
 |[]=>by simp
 |p::r=>by
  have:=j1i r;simp only[Zai,bkL,namD,bkD,Zad];omega
theorem j7P{l:Fl}{N:Nat}(h:bkL (l.map namD)≤N):∀p∈l,p.1.length≤N:=fun p hp=>by
 have h1:bkD (namD p)≤bkL (l.map namD):=z8T (Zbs hp);simp only[namD,bkD,bkL]at h1;omega
theorem j6X{k:Nat}{ds:List D}(h:OfT Tryz.prog k 23 ds):∃l:Fl,ds=[.list (l.map namD)]∧∀p∈l,p.2.wf∧i64 p.2.miss:=by
 obtain⟨l,m,hm,e1,_,hl⟩:=h.slice Tryz.underlying23;obtain⟨ys,rfl⟩:=q6j (g:=fun y:{ p:List UInt8×Fnt // p.2.wf∧i64 p.2.miss }=>namD y.1) (l:=l) fun x hx=>by
  obtain⟨cs,q1,q2⟩:=hl x hx;obtain⟨p,q3,q4⟩:=j8u q2;exact⟨⟨p,q4⟩,by rw[q1,q3]⟩
 refine⟨ys.map (·.1),by rw[e1];simp[Function.comp_def],fun p hp=>?_⟩;obtain⟨y,_,rfl⟩:=Zak.1 hp;exact y.2
theorem j2w{l:Fl}(h:bkD (.list (l.map namD))≤1048576)(hw:∀p∈l,p.2.wf∧i64 p.2.miss):l.length≤1000000000∧∀p∈l,p.2.wf∧p.1.length≤9223372036854775807∧i64 p.2.miss:=by
 simp only[bkD]at h;have h1:=j1i l;have h2:=j7P (l:=l) (N:=1048576) (by omega);exact⟨by omega,fun p hp=>⟨(hw p hp).1,by have:=h2 p hp;omega,(hw p hp).2⟩⟩
end Go.Av.Tryz
