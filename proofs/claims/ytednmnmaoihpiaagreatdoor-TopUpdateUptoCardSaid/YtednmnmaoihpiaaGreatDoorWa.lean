import Derived.Test.YtednmnmaoihpiaaGreatDoorAvG
import Derived.Test.YtednmnmaoihpiaaGreatDoorAvH
import Derived.Test.YtednmnmaoihpiaaGreatDoorProg
import Derived.Lib.LaidTab
import Derived.Lib.ItoaNum
import Derived.Shelf.Unicode.DecodeSlow
import Derived.Test.YtednmnmaoihpiaaGreatDoorAvF
import Derived.Lib.Bytealg
import Derived.Shelf.Strings.Builder1
import Derived.Lib.UnsafeStr
import Derived.IntWalk
set_option linter.unusedSimpArgs false
set_option maxHeartbeats 2000000
set_option maxRecDepth 100000
namespace Go.Av.Tryz
open Go.Proofs
theorem j7g{P:Program}{name:String}{k:IntKind}{zs:List Int}{w:World}(h:Lib.TabIs P w name k zs)(b:Nat)(hb:P.globalNamed name=some b):b<w.heap.size:=by
 unfold Lib.TabIs World.var? at h;simp only[hb,Option.bind_some]at h;cases hc:w.heap[b]? with
 |none=>simp[hc]at h
 |some o=>exact(Zan.1 hc).1
theorem j4z{P:Program}{name:String}{k:IntKind}{zs:List Int}{w w':World}(hk:∀b,P.globalNamed name=some b→w'.heap[b]?=w.heap[b]?)(h:Lib.TabIs P w name k zs):Lib.TabIs P w' name k zs:=by
 unfold Lib.TabIs World.var? at h ⊢;cases hg:P.globalNamed name with
 |none=>simp[hg]at h
 |some g=>
  simp only[hg,Option.bind_some]at h ⊢;rw[hk g hg];exact h
def j7u(P:Program)(name:String)(w:World):Prop:=∀b,P.globalNamed name=some b→∃m:Int,w.cell? ⟨b,0,none⟩=some (.int .i64 m)
theorem j0M{w w':World}{b:Nat}(h:w'.heap[b]?=w.heap[b]?):w'.cell? ⟨b,0,none⟩=w.cell? ⟨b,0,none⟩:=by
 simp only[World.cell?,h]
theorem j5o{w:World}{b:Nat}{v:Value}(h:w.cell? ⟨b,0,none⟩=some v):b<w.heap.size:=by
 rcases Zbq b w.heap.size with h'|h'
 ·exact h'
 ·simp[World.cell?,Zcu h']at h
def j7E(P:Program)(name:String)(k:IntKind)(zs:List Int)(w:World):Prop:=∀b,P.globalNamed name=some b→Lib.TabIs P w name k zs
def u8At(P : Program)(w : World): Prop := ∀ g3 g4, P.globalNamed "unicode/utf8.first" = some g3 → P.globalNamed "unicode/utf8.acceptRanges" = some g4 → Lib.Utf8Tabs g3 g4 w
theorem j4H{g3 g4:Nat}{w w':World}(h3:w'.heap[g3]?=w.heap[g3]?)(h4:w'.heap[g4]?=w.heap[g4]?)(h:Lib.Utf8Tabs g3 g4 w):Lib.Utf8Tabs g3 g4 w':=by
 obtain⟨a,b⟩:=h;refine⟨fun c hc=>?_,fun i hi=>?_⟩
 ·have:=a c hc;simpa only[World.cell?,h3]using this
 ·have:=b i hi;simpa only[World.cell?,h4]using this
def j6g(P : Program)(b : Nat): Prop := P.globalNamed "unicode/utf8.first" = some b ∨ P.globalNamed "unicode/utf8.acceptRanges" = some b
theorem j7j{P : Program}{g3 g4 : Nat}{w : World}(h3 : P.globalNamed "unicode/utf8.first" = some g3)(h4 : P.globalNamed "unicode/utf8.acceptRanges" = some g4)(h : Lib.Utf8Tabs g3 g4 w): u8At P w ∧ ∀ b, j6g P b → b < w.heap.size := by
 have lt:∀(b o:Nat) (v:Value),w.cell? ⟨b,o,none⟩=some v→b<w.heap.size:=fun b o v hc=>by
  rcases Zbq b w.heap.size with h'|h'
  ·exact h'
  ·simp[World.cell?,Zcu h']at hc
 refine⟨fun a b ha hb=>?_,fun b hb=>?_⟩
 ·obtain rfl:=Option.some.inj (h3.symm.trans ha);obtain rfl:=Option.some.inj (h4.symm.trans hb);exact h
 ·obtain⟨q1,q2⟩:=h;rcases hb with hb|hb
  ·obtain rfl:=Option.some.inj (h3.symm.trans hb);exact lt _ _ _ (q1 0 (by decide))
  ·obtain rfl:=Option.some.inj (h4.symm.trans hb);exact lt _ _ _ (q2 0 (by decide)).1
instance : Inv Tryz.prog := ⟨fun _ w => j7E Tryz.prog "internal/strconv.uint64pow10" .u64 Lib.pow10Tab w ∧ j7u Tryz.prog "internal/bytealg.MaxLen" w ∧ (u8At Tryz.prog w ∧ ∀ b, j6g Tryz.prog b → b < w.heap.size),
 fun b => Tryz.prog.globalNamed "internal/strconv.uint64pow10" = some b ∨ Tryz.prog.globalNamed "internal/bytealg.MaxLen" = some b ∨ j6g Tryz.prog b,
 fun h b hb=>hb.elim (fun hb=>j7g (h.1 b hb) b hb) fun hb=>hb.elim (fun hb=>by obtain⟨m,hm⟩:=h.2.1 b hb;exact j5o hm) (h.2.2.2 b),
 fun{f w f' w'} hk h=>⟨fun b hb=>j4z (fun b hb=>(hk b (.inl hb)).1) (h.1 b hb),fun b hb=>by obtain⟨m,hm⟩:=h.2.1 b hb;exact⟨m,(j0M (hk b (.inr (.inl hb))).1).trans hm⟩,
  fun g3 g4 h3 h4=>j4H (hk g3 (.inr (.inr (.inl h3)))).1 (hk g4 (.inr (.inr (.inr h4)))).1 (h.2.2.1 g3 g4 h3 h4),fun b hb=>by
   have h1:=h.2.2.2 b hb;have h2:=(hk b (.inr (.inr hb))).1;rw[Zci h1]at h2;exact(Zan.1 h2).1⟩⟩
def errD(n:Nat):D:=if n=0 then .nil else .iface 49 (.int .i64 n)
theorem q2P{n:Nat}(h:n≠0):errD n=.iface 49 (.int .i64 n):=by simp[errD,h]
theorem indexByte_none{l:List UInt8}{c:UInt8}:Lib.indexByte l c = -1↔c∉l:=by
 induction l with
 |nil=>simp[Lib.indexByte]
 |cons b l ih=>
  have hge:=Lib.indexByte_ge l c;simp only[Lib.indexByte,Zar,not_or]
  by_cases h:b=c
  ·simp[h]
  ·rw[if_neg (by simpa using h)]
   by_cases h2:Lib.indexByte l c = -1
   ·rw[if_pos (by simpa using h2)];simp only[true_iff];exact⟨fun e=>h e.symm,ih.1 h2⟩
   ·rw[if_neg (by simpa using h2)];constructor
    ·intro e;omega
    ·intro e;exact absurd (ih.2 e.2) h2
theorem q8X{l:List UInt8}{c:UInt8}:(0≤Lib.indexByte l c)↔c∈l:=by
 have h:=indexByte_none (l:=l) (c:=c);have hge:=Lib.indexByte_ge l c;constructor
 ·intro h1
  by_cases hc:c∈l
  ·exact hc
  ·have:=h.2 hc;omega
 ·intro h1
  by_cases hc:Lib.indexByte l c = -1
  ·exact absurd h1 (h.1 hc)
  ·omega
def q1Y:q0l:=
 .seq (.reg [Qx 4 (Ki 0)]) (.seq (.reg [Qc 5 0,Qc 6 1,⟨some 7,.prim .call [.k (.fn (.func 149) [] []),.t 5,.t 6] [],none⟩,Qa 4 7]) .ret)
def q11:List LRes:=[.tmp 4]
theorem q23:q0E Tryz.prog 141 8 q1Y q11:=⟨_,_,Tryz.func141,rfl,by kernel_rfl,by kernel_rfl,rfl⟩
theorem q5g(s:List UInt8)(c:UInt8):q0y Tryz.prog 141 [.str s,.int .u8 c.toNat] (fun r=>r=.one (.int .i64 (Lib.indexByte s c))):=by
 refine q23.call rfl ?_;simp only[go_sem,↓reduceIte,q1Y,q11];refine q0b.entry Tryz.func149 (by kernel_rfl) (by kernel_rfl) (by kernel_rfl) (e:=Extern.BytealgIndexByte.indexByte) (by kernel_rfl) (.d (.int .i64 (Lib.indexByte s c))) (fun G w vs hl hv=>?_) ?_
 ·match vs,hl with
  |[v,u],_=>
   have h0:AVR G w (.d (.str s)) v:=hv 0 _ rfl;have h1:AVR G w (.d (.int .u8 c.toNat)) u:=hv 1 _ rfl;have h0:=h0.dinv;have h1:=h1.dinv;cases h0;cases h1;refine⟨_,Lib.run_indexByteString _ _ w,?_⟩;have e:(((c.toNat:Int).toNat).toUInt8)=c:=by simp
   rw[e];exact .d _ _ (.int _ _)
 simp only[go_sem,↓reduceIte]
def q4C:q0l:=
 .seq (.reg [Qx 4 (Ki 0)]) (.seq (.reg [Qc 5 0,Qc 6 1,⟨some 7,.call 141 [.t 5,.t 6],none⟩,Qa 4 7]) .ret)
def q4G:List LRes:=[.tmp 4]
theorem q6v:q0E Tryz.prog 128 8 q4C q4G:=⟨_,_,Tryz.func128,rfl,by kernel_rfl,by kernel_rfl,rfl⟩
theorem q7G(s:List UInt8)(c:UInt8):q0y Tryz.prog 128 [.str s,.int .u8 c.toNat] (fun r=>r=.one (.int .i64 (Lib.indexByte s c))):=by
 refine q6v.call rfl ?_;simp only[go_sem,↓reduceIte,q4C,q4G];refine q0j.of (q5g s c) ?_;simp only[go_sem,↓reduceIte]
/-! ### One byte in a string -/
def q2m:q0l:=
 .seq (.reg [Qx 4 (Ki 0)]) (.seq (.reg [Qc 14 1,Q 15 (.len true (.t 14)),Qa 5 15]) (.seq (.block 0 (.seq (.reg [Qc 17 5,Q 18 (.bin .eql (.t 17) (Ki 0)),Qc 19 18,Qd 20 1 19 
 false,Qd 21 0 19 false,Qg 22 (.bin .eql (.t 20) (.t 21)) 19 false,Q 23 (.pick (.t 19) KT (.t 22)),Qa 16 23]) (.cond (.t 16) (.seq (.reg [Qx 4 (Ki 0)]) .ret) (.seq (.reg [Qc 
 25 5,Q 26 (.bin .eql (.t 25) (Ki 1)),Qa 24 26]) (.cond (.t 24) (.seq (.reg [Qc 27 0,Qc 28 1,Q 29 (.idxS (.t 28) (Ki 0)),⟨some 30,.call 141 [.t 27,.t 29],none⟩,Qa 4 30]) 
 .ret) (.seq (.reg [Qc 32 5,Qc 33 0,Q 34 (.len true (.t 33)),Q 35 (.bin .geq (.t 32) (.t 34)),Qa 31 35]) (.cond (.t 31) (.seq (.reg [Qx 4 (Ki (-1))]) .ret) (.seq .bad (.cond 
 (.t 36) (.seq (.reg [Qc 45 0,Qc 46 1,⟨some 47,.prim .call [.k (.fn (.func 142) [] []),.t 45,.t 46] [],none⟩,Qa 4 47]) .ret) .skip))))))))) (.seq (.reg [Qc 48 1,Q 49 
 (.idxS (.t 48) (Ki 0)),Qa 6 49]) (.seq (.reg [Qc 50 1,Q 51 (.idxS (.t 50) (Ki 1)),Qa 7 51]) (.seq (.reg [Qx 8 (Ki 0)]) (.seq (.reg [Qc 52 0,Q 53 (.len true (.t 52)),Qc 54 5, 
 Q 55 (.bin .sub (.t 53) (.t 54)),Q 56 (.bin .add (.t 55) (Ki 1)),Qa 9 56]) (.seq (.reg [Qx 10 (Ki 0)]) (.seq (.block 1 (.loop (.seq (.seq (.reg [Qc 57 8,Qc 58 9,Q 59 (.bin 
 .lss (.t 57) (.t 58))]) (.cond (.t 59) .skip (.exit 1))) (.block 2 (.seq (.seq (.reg [Qc 60 0,Qc 61 8,Q 62 (.idxS (.t 60) (.t 61)),Qc 63 6,Q 64 (.bin .neq (.t 62) (.t 63))]) 
 (.cond (.t 64) (.seq (.reg [Qc 65 0,Qc 66 8,Q 67 (.bin .add (.t 66) (Ki 1)),Qc 68 9,Q 69 (.subS (.t 65) (some (.t 67)) (some (.t 68))),Qc 70 6,⟨some 71,.call 141 [.t 69, 
 .t 70],none⟩,Qa 11 71]) (.seq (.seq (.reg [Qc 72 11,Q 73 (.bin .lss (.t 72) (Ki 0))]) (.cond (.t 73) (.seq (.reg [Qx 4 (Ki (-1))]) .ret) .skip)) (.reg [Qc 74 8,Qc 75 11,Q 76 
 (.bin .add (.t 75) (Ki 1)),Q 77 (.bin .add (.t 74) (.t 76)),Qa 8 77]))) .skip)) (.seq (.seq (.reg [Qc 78 0,Qc 79 8,Q 80 (.bin .add (.t 79) (Ki 1)),Q 81 (.idxS (.t 78) (.t 
 80)),Qc 82 7,Q 83 (.bin .eql (.t 81) (.t 82)),Qc 84 83,Qd 85 0 84 true,Qd 86 8 84 true,Qd 87 8 84 true,Qd 88 5 84 true,Qg 89 (.bin .add (.t 87) (.t 88)) 84 true,Qg 90 
 (.subS (.t 85) (some (.t 86)) (some (.t 89))) 84 true,Qd 91 1 84 true,Qg 92 (.bin .eql (.t 90) (.t 91)) 84 true,Q 93 (.pick (.t 84) (.t 92) KF)]) (.cond (.t 93) (.seq (.reg 
 [Qc 94 8,Qa 4 94]) .ret) .skip)) (.seq (.reg [Qc 95 8,Q 96 (.bin .add (.t 95) (Ki 1)),Qa 8 96]) (.seq (.reg [Qc 97 10,Q 98 (.bin .add (.t 97) (Ki 1)),Qa 10 98]) (.seq .bad 
 (.cond (.t 107) (.seq (.reg [Qc 108 0,Qc 109 8,Q 110 (.subS (.t 108) (some (.t 109)) none),Qc 111 1,⟨some 112,.prim .call [.k (.fn (.func 142) [] []),.t 110,.t 111] [], 
 none⟩,Qa 12 112]) (.seq (.seq (.reg [Qc 113 12,Q 114 (.bin .geq (.t 113) (Ki 0))]) (.cond (.t 114) (.seq (.reg [Qc 115 12,Qc 116 8,Q 117 (.bin .add (.t 115) (.t 116)),Qa 4 
 117]) .ret) .skip)) (.seq (.reg [Qx 4 (Ki (-1))]) .ret))) (.seq .bad (.cond (.t 132) (.seq (.reg [Qc 133 0,Qc 134 8,Q 135 (.subS (.t 133) (some (.t 134)) none),Qc 136 1,⟨some 
 137,.call 144 [.t 135,.t 136],none⟩,Qa 13 137]) (.seq (.seq (.reg [Qc 138 13,Q 139 (.bin .lss (.t 138) (Ki 0))]) (.cond (.t 139) (.seq (.reg [Qx 4 (Ki (-1))]) .ret) .skip)) 
 (.seq (.reg [Qc 140 8,Qc 141 13,Q 142 (.bin .add (.t 140) (.t 141)),Qa 4 142]) .ret))) .skip)))))))))))) (.seq (.reg [Qx 4 (Ki (-1))]) .ret)))))))))
def q2o:List LRes:=[.tmp 4]
theorem q3O:q0E Tryz.prog 126 143 q2m q2o:=⟨_,_,Tryz.func126,rfl,by kernel_rfl,by kernel_rfl,rfl⟩
theorem z1P(s:List UInt8)(c:UInt8):q0y Tryz.prog 126 [.str s,.str [c]] (fun r=>r=.one (.int .i64 (Lib.indexByte s c))):=by
 refine q3O.call rfl ?_;simp only[go_sem,↓reduceIte,q2m,q2o];refine⟨fun h=>?_,fun h=>?_⟩
 ·subst h;simp[Lib.indexByte]
 ·have:getI [c] 0=some c:=rfl;simp only[go_sem,↓reduceIte,this];refine q0j.of (q5g s c) ?_;simp only[go_sem,↓reduceIte]
def q6C:q0l:=
 .seq (.reg [Qx 4 (Ki 0)]) (.seq (.reg [Qc 5 0,Qc 6 1,⟨some 7,.call 126 [.t 5,.t 6],none⟩,Qa 4 7]) .ret)
def q6J:List LRes:=[.tmp 4]
theorem q8Z:q0E Tryz.prog 105 8 q6C q6J:=⟨_,_,Tryz.func105,rfl,by kernel_rfl,by kernel_rfl,rfl⟩
def q49:q0l:=
 .seq (.reg [Qx 4 KF]) (.seq (.reg [Qc 5 0,Qc 6 1,⟨some 7,.call 105 [.t 5,.t 6],none⟩,Q 8 (.bin .geq (.t 7) (Ki 0)),Qa 4 8]) .ret)
def q5b:List LRes:=[.tmp 4]
theorem q61:q0E Tryz.prog 74 9 q49 q5b:=⟨_,_,Tryz.func74,rfl,by kernel_rfl,by kernel_rfl,rfl⟩
theorem q7E(s:List UInt8)(c:UInt8):q0y Tryz.prog 74 [.str s,.str [c]] (fun r=>r=.one (.bool (decide (c∈s)))):=by
 have h:q0y Tryz.prog 105 [.str s,.str [c]] (fun r=>r=.one (.int .i64 (Lib.indexByte s c))):=by
  refine q8Z.call rfl ?_;simp only[go_sem,↓reduceIte,q6C,q6J];refine q0j.of (z1P s c) ?_;simp only[go_sem,↓reduceIte]
 refine q61.call rfl ?_;simp only[go_sem,↓reduceIte,q49,q5b];refine q0j.of h ?_;simp only[go_sem,↓reduceIte];congr 2
 simp only[q8X]
inductive Bld where
 |new
 |nul
 |has (s:List UInt8)
def Bld.obj:Bld→AObj
 |.new=>.cells [.nt 102,.ns]
 |.nul=>.cells [.ptr (.x 0) 0,.ns]
 |.has s=>.cells [.ptr (.x 0) 0,.own (.c (.x 0) 1) 5 1 (q1t s)]
def Bld.bytes:Bld→List UInt8
 |.has s=>s
 |_=>[]
def q1r:q0l:=
 .seq (.reg [Qc 2 0,Q 3 (.nck (.t 2)),Q 4 (.fa 0 (.t 3)),Q 5 (.ld false 1 (.t 4)),Q 6 (.eqN 1 false (.t 5))]) (.cond (.t 6) (.reg [Qc 7 0,Qc 8 0,⟨some 9,.prim (.conv 99 167) 
 [.t 8] [],none⟩,⟨some 10,.prim .call [.k (.fn (.func 131) [] []),.t 9] [],none⟩,⟨some 11,.prim (.conv 167 99) [.t 10] [],none⟩,Q 12 (.nck (.t 7)),Q 13 (.fa 0 (.t 12)), 
 ⟨none,.st 1 (.t 13) (.t 11),none⟩]) (.seq (.reg [Qc 14 0,Q 15 (.nck (.t 14)),Q 16 (.fa 0 (.t 15)),Q 17 (.ld false 1 (.t 16)),Qc 18 0,⟨some 19,.prim (.eq .neq 99) [.t 17, 
 .t 18] [],none⟩]) (.cond (.t 19) .bad .skip)))
def q1s:List LRes:=[]
theorem q1N:q0E Tryz.prog 114 20 q1r q1s:=⟨_,_,Tryz.func114,rfl,by kernel_rfl,by kernel_rfl,rfl⟩
theorem q8N:q1c Tryz.prog 114 [.ptr (.x 0) 0] [.cells [.nt 102,.ns]] (.tuple []) [.cells [.ptr (.x 0) 0,.ns]]:=by
 refine q1N.q0G (by kernel_rfl) rfl ?_;simp only[go_sem,↓reduceIte,q1r,q1s,AV.den];refine q0b.j4F (m:=1) rfl rfl (by decide) Tryz.underlying99 Tryz.underlying167 (by kernel_rfl) ?_;simp only[go_sem,↓reduceIte];refine q0b.entry Tryz.func131 (by kernel_rfl) (by kernel_rfl) (by kernel_rfl) (e:=Extern.AbiNoEscape.same) (by kernel_rfl) (.ptr (.x 0) 0) (fun G w vs hl hv=>?_) ?_
 ·match vs,hl with
  |[v],_=>exact⟨v,Lib.run_noEscape w v,hv 0 _ rfl⟩
 simp only[go_sem,↓reduceIte];refine q0b.z9w (i:=0) rfl rfl rfl Tryz.underlying167 Tryz.underlying99 (m:=2) (by kernel_rfl) (by kernel_rfl) ?_;simp only[go_sem,↓reduceIte]
theorem j5L:∃j,Tryz.prog.info? 102=some j:=by
 have h:(Tryz.prog.info? 102).isSome=true:=by kernel_rfl
 exact Option.isSome_iff_exists.1 h
theorem q3Y(x:AV)(hx:x=.ns∨∃s,x=.own (.c (.x 0) 1) 5 1 (q1t s)):q1c Tryz.prog 114 [.ptr (.x 0) 0] [.cells [.ptr (.x 0) 0,x]] (.tuple []) [.cells [.ptr (.x 0) 0,x]]:=by
 obtain⟨j,hj⟩:=j5L;have done:q1c Tryz.prog 114 [.ptr (.x 0) 0] [.cells [.ptr (.x 0) 0,x]] (.tuple []) [.cells [.ptr (.x 0) 0,x]]:=by
  refine q1N.q0G (by kernel_rfl) rfl ?_;simp only[go_sem,↓reduceIte,q1r,q1s,AV.den];refine q0b.j57 rfl rfl Tryz.underlying99 hj ?_;simp only[go_sem,↓reduceIte]
 exact done
def q0X:q0l:=
 .seq (.reg [Qx 4 (.k (.d .nil))]) (.seq (.reg [Qc 5 0,⟨some 6,.prim .call [.k (.fn (.func 114) [] []),.t 5] [],none⟩]) (.seq (.reg [Qc 7 0,Qc 8 0,Q 9 (.nck (.t 8)),Q 10 (.fa 
 1 (.t 9)),Q 11 (.ld false 1 (.t 10)),Qc 12 1,⟨some 13,.bsl 5 1 [.t 12],none⟩,⟨some 14,.app 5 1 1 false (.t 11) (.t 13),none⟩,Q 15 (.nck (.t 7)),Q 16 (.fa 1 (.t 15)), 
 ⟨none,.st 1 (.t 16) (.t 14),none⟩]) (.seq (.reg [Qx 4 (.k (.d .nil))]) .ret)))
def q0Y:List LRes:=[.tmp 4]
theorem q1d:q0E Tryz.prog 90 17 q0X q0Y:=⟨_,_,Tryz.func90,rfl,by kernel_rfl,by kernel_rfl,rfl⟩
def q0O:q0l:=
 .seq (.reg [Qx 4 (Ki 0),Qx 5 (.k (.d .nil))]) (.seq (.reg [Qc 6 0,⟨some 7,.prim .call [.k (.fn (.func 114) [] []),.t 6] [],none⟩]) (.seq (.reg [Qc 8 0,Qc 9 0,Q 10 (.nck (.t 
 9)),Q 11 (.fa 1 (.t 10)),Q 12 (.ld false 1 (.t 11)),Qc 13 1,⟨some 14,.app 5 1 1 true (.t 12) (.t 13),none⟩,Q 15 (.nck (.t 8)),Q 16 (.fa 1 (.t 15)),⟨none,.st 1 (.t 16) 
 (.t 14),none⟩]) (.seq (.reg [Qc 17 1,Q 18 (.len true (.t 17)),Qa 4 18,Qx 5 (.k (.d .nil))]) .ret)))
def q0P:List LRes:=[.tmp 4,.tmp 5]
theorem q06:q0E Tryz.prog 86 19 q0O q0P:=⟨_,_,Tryz.func86,rfl,by kernel_rfl,by kernel_rfl,rfl⟩
theorem z0K(b:Bld)(t:List UInt8)(hl:(b.bytes++t).length≤1000000000):q1c Tryz.prog 86 [.ptr (.x 0) 0,.d (.str t)] [b.obj] (.tuple [.d (.int .i64 t.length),.d .nil]) [Bld.obj (.has (b.bytes++t))]:=by
 have hbl:=q1K t;cases b with
 |new=>
  refine q06.q0G (by kernel_rfl) rfl ?_;simp only[go_sem,↓reduceIte,q0O,q0P,AV.den,Bld.obj];refine q0b.mc1 (.x 0) rfl (q8N) rfl rfl rfl rfl ⟨rfl,rfl⟩ ?_;simp only[Bld.bytes,Zav]at hl;simp only[go_sem,↓reduceIte,Bld.bytes,AV.den,hbl];omega
 |nul=>
  refine q06.q0G (by kernel_rfl) rfl ?_;simp only[go_sem,↓reduceIte,q0O,q0P,AV.den,Bld.obj];refine q0b.mc1 (.x 0) rfl (q3Y _ (.inl rfl)) rfl rfl rfl rfl ⟨rfl,rfl⟩ ?_;simp only[Bld.bytes,Zav]at hl;simp only[go_sem,↓reduceIte,Bld.bytes,AV.den,hbl];omega
 |has s=>
  have hbs:=q1K s;refine q06.q0G (by kernel_rfl) rfl ?_;simp only[go_sem,↓reduceIte,q0O,q0P,AV.den,Bld.obj];refine q0b.mc1 (.x 0) rfl (q3Y _ (.inr ⟨s,rfl⟩)) rfl rfl rfl rfl ⟨rfl,rfl⟩ ?_;simp only[Bld.bytes,Zad]at hl;simp only[go_sem,↓reduceIte,Bld.bytes,AV.den,hbl,hbs,q1J];omega
theorem z2K(b:Bld)(c:UInt8)(hl:b.bytes.length+1≤1000000000):q1c Tryz.prog 90 [.ptr (.x 0) 0,.d (.int .u8 c.toNat)] [b.obj] (.d .nil) [Bld.obj (.has (b.bytes++[c]))]:=by
 cases b with
 |new=>
  refine q1d.q0G (by kernel_rfl) rfl ?_;simp only[go_sem,↓reduceIte,q0X,q0Y,AV.den,Bld.obj];refine q0b.mc1 (.x 0) rfl (q8N) rfl rfl rfl rfl ⟨rfl,rfl⟩ ?_;simp only[go_sem,↓reduceIte,Bld.bytes,AV.den,q2z,q28]
 |nul=>
  refine q1d.q0G (by kernel_rfl) rfl ?_;simp only[go_sem,↓reduceIte,q0X,q0Y,AV.den,Bld.obj];refine q0b.mc1 (.x 0) rfl (q3Y _ (.inl rfl)) rfl rfl rfl rfl ⟨rfl,rfl⟩ ?_;simp only[go_sem,↓reduceIte,Bld.bytes,AV.den,q2z,q28]
 |has s=>
  have hbs:=q1K s;refine q1d.q0G (by kernel_rfl) rfl ?_;simp only[go_sem,↓reduceIte,q0X,q0Y,AV.den,Bld.obj];refine q0b.mc1 (.x 0) rfl (q3Y _ (.inr ⟨s,rfl⟩)) rfl rfl rfl rfl ⟨rfl,rfl⟩ ?_;simp only[Bld.bytes]at hl;simp only[go_sem,↓reduceIte,Bld.bytes,AV.den,hbs,q1J,q2z,q28];omega
section
open Go.Shelf Go.RowKit
theorem j3a(b g cap:Nat)(p:Value)(cur:Array Value)(el:TypeId)(l:List UInt8)(w:World)(hbk:w.heap[b]?=some (.cells #[p,.slice (some ⟨g,0,none⟩) l.length cap] el (0,0)))(h0:l≠[])
  (hg:w.heap[g]?=some (.cells cur 5 (0,0))) (hnc:l.length≤cap) (hcm:cap≤maxLen) (hcs:cur.size=cap) (hcell:∀(j:Nat) (x:UInt8),l[j]?=some x→w.cell? ((⟨g,0,none⟩:Addr).add j)=some (.int .u8 x.toNat)):
  Calls Tryz.prog 54 #[.pointer (some ⟨b,0,none⟩)] w fun e w'=>e=.returned (.string ⟨l.toArray⟩)∧w'=w.drew.freeze ⟨g,0,none⟩ l.length:=by
 have hl0:l.length≠0:=by simpa using h0
 have c1:w.drew.cell? ⟨b,1,none⟩=some (.slice (some ⟨g,0,none⟩) l.length cap):=by
  have:w.drew.heap[b]?=some (.cells #[p,.slice (some ⟨g,0,none⟩) l.length cap] el (0,0)):=hbk;rw[Lib.cell_of_heap this];rfl
 have hSD:(Builtin.unsafeSliceData_ #[100] 133 #[.slice (some ⟨g,0,none⟩) l.length cap]).run Tryz.prog w.drew=.ok (.pointer (some ⟨g,0,none⟩)) w.drew:=
  Lib.run_unsafeSliceData_row _ _ _ _ _ _ (by omega)
 have hUS:(Builtin.unsafeString_ #[133,3] 9 #[.pointer (some ⟨g,0,none⟩),.int .i64 l.length]).run Tryz.prog w.drew=.ok (.string ⟨l.toArray⟩) (w.drew.freeze ⟨g,0,none⟩ l.length):=by
  refine Lib.run_unsafeString_row w.drew 133 3 9 5 Tryz.underlying133 (by kernel_rfl) g cur.size (by have hg':w.drew.heap[g]?=some (.cells cur 5 (0,0)):=hg;simp[World.shape?,hg']) l h0 (by omega) (by unfold maxLen at hcm;omega) ?_;intro j x hx;exact hcell j x hx
 go_enter Tryz.func54,Tryz.ntmps54
 go_wp2
 go_region
 all_goals(go_wp2;go_ret;exact⟨rfl,rfl⟩)
theorem z7X(b:Nat)(p:Value)(el:TypeId)(w:World)(hbk:w.heap[b]?=some (.cells #[p,.slice none 0 0] el (0,0))):
  Calls Tryz.prog 54 #[.pointer (some ⟨b,0,none⟩)] w fun e w'=>e=.returned (.string ⟨#[]⟩)∧w'=w.drew:=by
 have hUS:∀(W:World) (q:Option Addr),(Builtin.unsafeString_ #[133,3] 9 #[.pointer q,.int .i64 0]).run Tryz.prog W=.ok (.string .empty) W:=fun W q=>Lib.run_unsafeString_none W _ _ _ q
 have c1:w.drew.cell? ⟨b,1,none⟩=some (.slice none 0 0):=by
  have:w.drew.heap[b]?=some (.cells #[p,.slice none 0 0] el (0,0)):=hbk;rw[Lib.cell_of_heap this];rfl
 have hSD:(Builtin.unsafeSliceData_ #[100] 133 #[.slice none 0 0]).run Tryz.prog w.drew=.ok (.pointer none) w.drew:=rfl
 go_enter Tryz.func54,Tryz.ntmps54
 go_wp2
 go_region
 all_goals(go_wp2;go_ret;exact⟨rfl,rfl⟩)
theorem j0K(b g cap:Nat)(p:Value)(el:TypeId)(w:World)(hc0:cap≠0)(hbk:w.heap[b]?=some (.cells #[p,.slice (some ⟨g,0,none⟩) 0 cap] el (0,0))):
  Calls Tryz.prog 54 #[.pointer (some ⟨b,0,none⟩)] w fun e w'=>e=.returned (.string ⟨#[]⟩)∧w'=w.drew:=by
 have hUS:∀(W:World) (q:Option Addr),(Builtin.unsafeString_ #[133,3] 9 #[.pointer q,.int .i64 0]).run Tryz.prog W=.ok (.string .empty) W:=fun W q=>Lib.run_unsafeString_none W _ _ _ q
 have c1:w.drew.cell? ⟨b,1,none⟩=some (.slice (some ⟨g,0,none⟩) 0 cap):=by
  have:w.drew.heap[b]?=some (.cells #[p,.slice (some ⟨g,0,none⟩) 0 cap] el (0,0)):=hbk;rw[Lib.cell_of_heap this];rfl
 have hSD:(Builtin.unsafeSliceData_ #[100] 133 #[.slice (some ⟨g,0,none⟩) 0 cap]).run Tryz.prog w.drew=.ok (.pointer (some ⟨g,0,none⟩)) w.drew:=
  Lib.run_unsafeSliceData_row _ _ _ _ _ _ hc0
 clear hc0
 go_enter Tryz.func54,Tryz.ntmps54
 go_wp2
 go_region
 all_goals(go_wp2;go_ret;exact⟨rfl,rfl⟩)
theorem z6J(b g:Nat)(p:Value)(el:TypeId)(cur:Array Value)(w:World)(hbk:w.heap[b]?=some (.cells #[p,.slice (some ⟨g,0,none⟩) 0 0] el (0,0)))(hg:w.heap[g]?=some (.cells cur 5 (0,0))):
  Calls Tryz.prog 54 #[.pointer (some ⟨b,0,none⟩)] w fun e w'=>e=.returned (.string ⟨#[]⟩)∧w'=w.drew.alloc (.view ⟨g,0,none⟩ 5):=by
 have hUS:∀(W:World) (q:Option Addr),(Builtin.unsafeString_ #[133,3] 9 #[.pointer q,.int .i64 0]).run Tryz.prog W=.ok (.string .empty) W:=fun W q=>Lib.run_unsafeString_none W _ _ _ q
 have hlt:b<w.heap.size:=by
  rcases Zbq b w.heap.size with h'|h'
  ·exact h'
  ·simp[Zcu h']at hbk
 have c1:w.drew.cell? ⟨b,1,none⟩=some (.slice (some ⟨g,0,none⟩) 0 0):=by
  have:w.drew.heap[b]?=some (.cells #[p,.slice (some ⟨g,0,none⟩) 0 0] el (0,0)):=hbk;rw[Lib.cell_of_heap this];rfl
 have hSD:(Builtin.unsafeSliceData_ #[100] 133 #[.slice (some ⟨g,0,none⟩) 0 0]).run Tryz.prog w.drew=.ok (.pointer (some ⟨w.drew.heap.size,0,none⟩)) (w.drew.alloc (.view ⟨g,0,none⟩ 5)):=
  Lib.run_unsafeSliceData_zero w.drew _ _ 5 Tryz.underlying133 ⟨g,0,none⟩ 0 (5,cur.size) (by have hg':w.drew.heap[g]?=some (.cells cur 5 (0,0)):=hg;simp[World.shape?,hg'])
 have c2:(w.drew.alloc (.view ⟨g,0,none⟩ 5)).cell? ⟨b,1,none⟩=some (.slice (some ⟨g,0,none⟩) 0 0):=by
  have:(w.drew.alloc (.view ⟨g,0,none⟩ 5)).heap[b]?=_:=(Lib.alloc_old w.drew _ b hlt).trans hbk;rw[Lib.cell_of_heap this];rfl
 have c3:(w.alloc (.view ⟨g,0,none⟩ 5)).drew.cell? ⟨b,1,none⟩=some (.slice (some ⟨g,0,none⟩) 0 0):=c2;have c0:w.cell? ⟨b,1,none⟩=some (.slice (some ⟨g,0,none⟩) 0 0):=c1
 go_enter Tryz.func54,Tryz.ntmps54
 go_wp2
 go_region
 all_goals(go_wp2;go_ret;exact⟨rfl,rfl⟩)
end
theorem q5s(w:World)(g n b:Nat)(h:b≠g):(w.freeze ⟨g,0,none⟩ n).heap[b]?=w.heap[b]?:=by
 unfold World.freeze;split
 ·rfl
 ·simp only[Zdd];rw[if_neg (fun e=>h e.symm)]
theorem z2w(w:World)(g n:Nat){cur:Array Value}{e:TypeId}{fz:Nat×Nat}(h:w.heap[g]?=some (.cells cur e fz)):∃fz',(w.freeze ⟨g,0,none⟩ n).heap[g]?=some (.cells cur e fz'):=by
 unfold World.freeze;split
 ·exact⟨fz,h⟩
 ·obtain⟨lo,hi⟩:=fz;simp only[Zdd,if_true,h,Zat];exact⟨_,rfl⟩
theorem z1u(w:World)(g n:Nat):(w.freeze ⟨g,0,none⟩ n).heap.size=w.heap.size:=by
 unfold World.freeze;split
 ·rfl
 ·simp
theorem q75(w:World)(g n:Nat):(w.freeze ⟨g,0,none⟩ n).os=w.os∧(w.freeze ⟨g,0,none⟩ n).tape=w.tape∧(w.freeze ⟨g,0,none⟩ n).output=w.output:=by
 unfold World.freeze;split<;>exact⟨rfl,rfl,rfl⟩
theorem Ext.freeze{f:Nat→Nat}{w:World}{g n:Nat}{cur:Array Value}{e:TypeId}{fz:Nat×Nat}(h:w.heap[g]?=some (.cells cur e fz)):Ext f w f (w.freeze ⟨g,0,none⟩ n):=by
 refine⟨by rw[z1u];exact Zai _,fun _=>Zai _,fun b i _=>?_,fun b es c _ hm=>?_⟩
 ·by_cases hb:b=g
  ·subst hb;obtain⟨fz',h'⟩:=z2w w b n h;simp[World.cell?,at_,h,h']
  ·simp only[World.cell?,at_];rw[q5s w g n b hb]
 ·by_cases hb:b=g
  ·subst hb;rw[h]at hm;cases hm
  ·rw[q5s w g n b hb];exact hm
theorem q67{E:Entry}{n:Nat}{G:q0p}{σ:St}{ts:Array Value}{w:World}(h:SR E n G σ ts w){x:D}{v:Value}(hr:RD G.f w x v){o:AObj}(ho:σ.obj (.x 0)=some o):
  ∃G',SR E 1 G' ⟨[(0,.d x)],[],numO 0 [o]⟩ #[v] w:=
 ⟨_,h.final (q0:=none) (r:=.d x) (v:=v) (.d _ _ hr) (fun q hq=>by simp[AV.lab?]at hq) (fun _ _ e=>by cases e) (hs':=[o]) (fun i o' hi=>by
  cases i with
  |zero=>simp at hi;subst hi;exact ho
  |succ i=>simp at hi)⟩
def Bld.said:Bld→AObj
 |.has s=>.cells [.ptr (.x 0) 0,.d (.list (q1t s))]
 |b=>b.obj
theorem z7L(b:Bld)(hl:b.bytes.length≤1000000000):q1c Tryz.prog 54 [.ptr (.x 0) 0] [b.obj] (.d (.str b.bytes)) [b.said]:=by
 refine⟨by kernel_rfl,fun G w vs hI hown hsr=>?_⟩;have hv:vs = #[.pointer (some (at_ (G.b (.x 0)) 0))]:=by
  have h1:=hsr.slot 0 (.ptr (.x 0) 0) rfl;have h2:=hsr.size;match vs,h2 with
  |⟨[v]⟩,_=>
   have h1:AVR G w (.ptr (.x 0) 0) v:=h1;cases h1;rfl
 subst hv;have hob:St.obj ⟨q6W 0 [.ptr (.x 0) 0],[],numO 0 [b.obj]⟩ (.x 0)=some b.obj:=rfl;obtain⟨a0,c1,hbo,hc1⟩:∃a0 c1,b.obj=.cells [a0,c1]∧((c1=.ns∧b.bytes=[]∧b.said=b.obj)∨∃s,b=.has s∧c1=.own (.c (.x 0) 1) 5 1 (q1t s)):=by
  cases b with
  |new=>exact⟨_,_,rfl,.inl ⟨rfl,rfl,rfl⟩⟩
  |nul=>exact⟨_,_,rfl,.inl ⟨rfl,rfl,rfl⟩⟩
  |has s=>exact⟨_,_,rfl,.inr ⟨s,rfl,rfl⟩⟩
 have ho:=hsr.obj _ _ hob;rw[hbo]at ho;obtain⟨arr,el,g1,g2,g3⟩:=ho;obtain⟨p,v,rfl⟩:∃p v,arr = #[p,v]:=by
  match arr,g2 with
  |⟨[p,v]⟩,_=>exact⟨p,v,rfl⟩
 have hcell:=(g3 1 c1 rfl).1;have hcell:AVR G w c1 v:=hcell;rcases hc1 with⟨rfl,hb0,hsd⟩|⟨s,rfl,rfl⟩
 ·cases hcell;refine(z7X _ p el w g1).mono fun e w' ⟨e1,e2⟩=>?_
  subst e2;obtain⟨G',h5⟩:=q67 (hsr.drew) (x:=.str b.bytes) (v:=.string ⟨#[]⟩) (by rw[hb0];exact .str []) hob;exact⟨_,_,G',_,⟨rfl,rfl⟩,e1,rfl,by rw[hsd];exact h5⟩
 ·cases hcell with
  |own _ _ _ _ _ hq hrd hsz=>
   have h1:=hsr.erase (.c (.x 0) 1);have hob1:(St.erase ⟨q6W 0 [.ptr (.x 0) 0],[],numO 0 [Bld.obj (.has s)]⟩ (.c (.x 0) 1)).obj (.x 0)=some (.cells [.ptr (.x 0) 0,.d (.list (q1t s))]):=by
    rw[St.q3r,hob];simp[Bld.obj,q1L,amod,AV.erase]
   obtain⟨k,xs,hown',hfb⟩:=hsr.lam _ _ _ _ hq;have hk:k=s.length:=by have:=z4o hrd hown';rwa [q1K]at this
   subst hk;rcases hown'.2 with⟨rfl,h0⟩|⟨g,cap,cur,rfl,_,hg,hnc,hcm,hcs,htk⟩
   ·have hs0:s=[]:=by simpa using h0
    subst hs0;refine(z7X _ p el w g1).mono fun e w' ⟨e1,e2⟩=>?_
    subst e2;obtain⟨G',h5⟩:=q67 (h1.drew) (x:=.str []) (v:=.string ⟨#[]⟩) (.str []) hob1;exact⟨_,_,G',_,⟨rfl,rfl⟩,e1,rfl,h5⟩
   ·by_cases hs0:s=[]
    ·subst hs0
     by_cases hc0:cap=0
     ·subst hc0;refine(z6J _ g p el cur w g1 hg).mono fun e w' ⟨e1,e2⟩=>?_
      subst e2;obtain⟨G',h5⟩:=q67 ((h1.drew).alloc (.view ⟨g,0,none⟩ 5) 0) (x:=.str []) (v:=.string ⟨#[]⟩) (.str []) hob1;exact⟨_,_,G',_,⟨rfl,rfl⟩,e1,rfl,h5⟩
     ·refine(j0K _ g cap p el w hc0 g1).mono fun e w' ⟨e1,e2⟩=>?_
      subst e2;obtain⟨G',h5⟩:=q67 (h1.drew) (x:=.str []) (v:=.string ⟨#[]⟩) (.str []) hob1;exact⟨_,_,G',_,⟨rfl,rfl⟩,e1,rfl,h5⟩
    ·refine(j3a _ g cap p cur el s w g1 hs0 hg hnc hcm (by simpa using hcs) (fun j x hx=>?_)).mono fun e w' ⟨e1,e2⟩=>?_
     ·have hlt:j<s.length:=(Zaa.1 hx).1;have hadd:(⟨g,0,none⟩:Addr).add j=at_ g j:=q54 g j;rw[hadd];generalize hL:q1t s=L at hrd;have hLl:L.length=s.length:=by rw[←hL,q1K]
      have hLj:L[j]?=some (.int .u8 x.toNat):=by rw[←hL];simp[q1t,hx]
      generalize hvv:Value.slice (some ⟨g,0,none⟩) s.length cap=vv at hrd;cases hrd with
      |nils=>cases hvv
      |emp a c=>simp at hLj
      |list l b o cap' sz vs hcap hsz' hb' hc' hr'=>
       simp only[Value.slice.injEq,Zas]at hvv;obtain⟨e0,_,_⟩:=hvv;simp only[at_,Addr.mk.injEq]at e0;obtain⟨rfl,rfl,_⟩:=e0;have hm:=Zae hLj;have hsz1:sz=1:=by have:=(hsz' _ hm).1;simpa[D.cells]using this.symm
       subst hsz1;have q1:=hc' j (by omega);have q2:=hr' j _ 0 _ hLj rfl;rw[Zbh]at q1;rw[q1];have e3:j*1+0=j:=by omega
       rw[e3]at q2;cases hvs:vs j<;>rw[hvs]at q2<;>cases q2;rfl
     ·subst e2;have hX:=h1.drew.q7Q (w':=w.drew.freeze ⟨g,0,none⟩ s.length) (f':=G.f) (fun b=>b=g) (fun b hb=>by
       subst hb;refine⟨fun r o hr e=>?_,fun q v' p' hq' hvb=>?_,?_⟩
       ·have hr':∃o',St.obj ⟨q6W 0 [.ptr (.x 0) 0],[],numO 0 [Bld.obj (.has s)]⟩ r=some o':=by
         rw[St.q3r]at hr;cases h0:St.obj ⟨q6W 0 [.ptr (.x 0) 0],[],numO 0 [Bld.obj (.has s)]⟩ r with
         |none=>simp[h0]at hr
         |some o'=>exact⟨o',rfl⟩
        obtain⟨o',hr'⟩:=hr';exact hsr.lamObj _ _ _ _ _ hq rfl r o' hr' e
       ·simp only[updf]at hq';split at hq'
        ·cases hq'
        ·rename_i hne;exact hne (hsr.lamInj _ _ _ _ _ _ _ hq' hq hvb rfl)
       ·exact hsr.newLam _ _ _ _ _ hq rfl) (Ext.freeze (w:=w.drew) hg) (fun b hb hne=>⟨q5s _ _ _ _ hne,rfl⟩) (fun b hb=>h1.drew.top b (by rw[z1u]at hb;exact hb)) (q75 _ _ _).1 (q75 _ _ _).2.1 (q75 _ _ _).2.2
      obtain⟨G',h5⟩:=q67 hX (x:=.str s) (v:=.string ⟨s.toArray⟩) (.str s) hob1;exact⟨_,_,G',_,⟨rfl,rfl⟩,e1,rfl,h5⟩
def q4D:q0l:=
 .seq (.reg [Qx 4 (Ki 0)]) (.block 0 (.seq (.reg [Qc 161 1,Q 162 (.bin .leq (.k (.d (.int .i32 0))) (.t 161)),Qc 163 162,Qd 164 1 163 true,Qg 165 (.bin .lss (.t 164) (.k (.d 
 (.int .i32 128)))) 163 true,Q 166 (.pick (.t 163) (.t 165) KF),Qa 160 166]) (.cond (.t 160) (.seq (.reg [Qc 167 0,Qc 168 1,Q 169 (.cvI .u8 (.t 168)),⟨some 170,.call 128 [.t 
 167,.t 169],none⟩,Qa 4 170]) .ret) (.seq (.reg [Qc 172 1,Q 173 (.bin .eql (.t 172) (.k (.d (.int .i32 65533)))),Qa 171 173]) (.cond (.t 171) (.seq (.seq (.reg [Qc 174 0, 
 ⟨some 175,.prim (.range 9) [.t 174] [],none⟩]) (.block 9 (.loop (.seq (.reg [⟨some 176,.prim (.next true 0) [.t 175] [],none⟩,Q 177 (.ext 0 (.t 176))]) (.seq (.cond (.t 177) 
 .skip (.exit 9)) (.block 10 (.seq (.reg [Q 178 (.ext 1 (.t 176)),Q 179 (.ext 2 (.t 176)),Qa 5 178,Qa 6 179]) (.seq (.reg [Qc 180 6,Q 181 (.bin .eql (.t 180) (.k (.d (.int 
 .i32 65533))))]) (.cond (.t 181) (.seq (.reg [Qc 182 5,Qa 4 182]) .ret) .skip))))))))) (.seq (.reg [Qx 4 (Ki (-1))]) .ret)) (.seq (.reg [Qc 184 1,⟨some 185,.call 151 [.t 184], 
 none⟩,Q 186 (.not (.t 185)),Qa 183 186]) (.cond (.t 183) (.seq (.reg [Qx 4 (Ki (-1))]) .ret) .bad)))))))
def q4H:List LRes:=[.tmp 4]
theorem q6w:q0E Tryz.prog 145 187 q4D q4H:=⟨_,_,Tryz.func145,rfl,by kernel_rfl,by kernel_rfl,rfl⟩
theorem z2y(s:List UInt8)(c:UInt8)(hc:c.toNat<128):q0y Tryz.prog 145 [.str s,.int .i32 c.toNat] (fun r=>r=.one (.int .i64 (Lib.indexByte s c))):=by
 refine q6w.call rfl ?_;simp only[go_sem,↓reduceIte,q4D,q4H];refine⟨fun _=>⟨fun _=>?_,fun h=>?_⟩,fun h=>?_⟩
 ·simp(disch:=omega)only[IntWalk.i64_in,IntWalk.u8_in];refine q0j.of (q7G s c) ?_;simp only[go_sem,↓reduceIte]
 ·exfalso;omega
 ·exfalso;omega
def q3D:q0l:=
 .seq (.reg [Qx 4 KF]) (.seq (.reg [Qc 5 0,Qc 6 1,⟨some 7,.call 145 [.t 5,.t 6],none⟩,Q 8 (.bin .geq (.t 7) (Ki 0)),Qa 4 8]) .ret)
def q3K:List LRes:=[.tmp 4]
theorem q5z:q0E Tryz.prog 127 9 q3D q3K:=⟨_,_,Tryz.func127,rfl,by kernel_rfl,by kernel_rfl,rfl⟩
theorem q9x(s:List UInt8)(c:UInt8)(hc:c.toNat<128):q0y Tryz.prog 127 [.str s,.int .i32 c.toNat] (fun r=>r=.one (.bool (decide (c∈s)))):=by
 refine q5z.call rfl ?_;simp only[go_sem,↓reduceIte,q3D,q3K];refine q0j.of (z2y s c hc) ?_;simp only[go_sem,↓reduceIte];congr 2
 simp only[q8X]
def q1A(s:List UInt8):Bool:=decide (s≠[])&&(decide (s.length≤200) && !decide ((0:UInt8)∈s))
def q6F:q0l:=
 .seq (.reg [Qx 2 KF]) (.seq (.reg [Qc 3 0,Q 4 (.bin .neq (.t 3) (.k (.d (.str [])))),Qc 5 4,Qd 6 0 5 true,Qg 7 (.len true (.t 6)) 5 true,Qg 8 (.bin .leq (.t 7) (Ki 200)) 5 
 true,Q 9 (.pick (.t 5) (.t 8) KF),Qc 10 9,Qd 11 0 10 true,⟨some 12,.call 127 [.t 11,.k (.d (.int .i32 0))],some (10,true)⟩,Qg 13 (.not (.t 12)) 10 true,Q 14 (.pick (.t 
 10) (.t 13) KF),Qa 2 14]) .ret)
def q6L:List LRes:=[.tmp 2]
theorem q81:q0E Tryz.prog 107 15 q6F q6L:=⟨_,_,Tryz.func107,rfl,by kernel_rfl,by kernel_rfl,rfl⟩
theorem q64(s:List UInt8):q0y Tryz.prog 107 [.str s] (fun r=>r=.one (.bool (q1A s))):=by
 refine q81.call rfl ?_;simp only[go_sem,↓reduceIte,q6F,q6L];refine⟨fun h1=>⟨fun h2=>?_,fun h2=>?_⟩,fun h1=>?_⟩
 ·refine q0j.of (q9x s 0 (by decide)) ?_;simp only[go_sem,↓reduceIte];have h3:s.length≤200:=by omega
  simp[q1A,h1,h3]
 ·have h3:¬s.length≤200:=by omega
  simp[q1A,h3]
 ·simp[q1A,h1]
theorem q1w{α:Type}{l:List α}{i:Nat}{x:α}(h:l[i]?=some x):l.drop i=x::l.drop (i+1):=by
 obtain⟨hl,rfl⟩:=Zaa.1 h;exact Zcw hl
mutual
inductive Val where
 |mk (kind n:Int) (s:List UInt8) (l:List Val) (f:List Fld)
inductive Fld where
 |mk (name:List UInt8) (v:Val)
end
def Val.kind:Val→Int
 |.mk k _ _ _ _=>k
def Val.n:Val→Int
 |.mk _ n _ _ _=>n
def Val.s:Val→List UInt8
 |.mk _ _ s _ _=>s
def Val.l:Val→List Val
 |.mk _ _ _ l _=>l
def Val.f:Val→List Fld
 |.mk _ _ _ _ f=>f
def Fld.name:Fld→List UInt8
 |.mk n _=>n
def Fld.v:Fld→Val
 |.mk _ v=>v
mutual
def Val.d:Val→D
 |.mk k n s l f=>.agg [.int .i64 k,.int .i64 n,.str s,.list (q0u l),.list (q0k f)]
def q0u:List Val→List D
 |[]=>[]
 |v::r=>v.d::q0u r
def Fld.d:Fld→D
 |.mk nm v=>.agg (.str nm::v.d.cells)
def q0k:List Fld→List D
 |[]=>[]
 |x::r=>x.d::q0k r
end
theorem z03(l:List Val):q0u l=l.map Val.d:=by induction l with|nil=>rfl|cons v r ih=>simp[q0u,ih]
theorem q2I(l:List Fld):q0k l=l.map Fld.d:=by induction l with|nil=>rfl|cons v r ih=>simp[q0k,ih]
theorem q0Z(l:List Val):(q0u l).length=l.length:=by simp[z03]
theorem q0R(l:List Fld):(q0k l).length=l.length:=by simp[q2I]
theorem q4g(l:List Val)(i:Nat):(q0u l)[i]?=(l[i]?).map Val.d:=by simp[z03]
theorem q07(l:List Fld)(i:Nat):(q0k l)[i]?=(l[i]?).map Fld.d:=by simp[q2I]
theorem Val.d_eq(v:Val):v.d=.agg [.int .i64 v.kind,.int .i64 v.n,.str v.s,.list (q0u v.l),.list (q0k v.f)]:=by cases v;simp[Val.d,Val.kind,Val.n,Val.s,Val.l,Val.f]
theorem Fld.d_eq(x:Fld):x.d=.agg [.str x.name,.int .i64 x.v.kind,.int .i64 x.v.n,.str x.v.s,.list (q0u x.v.l),.list (q0k x.v.f)]:=by cases x;simp[Fld.d,Fld.name,Fld.v,Val.d_eq,D.cells]
theorem z2h{v x:Val}(h:x∈v.l):SizeOf.sizeOf x<SizeOf.sizeOf v:=by
 cases v with
 |mk k n s l f=>
  have:=List.sizeOf_lt_of_mem h;simp only[Val.l]at this;simp only[Val.mk.sizeOf_spec];omega
theorem z2g{v:Val}{x:Fld}(h:x∈v.f):SizeOf.sizeOf x.v<SizeOf.sizeOf v:=by
 cases v with
 |mk k n s l f=>
  have:=List.sizeOf_lt_of_mem h;simp only[Val.f]at this;have h2:SizeOf.sizeOf x.v<SizeOf.sizeOf x:=by cases x;simp only[Fld.v,Fld.mk.sizeOf_spec];omega
  simp only[Val.mk.sizeOf_spec];omega
mutual
def Val.sm(m:Nat):Val→Bool
 |.mk _ _ s l f=>decide (s.length≤m)&&(decide (l.length≤m)&&(decide (f.length≤m)&&(smL m l&&smF m f)))
def smL(m:Nat):List Val→Bool
 |[]=>true
 |v::r=>v.sm m&&smL m r
def Fld.sm(m:Nat):Fld→Bool
 |.mk nm v=>decide (nm.length≤m)&&v.sm m
def smF(m:Nat):List Fld→Bool
 |[]=>true
 |x::r=>x.sm m&&smF m r
end
theorem j6b{m:Nat}{l:List Val}:smL m l=true↔∀x∈l,x.sm m=true:=by induction l with|nil=>simp[smL]|cons v r ih=>simp[smL,ih]
theorem j6a{m:Nat}{l:List Fld}:smF m l=true↔∀x∈l,x.sm m=true:=by induction l with|nil=>simp[smF]|cons v r ih=>simp[smF,ih]
theorem Val.q1Q{m:Nat}{v:Val}:v.sm m=true↔v.s.length≤m∧v.l.length≤m∧v.f.length≤m∧(∀x∈v.l,x.sm m=true)∧∀x∈v.f,x.sm m=true:=by
 cases v;simp[Val.sm,j6b,j6a,Val.s,Val.l,Val.f]
theorem Fld.q1Q{m:Nat}{x:Fld}:x.sm m=true↔x.name.length≤m∧x.v.sm m=true:=by
 cases x;simp[Fld.sm,Fld.name,Fld.v]
/-! ### How great -/
mutual
def szV(deep:Nat):Val→Int→Bool×Int
 |.mk _ _ _ l f,left=>
  if 8<deep then(false,left-1)
  else if left-1<0 then(false,left-1)
  else match szL (deep+1) l (left-1)with
   |(false,r)=>(false,r)
   |(true,r)=>szF (deep+1) f r
def szL(deep:Nat):List Val→Int→Bool×Int
 |[],left=>(true,left)
 |v::r,left=>match szV deep v left with
  |(false,q)=>(false,q)
  |(true,q)=>szL deep r q
def szF(deep:Nat):List Fld→Int→Bool×Int
 |[],left=>(true,left)
 |.mk _ v::r,left=>match szV deep v left with
  |(false,q)=>(false,q)
  |(true,q)=>szF deep r q
end
mutual
theorem z86(deep:Nat):∀(v:Val) (left:Int),0≤left → -1≤(szV deep v left).2∧(szV deep v left).2≤left∧((szV deep v left).1=true→0≤(szV deep v left).2)
 |.mk k n s l f,left,h=>by
  unfold szV;split
  ·simp;omega
  ·split
   ·simp;omega
   ·have h1:=j5d (deep+1) l (left-1) (by omega);split
    ·rename_i r hr;rw[hr]at h1;simp at h1 ⊢;omega
    ·rename_i r hr;rw[hr]at h1;simp at h1;have h2:=j5b (deep+1) f r h1.2.2;refine⟨h2.1,by omega,h2.2.2⟩
theorem j5d(deep:Nat):∀(l:List Val) (left:Int),0≤left → -1≤(szL deep l left).2∧(szL deep l left).2≤left∧((szL deep l left).1=true→0≤(szL deep l left).2)
 |[],left,h=>by simp[szL];omega
 |v::r,left,h=>by
  have h1:=z86 deep v left h;unfold szL;split
  ·rename_i q hq;rw[hq]at h1;simp at h1 ⊢;omega
  ·rename_i q hq;rw[hq]at h1;simp at h1;have h2:=j5d deep r q h1.2.2;exact⟨h2.1,by omega,h2.2.2⟩
theorem j5b(deep:Nat):∀(l:List Fld) (left:Int),0≤left → -1≤(szF deep l left).2∧(szF deep l left).2≤left∧((szF deep l left).1=true→0≤(szF deep l left).2)
 |[],left,h=>by simp[szF];omega
 |.mk nm v::r,left,h=>by
  have h1:=z86 deep v left h;unfold szF;split
  ·rename_i q hq;rw[hq]at h1;simp at h1 ⊢;omega
  ·rename_i q hq;rw[hq]at h1;simp at h1;have h2:=j5b deep r q h1.2.2;exact⟨h2.1,by omega,h2.2.2⟩
end
theorem j7f(deep:Nat)(v:Val)(left:Int):szV deep v left=if 8<deep then(false,left-1)else if left-1<0 then(false,left-1)else
  match szL (deep+1) v.l (left-1)with
   |(false,r)=>(false,r)
   |(true,r)=>szF (deep+1) v.f r:=by
 cases v;simp only[szV,Val.l,Val.f]
def z0b:q0l:=
 .seq (.reg [⟨some 3,.box (.t 0),none⟩,Qx 6 KF]) (.seq (.reg [Qc 11 2,Q 12 (.nck (.t 11)),Q 13 (.ld false 1 (.t 12)),Q 14 (.bin .sub (.t 13) (Ki 1)),Q 15 (.nck (.t 11)), 
 ⟨none,.st 1 (.t 15) (.t 14),none⟩]) (.seq (.seq (.reg [Qc 16 1,Q 17 (.bin .gtr (.t 16) (Ki 8)),Qc 18 17,Qd 19 2 18 false,Qg 20 (.nck (.t 19)) 18 false,Qg 21 (.ld false 1 
 (.t 20)) 18 false,Qg 22 (.bin .lss (.t 21) (Ki 0)) 18 false,Q 23 (.pick (.t 18) KT (.t 22))]) (.cond (.t 23) (.seq (.reg [Qx 6 KF]) .ret) .skip)) (.seq (.seq (.reg [Q 24 (.fa 3 
 (.t 3)),Q 25 (.ld false 1 (.t 24)),Q 26 (.len false (.t 25)),Q 27 (.cp (Ki 0))]) (.block 0 (.loop (.seq (.reg [Q 28 (.bin .lss (.t 27) (.t 26))]) (.seq (.cond (.t 28) .skip 
 (.exit 0)) (.seq (.block 1 (.seq (.reg [Q 29 (.ia 5 (.t 25) (.t 27)),Q 30 (.ld true 5 (.t 29)),⟨some 8,.allo [.int .i64 0,.int .i64 0,.str [],.list [],.list []],none⟩, 
 ⟨none,.st 5 (.t 8) (.t 30),none⟩]) (.seq (.reg [Q 31 (.ld true 5 (.t 8)),Qc 32 1,Q 33 (.bin .add (.t 32) (Ki 1)),Qc 34 2,⟨some 35,.prim .call [.k (.fn (.func 84) [] []), 
 .t 31,.t 33,.t 34] [],none⟩,Q 36 (.not (.t 35))]) (.cond (.t 36) (.seq (.reg [Qx 6 KF]) .ret) .skip)))) (.reg [Q 37 (.bin .add (.t 27) (Ki 1)),Qc 27 37]))))))) (.seq (.seq 
 (.reg [Q 38 (.fa 4 (.t 3)),Q 39 (.ld false 1 (.t 38)),Q 40 (.len false (.t 39)),Q 41 (.cp (Ki 0))]) (.block 2 (.loop (.seq (.reg [Q 42 (.bin .lss (.t 41) (.t 40))]) (.seq 
 (.cond (.t 42) .skip (.exit 2)) (.seq (.block 3 (.seq (.reg [Q 43 (.ia 6 (.t 39) (.t 41)),Q 44 (.ld true 6 (.t 43)),⟨some 10,.allo [.str [],.int .i64 0,.int .i64 0,.str [], 
 .list [],.list []],none⟩,⟨none,.st 6 (.t 10) (.t 44),none⟩]) (.seq (.reg [Q 45 (.fa 1 (.t 10)),Q 46 (.ld true 5 (.t 45)),Qc 47 1,Q 48 (.bin .add (.t 47) (Ki 1)),Qc 49 2, 
 ⟨some 50,.prim .call [.k (.fn (.func 84) [] []),.t 46,.t 48,.t 49] [],none⟩,Q 51 (.not (.t 50))]) (.cond (.t 51) (.seq (.reg [Qx 6 KF]) .ret) .skip)))) (.reg [Q 52 (.bin 
 .add (.t 41) (Ki 1)),Qc 41 52]))))))) (.seq (.reg [Qx 6 KT]) .ret)))))
def z0k:List LRes:=[.tmp 6]
theorem z1O:q0E Tryz.prog 84 53 z0b z0k:=⟨_,_,Tryz.func84,rfl,by kernel_rfl,by kernel_rfl,rfl⟩
theorem j2D:∀(m:Nat) (v:Val),SizeOf.sizeOf v≤m→∀(deep:Nat) (left:Int),1≤deep→deep≤9→0≤left→left≤300→v.sm 1048576=true→
  q1c Tryz.prog 84 [.d v.d,.d (.int .i64 deep),.ptr (.x 0) 0] [.cells [.d (.int .i64 left)]] (.d (.bool (szV deep v left).1)) [.cells [.d (.int .i64 (szV deep v left).2)]]:=by
 intro m;induction m with
 |zero=>intro v h;cases v;simp at h
 |succ m ih=>
  intro v hv deep left hd1 hd2 hl1 hl2 hsm;obtain⟨_,hll,hfl,hsl,hsf⟩:=Val.q1Q.1 hsm;have hvl:=q0Z v.l;have hfl':=q0R v.f;generalize hR:szV deep v left=R;rw[j7f]at hR;rw[Val.d_eq];refine z1O.q0G (by kernel_rfl) rfl ?_;simp(disch:=omega)only[go_sem,↓reduceIte,z0b,z0k];refine⟨fun h8=>⟨fun h0=>?_,fun h0=>?_⟩,fun h8=>?_⟩
  ·rw[if_neg (by omega),if_pos (by omega)]at hR;subst hR;exact⟨rfl,rfl⟩
  ·rw[if_neg (by omega),if_neg (by omega)]at hR;refine q0n (fun y:Nat×Int=>⟨[(1,.d (.int .i64 deep)),(2,.ptr (.x 0) 0),(3,.ptr (.l 3) 0),(25,.d (.list (q0u v.l))),(26,.d (.int .i64 (q0u v.l).length)),(27,.d (.int .i64 y.1))],
     [(3,.cells [.d (.int .i64 v.kind),.d (.int .i64 v.n),.d (.str v.s),.d (.list (q0u v.l)),.d (.list (q0k v.f))])],[(0,.cells [.d (.int .i64 y.2)])]⟩)
    (fun y=>y.1≤v.l.length∧0≤y.2∧y.2≤300∧(match szL (deep+1) (v.l.drop y.1) y.2 with
     |(false,r)=>(false,r)
     |(true,r)=>szF (deep+1) v.f r)=R) (fun y=>v.l.length-y.1) (0,left-1) ?_ ?_ ?_
   ·refine Weak.mk ?_ ?_ ?_<;>simp only[go_sem,↓reduceIte,Sub,Zab,Zac]
   ·exact⟨by simp,by simp only;omega,by simp only;omega,by simpa using hR⟩
   ·rintro⟨i,q⟩ ⟨hi,hq1,hq2,hF⟩;simp only at hi hq1 hq2 hF;simp only[go_sem,↓reduceIte,hvl];refine⟨fun hlt=>?_,fun hge=>?_⟩
    ·obtain⟨x,hx⟩:=get_some (l:=v.l) (i:=i) (by omega);rw[q1w hx]at hF;have hc:=ih x (by have:=z2h (Zae hx);omega) (deep+1) q (by omega) (by omega) hq1 hq2 (hsl x (Zae hx));have hbd:=z86 (deep+1) x q hq1;unfold szL at hF;rw[Val.d_eq]at hc;generalize hS:szV (deep+1) x q=S at hc hbd hF;obtain⟨sb,sq⟩:=S;simp only[Zab,Zde]at hc;simp(disch:=omega)only[go_sem,↓reduceIte,q0g,q4g,hx,Val.d_eq];refine q0b.mc1 (.x 0) rfl (hc) rfl rfl rfl rfl ⟨rfl,rfl⟩ ?_;cases sb
     ·simp only at hF;subst hF;simp only[go_sem,↓reduceIte]
     ·simp only at hF hbd;simp(disch:=omega)only[go_sem,↓reduceIte];refine⟨(i+1,sq),?_,⟨by simp only;omega,by simp only;exact hbd.2.2 trivial,by simp only;omega,hF⟩,by simp only;omega⟩;refine Weak.mk ?_ ?_ ?_<;>simp only[go_sem,↓reduceIte,Sub,Zab,Zac,hvl]
    ·have h0':v.l.drop i=[]:=Zao (by omega);rw[h0']at hF;simp only[szL]at hF;refine q0n (fun y:Nat×Int=>⟨[(1,.d (.int .i64 deep)),(2,.ptr (.x 0) 0),(3,.ptr (.l 3) 0),(39,.d (.list (q0k v.f))),(40,.d (.int .i64 (q0k v.f).length)),(41,.d (.int .i64 y.1))],
       [(3,.cells [.d (.int .i64 v.kind),.d (.int .i64 v.n),.d (.str v.s),.d (.list (q0u v.l)),.d (.list (q0k v.f))])],[(0,.cells [.d (.int .i64 y.2)])]⟩)
      (fun y=>y.1≤v.f.length∧0≤y.2∧y.2≤300∧szF (deep+1) (v.f.drop y.1) y.2=R) (fun y=>v.f.length-y.1) (0,q) ?_ ?_ ?_
     ·refine Weak.mk ?_ ?_ ?_<;>simp only[go_sem,↓reduceIte,Sub,Zab,Zac]
     ·exact⟨by simp,hq1,hq2,by simpa using hF⟩
     ·rintro⟨j,q'⟩ ⟨hj,hr1,hr2,hG⟩;simp only at hj hr1 hr2 hG;simp only[go_sem,↓reduceIte,hfl'];refine⟨fun hlt=>?_,fun hge=>?_⟩
      ·obtain⟨x,hx⟩:=get_some (l:=v.f) (i:=j) (by omega);rw[q1w hx]at hG;have hc:=ih x.v (by have:=z2g (Zae hx);omega) (deep+1) q' (by omega) (by omega) hr1 hr2 (Fld.q1Q.1 (hsf x (Zae hx))).2;have hbd:=z86 (deep+1) x.v q' hr1;have hG':(match szV (deep+1) x.v q' with
         |(false,q)=>(false,q)
         |(true,q)=>szF (deep+1) (v.f.drop (j+1)) q)=R:=by
        rw[←hG];cases x;simp only[szF,Fld.v]
       rw[Val.d_eq]at hc;generalize hS:szV (deep+1) x.v q'=S at hc hbd hG';obtain⟨sb,sq⟩:=S;simp only[Zab,Zde]at hc;simp(disch:=omega)only[go_sem,↓reduceIte,q0g,q07,hx,Fld.d_eq];refine q0b.mc1 (.x 0) rfl (hc) rfl rfl rfl rfl ⟨rfl,rfl⟩ ?_;cases sb
       ·simp only at hG';subst hG';simp only[go_sem,↓reduceIte]
       ·simp only at hG' hbd;simp(disch:=omega)only[go_sem,↓reduceIte];refine⟨(j+1,sq),?_,⟨by simp only;omega,by simp only;exact hbd.2.2 trivial,by simp only;omega,hG'⟩,by simp only;omega⟩;refine Weak.mk ?_ ?_ ?_<;>simp only[go_sem,↓reduceIte,Sub,Zab,Zac,hfl']
      ·have h0':v.f.drop j=[]:=Zao (by omega);rw[h0']at hG;simp only[szF]at hG;subst hG;simp only[go_sem,↓reduceIte]
  ·rw[if_pos (by omega)]at hR;subst hR;exact⟨rfl,rfl⟩
def q7U:q0l:=
 .seq (.reg [Qx 2 (.k (.d .nil))]) (.seq (.seq (.reg [Qc 3 0,Q 4 (.bin .lss (.t 3) (Ki (-1000000000))),Qc 5 4,Qd 6 0 5 false,Qg 7 (.bin .gtr (.t 6) (Ki 1000000000)) 5 false,Q 8 
 (.pick (.t 5) KT (.t 7))]) (.cond (.t 8) (.seq (.reg [Q 9 (.mkI 49 (Ki 1)),Qa 2 9]) .ret) .skip)) (.seq (.reg [Qx 2 (.k (.d .nil))]) .ret))
def q7Z:List LRes:=[.tmp 2]
theorem q7I:q0E Tryz.prog 111 10 q7U q7Z:=⟨_,_,Tryz.func111,rfl,by kernel_rfl,by kernel_rfl,rfl⟩
/-! ### What they say -/
def err(k:Int):D:=.iface 49 (.int .i64 k)
def Lim(n:Int):Prop := -1000000000≤n∧n≤1000000000
instance (n:Int):Decidable (Lim n):=inferInstanceAs (Decidable (_∧_))
def I(n:Int):D:=.int .i64 n
def i64(n:Int):Prop := -9223372036854775808≤n∧n≤9223372036854775807
theorem z7Y{n:Int}(h:Lim n):q0y Tryz.prog 111 [.int .i64 n] (fun r=>r=.one .nil):=by
 refine q7I.call rfl ?_;simp only[go_sem,↓reduceIte,q7U,q7Z];unfold Lim at h;refine⟨fun a b=>?_,fun a=>?_⟩<;>exfalso<;>omega
theorem z5d{n:Int}(h:¬Lim n):q0y Tryz.prog 111 [.int .i64 n] (fun r=>r=.one (err 1)):=by
 refine q7I.call rfl ?_;simp only[go_sem,↓reduceIte,q7U,q7Z];unfold Lim at h;refine⟨fun a=>⟨fun b=>?_,fun b=>?_⟩,fun a=>?_⟩<;>first|rfl|(exfalso;omega)
def q0B:q0l:=
 .seq (.reg [Qx 4 (Ki 0)]) (.seq (.seq (.reg [Qc 6 0,Q 7 (.len false (.t 6)),Q 8 (.cp (Ki 0))]) (.block 0 (.loop (.seq (.reg [Q 9 (.bin .lss (.t 8) (.t 7))]) (.seq (.cond (.t 9) 
 .skip (.exit 0)) (.seq (.block 1 (.seq (.reg [Qc 10 8,Qa 5 10]) (.seq (.reg [Qc 11 1,Qc 12 0,Qc 13 5,Q 14 (.ia 5 (.t 12) (.t 13)),Q 15 (.ld true 5 (.t 14)),⟨some 16,.prim 
 .call [.t 11,.t 15] [],none⟩]) (.cond (.t 16) (.seq (.reg [Qc 17 5,Qa 4 17]) .ret) .skip)))) (.reg [Q 18 (.bin .add (.t 8) (Ki 1)),Qc 8 18]))))))) (.seq (.reg [Qx 4 (Ki 
 (-1))]) .ret))
def q0C:List LRes:=[.tmp 4]
theorem q04:q0E Tryz.prog 130 19 q0B q0C:=⟨_,_,Tryz.func130,rfl,by kernel_rfl,by kernel_rfl,rfl⟩
theorem z2x(g:Nat)(hg:q3L Tryz.prog g=true)(l:List Val)(hl:l.length≤1000000000)(p:Val→Bool)(hp:∀x∈l,q0y Tryz.prog g [x.d] (fun r=>r=.one (.bool (p x)))):
  q1c Tryz.prog 130 [.d (.list (q0u l)),.fn (.func g) [] []] [] (.d (.int .i64 (match l.findIdx? p with|some i=>(i:Int)|none => -1))) []:=by
 have hll:=q0Z l;refine q04.q0G (by kernel_rfl) rfl ?_;simp only[go_sem,↓reduceIte,q0B,q0C];refine q0n (fun i:Nat=>⟨[(0,.d (.list (q0u l))),(1,.fn (.func g) [] []),(7,.d (.int .i64 (q0u l).length)),(8,.d (.int .i64 i))],[],[]⟩)
  (fun i=>i≤l.length∧∀j,j<i→∀x,l[j]?=some x→p x=false) (fun i=>l.length-i) 0 ?_ ?_ ?_
 ·refine Weak.mk ?_ ?_ ?_<;>simp only[go_sem,↓reduceIte,Sub,Zab,Zac]
 ·exact⟨by simp,fun j hj=>absurd hj (by simp)⟩
 ·rintro i ⟨hi,hn⟩;simp only[go_sem,↓reduceIte,hll];refine⟨fun hlt=>?_,fun hge=>?_⟩
  ·obtain⟨x,hx⟩:=get_some (l:=l) (i:=i) (by omega);have hc:=(hp x (Zae hx)).q4s hg;simp only[Zbf,Zce,Res.av]at hc;rw[Val.d_eq]at hc;simp(disch:=omega)only[go_sem,↓reduceIte,q0g,q4g,hx,Val.d_eq];refine q0b.q0G ([]) ([]) rfl (hc) rfl rfl (by simp only[q1b,St.obj,aget,AObj.ren,AV.ren,AV.ren1,renL,q2u,renR,renQ,Zaw,Zax,and_true,and_self,Nat.reduceEqDiff,↓reduceIte,reduceCtorEq]) rfl rfl rfl ⟨rfl,rfl⟩ ?_;cases hpx:p x
   ·simp(disch:=omega)only[go_sem,↓reduceIte];refine⟨i+1,?_,⟨by omega,fun j hj y hy=>?_⟩,by omega⟩
    ·refine Weak.mk ?_ ?_ ?_<;>simp only[go_sem,↓reduceIte,Sub,Zab,Zac,hll]
    ·rcases Zbq j i with h|h
     ·exact hn j h y hy
     ·have:j=i:=by omega
      subst this;rw[hx]at hy;cases hy;exact hpx
   ·simp only[go_sem,↓reduceIte];have:l.findIdx? p=some i:=by
     rw[List.findIdx?_eq_some_iff_getElem];obtain⟨h1,h2⟩:=Zaa.1 hx;refine⟨h1,by rw[h2];exact hpx,fun j hj=>?_⟩;have:=hn j hj _ (Zak (by omega));simp[this]
    rw[this]
  ·have:l.findIdx? p=none:=by
    rw[List.findIdx?_eq_none_iff];intro x hx;obtain⟨j,hj⟩:=Zbl hx;exact hn j (by have:=(Zaa.1 hj).1;omega) x hj
   rw[this]
def q0z:q0l:=
 .seq (.reg [Qx 4 KF]) (.seq (.reg [Qc 5 0,Qc 6 1,⟨some 7,.prim .call [.k (.fn (.func 130) [] []),.t 5,.t 6] [],none⟩,Q 8 (.bin .geq (.t 7) (Ki 0)),Qa 4 8]) .ret)
def q0A:List LRes:=[.tmp 4]
theorem q0W:q0E Tryz.prog 112 9 q0z q0A:=⟨_,_,Tryz.func112,rfl,by kernel_rfl,by kernel_rfl,rfl⟩
theorem q9w(g:Nat)(hg:q3L Tryz.prog g=true)(l:List Val)(hl:l.length≤1000000000)(p:Val→Bool)(hp:∀x∈l,q0y Tryz.prog g [x.d] (fun r=>r=.one (.bool (p x)))):
  q1c Tryz.prog 112 [.d (.list (q0u l)),.fn (.func g) [] []] [] (.d (.bool (l.any p))) []:=by
 have hany:(match l.findIdx? p with|some i=>decide (0≤(i:Int))|none=>false)=l.any p:=by
  cases h:l.findIdx? p with
  |none=>
   rw[List.findIdx?_eq_none_iff]at h;simp only[Bool.false_eq];rw[Zby];exact fun x hx=>by simp[h x hx]
  |some i=>
   rw[List.findIdx?_eq_some_iff_getElem]at h;obtain⟨h1,h2,_⟩:=h;have:l.any p=true:=Zbr.2 ⟨_,List.getElem_mem h1,h2⟩;rw[this];simp
 refine q0W.q0G (by kernel_rfl) rfl ?_;simp only[go_sem,↓reduceIte,q0z,q0A];refine q0b.q0G ([]) ([]) rfl (z2x g hg l hl p hp) rfl rfl (by simp only[q1b,St.obj,aget,AObj.ren,AV.ren,AV.ren1,renL,q2u,renR,renQ,Zaw,Zax,and_true,and_self,Nat.reduceEqDiff,↓reduceIte,reduceCtorEq]) rfl rfl rfl ⟨rfl,rfl⟩ ?_
 simp only[go_sem,↓reduceIte];rw[←hany];cases l.findIdx? p<;>simp
mutual
def q12:Val→Bool
 |.mk k n s l f=>
  let n0:=decide (n=0)
  let s0:=decide (s=[])
  let l0:=decide (l.length=0)
  let f0:=decide (f.length=0)
  if k=0 then n0&&(s0&&(l0&&f0))
  else if k=1 then(decide (n=0) || decide (n=1))&&(s0&&(l0&&f0))
  else if k=2 then decide (Lim n)&&(s0&&(l0&&f0))
  else if k=3 then n0&&(decide (s.length≤200)&&(l0&&f0))
  else if k=4 then n0&&(q1A s&&(l0&&f0))
  else if k=5 then n0&&(s0&&(j2U l&&f0))
  else if k=6 then n0&&(s0&&(l0&&q6z none f))
  else if k=7 then decide (1≤n∧n≤60)&&(s0&&(l0&&f0))
  else false
def j2U:List Val→Bool
 |[]=>true
 |v::r=>q12 v&&j2U r
def q6z(p:Option (List UInt8)):List Fld→Bool
 |[]=>true
 |.mk nm v::r=>(q1A nm&&(q12 v&&(match p with|some q=>Op.bytesLess q nm|none=>true)))&&q6z (some nm) r
end
theorem z9c(l:List Val):j2U l = !l.any (fun v => !q12 v):=by
 induction l with
 |nil=>rfl
 |cons v r ih=>simp[j2U,ih]
theorem q2Y(v:Val):q12 v=(
  let n0:=decide (v.n=0)
  let s0:=decide (v.s=[])
  let l0:=decide (v.l.length=0)
  let f0:=decide (v.f.length=0)
  if v.kind=0 then n0&&(s0&&(l0&&f0))
  else if v.kind=1 then(decide (v.n=0) || decide (v.n=1))&&(s0&&(l0&&f0))
  else if v.kind=2 then decide (Lim v.n)&&(s0&&(l0&&f0))
  else if v.kind=3 then n0&&(decide (v.s.length≤200)&&(l0&&f0))
  else if v.kind=4 then n0&&(q1A v.s&&(l0&&f0))
  else if v.kind=5 then n0&&(s0&&(j2U v.l&&f0))
  else if v.kind=6 then n0&&(s0&&(l0&&q6z none v.f))
  else if v.kind=7 then decide (1≤v.n∧v.n≤60)&&(s0&&(l0&&f0))
  else false):=by cases v;unfold q12;rfl
theorem j0c{p:Option (List UInt8)}{l:List Fld}{x:Fld}:q6z p (l++[x])=(q6z p l&&(q1A x.name&&(q12 x.v&&(match(l.getLast?.map Fld.name).or p with|some q=>Op.bytesLess q x.name|none=>true)))):=by
 induction l generalizing p with
 |nil=>cases x;simp[q6z,Fld.name,Fld.v]
 |cons y r ih=>
  cases y with
  |mk nm v=>
   simp only[Zba,q6z,ih,Bool.and_assoc];cases r with
   |nil=>simp[Fld.name]
   |cons z r=>
    have h1:∀q:Option (List UInt8),((z::r).getLast?.map Fld.name).or q=(z::r).getLast?.map Fld.name:=fun q=>by
     rw[List.getLast?_eq_some_getLast (by simp)];rfl
    have h2:(Fld.mk nm v::z::r).getLast?=(z::r).getLast?:=List.getLast?_cons_cons;rw[h2,h1,h1]
theorem j0d{l:List Fld}{i:Nat}{x:Fld}(hx:l[i]?=some x):q6z none (l.take (i+1))=(q6z none (l.take i)&&(q1A x.name&&(q12 x.v&&(match l[i-1]? with|some y=>if i=0 then true else Op.bytesLess y.name x.name|none=>true)))):=by
 have hl:i<l.length:=(Zaa.1 hx).1;rw[Zcd,hx];simp only[Option.toList_some];rw[j0c];congr 3
 by_cases h0:i=0
 ·subst h0;simp;cases l[0]?<;>rfl
 ·have:(l.take i).getLast?=l[i-1]?:=by
   rw[List.getLast?_eq_getElem?,Zaq,Zbg];have:min i l.length=i:=by omega
   rw[this,if_pos (by omega)]
  rw[this];cases hy:l[i-1]? with
  |none=>rfl
  |some y=>simp[h0]
theorem kinds(k:Int):k=0∨k=1∨k=2∨k=3∨k=4∨k=5∨k=6∨k=7∨(k≠0∧k≠1∧k≠2∧k≠3∧k≠4∧k≠5∧k≠6∧k≠7):=by omega
def q1x:q0l:=
 .seq (.reg [⟨some 1,.box (.t 0),none⟩,Qx 2 KF]) (.seq (.dreg [Q 9 (.fa 1 (.t 1)),Q 10 (.ld false 1 (.t 9)),Q 11 (.bin .eql (.t 10) (Ki 0)),Q 12 (.fa 2 (.t 1)),Q 13 (.ld 
 false 1 (.t 12)),Q 14 (.bin .eql (.t 13) (.k (.d (.str [])))),Q 15 (.fa 3 (.t 1)),Q 16 (.ld false 1 (.t 15)),Q 17 (.len false (.t 16)),Q 18 (.bin .eql (.t 17) (Ki 0)),Q 19 
 (.fa 4 (.t 1)),Q 20 (.ld false 1 (.t 19)),Q 21 (.len false (.t 20)),Q 22 (.bin .eql (.t 21) (Ki 0)),Qc 3 11,Qc 4 14,Qc 5 18,Qc 6 22]) (.seq (.seq (.reg [Q 23 (.fa 0 (.t 
 1)),Q 24 (.ld false 1 (.t 23))]) (.block 0 (.seq (.reg [Q 26 (.bin .eql (.t 24) (Ki 0)),Qa 25 26]) (.cond (.t 25) .skip (.seq (.reg [Q 28 (.bin .eql (.t 24) (Ki 1)),Qa 27 28]) 
 (.cond (.t 27) (.reg [Q 29 (.fa 1 (.t 1)),Q 30 (.ld false 1 (.t 29)),Q 31 (.bin .eql (.t 30) (Ki 0)),Qc 32 31,Qg 33 (.fa 1 (.t 1)) 32 false,Qg 34 (.ld false 1 (.t 33)) 32 
 false,Qg 35 (.bin .eql (.t 34) (Ki 1)) 32 false,Q 36 (.pick (.t 32) KT (.t 35)),Qa 3 36]) (.seq (.reg [Q 38 (.bin .eql (.t 24) (Ki 2)),Qa 37 38]) (.cond (.t 37) (.reg [Q 39 
 (.fa 1 (.t 1)),Q 40 (.ld false 1 (.t 39)),⟨some 41,.call 111 [.t 40],none⟩,Q 42 (.eqN 0 false (.t 41)),Qa 3 42]) (.seq (.reg [Q 44 (.bin .eql (.t 24) (Ki 3)),Qa 43 44]) 
 (.cond (.t 43) (.reg [Q 45 (.fa 2 (.t 1)),Q 46 (.ld false 1 (.t 45)),Q 47 (.len true (.t 46)),Q 48 (.bin .leq (.t 47) (Ki 200)),Qa 4 48]) (.seq (.reg [Q 50 (.bin .eql (.t 24) 
 (Ki 4)),Qa 49 50]) (.cond (.t 49) (.reg [Q 51 (.fa 2 (.t 1)),Q 52 (.ld false 1 (.t 51)),⟨some 53,.call 107 [.t 52],none⟩,Qa 4 53]) (.seq (.reg [Q 55 (.bin .eql (.t 24) (Ki 
 5)),Qa 54 55]) (.cond (.t 54) (.reg [Q 56 (.fa 3 (.t 1)),Q 57 (.ld false 1 (.t 56)),⟨some 58,.prim .call [.k (.fn (.func 112) [] []),.t 57,.k (.fn (.func 113) [] [])] [], 
 none⟩,Q 59 (.not (.t 58)),Qa 5 59]) (.seq (.reg [Q 61 (.bin .eql (.t 24) (Ki 6)),Qa 60 61]) (.cond (.t 60) (.seq (.reg [Q 62 (.fa 4 (.t 1)),Q 63 (.ld false 1 (.t 62)),Q 64 
 (.len false (.t 63)),Q 65 (.cp (Ki 0))]) (.block 1 (.loop (.seq (.reg [Q 66 (.bin .lss (.t 65) (.t 64))]) (.seq (.cond (.t 66) .skip (.exit 1)) (.seq (.block 2 (.seq (.reg [Qc 
 67 65,Q 68 (.ia 6 (.t 63) (.t 65)),Q 69 (.ld true 6 (.t 68)),⟨some 8,.allo [.str [],.int .i64 0,.int .i64 0,.str [],.list [],.list []],none⟩,Qa 7 67,⟨none,.st 6 (.t 
 8) (.t 69),none⟩]) (.dreg [Qc 70 7,Q 71 (.bin .eql (.t 70) (Ki 0)),Qc 72 71,Qd 73 6 72 false,Q 74 (.pick (.t 72) KT (.t 73)),Qc 75 74,Qg 76 (.fa 0 (.t 8)) 75 true,Qg 77 
 (.ld false 1 (.t 76)) 75 true,⟨some 78,.call 107 [.t 77],some (75,true)⟩,Q 79 (.pick (.t 75) (.t 78) KF),Qc 80 79,Qg 81 (.fa 1 (.t 8)) 80 true,Qg 82 (.ld true 5 (.t 81)) 
 80 true,⟨some 83,.call 85 [.t 82],some (80,true)⟩,Q 84 (.pick (.t 80) (.t 83) KF),Qc 85 84,Qd 86 7 85 true,Qg 87 (.bin .eql (.t 86) (Ki 0)) 85 true,Qd 88 87 85 true,Qg 
 89 (.fa 4 (.t 1)) 88 false,Qg 90 (.ld false 1 (.t 89)) 88 false,Qd 91 7 88 false,Qg 92 (.bin .sub (.t 91) (Ki 1)) 88 false,Qg 93 (.ia 6 (.t 90) (.t 92)) 88 false,Qg 94 (.fa 
 0 (.t 93)) 88 false,Qg 95 (.ld false 1 (.t 94)) 88 false,Qg 96 (.fa 0 (.t 8)) 88 false,Qg 97 (.ld false 1 (.t 96)) 88 false,Qg 98 (.bin .lss (.t 95) (.t 97)) 88 false,Qg 99 
 (.pick (.t 88) KT (.t 98)) 85 true,Q 100 (.pick (.t 85) (.t 99) KF),Qa 6 100]))) (.reg [Q 101 (.bin .add (.t 65) (Ki 1)),Qc 65 101]))))))) (.seq (.reg [Q 103 (.bin .eql (.t 
 24) (Ki 7)),Qa 102 103]) (.cond (.t 102) (.reg [Q 104 (.fa 1 (.t 1)),Q 105 (.ld false 1 (.t 104)),Q 106 (.bin .geq (.t 105) (Ki 1)),Qc 107 106,Qg 108 (.fa 1 (.t 1)) 107 
 true,Qg 109 (.ld false 1 (.t 108)) 107 true,Qg 110 (.bin .leq (.t 109) (Ki 60)) 107 true,Q 111 (.pick (.t 107) (.t 110) KF),Qa 3 111]) (.seq (.reg [Qx 2 KF]) 
 .ret))))))))))))))))))) (.seq (.reg [Qc 112 3,Qc 113 112,Qd 114 4 113 true,Q 115 (.pick (.t 113) (.t 114) KF),Qc 116 115,Qd 117 5 116 true,Q 118 (.pick (.t 116) (.t 117) 
 KF),Qc 119 118,Qd 120 6 119 true,Q 121 (.pick (.t 119) (.t 120) KF),Qa 2 121]) .ret)))
def q1y:List LRes:=[.tmp 2]
theorem q1e:q0E Tryz.prog 85 122 q1x q1y:=⟨_,_,Tryz.func85,rfl,by kernel_rfl,by kernel_rfl,rfl⟩
def q7B:q0l:=
 .seq (.reg [⟨some 1,.box (.t 0),none⟩,Qx 2 KF]) (.seq (.reg [Q 3 (.ld true 5 (.t 1)),⟨some 4,.call 85 [.t 3],none⟩,Q 5 (.not (.t 4)),Qa 2 5]) .ret)
def q7D:List LRes:=[.tmp 2]
theorem q9I:q0E Tryz.prog 113 6 q7B q7D:=⟨_,_,Tryz.func113,rfl,by kernel_rfl,by kernel_rfl,rfl⟩
theorem j2W:∀(m:Nat) (v:Val),SizeOf.sizeOf v≤m→v.sm 1048576=true→q0y Tryz.prog 85 [v.d] (fun r=>r=.one (.bool (q12 v))):=by
 intro m;induction m with
 |zero=>intro v h;cases v;simp at h
 |succ m ih=>
  intro v hv hsm;obtain⟨_,hll,hfl,hsl,hsf⟩:=Val.q1Q.1 hsm;have hvl:=q0Z v.l;have hfl':=q0R v.f;have hcl:∀x∈v.l,q0y Tryz.prog 113 [x.d] (fun r=>r=.one (.bool (!q12 x))):=fun x hx=>by
   have hc:=ih x (by have:=z2h hx;omega) (hsl x hx);rw[Val.d_eq]at hc ⊢;refine q9I.call rfl ?_;simp only[go_sem,↓reduceIte,q7B,q7D];refine q0j.of hc ?_;simp only[go_sem,↓reduceIte]
  generalize hR:q12 v=R;rw[q2Y]at hR;have cast0:∀a:Nat,((a:Int)=0)=(a=0):=fun a=>by apply propext;omega
  rw[Val.d_eq];rcases kinds v.kind with hk|hk|hk|hk|hk|hk|hk|hk|hk
  ·refine q1e.call rfl ?_;rw[hk]at hR;simp only[Int.reduceEq,↓reduceIte]at hR;simp only[go_sem,↓reduceIte,q1x,q1y,hk,hvl,hfl'];subst hR;simp only[cast0]
   by_cases c1:v.n=0<;>by_cases c2:v.s=[]<;>by_cases c3:v.l.length=0<;>by_cases c4:v.f.length=0<;>simp[c1,c2,c3,c4]
  ·refine q1e.call rfl ?_;rw[hk]at hR;simp only[Int.reduceEq,↓reduceIte]at hR;simp only[go_sem,↓reduceIte,q1x,q1y,hk,hvl,hfl'];subst hR;simp only[cast0]
   by_cases c1:v.n=0<;>by_cases c2:v.s=[]<;>by_cases c3:v.l.length=0<;>by_cases c4:v.f.length=0<;>simp[c1,c2,c3,c4]
  ·refine q1e.call rfl ?_;rw[hk]at hR;simp only[Int.reduceEq,↓reduceIte]at hR;simp only[go_sem,↓reduceIte,q1x,q1y,hk,hvl,hfl']
   by_cases hL:Lim v.n
   ·refine q0j.of (z7Y hL) ?_;simp only[go_sem,↓reduceIte];subst hR;simp only[cast0]
    by_cases c2:v.s=[]<;>by_cases c3:v.l.length=0<;>by_cases c4:v.f.length=0<;>simp[hL,c2,c3,c4]
   ·refine q0j.of (z5d hL) ?_;simp only[go_sem,↓reduceIte,err];subst hR;simp[hL]
  ·refine q1e.call rfl ?_;rw[hk]at hR;simp only[Int.reduceEq,↓reduceIte]at hR;simp only[go_sem,↓reduceIte,q1x,q1y,hk,hvl,hfl'];subst hR;simp only[cast0];have c5:((v.s.length:Int)≤200)=(v.s.length≤200):=by apply propext;omega
   simp only[c5]
   by_cases c1:v.n=0<;>by_cases c2:v.s.length≤200<;>by_cases c3:v.l.length=0<;>by_cases c4:v.f.length=0<;>simp[c1,c2,c3,c4]
  ·refine q1e.call rfl ?_;rw[hk]at hR;simp only[Int.reduceEq,↓reduceIte]at hR;simp only[go_sem,↓reduceIte,q1x,q1y,hk,hvl,hfl'];refine q0j.of (q64 v.s) ?_;simp only[go_sem,↓reduceIte];subst hR;simp only[cast0]
   by_cases c1:v.n=0<;>cases c2:q1A v.s<;>by_cases c3:v.l.length=0<;>by_cases c4:v.f.length=0<;>simp[c1,c3,c4]
  ·refine q1e.call rfl ?_;rw[hk]at hR;simp only[Int.reduceEq,↓reduceIte]at hR;simp only[go_sem,↓reduceIte,q1x,q1y,hk,hvl,hfl'];refine q0b.q0G ([]) ([]) rfl (q9w 113 (by kernel_rfl) v.l (by omega) _ hcl) rfl rfl (by simp only[q1b,St.obj,aget,AObj.ren,AV.ren,AV.ren1,renL,q2u,renR,renQ,Zaw,Zax,and_true,and_self,Nat.reduceEqDiff,↓reduceIte,reduceCtorEq]) rfl rfl rfl ⟨rfl,rfl⟩ ?_;simp only[go_sem,↓reduceIte];subst hR;rw[z9c];simp only[cast0]
   by_cases c1:v.n=0<;>by_cases c2:v.s=[]<;>cases c3:v.l.any (fun v => !q12 v)<;>by_cases c4:v.f.length=0<;>simp[c1,c2,c4]
  ·refine q1e.call rfl ?_;rw[hk]at hR;simp only[Int.reduceEq,↓reduceIte]at hR;simp only[go_sem,↓reduceIte,q1x,q1y,hk,hvl,hfl'];refine q0n (fun y:Nat×Bool=>⟨[(1,.ptr (.l 1) 0),(3,.d (.bool (decide (v.n=0)))),(4,.d (.bool (decide (v.s=[])))),(5,.d (.bool (decide ((v.l.length:Int)=0)))),(6,.d (.bool y.2)),(63,.d (.list (q0k v.f))),(64,.d (.int .i64 v.f.length)),(65,.d (.int .i64 y.1))],
     [(1,.cells [.d (.int .i64 6),.d (.int .i64 v.n),.d (.str v.s),.d (.list (q0u v.l)),.d (.list (q0k v.f))])],[]⟩)
    (fun y=>y.1≤v.f.length∧(y.1=0→y.2=decide (v.f.length=0))∧(y.1≠0→y.2=q6z none (v.f.take y.1))) (fun y=>v.f.length-y.1) (0,decide (v.f.length=0)) ?_ ?_ ?_
   ·refine Weak.mk ?_ ?_ ?_<;>simp only[go_sem,↓reduceIte,Sub,Zab,Zac,cast0]
   ·exact⟨by simp,fun _=>rfl,fun h=>absurd rfl h⟩
   ·rintro⟨i,fb⟩ ⟨hi,hz,hnz⟩;simp only at hi hz hnz;simp only[go_sem,↓reduceIte];refine⟨fun hlt=>?_,fun hge=>?_⟩
    ·obtain⟨x,hx⟩:=get_some (l:=v.f) (i:=i) (by omega);have hsx:=Fld.q1Q.1 (hsf x (Zae hx));have hc:=ih x.v (by have:=z2g (Zae hx);omega) hsx.2;have hn:=q64 x.name;rw[Val.d_eq]at hc;have hstep:q6z none (v.f.take (i+1))=(q6z none (v.f.take i)&&(q1A x.name&&(q12 x.v&&(match v.f[i-1]? with|some y=>if i=0 then true else Op.bytesLess y.name x.name|none=>true)))):=j0d hx;simp(disch:=omega)only[go_sem,↓reduceIte,q0g,q07,hx,Fld.d_eq]
     refine⟨fun g1=>?_,fun g1=>?_⟩
     ·have i0:i≠0:=by omega
      have hfb:=hnz i0;obtain⟨y,hy⟩:=get_some (l:=v.f) (i:=i-1) (by omega);have hgy:getI (q0k v.f) ((i:Int)-1)=some y.d:=by
       have:(i:Int)-1=((i-1:Nat):Int):=by omega
       rw[this,q0g,q07,hy];rfl
      rw[hy]at hstep;simp only[i0,if_false,←hfb]at hstep;refine⟨fun f1=>?_,fun f1=>?_⟩
      ·refine q1I.of hn ?_;simp(disch:=omega)only[go_sem,↓reduceIte];refine⟨fun n1=>?_,fun n1=>?_⟩
       ·refine q1I.of hc ?_;simp(disch:=omega)only[go_sem,↓reduceIte];refine⟨fun w1=>?_,fun w1=>?_⟩
        ·simp(disch:=omega)only[go_sem,↓reduceIte,g1,hgy,Fld.d_eq];refine⟨(i+1,Op.bytesLess y.name x.name),?_,⟨by simp only;omega,fun h=>absurd h (by simp),fun _=>?_⟩,by simp only;omega⟩
         ·refine Weak.mk ?_ ?_ ?_<;>simp only[go_sem,↓reduceIte,Sub,Zab,Zac]
         ·rw[hstep];simp[f1,n1,w1]
        ·refine⟨(i+1,false),?_,⟨by simp only;omega,fun h=>absurd h (by simp),fun _=>?_⟩,by simp only;omega⟩
         ·refine Weak.mk ?_ ?_ ?_<;>simp only[go_sem,↓reduceIte,Sub,Zab,Zac]
         ·rw[hstep];simp[w1]
       ·refine⟨(i+1,false),?_,⟨by simp only;omega,fun h=>absurd h (by simp),fun _=>?_⟩,by simp only;omega⟩
        ·refine Weak.mk ?_ ?_ ?_<;>simp only[go_sem,↓reduceIte,Sub,Zab,Zac]
        ·rw[hstep];simp[n1]
      ·refine⟨(i+1,false),?_,⟨by simp only;omega,fun h=>absurd h (by simp),fun _=>?_⟩,by simp only;omega⟩
       ·refine Weak.mk ?_ ?_ ?_<;>simp only[go_sem,↓reduceIte,Sub,Zab,Zac]
       ·rw[hstep];simp[f1]
     ·have i0:i=0:=by omega
      subst i0;refine q1I.of hn ?_;simp(disch:=omega)only[go_sem,↓reduceIte];refine⟨fun n1=>?_,fun n1=>?_⟩
      ·refine q1I.of hc ?_;simp(disch:=omega)only[go_sem,↓reduceIte];refine⟨fun w1=>?_,fun w1=>?_⟩
       ·skip
        refine⟨(1,true),?_,⟨by simp only;omega,fun h=>absurd h (by simp),fun _=>?_⟩,by simp only;omega⟩
        ·refine Weak.mk ?_ ?_ ?_<;>simp only[go_sem,↓reduceIte,Sub,Zab,Zac]
        ·rw[hstep];simp[n1,w1,q6z];cases v.f[0]?<;>rfl
       ·skip
        refine⟨(1,false),?_,⟨by simp only;omega,fun h=>absurd h (by simp),fun _=>?_⟩,by simp only;omega⟩
        ·refine Weak.mk ?_ ?_ ?_<;>simp only[go_sem,↓reduceIte,Sub,Zab,Zac]
        ·rw[hstep];simp[w1]
      ·skip
       refine⟨(1,false),?_,⟨by simp only;omega,fun h=>absurd h (by simp),fun _=>?_⟩,by simp only;omega⟩
       ·refine Weak.mk ?_ ?_ ?_<;>simp only[go_sem,↓reduceIte,Sub,Zab,Zac]
       ·rw[hstep];simp[n1]
    ·subst hR;have hfb:fb=q6z none v.f:=by
      by_cases i0:i=0
      ·have h0:v.f=[]:=by
        have:v.f.length=0:=by omega
        exact Zda.1 this
       rw[hz i0,h0];rfl
      ·rw[hnz i0,Zbs (by omega)]
     rw[hfb];simp only[cast0]
     by_cases c1:v.n=0<;>by_cases c2:v.s=[]<;>by_cases c3:v.l.length=0<;>simp[c1,c2,c3]
  ·refine q1e.call rfl ?_;rw[hk]at hR;simp only[Int.reduceEq,↓reduceIte]at hR;simp only[go_sem,↓reduceIte,q1x,q1y,hk,hvl,hfl'];subst hR;simp only[cast0]
   by_cases c1:1≤v.n<;>by_cases c5:v.n≤60<;>by_cases c2:v.s=[]<;>by_cases c3:v.l.length=0<;>by_cases c4:v.f.length=0<;>simp[c1,c2,c3,c4,c5]
  ·refine q1e.call rfl ?_;obtain⟨k0,k1,k2,k3,k4,k5,k6,k7⟩:=hk;rw[if_neg k0,if_neg k1,if_neg k2,if_neg k3,if_neg k4,if_neg k5,if_neg k6,if_neg k7]at hR;subst hR;simp only[go_sem,↓reduceIte,q1x,q1y,hvl,hfl',k0,k1,k2,k3,k4,k5,k6,k7]
mutual
def ptV:Val→Nat×Nat
 |.mk _ _ _ l f=>(1+(ptL l).1+(ptF f).1,max (ptL l).2 (ptF f).2+1)
def ptL:List Val→Nat×Nat
 |[]=>(0,0)
 |v::r=>((ptV v).1+(ptL r).1,max (ptV v).2 (ptL r).2)
def ptF:List Fld→Nat×Nat
 |[]=>(0,0)
 |.mk _ v::r=>((ptV v).1+(ptF r).1,max (ptV v).2 (ptF r).2)
end
theorem j45(v:Val):ptV v=(1+(ptL v.l).1+(ptF v.f).1,max (ptL v.l).2 (ptF v.f).2+1):=by cases v;simp only[ptV,Val.l,Val.f]
theorem q9a(x:Fld)(r:List Fld):ptF (x::r)=((ptV x.v).1+(ptF r).1,max (ptV x.v).2 (ptF r).2):=by cases x;simp only[ptF,Fld.v]
mutual
theorem q8j:∀(v:Val),1≤(ptV v).1∧1≤(ptV v).2
 |.mk k n s l f=>by simp only[ptV];omega
theorem j6Z:∀(l:List Val),(ptL l).1=0→(ptL l).2=0
 |[],_=>rfl
 |v::r,h=>by
  have:=q8j v;simp only[ptL]at h;omega
theorem j6Y:∀(l:List Fld),(ptF l).1=0→(ptF l).2=0
 |[],_=>rfl
 |.mk _ v::r,h=>by
  have:=q8j v;simp only[ptF]at h;omega
end
mutual
theorem j2K(deep:Nat):∀(v:Val) (left:Int),0≤left→((((ptV v).1:Int)≤left∧deep+(ptV v).2≤9)→szV deep v left=(true,left-(ptV v).1))∧(¬(((ptV v).1:Int)≤left∧deep+(ptV v).2≤9)→(szV deep v left).1=false)
 |.mk k n s l f,left,h=>by
  have hL:=j5e (deep+1) l;have hF:=j5c (deep+1) f;have e1:=j6Z l;have e2:=j6Y f;have e3:ptV (.mk k n s l f)=(1+(ptL l).1+(ptF f).1,max (ptL l).2 (ptF f).2+1):=by simp only[ptV]
  rw[e3];generalize hA:ptL l=A at *;generalize hB:ptF f=B at *;obtain⟨a1,a2⟩:=A;obtain⟨b1,b2⟩:=B;simp only at *;unfold szV
  by_cases h8:8<deep
  ·rw[if_pos h8];exact⟨fun c=>by exfalso;omega,fun _=>rfl⟩
  ·rw[if_neg h8]
   by_cases h0:left-1<0
   ·rw[if_pos h0];exact⟨fun c=>by exfalso;omega,fun _=>rfl⟩
   ·rw[if_neg h0];obtain⟨g1,g2⟩:=hL (left-1) (by omega)
    by_cases c1:((a1:Int)≤left-1∧(a1=0∨deep+1+a2≤9))
    ·rw[g1 c1];simp only;obtain⟨g3,g4⟩:=hF (left-1-a1) (by omega)
     by_cases c2:((b1:Int)≤left-1-a1∧(b1=0∨deep+1+b2≤9))
     ·refine⟨fun _=>?_,fun c=>by exfalso;omega⟩;rw[g3 c2];congr 1;omega
     ·exact⟨fun c=>by exfalso;omega,fun _=>g4 c2⟩
    ·refine⟨fun c=>by exfalso;omega,fun _=>?_⟩;have:=g2 c1;generalize szL (deep+1) l (left-1)=Z at this;obtain⟨z1,z2⟩:=Z;simp only at this;subst this;rfl
theorem j5e(deep:Nat):∀(l:List Val) (left:Int),0≤left→((((ptL l).1:Int)≤left∧((ptL l).1=0∨deep+(ptL l).2≤9))→szL deep l left=(true,left-(ptL l).1))∧(¬(((ptL l).1:Int)≤left∧((ptL l).1=0∨deep+(ptL l).2≤9))→(szL deep l left).1=false)
 |[],left,h=>by simp[szL,ptL];omega
 |v::r,left,h=>by
  obtain⟨g1,g2⟩:=j2K deep v left h;have h2:=j5e deep r;have hp:=q8j v;have hz:=j6Z r;have e3:ptL (v::r)=((ptV v).1+(ptL r).1,max (ptV v).2 (ptL r).2):=by simp only[ptL]
  rw[e3];generalize hA:ptV v=A at *;generalize hB:ptL r=B at *;obtain⟨a1,a2⟩:=A;obtain⟨b1,b2⟩:=B;simp only at *;unfold szL
  by_cases c1:((a1:Int)≤left∧deep+a2≤9)
  ·rw[g1 c1];simp only;obtain⟨g3,g4⟩:=h2 (left-a1) (by omega)
   by_cases c2:((b1:Int)≤left-a1∧(b1=0∨deep+b2≤9))
   ·refine⟨fun _=>?_,fun c=>by exfalso;omega⟩;rw[g3 c2];congr 1;omega
   ·exact⟨fun c=>by exfalso;omega,fun _=>g4 c2⟩
  ·refine⟨fun c=>by exfalso;omega,fun _=>?_⟩;have:=g2 c1;generalize szV deep v left=Z at this;obtain⟨z1,z2⟩:=Z;simp only at this;subst this;rfl
theorem j5c(deep:Nat):∀(l:List Fld) (left:Int),0≤left→((((ptF l).1:Int)≤left∧((ptF l).1=0∨deep+(ptF l).2≤9))→szF deep l left=(true,left-(ptF l).1))∧(¬(((ptF l).1:Int)≤left∧((ptF l).1=0∨deep+(ptF l).2≤9))→(szF deep l left).1=false)
 |[],left,h=>by simp[szF,ptF];omega
 |.mk nm v::r,left,h=>by
  obtain⟨g1,g2⟩:=j2K deep v left h;have h2:=j5c deep r;have hp:=q8j v;have hz:=j6Y r;have e3:ptF (.mk nm v::r)=((ptV v).1+(ptF r).1,max (ptV v).2 (ptF r).2):=by simp only[ptF]
  rw[e3];generalize hA:ptV v=A at *;generalize hB:ptF r=B at *;obtain⟨a1,a2⟩:=A;obtain⟨b1,b2⟩:=B;simp only at *;unfold szF
  by_cases c1:((a1:Int)≤left∧deep+a2≤9)
  ·rw[g1 c1];simp only;obtain⟨g3,g4⟩:=h2 (left-a1) (by omega)
   by_cases c2:((b1:Int)≤left-a1∧(b1=0∨deep+b2≤9))
   ·refine⟨fun _=>?_,fun c=>by exfalso;omega⟩;rw[g3 c2];congr 1;omega
   ·exact⟨fun c=>by exfalso;omega,fun _=>g4 c2⟩
  ·refine⟨fun c=>by exfalso;omega,fun _=>?_⟩;have:=g2 c1;generalize szV deep v left=Z at this;obtain⟨z1,z2⟩:=Z;simp only at this;subst this;rfl
end
def q2i(v:Val):Nat:=if 300<(ptV v).1∨8<(ptV v).2 then 2 else if q12 v then 0 else 3
theorem j6e(v:Val):(szV 1 v 300).1 = !decide (300<(ptV v).1∨8<(ptV v).2):=by
 have h:=j2K 1 v 300 (by omega)
 by_cases c:(((ptV v).1:Int)≤300∧1+(ptV v).2≤9)
 ·rw[h.1 c];have:¬(300<(ptV v).1∨8<(ptV v).2):=by omega
  simp[this]
 ·rw[h.2 c];have:(300<(ptV v).1∨8<(ptV v).2):=by omega
  simp[this]
def q8w:q0l:=
 .seq (.reg [⟨some 1,.box (.t 0),none⟩,Qx 2 (.k (.d .nil))]) (.seq (.reg [⟨some 3,.allo [.int .i64 0],none⟩,⟨none,.st 1 (.t 3) (Ki 300),none⟩]) (.seq (.seq (.reg [Q 4 (.ld 
 true 5 (.t 1)),⟨some 5,.prim .call [.k (.fn (.func 84) [] []),.t 4,.k (.d (.int .i64 1)),.t 3] [],none⟩,Q 6 (.not (.t 5))]) (.cond (.t 6) (.seq (.reg [Q 7 (.mkI 49 (Ki 
 2)),Qa 2 7]) .ret) .skip)) (.seq (.seq (.reg [Q 8 (.ld true 5 (.t 1)),⟨some 9,.call 85 [.t 8],none⟩,Q 10 (.not (.t 9))]) (.cond (.t 10) (.seq (.reg [Q 11 (.mkI 49 (Ki 3)), 
 Qa 2 11]) .ret) .skip)) (.seq (.reg [Qx 2 (.k (.d .nil))]) .ret))))
def q8E:List LRes:=[.tmp 2]
theorem z0G:q0E Tryz.prog 52 12 q8w q8E:=⟨_,_,Tryz.func52,rfl,by kernel_rfl,by kernel_rfl,rfl⟩
theorem z1f(v:Val)(hsm:v.sm 1048576=true):q0y Tryz.prog 52 [v.d] (fun r=>r=.one (errD (q2i v))):=by
 have h1:=j2D _ v (Zai _) 1 300 (by omega) (by omega) (by omega) (by omega) hsm;have h2:=j2W _ v (Zai _) hsm;rw[j6e]at h1;generalize(szV 1 v 300).2=q at h1;rw[Val.d_eq]at *;refine z0G.call rfl ?_;simp only[go_sem,↓reduceIte,q8w,q8E];refine q0b.mc1 (.l 3) rfl (h1) rfl rfl rfl rfl ⟨rfl,rfl⟩ ?_;simp only[go_sem,↓reduceIte];refine⟨fun c=>?_,fun c=>?_⟩
 ·simp only[q2i,if_pos c];rfl
 ·refine q0j.of h2 ?_;simp only[go_sem,↓reduceIte];simp only[q2i,if_neg c];cases q12 v<;>simp[errD]
theorem q50{α:Type}{l:List α}{i:Nat}{x:α}(hx:l[i]?=some x):l.take (i+1)=l.take i++[x]:=by
 rw[Zcd,hx];rfl
theorem j50{l:List Val}{x:Val}(h:x∈l):(ptV x).1≤(ptL l).1:=by
 induction l with
 |nil=>simp at h
 |cons y r ih=>
  simp only[ptL];rcases Zar.1 h with rfl|h
  ·omega
  ·have:=ih h;omega
theorem j5Z{l:List Fld}{x:Fld}(h:x∈l):(ptV x.v).1≤(ptF l).1:=by
 induction l with
 |nil=>simp at h
 |cons y r ih=>
  simp only[q9a];rcases Zar.1 h with rfl|h
  ·omega
  ·have:=ih h;omega
theorem z0n:∀(x y:List UInt8),(Op.bytesLess x y || decide (x=y)) = !Op.bytesLess y x
 |[],[]=>by simp[Op.bytesLess]
 |[],_::_=>by simp[Op.bytesLess]
 |_::_,[]=>by simp[Op.bytesLess]
 |a::x,b::y=>by
  have ih:=z0n x y;have hab:a=b↔a.toNat=b.toNat:=⟨fun h=>by rw[h],UInt8.toNat_inj.1⟩;simp only[Op.bytesLess,Zcl,beq_iff_eq,bne_iff_ne]at ih ⊢;rcases Nat.lt_trichotomy a.toNat b.toNat with h|h|h
  ·have h1:¬b.toNat<a.toNat:=by omega
   have h2:¬a=b:=fun e=>by rw[hab]at e;omega
   have h3:¬b=a:=fun e=>h2 e.symm
   simp[h,h1,h2,h3]
  ·have h2:=hab.2 h;subst h2;simp[ih]
  ·have h1:¬a.toNat<b.toNat:=by omega
   have h2:¬a=b:=fun e=>by rw[hab]at e;omega
   have h3:¬b=a:=fun e=>h2 e.symm
   simp[h,h1,h2,h3]
def eqB{α:Type}(p:α→α→Bool):List α→List α→Bool
 |[],[]=>true
 |x::r,y::s=>p x y&&eqB p r s
 |_,_=>false
theorem z6V{α:Type}{p:α→α→Bool}:∀{a b:List α},¬a.length=b.length→eqB p a b=false
 |[],[],h=>absurd rfl h
 |[],_::_,_=>rfl
 |_::_,[],_=>rfl
 |x::r,y::s,h=>by
  have:eqB p r s=false:=z6V (by simpa using h);simp[eqB,this]
theorem j06{α:Type}{p:α→α→Bool}{a b:List α}(ha:a=[])(hb:b=[]):eqB p a b=true:=by subst ha;subst hb;rfl
mutual
def q5H:Val→Val→Bool
 |.mk k n s l f,.mk k' n' s' l' f'=>decide (k=k')&&(decide (n=n')&&(decide (s=s')&&(q8J l l'&&q8I f f')))
def q8J:List Val→List Val→Bool
 |[],[]=>true
 |x::r,y::s=>q5H x y&&q8J r s
 |_,_=>false
def q8I:List Fld→List Fld→Bool
 |[],[]=>true
 |.mk nm x::r,.mk nm' y::s=>(decide (nm=nm')&&q5H x y)&&q8I r s
 |_,_=>false
end
def z43(x y:Fld):Bool:=decide (x.name=y.name)&&q5H x.v y.v
theorem z42:∀(a b:List Val),q8J a b=eqB q5H a b
 |[],[]=>rfl
 |[],_::_=>rfl
 |_::_,[]=>rfl
 |x::r,y::s=>by simp only[q8J,eqB,z42 r s]
theorem z4Z:∀(a b:List Fld),q8I a b=eqB z43 a b
 |[],[]=>rfl
 |[],_::_=>rfl
 |.mk _ _::_,[]=>rfl
 |.mk _ x::r,.mk _ y::s=>by simp only[q8I,eqB,z4Z r s];rfl
theorem j0p(a b:Val):q5H a b=(decide (a.kind=b.kind)&&(decide (a.n=b.n)&&(decide (a.s=b.s)&&(eqB q5H a.l b.l&&eqB z43 a.f b.f)))):=by
 cases a;cases b;simp only[q5H,z42,z4Z];rfl
mutual
theorem q9s:∀(a b:Val),q5H a b=true↔a=b
 |.mk k n s l f,.mk k' n' s' l' f'=>by
  simp only[q5H,Zah,decide_eq_true_eq,z2U l l',z2T f f',Val.mk.injEq]
theorem z2U:∀(a b:List Val),q8J a b=true↔a=b
 |[],[]=>by simp[q8J]
 |[],_::_=>by simp[q8J]
 |_::_,[]=>by simp[q8J]
 |x::r,y::s=>by simp only[q8J,Zah,q9s x y,z2U r s,Zcx]
theorem z2T:∀(a b:List Fld),q8I a b=true↔a=b
 |[],[]=>by simp[q8I]
 |[],_::_=>by simp[q8I]
 |.mk _ _::_,[]=>by simp[q8I]
 |.mk nm x::r,.mk nm' y::s=>by simp only[q8I,Zah,decide_eq_true_eq,q9s x y,z2T r s,Zcx,Fld.mk.injEq]
end
def q0d:q0l:=
 .seq (.reg [Qx 6 KF]) (.seq (.seq (.reg [Qc 10 0,Q 11 (.len false (.t 10)),Qc 12 1,Q 13 (.len false (.t 12)),Q 14 (.bin .neq (.t 11) (.t 13))]) (.cond (.t 14) (.seq (.reg [Qx 6 
 KF]) .ret) .skip)) (.seq (.seq (.reg [Qc 15 0,Q 16 (.len false (.t 15)),Q 17 (.cp (Ki 0))]) (.block 0 (.loop (.seq (.reg [Q 18 (.bin .lss (.t 17) (.t 16))]) (.seq (.cond (.t 
 18) .skip (.exit 0)) (.seq (.block 1 (.seq (.reg [Qc 19 17,Q 20 (.ia 5 (.t 15) (.t 17)),Q 21 (.ld true 5 (.t 20)),⟨some 8,.allo [.int .i64 0,.int .i64 0,.str [],.list [], 
 .list []],none⟩,Qa 7 19,⟨none,.st 5 (.t 8) (.t 21),none⟩]) (.seq (.reg [Qc 22 1,Qc 23 7,Q 24 (.ia 5 (.t 22) (.t 23)),Q 25 (.ld true 5 (.t 24)),⟨some 9,.allo [.int .i64 
 0,.int .i64 0,.str [],.list [],.list []],none⟩,⟨none,.st 5 (.t 9) (.t 25),none⟩]) (.seq (.reg [Qc 26 2,Q 27 (.ld true 5 (.t 8)),Q 28 (.ld true 5 (.t 9)),⟨some 29, 
 .prim .call [.t 26,.t 27,.t 28] [],none⟩,Q 30 (.not (.t 29))]) (.cond (.t 30) (.seq (.reg [Qx 6 KF]) .ret) .skip))))) (.reg [Q 31 (.bin .add (.t 17) (Ki 1)),Qc 17 31]))))))) 
 (.seq (.reg [Qx 6 KT]) .ret)))
def q0f:List LRes:=[.tmp 6]
theorem q0t:q0E Tryz.prog 44 32 q0d q0f:=⟨_,_,Tryz.func44,rfl,by kernel_rfl,by kernel_rfl,rfl⟩
theorem z1j(g:Nat)(hg:q3L Tryz.prog g=true)(a b:List Val)(hl:a.length≤1048576)(p:Val→Val→Bool)(hp:∀x∈a,∀y∈b,q0y Tryz.prog g [x.d,y.d] (fun r=>r=.one (.bool (p x y)))):
  q1c Tryz.prog 44 [.d (.list (q0u a)),.d (.list (q0u b)),.fn (.func g) [] []] [] (.d (.bool (eqB p a b))) []:=by
 have hla:=q0Z a;have hlb:=q0Z b;have castE:∀x y:Nat,((x:Int)=(y:Int))=(x=y):=fun x y=>by apply propext;omega
 generalize hR:eqB p a b=R;refine q0t.q0G (by kernel_rfl) rfl ?_;simp only[go_sem,↓reduceIte,q0d,q0f,hla,hlb,castE];refine⟨fun c1=>?_,fun c1=>?_⟩
 ·rw[z6V c1]at hR;subst hR;rfl
 ·refine q0n (fun i:Nat=>⟨[(0,.d (.list (q0u a))),(1,.d (.list (q0u b))),(2,.fn (.func g) [] []),(15,.d (.list (q0u a))),(16,.d (.int .i64 a.length)),(17,.d (.int .i64 i))],[],[]⟩)
   (fun i=>i≤a.length∧eqB p (a.drop i) (b.drop i)=R) (fun i=>a.length-i) 0 ?_ ?_ ?_
  ·refine Weak.mk ?_ ?_ ?_<;>simp only[go_sem,↓reduceIte,Sub,Zab,Zac]
  ·exact⟨by omega,hR⟩
  ·rintro i ⟨hi,hF⟩;simp only[go_sem,↓reduceIte,hla];refine⟨fun hlt=>?_,fun hge=>?_⟩
   ·obtain⟨x,hx⟩:=get_some (l:=a) (i:=i) (by omega);obtain⟨y,hy⟩:=get_some (l:=b) (i:=i) (by omega);rw[q1w hx,q1w hy,eqB]at hF;have hc:=(hp x (Zae hx) y (Zae hy)).q4s hg;simp only[Zbf,Zce,Res.av]at hc;rw[Val.d_eq x,Val.d_eq y]at hc;simp(disch:=omega)only[go_sem,↓reduceIte,q0g,q4g,hx,hy,Val.d_eq]
    refine q0b.q0G ([]) ([]) rfl (hc) rfl rfl (by simp only[q1b,St.obj,aget,AObj.ren,AV.ren,AV.ren1,renL,q2u,renR,renQ,Zaw,Zax,and_true,and_self,Nat.reduceEqDiff,↓reduceIte,reduceCtorEq]) rfl rfl rfl ⟨rfl,rfl⟩ ?_;simp(disch:=omega)only[go_sem,↓reduceIte];refine⟨fun w1=>?_,fun w1=>⟨i+1,?_,⟨by omega,?_⟩,by omega⟩⟩
    ·rw[←hF,w1];simp
    ·refine Weak.mk ?_ ?_ ?_<;>simp only[go_sem,↓reduceIte,Sub,Zab,Zac]
    ·rw[←hF,w1];rfl
   ·rw[j06 (Zao (by omega)) (Zao (by omega))]at hF;subst hF;rfl
def q0c:q0l:=
 .seq (.reg [Qx 6 KF]) (.seq (.seq (.reg [Qc 10 0,Q 11 (.len false (.t 10)),Qc 12 1,Q 13 (.len false (.t 12)),Q 14 (.bin .neq (.t 11) (.t 13))]) (.cond (.t 14) (.seq (.reg [Qx 6 
 KF]) .ret) .skip)) (.seq (.seq (.reg [Qc 15 0,Q 16 (.len false (.t 15)),Q 17 (.cp (Ki 0))]) (.block 0 (.loop (.seq (.reg [Q 18 (.bin .lss (.t 17) (.t 16))]) (.seq (.cond (.t 
 18) .skip (.exit 0)) (.seq (.block 1 (.seq (.reg [Qc 19 17,Q 20 (.ia 6 (.t 15) (.t 17)),Q 21 (.ld true 6 (.t 20)),⟨some 8,.allo [.str [],.int .i64 0,.int .i64 0,.str [], 
 .list [],.list []],none⟩,Qa 7 19,⟨none,.st 6 (.t 8) (.t 21),none⟩]) (.seq (.reg [Qc 22 1,Qc 23 7,Q 24 (.ia 6 (.t 22) (.t 23)),Q 25 (.ld true 6 (.t 24)),⟨some 9,.allo 
 [.str [],.int .i64 0,.int .i64 0,.str [],.list [],.list []],none⟩,⟨none,.st 6 (.t 9) (.t 25),none⟩]) (.seq (.reg [Qc 26 2,Q 27 (.ld true 6 (.t 8)),Q 28 (.ld true 6 (.t 
 9)),⟨some 29,.prim .call [.t 26,.t 27,.t 28] [],none⟩,Q 30 (.not (.t 29))]) (.cond (.t 30) (.seq (.reg [Qx 6 KF]) .ret) .skip))))) (.reg [Q 31 (.bin .add (.t 17) (Ki 1)), 
 Qc 17 31]))))))) (.seq (.reg [Qx 6 KT]) .ret)))
def q0e:List LRes:=[.tmp 6]
theorem q0s:q0E Tryz.prog 45 32 q0c q0e:=⟨_,_,Tryz.func45,rfl,by kernel_rfl,by kernel_rfl,rfl⟩
theorem z1k(g:Nat)(hg:q3L Tryz.prog g=true)(a b:List Fld)(hl:a.length≤1048576)(p:Fld→Fld→Bool)(hp:∀x∈a,∀y∈b,q0y Tryz.prog g [x.d,y.d] (fun r=>r=.one (.bool (p x y)))):
  q1c Tryz.prog 45 [.d (.list (q0k a)),.d (.list (q0k b)),.fn (.func g) [] []] [] (.d (.bool (eqB p a b))) []:=by
 have hla:=q0R a;have hlb:=q0R b;have castE:∀x y:Nat,((x:Int)=(y:Int))=(x=y):=fun x y=>by apply propext;omega
 generalize hR:eqB p a b=R;refine q0s.q0G (by kernel_rfl) rfl ?_;simp only[go_sem,↓reduceIte,q0c,q0e,hla,hlb,castE];refine⟨fun c1=>?_,fun c1=>?_⟩
 ·rw[z6V c1]at hR;subst hR;rfl
 ·refine q0n (fun i:Nat=>⟨[(0,.d (.list (q0k a))),(1,.d (.list (q0k b))),(2,.fn (.func g) [] []),(15,.d (.list (q0k a))),(16,.d (.int .i64 a.length)),(17,.d (.int .i64 i))],[],[]⟩)
   (fun i=>i≤a.length∧eqB p (a.drop i) (b.drop i)=R) (fun i=>a.length-i) 0 ?_ ?_ ?_
  ·refine Weak.mk ?_ ?_ ?_<;>simp only[go_sem,↓reduceIte,Sub,Zab,Zac]
  ·exact⟨by omega,hR⟩
  ·rintro i ⟨hi,hF⟩;simp only[go_sem,↓reduceIte,hla];refine⟨fun hlt=>?_,fun hge=>?_⟩
   ·obtain⟨x,hx⟩:=get_some (l:=a) (i:=i) (by omega);obtain⟨y,hy⟩:=get_some (l:=b) (i:=i) (by omega);rw[q1w hx,q1w hy,eqB]at hF;have hc:=(hp x (Zae hx) y (Zae hy)).q4s hg;simp only[Zbf,Zce,Res.av]at hc;rw[Fld.d_eq x,Fld.d_eq y]at hc;simp(disch:=omega)only[go_sem,↓reduceIte,q0g,q07,hx,hy,Fld.d_eq]
    refine q0b.q0G ([]) ([]) rfl (hc) rfl rfl (by simp only[q1b,St.obj,aget,AObj.ren,AV.ren,AV.ren1,renL,q2u,renR,renQ,Zaw,Zax,and_true,and_self,Nat.reduceEqDiff,↓reduceIte,reduceCtorEq]) rfl rfl rfl ⟨rfl,rfl⟩ ?_;simp(disch:=omega)only[go_sem,↓reduceIte];refine⟨fun w1=>?_,fun w1=>⟨i+1,?_,⟨by omega,?_⟩,by omega⟩⟩
    ·rw[←hF,w1];simp
    ·refine Weak.mk ?_ ?_ ?_<;>simp only[go_sem,↓reduceIte,Sub,Zab,Zac]
    ·rw[←hF,w1];rfl
   ·rw[j06 (Zao (by omega)) (Zao (by omega))]at hF;subst hF;rfl
def q8v:q0l:=
 .seq (.reg [⟨some 2,.box (.t 0),none⟩,⟨some 3,.box (.t 1),none⟩,Qx 4 KF]) (.seq (.reg [Q 5 (.fa 0 (.t 2)),Q 6 (.ld false 1 (.t 5)),Q 7 (.fa 0 (.t 3)),Q 8 (.ld false 1 (.t 
 7)),Q 9 (.bin .eql (.t 6) (.t 8)),Qc 10 9,Qg 11 (.fa 1 (.t 2)) 10 true,Qg 12 (.ld false 1 (.t 11)) 10 true,Qg 13 (.fa 1 (.t 3)) 10 true,Qg 14 (.ld false 1 (.t 13)) 10 true, 
 Qg 15 (.bin .eql (.t 12) (.t 14)) 10 true,Q 16 (.pick (.t 10) (.t 15) KF),Qc 17 16,Qg 18 (.fa 2 (.t 2)) 17 true,Qg 19 (.ld false 1 (.t 18)) 17 true,Qg 20 (.fa 2 (.t 3)) 17 
 true,Qg 21 (.ld false 1 (.t 20)) 17 true,Qg 22 (.bin .eql (.t 19) (.t 21)) 17 true,Q 23 (.pick (.t 17) (.t 22) KF),Qc 24 23,Qg 25 (.fa 3 (.t 2)) 24 true,Qg 26 (.ld false 1 
 (.t 25)) 24 true,Qg 27 (.fa 3 (.t 3)) 24 true,Qg 28 (.ld false 1 (.t 27)) 24 true,⟨some 29,.prim .call [.k (.fn (.func 44) [] []),.t 26,.t 28,.k (.fn (.func 23) [] [])] 
 [],some (24,true)⟩,Q 30 (.pick (.t 24) (.t 29) KF),Qc 31 30,Qg 32 (.fa 4 (.t 2)) 31 true,Qg 33 (.ld false 1 (.t 32)) 31 true,Qg 34 (.fa 4 (.t 3)) 31 true,Qg 35 (.ld false 
 1 (.t 34)) 31 true,⟨some 36,.prim .call [.k (.fn (.func 45) [] []),.t 33,.t 35,.k (.fn (.func 46) [] [])] [],some (31,true)⟩,Q 37 (.pick (.t 31) (.t 36) KF),Qa 4 37]) 
 .ret)
def q8D:List LRes:=[.tmp 4]
theorem z0F:q0E Tryz.prog 23 38 q8v q8D:=⟨_,_,Tryz.func23,rfl,by kernel_rfl,by kernel_rfl,rfl⟩
def q6D:q0l:=
 .seq (.reg [⟨some 2,.box (.t 0),none⟩,⟨some 3,.box (.t 1),none⟩,Qx 4 KF]) (.seq (.reg [Q 5 (.fa 0 (.t 2)),Q 6 (.ld false 1 (.t 5)),Q 7 (.fa 0 (.t 3)),Q 8 (.ld false 1 (.t 
 7)),Q 9 (.bin .eql (.t 6) (.t 8)),Qc 10 9,Qg 11 (.fa 1 (.t 2)) 10 true,Qg 12 (.ld true 5 (.t 11)) 10 true,Qg 13 (.fa 1 (.t 3)) 10 true,Qg 14 (.ld true 5 (.t 13)) 10 true, 
 ⟨some 15,.call 23 [.t 12,.t 14],some (10,true)⟩,Q 16 (.pick (.t 10) (.t 15) KF),Qa 4 16]) .ret)
def q6K:List LRes:=[.tmp 4]
theorem q80:q0E Tryz.prog 46 17 q6D q6K:=⟨_,_,Tryz.func46,rfl,by kernel_rfl,by kernel_rfl,rfl⟩
theorem z6F:∀(m:Nat) (a b:Val),SizeOf.sizeOf a≤m→a.sm 1048576=true→q0y Tryz.prog 23 [a.d,b.d] (fun r=>r=.one (.bool (q5H a b))):=by
 intro m;induction m with
 |zero=>intro v b h;cases v;simp at h
 |succ m ih=>
  intro a b hv hsm;obtain⟨_,hll,hfl,hsl,hsf⟩:=Val.q1Q.1 hsm;have hL:∀x∈a.l,∀y∈b.l,q0y Tryz.prog 23 [x.d,y.d] (fun r=>r=.one (.bool (q5H x y))):=
   fun x hx y _=>ih x y (by have:=z2h hx;omega) (hsl x hx)
  have hF:∀x∈a.f,∀y∈b.f,q0y Tryz.prog 46 [x.d,y.d] (fun r=>r=.one (.bool (z43 x y))):=fun x hx y _=>by
   have hc:=ih x.v y.v (by have:=z2g hx;omega) (Fld.q1Q.1 (hsf x hx)).2;rw[Val.d_eq x.v,Val.d_eq y.v]at hc;rw[Fld.d_eq x,Fld.d_eq y];refine q80.call rfl ?_;simp only[go_sem,↓reduceIte,q6D,q6K];refine⟨fun c1=>?_,fun c1=>?_⟩
   ·first
    |refine q1I.of hc ?_
    |refine q0j.of hc ?_
    simp only[go_sem,↓reduceIte];simp[z43,c1]
   ·simp[z43,c1]
  generalize hR:q5H a b=R;rw[j0p]at hR;rw[Val.d_eq a,Val.d_eq b];refine z0F.call rfl ?_;simp only[go_sem,↓reduceIte,q8v,q8D];refine⟨fun c1=>⟨fun c2=>⟨fun c3=>?_,fun c3=>?_⟩,fun c2=>?_⟩,fun c1=>?_⟩
  ·refine q0b.q0G ([]) ([]) rfl (z1j _ (by kernel_rfl) a.l b.l (by omega) _ hL) rfl rfl (by simp only[q1b,St.obj,aget,AObj.ren,AV.ren,AV.ren1,renL,q2u,renR,renQ,Zaw,Zax,and_true,and_self,Nat.reduceEqDiff,↓reduceIte,reduceCtorEq]) rfl rfl rfl ⟨rfl,rfl⟩ ?_;simp only[c1,c2,c3,decide_true,Bool.true_and]at hR;simp only[go_sem,↓reduceIte];refine⟨fun c4=>?_,fun c4=>?_⟩
   ·refine q0b.q0G ([]) ([]) rfl (z1k _ (by kernel_rfl) a.f b.f (by omega) _ hF) rfl rfl (by simp only[q1b,St.obj,aget,AObj.ren,AV.ren,AV.ren1,renL,q2u,renR,renQ,Zaw,Zax,and_true,and_self,Nat.reduceEqDiff,↓reduceIte,reduceCtorEq]) rfl rfl rfl ⟨rfl,rfl⟩ ?_;simp only[go_sem,↓reduceIte];rw[←hR,c4];rfl
   ·rw[←hR,c4];rfl
  ·rw[←hR];simp[c3]
  ·rw[←hR];simp[c2]
  ·rw[←hR];simp[c1]
def getV(nm:List UInt8):List Fld→Option Val
 |[]=>none
 |x::r=>if x.name=nm then some x.v else getV nm r
def zeroV:Val:=.mk 0 0 [] [] []
def getR(o:Option Val):Res:=.tup [(o.getD zeroV).d,.bool o.isSome]
def z06:q0l:=
 .seq (.reg [⟨some 2,.box (.t 0),none⟩,⟨some 4,.allo [.int .i64 0,.int .i64 0,.str [],.list [],.list []],none⟩,Qx 5 KF]) (.seq (.seq (.reg [Q 8 (.fa 4 (.t 2)),Q 9 (.ld 
 false 1 (.t 8)),Q 10 (.len false (.t 9)),Q 11 (.cp (Ki 0))]) (.block 0 (.loop (.seq (.reg [Q 12 (.bin .lss (.t 11) (.t 10))]) (.seq (.cond (.t 12) .skip (.exit 0)) (.seq 
 (.block 1 (.seq (.reg [Q 13 (.ia 6 (.t 9) (.t 11)),Q 14 (.ld true 6 (.t 13)),⟨some 7,.allo [.str [],.int .i64 0,.int .i64 0,.str [],.list [],.list []],none⟩,⟨none,.st 
 6 (.t 7) (.t 14),none⟩]) (.seq (.reg [Q 15 (.fa 0 (.t 7)),Q 16 (.ld false 1 (.t 15)),Qc 17 1,Q 18 (.bin .eql (.t 16) (.t 17))]) (.cond (.t 18) (.seq (.reg [Q 19 (.fa 1 (.t 
 7)),Q 20 (.ld true 5 (.t 19)),⟨none,.st 5 (.t 4) (.t 20),none⟩,Qx 5 KT]) .ret) .skip)))) (.reg [Q 21 (.bin .add (.t 11) (Ki 1)),Qc 11 21]))))))) (.seq (.reg [Q 22 (.bld 
 [(0,1),(1,1),(2,1),(3,1),(4,1)] [.int .i64 0,.int .i64 0,.str [],.list [],.list []] [] []),⟨none,.st 5 (.t 4) (.t 22),none⟩,Qx 5 KF]) .ret))
def z1b:List LRes:=[.cell 4 true 5,.tmp 5]
theorem z2E:q0E Tryz.prog 20 23 z06 z1b:=⟨_,_,Tryz.func20,rfl,by kernel_rfl,by kernel_rfl,rfl⟩
theorem q5I(v:Val)(nm:List UInt8)(hf:v.f.length≤1048576):q0y Tryz.prog 20 [v.d,.str nm] (fun r=>r=getR (getV nm v.f)):=by
 have hfl':=q0R v.f;generalize hR:getV nm v.f=R;rw[Val.d_eq];refine z2E.call rfl ?_;simp only[go_sem,↓reduceIte,z06,z1b];refine q0n (fun i:Nat=>⟨[(1,.d (.str nm)),(2,.ptr (.l 2) 0),(4,.ptr (.l 4) 0),(9,.d (.list (q0k v.f))),(10,.d (.int .i64 v.f.length)),(11,.d (.int .i64 i))],
   [(2,.cells [.d (.int .i64 v.kind),.d (.int .i64 v.n),.d (.str v.s),.d (.list (q0u v.l)),.d (.list (q0k v.f))]),
    (4,.cells [.d (.int .i64 0),.d (.int .i64 0),.d (.str []),.ns,.ns])],[]⟩)
  (fun i=>i≤v.f.length∧getV nm (v.f.drop i)=R) (fun i=>v.f.length-i) 0 ?_ ?_ ?_
 ·refine Weak.mk ?_ ?_ ?_<;>simp only[go_sem,↓reduceIte,Sub,Zab,Zac,hfl']
 ·exact⟨by omega,hR⟩
 ·rintro i ⟨hi,hF⟩;simp only[go_sem,↓reduceIte,hfl'];refine⟨fun hlt=>?_,fun hge=>?_⟩
  ·obtain⟨x,hx⟩:=get_some (l:=v.f) (i:=i) (by omega);rw[q1w hx,getV]at hF;simp(disch:=omega)only[go_sem,↓reduceIte,q0g,q07,hx,Fld.d_eq];refine⟨fun n1=>?_,fun n1=>⟨i+1,?_,⟨by omega,?_⟩,by omega⟩⟩
   ·rw[if_pos n1]at hF;subst hF;simp only[getR,Zbp,Option.isSome_some];rw[Val.d_eq x.v]
   ·refine Weak.mk ?_ ?_ ?_<;>simp only[go_sem,↓reduceIte,Sub,Zab,Zac]
   ·rw[if_neg n1]at hF;exact hF
  ·rw[Zao (by omega),getV]at hF;subst hF;rfl
/-! ### Builders, wherever they lie -/
def Bld.at(r:Ref):Bld→AObj
 |.new=>.cells [.nt 102,.ns]
 |.nul=>.cells [.ptr r 0,.ns]
 |.has s=>.cells [.ptr r 0,.own (.c r 1) 5 1 (q1t s)]
theorem Bld.z8C(b:Bld):b.obj=b.at (.x 0):=by cases b<;>rfl
theorem Bld.j0t(b:Bld)(r:Ref):(b.at (.x 0)).ren [r]=b.at r:=by cases b<;>rfl
theorem Bld.j6u(b:Bld):(b.at (.x 0)).wf 1=true:=by cases b<;>rfl
theorem Bld.j6t(b:Bld)(i:Nat):(b.at (.x i)).q3Q=true:=by cases b<;>rfl
theorem Bld.q0r(s:List UInt8):Bld.bytes (.has s)=s:=rfl
theorem q09{dst:Option Nat}{f:LX}{args:List LX}{K:St→Prop}{σ:St}{g:FuncId}{first cap:List AV}{xs:List AV}{ret:AV}(r:Ref){b b':Bld}(hf:σ.ev f=.fn (.func g) first cap)(hc:q1c Tryz.prog g xs [b.at (.x 0)] ret [b'.at (.x 0)])
  (hx:q5A [] 0 (first++(evL σ args++cap))=renL [r] xs) (hwx:wfAL [] 1 0 xs=true) (ho:σ.obj r=some (b.at r)) (hr:q9V 1 ret=true)
  (hK:K (retO (({ σ with ρ:=amap (AV.z2r [r]) σ.ρ }:St).setObj r (b'.at r)) dst [r] ret)):q0b Tryz.prog dst .call (f::args) K σ:=by
 refine q0b.q0G [r] [] hf hc hx hwx ?_ ?_ ?_ ?_ ⟨hr,?_⟩ ?_
 ·exact⟨by rw[Bld.j0t];exact ho,trivial⟩
 ·show(Bld.at (.x 0) b).wf 1&&true=true
  rw[Bld.j6u];rfl
 ·rfl
 ·rfl
 ·show((Bld.at (.x 0) b').wf 1&&(isLocal r || ((Bld.at (.x 0) b').ren [r]).q3Q))&&true=true
  rw[Bld.j6u,Bld.j0t];cases r with
  |l s=>rfl
  |x i=>rw[Bld.j6t];rfl
 ·show K (retO (q3U [r] { (q0x σ [])with ρ:=amap (AV.z2r [r]) (q0x σ []).ρ } [r] [Bld.at (.x 0) b']) dst [r] ret)
  simp only[q3U,Bld.j0t,q0x];exact hK
theorem q0L(b:Bld)(t:List UInt8)(hl:(b.bytes++t).length≤1000000000):q1c Tryz.prog 86 [.ptr (.x 0) 0,.d (.str t)] [b.at (.x 0)] (.tuple [.d (.int .i64 t.length),.d .nil]) [Bld.at (.x 0) (.has (b.bytes++t))]:=by
 rw[←Bld.z8C,←Bld.z8C];exact z0K b t hl
theorem q1z(b:Bld)(c:UInt8)(hl:b.bytes.length+1≤1000000000):q1c Tryz.prog 90 [.ptr (.x 0) 0,.d (.int .u8 c.toNat)] [b.at (.x 0)] (.d .nil) [Bld.at (.x 0) (.has (b.bytes++[c]))]:=by
 rw[←Bld.z8C,←Bld.z8C];exact z2K b c hl
theorem q5e{c:UInt8}(h:c.toNat<128):(Utf8.encode (c.toNat:Int)).data.toList=[c]:=by
 have:∀n:Fin 128,(Utf8.encode ((n.val:Nat):Int)).data.toList=[UInt8.ofNat n.val]:=by decide +kernel
 have:=this ⟨c.toNat,h⟩;simp only at this;rw[this];simp
def z3y(c:UInt8):Bool:=decide (32<c.toNat)&&(decide (c.toNat≤126) && !decide (c∈([40,41,60,62,91,93,123,125,47,37,35]:List UInt8)))
def q8y:q0l:=
 .seq (.reg [Qx 2 KF]) (.seq (.reg [Qc 3 0,Q 4 (.bin .gtr (.t 3) (Kb 32)),Qc 5 4,Qd 6 0 5 true,Qg 7 (.bin .leq (.t 6) (Kb 126)) 5 true,Q 8 (.pick (.t 5) (.t 7) KF),Qc 9 8,Qd 
 10 0 9 true,Qg 11 (.cvI .i32 (.t 10)) 9 true,Qg 12 (.i2s (.t 11)) 9 true,⟨some 13,.call 74 [.k (.d (.str [40,41,60,62,91,93,123,125,47,37,35])),.t 12],some (9, 
 true)⟩,Qg 14 (.not (.t 13)) 9 true,Q 15 (.pick (.t 9) (.t 14) KF),Qa 2 15]) .ret)
def q8G:List LRes:=[.tmp 2]
theorem z0I:q0E Tryz.prog 116 16 q8y q8G:=⟨_,_,Tryz.func116,rfl,by kernel_rfl,by kernel_rfl,rfl⟩
theorem z9V(c:UInt8):q0y Tryz.prog 116 [.int .u8 c.toNat] (fun r=>r=.one (.bool (z3y c))):=by
 have hc8:=q4f c;refine z0I.call rfl ?_;simp only[go_sem,↓reduceIte,q8y,q8G];refine⟨fun h1=>⟨fun h2=>?_,fun h2=>?_⟩,fun h1=>?_⟩
 ·rw[IntWalk.i32_in _ (by omega),q5e (by omega)];refine q0j.of (q7E _ c) ?_;simp only[go_sem,↓reduceIte];have h3:32<c.toNat:=by omega
  have h4:c.toNat≤126:=by omega
  simp[z3y,h3,h4]
 ·have h4:¬c.toNat≤126:=by omega
  simp[z3y,h4]
 ·have h4:¬32<c.toNat:=by omega
  simp[z3y,h4]
def q4a:List UInt8:=[48,49,50,51,52,53,54,55,56,57,65,66,67,68,69,70]
theorem j2M{n:Nat}(h:n<16):getI q4a (n:Int)=some (q4a.getD n 0):=by
 rw[q0g];have:n<q4a.length:=h;simp[this]
def q9K(c:UInt8):List UInt8:=if z3y c then[c]else[35,q4a.getD (c.toNat / 16) 0,q4a.getD (c.toNat % 16) 0]
def q1q(s:List UInt8):List UInt8:=s.flatMap q9K
theorem z5U(c:UInt8):(q9K c).length≤3:=by unfold q9K;split<;>simp
theorem q65(s:List UInt8):(q1q s).length≤3*s.length:=by
 induction s with
 |nil=>simp[q1q]
 |cons c s ih=>
  have:q1q (c::s)=q9K c++q1q s:=rfl;rw[this,Zad];have:=z5U c;simp only[Zaf];omega
theorem z3s{s:List UInt8}{i:Nat}{c:UInt8}(h:s[i]?=some c):q1q (s.take (i+1))=q1q (s.take i)++q9K c:=by
 simp[q1q,z2q h]
theorem j3b(a b:UInt8):bytesOf [.int .u8 a.toNat,.int .u8 b.toNat]=some [a,b]:=q1T [a,b]
def z0a:q0l:=
 .seq (.reg [Qc 5 0,⟨some 6,.prim .call [.k (.fn (.func 90) [] []),.t 5,.k (.d (.int .u8 47))] [],none⟩]) (.seq (.reg [Qc 7 1,Q 8 (.len true (.t 7)),Q 9 (.cp (Ki 0))]) 
 (.block 0 (.loop (.seq (.reg [Q 10 (.bin .lss (.t 9) (.t 8))]) (.seq (.cond (.t 10) .skip (.exit 0)) (.seq (.block 1 (.seq (.reg [Qc 11 9,Qa 4 11]) (.seq (.reg [Qc 12 1,Qc 13 
 4,Q 14 (.idxS (.t 12) (.t 13)),⟨some 15,.call 116 [.t 14],none⟩]) (.cond (.t 15) (.reg [Qc 16 0,Qc 17 1,Qc 18 4,Q 19 (.idxS (.t 17) (.t 18)),⟨some 20,.prim .call [.k 
 (.fn (.func 90) [] []),.t 16,.t 19] [],none⟩]) (.dreg [Qc 21 0,Qc 22 1,Qc 23 4,Q 24 (.idxS (.t 22) (.t 23)),Q 25 (.bin .shr (.t 24) (.k (.d (.int .u64 4)))),Q 26 (.idxS 
 (.k (.d (.str [48,49,50,51,52,53,54,55,56,57,65,66,67,68,69,70]))) (.t 25)),Qc 27 1,Qc 28 4,Q 29 (.idxS (.t 27) (.t 28)),Q 30 (.bin .and (.t 29) (Kb 15)),Q 31 
 (.idxS (.k (.d (.str [48,49,50,51,52,53,54,55,56,57,65,66,67,68,69,70]))) (.t 30)),⟨some 32,.bsl 5 1 [.t 26,.t 31],none⟩,Q 33 (.b2s (.t 32)),Q 34 (.bin .add 
 (.k (.d (.str [35]))) (.t 33)),⟨some 35,.prim .call [.k (.fn (.func 86) [] []),.t 21,.t 34] [],none⟩]))))) (.reg [Q 36 (.bin .add (.t 9) (Ki 1)),Qc 9 36])))))))
def z0j:List LRes:=[]
theorem z1N:q0E Tryz.prog 89 37 z0a z0j:=⟨_,_,Tryz.func89,rfl,by kernel_rfl,by kernel_rfl,rfl⟩
theorem j1U(b:Bld)(s:List UInt8)(hl:b.bytes.length+3*s.length+1≤1000000000):q1c Tryz.prog 89 [.ptr (.x 0) 0,.d (.str s)] [b.at (.x 0)] (.tuple []) [Bld.at (.x 0) (.has (b.bytes++[47]++q1q s))]:=by
 refine z1N.q0G (by kernel_rfl) rfl ?_;simp only[go_sem,↓reduceIte,z0a,z0j];refine q09 (.x 0) rfl (q1z b 47 (by omega)) rfl rfl rfl rfl ?_;simp only[go_sem,↓reduceIte];refine q0n (fun i:Nat=>⟨[(0,.ptr (.x 0) 0),(1,.d (.str s)),(7,.d (.str s)),(8,.d (.int .i64 s.length)),(9,.d (.int .i64 i))],[],
   [(0,Bld.at (.x 0) (.has (b.bytes++[47]++q1q (s.take i))))]⟩)
  (fun i=>i≤s.length) (fun i=>s.length-i) 0 ?_ ?_ ?_
 ·refine Weak.mk ?_ ?_ ?_<;>simp only[go_sem,↓reduceIte,Sub,Zab,Zac,Zcf,q1q,List.flatMap_nil]
 ·omega
 ·intro i hi;have hle:=q65 (s.take i);rw[Zaq]at hle;have ht:([48,49,50,51,52,53,54,55,56,57,65,66,67,68,69,70]:List UInt8)=q4a:=rfl;simp only[run_seq,q8l,q4V,pev,fB,binD,St.ev,St.get,aget,reduceCtorEq,↓reduceIte,Nat.reduceEqDiff,Zbp,binI,Zat,q16,St.put,q6N,q8g,q6f,q6h,q7R,decide_eq_true_eq,z0X,q5W,q9N,asgS,z0A,z0W,q4x,q4y,q5j,z4r,z18,resR,z0J,mkA,q5T,q8H,true_and,IteG]
  refine⟨fun hlt=>?_,fun hge=>?_⟩
  ·obtain⟨c,hc⟩:=get_some (l:=s) (i:=i) (by omega);have hc8:=q4f c;have e1:Int.fdiv (c.toNat:Int) (2 ^ min 4 IntKind.u8.bits)=((c.toNat / 16:Nat):Int):=j2y c.toNat 4;have e2:IntKind.u8.wrap (((BitVec.ofInt IntKind.u8.bits (c.toNat:Int) &&& BitVec.ofInt IntKind.u8.bits 15).toNat:Nat):Int)=((c.toNat % 16:Nat):Int):=by
    rw[←j7q];exact j0q (m:=15) hc8 (by decide)
   have t1:getI q4a ((c.toNat / 16:Nat):Int)=some (q4a.getD (c.toNat / 16) 0):=j2M (by omega);have t2:getI q4a ((c.toNat % 16:Nat):Int)=some (q4a.getD (c.toNat % 16) 0):=j2M (by omega);simp(disch:=omega)only[q0g s,hc,Zat,q16,St.put,q6N,z8D,evL,St.ev,St.get,aget,↓reduceIte,Zbp,q4m,AV.rd];refine q0j.of (z9V c) ?_
   simp(disch:=omega)only[putO,St.put,q6N,Res.av,q8g,q6f,q6h,St.ev,St.get,aget,↓reduceIte,Zbp,q7R,q8l,q4V,pev,reduceCtorEq,q16,Nat.reduceEqDiff,z0A,q0g s,hc,Zat,q5h,z8R,z6P,fB,binD,Int.reduceLT,Int.reduceToNat,IteG,Bool.not_eq_true];refine⟨fun p1=>?_,fun p1=>?_⟩
   ·refine q09 (.x 0) rfl (q1z (.has (b.bytes++[47]++q1q (s.take i))) c (by simp only[Bld.q0r,Zad,Zaf,Zag];omega)) rfl rfl rfl rfl ?_;simp(disch:=omega)only[go_sem,↓reduceIte];refine⟨i+1,?_,by omega,by omega⟩;have:q9K c=[c]:=by simp[q9K,p1]
    refine Weak.mk ?_ ?_ ?_<;>simp only[go_sem,↓reduceIte,Sub,Zab,Zac,z3s hc,Bld.q0r,this,List.append_assoc]
   ·simp(disch:=omega)only[ht,e1,t1,Zat,q16,St.put,q6N,z6P,pev,St.ev,St.get,aget,Nat.reduceEqDiff,↓reduceIte,reduceCtorEq,Zbp,z0A,q0g s,hc,fB,binD,binI,e2,t2,j01,bspS,evL,q4m,AV.rd,q7t,D.cells,Zaf,Zag,Zbh,beq_self_eq_true,Bool.and_self,Nat.reduceAdd,Nat.reduceMul,Nat.reduceLeDiff,ne_eq,not_false_eq_true,and_self,z0L,fB2s,j3b,binS,Int.cast_ofNat_Int,Int.reduceLE,Zba,Zav,z74]
    refine q09 (.x 0) rfl (q0L (.has (b.bytes++[47]++q1q (s.take i))) [35,q4a.getD (c.toNat / 16) 0,q4a.getD (c.toNat % 16) 0] (by simp only[Bld.q0r,Zad,Zaf,Zag];omega)) rfl rfl rfl rfl ?_;simp(disch:=omega)only[go_sem,↓reduceIte];refine⟨i+1,?_,by omega,by omega⟩;have:q9K c=[35,q4a.getD (c.toNat / 16) 0,q4a.getD (c.toNat % 16) 0]:=by simp[q9K,p1]
    refine Weak.mk ?_ ?_ ?_<;>simp only[go_sem,↓reduceIte,Sub,Zab,Zac,z3s hc,Bld.q0r,this,List.append_assoc]
  ·rw[Zbs (by omega)]
end Go.Av.Tryz
