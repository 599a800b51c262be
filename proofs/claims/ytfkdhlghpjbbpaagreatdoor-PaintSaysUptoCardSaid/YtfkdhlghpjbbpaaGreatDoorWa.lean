import Derived.Test.YtfkdhlghpjbbpaaGreatDoorAvG
import Derived.Test.YtfkdhlghpjbbpaaGreatDoorAvH
import Derived.Test.YtfkdhlghpjbbpaaGreatDoorProg
import Derived.Lib.LaidTab
import Derived.Lib.ItoaNum
import Derived.Shelf.Unicode.DecodeSlow
import Derived.Test.YtfkdhlghpjbbpaaGreatDoorAvF
import Derived.Lib.Bytealg
import Derived.Lib.UnsafeStr
import Derived.IntWalk
import Derived.Shelf.RegionOpenPlain
import Derived.WalkKit
import Derived.Lib.Walk
import Derived.Lib.SliceRun
import Derived.Lib.JoinLaws
import Derived.Lib.AppendZerosOnto
import Derived.Lib.Overlaps
import Derived.Laws.Externs
import Derived.Laws.IdiomCopy
import Derived.Laws.NewBlocks
set_option linter.unusedSimpArgs false
set_option linter.unusedVariables false
namespace Go.Av.Tryz
open Go.Proofs
theorem j9c{P:Program}{name:String}{k:IntKind}{zs:List Int}{w:World}(h:Lib.TabIs P w name k zs)(b:Nat)(hb:P.globalNamed name=some b):b<w.heap.size:=by
 unfold Lib.TabIs World.var? at h;simp only[hb,Option.bind_some]at h;cases hc:w.heap[b]? with
 |none=>simp[hc]at h
 |some o=>exact(Zat.1 hc).1
theorem j5y{P:Program}{name:String}{k:IntKind}{zs:List Int}{w w':World}(hk:∀b,P.globalNamed name=some b→w'.heap[b]?=w.heap[b]?)(h:Lib.TabIs P w name k zs):Lib.TabIs P w' name k zs:=by
 unfold Lib.TabIs World.var? at h ⊢;cases hg:P.globalNamed name with
 |none=>simp[hg]at h
 |some g=>
  simp only[hg,Option.bind_some]at h ⊢;rw[hk g hg];exact h
def j9x(P:Program)(name:String)(w:World):Prop:=∀b,P.globalNamed name=some b→∃m:Int,w.cell? ⟨b,0,none⟩=some (.int .i64 m)
theorem j1q{w w':World}{b:Nat}(h:w'.heap[b]?=w.heap[b]?):w'.cell? ⟨b,0,none⟩=w.cell? ⟨b,0,none⟩:=by
 simp only[World.cell?,h]
theorem j6v{w:World}{b:Nat}{v:Value}(h:w.cell? ⟨b,0,none⟩=some v):b<w.heap.size:=by
 rcases Zbc b w.heap.size with h'|h'
 ·exact h'
 ·simp[World.cell?,Zdg h']at h
def j9O(P:Program)(name:String)(k:IntKind)(zs:List Int)(w:World):Prop:=∀b,P.globalNamed name=some b→Lib.TabIs P w name k zs
def u8At(P : Program)(w : World): Prop := ∀ g3 g4, P.globalNamed "unicode/utf8.first" = some g3 → P.globalNamed "unicode/utf8.acceptRanges" = some g4 → Lib.Utf8Tabs g3 g4 w
theorem j5C{g3 g4:Nat}{w w':World}(h3:w'.heap[g3]?=w.heap[g3]?)(h4:w'.heap[g4]?=w.heap[g4]?)(h:Lib.Utf8Tabs g3 g4 w):Lib.Utf8Tabs g3 g4 w':=by
 obtain⟨a,b⟩:=h;refine⟨fun c hc=>?_,fun i hi=>?_⟩
 ·have:=a c hc;simpa only[World.cell?,h3]using this
 ·have:=b i hi;simpa only[World.cell?,h4]using this
def j7F(P : Program)(b : Nat): Prop := P.globalNamed "unicode/utf8.first" = some b ∨ P.globalNamed "unicode/utf8.acceptRanges" = some b
theorem j9d{P : Program}{g3 g4 : Nat}{w : World}(h3 : P.globalNamed "unicode/utf8.first" = some g3)(h4 : P.globalNamed "unicode/utf8.acceptRanges" = some g4)(h : Lib.Utf8Tabs g3 g4 w): u8At P w ∧ ∀ b, j7F P b → b < w.heap.size := by
 have lt:∀(b o:Nat) (v:Value),w.cell? ⟨b,o,none⟩=some v→b<w.heap.size:=fun b o v hc=>by
  rcases Zbc b w.heap.size with h'|h'
  ·exact h'
  ·simp[World.cell?,Zdg h']at hc
 refine⟨fun a b ha hb=>?_,fun b hb=>?_⟩
 ·obtain rfl:=Option.some.inj (h3.symm.trans ha);obtain rfl:=Option.some.inj (h4.symm.trans hb);exact h
 ·obtain⟨q1,q2⟩:=h;rcases hb with hb|hb
  ·obtain rfl:=Option.some.inj (h3.symm.trans hb);exact lt _ _ _ (q1 0 (by decide))
  ·obtain rfl:=Option.some.inj (h4.symm.trans hb);exact lt _ _ _ (q2 0 (by decide)).1
instance : Inv Tryz.prog := ⟨fun _ w => j9O Tryz.prog "internal/strconv.uint64pow10" .u64 Lib.pow10Tab w ∧ j9x Tryz.prog "internal/bytealg.MaxLen" w ∧ (u8At Tryz.prog w ∧ ∀ b, j7F Tryz.prog b → b < w.heap.size),
 fun b => Tryz.prog.globalNamed "internal/strconv.uint64pow10" = some b ∨ Tryz.prog.globalNamed "internal/bytealg.MaxLen" = some b ∨ j7F Tryz.prog b,
 fun h b hb=>hb.elim (fun hb=>j9c (h.1 b hb) b hb) fun hb=>hb.elim (fun hb=>by obtain⟨m,hm⟩:=h.2.1 b hb;exact j6v hm) (h.2.2.2 b),
 fun{f w f' w'} hk h=>⟨fun b hb=>j5y (fun b hb=>(hk b (.inl hb)).1) (h.1 b hb),fun b hb=>by obtain⟨m,hm⟩:=h.2.1 b hb;exact⟨m,(j1q (hk b (.inr (.inl hb))).1).trans hm⟩,
  fun g3 g4 h3 h4=>j5C (hk g3 (.inr (.inr (.inl h3)))).1 (hk g4 (.inr (.inr (.inr h4)))).1 (h.2.2.1 g3 g4 h3 h4),fun b hb=>by
   have h1:=h.2.2.2 b hb;have h2:=(hk b (.inr (.inr hb))).1;rw[Zda h1]at h2;exact(Zat.1 h2).1⟩⟩
def errD(n:Nat):D:=if n=0 then .nil else .iface 76 (.int .i64 n)
theorem q4k{n:Nat}(h:n≠0):errD n=.iface 76 (.int .i64 n):=by simp[errD,h]
def q3v:q0m:=
 .seq (.reg [Qx 4 KF]) (.seq (.seq (.reg [Qc 7 0,Q 8 (.eqN 0 false (.t 7))]) (.cond (.t 8) (.seq (.reg [Qc 9 1,Q 10 (.bin .eql (.t 9) (Ki 0)),Qa 4 10]) .ret) .skip)) (.seq (.reg 
 [Qc 12 0,Q 13 (.asT 76 (.int .i64 0) (.t 12)),Qc 11 13,Q 14 (.ext 0 (.t 11)),Q 15 (.ext 1 (.t 11)),Qa 5 14,Qa 6 15]) (.seq (.reg [Qc 16 6,Qc 17 16,Qd 18 1 17 true,Qg 19 
 (.bin .gtr (.t 18) (Ki 0)) 17 true,Q 20 (.pick (.t 17) (.t 19) KF),Qc 21 20,Qd 22 5 21 true,Qd 23 1 21 true,Qg 24 (.bin .eql (.t 22) (.t 23)) 21 true,Q 25 (.pick (.t 21) 
 (.t 24) KF),Qa 4 25]) .ret)))
def q3y:List LRes:=[.tmp 4]
theorem q7C:q0t Tryz.prog 13 26 q3v q3y:=⟨_,_,Tryz.func13,rfl,by kernel_rfl,by kernel_rfl,rfl⟩
theorem z9J(e f:Nat):q0y Tryz.prog 13 [errD e,.int .i64 f] (fun r=>r=.one (.bool (decide (e=f)))):=by
 refine q7C.call rfl ?_
 by_cases h:e=0
 ·subst h;have he:errD 0=.nil:=rfl;rw[he];simp only[go_sem,↓reduceIte,q3v,q3y];congr 2
  have:((f:Int)=0)=(0=f):=by apply propext;omega
  simp only[this]
 ·rw[q4k h];simp only[go_sem,↓reduceIte,q3v,q3y];refine⟨fun _=>?_,fun q=>?_⟩
  ·congr 2
   simp only[Int.ofNat_inj]
  ·have:¬e=f:=by omega
   simp[this]
theorem indexByte_none{l:List UInt8}{c:UInt8}:Lib.indexByte l c = -1↔c∉l:=by
 induction l with
 |nil=>simp[Lib.indexByte]
 |cons b l ih=>
  have hge:=Lib.indexByte_ge l c;simp only[Lib.indexByte,Zau,not_or]
  by_cases h:b=c
  ·simp[h]
  ·rw[if_neg (by simpa using h)]
   by_cases h2:Lib.indexByte l c = -1
   ·rw[if_pos (by simpa using h2)];simp only[true_iff];exact⟨fun e=>h e.symm,ih.1 h2⟩
   ·rw[if_neg (by simpa using h2)];constructor
    ·intro e;omega
    ·intro e;exact absurd (ih.2 e.2) h2
theorem z0e{l:List UInt8}{c:UInt8}:(0≤Lib.indexByte l c)↔c∈l:=by
 have h:=indexByte_none (l:=l) (c:=c);have hge:=Lib.indexByte_ge l c;constructor
 ·intro h1
  by_cases hc:c∈l
  ·exact hc
  ·have:=h.2 hc;omega
 ·intro h1
  by_cases hc:Lib.indexByte l c = -1
  ·exact absurd h1 (h.1 hc)
  ·omega
def q2N:q0m:=
 .seq (.reg [Qx 4 (Ki 0)]) (.seq (.reg [Qc 5 0,Qc 6 1,⟨some 7,.prim .call [.k (.fn (.func 147) [] []),.t 5,.t 6] [],none⟩,Qa 4 7]) .ret)
def q2Q:List LRes:=[.tmp 4]
theorem q4p:q0t Tryz.prog 139 8 q2N q2Q:=⟨_,_,Tryz.func139,rfl,by kernel_rfl,by kernel_rfl,rfl⟩
theorem q63(s:List UInt8)(c:UInt8):q0y Tryz.prog 139 [.str s,.int .u8 c.toNat] (fun r=>r=.one (.int .i64 (Lib.indexByte s c))):=by
 refine q4p.call rfl ?_;simp only[go_sem,↓reduceIte,q2N,q2Q];refine q0e.entry Tryz.func147 (by kernel_rfl) (by kernel_rfl) (by kernel_rfl) (e:=Extern.BytealgIndexByte.indexByte) (by kernel_rfl) (.d (.int .i64 (Lib.indexByte s c))) (fun G w vs hl hv=>?_) ?_
 ·match vs,hl with
  |[v,u],_=>
   have h0:AVR G w (.d (.str s)) v:=hv 0 _ rfl;have h1:AVR G w (.d (.int .u8 c.toNat)) u:=hv 1 _ rfl;have h0:=h0.dinv;have h1:=h1.dinv;cases h0;cases h1;refine⟨_,Lib.run_indexByteString _ _ w,?_⟩;have e:(((c.toNat:Int).toNat).toUInt8)=c:=by simp
   rw[e];exact .d _ _ (.int _ _)
 simp only[go_sem,↓reduceIte]
def q6p:q0m:=
 .seq (.reg [Qx 4 (Ki 0)]) (.seq (.reg [Qc 5 0,Qc 6 1,⟨some 7,.call 139 [.t 5,.t 6],none⟩,Qa 4 7]) .ret)
def q6t:List LRes:=[.tmp 4]
theorem q8a:q0t Tryz.prog 124 8 q6p q6t:=⟨_,_,Tryz.func124,rfl,by kernel_rfl,by kernel_rfl,rfl⟩
theorem q9j(s:List UInt8)(c:UInt8):q0y Tryz.prog 124 [.str s,.int .u8 c.toNat] (fun r=>r=.one (.int .i64 (Lib.indexByte s c))):=by
 refine q8a.call rfl ?_;simp only[go_sem,↓reduceIte,q6p,q6t];refine q0i.of (q63 s c) ?_;simp only[go_sem,↓reduceIte]
/-! ### One byte in a string -/
def q3n:q0m:=
 .seq (.reg [Qx 4 (Ki 0)]) (.seq (.reg [Qc 14 1,Q 15 (.len true (.t 14)),Qa 5 15]) (.seq (.block 0 (.seq (.reg [Qc 17 5,Q 18 (.bin .eql (.t 17) (Ki 0)),Qc 19 18,Qd 20 1 19 
 false,Qd 21 0 19 false,Qg 22 (.bin .eql (.t 20) (.t 21)) 19 false,Q 23 (.pick (.t 19) KT (.t 22)),Qa 16 23]) (.cond (.t 16) (.seq (.reg [Qx 4 (Ki 0)]) .ret) (.seq (.reg [Qc 
 25 5,Q 26 (.bin .eql (.t 25) (Ki 1)),Qa 24 26]) (.cond (.t 24) (.seq (.reg [Qc 27 0,Qc 28 1,Q 29 (.idxS (.t 28) (Ki 0)),⟨some 30,.call 139 [.t 27,.t 29],none⟩,Qa 4 30]) 
 .ret) (.seq (.reg [Qc 32 5,Qc 33 0,Q 34 (.len true (.t 33)),Q 35 (.bin .geq (.t 32) (.t 34)),Qa 31 35]) (.cond (.t 31) (.seq (.reg [Qx 4 (Ki (-1))]) .ret) (.seq .bad (.cond 
 (.t 36) (.seq (.reg [Qc 45 0,Qc 46 1,⟨some 47,.prim .call [.k (.fn (.func 138) [] []),.t 45,.t 46] [],none⟩,Qa 4 47]) .ret) .skip))))))))) (.seq (.reg [Qc 48 1,Q 49 
 (.idxS (.t 48) (Ki 0)),Qa 6 49]) (.seq (.reg [Qc 50 1,Q 51 (.idxS (.t 50) (Ki 1)),Qa 7 51]) (.seq (.reg [Qx 8 (Ki 0)]) (.seq (.reg [Qc 52 0,Q 53 (.len true (.t 52)),Qc 54 5, 
 Q 55 (.bin .sub (.t 53) (.t 54)),Q 56 (.bin .add (.t 55) (Ki 1)),Qa 9 56]) (.seq (.reg [Qx 10 (Ki 0)]) (.seq (.block 1 (.loop (.seq (.seq (.reg [Qc 57 8,Qc 58 9,Q 59 (.bin 
 .lss (.t 57) (.t 58))]) (.cond (.t 59) .skip (.exit 1))) (.block 2 (.seq (.seq (.reg [Qc 60 0,Qc 61 8,Q 62 (.idxS (.t 60) (.t 61)),Qc 63 6,Q 64 (.bin .neq (.t 62) (.t 63))]) 
 (.cond (.t 64) (.seq (.reg [Qc 65 0,Qc 66 8,Q 67 (.bin .add (.t 66) (Ki 1)),Qc 68 9,Q 69 (.subS (.t 65) (some (.t 67)) (some (.t 68))),Qc 70 6,⟨some 71,.call 139 [.t 69, 
 .t 70],none⟩,Qa 11 71]) (.seq (.seq (.reg [Qc 72 11,Q 73 (.bin .lss (.t 72) (Ki 0))]) (.cond (.t 73) (.seq (.reg [Qx 4 (Ki (-1))]) .ret) .skip)) (.reg [Qc 74 8,Qc 75 11,Q 76 
 (.bin .add (.t 75) (Ki 1)),Q 77 (.bin .add (.t 74) (.t 76)),Qa 8 77]))) .skip)) (.seq (.seq (.reg [Qc 78 0,Qc 79 8,Q 80 (.bin .add (.t 79) (Ki 1)),Q 81 (.idxS (.t 78) (.t 
 80)),Qc 82 7,Q 83 (.bin .eql (.t 81) (.t 82)),Qc 84 83,Qd 85 0 84 true,Qd 86 8 84 true,Qd 87 8 84 true,Qd 88 5 84 true,Qg 89 (.bin .add (.t 87) (.t 88)) 84 true,Qg 90 
 (.subS (.t 85) (some (.t 86)) (some (.t 89))) 84 true,Qd 91 1 84 true,Qg 92 (.bin .eql (.t 90) (.t 91)) 84 true,Q 93 (.pick (.t 84) (.t 92) KF)]) (.cond (.t 93) (.seq (.reg 
 [Qc 94 8,Qa 4 94]) .ret) .skip)) (.seq (.reg [Qc 95 8,Q 96 (.bin .add (.t 95) (Ki 1)),Qa 8 96]) (.seq (.reg [Qc 97 10,Q 98 (.bin .add (.t 97) (Ki 1)),Qa 10 98]) (.seq .bad 
 (.cond (.t 107) (.seq (.reg [Qc 108 0,Qc 109 8,Q 110 (.subS (.t 108) (some (.t 109)) none),Qc 111 1,⟨some 112,.prim .call [.k (.fn (.func 138) [] []),.t 110,.t 111] [], 
 none⟩,Qa 12 112]) (.seq (.seq (.reg [Qc 113 12,Q 114 (.bin .geq (.t 113) (Ki 0))]) (.cond (.t 114) (.seq (.reg [Qc 115 12,Qc 116 8,Q 117 (.bin .add (.t 115) (.t 116)),Qa 4 
 117]) .ret) .skip)) (.seq (.reg [Qx 4 (Ki (-1))]) .ret))) (.seq .bad (.cond (.t 132) (.seq (.reg [Qc 133 0,Qc 134 8,Q 135 (.subS (.t 133) (some (.t 134)) none),Qc 136 1,⟨some 
 137,.call 140 [.t 135,.t 136],none⟩,Qa 13 137]) (.seq (.seq (.reg [Qc 138 13,Q 139 (.bin .lss (.t 138) (Ki 0))]) (.cond (.t 139) (.seq (.reg [Qx 4 (Ki (-1))]) .ret) .skip)) 
 (.seq (.reg [Qc 140 8,Qc 141 13,Q 142 (.bin .add (.t 140) (.t 141)),Qa 4 142]) .ret))) .skip)))))))))))) (.seq (.reg [Qx 4 (Ki (-1))]) .ret)))))))))
def q3o:List LRes:=[.tmp 4]
theorem q5o:q0t Tryz.prog 123 143 q3n q3o:=⟨_,_,Tryz.func123,rfl,by kernel_rfl,by kernel_rfl,rfl⟩
theorem z2S(s:List UInt8)(c:UInt8):q0y Tryz.prog 123 [.str s,.str [c]] (fun r=>r=.one (.int .i64 (Lib.indexByte s c))):=by
 refine q5o.call rfl ?_;simp only[go_sem,↓reduceIte,q3n,q3o];refine⟨fun h=>?_,fun h=>?_⟩
 ·subst h;simp[Lib.indexByte]
 ·have:getI [c] 0=some c:=rfl;simp only[go_sem,↓reduceIte,this];refine q0i.of (q63 s c) ?_;simp only[go_sem,↓reduceIte]
def q8g:q0m:=
 .seq (.reg [Qx 4 (Ki 0)]) (.seq (.reg [Qc 5 0,Qc 6 1,⟨some 7,.call 123 [.t 5,.t 6],none⟩,Qa 4 7]) .ret)
def q8j:List LRes:=[.tmp 4]
theorem z0k:q0t Tryz.prog 106 8 q8g q8j:=⟨_,_,Tryz.func106,rfl,by kernel_rfl,by kernel_rfl,rfl⟩
def q6Y:q0m:=
 .seq (.reg [Qx 4 KF]) (.seq (.reg [Qc 5 0,Qc 6 1,⟨some 7,.call 106 [.t 5,.t 6],none⟩,Q 8 (.bin .geq (.t 7) (Ki 0)),Qa 4 8]) .ret)
def q60:List LRes:=[.tmp 4]
theorem q8D:q0t Tryz.prog 82 9 q6Y q60:=⟨_,_,Tryz.func82,rfl,by kernel_rfl,by kernel_rfl,rfl⟩
theorem z3G(s:List UInt8)(c:UInt8):q0y Tryz.prog 82 [.str s,.str [c]] (fun r=>r=.one (.bool (decide (c∈s)))):=by
 have h:q0y Tryz.prog 106 [.str s,.str [c]] (fun r=>r=.one (.int .i64 (Lib.indexByte s c))):=by
  refine z0k.call rfl ?_;simp only[go_sem,↓reduceIte,q8g,q8j];refine q0i.of (z2S s c) ?_;simp only[go_sem,↓reduceIte]
 refine q8D.call rfl ?_;simp only[go_sem,↓reduceIte,q6Y,q60];refine q0i.of h ?_;simp only[go_sem,↓reduceIte];congr 2
 simp only[z0e]
def q6q:q0m:=
 .seq (.reg [Qx 4 (Ki 0)]) (.block 0 (.seq (.reg [Qc 161 1,Q 162 (.bin .leq (.k (.d (.int .i32 0))) (.t 161)),Qc 163 162,Qd 164 1 163 true,Qg 165 (.bin .lss (.t 164) (.k (.d 
 (.int .i32 128)))) 163 true,Q 166 (.pick (.t 163) (.t 165) KF),Qa 160 166]) (.cond (.t 160) (.seq (.reg [Qc 167 0,Qc 168 1,Q 169 (.cvI .u8 (.t 168)),⟨some 170,.call 124 [.t 
 167,.t 169],none⟩,Qa 4 170]) .ret) (.seq (.reg [Qc 172 1,Q 173 (.bin .eql (.t 172) (.k (.d (.int .i32 65533)))),Qa 171 173]) (.cond (.t 171) (.seq (.seq (.reg [Qc 174 0, 
 ⟨some 175,.prim (.range 9) [.t 174] [],none⟩]) (.block 9 (.loop (.seq (.reg [⟨some 176,.prim (.next true 0) [.t 175] [],none⟩,Q 177 (.ext 0 (.t 176))]) (.seq (.cond (.t 177) 
 .skip (.exit 9)) (.block 10 (.seq (.reg [Q 178 (.ext 1 (.t 176)),Q 179 (.ext 2 (.t 176)),Qa 5 178,Qa 6 179]) (.seq (.reg [Qc 180 6,Q 181 (.bin .eql (.t 180) (.k (.d (.int 
 .i32 65533))))]) (.cond (.t 181) (.seq (.reg [Qc 182 5,Qa 4 182]) .ret) .skip))))))))) (.seq (.reg [Qx 4 (Ki (-1))]) .ret)) (.seq (.reg [Qc 184 1,⟨some 185,.call 136 [.t 184], 
 none⟩,Q 186 (.not (.t 185)),Qa 183 186]) (.cond (.t 183) (.seq (.reg [Qx 4 (Ki (-1))]) .ret) .bad)))))))
def q6u:List LRes:=[.tmp 4]
theorem q8b:q0t Tryz.prog 122 187 q6q q6u:=⟨_,_,Tryz.func122,rfl,by kernel_rfl,by kernel_rfl,rfl⟩
theorem z3L(s:List UInt8)(c:UInt8)(hc:c.toNat<128):q0y Tryz.prog 122 [.str s,.int .i32 c.toNat] (fun r=>r=.one (.int .i64 (Lib.indexByte s c))):=by
 refine q8b.call rfl ?_;simp only[go_sem,↓reduceIte,q6q,q6u];refine⟨fun _=>⟨fun _=>?_,fun h=>?_⟩,fun h=>?_⟩
 ·simp(disch:=omega)only[IntWalk.i64_in,IntWalk.u8_in];refine q0i.of (q9j s c) ?_;simp only[go_sem,↓reduceIte]
 ·exfalso;omega
 ·exfalso;omega
def q5b:q0m:=
 .seq (.reg [Qx 4 KF]) (.seq (.reg [Qc 5 0,Qc 6 1,⟨some 7,.call 122 [.t 5,.t 6],none⟩,Q 8 (.bin .geq (.t 7) (Ki 0)),Qa 4 8]) .ret)
def q5l:List LRes:=[.tmp 4]
theorem q7o:q0t Tryz.prog 104 9 q5b q5l:=⟨_,_,Tryz.func104,rfl,by kernel_rfl,by kernel_rfl,rfl⟩
theorem z0Q(s:List UInt8)(c:UInt8)(hc:c.toNat<128):q0y Tryz.prog 104 [.str s,.int .i32 c.toNat] (fun r=>r=.one (.bool (decide (c∈s)))):=by
 refine q7o.call rfl ?_;simp only[go_sem,↓reduceIte,q5b,q5l];refine q0i.of (z3L s c hc) ?_;simp only[go_sem,↓reduceIte];congr 2
 simp only[z0e]
def q2a(s:List UInt8):Bool:=decide (s≠[])&&(decide (s.length≤200) && !decide ((0:UInt8)∈s))
def q8h:q0m:=
 .seq (.reg [Qx 2 KF]) (.seq (.reg [Qc 3 0,Q 4 (.bin .neq (.t 3) (.k (.d (.str [])))),Qc 5 4,Qd 6 0 5 true,Qg 7 (.len true (.t 6)) 5 true,Qg 8 (.bin .leq (.t 7) (Ki 200)) 5 
 true,Q 9 (.pick (.t 5) (.t 8) KF),Qc 10 9,Qd 11 0 10 true,⟨some 12,.call 104 [.t 11,.k (.d (.int .i32 0))],some (10,true)⟩,Qg 13 (.not (.t 12)) 10 true,Q 14 (.pick (.t 
 10) (.t 13) KF),Qa 2 14]) .ret)
def q8k:List LRes:=[.tmp 2]
theorem z0l:q0t Tryz.prog 79 15 q8h q8k:=⟨_,_,Tryz.func79,rfl,by kernel_rfl,by kernel_rfl,rfl⟩
theorem q8F(s:List UInt8):q0y Tryz.prog 79 [.str s] (fun r=>r=.one (.bool (q2a s))):=by
 refine z0l.call rfl ?_;simp only[go_sem,↓reduceIte,q8h,q8k];refine⟨fun h1=>⟨fun h2=>?_,fun h2=>?_⟩,fun h1=>?_⟩
 ·refine q0i.of (z0Q s 0 (by decide)) ?_;simp only[go_sem,↓reduceIte];have h3:s.length≤200:=by omega
  simp[q2a,h1,h3]
 ·have h3:¬s.length≤200:=by omega
  simp[q2a,h3]
 ·simp[q2a,h1]
def q4t:q0m:=
 .seq (.reg [Qx 2 KF]) (.seq (.seq (.reg [Qc 4 0,Q 5 (.len true (.t 4)),Q 6 (.bin .lss (.t 5) (Ki 1)),Qc 7 6,Qd 8 0 7 false,Qg 9 (.len true (.t 8)) 7 false,Qg 10 (.bin .gtr 
 (.t 9) (Ki 200)) 7 false,Q 11 (.pick (.t 7) KT (.t 10))]) (.cond (.t 11) (.seq (.reg [Qx 2 KF]) .ret) .skip)) (.seq (.seq (.reg [Qx 3 (Ki 0)]) (.block 0 (.loop (.seq (.seq (.reg 
 [Qc 12 3,Qc 13 0,Q 14 (.len true (.t 13)),Q 15 (.bin .lss (.t 12) (.t 14))]) (.cond (.t 15) .skip (.exit 0))) (.seq (.block 1 (.seq (.reg [Qc 18 0,Qc 19 3,Q 20 (.idxS (.t 
 18) (.t 19)),Q 21 (.bin .eql (.t 20) (Kb 0))]) (.cond (.t 21) (.seq (.reg [Qx 2 KF]) .ret) .skip))) (.reg [Qc 16 3,Q 17 (.bin .add (.t 16) (Ki 1)),Qa 3 17])))))) (.seq (.reg 
 [Qx 2 KT]) .ret)))
def q4v:List LRes:=[.tmp 2]
theorem q6F:q0t Tryz.prog 41 22 q4t q4v:=⟨_,_,Tryz.func41,rfl,by kernel_rfl,by kernel_rfl,rfl⟩
theorem q8J(s:List UInt8):q0y Tryz.prog 41 [.str s] (fun r=>r=.one (.bool (q2a s))):=by
 refine q6F.call rfl ?_;simp only[go_sem,↓reduceIte,q4t,q4v];refine⟨fun h1=>⟨fun h2=>?_,fun h2=>?_⟩,fun h1=>?_⟩
 ·have h3:¬s.length≤200:=by omega
  simp[q2a,h3]
 ·have hne:s≠[]:=fun e=>by rw[e]at h1;simp at h1
  have h3:s.length≤200:=by omega
  refine q0j (fun i:Nat=>⟨[(0,.d (.str s)),(3,.d (.int .i64 i))],[],[]⟩) (fun i=>i≤s.length∧(0:UInt8)∉s.take i) (fun i=>s.length-i) 0 ?_ ?_ ?_
  ·refine q0h ?_ trivial;simp only[go_sem,↓reduceIte,Sub,Int.natCast_add,Int.natCast_mul]
  ·simp
  ·rintro i ⟨hi,hn⟩;simp only[go_sem,↓reduceIte];refine⟨fun hlt=>?_,fun hge=>?_⟩
   ·obtain⟨c,hc⟩:=get_some (l:=s) (i:=i) (by omega);have hc8:=q3s c;rw[q0d,hc];simp(disch:=omega)only[go_sem,↓reduceIte];have hmem:s.take (i+1)=s.take i++[c]:=by rw[Zbd,hc];rfl
    refine⟨fun h0=>?_,fun h0=>⟨i+1,?_,⟨by omega,?_⟩,by omega⟩⟩
    ·have hc0:c=0:=UInt8.toNat_inj.1 (by have:(0:UInt8).toNat=0:=rfl;omega);have:(0:UInt8)∈s:=by rw[←hc0];exact Zaa hc
     simp[q2a,this]
    ·refine q0h ?_ trivial;simp only[go_sem,↓reduceIte,Sub,Int.natCast_add,Int.natCast_mul]
    ·rw[hmem];simp only[Zbb,List.mem_singleton,not_or];exact⟨hn,fun e=>h0 (by rw[←e];rfl)⟩
   ·have:s.take i=s:=List.take_of_length_le (by omega);rw[this]at hn;simp[q2a,hne,h3,hn]
 ·have:s=[]:=by cases s<;>simp_all<;>omega
  simp[q2a,this]
theorem q07{α:Type}{l:List α}{i:Nat}{x:α}(h:l[i]?=some x):l.drop i=x::l.drop (i+1):=by
 obtain⟨hl,rfl⟩:=Zab.1 h;exact Zcz hl
mutual
inductive Val where
 |mk (kind n:Int) (s:List UInt8) (l:List Val) (f:List Fld)
inductive Fld where
 |mk (name:List UInt8) (v:Val)
end
def Val.kind:Val→Int
 |.mk k _ _ _ _=>k
def Val.n:Val→Int
 |.mk _ n _ _ _=>n
def Val.s:Val→List UInt8
 |.mk _ _ s _ _=>s
def Val.l:Val→List Val
 |.mk _ _ _ l _=>l
def Val.f:Val→List Fld
 |.mk _ _ _ _ f=>f
def Fld.name:Fld→List UInt8
 |.mk n _=>n
def Fld.v:Fld→Val
 |.mk _ v=>v
mutual
def Val.d:Val→D
 |.mk k n s l f=>.agg [.int .i64 k,.int .i64 n,.str s,.list (q0M l),.list (q3H f)]
def q0M:List Val→List D
 |[]=>[]
 |v::r=>v.d::q0M r
def Fld.d:Fld→D
 |.mk nm v=>.agg (.str nm::v.d.cells)
def q3H:List Fld→List D
 |[]=>[]
 |x::r=>x.d::q3H r
end
theorem q6i(l:List Val):q0M l=l.map Val.d:=by induction l with|nil=>rfl|cons v r ih=>simp[q0M,ih]
theorem z48(l:List Fld):q3H l=l.map Fld.d:=by induction l with|nil=>rfl|cons v r ih=>simp[q3H,ih]
theorem q0n(l:List Val):(q0M l).length=l.length:=by simp[q6i]
theorem q5L(l:List Fld):(q3H l).length=l.length:=by simp[z48]
theorem q4Z(l:List Val)(i:Nat):(q0M l)[i]?=(l[i]?).map Val.d:=by simp[q6i]
theorem q3c(l:List Fld)(i:Nat):(q3H l)[i]?=(l[i]?).map Fld.d:=by simp[z48]
theorem Val.d_eq(v:Val):v.d=.agg [.int .i64 v.kind,.int .i64 v.n,.str v.s,.list (q0M v.l),.list (q3H v.f)]:=by cases v;simp[Val.d,Val.kind,Val.n,Val.s,Val.l,Val.f]
theorem Fld.d_eq(x:Fld):x.d=.agg [.str x.name,.int .i64 x.v.kind,.int .i64 x.v.n,.str x.v.s,.list (q0M x.v.l),.list (q3H x.v.f)]:=by cases x;simp[Fld.d,Fld.name,Fld.v,Val.d_eq,D.cells]
theorem z7h{v x:Val}(h:x∈v.l):SizeOf.sizeOf x<SizeOf.sizeOf v:=by
 cases v with
 |mk k n s l f=>
  have:=List.sizeOf_lt_of_mem h;simp only[Val.l]at this;simp only[Val.mk.sizeOf_spec];omega
theorem z4I{v:Val}{x:Fld}(h:x∈v.f):SizeOf.sizeOf x.v<SizeOf.sizeOf v:=by
 cases v with
 |mk k n s l f=>
  have:=List.sizeOf_lt_of_mem h;simp only[Val.f]at this;have h2:SizeOf.sizeOf x.v<SizeOf.sizeOf x:=by cases x;simp only[Fld.v,Fld.mk.sizeOf_spec];omega
  simp only[Val.mk.sizeOf_spec];omega
mutual
def Val.sm(m:Nat):Val→Bool
 |.mk _ _ s l f=>decide (s.length≤m)&&(decide (l.length≤m)&&(decide (f.length≤m)&&(smL m l&&smF m f)))
def smL(m:Nat):List Val→Bool
 |[]=>true
 |v::r=>v.sm m&&smL m r
def Fld.sm(m:Nat):Fld→Bool
 |.mk nm v=>decide (nm.length≤m)&&v.sm m
def smF(m:Nat):List Fld→Bool
 |[]=>true
 |x::r=>x.sm m&&smF m r
end
theorem j7u{m:Nat}{l:List Val}:smL m l=true↔∀x∈l,x.sm m=true:=by induction l with|nil=>simp[smL]|cons v r ih=>simp[smL,ih]
theorem j7t{m:Nat}{l:List Fld}:smF m l=true↔∀x∈l,x.sm m=true:=by induction l with|nil=>simp[smF]|cons v r ih=>simp[smF,ih]
theorem Val.q6L{m:Nat}{v:Val}:v.sm m=true↔v.s.length≤m∧v.l.length≤m∧v.f.length≤m∧(∀x∈v.l,x.sm m=true)∧∀x∈v.f,x.sm m=true:=by
 cases v;simp[Val.sm,j7u,j7t,Val.s,Val.l,Val.f]
theorem Fld.q6L{m:Nat}{x:Fld}:x.sm m=true↔x.name.length≤m∧x.v.sm m=true:=by
 cases x;simp[Fld.sm,Fld.name,Fld.v]
/-! ### How great -/
mutual
def szV(deep:Nat):Val→Int→Bool×Int
 |.mk _ _ _ l f,left=>
  if 8<deep then(false,left-1)
  else if left-1<0 then(false,left-1)
  else match szL (deep+1) l (left-1)with
   |(false,r)=>(false,r)
   |(true,r)=>szF (deep+1) f r
def szL(deep:Nat):List Val→Int→Bool×Int
 |[],left=>(true,left)
 |v::r,left=>match szV deep v left with
  |(false,q)=>(false,q)
  |(true,q)=>szL deep r q
def szF(deep:Nat):List Fld→Int→Bool×Int
 |[],left=>(true,left)
 |.mk _ v::r,left=>match szV deep v left with
  |(false,q)=>(false,q)
  |(true,q)=>szF deep r q
end
mutual
theorem z9S(deep:Nat):∀(v:Val) (left:Int),0≤left → -1≤(szV deep v left).2∧(szV deep v left).2≤left∧((szV deep v left).1=true→0≤(szV deep v left).2)
 |.mk k n s l f,left,h=>by
  unfold szV;split
  ·simp;omega
  ·split
   ·simp;omega
   ·have h1:=j6g (deep+1) l (left-1) (by omega);split
    ·rename_i r hr;rw[hr]at h1;simp at h1 ⊢;omega
    ·rename_i r hr;rw[hr]at h1;simp at h1;have h2:=j6e (deep+1) f r h1.2.2;refine⟨h2.1,by omega,h2.2.2⟩
theorem j6g(deep:Nat):∀(l:List Val) (left:Int),0≤left → -1≤(szL deep l left).2∧(szL deep l left).2≤left∧((szL deep l left).1=true→0≤(szL deep l left).2)
 |[],left,h=>by simp[szL];omega
 |v::r,left,h=>by
  have h1:=z9S deep v left h;unfold szL;split
  ·rename_i q hq;rw[hq]at h1;simp at h1 ⊢;omega
  ·rename_i q hq;rw[hq]at h1;simp at h1;have h2:=j6g deep r q h1.2.2;exact⟨h2.1,by omega,h2.2.2⟩
theorem j6e(deep:Nat):∀(l:List Fld) (left:Int),0≤left → -1≤(szF deep l left).2∧(szF deep l left).2≤left∧((szF deep l left).1=true→0≤(szF deep l left).2)
 |[],left,h=>by simp[szF];omega
 |.mk nm v::r,left,h=>by
  have h1:=z9S deep v left h;unfold szF;split
  ·rename_i q hq;rw[hq]at h1;simp at h1 ⊢;omega
  ·rename_i q hq;rw[hq]at h1;simp at h1;have h2:=j6e deep r q h1.2.2;exact⟨h2.1,by omega,h2.2.2⟩
end
theorem j9b(deep:Nat)(v:Val)(left:Int):szV deep v left=if 8<deep then(false,left-1)else if left-1<0 then(false,left-1)else
  match szL (deep+1) v.l (left-1)with
   |(false,r)=>(false,r)
   |(true,r)=>szF (deep+1) v.f r:=by
 cases v;simp only[szV,Val.l,Val.f]
def z1k:q0m:=
 .seq (.reg [⟨some 3,.box (.t 0),none⟩,Qx 6 KF]) (.seq (.reg [Qc 11 2,Q 12 (.nck (.t 11)),Q 13 (.ld false 1 (.t 12)),Q 14 (.bin .sub (.t 13) (Ki 1)),Q 15 (.nck (.t 11)), 
 ⟨none,.st 1 (.t 15) (.t 14),none⟩]) (.seq (.seq (.reg [Qc 16 1,Q 17 (.bin .gtr (.t 16) (Ki 8)),Qc 18 17,Qd 19 2 18 false,Qg 20 (.nck (.t 19)) 18 false,Qg 21 (.ld false 1 
 (.t 20)) 18 false,Qg 22 (.bin .lss (.t 21) (Ki 0)) 18 false,Q 23 (.pick (.t 18) KT (.t 22))]) (.cond (.t 23) (.seq (.reg [Qx 6 KF]) .ret) .skip)) (.seq (.seq (.reg [Q 24 (.fa 3 
 (.t 3)),Q 25 (.ld false 1 (.t 24)),Q 26 (.len false (.t 25)),Q 27 (.cp (Ki 0))]) (.block 0 (.loop (.seq (.reg [Q 28 (.bin .lss (.t 27) (.t 26))]) (.seq (.cond (.t 28) .skip 
 (.exit 0)) (.seq (.block 1 (.seq (.reg [Q 29 (.ia 5 (.t 25) (.t 27)),Q 30 (.ld true 5 (.t 29)),⟨some 8,.allo [.int .i64 0,.int .i64 0,.str [],.list [],.list []],none⟩, 
 ⟨none,.st 5 (.t 8) (.t 30),none⟩]) (.seq (.reg [Q 31 (.ld true 5 (.t 8)),Qc 32 1,Q 33 (.bin .add (.t 32) (Ki 1)),Qc 34 2,⟨some 35,.prim .call [.k (.fn (.func 58) [] []), 
 .t 31,.t 33,.t 34] [],none⟩,Q 36 (.not (.t 35))]) (.cond (.t 36) (.seq (.reg [Qx 6 KF]) .ret) .skip)))) (.reg [Q 37 (.bin .add (.t 27) (Ki 1)),Qc 27 37]))))))) (.seq (.seq 
 (.reg [Q 38 (.fa 4 (.t 3)),Q 39 (.ld false 1 (.t 38)),Q 40 (.len false (.t 39)),Q 41 (.cp (Ki 0))]) (.block 2 (.loop (.seq (.reg [Q 42 (.bin .lss (.t 41) (.t 40))]) (.seq 
 (.cond (.t 42) .skip (.exit 2)) (.seq (.block 3 (.seq (.reg [Q 43 (.ia 6 (.t 39) (.t 41)),Q 44 (.ld true 6 (.t 43)),⟨some 10,.allo [.str [],.int .i64 0,.int .i64 0,.str [], 
 .list [],.list []],none⟩,⟨none,.st 6 (.t 10) (.t 44),none⟩]) (.seq (.reg [Q 45 (.fa 1 (.t 10)),Q 46 (.ld true 5 (.t 45)),Qc 47 1,Q 48 (.bin .add (.t 47) (Ki 1)),Qc 49 2, 
 ⟨some 50,.prim .call [.k (.fn (.func 58) [] []),.t 46,.t 48,.t 49] [],none⟩,Q 51 (.not (.t 50))]) (.cond (.t 51) (.seq (.reg [Qx 6 KF]) .ret) .skip)))) (.reg [Q 52 (.bin 
 .add (.t 41) (Ki 1)),Qc 41 52]))))))) (.seq (.reg [Qx 6 KT]) .ret)))))
def z1s:List LRes:=[.tmp 6]
theorem z2Q:q0t Tryz.prog 58 53 z1k z1s:=⟨_,_,Tryz.func58,rfl,by kernel_rfl,by kernel_rfl,rfl⟩
theorem j3s:∀(m:Nat) (v:Val),SizeOf.sizeOf v≤m→∀(deep:Nat) (left:Int),1≤deep→deep≤9→0≤left→left≤300→v.sm 1048576=true→
  q71 Tryz.prog 58 [.d v.d,.d (.int .i64 deep),.ptr (.x 0) 0] [.cells [.d (.int .i64 left)]] (.d (.bool (szV deep v left).1)) [.cells [.d (.int .i64 (szV deep v left).2)]]:=by
 intro m;induction m with
 |zero=>intro v h;cases v;simp at h
 |succ m ih=>
  intro v hv deep left hd1 hd2 hl1 hl2 hsm;obtain⟨_,hll,hfl,hsl,hsf⟩:=Val.q6L.1 hsm;have hvl:=q0n v.l;have hfl':=q5L v.f;generalize hR:szV deep v left=R;rw[j9b]at hR;rw[Val.d_eq];refine z2Q.q4X (by kernel_rfl) rfl ?_;simp(disch:=omega)only[go_sem,↓reduceIte,z1k,z1s];refine⟨fun h8=>⟨fun h0=>?_,fun h0=>?_⟩,fun h8=>?_⟩
  ·rw[if_neg (by omega),if_pos (by omega)]at hR;subst hR;exact⟨rfl,rfl⟩
  ·rw[if_neg (by omega),if_neg (by omega)]at hR;refine q0j (fun y:Nat×Int=>⟨[(1,.d (.int .i64 deep)),(2,.ptr (.x 0) 0),(3,.ptr (.l 3) 0),(25,.d (.list (q0M v.l))),(26,.d (.int .i64 (q0M v.l).length)),(27,.d (.int .i64 y.1))],
     [(3,.cells [.d (.int .i64 v.kind),.d (.int .i64 v.n),.d (.str v.s),.d (.list (q0M v.l)),.d (.list (q3H v.f))])],[(0,.cells [.d (.int .i64 y.2)])]⟩)
    (fun y=>y.1≤v.l.length∧0≤y.2∧y.2≤300∧(match szL (deep+1) (v.l.drop y.1) y.2 with
     |(false,r)=>(false,r)
     |(true,r)=>szF (deep+1) v.f r)=R) (fun y=>v.l.length-y.1) (0,left-1) ?_ ?_ ?_
   ·refine Weak.mk ?_ ?_ ?_<;>simp only[go_sem,↓reduceIte,Sub,Int.natCast_add,Int.natCast_mul]
   ·exact⟨by simp,by simp only;omega,by simp only;omega,by simpa using hR⟩
   ·rintro⟨i,q⟩ ⟨hi,hq1,hq2,hF⟩;simp only at hi hq1 hq2 hF;simp only[go_sem,↓reduceIte,hvl];refine⟨fun hlt=>?_,fun hge=>?_⟩
    ·obtain⟨x,hx⟩:=get_some (l:=v.l) (i:=i) (by omega);rw[q07 hx]at hF;have hc:=ih x (by have:=z7h (Zaa hx);omega) (deep+1) q (by omega) (by omega) hq1 hq2 (hsl x (Zaa hx));have hbd:=z9S (deep+1) x q hq1;unfold szL at hF;rw[Val.d_eq]at hc;generalize hS:szV (deep+1) x q=S at hc hbd hF;obtain⟨sb,sq⟩:=S;simp only[Int.natCast_add,Zcp]at hc;simp(disch:=omega)only[go_sem,↓reduceIte,q0d,q4Z,hx,Val.d_eq];refine q0e.mc1 (.x 0) rfl (hc) rfl rfl rfl rfl ⟨rfl,rfl⟩ ?_;cases sb
     ·simp only at hF;subst hF;simp only[go_sem,↓reduceIte]
     ·simp only at hF hbd;simp(disch:=omega)only[go_sem,↓reduceIte];refine⟨(i+1,sq),?_,⟨by simp only;omega,by simp only;exact hbd.2.2 trivial,by simp only;omega,hF⟩,by simp only;omega⟩;refine Weak.mk ?_ ?_ ?_<;>simp only[go_sem,↓reduceIte,Sub,Int.natCast_add,Int.natCast_mul,hvl]
    ·have h0':v.l.drop i=[]:=Zah (by omega);rw[h0']at hF;simp only[szL]at hF;refine q0j (fun y:Nat×Int=>⟨[(1,.d (.int .i64 deep)),(2,.ptr (.x 0) 0),(3,.ptr (.l 3) 0),(39,.d (.list (q3H v.f))),(40,.d (.int .i64 (q3H v.f).length)),(41,.d (.int .i64 y.1))],
       [(3,.cells [.d (.int .i64 v.kind),.d (.int .i64 v.n),.d (.str v.s),.d (.list (q0M v.l)),.d (.list (q3H v.f))])],[(0,.cells [.d (.int .i64 y.2)])]⟩)
      (fun y=>y.1≤v.f.length∧0≤y.2∧y.2≤300∧szF (deep+1) (v.f.drop y.1) y.2=R) (fun y=>v.f.length-y.1) (0,q) ?_ ?_ ?_
     ·refine Weak.mk ?_ ?_ ?_<;>simp only[go_sem,↓reduceIte,Sub,Int.natCast_add,Int.natCast_mul]
     ·exact⟨by simp,hq1,hq2,by simpa using hF⟩
     ·rintro⟨j,q'⟩ ⟨hj,hr1,hr2,hG⟩;simp only at hj hr1 hr2 hG;simp only[go_sem,↓reduceIte,hfl'];refine⟨fun hlt=>?_,fun hge=>?_⟩
      ·obtain⟨x,hx⟩:=get_some (l:=v.f) (i:=j) (by omega);rw[q07 hx]at hG;have hc:=ih x.v (by have:=z4I (Zaa hx);omega) (deep+1) q' (by omega) (by omega) hr1 hr2 (Fld.q6L.1 (hsf x (Zaa hx))).2;have hbd:=z9S (deep+1) x.v q' hr1;have hG':(match szV (deep+1) x.v q' with
         |(false,q)=>(false,q)
         |(true,q)=>szF (deep+1) (v.f.drop (j+1)) q)=R:=by
        rw[←hG];cases x;simp only[szF,Fld.v]
       rw[Val.d_eq]at hc;generalize hS:szV (deep+1) x.v q'=S at hc hbd hG';obtain⟨sb,sq⟩:=S;simp only[Int.natCast_add,Zcp]at hc;simp(disch:=omega)only[go_sem,↓reduceIte,q0d,q3c,hx,Fld.d_eq];refine q0e.mc1 (.x 0) rfl (hc) rfl rfl rfl rfl ⟨rfl,rfl⟩ ?_;cases sb
       ·simp only at hG';subst hG';simp only[go_sem,↓reduceIte]
       ·simp only at hG' hbd;simp(disch:=omega)only[go_sem,↓reduceIte];refine⟨(j+1,sq),?_,⟨by simp only;omega,by simp only;exact hbd.2.2 trivial,by simp only;omega,hG'⟩,by simp only;omega⟩;refine Weak.mk ?_ ?_ ?_<;>simp only[go_sem,↓reduceIte,Sub,Int.natCast_add,Int.natCast_mul,hfl']
      ·have h0':v.f.drop j=[]:=Zah (by omega);rw[h0']at hG;simp only[szF]at hG;subst hG;simp only[go_sem,↓reduceIte]
  ·rw[if_pos (by omega)]at hR;subst hR;exact⟨rfl,rfl⟩
def q9q:q0m:=
 .seq (.reg [Qx 2 (.k (.d .nil))]) (.seq (.seq (.reg [Qc 3 0,Q 4 (.bin .lss (.t 3) (Ki (-1000000000))),Qc 5 4,Qd 6 0 5 false,Qg 7 (.bin .gtr (.t 6) (Ki 1000000000)) 5 false,Q 8 
 (.pick (.t 5) KT (.t 7))]) (.cond (.t 8) (.seq (.reg [Q 9 (.mkI 76 (Ki 1)),Qa 2 9]) .ret) .skip)) (.seq (.reg [Qx 2 (.k (.d .nil))]) .ret))
def q9t:List LRes:=[.tmp 2]
theorem q9k:q0t Tryz.prog 78 10 q9q q9t:=⟨_,_,Tryz.func78,rfl,by kernel_rfl,by kernel_rfl,rfl⟩
def z18:q0m:=
 .seq (.reg [Qx 2 (Ki 0)]) (.seq (.reg [Qc 4 0,Q 5 (.bin .quo (.t 4) (Ki 1000)),Qa 3 5]) (.seq (.seq (.reg [Qc 6 0,Q 7 (.bin .rem (.t 6) (Ki 1000)),Q 8 (.bin .lss (.t 7) (Ki 
 0))]) (.cond (.t 8) (.reg [Qc 9 3,Q 10 (.bin .sub (.t 9) (Ki 1)),Qa 3 10]) .skip)) (.seq (.reg [Qc 11 3,Qa 2 11]) .ret)))
def z2f:List LRes:=[.tmp 2]
theorem z3R:q0t Tryz.prog 115 12 z18 z2f:=⟨_,_,Tryz.func115,rfl,by kernel_rfl,by kernel_rfl,rfl⟩
def z8M:q0m:=
 .seq (.reg [Qx 2 (Ki 0),Qx 3 (.k (.d .nil))]) (.seq (.reg [Qc 5 0,⟨some 6,.call 78 [.t 5],none⟩,Qa 4 6]) (.seq (.seq (.reg [Qc 7 4,Q 8 (.eqN 0 true (.t 7))]) (.cond (.t 8) 
 (.seq (.reg [Qc 9 4,Qx 2 (Ki 0),Qa 3 9]) .ret) .skip)) (.seq (.reg [Qc 10 0,Qa 2 10,Qx 3 (.k (.d .nil))]) .ret)))
def z8N:List LRes:=[.tmp 2,.tmp 3]
theorem z79:q0t Tryz.prog 114 11 z8M z8N:=⟨_,_,Tryz.func114,rfl,by kernel_rfl,by kernel_rfl,rfl⟩
def z54:q0m:=
 .seq (.reg [Qx 10 (Ki 0),Qx 11 (.k (.d .nil))]) (.seq (.seq (.reg [Qc 14 0,Qc 15 1,Qc 16 2,Qc 17 3,Qc 18 4,⟨some 19,.bsl 3 1 [.t 14,.t 15,.t 16,.t 17,.t 18],none⟩,Q 20 
 (.len false (.t 19)),Q 21 (.cp (Ki 0))]) (.block 0 (.loop (.seq (.reg [Q 22 (.bin .lss (.t 21) (.t 20))]) (.seq (.cond (.t 22) .skip (.exit 0)) (.seq (.block 1 (.seq (.reg [Q 23 
 (.ia 1 (.t 19) (.t 21)),Q 24 (.ld false 1 (.t 23)),Qa 13 24]) (.seq (.reg [Qc 25 13,⟨some 26,.call 78 [.t 25],none⟩,Q 27 (.eqN 0 true (.t 26))]) (.cond (.t 27) (.seq (.reg 
 [Q 28 (.mkI 76 (Ki 1)),Qx 10 (Ki 0),Qa 11 28]) .ret) .skip)))) (.reg [Q 29 (.bin .add (.t 21) (Ki 1)),Qc 21 29]))))))) (.seq (.reg [Qc 30 0,Qc 31 1,Q 32 (.bin .mul (.t 30) 
 (.t 31)),Qc 33 2,Qc 34 3,Q 35 (.bin .mul (.t 33) (.t 34)),Q 36 (.bin .add (.t 32) (.t 35)),⟨some 37,.call 115 [.t 36],none⟩,Qc 38 4,Q 39 (.bin .add (.t 37) (.t 38)), 
 ⟨some 40,.call 114 [.t 39],none⟩,Q 41 (.ext 0 (.t 40)),Q 42 (.ext 1 (.t 40)),Qa 10 41,Qa 11 42]) .ret))
def z57:List LRes:=[.tmp 10,.tmp 11]
theorem z6K:q0t Tryz.prog 93 43 z54 z57:=⟨_,_,Tryz.func93,rfl,by kernel_rfl,by kernel_rfl,rfl⟩
/-! ### What they say -/
def err(k:Int):D:=.iface 76 (.int .i64 k)
def Lim(n:Int):Prop := -1000000000≤n∧n≤1000000000
instance (n:Int):Decidable (Lim n):=inferInstanceAs (Decidable (_∧_))
def I(n:Int):D:=.int .i64 n
def i64(n:Int):Prop := -9223372036854775808≤n∧n≤9223372036854775807
def intE:Option Int→Res
 |some n=>.tup [I n,.nil]
 |none=>.tup [I 0,err 1]
def okF(n:Int):Option Int:=if Lim n then some n else none
def twoF(a x b y c:Int):Option Int:=
 if Lim a∧Lim x∧Lim b∧Lim y∧Lim c then okF ((a*x+b*y) / 1000+c)else none
theorem z4z{a b A B:Int}(h1 : -A≤a)(h2:a≤A)(h3 : -B≤b)(h4:b≤B): -(A*B)≤a*b∧a*b≤A*B:=by
 have e1:=Int.mul_nonneg (show 0≤A-a by omega) (show 0≤B-b by omega);have e2:=Int.mul_nonneg (show 0≤A+a by omega) (show 0≤B+b by omega);have e3:=Int.mul_nonneg (show 0≤A-a by omega) (show 0≤B+b by omega);have e4:=Int.mul_nonneg (show 0≤A+a by omega) (show 0≤B-b by omega);simp only[Int.sub_mul,Int.add_mul,Int.mul_sub,Int.mul_add]at e1 e2 e3 e4;omega
theorem q4N{n:Int}(h:Lim n):q0y Tryz.prog 78 [.int .i64 n] (fun r=>r=.one .nil):=by
 refine q9k.call rfl ?_;simp only[go_sem,↓reduceIte,q9q,q9t];unfold Lim at h;refine⟨fun a b=>?_,fun a=>?_⟩<;>exfalso<;>omega
theorem q3A{n:Int}(h:¬Lim n):q0y Tryz.prog 78 [.int .i64 n] (fun r=>r=.one (err 1)):=by
 refine q9k.call rfl ?_;simp only[go_sem,↓reduceIte,q9q,q9t];unfold Lim at h;refine⟨fun a=>⟨fun b=>?_,fun b=>?_⟩,fun a=>?_⟩<;>first|rfl|(exfalso;omega)
theorem z4p{n:Int}(h:i64 n):q0y Tryz.prog 115 [.int .i64 n] (fun r=>r=.one (I (n / 1000))):=by
 refine z3R.call rfl ?_;simp only[go_sem,↓reduceIte,z18,z2f];unfold i64 at h;unfold I;rw[Int.tmod_eq_emod,Int.tdiv_eq_ediv];have h1:((1000:Int).natAbs:Int)=1000:=rfl;have h2:(1000:Int).sign=1:=rfl
 by_cases hd:0≤n∨(1000:Int)∣n
 ·rw[if_pos hd,if_pos hd];refine⟨fun a=>?_,fun a=>?_⟩
  ·exfalso;omega
  ·rw[IntWalk.i64_in _ (by omega)];congr 2;omega
 ·rw[if_neg hd,if_neg hd,h1,h2];refine⟨fun a=>?_,fun a=>?_⟩
  ·rw[IntWalk.i64_in (n / 1000+1) (by omega),IntWalk.i64_in _ (by omega)];congr 2;omega
  ·exfalso;omega
theorem z8i(n:Int):q0y Tryz.prog 114 [.int .i64 n] (fun r=>r=intE (okF n)):=by
 refine z79.call rfl ?_;simp only[go_sem,↓reduceIte,z8M,z8N];unfold okF
 by_cases h:Lim n
 ·refine q0i.of (q4N h) ?_;simp only[go_sem,↓reduceIte,if_pos h];rfl
 ·refine q0i.of (q3A h) ?_;simp only[go_sem,↓reduceIte,if_neg h,err];rfl
theorem q66{a x b y c:Int}:q0y Tryz.prog 93 [.int .i64 a,.int .i64 x,.int .i64 b,.int .i64 y,.int .i64 c] (fun r=>r=intE (twoF a x b y c)):=by
 refine z6K.call rfl ?_;unfold twoF;simp only[go_sem,↓reduceIte,z54,z57];refine q1X ?_;simp only[go_sem,↓reduceIte,getI]
 by_cases ha:Lim a
 rotate_left
 ·refine q0i.of (q3A ha) ?_;simp only[go_sem,↓reduceIte,err,ha];rfl
 refine q0i.of (q4N ha) ?_;simp only[go_sem,↓reduceIte];refine q1X ?_;simp only[go_sem,↓reduceIte,getI]
 by_cases hx:Lim x
 rotate_left
 ·refine q0i.of (q3A hx) ?_;simp only[go_sem,↓reduceIte,err,hx];rfl
 refine q0i.of (q4N hx) ?_;simp only[go_sem,↓reduceIte];refine q1X ?_;simp only[go_sem,↓reduceIte,getI]
 by_cases hb:Lim b
 rotate_left
 ·refine q0i.of (q3A hb) ?_;simp only[go_sem,↓reduceIte,err,hb];rfl
 refine q0i.of (q4N hb) ?_;simp only[go_sem,↓reduceIte];refine q1X ?_;simp only[go_sem,↓reduceIte,getI]
 by_cases hy:Lim y
 rotate_left
 ·refine q0i.of (q3A hy) ?_;simp only[go_sem,↓reduceIte,err,hy];rfl
 refine q0i.of (q4N hy) ?_;simp only[go_sem,↓reduceIte];refine q1X ?_;simp only[go_sem,↓reduceIte,getI]
 by_cases hc:Lim c
 rotate_left
 ·refine q0i.of (q3A hc) ?_;simp only[go_sem,↓reduceIte,err,hc];rfl
 refine q0i.of (q4N hc) ?_;simp only[go_sem,↓reduceIte];refine q1X ?_;have b1:=z4z ha.1 ha.2 hx.1 hx.2;have b2:=z4z hb.1 hb.2 hy.1 hy.2;have w1:IntKind.i64.wrap (a*x)=a*x:=IntWalk.i64_in _ (by omega);have w2:IntKind.i64.wrap (b*y)=b*y:=IntWalk.i64_in _ (by omega);have w3:IntKind.i64.wrap (a*x+b*y)=a*x+b*y:=IntWalk.i64_in _ (by omega);have w4:IntKind.i64.wrap ((a*x+b*y) / 1000+c)=(a*x+b*y) / 1000+c:=IntWalk.i64_in _ (by unfold Lim at hc;omega);simp only[go_sem,↓reduceIte,w1,w2,w3]
 refine q0i.of (z4p (by unfold i64;omega)) ?_;simp only[go_sem,↓reduceIte,I,w4];refine q0i.of (z8i _) ?_;cases hr:okF ((a*x+b*y) / 1000+c)with
 |none=>
  simp only[go_sem,↓reduceIte,intE,I,err,ha,hx,hb,hy,hc,hr]
 |some n=>
  simp only[go_sem,↓reduceIte,intE,I,err,ha,hx,hb,hy,hc,hr]
def z30:q0m:=
 .seq (.reg [⟨some 0,.allo [.int .i64 0,.int .i64 0,.int .i64 0,.int .i64 0,.int .i64 0,.int .i64 0],none⟩]) (.seq (.reg [Q 1 (.bld [(0,1),(1,1),(2,1),(3,1),(4,1), 
 (5,1)] [.int .i64 0,.int .i64 0,.int .i64 0,.int .i64 0,.int .i64 0,.int .i64 0] [] [(0,.k (.d (.int .i64 1000))),(3,.k (.d (.int .i64 1000)))]),⟨none,.st 6 (.t 0) (.t 
 1),none⟩]) .ret)
def z33:List LRes:=[.cell 0 true 6]
theorem z5p:q0t Tryz.prog 30 2 z30 z33:=⟨_,_,Tryz.func30,rfl,by kernel_rfl,by kernel_rfl,rfl⟩
def z17:q0m:=
 .seq (.reg [⟨some 2,.box (.t 0),none⟩,⟨some 3,.box (.t 1),none⟩,⟨some 4,.allo [.int .i64 0,.int .i64 0],none⟩,Qx 5 (.k (.d .nil))]) (.seq (.reg [Q 10 (.fa 0 (.t 2)),Q 11 
 (.ld false 1 (.t 10)),Q 12 (.fa 0 (.t 3)),Q 13 (.ld false 1 (.t 12)),Q 14 (.fa 2 (.t 2)),Q 15 (.ld false 1 (.t 14)),Q 16 (.fa 1 (.t 3)),Q 17 (.ld false 1 (.t 16)),Q 18 
 (.fa 4 (.t 2)),Q 19 (.ld false 1 (.t 18)),⟨some 20,.call 93 [.t 11,.t 13,.t 15,.t 17,.t 19],none⟩,Qc 9 20,Q 21 (.ext 0 (.t 9)),Q 22 (.ext 1 (.t 9)),Qa 6 21,Qa 7 22]) 
 (.seq (.seq (.reg [Qc 23 7,Q 24 (.eqN 0 true (.t 23))]) (.cond (.t 24) (.seq (.reg [Q 25 (.bld [(0,1),(1,1)] [.int .i64 0,.int .i64 0] [] []),Qc 26 7,⟨none,.st 2 (.t 4) 
 (.t 25),none⟩,Qa 5 26]) .ret) .skip)) (.seq (.reg [Q 28 (.fa 1 (.t 2)),Q 29 (.ld false 1 (.t 28)),Q 30 (.fa 0 (.t 3)),Q 31 (.ld false 1 (.t 30)),Q 32 (.fa 3 (.t 2)),Q 33 
 (.ld false 1 (.t 32)),Q 34 (.fa 1 (.t 3)),Q 35 (.ld false 1 (.t 34)),Q 36 (.fa 5 (.t 2)),Q 37 (.ld false 1 (.t 36)),⟨some 38,.call 93 [.t 29,.t 31,.t 33,.t 35,.t 37], 
 none⟩,Qc 27 38,Q 39 (.ext 0 (.t 27)),Q 40 (.ext 1 (.t 27)),Qa 8 39,Qa 7 40]) (.seq (.seq (.reg [Qc 41 7,Q 42 (.eqN 0 true (.t 41))]) (.cond (.t 42) (.seq (.reg [Q 43 (.bld 
 [(0,1),(1,1)] [.int .i64 0,.int .i64 0] [] []),Qc 44 7,⟨none,.st 2 (.t 4) (.t 43),none⟩,Qa 5 44]) .ret) .skip)) (.seq (.reg [Qc 45 6,Qc 46 8,Q 47 (.bld [(0,1),(1, 
 1)] [.int .i64 0,.int .i64 0] [] [(0,.t 45),(1,.t 46)]),⟨none,.st 2 (.t 4) (.t 47),none⟩,Qx 5 (.k (.d .nil))]) .ret)))))
def z2e:List LRes:=[.cell 4 true 2,.tmp 5]
theorem z3P:q0t Tryz.prog 134 48 z17 z2e:=⟨_,_,Tryz.func134,rfl,by kernel_rfl,by kernel_rfl,rfl⟩
def z1f:q0m:=
 .seq (.reg [⟨some 2,.box (.t 0),none⟩,⟨some 3,.box (.t 1),none⟩,⟨some 4,.allo [.int .i64 0,.int .i64 0,.int .i64 0,.int .i64 0,.int .i64 0,.int .i64 0],none⟩,Qx 5 (.k 
 (.d .nil))]) (.seq (.reg [⟨some 6,.allo [.int .i64 0,.int .i64 0,.int .i64 0,.int .i64 0,.int .i64 0,.int .i64 0],none⟩]) (.seq (.dead [13,14,15,16,17,18,19,20,21, 
 22,23,24,25,26,27,28] (.reg [Q 13 (.fa 0 (.t 2)),Q 14 (.ld false 1 (.t 13)),Q 15 (.fa 1 (.t 2)),Q 16 (.ld false 1 (.t 15)),Q 17 (.bld [(0,1),(1,1),(2,1)] [.int 
 .i64 0,.int .i64 0,.int .i64 0] [] [(0,.t 14),(1,.t 16),(2,.k (.d (.int .i64 0)))]),Q 18 (.fa 2 (.t 2)),Q 19 (.ld false 1 (.t 18)),Q 20 (.fa 3 (.t 2)),Q 21 (.ld false 
 1 (.t 20)),Q 22 (.bld [(0,1),(1,1),(2,1)] [.int .i64 0,.int .i64 0,.int .i64 0] [] [(0,.t 19),(1,.t 21),(2,.k (.d (.int .i64 0)))]),Q 23 (.fa 4 (.t 2)),Q 24 (.ld 
 false 1 (.t 23)),Q 25 (.fa 5 (.t 2)),Q 26 (.ld false 1 (.t 25)),Q 27 (.bld [(0,1),(1,1),(2,1)] [.int .i64 0,.int .i64 0,.int .i64 0] [] [(0,.t 24),(1,.t 26),(2,.k 
 (.d (.int .i64 1)))]),⟨some 28,.bsl 155 3 [.t 17,.t 22,.t 27],none⟩,Qa 7 28])) (.seq (.seq (.reg [Qc 29 7,Q 30 (.len false (.t 29)),Q 31 (.cp (Ki 0))]) (.block 0 (.loop 
 (.seq (.reg [Q 32 (.bin .lss (.t 31) (.t 30))]) (.seq (.cond (.t 32) .skip (.exit 0)) (.seq (.block 1 (.seq (.dead [33,34,35] (.reg [Qc 33 31,Q 34 (.ia 3 (.t 29) (.t 31)),Q 
 35 (.ld true 3 (.t 34)),⟨some 9,.allo [.int .i64 0,.int .i64 0,.int .i64 0],none⟩,Qa 8 33,⟨none,.st 3 (.t 9) (.t 35),none⟩])) (.seq (.dead [36,37,38,39,40,41,42, 
 43,44,45,46,47,48,49,50,51,52] (.reg [Q 37 (.iaA 3 1 (.t 9) (Ki 0)),Q 38 (.ld false 1 (.t 37)),Q 39 (.fa 0 (.t 3)),Q 40 (.ld false 1 (.t 39)),Q 41 (.iaA 3 1 (.t 9) 
 (Ki 1)),Q 42 (.ld false 1 (.t 41)),Q 43 (.fa 2 (.t 3)),Q 44 (.ld false 1 (.t 43)),Q 45 (.iaA 3 1 (.t 9) (Ki 2)),Q 46 (.ld false 1 (.t 45)),Q 47 (.fa 4 (.t 3)),Q 48 (.ld 
 false 1 (.t 47)),Q 49 (.bin .mul (.t 46) (.t 48)),⟨some 50,.call 93 [.t 38,.t 40,.t 42,.t 44,.t 49],none⟩,Qc 36 50,Q 51 (.ext 0 (.t 36)),Q 52 (.ext 1 (.t 36)),Qa 10 
 51,Qa 11 52])) (.seq (.seq (.dead [53] (.reg [Qc 53 11,Q 54 (.eqN 0 true (.t 53))])) (.cond (.t 54) (.seq (.dead [55,56] (.reg [Q 55 (.bld [(0,1),(1,1),(2,1),(3,1),(4, 
 1),(5,1)] [.int .i64 0,.int .i64 0,.int .i64 0,.int .i64 0,.int .i64 0,.int .i64 0] [] []),Qc 56 11,⟨none,.st 6 (.t 4) (.t 55),none⟩,Qa 5 56])) .ret) .skip)) (.seq 
 (.dead [57,58,59,60,61,62,63,64,65,66,67,68,69,70,71,72,73] (.reg [Q 58 (.iaA 3 1 (.t 9) (Ki 0)),Q 59 (.ld false 1 (.t 58)),Q 60 (.fa 1 (.t 3)),Q 61 (.ld false 
 1 (.t 60)),Q 62 (.iaA 3 1 (.t 9) (Ki 1)),Q 63 (.ld false 1 (.t 62)),Q 64 (.fa 3 (.t 3)),Q 65 (.ld false 1 (.t 64)),Q 66 (.iaA 3 1 (.t 9) (Ki 2)),Q 67 (.ld false 1 (.t 66)), 
 Q 68 (.fa 5 (.t 3)),Q 69 (.ld false 1 (.t 68)),Q 70 (.bin .mul (.t 67) (.t 69)),⟨some 71,.call 93 [.t 59,.t 61,.t 63,.t 65,.t 70],none⟩,Qc 57 71,Q 72 (.ext 0 (.t 57)), 
 Q 73 (.ext 1 (.t 57)),Qa 12 72,Qa 11 73])) (.seq (.seq (.dead [74] (.reg [Qc 74 11,Q 75 (.eqN 0 true (.t 74))])) (.cond (.t 75) (.seq (.dead [76,77] (.reg [Q 76 (.bld [(0, 
 1),(1,1),(2,1),(3,1),(4,1),(5,1)] [.int .i64 0,.int .i64 0,.int .i64 0,.int .i64 0,.int .i64 0,.int .i64 0] [] []),Qc 77 11,⟨none,.st 6 (.t 4) (.t 76),none⟩, 
 Qa 5 77])) .ret) .skip)) (.dead [78,79,80,81,82,83,84,85,86] (.reg [Qc 78 8,Q 79 (.bin .mul (Ki 2) (.t 78)),Qc 80 8,Q 81 (.bin .mul (Ki 2) (.t 80)),Q 82 (.bin .add 
 (.t 81) (Ki 1)),Qc 83 10,Qc 84 12,Q 85 (.iaA 6 1 (.t 6) (.t 79)),⟨none,.st 1 (.t 85) (.t 83),none⟩,Q 86 (.iaA 6 1 (.t 6) (.t 82)),⟨none,.st 1 (.t 86) (.t 84), 
 none⟩])))))))) (.dead [87] (.reg [Q 87 (.bin .add (.t 31) (Ki 1)),Qc 31 87])))))))) (.seq (.dead [88,89,90,91,92,93,94,95,96,97,98,99,100] (.reg [Q 88 (.iaA 6 1 (.t 
 6) (Ki 0)),Q 89 (.ld false 1 (.t 88)),Q 90 (.iaA 6 1 (.t 6) (Ki 1)),Q 91 (.ld false 1 (.t 90)),Q 92 (.iaA 6 1 (.t 6) (Ki 2)),Q 93 (.ld false 1 (.t 92)),Q 94 (.iaA 6 1 (.t 
 6) (Ki 3)),Q 95 (.ld false 1 (.t 94)),Q 96 (.iaA 6 1 (.t 6) (Ki 4)),Q 97 (.ld false 1 (.t 96)),Q 98 (.iaA 6 1 (.t 6) (Ki 5)),Q 99 (.ld false 1 (.t 98)),Q 100 (.bld [(0,1), 
 (1,1),(2,1),(3,1),(4,1),(5,1)] [.int .i64 0,.int .i64 0,.int .i64 0,.int .i64 0,.int .i64 0,.int .i64 0] [] [(0,.t 89),(1,.t 91),(2,.t 93),(3,.t 95),(4,.t 
 97),(5,.t 99)]),⟨none,.st 6 (.t 4) (.t 100),none⟩,Qx 5 (.k (.d .nil))])) .ret))))
def z1n:List LRes:=[.cell 4 true 6,.tmp 5]
theorem z2K:q0t Tryz.prog 67 101 z1f z1n:=⟨_,_,Tryz.func67,rfl,by kernel_rfl,by kernel_rfl,rfl⟩
def mat(a b c d e f:Int):D:=.agg [I a,I b,I c,I d,I e,I f]
def pt(x y:Int):D:=.agg [I x,I y]
theorem q6N:q0y Tryz.prog 30 [] (fun r=>r=.one (mat 1000 0 0 1000 0 0)):=by
 refine z5p.call rfl ?_;simp only[go_sem,↓reduceIte,z30,z33,mat,I]
def ptE:Option (Int×Int)→Res
 |some (x,y)=>.tup [pt x y,.nil]
 |none=>.tup [pt 0 0,err 1]
def z2n(a b c d e f x y:Int):Option (Int×Int):=
 match twoF a x c y e,twoF b x d y f with
 |some x,some y=>some (x,y)
 |_,_=>none
theorem z9Z{a b c d e f x y:Int}:q0y Tryz.prog 134 [mat a b c d e f,pt x y] (fun r=>r=ptE (z2n a b c d e f x y)):=by
 refine z3P.call rfl ?_;unfold z2n;simp only[go_sem,↓reduceIte,z17,z2e,mat,pt,I];refine q0i.of q66 ?_;cases h1:twoF a x c y e with
 |none=>
  simp only[go_sem,↓reduceIte,intE,I,err];rfl
 |some u=>
  simp only[go_sem,↓reduceIte,intE,I];refine q0i.of q66 ?_;cases h2:twoF b x d y f with
  |none=>
   simp only[go_sem,↓reduceIte,intE,I,err];rfl
  |some v=>
   simp only[go_sem,↓reduceIte,intE,I];rfl
def matE:Option (Int×Int×Int×Int×Int×Int)→Res
 |some (a,b,c,d,e,f)=>.tup [mat a b c d e f,.nil]
 |none=>.tup [mat 0 0 0 0 0 0,err 1]
def rowF(a b c p q r s t u:Int):Option (Int×Int):=
 match twoF a p b r (IntKind.i64.wrap (c*t)),twoF a q b s (IntKind.i64.wrap (c*u))with
 |some x,some y=>some (x,y)
 |_,_=>none
def q8r(a b c d e f p q r s t u:Int):Option (Int×Int×Int×Int×Int×Int):=
 match rowF a b 0 p q r s t u,rowF c d 0 p q r s t u,rowF e f 1 p q r s t u with
 |some (x,y),some (z,k),some (v,w)=>some (x,y,z,k,v,w)
 |_,_,_=>none
theorem z7y{a b c d e f p q r s t u:Int}:q0y Tryz.prog 67 [mat a b c d e f,mat p q r s t u] (fun x=>x=matE (q8r a b c d e f p q r s t u)):=by
 refine z2K.call rfl ?_;unfold q8r rowF;simp only[go_sem,↓reduceIte,z1f,z1n,mat,pt,I];refine q1X ?_;simp only[go_sem,↓reduceIte,getI];refine q0i.of q66 ?_;cases h1:twoF a p b r (IntKind.i64.wrap (0*t))with
 |none=>
  simp only[go_sem,↓reduceIte,intE,I,err];rfl
 |some x0=>
  simp only[go_sem,↓reduceIte,intE,I];refine q0i.of q66 ?_;cases h2:twoF a q b s (IntKind.i64.wrap (0*u))with
  |none=>
   simp only[go_sem,↓reduceIte,intE,I,err];rfl
  |some y0=>
   simp only[go_sem,↓reduceIte,intE,I];refine q1X ?_;simp only[go_sem,↓reduceIte,getI];refine q0i.of q66 ?_;cases h3:twoF c p d r (IntKind.i64.wrap (0*t))with
   |none=>
    simp only[go_sem,↓reduceIte,intE,I,err];rfl
   |some x1=>
    simp only[go_sem,↓reduceIte,intE,I];refine q0i.of q66 ?_;cases h4:twoF c q d s (IntKind.i64.wrap (0*u))with
    |none=>
     simp only[go_sem,↓reduceIte,intE,I,err];rfl
    |some y1=>
     simp only[go_sem,↓reduceIte,intE,I];refine q1X ?_;simp only[go_sem,↓reduceIte,getI];refine q0i.of q66 ?_;cases h5:twoF e p f r (IntKind.i64.wrap (1*t))with
     |none=>
      simp only[go_sem,↓reduceIte,intE,I,err];rfl
     |some x2=>
      simp only[go_sem,↓reduceIte,intE,I];refine q0i.of q66 ?_;cases h6:twoF e q f s (IntKind.i64.wrap (1*u))with
      |none=>
       simp only[go_sem,↓reduceIte,intE,I,err];rfl
      |some y2=>
       simp only[go_sem,↓reduceIte,intE,I];refine q1X ?_;simp only[go_sem,↓reduceIte];rfl
def q0D:q0m:=
 .seq (.reg [Qx 4 (Ki 0)]) (.seq (.seq (.reg [Qc 6 0,Q 7 (.len false (.t 6)),Q 8 (.cp (Ki 0))]) (.block 0 (.loop (.seq (.reg [Q 9 (.bin .lss (.t 8) (.t 7))]) (.seq (.cond (.t 9) 
 .skip (.exit 0)) (.seq (.block 1 (.seq (.reg [Qc 10 8,Qa 5 10]) (.seq (.reg [Qc 11 1,Qc 12 0,Qc 13 5,Q 14 (.ia 5 (.t 12) (.t 13)),Q 15 (.ld true 5 (.t 14)),⟨some 16,.prim 
 .call [.t 11,.t 15] [],none⟩]) (.cond (.t 16) (.seq (.reg [Qc 17 5,Qa 4 17]) .ret) .skip)))) (.reg [Q 18 (.bin .add (.t 8) (Ki 1)),Qc 8 18]))))))) (.seq (.reg [Qx 4 (Ki 
 (-1))]) .ret))
def q0E:List LRes:=[.tmp 4]
theorem q04:q0t Tryz.prog 105 19 q0D q0E:=⟨_,_,Tryz.func105,rfl,by kernel_rfl,by kernel_rfl,rfl⟩
theorem z3K(g:Nat)(hg:q5J Tryz.prog g=true)(l:List Val)(hl:l.length≤1000000000)(p:Val→Bool)(hp:∀x∈l,q0y Tryz.prog g [x.d] (fun r=>r=.one (.bool (p x)))):
  q71 Tryz.prog 105 [.d (.list (q0M l)),.fn (.func g) [] []] [] (.d (.int .i64 (match l.findIdx? p with|some i=>(i:Int)|none => -1))) []:=by
 have hll:=q0n l;refine q04.q4X (by kernel_rfl) rfl ?_;simp only[go_sem,↓reduceIte,q0D,q0E];refine q0j (fun i:Nat=>⟨[(0,.d (.list (q0M l))),(1,.fn (.func g) [] []),(7,.d (.int .i64 (q0M l).length)),(8,.d (.int .i64 i))],[],[]⟩)
  (fun i=>i≤l.length∧∀j,j<i→∀x,l[j]?=some x→p x=false) (fun i=>l.length-i) 0 ?_ ?_ ?_
 ·refine Weak.mk ?_ ?_ ?_<;>simp only[go_sem,↓reduceIte,Sub,Int.natCast_add,Int.natCast_mul]
 ·exact⟨by simp,fun j hj=>absurd hj (by simp)⟩
 ·rintro i ⟨hi,hn⟩;simp only[go_sem,↓reduceIte,hll];refine⟨fun hlt=>?_,fun hge=>?_⟩
  ·obtain⟨x,hx⟩:=get_some (l:=l) (i:=i) (by omega);have hc:=(hp x (Zaa hx)).z9m hg;simp only[Zai,Zbe,Res.av]at hc;rw[Val.d_eq]at hc;simp(disch:=omega)only[go_sem,↓reduceIte,q0d,q4Z,hx,Val.d_eq];refine q0e.q4X ([]) ([]) rfl (hc) rfl rfl (by simp only[q3W,St.obj,aget,AObj.ren,AV.ren,AV.ren1,renL,z0x,renR,renQ,Zaz,Zbo,and_true,and_self,Nat.reduceEqDiff,↓reduceIte,reduceCtorEq]) rfl rfl rfl ⟨rfl,rfl⟩ ?_;cases hpx:p x
   ·simp(disch:=omega)only[go_sem,↓reduceIte];refine⟨i+1,?_,⟨by omega,fun j hj y hy=>?_⟩,by omega⟩
    ·refine Weak.mk ?_ ?_ ?_<;>simp only[go_sem,↓reduceIte,Sub,Int.natCast_add,Int.natCast_mul,hll]
    ·rcases Zbc j i with h|h
     ·exact hn j h y hy
     ·have:j=i:=by omega
      subst this;rw[hx]at hy;cases hy;exact hpx
   ·simp only[go_sem,↓reduceIte];have:l.findIdx? p=some i:=by
     rw[List.findIdx?_eq_some_iff_getElem];obtain⟨h1,h2⟩:=Zab.1 hx;refine⟨h1,by rw[h2];exact hpx,fun j hj=>?_⟩;have:=hn j hj _ (Zaf (by omega));simp[this]
    rw[this]
  ·have:l.findIdx? p=none:=by
    rw[List.findIdx?_eq_none_iff];intro x hx;obtain⟨j,hj⟩:=Zap hx;exact hn j (by have:=(Zab.1 hj).1;omega) x hj
   rw[this]
def q0B:q0m:=
 .seq (.reg [Qx 4 KF]) (.seq (.reg [Qc 5 0,Qc 6 1,⟨some 7,.prim .call [.k (.fn (.func 105) [] []),.t 5,.t 6] [],none⟩,Q 8 (.bin .geq (.t 7) (Ki 0)),Qa 4 8]) .ret)
def q0C:List LRes:=[.tmp 4]
theorem q0Z:q0t Tryz.prog 80 9 q0B q0C:=⟨_,_,Tryz.func80,rfl,by kernel_rfl,by kernel_rfl,rfl⟩
theorem z0P(g:Nat)(hg:q5J Tryz.prog g=true)(l:List Val)(hl:l.length≤1000000000)(p:Val→Bool)(hp:∀x∈l,q0y Tryz.prog g [x.d] (fun r=>r=.one (.bool (p x)))):
  q71 Tryz.prog 80 [.d (.list (q0M l)),.fn (.func g) [] []] [] (.d (.bool (l.any p))) []:=by
 have hany:(match l.findIdx? p with|some i=>decide (0≤(i:Int))|none=>false)=l.any p:=by
  cases h:l.findIdx? p with
  |none=>
   rw[List.findIdx?_eq_none_iff]at h;simp only[Bool.false_eq];rw[Zcc];exact fun x hx=>by simp[h x hx]
  |some i=>
   rw[List.findIdx?_eq_some_iff_getElem]at h;obtain⟨h1,h2,_⟩:=h;have:l.any p=true:=Zbg.2 ⟨_,List.getElem_mem h1,h2⟩;rw[this];simp
 refine q0Z.q4X (by kernel_rfl) rfl ?_;simp only[go_sem,↓reduceIte,q0B,q0C];refine q0e.q4X ([]) ([]) rfl (z3K g hg l hl p hp) rfl rfl (by simp only[q3W,St.obj,aget,AObj.ren,AV.ren,AV.ren1,renL,z0x,renR,renQ,Zaz,Zbo,and_true,and_self,Nat.reduceEqDiff,↓reduceIte,reduceCtorEq]) rfl rfl rfl ⟨rfl,rfl⟩ ?_
 simp only[go_sem,↓reduceIte];rw[←hany];cases l.findIdx? p<;>simp
mutual
def q5Z:Val→Bool
 |.mk k n s l f=>
  let n0:=decide (n=0)
  let s0:=decide (s=[])
  let l0:=decide (l.length=0)
  let f0:=decide (f.length=0)
  if k=0 then n0&&(s0&&(l0&&f0))
  else if k=1 then(decide (n=0) || decide (n=1))&&(s0&&(l0&&f0))
  else if k=2 then decide (Lim n)&&(s0&&(l0&&f0))
  else if k=3 then n0&&(decide (s.length≤200)&&(l0&&f0))
  else if k=4 then n0&&(q2a s&&(l0&&f0))
  else if k=5 then n0&&(s0&&(z1T l&&f0))
  else if k=6 then n0&&(s0&&(l0&&q5v none f))
  else if k=7 then decide (1≤n∧n≤60)&&(s0&&(l0&&f0))
  else false
def z1T:List Val→Bool
 |[]=>true
 |v::r=>q5Z v&&z1T r
def q5v(p:Option (List UInt8)):List Fld→Bool
 |[]=>true
 |.mk nm v::r=>(q2a nm&&(q5Z v&&(match p with|some q=>Op.bytesLess q nm|none=>true)))&&q5v (some nm) r
end
theorem z5V(l:List Val):z1T l = !l.any (fun v => !q5Z v):=by
 induction l with
 |nil=>rfl
 |cons v r ih=>simp[z1T,ih]
theorem z15(v:Val):q5Z v=(
  let n0:=decide (v.n=0)
  let s0:=decide (v.s=[])
  let l0:=decide (v.l.length=0)
  let f0:=decide (v.f.length=0)
  if v.kind=0 then n0&&(s0&&(l0&&f0))
  else if v.kind=1 then(decide (v.n=0) || decide (v.n=1))&&(s0&&(l0&&f0))
  else if v.kind=2 then decide (Lim v.n)&&(s0&&(l0&&f0))
  else if v.kind=3 then n0&&(decide (v.s.length≤200)&&(l0&&f0))
  else if v.kind=4 then n0&&(q2a v.s&&(l0&&f0))
  else if v.kind=5 then n0&&(s0&&(z1T v.l&&f0))
  else if v.kind=6 then n0&&(s0&&(l0&&q5v none v.f))
  else if v.kind=7 then decide (1≤v.n∧v.n≤60)&&(s0&&(l0&&f0))
  else false):=by cases v;unfold q5Z;rfl
theorem j0S{p:Option (List UInt8)}{l:List Fld}{x:Fld}:q5v p (l++[x])=(q5v p l&&(q2a x.name&&(q5Z x.v&&(match(l.getLast?.map Fld.name).or p with|some q=>Op.bytesLess q x.name|none=>true)))):=by
 induction l generalizing p with
 |nil=>cases x;simp[q5v,Fld.name,Fld.v]
 |cons y r ih=>
  cases y with
  |mk nm v=>
   simp only[Zbh,q5v,ih,Bool.and_assoc];cases r with
   |nil=>simp[Fld.name]
   |cons z r=>
    have h1:∀q:Option (List UInt8),((z::r).getLast?.map Fld.name).or q=(z::r).getLast?.map Fld.name:=fun q=>by
     rw[List.getLast?_eq_some_getLast (by simp)];rfl
    have h2:(Fld.mk nm v::z::r).getLast?=(z::r).getLast?:=List.getLast?_cons_cons;rw[h2,h1,h1]
theorem z4N{l:List Fld}{i:Nat}{x:Fld}(hx:l[i]?=some x):q5v none (l.take (i+1))=(q5v none (l.take i)&&(q2a x.name&&(q5Z x.v&&(match l[i-1]? with|some y=>if i=0 then true else Op.bytesLess y.name x.name|none=>true)))):=by
 have hl:i<l.length:=(Zab.1 hx).1;rw[Zbd,hx];simp only[Option.toList_some];rw[j0S];congr 3
 by_cases h0:i=0
 ·subst h0;simp;cases l[0]?<;>rfl
 ·have:(l.take i).getLast?=l[i-1]?:=by
   rw[List.getLast?_eq_getElem?,Zcb,Zbi];have:min i l.length=i:=by omega
   rw[this,if_pos (by omega)]
  rw[this];cases hy:l[i-1]? with
  |none=>rfl
  |some y=>simp[h0]
theorem kinds(k:Int):k=0∨k=1∨k=2∨k=3∨k=4∨k=5∨k=6∨k=7∨(k≠0∧k≠1∧k≠2∧k≠3∧k≠4∧k≠5∧k≠6∧k≠7):=by omega
def q1S:q0m:=
 .seq (.reg [⟨some 1,.box (.t 0),none⟩,Qx 2 KF]) (.seq (.dreg [Q 9 (.fa 1 (.t 1)),Q 10 (.ld false 1 (.t 9)),Q 11 (.bin .eql (.t 10) (Ki 0)),Q 12 (.fa 2 (.t 1)),Q 13 (.ld 
 false 1 (.t 12)),Q 14 (.bin .eql (.t 13) (.k (.d (.str [])))),Q 15 (.fa 3 (.t 1)),Q 16 (.ld false 1 (.t 15)),Q 17 (.len false (.t 16)),Q 18 (.bin .eql (.t 17) (Ki 0)),Q 19 
 (.fa 4 (.t 1)),Q 20 (.ld false 1 (.t 19)),Q 21 (.len false (.t 20)),Q 22 (.bin .eql (.t 21) (Ki 0)),Qc 3 11,Qc 4 14,Qc 5 18,Qc 6 22]) (.seq (.seq (.reg [Q 23 (.fa 0 (.t 
 1)),Q 24 (.ld false 1 (.t 23))]) (.block 0 (.seq (.reg [Q 26 (.bin .eql (.t 24) (Ki 0)),Qa 25 26]) (.cond (.t 25) .skip (.seq (.reg [Q 28 (.bin .eql (.t 24) (Ki 1)),Qa 27 28]) 
 (.cond (.t 27) (.reg [Q 29 (.fa 1 (.t 1)),Q 30 (.ld false 1 (.t 29)),Q 31 (.bin .eql (.t 30) (Ki 0)),Qc 32 31,Qg 33 (.fa 1 (.t 1)) 32 false,Qg 34 (.ld false 1 (.t 33)) 32 
 false,Qg 35 (.bin .eql (.t 34) (Ki 1)) 32 false,Q 36 (.pick (.t 32) KT (.t 35)),Qa 3 36]) (.seq (.reg [Q 38 (.bin .eql (.t 24) (Ki 2)),Qa 37 38]) (.cond (.t 37) (.reg [Q 39 
 (.fa 1 (.t 1)),Q 40 (.ld false 1 (.t 39)),⟨some 41,.call 78 [.t 40],none⟩,Q 42 (.eqN 0 false (.t 41)),Qa 3 42]) (.seq (.reg [Q 44 (.bin .eql (.t 24) (Ki 3)),Qa 43 44]) 
 (.cond (.t 43) (.reg [Q 45 (.fa 2 (.t 1)),Q 46 (.ld false 1 (.t 45)),Q 47 (.len true (.t 46)),Q 48 (.bin .leq (.t 47) (Ki 200)),Qa 4 48]) (.seq (.reg [Q 50 (.bin .eql (.t 24) 
 (Ki 4)),Qa 49 50]) (.cond (.t 49) (.reg [Q 51 (.fa 2 (.t 1)),Q 52 (.ld false 1 (.t 51)),⟨some 53,.call 79 [.t 52],none⟩,Qa 4 53]) (.seq (.reg [Q 55 (.bin .eql (.t 24) (Ki 
 5)),Qa 54 55]) (.cond (.t 54) (.reg [Q 56 (.fa 3 (.t 1)),Q 57 (.ld false 1 (.t 56)),⟨some 58,.prim .call [.k (.fn (.func 80) [] []),.t 57,.k (.fn (.func 81) [] [])] [], 
 none⟩,Q 59 (.not (.t 58)),Qa 5 59]) (.seq (.reg [Q 61 (.bin .eql (.t 24) (Ki 6)),Qa 60 61]) (.cond (.t 60) (.seq (.reg [Q 62 (.fa 4 (.t 1)),Q 63 (.ld false 1 (.t 62)),Q 64 
 (.len false (.t 63)),Q 65 (.cp (Ki 0))]) (.block 1 (.loop (.seq (.reg [Q 66 (.bin .lss (.t 65) (.t 64))]) (.seq (.cond (.t 66) .skip (.exit 1)) (.seq (.block 2 (.seq (.reg [Qc 
 67 65,Q 68 (.ia 6 (.t 63) (.t 65)),Q 69 (.ld true 6 (.t 68)),⟨some 8,.allo [.str [],.int .i64 0,.int .i64 0,.str [],.list [],.list []],none⟩,Qa 7 67,⟨none,.st 6 (.t 
 8) (.t 69),none⟩]) (.dreg [Qc 70 7,Q 71 (.bin .eql (.t 70) (Ki 0)),Qc 72 71,Qd 73 6 72 false,Q 74 (.pick (.t 72) KT (.t 73)),Qc 75 74,Qg 76 (.fa 0 (.t 8)) 75 true,Qg 77 
 (.ld false 1 (.t 76)) 75 true,⟨some 78,.call 79 [.t 77],some (75,true)⟩,Q 79 (.pick (.t 75) (.t 78) KF),Qc 80 79,Qg 81 (.fa 1 (.t 8)) 80 true,Qg 82 (.ld true 5 (.t 81)) 
 80 true,⟨some 83,.call 59 [.t 82],some (80,true)⟩,Q 84 (.pick (.t 80) (.t 83) KF),Qc 85 84,Qd 86 7 85 true,Qg 87 (.bin .eql (.t 86) (Ki 0)) 85 true,Qd 88 87 85 true,Qg 
 89 (.fa 4 (.t 1)) 88 false,Qg 90 (.ld false 1 (.t 89)) 88 false,Qd 91 7 88 false,Qg 92 (.bin .sub (.t 91) (Ki 1)) 88 false,Qg 93 (.ia 6 (.t 90) (.t 92)) 88 false,Qg 94 (.fa 
 0 (.t 93)) 88 false,Qg 95 (.ld false 1 (.t 94)) 88 false,Qg 96 (.fa 0 (.t 8)) 88 false,Qg 97 (.ld false 1 (.t 96)) 88 false,Qg 98 (.bin .lss (.t 95) (.t 97)) 88 false,Qg 99 
 (.pick (.t 88) KT (.t 98)) 85 true,Q 100 (.pick (.t 85) (.t 99) KF),Qa 6 100]))) (.reg [Q 101 (.bin .add (.t 65) (Ki 1)),Qc 65 101]))))))) (.seq (.reg [Q 103 (.bin .eql (.t 
 24) (Ki 7)),Qa 102 103]) (.cond (.t 102) (.reg [Q 104 (.fa 1 (.t 1)),Q 105 (.ld false 1 (.t 104)),Q 106 (.bin .geq (.t 105) (Ki 1)),Qc 107 106,Qg 108 (.fa 1 (.t 1)) 107 
 true,Qg 109 (.ld false 1 (.t 108)) 107 true,Qg 110 (.bin .leq (.t 109) (Ki 60)) 107 true,Q 111 (.pick (.t 107) (.t 110) KF),Qa 3 111]) (.seq (.reg [Qx 2 KF]) 
 .ret))))))))))))))))))) (.seq (.reg [Qc 112 3,Qc 113 112,Qd 114 4 113 true,Q 115 (.pick (.t 113) (.t 114) KF),Qc 116 115,Qd 117 5 116 true,Q 118 (.pick (.t 116) (.t 117) 
 KF),Qc 119 118,Qd 120 6 119 true,Q 121 (.pick (.t 119) (.t 120) KF),Qa 2 121]) .ret)))
def q1V:List LRes:=[.tmp 2]
theorem q1m:q0t Tryz.prog 59 122 q1S q1V:=⟨_,_,Tryz.func59,rfl,by kernel_rfl,by kernel_rfl,rfl⟩
def q9e:q0m:=
 .seq (.reg [⟨some 1,.box (.t 0),none⟩,Qx 2 KF]) (.seq (.reg [Q 3 (.ld true 5 (.t 1)),⟨some 4,.call 59 [.t 3],none⟩,Q 5 (.not (.t 4)),Qa 2 5]) .ret)
def q9h:List LRes:=[.tmp 2]
theorem z02:q0t Tryz.prog 81 6 q9e q9h:=⟨_,_,Tryz.func81,rfl,by kernel_rfl,by kernel_rfl,rfl⟩
theorem j3C:∀(m:Nat) (v:Val),SizeOf.sizeOf v≤m→v.sm 1048576=true→q0y Tryz.prog 59 [v.d] (fun r=>r=.one (.bool (q5Z v))):=by
 intro m;induction m with
 |zero=>intro v h;cases v;simp at h
 |succ m ih=>
  intro v hv hsm;obtain⟨_,hll,hfl,hsl,hsf⟩:=Val.q6L.1 hsm;have hvl:=q0n v.l;have hfl':=q5L v.f;have hcl:∀x∈v.l,q0y Tryz.prog 81 [x.d] (fun r=>r=.one (.bool (!q5Z x))):=fun x hx=>by
   have hc:=ih x (by have:=z7h hx;omega) (hsl x hx);rw[Val.d_eq]at hc ⊢;refine z02.call rfl ?_;simp only[go_sem,↓reduceIte,q9e,q9h];refine q0i.of hc ?_;simp only[go_sem,↓reduceIte]
  generalize hR:q5Z v=R;rw[z15]at hR;have cast0:∀a:Nat,((a:Int)=0)=(a=0):=fun a=>by apply propext;omega
  rw[Val.d_eq];rcases kinds v.kind with hk|hk|hk|hk|hk|hk|hk|hk|hk
  ·refine q1m.call rfl ?_;rw[hk]at hR;simp only[Int.reduceEq,↓reduceIte]at hR;simp only[go_sem,↓reduceIte,q1S,q1V,hk,hvl,hfl'];subst hR;simp only[cast0]
   by_cases c1:v.n=0<;>by_cases c2:v.s=[]<;>by_cases c3:v.l.length=0<;>by_cases c4:v.f.length=0<;>simp[c1,c2,c3,c4]
  ·refine q1m.call rfl ?_;rw[hk]at hR;simp only[Int.reduceEq,↓reduceIte]at hR;simp only[go_sem,↓reduceIte,q1S,q1V,hk,hvl,hfl'];subst hR;simp only[cast0]
   by_cases c1:v.n=0<;>by_cases c2:v.s=[]<;>by_cases c3:v.l.length=0<;>by_cases c4:v.f.length=0<;>simp[c1,c2,c3,c4]
  ·refine q1m.call rfl ?_;rw[hk]at hR;simp only[Int.reduceEq,↓reduceIte]at hR;simp only[go_sem,↓reduceIte,q1S,q1V,hk,hvl,hfl']
   by_cases hL:Lim v.n
   ·refine q0i.of (q4N hL) ?_;simp only[go_sem,↓reduceIte];subst hR;simp only[cast0]
    by_cases c2:v.s=[]<;>by_cases c3:v.l.length=0<;>by_cases c4:v.f.length=0<;>simp[hL,c2,c3,c4]
   ·refine q0i.of (q3A hL) ?_;simp only[go_sem,↓reduceIte,err];subst hR;simp[hL]
  ·refine q1m.call rfl ?_;rw[hk]at hR;simp only[Int.reduceEq,↓reduceIte]at hR;simp only[go_sem,↓reduceIte,q1S,q1V,hk,hvl,hfl'];subst hR;simp only[cast0];have c5:((v.s.length:Int)≤200)=(v.s.length≤200):=by apply propext;omega
   simp only[c5]
   by_cases c1:v.n=0<;>by_cases c2:v.s.length≤200<;>by_cases c3:v.l.length=0<;>by_cases c4:v.f.length=0<;>simp[c1,c2,c3,c4]
  ·refine q1m.call rfl ?_;rw[hk]at hR;simp only[Int.reduceEq,↓reduceIte]at hR;simp only[go_sem,↓reduceIte,q1S,q1V,hk,hvl,hfl'];refine q0i.of (q8F v.s) ?_;simp only[go_sem,↓reduceIte];subst hR;simp only[cast0]
   by_cases c1:v.n=0<;>cases c2:q2a v.s<;>by_cases c3:v.l.length=0<;>by_cases c4:v.f.length=0<;>simp[c1,c3,c4]
  ·refine q1m.call rfl ?_;rw[hk]at hR;simp only[Int.reduceEq,↓reduceIte]at hR;simp only[go_sem,↓reduceIte,q1S,q1V,hk,hvl,hfl'];refine q0e.q4X ([]) ([]) rfl (z0P 81 (by kernel_rfl) v.l (by omega) _ hcl) rfl rfl (by simp only[q3W,St.obj,aget,AObj.ren,AV.ren,AV.ren1,renL,z0x,renR,renQ,Zaz,Zbo,and_true,and_self,Nat.reduceEqDiff,↓reduceIte,reduceCtorEq]) rfl rfl rfl ⟨rfl,rfl⟩ ?_;simp only[go_sem,↓reduceIte];subst hR;rw[z5V];simp only[cast0]
   by_cases c1:v.n=0<;>by_cases c2:v.s=[]<;>cases c3:v.l.any (fun v => !q5Z v)<;>by_cases c4:v.f.length=0<;>simp[c1,c2,c4]
  ·refine q1m.call rfl ?_;rw[hk]at hR;simp only[Int.reduceEq,↓reduceIte]at hR;simp only[go_sem,↓reduceIte,q1S,q1V,hk,hvl,hfl'];refine q0j (fun y:Nat×Bool=>⟨[(1,.ptr (.l 1) 0),(3,.d (.bool (decide (v.n=0)))),(4,.d (.bool (decide (v.s=[])))),(5,.d (.bool (decide ((v.l.length:Int)=0)))),(6,.d (.bool y.2)),(63,.d (.list (q3H v.f))),(64,.d (.int .i64 v.f.length)),(65,.d (.int .i64 y.1))],
     [(1,.cells [.d (.int .i64 6),.d (.int .i64 v.n),.d (.str v.s),.d (.list (q0M v.l)),.d (.list (q3H v.f))])],[]⟩)
    (fun y=>y.1≤v.f.length∧(y.1=0→y.2=decide (v.f.length=0))∧(y.1≠0→y.2=q5v none (v.f.take y.1))) (fun y=>v.f.length-y.1) (0,decide (v.f.length=0)) ?_ ?_ ?_
   ·refine Weak.mk ?_ ?_ ?_<;>simp only[go_sem,↓reduceIte,Sub,Int.natCast_add,Int.natCast_mul,cast0]
   ·exact⟨by simp,fun _=>rfl,fun h=>absurd rfl h⟩
   ·rintro⟨i,fb⟩ ⟨hi,hz,hnz⟩;simp only at hi hz hnz;simp only[go_sem,↓reduceIte];refine⟨fun hlt=>?_,fun hge=>?_⟩
    ·obtain⟨x,hx⟩:=get_some (l:=v.f) (i:=i) (by omega);have hsx:=Fld.q6L.1 (hsf x (Zaa hx));have hc:=ih x.v (by have:=z4I (Zaa hx);omega) hsx.2;have hn:=q8F x.name;rw[Val.d_eq]at hc;have hstep:q5v none (v.f.take (i+1))=(q5v none (v.f.take i)&&(q2a x.name&&(q5Z x.v&&(match v.f[i-1]? with|some y=>if i=0 then true else Op.bytesLess y.name x.name|none=>true)))):=z4N hx;simp(disch:=omega)only[go_sem,↓reduceIte,q0d,q3c,hx,Fld.d_eq]
     refine⟨fun g1=>?_,fun g1=>?_⟩
     ·have i0:i≠0:=by omega
      have hfb:=hnz i0;obtain⟨y,hy⟩:=get_some (l:=v.f) (i:=i-1) (by omega);have hgy:getI (q3H v.f) ((i:Int)-1)=some y.d:=by
       have:(i:Int)-1=((i-1:Nat):Int):=by omega
       rw[this,q0d,q3c,hy];rfl
      rw[hy]at hstep;simp only[i0,if_false,←hfb]at hstep;refine⟨fun f1=>?_,fun f1=>?_⟩
      ·refine q6a.of hn ?_;simp(disch:=omega)only[go_sem,↓reduceIte];refine⟨fun n1=>?_,fun n1=>?_⟩
       ·refine q6a.of hc ?_;simp(disch:=omega)only[go_sem,↓reduceIte];refine⟨fun w1=>?_,fun w1=>?_⟩
        ·simp(disch:=omega)only[go_sem,↓reduceIte,g1,hgy,Fld.d_eq];refine⟨(i+1,Op.bytesLess y.name x.name),?_,⟨by simp only;omega,fun h=>absurd h (by simp),fun _=>?_⟩,by simp only;omega⟩
         ·refine Weak.mk ?_ ?_ ?_<;>simp only[go_sem,↓reduceIte,Sub,Int.natCast_add,Int.natCast_mul]
         ·rw[hstep];simp[f1,n1,w1]
        ·refine⟨(i+1,false),?_,⟨by simp only;omega,fun h=>absurd h (by simp),fun _=>?_⟩,by simp only;omega⟩
         ·refine Weak.mk ?_ ?_ ?_<;>simp only[go_sem,↓reduceIte,Sub,Int.natCast_add,Int.natCast_mul]
         ·rw[hstep];simp[w1]
       ·refine⟨(i+1,false),?_,⟨by simp only;omega,fun h=>absurd h (by simp),fun _=>?_⟩,by simp only;omega⟩
        ·refine Weak.mk ?_ ?_ ?_<;>simp only[go_sem,↓reduceIte,Sub,Int.natCast_add,Int.natCast_mul]
        ·rw[hstep];simp[n1]
      ·refine⟨(i+1,false),?_,⟨by simp only;omega,fun h=>absurd h (by simp),fun _=>?_⟩,by simp only;omega⟩
       ·refine Weak.mk ?_ ?_ ?_<;>simp only[go_sem,↓reduceIte,Sub,Int.natCast_add,Int.natCast_mul]
       ·rw[hstep];simp[f1]
     ·have i0:i=0:=by omega
      subst i0;refine q6a.of hn ?_;simp(disch:=omega)only[go_sem,↓reduceIte];refine⟨fun n1=>?_,fun n1=>?_⟩
      ·refine q6a.of hc ?_;simp(disch:=omega)only[go_sem,↓reduceIte];refine⟨fun w1=>?_,fun w1=>?_⟩
       ·skip
        refine⟨(1,true),?_,⟨by simp only;omega,fun h=>absurd h (by simp),fun _=>?_⟩,by simp only;omega⟩
        ·refine Weak.mk ?_ ?_ ?_<;>simp only[go_sem,↓reduceIte,Sub,Int.natCast_add,Int.natCast_mul]
        ·rw[hstep];simp[n1,w1,q5v];cases v.f[0]?<;>rfl
       ·skip
        refine⟨(1,false),?_,⟨by simp only;omega,fun h=>absurd h (by simp),fun _=>?_⟩,by simp only;omega⟩
        ·refine Weak.mk ?_ ?_ ?_<;>simp only[go_sem,↓reduceIte,Sub,Int.natCast_add,Int.natCast_mul]
        ·rw[hstep];simp[w1]
      ·skip
       refine⟨(1,false),?_,⟨by simp only;omega,fun h=>absurd h (by simp),fun _=>?_⟩,by simp only;omega⟩
       ·refine Weak.mk ?_ ?_ ?_<;>simp only[go_sem,↓reduceIte,Sub,Int.natCast_add,Int.natCast_mul]
       ·rw[hstep];simp[n1]
    ·subst hR;have hfb:fb=q5v none v.f:=by
      by_cases i0:i=0
      ·have h0:v.f=[]:=by
        have:v.f.length=0:=by omega
        exact Zbq.1 this
       rw[hz i0,h0];rfl
      ·rw[hnz i0,List.take_of_length_le (by omega)]
     rw[hfb];simp only[cast0]
     by_cases c1:v.n=0<;>by_cases c2:v.s=[]<;>by_cases c3:v.l.length=0<;>simp[c1,c2,c3]
  ·refine q1m.call rfl ?_;rw[hk]at hR;simp only[Int.reduceEq,↓reduceIte]at hR;simp only[go_sem,↓reduceIte,q1S,q1V,hk,hvl,hfl'];subst hR;simp only[cast0]
   by_cases c1:1≤v.n<;>by_cases c5:v.n≤60<;>by_cases c2:v.s=[]<;>by_cases c3:v.l.length=0<;>by_cases c4:v.f.length=0<;>simp[c1,c2,c3,c4,c5]
  ·refine q1m.call rfl ?_;obtain⟨k0,k1,k2,k3,k4,k5,k6,k7⟩:=hk;rw[if_neg k0,if_neg k1,if_neg k2,if_neg k3,if_neg k4,if_neg k5,if_neg k6,if_neg k7]at hR;subst hR;simp only[go_sem,↓reduceIte,q1S,q1V,hvl,hfl',k0,k1,k2,k3,k4,k5,k6,k7]
mutual
def ptV:Val→Nat×Nat
 |.mk _ _ _ l f=>(1+(ptL l).1+(ptF f).1,max (ptL l).2 (ptF f).2+1)
def ptL:List Val→Nat×Nat
 |[]=>(0,0)
 |v::r=>((ptV v).1+(ptL r).1,max (ptV v).2 (ptL r).2)
def ptF:List Fld→Nat×Nat
 |[]=>(0,0)
 |.mk _ v::r=>((ptV v).1+(ptF r).1,max (ptV v).2 (ptF r).2)
end
theorem j57(v:Val):ptV v=(1+(ptL v.l).1+(ptF v.f).1,max (ptL v.l).2 (ptF v.f).2+1):=by cases v;simp only[ptV,Val.l,Val.f]
theorem z1Z(x:Fld)(r:List Fld):ptF (x::r)=((ptV x.v).1+(ptF r).1,max (ptV x.v).2 (ptF r).2):=by cases x;simp only[ptF,Fld.v]
mutual
theorem q8I:∀(v:Val),1≤(ptV v).1∧1≤(ptV v).2
 |.mk k n s l f=>by simp only[ptV];omega
theorem j8E:∀(l:List Val),(ptL l).1=0→(ptL l).2=0
 |[],_=>rfl
 |v::r,h=>by
  have:=q8I v;simp only[ptL]at h;omega
theorem j8D:∀(l:List Fld),(ptF l).1=0→(ptF l).2=0
 |[],_=>rfl
 |.mk _ v::r,h=>by
  have:=q8I v;simp only[ptF]at h;omega
end
mutual
theorem j3w(deep:Nat):∀(v:Val) (left:Int),0≤left→((((ptV v).1:Int)≤left∧deep+(ptV v).2≤9)→szV deep v left=(true,left-(ptV v).1))∧(¬(((ptV v).1:Int)≤left∧deep+(ptV v).2≤9)→(szV deep v left).1=false)
 |.mk k n s l f,left,h=>by
  have hL:=j6h (deep+1) l;have hF:=j6f (deep+1) f;have e1:=j8E l;have e2:=j8D f;have e3:ptV (.mk k n s l f)=(1+(ptL l).1+(ptF f).1,max (ptL l).2 (ptF f).2+1):=by simp only[ptV]
  rw[e3];generalize hA:ptL l=A at *;generalize hB:ptF f=B at *;obtain⟨a1,a2⟩:=A;obtain⟨b1,b2⟩:=B;simp only at *;unfold szV
  by_cases h8:8<deep
  ·rw[if_pos h8];exact⟨fun c=>by exfalso;omega,fun _=>rfl⟩
  ·rw[if_neg h8]
   by_cases h0:left-1<0
   ·rw[if_pos h0];exact⟨fun c=>by exfalso;omega,fun _=>rfl⟩
   ·rw[if_neg h0];obtain⟨g1,g2⟩:=hL (left-1) (by omega)
    by_cases c1:((a1:Int)≤left-1∧(a1=0∨deep+1+a2≤9))
    ·rw[g1 c1];simp only;obtain⟨g3,g4⟩:=hF (left-1-a1) (by omega)
     by_cases c2:((b1:Int)≤left-1-a1∧(b1=0∨deep+1+b2≤9))
     ·refine⟨fun _=>?_,fun c=>by exfalso;omega⟩;rw[g3 c2];congr 1;omega
     ·exact⟨fun c=>by exfalso;omega,fun _=>g4 c2⟩
    ·refine⟨fun c=>by exfalso;omega,fun _=>?_⟩;have:=g2 c1;generalize szL (deep+1) l (left-1)=Z at this;obtain⟨z1,z2⟩:=Z;simp only at this;subst this;rfl
theorem j6h(deep:Nat):∀(l:List Val) (left:Int),0≤left→((((ptL l).1:Int)≤left∧((ptL l).1=0∨deep+(ptL l).2≤9))→szL deep l left=(true,left-(ptL l).1))∧(¬(((ptL l).1:Int)≤left∧((ptL l).1=0∨deep+(ptL l).2≤9))→(szL deep l left).1=false)
 |[],left,h=>by simp[szL,ptL];omega
 |v::r,left,h=>by
  obtain⟨g1,g2⟩:=j3w deep v left h;have h2:=j6h deep r;have hp:=q8I v;have hz:=j8E r;have e3:ptL (v::r)=((ptV v).1+(ptL r).1,max (ptV v).2 (ptL r).2):=by simp only[ptL]
  rw[e3];generalize hA:ptV v=A at *;generalize hB:ptL r=B at *;obtain⟨a1,a2⟩:=A;obtain⟨b1,b2⟩:=B;simp only at *;unfold szL
  by_cases c1:((a1:Int)≤left∧deep+a2≤9)
  ·rw[g1 c1];simp only;obtain⟨g3,g4⟩:=h2 (left-a1) (by omega)
   by_cases c2:((b1:Int)≤left-a1∧(b1=0∨deep+b2≤9))
   ·refine⟨fun _=>?_,fun c=>by exfalso;omega⟩;rw[g3 c2];congr 1;omega
   ·exact⟨fun c=>by exfalso;omega,fun _=>g4 c2⟩
  ·refine⟨fun c=>by exfalso;omega,fun _=>?_⟩;have:=g2 c1;generalize szV deep v left=Z at this;obtain⟨z1,z2⟩:=Z;simp only at this;subst this;rfl
theorem j6f(deep:Nat):∀(l:List Fld) (left:Int),0≤left→((((ptF l).1:Int)≤left∧((ptF l).1=0∨deep+(ptF l).2≤9))→szF deep l left=(true,left-(ptF l).1))∧(¬(((ptF l).1:Int)≤left∧((ptF l).1=0∨deep+(ptF l).2≤9))→(szF deep l left).1=false)
 |[],left,h=>by simp[szF,ptF];omega
 |.mk nm v::r,left,h=>by
  obtain⟨g1,g2⟩:=j3w deep v left h;have h2:=j6f deep r;have hp:=q8I v;have hz:=j8D r;have e3:ptF (.mk nm v::r)=((ptV v).1+(ptF r).1,max (ptV v).2 (ptF r).2):=by simp only[ptF]
  rw[e3];generalize hA:ptV v=A at *;generalize hB:ptF r=B at *;obtain⟨a1,a2⟩:=A;obtain⟨b1,b2⟩:=B;simp only at *;unfold szF
  by_cases c1:((a1:Int)≤left∧deep+a2≤9)
  ·rw[g1 c1];simp only;obtain⟨g3,g4⟩:=h2 (left-a1) (by omega)
   by_cases c2:((b1:Int)≤left-a1∧(b1=0∨deep+b2≤9))
   ·refine⟨fun _=>?_,fun c=>by exfalso;omega⟩;rw[g3 c2];congr 1;omega
   ·exact⟨fun c=>by exfalso;omega,fun _=>g4 c2⟩
  ·refine⟨fun c=>by exfalso;omega,fun _=>?_⟩;have:=g2 c1;generalize szV deep v left=Z at this;obtain⟨z1,z2⟩:=Z;simp only at this;subst this;rfl
end
def q5K(v:Val):Nat:=if 300<(ptV v).1∨8<(ptV v).2 then 2 else if q5Z v then 0 else 3
theorem j7E(v:Val):(szV 1 v 300).1 = !decide (300<(ptV v).1∨8<(ptV v).2):=by
 have h:=j3w 1 v 300 (by omega)
 by_cases c:(((ptV v).1:Int)≤300∧1+(ptV v).2≤9)
 ·rw[h.1 c];have:¬(300<(ptV v).1∨8<(ptV v).2):=by omega
  simp[this]
 ·rw[h.2 c];have:(300<(ptV v).1∨8<(ptV v).2):=by omega
  simp[this]
def q9R:q0m:=
 .seq (.reg [⟨some 1,.box (.t 0),none⟩,Qx 2 (.k (.d .nil))]) (.seq (.reg [⟨some 3,.allo [.int .i64 0],none⟩,⟨none,.st 1 (.t 3) (Ki 300),none⟩]) (.seq (.seq (.reg [Q 4 (.ld 
 true 5 (.t 1)),⟨some 5,.prim .call [.k (.fn (.func 58) [] []),.t 4,.k (.d (.int .i64 1)),.t 3] [],none⟩,Q 6 (.not (.t 5))]) (.cond (.t 6) (.seq (.reg [Q 7 (.mkI 76 (Ki 
 2)),Qa 2 7]) .ret) .skip)) (.seq (.seq (.reg [Q 8 (.ld true 5 (.t 1)),⟨some 9,.call 59 [.t 8],none⟩,Q 10 (.not (.t 9))]) (.cond (.t 10) (.seq (.reg [Q 11 (.mkI 76 (Ki 3)), 
 Qa 2 11]) .ret) .skip)) (.seq (.reg [Qx 2 (.k (.d .nil))]) .ret))))
def q9W:List LRes:=[.tmp 2]
theorem z1S:q0t Tryz.prog 34 12 q9R q9W:=⟨_,_,Tryz.func34,rfl,by kernel_rfl,by kernel_rfl,rfl⟩
theorem z7x(v:Val)(hsm:v.sm 1048576=true):q0y Tryz.prog 34 [v.d] (fun r=>r=.one (errD (q5K v))):=by
 have h1:=j3s _ v (Zal _) 1 300 (by omega) (by omega) (by omega) (by omega) hsm;have h2:=j3C _ v (Zal _) hsm;rw[j7E]at h1;generalize(szV 1 v 300).2=q at h1;rw[Val.d_eq]at *;refine z1S.call rfl ?_;simp only[go_sem,↓reduceIte,q9R,q9W];refine q0e.mc1 (.l 3) rfl (h1) rfl rfl rfl rfl ⟨rfl,rfl⟩ ?_;simp only[go_sem,↓reduceIte];refine⟨fun c=>?_,fun c=>?_⟩
 ·simp only[q5K,if_pos c];rfl
 ·refine q0i.of h2 ?_;simp only[go_sem,↓reduceIte];simp only[q5K,if_neg c];cases q5Z v<;>simp[errD]
theorem z9w{l:List Val}{x:Val}:ptL (l++[x])=((ptL l).1+(ptV x).1,max (ptL l).2 (ptV x).2):=by
 induction l with
 |nil=>simp[ptL]
 |cons y r ih=>simp only[Zbh,ptL,ih];congr 1<;>omega
theorem z9u{l:List Fld}{x:Fld}:ptF (l++[x])=((ptF l).1+(ptV x.v).1,max (ptF l).2 (ptV x.v).2):=by
 induction l with
 |nil=>simp[ptF,z1Z]
 |cons y r ih=>simp only[Zbh,z1Z,ih];congr 1<;>omega
theorem j8o(a b:Nat):(if(a:Int)<b then(b:Int)else a)=((max a b:Nat):Int):=by split<;>omega
theorem z0G{α:Type}{l:List α}{i:Nat}{x:α}(hx:l[i]?=some x):l.take (i+1)=l.take i++[x]:=by
 rw[Zbd,hx];rfl
theorem z8s{l:List Val}{i:Nat}:(ptL (l.take i)).1≤(ptL l).1:=by
 induction l generalizing i with
 |nil=>simp
 |cons y r ih=>
  cases i with
  |zero=>simp[ptL]
  |succ i=>simp only[Zbz,ptL];have:=ih (i:=i);omega
theorem z8r{l:List Fld}{i:Nat}:(ptF (l.take i)).1≤(ptF l).1:=by
 induction l generalizing i with
 |nil=>simp
 |cons y r ih=>
  cases i with
  |zero=>simp[ptF]
  |succ i=>simp only[Zbz,z1Z];have:=ih (i:=i);omega
theorem j7h{l:List Val}{x:Val}(h:x∈l):(ptV x).1≤(ptL l).1:=by
 induction l with
 |nil=>simp at h
 |cons y r ih=>
  simp only[ptL];rcases Zau.1 h with rfl|h
  ·omega
  ·have:=ih h;omega
theorem j7g{l:List Fld}{x:Fld}(h:x∈l):(ptV x.v).1≤(ptF l).1:=by
 induction l with
 |nil=>simp at h
 |cons y r ih=>
  simp only[z1Z];rcases Zau.1 h with rfl|h
  ·omega
  ·have:=ih h;omega
mutual
theorem j58:∀(v:Val),(ptV v).2≤(ptV v).1
 |.mk k n s l f=>by
  have h1:=z9v l;have h2:=z9t f;simp only[ptV];omega
theorem z9v:∀(l:List Val),(ptL l).2≤(ptL l).1
 |[]=>Zal _
 |v::r=>by
  have h1:=j58 v;have h2:=z9v r;simp only[ptL];omega
theorem z9t:∀(l:List Fld),(ptF l).2≤(ptF l).1
 |[]=>Zal _
 |.mk _ v::r=>by
  have h1:=j58 v;have h2:=z9t r;simp only[ptF];omega
end
def q5a:q0m:=
 .seq (.reg [⟨some 1,.box (.t 0),none⟩,Qx 2 (Ki 0),Qx 3 (Ki 0)]) (.seq (.reg [Qx 4 (Ki 1)]) (.seq (.reg [Qx 5 (Ki 0)]) (.seq (.seq (.reg [Qx 6 (Ki 0)]) (.block 0 (.loop (.seq 
 (.seq (.reg [Qc 12 6,Q 13 (.fa 3 (.t 1)),Q 14 (.ld false 1 (.t 13)),Q 15 (.len false (.t 14)),Q 16 (.bin .lss (.t 12) (.t 15))]) (.cond (.t 16) .skip (.exit 0))) (.seq 
 (.block 1 (.seq (.reg [Q 20 (.fa 3 (.t 1)),Q 21 (.ld false 1 (.t 20)),Qc 22 6,Q 23 (.ia 5 (.t 21) (.t 22)),Q 24 (.ld true 5 (.t 23)),⟨some 25,.call 28 [.t 24],none⟩,Qc 19 
 25,Q 26 (.ext 0 (.t 19)),Q 27 (.ext 1 (.t 19)),Qa 7 26,Qa 8 27]) (.seq (.reg [Qc 28 4,Qc 29 7,Q 30 (.bin .add (.t 28) (.t 29)),Qa 4 30]) (.reg [Qc 31 5,Qc 32 8,Q 33 (.mm 
 true (.t 31) (.t 32)),Qa 5 33])))) (.reg [Qc 17 6,Q 18 (.bin .add (.t 17) (Ki 1)),Qa 6 18])))))) (.seq (.seq (.reg [Qx 9 (Ki 0)]) (.block 2 (.loop (.seq (.seq (.reg [Qc 34 9, 
 Q 35 (.fa 4 (.t 1)),Q 36 (.ld false 1 (.t 35)),Q 37 (.len false (.t 36)),Q 38 (.bin .lss (.t 34) (.t 37))]) (.cond (.t 38) .skip (.exit 2))) (.seq (.block 3 (.seq (.reg [Q 42 
 (.fa 4 (.t 1)),Q 43 (.ld false 1 (.t 42)),Qc 44 9,Q 45 (.ia 6 (.t 43) (.t 44)),Q 46 (.fa 1 (.t 45)),Q 47 (.ld true 5 (.t 46)),⟨some 48,.call 28 [.t 47],none⟩,Qc 41 48,Q 
 49 (.ext 0 (.t 41)),Q 50 (.ext 1 (.t 41)),Qa 10 49,Qa 11 50]) (.seq (.reg [Qc 51 4,Qc 52 10,Q 53 (.bin .add (.t 51) (.t 52)),Qa 4 53]) (.reg [Qc 54 5,Qc 55 11,Q 56 (.mm 
 true (.t 54) (.t 55)),Qa 5 56])))) (.reg [Qc 39 9,Q 40 (.bin .add (.t 39) (Ki 1)),Qa 9 40])))))) (.seq (.reg [Qc 57 4,Qc 58 5,Q 59 (.bin .add (.t 58) (Ki 1)),Qa 2 57,Qa 3 
 59]) .ret)))))
def q5k:List LRes:=[.tmp 2,.tmp 3]
theorem q7n:q0t Tryz.prog 28 60 q5a q5k:=⟨_,_,Tryz.func28,rfl,by kernel_rfl,by kernel_rfl,rfl⟩
theorem j0C:∀(m:Nat) (v:Val),SizeOf.sizeOf v≤m→v.sm 1048576=true→(ptV v).1≤1000000000→q0y Tryz.prog 28 [v.d] (fun r=>r=.tup [.int .i64 (ptV v).1,.int .i64 (ptV v).2]):=by
 intro m;induction m with
 |zero=>intro v h;cases v;simp at h
 |succ m ih=>
  intro v hv hsm hpt;obtain⟨_,hll,hfl,hsl,hsf⟩:=Val.q6L.1 hsm;have hvl:=q0n v.l;have hfl':=q5L v.f;have hpe:=j57 v;have hle:=z9v v.l;have hle2:=z9t v.f;rw[hpe]at hpt;simp only at hpt;rw[hpe];rw[Val.d_eq];refine q7n.call rfl ?_;simp only[go_sem,↓reduceIte,q5a,q5k];refine q0j (fun i:Nat=>⟨[(1,.ptr (.l 1) 0),(4,.d (.int .i64 (1+(ptL (v.l.take i)).1:Nat))),(5,.d (.int .i64 (ptL (v.l.take i)).2)),(6,.d (.int .i64 i))],
    [(1,.cells [.d (.int .i64 v.kind),.d (.int .i64 v.n),.d (.str v.s),.d (.list (q0M v.l)),.d (.list (q3H v.f))])],[]⟩)
   (fun i=>i≤v.l.length) (fun i=>v.l.length-i) 0 ?_ ?_ ?_
  ·refine Weak.mk ?_ ?_ ?_<;>simp only[go_sem,↓reduceIte,Sub,Int.natCast_add,Int.natCast_mul,Zce,ptL]
  ·omega
  ·intro i hi;simp only[go_sem,↓reduceIte,hvl];refine⟨fun hlt=>?_,fun hge=>?_⟩
   ·obtain⟨x,hx⟩:=get_some (l:=v.l) (i:=i) (by omega);have hm:=Zaa hx;have hc:=ih x (by have:=z7h hm;omega) (hsl x hm) (by have:=j7h hm;omega);have ht:=z8s (l:=v.l) (i:=i+1);have hle3:=z9v (v.l.take (i+1));rw[z0G hx,z9w]at ht hle3;simp only at ht hle3;rw[Val.d_eq]at hc;simp(disch:=omega)only[go_sem,↓reduceIte,q0d,q4Z,hx,Val.d_eq];refine q0i.of hc ?_;simp(disch:=omega)only[go_sem,↓reduceIte];refine⟨i+1,?_,by omega,by omega⟩;rw[z0G hx,z9w]
    refine Weak.mk ?_ ?_ ?_<;>simp only[go_sem,↓reduceIte,Sub,Int.natCast_add,Int.natCast_mul,j8o,Int.add_assoc]
   ·have ht:v.l.take i=v.l:=List.take_of_length_le (by omega);rw[ht];refine q0j (fun j:Nat=>⟨[(1,.ptr (.l 1) 0),(4,.d (.int .i64 (1+(ptL v.l).1+(ptF (v.f.take j)).1:Nat))),(5,.d (.int .i64 (max (ptL v.l).2 (ptF (v.f.take j)).2:Nat))),(9,.d (.int .i64 j))],
      [(1,.cells [.d (.int .i64 v.kind),.d (.int .i64 v.n),.d (.str v.s),.d (.list (q0M v.l)),.d (.list (q3H v.f))])],[]⟩)
     (fun j=>j≤v.f.length) (fun j=>v.f.length-j) 0 ?_ ?_ ?_
    ·refine Weak.mk ?_ ?_ ?_<;>simp only[go_sem,↓reduceIte,Sub,Int.natCast_add,Int.natCast_mul,Zce,ptF,Zcn,Nat.max_zero]
    ·omega
    ·intro j hj;simp only[go_sem,↓reduceIte,hfl'];refine⟨fun hlt=>?_,fun hge=>?_⟩
     ·obtain⟨x,hx⟩:=get_some (l:=v.f) (i:=j) (by omega);have hm:=Zaa hx;have hc:=ih x.v (by have:=z4I hm;omega) (Fld.q6L.1 (hsf x hm)).2 (by have:=j7g hm;omega);have ht:=z8r (l:=v.f) (i:=j+1);have hle3:=z9t (v.f.take (j+1));rw[z0G hx,z9u]at ht hle3;simp only at ht hle3;rw[Val.d_eq]at hc;simp(disch:=omega)only[go_sem,↓reduceIte,q0d,q3c,hx,Fld.d_eq];refine q0i.of hc ?_;simp(disch:=omega)only[go_sem,↓reduceIte];refine⟨j+1,?_,by omega,by omega⟩
      rw[z0G hx,z9u];refine Weak.mk ?_ ?_ ?_<;>simp only[go_sem,↓reduceIte,Sub,Int.natCast_add,Int.natCast_mul,j8o,Int.add_assoc,Nat.max_assoc]
     ·have ht:v.f.take j=v.f:=List.take_of_length_le (by omega);rw[ht];simp(disch:=omega)only[go_sem,↓reduceIte,Int.natCast_add,Zcp]
def q36:q0m:=
 .seq (.reg [Qx 2 (Ki 0)]) (.seq (.seq (.reg [Qc 3 0,Q 4 (.bin .lss (.t 3) (Ki (-1000000000))),Qc 5 4,Qd 6 0 5 false,Qg 7 (.bin .gtr (.t 6) (Ki 1000000000)) 5 false,Q 8 (.pick 
 (.t 5) KT (.t 7))]) (.cond (.t 8) (.seq (.reg [Qx 2 (Ki 1)]) .ret) .skip)) (.seq (.reg [Qx 2 (Ki 0)]) .ret))
def q4a:List LRes:=[.tmp 2]
theorem q6f:q0t Tryz.prog 26 9 q36 q4a:=⟨_,_,Tryz.func26,rfl,by kernel_rfl,by kernel_rfl,rfl⟩
def fltI(n:Int):Int:=if Lim n then 0 else 1
theorem q1t(n:Int):q0y Tryz.prog 26 [.int .i64 n] (fun r=>r=.one (.int .i64 (fltI n))):=by
 refine q6f.call rfl ?_;simp only[go_sem,↓reduceIte,q36,q4a];unfold fltI
 by_cases h:Lim n
 ·rw[if_pos h];unfold Lim at h;exact⟨fun a=>⟨fun b=>by omega,fun b=>rfl⟩,fun a=>by omega⟩
 ·rw[if_neg h];unfold Lim at h;exact⟨fun a=>⟨fun b=>rfl,fun b=>by omega⟩,fun a=>rfl⟩
theorem q4S{n:Int}(h:Lim n):fltI n=0:=if_pos h
theorem q4R{n:Int}(h:¬Lim n):fltI n=1:=if_neg h
theorem z0a(n:Int):0≤fltI n∧fltI n≤1:=by unfold fltI;split<;>omega
def q46:q0m:=
 .seq (.reg [Qx 2 (Ki 0)]) (.seq (.reg [Qc 4 0,Q 5 (.bin .rem (.t 4) (Ki 1000)),Qa 3 5]) (.seq (.seq (.reg [Qc 6 3,Q 7 (.bin .lss (.t 6) (Ki 0))]) (.cond (.t 7) (.reg [Qc 8 3,Q 
 9 (.bin .add (.t 8) (Ki 1000)),Qa 3 9]) .skip)) (.seq (.reg [Qc 10 0,Qc 11 3,Q 12 (.bin .sub (.t 10) (.t 11)),Q 13 (.bin .quo (.t 12) (Ki 1000)),Qa 2 13]) .ret)))
def q5g:List LRes:=[.tmp 2]
theorem q7i:q0t Tryz.prog 103 14 q46 q5g:=⟨_,_,Tryz.func103,rfl,by kernel_rfl,by kernel_rfl,rfl⟩
theorem z3f{n:Int}(h : -4000000000000000000≤n∧n≤4000000000000000000):q0y Tryz.prog 103 [.int .i64 n] (fun r=>r=.one (.int .i64 (n / 1000))):=by
 refine q7i.call rfl ?_;simp only[go_sem,↓reduceIte,q46,q5g];have h1:((1000:Int).natAbs:Int)=1000:=rfl;have hm:∃m:Int,Int.tmod n 1000=m∧(n-m) % 1000=0 ∧ -1000<m∧m<1000∧(0≤n→0≤m)∧(n≤0→m≤0):=by
  refine⟨_,rfl,?_⟩;rw[Int.tmod_eq_emod]
  by_cases hd:0≤n∨(1000:Int)∣n
  ·rw[if_pos hd];simp only[Int.natCast_zero,Int.sub_zero,Int.natCast_zero];omega
  ·rw[if_neg hd,h1];omega
 obtain⟨m,e,q1,q2,q3,q4,q5⟩:=hm;rw[e];refine⟨fun a=>?_,fun a=>?_⟩
 ·rw[IntWalk.i64_in (m+1000) (by omega),IntWalk.i64_in (n-_) (by omega)];have e2:n-(m+1000)=1000*(n / 1000):=by omega
  rw[e2,Int.mul_tdiv_cancel_left _ (by decide),IntWalk.i64_in _ (by omega)]
 ·rw[IntWalk.i64_in (n-_) (by omega)];have e2:n-m=1000*(n / 1000):=by omega
  rw[e2,Int.mul_tdiv_cancel_left _ (by decide),IntWalk.i64_in _ (by omega)]
def intN:Option Int→Res
 |some n=>.tup [I n,I 0]
 |none=>.tup [I 0,I 1]
def q5F:q0m:=
 .seq (.reg [Qx 10 (Ki 0),Qx 11 (Ki 0)]) (.seq (.seq (.reg [Qc 13 0,⟨some 14,.call 26 [.t 13],none⟩,Qc 15 1,⟨some 16,.call 26 [.t 15],none⟩,Q 17 (.bin .add (.t 14) (.t 
 16)),Qc 18 2,⟨some 19,.call 26 [.t 18],none⟩,Q 20 (.bin .add (.t 17) (.t 19)),Qc 21 3,⟨some 22,.call 26 [.t 21],none⟩,Q 23 (.bin .add (.t 20) (.t 22)),Qc 24 4,⟨some 
 25,.call 26 [.t 24],none⟩,Q 26 (.bin .add (.t 23) (.t 25)),Q 27 (.bin .gtr (.t 26) (Ki 0))]) (.cond (.t 27) (.seq (.reg [Qx 10 (Ki 0),Qx 11 (Ki 1)]) .ret) .skip)) (.seq 
 (.reg [Qc 28 0,Qc 29 1,Q 30 (.bin .mul (.t 28) (.t 29)),Qc 31 2,Qc 32 3,Q 33 (.bin .mul (.t 31) (.t 32)),Q 34 (.bin .add (.t 30) (.t 33)),⟨some 35,.call 103 [.t 34], 
 none⟩,Qc 36 4,Q 37 (.bin .add (.t 35) (.t 36)),Qa 12 37]) (.seq (.seq (.reg [Qc 38 12,⟨some 39,.call 26 [.t 38],none⟩,Q 40 (.bin .gtr (.t 39) (Ki 0))]) (.cond (.t 40) 
 (.seq (.reg [Qx 10 (Ki 0),Qx 11 (Ki 1)]) .ret) .skip)) (.seq (.reg [Qc 41 12,Qa 10 41,Qx 11 (Ki 0)]) .ret))))
def q5I:List LRes:=[.tmp 10,.tmp 11]
theorem q7D:q0t Tryz.prog 98 42 q5F q5I:=⟨_,_,Tryz.func98,rfl,by kernel_rfl,by kernel_rfl,rfl⟩
theorem q4W(a x b y c:Int):q0y Tryz.prog 98 [.int .i64 a,.int .i64 x,.int .i64 b,.int .i64 y,.int .i64 c] (fun r=>r=intN (twoF a x b y c)):=by
 refine q7D.call rfl ?_;have f1:=z0a a;have f2:=z0a x;have f3:=z0a b;have f4:=z0a y;have f5:=z0a c;simp only[go_sem,↓reduceIte,q5F,q5I];refine q0i.of (q1t a) ?_;simp only[go_sem,↓reduceIte];refine q0i.of (q1t x) ?_;simp(disch:=omega)only[go_sem,↓reduceIte];refine q0i.of (q1t b) ?_;simp(disch:=omega)only[go_sem,↓reduceIte];refine q0i.of (q1t y) ?_;simp(disch:=omega)only[go_sem,↓reduceIte];refine q0i.of (q1t c) ?_;unfold twoF
 by_cases hb:Lim a∧Lim x∧Lim b∧Lim y∧Lim c
 ·rw[if_pos hb];obtain⟨l1,l2,l3,l4,l5⟩:=hb;rw[q4S l1,q4S l2,q4S l3,q4S l4,q4S l5];have b1:=z4z l1.1 l1.2 l2.1 l2.2;have b2:=z4z l3.1 l3.2 l4.1 l4.2;unfold Lim at l5;simp(disch:=omega)only[go_sem,↓reduceIte];refine q0i.of (z3f (by omega)) ?_;simp(disch:=omega)only[go_sem,↓reduceIte];refine q0i.of (q1t _) ?_;unfold okF
  by_cases hr:Lim ((a*x+b*y) / 1000+c)
  ·rw[if_pos hr,q4S hr];simp only[go_sem,↓reduceIte,intN,I]
  ·rw[if_neg hr,q4R hr];simp only[go_sem,↓reduceIte,intN,I]
 ·rw[if_neg hb]
  have hs:0<fltI a+fltI x+fltI b+fltI y+fltI c:=by
   by_cases l1:Lim a
   ·by_cases l2:Lim x
    ·by_cases l3:Lim b
     ·by_cases l4:Lim y
      ·have l5:¬Lim c:=fun l5=>hb ⟨l1,l2,l3,l4,l5⟩
       have:=q4R l5;omega
      ·have:=q4R l4;omega
     ·have:=q4R l3;omega
    ·have:=q4R l2;omega
   ·have:=q4R l1;omega
  simp(disch:=omega)only[go_sem,↓reduceIte,hs,intN,I]
def z52:q0m:=
 .seq (.reg [Qx 4 (Ki 0),Qx 5 (.k (.d .nil))]) (.seq (.seq (.reg [Qc 7 0,⟨some 8,.call 78 [.t 7],none⟩,Q 9 (.eqN 0 true (.t 8)),Qc 10 9,Qd 11 1 10 false,⟨some 12,.call 78 
 [.t 11],some (10,false)⟩,Qg 13 (.eqN 0 true (.t 12)) 10 false,Q 14 (.pick (.t 10) KT (.t 13))]) (.cond (.t 14) (.seq (.reg [Q 15 (.mkI 76 (Ki 1)),Qx 4 (Ki 0),Qa 5 15]) 
 .ret) .skip)) (.seq (.reg [Qc 16 0,Qc 17 1,Q 18 (.bin .mul (.t 16) (.t 17)),⟨some 19,.call 115 [.t 18],none⟩,Qa 6 19]) (.seq (.reg [Qc 20 6,⟨some 21,.call 114 [.t 20], 
 none⟩,Q 22 (.ext 0 (.t 21)),Q 23 (.ext 1 (.t 21)),Qa 4 22,Qa 5 23]) .ret)))
def z56:List LRes:=[.tmp 4,.tmp 5]
theorem z6J:q0t Tryz.prog 120 24 z52 z56:=⟨_,_,Tryz.func120,rfl,by kernel_rfl,by kernel_rfl,rfl⟩
def z50:q0m:=
 .seq (.reg [Qx 4 (Ki 0),Qx 5 (.k (.d .nil))]) (.seq (.seq (.reg [Qc 6 0,⟨some 7,.call 78 [.t 6],none⟩,Q 8 (.eqN 0 true (.t 7)),Qc 9 8,Qd 10 1 9 false,⟨some 11,.call 78 [.t 
 10],some (9,false)⟩,Qg 12 (.eqN 0 true (.t 11)) 9 false,Q 13 (.pick (.t 9) KT (.t 12))]) (.cond (.t 13) (.seq (.reg [Q 14 (.mkI 76 (Ki 1)),Qx 4 (Ki 0),Qa 5 14]) .ret) 
 .skip)) (.seq (.reg [Qc 15 0,Qc 16 1,Q 17 (.bin .add (.t 15) (.t 16)),⟨some 18,.call 114 [.t 17],none⟩,Q 19 (.ext 0 (.t 18)),Q 20 (.ext 1 (.t 18)),Qa 4 19,Qa 5 20]) 
 .ret))
def z55:List LRes:=[.tmp 4,.tmp 5]
theorem z6I:q0t Tryz.prog 135 21 z50 z55:=⟨_,_,Tryz.func135,rfl,by kernel_rfl,by kernel_rfl,rfl⟩
def q55:q0m:=
 .seq (.reg [Qx 4 (Ki 0),Qx 5 (Ki 0)]) (.seq (.seq (.reg [Qc 7 0,⟨some 8,.call 26 [.t 7],none⟩,Qc 9 1,⟨some 10,.call 26 [.t 9],none⟩,Q 11 (.bin .add (.t 8) (.t 10)),Q 12 
 (.bin .gtr (.t 11) (Ki 0))]) (.cond (.t 12) (.seq (.reg [Qx 4 (Ki 0),Qx 5 (Ki 1)]) .ret) .skip)) (.seq (.reg [Qc 13 0,Qc 14 1,Q 15 (.bin .mul (.t 13) (.t 14)),⟨some 16,.call 
 103 [.t 15],none⟩,Qa 6 16]) (.seq (.seq (.reg [Qc 17 6,⟨some 18,.call 26 [.t 17],none⟩,Q 19 (.bin .gtr (.t 18) (Ki 0))]) (.cond (.t 19) (.seq (.reg [Qx 4 (Ki 0),Qx 5 (Ki 
 1)]) .ret) .skip)) (.seq (.reg [Qc 20 6,Qa 4 20,Qx 5 (Ki 0)]) .ret))))
def q57:List LRes:=[.tmp 4,.tmp 5]
theorem q7R:q0t Tryz.prog 77 21 q55 q57:=⟨_,_,Tryz.func77,rfl,by kernel_rfl,by kernel_rfl,rfl⟩
def q54:q0m:=
 .seq (.reg [Qx 4 (Ki 0),Qx 5 (Ki 0)]) (.seq (.seq (.reg [Qc 6 0,⟨some 7,.call 26 [.t 6],none⟩,Qc 8 1,⟨some 9,.call 26 [.t 8],none⟩,Q 10 (.bin .add (.t 7) (.t 9)),Q 11 
 (.bin .gtr (.t 10) (Ki 0)),Qc 12 11,Qd 13 0 12 false,Qd 14 1 12 false,Qg 15 (.bin .add (.t 13) (.t 14)) 12 false,⟨some 16,.call 26 [.t 15],some (12,false)⟩,Qg 17 (.bin 
 .gtr (.t 16) (Ki 0)) 12 false,Q 18 (.pick (.t 12) KT (.t 17))]) (.cond (.t 18) (.seq (.reg [Qx 4 (Ki 0),Qx 5 (Ki 1)]) .ret) .skip)) (.seq (.reg [Qc 19 0,Qc 20 1,Q 21 (.bin 
 .add (.t 19) (.t 20)),Qa 4 21,Qx 5 (Ki 0)]) .ret))
def q56:List LRes:=[.tmp 4,.tmp 5]
theorem q7Q:q0t Tryz.prog 102 22 q54 q56:=⟨_,_,Tryz.func102,rfl,by kernel_rfl,by kernel_rfl,rfl⟩
def mulF(a b:Int):Option Int:=if Lim a∧Lim b then okF (a*b / 1000)else none
def addF(a b:Int):Option Int:=if Lim a∧Lim b then okF (a+b)else none
theorem j4H(a b:Int):q0y Tryz.prog 120 [.int .i64 a,.int .i64 b] (fun r=>r=intE (mulF a b)):=by
 refine z6J.call rfl ?_;simp only[go_sem,↓reduceIte,z52,z56];unfold mulF
 by_cases ha:Lim a
 ·refine q0i.of (q4N ha) ?_;simp only[go_sem,↓reduceIte]
  by_cases hb:Lim b
  ·refine q0i.of (q4N hb) ?_;rw[if_pos ⟨ha,hb⟩];have b1:=z4z ha.1 ha.2 hb.1 hb.2;simp(disch:=omega)only[go_sem,↓reduceIte];refine q0i.of (z4p (by unfold i64;omega)) ?_;simp only[go_sem,↓reduceIte,I];refine q0i.of (z8i _) ?_;cases okF (a*b / 1000)<;>simp only[go_sem,↓reduceIte,intE,I,err]
  ·refine q0i.of (q3A hb) ?_;rw[if_neg (fun h=>hb h.2)];simp only[go_sem,↓reduceIte,intE,I,err]
 ·refine q0i.of (q3A ha) ?_;rw[if_neg (fun h=>ha h.1)];simp only[go_sem,↓reduceIte,intE,I,err]
theorem j3O(a b:Int):q0y Tryz.prog 135 [.int .i64 a,.int .i64 b] (fun r=>r=intE (addF a b)):=by
 refine z6I.call rfl ?_;simp only[go_sem,↓reduceIte,z50,z55];unfold addF
 by_cases ha:Lim a
 ·refine q0i.of (q4N ha) ?_;simp only[go_sem,↓reduceIte]
  by_cases hb:Lim b
  ·refine q0i.of (q4N hb) ?_;rw[if_pos ⟨ha,hb⟩];have w:IntKind.i64.wrap (a+b)=a+b:=IntWalk.i64_in _ (by unfold Lim at ha hb;omega);simp only[go_sem,↓reduceIte,w];refine q0i.of (z8i _) ?_;cases okF (a+b)<;>simp only[go_sem,↓reduceIte,intE,I,err]
  ·refine q0i.of (q3A hb) ?_;rw[if_neg (fun h=>hb h.2)];simp only[go_sem,↓reduceIte,intE,I,err]
 ·refine q0i.of (q3A ha) ?_;rw[if_neg (fun h=>ha h.1)];simp only[go_sem,↓reduceIte,intE,I,err]
theorem j3e(a b:Int):q0y Tryz.prog 77 [.int .i64 a,.int .i64 b] (fun r=>r=intN (mulF a b)):=by
 refine q7R.call rfl ?_;simp only[go_sem,↓reduceIte,q55,q57];have f1:=z0a a;have f2:=z0a b;refine q0i.of (q1t a) ?_;simp only[go_sem,↓reduceIte];refine q0i.of (q1t b) ?_;unfold mulF
 by_cases hb:Lim a∧Lim b
 ·rw[if_pos hb];obtain⟨l1,l2⟩:=hb;rw[q4S l1,q4S l2];have b1:=z4z l1.1 l1.2 l2.1 l2.2;simp(disch:=omega)only[go_sem,↓reduceIte];refine q0i.of (z3f (by omega)) ?_;simp(disch:=omega)only[go_sem,↓reduceIte];refine q0i.of (q1t _) ?_;unfold okF
  by_cases hr:Lim (a*b / 1000)
  ·rw[if_pos hr,q4S hr];simp only[go_sem,↓reduceIte,intN,I]
  ·rw[if_neg hr,q4R hr];simp only[go_sem,↓reduceIte,intN,I]
 ·rw[if_neg hb];have hs:0<fltI a+fltI b:=by
   by_cases l1:Lim a
   ·have l5:¬Lim b:=fun l5=>hb ⟨l1,l5⟩
    have:=q4R l5;omega
   ·have:=q4R l1;omega
  simp(disch:=omega)only[go_sem,↓reduceIte,hs,intN,I]
theorem j25(a b:Int)(ha0:i64 a):q0y Tryz.prog 102 [.int .i64 a,.int .i64 b] (fun r=>r=intN (addF a b)):=by
 refine q7Q.call rfl ?_;simp only[go_sem,↓reduceIte,q54,q56];have f1:=z0a a;have f2:=z0a b;refine q0i.of (q1t a) ?_;simp only[go_sem,↓reduceIte];refine q0i.of (q1t b) ?_;unfold addF
 by_cases hb:Lim a∧Lim b
 ·rw[if_pos hb];obtain⟨l1,l2⟩:=hb;rw[q4S l1,q4S l2];have w:IntKind.i64.wrap (a+b)=a+b:=IntWalk.i64_in _ (by unfold Lim at l1 l2;omega);simp(disch:=omega)only[go_sem,↓reduceIte,w];refine q0i.of (q1t _) ?_;unfold okF
  by_cases hr:Lim (a+b)
  ·rw[if_pos hr,q4S hr];simp only[go_sem,↓reduceIte,intN,I,w]
  ·rw[if_neg hr,q4R hr];simp only[go_sem,↓reduceIte,intN,I,w]
 ·rw[if_neg hb];have hs:0<fltI a+fltI b:=by
   by_cases l1:Lim a
   ·have l5:¬Lim b:=fun l5=>hb ⟨l1,l5⟩
    have:=q4R l5;omega
   ·have:=q4R l1;omega
  simp(disch:=omega)only[go_sem,↓reduceIte,hs,intN,I]
theorem j0T{v x:Val}(hx:x∈v.l)(h:q5Z x=false):q5Z v=false:=by
 have h0:¬v.l.length=0:=fun e=>by rw[Zbq.1 e]at hx;simp at hx
 have h1:z1T v.l=false:=by rw[z5V];simp only[Bool.not_eq_false'];exact Zbg.2 ⟨x,hx,by simp[h]⟩
 rw[z15];simp[h0,h1]
theorem z1b{v:Val}(h:q5v none v.f=false):q5Z v=false:=by
 have h0:¬v.f.length=0:=fun e=>by rw[Zbq.1 e]at h;simp[q5v]at h
 rw[z15];simp[h0,h]
theorem j3B{l:List Val}(h:∀x∈l,q5Z x=true):z1T l=true:=by
 rw[z5V];simp only[Zbf];rw[Zcc];intro x hx;simp[h x hx]
theorem j3A{p:Option (List UInt8)}{a b:List Fld}(h:q5v p a=false):q5v p (a++b)=false:=by
 induction a generalizing p with
 |nil=>simp[q5v]at h
 |cons x r ih=>
  cases x;simp only[Zbh,q5v,Bool.and_eq_false_iff]at h ⊢;rcases h with h|h
  ·exact .inl h
  ·exact .inr (ih h)
theorem q7p{l:List Fld}{i:Nat}(h:q5v none (l.take i)=false):q5v none l=false:=by
 rw[←List.take_append_drop i l];exact j3A h
theorem q8p:∀(x y:List UInt8),(Op.bytesLess x y || decide (x=y)) = !Op.bytesLess y x
 |[],[]=>by simp[Op.bytesLess]
 |[],_::_=>by simp[Op.bytesLess]
 |_::_,[]=>by simp[Op.bytesLess]
 |a::x,b::y=>by
  have ih:=q8p x y;have hab:a=b↔a.toNat=b.toNat:=⟨fun h=>by rw[h],UInt8.toNat_inj.1⟩;simp only[Op.bytesLess,UInt8.lt_iff_toNat_lt,beq_iff_eq,bne_iff_ne]at ih ⊢;rcases Nat.lt_trichotomy a.toNat b.toNat with h|h|h
  ·have h1:¬b.toNat<a.toNat:=by omega
   have h2:¬a=b:=fun e=>by rw[hab]at e;omega
   have h3:¬b=a:=fun e=>h2 e.symm
   simp[h,h1,h2,h3]
  ·have h2:=hab.2 h;subst h2;simp[ih]
  ·have h1:¬a.toNat<b.toNat:=by omega
   have h2:¬a=b:=fun e=>by rw[hab]at e;omega
   have h3:¬b=a:=fun e=>h2 e.symm
   simp[h,h1,h2,h3]
def q4H:q0m:=
 .seq (.reg [⟨some 1,.box (.t 0),none⟩,Qx 2 KF]) (.seq (.seq (.reg [Qx 3 (Ki 0)]) (.block 0 (.loop (.seq (.seq (.reg [Qc 12 3,Q 13 (.fa 3 (.t 1)),Q 14 (.ld false 1 (.t 13)),Q 
 15 (.len false (.t 14)),Q 16 (.bin .lss (.t 12) (.t 15))]) (.cond (.t 16) .skip (.exit 0))) (.seq (.block 1 (.seq (.reg [Q 19 (.fa 3 (.t 1)),Q 20 (.ld false 1 (.t 19)),Qc 21 
 3,Q 22 (.ia 5 (.t 20) (.t 21)),Q 23 (.ld true 5 (.t 22)),⟨some 24,.call 29 [.t 23],none⟩,Qa 4 24]) (.seq (.reg [Qc 25 4,Q 26 (.not (.t 25))]) (.cond (.t 26) (.seq (.reg 
 [Qx 2 KF]) .ret) .skip)))) (.reg [Qc 17 3,Q 18 (.bin .add (.t 17) (Ki 1)),Qa 3 18])))))) (.seq (.seq (.reg [Qx 5 (Ki 0)]) (.block 2 (.loop (.seq (.seq (.reg [Qc 27 5,Q 28 (.fa 
 4 (.t 1)),Q 29 (.ld false 1 (.t 28)),Q 30 (.len false (.t 29)),Q 31 (.bin .lss (.t 27) (.t 30))]) (.cond (.t 31) .skip (.exit 2))) (.seq (.block 3 (.seq (.reg [Q 34 (.fa 4 (.t 
 1)),Q 35 (.ld false 1 (.t 34)),Qc 36 5,Q 37 (.ia 6 (.t 35) (.t 36)),Q 38 (.fa 1 (.t 37)),Q 39 (.ld true 5 (.t 38)),⟨some 40,.call 29 [.t 39],none⟩,Qa 6 40]) (.seq (.reg 
 [Q 41 (.fa 4 (.t 1)),Q 42 (.ld false 1 (.t 41)),Qc 43 5,Q 44 (.ia 6 (.t 42) (.t 43)),Q 45 (.fa 0 (.t 44)),Q 46 (.ld false 1 (.t 45)),⟨some 47,.call 41 [.t 46],none⟩,Qa 7 
 47]) (.seq (.dreg [Qc 48 6,Q 49 (.not (.t 48)),Qc 50 49,Qd 51 7 50 false,Qg 52 (.not (.t 51)) 50 false,Q 53 (.pick (.t 50) KT (.t 52)),Qc 54 53,Qd 55 5 54 false,Qg 56 
 (.bin .gtr (.t 55) (Ki 0)) 54 false,Qd 57 56 54 false,Qg 58 (.fa 4 (.t 1)) 57 true,Qg 59 (.ld false 1 (.t 58)) 57 true,Qd 60 5 57 true,Qg 61 (.ia 6 (.t 59) (.t 60)) 57 true, 
 Qg 62 (.fa 0 (.t 61)) 57 true,Qg 63 (.ld false 1 (.t 62)) 57 true,Qg 64 (.fa 4 (.t 1)) 57 true,Qg 65 (.ld false 1 (.t 64)) 57 true,Qd 66 5 57 true,Qg 67 (.bin .sub (.t 66) 
 (Ki 1)) 57 true,Qg 68 (.ia 6 (.t 65) (.t 67)) 57 true,Qg 69 (.fa 0 (.t 68)) 57 true,Qg 70 (.ld false 1 (.t 69)) 57 true,Qg 71 (.bin .leq (.t 63) (.t 70)) 57 true,Qg 72 
 (.pick (.t 57) (.t 71) KF) 54 false,Q 73 (.pick (.t 54) KT (.t 72))]) (.cond (.t 73) (.seq (.reg [Qx 2 KF]) .ret) .skip))))) (.reg [Qc 32 5,Q 33 (.bin .add (.t 32) (Ki 1)),Qa 
 5 33])))))) (.seq (.reg [Q 74 (.fa 1 (.t 1)),Q 75 (.ld false 1 (.t 74)),Q 76 (.bin .eql (.t 75) (Ki 0)),Qa 8 76]) (.seq (.reg [Q 77 (.fa 2 (.t 1)),Q 78 (.ld false 1 (.t 77)), 
 Q 79 (.bin .eql (.t 78) (.k (.d (.str [])))),Qa 9 79]) (.seq (.reg [Q 80 (.fa 3 (.t 1)),Q 81 (.ld false 1 (.t 80)),Q 82 (.len false (.t 81)),Q 83 (.bin .eql (.t 82) (Ki 0)), 
 Qa 10 83]) (.seq (.reg [Q 84 (.fa 4 (.t 1)),Q 85 (.ld false 1 (.t 84)),Q 86 (.len false (.t 85)),Q 87 (.bin .eql (.t 86) (Ki 0)),Qa 11 87]) (.seq (.seq (.reg [Q 88 (.fa 0 (.t 
 1)),Q 89 (.ld false 1 (.t 88))]) (.block 4 (.seq (.reg [Q 91 (.bin .eql (.t 89) (Ki 0)),Qa 90 91]) (.cond (.t 90) (.seq (.reg [Qc 92 8,Qc 93 92,Qd 94 9 93 true,Q 95 (.pick 
 (.t 93) (.t 94) KF),Qc 96 95,Qd 97 10 96 true,Q 98 (.pick (.t 96) (.t 97) KF),Qc 99 98,Qd 100 11 99 true,Q 101 (.pick (.t 99) (.t 100) KF),Qa 2 101]) .ret) (.seq (.reg [Q 
 103 (.bin .eql (.t 89) (Ki 1)),Qa 102 103]) (.cond (.t 102) (.seq (.reg [Qc 104 8,Qc 105 104,Qg 106 (.fa 1 (.t 1)) 105 false,Qg 107 (.ld false 1 (.t 106)) 105 false,Qg 108 
 (.bin .eql (.t 107) (Ki 1)) 105 false,Q 109 (.pick (.t 105) KT (.t 108)),Qc 110 109,Qd 111 9 110 true,Q 112 (.pick (.t 110) (.t 111) KF),Qc 113 112,Qd 114 10 113 true,Q 
 115 (.pick (.t 113) (.t 114) KF),Qc 116 115,Qd 117 11 116 true,Q 118 (.pick (.t 116) (.t 117) KF),Qa 2 118]) .ret) (.seq (.reg [Q 120 (.bin .eql (.t 89) (Ki 2)),Qa 119 120]) 
 (.cond (.t 119) (.seq (.reg [Q 121 (.fa 1 (.t 1)),Q 122 (.ld false 1 (.t 121)),⟨some 123,.call 26 [.t 122],none⟩,Q 124 (.bin .eql (.t 123) (Ki 0)),Qc 125 124,Qd 126 9 125 
 true,Q 127 (.pick (.t 125) (.t 126) KF),Qc 128 127,Qd 129 10 128 true,Q 130 (.pick (.t 128) (.t 129) KF),Qc 131 130,Qd 132 11 131 true,Q 133 (.pick (.t 131) (.t 132) KF), 
 Qa 2 133]) .ret) (.seq (.reg [Q 135 (.bin .eql (.t 89) (Ki 3)),Qa 134 135]) (.cond (.t 134) (.seq (.reg [Qc 136 8,Qc 137 136,Qg 138 (.fa 2 (.t 1)) 137 true,Qg 139 (.ld false 
 1 (.t 138)) 137 true,Qg 140 (.len true (.t 139)) 137 true,Qg 141 (.bin .leq (.t 140) (Ki 200)) 137 true,Q 142 (.pick (.t 137) (.t 141) KF),Qc 143 142,Qd 144 10 143 true,Q 
 145 (.pick (.t 143) (.t 144) KF),Qc 146 145,Qd 147 11 146 true,Q 148 (.pick (.t 146) (.t 147) KF),Qa 2 148]) .ret) (.seq (.reg [Q 150 (.bin .eql (.t 89) (Ki 4)),Qa 149 150]) 
 (.cond (.t 149) (.seq (.reg [Qc 151 8,Qc 152 151,Qg 153 (.fa 2 (.t 1)) 152 true,Qg 154 (.ld false 1 (.t 153)) 152 true,⟨some 155,.call 41 [.t 154],some (152,true)⟩,Q 156 
 (.pick (.t 152) (.t 155) KF),Qc 157 156,Qd 158 10 157 true,Q 159 (.pick (.t 157) (.t 158) KF),Qc 160 159,Qd 161 11 160 true,Q 162 (.pick (.t 160) (.t 161) KF),Qa 2 162]) 
 .ret) (.seq (.reg [Q 164 (.bin .eql (.t 89) (Ki 5)),Qa 163 164]) (.cond (.t 163) (.seq (.reg [Qc 165 8,Qc 166 165,Qd 167 9 166 true,Q 168 (.pick (.t 166) (.t 167) KF),Qc 169 
 168,Qd 170 11 169 true,Q 171 (.pick (.t 169) (.t 170) KF),Qa 2 171]) .ret) (.seq (.reg [Q 173 (.bin .eql (.t 89) (Ki 6)),Qa 172 173]) (.cond (.t 172) (.seq (.reg [Qc 174 8, 
 Qc 175 174,Qd 176 9 175 true,Q 177 (.pick (.t 175) (.t 176) KF),Qc 178 177,Qd 179 10 178 true,Q 180 (.pick (.t 178) (.t 179) KF),Qa 2 180]) .ret) (.seq (.reg [Q 182 (.bin 
 .eql (.t 89) (Ki 7)),Qa 181 182]) (.cond (.t 181) (.seq (.reg [Q 183 (.fa 1 (.t 1)),Q 184 (.ld false 1 (.t 183)),Q 185 (.bin .geq (.t 184) (Ki 1)),Qc 186 185,Qg 187 (.fa 1 
 (.t 1)) 186 true,Qg 188 (.ld false 1 (.t 187)) 186 true,Qg 189 (.bin .leq (.t 188) (Ki 60)) 186 true,Q 190 (.pick (.t 186) (.t 189) KF),Qc 191 190,Qd 192 9 191 true,Q 193 
 (.pick (.t 191) (.t 192) KF),Qc 194 193,Qd 195 10 194 true,Q 196 (.pick (.t 194) (.t 195) KF),Qc 197 196,Qd 198 11 197 true,Q 199 (.pick (.t 197) (.t 198) KF),Qa 2 199]) 
 .ret) .skip)))))))))))))))))) (.seq (.reg [Qx 2 KF]) .ret))))))))
def q4L:List LRes:=[.tmp 2]
theorem q6U:q0t Tryz.prog 29 200 q4H q4L:=⟨_,_,Tryz.func29,rfl,by kernel_rfl,by kernel_rfl,rfl⟩
theorem z8D:∀(m:Nat) (v:Val),SizeOf.sizeOf v≤m→v.sm 1048576=true→q0y Tryz.prog 29 [v.d] (fun r=>r=.one (.bool (q5Z v))):=by
 intro m;induction m with
 |zero=>intro v h;cases v;simp at h
 |succ m ih=>
  intro v hv hsm;obtain⟨_,hll,hfl,hsl,hsf⟩:=Val.q6L.1 hsm;have hvl:=q0n v.l;have hfl':=q5L v.f;generalize hR:q5Z v=R;have cast0:∀a:Nat,((a:Int)=0)=(a=0):=fun a=>by apply propext;omega
  rw[Val.d_eq];refine q6U.call rfl ?_;simp only[go_sem,↓reduceIte,q4H,q4L,hvl,hfl'];refine q0j (fun i:Nat=>⟨[(1,.ptr (.l 1) 0),(3,.d (.int .i64 i))],
    [(1,.cells [.d (.int .i64 v.kind),.d (.int .i64 v.n),.d (.str v.s),.d (.list (q0M v.l)),.d (.list (q3H v.f))])],[]⟩)
   (fun i=>i≤v.l.length∧∀j x,j<i→v.l[j]?=some x→q5Z x=true) (fun i=>v.l.length-i) 0 ?_ ?_ ?_
  ·refine Weak.mk ?_ ?_ ?_<;>simp only[go_sem,↓reduceIte,Sub,Int.natCast_add,Int.natCast_mul]
  ·exact⟨by omega,fun j x h=>by omega⟩
  ·rintro i ⟨hi,hn⟩;simp only[go_sem,↓reduceIte,hvl];refine⟨fun hlt=>?_,fun hge=>?_⟩
   ·obtain⟨x,hx⟩:=get_some (l:=v.l) (i:=i) (by omega);have hm:=Zaa hx;have hc:=ih x (by have:=z7h hm;omega) (hsl x hm);rw[Val.d_eq]at hc;simp(disch:=omega)only[go_sem,↓reduceIte,q0d,q4Z,hx,Val.d_eq];refine q0i.of hc ?_;simp(disch:=omega)only[go_sem,↓reduceIte];refine⟨fun w1=>?_,fun w1=>⟨i+1,?_,⟨by omega,fun j y hj hy=>?_⟩,by omega⟩⟩
    ·rw[←hR,j0T hm w1]
    ·refine Weak.mk ?_ ?_ ?_<;>simp only[go_sem,↓reduceIte,Sub,Int.natCast_add,Int.natCast_mul]
    ·rcases Zbc j i with h|h
     ·exact hn j y h hy
     ·have:j=i:=by omega
      subst this;rw[hx]at hy;cases hy;exact w1
   ·have hL:z1T v.l=true:=j3B (fun x hx=>by
     obtain⟨j,hj⟩:=Zap hx;exact hn j x (by have:=(Zab.1 hj).1;omega) hj)
    refine q0j (fun i:Nat=>⟨[(1,.ptr (.l 1) 0),(5,.d (.int .i64 i))],
      [(1,.cells [.d (.int .i64 v.kind),.d (.int .i64 v.n),.d (.str v.s),.d (.list (q0M v.l)),.d (.list (q3H v.f))])],[]⟩)
     (fun i=>i≤v.f.length∧q5v none (v.f.take i)=true) (fun i=>v.f.length-i) 0 ?_ ?_ ?_
    ·refine Weak.mk ?_ ?_ ?_<;>simp only[go_sem,↓reduceIte,Sub,Int.natCast_add,Int.natCast_mul]
    ·exact⟨by omega,by simp[q5v]⟩
    ·rintro i ⟨hi,hn⟩;simp only[go_sem,↓reduceIte,hfl'];refine⟨fun hlt=>?_,fun hge=>?_⟩
     ·obtain⟨x,hx⟩:=get_some (l:=v.f) (i:=i) (by omega);have hm:=Zaa hx;have hc:=ih x.v (by have:=z4I hm;omega) (Fld.q6L.1 (hsf x hm)).2;have hstep:q5v none (v.f.take (i+1))=(q5v none (v.f.take i)&&(q2a x.name&&(q5Z x.v&&(match v.f[i-1]? with|some y=>if i=0 then true else Op.bytesLess y.name x.name|none=>true)))):=z4N hx;rw[hn]at hstep;rw[Val.d_eq]at hc;simp(disch:=omega)only[go_sem,↓reduceIte,q0d,q3c,hx,Fld.d_eq];refine q0i.of hc ?_
      simp(disch:=omega)only[go_sem,↓reduceIte,q0d,q3c,hx,Fld.d_eq];refine q0i.of (q8J _) ?_;simp(disch:=omega)only[go_sem,↓reduceIte,q0d,q3c,hx,Fld.d_eq];refine⟨fun w1=>⟨fun n1=>⟨fun g1=>?_,fun g1=>?_⟩,fun n1=>?_⟩,fun w1=>?_⟩
      ·have i0:i≠0:=by omega
       obtain⟨y,hy⟩:=get_some (l:=v.f) (i:=i-1) (by omega);have hgy:getI (q3H v.f) ((i:Int)-1)=some y.d:=by
        have:(i:Int)-1=((i-1:Nat):Int):=by omega
        rw[this,q0d,q3c,hy];rfl
       rw[hy]at hstep;simp only[i0,if_false,w1,n1,Zci]at hstep;simp(disch:=omega)only[go_sem,↓reduceIte,hgy,Fld.d_eq];refine⟨fun b1=>?_,fun b1=>⟨i+1,?_,⟨by omega,?_⟩,by omega⟩⟩
       ·rw[q8p]at b1;simp only[Zbf]at b1;rw[b1]at hstep;rw[←hR,z1b (q7p hstep)]
       ·refine Weak.mk ?_ ?_ ?_<;>simp only[go_sem,↓reduceIte,Sub,Int.natCast_add,Int.natCast_mul]
       ·rw[q8p]at b1;simp only[Bool.not_eq_false']at b1;rw[hstep,b1]
      ·have i0:i=0:=by omega
       subst i0;simp only[if_true,w1,n1,Zci]at hstep;simp(disch:=omega)only[go_sem,↓reduceIte];refine⟨0+1,?_,⟨by omega,?_⟩,by omega⟩
       ·refine Weak.mk ?_ ?_ ?_<;>simp only[go_sem,↓reduceIte,Sub,Int.natCast_add,Int.natCast_mul]
       ·rw[hstep];cases v.f[0-1]?<;>rfl
      ·rw[n1]at hstep;simp only[Zci,Zdn]at hstep;rw[←hR,z1b (q7p hstep)]
      ·rw[w1]at hstep;simp only[Zci,Zdn,Bool.and_false]at hstep;rw[←hR,z1b (q7p hstep)]
     ·have hF:q5v none v.f=true:=by rw[←List.take_of_length_le (l:=v.f) (i:=i) (by omega)];exact hn
      rw[z15,hL,hF]at hR;refine⟨fun k0=>?_,fun k0=>⟨fun k1=>?_,fun k1=>⟨fun k2=>?_,fun k2=>⟨fun k3=>?_,fun k3=>⟨fun k4=>?_,fun k4=>⟨fun k5=>?_,fun k5=>⟨fun k6=>?_,fun k6=>⟨fun k7=>?_,fun k7=>?_⟩⟩⟩⟩⟩⟩⟩⟩
      ·rw[k0]at hR;simp only[Int.reduceEq,↓reduceIte]at hR;subst hR;simp only[cast0,hvl]
       by_cases c1:v.n=0<;>by_cases c2:v.s=[]<;>by_cases c3:v.l.length=0<;>by_cases c4:v.f.length=0<;>simp[c1,c2,c3,c4,Res.one.injEq]
      ·rw[k1]at hR;simp only[Int.reduceEq,↓reduceIte]at hR;subst hR;simp only[cast0,hvl]
       by_cases c1:v.n=0<;>by_cases c2:v.s=[]<;>by_cases c3:v.l.length=0<;>by_cases c4:v.f.length=0<;>simp[c1,c2,c3,c4,Res.one.injEq]
      ·rw[k2]at hR;simp only[Int.reduceEq,↓reduceIte]at hR;subst hR;refine q0i.of (q1t _) ?_;simp only[go_sem,↓reduceIte];have hfl2:(fltI v.n=0)=Lim v.n:=by unfold fltI;split<;>simp_all
       simp only[cast0,hvl,hfl2]
       by_cases c1:Lim v.n<;>by_cases c2:v.s=[]<;>by_cases c3:v.l.length=0<;>by_cases c4:v.f.length=0<;>simp[c1,c2,c3,c4]
      ·rw[k3]at hR;simp only[Int.reduceEq,↓reduceIte]at hR;subst hR;have c5:((v.s.length:Int)≤200)=(v.s.length≤200):=by apply propext;omega
       simp only[cast0,hvl,c5]
       by_cases c1:v.n=0<;>by_cases c2:v.s.length≤200<;>by_cases c3:v.l.length=0<;>by_cases c4:v.f.length=0<;>simp[c1,c2,c3,c4]
      ·rw[k4]at hR;simp only[Int.reduceEq,↓reduceIte]at hR;subst hR;refine⟨fun c1=>?_,fun c1=>?_⟩
       ·refine q0i.of (q8J v.s) ?_;simp only[go_sem,↓reduceIte];simp only[cast0,hvl];cases c2:q2a v.s<;>by_cases c3:v.l.length=0<;>by_cases c4:v.f.length=0<;>simp[c1,c3,c4]
       ·simp[c1]
      ·rw[k5]at hR;simp only[Int.reduceEq,↓reduceIte]at hR;subst hR;simp only[cast0,hvl]
       by_cases c1:v.n=0<;>by_cases c2:v.s=[]<;>by_cases c3:v.l.length=0<;>by_cases c4:v.f.length=0<;>simp[c1,c2,c3,c4,Res.one.injEq]
      ·rw[k6]at hR;simp only[Int.reduceEq,↓reduceIte]at hR;subst hR;simp only[cast0,hvl]
       by_cases c1:v.n=0<;>by_cases c2:v.s=[]<;>by_cases c3:v.l.length=0<;>by_cases c4:v.f.length=0<;>simp[c1,c2,c3,c4,Res.one.injEq]
      ·rw[k7]at hR;simp only[Int.reduceEq,↓reduceIte]at hR;subst hR;simp only[cast0,hvl]
       by_cases c1:1≤v.n<;>by_cases c5:v.n≤60<;>by_cases c2:v.s=[]<;>by_cases c3:v.l.length=0<;>by_cases c4:v.f.length=0<;>simp[c1,c2,c3,c4,c5]
      ·rw[if_neg k0,if_neg k1,if_neg k2,if_neg k3,if_neg k4,if_neg k5,if_neg k6,if_neg k7]at hR;subst hR;rfl
def q3w:q0m:=
 .seq (.reg [⟨some 1,.box (.t 0),none⟩,Qx 2 (Ki 0)]) (.seq (.reg [Q 7 (.ld true 5 (.t 1)),⟨some 8,.call 28 [.t 7],none⟩,Qc 6 8,Q 9 (.ext 0 (.t 6)),Q 10 (.ext 1 (.t 6)),Qa 
 3 9,Qa 4 10]) (.seq (.seq (.reg [Qc 11 3,Q 12 (.bin .gtr (.t 11) (Ki 300)),Qc 13 12,Qd 14 4 13 false,Qg 15 (.bin .gtr (.t 14) (Ki 8)) 13 false,Q 16 (.pick (.t 13) KT (.t 
 15))]) (.cond (.t 16) (.seq (.reg [Qx 2 (Ki 2)]) .ret) .skip)) (.seq (.reg [Q 17 (.ld true 5 (.t 1)),⟨some 18,.call 29 [.t 17],none⟩,Qa 5 18]) (.seq (.seq (.reg [Qc 19 5,Q 
 20 (.not (.t 19))]) (.cond (.t 20) (.seq (.reg [Qx 2 (Ki 3)]) .ret) .skip)) (.seq (.reg [Qx 2 (Ki 0)]) .ret)))))
def q3z:List LRes:=[.tmp 2]
theorem q5Q:q0t Tryz.prog 10 21 q3w q3z:=⟨_,_,Tryz.func10,rfl,by kernel_rfl,by kernel_rfl,rfl⟩
theorem z7N(v:Val)(hsm:v.sm 1048576=true)(hpt:(ptV v).1≤1000000000):q0y Tryz.prog 10 [v.d] (fun r=>r=.one (.int .i64 (q5K v))):=by
 have h1:=j0C _ v (Zal _) hsm hpt;have h2:=z8D _ v (Zal _) hsm;have c1:((300:Int)<(ptV v).1)=(300<(ptV v).1):=by apply propext;omega
 have c2:((8:Int)<(ptV v).2)=(8<(ptV v).2):=by apply propext;omega
 rw[Val.d_eq]at *;refine q5Q.call rfl ?_;simp only[go_sem,↓reduceIte,q3w,q3z];refine q0i.of h1 ?_;simp only[go_sem,↓reduceIte,c1,c2];refine⟨fun a1=>⟨fun a2=>?_,fun a2=>?_⟩,fun a1=>?_⟩
 ·simp[q5K,a2]
 ·refine q0i.of h2 ?_;simp only[go_sem,↓reduceIte];have a3:¬(300<(ptV v).1∨8<(ptV v).2):=by omega
  simp only[q5K,if_neg a3];cases q5Z v<;>simp
 ·have a3:300<(ptV v).1:=by omega
  simp[q5K,a3]
def eqB{α:Type}(p:α→α→Bool):List α→List α→Bool
 |[],[]=>true
 |x::r,y::s=>p x y&&eqB p r s
 |_,_=>false
def zeroV:Val:=.mk 0 0 [] [] []
def posV(nm:List UInt8):List Fld→Nat
 |[]=>0
 |x::r=>if Op.bytesLess x.name nm then posV nm r+1 else 0
def hasV(nm:List UInt8)(l:List Fld):Bool:=
 match l[posV nm l]? with
 |some x=>decide (x.name=nm)
 |none=>false
end Go.Av.Tryz
namespace Go.Av.Tryz
open Go.Proofs Go.RowKit Go.Lib
section
variable {P:Program}
end
def setF(nm:List UInt8)(x:Val)(f:List Fld):List Fld:=if hasV nm f then f.set (posV nm f) (.mk nm x)else f.take (posV nm f)++.mk nm x::f.drop (posV nm f)
def setV(nm:List UInt8)(x v:Val):Val:=.mk v.kind v.n v.s v.l (setF nm x v.f)
theorem j77(nm:List UInt8)(x:Val):(Fld.mk nm x).d=.agg [.str nm,.int .i64 x.kind,.int .i64 x.n,.str x.s,.list (q0M x.l),.list (q3H x.f)]:=by rw[Fld.d_eq];rfl
theorem mk_d(k n:Int)(s:List UInt8)(l:List Val)(f:List Fld):(Val.mk k n s l f).d=.agg [.int .i64 k,.int .i64 n,.str s,.list (q0M l),.list (q3H f)]:=by rw[Val.d_eq];rfl
end Go.Av.Tryz
