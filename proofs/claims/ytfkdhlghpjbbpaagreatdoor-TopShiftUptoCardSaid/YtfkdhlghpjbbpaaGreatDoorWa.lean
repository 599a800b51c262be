import Derived.Test.YtfkdhlghpjbbpaaGreatDoorAvG
import Derived.Test.YtfkdhlghpjbbpaaGreatDoorAvH
import Derived.Test.YtfkdhlghpjbbpaaGreatDoorProg
import Derived.Lib.LaidTab
import Derived.Lib.ItoaNum
import Derived.Shelf.Unicode.DecodeSlow
import Derived.Test.YtfkdhlghpjbbpaaGreatDoorAvF
import Derived.Lib.Bytealg
import Derived.Lib.UnsafeStr
import Derived.IntWalk
import Derived.Shelf.RegionOpenPlain
import Derived.WalkKit
import Derived.Lib.Walk
import Derived.Lib.SliceRun
import Derived.Lib.JoinLaws
import Derived.Lib.AppendZerosOnto
import Derived.Lib.Overlaps
import Derived.Laws.Externs
import Derived.Laws.IdiomCopy
import Derived.Laws.NewBlocks
import Derived.Lib.MapLaws
import Derived.Lib.RuneBytes
import Derived.Lib.SpaceUEq
import Derived.Lib.ValidLaws
set_option linter.unusedSimpArgs false
namespace Go.Av.Tryz
open Go.Proofs
theorem j65{P:Program}{name:String}{k:IntKind}{zs:List Int}{w:World}(h:Lib.TabIs P w name k zs)(b:Nat)(hb:P.globalNamed name=some b):b<w.heap.size:=by
 unfold Lib.TabIs World.var? at h; simp only[hb,Option.bind_some]at h; cases hc:w.heap[b]? with
 |none=>simp[hc]at h
 |some o=>exact(Array.getElem?_eq_some_iff.1 hc).1
theorem j3Q{P:Program}{name:String}{k:IntKind}{zs:List Int}{w w':World}(hk:∀ b,P.globalNamed name=some b→w'.heap[b]?=w.heap[b]?)(h:Lib.TabIs P w name k zs):Lib.TabIs P w' name k zs:=by
 unfold Lib.TabIs World.var? at h ⊢; cases hg:P.globalNamed name with
 |none=>simp[hg]at h
 |some g=>
  simp only[hg,Option.bind_some]at h ⊢; rw[hk g hg]; exact h
def j7j(P:Program)(name:String)(w:World):Prop:=∀ b,P.globalNamed name=some b→∃ m:Int,w.cell? ⟨b,0,none⟩=some (.int .i64 m)
theorem z9E{w w':World}{b:Nat}(h:w'.heap[b]?=w.heap[b]?):w'.cell? ⟨b,0,none⟩=w.cell? ⟨b,0,none⟩:=by
 simp only[World.cell?,h]
theorem j4N{w:World}{b:Nat}{v:Value}(h:w.cell? ⟨b,0,none⟩=some v):b<w.heap.size:=by
 rcases Nat.lt_or_ge b w.heap.size with h'|h'
 ·exact h'
 ·simp[World.cell?,Array.getElem?_eq_none h']at h
def j7A(P:Program)(name:String)(k:IntKind)(zs:List Int)(w:World):Prop:=∀ b,P.globalNamed name=some b→Lib.TabIs P w name k zs
def u8At(P : Program)(w : World): Prop := ∀ g3 g4, P.globalNamed "unicode/utf8.first" = some g3 → P.globalNamed "unicode/utf8.acceptRanges" = some g4 → Lib.Utf8Tabs g3 g4 w
theorem j3T{g3 g4:Nat}{w w':World}(h3:w'.heap[g3]?=w.heap[g3]?)(h4:w'.heap[g4]?=w.heap[g4]?)(h:Lib.Utf8Tabs g3 g4 w):Lib.Utf8Tabs g3 g4 w':=by
 obtain⟨a,b⟩:=h; refine⟨fun c hc=>?_,fun i hi=>?_⟩
 ·have:=a c hc; simpa only[World.cell?,h3]using this
 ·have:=b i hi; simpa only[World.cell?,h4]using this
def j5R(P : Program)(b : Nat): Prop := P.globalNamed "unicode/utf8.first" = some b ∨ P.globalNamed "unicode/utf8.acceptRanges" = some b
theorem j4y{P : Program}{g3 g4 : Nat}{w : World}(h3 : P.globalNamed "unicode/utf8.first" = some g3)(h4 : P.globalNamed "unicode/utf8.acceptRanges" = some g4)(h : Lib.Utf8Tabs g3 g4 w): u8At P w ∧ ∀ b, j5R P b → b < w.heap.size := by
 have lt:∀(b o:Nat) (v:Value),w.cell? ⟨b,o,none⟩=some v→b<w.heap.size:=fun b o v hc=>by
  rcases Nat.lt_or_ge b w.heap.size with h'|h'
  ·exact h'
  ·simp[World.cell?,Array.getElem?_eq_none h']at hc
 refine⟨fun a b ha hb=>?_,fun b hb=>?_⟩
 ·obtain rfl:=Option.some.inj (h3.symm.trans ha); obtain rfl:=Option.some.inj (h4.symm.trans hb); exact h
 ·obtain⟨q1,q2⟩:=h; rcases hb with hb|hb
  ·obtain rfl:=Option.some.inj (h3.symm.trans hb); exact lt _ _ _ (q1 0 (by decide))
  ·obtain rfl:=Option.some.inj (h4.symm.trans hb); exact lt _ _ _ (q2 0 (by decide)).1
instance : Inv Tryz.prog := ⟨fun _ w => j7A Tryz.prog "internal/strconv.uint64pow10" .u64 Lib.pow10Tab w ∧ j7j Tryz.prog "internal/bytealg.MaxLen" w ∧ (u8At Tryz.prog w ∧ ∀ b, j5R Tryz.prog b → b < w.heap.size),
 fun b => Tryz.prog.globalNamed "internal/strconv.uint64pow10" = some b ∨ Tryz.prog.globalNamed "internal/bytealg.MaxLen" = some b ∨ j5R Tryz.prog b,
 fun h b hb=>hb.elim (fun hb=>j65 (h.1 b hb) b hb) fun hb=>hb.elim (fun hb=>by obtain⟨m,hm⟩:=h.2.1 b hb; exact j4N hm) (h.2.2.2 b),
 fun{f w f' w'} hk h=>⟨fun b hb=>j3Q (fun b hb=>(hk b (.inl hb)).1) (h.1 b hb),fun b hb=>by obtain⟨m,hm⟩:=h.2.1 b hb; exact⟨m,(z9E (hk b (.inr (.inl hb))).1).trans hm⟩,
  fun g3 g4 h3 h4=>j3T (hk g3 (.inr (.inr (.inl h3)))).1 (hk g4 (.inr (.inr (.inr h4)))).1 (h.2.2.1 g3 g4 h3 h4),fun b hb=>by
   have h1:=h.2.2.2 b hb; have h2:=(hk b (.inr (.inr hb))).1; rw[Array.getElem?_eq_getElem h1]at h2; exact(Array.getElem?_eq_some_iff.1 h2).1⟩⟩
def errD(n:Nat):D:=if n=0 then .nil else .iface 76 (.int .i64 n)
theorem q13{n:Nat}(h:n≠0):errD n=.iface 76 (.int .i64 n):=by simp[errD,h]
theorem indexByte_none{l:List UInt8}{c:UInt8}:Lib.indexByte l c = -1↔c∉l:=by
 induction l with
 |nil=>simp[Lib.indexByte]
 |cons b l ih=>
  have hge:=Lib.indexByte_ge l c; simp only[Lib.indexByte,List.mem_cons,not_or]
  by_cases h:b=c
  ·simp[h]
  ·rw[if_neg (by simpa using h)]
   by_cases h2:Lib.indexByte l c = -1
   ·rw[if_pos (by simpa using h2)]; simp only[true_iff]; exact⟨fun e=>h e.symm,ih.1 h2⟩
   ·rw[if_neg (by simpa using h2)]; constructor
    ·intro e; omega
    ·intro e; exact absurd (ih.2 e.2) h2
theorem q8C{l:List UInt8}{c:UInt8}:(0≤Lib.indexByte l c)↔c∈l:=by
 have h:=indexByte_none (l:=l) (c:=c); have hge:=Lib.indexByte_ge l c; constructor
 ·intro h1
  by_cases hc:c∈l
  ·exact hc
  ·have:=h.2 hc; omega
 ·intro h1
  by_cases hc:Lib.indexByte l c = -1
  ·exact absurd h1 (h.1 hc)
  ·omega
def q2i:q0i:=
 .seq (.reg [Qx 4 (Ki 0)]) (.seq (.reg [Qc 5 0,Qc 6 1,⟨some 7,.prim .call [.k (.fn (.func 147) [] []),.t 5,.t 6] [],none⟩,Qa 4 7]) .ret)
def q2k:List LRes:=[.tmp 4]
theorem q3A:q0r Tryz.prog 139 8 q2i q2k:=⟨_,_,Tryz.func139,rfl,by kernel_rfl,by kernel_rfl,rfl⟩
theorem q5z(s:List UInt8)(c:UInt8):q0s Tryz.prog 139 [.str s,.int .u8 c.toNat] (fun r=>r=.one (.int .i64 (Lib.indexByte s c))):=by
 refine q3A.call rfl ?_; simp(maxSteps:=2000000)only[go_sem,↓reduceIte,q2i,q2k]; refine q0c.entry Tryz.func147 (by kernel_rfl) (by kernel_rfl) (by kernel_rfl) (e:=Extern.BytealgIndexByte.indexByte) (by kernel_rfl) (.d (.int .i64 (Lib.indexByte s c))) (fun G w vs hl hv=>?_) ?_
 ·match vs,hl with
  |[v,u],_=>
   have h0:AVR G w (.d (.str s)) v:=hv 0 _ rfl; have h1:AVR G w (.d (.int .u8 c.toNat)) u:=hv 1 _ rfl; have h0:=h0.dinv; have h1:=h1.dinv; cases h0; cases h1; refine⟨_,Lib.run_indexByteString _ _ w,?_⟩; have e:(((c.toNat:Int).toNat).toUInt8)=c:=by simp
   rw[e]; exact .d _ _ (.int _ _)
 simp(maxSteps:=2000000)only[go_sem,↓reduceIte]
def q43:q0i:=
 .seq (.reg [Qx 4 (Ki 0)]) (.seq (.reg [Qc 5 0,Qc 6 1,⟨some 7,.call 139 [.t 5,.t 6],none⟩,Qa 4 7]) .ret)
def q47:List LRes:=[.tmp 4]
theorem q6x:q0r Tryz.prog 124 8 q43 q47:=⟨_,_,Tryz.func124,rfl,by kernel_rfl,by kernel_rfl,rfl⟩
theorem q7I(s:List UInt8)(c:UInt8):q0s Tryz.prog 124 [.str s,.int .u8 c.toNat] (fun r=>r=.one (.int .i64 (Lib.indexByte s c))):=by
 refine q6x.call rfl ?_; simp(maxSteps:=2000000)only[go_sem,↓reduceIte,q43,q47]; refine q0g.of (q5z s c) ?_; simp(maxSteps:=2000000)only[go_sem,↓reduceIte]
/-! ### One byte in a string -/
def q2E:q0i:=
 .seq (.reg [Qx 4 (Ki 0)]) (.seq (.reg [Qc 14 1,Q 15 (.len true (.t 14)),Qa 5 15]) (.seq (.block 0 (.seq (.reg [Qc 17 5,Q 18 (.bin .eql (.t 17) (Ki 0)),Qc 19 18,Qd 20 1 19 
 false,Qd 21 0 19 false,Qg 22 (.bin .eql (.t 20) (.t 21)) 19 false,Q 23 (.pick (.t 19) KT (.t 22)),Qa 16 23]) (.cond (.t 16) (.seq (.reg [Qx 4 (Ki 0)]) .ret) (.seq (.reg [Qc 
 25 5,Q 26 (.bin .eql (.t 25) (Ki 1)),Qa 24 26]) (.cond (.t 24) (.seq (.reg [Qc 27 0,Qc 28 1,Q 29 (.idxS (.t 28) (Ki 0)),⟨some 30,.call 139 [.t 27,.t 29],none⟩,Qa 4 30]) 
 .ret) (.seq (.reg [Qc 32 5,Qc 33 0,Q 34 (.len true (.t 33)),Q 35 (.bin .geq (.t 32) (.t 34)),Qa 31 35]) (.cond (.t 31) (.seq (.reg [Qx 4 (Ki (-1))]) .ret) (.seq .bad (.cond 
 (.t 36) (.seq (.reg [Qc 45 0,Qc 46 1,⟨some 47,.prim .call [.k (.fn (.func 138) [] []),.t 45,.t 46] [],none⟩,Qa 4 47]) .ret) .skip))))))))) (.seq (.reg [Qc 48 1,Q 49 
 (.idxS (.t 48) (Ki 0)),Qa 6 49]) (.seq (.reg [Qc 50 1,Q 51 (.idxS (.t 50) (Ki 1)),Qa 7 51]) (.seq (.reg [Qx 8 (Ki 0)]) (.seq (.reg [Qc 52 0,Q 53 (.len true (.t 52)),Qc 54 5, 
 Q 55 (.bin .sub (.t 53) (.t 54)),Q 56 (.bin .add (.t 55) (Ki 1)),Qa 9 56]) (.seq (.reg [Qx 10 (Ki 0)]) (.seq (.block 1 (.loop (.seq (.seq (.reg [Qc 57 8,Qc 58 9,Q 59 (.bin 
 .lss (.t 57) (.t 58))]) (.cond (.t 59) .skip (.exit 1))) (.block 2 (.seq (.seq (.reg [Qc 60 0,Qc 61 8,Q 62 (.idxS (.t 60) (.t 61)),Qc 63 6,Q 64 (.bin .neq (.t 62) (.t 63))]) 
 (.cond (.t 64) (.seq (.reg [Qc 65 0,Qc 66 8,Q 67 (.bin .add (.t 66) (Ki 1)),Qc 68 9,Q 69 (.subS (.t 65) (some (.t 67)) (some (.t 68))),Qc 70 6,⟨some 71,.call 139 [.t 69, 
 .t 70],none⟩,Qa 11 71]) (.seq (.seq (.reg [Qc 72 11,Q 73 (.bin .lss (.t 72) (Ki 0))]) (.cond (.t 73) (.seq (.reg [Qx 4 (Ki (-1))]) .ret) .skip)) (.reg [Qc 74 8,Qc 75 11,Q 76 
 (.bin .add (.t 75) (Ki 1)),Q 77 (.bin .add (.t 74) (.t 76)),Qa 8 77]))) .skip)) (.seq (.seq (.reg [Qc 78 0,Qc 79 8,Q 80 (.bin .add (.t 79) (Ki 1)),Q 81 (.idxS (.t 78) (.t 
 80)),Qc 82 7,Q 83 (.bin .eql (.t 81) (.t 82)),Qc 84 83,Qd 85 0 84 true,Qd 86 8 84 true,Qd 87 8 84 true,Qd 88 5 84 true,Qg 89 (.bin .add (.t 87) (.t 88)) 84 true,Qg 90 
 (.subS (.t 85) (some (.t 86)) (some (.t 89))) 84 true,Qd 91 1 84 true,Qg 92 (.bin .eql (.t 90) (.t 91)) 84 true,Q 93 (.pick (.t 84) (.t 92) KF)]) (.cond (.t 93) (.seq (.reg 
 [Qc 94 8,Qa 4 94]) .ret) .skip)) (.seq (.reg [Qc 95 8,Q 96 (.bin .add (.t 95) (Ki 1)),Qa 8 96]) (.seq (.reg [Qc 97 10,Q 98 (.bin .add (.t 97) (Ki 1)),Qa 10 98]) (.seq .bad 
 (.cond (.t 107) (.seq (.reg [Qc 108 0,Qc 109 8,Q 110 (.subS (.t 108) (some (.t 109)) none),Qc 111 1,⟨some 112,.prim .call [.k (.fn (.func 138) [] []),.t 110,.t 111] [], 
 none⟩,Qa 12 112]) (.seq (.seq (.reg [Qc 113 12,Q 114 (.bin .geq (.t 113) (Ki 0))]) (.cond (.t 114) (.seq (.reg [Qc 115 12,Qc 116 8,Q 117 (.bin .add (.t 115) (.t 116)),Qa 4 
 117]) .ret) .skip)) (.seq (.reg [Qx 4 (Ki (-1))]) .ret))) (.seq .bad (.cond (.t 132) (.seq (.reg [Qc 133 0,Qc 134 8,Q 135 (.subS (.t 133) (some (.t 134)) none),Qc 136 1,⟨some 
 137,.call 140 [.t 135,.t 136],none⟩,Qa 13 137]) (.seq (.seq (.reg [Qc 138 13,Q 139 (.bin .lss (.t 138) (Ki 0))]) (.cond (.t 139) (.seq (.reg [Qx 4 (Ki (-1))]) .ret) .skip)) 
 (.seq (.reg [Qc 140 8,Qc 141 13,Q 142 (.bin .add (.t 140) (.t 141)),Qa 4 142]) .ret))) .skip)))))))))))) (.seq (.reg [Qx 4 (Ki (-1))]) .ret)))))))))
def q2F:List LRes:=[.tmp 4]
theorem q4h:q0r Tryz.prog 123 143 q2E q2F:=⟨_,_,Tryz.func123,rfl,by kernel_rfl,by kernel_rfl,rfl⟩
theorem z1j(s:List UInt8)(c:UInt8):q0s Tryz.prog 123 [.str s,.str [c]] (fun r=>r=.one (.int .i64 (Lib.indexByte s c))):=by
 refine q4h.call rfl ?_; simp(maxSteps:=2000000)only[go_sem,↓reduceIte,q2E,q2F]; refine⟨fun h=>?_,fun h=>?_⟩
 ·subst h; simp[Lib.indexByte]
 ·have:getI [c] 0=some c:=rfl; simp(maxSteps:=2000000)only[go_sem,↓reduceIte,this]; refine q0g.of (q5z s c) ?_; simp(maxSteps:=2000000)only[go_sem,↓reduceIte]
def q6D:q0i:=
 .seq (.reg [Qx 4 (Ki 0)]) (.seq (.reg [Qc 5 0,Qc 6 1,⟨some 7,.call 123 [.t 5,.t 6],none⟩,Qa 4 7]) .ret)
def q6G:List LRes:=[.tmp 4]
theorem q8J:q0r Tryz.prog 106 8 q6D q6G:=⟨_,_,Tryz.func106,rfl,by kernel_rfl,by kernel_rfl,rfl⟩
def q5u:q0i:=
 .seq (.reg [Qx 4 KF]) (.seq (.reg [Qc 5 0,Qc 6 1,⟨some 7,.call 106 [.t 5,.t 6],none⟩,Q 8 (.bin .geq (.t 7) (Ki 0)),Qa 4 8]) .ret)
def q5w:List LRes:=[.tmp 4]
theorem q6Z:q0r Tryz.prog 82 9 q5u q5w:=⟨_,_,Tryz.func82,rfl,by kernel_rfl,by kernel_rfl,rfl⟩
theorem z1X(s:List UInt8)(c:UInt8):q0s Tryz.prog 82 [.str s,.str [c]] (fun r=>r=.one (.bool (decide (c∈s)))):=by
 have h:q0s Tryz.prog 106 [.str s,.str [c]] (fun r=>r=.one (.int .i64 (Lib.indexByte s c))):=by
  refine q8J.call rfl ?_; simp(maxSteps:=2000000)only[go_sem,↓reduceIte,q6D,q6G]; refine q0g.of (z1j s c) ?_; simp(maxSteps:=2000000)only[go_sem,↓reduceIte]
 refine q6Z.call rfl ?_; simp(maxSteps:=2000000)only[go_sem,↓reduceIte,q5u,q5w]; refine q0g.of h ?_; simp(maxSteps:=2000000)only[go_sem,↓reduceIte]; congr 2
 simp only[q8C]
def q44:q0i:=
 .seq (.reg [Qx 4 (Ki 0)]) (.block 0 (.seq (.reg [Qc 161 1,Q 162 (.bin .leq (.k (.d (.int .i32 0))) (.t 161)),Qc 163 162,Qd 164 1 163 true,Qg 165 (.bin .lss (.t 164) (.k (.d 
 (.int .i32 128)))) 163 true,Q 166 (.pick (.t 163) (.t 165) KF),Qa 160 166]) (.cond (.t 160) (.seq (.reg [Qc 167 0,Qc 168 1,Q 169 (.cvI .u8 (.t 168)),⟨some 170,.call 124 [.t 
 167,.t 169],none⟩,Qa 4 170]) .ret) (.seq (.reg [Qc 172 1,Q 173 (.bin .eql (.t 172) (.k (.d (.int .i32 65533)))),Qa 171 173]) (.cond (.t 171) (.seq (.seq (.reg [Qc 174 0, 
 ⟨some 175,.prim (.range 9) [.t 174] [],none⟩]) (.block 9 (.loop (.seq (.reg [⟨some 176,.prim (.next true 0) [.t 175] [],none⟩,Q 177 (.ext 0 (.t 176))]) (.seq (.cond (.t 177) 
 .skip (.exit 9)) (.block 10 (.seq (.reg [Q 178 (.ext 1 (.t 176)),Q 179 (.ext 2 (.t 176)),Qa 5 178,Qa 6 179]) (.seq (.reg [Qc 180 6,Q 181 (.bin .eql (.t 180) (.k (.d (.int 
 .i32 65533))))]) (.cond (.t 181) (.seq (.reg [Qc 182 5,Qa 4 182]) .ret) .skip))))))))) (.seq (.reg [Qx 4 (Ki (-1))]) .ret)) (.seq (.reg [Qc 184 1,⟨some 185,.call 136 [.t 184], 
 none⟩,Q 186 (.not (.t 185)),Qa 183 186]) (.cond (.t 183) (.seq (.reg [Qx 4 (Ki (-1))]) .ret) .bad)))))))
def q48:List LRes:=[.tmp 4]
theorem q6y:q0r Tryz.prog 122 187 q44 q48:=⟨_,_,Tryz.func122,rfl,by kernel_rfl,by kernel_rfl,rfl⟩
theorem z14(s:List UInt8)(c:UInt8)(hc:c.toNat<128):q0s Tryz.prog 122 [.str s,.int .i32 c.toNat] (fun r=>r=.one (.int .i64 (Lib.indexByte s c))):=by
 refine q6y.call rfl ?_; simp(maxSteps:=2000000)only[go_sem,↓reduceIte,q44,q48]; refine⟨fun _=>⟨fun _=>?_,fun h=>?_⟩,fun h=>?_⟩
 ·simp(disch:=omega)only[IntWalk.i64_in,IntWalk.u8_in]; refine q0g.of (q7I s c) ?_; simp(maxSteps:=2000000)only[go_sem,↓reduceIte]
 ·exfalso; omega
 ·exfalso; omega
def q39:q0i:=
 .seq (.reg [Qx 4 KF]) (.seq (.reg [Qc 5 0,Qc 6 1,⟨some 7,.call 122 [.t 5,.t 6],none⟩,Q 8 (.bin .geq (.t 7) (Ki 0)),Qa 4 8]) .ret)
def q4f:List LRes:=[.tmp 4]
theorem q5M:q0r Tryz.prog 104 9 q39 q4f:=⟨_,_,Tryz.func104,rfl,by kernel_rfl,by kernel_rfl,rfl⟩
theorem q9d(s:List UInt8)(c:UInt8)(hc:c.toNat<128):q0s Tryz.prog 104 [.str s,.int .i32 c.toNat] (fun r=>r=.one (.bool (decide (c∈s)))):=by
 refine q5M.call rfl ?_; simp(maxSteps:=2000000)only[go_sem,↓reduceIte,q39,q4f]; refine q0g.of (z14 s c hc) ?_; simp(maxSteps:=2000000)only[go_sem,↓reduceIte]; congr 2
 simp only[q8C]
def q3g(s:List UInt8):Bool:=decide (s≠[])&&(decide (s.length≤200) && !decide ((0:UInt8)∈s))
def q6E:q0i:=
 .seq (.reg [Qx 2 KF]) (.seq (.reg [Qc 3 0,Q 4 (.bin .neq (.t 3) (.k (.d (.str [])))),Qc 5 4,Qd 6 0 5 true,Qg 7 (.len true (.t 6)) 5 true,Qg 8 (.bin .leq (.t 7) (Ki 200)) 5 
 true,Q 9 (.pick (.t 5) (.t 8) KF),Qc 10 9,Qd 11 0 10 true,⟨some 12,.call 104 [.t 11,.k (.d (.int .i32 0))],some (10,true)⟩,Qg 13 (.not (.t 12)) 10 true,Q 14 (.pick (.t 
 10) (.t 13) KF),Qa 2 14]) .ret)
def q6H:List LRes:=[.tmp 2]
theorem q8K:q0r Tryz.prog 79 15 q6E q6H:=⟨_,_,Tryz.func79,rfl,by kernel_rfl,by kernel_rfl,rfl⟩
theorem q61(s:List UInt8):q0s Tryz.prog 79 [.str s] (fun r=>r=.one (.bool (q3g s))):=by
 refine q8K.call rfl ?_; simp(maxSteps:=2000000)only[go_sem,↓reduceIte,q6E,q6H]; refine⟨fun h1=>⟨fun h2=>?_,fun h2=>?_⟩,fun h1=>?_⟩
 ·refine q0g.of (q9d s 0 (by decide)) ?_; simp(maxSteps:=2000000)only[go_sem,↓reduceIte]; have h3:s.length≤200:=by omega
  simp[q3g,h1,h3]
 ·have h3:¬ s.length≤200:=by omega
  simp[q3g,h3]
 ·simp[q3g,h1]
theorem q05{α:Type}{l:List α}{i:Nat}{x:α}(h:l[i]?=some x):l.drop i=x::l.drop (i+1):=by
 obtain⟨hl,rfl⟩:=List.getElem?_eq_some_iff.1 h; exact List.drop_eq_getElem_cons hl
mutual
inductive Val where
 |mk (kind n:Int) (s:List UInt8) (l:List Val) (f:List Fld)
inductive Fld where
 |mk (name:List UInt8) (v:Val)
end
def Val.kind:Val→Int
 |.mk k _ _ _ _=>k
def Val.n:Val→Int
 |.mk _ n _ _ _=>n
def Val.s:Val→List UInt8
 |.mk _ _ s _ _=>s
def Val.l:Val→List Val
 |.mk _ _ _ l _=>l
def Val.f:Val→List Fld
 |.mk _ _ _ _ f=>f
def Fld.name:Fld→List UInt8
 |.mk n _=>n
def Fld.v:Fld→Val
 |.mk _ v=>v
mutual
def Val.d:Val→D
 |.mk k n s l f=>.agg [.int .i64 k,.int .i64 n,.str s,.list (q0K l),.list (q3w f)]
def q0K:List Val→List D
 |[]=>[]
 |v::r=>v.d::q0K r
def Fld.d:Fld→D
 |.mk nm v=>.agg (.str nm::v.d.cells)
def q3w:List Fld→List D
 |[]=>[]
 |x::r=>x.d::q3w r
end
theorem q4W(l:List Val):q0K l=l.map Val.d:=by induction l with|nil=>rfl|cons v r ih=>simp[q0K,ih]
theorem z3k(l:List Fld):q3w l=l.map Fld.d:=by induction l with|nil=>rfl|cons v r ih=>simp[q3w,ih]
theorem q2f(l:List Val):(q0K l).length=l.length:=by simp[q4W]
theorem q6T(l:List Fld):(q3w l).length=l.length:=by simp[z3k]
theorem q7b(l:List Val)(i:Nat):(q0K l)[i]?=(l[i]?).map Val.d:=by simp[q4W]
theorem q5e(l:List Fld)(i:Nat):(q3w l)[i]?=(l[i]?).map Fld.d:=by simp[z3k]
theorem Val.d_eq(v:Val):v.d=.agg [.int .i64 v.kind,.int .i64 v.n,.str v.s,.list (q0K v.l),.list (q3w v.f)]:=by cases v; simp[Val.d,Val.kind,Val.n,Val.s,Val.l,Val.f]
theorem Fld.d_eq(x:Fld):x.d=.agg [.str x.name,.int .i64 x.v.kind,.int .i64 x.v.n,.str x.v.s,.list (q0K x.v.l),.list (q3w x.v.f)]:=by cases x; simp[Fld.d,Fld.name,Fld.v,Val.d_eq,D.cells]
theorem j1H{v x:Val}(h:x∈v.l):SizeOf.sizeOf x<SizeOf.sizeOf v:=by
 cases v with
 |mk k n s l f=>
  have:=List.sizeOf_lt_of_mem h; simp only[Val.l]at this; simp only[Val.mk.sizeOf_spec]; omega
theorem z7S{v:Val}{x:Fld}(h:x∈v.f):SizeOf.sizeOf x.v<SizeOf.sizeOf v:=by
 cases v with
 |mk k n s l f=>
  have:=List.sizeOf_lt_of_mem h; simp only[Val.f]at this; have h2:SizeOf.sizeOf x.v<SizeOf.sizeOf x:=by cases x; simp only[Fld.v,Fld.mk.sizeOf_spec]; omega
  simp only[Val.mk.sizeOf_spec]; omega
mutual
def Val.sm(m:Nat):Val→Bool
 |.mk _ _ s l f=>decide (s.length≤m)&&(decide (l.length≤m)&&(decide (f.length≤m)&&(smL m l&&smF m f)))
def smL(m:Nat):List Val→Bool
 |[]=>true
 |v::r=>v.sm m&&smL m r
def Fld.sm(m:Nat):Fld→Bool
 |.mk nm v=>decide (nm.length≤m)&&v.sm m
def smF(m:Nat):List Fld→Bool
 |[]=>true
 |x::r=>x.sm m&&smF m r
end
theorem j5G{m:Nat}{l:List Val}:smL m l=true↔∀ x∈l,x.sm m=true:=by induction l with|nil=>simp[smL]|cons v r ih=>simp[smL,ih]
theorem j5F{m:Nat}{l:List Fld}:smF m l=true↔∀ x∈l,x.sm m=true:=by induction l with|nil=>simp[smF]|cons v r ih=>simp[smF,ih]
theorem Val.q68{m:Nat}{v:Val}:v.sm m=true↔v.s.length≤m∧v.l.length≤m∧v.f.length≤m∧(∀ x∈v.l,x.sm m=true)∧∀ x∈v.f,x.sm m=true:=by
 cases v; simp[Val.sm,j5G,j5F,Val.s,Val.l,Val.f]
theorem Fld.q68{m:Nat}{x:Fld}:x.sm m=true↔x.name.length≤m∧x.v.sm m=true:=by
 cases x; simp[Fld.sm,Fld.name,Fld.v]
/-! ### How great -/
mutual
def szV(deep:Nat):Val→Int→Bool×Int
 |.mk _ _ _ l f,left=>
  if 8<deep then(false,left-1)
  else if left-1<0 then(false,left-1)
  else match szL (deep+1) l (left-1)with
   |(false,r)=>(false,r)
   |(true,r)=>szF (deep+1) f r
def szL(deep:Nat):List Val→Int→Bool×Int
 |[],left=>(true,left)
 |v::r,left=>match szV deep v left with
  |(false,q)=>(false,q)
  |(true,q)=>szL deep r q
def szF(deep:Nat):List Fld→Int→Bool×Int
 |[],left=>(true,left)
 |.mk _ v::r,left=>match szV deep v left with
  |(false,q)=>(false,q)
  |(true,q)=>szF deep r q
end
mutual
theorem z7Z(deep:Nat):∀(v:Val) (left:Int),0≤left → -1≤(szV deep v left).2∧(szV deep v left).2≤left∧((szV deep v left).1=true→0≤(szV deep v left).2)
 |.mk k n s l f,left,h=>by
  unfold szV; split
  ·simp; omega
  ·split
   ·simp; omega
   ·have h1:=j4w (deep+1) l (left-1) (by omega); split
    ·rename_i r hr; rw[hr]at h1; simp at h1 ⊢; omega
    ·rename_i r hr; rw[hr]at h1; simp at h1; have h2:=j4u (deep+1) f r h1.2.2; refine⟨h2.1,by omega,h2.2.2⟩
theorem j4w(deep:Nat):∀(l:List Val) (left:Int),0≤left → -1≤(szL deep l left).2∧(szL deep l left).2≤left∧((szL deep l left).1=true→0≤(szL deep l left).2)
 |[],left,h=>by simp[szL]; omega
 |v::r,left,h=>by
  have h1:=z7Z deep v left h; unfold szL; split
  ·rename_i q hq; rw[hq]at h1; simp at h1 ⊢; omega
  ·rename_i q hq; rw[hq]at h1; simp at h1; have h2:=j4w deep r q h1.2.2; exact⟨h2.1,by omega,h2.2.2⟩
theorem j4u(deep:Nat):∀(l:List Fld) (left:Int),0≤left → -1≤(szF deep l left).2∧(szF deep l left).2≤left∧((szF deep l left).1=true→0≤(szF deep l left).2)
 |[],left,h=>by simp[szF]; omega
 |.mk nm v::r,left,h=>by
  have h1:=z7Z deep v left h; unfold szF; split
  ·rename_i q hq; rw[hq]at h1; simp at h1 ⊢; omega
  ·rename_i q hq; rw[hq]at h1; simp at h1; have h2:=j4u deep r q h1.2.2; exact⟨h2.1,by omega,h2.2.2⟩
end
theorem j64(deep:Nat)(v:Val)(left:Int):szV deep v left=if 8<deep then(false,left-1)else if left-1<0 then(false,left-1)else
  match szL (deep+1) v.l (left-1)with
   |(false,r)=>(false,r)
   |(true,r)=>szF (deep+1) v.f r:=by
 cases v; simp only[szV,Val.l,Val.f]
def q9K:q0i:=
 .seq (.reg [⟨some 3,.box (.t 0),none⟩,Qx 6 KF]) (.seq (.reg [Qc 11 2,Q 12 (.nck (.t 11)),Q 13 (.ld false 1 (.t 12)),Q 14 (.bin .sub (.t 13) (Ki 1)),Q 15 (.nck (.t 11)), 
 ⟨none,.st 1 (.t 15) (.t 14),none⟩]) (.seq (.seq (.reg [Qc 16 1,Q 17 (.bin .gtr (.t 16) (Ki 8)),Qc 18 17,Qd 19 2 18 false,Qg 20 (.nck (.t 19)) 18 false,Qg 21 (.ld false 1 
 (.t 20)) 18 false,Qg 22 (.bin .lss (.t 21) (Ki 0)) 18 false,Q 23 (.pick (.t 18) KT (.t 22))]) (.cond (.t 23) (.seq (.reg [Qx 6 KF]) .ret) .skip)) (.seq (.seq (.reg [Q 24 (.fa 3 
 (.t 3)),Q 25 (.ld false 1 (.t 24)),Q 26 (.len false (.t 25)),Q 27 (.cp (Ki 0))]) (.block 0 (.loop (.seq (.reg [Q 28 (.bin .lss (.t 27) (.t 26))]) (.seq (.cond (.t 28) .skip 
 (.exit 0)) (.seq (.block 1 (.seq (.reg [Q 29 (.ia 5 (.t 25) (.t 27)),Q 30 (.ld true 5 (.t 29)),⟨some 8,.allo [.int .i64 0,.int .i64 0,.str [],.list [],.list []],none⟩, 
 ⟨none,.st 5 (.t 8) (.t 30),none⟩]) (.seq (.reg [Q 31 (.ld true 5 (.t 8)),Qc 32 1,Q 33 (.bin .add (.t 32) (Ki 1)),Qc 34 2,⟨some 35,.prim .call [.k (.fn (.func 58) [] []), 
 .t 31,.t 33,.t 34] [],none⟩,Q 36 (.not (.t 35))]) (.cond (.t 36) (.seq (.reg [Qx 6 KF]) .ret) .skip)))) (.reg [Q 37 (.bin .add (.t 27) (Ki 1)),Qc 27 37]))))))) (.seq (.seq 
 (.reg [Q 38 (.fa 4 (.t 3)),Q 39 (.ld false 1 (.t 38)),Q 40 (.len false (.t 39)),Q 41 (.cp (Ki 0))]) (.block 2 (.loop (.seq (.reg [Q 42 (.bin .lss (.t 41) (.t 40))]) (.seq 
 (.cond (.t 42) .skip (.exit 2)) (.seq (.block 3 (.seq (.reg [Q 43 (.ia 6 (.t 39) (.t 41)),Q 44 (.ld true 6 (.t 43)),⟨some 10,.allo [.str [],.int .i64 0,.int .i64 0,.str [], 
 .list [],.list []],none⟩,⟨none,.st 6 (.t 10) (.t 44),none⟩]) (.seq (.reg [Q 45 (.fa 1 (.t 10)),Q 46 (.ld true 5 (.t 45)),Qc 47 1,Q 48 (.bin .add (.t 47) (Ki 1)),Qc 49 2, 
 ⟨some 50,.prim .call [.k (.fn (.func 58) [] []),.t 46,.t 48,.t 49] [],none⟩,Q 51 (.not (.t 50))]) (.cond (.t 51) (.seq (.reg [Qx 6 KF]) .ret) .skip)))) (.reg [Q 52 (.bin 
 .add (.t 41) (Ki 1)),Qc 41 52]))))))) (.seq (.reg [Qx 6 KT]) .ret)))))
def q9S:List LRes:=[.tmp 6]
theorem z1h:q0r Tryz.prog 58 53 q9K q9S:=⟨_,_,Tryz.func58,rfl,by kernel_rfl,by kernel_rfl,rfl⟩
theorem j1G:∀(m:Nat) (v:Val),SizeOf.sizeOf v≤m→∀(deep:Nat) (left:Int),1≤deep→deep≤9→0≤left→left≤300→v.sm 1048576=true→
  q6m Tryz.prog 58 [.d v.d,.d (.int .i64 deep),.ptr (.x 0) 0] [.cells [.d (.int .i64 left)]] (.d (.bool (szV deep v left).1)) [.cells [.d (.int .i64 (szV deep v left).2)]]:=by
 intro m; induction m with
 |zero=>intro v h; cases v; simp at h
 |succ m ih=>
  intro v hv deep left hd1 hd2 hl1 hl2 hsm; obtain⟨_,hll,hfl,hsl,hsf⟩:=Val.q68.1 hsm; have hvl:=q2f v.l; have hfl':=q6T v.f; generalize hR:szV deep v left=R; rw[j64]at hR; rw[Val.d_eq]; refine z1h.q2q (by kernel_rfl) rfl ?_; simp(maxSteps:=2000000)(disch:=omega)only[go_sem,↓reduceIte,q9K,q9S]; refine⟨fun h8=>⟨fun h0=>?_,fun h0=>?_⟩,fun h8=>?_⟩
  ·rw[if_neg (by omega),if_pos (by omega)]at hR; subst hR; exact⟨rfl,rfl⟩
  ·rw[if_neg (by omega),if_neg (by omega)]at hR; refine q0l (fun y:Nat×Int=>⟨[(1,.d (.int .i64 deep)),(2,.ptr (.x 0) 0),(3,.ptr (.l 3) 0),(25,.d (.list (q0K v.l))),(26,.d (.int .i64 (q0K v.l).length)),(27,.d (.int .i64 y.1))],
     [(3,.cells [.d (.int .i64 v.kind),.d (.int .i64 v.n),.d (.str v.s),.d (.list (q0K v.l)),.d (.list (q3w v.f))])],[(0,.cells [.d (.int .i64 y.2)])]⟩)
    (fun y=>y.1≤v.l.length∧0≤y.2∧y.2≤300∧(match szL (deep+1) (v.l.drop y.1) y.2 with
     |(false,r)=>(false,r)
     |(true,r)=>szF (deep+1) v.f r)=R) (fun y=>v.l.length-y.1) (0,left-1) ?_ ?_ ?_
   ·refine Weak.mk ?_ ?_ ?_<;>simp(maxSteps:=2000000)only[go_sem,↓reduceIte,Sub,Int.natCast_add,Int.natCast_mul]
   ·exact⟨by simp,by simp only; omega,by simp only; omega,by simpa using hR⟩
   ·rintro⟨i,q⟩ ⟨hi,hq1,hq2,hF⟩; simp only at hi hq1 hq2 hF; simp(maxSteps:=2000000)only[go_sem,↓reduceIte,hvl]; refine⟨fun hlt=>?_,fun hge=>?_⟩
    ·obtain⟨x,hx⟩:=get_some (l:=v.l) (i:=i) (by omega); rw[q05 hx]at hF; have hc:=ih x (by have:=j1H (List.mem_of_getElem? hx); omega) (deep+1) q (by omega) (by omega) hq1 hq2 (hsl x (List.mem_of_getElem? hx)); have hbd:=z7Z (deep+1) x q hq1; unfold szL at hF; rw[Val.d_eq]at hc; generalize hS:szV (deep+1) x q=S at hc hbd hF; obtain⟨sb,sq⟩:=S; simp only[Int.natCast_add,Int.natCast_one]at hc; simp(maxSteps:=2000000)(disch:=omega)only[go_sem,↓reduceIte,q0a,q7b,hx,Val.d_eq]
     refine q0c.mc1 (.x 0) rfl (hc) rfl rfl rfl rfl ⟨rfl,rfl⟩ ?_; cases sb
     ·simp only at hF; subst hF; simp(maxSteps:=2000000)only[go_sem,↓reduceIte]
     ·simp only at hF hbd; simp(maxSteps:=2000000)(disch:=omega)only[go_sem,↓reduceIte]; refine⟨(i+1,sq),?_,⟨by simp only; omega,by simp only; exact hbd.2.2 trivial,by simp only; omega,hF⟩,by simp only; omega⟩; refine Weak.mk ?_ ?_ ?_<;>simp(maxSteps:=2000000)only[go_sem,↓reduceIte,Sub,Int.natCast_add,Int.natCast_mul,hvl]
    ·have h0':v.l.drop i=[]:=List.drop_eq_nil_of_le (by omega); rw[h0']at hF; simp only[szL]at hF; refine q0l (fun y:Nat×Int=>⟨[(1,.d (.int .i64 deep)),(2,.ptr (.x 0) 0),(3,.ptr (.l 3) 0),(39,.d (.list (q3w v.f))),(40,.d (.int .i64 (q3w v.f).length)),(41,.d (.int .i64 y.1))],
       [(3,.cells [.d (.int .i64 v.kind),.d (.int .i64 v.n),.d (.str v.s),.d (.list (q0K v.l)),.d (.list (q3w v.f))])],[(0,.cells [.d (.int .i64 y.2)])]⟩)
      (fun y=>y.1≤v.f.length∧0≤y.2∧y.2≤300∧szF (deep+1) (v.f.drop y.1) y.2=R) (fun y=>v.f.length-y.1) (0,q) ?_ ?_ ?_
     ·refine Weak.mk ?_ ?_ ?_<;>simp(maxSteps:=2000000)only[go_sem,↓reduceIte,Sub,Int.natCast_add,Int.natCast_mul]
     ·exact⟨by simp,hq1,hq2,by simpa using hF⟩
     ·rintro⟨j,q'⟩ ⟨hj,hr1,hr2,hG⟩; simp only at hj hr1 hr2 hG; simp(maxSteps:=2000000)only[go_sem,↓reduceIte,hfl']; refine⟨fun hlt=>?_,fun hge=>?_⟩
      ·obtain⟨x,hx⟩:=get_some (l:=v.f) (i:=j) (by omega); rw[q05 hx]at hG; have hc:=ih x.v (by have:=z7S (List.mem_of_getElem? hx); omega) (deep+1) q' (by omega) (by omega) hr1 hr2 (Fld.q68.1 (hsf x (List.mem_of_getElem? hx))).2; have hbd:=z7Z (deep+1) x.v q' hr1; have hG':(match szV (deep+1) x.v q' with
         |(false,q)=>(false,q)
         |(true,q)=>szF (deep+1) (v.f.drop (j+1)) q)=R:=by
        rw[← hG]; cases x; simp only[szF,Fld.v]
       rw[Val.d_eq]at hc; generalize hS:szV (deep+1) x.v q'=S at hc hbd hG'; obtain⟨sb,sq⟩:=S; simp only[Int.natCast_add,Int.natCast_one]at hc; simp(maxSteps:=2000000)(disch:=omega)only[go_sem,↓reduceIte,q0a,q5e,hx,Fld.d_eq]; refine q0c.mc1 (.x 0) rfl (hc) rfl rfl rfl rfl ⟨rfl,rfl⟩ ?_; cases sb
       ·simp only at hG'; subst hG'; simp(maxSteps:=2000000)only[go_sem,↓reduceIte]
       ·simp only at hG' hbd; simp(maxSteps:=2000000)(disch:=omega)only[go_sem,↓reduceIte]; refine⟨(j+1,sq),?_,⟨by simp only; omega,by simp only; exact hbd.2.2 trivial,by simp only; omega,hG'⟩,by simp only; omega⟩; refine Weak.mk ?_ ?_ ?_<;>simp(maxSteps:=2000000)only[go_sem,↓reduceIte,Sub,Int.natCast_add,Int.natCast_mul,hfl']
      ·have h0':v.f.drop j=[]:=List.drop_eq_nil_of_le (by omega); rw[h0']at hG; simp only[szF]at hG; subst hG; simp(maxSteps:=2000000)only[go_sem,↓reduceIte]
  ·rw[if_pos (by omega)]at hR; subst hR; exact⟨rfl,rfl⟩
def q7P:q0i:=
 .seq (.reg [Qx 2 (.k (.d .nil))]) (.seq (.seq (.reg [Qc 3 0,Q 4 (.bin .lss (.t 3) (Ki (-1000000000))),Qc 5 4,Qd 6 0 5 false,Qg 7 (.bin .gtr (.t 6) (Ki 1000000000)) 5 false,Q 8 
 (.pick (.t 5) KT (.t 7))]) (.cond (.t 8) (.seq (.reg [Q 9 (.mkI 76 (Ki 1)),Qa 2 9]) .ret) .skip)) (.seq (.reg [Qx 2 (.k (.d .nil))]) .ret))
def q7S:List LRes:=[.tmp 2]
theorem q7J:q0r Tryz.prog 78 10 q7P q7S:=⟨_,_,Tryz.func78,rfl,by kernel_rfl,by kernel_rfl,rfl⟩
def z0w:q0i:=
 .seq (.reg [Qx 2 (Ki 0)]) (.seq (.reg [Qc 4 0,Q 5 (.bin .quo (.t 4) (Ki 1000)),Qa 3 5]) (.seq (.seq (.reg [Qc 6 0,Q 7 (.bin .rem (.t 6) (Ki 1000)),Q 8 (.bin .lss (.t 7) (Ki 
 0))]) (.cond (.t 8) (.reg [Qc 9 3,Q 10 (.bin .sub (.t 9) (Ki 1)),Qa 3 10]) .skip)) (.seq (.reg [Qc 11 3,Qa 2 11]) .ret)))
def z0D:List LRes:=[.tmp 2]
theorem z2a:q0r Tryz.prog 115 12 z0w z0D:=⟨_,_,Tryz.func115,rfl,by kernel_rfl,by kernel_rfl,rfl⟩
def z61:q0i:=
 .seq (.reg [Qx 2 (Ki 0),Qx 3 (.k (.d .nil))]) (.seq (.reg [Qc 5 0,⟨some 6,.call 78 [.t 5],none⟩,Qa 4 6]) (.seq (.seq (.reg [Qc 7 4,Q 8 (.eqN 0 true (.t 7))]) (.cond (.t 8) 
 (.seq (.reg [Qc 9 4,Qx 2 (Ki 0),Qa 3 9]) .ret) .skip)) (.seq (.reg [Qc 10 0,Qa 2 10,Qx 3 (.k (.d .nil))]) .ret)))
def z62:List LRes:=[.tmp 2,.tmp 3]
theorem z6s:q0r Tryz.prog 114 11 z61 z62:=⟨_,_,Tryz.func114,rfl,by kernel_rfl,by kernel_rfl,rfl⟩
def z4j:q0i:=
 .seq (.reg [Qx 10 (Ki 0),Qx 11 (.k (.d .nil))]) (.seq (.seq (.reg [Qc 14 0,Qc 15 1,Qc 16 2,Qc 17 3,Qc 18 4,⟨some 19,.bsl 3 1 [.t 14,.t 15,.t 16,.t 17,.t 18],none⟩,Q 20 
 (.len false (.t 19)),Q 21 (.cp (Ki 0))]) (.block 0 (.loop (.seq (.reg [Q 22 (.bin .lss (.t 21) (.t 20))]) (.seq (.cond (.t 22) .skip (.exit 0)) (.seq (.block 1 (.seq (.reg [Q 23 
 (.ia 1 (.t 19) (.t 21)),Q 24 (.ld false 1 (.t 23)),Qa 13 24]) (.seq (.reg [Qc 25 13,⟨some 26,.call 78 [.t 25],none⟩,Q 27 (.eqN 0 true (.t 26))]) (.cond (.t 27) (.seq (.reg 
 [Q 28 (.mkI 76 (Ki 1)),Qx 10 (Ki 0),Qa 11 28]) .ret) .skip)))) (.reg [Q 29 (.bin .add (.t 21) (Ki 1)),Qc 21 29]))))))) (.seq (.reg [Qc 30 0,Qc 31 1,Q 32 (.bin .mul (.t 30) 
 (.t 31)),Qc 33 2,Qc 34 3,Q 35 (.bin .mul (.t 33) (.t 34)),Q 36 (.bin .add (.t 32) (.t 35)),⟨some 37,.call 115 [.t 36],none⟩,Qc 38 4,Q 39 (.bin .add (.t 37) (.t 38)), 
 ⟨some 40,.call 114 [.t 39],none⟩,Q 41 (.ext 0 (.t 40)),Q 42 (.ext 1 (.t 40)),Qa 10 41,Qa 11 42]) .ret))
def z4m:List LRes:=[.tmp 10,.tmp 11]
theorem z45:q0r Tryz.prog 93 43 z4j z4m:=⟨_,_,Tryz.func93,rfl,by kernel_rfl,by kernel_rfl,rfl⟩
/-! ### What they say -/
def err(k:Int):D:=.iface 76 (.int .i64 k)
def Lim(n:Int):Prop := -1000000000≤n∧n≤1000000000
instance (n:Int):Decidable (Lim n):=inferInstanceAs (Decidable (_∧_))
def I(n:Int):D:=.int .i64 n
def i64(n:Int):Prop := -9223372036854775808≤n∧n≤9223372036854775807
def intE:Option Int→Res
 |some n=>.tup [I n,.nil]
 |none=>.tup [I 0,err 1]
def okF(n:Int):Option Int:=if Lim n then some n else none
def twoF(a x b y c:Int):Option Int:=
 if Lim a∧Lim x∧Lim b∧Lim y∧Lim c then okF ((a*x+b*y) / 1000+c)else none
theorem j0L{a b A B:Int}(h1 : -A≤a)(h2:a≤A)(h3 : -B≤b)(h4:b≤B): -(A*B)≤a*b∧a*b≤A*B:=by
 have e1:=Int.mul_nonneg (show 0≤A-a by omega) (show 0≤B-b by omega); have e2:=Int.mul_nonneg (show 0≤A+a by omega) (show 0≤B+b by omega); have e3:=Int.mul_nonneg (show 0≤A-a by omega) (show 0≤B+b by omega); have e4:=Int.mul_nonneg (show 0≤A+a by omega) (show 0≤B-b by omega); simp only[Int.sub_mul,Int.add_mul,Int.mul_sub,Int.mul_add]at e1 e2 e3 e4; omega
theorem q3R{n:Int}(h:Lim n):q0s Tryz.prog 78 [.int .i64 n] (fun r=>r=.one .nil):=by
 refine q7J.call rfl ?_; simp(maxSteps:=2000000)only[go_sem,↓reduceIte,q7P,q7S]; unfold Lim at h; refine⟨fun a b=>?_,fun a=>?_⟩<;>exfalso<;>omega
theorem q2M{n:Int}(h:¬ Lim n):q0s Tryz.prog 78 [.int .i64 n] (fun r=>r=.one (err 1)):=by
 refine q7J.call rfl ?_; simp(maxSteps:=2000000)only[go_sem,↓reduceIte,q7P,q7S]; unfold Lim at h; refine⟨fun a=>⟨fun b=>?_,fun b=>?_⟩,fun a=>?_⟩<;>first|rfl|(exfalso; omega)
theorem z2F{n:Int}(h:i64 n):q0s Tryz.prog 115 [.int .i64 n] (fun r=>r=.one (I (n / 1000))):=by
 refine z2a.call rfl ?_; simp(maxSteps:=2000000)only[go_sem,↓reduceIte,z0w,z0D]; unfold i64 at h; unfold I; rw[Int.tmod_eq_emod,Int.tdiv_eq_ediv]; have h1:((1000:Int).natAbs:Int)=1000:=rfl; have h2:(1000:Int).sign=1:=rfl
 by_cases hd:0≤n∨(1000:Int)∣n
 ·rw[if_pos hd,if_pos hd]; refine⟨fun a=>?_,fun a=>?_⟩
  ·exfalso; omega
  ·rw[IntWalk.i64_in _ (by omega)]; congr 2; omega
 ·rw[if_neg hd,if_neg hd,h1,h2]; refine⟨fun a=>?_,fun a=>?_⟩
  ·rw[IntWalk.i64_in (n / 1000+1) (by omega),IntWalk.i64_in _ (by omega)]; congr 2; omega
  ·exfalso; omega
theorem z6C(n:Int):q0s Tryz.prog 114 [.int .i64 n] (fun r=>r=intE (okF n)):=by
 refine z6s.call rfl ?_; simp(maxSteps:=2000000)only[go_sem,↓reduceIte,z61,z62]; unfold okF
 by_cases h:Lim n
 ·refine q0g.of (q3R h) ?_; simp(maxSteps:=2000000)only[go_sem,↓reduceIte,if_pos h]; rfl
 ·refine q0g.of (q2M h) ?_; simp(maxSteps:=2000000)only[go_sem,↓reduceIte,if_neg h,err]; rfl
theorem q5B{a x b y c:Int}:q0s Tryz.prog 93 [.int .i64 a,.int .i64 x,.int .i64 b,.int .i64 y,.int .i64 c] (fun r=>r=intE (twoF a x b y c)):=by
 refine z45.call rfl ?_; unfold twoF; simp(maxSteps:=2000000)only[go_sem,↓reduceIte,z4j,z4m]; refine q14 ?_; simp(maxSteps:=2000000)only[go_sem,↓reduceIte,getI]
 by_cases ha:Lim a
 rotate_left
 ·refine q0g.of (q2M ha) ?_; simp(maxSteps:=2000000)only[go_sem,↓reduceIte,err,ha]; rfl
 refine q0g.of (q3R ha) ?_; simp(maxSteps:=2000000)only[go_sem,↓reduceIte]; refine q14 ?_; simp(maxSteps:=2000000)only[go_sem,↓reduceIte,getI]
 by_cases hx:Lim x
 rotate_left
 ·refine q0g.of (q2M hx) ?_; simp(maxSteps:=2000000)only[go_sem,↓reduceIte,err,hx]; rfl
 refine q0g.of (q3R hx) ?_; simp(maxSteps:=2000000)only[go_sem,↓reduceIte]; refine q14 ?_; simp(maxSteps:=2000000)only[go_sem,↓reduceIte,getI]
 by_cases hb:Lim b
 rotate_left
 ·refine q0g.of (q2M hb) ?_; simp(maxSteps:=2000000)only[go_sem,↓reduceIte,err,hb]; rfl
 refine q0g.of (q3R hb) ?_; simp(maxSteps:=2000000)only[go_sem,↓reduceIte]; refine q14 ?_; simp(maxSteps:=2000000)only[go_sem,↓reduceIte,getI]
 by_cases hy:Lim y
 rotate_left
 ·refine q0g.of (q2M hy) ?_; simp(maxSteps:=2000000)only[go_sem,↓reduceIte,err,hy]; rfl
 refine q0g.of (q3R hy) ?_; simp(maxSteps:=2000000)only[go_sem,↓reduceIte]; refine q14 ?_; simp(maxSteps:=2000000)only[go_sem,↓reduceIte,getI]
 by_cases hc:Lim c
 rotate_left
 ·refine q0g.of (q2M hc) ?_; simp(maxSteps:=2000000)only[go_sem,↓reduceIte,err,hc]; rfl
 refine q0g.of (q3R hc) ?_; simp(maxSteps:=2000000)only[go_sem,↓reduceIte]; refine q14 ?_; have b1:=j0L ha.1 ha.2 hx.1 hx.2; have b2:=j0L hb.1 hb.2 hy.1 hy.2; have w1:IntKind.i64.wrap (a*x)=a*x:=IntWalk.i64_in _ (by omega); have w2:IntKind.i64.wrap (b*y)=b*y:=IntWalk.i64_in _ (by omega); have w3:IntKind.i64.wrap (a*x+b*y)=a*x+b*y:=IntWalk.i64_in _ (by omega); have w4:IntKind.i64.wrap ((a*x+b*y) / 1000+c)=(a*x+b*y) / 1000+c:=IntWalk.i64_in _ (by unfold Lim at hc; omega)
 simp(maxSteps:=2000000)only[go_sem,↓reduceIte,w1,w2,w3]; refine q0g.of (z2F (by unfold i64; omega)) ?_; simp(maxSteps:=2000000)only[go_sem,↓reduceIte,I,w4]; refine q0g.of (z6C _) ?_; cases hr:okF ((a*x+b*y) / 1000+c)with
 |none=>
  simp(maxSteps:=2000000)only[go_sem,↓reduceIte,intE,I,err,ha,hx,hb,hy,hc,hr]
 |some n=>
  simp(maxSteps:=2000000)only[go_sem,↓reduceIte,intE,I,err,ha,hx,hb,hy,hc,hr]
def z2i:q0i:=
 .seq (.reg [⟨some 0,.allo [.int .i64 0,.int .i64 0,.int .i64 0,.int .i64 0,.int .i64 0,.int .i64 0],none⟩]) (.seq (.reg [Q 1 (.bld [(0,1),(1,1),(2,1),(3,1),(4,1), 
 (5,1)] [.int .i64 0,.int .i64 0,.int .i64 0,.int .i64 0,.int .i64 0,.int .i64 0] [] [(0,.k (.d (.int .i64 1000))),(3,.k (.d (.int .i64 1000)))]),⟨none,.st 6 (.t 0) (.t 
 1),none⟩]) .ret)
def z2k:List LRes:=[.cell 0 true 6]
theorem z3x:q0r Tryz.prog 30 2 z2i z2k:=⟨_,_,Tryz.func30,rfl,by kernel_rfl,by kernel_rfl,rfl⟩
def z0v:q0i:=
 .seq (.reg [⟨some 2,.box (.t 0),none⟩,⟨some 3,.box (.t 1),none⟩,⟨some 4,.allo [.int .i64 0,.int .i64 0],none⟩,Qx 5 (.k (.d .nil))]) (.seq (.reg [Q 10 (.fa 0 (.t 2)),Q 11 
 (.ld false 1 (.t 10)),Q 12 (.fa 0 (.t 3)),Q 13 (.ld false 1 (.t 12)),Q 14 (.fa 2 (.t 2)),Q 15 (.ld false 1 (.t 14)),Q 16 (.fa 1 (.t 3)),Q 17 (.ld false 1 (.t 16)),Q 18 
 (.fa 4 (.t 2)),Q 19 (.ld false 1 (.t 18)),⟨some 20,.call 93 [.t 11,.t 13,.t 15,.t 17,.t 19],none⟩,Qc 9 20,Q 21 (.ext 0 (.t 9)),Q 22 (.ext 1 (.t 9)),Qa 6 21,Qa 7 22]) 
 (.seq (.seq (.reg [Qc 23 7,Q 24 (.eqN 0 true (.t 23))]) (.cond (.t 24) (.seq (.reg [Q 25 (.bld [(0,1),(1,1)] [.int .i64 0,.int .i64 0] [] []),Qc 26 7,⟨none,.st 2 (.t 4) 
 (.t 25),none⟩,Qa 5 26]) .ret) .skip)) (.seq (.reg [Q 28 (.fa 1 (.t 2)),Q 29 (.ld false 1 (.t 28)),Q 30 (.fa 0 (.t 3)),Q 31 (.ld false 1 (.t 30)),Q 32 (.fa 3 (.t 2)),Q 33 
 (.ld false 1 (.t 32)),Q 34 (.fa 1 (.t 3)),Q 35 (.ld false 1 (.t 34)),Q 36 (.fa 5 (.t 2)),Q 37 (.ld false 1 (.t 36)),⟨some 38,.call 93 [.t 29,.t 31,.t 33,.t 35,.t 37], 
 none⟩,Qc 27 38,Q 39 (.ext 0 (.t 27)),Q 40 (.ext 1 (.t 27)),Qa 8 39,Qa 7 40]) (.seq (.seq (.reg [Qc 41 7,Q 42 (.eqN 0 true (.t 41))]) (.cond (.t 42) (.seq (.reg [Q 43 (.bld 
 [(0,1),(1,1)] [.int .i64 0,.int .i64 0] [] []),Qc 44 7,⟨none,.st 2 (.t 4) (.t 43),none⟩,Qa 5 44]) .ret) .skip)) (.seq (.reg [Qc 45 6,Qc 46 8,Q 47 (.bld [(0,1),(1, 
 1)] [.int .i64 0,.int .i64 0] [] [(0,.t 45),(1,.t 46)]),⟨none,.st 2 (.t 4) (.t 47),none⟩,Qx 5 (.k (.d .nil))]) .ret)))))
def z0C:List LRes:=[.cell 4 true 2,.tmp 5]
theorem z18:q0r Tryz.prog 134 48 z0v z0C:=⟨_,_,Tryz.func134,rfl,by kernel_rfl,by kernel_rfl,rfl⟩
def q9F:q0i:=
 .seq (.reg [⟨some 2,.box (.t 0),none⟩,⟨some 3,.box (.t 1),none⟩,⟨some 4,.allo [.int .i64 0,.int .i64 0,.int .i64 0,.int .i64 0,.int .i64 0,.int .i64 0],none⟩,Qx 5 (.k 
 (.d .nil))]) (.seq (.reg [⟨some 6,.allo [.int .i64 0,.int .i64 0,.int .i64 0,.int .i64 0,.int .i64 0,.int .i64 0],none⟩]) (.seq (.dead [13,14,15,16,17,18,19,20,21, 
 22,23,24,25,26,27,28] (.reg [Q 13 (.fa 0 (.t 2)),Q 14 (.ld false 1 (.t 13)),Q 15 (.fa 1 (.t 2)),Q 16 (.ld false 1 (.t 15)),Q 17 (.bld [(0,1),(1,1),(2,1)] [.int 
 .i64 0,.int .i64 0,.int .i64 0] [] [(0,.t 14),(1,.t 16),(2,.k (.d (.int .i64 0)))]),Q 18 (.fa 2 (.t 2)),Q 19 (.ld false 1 (.t 18)),Q 20 (.fa 3 (.t 2)),Q 21 (.ld false 
 1 (.t 20)),Q 22 (.bld [(0,1),(1,1),(2,1)] [.int .i64 0,.int .i64 0,.int .i64 0] [] [(0,.t 19),(1,.t 21),(2,.k (.d (.int .i64 0)))]),Q 23 (.fa 4 (.t 2)),Q 24 (.ld 
 false 1 (.t 23)),Q 25 (.fa 5 (.t 2)),Q 26 (.ld false 1 (.t 25)),Q 27 (.bld [(0,1),(1,1),(2,1)] [.int .i64 0,.int .i64 0,.int .i64 0] [] [(0,.t 24),(1,.t 26),(2,.k 
 (.d (.int .i64 1)))]),⟨some 28,.bsl 155 3 [.t 17,.t 22,.t 27],none⟩,Qa 7 28])) (.seq (.seq (.reg [Qc 29 7,Q 30 (.len false (.t 29)),Q 31 (.cp (Ki 0))]) (.block 0 (.loop 
 (.seq (.reg [Q 32 (.bin .lss (.t 31) (.t 30))]) (.seq (.cond (.t 32) .skip (.exit 0)) (.seq (.block 1 (.seq (.dead [33,34,35] (.reg [Qc 33 31,Q 34 (.ia 3 (.t 29) (.t 31)),Q 
 35 (.ld true 3 (.t 34)),⟨some 9,.allo [.int .i64 0,.int .i64 0,.int .i64 0],none⟩,Qa 8 33,⟨none,.st 3 (.t 9) (.t 35),none⟩])) (.seq (.dead [36,37,38,39,40,41,42, 
 43,44,45,46,47,48,49,50,51,52] (.reg [Q 37 (.iaA 3 1 (.t 9) (Ki 0)),Q 38 (.ld false 1 (.t 37)),Q 39 (.fa 0 (.t 3)),Q 40 (.ld false 1 (.t 39)),Q 41 (.iaA 3 1 (.t 9) 
 (Ki 1)),Q 42 (.ld false 1 (.t 41)),Q 43 (.fa 2 (.t 3)),Q 44 (.ld false 1 (.t 43)),Q 45 (.iaA 3 1 (.t 9) (Ki 2)),Q 46 (.ld false 1 (.t 45)),Q 47 (.fa 4 (.t 3)),Q 48 (.ld 
 false 1 (.t 47)),Q 49 (.bin .mul (.t 46) (.t 48)),⟨some 50,.call 93 [.t 38,.t 40,.t 42,.t 44,.t 49],none⟩,Qc 36 50,Q 51 (.ext 0 (.t 36)),Q 52 (.ext 1 (.t 36)),Qa 10 
 51,Qa 11 52])) (.seq (.seq (.dead [53] (.reg [Qc 53 11,Q 54 (.eqN 0 true (.t 53))])) (.cond (.t 54) (.seq (.dead [55,56] (.reg [Q 55 (.bld [(0,1),(1,1),(2,1),(3,1),(4, 
 1),(5,1)] [.int .i64 0,.int .i64 0,.int .i64 0,.int .i64 0,.int .i64 0,.int .i64 0] [] []),Qc 56 11,⟨none,.st 6 (.t 4) (.t 55),none⟩,Qa 5 56])) .ret) .skip)) (.seq 
 (.dead [57,58,59,60,61,62,63,64,65,66,67,68,69,70,71,72,73] (.reg [Q 58 (.iaA 3 1 (.t 9) (Ki 0)),Q 59 (.ld false 1 (.t 58)),Q 60 (.fa 1 (.t 3)),Q 61 (.ld false 
 1 (.t 60)),Q 62 (.iaA 3 1 (.t 9) (Ki 1)),Q 63 (.ld false 1 (.t 62)),Q 64 (.fa 3 (.t 3)),Q 65 (.ld false 1 (.t 64)),Q 66 (.iaA 3 1 (.t 9) (Ki 2)),Q 67 (.ld false 1 (.t 66)), 
 Q 68 (.fa 5 (.t 3)),Q 69 (.ld false 1 (.t 68)),Q 70 (.bin .mul (.t 67) (.t 69)),⟨some 71,.call 93 [.t 59,.t 61,.t 63,.t 65,.t 70],none⟩,Qc 57 71,Q 72 (.ext 0 (.t 57)), 
 Q 73 (.ext 1 (.t 57)),Qa 12 72,Qa 11 73])) (.seq (.seq (.dead [74] (.reg [Qc 74 11,Q 75 (.eqN 0 true (.t 74))])) (.cond (.t 75) (.seq (.dead [76,77] (.reg [Q 76 (.bld [(0, 
 1),(1,1),(2,1),(3,1),(4,1),(5,1)] [.int .i64 0,.int .i64 0,.int .i64 0,.int .i64 0,.int .i64 0,.int .i64 0] [] []),Qc 77 11,⟨none,.st 6 (.t 4) (.t 76),none⟩, 
 Qa 5 77])) .ret) .skip)) (.dead [78,79,80,81,82,83,84,85,86] (.reg [Qc 78 8,Q 79 (.bin .mul (Ki 2) (.t 78)),Qc 80 8,Q 81 (.bin .mul (Ki 2) (.t 80)),Q 82 (.bin .add 
 (.t 81) (Ki 1)),Qc 83 10,Qc 84 12,Q 85 (.iaA 6 1 (.t 6) (.t 79)),⟨none,.st 1 (.t 85) (.t 83),none⟩,Q 86 (.iaA 6 1 (.t 6) (.t 82)),⟨none,.st 1 (.t 86) (.t 84), 
 none⟩])))))))) (.dead [87] (.reg [Q 87 (.bin .add (.t 31) (Ki 1)),Qc 31 87])))))))) (.seq (.dead [88,89,90,91,92,93,94,95,96,97,98,99,100] (.reg [Q 88 (.iaA 6 1 (.t 
 6) (Ki 0)),Q 89 (.ld false 1 (.t 88)),Q 90 (.iaA 6 1 (.t 6) (Ki 1)),Q 91 (.ld false 1 (.t 90)),Q 92 (.iaA 6 1 (.t 6) (Ki 2)),Q 93 (.ld false 1 (.t 92)),Q 94 (.iaA 6 1 (.t 
 6) (Ki 3)),Q 95 (.ld false 1 (.t 94)),Q 96 (.iaA 6 1 (.t 6) (Ki 4)),Q 97 (.ld false 1 (.t 96)),Q 98 (.iaA 6 1 (.t 6) (Ki 5)),Q 99 (.ld false 1 (.t 98)),Q 100 (.bld [(0,1), 
 (1,1),(2,1),(3,1),(4,1),(5,1)] [.int .i64 0,.int .i64 0,.int .i64 0,.int .i64 0,.int .i64 0,.int .i64 0] [] [(0,.t 89),(1,.t 91),(2,.t 93),(3,.t 95),(4,.t 
 97),(5,.t 99)]),⟨none,.st 6 (.t 4) (.t 100),none⟩,Qx 5 (.k (.d .nil))])) .ret))))
def q9N:List LRes:=[.cell 4 true 6,.tmp 5]
theorem z1b:q0r Tryz.prog 67 101 q9F q9N:=⟨_,_,Tryz.func67,rfl,by kernel_rfl,by kernel_rfl,rfl⟩
def mat(a b c d e f:Int):D:=.agg [I a,I b,I c,I d,I e,I f]
def pt(x y:Int):D:=.agg [I x,I y]
theorem q5n:q0s Tryz.prog 30 [] (fun r=>r=.one (mat 1000 0 0 1000 0 0)):=by
 refine z3x.call rfl ?_; simp(maxSteps:=2000000)only[go_sem,↓reduceIte,z2i,z2k,mat,I]
def ptE:Option (Int×Int)→Res
 |some (x,y)=>.tup [pt x y,.nil]
 |none=>.tup [pt 0 0,err 1]
def z4t(a b c d e f x y:Int):Option (Int×Int):=
 match twoF a x c y e,twoF b x d y f with
 |some x,some y=>some (x,y)
 |_,_=>none
theorem z8b{a b c d e f x y:Int}:q0s Tryz.prog 134 [mat a b c d e f,pt x y] (fun r=>r=ptE (z4t a b c d e f x y)):=by
 refine z18.call rfl ?_; unfold z4t; simp(maxSteps:=2000000)only[go_sem,↓reduceIte,z0v,z0C,mat,pt,I]; refine q0g.of q5B ?_; cases h1:twoF a x c y e with
 |none=>
  simp(maxSteps:=2000000)only[go_sem,↓reduceIte,intE,I,err]; rfl
 |some u=>
  simp(maxSteps:=2000000)only[go_sem,↓reduceIte,intE,I]; refine q0g.of q5B ?_; cases h2:twoF b x d y f with
  |none=>
   simp(maxSteps:=2000000)only[go_sem,↓reduceIte,intE,I,err]; rfl
  |some v=>
   simp(maxSteps:=2000000)only[go_sem,↓reduceIte,intE,I]; rfl
def matE:Option (Int×Int×Int×Int×Int×Int)→Res
 |some (a,b,c,d,e,f)=>.tup [mat a b c d e f,.nil]
 |none=>.tup [mat 0 0 0 0 0 0,err 1]
def rowF(a b c p q r s t u:Int):Option (Int×Int):=
 match twoF a p b r (IntKind.i64.wrap (c*t)),twoF a q b s (IntKind.i64.wrap (c*u))with
 |some x,some y=>some (x,y)
 |_,_=>none
def q9b(a b c d e f p q r s t u:Int):Option (Int×Int×Int×Int×Int×Int):=
 match rowF a b 0 p q r s t u,rowF c d 0 p q r s t u,rowF e f 1 p q r s t u with
 |some (x,y),some (z,k),some (v,w)=>some (x,y,z,k,v,w)
 |_,_,_=>none
theorem z5Q{a b c d e f p q r s t u:Int}:q0s Tryz.prog 67 [mat a b c d e f,mat p q r s t u] (fun x=>x=matE (q9b a b c d e f p q r s t u)):=by
 refine z1b.call rfl ?_; unfold q9b rowF; simp(maxSteps:=2000000)only[go_sem,↓reduceIte,q9F,q9N,mat,pt,I]; refine q14 ?_; simp(maxSteps:=2000000)only[go_sem,↓reduceIte,getI]; refine q0g.of q5B ?_; cases h1:twoF a p b r (IntKind.i64.wrap (0*t))with
 |none=>
  simp(maxSteps:=2000000)only[go_sem,↓reduceIte,intE,I,err]; rfl
 |some x0=>
  simp(maxSteps:=2000000)only[go_sem,↓reduceIte,intE,I]; refine q0g.of q5B ?_; cases h2:twoF a q b s (IntKind.i64.wrap (0*u))with
  |none=>
   simp(maxSteps:=2000000)only[go_sem,↓reduceIte,intE,I,err]; rfl
  |some y0=>
   simp(maxSteps:=2000000)only[go_sem,↓reduceIte,intE,I]; refine q14 ?_; simp(maxSteps:=2000000)only[go_sem,↓reduceIte,getI]; refine q0g.of q5B ?_; cases h3:twoF c p d r (IntKind.i64.wrap (0*t))with
   |none=>
    simp(maxSteps:=2000000)only[go_sem,↓reduceIte,intE,I,err]; rfl
   |some x1=>
    simp(maxSteps:=2000000)only[go_sem,↓reduceIte,intE,I]; refine q0g.of q5B ?_; cases h4:twoF c q d s (IntKind.i64.wrap (0*u))with
    |none=>
     simp(maxSteps:=2000000)only[go_sem,↓reduceIte,intE,I,err]; rfl
    |some y1=>
     simp(maxSteps:=2000000)only[go_sem,↓reduceIte,intE,I]; refine q14 ?_; simp(maxSteps:=2000000)only[go_sem,↓reduceIte,getI]; refine q0g.of q5B ?_; cases h5:twoF e p f r (IntKind.i64.wrap (1*t))with
     |none=>
      simp(maxSteps:=2000000)only[go_sem,↓reduceIte,intE,I,err]; rfl
     |some x2=>
      simp(maxSteps:=2000000)only[go_sem,↓reduceIte,intE,I]; refine q0g.of q5B ?_; cases h6:twoF e q f s (IntKind.i64.wrap (1*u))with
      |none=>
       simp(maxSteps:=2000000)only[go_sem,↓reduceIte,intE,I,err]; rfl
      |some y2=>
       simp(maxSteps:=2000000)only[go_sem,↓reduceIte,intE,I]; refine q14 ?_; simp(maxSteps:=2000000)only[go_sem,↓reduceIte]; rfl
def q0v:q0i:=
 .seq (.reg [Qx 4 (Ki 0)]) (.seq (.seq (.reg [Qc 6 0,Q 7 (.len false (.t 6)),Q 8 (.cp (Ki 0))]) (.block 0 (.loop (.seq (.reg [Q 9 (.bin .lss (.t 8) (.t 7))]) (.seq (.cond (.t 9) 
 .skip (.exit 0)) (.seq (.block 1 (.seq (.reg [Qc 10 8,Qa 5 10]) (.seq (.reg [Qc 11 1,Qc 12 0,Qc 13 5,Q 14 (.ia 5 (.t 12) (.t 13)),Q 15 (.ld true 5 (.t 14)),⟨some 16,.prim 
 .call [.t 11,.t 15] [],none⟩]) (.cond (.t 16) (.seq (.reg [Qc 17 5,Qa 4 17]) .ret) .skip)))) (.reg [Q 18 (.bin .add (.t 8) (Ki 1)),Qc 8 18]))))))) (.seq (.reg [Qx 4 (Ki 
 (-1))]) .ret))
def q0w:List LRes:=[.tmp 4]
theorem q0Q:q0r Tryz.prog 105 19 q0v q0w:=⟨_,_,Tryz.func105,rfl,by kernel_rfl,by kernel_rfl,rfl⟩
theorem z13(g:Nat)(hg:q4x Tryz.prog g=true)(l:List Val)(hl:l.length≤1000000000)(p:Val→Bool)(hp:∀ x∈l,q0s Tryz.prog g [x.d] (fun r=>r=.one (.bool (p x)))):
  q6m Tryz.prog 105 [.d (.list (q0K l)),.fn (.func g) [] []] [] (.d (.int .i64 (match l.findIdx? p with|some i=>(i:Int)|none => -1))) []:=by
 have hll:=q2f l; refine q0Q.q2q (by kernel_rfl) rfl ?_; simp(maxSteps:=2000000)only[go_sem,↓reduceIte,q0v,q0w]; refine q0l (fun i:Nat=>⟨[(0,.d (.list (q0K l))),(1,.fn (.func g) [] []),(7,.d (.int .i64 (q0K l).length)),(8,.d (.int .i64 i))],[],[]⟩)
  (fun i=>i≤l.length∧∀ j,j<i→∀ x,l[j]?=some x→p x=false) (fun i=>l.length-i) 0 ?_ ?_ ?_
 ·refine Weak.mk ?_ ?_ ?_<;>simp(maxSteps:=2000000)only[go_sem,↓reduceIte,Sub,Int.natCast_add,Int.natCast_mul]
 ·exact⟨by simp,fun j hj=>absurd hj (by simp)⟩
 ·rintro i ⟨hi,hn⟩; simp(maxSteps:=2000000)only[go_sem,↓reduceIte,hll]; refine⟨fun hlt=>?_,fun hge=>?_⟩
  ·obtain⟨x,hx⟩:=get_some (l:=l) (i:=i) (by omega); have hc:=(hp x (List.mem_of_getElem? hx)).q5j hg; simp only[List.map_cons,List.map_nil,Res.av]at hc; rw[Val.d_eq]at hc; simp(maxSteps:=2000000)(disch:=omega)only[go_sem,↓reduceIte,q0a,q7b,hx,Val.d_eq]; refine q0c.q2q ([]) ([]) rfl (hc) rfl rfl (by simp only[q1q,St.obj,aget,AObj.ren,AV.ren,AV.ren1,renL,q4L,renR,renQ,List.getD_cons_zero,List.getD_cons_succ,and_true,and_self,Nat.reduceEqDiff,↓reduceIte,reduceCtorEq]) rfl rfl rfl ⟨rfl,rfl⟩ ?_; cases hpx:p x
   ·simp(maxSteps:=2000000)(disch:=omega)only[go_sem,↓reduceIte]; refine⟨i+1,?_,⟨by omega,fun j hj y hy=>?_⟩,by omega⟩
    ·refine Weak.mk ?_ ?_ ?_<;>simp(maxSteps:=2000000)only[go_sem,↓reduceIte,Sub,Int.natCast_add,Int.natCast_mul,hll]
    ·rcases Nat.lt_or_ge j i with h|h
     ·exact hn j h y hy
     ·have:j=i:=by omega
      subst this; rw[hx]at hy; cases hy; exact hpx
   ·simp(maxSteps:=2000000)only[go_sem,↓reduceIte]; have:l.findIdx? p=some i:=by
     rw[List.findIdx?_eq_some_iff_getElem]; obtain⟨h1,h2⟩:=List.getElem?_eq_some_iff.1 hx; refine⟨h1,by rw[h2]; exact hpx,fun j hj=>?_⟩; have:=hn j hj _ (List.getElem?_eq_getElem (by omega)); simp[this]
    rw[this]
  ·have:l.findIdx? p=none:=by
    rw[List.findIdx?_eq_none_iff]; intro x hx; obtain⟨j,hj⟩:=List.getElem?_of_mem hx; exact hn j (by have:=(List.getElem?_eq_some_iff.1 hj).1; omega) x hj
   rw[this]
def q0t:q0i:=
 .seq (.reg [Qx 4 KF]) (.seq (.reg [Qc 5 0,Qc 6 1,⟨some 7,.prim .call [.k (.fn (.func 105) [] []),.t 5,.t 6] [],none⟩,Q 8 (.bin .geq (.t 7) (Ki 0)),Qa 4 8]) .ret)
def q0u:List LRes:=[.tmp 4]
theorem q0M:q0r Tryz.prog 80 9 q0t q0u:=⟨_,_,Tryz.func80,rfl,by kernel_rfl,by kernel_rfl,rfl⟩
theorem q9c(g:Nat)(hg:q4x Tryz.prog g=true)(l:List Val)(hl:l.length≤1000000000)(p:Val→Bool)(hp:∀ x∈l,q0s Tryz.prog g [x.d] (fun r=>r=.one (.bool (p x)))):
  q6m Tryz.prog 80 [.d (.list (q0K l)),.fn (.func g) [] []] [] (.d (.bool (l.any p))) []:=by
 have hany:(match l.findIdx? p with|some i=>decide (0≤(i:Int))|none=>false)=l.any p:=by
  cases h:l.findIdx? p with
  |none=>
   rw[List.findIdx?_eq_none_iff]at h; simp only[Bool.false_eq]; rw[List.any_eq_false]; exact fun x hx=>by simp[h x hx]
  |some i=>
   rw[List.findIdx?_eq_some_iff_getElem]at h; obtain⟨h1,h2,_⟩:=h; have:l.any p=true:=List.any_eq_true.2 ⟨_,List.getElem_mem h1,h2⟩; rw[this]; simp
 refine q0M.q2q (by kernel_rfl) rfl ?_; simp(maxSteps:=2000000)only[go_sem,↓reduceIte,q0t,q0u]; refine q0c.q2q ([]) ([]) rfl (z13 g hg l hl p hp) rfl rfl (by simp only[q1q,St.obj,aget,AObj.ren,AV.ren,AV.ren1,renL,q4L,renR,renQ,List.getD_cons_zero,List.getD_cons_succ,and_true,and_self,Nat.reduceEqDiff,↓reduceIte,reduceCtorEq]) rfl rfl rfl ⟨rfl,rfl⟩ ?_
 simp(maxSteps:=2000000)only[go_sem,↓reduceIte]; rw[← hany]; cases l.findIdx? p<;>simp
mutual
def q7d:Val→Bool
 |.mk k n s l f=>
  let n0:=decide (n=0)
  let s0:=decide (s=[])
  let l0:=decide (l.length=0)
  let f0:=decide (f.length=0)
  if k=0 then n0&&(s0&&(l0&&f0))
  else if k=1 then(decide (n=0) || decide (n=1))&&(s0&&(l0&&f0))
  else if k=2 then decide (Lim n)&&(s0&&(l0&&f0))
  else if k=3 then n0&&(decide (s.length≤200)&&(l0&&f0))
  else if k=4 then n0&&(q3g s&&(l0&&f0))
  else if k=5 then n0&&(s0&&(z4b l&&f0))
  else if k=6 then n0&&(s0&&(l0&&q87 none f))
  else if k=7 then decide (1≤n∧n≤60)&&(s0&&(l0&&f0))
  else false
def z4b:List Val→Bool
 |[]=>true
 |v::r=>q7d v&&z4b r
def q87(p:Option (List UInt8)):List Fld→Bool
 |[]=>true
 |.mk nm v::r=>(q3g nm&&(q7d v&&(match p with|some q=>Op.bytesLess q nm|none=>true)))&&q87 (some nm) r
end
theorem j3X(l:List Val):z4b l = !l.any (fun v => !q7d v):=by
 induction l with
 |nil=>rfl
 |cons v r ih=>simp[z4b,ih]
theorem j3Y(v:Val):q7d v=(
  let n0:=decide (v.n=0)
  let s0:=decide (v.s=[])
  let l0:=decide (v.l.length=0)
  let f0:=decide (v.f.length=0)
  if v.kind=0 then n0&&(s0&&(l0&&f0))
  else if v.kind=1 then(decide (v.n=0) || decide (v.n=1))&&(s0&&(l0&&f0))
  else if v.kind=2 then decide (Lim v.n)&&(s0&&(l0&&f0))
  else if v.kind=3 then n0&&(decide (v.s.length≤200)&&(l0&&f0))
  else if v.kind=4 then n0&&(q3g v.s&&(l0&&f0))
  else if v.kind=5 then n0&&(s0&&(z4b v.l&&f0))
  else if v.kind=6 then n0&&(s0&&(l0&&q87 none v.f))
  else if v.kind=7 then decide (1≤v.n∧v.n≤60)&&(s0&&(l0&&f0))
  else false):=by cases v; unfold q7d; rfl
theorem z81{p:Option (List UInt8)}{l:List Fld}{x:Fld}:q87 p (l++[x])=(q87 p l&&(q3g x.name&&(q7d x.v&&(match(l.getLast?.map Fld.name).or p with|some q=>Op.bytesLess q x.name|none=>true)))):=by
 induction l generalizing p with
 |nil=>cases x; simp[q87,Fld.name,Fld.v]
 |cons y r ih=>
  cases y with
  |mk nm v=>
   simp only[List.cons_append,q87,ih,Bool.and_assoc]; cases r with
   |nil=>simp[Fld.name]
   |cons z r=>
    have h1:∀ q:Option (List UInt8),((z::r).getLast?.map Fld.name).or q=(z::r).getLast?.map Fld.name:=fun q=>by
     rw[List.getLast?_eq_some_getLast (by simp)]; rfl
    have h2:(Fld.mk nm v::z::r).getLast?=(z::r).getLast?:=List.getLast?_cons_cons; rw[h2,h1,h1]
theorem z82{l:List Fld}{i:Nat}{x:Fld}(hx:l[i]?=some x):q87 none (l.take (i+1))=(q87 none (l.take i)&&(q3g x.name&&(q7d x.v&&(match l[i-1]? with|some y=>if i=0 then true else Op.bytesLess y.name x.name|none=>true)))):=by
 have hl:i<l.length:=(List.getElem?_eq_some_iff.1 hx).1; rw[List.take_add_one,hx]; simp only[Option.toList_some]; rw[z81]; congr 3
 by_cases h0:i=0
 ·subst h0; simp; cases l[0]?<;>rfl
 ·have:(l.take i).getLast?=l[i-1]?:=by
   rw[List.getLast?_eq_getElem?,List.length_take,List.getElem?_take]; have:min i l.length=i:=by omega
   rw[this,if_pos (by omega)]
  rw[this]; cases hy:l[i-1]? with
  |none=>rfl
  |some y=>simp[h0]
theorem kinds(k:Int):k=0∨k=1∨k=2∨k=3∨k=4∨k=5∨k=6∨k=7∨(k≠0∧k≠1∧k≠2∧k≠3∧k≠4∧k≠5∧k≠6∧k≠7):=by omega
def q1v:q0i:=
 .seq (.reg [⟨some 1,.box (.t 0),none⟩,Qx 2 KF]) (.seq (.dreg [Q 9 (.fa 1 (.t 1)),Q 10 (.ld false 1 (.t 9)),Q 11 (.bin .eql (.t 10) (Ki 0)),Q 12 (.fa 2 (.t 1)),Q 13 (.ld 
 false 1 (.t 12)),Q 14 (.bin .eql (.t 13) (.k (.d (.str [])))),Q 15 (.fa 3 (.t 1)),Q 16 (.ld false 1 (.t 15)),Q 17 (.len false (.t 16)),Q 18 (.bin .eql (.t 17) (Ki 0)),Q 19 
 (.fa 4 (.t 1)),Q 20 (.ld false 1 (.t 19)),Q 21 (.len false (.t 20)),Q 22 (.bin .eql (.t 21) (Ki 0)),Qc 3 11,Qc 4 14,Qc 5 18,Qc 6 22]) (.seq (.seq (.reg [Q 23 (.fa 0 (.t 
 1)),Q 24 (.ld false 1 (.t 23))]) (.block 0 (.seq (.reg [Q 26 (.bin .eql (.t 24) (Ki 0)),Qa 25 26]) (.cond (.t 25) .skip (.seq (.reg [Q 28 (.bin .eql (.t 24) (Ki 1)),Qa 27 28]) 
 (.cond (.t 27) (.reg [Q 29 (.fa 1 (.t 1)),Q 30 (.ld false 1 (.t 29)),Q 31 (.bin .eql (.t 30) (Ki 0)),Qc 32 31,Qg 33 (.fa 1 (.t 1)) 32 false,Qg 34 (.ld false 1 (.t 33)) 32 
 false,Qg 35 (.bin .eql (.t 34) (Ki 1)) 32 false,Q 36 (.pick (.t 32) KT (.t 35)),Qa 3 36]) (.seq (.reg [Q 38 (.bin .eql (.t 24) (Ki 2)),Qa 37 38]) (.cond (.t 37) (.reg [Q 39 
 (.fa 1 (.t 1)),Q 40 (.ld false 1 (.t 39)),⟨some 41,.call 78 [.t 40],none⟩,Q 42 (.eqN 0 false (.t 41)),Qa 3 42]) (.seq (.reg [Q 44 (.bin .eql (.t 24) (Ki 3)),Qa 43 44]) 
 (.cond (.t 43) (.reg [Q 45 (.fa 2 (.t 1)),Q 46 (.ld false 1 (.t 45)),Q 47 (.len true (.t 46)),Q 48 (.bin .leq (.t 47) (Ki 200)),Qa 4 48]) (.seq (.reg [Q 50 (.bin .eql (.t 24) 
 (Ki 4)),Qa 49 50]) (.cond (.t 49) (.reg [Q 51 (.fa 2 (.t 1)),Q 52 (.ld false 1 (.t 51)),⟨some 53,.call 79 [.t 52],none⟩,Qa 4 53]) (.seq (.reg [Q 55 (.bin .eql (.t 24) (Ki 
 5)),Qa 54 55]) (.cond (.t 54) (.reg [Q 56 (.fa 3 (.t 1)),Q 57 (.ld false 1 (.t 56)),⟨some 58,.prim .call [.k (.fn (.func 80) [] []),.t 57,.k (.fn (.func 81) [] [])] [], 
 none⟩,Q 59 (.not (.t 58)),Qa 5 59]) (.seq (.reg [Q 61 (.bin .eql (.t 24) (Ki 6)),Qa 60 61]) (.cond (.t 60) (.seq (.reg [Q 62 (.fa 4 (.t 1)),Q 63 (.ld false 1 (.t 62)),Q 64 
 (.len false (.t 63)),Q 65 (.cp (Ki 0))]) (.block 1 (.loop (.seq (.reg [Q 66 (.bin .lss (.t 65) (.t 64))]) (.seq (.cond (.t 66) .skip (.exit 1)) (.seq (.block 2 (.seq (.reg [Qc 
 67 65,Q 68 (.ia 6 (.t 63) (.t 65)),Q 69 (.ld true 6 (.t 68)),⟨some 8,.allo [.str [],.int .i64 0,.int .i64 0,.str [],.list [],.list []],none⟩,Qa 7 67,⟨none,.st 6 (.t 
 8) (.t 69),none⟩]) (.dreg [Qc 70 7,Q 71 (.bin .eql (.t 70) (Ki 0)),Qc 72 71,Qd 73 6 72 false,Q 74 (.pick (.t 72) KT (.t 73)),Qc 75 74,Qg 76 (.fa 0 (.t 8)) 75 true,Qg 77 
 (.ld false 1 (.t 76)) 75 true,⟨some 78,.call 79 [.t 77],some (75,true)⟩,Q 79 (.pick (.t 75) (.t 78) KF),Qc 80 79,Qg 81 (.fa 1 (.t 8)) 80 true,Qg 82 (.ld true 5 (.t 81)) 
 80 true,⟨some 83,.call 59 [.t 82],some (80,true)⟩,Q 84 (.pick (.t 80) (.t 83) KF),Qc 85 84,Qd 86 7 85 true,Qg 87 (.bin .eql (.t 86) (Ki 0)) 85 true,Qd 88 87 85 true,Qg 
 89 (.fa 4 (.t 1)) 88 false,Qg 90 (.ld false 1 (.t 89)) 88 false,Qd 91 7 88 false,Qg 92 (.bin .sub (.t 91) (Ki 1)) 88 false,Qg 93 (.ia 6 (.t 90) (.t 92)) 88 false,Qg 94 (.fa 
 0 (.t 93)) 88 false,Qg 95 (.ld false 1 (.t 94)) 88 false,Qg 96 (.fa 0 (.t 8)) 88 false,Qg 97 (.ld false 1 (.t 96)) 88 false,Qg 98 (.bin .lss (.t 95) (.t 97)) 88 false,Qg 99 
 (.pick (.t 88) KT (.t 98)) 85 true,Q 100 (.pick (.t 85) (.t 99) KF),Qa 6 100]))) (.reg [Q 101 (.bin .add (.t 65) (Ki 1)),Qc 65 101]))))))) (.seq (.reg [Q 103 (.bin .eql (.t 
 24) (Ki 7)),Qa 102 103]) (.cond (.t 102) (.reg [Q 104 (.fa 1 (.t 1)),Q 105 (.ld false 1 (.t 104)),Q 106 (.bin .geq (.t 105) (Ki 1)),Qc 107 106,Qg 108 (.fa 1 (.t 1)) 107 
 true,Qg 109 (.ld false 1 (.t 108)) 107 true,Qg 110 (.bin .leq (.t 109) (Ki 60)) 107 true,Q 111 (.pick (.t 107) (.t 110) KF),Qa 3 111]) (.seq (.reg [Qx 2 KF]) 
 .ret))))))))))))))))))) (.seq (.reg [Qc 112 3,Qc 113 112,Qd 114 4 113 true,Q 115 (.pick (.t 113) (.t 114) KF),Qc 116 115,Qd 117 5 116 true,Q 118 (.pick (.t 116) (.t 117) 
 KF),Qc 119 118,Qd 120 6 119 true,Q 121 (.pick (.t 119) (.t 120) KF),Qa 2 121]) .ret)))
def q1z:List LRes:=[.tmp 2]
theorem q02:q0r Tryz.prog 59 122 q1v q1z:=⟨_,_,Tryz.func59,rfl,by kernel_rfl,by kernel_rfl,rfl⟩
def q7D:q0i:=
 .seq (.reg [⟨some 1,.box (.t 0),none⟩,Qx 2 KF]) (.seq (.reg [Q 3 (.ld true 5 (.t 1)),⟨some 4,.call 59 [.t 3],none⟩,Q 5 (.not (.t 4)),Qa 2 5]) .ret)
def q7G:List LRes:=[.tmp 2]
theorem q9p:q0r Tryz.prog 81 6 q7D q7G:=⟨_,_,Tryz.func81,rfl,by kernel_rfl,by kernel_rfl,rfl⟩
theorem j1R:∀(m:Nat) (v:Val),SizeOf.sizeOf v≤m→v.sm 1048576=true→q0s Tryz.prog 59 [v.d] (fun r=>r=.one (.bool (q7d v))):=by
 intro m; induction m with
 |zero=>intro v h; cases v; simp at h
 |succ m ih=>
  intro v hv hsm; obtain⟨_,hll,hfl,hsl,hsf⟩:=Val.q68.1 hsm; have hvl:=q2f v.l; have hfl':=q6T v.f; have hcl:∀ x∈v.l,q0s Tryz.prog 81 [x.d] (fun r=>r=.one (.bool (!q7d x))):=fun x hx=>by
   have hc:=ih x (by have:=j1H hx; omega) (hsl x hx); rw[Val.d_eq]at hc ⊢; refine q9p.call rfl ?_; simp(maxSteps:=2000000)only[go_sem,↓reduceIte,q7D,q7G]; refine q0g.of hc ?_; simp(maxSteps:=2000000)only[go_sem,↓reduceIte]
  generalize hR:q7d v=R; rw[j3Y]at hR; have cast0:∀ a:Nat,((a:Int)=0)=(a=0):=fun a=>by apply propext; omega
  rw[Val.d_eq]; rcases kinds v.kind with hk|hk|hk|hk|hk|hk|hk|hk|hk
  ·refine q02.call rfl ?_; rw[hk]at hR; simp only[Int.reduceEq,↓reduceIte]at hR; simp(maxSteps:=2000000)only[go_sem,↓reduceIte,q1v,q1z,hk,hvl,hfl']; subst hR; simp only[cast0]
   by_cases c1:v.n=0<;>by_cases c2:v.s=[]<;>by_cases c3:v.l.length=0<;>by_cases c4:v.f.length=0<;>simp[c1,c2,c3,c4]
  ·refine q02.call rfl ?_; rw[hk]at hR; simp only[Int.reduceEq,↓reduceIte]at hR; simp(maxSteps:=2000000)only[go_sem,↓reduceIte,q1v,q1z,hk,hvl,hfl']; subst hR; simp only[cast0]
   by_cases c1:v.n=0<;>by_cases c2:v.s=[]<;>by_cases c3:v.l.length=0<;>by_cases c4:v.f.length=0<;>simp[c1,c2,c3,c4]
  ·refine q02.call rfl ?_; rw[hk]at hR; simp only[Int.reduceEq,↓reduceIte]at hR; simp(maxSteps:=2000000)only[go_sem,↓reduceIte,q1v,q1z,hk,hvl,hfl']
   by_cases hL:Lim v.n
   ·refine q0g.of (q3R hL) ?_; simp(maxSteps:=2000000)only[go_sem,↓reduceIte]; subst hR; simp only[cast0]
    by_cases c2:v.s=[]<;>by_cases c3:v.l.length=0<;>by_cases c4:v.f.length=0<;>simp[hL,c2,c3,c4]
   ·refine q0g.of (q2M hL) ?_; simp(maxSteps:=2000000)only[go_sem,↓reduceIte,err]; subst hR; simp[hL]
  ·refine q02.call rfl ?_; rw[hk]at hR; simp only[Int.reduceEq,↓reduceIte]at hR; simp(maxSteps:=2000000)only[go_sem,↓reduceIte,q1v,q1z,hk,hvl,hfl']; subst hR; simp only[cast0]; have c5:((v.s.length:Int)≤200)=(v.s.length≤200):=by apply propext; omega
   simp only[c5]
   by_cases c1:v.n=0<;>by_cases c2:v.s.length≤200<;>by_cases c3:v.l.length=0<;>by_cases c4:v.f.length=0<;>simp[c1,c2,c3,c4]
  ·refine q02.call rfl ?_; rw[hk]at hR; simp only[Int.reduceEq,↓reduceIte]at hR; simp(maxSteps:=2000000)only[go_sem,↓reduceIte,q1v,q1z,hk,hvl,hfl']; refine q0g.of (q61 v.s) ?_; simp(maxSteps:=2000000)only[go_sem,↓reduceIte]; subst hR; simp only[cast0]
   by_cases c1:v.n=0<;>cases c2:q3g v.s<;>by_cases c3:v.l.length=0<;>by_cases c4:v.f.length=0<;>simp[c1,c3,c4]
  ·refine q02.call rfl ?_; rw[hk]at hR; simp only[Int.reduceEq,↓reduceIte]at hR; simp(maxSteps:=2000000)only[go_sem,↓reduceIte,q1v,q1z,hk,hvl,hfl']; refine q0c.q2q ([]) ([]) rfl (q9c 81 (by kernel_rfl) v.l (by omega) _ hcl) rfl rfl (by simp only[q1q,St.obj,aget,AObj.ren,AV.ren,AV.ren1,renL,q4L,renR,renQ,List.getD_cons_zero,List.getD_cons_succ,and_true,and_self,Nat.reduceEqDiff,↓reduceIte,reduceCtorEq]) rfl rfl rfl ⟨rfl,rfl⟩ ?_; simp(maxSteps:=2000000)only[go_sem,↓reduceIte]; subst hR; rw[j3X]
   simp only[cast0]
   by_cases c1:v.n=0<;>by_cases c2:v.s=[]<;>cases c3:v.l.any (fun v => !q7d v)<;>by_cases c4:v.f.length=0<;>simp[c1,c2,c4]
  ·refine q02.call rfl ?_; rw[hk]at hR; simp only[Int.reduceEq,↓reduceIte]at hR; simp(maxSteps:=2000000)only[go_sem,↓reduceIte,q1v,q1z,hk,hvl,hfl']; refine q0l (fun y:Nat×Bool=>⟨[(1,.ptr (.l 1) 0),(3,.d (.bool (decide (v.n=0)))),(4,.d (.bool (decide (v.s=[])))),(5,.d (.bool (decide ((v.l.length:Int)=0)))),(6,.d (.bool y.2)),(63,.d (.list (q3w v.f))),(64,.d (.int .i64 v.f.length)),(65,.d (.int .i64 y.1))],
     [(1,.cells [.d (.int .i64 6),.d (.int .i64 v.n),.d (.str v.s),.d (.list (q0K v.l)),.d (.list (q3w v.f))])],[]⟩)
    (fun y=>y.1≤v.f.length∧(y.1=0→y.2=decide (v.f.length=0))∧(y.1≠0→y.2=q87 none (v.f.take y.1))) (fun y=>v.f.length-y.1) (0,decide (v.f.length=0)) ?_ ?_ ?_
   ·refine Weak.mk ?_ ?_ ?_<;>simp(maxSteps:=2000000)only[go_sem,↓reduceIte,Sub,Int.natCast_add,Int.natCast_mul,cast0]
   ·exact⟨by simp,fun _=>rfl,fun h=>absurd rfl h⟩
   ·rintro⟨i,fb⟩ ⟨hi,hz,hnz⟩; simp only at hi hz hnz; simp(maxSteps:=2000000)only[go_sem,↓reduceIte]; refine⟨fun hlt=>?_,fun hge=>?_⟩
    ·obtain⟨x,hx⟩:=get_some (l:=v.f) (i:=i) (by omega); have hsx:=Fld.q68.1 (hsf x (List.mem_of_getElem? hx)); have hc:=ih x.v (by have:=z7S (List.mem_of_getElem? hx); omega) hsx.2; have hn:=q61 x.name; rw[Val.d_eq]at hc; have hstep:q87 none (v.f.take (i+1))=(q87 none (v.f.take i)&&(q3g x.name&&(q7d x.v&&(match v.f[i-1]? with|some y=>if i=0 then true else Op.bytesLess y.name x.name|none=>true)))):=z82 hx; simp(maxSteps:=2000000)(disch:=omega)only[go_sem,↓reduceIte,q0a,q5e,hx,Fld.d_eq]
     refine⟨fun g1=>?_,fun g1=>?_⟩
     ·have i0:i≠0:=by omega
      have hfb:=hnz i0; obtain⟨y,hy⟩:=get_some (l:=v.f) (i:=i-1) (by omega); have hgy:getI (q3w v.f) ((i:Int)-1)=some y.d:=by
       have:(i:Int)-1=((i-1:Nat):Int):=by omega
       rw[this,q0a,q5e,hy]; rfl
      rw[hy]at hstep; simp only[i0,if_false,← hfb]at hstep; refine⟨fun f1=>?_,fun f1=>?_⟩
      ·refine q5O.of hn ?_; simp(maxSteps:=2000000)(disch:=omega)only[go_sem,↓reduceIte]; refine⟨fun n1=>?_,fun n1=>?_⟩
       ·refine q5O.of hc ?_; simp(maxSteps:=2000000)(disch:=omega)only[go_sem,↓reduceIte]; refine⟨fun w1=>?_,fun w1=>?_⟩
        ·simp(maxSteps:=2000000)(disch:=omega)only[go_sem,↓reduceIte,g1,hgy,Fld.d_eq]; refine⟨(i+1,Op.bytesLess y.name x.name),?_,⟨by simp only; omega,fun h=>absurd h (by simp),fun _=>?_⟩,by simp only; omega⟩
         ·refine Weak.mk ?_ ?_ ?_<;>simp(maxSteps:=2000000)only[go_sem,↓reduceIte,Sub,Int.natCast_add,Int.natCast_mul]
         ·rw[hstep]; simp[f1,n1,w1]
        ·refine⟨(i+1,false),?_,⟨by simp only; omega,fun h=>absurd h (by simp),fun _=>?_⟩,by simp only; omega⟩
         ·refine Weak.mk ?_ ?_ ?_<;>simp(maxSteps:=2000000)only[go_sem,↓reduceIte,Sub,Int.natCast_add,Int.natCast_mul]
         ·rw[hstep]; simp[w1]
       ·refine⟨(i+1,false),?_,⟨by simp only; omega,fun h=>absurd h (by simp),fun _=>?_⟩,by simp only; omega⟩
        ·refine Weak.mk ?_ ?_ ?_<;>simp(maxSteps:=2000000)only[go_sem,↓reduceIte,Sub,Int.natCast_add,Int.natCast_mul]
        ·rw[hstep]; simp[n1]
      ·refine⟨(i+1,false),?_,⟨by simp only; omega,fun h=>absurd h (by simp),fun _=>?_⟩,by simp only; omega⟩
       ·refine Weak.mk ?_ ?_ ?_<;>simp(maxSteps:=2000000)only[go_sem,↓reduceIte,Sub,Int.natCast_add,Int.natCast_mul]
       ·rw[hstep]; simp[f1]
     ·have i0:i=0:=by omega
      subst i0; refine q5O.of hn ?_; simp(maxSteps:=2000000)(disch:=omega)only[go_sem,↓reduceIte]; refine⟨fun n1=>?_,fun n1=>?_⟩
      ·refine q5O.of hc ?_; simp(maxSteps:=2000000)(disch:=omega)only[go_sem,↓reduceIte]; refine⟨fun w1=>?_,fun w1=>?_⟩
       ·skip
        refine⟨(1,true),?_,⟨by simp only; omega,fun h=>absurd h (by simp),fun _=>?_⟩,by simp only; omega⟩
        ·refine Weak.mk ?_ ?_ ?_<;>simp(maxSteps:=2000000)only[go_sem,↓reduceIte,Sub,Int.natCast_add,Int.natCast_mul]
        ·rw[hstep]; simp[n1,w1,q87]; cases v.f[0]?<;>rfl
       ·skip
        refine⟨(1,false),?_,⟨by simp only; omega,fun h=>absurd h (by simp),fun _=>?_⟩,by simp only; omega⟩
        ·refine Weak.mk ?_ ?_ ?_<;>simp(maxSteps:=2000000)only[go_sem,↓reduceIte,Sub,Int.natCast_add,Int.natCast_mul]
        ·rw[hstep]; simp[w1]
      ·skip
       refine⟨(1,false),?_,⟨by simp only; omega,fun h=>absurd h (by simp),fun _=>?_⟩,by simp only; omega⟩
       ·refine Weak.mk ?_ ?_ ?_<;>simp(maxSteps:=2000000)only[go_sem,↓reduceIte,Sub,Int.natCast_add,Int.natCast_mul]
       ·rw[hstep]; simp[n1]
    ·subst hR; have hfb:fb=q87 none v.f:=by
      by_cases i0:i=0
      ·have h0:v.f=[]:=by
        have:v.f.length=0:=by omega
        exact List.length_eq_zero_iff.1 this
       rw[hz i0,h0]; rfl
      ·rw[hnz i0,List.take_of_length_le (by omega)]
     rw[hfb]; simp only[cast0]
     by_cases c1:v.n=0<;>by_cases c2:v.s=[]<;>by_cases c3:v.l.length=0<;>simp[c1,c2,c3]
  ·refine q02.call rfl ?_; rw[hk]at hR; simp only[Int.reduceEq,↓reduceIte]at hR; simp(maxSteps:=2000000)only[go_sem,↓reduceIte,q1v,q1z,hk,hvl,hfl']; subst hR; simp only[cast0]
   by_cases c1:1≤v.n<;>by_cases c5:v.n≤60<;>by_cases c2:v.s=[]<;>by_cases c3:v.l.length=0<;>by_cases c4:v.f.length=0<;>simp[c1,c2,c3,c4,c5]
  ·refine q02.call rfl ?_; obtain⟨k0,k1,k2,k3,k4,k5,k6,k7⟩:=hk; rw[if_neg k0,if_neg k1,if_neg k2,if_neg k3,if_neg k4,if_neg k5,if_neg k6,if_neg k7]at hR; subst hR; simp(maxSteps:=2000000)only[go_sem,↓reduceIte,q1v,q1z,hvl,hfl',k0,k1,k2,k3,k4,k5,k6,k7]
mutual
def ptV:Val→Nat×Nat
 |.mk _ _ _ l f=>(1+(ptL l).1+(ptF f).1,max (ptL l).2 (ptF f).2+1)
def ptL:List Val→Nat×Nat
 |[]=>(0,0)
 |v::r=>((ptV v).1+(ptL r).1,max (ptV v).2 (ptL r).2)
def ptF:List Fld→Nat×Nat
 |[]=>(0,0)
 |.mk _ v::r=>((ptV v).1+(ptF r).1,max (ptV v).2 (ptF r).2)
end
theorem j6P(v:Val):ptV v=(1+(ptL v.l).1+(ptF v.f).1,max (ptL v.l).2 (ptF v.f).2+1):=by cases v; simp only[ptV,Val.l,Val.f]
mutual
theorem q64:∀(v:Val),1≤(ptV v).1∧1≤(ptV v).2
 |.mk k n s l f=>by simp only[ptV]; omega
theorem j6O:∀(l:List Val),(ptL l).1=0→(ptL l).2=0
 |[],_=>rfl
 |v::r,h=>by
  have:=q64 v; simp only[ptL]at h; omega
theorem j6N:∀(l:List Fld),(ptF l).1=0→(ptF l).2=0
 |[],_=>rfl
 |.mk _ v::r,h=>by
  have:=q64 v; simp only[ptF]at h; omega
end
mutual
theorem j1N(deep:Nat):∀(v:Val) (left:Int),0≤left→((((ptV v).1:Int)≤left∧deep+(ptV v).2≤9)→szV deep v left=(true,left-(ptV v).1))∧(¬(((ptV v).1:Int)≤left∧deep+(ptV v).2≤9)→(szV deep v left).1=false)
 |.mk k n s l f,left,h=>by
  have hL:=j4x (deep+1) l; have hF:=j4v (deep+1) f; have e1:=j6O l; have e2:=j6N f; have e3:ptV (.mk k n s l f)=(1+(ptL l).1+(ptF f).1,max (ptL l).2 (ptF f).2+1):=by simp only[ptV]
  rw[e3]; generalize hA:ptL l=A at *; generalize hB:ptF f=B at *; obtain⟨a1,a2⟩:=A; obtain⟨b1,b2⟩:=B; simp only at *; unfold szV
  by_cases h8:8<deep
  ·rw[if_pos h8]; exact⟨fun c=>by exfalso; omega,fun _=>rfl⟩
  ·rw[if_neg h8]
   by_cases h0:left-1<0
   ·rw[if_pos h0]; exact⟨fun c=>by exfalso; omega,fun _=>rfl⟩
   ·rw[if_neg h0]; obtain⟨g1,g2⟩:=hL (left-1) (by omega)
    by_cases c1:((a1:Int)≤left-1∧(a1=0∨deep+1+a2≤9))
    ·rw[g1 c1]; simp only; obtain⟨g3,g4⟩:=hF (left-1-a1) (by omega)
     by_cases c2:((b1:Int)≤left-1-a1∧(b1=0∨deep+1+b2≤9))
     ·refine⟨fun _=>?_,fun c=>by exfalso; omega⟩; rw[g3 c2]; congr 1; omega
     ·exact⟨fun c=>by exfalso; omega,fun _=>g4 c2⟩
    ·refine⟨fun c=>by exfalso; omega,fun _=>?_⟩; have:=g2 c1; generalize szL (deep+1) l (left-1)=Z at this; obtain⟨z1,z2⟩:=Z; simp only at this; subst this; rfl
theorem j4x(deep:Nat):∀(l:List Val) (left:Int),0≤left→((((ptL l).1:Int)≤left∧((ptL l).1=0∨deep+(ptL l).2≤9))→szL deep l left=(true,left-(ptL l).1))∧(¬(((ptL l).1:Int)≤left∧((ptL l).1=0∨deep+(ptL l).2≤9))→(szL deep l left).1=false)
 |[],left,h=>by simp[szL,ptL]; omega
 |v::r,left,h=>by
  obtain⟨g1,g2⟩:=j1N deep v left h; have h2:=j4x deep r; have hp:=q64 v; have hz:=j6O r; have e3:ptL (v::r)=((ptV v).1+(ptL r).1,max (ptV v).2 (ptL r).2):=by simp only[ptL]
  rw[e3]; generalize hA:ptV v=A at *; generalize hB:ptL r=B at *; obtain⟨a1,a2⟩:=A; obtain⟨b1,b2⟩:=B; simp only at *; unfold szL
  by_cases c1:((a1:Int)≤left∧deep+a2≤9)
  ·rw[g1 c1]; simp only; obtain⟨g3,g4⟩:=h2 (left-a1) (by omega)
   by_cases c2:((b1:Int)≤left-a1∧(b1=0∨deep+b2≤9))
   ·refine⟨fun _=>?_,fun c=>by exfalso; omega⟩; rw[g3 c2]; congr 1; omega
   ·exact⟨fun c=>by exfalso; omega,fun _=>g4 c2⟩
  ·refine⟨fun c=>by exfalso; omega,fun _=>?_⟩; have:=g2 c1; generalize szV deep v left=Z at this; obtain⟨z1,z2⟩:=Z; simp only at this; subst this; rfl
theorem j4v(deep:Nat):∀(l:List Fld) (left:Int),0≤left→((((ptF l).1:Int)≤left∧((ptF l).1=0∨deep+(ptF l).2≤9))→szF deep l left=(true,left-(ptF l).1))∧(¬(((ptF l).1:Int)≤left∧((ptF l).1=0∨deep+(ptF l).2≤9))→(szF deep l left).1=false)
 |[],left,h=>by simp[szF,ptF]; omega
 |.mk nm v::r,left,h=>by
  obtain⟨g1,g2⟩:=j1N deep v left h; have h2:=j4v deep r; have hp:=q64 v; have hz:=j6N r; have e3:ptF (.mk nm v::r)=((ptV v).1+(ptF r).1,max (ptV v).2 (ptF r).2):=by simp only[ptF]
  rw[e3]; generalize hA:ptV v=A at *; generalize hB:ptF r=B at *; obtain⟨a1,a2⟩:=A; obtain⟨b1,b2⟩:=B; simp only at *; unfold szF
  by_cases c1:((a1:Int)≤left∧deep+a2≤9)
  ·rw[g1 c1]; simp only; obtain⟨g3,g4⟩:=h2 (left-a1) (by omega)
   by_cases c2:((b1:Int)≤left-a1∧(b1=0∨deep+b2≤9))
   ·refine⟨fun _=>?_,fun c=>by exfalso; omega⟩; rw[g3 c2]; congr 1; omega
   ·exact⟨fun c=>by exfalso; omega,fun _=>g4 c2⟩
  ·refine⟨fun c=>by exfalso; omega,fun _=>?_⟩; have:=g2 c1; generalize szV deep v left=Z at this; obtain⟨z1,z2⟩:=Z; simp only at this; subst this; rfl
end
def q6n(v:Val):Nat:=if 300<(ptV v).1∨8<(ptV v).2 then 2 else if q7d v then 0 else 3
theorem j5P(v:Val):(szV 1 v 300).1 = !decide (300<(ptV v).1∨8<(ptV v).2):=by
 have h:=j1N 1 v 300 (by omega)
 by_cases c:(((ptV v).1:Int)≤300∧1+(ptV v).2≤9)
 ·rw[h.1 c]; have:¬(300<(ptV v).1∨8<(ptV v).2):=by omega
  simp[this]
 ·rw[h.2 c]; have:(300<(ptV v).1∨8<(ptV v).2):=by omega
  simp[this]
def q8f:q0i:=
 .seq (.reg [⟨some 1,.box (.t 0),none⟩,Qx 2 (.k (.d .nil))]) (.seq (.reg [⟨some 3,.allo [.int .i64 0],none⟩,⟨none,.st 1 (.t 3) (Ki 300),none⟩]) (.seq (.seq (.reg [Q 4 (.ld 
 true 5 (.t 1)),⟨some 5,.prim .call [.k (.fn (.func 58) [] []),.t 4,.k (.d (.int .i64 1)),.t 3] [],none⟩,Q 6 (.not (.t 5))]) (.cond (.t 6) (.seq (.reg [Q 7 (.mkI 76 (Ki 
 2)),Qa 2 7]) .ret) .skip)) (.seq (.seq (.reg [Q 8 (.ld true 5 (.t 1)),⟨some 9,.call 59 [.t 8],none⟩,Q 10 (.not (.t 9))]) (.cond (.t 10) (.seq (.reg [Q 11 (.mkI 76 (Ki 3)), 
 Qa 2 11]) .ret) .skip)) (.seq (.reg [Qx 2 (.k (.d .nil))]) .ret))))
def q8l:List LRes:=[.tmp 2]
theorem z0k:q0r Tryz.prog 34 12 q8f q8l:=⟨_,_,Tryz.func34,rfl,by kernel_rfl,by kernel_rfl,rfl⟩
theorem z0L(v:Val)(hsm:v.sm 1048576=true):q0s Tryz.prog 34 [v.d] (fun r=>r=.one (errD (q6n v))):=by
 have h1:=j1G _ v (Nat.le_refl _) 1 300 (by omega) (by omega) (by omega) (by omega) hsm; have h2:=j1R _ v (Nat.le_refl _) hsm; rw[j5P]at h1; generalize(szV 1 v 300).2=q at h1; rw[Val.d_eq]at *; refine z0k.call rfl ?_; simp(maxSteps:=2000000)only[go_sem,↓reduceIte,q8f,q8l]; refine q0c.mc1 (.l 3) rfl (h1) rfl rfl rfl rfl ⟨rfl,rfl⟩ ?_; simp(maxSteps:=2000000)only[go_sem,↓reduceIte]; refine⟨fun c=>?_,fun c=>?_⟩
 ·simp only[q6n,if_pos c]; rfl
 ·refine q0g.of h2 ?_; simp(maxSteps:=2000000)only[go_sem,↓reduceIte]; simp only[q6n,if_neg c]; cases q7d v<;>simp[errD]
def q3j:q0i:=
 .seq (.reg [Qx 2 (Ki 0)]) (.seq (.seq (.reg [Qc 3 0,Q 4 (.bin .lss (.t 3) (Ki (-1000000000))),Qc 5 4,Qd 6 0 5 false,Qg 7 (.bin .gtr (.t 6) (Ki 1000000000)) 5 false,Q 8 (.pick 
 (.t 5) KT (.t 7))]) (.cond (.t 8) (.seq (.reg [Qx 2 (Ki 1)]) .ret) .skip)) (.seq (.reg [Qx 2 (Ki 0)]) .ret))
def q3m:List LRes:=[.tmp 2]
theorem q4U:q0r Tryz.prog 26 9 q3j q3m:=⟨_,_,Tryz.func26,rfl,by kernel_rfl,by kernel_rfl,rfl⟩
def fltI(n:Int):Int:=if Lim n then 0 else 1
theorem z2B(n:Int):q0s Tryz.prog 26 [.int .i64 n] (fun r=>r=.one (.int .i64 (fltI n))):=by
 refine q4U.call rfl ?_; simp(maxSteps:=2000000)only[go_sem,↓reduceIte,q3j,q3m]; unfold fltI
 by_cases h:Lim n
 ·rw[if_pos h]; unfold Lim at h; exact⟨fun a=>⟨fun b=>by omega,fun b=>rfl⟩,fun a=>by omega⟩
 ·rw[if_neg h]; unfold Lim at h; exact⟨fun a=>⟨fun b=>rfl,fun b=>by omega⟩,fun a=>rfl⟩
theorem j0b{n:Int}(h:Lim n):fltI n=0:=if_pos h
theorem j0a{n:Int}(h:¬ Lim n):fltI n=1:=if_neg h
def z4i:q0i:=
 .seq (.reg [Qx 4 (Ki 0),Qx 5 (.k (.d .nil))]) (.seq (.seq (.reg [Qc 7 0,⟨some 8,.call 78 [.t 7],none⟩,Q 9 (.eqN 0 true (.t 8)),Qc 10 9,Qd 11 1 10 false,⟨some 12,.call 78 
 [.t 11],some (10,false)⟩,Qg 13 (.eqN 0 true (.t 12)) 10 false,Q 14 (.pick (.t 10) KT (.t 13))]) (.cond (.t 14) (.seq (.reg [Q 15 (.mkI 76 (Ki 1)),Qx 4 (Ki 0),Qa 5 15]) 
 .ret) .skip)) (.seq (.reg [Qc 16 0,Qc 17 1,Q 18 (.bin .mul (.t 16) (.t 17)),⟨some 19,.call 115 [.t 18],none⟩,Qa 6 19]) (.seq (.reg [Qc 20 6,⟨some 21,.call 114 [.t 20], 
 none⟩,Q 22 (.ext 0 (.t 21)),Q 23 (.ext 1 (.t 21)),Qa 4 22,Qa 5 23]) .ret)))
def z4l:List LRes:=[.tmp 4,.tmp 5]
theorem z44:q0r Tryz.prog 120 24 z4i z4l:=⟨_,_,Tryz.func120,rfl,by kernel_rfl,by kernel_rfl,rfl⟩
def z4h:q0i:=
 .seq (.reg [Qx 4 (Ki 0),Qx 5 (.k (.d .nil))]) (.seq (.seq (.reg [Qc 6 0,⟨some 7,.call 78 [.t 6],none⟩,Q 8 (.eqN 0 true (.t 7)),Qc 9 8,Qd 10 1 9 false,⟨some 11,.call 78 [.t 
 10],some (9,false)⟩,Qg 12 (.eqN 0 true (.t 11)) 9 false,Q 13 (.pick (.t 9) KT (.t 12))]) (.cond (.t 13) (.seq (.reg [Q 14 (.mkI 76 (Ki 1)),Qx 4 (Ki 0),Qa 5 14]) .ret) 
 .skip)) (.seq (.reg [Qc 15 0,Qc 16 1,Q 17 (.bin .add (.t 15) (.t 16)),⟨some 18,.call 114 [.t 17],none⟩,Q 19 (.ext 0 (.t 18)),Q 20 (.ext 1 (.t 18)),Qa 4 19,Qa 5 20]) 
 .ret))
def z4k:List LRes:=[.tmp 4,.tmp 5]
theorem z43:q0r Tryz.prog 135 21 z4h z4k:=⟨_,_,Tryz.func135,rfl,by kernel_rfl,by kernel_rfl,rfl⟩
def mulF(a b:Int):Option Int:=if Lim a∧Lim b then okF (a*b / 1000)else none
def addF(a b:Int):Option Int:=if Lim a∧Lim b then okF (a+b)else none
theorem j21(a b:Int):q0s Tryz.prog 120 [.int .i64 a,.int .i64 b] (fun r=>r=intE (mulF a b)):=by
 refine z44.call rfl ?_; simp(maxSteps:=2000000)only[go_sem,↓reduceIte,z4i,z4l]; unfold mulF
 by_cases ha:Lim a
 ·refine q0g.of (q3R ha) ?_; simp(maxSteps:=2000000)only[go_sem,↓reduceIte]
  by_cases hb:Lim b
  ·refine q0g.of (q3R hb) ?_; rw[if_pos ⟨ha,hb⟩]; have b1:=j0L ha.1 ha.2 hb.1 hb.2; simp(maxSteps:=2000000)(disch:=omega)only[go_sem,↓reduceIte]; refine q0g.of (z2F (by unfold i64; omega)) ?_; simp(maxSteps:=2000000)only[go_sem,↓reduceIte,I]; refine q0g.of (z6C _) ?_; cases okF (a*b / 1000)<;>simp(maxSteps:=2000000)only[go_sem,↓reduceIte,intE,I,err]
  ·refine q0g.of (q2M hb) ?_; rw[if_neg (fun h=>hb h.2)]; simp(maxSteps:=2000000)only[go_sem,↓reduceIte,intE,I,err]
 ·refine q0g.of (q2M ha) ?_; rw[if_neg (fun h=>ha h.1)]; simp(maxSteps:=2000000)only[go_sem,↓reduceIte,intE,I,err]
theorem j12(a b:Int):q0s Tryz.prog 135 [.int .i64 a,.int .i64 b] (fun r=>r=intE (addF a b)):=by
 refine z43.call rfl ?_; simp(maxSteps:=2000000)only[go_sem,↓reduceIte,z4h,z4k]; unfold addF
 by_cases ha:Lim a
 ·refine q0g.of (q3R ha) ?_; simp(maxSteps:=2000000)only[go_sem,↓reduceIte]
  by_cases hb:Lim b
  ·refine q0g.of (q3R hb) ?_; rw[if_pos ⟨ha,hb⟩]; have w:IntKind.i64.wrap (a+b)=a+b:=IntWalk.i64_in _ (by unfold Lim at ha hb; omega); simp(maxSteps:=2000000)only[go_sem,↓reduceIte,w]; refine q0g.of (z6C _) ?_; cases okF (a+b)<;>simp(maxSteps:=2000000)only[go_sem,↓reduceIte,intE,I,err]
  ·refine q0g.of (q2M hb) ?_; rw[if_neg (fun h=>hb h.2)]; simp(maxSteps:=2000000)only[go_sem,↓reduceIte,intE,I,err]
 ·refine q0g.of (q2M ha) ?_; rw[if_neg (fun h=>ha h.1)]; simp(maxSteps:=2000000)only[go_sem,↓reduceIte,intE,I,err]
def eqB{α:Type}(p:α→α→Bool):List α→List α→Bool
 |[],[]=>true
 |x::r,y::s=>p x y&&eqB p r s
 |_,_=>false
def zeroV:Val:=.mk 0 0 [] [] []
def posV(nm:List UInt8):List Fld→Nat
 |[]=>0
 |x::r=>if Op.bytesLess x.name nm then posV nm r+1 else 0
def hasV(nm:List UInt8)(l:List Fld):Bool:=
 match l[posV nm l]? with
 |some x=>decide (x.name=nm)
 |none=>false
end Go.Av.Tryz
set_option linter.unusedVariables false
set_option linter.unusedSimpArgs false
namespace Go.Av.Tryz
open Go.Proofs Go.RowKit Go.Lib
section
variable {P:Program}
end
def setF(nm:List UInt8)(x:Val)(f:List Fld):List Fld:=if hasV nm f then f.set (posV nm f) (.mk nm x)else f.take (posV nm f)++.mk nm x::f.drop (posV nm f)
def setV(nm:List UInt8)(x v:Val):Val:=.mk v.kind v.n v.s v.l (setF nm x v.f)
theorem j6i(nm:List UInt8)(x:Val):(Fld.mk nm x).d=.agg [.str nm,.int .i64 x.kind,.int .i64 x.n,.str x.s,.list (q0K x.l),.list (q3w x.f)]:=by rw[Fld.d_eq]; rfl
theorem mk_d(k n:Int)(s:List UInt8)(l:List Val)(f:List Fld):(Val.mk k n s l f).d=.agg [.int .i64 k,.int .i64 n,.str s,.list (q0K l),.list (q3w f)]:=by rw[Val.d_eq]; rfl
mutual
def wtV(most:Int):Val→Int
 |.mk _ _ s l f=>wtF most f (wtL most l (IntKind.i64.wrap (1+(s.length:Int))))
def wtL(most:Int):List Val→Int→Int
 |[],n=>n
 |v::r,n=>if n≤most then wtL most r (IntKind.i64.wrap (n+wtV most v))else n
def wtF(most:Int):List Fld→Int→Int
 |[],n=>n
 |.mk nm v::r,n=>if n≤most then wtF most r (IntKind.i64.wrap (IntKind.i64.wrap (n+(nm.length:Int))+wtV most v))else n
end
theorem j7f(most:Int)(v:Val):wtV most v=wtF most v.f (wtL most v.l (IntKind.i64.wrap (1+(v.s.length:Int)))):=by cases v; simp only[wtV,Val.s,Val.l,Val.f]
theorem z4c(most:Int)(y:Fld)(r:List Fld)(n:Int):wtF most (y::r) n=if n≤most then wtF most r (IntKind.i64.wrap (IntKind.i64.wrap (n+(y.name.length:Int))+wtV most y.v))else n:=by cases y; simp only[wtF,Fld.name,Fld.v]
theorem j30{most n:Int}(h:¬ n≤most):∀ l,wtL most l n=n
 |[]=>by simp only[wtL]
 |v::r=>by simp only[wtL,if_neg h]
theorem z78{most n:Int}(h:¬ n≤most)(l:List Fld):wtF most l n=n:=by
 cases l with
 |nil=>simp only[wtF]
 |cons y r=>rw[z4c,if_neg h]
def q3N:q0i:=
 .seq (.reg [⟨some 2,.box (.t 0),none⟩,Qx 4 (Ki 0)]) (.seq (.reg [Q 8 (.fa 2 (.t 2)),Q 9 (.ld false 1 (.t 8)),Q 10 (.len true (.t 9)),Q 11 (.bin .add (Ki 1) (.t 10)),Qa 5 
 11]) (.seq (.seq (.reg [Qx 6 (Ki 0)]) (.block 0 (.loop (.seq (.seq (.reg [Qc 12 6,Q 13 (.fa 3 (.t 2)),Q 14 (.ld false 1 (.t 13)),Q 15 (.len false (.t 14)),Q 16 (.bin .lss (.t 
 12) (.t 15)),Qc 17 16,Qd 18 5 17 true,Qd 19 1 17 true,Qg 20 (.bin .leq (.t 18) (.t 19)) 17 true,Q 21 (.pick (.t 17) (.t 20) KF)]) (.cond (.t 21) .skip (.exit 0))) (.seq 
 (.block 1 (.reg [Qc 24 5,Q 25 (.fa 3 (.t 2)),Q 26 (.ld false 1 (.t 25)),Qc 27 6,Q 28 (.ia 5 (.t 26) (.t 27)),Q 29 (.ld true 5 (.t 28)),Qc 30 1,⟨some 31,.call 27 [.t 29, 
 .t 30],none⟩,Q 32 (.bin .add (.t 24) (.t 31)),Qa 5 32])) (.reg [Qc 22 6,Q 23 (.bin .add (.t 22) (Ki 1)),Qa 6 23])))))) (.seq (.seq (.reg [Qx 7 (Ki 0)]) (.block 2 (.loop 
 (.seq (.seq (.reg [Qc 33 7,Q 34 (.fa 4 (.t 2)),Q 35 (.ld false 1 (.t 34)),Q 36 (.len false (.t 35)),Q 37 (.bin .lss (.t 33) (.t 36)),Qc 38 37,Qd 39 5 38 true,Qd 40 1 38 
 true,Qg 41 (.bin .leq (.t 39) (.t 40)) 38 true,Q 42 (.pick (.t 38) (.t 41) KF)]) (.cond (.t 42) .skip (.exit 2))) (.seq (.block 3 (.dreg [Qc 45 5,Q 46 (.fa 4 (.t 2)),Q 47 
 (.ld false 1 (.t 46)),Qc 48 7,Q 49 (.ia 6 (.t 47) (.t 48)),Q 50 (.fa 0 (.t 49)),Q 51 (.ld false 1 (.t 50)),Q 52 (.len true (.t 51)),Q 53 (.bin .add (.t 45) (.t 52)),Q 54 
 (.fa 4 (.t 2)),Q 55 (.ld false 1 (.t 54)),Qc 56 7,Q 57 (.ia 6 (.t 55) (.t 56)),Q 58 (.fa 1 (.t 57)),Q 59 (.ld true 5 (.t 58)),Qc 60 1,⟨some 61,.call 27 [.t 59,.t 60], 
 none⟩,Q 62 (.bin .add (.t 53) (.t 61)),Qa 5 62])) (.reg [Qc 43 7,Q 44 (.bin .add (.t 43) (Ki 1)),Qa 7 44])))))) (.seq (.reg [Qc 63 5,Qa 4 63]) .ret))))
def q3P:List LRes:=[.tmp 4]
theorem q5r:q0r Tryz.prog 27 64 q3N q3P:=⟨_,_,Tryz.func27,rfl,by kernel_rfl,by kernel_rfl,rfl⟩
theorem z6Z:∀(m:Nat) (v:Val) (most:Int),SizeOf.sizeOf v≤m→v.sm 1048576=true→q0s Tryz.prog 27 [v.d,.int .i64 most] (fun r=>r=.one (.int .i64 (wtV most v))):=by
 intro m; induction m with
 |zero=>intro v most h; cases v; simp at h
 |succ m ih=>
  intro v most hv hsm; obtain⟨_,hll,hfl,hsl,hsf⟩:=Val.q68.1 hsm; have hvl:=q2f v.l; have hfl':=q6T v.f; generalize hR:wtV most v=R; rw[j7f]at hR; rw[Val.d_eq]; refine q5r.call rfl ?_; simp(maxSteps:=2000000)only[go_sem,↓reduceIte,q3N,q3P]; generalize IntKind.i64.wrap (1+(v.s.length:Int))=n0 at hR ⊢; refine q0l (fun y:Nat×Int=>⟨[(1,.d (.int .i64 most)),(2,.ptr (.l 2) 0),(5,.d (.int .i64 y.2)),(6,.d (.int .i64 y.1))],
    [(2,.cells [.d (.int .i64 v.kind),.d (.int .i64 v.n),.d (.str v.s),.d (.list (q0K v.l)),.d (.list (q3w v.f))])],[]⟩) (fun y=>y.1≤v.l.length∧wtF most v.f (wtL most (v.l.drop y.1) y.2)=R) (fun y=>v.l.length-y.1) (0,n0) ?_ ⟨by simp,hR⟩ ?_
  ·refine Weak.mk ?_ ?_ ?_<;>simp(maxSteps:=2000000)only[go_sem,↓reduceIte,Sub,Int.natCast_add,Int.natCast_mul]
  ·rintro⟨i,n⟩ ⟨hi,hF⟩; simp only at hi hF; simp(maxSteps:=2000000)only[go_sem,↓reduceIte,hvl]; refine⟨fun hlt=>⟨fun hle=>?_,fun hgt=>?_⟩,fun hge=>?_⟩
   ·obtain⟨x,hx⟩:=get_some (l:=v.l) (i:=i) (by omega); have hm:=List.mem_of_getElem? hx; have hc:=ih x most (by have:=j1H hm; omega) (hsl x hm); rw[Val.d_eq x]at hc; rw[q05 hx,wtL,if_pos hle]at hF; simp(maxSteps:=2000000)(disch:=omega)only[go_sem,↓reduceIte,q0a,q7b,hx,Val.d_eq]; first|refine q0g.of hc ?_|refine q5O.of hc ?_
    simp(maxSteps:=2000000)(disch:=omega)only[go_sem,↓reduceIte]; refine⟨(i+1,IntKind.i64.wrap (n+wtV most x)),?_,⟨by simp only; omega,hF⟩,by simp only; omega⟩; refine Weak.mk ?_ ?_ ?_<;>simp(maxSteps:=2000000)only[go_sem,↓reduceIte,Sub,Int.natCast_add,Int.natCast_mul,hvl]
   ·rw[j30 hgt]at hF; refine q0l (fun y:Nat×Int=>⟨[(1,.d (.int .i64 most)),(2,.ptr (.l 2) 0),(5,.d (.int .i64 y.2)),(7,.d (.int .i64 y.1))],
      [(2,.cells [.d (.int .i64 v.kind),.d (.int .i64 v.n),.d (.str v.s),.d (.list (q0K v.l)),.d (.list (q3w v.f))])],[]⟩) (fun y=>y.1≤v.f.length∧wtF most (v.f.drop y.1) y.2=R) (fun y=>v.f.length-y.1) (0,n) ?_ ⟨by simp,hF⟩ ?_
    ·refine Weak.mk ?_ ?_ ?_<;>simp(maxSteps:=2000000)only[go_sem,↓reduceIte,Sub,Int.natCast_add,Int.natCast_mul]
    ·rintro⟨j,n2⟩ ⟨hj,hG⟩; simp only at hj hG; simp(maxSteps:=2000000)only[go_sem,↓reduceIte,hfl']; refine⟨fun hlt2=>⟨fun hle2=>?_,fun hgt2=>?_⟩,fun hge2=>?_⟩
     ·obtain⟨y,hy⟩:=get_some (l:=v.f) (i:=j) (by omega); have hm:=List.mem_of_getElem? hy; have hc:=ih y.v most (by have:=z7S hm; omega) (Fld.q68.1 (hsf y hm)).2; rw[Val.d_eq y.v]at hc; rw[q05 hy,z4c,if_pos hle2]at hG; simp(maxSteps:=2000000)(disch:=omega)only[go_sem,↓reduceIte,q0a,q5e,hy,Fld.d_eq]; refine q5O.of hc ?_; simp(maxSteps:=2000000)(disch:=omega)only[go_sem,↓reduceIte,q0a,q5e,hy,Fld.d_eq]
      refine⟨(j+1,IntKind.i64.wrap (IntKind.i64.wrap (n2+(y.name.length:Int))+wtV most y.v)),?_,⟨by simp only; omega,hG⟩,by simp only; omega⟩; refine Weak.mk ?_ ?_ ?_<;>simp(maxSteps:=2000000)only[go_sem,↓reduceIte,Sub,Int.natCast_add,Int.natCast_mul]
     ·rw[z78 hgt2]at hG; rw[hG]
     ·rw[List.drop_eq_nil_of_le (by omega),wtF]at hG; rw[hG]
   ·rw[List.drop_eq_nil_of_le (by omega),wtL]at hF; refine q0l (fun y:Nat×Int=>⟨[(1,.d (.int .i64 most)),(2,.ptr (.l 2) 0),(5,.d (.int .i64 y.2)),(7,.d (.int .i64 y.1))],
      [(2,.cells [.d (.int .i64 v.kind),.d (.int .i64 v.n),.d (.str v.s),.d (.list (q0K v.l)),.d (.list (q3w v.f))])],[]⟩) (fun y=>y.1≤v.f.length∧wtF most (v.f.drop y.1) y.2=R) (fun y=>v.f.length-y.1) (0,n) ?_ ⟨by simp,hF⟩ ?_
    ·refine Weak.mk ?_ ?_ ?_<;>simp(maxSteps:=2000000)only[go_sem,↓reduceIte,Sub,Int.natCast_add,Int.natCast_mul]
    ·rintro⟨j,n2⟩ ⟨hj,hG⟩; simp only at hj hG; simp(maxSteps:=2000000)only[go_sem,↓reduceIte,hfl']; refine⟨fun hlt2=>⟨fun hle2=>?_,fun hgt2=>?_⟩,fun hge2=>?_⟩
     ·obtain⟨y,hy⟩:=get_some (l:=v.f) (i:=j) (by omega); have hm:=List.mem_of_getElem? hy; have hc:=ih y.v most (by have:=z7S hm; omega) (Fld.q68.1 (hsf y hm)).2; rw[Val.d_eq y.v]at hc; rw[q05 hy,z4c,if_pos hle2]at hG; simp(maxSteps:=2000000)(disch:=omega)only[go_sem,↓reduceIte,q0a,q5e,hy,Fld.d_eq]; refine q5O.of hc ?_; simp(maxSteps:=2000000)(disch:=omega)only[go_sem,↓reduceIte,q0a,q5e,hy,Fld.d_eq]
      refine⟨(j+1,IntKind.i64.wrap (IntKind.i64.wrap (n2+(y.name.length:Int))+wtV most y.v)),?_,⟨by simp only; omega,hG⟩,by simp only; omega⟩; refine Weak.mk ?_ ?_ ?_<;>simp(maxSteps:=2000000)only[go_sem,↓reduceIte,Sub,Int.natCast_add,Int.natCast_mul]
     ·rw[z78 hgt2]at hG; rw[hG]
     ·rw[List.drop_eq_nil_of_le (by omega),wtF]at hG; rw[hG]
def boxD(b:Int×Int×Int×Int):D:=.agg [I b.1,I b.2.1,I b.2.2.1,I b.2.2.2]
def ptsD(l:List (Int×Int)):List D:=l.map fun p=>pt p.1 p.2
theorem z6K(l:List (Int×Int)):(ptsD l).length=l.length:=by simp[ptsD]
theorem z7E(l:List (Int×Int))(j:Nat):(ptsD l)[j]?=(l[j]?).map fun p=>pt p.1 p.2:=by simp[ptsD]
def minI(a b:Int):Int:=if b<a then b else a
def maxI(a b:Int):Int:=if a<b then b else a
def q8A(b:Int×Int×Int×Int)(p:Int×Int):Int×Int×Int×Int:=(minI b.1 p.1,minI b.2.1 p.2,maxI b.2.2.1 p.1,maxI b.2.2.2 p.2)
def q12:List (Int×Int)→Int×Int×Int×Int
 |[]=>(0,0,0,0)
 |p::r=>r.foldl q8A (p.1,p.2,p.1,p.2)
def q9E:q0i:=
 .seq (.reg [⟨some 2,.allo [.int .i64 0,.int .i64 0,.int .i64 0,.int .i64 0],none⟩]) (.seq (.reg [⟨some 3,.allo [.int .i64 0,.int .i64 0,.int .i64 0,.int .i64 0],none⟩]) 
 (.seq (.seq (.reg [Qc 6 0,Q 7 (.len false (.t 6)),Q 8 (.cp (Ki 0))]) (.block 0 (.loop (.seq (.reg [Q 9 (.bin .lss (.t 8) (.t 7))]) (.seq (.cond (.t 9) .skip (.exit 0)) (.seq 
 (.block 1 (.seq (.reg [Qc 10 8,Q 11 (.ia 2 (.t 6) (.t 8)),Q 12 (.ld true 2 (.t 11)),⟨some 5,.allo [.int .i64 0,.int .i64 0],none⟩,Qa 4 10,⟨none,.st 2 (.t 5) (.t 12), 
 none⟩]) (.seq (.seq (.reg [Qc 13 4,Q 14 (.bin .eql (.t 13) (Ki 0))]) (.cond (.t 14) (.reg [Q 15 (.fa 0 (.t 5)),Q 16 (.ld false 1 (.t 15)),Q 17 (.fa 1 (.t 5)),Q 18 (.ld false 
 1 (.t 17)),Q 19 (.fa 0 (.t 5)),Q 20 (.ld false 1 (.t 19)),Q 21 (.fa 1 (.t 5)),Q 22 (.ld false 1 (.t 21)),Q 23 (.bld [(0,1),(1,1),(2,1),(3,1)] [.int .i64 0,.int .i64 
 0,.int .i64 0,.int .i64 0] [] [(0,.t 16),(1,.t 18),(2,.t 20),(3,.t 22)]),⟨none,.st 4 (.t 3) (.t 23),none⟩]) .skip)) (.reg [Q 24 (.fa 0 (.t 3)),Q 25 (.ld false 1 (.t 
 24)),Q 26 (.fa 0 (.t 5)),Q 27 (.ld false 1 (.t 26)),Q 28 (.mm false (.t 25) (.t 27)),Q 29 (.fa 1 (.t 3)),Q 30 (.ld false 1 (.t 29)),Q 31 (.fa 1 (.t 5)),Q 32 (.ld false 1 
 (.t 31)),Q 33 (.mm false (.t 30) (.t 32)),Q 34 (.fa 2 (.t 3)),Q 35 (.ld false 1 (.t 34)),Q 36 (.fa 0 (.t 5)),Q 37 (.ld false 1 (.t 36)),Q 38 (.mm true (.t 35) (.t 37)),Q 
 39 (.fa 3 (.t 3)),Q 40 (.ld false 1 (.t 39)),Q 41 (.fa 1 (.t 5)),Q 42 (.ld false 1 (.t 41)),Q 43 (.mm true (.t 40) (.t 42)),Q 44 (.bld [(0,1),(1,1),(2,1),(3,1)] [.int 
 .i64 0,.int .i64 0,.int .i64 0,.int .i64 0] [] [(0,.t 28),(1,.t 33),(2,.t 38),(3,.t 43)]),⟨none,.st 4 (.t 3) (.t 44),none⟩])))) (.reg [Q 45 (.bin .add (.t 8) (Ki 
 1)),Qc 8 45]))))))) (.seq (.reg [Q 46 (.ld true 4 (.t 3)),⟨none,.st 4 (.t 2) (.t 46),none⟩]) .ret)))
def q9M:List LRes:=[.cell 2 true 4]
theorem z1a:q0r Tryz.prog 118 47 q9E q9M:=⟨_,_,Tryz.func118,rfl,by kernel_rfl,by kernel_rfl,rfl⟩
theorem z5L(l:List (Int×Int))(hl:l.length≤100000):q0s Tryz.prog 118 [.list (ptsD l)] (fun r=>r=.one (boxD (q12 l))):=by
 refine z1a.call rfl ?_; have hI:((ptsD l).length:Int)=(l.length:Int):=by rw[z6K]
 simp(maxSteps:=2000000)only[go_sem,↓reduceIte,q9E,q9M,hI]; have hstep:∀(i:Nat) (p:Int×Int),0<i→l[i]?=some p→q12 (l.take (i+1))=q8A (q12 (l.take i)) p:=fun i p hi hp=>by
  rw[z5E hp]; cases hl2:l.take i with
  |nil=>
   have hlt:i<l.length:=(List.getElem?_eq_some_iff.1 hp).1; have:=congrArg List.length hl2; rw[List.length_take,List.length_nil]at this; omega
  |cons q r=>simp[q12,List.foldl_append]
 have hfirst:∀ p:Int×Int,q8A (p.1,p.2,p.1,p.2) p=(p.1,p.2,p.1,p.2):=fun p=>by simp[q8A,minI,maxI]
 refine q0l (fun i:Nat=>⟨[(0,.d (.list (ptsD l))),(2,.ptr (.l 2) 0),(3,.ptr (.l 3) 0),(6,.d (.list (ptsD l))),(7,.d (.int .i64 l.length)),(8,.d (.int .i64 i))],
   [(2,.cells [.d (I 0),.d (I 0),.d (I 0),.d (I 0)]),(3,.cells [.d (I (q12 (l.take i)).1),.d (I (q12 (l.take i)).2.1),.d (I (q12 (l.take i)).2.2.1),.d (I (q12 (l.take i)).2.2.2)])],[]⟩)
  (fun i=>i≤l.length) (fun i=>l.length-i) 0 ?_ ?_ ?_
 ·refine Weak.mk ?_ ?_ ?_<;>simp(maxSteps:=2000000)only[go_sem,↓reduceIte,Sub,Int.natCast_add,Int.natCast_mul,I,q12]
 ·omega
 ·intro i hi; simp(maxSteps:=2000000)only[go_sem,↓reduceIte,I]; refine⟨fun q1=>?_,fun q1=>?_⟩
  ·obtain⟨p,hp⟩:=get_some (l:=l) (i:=i) (by omega)
   by_cases hz:i=0
   ·subst hz; have h1:q12 (l.take (0+1))=q8A (p.1,p.2,p.1,p.2) p:=by
     rw[z5E hp,hfirst]; rfl
    have g0:getI (ptsD l) 0=some (pt p.1 p.2):=by
     show getI (ptsD l) ((0:Nat):Int)=_
     rw[q0a,z7E,hp]; rfl
    simp(maxSteps:=2000000)(disch:=omega)only[go_sem,↓reduceIte,g0,pt,I]; refine⟨1,?_,by omega,by omega⟩; rw[Nat.zero_add]at h1; refine Weak.mk ?_ ?_ ?_<;>simp(maxSteps:=2000000)only[go_sem,↓reduceIte,Sub,Int.natCast_add,Int.natCast_mul,I,h1,q8A,minI,maxI]
   ·have hz':¬(i:Int)=0:=by omega
    have h1:=hstep i p (by omega) hp; simp(maxSteps:=2000000)(disch:=omega)only[go_sem,↓reduceIte,q0a,z7E,hp,pt,I,hz']; refine⟨i+1,?_,by omega,by omega⟩; refine Weak.mk ?_ ?_ ?_<;>simp(maxSteps:=2000000)only[go_sem,↓reduceIte,Sub,Int.natCast_add,Int.natCast_mul,I,h1,q8A,minI,maxI]
  ·have hil:i=l.length:=by omega
   rw[hil,List.take_length]; simp(maxSteps:=2000000)only[go_sem,↓reduceIte,I,boxD]
open Go.Lib (decodeL decodeN decodeN_shape decodeL_N encodeRune encodeRuneZ decodeLastL validD)
def q3Z(r:Nat):Prop:=r<55296∨(57344≤r∧r≤1114111)
instance (r:Nat):Decidable (q3Z r):=by unfold q3Z; infer_instance
def enc(r:Nat):List UInt8:=encodeRune (r:Int)
def bad(l:List UInt8):Bool:=decide ((decodeL l).1=65533)&&decide ((decodeL l).2=1)
theorem z9t{l:List UInt8}:bad l=true↔(decodeL l).1=65533∧(decodeL l).2=1:=by simp[bad]
theorem z0N{l:List UInt8}(hne:l≠[]):1≤(decodeL l).2∧(decodeL l).2≤4∧(decodeL l).2≤l.length∧q3Z (decodeL l).1∧(bad l=false→l.take (decodeL l).2=enc (decodeL l).1):=by
 refine⟨?_,?_,Lib.decodeL_le l hne,?_,fun hb=>?_⟩
 ·have hl:0<l.length:=List.length_pos_iff.2 hne; rw[decodeL_N]; rcases decodeN_shape l.length (l.getD 0 0).toNat (l.getD 1 0).toNat (l.getD 2 0).toNat (l.getD 3 0).toNat with⟨c,e⟩|⟨c1,c2,c3,cv,e⟩|⟨c1,c2,c3,c4,cv,cs,e⟩|⟨c1,c2,c3,c4,c5,cv,cw,e⟩|e; all_goals(rw[e]; dsimp only; omega)
 ·rw[decodeL_N]; rcases decodeN_shape l.length (l.getD 0 0).toNat (l.getD 1 0).toNat (l.getD 2 0).toNat (l.getD 3 0).toNat with⟨c,e⟩|⟨c1,c2,c3,cv,e⟩|⟨c1,c2,c3,c4,cv,cs,e⟩|⟨c1,c2,c3,c4,c5,cv,cw,e⟩|e; all_goals(rw[e]; dsimp only; omega)
 ·have k1:=(l.getD 1 0).toNat_lt; rw[decodeL_N]; unfold q3Z; rcases decodeN_shape l.length (l.getD 0 0).toNat (l.getD 1 0).toNat (l.getD 2 0).toNat (l.getD 3 0).toNat with⟨c,e⟩|⟨c1,c2,c3,cv,e⟩|⟨c1,c2,c3,c4,cv,cs,e⟩|⟨c1,c2,c3,c4,c5,cv,cw,e⟩|e; all_goals(rw[e]; dsimp only; omega)
 ·exact(Lib.encode_decode l hne (fun h=>by rw[z9t.2 h]at hb; cases hb)).symm
/-! ### A text's signs -/
def q98:Nat→List UInt8→Option (List Nat)
 |0,_=>some []
 |f+1,l=>if l=[]then some []else if bad l=true then none else(q98 f (l.drop (decodeL l).2)).map ((decodeL l).1::·)
def q0Y(l:List UInt8):Option (List Nat):=q98 l.length l
theorem q7q:∀ f,q98 f []=some []
 |0=>rfl
 |f+1=>by simp[q98]
theorem z1B:∀(f g:Nat) (l:List UInt8),l.length≤f→l.length≤g→q98 f l=q98 g l
 |0,g,l,h,_=>by have:l=[]:=List.length_eq_zero_iff.1 (by omega); subst this; rw[q7q,q7q]
 |f+1,0,l,_,h=>by have:l=[]:=List.length_eq_zero_iff.1 (by omega); subst this; rw[q7q,q7q]
 |f+1,g+1,l,h1,h2=>by
  simp only[q98]
  by_cases hl:l=[]
  ·simp[hl]
  ·have:=(z0N hl).1; have:=List.length_pos_iff.2 hl; rw[z1B f g (l.drop (decodeL l).2) (by simp; omega) (by simp; omega)]
theorem z8O:q0Y []=some []:=rfl
theorem z1C{l:List UInt8}(hl:l≠[]):q0Y l=if bad l=true then none else(q0Y (l.drop (decodeL l).2)).map ((decodeL l).1::·):=by
 unfold q0Y; obtain⟨c,r,rfl⟩:∃ c r,l=c::r:=by cases l with|nil=>exact absurd rfl hl|cons c r=>exact⟨c,r,rfl⟩
 have h1:=(z0N hl).1; conv=>lhs; rw[List.length_cons,q98,if_neg hl]
 rw[z1B r.length _ (List.drop _ _) (by simp; omega) (Nat.le_refl _)]
def encM(rs:List Nat):List UInt8:=rs.flatMap enc
theorem q7r:∀(n:Nat) {l:List UInt8} {rs:List Nat},l.length≤n→q0Y l=some rs→encM rs=l∧∀ r∈rs,q3Z r
 |n,[],rs,_,h=>by cases h; exact⟨rfl,by simp⟩
 |0,c::l,rs,h,_=>by simp at h
 |n+1,c::l,rs,hn,h=>by
  have hne:c::l≠[]:=by simp
  rw[z1C hne]at h; obtain⟨f1,f2,f3,f4,f5⟩:=z0N hne; split at h
  ·cases h
  ·rename_i hb; obtain⟨rs',h1,rfl⟩:=Option.map_eq_some_iff.1 h; obtain⟨e1,e2⟩:=q7r n (by simp at hn ⊢; omega) h1; refine⟨?_,fun r hr=>?_⟩
   ·show enc _++encM rs'=_
    rw[e1,← f5 (by simpa using hb)]; exact List.take_append_drop _ _
   ·rcases List.mem_cons.1 hr with rfl|hr
    ·exact f4
    ·exact e2 r hr
/-! ### A sign's bytes, read -/
theorem q5U{r:Nat}(h:q3Z r):
  (r<128∧enc r=[UInt8.ofNat r])∨(128≤r∧r<2048∧enc r=[UInt8.ofNat (192+r / 64),UInt8.ofNat (128+r % 64)])∨
  (2048≤r∧r<65536∧enc r=[UInt8.ofNat (224+r / 4096),UInt8.ofNat (128+r / 64 % 64),UInt8.ofNat (128+r % 64)])∨
  (65536≤r∧r≤1114111∧enc r=[UInt8.ofNat (240+r / 262144),UInt8.ofNat (128+r / 4096 % 64),UInt8.ofNat (128+r / 64 % 64),UInt8.ofNat (128+r % 64)]):=by
 unfold q3Z at h; have t:∀(z:Int) (k:Nat),z=(k:Int)→z.toNat.toUInt8=UInt8.ofNat k:=fun z k e=>by rw[e]; rfl
 by_cases h1:r<128
 ·left; refine⟨h1,?_⟩
  unfold enc encodeRune; rw[Lib.encodeRuneZ_one (by omega) (by omega)]; simp only[List.map_cons,List.map_nil]; rw[t r r rfl]
 ·by_cases h2:r<2048
  ·right; left; refine⟨by omega,h2,?_⟩
   unfold enc encodeRune; rw[Lib.encodeRuneZ_two (by omega) (by omega)]; simp only[List.map_cons,List.map_nil]; rw[t (192+(r:Int) / 64) (192+r / 64) (by omega),t (128+(r:Int) % 64) (128+r % 64) (by omega)]
  ·by_cases h3:r<65536
   ·right; right; left; refine⟨by omega,h3,?_⟩
    unfold enc encodeRune; rw[Lib.encodeRuneZ_three (by omega)]; simp only[List.map_cons,List.map_nil]; rw[t (224+(r:Int) / 4096) (224+r / 4096) (by omega),t (128+(r:Int) / 64 % 64) (128+r / 64 % 64) (by omega),t (128+(r:Int) % 64) (128+r % 64) (by omega)]
   ·right; right; right; refine⟨by omega,by omega,?_⟩
    unfold enc encodeRune; rw[Lib.encodeRuneZ_four (by omega) (by omega)]; simp only[List.map_cons,List.map_nil]; rw[t (240+(r:Int) / 262144) (240+r / 262144) (by omega),t (128+(r:Int) / 4096 % 64) (128+r / 4096 % 64) (by omega),t (128+(r:Int) / 64 % 64) (128+r / 64 % 64) (by omega),t (128+(r:Int) % 64) (128+r % 64) (by omega)]
theorem ofNat_toNat{k:Nat}(h:k<256):(UInt8.ofNat k).toNat=k:=by simp[UInt8.toNat_ofNat']; omega
theorem z8e{r:Nat}(h:q3Z r)(t:List UInt8):decodeL (enc r++t)=(r,(enc r).length):=by
 rw[decodeL_N]; unfold q3Z at h; rcases q5U h with⟨a,e⟩|⟨a,b,e⟩|⟨a,b,e⟩|⟨a,b,e⟩; all_goals rw[e]
 ·simp only[List.cons_append,List.nil_append,List.getD_cons_zero,List.length_cons,List.length_nil]; rw[ofNat_toNat (by omega),decodeN,if_pos a]
 ·simp only[List.cons_append,List.nil_append,List.getD_cons_zero,List.getD_cons_succ,List.length_cons,List.length_nil]; rw[ofNat_toNat (by omega),ofNat_toNat (by omega),decodeN,if_neg (by omega),if_pos (by omega),if_pos (by omega)]; congr 1; omega
 ·simp only[List.cons_append,List.nil_append,List.getD_cons_zero,List.getD_cons_succ,List.length_cons,List.length_nil]; rw[ofNat_toNat (by omega),ofNat_toNat (by omega),ofNat_toNat (by omega),decodeN,if_neg (by omega),if_neg (by omega),if_pos (by omega),if_pos (by omega)]; congr 1; omega
 ·simp only[List.cons_append,List.nil_append,List.getD_cons_zero,List.getD_cons_succ,List.length_cons,List.length_nil]; rw[ofNat_toNat (by omega),ofNat_toNat (by omega),ofNat_toNat (by omega),ofNat_toNat (by omega),decodeN,if_neg (by omega),if_neg (by omega),if_neg (by omega),if_pos (by omega),if_pos (by omega)]; congr 1; omega
theorem z3c{r:Nat}(h:q3Z r):1≤(enc r).length∧(enc r).length≤4∧enc r≠[]:=by
 rcases q5U h with⟨a,e⟩|⟨a,b,e⟩|⟨a,b,e⟩|⟨a,b,e⟩<;>(rw[e]; simp)
theorem z16(t:List UInt8){c0 c1 c2 c3:UInt8}(h3:128≤c3.toNat)(h2:Lib.runeStartB c2=false)(h1:Lib.runeStartB c1=false)(h0:Lib.runeStartB c0=true)(hd:(decodeL [c0,c1,c2,c3]).2=4):decodeLastL (t++[c0,c1,c2,c3])=decodeL [c0,c1,c2,c3]:=by
 have g1:=Lib.getD_app_end t [c0,c1,c2,c3] 1 (by omega) (by simp); have g2:=Lib.getD_app_end t [c0,c1,c2,c3] 2 (by omega) (by simp); have g3:=Lib.getD_app_end t [c0,c1,c2,c3] 3 (by omega) (by simp); have g4:=Lib.getD_app_end t [c0,c1,c2,c3] 4 (by omega) (by simp); have hl:(t++[c0,c1,c2,c3]).length=t.length+4:=by simp
 have hs:Lib.lastStart (t++[c0,c1,c2,c3])=(t++[c0,c1,c2,c3]).length-4:=by
  unfold Lib.lastStart; simp only[g2,g3,g4]; rw[if_neg (by omega)]; simp only[List.length_cons,List.length_nil,List.getD_cons_succ,List.getD_cons_zero,Nat.reduceAdd,Nat.reduceSub,h2,h1,h0,Bool.false_eq_true,if_false,if_true]; rw[if_neg (by omega),if_neg (by omega)]
 have hdrop:=Lib.drop_app_end t [c0,c1,c2,c3]; unfold decodeLastL; rw[if_neg (by simp),g1,if_neg (by simp; omega),hs]; simp only[List.length_cons,List.length_nil]at hdrop; simp only[hdrop,hd]; rw[if_pos (by omega)]
theorem j2K{r:Nat}(h:q3Z r)(t:List UInt8):decodeLastL (t++enc r)=(r,(enc r).length):=by
 have hd:=z8e h []; rw[List.append_nil]at hd; have h':=h; unfold q3Z at h'; have st:∀ k,k<256→Lib.runeStartB (UInt8.ofNat k)=(k / 64 != 2):=fun k hk=>by unfold Lib.runeStartB; rw[ofNat_toNat hk]
 have nc:∀ k:Nat,128≤k→k<192→Lib.runeStartB (UInt8.ofNat k)=false:=by
  intro k h1 h2; have h3:k / 64=2:=by omega
  rw[st k (by omega),h3]; rfl
 have ns:∀ k:Nat,192≤k→k<256→Lib.runeStartB (UInt8.ofNat k)=true:=by
  intro k h1 h2; have h3:k / 64=3:=by omega
  rw[st k (by omega),h3]; rfl
 rcases q5U h with⟨a,e⟩|⟨a,b,e⟩|⟨a,b,e⟩|⟨a,b,e⟩
 ·have g1:=Lib.getD_app_end t [UInt8.ofNat r] 1 (by omega) (by simp); rw[e]; unfold decodeLastL; rw[if_neg (by simp),g1]; simp only[List.length_cons,List.length_nil,Nat.sub_self,List.getD_cons_zero,Nat.zero_add]; rw[if_pos (by rw[ofNat_toNat (by omega)]; exact a),ofNat_toNat (by omega)]
 ·rw[e]at hd ⊢; rw[Lib.last2 t _ _ (by rw[ofNat_toNat (by omega)]; omega) (ns _ (by omega) (by omega)) (by rw[hd]; rfl),hd]
 ·rw[e]at hd ⊢; rw[Lib.last3 t _ _ _ (by rw[ofNat_toNat (by omega)]; omega) (nc _ (by omega) (by omega)) (ns _ (by omega) (by omega)) (by rw[hd]; rfl),hd]
 ·rw[e]at hd ⊢; rw[z16 t (by rw[ofNat_toNat (by omega)]; omega) (nc _ (by omega) (by omega)) (nc _ (by omega) (by omega)) (ns _ (by omega) (by omega)) (by rw[hd]; rfl),hd]
theorem q9f{r:Nat}(h:q3Z r):(Utf8.encode (r:Int)).data.toList=enc r:=by
 have hv:Utf8.valid (r:Int)=true:=by unfold q3Z at h; simp[Utf8.valid]; omega
 unfold Utf8.encode; simp only[hv,if_true,Int.toNat_natCast]; unfold q3Z at h; rcases q5U h with⟨a,e⟩|⟨a,b,e⟩|⟨a,b,e⟩|⟨a,b,e⟩
 ·simp only[if_pos a,e]
 ·have a':¬ r<128:=by omega
  simp only[if_neg a',if_pos b,e]
 ·have a':¬ r<128:=by omega
  have b':¬ r<2048:=by omega
  simp only[if_neg a',if_neg b',if_pos b,e]
 ·have a':¬ r<128:=by omega
  have b':¬ r<2048:=by omega
  have c':¬ r<65536:=by omega
  simp only[if_neg a',if_neg b',if_neg c',e]
end Go.Av.Tryz
