import Derived.Test.YtgfdeebaihmkpaaGreatDoorAvG
import Derived.Test.YtgfdeebaihmkpaaGreatDoorAvH
import Derived.Test.YtgfdeebaihmkpaaGreatDoorProg
import Derived.Lib.LaidTab
import Derived.Lib.ItoaNum
import Derived.Shelf.Unicode.DecodeSlow
import Derived.IntWalk
import Derived.Test.YtgfdeebaihmkpaaGreatDoorAvF
import Derived.Lib.Bytealg
import Derived.Shelf.Strings.Builder1
import Derived.Lib.UnsafeStr
set_option linter.unusedSimpArgs false
set_option maxRecDepth 100000
set_option maxHeartbeats 8000000
namespace Go.Av.Tryz
open Go.Proofs
theorem j9P{P:Program}{name:String}{k:IntKind}{zs:List Int}{w:World}(h:Lib.TabIs P w name k zs)(b:Nat)(hb:P.globalNamed name=some b):b<w.heap.size:=by
 unfold Lib.TabIs World.var? at h;simp only[hb,Option.bind_some]at h;cases hc:w.heap[b]? with
 |none=>simp[hc]at h
 |some o=>exact(Zar.1 hc).1
theorem j67{P:Program}{name:String}{k:IntKind}{zs:List Int}{w w':World}(hk:∀b,P.globalNamed name=some b→w'.heap[b]?=w.heap[b]?)(h:Lib.TabIs P w name k zs):Lib.TabIs P w' name k zs:=by
 unfold Lib.TabIs World.var? at h ⊢;cases hg:P.globalNamed name with
 |none=>simp[hg]at h
 |some g=>
  simp only[hg,Option.bind_some]at h ⊢;rw[hk g hg];exact h
def j92(P:Program)(name:String)(w:World):Prop:=∀b,P.globalNamed name=some b→∃m:Int,w.cell? ⟨b,0,none⟩=some (.int .i64 m)
theorem j3s{w w':World}{b:Nat}(h:w'.heap[b]?=w.heap[b]?):w'.cell? ⟨b,0,none⟩=w.cell? ⟨b,0,none⟩:=by
 simp only[World.cell?,h]
theorem j7S{w:World}{b:Nat}{v:Value}(h:w.cell? ⟨b,0,none⟩=some v):b<w.heap.size:=by
 rcases Zbi b w.heap.size with h'|h'
 ·exact h'
 ·simp[World.cell?,Zcz h']at h
def x0b(P:Program)(name:String)(k:IntKind)(zs:List Int)(w:World):Prop:=∀b,P.globalNamed name=some b→Lib.TabIs P w name k zs
def u8At(P : Program)(w : World): Prop := ∀ g3 g4, P.globalNamed "unicode/utf8.first" = some g3 → P.globalNamed "unicode/utf8.acceptRanges" = some g4 → Lib.Utf8Tabs g3 g4 w
theorem j7e{g3 g4:Nat}{w w':World}(h3:w'.heap[g3]?=w.heap[g3]?)(h4:w'.heap[g4]?=w.heap[g4]?)(h:Lib.Utf8Tabs g3 g4 w):Lib.Utf8Tabs g3 g4 w':=by
 obtain⟨a,b⟩:=h;refine⟨fun c hc=>?_,fun i hi=>?_⟩
 ·have:=a c hc;simpa only[World.cell?,h3]using this
 ·have:=b i hi;simpa only[World.cell?,h4]using this
def j8S(P : Program)(b : Nat): Prop := P.globalNamed "unicode/utf8.first" = some b ∨ P.globalNamed "unicode/utf8.acceptRanges" = some b
theorem j9R{P : Program}{g3 g4 : Nat}{w : World}(h3 : P.globalNamed "unicode/utf8.first" = some g3)(h4 : P.globalNamed "unicode/utf8.acceptRanges" = some g4)(h : Lib.Utf8Tabs g3 g4 w): u8At P w ∧ ∀ b, j8S P b → b < w.heap.size := by
 have lt:∀(b o:Nat) (v:Value),w.cell? ⟨b,o,none⟩=some v→b<w.heap.size:=fun b o v hc=>by
  rcases Zbi b w.heap.size with h'|h'
  ·exact h'
  ·simp[World.cell?,Zcz h']at hc
 refine⟨fun a b ha hb=>?_,fun b hb=>?_⟩
 ·obtain rfl:=Option.some.inj (h3.symm.trans ha);obtain rfl:=Option.some.inj (h4.symm.trans hb);exact h
 ·obtain⟨q1,q2⟩:=h;rcases hb with hb|hb
  ·obtain rfl:=Option.some.inj (h3.symm.trans hb);exact lt _ _ _ (q1 0 (by decide))
  ·obtain rfl:=Option.some.inj (h4.symm.trans hb);exact lt _ _ _ (q2 0 (by decide)).1
instance : Inv Tryz.prog := ⟨fun _ w => x0b Tryz.prog "internal/strconv.uint64pow10" .u64 Lib.pow10Tab w ∧ j92 Tryz.prog "internal/bytealg.MaxLen" w ∧ (u8At Tryz.prog w ∧ ∀ b, j8S Tryz.prog b → b < w.heap.size),
 fun b => Tryz.prog.globalNamed "internal/strconv.uint64pow10" = some b ∨ Tryz.prog.globalNamed "internal/bytealg.MaxLen" = some b ∨ j8S Tryz.prog b,
 fun h b hb=>hb.elim (fun hb=>j9P (h.1 b hb) b hb) fun hb=>hb.elim (fun hb=>by obtain⟨m,hm⟩:=h.2.1 b hb;exact j7S hm) (h.2.2.2 b),
 fun{f w f' w'} hk h=>⟨fun b hb=>j67 (fun b hb=>(hk b (.inl hb)).1) (h.1 b hb),fun b hb=>by obtain⟨m,hm⟩:=h.2.1 b hb;exact⟨m,(j3s (hk b (.inr (.inl hb))).1).trans hm⟩,
  fun g3 g4 h3 h4=>j7e (hk g3 (.inr (.inr (.inl h3)))).1 (hk g4 (.inr (.inr (.inr h4)))).1 (h.2.2.1 g3 g4 h3 h4),fun b hb=>by
   have h1:=h.2.2.2 b hb;have h2:=(hk b (.inr (.inr hb))).1;rw[Zck h1]at h2;exact(Zar.1 h2).1⟩⟩
def errD(n:Nat):D:=if n=0 then .nil else .iface 49 (.int .i64 n)
theorem q0Q{n:Nat}(h:n≠0):errD n=.iface 49 (.int .i64 n):=by simp[errD,h]
def q2W:q0g:=
 Qr [Qx 4 KF] (.seq (Qr [Qc 7 0,Q 8 (.eqN 0 false (.t 7))] (.cond (.t 8) (Qr [Qc 9 1,Qk 10 .eql 9 0,Qa 4 10] .ret) .skip)) (Qr [Qc 12 0,Q 13 (.asT 49 (.int .i64 0) (.t 12)),Qc 
 11 13,Qe 14 0 11,Qe 15 1 11,Qa 5 14,Qa 6 15] (Qr [Qc 16 6,Qc 17 16,Qd 18 1 17 true,Qg 19 (.bin .gtr (.t 18) (Ki 0)) 17 true,Qp 20 17 19,Qc 21 20,Qd 22 5 21 true,Qd 23 
 1 21 true,Qg 24 (.bin .eql (.t 22) (.t 23)) 21 true,Qp 25 21 24,Qa 4 25] .ret)))
def q23:List LRes:=[.tmp 4]
theorem q7K:q0n Tryz.prog 8 26 q2W q23:=⟨_,_,Tryz.func8,rfl,by kernel_rfl,by kernel_rfl,rfl⟩
theorem q62(e f:Nat):q0i Tryz.prog 8 [errD e,.int .i64 f] (fun r=>r=.one (.bool (decide (e=f)))):=by
 refine q7K.call rfl ?_
 by_cases h:e=0
 ·subst h;have he:errD 0=.nil:=rfl;rw[he];simp(maxSteps:=2000000)only[go_sem,↓reduceIte,q2W,q23];congr 2
  have:((f:Int)=0)=(0=f):=by apply propext;omega
  simp only[this]
 ·rw[q0Q h];simp(maxSteps:=2000000)only[go_sem,↓reduceIte,q2W,q23];refine⟨fun _=>?_,fun q=>?_⟩
  ·congr 2
   simp only[Int.ofNat_inj]
  ·have:¬e=f:=by omega
   simp[this]
def z34(l:List Int):List D:=l.map fun n=>D.int .i64 n
theorem z8e(l:List Int):(z34 l).length=l.length:=by simp[z34]
theorem j38(l:List Int)(j:Nat):(z34 l)[j]?=(l[j]?).map fun n=>D.int .i64 n:=by simp[z34]
def q2K:q0g:=
 Qr [Qx 4 KF] (.seq (Qr [Qc 6 0,Qz 7 false 6,Qc 8 1,Qz 9 false 8,Qb 10 .neq 7 9] (.cond (.t 10) (Qr [Qx 4 KF] .ret) .skip)) (.seq (Qr [Qx 5 (Ki 0)] (.block 0 (.loop (.seq (Qr 
 [Qc 11 5,Qc 12 0,Qz 13 false 12,Qb 14 .lss 11 13] (.cond (.t 14) .skip (.exit 0))) (.seq (.block 1 (.seq (.dreg [Qc 17 0,Qc 18 5,Q 19 (.ia 1 (.t 17) (.t 18)),Ql 20 19,Qc 
 21 1,Qc 22 5,Q 23 (.ia 1 (.t 21) (.t 22)),Ql 24 23,Qb 25 .neq 20 24]) (.cond (.t 25) (Qr [Qx 4 KF] .ret) .skip))) (.reg [Qc 15 5,Qk 16 .add 15 1,Qa 5 16])))))) (Qr [Qx 4 
 KT] .ret)))
def q2N:List LRes:=[.tmp 4]
theorem q48:q0n Tryz.prog 23 26 q2K q2N:=⟨_,_,Tryz.func23,rfl,by kernel_rfl,by kernel_rfl,rfl⟩
theorem z3f(a:List Int)(h:a.length≤1000000000):q0i Tryz.prog 23 [.list (z34 a),.list (z34 a)] (fun r=>r=.one (.bool true)):=by
 refine q48.call rfl ?_;have hI:((z34 a).length:Int)=(a.length:Int):=by rw[z8e]
 simp(maxSteps:=2000000)only[go_sem,↓reduceIte,q2K,q2N,hI];refine q0f (fun i:Nat=>⟨[(0,.d (.list (z34 a))),(1,.d (.list (z34 a))),(5,.d (.int .i64 i))],[],[]⟩)
  (fun i=>i≤a.length) (fun i=>a.length-i) 0 ?_ ?_ ?_
 ·refine q0d ?_ trivial;simp(maxSteps:=2000000)only[go_sem,↓reduceIte,Sub,Zaa,Zab]
 ·omega
 ·intro i hi;simp(maxSteps:=2000000)only[go_sem,↓reduceIte,hI];intro q;obtain⟨x,hx⟩:=get_some (l:=a) (i:=i) (by omega);simp(maxSteps:=2000000)(disch:=omega)only[go_sem,↓reduceIte,q0a,j38,hx];refine⟨i+1,?_,by omega,by omega⟩;refine q0d ?_ trivial;simp(maxSteps:=2000000)only[go_sem,↓reduceIte,Sub,Zaa,Zab]
def z0X:q0g:=
 Qr [Qx 2 KF] (Qr [Qc 3 0,Q 4 (.bin .eql (.t 3) (Kb 0)),Qc 5 4,Qd 6 0 5 false,Qg 7 (.bin .eql (.t 6) (Kb 9)) 5 false,Qo 8 5 7,Qc 9 8,Qd 10 0 9 false,Qg 11 (.bin .eql (.t 10) 
 (Kb 10)) 9 false,Qo 12 9 11,Qc 13 12,Qd 14 0 13 false,Qg 15 (.bin .eql (.t 14) (Kb 12)) 13 false,Qo 16 13 15,Qc 17 16,Qd 18 0 17 false,Qg 19 (.bin .eql (.t 18) (Kb 13)) 
 17 false,Qo 20 17 19,Qc 21 20,Qd 22 0 21 false,Qg 23 (.bin .eql (.t 22) (Kb 32)) 21 false,Qo 24 21 23,Qa 2 24] .ret)
def z03:List LRes:=[.tmp 2]
theorem z2Z:q0n Tryz.prog 60 25 z0X z03:=⟨_,_,Tryz.func60,rfl,by kernel_rfl,by kernel_rfl,rfl⟩
def z3B:q0g:=
 Qr [Qx 2 (Ki 0)] (.seq (.block 0 (Qr [Qc 4 0,Q 5 (.bin .geq (.t 4) (Kb 48)),Qc 6 5,Qd 7 0 6 true,Qg 8 (.bin .leq (.t 7) (Kb 57)) 6 true,Qp 9 6 8,Qa 3 9] (.cond (.t 3) (Qr [Qc 
 10 0,Q 11 (.bin .sub (.t 10) (Kb 48)),Q 12 (.cvI .i64 (.t 11)),Qa 2 12] .ret) (Qr [Qc 14 0,Q 15 (.bin .geq (.t 14) (Kb 97)),Qc 16 15,Qd 17 0 16 true,Qg 18 (.bin .leq (.t 
 17) (Kb 102)) 16 true,Qp 19 16 18,Qa 13 19] (.cond (.t 13) (Qr [Qc 20 0,Q 21 (.bin .sub (.t 20) (Kb 97)),Q 22 (.cvI .i64 (.t 21)),Qk 23 .add 22 10,Qa 2 23] .ret) (Qr [Qc 25 
 0,Q 26 (.bin .geq (.t 25) (Kb 65)),Qc 27 26,Qd 28 0 27 true,Qg 29 (.bin .leq (.t 28) (Kb 70)) 27 true,Qp 30 27 29,Qa 24 30] (.cond (.t 24) (Qr [Qc 31 0,Q 32 (.bin .sub (.t 
 31) (Kb 65)),Q 33 (.cvI .i64 (.t 32)),Qk 34 .add 33 10,Qa 2 34] .ret) .skip))))))) (Qr [Qx 2 (Ki (-1))] .ret))
def z3I:List LRes:=[.tmp 2]
theorem z5n:q0n Tryz.prog 132 35 z3B z3I:=⟨_,_,Tryz.func132,rfl,by kernel_rfl,by kernel_rfl,rfl⟩
def q4m(n:Int):Bool:=decide (n=0) || (decide (n=9) || (decide (n=10) || (decide (n=12) || (decide (n=13) || decide (n=32)))))
def hexI(n:Int):Int:=if 48≤n∧n≤57 then n-48 else if 97≤n∧n≤102 then n-87 else if 65≤n∧n≤70 then n-55 else -1
theorem q7A(n:Int):q0i Tryz.prog 60 [.int .u8 n] (fun r=>r=.one (.bool (q4m n))):=by
 refine z2Z.call rfl ?_;simp(maxSteps:=2000000)only[go_sem,↓reduceIte,z0X,z03];unfold q4m;simp +contextual
theorem q9C{n:Int}(h:0≤n∧n<256):q0i Tryz.prog 132 [.int .u8 n] (fun r=>r=.one (.int .i64 (hexI n))):=by
 refine z5n.call rfl ?_;simp(maxSteps:=2000000)only[go_sem,↓reduceIte,z3B,z3I];unfold hexI;repeat' (first|apply And.intro|intro _)
 all_goals
  congr 2
  try simp only[IntKind.wrap_i64,IntKind.wrap_u8]
  (repeat' split)<;>omega
def q1i:List UInt8→Int→List UInt8→List UInt8×Nat
 |[],_,_=>([],5)
 |c::r,h,b=>
  if c.toNat=62 then(if 0≤h then b++[q46 (16*h)]else b,0)
  else if q4m c.toNat=true then q1i r h b
  else if hexI c.toNat<0 then([],4)
  else if h<0 then q1i r (hexI c.toNat) b
  else q1i r (-1) (b++[q46 (16*h+hexI c.toNat)])
theorem q3F(n:Int): -1≤hexI n∧hexI n≤15:=by
 unfold hexI;(repeat' split)<;>omega
def q4J:q0g:=
 Qr [Qx 2 KF] (Qr [Qc 3 0,Q 4 (.bin .eql (.t 3) (Kb 0)),Qc 5 4,Qd 6 0 5 false,Qg 7 (.bin .eql (.t 6) (Kb 9)) 5 false,Qo 8 5 7,Qc 9 8,Qd 10 0 9 false,Qg 11 (.bin .eql (.t 10) 
 (Kb 10)) 9 false,Qo 12 9 11,Qc 13 12,Qd 14 0 13 false,Qg 15 (.bin .eql (.t 14) (Kb 12)) 13 false,Qo 16 13 15,Qc 17 16,Qd 18 0 17 false,Qg 19 (.bin .eql (.t 18) (Kb 13)) 
 17 false,Qo 20 17 19,Qc 21 20,Qd 22 0 21 false,Qg 23 (.bin .eql (.t 22) (Kb 32)) 21 false,Qo 24 21 23,Qa 2 24] .ret)
def q4Y:List LRes:=[.tmp 2]
theorem q7g:q0n Tryz.prog 68 25 q4J q4Y:=⟨_,_,Tryz.func68,rfl,by kernel_rfl,by kernel_rfl,rfl⟩
theorem q8o(n:Int):q0i Tryz.prog 68 [.int .u8 n] (fun r=>r=.one (.bool (q4m n))):=by
 refine q7g.call rfl ?_;simp(maxSteps:=2000000)only[go_sem,↓reduceIte,q4J,q4Y];unfold q4m;simp +contextual
def q2J:List UInt8:=[48,49,50,51,52,53,54,55,56,57,65,66,67,68,69,70]
theorem tabv:∀i:Fin 16,(q2J.getD i.val 0).toNat=if i.val<10 then 48+i.val else 55+i.val:=by decide
theorem j68{i:Nat}(h:i<16):(q2J.getD i 0).toNat=if i<10 then 48+i else 55+i:=tabv ⟨i,h⟩
def q4K:q0g:=
 Qr [Qx 2 (Ki 0)] (.seq (Qr [Qc 4 0,Q 5 (.bin .geq (.t 4) (Kb 97)),Qc 6 5,Qd 7 0 6 true,Qg 8 (.bin .leq (.t 7) (Kb 102)) 6 true,Qp 9 6 8] (.cond (.t 9) (.reg [Qc 10 0,Q 11 
 (.bin .sub (.t 10) (Kb 32)),Qa 0 11]) .skip)) (.seq (Qr [Qx 3 (Ki 0)] (.block 0 (.loop (.seq (Qr [Qc 12 3,Qk 13 .lss 12 16] (.cond (.t 13) .skip (.exit 0))) (.seq (.block 1 (Qr 
 [Qc 16 3,Q 17 (.idxS (.k (.d (.str [48,49,50,51,52,53,54,55,56,57,65,66,67,68,69,70]))) (.t 16)),Qc 18 0,Qb 19 .eql 17 18] (.cond (.t 19) (Qr [Qc 20 3,Qa 2 20] 
 .ret) .skip))) (.reg [Qc 14 3,Qk 15 .add 14 1,Qa 3 15])))))) (Qr [Qx 2 (Ki (-1))] .ret)))
def q4Z:List LRes:=[.tmp 2]
theorem q7h:q0n Tryz.prog 140 21 q4K q4Z:=⟨_,_,Tryz.func140,rfl,by kernel_rfl,by kernel_rfl,rfl⟩
theorem z1Z(c:Nat)(h:c<256):q0i Tryz.prog 140 [.int .u8 c] (fun r=>r=.one (.int .i64 (hexI c))):=by
 refine q7h.call rfl ?_;have ht:([48,49,50,51,52,53,54,55,56,57,65,66,67,68,69,70]:List UInt8)=q2J:=rfl;have htl:q2J.length=16:=rfl;simp(maxSteps:=2000000)(disch:=omega)only[go_sem,↓reduceIte,q4K,q4Z];have fin:∀i d:Nat,i<16→d=(if 97≤c∧c≤102 then c-32 else c)→(q2J.getD i 0).toNat=d→hexI c=i:=fun i d hi hd ht=>by
  rw[j68 hi]at ht;unfold hexI;subst hd
  (repeat' split at ht)<;>(repeat' split)<;>omega
 have fin2:∀d:Nat,d=(if 97≤c∧c≤102 then c-32 else c)→(∀j,j<16→(q2J.getD j 0).toNat≠d)→hexI c = -1:=fun d hd hj=>by
  unfold hexI;split
  ·have:=hj (c-48) (by omega);rw[j68 (by omega)]at this;subst hd;split at this<;>split at this<;>omega
  ·split
   ·have:=hj (c-87) (by omega);rw[j68 (by omega)]at this;subst hd;split at this<;>split at this<;>omega
   ·split
    ·have:=hj (c-55) (by omega);rw[j68 (by omega)]at this;subst hd;split at this<;>split at this<;>omega
    ·rfl
 refine⟨fun a1=>⟨fun a2=>?_,fun a2=>?_⟩,fun a1=>?_⟩
 ·rw[show IntKind.u8.wrap ((c:Int)-32)=((c-32:Nat):Int) by rw[IntWalk.u8_in _ (by omega)];omega];have hd:(c-32)=(if 97≤c∧c≤102 then c-32 else c):=by split<;>omega
  refine q0f (fun i:Nat=>⟨[(0,.d (.int .u8 ((c-32):Nat))),(3,.d (.int .i64 i))],[],[]⟩)
   (fun i=>i≤16∧∀j,j<i→(q2J.getD j 0).toNat≠(c-32)) (fun i=>16-i) 0 ?_ ?_ ?_
  ·refine q0d ?_ trivial;simp(maxSteps:=2000000)only[go_sem,↓reduceIte,Sub,Zaa,Zab]
  ·exact⟨by omega,fun j hj=>by omega⟩
  ·rintro i ⟨hi,hj⟩;simp(maxSteps:=2000000)only[go_sem,↓reduceIte];refine⟨fun q1=>?_,fun q1=>?_⟩
   ·have hg:q2J[i]?=some (q2J.getD i 0):=by
     have:i<q2J.length:=by omega
     simp[List.getD_eq_getElem?_getD,this]
    simp(maxSteps:=2000000)(disch:=omega)only[go_sem,↓reduceIte,ht,q0a,hg,Int.ofNat_inj];refine⟨fun q2=>?_,fun q2=>⟨i+1,?_,⟨by omega,fun j hj1=>?_⟩,by omega⟩⟩
    ·rw[fin i _ (by omega) hd q2]
    ·refine q0d ?_ trivial;simp(maxSteps:=2000000)only[go_sem,↓reduceIte,Sub,Zaa,Zab]
    ·rcases Zbi j i with h1|h1
     ·exact hj j h1
     ·have:j=i:=by omega
      subst this;exact q2
   ·have hi16:i=16:=by omega
    rw[fin2 _ hd (fun j hj1=>hj j (by omega))]
 ·skip
  have hd:c=(if 97≤c∧c≤102 then c-32 else c):=by split<;>omega
  refine q0f (fun i:Nat=>⟨[(0,.d (.int .u8 (c:Nat))),(3,.d (.int .i64 i))],[],[]⟩)
   (fun i=>i≤16∧∀j,j<i→(q2J.getD j 0).toNat≠c) (fun i=>16-i) 0 ?_ ?_ ?_
  ·refine q0d ?_ trivial;simp(maxSteps:=2000000)only[go_sem,↓reduceIte,Sub,Zaa,Zab]
  ·exact⟨by omega,fun j hj=>by omega⟩
  ·rintro i ⟨hi,hj⟩;simp(maxSteps:=2000000)only[go_sem,↓reduceIte];refine⟨fun q1=>?_,fun q1=>?_⟩
   ·have hg:q2J[i]?=some (q2J.getD i 0):=by
     have:i<q2J.length:=by omega
     simp[List.getD_eq_getElem?_getD,this]
    simp(maxSteps:=2000000)(disch:=omega)only[go_sem,↓reduceIte,ht,q0a,hg,Int.ofNat_inj];refine⟨fun q2=>?_,fun q2=>⟨i+1,?_,⟨by omega,fun j hj1=>?_⟩,by omega⟩⟩
    ·rw[fin i _ (by omega) hd q2]
    ·refine q0d ?_ trivial;simp(maxSteps:=2000000)only[go_sem,↓reduceIte,Sub,Zaa,Zab]
    ·rcases Zbi j i with h1|h1
     ·exact hj j h1
     ·have:j=i:=by omega
      subst this;exact q2
   ·have hi16:i=16:=by omega
    rw[fin2 _ hd (fun j hj1=>hj j (by omega))]
 ·skip
  have hd:c=(if 97≤c∧c≤102 then c-32 else c):=by split<;>omega
  refine q0f (fun i:Nat=>⟨[(0,.d (.int .u8 (c:Nat))),(3,.d (.int .i64 i))],[],[]⟩)
   (fun i=>i≤16∧∀j,j<i→(q2J.getD j 0).toNat≠c) (fun i=>16-i) 0 ?_ ?_ ?_
  ·refine q0d ?_ trivial;simp(maxSteps:=2000000)only[go_sem,↓reduceIte,Sub,Zaa,Zab]
  ·exact⟨by omega,fun j hj=>by omega⟩
  ·rintro i ⟨hi,hj⟩;simp(maxSteps:=2000000)only[go_sem,↓reduceIte];refine⟨fun q1=>?_,fun q1=>?_⟩
   ·have hg:q2J[i]?=some (q2J.getD i 0):=by
     have:i<q2J.length:=by omega
     simp[List.getD_eq_getElem?_getD,this]
    simp(maxSteps:=2000000)(disch:=omega)only[go_sem,↓reduceIte,ht,q0a,hg,Int.ofNat_inj];refine⟨fun q2=>?_,fun q2=>⟨i+1,?_,⟨by omega,fun j hj1=>?_⟩,by omega⟩⟩
    ·rw[fin i _ (by omega) hd q2]
    ·refine q0d ?_ trivial;simp(maxSteps:=2000000)only[go_sem,↓reduceIte,Sub,Zaa,Zab]
    ·rcases Zbi j i with h1|h1
     ·exact hj j h1
     ·have:j=i:=by omega
      subst this;exact q2
   ·have hi16:i=16:=by omega
    rw[fin2 _ hd (fun j hj1=>hj j (by omega))]
def q4M:q0g:=
 Qr [Qx 4 (.k (.d (.str []))),Qx 5 (Ki 0),Qx 6 (Ki 0)] (Qr [⟨some 7,.nils 5 1,none⟩] (Qr [Qx 8 (Ki 0)] (Qr [Qx 9 (Ki 0)] (.seq (.block 0 (.loop (.seq (Qr [Qc 11 1,Qc 12 0,Qz 
 13 true 12,Qb 14 .lss 11 13] (.cond (.t 14) .skip (.exit 0))) (.seq (.block 1 (.seq (Qr [Qc 17 0,Qc 18 1,Q 19 (.idxS (.t 17) (.t 18)),Q 20 (.bin .eql (.t 19) (Kb 62))] (.cond 
 (.t 20) (.seq (Qr [Qc 21 8,Qk 22 .rem 21 2,Qk 23 .eql 22 1] (.cond (.t 23) (.reg [Qc 24 7,Qc 25 9,Q 26 (.bin .mul (Ki 16) (.t 25)),Q 27 (.cvI .u8 (.t 26)),⟨some 28,.bsl 5 
 1 [.t 27],none⟩,⟨some 29,.app 5 1 1 false (.t 24) (.t 28),none⟩,Qa 7 29]) .skip)) (Qr [Qc 30 7,Q 31 (.b2s (.t 30)),Qc 32 1,Qk 33 .add 32 1,Qa 4 31,Qa 5 33,Qx 6 (Ki 0)] 
 .ret)) .skip)) (.seq (Qr [Qc 34 0,Qc 35 1,Q 36 (.idxS (.t 34) (.t 35)),Qj 37 68 [36]] (.cond (.t 37) (.exit 1) .skip)) (Qr [Qc 38 0,Qc 39 1,Q 40 (.idxS (.t 38) (.t 39)),Qj 
 41 140 [40],Qa 10 41] (.seq (Qr [Qc 42 10,Qk 43 .lss 42 0] (.cond (.t 43) (Qr [Qx 4 (.k (.d (.str []))),Qx 5 (Ki 0),Qx 6 (Ki 4)] .ret) .skip)) (.seq (Qr [Qc 44 8,Qk 45 .rem 
 44 2,Qk 46 .eql 45 1] (.cond (.t 46) (.reg [Qc 47 7,Qc 48 9,Q 49 (.bin .mul (Ki 16) (.t 48)),Qc 50 10,Qb 51 .add 49 50,Q 52 (.cvI .u8 (.t 51)),⟨some 53,.bsl 5 1 [.t 52], 
 none⟩,⟨some 54,.app 5 1 1 false (.t 47) (.t 53),none⟩,Qa 7 54]) .skip)) (Qr [Qc 55 10,Qa 9 55] (.reg [Qc 56 8,Qk 57 .add 56 1,Qa 8 57])))))))) (.reg [Qc 15 1,Qk 16 .add 
 15 1,Qa 1 16]))))) (Qr [Qx 4 (.k (.d (.str []))),Qx 5 (Ki 0),Qx 6 (Ki 5)] .ret)))))
def q41:List LRes:=[.tmp 4,.tmp 5,.tmp 6]
theorem q7k:q0n Tryz.prog 98 58 q4M q41:=⟨_,_,Tryz.func98,rfl,by kernel_rfl,by kernel_rfl,rfl⟩
def q89:List UInt8→Nat
 |[]=>0
 |c::r=>if c.toNat=62 then 1 else q89 r+1
theorem z4M(s:List UInt8)(at_:Nat)(hs:s.length≤1000000000)(ha:at_≤s.length):q0i Tryz.prog 98 [.str s,.int .i64 at_] (fun r=>r=.tup [.str (q1i (s.drop at_) (-1) []).1,
  .int .i64 (if(q1i (s.drop at_) (-1) []).2=0 then at_+q89 (s.drop at_)else 0:Nat),.int .i64 (q1i (s.drop at_) (-1) []).2]):=by
 refine q7k.call rfl ?_;generalize hR:q1i (s.drop at_) (-1) []=R;generalize hE:at_+q89 (s.drop at_)=E;simp(maxSteps:=2000000)only[go_sem,↓reduceIte,q4M,q41];refine q0f (fun y:Nat×List UInt8×Nat×Nat=>⟨[(0,.d (.str s)),(1,.d (.int .i64 y.1)),(7,.own (.t 7) 5 1 (q0v y.2.1)),(8,.d (.int .i64 y.2.2.1)),(9,.d (.int .i64 y.2.2.2))],[],[]⟩)
  (fun y=>y.1≤s.length∧y.2.1.length≤y.1∧y.2.2.1≤y.1∧y.2.2.2≤15∧y.1+q89 (s.drop y.1)=E∧q1i (s.drop y.1) (if y.2.2.1 % 2=1 then y.2.2.2 else -1) y.2.1=R) (fun y=>s.length-y.1) (at_,[],0,0) ?_ ?_ ?_
 ·refine q0d ?_ trivial;simp(maxSteps:=2000000)only[go_sem,↓reduceIte,Sub,Zaa,Zab,q0v]
 ·exact⟨by simpa using ha,by simp,by simp,by simp,by simpa using hE,by simpa using hR⟩
 ·rintro⟨i,b,n,x⟩ ⟨hi,hb,hn,hx,hE',hF⟩;simp only at hi hb hn hx hE' hF;have hblen:=q0o b;have hm:∀n:Nat,Int.tmod (n:Int) 2=((n % 2:Nat):Int):=fun n=>rfl
  simp(maxSteps:=2000000)only[go_sem,↓reduceIte];refine⟨fun hlt=>?_,fun hge=>?_⟩
  ·obtain⟨c,hc⟩:=get_some (l:=s) (i:=i) (by omega);have hc8:=q1Q c;have hxx:=q3F c.toNat;rw[drop_cons hc]at hF hE';unfold q1i at hF;unfold q89 at hE';rw[q0a,hc]
   by_cases e1:c.toNat=62
   ·have e1':((c.toNat:Int)=62):=by omega
    rw[if_pos e1]at hF hE'
    by_cases e2:n % 2=1
    ·rw[if_pos e2,if_pos (by omega)]at hF;subst hF;have e2':((n % 2:Nat):Int)=1:=by omega
     simp(maxSteps:=2000000)(disch:=omega)only[go_sem,↓reduceIte,hm,e1',e2',q1Z (b:=b) (n:=16*(x:Int)) (by omega) (by omega),q0q,←hE',Zaa];omega
    ·rw[if_neg e2,if_neg (by omega)]at hF;subst hF;have e2':¬((n % 2:Nat):Int)=1:=by omega
     simp(maxSteps:=2000000)(disch:=omega)only[go_sem,↓reduceIte,hm,e1',e2',q0q,←hE',Zaa]
   ·have e1':¬((c.toNat:Int)=62):=by omega
    rw[if_neg e1]at hF hE';simp(maxSteps:=2000000)(disch:=omega)only[go_sem,↓reduceIte,hm,e1',q0a,hc];refine q0c.of (q8o _) ?_
    by_cases e3:q4m c.toNat=true
    ·rw[if_pos e3]at hF;simp(maxSteps:=2000000)(disch:=omega)only[go_sem,↓reduceIte,e3];refine⟨(i+1,b,n,x),?_,⟨by simp only;omega,by simp only;omega,by simp only;omega,hx,by simp only;omega,hF⟩,by simp only;omega⟩;refine q0d ?_ trivial;simp(maxSteps:=2000000)only[go_sem,↓reduceIte,Sub,Zaa,Zab]
    ·rw[if_neg e3]at hF;have e3':q4m c.toNat=false:=by simpa using e3
     simp(maxSteps:=2000000)(disch:=omega)only[go_sem,↓reduceIte,e3',q0a,hc];refine q0c.of (z1Z c.toNat (by omega)) ?_
     by_cases e4:hexI c.toNat<0
     ·rw[if_pos e4]at hF;subst hF;simp(maxSteps:=2000000)(disch:=omega)only[go_sem,↓reduceIte,e4]
     ·rw[if_neg e4]at hF;obtain⟨h,hh⟩:∃h:Nat,hexI c.toNat=h:=⟨(hexI c.toNat).toNat,by omega⟩;rw[hh]at hF e4 hxx ⊢
      by_cases e2:n % 2=1
      ·rw[if_pos e2,if_neg (by omega)]at hF;have e2':((n % 2:Nat):Int)=1:=by omega
       simp(maxSteps:=2000000)(disch:=omega)only[go_sem,↓reduceIte,hm,e4,e2',q1Z (b:=b) (n:=16*(x:Int)+(h:Int)) (by omega) (by omega)];refine⟨by omega,(i+1,b++[q46 (16*(x:Int)+(h:Int))],n+1,h),?_,⟨by simp only;omega,by simp only[Zad,Zae,Zag];omega,by simp only;omega,by simp only;omega,by simp only;omega,?_⟩,by simp only;omega⟩
       ·refine q0d ?_ trivial;simp(maxSteps:=2000000)only[go_sem,↓reduceIte,Sub,Zaa,Zab]
       ·simp only;rw[if_neg (by omega)];exact hF
      ·rw[if_neg e2,if_pos (by omega)]at hF;have e2':¬((n % 2:Nat):Int)=1:=by omega
       simp(maxSteps:=2000000)(disch:=omega)only[go_sem,↓reduceIte,hm,e4,e2'];refine⟨(i+1,b,n+1,h),?_,⟨by simp only;omega,by simp only;omega,by simp only;omega,by simp only;omega,by simp only;omega,?_⟩,by simp only;omega⟩
       ·refine q0d ?_ trivial;simp(maxSteps:=2000000)only[go_sem,↓reduceIte,Sub,Zaa,Zab]
       ·simp only;rw[if_pos (by omega)];exact hF
  ·rw[Zai (by omega)]at hF;unfold q1i at hF;subst hF;simp(maxSteps:=2000000)only[go_sem,↓reduceIte]
end Go.Av.Tryz
namespace Go.Av.Tryz
open Go.Proofs
def resE(p:List UInt8×Nat):Res:=.tup [.str p.1,errD p.2]
def q8u:q0g:=
 Qr [Qx 2 (.k (.d (.str []))),Qx 3 (.k (.d .nil))] (Qr [⟨some 4,.nils 5 1,none⟩] (Qr [Qx 5 (Ki (-1))] (.seq (Qr [Qc 8 0,Qz 9 true 8,Q 10 (.cp (Ki 0))] (.block 0 (.loop (Qr [Qb 
 11 .lss 10 9] (.seq (.cond (.t 11) .skip (.exit 0)) (.seq (.block 1 (Qr [Qc 12 10,Qa 6 12] (Qr [Qc 13 0,Qc 14 6,Q 15 (.idxS (.t 13) (.t 14)),Qj 16 132 [15],Qa 7 16] (.block 
 2 (Qr [Qc 26 0,Qc 27 6,Q 28 (.idxS (.t 26) (.t 27)),Q 29 (.bin .eql (.t 28) (Kb 62)),Qa 25 29] (.cond (.t 25) (.seq (Qr [Qc 30 5,Qk 31 .geq 30 0] (.cond (.t 31) (.reg [Qc 32 
 4,Qc 33 5,Q 34 (.bin .mul (Ki 16) (.t 33)),Q 35 (.cvI .u8 (.t 34)),⟨some 36,.bsl 5 1 [.t 35],none⟩,⟨some 37,.app 5 1 1 false (.t 32) (.t 36),none⟩,Qa 4 37]) .skip)) (Qr 
 [Qc 38 4,Q 39 (.b2s (.t 38)),Qa 2 39,Qx 3 (.k (.d .nil))] .ret)) (Qr [Qc 41 0,Qc 42 6,Q 43 (.idxS (.t 41) (.t 42)),Qj 44 60 [43],Qa 40 44] (.cond (.t 40) .skip (Qr [Qc 46 
 7,Qk 47 .lss 46 0,Qa 45 47] (.cond (.t 45) (Qr [Q 48 (.mkI 49 (Ki 4)),Qx 2 (.k (.d (.str []))),Qa 3 48] .ret) (Qr [Qc 50 5,Qk 51 .lss 50 0,Qa 49 51] (.cond (.t 49) (.reg 
 [Qc 52 7,Qa 5 52]) (.reg [Qc 17 4,Qc 18 5,Q 19 (.bin .mul (Ki 16) (.t 18)),Qc 20 7,Qb 21 .add 19 20,Q 22 (.cvI .u8 (.t 21)),⟨some 23,.bsl 5 1 [.t 22],none⟩,⟨some 24, 
 .app 5 1 1 false (.t 17) (.t 23),none⟩,Qa 4 24,Qx 5 (Ki (-1))]))))))))))))) (.reg [Qk 53 .add 10 1,Qc 10 53]))))))) (Qr [Q 54 (.mkI 49 (Ki 5)),Qx 2 (.k (.d (.str []))),Qa 3 
 54] .ret))))
def q8w:List LRes:=[.tmp 2,.tmp 3]
theorem z0G:q0n Tryz.prog 152 55 q8u q8w:=⟨_,_,Tryz.func152,rfl,by kernel_rfl,by kernel_rfl,rfl⟩
theorem z9x(s:List UInt8)(hs:s.length≤1000000000):q0i Tryz.prog 152 [.str s] (fun r=>r=resE (q1i s (-1) [])):=by
 refine z0G.call rfl ?_;generalize hR:q1i s (-1) []=R;simp(maxSteps:=2000000)only[go_sem,↓reduceIte,q8u,q8w];refine q0f (fun y:Nat×List UInt8×Int=>⟨[(0,.d (.str s)),(4,.own (.t 4) 5 1 (q0v y.2.1)),(5,.d (.int .i64 y.2.2)),(9,.d (.int .i64 s.length)),(10,.d (.int .i64 y.1))],[],[]⟩)
  (fun y=>y.1≤s.length∧y.2.1.length≤y.1 ∧ -1≤y.2.2∧y.2.2≤15∧q1i (s.drop y.1) y.2.2 y.2.1=R) (fun y=>s.length-y.1) (0,[],-1) ?_ ?_ ?_
 ·refine q0d ?_ trivial;simp(maxSteps:=2000000)only[go_sem,↓reduceIte,Sub,q0v]
 ·exact⟨by simp,by simp,by simp,by simp,by simpa using hR⟩
 ·rintro⟨i,b,h⟩ ⟨hi,hb,h0,h1,hF⟩;simp only at hi hb h0 h1 hF;simp(maxSteps:=2000000)only[go_sem,↓reduceIte];refine⟨fun hlt=>?_,fun hge=>?_⟩
  ·obtain⟨c,hc⟩:=get_some (l:=s) (i:=i) (by omega);have hc8:=q1Q c;have hcall:q0i Tryz.prog 132 [.int .u8 c.toNat] (fun r=>r=.one (.int .i64 (hexI c.toNat))):=q9C (by omega);have w1:IntKind.i64.wrap ((i:Int)+1)=((i+1:Nat):Int):=by rw[IntWalk.i64_in _ (by omega)];rfl
   have hx:=q3F c.toNat;rw[drop_cons hc]at hF;unfold q1i at hF;rw[q0a,hc];simp(maxSteps:=2000000)only[go_sem,↓reduceIte,q0a s,hc,hcall];refine q0c.of hcall ?_
   by_cases e1:c.toNat=62
   ·have e1':((c.toNat:Int)=62):=by omega
    rw[if_pos e1]at hF;subst hF
    by_cases e2:0≤h
    ·have w2:IntKind.u8.wrap (IntKind.i64.wrap (16*h))=16*h:=by rw[IntWalk.i64_in _ (by omega),IntWalk.u8_in _ (by omega)]
     simp(maxSteps:=2000000)only[go_sem,↓reduceIte,q0a s,hc,e1',e2,w2,q1Z (b:=b) (n:=16*h) (by omega) (by omega),q0q,resE,errD];have:=q0o b;omega
    ·simp(maxSteps:=2000000)only[go_sem,↓reduceIte,q0a s,hc,e1',e2,q0q,resE,errD]
   ·have e1':¬((c.toNat:Int)=62):=by omega
    rw[if_neg e1]at hF;have hb2:q0i Tryz.prog 60 [.int .u8 c.toNat] (fun r=>r=.one (.bool (q4m c.toNat))):=q7A _;simp(maxSteps:=2000000)only[go_sem,↓reduceIte,q0a s,hc,e1'];refine q0c.of hb2 ?_
    by_cases e2:q4m c.toNat=true
    ·rw[if_pos e2]at hF;simp(maxSteps:=2000000)only[go_sem,↓reduceIte,e2,w1];refine⟨(i+1,b,h),?_,⟨by simp only;omega,by simp only;omega,h0,h1,hF⟩,by simp only;omega⟩;refine q0d ?_ trivial;simp(maxSteps:=2000000)only[go_sem,↓reduceIte,Sub]
    ·rw[if_neg e2]at hF;have e2':q4m c.toNat=false:=by simpa using e2
     by_cases e3:hexI c.toNat<0
     ·rw[if_pos e3]at hF;subst hF;simp(maxSteps:=2000000)only[go_sem,↓reduceIte,e2',e3,resE,errD]
     ·rw[if_neg e3]at hF
      by_cases e4:h<0
      ·rw[if_pos e4]at hF;simp(maxSteps:=2000000)only[go_sem,↓reduceIte,e2',e3,e4,w1];refine⟨(i+1,b,hexI c.toNat),?_,⟨by simp only;omega,by simp only;omega,hx.1,hx.2,hF⟩,by simp only;omega⟩;refine q0d ?_ trivial;simp(maxSteps:=2000000)only[go_sem,↓reduceIte,Sub]
      ·rw[if_neg e4]at hF;have w2:IntKind.i64.wrap (16*h)=16*h:=by rw[IntWalk.i64_in _ (by omega)]
       have w3:IntKind.i64.wrap (16*h+hexI c.toNat)=16*h+hexI c.toNat:=by rw[IntWalk.i64_in _ (by omega)]
       have w4:IntKind.u8.wrap (16*h+hexI c.toNat)=16*h+hexI c.toNat:=by rw[IntWalk.u8_in _ (by omega)]
       simp(maxSteps:=2000000)only[go_sem,↓reduceIte,e2',e3,e4,w1,w2,w3,w4,q1Z (b:=b) (n:=16*h+hexI c.toNat) (by omega) (by omega)];refine⟨by have:=q0o b;omega,(i+1,b++[q46 (16*h+hexI c.toNat)],-1),?_,⟨by simp only;omega,by simp only[Zad,Zae,Zag];omega,by simp,by simp,hF⟩,by simp only;omega⟩;refine q0d ?_ trivial;simp(maxSteps:=2000000)only[go_sem,↓reduceIte,Sub]
  ·have hil:i=s.length:=by omega
   rw[hil,List.drop_length]at hF;unfold q1i at hF;subst hF;simp(maxSteps:=2000000)only[go_sem,↓reduceIte,resE,errD]
end Go.Av.Tryz
namespace Go.Av.Tryz
open Go.Proofs
def q4x(s b:List UInt8):List UInt8×Nat:=
 match s with
 |[]=>([],5)
 |n::r=>
  if n.toNat=128 then(b,0)
  else if n.toNat<128 then
   if r.length<n.toNat+1 then([],5)
   else if 20000<(b++r.take (n.toNat+1)).length then([],2)else q4x (r.drop (n.toNat+1)) (b++r.take (n.toNat+1))
  else match r with
   |[]=>([],5)
   |c::r'=>if 20000<(b++List.replicate (257-n.toNat) c).length then([],2)else q4x r' (b++List.replicate (257-n.toNat) c)
termination_by s.length
decreasing_by
 ·simp;omega
 ·simp;omega
def q8N:q0g:=
 Qr [Qx 2 (.k (.d (.str []))),Qx 3 (.k (.d .nil))] (Qr [⟨some 4,.nils 5 1,none⟩] (.seq (Qr [Qx 5 (Ki 0)] (.block 0 (.loop (.seq (Qr [Qc 7 5,Qc 8 0,Qz 9 true 8,Qb 10 .lss 7 9] 
 (.cond (.t 10) .skip (.exit 0))) (.block 1 (Qr [Qc 11 0,Qc 12 5,Q 13 (.idxS (.t 11) (.t 12)),Q 14 (.cvI .i64 (.t 13)),Qa 6 14] (Qr [Qc 15 5,Qk 16 .add 15 1,Qa 5 16] (.seq 
 (.block 2 (Qr [Qc 31 6,Qk 32 .eql 31 128,Qa 30 32] (.cond (.t 30) (Qr [Qc 33 4,Q 34 (.b2s (.t 33)),Qa 2 34,Qx 3 (.k (.d .nil))] .ret) (Qr [Qc 36 6,Qk 37 .lss 36 128,Qa 35 
 37] (.cond (.t 35) (.seq (Qr [Qc 38 5,Qc 39 6,Qb 40 .add 38 39,Qk 41 .add 40 1,Qc 42 0,Qz 43 true 42,Qb 44 .gtr 41 43] (.cond (.t 44) (Qr [Q 45 (.mkI 49 (Ki 5)),Qx 2 (.k 
 (.d (.str []))),Qa 3 45] .ret) .skip)) (Qr [Qc 46 4,Qc 47 0,Qc 48 5,Qc 49 5,Qc 50 6,Qb 51 .add 49 50,Qk 52 .add 51 1,Q 53 (.subS (.t 47) (some (.t 48)) (some (.t 52))), 
 ⟨some 54,.app 5 1 1 true (.t 46) (.t 53),none⟩,Qa 4 54] (.reg [Qc 55 5,Qc 56 6,Qk 57 .add 56 1,Qb 58 .add 55 57,Qa 5 58]))) (Qr [Qc 60 5,Qc 61 0,Qz 62 true 61,Qb 63 
 .eql 60 62,Qa 59 63] (.cond (.t 59) (Qr [Q 64 (.mkI 49 (Ki 5)),Qx 2 (.k (.d (.str []))),Qa 3 64] .ret) (.seq (Qr [Qc 17 6,Q 18 (.bin .sub (Ki 257) (.t 17)),Q 19 (.cp (Ki 
 0))] (.block 3 (.loop (Qr [Qb 20 .lss 19 18] (.seq (.cond (.t 20) .skip (.exit 3)) (.seq (.block 4 (.reg [Qc 21 4,Qc 22 0,Qc 23 5,Q 24 (.idxS (.t 22) (.t 23)),⟨some 25,.bsl 
 5 1 [.t 24],none⟩,⟨some 26,.app 5 1 1 false (.t 21) (.t 25),none⟩,Qa 4 26])) (.reg [Qk 27 .add 19 1,Qc 19 27]))))))) (.reg [Qc 28 5,Qk 29 .add 28 1,Qa 5 29]))))))))) (Qr 
 [Qc 65 4,Qz 66 false 65,Qk 67 .gtr 66 20000] (.cond (.t 67) (Qr [Q 68 (.mkI 49 (Ki 2)),Qx 2 (.k (.d (.str []))),Qa 3 68] .ret) .skip)))))))))) (Qr [Q 69 (.mkI 49 (Ki 5)),Qx 
 2 (.k (.d (.str []))),Qa 3 69] .ret)))
def q8V:List LRes:=[.tmp 2,.tmp 3]
theorem z1p:q0n Tryz.prog 156 70 q8N q8V:=⟨_,_,Tryz.func156,rfl,by kernel_rfl,by kernel_rfl,rfl⟩
theorem j0T(s:List UInt8)(hs:s.length≤100000000):q0i Tryz.prog 156 [.str s] (fun r=>r=resE (q4x s [])):=by
 refine z1p.call rfl ?_;generalize hR:q4x s []=R;simp(maxSteps:=2000000)only[go_sem,↓reduceIte,q8N,q8V];refine q0f (fun y:Nat×List UInt8=>⟨[(0,.d (.str s)),(4,.own (.t 4) 5 1 (q0v y.2)),(5,.d (.int .i64 y.1))],[],[]⟩)
  (fun y=>y.1≤s.length∧y.2.length≤20000∧q4x (s.drop y.1) y.2=R) (fun y=>s.length-y.1) (0,[]) ?_ ?_ ?_
 ·refine q0d ?_ trivial;simp(maxSteps:=2000000)only[go_sem,↓reduceIte,Sub,Zaa,Zab,q0v]
 ·exact⟨by simp,by simp,by simpa using hR⟩
 ·rintro⟨i,b⟩ ⟨hi,hb,hF⟩;simp only at hi hb hF;have hblen:=q0o b;simp(maxSteps:=2000000)only[go_sem,↓reduceIte];refine⟨fun hlt=>?_,fun hge=>?_⟩
  ·obtain⟨n,hn⟩:=get_some (l:=s) (i:=i) (by omega);have hcd:=drop_cons hn;have hn8:=q1Q n;rw[hcd]at hF;unfold q4x at hF;rw[q0a,hn];simp(maxSteps:=2000000)(disch:=omega)only[go_sem,↓reduceIte];refine⟨fun e1=>?_,fun e1=>⟨fun e2=>⟨fun e3=>?_,fun e3=>?_⟩,fun e2=>⟨fun e3=>?_,fun e3=>?_⟩⟩⟩
   ·rw[if_pos (by omega)]at hF;subst hF;simp(maxSteps:=2000000)only[go_sem,↓reduceIte,q0q,resE,errD]
   ·rw[if_neg (by omega),if_pos (by omega),if_pos (by rw[Zau];omega)]at hF;subst hF;simp(maxSteps:=2000000)only[go_sem,↓reduceIte,resE,errD]
   ·rw[if_neg (by omega),if_pos (by omega),if_neg (by rw[Zau];omega)]at hF;have hcut:cutI s ((i:Int)+1) ((i:Int)+1+n.toNat+1)=(s.drop (i+1)).take (n.toNat+1):=by
     have:cutI s ((i:Int)+1) ((i:Int)+1+n.toNat+1)=cutI s ((i+1:Nat):Int) ((i+1+n.toNat+1:Nat):Int):=by congr 1
     rw[this,q4n,Zde];congr 1;omega
    rw[hcut];generalize ht:(s.drop (i+1)).take (n.toNat+1)=t at hF ⊢;have htl:t.length=n.toNat+1:=by rw[←ht];simp;omega
    rw[List.drop_drop]at hF;simp only[Zad,q0o];rw[Zad]at hF;refine⟨⟨by omega,by omega,by omega⟩,⟨by omega,by omega⟩,fun q1=>?_,fun q1=>⟨(i+1+(n.toNat+1),b++t),?_,⟨by simp only;omega,by simp only[Zad];omega,?_⟩,by simp only;omega⟩⟩
    ·rw[if_pos (by omega)]at hF;subst hF;simp[resE,errD]
    ·refine q0d ?_ trivial;simp(maxSteps:=2000000)only[go_sem,↓reduceIte,Sub,Zaa,Zab,q0j]
    ·rw[if_neg (by omega)]at hF;exact hF
   ·have h0:s.drop (i+1)=[]:=Zai (by omega);rw[if_neg (by omega),if_neg (by omega),h0]at hF;simp only at hF;subst hF;simp(maxSteps:=2000000)only[go_sem,↓reduceIte,resE,errD]
   ·obtain⟨c,hc⟩:=get_some (l:=s) (i:=i+1) (by omega);have hcd1:=drop_cons hc;have hc8:=q1Q c;rw[if_neg (by omega),if_neg (by omega),hcd1]at hF;try dsimp only at hF
    refine q0f (fun k:Nat=>⟨[(0,.d (.str s)),(4,.own (.t 4) 5 1 (q0v (b++List.replicate k c))),(5,.d (.int .i64 (i+1:Nat))),(18,.d (.int .i64 (257-(n.toNat:Int)))),(19,.d (.int .i64 k))],[],[]⟩)
     (fun k=>k≤257-n.toNat) (fun k=>257-n.toNat-k) 0 ?_ ?_ ?_
    ·refine q0d ?_ trivial;simp(maxSteps:=2000000)only[go_sem,↓reduceIte,Sub,Zaa,Zab,List.replicate_zero]
    ·omega
    ·intro k hk;have hbl:=q0o (b++List.replicate k c);simp only[Zad,Zdb]at hbl;have hrl:(b++List.replicate k c).length=b.length+k:=by simp
     simp(maxSteps:=2000000)(disch:=omega)only[go_sem,↓reduceIte,q3z,hc,Zaa];refine⟨fun q1=>⟨by omega,k+1,?_,by omega,by omega⟩,fun q1=>?_⟩
     ·refine q0d ?_ trivial;simp(maxSteps:=2000000)only[go_sem,↓reduceIte,Sub,Zaa,Zab,List.replicate_succ',q0j,q0L,q06,List.append_assoc]
     ·have hk:k=257-n.toNat:=by omega
      rw[←hk]at hF;rw[hrl]at hF;rw[hbl];refine⟨fun q2=>?_,fun q2=>⟨(i+1+1,b++List.replicate k c),?_,⟨by simp only;omega,by simp only[hrl];omega,?_⟩,by simp only;omega⟩⟩
      ·rw[if_pos (by omega)]at hF;subst hF;simp[resE,errD]
      ·refine q0d ?_ trivial;simp(maxSteps:=2000000)only[go_sem,↓reduceIte,Sub,Zaa,Zab]
      ·rw[if_neg (by omega)]at hF;exact hF
  ·have h0:s.drop i=[]:=Zai (by omega);rw[h0]at hF;unfold q4x at hF;subst hF;simp(maxSteps:=2000000)only[go_sem,↓reduceIte,resE,errD]
end Go.Av.Tryz
namespace Go.Av.Tryz
open Go.Proofs
def q9l(l:List Nat):List D:=l.map fun n:Nat=>D.int .i64 (n:Int)
def accG(l:List Nat):Nat→Nat
 |0=>0
 |j+1=>85*accG l j+l.getD j 84
def z0z(n:Nat):List UInt8:=[j17 (n / 16777216),j17 (n / 65536 % 256),j17 (n / 256 % 256),j17 (n % 256)]
def q2R(l:List Nat):List UInt8×Nat:=if l.length=1 then([],4)else if 4294967296≤accG l 5 then([],4)else((z0z (accG l 5)).take (l.length-1),0)
theorem z3M(l:List Nat)(h:∀d∈l,d<85)(j:Nat):accG l j<85 ^ j:=by
 induction j with
 |zero=>simp[accG]
 |succ j ih=>
  have:l.getD j 84<85:=by
   rw[List.getD_eq_getElem?_getD];cases hj:l[j]? with
   |none=>simp
   |some d=>exact h d (Zaf hj)
  simp only[accG,Zdk];omega
theorem q9m(l:List Nat):(q9l l).length=l.length:=by simp[q9l]
theorem j4t(l:List Nat)(j:Nat):(q9l l)[j]?=(l[j]?).map fun n:Nat=>D.int .i64 (n:Int):=by simp[q9l]
def q93:q0g:=
 Qr [⟨some 2,.nils 5 1,none⟩,Qx 3 (.k (.d .nil))] (Qr [Qc 9 0,Qz 10 false 9,Qa 4 10] (.seq (Qr [Qc 11 4,Qk 12 .eql 11 1] (.cond (.t 12) (Qr [Q 13 (.mkI 49 (Ki 4)),⟨some 2, 
 .nils 5 1,none⟩,Qa 3 13] .ret) .skip)) (Qr [Qx 5 (Ki 0)] (.seq (Qr [Q 14 (.cp (Ki 0))] (.block 0 (.loop (Qr [Qk 15 .lss 14 5] (.seq (.cond (.t 15) .skip (.exit 0)) (.seq 
 (.block 1 (Qr [Qc 16 14,Qa 6 16] (Qr [Qx 7 (Ki 84)] (.seq (Qr [Qc 17 6,Qc 18 4,Qb 19 .lss 17 18] (.cond (.t 19) (.reg [Qc 20 0,Qc 21 6,Q 22 (.ia 1 (.t 20) (.t 21)),Ql 23 
 22,Qa 7 23]) .skip)) (.reg [Qc 24 5,Q 25 (.bin .mul (Ki 85) (.t 24)),Qc 26 7,Qb 27 .add 25 26,Qa 5 27]))))) (.reg [Qk 28 .add 14 1,Qc 14 28]))))))) (.seq (Qr [Qc 29 5,Qk 
 30 .geq 29 4294967296] (.cond (.t 30) (Qr [Q 31 (.mkI 49 (Ki 4)),⟨some 2,.nils 5 1,none⟩,Qa 3 31] .ret) .skip)) (Qr [Qc 32 5,Q 33 (.bin .shr (.t 32) (.k (.d (.int .u64 
 24)))),Q 34 (.cvI .u8 (.t 33)),Qc 35 5,Q 36 (.bin .shr (.t 35) (.k (.d (.int .u64 16)))),Q 37 (.cvI .u8 (.t 36)),Qc 38 5,Q 39 (.bin .shr (.t 38) (.k (.d (.int .u64 8)))),Q 
 40 (.cvI .u8 (.t 39)),Qc 41 5,Q 42 (.cvI .u8 (.t 41)),⟨some 43,.bsl 5 1 [.t 34,.t 37,.t 40,.t 42],none⟩,Qa 8 43] (Qr [Qc 44 8,Qc 45 4,Qk 46 .sub 45 1,Q 47 (.sub 1 (.t 
 44) none (some (.t 46))),Qa 2 47,Qx 3 (.k (.d .nil))] .ret)))))))
def q97:List LRes:=[.tmp 2,.tmp 3]
theorem z17:q0n Tryz.prog 177 48 q93 q97:=⟨_,_,Tryz.func177,rfl,by kernel_rfl,by kernel_rfl,rfl⟩
theorem z5X(l:List Nat)(hl:1≤l.length∧l.length≤5)(h85:∀d∈l,d<85):
  q0i Tryz.prog 177 [.list (q9l l)] (fun r=>r=.tup [.list (q0v (q2R l).1),errD (q2R l).2]):=by
 refine z17.call rfl ?_;have hnl:=q9m l;have hI:((q9l l).length:Int)=(l.length:Int):=by rw[hnl]
 simp(maxSteps:=2000000)only[go_sem,↓reduceIte,q93,q97,hI];refine⟨fun h1=>?_,fun h1=>?_⟩
 ·have:q2R l=([],4):=by unfold q2R;rw[if_pos (by omega)]
  simp[this,errD,q0v]
 ·refine q0f (fun j:Nat=>⟨[(0,.d (.list (q9l l))),(4,.d (.int .i64 l.length)),(5,.d (.int .i64 (accG l j))),(14,.d (.int .i64 j))],[],[]⟩)
   (fun j=>j≤5) (fun j=>5-j) 0 ?_ ?_ ?_
  ·refine q0d ?_ trivial;simp(maxSteps:=2000000)only[go_sem,↓reduceIte,Sub,Zaa,Zab,accG]
  ·omega
  ·intro j hj;simp(maxSteps:=2000000)only[go_sem,↓reduceIte];refine⟨fun hj5=>?_,fun hj5=>?_⟩
   ·have hlt:accG l j<85 ^ 4:=Zcf (z3M l h85 j) (Zct (by decide) (by omega));refine⟨fun q1=>?_,fun q1=>?_⟩
    ·obtain⟨d,hd⟩:=get_some (l:=l) (i:=j) (by omega);have hd85:=h85 d (Zaf hd);have hgd:l.getD j 84=d:=by simp[hd]
     simp(maxSteps:=2000000)(disch:=omega)only[go_sem,↓reduceIte,q0a,j4t,hd];refine⟨j+1,?_,by omega,by omega⟩;refine q0d ?_ trivial;simp(maxSteps:=2000000)only[go_sem,↓reduceIte,Sub,Zaa,Zab,accG,hgd]
    ·have hgd:l.getD j 84=84:=by rw[List.getD_eq_getElem?_getD,Zbm (by omega)];rfl
     simp(disch:=omega)only[IntWalk.i64_in,IntWalk.u8_in];refine⟨j+1,?_,by omega,by omega⟩;refine q0d ?_ trivial;simp(maxSteps:=2000000)only[go_sem,↓reduceIte,Sub,Zaa,Zab,accG,hgd]
   ·have hj':j=5:=by omega
    subst hj';have hlt:=z3M l h85 5;generalize hN:accG l 5=N at hlt;refine⟨fun q1=>?_,fun q1=>?_⟩
    ·have:q2R l=([],4):=by unfold q2R;rw[if_neg (by omega),hN,if_pos (by omega)]
     simp[this,errD,q0v]
    ·have:q2R l=((z0z N).take (l.length-1),0):=by unfold q2R;rw[if_neg (by omega),hN,if_neg (by omega)]
     rw[this];have s1:Int.fdiv (N:Int) (2 ^ min 24 64)=((N / 16777216:Nat):Int):=z6o N 24;have s2:Int.fdiv (N:Int) (2 ^ min 16 64)=((N / 65536:Nat):Int):=z6o N 16;have s3:Int.fdiv (N:Int) (2 ^ min 8 64)=((N / 256:Nat):Int):=z6o N 8;have s4:IntKind.i64.wrap ((l.length:Int)-1)=((l.length-1:Nat):Int):=by rw[IntWalk.i64_in _ (by omega)];omega
     have s5:∀m:Nat,IntKind.u8.wrap (m:Int)=((m % 256:Nat):Int):=fun m=>by rw[IntKind.wrap_u8];omega
     have s6:N / 16777216 % 256=N / 16777216:=by omega
     rw[s1,s2,s3,s4,s5,s5,s5,s5,s6];have hfour:[D.int IntKind.u8 ((N / 16777216:Nat):Int),D.int IntKind.u8 ((N / 65536 % 256:Nat):Int),D.int IntKind.u8 ((N / 256 % 256:Nat):Int),D.int IntKind.u8 ((N % 256:Nat):Int)]=q0v (z0z N):=by
      simp only[z0z,q0L,q06];rw[q27 (by omega),q27 (by omega),q27 (by omega),q27 (by omega)]
     rw[hfour,z2K];exact⟨by omega,by simp[errD]⟩
end Go.Av.Tryz
namespace Go.Av.Tryz
open Go.Proofs
def q1D:List UInt8→List Nat→List UInt8→List UInt8×Nat
 |[],_,_=>([],5)
 |c::r,l,b=>
  if c.toNat=126 then
   if r.head?≠some 62 then([],4)
   else if l=[]then(b,0)else(b++(q2R l).1,(q2R l).2)
  else if q4m c.toNat=true then q1D r l b
  else if c.toNat=122∧l=[]then q1D r l (b++[0,0,0,0])
  else if c.toNat<33∨117<c.toNat then([],4)
  else if l.length=4 then(if(q2R (l++[c.toNat-33])).2≠0 then([],(q2R (l++[c.toNat-33])).2)else q1D r [] (b++(q2R (l++[c.toNat-33])).1))
  else q1D r (l++[c.toNat-33]) b
theorem z5W(l:List Nat):(q2R l).1.length≤4:=by
 unfold q2R;(repeat' split)<;>simp[z0z];omega
theorem z8H(a b:List Nat):q9l (a++b)=q9l a++q9l b:=by simp[q9l]
theorem j4u:q9l []=[]:=rfl
def q7t:q0g:=
 Qr [Qx 2 (.k (.d (.str []))),Qx 3 (.k (.d .nil))] (Qr [⟨some 4,.nils 5 1,none⟩] (Qr [⟨some 5,.nils 3 1,none⟩] (.seq (Qr [Qc 12 0,Qz 13 true 12,Q 14 (.cp (Ki 0))] (.block 0 
 (.loop (Qr [Qb 15 .lss 14 13] (.seq (.cond (.t 15) .skip (.exit 0)) (.seq (.block 1 (Qr [Qc 16 14,Qa 6 16] (Qr [Qc 17 0,Qc 18 6,Q 19 (.idxS (.t 17) (.t 18)),Qa 7 19] (.block 
 2 (Qr [Qc 41 7,Q 42 (.bin .eql (.t 41) (Kb 126)),Qa 40 42] (.cond (.t 40) (.seq (Qr [Qc 43 6,Qk 44 .add 43 1,Qc 45 0,Qz 46 true 45,Qb 47 .geq 44 46,Qc 48 47,Qd 49 0 48 
 false,Qd 50 6 48 false,Qg 51 (.bin .add (.t 50) (Ki 1)) 48 false,Qg 52 (.idxS (.t 49) (.t 51)) 48 false,Qg 53 (.bin .neq (.t 52) (Kb 62)) 48 false,Qo 54 48 53] (.cond (.t 
 54) (Qr [Q 55 (.mkI 49 (Ki 4)),Qx 2 (.k (.d (.str []))),Qa 3 55] .ret) .skip)) (.seq (Qr [Qc 56 5,Qz 57 false 56,Qk 58 .eql 57 0] (.cond (.t 58) (Qr [Qc 59 4,Q 60 (.b2s (.t 
 59)),Qa 2 60,Qx 3 (.k (.d .nil))] .ret) .skip)) (Qr [Qc 62 5,Qj 63 177 [62],Qc 61 63,Qe 64 0 61,Qe 65 1 61,Qa 8 64,Qa 9 65] (Qr [Qc 66 4,Qc 67 8,⟨some 68,.app 5 1 1 
 false (.t 66) (.t 67),none⟩,Q 69 (.b2s (.t 68)),Qc 70 9,Qa 2 69,Qa 3 70] .ret)))) (Qr [Qc 72 7,Qj 73 60 [72],Qa 71 73] (.cond (.t 71) .skip (Qr [Qc 75 7,Q 76 (.bin .eql 
 (.t 75) (Kb 122)),Qc 77 76,Qd 78 5 77 true,Qg 79 (.len false (.t 78)) 77 true,Qg 80 (.bin .eql (.t 79) (Ki 0)) 77 true,Qp 81 77 80,Qa 74 81] (.cond (.t 74) (.reg [Qc 82 4, 
 ⟨some 83,.bsl 5 1 [.k (.d (.int .u8 0)),.k (.d (.int .u8 0)),.k (.d (.int .u8 0)),.k (.d (.int .u8 0))],none⟩,⟨some 84,.app 5 1 1 false (.t 82) (.t 83),none⟩,Qa 4 84]) 
 (Qr [Qc 86 7,Q 87 (.bin .lss (.t 86) (Kb 33)),Qc 88 87,Qd 89 7 88 false,Qg 90 (.bin .gtr (.t 89) (Kb 117)) 88 false,Qo 91 88 90,Qa 85 91] (.cond (.t 85) (Qr [Q 92 (.mkI 49 
 (Ki 4)),Qx 2 (.k (.d (.str []))),Qa 3 92] .ret) (Qr [Qc 20 5,Qc 21 7,Q 22 (.bin .sub (.t 21) (Kb 33)),Q 23 (.cvI .i64 (.t 22)),⟨some 24,.bsl 3 1 [.t 23],none⟩,⟨some 25, 
 .app 3 1 8 false (.t 20) (.t 24),none⟩,Qa 5 25] (Qr [Qc 26 5,Qz 27 false 26,Qk 28 .eql 27 5] (.cond (.t 28) (Qr [Qc 30 5,Qj 31 177 [30],Qc 29 31,Qe 32 0 29,Qe 33 1 29,Qa 
 10 32,Qa 11 33] (.seq (Qr [Qc 34 11,Q 35 (.eqN 0 true (.t 34))] (.cond (.t 35) (Qr [Qc 36 11,Qx 2 (.k (.d (.str []))),Qa 3 36] .ret) .skip)) (.reg [Qc 37 4,Qc 38 10,⟨some 
 39,.app 5 1 1 false (.t 37) (.t 38),none⟩,Qa 4 39,⟨some 5,.nils 3 1,none⟩]))) .skip))))))))))))))) (.reg [Qk 93 .add 14 1,Qc 14 93]))))))) (Qr [Q 94 (.mkI 49 (Ki 5)),Qx 2 
 (.k (.d (.str []))),Qa 3 94] .ret))))
def q7w:List LRes:=[.tmp 2,.tmp 3]
theorem q9Y:q0n Tryz.prog 154 95 q7t q7w:=⟨_,_,Tryz.func154,rfl,by kernel_rfl,by kernel_rfl,rfl⟩
theorem z7w(s:List UInt8)(hs:s.length≤100000000):q0i Tryz.prog 154 [.str s] (fun r=>r=resE (q1D s [] [])):=by
 refine q9Y.call rfl ?_;generalize hR:q1D s [] []=R;simp(maxSteps:=2000000)only[go_sem,↓reduceIte,q7t,q7w];refine q0f (fun y:Nat×List Nat×List UInt8=>⟨[(0,.d (.str s)),(4,.own (.t 4) 5 1 (q0v y.2.2)),(5,.own (.t 5) 3 1 (q9l y.2.1)),(13,.d (.int .i64 s.length)),(14,.d (.int .i64 y.1))],[],[]⟩)
  (fun y=>y.1≤s.length∧y.2.1.length≤4∧(∀d∈y.2.1,d<85)∧y.2.2.length≤4*y.1∧q1D (s.drop y.1) y.2.1 y.2.2=R) (fun y=>s.length-y.1) (0,[],[]) ?_ ?_ ?_
 ·refine q0d ?_ trivial;simp(maxSteps:=2000000)only[go_sem,↓reduceIte,Sub,Zaa,Zab,q0v,q9l]
 ·exact⟨by simp,by simp,by simp,by simp,by simpa using hR⟩
 ·rintro⟨i,l,b⟩ ⟨hi,hl,h85,hb,hF⟩;simp only at hi hl h85 hb hF;have hblen:=q0o b;have hnlen:=q9m l;simp(maxSteps:=2000000)only[go_sem,↓reduceIte];refine⟨fun hlt=>?_,fun hge=>?_⟩
  ·obtain⟨c,hc⟩:=get_some (l:=s) (i:=i) (by omega);have hc8:=q1Q c;rw[drop_cons hc]at hF;unfold q1D at hF;rw[q0a,hc];simp(maxSteps:=2000000)(disch:=omega)only[go_sem,↓reduceIte,hnlen];refine⟨fun e1=>?_,fun e1=>?_⟩
   ·rw[if_pos (by omega)]at hF;refine⟨fun q1=>?_,fun q1=>?_⟩
    ·obtain⟨d,hd⟩:=get_some (l:=s) (i:=i+1) (by omega);have hd8:=q1Q d;rw[drop_cons hd]at hF;simp only[List.head?_cons,ne_eq,Zas]at hF;simp(maxSteps:=2000000)only[go_sem,↓reduceIte,q3z,hd,hnlen];refine⟨fun q2=>?_,fun q2=>?_⟩
     ·have hdd:¬d=62:=fun h=>q2 (by rw[h];rfl)
      rw[if_pos hdd]at hF;subst hF;simp[resE,errD]
     ·have hdd:d=62:=by
       have h62:(62:UInt8).toNat=62:=rfl;apply UInt8.toNat_inj.1;omega
      rw[if_neg (fun h=>h hdd)]at hF;refine⟨fun q3=>?_,fun q3=>?_⟩
      ·rw[if_pos (Zbl (by omega))]at hF;subst hF;simp(maxSteps:=2000000)only[go_sem,↓reduceIte,q0q,resE,errD]
      ·have hne:l≠[]:=fun h=>by simp[h]at q3
       rw[if_neg hne]at hF;subst hF;refine q0c.of (z5X l ⟨by have:=List.length_pos_iff.2 hne;omega,by omega⟩ h85) ?_;have hg:=z5W l;simp(maxSteps:=2000000)only[go_sem,↓reduceIte,←q0j,q0q,resE,q81];rw[q0o,q0o];omega
    ·rw[Zai (by omega)]at hF;rw[if_pos (by simp)]at hF;subst hF;simp[resE,errD]
   ·rw[if_neg (by omega)]at hF;refine q0c.of (q7A _) ?_;simp(maxSteps:=2000000)(disch:=omega)only[go_sem,↓reduceIte,hnlen];refine⟨fun e2=>?_,fun e2=>?_⟩
    ·rw[if_pos e2]at hF;refine⟨(i+1,l,b),?_,⟨by simp only;omega,hl,h85,by simp only;omega,hF⟩,by simp only;omega⟩;refine q0d ?_ trivial;simp(maxSteps:=2000000)only[go_sem,↓reduceIte,Sub,Zaa,Zab]
    ·rw[if_neg (by simp[e2])]at hF;have hnil:l=[]↔l.length=0:=List.length_eq_zero_iff.symm
     by_cases e3:c.toNat=122∧l=[]
     ·rw[if_pos e3]at hF;have e3b:=hnil.1 e3.2;refine⟨fun q1=>⟨fun q2=>⟨by omega,(i+1,l,b++[0,0,0,0]),?_,⟨by simp only;omega,hl,h85,by simp only[Zad,Zae,Zag];omega,hF⟩,by simp only;omega⟩,fun q2=>absurd e3b (by omega)⟩,fun q1=>absurd e3.1 (by omega)⟩;refine q0d ?_ trivial;simp(maxSteps:=2000000)only[go_sem,↓reduceIte,Sub,Zaa,Zab,q0j];rfl
     ·rw[if_neg e3]at hF;rw[hnil]at e3;have key:¬(c.toNat:Int)=122∨¬(l.length:Int)=0:=by omega
      refine⟨fun a1=>⟨fun a2=>absurd a2 (by omega),fun a2=>?_⟩,fun a1=>?_⟩;all_goals
       refine⟨fun b1=>⟨fun b2=>?_,fun b2=>?_⟩,fun b1=>?_⟩
       ·rw[if_pos (by omega)]at hF;subst hF;simp[resE,errD]
       ·rw[if_neg (by omega)]at hF;have hap:q9l l++[D.int IntKind.i64 ((c.toNat:Int)-33)]=q9l (l++[c.toNat-33]):=by
         rw[z8H];simp[q9l];omega
        have hlen:(l++[c.toNat-33]).length=l.length+1:=by simp
        have h85':∀d∈l++[c.toNat-33],d<85:=fun d hd=>by
         rcases Zaz.1 hd with h|h
         ·exact h85 d h
         ·simp at h;omega
        rw[hap,q9m,hlen];generalize hL:l++[c.toNat-33]=L at hF hlen h85' ⊢;refine⟨by omega,fun b3=>?_,fun b3=>⟨(i+1,L,b),?_,⟨by simp only;omega,by simp only;omega,h85',by simp only;omega,?_⟩,by simp only;omega⟩⟩
        ·rw[if_pos (by omega)]at hF;refine q0c.of (z5X L ⟨by omega,by omega⟩ h85') ?_;have hg:=z5W L
         by_cases hz:(q2R L).2=0
         ·rw[if_neg (by simp[hz])]at hF;rw[hz];have he:errD 0=.nil:=rfl;simp(maxSteps:=2000000)(disch:=omega)only[go_sem,↓reduceIte,he,q81];rw[q0o,q0o];first
          |refine⟨by omega,(i+1,[],b++(q2R L).1),?_,⟨by simp only;omega,by simp,by simp,by simp only[Zad];omega,hF⟩,by simp only;omega⟩
          |refine⟨by omega,(i+1,[],b++(q2R L).1),?_,⟨by simp only;omega,by simp,by simp only[Zad];omega,hF⟩,by simp only;omega⟩
          refine q0d ?_ trivial;simp(maxSteps:=2000000)only[go_sem,↓reduceIte,Sub,Zaa,Zab,q0j,j4u]
         ·rw[if_pos hz]at hF;subst hF;rw[q0Q hz];simp(maxSteps:=2000000)(disch:=omega)only[go_sem,↓reduceIte,resE,q0Q hz]
        ·refine q0d ?_ trivial;simp(maxSteps:=2000000)only[go_sem,↓reduceIte,Sub,Zaa,Zab]
        ·rw[if_neg (by omega)]at hF;exact hF
       ·rw[if_pos (by omega)]at hF;subst hF;simp[resE,errD]
  ·have h0:s.drop i=[]:=Zai (by omega);rw[h0]at hF;unfold q1D at hF;subst hF;simp(maxSteps:=2000000)only[go_sem,↓reduceIte,resE,errD]
theorem q9W{α:Type}{l:List α}{i:Nat}{x:α}(h:l[i]?=some x):l.drop i=x::l.drop (i+1):=by
 obtain⟨hi,rfl⟩:=Zac.1 h;exact List.drop_eq_getElem_cons hi
/-! ### Blanks, words -/
def z4S:List UInt8:=[40,41,60,62,91,93,123,125,47,37]
def q9w(c:UInt8):Bool:=decide (c∈z4S)
def q58(note:Bool):List UInt8→Nat→Nat
 |[],at_=>at_
 |c::r,at_=>
  if note=true then q58 (decide (c.toNat≠10)&&decide (c.toNat≠13)) r (at_+1)
  else if c.toNat=37 then q58 true r (at_+1)
  else if q4m c.toNat=true then q58 false r (at_+1)
  else at_
def q0l(s:List UInt8)(at_:Nat):Nat:=q58 false (s.drop at_) at_
def q71(s:List UInt8):List UInt8:=s.takeWhile fun c => !q4m c.toNat && !q9w c
def q0p(s:List UInt8)(at_:Nat):List UInt8:=q71 (s.drop at_)
def q2y(s:List UInt8)(n:Int):Nat:=(min (max n 0) s.length).toNat
theorem z3v:∀(s:List UInt8) (b:Bool) (k:Nat),k≤q58 b s k∧q58 b s k≤k+s.length
 |[],b,k=>by simp[q58]
 |c::r,b,k=>by
  unfold q58;simp only[Zae];split
  ·have:=z3v r (decide (c.toNat≠10)&&decide (c.toNat≠13)) (k+1);omega
  ·split
   ·have:=z3v r true (k+1);omega
   ·split
    ·have:=z3v r false (k+1);omega
    ·omega
theorem q0r{s:List UInt8}{k:Nat}(h:k≤s.length):k≤q0l s k∧q0l s k≤s.length:=by
 have:=z3v (s.drop k) false k;rw[Zau]at this;unfold q0l;omega
theorem q0I(s:List UInt8)(k:Nat):(q0p s k).length≤s.length-k:=by
 have:=(List.takeWhile_sublist (fun c:UInt8 => !q4m c.toNat && !q9w c) (l:=s.drop k)).length_le;rw[Zau]at this;exact this
theorem j2d{c:UInt8}(h:c.toNat<128):(Utf8.encode (c.toNat:Int)).data.toList=[c]:=by
 have:∀n:Fin 128,(Utf8.encode ((n.val:Nat):Int)).data.toList=[UInt8.ofNat n.val]:=by decide +kernel
 have:=this ⟨c.toNat,h⟩;simp only at this;rw[this];simp
def z0o:q0g:=
 Qr [Qx 2 (.k (.d .nil))] (.seq (Qr [Qc 3 0,Qk 4 .lss 3 (-1000000000),Qc 5 4,Qd 6 0 5 false,Qg 7 (.bin .gtr (.t 6) (Ki 1000000000)) 5 false,Qo 8 5 7] (.cond (.t 8) (Qr [Q 9 
 (.mkI 49 (Ki 1)),Qa 2 9] .ret) .skip)) (Qr [Qx 2 (.k (.d .nil))] .ret))
def z0r:List LRes:=[.tmp 2]
theorem z0g:q0n Tryz.prog 137 10 z0o z0r:=⟨_,_,Tryz.func137,rfl,by kernel_rfl,by kernel_rfl,rfl⟩
/-! ### What they say -/
def err(k:Int):D:=.iface 49 (.int .i64 k)
def Lim(n:Int):Prop := -1000000000≤n∧n≤1000000000
instance (n:Int):Decidable (Lim n):=inferInstanceAs (Decidable (_∧_))
def I(n:Int):D:=.int .i64 n
theorem j04{n:Int}(h:Lim n):q0i Tryz.prog 137 [.int .i64 n] (fun r=>r=.one .nil):=by
 refine z0g.call rfl ?_;simp(maxSteps:=2000000)only[go_sem,↓reduceIte,z0o,z0r];unfold Lim at h;refine⟨fun a b=>?_,fun a=>?_⟩<;>exfalso<;>omega
theorem z7P{n:Int}(h:¬Lim n):q0i Tryz.prog 137 [.int .i64 n] (fun r=>r=.one (err 1)):=by
 refine z0g.call rfl ?_;simp(maxSteps:=2000000)only[go_sem,↓reduceIte,z0o,z0r];unfold Lim at h;refine⟨fun a=>⟨fun b=>?_,fun b=>?_⟩,fun a=>?_⟩<;>first|rfl|(exfalso;omega)
def q60:List UInt8→Nat→Nat→Int→Option (Nat×Nat×Int)
 |[],n,d,p=>some (n,d,p)
 |c::r,n,d,p=>
  if c.toNat=46∧p<0 then q60 r n d 0
  else if c.toNat<48∨57<c.toNat then none
  else q60 r (if p<3∧n≤1000000000 then 10*n+(c.toNat-48)else n) (d+1) (if 0≤p then p+1 else p)
def finP(neg:Bool):Option (Nat×Nat×Int)→Int×Nat
 |none=>(0,4)
 |some (n,d,p)=>if d=0 then(0,4)else if 1000000000<n*10 ^ (3-p.toNat)then(0,1)else(if neg=true then -((n*10 ^ (3-p.toNat):Nat):Int)else((n*10 ^ (3-p.toNat):Nat):Int),0)
def z9d:List UInt8→Bool×List UInt8
 |[]=>(false,[])
 |c::r=>if c.toNat=45 then(true,r)else if c.toNat=43 then(false,r)else(false,c::r)
def q6E(s:List UInt8):Int×Nat:=finP (z9d s).1 (q60 (z9d s).2 0 0 (-1))
def resP(p:Int×Nat):Res:=.tup [.int .i64 p.1,errD p.2]
def z0p:q0g:=
 Qr [Qx 2 (Ki 0),Qx 3 (.k (.d .nil))] (Qr [Qc 11 0,Qa 4 11] (Qr [Qx 5 KF] (.seq (Qr [Qc 12 4,Q 13 (.bin .neq (.t 12) (.k (.d (.str [])))),Qc 14 13,Qd 15 4 14 true,Qg 16 (.idxS 
 (.t 15) (Ki 0)) 14 true,Qg 17 (.bin .eql (.t 16) (Kb 45)) 14 true,Qd 18 17 14 true,Qd 19 4 18 false,Qg 20 (.idxS (.t 19) (Ki 0)) 18 false,Qg 21 (.bin .eql (.t 20) (Kb 43)) 
 18 false,Qg 22 (.pick (.t 18) KT (.t 21)) 14 true,Qp 23 14 22] (.cond (.t 23) (.dreg [Qc 24 4,Q 25 (.idxS (.t 24) (Ki 0)),Q 26 (.bin .eql (.t 25) (Kb 45)),Qc 27 4,Q 28 
 (.subS (.t 27) (some (Ki 1)) none),Qc 5 26,Qc 4 28]) .skip)) (Qr [Qx 6 (Ki 0),Qx 7 (Ki 0),Qx 8 (Ki (-1))] (.seq (Qr [Qc 29 4,Qz 30 true 29,Q 31 (.cp (Ki 0))] (.block 0 
 (.loop (Qr [Qb 32 .lss 31 30] (.seq (.cond (.t 32) .skip (.exit 0)) (.seq (.block 1 (Qr [Qc 33 31,Qa 9 33] (Qr [Qc 34 4,Qc 35 9,Q 36 (.idxS (.t 34) (.t 35)),Qa 10 36] (.block 
 2 (Qr [Qc 56 10,Q 57 (.bin .eql (.t 56) (Kb 46)),Qc 58 57,Qd 59 8 58 true,Qg 60 (.bin .lss (.t 59) (Ki 0)) 58 true,Qp 61 58 60,Qa 55 61] (.cond (.t 55) (.reg [Qx 8 (Ki 0)]) 
 (Qr [Qc 63 10,Q 64 (.bin .lss (.t 63) (Kb 48)),Qc 65 64,Qd 66 10 65 false,Qg 67 (.bin .gtr (.t 66) (Kb 57)) 65 false,Qo 68 65 67,Qa 62 68] (.cond (.t 62) (Qr [Q 69 (.mkI 49 
 (Ki 4)),Qx 2 (Ki 0),Qa 3 69] .ret) (Qr [Qc 37 7,Qk 38 .add 37 1,Qa 7 38] (.seq (Qr [Qc 39 8,Qk 40 .lss 39 3,Qc 41 40,Qd 42 6 41 true,Qg 43 (.bin .leq (.t 42) (Ki 
 1000000000)) 41 true,Qp 44 41 43] (.cond (.t 44) (.reg [Qc 45 6,Q 46 (.bin .mul (Ki 10) (.t 45)),Qc 47 10,Q 48 (.bin .sub (.t 47) (Kb 48)),Q 49 (.cvI .i64 (.t 48)),Qb 50 
 .add 46 49,Qa 6 50]) .skip)) (Qr [Qc 51 8,Qk 52 .geq 51 0] (.cond (.t 52) (.reg [Qc 53 8,Qk 54 .add 53 1,Qa 8 54]) .skip)))))))))))) (.reg [Qk 70 .add 31 1,Qc 31 70]))))))) 
 (.seq (Qr [Qc 71 7,Qk 72 .eql 71 0] (.cond (.t 72) (Qr [Q 73 (.mkI 49 (Ki 4)),Qx 2 (Ki 0),Qa 3 73] .ret) .skip)) (.seq (Qr [Qc 74 8,Q 75 (.mm true (.t 74) (Ki 0)),Qa 8 75] 
 (.block 3 (.loop (.seq (Qr [Qc 76 8,Qk 77 .lss 76 3] (.cond (.t 77) .skip (.exit 3))) (.seq (.block 4 (.reg [Qc 80 6,Qk 81 .mul 80 10,Qa 6 81])) (.reg [Qc 78 8,Qk 79 .add 78 
 1,Qa 8 79])))))) (.seq (Qr [Qc 82 6,Qk 83 .gtr 82 1000000000] (.cond (.t 83) (Qr [Q 84 (.mkI 49 (Ki 1)),Qx 2 (Ki 0),Qa 3 84] .ret) .skip)) (.seq (Qr [Qc 85 5] (.cond (.t 85) 
 (.reg [Qc 86 6,Q 87 (.neg (.t 86)),Qa 6 87]) .skip)) (Qr [Qc 88 6,Qa 2 88,Qx 3 (.k (.d .nil))] .ret))))))))))
def z0s:List LRes:=[.tmp 2,.tmp 3]
theorem z5m:q0n Tryz.prog 136 89 z0p z0s:=⟨_,_,Tryz.func136,rfl,by kernel_rfl,by kernel_rfl,rfl⟩
theorem j2G(s:List UInt8)(hs:s.length≤1000000):q0i Tryz.prog 136 [.str s] (fun r=>r=resP (q6E s)):=by
 refine z5m.call rfl ?_;unfold q6E;cases s with
 |nil=>
  have hs0:z9d []=(false,[]):=rfl;have hR:resP (finP false (q60 [] 0 0 (-1)))=.tup [.int .i64 0,.iface 49 (.int .i64 4)]:=rfl;rw[hs0,hR];simp(maxSteps:=2000000)(disch:=omega)only[go_sem,↓reduceIte,z0p,z0s];refine q0X ?_;simp(maxSteps:=2000000)(disch:=omega)only[go_sem,↓reduceIte]
 |cons c r=>
  have hc8:=q1Q c;have hne:(c::r=[])=False:=by simp
  have hg0:getI (c::r) 0=some c:=rfl;have hcut:cutI (c::r) 1 ((r.length+1:Nat):Int)=r:=by
   show cutI (c::r) ((1:Nat):Int) _=r
   rw[q4n];simp
  have hlr:r.length+1≤1000000:=by simpa using hs
  generalize hst:z9d (c::r)=st;dsimp only[z9d]at hst;obtain⟨R,hR⟩:∃R,finP st.1 (q60 st.2 0 0 (-1))=R:=⟨_,rfl⟩;rw[hR];simp(maxSteps:=2000000)(disch:=omega)only[go_sem,↓reduceIte,z0p,z0s,hne,hg0,hcut];refine⟨fun a1=>⟨fun a2=>⟨by omega,?_⟩,fun a2=>?_⟩,fun a1=>⟨by omega,?_⟩⟩;rw[if_neg (by omega),if_pos (by omega)]at hst;subst hst;obtain⟨T,hT⟩:∃T,T=r:=⟨_,rfl⟩;obtain⟨N,hN⟩:∃N,N=false:=⟨_,rfl⟩;have hdec:decide ((c.toNat:Int)=45)=false:=by simp[a1]
  simp only[hdec];rw[←hT,←hN]at hR;have hlT:T.length≤1000000:=by rw[hT];omega
  rotate_left
  rw[if_neg (by omega),if_neg (by omega)]at hst;subst hst;obtain⟨T,hT⟩:∃T,T=c::r:=⟨_,rfl⟩;obtain⟨N,hN⟩:∃N,N=false:=⟨_,rfl⟩;rw[←hT,←hN]at hR;have hlT:T.length≤1000000:=by rw[hT];exact hs
  rotate_left
  rw[if_pos (by omega)]at hst;subst hst;obtain⟨T,hT⟩:∃T,T=r:=⟨_,rfl⟩;obtain⟨N,hN⟩:∃N,N=true:=⟨_,rfl⟩;have hdec:decide ((c.toNat:Int)=45)=true:=by simp[a1]
  simp only[hdec];rw[←hT,←hN]at hR;have hlT:T.length≤1000000:=by rw[hT];omega
  rotate_left
  all_goals
   refine q0f (fun y:Nat×Nat×Nat×Int=>⟨[(4,.d (.str T)),(5,.d (.bool N)),(6,.d (.int .i64 y.2.1)),(7,.d (.int .i64 y.2.2.1)),(8,.d (.int .i64 y.2.2.2)),(30,.d (.int .i64 (T.length:Nat))),(31,.d (.int .i64 y.1))],[],[]⟩)
    (fun y=>y.1≤T.length∧y.2.1≤10000000009∧y.2.2.1≤y.1 ∧ -1≤y.2.2.2∧y.2.2.2≤y.1∧finP N (q60 (T.drop y.1) y.2.1 y.2.2.1 y.2.2.2)=R) (fun y=>T.length-y.1) (0,0,0,-1) ?_ ?_ ?_
   ·refine q0d ?_ trivial;simp(maxSteps:=2000000)only[go_sem,↓reduceIte,Sub,Zaa,Zab,hT,hN]
   ·exact⟨by simp,by simp,by simp,by simp,by simp,by simpa using hR⟩
   ·rintro⟨i,n,d,p⟩ ⟨hi,hn,hd,hp,hp2,hF⟩;simp only at hi hn hd hp hp2 hF;simp(maxSteps:=2000000)only[go_sem,↓reduceIte];refine⟨fun q1=>?_,fun q1=>?_⟩
    ·obtain⟨x,hx⟩:=get_some (l:=T) (i:=i) (by omega);have hx8:=q1Q x;rw[drop_cons hx]at hF;unfold q60 at hF
     by_cases e1:x.toNat=46∧p<0
     ·rw[if_pos e1]at hF;have e1a:(x.toNat:Int)=46:=by omega
      simp(maxSteps:=2000000)(disch:=omega)only[go_sem,↓reduceIte,q0a,hx,e1a,e1.2];refine⟨(i+1,n,d,0),?_,⟨by simp only;omega,hn,by simp only;omega,by simp,by simp only;omega,hF⟩,by simp only;omega⟩;refine q0d ?_ trivial;simp(maxSteps:=2000000)only[go_sem,↓reduceIte,Sub,Zaa,Zab]
     ·rw[if_neg e1]at hF
      by_cases e2:x.toNat<48∨57<x.toNat
      ·rw[if_pos e2]at hF;subst hF;have hres:resP (finP N none)=.tup [.int .i64 0,.iface 49 (.int .i64 4)]:=rfl;rw[hres];simp(maxSteps:=2000000)only[go_sem,↓reduceIte,q0a,hx];refine⟨fun a=>⟨fun b=>by omega,fun b=>fun c=>by omega⟩,fun a=>fun b c=>by omega⟩
      ·rw[if_neg e2]at hF;have hne46:¬((x.toNat:Int)=46):=by omega
       have h48:¬((x.toNat:Int)<48):=by omega
       have h57:¬(57<(x.toNat:Int)):=by omega
       obtain⟨k,hk⟩:∃k,x.toNat-48=k:=⟨_,rfl⟩;have hk':(x.toNat:Int)-48=(k:Int):=by omega
       rw[hk]at hF;simp(maxSteps:=2000000)(disch:=omega)only[go_sem,↓reduceIte,q0a,hx,hne46,h48,h57,hk'];refine⟨fun b1=>⟨fun b2=>⟨fun b3=>?_,fun b3=>?_⟩,fun b2=>⟨fun b3=>?_,fun b3=>?_⟩⟩,fun b1=>⟨fun b3=>?_,fun b3=>?_⟩⟩
       ·rw[if_pos ⟨b1,by omega⟩,if_pos b3]at hF;refine⟨(i+1,10*n+k,d+1,p+1),?_,⟨by simp only;omega,by simp only;omega,by simp only;omega,by simp only;omega,by simp only;omega,hF⟩,by simp only;omega⟩;refine q0d ?_ trivial;simp(maxSteps:=2000000)only[go_sem,↓reduceIte,Sub,Zaa,Zab]
       ·rw[if_pos ⟨b1,by omega⟩,if_neg b3]at hF;refine⟨(i+1,10*n+k,d+1,p),?_,⟨by simp only;omega,by simp only;omega,by simp only;omega,by simp only;omega,by simp only;omega,hF⟩,by simp only;omega⟩;refine q0d ?_ trivial;simp(maxSteps:=2000000)only[go_sem,↓reduceIte,Sub,Zaa,Zab]
       ·rw[if_neg (fun h=>b2 (by omega)),if_pos b3]at hF;refine⟨(i+1,n,d+1,p+1),?_,⟨by simp only;omega,by simp only;omega,by simp only;omega,by simp only;omega,by simp only;omega,hF⟩,by simp only;omega⟩;refine q0d ?_ trivial;simp(maxSteps:=2000000)only[go_sem,↓reduceIte,Sub,Zaa,Zab]
       ·rw[if_neg (fun h=>b2 (by omega)),if_neg b3]at hF;refine⟨(i+1,n,d+1,p),?_,⟨by simp only;omega,by simp only;omega,by simp only;omega,by simp only;omega,by simp only;omega,hF⟩,by simp only;omega⟩;refine q0d ?_ trivial;simp(maxSteps:=2000000)only[go_sem,↓reduceIte,Sub,Zaa,Zab]
       ·rw[if_neg (fun h=>b1 h.1),if_pos b3]at hF;refine⟨(i+1,n,d+1,p+1),?_,⟨by simp only;omega,by simp only;omega,by simp only;omega,by simp only;omega,by simp only;omega,hF⟩,by simp only;omega⟩;refine q0d ?_ trivial;simp(maxSteps:=2000000)only[go_sem,↓reduceIte,Sub,Zaa,Zab]
       ·rw[if_neg (fun h=>b1 h.1),if_neg b3]at hF;refine⟨(i+1,n,d+1,p),?_,⟨by simp only;omega,by simp only;omega,by simp only;omega,by simp only;omega,by simp only;omega,hF⟩,by simp only;omega⟩;refine q0d ?_ trivial;simp(maxSteps:=2000000)only[go_sem,↓reduceIte,Sub,Zaa,Zab]
    ·rw[Zai (by omega)]at hF;unfold q60 at hF;dsimp only[finP]at hF;refine⟨fun c1=>?_,fun c1=>?_⟩
     ·rw[if_pos (by omega)]at hF;subst hF;simp[resP,errD]
     ·rw[if_neg (by omega)]at hF;have hmx:(if p<0 then 0 else p)=((p.toNat:Nat):Int):=by split<;>omega
      rw[hmx];have hP9:p.toNat≤1000000:=by omega
      generalize p.toNat=P at hF hP9 ⊢;refine q0f (fun k:Nat=>⟨[(5,.d (.bool N)),(6,.d (.int .i64 (n*10 ^ k:Nat))),(8,.d (.int .i64 (P+k:Nat)))],[],[]⟩)
       (fun k=>k≤3-P) (fun k=>3-k) 0 ?_ ?_ ?_
      ·refine q0d ?_ trivial;simp(maxSteps:=2000000)only[go_sem,↓reduceIte,Sub,Zaa,Zab,Nat.pow_zero,Nat.mul_one,Zdg]
      ·omega
      ·intro k hk;have h10:10 ^ k≤10 ^ 3:=Zct (by decide) (by omega);have hM:n*10 ^ k≤10000000009*10 ^ 3:=Nat.mul_le_mul hn h10;simp(maxSteps:=2000000)only[go_sem,↓reduceIte];refine⟨fun c2=>?_,fun c2=>?_⟩
       ·have hs1:n*10 ^ (k+1)=n*10 ^ k*10:=by rw[Zdk,Nat.mul_assoc]
        generalize hMM:n*10 ^ k=M at hM hs1 ⊢;simp(disch:=omega)only[IntWalk.i64_in,IntWalk.u8_in];refine⟨k+1,?_,by omega,by omega⟩;refine q0d ?_ trivial;simp(maxSteps:=2000000)only[go_sem,↓reduceIte,Sub,Zaa,Zab,hs1];rw[Int.add_assoc]
       ·have hk3:k=3-P:=by omega
        rw[←hk3]at hF;generalize hMM:n*10 ^ k=M at hM hF ⊢;refine⟨fun c3=>?_,fun c3=>?_⟩
        ·rw[if_pos (by omega)]at hF;subst hF;simp[resP,errD]
        ·rw[if_neg (by omega)]at hF;subst hF;cases N
         ·simp(maxSteps:=2000000)(disch:=omega)only[go_sem,↓reduceIte,resP,errD]
         ·simp(maxSteps:=2000000)(disch:=omega)only[go_sem,↓reduceIte,resP,errD,Int.zero_sub]
theorem indexByte_none{l:List UInt8}{c:UInt8}:Lib.indexByte l c = -1↔c∉l:=by
 induction l with
 |nil=>simp[Lib.indexByte]
 |cons b l ih=>
  have hge:=Lib.indexByte_ge l c;simp only[Lib.indexByte,Zba,not_or]
  by_cases h:b=c
  ·simp[h]
  ·rw[if_neg (by simpa using h)]
   by_cases h2:Lib.indexByte l c = -1
   ·rw[if_pos (by simpa using h2)];simp only[true_iff];exact⟨fun e=>h e.symm,ih.1 h2⟩
   ·rw[if_neg (by simpa using h2)];constructor
    ·intro e;omega
    ·intro e;exact absurd (ih.2 e.2) h2
theorem z1o{l:List UInt8}{c:UInt8}:(0≤Lib.indexByte l c)↔c∈l:=by
 have h:=indexByte_none (l:=l) (c:=c);have hge:=Lib.indexByte_ge l c;constructor
 ·intro h1
  by_cases hc:c∈l
  ·exact hc
  ·have:=h.2 hc;omega
 ·intro h1
  by_cases hc:Lib.indexByte l c = -1
  ·exact absurd h1 (h.1 hc)
  ·omega
def q2e:q0g:=
 Qr [Qx 4 (Ki 0)] (Qr [Qc 5 0,Qc 6 1,Qq 7 200 [5,6],Qa 4 7] .ret)
def q2j:List LRes:=[.tmp 4]
theorem q3L:q0n Tryz.prog 191 8 q2e q2j:=⟨_,_,Tryz.func191,rfl,by kernel_rfl,by kernel_rfl,rfl⟩
theorem q6Z(s:List UInt8)(c:UInt8):q0i Tryz.prog 191 [.str s,.int .u8 c.toNat] (fun r=>r=.one (.int .i64 (Lib.indexByte s c))):=by
 refine q3L.call rfl ?_;simp(maxSteps:=2000000)only[go_sem,↓reduceIte,q2e,q2j];refine q0e.entry Tryz.func200 (by kernel_rfl) (by kernel_rfl) (by kernel_rfl) (e:=Extern.BytealgIndexByte.indexByte) (by kernel_rfl) (.d (.int .i64 (Lib.indexByte s c))) (fun G w vs hl hv=>?_) ?_
 ·match vs,hl with
  |[v,u],_=>
   have h0:AVR G w (.d (.str s)) v:=hv 0 _ rfl;have h1:AVR G w (.d (.int .u8 c.toNat)) u:=hv 1 _ rfl;have h0:=h0.dinv;have h1:=h1.dinv;cases h0;cases h1;refine⟨_,Lib.run_indexByteString _ _ w,?_⟩;have e:(((c.toNat:Int).toNat).toUInt8)=c:=by simp
   rw[e];exact .d _ _ (.int _ _)
 simp(maxSteps:=2000000)only[go_sem,↓reduceIte]
def q6d:q0g:=
 Qr [Qx 4 (Ki 0)] (Qr [Qc 5 0,Qc 6 1,Qj 7 191 [5,6],Qa 4 7] .ret)
def q6i:List LRes:=[.tmp 4]
theorem q8G:q0n Tryz.prog 173 8 q6d q6i:=⟨_,_,Tryz.func173,rfl,by kernel_rfl,by kernel_rfl,rfl⟩
theorem z0e(s:List UInt8)(c:UInt8):q0i Tryz.prog 173 [.str s,.int .u8 c.toNat] (fun r=>r=.one (.int .i64 (Lib.indexByte s c))):=by
 refine q8G.call rfl ?_;simp(maxSteps:=2000000)only[go_sem,↓reduceIte,q6d,q6i];refine q0c.of (q6Z s c) ?_;simp(maxSteps:=2000000)only[go_sem,↓reduceIte]
/-! ### One byte in a string -/
def q2L:q0g:=
 Qr [Qx 4 (Ki 0)] (Qr [Qc 14 1,Qz 15 true 14,Qa 5 15] (.seq (.block 0 (Qr [Qc 17 5,Qk 18 .eql 17 0,Qc 19 18,Qd 20 1 19 false,Qd 21 0 19 false,Qg 22 (.bin .eql (.t 20) (.t 
 21)) 19 false,Qo 23 19 22,Qa 16 23] (.cond (.t 16) (Qr [Qx 4 (Ki 0)] .ret) (Qr [Qc 25 5,Qk 26 .eql 25 1,Qa 24 26] (.cond (.t 24) (Qr [Qc 27 0,Qc 28 1,Q 29 (.idxS (.t 28) 
 (Ki 0)),Qj 30 191 [27,29],Qa 4 30] .ret) (Qr [Qc 32 5,Qc 33 0,Qz 34 true 33,Qb 35 .geq 32 34,Qa 31 35] (.cond (.t 31) (Qr [Qx 4 (Ki (-1))] .ret) (.seq .bad (.cond (.t 36) 
 (Qr [Qc 45 0,Qc 46 1,Qq 47 192 [45,46],Qa 4 47] .ret) .skip))))))))) (Qr [Qc 48 1,Q 49 (.idxS (.t 48) (Ki 0)),Qa 6 49] (Qr [Qc 50 1,Q 51 (.idxS (.t 50) (Ki 1)),Qa 7 51] 
 (Qr [Qx 8 (Ki 0)] (Qr [Qc 52 0,Qz 53 true 52,Qc 54 5,Qb 55 .sub 53 54,Qk 56 .add 55 1,Qa 9 56] (Qr [Qx 10 (Ki 0)] (.seq (.block 1 (.loop (.seq (Qr [Qc 57 8,Qc 58 9,Qb 59 
 .lss 57 58] (.cond (.t 59) .skip (.exit 1))) (.block 2 (.seq (Qr [Qc 60 0,Qc 61 8,Q 62 (.idxS (.t 60) (.t 61)),Qc 63 6,Qb 64 .neq 62 63] (.cond (.t 64) (Qr [Qc 65 0,Qc 66 8, 
 Qk 67 .add 66 1,Qc 68 9,Q 69 (.subS (.t 65) (some (.t 67)) (some (.t 68))),Qc 70 6,Qj 71 191 [69,70],Qa 11 71] (.seq (Qr [Qc 72 11,Qk 73 .lss 72 0] (.cond (.t 73) (Qr [Qx 
 4 (Ki (-1))] .ret) .skip)) (.reg [Qc 74 8,Qc 75 11,Qk 76 .add 75 1,Qb 77 .add 74 76,Qa 8 77]))) .skip)) (.seq (Qr [Qc 78 0,Qc 79 8,Qk 80 .add 79 1,Q 81 (.idxS (.t 78) (.t 
 80)),Qc 82 7,Qb 83 .eql 81 82,Qc 84 83,Qd 85 0 84 true,Qd 86 8 84 true,Qd 87 8 84 true,Qd 88 5 84 true,Qg 89 (.bin .add (.t 87) (.t 88)) 84 true,Qg 90 (.subS (.t 85) 
 (some (.t 86)) (some (.t 89))) 84 true,Qd 91 1 84 true,Qg 92 (.bin .eql (.t 90) (.t 91)) 84 true,Qp 93 84 92] (.cond (.t 93) (Qr [Qc 94 8,Qa 4 94] .ret) .skip)) (Qr [Qc 95 8, 
 Qk 96 .add 95 1,Qa 8 96] (Qr [Qc 97 10,Qk 98 .add 97 1,Qa 10 98] (.seq .bad (.cond (.t 107) (Qr [Qc 108 0,Qc 109 8,Q 110 (.subS (.t 108) (some (.t 109)) none),Qc 111 1,Qq 
 112 192 [110,111],Qa 12 112] (.seq (Qr [Qc 113 12,Qk 114 .geq 113 0] (.cond (.t 114) (Qr [Qc 115 12,Qc 116 8,Qb 117 .add 115 116,Qa 4 117] .ret) .skip)) (Qr [Qx 4 (Ki 
 (-1))] .ret))) (.seq .bad (.cond (.t 132) (Qr [Qc 133 0,Qc 134 8,Q 135 (.subS (.t 133) (some (.t 134)) none),Qc 136 1,Qj 137 194 [135,136],Qa 13 137] (.seq (Qr [Qc 138 13, 
 Qk 139 .lss 138 0] (.cond (.t 139) (Qr [Qx 4 (Ki (-1))] .ret) .skip)) (Qr [Qc 140 8,Qc 141 13,Qb 142 .add 140 141,Qa 4 142] .ret))) .skip)))))))))))) (Qr [Qx 4 (Ki (-1))] 
 .ret)))))))))
def q2O:List LRes:=[.tmp 4]
theorem q49:q0n Tryz.prog 171 143 q2L q2O:=⟨_,_,Tryz.func171,rfl,by kernel_rfl,by kernel_rfl,rfl⟩
theorem z4p(s:List UInt8)(c:UInt8):q0i Tryz.prog 171 [.str s,.str [c]] (fun r=>r=.one (.int .i64 (Lib.indexByte s c))):=by
 refine q49.call rfl ?_;simp(maxSteps:=2000000)only[go_sem,↓reduceIte,q2L,q2O];refine⟨fun h=>?_,fun h=>?_⟩
 ·subst h;simp[Lib.indexByte]
 ·have:getI [c] 0=some c:=rfl;simp(maxSteps:=2000000)only[go_sem,↓reduceIte,this];refine q0c.of (q6Z s c) ?_;simp(maxSteps:=2000000)only[go_sem,↓reduceIte]
def q8P:q0g:=
 Qr [Qx 4 (Ki 0)] (Qr [Qc 5 0,Qc 6 1,Qj 7 171 [5,6],Qa 4 7] .ret)
def q8X:List LRes:=[.tmp 4]
theorem z1r:q0n Tryz.prog 131 8 q8P q8X:=⟨_,_,Tryz.func131,rfl,by kernel_rfl,by kernel_rfl,rfl⟩
def q6Q:q0g:=
 Qr [Qx 4 KF] (Qr [Qc 5 0,Qc 6 1,Qj 7 131 [5,6],Qk 8 .geq 7 0,Qa 4 8] .ret)
def q6S:List LRes:=[.tmp 4]
theorem q9g:q0n Tryz.prog 82 9 q6Q q6S:=⟨_,_,Tryz.func82,rfl,by kernel_rfl,by kernel_rfl,rfl⟩
theorem z0a(s:List UInt8)(c:UInt8):q0i Tryz.prog 82 [.str s,.str [c]] (fun r=>r=.one (.bool (decide (c∈s)))):=by
 have h:q0i Tryz.prog 131 [.str s,.str [c]] (fun r=>r=.one (.int .i64 (Lib.indexByte s c))):=by
  refine z1r.call rfl ?_;simp(maxSteps:=2000000)only[go_sem,↓reduceIte,q8P,q8X];refine q0c.of (z4p s c) ?_;simp(maxSteps:=2000000)only[go_sem,↓reduceIte]
 refine q9g.call rfl ?_;simp(maxSteps:=2000000)only[go_sem,↓reduceIte,q6Q,q6S];refine q0c.of h ?_;simp(maxSteps:=2000000)only[go_sem,↓reduceIte];congr 2
 simp only[z1o]
inductive Bld where
 |new
 |nul
 |has (s:List UInt8)
def Bld.obj:Bld→AObj
 |.new=>.cells [.nt 135,.ns]
 |.nul=>.cells [.ptr (.x 0) 0,.ns]
 |.has s=>.cells [.ptr (.x 0) 0,.own (.c (.x 0) 1) 5 1 (q0v s)]
def Bld.bytes:Bld→List UInt8
 |.has s=>s
 |_=>[]
def q1y:q0g:=
 Qr [Qc 2 0,Qn 3 2,Qf 4 0 3,Ql 5 4,Q 6 (.eqN 1 false (.t 5))] (.cond (.t 6) (.reg [Qc 7 0,Qc 8 0,⟨some 9,.prim (.conv 133 208) [.t 8] [],none⟩,Qq 10 181 [9],⟨some 11, 
 .prim (.conv 208 133) [.t 10] [],none⟩,Qn 12 7,Qf 13 0 12,Qs 1 13 11]) (Qr [Qc 14 0,Qn 15 14,Qf 16 0 15,Ql 17 16,Qc 18 0,⟨some 19,.prim (.eq .neq 133) [.t 17,.t 18] 
 [],none⟩] (.cond (.t 19) .bad .skip)))
def q1A:List LRes:=[]
theorem q12:q0n Tryz.prog 161 20 q1y q1A:=⟨_,_,Tryz.func161,rfl,by kernel_rfl,by kernel_rfl,rfl⟩
theorem z1f:q1r Tryz.prog 161 [.ptr (.x 0) 0] [.cells [.nt 135,.ns]] (.tuple []) [.cells [.ptr (.x 0) 0,.ns]]:=by
 refine q12.q0C (by kernel_rfl) rfl ?_;simp(maxSteps:=2000000)only[go_sem,↓reduceIte,q1y,q1A,AV.den];refine q0e.j7c (m:=1) rfl rfl (by decide) Tryz.underlying133 Tryz.underlying208 (by kernel_rfl) ?_;simp(maxSteps:=2000000)only[go_sem,↓reduceIte];refine q0e.entry Tryz.func181 (by kernel_rfl) (by kernel_rfl) (by kernel_rfl) (e:=Extern.AbiNoEscape.same) (by kernel_rfl) (.ptr (.x 0) 0) (fun G w vs hl hv=>?_) ?_
 ·match vs,hl with
  |[v],_=>exact⟨v,Lib.run_noEscape w v,hv 0 _ rfl⟩
 simp(maxSteps:=2000000)only[go_sem,↓reduceIte];refine q0e.j2n (i:=0) rfl rfl rfl Tryz.underlying208 Tryz.underlying133 (m:=2) (by kernel_rfl) (by kernel_rfl) ?_;simp(maxSteps:=2000000)only[go_sem,↓reduceIte]
theorem j8d:∃j,Tryz.prog.info? 135=some j:=by
 have h:(Tryz.prog.info? 135).isSome=true:=by kernel_rfl
 exact Option.isSome_iff_exists.1 h
theorem q5g(x:AV)(hx:x=.ns∨∃s,x=.own (.c (.x 0) 1) 5 1 (q0v s)):q1r Tryz.prog 161 [.ptr (.x 0) 0] [.cells [.ptr (.x 0) 0,x]] (.tuple []) [.cells [.ptr (.x 0) 0,x]]:=by
 obtain⟨j,hj⟩:=j8d;have done:q1r Tryz.prog 161 [.ptr (.x 0) 0] [.cells [.ptr (.x 0) 0,x]] (.tuple []) [.cells [.ptr (.x 0) 0,x]]:=by
  refine q12.q0C (by kernel_rfl) rfl ?_;simp(maxSteps:=2000000)only[go_sem,↓reduceIte,q1y,q1A,AV.den];refine q0e.j8K rfl rfl Tryz.underlying133 hj ?_;simp(maxSteps:=2000000)only[go_sem,↓reduceIte]
 exact done
def q09:q0g:=
 Qr [Qx 4 (.k (.d .nil))] (Qr [Qc 5 0,Qq 6 161 [5]] (Qr [Qc 7 0,Qc 8 0,Qn 9 8,Qf 10 1 9,Ql 11 10,Qc 12 1,⟨some 13,.bsl 5 1 [.t 12],none⟩,⟨some 14,.app 5 1 1 false (.t 11) 
 (.t 13),none⟩,Qn 15 7,Qf 16 1 15,Qs 1 16 14] (Qr [Qx 4 (.k (.d .nil))] .ret)))
def q1a:List LRes:=[.tmp 4]
theorem q1p:q0n Tryz.prog 125 17 q09 q1a:=⟨_,_,Tryz.func125,rfl,by kernel_rfl,by kernel_rfl,rfl⟩
def q0Z:q0g:=
 Qr [Qx 4 (Ki 0),Qx 5 (.k (.d .nil))] (Qr [Qc 6 0,Qq 7 161 [6]] (Qr [Qc 8 0,Qc 9 0,Qn 10 9,Qf 11 1 10,Ql 12 11,Qc 13 1,⟨some 14,.app 5 1 1 true (.t 12) (.t 13),none⟩,Qn 
 15 8,Qf 16 1 15,Qs 1 16 14] (Qr [Qc 17 1,Qz 18 true 17,Qa 4 18,Qx 5 (.k (.d .nil))] .ret)))
def q01:List LRes:=[.tmp 4,.tmp 5]
theorem q1k:q0n Tryz.prog 121 19 q0Z q01:=⟨_,_,Tryz.func121,rfl,by kernel_rfl,by kernel_rfl,rfl⟩
theorem z3g(b:Bld)(t:List UInt8)(hl:(b.bytes++t).length≤1000000000):q1r Tryz.prog 121 [.ptr (.x 0) 0,.d (.str t)] [b.obj] (.tuple [.d (.int .i64 t.length),.d .nil]) [Bld.obj (.has (b.bytes++t))]:=by
 have hbl:=q0o t;cases b with
 |new=>
  refine q1k.q0C (by kernel_rfl) rfl ?_;simp(maxSteps:=2000000)only[go_sem,↓reduceIte,q0Z,q01,AV.den,Bld.obj];refine q0e.mc1 (.x 0) rfl (z1f) rfl rfl rfl rfl ⟨rfl,rfl⟩ ?_;simp only[Bld.bytes,Zbj]at hl;simp(maxSteps:=2000000)only[go_sem,↓reduceIte,Bld.bytes,AV.den,hbl];omega
 |nul=>
  refine q1k.q0C (by kernel_rfl) rfl ?_;simp(maxSteps:=2000000)only[go_sem,↓reduceIte,q0Z,q01,AV.den,Bld.obj];refine q0e.mc1 (.x 0) rfl (q5g _ (.inl rfl)) rfl rfl rfl rfl ⟨rfl,rfl⟩ ?_;simp only[Bld.bytes,Zbj]at hl;simp(maxSteps:=2000000)only[go_sem,↓reduceIte,Bld.bytes,AV.den,hbl];omega
 |has s=>
  have hbs:=q0o s;refine q1k.q0C (by kernel_rfl) rfl ?_;simp(maxSteps:=2000000)only[go_sem,↓reduceIte,q0Z,q01,AV.den,Bld.obj];refine q0e.mc1 (.x 0) rfl (q5g _ (.inr ⟨s,rfl⟩)) rfl rfl rfl rfl ⟨rfl,rfl⟩ ?_;simp only[Bld.bytes,Zad]at hl;simp(maxSteps:=2000000)only[go_sem,↓reduceIte,Bld.bytes,AV.den,hbl,hbs,q0j];omega
theorem z5v(b:Bld)(c:UInt8)(hl:b.bytes.length+1≤1000000000):q1r Tryz.prog 125 [.ptr (.x 0) 0,.d (.int .u8 c.toNat)] [b.obj] (.d .nil) [Bld.obj (.has (b.bytes++[c]))]:=by
 cases b with
 |new=>
  refine q1p.q0C (by kernel_rfl) rfl ?_;simp(maxSteps:=2000000)only[go_sem,↓reduceIte,q09,q1a,AV.den,Bld.obj];refine q0e.mc1 (.x 0) rfl (z1f) rfl rfl rfl rfl ⟨rfl,rfl⟩ ?_;simp(maxSteps:=2000000)only[go_sem,↓reduceIte,Bld.bytes,AV.den,q0L,q06]
 |nul=>
  refine q1p.q0C (by kernel_rfl) rfl ?_;simp(maxSteps:=2000000)only[go_sem,↓reduceIte,q09,q1a,AV.den,Bld.obj];refine q0e.mc1 (.x 0) rfl (q5g _ (.inl rfl)) rfl rfl rfl rfl ⟨rfl,rfl⟩ ?_;simp(maxSteps:=2000000)only[go_sem,↓reduceIte,Bld.bytes,AV.den,q0L,q06]
 |has s=>
  have hbs:=q0o s;refine q1p.q0C (by kernel_rfl) rfl ?_;simp(maxSteps:=2000000)only[go_sem,↓reduceIte,q09,q1a,AV.den,Bld.obj];refine q0e.mc1 (.x 0) rfl (q5g _ (.inr ⟨s,rfl⟩)) rfl rfl rfl rfl ⟨rfl,rfl⟩ ?_;simp only[Bld.bytes]at hl;simp(maxSteps:=2000000)only[go_sem,↓reduceIte,Bld.bytes,AV.den,hbs,q0j,q0L,q06];omega
section
open Go.Shelf Go.RowKit
theorem j5G(b g cap:Nat)(p:Value)(cur:Array Value)(el:TypeId)(l:List UInt8)(w:World)(hbk:w.heap[b]?=some (.cells #[p,.slice (some ⟨g,0,none⟩) l.length cap] el (0,0)))(h0:l≠[])
  (hg:w.heap[g]?=some (.cells cur 5 (0,0))) (hnc:l.length≤cap) (hcm:cap≤maxLen) (hcs:cur.size=cap) (hcell:∀(j:Nat) (x:UInt8),l[j]?=some x→w.cell? ((⟨g,0,none⟩:Addr).add j)=some (.int .u8 x.toNat)):
  Calls Tryz.prog 79 #[.pointer (some ⟨b,0,none⟩)] w fun e w'=>e=.returned (.string ⟨l.toArray⟩)∧w'=w.drew.freeze ⟨g,0,none⟩ l.length:=by
 have hl0:l.length≠0:=by simpa using h0
 have c1:w.drew.cell? ⟨b,1,none⟩=some (.slice (some ⟨g,0,none⟩) l.length cap):=by
  have:w.drew.heap[b]?=some (.cells #[p,.slice (some ⟨g,0,none⟩) l.length cap] el (0,0)):=hbk;rw[Lib.cell_of_heap this];rfl
 have hSD:(Builtin.unsafeSliceData_ #[128] 169 #[.slice (some ⟨g,0,none⟩) l.length cap]).run Tryz.prog w.drew=.ok (.pointer (some ⟨g,0,none⟩)) w.drew:=
  Lib.run_unsafeSliceData_row _ _ _ _ _ _ (by omega)
 have hUS:(Builtin.unsafeString_ #[169,3] 9 #[.pointer (some ⟨g,0,none⟩),.int .i64 l.length]).run Tryz.prog w.drew=.ok (.string ⟨l.toArray⟩) (w.drew.freeze ⟨g,0,none⟩ l.length):=by
  refine Lib.run_unsafeString_row w.drew 169 3 9 5 Tryz.underlying169 (by kernel_rfl) g cur.size (by have hg':w.drew.heap[g]?=some (.cells cur 5 (0,0)):=hg;simp[World.shape?,hg']) l h0 (by omega) (by unfold maxLen at hcm;omega) ?_;intro j x hx;exact hcell j x hx
 go_enter Tryz.func79,Tryz.ntmps79
 go_wp2
 go_region
 all_goals(go_wp2;go_ret;exact⟨rfl,rfl⟩)
theorem j03(b:Nat)(p:Value)(el:TypeId)(w:World)(hbk:w.heap[b]?=some (.cells #[p,.slice none 0 0] el (0,0))):
  Calls Tryz.prog 79 #[.pointer (some ⟨b,0,none⟩)] w fun e w'=>e=.returned (.string ⟨#[]⟩)∧w'=w.drew:=by
 have hUS:∀(W:World) (q:Option Addr),(Builtin.unsafeString_ #[169,3] 9 #[.pointer q,.int .i64 0]).run Tryz.prog W=.ok (.string .empty) W:=fun W q=>Lib.run_unsafeString_none W _ _ _ q
 have c1:w.drew.cell? ⟨b,1,none⟩=some (.slice none 0 0):=by
  have:w.drew.heap[b]?=some (.cells #[p,.slice none 0 0] el (0,0)):=hbk;rw[Lib.cell_of_heap this];rfl
 have hSD:(Builtin.unsafeSliceData_ #[128] 169 #[.slice none 0 0]).run Tryz.prog w.drew=.ok (.pointer none) w.drew:=rfl
 go_enter Tryz.func79,Tryz.ntmps79
 go_wp2
 go_region
 all_goals(go_wp2;go_ret;exact⟨rfl,rfl⟩)
theorem j3p(b g cap:Nat)(p:Value)(el:TypeId)(w:World)(hc0:cap≠0)(hbk:w.heap[b]?=some (.cells #[p,.slice (some ⟨g,0,none⟩) 0 cap] el (0,0))):
  Calls Tryz.prog 79 #[.pointer (some ⟨b,0,none⟩)] w fun e w'=>e=.returned (.string ⟨#[]⟩)∧w'=w.drew:=by
 have hUS:∀(W:World) (q:Option Addr),(Builtin.unsafeString_ #[169,3] 9 #[.pointer q,.int .i64 0]).run Tryz.prog W=.ok (.string .empty) W:=fun W q=>Lib.run_unsafeString_none W _ _ _ q
 have c1:w.drew.cell? ⟨b,1,none⟩=some (.slice (some ⟨g,0,none⟩) 0 cap):=by
  have:w.drew.heap[b]?=some (.cells #[p,.slice (some ⟨g,0,none⟩) 0 cap] el (0,0)):=hbk;rw[Lib.cell_of_heap this];rfl
 have hSD:(Builtin.unsafeSliceData_ #[128] 169 #[.slice (some ⟨g,0,none⟩) 0 cap]).run Tryz.prog w.drew=.ok (.pointer (some ⟨g,0,none⟩)) w.drew:=
  Lib.run_unsafeSliceData_row _ _ _ _ _ _ hc0
 clear hc0
 go_enter Tryz.func79,Tryz.ntmps79
 go_wp2
 go_region
 all_goals(go_wp2;go_ret;exact⟨rfl,rfl⟩)
theorem z9G(b g:Nat)(p:Value)(el:TypeId)(cur:Array Value)(w:World)(hbk:w.heap[b]?=some (.cells #[p,.slice (some ⟨g,0,none⟩) 0 0] el (0,0)))(hg:w.heap[g]?=some (.cells cur 5 (0,0))):
  Calls Tryz.prog 79 #[.pointer (some ⟨b,0,none⟩)] w fun e w'=>e=.returned (.string ⟨#[]⟩)∧w'=w.drew.alloc (.view ⟨g,0,none⟩ 5):=by
 have hUS:∀(W:World) (q:Option Addr),(Builtin.unsafeString_ #[169,3] 9 #[.pointer q,.int .i64 0]).run Tryz.prog W=.ok (.string .empty) W:=fun W q=>Lib.run_unsafeString_none W _ _ _ q
 have hlt:b<w.heap.size:=by
  rcases Zbi b w.heap.size with h'|h'
  ·exact h'
  ·simp[Zcz h']at hbk
 have c1:w.drew.cell? ⟨b,1,none⟩=some (.slice (some ⟨g,0,none⟩) 0 0):=by
  have:w.drew.heap[b]?=some (.cells #[p,.slice (some ⟨g,0,none⟩) 0 0] el (0,0)):=hbk;rw[Lib.cell_of_heap this];rfl
 have hSD:(Builtin.unsafeSliceData_ #[128] 169 #[.slice (some ⟨g,0,none⟩) 0 0]).run Tryz.prog w.drew=.ok (.pointer (some ⟨w.drew.heap.size,0,none⟩)) (w.drew.alloc (.view ⟨g,0,none⟩ 5)):=
  Lib.run_unsafeSliceData_zero w.drew _ _ 5 Tryz.underlying169 ⟨g,0,none⟩ 0 (5,cur.size) (by have hg':w.drew.heap[g]?=some (.cells cur 5 (0,0)):=hg;simp[World.shape?,hg'])
 have c2:(w.drew.alloc (.view ⟨g,0,none⟩ 5)).cell? ⟨b,1,none⟩=some (.slice (some ⟨g,0,none⟩) 0 0):=by
  have:(w.drew.alloc (.view ⟨g,0,none⟩ 5)).heap[b]?=_:=(Lib.alloc_old w.drew _ b hlt).trans hbk;rw[Lib.cell_of_heap this];rfl
 have c3:(w.alloc (.view ⟨g,0,none⟩ 5)).drew.cell? ⟨b,1,none⟩=some (.slice (some ⟨g,0,none⟩) 0 0):=c2;have c0:w.cell? ⟨b,1,none⟩=some (.slice (some ⟨g,0,none⟩) 0 0):=c1
 go_enter Tryz.func79,Tryz.ntmps79
 go_wp2
 go_region
 all_goals(go_wp2;go_ret;exact⟨rfl,rfl⟩)
end
theorem q66(w:World)(g n b:Nat)(h:b≠g):(w.freeze ⟨g,0,none⟩ n).heap[b]?=w.heap[b]?:=by
 unfold World.freeze;split
 ·rfl
 ·simp only[Zda];rw[if_neg (fun e=>h e.symm)]
theorem z5f(w:World)(g n:Nat){cur:Array Value}{e:TypeId}{fz:Nat×Nat}(h:w.heap[g]?=some (.cells cur e fz)):∃fz',(w.freeze ⟨g,0,none⟩ n).heap[g]?=some (.cells cur e fz'):=by
 unfold World.freeze;split
 ·exact⟨fz,h⟩
 ·obtain⟨lo,hi⟩:=fz;simp only[Zda,if_true,h,Zax];exact⟨_,rfl⟩
theorem z3Z(w:World)(g n:Nat):(w.freeze ⟨g,0,none⟩ n).heap.size=w.heap.size:=by
 unfold World.freeze;split
 ·rfl
 ·simp
theorem z0A(w:World)(g n:Nat):(w.freeze ⟨g,0,none⟩ n).os=w.os∧(w.freeze ⟨g,0,none⟩ n).tape=w.tape∧(w.freeze ⟨g,0,none⟩ n).output=w.output:=by
 unfold World.freeze;split<;>exact⟨rfl,rfl,rfl⟩
theorem Ext.freeze{f:Nat→Nat}{w:World}{g n:Nat}{cur:Array Value}{e:TypeId}{fz:Nat×Nat}(h:w.heap[g]?=some (.cells cur e fz)):Ext f w f (w.freeze ⟨g,0,none⟩ n):=by
 refine⟨by rw[z3Z];exact Zak _,fun _=>Zak _,fun b i _=>?_,fun b es c _ hm=>?_⟩
 ·by_cases hb:b=g
  ·subst hb;obtain⟨fz',h'⟩:=z5f w b n h;simp[World.cell?,at_,h,h']
  ·simp only[World.cell?,at_];rw[q66 w g n b hb]
 ·by_cases hb:b=g
  ·subst hb;rw[h]at hm;cases hm
  ·rw[q66 w g n b hb];exact hm
theorem q9p{E:Entry}{n:Nat}{G:q0s}{σ:St}{ts:Array Value}{w:World}(h:SR E n G σ ts w){x:D}{v:Value}(hr:RD G.f w x v){o:AObj}(ho:σ.obj (.x 0)=some o):
  ∃G',SR E 1 G' ⟨[(0,.d x)],[],numO 0 [o]⟩ #[v] w:=
 ⟨_,h.final (q0:=none) (r:=.d x) (v:=v) (.d _ _ hr) (fun q hq=>by simp[AV.lab?]at hq) (fun _ _ e=>by cases e) (hs':=[o]) (fun i o' hi=>by
  cases i with
  |zero=>simp at hi;subst hi;exact ho
  |succ i=>simp at hi)⟩
def Bld.said:Bld→AObj
 |.has s=>.cells [.ptr (.x 0) 0,.d (.list (q0v s))]
 |b=>b.obj
theorem j0N(b:Bld)(hl:b.bytes.length≤1000000000):q1r Tryz.prog 79 [.ptr (.x 0) 0] [b.obj] (.d (.str b.bytes)) [b.said]:=by
 refine⟨by kernel_rfl,fun G w vs hI hown hsr=>?_⟩;have hv:vs = #[.pointer (some (at_ (G.b (.x 0)) 0))]:=by
  have h1:=hsr.slot 0 (.ptr (.x 0) 0) rfl;have h2:=hsr.size;match vs,h2 with
  |⟨[v]⟩,_=>
   have h1:AVR G w (.ptr (.x 0) 0) v:=h1;cases h1;rfl
 subst hv;have hob:St.obj ⟨q9b 0 [.ptr (.x 0) 0],[],numO 0 [b.obj]⟩ (.x 0)=some b.obj:=rfl;obtain⟨a0,c1,hbo,hc1⟩:∃a0 c1,b.obj=.cells [a0,c1]∧((c1=.ns∧b.bytes=[]∧b.said=b.obj)∨∃s,b=.has s∧c1=.own (.c (.x 0) 1) 5 1 (q0v s)):=by
  cases b with
  |new=>exact⟨_,_,rfl,.inl ⟨rfl,rfl,rfl⟩⟩
  |nul=>exact⟨_,_,rfl,.inl ⟨rfl,rfl,rfl⟩⟩
  |has s=>exact⟨_,_,rfl,.inr ⟨s,rfl,rfl⟩⟩
 have ho:=hsr.obj _ _ hob;rw[hbo]at ho;obtain⟨arr,el,g1,g2,g3⟩:=ho;obtain⟨p,v,rfl⟩:∃p v,arr = #[p,v]:=by
  match arr,g2 with
  |⟨[p,v]⟩,_=>exact⟨p,v,rfl⟩
 have hcell:=(g3 1 c1 rfl).1;have hcell:AVR G w c1 v:=hcell;rcases hc1 with⟨rfl,hb0,hsd⟩|⟨s,rfl,rfl⟩
 ·cases hcell;refine(j03 _ p el w g1).mono fun e w' ⟨e1,e2⟩=>?_
  subst e2;obtain⟨G',h5⟩:=q9p (hsr.drew) (x:=.str b.bytes) (v:=.string ⟨#[]⟩) (by rw[hb0];exact .str []) hob;exact⟨_,_,G',_,⟨rfl,rfl⟩,e1,rfl,by rw[hsd];exact h5⟩
 ·cases hcell with
  |own _ _ _ _ _ hq hrd hsz=>
   have h1:=hsr.erase (.c (.x 0) 1);have hob1:(St.erase ⟨q9b 0 [.ptr (.x 0) 0],[],numO 0 [Bld.obj (.has s)]⟩ (.c (.x 0) 1)).obj (.x 0)=some (.cells [.ptr (.x 0) 0,.d (.list (q0v s))]):=by
    rw[St.q4u,hob];simp[Bld.obj,q10,amod,AV.erase]
   obtain⟨k,xs,hown',hfb⟩:=hsr.lam _ _ _ _ hq;have hk:k=s.length:=by have:=z69 hrd hown';rwa [q0o]at this
   subst hk;rcases hown'.2 with⟨rfl,h0⟩|⟨g,cap,cur,rfl,_,hg,hnc,hcm,hcs,htk⟩
   ·have hs0:s=[]:=by simpa using h0
    subst hs0;refine(j03 _ p el w g1).mono fun e w' ⟨e1,e2⟩=>?_
    subst e2;obtain⟨G',h5⟩:=q9p (h1.drew) (x:=.str []) (v:=.string ⟨#[]⟩) (.str []) hob1;exact⟨_,_,G',_,⟨rfl,rfl⟩,e1,rfl,h5⟩
   ·by_cases hs0:s=[]
    ·subst hs0
     by_cases hc0:cap=0
     ·subst hc0;refine(z9G _ g p el cur w g1 hg).mono fun e w' ⟨e1,e2⟩=>?_
      subst e2;obtain⟨G',h5⟩:=q9p ((h1.drew).alloc (.view ⟨g,0,none⟩ 5) 0) (x:=.str []) (v:=.string ⟨#[]⟩) (.str []) hob1;exact⟨_,_,G',_,⟨rfl,rfl⟩,e1,rfl,h5⟩
     ·refine(j3p _ g cap p el w hc0 g1).mono fun e w' ⟨e1,e2⟩=>?_
      subst e2;obtain⟨G',h5⟩:=q9p (h1.drew) (x:=.str []) (v:=.string ⟨#[]⟩) (.str []) hob1;exact⟨_,_,G',_,⟨rfl,rfl⟩,e1,rfl,h5⟩
    ·refine(j5G _ g cap p cur el s w g1 hs0 hg hnc hcm (by simpa using hcs) (fun j x hx=>?_)).mono fun e w' ⟨e1,e2⟩=>?_
     ·have hlt:j<s.length:=(Zac.1 hx).1;have hadd:(⟨g,0,none⟩:Addr).add j=at_ g j:=q77 g j;rw[hadd];generalize hL:q0v s=L at hrd;have hLl:L.length=s.length:=by rw[←hL,q0o]
      have hLj:L[j]?=some (.int .u8 x.toNat):=by rw[←hL];simp[q0v,hx]
      generalize hvv:Value.slice (some ⟨g,0,none⟩) s.length cap=vv at hrd;cases hrd with
      |nils=>cases hvv
      |emp a c=>simp at hLj
      |list l b o cap' sz vs hcap hsz' hb' hc' hr'=>
       simp only[Value.slice.injEq,Zas]at hvv;obtain⟨e0,_,_⟩:=hvv;simp only[at_,Addr.mk.injEq]at e0;obtain⟨rfl,rfl,_⟩:=e0;have hm:=Zaf hLj;have hsz1:sz=1:=by have:=(hsz' _ hm).1;simpa[D.cells]using this.symm
       subst hsz1;have q1:=hc' j (by omega);have q2:=hr' j _ 0 _ hLj rfl;rw[Zbg]at q1;rw[q1];have e3:j*1+0=j:=by omega
       rw[e3]at q2;cases hvs:vs j<;>rw[hvs]at q2<;>cases q2;rfl
     ·subst e2;have hX:=h1.drew.z0m (w':=w.drew.freeze ⟨g,0,none⟩ s.length) (f':=G.f) (fun b=>b=g) (fun b hb=>by
       subst hb;refine⟨fun r o hr e=>?_,fun q v' p' hq' hvb=>?_,?_⟩
       ·have hr':∃o',St.obj ⟨q9b 0 [.ptr (.x 0) 0],[],numO 0 [Bld.obj (.has s)]⟩ r=some o':=by
         rw[St.q4u]at hr;cases h0:St.obj ⟨q9b 0 [.ptr (.x 0) 0],[],numO 0 [Bld.obj (.has s)]⟩ r with
         |none=>simp[h0]at hr
         |some o'=>exact⟨o',rfl⟩
        obtain⟨o',hr'⟩:=hr';exact hsr.lamObj _ _ _ _ _ hq rfl r o' hr' e
       ·simp only[updf]at hq';split at hq'
        ·cases hq'
        ·rename_i hne;exact hne (hsr.lamInj _ _ _ _ _ _ _ hq' hq hvb rfl)
       ·exact hsr.newLam _ _ _ _ _ hq rfl) (Ext.freeze (w:=w.drew) hg) (fun b hb hne=>⟨q66 _ _ _ _ hne,rfl⟩) (fun b hb=>h1.drew.top b (by rw[z3Z]at hb;exact hb)) (z0A _ _ _).1 (z0A _ _ _).2.1 (z0A _ _ _).2.2
      obtain⟨G',h5⟩:=q9p hX (x:=.str s) (v:=.string ⟨s.toArray⟩) (.str s) hob1;exact⟨_,_,G',_,⟨rfl,rfl⟩,e1,rfl,h5⟩
def q6e:q0g:=
 Qr [Qx 4 (Ki 0)] (.block 0 (Qr [Qc 161 1,Q 162 (.bin .leq (.k (.d (.int .i32 0))) (.t 161)),Qc 163 162,Qd 164 1 163 true,Qg 165 (.bin .lss (.t 164) (.k (.d (.int .i32 128)))) 
 163 true,Qp 166 163 165,Qa 160 166] (.cond (.t 160) (Qr [Qc 167 0,Qc 168 1,Q 169 (.cvI .u8 (.t 168)),Qj 170 173 [167,169],Qa 4 170] .ret) (Qr [Qc 172 1,Q 173 (.bin .eql 
 (.t 172) (.k (.d (.int .i32 65533)))),Qa 171 173] (.cond (.t 171) (.seq (Qr [Qc 174 0,⟨some 175,.prim (.range 9) [.t 174] [],none⟩] (.block 9 (.loop (Qr [⟨some 176,.prim 
 (.next true 0) [.t 175] [],none⟩,Qe 177 0 176] (.seq (.cond (.t 177) .skip (.exit 9)) (.block 10 (Qr [Qe 178 1 176,Qe 179 2 176,Qa 5 178,Qa 6 179] (Qr [Qc 180 6,Q 181 (.bin 
 .eql (.t 180) (.k (.d (.int .i32 65533))))] (.cond (.t 181) (Qr [Qc 182 5,Qa 4 182] .ret) .skip))))))))) (Qr [Qx 4 (Ki (-1))] .ret)) (Qr [Qc 184 1,Qj 185 202 [184],Qh 186 185, 
 Qa 183 186] (.cond (.t 183) (Qr [Qx 4 (Ki (-1))] .ret) .bad)))))))
def q6j:List LRes:=[.tmp 4]
theorem q8H:q0n Tryz.prog 195 187 q6e q6j:=⟨_,_,Tryz.func195,rfl,by kernel_rfl,by kernel_rfl,rfl⟩
theorem z5h(s:List UInt8)(c:UInt8)(hc:c.toNat<128):q0i Tryz.prog 195 [.str s,.int .i32 c.toNat] (fun r=>r=.one (.int .i64 (Lib.indexByte s c))):=by
 refine q8H.call rfl ?_;simp(maxSteps:=2000000)only[go_sem,↓reduceIte,q6e,q6j];refine⟨fun _=>⟨fun _=>?_,fun h=>?_⟩,fun h=>?_⟩
 ·simp(disch:=omega)only[IntWalk.i64_in,IntWalk.u8_in];refine q0c.of (z0e s c) ?_;simp(maxSteps:=2000000)only[go_sem,↓reduceIte]
 ·exfalso;omega
 ·exfalso;omega
def q4O:q0g:=
 Qr [Qx 4 KF] (Qr [Qc 5 0,Qc 6 1,Qj 7 195 [5,6],Qk 8 .geq 7 0,Qa 4 8] .ret)
def q43:List LRes:=[.tmp 4]
theorem q7m:q0n Tryz.prog 172 9 q4O q43:=⟨_,_,Tryz.func172,rfl,by kernel_rfl,by kernel_rfl,rfl⟩
theorem z1R(s:List UInt8)(c:UInt8)(hc:c.toNat<128):q0i Tryz.prog 172 [.str s,.int .i32 c.toNat] (fun r=>r=.one (.bool (decide (c∈s)))):=by
 refine q7m.call rfl ?_;simp(maxSteps:=2000000)only[go_sem,↓reduceIte,q4O,q43];refine q0c.of (z5h s c hc) ?_;simp(maxSteps:=2000000)only[go_sem,↓reduceIte];congr 2
 simp only[z1o]
def q1C(s:List UInt8):Bool:=decide (s≠[])&&(decide (s.length≤200) && !decide ((0:UInt8)∈s))
def q8R:q0g:=
 Qr [Qx 2 KF] (Qr [Qc 3 0,Q 4 (.bin .neq (.t 3) (.k (.d (.str [])))),Qc 5 4,Qd 6 0 5 true,Qg 7 (.len true (.t 6)) 5 true,Qg 8 (.bin .leq (.t 7) (Ki 200)) 5 true,Qp 9 5 8,Qc 
 10 9,Qd 11 0 10 true,⟨some 12,.call 172 [.t 11,.k (.d (.int .i32 0))],some (10,true)⟩,Qg 13 (.not (.t 12)) 10 true,Qp 14 10 13,Qa 2 14] .ret)
def q8Y:List LRes:=[.tmp 2]
theorem z1s:q0n Tryz.prog 133 15 q8R q8Y:=⟨_,_,Tryz.func133,rfl,by kernel_rfl,by kernel_rfl,rfl⟩
theorem q9j(s:List UInt8):q0i Tryz.prog 133 [.str s] (fun r=>r=.one (.bool (q1C s))):=by
 refine z1s.call rfl ?_;simp(maxSteps:=2000000)only[go_sem,↓reduceIte,q8R,q8Y];refine⟨fun h1=>⟨fun h2=>?_,fun h2=>?_⟩,fun h1=>?_⟩
 ·refine q0c.of (z1R s 0 (by decide)) ?_;simp(maxSteps:=2000000)only[go_sem,↓reduceIte];have h3:s.length≤200:=by omega
  simp[q1C,h1,h3]
 ·have h3:¬s.length≤200:=by omega
  simp[q1C,h3]
 ·simp[q1C,h1]
def q3R:q0g:=
 Qr [Qx 2 KF] (.seq (Qr [Qc 4 0,Qz 5 true 4,Qk 6 .lss 5 1,Qc 7 6,Qd 8 0 7 false,Qg 9 (.len true (.t 8)) 7 false,Qg 10 (.bin .gtr (.t 9) (Ki 200)) 7 false,Qo 11 7 10] (.cond 
 (.t 11) (Qr [Qx 2 KF] .ret) .skip)) (.seq (Qr [Qx 3 (Ki 0)] (.block 0 (.loop (.seq (Qr [Qc 12 3,Qc 13 0,Qz 14 true 13,Qb 15 .lss 12 14] (.cond (.t 15) .skip (.exit 0))) (.seq 
 (.block 1 (Qr [Qc 18 0,Qc 19 3,Q 20 (.idxS (.t 18) (.t 19)),Q 21 (.bin .eql (.t 20) (Kb 0))] (.cond (.t 21) (Qr [Qx 2 KF] .ret) .skip))) (.reg [Qc 16 3,Qk 17 .add 16 1,Qa 3 
 17])))))) (Qr [Qx 2 KT] .ret)))
def q3Y:List LRes:=[.tmp 2]
theorem q6u:q0n Tryz.prog 141 22 q3R q3Y:=⟨_,_,Tryz.func141,rfl,by kernel_rfl,by kernel_rfl,rfl⟩
theorem q6F(s:List UInt8):q0i Tryz.prog 141 [.str s] (fun r=>r=.one (.bool (q1C s))):=by
 refine q6u.call rfl ?_;simp(maxSteps:=2000000)only[go_sem,↓reduceIte,q3R,q3Y];refine⟨fun h1=>⟨fun h2=>?_,fun h2=>?_⟩,fun h1=>?_⟩
 ·have h3:¬s.length≤200:=by omega
  simp[q1C,h3]
 ·have hne:s≠[]:=fun e=>by rw[e]at h1;simp at h1
  have h3:s.length≤200:=by omega
  refine q0f (fun i:Nat=>⟨[(0,.d (.str s)),(3,.d (.int .i64 i))],[],[]⟩) (fun i=>i≤s.length∧(0:UInt8)∉s.take i) (fun i=>s.length-i) 0 ?_ ?_ ?_
  ·refine q0d ?_ trivial;simp(maxSteps:=2000000)only[go_sem,↓reduceIte,Sub,Zaa,Zab]
  ·simp
  ·rintro i ⟨hi,hn⟩;simp(maxSteps:=2000000)only[go_sem,↓reduceIte];refine⟨fun hlt=>?_,fun hge=>?_⟩
   ·obtain⟨c,hc⟩:=get_some (l:=s) (i:=i) (by omega);have hc8:=q1Q c;rw[q0a,hc];simp(maxSteps:=2000000)(disch:=omega)only[go_sem,↓reduceIte];have hmem:s.take (i+1)=s.take i++[c]:=by rw[Zcu,hc];rfl
    refine⟨fun h0=>?_,fun h0=>⟨i+1,?_,⟨by omega,?_⟩,by omega⟩⟩
    ·have hc0:c=0:=UInt8.toNat_inj.1 (by have:(0:UInt8).toNat=0:=rfl;omega);have:(0:UInt8)∈s:=by rw[←hc0];exact Zaf hc
     simp[q1C,this]
    ·refine q0d ?_ trivial;simp(maxSteps:=2000000)only[go_sem,↓reduceIte,Sub,Zaa,Zab]
    ·rw[hmem];simp only[Zaz,Zci,not_or];exact⟨hn,fun e=>h0 (by rw[←e];rfl)⟩
   ·have:s.take i=s:=List.take_of_length_le (by omega);rw[this]at hn;simp[q1C,hne,h3,hn]
 ·have:s=[]:=by cases s<;>simp_all<;>omega
  simp[q1C,this]
theorem q0W{α:Type}{l:List α}{i:Nat}{x:α}(h:l[i]?=some x):l.drop i=x::l.drop (i+1):=by
 obtain⟨hl,rfl⟩:=Zac.1 h;exact List.drop_eq_getElem_cons hl
mutual
inductive Val where
 |mk (kind n:Int) (s:List UInt8) (l:List Val) (f:List Fld)
inductive Fld where
 |mk (name:List UInt8) (v:Val)
end
def Val.kind:Val→Int
 |.mk k _ _ _ _=>k
def Val.n:Val→Int
 |.mk _ n _ _ _=>n
def Val.s:Val→List UInt8
 |.mk _ _ s _ _=>s
def Val.l:Val→List Val
 |.mk _ _ _ l _=>l
def Val.f:Val→List Fld
 |.mk _ _ _ _ f=>f
def Fld.name:Fld→List UInt8
 |.mk n _=>n
def Fld.v:Fld→Val
 |.mk _ v=>v
mutual
def Val.d:Val→D
 |.mk k n s l f=>.agg [.int .i64 k,.int .i64 n,.str s,.list (q0m l),.list (q0k f)]
def q0m:List Val→List D
 |[]=>[]
 |v::r=>v.d::q0m r
def Fld.d:Fld→D
 |.mk nm v=>.agg (.str nm::v.d.cells)
def q0k:List Fld→List D
 |[]=>[]
 |x::r=>x.d::q0k r
end
theorem z3w(l:List Val):q0m l=l.map Val.d:=by induction l with|nil=>rfl|cons v r ih=>simp[q0m,ih]
theorem q5Y(l:List Fld):q0k l=l.map Fld.d:=by induction l with|nil=>rfl|cons v r ih=>simp[q0k,ih]
theorem q0H(l:List Val):(q0m l).length=l.length:=by simp[z3w]
theorem q0D(l:List Fld):(q0k l).length=l.length:=by simp[q5Y]
theorem q3c(l:List Val)(i:Nat):(q0m l)[i]?=(l[i]?).map Val.d:=by simp[z3w]
theorem q0K(l:List Fld)(i:Nat):(q0k l)[i]?=(l[i]?).map Fld.d:=by simp[q5Y]
theorem Val.d_eq(v:Val):v.d=.agg [.int .i64 v.kind,.int .i64 v.n,.str v.s,.list (q0m v.l),.list (q0k v.f)]:=by cases v;simp[Val.d,Val.kind,Val.n,Val.s,Val.l,Val.f]
theorem Fld.d_eq(x:Fld):x.d=.agg [.str x.name,.int .i64 x.v.kind,.int .i64 x.v.n,.str x.v.s,.list (q0m x.v.l),.list (q0k x.v.f)]:=by cases x;simp[Fld.d,Fld.name,Fld.v,Val.d_eq,D.cells]
theorem z1H{v x:Val}(h:x∈v.l):SizeOf.sizeOf x<SizeOf.sizeOf v:=by
 cases v with
 |mk k n s l f=>
  have:=List.sizeOf_lt_of_mem h;simp only[Val.l]at this;simp only[Val.mk.sizeOf_spec];omega
theorem z1G{v:Val}{x:Fld}(h:x∈v.f):SizeOf.sizeOf x.v<SizeOf.sizeOf v:=by
 cases v with
 |mk k n s l f=>
  have:=List.sizeOf_lt_of_mem h;simp only[Val.f]at this;have h2:SizeOf.sizeOf x.v<SizeOf.sizeOf x:=by cases x;simp only[Fld.v,Fld.mk.sizeOf_spec];omega
  simp only[Val.mk.sizeOf_spec];omega
mutual
def Val.sm(m:Nat):Val→Bool
 |.mk _ _ s l f=>decide (s.length≤m)&&(decide (l.length≤m)&&(decide (f.length≤m)&&(smL m l&&smF m f)))
def smL(m:Nat):List Val→Bool
 |[]=>true
 |v::r=>v.sm m&&smL m r
def Fld.sm(m:Nat):Fld→Bool
 |.mk nm v=>decide (nm.length≤m)&&v.sm m
def smF(m:Nat):List Fld→Bool
 |[]=>true
 |x::r=>x.sm m&&smF m r
end
theorem j8N{m:Nat}{l:List Val}:smL m l=true↔∀x∈l,x.sm m=true:=by induction l with|nil=>simp[smL]|cons v r ih=>simp[smL,ih]
theorem j8M{m:Nat}{l:List Fld}:smF m l=true↔∀x∈l,x.sm m=true:=by induction l with|nil=>simp[smF]|cons v r ih=>simp[smF,ih]
theorem Val.q1e{m:Nat}{v:Val}:v.sm m=true↔v.s.length≤m∧v.l.length≤m∧v.f.length≤m∧(∀x∈v.l,x.sm m=true)∧∀x∈v.f,x.sm m=true:=by
 cases v;simp[Val.sm,j8N,j8M,Val.s,Val.l,Val.f]
theorem Fld.q1e{m:Nat}{x:Fld}:x.sm m=true↔x.name.length≤m∧x.v.sm m=true:=by
 cases x;simp[Fld.sm,Fld.name,Fld.v]
/-! ### How great -/
mutual
def szV(deep:Nat):Val→Int→Bool×Int
 |.mk _ _ _ l f,left=>
  if 8<deep then(false,left-1)
  else if left-1<0 then(false,left-1)
  else match szL (deep+1) l (left-1)with
   |(false,r)=>(false,r)
   |(true,r)=>szF (deep+1) f r
def szL(deep:Nat):List Val→Int→Bool×Int
 |[],left=>(true,left)
 |v::r,left=>match szV deep v left with
  |(false,q)=>(false,q)
  |(true,q)=>szL deep r q
def szF(deep:Nat):List Fld→Int→Bool×Int
 |[],left=>(true,left)
 |.mk _ v::r,left=>match szV deep v left with
  |(false,q)=>(false,q)
  |(true,q)=>szF deep r q
end
mutual
theorem j1Z(deep:Nat):∀(v:Val) (left:Int),0≤left → -1≤(szV deep v left).2∧(szV deep v left).2≤left∧((szV deep v left).1=true→0≤(szV deep v left).2)
 |.mk k n s l f,left,h=>by
  unfold szV;split
  ·simp;omega
  ·split
   ·simp;omega
   ·have h1:=j7I (deep+1) l (left-1) (by omega);split
    ·rename_i r hr;rw[hr]at h1;simp at h1 ⊢;omega
    ·rename_i r hr;rw[hr]at h1;simp at h1;have h2:=j7G (deep+1) f r h1.2.2;refine⟨h2.1,by omega,h2.2.2⟩
theorem j7I(deep:Nat):∀(l:List Val) (left:Int),0≤left → -1≤(szL deep l left).2∧(szL deep l left).2≤left∧((szL deep l left).1=true→0≤(szL deep l left).2)
 |[],left,h=>by simp[szL];omega
 |v::r,left,h=>by
  have h1:=j1Z deep v left h;unfold szL;split
  ·rename_i q hq;rw[hq]at h1;simp at h1 ⊢;omega
  ·rename_i q hq;rw[hq]at h1;simp at h1;have h2:=j7I deep r q h1.2.2;exact⟨h2.1,by omega,h2.2.2⟩
theorem j7G(deep:Nat):∀(l:List Fld) (left:Int),0≤left → -1≤(szF deep l left).2∧(szF deep l left).2≤left∧((szF deep l left).1=true→0≤(szF deep l left).2)
 |[],left,h=>by simp[szF];omega
 |.mk nm v::r,left,h=>by
  have h1:=j1Z deep v left h;unfold szF;split
  ·rename_i q hq;rw[hq]at h1;simp at h1 ⊢;omega
  ·rename_i q hq;rw[hq]at h1;simp at h1;have h2:=j7G deep r q h1.2.2;exact⟨h2.1,by omega,h2.2.2⟩
end
theorem j9O(deep:Nat)(v:Val)(left:Int):szV deep v left=if 8<deep then(false,left-1)else if left-1<0 then(false,left-1)else
  match szL (deep+1) v.l (left-1)with
   |(false,r)=>(false,r)
   |(true,r)=>szF (deep+1) v.f r:=by
 cases v;simp only[szV,Val.l,Val.f]
def z2u:q0g:=
 Qr [⟨some 3,.box (.t 0),none⟩,Qx 6 KF] (Qr [Qc 11 2,Qn 12 11,Ql 13 12,Qk 14 .sub 13 1,Qn 15 11,Qs 1 15 14] (.seq (Qr [Qc 16 1,Qk 17 .gtr 16 8,Qc 18 17,Qd 19 2 18 false, 
 Qg 20 (.nck (.t 19)) 18 false,Qg 21 (.ld false 1 (.t 20)) 18 false,Qg 22 (.bin .lss (.t 21) (Ki 0)) 18 false,Qo 23 18 22] (.cond (.t 23) (Qr [Qx 6 KF] .ret) .skip)) (.seq (Qr 
 [Qf 24 3 3,Ql 25 24,Qz 26 false 25,Q 27 (.cp (Ki 0))] (.block 0 (.loop (Qr [Qb 28 .lss 27 26] (.seq (.cond (.t 28) .skip (.exit 0)) (.seq (.block 1 (Qr [Q 29 (.ia 5 (.t 25) 
 (.t 27)),Qm 30 5 29,Qv 8,Qs 5 8 30] (Qr [Qm 31 5 8,Qc 32 1,Qk 33 .add 32 1,Qc 34 2,Qq 35 92 [31,33,34],Qh 36 35] (.cond (.t 36) (Qr [Qx 6 KF] .ret) .skip)))) (.reg [Qk 
 37 .add 27 1,Qc 27 37]))))))) (.seq (Qr [Qf 38 4 3,Ql 39 38,Qz 40 false 39,Q 41 (.cp (Ki 0))] (.block 2 (.loop (Qr [Qb 42 .lss 41 40] (.seq (.cond (.t 42) .skip (.exit 2)) 
 (.seq (.block 3 (Qr [Q 43 (.ia 6 (.t 39) (.t 41)),Qm 44 6 43,⟨some 10,.allo [.str [],.int .i64 0,.int .i64 0,.str [],.list [],.list []],none⟩,Qs 6 10 44] (Qr [Qf 45 1 
 10,Qm 46 5 45,Qc 47 1,Qk 48 .add 47 1,Qc 49 2,Qq 50 92 [46,48,49],Qh 51 50] (.cond (.t 51) (Qr [Qx 6 KF] .ret) .skip)))) (.reg [Qk 52 .add 41 1,Qc 41 52]))))))) (Qr [Qx 
 6 KT] .ret)))))
def z2D:List LRes:=[.tmp 6]
theorem z4n:q0n Tryz.prog 92 53 z2u z2D:=⟨_,_,Tryz.func92,rfl,by kernel_rfl,by kernel_rfl,rfl⟩
theorem j5c:∀(m:Nat) (v:Val),SizeOf.sizeOf v≤m→∀(deep:Nat) (left:Int),1≤deep→deep≤9→0≤left→left≤300→v.sm 1048576=true→
  q1r Tryz.prog 92 [.d v.d,.d (.int .i64 deep),.ptr (.x 0) 0] [.cells [.d (.int .i64 left)]] (.d (.bool (szV deep v left).1)) [.cells [.d (.int .i64 (szV deep v left).2)]]:=by
 intro m;induction m with
 |zero=>intro v h;cases v;simp at h
 |succ m ih=>
  intro v hv deep left hd1 hd2 hl1 hl2 hsm;obtain⟨_,hll,hfl,hsl,hsf⟩:=Val.q1e.1 hsm;have hvl:=q0H v.l;have hfl':=q0D v.f;generalize hR:szV deep v left=R;rw[j9O]at hR;rw[Val.d_eq];refine z4n.q0C (by kernel_rfl) rfl ?_;simp(maxSteps:=2000000)(disch:=omega)only[go_sem,↓reduceIte,z2u,z2D];refine⟨fun h8=>⟨fun h0=>?_,fun h0=>?_⟩,fun h8=>?_⟩
  ·rw[if_neg (by omega),if_pos (by omega)]at hR;subst hR;exact⟨rfl,rfl⟩
  ·rw[if_neg (by omega),if_neg (by omega)]at hR;refine q0f (fun y:Nat×Int=>⟨[(1,.d (.int .i64 deep)),(2,.ptr (.x 0) 0),(3,.ptr (.l 3) 0),(25,.d (.list (q0m v.l))),(26,.d (.int .i64 (q0m v.l).length)),(27,.d (.int .i64 y.1))],
     [(3,.cells [.d (.int .i64 v.kind),.d (.int .i64 v.n),.d (.str v.s),.d (.list (q0m v.l)),.d (.list (q0k v.f))])],[(0,.cells [.d (.int .i64 y.2)])]⟩)
    (fun y=>y.1≤v.l.length∧0≤y.2∧y.2≤300∧(match szL (deep+1) (v.l.drop y.1) y.2 with
     |(false,r)=>(false,r)
     |(true,r)=>szF (deep+1) v.f r)=R) (fun y=>v.l.length-y.1) (0,left-1) ?_ ?_ ?_
   ·refine Weak.mk ?_ ?_ ?_<;>simp(maxSteps:=2000000)only[go_sem,↓reduceIte,Sub,Zaa,Zab]
   ·exact⟨by simp,by simp only;omega,by simp only;omega,by simpa using hR⟩
   ·rintro⟨i,q⟩ ⟨hi,hq1,hq2,hF⟩;simp only at hi hq1 hq2 hF;simp(maxSteps:=2000000)only[go_sem,↓reduceIte,hvl];refine⟨fun hlt=>?_,fun hge=>?_⟩
    ·obtain⟨x,hx⟩:=get_some (l:=v.l) (i:=i) (by omega);rw[q0W hx]at hF;have hc:=ih x (by have:=z1H (Zaf hx);omega) (deep+1) q (by omega) (by omega) hq1 hq2 (hsl x (Zaf hx));have hbd:=j1Z (deep+1) x q hq1;unfold szL at hF;rw[Val.d_eq]at hc;generalize hS:szV (deep+1) x q=S at hc hbd hF;obtain⟨sb,sq⟩:=S;simp only[Zaa,Zbz]at hc;simp(maxSteps:=2000000)(disch:=omega)only[go_sem,↓reduceIte,q0a,q3c,hx,Val.d_eq]
     refine q0e.mc1 (.x 0) rfl (hc) rfl rfl rfl rfl ⟨rfl,rfl⟩ ?_;cases sb
     ·simp only at hF;subst hF;simp(maxSteps:=2000000)only[go_sem,↓reduceIte]
     ·simp only at hF hbd;simp(maxSteps:=2000000)(disch:=omega)only[go_sem,↓reduceIte];refine⟨(i+1,sq),?_,⟨by simp only;omega,by simp only;exact hbd.2.2 trivial,by simp only;omega,hF⟩,by simp only;omega⟩;refine Weak.mk ?_ ?_ ?_<;>simp(maxSteps:=2000000)only[go_sem,↓reduceIte,Sub,Zaa,Zab,hvl]
    ·have h0':v.l.drop i=[]:=Zai (by omega);rw[h0']at hF;simp only[szL]at hF;refine q0f (fun y:Nat×Int=>⟨[(1,.d (.int .i64 deep)),(2,.ptr (.x 0) 0),(3,.ptr (.l 3) 0),(39,.d (.list (q0k v.f))),(40,.d (.int .i64 (q0k v.f).length)),(41,.d (.int .i64 y.1))],
       [(3,.cells [.d (.int .i64 v.kind),.d (.int .i64 v.n),.d (.str v.s),.d (.list (q0m v.l)),.d (.list (q0k v.f))])],[(0,.cells [.d (.int .i64 y.2)])]⟩)
      (fun y=>y.1≤v.f.length∧0≤y.2∧y.2≤300∧szF (deep+1) (v.f.drop y.1) y.2=R) (fun y=>v.f.length-y.1) (0,q) ?_ ?_ ?_
     ·refine Weak.mk ?_ ?_ ?_<;>simp(maxSteps:=2000000)only[go_sem,↓reduceIte,Sub,Zaa,Zab]
     ·exact⟨by simp,hq1,hq2,by simpa using hF⟩
     ·rintro⟨j,q'⟩ ⟨hj,hr1,hr2,hG⟩;simp only at hj hr1 hr2 hG;simp(maxSteps:=2000000)only[go_sem,↓reduceIte,hfl'];refine⟨fun hlt=>?_,fun hge=>?_⟩
      ·obtain⟨x,hx⟩:=get_some (l:=v.f) (i:=j) (by omega);rw[q0W hx]at hG;have hc:=ih x.v (by have:=z1G (Zaf hx);omega) (deep+1) q' (by omega) (by omega) hr1 hr2 (Fld.q1e.1 (hsf x (Zaf hx))).2;have hbd:=j1Z (deep+1) x.v q' hr1;have hG':(match szV (deep+1) x.v q' with
         |(false,q)=>(false,q)
         |(true,q)=>szF (deep+1) (v.f.drop (j+1)) q)=R:=by
        rw[←hG];cases x;simp only[szF,Fld.v]
       rw[Val.d_eq]at hc;generalize hS:szV (deep+1) x.v q'=S at hc hbd hG';obtain⟨sb,sq⟩:=S;simp only[Zaa,Zbz]at hc;simp(maxSteps:=2000000)(disch:=omega)only[go_sem,↓reduceIte,q0a,q0K,hx,Fld.d_eq];refine q0e.mc1 (.x 0) rfl (hc) rfl rfl rfl rfl ⟨rfl,rfl⟩ ?_;cases sb
       ·simp only at hG';subst hG';simp(maxSteps:=2000000)only[go_sem,↓reduceIte]
       ·simp only at hG' hbd;simp(maxSteps:=2000000)(disch:=omega)only[go_sem,↓reduceIte];refine⟨(j+1,sq),?_,⟨by simp only;omega,by simp only;exact hbd.2.2 trivial,by simp only;omega,hG'⟩,by simp only;omega⟩;refine Weak.mk ?_ ?_ ?_<;>simp(maxSteps:=2000000)only[go_sem,↓reduceIte,Sub,Zaa,Zab,hfl']
      ·have h0':v.f.drop j=[]:=Zai (by omega);rw[h0']at hG;simp only[szF]at hG;subst hG;simp(maxSteps:=2000000)only[go_sem,↓reduceIte]
  ·rw[if_pos (by omega)]at hR;subst hR;exact⟨rfl,rfl⟩
def q0E:q0g:=
 Qr [Qx 4 (Ki 0)] (.seq (Qr [Qc 6 0,Qz 7 false 6,Q 8 (.cp (Ki 0))] (.block 0 (.loop (Qr [Qb 9 .lss 8 7] (.seq (.cond (.t 9) .skip (.exit 0)) (.seq (.block 1 (Qr [Qc 10 8,Qa 5 10] 
 (Qr [Qc 11 1,Qc 12 0,Qc 13 5,Q 14 (.ia 5 (.t 12) (.t 13)),Qm 15 5 14,⟨some 16,.prim .call [.t 11,.t 15] [],none⟩] (.cond (.t 16) (Qr [Qc 17 5,Qa 4 17] .ret) .skip)))) 
 (.reg [Qk 18 .add 8 1,Qc 8 18]))))))) (Qr [Qx 4 (Ki (-1))] .ret))
def q0F:List LRes:=[.tmp 4]
theorem q1g:q0n Tryz.prog 175 19 q0E q0F:=⟨_,_,Tryz.func175,rfl,by kernel_rfl,by kernel_rfl,rfl⟩
theorem z5g(g:Nat)(hg:q5V Tryz.prog g=true)(l:List Val)(hl:l.length≤1000000000)(p:Val→Bool)(hp:∀x∈l,q0i Tryz.prog g [x.d] (fun r=>r=.one (.bool (p x)))):
  q1r Tryz.prog 175 [.d (.list (q0m l)),.fn (.func g) [] []] [] (.d (.int .i64 (match l.findIdx? p with|some i=>(i:Int)|none => -1))) []:=by
 have hll:=q0H l;refine q1g.q0C (by kernel_rfl) rfl ?_;simp(maxSteps:=2000000)only[go_sem,↓reduceIte,q0E,q0F];refine q0f (fun i:Nat=>⟨[(0,.d (.list (q0m l))),(1,.fn (.func g) [] []),(7,.d (.int .i64 (q0m l).length)),(8,.d (.int .i64 i))],[],[]⟩)
  (fun i=>i≤l.length∧∀j,j<i→∀x,l[j]?=some x→p x=false) (fun i=>l.length-i) 0 ?_ ?_ ?_
 ·refine Weak.mk ?_ ?_ ?_<;>simp(maxSteps:=2000000)only[go_sem,↓reduceIte,Sub,Zaa,Zab]
 ·exact⟨by simp,fun j hj=>absurd hj (by simp)⟩
 ·rintro i ⟨hi,hn⟩;simp(maxSteps:=2000000)only[go_sem,↓reduceIte,hll];refine⟨fun hlt=>?_,fun hge=>?_⟩
  ·obtain⟨x,hx⟩:=get_some (l:=l) (i:=i) (by omega);have hc:=(hp x (Zaf hx)).q1X hg;simp only[Zbo,Zbs,Res.av]at hc;rw[Val.d_eq]at hc;simp(maxSteps:=2000000)(disch:=omega)only[go_sem,↓reduceIte,q0a,q3c,hx,Val.d_eq];refine q0e.q0C ([]) ([]) rfl (hc) rfl rfl (by simp only[q0R,St.obj,aget,AObj.ren,AV.ren,AV.ren1,renL,q1P,renR,renQ,Zap,Zaq,and_true,and_self,Nat.reduceEqDiff,↓reduceIte,reduceCtorEq]) rfl rfl rfl ⟨rfl,rfl⟩ ?_;cases hpx:p x
   ·simp(maxSteps:=2000000)(disch:=omega)only[go_sem,↓reduceIte];refine⟨i+1,?_,⟨by omega,fun j hj y hy=>?_⟩,by omega⟩
    ·refine Weak.mk ?_ ?_ ?_<;>simp(maxSteps:=2000000)only[go_sem,↓reduceIte,Sub,Zaa,Zab,hll]
    ·rcases Zbi j i with h|h
     ·exact hn j h y hy
     ·have:j=i:=by omega
      subst this;rw[hx]at hy;cases hy;exact hpx
   ·simp(maxSteps:=2000000)only[go_sem,↓reduceIte];have:l.findIdx? p=some i:=by
     rw[List.findIdx?_eq_some_iff_getElem];obtain⟨h1,h2⟩:=Zac.1 hx;refine⟨h1,by rw[h2];exact hpx,fun j hj=>?_⟩;have:=hn j hj _ (Zal (by omega));simp[this]
    rw[this]
  ·have:l.findIdx? p=none:=by
    rw[List.findIdx?_eq_none_iff];intro x hx;obtain⟨j,hj⟩:=Zbb hx;exact hn j (by have:=(Zac.1 hj).1;omega) x hj
   rw[this]
def q0A:q0g:=
 Qr [Qx 4 KF] (Qr [Qc 5 0,Qc 6 1,Qq 7 175 [5,6],Qk 8 .geq 7 0,Qa 4 8] .ret)
def q0B:List LRes:=[.tmp 4]
theorem q08:q0n Tryz.prog 138 9 q0A q0B:=⟨_,_,Tryz.func138,rfl,by kernel_rfl,by kernel_rfl,rfl⟩
theorem z1Q(g:Nat)(hg:q5V Tryz.prog g=true)(l:List Val)(hl:l.length≤1000000000)(p:Val→Bool)(hp:∀x∈l,q0i Tryz.prog g [x.d] (fun r=>r=.one (.bool (p x)))):
  q1r Tryz.prog 138 [.d (.list (q0m l)),.fn (.func g) [] []] [] (.d (.bool (l.any p))) []:=by
 have hany:(match l.findIdx? p with|some i=>decide (0≤(i:Int))|none=>false)=l.any p:=by
  cases h:l.findIdx? p with
  |none=>
   rw[List.findIdx?_eq_none_iff]at h;simp only[Bool.false_eq];rw[Zce];exact fun x hx=>by simp[h x hx]
  |some i=>
   rw[List.findIdx?_eq_some_iff_getElem]at h;obtain⟨h1,h2,_⟩:=h;have:l.any p=true:=Zbq.2 ⟨_,List.getElem_mem h1,h2⟩;rw[this];simp
 refine q08.q0C (by kernel_rfl) rfl ?_;simp(maxSteps:=2000000)only[go_sem,↓reduceIte,q0A,q0B];refine q0e.q0C ([]) ([]) rfl (z5g g hg l hl p hp) rfl rfl (by simp only[q0R,St.obj,aget,AObj.ren,AV.ren,AV.ren1,renL,q1P,renR,renQ,Zap,Zaq,and_true,and_self,Nat.reduceEqDiff,↓reduceIte,reduceCtorEq]) rfl rfl rfl ⟨rfl,rfl⟩ ?_
 simp(maxSteps:=2000000)only[go_sem,↓reduceIte];rw[←hany];cases l.findIdx? p<;>simp
end Go.Av.Tryz
