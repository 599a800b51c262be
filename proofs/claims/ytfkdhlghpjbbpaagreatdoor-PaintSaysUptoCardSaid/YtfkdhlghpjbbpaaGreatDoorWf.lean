import Derived.Test.YtfkdhlghpjbbpaaGreatDoorWe
import Derived.Test.YtfkdhlghpjbbpaaGreatDoorWa
import Derived.Test.YtfkdhlghpjbbpaaGreatDoorWd
import Derived.Test.YtfkdhlghpjbbpaaGreatDoorAvI
set_option linter.unusedSimpArgs false
set_option maxRecDepth 100000
set_option maxHeartbeats 16000000
namespace Go.Av.Tryz
open Go.Proofs
def z8f:Option Nat→Res→Prop
 |some n,r=>r=.tup [.int .i64 n,.bool true]
 |none,r=>∃n:Int,r=.tup [.int .i64 n,.bool false]
def q9d:q0m:=
 .seq (.reg [Qx 2 (Ki 0),Qx 3 KF]) (.seq (.seq (.reg [Qc 6 0,Q 7 (.bin .eql (.t 6) (.k (.d (.str [])))),Qc 8 7,Qd 9 0 8 false,Qg 10 (.len true (.t 9)) 8 false,Qg 11 (.bin .gtr 
 (.t 10) (Ki 2)) 8 false,Q 12 (.pick (.t 8) KT (.t 11)),Qc 13 12,Qd 14 0 13 false,Qg 15 (.idxS (.t 14) (Ki 0)) 13 false,Qg 16 (.bin .eql (.t 15) (Kb 48)) 13 false,Q 17 
 (.pick (.t 13) KT (.t 16))]) (.cond (.t 17) (.seq (.reg [Qx 2 (Ki 0),Qx 3 KF]) .ret) .skip)) (.seq (.reg [Qx 4 (Ki 0)]) (.seq (.seq (.reg [Qc 18 0,Q 19 (.len true (.t 18)),Q 
 20 (.cp (Ki 0))]) (.block 0 (.loop (.seq (.reg [Q 21 (.bin .lss (.t 20) (.t 19))]) (.seq (.cond (.t 21) .skip (.exit 0)) (.seq (.block 1 (.seq (.reg [Qc 22 20,Qa 5 22]) (.seq 
 (.seq (.reg [Qc 23 0,Qc 24 5,Q 25 (.idxS (.t 23) (.t 24)),Q 26 (.bin .lss (.t 25) (Kb 48)),Qc 27 26,Qd 28 0 27 false,Qd 29 5 27 false,Qg 30 (.idxS (.t 28) (.t 29)) 27 
 false,Qg 31 (.bin .gtr (.t 30) (Kb 57)) 27 false,Q 32 (.pick (.t 27) KT (.t 31))]) (.cond (.t 32) (.seq (.reg [Qx 2 (Ki 0),Qx 3 KF]) .ret) .skip)) (.reg [Qc 33 4,Q 34 (.bin 
 .mul (Ki 10) (.t 33)),Qc 35 0,Qc 36 5,Q 37 (.idxS (.t 35) (.t 36)),Q 38 (.bin .sub (.t 37) (Kb 48)),Q 39 (.cvI .i64 (.t 38)),Q 40 (.bin .add (.t 34) (.t 39)),Qa 4 40])))) 
 (.reg [Q 41 (.bin .add (.t 20) (Ki 1)),Qc 20 41]))))))) (.seq (.reg [Qc 42 4,Qc 43 4,Q 44 (.bin .leq (.t 43) (Ki 60)),Qa 2 42,Qa 3 44]) .ret))))
def q9g:List LRes:=[.tmp 2,.tmp 3]
theorem z01:q0t Tryz.prog 131 45 q9d q9g:=⟨_,_,Tryz.func131,rfl,by kernel_rfl,by kernel_rfl,rfl⟩
theorem z8g(w:List UInt8)(hw:w.length≤60000):q0y Tryz.prog 131 [.str w] (z8f (objF w)):=by
 generalize hR:objF w=R;have bad:R=none→∀n:Int,z8f R (.tup [.int .i64 n,.bool false]):=fun e n=>by subst e;exact⟨n,rfl⟩
 refine z01.call rfl ?_;simp only[go_sem,↓reduceIte,q9d,q9g];refine⟨fun h1=>⟨fun h2=>?_,fun h2=>bad (by rw[←hR,objF,if_pos (by omega)]) 0⟩,fun h1=>bad (by rw[←hR,objF,if_pos (by rw[h1];simp)]) 0⟩;have hlen:1≤w.length:=by cases w with|nil=>exact absurd rfl h1|cons a r=>simp
 obtain⟨c0,hc0⟩:=get_some (l:=w) (i:=0) (by omega);have g0:getI w 0=some c0:=by rw[←hc0];exact q0d w 0
 have hd0:w.head?=some c0:=by rw[←hc0];cases w<;>rfl
 simp only[go_sem,↓reduceIte,g0];refine⟨fun h3=>bad (by rw[←hR,objF,if_pos (.inr (.inr (by rw[hd0];simp;omega)))]) 0,fun h3=>?_⟩;have ho:objF w=match digF w 0 with
  |none=>none
  |some n=>if n≤60 then some n else none:=by rw[objF,if_neg (by rw[hd0];simp only[Zav,Zax];omega)]<;>rfl
 rw[ho]at hR;refine q0j (fun y:Nat×Nat=>⟨[(0,.d (.str w)),(4,.d (.int .i64 y.2)),(19,.d (.int .i64 w.length)),(20,.d (.int .i64 y.1))],[],[]⟩)
  (fun y=>y.1≤w.length∧(y.1=0→y.2=0)∧(y.1=1→y.2≤9)∧y.2≤99∧digF (w.drop y.1) y.2=digF w 0) (fun y=>w.length-y.1) (0,0) ?_ ?_ ?_
 ·refine q0h ?_ trivial;simp only[go_sem,↓reduceIte,Sub,Int.natCast_add,Int.natCast_mul]
 ·exact⟨by simp,by simp,by simp,by simp,rfl⟩
 ·rintro⟨i,n⟩ ⟨hi,hn0,hn1,hn2,hF⟩;simp only at hi hn0 hn1 hn2 hF;simp only[go_sem,↓reduceIte];refine⟨fun hlt=>?_,fun hge=>?_⟩
  ·obtain⟨c,hc⟩:=get_some (l:=w) (i:=i) (by omega);have hc8:=q3s c;rw[q07 hc,digF]at hF;have nodig:(c.toNat<48∨57<c.toNat)→R=none:=fun h=>by
    rw[if_pos h]at hF;rw[←hF]at hR;exact hR.symm
   simp only[go_sem,↓reduceIte,q0d,hc];refine⟨fun h4=>⟨fun h5=>bad (nodig (by omega)) 0,fun h5=>?_⟩,fun h4=>bad (nodig (by omega)) 0⟩;simp(disch:=omega)only[go_sem,↓reduceIte,q0d,hc];rw[if_neg (by omega)]at hF;refine⟨(i+1,10*n+(c.toNat-48)),?_,⟨by simp only;omega,by simp only;omega,by simp only;omega,by simp only;omega,hF⟩,by simp only;omega⟩;have zz:decide (57<(c.toNat:Int))=false:=by simpa using h5
   refine q0h ?_ trivial;simp only[go_sem,↓reduceIte,Sub,Int.natCast_add,Int.natCast_mul,zz];all_goals((repeat' apply And.intro)<;>(congr 2<;>omega))
  ·rw[Zah (by omega),digF]at hF;rw[←hF]at hR;simp only at hR
   by_cases h6:n≤60
   ·rw[if_pos h6]at hR;subst hR;have z:((n:Int)≤60)=True:=eq_true (by omega);simp only[go_sem,↓reduceIte,z];rfl
   ·rw[if_neg h6]at hR;have z:((n:Int)≤60)=False:=eq_false (by omega);simp only[go_sem,↓reduceIte,z];exact bad hR.symm _
def j3a(s:List UInt8)(k:Nat):Option (Nat×Nat)→AV→List AObj→Prop
 |some (n,k'),r,hs=>r=.tuple [.d (.int .i64 n),.d (.bool true)]∧hs=[robj s k' 0]
 |none,r,hs=>∃n:Int,r=.tuple [.d (.int .i64 n),.d (.bool false)]∧hs=[robj s k 0]
def q5E:q0m:=
 .seq (.reg [Qx 2 (Ki 0),Qx 3 KF]) (.seq (.dreg [Qc 8 0,Q 9 (.nck (.t 8)),Q 10 (.fa 0 (.t 9)),Q 11 (.ld false 1 (.t 10)),Qc 12 0,Q 13 (.nck (.t 12)),Q 14 (.fa 1 (.t 13)),Q 
 15 (.ld false 1 (.t 14)),⟨some 16,.call 36 [.t 11,.t 15],none⟩,Qa 4 16]) (.seq (.reg [Qc 18 4,⟨some 19,.call 131 [.t 18],none⟩,Qc 17 19,Q 20 (.ext 0 (.t 17)),Q 21 
 (.ext 1 (.t 17)),Qa 5 20,Qa 6 21]) (.seq (.dreg [Qc 22 0,Q 23 (.nck (.t 22)),Q 24 (.fa 0 (.t 23)),Q 25 (.ld false 1 (.t 24)),Qc 26 0,Q 27 (.nck (.t 26)),Q 28 (.fa 1 (.t 
 27)),Q 29 (.ld false 1 (.t 28)),Qc 30 4,Q 31 (.len true (.t 30)),Q 32 (.bin .add (.t 29) (.t 31)),⟨some 33,.call 35 [.t 25,.t 32],none⟩,Qa 7 33]) (.seq (.seq (.reg [Qc 
 34 6,Q 35 (.not (.t 34)),Qc 36 35,Qd 37 0 36 false,Qg 38 (.nck (.t 37)) 36 false,Qg 39 (.fa 0 (.t 38)) 36 false,Qg 40 (.ld false 1 (.t 39)) 36 false,Qd 41 7 36 false, 
 ⟨some 42,.call 36 [.t 40,.t 41],some (36,false)⟩,Qg 43 (.bin .neq (.t 42) (.k (.d (.str [48])))) 36 false,Q 44 (.pick (.t 36) KT (.t 43))]) (.cond (.t 44) (.seq (.reg [Qx 2 
 (Ki 0),Qx 3 KF]) .ret) .skip)) (.seq (.reg [Qc 45 0,Q 46 (.nck (.t 45)),Q 47 (.fa 0 (.t 46)),Q 48 (.ld false 1 (.t 47)),Qc 49 7,Q 50 (.bin .add (.t 49) (Ki 1)),⟨some 51, 
 .call 35 [.t 48,.t 50],none⟩,Qa 7 51]) (.seq (.seq (.reg [Qc 52 0,Q 53 (.nck (.t 52)),Q 54 (.fa 0 (.t 53)),Q 55 (.ld false 1 (.t 54)),Qc 56 7,⟨some 57,.call 36 [.t 55, 
 .t 56],none⟩,Q 58 (.bin .neq (.t 57) (.k (.d (.str [82]))))]) (.cond (.t 58) (.seq (.reg [Qx 2 (Ki 0),Qx 3 KF]) .ret) .skip)) (.seq (.reg [Qc 59 0,Qc 60 7,Q 61 (.bin .add 
 (.t 60) (Ki 1)),Q 62 (.nck (.t 59)),Q 63 (.fa 1 (.t 62)),⟨none,.st 1 (.t 63) (.t 61),none⟩]) (.seq (.reg [Qc 64 5,Qa 2 64,Qx 3 KT]) .ret))))))))
def q5H:List LRes:=[.tmp 2,.tmp 3]
theorem q7B:q0t Tryz.prog 112 65 q5E q5H:=⟨_,_,Tryz.func112,rfl,by kernel_rfl,by kernel_rfl,rfl⟩
theorem j29(s:List UInt8)(k:Nat)(hs:s.length≤60000)(hk:k≤s.length):q9s Tryz.prog 112 [.ptr (.x 0) 0] [robj s k 0] (j3a s k (z7a s k)):=by
 have hwl:=q40 s k;generalize hR:z7a s k=R;unfold z7a at hR;have hw:=q7L s ((k:Nat):Int) (by omega);rw[q4O hk]at hw;generalize q3a s k=w at *;have hob:=z8g w (by omega);have bad:R=none→∀n:Int,j3a s k R (.tuple [.d (.int .i64 n),.d (.bool false)]) [robj s k 0]:=fun e n=>by rw[e];exact⟨n,rfl,rfl⟩
 have hw1:=q7H s ((k:Int)+(w.length:Int)) (by omega);have hcl:q61 s ((k:Int)+(w.length:Int))=k+w.length:=by rw[show(k:Int)+(w.length:Int)=((k+w.length:Nat):Int) by omega,q4O (by omega)]
 rw[hcl]at hw1;have hi1:=q5B (s:=s) (k:=k+w.length) (by omega);rw[q2c];refine q7B.q4X (by kernel_rfl) rfl ?_;simp only[go_sem,↓reduceIte,q5E,q5H];refine q6a.of hw ?_;simp only[go_sem,↓reduceIte];refine q0i.post hob (fun r hr=>?_);cases ho:objF w with
 |none=>
  rw[ho]at hr hR;obtain⟨n,rfl⟩:=hr;simp(disch:=omega)only[go_sem,↓reduceIte];refine q6a.of hw1 ?_;simp only[go_sem,↓reduceIte];exact bad hR.symm 0
 |some n=>
  rw[ho]at hr hR;simp only[z8f]at hr;subst hr;simp(disch:=omega)only[go_sem,↓reduceIte];refine q6a.of hw1 ?_;simp only at hR;generalize q4h s (k+w.length)=q at *;have hw2:=q7L s ((q:Nat):Int) (by omega);rw[q4O (by omega)]at hw2;simp only[go_sem,↓reduceIte];refine q0i.of hw2 ?_;simp only[go_sem,↓reduceIte];refine⟨fun h5=>bad (by rw[←hR,if_neg h5]) 0,fun h5=>?_⟩;rw[if_pos h5]at hR;have hql:q<s.length:=by
   rcases Zbc q s.length with h|h
   ·exact h
   ·unfold q3a at h5;rw[Zah h]at h5;cases h5
  have hw3:=q7H s ((q:Int)+1) (by omega);rw[show q61 s ((q:Int)+1)=q+1 by rw[show(q:Int)+1=((q+1:Nat):Int) by omega,q4O (by omega)]]at hw3;have hj1:=q5B (s:=s) (k:=q+1) (by omega);generalize q4h s (q+1)=j at *;have hw4:=q7L s ((j:Nat):Int) (by omega);rw[q4O (by omega)]at hw4;rw[IntWalk.i64_in _ (by omega)];refine q0i.of hw3 ?_;simp only[go_sem,↓reduceIte];refine q0i.of hw4 ?_;simp only[go_sem,↓reduceIte];refine⟨fun h6=>bad (by rw[←hR,if_neg h6]) 0,fun h6=>?_⟩;rw[if_pos h6]at hR
  simp(disch:=omega)only[IntWalk.i64_in,IntWalk.u8_in];subst hR;exact⟨rfl,by simp only[robj,Int.natCast_add,Zcp];rfl⟩
/-! ### Words -/
def z4F(s:List UInt8):RV→AV→List AObj→Prop
 |.ok v k,r,hs=>r=.d v.d∧hs=[robj s k 0]
 |.bad e,r,hs=>∃(v:Val) (k:Int),r=.d v.d∧hs=[robj s k e]
theorem z3c{s:List UInt8}{v:Val}{k:Nat}{R:RV}(h:R=.ok v k):z4F s R (.d v.d) [robj s k 0]:=by subst h;exact⟨rfl,rfl⟩
theorem q6m{s:List UInt8}{e:Nat}(v:Val)(k:Int){R:RV}(h:R=.bad e):z4F s R (.d v.d) [robj s k e]:=by subst h;exact⟨v,k,rfl,rfl⟩
def q44:q0m:=
 .seq (.reg [⟨some 2,.allo [.int .i64 0,.int .i64 0,.str [],.list [],.list []],none⟩]) (.seq (.dreg [Qc 8 0,Q 9 (.nck (.t 8)),Q 10 (.fa 0 (.t 9)),Q 11 (.ld false 1 (.t 
 10)),Qc 12 0,Q 13 (.nck (.t 12)),Q 14 (.fa 1 (.t 13)),Q 15 (.ld false 1 (.t 14)),⟨some 16,.call 36 [.t 11,.t 15],none⟩,Qa 3 16]) (.seq (.seq (.reg [Qc 17 3]) (.block 0 
 (.seq (.reg [Q 19 (.bin .eql (.t 17) (.k (.d (.str [110,117,108,108])))),Qa 18 19]) (.cond (.t 18) (.seq (.reg [Qc 20 0,Q 21 (.nck (.t 20)),Q 22 (.fa 1 (.t 21)),Q 23 (.ld 
 false 1 (.t 22)),Q 24 (.bin .add (.t 23) (Ki 4)),Q 25 (.nck (.t 20)),Q 26 (.fa 1 (.t 25)),⟨none,.st 1 (.t 26) (.t 24),none⟩]) (.seq (.reg [Q 27 (.bld [(0,1),(1,1),(2, 
 1),(3,1),(4,1)] [.int .i64 0,.int .i64 0,.str [],.list [],.list []] [] []),⟨none,.st 5 (.t 2) (.t 27),none⟩]) .ret)) (.seq (.reg [Q 29 (.bin .eql (.t 17) (.k (.d (.str 
 [116,114,117,101])))),Qa 28 29]) (.cond (.t 28) (.seq (.reg [Qc 30 0,Q 31 (.nck (.t 30)),Q 32 (.fa 1 (.t 31)),Q 33 (.ld false 1 (.t 32)),Q 34 (.bin .add (.t 33) (Ki 4)), 
 Q 35 (.nck (.t 30)),Q 36 (.fa 1 (.t 35)),⟨none,.st 1 (.t 36) (.t 34),none⟩]) (.seq (.reg [Q 37 (.bld [(0,1),(1,1),(2,1),(3,1),(4,1)] [.int .i64 0,.int .i64 0,.str 
 [],.list [],.list []] [false,false,false,true,true] [(0,.k (.d (.int .i64 1))),(1,.k (.d (.int .i64 1)))]),⟨none,.st 5 (.t 2) (.t 37),none⟩]) .ret)) (.seq (.reg [Q 39 
 (.bin .eql (.t 17) (.k (.d (.str [102,97,108,115,101])))),Qa 38 39]) (.cond (.t 38) (.seq (.reg [Qc 40 0,Q 41 (.nck (.t 40)),Q 42 (.fa 1 (.t 41)),Q 43 (.ld false 1 (.t 
 42)),Q 44 (.bin .add (.t 43) (Ki 5)),Q 45 (.nck (.t 40)),Q 46 (.fa 1 (.t 45)),⟨none,.st 1 (.t 46) (.t 44),none⟩]) (.seq (.reg [Q 47 (.bld [(0,1),(1,1),(2,1),(3,1), 
 (4,1)] [.int .i64 0,.int .i64 0,.str [],.list [],.list []] [false,false,false,true,true] [(0,.k (.d (.int .i64 1)))]),⟨none,.st 5 (.t 2) (.t 47),none⟩]) .ret)) 
 .skip)))))))) (.seq (.reg [Qc 49 0,⟨some 50,.prim .call [.k (.fn (.func 112) [] []),.t 49] [],none⟩,Qc 48 50,Q 51 (.ext 0 (.t 48)),Q 52 (.ext 1 (.t 48)),Qa 4 51,Qa 5 
 52]) (.seq (.seq (.reg [Qc 53 5]) (.cond (.t 53) (.seq (.reg [Qc 54 4,Q 55 (.bld [(0,1),(1,1),(2,1),(3,1),(4,1)] [.int .i64 0,.int .i64 0,.str [],.list [],.list []] 
 [false,false,false,true,true] [(0,.k (.d (.int .i64 7))),(1,.t 54)]),⟨none,.st 5 (.t 2) (.t 55),none⟩]) .ret) .skip)) (.seq (.reg [Qc 57 3,⟨some 58,.call 113 [.t 57], 
 none⟩,Qc 56 58,Q 59 (.ext 0 (.t 56)),Q 60 (.ext 1 (.t 56)),Qa 6 59,Qa 7 60]) (.seq (.seq (.reg [Qc 61 7,Q 62 (.eqN 0 true (.t 61))]) (.cond (.t 62) (.seq (.reg [Qc 63 0,Qc 
 64 7,⟨some 65,.prim .call [.k (.fn (.func 63) [] []),.t 63,.t 64] [],none⟩]) (.seq (.reg [Q 66 (.bld [(0,1),(1,1),(2,1),(3,1),(4,1)] [.int .i64 0,.int .i64 0,.str 
 [],.list [],.list []] [] []),⟨none,.st 5 (.t 2) (.t 66),none⟩]) .ret)) .skip)) (.seq (.reg [Qc 67 0,Q 68 (.nck (.t 67)),Q 69 (.fa 1 (.t 68)),Q 70 (.ld false 1 (.t 69)), 
 Qc 71 3,Q 72 (.len true (.t 71)),Q 73 (.bin .add (.t 70) (.t 72)),Q 74 (.nck (.t 67)),Q 75 (.fa 1 (.t 74)),⟨none,.st 1 (.t 75) (.t 73),none⟩]) (.seq (.reg [Qc 76 6,Q 77 
 (.bld [(0,1),(1,1),(2,1),(3,1),(4,1)] [.int .i64 0,.int .i64 0,.str [],.list [],.list []] [false,false,false,true,true] [(0,.k (.d (.int .i64 2))),(1,.t 
 76)]),⟨none,.st 5 (.t 2) (.t 77),none⟩]) .ret))))))))
def q5e:List LRes:=[.cell 2 true 5]
theorem q7g:q0t Tryz.prog 91 78 q44 q5e:=⟨_,_,Tryz.func91,rfl,by kernel_rfl,by kernel_rfl,rfl⟩
theorem j0V(s:List UInt8)(k:Nat)(hs:s.length≤60000)(hk:k≤s.length):q9s Tryz.prog 91 [.ptr (.x 0) 0] [robj s k 0] (z4F s (j0U s k)):=by
 have hwl:=q40 s k;generalize hR:j0U s k=R;unfold j0U at hR;have hw:=q7L s ((k:Nat):Int) (by omega);rw[q4O hk]at hw;have hrf:=j29 s k hs hk;have hfx:=j0B (q3a s k) (by omega);have good:∀(a b:Int) (t:List UInt8) (m:Int),R=.ok (Val.mk a b t [] []) m.toNat→0≤m→z4F s R (.d (.agg [.int .i64 a,.int .i64 b,.str t,.list [],.list []])) [.cells [.d (.str s),.d (.int .i64 m),.d .nil]]:=fun a b t m he hm=>by
  have:=z3c (s:=s) he;rwa [kmk,q2c,show((m.toNat:Nat):Int)=m by omega]at this
 generalize q3a s k=w at *;rw[q2c]at hrf ⊢;refine q7g.q4X (by kernel_rfl) rfl ?_;simp only[go_sem,↓reduceIte,q44,q5e];refine q6a.of hw ?_;simp(disch:=omega)only[go_sem,↓reduceIte];refine⟨fun w1=>?_,fun w1=>⟨fun w2=>?_,fun w2=>⟨fun w3=>?_,fun w3=>?_⟩⟩⟩
 ·rw[if_pos w1]at hR;exact good 0 0 [] (k+4) (by rw[←hR];congr 1) (by omega)
 ·rw[if_neg w1,if_pos w2]at hR;exact good 1 1 [] (k+4) (by rw[←hR];congr 1) (by omega)
 ·rw[if_neg w1,if_neg w2,if_pos w3]at hR;exact good 1 0 [] (k+5) (by rw[←hR];congr 1) (by omega)
 ·rw[if_neg w1,if_neg w2,if_neg w3]at hR;refine q0e.mp1 (.x 0) rfl (hrf) rfl rfl rfl rfl (fun r hs' hr=>?_);cases hra:z7a s k with
  |some p=>
   obtain⟨n,kn⟩:=p;rw[hra]at hR hr;obtain⟨rfl,rfl⟩:=hr;refine⟨⟨rfl,rfl⟩,?_⟩;simp only[go_sem,↓reduceIte,robj,errD];exact good 7 n [] kn (by rw[←hR];rfl) (by omega)
  |none=>
   rw[hra]at hR hr;obtain⟨n,rfl,rfl⟩:=hr;refine⟨⟨rfl,rfl⟩,?_⟩;simp only[go_sem,↓reduceIte,robj,errD];refine q0i.of hfx ?_;simp only[resP];generalize q75 w=F at hR;obtain⟨fn,fc⟩:=F;simp only at hR
   by_cases f0:fc=0
   ·subst f0;rw[if_pos rfl]at hR;rw[show errD 0=.nil from rfl];simp(disch:=omega)only[go_sem,↓reduceIte];exact good 2 fn [] _ (by rw[←hR];congr 1) (by omega)
   ·rw[if_neg f0]at hR;rw[q4k f0];have hf:=z2y s (k:Int) fc;rw[q2c,q4k f0]at hf;simp only[go_sem,↓reduceIte];refine q0e.mc1 (.x 0) rfl (hf) rfl rfl rfl rfl ⟨rfl,rfl⟩ ?_;simp only[go_sem,↓reduceIte,robj];have:=q6m (s:=s) zeroV (k:Int) hR.symm;rwa [Val.d_eq]at this
theorem j0h{s:List UInt8}{k:Nat}{c:UInt8}{x:UInt8}(h:s[k]?=some c):q8y (s.drop k) [x]=decide (c=x):=by
 rw[q07 h];simp[q8y]
def zD:D:=.agg [.int .i64 0,.int .i64 0,.str [],.list [],.list []]
def q4E:q0m:=
 .seq (.reg [⟨some 4,.allo [.int .i64 0,.int .i64 0,.str [],.list [],.list []],none⟩]) (.seq (.reg [Qc 6 0,⟨some 7,.prim .call [.k (.fn (.func 83) [] []),.t 6] [],none⟩, 
 Qa 5 7]) (.seq (.seq (.reg [Qc 8 1,Q 9 (.bin .gtr (.t 8) (Ki 8))]) (.cond (.t 9) (.reg [Qc 10 0,Q 11 (.mkI 76 (Ki 2)),⟨some 12,.prim .call [.k (.fn (.func 63) [] []),.t 10, 
 .t 11] [],none⟩]) .skip)) (.seq (.seq (.reg [Qc 13 0,Q 14 (.nck (.t 13)),Q 15 (.fa 2 (.t 14)),Q 16 (.ld false 1 (.t 15)),Q 17 (.eqN 0 true (.t 16))]) (.cond (.t 17) (.seq 
 (.reg [Q 18 (.bld [(0,1),(1,1),(2,1),(3,1),(4,1)] [.int .i64 0,.int .i64 0,.str [],.list [],.list []] [] []),⟨none,.st 5 (.t 4) (.t 18),none⟩]) .ret) .skip)) 
 (.seq (.block 0 (.seq (.reg [Qc 20 5,Q 21 (.bin .eql (.t 20) (Kb 47)),Qa 19 21]) (.cond (.t 19) (.seq (.reg [Qc 22 0,⟨some 23,.prim .call [.k (.fn (.func 84) [] []),.t 22] 
 [],none⟩,Q 24 (.bld [(0,1),(1,1),(2,1),(3,1),(4,1)] [.int .i64 0,.int .i64 0,.str [],.list [],.list []] [false,false,false,true,true] [(0,.k (.d (.int .i64 
 4))),(2,.t 23)]),⟨none,.st 5 (.t 4) (.t 24),none⟩]) .ret) (.seq (.reg [Qc 26 5,Q 27 (.bin .eql (.t 26) (Kb 40)),Qa 25 27]) (.cond (.t 25) (.seq (.reg [Qc 28 0,Qc 29 0, 
 ⟨some 30,.prim .call [.k (.fn (.func 86) [] []),.t 29] [],none⟩,⟨some 31,.prim .call [.k (.fn (.func 85) [] []),.t 28,.t 30] [],none⟩,⟨none,.st 5 (.t 4) (.t 31), 
 none⟩]) .ret) (.seq (.reg [Qc 33 0,⟨some 34,.prim .call [.k (.fn (.func 87) [] []),.t 33,.k (.d (.str [60,60]))] [],none⟩,Qa 32 34]) (.cond (.t 32) (.seq (.reg [Qc 35 0, 
 Qc 36 1,⟨some 37,.prim .call [.k (.fn (.func 88) [] []),.t 35,.t 36] [],none⟩,⟨none,.st 5 (.t 4) (.t 37),none⟩]) .ret) (.seq (.reg [Qc 39 5,Q 40 (.bin .eql (.t 39) (Kb 
 60)),Qa 38 40]) (.cond (.t 38) (.seq (.reg [Qc 41 0,Qc 42 0,⟨some 43,.prim .call [.k (.fn (.func 89) [] []),.t 42] [],none⟩,⟨some 44,.prim .call [.k (.fn (.func 85) [] 
 []),.t 41,.t 43] [],none⟩,⟨none,.st 5 (.t 4) (.t 44),none⟩]) .ret) (.seq (.reg [Qc 46 0,⟨some 47,.prim .call [.k (.fn (.func 87) [] []),.t 46,.k (.d (.str [91]))] [], 
 none⟩,Qa 45 47]) (.cond (.t 45) (.seq (.reg [Qc 48 0,Qc 49 1,⟨some 50,.prim .call [.k (.fn (.func 90) [] []),.t 48,.t 49] [],none⟩,⟨none,.st 5 (.t 4) (.t 50),none⟩]) 
 .ret) (.seq (.reg [Qc 52 5,⟨some 53,.call 61 [.t 52],none⟩,Qa 51 53]) (.cond (.t 51) (.seq (.reg [Qc 54 0,Q 55 (.mkI 76 (Ki 4)),⟨some 56,.prim .call [.k (.fn (.func 63) [] 
 []),.t 54,.t 55] [],none⟩]) (.seq (.reg [Q 57 (.bld [(0,1),(1,1),(2,1),(3,1),(4,1)] [.int .i64 0,.int .i64 0,.str [],.list [],.list []] [] []),⟨none,.st 5 (.t 
 4) (.t 57),none⟩]) .ret)) .skip))))))))))))) (.seq (.reg [Qc 58 0,⟨some 59,.prim .call [.k (.fn (.func 91) [] []),.t 58] [],none⟩,⟨none,.st 5 (.t 4) (.t 59),none⟩]) 
 .ret)))))
def q4I:List LRes:=[.cell 4 true 5]
theorem q6Q:q0t Tryz.prog 62 60 q4E q4I:=⟨_,_,Tryz.func62,rfl,by kernel_rfl,by kernel_rfl,rfl⟩
theorem j0i{s:List UInt8}{k:Nat}{c:UInt8}{x y:UInt8}(h:s[k]?=some c):q8y (s.drop k) [x,y]=(decide (c=x)&&decide (s[k+1]?=some y)):=by
 rw[q07 h];simp only[q8y,Zad,Zam,Zbz];cases hd:s[k+1]? with
 |none=>
  rw[Zah (List.getElem?_eq_none_iff.1 hd)];simp
 |some d=>
  rw[q07 hd];simp
theorem z5Y:zeroV.d=.agg [.int .i64 0,.int .i64 0,.str [],.list [],.list []]:=by rw[Val.d_eq];rfl
theorem j0D{s:List UInt8}{R:RV}{r:AV}{hs:List AObj}(h:z4F s R r hs):∃(v:Val) (k:Int) (e:Nat),r=.d (.agg [.int .i64 v.kind,.int .i64 v.n,.str v.s,.list (q0M v.l),.list (q3H v.f)])∧hs=[.cells [.d (.str s),.d (.int .i64 k),.d (errD e)]]:=by
 cases R with
 |ok v k=>obtain⟨rfl,rfl⟩:=h;exact⟨v,k,0,by rw[Val.d_eq],rfl⟩
 |bad e=>obtain⟨v,k,rfl,rfl⟩:=h;exact⟨v,k,e,by rw[Val.d_eq],rfl⟩
def topP:RV→Res
 |.ok v k=>.tup [v.d,.int .i64 k,.nil]
 |.bad e=>.tup [zeroV.d,.int .i64 0,errD e]
def q9Q:q0m:=
 .seq (.reg [⟨some 4,.allo [.int .i64 0,.int .i64 0,.str [],.list [],.list []],none⟩,Qx 5 (Ki 0),Qx 6 (.k (.d .nil))]) (.seq (.seq (.reg [Qc 9 0,Q 10 (.len true (.t 9)),Q 
 11 (.bin .gtr (.t 10) (Ki 60000)),Qc 12 11,Qd 13 1 12 false,Qg 14 (.bin .lss (.t 13) (Ki 0)) 12 false,Q 15 (.pick (.t 12) KT (.t 14)),Qc 16 15,Qd 17 1 16 false,Qd 18 0 16 
 false,Qg 19 (.len true (.t 18)) 16 false,Qg 20 (.bin .gtr (.t 17) (.t 19)) 16 false,Q 21 (.pick (.t 16) KT (.t 20))]) (.cond (.t 21) (.seq (.reg [Q 22 (.bld [(0,1),(1,1), 
 (2,1),(3,1),(4,1)] [.int .i64 0,.int .i64 0,.str [],.list [],.list []] [] []),Q 23 (.mkI 76 (Ki 1)),⟨none,.st 5 (.t 4) (.t 22),none⟩,Qx 5 (Ki 0),Qa 6 23]) .ret) 
 .skip)) (.seq (.reg [Qc 24 0,Qc 25 1,Q 26 (.bld [(0,1),(1,1),(2,1)] [.str [],.int .i64 0,.nil] [] [(0,.t 24),(1,.t 25)]),⟨some 27,.box (.t 26),none⟩,Qa 7 27]) 
 (.seq (.reg [Qc 28 7,⟨some 29,.prim .call [.k (.fn (.func 62) [] []),.t 28,.k (.d (.int .i64 1))] [],none⟩,⟨some 8,.allo [.int .i64 0,.int .i64 0,.str [],.list [], 
 .list []],none⟩,⟨none,.st 5 (.t 8) (.t 29),none⟩]) (.seq (.seq (.reg [Qc 30 7,Q 31 (.nck (.t 30)),Q 32 (.fa 2 (.t 31)),Q 33 (.ld false 1 (.t 32)),Q 34 (.eqN 0 false (.t 
 33))]) (.cond (.t 34) (.reg [Qc 35 7,Q 36 (.ld true 5 (.t 8)),⟨some 37,.call 34 [.t 36],none⟩,⟨some 38,.prim .call [.k (.fn (.func 63) [] []),.t 35,.t 37] [],none⟩]) 
 .skip)) (.seq (.seq (.reg [Qc 39 7,Q 40 (.nck (.t 39)),Q 41 (.fa 2 (.t 40)),Q 42 (.ld false 1 (.t 41)),Q 43 (.eqN 0 true (.t 42))]) (.cond (.t 43) (.seq (.dreg [Q 44 (.bld 
 [(0,1),(1,1),(2,1),(3,1),(4,1)] [.int .i64 0,.int .i64 0,.str [],.list [],.list []] [] []),Qc 45 7,Q 46 (.nck (.t 45)),Q 47 (.fa 2 (.t 46)),Q 48 (.ld false 1 (.t 
 47)),⟨none,.stC 5 (.t 4) (.t 44) [(45,.cp (.t 7)),(46,.nck (.t 45)),(47,.fa 2 (.t 46)),(48,.ld false 1 (.t 47))],none⟩,Q 5 (.cp (Ki 0)),Qc 6 48]) .ret) .skip)) (.seq 
 (.dreg [Q 49 (.ld true 5 (.t 8)),Qc 50 7,Q 51 (.nck (.t 50)),Q 52 (.fa 1 (.t 51)),Q 53 (.ld false 1 (.t 52)),⟨none,.stC 5 (.t 4) (.t 49) [(50,.cp (.t 7)),(51,.nck (.t 
 50)),(52,.fa 1 (.t 51)),(53,.ld false 1 (.t 52))],none⟩,Qc 5 53,Q 6 (.cp (.k (.d .nil)))]) .ret))))))
def q9V:List LRes:=[.cell 4 true 5,.tmp 5,.tmp 6]
theorem z1R:q0t Tryz.prog 38 54 q9Q q9V:=⟨_,_,Tryz.func38,rfl,by kernel_rfl,by kernel_rfl,rfl⟩
def fltF(s:List UInt8)(at_:Nat):RV:=
 match s[q4h s at_]? with
 |none=>.bad 5
 |some c=>
  if c.toNat=47 then(match z1B s (q4h s at_)with
   |none=>.bad 4
   |some (b,k)=>.ok (namV b) k)
  else if c.toNat=40 then j4A s (q4h s at_+1)
  else if z0E c=true then .bad 4
  else j0U s (q4h s at_)
def z0J(s:List UInt8)(at_:Int):RV:=
 if 60000<s.length∨at_<0∨(s.length:Int)<at_ then .bad 1
 else match fltF s at_.toNat with
  |.bad e=>.bad e
  |.ok v k=>if q5K v=0 then .ok v k else .bad (q5K v)
def Flt(s:List UInt8):Prop:=∀c∈s,c.toNat≠60∧c.toNat≠91
theorem z2z(s:List UInt8)(at_:Nat)(ha:at_≤s.length):match fltF s at_ with
  |.ok v k=>at_<k∧k≤s.length∧v.sm 300=true
  |.bad e=>1≤e∧e≤8:=by
 have hsk:=q5B ha;have one:∀{R:RV} {q:Nat},at_≤q→(match R with
   |.ok v k=>q<k∧k≤s.length∧v.sm 300=true∧(ptV v).1=1
   |.bad e=>1≤e∧e≤8)→match R with
   |.ok v k=>at_<k∧k≤s.length∧v.sm 300=true
   |.bad e=>1≤e∧e≤8:=fun{R q} hq h=>by
  cases R with
  |bad e=>exact h
  |ok v k=>obtain⟨h1,h2,h3,h4⟩:=h;exact⟨by omega,h2,h3⟩
 unfold fltF;cases hc:s[q4h s at_]? with
 |none=>exact⟨by decide,by decide⟩
 |some c=>
  have hlt:q4h s at_<s.length:=(Zab.1 hc).1;simp only
  by_cases c47:c.toNat=47
  ·rw[if_pos c47];cases hn:z1B s (q4h s at_)with
   |none=>exact⟨by decide,by decide⟩
   |some p=>
    obtain⟨b,k⟩:=p;obtain⟨n1,n2,n3,_⟩:=z8d hlt hn;exact⟨by omega,n2,Val.q6L.2 ⟨by simp only[namV,Val.s];omega,by simp[namV,Val.l],by simp[namV,Val.f],by simp[namV,Val.l],by simp[namV,Val.f]⟩⟩
  ·rw[if_neg c47]
   by_cases c40:c.toNat=40
   ·rw[if_pos c40];exact one (by omega) (j0m (by omega))
   ·rw[if_neg c40]
    by_cases hs:z0E c=true
    ·rw[if_pos hs];exact⟨by decide,by decide⟩
    ·rw[if_neg hs];exact one (by omega) (j0W hsk.2)
theorem j3z{s:List UInt8}{a n:Nat}{v:Val}(h:z0J s a=.ok v n):a<n∧n≤s.length∧v.sm 1048576=true:=by
 unfold z0J at h;split at h
 ·cases h
 ·rename_i hc;have hg:=z2z s (a:Int).toNat (by omega);split at h
  ·cases h
  ·rename_i x k hx;rw[hx]at hg;split at h
   ·cases h;exact⟨by have:=hg.1;omega,hg.2.1,Val.z5R (by omega) v hg.2.2⟩
   ·cases h
theorem j0R{s:List UInt8}{k:Int}{e:Nat}(h:z0J s k=.bad e):1≤e:=by
 unfold z0J at h;split at h
 ·cases h;decide
 ·rename_i hc;have hg:=z2z s k.toNat (by omega);split at h
  ·rename_i e' hx;cases h;rw[hx]at hg;exact hg.1
  ·split at h
   ·cases h
   ·rename_i hf;cases h;omega
theorem j4j(s:List UInt8)(hs:s.length≤60000)(hno:Flt s)(k:Nat)(hk:k≤s.length):q9s Tryz.prog 62 [.ptr (.x 0) 0,.d (.int .i64 1)] [robj s k 0] (z4F s (fltF s k)):=by
 generalize hR:fltF s k=R;unfold fltF at hR;have hsk:=q5B hk;have hnx:=j8v s k hs hk;generalize q4h s k=q at *;rw[q2c]at hnx ⊢;refine q6Q.q4X (by kernel_rfl) rfl ?_;simp only[go_sem,↓reduceIte,q4E,q4I];refine q0e.mc1 (.x 0) rfl (hnx) rfl rfl rfl rfl ⟨rfl,rfl⟩ ?_;cases hc:s[q]? with
 |none=>
  rw[hc]at hR;have fb:=q6m (s:=s) zeroV (q:Int) hR.symm;rw[z5Y,z9F]at fb;simp only;rw[z9F];simp only[go_sem,↓reduceIte];exact fb
 |some c=>
  have hc8:=q3s c;have hlt:q<s.length:=(Zab.1 hc).1;obtain⟨no60,no91⟩:=hno c (Zaa hc);rw[hc]at hR;simp only at hR;simp only;rw[q2c];simp only[go_sem,↓reduceIte];refine⟨fun h47=>?_,fun h47=>⟨fun h40=>?_,fun h40=>?_⟩⟩
  ·rw[if_pos (by omega)]at hR;have hnm:=j2v s q hs hlt;rw[q2c]at hnm;refine q0e.mp1 (.x 0) rfl (hnm) rfl rfl rfl rfl (fun r hs' hr=>?_);cases hn:z1B s q with
   |none=>
    rw[hn]at hR hr;obtain⟨b,k2,rfl,rfl⟩:=hr;refine⟨⟨rfl,rfl⟩,?_⟩;have fb:=q6m (s:=s) (namV b) k2 hR.symm;rw[namV,kmk,z9E]at fb;rw[z9E];simp only[go_sem,↓reduceIte];exact fb
   |some p=>
    obtain⟨b,kn⟩:=p;rw[hn]at hR hr;obtain⟨rfl,rfl⟩:=hr;refine⟨⟨rfl,rfl⟩,?_⟩;have fb:=z3c (s:=s) hR.symm;rw[namV,kmk,q2c]at fb;rw[q2c];simp only[go_sem,↓reduceIte];exact fb
  ·rw[if_neg (by omega),if_pos (by omega)]at hR;have hl:=j2j s q hs hlt;rw[q2c]at hl;unfold j4A at hR;refine q0e.mp1 (.x 0) rfl (hl) rfl rfl rfl rfl (fun r hs' hr=>?_);cases hx:litF 0 1 (s.drop (q+1)) [] (q+1)with
   |none=>
    rw[hx]at hR hr;obtain⟨k2,rfl,rfl⟩:=hr;refine⟨⟨rfl,rfl⟩,?_⟩;have fb:=q6m (s:=s) (strV []) k2 hR.symm;have hst:=j84 s k2 [] (n:=5) (by decide);rw[strV,kmk,z9F]at fb hst;rw[z9F];simp only[go_sem,↓reduceIte];refine q0e.mc1 (.x 0) rfl (hst) rfl rfl rfl rfl ⟨rfl,rfl⟩ ?_;simp only[go_sem,↓reduceIte];exact fb
   |some p=>
    obtain⟨b,kn⟩:=p;rw[hx]at hR hr;obtain⟨rfl,rfl⟩:=hr;refine⟨⟨rfl,rfl⟩,?_⟩;simp only at hR;have hst:=j9J s (kn:Int) b;rw[strV,kmk,q2c]at hst;rw[q2c];simp only[go_sem,↓reduceIte];refine q0e.mc1 (.x 0) rfl (hst) rfl rfl rfl rfl ⟨rfl,rfl⟩ ?_
    by_cases hb:b.length≤200
    ·rw[if_pos hb]at hR ⊢;have fb:=z3c (s:=s) hR.symm;rw[strV,kmk,q2c]at fb;rw[q2c];simp only[go_sem,↓reduceIte];exact fb
    ·rw[if_neg hb]at hR ⊢;have fb:=q6m (s:=s) (strV b) (kn:Int) hR.symm;rw[strV,kmk,j59]at fb;rw[j59];simp only[go_sem,↓reduceIte];exact fb
  ·rw[if_neg (by omega),if_neg (by omega)]at hR;have het:=j70 s q [60,60] hs (by omega) (by simp);have e60:¬c=60:=fun e=>no60 (by rw[e];rfl)
   have e91:¬c=91:=fun e=>no91 (by rw[e];rfl)
   rw[j0i hc,decide_eq_false e60,Zdn,if_neg (by decide),q2c]at het;have het2:=j70 s q [91] hs (by omega) (by simp);rw[j0h hc,decide_eq_false e91,if_neg (by decide),q2c]at het2;refine q0e.mc1 (.x 0) rfl (het) rfl rfl rfl rfl ⟨rfl,rfl⟩ ?_;simp only[go_sem,↓reduceIte];refine⟨fun h60=>absurd h60 (by omega),fun h60=>?_⟩;refine q0e.mc1 (.x 0) rfl (het2) rfl rfl rfl rfl ⟨rfl,rfl⟩ ?_;simp only[go_sem,↓reduceIte];refine q0i.of (z7f c) ?_;simp only[go_sem,↓reduceIte];refine⟨fun hs1=>?_,fun hs1=>?_⟩
   ·rw[if_pos hs1]at hR;have hf:=z2y s (q:Int) 4;have fb:=q6m (s:=s) zeroV (q:Int) hR.symm;rw[z5Y,z9E]at fb;rw[q2c,z9E,j5f.2.2.1]at hf;refine q0e.mc1 (.x 0) rfl (hf) rfl rfl rfl rfl ⟨rfl,rfl⟩ ?_;simp only[go_sem,↓reduceIte];exact fb
   ·rw[if_neg (by simp[hs1])]at hR;have hwv:=j0V s q hs (by omega);rw[hR,q2c]at hwv;refine q0e.mp1 (.x 0) rfl (hwv) rfl rfl rfl rfl (fun r hs' hr=>?_);obtain⟨v,k2,e,rfl,rfl⟩:=j0D hr;refine⟨⟨rfl,rfl⟩,?_⟩;simp only[go_sem,↓reduceIte];exact hr
theorem z7O(s:List UInt8)(k:Int)(hs:s.length≤1000000000)(hno:Flt s):q0y Tryz.prog 38 [.str s,.int .i64 k] (fun r=>r=topP (z0J s k)):=by
 refine z1R.call rfl ?_;generalize hR:z0J s k=R;unfold z0J at hR;simp only[go_sem,↓reduceIte,q9Q,q9V];have bad:∀(e:Nat),R=.bad e→Res.tup [.agg [.int .i64 0,.int .i64 0,.str [],.list [],.list []],.int .i64 0,errD e]=topP R:=fun e he=>by
  rw[he,topP,z5Y]
 have b1:=bad 1;rw[q4k (by decide)]at b1;refine⟨fun h1=>⟨fun h2=>⟨fun h3=>?_,fun h3=>?_⟩,fun h2=>?_⟩,fun h1=>?_⟩
 ·rw[if_pos (by omega)]at hR;exact b1 hR.symm
 ·rw[if_neg (by omega)]at hR;obtain⟨q,rfl⟩:∃q:Nat,k=q:=⟨k.toNat,by omega⟩;rw[Zdd]at hR;have hc:=j4j s (by omega) hno q (by omega);have hg:=z2z s q (by omega);rw[q2c]at hc;refine q0e.mp1 (.l 27) rfl (hc) rfl rfl rfl rfl (fun r hs' hr=>?_);cases hx:fltF s q with
  |bad e=>
   rw[hx]at hR hr hg;obtain⟨v,k2,rfl,rfl⟩:=hr;refine⟨⟨rfl,rfl⟩,?_⟩;have he:e≠0:=by obtain⟨g1,_⟩:=hg;omega
   rw[z3g s k2 he,Val.d_eq v];have b2:=bad e hR.symm;rw[q4k he]at b2;simp only[go_sem,↓reduceIte];exact b2
  |ok v n=>
   rw[hx]at hR hr hg;obtain⟨rfl,rfl⟩:=hr;refine⟨⟨rfl,rfl⟩,?_⟩;simp only at hR;obtain⟨g1,g2,g3⟩:=hg;have hf:=z7x v (Val.z5R (by omega) v g3);have hfl:=z2y s (n:Int) (q5K v);rw[q2c]at hfl ⊢;rw[Val.d_eq v]at hf ⊢;simp only[go_sem,↓reduceIte];refine q0i.of hf ?_;simp only[go_sem,↓reduceIte];refine q0e.mc1 (.l 27) rfl (hfl) rfl rfl rfl rfl ⟨rfl,rfl⟩ ?_
   by_cases f0:q5K v=0
   ·rw[if_pos f0]at hR;rw[f0,q2c];simp only[go_sem,↓reduceIte];rw[←hR,topP,Val.d_eq]
   ·rw[if_neg f0]at hR;have b2:=bad _ hR.symm;rw[q4k f0]at b2;rw[z3g s n f0];simp only[go_sem,↓reduceIte];exact b2
 ·rw[if_pos (by omega)]at hR;exact b1 hR.symm
 ·rw[if_pos (by omega)]at hR;exact b1 hR.symm
def opCh(first:Bool)(c:UInt8):Bool:=
 (decide (97≤c.toNat)&&decide (c.toNat≤122)) || ((decide (65≤c.toNat)&&decide (c.toNat≤90)) || (decide (c.toNat=42) || (decide (c.toNat=39) || (decide (c.toNat=34) || (!first&&(decide (48≤c.toNat)&&decide (c.toNat≤57)))))))
def opL:List UInt8→Bool→Bool
 |[],_=>true
 |c::r,b=>opCh b c&&opL r false
def j0v(w:List UInt8):Bool:=decide (w≠[])&&(decide (w.length≤8)&&(decide (w≠[116,114,117,101])&&(decide (w≠[102,97,108,115,101])&&(decide (w≠[110,117,108,108])&&opL w true))))
def q9c:q0m:=
 .seq (.reg [Qx 2 KF]) (.seq (.seq (.reg [Qc 5 0,Q 6 (.bin .eql (.t 5) (.k (.d (.str [])))),Qc 7 6,Qd 8 0 7 false,Qg 9 (.len true (.t 8)) 7 false,Qg 10 (.bin .gtr (.t 9) (Ki 
 8)) 7 false,Q 11 (.pick (.t 7) KT (.t 10)),Qc 12 11,Qd 13 0 12 false,Qg 14 (.bin .eql (.t 13) (.k (.d (.str [116,114,117,101])))) 12 false,Q 15 (.pick (.t 12) KT (.t 
 14)),Qc 16 15,Qd 17 0 16 false,Qg 18 (.bin .eql (.t 17) (.k (.d (.str [102,97,108,115,101])))) 16 false,Q 19 (.pick (.t 16) KT (.t 18)),Qc 20 19,Qd 21 0 20 false,Qg 22 
 (.bin .eql (.t 21) (.k (.d (.str [110,117,108,108])))) 20 false,Q 23 (.pick (.t 20) KT (.t 22))]) (.cond (.t 23) (.seq (.reg [Qx 2 KF]) .ret) .skip)) (.seq (.seq (.reg [Qc 24 
 0,Q 25 (.len true (.t 24)),Q 26 (.cp (Ki 0))]) (.block 0 (.loop (.seq (.reg [Q 27 (.bin .lss (.t 26) (.t 25))]) (.seq (.cond (.t 27) .skip (.exit 0)) (.seq (.block 1 (.seq 
 (.reg [Qc 28 26,Qa 3 28]) (.seq (.reg [Qc 29 0,Qc 30 3,Q 31 (.idxS (.t 29) (.t 30)),Qa 4 31]) (.seq (.reg [Qc 32 4,Q 33 (.bin .lss (.t 32) (Kb 97)),Qc 34 33,Qd 35 4 34 
 false,Qg 36 (.bin .gtr (.t 35) (Kb 122)) 34 false,Q 37 (.pick (.t 34) KT (.t 36)),Qc 38 37,Qd 39 4 38 true,Qg 40 (.bin .lss (.t 39) (Kb 65)) 38 true,Qd 41 40 38 true,Qd 42 
 4 41 false,Qg 43 (.bin .gtr (.t 42) (Kb 90)) 41 false,Qg 44 (.pick (.t 41) KT (.t 43)) 38 true,Q 45 (.pick (.t 38) (.t 44) KF),Qc 46 45,Qd 47 4 46 true,Qg 48 (.bin .neq (.t 
 47) (Kb 42)) 46 true,Q 49 (.pick (.t 46) (.t 48) KF),Qc 50 49,Qd 51 4 50 true,Qg 52 (.bin .neq (.t 51) (Kb 39)) 50 true,Q 53 (.pick (.t 50) (.t 52) KF),Qc 54 53,Qd 55 4 54 
 true,Qg 56 (.bin .neq (.t 55) (Kb 34)) 54 true,Q 57 (.pick (.t 54) (.t 56) KF),Qc 58 57,Qd 59 3 58 true,Qg 60 (.bin .eql (.t 59) (Ki 0)) 58 true,Qd 61 60 58 true,Qd 62 4 
 61 false,Qg 63 (.bin .lss (.t 62) (Kb 48)) 61 false,Qg 64 (.pick (.t 61) KT (.t 63)) 58 true,Qd 65 64 58 true,Qd 66 4 65 false,Qg 67 (.bin .gtr (.t 66) (Kb 57)) 65 false,Qg 
 68 (.pick (.t 65) KT (.t 67)) 58 true,Q 69 (.pick (.t 58) (.t 68) KF)]) (.cond (.t 69) (.seq (.reg [Qx 2 KF]) .ret) .skip))))) (.reg [Q 70 (.bin .add (.t 26) (Ki 1)),Qc 26 
 70]))))))) (.seq (.reg [Qx 2 KT]) .ret)))
def q9f:List LRes:=[.tmp 2]
theorem z00:q0t Tryz.prog 37 71 q9c q9f:=⟨_,_,Tryz.func37,rfl,by kernel_rfl,by kernel_rfl,rfl⟩
theorem z5z(w:List UInt8):q0y Tryz.prog 37 [.str w] (fun r=>r=.one (.bool (j0v w))):=by
 generalize hR:j0v w=R;unfold j0v at hR;refine z00.call rfl ?_;simp only[go_sem,↓reduceIte,q9c,q9f];have no:∀{x:Bool},x=R→x=false→Res.one (D.bool false)=Res.one (D.bool R):=fun h1 h2=>by rw[←h1,h2]
 refine⟨fun h1=>⟨fun h2=>⟨fun h3=>⟨fun h4=>⟨fun h5=>?_,fun h5=>?_⟩,fun h4=>?_⟩,fun h3=>?_⟩,fun h2=>?_⟩,fun h1=>?_⟩
 ·exact no hR (by simp[h5])
 rotate_left
 ·exact no hR (by simp[h4])
 ·exact no hR (by simp[h3])
 ·exact no hR (by simp;omega)
 ·exact no hR (by simp[h1])
 ·skip
  have hR':opL w true=R:=by
   rw[←hR];simp[h1,h3,h4,h5];omega
  refine q0j (fun i:Nat=>⟨[(0,.d (.str w)),(25,.d (.int .i64 w.length)),(26,.d (.int .i64 i))],[],[]⟩)
   (fun i=>i≤w.length∧opL (w.drop i) (decide (i=0))=R) (fun i=>w.length-i) 0 ?_ ?_ ?_
  ·refine q0h ?_ trivial;simp only[go_sem,↓reduceIte,Sub,Int.natCast_add,Int.natCast_mul]
  ·exact⟨by omega,hR'⟩
  ·intro i ⟨hi,hg⟩;simp only[go_sem,↓reduceIte];refine⟨fun q1=>?_,fun q1=>?_⟩
   ·obtain⟨c,hc⟩:=get_some (l:=w) (i:=i) (by omega);have hc8:=q3s c;rw[q07 hc,opL]at hg
    by_cases k0:97≤c.toNat∧c.toNat≤122
    ·have ho:opCh (decide (i=0)) c=true:=by unfold opCh;simp;omega
     rw[ho,Zci]at hg;have l97:((c.toNat:Int)<97)=False:=eq_false (by omega);have g122:(122<(c.toNat:Int))=False:=eq_false (by omega);simp(disch:=omega)only[go_sem,↓reduceIte,q0d,hc,l97,g122];refine⟨i+1,?_,⟨by omega,by simpa using hg⟩,by omega⟩;refine q0h ?_ trivial;simp only[go_sem,↓reduceIte,Sub,Int.natCast_add,Int.natCast_mul]
    by_cases k1:65≤c.toNat∧c.toNat≤90
    ·have ho:opCh (decide (i=0)) c=true:=by unfold opCh;simp;omega
     rw[ho,Zci]at hg;have l97:((c.toNat:Int)<97)=True:=eq_true (by omega);have l65:((c.toNat:Int)<65)=False:=eq_false (by omega);have g90:(90<(c.toNat:Int))=False:=eq_false (by omega);simp(disch:=omega)only[go_sem,↓reduceIte,q0d,hc,l97,l65,g90];refine⟨i+1,?_,⟨by omega,by simpa using hg⟩,by omega⟩;refine q0h ?_ trivial;simp only[go_sem,↓reduceIte,Sub,Int.natCast_add,Int.natCast_mul]
    by_cases k2:c.toNat=42
    ·have ho:opCh (decide (i=0)) c=true:=by unfold opCh;simp;omega
     rw[ho,Zci]at hg;have l97:((c.toNat:Int)<97)=True:=eq_true (by omega);have l65:((c.toNat:Int)<65)=True:=eq_true (by omega);have e42:((c.toNat:Int)=42)=True:=eq_true (by omega);simp(disch:=omega)only[go_sem,↓reduceIte,q0d,hc,l97,l65,e42];refine⟨i+1,?_,⟨by omega,by simpa using hg⟩,by omega⟩;refine q0h ?_ trivial;simp only[go_sem,↓reduceIte,Sub,Int.natCast_add,Int.natCast_mul]
    by_cases k3:c.toNat=39
    ·have ho:opCh (decide (i=0)) c=true:=by unfold opCh;simp;omega
     rw[ho,Zci]at hg;have l97:((c.toNat:Int)<97)=True:=eq_true (by omega);have l65:((c.toNat:Int)<65)=True:=eq_true (by omega);have e42:((c.toNat:Int)=42)=False:=eq_false (by omega);have e39:((c.toNat:Int)=39)=True:=eq_true (by omega);simp(disch:=omega)only[go_sem,↓reduceIte,q0d,hc,l97,l65,e42,e39];refine⟨i+1,?_,⟨by omega,by simpa using hg⟩,by omega⟩;refine q0h ?_ trivial;simp only[go_sem,↓reduceIte,Sub,Int.natCast_add,Int.natCast_mul]
    by_cases k4:c.toNat=34
    ·have ho:opCh (decide (i=0)) c=true:=by unfold opCh;simp;omega
     rw[ho,Zci]at hg;have l97:((c.toNat:Int)<97)=True:=eq_true (by omega);have l65:((c.toNat:Int)<65)=True:=eq_true (by omega);have e42:((c.toNat:Int)=42)=False:=eq_false (by omega);have e39:((c.toNat:Int)=39)=False:=eq_false (by omega);have e34:((c.toNat:Int)=34)=True:=eq_true (by omega);simp(disch:=omega)only[go_sem,↓reduceIte,q0d,hc,l97,l65,e42,e39,e34];refine⟨i+1,?_,⟨by omega,by simpa using hg⟩,by omega⟩;refine q0h ?_ trivial
     simp only[go_sem,↓reduceIte,Sub,Int.natCast_add,Int.natCast_mul]
    by_cases ki:i=0
    ·subst ki;have ho:opCh (decide ((0:Nat)=0)) c=false:=by unfold opCh;simp;omega
     rw[ho,Zdn]at hg;rw[←hg];have i0:getI w 0=some c:=by rw[show(0:Int)=((0:Nat):Int)from rfl,q0d,hc]
     by_cases r0:c.toNat<65
     ·have l97:((c.toNat:Int)<97)=True:=eq_true (by omega);have l65:((c.toNat:Int)<65)=True:=eq_true (by omega);have e42:((c.toNat:Int)=42)=False:=eq_false (by omega);have e39:((c.toNat:Int)=39)=False:=eq_false (by omega);have e34:((c.toNat:Int)=34)=False:=eq_false (by omega);simp(disch:=omega)only[go_sem,↓reduceIte,q0d,hc,i0,l97,l65,e42,e39,e34]
     by_cases r1:c.toNat<97
     ·have l97:((c.toNat:Int)<97)=True:=eq_true (by omega);have l65:((c.toNat:Int)<65)=False:=eq_false (by omega);have g90:(90<(c.toNat:Int))=True:=eq_true (by omega);have e42:((c.toNat:Int)=42)=False:=eq_false (by omega);have e39:((c.toNat:Int)=39)=False:=eq_false (by omega);have e34:((c.toNat:Int)=34)=False:=eq_false (by omega);simp(disch:=omega)only[go_sem,↓reduceIte,q0d,hc,i0,l97,l65,g90,e42,e39,e34]
     have l97:((c.toNat:Int)<97)=False:=eq_false (by omega);have g122:(122<(c.toNat:Int))=True:=eq_true (by omega);have l65:((c.toNat:Int)<65)=False:=eq_false (by omega);have g90:(90<(c.toNat:Int))=True:=eq_true (by omega);have e42:((c.toNat:Int)=42)=False:=eq_false (by omega);have e39:((c.toNat:Int)=39)=False:=eq_false (by omega);have e34:((c.toNat:Int)=34)=False:=eq_false (by omega);simp(disch:=omega)only[go_sem,↓reduceIte,q0d,hc,i0,l97,g122,l65,g90,e42,e39,e34]
    ·have i0:((i:Int)=0)=False:=eq_false (by omega)
     by_cases kd:48≤c.toNat∧c.toNat≤57
     ·have ho:opCh (decide (i=0)) c=true:=by unfold opCh;simp[ki];omega
      rw[ho,Zci]at hg;have l97:((c.toNat:Int)<97)=True:=eq_true (by omega);have l65:((c.toNat:Int)<65)=True:=eq_true (by omega);have l48:((c.toNat:Int)<48)=False:=eq_false (by omega);have g57:(57<(c.toNat:Int))=False:=eq_false (by omega);have e42:((c.toNat:Int)=42)=False:=eq_false (by omega);have e39:((c.toNat:Int)=39)=False:=eq_false (by omega);have e34:((c.toNat:Int)=34)=False:=eq_false (by omega);simp(disch:=omega)only[go_sem,↓reduceIte,q0d,hc,i0,l97,l65,l48,g57,e42,e39,e34]
      refine⟨i+1,?_,⟨by omega,by simpa using hg⟩,by omega⟩;refine q0h ?_ trivial;simp only[go_sem,↓reduceIte,Sub,Int.natCast_add,Int.natCast_mul]
     ·have ho:opCh (decide (i=0)) c=false:=by unfold opCh;simp[ki];omega
      rw[ho,Zdn]at hg;rw[←hg]
      by_cases r0:c.toNat<65
      ·have l97:((c.toNat:Int)<97)=True:=eq_true (by omega);have l65:((c.toNat:Int)<65)=True:=eq_true (by omega);have e42:((c.toNat:Int)=42)=False:=eq_false (by omega);have e39:((c.toNat:Int)=39)=False:=eq_false (by omega);have e34:((c.toNat:Int)=34)=False:=eq_false (by omega)
       by_cases r48:c.toNat<48
       ·have l48:((c.toNat:Int)<48)=True:=eq_true (by omega);simp(disch:=omega)only[go_sem,↓reduceIte,q0d,hc,i0,l97,l65,e42,e39,e34,l48]
       ·have l48:((c.toNat:Int)<48)=False:=eq_false (by omega);have g57:(57<(c.toNat:Int))=True:=eq_true (by omega);simp(disch:=omega)only[go_sem,↓reduceIte,q0d,hc,i0,l97,l65,e42,e39,e34,l48,g57]
      by_cases r1:c.toNat<97
      ·have l97:((c.toNat:Int)<97)=True:=eq_true (by omega);have l65:((c.toNat:Int)<65)=False:=eq_false (by omega);have g90:(90<(c.toNat:Int))=True:=eq_true (by omega);have e42:((c.toNat:Int)=42)=False:=eq_false (by omega);have e39:((c.toNat:Int)=39)=False:=eq_false (by omega);have e34:((c.toNat:Int)=34)=False:=eq_false (by omega);have l48:((c.toNat:Int)<48)=False:=eq_false (by omega);have g57:(57<(c.toNat:Int))=True:=eq_true (by omega)
       simp(disch:=omega)only[go_sem,↓reduceIte,q0d,hc,i0,l97,l65,g90,e42,e39,e34,l48,g57]
      have l97:((c.toNat:Int)<97)=False:=eq_false (by omega);have g122:(122<(c.toNat:Int))=True:=eq_true (by omega);have l65:((c.toNat:Int)<65)=False:=eq_false (by omega);have g90:(90<(c.toNat:Int))=True:=eq_true (by omega);have e42:((c.toNat:Int)=42)=False:=eq_false (by omega);have e39:((c.toNat:Int)=39)=False:=eq_false (by omega);have e34:((c.toNat:Int)=34)=False:=eq_false (by omega);have l48:((c.toNat:Int)<48)=False:=eq_false (by omega);have g57:(57<(c.toNat:Int))=True:=eq_true (by omega)
      simp(disch:=omega)only[go_sem,↓reduceIte,q0d,hc,i0,l97,g122,l65,g90,e42,e39,e34,l48,g57]
   ·rw[Zah (by omega),opL]at hg;rw[←hg]
structure OpX where
 nm:List UInt8
 args:List Val
def OpX.d(o:OpX):D:=.agg [.str o.nm,.list (q0M o.args)]
def opxD(l:List OpX):List D:=l.map OpX.d
theorem z8j(l:List OpX):(opxD l).length=l.length:=by simp[opxD]
theorem j2Q(l:List OpX)(o:OpX):opxD (l++[o])=opxD l++[.agg [.str o.nm,.list (q0M o.args)]]:=by simp[opxD,OpX.d]
theorem j0Q(l:List Val)(v:Val):q0M (l++[v])=q0M l++[v.d]:=by simp[q6i]
inductive RO where
 |ok (l:List OpX)
 |bad (e:Nat)
def j3c:RO→Res
 |.ok l=>.tup [.list (opxD l),.nil]
 |.bad e=>.tup [.list [],errD e]
theorem j2O{w:List UInt8}(h:j0v w=true):1≤w.length∧w.length≤8:=by
 unfold j0v at h;simp only[Zac,decide_eq_true_eq]at h;exact⟨by have:=Zcw.2 h.1;omega,h.2.1⟩
def z2a:q0m:=
 .seq (.reg [⟨some 2,.nils 31 2,none⟩,Qx 3 (.k (.d .nil))]) (.seq (.seq (.reg [Qc 11 0,Q 12 (.len true (.t 11)),Q 13 (.bin .gtr (.t 12) (Ki 20000))]) (.cond (.t 13) (.seq (.reg 
 [Q 14 (.mkI 76 (Ki 2)),⟨some 2,.nils 31 2,none⟩,Qa 3 14]) .ret) .skip)) (.seq (.reg [⟨some 4,.nils 31 2,none⟩]) (.seq (.reg [⟨some 5,.nils 35 5,none⟩]) (.seq (.seq (.reg 
 [Qc 15 0,⟨some 16,.call 35 [.t 15,.k (.d (.int .i64 0))],none⟩,Qa 6 16]) (.block 0 (.loop (.seq (.seq (.reg [Qc 17 6,Qc 18 0,Q 19 (.len true (.t 18)),Q 20 (.bin .lss (.t 
 17) (.t 19))]) (.cond (.t 20) .skip (.exit 0))) (.seq (.block 1 (.seq (.reg [Qc 24 0,Qc 25 6,⟨some 26,.call 36 [.t 24,.t 25],none⟩,Qa 7 26]) (.seq (.seq (.reg [Qc 27 7, 
 ⟨some 28,.call 37 [.t 27],none⟩]) (.cond (.t 28) (.seq (.seq (.reg [Qc 29 4,Q 30 (.len false (.t 29)),Q 31 (.bin .eql (.t 30) (Ki 2000))]) (.cond (.t 31) (.seq (.reg [Q 32 
 (.mkI 76 (Ki 2)),⟨some 2,.nils 31 2,none⟩,Qa 3 32]) .ret) .skip)) (.seq (.reg [Qc 33 4,Qc 34 7,Qc 35 5,Q 36 (.bld [(0,1),(1,1)] [.str [],.list []] [] [(0,.t 34),(1, 
 .t 35)]),⟨some 37,.bsl 31 2 [.t 36],none⟩,⟨some 38,.app 31 2 40 false (.t 33) (.t 37),none⟩,Qa 4 38]) (.seq (.reg [⟨some 5,.nils 35 5,none⟩]) (.seq (.reg [Qc 39 6,Qc 40 
 7,Q 41 (.len true (.t 40)),Q 42 (.bin .add (.t 39) (.t 41)),Qa 6 42]) (.exit 1))))) .skip)) (.seq (.reg [Qc 44 0,Qc 45 6,⟨some 46,.call 38 [.t 44,.t 45],none⟩,Qc 43 46, 
 Q 47 (.ext 0 (.t 43)),Q 48 (.ext 1 (.t 43)),Q 49 (.ext 2 (.t 43)),⟨some 8,.allo [.int .i64 0,.int .i64 0,.str [],.list [],.list []],none⟩,⟨none,.st 5 (.t 8) (.t 47), 
 none⟩,Qa 9 48,Qa 10 49]) (.seq (.seq (.reg [Qc 50 10,Q 51 (.eqN 0 true (.t 50))]) (.cond (.t 51) (.seq (.reg [Qc 52 10,⟨some 2,.nils 31 2,none⟩,Qa 3 52]) .ret) .skip)) 
 (.seq (.seq (.reg [Qc 53 5,Q 54 (.len false (.t 53)),Q 55 (.bin .eql (.t 54) (Ki 8))]) (.cond (.t 55) (.seq (.reg [Q 56 (.mkI 76 (Ki 10)),⟨some 2,.nils 31 2,none⟩,Qa 3 56]) 
 .ret) .skip)) (.seq (.reg [Qc 57 5,Q 58 (.ld true 5 (.t 8)),⟨some 59,.bsl 35 5 [.t 58],none⟩,⟨some 60,.app 35 5 80 false (.t 57) (.t 59),none⟩,Qa 5 60]) (.reg [Qc 61 9, 
 Qa 6 61])))))))) (.reg [Qc 21 0,Qc 22 6,⟨some 23,.call 35 [.t 21,.t 22],none⟩,Qa 6 23])))))) (.seq (.seq (.reg [Qc 62 5,Q 63 (.len false (.t 62)),Q 64 (.bin .gtr (.t 63) 
 (Ki 0))]) (.cond (.t 64) (.seq (.reg [Q 65 (.mkI 76 (Ki 5)),⟨some 2,.nils 31 2,none⟩,Qa 3 65]) .ret) .skip)) (.seq (.reg [Qc 66 4,Qa 2 66,Qx 3 (.k (.d .nil))]) .ret))))))
def z2h:List LRes:=[.tmp 2,.tmp 3]
theorem z3T:q0t Tryz.prog 24 67 z2a z2h:=⟨_,_,Tryz.func24,rfl,by kernel_rfl,by kernel_rfl,rfl⟩
def opqF(s:List UInt8):Nat→List OpX→List Val→Nat→RO
 |0,_,_,_=>.bad 0
 |m+1,l,args,at_=>
  if s.length≤at_ then(if args=[]then .ok l else .bad 5)
  else if j0v (q3a s at_)=true then(if l.length=2000 then .bad 2 else opqF s m (l++[⟨q3a s at_,args⟩]) [] (q4h s (at_+(q3a s at_).length)))
  else match z0J s at_ with
   |.bad e=>.bad e
   |.ok v k=>if args.length=8 then .bad 10 else opqF s m l (args++[v]) (q4h s k)
def opqP(s:List UInt8):RO:=if 20000<s.length then .bad 2 else opqF s (s.length+1) [] [] (q4h s 0)
theorem z5A(s:List UInt8)(hs:s.length≤1000000000)(hno:Flt s):q0y Tryz.prog 24 [.str s] (fun r=>r=j3c (opqP s)):=by
 generalize hR:opqP s=R;unfold opqP at hR;have bad:∀(e:Nat),R=.bad e→e≠0→Res.tup [.list [],.iface 76 (.int .i64 e)]=j3c R:=fun e he h0=>by rw[he,j3c,q4k h0]
 refine z3T.call rfl ?_;simp only[go_sem,↓reduceIte,z2a,z2h];refine⟨fun h1=>?_,fun h1=>?_⟩
 ·rw[if_pos (by omega)]at hR;exact bad 2 hR.symm (by decide)
 ·have hsk:=q7H s 0 hs;have hc0:q61 s 0=0:=by unfold q61;omega
  rw[hc0]at hsk;rw[if_neg (by omega)]at hR;refine q0i.of hsk ?_;simp only[go_sem,↓reduceIte];refine q0j (fun y:Nat×List OpX×List Val=>⟨[(0,.d (.str s)),(4,.own (.t 4) 31 2 (opxD y.2.1)),(5,.own (.t 5) 35 5 (q0M y.2.2)),(6,.d (.int .i64 y.1))],[],[]⟩)
   (fun y=>y.1≤s.length∧y.2.1.length≤2000∧y.2.2.length≤8∧(∀v∈y.2.2,v.sm 1048576=true)∧∃m,s.length-y.1<m∧opqF s m y.2.1 y.2.2 y.1=R) (fun y=>s.length-y.1) (q4h s 0,[],[]) ?_ ?_ ?_
  ·refine q0h ?_ trivial;simp only[go_sem,↓reduceIte,Sub,Int.natCast_add,Int.natCast_mul,opxD,q0M,Zbe]
  ·have:=q5B (s:=s) (k:=0) (by omega);exact⟨this.2,by simp,by simp,by simp,s.length+1,by simp;omega,hR⟩
  ·rintro⟨at_,l,args⟩ ⟨g1,g2,g3,g4,m,g5,g6⟩;simp only at g1 g2 g3 g4 g5 g6;obtain⟨m,rfl⟩:∃k,m=k+1:=⟨m-1,by omega⟩;rw[opqF]at g6;have hll:=z8j l;have hal:(q0M args).length=args.length:=by simp[q6i]
   have hw:=q7L s (at_:Int) hs;rw[q4O g1]at hw;have hwl:=q40 s at_;simp only[go_sem,↓reduceIte];refine⟨fun q1=>?_,fun q1=>?_⟩
   ·rw[if_neg (by omega)]at g6;refine q0i.of hw ?_;simp only[go_sem,↓reduceIte];refine q0i.of (z5z _) ?_;simp(disch:=omega)only[go_sem,↓reduceIte];refine⟨fun q2=>⟨fun q3=>?_,fun q3=>⟨⟨by omega,by omega⟩,?_⟩⟩,fun q2=>?_⟩
    ·rw[if_pos q2,if_pos (by omega)]at g6;exact bad 2 g6.symm (by decide)
    ·rw[if_pos q2,if_neg (by omega)]at g6;have hml:=j2O q2;have hsk2:=q7H s ((at_+(q3a s at_).length:Nat):Int) hs;rw[q4O (by omega),Int.natCast_add]at hsk2;refine q0i.of hsk2 ?_;simp only[go_sem,↓reduceIte];have hle:=q5B (s:=s) (k:=at_+(q3a s at_).length) (by omega);refine⟨(q4h s (at_+(q3a s at_).length),l++[⟨q3a s at_,args⟩],[]),?_,⟨hle.2,by simp;omega,by simp,by simp,m,by simp only;omega,g6⟩,by simp only;omega⟩;refine q0h ?_ trivial
     simp only[go_sem,↓reduceIte,Sub,Int.natCast_add,Int.natCast_mul,j2Q,q0M,Zbe]
    ·rw[if_neg (by simp[q2])]at g6;have hv:=z7O s (at_:Int) hs hno;cases hx:z0J s (at_:Int)with
     |bad e=>
      rw[hx]at g6 hv;have he:=j0R hx;rw[topP,z5Y,q4k (by omega)]at hv;refine q0i.of hv ?_;simp only[go_sem,↓reduceIte];exact bad e g6.symm (by omega)
     |ok v k=>
      rw[hx]at g6 hv;obtain⟨e1,e2,e3⟩:=j3z hx;rw[topP,Val.d_eq v]at hv;refine q0i.of hv ?_;simp(disch:=omega)only[go_sem,↓reduceIte];simp only at g6;refine⟨fun q3=>?_,fun q3=>⟨⟨by omega,by omega⟩,?_⟩⟩
      ·rw[if_pos (by omega)]at g6;exact bad 10 g6.symm (by decide)
      ·rw[if_neg (by omega)]at g6;have hsk2:=q7H s (k:Int) hs;rw[q4O e2]at hsk2;refine q0i.of hsk2 ?_;simp only[go_sem,↓reduceIte];have hle:=q5B e2;refine⟨(q4h s k,l,args++[v]),?_,⟨hle.2,g2,by simp;omega,fun x hx=>by
        rcases Zbb.1 hx with h|h
        ·exact g4 x h
        ·simp only[List.mem_singleton]at h;subst h;exact e3,m,by simp only;omega,g6⟩,by simp only;omega⟩
       refine q0h ?_ trivial;simp only[go_sem,↓reduceIte,Sub,Int.natCast_add,Int.natCast_mul,j0Q,Val.d_eq v]
   ·rw[if_pos (by omega)]at g6;refine⟨fun q2=>?_,fun q2=>?_⟩
    ·rw[if_neg (fun e=>by subst e;simp[q0M]at q2)]at g6;exact bad 5 g6.symm (by decide)
    ·have:args=[]:=Zbq.1 (by omega);rw[if_pos this]at g6;rw[←g6,j3c]
theorem j3q:∀p∈z9L,p.2.ok:=fun p hp=>by
 simp[z9L]at hp;subst hp;exact⟨fun s h=>by simp at h,by simp,fun p h=>by simp at h⟩
theorem Gh.frzM{σ:St}{a:Nat}{ks vs:List D}(ho:aget σ.L a=some (.mobj ks vs)):Gh σ ⟨amap (AV.frzM a ks vs) σ.ρ,[],σ.H⟩:=fun E n G ts w h=>⟨_,h.frzM ho⟩
theorem j3m{fl:Fl}(hf:∀p∈fl,p.2.ok):∀(l:List OpV) {q:PT},q.inv→(q.run fl l).inv
 |[],_,h=>h
 |o::l,q,h=>by
  rw[z5M];split
  ·exact j3m hf l (z4X h hf o)
  ·exact z4X h hf o
theorem j7i:q00.inv:=⟨⟨fun _=>Zar _,fun f h=>by cases h⟩,Zar _,fun s h=>by cases h⟩
theorem j3D:∀{v:Val},q5Z v=true→v.s.length≤200∧(v.kind=2→Lim v.n)∧z1T v.l=true
 |.mk k n s l f,h=>by
  simp only[q5Z]at h;have l0:l.length=0→z1T l=true:=fun e=>by rw[Zbt e];rfl
  have nm:q2a s=true→s.length≤200:=fun e=>by
   simp only[q2a,Zac,decide_eq_true_eq]at e;exact e.2.1
  simp only[Val.s,Val.kind,Val.n,Val.l];split at h
  ·simp only[Zac,decide_eq_true_eq]at h;exact⟨by rw[h.2.1];simp,by omega,l0 h.2.2.1⟩
  split at h
  ·simp only[Zac,decide_eq_true_eq]at h;exact⟨by rw[h.2.1];simp,by omega,l0 h.2.2.1⟩
  split at h
  ·simp only[Zac,decide_eq_true_eq]at h;exact⟨by rw[h.2.1];simp,fun _=>h.1,l0 h.2.2.1⟩
  split at h
  ·simp only[Zac,decide_eq_true_eq]at h;exact⟨h.2.1,by omega,l0 h.2.2.1⟩
  split at h
  ·simp only[Zac,decide_eq_true_eq]at h;exact⟨nm h.2.1,by omega,l0 h.2.2.1⟩
  split at h
  ·simp only[Zac,decide_eq_true_eq]at h;exact⟨by rw[h.2.1];simp,by omega,h.2.2.1⟩
  split at h
  ·simp only[Zac,decide_eq_true_eq]at h;exact⟨by rw[h.2.1];simp,by omega,l0 h.2.2.1⟩
  split at h
  ·simp only[Zac,decide_eq_true_eq]at h;exact⟨by rw[h.2.1];simp,by omega,l0 h.2.2.1⟩
  ·cases h
theorem z7p:∀{l:List Val},z1T l=true→∀w∈l,q5Z w=true
 |v::r,h,w,hw=>by
  simp only[z1T,Zac]at h;rcases Zau.1 hw with rfl|hw
  ·exact h.1
  ·exact z7p h.2 w hw
theorem j23:∀l:List Val,l.length≤(ptL l).1
 |[]=>Zar _
 |v::r=>by
  have h1:=q8I v;have h2:=j23 r;simp only[Zad,ptL];omega
theorem j8p{l:List OpV}(h1:z4O l)(h2:j5J l):∀o∈l,o.ok:=fun o ho=>by
 obtain⟨_,k2,_⟩:=h1.2 o ho;refine⟨by omega,fun v hv=>?_⟩;have hf:=h2 o ho v hv;unfold q5K at hf;split at hf
 ·cases hf
 ·rename_i hp;split at hf
  ·rename_i hw;obtain⟨w1,w2,w3⟩:=j3D hw;have:=j23 v.l;rw[j57]at hp;refine⟨by omega,w2,by omega,fun w hwl=>?_⟩;obtain⟨u1,u2,_⟩:=j3D (z7p w3 w hwl);exact⟨by omega,u2⟩
  ·cases hf
theorem j0d{p:List UInt8×Fnt}{l:Fl}(h:p∈q4x l):∃s,(s,p.2)∈l:=by
 have key:∀(l a:Fl),p∈l.foldl (fun a p=>putF a p.1 p.2) a→p∈a∨∃s,(s,p.2)∈l:=by
  intro l;induction l with
  |nil=>intro a h;exact .inl h
  |cons q r ih=>
   intro a h;rcases ih _ h with h|⟨s,h⟩
   ·rcases j46 h with h|h
    ·exact .inl h
    ·right;exact⟨q.1,by rw[h];simp⟩
   ·right;exact⟨s,by simp[h]⟩
 rcases key l [] h with h|h
 ·cases h
 ·exact h
def PT.res(q:PT):List Gph:=if q.bad=0 then q.out else[]
theorem j4U(fl:Fl)(l:List OpV)(h:l.length≤2000):j0x fl l=.tup [.list (q3d (q00.run fl l).res),errD (q00.run fl l).bad]:=by
 unfold j0x z23 PT.res;rw[if_neg (by omega)];split
 ·rename_i e;rw[e];rfl
 ·rfl
def rfnt:Option Fnt→Fnt
 |none=>fnt0
 |some f=>f
def PSt.r(s:PSt):D:=.agg [I s.ctm.1,I s.ctm.2.1,I s.ctm.2.2.1,I s.ctm.2.2.2.1,I s.ctm.2.2.2.2.1,I s.ctm.2.2.2.2.2,.bool (rfnt s.font).wide,.map (q2A (rfnt s.font).ws) (q7Z (rfnt s.font).ws),.int .i64 (rfnt s.font).miss,.map (q2A (rfnt s.font).ns) (q7U (rfnt s.font).ns),.list (q1s (rfnt s.font).cs),.bool s.font.isSome,I s.size,I s.char,I s.word,I s.scale,I s.lead,I s.rise]
def rsO(l:List PSt):Option Nat→Option AObj
 |none=>none
 |some c=>some (.cells (rowC 18 (l.map PSt.r) c))
def j0H:List Gph→AV
 |[]=>.ns
 |g::l=>.own (.c (.x 0) 33) 55 10 (q3d (g::l))
def rob(fd:D)(q:PT)(c:Option Nat):AObj:=
 .cells [.d fd,.d (I q.s.ctm.1),.d (I q.s.ctm.2.1),.d (I q.s.ctm.2.2.1),.d (I q.s.ctm.2.2.2.1),.d (I q.s.ctm.2.2.2.2.1),.d (I q.s.ctm.2.2.2.2.2),.d (.bool (rfnt q.s.font).wide),.d (.map (q2A (rfnt q.s.font).ws) (q7Z (rfnt q.s.font).ws)),.d (.int .i64 (rfnt q.s.font).miss),.d (.map (q2A (rfnt q.s.font).ns) (q7U (rfnt q.s.font).ns)),.d (.list (q1s (rfnt q.s.font).cs)),.d (.bool q.s.font.isSome),.d (I q.s.size),.d (I q.s.char),.d (I q.s.word),.d (I q.s.scale),.d (I q.s.lead),.d (I q.s.rise),
  svV q.saved c,.d (I q.tm.1),.d (I q.tm.2.1),.d (I q.tm.2.2.1),.d (I q.tm.2.2.2.1),.d (I q.tm.2.2.2.2.1),.d (I q.tm.2.2.2.2.2),.d (I q.lm.1),.d (I q.lm.2.1),.d (I q.lm.2.2.1),.d (I q.lm.2.2.2.1),.d (I q.lm.2.2.2.2.1),.d (I q.lm.2.2.2.2.2),
  .d (.bool q.inn),j0H q.out,.d (I q.bad)]
theorem q0k(fd:D)(q:PT)(c:Option Nat):PO (rob fd q c):=by
 obtain⟨s,saved,tm,lm,inn,out,bad⟩:=q;cases c<;>cases out<;>exact⟨rfl,rfl,rfl⟩
theorem q4D(l:List PSt)(c:Option Nat):rowM (rsO l c)=true:=by
 cases c with
 |none=>rfl
 |some c=>exact q4Y 18 _ c
def rX(fd:D)(q:PT)(c:Option Nat)(n:Nat):AObj:=rob fd (q.wb n) c
theorem q3h(fd:D)(q:PT)(c:Option Nat)(n:Nat):PO (rX fd q c n):=q0k _ _ _
def q0H:q0m:=
 .seq (.reg [Qc 4 0,Q 5 (.nck (.t 4)),Q 6 (.fa 34 (.t 5)),Q 7 (.ld false 1 (.t 6)),Q 8 (.bin .eql (.t 7) (Ki 0))]) (.cond (.t 8) (.reg [Qc 9 0,Qc 10 1,Q 11 (.nck (.t 9)),Q 12 
 (.fa 34 (.t 11)),⟨none,.st 1 (.t 12) (.t 10),none⟩]) .skip)
def q0I:List LRes:=[]
theorem q2G:q0t Tryz.prog 50 13 q0H q0I:=⟨_,_,Tryz.func50,rfl,by kernel_rfl,by kernel_rfl,rfl⟩
theorem q5s(fd:D)(q:PT)(c:Option Nat)(e:Nat){m:Option AObj}(hm:rowM m=true):MVE Tryz.prog 50 [.ptr (.x 0) 0,.d (I e)] [rob fd q c] m (.tuple []) [rob fd (q.er e) c] m:=by
 refine q2G.mv (by kernel_rfl) rfl rfl ?_;generalize hM:mob m=M;have ha:aget M 1000=m:=hM▸q0o m;have hn:=hm;unfold rowM at hn;have hMM:∀o:AObj,Sub ((0,o)::M) ((0,o)::M):=fun o=>hM▸subM o m
 by_cases h:q.bad=0
 ·have e1:q.er e={ q with bad:=e }:=by simp[PT.er,orE,h]
  rw[e1];simp only[rob,h];simp only[go_sem,↓reduceIte,q0H,q0I,ha,hn,I]
 ·have e1:q.er e=q:=by simp[PT.er,orE,h]
  rw[e1];have hz:((q.bad:Int)=0)=False:=eq_false (by omega);simp only[rob];simp only[go_sem,↓reduceIte,q0H,q0I,ha,hn,I,hz]
def q1i:q0m:=
 .seq (.reg [Qx 6 (Ki 0)]) (.seq (.reg [Qc 10 1,Qc 11 2,⟨some 12,.call 77 [.t 10,.t 11],none⟩,Qc 9 12,Q 13 (.ext 0 (.t 9)),Q 14 (.ext 1 (.t 9)),Qa 7 13,Qa 8 14]) (.seq 
 (.reg [Qc 15 0,Qc 16 8,⟨some 17,.prim .call [.k (.fn (.func 50) [] []),.t 15,.t 16] [],none⟩]) (.seq (.reg [Qc 18 7,Qa 6 18]) .ret)))
def q1k:List LRes:=[.tmp 6]
theorem q2U:q0t Tryz.prog 57 19 q1i q1k:=⟨_,_,Tryz.func57,rfl,by kernel_rfl,by kernel_rfl,rfl⟩
theorem rmul(fd:D)(q:PT)(c:Option Nat)(a b:Int){m:Option AObj}(hm:rowM m=true):MVE Tryz.prog 57 [.ptr (.x 0) 0,.d (I a),.d (I b)] [rob fd q c] m (.d (I ((mulF a b).getD 0))) [rob fd (q.er (errO (mulF a b))) c] m:=by
 refine q2U.mv (by kernel_rfl) rfl rfl ?_;generalize hM:mob m=M;have ha:aget M 1000=m:=hM▸q0o m;have hn:=hm;unfold rowM at hn;have hMM:∀o:AObj,Sub ((0,o)::M) ((0,o)::M):=fun o=>hM▸subM o m
 simp only[go_sem,↓reduceIte,q1i,q1k,I];refine q0i.of (j3e a b) ?_;have e:intN (mulF a b)=.tup [I ((mulF a b).getD 0),I (errO (mulF a b))]:=by cases mulF a b<;>rfl
 rw[e];simp only[go_sem,↓reduceIte,ha,hn,I];refine q0e.poM rfl (q5s _ _ _ _ hm) (q0k _ _ _) (q0k _ _ _) hm hM rfl rfl rfl ⟨⟨rfl,rfl⟩,rfl⟩ ?_;simp only[go_sem,↓reduceIte,ha,hn]
def q1h:q0m:=
 .seq (.reg [Qx 6 (Ki 0)]) (.seq (.reg [Qc 10 1,Qc 11 2,⟨some 12,.call 102 [.t 10,.t 11],none⟩,Qc 9 12,Q 13 (.ext 0 (.t 9)),Q 14 (.ext 1 (.t 9)),Qa 7 13,Qa 8 14]) (.seq 
 (.reg [Qc 15 0,Qc 16 8,⟨some 17,.prim .call [.k (.fn (.func 50) [] []),.t 15,.t 16] [],none⟩]) (.seq (.reg [Qc 18 7,Qa 6 18]) .ret)))
def q1j:List LRes:=[.tmp 6]
theorem q2T:q0t Tryz.prog 76 19 q1h q1j:=⟨_,_,Tryz.func76,rfl,by kernel_rfl,by kernel_rfl,rfl⟩
theorem radd(fd:D)(q:PT)(c:Option Nat)(a b:Int)(hi:i64 a){m:Option AObj}(hm:rowM m=true):MVE Tryz.prog 76 [.ptr (.x 0) 0,.d (I a),.d (I b)] [rob fd q c] m (.d (I ((addF a b).getD 0))) [rob fd (q.er (errO (addF a b))) c] m:=by
 refine q2T.mv (by kernel_rfl) rfl rfl ?_;generalize hM:mob m=M;have ha:aget M 1000=m:=hM▸q0o m;have hn:=hm;unfold rowM at hn;have hMM:∀o:AObj,Sub ((0,o)::M) ((0,o)::M):=fun o=>hM▸subM o m
 simp only[go_sem,↓reduceIte,q1h,q1j,I];refine q0i.of (j25 a b hi) ?_;have e:intN (addF a b)=.tup [I ((addF a b).getD 0),I (errO (addF a b))]:=by cases addF a b<;>rfl
 rw[e];simp only[go_sem,↓reduceIte,ha,hn,I];refine q0e.poM rfl (q5s _ _ _ _ hm) (q0k _ _ _) (q0k _ _ _) hm hM rfl rfl rfl ⟨⟨rfl,rfl⟩,rfl⟩ ?_;simp only[go_sem,↓reduceIte,ha,hn]
def M6.ok(a:M6):Prop:=i64 a.2.2.2.2.1∧i64 a.2.2.2.2.2
def q1a:q0m:=
 .seq (.reg [⟨some 4,.box (.t 1),none⟩,⟨some 5,.box (.t 2),none⟩,⟨some 6,.allo [.int .i64 0,.int .i64 0,.int .i64 0,.int .i64 0,.int .i64 0,.int .i64 0],none⟩]) (.seq 
 (.reg [Q 10 (.ld true 6 (.t 4)),Q 11 (.ld true 6 (.t 5)),⟨some 12,.call 72 [.t 10,.t 11],none⟩,Qc 9 12,Q 13 (.ext 0 (.t 9)),Q 14 (.ext 1 (.t 9)),⟨some 7,.allo [.int 
 .i64 0,.int .i64 0,.int .i64 0,.int .i64 0,.int .i64 0,.int .i64 0],none⟩,⟨none,.st 6 (.t 7) (.t 13),none⟩,Qa 8 14]) (.seq (.reg [Qc 15 0,Qc 16 8,⟨some 17,.prim 
 .call [.k (.fn (.func 50) [] []),.t 15,.t 16] [],none⟩]) (.seq (.reg [Q 18 (.ld true 6 (.t 7)),⟨none,.st 6 (.t 6) (.t 18),none⟩]) .ret)))
def q1d:List LRes:=[.cell 6 true 6]
theorem q2F:q0t Tryz.prog 51 19 q1a q1d:=⟨_,_,Tryz.func51,rfl,by kernel_rfl,by kernel_rfl,rfl⟩
theorem j26(fd:D)(q:PT)(c:Option Nat)(a b:M6)(hb:b.ok){m:Option AObj}(hm:rowM m=true):MVE Tryz.prog 51 [.ptr (.x 0) 0,.d (m6D a),.d (m6D b)] [rob fd q c] m (.d (m6D ((catF a b).getD m60))) [rob fd (q.er (errO (catF a b))) c] m:=by
 refine q2F.mv (by kernel_rfl) rfl rfl ?_;generalize hM:mob m=M;have ha:aget M 1000=m:=hM▸q0o m;have hn:=hm;unfold rowM at hn;have hMM:∀o:AObj,Sub ((0,o)::M) ((0,o)::M):=fun o=>hM▸subM o m
 simp only[go_sem,↓reduceIte,q1a,q1d,m6D,mat,I];refine q0i.of (z69 (a:=a.1) (b:=a.2.1) (c:=a.2.2.1) (d:=a.2.2.2.1) (e:=a.2.2.2.2.1) (f:=a.2.2.2.2.2) (p:=b.1) (q:=b.2.1) (r:=b.2.2.1) (s:=b.2.2.2.1) (t:=b.2.2.2.2.1) (u:=b.2.2.2.2.2) hb.1 hb.2) ?_;have e:matN (catF a b)=.tup [m6D ((catF a b).getD m60),I (errO (catF a b))]:=by cases catF a b<;>rfl
 rw[show q8r a.1 a.2.1 a.2.2.1 a.2.2.2.1 a.2.2.2.2.1 a.2.2.2.2.2 b.1 b.2.1 b.2.2.1 b.2.2.2.1 b.2.2.2.2.1 b.2.2.2.2.2=catF a b from rfl,e];simp only[go_sem,↓reduceIte,ha,hn,m6D,mat,I];refine q0e.poM rfl (q5s _ _ _ _ hm) (q0k _ _ _) (q0k _ _ _) hm hM rfl rfl rfl ⟨⟨rfl,rfl⟩,rfl⟩ ?_;simp only[go_sem,↓reduceIte,ha,hn]
def q1o:q0m:=
 .seq (.reg [⟨some 5,.box (.t 1),none⟩,⟨some 8,.allo [.int .i64 0,.int .i64 0],none⟩]) (.seq (.reg [Q 12 (.ld true 6 (.t 5)),Qc 13 2,Qc 14 3,Q 15 (.bld [(0,1),(1,1)] 
 [.int .i64 0,.int .i64 0] [] [(0,.t 13),(1,.t 14)]),⟨some 16,.call 101 [.t 12,.t 15],none⟩,Qc 11 16,Q 17 (.ext 0 (.t 11)),Q 18 (.ext 1 (.t 11)),⟨some 9,.allo [.int 
 .i64 0,.int .i64 0],none⟩,⟨none,.st 2 (.t 9) (.t 17),none⟩,Qa 10 18]) (.seq (.reg [Qc 19 0,Qc 20 10,⟨some 21,.prim .call [.k (.fn (.func 50) [] []),.t 19,.t 20] [], 
 none⟩]) (.seq (.reg [Q 22 (.ld true 2 (.t 9)),⟨none,.st 2 (.t 8) (.t 22),none⟩]) .ret)))
def q1p:List LRes:=[.cell 8 true 2]
theorem q2X:q0t Tryz.prog 74 23 q1o q1p:=⟨_,_,Tryz.func74,rfl,by kernel_rfl,by kernel_rfl,rfl⟩
theorem rat(fd:D)(q:PT)(c:Option Nat)(a:M6)(x y:Int){m:Option AObj}(hm:rowM m=true):MVE Tryz.prog 74 [.ptr (.x 0) 0,.d (m6D a),.d (I x),.d (I y)] [rob fd q c] m (.d (pt ((appF a x y).getD (0,0)).1 ((appF a x y).getD (0,0)).2)) [rob fd (q.er (errO (appF a x y))) c] m:=by
 refine q2X.mv (by kernel_rfl) rfl rfl ?_;generalize hM:mob m=M;have ha:aget M 1000=m:=hM▸q0o m;have hn:=hm;unfold rowM at hn;have hMM:∀o:AObj,Sub ((0,o)::M) ((0,o)::M):=fun o=>hM▸subM o m
 simp only[go_sem,↓reduceIte,q1o,q1p,m6D,mat,I];refine q0i.of (z8t (a:=a.1) (b:=a.2.1) (c:=a.2.2.1) (d:=a.2.2.2.1) (e:=a.2.2.2.2.1) (f:=a.2.2.2.2.2) (x:=x) (y:=y)) ?_;have e:ptN (appF a x y)=.tup [pt ((appF a x y).getD (0,0)).1 ((appF a x y).getD (0,0)).2,I (errO (appF a x y))]:=by cases appF a x y<;>rfl
 rw[show z2n a.1 a.2.1 a.2.2.1 a.2.2.2.1 a.2.2.2.2.1 a.2.2.2.2.2 x y=appF a x y from rfl,e];simp only[go_sem,↓reduceIte,ha,hn,pt,I];refine q0e.poM rfl (q5s _ _ _ _ hm) (q0k _ _ _) (q0k _ _ _) hm hM rfl rfl rfl ⟨⟨rfl,rfl⟩,rfl⟩ ?_;simp only[go_sem,↓reduceIte,ha,hn]
def q2l:q0m:=
 .seq (.reg [⟨some 4,.allo [.int .i64 0,.int .i64 0,.int .i64 0,.int .i64 0,.int .i64 0,.int .i64 0],none⟩]) (.seq (.reg [Qc 5 0,Qc 6 1,Q 7 (.bld [(0,1),(1,1),(2,1), 
 (3,1),(4,1),(5,1)] [.int .i64 0,.int .i64 0,.int .i64 0,.int .i64 0,.int .i64 0,.int .i64 0] [] [(0,.k (.d (.int .i64 1000))),(3,.k (.d (.int .i64 1000))),(4,.t 
 5),(5,.t 6)]),⟨none,.st 6 (.t 4) (.t 7),none⟩]) .ret)
def q2r:List LRes:=[.cell 4 true 6]
theorem q32:q0t Tryz.prog 56 8 q2l q2r:=⟨_,_,Tryz.func56,rfl,by kernel_rfl,by kernel_rfl,rfl⟩
theorem q8Q(x y:Int):q0y Tryz.prog 56 [I x,I y] (fun r=>r=.one (m6D (1000,0,0,1000,x,y))):=by
 refine q32.call rfl ?_;simp only[go_sem,↓reduceIte,q2l,q2r,I,m6D,mat]
def q2w:q0m:=
 .seq (.reg [⟨some 0,.allo [.int .i64 0,.int .i64 0,.int .i64 0,.int .i64 0,.int .i64 0,.int .i64 0],none⟩]) (.seq (.reg [Q 1 (.bld [(0,1),(1,1),(2,1),(3,1),(4,1), 
 (5,1)] [.int .i64 0,.int .i64 0,.int .i64 0,.int .i64 0,.int .i64 0,.int .i64 0] [] [(0,.k (.d (.int .i64 1000))),(3,.k (.d (.int .i64 1000)))]),⟨none,.st 6 (.t 0) (.t 
 1),none⟩]) .ret)
def q2z:List LRes:=[.cell 0 true 6]
theorem q4g:q0t Tryz.prog 32 2 q2w q2z:=⟨_,_,Tryz.func32,rfl,by kernel_rfl,by kernel_rfl,rfl⟩
theorem q2Z:q0y Tryz.prog 32 [] (fun r=>r=.one (m6D q20)):=by
 refine q4g.call rfl ?_;simp only[go_sem,↓reduceIte,q2w,q2z,I,m6D,mat,q20]
def q2L:q0m:=
 .seq (.reg [⟨some 2,.allo [.int .i64 0,.int .i64 0,.int .i64 0,.int .i64 0,.int .i64 0,.int .i64 0],none⟩]) (.seq (.dreg [Qc 3 0,Q 4 (.ia 1 (.t 3) (Ki 0)),Q 5 (.ld false 1 
 (.t 4)),Qc 6 0,Q 7 (.ia 1 (.t 6) (Ki 1)),Q 8 (.ld false 1 (.t 7)),Qc 9 0,Q 10 (.ia 1 (.t 9) (Ki 2)),Q 11 (.ld false 1 (.t 10)),Qc 12 0,Q 13 (.ia 1 (.t 12) (Ki 3)),Q 14 
 (.ld false 1 (.t 13)),Qc 15 0,Q 16 (.ia 1 (.t 15) (Ki 4)),Q 17 (.ld false 1 (.t 16)),Qc 18 0,Q 19 (.ia 1 (.t 18) (Ki 5)),Q 20 (.ld false 1 (.t 19)),Q 21 (.bld [(0,1),(1, 
 1),(2,1),(3,1),(4,1),(5,1)] [.int .i64 0,.int .i64 0,.int .i64 0,.int .i64 0,.int .i64 0,.int .i64 0] [] [(0,.t 5),(1,.t 8),(2,.t 11),(3,.t 14),(4,.t 17), 
 (5,.t 20)]),⟨none,.st 6 (.t 2) (.t 21),none⟩]) .ret)
def q2O:List LRes:=[.cell 2 true 6]
theorem q4n:q0t Tryz.prog 52 22 q2L q2O:=⟨_,_,Tryz.func52,rfl,by kernel_rfl,by kernel_rfl,rfl⟩
theorem z9M(a b c d e f:Int):q0y Tryz.prog 52 [.list [I a,I b,I c,I d,I e,I f]] (fun r=>r=.one (m6D (a,b,c,d,e,f))):=by
 refine q4n.call rfl ?_;simp only[go_sem,↓reduceIte,q2L,q2O,I,m6D,mat]
def q1b:q0m:=
 .seq (.dreg [Qc 6 0,Qc 7 0,Qc 8 1,Qc 9 2,Qc 11 0,⟨some 10,.call 56 [.t 8,.t 9],none⟩,Q 12 (.nck (.t 11)),Q 13 (.fa 26 (.t 12)),Q 14 (.ld true 6 (.t 13)),⟨some 15,.prim 
 .call [.k (.fn (.func 51) [] []),.t 7,.t 10,.t 14] [(6,.cp (.t 0))],none⟩,Q 16 (.nck (.t 6)),Q 17 (.fa 26 (.t 16)),⟨none,.st 6 (.t 17) (.t 15),none⟩]) (.reg [Qc 18 0, 
 Qc 19 0,Q 20 (.nck (.t 19)),Q 21 (.fa 26 (.t 20)),Q 22 (.ld true 6 (.t 21)),Q 23 (.nck (.t 18)),Q 24 (.fa 20 (.t 23)),⟨none,.st 6 (.t 24) (.t 22),none⟩])
def q1e:List LRes:=[]
theorem q2H:q0t Tryz.prog 54 25 q1b q1e:=⟨_,_,Tryz.func54,rfl,by kernel_rfl,by kernel_rfl,rfl⟩
theorem j5e(fd:D)(q:PT)(c:Option Nat)(x y:Int)(hl:q.lm.ok){m:Option AObj}(hm:rowM m=true):MVE Tryz.prog 54 [.ptr (.x 0) 0,.d (I x),.d (I y)] [rob fd q c] m (.tuple []) [rob fd (q.mv x y) c] m:=by
 refine q2H.mv (by kernel_rfl) rfl rfl ?_;generalize hM:mob m=M;have ha:aget M 1000=m:=hM▸q0o m;have hn:=hm;unfold rowM at hn;have hMM:∀o:AObj,Sub ((0,o)::M) ((0,o)::M):=fun o=>hM▸subM o m
 simp only[go_sem,↓reduceIte,q1b,q1e,I,rob];refine q6a.of (q8Q x y) ?_;simp only[go_sem,↓reduceIte,m6D,mat,I];refine q0e.poM rfl (j26 fd q c (1000,0,0,1000,x,y) q.lm hl hm) (q0k _ _ _) (q0k _ _ _) hm hM rfl rfl rfl ⟨⟨rfl,rfl⟩,rfl⟩ ?_;simp only[go_sem,↓reduceIte,rob,PT.er,m6D,mat,I,ha,hn];rfl
def rowI(T:List Int):List AV:=(nmD T).map .d
theorem j5g(T:List Int):(rowI T).length=T.length:=by simp[rowI,nmD]
theorem j5h(T:List Int)(i:Nat)(v:Int):(rowI T).set i (.d (.int .i64 v))=rowI (T.set i v):=by simp[rowI,nmD,List.map_set]
theorem z7b(T:List Int)(r:Ref):(rowI T).map (AV.drop r)=rowI T:=by
 rw[rowI,List.map_map];exact Zcj fun x _=>rfl
theorem j3h(T:List Int):rowI T=rowC 1 (nmD T) T.length:=by
 have:∀T:List Int,(nmD T).flatMap D.cells=nmD T:=by
  intro T;induction T with
  |nil=>rfl
  |cons a l ih=>exact congrArg _ ih
 simp[rowI,rowC,this,z2V]
theorem j60(T:List Int):∀y∈nmD T,y.cells.length=1:=fun y hy=>by
 obtain⟨n,_,rfl⟩:=Zak.1 hy;rfl
theorem j8X{σ:St}{T:List Int}{k t:Nat}{o:AObj}{m:Option AObj}{M:List (Nat×AObj)}(hl:aget σ.L 40=some (.cells (rowI T)))(hk:T.length=k)(ht:aget σ.ρ t=some (.rs (.l 40) k k))(hH:σ.H=(0,o)::M)(ho:o.q1y=true)(hm:rowM m=true)(hM:mob m=M):Gh σ ⟨[(t,.d (.list (nmD T)))],[],σ.H⟩:=by
 refine Gh.trans (Gh.frzL (a:=40) (sz:=1) (fs:=nmD T) (c:=T.length) ?_ (j60 T) (by rw[z2V];exact Zal _)) (Gh.wk ⟨fun s x hx=>?_,fun r ob h=>?_⟩)
 ·show aget σ.L 40=_;rw[hl,j3h]
 ·simp only[aget]at hx;split at hx
  ·rename_i e;subst e;cases hx;rw[St.j9r ht,AV.frzL,if_pos rfl,if_pos ⟨by rw[z2V,hk],hk.symm⟩]
  ·cases hx
 ·cases r with
  |l q=>cases h
  |x q=>
   show aget (amap (z0b 40 (nmD T) T.length) σ.H) q=some ob
   rw[hH,z2l (z0r ho hm hM),←hH];exact h
theorem j2H{l:List Val}(h:∀v∈l,v.kind=2):q9H l=l.map Val.n:=by
 induction l with
 |nil=>rfl
 |cons v l ih=>
  have h1:=h v (by simp);simp only[q9H,Zct,h1,↓reduceIte,Zai];exact congrArg _ (ih fun w hw=>h w (by simp[hw]))
theorem j4L{l:List Val}{v:Val}(h:v∈l)(hk:v.kind≠2):(q9H l).length<l.length:=by
 induction l with
 |nil=>cases h
 |cons a l ih=>
  have hle:=z9q l;unfold q9H at ih hle ⊢;rcases Zau.1 h with rfl|h
  ·simp only[Zct,hk,↓reduceIte,Zad];omega
  ·have:=ih h;simp only[Zct,Zad];split
   ·omega
   ·simp only[Zad];omega
def q02:q0m:=
 .seq (.reg [⟨some 4,.box (.t 1),none⟩,⟨some 6,.nils 3 1,none⟩]) (.seq (.reg [Qc 9 2,⟨some 10,.prim (.mkSlice 96) [.t 9,.t 9] [],none⟩,Qa 7 10]) (.seq (.seq (.reg [Q 11 
 (.fa 1 (.t 4)),Q 12 (.ld false 1 (.t 11)),Q 13 (.len false (.t 12)),Qc 14 2,Q 15 (.bin .neq (.t 13) (.t 14))]) (.cond (.t 15) (.seq (.reg [Qc 16 0,⟨some 17,.prim .call [.k 
 (.fn (.func 50) [] []),.t 16,.k (.d (.int .i64 8))] [],none⟩]) (.seq (.alt [([],Qc 18 7)] [Qa 6 18]) .ret)) .skip)) (.seq (.seq (.reg [Qx 8 (Ki 0)]) (.block 0 (.loop (.seq 
 (.seq (.reg [Qc 19 8,Qc 20 2,Q 21 (.bin .lss (.t 19) (.t 20))]) (.cond (.t 21) .skip (.exit 0))) (.seq (.block 1 (.seq (.seq (.reg [Q 24 (.fa 1 (.t 4)),Q 25 (.ld false 1 (.t 
 24)),Qc 26 8,Q 27 (.ia 5 (.t 25) (.t 26)),Q 28 (.fa 0 (.t 27)),Q 29 (.ld false 1 (.t 28)),Q 30 (.bin .neq (.t 29) (Ki 2))]) (.cond (.t 30) (.seq (.reg [Qc 31 0,⟨some 32, 
 .prim .call [.k (.fn (.func 50) [] []),.t 31,.k (.d (.int .i64 8))] [],none⟩]) (.seq (.reg [Qc 33 2,⟨some 34,.prim (.mkSlice 96) [.t 33,.t 33] [],none⟩,Qa 6 34]) .ret)) 
 .skip)) (.reg [Qc 35 7,Qc 36 8,Q 37 (.fa 1 (.t 4)),Q 38 (.ld false 1 (.t 37)),Qc 39 8,Q 40 (.ia 5 (.t 38) (.t 39)),Q 41 (.fa 1 (.t 40)),Q 42 (.ld false 1 (.t 41)),Q 43 
 (.ia 1 (.t 35) (.t 36)),⟨none,.st 1 (.t 43) (.t 42),none⟩]))) (.reg [Qc 22 8,Q 23 (.bin .add (.t 22) (Ki 1)),Qa 8 23])))))) (.seq (.alt [([],Qc 44 7)] [Qa 6 44]) .ret))))
def q03:List LRes:=[.tmp 6]
theorem q2f:q0t Tryz.prog 53 45 q02 q03:=⟨_,_,Tryz.func53,rfl,by kernel_rfl,by kernel_rfl,rfl⟩
theorem q5A(fd:D)(q:PT)(c:Option Nat)(o:OpV)(k:Nat)(hl:o.args.length≤1000)(hk:k≤10){m:Option AObj}(hm:rowM m=true):
  MVE Tryz.prog 53 [.ptr (.x 0) 0,.d o.d,.d (I k)] [rob fd q c] m (.d (.list (nmD (q1v o.args k)))) [rob fd (q.er (kErr (q2Y o.args k))) c] m:=by
 refine q2f.mv (by kernel_rfl) rfl rfl ?_;generalize hM:mob m=M;have ha:aget M 1000=m:=hM▸q0o m;have hn:=hm;unfold rowM at hn;have hMM:∀o:AObj,Sub ((0,o)::M) ((0,o)::M):=fun o=>hM▸subM o m
 simp only[go_sem,↓reduceIte,q02,q03,I,OpV.d];have hvl:=q0n o.args;refine q0e.j8s (r:=40) (n:=k) (z:=.int .i64 0) (zv:=.int .i64 0) rfl rfl (show q3V Tryz.prog 96=some (3,1,8) by kernel_rfl) (by kernel_rfl) rfl rfl (fun f w=>.int _ _) (by omega) (by omega) ?_;rw[show List.replicate k (AV.d (.int .i64 0))=rowI (List.replicate k 0) by simp[rowI,nmD]];simp only[go_sem,↓reduceIte,hvl];refine⟨fun h1=>?_,fun h1=>?_⟩
 ·have e:q2Y o.args k=none:=if_neg (by omega);simp only[q1v,e,kErr,Zbm,Zcl,↓reduceIte];refine q0e.poM rfl (q5s fd q c 8 hm) (q0k _ _ _) (q0k _ _ _) hm hM rfl rfl rfl ⟨⟨rfl,rfl⟩,rfl⟩ ?_;simp only[go_sem,↓reduceIte,z7b];refine q3t.ghost (q3t.step rfl (fun _ _ _ h=>by cases h) rfl ?_);refine⟨_,j8X (t:=18) rfl (List.length_replicate ..) rfl rfl (q0k _ _ _).no hm hM,?_⟩;simp only[go_sem,↓reduceIte,ha,hn]
 ·have hkl:o.args.length=k:=by omega
  refine q0j (fun y:Nat×List Int=>⟨[(0,.ptr (.x 0) 0),(2,.d (.int .i64 k)),(4,.ptr (.l 4) 0),(6,.own (.t 6) 3 1 []),(7,.rs (.l 40) k k),(8,.d (.int .i64 y.1))],[(4,.cells [.d (.str o.nm),.d (.list (q0M o.args))]),(40,.cells (rowI y.2))],(0,rob fd q c)::M⟩)
   (fun y=>y.1≤k∧y.2.length=k∧(∀v∈o.args.take y.1,v.kind=2)∧y.2.take y.1=(o.args.take y.1).map Val.n) (fun y=>k-y.1) (0,List.replicate k 0) ?_ ⟨Zar _,List.length_replicate ..,fun v h=>by simp at h,by simp⟩ ?_
  ·refine Weak.mk ?_ ?_ (hMM _)<;>simp only[go_sem,↓reduceIte,Sub,Int.natCast_add,Int.natCast_mul]
  ·rintro⟨i,T⟩ ⟨hi,hT,hall,htk⟩;simp only at hi hT hall htk;simp(disch:=omega)only[go_sem,↓reduceIte];refine⟨fun hlt=>?_,fun hge=>?_⟩
   ·obtain⟨v,hx⟩:=get_some (l:=o.args) (i:=i) (by omega);have hg:getI (q0M o.args) (i:Int)=some v.d:=by rw[q0d,q4Z,hx];rfl
    simp(disch:=omega)only[go_sem,↓reduceIte,hg,Val.d_eq];refine⟨fun h2=>?_,fun h2=>?_⟩
    ·have e:q2Y o.args k=none:=if_neg (by have:=j4L (Zaa hx) h2;omega);simp only[q1v,e,kErr,Zbm,Zcl,↓reduceIte];refine q0e.poM rfl (q5s fd q c 8 hm) (q0k _ _ _) (q0k _ _ _) hm hM rfl rfl rfl ⟨⟨rfl,rfl⟩,rfl⟩ ?_;simp only[go_sem,↓reduceIte,z7b];refine q0e.mkData (n:=k) (z:=.int .i64 0) (zv:=.int .i64 0) 41 rfl rfl (show q3V Tryz.prog 96=some (3,1,8) by kernel_rfl) (by kernel_rfl) rfl rfl (fun f w=>.int _ _) (by omega) (by omega) rfl (z0r (q0k _ _ _).no hm hM) ?_
     simp only[go_sem,↓reduceIte,ha,hn];simp[nmD]
    ·have htk2:o.args.take (i+1)=o.args.take i++[v]:=by rw[Zbd,hx];rfl
     have hi1:((i:Nat):Int).toNat * 1=i:=by omega
     refine⟨⟨by omega,by omega⟩,by rw[j5g];omega,(i+1,T.set i v.n),?_,⟨by simp only;omega,by simp only[List.length_set];exact hT,fun w hw=>?_,?_⟩,by simp only;omega⟩
     ·rw[hi1,j5h];refine Weak.mk ?_ ?_ (hMM _)<;>simp only[go_sem,↓reduceIte,Sub,Int.natCast_add,Int.natCast_mul]
     ·simp only[htk2]at hw;rcases Zbb.1 hw with hw|hw
      ·exact hall w hw
      ·simp at hw;subst hw;exact h2
     ·simp only[htk2,List.map_append,Zai,Zbe,←htk];rw[Zbd,List.take_set_of_le (Zal _),List.getElem?_set_self (by omega)];rfl
   ·have hie:i=k:=by omega
    subst hie;have hT2:T=o.args.map Val.n:=by rw[←List.take_of_length_le (show T.length≤i by omega),htk,List.take_of_length_le (by omega)]
    have hno:=j2H (l:=o.args) (by rw[←List.take_of_length_le (show o.args.length≤i by omega)];exact hall);have e:q2Y o.args i=some T:=by rw[hT2,←hno];exact if_pos ⟨by rw[hno];simpa using hkl,hkl⟩
    simp only[q1v,e,kErr,Zbj,Option.isNone_some,Zan,↓reduceIte,er0];refine q3t.ghost (q3t.step rfl (fun _ _ _ h=>by cases h) rfl ?_);refine⟨_,j8X (t:=44) rfl hT rfl rfl (q0k _ _ _).no hm hM,?_⟩;simp only[go_sem,↓reduceIte,ha,hn]
theorem z8h{n r:Int}(h:okF n=some r):Lim r:=by
 unfold okF at h;split at h
 ·cases h;assumption
 ·cases h
theorem Lim.i64{n:Int}(h:Lim n):i64 n:=by unfold Lim at h;unfold Go.Av.Tryz.i64;omega
theorem j4G(a b:Int):i64 ((mulF a b).getD 0):=by
 cases h:mulF a b with
 |none=>exact⟨by decide,by decide⟩
 |some r=>
  unfold mulF at h;split at h
  ·exact(z8h h).i64
  ·cases h
theorem j3N(a b:Int):i64 ((addF a b).getD 0):=by
 cases h:addF a b with
 |none=>exact⟨by decide,by decide⟩
 |some r=>
  unfold addF at h;split at h
  ·exact(z8h h).i64
  ·cases h
theorem z9T{a x b y c r:Int}(h:twoF a x b y c=some r):Lim r:=by
 unfold twoF at h;split at h
 ·exact z8h h
 ·cases h
theorem z2p(a b:M6):((catF a b).getD m60).ok:=by
 cases h:catF a b with
 |none=>exact⟨⟨by decide,by decide⟩,⟨by decide,by decide⟩⟩
 |some r=>
  unfold catF q8r at h;split at h
  ·rename_i h3;cases h;unfold rowF at h3;split at h3
   ·rename_i h1 h2;cases h3;exact⟨(z9T h1).i64,(z9T h2).i64⟩
   ·cases h3
  ·cases h
structure PT.ri(q:PT):Prop where
 tm:q.tm.ok
 lm:q.lm.ok
 ctm:q.s.ctm.ok
 sv:∀s∈q.saved,s.ctm.ok
theorem j9w{q:PT}(h:q.ri)(x:Sgn):(q.gl x).ri:=by
 obtain⟨h1,_,_,_,h5,h6⟩:=gl_s q x;refine⟨?_,by rw[h6];exact h.lm,by rw[h1];exact h.ctm,by rw[h5];exact h.sv⟩;unfold PT.gl PT.glB;split<;>exact z2p _ _
theorem j5W{q:PT}(h:q.ri):∀(l:List Sgn),(q.gls l).ri:=by
 intro l;induction l generalizing q with
 |nil=>exact h
 |cons a l ih=>
  simp only[PT.gls];split
  ·exact ih (j9w h a)
  ·exact ih h
theorem j9o(s:PSt):s.wide=(rfnt s.font).wide:=by
 unfold PSt.wide;cases s.font<;>rfl
theorem z9G{l:List Gph}(h:l≠[]):j0H l=.own (.c (.x 0) 33) 55 10 (q3d l):=by
 cases l with
 |nil=>exact absurd rfl h
 |cons g l=>rfl
def q1c:q0m:=
 .seq (.seq (.reg [Qc 13 0,Q 14 (.nck (.t 13)),Q 15 (.fa 1 (.t 14)),Q 16 (.fa 11 (.t 15)),Q 17 (.ld false 1 (.t 16)),Q 18 (.not (.t 17)),Qc 19 18,Qd 20 0 19 false,Qg 21 
 (.nck (.t 20)) 19 false,Qg 22 (.fa 32 (.t 21)) 19 false,Qg 23 (.ld false 1 (.t 22)) 19 false,Qg 24 (.not (.t 23)) 19 false,Q 25 (.pick (.t 19) KT (.t 24))]) (.cond (.t 25) 
 (.seq (.reg [Qc 26 0,⟨some 27,.prim .call [.k (.fn (.func 50) [] []),.t 26,.k (.d (.int .i64 6))] [],none⟩]) .ret) .skip)) (.seq (.reg [Qc 29 0,Q 30 (.nck (.t 29)),Q 31 
 (.fa 1 (.t 30)),Q 32 (.fa 6 (.t 31)),Q 33 (.ld true 5 (.t 32)),Qc 34 1,⟨some 35,.call 73 [.t 33,.t 34],none⟩,Qc 28 35,Q 36 (.ext 0 (.t 28)),Q 37 (.ext 1 (.t 28)),Qa 4 
 36,Qa 5 37]) (.seq (.reg [Qc 38 0,Qc 39 5,⟨some 40,.prim .call [.k (.fn (.func 50) [] []),.t 38,.t 39] [],none⟩]) (.seq (.reg [Qx 6 (Ki 0)]) (.block 0 (.loop (.seq (.seq 
 (.reg [Qc 41 6,Qc 42 4,Q 43 (.len false (.t 42)),Q 44 (.bin .lss (.t 41) (.t 43)),Qc 45 44,Qd 46 0 45 true,Qg 47 (.nck (.t 46)) 45 true,Qg 48 (.fa 34 (.t 47)) 45 true,Qg 
 49 (.ld false 1 (.t 48)) 45 true,Qg 50 (.bin .eql (.t 49) (Ki 0)) 45 true,Q 51 (.pick (.t 45) (.t 50) KF)]) (.cond (.t 51) .skip (.exit 0))) (.seq (.block 1 (.seq (.fam [Qc 54 
 0,Qc 55 0,Qc 56 0,Qc 57 0,Q 58 (.nck (.t 57)),Q 59 (.fa 1 (.t 58)),Q 60 (.fa 12 (.t 59)),Q 61 (.ld false 1 (.t 60)),Qc 62 0,Q 63 (.nck (.t 62)),Q 64 (.fa 1 (.t 63)),Q 
 65 (.fa 15 (.t 64)),Q 66 (.ld false 1 (.t 65)),⟨some 67,.prim .call [.k (.fn (.func 57) [] []),.t 56,.t 61,.t 66] [],none⟩,Qc 68 0,Q 69 (.nck (.t 68)),Q 70 (.fa 1 (.t 
 69)),Q 71 (.fa 12 (.t 70)),Q 72 (.ld false 1 (.t 71)),Qc 73 0,Q 74 (.nck (.t 73)),Q 75 (.fa 1 (.t 74)),Q 76 (.fa 17 (.t 75)),Q 77 (.ld false 1 (.t 76)),Q 78 (.bld [(0, 
 1),(1,1),(2,1),(3,1),(4,1),(5,1)] [.int .i64 0,.int .i64 0,.int .i64 0,.int .i64 0,.int .i64 0,.int .i64 0] [] [(0,.t 67),(3,.t 72),(5,.t 77)]),Qc 79 0,Q 80 
 (.nck (.t 79)),Q 81 (.fa 20 (.t 80)),Q 82 (.ld true 6 (.t 81)),⟨some 83,.prim .call [.k (.fn (.func 51) [] []),.t 55,.t 78,.t 82] [],none⟩,Qc 84 0,Q 85 (.nck (.t 84)), 
 Q 86 (.fa 1 (.t 85)),Q 87 (.fa 0 (.t 86)),Q 88 (.ld true 6 (.t 87)),⟨some 89,.prim .call [.k (.fn (.func 51) [] []),.t 54,.t 83,.t 88] [],none⟩,⟨some 7,.allo [.int .i64 
 0,.int .i64 0,.int .i64 0,.int .i64 0,.int .i64 0,.int .i64 0],none⟩,⟨none,.st 6 (.t 7) (.t 89),none⟩] [[],[],[],[],[3],[4],[5],[6],[],[8],[9],[10],[11],[2, 
 7,12],[],[14],[15],[16],[17],[],[19],[20],[21],[22],[13,18,23],[],[25],[26],[27],[1,24,28,13],[],[30],[31],[32],[33],[0,29,34,29],[],[36,35,35, 
 0,1,2,3,4,5,6,7,8,9,10,11,12,13,14,15,16,17,18,19,20,21,22,23,24,25,26,27,28,29,30,31,32,33,34,35,36]]) (.seq (.reg [Qc 90 0,Q 91 (.ld true 6 
 (.t 7)),⟨some 92,.prim .call [.k (.fn (.func 74) [] []),.t 90,.t 91,.k (.d (.int .i64 0)),.k (.d (.int .i64 0))] [],none⟩,⟨some 8,.allo [.int .i64 0,.int .i64 0], 
 none⟩,⟨none,.st 2 (.t 8) (.t 92),none⟩]) (.seq (.fam [Qc 93 0,Q 94 (.ld true 6 (.t 7)),Qc 95 4,Qc 96 6,Q 97 (.ia 3 (.t 95) (.t 96)),Q 98 (.fa 1 (.t 97)),Q 99 (.ld false 
 1 (.t 98)),⟨some 100,.prim .call [.k (.fn (.func 74) [] []),.t 93,.t 94,.t 99,.k (.d (.int .i64 0))] [],none⟩,⟨some 9,.allo [.int .i64 0,.int .i64 0],none⟩,⟨none,.st 
 2 (.t 9) (.t 100),none⟩] [[],[],[],[],[2,3],[4],[5],[0,1,6],[],[8,7,7,0,1,2,3,4,5,6,7,8]]) (.seq (.reg [Qc 101 0,Q 102 (.ld true 6 (.t 7)),⟨some 103, 
 .prim .call [.k (.fn (.func 74) [] []),.t 101,.t 102,.k (.d (.int .i64 0)),.k (.d (.int .i64 1000))] [],none⟩,⟨some 10,.allo [.int .i64 0,.int .i64 0],none⟩,⟨none,.st 
 2 (.t 10) (.t 103),none⟩]) (.seq (.fam [Qc 104 0,Q 105 (.ld true 6 (.t 7)),Qc 106 4,Qc 107 6,Q 108 (.ia 3 (.t 106) (.t 107)),Q 109 (.fa 1 (.t 108)),Q 110 (.ld false 1 (.t 
 109)),⟨some 111,.prim .call [.k (.fn (.func 74) [] []),.t 104,.t 105,.t 110,.k (.d (.int .i64 1000))] [],none⟩,⟨some 11,.allo [.int .i64 0,.int .i64 0],none⟩,⟨none, 
 .st 2 (.t 11) (.t 111),none⟩] [[],[],[],[],[2,3],[4],[5],[0,1,6],[],[8,7,7,0,1,2,3,4,5,6,7,8]]) (.seq (.dreg [Qc 112 0,Qc 113 0,Q 114 (.nck (.t 113)),Q 
 115 (.fa 33 (.t 114)),Q 116 (.ld false 1 (.t 115)),Qc 117 4,Qc 118 6,Q 119 (.ia 3 (.t 117) (.t 118)),Q 120 (.fa 2 (.t 119)),Q 121 (.ld false 1 (.t 120)),Q 122 (.ld true 2 
 (.t 8)),Q 123 (.ld true 2 (.t 9)),Qc 124 0,Q 125 (.nck (.t 124)),Q 126 (.fa 1 (.t 125)),Q 127 (.fa 12 (.t 126)),Q 128 (.ld false 1 (.t 127)),Q 129 (.ld true 2 (.t 8)),Q 
 130 (.ld true 2 (.t 9)),Q 131 (.ld true 2 (.t 10)),Q 132 (.ld true 2 (.t 11)),⟨some 133,.bsl 51 2 [.t 129,.t 130,.t 131,.t 132],none⟩,⟨some 134,.call 75 [.t 133], 
 none⟩,Q 135 (.bld [(0,1),(1,2),(3,2),(5,1),(6,4)] [.str [],.int .i64 0,.int .i64 0,.int .i64 0,.int .i64 0,.int .i64 0,.int .i64 0,.int .i64 0,.int .i64 0,.int 
 .i64 0] [] [(0,.t 121),(1,.t 122),(2,.t 123),(3,.t 128),(4,.t 134)]),⟨some 136,.bsl 55 10 [.t 135],none⟩,⟨some 137,.app 55 10 88 false (.t 116) (.t 136),none⟩,Q 
 138 (.nck (.t 112)),Q 139 (.fa 33 (.t 138)),⟨none,.st 1 (.t 139) (.t 137),none⟩]) (.seq (.seq (.reg [Qc 140 0,Q 141 (.nck (.t 140)),Q 142 (.fa 33 (.t 141)),Q 143 (.ld 
 false 1 (.t 142)),Q 144 (.len false (.t 143)),Q 145 (.bin .gtr (.t 144) (Ki 1000))]) (.cond (.t 145) (.reg [Qc 146 0,⟨some 147,.prim .call [.k (.fn (.func 50) [] []),.t 146, 
 .k (.d (.int .i64 2))] [],none⟩]) .skip)) (.seq (.fam [Qc 148 0,Qc 149 0,Qc 150 4,Qc 151 6,Q 152 (.ia 3 (.t 150) (.t 151)),Q 153 (.fa 1 (.t 152)),Q 154 (.ld false 1 (.t 
 153)),Qc 155 0,Q 156 (.nck (.t 155)),Q 157 (.fa 1 (.t 156)),Q 158 (.fa 12 (.t 157)),Q 159 (.ld false 1 (.t 158)),⟨some 160,.prim .call [.k (.fn (.func 57) [] []),.t 149, 
 .t 154,.t 159] [],none⟩,Qc 161 0,Q 162 (.nck (.t 161)),Q 163 (.fa 1 (.t 162)),Q 164 (.fa 13 (.t 163)),Q 165 (.ld false 1 (.t 164)),⟨some 166,.prim .call [.k (.fn (.func 
 76) [] []),.t 148,.t 160,.t 165] [],none⟩,Qa 12 166] [[],[],[],[],[2,3],[4],[5],[],[7],[8],[9],[10],[1,6,11],[],[13],[14],[15],[16],[0,12,17,12], 
 [18,18,0,1,2,3,4,5,6,7,8,9,10,11,12,13,14,15,16,17,18]]) (.seq (.seq (.reg [Qc 167 4,Qc 168 6,Q 169 (.ia 3 (.t 167) (.t 168)),Q 170 (.fa 0 (.t 169)),Q 171 
 (.ld false 1 (.t 170)),Q 172 (.bin .eql (.t 171) (Ki 32)),Qc 173 172,Qd 174 0 173 true,Qg 175 (.nck (.t 174)) 173 true,Qg 176 (.fa 1 (.t 175)) 173 true,Qg 177 (.fa 6 (.t 
 176)) 173 true,Qg 178 (.fa 0 (.t 177)) 173 true,Qg 179 (.ld false 1 (.t 178)) 173 true,Qg 180 (.not (.t 179)) 173 true,Q 181 (.pick (.t 173) (.t 180) KF)]) (.cond (.t 181) 
 (.reg [Qc 182 0,Qc 183 12,Qc 184 0,Q 185 (.nck (.t 184)),Q 186 (.fa 1 (.t 185)),Q 187 (.fa 14 (.t 186)),Q 188 (.ld false 1 (.t 187)),⟨some 189,.prim .call [.k (.fn (.func 
 76) [] []),.t 182,.t 183,.t 188] [],none⟩,Qa 12 189]) .skip)) (.fam [Qc 190 0,Qc 191 0,Qc 192 0,Qc 193 12,Qc 194 0,Q 195 (.nck (.t 194)),Q 196 (.fa 1 (.t 195)),Q 197 
 (.fa 15 (.t 196)),Q 198 (.ld false 1 (.t 197)),⟨some 199,.prim .call [.k (.fn (.func 57) [] []),.t 192,.t 193,.t 198] [],none⟩,⟨some 200,.call 56 [.t 199,.k (.d (.int 
 .i64 0))],none⟩,Qc 201 0,Q 202 (.nck (.t 201)),Q 203 (.fa 20 (.t 202)),Q 204 (.ld true 6 (.t 203)),⟨some 205,.prim .call [.k (.fn (.func 51) [] []),.t 191,.t 200,.t 
 204] [],none⟩,Q 206 (.nck (.t 190)),Q 207 (.fa 20 (.t 206)),⟨none,.st 6 (.t 207) (.t 205),none⟩] [[],[],[],[],[],[4],[5],[6],[7],[2,3,8],[9,9],[],[11],[12], 
 [13],[1,10,14,10],[0,0,1,2,3,4,5,6,7,8,9,10,11,12,13,14,15],[16,0,1,2,3,4,5,6,7,8,9,10,11,12,13,14,15],[17,15,15,0,1,2,3,4,5,6,7, 
 8,9,10,11,12,13,14,15]]))))))))))) (.reg [Qc 52 6,Q 53 (.bin .add (.t 52) (Ki 1)),Qa 6 53]))))))))
def q1f:List LRes:=[]
theorem q2I:q0t Tryz.prog 55 208 q1c q1f:=⟨_,_,Tryz.func55,rfl,by kernel_rfl,by kernel_rfl,rfl⟩
theorem z8z(fd:D)(q:PT)(c:Option Nat)(t:List UInt8)(hq:q.ok)(hr:q.ri)(ht:t.length≤1000000){m:Option AObj}(hm:rowM m=true):
  MVE Tryz.prog 55 [.ptr (.x 0) 0,.d (.str t)] [rob fd q c] m (.tuple []) [rob fd (q.shw t) c] m:=by
 refine q2I.mv (by kernel_rfl) rfl rfl ?_;generalize hM:mob m=M;have ha:aget M 1000=m:=hM▸q0o m;have hn:=hm;unfold rowM at hn;have hMM:∀o:AObj,Sub ((0,o)::M) ((0,o)::M):=fun o=>hM▸subM o m
 generalize hE:rob fd (q.shw t) c=oE;simp only[go_sem,↓reduceIte,q1c,q1f,I,rob];refine⟨fun h1=>⟨fun h2=>?_,fun h2=>?_⟩,fun h1=>?_⟩
 ·have e:q.shw t=q.er 6:=by
   unfold PT.shw;split
   ·rw[if_neg (by rw[h2];decide)]
   ·rfl
  refine q0e.poM rfl (q5s fd q c 6 hm) (q0k _ _ _) (q0k _ _ _) hm hM rfl rfl rfl ⟨⟨rfl,rfl⟩,rfl⟩ ?_;simp only[go_sem,↓reduceIte,ha,hn];rw[←hE,e]
 ·obtain⟨f,hf⟩:=Zdb.1 h1;have hrf:rfnt q.s.font=f:=by rw[hf];rfl
  have hfo:=hq.font f hf;rw[←hrf]at hfo;refine q0i.of (z7g (rfnt q.s.font) hfo t ht) ?_;rw[show q8M (rfnt q.s.font) t=q8M f t by rw[hrf]];cases hs:q8M f t with
  |none=>
   have e:q.shw t=q.er 4:=by simp only[PT.shw,hf,h2,hs,↓reduceIte]
   simp only[go_sem,↓reduceIte,z3o];refine q0e.poM rfl (q5s fd q c 4 hm) (q0k _ _ _) (q0k _ _ _) hm hM rfl rfl rfl ⟨⟨rfl,rfl⟩,rfl⟩ ?_;simp only[go_sem,↓reduceIte];refine q1X ?_;simp only[go_sem,↓reduceIte,ha,hn];rw[←hE,e]
  |some l=>
   have hE2:q.shw t=q.gls l:=by simp only[PT.shw,hf,h2,hs,↓reduceIte]
   rw[hE2]at hE;have hlb:=z4H hs;have hll:=q0v l;simp only[go_sem,↓reduceIte,z3o];refine q0e.poM rfl (q5s fd q c 0 hm) (q0k _ _ _) (q0k _ _ _) hm hM rfl rfl rfl ⟨⟨rfl,rfl⟩,rfl⟩ ?_;rw[er0];simp only[go_sem,↓reduceIte];obtain⟨S,hS⟩:∃S:Nat→AObj,∀i,S i=rob fd (q.gls (l.take i)) c:=⟨_,fun _=>rfl⟩;refine q0j (fun i:Nat=>⟨[(0,.ptr (.x 0) 0),(4,.d (.list (q3G l))),(6,.d (.int .i64 i))],[],(0,S i)::M⟩) (fun i=>i≤l.length) (fun i=>l.length-i) 0 ?_ (Zar _) ?_
   ·rw[hS 0];refine Weak.mk ?_ ?_ (hMM _)<;>simp only[go_sem,↓reduceIte,Sub,Int.natCast_add,Int.natCast_mul,PT.gls]
   ·intro i hi';rw[hS i];have hok:=(z4q hq (l.take i)).1;have hs1:=(z4q hq (l.take i)).2.1;have hri:=j5W hr (l.take i);have hbd:=j1Y (q:=q.gls (l.take i));have hcat0:=j6Q q (l.take i) (l.drop i);rw[List.take_append_drop]at hcat0;have hgl0:=fun x=>z89 q (l.take i) x
    generalize q.gls (l.take i)=q1 at *;simp(disch:=omega)only[go_sem,↓reduceIte,hll,rob,I];refine⟨fun hlt=>⟨fun hb=>?_,fun hb=>?_⟩,fun hge=>?_⟩
    ·obtain⟨x,hx⟩:=get_some (l:=l) (i:=i) (by omega);have hg:getI (q3G l) (i:Int)=some x.d:=by rw[q0d,z7e,hx];rfl
     have htk:l.take (i+1)=l.take i++[x]:=by rw[Zbd,hx];rfl
     have hgl:=hS (i+1);rw[htk,hgl0 x,if_pos (by omega)]at hgl;clear hgl0 hbd hcat0;have hmul:∀n a b,MVE Tryz.prog 57 [.ptr (.x 0) 0,.d (I a),.d (I b)] [rX fd q1 c n] m (.d (I ((mulF a b).getD 0))) [rX fd q1 c (orE n (errO (mulF a b)))] m:=fun n a b=>rmul fd (q1.wb n) c a b hm
     have hcat:∀n a b,M6.ok b→MVE Tryz.prog 51 [.ptr (.x 0) 0,.d (m6D a),.d (m6D b)] [rX fd q1 c n] m (.d (m6D ((catF a b).getD m60))) [rX fd q1 c (orE n (errO (catF a b)))] m:=fun n a b hb=>j26 fd (q1.wb n) c a b hb hm
     have happ:∀n a x y,MVE Tryz.prog 74 [.ptr (.x 0) 0,.d (m6D a),.d (I x),.d (I y)] [rX fd q1 c n] m (.d (pt ((appF a x y).getD (0,0)).1 ((appF a x y).getD (0,0)).2)) [rX fd q1 c (orE n (errO (appF a x y)))] m:=fun n a x y=>rat fd (q1.wb n) c a x y hm
     refine q6J (rX fd q1 c) M 37 [0] [7] q1.bad (by kernel_rfl) rfl rfl rfl ?_;simp only[go_sem,↓reduceIte,rX,rob,PT.wb];refine FR.prim (q3b.mve rfl hM (hmul _ q1.s.size q1.s.scale) (q3h _ _ _ _) (q3h _ _ _ _) hm rfl rfl ⟨⟨rfl,rfl⟩,rfl⟩) rfl ?_;generalize ho1:mulF q1.s.size q1.s.scale=o1;simp only[go_sem,↓reduceIte,rX,rob,PT.wb,m6D,mat,I];refine FR.prim (q3b.mve rfl hM (hcat _ (o1.getD 0,0,0,q1.s.size,0,q1.s.rise) q1.tm hri.tm) (q3h _ _ _ _) (q3h _ _ _ _) hm rfl rfl ⟨⟨rfl,rfl⟩,rfl⟩) rfl ?_
     generalize ho2:catF (o1.getD 0,0,0,q1.s.size,0,q1.s.rise) q1.tm=o2;simp only[go_sem,↓reduceIte,rX,rob,PT.wb,m6D,mat,I];refine FR.prim (q3b.mve rfl hM (hcat _ (o2.getD m60) q1.s.ctm hri.ctm) (q3h _ _ _ _) (q3h _ _ _ _) hm rfl rfl ⟨⟨rfl,rfl⟩,rfl⟩) rfl ?_;generalize ho3:catF (o2.getD m60) q1.s.ctm=o3;simp only[go_sem,↓reduceIte,rX,rob,PT.wb,m6D,mat,I];refine q0e.poM rfl (happ (orE (orE (orE q1.bad (errO o1)) (errO o2)) (errO o3)) (o3.getD m60) 0 0) (q3h _ _ _ _) (q3h _ _ _ _) hm hM rfl rfl rfl ⟨⟨rfl,rfl⟩,rfl⟩ ?_
     generalize ho4:appF (o3.getD m60) 0 0=o4;simp only[go_sem,↓reduceIte,pt];refine q6J (rX fd q1 c) M 9 [0,7,4,6] [9] (orE (orE (orE (orE q1.bad (errO o1)) (errO o2)) (errO o3)) (errO o4)) (by kernel_rfl) rfl rfl rfl ?_;simp(disch:=omega)only[go_sem,↓reduceIte,rX,rob,PT.wb,m6D,mat,pt,I,hg,Sgn.d];refine FR.prim (q3b.mve rfl hM (happ _ (o3.getD m60) x.width 0) (q3h _ _ _ _) (q3h _ _ _ _) hm rfl rfl ⟨⟨rfl,rfl⟩,rfl⟩) rfl ?_;generalize ho5:appF (o3.getD m60) x.width 0=o5;simp only[go_sem,↓reduceIte,rX,rob,PT.wb,m6D,mat,pt,I]
     refine q0e.poM rfl (happ (orE (orE (orE (orE (orE q1.bad (errO o1)) (errO o2)) (errO o3)) (errO o4)) (errO o5)) (o3.getD m60) 0 1000) (q3h _ _ _ _) (q3h _ _ _ _) hm hM rfl rfl rfl ⟨⟨rfl,rfl⟩,rfl⟩ ?_;generalize ho6:appF (o3.getD m60) 0 1000=o6;simp only[go_sem,↓reduceIte,pt];refine q6J (rX fd q1 c) M 9 [0,7,4,6] [11] (orE (orE (orE (orE (orE (orE q1.bad (errO o1)) (errO o2)) (errO o3)) (errO o4)) (errO o5)) (errO o6)) (by kernel_rfl) rfl rfl rfl ?_;simp(disch:=omega)only[go_sem,↓reduceIte,rX,rob,PT.wb,m6D,mat,pt,I,hg,Sgn.d]
     refine FR.prim (q3b.mve rfl hM (happ _ (o3.getD m60) x.width 1000) (q3h _ _ _ _) (q3h _ _ _ _) hm rfl rfl ⟨⟨rfl,rfl⟩,rfl⟩) rfl ?_;generalize ho7:appF (o3.getD m60) x.width 1000=o7;generalize hn7:orE (orE (orE (orE (orE (orE (orE q1.bad (errO o1)) (errO o2)) (errO o3)) (errO o4)) (errO o5)) (errO o6)) (errO o7)=n7 at *;have hAo:(q1.glA x).out=q1.out++[⟨x.text,o4.getD (0,0),o5.getD (0,0),q1.s.size,q1O [o4.getD (0,0),o5.getD (0,0),o6.getD (0,0),o7.getD (0,0)]⟩]:=by
      simp only[PT.glA,ho1,ho2,ho3,ho4,ho5,ho6,ho7]
     have hAb:(q1.glA x).bad=if 1000<q1.out.length+1 then orE n7 2 else n7:=by
      simp only[PT.glA,ho1,ho2,ho3,ho4,ho5,ho6,ho7,hn7,Zaq,Zad,Zam,Zaw]
     generalize ho8:q1O [o4.getD (0,0),o5.getD (0,0),o6.getD (0,0),o7.getD (0,0)]=o8 at *;have hsn:q3d (q1.glA x).out=q3d q1.out++[.agg [.str x.text,.int .i64 (o4.getD (0,0)).1,.int .i64 (o4.getD (0,0)).2,.int .i64 (o5.getD (0,0)).1,.int .i64 (o5.getD (0,0)).2,.int .i64 q1.s.size,.int .i64 o8.1,.int .i64 o8.2.1,.int .i64 o8.2.2.1,.int .i64 o8.2.2.2]]:=by rw[hAo];simp[q3d,Gph.d,I]
     have hLn:(q3d (q1.glA x).out).length=q1.out.length+1:=by rw[hAo];simp[q3d]
     have hne:(q1.glA x).out≠[]:=by rw[hAo];simp
     have hOV:=z9G hne;have hql:(q3d q1.out).length=q1.out.length:=by simp[q3d]
     have hol:=hok.out (by omega);have hry:q0y Tryz.prog 75 [.list (ptsD [o4.getD (0,0),o5.getD (0,0),o6.getD (0,0),o7.getD (0,0)])] (fun r=>r=.one (boxD o8)):=by
      rw[←ho8];exact z68 [o4.getD (0,0),o5.getD (0,0),o6.getD (0,0),o7.getD (0,0)] (by simp)
     by_cases hout:q1.out=[]
     case' pos=>
      have hv:j0H q1.out=.ns:=by rw[hout];rfl
      rw[show q3d q1.out=[] by rw[hout];rfl,Zbu]at hsn;simp only[go_sem,↓reduceIte,rX,rob,PT.wb,m6D,mat,pt,I,hg,Sgn.d,hv]
     case' neg=>
      have hv:=z9G hout;simp only[go_sem,↓reduceIte,rX,rob,PT.wb,m6D,mat,pt,I,hg,Sgn.d,hv]
     case' pos=>
      refine q6a.of hry ?_;simp(disch:=omega)only[go_sem,↓reduceIte,boxD,I];rw[←hsn];rw[hout,if_neg (by simp)]at hAb
     case' neg=>
      refine q6a.of hry ?_;simp(disch:=omega)only[go_sem,↓reduceIte,boxD,I,←hsn,hLn,hql];refine⟨⟨by omega,by omega⟩,fun h3=>?ya,fun h3=>?yb⟩
     case' ya=>
      rw[if_pos (by omega)]at hAb;have hpf:=q5s fd ((q1.glA x).wb n7) c 2 hm;have hpo:=fun n=>q0k fd ((q1.glA x).wb n) c
      have hao2:∀n,j0H ((q1.glA x).wb n).out=.own (.c (.x 0) 33) 55 10 (q3d (q1.glA x).out):=fun n=>hOV
      rw[j9m]at hpf;simp only[rob,hao2]at hpo hpf;refine q0e.poM rfl hpf (hpo _) (hpo _) hm hM rfl rfl rfl ⟨⟨rfl,rfl⟩,rfl⟩ ?_;simp only[go_sem,↓reduceIte]
     case' yb=>
      rw[if_neg (by omega)]at hAb
     all_goals
      refine z9I ⟨[(0,.ptr (.x 0) 0),(4,.d (.list (q3G l))),(6,.d (.int .i64 i))],[],(0,rX fd (q1.glA x) c (q1.glA x).bad)::M⟩ (Weak.mk ?_ ?_ ?_) ?_
      ·simp only[go_sem,↓reduceIte,Sub]
      ·simp only[go_sem,↓reduceIte,Sub]
      ·show Sub ((0,rob fd (q1.glA x) c)::M) _
       unfold rob;rw[hOV,hAb];exact hMM _
      clear hAb hmul hcat happ;have hsA:(q1.glA x).s=q1.s:=rfl;have htA:(q1.glA x).tm=q1.tm:=rfl;generalize hqa:q1.glA x=qa at *;have hmul:∀n a b,MVE Tryz.prog 57 [.ptr (.x 0) 0,.d (I a),.d (I b)] [rX fd qa c n] m (.d (I ((mulF a b).getD 0))) [rX fd qa c (orE n (errO (mulF a b)))] m:=fun n a b=>rmul fd (qa.wb n) c a b hm
      have hadd:∀n a b,i64 a→MVE Tryz.prog 76 [.ptr (.x 0) 0,.d (I a),.d (I b)] [rX fd qa c n] m (.d (I ((addF a b).getD 0))) [rX fd qa c (orE n (errO (addF a b)))] m:=fun n a b hi=>radd fd (qa.wb n) c a b hi hm
      have hcat:∀n a b,M6.ok b→MVE Tryz.prog 51 [.ptr (.x 0) 0,.d (m6D a),.d (m6D b)] [rX fd qa c n] m (.d (m6D ((catF a b).getD m60))) [rX fd qa c (orE n (errO (catF a b)))] m:=fun n a b hb=>j26 fd (qa.wb n) c a b hb hm
      refine q6J (rX fd qa c) M 19 [0,4,6] [] qa.bad (by kernel_rfl) rfl rfl rfl ?_;simp(disch:=omega)only[go_sem,↓reduceIte,rX,rob,PT.wb,hg,Sgn.d,I];refine FR.prim (q3b.mve rfl hM (hmul _ x.width qa.s.size) (q3h _ _ _ _) (q3h _ _ _ _) hm rfl rfl ⟨⟨rfl,rfl⟩,rfl⟩) rfl ?_;have i9:=j4G x.width qa.s.size;generalize ho9:mulF x.width qa.s.size=o9 at *;simp only[go_sem,↓reduceIte,rX,rob,PT.wb,I];refine FR.prim (q3b.mve rfl hM (hadd _ (o9.getD 0) qa.s.char i9) (q3h _ _ _ _) (q3h _ _ _ _) hm rfl rfl ⟨⟨rfl,rfl⟩,rfl⟩) rfl ?_
      have i10:=j3N (o9.getD 0) qa.s.char;generalize ho10:addF (o9.getD 0) qa.s.char=o10 at *;simp(disch:=omega)only[go_sem,↓reduceIte,rX,rob,PT.wb,I,hg,Sgn.d];have hwd:=j9o qa.s;refine⟨fun hx3=>⟨fun hw=>?_,fun hw=>?_⟩,fun hx3=>?_⟩
      ·refine q0e.poM rfl (hadd (orE (orE qa.bad (errO o9)) (errO o10)) (o10.getD 0) qa.s.word i10) (q3h _ _ _ _) (q3h _ _ _ _) hm hM rfl rfl rfl ⟨⟨rfl,rfl⟩,rfl⟩ ?_;generalize ho11:addF (o10.getD 0) qa.s.word=o11 at *;simp only[go_sem,↓reduceIte,I];refine q6J (rX fd qa c) M 16 [0,12] [] (orE (orE (orE qa.bad (errO o9)) (errO o10)) (errO o11)) (by kernel_rfl) rfl rfl rfl ?_;simp only[go_sem,↓reduceIte,rX,rob,PT.wb,I];refine FR.prim (q3b.mve rfl hM (hmul _ (o11.getD 0) qa.s.scale) (q3h _ _ _ _) (q3h _ _ _ _) hm rfl rfl ⟨⟨rfl,rfl⟩,rfl⟩) rfl ?_
       generalize ho12:mulF (o11.getD 0) qa.s.scale=o12 at *;simp only[go_sem,↓reduceIte,rX,rob,PT.wb,I];refine FR.call (q8Q (o12.getD 0) 0) rfl ?_;simp only[go_sem,↓reduceIte,rX,rob,PT.wb,I];refine FR.prim (q3b.mve rfl hM (hcat _ (1000,0,0,1000,o12.getD 0,0) qa.tm (by rw[htA];exact hri.tm)) (q3h _ _ _ _) (q3h _ _ _ _) hm rfl rfl ⟨⟨rfl,rfl⟩,rfl⟩) rfl ?_;simp(disch:=omega)only[go_sem,↓reduceIte,rX,rob,PT.wb,m6D,mat,I];refine⟨i+1,?_,by omega,by omega⟩;have hfin:q1.gl x=qa.glB x:=by rw[←hqa];rfl
       have hgB:qa.glB x=(qa.wb (orE (orE (orE (orE qa.bad (errO o9)) (errO o10)) (errO o11)) (errO o12))).on (o12.getD 0):=by
        unfold PT.glB;simp only[ho9,ho10,ho12,ho11,hx3,hwd,hw,and_self,↓reduceIte]
       rw[hgl,hfin,hgB];refine Weak.mk ?_ ?_ (hMM _)
       ·simp only[go_sem,↓reduceIte,Sub,Int.natCast_add]
       ·simp only[go_sem,↓reduceIte,Sub]
      all_goals
       have hno:¬(x.code=32∧qa.s.wide=false):=fun h=>by first|exact hx3 h.1|(rw[hwd]at h;rw[h.2]at hw;cases hw)|(rw[hwd]at h;exact hw h.2)
       refine q6J (rX fd qa c) M 16 [0,12] [] (orE (orE qa.bad (errO o9)) (errO o10)) (by kernel_rfl) rfl rfl rfl ?_;simp only[go_sem,↓reduceIte,rX,rob,PT.wb,I];refine FR.prim (q3b.mve rfl hM (hmul _ (o10.getD 0) qa.s.scale) (q3h _ _ _ _) (q3h _ _ _ _) hm rfl rfl ⟨⟨rfl,rfl⟩,rfl⟩) rfl ?_;generalize ho12:mulF (o10.getD 0) qa.s.scale=o12 at *;simp only[go_sem,↓reduceIte,rX,rob,PT.wb,I];refine FR.call (q8Q (o12.getD 0) 0) rfl ?_;simp only[go_sem,↓reduceIte,rX,rob,PT.wb,I]
       refine FR.prim (q3b.mve rfl hM (hcat _ (1000,0,0,1000,o12.getD 0,0) qa.tm (by rw[htA];exact hri.tm)) (q3h _ _ _ _) (q3h _ _ _ _) hm rfl rfl ⟨⟨rfl,rfl⟩,rfl⟩) rfl ?_;simp(disch:=omega)only[go_sem,↓reduceIte,rX,rob,PT.wb,m6D,mat,I];refine⟨i+1,?_,by omega,by omega⟩;have hfin:q1.gl x=qa.glB x:=by rw[←hqa];rfl
       have hgB:qa.glB x=(qa.wb (orE (orE (orE qa.bad (errO o9)) (errO o10)) (errO o12))).on (o12.getD 0):=by
        unfold PT.glB;simp only[ho9,ho10,ho12,hno,↓reduceIte]
       rw[hgl,hfin,hgB];refine Weak.mk ?_ ?_ (hMM _)
       ·simp only[go_sem,↓reduceIte,Sub,Int.natCast_add]
       ·simp only[go_sem,↓reduceIte,Sub]
    ·have hb':q1.bad≠0:=fun e=>hb (by rw[e];rfl)
     rw[hbd hb']at hcat0;rw[hcat0]at hE;rw[ha];exact⟨hn,by rw[←hE];rfl,rfl⟩
    ·have hdr:l.drop i=[]:=Zah (by omega);rw[hdr,PT.gls]at hcat0;rw[hcat0]at hE;rw[ha];exact⟨hn,by rw[←hE];rfl,rfl⟩
 ·have e:q.shw t=q.er 6:=by
   have hf:q.s.font=none:=by cases hf:q.s.font<;>simp[hf]at h1 ⊢
   simp only[PT.shw,hf]
  refine q0e.poM rfl (q5s fd q c 6 hm) (q0k _ _ _) (q0k _ _ _) hm hM rfl rfl rfl ⟨⟨rfl,rfl⟩,rfl⟩ ?_;simp only[go_sem,↓reduceIte,ha,hn];rw[←hE,e]
end Go.Av.Tryz
