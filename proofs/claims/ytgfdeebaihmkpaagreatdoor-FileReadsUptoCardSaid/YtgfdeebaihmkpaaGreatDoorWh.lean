import Derived.Test.YtgfdeebaihmkpaaGreatDoorWa
import Derived.Test.YtgfdeebaihmkpaaGreatDoorWg
import Derived.Test.YtgfdeebaihmkpaaGreatDoorWc
import Derived.Shelf.Strings.Repeat
import Derived.Test.YtgfdeebaihmkpaaGreatDoorAvG
set_option linter.unusedSimpArgs false
set_option maxRecDepth 100000
set_option maxHeartbeats 16000000
namespace Go.Av.Tryz
open Go.Proofs
def nHex:List UInt8:=[65,83,67,73,73,72,101,120,68,101,99,111,100,101]
def n85:List UInt8:=[65,83,67,73,73,56,53,68,101,99,111,100,101]
def nRun:List UInt8:=[82,117,110,76,101,110,103,116,104,68,101,99,111,100,101]
def known(n:List UInt8):Bool:=decide (n=nHex) || (decide (n=n85) || decide (n=nRun))
def z1F(p:List UInt8×Nat):List UInt8×Nat:=if p.2≠0 then([],p.2)else if 20000<p.1.length then([],2)else p
def q4w(n s:List UInt8):List UInt8×Nat:=if n=nHex then q1i s (-1) []else if n=n85 then q1D s [] []else q4x s []
def oneT(n s:List UInt8):List UInt8×Nat:=if known n=true then z1F (q4w n s)else([],9)
def z2I:List (List UInt8)→List UInt8→List UInt8×Nat
 |[],s=>(s,0)
 |n::r,s=>if(oneT n s).2≠0 then([],(oneT n s).2)else z2I r (oneT n s).1
def takF(names:List (List UInt8))(s:List UInt8):List UInt8×Nat:=if 8<names.length∨20000<s.length then([],2)else z2I names s
theorem j5b{p:List UInt8×Nat}(h:(z1F p).2=0):(z1F p).1.length≤20000:=by
 unfold z1F at h ⊢;(repeat' split)<;>simp_all
theorem j6I{n s:List UInt8}(h:(oneT n s).2=0):(oneT n s).1.length≤20000:=by
 unfold oneT at h ⊢;split
 ·rename_i hk;rw[if_pos hk]at h;exact j5b h
 ·rename_i hk;simp
def q92:q0g:=
 Qr [Qx 2 KF] (Qr [Qc 3 0,Q 4 (.bin .eql (.t 3) (.k (.d (.str [65,83,67,73,73,72,101,120,68,101,99,111,100,101])))),Qc 5 4,Qd 6 0 5 false,Qg 7 (.bin .eql (.t 6) (.k 
 (.d (.str [65,83,67,73,73,56,53,68,101,99,111,100,101])))) 5 false,Qo 8 5 7,Qc 9 8,Qd 10 0 9 false,Qg 11 (.bin .eql (.t 10) (.k (.d (.str [82,117,110,76,101, 
 110,103,116,104,68,101,99,111,100,101])))) 9 false,Qo 12 9 11,Qa 2 12] .ret)
def q96:List LRes:=[.tmp 2]
theorem z16:q0n Tryz.prog 150 13 q92 q96:=⟨_,_,Tryz.func150,rfl,by kernel_rfl,by kernel_rfl,rfl⟩
theorem q9E(n:List UInt8):q0i Tryz.prog 150 [.str n] (fun r=>r=.one (.bool (known n))):=by
 refine z16.call rfl ?_;simp(maxSteps:=2000000)only[go_sem,↓reduceIte,q92,q96];unfold known nHex n85 nRun;simp +contextual
def q74:q0g:=
 Qr [Qx 4 (.k (.d (.str []))),Qx 5 (.k (.d .nil))] (.seq (Qr [Qc 6 1,Q 7 (.eqN 0 false (.t 6)),Qc 8 7,Qd 9 0 8 true,Qg 10 (.len true (.t 9)) 8 true,Qg 11 (.bin .gtr (.t 10) 
 (Ki 20000)) 8 true,Qp 12 8 11] (.cond (.t 12) (.reg [Q 13 (.mkI 49 (Ki 2)),Qa 1 13]) .skip)) (.seq (Qr [Qc 14 1,Q 15 (.eqN 0 true (.t 14))] (.cond (.t 15) (Qr [Qc 16 1,Qx 4 
 (.k (.d (.str []))),Qa 5 16] .ret) .skip)) (Qr [Qc 17 0,Qa 4 17,Qx 5 (.k (.d .nil))] .ret)))
def q76:List LRes:=[.tmp 4,.tmp 5]
theorem z2Y:q0n Tryz.prog 151 18 q74 q76:=⟨_,_,Tryz.func151,rfl,by kernel_rfl,by kernel_rfl,rfl⟩
theorem z1Y(s:List UInt8)(e:Nat):q0i Tryz.prog 151 [.str s,errD e] (fun r=>r=resE (z1F (s,e))):=by
 refine z2Y.call rfl ?_
 by_cases h:e=0
 ·subst h;have he:errD 0=.nil:=rfl;rw[he];simp(maxSteps:=2000000)only[go_sem,↓reduceIte,q74,q76];unfold z1F;refine⟨fun h=>?_,fun h=>?_⟩
  ·rw[if_neg (by simp),if_pos (by simp only;omega)];simp[resE,errD]
  ·rw[if_neg (by simp),if_neg (by simp only;omega)];simp[resE,errD]
 ·rw[q0Q h];simp(maxSteps:=2000000)only[go_sem,↓reduceIte,q74,q76];unfold z1F;rw[if_pos h];simp[resE,q0Q h]
def q5m:q0g:=
 Qr [Qx 6 (.k (.d (.str []))),Qx 7 (.k (.d .nil))] (.seq (Qr [Qc 8 0,Qj 9 150 [8],Qh 10 9] (.cond (.t 10) (Qr [Q 11 (.mkI 49 (Ki 9)),Qx 6 (.k (.d (.str []))),Qa 7 11] .ret) 
 .skip)) (.seq (.block 0 (Qr [Qc 13 0,Q 14 (.bin .eql (.t 13) (.k (.d (.str [65,83,67,73,73,72,101,120,68,101,99,111,100,101])))),Qc 15 14,Qd 16 2 15 true,Qp 17 
 15 16,Qa 12 17] (.cond (.t 12) (Qr [Qc 18 1,Qj 19 152 [18],Qe 20 0 19,Qe 21 1 19,Qj 22 151 [20,21],Qe 23 0 22,Qe 24 1 22,Qa 6 23,Qa 7 24] .ret) (Qr [Qc 26 0,Q 27 (.bin 
 .eql (.t 26) (.k (.d (.str [65,83,67,73,73,72,101,120,68,101,99,111,100,101])))),Qa 25 27] (.cond (.t 25) (Qr [Qc 28 1,Qj 29 153 [28],⟨some 30,.call 151 [.t 29, 
 .k (.d .nil)],none⟩,Qe 31 0 30,Qe 32 1 30,Qa 6 31,Qa 7 32] .ret) (Qr [Qc 34 0,Q 35 (.bin .eql (.t 34) (.k (.d (.str [65,83,67,73,73,56,53,68,101,99,111,100, 
 101])))),Qc 36 35,Qd 37 2 36 true,Qp 38 36 37,Qa 33 38] (.cond (.t 33) (Qr [Qc 39 1,Qj 40 154 [39],Qe 41 0 40,Qe 42 1 40,Qj 43 151 [41,42],Qe 44 0 43,Qe 45 1 43,Qa 6 
 44,Qa 7 45] .ret) (Qr [Qc 47 0,Q 48 (.bin .eql (.t 47) (.k (.d (.str [65,83,67,73,73,56,53,68,101,99,111,100,101])))),Qa 46 48] (.cond (.t 46) (Qr [Qc 49 1,Qj 50 
 155 [49],⟨some 51,.call 151 [.t 50,.k (.d .nil)],none⟩,Qe 52 0 51,Qe 53 1 51,Qa 6 52,Qa 7 53] .ret) (Qr [Qc 55 2,Qa 54 55] (.cond (.t 54) (Qr [Qc 56 1,Qj 57 156 [56], 
 Qe 58 0 57,Qe 59 1 57,Qj 60 151 [58,59],Qe 61 0 60,Qe 62 1 60,Qa 6 61,Qa 7 62] .ret) .skip))))))))))) (Qr [Qc 63 1,Qj 64 157 [63],⟨some 65,.call 151 [.t 64,.k (.d 
 .nil)],none⟩,Qe 66 0 65,Qe 67 1 65,Qa 6 66,Qa 7 67] .ret)))
def q5t:List LRes:=[.tmp 6,.tmp 7]
theorem z4h:q0n Tryz.prog 115 68 q5m q5t:=⟨_,_,Tryz.func115,rfl,by kernel_rfl,by kernel_rfl,rfl⟩
theorem j3Y(n s:List UInt8)(hs:s.length≤20000):q0i Tryz.prog 115 [.str n,.str s,.bool true] (fun r=>r=resE (oneT n s)):=by
 refine z4h.call rfl ?_
 by_cases hk:known n=true
 ·rw[show oneT n s=z1F (q4w n s)from if_pos hk]
  by_cases h1:n=nHex
  ·have e1:(n=[65,83,67,73,73,72,101,120,68,101,99,111,100,101])=True:=eq_true h1;have hX:q4w n s=q1i s (-1) []:=if_pos h1;simp(maxSteps:=2000000)only[go_sem,↓reduceIte,q5m,q5t];refine q0c.of (q9E n) ?_;simp(maxSteps:=2000000)only[go_sem,↓reduceIte,hk,e1];refine q0c.of (z9x s (by omega)) ?_;rw[←hX];simp(maxSteps:=2000000)only[go_sem,↓reduceIte,resE];refine q0c.of (z1Y _ _) ?_;simp(maxSteps:=2000000)only[go_sem,↓reduceIte,resE]
  ·have e1:(n=[65,83,67,73,73,72,101,120,68,101,99,111,100,101])=False:=eq_false h1
   by_cases h2:n=n85
   ·have e2:(n=[65,83,67,73,73,56,53,68,101,99,111,100,101])=True:=eq_true h2;have hX:q4w n s=q1D s [] []:=by unfold q4w;rw[if_neg h1,if_pos h2]
    simp(maxSteps:=2000000)only[go_sem,↓reduceIte,q5m,q5t];refine q0c.of (q9E n) ?_;simp(maxSteps:=2000000)only[go_sem,↓reduceIte,hk,e1,e2];refine q0c.of (z7w s (by omega)) ?_;rw[←hX];simp(maxSteps:=2000000)only[go_sem,↓reduceIte,resE];refine q0c.of (z1Y _ _) ?_;simp(maxSteps:=2000000)only[go_sem,↓reduceIte,resE]
   ·have e2:(n=[65,83,67,73,73,56,53,68,101,99,111,100,101])=False:=eq_false h2;have hX:q4w n s=q4x s []:=by unfold q4w;rw[if_neg h1,if_neg h2]
    simp(maxSteps:=2000000)only[go_sem,↓reduceIte,q5m,q5t];refine q0c.of (q9E n) ?_;simp(maxSteps:=2000000)only[go_sem,↓reduceIte,hk,e1,e2];refine q0c.of (j0T s (by omega)) ?_;rw[←hX];simp(maxSteps:=2000000)only[go_sem,↓reduceIte,resE];refine q0c.of (z1Y _ _) ?_;simp(maxSteps:=2000000)only[go_sem,↓reduceIte,resE]
 ·have hk':known n=false:=by simpa using hk
  rw[show oneT n s=([],9)from if_neg hk];simp(maxSteps:=2000000)only[go_sem,↓reduceIte,q5m,q5t];refine q0c.of (q9E n) ?_;simp(maxSteps:=2000000)only[go_sem,↓reduceIte,hk',resE,errD]
def z2p:q0g:=
 Qr [Qx 6 (.k (.d (.str []))),Qx 7 (.k (.d .nil))] (.seq (Qr [Qc 12 0,Qz 13 false 12,Qk 14 .gtr 13 8,Qc 15 14,Qd 16 1 15 false,Qg 17 (.len true (.t 16)) 15 false,Qg 18 (.bin 
 .gtr (.t 17) (Ki 20000)) 15 false,Qo 19 15 18] (.cond (.t 19) (Qr [Q 20 (.mkI 49 (Ki 2)),Qx 6 (.k (.d (.str []))),Qa 7 20] .ret) .skip)) (.seq (Qr [Qc 21 0,Qz 22 false 21,Q 
 23 (.cp (Ki 0))] (.block 0 (.loop (Qr [Qb 24 .lss 23 22] (.seq (.cond (.t 24) .skip (.exit 0)) (.seq (.block 1 (Qr [Qc 25 23,Qa 8 25] (Qr [Qc 26 0,Qz 27 false 26,Qk 28 .sub 27 
 1,Qc 29 8,Qb 30 .sub 28 29,Qa 9 30] (.seq (Qr [Qc 31 2] (.cond (.t 31) (.reg [Qc 32 8,Qa 9 32]) .skip)) (Qr [Qc 34 0,Qc 35 9,Q 36 (.ia 1 (.t 34) (.t 35)),Ql 37 36,Qc 38 
 1,Qc 39 2,Qj 40 115 [37,38,39],Qc 33 40,Qe 41 0 33,Qe 42 1 33,Qa 10 41,Qa 11 42] (.seq (Qr [Qc 43 11,Q 44 (.eqN 0 true (.t 43))] (.cond (.t 44) (Qr [Qc 45 11,Qx 6 (.k 
 (.d (.str []))),Qa 7 45] .ret) .skip)) (.reg [Qc 46 10,Qa 1 46]))))))) (.reg [Qk 47 .add 23 1,Qc 23 47]))))))) (Qr [Qc 48 1,Qa 6 48,Qx 7 (.k (.d .nil))] .ret)))
def z2y:List LRes:=[.tmp 6,.tmp 7]
theorem z4g:q0n Tryz.prog 74 49 z2p z2y:=⟨_,_,Tryz.func74,rfl,by kernel_rfl,by kernel_rfl,rfl⟩
theorem j3S(names:List (List UInt8))(s:List UInt8):q0i Tryz.prog 74 [.list (q2S names),.str s,.bool true] (fun r=>r=resE (takF names s)):=by
 refine z4g.call rfl ?_;have hnl:=q5F names;have hI:((q2S names).length:Int)=(names.length:Int):=by rw[hnl]
 generalize hR:takF names s=R;unfold takF at hR;simp(maxSteps:=2000000)only[go_sem,↓reduceIte,z2p,z2y,hI];refine⟨fun h1=>⟨fun h2=>?_,fun h2=>?_⟩,fun h1=>?_⟩
 ·rw[if_pos (by omega)]at hR;subst hR;simp[resE,errD]
 ·rw[if_neg (by omega)]at hR;refine q0f (fun y:Nat×List UInt8=>⟨[(0,.d (.list (q2S names))),(1,.d (.str y.2)),(2,.d (.bool true)),(22,.d (.int .i64 names.length)),(23,.d (.int .i64 y.1))],[],[]⟩)
   (fun y=>y.1≤names.length∧y.2.length≤20000∧z2I (names.drop y.1) y.2=R) (fun y=>names.length-y.1) (0,s) ?_ ?_ ?_
  ·refine q0d ?_ trivial;simp(maxSteps:=2000000)only[go_sem,↓reduceIte,Sub,Zaa,Zab]
  ·exact⟨by simp,by simp only;omega,by simpa using hR⟩
  ·rintro⟨i,t⟩ ⟨hi,ht,hF⟩;simp only at hi ht hF;simp(maxSteps:=2000000)only[go_sem,↓reduceIte];refine⟨fun q1=>?_,fun q1=>?_⟩
   ·obtain⟨n,hn⟩:=get_some (l:=names) (i:=i) (by omega);rw[q9W hn]at hF;unfold z2I at hF;have hcall:=j3Y n t (by omega);have hol:=@j6I n t;have he:errD 0=.nil:=rfl;simp(maxSteps:=2000000)(disch:=omega)only[go_sem,↓reduceIte,hI,q0a,z1K,hn];refine q0c.of hcall ?_
    by_cases hz:(oneT n t).2=0
    ·rw[if_neg (by simp[hz])]at hF;rw[show resE (oneT n t)=.tup [.str (oneT n t).1,.nil] by simp only[resE,hz,he]];simp(maxSteps:=2000000)(disch:=omega)only[go_sem,↓reduceIte];refine⟨(i+1,(oneT n t).1),?_,⟨by simp only;omega,hol hz,hF⟩,by simp only;omega⟩;refine q0d ?_ trivial;simp(maxSteps:=2000000)only[go_sem,↓reduceIte,Sub,Zaa,Zab]
    ·rw[if_pos hz]at hF;subst hF;rw[show resE (oneT n t)=.tup [.str (oneT n t).1,.iface 49 (.int .i64 (oneT n t).2)] by simp only[resE,q0Q hz]];simp(maxSteps:=2000000)(disch:=omega)only[go_sem,↓reduceIte,resE,q0Q hz]
   ·rw[Zai (by omega)]at hF;subst hF;simp(maxSteps:=2000000)only[go_sem,↓reduceIte,resE,errD,z2I]
 ·rw[if_pos (by omega)]at hR;subst hR;simp[resE,errD]
def z0W:q0g:=
 Qr [Qx 4 (.k (.d (.str []))),Qx 5 (.k (.d .nil))] (Qr [Qc 6 0,Qc 7 1,⟨some 8,.call 74 [.t 6,.t 7,.k (.d (.bool true))],none⟩,Qe 9 0 8,Qe 10 1 8,Qa 4 9,Qa 5 10] .ret)
def z02:List LRes:=[.tmp 4,.tmp 5]
theorem z2X:q0n Tryz.prog 54 11 z0W z02:=⟨_,_,Tryz.func54,rfl,by kernel_rfl,by kernel_rfl,rfl⟩
theorem j5k(names:List (List UInt8))(s:List UInt8):q0i Tryz.prog 54 [.list (q2S names),.str s] (fun r=>r=resE (takF names s)):=by
 refine z2X.call rfl ?_;simp(maxSteps:=2000000)only[go_sem,↓reduceIte,z0W,z02];refine q0c.of (j3S names s) ?_;simp(maxSteps:=2000000)only[go_sem,↓reduceIte,resE]
def fixE(p:List UInt8×Nat):List UInt8×Nat:=if p.2=0 then p else([],p.2)
def resN(p:List UInt8×Nat):Res:=.tup [.str p.1,.int .i64 p.2]
theorem j5A(l:List Nat)(d j:Nat)(h:j≤l.length):accG (l++[d]) j=accG l j:=by
 induction j with
 |zero=>rfl
 |succ j ih=>
  simp only[accG];rw[ih (by omega)];congr 1
  rw[List.getD_eq_getElem?_getD,List.getD_eq_getElem?_getD,Zaj (by omega)]
theorem j3b(l:List Nat)(d:Nat):accG (l++[d]) (l.length+1)=85*accG l l.length+d:=by
 simp only[accG];rw[j5A l d l.length (Zak _)];congr 1
 rw[List.getD_eq_getElem?_getD,Zam (Zak _)];simp
theorem j5B(l:List Nat)(j:Nat)(h:l.length≤j):accG l (j+1)=85*accG l j+84:=by
 simp only[accG];rw[List.getD_eq_getElem?_getD,Zbm h];rfl
def q3W:q0g:=
 Qr [Qx 2 (.k (.d (.str []))),Qx 3 (Ki 0)] (Qr [⟨some 4,.nils 5 1,none⟩] (Qr [Qx 5 (Ki 0)] (Qr [Qx 6 (Ki 0)] (.seq (Qr [Qx 7 (Ki 0)] (.block 0 (.loop (.seq (Qr [Qc 11 7,Qc 12 0, 
 Qz 13 true 12,Qb 14 .lss 11 13] (.cond (.t 14) .skip (.exit 0))) (.seq (.block 1 (Qr [Qc 17 0,Qc 18 7,Q 19 (.idxS (.t 17) (.t 18)),Qa 8 19] (.seq (Qr [Qc 20 8,Qj 21 68 [20]] 
 (.cond (.t 21) (.exit 1) .skip)) (.seq (Qr [Qc 22 8,Q 23 (.bin .eql (.t 22) (Kb 126))] (.cond (.t 23) (.seq (Qr [Qc 24 7,Qk 25 .add 24 1,Qc 26 0,Qz 27 true 26,Qb 28 .geq 25 
 27,Qc 29 28,Qd 30 0 29 false,Qd 31 7 29 false,Qg 32 (.bin .add (.t 31) (Ki 1)) 29 false,Qg 33 (.idxS (.t 30) (.t 32)) 29 false,Qg 34 (.bin .neq (.t 33) (Kb 62)) 29 false, 
 Qo 35 29 34] (.cond (.t 35) (Qr [Qx 2 (.k (.d (.str []))),Qx 3 (Ki 4)] .ret) .skip)) (.seq (Qr [Qc 36 6,Qk 37 .eql 36 0] (.cond (.t 37) (Qr [Qc 38 4,Q 39 (.b2s (.t 38)),Qa 2 
 39,Qx 3 (Ki 0)] .ret) .skip)) (.seq (Qr [Qc 40 6,Qk 41 .eql 40 1] (.cond (.t 41) (Qr [Qx 2 (.k (.d (.str []))),Qx 3 (Ki 4)] .ret) .skip)) (.seq (Qr [Qc 42 6,Qa 9 42] (.block 
 2 (.loop (.seq (Qr [Qc 43 9,Qk 44 .lss 43 5] (.cond (.t 44) .skip (.exit 2))) (.seq (.block 3 (.reg [Qc 47 5,Q 48 (.bin .mul (Ki 85) (.t 47)),Qk 49 .add 48 84,Qa 5 49])) 
 (.reg [Qc 45 9,Qk 46 .add 45 1,Qa 9 46])))))) (.seq (Qr [Qc 50 5,Qk 51 .gtr 50 4294967295] (.cond (.t 51) (Qr [Qx 2 (.k (.d (.str []))),Qx 3 (Ki 4)] .ret) .skip)) (Qr [Qc 52 
 5,Qk 53 .quo 52 16777216,Q 54 (.cvI .u8 (.t 53)),Qc 55 5,Qk 56 .quo 55 65536,Qk 57 .rem 56 256,Q 58 (.cvI .u8 (.t 57)),Qc 59 5,Qk 60 .quo 59 256,Qk 61 .rem 60 256,Q 62 
 (.cvI .u8 (.t 61)),Qc 63 5,Qk 64 .rem 63 256,Q 65 (.cvI .u8 (.t 64)),⟨some 66,.bsl 5 1 [.t 54,.t 58,.t 62,.t 65],none⟩,Qa 10 66] (Qr [Qc 67 4,Qc 68 10,Qc 69 6,Qk 70 
 .sub 69 1,Q 71 (.sub 1 (.t 68) none (some (.t 70))),⟨some 72,.app 5 1 1 false (.t 67) (.t 71),none⟩,Q 73 (.b2s (.t 72)),Qa 2 73,Qx 3 (Ki 0)] .ret))))))) .skip)) (.seq (Qr 
 [Qc 74 8,Q 75 (.bin .eql (.t 74) (Kb 122)),Qc 76 75,Qd 77 6 76 true,Qg 78 (.bin .eql (.t 77) (Ki 0)) 76 true,Qp 79 76 78] (.cond (.t 79) (Qr [Qc 80 4,⟨some 81,.bsl 5 1 [.k 
 (.d (.int .u8 0)),.k (.d (.int .u8 0)),.k (.d (.int .u8 0)),.k (.d (.int .u8 0))],none⟩,⟨some 82,.app 5 1 1 false (.t 80) (.t 81),none⟩,Qa 4 82] (.exit 1)) .skip)) (.seq 
 (Qr [Qc 83 8,Q 84 (.bin .lss (.t 83) (Kb 33)),Qc 85 84,Qd 86 8 85 false,Qg 87 (.bin .gtr (.t 86) (Kb 117)) 85 false,Qo 88 85 87] (.cond (.t 88) (Qr [Qx 2 (.k (.d (.str 
 []))),Qx 3 (Ki 4)] .ret) .skip)) (Qr [Qc 89 5,Q 90 (.bin .mul (Ki 85) (.t 89)),Qc 91 8,Q 92 (.cvI .i64 (.t 91)),Qb 93 .add 90 92,Qk 94 .sub 93 33,Qa 5 94] (Qr [Qc 95 6,Qk 
 96 .add 95 1,Qa 6 96] (Qr [Qc 97 6,Qk 98 .eql 97 5] (.cond (.t 98) (.seq (Qr [Qc 99 5,Qk 100 .gtr 99 4294967295] (.cond (.t 100) (Qr [Qx 2 (.k (.d (.str []))),Qx 3 (Ki 4)] 
 .ret) .skip)) (Qr [Qc 101 4,Qc 102 5,Qk 103 .quo 102 16777216,Q 104 (.cvI .u8 (.t 103)),Qc 105 5,Qk 106 .quo 105 65536,Qk 107 .rem 106 256,Q 108 (.cvI .u8 (.t 107)),Qc 
 109 5,Qk 110 .quo 109 256,Qk 111 .rem 110 256,Q 112 (.cvI .u8 (.t 111)),Qc 113 5,Qk 114 .rem 113 256,Q 115 (.cvI .u8 (.t 114)),⟨some 116,.bsl 5 1 [.t 104,.t 108,.t 112, 
 .t 115],none⟩,⟨some 117,.app 5 1 1 false (.t 101) (.t 116),none⟩,Qa 4 117] (Qr [Qx 5 (Ki 0)] (.reg [Qx 6 (Ki 0)])))) .skip)))))))))) (.reg [Qc 15 7,Qk 16 .add 15 1,Qa 7 
 16])))))) (Qr [Qx 2 (.k (.d (.str []))),Qx 3 (Ki 5)] .ret)))))
def q33:List LRes:=[.tmp 2,.tmp 3]
theorem q6B:q0n Tryz.prog 116 118 q3W q33:=⟨_,_,Tryz.func116,rfl,by kernel_rfl,by kernel_rfl,rfl⟩
theorem z9s(s:List UInt8)(hs:s.length≤20000):q0i Tryz.prog 116 [.str s] (fun r=>r=resN (fixE (q1D s [] []))):=by
 refine q6B.call rfl ?_;generalize hR:q1D s [] []=R;simp(maxSteps:=2000000)only[go_sem,↓reduceIte,q3W,q33];have hd1:∀m:Nat,Int.tdiv (m:Int) 16777216=((m / 16777216:Nat):Int):=fun m=>rfl
 have hd2:∀m:Nat,Int.tdiv (m:Int) 65536=((m / 65536:Nat):Int):=fun m=>rfl
 have hd3:∀m:Nat,Int.tdiv (m:Int) 256=((m / 256:Nat):Int):=fun m=>rfl
 have hd4:∀m:Nat,Int.tmod (m:Int) 256=((m % 256:Nat):Int):=fun m=>rfl
 have hfour:∀N:Nat,N<4294967296→[D.int IntKind.u8 ((N / 16777216:Nat):Int),D.int IntKind.u8 ((N / 65536 % 256:Nat):Int),D.int IntKind.u8 ((N / 256 % 256:Nat):Int),D.int IntKind.u8 ((N % 256:Nat):Int)]=q0v (z0z N):=fun N hN=>by
  simp only[z0z,q0L,q06];rw[q27 (by omega),q27 (by omega),q27 (by omega),q27 (by omega)]
 refine q0f (fun y:Nat×List Nat×List UInt8=>⟨[(0,.d (.str s)),(4,.own (.t 4) 5 1 (q0v y.2.2)),(5,.d (.int .i64 (accG y.2.1 y.2.1.length))),(6,.d (.int .i64 y.2.1.length)),(7,.d (.int .i64 y.1))],[],[]⟩)
  (fun y=>y.1≤s.length∧y.2.1.length≤4∧(∀d∈y.2.1,d<85)∧y.2.2.length≤4*y.1∧q1D (s.drop y.1) y.2.1 y.2.2=R) (fun y=>s.length-y.1) (0,[],[]) ?_ ?_ ?_
 ·refine q0d ?_ trivial;simp(maxSteps:=2000000)only[go_sem,↓reduceIte,Sub,Zaa,Zab,q0v,accG]
 ·exact⟨by simp,by simp,by simp,by simp,by simpa using hR⟩
 ·rintro⟨i,l,b⟩ ⟨hi,hl,h85,hb,hF⟩;simp only at hi hl h85 hb hF;have hblen:=q0o b;have hnil:l=[]↔l.length=0:=List.length_eq_zero_iff.symm;simp(maxSteps:=2000000)only[go_sem,↓reduceIte];refine⟨fun hlt=>?_,fun hge=>?_⟩
  ·obtain⟨c,hc⟩:=get_some (l:=s) (i:=i) (by omega);have hc8:=q1Q c;rw[drop_cons hc]at hF;unfold q1D at hF;rw[q0a,hc];simp(maxSteps:=2000000)(disch:=omega)only[go_sem,↓reduceIte];refine q0c.of (q8o _) ?_
   by_cases e2:q4m c.toNat=true
   ·have e1:c.toNat≠126:=fun h=>by rw[h]at e2;exact absurd e2 (by decide)
    rw[if_neg e1,if_pos e2]at hF;simp(maxSteps:=2000000)(disch:=omega)only[go_sem,↓reduceIte,e2];refine⟨(i+1,l,b),?_,⟨by simp only;omega,hl,h85,by simp only;omega,hF⟩,by simp only;omega⟩;refine q0d ?_ trivial;simp(maxSteps:=2000000)only[go_sem,↓reduceIte,Sub,Zaa,Zab]
   ·have e2':q4m c.toNat=false:=by simpa using e2
    simp(maxSteps:=2000000)(disch:=omega)only[go_sem,↓reduceIte,e2'];refine⟨fun e1=>?_,fun e1=>?_⟩
    ·rw[if_pos (by omega)]at hF;refine⟨fun q1=>?_,fun q1=>?_⟩
     ·obtain⟨d,hd⟩:=get_some (l:=s) (i:=i+1) (by omega);rw[drop_cons hd]at hF;simp only[List.head?_cons,ne_eq,Zas]at hF;simp(maxSteps:=2000000)only[go_sem,↓reduceIte,q3z,hd];refine⟨fun q2=>?_,fun q2=>?_⟩
      ·have hdd:¬d=62:=fun h=>q2 (by rw[h];rfl)
       rw[if_pos hdd]at hF;subst hF;simp[resN,fixE]
      ·have hdd:d=62:=by
        have h62:(62:UInt8).toNat=62:=rfl;apply UInt8.toNat_inj.1;omega
       rw[if_neg (fun h=>h hdd)]at hF;refine⟨fun q3=>?_,fun q3=>⟨fun q4=>?_,fun q4=>?_⟩⟩
       ·rw[if_pos (hnil.2 (by omega))]at hF;subst hF;simp(maxSteps:=2000000)only[go_sem,↓reduceIte,q0q,resN,fixE]
       ·rw[if_neg (fun h=>by rw[hnil]at h;omega)]at hF;have hg:q2R l=([],4):=by unfold q2R;rw[if_pos (by omega)]
        rw[hg]at hF;subst hF;simp[resN,fixE]
       ·rw[if_neg (fun h=>by rw[hnil]at h;omega)]at hF;refine q0f (fun j:Nat=>⟨[(0,.d (.str s)),(4,.own (.t 4) 5 1 (q0v b)),(5,.d (.int .i64 (accG l j))),(6,.d (.int .i64 l.length)),(9,.d (.int .i64 j))],[],[]⟩)
         (fun j=>l.length≤j∧j≤5) (fun j=>5-j) l.length ?_ ?_ ?_
        ·refine q0d ?_ trivial;simp(maxSteps:=2000000)only[go_sem,↓reduceIte,Sub,Zaa,Zab]
        ·exact⟨Zak _,by omega⟩
        ·rintro j ⟨hj1,hj2⟩;simp(maxSteps:=2000000)only[go_sem,↓reduceIte];refine⟨fun q5=>?_,fun q5=>?_⟩
         ·have hlt4:accG l j<85 ^ 4:=Zcf (z3M l h85 j) (Zct (by decide) (by omega));have hpd:=j5B l j hj1;simp(disch:=omega)only[IntWalk.i64_in,IntWalk.u8_in];refine⟨j+1,?_,⟨by omega,by omega⟩,by omega⟩;refine q0d ?_ trivial;simp(maxSteps:=2000000)only[go_sem,↓reduceIte,Sub,Zaa,Zab,hpd]
         ·have hj5:j=5:=by omega
          subst hj5;have hlt5:=z3M l h85 5;have hgd:q2R l=if 4294967296≤accG l 5 then([],4)else((z0z (accG l 5)).take (l.length-1),0):=by unfold q2R;rw[if_neg (by omega)]
          rw[hgd]at hF;generalize accG l 5=N at hF hlt5 ⊢;refine⟨fun q6=>?_,fun q6=>?_⟩
          ·rw[if_pos (by omega)]at hF;subst hF;simp[resN,fixE]
          ·rw[if_neg (by omega)]at hF;simp only at hF;subst hF;have hcut:cutI (q0v (z0z N)) 0 ((l.length:Int)-1)=q0v ((z0z N).take (l.length-1)):=by rw[z2K];congr 2;omega
           have hfl:((q0v (z0z N)).length:Int)=4:=rfl;have htl:((z0z N).take (l.length-1)).length≤4:=by rw[Zaw];omega
           have w1:IntKind.i64.wrap ((l.length:Int)-1)=(l.length:Int)-1:=by rw[IntWalk.i64_in _ (by omega)]
           simp(maxSteps:=2000000)(disch:=omega)only[go_sem,↓reduceIte,hd1,hd2,hd3,hd4];rw[hfour N (by omega)];simp(maxSteps:=2000000)(disch:=omega)only[go_sem,↓reduceIte,hcut,q81,←q0j,q0q,resN,fixE];exact⟨⟨by omega,by omega⟩,by rw[q0o,q0o];omega⟩
     ·rw[Zai (by omega)]at hF;rw[if_pos (by simp)]at hF;subst hF;simp[resN,fixE]
    ·rw[if_neg (by omega),if_neg e2]at hF
     by_cases e3:c.toNat=122∧l=[]
     ·rw[if_pos e3]at hF;have e3b:=hnil.1 e3.2;refine⟨fun q1=>⟨fun q2=>⟨by omega,(i+1,l,b++[0,0,0,0]),?_,⟨by simp only;omega,hl,h85,by simp only[Zad,Zae,Zag];omega,hF⟩,by simp only;omega⟩,fun q2=>absurd e3b (by omega)⟩,fun q1=>absurd e3.1 (by omega)⟩;refine q0d ?_ trivial;simp(maxSteps:=2000000)only[go_sem,↓reduceIte,Sub,Zaa,Zab,q0j];rfl
     ·rw[if_neg e3]at hF;rw[hnil]at e3;have key:¬ ↑c.toNat=(122:Int)∨¬(l.length:Int)=0:=by omega
      refine⟨fun a1=>⟨fun a2=>absurd a2 (by omega),fun a2=>?_⟩,fun a1=>?_⟩;all_goals
       have hacc:=j3b l (c.toNat-33);have hlt4:accG l l.length<85 ^ 4:=Zcf (z3M l h85 l.length) (Zct (by decide) (by omega));simp(disch:=omega)only[IntWalk.i64_in,IntWalk.u8_in];refine⟨fun b1=>⟨fun b2=>?_,fun b2=>⟨fun b3=>?_,fun b3=>?_⟩⟩,fun b1=>?_⟩
       ·rw[if_pos (by omega)]at hF;subst hF;simp[resN,fixE]
       ·rw[if_neg (by omega),if_pos (by omega)]at hF;have hlen:(l++[c.toNat-33]).length=5:=by simp;omega
        have hval:85*((accG l l.length:Nat):Int)+(c.toNat:Int)-33=((accG (l++[c.toNat-33]) 5:Nat):Int):=by
         have e5:l.length+1=5:=by omega
         rw[e5]at hacc;rw[hacc];omega
        simp only[hval];have hgd:q2R (l++[c.toNat-33])=if 4294967296≤accG (l++[c.toNat-33]) 5 then([],4)else(z0z (accG (l++[c.toNat-33]) 5),0):=by
         unfold q2R;rw[if_neg (by omega),hlen];rfl
        rw[hgd]at hF;clear hgd hval hacc;generalize accG (l++[c.toNat-33]) 5=N at hF ⊢;refine⟨fun q6=>?_,fun q6=>?_⟩
        ·rw[if_pos (show 4294967296≤N by omega),if_pos (by decide)]at hF;subst hF;simp[resN,fixE]
        ·rw[if_neg (show ¬4294967296≤N by omega),if_neg (fun h=>h rfl)]at hF;simp(disch:=omega)only[hd1,hd2,hd3,hd4,IntWalk.i64_in,IntWalk.u8_in];rw[hfour N (by omega)];refine⟨by omega,(i+1,[],b++z0z N),?_,⟨by simp only;omega,by simp,by simp,by simp only[Zad];simp[z0z];omega,by simp only;rw[←hF]⟩,by simp only;omega⟩;refine q0d ?_ trivial;simp(maxSteps:=2000000)only[go_sem,↓reduceIte,Sub,Zaa,Zab,q0j,accG]
       ·rw[if_neg (by omega),if_neg (by omega)]at hF;have h85':∀d∈l++[c.toNat-33],d<85:=fun d hd=>by
         rcases Zaz.1 hd with h|h
         ·exact h85 d h
         ·simp at h;omega
        have hlen:(l++[c.toNat-33]).length=l.length+1:=by simp
        have hval:((accG (l++[c.toNat-33]) (l.length+1):Nat):Int)=85*((accG l l.length:Nat):Int)+(c.toNat:Int)-33:=by rw[hacc];omega
        refine⟨(i+1,l++[c.toNat-33],b),?_,⟨by simp only;omega,by simp only;omega,h85',by simp only;omega,hF⟩,by simp only;omega⟩;refine q0d ?_ trivial;simp(maxSteps:=2000000)only[go_sem,↓reduceIte,Sub,Zaa,Zab,hlen,hval]
       ·rw[if_pos (by omega)]at hF;subst hF;simp[resN,fixE]
  ·rw[Zai (by omega)]at hF;unfold q1D at hF;subst hF;simp(maxSteps:=2000000)only[go_sem,↓reduceIte,resN,fixE]
theorem j20(s:List UInt8)(h:Int)(b:List UInt8):fixE (q1i s h b)=q1i s h b:=by
 induction s generalizing h b with
 |nil=>rfl
 |cons c r ih=>
  unfold q1i
  (repeat' split)<;>first|exact ih _ _|rfl
def q1T:q0g:=
 Qr [Qx 4 (.k (.d (.str []))),Qx 5 (Ki 0)] (.seq (Qr [Qc 14 0] (.block 0 (Qr [Q 16 (.bin .eql (.t 14) (.k (.d (.str [65,83,67,73,73,72,101,120,68,101,99,111,100, 
 101])))),Qa 15 16] (.cond (.t 15) (Qr [Qc 18 1,⟨some 19,.call 98 [.t 18,.k (.d (.int .i64 0))],none⟩,Qc 17 19,Qe 20 0 17,Qe 21 1 17,Qe 22 2 17,Qa 6 20,Qa 7 21,Qa 8 
 22] (Qr [Qc 23 6,Qc 24 8,Qa 4 23,Qa 5 24] .ret)) (Qr [Q 26 (.bin .eql (.t 14) (.k (.d (.str [65,83,67,73,73,56,53,68,101,99,111,100,101])))),Qa 25 26] (.cond (.t 
 25) (Qr [Qc 27 1,Qj 28 116 [27],Qe 29 0 28,Qe 30 1 28,Qa 4 29,Qa 5 30] .ret) .skip)))))) (Qr [Qx 9 (.k (.d (.str [])))] (Qr [Qx 10 (Ki 0)] (.seq (.block 1 (.loop (.seq (Qr 
 [Qc 31 10,Qc 32 1,Qz 33 true 32,Qb 34 .lss 31 33] (.cond (.t 34) .skip (.exit 1))) (.block 2 (Qr [Qc 35 1,Qc 36 10,Q 37 (.idxS (.t 35) (.t 36)),Q 38 (.cvI .i64 (.t 37)),Qa 
 11 38] (Qr [Qc 39 10,Qk 40 .add 39 1,Qa 10 40] (.seq (Qr [Qc 41 11,Qk 42 .eql 41 128] (.cond (.t 42) (Qr [Qc 43 9,Qa 4 43,Qx 5 (Ki 0)] .ret) .skip)) (.seq (Qr [Qc 44 11,Qk 
 45 .lss 44 128] (.cond (.t 45) (.seq (Qr [Qc 46 10,Qc 47 11,Qb 48 .add 46 47,Qk 49 .add 48 1,Qc 50 1,Qz 51 true 50,Qb 52 .gtr 49 51] (.cond (.t 52) (Qr [Qx 4 (.k (.d (.str 
 []))),Qx 5 (Ki 5)] .ret) .skip)) (Qr [Qc 53 9,Qc 54 1,Qc 55 10,Qc 56 10,Qc 57 11,Qb 58 .add 56 57,Qk 59 .add 58 1,Q 60 (.subS (.t 54) (some (.t 55)) (some (.t 59))),Qb 
 61 .add 53 60,Qa 9 61] (.reg [Qc 62 10,Qc 63 11,Qb 64 .add 62 63,Qk 65 .add 64 1,Qa 10 65]))) (.seq (Qr [Qc 66 10,Qc 67 1,Qz 68 true 67,Qb 69 .eql 66 68] (.cond (.t 69) 
 (Qr [Qx 4 (.k (.d (.str []))),Qx 5 (Ki 5)] .ret) .skip)) (Qr [⟨some 12,.nils 5 1,none⟩] (.seq (Qr [Qx 13 (Ki 0)] (.block 3 (.loop (.seq (Qr [Qc 70 13,Qc 71 11,Q 72 (.bin 
 .sub (Ki 257) (.t 71)),Qb 73 .lss 70 72] (.cond (.t 73) .skip (.exit 3))) (.seq (.block 4 (.reg [Qc 76 12,Qc 77 1,Qc 78 10,Q 79 (.idxS (.t 77) (.t 78)),⟨some 80,.bsl 5 1 
 [.t 79],none⟩,⟨some 81,.app 5 1 1 false (.t 76) (.t 80),none⟩,Qa 12 81])) (.reg [Qc 74 13,Qk 75 .add 74 1,Qa 13 75])))))) (Qr [Qc 82 9,Qc 83 12,Q 84 (.b2s (.t 83)),Qb 
 85 .add 82 84,Qa 9 85] (.reg [Qc 86 10,Qk 87 .add 86 1,Qa 10 87]))))))) (Qr [Qc 88 9,Qz 89 true 88,Qk 90 .gtr 89 20000] (.cond (.t 90) (Qr [Qx 4 (.k (.d (.str []))),Qx 5 
 (Ki 2)] .ret) .skip)))))))))) (Qr [Qx 4 (.k (.d (.str []))),Qx 5 (Ki 5)] .ret)))))
def q1W:List LRes:=[.tmp 4,.tmp 5]
theorem q7j:q0n Tryz.prog 76 91 q1T q1W:=⟨_,_,Tryz.func76,rfl,by kernel_rfl,by kernel_rfl,rfl⟩
theorem j2X(n s:List UInt8)(hs:s.length≤20000):q0i Tryz.prog 76 [.str n,.str s] (fun r=>r=resN (fixE (q4w n s))):=by
 refine q7j.call rfl ?_
 by_cases h1:n=nHex
 ·have e1:(n=[65,83,67,73,73,72,101,120,68,101,99,111,100,101])=True:=eq_true h1;have hX:q4w n s=q1i s (-1) []:=if_pos h1;rw[hX,j20];have h0:=z4M s 0 (by omega) (by omega);rw[List.drop_zero]at h0;simp(maxSteps:=2000000)only[go_sem,↓reduceIte,q1T,q1W,e1];refine q0c.of h0 ?_;simp(maxSteps:=2000000)only[go_sem,↓reduceIte,resN]
 ·have e1:(n=[65,83,67,73,73,72,101,120,68,101,99,111,100,101])=False:=eq_false h1
  by_cases h2:n=n85
  ·have e2:(n=[65,83,67,73,73,56,53,68,101,99,111,100,101])=True:=eq_true h2;have hX:q4w n s=q1D s [] []:=by unfold q4w;rw[if_neg h1,if_pos h2]
   rw[hX];simp(maxSteps:=2000000)only[go_sem,↓reduceIte,q1T,q1W,e1,e2];refine q0c.of (z9s s hs) ?_;simp(maxSteps:=2000000)only[go_sem,↓reduceIte,resN]
  ·have e2:(n=[65,83,67,73,73,56,53,68,101,99,111,100,101])=False:=eq_false h2;have hX:q4w n s=q4x s []:=by unfold q4w;rw[if_neg h1,if_neg h2]
   rw[hX];generalize hR:q4x s []=R;simp(maxSteps:=2000000)only[go_sem,↓reduceIte,q1T,q1W,e1,e2];refine q0f (fun y:Nat×List UInt8=>⟨[(1,.d (.str s)),(9,.d (.str y.2)),(10,.d (.int .i64 y.1))],[],[]⟩)
    (fun y=>y.1≤s.length∧y.2.length≤20000∧q4x (s.drop y.1) y.2=R) (fun y=>s.length-y.1) (0,[]) ?_ ?_ ?_
   ·refine q0d ?_ trivial;simp(maxSteps:=2000000)only[go_sem,↓reduceIte,Sub,Zaa,Zab]
   ·exact⟨by simp,by simp,by simpa using hR⟩
   ·rintro⟨i,b⟩ ⟨hi,hb,hF⟩;simp only at hi hb hF;simp(maxSteps:=2000000)only[go_sem,↓reduceIte];refine⟨fun hlt=>?_,fun hge=>?_⟩
    ·obtain⟨m,hm⟩:=get_some (l:=s) (i:=i) (by omega);have hm8:=q1Q m;rw[drop_cons hm]at hF;unfold q4x at hF;rw[q0a,hm];simp(maxSteps:=2000000)(disch:=omega)only[go_sem,↓reduceIte];refine⟨fun e1=>?_,fun e1=>⟨fun e2=>⟨fun e3=>?_,fun e3=>?_⟩,fun e2=>⟨fun e3=>?_,fun e3=>?_⟩⟩⟩
     ·rw[if_pos (by omega)]at hF;subst hF;simp[resN,fixE]
     ·rw[if_neg (by omega),if_pos (by omega),if_pos (by rw[Zau];omega)]at hF;subst hF;simp[resN,fixE]
     ·rw[if_neg (by omega),if_pos (by omega),if_neg (by rw[Zau];omega)]at hF;have hcut:cutI s ((i:Int)+1) ((i:Int)+1+m.toNat+1)=(s.drop (i+1)).take (m.toNat+1):=by
       have:cutI s ((i:Int)+1) ((i:Int)+1+m.toNat+1)=cutI s ((i+1:Nat):Int) ((i+1+m.toNat+1:Nat):Int):=by congr 1
       rw[this,q4n,Zde];congr 1;omega
      rw[hcut];generalize ht:(s.drop (i+1)).take (m.toNat+1)=t at hF ⊢;have htl:t.length=m.toNat+1:=by rw[←ht];simp;omega
      rw[List.drop_drop]at hF;rw[Zad]at hF;simp only[Zad];refine⟨⟨by omega,by omega,by omega⟩,by omega,fun q2=>?_,fun q2=>⟨(i+1+(m.toNat+1),b++t),?_,⟨by simp only;omega,by simp only[Zad,htl];omega,?_⟩,by simp only;omega⟩⟩
      ·rw[if_pos (by omega)]at hF;subst hF;simp[resN,fixE]
      ·refine q0d ?_ trivial;simp(maxSteps:=2000000)only[go_sem,↓reduceIte,Sub,Zaa,Zab];congr 2
      ·rw[if_neg (by omega)]at hF;exact hF
     ·have h0:s.drop (i+1)=[]:=Zai (by omega);rw[if_neg (by omega),if_neg (by omega),h0]at hF;simp only at hF;subst hF;simp[resN,fixE]
     ·obtain⟨c,hc⟩:=get_some (l:=s) (i:=i+1) (by omega);have hc8:=q1Q c;rw[if_neg (by omega),if_neg (by omega),drop_cons hc]at hF;try dsimp only at hF
      refine q0f (fun k:Nat=>⟨[(1,.d (.str s)),(9,.d (.str b)),(10,.d (.int .i64 (i+1:Nat))),(11,.d (.int .i64 m.toNat)),(12,.own (.t 12) 5 1 (q0v (List.replicate k c))),(13,.d (.int .i64 k))],[],[]⟩)
       (fun k=>k≤257-m.toNat) (fun k=>257-m.toNat-k) 0 ?_ ?_ ?_
      ·refine q0d ?_ trivial;simp(maxSteps:=2000000)only[go_sem,↓reduceIte,Sub,Zaa,Zab,List.replicate_zero,q06]
      ·omega
      ·intro k hk;have hbl:=q0o (List.replicate k c);rw[Zdb]at hbl;simp(maxSteps:=2000000)(disch:=omega)only[go_sem,↓reduceIte,q3z,hc,Zaa];refine⟨fun q1=>⟨by omega,k+1,?_,by omega,by omega⟩,fun q1=>?_⟩
       ·refine q0d ?_ trivial;simp(maxSteps:=2000000)only[go_sem,↓reduceIte,Sub,Zaa,Zab,List.replicate_succ',q0j,q0L,q06]
       ·have hk:k=257-m.toNat:=by omega
        rw[←hk]at hF;have hrl:(b++List.replicate k c).length=b.length+k:=by simp
        simp(maxSteps:=2000000)(disch:=omega)only[go_sem,↓reduceIte,q0q];rw[Zad]at hF;simp only[Zad,Zdb]at hF ⊢;refine⟨by omega,fun q2=>?_,fun q2=>⟨(i+1+1,b++List.replicate k c),?_,⟨by simp only;omega,by simp only[Zad,Zdb];omega,?_⟩,by simp only;omega⟩⟩
        ·rw[if_pos (by omega)]at hF;subst hF;simp[resN,fixE]
        ·refine q0d ?_ trivial;simp(maxSteps:=2000000)only[go_sem,↓reduceIte,Sub,Zaa,Zab]
        ·rw[if_neg (by omega)]at hF;exact hF
    ·rw[Zai (by omega)]at hF;unfold q4x at hF;subst hF;simp(maxSteps:=2000000)only[go_sem,↓reduceIte,resN,fixE]
def q4L:q0g:=
 Qr [Qx 2 KF] (Qr [Qc 3 0,Q 4 (.bin .eql (.t 3) (.k (.d (.str [65,83,67,73,73,72,101,120,68,101,99,111,100,101])))),Qc 5 4,Qd 6 0 5 false,Qg 7 (.bin .eql (.t 6) (.k 
 (.d (.str [65,83,67,73,73,56,53,68,101,99,111,100,101])))) 5 false,Qo 8 5 7,Qc 9 8,Qd 10 0 9 false,Qg 11 (.bin .eql (.t 10) (.k (.d (.str [82,117,110,76,101, 
 110,103,116,104,68,101,99,111,100,101])))) 9 false,Qo 12 9 11,Qa 2 12] .ret)
def q40:List LRes:=[.tmp 2]
theorem q7i:q0n Tryz.prog 75 13 q4L q40:=⟨_,_,Tryz.func75,rfl,by kernel_rfl,by kernel_rfl,rfl⟩
theorem j0B(n:List UInt8):q0i Tryz.prog 75 [.str n] (fun r=>r=.one (.bool (known n))):=by
 refine q7i.call rfl ?_;simp(maxSteps:=2000000)only[go_sem,↓reduceIte,q4L,q40];unfold known nHex n85 nRun;simp +contextual
theorem j65{p:List UInt8}(h:p.length≤20000):z1F (p,0)=(p,0):=by unfold z1F;rw[if_neg (by simp),if_neg (by simp only;omega)]
theorem j49{p:List UInt8}(h:20000<p.length):z1F (p,0)=([],2):=by unfold z1F;rw[if_neg (by simp),if_pos (by simp only;omega)]
theorem j5a{p:List UInt8}{e:Nat}(h:e≠0):z1F (p,e)=([],e):=by unfold z1F;rw[if_pos h]
def q3S:q0g:=
 Qr [Qx 4 (.k (.d (.str []))),Qx 5 (Ki 0)] (.seq (Qr [Qc 10 0,Qz 11 false 10,Qk 12 .gtr 11 8,Qc 13 12,Qd 14 1 13 false,Qg 15 (.len true (.t 14)) 13 false,Qg 16 (.bin .gtr (.t 
 15) (Ki 20000)) 13 false,Qo 17 13 16] (.cond (.t 17) (Qr [Qx 4 (.k (.d (.str []))),Qx 5 (Ki 2)] .ret) .skip)) (.seq (Qr [Qx 6 (Ki 0)] (.block 0 (.loop (.seq (Qr [Qc 18 6,Qc 19 
 0,Qz 20 false 19,Qb 21 .lss 18 20] (.cond (.t 21) .skip (.exit 0))) (.seq (.block 1 (Qr [Qc 24 0,Qc 25 6,Q 26 (.ia 1 (.t 24) (.t 25)),Ql 27 26,Qj 28 75 [27],Qa 7 28] (.seq 
 (Qr [Qc 29 7,Qh 30 29] (.cond (.t 30) (Qr [Qx 4 (.k (.d (.str []))),Qx 5 (Ki 9)] .ret) .skip)) (Qr [Qc 32 0,Qc 33 6,Q 34 (.ia 1 (.t 32) (.t 33)),Ql 35 34,Qc 36 1,Qj 37 76 
 [35,36],Qc 31 37,Qe 38 0 31,Qe 39 1 31,Qa 8 38,Qa 9 39] (.seq (Qr [Qc 40 9,Qk 41 .eql 40 0,Qc 42 41,Qd 43 8 42 true,Qg 44 (.len true (.t 43)) 42 true,Qg 45 (.bin .gtr 
 (.t 44) (Ki 20000)) 42 true,Qp 46 42 45] (.cond (.t 46) (.reg [Qx 9 (Ki 2)]) .skip)) (.seq (Qr [Qc 47 9,Qk 48 .gtr 47 0] (.cond (.t 48) (Qr [Qc 49 9,Qx 4 (.k (.d (.str []))), 
 Qa 5 49] .ret) .skip)) (.reg [Qc 50 8,Qa 1 50]))))))) (.reg [Qc 22 6,Qk 23 .add 22 1,Qa 6 23])))))) (Qr [Qc 51 1,Qa 4 51,Qx 5 (Ki 0)] .ret)))
def q3Z:List LRes:=[.tmp 4,.tmp 5]
theorem q6w:q0n Tryz.prog 55 52 q3S q3Z:=⟨_,_,Tryz.func55,rfl,by kernel_rfl,by kernel_rfl,rfl⟩
theorem z9q(names:List (List UInt8))(s:List UInt8):q0i Tryz.prog 55 [.list (q2S names),.str s] (fun r=>r=resN (takF names s)):=by
 refine q6w.call rfl ?_;have hnl:=q5F names;have hI:((q2S names).length:Int)=(names.length:Int):=by rw[hnl]
 generalize hR:takF names s=R;unfold takF at hR;simp(maxSteps:=2000000)only[go_sem,↓reduceIte,q3S,q3Z,hI];refine⟨fun h1=>⟨fun h2=>?_,fun h2=>?_⟩,fun h1=>?_⟩
 ·rw[if_pos (by omega)]at hR;subst hR;simp[resN]
 ·rw[if_neg (by omega)]at hR;refine q0f (fun y:Nat×List UInt8=>⟨[(0,.d (.list (q2S names))),(1,.d (.str y.2)),(6,.d (.int .i64 y.1))],[],[]⟩)
   (fun y=>y.1≤names.length∧y.2.length≤20000∧z2I (names.drop y.1) y.2=R) (fun y=>names.length-y.1) (0,s) ?_ ?_ ?_
  ·refine q0d ?_ trivial;simp(maxSteps:=2000000)only[go_sem,↓reduceIte,Sub,Zaa,Zab]
  ·exact⟨by simp,by simp only;omega,by simpa using hR⟩
  ·rintro⟨i,t⟩ ⟨hi,ht,hF⟩;simp only at hi ht hF;simp(maxSteps:=2000000)only[go_sem,↓reduceIte,hI];refine⟨fun q1=>?_,fun q1=>?_⟩
   ·obtain⟨n,hn⟩:=get_some (l:=names) (i:=i) (by omega);rw[q9W hn]at hF;unfold z2I oneT at hF;simp(maxSteps:=2000000)(disch:=omega)only[go_sem,↓reduceIte,hI,q0a,z1K,hn];refine q0c.of (j0B n) ?_
    by_cases hkn:known n=true
    ·rw[if_pos hkn]at hF;simp(maxSteps:=2000000)(disch:=omega)only[go_sem,↓reduceIte,hkn,hI,q0a,z1K,hn];refine q0c.of (j2X n t ht) ?_;generalize q4w n t=u at hF;obtain⟨u1,u2⟩:=u
     by_cases hz:u2=0
     ·subst hz;have hfx:resN (fixE (u1,0))=.tup [.str u1,.int .i64 0]:=rfl;rw[hfx];simp(maxSteps:=2000000)(disch:=omega)only[go_sem,↓reduceIte];refine⟨fun q2=>?_,fun q2=>⟨(i+1,u1),?_,⟨by simp only;omega,by simp only;omega,?_⟩,by simp only;omega⟩⟩
      ·rw[j49 (by omega),if_pos (by decide)]at hF;subst hF;simp[resN]
      ·refine q0d ?_ trivial;simp(maxSteps:=2000000)only[go_sem,↓reduceIte,Sub,Zaa,Zab]
      ·rw[j65 (by omega),if_neg (fun h=>h rfl)]at hF;exact hF
     ·have hfx:resN (fixE (u1,u2))=.tup [.str [],.int .i64 u2]:=by simp[resN,fixE,hz]
      rw[hfx];rw[j5a hz,if_pos hz]at hF;subst hF;have hz':¬(u2:Int)=0:=by omega
      have hz2:0<(u2:Int):=by omega
      simp(maxSteps:=2000000)(disch:=omega)only[go_sem,↓reduceIte,hz',hz2,resN]
    ·have hkn':known n=false:=by simpa using hkn
     rw[if_neg hkn,if_pos (by simp)]at hF;subst hF;simp(maxSteps:=2000000)only[go_sem,↓reduceIte,hkn',resN]
   ·rw[Zai (by omega)]at hF;subst hF;simp(maxSteps:=2000000)only[go_sem,↓reduceIte,resN,z2I]
 ·rw[if_pos (by omega)]at hR;subst hR;simp[resN]
def q2a:q0g:=
 Qr [⟨some 3,.box (.t 1),none⟩,⟨some 4,.nils 9 1,none⟩,Qx 5 (Ki 0)] (Qr [Qf 15 1 3,Qm 16 5 15,⟨some 17,.call 21 [.t 16,.k (.d (.str [70,105,108,116,101,114]))], 
 none⟩,Qc 14 17,Qe 18 0 14,Qe 19 1 14,Qv 6,Qs 5 6 18,Qa 7 19] (.seq (Qr [Qc 20 7,Qh 21 20] (.cond (.t 21) (Qr [⟨some 4,.nils 9 1,none⟩,Qx 5 (Ki 0)] .ret) .skip)) (Qr [Qc 
 23 0,Qm 24 5 6,Qq 25 27 [23,24],Qc 22 25,Qe 26 0 22,Qe 27 1 22,Qs 5 6 26,Qa 8 27] (.seq (Qr [Qc 28 8,Qk 29 .gtr 28 0] (.cond (.t 29) (Qr [Qc 30 8,⟨some 4,.nils 9 1, 
 none⟩,Qa 5 30] .ret) .skip)) (Qr [Qm 31 5 6,⟨some 32,.bsl 25 5 [.t 31],none⟩,Qa 9 32] (.seq (Qr [Qf 33 0 6,Ql 34 33,Qk 35 .eql 34 5] (.cond (.t 35) (.reg [Qf 36 3 6,Ql 37 
 36,Qa 9 37]) .skip)) (.seq (Qr [Qf 38 0 6,Ql 39 38,Qk 40 .eql 39 0] (.cond (.t 40) (.reg [⟨some 9,.nils 25 5,none⟩]) .skip)) (Qr [⟨some 10,.nils 9 1,none⟩] (.seq (Qr [Qx 
 11 (Ki 0)] (.block 0 (.loop (.seq (Qr [Qc 41 11,Qc 42 9,Qz 43 false 42,Qb 44 .lss 41 43] (.cond (.t 44) .skip (.exit 0))) (.seq (.block 1 (Qr [Qc 48 0,Qc 49 9,Qc 50 11,Q 51 
 (.ia 5 (.t 49) (.t 50)),Qm 52 5 51,Qq 53 27 [48,52],Qc 47 53,Qe 54 0 47,Qe 55 1 47,Qv 12,Qs 5 12 54,Qa 13 55] (.seq (Qr [Qc 56 13,Qk 57 .gtr 56 0] (.cond (.t 57) (Qr 
 [Qc 58 13,⟨some 4,.nils 9 1,none⟩,Qa 5 58] .ret) .skip)) (.seq (Qr [Qf 59 0 12,Ql 60 59,Qk 61 .neq 60 4] (.cond (.t 61) (Qr [⟨some 4,.nils 9 1,none⟩,Qx 5 (Ki 8)] .ret) 
 .skip)) (.reg [Qc 62 10,Qf 63 2 12,Ql 64 63,⟨some 65,.bsl 9 1 [.t 64],none⟩,⟨some 66,.app 9 1 16 false (.t 62) (.t 65),none⟩,Qa 10 66]))))) (.reg [Qc 45 11,Qk 46 .add 
 45 1,Qa 11 46])))))) (Qr [Qc 67 10,Qa 4 67,Qx 5 (Ki 0)] .ret))))))))))
def q2f:List LRes:=[.tmp 4,.tmp 5]
theorem q3G:q0n Tryz.prog 34 68 q2a q2f:=⟨_,_,Tryz.func34,rfl,by kernel_rfl,by kernel_rfl,rfl⟩
theorem z1z{s:List UInt8}{q:List (Int×Int)}(tv:Val)(last:Int)(o:ObG)(hs:s.length≤60000)(hq:okQ q)(hv:o.v.sm 1048576=true):
  q0i Tryz.prog 34 [modD s q tv last,o.d] (fun r=>r=namN (z1l s q o)):=by
 have g:=q88 o.v filN (Val.q1e.1 hv).2.2.1;rw[Val.d_eq o.v]at g;generalize hR:z1l s q o=R;unfold z1l at hR;refine q3G.call rfl ?_;simp(maxSteps:=2000000)only[go_sem,↓reduceIte,q2a,q2f,ObG.d];refine q0c.of g ?_;cases hg:getV filN o.v.f with
 |none=>
  rw[hg]at hR;simp only[getR,Zcj,Zbu,q04];rw[←hR];simp(maxSteps:=2000000)only[go_sem,↓reduceIte,namN,q2S,Zbs]
 |some p=>
  rw[hg]at hR;simp only at hR;have psm:=z6F hv hg;have hfo:=q9t tv p last hs hq;have ysm:=z3Y s q 8 psm;generalize folG s q 8 p=S at hfo ysm hR;obtain⟨e,y⟩:=S;simp only[valN,Val.d_eq]at hfo;simp only at hR ysm;simp only[getR,Zbd,Zcb,Val.d_eq p];simp(maxSteps:=2000000)only[go_sem,↓reduceIte]
  refine q0e.q0C ([]) ([]) rfl (hfo.q1X (by kernel_rfl)) rfl rfl (by simp only[q0R,St.obj,aget,AObj.ren,AV.ren,AV.ren1,renL,q1P,renR,renQ,Zap,Zaq,and_true,and_self,Nat.reduceEqDiff,↓reduceIte,reduceCtorEq]) rfl rfl rfl ⟨rfl,rfl⟩ ?_
  by_cases h0:e=0
  ·rw[if_neg (fun h=>h h0)]at hR;have h0':(0<(e:Int))=False:=eq_false (by omega);obtain⟨L,hL⟩:∃L,(if y.kind=5 then y.l else if y.kind=0 then[]else[y])=L:=⟨_,rfl⟩;rw[hL]at hR;have Lsm:∀x∈L,x.sm 1048576=true:=fun x hx=>by
    rw[←hL]at hx;split at hx
    ·exact(Val.q1e.1 ysm).2.2.2.1 x hx
    ·split at hx
     ·cases hx
     ·rw[Zci.1 hx];exact ysm
   have Lln:L.length≤1048576:=by
    rw[←hL];split
    ·exact(Val.q1e.1 ysm).2.1
    ·split<;>simp
   have hvl:=q0H L;have h3:(y.kind=5∧y.l=L)∨(y.kind=0∧[]=L)∨(¬y.kind=5∧¬y.kind=0∧[y]=L):=by
    by_cases k5:y.kind=5
    ·rw[if_pos k5]at hL;exact .inl ⟨k5,hL⟩
    ·rw[if_neg k5]at hL
     by_cases k0:y.kind=0
     ·rw[if_pos k0]at hL;exact .inr (.inl ⟨k0,hL⟩)
     ·rw[if_neg k0]at hL;exact .inr (.inr ⟨k5,k0,hL⟩)
   clear hL;have one:q0m [y]=[.agg [.int .i64 y.kind,.int .i64 y.n,.str y.s,.list (q0m y.l),.list (q0k y.f)]]:=by rw[q0m,q0m,Val.d_eq]
   rcases h3 with⟨q1,hL⟩|⟨q1,hL⟩|⟨k5,k0,hL⟩;have hVL:q0m L=q0m y.l:=by rw[←hL]
   obtain⟨X,hX⟩:∃X:AV,X=.d (.list (q0m L)):=⟨_,rfl⟩;have q2:=q1
   rotate_left
   have hVL:q0m L=[]:=by rw[←hL];rfl
   obtain⟨X,hX⟩:∃X:AV,X=.own (.t 9) 25 5 (q0m L):=⟨_,rfl⟩;have q2:=q1
   rotate_left
   have hVL:=one;obtain⟨X,hX⟩:∃X:AV,X=.own (.t 9) 25 5 (q0m L):=⟨_,rfl⟩;rw[hL]at hVL;have q1:(y.kind=5)=False:=eq_false k5;have q2:(y.kind=0)=False:=eq_false k0
   rotate_left
   all_goals
    simp(maxSteps:=2000000)only[go_sem,↓reduceIte,q1,q2,h0'];refine q0f (fun z:Nat×List (List UInt8)=>⟨[(0,.d (modD s q tv last)),(9,X),(10,.own (.t 10) 9 1 (q2S z.2)),(11,.d (.int .i64 z.1))],[],[]⟩)
     (fun z=>z.1≤L.length∧z.2.length≤z.1∧z5r s q (L.drop z.1) z.2=R) (fun z=>L.length-z.1) (0,[]) ?_ ⟨Zay _,Zak _,hR⟩ ?_
    ·refine Weak.mk ?_ ?_ ?_<;>simp(maxSteps:=2000000)only[go_sem,↓reduceIte,Sub,Zaa,Zab,hX,hVL,q1,q2S,Zbs]
    ·subst hX;clear hVL one q1 q2;rintro⟨j,acc⟩ ⟨g1,g2,g3⟩;simp only at g1 g2 g3;have hal:=q5F acc;simp(maxSteps:=2000000)only[go_sem,↓reduceIte,hvl];refine⟨fun h=>?_,fun h=>?_⟩
     ·obtain⟨x,hx⟩:=get_some (l:=L) (i:=j) (by omega);have hld:=j5n hx;have xsm:=Lsm x (Zaf hx);have hfx:=q9t tv x last hs hq;rw[q9W hx,z5r]at g3;generalize folG s q 8 x=S at hfx g3;obtain⟨e2,z⟩:=S;simp only at g3;simp only[valN,Val.d_eq]at hfx;simp(maxSteps:=2000000)(disch:=omega)only[go_sem,↓reduceIte,hld]
      refine q0e.q0C ([]) ([]) rfl (hfx.q1X (by kernel_rfl)) rfl rfl (by simp only[q0R,St.obj,aget,AObj.ren,AV.ren,AV.ren1,renL,q1P,renR,renQ,Zap,Zaq,and_true,and_self,Nat.reduceEqDiff,↓reduceIte,reduceCtorEq]) rfl rfl rfl ⟨rfl,rfl⟩ ?_
      by_cases h2:e2=0
      ·rw[if_neg (fun h=>h h2)]at g3;have h2':(0<(e2:Int))=False:=eq_false (by omega)
       by_cases k4:z.kind=4
       ·rw[if_pos k4]at g3;have k4':(z.kind=4)=True:=eq_true k4;have hsn:q2S acc++[D.str z.s]=q2S (acc++[z.s]):=by simp[q2S]
        simp(maxSteps:=2000000)(disch:=omega)only[go_sem,↓reduceIte,h2',k4',hsn];refine⟨⟨by omega,by omega⟩,(j+1,acc++[z.s]),?_,⟨by simp only;omega,by simp only[Zad,Zcg];omega,g3⟩,by simp only;omega⟩;refine Weak.mk ?_ ?_ ?_<;>simp(maxSteps:=2000000)only[go_sem,↓reduceIte,Sub,Zaa,Zab]
       ·rw[if_neg k4]at g3;have k4':(z.kind=4)=False:=eq_false k4;rw[←g3];simp(maxSteps:=2000000)only[go_sem,↓reduceIte,h2',k4',namN,q2S,Zbs]
      ·rw[if_pos h2]at g3;have h2':(0<(e2:Int))=True:=eq_true (by omega);rw[←g3];simp(maxSteps:=2000000)only[go_sem,↓reduceIte,h2',namN,q2S,Zbs]
     ·rw[Zai (by omega),z5r]at g3;rw[←g3];simp(maxSteps:=2000000)only[go_sem,↓reduceIte,namN]
  ·rw[if_pos h0]at hR;have h0':(0<(e:Int))=True:=eq_true (by omega);rw[←hR];simp(maxSteps:=2000000)only[go_sem,↓reduceIte,h0',namN,q2S,Zbs]
def datG(s:List UInt8)(q:List (Int×Int))(n:Int):List UInt8×Nat:=
 if(getG s q n).1≠0 then([],(getG s q n).1)
 else if(getG s q n).2.st=true then
  if(z1l s q (getG s q n).2).1≠0 then([],(z1l s q (getG s q n).2).1)
  else takF (z1l s q (getG s q n).2).2 (getG s q n).2.data
 else([],8)
def q6a:q0g:=
 Qr [Qx 4 (.k (.d (.str []))),Qx 5 (.k (.d .nil))] (Qr [Qc 10 0,Qc 11 1,Qq 12 11 [10,11],Qc 9 12,Qe 13 0 9,Qe 14 1 9,Qw 6,Qs 8 6 13,Qa 7 14] (.seq (Qr [Qc 15 7,Q 16 (.eqN 
 0 true (.t 15))] (.cond (.t 16) (Qr [Qc 17 7,Qx 4 (.k (.d (.str []))),Qa 5 17] .ret) .skip)) (.seq (Qr [Qf 18 6 6,Ql 19 18,Qh 20 19] (.cond (.t 20) (Qr [Q 21 (.mkI 49 (Ki 
 8)),Qx 4 (.k (.d (.str []))),Qa 5 21] .ret) .skip)) (Qr [Qc 23 0,Qm 24 8 6,Qq 25 33 [23,24],Qc 22 25,Qe 26 0 22,Qe 27 1 22,Qa 8 26,Qa 7 27] (.seq (Qr [Qc 28 7,Q 29 
 (.eqN 0 true (.t 28))] (.cond (.t 29) (Qr [Qc 30 7,Qx 4 (.k (.d (.str []))),Qa 5 30] .ret) .skip)) (Qr [Qc 31 8,Qf 32 7 6,Ql 33 32,Qj 34 54 [31,33],Qe 35 0 34,Qe 36 1 34, 
 Qa 4 35,Qa 5 36] .ret))))))
def q6f:List LRes:=[.tmp 4,.tmp 5]
theorem q8D:q0n Tryz.prog 30 37 q6a q6f:=⟨_,_,Tryz.func30,rfl,by kernel_rfl,by kernel_rfl,rfl⟩
theorem j3y{s:List UInt8}{q:List (Int×Int)}(tv:Val)(n:Int)(hs:s.length≤60000)(hq:okQ q):
  q0i Tryz.prog 30 [filD s q tv,.int .i64 n] (fun r=>r=resE (datG s q n)):=by
 have hg:=z3k tv n hs hq;have hgs:=z30 s q n;generalize hR:datG s q n=R;unfold datG at hR;generalize getG s q n=S at hg hgs hR;obtain⟨e,o⟩:=S;simp only at hgs hR;have hf:=z2N tv o hs hq hgs;simp only[objR,ObG.d]at hg;refine q8D.call rfl ?_;simp(maxSteps:=2000000)only[go_sem,↓reduceIte,q6a,q6f]
 refine q0e.q0C ([]) ([]) rfl (hg.q1X (by kernel_rfl)) rfl rfl (by simp only[q0R,St.obj,aget,AObj.ren,AV.ren,AV.ren1,renL,q1P,renR,renQ,Zap,Zaq,and_true,and_self,Nat.reduceEqDiff,↓reduceIte,reduceCtorEq]) rfl rfl rfl ⟨rfl,rfl⟩ ?_
 by_cases h0:e=0
 ·rw[if_neg (fun h=>h h0)]at hR;rw[h0,show errD 0=.nil from rfl]
  by_cases hst:o.st=true
  ·rw[if_pos hst]at hR;generalize z1l s q o=T at hf hR;obtain⟨e2,l⟩:=T;simp only at hR;simp only[namR,ObG.d]at hf;have ht:=j5k l o.data;rw[resE]at ht;rw[hst]at hf ⊢;simp(maxSteps:=2000000)only[go_sem,↓reduceIte];refine q0e.q0C ([]) ([]) rfl (hf.q1X (by kernel_rfl)) rfl rfl (by simp only[q0R,St.obj,aget,AObj.ren,AV.ren,AV.ren1,renL,q1P,renR,renQ,Zap,Zaq,and_true,and_self,Nat.reduceEqDiff,↓reduceIte,reduceCtorEq]) rfl rfl rfl ⟨rfl,rfl⟩ ?_
   by_cases h2:e2=0
   ·rw[if_neg (fun h=>h h2)]at hR;rw[h2,show errD 0=.nil from rfl];simp(maxSteps:=2000000)only[go_sem,↓reduceIte];refine q0c.of ht ?_;rw[←hR];simp(maxSteps:=2000000)only[go_sem,↓reduceIte,resE]
   ·rw[if_pos h2]at hR;rw[q0Q h2,←hR];simp(maxSteps:=2000000)only[go_sem,↓reduceIte,resE,q0Q h2]
  ·rw[if_neg hst]at hR;have hst':o.st=false:=by simpa using hst
   rw[hst',←hR];simp(maxSteps:=2000000)only[go_sem,↓reduceIte,resE,e8]
 ·rw[if_pos h0]at hR;rw[q0Q h0,←hR];simp(maxSteps:=2000000)only[go_sem,↓reduceIte,resE,q0Q h0]
def q2D:q0g:=
 Qr [Qx 4 (.k (.d (.str []))),Qx 5 (Ki 0)] (Qr [Qc 10 0,Qc 11 1,Qq 12 29 [10,11],Qc 9 12,Qe 13 0 9,Qe 14 1 9,Qw 6,Qs 8 6 13,Qa 7 14] (.seq (Qr [Qc 15 7,Qk 16 .gtr 15 0] 
 (.cond (.t 16) (Qr [Qc 17 7,Qx 4 (.k (.d (.str []))),Qa 5 17] .ret) .skip)) (.seq (Qr [Qf 18 6 6,Ql 19 18,Qh 20 19] (.cond (.t 20) (Qr [Qx 4 (.k (.d (.str []))),Qx 5 (Ki 8)] 
 .ret) .skip)) (Qr [Qc 22 0,Qm 23 8 6,Qq 24 34 [22,23],Qc 21 24,Qe 25 0 21,Qe 26 1 21,Qa 8 25,Qa 7 26] (.seq (Qr [Qc 27 7,Qk 28 .gtr 27 0] (.cond (.t 28) (Qr [Qc 29 7,Qx 
 4 (.k (.d (.str []))),Qa 5 29] .ret) .skip)) (Qr [Qc 30 8,Qf 31 7 6,Ql 32 31,Qj 33 55 [30,32],Qe 34 0 33,Qe 35 1 33,Qa 4 34,Qa 5 35] .ret))))))
def q2F:List LRes:=[.tmp 4,.tmp 5]
theorem q4y:q0n Tryz.prog 31 36 q2D q2F:=⟨_,_,Tryz.func31,rfl,by kernel_rfl,by kernel_rfl,rfl⟩
theorem j2M{s:List UInt8}{q:List (Int×Int)}(tv:Val)(last n:Int)(hs:s.length≤60000)(hq:okQ q):
  q0i Tryz.prog 31 [modD s q tv last,.int .i64 n] (fun r=>r=resN (datG s q n)):=by
 have hg:=z4I tv last n hs hq;have hgs:=z30 s q n;generalize hR:datG s q n=R;unfold datG at hR;generalize getG s q n=S at hg hgs hR;obtain⟨e,o⟩:=S;simp only at hgs hR;have hf:=z1z tv last o hs hq hgs;simp only[objN,ObG.d]at hg;refine q4y.call rfl ?_;simp(maxSteps:=2000000)only[go_sem,↓reduceIte,q2D,q2F]
 refine q0e.q0C ([]) ([]) rfl (hg.q1X (by kernel_rfl)) rfl rfl (by simp only[q0R,St.obj,aget,AObj.ren,AV.ren,AV.ren1,renL,q1P,renR,renQ,Zap,Zaq,and_true,and_self,Nat.reduceEqDiff,↓reduceIte,reduceCtorEq]) rfl rfl rfl ⟨rfl,rfl⟩ ?_
 by_cases h0:e=0
 ·rw[if_neg (fun h=>h h0)]at hR;have h0':(0<(e:Int))=False:=eq_false (by omega)
  by_cases hst:o.st=true
  ·rw[if_pos hst]at hR;generalize z1l s q o=T at hf hR;obtain⟨e2,l⟩:=T;simp only at hR;simp only[namN,ObG.d]at hf;have ht:=z9q l o.data;rw[resN]at ht;rw[hst]at hf ⊢;simp(maxSteps:=2000000)only[go_sem,↓reduceIte,h0'];refine q0e.q0C ([]) ([]) rfl (hf.q1X (by kernel_rfl)) rfl rfl (by simp only[q0R,St.obj,aget,AObj.ren,AV.ren,AV.ren1,renL,q1P,renR,renQ,Zap,Zaq,and_true,and_self,Nat.reduceEqDiff,↓reduceIte,reduceCtorEq]) rfl rfl rfl ⟨rfl,rfl⟩ ?_
   by_cases h2:e2=0
   ·rw[if_neg (fun h=>h h2)]at hR;have h2':(0<(e2:Int))=False:=eq_false (by omega);simp(maxSteps:=2000000)only[go_sem,↓reduceIte,h2'];refine q0c.of ht ?_;rw[←hR];simp(maxSteps:=2000000)only[go_sem,↓reduceIte,resN]
   ·rw[if_pos h2]at hR;have h2':(0<(e2:Int))=True:=eq_true (by omega);rw[←hR];simp(maxSteps:=2000000)only[go_sem,↓reduceIte,h2',resN]
  ·rw[if_neg hst]at hR;have hst':o.st=false:=by simpa using hst
   rw[hst',←hR];simp(maxSteps:=2000000)only[go_sem,↓reduceIte,h0',resN]
 ·rw[if_pos h0]at hR;have h0':(0<(e:Int))=True:=eq_true (by omega);rw[←hR];simp(maxSteps:=2000000)only[go_sem,↓reduceIte,h0',resN]
mutual
def wtV(most:Int):Val→Int
 |.mk _ _ s l f=>wtF most f (wtL most l (IntKind.i64.wrap (1+(s.length:Int))))
def wtL(most:Int):List Val→Int→Int
 |[],n=>n
 |v::r,n=>if n≤most then wtL most r (IntKind.i64.wrap (n+wtV most v))else n
def wtF(most:Int):List Fld→Int→Int
 |[],n=>n
 |.mk nm v::r,n=>if n≤most then wtF most r (IntKind.i64.wrap (IntKind.i64.wrap (n+(nm.length:Int))+wtV most v))else n
end
theorem j9V(most:Int)(v:Val):wtV most v=wtF most v.f (wtL most v.l (IntKind.i64.wrap (1+(v.s.length:Int)))):=by cases v;simp only[wtV,Val.s,Val.l,Val.f]
theorem z7z(most:Int)(y:Fld)(r:List Fld)(n:Int):wtF most (y::r) n=if n≤most then wtF most r (IntKind.i64.wrap (IntKind.i64.wrap (n+(y.name.length:Int))+wtV most y.v))else n:=by cases y;simp only[wtF,Fld.name,Fld.v]
theorem j7l{most n:Int}(h:¬n≤most):∀l,wtL most l n=n
 |[]=>by simp only[wtL]
 |v::r=>by simp only[wtL,if_neg h]
theorem j13{most n:Int}(h:¬n≤most)(l:List Fld):wtF most l n=n:=by
 cases l with
 |nil=>simp only[wtF]
 |cons y r=>rw[z7z,if_neg h]
def q4e:q0g:=
 Qr [⟨some 2,.box (.t 0),none⟩,Qx 4 (Ki 0)] (Qr [Qf 8 2 2,Ql 9 8,Qz 10 true 9,Q 11 (.bin .add (Ki 1) (.t 10)),Qa 5 11] (.seq (Qr [Qx 6 (Ki 0)] (.block 0 (.loop (.seq (Qr [Qc 
 12 6,Qf 13 3 2,Ql 14 13,Qz 15 false 14,Qb 16 .lss 12 15,Qc 17 16,Qd 18 5 17 true,Qd 19 1 17 true,Qg 20 (.bin .leq (.t 18) (.t 19)) 17 true,Qp 21 17 20] (.cond (.t 21) 
 .skip (.exit 0))) (.seq (.block 1 (.reg [Qc 24 5,Qf 25 3 2,Ql 26 25,Qc 27 6,Q 28 (.ia 5 (.t 26) (.t 27)),Qm 29 5 28,Qc 30 1,Qj 31 13 [29,30],Qb 32 .add 24 31,Qa 5 32])) 
 (.reg [Qc 22 6,Qk 23 .add 22 1,Qa 6 23])))))) (.seq (Qr [Qx 7 (Ki 0)] (.block 2 (.loop (.seq (Qr [Qc 33 7,Qf 34 4 2,Ql 35 34,Qz 36 false 35,Qb 37 .lss 33 36,Qc 38 37,Qd 
 39 5 38 true,Qd 40 1 38 true,Qg 41 (.bin .leq (.t 39) (.t 40)) 38 true,Qp 42 38 41] (.cond (.t 42) .skip (.exit 2))) (.seq (.block 3 (.dreg [Qc 45 5,Qf 46 4 2,Ql 47 46,Qc 
 48 7,Q 49 (.ia 6 (.t 47) (.t 48)),Qf 50 0 49,Ql 51 50,Qz 52 true 51,Qb 53 .add 45 52,Qf 54 4 2,Ql 55 54,Qc 56 7,Q 57 (.ia 6 (.t 55) (.t 56)),Qf 58 1 57,Qm 59 5 58,Qc 
 60 1,Qj 61 13 [59,60],Qb 62 .add 53 61,Qa 5 62])) (.reg [Qc 43 7,Qk 44 .add 43 1,Qa 7 44])))))) (Qr [Qc 63 5,Qa 4 63] .ret))))
def q4j:List LRes:=[.tmp 4]
theorem q6M:q0n Tryz.prog 13 64 q4e q4j:=⟨_,_,Tryz.func13,rfl,by kernel_rfl,by kernel_rfl,rfl⟩
theorem j0V:∀(m:Nat) (v:Val) (most:Int),SizeOf.sizeOf v≤m→v.sm 1048576=true→q0i Tryz.prog 13 [v.d,.int .i64 most] (fun r=>r=.one (.int .i64 (wtV most v))):=by
 intro m;induction m with
 |zero=>intro v most h;cases v;simp at h
 |succ m ih=>
  intro v most hv hsm;obtain⟨_,hll,hfl,hsl,hsf⟩:=Val.q1e.1 hsm;have hvl:=q0H v.l;have hfl':=q0D v.f;generalize hR:wtV most v=R;rw[j9V]at hR;rw[Val.d_eq];refine q6M.call rfl ?_;simp(maxSteps:=2000000)only[go_sem,↓reduceIte,q4e,q4j];generalize IntKind.i64.wrap (1+(v.s.length:Int))=n0 at hR ⊢;refine q0f (fun y:Nat×Int=>⟨[(1,.d (.int .i64 most)),(2,.ptr (.l 2) 0),(5,.d (.int .i64 y.2)),(6,.d (.int .i64 y.1))],
    [(2,.cells [.d (.int .i64 v.kind),.d (.int .i64 v.n),.d (.str v.s),.d (.list (q0m v.l)),.d (.list (q0k v.f))])],[]⟩) (fun y=>y.1≤v.l.length∧wtF most v.f (wtL most (v.l.drop y.1) y.2)=R) (fun y=>v.l.length-y.1) (0,n0) ?_ ⟨by simp,hR⟩ ?_
  ·refine Weak.mk ?_ ?_ ?_<;>simp(maxSteps:=2000000)only[go_sem,↓reduceIte,Sub,Zaa,Zab]
  ·rintro⟨i,n⟩ ⟨hi,hF⟩;simp only at hi hF;simp(maxSteps:=2000000)only[go_sem,↓reduceIte,hvl];refine⟨fun hlt=>⟨fun hle=>?_,fun hgt=>?_⟩,fun hge=>?_⟩
   ·obtain⟨x,hx⟩:=get_some (l:=v.l) (i:=i) (by omega);have hm:=Zaf hx;have hc:=ih x most (by have:=z1H hm;omega) (hsl x hm);rw[Val.d_eq x]at hc;rw[q0W hx,wtL,if_pos hle]at hF;simp(maxSteps:=2000000)(disch:=omega)only[go_sem,↓reduceIte,q0a,q3c,hx,Val.d_eq];first|refine q0c.of hc ?_|refine q1E.of hc ?_
    simp(maxSteps:=2000000)(disch:=omega)only[go_sem,↓reduceIte];refine⟨(i+1,IntKind.i64.wrap (n+wtV most x)),?_,⟨by simp only;omega,hF⟩,by simp only;omega⟩;refine Weak.mk ?_ ?_ ?_<;>simp(maxSteps:=2000000)only[go_sem,↓reduceIte,Sub,Zaa,Zab,hvl]
   ·rw[j7l hgt]at hF;refine q0f (fun y:Nat×Int=>⟨[(1,.d (.int .i64 most)),(2,.ptr (.l 2) 0),(5,.d (.int .i64 y.2)),(7,.d (.int .i64 y.1))],
      [(2,.cells [.d (.int .i64 v.kind),.d (.int .i64 v.n),.d (.str v.s),.d (.list (q0m v.l)),.d (.list (q0k v.f))])],[]⟩) (fun y=>y.1≤v.f.length∧wtF most (v.f.drop y.1) y.2=R) (fun y=>v.f.length-y.1) (0,n) ?_ ⟨by simp,hF⟩ ?_
    ·refine Weak.mk ?_ ?_ ?_<;>simp(maxSteps:=2000000)only[go_sem,↓reduceIte,Sub,Zaa,Zab]
    ·rintro⟨j,n2⟩ ⟨hj,hG⟩;simp only at hj hG;simp(maxSteps:=2000000)only[go_sem,↓reduceIte,hfl'];refine⟨fun hlt2=>⟨fun hle2=>?_,fun hgt2=>?_⟩,fun hge2=>?_⟩
     ·obtain⟨y,hy⟩:=get_some (l:=v.f) (i:=j) (by omega);have hm:=Zaf hy;have hc:=ih y.v most (by have:=z1G hm;omega) (Fld.q1e.1 (hsf y hm)).2;rw[Val.d_eq y.v]at hc;rw[q0W hy,z7z,if_pos hle2]at hG;simp(maxSteps:=2000000)(disch:=omega)only[go_sem,↓reduceIte,q0a,q0K,hy,Fld.d_eq];refine q1E.of hc ?_;simp(maxSteps:=2000000)(disch:=omega)only[go_sem,↓reduceIte,q0a,q0K,hy,Fld.d_eq]
      refine⟨(j+1,IntKind.i64.wrap (IntKind.i64.wrap (n2+(y.name.length:Int))+wtV most y.v)),?_,⟨by simp only;omega,hG⟩,by simp only;omega⟩;refine Weak.mk ?_ ?_ ?_<;>simp(maxSteps:=2000000)only[go_sem,↓reduceIte,Sub,Zaa,Zab]
     ·rw[j13 hgt2]at hG;rw[hG]
     ·rw[Zai (by omega),wtF]at hG;rw[hG]
   ·rw[Zai (by omega),wtL]at hF;refine q0f (fun y:Nat×Int=>⟨[(1,.d (.int .i64 most)),(2,.ptr (.l 2) 0),(5,.d (.int .i64 y.2)),(7,.d (.int .i64 y.1))],
      [(2,.cells [.d (.int .i64 v.kind),.d (.int .i64 v.n),.d (.str v.s),.d (.list (q0m v.l)),.d (.list (q0k v.f))])],[]⟩) (fun y=>y.1≤v.f.length∧wtF most (v.f.drop y.1) y.2=R) (fun y=>v.f.length-y.1) (0,n) ?_ ⟨by simp,hF⟩ ?_
    ·refine Weak.mk ?_ ?_ ?_<;>simp(maxSteps:=2000000)only[go_sem,↓reduceIte,Sub,Zaa,Zab]
    ·rintro⟨j,n2⟩ ⟨hj,hG⟩;simp only at hj hG;simp(maxSteps:=2000000)only[go_sem,↓reduceIte,hfl'];refine⟨fun hlt2=>⟨fun hle2=>?_,fun hgt2=>?_⟩,fun hge2=>?_⟩
     ·obtain⟨y,hy⟩:=get_some (l:=v.f) (i:=j) (by omega);have hm:=Zaf hy;have hc:=ih y.v most (by have:=z1G hm;omega) (Fld.q1e.1 (hsf y hm)).2;rw[Val.d_eq y.v]at hc;rw[q0W hy,z7z,if_pos hle2]at hG;simp(maxSteps:=2000000)(disch:=omega)only[go_sem,↓reduceIte,q0a,q0K,hy,Fld.d_eq];refine q1E.of hc ?_;simp(maxSteps:=2000000)(disch:=omega)only[go_sem,↓reduceIte,q0a,q0K,hy,Fld.d_eq]
      refine⟨(j+1,IntKind.i64.wrap (IntKind.i64.wrap (n2+(y.name.length:Int))+wtV most y.v)),?_,⟨by simp only;omega,hG⟩,by simp only;omega⟩;refine Weak.mk ?_ ?_ ?_<;>simp(maxSteps:=2000000)only[go_sem,↓reduceIte,Sub,Zaa,Zab]
     ·rw[j13 hgt2]at hG;rw[hG]
     ·rw[Zai (by omega),wtF]at hG;rw[hG]
def q2V:q0g:=
 Qr [⟨some 1,.box (.t 0),none⟩,Qx 2 KF] (Qr [Qm 3 5 1,⟨some 4,.call 13 [.t 3,.k (.d (.int .i64 6000))],none⟩,Qk 5 .leq 4 6000,Qa 2 5] .ret)
def q22:List LRes:=[.tmp 2]
theorem q5A:q0n Tryz.prog 5 6 q2V q22:=⟨_,_,Tryz.func5,rfl,by kernel_rfl,by kernel_rfl,rfl⟩
theorem j2x(v:Val)(hsm:v.sm 1048576=true):q0i Tryz.prog 5 [v.d] (fun r=>r=.one (.bool (decide (wtV 6000 v≤6000)))):=by
 have hc:=j0V _ v 6000 (Zak _) hsm;rw[Val.d_eq]at hc ⊢;refine q5A.call rfl ?_;simp(maxSteps:=2000000)only[go_sem,↓reduceIte,q2V,q22];refine q0c.of hc ?_;simp(maxSteps:=2000000)only[go_sem,↓reduceIte]
def q3i:q0g:=
 Qr [Qx 4 KF] (.seq (Qr [Qc 6 0,Qz 7 false 6,Qc 8 1,Qz 9 false 8,Qb 10 .neq 7 9] (.cond (.t 10) (Qr [Qx 4 KF] .ret) .skip)) (.seq (Qr [Qx 5 (Ki 0)] (.block 0 (.loop (.seq (Qr 
 [Qc 11 5,Qc 12 0,Qz 13 false 12,Qb 14 .lss 11 13] (.cond (.t 14) .skip (.exit 0))) (.seq (.block 1 (.seq (.dreg [Qc 17 0,Qc 18 5,Q 19 (.ia 1 (.t 17) (.t 18)),Ql 20 19,Qc 
 21 1,Qc 22 5,Q 23 (.ia 1 (.t 21) (.t 22)),Ql 24 23,Qb 25 .neq 20 24]) (.cond (.t 25) (Qr [Qx 4 KF] .ret) .skip))) (.reg [Qc 15 5,Qk 16 .add 15 1,Qa 5 16])))))) (Qr [Qx 4 
 KT] .ret)))
def q3k:List LRes:=[.tmp 4]
theorem q5L:q0n Tryz.prog 35 26 q3i q3k:=⟨_,_,Tryz.func35,rfl,by kernel_rfl,by kernel_rfl,rfl⟩
theorem z5u(a:List (List UInt8))(h:a.length≤1000000000):q0i Tryz.prog 35 [.list (q2S a),.list (q2S a)] (fun r=>r=.one (.bool true)):=by
 refine q5L.call rfl ?_;have hI:((q2S a).length:Int)=(a.length:Int):=by rw[q5F]
 simp(maxSteps:=2000000)only[go_sem,↓reduceIte,q3i,q3k,hI];refine q0f (fun i:Nat=>⟨[(0,.d (.list (q2S a))),(1,.d (.list (q2S a))),(5,.d (.int .i64 i))],[],[]⟩)
  (fun i=>i≤a.length) (fun i=>a.length-i) 0 ?_ ?_ ?_
 ·refine q0d ?_ trivial;simp(maxSteps:=2000000)only[go_sem,↓reduceIte,Sub,Zaa,Zab]
 ·omega
 ·intro i hi;simp(maxSteps:=2000000)only[go_sem,↓reduceIte,hI];intro q;obtain⟨x,hx⟩:=get_some (l:=a) (i:=i) (by omega);simp(maxSteps:=2000000)(disch:=omega)only[go_sem,↓reduceIte,q0a,z1K,hx];refine⟨i+1,?_,by omega,by omega⟩;refine q0d ?_ trivial;simp(maxSteps:=2000000)only[go_sem,↓reduceIte,Sub,Zaa,Zab]
def q2X:q0g:=
 Qr [⟨some 2,.box (.t 0),none⟩,⟨some 3,.box (.t 1),none⟩,Qx 4 KF] (Qr [Qf 6 1 2,Qm 7 5 6,Qf 8 1 3,Qm 9 5 8,Qj 10 28 [7,9],Qa 5 10] (Qr [Qf 11 0 2,Ql 12 11,Qf 13 0 3, 
 Ql 14 13,Qb 15 .eql 12 14,Qc 16 15,Qd 17 5 16 true,Qp 18 16 17,Qc 19 18,Qg 20 (.fa 6 (.t 2)) 19 true,Qg 21 (.ld false 1 (.t 20)) 19 true,Qg 22 (.fa 6 (.t 3)) 19 true,Qg 
 23 (.ld false 1 (.t 22)) 19 true,Qg 24 (.eqB false (.t 21) (.t 23)) 19 true,Qp 25 19 24,Qc 26 25,Qg 27 (.fa 7 (.t 2)) 26 true,Qg 28 (.ld false 1 (.t 27)) 26 true,Qg 29 (.fa 
 7 (.t 3)) 26 true,Qg 30 (.ld false 1 (.t 29)) 26 true,Qg 31 (.bin .eql (.t 28) (.t 30)) 26 true,Qp 32 26 31,Qa 4 32] .ret))
def q24:List LRes:=[.tmp 4]
theorem q5B:q0n Tryz.prog 32 33 q2X q24:=⟨_,_,Tryz.func32,rfl,by kernel_rfl,by kernel_rfl,rfl⟩
theorem z4N(o:ObG)(h:o.v.sm 1048576=true):q0i Tryz.prog 32 [o.d,o.d] (fun r=>r=.one (.bool true)):=by
 have ha:=z3N _ o.v o.v (Zak _) h;rw[z3O,Val.d_eq o.v]at ha;refine q5B.call rfl ?_;simp(maxSteps:=2000000)only[go_sem,↓reduceIte,q2X,q24,ObG.d];refine q0c.of ha ?_;simp(maxSteps:=2000000)only[go_sem,↓reduceIte]
theorem j6B(l:List Nat):nsD l=z34 (l.map Int.ofNat):=by simp[nsD,z34]
theorem j6i(q:List (Int×Int)):(kepG q).length≤60:=Zbr (List.length_filter_le _ _) (by rw[List.length_range'];exact Zak _)
theorem z8G(s:List UInt8)(q:List (Int×Int)):∀(l:List Val) (acc:List (List UInt8)),(z5r s q l acc).2.length≤acc.length+l.length
 |[],acc=>Zak _
 |x::r,acc=>by
  rw[z5r];split
  ·simp
  ·split
   ·have:=z8G s q r (acc++[(folG s q 8 x).2.s]);simp only[Zad,Zae,Zag]at this ⊢;omega
   ·simp
theorem j3W(s:List UInt8)(q:List (Int×Int))(o:ObG)(h:o.v.sm 1048576=true):(z1l s q o).2.length≤1048577:=by
 unfold z1l;split
 ·simp
 ·rename_i p hg;have ysm:=z3Y s q 8 (z6F h hg);split
  ·simp
  ·refine Zbr (z8G s q _ []) ?_;have h1:=(Val.q1e.1 ysm).2.1;split
   ·simp only[Zag];omega
   ·split<;>simp
def q4d:q0g:=
 Qr [⟨some 5,.box (.t 2),none⟩,Qx 6 KF] (Qr [Qc 25 0,Qq 26 12 [25],Qc 24 26,Qe 27 0 24,Qe 28 1 24,Qa 7 27,Qa 8 28] (Qr [Qc 30 1,Qq 31 22 [30],Qc 29 31,Qe 32 0 29,Qe 33 
 1 29,Qa 9 32,Qa 10 33] (.seq (Qr [Qc 34 7,Qc 35 9,Qb 36 .neq 34 35,Qc 37 36,Qd 38 8 37 false,Qd 39 10 37 false,⟨some 40,.call 8 [.t 38,.t 39],some (37,false)⟩,Qg 41 
 (.not (.t 40)) 37 false,Qo 42 37 41,Qc 43 42,Qd 44 0 43 false,⟨some 45,.prim .call [.k (.fn (.func 24) [] []),.t 44] [],some (43,false)⟩,Qd 46 1 43 false,⟨some 47, 
 .prim .call [.k (.fn (.func 25) [] []),.t 46] [],some (43,false)⟩,⟨some 48,.call 23 [.t 45,.t 47],some (43,false)⟩,Qg 49 (.not (.t 48)) 43 false,Qo 50 43 49] (.cond (.t 
 50) (Qr [Qx 6 KF] .ret) .skip)) (Qr [Qc 52 0,Qm 53 5 5,Qq 54 26 [52,53],Qc 51 54,Qe 55 0 51,Qe 56 1 51,Qv 11,Qs 5 11 55,Qa 8 56] (Qr [Qc 58 1,Qm 59 5 5,Qq 60 27 [58, 
 59],Qc 57 60,Qe 61 0 57,Qe 62 1 57,Qv 12,Qs 5 12 61,Qa 10 62] (.seq (Qr [Qc 63 8,Qc 64 10,Qj 65 8 [63,64],Qh 66 65,Qc 67 66,Qg 68 (.ld true 5 (.t 11)) 67 false,Qg 69 
 (.ld true 5 (.t 12)) 67 false,⟨some 70,.call 28 [.t 68,.t 69],some (67,false)⟩,Qg 71 (.not (.t 70)) 67 false,Qo 72 67 71] (.cond (.t 72) (Qr [Qx 6 KF] .ret) .skip)) (.seq 
 (Qr [Qx 13 (Ki (-1))] (.block 0 (.loop (.seq (Qr [Qc 73 13,Qk 74 .lss 73 62] (.cond (.t 74) .skip (.exit 0))) (.seq (.block 1 (Qr [Qc 78 0,Qc 79 13,Qq 80 11 [78,79],Qc 77 
 80,Qe 81 0 77,Qe 82 1 77,Qw 14,Qs 8 14 81,Qa 15 82] (Qr [Qc 84 1,Qc 85 13,Qq 86 29 [84,85],Qc 83 86,Qe 87 0 83,Qe 88 1 83,Qw 16,Qs 8 16 87,Qa 17 88] (Qr [Qc 90 0, 
 Qc 91 13,Qq 92 30 [90,91],Qc 89 92,Qe 93 0 89,Qe 94 1 89,Qa 18 93,Qa 19 94] (Qr [Qc 96 1,Qc 97 13,Qq 98 31 [96,97],Qc 95 98,Qe 99 0 95,Qe 100 1 95,Qa 20 99,Qa 21 
 100] (.seq (Qr [Qc 101 15,Qc 102 17,Qj 103 8 [101,102],Qh 104 103,Qc 105 104,Qg 106 (.ld true 8 (.t 14)) 105 false,Qg 107 (.ld true 8 (.t 16)) 105 false,⟨some 108,.call 
 32 [.t 106,.t 107],some (105,false)⟩,Qg 109 (.not (.t 108)) 105 false,Qo 110 105 109,Qc 111 110,Qd 112 19 111 false,Qd 113 21 111 false,⟨some 114,.call 8 [.t 112,.t 
 113],some (111,false)⟩,Qg 115 (.not (.t 114)) 111 false,Qo 116 111 115,Qc 117 116,Qd 118 18 117 false,Qd 119 20 117 false,Qg 120 (.bin .neq (.t 118) (.t 119)) 117 false, 
 Qo 121 117 120] (.cond (.t 121) (Qr [Qx 6 KF] .ret) .skip)) (Qr [Qc 123 0,Qm 124 8 14,Qq 125 33 [123,124],Qc 122 125,Qe 126 0 122,Qe 127 1 122,Qa 22 126,Qa 15 127] (Qr 
 [Qc 129 1,Qm 130 8 16,Qq 131 34 [129,130],Qc 128 131,Qe 132 0 128,Qe 133 1 128,Qa 23 132,Qa 17 133] (Qr [Qc 134 15,Qc 135 17,Qj 136 8 [134,135],Qh 137 136,Qc 138 
 137,Qd 139 22 138 false,Qd 140 23 138 false,⟨some 141,.call 35 [.t 139,.t 140],some (138,false)⟩,Qg 142 (.not (.t 141)) 138 false,Qo 143 138 142] (.cond (.t 143) (Qr [Qx 
 6 KF] .ret) .skip)))))))))) (.reg [Qc 75 13,Qk 76 .add 75 1,Qa 13 76])))))) (Qr [Qx 6 KT] .ret))))))))
def q4i:List LRes:=[.tmp 6]
theorem q6L:q0n Tryz.prog 9 144 q4d q4i:=⟨_,_,Tryz.func9,rfl,by kernel_rfl,by kernel_rfl,rfl⟩
theorem z9F{s:List UInt8}{q:List (Int×Int)}(tv v:Val)(last:Int)(hs:s.length≤60000)(hq:okQ q)(ht:tv.sm 1048576=true)(hv:v.sm 1048576=true):
  q0i Tryz.prog 9 [filD s q tv,modD s q tv last,v.d] (fun r=>r=.one (.bool true)):=by
 have htf:=(Val.q1e.1 ht).2.2.1;have r1:=z86 s q tv htf;have r2:=j2Q s q tv last htf;have n1:=z8L s q tv hq;have n2:=z7g s q tv last;have n3:=z3f ((kepG q).map Int.ofNat) (by rw[Zbn];have:=j6i q;omega);rw[←j6B]at n3;have f1:=z0y tv v hs hq hv;have f2:=q9t tv v last hs hq;have fsm:=z3Y s q 8 hv;generalize rotR tv=Z at r1 r2;obtain⟨zn,ze⟩:=Z;generalize folG s q 8 v=Y at f1 f2 fsm;obtain⟨ye,y⟩:=Y;simp only at r1 r2 fsm
 have fa:=z3N _ y y (Zak _) fsm;rw[z3O]at fa;simp only[valR,valN,Val.d_eq]at f1 f2 fa;refine q6L.call rfl ?_;rw[Val.d_eq v];simp(maxSteps:=2000000)only[go_sem,↓reduceIte,q4d,q4i];refine q0e.q0C ([]) ([]) rfl (r1.q1X (by kernel_rfl)) rfl rfl (by simp only[q0R,St.obj,aget,AObj.ren,AV.ren,AV.ren1,renL,q1P,renR,renQ,Zap,Zaq,and_true,and_self,Nat.reduceEqDiff,↓reduceIte,reduceCtorEq]) rfl rfl rfl ⟨rfl,rfl⟩ ?_
 simp(maxSteps:=2000000)only[go_sem,↓reduceIte];refine q0e.q0C ([]) ([]) rfl (r2.q1X (by kernel_rfl)) rfl rfl (by simp only[q0R,St.obj,aget,AObj.ren,AV.ren,AV.ren1,renL,q1P,renR,renQ,Zap,Zaq,and_true,and_self,Nat.reduceEqDiff,↓reduceIte,reduceCtorEq]) rfl rfl rfl ⟨rfl,rfl⟩ ?_;simp(maxSteps:=2000000)only[go_sem,↓reduceIte];refine q0c.of (q62 ze ze) ?_;simp(maxSteps:=2000000)only[go_sem,↓reduceIte]
 refine q0e.q0C ([]) ([]) rfl (n1.q1X (by kernel_rfl)) rfl rfl (by simp only[q0R,St.obj,aget,AObj.ren,AV.ren,AV.ren1,renL,q1P,renR,renQ,Zap,Zaq,and_true,and_self,Nat.reduceEqDiff,↓reduceIte,reduceCtorEq]) rfl rfl rfl ⟨rfl,rfl⟩ ?_;simp(maxSteps:=2000000)only[go_sem,↓reduceIte]
 refine q0e.q0C ([]) ([]) rfl (n2.q1X (by kernel_rfl)) rfl rfl (by simp only[q0R,St.obj,aget,AObj.ren,AV.ren,AV.ren1,renL,q1P,renR,renQ,Zap,Zaq,and_true,and_self,Nat.reduceEqDiff,↓reduceIte,reduceCtorEq]) rfl rfl rfl ⟨rfl,rfl⟩ ?_;simp(maxSteps:=2000000)only[go_sem,↓reduceIte];refine q0c.of n3 ?_;simp(maxSteps:=2000000)only[go_sem,↓reduceIte]
 refine q0e.q0C ([]) ([]) rfl (f1.q1X (by kernel_rfl)) rfl rfl (by simp only[q0R,St.obj,aget,AObj.ren,AV.ren,AV.ren1,renL,q1P,renR,renQ,Zap,Zaq,and_true,and_self,Nat.reduceEqDiff,↓reduceIte,reduceCtorEq]) rfl rfl rfl ⟨rfl,rfl⟩ ?_;simp(maxSteps:=2000000)only[go_sem,↓reduceIte]
 refine q0e.q0C ([]) ([]) rfl (f2.q1X (by kernel_rfl)) rfl rfl (by simp only[q0R,St.obj,aget,AObj.ren,AV.ren,AV.ren1,renL,q1P,renR,renQ,Zap,Zaq,and_true,and_self,Nat.reduceEqDiff,↓reduceIte,reduceCtorEq]) rfl rfl rfl ⟨rfl,rfl⟩ ?_;simp(maxSteps:=2000000)only[go_sem,↓reduceIte];refine q0c.of (q62 ye ye) ?_;simp(maxSteps:=2000000)only[go_sem,↓reduceIte];refine q0c.of fa ?_;simp(maxSteps:=2000000)only[go_sem,↓reduceIte]
 refine q0f (fun j:Nat=>⟨[(0,.d (filD s q tv)),(1,.d (modD s q tv last)),(13,.d (.int .i64 ((j:Int)-1)))],[],[]⟩)
  (fun j=>j≤63) (fun j=>63-j) 0 ?_ (Zay _) ?_
 ·refine Weak.mk ?_ ?_ ?_<;>simp(maxSteps:=2000000)only[go_sem,↓reduceIte,Sub,Zaa,Zab]
 ·intro j hj;simp(maxSteps:=2000000)only[go_sem,↓reduceIte];refine fun hlt=>?_
  obtain⟨i,hi⟩:∃i:Int,(j:Int)-1=i:=⟨_,rfl⟩;rw[hi];have g1:=z3k tv i hs hq;have g2:=z4I tv last i hs hq;have gsm:=z30 s q i;have d1:=j3y tv i hs hq;have d2:=j2M tv last i hs hq;generalize getG s q i=S at g1 g2 gsm;obtain⟨e,o⟩:=S;simp only at gsm;generalize datG s q i=T at d1 d2;obtain⟨b,d⟩:=T;have so:=z4N o gsm;have l1:=z2N tv o hs hq gsm;have l2:=z1z tv last o hs hq gsm;have ln:=j3W s q o gsm;generalize z1l s q o=U at l1 l2 ln;obtain⟨f,l⟩:=U;simp only at ln
  have st:=z5u l (by omega);simp only[objR,objN,ObG.d,resE,resN,namR,namN]at g1 g2 d1 d2 so l1 l2;refine q0e.q0C ([]) ([]) rfl (g1.q1X (by kernel_rfl)) rfl rfl (by simp only[q0R,St.obj,aget,AObj.ren,AV.ren,AV.ren1,renL,q1P,renR,renQ,Zap,Zaq,and_true,and_self,Nat.reduceEqDiff,↓reduceIte,reduceCtorEq]) rfl rfl rfl ⟨rfl,rfl⟩ ?_;simp(maxSteps:=2000000)only[go_sem,↓reduceIte]
  refine q0e.q0C ([]) ([]) rfl (g2.q1X (by kernel_rfl)) rfl rfl (by simp only[q0R,St.obj,aget,AObj.ren,AV.ren,AV.ren1,renL,q1P,renR,renQ,Zap,Zaq,and_true,and_self,Nat.reduceEqDiff,↓reduceIte,reduceCtorEq]) rfl rfl rfl ⟨rfl,rfl⟩ ?_;simp(maxSteps:=2000000)only[go_sem,↓reduceIte]
  refine q0e.q0C ([]) ([]) rfl (d1.q1X (by kernel_rfl)) rfl rfl (by simp only[q0R,St.obj,aget,AObj.ren,AV.ren,AV.ren1,renL,q1P,renR,renQ,Zap,Zaq,and_true,and_self,Nat.reduceEqDiff,↓reduceIte,reduceCtorEq]) rfl rfl rfl ⟨rfl,rfl⟩ ?_;simp(maxSteps:=2000000)only[go_sem,↓reduceIte]
  refine q0e.q0C ([]) ([]) rfl (d2.q1X (by kernel_rfl)) rfl rfl (by simp only[q0R,St.obj,aget,AObj.ren,AV.ren,AV.ren1,renL,q1P,renR,renQ,Zap,Zaq,and_true,and_self,Nat.reduceEqDiff,↓reduceIte,reduceCtorEq]) rfl rfl rfl ⟨rfl,rfl⟩ ?_;simp(maxSteps:=2000000)only[go_sem,↓reduceIte];refine q0c.of (q62 e e) ?_;simp(maxSteps:=2000000)only[go_sem,↓reduceIte];refine q0c.of so ?_;simp(maxSteps:=2000000)only[go_sem,↓reduceIte];refine q0c.of (q62 d d) ?_;simp(maxSteps:=2000000)only[go_sem,↓reduceIte]
  refine q0e.q0C ([]) ([]) rfl (l1.q1X (by kernel_rfl)) rfl rfl (by simp only[q0R,St.obj,aget,AObj.ren,AV.ren,AV.ren1,renL,q1P,renR,renQ,Zap,Zaq,and_true,and_self,Nat.reduceEqDiff,↓reduceIte,reduceCtorEq]) rfl rfl rfl ⟨rfl,rfl⟩ ?_;simp(maxSteps:=2000000)only[go_sem,↓reduceIte]
  refine q0e.q0C ([]) ([]) rfl (l2.q1X (by kernel_rfl)) rfl rfl (by simp only[q0R,St.obj,aget,AObj.ren,AV.ren,AV.ren1,renL,q1P,renR,renQ,Zap,Zaq,and_true,and_self,Nat.reduceEqDiff,↓reduceIte,reduceCtorEq]) rfl rfl rfl ⟨rfl,rfl⟩ ?_;simp(maxSteps:=2000000)only[go_sem,↓reduceIte];refine q0c.of (q62 f f) ?_;simp(maxSteps:=2000000)only[go_sem,↓reduceIte];refine q0c.of st ?_;simp(maxSteps:=2000000)(disch:=omega)only[go_sem,↓reduceIte];refine⟨j+1,?_,by omega,by omega⟩
  refine Weak.mk ?_ ?_ ?_<;>simp(maxSteps:=2000000)only[go_sem,↓reduceIte,Sub,Zaa,Zab];rw[show(j:Int)+1-1=i+1 by omega]
theorem j4H(s:List UInt8):∀(m k:Nat) (seen:List Nat) (q:List (Int×Int)) (t:Option Val),okQ q→(∀v,t=some v→v.sm 1048576=true)→okQ (opnG s m k seen q t).2.1∧(opnG s m k seen q t).2.2.sm 1048576=true
 |m,k,seen,q,t,hq,ht=>by
  have h1:=j0Q (s:=s) (k:=k) hq;have h2:=j0R s k q;have h3:∀v,some (t.getD (tabG s k q).2.2)=some v→v.sm 1048576=true:=fun v h=>by
   cases h;cases t with
   |none=>exact h2
   |some w=>exact ht w rfl
  unfold opnG;split
  ·exact⟨q7n,rfl⟩
  ·cases m with
   |zero=>exact⟨q7n,rfl⟩
   |succ m=>
    dsimp only;split
    ·exact⟨q7n,rfl⟩
    ·split
     ·exact⟨h1,h3 _ rfl⟩
     ·split
      ·exact j4H s m _ _ _ _ h1 h3
      ·exact⟨q7n,rfl⟩
theorem j57(s:List UInt8):okQ (z1V s).2.1∧(z1V s).2.2.sm 1048576=true:=by
 unfold z1V;split
 ·exact⟨q7n,rfl⟩
 ·split
  ·split
   ·exact⟨q7n,rfl⟩
   ·exact j4H s 8 _ [] [] none q7n (fun v h=>by cases h)
  ·exact⟨q7n,rfl⟩
def q3h:q0g:=
 Qr [⟨some 3,.box (.t 1),none⟩,Qx 4 KF] (Qr [Qj 10 4 [],Qa 5 10] (.seq (Qr [Qc 11 5,Qh 12 11,Qc 13 12,Qd 14 0 13 false,Qg 15 (.len true (.t 14)) 13 false,Qg 16 (.bin .gtr 
 (.t 15) (Ki 9000)) 13 false,Qo 17 13 16,Qc 18 17,Qg 19 (.ld true 5 (.t 3)) 18 false,⟨some 20,.call 5 [.t 19],some (18,false)⟩,Qg 21 (.not (.t 20)) 18 false,Qo 22 18 21] 
 (.cond (.t 22) (Qr [Qc 23 5,Qa 4 23] .ret) .skip)) (Qr [Qc 25 0,Qj 26 6 [25],Qc 24 26,Qe 27 0 24,Qe 28 1 24,Qa 6 27,Qa 7 28] (Qr [Qc 30 0,Qj 31 7 [30],Qc 29 31,Qe 32 0 
 29,Qe 33 1 29,Qa 8 32,Qa 9 33] (.seq (Qr [Qc 34 9,Qk 35 .gtr 34 0] (.cond (.t 35) (Qr [Qc 36 7,Qc 37 9,Qj 38 8 [36,37],Qc 39 38,Qd 40 6 39 true,Qg 41 (.eqN 1 false (.t 
 40)) 39 true,Qp 42 39 41,Qa 4 42] .ret) .skip)) (Qr [Qc 43 7,Q 44 (.eqN 0 false (.t 43)),Qc 45 44,Qd 46 6 45 true,Qg 47 (.eqN 1 true (.t 46)) 45 true,Qp 48 45 47,Qc 49 
 48,Qd 50 6 49 true,Qd 51 8 49 true,Qg 52 (.ld true 5 (.t 3)) 49 true,⟨some 53,.prim .call [.k (.fn (.func 9) [] []),.t 50,.t 51,.t 52] [],some (49,true)⟩,Qp 54 49 53, 
 Qa 4 54] .ret))))))
def q3j:List LRes:=[.tmp 4]
theorem q5K:q0n Tryz.prog 3 55 q3h q3j:=⟨_,_,Tryz.func3,rfl,by kernel_rfl,by kernel_rfl,rfl⟩
theorem z5d(hf:q0i Tryz.prog 4 [] (fun r=>r=.one (.bool true)))(s:List UInt8)(v:Val)(hv:v.sm 1048576=true)(hs:s.length≤1048576):
  q0i Tryz.prog 3 [.str s,v.d] (fun r=>r=.one (.bool true)):=by
 have hl:=j2x v hv;have h1:=z5V (s:=s) hs;have h2:=j4G (s:=s) hs;refine q5K.call rfl ?_;rw[Val.d_eq v]at hl ⊢;simp(maxSteps:=2000000)only[go_sem,↓reduceIte,q3h,q3j];refine q0c.of hf ?_;simp(maxSteps:=2000000)only[go_sem,↓reduceIte];refine fun h9=>?_
 refine q0c.of hl ?_
 by_cases h3:wtV 6000 v≤6000
 ·rw[decide_eq_true h3];simp(maxSteps:=2000000)only[go_sem,↓reduceIte];have hok:=j57 s;generalize z1V s=R at h1 h2 hok;obtain⟨e,q,tv⟩:=R;simp only at hok
  by_cases he:e=0
  ·simp only[filR,if_pos he,filD]at h1;refine q0c.of h1 ?_;simp(maxSteps:=2000000)only[go_sem,↓reduceIte];refine q0c.post h2 (fun r hr=>?_);rw[modR,if_pos he]at hr;obtain⟨last,rfl⟩:=hr;have ha:=z9F (s:=s) tv v last (by omega) hok.1 hok.2 hv;rw[Val.d_eq v]at ha;simp only[filD]at ha;simp(maxSteps:=2000000)only[go_sem,↓reduceIte]
   refine q0e.q0C ([]) ([]) rfl (ha.q1X (by kernel_rfl)) rfl rfl (by simp only[q0R,St.obj,aget,AObj.ren,AV.ren,AV.ren1,renL,q1P,renR,renQ,Zap,Zaq,and_true,and_self,Nat.reduceEqDiff,↓reduceIte,reduceCtorEq]) rfl rfl rfl ⟨rfl,rfl⟩ ?_;simp(maxSteps:=2000000)only[go_sem,↓reduceIte]
  ·simp only[filR,if_neg he,q0Q he]at h1;have hsl:=q62 e e;rw[q0Q he]at hsl;refine q0c.of h1 ?_;simp(maxSteps:=2000000)only[go_sem,↓reduceIte];refine q0c.post h2 (fun r hr=>?_);rw[modR,if_neg he]at hr;subst hr;have z:(0<(e:Int))=True:=eq_true (by omega);simp(maxSteps:=2000000)only[go_sem,↓reduceIte,z];refine q0c.of hsl ?_;simp(maxSteps:=2000000)only[go_sem,↓reduceIte]
 ·rw[decide_eq_false h3];simp(maxSteps:=2000000)only[go_sem,↓reduceIte]
open Go.Proofs Go.Shelf
def z4F:Go.Shelf.Ren:=⟨fun|105=>126|212=>164|99=>14|165=>165|166=>121|170=>166|169=>79|263=>186|264=>187|206=>42|240=>161|241=>188|276=>181|277=>199|n=>n,fun|9=>9|3=>3|4=>4|20=>20|0=>0|46=>127|109=>192|5=>5|72=>135|76=>46|51=>144|146=>145|53=>161|148=>218|70=>133|37=>128|75=>30|127=>169|164=>208|80=>137|n=>n,fun|n=>n⟩
theorem j8G:Go.Proofs.Lays.n105 Tryz.prog z4F where
 mixed:=by kernel_rfl
 f99:=Tryz.func14.trans (congrArg some (by kernel_rfl))
 f105:=Tryz.func126.trans (congrArg some (by kernel_rfl))
 f165:=Tryz.func165.trans (congrArg some (by kernel_rfl))
 f166:=Tryz.func121.trans (congrArg some (by kernel_rfl))
 f169:=Tryz.func79.trans (congrArg some (by kernel_rfl))
 f170:=Tryz.func166.trans (congrArg some (by kernel_rfl))
 f206:=Tryz.func42.trans (congrArg some (by kernel_rfl))
 f212:=Tryz.func164.trans (congrArg some (by kernel_rfl))
 f240:=Tryz.func161.trans (congrArg some (by kernel_rfl))
 f241:=Tryz.func188.trans (congrArg some (by kernel_rfl))
 f263:=Tryz.func186.trans (congrArg some (by kernel_rfl))
 f264:=Tryz.func187.trans (congrArg some (by kernel_rfl))
 f276:=Tryz.func181.trans (congrArg some (by kernel_rfl))
 f277:=Tryz.func199.trans (congrArg some (by kernel_rfl))
 t0:=Tryz.underlying0
 a0:=Tryz.isAgg0
 z0:=Tryz.sizeOf0
 v0:=Tryz.zeroValue0
 t3:=Tryz.underlying3
 a3:=Tryz.isAgg3
 z3:=Tryz.sizeOf3
 v3:=Tryz.zeroValue3
 t4:=Tryz.underlying4
 a4:=Tryz.isAgg4
 z4:=Tryz.sizeOf4
 v4:=Tryz.zeroValue4
 t5:=Tryz.underlying5
 a5:=Tryz.isAgg5
 z5:=Tryz.sizeOf5
 v5:=Tryz.zeroValue5
 t9:=Tryz.underlying9
 a9:=Tryz.isAgg9
 z9:=Tryz.sizeOf9
 v9:=Tryz.zeroValue9
 t20:=Tryz.underlying20
 a20:=Tryz.isAgg20
 z20:=Tryz.sizeOf20
 v20:=Tryz.zeroValue20
 t37:=Tryz.underlying128
 a37:=Tryz.isAgg128
 z37:=Tryz.sizeOf128
 v37:=Tryz.zeroValue128
 t46:=Tryz.underlying127
 a46:=Tryz.isAgg127
 z46:=Tryz.sizeOf127
 v46:=Tryz.zeroValue127
 t51:=Tryz.underlying144
 a51:=Tryz.isAgg144
 z51:=Tryz.sizeOf144
 v51:=Tryz.zeroValue144
 t53:=Tryz.underlying161
 a53:=Tryz.isAgg161
 z53:=Tryz.sizeOf161
 v53:=Tryz.zeroValue161
 t70:=Tryz.underlying133
 a70:=Tryz.isAgg133
 z70:=Tryz.sizeOf133
 v70:=Tryz.zeroValue133
 t72:=Tryz.underlying135
 a72:=Tryz.isAgg135
 z72:=Tryz.sizeOf135
 v72:=Tryz.zeroValue135
 t75:=Tryz.underlying30
 a75:=Tryz.isAgg30
 z75:=Tryz.sizeOf30
 v75:=Tryz.zeroValue30
 t76:=Tryz.underlying46
 a76:=Tryz.isAgg46
 z76:=Tryz.sizeOf46
 v76:=Tryz.zeroValue46
 t109:=Tryz.underlying192
 a109:=Tryz.isAgg192
 z109:=Tryz.sizeOf192
 v109:=Tryz.zeroValue192
 t127:=Tryz.underlying169
 a127:=Tryz.isAgg169
 z127:=Tryz.sizeOf169
 v127:=Tryz.zeroValue169
 t146:=Tryz.underlying145
 a146:=Tryz.isAgg145
 z146:=Tryz.sizeOf145
 v146:=Tryz.zeroValue145
 t148:=Tryz.underlying218
 a148:=Tryz.isAgg218
 z148:=Tryz.sizeOf218
 v148:=Tryz.zeroValue218
 t164:=Tryz.underlying208
 a164:=Tryz.isAgg208
 z164:=Tryz.sizeOf208
 v164:=Tryz.zeroValue208
theorem j6X:Builder.Extra Tryz.prog z4F where
 sizeBuilder:=by kernel_rfl
 liesBuilder:=by kernel_rfl
 t5:=Tryz.underlying5
 a5:=Tryz.isAgg5
 z5:=Tryz.sizeOf5
 v5:=Tryz.zeroValue5
 infoByte:=by kernel_rfl
 cellsByte:=by kernel_rfl
 sizeByte:=by kernel_rfl
 neB5:=by decide
theorem j0y:q0i Tryz.prog 126 [.str [48],.int .i64 9] (fun r=>r=.one (.str [48,48,48,48,48,48,48,48,48])):=by
 intro f w vs hI ht hsz hrd;have hv:vs = #[.string ⟨#[48]⟩,.int .i64 9]:=by
  have h1:=hrd 0 _ rfl;have h2:=hrd 1 _ rfl;match vs,hsz with
  |⟨[v,u]⟩,_=>cases h1;cases h2;rfl
 subst hv;refine(Any.strings_Repeat j8G j6X ⟨#[48]⟩ 9 w (by omega) (by show 1*9≤_;omega)).mono fun e w' ⟨he,hb⟩=>?_
 refine⟨_,_,f,rfl,he,?_,⟨hb.size,fun b hb0=>⟨hb.block b hb0,rfl⟩,fun b hb0=>ht b (by have:=hb.size;omega),hb.os,hb.tape,hb.output⟩⟩;exact .str _
theorem d1:Lib.decDigits 1=[49]:=by rw[Lib.decDigits,dif_pos (by decide)];rfl
theorem d5:Lib.decDigits 5=[53]:=by rw[Lib.decDigits,dif_pos (by decide)];rfl
theorem d9:Lib.decDigits 9=[57]:=by rw[Lib.decDigits,dif_pos (by decide)];rfl
theorem d26:Lib.decDigits 26=[50,54]:=by rw[Lib.decDigits,dif_neg (by decide),Lib.decDigits,dif_pos (by decide)];rfl
theorem it1:q0i Tryz.prog 37 [.int .i64 1] (fun r=>r=.one (.str [49])):=by have:=q9D 1 (by decide);rwa [d1]at this
theorem it9:q0i Tryz.prog 37 [.int .i64 9] (fun r=>r=.one (.str [57])):=by have:=q9D 9 (by decide);rwa [d9]at this
theorem it26:q0i Tryz.prog 37 [.int .i64 26] (fun r=>r=.one (.str [50,54])):=by have:=q9D 26 (by decide);rwa [d26]at this
def numK:Val:=.mk 2 5000 [] [] []
def z9p:Val:=.mk 6 0 [] [] [.mk rotN (.mk 7 1 [] [] [])]
theorem x0c:q0i Tryz.prog 57 [.agg [.int .i64 2,.int .i64 5000,.str [],.list [],.list []]] (fun r=>r=.tup [.str [53],.nil]):=by
 have h:=z6q numK rfl;rw[show j0S numK=.tup [.str [53],.nil] by
  rw[j0S,if_pos (by decide),j10,if_neg (by decide),if_pos (by decide),show numK.n=((5:Nat):Int)*1000 from rfl,z43,d5]]at h
 exact h
theorem x0d:q0i Tryz.prog 57 [.agg [.int .i64 6,.int .i64 0,.str [],.list [],.list [.agg [.str [82,111,111,116],.int .i64 7,.int .i64 1,.str [],.list [],.list []]]]] (fun r=>r=.tup [.str [60,60,32,47,82,111,111,116,32,49,32,48,32,82,32,62,62],.nil]):=by
 have h:=z6q z9p rfl;rw[show j0S z9p=.tup [.str [60,60,32,47,82,111,111,116,32,49,32,48,32,82,32,62,62],.nil] by
  rw[j0S,if_pos (by decide)];simp only[z9p,rotN,z1L,q5P];rw[show(1:Int).toNat=1 from rfl,d1];rfl]at h
 exact h
def z5y:q0g:=
 Qr [Qx 2 (.k (.d (.str [])))] (Qr [Qc 4 0,Qj 5 37 [4],Qa 3 5] (Qr [Qc 6 3,Qz 7 true 6,Q 8 (.bin .sub (Ki 10) (.t 7)),⟨some 9,.call 126 [.k (.d (.str [48])),.t 8],none⟩,Qc 
 10 3,Qb 11 .add 9 10,Qa 2 11] .ret))
def z5B:List LRes:=[.tmp 2]
theorem z6V:q0n Tryz.prog 80 12 z5y z5B:=⟨_,_,Tryz.func80,rfl,by kernel_rfl,by kernel_rfl,rfl⟩
theorem j69:q0i Tryz.prog 80 [.int .i64 9] (fun r=>r=.one (.str [48,48,48,48,48,48,48,48,48,57])):=by
 refine z6V.call rfl ?_;simp(maxSteps:=2000000)only[go_sem,↓reduceIte,z5y,z5B];refine q0c.of it9 ?_;simp(maxSteps:=2000000)(disch:=omega)only[go_sem,↓reduceIte];refine q0c.of j0y ?_;simp(maxSteps:=2000000)(disch:=omega)only[go_sem,↓reduceIte]
def z3z:q0g:=
 Qr [⟨some 1,.box (.t 0),none⟩,Qx 2 (.k (.d (.str []))),Qx 3 (.k (.d .nil))] (.seq (Qr [Qf 8 0 1,Ql 9 8,Qk 10 .lss 9 1,Qc 11 10,Qg 12 (.fa 0 (.t 1)) 11 false,Qg 13 (.ld 
 false 1 (.t 12)) 11 false,Qg 14 (.bin .gtr (.t 13) (Ki 60)) 11 false,Qo 15 11 14] (.cond (.t 15) (Qr [Q 16 (.mkI 49 (Ki 1)),Qx 2 (.k (.d (.str []))),Qa 3 16] .ret) .skip)) 
 (Qr [Qf 17 1 1,Qm 18 5 17,Qv 4,Qs 5 4 18] (.seq (Qr [Qf 19 6 1,Ql 20 19] (.cond (.t 20) (.seq (Qr [Qf 21 0 4,Ql 22 21,Qk 23 .neq 22 6] (.cond (.t 23) (Qr [Q 24 (.mkI 49 (Ki 
 8)),Qx 2 (.k (.d (.str []))),Qa 3 24] .ret) .skip)) (.seq (Qr [Qf 25 7 1,Ql 26 25,Qz 27 true 26,Qk 28 .gtr 27 20000] (.cond (.t 28) (Qr [Q 29 (.mkI 49 (Ki 2)),Qx 2 (.k (.d 
 (.str []))),Qa 3 29] .ret) .skip)) (.reg [Qm 30 5 4,Qf 31 7 1,Ql 32 31,Qz 33 true 32,Qk 34 .mul 33 1000,Q 35 (.bld [(0,1),(1,1),(2,1),(3,1),(4,1)] [.int .i64 0, 
 .int .i64 0,.str [],.list [],.list []] [false,false,false,true,true] [(0,.k (.d (.int .i64 2))),(1,.t 34)]),⟨some 36,.call 77 [.t 30,.k (.d (.str [76,101,110,103, 
 116,104])),.t 35],none⟩,Qs 5 4 36]))) (Qr [Qf 37 7 1,Ql 38 37,Q 39 (.bin .neq (.t 38) (.k (.d (.str []))))] (.cond (.t 39) (Qr [Q 40 (.mkI 49 (Ki 3)),Qx 2 (.k (.d (.str 
 []))),Qa 3 40] .ret) .skip)))) (Qr [Qm 42 5 4,Qj 43 57 [42],Qc 41 43,Qe 44 0 41,Qe 45 1 41,Qa 5 44,Qa 6 45] (.seq (Qr [Qc 46 6,Q 47 (.eqN 0 true (.t 46))] (.cond (.t 47) 
 (Qr [Qc 48 6,Qx 2 (.k (.d (.str []))),Qa 3 48] .ret) .skip)) (Qr [Qf 49 0 1,Ql 50 49,Qj 51 37 [50],Q 52 (.bin .add (.t 51) (.k (.d (.str [32,48,32,111,98,106,10])))), 
 Qc 53 5,Qb 54 .add 52 53,Q 55 (.bin .add (.t 54) (.k (.d (.str [10])))),Qa 7 55] (.seq (Qr [Qf 56 6 1,Ql 57 56] (.cond (.t 57) (.reg [Qc 58 7,Qf 59 7 1,Ql 60 59,Q 61 (.bin 
 .add (.k (.d (.str [115,116,114,101,97,109,10]))) (.t 60)),Q 62 (.bin .add (.t 61) (.k (.d (.str [10,101,110,100,115,116,114,101,97,109,10])))),Qb 63 .add 58 
 62,Qa 7 63]) .skip)) (Qr [Qc 64 7,Q 65 (.bin .add (.t 64) (.k (.d (.str [101,110,100,111,98,106,10])))),Qa 2 65,Qx 3 (.k (.d .nil))] .ret))))))))
def z3G:List LRes:=[.tmp 2,.tmp 3]
theorem z5k:q0n Tryz.prog 56 66 z3z z3G:=⟨_,_,Tryz.func56,rfl,by kernel_rfl,by kernel_rfl,rfl⟩
theorem j3j:q0i Tryz.prog 56 [.agg [.int .i64 1,.int .i64 2,.int .i64 5000,.str [],.list [],.list [],.bool false,.str []]] (fun r=>r=.tup [.str [49,32,48,32,111,98,106,10,53,10,101,110,100,111,98,106,10],.nil]):=by
 refine z5k.call rfl ?_;simp(maxSteps:=2000000)only[go_sem,↓reduceIte,z3z,z3G];refine q0c.of x0c ?_;simp(maxSteps:=2000000)only[go_sem,↓reduceIte];refine q0c.of it1 ?_;simp(maxSteps:=2000000)(disch:=omega)only[go_sem,↓reduceIte]
def z2o:q0g:=
 Qr [Qx 2 (.k (.d (.str [])))] (.seq (.alt [([],⟨some 3,.nils 3 1,none⟩)] []) (.seq (Qr [Qc 8 0,⟨some 9,.prim (.range 51) [.t 8] [],none⟩] (.block 0 (.loop (Qr [⟨some 10, 
 .prim (.next false 0) [.t 9] [],none⟩,Qe 11 0 10] (.seq (.cond (.t 11) .skip (.exit 0)) (.block 1 (Qr [⟨some 12,.prim .entry [.t 9] [],none⟩,Qe 13 0 12,Qa 4 13] (.alt [([Qc 
 14 3,Qc 15 4,⟨some 16,.bsl 3 1 [.t 15],none⟩],⟨some 17,.app 3 1 8 false (.t 14) (.t 16),none⟩)] [Qa 3 17])))))))) (Qr [Qc 18 3,Qj 19 51 [18]] (Qr [Qx 5 (.k (.d (.str 
 [120,114,101,102,10])))] (.seq (Qr [Qx 6 (Ki 0)] (.block 2 (.loop (.seq (Qr [Qc 20 6,Qc 21 3,Qz 22 false 21,Qb 23 .lss 20 22] (.cond (.t 23) .skip (.exit 2))) (.block 3 
 (Qr [Qc 24 6,Qk 25 .add 24 1,Qa 7 25] (.seq (.block 4 (.loop (.seq (.seq (.dreg [Qc 26 7,Qc 27 3,Qz 28 false 27,Qb 29 .lss 26 28,Qc 30 29,Qd 31 3 30 true,Qd 32 7 30 true, 
 Qg 33 (.ia 1 (.t 31) (.t 32)) 30 true,Qg 34 (.ld false 1 (.t 33)) 30 true,Qd 35 3 30 true,Qd 36 7 30 true,Qg 37 (.bin .sub (.t 36) (Ki 1)) 30 true,Qg 38 (.ia 1 (.t 35) (.t 
 37)) 30 true,Qg 39 (.ld false 1 (.t 38)) 30 true,Qg 40 (.bin .add (.t 39) (Ki 1)) 30 true,Qg 41 (.bin .eql (.t 34) (.t 40)) 30 true,Qp 42 30 41]) (.cond (.t 42) .skip (.exit 
 4))) (.block 5 (.reg [Qc 43 7,Qk 44 .add 43 1,Qa 7 44]))))) (Qr [Qc 45 5,Qc 46 3,Qc 47 6,Q 48 (.ia 1 (.t 46) (.t 47)),Ql 49 48,Qj 50 37 [49],Q 51 (.bin .add (.t 50) (.k 
 (.d (.str [32])))),Qc 52 7,Qc 53 6,Qb 54 .sub 52 53,Qj 55 37 [54],Qb 56 .add 51 55,Q 57 (.bin .add (.t 56) (.k (.d (.str [10])))),Qb 58 .add 45 57,Qa 5 58] (.block 6 
 (.loop (.seq (Qr [Qc 59 6,Qc 60 7,Qb 61 .lss 59 60] (.cond (.t 61) .skip (.exit 6))) (.seq (.block 7 (.reg [Qc 64 5,Qc 65 0,Qc 66 3,Qc 67 6,Q 68 (.ia 1 (.t 66) (.t 67)),Ql 
 69 68,⟨some 70,.prim (.lookup 51 false) [.t 65,.t 69] [],none⟩,Qj 71 80 [70],Q 72 (.bin .add (.t 71) (.k (.d (.str [32,48,48,48,48,48,32,110,32,10])))),Qb 73 .add 
 64 72,Qa 5 73])) (.reg [Qc 62 6,Qk 63 .add 62 1,Qa 6 63]))))))))))))) (Qr [Qc 74 5,Qa 2 74] .ret))))))
def z2x:List LRes:=[.tmp 2]
theorem z4f:q0n Tryz.prog 58 75 z2o z2x:=⟨_,_,Tryz.func58,rfl,by kernel_rfl,by kernel_rfl,rfl⟩
theorem j5i:q0i Tryz.prog 58 [.map [.int .i64 1] [.int .i64 9]] (fun r=>r=.one (.str [120,114,101,102,10,49,32,49,10,48,48,48,48,48,48,48,48,48,57,32,48,48,48,48,48,32,110,32,10])):=by
 refine z4f.call rfl ?_;simp(maxSteps:=2000000)only[go_sem,↓reduceIte,z2o,z2x];refine q2C.nils ?_;simp(maxSteps:=2000000)only[go_sem,↓reduceIte];refine q0e.rangeMap rfl z4q ?_;simp(maxSteps:=2000000)only[go_sem,↓reduceIte,List.zip_cons_cons,List.zip_nil_right];refine q0X ?_;simp(maxSteps:=2000000)only[go_sem,↓reduceIte];refine q0e.j0h rfl rfl (fun h0=>by cases h0) (fun i k w hik=>?_);obtain⟨rfl,rfl,rfl⟩:i=0∧k=.int .i64 1∧w=.int .i64 9:=by
  cases i with
  |zero=>cases hik;exact⟨rfl,rfl,rfl⟩
  |succ i=>simp at hik
 simp(maxSteps:=2000000)only[go_sem,↓reduceIte];refine q0e.j07 rfl rfl ?_;simp(maxSteps:=2000000)only[go_sem,↓reduceIte];refine q2C.app1 (r:=17) (c:=0) (cs:=nsA []) z96 (.inl ⟨rfl,rfl⟩) (Src1.own rfl) (j4z [] 17) (j37 _ _) (by simp[nsA,maxLen]) (fun c' h1 h2=>?_);rw[show(AV.d (.int .i64 1))=.d (.int .i64 ((1:Nat):Int))from rfl,z4K];simp(maxSteps:=2000000)(disch:=omega)only[go_sem,↓reduceIte,List.eraseIdx_cons_zero,nsA,Zbs];refine q0X ?_;simp(maxSteps:=2000000)only[go_sem,↓reduceIte]
 refine q0e.j0h rfl rfl (fun h0=>?_) (fun i k w hik=>by simp at hik);have hs:srtN [1]=[1]:=by simp[srtN]
 have l0:(rowN [1] c')[0]?=some (.d (.int .i64 1)):=j1L (l:=[1]) (i:=0) rfl;simp(maxSteps:=2000000)only[go_sem,↓reduceIte];refine q0c.j5J (q7r.mc1r (.l 17) (z9h [1] c' (by decide) (by simpa[nsA]using h1)) rfl rfl rfl ⟨z1A _ _,z1A _ _⟩ rfl ?_);rw[hs];simp(maxSteps:=2000000)only[go_sem,↓reduceIte];refine q0X ?_;simp(maxSteps:=2000000)(disch:=omega)only[go_sem,↓reduceIte];refine q0X ?_;simp(maxSteps:=2000000)(disch:=omega)only[go_sem,↓reduceIte,l0];refine q0c.of it1 ?_
 simp(maxSteps:=2000000)(disch:=omega)only[go_sem,↓reduceIte];refine q0c.of it1 ?_;simp(maxSteps:=2000000)(disch:=omega)only[go_sem,↓reduceIte];refine q0X ?_;simp(maxSteps:=2000000)(disch:=omega)only[go_sem,↓reduceIte,l0];refine q0e.j8h (ks:=[.int .i64 1]) (vs:=[.int .i64 9]) (key:=.int .i64 1) (zero:=.int .i64 0) rfl rfl z4q z95 rfl (fun k hk=>by rw[Zci.1 hk];rfl) (by kernel_rfl) ?_;have hm:q7R [.int .i64 1] [.int .i64 9] (.int .i64 1)=some (.int .i64 9):=rfl;rw[hm]
 simp(maxSteps:=2000000)only[go_sem,↓reduceIte,Zbd];refine q0c.of j69 ?_;simp(maxSteps:=2000000)(disch:=omega)only[go_sem,↓reduceIte];refine q0X ?_;simp(maxSteps:=2000000)(disch:=omega)only[go_sem,↓reduceIte];refine q0X ?_;simp(maxSteps:=2000000)(disch:=omega)only[go_sem,↓reduceIte]
theorem j6d(x:D):getI [x] 0=some x:=rfl
def filK:List UInt8:=[37,80,68,70,45,49,46,52,10,49,32,48,32,111,98,106,10,53,10,101,110,100,111,98,106,10,120,114,101,102,10,49,32,49,10,48,48,48,48,48,48,48,48,48,57,32,48,48,48,48,48,32,110,32,10,116,114,97,105,108,101,114,10,60,60,32,47,82,111,111,116,32,49,32,48,32,82,32,62,62,10,115,116,97,114,116,120,114,101,102,10,50,54,10,37,37,69,79,70,10]
theorem Gh.j91{σ:St}{a:Nat}{ks vs:List D}(ho:aget σ.L a=some (.mobj ks vs)):Gh σ ⟨amap (AV.frzM a ks vs) σ.ρ,[],σ.H⟩:=fun E n G ts w h=>⟨_,h.frzM ho⟩
def z5x:q0g:=
 Qr [⟨some 5,.box (.t 2),none⟩,Qx 6 (.k (.d (.str []))),Qx 7 (.k (.d .nil))] (.seq (Qr [Qc 18 1,Qz 19 false 18,Qk 20 .gtr 19 60] (.cond (.t 20) (Qr [Q 21 (.mkI 49 (Ki 2)),Qx 
 6 (.k (.d (.str []))),Qa 7 21] .ret) .skip)) (Qr [⟨some 22,.prim (.mkMap 51) [] [],none⟩,Qa 8 22] (.seq (Qr [Qc 23 1,Qz 24 false 23,Q 25 (.cp (Ki 0))] (.block 0 (.loop (Qr 
 [Qb 26 .lss 25 24] (.seq (.cond (.t 26) .skip (.exit 0)) (.seq (.block 1 (Qr [Q 27 (.ia 8 (.t 23) (.t 25)),Qm 28 8 27,Qw 10,Qs 8 10 28] (Qr [Qm 30 8 10,Qj 31 56 [30],Qc 29 
 31,Qe 32 0 29,Qe 33 1 29,Qa 11 32,Qa 12 33] (.seq (Qr [Qc 34 12,Q 35 (.eqN 0 true (.t 34))] (.cond (.t 35) (Qr [Qc 36 12,Qx 6 (.k (.d (.str []))),Qa 7 36] .ret) .skip)) 
 (Qr [Qc 38 8,Qf 39 0 10,Ql 40 39,⟨some 41,.prim (.lookup 51 true) [.t 38,.t 40] [],none⟩,Qc 37 41,Qe 42 0 37,Qe 43 1 37,Qa 13 42,Qa 14 43] (.seq (Qr [Qc 44 14] (.cond 
 (.t 44) (Qr [Q 45 (.mkI 49 (Ki 3)),Qx 6 (.k (.d (.str []))),Qa 7 45] .ret) .skip)) (Qr [Qc 46 8,Qf 47 0 10,Ql 48 47,Qc 49 0,Qz 50 true 49,⟨none,.prim (.mapUpd 51) [.t 46, 
 .t 48,.t 50] [],none⟩] (.reg [Qc 51 0,Qc 52 11,Qb 53 .add 51 52,Qa 0 53])))))))) (.reg [Qk 54 .add 25 1,Qc 25 54]))))))) (Qr [Qm 56 5 5,Qj 57 57 [56],Qc 55 57,Qe 58 0 
 55,Qe 59 1 55,Qa 15 58,Qa 16 59] (.seq (Qr [Qc 60 16,Q 61 (.eqN 0 true (.t 60))] (.cond (.t 61) (Qr [Qc 62 16,Qx 6 (.k (.d (.str []))),Qa 7 62] .ret) .skip)) (Qr [Qc 63 0, 
 Qz 64 true 63,Qa 17 64] (.seq (.alt [([Qc 65 0],Qc 66 8)] [Qq 67 58 [66],Q 68 (.bin .add (.t 67) (.k (.d (.str [116,114,97,105,108,101,114,10])))),Qc 69 15,Qb 70 .add 
 68 69,Q 71 (.bin .add (.t 70) (.k (.d (.str [10,115,116,97,114,116,120,114,101,102,10])))),Qc 72 17,Qj 73 37 [72],Qb 74 .add 71 73,Q 75 (.bin .add (.t 74) (.k (.d 
 (.str [10,37,37,69,79,70,10])))),Qb 76 .add 65 75,Qa 0 76]) (.seq (Qr [Qc 77 0,Qz 78 true 77,Qk 79 .gtr 78 60000] (.cond (.t 79) (Qr [Q 80 (.mkI 49 (Ki 2)),Qx 6 (.k 
 (.d (.str []))),Qa 7 80] .ret) .skip)) (Qr [Qc 81 0,Qa 6 81,Qx 7 (.k (.d .nil))] .ret)))))))))
def z5A:List LRes:=[.tmp 6,.tmp 7]
theorem z6U:q0n Tryz.prog 36 82 z5x z5A:=⟨_,_,Tryz.func36,rfl,by kernel_rfl,by kernel_rfl,rfl⟩
theorem j6m:q0i Tryz.prog 36 [.str [37,80,68,70,45,49,46,52,10],.list [.agg [.int .i64 1,.int .i64 2,.int .i64 5000,.str [],.list [],.list [],.bool false,.str []]],.agg [.int .i64 6,.int .i64 0,.str [],.list [],.list [.agg [.str [82,111,111,116],.int .i64 7,.int .i64 1,.str [],.list [],.list []]]]] (fun r=>r=.tup [.str filK,.nil]):=by
 have htab:=j5i.q1X (by kernel_rfl);refine z6U.call rfl ?_;simp(maxSteps:=2000000)only[go_sem,↓reduceIte,z5x,z5A];refine q0e.mkMap z4q ?_;simp(maxSteps:=2000000)only[go_sem,↓reduceIte];refine q0X ?_;simp(maxSteps:=2000000)only[go_sem,↓reduceIte,j6d];refine q0c.of j3j ?_;simp(maxSteps:=2000000)only[go_sem,↓reduceIte];refine q0e.j4q (ks:=[]) (vs:=[]) (key:=.int .i64 1) (zero:=.int .i64 0) (s:=.l 22) rfl rfl rfl z4q z95 rfl (fun k hk=>by cases hk) (by kernel_rfl) ?_
 simp(maxSteps:=2000000)only[go_sem,↓reduceIte,show q7R [] [] (.int .i64 1)=none from rfl,Zcw,Zbu];refine q0e.j7x (ks:=[]) (vs:=[]) (key:=.int .i64 1) (v:=.int .i64 9) (s:=.l 22) rfl rfl rfl rfl z4q z95 rfl (fun k hk=>by cases hk) rfl ?_;simp(maxSteps:=2000000)(disch:=omega)only[go_sem,↓reduceIte];refine q0X ?_;simp(maxSteps:=2000000)only[go_sem,↓reduceIte];refine q0c.of x0d ?_;simp(maxSteps:=2000000)only[go_sem,↓reduceIte];refine q2C.ghost (q2C.step rfl (fun _ _ _ h=>by cases h) rfl ?_)
 refine⟨_,Gh.j91 (a:=22) rfl,?_⟩;simp(maxSteps:=2000000)only[go_sem,↓reduceIte,amap,AV.frzM];refine q0e.q0C ([]) ([]) rfl (htab) rfl rfl (by simp only[q0R,St.obj,aget,AObj.ren,AV.ren,AV.ren1,renL,q1P,renR,renQ,Zap,Zaq,and_true,and_self,Nat.reduceEqDiff,↓reduceIte,reduceCtorEq]) rfl rfl rfl ⟨rfl,rfl⟩ ?_;simp(maxSteps:=2000000)(disch:=omega)only[go_sem,↓reduceIte];refine q0c.of it26 ?_;simp(maxSteps:=2000000)(disch:=omega)only[go_sem,↓reduceIte,filK]
def z2n:q0g:=
 Qr [Qx 4 (.k (.d (.str []))),Qx 5 (.k (.d .nil))] (.seq (Qr [Qc 7 1,Qk 8 .lss 7 1,Qc 9 8,Qd 10 1 9 false,Qg 11 (.bin .gtr (.t 10) (Ki 60)) 9 false,Qo 12 9 11] (.cond (.t 12) 
 (Qr [Q 13 (.mkI 49 (Ki 1)),Qx 4 (.k (.d (.str []))),Qa 5 13] .ret) .skip)) (Qr [Qc 14 1,Q 15 (.bld [(0,1),(1,1),(2,1),(3,1),(4,1)] [.int .i64 0,.int .i64 0,.str [], 
 .list [],.list []] [false,false,false,true,true] [(0,.k (.d (.int .i64 7))),(1,.t 14)]),Q 16 (.bld [(0,1),(1,5)] [.str [],.int .i64 0,.int .i64 0,.str [],.list 
 [],.list []] [] [(0,.k (.d (.str [82,111,111,116]))),(1,.t 15)]),⟨some 17,.bsl 88 6 [.t 16],none⟩,Q 18 (.bld [(0,1),(1,1),(2,1),(3,1),(4,1)] [.int .i64 0, 
 .int .i64 0,.str [],.list [],.list []] [false,false,false,true,false] [(0,.k (.d (.int .i64 6))),(4,.t 17)]),Qv 6,Qs 5 6 18] (Qr [Qc 19 0,Qm 20 5 6,⟨some 21,.call 
 36 [.k (.d (.str [37,80,68,70,45,49,46,52,10])),.t 19,.t 20],none⟩,Qe 22 0 21,Qe 23 1 21,Qa 4 22,Qa 5 23] .ret)))
def z2w:List LRes:=[.tmp 4,.tmp 5]
theorem z4e:q0n Tryz.prog 10 24 z2n z2w:=⟨_,_,Tryz.func10,rfl,by kernel_rfl,by kernel_rfl,rfl⟩
theorem j16:q0i Tryz.prog 10 [.list [.agg [.int .i64 1,.int .i64 2,.int .i64 5000,.str [],.list [],.list [],.bool false,.str []]],.int .i64 1] (fun r=>r=.tup [.str filK,.nil]):=by
 refine z4e.call rfl ?_;simp(maxSteps:=2000000)only[go_sem,↓reduceIte,z2n,z2w];refine q0c.of j6m ?_;simp(maxSteps:=2000000)only[go_sem,↓reduceIte]
def j9j:Nat×List (Int×Int)×Val→Bool
 |(e,q,v)=>e==0&&(q==[(1,9)]&&q6k v z9p)
theorem j9k:j9j (z1V filK)=true:=by kernel_rfl
theorem j58:z1V filK=(0,[(1,9)],z9p):=by
 have h:=j9k;generalize z1V filK=R at h;obtain⟨e,q,v⟩:=R;simp only[j9j,Zah,beq_iff_eq]at h;rw[h.1,h.2.1,(q7z _ _).1 h.2.2]
def j9l:RV→Bool
 |.ok v k=>k==18&&q6k v numK
 |.bad _=>false
theorem j9m:j9l (q3l filK 16)=true:=by kernel_rfl
theorem j8a:hedG filK 9 [[49],[48],[111,98,106]]=some 16:=by kernel_rfl
theorem j75:q0p filK (q0l filK 18)=[101,110,100,111,98,106]:=by kernel_rfl
theorem j79:getG filK [(1,9)] 1=(0,⟨1,numK,false,[]⟩):=by
 have h:=j9m;unfold getG;rw[show lkI [(1,9)] 1=some 9 from rfl];dsimp only;rw[if_neg (by decide),show Int.toNat 9=9 from rfl,show Int.toNat 1=1 from rfl,d1,j8a];dsimp only;rw[show((16:Nat):Int)=16 from rfl];generalize q3l filK 16=R at h;cases R with
 |bad e=>cases h
 |ok v k=>
  simp only[j9l,Zah,beq_iff_eq]at h;obtain⟨rfl,h2⟩:=h;dsimp only;rw[(q7z _ _).1 h2,if_pos j75]
def q4H:q0g:=
 Qr [Qx 0 KF] (Qr [Q 9 (.bld [(0,1),(1,1),(2,1),(3,1),(4,1)] [.int .i64 0,.int .i64 0,.str [],.list [],.list []] [false,false,false,true,true] [(0,.k (.d (.int 
 .i64 2))),(1,.k (.d (.int .i64 5000)))]),Q 10 (.bld [(0,1),(1,5),(6,1),(7,1)] [.int .i64 0,.int .i64 0,.int .i64 0,.str [],.list [],.list [],.bool false,.str []] 
 [] [(0,.k (.d (.int .i64 1))),(1,.t 9)]),⟨some 11,.bsl 42 8 [.t 10],none⟩,⟨some 12,.call 10 [.t 11,.k (.d (.int .i64 1))],none⟩,Qc 8 12,Qe 13 0 8,Qe 14 1 8,Qa 1 13, 
 Qa 2 14] (.seq (Qr [Qc 15 2,Q 16 (.eqN 0 true (.t 15))] (.cond (.t 16) (Qr [Qx 0 KF] .ret) .skip)) (Qr [Qc 18 1,Qj 19 6 [18],Qc 17 19,Qe 20 0 17,Qe 21 1 17,Qa 3 20,Qa 2 
 21] (.seq (Qr [Qc 22 2,Q 23 (.eqN 0 true (.t 22)),Qc 24 23,Qd 25 3 24 false,Qg 26 (.eqN 1 false (.t 25)) 24 false,Qo 27 24 26] (.cond (.t 27) (Qr [Qx 0 KF] .ret) .skip)) (Qr 
 [Qc 29 3,⟨some 30,.prim .call [.k (.fn (.func 11) [] []),.t 29,.k (.d (.int .i64 1))] [],none⟩,Qc 28 30,Qe 31 0 28,Qe 32 1 28,Qw 4,Qs 8 4 31,Qa 5 32] (Qr [Qc 34 3,Qq 
 35 12 [34],Qc 33 35,Qe 36 0 33,Qe 37 1 33,Qa 6 36,Qa 7 37] (Qr [Qc 38 5,⟨some 39,.call 8 [.t 38,.k (.d (.int .i64 0))],none⟩,Qc 40 39,Qd 41 7 40 true,⟨some 42,.call 
 8 [.t 41,.k (.d (.int .i64 0))],some (40,true)⟩,Qp 43 40 42,Qc 44 43,Qg 45 (.fa 1 (.t 4)) 44 true,Qg 46 (.fa 1 (.t 45)) 44 true,Qg 47 (.ld false 1 (.t 46)) 44 true,Qg 48 
 (.bin .eql (.t 47) (Ki 5000)) 44 true,Qp 49 44 48,Qc 50 49,Qd 51 6 50 true,Qg 52 (.bin .eql (.t 51) (Ki 1)) 50 true,Qp 53 50 52,Qa 0 53] .ret)))))))
def q4W:List LRes:=[.tmp 0]
theorem q7e:q0n Tryz.prog 4 54 q4H q4W:=⟨_,_,Tryz.func4,rfl,by kernel_rfl,by kernel_rfl,rfl⟩
theorem j2i:q0i Tryz.prog 4 [] (fun r=>r=.one (.bool true)):=by
 have hr:=z5V (s:=filK) (by decide);rw[j58]at hr;have hg:=z3k (s:=filK) (q:=[(1,9)]) z9p 1 (by decide) ⟨by simp,by simp⟩;rw[j79]at hg;have hro:=z86 filK [(1,9)] z9p (by decide);rw[show rotR z9p=(1,0)from rfl]at hro;simp only[filR,filD,if_pos,objR,ObG.d,numK,Val.kind,Val.n,Val.s,Val.l,Val.f,errD]at hr hg hro;refine q7e.call rfl ?_;simp(maxSteps:=2000000)only[go_sem,↓reduceIte,q4H,q4W];refine q0c.of j16 ?_
 simp(maxSteps:=2000000)only[go_sem,↓reduceIte];refine q0c.of hr ?_;simp(maxSteps:=2000000)only[go_sem,↓reduceIte];refine q0e.q0C ([]) ([]) rfl (hg.q1X (by kernel_rfl)) rfl rfl (by simp only[q0R,St.obj,aget,AObj.ren,AV.ren,AV.ren1,renL,q1P,renR,renQ,Zap,Zaq,and_true,and_self,Nat.reduceEqDiff,↓reduceIte,reduceCtorEq]) rfl rfl rfl ⟨rfl,rfl⟩ ?_;simp(maxSteps:=2000000)only[go_sem,↓reduceIte]
 refine q0e.q0C ([]) ([]) rfl (hro.q1X (by kernel_rfl)) rfl rfl (by simp only[q0R,St.obj,aget,AObj.ren,AV.ren,AV.ren1,renL,q1P,renR,renQ,Zap,Zaq,and_true,and_self,Nat.reduceEqDiff,↓reduceIte,reduceCtorEq]) rfl rfl rfl ⟨rfl,rfl⟩ ?_;simp(maxSteps:=2000000)only[go_sem,↓reduceIte];refine q0c.of (q62 0 0) ?_;simp(maxSteps:=2000000)only[go_sem,↓reduceIte];refine q0c.of (q62 0 0) ?_;simp(maxSteps:=2000000)only[go_sem,↓reduceIte]
theorem z5e(s:List UInt8)(v:Val)(hv:v.sm 1048576=true)(hs:s.length≤1048576):
  q0i Tryz.prog 3 [.str s,v.d] (fun r=>r=.one (.bool true)):=z5d j2i s v hv hs
theorem j88:Tryz.prog.cellsOf 3=1:=by kernel_rfl
theorem j7q:Tryz.prog.cellsOf 9=1:=by kernel_rfl
theorem j9a:Tryz.prog.cellsOf 22=1:=by kernel_rfl
theorem j89:Tryz.prog.cellsOf 23=1:=by kernel_rfl
theorem j7r:Tryz.prog.cellsOf 25=5:=by kernel_rfl
theorem z7N:Tryz.prog.cellsOf 88=6:=by kernel_rfl
theorem j8j(v:Val):mkD v.d.cells=v.d:=by rw[Val.d_eq];rfl
theorem j8i(x:Fld):mkD x.d.cells=x.d:=by rw[Fld.d_eq];rfl
set_option maxRecDepth 100000 in
theorem j9T:∀k:Nat,(∀ds,OfT Tryz.prog k 25 ds→∃v:Val,ds=v.d.cells)∧(∀ds,OfT Tryz.prog k 88 ds→∃x:Fld,ds=x.d.cells):=by
 intro k;induction k using Nat.strongRecOn with
 |_ k ih=>
  cases k with
  |zero=>exact⟨fun _ h=>h.elim,fun _ h=>h.elim⟩
  |succ k=>
   refine⟨fun ds h=>?_,fun ds h=>?_⟩
   ·unfold OfT at h;rw[Tryz.underlying25]at h;obtain⟨h1,h2⟩:=h;rw[j7r]at h1;match ds,h1 with
    |[a,b,c,d,e],_=>
     have f0:OfT Tryz.prog k 3 (([a,b,c,d,e].drop 0).take (Tryz.prog.cellsOf 3)):=h2 0 _ rfl;have f1:OfT Tryz.prog k 3 (([a,b,c,d,e].drop 1).take (Tryz.prog.cellsOf 3)):=h2 1 _ rfl;have f2:OfT Tryz.prog k 9 (([a,b,c,d,e].drop 2).take (Tryz.prog.cellsOf 9)):=h2 2 _ rfl;have f3:OfT Tryz.prog k 22 (([a,b,c,d,e].drop 3).take (Tryz.prog.cellsOf 22)):=h2 3 _ rfl;have f4:OfT Tryz.prog k 23 (([a,b,c,d,e].drop 4).take (Tryz.prog.cellsOf 23)):=h2 4 _ rfl
     simp only[j88,j7q,j9a,j89,List.drop_zero,List.drop_succ_cons,Zcr,Zdf]at f0 f1 f2 f3 f4;obtain⟨n0,e0,_⟩:=f0.int Tryz.underlying3;obtain⟨n1,e1,_⟩:=f1.int Tryz.underlying3;obtain⟨s,e2,_⟩:=f2.string Tryz.underlying9;obtain⟨l,m,hm,e3,_,hl⟩:=f3.slice Tryz.underlying22;obtain⟨f,m',hm',e4,_,hf⟩:=f4.slice Tryz.underlying23;obtain⟨ls,rfl⟩:=z5F (g:=Val.d) (l:=l) fun x hx=>by
      obtain⟨cs,q1,q2⟩:=hl x hx;obtain⟨v,rfl⟩:=(ih m (by omega)).1 cs q2;exact⟨v,by rw[q1,j8j]⟩
     obtain⟨fs,rfl⟩:=z5F (g:=Fld.d) (l:=f) fun x hx=>by
      obtain⟨cs,q1,q2⟩:=hf x hx;obtain⟨y,rfl⟩:=(ih m' (by omega)).2 cs q2;exact⟨y,by rw[q1,j8i]⟩
     simp only[Zdh,and_true]at e0 e1 e2 e3 e4;refine⟨.mk n0 n1 s ls fs,?_⟩;rw[mk_d,e0,e1,e2,e3,e4,z3w,q5Y];rfl
   ·unfold OfT at h;rw[Tryz.underlying88]at h;obtain⟨h1,h2⟩:=h;rw[z7N]at h1;match ds,h1 with
    |[a,b,c,d,e,f],_=>
     have f0:OfT Tryz.prog k 9 (([a,b,c,d,e,f].drop 0).take (Tryz.prog.cellsOf 9)):=h2 0 _ rfl;have f1:OfT Tryz.prog k 25 (([a,b,c,d,e,f].drop 1).take (Tryz.prog.cellsOf 25)):=h2 1 _ rfl;simp only[j7q,j7r,List.drop_zero,List.drop_succ_cons,Zcr,Zdf]at f0 f1;obtain⟨s,e0,_⟩:=f0.string Tryz.underlying9;obtain⟨v,e1⟩:=(ih k (by omega)).1 _ f1;simp only[Zdh,and_true]at e0;refine⟨.mk s v,?_⟩;rw[e0,e1];rfl
mutual
theorem bkV:∀(v:Val) (N:Nat),bkD v.d≤N→v.sm N=true∧(ptV v).1≤bkD v.d
 |.mk k n s l f,N,h=>by
  rw[mk_d]at h ⊢;simp only[bkD,bkL]at h ⊢;obtain⟨a1,a2,a3⟩:=bkVL l N (by omega);obtain⟨b1,b2,b3⟩:=bkVF f N (by omega);simp only[Val.sm,ptV,Zah,decide_eq_true_eq];exact⟨⟨by omega,by omega,by omega,a1,b1⟩,by omega⟩
theorem bkVL:∀(l:List Val) (N:Nat),bkL (q0m l)≤N→smL N l=true∧l.length≤bkL (q0m l)∧(ptL l).1≤bkL (q0m l)
 |[],N,h=>by simp[smL,ptL,q0m,bkL]
 |v::r,N,h=>by
  simp only[q0m,bkL]at h ⊢;obtain⟨a1,a2⟩:=bkV v N (by omega);obtain⟨b1,b2,b3⟩:=bkVL r N (by omega);have:=(z2c v).1;simp only[smL,ptL,Zah,Zae];exact⟨⟨a1,b1⟩,by omega,by omega⟩
theorem bkVF:∀(l:List Fld) (N:Nat),bkL (q0k l)≤N→smF N l=true∧l.length≤bkL (q0k l)∧(ptF l).1≤bkL (q0k l)
 |[],N,h=>by simp[smF,ptF,q0k,bkL]
 |.mk nm v::r,N,h=>by
  have hd:bkD (Fld.mk nm v).d=nm.length+1+bkD v.d:=by
   rw[z0c,Val.d_eq v];simp only[bkD,bkL]
  simp only[q0k,bkL,hd]at h ⊢;obtain⟨a1,a2⟩:=bkV v N (by omega);obtain⟨b1,b2,b3⟩:=bkVF r N (by omega);have:=(z2c v).1;simp only[smF,Fld.sm,ptF,Zah,Zae,decide_eq_true_eq];exact⟨⟨⟨by omega,a1⟩,b1⟩,by omega,by omega⟩
end
theorem aggV(v:Val):D.agg v.d.cells=v.d:=by rw[Val.d_eq];rfl
theorem j7R(v:Val):bkD v.d=bkL v.d.cells:=by rw[Val.d_eq];simp only[bkD,D.cells]
end Go.Av.Tryz
