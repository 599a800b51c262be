import Derived.Test.YtgfdeebaihmkpaaGreatDoorWd
import Derived.Test.YtgfdeebaihmkpaaGreatDoorWb
import Derived.Test.YtgfdeebaihmkpaaGreatDoorAvE
import Derived.Lib.LastIndexLaws
set_option linter.unusedSimpArgs false
namespace Go.Av.Tryz
open Go.Proofs
theorem kmk(k n:Int)(s:List UInt8):(Val.mk k n s [] []).d=.agg [.int .i64 k,.int .i64 n,.str s,.list [],.list []]:=by rw[mk_d];rfl
def q2Z:q0g:=
 Qr [Qv 6,Qx 7 (Ki 0),Qx 8 (Ki 0)] (Qr [Qc 25 0,Qc 26 1,Qj 27 48 [25,26],Qa 1 27] (.seq (Qr [Qc 28 1,Qc 29 0,Qz 30 true 29,Qb 31 .eql 28 30] (.cond (.t 31) (Qr [Qy 32,Qs 5 
 6 32,Qx 7 (Ki 0),Qx 8 (Ki 5)] .ret) .skip)) (.seq (Qr [Qc 33 2,Qk 34 .gtr 33 8] (.cond (.t 34) (Qr [Qy 35,Qs 5 6 35,Qx 7 (Ki 0),Qx 8 (Ki 2)] .ret) .skip)) (Qr [Qc 36 0,Qc 
 37 1,Q 38 (.idxS (.t 36) (.t 37)),Qa 9 38] (.seq (.block 0 (Qr [Qc 40 9,Q 41 (.bin .eql (.t 40) (Kb 47)),Qa 39 41] (.cond (.t 39) (Qr [Qc 43 0,Qc 44 1,Qj 45 95 [43,44],Qc 
 42 45,Qe 46 0 42,Qe 47 1 42,Qe 48 2 42,Qa 10 46,Qa 11 47,Qa 12 48] (Qr [Qc 49 10,Q 50 (.bld [(0,1),(1,1),(2,1),(3,1),(4,1)] [.int .i64 0,.int .i64 0,.str [], 
 .list [],.list []] [false,false,false,true,true] [(0,.k (.d (.int .i64 4))),(2,.t 49)]),Qc 51 11,Qc 52 12,Qs 5 6 50,Qa 7 51,Qa 8 52] .ret)) (Qr [Qc 54 9,Q 55 (.bin 
 .eql (.t 54) (Kb 40)),Qa 53 55] (.cond (.t 53) (Qr [Qc 57 0,Qc 58 1,Qk 59 .add 58 1,Qj 60 96 [57,59],Qc 56 60,Qe 61 0 56,Qe 62 1 56,Qe 63 2 56,Qa 13 61,Qa 14 62,Qa 15 
 63] (.seq (Qr [Qc 64 15,Qk 65 .eql 64 0,Qc 66 65,Qd 67 13 66 true,Qg 68 (.len true (.t 67)) 66 true,Qg 69 (.bin .gtr (.t 68) (Ki 200)) 66 true,Qp 70 66 69] (.cond (.t 70) 
 (.reg [Qx 15 (Ki 2)]) .skip)) (Qr [Qc 71 13,Q 72 (.bld [(0,1),(1,1),(2,1),(3,1),(4,1)] [.int .i64 0,.int .i64 0,.str [],.list [],.list []] [false,false,false, 
 true,true] [(0,.k (.d (.int .i64 3))),(2,.t 71)]),Qc 73 14,Qc 74 15,Qs 5 6 72,Qa 7 73,Qa 8 74] .ret))) (Qr [Qc 76 9,Q 77 (.bin .eql (.t 76) (Kb 60)),Qc 78 77,Qd 79 1 
 78 true,Qg 80 (.bin .add (.t 79) (Ki 1)) 78 true,Qd 81 0 78 true,Qg 82 (.len true (.t 81)) 78 true,Qg 83 (.bin .lss (.t 80) (.t 82)) 78 true,Qp 84 78 83,Qc 85 84,Qd 86 0 
 85 true,Qd 87 1 85 true,Qg 88 (.bin .add (.t 87) (Ki 1)) 85 true,Qg 89 (.idxS (.t 86) (.t 88)) 85 true,Qg 90 (.bin .eql (.t 89) (Kb 60)) 85 true,Qp 91 85 90,Qa 75 91] 
 (.cond (.t 75) (Qr [Qc 92 0,Qc 93 1,Qk 94 .add 93 2,Qc 95 2,Qj 96 97 [92,94,95],Qe 97 0 96,Qe 98 1 96,Qe 99 2 96,Qs 5 6 97,Qa 7 98,Qa 8 99] .ret) (Qr [Qc 101 9,Q 102 
 (.bin .eql (.t 101) (Kb 60)),Qa 100 102] (.cond (.t 100) (Qr [Qc 104 0,Qc 105 1,Qk 106 .add 105 1,Qj 107 98 [104,106],Qc 103 107,Qe 108 0 103,Qe 109 1 103,Qe 110 2 103, 
 Qa 16 108,Qa 17 109,Qa 18 110] (.seq (Qr [Qc 111 18,Qk 112 .eql 111 0,Qc 113 112,Qd 114 16 113 true,Qg 115 (.len true (.t 114)) 113 true,Qg 116 (.bin .gtr (.t 115) (Ki 
 200)) 113 true,Qp 117 113 116] (.cond (.t 117) (.reg [Qx 18 (Ki 2)]) .skip)) (Qr [Qc 118 16,Q 119 (.bld [(0,1),(1,1),(2,1),(3,1),(4,1)] [.int .i64 0,.int .i64 0,.str 
 [],.list [],.list []] [false,false,false,true,true] [(0,.k (.d (.int .i64 3))),(2,.t 118)]),Qc 120 17,Qc 121 18,Qs 5 6 119,Qa 7 120,Qa 8 121] .ret))) (Qr [Qc 123 9, 
 Q 124 (.bin .eql (.t 123) (Kb 91)),Qa 122 124] (.cond (.t 122) (Qr [Qc 125 0,Qc 126 1,Qk 127 .add 126 1,Qc 128 2,Qj 129 99 [125,127,128],Qe 130 0 129,Qe 131 1 129,Qe 
 132 2 129,Qs 5 6 130,Qa 7 131,Qa 8 132] .ret) (Qr [Qc 134 9,Qj 135 69 [134],Qa 133 135] (.cond (.t 133) (Qr [Qy 136,Qs 5 6 136,Qx 7 (Ki 0),Qx 8 (Ki 4)] .ret) 
 .skip))))))))))))) (Qr [Qc 137 0,Qc 138 1,Qj 139 49 [137,138],Qa 19 139] (Qr [Qc 140 1,Qc 141 19,Qz 142 true 141,Qb 143 .add 140 142,Qa 20 143] (.seq (Qr [Qc 144 19] 
 (.block 1 (Qr [Q 146 (.bin .eql (.t 144) (.k (.d (.str [110,117,108,108])))),Qa 145 146] (.cond (.t 145) (Qr [Qy 147,Qc 148 20,Qs 5 6 147,Qa 7 148,Qx 8 (Ki 0)] .ret) (Qr 
 [Q 150 (.bin .eql (.t 144) (.k (.d (.str [116,114,117,101])))),Qa 149 150] (.cond (.t 149) (Qr [Q 151 (.bld [(0,1),(1,1),(2,1),(3,1),(4,1)] [.int .i64 0,.int .i64 
 0,.str [],.list [],.list []] [false,false,false,true,true] [(0,.k (.d (.int .i64 1))),(1,.k (.d (.int .i64 1)))]),Qc 152 20,Qs 5 6 151,Qa 7 152,Qx 8 (Ki 0)] .ret) 
 (Qr [Q 154 (.bin .eql (.t 144) (.k (.d (.str [102,97,108,115,101])))),Qa 153 154] (.cond (.t 153) (Qr [Q 155 (.bld [(0,1),(1,1),(2,1),(3,1),(4,1)] [.int .i64 0, 
 .int .i64 0,.str [],.list [],.list []] [false,false,false,true,true] [(0,.k (.d (.int .i64 1)))]),Qc 156 20,Qs 5 6 155,Qa 7 156,Qx 8 (Ki 0)] .ret) .skip)))))))) (Qr 
 [Qc 158 0,Qc 159 19,Qc 160 20,Qj 161 100 [158,159,160],Qc 157 161,Qe 162 0 157,Qe 163 1 157,Qa 21 162,Qa 22 163] (.seq (Qr [Qc 164 22,Qk 165 .gtr 164 0] (.cond (.t 
 165) (Qr [Qc 166 21,Q 167 (.bld [(0,1),(1,1),(2,1),(3,1),(4,1)] [.int .i64 0,.int .i64 0,.str [],.list [],.list []] [false,false,false,true,true] [(0,.k (.d 
 (.int .i64 7))),(1,.t 166)]),Qc 168 22,Qs 5 6 167,Qa 7 168,Qx 8 (Ki 0)] .ret) .skip)) (Qr [Qc 170 19,Qj 171 101 [170],Qc 169 171,Qe 172 0 169,Qe 173 1 169,Qa 23 172, 
 Qa 24 173] (Qr [Qc 174 23,Q 175 (.bld [(0,1),(1,1),(2,1),(3,1),(4,1)] [.int .i64 0,.int .i64 0,.str [],.list [],.list []] [false,false,false,true,true] [(0,.k 
 (.d (.int .i64 2))),(1,.t 174)]),Qc 176 20,Qc 177 24,Qs 5 6 175,Qa 7 176,Qa 8 177] .ret))))))))))))
def q26:List LRes:=[.cell 6 true 5,.tmp 7,.tmp 8]
theorem q37:q0n Tryz.prog 70 178 q2Z q26:=⟨_,_,Tryz.func70,rfl,by kernel_rfl,by kernel_rfl,rfl⟩
theorem j4P(s:List UInt8)(hs:s.length≤60000):∀(d:Nat),d≤8→∀(k:Nat),k≤s.length→
  q0i Tryz.prog 70 [.str s,.int .i64 k,.int .i64 (9-(d:Int))] (q5O (q57 d s k)):=by
 intro d;induction d with
 |zero=>
  intro _ k hk;generalize hR:q57 0 s k=R;rw[q57]at hR;have hw:=q1l s ((k:Nat):Int) (by omega);rw[q0h hk]at hw;have hsk:=q0r hk;generalize q0l s k=q at *;refine q37.call rfl ?_;simp(maxSteps:=2000000)(disch:=omega)only[go_sem,↓reduceIte,q2Z,q26];refine q0c.of hw ?_;simp(maxSteps:=2000000)only[go_sem,↓reduceIte];have bad:∀(e:Nat),R=.bad e→q5O R (.tup [.agg [.int .i64 0,.int .i64 0,.str [],.list [],.list []],.int .i64 0,.int .i64 e]):=fun e he=>by
   have:=q6G zeroV 0 he;rwa [Val.d_eq]at this
  refine⟨fun h1=>?_,fun h1=>?_⟩
  ·rw[Zbm (by omega)]at hR;exact bad 5 hR.symm
  ·obtain⟨c,hc⟩:=get_some (l:=s) (i:=q) (by omega);rw[hc]at hR;exact bad 2 hR.symm
 |succ d ihd=>
  intro hd k hk;generalize hR:q57 (d+1) s k=R;rw[q57]at hR;have hw:=q1l s ((k:Nat):Int) (by omega);rw[q0h hk]at hw;have hsk:=q0r hk;generalize q0l s k=q at *;have ih:=ihd (by omega);obtain⟨deep,hde⟩:∃deep:Int,9-((d+1:Nat):Int)=deep:=⟨_,rfl⟩;have e1:9-(d:Int)=deep+1:=by omega
  have hdeep:0≤deep∧deep≤8:=by omega
  rw[e1]at ih;rw[hde];clear hde e1;have pass:∀r,q5O R r→∃(v:Val) (n m:Int),r=.tup [.agg [.int .i64 v.kind,.int .i64 v.n,.str v.s,.list (q0m v.l),.list (q0k v.f)],.int .i64 n,.int .i64 m]∧q5O R r:=fun r h=>by
   cases R with
   |bad e=>obtain⟨v,n,rfl⟩:=h;rw[Val.d_eq v];exact⟨v,n,e,rfl,v,n,by rw[Val.d_eq v]⟩
   |ok v k=>simp only[q5O]at h;subst h;rw[Val.d_eq v];exact⟨v,k,0,rfl,by simp only[q5O];rw[Val.d_eq v]⟩
  have hg:=fun k hk=>q4a s d k hk
  have bad:∀(e:Nat),R=.bad e→q5O R (.tup [.agg [.int .i64 0,.int .i64 0,.str [],.list [],.list []],.int .i64 0,.int .i64 e]):=fun e he=>by
   have:=q6G zeroV 0 he;rwa [Val.d_eq]at this
  have bad':∀(e:Nat) (k n m:Int) (t:List UInt8),R=.bad e→q5O R (.tup [.agg [.int .i64 k,.int .i64 n,.str t,.list [],.list []],.int .i64 m,.int .i64 e]):=fun e k n m t he=>by
   have:=q6G (Val.mk k n t [] []) m he;rwa [kmk]at this
  have good:∀(k n:Int) (t:List UInt8) (m:Nat),R=.ok (Val.mk k n t [] []) m→q5O R (.tup [.agg [.int .i64 k,.int .i64 n,.str t,.list [],.list []],.int .i64 m,.int .i64 0]):=fun k n t m he=>by
   have:=z3r he;rwa [kmk]at this
  refine q37.call rfl ?_;simp(maxSteps:=2000000)(disch:=omega)only[go_sem,↓reduceIte,q2Z,q26];refine q0c.of hw ?_;simp(maxSteps:=2000000)only[go_sem,↓reduceIte];refine⟨fun h1=>?_,fun h1=>?_⟩
  ·rw[Zbm (by omega)]at hR;exact bad 5 hR.symm
  ·obtain⟨c,hc⟩:=get_some (l:=s) (i:=q) (by omega);have hc8:=q1Q c;have hlt:q<s.length:=(Zac.1 hc).1;rw[hc]at hR;simp only at hR;refine⟨fun h2=>by exfalso;omega,fun h2=>?_⟩;simp(maxSteps:=2000000)only[go_sem,↓reduceIte,q0a,hc];refine⟨fun h47=>?_,fun h47=>⟨fun h40=>?_,fun h40=>?_⟩⟩
   ·rw[if_pos (by omega)]at hR;refine q0c.of (z1y s q (by omega) hlt) ?_;cases hn:q5W s q with
    |none=>
     rw[hn]at hR;simp only[z0K];simp(maxSteps:=2000000)only[go_sem,↓reduceIte];exact bad' 4 4 0 0 [] hR.symm
    |some p=>
     obtain⟨nm,kn⟩:=p;rw[hn]at hR;simp only[z0K];simp(maxSteps:=2000000)only[go_sem,↓reduceIte];exact good 4 0 nm kn hR.symm
   ·rw[if_neg (by omega),if_pos (by omega)]at hR;have hlit:=z8y s (q+1) (by omega) (by omega);unfold j4m at hR;rw[Zaa,Zbz]at hlit;simp(disch:=omega)only[IntWalk.i64_in,IntWalk.u8_in];refine q0c.of hlit ?_;cases hl:litF 0 1 (s.drop (q+1)) [] (q+1)with
    |none=>
     rw[hl]at hR;simp only[z8x];simp(maxSteps:=2000000)only[go_sem,↓reduceIte];exact bad' 5 3 0 0 [] hR.symm
    |some p=>
     obtain⟨b,kn⟩:=p;rw[hl]at hR;simp only at hR;simp only[z8x];simp(maxSteps:=2000000)only[go_sem,↓reduceIte];refine⟨fun h3=>?_,fun h3=>?_⟩
     ·rw[if_neg (by omega)]at hR;exact bad' 2 3 0 kn b hR.symm
     ·rw[if_pos (by omega)]at hR;exact good 3 0 b kn hR.symm
   ·rw[if_neg (by omega),if_neg (by omega)]at hR
    by_cases c60:c.toNat=60
    ·have z1:((c.toNat:Int)=60)=True:=eq_true (by omega);have hex:¬s[q+1]?=some 60→R=z9X s (q+1):=fun h=>by
      rw[if_neg (fun h'=>h h'.2),if_pos c60]at hR;exact hR.symm
     have hxc:=z4M s (q+1) (by omega) (by omega);rw[Zaa,Zbz]at hxc;simp(maxSteps:=2000000)(disch:=omega)only[go_sem,↓reduceIte,q0a,hc,z1];refine⟨fun h2=>?_,fun h2=>?_⟩
     ·obtain⟨e,he⟩:=get_some (l:=s) (i:=q+1) (by omega);have g1:getI s ((q:Int)+1)=some e:=by rw[q3z,he]
      simp(maxSteps:=2000000)(disch:=omega)only[go_sem,↓reduceIte,g1];refine⟨fun h3=>?_,fun h3=>?_⟩
      ·have e60:e=60:=UInt8.toNat_inj.1 (by have:(60:UInt8).toNat=60:=rfl;omega);rw[if_pos ⟨c60,by rw[he,e60]⟩]at hR;have hl:=j0w s hs (q57 d s) deep hdeep hg ih (q+2) (by omega);rw[hR,show((q+2:Nat):Int)=(q:Int)+2 by omega]at hl;refine q0c.post hl (fun r hr=>?_);obtain⟨v,n,m,rfl,hr⟩:=pass r hr;simp(maxSteps:=2000000)only[go_sem,↓reduceIte];exact hr
      ·simp(maxSteps:=2000000)(disch:=omega)only[go_sem,↓reduceIte,q0a,hc,z1];refine q0c.of hxc ?_;have hR':=hex (by rw[he];intro e';cases e';exact h3 rfl);unfold z9X at hR';have hcode:=q3N (s.drop (q+1)) (-1) [];generalize q1i (s.drop (q+1)) (-1) []=U at hR' hcode;obtain⟨ub,uc⟩:=U;simp only at hR' hcode;simp(maxSteps:=2000000)only[go_sem,↓reduceIte];refine⟨fun u1=>⟨fun u2=>?_,fun u2=>?_⟩,fun u1=>?_⟩
       ·rw[if_pos (by omega),if_neg (by omega)]at hR';rw[if_pos (by omega)];exact bad' 2 3 0 _ ub hR'
       ·rw[if_pos (by omega),if_pos (by omega)]at hR';rw[if_pos (by omega)];obtain rfl:uc=0:=by omega
        exact good 3 0 ub _ hR'
       ·rw[if_neg (by omega)]at hR';exact bad' uc 3 0 _ ub hR'
     ·refine q0c.of hxc ?_;have hR':=hex (by rw[Zbm (by omega)];simp);unfold z9X at hR';have hcode:=q3N (s.drop (q+1)) (-1) [];generalize q1i (s.drop (q+1)) (-1) []=U at hR' hcode;obtain⟨ub,uc⟩:=U;simp only at hR' hcode;simp(maxSteps:=2000000)only[go_sem,↓reduceIte];refine⟨fun u1=>⟨fun u2=>?_,fun u2=>?_⟩,fun u1=>?_⟩
      ·rw[if_pos (by omega),if_neg (by omega)]at hR';rw[if_pos (by omega)];exact bad' 2 3 0 _ ub hR'
      ·rw[if_pos (by omega),if_pos (by omega)]at hR';rw[if_pos (by omega)];obtain rfl:uc=0:=by omega
       exact good 3 0 ub _ hR'
      ·rw[if_neg (by omega)]at hR';exact bad' uc 3 0 _ ub hR'
    ·rw[if_neg (fun h=>c60 h.1),if_neg c60]at hR;have z1:((c.toNat:Int)=60)=False:=eq_false (by omega);simp(maxSteps:=2000000)(disch:=omega)only[go_sem,↓reduceIte,q0a,hc,z1];refine⟨fun h91=>?_,fun h91=>?_⟩
     ·rw[if_pos (by omega)]at hR;have hl:=j0x s hs (q57 d s) deep hdeep hg ih (q+1) (by omega);rw[hR,Zaa,Zbz]at hl;refine q0c.post hl (fun r hr=>?_);obtain⟨v,n,m,rfl,hr⟩:=pass r hr;simp(maxSteps:=2000000)only[go_sem,↓reduceIte];exact hr
     ·rw[if_neg (by omega)]at hR;refine q0c.of (z2Q c) ?_;simp(maxSteps:=2000000)only[go_sem,↓reduceIte];refine⟨fun hs1=>?_,fun hs1=>?_⟩
      ·rw[if_pos hs1]at hR;exact bad 4 hR.symm
      ·rw[if_neg (by simp[hs1])]at hR;unfold j0X at hR;have hwd:=q1O s ((q:Nat):Int) (by omega);rw[q0h (by omega)]at hwd;refine q0c.of hwd ?_;simp(maxSteps:=2000000)(disch:=omega)only[go_sem,↓reduceIte];have hwl:=q0I s q;have hrr:=z82 s q (by omega) (by omega);have hfx:=z81 (q0p s q) (by omega);have hwr:IntKind.i64.wrap ((q:Int)+((q0p s q).length:Int))=((q+(q0p s q).length:Nat):Int):=by rw[IntWalk.i64_in _ (by omega)];omega
       rw[hwr];refine⟨fun w1=>?_,fun w1=>⟨fun w2=>?_,fun w2=>⟨fun w3=>?_,fun w3=>?_⟩⟩⟩
       ·rw[if_pos w1]at hR;rw[w1];exact good 0 0 [] (q+4) hR.symm
       ·rw[if_neg w1,if_pos w2]at hR;rw[w2];exact good 1 1 [] (q+4) hR.symm
       ·rw[if_neg w1,if_neg w2,if_pos w3]at hR;rw[w3];exact good 1 0 [] (q+5) hR.symm
       ·rw[if_neg w1,if_neg w2,if_neg w3]at hR;refine q0c.of hrr ?_;cases hra:z3e s q with
        |some p=>
         obtain⟨n,kn⟩:=p;rw[hra]at hR;have:=z6m (by omega) hra;simp only[z83];simp(maxSteps:=2000000)only[go_sem,↓reduceIte];refine⟨fun w4=>good 7 n [] kn hR.symm,fun w4=>by exfalso;omega⟩
        |none=>
         rw[hra]at hR;simp only[z83];simp(maxSteps:=2000000)only[go_sem,↓reduceIte];refine q0c.of hfx ?_;simp only[j2O];generalize q6E (q0p s q)=F at hR;obtain⟨fn,fc⟩:=F;simp only at hR;simp(maxSteps:=2000000)(disch:=omega)only[go_sem,↓reduceIte]
         by_cases f0:fc=0
         ·subst f0;rw[if_pos rfl]at hR;exact good 2 fn [] _ hR.symm
         ·rw[if_neg f0]at hR;exact bad' fc 2 fn _ [] hR.symm
def z2T:RV→Res
 |.ok v k=>.tup [v.d,.int .i64 k,.int .i64 0]
 |.bad e=>.tup [zeroV.d,.int .i64 0,.int .i64 e]
def q5n:q0g:=
 Qr [Qv 4,Qx 5 (Ki 0),Qx 6 (Ki 0)] (.seq (Qr [Qc 10 0,Qz 11 true 10,Qk 12 .gtr 11 60000,Qc 13 12,Qd 14 1 13 false,Qg 15 (.bin .lss (.t 14) (Ki 0)) 13 false,Qo 16 13 15,Qc 
 17 16,Qd 18 1 17 false,Qd 19 0 17 false,Qg 20 (.len true (.t 19)) 17 false,Qg 21 (.bin .gtr (.t 18) (.t 20)) 17 false,Qo 22 17 21] (.cond (.t 22) (Qr [Qy 23,Qs 5 4 23,Qx 5 
 (Ki 0),Qx 6 (Ki 1)] .ret) .skip)) (Qr [Qc 25 0,Qc 26 1,⟨some 27,.call 70 [.t 25,.t 26,.k (.d (.int .i64 1))],none⟩,Qc 24 27,Qe 28 0 24,Qe 29 1 24,Qe 30 2 24,Qv 7,Qs 
 5 7 28,Qa 8 29,Qa 9 30] (.seq (Qr [Qc 31 9,Qk 32 .eql 31 0] (.cond (.t 32) (.reg [Qm 33 5 7,Qj 34 71 [33],Qa 9 34]) .skip)) (.seq (Qr [Qc 35 9,Qk 36 .gtr 35 0] (.cond (.t 
 36) (Qr [Qy 37,Qc 38 9,Qs 5 4 37,Qx 5 (Ki 0),Qa 6 38] .ret) .skip)) (Qr [Qm 39 5 7,Qc 40 8,Qs 5 4 39,Qa 5 40,Qx 6 (Ki 0)] .ret)))))
def q5u:List LRes:=[.cell 4 true 5,.tmp 5,.tmp 6]
theorem q7M:q0n Tryz.prog 50 41 q5n q5u:=⟨_,_,Tryz.func50,rfl,by kernel_rfl,by kernel_rfl,rfl⟩
theorem z2P(s:List UInt8)(k:Int)(hs:s.length≤1000000000):q0i Tryz.prog 50 [.str s,.int .i64 k] (fun r=>r=z2T (q3l s k)):=by
 refine q7M.call rfl ?_;generalize hR:q3l s k=R;unfold q3l at hR;simp(maxSteps:=2000000)only[go_sem,↓reduceIte,q5n,q5u];have bad:∀(e:Nat),R=.bad e→Res.tup [.agg [.int .i64 0,.int .i64 0,.str [],.list [],.list []],.int .i64 0,.int .i64 e]=z2T R:=fun e he=>by
  rw[he,z2T,Val.d_eq];rfl
 refine⟨fun h1=>⟨fun h2=>⟨fun h3=>?_,fun h3=>?_⟩,fun h2=>?_⟩,fun h1=>?_⟩
 ·rw[if_pos (by omega)]at hR;exact bad 1 hR.symm
 ·rw[if_neg (by omega)]at hR;obtain⟨q,rfl⟩:∃q:Nat,k=q:=⟨k.toNat,by omega⟩;rw[Zbw]at hR;have hc:=j4P s (by omega) 8 (by omega) q (by omega);have hg:=q4a s 8 q (by omega);refine q0c.post hc (fun r hr=>?_);cases hx:q57 8 s q with
  |bad e=>
   rw[hx]at hR hr hg;obtain⟨v,n,rfl⟩:=hr;rw[Val.d_eq v];obtain⟨g1,_⟩:=hg;have e0:((e:Int)=0)=False:=eq_false (by omega);have e1:(0<(e:Int))=True:=eq_true (by omega);simp(maxSteps:=2000000)only[go_sem,↓reduceIte,e0,e1];exact bad e hR.symm
  |ok v n=>
   rw[hx]at hR hr hg;simp only[q5O]at hr;subst hr;simp only at hR;obtain⟨g1,g2,g3,g4⟩:=hg;have hf:=z9U v (Val.z0Q (by omega) v g3) (by omega);rw[Val.d_eq v]at hf ⊢;simp(maxSteps:=2000000)only[go_sem,↓reduceIte];refine q0c.of hf ?_
   by_cases f0:q4q v=0
   ·rw[if_pos f0]at hR;rw[f0];simp(maxSteps:=2000000)only[go_sem,↓reduceIte];rw[←hR,z2T,Val.d_eq]
   ·rw[if_neg f0]at hR;have e1:(0<(q4q v:Int))=True:=eq_true (by omega);simp(maxSteps:=2000000)only[go_sem,↓reduceIte,e1];exact bad _ hR.symm
 ·rw[if_pos (by omega)]at hR;exact bad 1 hR.symm
 ·rw[if_pos (by omega)]at hR;exact bad 1 hR.symm
def robj(s:List UInt8)(k:Int)(n:Nat):AObj:=.cells [.d (.str s),.d (.int .i64 k),.d (errD n)]
theorem q0x(s:List UInt8)(k:Int):robj s k 0=.cells [.d (.str s),.d (.int .i64 k),.d .nil]:=rfl
theorem q1u(s:List UInt8)(k:Int){n:Nat}(h:n≠0):robj s k n=.cells [.d (.str s),.d (.int .i64 k),.d (.iface 49 (.int .i64 n))]:=by rw[robj,q0Q h]
theorem z0h(s:List UInt8)(k:Int):robj s k 2=.cells [.d (.str s),.d (.int .i64 k),.d (.iface 49 (.int .i64 2))]:=rfl
theorem j7B(s:List UInt8)(k:Int):robj s k 3=.cells [.d (.str s),.d (.int .i64 k),.d (.iface 49 (.int .i64 3))]:=rfl
theorem z0i(s:List UInt8)(k:Int):robj s k 4=.cells [.d (.str s),.d (.int .i64 k),.d (.iface 49 (.int .i64 4))]:=rfl
theorem q7V(s:List UInt8)(k:Int):robj s k 5=.cells [.d (.str s),.d (.int .i64 k),.d (.iface 49 (.int .i64 5))]:=rfl
theorem q9O:errD 2=.iface 49 (.int .i64 2)∧errD 3=.iface 49 (.int .i64 3)∧errD 4=.iface 49 (.int .i64 4)∧errD 5=.iface 49 (.int .i64 5):=⟨rfl,rfl,rfl,rfl⟩
def q1R:q0g:=
 Qr [Qc 4 0,Qn 5 4,Qf 6 2 5,Ql 7 6,Q 8 (.eqN 0 false (.t 7))] (.cond (.t 8) (.reg [Qc 9 0,Qc 10 1,Qn 11 9,Qf 12 2 11,Qs 1 12 10]) .skip)
def q1U:List LRes:=[]
theorem q18:q0n Tryz.prog 63 13 q1R q1U:=⟨_,_,Tryz.func63,rfl,by kernel_rfl,by kernel_rfl,rfl⟩
theorem q6X(s:List UInt8)(k:Int)(e:Nat):q1r Tryz.prog 63 [.ptr (.x 0) 0,.d (errD e)] [robj s k 0] (.tuple []) [robj s k e]:=by
 rw[q0x]
 by_cases h:e=0
 ·subst h;rw[q0x,show errD 0=.nil from rfl];refine q18.q0C (by kernel_rfl) rfl ?_;simp(maxSteps:=2000000)only[go_sem,↓reduceIte,q1R,q1U]
 ·rw[q1u s k h,q0Q h];refine q18.q0C (by kernel_rfl) rfl ?_;simp(maxSteps:=2000000)only[go_sem,↓reduceIte,q1R,q1U]
theorem z0w(s:List UInt8)(k:Int){n:Nat}(h:n≠0)(E:D):q1r Tryz.prog 63 [.ptr (.x 0) 0,.d E] [robj s k n] (.tuple []) [robj s k n]:=by
 rw[q1u s k h];refine q18.q0C (by kernel_rfl) rfl ?_;simp(maxSteps:=2000000)only[go_sem,↓reduceIte,q1R,q1U]
def q2d:q0g:=
 Qr [Qx 4 KF] (Qr [Qc 5 0,Qz 6 true 5,Qc 7 1,Qz 8 true 7,Qb 9 .geq 6 8,Qc 10 9,Qd 11 0 10 true,Qd 12 1 10 true,Qg 13 (.len true (.t 12)) 10 true,Qg 14 (.subS (.t 11) none 
 (some (.t 13))) 10 true,Qd 15 1 10 true,Qg 16 (.bin .eql (.t 14) (.t 15)) 10 true,Qp 17 10 16,Qa 4 17] .ret)
def q2i:List LRes:=[.tmp 4]
theorem q3K:q0n Tryz.prog 42 18 q2d q2i:=⟨_,_,Tryz.func42,rfl,by kernel_rfl,by kernel_rfl,rfl⟩
def q6c:q0g:=
 Qr [Qx 4 KF] (Qr [Qc 5 0,Qc 6 1,Qj 7 42 [5,6],Qa 4 7] .ret)
def q6h:List LRes:=[.tmp 4]
theorem q8F:q0n Tryz.prog 14 8 q6c q6h:=⟨_,_,Tryz.func14,rfl,by kernel_rfl,by kernel_rfl,rfl⟩
def q44(s t:List UInt8):Bool:=decide (s.take t.length=t)
theorem z0d(s t:List UInt8):q0i Tryz.prog 14 [.str s,.str t] (fun r=>r=.one (.bool (q44 s t))):=by
 have h:q0i Tryz.prog 42 [.str s,.str t] (fun r=>r=.one (.bool (q44 s t))):=by
  refine q3K.call rfl ?_;simp(maxSteps:=2000000)only[go_sem,↓reduceIte,q2d,q2i];refine⟨fun h=>⟨by omega,?_⟩,fun h=>?_⟩
  ·rw[show(0:Int)=((0:Nat):Int)from rfl,q4n,List.drop_zero];rfl
  ·have:q44 s t=false:=by
    simp only[q44,decide_eq_false_iff_not];intro e;have:=congrArg List.length e;simp at this;omega
   rw[this]
 refine q8F.call rfl ?_;simp(maxSteps:=2000000)only[go_sem,↓reduceIte,q6c,q6h];refine q0c.of h ?_;simp(maxSteps:=2000000)only[go_sem,↓reduceIte]
def q1S:q0g:=
 Qr [Qx 2 (Kb 0)] (.seq (.dreg [Qc 3 0,Qc 4 0,Qn 5 4,Qf 6 0 5,Ql 7 6,Qc 8 0,Qn 9 8,Qf 10 1 9,Ql 11 10,Qj 12 38 [7,11],Qn 13 3,Qf 14 1 13,Qs 1 14 12]) (.seq (.seq (.dreg 
 [Qc 15 0,Qn 16 15,Qf 17 1 16,Ql 18 17,Qc 19 0,Qn 20 19,Qf 21 0 20,Ql 22 21,Qz 23 true 22,Qb 24 .lss 18 23]) (.cond (.t 24) (.seq (.dreg [Qc 25 0,Qn 26 25,Qf 27 0 26, 
 Ql 28 27,Qc 29 0,Qn 30 29,Qf 31 1 30,Ql 32 31,Q 33 (.idxS (.t 28) (.t 32)),Qa 2 33]) .ret) .skip)) (Qr [Qc 34 0,Q 35 (.mkI 49 (Ki 5)),Qq 36 63 [34,35]] (Qr [Qx 2 (Kb 0)] 
 .ret))))
def q1V:List LRes:=[.tmp 2]
theorem q19:q0n Tryz.prog 83 37 q1S q1V:=⟨_,_,Tryz.func83,rfl,by kernel_rfl,by kernel_rfl,rfl⟩
theorem j1t(s:List UInt8)(k:Nat)(hs:s.length≤60000)(hk:k≤s.length):q1r Tryz.prog 83 [.ptr (.x 0) 0] [robj s k 0]
  (.d (.int .u8 (match s[q0l s k]? with|none=>0|some c=>c.toNat))) [robj s (q0l s k) (match s[q0l s k]? with|none=>5|some _=>0)]:=by
 have hw:=q1G s ((k:Nat):Int) (by omega);rw[q0h hk]at hw;have hsk:=q0r hk;generalize q0l s k=q at *;rw[q0x];refine q19.q0C (by kernel_rfl) rfl ?_;simp(maxSteps:=2000000)only[go_sem,↓reduceIte,q1S,q1V];refine q1E.of hw ?_;simp(maxSteps:=2000000)only[go_sem,↓reduceIte];refine⟨fun h1=>?_,fun h1=>?_⟩
 ·obtain⟨c,hc⟩:=get_some (l:=s) (i:=q) (by omega);simp(maxSteps:=2000000)only[go_sem,↓reduceIte,q0a,hc];rfl
 ·rw[Zbm (by omega)];have hf:=q6X s (q:Int) 5;rw[q0x,show errD 5=.iface 49 (.int .i64 5)from rfl]at hf;refine q0e.mc1 (.x 0) rfl (hf) rfl rfl rfl rfl ⟨rfl,rfl⟩ ?_;simp(maxSteps:=2000000)only[go_sem,↓reduceIte,robj]
theorem next_ne(s:List UInt8)(k:Int){n:Nat}(hn:n≠0)(hs:s.length≤60000):∃c:Int,q1r Tryz.prog 83 [.ptr (.x 0) 0] [robj s k n] (.d (.int .u8 c)) [robj s (q0l s (q2y s k)) n]:=by
 have hw:=q1G s k (by omega);have hsk:=q0r (q78 s k);generalize q0l s (q2y s k)=q at *;rcases Zbi q s.length with h|h
 ·obtain⟨c,hc⟩:=get_some (l:=s) (i:=q) h;refine⟨c.toNat,?_⟩;rw[q1u s k hn,q1u s q hn];refine q19.q0C (by kernel_rfl) rfl ?_;simp(maxSteps:=2000000)only[go_sem,↓reduceIte,q1S,q1V];refine q1E.of hw ?_;have e1:((q:Int)<s.length)=True:=eq_true (by omega);simp(maxSteps:=2000000)only[go_sem,↓reduceIte,q0a,hc,e1]
 ·refine⟨0,?_⟩;have hf:=z0w s (q:Int) hn (errD 5);rw[q1u s q hn,show errD 5=.iface 49 (.int .i64 5)from rfl]at hf;rw[q1u s k hn,q1u s q hn];refine q19.q0C (by kernel_rfl) rfl ?_;simp(maxSteps:=2000000)only[go_sem,↓reduceIte,q1S,q1V];refine q1E.of hw ?_;have e1:((q:Int)<s.length)=False:=eq_false (by omega);simp(maxSteps:=2000000)only[go_sem,↓reduceIte,e1];refine q0e.mc1 (.x 0) rfl (hf) rfl rfl rfl rfl ⟨rfl,rfl⟩ ?_;simp(maxSteps:=2000000)only[go_sem,↓reduceIte]
def q2T:q0g:=
 Qr [Qx 4 KF] (.seq (.dreg [Qc 6 0,Qn 7 6,Qf 8 2 7,Ql 9 8,Q 10 (.eqN 0 false (.t 9)),Qc 11 10,Qd 12 0 11 true,Qg 13 (.nck (.t 12)) 11 true,Qg 14 (.fa 0 (.t 13)) 11 true,Qg 
 15 (.ld false 1 (.t 14)) 11 true,Qd 16 0 11 true,Qg 17 (.nck (.t 16)) 11 true,Qg 18 (.fa 1 (.t 17)) 11 true,Qg 19 (.ld false 1 (.t 18)) 11 true,Qg 20 (.subS (.t 15) (some 
 (.t 19)) none) 11 true,Qd 21 1 11 true,⟨some 22,.call 14 [.t 20,.t 21],some (11,true)⟩,Qp 23 11 22,Qa 5 23]) (.seq (Qr [Qc 24 5] (.cond (.t 24) (.reg [Qc 25 0,Qn 26 25, 
 Qf 27 1 26,Ql 28 27,Qc 29 1,Qz 30 true 29,Qb 31 .add 28 30,Qn 32 25,Qf 33 1 32,Qs 1 33 31]) .skip)) (Qr [Qc 34 5,Qa 4 34] .ret)))
def q20:List LRes:=[.tmp 4]
theorem q35:q0n Tryz.prog 87 35 q2T q20:=⟨_,_,Tryz.func87,rfl,by kernel_rfl,by kernel_rfl,rfl⟩
theorem j5R(s:List UInt8)(k:Nat)(t:List UInt8)(hs:s.length≤60000)(hk:k≤s.length)(ht:t.length≤10):q1r Tryz.prog 87 [.ptr (.x 0) 0,.d (.str t)] [robj s k 0]
  (.d (.bool (q44 (s.drop k) t))) [robj s (if q44 (s.drop k) t=true then(k:Int)+t.length else k) 0]:=by
 have hp:=z0d (s.drop k) t;generalize q44 (s.drop k) t=b at *;rw[q0x];refine q35.q0C (by kernel_rfl) rfl ?_;simp(maxSteps:=2000000)only[go_sem,↓reduceIte,q2T,q20];rw[show(s.length:Int)=((s.length:Nat):Int)from rfl,q4n,List.take_length];refine⟨by omega,?_⟩;refine q1E.of hp ?_;simp(maxSteps:=2000000)only[go_sem,↓reduceIte];refine⟨fun h=>?_,fun h=>?_⟩
 ·simp(disch:=omega)only[IntWalk.i64_in,IntWalk.u8_in];rw[if_pos h];rfl
 ·rw[if_neg (by simp[h])];rfl
theorem j3I(s:List UInt8)(k:Int)(t:List UInt8){n:Nat}(hn:n≠0):q1r Tryz.prog 87 [.ptr (.x 0) 0,.d (.str t)] [robj s k n] (.d (.bool false)) [robj s k n]:=by
 rw[q1u s k hn];refine q35.q0C (by kernel_rfl) rfl ?_;simp(maxSteps:=2000000)only[go_sem,↓reduceIte,q2T,q20]
def q2U:q0g:=
 Qr [Qv 4] (.seq (Qr [Qc 5 1,Qz 6 true 5,Qk 7 .gtr 6 200] (.cond (.t 7) (.reg [Qc 8 0,Q 9 (.mkI 49 (Ki 2)),Qq 10 63 [8,9]]) .skip)) (Qr [Qc 11 1,Q 12 (.bld [(0,1),(1,1), 
 (2,1),(3,1),(4,1)] [.int .i64 0,.int .i64 0,.str [],.list [],.list []] [false,false,false,true,true] [(0,.k (.d (.int .i64 3))),(2,.t 11)]),Qs 5 4 12] .ret))
def q21:List LRes:=[.cell 4 true 5]
theorem q36:q0n Tryz.prog 85 13 q2U q21:=⟨_,_,Tryz.func85,rfl,by kernel_rfl,by kernel_rfl,rfl⟩
theorem j9I(s:List UInt8)(k:Int)(t:List UInt8):q1r Tryz.prog 85 [.ptr (.x 0) 0,.d (.str t)] [robj s k 0] (.d (strV t).d) [robj s k (if t.length≤200 then 0 else 2)]:=by
 have hf:=q6X s k 2;rw[show errD 2=.iface 49 (.int .i64 2)from rfl]at hf;rw[q0x]at hf ⊢;refine q36.q0C (by kernel_rfl) rfl ?_;simp(maxSteps:=2000000)only[go_sem,↓reduceIte,q2U,q21];refine⟨fun h=>?_,fun h=>?_⟩
 ·refine q0e.mc1 (.x 0) rfl (hf) rfl rfl rfl rfl ⟨rfl,rfl⟩ ?_;simp(maxSteps:=2000000)only[go_sem,↓reduceIte,robj];rw[if_neg (by omega),Val.d_eq];exact⟨rfl,rfl⟩
 ·rw[if_pos (by omega),Val.d_eq];exact⟨rfl,rfl⟩
theorem j7D(s:List UInt8)(k:Int)(t:List UInt8){n:Nat}(hn:n≠0):q1r Tryz.prog 85 [.ptr (.x 0) 0,.d (.str t)] [robj s k n] (.d (strV t).d) [robj s k n]:=by
 have hf:=z0w s k hn (errD 2);rw[show errD 2=.iface 49 (.int .i64 2)from rfl]at hf;rw[q1u s k hn]at hf ⊢;refine q36.q0C (by kernel_rfl) rfl ?_;simp(maxSteps:=2000000)only[go_sem,↓reduceIte,q2U,q21];refine⟨fun h=>?_,fun h=>?_⟩
 ·refine q0e.mc1 (.x 0) rfl (hf) rfl rfl rfl rfl ⟨rfl,rfl⟩ ?_;simp(maxSteps:=2000000)only[go_sem,↓reduceIte];rw[Val.d_eq];rfl
 ·rw[Val.d_eq];rfl
/-! ### Where objects stand -/
def ksI(q:List (Int×Int)):List D:=q.map fun p=>.int .i64 p.1
def vsI(q:List (Int×Int)):List D:=q.map fun p=>.int .i64 p.2
def mapI(q:List (Int×Int)):D:=.map (ksI q) (vsI q)
def lkI:List (Int×Int)→Int→Option Int
 |[],_=>none
 |p::r,n=>if n=p.1 then some p.2 else lkI r n
theorem j0e{n v:Int}:∀{q:List (Int×Int)},lkI q n=some v→(n,v)∈q
 |[],h=>by cases h
 |p::r,h=>by
  rw[lkI]at h;split at h
  ·rename_i e;cases h;rw[e];simp
  ·exact List.mem_cons_of_mem _ (j0e h)
theorem j1o{n:Int}:∀{q:List (Int×Int)},lkI q n=none→n∉q.map Prod.fst
 |[],_=>by simp
 |p::r,h=>by
  rw[lkI]at h;split at h
  ·cases h
  ·rename_i e;rw[Zbo,Zba,not_or];exact⟨e,j1o h⟩
theorem z6X{n x v:Int}:∀{q:List (Int×Int)},lkI (q++[(x,v)]) n=(lkI q n).or (if n=x then some v else none)
 |[]=>by simp[lkI]
 |p::r=>by
  rw[Zbe,lkI,lkI];split
  ·rfl
  ·exact z6X
theorem z62(n:Int):∀q:List (Int×Int),q7R (ksI q) (vsI q) (.int .i64 n)=(lkI q n).map fun(v:Int)=>D.int .i64 v
 |[]=>rfl
 |p::r=>by
  have ih:=z62 n r;simp only[ksI,vsI,Zbo,q7R,z8h,lkI,beq_iff_eq]at ih ⊢
  by_cases h:n=p.1
  ·rw[if_pos h,if_pos h];rfl
  ·rw[if_neg h,if_neg h,ih]
def okQ(q:List (Int×Int)):Prop:=(q.map Prod.fst).Nodup∧∀p∈q,1≤p.1∧p.1≤60 ∧ -1≤p.2∧p.2≤10000000000
theorem q7n:okQ []:=⟨List.nodup_nil,by simp⟩
theorem z8J:∀(m:Nat) (l:List Int),l.Nodup→(∀x∈l,1≤x∧x≤m)→l.length≤m
 |0,l,_,h=>by
  cases l with
  |nil=>exact Zak _
  |cons x r=>have:=h x (by simp);omega
 |m+1,l,hn,h=>by
  have h1:=z8J m (l.erase ((m+1:Nat):Int)) (hn.erase _) fun x hx=>by
   have hx':=(hn.mem_erase_iff).1 hx;have:=h x hx'.2;have:=hx'.1;omega
  have:=List.length_erase (a:=((m+1:Nat):Int)) (l:=l);split at this<;>omega
theorem j8q{q:List (Int×Int)}(h:okQ q):q.length≤60:=by
 have:=z8J 60 (q.map Prod.fst) h.1 fun x hx=>by
  obtain⟨p,hp,rfl⟩:=Zat.1 hx;have:=h.2 p hp;omega
 simpa using this
theorem j8p{q:List (Int×Int)}{x v:Int}(h:okQ q)(hx:lkI q x=none)(h1:1≤x∧x≤60)(h2 : -1≤v∧v≤10000000000):okQ (q++[(x,v)]):=by
 refine⟨?_,fun p hp=>?_⟩
 ·rw[List.map_append];refine List.nodup_append.2 ⟨h.1,by simp,fun a ha b hb=>?_⟩;rw[List.map_singleton,Zci]at hb;intro e;rw[e,hb]at ha;exact j1o hx ha
 ·rcases Zaz.1 hp with hp|hp
  ·exact h.2 p hp
  ·rw[Zci.1 hp];exact⟨h1.1,h1.2,h2.1,h2.2⟩
theorem z4x{q:List (Int×Int)}{n v:Int}(h:okQ q)(hn:lkI q n=some v):1≤n∧n≤60 ∧ -1≤v∧v≤10000000000:=h.2 _ (j0e hn)
def arrV:Option Int→Int
 |none=>0
 |some v=>if v<0 then -1 else v+1
def arrD(q:List (Int×Int)):List D:=(List.range 61).map fun(i:Nat)=>.int .i64 (arrV (lkI q (i:Int)))
theorem q6T(q:List (Int×Int)):(arrD q).length=61:=by simp[arrD]
theorem z3i(q:List (Int×Int)){i:Nat}(h:i<61):(arrD q)[i]?=some (.int .i64 (arrV (lkI q i))):=by
 simp[arrD,h]
theorem j5D{q:List (Int×Int)}{x v:Int}(hx:lkI q x=none)(h1:1≤x∧x≤60):(arrD q).set x.toNat (.int .i64 (arrV (some v)))=arrD (q++[(x,v)]):=by
 refine List.ext_getElem? fun i=>?_
 by_cases hi:i<61
 ·rw[z3i _ hi,List.getElem?_set,z6X]
  by_cases e:x.toNat=i
  ·rw[if_pos e,if_pos (by rw[q6T];omega),show((i:Nat):Int)=x by omega,hx,if_pos rfl];rfl
  ·rw[if_neg e,z3i _ hi,if_neg (by omega),Option.or_none]
 ·rw[Zbm (by rw[List.length_set,q6T];omega),Zbm (by rw[q6T];omega)]
/-! ### Tables -/
def numG(s:List UInt8)(k:Nat):Option (Nat×Nat):=
 if(q0p s k).length<1∨10<(q0p s k).length then none
 else(digF (q0p s k) 0).map fun n=>(n,k+(q0p s k).length)
theorem j3B:∀{w:List UInt8} {m n:Nat},digF w m=some n→n<(m+1)*10 ^ w.length
 |[],m,n,h=>by cases h;simp
 |c::r,m,n,h=>by
  rw[digF]at h;split at h
  ·cases h
  ·have h1:=j3B h;rw[Zae,Zdk];refine Zcf h1 ?_;rw[show(m+1)*(10 ^ r.length*10)=((m+1)*10)*10 ^ r.length by rw[Nat.mul_comm (10 ^ r.length),Nat.mul_assoc]];exact Zby _ (by omega)
theorem q5M{s:List UInt8}{k n e:Nat}(h:numG s k=some (n,e)):k<e∧e≤s.length∧n<10000000000:=by
 unfold numG at h;split at h
 ·cases h
 ·rename_i hl;have hw:=q0I s k;cases hd:digF (q0p s k) 0 with
  |none=>rw[hd]at h;cases h
  |some m=>
   rw[hd]at h;cases h;have h1:=j3B hd;have h2:(10:Nat) ^ (q0p s k).length≤10 ^ 10:=Zct (by omega) (by omega);omega
def linG(s:List UInt8)(k:Nat):Option (Nat×Bool×Nat):=
 match numG s (q0l s k)with
 |none=>none
 |some (n,e)=>match numG s (q0l s e)with
  |none=>none
  |some (_,f)=>
   if q0p s (q0l s f)=[110]then some (n,true,q0l s f+1)
   else if q0p s (q0l s f)=[102]then some (n,false,q0l s f+1)else none
theorem j0d{s:List UInt8}{k n e:Nat}{b:Bool}(hk:k≤s.length)(h:linG s k=some (n,b,e)):k<e∧e≤s.length∧n<10000000000:=by
 unfold linG at h;cases h1:numG s (q0l s k)with
 |none=>rw[h1]at h;cases h
 |some p=>
  obtain⟨m,e1⟩:=p;rw[h1]at h;simp only at h;have g1:=q5M h1;have gk:=q0r hk;cases h2:numG s (q0l s e1)with
  |none=>rw[h2]at h;cases h
  |some p=>
   obtain⟨m2,e2⟩:=p;rw[h2]at h;simp only at h;have g2:=q5M h2;have gk1:=q0r g1.2.1;have gk2:=q0r g2.2.1;have hw:=q0I s (q0l s e2);split at h
   ·rename_i hw1;rw[hw1]at hw;cases h;simp only[Zcg]at hw;omega
   ·split at h
    ·rename_i hw1;rw[hw1]at hw;cases h;simp only[Zcg]at hw;omega
    ·cases h
def stpG(q:List (Int×Int))(x:Int)(n:Nat)(b:Bool):List (Int×Int):=
 if lkI q x=none∧1≤x∧x≤60 then q++[(x,if b=true then(n:Int)else -1)]else q
theorem j0K{q:List (Int×Int)}{x:Int}{n:Nat}{b:Bool}(h:okQ q)(hn:n<10000000000):okQ (stpG q x n b):=by
 unfold stpG;split
 ·rename_i hc;exact j8p h hc.1 hc.2 (by split<;>omega)
 ·exact h
def lnsG(s:List UInt8):Nat→Int→Nat→List (Int×Int)→List (Int×Int)×Option Nat
 |0,_,k,q=>(q,some k)
 |m+1,x,k,q=>match linG s k with
  |none=>(q,none)
  |some (n,b,e)=>lnsG s m (x+1) e (stpG q x n b)
theorem j4o{s:List UInt8}:∀{m:Nat} {x:Int} {k:Nat} {q:List (Int×Int)},okQ q→k≤s.length→okQ (lnsG s m x k q).1∧∀e,(lnsG s m x k q).2=some e→k≤e∧e≤s.length
 |0,_,k,q,h,hk=>⟨h,fun e he=>by cases he;exact⟨Zak _,hk⟩⟩
 |m+1,x,k,q,h,hk=>by
  rw[lnsG];cases hl:linG s k with
  |none=>exact⟨h,fun e he=>by cases he⟩
  |some p=>
   obtain⟨n,b,e⟩:=p;have hle:=j0d hk hl;have ih:=j4o (m:=m) (x:=x+1) (k:=e) (j0K (x:=x) (b:=b) h hle.2.2) hle.2.1;exact⟨ih.1,fun e' he'=>by have:=ih.2 e' he';omega⟩
def secG(s:List UInt8)(k:Nat)(q:List (Int×Int)):List (Int×Int)×Option Nat:=
 match numG s k with
 |none=>(q,none)
 |some (x,e)=>match numG s (q0l s e)with
  |none=>(q,none)
  |some (m,f)=>((lnsG s m x f q).1,(lnsG s m x f q).2.map (q0l s))
theorem j0G{s:List UInt8}{k:Nat}{q:List (Int×Int)}(h:okQ q):okQ (secG s k q).1∧∀e,(secG s k q).2=some e→k<e∧e≤s.length:=by
 unfold secG;cases h1:numG s k with
 |none=>exact⟨h,fun e he=>by cases he⟩
 |some p=>
  obtain⟨x,e1⟩:=p;simp only;have g1:=q5M h1;have gk1:=q0r g1.2.1;cases h2:numG s (q0l s e1)with
  |none=>exact⟨h,fun e he=>by cases he⟩
  |some p=>
   obtain⟨m,f⟩:=p;simp only;have g2:=q5M h2;have hl:=j4o (s:=s) (m:=m) (x:=(x:Int)) (k:=f) h g2.2.1;refine⟨hl.1,fun e he=>?_⟩;cases h3:(lnsG s m x f q).2 with
   |none=>rw[h3]at he;cases he
   |some e3=>
    rw[h3]at he;cases he;have:=hl.2 e3 h3;have:=q0r this.2;omega
def trlN:List UInt8:=[116,114,97,105,108,101,114]
def scsG(s:List UInt8):Nat→Nat→List (Int×Int)→List (Int×Int)×Option Nat
 |0,_,q=>(q,none)
 |m+1,k,q=>if q0p s k=trlN then(q,some k)else match secG s k q with
  |(q',none)=>(q',none)
  |(q',some e)=>scsG s m e q'
theorem j43{s:List UInt8}:∀{m k:Nat} {q:List (Int×Int)},okQ q→okQ (scsG s m k q).1∧∀e,(scsG s m k q).2=some e→e+7≤s.length
 |0,_,_,h=>⟨h,fun e he=>by cases he⟩
 |m+1,k,q,h=>by
  rw[scsG];split
  ·rename_i hw;refine⟨h,fun e he=>?_⟩;cases he;have:=q0I s k;rw[hw]at this;simp only[trlN,Zae,Zag]at this;omega
  ·have hs:=j0G (s:=s) (k:=k) h;cases h1:secG s k q with
   |mk q' r=>
    rw[h1]at hs;cases r with
    |none=>exact⟨hs.1,fun e he=>by cases he⟩
    |some e=>exact j43 hs.1
def tabG(s:List UInt8)(k:Nat)(q:List (Int×Int)):List (Int×Int)×Nat×Val:=
 if s.length≤k∨q0p s k≠[120,114,101,102]then(q,4,zeroV)
 else match scsG s (s.length+1) (q0l s (k+4)) q with
  |(q',none)=>(q',4,zeroV)
  |(q',some e)=>match q3l s ((e+7:Nat):Int)with
   |.bad f=>(q',f,zeroV)
   |.ok v _=>(q',if v.kind=6 then 0 else 8,v)
theorem j0Q{s:List UInt8}{k:Nat}{q:List (Int×Int)}(h:okQ q):okQ (tabG s k q).1:=by
 unfold tabG;split
 ·exact h
 ·have hs:=j43 (s:=s) (m:=s.length+1) (k:=q0l s (k+4)) h;cases h1:scsG s (s.length+1) (q0l s (k+4)) q with
  |mk q' r=>
   rw[h1]at hs;cases r with
   |none=>exact hs.1
   |some e=>
    simp only;split<;>exact hs.1
/-! ### Files -/
def sxrN:List UInt8:=[115,116,97,114,116,120,114,101,102]
def staG(s:List UInt8):Option Nat:=
 if Lib.lastIndex s sxrN<0 then none else(numG s (q0l s ((Lib.lastIndex s sxrN).toNat+9))).map Prod.fst
def prvN:List UInt8:=[80,114,101,118]
def rotN:List UInt8:=[82,111,111,116]
def lenN:List UInt8:=[76,101,110,103,116,104]
def filN:List UInt8:=[70,105,108,116,101,114]
def natG(v:Val):Prop:=v.kind=2∧0≤v.n∧v.n.tmod 1000=0
instance (v:Val):Decidable (natG v):=inferInstanceAs (Decidable (_∧_∧_))
theorem z9W{nm:List UInt8}{p:Val}:∀{l:List Fld},getV nm l=some p→∃x∈l,x.v=p
 |[],h=>by cases h
 |x::r,h=>by
  rw[getV]at h;split at h
  ·cases h;exact⟨x,by simp,rfl⟩
  ·obtain⟨y,h1,h2⟩:=z9W h;exact⟨y,by simp[h1],h2⟩
theorem j5p:∀{p:Option (List UInt8)} {l:List Fld} {x:Fld},q3O p l=true→x∈l→q1F x.v=true
 |_,[],x,_,hx=>by cases hx
 |p,.mk nm v::r,x,h,hx=>by
  simp only[q3O,Zah]at h;rcases Zba.1 hx with rfl|hx
  ·exact h.1.2.1
  ·exact j5p h.2 hx
theorem z3y{v p:Val}{nm:List UInt8}(h:q1F v=true)(hg:getV nm v.f=some p):q1F p=true:=by
 obtain⟨x,hx,rfl⟩:=z9W hg;cases v with
 |mk k n s l f=>
  have hne:f.length≠0:=by have:=List.length_pos_of_mem hx;simp only[Val.f]at this;omega
  unfold q1F at h;simp only[hne,decide_false,Bool.and_false]at h
  by_cases k6:k=6
  ·subst k6;simp only[show ¬(6:Int)=0 by decide,show ¬(6:Int)=1 by decide,show ¬(6:Int)=2 by decide,show ¬(6:Int)=3 by decide,show ¬(6:Int)=4 by decide,show ¬(6:Int)=5 by decide,if_true,if_false,Zah]at h;exact j5p h.2.2.2 hx
  ·simp[k6]at h
theorem j7i{p:Val}(h:q1F p=true)(h2:p.kind=2):Lim p.n:=by
 cases p with
 |mk k n s l f=>
  simp only[Val.kind]at h2;subst h2;unfold q1F at h;simp only[show ¬(2:Int)=0 by decide,show ¬(2:Int)=1 by decide,if_true,if_false,Zah,decide_eq_true_eq]at h;exact h.1
theorem z3p{p:Val}(h:natG p)(hw:q1F p=true):∃j:Nat,p.n.tdiv 1000=j∧j≤1000000:=by
 have h1:=j7i hw h.1;have h2:=h.2.1;obtain⟨m,hm⟩:∃m:Nat,p.n=m:=⟨p.n.toNat,by omega⟩;rw[hm];refine⟨m / 1000,rfl,?_⟩;have:=h1.2;omega
theorem z0T{s:List UInt8}{k:Int}{v:Val}{e:Nat}(h:q3l s k=.ok v e):q1F v=true:=by
 unfold q3l at h;split at h
 ·cases h
 ·split at h
  ·cases h
  ·split at h
   ·rename_i hf;cases h;unfold q4q at hf;split at hf
    ·cases hf
    ·split at hf
     ·assumption
     ·cases hf
   ·cases h
theorem z9n{s:List UInt8}{k:Nat}{q:List (Int×Int)}:q1F (tabG s k q).2.2=true:=by
 unfold tabG;split
 ·rfl
 ·split
  ·rfl
  ·split
   ·rfl
   ·rename_i h;exact z0T h
def opnG(s:List UInt8):Nat→Nat→List Nat→List (Int×Int)→Option Val→Nat×List (Int×Int)×Val
 |m,k,seen,q,t=>
  if k∈seen then(7,[],zeroV)else match m with
  |0=>(2,[],zeroV)
  |m+1=>
   if(tabG s k q).2.1≠0 then((tabG s k q).2.1,[],zeroV)
   else match getV prvN (tabG s k q).2.2.f with
    |none=>(0,(tabG s k q).1,t.getD (tabG s k q).2.2)
    |some p=>if natG p then opnG s m (p.n.tdiv 1000).toNat (seen++[k]) (tabG s k q).1 (some (t.getD (tabG s k q).2.2))else(8,[],zeroV)
def z1V(s:List UInt8):Nat×List (Int×Int)×Val:=
 if 60000<s.length then(2,[],zeroV)
 else if q44 s [37,80,68,70,45]=true then match staG s with
  |none=>(4,[],zeroV)
  |some k=>opnG s 8 k [] [] none
 else(4,[],zeroV)
/-! ### Objects -/
structure ObG where
 n:Int
 v:Val
 st:Bool
 data:List UInt8
def ObG.d(o:ObG):D:=.agg [.int .i64 o.n,.int .i64 o.v.kind,.int .i64 o.v.n,.str o.v.s,.list (q0m o.v.l),.list (q0k o.v.f),.bool o.st,.str o.data]
def q9A:ObG:=⟨0,zeroV,false,[]⟩
def hedG(s:List UInt8):Nat→List (List UInt8)→Option Nat
 |k,[]=>some k
 |k,w::r=>if q0p s (q0l s (q2y s k))=w then hedG s (q0l s (q2y s k)+w.length) r else none
def strG(s:List UInt8)(n:Int)(v:Val)(k:Nat):Nat×ObG:=
 match getV lenN v.f with
 |none=>(8,q9A)
 |some p=>
  if natG p then
   let k1:=if s[k]?=some 13 then k+1 else k
   if s[k1]?=some 10 then
    let m:=(p.n.tdiv 1000).toNat
    if s.length<k1+1+m then(5,q9A)
    else if 20000<m then(2,q9A)
    else if q0p s (q0l s (k1+1+m))=[101,110,100,115,116,114,101,97,109]then(0,⟨n,v,true,(s.drop (k1+1)).take m⟩)
    else(4,q9A)
   else(4,q9A)
  else(8,q9A)
def getG(s:List UInt8)(q:List (Int×Int))(n:Int):Nat×ObG:=
 match lkI q n with
 |none=>(6,q9A)
 |some k=>
  if k<0 then(6,q9A)
  else match hedG s k.toNat [Lib.decDigits n.toNat,[48],[111,98,106]]with
   |none=>(4,q9A)
   |some k=>match q3l s (k:Int)with
    |.bad e=>(e,q9A)
    |.ok v e=>
     if q0p s (q0l s e)=[101,110,100,111,98,106]then(0,⟨n,v,false,[]⟩)
     else if q0p s (q0l s e)=[115,116,114,101,97,109]then strG s n v (q0l s e+6)
     else(4,q9A)
def folG(s:List UInt8)(q:List (Int×Int)):Nat→Val→Nat×Val
 |0,_=>(7,zeroV)
 |m+1,v=>
  if v.kind=7 then
   if(getG s q v.n).1=6 then(0,zeroV)
   else if(getG s q v.n).1≠0 then((getG s q v.n).1,zeroV)
   else folG s q m (getG s q v.n).2.v
  else(0,v)
def z5r(s:List UInt8)(q:List (Int×Int)):List Val→List (List UInt8)→Nat×List (List UInt8)
 |[],acc=>(0,acc)
 |x::r,acc=>
  if(folG s q 8 x).1≠0 then((folG s q 8 x).1,[])
  else if(folG s q 8 x).2.kind=4 then z5r s q r (acc++[(folG s q 8 x).2.s])
  else(8,[])
def z1l(s:List UInt8)(q:List (Int×Int))(o:ObG):Nat×List (List UInt8):=
 match getV filN o.v.f with
 |none=>(0,[])
 |some v=>
  if(folG s q 8 v).1≠0 then((folG s q 8 v).1,[])
  else z5r s q (if(folG s q 8 v).2.kind=5 then(folG s q 8 v).2.l else if(folG s q 8 v).2.kind=0 then[]else[(folG s q 8 v).2]) []
def j1s(s:List UInt8):Option (List UInt8×Nat)→AV→List AObj→Prop
 |some (b,k),r,hs=>r=.d (.str b)∧hs=[robj s k 0]
 |none,r,hs=>∃(b:List UInt8) (k:Int),r=.d (.str b)∧hs=[robj s k 4]
def q4F:q0g:=
 Qr [Qx 2 (.k (.d (.str [])))] (Qr [Qc 6 0,Qn 7 6,Qf 8 1 7,Ql 9 8,Qk 10 .add 9 1,Qn 11 6,Qf 12 1 11,Qs 1 12 10] (.seq (.dreg [Qc 13 0,Qn 14 13,Qf 15 0 14,Ql 16 15,Qc 17 
 0,Qn 18 17,Qf 19 1 18,Ql 20 19,Qj 21 39 [16,20],Qa 3 21]) (Qr [Qc 22 0,Qn 23 22,Qf 24 1 23,Ql 25 24,Qc 26 3,Qz 27 true 26,Qb 28 .add 25 27,Qn 29 22,Qf 30 1 29,Qs 1 
 30 28] (Qr [⟨some 4,.nils 5 1,none⟩] (.seq (Qr [Qx 5 (Ki 0)] (.block 0 (.loop (.seq (Qr [Qc 31 5,Qc 32 3,Qz 33 true 32,Qb 34 .lss 31 33] (.cond (.t 34) .skip (.exit 0))) 
 (.seq (.block 1 (.seq (Qr [Qc 37 3,Qc 38 5,Q 39 (.idxS (.t 37) (.t 38)),Q 40 (.bin .neq (.t 39) (Kb 35))] (.cond (.t 40) (Qr [Qc 41 4,Qc 42 3,Qc 43 5,Q 44 (.idxS (.t 42) 
 (.t 43)),⟨some 45,.bsl 5 1 [.t 44],none⟩,⟨some 46,.app 5 1 1 false (.t 41) (.t 45),none⟩,Qa 4 46] (.exit 1)) .skip)) (.seq (Qr [Qc 47 5,Qk 48 .add 47 2,Qc 49 3,Qz 50 
 true 49,Qb 51 .geq 48 50,Qc 52 51,Qd 53 3 52 false,Qd 54 5 52 false,Qg 55 (.bin .add (.t 54) (Ki 1)) 52 false,Qg 56 (.idxS (.t 53) (.t 55)) 52 false,⟨some 57,.call 132 
 [.t 56],some (52,false)⟩,Qg 58 (.bin .lss (.t 57) (Ki 0)) 52 false,Qo 59 52 58,Qc 60 59,Qd 61 3 60 false,Qd 62 5 60 false,Qg 63 (.bin .add (.t 62) (Ki 2)) 60 false,Qg 64 
 (.idxS (.t 61) (.t 63)) 60 false,⟨some 65,.call 132 [.t 64],some (60,false)⟩,Qg 66 (.bin .lss (.t 65) (Ki 0)) 60 false,Qo 67 60 66] (.cond (.t 67) (Qr [Qc 68 0,Q 69 (.mkI 
 49 (Ki 4)),Qq 70 63 [68,69]] (Qr [Qx 2 (.k (.d (.str [])))] .ret)) .skip)) (.seq (.dreg [Qc 71 4,Qc 72 3,Qc 73 5,Qk 74 .add 73 1,Q 75 (.idxS (.t 72) (.t 74)),Qj 76 132 
 [75],Q 77 (.bin .mul (Ki 16) (.t 76)),Qc 78 3,Qc 79 5,Qk 80 .add 79 2,Q 81 (.idxS (.t 78) (.t 80)),Qj 82 132 [81],Qb 83 .add 77 82,Q 84 (.cvI .u8 (.t 83)),⟨some 85,.bsl 
 5 1 [.t 84],none⟩,⟨some 86,.app 5 1 1 false (.t 71) (.t 85),none⟩,Qa 4 86]) (.reg [Qc 87 5,Qk 88 .add 87 2,Qa 5 88]))))) (.reg [Qc 35 5,Qk 36 .add 35 1,Qa 5 36])))))) 
 (.seq (Qr [Qc 89 4,Q 90 (.b2s (.t 89)),Qj 91 133 [90],Qh 92 91] (.cond (.t 92) (.reg [Qc 93 0,Q 94 (.mkI 49 (Ki 4)),Qq 95 63 [93,94]]) .skip)) (Qr [Qc 96 4,Q 97 (.b2s (.t 
 96)),Qa 2 97] .ret)))))))
def q4U:List LRes:=[.tmp 2]
theorem q7c:q0n Tryz.prog 84 98 q4F q4U:=⟨_,_,Tryz.func84,rfl,by kernel_rfl,by kernel_rfl,rfl⟩
theorem z8F(s:List UInt8)(k:Nat)(hs:s.length≤60000)(hk:k<s.length):q6J Tryz.prog 84 [.ptr (.x 0) 0] [robj s k 0] (j1s s (q5W s k)):=by
 have hw:=q16 s ((k+1:Nat):Int) (by omega);rw[q0h (by omega)]at hw;have hwl:=q0I s (k+1);generalize hR:q5W s k=R;unfold q5W at hR;generalize q0p s (k+1)=w at *;rw[Zaa,Zbz]at hw;rw[q0x];refine q7c.q0C (by kernel_rfl) rfl ?_;simp(maxSteps:=2000000)(disch:=omega)only[go_sem,↓reduceIte,q4F,q4U];refine q1E.of hw ?_;simp(maxSteps:=2000000)(disch:=omega)only[go_sem,↓reduceIte]
 refine q0f (fun y:Nat×List UInt8=>⟨[(0,.ptr (.x 0) 0),(3,.d (.str w)),(4,.own (.t 4) 5 1 (q0v y.2)),(5,.d (.int .i64 y.1))],[],[(0,.cells [.d (.str s),.d (.int .i64 ((k:Int)+1+w.length)),.d .nil])]⟩)
  (fun y=>y.1≤w.length∧y.2.length≤y.1∧q7S (w.drop y.1) y.2=q7S w []) (fun y=>w.length-y.1) (0,[]) ?_ ?_ ?_
 ·refine Weak.mk ?_ ?_ ?_<;>simp(maxSteps:=2000000)only[go_sem,↓reduceIte,Sub,Zaa,Zab,q0v]
 ·exact⟨by simp,by simp,by simp⟩
 ·rintro⟨i,b⟩ ⟨hi,hb,hF⟩;simp only at hi hb hF;have hblen:=q0o b;have hf:=q6X s ((k:Int)+1+w.length) 4;rw[q0x,show errD 4=.iface 49 (.int .i64 4)from rfl]at hf;simp(maxSteps:=2000000)only[go_sem,↓reduceIte];refine⟨fun hlt=>?_,fun hge=>?_⟩
  ·obtain⟨c,hc⟩:=get_some (l:=w) (i:=i) (by omega);have hc8:=q1Q c;rw[q0W hc]at hF;have bad:R=none→j1s s R (.d (.str [])) [robj s ((k:Int)+1+w.length) 4]:=fun e=>by rw[e];exact⟨[],_,rfl,rfl⟩
   simp(maxSteps:=2000000)only[go_sem,↓reduceIte,q0a,hc];refine⟨fun h1=>?_,fun h1=>⟨fun h2=>?_,fun h2=>?_⟩⟩
   ·rw[z8E (by omega)]at hF;simp(disch:=omega)only[IntWalk.i64_in,IntWalk.u8_in];refine⟨by omega,(i+1,b++[c]),?_,⟨by simp only;omega,by simp only[Zad,Zae,Zag];omega,hF⟩,by simp only;omega⟩;refine Weak.mk ?_ ?_ ?_<;>simp(maxSteps:=2000000)only[go_sem,↓reduceIte,Sub,Zaa,Zab,q0j,q0L,q06]
   ·rw[IntWalk.i64_in _ (by omega)]at h2;obtain⟨x,hx⟩:=get_some (l:=w) (i:=i+1) (by omega);obtain⟨y,hy⟩:=get_some (l:=w) (i:=i+2) (by omega);have hx8:=q1Q x;have hy8:=q1Q y;have hxb:=q3F x.toNat;have hyb:=q3F y.toNat;rw[q0W hx,q0W hy,z8D (by omega)]at hF;have g1:getI w ((i:Int)+1)=some x:=by rw[q3z,hx]
    have g2:getI w ((i:Int)+2)=some y:=by rw[show(i:Int)+2=((i+2:Nat):Int) by omega,q0a,hy]
    simp(maxSteps:=2000000)(disch:=omega)only[go_sem,↓reduceIte,g1];refine q0c.of (q9C (n:=x.toNat) (by omega)) ?_;simp(maxSteps:=2000000)(disch:=omega)only[go_sem,↓reduceIte];refine⟨fun h3=>?_,fun h3=>?_⟩
    ·simp(maxSteps:=2000000)(disch:=omega)only[go_sem,↓reduceIte,g2];refine q0c.of (q9C (n:=y.toNat) (by omega)) ?_;simp(maxSteps:=2000000)(disch:=omega)only[go_sem,↓reduceIte];refine⟨fun h4=>?_,fun h4=>?_⟩
     ·rw[if_pos (.inr h4)]at hF;rw[←hF]at hR;refine q0e.mc1 (.x 0) rfl (hf) rfl rfl rfl rfl ⟨rfl,rfl⟩ ?_;simp(maxSteps:=2000000)only[go_sem,↓reduceIte,robj];exact bad hR.symm
     ·rw[if_neg (by omega)]at hF;have hsn:=q1Z (b:=b) (n:=16*hexI x.toNat+hexI y.toNat) (by omega) (by omega);simp(maxSteps:=2000000)(disch:=omega)only[go_sem,↓reduceIte,g1];refine q1E.of (q9C (n:=x.toNat) (by omega)) ?_;simp(maxSteps:=2000000)(disch:=omega)only[go_sem,↓reduceIte,g2];refine q1E.of (q9C (n:=y.toNat) (by omega)) ?_;simp(maxSteps:=2000000)(disch:=omega)only[go_sem,↓reduceIte];rw[hsn]
      refine⟨by omega,(i+3,b++[q46 (16*hexI x.toNat+hexI y.toNat)]),?_,⟨by simp only;omega,by simp only[Zad,Zae,Zag];omega,hF⟩,by simp only;omega⟩;have e3:((i+3:Nat):Int)=(i:Int)+2+1:=by omega
      refine Weak.mk ?_ ?_ ?_<;>simp(maxSteps:=2000000)only[go_sem,↓reduceIte,Sub,Zaa,Zab,e3]
    ·rw[if_pos (.inl h3)]at hF;rw[←hF]at hR;refine q0e.mc1 (.x 0) rfl (hf) rfl rfl rfl rfl ⟨rfl,rfl⟩ ?_;simp(maxSteps:=2000000)only[go_sem,↓reduceIte,robj];exact bad hR.symm
   ·rw[IntWalk.i64_in _ (by omega)]at h2;rw[z8C (by omega) (by rw[Zau];omega)]at hF;rw[←hF]at hR;refine q0e.mc1 (.x 0) rfl (hf) rfl rfl rfl rfl ⟨rfl,rfl⟩ ?_;simp(maxSteps:=2000000)only[go_sem,↓reduceIte,robj];exact bad hR.symm
  ·rw[Zai (by omega),q7S]at hF;rw[←hF]at hR;simp(maxSteps:=2000000)only[go_sem,↓reduceIte,q0q];refine q0c.of (q9j b) ?_;simp(maxSteps:=2000000)only[go_sem,↓reduceIte];refine⟨fun h1=>?_,fun h1=>?_⟩
   ·refine q0e.mc1 (.x 0) rfl (hf) rfl rfl rfl rfl ⟨rfl,rfl⟩ ?_;simp(maxSteps:=2000000)only[go_sem,↓reduceIte,robj,q0q];rw[←hR];simp only[h1];exact⟨b,_,rfl,rfl⟩
   ·simp(maxSteps:=2000000)only[go_sem,↓reduceIte,q0q];rw[←hR];simp only[h1,if_true];refine⟨rfl,?_⟩;simp only[robj,Zaa,Zbz];rfl
def q4c:q0g:=
 Qr [Qx 2 (.k (.d (.str [])))] (Qr [Qc 7 0,Qn 8 7,Qf 9 1 8,Ql 10 9,Qk 11 .add 10 1,Qn 12 7,Qf 13 1 12,Qs 1 13 11] (Qr [⟨some 3,.nils 5 1,none⟩] (Qr [Qx 4 (Ki (-1))] (.seq 
 (.block 0 (.loop (.seq (.seq (.dreg [Qc 14 0,Qn 15 14,Qf 16 1 15,Ql 17 16,Qc 18 0,Qn 19 18,Qf 20 0 19,Ql 21 20,Qz 22 true 21,Qb 23 .lss 17 22]) (.cond (.t 23) .skip 
 (.exit 0))) (.seq (.block 1 (.seq (.dreg [Qc 31 0,Qn 32 31,Qf 33 0 32,Ql 34 33,Qc 35 0,Qn 36 35,Qf 37 1 36,Ql 38 37,Q 39 (.idxS (.t 34) (.t 38)),Qa 5 39]) (Qr [Qc 40 5, 
 Qj 41 132 [40],Qa 6 41] (.block 2 (Qr [Qc 51 5,Q 52 (.bin .eql (.t 51) (Kb 62)),Qa 50 52] (.cond (.t 50) (Qr [Qc 53 0,Qn 54 53,Qf 55 1 54,Ql 56 55,Qk 57 .add 56 1,Qn 58 
 53,Qf 59 1 58,Qs 1 59 57] (.seq (Qr [Qc 60 4,Qk 61 .geq 60 0] (.cond (.t 61) (.reg [Qc 62 3,Qc 63 4,Q 64 (.bin .mul (Ki 16) (.t 63)),Q 65 (.cvI .u8 (.t 64)),⟨some 66,.bsl 
 5 1 [.t 65],none⟩,⟨some 67,.app 5 1 1 false (.t 62) (.t 66),none⟩,Qa 3 67]) .skip)) (Qr [Qc 68 3,Q 69 (.b2s (.t 68)),Qa 2 69] .ret))) (Qr [Qc 71 5,Qj 72 60 [71],Qa 70 
 72] (.cond (.t 70) .skip (Qr [Qc 74 6,Qk 75 .lss 74 0,Qa 73 75] (.cond (.t 73) (Qr [Qc 76 0,Q 77 (.mkI 49 (Ki 4)),Qq 78 63 [76,77]] (Qr [Qx 2 (.k (.d (.str [])))] .ret)) (Qr 
 [Qc 80 4,Qk 81 .lss 80 0,Qa 79 81] (.cond (.t 79) (.reg [Qc 82 6,Qa 4 82]) (.reg [Qc 42 3,Qc 43 4,Q 44 (.bin .mul (Ki 16) (.t 43)),Qc 45 6,Qb 46 .add 44 45,Q 47 (.cvI .u8 
 (.t 46)),⟨some 48,.bsl 5 1 [.t 47],none⟩,⟨some 49,.app 5 1 1 false (.t 42) (.t 48),none⟩,Qa 3 49,Qx 4 (Ki (-1))]))))))))))))) (.reg [Qc 24 0,Qn 25 24,Qf 26 1 25,Ql 27 
 26,Qk 28 .add 27 1,Qn 29 24,Qf 30 1 29,Qs 1 30 28]))))) (Qr [Qc 83 0,Q 84 (.mkI 49 (Ki 5)),Qq 85 63 [83,84]] (Qr [Qx 2 (.k (.d (.str [])))] .ret))))))
def q4h:List LRes:=[.tmp 2]
theorem q6K:q0n Tryz.prog 89 86 q4c q4h:=⟨_,_,Tryz.func89,rfl,by kernel_rfl,by kernel_rfl,rfl⟩
theorem j2s(s:List UInt8)(k:Nat)(hs:s.length≤60000)(hk:k<s.length):q6J Tryz.prog 89 [.ptr (.x 0) 0] [robj s k 0]
  (fun r hs'=>r=.d (.str (q1i (s.drop (k+1)) (-1) []).1)∧∃k':Int,hs'=[robj s k' (q1i (s.drop (k+1)) (-1) []).2]∧((q1i (s.drop (k+1)) (-1) []).2=0→k'=(k+1+q89 (s.drop (k+1)):Nat))):=by
 generalize hR:q1i (s.drop (k+1)) (-1) []=R;generalize hE:k+1+q89 (s.drop (k+1))=E;rw[q0x];refine q6K.q0C (by kernel_rfl) rfl ?_;simp(maxSteps:=2000000)(disch:=omega)only[go_sem,↓reduceIte,q4c,q4h];refine q0f (fun y:Nat×List UInt8×Int=>⟨[(0,.ptr (.x 0) 0),(3,.own (.t 3) 5 1 (q0v y.2.1)),(4,.d (.int .i64 y.2.2))],[],[(0,.cells [.d (.str s),.d (.int .i64 y.1),.d .nil])]⟩)
  (fun y=>k+1≤y.1∧y.1≤s.length∧y.2.1.length≤y.1 ∧ -1≤y.2.2∧y.2.2≤15∧y.1+q89 (s.drop y.1)=E∧q1i (s.drop y.1) y.2.2 y.2.1=R) (fun y=>s.length-y.1) (k+1,[],-1) ?_ ?_ ?_
 ·refine Weak.mk ?_ ?_ ?_<;>simp(maxSteps:=2000000)only[go_sem,↓reduceIte,Sub,Zaa,Zab,q0v]
 ·exact⟨Zak _,hk,by simp,by simp,by simp,hE,hR⟩
 ·rintro⟨i,b,h⟩ ⟨hki,hi,hb,hh1,hh2,hE',hF⟩;simp only at hki hi hb hh1 hh2 hE' hF;have hblen:=q0o b;simp(maxSteps:=2000000)only[go_sem,↓reduceIte];refine⟨fun hlt=>?_,fun hge=>?_⟩
  ·obtain⟨c,hc⟩:=get_some (l:=s) (i:=i) (by omega);have hc8:=q1Q c;have hxb:=q3F c.toNat;rw[q0W hc]at hF hE';unfold q1i at hF;unfold q89 at hE';simp(maxSteps:=2000000)only[go_sem,↓reduceIte,q0a,hc];refine q0c.of (q9C (n:=c.toNat) (by omega)) ?_;simp(maxSteps:=2000000)only[go_sem,↓reduceIte];refine⟨fun h1=>?_,fun h1=>?_⟩
   ·rw[if_pos (by omega)]at hF hE';simp(maxSteps:=2000000)(disch:=omega)only[go_sem,↓reduceIte];refine⟨fun h2=>?_,fun h2=>?_⟩
    ·rw[if_pos h2]at hF;subst hF;have hsn:=q1Z (b:=b) (n:=16*h) (by omega) (by omega);simp(maxSteps:=2000000)(disch:=omega)only[go_sem,↓reduceIte,hsn,q0q];exact⟨by omega,_,rfl,by omega⟩
    ·rw[if_neg (by omega)]at hF;subst hF;simp(maxSteps:=2000000)(disch:=omega)only[go_sem,↓reduceIte,q0q];exact⟨_,rfl,by omega⟩
   ·rw[if_neg (by omega)]at hF hE';refine q0c.of (q7A c.toNat) ?_;simp(maxSteps:=2000000)only[go_sem,↓reduceIte];refine⟨fun h2=>?_,fun h2=>⟨fun h3=>?_,fun h3=>⟨fun h4=>?_,fun h4=>?_⟩⟩⟩
    ·rw[if_pos h2]at hF;simp(disch:=omega)only[IntWalk.i64_in,IntWalk.u8_in];refine⟨(i+1,b,h),?_,⟨by simp only;omega,by simp only;omega,by simp only;omega,hh1,hh2,by simp only;omega,hF⟩,by simp only;omega⟩;refine Weak.mk ?_ ?_ ?_<;>simp(maxSteps:=2000000)only[go_sem,↓reduceIte,Sub,Zaa,Zab]
    ·rw[if_neg (by simp[h2]),if_pos h3]at hF;subst hF;have hf:=q6X s (i:Int) 4;rw[q0x,show errD 4=.iface 49 (.int .i64 4)from rfl]at hf;refine q0e.mc1 (.x 0) rfl (hf) rfl rfl rfl rfl ⟨rfl,rfl⟩ ?_;simp(maxSteps:=2000000)only[go_sem,↓reduceIte,robj];exact⟨_,rfl⟩
    ·rw[if_neg (by simp[h2]),if_neg h3,if_pos h4]at hF;simp(disch:=omega)only[IntWalk.i64_in,IntWalk.u8_in];refine⟨(i+1,b,hexI c.toNat),?_,⟨by simp only;omega,by simp only;omega,by simp only;omega,by simp only;omega,by simp only;omega,by simp only;omega,hF⟩,by simp only;omega⟩;refine Weak.mk ?_ ?_ ?_<;>simp(maxSteps:=2000000)only[go_sem,↓reduceIte,Sub,Zaa,Zab]
    ·rw[if_neg (by simp[h2]),if_neg h3,if_neg h4]at hF;have hsn:=q1Z (b:=b) (n:=16*h+hexI c.toNat) (by omega) (by omega);simp(maxSteps:=2000000)(disch:=omega)only[go_sem,↓reduceIte];rw[hsn];refine⟨by omega,(i+1,b++[q46 (16*h+hexI c.toNat)],-1),?_,⟨by simp only;omega,by simp only;omega,by simp only[Zad,Zae,Zag];omega,by simp,by simp,by simp only;omega,hF⟩,by simp only;omega⟩
     refine Weak.mk ?_ ?_ ?_<;>simp(maxSteps:=2000000)only[go_sem,↓reduceIte,Sub,Zaa,Zab]
  ·rw[Zai (by omega),q1i]at hF;subst hF;have hf:=q6X s (i:Int) 5;rw[q0x,show errD 5=.iface 49 (.int .i64 5)from rfl]at hf;refine q0e.mc1 (.x 0) rfl (hf) rfl rfl rfl rfl ⟨rfl,rfl⟩ ?_;simp(maxSteps:=2000000)only[go_sem,↓reduceIte,robj];exact⟨_,rfl⟩
def escI(o:Option UInt8):Int:=match o with
 |none => -1
 |some b=>b.toNat
theorem idx5(e:UInt8):Lib.indexByte [110,114,116,98,102] e=if e.toNat=110 then 0 else if e.toNat=114 then 1 else if e.toNat=116 then 2 else if e.toNat=98 then 3 else if e.toNat=102 then 4 else -1:=by
 have h:∀i:Fin 256,Lib.indexByte [110,114,116,98,102] (UInt8.ofNat i.val)=if i.val=110 then 0 else if i.val=114 then 1 else if i.val=116 then 2 else if i.val=98 then 3 else if i.val=102 then 4 else -1:=by decide +kernel
 have:=h ⟨e.toNat,q1Q e⟩;simpa using this
theorem j84{n:Int}(h:0≤n∧n≤511):IntKind.i64.wrap (((BitVec.ofInt IntKind.i64.bits n &&& BitVec.ofInt IntKind.i64.bits 255).toNat:Nat):Int)=((q46 n).toNat:Int):=by
 have hd:∀i:Fin 512,IntKind.i64.wrap (((BitVec.ofInt IntKind.i64.bits ((i.val:Nat):Int) &&& BitVec.ofInt IntKind.i64.bits 255).toNat:Nat):Int)=((q46 ((i.val:Nat):Int)).toNat:Int):=by decide +kernel
 have:=hd ⟨n.toNat,by omega⟩;simp only at this;rwa [show((n.toNat:Nat):Int)=n by omega]at this
def q8O:q0g:=
 Qr [Qx 4 (Ki 0),Qx 5 (Ki 0)] (Qr [Qc 10 0,Qc 11 1,Q 12 (.idxS (.t 10) (.t 11)),Qa 6 12] (Qr [Qc 13 6,⟨some 14,.call 173 [.k (.d (.str [110,114,116,98,102])),.t 13], 
 none⟩,Qa 7 14] (.seq (.block 0 (Qr [Qc 16 7,Qk 17 .geq 16 0,Qa 15 17] (.cond (.t 15) (Qr [Qc 18 7,Q 19 (.idxS (.k (.d (.str [10,13,9,8,12]))) (.t 18)),Q 20 (.cvI .i64 
 (.t 19)),Qa 4 20,Qx 5 (Ki 1)] .ret) (Qr [Qc 22 6,Q 23 (.bin .eql (.t 22) (Kb 10)),Qa 21 23] (.cond (.t 21) (Qr [Qx 4 (Ki (-1)),Qx 5 (Ki 1)] .ret) (Qr [Qc 25 6,Q 26 (.bin 
 .eql (.t 25) (Kb 13)),Qc 27 26,Qd 28 1 27 true,Qg 29 (.bin .add (.t 28) (Ki 1)) 27 true,Qd 30 0 27 true,Qg 31 (.len true (.t 30)) 27 true,Qg 32 (.bin .lss (.t 29) (.t 31)) 
 27 true,Qp 33 27 32,Qc 34 33,Qd 35 0 34 true,Qd 36 1 34 true,Qg 37 (.bin .add (.t 36) (Ki 1)) 34 true,Qg 38 (.idxS (.t 35) (.t 37)) 34 true,Qg 39 (.bin .eql (.t 38) (Kb 
 10)) 34 true,Qp 40 34 39,Qa 24 40] (.cond (.t 24) (Qr [Qx 4 (Ki (-1)),Qx 5 (Ki 2)] .ret) (Qr [Qc 42 6,Q 43 (.bin .eql (.t 42) (Kb 13)),Qa 41 43] (.cond (.t 41) (Qr [Qx 4 (Ki 
 (-1)),Qx 5 (Ki 1)] .ret) (Qr [Qc 45 6,Q 46 (.bin .lss (.t 45) (Kb 48)),Qc 47 46,Qd 48 6 47 false,Qg 49 (.bin .gtr (.t 48) (Kb 55)) 47 false,Qo 50 47 49,Qa 44 50] (.cond 
 (.t 44) (Qr [Qc 51 6,Q 52 (.cvI .i64 (.t 51)),Qa 4 52,Qx 5 (Ki 1)] .ret) .skip))))))))))) (Qr [Qx 8 (Ki 0),Qx 9 (Ki 0)] (.seq (.block 1 (.loop (.seq (Qr [Qc 53 9,Qk 54 .lss 
 53 3,Qc 55 54,Qd 56 1 55 true,Qd 57 9 55 true,Qg 58 (.bin .add (.t 56) (.t 57)) 55 true,Qd 59 0 55 true,Qg 60 (.len true (.t 59)) 55 true,Qg 61 (.bin .lss (.t 58) (.t 60)) 
 55 true,Qp 62 55 61,Qc 63 62,Qd 64 0 63 true,Qd 65 1 63 true,Qd 66 9 63 true,Qg 67 (.bin .add (.t 65) (.t 66)) 63 true,Qg 68 (.idxS (.t 64) (.t 67)) 63 true,Qg 69 (.bin 
 .geq (.t 68) (Kb 48)) 63 true,Qp 70 63 69,Qc 71 70,Qd 72 0 71 true,Qd 73 1 71 true,Qd 74 9 71 true,Qg 75 (.bin .add (.t 73) (.t 74)) 71 true,Qg 76 (.idxS (.t 72) (.t 75)) 
 71 true,Qg 77 (.bin .leq (.t 76) (Kb 55)) 71 true,Qp 78 71 77] (.cond (.t 78) .skip (.exit 1))) (.block 2 (Qr [Qc 79 8,Q 80 (.bin .mul (Ki 8) (.t 79)),Qc 81 0,Qc 82 1,Qc 83 
 9,Qb 84 .add 82 83,Q 85 (.idxS (.t 81) (.t 84)),Q 86 (.bin .sub (.t 85) (Kb 48)),Q 87 (.cvI .i64 (.t 86)),Qb 88 .add 80 87,Qa 8 88] (.reg [Qc 89 9,Qk 90 .add 89 1,Qa 9 
 90])))))) (Qr [Qc 91 8,Qk 92 .and 91 255,Qc 93 9,Qa 4 92,Qa 5 93] .ret))))))
def q8W:List LRes:=[.tmp 4,.tmp 5]
theorem z1q:q0n Tryz.prog 134 94 q8O q8W:=⟨_,_,Tryz.func134,rfl,by kernel_rfl,by kernel_rfl,rfl⟩
theorem z7Y(s:List UInt8)(k:Nat)(hs:s.length≤60000)(hk:k<s.length):q0i Tryz.prog 134 [.str s,.int .i64 k] (fun r=>r=.tup [.int .i64 (escI (escL (s.drop k)).1),.int .i64 (escL (s.drop k)).2]):=by
 obtain⟨e,he⟩:=get_some (l:=s) (i:=k) hk;have he8:=q1Q e;have hx:=z0e [110,114,116,98,102] e;rw[idx5]at hx;rw[q0W he];generalize hR:escL (e::s.drop (k+1))=R;rw[escL]at hR;refine z1q.call rfl ?_;simp(maxSteps:=2000000)only[go_sem,↓reduceIte,q8O,q8W,q0a,he];refine q0c.of hx ?_
 by_cases q0:e.toNat=110
 ·rw[if_pos q0]at hR ⊢;subst hR;have g:getI ([10,13,9,8,12]:List UInt8) 0=some 10:=rfl;simp(maxSteps:=2000000)only[go_sem,↓reduceIte,g];rfl
 rw[if_neg q0]at hR ⊢
 by_cases q1:e.toNat=114
 ·rw[if_pos q1]at hR ⊢;subst hR;have g:getI ([10,13,9,8,12]:List UInt8) 1=some 13:=rfl;simp(maxSteps:=2000000)only[go_sem,↓reduceIte,g];rfl
 rw[if_neg q1]at hR ⊢
 by_cases q2:e.toNat=116
 ·rw[if_pos q2]at hR ⊢;subst hR;have g:getI ([10,13,9,8,12]:List UInt8) 2=some 9:=rfl;simp(maxSteps:=2000000)only[go_sem,↓reduceIte,g];rfl
 rw[if_neg q2]at hR ⊢
 by_cases q3:e.toNat=98
 ·rw[if_pos q3]at hR ⊢;subst hR;have g:getI ([10,13,9,8,12]:List UInt8) 3=some 8:=rfl;simp(maxSteps:=2000000)only[go_sem,↓reduceIte,g];rfl
 rw[if_neg q3]at hR ⊢
 by_cases q4:e.toNat=102
 ·rw[if_pos q4]at hR ⊢;subst hR;have g:getI ([10,13,9,8,12]:List UInt8) 4=some 12:=rfl;simp(maxSteps:=2000000)only[go_sem,↓reduceIte,g];rfl
 rw[if_neg q4]at hR ⊢
 by_cases q5:e.toNat=10
 ·rw[if_pos q5]at hR;subst hR;have z:((e.toNat:Int)=10)=True:=eq_true (by omega);simp(maxSteps:=2000000)only[go_sem,↓reduceIte,z];rfl
 rw[if_neg q5]at hR;have z5:((e.toNat:Int)=10)=False:=eq_false (by omega)
 by_cases q6:e.toNat=13
 ·rw[if_pos q6]at hR;have z:((e.toNat:Int)=13)=True:=eq_true (by omega);simp(maxSteps:=2000000)(disch:=omega)only[go_sem,↓reduceIte,z5,z];refine⟨fun h1=>?_,fun h1=>?_⟩
  ·obtain⟨x,hx⟩:=get_some (l:=s) (i:=k+1) (by omega);have hx8:=q1Q x;have g:getI s ((k:Int)+1)=some x:=by rw[q3z,hx]
   have hh:(s.drop (k+1)).head?=some x:=by rw[q0W hx];rfl
   rw[hh]at hR;simp(maxSteps:=2000000)(disch:=omega)only[go_sem,↓reduceIte,g];refine⟨fun h2=>?_,fun h2=>?_⟩
   ·rw[if_pos (by simp;omega)]at hR;subst hR;rfl
   ·rw[if_neg (by simp;omega)]at hR;subst hR;exact⟨fun _=>rfl,fun h=>absurd (show(e.toNat:Int)=13 by omega) h⟩
  ·rw[Zai (by omega)]at hR;rw[if_neg (by simp)]at hR;subst hR;rfl
 rw[if_neg q6]at hR;have z6:((e.toNat:Int)=13)=False:=eq_false (by omega)
 by_cases q7:octB e=true
 ·rw[if_neg (by simp[q7])]at hR;have q7':=q7;simp only[octB,Zah,decide_eq_true_eq]at q7';have z7:((e.toNat:Int)<48)=False:=eq_false (by omega);have z8:(55<(e.toNat:Int))=False:=eq_false (by omega);simp(maxSteps:=2000000)only[go_sem,↓reduceIte,z5,z6,z7,z8];have h0:octG 3 0 (s.drop k) 0=octG 2 (oct1 e) (s.drop (k+1)) 1:=by
   rw[q0W he,octG,if_pos q7];congr 1;simp
  unfold octL at hR;rw[←h0]at hR;generalize hG:octG 3 0 (s.drop k) 0=G at hR;refine q0f (fun y:Nat×Int=>⟨[(0,.d (.str s)),(1,.d (.int .i64 k)),(8,.d (.int .i64 y.2)),(9,.d (.int .i64 y.1))],[],[]⟩)
   (fun y=>y.1≤3∧k+y.1≤s.length∧0≤y.2∧y.2≤511∧(y.1=0→y.2=0)∧(y.1=1→y.2≤7)∧(y.1=2→y.2≤63)∧octG (3-y.1) y.2 (s.drop (k+y.1)) y.1=G) (fun y=>3-y.1) (0,0) ?_ ?_ ?_
  ·refine q0d ?_ trivial;simp(maxSteps:=2000000)only[go_sem,↓reduceIte,Sub,Zaa,Zab]
  ·exact⟨by simp,by simp only;omega,by simp,by simp,by simp,by simp,by simp,hG⟩
  ·rintro⟨j,v⟩ ⟨hj,hjl,hv0,hv1,hv2,hv3,hv4,hF⟩;simp only at hj hjl hv0 hv1 hv2 hv3 hv4 hF;have stop:octG (3-j) v (s.drop (k+j)) j=(v,j)→Res.tup [D.int .i64 (IntKind.i64.wrap (((BitVec.ofInt IntKind.i64.bits v &&& BitVec.ofInt IntKind.i64.bits 255).toNat:Nat):Int)),D.int .i64 j]=Res.tup [D.int .i64 (escI R.1),D.int .i64 R.2]:=fun h=>by
    rw[h]at hF;subst hF;subst hR;rw[j84 ⟨hv0,hv1⟩];rfl
   have ej:(k:Int)+(j:Int)=((k+j:Nat):Int):=by omega
   simp(maxSteps:=2000000)(disch:=omega)only[go_sem,↓reduceIte];refine⟨fun c1=>⟨fun c2=>?_,fun c2=>stop (z4v fun x q h=>by rw[Zai (by omega)]at h;cases h)⟩,fun c1=>stop (by rw[show 3-j=0 by omega];rfl)⟩;obtain⟨x,hx⟩:=get_some (l:=s) (i:=k+j) (by omega);have hx8:=q1Q x;have stop2:=fun(h:octB x=false)=>stop (z4v fun x' q h'=>by rw[q0W hx]at h';cases h';exact h)
   have gx:getI s ((k:Int)+(j:Int))=some x:=by rw[ej,q0a,hx]
   simp(maxSteps:=2000000)(disch:=omega)only[go_sem,↓reduceIte,gx];refine⟨fun c3=>⟨fun c4=>?_,fun c4=>stop2 (by simp[octB];omega)⟩,fun c3=>stop2 (by simp[octB];omega)⟩;have ox:octB x=true:=by simp[octB];omega
   rw[q0W hx,show 3-j=(3-(j+1))+1 by omega,octG,if_pos ox]at hF;refine⟨(j+1,8*v+oct1 x),?_,⟨by simp only;omega,by simp only;omega,by simp only[oct1];omega,by simp only[oct1];omega,by simp only;omega,by simp only[oct1];omega,by simp only[oct1];omega,hF⟩,by simp only;omega⟩;have zz:decide ((x.toNat:Int)≤55)=true:=by simpa using c4
   refine q0d ?_ trivial;simp(maxSteps:=2000000)only[go_sem,↓reduceIte,Sub,Zaa,Zab,oct1,zz];all_goals((repeat' apply And.intro)<;>(congr 2<;>omega))
 ·have q7:octB e=false:=by simpa using q7
  rw[if_pos q7]at hR;subst hR;simp(maxSteps:=2000000)only[go_sem,↓reduceIte,z5,z6];rw[IntWalk.i64_in _ (by omega)];refine⟨fun h1=>?_,fun h1=>rfl⟩;refine⟨fun h2=>rfl,fun h2=>?_⟩;simp[octB]at q7;exfalso;omega
theorem j9f{t:List UInt8}(ht:t≠[]):1≤(escL t).2∧(escL t).2≤t.length:=by
 cases t with
 |nil=>exact absurd rfl ht
 |cons e r=>
  have g:∀(m:Nat) (v:Int) (q:List UInt8) (k:Nat),k≤(octG m v q k).2∧(octG m v q k).2≤k+q.length:=fun m=>by
   induction m with
   |zero=>intro v q k;simp[octG]
   |succ m ih=>
    intro v q k;cases q with
    |nil=>simp[octG]
    |cons x q=>
     rw[octG];split
     ·have:=ih (8*v+oct1 x) q (k+1);simp only[Zae];omega
     ·simp
  have h3:=g 2 (oct1 e) r 1;rw[escL];simp only[Zae];repeat' split
  all_goals first
   |(simp only[octL];omega)
   |(simp only;omega)
   |skip
  all_goals
   rename_i h;cases r with
   |nil=>simp at h
   |cons x q=>simp only[Zae];omega
def q3m:q0g:=
 Qr [Qx 2 (.k (.d (.str [])))] (Qr [Qc 8 0,Qn 9 8,Qf 10 1 9,Ql 11 10,Qk 12 .add 11 1,Qn 13 8,Qf 14 1 13,Qs 1 14 12] (Qr [⟨some 3,.nils 5 1,none⟩] (Qr [Qx 4 (Ki 1)] (.seq 
 (.block 0 (.loop (.seq (.seq (.dreg [Qc 15 0,Qn 16 15,Qf 17 1 16,Ql 18 17,Qc 19 0,Qn 20 19,Qf 21 0 20,Ql 22 21,Qz 23 true 22,Qb 24 .lss 18 23]) (.cond (.t 24) .skip 
 (.exit 0))) (.block 1 (.seq (.dreg [Qc 25 0,Qn 26 25,Qf 27 0 26,Ql 28 27,Qc 29 0,Qn 30 29,Qf 31 1 30,Ql 32 31,Q 33 (.idxS (.t 28) (.t 32)),Qa 5 33]) (Qr [Qc 34 0,Qn 35 
 34,Qf 36 1 35,Ql 37 36,Qk 38 .add 37 1,Qn 39 34,Qf 40 1 39,Qs 1 40 38] (.seq (Qr [Qc 41 5] (.block 2 (Qr [Q 43 (.bin .eql (.t 41) (Kb 92)),Qa 42 43] (.cond (.t 42) (.seq 
 (.seq (.dreg [Qc 44 0,Qn 45 44,Qf 46 1 45,Ql 47 46,Qc 48 0,Qn 49 48,Qf 50 0 49,Ql 51 50,Qz 52 true 51,Qb 53 .eql 47 52]) (.cond (.t 53) (.exit 1) .skip)) (.seq (.dreg 
 [Qc 55 0,Qn 56 55,Qf 57 0 56,Ql 58 57,Qc 59 0,Qn 60 59,Qf 61 1 60,Ql 62 61,Qj 63 134 [58,62],Qc 54 63,Qe 64 0 54,Qe 65 1 54,Qc 6 64,Qc 7 65]) (Qr [Qc 66 0,Qn 67 
 66,Qf 68 1 67,Ql 69 68,Qc 70 7,Qb 71 .add 69 70,Qn 72 66,Qf 73 1 72,Qs 1 73 71] (.seq (Qr [Qc 74 6,Qk 75 .geq 74 0] (.cond (.t 75) (.reg [Qc 76 3,Qc 77 6,Q 78 (.cvI .u8 
 (.t 77)),⟨some 79,.bsl 5 1 [.t 78],none⟩,⟨some 80,.app 5 1 1 false (.t 76) (.t 79),none⟩,Qa 3 80]) .skip)) (.exit 1))))) (Qr [Q 82 (.bin .eql (.t 41) (Kb 40)),Qa 81 82] 
 (.cond (.t 81) (.reg [Qc 83 4,Qk 84 .add 83 1,Qa 4 84]) (Qr [Q 86 (.bin .eql (.t 41) (Kb 41)),Qa 85 86] (.cond (.t 85) (Qr [Qc 87 4,Qk 88 .sub 87 1,Qa 4 88] (Qr [Qc 89 4,Qk 
 90 .eql 89 0] (.cond (.t 90) (Qr [Qc 91 3,Q 92 (.b2s (.t 91)),Qa 2 92] .ret) .skip))) .skip)))))))) (.reg [Qc 93 3,Qc 94 5,⟨some 95,.bsl 5 1 [.t 94],none⟩,⟨some 96,.app 5 
 1 1 false (.t 93) (.t 95),none⟩,Qa 3 96])))))))) (Qr [Qc 97 0,Q 98 (.mkI 49 (Ki 5)),Qq 99 63 [97,98]] (Qr [Qx 2 (.k (.d (.str [])))] .ret))))))
def q3t:List LRes:=[.tmp 2]
theorem q50:q0n Tryz.prog 86 100 q3m q3t:=⟨_,_,Tryz.func86,rfl,by kernel_rfl,by kernel_rfl,rfl⟩
theorem j4n(s:List UInt8)(k:Nat)(hs:s.length≤60000)(hk:k<s.length):q6J Tryz.prog 86 [.ptr (.x 0) 0] [robj s k 0]
  (fun r hs'=>match litF 0 1 (s.drop (k+1)) [] (k+1)with
   |some (b,k')=>r=.d (.str b)∧hs'=[robj s k' 0]
   |none=>∃k':Int,r=.d (.str [])∧hs'=[robj s k' 5]):=by
 generalize hR:litF 0 1 (s.drop (k+1)) [] (k+1)=R;rw[q0x];refine q50.q0C (by kernel_rfl) rfl ?_;simp(maxSteps:=2000000)(disch:=omega)only[go_sem,↓reduceIte,q3m,q3t];refine q0f (fun y:Nat×Nat×List UInt8=>⟨[(0,.ptr (.x 0) 0),(3,.own (.t 3) 5 1 (q0v y.2.2)),(4,.d (.int .i64 y.2.1))],[],[(0,.cells [.d (.str s),.d (.int .i64 y.1),.d .nil])]⟩)
  (fun y=>y.1≤s.length∧y.2.2.length≤y.1∧1≤y.2.1∧y.2.1≤y.1+1∧litF 0 y.2.1 (s.drop y.1) y.2.2 y.1=R) (fun y=>s.length-y.1) (k+1,1,[]) ?_ ?_ ?_
 ·refine Weak.mk ?_ ?_ ?_<;>simp(maxSteps:=2000000)only[go_sem,↓reduceIte,Sub,Zaa,Zab,q0v]
 ·exact⟨hk,by simp,by simp,by simp,hR⟩
 ·rintro⟨i,d,b⟩ ⟨hi,hb,hd1,hd2,hF⟩;simp only at hi hb hd1 hd2 hF;have hblen:=q0o b;simp(maxSteps:=2000000)only[go_sem,↓reduceIte];refine⟨fun hlt=>?_,fun hge=>?_⟩
  ·obtain⟨c,hc⟩:=get_some (l:=s) (i:=i) (by omega);have hc8:=q1Q c;rw[q0W hc,litF]at hF;simp(maxSteps:=2000000)(disch:=omega)only[go_sem,↓reduceIte,q0a,hc];refine⟨fun h92=>?_,fun h92=>⟨fun h40=>?_,fun h40=>⟨fun h41=>⟨fun hd0=>?_,fun hd0=>?_⟩,fun h41=>?_⟩⟩⟩
   ·rw[if_pos (by omega)]at hF;refine⟨fun he=>?_,fun he=>?_⟩
    ·rw[if_pos (Zai (by omega))]at hF;refine⟨(i+1,d,b),?_,⟨by simp only;omega,by simp only;omega,hd1,by simp only;omega,?_⟩,by simp only;omega⟩
     ·refine Weak.mk ?_ ?_ ?_<;>simp(maxSteps:=2000000)only[go_sem,↓reduceIte,Sub,Zaa,Zab]
     ·simp only;rw[Zai (by omega),litF];exact hF
    ·have hne:s.drop (i+1)≠[]:=fun e=>by have:=congrArg List.length e;simp at this;omega
     rw[if_neg hne]at hF;have hesc:=z7Y s (i+1) hs (by omega);have hen:=j9f hne;rw[Zau]at hen;rw[z4o _ (by rw[Zau];omega),List.drop_drop]at hF;generalize escL (s.drop (i+1))=X at hesc hen hF;obtain⟨xo,xn⟩:=X;simp only at hesc hen hF;rw[Zaa,Zbz]at hesc;refine q1E.of hesc ?_;cases xo with
     |none=>
      simp(maxSteps:=2000000)(disch:=omega)only[go_sem,↓reduceIte,escI];refine⟨(i+1+xn,d,b),?_,⟨by simp only;omega,by simp only;omega,hd1,by simp only;omega,by simpa using hF⟩,by simp only;omega⟩;refine Weak.mk ?_ ?_ ?_<;>simp(maxSteps:=2000000)only[go_sem,↓reduceIte,Sub,Zaa,Zab]
     |some x=>
      have hx8:=q1Q x;simp(maxSteps:=2000000)(disch:=omega)only[go_sem,↓reduceIte,escI];refine⟨fun _=>⟨by omega,(i+1+xn,d,b++[x]),?_,⟨by simp only;omega,by simp only[Zad,Zae,Zag];omega,hd1,by simp only;omega,hF⟩,by simp only;omega⟩,fun h=>by exfalso;omega⟩;refine Weak.mk ?_ ?_ ?_<;>simp(maxSteps:=2000000)only[go_sem,↓reduceIte,Sub,Zaa,Zab,q0j,q0L,q06]
   ·rw[if_neg (by omega),if_neg (by omega),if_pos (by omega)]at hF;refine⟨by omega,(i+1,d+1,b++[c]),?_,⟨by simp only;omega,by simp only[Zad,Zae,Zag];omega,by simp only;omega,by simp only;omega,hF⟩,by simp only;omega⟩;refine Weak.mk ?_ ?_ ?_<;>simp(maxSteps:=2000000)only[go_sem,↓reduceIte,Sub,Zaa,Zab,q0j,q0L,q06]
   ·rw[if_neg (by omega),if_pos (by omega),if_pos (by omega)]at hF;subst hF;simp(maxSteps:=2000000)(disch:=omega)only[go_sem,↓reduceIte,q0q];simp only[robj,Zaa,Zbz];rfl
   ·rw[if_neg (by omega),if_pos (by omega),if_neg (by omega)]at hF;refine⟨by omega,(i+1,d-1,b++[c]),?_,⟨by simp only;omega,by simp only[Zad,Zae,Zag];omega,by simp only;omega,by simp only;omega,hF⟩,by simp only;omega⟩;have e1:((d-1:Nat):Int)=(d:Int)-1:=by omega
    refine Weak.mk ?_ ?_ ?_<;>simp(maxSteps:=2000000)only[go_sem,↓reduceIte,Sub,Zaa,Zab,q0j,q0L,q06,e1]
   ·rw[if_neg (by omega),if_neg (by omega),if_neg (by omega)]at hF;refine⟨by omega,(i+1,d,b++[c]),?_,⟨by simp only;omega,by simp only[Zad,Zae,Zag];omega,by simp only;omega,by simp only;omega,hF⟩,by simp only;omega⟩;refine Weak.mk ?_ ?_ ?_<;>simp(maxSteps:=2000000)only[go_sem,↓reduceIte,Sub,Zaa,Zab,q0j,q0L,q06]
  ·rw[Zai (by omega),litF]at hF;subst hF;have hf:=q6X s (i:Int) 5;rw[q0x,show errD 5=.iface 49 (.int .i64 5)from rfl]at hf;refine q0e.mc1 (.x 0) rfl (hf) rfl rfl rfl rfl ⟨rfl,rfl⟩ ?_;simp(maxSteps:=2000000)only[go_sem,↓reduceIte,robj];exact⟨_,rfl⟩
def j0j:Option Nat→Res→Prop
 |some n,r=>r=.tup [.int .i64 n,.bool true]
 |none,r=>∃n:Int,r=.tup [.int .i64 n,.bool false]
def q94:q0g:=
 Qr [Qx 2 (Ki 0),Qx 3 KF] (.seq (Qr [Qc 6 0,Q 7 (.bin .eql (.t 6) (.k (.d (.str [])))),Qc 8 7,Qd 9 0 8 false,Qg 10 (.len true (.t 9)) 8 false,Qg 11 (.bin .gtr (.t 10) (Ki 2)) 
 8 false,Qo 12 8 11,Qc 13 12,Qd 14 0 13 false,Qg 15 (.idxS (.t 14) (Ki 0)) 13 false,Qg 16 (.bin .eql (.t 15) (Kb 48)) 13 false,Qo 17 13 16] (.cond (.t 17) (Qr [Qx 2 (Ki 0), 
 Qx 3 KF] .ret) .skip)) (Qr [Qx 4 (Ki 0)] (.seq (Qr [Qc 18 0,Qz 19 true 18,Q 20 (.cp (Ki 0))] (.block 0 (.loop (Qr [Qb 21 .lss 20 19] (.seq (.cond (.t 21) .skip (.exit 0)) (.seq 
 (.block 1 (Qr [Qc 22 20,Qa 5 22] (.seq (Qr [Qc 23 0,Qc 24 5,Q 25 (.idxS (.t 23) (.t 24)),Q 26 (.bin .lss (.t 25) (Kb 48)),Qc 27 26,Qd 28 0 27 false,Qd 29 5 27 false,Qg 30 
 (.idxS (.t 28) (.t 29)) 27 false,Qg 31 (.bin .gtr (.t 30) (Kb 57)) 27 false,Qo 32 27 31] (.cond (.t 32) (Qr [Qx 2 (Ki 0),Qx 3 KF] .ret) .skip)) (.reg [Qc 33 4,Q 34 (.bin .mul 
 (Ki 10) (.t 33)),Qc 35 0,Qc 36 5,Q 37 (.idxS (.t 35) (.t 36)),Q 38 (.bin .sub (.t 37) (Kb 48)),Q 39 (.cvI .i64 (.t 38)),Qb 40 .add 34 39,Qa 4 40])))) (.reg [Qk 41 .add 20 
 1,Qc 20 41]))))))) (Qr [Qc 42 4,Qc 43 4,Qk 44 .leq 43 60,Qa 2 42,Qa 3 44] .ret))))
def q98:List LRes:=[.tmp 2,.tmp 3]
theorem z18:q0n Tryz.prog 174 45 q94 q98:=⟨_,_,Tryz.func174,rfl,by kernel_rfl,by kernel_rfl,rfl⟩
theorem j0l(w:List UInt8)(hw:w.length≤60000):q0i Tryz.prog 174 [.str w] (j0j (objF w)):=by
 generalize hR:objF w=R;have bad:R=none→∀n:Int,j0j R (.tup [.int .i64 n,.bool false]):=fun e n=>by subst e;exact⟨n,rfl⟩
 refine z18.call rfl ?_;simp(maxSteps:=2000000)only[go_sem,↓reduceIte,q94,q98];refine⟨fun h1=>⟨fun h2=>?_,fun h2=>bad (by rw[←hR,objF,if_pos (by omega)]) 0⟩,fun h1=>bad (by rw[←hR,objF,if_pos (by rw[h1];simp)]) 0⟩;have hlen:1≤w.length:=by cases w with|nil=>exact absurd rfl h1|cons a r=>simp
 obtain⟨c0,hc0⟩:=get_some (l:=w) (i:=0) (by omega);have g0:getI w 0=some c0:=by rw[←hc0];exact q0a w 0
 have hd0:w.head?=some c0:=by rw[←hc0];cases w<;>rfl
 simp(maxSteps:=2000000)only[go_sem,↓reduceIte,g0];refine⟨fun h3=>bad (by rw[←hR,objF,if_pos (.inr (.inr (by rw[hd0];simp;omega)))]) 0,fun h3=>?_⟩;have ho:objF w=match digF w 0 with
  |none=>none
  |some n=>if n≤60 then some n else none:=by rw[objF,if_neg (by rw[hd0];simp only[Zax,Zas];omega)]<;>rfl
 rw[ho]at hR;refine q0f (fun y:Nat×Nat=>⟨[(0,.d (.str w)),(4,.d (.int .i64 y.2)),(19,.d (.int .i64 w.length)),(20,.d (.int .i64 y.1))],[],[]⟩)
  (fun y=>y.1≤w.length∧(y.1=0→y.2=0)∧(y.1=1→y.2≤9)∧y.2≤99∧digF (w.drop y.1) y.2=digF w 0) (fun y=>w.length-y.1) (0,0) ?_ ?_ ?_
 ·refine q0d ?_ trivial;simp(maxSteps:=2000000)only[go_sem,↓reduceIte,Sub,Zaa,Zab]
 ·exact⟨by simp,by simp,by simp,by simp,rfl⟩
 ·rintro⟨i,n⟩ ⟨hi,hn0,hn1,hn2,hF⟩;simp only at hi hn0 hn1 hn2 hF;simp(maxSteps:=2000000)only[go_sem,↓reduceIte];refine⟨fun hlt=>?_,fun hge=>?_⟩
  ·obtain⟨c,hc⟩:=get_some (l:=w) (i:=i) (by omega);have hc8:=q1Q c;rw[q0W hc,digF]at hF;have nodig:(c.toNat<48∨57<c.toNat)→R=none:=fun h=>by
    rw[if_pos h]at hF;rw[←hF]at hR;exact hR.symm
   simp(maxSteps:=2000000)only[go_sem,↓reduceIte,q0a,hc];refine⟨fun h4=>⟨fun h5=>bad (nodig (by omega)) 0,fun h5=>?_⟩,fun h4=>bad (nodig (by omega)) 0⟩;simp(maxSteps:=2000000)(disch:=omega)only[go_sem,↓reduceIte,q0a,hc];rw[if_neg (by omega)]at hF;refine⟨(i+1,10*n+(c.toNat-48)),?_,⟨by simp only;omega,by simp only;omega,by simp only;omega,by simp only;omega,hF⟩,by simp only;omega⟩;have zz:decide (57<(c.toNat:Int))=false:=by simpa using h5
   refine q0d ?_ trivial;simp(maxSteps:=2000000)only[go_sem,↓reduceIte,Sub,Zaa,Zab,zz];all_goals((repeat' apply And.intro)<;>(congr 2<;>omega))
  ·rw[Zai (by omega),digF]at hF;rw[←hF]at hR;simp only at hR
   by_cases h6:n≤60
   ·rw[if_pos h6]at hR;subst hR;have z:((n:Int)≤60)=True:=eq_true (by omega);simp(maxSteps:=2000000)only[go_sem,↓reduceIte,z];rfl
   ·rw[if_neg h6]at hR;have z:((n:Int)≤60)=False:=eq_false (by omega);simp(maxSteps:=2000000)only[go_sem,↓reduceIte,z];exact bad hR.symm _
def j4R(s:List UInt8)(k:Nat):Option (Nat×Nat)→AV→List AObj→Prop
 |some (n,k'),r,hs=>r=.tuple [.d (.int .i64 n),.d (.bool true)]∧hs=[robj s k' 0]
 |none,r,hs=>∃n:Int,r=.tuple [.d (.int .i64 n),.d (.bool false)]∧hs=[robj s k 0]
def q5l:q0g:=
 Qr [Qx 2 (Ki 0),Qx 3 KF] (.seq (.dreg [Qc 8 0,Qn 9 8,Qf 10 0 9,Ql 11 10,Qc 12 0,Qn 13 12,Qf 14 1 13,Ql 15 14,Qj 16 39 [11,15],Qa 4 16]) (Qr [Qc 18 4,Qj 19 174 [18],Qc 
 17 19,Qe 20 0 17,Qe 21 1 17,Qa 5 20,Qa 6 21] (.seq (.dreg [Qc 22 0,Qn 23 22,Qf 24 0 23,Ql 25 24,Qc 26 0,Qn 27 26,Qf 28 1 27,Ql 29 28,Qc 30 4,Qz 31 true 30,Qb 32 
 .add 29 31,Qj 33 38 [25,32],Qa 7 33]) (.seq (Qr [Qc 34 6,Qh 35 34,Qc 36 35,Qd 37 0 36 false,Qg 38 (.nck (.t 37)) 36 false,Qg 39 (.fa 0 (.t 38)) 36 false,Qg 40 (.ld false 
 1 (.t 39)) 36 false,Qd 41 7 36 false,⟨some 42,.call 39 [.t 40,.t 41],some (36,false)⟩,Qg 43 (.bin .neq (.t 42) (.k (.d (.str [48])))) 36 false,Qo 44 36 43] (.cond (.t 44) 
 (Qr [Qx 2 (Ki 0),Qx 3 KF] .ret) .skip)) (Qr [Qc 45 0,Qn 46 45,Qf 47 0 46,Ql 48 47,Qc 49 7,Qk 50 .add 49 1,Qj 51 38 [48,50],Qa 7 51] (.seq (Qr [Qc 52 0,Qn 53 52,Qf 54 0 
 53,Ql 55 54,Qc 56 7,Qj 57 39 [55,56],Q 58 (.bin .neq (.t 57) (.k (.d (.str [82]))))] (.cond (.t 58) (Qr [Qx 2 (Ki 0),Qx 3 KF] .ret) .skip)) (Qr [Qc 59 0,Qc 60 7,Qk 61 
 .add 60 1,Qn 62 59,Qf 63 1 62,Qs 1 63 61] (Qr [Qc 64 5,Qa 2 64,Qx 3 KT] .ret))))))))
def q5s:List LRes:=[.tmp 2,.tmp 3]
theorem q7J:q0n Tryz.prog 135 65 q5l q5s:=⟨_,_,Tryz.func135,rfl,by kernel_rfl,by kernel_rfl,rfl⟩
theorem j4Q(s:List UInt8)(k:Nat)(hs:s.length≤60000)(hk:k≤s.length):q6J Tryz.prog 135 [.ptr (.x 0) 0] [robj s k 0] (j4R s k (z3e s k)):=by
 have hwl:=q0I s k;generalize hR:z3e s k=R;unfold z3e at hR;have hw:=q16 s ((k:Nat):Int) (by omega);rw[q0h hk]at hw;generalize q0p s k=w at *;have hob:=j0l w (by omega);have bad:R=none→∀n:Int,j4R s k R (.tuple [.d (.int .i64 n),.d (.bool false)]) [robj s k 0]:=fun e n=>by rw[e];exact⟨n,rfl,rfl⟩
 have hw1:=q1G s ((k:Int)+(w.length:Int)) (by omega);have hcl:q2y s ((k:Int)+(w.length:Int))=k+w.length:=by rw[show(k:Int)+(w.length:Int)=((k+w.length:Nat):Int) by omega,q0h (by omega)]
 rw[hcl]at hw1;have hi1:=q0r (s:=s) (k:=k+w.length) (by omega);rw[q0x];refine q7J.q0C (by kernel_rfl) rfl ?_;simp(maxSteps:=2000000)only[go_sem,↓reduceIte,q5l,q5s];refine q1E.of hw ?_;simp(maxSteps:=2000000)only[go_sem,↓reduceIte];refine q0c.post hob (fun r hr=>?_);cases ho:objF w with
 |none=>
  rw[ho]at hr hR;obtain⟨n,rfl⟩:=hr;simp(maxSteps:=2000000)(disch:=omega)only[go_sem,↓reduceIte];refine q1E.of hw1 ?_;simp(maxSteps:=2000000)only[go_sem,↓reduceIte];exact bad hR.symm 0
 |some n=>
  rw[ho]at hr hR;simp only[j0j]at hr;subst hr;simp(maxSteps:=2000000)(disch:=omega)only[go_sem,↓reduceIte];refine q1E.of hw1 ?_;simp only at hR;generalize q0l s (k+w.length)=q at *;have hw2:=q16 s ((q:Nat):Int) (by omega);rw[q0h (by omega)]at hw2;simp(maxSteps:=2000000)only[go_sem,↓reduceIte];refine q0c.of hw2 ?_;simp(maxSteps:=2000000)only[go_sem,↓reduceIte];refine⟨fun h5=>bad (by rw[←hR,if_neg h5]) 0,fun h5=>?_⟩;rw[if_pos h5]at hR;have hql:q<s.length:=by
   rcases Zbi q s.length with h|h
   ·exact h
   ·unfold q0p at h5;rw[Zai h]at h5;cases h5
  have hw3:=q1G s ((q:Int)+1) (by omega);rw[show q2y s ((q:Int)+1)=q+1 by rw[show(q:Int)+1=((q+1:Nat):Int) by omega,q0h (by omega)]]at hw3;have hj1:=q0r (s:=s) (k:=q+1) (by omega);generalize q0l s (q+1)=j at *;have hw4:=q16 s ((j:Nat):Int) (by omega);rw[q0h (by omega)]at hw4;rw[IntWalk.i64_in _ (by omega)];refine q0c.of hw3 ?_;simp(maxSteps:=2000000)only[go_sem,↓reduceIte];refine q0c.of hw4 ?_;simp(maxSteps:=2000000)only[go_sem,↓reduceIte]
  refine⟨fun h6=>bad (by rw[←hR,if_neg h6]) 0,fun h6=>?_⟩;rw[if_pos h6]at hR;simp(disch:=omega)only[IntWalk.i64_in,IntWalk.u8_in];subst hR;exact⟨rfl,by simp only[robj,Zaa,Zbz];rfl⟩
/-! ### Words -/
def z2O(s:List UInt8):RV→AV→List AObj→Prop
 |.ok v k,r,hs=>r=.d v.d∧hs=[robj s k 0]
 |.bad e,r,hs=>∃(v:Val) (k:Int),r=.d v.d∧hs=[robj s k e]
theorem q7U{s:List UInt8}{v:Val}{k:Nat}{R:RV}(h:R=.ok v k):z2O s R (.d v.d) [robj s k 0]:=by subst h;exact⟨rfl,rfl⟩
theorem q1t{s:List UInt8}{e:Nat}(v:Val)(k:Int){R:RV}(h:R=.bad e):z2O s R (.d v.d) [robj s k e]:=by subst h;exact⟨v,k,rfl,rfl⟩
def q4G:q0g:=
 Qr [Qv 2] (.seq (.dreg [Qc 8 0,Qn 9 8,Qf 10 0 9,Ql 11 10,Qc 12 0,Qn 13 12,Qf 14 1 13,Ql 15 14,Qj 16 39 [11,15],Qa 3 16]) (.seq (Qr [Qc 17 3] (.block 0 (Qr [Q 19 (.bin 
 .eql (.t 17) (.k (.d (.str [110,117,108,108])))),Qa 18 19] (.cond (.t 18) (Qr [Qc 20 0,Qn 21 20,Qf 22 1 21,Ql 23 22,Qk 24 .add 23 4,Qn 25 20,Qf 26 1 25,Qs 1 26 24] (Qr 
 [Qy 27,Qs 5 2 27] .ret)) (Qr [Q 29 (.bin .eql (.t 17) (.k (.d (.str [116,114,117,101])))),Qa 28 29] (.cond (.t 28) (Qr [Qc 30 0,Qn 31 30,Qf 32 1 31,Ql 33 32,Qk 34 .add 
 33 4,Qn 35 30,Qf 36 1 35,Qs 1 36 34] (Qr [Q 37 (.bld [(0,1),(1,1),(2,1),(3,1),(4,1)] [.int .i64 0,.int .i64 0,.str [],.list [],.list []] [false,false,false, 
 true,true] [(0,.k (.d (.int .i64 1))),(1,.k (.d (.int .i64 1)))]),Qs 5 2 37] .ret)) (Qr [Q 39 (.bin .eql (.t 17) (.k (.d (.str [102,97,108,115,101])))),Qa 38 39] (.cond 
 (.t 38) (Qr [Qc 40 0,Qn 41 40,Qf 42 1 41,Ql 43 42,Qk 44 .add 43 5,Qn 45 40,Qf 46 1 45,Qs 1 46 44] (Qr [Q 47 (.bld [(0,1),(1,1),(2,1),(3,1),(4,1)] [.int .i64 0, 
 .int .i64 0,.str [],.list [],.list []] [false,false,false,true,true] [(0,.k (.d (.int .i64 1)))]),Qs 5 2 47] .ret)) .skip)))))))) (Qr [Qc 49 0,Qq 50 135 [49],Qc 48 50, 
 Qe 51 0 48,Qe 52 1 48,Qa 4 51,Qa 5 52] (.seq (Qr [Qc 53 5] (.cond (.t 53) (Qr [Qc 54 4,Q 55 (.bld [(0,1),(1,1),(2,1),(3,1),(4,1)] [.int .i64 0,.int .i64 0,.str [], 
 .list [],.list []] [false,false,false,true,true] [(0,.k (.d (.int .i64 7))),(1,.t 54)]),Qs 5 2 55] .ret) .skip)) (Qr [Qc 57 3,Qj 58 136 [57],Qc 56 58,Qe 59 0 56,Qe 
 60 1 56,Qa 6 59,Qa 7 60] (.seq (Qr [Qc 61 7,Q 62 (.eqN 0 true (.t 61))] (.cond (.t 62) (Qr [Qc 63 0,Qc 64 7,Qq 65 63 [63,64]] (Qr [Qy 66,Qs 5 2 66] .ret)) .skip)) (Qr [Qc 
 67 0,Qn 68 67,Qf 69 1 68,Ql 70 69,Qc 71 3,Qz 72 true 71,Qb 73 .add 70 72,Qn 74 67,Qf 75 1 74,Qs 1 75 73] (Qr [Qc 76 6,Q 77 (.bld [(0,1),(1,1),(2,1),(3,1),(4, 
 1)] [.int .i64 0,.int .i64 0,.str [],.list [],.list []] [false,false,false,true,true] [(0,.k (.d (.int .i64 2))),(1,.t 76)]),Qs 5 2 77] .ret))))))))
def q4V:List LRes:=[.cell 2 true 5]
theorem q7d:q0n Tryz.prog 91 78 q4G q4V:=⟨_,_,Tryz.func91,rfl,by kernel_rfl,by kernel_rfl,rfl⟩
theorem j23(s:List UInt8)(k:Nat)(hs:s.length≤60000)(hk:k≤s.length):q6J Tryz.prog 91 [.ptr (.x 0) 0] [robj s k 0] (z2O s (j0X s k)):=by
 have hwl:=q0I s k;generalize hR:j0X s k=R;unfold j0X at hR;have hw:=q16 s ((k:Nat):Int) (by omega);rw[q0h hk]at hw;have hrf:=j4Q s k hs hk;have hfx:=j2G (q0p s k) (by omega);have good:∀(a b:Int) (t:List UInt8) (m:Int),R=.ok (Val.mk a b t [] []) m.toNat→0≤m→z2O s R (.d (.agg [.int .i64 a,.int .i64 b,.str t,.list [],.list []])) [.cells [.d (.str s),.d (.int .i64 m),.d .nil]]:=fun a b t m he hm=>by
  have:=q7U (s:=s) he;rwa [kmk,q0x,show((m.toNat:Nat):Int)=m by omega]at this
 generalize q0p s k=w at *;rw[q0x]at hrf ⊢;refine q7d.q0C (by kernel_rfl) rfl ?_;simp(maxSteps:=2000000)only[go_sem,↓reduceIte,q4G,q4V];refine q1E.of hw ?_;simp(maxSteps:=2000000)(disch:=omega)only[go_sem,↓reduceIte];refine⟨fun w1=>?_,fun w1=>⟨fun w2=>?_,fun w2=>⟨fun w3=>?_,fun w3=>?_⟩⟩⟩
 ·rw[if_pos w1]at hR;exact good 0 0 [] (k+4) (by rw[←hR];congr 1) (by omega)
 ·rw[if_neg w1,if_pos w2]at hR;exact good 1 1 [] (k+4) (by rw[←hR];congr 1) (by omega)
 ·rw[if_neg w1,if_neg w2,if_pos w3]at hR;exact good 1 0 [] (k+5) (by rw[←hR];congr 1) (by omega)
 ·rw[if_neg w1,if_neg w2,if_neg w3]at hR;refine q0e.mp1 (.x 0) rfl (hrf) rfl rfl rfl rfl (fun r hs' hr=>?_);cases hra:z3e s k with
  |some p=>
   obtain⟨n,kn⟩:=p;rw[hra]at hR hr;obtain⟨rfl,rfl⟩:=hr;refine⟨⟨rfl,rfl⟩,?_⟩;simp(maxSteps:=2000000)only[go_sem,↓reduceIte,robj,errD];exact good 7 n [] kn (by rw[←hR];rfl) (by omega)
  |none=>
   rw[hra]at hR hr;obtain⟨n,rfl,rfl⟩:=hr;refine⟨⟨rfl,rfl⟩,?_⟩;simp(maxSteps:=2000000)only[go_sem,↓reduceIte,robj,errD];refine q0c.of hfx ?_;simp only[resP];generalize q6E w=F at hR;obtain⟨fn,fc⟩:=F;simp only at hR
   by_cases f0:fc=0
   ·subst f0;rw[if_pos rfl]at hR;rw[show errD 0=.nil from rfl];simp(maxSteps:=2000000)(disch:=omega)only[go_sem,↓reduceIte];exact good 2 fn [] _ (by rw[←hR];congr 1) (by omega)
   ·rw[if_neg f0]at hR;rw[q0Q f0];have hf:=q6X s (k:Int) fc;rw[q0x,q0Q f0]at hf;simp(maxSteps:=2000000)only[go_sem,↓reduceIte];refine q0e.mc1 (.x 0) rfl (hf) rfl rfl rfl rfl ⟨rfl,rfl⟩ ?_;simp(maxSteps:=2000000)only[go_sem,↓reduceIte,robj];have:=q1t (s:=s) zeroV (k:Int) hR.symm;rwa [Val.d_eq]at this
def RdAt(s:List UInt8)(rd:Nat→RV)(deep:Int):Prop:=∀k:Nat,k≤s.length→q6J Tryz.prog 62 [.ptr (.x 0) 0,.d (.int .i64 deep)] [robj s k 0] (z2O s (rd k))
theorem z5Y{s:List UInt8}{k:Nat}{c:UInt8}{x:UInt8}(h:s[k]?=some c):q44 (s.drop k) [x]=decide (c=x):=by
 rw[q0W h];simp[q44]
def ro(s:List UInt8)(i:Nat):Option (Int×Nat)→AObj
 |none=>.cells [.d (.str s),.d (.int .i64 i),.d .nil]
 |some (k,e)=>robj s k e
def q4E:q0g:=
 Qr [Qv 4] (Qr [Q 7 (.bld [(0,1),(1,1),(2,1),(3,1),(4,1)] [.int .i64 0,.int .i64 0,.str [],.list [],.list []] [false,false,false,true,true] [(0,.k (.d (.int .i64 
 5)))]),Qv 5,Qs 5 5 7] (.seq (.block 0 (.loop (.seq (Qr [Qc 8 0,Qn 9 8,Qf 10 2 9,Ql 11 10,Q 12 (.eqN 0 false (.t 11)),Qc 13 12,Qd 14 0 13 true,⟨some 15,.prim .call [.k 
 (.fn (.func 83) [] []),.t 14] [],some (13,true)⟩,Qg 16 (.bin .neq (.t 15) (Kb 93)) 13 true,Qp 17 13 16,Qc 18 17,Qd 19 0 18 true,Qg 20 (.nck (.t 19)) 18 true,Qg 21 (.fa 2 
 (.t 20)) 18 true,Qg 22 (.ld false 1 (.t 21)) 18 true,Qg 23 (.eqN 0 false (.t 22)) 18 true,Qp 24 18 23] (.cond (.t 24) .skip (.exit 0))) (.block 1 (Qr [Qc 25 0,Qc 26 1,Qk 27 
 .add 26 1,Qq 28 62 [25,27],Qv 6,Qs 5 6 28] (Qr [Qf 29 3 5,Ql 30 29,Qm 31 5 6,⟨some 32,.bsl 25 5 [.t 31],none⟩,⟨some 33,.app 25 5 80 false (.t 30) (.t 32),none⟩,Qf 34 
 3 5,Qs 1 34 33] (Qr [Qf 35 3 5,Ql 36 35,Qz 37 false 36,Qk 38 .gtr 37 300] (.cond (.t 38) (.reg [Qc 39 0,Q 40 (.mkI 49 (Ki 2)),Qq 41 63 [39,40]]) .skip)))))))) (Qr [Qc 42 
 0,⟨some 43,.prim .call [.k (.fn (.func 87) [] []),.t 42,.k (.d (.str [93]))] [],none⟩] (Qr [Qm 44 5 5,Qs 5 4 44] .ret))))
def q4T:List LRes:=[.cell 4 true 5]
theorem q7b:q0n Tryz.prog 90 45 q4E q4T:=⟨_,_,Tryz.func90,rfl,by kernel_rfl,by kernel_rfl,rfl⟩
theorem j6q(s:List UInt8)(hs:s.length≤60000)(rd:Nat→RV)(deep:Int)(hd:0≤deep∧deep≤8)(hg:∀k,k≤s.length→z6H s k (rd k))(ih:RdAt s rd (deep+1))(k:Nat)(hk:k≤s.length):
  q6J Tryz.prog 90 [.ptr (.x 0) 0,.d (.int .i64 deep)] [robj s k 0] (z2O s (q7P rd s 301 [] k)):=by
 generalize hR:q7P rd s 301 [] k=R;rw[q0x];refine q7b.q0C (by kernel_rfl) rfl ?_;simp(maxSteps:=2000000)(disch:=omega)only[go_sem,↓reduceIte,q4E,q4T];refine q0f (fun y:Nat×List Val×Option (Int×Nat)=>⟨[(0,.ptr (.x 0) 0),(1,.d (.int .i64 deep)),(4,.ptr (.l 4) 0),(5,.ptr (.l 5) 0)],
   [(4,.cells [.d (.int .i64 0),.d (.int .i64 0),.d (.str []),.ns,.ns]),(5,.cells [.d (.int .i64 5),.d (.int .i64 0),.d (.str []),lrow (.l 5) 3 y.2.1,.ns])],[(0,ro s y.1 y.2.2)]⟩)
  (fun y=>y.1≤s.length∧y.2.1.length≤301∧(y.2.2=none→y.2.1.length≤300∧q7P rd s (301-y.2.1.length) y.2.1 y.1=R)∧∀k e,y.2.2=some (k,e)→e≠0∧R=.bad e) (fun y=>2*(s.length-y.1)+(if y.2.2.isNone=true then 1 else 0)) (k,[],none) ?_ ?_ ?_
 ·refine Weak.mk ?_ ?_ ?_<;>simp(maxSteps:=2000000)only[go_sem,↓reduceIte,Sub,Zaa,Zab,lrow,ro]
 ·exact⟨hk,by simp,fun _=>⟨by simp,hR⟩,fun _ _ h=>by cases h⟩
 ·rintro⟨i,acc,o⟩ ⟨hi,ha,hF,hE⟩;simp only at hi ha hF hE;have hal:=q0H acc;have fin:(lrow (.l 5) 3 acc=.ns∧q0m acc=[])∨lrow (.l 5) 3 acc=.own (.c (.l 5) 3) 25 5 (q0m acc):=by
   rcases z6b (.l 5) 3 acc with⟨h,rfl⟩|h
   ·exact .inl ⟨h,rfl⟩
   ·exact .inr h
  have dd:(lisV acc).d=D.agg [.int .i64 5,.int .i64 0,.str [],.list (q0m acc),.list []]:=by rw[Val.d_eq];rfl
  cases o with
  |some p=>
   obtain⟨k',e⟩:=p;obtain⟨e0,rfl⟩:=hE k' e rfl;have het:=j3I s k' [93] e0;have fb:=q1t (s:=s) (R:=.bad e) (lisV acc) k' rfl;rw[dd,q1u s k' e0]at fb;simp only[ro];rw[q1u s k' e0]at het ⊢;simp(maxSteps:=2000000)only[go_sem,↓reduceIte];refine q0e.mc1 (.x 0) rfl (het) rfl rfl rfl rfl ⟨rfl,rfl⟩ ?_;rcases fin with⟨h1,h2⟩|h1<;>rw[h1];all_goals
    simp(maxSteps:=2000000)only[go_sem,↓reduceIte];first
    |exact fb
    |(rw[h2]at fb;exact fb)
  |none=>
   obtain⟨ha',hF⟩:=hF rfl;obtain⟨m,hm⟩:∃m,301-acc.length=m+1:=⟨300-acc.length,by omega⟩;rw[hm,q7P]at hF;have hsk:=q0r hi;have hnx:=j1t s i hs hi;generalize q0l s i=q at *;simp only[ro];rw[q0x]at hnx;simp(maxSteps:=2000000)only[go_sem,↓reduceIte];refine q0e.mc1 (.x 0) rfl (hnx) rfl rfl rfl rfl ⟨rfl,rfl⟩ ?_;cases hc:s[q]? with
   |none=>
    rw[hc]at hF;simp only at hF;have het:=j3I s (q:Int) [93] (n:=5) (by decide);have fb:=q1t (s:=s) (R:=R) (lisV acc) (q:Int) hF.symm;rw[dd,q7V]at fb;rw[q7V]at het;simp only;rw[q7V];simp(maxSteps:=2000000)only[go_sem,↓reduceIte];refine q0e.mc1 (.x 0) rfl (het) rfl rfl rfl rfl ⟨rfl,rfl⟩ ?_;rcases fin with⟨h1,h2⟩|h1<;>rw[h1];all_goals
     simp(maxSteps:=2000000)only[go_sem,↓reduceIte];first
     |exact fb
     |(rw[h2]at fb;exact fb)
   |some c=>
    have hc8:=q1Q c;have hlt:q<s.length:=(Zac.1 hc).1;rw[hc]at hF;simp only at hF;simp only;rw[q0x];simp(maxSteps:=2000000)only[go_sem,↓reduceIte];refine⟨fun h2=>?_,fun h2=>?_⟩
    ·rw[if_neg (by omega)]at hF;have hv:=ih q (by omega);have hgq:=hg q (by omega);rw[q0x]at hv;simp(disch:=omega)only[IntWalk.i64_in,IntWalk.u8_in];refine q0e.mp1 (.x 0) rfl (hv) rfl rfl rfl rfl (fun r hs' hr=>?_);cases hx:rd q with
     |bad e=>
      rw[hx]at hF hr hgq;obtain⟨x,k',rfl,rfl⟩:=hr;obtain⟨g1,_⟩:=hgq;have e0:e≠0:=by omega
      refine⟨⟨rfl,rfl⟩,?_⟩;rw[Val.d_eq x,q1u s k' e0];have hrow:lrow (.l 5) 3 (acc++[x])=.own (.c (.l 5) 3) 25 5 (q0m acc++[D.agg [.int .i64 x.kind,.int .i64 x.n,.str x.s,.list (q0m x.l),.list (q0k x.f)]]):=by rw[z1t,Val.d_eq]
      have hfn:=z0w s k' e0 (.iface 49 (.int .i64 2));rw[q1u s k' e0]at hfn;have hnext:∀τ:St,τ=τ:=fun _=>rfl
      have inv:i≤s.length∧(acc++[x]).length≤301∧(some (k',e)=none→(acc++[x]).length≤300∧q7P rd s (301-(acc++[x]).length) (acc++[x]) i=R)∧∀k e',some (k',e)=some (k,e')→e'≠0∧R=.bad e':=
       ⟨hi,by simp;omega,fun h=>(by cases h),fun k e' h=>by cases h;exact⟨e0,hF.symm⟩⟩
      have hsl:=q0H (acc++[x]);simp only[Zad,Zae,Zag]at hsl;have hsn:q0m acc++[D.agg [.int .i64 x.kind,.int .i64 x.n,.str x.s,.list (q0m x.l),.list (q0k x.f)]]=q0m (acc++[x]):=by rw[q5H];simp[q0m,Val.d_eq]
      rw[hsn]at hrow;rcases fin with⟨h3,h4⟩|h3<;>rw[h3]
      ·rw[h4,Zbj]at hsn;simp(maxSteps:=2000000)only[go_sem,↓reduceIte];rw[hsn];refine⟨(i,acc++[x],some (k',e)),?_,inv,by simp⟩;refine Weak.mk ?_ ?_ ?_<;>simp(maxSteps:=2000000)only[go_sem,↓reduceIte,Sub,Zaa,Zab,hrow,ro,q1u s k' e0]
      ·simp(maxSteps:=2000000)only[go_sem,↓reduceIte];rw[hsn];refine⟨by omega,fun h5=>?_,fun h5=>?_⟩
       ·refine q0e.mc1 (.x 0) rfl (hfn) rfl rfl rfl rfl ⟨rfl,rfl⟩ ?_;simp(maxSteps:=2000000)only[go_sem,↓reduceIte];refine⟨(i,acc++[x],some (k',e)),?_,inv,by simp⟩;refine Weak.mk ?_ ?_ ?_<;>simp(maxSteps:=2000000)only[go_sem,↓reduceIte,Sub,Zaa,Zab,hrow,ro,q1u s k' e0]
       ·refine⟨(i,acc++[x],some (k',e)),?_,inv,by simp⟩;refine Weak.mk ?_ ?_ ?_<;>simp(maxSteps:=2000000)only[go_sem,↓reduceIte,Sub,Zaa,Zab,hrow,ro,q1u s k' e0]
     |ok x k'=>
      rw[hx]at hF hr hgq;obtain⟨rfl,rfl⟩:=hr;obtain⟨g1,g2,g3,g4⟩:=hgq;refine⟨⟨rfl,rfl⟩,?_⟩;simp only at hF;rw[Val.d_eq x,q0x];have hrow:lrow (.l 5) 3 (acc++[x])=.own (.c (.l 5) 3) 25 5 (q0m acc++[D.agg [.int .i64 x.kind,.int .i64 x.n,.str x.s,.list (q0m x.l),.list (q0k x.f)]]):=by rw[z1t,Val.d_eq]
      have hf0:=q6X s (k':Int) 2;rw[q0x,z0h,q9O.1]at hf0;have hsl:=q0H (acc++[x]);have hlen:(acc++[x]).length=acc.length+1:=by simp
      have hsn:q0m acc++[D.agg [.int .i64 x.kind,.int .i64 x.n,.str x.s,.list (q0m x.l),.list (q0k x.f)]]=q0m (acc++[x]):=by rw[q5H];simp[q0m,Val.d_eq]
      rw[hsn]at hrow;have more:¬300<(q0m (acc++[x])).length→k'≤s.length∧(acc++[x]).length≤301∧((none:Option (Int×Nat))=none→(acc++[x]).length≤300∧q7P rd s (301-(acc++[x]).length) (acc++[x]) k'=R)∧∀k e',(none:Option (Int×Nat))=some (k,e')→e'≠0∧R=.bad e':=fun h=>
       ⟨g2,by omega,fun _=>⟨by omega,by rw[←hF];congr 1;omega⟩,fun _ _ h=>by cases h⟩
      have stop:300<(q0m (acc++[x])).length→k'≤s.length∧(acc++[x]).length≤301∧(some ((k':Int),2)=none→(acc++[x]).length≤300∧q7P rd s (301-(acc++[x]).length) (acc++[x]) k'=R)∧∀k e',some ((k':Int),2)=some (k,e')→e'≠0∧R=.bad e':=fun h=>
       ⟨g2,by omega,fun h=>(by cases h),fun k e' h'=>by
        cases h';have hm0:m=0:=by omega
        rw[hm0,q7P]at hF;exact⟨by decide,hF.symm⟩⟩
      rcases fin with⟨h3,h4⟩|h3<;>rw[h3]
      ·rw[h4,Zbj]at hsn;simp(maxSteps:=2000000)only[go_sem,↓reduceIte];rw[hsn];have h5:¬300<(q0m (acc++[x])).length:=by rw[←hsn];simp
       refine⟨(k',acc++[x],none),?_,more h5,by simp;omega⟩;refine Weak.mk ?_ ?_ ?_<;>simp(maxSteps:=2000000)only[go_sem,↓reduceIte,Sub,Zaa,Zab,hrow,ro]
      ·simp(maxSteps:=2000000)only[go_sem,↓reduceIte];rw[hsn];refine⟨by omega,fun h5=>?_,fun h5=>?_⟩
       ·refine q0e.mc1 (.x 0) rfl (hf0) rfl rfl rfl rfl ⟨rfl,rfl⟩ ?_;simp(maxSteps:=2000000)only[go_sem,↓reduceIte];refine⟨(k',acc++[x],some ((k':Int),2)),?_,stop (by omega),by simp;omega⟩;refine Weak.mk ?_ ?_ ?_<;>simp(maxSteps:=2000000)only[go_sem,↓reduceIte,Sub,Zaa,Zab,hrow,ro,z0h]
       ·refine⟨(k',acc++[x],none),?_,more (by omega),by simp;omega⟩;refine Weak.mk ?_ ?_ ?_<;>simp(maxSteps:=2000000)only[go_sem,↓reduceIte,Sub,Zaa,Zab,hrow,ro]
    ·rw[if_pos (by omega)]at hF;have het:=j5R s q [93] hs (by omega) (by simp);have hp:q44 (s.drop q) [93]=true:=by
      rw[z5Y hc];have:c=93:=UInt8.toNat_inj.1 (by have:(93:UInt8).toNat=93:=rfl;omega);simp[this]
     rw[hp,if_pos rfl,q0x,q0x]at het;have fb:=q7U (s:=s) hF.symm;rw[dd,q0x]at fb;refine q0e.mc1 (.x 0) rfl (het) rfl rfl rfl rfl ⟨rfl,rfl⟩ ?_;rcases fin with⟨h1,h3⟩|h1<;>rw[h1];all_goals
      simp(maxSteps:=2000000)only[go_sem,↓reduceIte];first
      |exact fb
      |(rw[h3]at fb;exact fb)
end Go.Av.Tryz
