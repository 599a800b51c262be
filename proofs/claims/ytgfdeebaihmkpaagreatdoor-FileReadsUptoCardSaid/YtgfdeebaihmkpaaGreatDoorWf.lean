import Derived.Test.YtgfdeebaihmkpaaGreatDoorWe
import Derived.Test.YtgfdeebaihmkpaaGreatDoorWd
import Derived.Test.YtgfdeebaihmkpaaGreatDoorWb
import Derived.Shelf.Strings.LastIndexAll
import Derived.Test.YtgfdeebaihmkpaaGreatDoorAvJ
import Derived.Test.YtgfdeebaihmkpaaGreatDoorWa
import Derived.Test.YtgfdeebaihmkpaaGreatDoorAvI
import Derived.Shelf.SortM.SortNone
import Derived.Shelf.SortM.Plain
import Derived.Sort.OwnSortedInts
import Derived.Test.YtgfdeebaihmkpaaGreatDoorWc
set_option linter.unusedSimpArgs false
set_option maxRecDepth 100000
set_option maxHeartbeats 16000000
set_option linter.unusedSectionVars false
namespace Go.Av.Tryz
open Go.Proofs
def zD:D:=.agg [.int .i64 0,.int .i64 0,.str [],.list [],.list []]
def q1H:q0g:=
 Qr [Qv 4] (Qr [Qc 6 0,Qq 7 83 [6],Qa 5 7] (.seq (Qr [Qc 8 1,Qk 9 .gtr 8 8] (.cond (.t 9) (.reg [Qc 10 0,Q 11 (.mkI 49 (Ki 2)),Qq 12 63 [10,11]]) .skip)) (.seq (Qr [Qc 13 0, 
 Qn 14 13,Qf 15 2 14,Ql 16 15,Q 17 (.eqN 0 true (.t 16))] (.cond (.t 17) (Qr [Qy 18,Qs 5 4 18] .ret) .skip)) (.seq (.block 0 (Qr [Qc 20 5,Q 21 (.bin .eql (.t 20) (Kb 47)),Qa 
 19 21] (.cond (.t 19) (Qr [Qc 22 0,Qq 23 84 [22],Q 24 (.bld [(0,1),(1,1),(2,1),(3,1),(4,1)] [.int .i64 0,.int .i64 0,.str [],.list [],.list []] [false,false, 
 false,true,true] [(0,.k (.d (.int .i64 4))),(2,.t 23)]),Qs 5 4 24] .ret) (Qr [Qc 26 5,Q 27 (.bin .eql (.t 26) (Kb 40)),Qa 25 27] (.cond (.t 25) (Qr [Qc 28 0,Qc 29 0,Qq 
 30 86 [29],Qq 31 85 [28,30],Qs 5 4 31] .ret) (Qr [Qc 33 0,⟨some 34,.prim .call [.k (.fn (.func 87) [] []),.t 33,.k (.d (.str [60,60]))] [],none⟩,Qa 32 34] (.cond (.t 
 32) (Qr [Qc 35 0,Qc 36 1,Qq 37 88 [35,36],Qs 5 4 37] .ret) (Qr [Qc 39 5,Q 40 (.bin .eql (.t 39) (Kb 60)),Qa 38 40] (.cond (.t 38) (Qr [Qc 41 0,Qc 42 0,Qq 43 89 [42],Qq 
 44 85 [41,43],Qs 5 4 44] .ret) (Qr [Qc 46 0,⟨some 47,.prim .call [.k (.fn (.func 87) [] []),.t 46,.k (.d (.str [91]))] [],none⟩,Qa 45 47] (.cond (.t 45) (Qr [Qc 48 0,Qc 
 49 1,Qq 50 90 [48,49],Qs 5 4 50] .ret) (Qr [Qc 52 5,Qj 53 61 [52],Qa 51 53] (.cond (.t 51) (Qr [Qc 54 0,Q 55 (.mkI 49 (Ki 4)),Qq 56 63 [54,55]] (Qr [Qy 57,Qs 5 4 57] 
 .ret)) .skip))))))))))))) (Qr [Qc 58 0,Qq 59 91 [58],Qs 5 4 59] .ret)))))
def q1I:List LRes:=[.cell 4 true 5]
theorem q1Y:q0n Tryz.prog 62 60 q1H q1I:=⟨_,_,Tryz.func62,rfl,by kernel_rfl,by kernel_rfl,rfl⟩
theorem j7f(s:List UInt8)(k:Int)(deep:Int){n:Nat}(hn:n≠0)(hs:s.length≤60000):q1r Tryz.prog 62 [.ptr (.x 0) 0,.d (.int .i64 deep)] [robj s k n] (.d zD) [robj s (q0l s (q2y s k)) n]:=by
 obtain⟨c,hnx⟩:=next_ne s k hn hs;have hf:=z0w s (q0l s (q2y s k):Int) hn (.iface 49 (.int .i64 2));generalize(q0l s (q2y s k):Int)=q at *;rw[q1u s k hn,q1u s q hn]at *;refine q1Y.q0C (by kernel_rfl) rfl ?_;simp(maxSteps:=2000000)only[go_sem,↓reduceIte,q1H,q1I];refine q0e.mc1 (.x 0) rfl (hnx) rfl rfl rfl rfl ⟨rfl,rfl⟩ ?_;simp(maxSteps:=2000000)only[go_sem,↓reduceIte];refine⟨fun h=>?_,fun h=>rfl⟩;refine q0e.mc1 (.x 0) rfl (hf) rfl rfl rfl rfl ⟨rfl,rfl⟩ ?_
 simp(maxSteps:=2000000)only[go_sem,↓reduceIte];rfl
theorem z5Z{s:List UInt8}{k:Nat}{c:UInt8}{x y:UInt8}(h:s[k]?=some c):q44 (s.drop k) [x,y]=(decide (c=x)&&decide (s[k+1]?=some y)):=by
 rw[q0W h];simp only[q44,Zae,Zag,Zcr];cases hd:s[k+1]? with
 |none=>
  rw[Zai (List.getElem?_eq_none_iff.1 hd)];simp
 |some d=>
  rw[q0W hd];simp
theorem j64(nm:List UInt8)(x:Val)(acc:List Fld):setV nm x (dicV acc)=dicV (setF nm x acc):=rfl
theorem j7X{acc:List Fld}(h:acc.length≤1048576)(hm:∀y∈acc,y.sm 300=true):(dicV acc).sm 1048576=true:=
 Val.q1e.2 ⟨by simp[dicV,Val.s],by simp[dicV,Val.l],h,by simp[dicV,Val.l],fun y hy=>by
  have:=hm y hy;obtain⟨h1,h2⟩:=Fld.q1e.1 this;exact Fld.q1e.2 ⟨by omega,Val.z0Q (by omega) _ h2⟩⟩
def q4D:q0g:=
 Qr [Qv 4] (Qr [Q 11 (.bld [(0,1),(1,1),(2,1),(3,1),(4,1)] [.int .i64 0,.int .i64 0,.str [],.list [],.list []] [false,false,false,true,true] [(0,.k (.d (.int .i64 
 6)))]),Qv 5,Qs 5 5 11] (.seq (.block 0 (.loop (.seq (Qr [Qc 12 0,Qn 13 12,Qf 14 2 13,Ql 15 14,Q 16 (.eqN 0 false (.t 15))] (.cond (.t 16) .skip (.exit 0))) (.block 1 (Qr 
 [Qc 17 0,Qq 18 83 [17],Qa 6 18] (.seq (Qr [Qc 19 0,⟨some 20,.prim .call [.k (.fn (.func 87) [] []),.t 19,.k (.d (.str [62,62]))] [],none⟩] (.cond (.t 20) (.exit 0) 
 .skip)) (.seq (Qr [Qc 21 0,Qn 22 21,Qf 23 2 22,Ql 24 23,Q 25 (.eqN 0 false (.t 24)),Qc 26 25,Qd 27 6 26 true,Qg 28 (.bin .neq (.t 27) (Kb 47)) 26 true,Qp 29 26 28] (.cond 
 (.t 29) (.reg [Qc 30 0,Q 31 (.mkI 49 (Ki 4)),Qq 32 63 [30,31]]) .skip)) (.seq (Qr [Qc 33 0,Qn 34 33,Qf 35 2 34,Ql 36 35,Q 37 (.eqN 0 true (.t 36))] (.cond (.t 37) (.exit 
 0) .skip)) (Qr [Qc 38 0,Qq 39 84 [38],Qa 7 39] (Qr [Qc 40 0,Qc 41 1,Qk 42 .add 41 1,Qq 43 62 [40,42],Qv 8,Qs 5 8 43] (Qr [Qm 45 5 5,Qc 46 7,Qj 47 18 [45,46],Qc 44 47, 
 Qe 48 0 44,Qe 49 1 44,Qv 9,Qs 5 9 48,Qa 10 49] (.seq (Qr [Qc 50 10] (.cond (.t 50) (.reg [Qc 51 0,Q 52 (.mkI 49 (Ki 3)),Qq 53 63 [51,52]]) .skip)) (.seq (Qr [Qc 54 0,Qn 
 55 54,Qf 56 2 55,Ql 57 56,Q 58 (.eqN 0 false (.t 57))] (.cond (.t 58) (.reg [Qm 59 5 5,Qc 60 7,Qm 61 5 8,Qj 62 77 [59,60,61],Qs 5 5 62]) .skip)) (Qr [Qf 63 4 5,Ql 64 
 63,Qz 65 false 64,Qk 66 .gtr 65 300] (.cond (.t 66) (.reg [Qc 67 0,Q 68 (.mkI 49 (Ki 2)),Qq 69 63 [67,68]]) .skip))))))))))))))) (Qr [Qm 70 5 5,Qs 5 4 70] .ret)))
def q4S:List LRes:=[.cell 4 true 5]
theorem q7a:q0n Tryz.prog 88 71 q4D q4S:=⟨_,_,Tryz.func88,rfl,by kernel_rfl,by kernel_rfl,rfl⟩
theorem j5N(s:List UInt8)(hs:s.length≤60000)(rd:Nat→RV)(deep:Int)(hd:0≤deep∧deep≤8)(hg:∀k,k≤s.length→z6H s k (rd k))(ih:RdAt s rd (deep+1))(k:Nat)(hk:k≤s.length):
  q6J Tryz.prog 88 [.ptr (.x 0) 0,.d (.int .i64 deep)] [robj s k 0] (z2O s (q7B rd s 301 [] k)):=by
 generalize hR:q7B rd s 301 [] k=R;rw[q0x];refine q7a.q0C (by kernel_rfl) rfl ?_;simp(maxSteps:=2000000)(disch:=omega)only[go_sem,↓reduceIte,q4D,q4S];refine q0f (fun y:Nat×List Fld×Option (Int×Nat)=>⟨[(0,.ptr (.x 0) 0),(1,.d (.int .i64 deep)),(4,.ptr (.l 4) 0),(5,.ptr (.l 5) 0)],
   [(4,.cells [.d (.int .i64 0),.d (.int .i64 0),.d (.str []),.ns,.ns]),(5,dobj y.2.1)],[(0,ro s y.1 y.2.2)]⟩)
  (fun y=>y.1≤s.length∧y.2.1.length≤301∧srt y.2.1∧(∀z∈y.2.1,z.sm 300=true)∧(y.2.2=none→y.2.1.length≤300∧q7B rd s (301-y.2.1.length) y.2.1 y.1=R)∧∀k e,y.2.2=some (k,e)→e≠0∧R=.bad e) (fun y=>2*(s.length-y.1)+(if y.2.2.isNone=true then 1 else 0)) (k,[],none) ?_ ?_ ?_
 ·refine Weak.mk ?_ ?_ ?_<;>simp(maxSteps:=2000000)only[go_sem,↓reduceIte,Sub,Zaa,Zab,dobj,ro]
 ·exact⟨hk,by simp,z7r,by simp,fun _=>⟨by simp,hR⟩,fun _ _ h=>by cases h⟩
 ·rintro⟨i,acc,o⟩ ⟨hi,ha,hsrt,hsm,hF,hE⟩;simp only at hi ha hsrt hsm hF hE;have hal:=q0D acc;have dd:(dicV acc).d=D.agg [.int .i64 6,.int .i64 0,.str [],.list [],.list (q0k acc)]:=by rw[Val.d_eq];rfl
  have hcs:(dobj acc=.cells [.d (.int .i64 6),.d (.int .i64 0),.d (.str []),.ns,.ns]∧q0k acc=[])∨dobj acc=.cells [.d (.int .i64 6),.d (.int .i64 0),.d (.str []),.d (.list []),.d (.list (q0k acc))]:=by
   rcases z5M acc with⟨h,rfl⟩|h
   ·exact .inl ⟨h,rfl⟩
   ·exact .inr h
  have hget:=fun nm=>q87 (dicV acc) nm (by show acc.length≤_;omega)
  have hset:=fun nm x hx=>j47 (dicV acc) x nm hsrt (j7X (by omega) hsm) hx
  simp only[dd]at hget hset;have inv:∀(k':Int) (e:Nat),e≠0→R=.bad e→i≤s.length∧acc.length≤301∧srt acc∧(∀z∈acc,z.sm 300=true)∧(some (k',e)=none→acc.length≤300∧q7B rd s (301-acc.length) acc i=R)∧∀k e',some (k',e)=some (k,e')→e'≠0∧R=.bad e':=fun k' e e0 he=>
   ⟨hi,ha,hsrt,hsm,fun h=>(by cases h),fun k e' h=>by cases h;exact⟨e0,he⟩⟩
  cases o with
  |some p=>
   obtain⟨k',e⟩:=p;obtain⟨e0,rfl⟩:=hE k' e rfl;have fb:=q1t (s:=s) (R:=.bad e) (dicV acc) k' rfl;rw[dd,q1u s k' e0]at fb;simp only[ro];rw[q1u s k' e0];rcases hcs with⟨h1,h2⟩|h1<;>rw[h1];all_goals
    simp(maxSteps:=2000000)only[go_sem,↓reduceIte];first
    |exact fb
    |(rw[h2]at fb;exact fb)
  |none=>
   obtain⟨ha',hF⟩:=hF rfl;have hlen:(300<(acc.length:Int))=False:=eq_false (by omega);obtain⟨m,hm⟩:∃m,301-acc.length=m+1:=⟨300-acc.length,by omega⟩;rw[hm,q7B]at hF;have hsk:=q0r hi;have hnx:=j1t s i hs hi;generalize q0l s i=q at *;simp only[ro];rw[q0x]at hnx;simp(maxSteps:=2000000)only[go_sem,↓reduceIte];refine q0e.mc1 (.x 0) rfl (hnx) rfl rfl rfl rfl ⟨rfl,rfl⟩ ?_;cases hc:s[q]? with
   |none=>
    rw[hc]at hF;simp only at hF;have het:=j3I s (q:Int) [62,62] (n:=5) (by decide);have fb:=q1t (s:=s) (R:=R) (dicV acc) (q:Int) hF.symm;rw[dd,q7V]at fb;rw[q7V]at het;simp only;rw[q7V];simp(maxSteps:=2000000)only[go_sem,↓reduceIte];refine q0e.mc1 (.x 0) rfl (het) rfl rfl rfl rfl ⟨rfl,rfl⟩ ?_;rcases hcs with⟨h1,h2⟩|h1<;>rw[h1];all_goals
     simp(maxSteps:=2000000)only[go_sem,↓reduceIte];first
     |exact fb
     |(rw[h2]at fb;exact fb)
   |some c=>
    have hc8:=q1Q c;have hlt:q<s.length:=(Zac.1 hc).1;rw[hc]at hF;simp only at hF;simp only;rw[q0x];simp(maxSteps:=2000000)only[go_sem,↓reduceIte];have het:=j5R s q [62,62] hs (by omega) (by simp);rw[z5Z hc]at het
    by_cases c62:c.toNat=62∧s[q+1]?=some 62
    ·have e62:c=62:=UInt8.toNat_inj.1 (by have:(62:UInt8).toNat=62:=rfl;omega);rw[if_pos c62]at hF;have hb:(decide (c=62)&&decide (s[q+1]?=some 62))=true:=by simp[e62,c62.2]
     rw[hb,if_pos rfl,q0x,q0x]at het;have fb:=q7U (s:=s) hF.symm;rw[dd,q0x]at fb;refine q0e.mc1 (.x 0) rfl (het) rfl rfl rfl rfl ⟨rfl,rfl⟩ ?_;rcases hcs with⟨h1,h3⟩|h1<;>rw[h1];all_goals
      simp(maxSteps:=2000000)only[go_sem,↓reduceIte];first
      |exact fb
      |(rw[h3]at fb;exact fb)
    ·rw[if_neg c62]at hF;have hb:(decide (c=62)&&decide (s[q+1]?=some 62))=false:=by
      by_cases e62:c=62
      ·have:¬s[q+1]?=some 62:=fun h=>c62 ⟨by rw[e62];rfl,h⟩
       simp[this]
      ·simp[e62]
     rw[hb,if_neg (by decide),q0x]at het;refine q0e.mc1 (.x 0) rfl (het) rfl rfl rfl rfl ⟨rfl,rfl⟩ ?_;simp(maxSteps:=2000000)only[go_sem,↓reduceIte];refine⟨fun h47=>?_,fun h47=>?_⟩
     ·rw[if_pos (by omega)]at hF;have hf:=q6X s (q:Int) 4;rw[q0x,z0i,q9O.2.2.1]at hf;have fb:=q1t (s:=s) (R:=R) (dicV acc) (q:Int) hF.symm;rw[dd,z0i]at fb;refine q0e.mc1 (.x 0) rfl (hf) rfl rfl rfl rfl ⟨rfl,rfl⟩ ?_;rcases hcs with⟨h1,h3⟩|h1<;>rw[h1];all_goals
       simp(maxSteps:=2000000)only[go_sem,↓reduceIte];first
       |exact fb
       |(rw[h3]at fb;exact fb)
     ·rw[if_neg (by omega)]at hF;have hnm:=z8F s q hs hlt;rw[q0x]at hnm;refine q0e.mp1 (.x 0) rfl (hnm) rfl rfl rfl rfl (fun r hs' hr=>?_);cases hn:q5W s q with
      |none=>
       rw[hn]at hF hr;simp only at hF;obtain⟨b,k2,rfl,rfl⟩:=hr;refine⟨⟨rfl,rfl⟩,?_⟩;have hv:=j7f s k2 (deep+1) (n:=4) (by decide) hs;have hgt:=hget b;have eg:getR (getV b (dicV acc).f)=.tup [((getV b acc).getD zeroV).d,.bool (getV b acc).isSome]:=rfl;rw[eg]at hgt;generalize(getV b acc).getD zeroV=gv at hgt;generalize(getV b acc).isSome=gs at hgt;rw[Val.d_eq gv]at hgt;generalize(q0l s (q2y s k2):Int)=q2 at hv;have hf3:=z0w s q2 (n:=4) (by decide) (.iface 49 (.int .i64 3));rw[z0i]at hv hf3 ⊢;rw[z0i]at hv
       simp(maxSteps:=2000000)(disch:=omega)only[go_sem,↓reduceIte];refine q0e.mc1 (.x 0) rfl (hv) rfl rfl rfl rfl ⟨rfl,rfl⟩ ?_;have inv4:=inv q2 4 (by decide) hF.symm;rcases hcs with⟨h1,h3⟩|h1<;>rw[h1];all_goals
        try rw[h3]at hgt
        simp(maxSteps:=2000000)only[go_sem,↓reduceIte,zD];refine q0c.of hgt ?_;cases gs with
        |false=>
         simp(maxSteps:=2000000)only[go_sem,↓reduceIte,hal,hlen];refine⟨(i,acc,some (q2,4)),?_,inv4,by simp⟩;refine Weak.mk ?_ ?_ ?_<;>simp(maxSteps:=2000000)only[go_sem,↓reduceIte,Sub,Zaa,Zab,h1,ro,z0i]
        |true=>
         simp(maxSteps:=2000000)only[go_sem,↓reduceIte];refine q0e.mc1 (.x 0) rfl (hf3) rfl rfl rfl rfl ⟨rfl,rfl⟩ ?_;simp(maxSteps:=2000000)only[go_sem,↓reduceIte,hal,hlen];refine⟨(i,acc,some (q2,4)),?_,inv4,by simp⟩;refine Weak.mk ?_ ?_ ?_<;>simp(maxSteps:=2000000)only[go_sem,↓reduceIte,Sub,Zaa,Zab,h1,ro,z0i]
      |some p=>
       obtain⟨nm,kn⟩:=p;rw[hn]at hF hr;obtain⟨rfl,rfl⟩:=hr;refine⟨⟨rfl,rfl⟩,?_⟩;simp only at hF;obtain⟨n1,n2,n3,n4⟩:=q8h hlt hn;have hv:=ih kn n2;have hgq:=hg kn n2;have hgt:=hget nm;have eg:getR (getV nm (dicV acc).f)=.tup [((getV nm acc).getD zeroV).d,.bool (getV nm acc).isSome]:=rfl;rw[eg]at hgt;have hnone:=z1m (nm:=nm) (l:=acc);generalize(getV nm acc).getD zeroV=gv at hgt;generalize(getV nm acc).isSome=gs at hgt hF hnone;rw[Val.d_eq gv]at hgt;rw[q0x]at hv ⊢
       simp(maxSteps:=2000000)(disch:=omega)only[go_sem,↓reduceIte];refine q0e.mp1 (.x 0) rfl (hv) rfl rfl rfl rfl (fun r hs' hr=>?_);cases hx:rd kn with
       |bad e=>
        rw[hx]at hF hr hgq;obtain⟨x,k',rfl,rfl⟩:=hr;obtain⟨g1,_⟩:=hgq;have e0:e≠0:=by omega
        refine⟨⟨rfl,rfl⟩,?_⟩;have hf3:=z0w s k' e0 (.iface 49 (.int .i64 3));rw[Val.d_eq x];rw[q1u s k' e0]at hf3 ⊢;have inv4:=inv k' e e0 hF.symm;rcases hcs with⟨h1,h3⟩|h1<;>rw[h1];all_goals
         try rw[h3]at hgt
         simp(maxSteps:=2000000)only[go_sem,↓reduceIte];refine q0c.of hgt ?_;cases gs with
         |false=>
          simp(maxSteps:=2000000)only[go_sem,↓reduceIte,hal,hlen];refine⟨(i,acc,some (k',e)),?_,inv4,by simp⟩;refine Weak.mk ?_ ?_ ?_<;>simp(maxSteps:=2000000)only[go_sem,↓reduceIte,Sub,Zaa,Zab,h1,ro,q1u s k' e0]
         |true=>
          simp(maxSteps:=2000000)only[go_sem,↓reduceIte];refine q0e.mc1 (.x 0) rfl (hf3) rfl rfl rfl rfl ⟨rfl,rfl⟩ ?_;simp(maxSteps:=2000000)only[go_sem,↓reduceIte,hal,hlen];refine⟨(i,acc,some (k',e)),?_,inv4,by simp⟩;refine Weak.mk ?_ ?_ ?_<;>simp(maxSteps:=2000000)only[go_sem,↓reduceIte,Sub,Zaa,Zab,h1,ro,q1u s k' e0]
       |ok x k'=>
        rw[hx]at hF hr hgq;obtain⟨rfl,rfl⟩:=hr;obtain⟨g1,g2,g3,g4⟩:=hgq;refine⟨⟨rfl,rfl⟩,?_⟩;simp only at hF;have hf3:=q6X s (k':Int) 3;have hf2:=q6X s (k':Int) 2;rw[q0x,j7B,q9O.2.1]at hf3;rw[q0x,z0h,q9O.1]at hf2;have hst:=hset nm x (Val.z0Q (by omega) x g3);rw[j64]at hst;rw[show(dicV (setF nm x acc)).d=.agg [.int .i64 6,.int .i64 0,.str [],.list [],.list (q0k (setF nm x acc))] by rw[Val.d_eq];rfl,Val.d_eq x]at hst;rw[Val.d_eq x,q0x];cases gs with
        |true=>
         rw[if_pos rfl]at hF;have inv4:=inv (k':Int) 3 (by decide) hF.symm;rcases hcs with⟨h1,h3⟩|h1<;>rw[h1];all_goals
          try rw[h3]at hgt
          simp(maxSteps:=2000000)only[go_sem,↓reduceIte];refine q0c.of hgt ?_;simp(maxSteps:=2000000)only[go_sem,↓reduceIte];refine q0e.mc1 (.x 0) rfl (hf3) rfl rfl rfl rfl ⟨rfl,rfl⟩ ?_;simp(maxSteps:=2000000)only[go_sem,↓reduceIte,hal,hlen];refine⟨(i,acc,some ((k':Int),3)),?_,inv4,by simp⟩;refine Weak.mk ?_ ?_ ?_<;>simp(maxSteps:=2000000)only[go_sem,↓reduceIte,Sub,Zaa,Zab,h1,ro,j7B]
        |false=>
         rw[if_neg (by decide)]at hF;have hno:=hnone rfl;obtain⟨p1,p2⟩:=z4Q (x:=x) hno;have hsl:=q0D (setF nm x acc);have hob:=j3C (j46 nm x acc hno);have hsm2:∀z∈setF nm x acc,z.sm 300=true:=fun z hz=>by
          rcases z7n hz with rfl|hz
          ·exact Fld.q1e.2 ⟨by simp only[Fld.name];omega,g3⟩
          ·exact hsm z hz
         have hsr2:=j0J (x:=x) hsrt hno;generalize setF nm x acc=acc2 at *;have more:acc2.length≤300→k'≤s.length∧acc2.length≤301∧srt acc2∧(∀z∈acc2,z.sm 300=true)∧((none:Option (Int×Nat))=none→acc2.length≤300∧q7B rd s (301-acc2.length) acc2 k'=R)∧∀k e',(none:Option (Int×Nat))=some (k,e')→e'≠0∧R=.bad e':=fun h=>
          ⟨g2,by omega,hsr2,hsm2,fun _=>⟨by omega,by rw[←hF];congr 1;omega⟩,fun _ _ h=>by cases h⟩
         have stop:¬acc2.length≤300→k'≤s.length∧acc2.length≤301∧srt acc2∧(∀z∈acc2,z.sm 300=true)∧(some ((k':Int),2)=none→acc2.length≤300∧q7B rd s (301-acc2.length) acc2 k'=R)∧∀k e',some ((k':Int),2)=some (k,e')→e'≠0∧R=.bad e':=fun h=>
          ⟨g2,by omega,hsr2,hsm2,fun h=>(by cases h),fun k e' h'=>by
           cases h';have hm0:m=0:=by omega
           rw[hm0,q7B]at hF;exact⟨by decide,hF.symm⟩⟩
         rcases hcs with⟨h1,h3⟩|h1<;>rw[h1];all_goals
          try rw[h3]at hgt hst
          simp(maxSteps:=2000000)only[go_sem,↓reduceIte];refine q0c.of hgt ?_;simp(maxSteps:=2000000)only[go_sem,↓reduceIte];refine q0c.of hst ?_;simp(maxSteps:=2000000)only[go_sem,↓reduceIte,hsl];refine⟨fun h5=>?_,fun h5=>?_⟩
          ·refine q0e.mc1 (.x 0) rfl (hf2) rfl rfl rfl rfl ⟨rfl,rfl⟩ ?_;simp(maxSteps:=2000000)only[go_sem,↓reduceIte];refine⟨(k',acc2,some ((k':Int),2)),?_,stop (by omega),by simp;omega⟩;refine Weak.mk ?_ ?_ ?_<;>simp(maxSteps:=2000000)only[go_sem,↓reduceIte,Sub,Zaa,Zab,hob,ro,z0h]
          ·refine⟨(k',acc2,none),?_,more (by omega),by simp;omega⟩;refine Weak.mk ?_ ?_ ?_<;>simp(maxSteps:=2000000)only[go_sem,↓reduceIte,Sub,Zaa,Zab,hob,ro]
theorem q04:zeroV.d=.agg [.int .i64 0,.int .i64 0,.str [],.list [],.list []]:=by rw[Val.d_eq];rfl
theorem z2f{s:List UInt8}{R:RV}{r:AV}{hs:List AObj}(h:z2O s R r hs):∃(v:Val) (k:Int) (e:Nat),r=.d (.agg [.int .i64 v.kind,.int .i64 v.n,.str v.s,.list (q0m v.l),.list (q0k v.f)])∧hs=[.cells [.d (.str s),.d (.int .i64 k),.d (errD e)]]:=by
 cases R with
 |ok v k=>obtain⟨rfl,rfl⟩:=h;exact⟨v,k,0,by rw[Val.d_eq],rfl⟩
 |bad e=>obtain⟨v,k,rfl,rfl⟩:=h;exact⟨v,k,e,by rw[Val.d_eq],rfl⟩
theorem j0U(s:List UInt8)(hs:s.length≤60000):∀(d:Nat),d≤8→RdAt s (q57 d s) (9-(d:Int)):=by
 intro d;induction d with
 |zero=>
  intro _ k hk;generalize hR:q57 0 s k=R;rw[q57]at hR;have hnx:=j1t s k hs hk;generalize q0l s k=q at *;rw[q0x]at hnx ⊢;refine q1Y.q0C (by kernel_rfl) rfl ?_;simp(maxSteps:=2000000)only[go_sem,↓reduceIte,q1H,q1I];refine q0e.mc1 (.x 0) rfl (hnx) rfl rfl rfl rfl ⟨rfl,rfl⟩ ?_;cases hc:s[q]? with
  |none=>
   rw[hc]at hR;have hf:=z0w s (q:Int) (n:=5) (by decide) (.iface 49 (.int .i64 2));have fb:=q1t (s:=s) zeroV (q:Int) hR.symm;rw[q04,q7V]at fb;rw[q7V]at hf;simp only;rw[q7V];simp(maxSteps:=2000000)only[go_sem,↓reduceIte];refine q0e.mc1 (.x 0) rfl (hf) rfl rfl rfl rfl ⟨rfl,rfl⟩ ?_;simp(maxSteps:=2000000)only[go_sem,↓reduceIte];exact fb
  |some c=>
   rw[hc]at hR;have hf:=q6X s (q:Int) 2;have fb:=q1t (s:=s) zeroV (q:Int) hR.symm;rw[q04,z0h]at fb;rw[q0x,z0h,q9O.1]at hf;simp only;rw[q0x];simp(maxSteps:=2000000)only[go_sem,↓reduceIte];refine q0e.mc1 (.x 0) rfl (hf) rfl rfl rfl rfl ⟨rfl,rfl⟩ ?_;simp(maxSteps:=2000000)only[go_sem,↓reduceIte];exact fb
 |succ d ihd=>
  intro hd k hk;generalize hR:q57 (d+1) s k=R;rw[q57]at hR;have hsk:=q0r hk;have hnx:=j1t s k hs hk;generalize q0l s k=q at *;have ih:=ihd (by omega);obtain⟨deep,hde⟩:∃deep:Int,9-((d+1:Nat):Int)=deep:=⟨_,rfl⟩;have e1:9-(d:Int)=deep+1:=by omega
  have hdeep:0≤deep∧deep≤8:=by omega
  rw[e1]at ih;rw[hde];clear hde e1;have hg:=fun k hk=>q4a s d k hk
  rw[q0x]at hnx ⊢;refine q1Y.q0C (by kernel_rfl) rfl ?_;simp(maxSteps:=2000000)only[go_sem,↓reduceIte,q1H,q1I];refine q0e.mc1 (.x 0) rfl (hnx) rfl rfl rfl rfl ⟨rfl,rfl⟩ ?_;have hd8:(8<deep)=False:=eq_false (by omega);cases hc:s[q]? with
  |none=>
   rw[hc]at hR;have fb:=q1t (s:=s) zeroV (q:Int) hR.symm;rw[q04,q7V]at fb;simp only;rw[q7V];simp(maxSteps:=2000000)only[go_sem,↓reduceIte,hd8];exact fb
  |some c=>
   have hc8:=q1Q c;have hlt:q<s.length:=(Zac.1 hc).1;rw[hc]at hR;simp only at hR;simp only;rw[q0x];simp(maxSteps:=2000000)only[go_sem,↓reduceIte,hd8];refine⟨fun h47=>?_,fun h47=>⟨fun h40=>?_,fun h40=>?_⟩⟩
   ·rw[if_pos (by omega)]at hR;have hnm:=z8F s q hs hlt;rw[q0x]at hnm;refine q0e.mp1 (.x 0) rfl (hnm) rfl rfl rfl rfl (fun r hs' hr=>?_);cases hn:q5W s q with
    |none=>
     rw[hn]at hR hr;obtain⟨b,k2,rfl,rfl⟩:=hr;refine⟨⟨rfl,rfl⟩,?_⟩;have fb:=q1t (s:=s) (namV b) k2 hR.symm;rw[namV,kmk,z0i]at fb;rw[z0i];simp(maxSteps:=2000000)only[go_sem,↓reduceIte];exact fb
    |some p=>
     obtain⟨b,kn⟩:=p;rw[hn]at hR hr;obtain⟨rfl,rfl⟩:=hr;refine⟨⟨rfl,rfl⟩,?_⟩;have fb:=q7U (s:=s) hR.symm;rw[namV,kmk,q0x]at fb;rw[q0x];simp(maxSteps:=2000000)only[go_sem,↓reduceIte];exact fb
   ·rw[if_neg (by omega),if_pos (by omega)]at hR;have hl:=j4n s q hs hlt;rw[q0x]at hl;unfold j4m at hR;refine q0e.mp1 (.x 0) rfl (hl) rfl rfl rfl rfl (fun r hs' hr=>?_);cases hx:litF 0 1 (s.drop (q+1)) [] (q+1)with
    |none=>
     rw[hx]at hR hr;obtain⟨k2,rfl,rfl⟩:=hr;refine⟨⟨rfl,rfl⟩,?_⟩;have fb:=q1t (s:=s) (strV []) k2 hR.symm;have hst:=j7D s k2 [] (n:=5) (by decide);rw[strV,kmk,q7V]at fb hst;rw[q7V];simp(maxSteps:=2000000)only[go_sem,↓reduceIte];refine q0e.mc1 (.x 0) rfl (hst) rfl rfl rfl rfl ⟨rfl,rfl⟩ ?_;simp(maxSteps:=2000000)only[go_sem,↓reduceIte];exact fb
    |some p=>
     obtain⟨b,kn⟩:=p;rw[hx]at hR hr;obtain⟨rfl,rfl⟩:=hr;refine⟨⟨rfl,rfl⟩,?_⟩;simp only at hR;have hst:=j9I s (kn:Int) b;rw[strV,kmk,q0x]at hst;rw[q0x];simp(maxSteps:=2000000)only[go_sem,↓reduceIte];refine q0e.mc1 (.x 0) rfl (hst) rfl rfl rfl rfl ⟨rfl,rfl⟩ ?_
     by_cases hb:b.length≤200
     ·rw[if_pos hb]at hR ⊢;have fb:=q7U (s:=s) hR.symm;rw[strV,kmk,q0x]at fb;rw[q0x];simp(maxSteps:=2000000)only[go_sem,↓reduceIte];exact fb
     ·rw[if_neg hb]at hR ⊢;have fb:=q1t (s:=s) (strV b) (kn:Int) hR.symm;rw[strV,kmk,z0h]at fb;rw[z0h];simp(maxSteps:=2000000)only[go_sem,↓reduceIte];exact fb
   ·rw[if_neg (by omega),if_neg (by omega)]at hR;have het:=j5R s q [60,60] hs (by omega) (by simp);rw[z5Z hc]at het
    by_cases cd:c.toNat=60∧s[q+1]?=some 60
    ·have e60:c=60:=UInt8.toNat_inj.1 (by have:(60:UInt8).toNat=60:=rfl;omega);have hq2:=(Zac.1 cd.2).1;rw[if_pos cd]at hR;have hb:(decide (c=60)&&decide (s[q+1]?=some 60))=true:=by simp[e60,cd.2]
     have e2:(q:Int)+(([60,60]:List UInt8).length:Int)=((q+2:Nat):Int):=by simp
     rw[hb,if_pos rfl,e2,q0x,q0x]at het;refine q0e.mc1 (.x 0) rfl (het) rfl rfl rfl rfl ⟨rfl,rfl⟩ ?_;have hdc:=j5N s hs (q57 d s) deep hdeep hg ih (q+2) (by omega);rw[hR,q0x]at hdc;simp(maxSteps:=2000000)only[go_sem,↓reduceIte];refine q0e.mp1 (.x 0) rfl (hdc) rfl rfl rfl rfl (fun r hs' hr=>?_);obtain⟨v,k2,e,rfl,rfl⟩:=z2f hr;refine⟨⟨rfl,rfl⟩,?_⟩;simp(maxSteps:=2000000)only[go_sem,↓reduceIte];exact hr
    ·have hb:(decide (c=60)&&decide (s[q+1]?=some 60))=false:=by
      by_cases e60:c=60
      ·have:¬s[q+1]?=some 60:=fun h=>cd ⟨by rw[e60];rfl,h⟩
       simp[this]
      ·simp[e60]
     rw[if_neg cd]at hR;rw[hb,if_neg (by decide),q0x]at het;refine q0e.mc1 (.x 0) rfl (het) rfl rfl rfl rfl ⟨rfl,rfl⟩ ?_;simp(maxSteps:=2000000)only[go_sem,↓reduceIte];refine⟨fun h60=>?_,fun h60=>?_⟩
     ·rw[if_pos (by omega)]at hR;have hx:=j2s s q hs hlt;rw[q0x]at hx;unfold z9X at hR;have hcode:=q3N (s.drop (q+1)) (-1) [];refine q0e.mp1 (.x 0) rfl (hx) rfl rfl rfl rfl (fun r hs' hr=>?_);generalize q1i (s.drop (q+1)) (-1) []=U at hR hcode hr;obtain⟨ub,uc⟩:=U;simp only at hR hcode hr;obtain⟨rfl,k2,rfl,hk2⟩:=hr;refine⟨⟨rfl,rfl⟩,?_⟩
      by_cases u0:uc=0
      ·subst u0;rw[if_pos rfl]at hR;rw[hk2 rfl];have hst:=j9I s ((q+1+q89 (s.drop (q+1)):Nat):Int) ub;rw[strV,kmk,q0x]at hst;rw[q0x];simp(maxSteps:=2000000)only[go_sem,↓reduceIte];refine q0e.mc1 (.x 0) rfl (hst) rfl rfl rfl rfl ⟨rfl,rfl⟩ ?_
       by_cases hb2:ub.length≤200
       ·rw[if_pos hb2]at hR ⊢;have fb:=q7U (s:=s) hR.symm;rw[strV,kmk,q0x]at fb;rw[q0x];simp(maxSteps:=2000000)only[go_sem,↓reduceIte];exact fb
       ·rw[if_neg hb2]at hR ⊢;have fb:=q1t (s:=s) (strV ub) ((q+1+q89 (s.drop (q+1)):Nat):Int) hR.symm;rw[strV,kmk,z0h]at fb;rw[z0h];simp(maxSteps:=2000000)only[go_sem,↓reduceIte];exact fb
      ·rw[if_neg u0]at hR;have fb:=q1t (s:=s) (strV ub) k2 hR.symm;have hst:=j7D s k2 ub u0;rw[strV,kmk,q1u s k2 u0]at fb hst;rw[q1u s k2 u0];simp(maxSteps:=2000000)only[go_sem,↓reduceIte];refine q0e.mc1 (.x 0) rfl (hst) rfl rfl rfl rfl ⟨rfl,rfl⟩ ?_;simp(maxSteps:=2000000)only[go_sem,↓reduceIte];exact fb
     ·rw[if_neg (by omega)]at hR;have het2:=j5R s q [91] hs (by omega) (by simp);rw[z5Y hc]at het2
      by_cases h91:c.toNat=91
      ·rw[if_pos h91]at hR;have e91:c=91:=UInt8.toNat_inj.1 (by have:(91:UInt8).toNat=91:=rfl;omega);have e2:(q:Int)+(([91]:List UInt8).length:Int)=((q+1:Nat):Int):=by simp
       rw[decide_eq_true e91,if_pos rfl,e2,q0x,q0x]at het2;refine q0e.mc1 (.x 0) rfl (het2) rfl rfl rfl rfl ⟨rfl,rfl⟩ ?_;have hls:=j6q s hs (q57 d s) deep hdeep hg ih (q+1) (by omega);rw[hR,q0x]at hls;simp(maxSteps:=2000000)only[go_sem,↓reduceIte];refine q0e.mp1 (.x 0) rfl (hls) rfl rfl rfl rfl (fun r hs' hr=>?_);obtain⟨v,k2,e,rfl,rfl⟩:=z2f hr;refine⟨⟨rfl,rfl⟩,?_⟩;simp(maxSteps:=2000000)only[go_sem,↓reduceIte];exact hr
      ·rw[if_neg h91]at hR;have e91:¬c=91:=fun e=>h91 (by rw[e];rfl)
       rw[decide_eq_false e91,if_neg (by decide),q0x]at het2;refine q0e.mc1 (.x 0) rfl (het2) rfl rfl rfl rfl ⟨rfl,rfl⟩ ?_;simp(maxSteps:=2000000)only[go_sem,↓reduceIte];refine q0c.of (z9e c) ?_;simp(maxSteps:=2000000)only[go_sem,↓reduceIte];refine⟨fun hs1=>?_,fun hs1=>?_⟩
       ·rw[if_pos hs1]at hR;have hf:=q6X s (q:Int) 4;have fb:=q1t (s:=s) zeroV (q:Int) hR.symm;rw[q04,z0i]at fb;rw[q0x,z0i,q9O.2.2.1]at hf;refine q0e.mc1 (.x 0) rfl (hf) rfl rfl rfl rfl ⟨rfl,rfl⟩ ?_;simp(maxSteps:=2000000)only[go_sem,↓reduceIte];exact fb
       ·rw[if_neg (by simp[hs1])]at hR;have hwv:=j23 s q hs (by omega);rw[hR,q0x]at hwv;refine q0e.mp1 (.x 0) rfl (hwv) rfl rfl rfl rfl (fun r hs' hr=>?_);obtain⟨v,k2,e,rfl,rfl⟩:=z2f hr;refine⟨⟨rfl,rfl⟩,?_⟩;simp(maxSteps:=2000000)only[go_sem,↓reduceIte];exact hr
def topP:RV→Res
 |.ok v k=>.tup [v.d,.int .i64 k,.nil]
 |.bad e=>.tup [zeroV.d,.int .i64 0,errD e]
def z0Y:q0g:=
 Qr [Qv 4,Qx 5 (Ki 0),Qx 6 (.k (.d .nil))] (.seq (Qr [Qc 9 0,Qz 10 true 9,Qk 11 .gtr 10 60000,Qc 12 11,Qd 13 1 12 false,Qg 14 (.bin .lss (.t 13) (Ki 0)) 12 false,Qo 15 12 
 14,Qc 16 15,Qd 17 1 16 false,Qd 18 0 16 false,Qg 19 (.len true (.t 18)) 16 false,Qg 20 (.bin .gtr (.t 17) (.t 19)) 16 false,Qo 21 16 20] (.cond (.t 21) (Qr [Qy 22,Q 23 
 (.mkI 49 (Ki 1)),Qs 5 4 22,Qx 5 (Ki 0),Qa 6 23] .ret) .skip)) (Qr [Qc 24 0,Qc 25 1,Q 26 (.bld [(0,1),(1,1),(2,1)] [.str [],.int .i64 0,.nil] [] [(0,.t 24),(1,.t 
 25)]),⟨some 27,.box (.t 26),none⟩,Qa 7 27] (Qr [Qc 28 7,⟨some 29,.prim .call [.k (.fn (.func 62) [] []),.t 28,.k (.d (.int .i64 1))] [],none⟩,Qv 8,Qs 5 8 29] (.seq (Qr 
 [Qc 30 7,Qn 31 30,Qf 32 2 31,Ql 33 32,Q 34 (.eqN 0 false (.t 33))] (.cond (.t 34) (.reg [Qc 35 7,Qm 36 5 8,Qj 37 64 [36],Qq 38 63 [35,37]]) .skip)) (.seq (Qr [Qc 39 7,Qn 
 40 39,Qf 41 2 40,Ql 42 41,Q 43 (.eqN 0 true (.t 42))] (.cond (.t 43) (.seq (.dreg [Qy 44,Qc 45 7,Qn 46 45,Qf 47 2 46,Ql 48 47,⟨none,.stC 5 (.t 4) (.t 44) [(45,.cp (.t 
 7)),(46,.nck (.t 45)),(47,.fa 2 (.t 46)),(48,.ld false 1 (.t 47))],none⟩,Q 5 (.cp (Ki 0)),Qc 6 48]) .ret) .skip)) (.seq (.dreg [Qm 49 5 8,Qc 50 7,Qn 51 50,Qf 52 1 51, 
 Ql 53 52,⟨none,.stC 5 (.t 4) (.t 49) [(50,.cp (.t 7)),(51,.nck (.t 50)),(52,.fa 1 (.t 51)),(53,.ld false 1 (.t 52))],none⟩,Qc 5 53,Q 6 (.cp (.k (.d .nil)))]) 
 .ret))))))
def z04:List LRes:=[.cell 4 true 5,.tmp 5,.tmp 6]
theorem z3a:q0n Tryz.prog 40 54 z0Y z04:=⟨_,_,Tryz.func40,rfl,by kernel_rfl,by kernel_rfl,rfl⟩
theorem z1M(s:List UInt8)(k:Int)(hs:s.length≤1000000000):q0i Tryz.prog 40 [.str s,.int .i64 k] (fun r=>r=topP (q3l s k)):=by
 refine z3a.call rfl ?_;generalize hR:q3l s k=R;unfold q3l at hR;simp(maxSteps:=2000000)only[go_sem,↓reduceIte,z0Y,z04];have bad:∀(e:Nat),R=.bad e→Res.tup [.agg [.int .i64 0,.int .i64 0,.str [],.list [],.list []],.int .i64 0,errD e]=topP R:=fun e he=>by
  rw[he,topP,q04]
 have b1:=bad 1;rw[q0Q (by decide)]at b1;refine⟨fun h1=>⟨fun h2=>⟨fun h3=>?_,fun h3=>?_⟩,fun h2=>?_⟩,fun h1=>?_⟩
 ·rw[if_pos (by omega)]at hR;exact b1 hR.symm
 ·rw[if_neg (by omega)]at hR;obtain⟨q,rfl⟩:∃q:Nat,k=q:=⟨k.toNat,by omega⟩;rw[Zbw]at hR;have hc:=j0U s (by omega) 8 (by omega) q (by omega);have hg:=q4a s 8 q (by omega);rw[q0x]at hc;refine q0e.mp1 (.l 27) rfl (hc) rfl rfl rfl rfl (fun r hs' hr=>?_);cases hx:q57 8 s q with
  |bad e=>
   rw[hx]at hR hr hg;obtain⟨v,k2,rfl,rfl⟩:=hr;refine⟨⟨rfl,rfl⟩,?_⟩;have he:e≠0:=by obtain⟨g1,_⟩:=hg;omega
   rw[q1u s k2 he,Val.d_eq v];have b2:=bad e hR.symm;rw[q0Q he]at b2;simp(maxSteps:=2000000)only[go_sem,↓reduceIte];exact b2
  |ok v n=>
   rw[hx]at hR hr hg;obtain⟨rfl,rfl⟩:=hr;refine⟨⟨rfl,rfl⟩,?_⟩;simp only at hR;obtain⟨g1,g2,g3,g4⟩:=hg;have hf:=z3R v (Val.z0Q (by omega) v g3);have hfl:=q6X s (n:Int) (q4q v);rw[q0x]at hfl ⊢;rw[Val.d_eq v]at hf ⊢;simp(maxSteps:=2000000)only[go_sem,↓reduceIte];refine q0c.of hf ?_;simp(maxSteps:=2000000)only[go_sem,↓reduceIte];refine q0e.mc1 (.l 27) rfl (hfl) rfl rfl rfl rfl ⟨rfl,rfl⟩ ?_
   by_cases f0:q4q v=0
   ·rw[if_pos f0]at hR;rw[f0,q0x];simp(maxSteps:=2000000)only[go_sem,↓reduceIte];rw[←hR,topP,Val.d_eq]
   ·rw[if_neg f0]at hR;have b2:=bad _ hR.symm;rw[q0Q f0]at b2;rw[q1u s n f0];simp(maxSteps:=2000000)only[go_sem,↓reduceIte];exact b2
 ·rw[if_pos (by omega)]at hR;exact b1 hR.symm
 ·rw[if_pos (by omega)]at hR;exact b1 hR.symm
open Go.Proofs Go.Shelf
def numR:Option (Nat×Nat)→Res
 |none=>.tup [.int .i64 0,.int .i64 0,errD 4]
 |some p=>.tup [.int .i64 p.1,.int .i64 p.2,.nil]
def numN:Option (Nat×Nat)→Res
 |none=>.tup [.int .i64 0,.int .i64 0,.int .i64 4]
 |some p=>.tup [.int .i64 p.1,.int .i64 p.2,.int .i64 0]
theorem e4:errD 4=.iface 49 (.int .i64 4):=q0Q (by decide)
theorem j1v{s:List UInt8}{k:Nat}(h:(q0p s k).length<1∨10<(q0p s k).length):numG s k=none:=if_pos h
theorem j1w{s:List UInt8}{k:Nat}(h:¬((q0p s k).length<1∨10<(q0p s k).length)):numG s k=(digF (q0p s k) 0).map fun n=>(n,k+(q0p s k).length):=if_neg h
theorem z7T{c:UInt8}{r:List UInt8}{n:Nat}(h:c.toNat<48∨57<c.toNat):digF (c::r) n=none:=if_pos h
theorem z7S{c:UInt8}{r:List UInt8}{n:Nat}(h:¬(c.toNat<48∨57<c.toNat)):digF (c::r) n=digF r (10*n+(c.toNat-48)):=if_neg h
def q73:q0g:=
 Qr [Qx 4 (Ki 0),Qx 5 (Ki 0),Qx 6 (.k (.d .nil))] (Qr [Qc 10 0,Qc 11 1,Qj 12 39 [10,11],Qa 7 12] (.seq (Qr [Qc 13 7,Q 14 (.bin .eql (.t 13) (.k (.d (.str [])))),Qc 15 14,Qd 
 16 7 15 false,Qg 17 (.len true (.t 16)) 15 false,Qg 18 (.bin .gtr (.t 17) (Ki 10)) 15 false,Qo 19 15 18] (.cond (.t 19) (Qr [Q 20 (.mkI 49 (Ki 4)),Qx 4 (Ki 0),Qx 5 (Ki 0), 
 Qa 6 20] .ret) .skip)) (Qr [Qx 8 (Ki 0)] (.seq (Qr [Qc 21 7,Qz 22 true 21,Q 23 (.cp (Ki 0))] (.block 0 (.loop (Qr [Qb 24 .lss 23 22] (.seq (.cond (.t 24) .skip (.exit 0)) (.seq 
 (.block 1 (Qr [Qc 25 23,Qa 9 25] (.seq (Qr [Qc 26 7,Qc 27 9,Q 28 (.idxS (.t 26) (.t 27)),Q 29 (.bin .lss (.t 28) (Kb 48)),Qc 30 29,Qd 31 7 30 false,Qd 32 9 30 false,Qg 33 
 (.idxS (.t 31) (.t 32)) 30 false,Qg 34 (.bin .gtr (.t 33) (Kb 57)) 30 false,Qo 35 30 34] (.cond (.t 35) (Qr [Q 36 (.mkI 49 (Ki 4)),Qx 4 (Ki 0),Qx 5 (Ki 0),Qa 6 36] .ret) 
 .skip)) (.reg [Qc 37 8,Q 38 (.bin .mul (Ki 10) (.t 37)),Qc 39 7,Qc 40 9,Q 41 (.idxS (.t 39) (.t 40)),Q 42 (.bin .sub (.t 41) (Kb 48)),Q 43 (.cvI .i64 (.t 42)),Qb 44 .add 
 38 43,Qa 8 44])))) (.reg [Qk 45 .add 23 1,Qc 23 45]))))))) (Qr [Qc 46 8,Qc 47 1,Qc 48 7,Qz 49 true 48,Qb 50 .add 47 49,Qa 4 46,Qa 5 50,Qx 6 (.k (.d .nil))] .ret)))))
def q75:List LRes:=[.tmp 4,.tmp 5,.tmp 6]
theorem q8A:q0n Tryz.prog 44 51 q73 q75:=⟨_,_,Tryz.func44,rfl,by kernel_rfl,by kernel_rfl,rfl⟩
theorem q6n{s:List UInt8}{k:Nat}(hk:k≤s.length)(hs:s.length≤60000):q0i Tryz.prog 44 [.str s,.int .i64 k] (fun r=>r=numR (numG s k)):=by
 have hw:=q16 s (k:Int) (by omega);rw[q0h hk]at hw;have hwl:=q0I s k
 by_cases hb:(q0p s k).length<1∨10<(q0p s k).length
 ·rw[j1v hb,numR,e4];refine q8A.call rfl ?_;simp(maxSteps:=2000000)only[go_sem,↓reduceIte,q73,q75];refine q0c.of hw ?_
  by_cases h0:q0p s k=[]
  ·simp(maxSteps:=2000000)only[go_sem,↓reduceIte,h0]
  ·have h1:(q0p s k=[])=False:=eq_false h0;have h2:(10<((q0p s k).length:Int))=True:=eq_true (by have:=List.length_pos_iff.2 h0;omega);simp(maxSteps:=2000000)only[go_sem,↓reduceIte,h1,h2]
 ·rw[j1w hb];generalize hW:q0p s k=w at *;generalize hR:digF w 0=R;refine q8A.call rfl ?_;simp(maxSteps:=2000000)only[go_sem,↓reduceIte,q73,q75];refine q0c.of hw ?_;have h1:(w=[])=False:=eq_false fun e=>hb (.inl (by rw[e];decide))
  have h2:(10<(w.length:Int))=False:=eq_false (by omega);simp(maxSteps:=2000000)only[go_sem,↓reduceIte,h1,h2];refine q0f (fun y:Nat×Nat=>⟨[(0,.d (.str s)),(1,.d (.int .i64 k)),(7,.d (.str w)),(8,.d (.int .i64 y.2)),(22,.d (.int .i64 w.length)),(23,.d (.int .i64 y.1))],[],[]⟩)
   (fun y=>y.1≤w.length∧y.2<10 ^ y.1∧digF (w.drop y.1) y.2=R) (fun y=>w.length-y.1) (0,0) ?_ ⟨Zay _,by decide,by simpa using hR⟩ ?_
  ·refine q0d ?_ trivial;simp(maxSteps:=2000000)only[go_sem,↓reduceIte,Sub,Zaa,Zab]
  ·rintro⟨i,n⟩ ⟨g1,g2,g3⟩;simp only at g1 g2 g3;simp(maxSteps:=2000000)only[go_sem,↓reduceIte];refine⟨fun q=>?_,fun q=>?_⟩
   ·obtain⟨c,hc⟩:=get_some (l:=w) (i:=i) (by omega);rw[drop_cons hc]at g3;have hp:(10:Nat) ^ (i+1)≤10 ^ 10:=Zct (by omega) (by omega);rw[Zdk]at hp
    by_cases hd:c.toNat<48∨57<c.toNat
    ·rw[z7T hd]at g3;rw[←g3,Zcw,numR,e4]
     by_cases d1:c.toNat<48
     ·have d1':((c.toNat:Int)<48)=True:=eq_true (by omega);simp(maxSteps:=2000000)only[go_sem,↓reduceIte,q0a,hc,d1']
     ·have d1':((c.toNat:Int)<48)=False:=eq_false (by omega);have d2':(57<(c.toNat:Int))=True:=eq_true (by omega);simp(maxSteps:=2000000)only[go_sem,↓reduceIte,q0a,hc,d1',d2']
    ·rw[z7S hd]at g3;have d1':((c.toNat:Int)<48)=False:=eq_false (by omega);have d2':(57<(c.toNat:Int))=False:=eq_false (by omega);obtain⟨m,hm⟩:∃m,c.toNat-48=m:=⟨_,rfl⟩;have hm':(c.toNat:Int)-48=(m:Int):=by omega
     have hm9:m≤9:=by omega
     rw[hm]at g3;simp(maxSteps:=2000000)(disch:=omega)only[go_sem,↓reduceIte,q0a,hc,d1',d2',hm'];refine⟨(i+1,10*n+m),?_,⟨by simp only;omega,by simp only[Zdk];omega,g3⟩,by simp only;omega⟩;refine q0d ?_ trivial;simp(maxSteps:=2000000)only[go_sem,↓reduceIte,Sub,Zaa,Zab]
   ·have e:i=w.length:=by omega
    subst e;rw[List.drop_length,digF]at g3;rw[←g3,Zax,numR];simp(maxSteps:=2000000)(disch:=omega)only[go_sem,↓reduceIte,Zaa]
def q2q:q0g:=
 Qr [Qx 4 (Ki 0),Qx 5 (Ki 0),Qx 6 (Ki 0)] (Qr [Qc 10 0,Qc 11 1,Qj 12 49 [10,11],Qa 7 12] (.seq (Qr [Qc 13 7,Qz 14 true 13,Qk 15 .lss 14 1,Qc 16 15,Qd 17 7 16 false,Qg 18 
 (.len true (.t 17)) 16 false,Qg 19 (.bin .gtr (.t 18) (Ki 10)) 16 false,Qo 20 16 19] (.cond (.t 20) (Qr [Qx 4 (Ki 0),Qx 5 (Ki 0),Qx 6 (Ki 4)] .ret) .skip)) (Qr [Qx 8 (Ki 0)] 
 (.seq (Qr [Qx 9 (Ki 0)] (.block 0 (.loop (.seq (Qr [Qc 21 9,Qc 22 7,Qz 23 true 22,Qb 24 .lss 21 23] (.cond (.t 24) .skip (.exit 0))) (.seq (.block 1 (.seq (Qr [Qc 27 7,Qc 28 
 9,Q 29 (.idxS (.t 27) (.t 28)),Q 30 (.bin .lss (.t 29) (Kb 48)),Qc 31 30,Qd 32 7 31 false,Qd 33 9 31 false,Qg 34 (.idxS (.t 32) (.t 33)) 31 false,Qg 35 (.bin .gtr (.t 34) 
 (Kb 57)) 31 false,Qo 36 31 35] (.cond (.t 36) (Qr [Qx 4 (Ki 0),Qx 5 (Ki 0),Qx 6 (Ki 4)] .ret) .skip)) (.reg [Qc 37 8,Q 38 (.bin .mul (Ki 10) (.t 37)),Qc 39 7,Qc 40 9,Q 41 
 (.idxS (.t 39) (.t 40)),Q 42 (.bin .sub (.t 41) (Kb 48)),Q 43 (.cvI .i64 (.t 42)),Qb 44 .add 38 43,Qa 8 44]))) (.reg [Qc 25 9,Qk 26 .add 25 1,Qa 9 26])))))) (Qr [Qc 45 8, 
 Qc 46 1,Q 47 (.mm true (.t 46) (Ki 0)),Qc 48 0,Qz 49 true 48,Q 50 (.mm false (.t 47) (.t 49)),Qc 51 7,Qz 52 true 51,Qb 53 .add 50 52,Qa 4 45,Qa 5 53,Qx 6 (Ki 0)] 
 .ret)))))
def q2u:List LRes:=[.tmp 4,.tmp 5,.tmp 6]
theorem q3a:q0n Tryz.prog 47 54 q2q q2u:=⟨_,_,Tryz.func47,rfl,by kernel_rfl,by kernel_rfl,rfl⟩
theorem q70{s:List UInt8}{k:Nat}(hk:k≤s.length)(hs:s.length≤60000):q0i Tryz.prog 47 [.str s,.int .i64 k] (fun r=>r=numN (numG s k)):=by
 have hw:=q1O s (k:Int) (by omega);rw[q0h hk]at hw;have hwl:=q0I s k
 by_cases hb:(q0p s k).length<1∨10<(q0p s k).length
 ·rw[j1v hb,numN];refine q3a.call rfl ?_;simp(maxSteps:=2000000)only[go_sem,↓reduceIte,q2q,q2u];refine q0c.of hw ?_
  by_cases h0:(q0p s k).length<1
  ·have h0':(((q0p s k).length:Int)<1)=True:=eq_true (by omega);simp(maxSteps:=2000000)only[go_sem,↓reduceIte,h0']
  ·have h1:(((q0p s k).length:Int)<1)=False:=eq_false (by omega);have h2:(10<((q0p s k).length:Int))=True:=eq_true (by omega);simp(maxSteps:=2000000)only[go_sem,↓reduceIte,h1,h2]
 ·rw[j1w hb];generalize hW:q0p s k=w at *;generalize hR:digF w 0=R;refine q3a.call rfl ?_;simp(maxSteps:=2000000)only[go_sem,↓reduceIte,q2q,q2u];refine q0c.of hw ?_;have h1:((w.length:Int)<1)=False:=eq_false (by omega);have h2:(10<(w.length:Int))=False:=eq_false (by omega);simp(maxSteps:=2000000)only[go_sem,↓reduceIte,h1,h2]
  refine q0f (fun y:Nat×Nat=>⟨[(0,.d (.str s)),(1,.d (.int .i64 k)),(7,.d (.str w)),(8,.d (.int .i64 y.2)),(9,.d (.int .i64 y.1))],[],[]⟩)
   (fun y=>y.1≤w.length∧y.2<10 ^ y.1∧digF (w.drop y.1) y.2=R) (fun y=>w.length-y.1) (0,0) ?_ ⟨Zay _,by decide,by simpa using hR⟩ ?_
  ·refine q0d ?_ trivial;simp(maxSteps:=2000000)only[go_sem,↓reduceIte,Sub,Zaa,Zab]
  ·rintro⟨i,n⟩ ⟨g1,g2,g3⟩;simp only at g1 g2 g3;simp(maxSteps:=2000000)only[go_sem,↓reduceIte];refine⟨fun q=>?_,fun q=>?_⟩
   ·obtain⟨c,hc⟩:=get_some (l:=w) (i:=i) (by omega);rw[drop_cons hc]at g3;have hp:(10:Nat) ^ (i+1)≤10 ^ 10:=Zct (by omega) (by omega);rw[Zdk]at hp
    by_cases hd:c.toNat<48∨57<c.toNat
    ·rw[z7T hd]at g3;rw[←g3,Zcw,numN]
     by_cases d1:c.toNat<48
     ·have d1':((c.toNat:Int)<48)=True:=eq_true (by omega);simp(maxSteps:=2000000)only[go_sem,↓reduceIte,q0a,hc,d1']
     ·have d1':((c.toNat:Int)<48)=False:=eq_false (by omega);have d2':(57<(c.toNat:Int))=True:=eq_true (by omega);simp(maxSteps:=2000000)only[go_sem,↓reduceIte,q0a,hc,d1',d2']
    ·rw[z7S hd]at g3;have d1':((c.toNat:Int)<48)=False:=eq_false (by omega);have d2':(57<(c.toNat:Int))=False:=eq_false (by omega);obtain⟨m,hm⟩:∃m,c.toNat-48=m:=⟨_,rfl⟩;have hm':(c.toNat:Int)-48=(m:Int):=by omega
     have hm9:m≤9:=by omega
     rw[hm]at g3;simp(maxSteps:=2000000)(disch:=omega)only[go_sem,↓reduceIte,q0a,hc,d1',d2',hm'];refine⟨(i+1,10*n+m),?_,⟨by simp only;omega,by simp only[Zdk];omega,g3⟩,by simp only;omega⟩;refine q0d ?_ trivial;simp(maxSteps:=2000000)only[go_sem,↓reduceIte,Sub,Zaa,Zab]
   ·have e:i=w.length:=by omega
    subst e;rw[List.drop_length,digF]at g3;rw[←g3,Zax,numN];simp(maxSteps:=2000000)(disch:=omega)only[go_sem,↓reduceIte,z1d,q0h hk,Zaa]
def z8k:Go.Shelf.Ren:=⟨fun|148=>43|222=>65|223=>66|269=>94|n=>n,fun|9=>9|3=>3|4=>4|5=>5|146=>145|51=>144|46=>127|n=>n,fun|n=>n⟩
theorem j6l:Go.Proofs.Lays.n148 Tryz.prog z8k where
 mixed:=by kernel_rfl
 f148:=Tryz.func43.trans (congrArg some (by kernel_rfl))
 f222:=Tryz.func65.trans (congrArg some (by kernel_rfl))
 f223:=Tryz.func66.trans (congrArg some (by kernel_rfl))
 f269:=Tryz.func94.trans (congrArg some (by kernel_rfl))
 t3:=Tryz.underlying3
 a3:=Tryz.isAgg3
 z3:=Tryz.sizeOf3
 v3:=Tryz.zeroValue3
 t4:=Tryz.underlying4
 a4:=Tryz.isAgg4
 z4:=Tryz.sizeOf4
 v4:=Tryz.zeroValue4
 t5:=Tryz.underlying5
 a5:=Tryz.isAgg5
 z5:=Tryz.sizeOf5
 v5:=Tryz.zeroValue5
 t9:=Tryz.underlying9
 a9:=Tryz.isAgg9
 z9:=Tryz.sizeOf9
 v9:=Tryz.zeroValue9
 t46:=Tryz.underlying127
 a46:=Tryz.isAgg127
 z46:=Tryz.sizeOf127
 v46:=Tryz.zeroValue127
 t51:=Tryz.underlying144
 a51:=Tryz.isAgg144
 z51:=Tryz.sizeOf144
 v51:=Tryz.zeroValue144
 t146:=Tryz.underlying145
 a146:=Tryz.isAgg145
 z146:=Tryz.sizeOf145
 v146:=Tryz.zeroValue145
theorem z5i(s t:List UInt8)(hs:s.length≤1000000):q0i Tryz.prog 43 [.str s,.str t] (fun r=>r=.one (.int .i64 (Lib.lastIndex s t))):=by
 intro f w vs hI ht hsz hrd;have hv:vs = #[.string ⟨s.toArray⟩,.string ⟨t.toArray⟩]:=by
  have h1:=hrd 0 _ rfl;have h2:=hrd 1 _ rfl;match vs,hsz with
  |⟨[v,u]⟩,_=>cases h1;cases h2;rfl
 subst hv;refine(Any.strings_LastIndex j6l ⟨s.toArray⟩ ⟨t.toArray⟩ (by show s.toArray.size<_;simp;omega) w).mono fun e w' ⟨he,hw⟩=>?_
 subst hw;exact⟨_,_,f,rfl,he,.int _ _,⟨Zak _,fun b hb=>⟨rfl,rfl⟩,ht,rfl,rfl,rfl⟩⟩
theorem j8f(s:List UInt8):Lib.lastIndex s sxrN = -1∨∃k:Nat,Lib.lastIndex s sxrN=k∧k+9≤s.length:=by
 unfold Lib.lastIndex;split
 ·rename_i h;simp only[sxrN,Zae,Zag]at h;rcases Lib.lastOcc_spec s sxrN (s.length-sxrN.length+1)with⟨h1,_⟩|⟨i,h1,h2,_⟩
  ·exact .inl h1
  ·refine .inr ⟨i,h2,?_⟩;simp only[sxrN,Zae,Zag]at h1;omega
 ·exact .inl rfl
def staR:Option Nat→Res
 |none=>.tup [.int .i64 0,errD 4]
 |some n=>.tup [.int .i64 n,.nil]
def staN:Option Nat→Res
 |none=>.tup [.int .i64 0,.int .i64 4]
 |some n=>.tup [.int .i64 n,.int .i64 0]
def q8M:q0g:=
 Qr [Qx 2 (Ki 0),Qx 3 (.k (.d .nil))] (Qr [Qc 8 0,⟨some 9,.call 43 [.t 8,.k (.d (.str [115,116,97,114,116,120,114,101,102]))],none⟩,Qa 4 9] (.seq (Qr [Qc 10 4,Qk 11 
 .lss 10 0] (.cond (.t 11) (Qr [Q 12 (.mkI 49 (Ki 4)),Qx 2 (Ki 0),Qa 3 12] .ret) .skip)) (Qr [Qc 14 0,Qc 15 0,Qc 16 4,Qk 17 .add 16 9,Qj 18 38 [15,17],Qj 19 44 [14,18], 
 Qc 13 19,Qe 20 0 13,Qe 21 1 13,Qe 22 2 13,Qa 5 20,Qa 6 21,Qa 7 22] (Qr [Qc 23 5,Qc 24 7,Qa 2 23,Qa 3 24] .ret))))
def q8U:List LRes:=[.tmp 2,.tmp 3]
theorem q9f:q0n Tryz.prog 15 25 q8M q8U:=⟨_,_,Tryz.func15,rfl,by kernel_rfl,by kernel_rfl,rfl⟩
theorem j2V{s:List UInt8}(hs:s.length≤60000):q0i Tryz.prog 15 [.str s] (fun r=>r=staR (staG s)):=by
 have hli:=z5i s sxrN (by omega);rcases j8f s with h|⟨k,h,hk⟩
 ·rw[h]at hli;rw[staG,h,if_pos (by decide),staR,e4];refine q9f.call rfl ?_;simp(maxSteps:=2000000)only[go_sem,↓reduceIte,q8M,q8U];refine q0c.of hli ?_;simp(maxSteps:=2000000)only[go_sem,↓reduceIte]
 ·rw[h]at hli;rw[staG,h,if_neg (by omega),Zbw];have sk:=q1G s ((k:Int)+9) (by omega);rw[show(k:Int)+9=((k+9:Nat):Int) by omega,q0h hk]at sk;have hd:=q6n (q0r hk).2 hs;have z1:((k:Int)<0)=False:=eq_false (by omega);rw[show((k+9:Nat):Int)=(k:Int)+9 by omega]at sk;refine q9f.call rfl ?_;simp(maxSteps:=2000000)only[go_sem,↓reduceIte,q8M,q8U];refine q0c.of hli ?_;simp(maxSteps:=2000000)(disch:=omega)only[go_sem,↓reduceIte,z1];refine q0c.of sk ?_
  simp(maxSteps:=2000000)only[go_sem,↓reduceIte];cases hn:numG s (q0l s (k+9))with
  |none=>
   rw[hn,numR,e4]at hd;refine q0c.of hd ?_;rw[Zcw,staR,e4];simp(maxSteps:=2000000)only[go_sem,↓reduceIte]
  |some p=>
   rw[hn,numR]at hd;refine q0c.of hd ?_;rw[Zax,staR];simp(maxSteps:=2000000)only[go_sem,↓reduceIte]
theorem j8o(s:List UInt8)(k:Nat):Lib.occAt s sxrN k=decide ((s.take (k+9)).drop k=sxrN):=by
 have e:(s.take (k+9)).drop k=(s.drop k).take 9:=by rw[Zde];congr 1;omega
 rw[e,Lib.occAt,Bool.eq_iff_iff,List.isPrefixOf_iff_prefix,List.prefix_iff_eq_take,decide_eq_true_eq];exact⟨fun h=>h.symm,fun h=>h.symm⟩
def q2p:q0g:=
 Qr [Qx 2 (Ki 0),Qx 3 (Ki 0)] (.seq (Qr [Qc 8 0,Qz 9 true 8,Qk 10 .sub 9 9,Qa 4 10] (.block 0 (.loop (.seq (Qr [Qc 11 4,Qk 12 .geq 11 0] (.cond (.t 12) .skip (.exit 0))) (.seq 
 (.block 1 (Qr [Qc 15 0,Qc 16 4,Qc 17 4,Qk 18 .add 17 9,Q 19 (.subS (.t 15) (some (.t 16)) (some (.t 18))),Q 20 (.bin .eql (.t 19) (.k (.d (.str [115,116,97,114,116,120, 
 114,101,102]))))] (.cond (.t 20) (Qr [Qc 22 0,Qc 23 0,Qc 24 4,Qk 25 .add 24 9,Qj 26 48 [23,25],Qj 27 47 [22,26],Qc 21 27,Qe 28 0 21,Qe 29 1 21,Qe 30 2 21,Qa 5 28, 
 Qa 6 29,Qa 7 30] (Qr [Qc 31 5,Qc 32 7,Qa 2 31,Qa 3 32] .ret)) .skip))) (.reg [Qc 13 4,Qk 14 .sub 13 1,Qa 4 14])))))) (Qr [Qx 2 (Ki 0),Qx 3 (Ki 4)] .ret))
def q2t:List LRes:=[.tmp 2,.tmp 3]
theorem q6A:q0n Tryz.prog 19 33 q2p q2t:=⟨_,_,Tryz.func19,rfl,by kernel_rfl,by kernel_rfl,rfl⟩
theorem z9j{s:List UInt8}(hs:s.length≤60000):q0i Tryz.prog 19 [.str s] (fun r=>r=staN (staG s)):=by
 refine q6A.call rfl ?_;generalize hR:staG s=R;unfold staG at hR
 by_cases h9:9≤s.length
 ·have e9:(s.length:Int)-9=((s.length-8:Nat):Int)-1:=by omega
  have hL:Lib.lastIndex s sxrN=Lib.lastOcc s sxrN (s.length-8):=by
   unfold Lib.lastIndex;rw[if_pos (by simp only[sxrN,Zae,Zag];omega)];congr 1
   simp only[sxrN,Zae,Zag];omega
  simp(maxSteps:=2000000)(disch:=omega)only[go_sem,↓reduceIte,q2p,q2t,e9];refine q0f (fun y:Nat=>⟨[(0,.d (.str s)),(4,.d (.int .i64 ((y:Int)-1)))],[],[]⟩)
   (fun y=>y+8≤s.length∧Lib.lastOcc s sxrN y=Lib.lastIndex s sxrN) (fun y=>y) (s.length-8) ?_ ⟨by omega,hL.symm⟩ ?_
  ·refine q0d ?_ trivial;simp(maxSteps:=2000000)only[go_sem,↓reduceIte,Sub,Zaa,Zab]
  ·rintro i ⟨g1,g2⟩;cases i with
   |zero=>
    have g3:Lib.lastOcc s sxrN 0 = -1:=rfl;rw[←g2,g3,if_pos (by decide)]at hR;rw[←hR,staN];simp(maxSteps:=2000000)(disch:=omega)only[go_sem,↓reduceIte,Int.natCast_zero]
   |succ i=>
    have e1:((i+1:Nat):Int)-1=(i:Int):=by omega
    have z1:(0≤(i:Int))=True:=eq_true (by omega);have hc:cutI s (i:Int) ((i:Int)+9)=(s.take (i+9)).drop i:=q4n s i (i+9);have ho:=j8o s i;simp(maxSteps:=2000000)(disch:=omega)only[go_sem,↓reduceIte,e1,z1,hc];refine⟨⟨by omega,by omega⟩,fun q=>?_,fun q=>?_⟩
    ·have ho:Lib.occAt s sxrN i=true:=ho.trans (decide_eq_true q);have g3:Lib.lastOcc s sxrN (i+1)=i:=by
      rw[Lib.lastOcc,ho];rfl
     rw[←g2,g3,if_neg (by omega),Zbw]at hR;have sk:=q1l s ((i:Int)+9) (by omega);rw[show(i:Int)+9=((i+9:Nat):Int) by omega,q0h (by omega)]at sk;have hd:=q70 (s:=s) (k:=q0l s (i+9)) (q0r (by omega)).2 hs;rw[show((i+9:Nat):Int)=(i:Int)+9 by omega]at sk;refine q0c.of sk ?_;simp(maxSteps:=2000000)only[go_sem,↓reduceIte];cases hn:numG s (q0l s (i+9))with
     |none=>
      rw[hn]at hR hd;rw[numN]at hd;refine q0c.of hd ?_;rw[←hR,Zcw,staN];simp(maxSteps:=2000000)only[go_sem,↓reduceIte]
     |some p=>
      rw[hn]at hR hd;rw[numN]at hd;refine q0c.of hd ?_;rw[←hR,Zax,staN];simp(maxSteps:=2000000)only[go_sem,↓reduceIte]
    ·refine⟨i,?_,⟨by omega,?_⟩,by omega⟩
     ·refine q0d ?_ trivial;simp(maxSteps:=2000000)only[go_sem,↓reduceIte,Sub,Zaa,Zab]
     ·rw[←g2,Lib.lastOcc_miss];rw[ho];exact decide_eq_false q
 ·have hL:Lib.lastIndex s sxrN = -1:=by
   unfold Lib.lastIndex;rw[if_neg (by simp only[sxrN,Zae,Zag];omega)]
  rw[hL,if_pos (by decide)]at hR;rw[←hR,staN];have z1:(0≤(s.length:Int)-9)=False:=eq_false (by omega);simp(maxSteps:=2000000)(disch:=omega)only[go_sem,↓reduceIte,q2p,q2t];refine q0X ?_;simp(maxSteps:=2000000)(disch:=omega)only[go_sem,↓reduceIte,z1]
def linR:Option (Nat×Bool×Nat)→Res
 |none=>.tup [.int .i64 0,.bool false,.int .i64 0,errD 4]
 |some p=>.tup [.int .i64 p.1,.bool p.2.1,.int .i64 p.2.2,.nil]
def z3A:q0g:=
 Qr [Qx 4 (Ki 0),Qx 5 KF,Qx 6 (Ki 0),Qx 7 (.k (.d .nil))] (Qr [Qc 13 0,Qc 14 0,Qc 15 1,Qj 16 38 [14,15],Qj 17 44 [13,16],Qc 12 17,Qe 18 0 12,Qe 19 1 12,Qe 20 2 12,Qa 8 
 18,Qa 9 19,Qa 10 20] (.seq (Qr [Qc 21 10,Q 22 (.eqN 0 true (.t 21))] (.cond (.t 22) (Qr [Qc 23 10,Qx 4 (Ki 0),Qx 5 KF,Qx 6 (Ki 0),Qa 7 23] .ret) .skip)) (Qr [Qc 25 0,Qc 
 26 0,Qc 27 9,Qj 28 38 [26,27],Qj 29 44 [25,28],Qc 24 29,Qe 30 0 24,Qe 31 1 24,Qe 32 2 24,Qa 9 31,Qa 10 32] (.seq (Qr [Qc 33 10,Q 34 (.eqN 0 true (.t 33))] (.cond (.t 
 34) (Qr [Qc 35 10,Qx 4 (Ki 0),Qx 5 KF,Qx 6 (Ki 0),Qa 7 35] .ret) .skip)) (Qr [Qc 36 0,Qc 37 9,Qj 38 38 [36,37],Qa 9 38] (Qr [Qc 39 0,Qc 40 9,Qj 41 39 [39,40],Qa 11 
 41] (.seq (Qr [Qc 42 11,Q 43 (.bin .neq (.t 42) (.k (.d (.str [110])))),Qc 44 43,Qd 45 11 44 true,Qg 46 (.bin .neq (.t 45) (.k (.d (.str [102])))) 44 true,Qp 47 44 46] 
 (.cond (.t 47) (Qr [Q 48 (.mkI 49 (Ki 4)),Qx 4 (Ki 0),Qx 5 KF,Qx 6 (Ki 0),Qa 7 48] .ret) .skip)) (Qr [Qc 49 8,Qc 50 11,Q 51 (.bin .eql (.t 50) (.k (.d (.str [110])))),Qc 
 52 9,Qk 53 .add 52 1,Qa 4 49,Qa 5 51,Qa 6 53,Qx 7 (.k (.d .nil))] .ret))))))))
def z3H:List LRes:=[.tmp 4,.tmp 5,.tmp 6,.tmp 7]
theorem z5l:q0n Tryz.prog 67 54 z3A z3H:=⟨_,_,Tryz.func67,rfl,by kernel_rfl,by kernel_rfl,rfl⟩
theorem j2l{s:List UInt8}{k:Nat}(hk:k≤s.length)(hs:s.length≤60000):q0i Tryz.prog 67 [.str s,.int .i64 k] (fun r=>r=linR (linG s k)):=by
 have gk:=q0r hk;have s1:=q1G s (k:Int) (by omega);rw[q0h hk]at s1;have d1:=q6n gk.2 hs;generalize hR:linG s k=R;unfold linG at hR;refine z5l.call rfl ?_;simp(maxSteps:=2000000)only[go_sem,↓reduceIte,z3A,z3H];refine q0c.of s1 ?_;simp(maxSteps:=2000000)only[go_sem,↓reduceIte];cases h1:numG s (q0l s k)with
 |none=>
  rw[h1]at hR d1;rw[numR,e4]at d1;refine q0c.of d1 ?_;rw[←hR,linR,e4];simp(maxSteps:=2000000)only[go_sem,↓reduceIte]
 |some p=>
  obtain⟨n,e⟩:=p;have g1:=q5M h1;have gk1:=q0r g1.2.1;have s2:=q1G s (e:Int) (by omega);rw[q0h g1.2.1]at s2;have d2:=q6n gk1.2 hs;rw[h1]at hR d1;rw[numR]at d1;refine q0c.of d1 ?_;simp(maxSteps:=2000000)only[go_sem,↓reduceIte];refine q0c.of s2 ?_;simp(maxSteps:=2000000)only[go_sem,↓reduceIte];cases h2:numG s (q0l s e)with
  |none=>
   simp only[h2]at hR;rw[h2,numR,e4]at d2;refine q0c.of d2 ?_;rw[←hR,linR,e4];simp(maxSteps:=2000000)only[go_sem,↓reduceIte]
  |some p=>
   obtain⟨n2,f⟩:=p;have g2:=q5M h2;have gk2:=q0r g2.2.1;have s3:=q1G s (f:Int) (by omega);rw[q0h g2.2.1]at s3;have w3:=q16 s ((q0l s f:Nat):Int) (by omega);rw[q0h gk2.2]at w3;simp only[h2]at hR;rw[h2,numR]at d2;refine q0c.of d2 ?_;simp(maxSteps:=2000000)only[go_sem,↓reduceIte];refine q0c.of s3 ?_;simp(maxSteps:=2000000)only[go_sem,↓reduceIte];refine q0c.of w3 ?_
   by_cases w1:q0p s (q0l s f)=[110]
   ·rw[if_pos w1]at hR;rw[←hR,linR,w1];simp(maxSteps:=2000000)(disch:=omega)only[go_sem,↓reduceIte,Zaa]
   ·rw[if_neg w1]at hR;have w1':(q0p s (q0l s f)=[110])=False:=eq_false w1
    by_cases w2:q0p s (q0l s f)=[102]
    ·rw[if_pos w2]at hR;have zz:(([102]:List UInt8)=[110])=False:=eq_false (by decide);rw[←hR,linR,w2];simp(maxSteps:=2000000)(disch:=omega)only[go_sem,↓reduceIte,Zaa,zz]
    ·rw[if_neg w2]at hR;have w2':(q0p s (q0l s f)=[102])=False:=eq_false w2;rw[←hR,linR,e4];simp(maxSteps:=2000000)(disch:=omega)only[go_sem,↓reduceIte,w1',w2']
theorem z4q:Tryz.prog.underlying 51=some (.map 3 3):=by kernel_rfl
theorem z95:Tryz.prog.underlying 3=some (.int .i64):=by kernel_rfl
theorem z3m(q:List (Int×Int)):∀k∈ksI q,q17 (.int .i64) k=true:=fun k hk=>by
 obtain⟨p,_,rfl⟩:=Zat.1 hk;rfl
theorem z6N(q:List (Int×Int))(x v:Int):ksI (q++[(x,v)])=ksI q++[.int .i64 x]:=List.map_append ..
theorem j7g(q:List (Int×Int))(x v:Int):vsI (q++[(x,v)])=vsI q++[.int .i64 v]:=List.map_append ..
theorem j1r{x v v':Int}:∀{q:List (Int×Int)},lkI q x=none→mset (ksI (q++[(x,v)])) (vsI (q++[(x,v)])) (.int .i64 x) (.int .i64 v')=vsI (q++[(x,v')])
 |[],_=>by simp[ksI,vsI,mset,z8h]
 |p::r,h=>by
  rw[lkI]at h;split at h
  ·cases h
  ·rename_i e;have ih:=j1r (v:=v) (v':=v') h;simp only[ksI,vsI,Zbe,Zbo,mset,z8h,beq_iff_eq]at ih ⊢;rw[if_neg e,ih]
theorem j8g{x v:Int}{q:List (Int×Int)}(h:lkI q x=none):lkI (q++[(x,v)]) x=some v:=by rw[z6X,h,if_pos rfl];rfl
def filC(s:List UInt8)(r:Ref)(T:List AV):List AV:=.d (.str s)::.mp r::T
def secR:Option Nat→AV
 |none=>.tuple [.d (.int .i64 0),.d (errD 4)]
 |some e=>.tuple [.d (.int .i64 e),.d .nil]
def q4C:q0g:=
 Qr [Qx 4 (Ki 0),Qx 5 (.k (.d .nil))] (Qr [Qc 17 0,Qn 18 17,Qf 19 0 18,Ql 20 19,Qc 21 1,Qj 22 44 [20,21],Qc 16 22,Qe 23 0 16,Qe 24 1 16,Qe 25 2 16,Qa 6 23,Qa 1 24,Qa 7 
 25] (.seq (Qr [Qc 26 7,Q 27 (.eqN 0 true (.t 26))] (.cond (.t 27) (Qr [Qc 28 7,Qx 4 (Ki 0),Qa 5 28] .ret) .skip)) (.seq (.dreg [Qc 30 0,Qn 31 30,Qf 32 0 31,Ql 33 32,Qc 34 
 0,Qn 35 34,Qf 36 0 35,Ql 37 36,Qc 38 1,Qj 39 38 [37,38],Qj 40 44 [33,39],Qc 29 40,Qe 41 0 29,Qe 42 1 29,Qe 43 2 29,Qc 8 41,Qc 1 42,Qc 7 43]) (.seq (Qr [Qc 44 7,Q 
 45 (.eqN 0 true (.t 44))] (.cond (.t 45) (Qr [Qc 46 7,Qx 4 (Ki 0),Qa 5 46] .ret) .skip)) (.seq (Qr [Qc 47 8,Q 48 (.cp (Ki 0))] (.block 0 (.loop (Qr [Qb 49 .lss 48 47] (.seq 
 (.cond (.t 49) .skip (.exit 0)) (.seq (.block 1 (Qr [Qc 50 48,Qa 9 50] (Qr [Qc 52 0,Qn 53 52,Qf 54 0 53,Ql 55 54,Qc 56 1,Qj 57 67 [55,56],Qc 51 57,Qe 58 0 51,Qe 59 1 
 51,Qe 60 2 51,Qe 61 3 51,Qa 10 58,Qa 11 59,Qa 12 60,Qa 13 61] (.seq (Qr [Qc 62 13,Q 63 (.eqN 0 true (.t 62))] (.cond (.t 63) (Qr [Qc 64 13,Qx 4 (Ki 0),Qa 5 64] .ret) 
 .skip)) (Qr [Qc 65 12,Qa 1 65] (Qr [Qc 67 0,Qn 68 67,Qf 69 1 68,Ql 70 69,Qc 71 6,Qc 72 9,Qb 73 .add 71 72,⟨some 74,.prim (.lookup 51 true) [.t 70,.t 73] [],none⟩,Qc 
 66 74,Qe 75 0 66,Qe 76 1 66,Qa 14 75,Qa 15 76] (Qr [Qc 77 15,Qh 78 77,Qc 79 78,Qd 80 6 79 true,Qd 81 9 79 true,Qg 82 (.bin .add (.t 80) (.t 81)) 79 true,Qg 83 (.bin 
 .geq (.t 82) (Ki 1)) 79 true,Qp 84 79 83,Qc 85 84,Qd 86 6 85 true,Qd 87 9 85 true,Qg 88 (.bin .add (.t 86) (.t 87)) 85 true,Qg 89 (.bin .leq (.t 88) (Ki 60)) 85 true,Qp 90 
 85 89] (.cond (.t 90) (Qr [Qc 91 0,Qn 92 91,Qf 93 1 92,Ql 94 93,Qc 95 6,Qc 96 9,Qb 97 .add 95 96,Qc 98 10,⟨none,.prim (.mapUpd 51) [.t 94,.t 97,.t 98] [],none⟩] (Qr 
 [Qc 99 11,Qh 100 99] (.cond (.t 100) (.reg [Qc 101 0,Qn 102 101,Qf 103 1 102,Ql 104 103,Qc 105 6,Qc 106 9,Qb 107 .add 105 106,⟨none,.prim (.mapUpd 51) [.t 104,.t 107, 
 .k (.d (.int .i64 (-1)))] [],none⟩]) .skip))) .skip)))))))) (.reg [Qk 108 .add 48 1,Qc 48 108]))))))) (Qr [Qc 109 0,Qn 110 109,Qf 111 0 110,Ql 112 111,Qc 113 1,Qj 114 38 
 [112,113],Qa 4 114,Qx 5 (.k (.d .nil))] .ret))))))
def q4R:List LRes:=[.tmp 4,.tmp 5]
theorem q69:q0n Tryz.prog 46 115 q4C q4R:=⟨_,_,Tryz.func46,rfl,by kernel_rfl,by kernel_rfl,rfl⟩
theorem z89{s:List UInt8}{k:Nat}{q:List (Int×Int)}(T:List AV)(hk:k≤s.length)(hs:s.length≤60000)(hq:okQ q):
  q1r Tryz.prog 46 [.ptr (.x 0) 0,.d (.int .i64 k)] [.cells (filC s (.x 1) T),.mobj (ksI q) (vsI q)] (secR (secG s k q).2) [.cells (filC s (.x 1) T),.mobj (ksI (secG s k q).1) (vsI (secG s k q).1)]:=by
 have d1:=q6n hk hs;generalize hR:secG s k q=R;unfold secG at hR;refine q69.q0C (by kernel_rfl) rfl ?_;simp(maxSteps:=2000000)only[go_sem,↓reduceIte,q4C,q4R,filC];cases h1:numG s k with
 |none=>
  rw[h1]at hR d1;rw[numR,e4]at d1;refine q0c.of d1 ?_;rw[←hR,secR,e4];simp(maxSteps:=2000000)only[go_sem,↓reduceIte]
 |some p=>
  obtain⟨x,e⟩:=p;have g1:=q5M h1;have gk1:=q0r g1.2.1;have s2:=q1G s (e:Int) (by omega);rw[q0h g1.2.1]at s2;have d2:=q6n gk1.2 hs;rw[h1]at hR d1;rw[numR]at d1;simp only at hR d1;refine q0c.of d1 ?_;simp(maxSteps:=2000000)only[go_sem,↓reduceIte];refine q1E.of s2 ?_;simp(maxSteps:=2000000)only[go_sem,↓reduceIte];cases h2:numG s (q0l s e)with
  |none=>
   rw[h2]at hR d2;rw[numR,e4]at d2;refine q1E.of d2 ?_;rw[←hR,secR,e4];simp(maxSteps:=2000000)only[go_sem,↓reduceIte]
  |some p=>
   obtain⟨m,f⟩:=p;have g2:=q5M h2;rw[h2]at hR d2;rw[numR]at d2;simp only at hR d2;refine q1E.of d2 ?_;simp(maxSteps:=2000000)only[go_sem,↓reduceIte];generalize hL:lnsG s m (x:Int) f q=L at hR;refine q0f (fun y:Nat×Nat×List (Int×Int)=>⟨[(0,.ptr (.x 0) 0),(1,.d (.int .i64 y.2.1)),(6,.d (.int .i64 x)),(47,.d (.int .i64 m)),(48,.d (.int .i64 y.1))],[],[(0,.cells (.d (.str s)::.mp (.x 1)::T)),(1,.mobj (ksI y.2.2) (vsI y.2.2))]⟩)
    (fun y=>y.1≤m∧y.2.1≤s.length∧okQ y.2.2∧lnsG s (m-y.1) ((x:Int)+y.1) y.2.1 y.2.2=L) (fun y=>m-y.1) (0,f,q) ?_ ⟨Zay _,g2.2.1,hq,by simpa using hL⟩ ?_
   ·refine Weak.mk ?_ ?_ ?_<;>simp(maxSteps:=2000000)only[go_sem,↓reduceIte,Sub,Zaa,Zab]
   ·rintro⟨i,c,u⟩ ⟨u1,u2,u3,u4⟩;simp only at u1 u2 u3 u4;have hln:=j2l u2 hs;simp(maxSteps:=2000000)only[go_sem,↓reduceIte];refine⟨fun v1=>?_,fun v1=>?_⟩
    ·obtain⟨j,hj⟩:∃j,m-i=j+1:=⟨m-i-1,by omega⟩;rw[hj,lnsG]at u4;cases h3:linG s c with
     |none=>
      rw[h3]at u4 hln;rw[linR,e4]at hln;simp only at u4;refine q0c.of hln ?_;rw[←hR,←u4,Zcw,secR,e4];simp(maxSteps:=2000000)only[go_sem,↓reduceIte]
     |some p=>
      obtain⟨n,b,e3⟩:=p;have g3:=j0d u2 h3;rw[h3]at u4 hln;rw[linR]at hln;simp only at u4 hln;refine q0c.of hln ?_;obtain⟨X,hX⟩:∃X,(x:Int)+(i:Int)=X:=⟨_,rfl⟩;have e1:IntKind.i64.wrap ((x:Int)+(i:Int))=X:=by rw[←hX,IntWalk.i64_in]<;>omega
      have hml:=z62 X u;rw[hX]at u4;have eX:(x:Int)+((i+1:Nat):Int)=X+1:=by omega
      have ej:m-(i+1)=j:=by omega
      simp(maxSteps:=2000000)only[go_sem,↓reduceIte,e1];refine q0e.j4q (ks:=ksI u) (vs:=vsI u) (key:=.int .i64 X) (zero:=.int .i64 0) (s:=.x 1) rfl rfl rfl z4q z95 rfl (z3m _) (by kernel_rfl) ?_;cases hl:lkI u X with
      |some w=>
       have hst:stpG u X n b=u:=if_neg (by rw[hl];simp);rw[hl,Zax]at hml;rw[hst]at u4;simp(maxSteps:=2000000)(disch:=omega)only[go_sem,↓reduceIte,hml,Zcb];refine⟨(i+1,e3,u),?_,⟨by simp only;omega,g3.2.1,u3,by simp only[ej,eX];exact u4⟩,by simp only;omega⟩;refine Weak.mk ?_ ?_ ?_<;>simp(maxSteps:=2000000)only[go_sem,↓reduceIte,Sub,Zaa,Zab]
      |none=>
       rw[hl,Zcw]at hml
       by_cases x1:1≤X
       ·by_cases x2:X≤60
        ·have hst:stpG u X n b=u++[(X,if b=true then(n:Int)else -1)]:=if_pos ⟨hl,x1,x2⟩;rw[hst]at u4;have z1:(1≤X)=True:=eq_true x1;have z2:(X≤60)=True:=eq_true x2;have hok:=j0K (x:=X) (b:=b) u3 g3.2.2;rw[hst]at hok;simp(maxSteps:=2000000)only[go_sem,↓reduceIte,hml,e1,z1,z2,Zbu];refine q0e.j7x (ks:=ksI u) (vs:=vsI u) (key:=.int .i64 X) (v:=.int .i64 n) (s:=.x 1) rfl rfl rfl rfl z4q z95 rfl (z3m _) hml ?_;rw[←z6N u X n,←j7g u X n];cases b with
         |true=>
          simp(maxSteps:=2000000)(disch:=omega)only[go_sem,↓reduceIte];refine⟨(i+1,e3,u++[(X,(n:Int))]),?_,⟨by simp only;omega,g3.2.1,hok,by simp only[ej,eX];exact u4⟩,by simp only;omega⟩;refine Weak.mk ?_ ?_ ?_<;>simp(maxSteps:=2000000)only[go_sem,↓reduceIte,Sub,Zaa,Zab]
         |false=>
          simp(maxSteps:=2000000)only[go_sem,↓reduceIte,e1];refine q0e.j9p (ks:=ksI (u++[(X,(n:Int))])) (vs:=vsI (u++[(X,(n:Int))])) (key:=.int .i64 X) (v:=.int .i64 (-1)) (s:=.x 1) rfl rfl rfl rfl z4q z95 rfl (z3m _) (by rw[z62,j8g hl];rfl) ?_;rw[j1r hl,show ksI (u++[(X,(n:Int))])=ksI (u++[(X,(-1:Int))]) by rw[z6N,z6N]];simp(maxSteps:=2000000)(disch:=omega)only[go_sem,↓reduceIte]
          refine⟨(i+1,e3,u++[(X,(-1:Int))]),?_,⟨by simp only;omega,g3.2.1,hok,by simp only[ej,eX];exact u4⟩,by simp only;omega⟩;refine Weak.mk ?_ ?_ ?_<;>simp(maxSteps:=2000000)only[go_sem,↓reduceIte,Sub,Zaa,Zab]
        ·have hst:stpG u X n b=u:=if_neg (fun h=>x2 h.2.2);rw[hst]at u4;have z1:(1≤X)=True:=eq_true x1;have z2:(X≤60)=False:=eq_false x2;simp(maxSteps:=2000000)(disch:=omega)only[go_sem,↓reduceIte,hml,e1,z1,z2,Zbu];refine⟨(i+1,e3,u),?_,⟨by simp only;omega,g3.2.1,u3,by simp only[ej,eX];exact u4⟩,by simp only;omega⟩;refine Weak.mk ?_ ?_ ?_<;>simp(maxSteps:=2000000)only[go_sem,↓reduceIte,Sub,Zaa,Zab]
       ·have hst:stpG u X n b=u:=if_neg (fun h=>x1 h.2.1);rw[hst]at u4;have z1:(1≤X)=False:=eq_false x1;simp(maxSteps:=2000000)(disch:=omega)only[go_sem,↓reduceIte,hml,e1,z1,Zbu];refine⟨(i+1,e3,u),?_,⟨by simp only;omega,g3.2.1,u3,by simp only[ej,eX];exact u4⟩,by simp only;omega⟩;refine Weak.mk ?_ ?_ ?_<;>simp(maxSteps:=2000000)only[go_sem,↓reduceIte,Sub,Zaa,Zab]
    ·have e:i=m:=by omega
     subst e;rw[Nat.sub_self,lnsG]at u4;have s3:=q1G s (c:Int) (by omega);rw[q0h u2]at s3;refine q0c.of s3 ?_;rw[←hR,←u4,Zax,secR];simp(maxSteps:=2000000)only[go_sem,↓reduceIte]
def tlC:Option Val→List AV
 |none=>[.d (.int .i64 0),.d (.int .i64 0),.d (.str []),.ns,.ns]
 |some v=>[.d (.int .i64 v.kind),.d (.int .i64 v.n),.d (.str v.s),.d (.list (q0m v.l)),.d (.list (q0k v.f))]
theorem j7b(t:Option Val):∃x1 x2 x3 y1 y2,tlC t=[.d x1,.d x2,.d x3,y1,y2]∧((y1=.ns∧y2=.ns)∨∃l1 l2,y1=.d (.list l1)∧y2=.d (.list l2)):=by
 cases t with
 |none=>exact⟨_,_,_,_,_,rfl,.inl ⟨rfl,rfl⟩⟩
 |some v=>exact⟨_,_,_,_,_,rfl,.inr ⟨_,_,rfl,rfl⟩⟩
theorem e8:errD 8=.iface 49 (.int .i64 8):=q0Q (by decide)
theorem j7m:zeroV.d=.agg [.int .i64 0,.int .i64 0,.str [],.list [],.list []]:=q04
theorem q9S{s:List UInt8}{k:Int}{e:Nat}(h:q3l s k=.bad e):e≠0:=by
 unfold q3l at h;split at h
 ·cases h;decide
 ·rename_i hc;have hg:=q4a s 8 k.toNat (by omega);split at h
  ·rename_i e' hx;cases h;rw[hx]at hg;obtain⟨g1,_⟩:=hg;omega
  ·split at h
   ·cases h
   ·rename_i hf;cases h;exact hf
def q2k:q0g:=
 Qr [Qv 4,Qx 5 (.k (.d .nil))] (.seq (Qr [Qc 11 1,Qc 12 0,Qn 13 12,Qf 14 0 13,Ql 15 14,Qz 16 true 15,Qb 17 .geq 11 16,Qc 18 17,Qd 19 0 18 false,Qg 20 (.nck (.t 19)) 18 
 false,Qg 21 (.fa 0 (.t 20)) 18 false,Qg 22 (.ld false 1 (.t 21)) 18 false,Qd 23 1 18 false,⟨some 24,.call 39 [.t 22,.t 23],some (18,false)⟩,Qg 25 (.bin .neq (.t 24) (.k 
 (.d (.str [120,114,101,102])))) 18 false,Qo 26 18 25] (.cond (.t 26) (Qr [Qy 27,Q 28 (.mkI 49 (Ki 4)),Qs 5 4 27,Qa 5 28] .ret) .skip)) (Qr [Qc 29 0,Qn 30 29,Qf 31 0 30, 
 Ql 32 31,Qc 33 1,Qk 34 .add 33 4,Qj 35 38 [32,34],Qa 1 35] (.seq (.block 0 (.loop (.seq (Qr [Qc 36 0,Qn 37 36,Qf 38 0 37,Ql 39 38,Qc 40 1,Qj 41 39 [39,40],Q 42 (.bin 
 .neq (.t 41) (.k (.d (.str [116,114,97,105,108,101,114]))))] (.cond (.t 42) .skip (.exit 0))) (.block 1 (Qr [Qc 44 0,Qc 45 1,Qq 46 46 [44,45],Qc 43 46,Qe 47 0 43,Qe 
 48 1 43,Qa 6 47,Qa 7 48] (.seq (Qr [Qc 49 7,Q 50 (.eqN 0 true (.t 49))] (.cond (.t 50) (Qr [Qy 51,Qc 52 7,Qs 5 4 51,Qa 5 52] .ret) .skip)) (.reg [Qc 53 6,Qa 1 53]))))))) 
 (Qr [Qc 55 0,Qn 56 55,Qf 57 0 56,Ql 58 57,Qc 59 1,Qk 60 .add 59 7,Qj 61 40 [58,60],Qc 54 61,Qe 62 0 54,Qe 63 1 54,Qe 64 2 54,Qv 8,Qs 5 8 62,Qa 9 63,Qa 10 64] (.seq 
 (Qr [Qc 65 10,Q 66 (.eqN 0 false (.t 65)),Qc 67 66,Qg 68 (.fa 0 (.t 8)) 67 true,Qg 69 (.ld false 1 (.t 68)) 67 true,Qg 70 (.bin .neq (.t 69) (Ki 6)) 67 true,Qp 71 67 70] 
 (.cond (.t 71) (.reg [Q 72 (.mkI 49 (Ki 8)),Qa 10 72]) .skip)) (Qr [Qm 73 5 8,Qc 74 10,Qs 5 4 73,Qa 5 74] .ret))))))
def q2l:List LRes:=[.cell 4 true 5,.tmp 5]
theorem q8c:q0n Tryz.prog 17 75 q2k q2l:=⟨_,_,Tryz.func17,rfl,by kernel_rfl,by kernel_rfl,rfl⟩
theorem j2W{s:List UInt8}{k:Nat}{q:List (Int×Int)}(t:Option Val)(hs:s.length≤60000)(hq:okQ q):
  q1r Tryz.prog 17 [.ptr (.x 0) 0,.d (.int .i64 k)] [.cells (filC s (.x 1) (tlC t)),.mobj (ksI q) (vsI q)]
   (.tuple [.d (tabG s k q).2.2.d,.d (errD (tabG s k q).2.1)]) [.cells (filC s (.x 1) (tlC t)),.mobj (ksI (tabG s k q).1) (vsI (tabG s k q).1)]:=by
 obtain⟨x1,x2,x3,y1,y2,hT,hy⟩:=j7b t;generalize hR:tabG s k q=R;unfold tabG at hR;refine q8c.q0C (by kernel_rfl) rfl ?_
 by_cases h0:s.length≤k
 ·rw[if_pos (.inl h0)]at hR;have z1:((s.length:Int)≤(k:Int))=True:=eq_true (by omega);rw[←hR,e4,j7m];simp(maxSteps:=2000000)only[go_sem,↓reduceIte,q2k,q2l,filC,hT,z1]
 have z1:((s.length:Int)≤(k:Int))=False:=eq_false (by omega);have w1:=q16 s (k:Int) (by omega);rw[q0h (by omega)]at w1
 by_cases hw:q0p s k=[120,114,101,102]
 ·rw[if_neg (fun h=>h.elim h0 (fun h=>h hw))]at hR;have hwl:=q0I s k;rw[hw]at hwl w1;simp only[Zae,Zag]at hwl;have s1:=q1G s ((k+4:Nat):Int) (by omega);rw[q0h (by omega)]at s1;have gk:=q0r (s:=s) (k:=k+4) (by omega);rw[Zaa]at s1;simp(maxSteps:=2000000)only[go_sem,↓reduceIte,q2k,q2l,filC,hT,z1];refine q0c.of w1 ?_;simp(maxSteps:=2000000)(disch:=omega)only[go_sem,↓reduceIte];refine q0c.of s1 ?_
  simp(maxSteps:=2000000)only[go_sem,↓reduceIte];generalize hL:scsG s (s.length+1) (q0l s (k+4)) q=L at hR;refine q0f (fun y:Nat×Nat×List (Int×Int)=>⟨[(0,.ptr (.x 0) 0),(1,.d (.int .i64 y.2.1)),(4,.ptr (.l 4) 0)],[(4,.cells [.d (.int .i64 0),.d (.int .i64 0),.d (.str []),.ns,.ns])],[(0,.cells (.d (.str s)::.mp (.x 1)::[.d x1,.d x2,.d x3,y1,y2])),(1,.mobj (ksI y.2.2) (vsI y.2.2))]⟩)
   (fun y=>s.length<y.1+y.2.1∧y.2.1≤s.length∧okQ y.2.2∧scsG s y.1 y.2.1 y.2.2=L) (fun y=>s.length-y.2.1) (s.length+1,q0l s (k+4),q) ?_ ⟨by simp only;omega,gk.2,hq,hL⟩ ?_
  ·refine Weak.mk ?_ ?_ ?_<;>simp(maxSteps:=2000000)only[go_sem,↓reduceIte,Sub,Zaa,Zab]
  ·rintro⟨m,c,u⟩ ⟨u1,u2,u3,u4⟩;simp only at u1 u2 u3 u4;have w2:=q16 s (c:Int) (by omega);rw[q0h u2]at w2;obtain⟨j,rfl⟩:∃j,m=j+1:=⟨m-1,by omega⟩;rw[scsG]at u4;simp(maxSteps:=2000000)only[go_sem,↓reduceIte];refine q0c.of w2 ?_
   by_cases ht:q0p s c=trlN
   ·rw[if_pos ht]at u4;rw[←u4]at hR;simp only at hR;have hwl:=q0I s c;rw[ht]at hwl;simp only[trlN,Zae,Zag]at hwl;have hval:=z1M s ((c+7:Nat):Int) (by omega);rw[ht];cases hv:q3l s ((c+7:Nat):Int)with
    |bad e=>
     have he:=q9S hv;rw[hv]at hR hval;simp only at hR;rw[topP,q04,q0Q he,Zaa]at hval;rw[←hR,q0Q he,q04];simp(maxSteps:=2000000)(disch:=omega)only[go_sem,↓reduceIte,trlN];refine q0c.of hval ?_;simp(maxSteps:=2000000)only[go_sem,↓reduceIte]
    |ok v e=>
     rw[hv]at hR hval;simp only at hR;rw[topP,Val.d_eq v,Zaa]at hval
     by_cases k6:v.kind=6
     ·rw[if_pos k6]at hR;rw[←hR,Val.d_eq v];simp(maxSteps:=2000000)(disch:=omega)only[go_sem,↓reduceIte,trlN];refine q0c.of hval ?_;simp(maxSteps:=2000000)only[go_sem,↓reduceIte,k6,errD]
     ·rw[if_neg k6]at hR;have k6':(v.kind=6)=False:=eq_false k6;rw[←hR,Val.d_eq v,e8];simp(maxSteps:=2000000)(disch:=omega)only[go_sem,↓reduceIte,trlN];refine q0c.of hval ?_;simp(maxSteps:=2000000)only[go_sem,↓reduceIte,k6']
   ·rw[if_neg ht]at u4;have ht':(q0p s c=[116,114,97,105,108,101,114])=False:=eq_false ht;have hsec:=z89 (tlC t) u2 hs u3;have hso:=j0G (s:=s) (k:=c) u3;simp only[filC,hT]at hsec;simp(maxSteps:=2000000)only[go_sem,↓reduceIte,ht'];generalize secG s c u=S at *;obtain⟨u',r⟩:=S;cases r with
    |none=>
     simp only at u4;rw[←u4]at hR;simp only at hR;rw[secR,e4]at hsec;rw[←hR,e4,q04];rcases hy with⟨rfl,rfl⟩|⟨l1,l2,rfl,rfl⟩;all_goals
      refine q0e.q0C ([.x 0,.x 1]) ([]) rfl (hsec) rfl rfl (by simp only[q0R,St.obj,aget,AObj.ren,AV.ren,AV.ren1,renL,q1P,renR,renQ,Zap,Zaq,and_true,and_self,Nat.reduceEqDiff,↓reduceIte,reduceCtorEq]) rfl rfl rfl ⟨rfl,rfl⟩ ?_;simp(maxSteps:=2000000)only[go_sem,↓reduceIte]
    |some e=>
     simp only at u4 hso;rw[secR]at hsec;have hso2:=hso.2 e rfl;rcases hy with⟨rfl,rfl⟩|⟨l1,l2,rfl,rfl⟩;all_goals
      refine q0e.q0C ([.x 0,.x 1]) ([]) rfl (hsec) rfl rfl (by simp only[q0R,St.obj,aget,AObj.ren,AV.ren,AV.ren1,renL,q1P,renR,renQ,Zap,Zaq,and_true,and_self,Nat.reduceEqDiff,↓reduceIte,reduceCtorEq]) rfl rfl rfl ⟨rfl,rfl⟩ ?_;simp(maxSteps:=2000000)only[go_sem,↓reduceIte];refine⟨(j,e,u'),?_,⟨by simp only;omega,hso2.2,hso.1,u4⟩,by simp only;omega⟩;refine Weak.mk ?_ ?_ ?_<;>simp(maxSteps:=2000000)only[go_sem,↓reduceIte,Sub,Zaa,Zab]
 ·rw[if_pos (.inr hw)]at hR;have hw':(q0p s k=[120,114,101,102])=False:=eq_false hw;rw[←hR,e4,q04];simp(maxSteps:=2000000)only[go_sem,↓reduceIte,q2k,q2l,filC,hT,z1];refine q0c.of w1 ?_;simp(maxSteps:=2000000)only[go_sem,↓reduceIte,hw']
def opC(s:List UInt8)(q:List (Int×Int))(T:List AV):List AV:=.d (.str s)::((arrD q).map AV.d++T)
theorem j4E(s:List UInt8)(q:List (Int×Int))(T:List AV):(opC s q T).length=62+T.length:=by
 simp only[opC,Zae,Zad,Zbn,q6T];omega
theorem j8r(s:List UInt8)(q:List (Int×Int))(T:List AV){i:Nat}(h:i<61):(opC s q T)[i+1]?=some (.d (.int .i64 (arrV (lkI q i)))):=by
 rw[opC,List.getElem?_cons_succ,Zaj (by rw[Zbn,q6T];exact h),Zan,z3i _ h];rfl
theorem j4F(s:List UInt8){q:List (Int×Int)}(T:List AV){x v:Int}(hx:lkI q x=none)(h1:1≤x∧x≤60):(opC s q T).set (x.toNat+1) (.d (.int .i64 (arrV (some v))))=opC s (q++[(x,v)]) T:=by
 rw[opC,List.set_cons_succ,List.set_append_left _ _ (by rw[Zbn,q6T];omega),←List.map_set,j5D hx h1];rfl
def q0Y:q0g:=
 Qr [Qv 4,Qx 5 (Ki 0)] (.seq (Qr [Qc 18 1,Qc 19 0,Qn 20 19,Qf 21 0 20,Ql 22 21,Qz 23 true 22,Qb 24 .geq 18 23,Qc 25 24,Qd 26 0 25 false,Qg 27 (.nck (.t 26)) 25 false,Qg 
 28 (.fa 0 (.t 27)) 25 false,Qg 29 (.ld false 1 (.t 28)) 25 false,Qd 30 1 25 false,⟨some 31,.call 49 [.t 29,.t 30],some (25,false)⟩,Qg 32 (.bin .neq (.t 31) (.k (.d (.str 
 [120,114,101,102])))) 25 false,Qo 33 25 32] (.cond (.t 33) (Qr [Qy 34,Qs 5 4 34,Qx 5 (Ki 4)] .ret) .skip)) (Qr [Qc 35 0,Qn 36 35,Qf 37 0 36,Ql 38 37,Qc 39 1,Qk 40 .add 
 39 4,Qj 41 48 [38,40],Qa 1 41] (.seq (.block 0 (.loop (.seq (Qr [Qc 42 0,Qn 43 42,Qf 44 0 43,Ql 45 44,Qc 46 1,Qj 47 49 [45,46],Q 48 (.bin .neq (.t 47) (.k (.d (.str 
 [116,114,97,105,108,101,114]))))] (.cond (.t 48) .skip (.exit 0))) (.block 1 (Qr [Qc 50 0,Qn 51 50,Qf 52 0 51,Ql 53 52,Qc 54 1,Qj 55 47 [53,54],Qc 49 55,Qe 56 0 49, 
 Qe 57 1 49,Qe 58 2 49,Qa 6 56,Qa 7 57,Qa 8 58] (.seq (Qr [Qc 59 8,Qk 60 .gtr 59 0] (.cond (.t 60) (Qr [Qy 61,Qc 62 8,Qs 5 4 61,Qa 5 62] .ret) .skip)) (.seq (.dreg [Qc 64 
 0,Qn 65 64,Qf 66 0 65,Ql 67 66,Qc 68 0,Qn 69 68,Qf 70 0 69,Ql 71 70,Qc 72 7,Qj 73 48 [71,72],Qj 74 47 [67,73],Qc 63 74,Qe 75 0 63,Qe 76 1 63,Qe 77 2 63,Qc 9 75, 
 Qc 7 76,Qc 8 77]) (.seq (Qr [Qc 78 8,Qk 79 .gtr 78 0] (.cond (.t 79) (Qr [Qy 80,Qc 81 8,Qs 5 4 80,Qa 5 81] .ret) .skip)) (.seq (Qr [Qx 10 (Ki 0)] (.block 2 (.loop (.seq (Qr 
 [Qc 82 10,Qc 83 9,Qb 84 .lss 82 83] (.cond (.t 84) .skip (.exit 2))) (.seq (.block 3 (.seq (.dreg [Qc 88 0,Qn 89 88,Qf 90 0 89,Ql 91 90,Qc 92 0,Qn 93 92,Qf 94 0 93,Ql 95 
 94,Qc 96 7,Qj 97 48 [95,96],Qj 98 47 [91,97],Qc 87 98,Qe 99 0 87,Qe 100 1 87,Qe 101 2 87,Qc 11 99,Qc 12 100,Qc 13 101]) (.seq (Qr [Qc 102 13,Qk 103 .gtr 102 0] 
 (.cond (.t 103) (Qr [Qy 104,Qc 105 13,Qs 5 4 104,Qa 5 105] .ret) .skip)) (.seq (.dreg [Qc 107 0,Qn 108 107,Qf 109 0 108,Ql 110 109,Qc 111 0,Qn 112 111,Qf 113 0 112,Ql 
 114 113,Qc 115 12,Qj 116 48 [114,115],Qj 117 47 [110,116],Qc 106 117,Qe 118 0 106,Qe 119 1 106,Qe 120 2 106,Qc 12 119,Qc 13 120]) (.seq (Qr [Qc 121 13,Qk 122 .gtr 121 
 0] (.cond (.t 122) (Qr [Qy 123,Qc 124 13,Qs 5 4 123,Qa 5 124] .ret) .skip)) (Qr [Qc 125 0,Qn 126 125,Qf 127 0 126,Ql 128 127,Qc 129 12,Qj 130 48 [128,129],Qa 12 130] 
 (Qr [Qc 131 0,Qn 132 131,Qf 133 0 132,Ql 134 133,Qc 135 12,Qj 136 49 [134,135],Qa 14 136] (.seq (Qr [Qc 137 14,Q 138 (.bin .neq (.t 137) (.k (.d (.str [110])))),Qc 139 
 138,Qd 140 14 139 true,Qg 141 (.bin .neq (.t 140) (.k (.d (.str [102])))) 139 true,Qp 142 139 141] (.cond (.t 142) (Qr [Qy 143,Qs 5 4 143,Qx 5 (Ki 4)] .ret) .skip)) (Qr [Qc 
 144 12,Qk 145 .add 144 1,Qa 7 145] (.seq (Qr [Qc 146 6,Qc 147 10,Qb 148 .add 146 147,Qk 149 .lss 148 1,Qc 150 149,Qd 151 6 150 false,Qd 152 10 150 false,Qg 153 (.bin 
 .add (.t 151) (.t 152)) 150 false,Qg 154 (.bin .gtr (.t 153) (Ki 60)) 150 false,Qo 155 150 154,Qc 156 155,Qd 157 0 156 false,Qd 158 6 156 false,Qd 159 10 156 false,Qg 160 
 (.bin .add (.t 158) (.t 159)) 156 false,Qg 161 (.nck (.t 157)) 156 false,Qg 162 (.fa 1 (.t 161)) 156 false,Qg 163 (.iaA 61 1 (.t 162) (.t 160)) 156 false,Qg 164 (.ld false 1 
 (.t 163)) 156 false,Qg 165 (.bin .neq (.t 164) (Ki 0)) 156 false,Qo 166 156 165] (.cond (.t 166) (.exit 3) .skip)) (Qr [Qc 167 0,Qc 168 6,Qc 169 10,Qb 170 .add 168 169,Qc 
 171 11,Qk 172 .add 171 1,Qn 173 167,Qf 174 1 173,Q 175 (.iaA 61 1 (.t 174) (.t 170)),Qs 1 175 172] (Qr [Qc 176 14,Q 177 (.bin .eql (.t 176) (.k (.d (.str [102]))))] (.cond 
 (.t 177) (.reg [Qc 178 0,Qc 179 6,Qc 180 10,Qb 181 .add 179 180,Qn 182 178,Qf 183 1 182,Q 184 (.iaA 61 1 (.t 183) (.t 181)),⟨none,.st 1 (.t 184) (Ki (-1)),none⟩]) 
 .skip))))))))))))) (.reg [Qc 85 10,Qk 86 .add 85 1,Qa 10 86])))))) (.reg [Qc 185 0,Qn 186 185,Qf 187 0 186,Ql 188 187,Qc 189 7,Qj 190 48 [188,189],Qa 1 190])))))))))) 
 (Qr [Qc 192 0,Qn 193 192,Qf 194 0 193,Ql 195 194,Qc 196 1,Qk 197 .add 196 7,Qj 198 50 [195,197],Qc 191 198,Qe 199 0 191,Qe 200 1 191,Qe 201 2 191,Qv 15,Qs 5 15 199, 
 Qa 16 200,Qa 17 201] (.seq (Qr [Qc 202 17,Qk 203 .eql 202 0,Qc 204 203,Qg 205 (.fa 0 (.t 15)) 204 true,Qg 206 (.ld false 1 (.t 205)) 204 true,Qg 207 (.bin .neq (.t 206) (Ki 
 6)) 204 true,Qp 208 204 207] (.cond (.t 208) (.reg [Qx 17 (Ki 8)]) .skip)) (Qr [Qm 209 5 15,Qc 210 17,Qs 5 4 209,Qa 5 210] .ret))))))
def q00:List LRes:=[.cell 4 true 5,.tmp 5]
theorem q3I:q0n Tryz.prog 20 211 q0Y q00:=⟨_,_,Tryz.func20,rfl,by kernel_rfl,by kernel_rfl,rfl⟩
theorem z9o{s:List UInt8}{k:Nat}{q:List (Int×Int)}(T:List AV)(hT:1≤T.length)(hs:s.length≤60000)(hq:okQ q):
  q1r Tryz.prog 20 [.ptr (.x 0) 0,.d (.int .i64 k)] [.cells (opC s q T)]
   (.tuple [.d (tabG s k q).2.2.d,.d (.int .i64 (tabG s k q).2.1)]) [.cells (opC s (tabG s k q).1 T)]:=by
 have ho0:∀u,(opC s u T)[0]?=some (.d (.str s)):=fun u=>rfl
 have hol:=fun u=>j4E s u T
 generalize hR:tabG s k q=R;unfold tabG at hR;refine q3I.q0C (by kernel_rfl) rfl ?_
 by_cases h0:s.length≤k
 ·rw[if_pos (.inl h0)]at hR;have z1:((s.length:Int)≤(k:Int))=True:=eq_true (by omega);rw[←hR,q04];simp(maxSteps:=2000000)only[go_sem,↓reduceIte,q0Y,q00,z1,ho0]
 have z1:((s.length:Int)≤(k:Int))=False:=eq_false (by omega);have w1:=q1O s (k:Int) (by omega);rw[q0h (by omega)]at w1
 by_cases hw:q0p s k=[120,114,101,102]
 ·rw[if_neg (fun h=>h.elim h0 (fun h=>h hw))]at hR;have hwl:=q0I s k;rw[hw]at hwl w1;simp only[Zae,Zag]at hwl;have s1:=q1l s ((k+4:Nat):Int) (by omega);rw[q0h (by omega)]at s1;have gk:=q0r (s:=s) (k:=k+4) (by omega);rw[Zaa]at s1;simp(maxSteps:=2000000)only[go_sem,↓reduceIte,q0Y,q00,z1,ho0];refine q0c.of w1 ?_;simp(maxSteps:=2000000)(disch:=omega)only[go_sem,↓reduceIte,ho0];refine q0c.of s1 ?_
  simp(maxSteps:=2000000)only[go_sem,↓reduceIte];generalize hL:scsG s (s.length+1) (q0l s (k+4)) q=L at hR;refine q0f (fun y:Nat×Nat×List (Int×Int)=>⟨[(0,.ptr (.x 0) 0),(1,.d (.int .i64 y.2.1)),(4,.ptr (.l 4) 0)],[(4,.cells [.d (.int .i64 0),.d (.int .i64 0),.d (.str []),.ns,.ns])],[(0,.cells (opC s y.2.2 T))]⟩)
   (fun y=>s.length<y.1+y.2.1∧y.2.1≤s.length∧okQ y.2.2∧scsG s y.1 y.2.1 y.2.2=L) (fun y=>s.length-y.2.1) (s.length+1,q0l s (k+4),q) ?_ ⟨by simp only;omega,gk.2,hq,hL⟩ ?_
  ·refine Weak.mk ?_ ?_ ?_<;>simp(maxSteps:=2000000)only[go_sem,↓reduceIte,Sub,Zaa,Zab]
  ·rintro⟨m,c,u⟩ ⟨u1,u2,u3,u4⟩;simp only at u1 u2 u3 u4;have w2:=q1O s (c:Int) (by omega);rw[q0h u2]at w2;obtain⟨j,rfl⟩:∃j,m=j+1:=⟨m-1,by omega⟩;rw[scsG]at u4;simp(maxSteps:=2000000)only[go_sem,↓reduceIte,ho0];refine q0c.of w2 ?_
   by_cases ht:q0p s c=trlN
   ·rw[if_pos ht]at u4;rw[←u4]at hR;simp only at hR;have hwl:=q0I s c;rw[ht]at hwl;simp only[trlN,Zae,Zag]at hwl;have hval:=z2P s ((c+7:Nat):Int) (by omega);rw[ht];cases hv:q3l s ((c+7:Nat):Int)with
    |bad e=>
     have he:=q9S hv;have z2:((e:Int)=0)=False:=eq_false (by omega);rw[hv]at hR hval;simp only at hR;rw[z2T,q04,Zaa]at hval;rw[←hR,q04];simp(maxSteps:=2000000)(disch:=omega)only[go_sem,↓reduceIte,trlN,ho0];refine q0c.of hval ?_;simp(maxSteps:=2000000)only[go_sem,↓reduceIte,z2]
    |ok v e=>
     rw[hv]at hR hval;simp only at hR;rw[z2T,Val.d_eq v,Zaa]at hval
     by_cases k6:v.kind=6
     ·rw[if_pos k6]at hR;rw[←hR,Val.d_eq v];simp(maxSteps:=2000000)(disch:=omega)only[go_sem,↓reduceIte,trlN,ho0];refine q0c.of hval ?_;simp(maxSteps:=2000000)only[go_sem,↓reduceIte,k6]
     ·rw[if_neg k6]at hR;have k6':(v.kind=6)=False:=eq_false k6;rw[←hR,Val.d_eq v];simp(maxSteps:=2000000)(disch:=omega)only[go_sem,↓reduceIte,trlN,ho0];refine q0c.of hval ?_;simp(maxSteps:=2000000)only[go_sem,↓reduceIte,k6']
   ·rw[if_neg ht]at u4;have ht':(q0p s c=[116,114,97,105,108,101,114])=False:=eq_false ht;have hso:=j0G (s:=s) (k:=c) u3;have d1:=q70 u2 hs;simp(maxSteps:=2000000)only[go_sem,↓reduceIte,ht',ho0];have stop:∀u',secG s c u=(u',none)→R=(u',4,zeroV):=fun u' h=>by rw[h]at u4;rw[←u4]at hR;exact hR.symm
    have next:∀u' e,secG s c u=(u',some e)→c<e∧e≤s.length∧okQ u'∧scsG s j e u'=L:=fun u' e h=>by
     rw[h]at u4 hso;exact⟨(hso.2 e rfl).1,(hso.2 e rfl).2,hso.1,u4⟩
    clear u4 hso;unfold secG at stop next
    cases h1:numG s c with
    |none=>
     rw[h1]at stop d1;rw[numN]at d1;refine q0c.of d1 ?_;rw[stop u rfl,q04];simp(maxSteps:=2000000)only[go_sem,↓reduceIte]
    |some p=>
     obtain⟨x,e⟩:=p;have g1:=q5M h1;have gk1:=q0r g1.2.1;have s2:=q1l s (e:Int) (by omega);rw[q0h g1.2.1]at s2;have d2:=q70 gk1.2 hs;rw[h1]at stop next d1
     rw[numN]at d1;simp only at stop next d1
     refine q0c.of d1 ?_;simp(maxSteps:=2000000)only[go_sem,↓reduceIte,ho0];refine q1E.of s2 ?_;simp(maxSteps:=2000000)only[go_sem,↓reduceIte];cases h2:numG s (q0l s e)with
     |none=>
      rw[h2]at stop d2;rw[numN]at d2;refine q1E.of d2 ?_;rw[stop u rfl,q04];simp(maxSteps:=2000000)only[go_sem,↓reduceIte]
     |some p=>
      obtain⟨mm,f⟩:=p;have g2:=q5M h2;rw[h2]at stop next d2
      rw[numN]at d2;simp only at stop next d2
      refine q1E.of d2 ?_;simp(maxSteps:=2000000)only[go_sem,↓reduceIte];generalize hM:lnsG s mm (x:Int) f u=M at stop next
      refine q0f (fun y:Nat×Nat×List (Int×Int)=>⟨[(0,.ptr (.x 0) 0),(4,.ptr (.l 4) 0),(6,.d (.int .i64 x)),(7,.d (.int .i64 y.2.1)),(9,.d (.int .i64 mm)),(10,.d (.int .i64 y.1))],[(4,.cells [.d (.int .i64 0),.d (.int .i64 0),.d (.str []),.ns,.ns])],[(0,.cells (opC s y.2.2 T))]⟩)
       (fun y=>y.1≤mm∧y.2.1≤s.length∧okQ y.2.2∧lnsG s (mm-y.1) ((x:Int)+y.1) y.2.1 y.2.2=M) (fun y=>mm-y.1) (0,f,u) ?_ ⟨Zay _,g2.2.1,u3,by simpa using hM⟩ ?_
      ·refine Weak.mk ?_ ?_ ?_<;>simp(maxSteps:=2000000)only[go_sem,↓reduceIte,Sub,Zaa,Zab]
      ·rintro⟨i,c2,v⟩ ⟨v1,v2,v3,v4⟩;simp only at v1 v2 v3 v4;have s3:=q1l s (c2:Int) (by omega);rw[q0h v2]at s3;simp(maxSteps:=2000000)only[go_sem,↓reduceIte,ho0];refine⟨fun q1=>?_,fun q1=>?_⟩
       ·obtain⟨j2,hj⟩:∃j,mm-i=j+1:=⟨mm-i-1,by omega⟩;rw[hj,lnsG]at v4;have d3:=q70 (q0r v2).2 hs;have stop2:linG s c2=none→R=(v,4,zeroV):=fun h=>stop v (by rw[h]at v4;rw[←v4];rfl)
        have next2:∀n b e',linG s c2=some (n,b,e')→lnsG s j2 ((x:Int)+i+1) e' (stpG v ((x:Int)+i) n b)=M∧e'≤s.length∧n<10000000000:=fun n b e' h=>by
         have:=j0d v2 h;rw[h]at v4;exact⟨v4,this.2.1,this.2.2⟩
        clear v4;unfold linG at stop2 next2;refine q1E.of s3 ?_;simp(maxSteps:=2000000)only[go_sem,↓reduceIte];cases h3:numG s (q0l s c2)with
        |none=>
         rw[h3]at stop2 d3;rw[numN]at d3;refine q1E.of d3 ?_;rw[stop2 rfl,q04];simp(maxSteps:=2000000)only[go_sem,↓reduceIte]
        |some p=>
         obtain⟨n,e3⟩:=p;have g3:=q5M h3;have s4:=q1l s (e3:Int) (by omega);rw[q0h g3.2.1]at s4;have d4:=q70 (q0r g3.2.1).2 hs;rw[h3]at stop2 next2 d3;rw[numN]at d3;simp only at stop2 next2 d3;refine q1E.of d3 ?_;simp(maxSteps:=2000000)only[go_sem,↓reduceIte,ho0];refine q1E.of s4 ?_;simp(maxSteps:=2000000)only[go_sem,↓reduceIte];cases h4:numG s (q0l s e3)with
         |none=>
          rw[h4]at stop2 d4;rw[numN]at d4;refine q1E.of d4 ?_;rw[stop2 rfl,q04];simp(maxSteps:=2000000)only[go_sem,↓reduceIte]
         |some p=>
          obtain⟨n2,e5⟩:=p;have g4:=q5M h4;have gk4:=q0r g4.2.1;have s5:=q1l s (e5:Int) (by omega);rw[q0h g4.2.1]at s5;have w5:=q1O s ((q0l s e5:Nat):Int) (by omega);rw[q0h gk4.2]at w5;rw[h4]at stop2 next2 d4;rw[numN]at d4;simp only at stop2 next2 d4;refine q1E.of d4 ?_;simp(maxSteps:=2000000)only[go_sem,↓reduceIte,ho0];refine q0c.of s5 ?_;simp(maxSteps:=2000000)only[go_sem,↓reduceIte,ho0];refine q0c.of w5 ?_
          have body:∀b,(q0p s (q0l s e5)=if b=true then[110]else[102])→lnsG s j2 ((x:Int)+i+1) (q0l s e5+1) (stpG v ((x:Int)+i) n b)=M∧q0l s e5+1≤s.length∧n<10000000000:=fun b h=>next2 n b (q0l s e5+1) (by cases b<;>simp[h])
          have bad2:¬q0p s (q0l s e5)=[110]→¬q0p s (q0l s e5)=[102]→R=(v,4,zeroV):=fun h1 h2=>stop2 (by rw[if_neg h1,if_neg h2])
          clear stop2 next2 stop next
          obtain⟨X,hX⟩:∃X,(x:Int)+(i:Int)=X:=⟨_,rfl⟩;have eX:(x:Int)+((i+1:Nat):Int)=X+1:=by omega
          have ej:mm-(i+1)=j2:=by omega
          rw[hX]at body;have e1:IntKind.i64.wrap ((x:Int)+(i:Int))=X:=by rw[←hX,IntWalk.i64_in]<;>omega
          generalize hW:q0p s (q0l s e5)=w at body bad2;have zz:(([102]:List UInt8)=[110])=False:=eq_false (by decide);have zw:(([110]:List UInt8)=[102])=False:=eq_false (by decide)
          by_cases hwb:∃b:Bool,w=cond b [110] [102]
          ·obtain⟨b,hb⟩:=hwb;obtain⟨b1,b2,b3⟩:=body b (by rw[hb];cases b<;>rfl);clear body bad2;subst hb
           by_cases x1:1≤X
           ·have y1:(X<1)=False:=eq_false (by omega)
            by_cases x2:X≤60
            ·have y2:(60<X)=False:=eq_false (by omega);have y3:(0≤X)=True:=eq_true (by omega);have y4:(X<61)=True:=eq_true (by omega);have hg:(opC s v T)[1+X.toNat * 1]?=some (.d (.int .i64 (arrV (lkI v X)))):=by
              rw[Nat.mul_one,Nat.add_comm,j8r s v T (show X.toNat<61 by omega),Int.toNat_of_nonneg (by omega)]
             cases hl:lkI v X with
             |some y=>
              have hst:stpG v X n b=v:=if_neg (by rw[hl];simp);rw[hst]at b1;have hy:=z4x v3 hl;have ha:(arrV (some y)=0)=False:=eq_false (by rw[arrV];split<;>omega);rw[hl]at hg;cases b <;>
              ·simp(maxSteps:=2000000)(disch:=omega)only[go_sem,↓reduceIte,ho0,zz,zw,e1,y1,y2,y3,y4,hg,ha,cond_true,cond_false];refine⟨(i+1,q0l s e5+1,v),?_,⟨by simp only;omega,b2,v3,by simp only[ej,eX];exact b1⟩,by simp only;omega⟩;refine Weak.mk ?_ ?_ ?_<;>simp(maxSteps:=2000000)only[go_sem,↓reduceIte,Sub,Zaa,Zab]
             |none=>
              have hst:stpG v X n b=v++[(X,if b=true then(n:Int)else -1)]:=if_pos ⟨hl,x1,x2⟩;have hok:=j0K (x:=X) (b:=b) v3 b3;rw[hst]at b1 hok;rw[hl,arrV]at hg;have hs1:(opC s v T).set (1+X.toNat * 1) (.d (.int .i64 ((n:Int)+1)))=opC s (v++[(X,(n:Int))]) T:=by
               rw[Nat.mul_one,Nat.add_comm,←j4F s T hl ⟨x1,x2⟩,arrV,if_neg (by omega)]
              have hs2:(opC s (v++[(X,(n:Int))]) T).set (1+X.toNat * 1) (.d (.int .i64 (-1)))=opC s (v++[(X,(-1:Int))]) T:=by
               rw[←hs1,List.set_set,Nat.mul_one,Nat.add_comm,←j4F s T hl ⟨x1,x2⟩];rfl
              cases b
              ·simp(maxSteps:=2000000)(disch:=omega)only[go_sem,↓reduceIte,ho0,zz,zw,e1,y1,y2,y3,y4,hg,hol,hs1,hs2,cond_true,cond_false];refine⟨by omega,by omega,(i+1,q0l s e5+1,v++[(X,(-1:Int))]),?_,⟨by simp only;omega,b2,hok,by simp only[ej,eX];exact b1⟩,by simp only;omega⟩;refine Weak.mk ?_ ?_ ?_<;>simp(maxSteps:=2000000)only[go_sem,↓reduceIte,Sub,Zaa,Zab]
              ·simp(maxSteps:=2000000)(disch:=omega)only[go_sem,↓reduceIte,ho0,zz,zw,e1,y1,y2,y3,y4,hg,hol,hs1,hs2,cond_true,cond_false];refine⟨by omega,(i+1,q0l s e5+1,v++[(X,(n:Int))]),?_,⟨by simp only;omega,b2,hok,by simp only[ej,eX];exact b1⟩,by simp only;omega⟩;refine Weak.mk ?_ ?_ ?_<;>simp(maxSteps:=2000000)only[go_sem,↓reduceIte,Sub,Zaa,Zab]
            ·have y2:(60<X)=True:=eq_true (by omega);have hst:stpG v X n b=v:=if_neg (fun h=>x2 h.2.2);rw[hst]at b1;cases b <;>
             ·simp(maxSteps:=2000000)(disch:=omega)only[go_sem,↓reduceIte,ho0,zz,zw,e1,y1,y2,cond_true,cond_false];refine⟨(i+1,q0l s e5+1,v),?_,⟨by simp only;omega,b2,v3,by simp only[ej,eX];exact b1⟩,by simp only;omega⟩;refine Weak.mk ?_ ?_ ?_<;>simp(maxSteps:=2000000)only[go_sem,↓reduceIte,Sub,Zaa,Zab]
           ·have y1:(X<1)=True:=eq_true (by omega);have hst:stpG v X n b=v:=if_neg (fun h=>x1 h.2.1);rw[hst]at b1;cases b <;>
            ·simp(maxSteps:=2000000)(disch:=omega)only[go_sem,↓reduceIte,ho0,zz,zw,e1,y1,cond_true,cond_false];refine⟨(i+1,q0l s e5+1,v),?_,⟨by simp only;omega,b2,v3,by simp only[ej,eX];exact b1⟩,by simp only;omega⟩;refine Weak.mk ?_ ?_ ?_<;>simp(maxSteps:=2000000)only[go_sem,↓reduceIte,Sub,Zaa,Zab]
          ·have hw1:¬w=[110]:=fun h=>hwb ⟨true,h⟩
           have hw2:¬w=[102]:=fun h=>hwb ⟨false,h⟩
           have z3:(w=[110])=False:=eq_false hw1;have z4:(w=[102])=False:=eq_false hw2;rw[bad2 hw1 hw2,q04];simp(maxSteps:=2000000)only[go_sem,↓reduceIte,z3,z4]
       ·have e:i=mm:=by omega
        subst e;rw[Nat.sub_self,lnsG]at v4;obtain⟨n1,n2,n3,n4⟩:=next v (q0l s c2) (by rw[←v4];rfl)
        refine q0c.of s3 ?_;simp(maxSteps:=2000000)only[go_sem,↓reduceIte];refine⟨(j,q0l s c2,v),?_,⟨by simp only;omega,n2,n3,n4⟩,by simp only;omega⟩;refine Weak.mk ?_ ?_ ?_<;>simp(maxSteps:=2000000)only[go_sem,↓reduceIte,Sub,Zaa,Zab]
 ·rw[if_pos (.inr hw)]at hR;have hw':(q0p s k=[120,114,101,102])=False:=eq_false hw;rw[←hR,q04];simp(maxSteps:=2000000)only[go_sem,↓reduceIte,q0Y,q00,z1,ho0];refine q0c.of w1 ?_;simp(maxSteps:=2000000)only[go_sem,↓reduceIte,hw',ho0]
def nsA(l:List Nat):List AV:=l.map fun(n:Nat)=>.d (.int .i64 (n:Int))
theorem q6D(l:List Nat):(nsA l).length=l.length:=by simp[nsA]
def rowN(l:List Nat)(c:Nat):List AV:=rowA (nsA l) c
theorem j1M{l:List Nat}{c:Nat}(h:l.length≤c):(rowN l c).length=c:=z3s (by rw[q6D];exact h)
theorem j1L{l:List Nat}{c i v:Nat}(h:l[i]?=some v):(rowN l c)[i]?=some (.d (.int .i64 v)):=by
 have hi:=(Zac.1 h).1;rw[rowN,rowA,Zaj (by rw[q6D];exact hi),nsA,Zan,h];rfl
theorem z1A(l:List Nat)(c:Nat):rowO (.cells (rowN l c))=true:=by
 simp only[rowO,rowN,rowA,nsA,List.all_append,List.all_map,Zah,Zbh,Function.comp];refine⟨fun x _=>trivial,fun x hx=>?_⟩;rw[(List.mem_replicate.1 hx).2]
def nsD(l:List Nat):List D:=l.map fun(n:Nat)=>.int .i64 (n:Int)
theorem q9n(l:List Nat):(nsD l).length=l.length:=by simp[nsD]
theorem j4A(l:List Nat)(j:Nat):(nsD l)[j]?=(l[j]?).map fun(n:Nat)=>D.int .i64 (n:Int):=by simp[nsD]
theorem j8m(l:List Nat):nsA l=(nsD l).map .d:=by simp[nsA,nsD]
theorem j4B(l:List Nat):∀y∈nsD l,y.cells=[y]:=fun y hy=>by
 simp only[nsD,Zat]at hy;obtain⟨n,_,rfl⟩:=hy;rfl
theorem j4z(l:List Nat)(d:Nat):∀y∈nsA l,z4w d y:=fun y hy=>by
 simp only[nsA,Zat]at hy;obtain⟨n,_,rfl⟩:=hy;exact⟨rfl,rfl,fun e he=>by cases he⟩
theorem j37(n:Int)(d:Nat):z4w d (.d (.int .i64 n)):=⟨rfl,rfl,fun e he=>by cases he⟩
theorem j40(r:Ref)(l:List Nat)(c:Nat):(rowN l c).map (AV.drop r)=rowN l c:=by
 refine(Zdd fun x hx=>?_).trans (List.map_id _);rcases Zaz.1 hx with hx|hx
 ·simp only[nsA,Zat]at hx;obtain⟨n,_,rfl⟩:=hx;rfl
 ·rw[(List.mem_replicate.1 hx).2];rfl
theorem z4K(l:List Nat)(n c:Nat):rowA (nsA l++[.d (.int .i64 (n:Int))]) c=rowN (l++[n]) c:=by
 simp[rowN,nsA]
attribute [go_sem] j40
attribute [go_sem] z1A
open Go.Proofs Go.Sort
theorem setRow{E:Entry}{n:Nat}{G:q0s}{σ:St}{ts:Array Value}{w:World}(h:SR E n G σ ts w){r:Ref}{cs cs':List AV}(hr:σ.obj r=some (.cells cs))(hsc:∀y∈cs',∀s,y.has (.l s)=false){w':World}(hs:w.heap.size≤w'.heap.size)(hb:∀b,b<w.heap.size→b≠G.b r→w'.heap[b]?=w.heap[b]?)
  (hos:w'.os=w.os) (htp:w'.tape=w.tape) (hout:w'.output=w.output) (ho':Ext G.f w G.f w'→ObjR G w' r (.cells cs')):SR E n G (σ.setObj r (.cells cs')) ts w':=by
 have hf:=h.objf r _ hr;have hext:Ext G.f w G.f w':=by
  refine⟨hs,fun _=>Zak _,fun b j hj=>?_,fun b es c h0 hm=>?_⟩
  ·have hne:b≠G.b r:=fun e=>by rw[e,hf]at hj;omega
   have hlt:b<w.heap.size:=by
    rcases Zbi b w.heap.size with h1|h1
    ·exact h1
    ·rw[h.top b h1]at hj;omega
   simp only[World.cell?,at_];rw[hb b hlt hne]
  ·rw[hb b (Zar.1 hm).1 (fun e=>by rw[e,hf]at h0;omega)];exact hm
 have obj:∀r' o1,(σ.setObj r (.cells cs')).obj r'=some o1→(r'=r∧o1=.cells cs')∨(r'≠r∧σ.obj r'=some o1):=fun r' o1 h1=>by
  rw[St.q1s]at h1;split at h1
  ·rename_i e;exact .inl ⟨e.symm,by simpa using h1.symm⟩
  ·rename_i e;exact .inr ⟨fun e'=>e e'.symm,h1⟩
 have dom:∀r' o1,(σ.setObj r (.cells cs')).obj r'=some o1→∃o2,σ.obj r'=some o2:=fun r' o1 h1=>by
  rcases obj r' o1 h1 with⟨rfl,_⟩|⟨_,h1⟩
  ·exact⟨_,hr⟩
  ·exact⟨_,h1⟩
 refine⟨h.size,fun t y hy=>?_,fun r' o1 ho=>?_,fun r' o1 ho=>?_,fun r1 r2 o1 o2 h1 h2=>?_,fun q v' e sz hq=>?_,fun q v' e sz b hq hb' r' o1 ho=>?_,h.lamInj,fun r' o1 ho=>?_,h.newLam,h.ext.trans hext,fun b hb0 hM=>?_,fun b hb0=>h.top b (by omega),h.ext0,fun k cs2 y s ho hy=>?_,
  hos.trans h.os,htp.trans h.tape,hout.trans h.output⟩
 ·have h2:aget σ.ρ t=some y:=by cases r<;>exact hy
  exact AVR.mono (G':=G) (h:=h.slot t y h2) hext (fun _ _=>rfl) (fun _ _ _ hp=>hp)
 ·rcases obj r' o1 ho with⟨rfl,rfl⟩|⟨hne,ho⟩
  ·exact ho' hext
  ·have hb1:G.b r'≠G.b r:=fun e=>hne (h.inj r' r _ _ ho hr e)
   exact(h.obj r' o1 ho).mono (G':=G) hext rfl (hb _ (h.obj r' o1 ho).lt hb1) (fun _ _ _ _ _ _=>rfl) (fun _ _ hp=>hp)
 ·obtain⟨o2,h2⟩:=dom r' o1 ho;exact h.objf r' o2 h2
 ·obtain⟨o3,h3⟩:=dom r1 o1 h1;obtain⟨o4,h4⟩:=dom r2 o2 h2;exact h.inj r1 r2 o3 o4 h3 h4
 ·exact(h.lam q v' e sz hq).mono fun b hb1=>⟨hb b ((h.lam q v' e sz hq).lt hb1) (fun e'=>h.lamObj q v' e sz b hq hb1 r _ hr e'.symm),rfl⟩
 ·obtain⟨o2,h2⟩:=dom r' o1 ho;exact h.lamObj q v' e sz b hq hb' r' o2 h2
 ·obtain⟨o2,h2⟩:=dom r' o1 ho;exact h.newObj r' o2 h2
 ·have hb':b≠G.b r:=fun e=>by
   rcases h.newObj r _ hr with h2|h2
   ·omega
   ·rw[e]at hM;exact hM h2
  exact⟨(hb b (Zcf hb0 h.ext.size) hb').trans (h.fr b hb0 hM).1,(h.fr b hb0 hM).2⟩
 ·rcases obj (.x k) _ ho with⟨e,h2⟩|⟨_,ho⟩
  ·cases h2;exact hsc y hy s
  ·exact h.own0 k cs2 y s ho hy
def srtN(l:List Nat):List Nat:=((l.map Int.ofNat).mergeSort fun x y=>decide (x≤y)).map Int.toNat
theorem q63(l:List Nat):(srtN l).length=l.length:=by simp[srtN]
theorem j1W(l:List Nat):((srtN l).map Int.ofNat)=(l.map Int.ofNat).mergeSort fun x y=>decide (x≤y):=by
 unfold srtN;rw[List.map_map];refine(Zdd fun x hx=>?_).trans (List.map_id _);have:=(List.mergeSort_perm (l.map Int.ofNat) _).subset hx;obtain⟨n,_,rfl⟩:=Zat.1 this;rfl
theorem z88{l:List Nat}{c i:Nat}{x:AV}(h:(rowN l c)[i]?=some x):(∃n,l[i]?=some n∧x=.d (.int .i64 (n:Int)))∨(l.length≤i∧i<c∧x=.junk):=by
 unfold rowN rowA at h
 by_cases hi:i<l.length
 ·left
  rw[Zaj (by rw[q6D];exact hi),nsA,Zan]at h;cases hl:l[i]? with
  |none=>rw[hl]at h;cases h
  |some n=>rw[hl]at h;cases h;exact⟨n,rfl,rfl⟩
 ·right
  rw[Zam (by rw[q6D];omega)]at h;obtain⟨h1,h2⟩:=Zac.1 h;rw[q6D]at h1;simp only[Zdb]at h1;rw[List.getElem_replicate]at h2;exact⟨by omega,by omega,h2.symm⟩
theorem j2U{P:Program}[Inv P]{fn:FuncId}(hc:q5V P fn=true)
  (hk:∀(blk off cap:Nat) (zs:List Int) (w:World),Holds (Value.int .i64) w blk off zs.toArray→blk<w.heap.size→zs.length<4611686018427387904→
   Calls P fn #[.slice (some ⟨blk,off,none⟩) zs.length cap] w fun e w'=>e=.returned (.tuple #[])∧∃n os,w'=grow (putRow (Value.int .i64) (Sort.ahead w n) blk off (zs.mergeSort fun x y=>decide (x≤y)).toArray) os)
  (l:List Nat) (c:Nat) (hl:l.length≤1000000000) (hlc:l.length≤c):
  q1r P fn [.rs (.x 0) l.length c] [.cells (rowN l c)] (.tuple []) [.cells (rowN (srtN l) c)]:=by
 refine⟨hc,fun G w vs hI hown h=>?_⟩;have hsz:vs.size=1:=h.size;have h0:=h.slot 0 (.rs (.x 0) l.length c) rfl;obtain⟨arr,el,hb,ha,hcell⟩:=h.obj (.x 0) (.cells (rowN l c)) rfl;have hvs:vs = #[.slice (some (at_ (G.b (.x 0)) 0)) l.length c]:=by
  match vs,hsz with
  |⟨[v]⟩,_=>
   have h0:AVR G w (.rs (.x 0) l.length c) v:=h0;cases h0;rfl
 rw[j1M hlc]at ha;have hb0:G.b (.x 0)<w.heap.size:=(Zar.1 hb).1;have hat:∀(j n:Nat),l[j]?=some n→arr[j]?=some (Value.int .i64 (n:Int)):=fun j n hj=>by
  obtain⟨q1,_⟩:=hcell j _ (j1L hj);have hjl:=(Zac.1 hj).1;have e:arr[j]?=some (arr.getD j undef):=by rw[Zav,Zck (by omega)];rfl
  rw[e];generalize arr.getD j undef=v at q1;cases q1 with
  |d _ _ q=>cases q;rfl
 have hH:Holds (Value.int .i64) w (G.b (.x 0)) 0 (l.map Int.ofNat).toArray:=fun j hj=>by
  have hjl:j<l.length:=by simpa using hj
  refine⟨?_,by simp[World.frozen?,hb]⟩;have:=hat j l[j] (by rw[Zal hjl]);simp only[World.cell?,hb,Zbg];simpa[hjl]using this
 have hcall:=hk (G.b (.x 0)) 0 c (l.map Int.ofNat) w hH hb0 (by simp;omega);rw[Zbn]at hcall;rw[hvs];refine hcall.mono fun e w' ⟨he,m,os,hw⟩=>⟨.tuple [],_,G,.tuple #[],⟨rfl,rfl⟩,he,rfl,?_⟩
 rw[←j1W]at hw;subst hw;have hheap:=heap_sortedI (n:=m) (os:=os) ((srtN l).map Int.ofNat).toArray hb;have h1:=setRow h (r:=.x 0) (cs:=rowN l c) (cs':=rowN (srtN l) c) rfl (fun y hy s=>by
   obtain⟨i,hi⟩:=Zbb hy;rcases z88 hi with⟨n,_,rfl⟩|⟨_,_,rfl⟩<;>rfl)
  (w':=grow (putRow (Value.int .i64) (Sort.ahead w m) (G.b (.x 0)) 0 ((srtN l).map Int.ofNat).toArray) os)
  (by simp[grow,putRow,mapBlock,Sort.ahead])
  (fun b hb1 hne=>by
   rw[heap_grow_old _ _ (by simpa[putRow,mapBlock,Sort.ahead]using hb1)];simp[putRow,mapBlock,Sort.ahead,Zda,Ne.symm hne])
  rfl rfl rfl (fun hx=>⟨_,el,hheap,by simp[putCells,ha,j1M (show(srtN l).length≤c by rw[q63];exact hlc)],fun i x hi=>by
   rcases z88 hi with⟨n,hn,rfl⟩|⟨h2,h3,rfl⟩
   ·have hil:=(Zac.1 hn).1;rw[q63]at hil;have e:(putCells (Value.int .i64) 0 ((srtN l).map Int.ofNat).toArray arr).getD i undef=Value.int .i64 (n:Int):=by
     rw[Zav];have hn2:=(Zac.1 hn).2;simp[putCells,show i<arr.size by omega,q63,hil,hn2]
    rw[e];exact⟨.d _ _ (.int _ _),rfl,fun q hq=>(by cases hq),fun e he=>(by cases he)⟩
   ·have e:(putCells (Value.int .i64) 0 ((srtN l).map Int.ofNat).toArray arr).getD i undef=arr.getD i undef:=by
     rw[Zav,Zav];rw[q63]at h2;simp[putCells,show i<arr.size by omega,q63,show ¬i<l.length by omega]
    rw[e];rw[q63]at h2;have hj:(rowN l c)[i]?=some .junk:=by
     rw[rowN,rowA,Zam (by rw[q6D];exact h2),List.getElem?_replicate,if_pos (by rw[q6D];omega)]
    exact⟨.junk _,(hcell i _ hj).2.1,fun q hq=>(by cases hq),fun e he=>(by cases he)⟩⟩)
 exact{ h1 with
  size:=rfl
  slot:=fun s x hx=>by
   cases s with
   |zero=>cases hx;exact .tuple [] #[] rfl (fun _ h=>by cases h) fun i x hi=>by simp at hi
   |succ s=>simp[aget]at hx }
def z9g:Go.Shelf.Ren:=⟨fun|5=>51|8=>73|7=>72|19=>113|20=>114|10=>104|11=>105|12=>106|13=>107|14=>108|15=>109|16=>110|17=>111|18=>112|30=>144|31=>145|32=>146|33=>147|34=>148|35=>149|40=>176|n=>n,fun|23=>55|25=>3|3=>3|32=>127|22=>55|0=>0|44=>144|46=>161|4=>4|36=>153|35=>152|41=>90|5=>5|9=>9|53=>180|57=>143|63=>202|64=>64|n=>n,fun|n=>n⟩
theorem j1V:Go.Proofs.SlLaysM.n5 Tryz.prog z9g where
 mixed:=by kernel_rfl
 f5 := ⟨"slices.Sort[[]int,int]", by decide, Tryz.func51.trans (congrArg some (by kernel_rfl))⟩
 f7 := ⟨"slices.pdqsortOrdered[int]", by decide, Tryz.func72.trans (congrArg some (by kernel_rfl))⟩
 f8:=Tryz.func73.trans (congrArg some (by kernel_rfl))
 f10 := ⟨"slices.insertionSortOrdered[int]", by decide, Tryz.func104.trans (congrArg some (by kernel_rfl))⟩
 f11 := ⟨"slices.heapSortOrdered[int]", by decide, Tryz.func105.trans (congrArg some (by kernel_rfl))⟩
 f12 := ⟨"slices.breakPatternsOrdered[int]", by decide, Tryz.func106.trans (congrArg some (by kernel_rfl))⟩
 f13 := ⟨"slices.choosePivotOrdered[int]", by decide, Tryz.func107.trans (congrArg some (by kernel_rfl))⟩
 f14 := ⟨"slices.reverseRangeOrdered[int]", by decide, Tryz.func108.trans (congrArg some (by kernel_rfl))⟩
 f15 := ⟨"slices.partialInsertionSortOrdered[int]", by decide, Tryz.func109.trans (congrArg some (by kernel_rfl))⟩
 f16 := ⟨"cmp.Less[int]", by decide, Tryz.func110.trans (congrArg some (by kernel_rfl))⟩
 f17 := ⟨"slices.partitionEqualOrdered[int]", by decide, Tryz.func111.trans (congrArg some (by kernel_rfl))⟩
 f18 := ⟨"slices.partitionOrdered[int]", by decide, Tryz.func112.trans (congrArg some (by kernel_rfl))⟩
 f19:=Tryz.func113.trans (congrArg some (by kernel_rfl))
 f20:=Tryz.func114.trans (congrArg some (by kernel_rfl))
 f30 := ⟨"slices.siftDownOrdered[int]", by decide, Tryz.func144.trans (congrArg some (by kernel_rfl))⟩
 f31:=Tryz.func145.trans (congrArg some (by kernel_rfl))
 f32:=Tryz.func146.trans (congrArg some (by kernel_rfl))
 f33 := ⟨"slices.medianAdjacentOrdered[int]", by decide, Tryz.func147.trans (congrArg some (by kernel_rfl))⟩
 f34 := ⟨"slices.medianOrdered[int]", by decide, Tryz.func148.trans (congrArg some (by kernel_rfl))⟩
 f35 := ⟨"cmp.isNaN[int]", by decide, Tryz.func149.trans (congrArg some (by kernel_rfl))⟩
 f40 := ⟨"slices.order2Ordered[int]", by decide, Tryz.func176.trans (congrArg some (by kernel_rfl))⟩
 t0:=Tryz.underlying0
 a0:=Tryz.isAgg0
 z0:=Tryz.sizeOf0
 v0:=Tryz.zeroValue0
 t3:=Tryz.underlying3
 a3:=Tryz.isAgg3
 z3:=Tryz.sizeOf3
 v3:=Tryz.zeroValue3
 t4:=Tryz.underlying4
 a4:=Tryz.isAgg4
 z4:=Tryz.sizeOf4
 v4:=Tryz.zeroValue4
 t5:=Tryz.underlying5
 a5:=Tryz.isAgg5
 z5:=Tryz.sizeOf5
 v5:=Tryz.zeroValue5
 t9:=Tryz.underlying9
 a9:=Tryz.isAgg9
 z9:=Tryz.sizeOf9
 v9:=Tryz.zeroValue9
 t22:=Tryz.underlying55
 a22:=Tryz.isAgg55
 z22:=Tryz.sizeOf55
 v22:=Tryz.zeroValue55
 t23:=Tryz.underlying55
 a23:=Tryz.isAgg55
 z23:=Tryz.sizeOf55
 v23:=Tryz.zeroValue55
 t25:=Tryz.underlying3
 a25:=Tryz.isAgg3
 z25:=Tryz.sizeOf3
 v25:=Tryz.zeroValue3
 t32:=Tryz.underlying127
 a32:=Tryz.isAgg127
 z32:=Tryz.sizeOf127
 v32:=Tryz.zeroValue127
 t35:=Tryz.underlying152
 a35:=Tryz.isAgg152
 z35:=Tryz.sizeOf152
 v35:=Tryz.zeroValue152
 t36:=Tryz.underlying153
 a36:=Tryz.isAgg153
 z36:=Tryz.sizeOf153
 v36:=Tryz.zeroValue153
 t41:=Tryz.underlying90
 a41:=Tryz.isAgg90
 z41:=Tryz.sizeOf90
 v41:=Tryz.zeroValue90
 t44:=Tryz.underlying144
 a44:=Tryz.isAgg144
 z44:=Tryz.sizeOf144
 v44:=Tryz.zeroValue144
 t46:=Tryz.underlying161
 a46:=Tryz.isAgg161
 z46:=Tryz.sizeOf161
 v46:=Tryz.zeroValue161
 t53:=Tryz.underlying180
 a53:=Tryz.isAgg180
 z53:=Tryz.sizeOf180
 v53:=Tryz.zeroValue180
 t57:=Tryz.underlying143
 a57:=Tryz.isAgg143
 z57:=Tryz.sizeOf143
 v57:=Tryz.zeroValue143
 t63:=Tryz.underlying202
 a63:=Tryz.isAgg202
 z63:=Tryz.sizeOf202
 v63:=Tryz.zeroValue202
 t64:=Tryz.underlying64
 a64:=Tryz.isAgg64
 z64:=Tryz.sizeOf64
 v64:=Tryz.zeroValue64
theorem z9h(l:List Nat)(c:Nat)(hl:l.length≤1000000000)(hlc:l.length≤c):
  q1r Tryz.prog 51 [.rs (.x 0) l.length c] [.cells (rowN l c)] (.tuple []) [.cells (rowN (srtN l) c)]:=
 j2U (by kernel_rfl) (fun blk off cap zs w h1 h2 h3=>AnyM.slices_Sort_int j1V blk off cap zs w h1 h2 h3) l c hl hlc
theorem z7p:q1r Tryz.prog 51 [.ns] [] (.tuple []) []:=by
 refine⟨by kernel_rfl,fun G w vs hI hown h=>?_⟩;have hsz:vs.size=1:=h.size;have h0:=h.slot 0 .ns rfl;have hvs:vs = #[.slice none 0 0]:=by
  match vs,hsz with
  |⟨[v]⟩,_=>
   have h0:AVR G w .ns v:=h0;cases h0;rfl
 rw[hvs];refine(AnyM.slices_Sort_int_none j1V none 0 w).mono fun e w' ⟨he,hw⟩=>⟨.tuple [],[],G,.tuple #[],⟨rfl,rfl⟩,he,rfl,?_⟩
 subst hw;exact{ h with
  size:=rfl
  slot:=fun s x hx=>by
   cases s with
   |zero=>cases hx;exact .tuple [] #[] rfl (fun _ h=>by cases h) fun i x hi=>by simp at hi
   |succ s=>simp[aget]at hx }
def rise(l:List Nat):Prop:=l.Pairwise (·<·)
theorem z4J:∀{l m:List Nat},rise l→rise m→l.Perm m→l=m
 |[],m,_,_,h=>(List.nil_perm.1 h).symm
 |x::l,[],_,_,h=>by have:=h.length_eq;simp at this
 |x::l,y::m,hl,hm,h=>by
  have h1:=List.pairwise_cons.1 hl;have h2:=List.pairwise_cons.1 hm;have hx:x∈y::m:=h.subset (by simp);have hy:y∈x::l:=h.symm.subset (by simp);have e:x=y:=by
   rcases Zba.1 hx with e|hx
   ·exact e
   ·rcases Zba.1 hy with e|hy
    ·exact e.symm
    ·have:=h1.1 y hy;have:=h2.1 x hx;omega
  subst e;rw[z4J h1.2 h2.2 (List.Perm.cons_inv h)]
theorem z1J(l:List Nat):(srtN l).Perm l:=by
 have h1:(srtN l).Perm ((l.map Int.ofNat).map Int.toNat):=(List.mergeSort_perm (l.map Int.ofNat) _).map Int.toNat;rw[List.map_map]at h1;have e:l.map (Int.toNat∘Int.ofNat)=l:=(Zdd fun x _=>rfl).trans (List.map_id l);rwa [e]at h1
theorem z4T{l:List Nat}(hn:l.Nodup):rise (srtN l):=by
 have h1:((l.map Int.ofNat).mergeSort fun x y=>decide (x≤y)).Pairwise fun x y=>decide (x≤y)=true:=
  List.pairwise_mergeSort (fun a b c h1 h2=>by simp only[decide_eq_true_eq]at *;omega) (fun a b=>by simp only[Zcc,decide_eq_true_eq];omega) _
 rw[←j1W,List.pairwise_map]at h1;have h2:(srtN l).Nodup:=(z1J l).nodup_iff.2 hn;refine(h1.and h2).imp fun{a b} h=>?_
 obtain⟨h3,h4⟩:=h;have h3:=of_decide_eq_true h3;have:a≤b:=by simpa using h3
 omega
theorem j8O{l m:List Nat}(h:l.Perm m)(hn:m.Nodup):srtN l=srtN m:=
 z4J (z4T (h.nodup_iff.2 hn)) (z4T hn) ((z1J l).trans (h.trans (z1J m).symm))
theorem q8r(s:List UInt8)(k:Int){v:Val}{n:Nat}(h:q3l s k=.ok v n):v.sm 1048576=true:=by
 unfold q3l at h;split at h
 ·cases h
 ·rename_i hc;have hg:=q4a s 8 k.toNat (by omega);split at h
  ·cases h
  ·rename_i v' k' hx;split at h
   ·cases h;rw[hx]at hg;obtain⟨g1,g2,g3,g4⟩:=hg;exact Val.z0Q (by omega) v g3
   ·cases h
end Go.Av.Tryz
