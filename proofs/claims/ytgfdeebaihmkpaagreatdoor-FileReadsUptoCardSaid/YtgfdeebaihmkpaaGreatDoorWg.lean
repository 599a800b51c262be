import Derived.Test.YtgfdeebaihmkpaaGreatDoorWf
import Derived.Test.YtgfdeebaihmkpaaGreatDoorWb
import Derived.Test.YtgfdeebaihmkpaaGreatDoorAvJ
import Derived.Test.YtgfdeebaihmkpaaGreatDoorWc
set_option linter.unusedSimpArgs false
set_option maxRecDepth 100000
set_option maxHeartbeats 16000000
namespace Go.Av.Tryz
open Go.Proofs
def q3r:q0g:=
 Qr [Qx 4 (Ki 0)] (.seq (Qr [Qc 6 0,Qz 7 false 6,Q 8 (.cp (Ki 0))] (.block 0 (.loop (Qr [Qb 9 .lss 8 7] (.seq (.cond (.t 9) .skip (.exit 0)) (.seq (.block 1 (Qr [Qc 10 8,Qa 5 10] 
 (Qr [Qc 11 1,Qc 12 0,Qc 13 5,Q 14 (.ia 1 (.t 12) (.t 13)),Ql 15 14,Qb 16 .eql 11 15] (.cond (.t 16) (Qr [Qc 17 5,Qa 4 17] .ret) .skip)))) (.reg [Qk 18 .add 8 1,Qc 8 
 18]))))))) (Qr [Qx 4 (Ki (-1))] .ret))
def q3y:List LRes:=[.tmp 4]
theorem q55:q0n Tryz.prog 45 19 q3r q3y:=⟨_,_,Tryz.func45,rfl,by kernel_rfl,by kernel_rfl,rfl⟩
def q2M:q0g:=
 Qr [Qx 4 KF] (Qr [Qc 5 0,Qc 6 1,Qj 7 45 [5,6],Qk 8 .geq 7 0,Qa 4 8] .ret)
def q2P:List LRes:=[.tmp 4]
theorem q5a:q0n Tryz.prog 16 9 q2M q2P:=⟨_,_,Tryz.func16,rfl,by kernel_rfl,by kernel_rfl,rfl⟩
theorem z92(l:List Nat)(n:Nat)(hl:l.length≤1000000):q0i Tryz.prog 45 [.list (nsD l),.int .i64 n] (fun r=>∃i:Int,r=.one (.int .i64 i)∧(n∉l→i = -1)∧(n∈l→0≤i)):=by
 have hlen:=q9n l;refine q55.call rfl ?_;simp(maxSteps:=2000000)only[go_sem,↓reduceIte,q3r,q3y,hlen];refine q0f (fun i:Nat=>⟨[(0,.d (.list (nsD l))),(1,.d (.int .i64 n)),(7,.d (.int .i64 l.length)),(8,.d (.int .i64 i))],[],[]⟩)
  (fun i=>i≤l.length∧n∉l.take i) (fun i=>l.length-i) 0 ?_ ⟨Zay _,by simp⟩ ?_
 ·refine Weak.mk ?_ ?_ ?_<;>simp(maxSteps:=2000000)only[go_sem,↓reduceIte,Sub,Zaa,Zab,hlen]
 ·intro i ⟨g1,g2⟩;simp(maxSteps:=2000000)only[go_sem,↓reduceIte];refine⟨fun q=>?_,fun q=>?_⟩
  ·obtain⟨x,hx⟩:=get_some (l:=l) (i:=i) (by omega);have hg:getI (nsD l) (i:Int)=some (.int .i64 x):=by rw[q0a,j4A,hx];rfl
   simp(maxSteps:=2000000)(disch:=omega)only[go_sem,↓reduceIte,hg];refine⟨fun e=>⟨i,rfl,fun h=>absurd (Zaf hx) (by rw[←show n=x by omega];exact h),fun _=>by omega⟩,fun e=>⟨i+1,?_,⟨by omega,fun h=>?_⟩,by omega⟩⟩
   ·refine Weak.mk ?_ ?_ ?_<;>simp(maxSteps:=2000000)only[go_sem,↓reduceIte,Sub,Zaa,Zab]
   ·rw[Zcu,hx]at h;rcases Zaz.1 h with h|h
    ·exact g2 h
    ·have:n=x:=by simpa using h
     omega
  ·rw[List.take_of_length_le (by omega)]at g2;exact⟨-1,rfl,fun _=>rfl,fun h=>absurd h g2⟩
theorem j44(l:List Nat)(n:Nat)(hl:l.length≤1000000):q0i Tryz.prog 16 [.list (nsD l),.int .i64 n] (fun r=>r=.one (.bool (decide (n∈l)))):=by
 refine q5a.call rfl ?_;simp(maxSteps:=2000000)only[go_sem,↓reduceIte,q2M,q2P];refine q0c.post (z92 l n hl) (fun r hr=>?_);obtain⟨i,rfl,h1,h2⟩:=hr
 by_cases hn:n∈l
 ·have z:(0≤i)=True:=eq_true (h2 hn);rw[decide_eq_true hn];simp(maxSteps:=2000000)only[go_sem,↓reduceIte,z]
 ·rw[h1 hn,decide_eq_false hn];simp(maxSteps:=2000000)only[go_sem,↓reduceIte]
def filP(s:List UInt8)(q:List (Int×Int))(v:Val):List D:=[.str s,mapI q,.int .i64 v.kind,.int .i64 v.n,.str v.s,.list (q0m v.l),.list (q0k v.f)]
def filD(s:List UInt8)(q:List (Int×Int))(v:Val):D:=.pto (filP s q v)
def filR(s:List UInt8):Nat×List (Int×Int)×Val→Res
 |(e,q,v)=>if e=0 then .tup [filD s q v,.nil]else .tup [.nilp,errD e]
theorem j0R(s:List UInt8)(k:Nat)(q:List (Int×Int)):(tabG s k q).2.2.sm 1048576=true:=by
 unfold tabG;split
 ·rfl
 ·split
  ·rfl
  ·split
   ·rfl
   ·rename_i h;exact q8r _ _ h
def z0n:q0g:=
 Qr [Qx 2 (.k (.d .nilp)),Qx 3 (.k (.d .nil))] (.seq (Qr [Qc 12 0,Qz 13 true 12,Qk 14 .gtr 13 60000] (.cond (.t 14) (Qr [Q 15 (.mkI 49 (Ki 2)),Qx 2 (.k (.d .nilp)),Qa 3 15] 
 .ret) .skip)) (.seq (Qr [Qc 16 0,⟨some 17,.call 14 [.t 16,.k (.d (.str [37,80,68,70,45]))],none⟩,Qh 18 17] (.cond (.t 18) (Qr [Q 19 (.mkI 49 (Ki 4)),Qx 2 (.k (.d 
 .nilp)),Qa 3 19] .ret) .skip)) (.seq (.alt [([Qc 20 0,⟨some 21,.prim (.mkMap 51) [] [],none⟩],Q 22 (.bld [(0,1),(1,1),(2,5)] [.str [],.map [] [],.int .i64 0,.int 
 .i64 0,.str [],.list [],.list []] [false,false,false,false,false,true,true] [(0,.t 20),(1,.t 21)])),([],⟨some 23,.box (.t 22),none⟩)] [Qa 4 23]) (Qr [Qc 25 0,Qj 
 26 15 [25],Qc 24 26,Qe 27 0 24,Qe 28 1 24,Qa 5 27,Qa 6 28] (.seq (Qr [Qc 29 6,Q 30 (.eqN 0 true (.t 29))] (.cond (.t 30) (Qr [Qc 31 6,Qx 2 (.k (.d .nilp)),Qa 3 31] .ret) 
 .skip)) (Qr [⟨some 7,.nils 3 1,none⟩] (.block 0 (.loop (.block 1 (.seq (Qr [Qc 32 7,Qc 33 5,Qj 34 16 [32,33]] (.cond (.t 34) (Qr [Q 35 (.mkI 49 (Ki 7)),Qx 2 (.k (.d 
 .nilp)),Qa 3 35] .ret) .skip)) (.seq (Qr [Qc 36 7,Qz 37 false 36,Qk 38 .eql 37 8] (.cond (.t 38) (Qr [Q 39 (.mkI 49 (Ki 2)),Qx 2 (.k (.d .nilp)),Qa 3 39] .ret) .skip)) (Qr 
 [Qc 40 7,Qc 41 5,⟨some 42,.bsl 3 1 [.t 41],none⟩,⟨some 43,.app 3 1 8 false (.t 40) (.t 42),none⟩,Qa 7 43] (Qr [Qc 45 4,Qc 46 5,Qq 47 17 [45,46],Qc 44 47,Qe 48 0 44, 
 Qe 49 1 44,Qv 8,Qs 5 8 48,Qa 9 49] (.seq (Qr [Qc 50 9,Q 51 (.eqN 0 true (.t 50))] (.cond (.t 51) (Qr [Qc 52 9,Qx 2 (.k (.d .nilp)),Qa 3 52] .ret) .skip)) (.seq (Qr [Qc 53 
 7,Qz 54 false 53,Qk 55 .eql 54 1] (.cond (.t 55) (.reg [Qc 56 4,Qm 57 5 8,Qn 58 56,Qf 59 2 58,Qs 5 59 57]) .skip)) (Qr [Qm 61 5 8,⟨some 62,.call 18 [.t 61,.k (.d (.str 
 [80,114,101,118]))],none⟩,Qc 60 62,Qe 63 0 60,Qe 64 1 60,Qv 10,Qs 5 10 63,Qa 11 64] (.seq (Qr [Qc 65 11,Qh 66 65] (.cond (.t 66) (.seq (.alt [([],Qc 67 4)] [Qa 2 67, 
 Qx 3 (.k (.d .nil))]) .ret) .skip)) (.seq (Qr [Qf 68 0 10,Ql 69 68,Qk 70 .neq 69 2,Qc 71 70,Qg 72 (.fa 1 (.t 10)) 71 false,Qg 73 (.ld false 1 (.t 72)) 71 false,Qg 74 (.bin 
 .lss (.t 73) (Ki 0)) 71 false,Qo 75 71 74,Qc 76 75,Qg 77 (.fa 1 (.t 10)) 76 false,Qg 78 (.ld false 1 (.t 77)) 76 false,Qg 79 (.bin .rem (.t 78) (Ki 1000)) 76 false,Qg 80 
 (.bin .neq (.t 79) (Ki 0)) 76 false,Qo 81 76 80] (.cond (.t 81) (Qr [Q 82 (.mkI 49 (Ki 8)),Qx 2 (.k (.d .nilp)),Qa 3 82] .ret) .skip)) (.reg [Qf 83 1 10,Ql 84 83,Qk 85 .quo 
 84 1000,Qa 5 85])))))))))))))))))))
def z0q:List LRes:=[.tmp 2,.tmp 3]
theorem z5j:q0n Tryz.prog 6 86 z0n z0q:=⟨_,_,Tryz.func6,rfl,by kernel_rfl,by kernel_rfl,rfl⟩
theorem z5V{s:List UInt8}(hs:s.length≤1048576):q0i Tryz.prog 6 [.str s] (fun x=>x=filR s (z1V s)):=by
 have hpr:=z0d s [37,80,68,70,45];generalize hR:z1V s=R;unfold z1V at hR;have bad:∀e,e≠0→R=(e,[],zeroV)→Res.tup [.nilp,.iface 49 (.int .i64 (e:Int))]=filR s R:=fun e he h=>by
  rw[h,filR,if_neg he,q0Q he]
 refine z5j.call rfl ?_
 by_cases h1:60000<s.length
 ·rw[if_pos h1]at hR;have z1:(60000<(s.length:Int))=True:=eq_true (by omega);simp(maxSteps:=2000000)only[go_sem,↓reduceIte,z0n,z0q,z1];exact bad 2 (by decide) hR.symm
 rw[if_neg h1]at hR;have z1:(60000<(s.length:Int))=False:=eq_false (by omega);simp(maxSteps:=2000000)only[go_sem,↓reduceIte,z0n,z0q,z1];refine q0c.of hpr ?_
 by_cases h2:q44 s [37,80,68,70,45]=true
 ·rw[if_pos h2]at hR;rw[h2];simp(maxSteps:=2000000)only[go_sem,↓reduceIte];refine q0e.mkMap z4q ?_;simp(maxSteps:=2000000)only[go_sem,↓reduceIte];refine q2C.bldX (out:=[.d (.str s),.mp (.l 21),.d (.int .i64 0),.d (.int .i64 0),.d (.str []),.ns,.ns]) rfl (by simp[AV.simple]) (fun j hj=>match j,hj with
   |5,_=>rfl
   |6,_=>rfl
   |0,h=>by cases h
   |1,h=>by cases h
   |2,h=>by cases h
   |3,h=>by cases h
   |4,h=>by cases h
   |(j+7),h=>by simp at h) ?_
  simp(maxSteps:=2000000)only[go_sem,↓reduceIte];refine q2C.boxX rfl (by simp[mpX]) ?_;simp(maxSteps:=2000000)only[go_sem,↓reduceIte];have hst:=j2V (s:=s) (by omega);cases h3:staG s with
  |none=>
   rw[h3]at hR hst;rw[staR,e4]at hst;refine q0c.of hst ?_;simp(maxSteps:=2000000)only[go_sem,↓reduceIte];exact bad 4 (by decide) hR.symm
  |some k=>
   rw[h3]at hR hst;rw[staR]at hst;refine q0c.of hst ?_;simp(maxSteps:=2000000)only[go_sem,↓reduceIte];refine q0f (fun y:Nat×Nat×List Nat×List (Int×Int)×Option Val=>⟨[(0,.d (.str s)),(4,.ptr (.l 23) 0),(5,.d (.int .i64 y.2.1)),(7,.own (.t 7) 3 1 (nsD y.2.2.1))],[(21,.mobj (ksI y.2.2.2.1) (vsI y.2.2.2.1)),(23,.cells (filC s (.l 21) (tlC y.2.2.2.2)))],[]⟩)
    (fun y=>y.2.2.1.length+y.1=8∧okQ y.2.2.2.1∧(y.2.2.1=[]↔y.2.2.2.2=none)∧opnG s y.1 y.2.1 y.2.2.1 y.2.2.2.1 y.2.2.2.2=R) (fun y=>y.1) (8,k,[],[],none) ?_ ⟨rfl,q7n,by simp,hR⟩ ?_
   ·refine Weak.mk ?_ ?_ ?_<;>simp(maxSteps:=2000000)only[go_sem,↓reduceIte,Sub,Zaa,Zab,nsD,Zbs,ksI,vsI,filC,tlC]
   ·rintro⟨m,c,seen,u,t⟩ ⟨u1,u2,u3,u4⟩;simp only at u1 u2 u3 u4;have hct:=j44 seen c (by omega);have hlen:=q9n seen;simp(maxSteps:=2000000)only[go_sem,↓reduceIte];refine q0c.of hct ?_
    by_cases hc:c∈seen
    ·unfold opnG at u4;rw[if_pos hc]at u4;rw[decide_eq_true hc];simp(maxSteps:=2000000)only[go_sem,↓reduceIte];exact bad 7 (by decide) u4.symm
    rw[decide_eq_false hc];cases m with
    |zero=>
     unfold opnG at u4;rw[if_neg hc]at u4;have z2:(((nsD seen).length:Int)=8)=True:=eq_true (by omega);simp(maxSteps:=2000000)only[go_sem,↓reduceIte,z2];exact bad 2 (by decide) u4.symm
    |succ m=>
     unfold opnG at u4;rw[if_neg hc]at u4;simp only at u4;have z2:(((nsD seen).length:Int)=8)=False:=eq_false (by omega);have hta:=j2W (s:=s) (k:=c) t (by omega) u2;have hok:=j0Q (s:=s) (k:=c) u2;have hsnoc:nsD seen++[D.int .i64 (c:Int)]=nsD (seen++[c]):=by simp[nsD]
     simp(maxSteps:=2000000)(disch:=omega)only[go_sem,↓reduceIte,z2,hsnoc];refine⟨⟨by omega,by omega⟩,?_⟩;have hsm:=j0R s c u;have hwl:=z9n (s:=s) (k:=c) (q:=u);have hn1:(((nsD (seen++[c])).length:Int)=1)=(t=none):=by
      rw[q9n,Zad,Zcg];refine propext (Iff.trans ?_ u3);rw[←List.length_eq_zero_iff];omega
     generalize tabG s c u=S at *;obtain⟨u',e,v⟩:=S;simp only at u4 hta hok hsm hwl;obtain⟨_,_,hvf,_,_⟩:=Val.q1e.1 hsm;have hge:=q87 v prvN hvf;rw[Val.d_eq v]at hta hge
     by_cases he:e=0
     ·subst he;have he0:errD 0=.nil:=rfl;rw[if_neg (fun h=>h rfl)]at u4;rw[he0]at hta;have fin:∀w,t.getD v=w→getV prvN v.f=none→R=(0,u',w):=fun w h1 h2=>by rw[←u4,h2,←h1]
      rcases t with _|v0;all_goals
       first
       |have hn2:=hn1.trans (eq_true rfl)
       |have hn2:=hn1.trans (eq_false (by simp))
       simp only[filC,tlC]at hta ⊢;refine q0e.q0C ([.l 23,.l 21]) ([]) rfl (hta) rfl rfl (by simp only[q0R,St.obj,aget,AObj.ren,AV.ren,AV.ren1,renL,q1P,renR,renQ,Zap,Zaq,and_true,and_self,Nat.reduceEqDiff,↓reduceIte,reduceCtorEq]) rfl rfl rfl ⟨rfl,rfl⟩ ?_;simp(maxSteps:=2000000)only[go_sem,↓reduceIte,hn2];refine q0c.of hge ?_;cases hg:getV prvN v.f with
       |none=>
        rw[hg]at u4;simp only[getR,Zcj,Zbu,q04];simp(maxSteps:=2000000)only[go_sem,↓reduceIte];refine q2C.ghost (q2C.step rfl (fun _ _ _ h=>by cases h) rfl ?_);first
        |refine⟨_,Gh.trans (Gh.j6b (a:=21) rfl) (Gh.frzP (a:=23) (fs:=filP s u' v) rfl),?_⟩
        |refine⟨_,Gh.trans (Gh.j6b (a:=21) rfl) (Gh.frzP (a:=23) (fs:=filP s u' v0) rfl),?_⟩
        rw[←u4];simp(maxSteps:=2000000)only[go_sem,↓reduceIte,St.frzM,St.frzP,amap,adel,AV.frzM,AV.frzP,filR,filD,Zcj,Zbd]
       |some p=>
        rw[hg]at u4;simp only[getR,Zbd,Zcb];rw[Val.d_eq p];simp only at u4
        by_cases hp:natG p
        ·rw[if_pos hp]at u4;have p1:(p.kind=2)=True:=eq_true hp.1;have p2:(p.n<0)=False:=eq_false (by have:=hp.2.1;omega);have p3:(p.n.tmod 1000=0)=True:=eq_true hp.2.2;obtain⟨j,hj,hjl⟩:=z3p hp (z3y hwl hg);rw[hj,Zbw]at u4;simp(maxSteps:=2000000)(disch:=omega)only[go_sem,↓reduceIte,p1,p2,p3,hj];have hl1:(seen++[c]).length+m=8:=by rw[Zad,Zcg];omega
         first
         |refine⟨(m,j,seen++[c],u',some v),?_,⟨hl1,hok,by simp,u4⟩,by simp only;omega⟩
         |refine⟨(m,j,seen++[c],u',some v0),?_,⟨hl1,hok,by simp,u4⟩,by simp only;omega⟩
         refine Weak.mk ?_ ?_ ?_<;>simp(maxSteps:=2000000)only[go_sem,↓reduceIte,Sub,Zaa,Zab,filC,tlC]
        ·rw[if_neg hp]at u4;have b:=bad 8 (by decide) u4.symm
         by_cases p1:p.kind=2
         ·have p1':(p.kind=2)=True:=eq_true p1
          by_cases p2:p.n<0
          ·have p2':(p.n<0)=True:=eq_true p2;simp(maxSteps:=2000000)only[go_sem,↓reduceIte,p1',p2'];exact b
          ·have p2':(p.n<0)=False:=eq_false p2;have p3':(p.n.tmod 1000=0)=False:=eq_false fun h=>hp ⟨p1,by omega,h⟩
           simp(maxSteps:=2000000)only[go_sem,↓reduceIte,p1',p2',p3'];exact b
         ·have p1':(p.kind=2)=False:=eq_false p1;simp(maxSteps:=2000000)only[go_sem,↓reduceIte,p1'];exact b
     ·rw[if_pos he]at u4;rw[q0Q he]at hta;have b:=bad e he u4.symm;cases t with
      |none=>
       simp only[filC,tlC]at hta ⊢;refine q0e.q0C ([.l 23,.l 21]) ([]) rfl (hta) rfl rfl (by simp only[q0R,St.obj,aget,AObj.ren,AV.ren,AV.ren1,renL,q1P,renR,renQ,Zap,Zaq,and_true,and_self,Nat.reduceEqDiff,↓reduceIte,reduceCtorEq]) rfl rfl rfl ⟨rfl,rfl⟩ ?_;simp(maxSteps:=2000000)only[go_sem,↓reduceIte];exact b
      |some v0=>
       simp only[filC,tlC]at hta ⊢;refine q0e.q0C ([.l 23,.l 21]) ([]) rfl (hta) rfl rfl (by simp only[q0R,St.obj,aget,AObj.ren,AV.ren,AV.ren1,renL,q1P,renR,renQ,Zap,Zaq,and_true,and_self,Nat.reduceEqDiff,↓reduceIte,reduceCtorEq]) rfl rfl rfl ⟨rfl,rfl⟩ ?_;simp(maxSteps:=2000000)only[go_sem,↓reduceIte];exact b
 ·rw[if_neg h2]at hR;have h2':q44 s [37,80,68,70,45]=false:=by simpa using h2
  rw[h2'];simp(maxSteps:=2000000)only[go_sem,↓reduceIte];exact bad 4 (by decide) hR.symm
def modP(s:List UInt8)(q:List (Int×Int))(v:Val)(last:Int):List D:=.str s::(arrD q++[.int .i64 v.kind,.int .i64 v.n,.str v.s,.list (q0m v.l),.list (q0k v.f),.int .i64 last])
def modD(s:List UInt8)(q:List (Int×Int))(v:Val)(last:Int):D:=.pto (modP s q v last)
def modR(s:List UInt8):Nat×List (Int×Int)×Val→Res→Prop
 |(e,q,v),r=>if e=0 then ∃last,r=.tup [modD s q v last,.int .i64 0]else r=.tup [.nilp,.int .i64 e]
theorem j9C(rs:List Ref):∀l:List D,renL rs (l.map AV.d)=l.map AV.d
 |[]=>rfl
 |x::r=>by rw[Zbo,renL,j9C rs r];rfl
theorem j1G(rs:List Ref):∀a b:List AV,renL rs (a++b)=renL rs a++renL rs b
 |[],_=>rfl
 |x::r,b=>by rw[Zbe,renL,j1G rs r b,renL];rfl
theorem j8t(rs:List Ref)(s:List UInt8)(q:List (Int×Int))(T:List AV):renL rs (opC s q T)=opC s q (renL rs T):=by
 rw[opC,renL,j1G,j9C];rfl
theorem z68(r:Ref)(s:List UInt8)(q:List (Int×Int))(T:List AV):(opC s q T).map (AV.drop r)=opC s q (T.map (AV.drop r)):=by
 rw[opC,Zbo,List.map_append,List.map_map];rfl
theorem j8s(s:List UInt8)(q:List (Int×Int))(a b c d e a' b' c' d' e' z:AV):(((((opC s q [a,b,c,d,e,z]).set 62 a').set 63 b').set 64 c').set 65 d').set 66 e'=opC s q [a',b',c',d',e',z]:=rfl
theorem j1q(s:List UInt8)(q:List (Int×Int))(v:Val)(n:Int):(modP s q v n).map AV.d=opC s q [.d (.int .i64 v.kind),.d (.int .i64 v.n),.d (.str v.s),.d (.list (q0m v.l)),.d (.list (q0k v.f)),.d (.int .i64 n)]:=by
 simp[modP,opC]
def q1z:q0g:=
 Qr [Qx 2 (.k (.d .nilp)),Qx 3 (Ki 0)] (.seq (Qr [Qc 13 0,Qz 14 true 13,Qk 15 .gtr 14 60000] (.cond (.t 15) (Qr [Qx 2 (.k (.d .nilp)),Qx 3 (Ki 2)] .ret) .skip)) (.seq (Qr [Qc 16 
 0,Qz 17 true 16,Qk 18 .lss 17 5,Qc 19 18,Qd 20 0 19 false,Qg 21 (.subS (.t 20) none (some (Ki 5))) 19 false,Qg 22 (.bin .neq (.t 21) (.k (.d (.str [37,80,68,70,45])))) 
 19 false,Qo 23 19 22] (.cond (.t 23) (Qr [Qx 2 (.k (.d .nilp)),Qx 3 (Ki 4)] .ret) .skip)) (Qr [Qc 24 0,Q 25 (.bld [(0,1),(1,61),(62,5),(67,1)] [.str [],.int .i64 0, 
 .int .i64 0,.int .i64 0,.int .i64 0,.int .i64 0,.int .i64 0,.int .i64 0,.int .i64 0,.int .i64 0,.int .i64 0,.int .i64 0,.int .i64 0,.int .i64 0,.int .i64 0,.int .i64 
 0,.int .i64 0,.int .i64 0,.int .i64 0,.int .i64 0,.int .i64 0,.int .i64 0,.int .i64 0,.int .i64 0,.int .i64 0,.int .i64 0,.int .i64 0,.int .i64 0,.int .i64 0,.int 
 .i64 0,.int .i64 0,.int .i64 0,.int .i64 0,.int .i64 0,.int .i64 0,.int .i64 0,.int .i64 0,.int .i64 0,.int .i64 0,.int .i64 0,.int .i64 0,.int .i64 0,.int .i64 0, 
 .int .i64 0,.int .i64 0,.int .i64 0,.int .i64 0,.int .i64 0,.int .i64 0,.int .i64 0,.int .i64 0,.int .i64 0,.int .i64 0,.int .i64 0,.int .i64 0,.int .i64 0,.int .i64 
 0,.int .i64 0,.int .i64 0,.int .i64 0,.int .i64 0,.int .i64 0,.int .i64 0,.int .i64 0,.str [],.list [],.list [],.int .i64 0] [false,false,false,false,false,false, 
 false,false,false,false,false,false,false,false,false,false,false,false,false,false,false,false,false,false,false,false,false,false,false,false,false, 
 false,false,false,false,false,false,false,false,false,false,false,false,false,false,false,false,false,false,false,false,false,false,false,false,false, 
 false,false,false,false,false,false,false,false,false,true,true,false] [(0,.t 24)]),⟨some 26,.box (.t 25),none⟩,Qa 4 26] (Qr [Qc 28 0,Qj 29 19 [28],Qc 27 29,Qe 
 30 0 27,Qe 31 1 27,Qa 5 30,Qa 6 31] (.seq (Qr [Qc 32 6,Qk 33 .gtr 32 0] (.cond (.t 33) (Qr [Qc 34 6,Qx 2 (.k (.d .nilp)),Qa 3 34] .ret) .skip)) (Qr [Qc 35 4,Qc 36 5,Qn 37 
 35,Qf 38 67 37,Qs 1 38 36] (Qr [⟨some 7,.nils 3 1,none⟩] (.block 0 (.loop (.block 1 (.seq (Qr [Qx 8 (Ki 0)] (.block 2 (.loop (.seq (Qr [Qc 39 8,Qc 40 7,Qz 41 false 40,Qb 
 42 .lss 39 41] (.cond (.t 42) .skip (.exit 2))) (.seq (.block 3 (Qr [Qc 45 7,Qc 46 8,Q 47 (.ia 1 (.t 45) (.t 46)),Ql 48 47,Qc 49 5,Qb 50 .eql 48 49] (.cond (.t 50) (Qr [Qx 2 
 (.k (.d .nilp)),Qx 3 (Ki 7)] .ret) .skip))) (.reg [Qc 43 8,Qk 44 .add 43 1,Qa 8 44])))))) (.seq (Qr [Qc 51 7,Qz 52 false 51,Qk 53 .eql 52 8] (.cond (.t 53) (Qr [Qx 2 (.k (.d 
 .nilp)),Qx 3 (Ki 2)] .ret) .skip)) (Qr [Qc 54 7,Qc 55 5,⟨some 56,.bsl 3 1 [.t 55],none⟩,⟨some 57,.app 3 1 8 false (.t 54) (.t 56),none⟩,Qa 7 57] (Qr [Qc 59 4,Qc 60 5, 
 Qq 61 20 [59,60],Qc 58 61,Qe 62 0 58,Qe 63 1 58,Qv 9,Qs 5 9 62,Qa 10 63] (.seq (Qr [Qc 64 10,Qk 65 .gtr 64 0] (.cond (.t 65) (Qr [Qc 66 10,Qx 2 (.k (.d .nilp)),Qa 3 66] 
 .ret) .skip)) (.seq (Qr [Qc 67 7,Qz 68 false 67,Qk 69 .eql 68 1] (.cond (.t 69) (.reg [Qc 70 4,Qm 71 5 9,Qn 72 70,Qf 73 62 72,Qs 5 73 71]) .skip)) (Qr [Qm 75 5 9,⟨some 76, 
 .call 21 [.t 75,.k (.d (.str [80,114,101,118]))],none⟩,Qc 74 76,Qe 77 0 74,Qe 78 1 74,Qv 11,Qs 5 11 77,Qa 12 78] (.seq (Qr [Qc 79 12,Qh 80 79] (.cond (.t 80) (.seq 
 (.alt [([],Qc 81 4)] [Qa 2 81,Qx 3 (Ki 0)]) .ret) .skip)) (.seq (Qr [Qf 82 0 11,Ql 83 82,Qk 84 .neq 83 2,Qc 85 84,Qg 86 (.fa 1 (.t 11)) 85 false,Qg 87 (.ld false 1 (.t 
 86)) 85 false,Qg 88 (.bin .lss (.t 87) (Ki 0)) 85 false,Qo 89 85 88,Qc 90 89,Qg 91 (.fa 1 (.t 11)) 90 false,Qg 92 (.ld false 1 (.t 91)) 90 false,Qg 93 (.bin .rem (.t 92) 
 (Ki 1000)) 90 false,Qg 94 (.bin .neq (.t 93) (Ki 0)) 90 false,Qo 95 90 94] (.cond (.t 95) (Qr [Qx 2 (.k (.d .nilp)),Qx 3 (Ki 8)] .ret) .skip)) (.reg [Qf 96 1 11,Ql 97 96,Qk 
 98 .quo 97 1000,Qa 5 98]))))))))))))))))))))
def q1B:List LRes:=[.tmp 2,.tmp 3]
theorem q7L:q0n Tryz.prog 7 99 q1z q1B:=⟨_,_,Tryz.func7,rfl,by kernel_rfl,by kernel_rfl,rfl⟩
theorem j4G{s:List UInt8}(hs:s.length≤1048576):q0i Tryz.prog 7 [.str s] (modR s (z1V s)):=by
 generalize hR:z1V s=R;unfold z1V at hR;have bad:∀(e:Nat),e≠0→R=(e,[],zeroV)→modR s R (Res.tup [.nilp,.int .i64 (e:Int)]):=fun e he h=>by
  rw[h,modR,if_neg he]
 refine q7L.call rfl ?_
 by_cases h1:60000<s.length
 ·rw[if_pos h1]at hR;have z1:(60000<(s.length:Int))=True:=eq_true (by omega);simp(maxSteps:=2000000)only[go_sem,↓reduceIte,q1z,q1B,z1];exact bad 2 (by decide) hR.symm
 rw[if_neg h1]at hR;have z1:(60000<(s.length:Int))=False:=eq_false (by omega)
 by_cases h2:q44 s [37,80,68,70,45]=true
 ·rw[if_pos h2]at hR;simp only[q44,decide_eq_true_eq,Zae,Zag]at h2;have h5:5≤s.length:=by have:=congrArg List.length h2;simp only[Zaw,Zae,Zag]at this;omega
  have z2:((s.length:Int)<5)=False:=eq_false (by omega);have hc:cutI s 0 5=[37,80,68,70,45]:=by rw[←h2];simp[cutI]
  simp(maxSteps:=2000000)(disch:=omega)only[go_sem,↓reduceIte,q1z,q1B,z1,z2,hc];refine⟨by omega,?_⟩;have hst:=z9j (s:=s) (by omega);cases h3:staG s with
  |none=>
   rw[h3]at hR hst;rw[staN]at hst;refine q0c.of hst ?_;simp(maxSteps:=2000000)only[go_sem,↓reduceIte];exact bad 4 (by decide) hR.symm
  |some k=>
   rw[h3]at hR hst;rw[staN]at hst;refine q0c.of hst ?_;simp(maxSteps:=2000000)only[go_sem,↓reduceIte];have tl:∀(o:Option Val),((tlC o++[.d (.int .i64 k)]:List AV)).length=6:=fun o=>by cases o<;>rfl
   refine q0f (fun y:Nat×Nat×List Nat×List (Int×Int)×Option Val=>⟨[(0,.d (.str s)),(4,.ptr (.l 26) 0),(5,.d (.int .i64 y.2.1)),(7,.own (.t 7) 3 1 (nsD y.2.2.1))],[(26,.cells (opC s y.2.2.2.1 (tlC y.2.2.2.2++[.d (.int .i64 k)])))],[]⟩)
    (fun y=>y.2.2.1.length+y.1=8∧okQ y.2.2.2.1∧(y.2.2.1=[]↔y.2.2.2.2=none)∧opnG s y.1 y.2.1 y.2.2.1 y.2.2.2.1 y.2.2.2.2=R) (fun y=>y.1) (8,k,[],[],none) ?_ ⟨rfl,q7n,by simp,hR⟩ ?_
   ·refine Weak.mk ?_ ?_ ?_<;>simp(maxSteps:=2000000)only[go_sem,↓reduceIte,Sub,Zaa,Zab,nsD,Zbs];rfl
   ·rintro⟨m,c,seen,u,t⟩ ⟨u1,u2,u3,u4⟩;simp only at u1 u2 u3 u4;have hlen:=q9n seen;simp(maxSteps:=2000000)only[go_sem,↓reduceIte];refine q0f (fun i:Nat=>⟨[(0,.d (.str s)),(4,.ptr (.l 26) 0),(5,.d (.int .i64 c)),(7,.own (.t 7) 3 1 (nsD seen)),(8,.d (.int .i64 i))],[(26,.cells (opC s u (tlC t++[.d (.int .i64 k)])))],[]⟩)
     (fun i=>i≤seen.length∧c∉seen.take i) (fun i=>seen.length-i) 0 ?_ ⟨Zay _,by simp⟩ ?_
    ·refine Weak.mk ?_ ?_ ?_<;>simp(maxSteps:=2000000)only[go_sem,↓reduceIte,Sub,Zaa,Zab]
    ·rintro i ⟨v1,v2⟩;simp(maxSteps:=2000000)only[go_sem,↓reduceIte];refine⟨fun q1=>?_,fun q1=>?_⟩
     ·obtain⟨x,hx⟩:=get_some (l:=seen) (i:=i) (by omega);have hg:getI (nsD seen) (i:Int)=some (.int .i64 x):=by rw[q0a,j4A,hx];rfl
      simp(maxSteps:=2000000)(disch:=omega)only[go_sem,↓reduceIte,hg];refine⟨fun e=>?_,fun e=>⟨i+1,?_,⟨by omega,fun h=>?_⟩,by omega⟩⟩
      ·unfold opnG at u4;rw[if_pos (by rw[←show x=c by omega];exact Zaf hx)]at u4;exact bad 7 (by decide) u4.symm
      ·refine Weak.mk ?_ ?_ ?_<;>simp(maxSteps:=2000000)only[go_sem,↓reduceIte,Sub,Zaa,Zab]
      ·rw[Zcu,hx]at h;rcases Zaz.1 h with h|h
       ·exact v2 h
       ·have:c=x:=by simpa using h
        omega
     ·rw[List.take_of_length_le (by omega)]at v2;cases m with
      |zero=>
       unfold opnG at u4;rw[if_neg v2]at u4;have z3:(((nsD seen).length:Int)=8)=True:=eq_true (by omega);simp(maxSteps:=2000000)only[go_sem,↓reduceIte,z3];exact bad 2 (by decide) u4.symm
      |succ m=>
       unfold opnG at u4;rw[if_neg v2]at u4;simp only at u4;have z3:(((nsD seen).length:Int)=8)=False:=eq_false (by omega);have hta:=z9o (s:=s) (k:=c) (tlC t++[.d (.int .i64 k)]) (by rw[tl];decide) (by omega) u2;have hok:=j0Q (s:=s) (k:=c) u2;have hsnoc:nsD seen++[D.int .i64 (c:Int)]=nsD (seen++[c]):=by simp[nsD]
       simp(maxSteps:=2000000)(disch:=omega)only[go_sem,↓reduceIte,z3,hsnoc];refine⟨⟨by omega,by omega⟩,?_⟩;have hsm:=j0R s c u;have hwl:=z9n (s:=s) (k:=c) (q:=u);have hn1:(((nsD (seen++[c])).length:Int)=1)=(t=none):=by
        rw[q9n,Zad,Zcg];refine propext (Iff.trans ?_ u3);rw[←List.length_eq_zero_iff];omega
       generalize tabG s c u=S at *;obtain⟨u',e,v⟩:=S;simp only at u4 hta hok hsm hwl;obtain⟨_,_,hvf,_,_⟩:=Val.q1e.1 hsm;have hge:=q88 v prvN hvf;rw[Val.d_eq v]at hta hge;rcases t with _|v0;all_goals
        first
        |have hn2:=hn1.trans (eq_true rfl)
        |have hn2:=hn1.trans (eq_false (by simp))
        simp only[tlC,Zbe,Zbj]at hta ⊢;refine q0e.mc1 (.l 26) rfl (hta) rfl rfl rfl rfl ⟨rfl,rfl⟩ ?_;simp(maxSteps:=2000000)only[go_sem,↓reduceIte,j8t,z68,j4E,hn2];refine⟨fun he=>?_,fun he=>?_⟩
        ·rw[if_pos (by omega)]at u4;exact bad e (by omega) u4.symm
        ·rw[if_neg (by omega)]at u4;try rw[j8s]
         refine q0c.of hge ?_;cases hg:getV prvN v.f with
         |none=>
          rw[hg]at u4;simp only[getR,Zcj,Zbu,q04];simp(maxSteps:=2000000)only[go_sem,↓reduceIte,z68];refine q2C.ghost (q2C.step rfl (fun _ _ _ h=>by cases h) rfl ?_);first
          |refine⟨_,Gh.frzP (a:=26) (fs:=modP s u' v k) (by rw[j1q];rfl),?_⟩
          |refine⟨_,Gh.frzP (a:=26) (fs:=modP s u' v0 k) (by rw[j1q];rfl),?_⟩
          rw[←u4];simp(maxSteps:=2000000)only[go_sem,↓reduceIte,St.frzP,amap,adel,AV.frzP,modR,modD,Zcj,Zbd];exact⟨_,rfl⟩
         |some p=>
          rw[hg]at u4;simp only[getR,Zbd,Zcb];rw[Val.d_eq p];simp only at u4
          by_cases hp:natG p
          ·rw[if_pos hp]at u4;have p1:(p.kind=2)=True:=eq_true hp.1;have p2:(p.n<0)=False:=eq_false (by have:=hp.2.1;omega);have p3:(p.n.tmod 1000=0)=True:=eq_true hp.2.2;obtain⟨j,hj,hjl⟩:=z3p hp (z3y hwl hg);rw[hj,Zbw]at u4;simp(maxSteps:=2000000)(disch:=omega)only[go_sem,↓reduceIte,p1,p2,p3,hj,z68];have hl1:(seen++[c]).length+m=8:=by rw[Zad,Zcg];omega
           first
           |refine⟨(m,j,seen++[c],u',some v),?_,⟨hl1,hok,by simp,u4⟩,by simp only;omega⟩
           |refine⟨(m,j,seen++[c],u',some v0),?_,⟨hl1,hok,by simp,u4⟩,by simp only;omega⟩
           refine Weak.mk ?_ ?_ ?_<;>simp(maxSteps:=2000000)only[go_sem,↓reduceIte,Sub,Zaa,Zab,tlC,Zbe,Zbj]
          ·rw[if_neg hp]at u4;have b:=bad 8 (by decide) u4.symm
           by_cases p1:p.kind=2
           ·have p1':(p.kind=2)=True:=eq_true p1
            by_cases p2:p.n<0
            ·have p2':(p.n<0)=True:=eq_true p2;simp(maxSteps:=2000000)only[go_sem,↓reduceIte,p1',p2'];exact b
            ·have p2':(p.n<0)=False:=eq_false p2;have p3':(p.n.tmod 1000=0)=False:=eq_false fun h=>hp ⟨p1,by omega,h⟩
             simp(maxSteps:=2000000)only[go_sem,↓reduceIte,p1',p2',p3'];exact b
           ·have p1':(p.kind=2)=False:=eq_false p1;simp(maxSteps:=2000000)only[go_sem,↓reduceIte,p1'];exact b
 ·rw[if_neg h2]at hR;simp only[q44,decide_eq_true_eq,Zae,Zag]at h2
  by_cases h5:s.length<5
  ·have z2:((s.length:Int)<5)=True:=eq_true (by omega);simp(maxSteps:=2000000)(disch:=omega)only[go_sem,↓reduceIte,q1z,q1B,z1,z2];exact bad 4 (by decide) hR.symm
  ·have z2:((s.length:Int)<5)=False:=eq_false (by omega);have hc:cutI s 0 5=s.take 5:=by simp[cutI]
   have h2':(s.take 5=[37,80,68,70,45])=False:=eq_false h2;simp(maxSteps:=2000000)(disch:=omega)only[go_sem,↓reduceIte,q1z,q1B,z1,z2,hc,h2'];refine⟨by omega,?_⟩;exact bad 4 (by decide) hR.symm
/-! ### The numbers there are -/
def posQ(q:List (Int×Int)):List Nat:=(q.filter fun p=>decide (0≤p.2)).map fun p=>p.1.toNat
def isQ(q:List (Int×Int))(n:Nat):Bool:=match lkI q n with
 |some v=>decide (0≤v)
 |none=>false
def kepG(q:List (Int×Int)):List Nat:=(List.range' 1 60).filter (isQ q)
theorem z0L{α:Type}:∀{l:List α} {i:Nat} {x:α},l[i]?=some x→(x::l.eraseIdx i).Perm l
 |[],_,_,h=>by simp at h
 |a::l,0,x,h=>by cases h;exact .refl _
 |a::l,i+1,x,h=>by
  rw[List.eraseIdx_cons_succ];exact(List.Perm.swap a x _).trans ((z0L (l:=l) (i:=i) (by simpa using h)).cons a)
theorem j6S{l:List (Int×Int)}{i:Nat}{p:Int×Int}(h:l[i]?=some p)(hp:0≤p.2):(p.1.toNat::posQ (l.eraseIdx i)).Perm (posQ l):=by
 have:=((z0L h).filter fun p=>decide (0≤p.2)).map fun p=>p.1.toNat
 rwa [List.filter_cons_of_pos (by simpa using hp)]at this
theorem j8A{l:List (Int×Int)}{i:Nat}{p:Int×Int}(h:l[i]?=some p)(hp:¬0≤p.2):(posQ (l.eraseIdx i)).Perm (posQ l):=by
 have:=((z0L h).filter fun p=>decide (0≤p.2)).map fun p=>p.1.toNat
 rwa [List.filter_cons_of_neg (by simpa using hp)]at this
theorem j1u{p:Int×Int}:∀{q:List (Int×Int)},(q.map Prod.fst).Nodup→p∈q→lkI q p.1=some p.2
 |[],_,h=>by cases h
 |x::r,hn,h=>by
  rw[Zbo,Zcx]at hn;rw[lkI];rcases Zba.1 h with rfl|h
  ·rw[if_pos rfl]
  ·rw[if_neg (fun e=>hn.1 (by rw[←e];exact Zcy h)),j1u hn.2 h]
theorem j6R{q:List (Int×Int)}(h:okQ q)(n:Nat):n∈posQ q↔1≤n∧n≤60∧isQ q n=true:=by
 unfold posQ isQ;rw[Zat];constructor
 ·rintro⟨p,hp,rfl⟩;rw[Zcd]at hp;have hb:=h.2 p hp.1;have hl:=j1u h.1 hp.1;rw[show((p.1.toNat:Nat):Int)=p.1 by omega,hl];exact⟨by omega,by omega,hp.2⟩
 ·rintro⟨h1,h2,h3⟩;cases hl:lkI q n with
  |none=>rw[hl]at h3;cases h3
  |some v=>
   rw[hl]at h3;exact⟨((n:Int),v),Zcd.2 ⟨j0e hl,h3⟩,Zbw n⟩
theorem z8K{α β:Type}{f:α→β}:∀{l:List α},(∀a∈l,∀b∈l,f a=f b→a=b)→l.Nodup→(l.map f).Nodup
 |[],_,_=>List.nodup_nil
 |a::l,hf,hn=>by
  rw[Zcx]at hn;rw[Zbo,Zcx];refine⟨fun h=>?_,z8K (fun x hx y hy=>hf x (by simp[hx]) y (by simp[hy])) hn.2⟩;obtain⟨b,hb,e⟩:=Zat.1 h;rw[hf b (by simp[hb]) a (by simp) e]at hb;exact hn.1 hb
theorem j2K{q:List (Int×Int)}(h:okQ q):(posQ q).Nodup:=by
 have h1:((q.filter fun p=>decide (0≤p.2)).map Prod.fst).Nodup:=h.1.sublist (List.filter_sublist.map _);have h2:posQ q=((q.filter fun p=>decide (0≤p.2)).map Prod.fst).map Int.toNat:=by rw[posQ,List.map_map];rfl
 rw[h2];refine z8K (fun a ha b hb e=>?_) h1;obtain⟨x,hx,rfl⟩:=Zat.1 ha;obtain⟨y,hy,rfl⟩:=Zat.1 hb;have h3:=h.2 x (Zcd.1 hx).1;have h4:=h.2 y (Zcd.1 hy).1;omega
theorem z8g(q:List (Int×Int)):rise (kepG q):=List.Pairwise.filter _ (List.pairwise_lt_range' ..)
theorem j6j{q:List (Int×Int)}(h:okQ q){V:List Nat}(hV:V.Perm (posQ q)):srtN V=kepG q:=by
 have hn:=j2K h;rw[j8O hV hn];refine z4J (z4T hn) (z8g q) ((z1J _).trans ?_);have hk:(kepG q).Nodup:=List.Pairwise.imp (fun h=>Nat.ne_of_lt h) (z8g q);refine(List.perm_ext_iff_of_nodup hn hk).2 fun n=>?_
 rw[j6R h,kepG,Zcd,List.mem_range'_1];constructor
 ·rintro⟨h1,h2,h3⟩;exact⟨by omega,h3⟩
 ·rintro⟨h1,h3⟩;exact⟨by omega,by omega,h3⟩
/-! ### Walks -/
def prI(q:List (Int×Int)):List (D×D):=q.map fun p=>(.int .i64 p.1,.int .i64 p.2)
theorem j8Y(q:List (Int×Int)):(ksI q).zip (vsI q)=prI q:=by
 induction q with
 |nil=>rfl
 |cons p r ih=>simp only[ksI,vsI,prI,Zbo,List.zip_cons_cons]at ih ⊢;rw[ih]
theorem j8B{q:List (Int×Int)}{i:Nat}{k v:D}(h:(prI q)[i]?=some (k,v)):∃p,q[i]?=some p∧k=.int .i64 p.1∧v=.int .i64 p.2:=by
 rw[prI,Zan]at h;cases hx:q[i]? with
 |none=>rw[hx]at h;cases h
 |some p=>rw[hx]at h;cases h;exact⟨p,rfl,rfl,rfl⟩
theorem z8U:∀(q:List (Int×Int)) (i:Nat),(prI q).eraseIdx i=prI (q.eraseIdx i)
 |[],i=>rfl
 |p::r,0=>rfl
 |p::r,i+1=>by
  have:=z8U r i;simp only[prI,Zbo,List.eraseIdx_cons_succ]at this ⊢;rw[this]
theorem z96:z2l Tryz.prog 3=true:=by kernel_rfl
def rwS(r:Nat):List Nat→Nat→AV
 |[],_=>.ns
 |_::l,c=>.rs (.l r) (l.length+1) c
def rwL(r:Nat):List Nat→Nat→List (Nat×AObj)
 |[],_=>[]
 |x::l,c=>[(r,.cells (rowN (x::l) c))]
theorem q7r.mc1r{P:Program}[Inv P]{σ:St}{dst:Option Nat}{g:Nat}{args:List LX}{K:St→Prop}{xs:List AV}{h0 k0:AObj}{ret:AV}(r0:Ref)(hc:q1r P g xs [h0] ret [k0])(hx:q7o [] 0 (evL σ args)=renL [r0] xs)(hwx:wfAL [] 1 0 xs=true)
  (o0:σ.obj r0=some h0) (d:rowO h0=true∧rowO k0=true) (hret:z2h 1 ret=true) (hK:K (retO ((σ.j11 [r0]).setObj r0 k0) dst [r0] ret)):q7r P dst g args K σ:=by
 refine q7r.q0C [r0] [] hc hx hwx ⟨by rw[z7i d.1];exact o0,trivial⟩ (by simp[wfO,j41 d.1]) rfl rfl fun r hs' hp _=>?_
 obtain⟨rfl,rfl⟩:=hp;have e:q5I (q0z σ (q3e [])) [r0] [k0]=(σ.j11 [r0]).setObj r0 k0:=by
  simp[q5I,q5f,q3e,q0z,z7i d.2,St.j11]
 rw[e];exact⟨⟨hret,by simp[q6m,j41 d.2,z7i d.2,j2P d.2]⟩,hK⟩
theorem q7r.mc0{P:Program}[Inv P]{σ:St}{dst:Option Nat}{g:Nat}{args:List LX}{K:St→Prop}{xs:List AV}{ret:AV}(hc:q1r P g xs [] ret [])(hx:q7o [] 0 (evL σ args)=renL [] xs)(hwx:wfAL [] 0 0 xs=true)
  (hret:z2h 0 ret=true) (hK:K (retO (q5I (q0z σ (q3e [])) [] []) dst [] ret)):q7r P dst g args K σ:=by
 refine q7r.q0C [] [] hc hx hwx trivial rfl rfl rfl fun r hs' hp _=>?_
 obtain⟨rfl,rfl⟩:=hp;exact⟨⟨hret,rfl⟩,hK⟩
def q4B:q0g:=
 Qr [⟨some 2,.nils 3 1,none⟩] (.seq (.alt [([],⟨some 3,.nils 3 1,none⟩)] []) (.seq (Qr [Qc 6 0,Qn 7 6,Qf 8 1 7,Ql 9 8,⟨some 10,.prim (.range 51) [.t 9] [],none⟩] (.block 
 0 (.loop (Qr [⟨some 11,.prim (.next false 0) [.t 10] [],none⟩,Qe 12 0 11] (.seq (.cond (.t 12) .skip (.exit 0)) (.block 1 (Qr [⟨some 13,.prim .entry [.t 10] [],none⟩,Qe 14 
 0 13,Qe 15 1 13,Qa 4 14,Qa 5 15] (Qr [Qc 16 5,Qk 17 .geq 16 0] (.cond (.t 17) (.alt [([Qc 18 3,Qc 19 4,⟨some 20,.bsl 3 1 [.t 19],none⟩],⟨some 21,.app 3 1 8 false (.t 
 18) (.t 20),none⟩)] [Qa 3 21]) .skip))))))))) (Qr [Qc 22 3,Qj 23 51 [22]] (.seq (.alt [([],Qc 24 3)] [Qa 2 24]) .ret))))
def q4Q:List LRes:=[.tmp 2]
theorem q68:q0n Tryz.prog 24 25 q4B q4Q:=⟨_,_,Tryz.func24,rfl,by kernel_rfl,by kernel_rfl,rfl⟩
theorem z8L(s:List UInt8)(q:List (Int×Int))(v:Val)(hq:okQ q):
  q0i Tryz.prog 24 [filD s q v] (fun r=>r=.one (.list (nsD (kepG q)))):=by
 have hl:=j8q hq;refine q68.call rfl ?_;simp(maxSteps:=2000000)only[go_sem,↓reduceIte,q4B,q4Q,filD,filP];refine q2C.nils ?_;simp(maxSteps:=2000000)only[go_sem,↓reduceIte,mapI];refine q0e.rangeMap rfl z4q ?_;rw[j8Y];simp(maxSteps:=2000000)only[go_sem,↓reduceIte];refine q0f (fun y:List Nat×Nat×List (Int×Int)×List (D×D)=>⟨[(3,rwS 21 y.1 y.2.1),(10,.ptr (.l 10) 0)],(10,.miter (prI y.2.2.1) y.2.2.2)::rwL 21 y.1 y.2.1,[]⟩)
  (fun y=>(y.1++posQ y.2.2.1).Perm (posQ q)∧(y.1=[]∨y.1.length≤y.2.1∧y.2.1≤maxLen)∧∀p∈y.2.2.1,p∈q) (fun y=>y.2.2.1.length) ([],0,q,[]) ?_ ⟨List.Perm.refl _,.inl rfl,fun p h=>h⟩ ?_
 ·refine Weak.mk ?_ ?_ ?_<;>simp(maxSteps:=2000000)only[go_sem,↓reduceIte,Sub,Zaa,Zab,rwS,rwL,mapI]
 ·rintro⟨V,c,lp,cur⟩ ⟨hP,hc,hin⟩;simp only at hP hc hin;have hVl:V.length≤1000:=by
   have:=hP.length_eq;have h2:(posQ q).length≤q.length:=by rw[posQ,Zbn];exact List.length_filter_le _ _
   rw[Zad]at this;omega
  simp(maxSteps:=2000000)only[go_sem,↓reduceIte];refine q0e.j0h rfl rfl (fun h0=>?_) (fun i k w hik=>?_)
  ·have hlp:lp=[]:=by cases lp with|nil=>rfl|cons a r=>cases h0
   subst hlp;rw[show posQ []=[]from rfl,Zdi]at hP;have hsrt:=j6j hq hP;cases hO:V with
   |nil=>
    have hs:rwS 21 ([]:List Nat) c=.ns:=rfl;have hb:rwL 21 ([]:List Nat) c=[]:=rfl;have hq0:kepG q=[]:=by rw[←hsrt,hO];exact Zbl (by rw[q63];rfl)
    rw[hq0];simp(maxSteps:=2000000)(disch:=omega)only[go_sem,↓reduceIte,hs,hb];refine q0c.j5J (q7r.mc0 z7p rfl rfl rfl ?_);simp(maxSteps:=2000000)only[go_sem,↓reduceIte];refine q2C.step rfl (fun _ _ _ h=>by cases h) rfl ?_;simp(maxSteps:=2000000)only[go_sem,↓reduceIte,nsD,Zbs]
   |cons x r=>
    rw[←hO];have hs:rwS 21 V c=.rs (.l 21) V.length c:=by rw[hO];rfl
    have hb:rwL 21 V c=[(21,.cells (rowN V c))]:=by rw[hO];rfl
    have hc':=hc.resolve_left (by rw[hO];simp);simp(maxSteps:=2000000)(disch:=omega)only[go_sem,↓reduceIte,hs,hb];refine q0c.j5J (q7r.mc1r (.l 21) (z9h V c (by omega) hc'.1) rfl rfl rfl ⟨z1A _ _,z1A _ _⟩ rfl ?_);rw[hsrt];have hkl:(kepG q).length=V.length:=by rw[←hsrt,q63]
    generalize kepG q=K at *;rw[←hkl]at hc' hVl ⊢;clear hs hb hO hP hsrt hkl;simp(maxSteps:=2000000)only[go_sem,↓reduceIte];refine q2C.ghost (q2C.step rfl (fun _ _ _ h=>by cases h) rfl ?_);refine⟨⟨[(24,.d (.list (nsD K)))],[],[]⟩,Gh.trans (Gh.frzL (a:=21) (sz:=1) (fs:=nsD K) (c:=c) ?_ (fun y hy=>by rw[j4B K y hy];rfl) (by rw[q9n];omega)) (Gh.wk ⟨fun t x hx=>?_,fun r ob h=>by cases r<;>cases h⟩),?_⟩
    ·rw[j4X (j4B K),←j8m];rfl
    ·simp only[aget]at hx;split at hx
     ·rename_i e;subst e;cases hx;rw[St.j9W (x:=.rs (.l 21) K.length c) rfl];simp[AV.frzL,q9n]
     ·cases hx
    ·simp(maxSteps:=2000000)only[go_sem,↓reduceIte]
  ·obtain⟨p,hpi,rfl,rfl⟩:=j8B hik;rw[z8U];have hle:=(Zac.1 hpi).1;have hin':∀p∈lp.eraseIdx i,p∈q:=fun p h=>hin p (List.mem_of_mem_eraseIdx h)
   obtain⟨n,hn⟩:∃n:Nat,p.1=n:=⟨p.1.toNat,by have:=hq.2 p (hin p (Zaf hpi));omega⟩;simp(maxSteps:=2000000)only[go_sem,↓reduceIte];refine q0e.j07 rfl rfl ?_;rw[hn];have hlen:(lp.eraseIdx i).length<lp.length:=by rw[List.length_eraseIdx];split<;>omega
   by_cases hv:0≤p.2
   ·have hP':((V++[n])++posQ (lp.eraseIdx i)).Perm (posQ q):=by
     refine List.Perm.trans ?_ hP;have:=j6S hpi hv;rw[hn,Zbw]at this;rw[List.append_assoc];exact this.append_left V
    have z0:(0≤p.2)=True:=eq_true hv;cases hO:V with
    |nil=>
     have hs:rwS 21 ([]:List Nat) c=.ns:=rfl;have hb:rwL 21 ([]:List Nat) c=[]:=rfl;rw[hO]at hP';simp(maxSteps:=2000000)(disch:=omega)only[go_sem,↓reduceIte,hs,hb,z0];refine q2C.app1 (r:=21) (c:=0) (cs:=nsA []) z96 (.inl ⟨rfl,rfl⟩) (Src1.own rfl) (j4z [] 21) (j37 _ _) (by simp[nsA,maxLen]) (fun c' h1 h2=>?_);rw[z4K];simp(maxSteps:=2000000)(disch:=omega)only[go_sem,↓reduceIte];refine⟨([]++[n],c',lp.eraseIdx i,[(.int .i64 (n:Int),.int .i64 p.2)]),?_,⟨hP',.inr ⟨h1,h2⟩,hin'⟩,hlen⟩
     refine Weak.mk ?_ ?_ ?_<;>simp(maxSteps:=2000000)only[go_sem,↓reduceIte,Sub,Zaa,Zab,rwS,rwL,nsA,Zbs]
    |cons x r=>
     have hs:rwS 21 (x::r) c=.rs (.l 21) (r.length+1) c:=rfl;have hb:rwL 21 (x::r) c=[(21,.cells (rowN (x::r) c))]:=rfl;rw[hO]at hP' hc hVl;have hc':=hc.resolve_left (by simp);simp(maxSteps:=2000000)(disch:=omega)only[go_sem,↓reduceIte,hs,hb,z0];simp only[Zae]at hVl hc';refine q2C.app1 (r:=21) (c:=c) (cs:=nsA (x::r)) z96 (.inr ⟨by rw[q6D];rfl,rfl,by rw[q6D];exact hc'.1,hc'.2⟩) (Src1.own rfl) (j4z _ 21) (j37 _ _) (by rw[q6D];simp only[maxLen,Zae];omega) (fun c' h1 h2=>?_)
     rw[z4K];rw[q6D]at h1 ⊢;simp(maxSteps:=2000000)(disch:=omega)only[go_sem,↓reduceIte];refine⟨((x::r)++[n],c',lp.eraseIdx i,[(.int .i64 (n:Int),.int .i64 p.2)]),?_,⟨hP',.inr ⟨by simpa using h1,h2⟩,hin'⟩,hlen⟩;refine Weak.mk ?_ ?_ ?_<;>simp(maxSteps:=2000000)only[go_sem,↓reduceIte,Sub,Zaa,Zab,rwS,rwL,Zad]
   ·have hP':(V++posQ (lp.eraseIdx i)).Perm (posQ q):=((j8A hpi hv).append_left V).trans hP;have z0:(0≤p.2)=False:=eq_false hv;simp(maxSteps:=2000000)(disch:=omega)only[go_sem,↓reduceIte,z0];refine⟨(V,c,lp.eraseIdx i,[(.int .i64 (n:Int),.int .i64 p.2)]),?_,⟨hP',hc,hin'⟩,hlen⟩;cases V <;>
    ·refine Weak.mk ?_ ?_ ?_<;>simp(maxSteps:=2000000)only[go_sem,↓reduceIte,Sub,Zaa,Zab,rwS,rwL]
def rotR(v:Val):Int×Nat:=match getV rotN v.f with
 |none=>(0,6)
 |some p=>if p.kind=7 then(p.n,0)else(0,8)
theorem e6:errD 6=.iface 49 (.int .i64 6):=q0Q (by decide)
def q6b:q0g:=
 Qr [Qx 2 (Ki 0),Qx 3 (.k (.d .nil))] (Qr [Qc 7 0,Qn 8 7,Qf 9 2 8,Qm 10 5 9,⟨some 11,.call 18 [.t 10,.k (.d (.str [82,111,111,116]))],none⟩,Qc 6 11,Qe 12 0 6,Qe 13 1 
 6,Qv 4,Qs 5 4 12,Qa 5 13] (.seq (Qr [Qc 14 5,Qh 15 14] (.cond (.t 15) (Qr [Q 16 (.mkI 49 (Ki 6)),Qx 2 (Ki 0),Qa 3 16] .ret) .skip)) (.seq (Qr [Qf 17 0 4,Ql 18 17,Qk 19 
 .neq 18 7] (.cond (.t 19) (Qr [Q 20 (.mkI 49 (Ki 8)),Qx 2 (Ki 0),Qa 3 20] .ret) .skip)) (Qr [Qf 21 1 4,Ql 22 21,Qa 2 22,Qx 3 (.k (.d .nil))] .ret))))
def q6g:List LRes:=[.tmp 2,.tmp 3]
theorem q8E:q0n Tryz.prog 12 23 q6b q6g:=⟨_,_,Tryz.func12,rfl,by kernel_rfl,by kernel_rfl,rfl⟩
theorem z86(s:List UInt8)(q:List (Int×Int))(v:Val)(hf:v.f.length≤1048576):
  q0i Tryz.prog 12 [filD s q v] (fun r=>r=.tup [.int .i64 (rotR v).1,errD (rotR v).2]):=by
 have g:=q87 v rotN hf;rw[Val.d_eq v]at g;unfold rotR;refine q8E.call rfl ?_;simp(maxSteps:=2000000)only[go_sem,↓reduceIte,q6b,q6g,filD,filP];refine q0c.of g ?_;cases hg:getV rotN v.f with
 |none=>
  simp only[getR,Zcj,Zbu,q04,e6];simp(maxSteps:=2000000)only[go_sem,↓reduceIte]
 |some p=>
  simp only[getR,Zbd,Zcb];rw[Val.d_eq p]
  by_cases hk:p.kind=7
  ·have k:(p.kind=7)=True:=eq_true hk;simp only[k,if_true];simp(maxSteps:=2000000)only[go_sem,↓reduceIte,k,errD]
  ·have k:(p.kind=7)=False:=eq_false hk;simp only[k,if_false,e8];simp(maxSteps:=2000000)only[go_sem,↓reduceIte,k]
theorem j1p(s:List UInt8)(q:List (Int×Int))(v:Val)(last:Int){i:Int}(h:0≤i∧i<61):(((modP s q v last).drop 1).drop (i.toNat * 1))[0]?=some (.int .i64 (arrV (lkI q i))):=by
 rw[List.drop_drop,Zbx,show 1+i.toNat * 1+0=i.toNat+1 by omega,modP,List.getElem?_cons_succ,Zaj (by rw[q6T];omega),z3i _ (by omega),Int.toNat_of_nonneg h.1]
theorem z65(s:List UInt8)(q:List (Int×Int))(v:Val)(last:Int):(modP s q v last).length=68:=by simp[modP,q6T]
theorem j8k(s:List UInt8)(q:List (Int×Int))(v:Val)(last:Int):(modP s q v last).drop 62=[.int .i64 v.kind,.int .i64 v.n,.str v.s,.list (q0m v.l),.list (q0k v.f),.int .i64 last]:=rfl
theorem j7N{q:List (Int×Int)}{n:Nat}:(0<arrV (lkI q n))=(isQ q n=true):=by
 unfold isQ arrV;cases lkI q n with
 |none=>simp
 |some v=>simp only[decide_eq_true_eq,eq_iff_iff];split<;>omega
def q2b:q0g:=
 Qr [⟨some 2,.nils 3 1,none⟩] (Qr [⟨some 3,.nils 3 1,none⟩] (.seq (Qr [Qx 4 (Ki 1)] (.block 0 (.loop (.seq (Qr [Qc 5 4,Qk 6 .leq 5 60] (.cond (.t 6) .skip (.exit 0))) (.seq 
 (.block 1 (Qr [Qc 9 0,Qc 10 4,Qn 11 9,Qf 12 1 11,Q 13 (.iaA 61 1 (.t 12) (.t 10)),Ql 14 13,Qk 15 .gtr 14 0] (.cond (.t 15) (.reg [Qc 16 3,Qc 17 4,⟨some 18,.bsl 3 1 [.t 
 17],none⟩,⟨some 19,.app 3 1 8 false (.t 16) (.t 18),none⟩,Qa 3 19]) .skip))) (.reg [Qc 7 4,Qk 8 .add 7 1,Qa 4 8])))))) (Qr [Qc 20 3,Qa 2 20] .ret)))
def q2g:List LRes:=[.tmp 2]
theorem q3H:q0n Tryz.prog 25 21 q2b q2g:=⟨_,_,Tryz.func25,rfl,by kernel_rfl,by kernel_rfl,rfl⟩
theorem z7g(s:List UInt8)(q:List (Int×Int))(v:Val)(last:Int):
  q0i Tryz.prog 25 [modD s q v last] (fun r=>r=.one (.list (nsD (kepG q)))):=by
 have hml:=z65 s q v last;refine q3H.call rfl ?_;simp(maxSteps:=2000000)only[go_sem,↓reduceIte,q2b,q2g,modD];refine q0f (fun i:Nat=>⟨[(0,.d (.pto (modP s q v last))),(3,.own (.t 3) 3 1 (nsD ((List.range' 1 i).filter (isQ q)))),(4,.d (.int .i64 ((i:Int)+1)))],[],[]⟩)
  (fun i=>i≤60) (fun i=>60-i) 0 ?_ (Zay _) ?_
 ·refine Weak.mk ?_ ?_ ?_<;>simp(maxSteps:=2000000)only[go_sem,↓reduceIte,Sub,Zaa,Zab,nsD,List.range'_zero,List.filter_nil,Zbs]
 ·intro i hi;have hlen:((List.range' 1 i).filter (isQ q)).length≤60:=Zbr (List.length_filter_le _ _) (by rw[List.length_range'];exact hi);have hr:(List.range' 1 (i+1)).filter (isQ q)=(List.range' 1 i).filter (isQ q)++(if isQ q (i+1)=true then[i+1]else[]):=by
   rw[List.range'_concat,List.filter_append,Nat.one_mul,Nat.add_comm 1 i];congr 1
   by_cases h:isQ q (i+1)=true
   ·rw[List.filter_cons_of_pos h,if_pos h];rfl
   ·rw[List.filter_cons_of_neg h,if_neg h];rfl
  simp(maxSteps:=2000000)only[go_sem,↓reduceIte];refine⟨fun h=>?_,fun h=>?_⟩
  ·have hg:=j1p s q v last (i:=(i:Int)+1) (by omega);have hp:=j7N (q:=q) (n:=i+1);rw[show((i+1:Nat):Int)=(i:Int)+1 by omega]at hp;have y1:(0≤(i:Int)+1)=True:=eq_true (by omega);have y2:((i:Int)+1<61)=True:=eq_true (by omega);simp(maxSteps:=2000000)(disch:=omega)only[go_sem,↓reduceIte,hg,hp,y1,y2,hml,Zau];rw[q9n];refine⟨by omega,fun e=>⟨⟨by omega,by omega⟩,i+1,?_,by omega,by omega⟩,fun e=>⟨i+1,?_,by omega,by omega⟩⟩
   ·have hs:nsD ((List.range' 1 (i+1)).filter (isQ q))=nsD ((List.range' 1 i).filter (isQ q))++[.int .i64 ((i:Int)+1)]:=by rw[hr,if_pos e];simp[nsD]
    refine Weak.mk ?_ ?_ ?_<;>simp(maxSteps:=2000000)only[go_sem,↓reduceIte,Sub,Zaa,Zab,hs,Zaa,Zbz]
   ·have hs:(List.range' 1 (i+1)).filter (isQ q)=(List.range' 1 i).filter (isQ q):=by rw[hr,if_neg (by simp[e]),Zdi]
    refine Weak.mk ?_ ?_ ?_<;>simp(maxSteps:=2000000)only[go_sem,↓reduceIte,Sub,Zaa,Zab,hs,Zaa,Zbz]
  ·have e:i=60:=by omega
   subst e;simp(maxSteps:=2000000)only[go_sem,↓reduceIte,kepG]
def q2E:q0g:=
 Qr [Qx 2 (Ki 0),Qx 3 (Ki 0)] (Qr [Qc 7 0,Qn 8 7,Qf 9 62 8,Qm 10 5 9,⟨some 11,.call 21 [.t 10,.k (.d (.str [82,111,111,116]))],none⟩,Qc 6 11,Qe 12 0 6,Qe 13 1 6,Qv 4, 
 Qs 5 4 12,Qa 5 13] (.seq (Qr [Qc 14 5,Qh 15 14] (.cond (.t 15) (Qr [Qx 2 (Ki 0),Qx 3 (Ki 6)] .ret) .skip)) (.seq (Qr [Qf 16 0 4,Ql 17 16,Qk 18 .neq 17 7] (.cond (.t 18) (Qr 
 [Qx 2 (Ki 0),Qx 3 (Ki 8)] .ret) .skip)) (Qr [Qf 19 1 4,Ql 20 19,Qa 2 20,Qx 3 (Ki 0)] .ret))))
def q2G:List LRes:=[.tmp 2,.tmp 3]
theorem q4z:q0n Tryz.prog 22 21 q2E q2G:=⟨_,_,Tryz.func22,rfl,by kernel_rfl,by kernel_rfl,rfl⟩
theorem j2Q(s:List UInt8)(q:List (Int×Int))(v:Val)(last:Int)(hf:v.f.length≤1048576):
  q0i Tryz.prog 22 [modD s q v last] (fun r=>r=.tup [.int .i64 (rotR v).1,.int .i64 (rotR v).2]):=by
 have g:=q88 v rotN hf;have hml:=z65 s q v last;rw[Val.d_eq v]at g;unfold rotR;refine q4z.call rfl ?_;simp(maxSteps:=2000000)only[go_sem,↓reduceIte,q2E,q2G,modD,j8k,hml];refine q0c.of g ?_;cases hg:getV rotN v.f with
 |none=>
  simp only[getR,Zcj,Zbu,q04];simp(maxSteps:=2000000)only[go_sem,↓reduceIte]
 |some p=>
  simp only[getR,Zbd,Zcb];rw[Val.d_eq p]
  by_cases hk:p.kind=7
  ·have k:(p.kind=7)=True:=eq_true hk;simp only[k,if_true];simp(maxSteps:=2000000)only[go_sem,↓reduceIte,k]
  ·have k:(p.kind=7)=False:=eq_false hk;simp only[k,if_false];simp(maxSteps:=2000000)only[go_sem,↓reduceIte,k]
def SubJ:List (Nat×AV)→List (Nat×AV)→Prop
 |[],_=>True
 |(s,x)::r,l=>(x=.junk∨aget l s=some x)∧SubJ r l
theorem SubJ.get:∀{l m:List (Nat×AV)},SubJ l m→∀{s:Nat} {x:AV},aget l s=some x→x=.junk∨aget m s=some x
 |[],_,_,s,x,hx=>by cases hx
 |(k,v)::r,m,h,s,x,hx=>by
  simp only[aget]at hx;split at hx
  ·rename_i e;cases hx;rw[←e];exact h.1
  ·exact SubJ.get h.2 hx
theorem GhoB.jnk{b0:Nat→Nat}{σ τ:St}(h1:SubJ τ.ρ σ.ρ)(h2:Sub τ.L σ.L)(h3:Sub τ.H σ.H):GhoB b0 σ τ:=fun E n G ts w e h=>⟨G,by
 have hw:Wk ⟨σ.ρ,τ.L,τ.H⟩ σ:=⟨fun _ _ h=>h,fun r o ho=>by
  cases r with
  |l s=>exact h2.get ho
  |x s=>exact h3.get ho⟩
 have g:=h.wk hw;have hsl:∀s x,aget τ.ρ s=some x→AVR G w x (ts.getD s undef):=fun s x hx=>by
  rcases h1.get hx with h5|h5
  ·rw[h5];exact .junk _
  ·exact g.slot s x h5
 exact{ g with slot:=hsl }⟩
theorem j63{P:Program}[Inv P]{l:List q0b}{deps:List (List Nat)}{k:List Item}{K:Exit→St→Prop}{σ:St}(S:(Nat→Bool)→St)(h0:SubJ (S fun _=>false).ρ σ.ρ∧Sub (S fun _=>false).L σ.L∧Sub (S fun _=>false).H σ.H)(hg:∀x∈l,x.guard=none)
  (h1:∀(done:Nat→Bool) (i:Nat) (x:q0b),l[i]?=some x→(∀j∈deps.getD i [],done j=true)→OPS P [x] [.goal fun τ=>Weak (S fun k=>k==i || done k) τ] (fun _ _=>False) (S done))
  (h2:∀done:Nat→Bool,(∀i,i<l.length→done i=true)→POP P .normal k K (S done)):RUN P (.fam l deps) k K σ:=by
 show FamW P l deps (POP P .normal k K) σ
 intro b0;refine⟨fun done τ=>Wk (S done) τ,⟨S fun _=>false,GhoB.jnk h0.1 h0.2.1 h0.2.2,Wk.refl _⟩,fun done τ i x hI hx hd hj=>⟨S done,GhoB.wk hI,.inl ?_⟩,fun done τ ha hI=>⟨S done,GhoB.wk hI,h2 done ha⟩⟩;have h:=h1 done i x hx hj;have hgx:=hg x (Zaf hx);unfold LOps;rw[hgx];have h':q6I P [x] (fun τ=>Wk (S fun k=>k==i || done k) τ) (S done):=q39 (fun τ (g:Weak _ τ)=>g.wk) h;unfold q6I at h';rw[hgx]at h';exact h'
def nbd(b:Bool)(x y:AV):AV:=if b=true then x else y
theorem q8K(x y:AV):nbd true x y=x:=rfl
theorem j95(x y:AV):nbd false x y=y:=rfl
def strS(s:List UInt8)(q:List (Int×Int))(tv v:Val)(n a b:Int)(data:List UInt8)(done:Nat→Bool):St:=
 ⟨[(0,.d (.pto (filP s q tv))),(2,.d (.int .i64 a)),(10,.d (.int .i64 b)),(4,.ptr (.l 4) 0),(6,.ptr (.l 6) 0),
  (95,nbd (done 0) (.d (.pto (filP s q tv))) .junk),(96,nbd (done 1) (.dptr (filP s q tv)) .junk),(97,nbd (done 2) (.dptr (filP s q tv)) .junk),(98,nbd (done 3) (.d (.str s)) .junk),
  (99,nbd (done 4) (.d (.int .i64 a)) .junk),(100,nbd (done 5) (.d (.int .i64 b)) .junk),(101,nbd (done 6) (.d (.str data)) .junk),(102,nbd (done 7) (.ptr (.l 4) 6) .junk),(103,nbd (done 9) (.ptr (.l 4) 7) .junk)],
  [(4,.cells [.d (.int .i64 n),.d (.int .i64 v.kind),.d (.int .i64 v.n),.d (.str v.s),.d (.list (q0m v.l)),.d (.list (q0k v.f)),nbd (done 8) (.d (.bool true)) (.d (.bool false)),nbd (done 10) (.d (.str data)) (.d (.str []))]),
  (6,.cells [.d (.int .i64 0),.d (.int .i64 0),.d (.int .i64 0),.d (.str []),.ns,.ns,.d (.bool false),.d (.str [])])],[]⟩
def objR(p:Nat×ObG):Res:=.tup [p.2.d,errD p.1]
theorem j1x(e:Nat)(he:e≠0):objR (e,q9A)=.tup [.agg [.int .i64 0,.int .i64 0,.int .i64 0,.str [],.list [],.list [],.bool false,.str []],.iface 49 (.int .i64 e)]:=by rw[objR,q0Q he];rfl
def q5k:q0g:=
 Qr [⟨some 4,.box (.t 1),none⟩,Qw 6,Qx 7 (.k (.d .nil))] (Qr [Qf 12 1 4,Qm 13 5 12,⟨some 14,.call 18 [.t 13,.k (.d (.str [76,101,110,103,116,104]))],none⟩,Qc 11 14, 
 Qe 15 0 11,Qe 16 1 11,Qv 8,Qs 5 8 15,Qa 9 16] (.seq (Qr [Qc 17 9,Qh 18 17,Qc 19 18,Qg 20 (.fa 0 (.t 8)) 19 false,Qg 21 (.ld false 1 (.t 20)) 19 false,Qg 22 (.bin .neq 
 (.t 21) (Ki 2)) 19 false,Qo 23 19 22,Qc 24 23,Qg 25 (.fa 1 (.t 8)) 24 false,Qg 26 (.ld false 1 (.t 25)) 24 false,Qg 27 (.bin .lss (.t 26) (Ki 0)) 24 false,Qo 28 24 27,Qc 
 29 28,Qg 30 (.fa 1 (.t 8)) 29 false,Qg 31 (.ld false 1 (.t 30)) 29 false,Qg 32 (.bin .rem (.t 31) (Ki 1000)) 29 false,Qg 33 (.bin .neq (.t 32) (Ki 0)) 29 false,Qo 34 29 33] 
 (.cond (.t 34) (Qr [Qu 35,Q 36 (.mkI 49 (Ki 8)),Qs 8 6 35,Qa 7 36] .ret) .skip)) (.seq (Qr [Qc 37 2,Qc 38 0,Qn 39 38,Qf 40 0 39,Ql 41 40,Qz 42 true 41,Qb 43 .lss 37 42, 
 Qc 44 43,Qd 45 0 44 true,Qg 46 (.nck (.t 45)) 44 true,Qg 47 (.fa 0 (.t 46)) 44 true,Qg 48 (.ld false 1 (.t 47)) 44 true,Qd 49 2 44 true,Qg 50 (.idxS (.t 48) (.t 49)) 44 
 true,Qg 51 (.bin .eql (.t 50) (Kb 13)) 44 true,Qp 52 44 51] (.cond (.t 52) (.reg [Qc 53 2,Qk 54 .add 53 1,Qa 2 54]) .skip)) (.seq (Qr [Qc 55 2,Qc 56 0,Qn 57 56,Qf 58 0 57, 
 Ql 59 58,Qz 60 true 59,Qb 61 .geq 55 60,Qc 62 61,Qd 63 0 62 false,Qg 64 (.nck (.t 63)) 62 false,Qg 65 (.fa 0 (.t 64)) 62 false,Qg 66 (.ld false 1 (.t 65)) 62 false,Qd 67 
 2 62 false,Qg 68 (.idxS (.t 66) (.t 67)) 62 false,Qg 69 (.bin .neq (.t 68) (Kb 10)) 62 false,Qo 70 62 69] (.cond (.t 70) (Qr [Qu 71,Q 72 (.mkI 49 (Ki 4)),Qs 8 6 71,Qa 7 72] 
 .ret) .skip)) (Qr [Qc 73 2,Qk 74 .add 73 1,Qa 2 74] (Qr [Qc 75 2,Qf 76 1 8,Ql 77 76,Qk 78 .quo 77 1000,Qb 79 .add 75 78,Qa 10 79] (.seq (Qr [Qc 80 10,Qc 81 0,Qn 82 81, 
 Qf 83 0 82,Ql 84 83,Qz 85 true 84,Qb 86 .gtr 80 85] (.cond (.t 86) (Qr [Qu 87,Q 88 (.mkI 49 (Ki 5)),Qs 8 6 87,Qa 7 88] .ret) .skip)) (.seq (Qr [Qc 89 10,Qc 90 2,Qb 91 
 .sub 89 90,Qk 92 .gtr 91 20000] (.cond (.t 92) (Qr [Qu 93,Q 94 (.mkI 49 (Ki 2)),Qs 8 6 93,Qa 7 94] .ret) .skip)) (.seq (.fam [Qc 95 0,Qn 96 95,Qf 97 0 96,Ql 98 97,Qc 99 
 2,Qc 100 10,Q 101 (.subS (.t 98) (some (.t 99)) (some (.t 100))),Qf 102 6 4,⟨none,.st 1 (.t 102) KT,none⟩,Qf 103 7 4,Qs 1 103 101] [[],[0],[1],[2],[],[],[3,4,5], 
 [],[7],[0,1,2,3,4,5,6,7,8],[9,6,8,0,1,2,3,4,5,6,7,8]]) (.seq (.seq (.dreg [Qc 104 0,Qn 105 104,Qf 106 0 105,Ql 107 106,Qc 108 0,Qn 109 108,Qf 110 0 
 109,Ql 111 110,Qc 112 10,Qj 113 38 [111,112],Qj 114 39 [107,113],Q 115 (.bin .neq (.t 114) (.k (.d (.str [101,110,100,115,116,114,101,97,109]))))]) (.cond (.t 115) 
 (Qr [Qu 116,Q 117 (.mkI 49 (Ki 4)),Qs 8 6 116,Qa 7 117] .ret) .skip)) (Qr [Qm 118 8 4,Qs 8 6 118,Qx 7 (.k (.d .nil))] .ret)))))))))))
def q5r:List LRes:=[.cell 6 true 8,.tmp 7]
theorem q7I:q0n Tryz.prog 41 119 q5k q5r:=⟨_,_,Tryz.func41,rfl,by kernel_rfl,by kernel_rfl,rfl⟩
theorem j0M{s:List UInt8}{q:List (Int×Int)}{tv v:Val}{n:Int}{k:Nat}(hk:k≤s.length)(hs:s.length≤60000)(hf:v.f.length≤1048576)(hwv:q1F v=true):
  q0i Tryz.prog 41 [filD s q tv,(ObG.mk n v false []).d,.int .i64 k] (fun r=>r=objR (strG s n v k)):=by
 have g:=q87 v lenN hf;rw[Val.d_eq v]at g;generalize hR:strG s n v k=R;unfold strG at hR;have bad:∀e,e≠0→(e,q9A)=R→Res.tup [.agg [.int .i64 0,.int .i64 0,.int .i64 0,.str [],.list [],.list [],.bool false,.str []],.iface 49 (.int .i64 (e:Int))]=objR R:=fun e he h=>by rw[←h,j1x e he]
 refine q7I.call rfl ?_;simp(maxSteps:=2000000)only[go_sem,↓reduceIte,q5k,q5r,filD,filP,ObG.d];refine q0c.of g ?_;cases hg:getV lenN v.f with
 |none=>
  rw[hg]at hR;simp only[getR,Zcj,Zbu,q04];simp(maxSteps:=2000000)only[go_sem,↓reduceIte];exact bad 8 (by decide) hR
 |some p=>
  rw[hg]at hR;simp only[getR,Zbd,Zcb];rw[Val.d_eq p];simp only at hR
  by_cases hp:natG p
  ·rw[if_pos hp]at hR;have p1:(p.kind=2)=True:=eq_true hp.1;have p2:(p.n<0)=False:=eq_false (by have:=hp.2.1;omega);have p3:(p.n.tmod 1000=0)=True:=eq_true hp.2.2;obtain⟨j,hj,hjl⟩:=z3p hp (z3y hwv hg);rw[hj,Zbw]at hR;obtain⟨k1,e1⟩:∃k1,(if s[k]?=some 13 then k+1 else k)=k1:=⟨_,rfl⟩;rw[e1]at hR;have z7:(((10:UInt8).toNat:Int)=10)=True:=eq_true (by decide)
   by_cases hlt:k<s.length
   ·have y1:((k:Int)<(s.length:Int))=True:=eq_true (by omega);obtain⟨c,hc⟩:=get_some (l:=s) (i:=k) hlt;have hA:(((c.toNat:Int)=13)=True∧k+1=k1)∨(((c.toNat:Int)=13)=False∧k1=k):=by
     rw[←e1,hc]
     by_cases h:c=13
     ·exact .inl ⟨eq_true (by rw[h];rfl),by rw[if_pos (by rw[h])]⟩
     ·refine .inr ⟨eq_false fun e=>h (UInt8.toNat_inj.1 (by have:(13:UInt8).toNat=13:=rfl;omega)),by rw[if_neg (fun e=>h (by cases e;rfl))]⟩
    clear e1;rcases hA with⟨q13,hz⟩|⟨q13,hz⟩;have hz':(k:Int)+1=(k1:Int):=by omega
    rotate_left
    subst hz;have hz':(k1:Int)=(k1:Int):=rfl;all_goals
     have hk1:k1≤s.length:=by omega
     by_cases h10:s[k1]?=some 10
     ·rw[if_pos h10]at hR;have hl1:k1<s.length:=(Zac.1 h10).1;have y2:((s.length:Int)≤(k1:Int))=False:=eq_false (by omega);try(rw[hc,Zas]at h10;subst h10;have h10:=hc)
      simp(maxSteps:=2000000)(disch:=omega)only[go_sem,↓reduceIte,p1,p2,p3,y1,y2,q0a,hc,q13,hz',h10,z7,hj];refine⟨fun q1=>?_,fun q1=>⟨fun q2=>?_,fun q2=>?_⟩⟩
      ·rw[if_pos (by omega)]at hR;exact bad 5 (by decide) hR
      ·rw[if_neg (by omega),if_pos (by omega)]at hR;exact bad 2 (by decide) hR
      ·rw[if_neg (by omega),if_neg (by omega)]at hR;have hcut:cutI s ((k1:Int)+1) ((k1:Int)+1+(j:Int))=(s.drop (k1+1)).take j:=by
        have:=q4n s (k1+1) (k1+1+j);rw[show((k1+1:Nat):Int)=(k1:Int)+1 by omega,show((k1+1+j:Nat):Int)=(k1:Int)+1+(j:Int) by omega]at this;rw[this,Zde];congr 1;omega
       refine j63 (strS s q tv v n ((k1:Int)+1) ((k1:Int)+1+(j:Int)) ((s.drop (k1+1)).take j)) ?_ (by simp) (fun done i x hx hj=>?_) (fun done hd=>?_)
       ·simp(maxSteps:=2000000)only[go_sem,↓reduceIte,strS,j95,SubJ,Sub,filP,true_or,or_true]
       ·match i,hx with
        |0,hx=>
         cases hx;simp(maxSteps:=2000000)(disch:=omega)only[go_sem,↓reduceIte,strS];refine Weak.mk ?_ ?_ ?_<;>simp(maxSteps:=2000000)only[go_sem,↓reduceIte,Sub,Zaa,Zab,q8K]
        |1,hx=>
         cases hx;have d0:=hj 0 (by decide);simp(maxSteps:=2000000)(disch:=omega)only[go_sem,↓reduceIte,strS,d0,q8K,filP];refine Weak.mk ?_ ?_ ?_<;>simp(maxSteps:=2000000)only[go_sem,↓reduceIte,Sub,Zaa,Zab,q8K]
        |2,hx=>
         cases hx;have d1:=hj 1 (by decide);simp(maxSteps:=2000000)(disch:=omega)only[go_sem,↓reduceIte,strS,d1,q8K,filP];refine Weak.mk ?_ ?_ ?_<;>simp(maxSteps:=2000000)only[go_sem,↓reduceIte,Sub,Zaa,Zab,q8K]
        |3,hx=>
         cases hx;have d2:=hj 2 (by decide);simp(maxSteps:=2000000)(disch:=omega)only[go_sem,↓reduceIte,strS,d2,q8K,filP];refine Weak.mk ?_ ?_ ?_<;>simp(maxSteps:=2000000)only[go_sem,↓reduceIte,Sub,Zaa,Zab,q8K]
        |4,hx=>
         cases hx;simp(maxSteps:=2000000)(disch:=omega)only[go_sem,↓reduceIte,strS];refine Weak.mk ?_ ?_ ?_<;>simp(maxSteps:=2000000)only[go_sem,↓reduceIte,Sub,Zaa,Zab,q8K]
        |5,hx=>
         cases hx;simp(maxSteps:=2000000)(disch:=omega)only[go_sem,↓reduceIte,strS];refine Weak.mk ?_ ?_ ?_<;>simp(maxSteps:=2000000)only[go_sem,↓reduceIte,Sub,Zaa,Zab,q8K]
        |6,hx=>
         cases hx;have d3:=hj 3 (by decide);have d4:=hj 4 (by decide);have d5:=hj 5 (by decide);simp(maxSteps:=2000000)(disch:=omega)only[go_sem,↓reduceIte,strS,d3,d4,d5,q8K,hcut];refine⟨⟨by omega,by omega,by omega⟩,?_⟩;refine Weak.mk ?_ ?_ ?_<;>simp(maxSteps:=2000000)only[go_sem,↓reduceIte,Sub,Zaa,Zab,q8K]
        |7,hx=>
         cases hx;simp(maxSteps:=2000000)(disch:=omega)only[go_sem,↓reduceIte,strS];refine Weak.mk ?_ ?_ ?_<;>simp(maxSteps:=2000000)only[go_sem,↓reduceIte,Sub,Zaa,Zab,q8K]
        |8,hx=>
         cases hx;have d7:=hj 7 (by decide);simp(maxSteps:=2000000)(disch:=omega)only[go_sem,↓reduceIte,strS,d7,q8K];refine Weak.mk ?_ ?_ ?_<;>simp(maxSteps:=2000000)only[go_sem,↓reduceIte,Sub,Zaa,Zab,q8K]
        |9,hx=>
         cases hx;simp(maxSteps:=2000000)(disch:=omega)only[go_sem,↓reduceIte,strS];refine Weak.mk ?_ ?_ ?_<;>simp(maxSteps:=2000000)only[go_sem,↓reduceIte,Sub,Zaa,Zab,q8K]
        |10,hx=>
         cases hx;have d9:=hj 9 (by decide);have d6:=hj 6 (by decide);simp(maxSteps:=2000000)(disch:=omega)only[go_sem,↓reduceIte,strS,d9,d6,q8K];refine Weak.mk ?_ ?_ ?_<;>simp(maxSteps:=2000000)only[go_sem,↓reduceIte,Sub,Zaa,Zab,q8K]
        |(m+11),hx=>simp at hx
       ·have ha:∀i,i<11→done i=true:=hd;have sk:=q1G s ((k1+1+j:Nat):Int) (by omega);rw[q0h (by omega),show((k1+1+j:Nat):Int)=(k1:Int)+1+(j:Int) by omega]at sk;have w1:=q16 s ((q0l s (k1+1+j):Nat):Int) (by omega);rw[q0h (q0r (by omega)).2]at w1
        simp(maxSteps:=2000000)only[go_sem,↓reduceIte,strS,ha 0 (by decide),ha 1 (by decide),ha 2 (by decide),ha 3 (by decide),ha 4 (by decide),ha 5 (by decide),ha 6 (by decide),ha 7 (by decide),ha 8 (by decide),ha 9 (by decide),ha 10 (by decide),q8K,filP];refine q1E.of sk ?_;simp(maxSteps:=2000000)only[go_sem,↓reduceIte];refine q1E.of w1 ?_
        by_cases he:q0p s (q0l s (k1+1+j))=[101,110,100,115,116,114,101,97,109]
        ·rw[if_pos he]at hR;rw[he,←hR];simp(maxSteps:=2000000)only[go_sem,↓reduceIte,objR,ObG.d,errD]
        ·rw[if_neg he]at hR;have he':(q0p s (q0l s (k1+1+j))=[101,110,100,115,116,114,101,97,109])=False:=eq_false he;simp(maxSteps:=2000000)only[go_sem,↓reduceIte,he'];exact bad 4 (by decide) hR
     ·rw[if_neg h10]at hR;have b4:=bad 4 (by decide) hR
      by_cases hl1:k1<s.length
      ·have y2:((s.length:Int)≤(k1:Int))=False:=eq_false (by omega);obtain⟨c2,hc2⟩:=get_some (l:=s) (i:=k1) hl1;have y3:((c2.toNat:Int)=10)=False:=eq_false fun e=>h10 (by rw[hc2];congr 1;exact UInt8.toNat_inj.1 (by have:(10:UInt8).toNat=10:=rfl;omega))
       try(rw[hc,Zas]at hc2;subst hc2;have hc2:=hc)
       simp(maxSteps:=2000000)(disch:=omega)only[go_sem,↓reduceIte,p1,p2,p3,y1,y2,q0a,hc,q13,hz',hc2,y3];exact b4
      ·have y2:((s.length:Int)≤(k1:Int))=True:=eq_true (by omega);simp(maxSteps:=2000000)(disch:=omega)only[go_sem,↓reduceIte,p1,p2,p3,y1,y2,q0a,hc,q13,hz'];exact b4
   ·have y1:((k:Int)<(s.length:Int))=False:=eq_false (by omega);have y2:((s.length:Int)≤(k:Int))=True:=eq_true (by omega);have h0:s[k]?=none:=Zbm (by omega);rw[h0,if_neg (by simp)]at e1;subst e1;rw[h0,if_neg (by simp)]at hR;simp(maxSteps:=2000000)(disch:=omega)only[go_sem,↓reduceIte,p1,p2,p3,y1,y2];exact bad 4 (by decide) hR
  ·rw[if_neg hp]at hR;have b:=bad 8 (by decide) hR
   by_cases p1:p.kind=2
   ·have p1':(p.kind=2)=True:=eq_true p1
    by_cases p2:p.n<0
    ·have p2':(p.n<0)=True:=eq_true p2;simp(maxSteps:=2000000)only[go_sem,↓reduceIte,p1',p2'];exact b
    ·have p2':(p.n<0)=False:=eq_false p2;have p3':(p.n.tmod 1000=0)=False:=eq_false fun h=>hp ⟨p1,by omega,h⟩
     simp(maxSteps:=2000000)only[go_sem,↓reduceIte,p1',p2',p3'];exact b
   ·have p1':(p.kind=2)=False:=eq_false p1;simp(maxSteps:=2000000)only[go_sem,↓reduceIte,p1'];exact b
theorem q9D(n:Nat)(h:n<10000000000):q0i Tryz.prog 37 [.int .i64 n] (fun r=>r=.one (.str (Lib.decDigits n))):=by
 have:=q9c n (by omega) (by omega);rwa [show Lib.itoa (n:Int)=Lib.decDigits n by rw[Lib.itoa,if_neg (by omega),Zbw]]at this
theorem z6s{s:List UInt8}{k:Int}{v:Val}{e:Nat}(h:q3l s k=.ok v e):e≤s.length:=by
 unfold q3l at h;split at h
 ·cases h
 ·rename_i hc;have hg:=q4a s 8 k.toNat (by omega);split at h
  ·cases h
  ·rename_i v' k' hx;rw[hx]at hg;split at h
   ·cases h;exact hg.2.1
   ·cases h
def q6P:q0g:=
 Qr [Qw 4,Qx 5 (.k (.d .nil))] (Qr [Qc 15 0,Qn 16 15,Qf 17 1 16,Ql 18 17,Qc 19 1,⟨some 20,.prim (.lookup 51 true) [.t 18,.t 19] [],none⟩,Qc 14 20,Qe 21 0 14,Qe 22 1 14, 
 Qa 6 21,Qa 7 22] (.seq (Qr [Qc 23 7,Qh 24 23,Qc 25 24,Qd 26 6 25 false,Qg 27 (.bin .lss (.t 26) (Ki 0)) 25 false,Qo 28 25 27] (.cond (.t 28) (Qr [Qu 29,Q 30 (.mkI 49 (Ki 
 6)),Qs 8 4 29,Qa 5 30] .ret) .skip)) (.seq (Qr [Qc 31 1,Qj 32 37 [31],⟨some 33,.bsl 9 1 [.t 32,.k (.d (.str [48])),.k (.d (.str [111,98,106]))],none⟩,Qz 34 false 33,Q 
 35 (.cp (Ki 0))] (.block 0 (.loop (Qr [Qb 36 .lss 35 34] (.seq (.cond (.t 36) .skip (.exit 0)) (.seq (.block 1 (Qr [Q 37 (.ia 1 (.t 33) (.t 35)),Ql 38 37,Qa 9 38] (Qr [Qc 39 0, 
 Qn 40 39,Qf 41 0 40,Ql 42 41,Qc 43 6,Qj 44 38 [42,43],Qa 6 44] (.seq (Qr [Qc 45 0,Qn 46 45,Qf 47 0 46,Ql 48 47,Qc 49 6,Qj 50 39 [48,49],Qc 51 9,Qb 52 .neq 50 51] 
 (.cond (.t 52) (Qr [Qu 53,Q 54 (.mkI 49 (Ki 4)),Qs 8 4 53,Qa 5 54] .ret) .skip)) (.reg [Qc 55 6,Qc 56 9,Qz 57 true 56,Qb 58 .add 55 57,Qa 6 58]))))) (.reg [Qk 59 .add 35 
 1,Qc 35 59]))))))) (Qr [Qc 61 0,Qn 62 61,Qf 63 0 62,Ql 64 63,Qc 65 6,Qj 66 40 [64,65],Qc 60 66,Qe 67 0 60,Qe 68 1 60,Qe 69 2 60,Qv 10,Qs 5 10 67,Qa 11 68,Qa 12 69] 
 (.seq (Qr [Qc 70 12,Q 71 (.eqN 0 true (.t 70))] (.cond (.t 71) (Qr [Qu 72,Qc 73 12,Qs 8 4 72,Qa 5 73] .ret) .skip)) (Qr [Qc 74 1,Qm 75 5 10,Q 76 (.bld [(0,1),(1,5),(6, 
 1),(7,1)] [.int .i64 0,.int .i64 0,.int .i64 0,.str [],.list [],.list [],.bool false,.str []] [] [(0,.t 74),(1,.t 75)]),Qw 13,Qs 8 13 76] (Qr [Qc 77 0,Qn 78 77,Qf 
 79 0 78,Ql 80 79,Qc 81 11,Qj 82 38 [80,81],Qa 11 82] (.seq (Qr [Qc 83 0,Qn 84 83,Qf 85 0 84,Ql 86 85,Qc 87 11,Qj 88 39 [86,87]] (.block 2 (Qr [Q 90 (.bin .eql (.t 88) 
 (.k (.d (.str [101,110,100,111,98,106])))),Qa 89 90] (.cond (.t 89) (Qr [Qm 91 8 13,Qs 8 4 91,Qx 5 (.k (.d .nil))] .ret) (Qr [Q 93 (.bin .eql (.t 88) (.k (.d (.str [115, 
 116,114,101,97,109])))),Qa 92 93] (.cond (.t 92) (Qr [Qc 94 0,Qm 95 8 13,Qc 96 11,Qk 97 .add 96 6,Qq 98 41 [94,95,97],Qe 99 0 98,Qe 100 1 98,Qs 8 4 99,Qa 5 100] 
 .ret) .skip)))))) (Qr [Qu 101,Q 102 (.mkI 49 (Ki 4)),Qs 8 4 101,Qa 5 102] .ret)))))))))
def q6R:List LRes:=[.cell 4 true 8,.tmp 5]
theorem q9e:q0n Tryz.prog 11 103 q6P q6R:=⟨_,_,Tryz.func11,rfl,by kernel_rfl,by kernel_rfl,rfl⟩
theorem z3k{s:List UInt8}{q:List (Int×Int)}(tv:Val)(n:Int)(hs:s.length≤60000)(hq:okQ q):
  q0i Tryz.prog 11 [filD s q tv,.int .i64 n] (fun r=>r=objR (getG s q n)):=by
 have hml:=z62 n q;generalize hR:getG s q n=R;unfold getG at hR;have bad:∀e,e≠0→(e,q9A)=R→Res.tup [.agg [.int .i64 0,.int .i64 0,.int .i64 0,.str [],.list [],.list [],.bool false,.str []],.iface 49 (.int .i64 (e:Int))]=objR R:=fun e he h=>by rw[←h,j1x e he]
 refine q9e.call rfl ?_;simp(maxSteps:=2000000)only[go_sem,↓reduceIte,q6P,q6R,filD,filP,mapI];refine q0e.lookup (ks:=ksI q) (vs:=vsI q) (key:=.int .i64 n) (zero:=.int .i64 0) rfl rfl z4q z95 rfl (z3m q) (by kernel_rfl) ?_;cases hl:lkI q n with
 |none=>
  rw[hl,Zcw]at hml;rw[hl]at hR;simp(maxSteps:=2000000)only[go_sem,↓reduceIte,hml,Zbu,Zcj];exact bad 6 (by decide) hR
 |some k=>
  rw[hl,Zax]at hml;rw[hl]at hR;simp only at hR;have hb:=z4x hq hl
  by_cases hk:k<0
  ·rw[if_pos hk]at hR;have z1:(k<0)=True:=eq_true hk;simp(maxSteps:=2000000)only[go_sem,↓reduceIte,hml,Zcb,Zbd,z1];exact bad 6 (by decide) hR
  rw[if_neg hk]at hR;have z1:(k<0)=False:=eq_false hk;obtain⟨m,hm⟩:∃m:Nat,n=m:=⟨n.toNat,by omega⟩;have hit:=q9D m (by omega);rw[←hm]at hit;rw[show n.toNat=m by omega]at hR;generalize Lib.decDigits m=dg at hit hR;simp(maxSteps:=2000000)only[go_sem,↓reduceIte,hml,Zcb,Zbd,z1];refine q0c.of hit ?_;simp(maxSteps:=2000000)only[go_sem,↓reduceIte];have g0:getI [D.str dg,D.str [48],D.str [111,98,106]] 0=some (.str dg):=rfl
  have g1:getI [D.str dg,D.str [48],D.str [111,98,106]] 1=some (.str [48]):=rfl;have g2:getI [D.str dg,D.str [48],D.str [111,98,106]] 2=some (.str [111,98,106]):=rfl;have s1:=q1G s k (by omega);rw[show k=((k.toNat:Nat):Int) by omega]at s1;have k1:=q0r (q78 s ((k.toNat:Nat):Int));rw[hedG]at hR;generalize q0l s (q2y s ((k.toNat:Nat):Int))=a1 at s1 k1 hR;rw[show((k.toNat:Nat):Int)=k by omega]at s1;have w1:=q16 s (a1:Int) (by omega);rw[q0h k1.2]at w1;have l1:=q0I s a1;refine q0X ?_
  simp(maxSteps:=2000000)only[go_sem,↓reduceIte,g0];refine q0c.of s1 ?_;simp(maxSteps:=2000000)only[go_sem,↓reduceIte];refine q0c.of w1 ?_
  by_cases e1:q0p s a1=dg
  rotate_left
  ·rw[if_neg e1]at hR;have e1':(q0p s a1=dg)=False:=eq_false e1;simp(maxSteps:=2000000)only[go_sem,↓reduceIte,e1'];exact bad 4 (by decide) hR
  rw[if_pos e1,hedG]at hR;rw[e1]at l1;rw[e1];obtain⟨b1,hb1⟩:∃b,a1+dg.length=b:=⟨_,rfl⟩;have hb1':(a1:Int)+(dg.length:Int)=(b1:Int):=by omega
  rw[hb1,q0h (by omega)]at hR;simp(maxSteps:=2000000)(disch:=omega)only[go_sem,↓reduceIte,hb1'];have s2:=q1G s (b1:Int) (by omega);rw[q0h (by omega)]at s2;have k2:=q0r (s:=s) (k:=b1) (by omega);generalize q0l s b1=a2 at s2 k2 hR;have w2:=q16 s (a2:Int) (by omega);rw[q0h k2.2]at w2;have l2:=q0I s a2;refine q0X ?_;simp(maxSteps:=2000000)only[go_sem,↓reduceIte,g1];refine q0c.of s2 ?_;simp(maxSteps:=2000000)only[go_sem,↓reduceIte];refine q0c.of w2 ?_
  by_cases e2:q0p s a2=[48]
  rotate_left
  ·rw[if_neg e2]at hR;have e2':(q0p s a2=[48])=False:=eq_false e2;simp(maxSteps:=2000000)only[go_sem,↓reduceIte,e2'];exact bad 4 (by decide) hR
  rw[if_pos e2,hedG]at hR;rw[e2]at l2;rw[e2];simp only[Zcg]at l2 hR;rw[q0h (by omega)]at hR;simp(maxSteps:=2000000)(disch:=omega)only[go_sem,↓reduceIte];have s3:=q1G s ((a2+1:Nat):Int) (by omega);rw[q0h (by omega)]at s3;have k3:=q0r (s:=s) (k:=a2+1) (by omega);generalize q0l s (a2+1)=a3 at s3 k3 hR;rw[Zaa]at s3;have w3:=q16 s (a3:Int) (by omega);rw[q0h k3.2]at w3;have l3:=q0I s a3;refine q0X ?_;simp(maxSteps:=2000000)only[go_sem,↓reduceIte,g2]
  refine q0c.of s3 ?_;simp(maxSteps:=2000000)only[go_sem,↓reduceIte];refine q0c.of w3 ?_
  by_cases e3:q0p s a3=[111,98,106]
  rotate_left
  ·rw[if_neg e3]at hR;have e3':(q0p s a3=[111,98,106])=False:=eq_false e3;simp(maxSteps:=2000000)only[go_sem,↓reduceIte,e3'];exact bad 4 (by decide) hR
  rw[if_pos e3,hedG]at hR;rw[e3];rw[e3]at l3;simp only[Zae,Zag,Zbg,Nat.reduceAdd]at hR l3;simp(maxSteps:=2000000)(disch:=omega)only[go_sem,↓reduceIte];refine q0X ?_;simp(maxSteps:=2000000)only[go_sem,↓reduceIte];have hval:=z1M s ((a3+3:Nat):Int) (by omega);cases hv:q3l s ((a3+3:Nat):Int)with
  |bad e=>
   have he:=q9S hv;rw[hv]at hR hval;rw[topP,q04,q0Q he,Zaa]at hval;refine q0c.of hval ?_;simp(maxSteps:=2000000)only[go_sem,↓reduceIte];exact bad e he hR
  |ok v e=>
   have hsm:=q8r _ _ hv;have hwv:=z0T hv;have hee:=z6s hv;obtain⟨_,_,hvf,_,_⟩:=Val.q1e.1 hsm;rw[hv]at hR hval;simp only at hR;rw[topP,Val.d_eq v,Zaa]at hval;have s4:=q1G s (e:Int) (by omega);rw[q0h hee]at s4;have k4:=q0r hee;generalize q0l s e=a4 at s4 k4 hR;have w4:=q16 s (a4:Int) (by omega);rw[q0h k4.2]at w4;have l4:=q0I s a4;refine q0c.of hval ?_;simp(maxSteps:=2000000)only[go_sem,↓reduceIte];refine q0c.of s4 ?_
   simp(maxSteps:=2000000)only[go_sem,↓reduceIte];refine q0c.of w4 ?_
   by_cases x1:q0p s a4=[101,110,100,111,98,106]
   ·rw[if_pos x1]at hR;rw[x1,←hR];simp(maxSteps:=2000000)only[go_sem,↓reduceIte,objR,ObG.d,errD]
   ·rw[if_neg x1]at hR;have x1':(q0p s a4=[101,110,100,111,98,106])=False:=eq_false x1
    by_cases x2:q0p s a4=[115,116,114,101,97,109]
    ·rw[if_pos x2]at hR;rw[x2]at l4;simp only[Zae,Zag]at l4;have hst:=j0M (q:=q) (tv:=tv) (n:=n) (show a4+6≤s.length by omega) hs hvf hwv;rw[hR,Zaa]at hst;obtain⟨e',o'⟩:=R;have zz:(([115,116,114,101,97,109]:List UInt8)=[101,110,100,111,98,106])=False:=eq_false (by decide);simp only[ObG.d,filD,filP,mapI,objR]at hst;rw[x2];simp(maxSteps:=2000000)(disch:=omega)only[go_sem,↓reduceIte,zz]
     refine q0e.q0C ([]) ([]) rfl (hst.q1X (by kernel_rfl)) rfl rfl (by simp only[q0R,St.obj,aget,AObj.ren,AV.ren,AV.ren1,renL,q1P,renR,renQ,Zap,Zaq,and_true,and_self,Nat.reduceEqDiff,↓reduceIte,reduceCtorEq]) rfl rfl rfl ⟨rfl,rfl⟩ ?_;simp(maxSteps:=2000000)only[go_sem,↓reduceIte,objR,ObG.d]
    ·rw[if_neg x2]at hR;have x2':(q0p s a4=[115,116,114,101,97,109])=False:=eq_false x2;simp(maxSteps:=2000000)only[go_sem,↓reduceIte,x1',x2'];exact bad 4 (by decide) hR
def objN(p:Nat×ObG):Res:=.tup [p.2.d,.int .i64 p.1]
theorem j6D(e:Nat):objN (e,q9A)=.tup [.agg [.int .i64 0,.int .i64 0,.int .i64 0,.str [],.list [],.list [],.bool false,.str []],.int .i64 e]:=rfl
def q0U:q0g:=
 Qr [Qw 4,Qx 5 (Ki 0)] (.seq (Qr [Qc 19 1,Qk 20 .lss 19 1,Qc 21 20,Qd 22 1 21 false,Qg 23 (.bin .gtr (.t 22) (Ki 60)) 21 false,Qo 24 21 23,Qc 25 24,Qd 26 0 25 false,Qd 27 1 
 25 false,Qg 28 (.nck (.t 26)) 25 false,Qg 29 (.fa 1 (.t 28)) 25 false,Qg 30 (.iaA 61 1 (.t 29) (.t 27)) 25 false,Qg 31 (.ld false 1 (.t 30)) 25 false,Qg 32 (.bin .lss (.t 
 31) (Ki 1)) 25 false,Qo 33 25 32] (.cond (.t 33) (Qr [Qu 34,Qs 8 4 34,Qx 5 (Ki 6)] .ret) .skip)) (Qr [Qc 35 0,Qn 36 35,Qf 37 0 36,Ql 38 37,Qa 6 38] (Qr [Qc 39 0,Qc 40 1, 
 Qn 41 39,Qf 42 1 41,Q 43 (.iaA 61 1 (.t 42) (.t 40)),Ql 44 43,Qk 45 .sub 44 1,Qa 7 45] (Qr [Qc 46 1,Qj 47 53 [46],⟨some 48,.bsl 9 1 [.t 47,.k (.d (.str [48])),.k (.d 
 (.str [111,98,106]))],none⟩,Qa 8 48] (.seq (Qr [Qx 9 (Ki 0)] (.block 0 (.loop (.seq (Qr [Qc 49 9,Qk 50 .lss 49 3] (.cond (.t 50) .skip (.exit 0))) (.seq (.block 1 (Qr [Qc 53 
 6,Qc 54 7,Qj 55 48 [53,54],Qa 7 55] (.seq (.seq (.dreg [Qc 56 6,Qc 57 7,Qj 58 49 [56,57],Qc 59 8,Qc 60 9,Q 61 (.ia 1 (.t 59) (.t 60)),Ql 62 61,Qb 63 .neq 58 62]) 
 (.cond (.t 63) (Qr [Qu 64,Qs 8 4 64,Qx 5 (Ki 4)] .ret) .skip)) (.reg [Qc 65 7,Qc 66 8,Qc 67 9,Q 68 (.ia 1 (.t 66) (.t 67)),Ql 69 68,Qz 70 true 69,Qb 71 .add 65 70,Qa 7 
 71])))) (.reg [Qc 51 9,Qk 52 .add 51 1,Qa 9 52])))))) (Qr [Qc 73 6,Qc 74 7,Qj 75 50 [73,74],Qc 72 75,Qe 76 0 72,Qe 77 1 72,Qe 78 2 72,Qv 10,Qs 5 10 76,Qa 11 77,Qa 12 
 78] (.seq (Qr [Qc 79 12,Qk 80 .gtr 79 0] (.cond (.t 80) (Qr [Qu 81,Qc 82 12,Qs 8 4 81,Qa 5 82] .ret) .skip)) (Qr [Qc 83 1,Qm 84 5 10,Q 85 (.bld [(0,1),(1,5),(6,1),(7, 
 1)] [.int .i64 0,.int .i64 0,.int .i64 0,.str [],.list [],.list [],.bool false,.str []] [] [(0,.t 83),(1,.t 84)]),Qw 13,Qs 8 13 85] (Qr [Qc 86 6,Qc 87 11,Qj 88 48 
 [86,87],Qa 11 88] (Qr [Qc 89 6,Qc 90 11,Qj 91 49 [89,90],Qa 14 91] (.seq (Qr [Qc 92 14,Q 93 (.bin .eql (.t 92) (.k (.d (.str [101,110,100,111,98,106]))))] (.cond (.t 
 93) (Qr [Qm 94 8 13,Qs 8 4 94,Qx 5 (Ki 0)] .ret) .skip)) (.seq (Qr [Qc 95 14,Q 96 (.bin .neq (.t 95) (.k (.d (.str [115,116,114,101,97,109]))))] (.cond (.t 96) (Qr [Qu 
 97,Qs 8 4 97,Qx 5 (Ki 4)] .ret) .skip)) (Qr [Qm 99 5 10,⟨some 100,.call 21 [.t 99,.k (.d (.str [76,101,110,103,116,104]))],none⟩,Qc 98 100,Qe 101 0 98,Qe 102 1 98, 
 Qv 15,Qs 5 15 101,Qa 16 102] (.seq (Qr [Qc 103 16,Qh 104 103,Qc 105 104,Qg 106 (.fa 0 (.t 15)) 105 false,Qg 107 (.ld false 1 (.t 106)) 105 false,Qg 108 (.bin .neq (.t 107) 
 (Ki 2)) 105 false,Qo 109 105 108,Qc 110 109,Qg 111 (.fa 1 (.t 15)) 110 false,Qg 112 (.ld false 1 (.t 111)) 110 false,Qg 113 (.bin .lss (.t 112) (Ki 0)) 110 false,Qo 114 110 
 113,Qc 115 114,Qg 116 (.fa 1 (.t 15)) 115 false,Qg 117 (.ld false 1 (.t 116)) 115 false,Qg 118 (.bin .rem (.t 117) (Ki 1000)) 115 false,Qg 119 (.bin .neq (.t 118) (Ki 0)) 
 115 false,Qo 120 115 119] (.cond (.t 120) (Qr [Qu 121,Qs 8 4 121,Qx 5 (Ki 8)] .ret) .skip)) (Qr [Qc 122 11,Qk 123 .add 122 6,Qa 7 123] (.seq (Qr [Qc 124 7,Qc 125 6,Qz 126 
 true 125,Qb 127 .lss 124 126,Qc 128 127,Qd 129 6 128 true,Qd 130 7 128 true,Qg 131 (.idxS (.t 129) (.t 130)) 128 true,Qg 132 (.bin .eql (.t 131) (Kb 13)) 128 true,Qp 133 
 128 132] (.cond (.t 133) (.reg [Qc 134 7,Qk 135 .add 134 1,Qa 7 135]) .skip)) (.seq (Qr [Qc 136 7,Qc 137 6,Qz 138 true 137,Qb 139 .geq 136 138,Qc 140 139,Qd 141 6 140 
 false,Qd 142 7 140 false,Qg 143 (.idxS (.t 141) (.t 142)) 140 false,Qg 144 (.bin .neq (.t 143) (Kb 10)) 140 false,Qo 145 140 144] (.cond (.t 145) (Qr [Qu 146,Qs 8 4 146,Qx 
 5 (Ki 4)] .ret) .skip)) (Qr [Qc 147 7,Qk 148 .add 147 1,Qa 17 148] (Qr [Qc 149 17,Qf 150 1 15,Ql 151 150,Qk 152 .quo 151 1000,Qb 153 .add 149 152,Qa 18 153] (.seq (Qr [Qc 
 154 18,Qc 155 6,Qz 156 true 155,Qb 157 .gtr 154 156] (.cond (.t 157) (Qr [Qu 158,Qs 8 4 158,Qx 5 (Ki 5)] .ret) .skip)) (.seq (Qr [Qc 159 18,Qc 160 17,Qb 161 .sub 159 160, 
 Qk 162 .gtr 161 20000] (.cond (.t 162) (Qr [Qu 163,Qs 8 4 163,Qx 5 (Ki 2)] .ret) .skip)) (.seq (Qr [Qc 164 6,Qc 165 6,Qc 166 18,Qj 167 48 [165,166],Qj 168 49 [164,167],Q 
 169 (.bin .neq (.t 168) (.k (.d (.str [101,110,100,115,116,114,101,97,109]))))] (.cond (.t 169) (Qr [Qu 170,Qs 8 4 170,Qx 5 (Ki 4)] .ret) .skip)) (Qr [Qf 171 6 13, 
 ⟨none,.st 1 (.t 171) KT,none⟩] (Qr [Qc 172 6,Qc 173 17,Qc 174 18,Q 175 (.subS (.t 172) (some (.t 173)) (some (.t 174))),Qf 176 7 13,Qs 1 176 175] (Qr [Qm 177 8 13,Qs 8 4 
 177,Qx 5 (Ki 0)] .ret)))))))))))))))))))))))))
def q0V:List LRes:=[.cell 4 true 8,.tmp 5]
theorem q47:q0n Tryz.prog 29 178 q0U q0V:=⟨_,_,Tryz.func29,rfl,by kernel_rfl,by kernel_rfl,rfl⟩
theorem z4I{s:List UInt8}{q:List (Int×Int)}(tv:Val)(last n:Int)(hs:s.length≤60000)(hq:okQ q):
  q0i Tryz.prog 29 [modD s q tv last,.int .i64 n] (fun r=>r=objN (getG s q n)):=by
 have hml:=z65 s q tv last;have h0:(modP s q tv last)[0]?=some (.str s):=rfl;generalize hR:getG s q n=R;unfold getG at hR;have bad:∀e:Nat,(e,q9A)=R→Res.tup [.agg [.int .i64 0,.int .i64 0,.int .i64 0,.str [],.list [],.list [],.bool false,.str []],.int .i64 (e:Int)]=objN R:=fun e h=>by rw[←h,j6D e]
 refine q47.call rfl ?_
 by_cases n1:n<1
 ·have hl:lkI q n=none:=by
   cases hl:lkI q n with
   |none=>rfl
   |some k=>have:=z4x hq hl;omega
  rw[hl]at hR;have z1:(n<1)=True:=eq_true n1;simp(maxSteps:=2000000)only[go_sem,↓reduceIte,q0U,q0V,modD,z1];exact bad 6 hR
 by_cases n2:60<n
 ·have hl:lkI q n=none:=by
   cases hl:lkI q n with
   |none=>rfl
   |some k=>have:=z4x hq hl;omega
  rw[hl]at hR;have z1:(n<1)=False:=eq_false n1;have z2:(60<n)=True:=eq_true n2;simp(maxSteps:=2000000)only[go_sem,↓reduceIte,q0U,q0V,modD,z1,z2];exact bad 6 hR
 have z1:(n<1)=False:=eq_false n1;have z2:(60<n)=False:=eq_false n2;have y1:(0≤n)=True:=eq_true (by omega);have y2:(n<61)=True:=eq_true (by omega);have y3:(n.toNat * 1≤67)=True:=eq_true (by omega);have hg:=j1p s q tv last (i:=n) (by omega);have ok6:arrV (lkI q n)<1→(6,q9A)=R:=fun h=>by
  cases hl:lkI q n with
  |none=>rw[hl]at hR;exact hR
  |some k=>
   rw[hl]at hR;simp only at hR;rw[hl,arrV]at h;split at h
   ·rename_i hk;rw[if_pos hk]at hR;exact hR
   ·omega
 by_cases n3:arrV (lkI q n)<1
 ·have z3:(arrV (lkI q n)<1)=True:=eq_true n3;simp(maxSteps:=2000000)only[go_sem,↓reduceIte,q0U,q0V,modD,z1,z2,y1,y2,y3,hg,hml,Zau,z3];exact bad 6 (ok6 n3)
 have z3:(arrV (lkI q n)<1)=False:=eq_false n3;obtain⟨k,hl,hk⟩:∃k:Nat,lkI q n=some (k:Int)∧k≤10000000000:=by
  cases hl:lkI q n with
  |none=>rw[hl,arrV]at n3;omega
  |some k=>
   have:=z4x hq hl;rw[hl,arrV]at n3;split at n3
   ·omega
   ·exact⟨k.toNat,by congr 1;omega,by omega⟩
 have ha:arrV (lkI q n)=(k:Int)+1:=by rw[hl,arrV,if_neg (by omega)]
 rw[hl]at hR;simp only at hR;rw[if_neg (by omega),Zbw]at hR;rw[ha]at hg z3;obtain⟨m,hm⟩:∃m:Nat,n=m:=⟨n.toNat,by omega⟩;have hit:=z7R m (by omega);rw[←hm]at hit;rw[show n.toNat=m by omega]at hR;generalize Lib.decDigits m=dg at hit hR;simp(maxSteps:=2000000)(disch:=omega)only[go_sem,↓reduceIte,q0U,q0V,modD,z1,z2,y1,y2,y3,hg,hml,Zau,z3,h0];refine q0c.of hit ?_;simp(maxSteps:=2000000)only[go_sem,↓reduceIte]
 have g0:getI [D.str dg,D.str [48],D.str [111,98,106]] 0=some (.str dg):=rfl;have g1:getI [D.str dg,D.str [48],D.str [111,98,106]] 1=some (.str [48]):=rfl;have g2:getI [D.str dg,D.str [48],D.str [111,98,106]] 2=some (.str [111,98,106]):=rfl;have s1:=q1l s (k:Int) (by omega);have k1:=q0r (q78 s (k:Int));rw[hedG]at hR;generalize q0l s (q2y s (k:Int))=a1 at s1 k1 hR;have w1:=q1O s (a1:Int) (by omega);rw[q0h k1.2]at w1;have l1:=q0I s a1;refine q0X ?_
 simp(maxSteps:=2000000)only[go_sem,↓reduceIte,Int.add_sub_cancel];refine q0c.of s1 ?_;simp(maxSteps:=2000000)only[go_sem,↓reduceIte];refine q1E.of w1 ?_
 by_cases e1:q0p s a1=dg
 rotate_left
 ·rw[if_neg e1]at hR;have e1':(q0p s a1=dg)=False:=eq_false e1;simp(maxSteps:=2000000)only[go_sem,↓reduceIte,g0,e1'];exact bad 4 hR
 rw[if_pos e1,hedG]at hR;rw[e1]at l1;rw[e1];obtain⟨b1,hb1⟩:∃b,a1+dg.length=b:=⟨_,rfl⟩;have hb1':(a1:Int)+(dg.length:Int)=(b1:Int):=by omega
 rw[hb1,q0h (by omega)]at hR;simp(maxSteps:=2000000)(disch:=omega)only[go_sem,↓reduceIte,g0,hb1'];have s2:=q1l s (b1:Int) (by omega);rw[q0h (by omega)]at s2;have k2:=q0r (s:=s) (k:=b1) (by omega);generalize q0l s b1=a2 at s2 k2 hR;have w2:=q1O s (a2:Int) (by omega);rw[q0h k2.2]at w2;have l2:=q0I s a2;refine q0X ?_;simp(maxSteps:=2000000)only[go_sem,↓reduceIte];refine q0c.of s2 ?_;simp(maxSteps:=2000000)only[go_sem,↓reduceIte];refine q1E.of w2 ?_
 by_cases e2:q0p s a2=[48]
 rotate_left
 ·rw[if_neg e2]at hR;have e2':(q0p s a2=[48])=False:=eq_false e2;simp(maxSteps:=2000000)only[go_sem,↓reduceIte,g1,e2'];exact bad 4 hR
 rw[if_pos e2,hedG]at hR;rw[e2]at l2;rw[e2];simp only[Zcg]at l2 hR;rw[q0h (by omega)]at hR;simp(maxSteps:=2000000)(disch:=omega)only[go_sem,↓reduceIte,g1];have s3:=q1l s ((a2+1:Nat):Int) (by omega);rw[q0h (by omega)]at s3;have k3:=q0r (s:=s) (k:=a2+1) (by omega);generalize q0l s (a2+1)=a3 at s3 k3 hR;rw[Zaa]at s3;have w3:=q1O s (a3:Int) (by omega);rw[q0h k3.2]at w3;have l3:=q0I s a3;refine q0X ?_;simp(maxSteps:=2000000)only[go_sem,↓reduceIte]
 refine q0c.of s3 ?_;simp(maxSteps:=2000000)only[go_sem,↓reduceIte];refine q1E.of w3 ?_
 by_cases e3:q0p s a3=[111,98,106]
 rotate_left
 ·rw[if_neg e3]at hR;have e3':(q0p s a3=[111,98,106])=False:=eq_false e3;simp(maxSteps:=2000000)only[go_sem,↓reduceIte,g2,e3'];exact bad 4 hR
 rw[if_pos e3,hedG]at hR;rw[e3];rw[e3]at l3;simp only[Zae,Zag,Zbg,Nat.reduceAdd]at hR l3;simp(maxSteps:=2000000)(disch:=omega)only[go_sem,↓reduceIte,g2];refine q0X ?_;simp(maxSteps:=2000000)only[go_sem,↓reduceIte];have hval:=z2P s ((a3+3:Nat):Int) (by omega);cases hv:q3l s ((a3+3:Nat):Int)with
 |bad e=>
  have he:=q9S hv;have z4:(0<(e:Int))=True:=eq_true (by omega);rw[hv]at hR hval;rw[z2T,q04,Zaa]at hval;refine q0c.of hval ?_;simp(maxSteps:=2000000)only[go_sem,↓reduceIte,z4];exact bad e hR
 |ok v e=>
  have hsm:=q8r _ _ hv;have hwv:=z0T hv;have hee:=z6s hv;obtain⟨_,_,hvf,_,_⟩:=Val.q1e.1 hsm;rw[hv]at hR hval;simp only at hR;rw[z2T,Val.d_eq v,Zaa]at hval;have s4:=q1l s (e:Int) (by omega);rw[q0h hee]at s4;have k4:=q0r hee;generalize q0l s e=a4 at s4 k4 hR;have w4:=q1O s (a4:Int) (by omega);rw[q0h k4.2]at w4;have l4:=q0I s a4;refine q0c.of hval ?_;simp(maxSteps:=2000000)only[go_sem,↓reduceIte];refine q0c.of s4 ?_
  simp(maxSteps:=2000000)only[go_sem,↓reduceIte];refine q0c.of w4 ?_
  by_cases x1:q0p s a4=[101,110,100,111,98,106]
  ·rw[if_pos x1]at hR;rw[x1,←hR];simp(maxSteps:=2000000)only[go_sem,↓reduceIte,objN,ObG.d]
  ·rw[if_neg x1]at hR;have x1':(q0p s a4=[101,110,100,111,98,106])=False:=eq_false x1
   by_cases x2:q0p s a4=[115,116,114,101,97,109]
   ·rw[if_pos x2]at hR;rw[x2]at l4;simp only[Zae,Zag]at l4;have zz:(([115,116,114,101,97,109]:List UInt8)=[101,110,100,111,98,106])=False:=eq_false (by decide);have g:=q88 v lenN hvf;rw[Val.d_eq v]at g;unfold strG at hR;rw[x2];simp(maxSteps:=2000000)(disch:=omega)only[go_sem,↓reduceIte,zz];refine q0c.of g ?_;cases hg:getV lenN v.f with
    |none=>
     rw[hg]at hR;simp only[getR,Zcj,Zbu,q04];simp(maxSteps:=2000000)only[go_sem,↓reduceIte];exact bad 8 hR
    |some p=>
     rw[hg]at hR;simp only[getR,Zbd,Zcb];rw[Val.d_eq p];simp only at hR
     by_cases hp:natG p
     ·rw[if_pos hp]at hR;have p1:(p.kind=2)=True:=eq_true hp.1;have p2:(p.n<0)=False:=eq_false (by have:=hp.2.1;omega);have p3:(p.n.tmod 1000=0)=True:=eq_true hp.2.2;obtain⟨j,hj,hjl⟩:=z3p hp (z3y hwv hg);obtain⟨c0,hc0⟩:∃c,a4+6=c:=⟨_,rfl⟩;have hc0':(a4:Int)+6=(c0:Int):=by omega
      rw[hj,Zbw,hc0]at hR;obtain⟨k1,e1⟩:∃k1,(if s[c0]?=some 13 then c0+1 else c0)=k1:=⟨_,rfl⟩;rw[e1]at hR;have z7:(((10:UInt8).toNat:Int)=10)=True:=eq_true (by decide)
      by_cases hlt:c0<s.length
      ·have y1:((c0:Int)<(s.length:Int))=True:=eq_true (by omega);obtain⟨c,hc⟩:=get_some (l:=s) (i:=c0) hlt;have hA:(((c.toNat:Int)=13)=True∧c0+1=k1)∨(((c.toNat:Int)=13)=False∧k1=c0):=by
        rw[←e1,hc]
        by_cases h:c=13
        ·exact .inl ⟨eq_true (by rw[h];rfl),by rw[if_pos (by rw[h])]⟩
        ·refine .inr ⟨eq_false fun e=>h (UInt8.toNat_inj.1 (by have:(13:UInt8).toNat=13:=rfl;omega)),by rw[if_neg (fun e=>h (by cases e;rfl))]⟩
       clear e1;rcases hA with⟨q13,hz⟩|⟨q13,hz⟩;have hz':(c0:Int)+1=(k1:Int):=by omega
       rotate_left
       subst hz;have hz':(k1:Int)=(k1:Int):=rfl;all_goals
        have hk1:k1≤s.length:=by omega
        by_cases h10:s[k1]?=some 10
        ·rw[if_pos h10]at hR;have hl1:k1<s.length:=(Zac.1 h10).1;have y2:((s.length:Int)≤(k1:Int))=False:=eq_false (by omega);try(rw[hc,Zas]at h10;subst h10;have h10:=hc)
         simp(maxSteps:=2000000)(disch:=omega)only[go_sem,↓reduceIte,p1,p2,p3,y1,y2,hc0',q0a,hc,q13,hz',h10,z7,hj];refine⟨fun q1=>?_,fun q1=>⟨fun q2=>?_,fun q2=>?_⟩⟩
         ·rw[if_pos (by omega)]at hR;exact bad 5 hR
         ·rw[if_neg (by omega),if_pos (by omega)]at hR;exact bad 2 hR
         ·rw[if_neg (by omega),if_neg (by omega)]at hR;have hcut:cutI s ((k1:Int)+1) ((k1:Int)+1+(j:Int))=(s.drop (k1+1)).take j:=by
           have:=q4n s (k1+1) (k1+1+j);rw[show((k1+1:Nat):Int)=(k1:Int)+1 by omega,show((k1+1+j:Nat):Int)=(k1:Int)+1+(j:Int) by omega]at this;rw[this,Zde];congr 1;omega
          have sk:=q1l s ((k1+1+j:Nat):Int) (by omega);rw[q0h (by omega),show((k1+1+j:Nat):Int)=(k1:Int)+1+(j:Int) by omega]at sk;have w1:=q1O s ((q0l s (k1+1+j):Nat):Int) (by omega);rw[q0h (q0r (by omega)).2]at w1;refine q0c.of sk ?_;simp(maxSteps:=2000000)only[go_sem,↓reduceIte];refine q0c.of w1 ?_
          by_cases he:q0p s (q0l s (k1+1+j))=[101,110,100,115,116,114,101,97,109]
          ·rw[if_pos he]at hR;rw[he,←hR];simp(maxSteps:=2000000)(disch:=omega)only[go_sem,↓reduceIte,hcut,objN,ObG.d];refine⟨by omega,by omega,by omega⟩
          ·rw[if_neg he]at hR;have he':(q0p s (q0l s (k1+1+j))=[101,110,100,115,116,114,101,97,109])=False:=eq_false he;simp(maxSteps:=2000000)only[go_sem,↓reduceIte,he'];exact bad 4 hR
        ·rw[if_neg h10]at hR;have b4:=bad 4 hR
         by_cases hl1:k1<s.length
         ·have y2:((s.length:Int)≤(k1:Int))=False:=eq_false (by omega);obtain⟨c2,hc2⟩:=get_some (l:=s) (i:=k1) hl1;have y3:((c2.toNat:Int)=10)=False:=eq_false fun e=>h10 (by rw[hc2];congr 1;exact UInt8.toNat_inj.1 (by have:(10:UInt8).toNat=10:=rfl;omega))
          try(rw[hc,Zas]at hc2;subst hc2;have hc2:=hc)
          simp(maxSteps:=2000000)(disch:=omega)only[go_sem,↓reduceIte,p1,p2,p3,y1,y2,hc0',q0a,hc,q13,hz',hc2,y3];exact b4
         ·have y2:((s.length:Int)≤(k1:Int))=True:=eq_true (by omega);simp(maxSteps:=2000000)(disch:=omega)only[go_sem,↓reduceIte,p1,p2,p3,y1,y2,hc0',q0a,hc,q13,hz'];exact b4
      ·have y1:((c0:Int)<(s.length:Int))=False:=eq_false (by omega);have y2:((s.length:Int)≤(c0:Int))=True:=eq_true (by omega);have h0:s[c0]?=none:=Zbm (by omega);rw[h0,if_neg (by simp)]at e1;subst e1;rw[h0,if_neg (by simp)]at hR;simp(maxSteps:=2000000)(disch:=omega)only[go_sem,↓reduceIte,p1,p2,p3,y1,y2,hc0'];exact bad 4 hR
     ·rw[if_neg hp]at hR;have b:=bad 8 hR
      by_cases p1:p.kind=2
      ·have p1':(p.kind=2)=True:=eq_true p1
       by_cases p2:p.n<0
       ·have p2':(p.n<0)=True:=eq_true p2;simp(maxSteps:=2000000)only[go_sem,↓reduceIte,p1',p2'];exact b
       ·have p2':(p.n<0)=False:=eq_false p2;have p3':(p.n.tmod 1000=0)=False:=eq_false fun h=>hp ⟨p1,by omega,h⟩
        simp(maxSteps:=2000000)only[go_sem,↓reduceIte,p1',p2',p3'];exact b
      ·have p1':(p.kind=2)=False:=eq_false p1;simp(maxSteps:=2000000)only[go_sem,↓reduceIte,p1'];exact b
   ·rw[if_neg x2]at hR;have x2':(q0p s a4=[115,116,114,101,97,109])=False:=eq_false x2;simp(maxSteps:=2000000)only[go_sem,↓reduceIte,x1',x2'];exact bad 4 hR
theorem j9H(s:List UInt8)(n:Int)(v:Val)(k:Nat):(strG s n v k).2.v=v∨(strG s n v k).2.v=zeroV:=by
 unfold strG;split
 ·exact .inr rfl
 ·split
  ·dsimp only
   (repeat' split)<;>first|exact .inl rfl|exact .inr rfl
  ·exact .inr rfl
theorem z30(s:List UInt8)(q:List (Int×Int))(n:Int):(getG s q n).2.v.sm 1048576=true:=by
 unfold getG;split
 ·rfl
 ·split
  ·rfl
  ·split
   ·rfl
   ·split
    ·rfl
    ·rename_i hv;have hs:=q8r _ _ hv;split
     ·exact hs
     ·split
      ·rcases j9H s n _ (q0l s _+6)with h|h
       ·rw[h];exact hs
       ·rw[h];rfl
      ·rfl
theorem z3Y(s:List UInt8)(q:List (Int×Int)):∀(m:Nat) {v:Val},v.sm 1048576=true→(folG s q m v).2.sm 1048576=true
 |0,_,_=>rfl
 |m+1,v,h=>by
  rw[folG];split
  ·split
   ·rfl
   ·split
    ·rfl
    ·exact z3Y s q m (z30 s q v.n)
  ·exact h
theorem errQ(e:Nat):(errD e=.nil∧decide (e=6)=false)∨∃m:Int,errD e=.iface 49 (.int .i64 m)∧decide (e=6)=decide (m=6):=by
 by_cases h:e=0
 ·subst h;exact .inl ⟨rfl,rfl⟩
 ·refine .inr ⟨(e:Int),q0Q h,?_⟩;have:(e=6)=((e:Int)=6):=by apply propext;omega
  simp only[this]
def valR(p:Nat×Val):Res:=.tup [p.2.d,errD p.1]
def valN(p:Nat×Val):Res:=.tup [p.2.d,.int .i64 p.1]
theorem e7:errD 7=.iface 49 (.int .i64 7):=q0Q (by decide)
def q5j:q0g:=
 Qr [⟨some 3,.box (.t 1),none⟩,Qv 4,Qx 5 (.k (.d .nil))] (.seq (Qr [Q 8 (.cp (Ki 0))] (.block 0 (.loop (Qr [Qk 9 .lss 8 8] (.seq (.cond (.t 9) .skip (.exit 0)) (.seq (.block 1 
 (.seq (Qr [Qf 10 0 3,Ql 11 10,Qk 12 .neq 11 7] (.cond (.t 12) (Qr [Qm 13 5 3,Qj 14 52 [13],Qs 5 4 14,Qx 5 (.k (.d .nil))] .ret) .skip)) (Qr [Qc 16 0,Qf 17 1 3,Ql 18 17,Qq 
 19 11 [16,18],Qc 15 19,Qe 20 0 15,Qe 21 1 15,Qw 6,Qs 8 6 20,Qa 7 21] (.seq (Qr [Qc 22 7,Q 23 (.mkI 49 (Ki 6)),⟨some 24,.prim (.eq .eql 30) [.t 22,.t 23] [],none⟩] 
 (.cond (.t 24) (Qr [Qy 25,Qs 5 4 25,Qx 5 (.k (.d .nil))] .ret) .skip)) (.seq (Qr [Qc 26 7,Q 27 (.eqN 0 true (.t 26))] (.cond (.t 27) (Qr [Qy 28,Qc 29 7,Qs 5 4 28,Qa 5 29] 
 .ret) .skip)) (.reg [Qf 30 1 6,Qm 31 5 30,Qs 5 3 31])))))) (.reg [Qk 32 .add 8 1,Qc 8 32]))))))) (Qr [Qy 33,Q 34 (.mkI 49 (Ki 7)),Qs 5 4 33,Qa 5 34] .ret))
def q5q:List LRes:=[.cell 4 true 5,.tmp 5]
theorem q7H:q0n Tryz.prog 26 35 q5j q5q:=⟨_,_,Tryz.func26,rfl,by kernel_rfl,by kernel_rfl,rfl⟩
theorem z0y{s:List UInt8}{q:List (Int×Int)}(tv v:Val)(hs:s.length≤60000)(hq:okQ q)(hv:v.sm 1048576=true):
  q0i Tryz.prog 26 [filD s q tv,v.d] (fun r=>r=valR (folG s q 8 v)):=by
 generalize hR:folG s q 8 v=R;refine q7H.call rfl ?_;rw[Val.d_eq v];simp(maxSteps:=2000000)only[go_sem,↓reduceIte,q5j,q5q];refine q0f (fun y:Nat×Val=>⟨[(0,.d (filD s q tv)),(3,.ptr (.l 3) 0),(4,.ptr (.l 4) 0),(8,.d (.int .i64 y.1))],[(3,.cells [.d (.int .i64 y.2.kind),.d (.int .i64 y.2.n),.d (.str y.2.s),.d (.list (q0m y.2.l)),.d (.list (q0k y.2.f))]),(4,.cells [.d (.int .i64 0),.d (.int .i64 0),.d (.str []),.ns,.ns])],[]⟩)
  (fun y=>y.1≤8∧y.2.sm 1048576=true∧folG s q (8-y.1) y.2=R) (fun y=>8-y.1) (0,v) ?_ ⟨Zay _,hv,hR⟩ ?_
 ·refine Weak.mk ?_ ?_ ?_<;>simp(maxSteps:=2000000)only[go_sem,↓reduceIte,Sub,Zaa,Zab]
 ·rintro⟨i,u⟩ ⟨g1,g2,g3⟩;simp only at g1 g2 g3;simp(maxSteps:=2000000)only[go_sem,↓reduceIte];refine⟨fun h=>?_,fun h=>?_⟩
  ·obtain⟨m,hm⟩:∃m,8-i=m+1:=⟨7-i,by omega⟩;rw[hm,folG]at g3
   by_cases hk:u.kind=7
   ·rw[if_pos hk]at g3;have hk':(u.kind=7)=True:=eq_true hk;have hg:=z3k tv u.n hs hq;have hgs:=z30 s q u.n;have hee:=errQ (getG s q u.n).1;generalize getG s q u.n=S at hg g3 hgs hee;obtain⟨e,o⟩:=S;simp only at g3 hgs hee;simp only[objR,ObG.d]at hg;simp(maxSteps:=2000000)only[go_sem,↓reduceIte,hk']
    refine q0e.q0C ([]) ([]) rfl (hg.q1X (by kernel_rfl)) rfl rfl (by simp only[q0R,St.obj,aget,AObj.ren,AV.ren,AV.ren1,renL,q1P,renR,renQ,Zap,Zaq,and_true,and_self,Nat.reduceEqDiff,↓reduceIte,reduceCtorEq]) rfl rfl rfl ⟨rfl,rfl⟩ ?_;simp(maxSteps:=2000000)only[go_sem,↓reduceIte];refine q0e.j9e (tx:=49) (q:=.i64) (n:=6) (u:=errD e) (b:=decide (e=6)) rfl rfl hee Tryz.underlying30 (by kernel_rfl) (by kernel_rfl) ?_
    by_cases h6:e=6
    ·rw[if_pos h6]at g3;rw[decide_eq_true h6,←g3];simp(maxSteps:=2000000)only[go_sem,↓reduceIte,valR,q04,errD]
    ·rw[if_neg h6]at g3;rw[decide_eq_false h6]
     by_cases h0:e=0
     ·rw[if_neg (fun h=>h h0)]at g3;rw[h0,show errD 0=.nil from rfl];simp(maxSteps:=2000000)(disch:=omega)only[go_sem,↓reduceIte];refine⟨(i+1,o.v),?_,⟨by simp only;omega,hgs,by simp only;rw[show 8-(i+1)=m by omega];exact g3⟩,by simp only;omega⟩;refine Weak.mk ?_ ?_ ?_<;>simp(maxSteps:=2000000)only[go_sem,↓reduceIte,Sub,Zaa,Zab]
     ·rw[if_pos h0]at g3;rw[q0Q h0,←g3];simp(maxSteps:=2000000)only[go_sem,↓reduceIte,valR,q04,q0Q h0]
   ·rw[if_neg hk]at g3;have hk':(u.kind=7)=False:=eq_false hk;have hc:=j9c u g2;rw[Val.d_eq u]at hc;simp(maxSteps:=2000000)only[go_sem,↓reduceIte,hk'];refine q0c.of hc ?_;rw[←g3];simp(maxSteps:=2000000)only[go_sem,↓reduceIte,valR,Val.d_eq,errD]
  ·rw[show 8-i=0 by omega,folG]at g3;rw[←g3];simp(maxSteps:=2000000)only[go_sem,↓reduceIte,valR,q04,e7]
def q2n:q0g:=
 Qr [⟨some 3,.box (.t 1),none⟩,Qv 4,Qx 5 (Ki 0)] (.seq (Qr [Qx 6 (Ki 0)] (.block 0 (.loop (.seq (Qr [Qc 9 6,Qk 10 .lss 9 8] (.cond (.t 10) .skip (.exit 0))) (.seq (.block 1 
 (.seq (Qr [Qf 13 0 3,Ql 14 13,Qk 15 .neq 14 7] (.cond (.t 15) (Qr [Qm 16 5 3,Qs 5 4 16,Qx 5 (Ki 0)] .ret) .skip)) (Qr [Qc 18 0,Qf 19 1 3,Ql 20 19,Qq 21 29 [18,20],Qc 17 
 21,Qe 22 0 17,Qe 23 1 17,Qw 7,Qs 8 7 22,Qa 8 23] (.seq (Qr [Qc 24 8,Qk 25 .eql 24 6] (.cond (.t 25) (Qr [Qy 26,Qs 5 4 26,Qx 5 (Ki 0)] .ret) .skip)) (.seq (Qr [Qc 27 8,Qk 
 28 .gtr 27 0] (.cond (.t 28) (Qr [Qy 29,Qc 30 8,Qs 5 4 29,Qa 5 30] .ret) .skip)) (.reg [Qf 31 1 7,Qm 32 5 31,Qs 5 3 32])))))) (.reg [Qc 11 6,Qk 12 .add 11 1,Qa 6 12])))))) 
 (Qr [Qy 33,Qs 5 4 33,Qx 5 (Ki 7)] .ret))
def q2r:List LRes:=[.cell 4 true 5,.tmp 5]
theorem q4b:q0n Tryz.prog 27 34 q2n q2r:=⟨_,_,Tryz.func27,rfl,by kernel_rfl,by kernel_rfl,rfl⟩
theorem q9t{s:List UInt8}{q:List (Int×Int)}(tv v:Val)(last:Int)(hs:s.length≤60000)(hq:okQ q):
  q0i Tryz.prog 27 [modD s q tv last,v.d] (fun r=>r=valN (folG s q 8 v)):=by
 generalize hR:folG s q 8 v=R;refine q4b.call rfl ?_;rw[Val.d_eq v];simp(maxSteps:=2000000)only[go_sem,↓reduceIte,q2n,q2r];refine q0f (fun y:Nat×Val=>⟨[(0,.d (modD s q tv last)),(3,.ptr (.l 3) 0),(4,.ptr (.l 4) 0),(6,.d (.int .i64 y.1))],[(3,.cells [.d (.int .i64 y.2.kind),.d (.int .i64 y.2.n),.d (.str y.2.s),.d (.list (q0m y.2.l)),.d (.list (q0k y.2.f))]),(4,.cells [.d (.int .i64 0),.d (.int .i64 0),.d (.str []),.ns,.ns])],[]⟩)
  (fun y=>y.1≤8∧folG s q (8-y.1) y.2=R) (fun y=>8-y.1) (0,v) ?_ ⟨Zay _,hR⟩ ?_
 ·refine Weak.mk ?_ ?_ ?_<;>simp(maxSteps:=2000000)only[go_sem,↓reduceIte,Sub,Zaa,Zab]
 ·rintro⟨i,u⟩ ⟨g1,g3⟩;simp only at g1 g3;simp(maxSteps:=2000000)only[go_sem,↓reduceIte];refine⟨fun h=>?_,fun h=>?_⟩
  ·obtain⟨m,hm⟩:∃m,8-i=m+1:=⟨7-i,by omega⟩;rw[hm,folG]at g3
   by_cases hk:u.kind=7
   ·rw[if_pos hk]at g3;have hk':(u.kind=7)=True:=eq_true hk;have hg:=z4I tv last u.n hs hq;generalize getG s q u.n=S at hg g3;obtain⟨e,o⟩:=S;simp only at g3;simp only[objN,ObG.d]at hg;simp(maxSteps:=2000000)only[go_sem,↓reduceIte,hk'];refine q0e.q0C ([]) ([]) rfl (hg.q1X (by kernel_rfl)) rfl rfl (by simp only[q0R,St.obj,aget,AObj.ren,AV.ren,AV.ren1,renL,q1P,renR,renQ,Zap,Zaq,and_true,and_self,Nat.reduceEqDiff,↓reduceIte,reduceCtorEq]) rfl rfl rfl ⟨rfl,rfl⟩ ?_
    by_cases h6:e=6
    ·rw[if_pos h6]at g3;have h6':((e:Int)=6)=True:=eq_true (by omega);rw[←g3];simp(maxSteps:=2000000)only[go_sem,↓reduceIte,h6',valN,q04]
    ·rw[if_neg h6]at g3;have h6':((e:Int)=6)=False:=eq_false (by omega)
     by_cases h0:e=0
     ·rw[if_neg (fun h=>h h0)]at g3;have h0':(0<(e:Int))=False:=eq_false (by omega);simp(maxSteps:=2000000)(disch:=omega)only[go_sem,↓reduceIte,h6',h0'];refine⟨(i+1,o.v),?_,⟨by simp only;omega,by simp only;rw[show 8-(i+1)=m by omega];exact g3⟩,by simp only;omega⟩;refine Weak.mk ?_ ?_ ?_<;>simp(maxSteps:=2000000)only[go_sem,↓reduceIte,Sub,Zaa,Zab]
     ·rw[if_pos h0]at g3;have h0':(0<(e:Int))=True:=eq_true (by omega);rw[←g3];simp(maxSteps:=2000000)only[go_sem,↓reduceIte,h6',h0',valN,q04]
   ·rw[if_neg hk]at g3;have hk':(u.kind=7)=False:=eq_false hk;rw[←g3];simp(maxSteps:=2000000)only[go_sem,↓reduceIte,hk',valN,Val.d_eq]
  ·rw[show 8-i=0 by omega,folG]at g3;rw[←g3];simp(maxSteps:=2000000)only[go_sem,↓reduceIte,valN,q04]
def q2S(l:List (List UInt8)):List D:=l.map D.str
theorem q5F(l:List (List UInt8)):(q2S l).length=l.length:=by simp[q2S]
theorem z1K(l:List (List UInt8))(j:Nat):(q2S l)[j]?=(l[j]?).map D.str:=by simp[q2S]
def namR(p:Nat×List (List UInt8)):Res:=.tup [.list (q2S p.2),errD p.1]
def namN(p:Nat×List (List UInt8)):Res:=.tup [.list (q2S p.2),.int .i64 p.1]
theorem j5n{L:List Val}{j:Nat}{x:Val}(h:L[j]?=some x):getI (q0m L) (j:Int)=some (.agg [.int .i64 x.kind,.int .i64 x.n,.str x.s,.list (q0m x.l),.list (q0k x.f)]):=by
 rw[q0a,q3c,h,Zax,Val.d_eq]
theorem z6F{v p:Val}{nm:List UInt8}(hv:v.sm 1048576=true)(h:getV nm v.f=some p):p.sm 1048576=true:=by
 obtain⟨x,hx,rfl⟩:=z9W h;exact(Fld.q1e.1 ((Val.q1e.1 hv).2.2.2.2 x hx)).2
def q4A:q0g:=
 Qr [⟨some 3,.box (.t 1),none⟩,⟨some 4,.nils 9 1,none⟩,Qx 5 (.k (.d .nil))] (Qr [Qf 14 1 3,Qm 15 5 14,⟨some 16,.call 18 [.t 15,.k (.d (.str [70,105,108,116,101, 
 114]))],none⟩,Qc 13 16,Qe 17 0 13,Qe 18 1 13,Qv 6,Qs 5 6 17,Qa 7 18] (.seq (Qr [Qc 19 7,Qh 20 19] (.cond (.t 20) (Qr [⟨some 4,.nils 9 1,none⟩,Qx 5 (.k (.d .nil))] 
 .ret) .skip)) (Qr [Qc 22 0,Qm 23 5 6,Qq 24 26 [22,23],Qc 21 24,Qe 25 0 21,Qe 26 1 21,Qs 5 6 25,Qa 8 26] (.seq (Qr [Qc 27 8,Q 28 (.eqN 0 true (.t 27))] (.cond (.t 28) (Qr 
 [Qc 29 8,⟨some 4,.nils 9 1,none⟩,Qa 5 29] .ret) .skip)) (Qr [Qm 30 5 6,⟨some 31,.bsl 25 5 [.t 30],none⟩,Qa 9 31] (.seq (Qr [Qf 32 0 6,Ql 33 32,Qk 34 .eql 33 5] (.cond 
 (.t 34) (.reg [Qf 35 3 6,Ql 36 35,Qa 9 36]) .skip)) (.seq (Qr [Qf 37 0 6,Ql 38 37,Qk 39 .eql 38 0] (.cond (.t 39) (.reg [⟨some 9,.nils 25 5,none⟩]) .skip)) (Qr [⟨some 10, 
 .nils 9 1,none⟩] (.seq (Qr [Qc 40 9,Qz 41 false 40,Q 42 (.cp (Ki 0))] (.block 0 (.loop (Qr [Qb 43 .lss 42 41] (.seq (.cond (.t 43) .skip (.exit 0)) (.seq (.block 1 (Qr [Q 44 
 (.ia 5 (.t 40) (.t 42)),Qm 45 5 44,Qv 12,Qs 5 12 45] (Qr [Qc 47 0,Qm 48 5 12,Qq 49 26 [47,48],Qc 46 49,Qe 50 0 46,Qe 51 1 46,Qs 5 12 50,Qa 8 51] (.seq (Qr [Qc 52 8,Q 
 53 (.eqN 0 true (.t 52))] (.cond (.t 53) (Qr [Qc 54 8,⟨some 4,.nils 9 1,none⟩,Qa 5 54] .ret) .skip)) (.seq (Qr [Qf 55 0 12,Ql 56 55,Qk 57 .neq 56 4] (.cond (.t 57) (Qr [Q 
 58 (.mkI 49 (Ki 8)),⟨some 4,.nils 9 1,none⟩,Qa 5 58] .ret) .skip)) (.reg [Qc 59 10,Qf 60 2 12,Ql 61 60,⟨some 62,.bsl 9 1 [.t 61],none⟩,⟨some 63,.app 9 1 16 false (.t 
 59) (.t 62),none⟩,Qa 10 63])))))) (.reg [Qk 64 .add 42 1,Qc 42 64]))))))) (Qr [Qc 65 10,Qa 4 65,Qx 5 (.k (.d .nil))] .ret))))))))))
def q4P:List LRes:=[.tmp 4,.tmp 5]
theorem q67:q0n Tryz.prog 33 66 q4A q4P:=⟨_,_,Tryz.func33,rfl,by kernel_rfl,by kernel_rfl,rfl⟩
theorem z2N{s:List UInt8}{q:List (Int×Int)}(tv:Val)(o:ObG)(hs:s.length≤60000)(hq:okQ q)(hv:o.v.sm 1048576=true):
  q0i Tryz.prog 33 [filD s q tv,o.d] (fun r=>r=namR (z1l s q o)):=by
 have g:=q87 o.v filN (Val.q1e.1 hv).2.2.1;rw[Val.d_eq o.v]at g;generalize hR:z1l s q o=R;unfold z1l at hR;refine q67.call rfl ?_;simp(maxSteps:=2000000)only[go_sem,↓reduceIte,q4A,q4P,ObG.d];refine q0c.of g ?_;cases hg:getV filN o.v.f with
 |none=>
  rw[hg]at hR;simp only[getR,Zcj,Zbu,q04];rw[←hR];simp(maxSteps:=2000000)only[go_sem,↓reduceIte,namR,q2S,Zbs,errD]
 |some p=>
  rw[hg]at hR;simp only at hR;have psm:=z6F hv hg;have hfo:=z0y tv p hs hq psm;have ysm:=z3Y s q 8 psm;generalize folG s q 8 p=S at hfo ysm hR;obtain⟨e,y⟩:=S;simp only[valR,Val.d_eq]at hfo;simp only at hR ysm;simp only[getR,Zbd,Zcb,Val.d_eq p];simp(maxSteps:=2000000)only[go_sem,↓reduceIte]
  refine q0e.q0C ([]) ([]) rfl (hfo.q1X (by kernel_rfl)) rfl rfl (by simp only[q0R,St.obj,aget,AObj.ren,AV.ren,AV.ren1,renL,q1P,renR,renQ,Zap,Zaq,and_true,and_self,Nat.reduceEqDiff,↓reduceIte,reduceCtorEq]) rfl rfl rfl ⟨rfl,rfl⟩ ?_
  by_cases h0:e=0
  ·rw[if_neg (fun h=>h h0)]at hR;rw[h0,show errD 0=.nil from rfl];obtain⟨L,hL⟩:∃L,(if y.kind=5 then y.l else if y.kind=0 then[]else[y])=L:=⟨_,rfl⟩;rw[hL]at hR;have Lsm:∀x∈L,x.sm 1048576=true:=fun x hx=>by
    rw[←hL]at hx;split at hx
    ·exact(Val.q1e.1 ysm).2.2.2.1 x hx
    ·split at hx
     ·cases hx
     ·rw[Zci.1 hx];exact ysm
   have Lln:L.length≤1048576:=by
    rw[←hL];split
    ·exact(Val.q1e.1 ysm).2.1
    ·split<;>simp
   have hvl:=q0H L;have h3:(y.kind=5∧y.l=L)∨(y.kind=0∧[]=L)∨(¬y.kind=5∧¬y.kind=0∧[y]=L):=by
    by_cases k5:y.kind=5
    ·rw[if_pos k5]at hL;exact .inl ⟨k5,hL⟩
    ·rw[if_neg k5]at hL
     by_cases k0:y.kind=0
     ·rw[if_pos k0]at hL;exact .inr (.inl ⟨k0,hL⟩)
     ·rw[if_neg k0]at hL;exact .inr (.inr ⟨k5,k0,hL⟩)
   clear hL;have one:q0m [y]=[.agg [.int .i64 y.kind,.int .i64 y.n,.str y.s,.list (q0m y.l),.list (q0k y.f)]]:=by rw[q0m,q0m,Val.d_eq]
   rcases h3 with⟨q1,hL⟩|⟨q1,hL⟩|⟨k5,k0,hL⟩;have hVL:q0m L=q0m y.l:=by rw[←hL]
   obtain⟨X,hX⟩:∃X:AV,X=.d (.list (q0m L)):=⟨_,rfl⟩;have q2:=q1
   rotate_left
   have hVL:q0m L=[]:=by rw[←hL];rfl
   obtain⟨X,hX⟩:∃X:AV,X=.own (.t 9) 25 5 (q0m L):=⟨_,rfl⟩;have q2:=q1
   rotate_left
   have hVL:=one;obtain⟨X,hX⟩:∃X:AV,X=.own (.t 9) 25 5 (q0m L):=⟨_,rfl⟩;rw[hL]at hVL;have q1:(y.kind=5)=False:=eq_false k5;have q2:(y.kind=0)=False:=eq_false k0
   rotate_left
   all_goals
    simp(maxSteps:=2000000)only[go_sem,↓reduceIte,q1,q2];refine q0f (fun z:Nat×List (List UInt8)=>⟨[(0,.d (filD s q tv)),(10,.own (.t 10) 9 1 (q2S z.2)),(40,X),(41,.d (.int .i64 (q0m L).length)),(42,.d (.int .i64 z.1))],[],[]⟩)
     (fun z=>z.1≤L.length∧z.2.length≤z.1∧z5r s q (L.drop z.1) z.2=R) (fun z=>L.length-z.1) (0,[]) ?_ ⟨Zay _,Zak _,hR⟩ ?_
    ·refine Weak.mk ?_ ?_ ?_<;>simp(maxSteps:=2000000)only[go_sem,↓reduceIte,Sub,Zaa,Zab,hX,hVL,q1,q2S,Zbs]
    ·subst hX;clear hVL one q1 q2;rintro⟨j,acc⟩ ⟨g1,g2,g3⟩;simp only at g1 g2 g3;have hal:=q5F acc;simp(maxSteps:=2000000)only[go_sem,↓reduceIte,hvl];refine⟨fun h=>?_,fun h=>?_⟩
     ·obtain⟨x,hx⟩:=get_some (l:=L) (i:=j) (by omega);have hld:=j5n hx;have xsm:=Lsm x (Zaf hx);have hfx:=z0y tv x hs hq xsm;rw[q9W hx,z5r]at g3;generalize folG s q 8 x=S at hfx g3;obtain⟨e2,z⟩:=S;simp only at g3;simp only[valR,Val.d_eq]at hfx;simp(maxSteps:=2000000)(disch:=omega)only[go_sem,↓reduceIte,hld]
      refine q0e.q0C ([]) ([]) rfl (hfx.q1X (by kernel_rfl)) rfl rfl (by simp only[q0R,St.obj,aget,AObj.ren,AV.ren,AV.ren1,renL,q1P,renR,renQ,Zap,Zaq,and_true,and_self,Nat.reduceEqDiff,↓reduceIte,reduceCtorEq]) rfl rfl rfl ⟨rfl,rfl⟩ ?_
      by_cases h2:e2=0
      ·rw[if_neg (fun h=>h h2)]at g3;rw[h2,show errD 0=.nil from rfl]
       by_cases k4:z.kind=4
       ·rw[if_pos k4]at g3;have k4':(z.kind=4)=True:=eq_true k4;have hsn:q2S acc++[D.str z.s]=q2S (acc++[z.s]):=by simp[q2S]
        simp(maxSteps:=2000000)(disch:=omega)only[go_sem,↓reduceIte,k4',hsn];refine⟨⟨by omega,by omega⟩,(j+1,acc++[z.s]),?_,⟨by simp only;omega,by simp only[Zad,Zcg];omega,g3⟩,by simp only;omega⟩;refine Weak.mk ?_ ?_ ?_<;>simp(maxSteps:=2000000)only[go_sem,↓reduceIte,Sub,Zaa,Zab]
       ·rw[if_neg k4]at g3;have k4':(z.kind=4)=False:=eq_false k4;rw[←g3];simp(maxSteps:=2000000)only[go_sem,↓reduceIte,k4',namR,q2S,Zbs,e8]
      ·rw[if_pos h2]at g3;rw[q0Q h2,←g3];simp(maxSteps:=2000000)only[go_sem,↓reduceIte,namR,q2S,Zbs,q0Q h2]
     ·rw[Zai (by omega),z5r]at g3;rw[←g3];simp(maxSteps:=2000000)only[go_sem,↓reduceIte,namR,errD]
  ·rw[if_pos h0]at hR;rw[q0Q h0,←hR];simp(maxSteps:=2000000)only[go_sem,↓reduceIte,namR,q2S,Zbs,q0Q h0]
end Go.Av.Tryz
