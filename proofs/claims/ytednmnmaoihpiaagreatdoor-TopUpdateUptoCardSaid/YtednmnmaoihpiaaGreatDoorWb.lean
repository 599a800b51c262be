import Derived.Test.YtednmnmaoihpiaaGreatDoorWa
import Derived.Shelf.Strconv.Itoa3
import Derived.Test.YtednmnmaoihpiaaGreatDoorAvG
import Derived.Lib.Bytealg
set_option linter.unusedSimpArgs false
set_option maxRecDepth 100000
namespace Go.Av.Tryz
open Go.Proofs
def strB(c:UInt8):List UInt8:=if c=40∨c=41∨c=92 then[92,c]else if 32≤c.toNat∧c.toNat≤126 then[c]else[92,UInt8.ofNat (48+c.toNat / 64),UInt8.ofNat (48+c.toNat / 8 % 8),UInt8.ofNat (48+c.toNat % 8)]
def strP(s:List UInt8):List UInt8:=s.flatMap strB
theorem z7J(c:UInt8):(strB c).length≤4:=by
 unfold strB;repeat' split
 all_goals simp
theorem q8o(s:List UInt8):(strP s).length≤4*s.length:=by
 induction s with
 |nil=>simp[strP]
 |cons c s ih=>
  have:strP (c::s)=strB c++strP s:=rfl;rw[this,Zad];have:=z7J c;simp only[Zaf];omega
theorem q5Z{s:List UInt8}{i:Nat}{c:UInt8}(h:s[i]?=some c):strP (s.take (i+1))=strP (s.take i)++strB c:=by
 simp[strP,z2q h]
theorem and7(n:Nat):n &&& 7=n % 8:=Nat.and_two_pow_sub_one_eq_mod n 3
theorem z5a(a b c:Nat):bytesOf [.int .u8 (48+(a:Int)),.int .u8 (48+(b:Int)),.int .u8 (48+(c:Int))]=some [UInt8.ofNat (48+a),UInt8.ofNat (48+b),UInt8.ofNat (48+c)]:=by
 have h:∀x:Nat,(48+(x:Int)).toNat=48+x:=fun x=>by omega
 simp only[bytesOf,h,Zat]
def z07:q0l:=
 .seq (.reg [Qc 6 0,⟨some 7,.prim .call [.k (.fn (.func 90) [] []),.t 6,.k (.d (.int .u8 40))] [],none⟩]) (.seq (.seq (.reg [Qc 8 1,Q 9 (.len true (.t 8)),Q 10 (.cp (Ki 0))]) 
 (.block 0 (.loop (.seq (.reg [Q 11 (.bin .lss (.t 10) (.t 9))]) (.seq (.cond (.t 11) .skip (.exit 0)) (.seq (.block 1 (.seq (.reg [Qc 12 10,Qa 4 12]) (.seq (.reg [Qc 13 1,Qc 14 
 4,Q 15 (.idxS (.t 13) (.t 14)),Qa 5 15]) (.block 2 (.seq (.reg [Qc 32 5,Q 33 (.bin .eql (.t 32) (Kb 40)),Qc 34 33,Qd 35 5 34 false,Qg 36 (.bin .eql (.t 35) (Kb 41)) 34 
 false,Q 37 (.pick (.t 34) KT (.t 36)),Qc 38 37,Qd 39 5 38 false,Qg 40 (.bin .eql (.t 39) (Kb 92)) 38 false,Q 41 (.pick (.t 38) KT (.t 40)),Qa 31 41]) (.cond (.t 31) (.reg 
 [Qc 42 0,Qc 43 5,Q 44 (.cvI .i32 (.t 43)),Q 45 (.i2s (.t 44)),Q 46 (.bin .add (.k (.d (.str [92]))) (.t 45)),⟨some 47,.prim .call [.k (.fn (.func 86) [] []),.t 42,.t 46] 
 [],none⟩]) (.seq (.reg [Qc 49 5,Q 50 (.bin .geq (.t 49) (Kb 32)),Qc 51 50,Qd 52 5 51 true,Qg 53 (.bin .leq (.t 52) (Kb 126)) 51 true,Q 54 (.pick (.t 51) (.t 53) KF),Qa 48 
 54]) (.cond (.t 48) (.reg [Qc 55 0,Qc 56 5,⟨some 57,.prim .call [.k (.fn (.func 90) [] []),.t 55,.t 56] [],none⟩]) (.reg [Qc 16 0,Qc 17 5,Q 18 (.bin .shr (.t 17) (.k (.d 
 (.int .u64 6)))),Q 19 (.bin .add (Kb 48) (.t 18)),Qc 20 5,Q 21 (.bin .shr (.t 20) (.k (.d (.int .u64 3)))),Q 22 (.bin .and (.t 21) (Kb 7)),Q 23 (.bin .add (Kb 48) (.t 22)), 
 Qc 24 5,Q 25 (.bin .and (.t 24) (Kb 7)),Q 26 (.bin .add (Kb 48) (.t 25)),⟨some 27,.bsl 5 1 [.t 19,.t 23,.t 26],none⟩,Q 28 (.b2s (.t 27)),Q 29 (.bin .add (.k (.d (.str 
 [92]))) (.t 28)),⟨some 30,.prim .call [.k (.fn (.func 86) [] []),.t 16,.t 29] [],none⟩]))))))))) (.reg [Q 58 (.bin .add (.t 10) (Ki 1)),Qc 10 58]))))))) (.reg [Qc 59 0, 
 ⟨some 60,.prim .call [.k (.fn (.func 90) [] []),.t 59,.k (.d (.int .u8 41))] [],none⟩]))
def z1c:List LRes:=[]
theorem z2F:q0E Tryz.prog 88 61 z07 z1c:=⟨_,_,Tryz.func88,rfl,by kernel_rfl,by kernel_rfl,rfl⟩
theorem j7a(b:Bld)(s:List UInt8)(hl:b.bytes.length+4*s.length+2≤1000000000):q1c Tryz.prog 88 [.ptr (.x 0) 0,.d (.str s)] [b.at (.x 0)] (.tuple []) [Bld.at (.x 0) (.has (b.bytes++[40]++strP s++[41]))]:=by
 refine z2F.q0G (by kernel_rfl) rfl ?_;simp only[go_sem,↓reduceIte,z07,z1c];refine q09 (.x 0) rfl (q1z b 40 (by omega)) rfl rfl rfl rfl ?_;simp only[go_sem,↓reduceIte];refine q0n (fun i:Nat=>⟨[(0,.ptr (.x 0) 0),(1,.d (.str s)),(8,.d (.str s)),(9,.d (.int .i64 s.length)),(10,.d (.int .i64 i))],[],
   [(0,Bld.at (.x 0) (.has (b.bytes++[40]++strP (s.take i))))]⟩)
  (fun i=>i≤s.length) (fun i=>s.length-i) 0 ?_ ?_ ?_
 ·refine Weak.mk ?_ ?_ ?_<;>simp only[go_sem,↓reduceIte,Sub,Zab,Zac,Zcf,strP,List.flatMap_nil]
 ·omega
 ·intro i hi;have hle:=q8o (s.take i);rw[Zaq]at hle;simp only[go_sem,↓reduceIte];refine⟨fun hlt=>?_,fun hge=>?_⟩
  ·obtain⟨c,hc⟩:=get_some (l:=s) (i:=i) (by omega);have hc8:=q4f c;have cc:∀k:Nat,c.toNat=k→c=UInt8.ofNat k:=fun k h=>by rw[←h];simp
   rcases(by omega:c.toNat=40∨c.toNat=41∨c.toNat=92∨(c.toNat≠40∧c.toNat≠41∧c.toNat≠92∧32≤c.toNat∧c.toNat≤126)∨(c.toNat≠40∧c.toNat≠41∧c.toNat≠92∧¬(32≤c.toNat∧c.toNat≤126)))with q|q|q|q|q
   ·have i32:IntKind.i32.wrap (c.toNat:Int)=c.toNat:=IntWalk.i32_in _ (by omega);have en:(Utf8.encode (c.toNat:Int)).data.toList=[c]:=q5e (by omega);have n40:((c.toNat:Int)=40)=True:=eq_true (by omega);have n41:((c.toNat:Int)=41)=False:=eq_false (by omega);have n92:((c.toNat:Int)=92)=False:=eq_false (by omega);simp(disch:=omega)only[go_sem,↓reduceIte,q0g s,hc,n40,n41,n92,i32,en]
    refine q09 (.x 0) rfl (q0L (.has (b.bytes++[40]++strP (s.take i))) [92,c] (by simp only[Bld.q0r,Zad,Zaf,Zag];omega)) rfl rfl rfl rfl ?_;simp(disch:=omega)only[go_sem,↓reduceIte];refine⟨i+1,?_,by omega,by omega⟩;have hb:strB c=[92,c]:=by rw[cc _ q];rfl
    refine Weak.mk ?_ ?_ ?_<;>simp only[go_sem,↓reduceIte,Sub,Zab,Zac,q5Z hc,Bld.q0r,hb,List.append_assoc]
   ·have i32:IntKind.i32.wrap (c.toNat:Int)=c.toNat:=IntWalk.i32_in _ (by omega);have en:(Utf8.encode (c.toNat:Int)).data.toList=[c]:=q5e (by omega);have n40:((c.toNat:Int)=40)=False:=eq_false (by omega);have n41:((c.toNat:Int)=41)=True:=eq_true (by omega);have n92:((c.toNat:Int)=92)=False:=eq_false (by omega);simp(disch:=omega)only[go_sem,↓reduceIte,q0g s,hc,n40,n41,n92,i32,en]
    refine q09 (.x 0) rfl (q0L (.has (b.bytes++[40]++strP (s.take i))) [92,c] (by simp only[Bld.q0r,Zad,Zaf,Zag];omega)) rfl rfl rfl rfl ?_;simp(disch:=omega)only[go_sem,↓reduceIte];refine⟨i+1,?_,by omega,by omega⟩;have hb:strB c=[92,c]:=by rw[cc _ q];rfl
    refine Weak.mk ?_ ?_ ?_<;>simp only[go_sem,↓reduceIte,Sub,Zab,Zac,q5Z hc,Bld.q0r,hb,List.append_assoc]
   ·have i32:IntKind.i32.wrap (c.toNat:Int)=c.toNat:=IntWalk.i32_in _ (by omega);have en:(Utf8.encode (c.toNat:Int)).data.toList=[c]:=q5e (by omega);have n40:((c.toNat:Int)=40)=False:=eq_false (by omega);have n41:((c.toNat:Int)=41)=False:=eq_false (by omega);have n92:((c.toNat:Int)=92)=True:=eq_true (by omega);simp(disch:=omega)only[go_sem,↓reduceIte,q0g s,hc,n40,n41,n92,i32,en]
    refine q09 (.x 0) rfl (q0L (.has (b.bytes++[40]++strP (s.take i))) [92,c] (by simp only[Bld.q0r,Zad,Zaf,Zag];omega)) rfl rfl rfl rfl ?_;simp(disch:=omega)only[go_sem,↓reduceIte];refine⟨i+1,?_,by omega,by omega⟩;have hb:strB c=[92,c]:=by rw[cc _ q];rfl
    refine Weak.mk ?_ ?_ ?_<;>simp only[go_sem,↓reduceIte,Sub,Zab,Zac,q5Z hc,Bld.q0r,hb,List.append_assoc]
   ·obtain⟨q1,q2,q3,q4,q5⟩:=q;have n40:((c.toNat:Int)=40)=False:=eq_false (by omega);have n41:((c.toNat:Int)=41)=False:=eq_false (by omega);have n92:((c.toNat:Int)=92)=False:=eq_false (by omega);have L32:((32:Int)≤c.toNat)=True:=eq_true (by omega);have G126:((c.toNat:Int)≤126)=True:=eq_true (by omega);simp(disch:=omega)only[go_sem,↓reduceIte,q0g s,hc,n40,n41,n92,L32,G126]
    refine q09 (.x 0) rfl (q1z (.has (b.bytes++[40]++strP (s.take i))) c (by simp only[Bld.q0r,Zad,Zaf,Zag];omega)) rfl rfl rfl rfl ?_;simp(disch:=omega)only[go_sem,↓reduceIte];refine⟨i+1,?_,by omega,by omega⟩;have hb:strB c=[c]:=by
     have z:¬(c=40∨c=41∨c=92):=by
      rintro(rfl|rfl|rfl)
      ·exact q1 rfl
      ·exact q2 rfl
      ·exact q3 rfl
     simp[strB,z,q4,q5]
    refine Weak.mk ?_ ?_ ?_<;>simp only[go_sem,↓reduceIte,Sub,Zab,Zac,q5Z hc,Bld.q0r,hb,List.append_assoc]
   ·obtain⟨q1,q2,q3,q4⟩:=q;have e1:Int.fdiv (c.toNat:Int) (2 ^ min 6 IntKind.u8.bits)=((c.toNat / 64:Nat):Int):=j2y c.toNat 6;have e2:Int.fdiv (c.toNat:Int) (2 ^ min 3 IntKind.u8.bits)=((c.toNat / 8:Nat):Int):=j2y c.toNat 3;have e3:IntKind.u8.wrap (((BitVec.ofInt IntKind.u8.bits ((c.toNat / 8:Nat):Int) &&& BitVec.ofInt IntKind.u8.bits 7).toNat:Nat):Int)=((c.toNat / 8 % 8:Nat):Int):=by
     rw[←and7];exact j0q (m:=7) (by omega) (by decide)
    have e4:IntKind.u8.wrap (((BitVec.ofInt IntKind.u8.bits (c.toNat:Int) &&& BitVec.ofInt IntKind.u8.bits 7).toNat:Nat):Int)=((c.toNat % 8:Nat):Int):=by
     rw[←and7];exact j0q (m:=7) hc8 (by decide)
    have hb:strB c=[92,UInt8.ofNat (48+c.toNat / 64),UInt8.ofNat (48+c.toNat / 8 % 8),UInt8.ofNat (48+c.toNat % 8)]:=by
     have z:¬(c=40∨c=41∨c=92):=by
      rintro(rfl|rfl|rfl)
      ·exact q1 rfl
      ·exact q2 rfl
      ·exact q3 rfl
     unfold strB;rw[if_neg z,if_neg q4]
    rcases(by omega:¬32≤c.toNat∨(32≤c.toNat∧¬c.toNat≤126))with r|r
    ·skip
     have n40:((c.toNat:Int)=40)=False:=eq_false (by omega);have n41:((c.toNat:Int)=41)=False:=eq_false (by omega);have n92:((c.toNat:Int)=92)=False:=eq_false (by omega);have L32:((32:Int)≤c.toNat)=False:=eq_false (by omega)
     simp(disch:=omega)only[q0g s,hc,Zat,q16,St.put,q6N,q9N,asgS,St.ev,St.get,aget,↓reduceIte,Zbp,q8g,q6f,q5W,run_seq,q8l,q4V,pev,fB,binD,binI,n40,decide_false,q4U,St.mark,aset,putO,Bool.not_false,q53,Nat.reduceEqDiff,n41,z1p,Zbc,n92,q6h,q7R,L32,Zdf,reduceCtorEq,Int.reduceLT,Int.reduceToNat,e1,IntWalk.u8_in,e2,e3,e4,z7r,bslS,evL,q4m,AV.rd,q7t,D.cells,Zaf,Zag,Zbh,beq_self_eq_true,Bool.and_self,Nat.reduceAdd,Nat.reduceMul,Nat.reduceLeDiff,ne_eq,not_false_eq_true,and_self,St.erase,amap,AV.erase,z0L,fB2s,z5a,binS,Int.cast_ofNat_Int,Int.reduceLE,Zba,Zav,q5h]
     refine q09 (.x 0) rfl (q0L (.has (b.bytes++[40]++strP (s.take i))) [92,UInt8.ofNat (48+c.toNat / 64),UInt8.ofNat (48+c.toNat / 8 % 8),UInt8.ofNat (48+c.toNat % 8)] (by simp only[Bld.q0r,Zad,Zaf,Zag];omega)) rfl rfl rfl rfl ?_;simp(disch:=omega)only[go_sem,↓reduceIte];refine⟨i+1,?_,by omega,by omega⟩;refine Weak.mk ?_ ?_ ?_<;>simp only[go_sem,↓reduceIte,Sub,Zab,Zac,q5Z hc,Bld.q0r,hb,List.append_assoc]
    ·skip
     have n40:((c.toNat:Int)=40)=False:=eq_false (by omega);have n41:((c.toNat:Int)=41)=False:=eq_false (by omega);have n92:((c.toNat:Int)=92)=False:=eq_false (by omega);have L32:((32:Int)≤c.toNat)=True:=eq_true (by omega);have G126:((c.toNat:Int)≤126)=False:=eq_false (by omega)
     simp(disch:=omega)only[q0g s,hc,Zat,q16,St.put,q6N,q9N,asgS,St.ev,St.get,aget,↓reduceIte,Zbp,q8g,q6f,q5W,run_seq,q8l,q4V,pev,fB,binD,binI,n40,decide_false,q4U,St.mark,aset,putO,Bool.not_false,q53,Nat.reduceEqDiff,n41,z1p,Zbc,n92,q6h,q7R,L32,decide_true,Zdf,G126,reduceCtorEq,Int.reduceLT,Int.reduceToNat,e1,IntWalk.u8_in,e2,e3,e4,z7r,bslS,evL,q4m,AV.rd,q7t,D.cells,Zaf,Zag,Zbh,beq_self_eq_true,Bool.and_self,Nat.reduceAdd,Nat.reduceMul,Nat.reduceLeDiff,ne_eq,not_false_eq_true,and_self,St.erase,amap,AV.erase,z0L,fB2s,z5a,binS,Int.cast_ofNat_Int,Int.reduceLE,Zba,Zav,q5h]
     refine q09 (.x 0) rfl (q0L (.has (b.bytes++[40]++strP (s.take i))) [92,UInt8.ofNat (48+c.toNat / 64),UInt8.ofNat (48+c.toNat / 8 % 8),UInt8.ofNat (48+c.toNat % 8)] (by simp only[Bld.q0r,Zad,Zaf,Zag];omega)) rfl rfl rfl rfl ?_;simp(disch:=omega)only[go_sem,↓reduceIte];refine⟨i+1,?_,by omega,by omega⟩;refine Weak.mk ?_ ?_ ?_<;>simp only[go_sem,↓reduceIte,Sub,Zab,Zac,q5Z hc,Bld.q0r,hb,List.append_assoc]
  ·have hll:=q8o s;rw[Zbs (by omega)];refine q09 (.x 0) rfl (q1z (.has (b.bytes++[40]++strP s)) 41 (by simp only[Bld.q0r,Zad,Zaf,Zag];omega)) rfl rfl rfl rfl ?_;simp only[go_sem,↓reduceIte,Bld.q0r]
open Go.Shelf
def z5y:Go.Shelf.Ren:=⟨fun|171=>24|243=>47|246=>73|283=>101|284=>102|285=>103|286=>104|129=>69|317=>122|318=>123|319=>124|320=>125|337=>139|338=>140|n=>n,fun|3=>3|9=>9|2=>2|4=>4|171=>142|0=>0|53=>119|37=>100|5=>5|173=>144|212=>162|51=>117|20=>20|213=>163|46=>84|232=>183|233=>184|n=>n,fun|17=>1|18=>2|19=>3|n=>n⟩
theorem j3K:Go.Proofs.LaysM.n171 Tryz.prog z5y where
 mixed:=by kernel_rfl
 f129:=Tryz.func69.trans (congrArg some (by kernel_rfl))
 f171:=Tryz.func24.trans (congrArg some (by kernel_rfl))
 f243:=Tryz.func47.trans (congrArg some (by kernel_rfl))
 f246:=Tryz.func73.trans (congrArg some (by kernel_rfl))
 f283:=Tryz.func101.trans (congrArg some (by kernel_rfl))
 f284:=Tryz.func102.trans (congrArg some (by kernel_rfl))
 f285:=Tryz.func103.trans (congrArg some (by kernel_rfl))
 f286:=Tryz.func104.trans (congrArg some (by kernel_rfl))
 f317:=Tryz.func122.trans (congrArg some (by kernel_rfl))
 f318:=Tryz.func123.trans (congrArg some (by kernel_rfl))
 f319:=Tryz.func124.trans (congrArg some (by kernel_rfl))
 f320:=Tryz.func125.trans (congrArg some (by kernel_rfl))
 f337:=Tryz.func139.trans (congrArg some (by kernel_rfl))
 f338:=Tryz.func140.trans (congrArg some (by kernel_rfl))
 t0:=Tryz.underlying0
 a0:=Tryz.isAgg0
 z0:=Tryz.sizeOf0
 v0:=Tryz.zeroValue0
 t2:=Tryz.underlying2
 a2:=Tryz.isAgg2
 z2:=Tryz.sizeOf2
 v2:=Tryz.zeroValue2
 t3:=Tryz.underlying3
 a3:=Tryz.isAgg3
 z3:=Tryz.sizeOf3
 v3:=Tryz.zeroValue3
 t4:=Tryz.underlying4
 a4:=Tryz.isAgg4
 z4:=Tryz.sizeOf4
 v4:=Tryz.zeroValue4
 t5:=Tryz.underlying5
 a5:=Tryz.isAgg5
 z5:=Tryz.sizeOf5
 v5:=Tryz.zeroValue5
 t9:=Tryz.underlying9
 a9:=Tryz.isAgg9
 z9:=Tryz.sizeOf9
 v9:=Tryz.zeroValue9
 t20:=Tryz.underlying20
 a20:=Tryz.isAgg20
 z20:=Tryz.sizeOf20
 v20:=Tryz.zeroValue20
 t37:=Tryz.underlying100
 a37:=Tryz.isAgg100
 z37:=Tryz.sizeOf100
 v37:=Tryz.zeroValue100
 t46:=Tryz.underlying84
 a46:=Tryz.isAgg84
 z46:=Tryz.sizeOf84
 v46:=Tryz.zeroValue84
 t51:=Tryz.underlying117
 a51:=Tryz.isAgg117
 z51:=Tryz.sizeOf117
 v51:=Tryz.zeroValue117
 t53:=Tryz.underlying119
 a53:=Tryz.isAgg119
 z53:=Tryz.sizeOf119
 v53:=Tryz.zeroValue119
 t171:=Tryz.underlying142
 a171:=Tryz.isAgg142
 z171:=Tryz.sizeOf142
 v171:=Tryz.zeroValue142
 t173:=Tryz.underlying144
 a173:=Tryz.isAgg144
 z173:=Tryz.sizeOf144
 v173:=Tryz.zeroValue144
 t212:=Tryz.underlying162
 a212:=Tryz.isAgg162
 z212:=Tryz.sizeOf162
 v212:=Tryz.zeroValue162
 t213:=Tryz.underlying163
 a213:=Tryz.isAgg163
 z213:=Tryz.sizeOf163
 t232:=Tryz.underlying183
 a232:=Tryz.isAgg183
 z232:=Tryz.sizeOf183
 v232:=Tryz.zeroValue183
 t233:=Tryz.underlying184
 a233:=Tryz.isAgg184
 z233:=Tryz.sizeOf184
 v233:=Tryz.zeroValue184
 g17:=by kernel_rfl
 g18:=by kernel_rfl
 g19:=by kernel_rfl
 i0:=by kernel_rfl
 i2:=by kernel_rfl
 i3:=by kernel_rfl
 i4:=by kernel_rfl
 i5:=by kernel_rfl
 i9:=by kernel_rfl
 i20:=by kernel_rfl
 i37:=by kernel_rfl
 i46:=by kernel_rfl
 i51:=by kernel_rfl
 i53:=by kernel_rfl
 i171:=by kernel_rfl
 i173:=by kernel_rfl
 i212:=by kernel_rfl
 i232:=by kernel_rfl
 i233:=by kernel_rfl
 m17:=by kernel_rfl
 m18:=by kernel_rfl
 m19:=by kernel_rfl
theorem z9n(w:World)(k:Nat):(w.drewN k).heap=w.heap∧(w.drewN k).os=w.os∧(w.drewN k).tape=w.tape∧(w.drewN k).output=w.output:=by
 exact⟨rfl,rfl,rfl,rfl⟩
theorem q6Y(n:Int)(h0 : -9223372036854775808≤n)(h1:n≤9223372036854775807):q0y Tryz.prog 24 [.int .i64 n] (fun r=>r=.one (.str (Lib.itoa n))):=by
 intro f w vs hI ht hsz hrd;have hv:vs = #[.int .i64 n]:=by
  have h2:=hrd 0 _ rfl;match vs,hsz with
  |⟨[v]⟩,_=>cases h2;rfl
 subst hv;refine(Any.strconv_Itoa j3K n h0 h1 w (hI.1 1 (by kernel_rfl))).mono fun e w' ⟨he,k,os,hw⟩=>?_
 subst hw;obtain⟨d1,d2,d3,d4⟩:=z9n w k;have hheap:(Sort.grow (w.drewN k) os).heap=w.heap++os:=by simp[Sort.grow]
 refine⟨_,_,f,rfl,he,.str _,⟨?_,fun b hb=>⟨?_,rfl⟩,fun b hb=>ht b ?_,d2,d3,d4⟩⟩
 ·rw[hheap];simp
 ·rw[hheap,Array.getElem?_append_left hb]
 ·rw[hheap]at hb;simp at hb;omega
def q47(l:List UInt8):List UInt8:=(l.reverse.dropWhile (·==48)).reverse
theorem q3e(l:List UInt8)(c:UInt8):q47 (l++[c])=if c=48 then q47 l else l++[c]:=by
 unfold q47;rw[List.reverse_append,List.reverse_cons,List.reverse_nil,Zav,Zba,Zav]
 by_cases h:c=48
 ·rw[if_pos h];simp[h]
 ·rw[if_neg h];simp[h]
def q3i:q0l:=
 .seq (.reg [Qx 4 (.k (.d (.str [])))]) (.seq (.block 0 (.loop (.seq (.seq (.reg [Qc 5 0,Q 6 (.len true (.t 5)),Q 7 (.bin .gtr (.t 6) (Ki 0)),Qc 8 7,Qd 9 0 8 true,Qd 10 0 8 
 true,Qg 11 (.len true (.t 10)) 8 true,Qg 12 (.bin .sub (.t 11) (Ki 1)) 8 true,Qg 13 (.idxS (.t 9) (.t 12)) 8 true,Qd 14 1 8 true,Qg 15 (.bin .eql (.t 13) (.t 14)) 8 true,Q 
 16 (.pick (.t 8) (.t 15) KF)]) (.cond (.t 16) .skip (.exit 0))) (.block 1 (.reg [Qc 17 0,Qc 18 0,Q 19 (.len true (.t 18)),Q 20 (.bin .sub (.t 19) (Ki 1)),Q 21 (.subS (.t 17) 
 none (some (.t 20))),Qa 0 21]))))) (.seq (.reg [Qc 22 0,Qa 4 22]) .ret))
def q3m:List LRes:=[.tmp 4]
theorem q46:q0E Tryz.prog 132 23 q3i q3m:=⟨_,_,Tryz.func132,rfl,by kernel_rfl,by kernel_rfl,rfl⟩
theorem z4N(s:List UInt8)(hs:s.length≤1000000):q0y Tryz.prog 132 [.str s,.int .u8 48] (fun r=>r=.one (.str (q47 s))):=by
 refine q46.call rfl ?_;simp only[go_sem,↓reduceIte,q3i,q3m];refine q0n (fun k:Nat=>⟨[(0,.d (.str (s.take k))),(1,.d (.int .u8 48))],[],[]⟩)
  (fun k=>k≤s.length∧q47 (s.take k)=q47 s) (fun k=>k) s.length ?_ ?_ ?_
 ·refine q1m ?_ trivial;simp only[go_sem,↓reduceIte,Sub,Zab,Zac,Zcq]
 ·exact⟨Zai _,by rw[Zcq]⟩
 ·rintro k ⟨hk,hF⟩;have hlk:(s.take k).length=k:=by rw[Zaq];omega
  have hlI:(((s.take k).length:Nat):Int)=(k:Int):=by rw[hlk]
  simp(disch:=omega)only[go_sem,↓reduceIte,hlI];refine⟨fun q1=>?_,fun q1=>?_⟩
  ·obtain⟨c,hc⟩:=get_some (l:=s) (i:=k-1) (by omega);have hsplit:s.take k=s.take (k-1)++[c]:=by
    rw[←z2q hc];congr 1;omega
   have hg:getI (s.take k) ((k:Int)-1)=some c:=by
    have e:((k:Int)-1)=((k-1:Nat):Int):=by omega
    rw[e,q0g,Zbg,if_pos (by omega),hc]
   have hcut:cutI (s.take k) 0 ((k:Int)-1)=s.take (k-1):=by
    have e:((k:Int)-1)=((k-1:Nat):Int):=by omega
    rw[e];show cutI (s.take k) ((0:Nat):Int) _=_
    rw[q56,List.take_take,Zcm];congr 1;omega
   simp(disch:=omega)only[go_sem,↓reduceIte,hg,hcut,hlI];refine⟨fun q2=>⟨⟨by omega,by omega⟩,k-1,?_,⟨by omega,?_⟩,by omega⟩,fun q2=>?_⟩
   ·refine q1m ?_ trivial;simp only[go_sem,↓reduceIte,Sub,Zab,Zac]
   ·rw[←hF,hsplit,q3e,if_pos (by
     have h48:(48:UInt8).toNat=48:=rfl;apply UInt8.toNat_inj.1;omega)]
   ·rw[←hF,hsplit,q3e,if_neg (fun h=>q2 (by rw[h];rfl))]
  ·have hk0:k=0:=by omega
   subst hk0;rw[←hF];rfl
def q2Z:q0l:=
 .seq (.reg [Qx 4 (.k (.d (.str [])))]) (.seq (.seq (.reg [Qc 7 0,Q 8 (.bin .eql (.t 7) (.k (.d (.str [])))),Qc 9 8,Qd 10 1 9 false,Qg 11 (.bin .eql (.t 10) (.k (.d (.str [])))) 
 9 false,Q 12 (.pick (.t 9) KT (.t 11))]) (.cond (.t 12) (.seq (.reg [Qc 13 0,Qa 4 13]) .ret) .skip)) (.seq (.seq (.reg [Qc 14 1,Q 15 (.len true (.t 14)),Q 16 (.bin .eql (.t 
 15) (Ki 1)),Qc 17 16,Qd 18 1 17 true,Qg 19 (.idxS (.t 18) (Ki 0)) 17 true,Qg 20 (.bin .lss (.t 19) (Kb 128)) 17 true,Q 21 (.pick (.t 17) (.t 20) KF)]) (.cond (.t 21) (.seq 
 (.reg [Qc 22 0,Qc 23 1,Q 24 (.idxS (.t 23) (Ki 0)),⟨some 25,.call 132 [.t 22,.t 24],none⟩,Qa 4 25]) .ret) .skip)) (.seq (.seq (.reg [Qc 27 1,⟨some 28,.call 133 [.t 27], 
 none⟩,Qc 26 28,Q 29 (.ext 0 (.t 26)),Q 30 (.ext 1 (.t 26)),⟨some 5,.allo [.bool false,.bool false,.bool false,.bool false,.bool false,.bool false,.bool false,.bool 
 false,.bool false,.bool false,.bool false,.bool false,.bool false,.bool false,.bool false,.bool false,.bool false,.bool false,.bool false,.bool false,.bool false, 
 .bool false,.bool false,.bool false,.bool false,.bool false,.bool false,.bool false,.bool false,.bool false,.bool false,.bool false,.bool false,.bool false,.bool 
 false,.bool false,.bool false,.bool false,.bool false,.bool false,.bool false,.bool false,.bool false,.bool false,.bool false,.bool false,.bool false,.bool false, 
 .bool false,.bool false,.bool false,.bool false,.bool false,.bool false,.bool false,.bool false,.bool false,.bool false,.bool false,.bool false,.bool false,.bool 
 false,.bool false,.bool false,.bool false,.bool false,.bool false,.bool false,.bool false,.bool false,.bool false,.bool false,.bool false,.bool false,.bool false, 
 .bool false,.bool false,.bool false,.bool false,.bool false,.bool false,.bool false,.bool false,.bool false,.bool false,.bool false,.bool false,.bool false,.bool 
 false,.bool false,.bool false,.bool false,.bool false,.bool false,.bool false,.bool false,.bool false,.bool false,.bool false,.bool false,.bool false,.bool false, 
 .bool false,.bool false,.bool false,.bool false,.bool false,.bool false,.bool false,.bool false,.bool false,.bool false,.bool false,.bool false,.bool false,.bool 
 false,.bool false,.bool false,.bool false,.bool false,.bool false,.bool false,.bool false,.bool false,.bool false,.bool false,.bool false,.bool false,.bool false, 
 .bool false,.bool false,.bool false,.bool false,.bool false,.bool false,.bool false,.bool false,.bool false,.bool false,.bool false,.bool false,.bool false,.bool 
 false,.bool false,.bool false,.bool false,.bool false,.bool false,.bool false,.bool false,.bool false,.bool false,.bool false,.bool false,.bool false,.bool false, 
 .bool false,.bool false,.bool false,.bool false,.bool false,.bool false,.bool false,.bool false,.bool false,.bool false,.bool false,.bool false,.bool false,.bool 
 false,.bool false,.bool false,.bool false,.bool false,.bool false,.bool false,.bool false,.bool false,.bool false,.bool false,.bool false,.bool false,.bool false, 
 .bool false,.bool false,.bool false,.bool false,.bool false,.bool false,.bool false,.bool false,.bool false,.bool false,.bool false,.bool false,.bool false,.bool 
 false,.bool false,.bool false,.bool false,.bool false,.bool false,.bool false,.bool false,.bool false,.bool false,.bool false,.bool false,.bool false,.bool false, 
 .bool false,.bool false,.bool false,.bool false,.bool false,.bool false,.bool false,.bool false,.bool false,.bool false,.bool false,.bool false,.bool false,.bool 
 false,.bool false,.bool false,.bool false,.bool false,.bool false,.bool false,.bool false,.bool false,.bool false,.bool false,.bool false,.bool false,.bool false, 
 .bool false,.bool false,.bool false,.bool false,.bool false,.bool false,.bool false,.bool false,.bool false,.bool false,.bool false,.bool false,.bool false,.bool 
 false,.bool false,.bool false,.bool false,.bool false,.bool false],none⟩,⟨none,.st 256 (.t 5) (.t 29),none⟩,Qa 6 30]) (.seq (.reg [Qc 31 6]) (.cond (.t 31) (.seq (.reg 
 [Qc 32 0,⟨some 33,.prim .call [.k (.fn (.func 134) [] []),.t 32,.t 5] [],none⟩,Qa 4 33]) .ret) .skip))) (.seq (.reg [Qc 34 0,Qc 35 1,⟨some 36,.call 135 [.t 34,.t 35], 
 none⟩,Qa 4 36]) .ret))))
def q20:List LRes:=[.tmp 4]
theorem q6x:q0E Tryz.prog 115 37 q2Z q20:=⟨_,_,Tryz.func115,rfl,by kernel_rfl,by kernel_rfl,rfl⟩
set_option maxRecDepth 10000 in
theorem z6A(s:List UInt8)(hs:s.length≤1000000):q0y Tryz.prog 115 [.str s,.str [48]] (fun r=>r=.one (.str (q47 s))):=by
 refine q6x.call rfl ?_;have hg:getI ([48]:List UInt8) 0=some 48:=rfl;have h48:((UInt8.toNat 48:Nat):Int)=48:=rfl
 by_cases h:s=[]
 ·subst h;simp only[go_sem,↓reduceIte,q2Z,q20];rfl
 ·have h1:(([48]:List UInt8)=[])=False:=by simp
  have h2:(s=[])=False:=eq_false h;simp only[go_sem,↓reduceIte,q2Z,q20,h1,h2,hg,h48];refine q0j.of (z4N s hs) ?_;simp only[go_sem,↓reduceIte]
def q6s(r:Nat):List UInt8:=[UInt8.ofNat (48+r / 100),UInt8.ofNat (48+r / 10 % 10),UInt8.ofNat (48+r % 10)]
theorem j5u{r:Nat}(h:r<1000):Lib.decDigits (1000+r)=49::q6s r:=by
 rw[Lib.decDigits,dif_neg (by omega),Lib.decDigits,dif_neg (by omega),Lib.decDigits,dif_neg (by omega),Lib.decDigits,dif_pos (by omega)];have e1:(1000+r) / 10 / 10 / 10=1:=by omega
 have e2:(1000+r) / 10 / 10 % 10=r / 100:=by omega
 have e3:(1000+r) / 10 % 10=r / 10 % 10:=by omega
 have e4:(1000+r) % 10=r % 10:=by omega
 rw[e1,e2,e3,e4];rfl
def z1t(r:Nat):List UInt8:=if q47 (q6s r)=[]then[]else 46::q47 (q6s r)
def q4z(n:Int):List UInt8:=(if n<0 then[45]else[])++Lib.decDigits (n.natAbs / 1000)++z1t (n.natAbs % 1000)
def resT(n:Int):Res:=if Lim n then .tup [.str (q4z n),.nil]else .tup [.str [],err 1]
theorem q7j(u k:Nat)(h:u<10 ^ (k+1)):(Lib.decDigits u).length≤k+1:=by
 induction k generalizing u with
 |zero=>rw[Lib.decDigits,dif_pos (by simpa using h)];simp
 |succ k ih=>
  rw[Lib.decDigits];split
  ·simp
  ·rw[Zad];have:=ih (u / 10) (by rw[Nat.pow_succ]at h;omega);simp;omega
def z2O:q0l:=
 .seq (.reg [Qx 2 (.k (.d (.str []))),Qx 3 (.k (.d .nil))]) (.seq (.reg [Qc 8 0,⟨some 9,.call 111 [.t 8],none⟩,Qa 4 9]) (.seq (.seq (.reg [Qc 10 4,Q 11 (.eqN 0 true (.t 10))]) 
 (.cond (.t 11) (.seq (.reg [Qc 12 4,Qx 2 (.k (.d (.str []))),Qa 3 12]) .ret) .skip)) (.seq (.reg [Qx 5 (.k (.d (.str [])))]) (.seq (.seq (.reg [Qc 13 0,Q 14 (.bin .lss (.t 13) 
 (Ki 0))]) (.cond (.t 14) (.reg [Qc 15 0,Q 16 (.neg (.t 15)),Qx 5 (.k (.d (.str [45]))),Qa 0 16]) .skip)) (.seq (.reg [Qc 17 5,Qc 18 0,Q 19 (.bin .quo (.t 18) (Ki 1000)), 
 ⟨some 20,.call 24 [.t 19],none⟩,Q 21 (.bin .add (.t 17) (.t 20)),Qa 6 21]) (.seq (.reg [Qc 22 0,Q 23 (.bin .rem (.t 22) (Ki 1000)),Q 24 (.bin .add (Ki 1000) (.t 23)),⟨some 
 25,.call 24 [.t 24],none⟩,Q 26 (.subS (.t 25) (some (Ki 1)) none),Qa 7 26]) (.seq (.reg [Qc 27 7,⟨some 28,.call 115 [.t 27,.k (.d (.str [48]))],none⟩,Qa 7 28]) (.seq 
 (.seq (.reg [Qc 29 7,Q 30 (.bin .neq (.t 29) (.k (.d (.str []))))]) (.cond (.t 30) (.reg [Qc 31 6,Qc 32 7,Q 33 (.bin .add (.k (.d (.str [46]))) (.t 32)),Q 34 (.bin .add (.t 
 31) (.t 33)),Qa 6 34]) .skip)) (.seq (.reg [Qc 35 6,Qa 2 35,Qx 3 (.k (.d .nil))]) .ret)))))))))
def z2R:List LRes:=[.tmp 2,.tmp 3]
theorem z4g:q0E Tryz.prog 87 36 z2O z2R:=⟨_,_,Tryz.func87,rfl,by kernel_rfl,by kernel_rfl,rfl⟩
theorem z6w(n:Int):q0y Tryz.prog 87 [.int .i64 n] (fun r=>r=resT n):=by
 refine z4g.call rfl ?_;simp only[go_sem,↓reduceIte,z2O,z2R];unfold resT
 by_cases hl:Lim n
 ·rw[if_pos hl];refine q0j.of (z7Y hl) ?_;unfold Lim at hl;obtain⟨m,hm⟩:∃m:Nat,n.natAbs=m:=⟨_,rfl⟩;have hm9:m≤1000000000:=by omega
  have hd1:Int.tdiv (m:Int) 1000=((m / 1000:Nat):Int):=rfl;have hd2:Int.tmod (m:Int) 1000=((m % 1000:Nat):Int):=rfl;have hi1:Lib.itoa ((m / 1000:Nat):Int)=Lib.decDigits (m / 1000):=by unfold Lib.itoa;rw[if_neg (by omega)];rfl
  have hi2:Lib.itoa (1000+((m % 1000:Nat):Int))=49::q6s (m % 1000):=by
   unfold Lib.itoa;rw[if_neg (by omega),←j5u (Nat.mod_lt _ (by decide))];congr 1
  have hlen:=q7j (m / 1000) 6 (by omega);unfold q4z;rw[hm];generalize Lib.decDigits (m / 1000)=D1 at hi1 hlen ⊢;have hcut:cutI (49::q6s (m % 1000)) 1 4=q6s (m % 1000):=rfl;have hfl:((q6s (m % 1000)).length:Nat)=3:=rfl;have htl:(q47 (q6s (m % 1000))).length≤3:=by
   unfold q47;rw[List.length_reverse];exact Zbw (List.dropWhile_sublist _).length_le (by rw[List.length_reverse];exact Zai 3)
  by_cases hn:n<0
  ·have e:0-n=(m:Int):=by omega
   simp(disch:=omega)only[go_sem,↓reduceIte,hn,e,hd1,hd2];refine q0j.of (q6Y _ (by omega) (by omega)) ?_;rw[hi1];simp(disch:=omega)only[go_sem,↓reduceIte,e,hd1,hd2];refine⟨by omega,?_⟩;refine q0j.of (q6Y _ (by omega) (by omega)) ?_;rw[hi2];simp(disch:=omega)only[go_sem,↓reduceIte,hcut,hfl];refine q0j.of (z6A _ (by rw[hfl];omega)) ?_;unfold z1t
   by_cases ht:q47 (q6s (m % 1000))=[]
   ·rw[if_pos ht,ht];simp only[go_sem,↓reduceIte,Zco]
   ·rw[if_neg ht];have ht':(q47 (q6s (m % 1000))=[])=False:=eq_false ht;simp(disch:=omega)only[go_sem,↓reduceIte,ht',List.append_assoc];exact⟨by omega,by omega⟩
  ·have e:n=(m:Int):=by omega
   rw[e];have hn':¬((m:Int)<0):=by omega
   simp(disch:=omega)only[go_sem,↓reduceIte,hn',hd1,hd2];refine q0j.of (q6Y _ (by omega) (by omega)) ?_;rw[hi1];simp(disch:=omega)only[go_sem,↓reduceIte,hd1,hd2];refine⟨by omega,?_⟩;refine q0j.of (q6Y _ (by omega) (by omega)) ?_;rw[hi2];simp(disch:=omega)only[go_sem,↓reduceIte,hcut,hfl];refine q0j.of (z6A _ (by rw[hfl];omega)) ?_;unfold z1t
   by_cases ht:q47 (q6s (m % 1000))=[]
   ·rw[if_pos ht,ht];simp only[go_sem,↓reduceIte,Zco]
   ·rw[if_neg ht];have ht':(q47 (q6s (m % 1000))=[])=False:=eq_false ht;simp(disch:=omega)only[go_sem,↓reduceIte,ht',List.append_assoc];exact⟨by omega,by omega⟩
 ·rw[if_neg hl];refine q0j.of (z5d hl) ?_;simp only[go_sem,↓reduceIte,err]
mutual
def q0F:Val→List UInt8
 |.mk k n s l f=>
  if k=1 then(if n=1 then[116,114,117,101]else[102,97,108,115,101])
  else if k=2 then q4z n
  else if k=3 then[40]++strP s++[41]
  else if k=4 then[47]++q1q s
  else if k=5 then[91]++q1l false l++[93]
  else if k=6 then[60,60]++q2f f++[32,62,62]
  else if k=7 then Lib.decDigits n.toNat++[32,48,32,82]
  else[110,117,108,108]
def q1l(sep:Bool):List Val→List UInt8
 |[]=>[]
 |v::r=>(if sep then[32]else[])++q0F v++q1l true r
def q2f:List Fld→List UInt8
 |[]=>[]
 |.mk nm v::r=>[32,47]++q1q nm++[32]++q0F v++q2f r
end
theorem z01(v:Val):q0F v=
  if v.kind=1 then(if v.n=1 then[116,114,117,101]else[102,97,108,115,101])
  else if v.kind=2 then q4z v.n
  else if v.kind=3 then[40]++strP v.s++[41]
  else if v.kind=4 then[47]++q1q v.s
  else if v.kind=5 then[91]++q1l false v.l++[93]
  else if v.kind=6 then[60,60]++q2f v.f++[32,62,62]
  else if v.kind=7 then Lib.decDigits v.n.toNat++[32,48,32,82]
  else[110,117,108,108]:=by cases v;simp only[q0F];rfl
theorem z0w(sep:Bool)(a b:List Val):q1l sep (a++b)=q1l sep a++q1l (sep || decide (a≠[])) b:=by
 induction a generalizing sep with
 |nil=>simp[q1l]
 |cons v r ih=>simp[q1l,ih,List.append_assoc]
theorem z98{l:List Val}{i:Nat}{x:Val}(hx:l[i]?=some x):q1l false (l.take (i+1))=q1l false (l.take i)++(if 0<i then[32]else[])++q0F x:=by
 rw[q50 hx,z0w];have hl:i<l.length:=(Zaa.1 hx).1
 by_cases h:0<i
 ·have:l.take i≠[]:=fun e=>by
   have h2:(l.take i).length=0:=by rw[e];rfl
   rw[Zaq]at h2;omega
  simp[q1l,h,this]
 ·obtain rfl:i=0:=by omega
  simp[q1l]
theorem z4K{l:List Val}{i:Nat}:(q1l false (l.take i)).length≤(q1l false l).length:=by
 have h:=z0w false (l.take i) (l.drop i);rw[List.take_append_drop]at h;rw[h,Zad];omega
def j4D(x:Fld):List UInt8:=[32,47]++q1q x.name++[32]++q0F x.v
theorem z0x(a b:List Fld):q2f (a++b)=q2f a++q2f b:=by
 induction a with
 |nil=>simp[q2f]
 |cons x r ih=>cases x;simp[q2f,ih,List.append_assoc]
theorem j0a{l:List Fld}{i:Nat}{x:Fld}(hx:l[i]?=some x):q2f (l.take (i+1))=q2f (l.take i)++j4D x:=by
 rw[q50 hx,z0x];cases x;simp[q2f,j4D,Fld.name,Fld.v]
theorem z4L{l:List Fld}{i:Nat}:(q2f (l.take i)).length≤(q2f l).length:=by
 have h:=z0x (l.take i) (l.drop i);rw[List.take_append_drop]at h;rw[h,Zad];omega
/-! ### What is well, part by part -/
theorem j6j{v:Val}(h:q12 v=true)(hk:v.kind=1):v.n=0∨v.n=1:=by rw[q2Y,hk]at h;simp at h;exact h.1
theorem j2V{v:Val}(h:q12 v=true)(hk:v.kind=2):Lim v.n:=by rw[q2Y,hk]at h;simp at h;exact h.1
theorem z4P{v x:Val}(h:q12 v=true)(hk:v.kind=5)(hx:x∈v.l):q12 x=true:=by
 rw[q2Y,hk]at h;simp at h;have h1:=h.2.2.1;rw[z9c]at h1;simp only[Zcc]at h1;rw[Zby]at h1;simpa using h1 x hx
theorem z2s:∀{p:Option (List UInt8)} {l:List Fld} {x:Fld},q6z p l=true→x∈l→q1A x.name=true∧q12 x.v=true
 |p,.mk nm v::r,x,h,hx=>by
  simp only[q6z,Zah]at h;rcases Zar.1 hx with rfl|hx
  ·exact⟨h.1.1,h.1.2.1⟩
  ·exact z2s h.2 hx
theorem j6m{v:Val}{x:Fld}(h:q12 v=true)(hk:v.kind=6)(hx:x∈v.f):q12 x.v=true:=by
 rw[q2Y,hk]at h;simp at h;exact(z2s h.2.2.2 hx).2
theorem z7S{v:Val}(h:q12 v=true)(hk:v.kind=7):1≤v.n∧v.n≤60:=by rw[q2Y,hk]at h;simp at h;exact h.1
theorem z4Q{v:Val}(h:q12 v=true):v.kind=0∨v.kind=1∨v.kind=2∨v.kind=3∨v.kind=4∨v.kind=5∨v.kind=6∨v.kind=7:=by
 rcases kinds v.kind with k|k|k|k|k|k|k|k|⟨k0,k1,k2,k3,k4,k5,k6,k7⟩
 ·exact .inl k
 ·exact .inr (.inl k)
 ·exact .inr (.inr (.inl k))
 ·exact .inr (.inr (.inr (.inl k)))
 ·exact .inr (.inr (.inr (.inr (.inl k))))
 ·exact .inr (.inr (.inr (.inr (.inr (.inl k)))))
 ·exact .inr (.inr (.inr (.inr (.inr (.inr (.inl k))))))
 ·exact .inr (.inr (.inr (.inr (.inr (.inr (.inr k))))))
 ·rw[q2Y,if_neg k0,if_neg k1,if_neg k2,if_neg k3,if_neg k4,if_neg k5,if_neg k6,if_neg k7]at h;cases h
def q3s:List UInt8→Nat→Nat→Int→Option (Nat×Nat×Int)
 |[],n,d,p=>some (n,d,p)
 |c::r,n,d,p=>
  if c.toNat=46∧p<0 then q3s r n d 0
  else if c.toNat<48∨57<c.toNat then none
  else q3s r (if p<3∧n≤1000000000 then 10*n+(c.toNat-48)else n) (d+1) (if 0≤p then p+1 else p)
def finP(neg:Bool):Option (Nat×Nat×Int)→Int×Nat
 |none=>(0,4)
 |some (n,d,p)=>if d=0 then(0,4)else if 1000000000<n*10 ^ (3-p.toNat)then(0,1)else(if neg=true then -((n*10 ^ (3-p.toNat):Nat):Int)else((n*10 ^ (3-p.toNat):Nat):Int),0)
def z2I:List UInt8→Bool×List UInt8
 |[]=>(false,[])
 |c::r=>if c.toNat=45 then(true,r)else if c.toNat=43 then(false,r)else(false,c::r)
def q5i(s:List UInt8):Int×Nat:=finP (z2I s).1 (q3s (z2I s).2 0 0 (-1))
def resP(p:Int×Nat):Res:=.tup [.int .i64 p.1,errD p.2]
def q7V:q0l:=
 .seq (.reg [Qx 2 (Ki 0),Qx 3 (.k (.d .nil))]) (.seq (.reg [Qc 11 0,Qa 4 11]) (.seq (.reg [Qx 5 KF]) (.seq (.seq (.reg [Qc 12 4,Q 13 (.bin .neq (.t 12) (.k (.d (.str [])))),Qc 
 14 13,Qd 15 4 14 true,Qg 16 (.idxS (.t 15) (Ki 0)) 14 true,Qg 17 (.bin .eql (.t 16) (Kb 45)) 14 true,Qd 18 17 14 true,Qd 19 4 18 false,Qg 20 (.idxS (.t 19) (Ki 0)) 18 
 false,Qg 21 (.bin .eql (.t 20) (Kb 43)) 18 false,Qg 22 (.pick (.t 18) KT (.t 21)) 14 true,Q 23 (.pick (.t 14) (.t 22) KF)]) (.cond (.t 23) (.dreg [Qc 24 4,Q 25 (.idxS (.t 24) 
 (Ki 0)),Q 26 (.bin .eql (.t 25) (Kb 45)),Qc 27 4,Q 28 (.subS (.t 27) (some (Ki 1)) none),Qc 5 26,Qc 4 28]) .skip)) (.seq (.reg [Qx 6 (Ki 0),Qx 7 (Ki 0),Qx 8 (Ki (-1))]) 
 (.seq (.seq (.reg [Qc 29 4,Q 30 (.len true (.t 29)),Q 31 (.cp (Ki 0))]) (.block 0 (.loop (.seq (.reg [Q 32 (.bin .lss (.t 31) (.t 30))]) (.seq (.cond (.t 32) .skip (.exit 0)) 
 (.seq (.block 1 (.seq (.reg [Qc 33 31,Qa 9 33]) (.seq (.reg [Qc 34 4,Qc 35 9,Q 36 (.idxS (.t 34) (.t 35)),Qa 10 36]) (.block 2 (.seq (.reg [Qc 56 10,Q 57 (.bin .eql (.t 56) 
 (Kb 46)),Qc 58 57,Qd 59 8 58 true,Qg 60 (.bin .lss (.t 59) (Ki 0)) 58 true,Q 61 (.pick (.t 58) (.t 60) KF),Qa 55 61]) (.cond (.t 55) (.reg [Qx 8 (Ki 0)]) (.seq (.reg [Qc 63 
 10,Q 64 (.bin .lss (.t 63) (Kb 48)),Qc 65 64,Qd 66 10 65 false,Qg 67 (.bin .gtr (.t 66) (Kb 57)) 65 false,Q 68 (.pick (.t 65) KT (.t 67)),Qa 62 68]) (.cond (.t 62) (.seq 
 (.reg [Q 69 (.mkI 49 (Ki 4)),Qx 2 (Ki 0),Qa 3 69]) .ret) (.seq (.reg [Qc 37 7,Q 38 (.bin .add (.t 37) (Ki 1)),Qa 7 38]) (.seq (.seq (.reg [Qc 39 8,Q 40 (.bin .lss (.t 39) 
 (Ki 3)),Qc 41 40,Qd 42 6 41 true,Qg 43 (.bin .leq (.t 42) (Ki 1000000000)) 41 true,Q 44 (.pick (.t 41) (.t 43) KF)]) (.cond (.t 44) (.reg [Qc 45 6,Q 46 (.bin .mul (Ki 10) 
 (.t 45)),Qc 47 10,Q 48 (.bin .sub (.t 47) (Kb 48)),Q 49 (.cvI .i64 (.t 48)),Q 50 (.bin .add (.t 46) (.t 49)),Qa 6 50]) .skip)) (.seq (.reg [Qc 51 8,Q 52 (.bin .geq (.t 51) 
 (Ki 0))]) (.cond (.t 52) (.reg [Qc 53 8,Q 54 (.bin .add (.t 53) (Ki 1)),Qa 8 54]) .skip)))))))))))) (.reg [Q 70 (.bin .add (.t 31) (Ki 1)),Qc 31 70]))))))) (.seq (.seq (.reg 
 [Qc 71 7,Q 72 (.bin .eql (.t 71) (Ki 0))]) (.cond (.t 72) (.seq (.reg [Q 73 (.mkI 49 (Ki 4)),Qx 2 (Ki 0),Qa 3 73]) .ret) .skip)) (.seq (.seq (.reg [Qc 74 8,Q 75 (.mm true (.t 
 74) (Ki 0)),Qa 8 75]) (.block 3 (.loop (.seq (.seq (.reg [Qc 76 8,Q 77 (.bin .lss (.t 76) (Ki 3))]) (.cond (.t 77) .skip (.exit 3))) (.seq (.block 4 (.reg [Qc 80 6,Q 81 (.bin 
 .mul (.t 80) (Ki 10)),Qa 6 81])) (.reg [Qc 78 8,Q 79 (.bin .add (.t 78) (Ki 1)),Qa 8 79])))))) (.seq (.seq (.reg [Qc 82 6,Q 83 (.bin .gtr (.t 82) (Ki 1000000000))]) (.cond 
 (.t 83) (.seq (.reg [Q 84 (.mkI 49 (Ki 1)),Qx 2 (Ki 0),Qa 3 84]) .ret) .skip)) (.seq (.seq (.reg [Qc 85 5]) (.cond (.t 85) (.reg [Qc 86 6,Q 87 (.neg (.t 86)),Qa 6 87]) 
 .skip)) (.seq (.reg [Qc 88 6,Qa 2 88,Qx 3 (.k (.d .nil))]) .ret))))))))))
def q70:List LRes:=[.tmp 2,.tmp 3]
theorem z2C:q0E Tryz.prog 110 89 q7V q70:=⟨_,_,Tryz.func110,rfl,by kernel_rfl,by kernel_rfl,rfl⟩
theorem z9R(s:List UInt8)(hs:s.length≤1000000):q0y Tryz.prog 110 [.str s] (fun r=>r=resP (q5i s)):=by
 refine z2C.call rfl ?_;unfold q5i;cases s with
 |nil=>
  have hs0:z2I []=(false,[]):=rfl;have hR:resP (finP false (q3s [] 0 0 (-1)))=.tup [.int .i64 0,.iface 49 (.int .i64 4)]:=rfl;rw[hs0,hR];simp(disch:=omega)only[go_sem,↓reduceIte,q7V,q70];refine q2L ?_;simp(disch:=omega)only[go_sem,↓reduceIte]
 |cons c r=>
  have hc8:=q4f c;have hne:(c::r=[])=False:=by simp
  have hg0:getI (c::r) 0=some c:=rfl;have hcut:cutI (c::r) 1 ((r.length+1:Nat):Int)=r:=by
   show cutI (c::r) ((1:Nat):Int) _=r
   rw[q56];simp
  have hlr:r.length+1≤1000000:=by simpa using hs
  generalize hst:z2I (c::r)=st;dsimp only[z2I]at hst;obtain⟨R,hR⟩:∃R,finP st.1 (q3s st.2 0 0 (-1))=R:=⟨_,rfl⟩;rw[hR];simp(disch:=omega)only[go_sem,↓reduceIte,q7V,q70,hne,hg0,hcut];refine⟨fun a1=>⟨fun a2=>⟨by omega,?_⟩,fun a2=>?_⟩,fun a1=>⟨by omega,?_⟩⟩;rw[if_neg (by omega),if_pos (by omega)]at hst;subst hst;obtain⟨T,hT⟩:∃T,T=r:=⟨_,rfl⟩;obtain⟨N,hN⟩:∃N,N=false:=⟨_,rfl⟩;have hdec:decide ((c.toNat:Int)=45)=false:=by simp[a1]
  simp only[hdec];rw[←hT,←hN]at hR;have hlT:T.length≤1000000:=by rw[hT];omega
  rotate_left
  rw[if_neg (by omega),if_neg (by omega)]at hst;subst hst;obtain⟨T,hT⟩:∃T,T=c::r:=⟨_,rfl⟩;obtain⟨N,hN⟩:∃N,N=false:=⟨_,rfl⟩;rw[←hT,←hN]at hR;have hlT:T.length≤1000000:=by rw[hT];exact hs
  rotate_left
  rw[if_pos (by omega)]at hst;subst hst;obtain⟨T,hT⟩:∃T,T=r:=⟨_,rfl⟩;obtain⟨N,hN⟩:∃N,N=true:=⟨_,rfl⟩;have hdec:decide ((c.toNat:Int)=45)=true:=by simp[a1]
  simp only[hdec];rw[←hT,←hN]at hR;have hlT:T.length≤1000000:=by rw[hT];omega
  rotate_left
  all_goals
   refine q0n (fun y:Nat×Nat×Nat×Int=>⟨[(4,.d (.str T)),(5,.d (.bool N)),(6,.d (.int .i64 y.2.1)),(7,.d (.int .i64 y.2.2.1)),(8,.d (.int .i64 y.2.2.2)),(30,.d (.int .i64 (T.length:Nat))),(31,.d (.int .i64 y.1))],[],[]⟩)
    (fun y=>y.1≤T.length∧y.2.1≤10000000009∧y.2.2.1≤y.1 ∧ -1≤y.2.2.2∧y.2.2.2≤y.1∧finP N (q3s (T.drop y.1) y.2.1 y.2.2.1 y.2.2.2)=R) (fun y=>T.length-y.1) (0,0,0,-1) ?_ ?_ ?_
   ·refine q1m ?_ trivial;simp only[go_sem,↓reduceIte,Sub,Zab,Zac,hT,hN]
   ·exact⟨by simp,by simp,by simp,by simp,by simp,by simpa using hR⟩
   ·rintro⟨i,n,d,p⟩ ⟨hi,hn,hd,hp,hp2,hF⟩;simp only at hi hn hd hp hp2 hF;simp only[go_sem,↓reduceIte];refine⟨fun q1=>?_,fun q1=>?_⟩
    ·obtain⟨x,hx⟩:=get_some (l:=T) (i:=i) (by omega);have hx8:=q4f x;rw[drop_cons hx]at hF;unfold q3s at hF
     by_cases e1:x.toNat=46∧p<0
     ·rw[if_pos e1]at hF;have e1a:(x.toNat:Int)=46:=by omega
      simp(disch:=omega)only[go_sem,↓reduceIte,q0g,hx,e1a,e1.2];refine⟨(i+1,n,d,0),?_,⟨by simp only;omega,hn,by simp only;omega,by simp,by simp only;omega,hF⟩,by simp only;omega⟩;refine q1m ?_ trivial;simp only[go_sem,↓reduceIte,Sub,Zab,Zac]
     ·rw[if_neg e1]at hF
      by_cases e2:x.toNat<48∨57<x.toNat
      ·rw[if_pos e2]at hF;subst hF;have hres:resP (finP N none)=.tup [.int .i64 0,.iface 49 (.int .i64 4)]:=rfl;rw[hres];simp only[go_sem,↓reduceIte,q0g,hx];refine⟨fun a=>⟨fun b=>by omega,fun b=>fun c=>by omega⟩,fun a=>fun b c=>by omega⟩
      ·rw[if_neg e2]at hF;have hne46:¬((x.toNat:Int)=46):=by omega
       have h48:¬((x.toNat:Int)<48):=by omega
       have h57:¬(57<(x.toNat:Int)):=by omega
       obtain⟨k,hk⟩:∃k,x.toNat-48=k:=⟨_,rfl⟩;have hk':(x.toNat:Int)-48=(k:Int):=by omega
       rw[hk]at hF;simp(disch:=omega)only[go_sem,↓reduceIte,q0g,hx,hne46,h48,h57,hk'];refine⟨fun b1=>⟨fun b2=>⟨fun b3=>?_,fun b3=>?_⟩,fun b2=>⟨fun b3=>?_,fun b3=>?_⟩⟩,fun b1=>⟨fun b3=>?_,fun b3=>?_⟩⟩
       ·rw[if_pos ⟨b1,by omega⟩,if_pos b3]at hF;refine⟨(i+1,10*n+k,d+1,p+1),?_,⟨by simp only;omega,by simp only;omega,by simp only;omega,by simp only;omega,by simp only;omega,hF⟩,by simp only;omega⟩;refine q1m ?_ trivial;simp only[go_sem,↓reduceIte,Sub,Zab,Zac]
       ·rw[if_pos ⟨b1,by omega⟩,if_neg b3]at hF;refine⟨(i+1,10*n+k,d+1,p),?_,⟨by simp only;omega,by simp only;omega,by simp only;omega,by simp only;omega,by simp only;omega,hF⟩,by simp only;omega⟩;refine q1m ?_ trivial;simp only[go_sem,↓reduceIte,Sub,Zab,Zac]
       ·rw[if_neg (fun h=>b2 (by omega)),if_pos b3]at hF;refine⟨(i+1,n,d+1,p+1),?_,⟨by simp only;omega,by simp only;omega,by simp only;omega,by simp only;omega,by simp only;omega,hF⟩,by simp only;omega⟩;refine q1m ?_ trivial;simp only[go_sem,↓reduceIte,Sub,Zab,Zac]
       ·rw[if_neg (fun h=>b2 (by omega)),if_neg b3]at hF;refine⟨(i+1,n,d+1,p),?_,⟨by simp only;omega,by simp only;omega,by simp only;omega,by simp only;omega,by simp only;omega,hF⟩,by simp only;omega⟩;refine q1m ?_ trivial;simp only[go_sem,↓reduceIte,Sub,Zab,Zac]
       ·rw[if_neg (fun h=>b1 h.1),if_pos b3]at hF;refine⟨(i+1,n,d+1,p+1),?_,⟨by simp only;omega,by simp only;omega,by simp only;omega,by simp only;omega,by simp only;omega,hF⟩,by simp only;omega⟩;refine q1m ?_ trivial;simp only[go_sem,↓reduceIte,Sub,Zab,Zac]
       ·rw[if_neg (fun h=>b1 h.1),if_neg b3]at hF;refine⟨(i+1,n,d+1,p),?_,⟨by simp only;omega,by simp only;omega,by simp only;omega,by simp only;omega,by simp only;omega,hF⟩,by simp only;omega⟩;refine q1m ?_ trivial;simp only[go_sem,↓reduceIte,Sub,Zab,Zac]
    ·rw[Zao (by omega)]at hF;unfold q3s at hF;dsimp only[finP]at hF;refine⟨fun c1=>?_,fun c1=>?_⟩
     ·rw[if_pos (by omega)]at hF;subst hF;simp[resP,errD]
     ·rw[if_neg (by omega)]at hF;have hmx:(if p<0 then 0 else p)=((p.toNat:Nat):Int):=by split<;>omega
      rw[hmx];have hP9:p.toNat≤1000000:=by omega
      generalize p.toNat=P at hF hP9 ⊢;refine q0n (fun k:Nat=>⟨[(5,.d (.bool N)),(6,.d (.int .i64 (n*10 ^ k:Nat))),(8,.d (.int .i64 (P+k:Nat)))],[],[]⟩)
       (fun k=>k≤3-P) (fun k=>3-k) 0 ?_ ?_ ?_
      ·refine q1m ?_ trivial;simp only[go_sem,↓reduceIte,Sub,Zab,Zac,Nat.pow_zero,Nat.mul_one,Zck]
      ·omega
      ·intro k hk;have h10:10 ^ k≤10 ^ 3:=Nat.pow_le_pow_right (by decide) (by omega);have hM:n*10 ^ k≤10000000009*10 ^ 3:=Nat.mul_le_mul hn h10;simp only[go_sem,↓reduceIte];refine⟨fun c2=>?_,fun c2=>?_⟩
       ·have hs1:n*10 ^ (k+1)=n*10 ^ k*10:=by rw[Nat.pow_succ,Nat.mul_assoc]
        generalize hMM:n*10 ^ k=M at hM hs1 ⊢;simp(disch:=omega)only[IntWalk.i64_in,IntWalk.u8_in];refine⟨k+1,?_,by omega,by omega⟩;refine q1m ?_ trivial;simp only[go_sem,↓reduceIte,Sub,Zab,Zac,hs1];rw[Int.add_assoc]
       ·have hk3:k=3-P:=by omega
        rw[←hk3]at hF;generalize hMM:n*10 ^ k=M at hM hF ⊢;refine⟨fun c3=>?_,fun c3=>?_⟩
        ·rw[if_pos (by omega)]at hF;subst hF;simp[resP,errD]
        ·rw[if_neg (by omega)]at hF;subst hF;cases N
         ·simp(disch:=omega)only[go_sem,↓reduceIte,resP,errD]
         ·simp(disch:=omega)only[go_sem,↓reduceIte,resP,errD,Int.zero_sub]
theorem q7c{k:Nat}(h:k<10):(UInt8.ofNat (48+k)).toNat=48+k:=by
 rw[UInt8.toNat_ofNat'];omega
theorem q2E{k n d:Nat}{p:Int}(r:List UInt8)(hk:k<10)(hn:n≤1000000000):
  q3s (UInt8.ofNat (48+k)::r) n d p=q3s r (if p<3 then 10*n+k else n) (d+1) (if 0≤p then p+1 else p):=by
 rw[q3s,q7c hk,if_neg (by omega),if_neg (by omega)];have e:48+k-48=k:=by omega
 rw[e]
 by_cases h:p<3
 ·rw[if_pos ⟨h,hn⟩,if_pos h]
 ·rw[if_neg (fun q=>h q.1),if_neg h]
theorem z3P(m:Nat):∃k l,k<10∧Lib.decDigits m=UInt8.ofNat (48+k)::l:=by
 induction m using Nat.strongRecOn with
 |_ m ih=>
  rw[Lib.decDigits]
  by_cases h:m<10
  ·rw[dif_pos h];exact⟨m,[],h,rfl⟩
  ·rw[dif_neg h];obtain⟨k,l,hk,e⟩:=ih (m / 10) (by omega);rw[e];exact⟨k,_,hk,rfl⟩
theorem j16(m:Nat):∀rest,m≤1000000000→q3s (Lib.decDigits m++rest) 0 0 (-1)=q3s rest m (Lib.decDigits m).length (-1):=by
 induction m using Nat.strongRecOn with
 |_ m ih=>
  intro rest hm;rw[Lib.decDigits]
  by_cases h:m<10
  ·rw[dif_pos h];show q3s (UInt8.ofNat (48+m)::rest) 0 0 (-1)=_
   rw[q2E rest h (by omega),if_pos (by decide),if_neg (by decide)];simp
  ·rw[dif_neg h,List.append_assoc,ih (m / 10) (by omega) _ (by omega)];show q3s (UInt8.ofNat (48+m % 10)::rest) _ _ _=_
   rw[q2E rest (by omega) (by omega),if_pos (by decide),if_neg (by decide),Zad];congr 1
   omega
theorem z9u(m r d:Nat)(hm:m≤1000000)(hr:r<1000):∃n d' p,q3s (z1t r) m d (-1)=some (n,d',p)∧d≤d'∧n*10 ^ (3-p.toNat)=1000*m+r:=by
 have hp:∀l:List UInt8,q3s (46::l) m d (-1)=q3s l m d 0:=fun l=>by
  rw[q3s,if_pos (by decide)]
 have hz:∀k,k<10→(UInt8.ofNat (48+k)=48)=(k=0):=fun k hk=>by
  rw[eq_iff_iff];refine⟨fun h=>?_,fun h=>by rw[h];rfl⟩;have:=congrArg UInt8.toNat h;rw[q7c hk]at this;have h48:(48:UInt8).toNat=48:=rfl;omega
 have e3:q6s r=([UInt8.ofNat (48+r / 100),UInt8.ofNat (48+r / 10 % 10)]++[UInt8.ofNat (48+r % 10)]:List UInt8):=rfl;have e2:([UInt8.ofNat (48+r / 100),UInt8.ofNat (48+r / 10 % 10)]:List UInt8)=[UInt8.ofNat (48+r / 100)]++[UInt8.ofNat (48+r / 10 % 10)]:=rfl;have e1:([UInt8.ofNat (48+r / 100)]:List UInt8)=[]++[UInt8.ofNat (48+r / 100)]:=rfl;unfold z1t
 by_cases h3:r % 10=0
 ·by_cases h2:r / 10 % 10=0
  ·by_cases h1:r / 100=0
   ·have:r=0:=by omega
    subst this;exact⟨m,d,-1,rfl,Zai _,by simp;omega⟩
   ·have e:q47 (q6s r)=[UInt8.ofNat (48+r / 100)]:=by
     rw[e3,q3e,if_pos ((hz _ (by omega)).mpr h3),e2,q3e,if_pos ((hz _ (by omega)).mpr h2),e1,q3e,if_neg (fun h=>h1 ((hz _ (by omega)).mp h))]
    rw[e,if_neg (by simp),hp,q2E _ (by omega) (by omega),if_pos (by decide),if_pos (by decide)];exact⟨_,_,_,rfl,by omega,by show(10*m+r / 100)*100=_;omega⟩
  ·have e:q47 (q6s r)=[UInt8.ofNat (48+r / 100),UInt8.ofNat (48+r / 10 % 10)]:=by
    rw[e3,q3e,if_pos ((hz _ (by omega)).mpr h3),e2,q3e,if_neg (fun h=>h2 ((hz _ (by omega)).mp h))]
   rw[e,if_neg (by simp),hp,q2E _ (by omega) (by omega),if_pos (by decide),if_pos (by decide),q2E _ (by omega) (by omega),if_pos (by decide),if_pos (by decide)];exact⟨_,_,_,rfl,by omega,by show(10*(10*m+r / 100)+r / 10 % 10)*10=_;omega⟩
 ·have e:q47 (q6s r)=[UInt8.ofNat (48+r / 100),UInt8.ofNat (48+r / 10 % 10),UInt8.ofNat (48+r % 10)]:=by
   rw[e3,q3e,if_neg (fun h=>h3 ((hz _ (by omega)).mp h))];rfl
  rw[e,if_neg (by simp),hp,q2E _ (by omega) (by omega),if_pos (by decide),if_pos (by decide),q2E _ (by omega) (by omega),if_pos (by decide),if_pos (by decide),q2E _ (by omega) (by omega),if_pos (by decide),if_pos (by decide)];exact⟨_,_,_,rfl,by omega,by show(10*(10*(10*m+r / 100)+r / 10 % 10)+r % 10)*1=_;omega⟩
theorem z9S{a:Int}(h:Lim a):q5i (q4z a)=(a,0):=by
 unfold Lim at h;obtain⟨m,hm⟩:∃m,a.natAbs=m:=⟨_,rfl⟩;have hs:z2I (q4z a)=(decide (a<0),Lib.decDigits (m / 1000)++z1t (m % 1000)):=by
  unfold q4z;rw[hm]
  by_cases hn:a<0
  ·rw[if_pos hn];show z2I (45::(Lib.decDigits (m / 1000)++z1t (m % 1000)))=_
   rw[z2I,if_pos (by decide)];simp[hn]
  ·rw[if_neg hn];obtain⟨k,l,hk,e⟩:=z3P (m / 1000);rw[e];show z2I (UInt8.ofNat (48+k)::(l++_))=_
   rw[z2I,q7c hk,if_neg (by omega),if_neg (by omega)];simp[hn]
 have hd:0<(Lib.decDigits (m / 1000)).length:=by
  obtain⟨k,l,hk,e⟩:=z3P (m / 1000);rw[e];simp
 unfold q5i;rw[hs,j16 _ _ (by omega)];obtain⟨n,d',p,e,hd',hn⟩:=z9u (m / 1000) (m % 1000) (Lib.decDigits (m / 1000)).length (by omega) (by omega);rw[e];dsimp only[finP];rw[hn,if_neg (by omega),if_neg (by omega)]
 by_cases hn0:a<0
 ·rw[if_pos (by simp[hn0])];congr 1;omega
 ·rw[if_neg (by simp[hn0])];congr 1;omega
def q8t:q0l:=
 .seq (.reg [Qx 2 KF]) (.seq (.reg [Qc 3 0,Q 4 (.bin .eql (.t 3) (Kb 0)),Qc 5 4,Qd 6 0 5 false,Qg 7 (.bin .eql (.t 6) (Kb 9)) 5 false,Q 8 (.pick (.t 5) KT (.t 7)),Qc 9 8,Qd 
 10 0 9 false,Qg 11 (.bin .eql (.t 10) (Kb 10)) 9 false,Q 12 (.pick (.t 9) KT (.t 11)),Qc 13 12,Qd 14 0 13 false,Qg 15 (.bin .eql (.t 14) (Kb 12)) 13 false,Q 16 (.pick (.t 
 13) KT (.t 15)),Qc 17 16,Qd 18 0 17 false,Qg 19 (.bin .eql (.t 18) (Kb 13)) 17 false,Q 20 (.pick (.t 17) KT (.t 19)),Qc 21 20,Qd 22 0 21 false,Qg 23 (.bin .eql (.t 22) (Kb 
 32)) 21 false,Q 24 (.pick (.t 21) KT (.t 23)),Qa 2 24]) .ret)
def q8B:List LRes:=[.tmp 2]
theorem z0D:q0E Tryz.prog 48 25 q8t q8B:=⟨_,_,Tryz.func48,rfl,by kernel_rfl,by kernel_rfl,rfl⟩
def z05:q0l:=
 .seq (.reg [Qx 2 (Ki 0)]) (.seq (.block 0 (.seq (.reg [Qc 4 0,Q 5 (.bin .geq (.t 4) (Kb 48)),Qc 6 5,Qd 7 0 6 true,Qg 8 (.bin .leq (.t 7) (Kb 57)) 6 true,Q 9 (.pick (.t 6) (.t 
 8) KF),Qa 3 9]) (.cond (.t 3) (.seq (.reg [Qc 10 0,Q 11 (.bin .sub (.t 10) (Kb 48)),Q 12 (.cvI .i64 (.t 11)),Qa 2 12]) .ret) (.seq (.reg [Qc 14 0,Q 15 (.bin .geq (.t 14) (Kb 
 97)),Qc 16 15,Qd 17 0 16 true,Qg 18 (.bin .leq (.t 17) (Kb 102)) 16 true,Q 19 (.pick (.t 16) (.t 18) KF),Qa 13 19]) (.cond (.t 13) (.seq (.reg [Qc 20 0,Q 21 (.bin .sub (.t 
 20) (Kb 97)),Q 22 (.cvI .i64 (.t 21)),Q 23 (.bin .add (.t 22) (Ki 10)),Qa 2 23]) .ret) (.seq (.reg [Qc 25 0,Q 26 (.bin .geq (.t 25) (Kb 65)),Qc 27 26,Qd 28 0 27 true,Qg 29 
 (.bin .leq (.t 28) (Kb 70)) 27 true,Q 30 (.pick (.t 27) (.t 29) KF),Qa 24 30]) (.cond (.t 24) (.seq (.reg [Qc 31 0,Q 32 (.bin .sub (.t 31) (Kb 65)),Q 33 (.cvI .i64 (.t 32)), 
 Q 34 (.bin .add (.t 33) (Ki 10)),Qa 2 34]) .ret) .skip))))))) (.seq (.reg [Qx 2 (Ki (-1))]) .ret))
def z1a:List LRes:=[.tmp 2]
theorem z2D:q0E Tryz.prog 106 35 z05 z1a:=⟨_,_,Tryz.func106,rfl,by kernel_rfl,by kernel_rfl,rfl⟩
def q2b(n:Int):Bool:=decide (n=0) || (decide (n=9) || (decide (n=10) || (decide (n=12) || (decide (n=13) || decide (n=32)))))
def hexI(n:Int):Int:=if 48≤n∧n≤57 then n-48 else if 97≤n∧n≤102 then n-87 else if 65≤n∧n≤70 then n-55 else -1
theorem q9v(n:Int):q0y Tryz.prog 48 [.int .u8 n] (fun r=>r=.one (.bool (q2b n))):=by
 refine z0D.call rfl ?_;simp only[go_sem,↓reduceIte,q8t,q8B];unfold q2b;simp +contextual
theorem q8W{n:Int}(h:0≤n∧n<256):q0y Tryz.prog 106 [.int .u8 n] (fun r=>r=.one (.int .i64 (hexI n))):=by
 refine z2D.call rfl ?_;simp only[go_sem,↓reduceIte,z05,z1a];unfold hexI;repeat' (first|apply And.intro|intro _)
 all_goals
  congr 2
  try simp only[IntKind.wrap_i64,IntKind.wrap_u8]
  (repeat' split)<;>omega
def q2O:List UInt8→Int→List UInt8→List UInt8×Nat
 |[],_,_=>([],5)
 |c::r,h,b=>
  if c.toNat=62 then(if 0≤h then b++[q55 (16*h)]else b,0)
  else if q2b c.toNat=true then q2O r h b
  else if hexI c.toNat<0 then([],4)
  else if h<0 then q2O r (hexI c.toNat) b
  else q2O r (-1) (b++[q55 (16*h+hexI c.toNat)])
theorem q76(n:Int): -1≤hexI n∧hexI n≤15:=by
 unfold hexI;(repeat' split)<;>omega
def q9C:List UInt8→Nat
 |[]=>0
 |c::r=>if c.toNat=62 then 1 else q9C r+1
theorem z6T{α:Type}{l:List α}{i:Nat}{x:α}(h:l[i]?=some x):l.drop i=x::l.drop (i+1):=by
 obtain⟨hi,rfl⟩:=Zaa.1 h;exact Zcw hi
/-! ### Blanks, words -/
def z4G:List UInt8:=[40,41,60,62,91,93,123,125,47,37]
def q3V(c:UInt8):Bool:=decide (c∈z4G)
def q3W(note:Bool):List UInt8→Nat→Nat
 |[],at_=>at_
 |c::r,at_=>
  if note=true then q3W (decide (c.toNat≠10)&&decide (c.toNat≠13)) r (at_+1)
  else if c.toNat=37 then q3W true r (at_+1)
  else if q2b c.toNat=true then q3W false r (at_+1)
  else at_
def q0o(s:List UInt8)(at_:Nat):Nat:=q3W false (s.drop at_) at_
def q2a(s:List UInt8):List UInt8:=s.takeWhile fun c => !q2b c.toNat && !q3V c
def q08(s:List UInt8)(at_:Nat):List UInt8:=q2a (s.drop at_)
def q3M(s:List UInt8)(n:Int):Nat:=(min (max n 0) s.length).toNat
theorem z00:∀(s:List UInt8) (b:Bool) (k:Nat),k≤q3W b s k∧q3W b s k≤k+s.length
 |[],b,k=>by simp[q3W]
 |c::r,b,k=>by
  unfold q3W;simp only[Zaf];split
  ·have:=z00 r (decide (c.toNat≠10)&&decide (c.toNat≠13)) (k+1);omega
  ·split
   ·have:=z00 r true (k+1);omega
   ·split
    ·have:=z00 r false (k+1);omega
    ·omega
theorem q2X{s:List UInt8}{k:Nat}(h:k≤s.length):k≤q0o s k∧q0o s k≤s.length:=by
 have:=z00 (s.drop k) false k;rw[Zay]at this;unfold q0o;omega
theorem q4X:∀(s:List UInt8) (b:Bool) (k m:Nat),q3W b s (m+k)=m+q3W b s k
 |[],b,k,m=>by simp[q3W]
 |c::r,b,k,m=>by
  unfold q3W;split
  ·rw[Zbn,q4X r _ (k+1) m]
  ·split
   ·rw[Zbn,q4X r _ (k+1) m]
   ·split
    ·rw[Zbn,q4X r _ (k+1) m]
    ·rfl
theorem q4h(s:List UInt8)(k:Nat):(q08 s k).length≤s.length-k:=by
 have:=(List.takeWhile_sublist (fun c:UInt8 => !q2b c.toNat && !q3V c) (l:=s.drop k)).length_le;rw[Zay]at this;exact this
theorem z9o{c:UInt8}(h:c.toNat<128):(Utf8.encode (c.toNat:Int)).data.toList=[c]:=by
 have:∀n:Fin 128,(Utf8.encode ((n.val:Nat):Int)).data.toList=[UInt8.ofNat n.val]:=by decide +kernel
 have:=this ⟨c.toNat,h⟩;simp only at this;rw[this];simp
theorem z7O(k:Nat):q4z ((k:Int)*1000)=Lib.decDigits k:=by
 have h1:¬((k:Int)*1000<0):=by omega
 have h2:((k:Int)*1000).natAbs=k*1000:=by omega
 unfold q4z;rw[if_neg h1,h2];have h3:k*1000 / 1000=k:=by omega
 have h4:k*1000 % 1000=0:=by omega
 rw[h3,h4];have h5:z1t 0=[]:=by decide
 simp[h5]
def q1n:q0l:=
 .seq (.reg [⟨some 3,.box (.t 1),none⟩]) (.seq (.reg [Q 12 (.fa 0 (.t 3)),Q 13 (.ld false 1 (.t 12))]) (.block 0 (.seq (.reg [Q 17 (.bin .eql (.t 13) (Ki 1)),Qa 16 17]) (.cond 
 (.t 16) (.reg [Qc 18 0,⟨some 19,.bsl 9 1 [.k (.d (.str [102,97,108,115,101])),.k (.d (.str [116,114,117,101]))],none⟩,Q 20 (.fa 1 (.t 3)),Q 21 (.ld false 1 (.t 20)), 
 Q 22 (.ia 1 (.t 19) (.t 21)),Q 23 (.ld false 1 (.t 22)),⟨some 24,.prim .call [.k (.fn (.func 86) [] []),.t 18,.t 23] [],none⟩]) (.seq (.reg [Q 26 (.bin .eql (.t 13) (Ki 
 2)),Qa 25 26]) (.cond (.t 25) (.seq (.reg [Q 28 (.fa 1 (.t 3)),Q 29 (.ld false 1 (.t 28)),⟨some 30,.call 87 [.t 29],none⟩,Qc 27 30,Q 31 (.ext 0 (.t 27)),Q 32 (.ext 1 (.t 
 27)),Qa 4 31,Qa 5 32]) (.reg [Qc 33 0,Qc 34 4,⟨some 35,.prim .call [.k (.fn (.func 86) [] []),.t 33,.t 34] [],none⟩])) (.seq (.reg [Q 37 (.bin .eql (.t 13) (Ki 3)),Qa 36 
 37]) (.cond (.t 36) (.reg [Qc 38 0,Q 39 (.fa 2 (.t 3)),Q 40 (.ld false 1 (.t 39)),⟨some 41,.prim .call [.k (.fn (.func 88) [] []),.t 38,.t 40] [],none⟩]) (.seq (.reg [Q 43 
 (.bin .eql (.t 13) (Ki 4)),Qa 42 43]) (.cond (.t 42) (.reg [Qc 44 0,Q 45 (.fa 2 (.t 3)),Q 46 (.ld false 1 (.t 45)),⟨some 47,.prim .call [.k (.fn (.func 89) [] []),.t 44,.t 
 46] [],none⟩]) (.seq (.reg [Q 49 (.bin .eql (.t 13) (Ki 5)),Qa 48 49]) (.cond (.t 48) (.seq (.reg [Qc 50 0,⟨some 51,.prim .call [.k (.fn (.func 90) [] []),.t 50,.k (.d 
 (.int .u8 91))] [],none⟩]) (.seq (.seq (.reg [Q 52 (.fa 3 (.t 3)),Q 53 (.ld false 1 (.t 52)),Q 54 (.len false (.t 53)),Q 55 (.cp (Ki 0))]) (.block 1 (.loop (.seq (.reg [Q 56 
 (.bin .lss (.t 55) (.t 54))]) (.seq (.cond (.t 56) .skip (.exit 1)) (.seq (.block 2 (.seq (.reg [Qc 57 55,Q 58 (.ia 5 (.t 53) (.t 55)),Q 59 (.ld true 5 (.t 58)),⟨some 7,.allo 
 [.int .i64 0,.int .i64 0,.str [],.list [],.list []],none⟩,Qa 6 57,⟨none,.st 5 (.t 7) (.t 59),none⟩]) (.seq (.seq (.reg [Qc 60 6,Q 61 (.bin .gtr (.t 60) (Ki 0))]) (.cond 
 (.t 61) (.reg [Qc 62 0,⟨some 63,.prim .call [.k (.fn (.func 90) [] []),.t 62,.k (.d (.int .u8 32))] [],none⟩]) .skip)) (.reg [Qc 64 0,Q 65 (.ld true 5 (.t 7)),⟨some 66, 
 .prim .call [.k (.fn (.func 53) [] []),.t 64,.t 65] [],none⟩])))) (.reg [Q 67 (.bin .add (.t 55) (Ki 1)),Qc 55 67]))))))) (.reg [Qc 68 0,⟨some 69,.prim .call [.k (.fn 
 (.func 90) [] []),.t 68,.k (.d (.int .u8 93))] [],none⟩]))) (.seq (.reg [Q 71 (.bin .eql (.t 13) (Ki 6)),Qa 70 71]) (.cond (.t 70) (.seq (.reg [Qc 72 0,⟨some 73,.prim .call 
 [.k (.fn (.func 86) [] []),.t 72,.k (.d (.str [60,60]))] [],none⟩]) (.seq (.seq (.reg [Q 74 (.fa 4 (.t 3)),Q 75 (.ld false 1 (.t 74)),Q 76 (.len false (.t 75)),Q 77 (.cp 
 (Ki 0))]) (.block 3 (.loop (.seq (.reg [Q 78 (.bin .lss (.t 77) (.t 76))]) (.seq (.cond (.t 78) .skip (.exit 3)) (.seq (.block 4 (.seq (.reg [Q 79 (.ia 6 (.t 75) (.t 77)),Q 80 
 (.ld true 6 (.t 79)),⟨some 9,.allo [.str [],.int .i64 0,.int .i64 0,.str [],.list [],.list []],none⟩,⟨none,.st 6 (.t 9) (.t 80),none⟩]) (.seq (.reg [Qc 81 0,⟨some 82, 
 .prim .call [.k (.fn (.func 90) [] []),.t 81,.k (.d (.int .u8 32))] [],none⟩]) (.seq (.reg [Qc 83 0,Q 84 (.fa 0 (.t 9)),Q 85 (.ld false 1 (.t 84)),⟨some 86,.prim .call [.k 
 (.fn (.func 89) [] []),.t 83,.t 85] [],none⟩]) (.seq (.reg [Qc 87 0,⟨some 88,.prim .call [.k (.fn (.func 90) [] []),.t 87,.k (.d (.int .u8 32))] [],none⟩]) (.reg [Qc 89 
 0,Q 90 (.fa 1 (.t 9)),Q 91 (.ld true 5 (.t 90)),⟨some 92,.prim .call [.k (.fn (.func 53) [] []),.t 89,.t 91] [],none⟩])))))) (.reg [Q 93 (.bin .add (.t 77) (Ki 1)),Qc 77 
 93]))))))) (.reg [Qc 94 0,⟨some 95,.prim .call [.k (.fn (.func 86) [] []),.t 94,.k (.d (.str [32,62,62]))] [],none⟩]))) (.seq (.reg [Q 97 (.bin .eql (.t 13) (Ki 7)),Qa 96 
 97]) (.cond (.t 96) (.seq (.reg [Q 99 (.fa 1 (.t 3)),Q 100 (.ld false 1 (.t 99)),Q 101 (.bin .mul (.t 100) (Ki 1000)),⟨some 102,.call 87 [.t 101],none⟩,Qc 98 102,Q 103 
 (.ext 0 (.t 98)),Q 104 (.ext 1 (.t 98)),Qa 10 103,Qa 11 104]) (.reg [Qc 105 0,Qc 106 10,Q 107 (.bin .add (.t 106) (.k (.d (.str [32,48,32,82])))),⟨some 108,.prim .call 
 [.k (.fn (.func 86) [] []),.t 105,.t 107] [],none⟩])) (.reg [Qc 14 0,⟨some 15,.prim .call [.k (.fn (.func 86) [] []),.t 14,.k (.d (.str [110,117,108,108]))] [], 
 none⟩])))))))))))))))))
def q1o:List LRes:=[]
theorem q05:q0E Tryz.prog 53 109 q1n q1o:=⟨_,_,Tryz.func53,rfl,by kernel_rfl,by kernel_rfl,rfl⟩
theorem j4O:∀(m:Nat) (v:Val) (b:Bld),SizeOf.sizeOf v≤m→v.sm 1048576=true→q12 v=true→b.bytes.length+(q0F v).length≤900000000→
  q1c Tryz.prog 53 [.ptr (.x 0) 0,.d v.d] [b.at (.x 0)] (.tuple []) [Bld.at (.x 0) (.has (b.bytes++q0F v))]:=by
 intro m;induction m with
 |zero=>intro v b h;cases v;simp at h
 |succ m ih=>
  intro v b hv hsm hw htl;obtain⟨hsl0,hll,hfl,hsl,hsf⟩:=Val.q1Q.1 hsm;have hvl:=q0Z v.l;have hfl':=q0R v.f;generalize hR:q0F v=R at htl ⊢;rw[z01]at hR;rw[Val.d_eq];rcases z4Q hw with hk|hk|hk|hk|hk|hk|hk|hk
  ·refine q05.q0G (by kernel_rfl) rfl ?_;rw[hk]at hR;simp only[Int.reduceEq,↓reduceIte]at hR;simp only[go_sem,↓reduceIte,q1n,q1o,hk,hvl,hfl'];refine q09 (.x 0) rfl (q0L b [110,117,108,108] (by rw[Zad,hR];omega)) rfl rfl rfl rfl ?_;simp only[go_sem,↓reduceIte];rw[hR]
  ·have hn:=j6j hw hk;rw[hk]at hR;simp only[Int.reduceEq,↓reduceIte]at hR;rcases hn with hn|hn
   ·refine q05.q0G (by kernel_rfl) rfl ?_;rw[hn]at hR;simp only[Int.reduceEq,↓reduceIte]at hR;simp only[go_sem,↓reduceIte,q1n,q1o,hk,hn,hvl,hfl'];have hg:getI [D.str [102,97,108,115,101],D.str [116,114,117,101]] 0=some (.str [102,97,108,115,101]):=rfl;simp only[go_sem,↓reduceIte,hg];refine q09 (.x 0) rfl (q0L b [102,97,108,115,101] (by rw[Zad,hR];omega)) rfl rfl rfl rfl ?_;simp only[go_sem,↓reduceIte];rw[hR]
   ·refine q05.q0G (by kernel_rfl) rfl ?_;rw[hn]at hR;simp only[↓reduceIte]at hR;simp only[go_sem,↓reduceIte,q1n,q1o,hk,hn,hvl,hfl'];have hg:getI [D.str [102,97,108,115,101],D.str [116,114,117,101]] 1=some (.str [116,114,117,101]):=rfl;simp only[go_sem,↓reduceIte,hg];refine q09 (.x 0) rfl (q0L b [116,114,117,101] (by rw[Zad,hR];omega)) rfl rfl rfl rfl ?_;simp only[go_sem,↓reduceIte];rw[hR]
  ·refine q05.q0G (by kernel_rfl) rfl ?_;have hL:=j2V hw hk;rw[hk]at hR;simp only[Int.reduceEq,↓reduceIte]at hR;have hc:=z6w v.n;rw[resT,if_pos hL]at hc;simp only[go_sem,↓reduceIte,q1n,q1o,hk,hvl,hfl'];refine q0j.of hc ?_;simp only[go_sem,↓reduceIte];refine q09 (.x 0) rfl (q0L b (q4z v.n) (by rw[Zad,hR];omega)) rfl rfl rfl rfl ?_;simp only[go_sem,↓reduceIte];rw[hR]
  ·refine q05.q0G (by kernel_rfl) rfl ?_;rw[hk]at hR;simp only[Int.reduceEq,↓reduceIte]at hR;simp only[go_sem,↓reduceIte,q1n,q1o,hk,hvl,hfl'];refine q09 (.x 0) rfl (j7a b v.s (by omega)) rfl rfl rfl rfl ?_;simp only[go_sem,↓reduceIte];rw[←hR];simp only[List.append_assoc]
  ·refine q05.q0G (by kernel_rfl) rfl ?_;rw[hk]at hR;simp only[Int.reduceEq,↓reduceIte]at hR;simp only[go_sem,↓reduceIte,q1n,q1o,hk,hvl,hfl'];refine q09 (.x 0) rfl (j1U b v.s (by omega)) rfl rfl rfl rfl ?_;simp only[go_sem,↓reduceIte];rw[←hR];simp only[List.append_assoc]
  ·refine q05.q0G (by kernel_rfl) rfl ?_;rw[hk]at hR;simp only[Int.reduceEq,↓reduceIte]at hR;have hRl:=congrArg List.length hR;simp only[Zad,Zaf,Zag]at hRl;simp only[go_sem,↓reduceIte,q1n,q1o,hk,hvl,hfl'];refine q09 (.x 0) rfl (q1z b 91 (by omega)) rfl rfl rfl rfl ?_;simp only[go_sem,↓reduceIte];refine q0n (fun i:Nat=>⟨[(0,.ptr (.x 0) 0),(3,.ptr (.l 3) 0),(53,.d (.list (q0u v.l))),(54,.d (.int .i64 v.l.length)),(55,.d (.int .i64 i))],
     [(3,.cells [.d (.int .i64 5),.d (.int .i64 v.n),.d (.str v.s),.d (.list (q0u v.l)),.d (.list (q0k v.f))])],
     [(0,Bld.at (.x 0) (.has (b.bytes++[91]++q1l false (v.l.take i))))]⟩)
    (fun i=>i≤v.l.length) (fun i=>v.l.length-i) 0 ?_ ?_ ?_
   ·refine Weak.mk ?_ ?_ ?_<;>simp only[go_sem,↓reduceIte,Sub,Zab,Zac,Zcf,q1l,hvl]
   ·omega
   ·intro i hi;simp only[go_sem,↓reduceIte,hvl];refine⟨fun hlt=>?_,fun hge=>?_⟩
    ·obtain⟨x,hx⟩:=get_some (l:=v.l) (i:=i) (by omega);have hm:=Zae hx;have hn:=z98 hx;have hle:=z4K (l:=v.l) (i:=i+1);have hnl:=congrArg List.length hn;simp only[Zad]at hnl
     by_cases i0:0<i
     ·rw[if_pos i0]at hn hnl;have i0':((0:Int)<(i:Int))=True:=eq_true (by omega);simp only[Zaf,Zag]at hnl;have hc:=ih x (.has (b.bytes++[91]++q1l false (v.l.take i)++[32])) (by have:=z2h hm;omega) (hsl x hm) (z4P hw hk hm) (by simp only[Bld.q0r,Zad,Zaf,Zag];omega);rw[Val.d_eq]at hc;simp(disch:=omega)only[go_sem,↓reduceIte,q0g,q4g,hx,Val.d_eq,i0']
      refine q09 (.x 0) rfl (q1z (.has (b.bytes++[91]++q1l false (v.l.take i))) 32 (by simp only[Bld.q0r,Zad,Zaf,Zag];omega)) rfl rfl rfl rfl ?_;simp(disch:=omega)only[go_sem,↓reduceIte,Bld.q0r];refine q09 (.x 0) rfl (hc) rfl rfl rfl rfl ?_;simp(disch:=omega)only[go_sem,↓reduceIte];refine⟨i+1,?_,by omega,by omega⟩;refine Weak.mk ?_ ?_ ?_<;>simp only[go_sem,↓reduceIte,Sub,Zab,Zac,hn,Bld.q0r,List.append_assoc]
     ·rw[if_neg i0]at hn hnl;have i0':((0:Int)<(i:Int))=False:=eq_false (by omega);simp only[Zag]at hnl;have hc:=ih x (.has (b.bytes++[91]++q1l false (v.l.take i))) (by have:=z2h hm;omega) (hsl x hm) (z4P hw hk hm) (by simp only[Bld.q0r,Zad,Zaf,Zag];omega);rw[Val.d_eq]at hc;simp(disch:=omega)only[go_sem,↓reduceIte,q0g,q4g,hx,Val.d_eq,i0'];refine q09 (.x 0) rfl (hc) rfl rfl rfl rfl ?_;simp(disch:=omega)only[go_sem,↓reduceIte]
      refine⟨i+1,?_,by omega,by omega⟩;refine Weak.mk ?_ ?_ ?_<;>simp only[go_sem,↓reduceIte,Sub,Zab,Zac,hn,Bld.q0r,List.append_assoc,Zav]
    ·rw[Zbs (by omega)];refine q09 (.x 0) rfl (q1z (.has (b.bytes++[91]++q1l false v.l)) 93 (by simp only[Bld.q0r,Zad,Zaf,Zag];omega)) rfl rfl rfl rfl ?_;simp only[go_sem,↓reduceIte,Bld.q0r];rw[←hR];simp only[List.append_assoc]
  ·refine q05.q0G (by kernel_rfl) rfl ?_;rw[hk]at hR;simp only[Int.reduceEq,↓reduceIte]at hR;have hRl:=congrArg List.length hR;simp only[Zad,Zaf,Zag]at hRl;simp only[go_sem,↓reduceIte,q1n,q1o,hk,hvl,hfl'];refine q09 (.x 0) rfl (q0L b [60,60] (by simp only[Zad,Zaf,Zag];omega)) rfl rfl rfl rfl ?_;simp only[go_sem,↓reduceIte]
   refine q0n (fun i:Nat=>⟨[(0,.ptr (.x 0) 0),(3,.ptr (.l 3) 0),(75,.d (.list (q0k v.f))),(76,.d (.int .i64 v.f.length)),(77,.d (.int .i64 i))],
     [(3,.cells [.d (.int .i64 6),.d (.int .i64 v.n),.d (.str v.s),.d (.list (q0u v.l)),.d (.list (q0k v.f))])],
     [(0,Bld.at (.x 0) (.has (b.bytes++[60,60]++q2f (v.f.take i))))]⟩)
    (fun i=>i≤v.f.length) (fun i=>v.f.length-i) 0 ?_ ?_ ?_
   ·refine Weak.mk ?_ ?_ ?_<;>simp only[go_sem,↓reduceIte,Sub,Zab,Zac,Zcf,q2f,hfl']
   ·omega
   ·intro i hi;simp only[go_sem,↓reduceIte,hfl'];refine⟨fun hlt=>?_,fun hge=>?_⟩
    ·obtain⟨x,hx⟩:=get_some (l:=v.f) (i:=i) (by omega);have hm:=Zae hx;have hn:=j0a hx;have hle:=z4L (l:=v.f) (i:=i+1);have hnl:=congrArg List.length hn;simp only[j4D,Zad,Zaf,Zag]at hnl;have hsx:=Fld.q1Q.1 (hsf x hm);have hsx1:=hsx.1
     have hc:=ih x.v (.has (b.bytes++[60,60]++q2f (v.f.take i)++[32]++[47]++q1q x.name++[32])) (by have:=z2g hm;omega) hsx.2 (j6m hw hk hm) (by simp only[Bld.q0r,Zad,Zaf,Zag];omega);rw[Val.d_eq]at hc;simp(disch:=omega)only[go_sem,↓reduceIte,q0g,q07,hx,Fld.d_eq];refine q09 (.x 0) rfl (q1z (.has (b.bytes++[60,60]++q2f (v.f.take i))) 32 (by simp only[Bld.q0r,Zad,Zaf,Zag];omega)) rfl rfl rfl rfl ?_
     simp(disch:=omega)only[go_sem,↓reduceIte,Bld.q0r];refine q09 (.x 0) rfl (j1U (.has (b.bytes++[60,60]++q2f (v.f.take i)++[32])) x.name (by simp only[Bld.q0r,Zad,Zaf,Zag];omega)) rfl rfl rfl rfl ?_;simp(disch:=omega)only[go_sem,↓reduceIte,Bld.q0r];refine q09 (.x 0) rfl (q1z (.has (b.bytes++[60,60]++q2f (v.f.take i)++[32]++[47]++q1q x.name)) 32 (by simp only[Bld.q0r,Zad,Zaf,Zag];omega)) rfl rfl rfl rfl ?_
     simp(disch:=omega)only[go_sem,↓reduceIte,Bld.q0r];refine q09 (.x 0) rfl (hc) rfl rfl rfl rfl ?_;simp(disch:=omega)only[go_sem,↓reduceIte];refine⟨i+1,?_,by omega,by omega⟩;refine Weak.mk ?_ ?_ ?_<;>simp only[go_sem,↓reduceIte,Sub,Zab,Zac,hn,Bld.q0r,j4D,List.append_assoc]
    ·rw[Zbs (by omega)];refine q09 (.x 0) rfl (q0L (.has (b.bytes++[60,60]++q2f v.f)) [32,62,62] (by simp only[Bld.q0r,Zad,Zaf,Zag];omega)) rfl rfl rfl rfl ?_;simp only[go_sem,↓reduceIte,Bld.q0r];rw[←hR];simp only[List.append_assoc]
  ·refine q05.q0G (by kernel_rfl) rfl ?_;have hL:=z7S hw hk;rw[hk]at hR;simp only[Int.reduceEq,↓reduceIte]at hR;have hc:=z6w (v.n*1000);have hLim:Lim (v.n*1000):=by unfold Lim;omega
   have hz:v.n=((v.n.toNat:Nat):Int):=by omega
   have hT:q4z (v.n*1000)=Lib.decDigits v.n.toNat:=by rw[hz];exact z7O _
   rw[resT,if_pos hLim,hT]at hc;simp(disch:=omega)only[go_sem,↓reduceIte,q1n,q1o,hk,hvl,hfl'];refine q0j.of hc ?_;simp only[go_sem,↓reduceIte];have hRl:=congrArg List.length hR;simp only[Zad,Zaf,Zag]at hRl;refine⟨by omega,?_⟩;refine q09 (.x 0) rfl (q0L b (Lib.decDigits v.n.toNat++[32,48,32,82]) (by rw[Zad,hR];omega)) rfl rfl rfl rfl ?_;simp only[go_sem,↓reduceIte];rw[hR]
/-! ### The whole text -/
theorem j2N{a:Int}(h:Lim a):(q4z a).length≤100:=by
 unfold Lim at h;have h1:=q7j (a.natAbs / 1000) 6 (by omega);have h2:(q47 (q6s (a.natAbs % 1000))).length≤3:=by
  unfold q47;rw[List.length_reverse];exact Zbw (List.dropWhile_sublist _).length_le (by rw[List.length_reverse];exact Zai 3)
 have h3:(z1t (a.natAbs % 1000)).length≤4:=by
  unfold z1t;split
  ·simp
  ·simp only[Zaf];omega
 have h4:(if a<0 then[(45:UInt8)]else[]).length≤1:=by split<;>simp
 unfold q4z;simp only[Zad];omega
theorem z1T{s:List UInt8}(h:q1A s=true):s.length≤200:=by
 unfold q1A at h;simp only[Zah,decide_eq_true_eq]at h;exact h.2.1
theorem j6k{v:Val}(h:q12 v=true)(hk:v.kind=3):v.s.length≤200:=by rw[q2Y,hk]at h;simp at h;exact h.2.1
theorem j6l{v:Val}(h:q12 v=true)(hk:v.kind=4):v.s.length≤200:=by rw[q2Y,hk]at h;simp at h;exact z1T h.2.1
theorem z9d{v:Val}(h:q12 v=true)(hk:v.kind=6):∀x∈v.f,q1A x.name=true∧q12 x.v=true:=by rw[q2Y,hk]at h;simp at h;exact fun x hx=>z2s h.2.2.2 hx
mutual
theorem q7a:∀(v:Val),q12 v=true→(q0F v).length+700≤2000*(ptV v).1
 |.mk k n s l f,hw=>by
  have hl:k=5→(q1l false l).length≤2000*(ptL l).1:=fun e=>z6u l false (fun x hx=>z4P hw e hx)
  have hf:k=6→(q2f f).length≤2000*(ptF f).1:=fun e=>z6v f (z9d hw e)
  have h1:=q8o s;have h2:=q65 s;have h3:k=3→s.length≤200:=fun e=>j6k hw e
  have h4:k=4→s.length≤200:=fun e=>j6l hw e
  have h5:k=2→(q4z n).length≤100:=fun e=>j2N (j2V hw e)
  have h6:k=7→(Lib.decDigits n.toNat).length≤3:=fun e=>by
   have:=z7S hw e;simp only[Val.n]at this;exact q7j _ 2 (by omega)
  simp only[q0F,ptV];split
  ·split<;>simp<;>omega
  split
  ·rename_i e;have:=h5 e;omega
  split
  ·rename_i e;have:=h3 e;simp only[Zad,Zaf,Zag];omega
  split
  ·rename_i e;have:=h4 e;simp only[Zad,Zaf,Zag];omega
  split
  ·rename_i e;have:=hl e;simp only[Zad,Zaf,Zag];omega
  split
  ·rename_i e;have:=hf e;simp only[Zad,Zaf,Zag];omega
  split
  ·rename_i e;have:=h6 e;simp only[Zad,Zaf,Zag];omega
  ·simp only[Zaf,Zag];omega
theorem z6u:∀(l:List Val) (sep:Bool),(∀x∈l,q12 x=true)→(q1l sep l).length≤2000*(ptL l).1
 |[],_,_=>by simp[q1l]
 |v::r,sep,h2=>by
  have a:=q7a v (h2 v (by simp));have b:=z6u r true (fun x hx=>h2 x (by simp[hx]));have c:(if sep=true then[(32:UInt8)]else[]).length≤1:=by split<;>simp
  simp only[q1l,ptL,Zad];omega
theorem z6v:∀(l:List Fld),(∀x∈l,q1A x.name=true∧q12 x.v=true)→(q2f l).length≤2000*(ptF l).1
 |[],_=>by simp[q2f]
 |.mk nm v::r,h2=>by
  have z:=h2 (.mk nm v) (by simp);simp only[Fld.name,Fld.v]at z;have a:=q7a v z.2;have b:=z6v r (fun x hx=>h2 x (by simp[hx]));have c:=q65 nm;have d:=z1T z.1;simp only[q2f,ptF,Zad,Zaf,Zag];omega
end
theorem q8U{v:Val}:q2i v=0↔(¬(300<(ptV v).1∨8<(ptV v).2)∧q12 v=true):=by
 unfold q2i;split
 ·rename_i h;simp only[h,not_true,false_and,iff_false];omega
 ·rename_i h;split
  ·rename_i h2;simp[h,h2]
  ·rename_i h2;simp[h2]
def z99(v:Val):Res:=if q2i v=0 then .tup [.str (q0F v),.nil]else .tup [.str [],errD (q2i v)]
def q6G:q0l:=
 .seq (.reg [⟨some 1,.box (.t 0),none⟩,Qx 2 (.k (.d (.str []))),Qx 3 (.k (.d .nil))]) (.seq (.reg [Q 6 (.ld true 5 (.t 1)),⟨some 7,.call 52 [.t 6],none⟩,Qa 4 7]) (.seq (.seq 
 (.reg [Qc 8 4,Q 9 (.eqN 0 true (.t 8))]) (.cond (.t 9) (.seq (.reg [Qc 10 4,Qx 2 (.k (.d (.str []))),Qa 3 10]) .ret) .skip)) (.seq (.reg [⟨some 5,.allo [.nilpT 102,.list 
 []],none⟩]) (.seq (.reg [Q 11 (.ld true 5 (.t 1)),⟨some 12,.prim .call [.k (.fn (.func 53) [] []),.t 5,.t 11] [],none⟩]) (.seq (.reg [⟨some 13,.prim .call [.k (.fn (.func 
 54) [] []),.t 5] [],none⟩,Qa 2 13,Qx 3 (.k (.d .nil))]) .ret)))))
def q6M:List LRes:=[.tmp 2,.tmp 3]
theorem q62:q0E Tryz.prog 30 14 q6G q6M:=⟨_,_,Tryz.func30,rfl,by kernel_rfl,by kernel_rfl,rfl⟩
theorem q91(v:Val)(hsm:v.sm 1048576=true):q0y Tryz.prog 30 [v.d] (fun r=>r=z99 v):=by
 have hc:=z1f v hsm
 by_cases h0:q2i v=0
 ·obtain⟨h1,hw⟩:=q8U.1 h0;have hl:=q7a v hw;have h2:=j4O _ v .new (Zai _) hsm hw (by simp only[Bld.bytes,Zag];omega);have h3:=z7L (.has (q0F v)) (by simp only[Bld.bytes];omega);rw[z99,if_pos h0];rw[h0,show errD 0=.nil from rfl]at hc;rw[Val.d_eq]at *;refine q62.call rfl ?_;simp only[go_sem,↓reduceIte,q6G,q6M];refine q0j.of hc ?_;simp only[go_sem,↓reduceIte];simp only[Bld.obj,Bld.said,Bld.bytes]at h3;refine q09 (.l 5) rfl (h2) rfl rfl rfl rfl ?_
  simp only[go_sem,↓reduceIte,Bld.at,Bld.bytes];refine q0b.mc1 (.l 5) rfl (h3) rfl rfl rfl rfl ⟨rfl,rfl⟩ ?_;simp only[go_sem,↓reduceIte]
 ·rw[z99,if_neg h0];rw[q2P h0]at hc ⊢;rw[Val.d_eq]at *;refine q62.call rfl ?_;simp only[go_sem,↓reduceIte,q6G,q6M];refine q0j.of hc ?_;simp only[go_sem,↓reduceIte]
def j21(v:Val):XR→Prop:=fun r=>∃X:AV,((X=.ns∧v.l=[])∨X=.d (.list (q0u v.l)))∧
 ((v.f=[]∧r=.nul [.d (.int .i64 v.kind),.d (.int .i64 v.n),.d (.str v.s),X])∨(v.f≠[]∧∃c,r=.row [.d (.int .i64 v.kind),.d (.int .i64 v.n),.d (.str v.s),X] 6 (q0k v.f) c))
theorem j21.data{v:Val}{r:XR}(h:j21 v r):r.data=v.d:=by
 obtain⟨X,hX,h⟩:=h;rw[Val.d_eq];have hx:X.den1=.list (q0u v.l):=by
  rcases hX with⟨rfl,e⟩|rfl
  ·rw[e];rfl
  ·rfl
 rcases h with⟨e,rfl⟩|⟨_,c,rfl⟩
 ·rw[e];simp[XR.data,AV.den1,←hx,q0k]
 ·simp[XR.data,AV.den1,←hx]
theorem q0q(l:List Fld):∀y∈q0k l,y.cells.length=6:=by
 intro y hy;rw[q2I]at hy;obtain⟨x,_,rfl⟩:=Zap.1 hy;rw[Fld.d_eq];rfl
theorem q6U(a b:List Fld):q0k (a++b)=q0k a++q0k b:=by simp[q2I]
theorem q5o(a b:List Val):q0u (a++b)=q0u a++q0u b:=by simp[z03]
def q6E:q0l:=
 .seq (.reg [⟨some 1,.box (.t 0),none⟩,⟨some 2,.allo [.int .i64 0,.int .i64 0,.str [],.list [],.list []],none⟩]) (.seq (.dreg [Q 9 (.fa 3 (.t 1)),Q 10 (.ld false 1 (.t 
 9)),Q 11 (.fa 4 (.t 1)),Q 12 (.ld false 1 (.t 11)),Qc 3 10,Qc 4 12]) (.seq (.reg [Q 13 (.fa 3 (.t 1)),⟨none,.st 1 (.t 13) (.k .ns),none⟩,Q 14 (.fa 4 (.t 1)),⟨none,.st 1 
 (.t 14) (.k .ns),none⟩]) (.seq (.seq (.reg [Qc 15 3,Q 16 (.len false (.t 15)),Q 17 (.cp (Ki 0))]) (.block 0 (.loop (.seq (.reg [Q 18 (.bin .lss (.t 17) (.t 16))]) (.seq (.cond 
 (.t 18) .skip (.exit 0)) (.seq (.block 1 (.seq (.reg [Q 19 (.ia 5 (.t 15) (.t 17)),Q 20 (.ld true 5 (.t 19)),⟨some 6,.allo [.int .i64 0,.int .i64 0,.str [],.list [],.list 
 []],none⟩,⟨none,.st 5 (.t 6) (.t 20),none⟩]) (.dreg [Q 21 (.fa 3 (.t 1)),Q 22 (.ld false 1 (.t 21)),Q 23 (.ld true 5 (.t 6)),⟨some 24,.call 39 [.t 23],none⟩,⟨some 25, 
 .bsl 40 5 [.t 24],none⟩,⟨some 26,.app 40 5 80 false (.t 22) (.t 25),none⟩,Q 27 (.fa 3 (.t 1)),⟨none,.st 1 (.t 27) (.t 26),none⟩]))) (.reg [Q 28 (.bin .add (.t 17) (Ki 
 1)),Qc 17 28]))))))) (.seq (.seq (.reg [Qc 29 4,Q 30 (.len false (.t 29)),Q 31 (.cp (Ki 0))]) (.block 2 (.loop (.seq (.reg [Q 32 (.bin .lss (.t 31) (.t 30))]) (.seq (.cond (.t 
 32) .skip (.exit 2)) (.seq (.block 3 (.seq (.reg [Q 33 (.ia 6 (.t 29) (.t 31)),Q 34 (.ld true 6 (.t 33)),⟨some 8,.allo [.str [],.int .i64 0,.int .i64 0,.str [],.list [], 
 .list []],none⟩,⟨none,.st 6 (.t 8) (.t 34),none⟩]) (.dreg [Q 35 (.fa 4 (.t 1)),Q 36 (.ld false 1 (.t 35)),Q 37 (.fa 0 (.t 8)),Q 38 (.ld false 1 (.t 37)),Q 39 (.fa 1 (.t 
 8)),Q 40 (.ld true 5 (.t 39)),⟨some 41,.call 39 [.t 40],none⟩,Q 42 (.bld [(0,1),(1,5)] [.str [],.int .i64 0,.int .i64 0,.str [],.list [],.list []] [] [(0,.t 38), 
 (1,.t 41)]),⟨some 43,.bsl 51 6 [.t 42],none⟩,⟨some 44,.prim (.bi .append [38,38]) [.t 36,.t 43] [],none⟩,Q 45 (.fa 4 (.t 1)),⟨none,.st 1 (.t 45) (.t 44),none⟩]))) 
 (.reg [Q 46 (.bin .add (.t 31) (Ki 1)),Qc 31 46]))))))) (.seq (.reg [Q 47 (.ld true 5 (.t 1)),⟨none,.st 5 (.t 2) (.t 47),none⟩]) .ret)))))
def z4W:List LRes:=[.cell 2 true 5]
theorem z1M:q0E Tryz.prog 39 48 q6E z4W:=⟨_,_,Tryz.func39,rfl,by kernel_rfl,by kernel_rfl,rfl⟩
def z38(v:Val):Nat→AV
 |0=>.ns
 |i+1=>.own (.c (.l 1) 3) 40 5 (q0u (v.l.take (i+1)))
def j1h(c:Nat):Nat→AV
 |0=>.ns
 |j+1=>.rs (.l 44) (j+1) c
def frow(v:Val)(c:Nat):Nat→List (Nat×AObj)
 |0=>[]
 |j+1=>[(44,.cells (rowC 6 (q0k (v.f.take (j+1))) c))]
theorem z7c(v:Val)(i:Nat):(z38 v i=.ns∧v.l.take i=[])∨z38 v i=.own (.c (.l 1) 3) 40 5 (q0u (v.l.take i)):=by
 cases i with
 |zero=>exact .inl ⟨rfl,rfl⟩
 |succ i=>exact .inr rfl
theorem q9E(v:Val)(i:Nat):z38 v (i+1)=.own (.c (.l 1) 3) 40 5 (q0u (v.l.take (i+1))):=rfl
theorem j1z(r:Ref)(v:Val)(i:Nat):AV.has r (z38 v i)=false:=by cases i<;>rfl
theorem j1y(v:Val){i:Nat}(hi:v.l.length≤i):(z38 v i=.ns∧v.l=[])∨z38 v i=.own (.c (.l 1) 3) 40 5 (q0u v.l):=by
 cases i with
 |zero=>exact .inl ⟨rfl,Zbi (by omega)⟩
 |succ i=>right;rw[q9E,Zbs hi]
theorem z8b:q4r Tryz.prog 38=some (51,6,96):=by kernel_rfl
theorem z5n:q92 Tryz.prog 51=true:=by kernel_rfl
theorem j1i:isSl Tryz.prog 38=true:=by kernel_rfl
theorem z3h(c j:Nat):j1h c (j+1)=.rs (.l 44) (j+1) c:=rfl
theorem z5s(v:Val)(c j:Nat):frow v c (j+1)=[(44,.cells (rowC 6 (q0k (v.f.take (j+1))) c))]:=rfl
theorem z1r(v:Val){c j:Nat}(hc:j=0∨j≤c∧c≤maxLen):(j1h c j=.ns∧frow v c j=[]∧j=0)∨(j1h c j=.rs (.l 44) j c∧frow v c j=[(44,.cells (rowC 6 (q0k (v.f.take j)) c))]∧j≠0∧j≤c∧c≤maxLen):=by
 cases j with
 |zero=>exact .inl ⟨rfl,rfl,rfl⟩
 |succ j=>exact .inr ⟨rfl,rfl,by omega,by omega,by omega⟩
theorem j5r:∀(m:Nat) (v:Val),SizeOf.sizeOf v≤m→v.sm 1048576=true→z4V Tryz.prog 39 [v.d] (j21 v):=by
 intro m;induction m with
 |zero=>intro v h;cases v;simp at h
 |succ m ih=>
  intro v hv hsm;obtain⟨_,hll,hfl,hsl,hsf⟩:=Val.q1Q.1 hsm;have hvl:=q0Z v.l;have hfl':=q0R v.f;have ihP:∀x:Val,SizeOf.sizeOf x≤m→x.sm 1048576=true→q0y Tryz.prog 39 [x.d] (fun r=>r=.one x.d):=fun x h1 h2=>(ih x h1 h2).j4b fun r hr=>by rw[hr.data]
  have hmain:RUN Tryz.prog q6E [] (retN 2 5 (j21 v)) ⟨q79 0 [v.d],[],[]⟩:=by
   rw[Val.d_eq];simp only[go_sem,↓reduceIte,q6E];refine q0n (fun i:Nat=>⟨[(1,.ptr (.l 1) 0),(2,.ptr (.l 2) 0),(4,.d (.list (q0k v.f))),(15,.d (.list (q0u v.l))),(16,.d (.int .i64 (q0u v.l).length)),(17,.d (.int .i64 i))],
     [(1,.cells [.d (.int .i64 v.kind),.d (.int .i64 v.n),.d (.str v.s),z38 v i,.ns]),(2,.cells [.d (.int .i64 0),.d (.int .i64 0),.d (.str []),.ns,.ns])],[]⟩)
    (fun i=>i≤v.l.length) (fun i=>v.l.length-i) 0 ?_ (by omega) ?_
   ·refine Weak.mk ?_ ?_ ?_<;>simp only[go_sem,↓reduceIte,Sub,Zab,Zac,z38]
   ·intro i hi;simp only[go_sem,↓reduceIte,hvl];refine⟨fun hlt=>?_,fun hge=>?_⟩
    ·obtain⟨x,hx⟩:=get_some (l:=v.l) (i:=i) (by omega);have hm:=Zae hx;have hc:=ihP x (by have:=z2h hm;omega) (hsl x hm);rw[Val.d_eq]at hc;rcases z7c v i with⟨hlc,ht⟩|hlc
     ·simp(disch:=omega)only[go_sem,↓reduceIte,q0g,q4g,hx,Val.d_eq,hlc];refine q1I.of hc ?_;simp(disch:=omega)only[go_sem,↓reduceIte];refine⟨i+1,?_,by omega,by omega⟩;refine Weak.mk ?_ ?_ ?_<;>simp only[go_sem,↓reduceIte,Sub,Zab,Zac,q9E,q50 hx,ht,q0u,Val.d_eq,hvl]
     ·simp(disch:=omega)only[go_sem,↓reduceIte,q0g,q4g,hx,Val.d_eq,hlc];refine q1I.of hc ?_;have htl:(q0u (v.l.take i)).length≤1048576:=by rw[q0Z,Zaq];omega
      simp(disch:=omega)only[go_sem,↓reduceIte];refine⟨⟨by omega,by omega⟩,⟨i+1,?_,by omega,by omega⟩⟩;refine Weak.mk ?_ ?_ ?_<;>simp only[go_sem,↓reduceIte,Sub,Zab,Zac,q9E,q50 hx,q5o,q0u,Val.d_eq,hvl]
    ·have hge':v.l.length≤i:=by omega
     have hLC:=j1y v hge';have hhas:=fun r=>j1z r v i
     generalize z38 v i=LC at hLC hhas;refine q0n (fun y:Nat×Nat=>⟨[(1,.ptr (.l 1) 0),(2,.ptr (.l 2) 0),(29,.d (.list (q0k v.f))),(30,.d (.int .i64 (q0k v.f).length)),(31,.d (.int .i64 y.1))],
       (1,.cells [.d (.int .i64 v.kind),.d (.int .i64 v.n),.d (.str v.s),LC,j1h y.2 y.1])::(2,.cells [.d (.int .i64 0),.d (.int .i64 0),.d (.str []),.ns,.ns])::frow v y.2 y.1,[]⟩)
      (fun y=>y.1≤v.f.length∧(y.1=0∨y.1≤y.2∧y.2≤maxLen)) (fun y=>v.f.length-y.1) (0,0) ?_ ⟨by simp,.inl rfl⟩ ?_
     ·refine Weak.mk ?_ ?_ ?_<;>simp only[go_sem,↓reduceIte,Sub,Zab,Zac,j1h,frow]
     ·rintro⟨j,c⟩ ⟨hj,hc⟩;simp only at hj hc;simp only[go_sem,↓reduceIte,hfl'];refine⟨fun hlt=>?_,fun hge=>?_⟩
      ·obtain⟨x,hx⟩:=get_some (l:=v.f) (i:=j) (by omega);have hm:=Zae hx;have hcl:=ihP x.v (by have:=z2g hm;omega) (Fld.q1Q.1 (hsf x hm)).2;rw[Val.d_eq]at hcl;rcases z1r v hc with⟨e1,e2,e3⟩|⟨e1,e2,e3,e4,e5⟩
       ·simp(disch:=omega)only[go_sem,↓reduceIte,q0g,q07,hx,Fld.d_eq,e1,e2,↓hhas,q2k];refine q1I.of hcl ?_;simp(disch:=omega)only[go_sem,↓reduceIte];refine q0b.j4Q (c:=0) (fs:=[]) z8b z5n j1i (.inl ⟨.inl rfl,rfl⟩) rfl (by simp) (by simp[D.cells]) (by simp) (by simp[maxLen]) (fun c' h1 h2=>?_);simp(disch:=omega)only[go_sem,↓reduceIte,q2k,↓hhas];refine⟨(j+1,c'),?_,⟨by simp only;omega,.inr ⟨?_,h2⟩⟩,by simp only;omega⟩
        ·subst e3;refine Weak.mk ?_ ?_ ?_<;>simp only[go_sem,↓reduceIte,Sub,Zab,Zac,z3h,z5s,q50 hx,q6U,q0k,Fld.d_eq]
        ·simp only[Zag,Zaf]at h1;simp only;omega
       ·simp(disch:=omega)only[go_sem,↓reduceIte,q0g,q07,hx,Fld.d_eq,e1,e2,↓hhas,q2k];refine q1I.of hcl ?_;simp(disch:=omega)only[go_sem,↓reduceIte];have hfl2:(q0k (v.f.take j)).length=j:=by rw[q0R,Zaq];omega
        refine q0b.j4Q (c:=c) (fs:=q0k (v.f.take j)) z8b z5n j1i (.inr ⟨by rw[hfl2];rfl,rfl,by omega,e5⟩) rfl (by simp) (by simp[D.cells]) (q0q _) (by simp[hfl2,maxLen];omega) (fun c' h1 h2=>?_);rw[hfl2]at h1 ⊢;simp(disch:=omega)only[go_sem,↓reduceIte,q2k,↓hhas];refine⟨(j+1,c'),?_,⟨by simp only;omega,.inr ⟨?_,h2⟩⟩,by simp only;omega⟩
        ·refine Weak.mk ?_ ?_ ?_<;>simp only[go_sem,↓reduceIte,Sub,Zab,Zac,z3h,z5s,q50 hx,q6U,q0k,Fld.d_eq]
        ·simp only[Zag,Zaf]at h1;simp only;omega
      ·have hj':j=v.f.length:=by omega
       have htk:v.f.take j=v.f:=Zbs (by omega);rcases z1r v hc with⟨e1,e2,e3⟩|⟨e1,e2,e3,e4,e5⟩
       ·have hf0:v.f=[]:=Zbi (by omega);rcases hLC with⟨rfl,hl0⟩|rfl
        ·simp only[go_sem,↓reduceIte,e1,e2];exact⟨.nul [.d (.int .i64 v.kind),.d (.int .i64 v.n),.d (.str v.s),.ns],0,rfl,(fun _ _ _ _ h=>by cases h),by simp[XR.ok,AV.dns],_,.inl ⟨rfl,hl0⟩,.inl ⟨hf0,rfl⟩⟩
        ·simp only[go_sem,↓reduceIte,e1,e2];exact⟨.nul [.d (.int .i64 v.kind),.d (.int .i64 v.n),.d (.str v.s),.d (.list (q0u v.l))],0,rfl,(fun _ _ _ _ h=>by cases h),by simp[XR.ok,AV.dns],_,.inr rfl,.inl ⟨hf0,rfl⟩⟩
       ·have hf0:v.f≠[]:=fun e=>e3 (by rw[hj',e];rfl)
        have hjl:j=(q0k v.f).length:=by omega
        rcases hLC with⟨rfl,hl0⟩|rfl
        ·simp only[go_sem,↓reduceIte,e1,e2,htk];exact⟨.row [.d (.int .i64 v.kind),.d (.int .i64 v.n),.d (.str v.s),.ns] 6 (q0k v.f) c,44,by rw[hjl];rfl,(fun _ _ _ _ h=>by cases h;rfl),⟨by simp[AV.dns],q0q _,by omega,e5⟩,_,.inl ⟨rfl,hl0⟩,.inr ⟨hf0,c,rfl⟩⟩
        ·simp only[go_sem,↓reduceIte,e1,e2,htk];exact⟨.row [.d (.int .i64 v.kind),.d (.int .i64 v.n),.d (.str v.s),.d (.list (q0u v.l))] 6 (q0k v.f) c,44,by rw[hjl];rfl,(fun _ _ _ _ h=>by cases h;rfl),⟨by simp[AV.dns],q0q _,by omega,e5⟩,_,.inr rfl,.inr ⟨hf0,c,rfl⟩⟩
  exact z1M.z9K rfl hmain
theorem j7k(a b:UInt8):(a<b)∨(a=b)∨(b<a):=by
 simp only[Zcl,←UInt8.toNat_inj];omega
theorem cmpB:∀(a b:List UInt8),(Lib.compareBytes a b<0↔Op.bytesLess a b=true)∧(Lib.compareBytes a b=0↔a=b)
 |[],[]=>by simp[Lib.compareBytes,Op.bytesLess]
 |[],_::_=>by simp[Lib.compareBytes,Op.bytesLess]
 |_::_,[]=>by simp[Lib.compareBytes,Op.bytesLess]
 |a::x,b::y=>by
  have ih:=cmpB x y;simp only[Lib.compareBytes,Op.bytesLess,Zcx];rcases j7k a b with h|rfl|h
  ·have h2:¬a=b:=fun e=>by subst e;simp only[Zcl]at h;omega
   simp[h,h2]
  ·have h2:¬a<a:=by simp only[Zcl];omega
   simp[h2,ih]
  ·have h2:¬a<b:=by simp only[Zcl]at h ⊢;omega
   have h3:¬a=b:=fun e=>by subst e;simp only[Zcl]at h;omega
   simp[h,h2,h3]
theorem q5L:∀{a b c:List UInt8},Op.bytesLess a b=true→Op.bytesLess b c=true→Op.bytesLess a c=true
 |[],[],_,h,_=>by simp[Op.bytesLess]at h
 |[],_::_,[],_,h=>by simp[Op.bytesLess]at h
 |[],_::_,_::_,_,_=>by simp[Op.bytesLess]
 |_::_,[],_,h,_=>by simp[Op.bytesLess]at h
 |_::_,_::_,[],_,h=>by simp[Op.bytesLess]at h
 |a::x,b::y,c::z,h,k=>by
  simp only[Op.bytesLess,Zca,Zah,decide_eq_true_eq,beq_iff_eq,Zcl]at h k ⊢;rcases h with h|⟨rfl,h⟩<;>rcases k with k|⟨rfl,k⟩
  ·left;omega
  ·exact .inl h
  ·exact .inl k
  ·exact .inr ⟨rfl,q5L h k⟩
theorem z8r:∀(a:List UInt8),Op.bytesLess a a=false
 |[]=>rfl
 |a::x=>by
  have:¬a<a:=by simp only[Zcl];omega
  simp[Op.bytesLess,z8r x,this]
def q1W:q0l:=
 .seq (.reg [Qx 4 (Ki 0)]) (.seq (.reg [Qc 5 0,Qc 6 1,⟨some 7,.prim .call [.k (.fn (.func 99) [] []),.t 5,.t 6] [],none⟩,Qa 4 7]) .ret)
def q1Z:List LRes:=[.tmp 4]
theorem q21:q0E Tryz.prog 70 8 q1W q1Z:=⟨_,_,Tryz.func70,rfl,by kernel_rfl,by kernel_rfl,rfl⟩
def q5D:q0l:=
 .seq (.reg [Qx 4 (Ki 0)]) (.seq (.reg [Qc 5 0,Qc 6 1,⟨some 7,.call 70 [.t 5,.t 6],none⟩,Qa 4 7]) .ret)
def q5F:List LRes:=[.tmp 4]
theorem q7v:q0E Tryz.prog 42 8 q5D q5F:=⟨_,_,Tryz.func42,rfl,by kernel_rfl,by kernel_rfl,rfl⟩
def q8x:q0l:=
 .seq (.reg [⟨some 2,.box (.t 0),none⟩,Qx 4 (Ki 0)]) (.seq (.reg [Q 5 (.fa 0 (.t 2)),Q 6 (.ld false 1 (.t 5)),Qc 7 1,⟨some 8,.call 42 [.t 6,.t 7],none⟩,Qa 4 8]) .ret)
def q8F:List LRes:=[.tmp 4]
theorem z0H:q0E Tryz.prog 41 9 q8x q8F:=⟨_,_,Tryz.func41,rfl,by kernel_rfl,by kernel_rfl,rfl⟩
theorem q8M(a b:List UInt8):q0y Tryz.prog 70 [.str a,.str b] (fun r=>r=.one (.int .i64 (Lib.compareBytes a b))):=by
 refine q21.call rfl ?_;simp only[go_sem,↓reduceIte,q1W,q1Z];refine q0b.entry Tryz.func99 (by kernel_rfl) (by kernel_rfl) (by kernel_rfl) (e:=Extern.BytealgCompare.compare) (by kernel_rfl) (.d (.int .i64 (Lib.compareBytes a b))) (fun G w vs hl hv=>?_) ?_
 ·match vs,hl with
  |[v,u],_=>
   have h0:AVR G w (.d (.str a)) v:=hv 0 _ rfl;have h1:AVR G w (.d (.str b)) u:=hv 1 _ rfl;have h0:=h0.dinv;have h1:=h1.dinv;cases h0;cases h1;exact⟨_,Lib.run_compareString _ _ w,.d _ _ (.int _ _)⟩
 simp only[go_sem,↓reduceIte]
theorem z5e(a b:List UInt8):q0y Tryz.prog 42 [.str a,.str b] (fun r=>r=.one (.int .i64 (Lib.compareBytes a b))):=by
 refine q7v.call rfl ?_;simp only[go_sem,↓reduceIte,q5D,q5F];refine q0j.of (q8M a b) ?_;simp only[go_sem,↓reduceIte]
theorem q9f(x:Fld)(nm:List UInt8):q0y Tryz.prog 41 [x.d,.str nm] (fun r=>r=.one (.int .i64 (Lib.compareBytes x.name nm))):=by
 rw[Fld.d_eq];refine z0H.call rfl ?_;simp only[go_sem,↓reduceIte,q8x,q8F];refine q0j.of (z5e _ _) ?_;simp only[go_sem,↓reduceIte]
def srt(l:List Fld):Prop:=∀(i j:Nat) (x y:Fld),i<j→l[i]?=some x→l[j]?=some y→Op.bytesLess x.name y.name=true
def posV(nm:List UInt8):List Fld→Nat
 |[]=>0
 |x::r=>if Op.bytesLess x.name nm then posV nm r+1 else 0
def hasV(nm:List UInt8)(l:List Fld):Bool:=
 match l[posV nm l]? with
 |some x=>decide (x.name=nm)
 |none=>false
theorem q8h(nm:List UInt8):∀l:List Fld,posV nm l≤l.length
 |[]=>by simp[posV]
 |x::r=>by simp only[posV,Zaf];split<;>have:=q8h nm r<;>omega
theorem j2b(nm:List UInt8):∀(l:List Fld) (k:Nat),k≤l.length→(∀i x,i<k→l[i]?=some x→Op.bytesLess x.name nm=true)→(∀i x,k≤i→l[i]?=some x→Op.bytesLess x.name nm=false)→posV nm l=k
 |[],k,h,_,_=>by simp at h;simp[posV,h]
 |x::r,0,_,_,h=>by have:=h 0 x (by omega) rfl;simp[posV,this]
 |x::r,k+1,hk,h1,h2=>by
  have:=h1 0 x (by omega) rfl;have ih:=j2b nm r k (by simp at hk;omega) (fun i y hi hy=>h1 (i+1) y (by omega) (by simpa using hy)) (fun i y hi hy=>h2 (i+1) y (by omega) (by simpa using hy));simp[posV,this,ih]
def q0h:q0l:=
 .seq (.reg [Qx 6 (Ki 0),Qx 7 KF]) (.seq (.reg [Qc 12 0,Q 13 (.len false (.t 12)),Qa 8 13]) (.seq (.reg [Qc 14 8,Qx 9 (Ki 0),Qa 10 14]) (.seq (.block 0 (.loop (.seq (.seq (.reg 
 [Qc 15 9,Qc 16 10,Q 17 (.bin .lss (.t 15) (.t 16))]) (.cond (.t 17) .skip (.exit 0))) (.block 1 (.seq (.reg [Qc 18 9,Qc 19 10,Q 20 (.bin .add (.t 18) (.t 19)),Q 21 (.cvI 
 .u64 (.t 20)),Q 22 (.bin .shr (.t 21) (.k (.d (.int .u64 1)))),Q 23 (.cvI .i64 (.t 22)),Qa 11 23]) (.seq (.reg [Qc 24 2,Qc 25 0,Qc 26 11,Q 27 (.ia 6 (.t 25) (.t 26)),Q 28 
 (.ld true 6 (.t 27)),Qc 29 1,⟨some 30,.prim .call [.t 24,.t 28,.t 29] [],none⟩,Q 31 (.bin .lss (.t 30) (Ki 0))]) (.cond (.t 31) (.reg [Qc 32 11,Q 33 (.bin .add (.t 32) 
 (Ki 1)),Qa 9 33]) (.reg [Qc 34 11,Qa 10 34])))))))) (.seq (.reg [Qc 35 9,Qc 36 9,Qc 37 8,Q 38 (.bin .lss (.t 36) (.t 37)),Qc 39 38,Qd 40 2 39 true,Qd 41 0 39 true,Qd 42 
 9 39 true,Qg 43 (.ia 6 (.t 41) (.t 42)) 39 true,Qg 44 (.ld true 6 (.t 43)) 39 true,Qd 45 1 39 true,⟨some 46,.prim .call [.t 40,.t 44,.t 45] [],some (39,true)⟩,Qg 47 
 (.bin .eql (.t 46) (Ki 0)) 39 true,Q 48 (.pick (.t 39) (.t 47) KF),Qa 6 35,Qa 7 48]) .ret))))
def q0i:List LRes:=[.tmp 6,.tmp 7]
theorem q0m:q0E Tryz.prog 40 49 q0h q0i:=⟨_,_,Tryz.func40,rfl,by kernel_rfl,by kernel_rfl,rfl⟩
theorem q6j(l:List Fld)(nm:List UInt8)(hs:srt l)(hl:l.length≤1048576):
  q1c Tryz.prog 40 [.d (.list (q0k l)),.d (.str nm),.fn (.func 41) [] []] [] (.tuple [.d (.int .i64 (posV nm l)),.d (.bool (hasV nm l))]) []:=by
 have hfl:=q0R l;refine q0m.q0G (by kernel_rfl) rfl ?_;simp only[go_sem,↓reduceIte,q0h,q0i,hfl];refine q0n (fun y:Nat×Nat=>⟨[(0,.d (.list (q0k l))),(1,.d (.str nm)),(2,.fn (.func 41) [] []),(8,.d (.int .i64 l.length)),(9,.d (.int .i64 y.1)),(10,.d (.int .i64 y.2))],[],[]⟩)
  (fun y=>y.1≤y.2∧y.2≤l.length∧(∀i x,i<y.1→l[i]?=some x→Op.bytesLess x.name nm=true)∧(∀i x,y.2≤i→l[i]?=some x→Op.bytesLess x.name nm=false)) (fun y=>y.2-y.1) (0,l.length) ?_ ?_ ?_
 ·refine Weak.mk ?_ ?_ ?_<;>simp only[go_sem,↓reduceIte,Sub,Zab,Zac]
 ·exact⟨by simp,by simp,fun i x hi=>by simp at hi,fun i x hi hx=>by simp only at hi;rw[List.getElem?_eq_none hi]at hx;cases hx⟩
 ·rintro⟨i,j⟩ ⟨hij,hj,h1,h2⟩;simp only at hij hj h1 h2;have hmid:IntKind.i64.wrap ((IntKind.u64.wrap ((i:Int)+j)).fdiv (2 ^ min 1 IntKind.u64.bits))=(((i+j) / 2:Nat):Int):=by
   have e1:IntKind.u64.wrap ((i:Int)+j)=((i+j:Nat):Int):=by
    rw[IntWalk.u64_in]<;>omega
   have e2:(2:Int) ^ min 1 IntKind.u64.bits=2:=rfl;rw[e1,e2];have e3:((i+j:Nat):Int).fdiv 2=(((i+j) / 2:Nat):Int):=by
    rw[Int.fdiv_eq_ediv_of_nonneg _ (by omega)];omega
   rw[e3,IntWalk.i64_in]<;>omega
  simp only[run_seq,q8l,q4V,pev,St.ev,St.get,aget,reduceCtorEq,↓reduceIte,Nat.reduceEqDiff,Zbp,q16,St.put,q6N,fB,binD,binI,Zat,q8g,q6f,q6h,q7R,decide_eq_true_eq,z0X,q5W,fCvI,Int.reduceLT,Int.toNat_one,q9N,asgS,fIa,fIaD,AV.rd,D.cells,z0W,q4x,q4y,q5j,q4U,St.mark,aset,putO,Zdf,q53,Zbc,z1p,z7B,z4r,z4y,resR,z0J,resA,j15,AV.simple,z9T,AV.wf,Bool.and_self,mkA,q5T,q8H,and_true,IteG]
  refine⟨fun hlt=>?_,fun hge=>?_⟩
  ·simp(disch:=omega)only[IntWalk.i64_in,hmid];obtain⟨x,hx⟩:=get_some (l:=l) (i:=(i+j) / 2) (by omega);have hc:=(q9f x nm).q4s (by kernel_rfl);simp only[Zbf,Zce,Res.av]at hc;rw[Fld.d_eq x]at hc;simp(disch:=omega)only[q0g,q07,hx,Zat,Fld.d_eq,Zaf,Zag,Zbh,Nat.reduceAdd,↓reduceIte,q16,St.put,q6N,q4V,pev,fLd,St.ev,St.get,aget,Zbp,Zai,Zch,List.take_nil,Nat.reduceEqDiff,reduceCtorEq,q5h]
   refine q0b.q0G ([]) ([]) rfl (hc) rfl rfl (by simp only[q1b,St.obj,aget,AObj.ren,AV.ren,AV.ren1,renL,q2u,renR,renQ,Zaw,Zax,and_true,and_self,Nat.reduceEqDiff,↓reduceIte,reduceCtorEq]) rfl rfl rfl ⟨rfl,rfl⟩ ?_;simp(disch:=omega)only[go_sem,↓reduceIte];obtain⟨c1,c2⟩:=cmpB x.name nm;refine⟨fun hl1=>⟨((i+j) / 2+1,j),?_,⟨by simp only;omega,hj,fun k y hk hy=>?_,h2⟩,by simp only;omega⟩,fun hl1=>⟨(i,(i+j) / 2),?_,⟨by simp only;omega,by simp only;omega,h1,fun k y hk hy=>?_⟩,by simp only;omega⟩⟩
   ·refine Weak.mk ?_ ?_ ?_<;>simp only[go_sem,↓reduceIte,Sub,Zab,Zac]
   ·simp only at hk;rcases Zbq k ((i+j) / 2)with h3|h3
    ·exact q5L (hs k _ y x h3 hy hx) (c1.1 hl1)
    ·have:k=(i+j) / 2:=by omega
     subst this;rw[hx]at hy;cases hy;exact c1.1 hl1
   ·refine Weak.mk ?_ ?_ ?_<;>simp only[go_sem,↓reduceIte,Sub,Zab,Zac]
   ·simp only at hk;have h4:Op.bytesLess x.name nm=false:=by
     cases h5:Op.bytesLess x.name nm with
     |false=>rfl
     |true=>exact absurd (c1.2 h5) hl1
    rcases Zbq ((i+j) / 2) k with h3|h3
    ·cases h5:Op.bytesLess y.name nm with
     |false=>rfl
     |true=>rw[q5L (hs _ k x y h3 hx hy) h5]at h4;cases h4
    ·have:k=(i+j) / 2:=by omega
     subst this;rw[hx]at hy;cases hy;exact h4
  ·have hij':i=j:=by omega
   subst hij';have hpos:=j2b nm l i hj h1 h2;rw[hpos];have hhas:hasV nm l=(match l[i]? with|some x=>decide (x.name=nm)|none=>false):=by unfold hasV;rw[hpos]
   refine⟨fun hlt=>?_,fun hge=>?_⟩
   ·obtain⟨x,hx⟩:=get_some (l:=l) (i:=i) (by omega);have hc:=(q9f x nm).q4s (by kernel_rfl);simp only[Zbf,Zce,Res.av]at hc;rw[Fld.d_eq x]at hc;simp(disch:=omega)only[q0g,q07,hx,Zat,Fld.d_eq,Zaf,Zag,Zbh,Nat.reduceAdd,↓reduceIte,q16,St.put,q6N,q4U,St.get,aget,Nat.reduceEqDiff,Zbp,St.mark,aset,putO,Zdf,q53,q4V,pev,fLd,St.ev,Zai,Zch,List.take_nil,reduceCtorEq,q5h]
    refine q0b.q0G ([]) ([]) rfl (hc) rfl rfl (by simp only[q1b,St.obj,aget,AObj.ren,AV.ren,AV.ren1,renL,q2u,renR,renQ,Zaw,Zax,and_true,and_self,Nat.reduceEqDiff,↓reduceIte,reduceCtorEq]) rfl rfl rfl ⟨rfl,rfl⟩ ?_;simp(disch:=omega)only[go_sem,↓reduceIte];rw[hhas,hx];have c2:=(cmpB x.name nm).2
    by_cases he:x.name=nm
    ·have h0:=c2.2 he;rw[he]at h0;simp[he,h0]
    ·have:¬Lib.compareBytes x.name nm=0:=fun e=>he (c2.1 e)
     simp[he,this]
   ·have:l[i]?=none:=List.getElem?_eq_none (by omega);rw[hhas,this]
end Go.Av.Tryz
