import Derived.Test.YtednmnmaoihpiaaGreatDoorWc
import Derived.Test.YtednmnmaoihpiaaGreatDoorWb
import Derived.Test.YtednmnmaoihpiaaGreatDoorWa
import Derived.Test.YtednmnmaoihpiaaGreatDoorAvE
set_option linter.unusedSimpArgs false
namespace Go.Av.Tryz
open Go.Proofs
def lrow(r:Ref)(off:Nat):List Val→AV
 |[]=>.ns
 |x::l=>.own (.c r off) 40 5 (q0u (x::l))
theorem z9J(r:Ref)(off:Nat)(l:List Val):(lrow r off l=.ns∧l=[])∨lrow r off l=.own (.c r off) 40 5 (q0u l):=by
 cases l with
 |nil=>exact .inl ⟨rfl,rfl⟩
 |cons x l=>exact .inr rfl
theorem z5S(r:Ref)(off:Nat)(l:List Val)(x:Val):lrow r off (l++[x])=.own (.c r off) 40 5 (q0u l++[x.d]):=by
 cases l with
 |nil=>rfl
 |cons y l=>simp[lrow,q0u,q5o]
def dobj:List Fld→AObj
 |[]=>.cells [.d (.int .i64 6),.d (.int .i64 0),.d (.str []),.ns,.ns]
 |x::l=>.cells [.d (.int .i64 6),.d (.int .i64 0),.d (.str []),.d (.list []),.d (.list (q0k (x::l)))]
theorem z9k(l:List Fld):(dobj l=.cells [.d (.int .i64 6),.d (.int .i64 0),.d (.str []),.ns,.ns]∧l=[])∨dobj l=.cells [.d (.int .i64 6),.d (.int .i64 0),.d (.str []),.d (.list []),.d (.list (q0k l))]:=by
 cases l with
 |nil=>exact .inl ⟨rfl,rfl⟩
 |cons x l=>exact .inr rfl
theorem j5y{l:List Fld}(h:l≠[]):dobj l=.cells [.d (.int .i64 6),.d (.int .i64 0),.d (.str []),.d (.list []),.d (.list (q0k l))]:=by
 cases l with
 |nil=>exact absurd rfl h
 |cons x l=>rfl
theorem j58(nm:List UInt8)(x:Val)(l:List Fld)(h:∀z∈l,z.name≠nm):setF nm x l≠[]:=fun e=>by
 have:=(z4E (nm:=nm) (x:=x) h).2;rw[e]at this;simp at this
theorem kmk(k n:Int)(s:List UInt8):(Val.mk k n s [] []).d=.agg [.int .i64 k,.int .i64 n,.str s,.list [],.list []]:=by rw[mk_d];rfl
def robj(s:List UInt8)(k:Int)(n:Nat):AObj:=.cells [.d (.str s),.d (.int .i64 k),.d (errD n)]
theorem q0v(s:List UInt8)(k:Int):robj s k 0=.cells [.d (.str s),.d (.int .i64 k),.d .nil]:=rfl
theorem q1k(s:List UInt8)(k:Int){n:Nat}(h:n≠0):robj s k n=.cells [.d (.str s),.d (.int .i64 k),.d (.iface 49 (.int .i64 n))]:=by rw[robj,q2P h]
theorem q7L(s:List UInt8)(k:Int):robj s k 2=.cells [.d (.str s),.d (.int .i64 k),.d (.iface 49 (.int .i64 2))]:=rfl
theorem j46(s:List UInt8)(k:Int):robj s k 3=.cells [.d (.str s),.d (.int .i64 k),.d (.iface 49 (.int .i64 3))]:=rfl
theorem q7M(s:List UInt8)(k:Int):robj s k 4=.cells [.d (.str s),.d (.int .i64 k),.d (.iface 49 (.int .i64 4))]:=rfl
theorem q5V(s:List UInt8)(k:Int):robj s k 5=.cells [.d (.str s),.d (.int .i64 k),.d (.iface 49 (.int .i64 5))]:=rfl
theorem q7m:errD 2=.iface 49 (.int .i64 2)∧errD 3=.iface 49 (.int .i64 3)∧errD 4=.iface 49 (.int .i64 4)∧errD 5=.iface 49 (.int .i64 5):=⟨rfl,rfl,rfl,rfl⟩
def q1C:q0l:=
 .seq (.reg [Qc 4 0,Q 5 (.nck (.t 4)),Q 6 (.fa 2 (.t 5)),Q 7 (.ld false 1 (.t 6)),Q 8 (.eqN 0 false (.t 7))]) (.cond (.t 8) (.reg [Qc 9 0,Qc 10 1,Q 11 (.nck (.t 9)),Q 12 (.fa 
 2 (.t 11)),⟨none,.st 1 (.t 12) (.t 10),none⟩]) .skip)
def q1E:List LRes:=[]
theorem q1U:q0E Tryz.prog 51 13 q1C q1E:=⟨_,_,Tryz.func51,rfl,by kernel_rfl,by kernel_rfl,rfl⟩
theorem q5f(s:List UInt8)(k:Int)(e:Nat):q1c Tryz.prog 51 [.ptr (.x 0) 0,.d (errD e)] [robj s k 0] (.tuple []) [robj s k e]:=by
 rw[q0v]
 by_cases h:e=0
 ·subst h;rw[q0v,show errD 0=.nil from rfl];refine q1U.q0G (by kernel_rfl) rfl ?_;simp only[go_sem,↓reduceIte,q1C,q1E]
 ·rw[q1k s k h,q2P h];refine q1U.q0G (by kernel_rfl) rfl ?_;simp only[go_sem,↓reduceIte,q1C,q1E]
theorem q74(s:List UInt8)(k:Int){n:Nat}(h:n≠0)(E:D):q1c Tryz.prog 51 [.ptr (.x 0) 0,.d E] [robj s k n] (.tuple []) [robj s k n]:=by
 rw[q1k s k h];refine q1U.q0G (by kernel_rfl) rfl ?_;simp only[go_sem,↓reduceIte,q1C,q1E]
def q1X:q0l:=
 .seq (.reg [Qx 4 KF]) (.seq (.reg [Qc 5 0,Q 6 (.len true (.t 5)),Qc 7 1,Q 8 (.len true (.t 7)),Q 9 (.bin .geq (.t 6) (.t 8)),Qc 10 9,Qd 11 0 10 true,Qd 12 1 10 true,Qg 13 
 (.len true (.t 12)) 10 true,Qg 14 (.subS (.t 11) none (some (.t 13))) 10 true,Qd 15 1 10 true,Qg 16 (.bin .eql (.t 14) (.t 15)) 10 true,Q 17 (.pick (.t 10) (.t 16) KF),Qa 4 
 17]) .ret)
def q10:List LRes:=[.tmp 4]
theorem q22:q0E Tryz.prog 32 18 q1X q10:=⟨_,_,Tryz.func32,rfl,by kernel_rfl,by kernel_rfl,rfl⟩
def q4B:q0l:=
 .seq (.reg [Qx 4 KF]) (.seq (.reg [Qc 5 0,Qc 6 1,⟨some 7,.call 32 [.t 5,.t 6],none⟩,Qa 4 7]) .ret)
def q4F:List LRes:=[.tmp 4]
theorem q6u:q0E Tryz.prog 16 8 q4B q4F:=⟨_,_,Tryz.func16,rfl,by kernel_rfl,by kernel_rfl,rfl⟩
def q4q(s t:List UInt8):Bool:=decide (s.take t.length=t)
theorem q5r(s t:List UInt8):q0y Tryz.prog 16 [.str s,.str t] (fun r=>r=.one (.bool (q4q s t))):=by
 have h:q0y Tryz.prog 32 [.str s,.str t] (fun r=>r=.one (.bool (q4q s t))):=by
  refine q22.call rfl ?_;simp only[go_sem,↓reduceIte,q1X,q10];refine⟨fun h=>⟨by omega,?_⟩,fun h=>?_⟩
  ·rw[show(0:Int)=((0:Nat):Int)from rfl,q56,Zcm];rfl
  ·have:q4q s t=false:=by
    simp only[q4q,decide_eq_false_iff_not];intro e;have:=congrArg List.length e;simp at this;omega
   rw[this]
 refine q6u.call rfl ?_;simp only[go_sem,↓reduceIte,q4B,q4F];refine q0j.of h ?_;simp only[go_sem,↓reduceIte]
def q1D:q0l:=
 .seq (.reg [Qx 2 (Kb 0)]) (.seq (.dreg [Qc 3 0,Qc 4 0,Q 5 (.nck (.t 4)),Q 6 (.fa 0 (.t 5)),Q 7 (.ld false 1 (.t 6)),Qc 8 0,Q 9 (.nck (.t 8)),Q 10 (.fa 1 (.t 9)),Q 11 (.ld 
 false 1 (.t 10)),⟨some 12,.call 25 [.t 7,.t 11],none⟩,Q 13 (.nck (.t 3)),Q 14 (.fa 1 (.t 13)),⟨none,.st 1 (.t 14) (.t 12),none⟩]) (.seq (.seq (.dreg [Qc 15 0,Q 16 (.nck 
 (.t 15)),Q 17 (.fa 1 (.t 16)),Q 18 (.ld false 1 (.t 17)),Qc 19 0,Q 20 (.nck (.t 19)),Q 21 (.fa 0 (.t 20)),Q 22 (.ld false 1 (.t 21)),Q 23 (.len true (.t 22)),Q 24 (.bin 
 .lss (.t 18) (.t 23))]) (.cond (.t 24) (.seq (.dreg [Qc 25 0,Q 26 (.nck (.t 25)),Q 27 (.fa 0 (.t 26)),Q 28 (.ld false 1 (.t 27)),Qc 29 0,Q 30 (.nck (.t 29)),Q 31 (.fa 1 (.t 
 30)),Q 32 (.ld false 1 (.t 31)),Q 33 (.idxS (.t 28) (.t 32)),Qa 2 33]) .ret) .skip)) (.seq (.reg [Qc 34 0,Q 35 (.mkI 49 (Ki 5)),⟨some 36,.prim .call [.k (.fn (.func 51) [] 
 []),.t 34,.t 35] [],none⟩]) (.seq (.reg [Qx 2 (Kb 0)]) .ret))))
def q1F:List LRes:=[.tmp 2]
theorem q1V:q0E Tryz.prog 75 37 q1D q1F:=⟨_,_,Tryz.func75,rfl,by kernel_rfl,by kernel_rfl,rfl⟩
theorem z8A(s:List UInt8)(k:Nat)(hs:s.length≤60000)(hk:k≤s.length):q1c Tryz.prog 75 [.ptr (.x 0) 0] [robj s k 0]
  (.d (.int .u8 (match s[q0o s k]? with|none=>0|some c=>c.toNat))) [robj s (q0o s k) (match s[q0o s k]? with|none=>5|some _=>0)]:=by
 have hw:=q1f s ((k:Nat):Int) (by omega);rw[q3X hk]at hw;have hsk:=q2X hk;generalize q0o s k=q at *;rw[q0v];refine q1V.q0G (by kernel_rfl) rfl ?_;simp only[go_sem,↓reduceIte,q1D,q1F];refine q1I.of hw ?_;simp only[go_sem,↓reduceIte];refine⟨fun h1=>?_,fun h1=>?_⟩
 ·obtain⟨c,hc⟩:=get_some (l:=s) (i:=q) (by omega);simp only[go_sem,↓reduceIte,q0g,hc];rfl
 ·rw[List.getElem?_eq_none (by omega)];have hf:=q5f s (q:Int) 5;rw[q0v,show errD 5=.iface 49 (.int .i64 5)from rfl]at hf;refine q0b.mc1 (.x 0) rfl (hf) rfl rfl rfl rfl ⟨rfl,rfl⟩ ?_;simp only[go_sem,↓reduceIte,robj]
theorem next_ne(s:List UInt8)(k:Int){n:Nat}(hn:n≠0)(hs:s.length≤60000):∃c:Int,q1c Tryz.prog 75 [.ptr (.x 0) 0] [robj s k n] (.d (.int .u8 c)) [robj s (q0o s (q3M s k)) n]:=by
 have hw:=q1f s k (by omega);have hsk:=q2X (z3L s k);generalize q0o s (q3M s k)=q at *;rcases Zbq q s.length with h|h
 ·obtain⟨c,hc⟩:=get_some (l:=s) (i:=q) h;refine⟨c.toNat,?_⟩;rw[q1k s k hn,q1k s q hn];refine q1V.q0G (by kernel_rfl) rfl ?_;simp only[go_sem,↓reduceIte,q1D,q1F];refine q1I.of hw ?_;have e1:((q:Int)<s.length)=True:=eq_true (by omega);simp only[go_sem,↓reduceIte,q0g,hc,e1]
 ·refine⟨0,?_⟩;have hf:=q74 s (q:Int) hn (errD 5);rw[q1k s q hn,show errD 5=.iface 49 (.int .i64 5)from rfl]at hf;rw[q1k s k hn,q1k s q hn];refine q1V.q0G (by kernel_rfl) rfl ?_;simp only[go_sem,↓reduceIte,q1D,q1F];refine q1I.of hw ?_;have e1:((q:Int)<s.length)=False:=eq_false (by omega);simp only[go_sem,↓reduceIte,e1];refine q0b.mc1 (.x 0) rfl (hf) rfl rfl rfl rfl ⟨rfl,rfl⟩ ?_;simp only[go_sem,↓reduceIte]
def q2v:q0l:=
 .seq (.reg [Qx 4 KF]) (.seq (.dreg [Qc 6 0,Q 7 (.nck (.t 6)),Q 8 (.fa 2 (.t 7)),Q 9 (.ld false 1 (.t 8)),Q 10 (.eqN 0 false (.t 9)),Qc 11 10,Qd 12 0 11 true,Qg 13 (.nck (.t 
 12)) 11 true,Qg 14 (.fa 0 (.t 13)) 11 true,Qg 15 (.ld false 1 (.t 14)) 11 true,Qd 16 0 11 true,Qg 17 (.nck (.t 16)) 11 true,Qg 18 (.fa 1 (.t 17)) 11 true,Qg 19 (.ld false 1 
 (.t 18)) 11 true,Qg 20 (.subS (.t 15) (some (.t 19)) none) 11 true,Qd 21 1 11 true,⟨some 22,.call 16 [.t 20,.t 21],some (11,true)⟩,Q 23 (.pick (.t 11) (.t 22) KF),Qa 5 
 23]) (.seq (.seq (.reg [Qc 24 5]) (.cond (.t 24) (.reg [Qc 25 0,Q 26 (.nck (.t 25)),Q 27 (.fa 1 (.t 26)),Q 28 (.ld false 1 (.t 27)),Qc 29 1,Q 30 (.len true (.t 29)),Q 31 
 (.bin .add (.t 28) (.t 30)),Q 32 (.nck (.t 25)),Q 33 (.fa 1 (.t 32)),⟨none,.st 1 (.t 33) (.t 31),none⟩]) .skip)) (.seq (.reg [Qc 34 5,Qa 4 34]) .ret)))
def q2x:List LRes:=[.tmp 4]
theorem q3a:q0E Tryz.prog 79 35 q2v q2x:=⟨_,_,Tryz.func79,rfl,by kernel_rfl,by kernel_rfl,rfl⟩
theorem j3k(s:List UInt8)(k:Nat)(t:List UInt8)(hs:s.length≤60000)(hk:k≤s.length)(ht:t.length≤10):q1c Tryz.prog 79 [.ptr (.x 0) 0,.d (.str t)] [robj s k 0]
  (.d (.bool (q4q (s.drop k) t))) [robj s (if q4q (s.drop k) t=true then(k:Int)+t.length else k) 0]:=by
 have hp:=q5r (s.drop k) t;generalize q4q (s.drop k) t=b at *;rw[q0v];refine q3a.q0G (by kernel_rfl) rfl ?_;simp only[go_sem,↓reduceIte,q2v,q2x];rw[show(s.length:Int)=((s.length:Nat):Int)from rfl,q56,Zcq];refine⟨by omega,?_⟩;refine q1I.of hp ?_;simp only[go_sem,↓reduceIte];refine⟨fun h=>?_,fun h=>?_⟩
 ·simp(disch:=omega)only[IntWalk.i64_in,IntWalk.u8_in];rw[if_pos h];rfl
 ·rw[if_neg (by simp[h])];rfl
theorem j05(s:List UInt8)(k:Int)(t:List UInt8){n:Nat}(hn:n≠0):q1c Tryz.prog 79 [.ptr (.x 0) 0,.d (.str t)] [robj s k n] (.d (.bool false)) [robj s k n]:=by
 rw[q1k s k hn];refine q3a.q0G (by kernel_rfl) rfl ?_;simp only[go_sem,↓reduceIte,q2v,q2x]
def q2w:q0l:=
 .seq (.reg [⟨some 4,.allo [.int .i64 0,.int .i64 0,.str [],.list [],.list []],none⟩]) (.seq (.seq (.reg [Qc 5 1,Q 6 (.len true (.t 5)),Q 7 (.bin .gtr (.t 6) (Ki 200))]) 
 (.cond (.t 7) (.reg [Qc 8 0,Q 9 (.mkI 49 (Ki 2)),⟨some 10,.prim .call [.k (.fn (.func 51) [] []),.t 8,.t 9] [],none⟩]) .skip)) (.seq (.reg [Qc 11 1,Q 12 (.bld [(0,1),(1, 
 1),(2,1),(3,1),(4,1)] [.int .i64 0,.int .i64 0,.str [],.list [],.list []] [false,false,false,true,true] [(0,.k (.d (.int .i64 3))),(2,.t 11)]),⟨none,.st 5 (.t 
 4) (.t 12),none⟩]) .ret))
def q2y:List LRes:=[.cell 4 true 5]
theorem q3b:q0E Tryz.prog 77 13 q2w q2y:=⟨_,_,Tryz.func77,rfl,by kernel_rfl,by kernel_rfl,rfl⟩
theorem j69(s:List UInt8)(k:Int)(t:List UInt8):q1c Tryz.prog 77 [.ptr (.x 0) 0,.d (.str t)] [robj s k 0] (.d (strV t).d) [robj s k (if t.length≤200 then 0 else 2)]:=by
 have hf:=q5f s k 2;rw[show errD 2=.iface 49 (.int .i64 2)from rfl]at hf;rw[q0v]at hf ⊢;refine q3b.q0G (by kernel_rfl) rfl ?_;simp only[go_sem,↓reduceIte,q2w,q2y];refine⟨fun h=>?_,fun h=>?_⟩
 ·refine q0b.mc1 (.x 0) rfl (hf) rfl rfl rfl rfl ⟨rfl,rfl⟩ ?_;simp only[go_sem,↓reduceIte,robj];rw[if_neg (by omega),Val.d_eq];exact⟨rfl,rfl⟩
 ·rw[if_pos (by omega),Val.d_eq];exact⟨rfl,rfl⟩
theorem j48(s:List UInt8)(k:Int)(t:List UInt8){n:Nat}(hn:n≠0):q1c Tryz.prog 77 [.ptr (.x 0) 0,.d (.str t)] [robj s k n] (.d (strV t).d) [robj s k n]:=by
 have hf:=q74 s k hn (errD 2);rw[show errD 2=.iface 49 (.int .i64 2)from rfl]at hf;rw[q1k s k hn]at hf ⊢;refine q3b.q0G (by kernel_rfl) rfl ?_;simp only[go_sem,↓reduceIte,q2w,q2y];refine⟨fun h=>?_,fun h=>?_⟩
 ·refine q0b.mc1 (.x 0) rfl (hf) rfl rfl rfl rfl ⟨rfl,rfl⟩ ?_;simp only[go_sem,↓reduceIte];rw[Val.d_eq];rfl
 ·rw[Val.d_eq];rfl
def z8z(s:List UInt8):Option (List UInt8×Nat)→AV→List AObj→Prop
 |some (b,k),r,hs=>r=.d (.str b)∧hs=[robj s k 0]
 |none,r,hs=>∃(b:List UInt8) (k:Int),r=.d (.str b)∧hs=[robj s k 4]
def q3B:q0l:=
 .seq (.reg [Qx 2 (.k (.d (.str [])))]) (.seq (.reg [Qc 6 0,Q 7 (.nck (.t 6)),Q 8 (.fa 1 (.t 7)),Q 9 (.ld false 1 (.t 8)),Q 10 (.bin .add (.t 9) (Ki 1)),Q 11 (.nck (.t 6)),Q 
 12 (.fa 1 (.t 11)),⟨none,.st 1 (.t 12) (.t 10),none⟩]) (.seq (.dreg [Qc 13 0,Q 14 (.nck (.t 13)),Q 15 (.fa 0 (.t 14)),Q 16 (.ld false 1 (.t 15)),Qc 17 0,Q 18 (.nck (.t 
 17)),Q 19 (.fa 1 (.t 18)),Q 20 (.ld false 1 (.t 19)),⟨some 21,.call 26 [.t 16,.t 20],none⟩,Qa 3 21]) (.seq (.reg [Qc 22 0,Q 23 (.nck (.t 22)),Q 24 (.fa 1 (.t 23)),Q 25 
 (.ld false 1 (.t 24)),Qc 26 3,Q 27 (.len true (.t 26)),Q 28 (.bin .add (.t 25) (.t 27)),Q 29 (.nck (.t 22)),Q 30 (.fa 1 (.t 29)),⟨none,.st 1 (.t 30) (.t 28),none⟩]) (.seq 
 (.reg [⟨some 4,.nils 5 1,none⟩]) (.seq (.seq (.reg [Qx 5 (Ki 0)]) (.block 0 (.loop (.seq (.seq (.reg [Qc 31 5,Qc 32 3,Q 33 (.len true (.t 32)),Q 34 (.bin .lss (.t 31) (.t 
 33))]) (.cond (.t 34) .skip (.exit 0))) (.seq (.block 1 (.seq (.seq (.reg [Qc 37 3,Qc 38 5,Q 39 (.idxS (.t 37) (.t 38)),Q 40 (.bin .neq (.t 39) (Kb 35))]) (.cond (.t 40) (.seq 
 (.reg [Qc 41 4,Qc 42 3,Qc 43 5,Q 44 (.idxS (.t 42) (.t 43)),⟨some 45,.bsl 5 1 [.t 44],none⟩,⟨some 46,.app 5 1 1 false (.t 41) (.t 45),none⟩,Qa 4 46]) (.exit 1)) .skip)) 
 (.seq (.seq (.reg [Qc 47 5,Q 48 (.bin .add (.t 47) (Ki 2)),Qc 49 3,Q 50 (.len true (.t 49)),Q 51 (.bin .geq (.t 48) (.t 50)),Qc 52 51,Qd 53 3 52 false,Qd 54 5 52 false,Qg 
 55 (.bin .add (.t 54) (Ki 1)) 52 false,Qg 56 (.idxS (.t 53) (.t 55)) 52 false,⟨some 57,.call 106 [.t 56],some (52,false)⟩,Qg 58 (.bin .lss (.t 57) (Ki 0)) 52 false,Q 59 
 (.pick (.t 52) KT (.t 58)),Qc 60 59,Qd 61 3 60 false,Qd 62 5 60 false,Qg 63 (.bin .add (.t 62) (Ki 2)) 60 false,Qg 64 (.idxS (.t 61) (.t 63)) 60 false,⟨some 65,.call 106 
 [.t 64],some (60,false)⟩,Qg 66 (.bin .lss (.t 65) (Ki 0)) 60 false,Q 67 (.pick (.t 60) KT (.t 66))]) (.cond (.t 67) (.seq (.reg [Qc 68 0,Q 69 (.mkI 49 (Ki 4)),⟨some 70, 
 .prim .call [.k (.fn (.func 51) [] []),.t 68,.t 69] [],none⟩]) (.seq (.reg [Qx 2 (.k (.d (.str [])))]) .ret)) .skip)) (.seq (.dreg [Qc 71 4,Qc 72 3,Qc 73 5,Q 74 (.bin .add 
 (.t 73) (Ki 1)),Q 75 (.idxS (.t 72) (.t 74)),⟨some 76,.call 106 [.t 75],none⟩,Q 77 (.bin .mul (Ki 16) (.t 76)),Qc 78 3,Qc 79 5,Q 80 (.bin .add (.t 79) (Ki 2)),Q 81 
 (.idxS (.t 78) (.t 80)),⟨some 82,.call 106 [.t 81],none⟩,Q 83 (.bin .add (.t 77) (.t 82)),Q 84 (.cvI .u8 (.t 83)),⟨some 85,.bsl 5 1 [.t 84],none⟩,⟨some 86,.app 5 1 1 
 false (.t 71) (.t 85),none⟩,Qa 4 86]) (.reg [Qc 87 5,Q 88 (.bin .add (.t 87) (Ki 2)),Qa 5 88]))))) (.reg [Qc 35 5,Q 36 (.bin .add (.t 35) (Ki 1)),Qa 5 36])))))) (.seq (.seq 
 (.reg [Qc 89 4,Q 90 (.b2s (.t 89)),⟨some 91,.call 107 [.t 90],none⟩,Q 92 (.not (.t 91))]) (.cond (.t 92) (.reg [Qc 93 0,Q 94 (.mkI 49 (Ki 4)),⟨some 95,.prim .call [.k 
 (.fn (.func 51) [] []),.t 93,.t 94] [],none⟩]) .skip)) (.seq (.reg [Qc 96 4,Q 97 (.b2s (.t 96)),Qa 2 97]) .ret)))))))
def q3I:List LRes:=[.tmp 2]
theorem q5x:q0E Tryz.prog 76 98 q3B q3I:=⟨_,_,Tryz.func76,rfl,by kernel_rfl,by kernel_rfl,rfl⟩
theorem z5V(s:List UInt8)(k:Nat)(hs:s.length≤60000)(hk:k<s.length):q42 Tryz.prog 76 [.ptr (.x 0) 0] [robj s k 0] (z8z s (q2V s k)):=by
 have hw:=q1g s ((k+1:Nat):Int) (by omega);rw[q3X (by omega)]at hw;have hwl:=q4h s (k+1);generalize hR:q2V s k=R;unfold q2V at hR;generalize q08 s (k+1)=w at *;rw[Zab,Zde]at hw;rw[q0v];refine q5x.q0G (by kernel_rfl) rfl ?_;simp(disch:=omega)only[go_sem,↓reduceIte,q3B,q3I];refine q1I.of hw ?_;simp(disch:=omega)only[go_sem,↓reduceIte]
 refine q0n (fun y:Nat×List UInt8=>⟨[(0,.ptr (.x 0) 0),(3,.d (.str w)),(4,.own (.t 4) 5 1 (q1t y.2)),(5,.d (.int .i64 y.1))],[],[(0,.cells [.d (.str s),.d (.int .i64 ((k:Int)+1+w.length)),.d .nil])]⟩)
  (fun y=>y.1≤w.length∧y.2.length≤y.1∧q3w (w.drop y.1) y.2=q3w w []) (fun y=>w.length-y.1) (0,[]) ?_ ?_ ?_
 ·refine Weak.mk ?_ ?_ ?_<;>simp only[go_sem,↓reduceIte,Sub,Zab,Zac,q1t]
 ·exact⟨by simp,by simp,by simp⟩
 ·rintro⟨i,b⟩ ⟨hi,hb,hF⟩;simp only at hi hb hF;have hblen:=q1K b;have hf:=q5f s ((k:Int)+1+w.length) 4;rw[q0v,show errD 4=.iface 49 (.int .i64 4)from rfl]at hf;simp only[go_sem,↓reduceIte];refine⟨fun hlt=>?_,fun hge=>?_⟩
  ·obtain⟨c,hc⟩:=get_some (l:=w) (i:=i) (by omega);have hc8:=q4f c;rw[q1w hc]at hF;have bad:R=none→z8z s R (.d (.str [])) [robj s ((k:Int)+1+w.length) 4]:=fun e=>by rw[e];exact⟨[],_,rfl,rfl⟩
   simp only[go_sem,↓reduceIte,q0g,hc];refine⟨fun h1=>?_,fun h1=>⟨fun h2=>?_,fun h2=>?_⟩⟩
   ·rw[j1T (by omega)]at hF;simp(disch:=omega)only[IntWalk.i64_in,IntWalk.u8_in];refine⟨by omega,(i+1,b++[c]),?_,⟨by simp only;omega,by simp only[Zad,Zaf,Zag];omega,hF⟩,by simp only;omega⟩;refine Weak.mk ?_ ?_ ?_<;>simp only[go_sem,↓reduceIte,Sub,Zab,Zac,q1J,q2z,q28]
   ·rw[IntWalk.i64_in _ (by omega)]at h2;obtain⟨x,hx⟩:=get_some (l:=w) (i:=i+1) (by omega);obtain⟨y,hy⟩:=get_some (l:=w) (i:=i+2) (by omega);have hx8:=q4f x;have hy8:=q4f y;have hxb:=q76 x.toNat;have hyb:=q76 y.toNat;rw[q1w hx,q1w hy,j1S (by omega)]at hF;have g1:getI w ((i:Int)+1)=some x:=by rw[z5t,hx]
    have g2:getI w ((i:Int)+2)=some y:=by rw[show(i:Int)+2=((i+2:Nat):Int) by omega,q0g,hy]
    simp(disch:=omega)only[go_sem,↓reduceIte,g1];refine q0j.of (q8W (n:=x.toNat) (by omega)) ?_;simp(disch:=omega)only[go_sem,↓reduceIte];refine⟨fun h3=>?_,fun h3=>?_⟩
    ·simp(disch:=omega)only[go_sem,↓reduceIte,g2];refine q0j.of (q8W (n:=y.toNat) (by omega)) ?_;simp(disch:=omega)only[go_sem,↓reduceIte];refine⟨fun h4=>?_,fun h4=>?_⟩
     ·rw[if_pos (.inr h4)]at hF;rw[←hF]at hR;refine q0b.mc1 (.x 0) rfl (hf) rfl rfl rfl rfl ⟨rfl,rfl⟩ ?_;simp only[go_sem,↓reduceIte,robj];exact bad hR.symm
     ·rw[if_neg (by omega)]at hF;have hsn:=q6R (b:=b) (n:=16*hexI x.toNat+hexI y.toNat) (by omega) (by omega);simp(disch:=omega)only[go_sem,↓reduceIte,g1];refine q1I.of (q8W (n:=x.toNat) (by omega)) ?_;simp(disch:=omega)only[go_sem,↓reduceIte,g2];refine q1I.of (q8W (n:=y.toNat) (by omega)) ?_;simp(disch:=omega)only[go_sem,↓reduceIte];rw[hsn]
      refine⟨by omega,(i+3,b++[q55 (16*hexI x.toNat+hexI y.toNat)]),?_,⟨by simp only;omega,by simp only[Zad,Zaf,Zag];omega,hF⟩,by simp only;omega⟩;have e3:((i+3:Nat):Int)=(i:Int)+2+1:=by omega
      refine Weak.mk ?_ ?_ ?_<;>simp only[go_sem,↓reduceIte,Sub,Zab,Zac,e3]
    ·rw[if_pos (.inl h3)]at hF;rw[←hF]at hR;refine q0b.mc1 (.x 0) rfl (hf) rfl rfl rfl rfl ⟨rfl,rfl⟩ ?_;simp only[go_sem,↓reduceIte,robj];exact bad hR.symm
   ·rw[IntWalk.i64_in _ (by omega)]at h2;rw[j1R (by omega) (by rw[Zay];omega)]at hF;rw[←hF]at hR;refine q0b.mc1 (.x 0) rfl (hf) rfl rfl rfl rfl ⟨rfl,rfl⟩ ?_;simp only[go_sem,↓reduceIte,robj];exact bad hR.symm
  ·rw[Zao (by omega),q3w]at hF;rw[←hF]at hR;simp only[go_sem,↓reduceIte,q1T];refine q0j.of (q64 b) ?_;simp only[go_sem,↓reduceIte];refine⟨fun h1=>?_,fun h1=>?_⟩
   ·refine q0b.mc1 (.x 0) rfl (hf) rfl rfl rfl rfl ⟨rfl,rfl⟩ ?_;simp only[go_sem,↓reduceIte,robj,q1T];rw[←hR];simp only[h1];exact⟨b,_,rfl,rfl⟩
   ·simp only[go_sem,↓reduceIte,q1T];rw[←hR];simp only[h1,if_true];refine⟨rfl,?_⟩;simp only[robj,Zab,Zde];rfl
def q3f:q0l:=
 .seq (.reg [Qx 2 (.k (.d (.str [])))]) (.seq (.reg [Qc 7 0,Q 8 (.nck (.t 7)),Q 9 (.fa 1 (.t 8)),Q 10 (.ld false 1 (.t 9)),Q 11 (.bin .add (.t 10) (Ki 1)),Q 12 (.nck (.t 7)),Q 
 13 (.fa 1 (.t 12)),⟨none,.st 1 (.t 13) (.t 11),none⟩]) (.seq (.reg [⟨some 3,.nils 5 1,none⟩]) (.seq (.reg [Qx 4 (Ki (-1))]) (.seq (.block 0 (.loop (.seq (.seq (.dreg [Qc 14 
 0,Q 15 (.nck (.t 14)),Q 16 (.fa 1 (.t 15)),Q 17 (.ld false 1 (.t 16)),Qc 18 0,Q 19 (.nck (.t 18)),Q 20 (.fa 0 (.t 19)),Q 21 (.ld false 1 (.t 20)),Q 22 (.len true (.t 
 21)),Q 23 (.bin .lss (.t 17) (.t 22))]) (.cond (.t 23) .skip (.exit 0))) (.seq (.block 1 (.seq (.dreg [Qc 31 0,Q 32 (.nck (.t 31)),Q 33 (.fa 0 (.t 32)),Q 34 (.ld false 1 (.t 
 33)),Qc 35 0,Q 36 (.nck (.t 35)),Q 37 (.fa 1 (.t 36)),Q 38 (.ld false 1 (.t 37)),Q 39 (.idxS (.t 34) (.t 38)),Qa 5 39]) (.seq (.reg [Qc 40 5,⟨some 41,.call 106 [.t 40], 
 none⟩,Qa 6 41]) (.block 2 (.seq (.reg [Qc 51 5,Q 52 (.bin .eql (.t 51) (Kb 62)),Qa 50 52]) (.cond (.t 50) (.seq (.reg [Qc 53 0,Q 54 (.nck (.t 53)),Q 55 (.fa 1 (.t 54)),Q 56 
 (.ld false 1 (.t 55)),Q 57 (.bin .add (.t 56) (Ki 1)),Q 58 (.nck (.t 53)),Q 59 (.fa 1 (.t 58)),⟨none,.st 1 (.t 59) (.t 57),none⟩]) (.seq (.seq (.reg [Qc 60 4,Q 61 (.bin 
 .geq (.t 60) (Ki 0))]) (.cond (.t 61) (.reg [Qc 62 3,Qc 63 4,Q 64 (.bin .mul (Ki 16) (.t 63)),Q 65 (.cvI .u8 (.t 64)),⟨some 66,.bsl 5 1 [.t 65],none⟩,⟨some 67,.app 5 1 1 
 false (.t 62) (.t 66),none⟩,Qa 3 67]) .skip)) (.seq (.reg [Qc 68 3,Q 69 (.b2s (.t 68)),Qa 2 69]) .ret))) (.seq (.reg [Qc 71 5,⟨some 72,.call 48 [.t 71],none⟩,Qa 70 72]) 
 (.cond (.t 70) .skip (.seq (.reg [Qc 74 6,Q 75 (.bin .lss (.t 74) (Ki 0)),Qa 73 75]) (.cond (.t 73) (.seq (.reg [Qc 76 0,Q 77 (.mkI 49 (Ki 4)),⟨some 78,.prim .call [.k (.fn 
 (.func 51) [] []),.t 76,.t 77] [],none⟩]) (.seq (.reg [Qx 2 (.k (.d (.str [])))]) .ret)) (.seq (.reg [Qc 80 4,Q 81 (.bin .lss (.t 80) (Ki 0)),Qa 79 81]) (.cond (.t 79) (.reg 
 [Qc 82 6,Qa 4 82]) (.reg [Qc 42 3,Qc 43 4,Q 44 (.bin .mul (Ki 16) (.t 43)),Qc 45 6,Q 46 (.bin .add (.t 44) (.t 45)),Q 47 (.cvI .u8 (.t 46)),⟨some 48,.bsl 5 1 [.t 47], 
 none⟩,⟨some 49,.app 5 1 1 false (.t 42) (.t 48),none⟩,Qa 3 49,Qx 4 (Ki (-1))]))))))))))))) (.reg [Qc 24 0,Q 25 (.nck (.t 24)),Q 26 (.fa 1 (.t 25)),Q 27 (.ld false 1 (.t 
 26)),Q 28 (.bin .add (.t 27) (Ki 1)),Q 29 (.nck (.t 24)),Q 30 (.fa 1 (.t 29)),⟨none,.st 1 (.t 30) (.t 28),none⟩]))))) (.seq (.reg [Qc 83 0,Q 84 (.mkI 49 (Ki 5)),⟨some 85, 
 .prim .call [.k (.fn (.func 51) [] []),.t 83,.t 84] [],none⟩]) (.seq (.reg [Qx 2 (.k (.d (.str [])))]) .ret))))))
def q3j:List LRes:=[.tmp 2]
theorem q43:q0E Tryz.prog 81 86 q3f q3j:=⟨_,_,Tryz.func81,rfl,by kernel_rfl,by kernel_rfl,rfl⟩
theorem z9B(s:List UInt8)(k:Nat)(hs:s.length≤60000)(hk:k<s.length):q42 Tryz.prog 81 [.ptr (.x 0) 0] [robj s k 0]
  (fun r hs'=>r=.d (.str (q2O (s.drop (k+1)) (-1) []).1)∧∃k':Int,hs'=[robj s k' (q2O (s.drop (k+1)) (-1) []).2]∧((q2O (s.drop (k+1)) (-1) []).2=0→k'=(k+1+q9C (s.drop (k+1)):Nat))):=by
 generalize hR:q2O (s.drop (k+1)) (-1) []=R;generalize hE:k+1+q9C (s.drop (k+1))=E;rw[q0v];refine q43.q0G (by kernel_rfl) rfl ?_;simp(disch:=omega)only[go_sem,↓reduceIte,q3f,q3j];refine q0n (fun y:Nat×List UInt8×Int=>⟨[(0,.ptr (.x 0) 0),(3,.own (.t 3) 5 1 (q1t y.2.1)),(4,.d (.int .i64 y.2.2))],[],[(0,.cells [.d (.str s),.d (.int .i64 y.1),.d .nil])]⟩)
  (fun y=>k+1≤y.1∧y.1≤s.length∧y.2.1.length≤y.1 ∧ -1≤y.2.2∧y.2.2≤15∧y.1+q9C (s.drop y.1)=E∧q2O (s.drop y.1) y.2.2 y.2.1=R) (fun y=>s.length-y.1) (k+1,[],-1) ?_ ?_ ?_
 ·refine Weak.mk ?_ ?_ ?_<;>simp only[go_sem,↓reduceIte,Sub,Zab,Zac,q1t]
 ·exact⟨Zai _,hk,by simp,by simp,by simp,hE,hR⟩
 ·rintro⟨i,b,h⟩ ⟨hki,hi,hb,hh1,hh2,hE',hF⟩;simp only at hki hi hb hh1 hh2 hE' hF;have hblen:=q1K b;simp only[go_sem,↓reduceIte];refine⟨fun hlt=>?_,fun hge=>?_⟩
  ·obtain⟨c,hc⟩:=get_some (l:=s) (i:=i) (by omega);have hc8:=q4f c;have hxb:=q76 c.toNat;rw[q1w hc]at hF hE';unfold q2O at hF;unfold q9C at hE';simp only[go_sem,↓reduceIte,q0g,hc];refine q0j.of (q8W (n:=c.toNat) (by omega)) ?_;simp only[go_sem,↓reduceIte];refine⟨fun h1=>?_,fun h1=>?_⟩
   ·rw[if_pos (by omega)]at hF hE';simp(disch:=omega)only[go_sem,↓reduceIte];refine⟨fun h2=>?_,fun h2=>?_⟩
    ·rw[if_pos h2]at hF;subst hF;have hsn:=q6R (b:=b) (n:=16*h) (by omega) (by omega);simp(disch:=omega)only[go_sem,↓reduceIte,hsn,q1T];exact⟨by omega,_,rfl,by omega⟩
    ·rw[if_neg (by omega)]at hF;subst hF;simp(disch:=omega)only[go_sem,↓reduceIte,q1T];exact⟨_,rfl,by omega⟩
   ·rw[if_neg (by omega)]at hF hE';refine q0j.of (q9v c.toNat) ?_;simp only[go_sem,↓reduceIte];refine⟨fun h2=>?_,fun h2=>⟨fun h3=>?_,fun h3=>⟨fun h4=>?_,fun h4=>?_⟩⟩⟩
    ·rw[if_pos h2]at hF;simp(disch:=omega)only[IntWalk.i64_in,IntWalk.u8_in];refine⟨(i+1,b,h),?_,⟨by simp only;omega,by simp only;omega,by simp only;omega,hh1,hh2,by simp only;omega,hF⟩,by simp only;omega⟩;refine Weak.mk ?_ ?_ ?_<;>simp only[go_sem,↓reduceIte,Sub,Zab,Zac]
    ·rw[if_neg (by simp[h2]),if_pos h3]at hF;subst hF;have hf:=q5f s (i:Int) 4;rw[q0v,show errD 4=.iface 49 (.int .i64 4)from rfl]at hf;refine q0b.mc1 (.x 0) rfl (hf) rfl rfl rfl rfl ⟨rfl,rfl⟩ ?_;simp only[go_sem,↓reduceIte,robj];exact⟨_,rfl⟩
    ·rw[if_neg (by simp[h2]),if_neg h3,if_pos h4]at hF;simp(disch:=omega)only[IntWalk.i64_in,IntWalk.u8_in];refine⟨(i+1,b,hexI c.toNat),?_,⟨by simp only;omega,by simp only;omega,by simp only;omega,by simp only;omega,by simp only;omega,by simp only;omega,hF⟩,by simp only;omega⟩;refine Weak.mk ?_ ?_ ?_<;>simp only[go_sem,↓reduceIte,Sub,Zab,Zac]
    ·rw[if_neg (by simp[h2]),if_neg h3,if_neg h4]at hF;have hsn:=q6R (b:=b) (n:=16*h+hexI c.toNat) (by omega) (by omega);simp(disch:=omega)only[go_sem,↓reduceIte];rw[hsn];refine⟨by omega,(i+1,b++[q55 (16*h+hexI c.toNat)],-1),?_,⟨by simp only;omega,by simp only;omega,by simp only[Zad,Zaf,Zag];omega,by simp,by simp,by simp only;omega,hF⟩,by simp only;omega⟩;refine Weak.mk ?_ ?_ ?_<;>simp only[go_sem,↓reduceIte,Sub,Zab,Zac]
  ·rw[Zao (by omega),q2O]at hF;subst hF;have hf:=q5f s (i:Int) 5;rw[q0v,show errD 5=.iface 49 (.int .i64 5)from rfl]at hf;refine q0b.mc1 (.x 0) rfl (hf) rfl rfl rfl rfl ⟨rfl,rfl⟩ ?_;simp only[go_sem,↓reduceIte,robj];exact⟨_,rfl⟩
def escI(o:Option UInt8):Int:=match o with
 |none => -1
 |some b=>b.toNat
theorem idx5(e:UInt8):Lib.indexByte [110,114,116,98,102] e=if e.toNat=110 then 0 else if e.toNat=114 then 1 else if e.toNat=116 then 2 else if e.toNat=98 then 3 else if e.toNat=102 then 4 else -1:=by
 have h:∀i:Fin 256,Lib.indexByte [110,114,116,98,102] (UInt8.ofNat i.val)=if i.val=110 then 0 else if i.val=114 then 1 else if i.val=116 then 2 else if i.val=98 then 3 else if i.val=102 then 4 else -1:=by decide +kernel
 have:=h ⟨e.toNat,q4f e⟩;simpa using this
theorem j6s{n:Int}(h:0≤n∧n≤511):IntKind.i64.wrap (((BitVec.ofInt IntKind.i64.bits n &&& BitVec.ofInt IntKind.i64.bits 255).toNat:Nat):Int)=((q55 n).toNat:Int):=by
 have hd:∀i:Fin 512,IntKind.i64.wrap (((BitVec.ofInt IntKind.i64.bits ((i.val:Nat):Int) &&& BitVec.ofInt IntKind.i64.bits 255).toNat:Nat):Int)=((q55 ((i.val:Nat):Int)).toNat:Int):=by decide +kernel
 have:=hd ⟨n.toNat,by omega⟩;simp only at this;rwa [show((n.toNat:Nat):Int)=n by omega]at this
def q6B:q0l:=
 .seq (.reg [Qx 4 (Ki 0),Qx 5 (Ki 0)]) (.seq (.reg [Qc 10 0,Qc 11 1,Q 12 (.idxS (.t 10) (.t 11)),Qa 6 12]) (.seq (.reg [Qc 13 6,⟨some 14,.call 128 [.k (.d (.str [110,114, 
 116,98,102])),.t 13],none⟩,Qa 7 14]) (.seq (.block 0 (.seq (.reg [Qc 16 7,Q 17 (.bin .geq (.t 16) (Ki 0)),Qa 15 17]) (.cond (.t 15) (.seq (.reg [Qc 18 7,Q 19 (.idxS (.k 
 (.d (.str [10,13,9,8,12]))) (.t 18)),Q 20 (.cvI .i64 (.t 19)),Qa 4 20,Qx 5 (Ki 1)]) .ret) (.seq (.reg [Qc 22 6,Q 23 (.bin .eql (.t 22) (Kb 10)),Qa 21 23]) (.cond (.t 21) 
 (.seq (.reg [Qx 4 (Ki (-1)),Qx 5 (Ki 1)]) .ret) (.seq (.reg [Qc 25 6,Q 26 (.bin .eql (.t 25) (Kb 13)),Qc 27 26,Qd 28 1 27 true,Qg 29 (.bin .add (.t 28) (Ki 1)) 27 true,Qd 
 30 0 27 true,Qg 31 (.len true (.t 30)) 27 true,Qg 32 (.bin .lss (.t 29) (.t 31)) 27 true,Q 33 (.pick (.t 27) (.t 32) KF),Qc 34 33,Qd 35 0 34 true,Qd 36 1 34 true,Qg 37 
 (.bin .add (.t 36) (Ki 1)) 34 true,Qg 38 (.idxS (.t 35) (.t 37)) 34 true,Qg 39 (.bin .eql (.t 38) (Kb 10)) 34 true,Q 40 (.pick (.t 34) (.t 39) KF),Qa 24 40]) (.cond (.t 24) 
 (.seq (.reg [Qx 4 (Ki (-1)),Qx 5 (Ki 2)]) .ret) (.seq (.reg [Qc 42 6,Q 43 (.bin .eql (.t 42) (Kb 13)),Qa 41 43]) (.cond (.t 41) (.seq (.reg [Qx 4 (Ki (-1)),Qx 5 (Ki 1)]) 
 .ret) (.seq (.reg [Qc 45 6,Q 46 (.bin .lss (.t 45) (Kb 48)),Qc 47 46,Qd 48 6 47 false,Qg 49 (.bin .gtr (.t 48) (Kb 55)) 47 false,Q 50 (.pick (.t 47) KT (.t 49)),Qa 44 50]) 
 (.cond (.t 44) (.seq (.reg [Qc 51 6,Q 52 (.cvI .i64 (.t 51)),Qa 4 52,Qx 5 (Ki 1)]) .ret) .skip))))))))))) (.seq (.reg [Qx 8 (Ki 0),Qx 9 (Ki 0)]) (.seq (.block 1 (.loop (.seq 
 (.seq (.reg [Qc 53 9,Q 54 (.bin .lss (.t 53) (Ki 3)),Qc 55 54,Qd 56 1 55 true,Qd 57 9 55 true,Qg 58 (.bin .add (.t 56) (.t 57)) 55 true,Qd 59 0 55 true,Qg 60 (.len true 
 (.t 59)) 55 true,Qg 61 (.bin .lss (.t 58) (.t 60)) 55 true,Q 62 (.pick (.t 55) (.t 61) KF),Qc 63 62,Qd 64 0 63 true,Qd 65 1 63 true,Qd 66 9 63 true,Qg 67 (.bin .add (.t 
 65) (.t 66)) 63 true,Qg 68 (.idxS (.t 64) (.t 67)) 63 true,Qg 69 (.bin .geq (.t 68) (Kb 48)) 63 true,Q 70 (.pick (.t 63) (.t 69) KF),Qc 71 70,Qd 72 0 71 true,Qd 73 1 71 
 true,Qd 74 9 71 true,Qg 75 (.bin .add (.t 73) (.t 74)) 71 true,Qg 76 (.idxS (.t 72) (.t 75)) 71 true,Qg 77 (.bin .leq (.t 76) (Kb 55)) 71 true,Q 78 (.pick (.t 71) (.t 77) 
 KF)]) (.cond (.t 78) .skip (.exit 1))) (.block 2 (.seq (.reg [Qc 79 8,Q 80 (.bin .mul (Ki 8) (.t 79)),Qc 81 0,Qc 82 1,Qc 83 9,Q 84 (.bin .add (.t 82) (.t 83)),Q 85 (.idxS 
 (.t 81) (.t 84)),Q 86 (.bin .sub (.t 85) (Kb 48)),Q 87 (.cvI .i64 (.t 86)),Q 88 (.bin .add (.t 80) (.t 87)),Qa 8 88]) (.reg [Qc 89 9,Q 90 (.bin .add (.t 89) (Ki 1)),Qa 9 
 90])))))) (.seq (.reg [Qc 91 8,Q 92 (.bin .and (.t 91) (Ki 255)),Qc 93 9,Qa 4 92,Qa 5 93]) .ret))))))
def q6I:List LRes:=[.tmp 4,.tmp 5]
theorem q8Y:q0E Tryz.prog 108 94 q6B q6I:=⟨_,_,Tryz.func108,rfl,by kernel_rfl,by kernel_rfl,rfl⟩
theorem z5k(s:List UInt8)(k:Nat)(hs:s.length≤60000)(hk:k<s.length):q0y Tryz.prog 108 [.str s,.int .i64 k] (fun r=>r=.tup [.int .i64 (escI (escL (s.drop k)).1),.int .i64 (escL (s.drop k)).2]):=by
 obtain⟨e,he⟩:=get_some (l:=s) (i:=k) hk;have he8:=q4f e;have hx:=q7G [110,114,116,98,102] e;rw[idx5]at hx;rw[q1w he];generalize hR:escL (e::s.drop (k+1))=R;rw[escL]at hR;refine q8Y.call rfl ?_;simp only[go_sem,↓reduceIte,q6B,q6I,q0g,he];refine q0j.of hx ?_
 by_cases q0:e.toNat=110
 ·rw[if_pos q0]at hR ⊢;subst hR;have g:getI ([10,13,9,8,12]:List UInt8) 0=some 10:=rfl;simp only[go_sem,↓reduceIte,g];rfl
 rw[if_neg q0]at hR ⊢
 by_cases q1:e.toNat=114
 ·rw[if_pos q1]at hR ⊢;subst hR;have g:getI ([10,13,9,8,12]:List UInt8) 1=some 13:=rfl;simp only[go_sem,↓reduceIte,g];rfl
 rw[if_neg q1]at hR ⊢
 by_cases q2:e.toNat=116
 ·rw[if_pos q2]at hR ⊢;subst hR;have g:getI ([10,13,9,8,12]:List UInt8) 2=some 9:=rfl;simp only[go_sem,↓reduceIte,g];rfl
 rw[if_neg q2]at hR ⊢
 by_cases q3:e.toNat=98
 ·rw[if_pos q3]at hR ⊢;subst hR;have g:getI ([10,13,9,8,12]:List UInt8) 3=some 8:=rfl;simp only[go_sem,↓reduceIte,g];rfl
 rw[if_neg q3]at hR ⊢
 by_cases q4:e.toNat=102
 ·rw[if_pos q4]at hR ⊢;subst hR;have g:getI ([10,13,9,8,12]:List UInt8) 4=some 12:=rfl;simp only[go_sem,↓reduceIte,g];rfl
 rw[if_neg q4]at hR ⊢
 by_cases q5:e.toNat=10
 ·rw[if_pos q5]at hR;subst hR;have z:((e.toNat:Int)=10)=True:=eq_true (by omega);simp only[go_sem,↓reduceIte,z];rfl
 rw[if_neg q5]at hR;have z5:((e.toNat:Int)=10)=False:=eq_false (by omega)
 by_cases q6:e.toNat=13
 ·rw[if_pos q6]at hR;have z:((e.toNat:Int)=13)=True:=eq_true (by omega);simp(disch:=omega)only[go_sem,↓reduceIte,z5,z];refine⟨fun h1=>?_,fun h1=>?_⟩
  ·obtain⟨x,hx⟩:=get_some (l:=s) (i:=k+1) (by omega);have hx8:=q4f x;have g:getI s ((k:Int)+1)=some x:=by rw[z5t,hx]
   have hh:(s.drop (k+1)).head?=some x:=by rw[q1w hx];rfl
   rw[hh]at hR;simp(disch:=omega)only[go_sem,↓reduceIte,g];refine⟨fun h2=>?_,fun h2=>?_⟩
   ·rw[if_pos (by simp;omega)]at hR;subst hR;rfl
   ·rw[if_neg (by simp;omega)]at hR;subst hR;exact⟨fun _=>rfl,fun h=>absurd (show(e.toNat:Int)=13 by omega) h⟩
  ·rw[Zao (by omega)]at hR;rw[if_neg (by simp)]at hR;subst hR;rfl
 rw[if_neg q6]at hR;have z6:((e.toNat:Int)=13)=False:=eq_false (by omega)
 by_cases q7:octB e=true
 ·rw[if_neg (by simp[q7])]at hR;have q7':=q7;simp only[octB,Zah,decide_eq_true_eq]at q7';have z7:((e.toNat:Int)<48)=False:=eq_false (by omega);have z8:(55<(e.toNat:Int))=False:=eq_false (by omega);simp only[go_sem,↓reduceIte,z5,z6,z7,z8];have h0:octG 3 0 (s.drop k) 0=octG 2 (oct1 e) (s.drop (k+1)) 1:=by
   rw[q1w he,octG,if_pos q7];congr 1;simp
  unfold octL at hR;rw[←h0]at hR;generalize hG:octG 3 0 (s.drop k) 0=G at hR;refine q0n (fun y:Nat×Int=>⟨[(0,.d (.str s)),(1,.d (.int .i64 k)),(8,.d (.int .i64 y.2)),(9,.d (.int .i64 y.1))],[],[]⟩)
   (fun y=>y.1≤3∧k+y.1≤s.length∧0≤y.2∧y.2≤511∧(y.1=0→y.2=0)∧(y.1=1→y.2≤7)∧(y.1=2→y.2≤63)∧octG (3-y.1) y.2 (s.drop (k+y.1)) y.1=G) (fun y=>3-y.1) (0,0) ?_ ?_ ?_
  ·refine q1m ?_ trivial;simp only[go_sem,↓reduceIte,Sub,Zab,Zac]
  ·exact⟨by simp,by simp only;omega,by simp,by simp,by simp,by simp,by simp,hG⟩
  ·rintro⟨j,v⟩ ⟨hj,hjl,hv0,hv1,hv2,hv3,hv4,hF⟩;simp only at hj hjl hv0 hv1 hv2 hv3 hv4 hF;have stop:octG (3-j) v (s.drop (k+j)) j=(v,j)→Res.tup [D.int .i64 (IntKind.i64.wrap (((BitVec.ofInt IntKind.i64.bits v &&& BitVec.ofInt IntKind.i64.bits 255).toNat:Nat):Int)),D.int .i64 j]=Res.tup [D.int .i64 (escI R.1),D.int .i64 R.2]:=fun h=>by
    rw[h]at hF;subst hF;subst hR;rw[j6s ⟨hv0,hv1⟩];rfl
   have ej:(k:Int)+(j:Int)=((k+j:Nat):Int):=by omega
   simp(disch:=omega)only[go_sem,↓reduceIte];refine⟨fun c1=>⟨fun c2=>?_,fun c2=>stop (z5Z fun x q h=>by rw[Zao (by omega)]at h;cases h)⟩,fun c1=>stop (by rw[show 3-j=0 by omega];rfl)⟩;obtain⟨x,hx⟩:=get_some (l:=s) (i:=k+j) (by omega);have hx8:=q4f x;have stop2:=fun(h:octB x=false)=>stop (z5Z fun x' q h'=>by rw[q1w hx]at h';cases h';exact h)
   have gx:getI s ((k:Int)+(j:Int))=some x:=by rw[ej,q0g,hx]
   simp(disch:=omega)only[go_sem,↓reduceIte,gx];refine⟨fun c3=>⟨fun c4=>?_,fun c4=>stop2 (by simp[octB];omega)⟩,fun c3=>stop2 (by simp[octB];omega)⟩;have ox:octB x=true:=by simp[octB];omega
   rw[q1w hx,show 3-j=(3-(j+1))+1 by omega,octG,if_pos ox]at hF;refine⟨(j+1,8*v+oct1 x),?_,⟨by simp only;omega,by simp only;omega,by simp only[oct1];omega,by simp only[oct1];omega,by simp only;omega,by simp only[oct1];omega,by simp only[oct1];omega,hF⟩,by simp only;omega⟩;have zz:decide ((x.toNat:Int)≤55)=true:=by simpa using c4
   refine q1m ?_ trivial;simp only[go_sem,↓reduceIte,Sub,Zab,Zac,oct1,zz];all_goals((repeat' apply And.intro)<;>(congr 2<;>omega))
 ·have q7:octB e=false:=by simpa using q7
  rw[if_pos q7]at hR;subst hR;simp only[go_sem,↓reduceIte,z5,z6];rw[IntWalk.i64_in _ (by omega)];refine⟨fun h1=>?_,fun h1=>rfl⟩;refine⟨fun h2=>rfl,fun h2=>?_⟩;simp[octB]at q7;exfalso;omega
theorem j6H{t:List UInt8}(ht:t≠[]):1≤(escL t).2∧(escL t).2≤t.length:=by
 cases t with
 |nil=>exact absurd rfl ht
 |cons e r=>
  have g:∀(m:Nat) (v:Int) (q:List UInt8) (k:Nat),k≤(octG m v q k).2∧(octG m v q k).2≤k+q.length:=fun m=>by
   induction m with
   |zero=>intro v q k;simp[octG]
   |succ m ih=>
    intro v q k;cases q with
    |nil=>simp[octG]
    |cons x q=>
     rw[octG];split
     ·have:=ih (8*v+oct1 x) q (k+1);simp only[Zaf];omega
     ·simp
  have h3:=g 2 (oct1 e) r 1;rw[escL];simp only[Zaf];repeat' split
  all_goals first
   |(simp only[octL];omega)
   |(simp only;omega)
   |skip
  all_goals
   rename_i h;cases r with
   |nil=>simp at h
   |cons x q=>simp only[Zaf];omega
def q2Q:q0l:=
 .seq (.reg [Qx 2 (.k (.d (.str [])))]) (.seq (.reg [Qc 8 0,Q 9 (.nck (.t 8)),Q 10 (.fa 1 (.t 9)),Q 11 (.ld false 1 (.t 10)),Q 12 (.bin .add (.t 11) (Ki 1)),Q 13 (.nck (.t 8)), 
 Q 14 (.fa 1 (.t 13)),⟨none,.st 1 (.t 14) (.t 12),none⟩]) (.seq (.reg [⟨some 3,.nils 5 1,none⟩]) (.seq (.reg [Qx 4 (Ki 1)]) (.seq (.block 0 (.loop (.seq (.seq (.dreg [Qc 15 
 0,Q 16 (.nck (.t 15)),Q 17 (.fa 1 (.t 16)),Q 18 (.ld false 1 (.t 17)),Qc 19 0,Q 20 (.nck (.t 19)),Q 21 (.fa 0 (.t 20)),Q 22 (.ld false 1 (.t 21)),Q 23 (.len true (.t 
 22)),Q 24 (.bin .lss (.t 18) (.t 23))]) (.cond (.t 24) .skip (.exit 0))) (.block 1 (.seq (.dreg [Qc 25 0,Q 26 (.nck (.t 25)),Q 27 (.fa 0 (.t 26)),Q 28 (.ld false 1 (.t 27)), 
 Qc 29 0,Q 30 (.nck (.t 29)),Q 31 (.fa 1 (.t 30)),Q 32 (.ld false 1 (.t 31)),Q 33 (.idxS (.t 28) (.t 32)),Qa 5 33]) (.seq (.reg [Qc 34 0,Q 35 (.nck (.t 34)),Q 36 (.fa 1 (.t 
 35)),Q 37 (.ld false 1 (.t 36)),Q 38 (.bin .add (.t 37) (Ki 1)),Q 39 (.nck (.t 34)),Q 40 (.fa 1 (.t 39)),⟨none,.st 1 (.t 40) (.t 38),none⟩]) (.seq (.seq (.reg [Qc 41 5]) 
 (.block 2 (.seq (.reg [Q 43 (.bin .eql (.t 41) (Kb 92)),Qa 42 43]) (.cond (.t 42) (.seq (.seq (.dreg [Qc 44 0,Q 45 (.nck (.t 44)),Q 46 (.fa 1 (.t 45)),Q 47 (.ld false 1 (.t 
 46)),Qc 48 0,Q 49 (.nck (.t 48)),Q 50 (.fa 0 (.t 49)),Q 51 (.ld false 1 (.t 50)),Q 52 (.len true (.t 51)),Q 53 (.bin .eql (.t 47) (.t 52))]) (.cond (.t 53) (.exit 1) 
 .skip)) (.seq (.dreg [Qc 55 0,Q 56 (.nck (.t 55)),Q 57 (.fa 0 (.t 56)),Q 58 (.ld false 1 (.t 57)),Qc 59 0,Q 60 (.nck (.t 59)),Q 61 (.fa 1 (.t 60)),Q 62 (.ld false 1 (.t 
 61)),⟨some 63,.call 108 [.t 58,.t 62],none⟩,Qc 54 63,Q 64 (.ext 0 (.t 54)),Q 65 (.ext 1 (.t 54)),Qc 6 64,Qc 7 65]) (.seq (.reg [Qc 66 0,Q 67 (.nck (.t 66)),Q 68 (.fa 1 
 (.t 67)),Q 69 (.ld false 1 (.t 68)),Qc 70 7,Q 71 (.bin .add (.t 69) (.t 70)),Q 72 (.nck (.t 66)),Q 73 (.fa 1 (.t 72)),⟨none,.st 1 (.t 73) (.t 71),none⟩]) (.seq (.seq 
 (.reg [Qc 74 6,Q 75 (.bin .geq (.t 74) (Ki 0))]) (.cond (.t 75) (.reg [Qc 76 3,Qc 77 6,Q 78 (.cvI .u8 (.t 77)),⟨some 79,.bsl 5 1 [.t 78],none⟩,⟨some 80,.app 5 1 1 false 
 (.t 76) (.t 79),none⟩,Qa 3 80]) .skip)) (.exit 1))))) (.seq (.reg [Q 82 (.bin .eql (.t 41) (Kb 40)),Qa 81 82]) (.cond (.t 81) (.reg [Qc 83 4,Q 84 (.bin .add (.t 83) (Ki 1)), 
 Qa 4 84]) (.seq (.reg [Q 86 (.bin .eql (.t 41) (Kb 41)),Qa 85 86]) (.cond (.t 85) (.seq (.reg [Qc 87 4,Q 88 (.bin .sub (.t 87) (Ki 1)),Qa 4 88]) (.seq (.reg [Qc 89 4,Q 90 
 (.bin .eql (.t 89) (Ki 0))]) (.cond (.t 90) (.seq (.reg [Qc 91 3,Q 92 (.b2s (.t 91)),Qa 2 92]) .ret) .skip))) .skip)))))))) (.reg [Qc 93 3,Qc 94 5,⟨some 95,.bsl 5 1 [.t 94], 
 none⟩,⟨some 96,.app 5 1 1 false (.t 93) (.t 95),none⟩,Qa 3 96])))))))) (.seq (.reg [Qc 97 0,Q 98 (.mkI 49 (Ki 5)),⟨some 99,.prim .call [.k (.fn (.func 51) [] []),.t 97, 
 .t 98] [],none⟩]) (.seq (.reg [Qx 2 (.k (.d (.str [])))]) .ret))))))
def q2S:List LRes:=[.tmp 2]
theorem q4u:q0E Tryz.prog 78 100 q2Q q2S:=⟨_,_,Tryz.func78,rfl,by kernel_rfl,by kernel_rfl,rfl⟩
theorem j1K(s:List UInt8)(k:Nat)(hs:s.length≤60000)(hk:k<s.length):q42 Tryz.prog 78 [.ptr (.x 0) 0] [robj s k 0]
  (fun r hs'=>match litF 0 1 (s.drop (k+1)) [] (k+1)with
   |some (b,k')=>r=.d (.str b)∧hs'=[robj s k' 0]
   |none=>∃k':Int,r=.d (.str [])∧hs'=[robj s k' 5]):=by
 generalize hR:litF 0 1 (s.drop (k+1)) [] (k+1)=R;rw[q0v];refine q4u.q0G (by kernel_rfl) rfl ?_;simp(disch:=omega)only[go_sem,↓reduceIte,q2Q,q2S];refine q0n (fun y:Nat×Nat×List UInt8=>⟨[(0,.ptr (.x 0) 0),(3,.own (.t 3) 5 1 (q1t y.2.2)),(4,.d (.int .i64 y.2.1))],[],[(0,.cells [.d (.str s),.d (.int .i64 y.1),.d .nil])]⟩)
  (fun y=>y.1≤s.length∧y.2.2.length≤y.1∧1≤y.2.1∧y.2.1≤y.1+1∧litF 0 y.2.1 (s.drop y.1) y.2.2 y.1=R) (fun y=>s.length-y.1) (k+1,1,[]) ?_ ?_ ?_
 ·refine Weak.mk ?_ ?_ ?_<;>simp only[go_sem,↓reduceIte,Sub,Zab,Zac,q1t]
 ·exact⟨hk,by simp,by simp,by simp,hR⟩
 ·rintro⟨i,d,b⟩ ⟨hi,hb,hd1,hd2,hF⟩;simp only at hi hb hd1 hd2 hF;have hblen:=q1K b;simp only[go_sem,↓reduceIte];refine⟨fun hlt=>?_,fun hge=>?_⟩
  ·obtain⟨c,hc⟩:=get_some (l:=s) (i:=i) (by omega);have hc8:=q4f c;rw[q1w hc,litF]at hF;simp(disch:=omega)only[go_sem,↓reduceIte,q0g,hc];refine⟨fun h92=>?_,fun h92=>⟨fun h40=>?_,fun h40=>⟨fun h41=>⟨fun hd0=>?_,fun hd0=>?_⟩,fun h41=>?_⟩⟩⟩
   ·rw[if_pos (by omega)]at hF;refine⟨fun he=>?_,fun he=>?_⟩
    ·rw[if_pos (Zao (by omega))]at hF;refine⟨(i+1,d,b),?_,⟨by simp only;omega,by simp only;omega,hd1,by simp only;omega,?_⟩,by simp only;omega⟩
     ·refine Weak.mk ?_ ?_ ?_<;>simp only[go_sem,↓reduceIte,Sub,Zab,Zac]
     ·simp only;rw[Zao (by omega),litF];exact hF
    ·have hne:s.drop (i+1)≠[]:=fun e=>by have:=congrArg List.length e;simp at this;omega
     rw[if_neg hne]at hF;have hesc:=z5k s (i+1) hs (by omega);have hen:=j6H hne;rw[Zay]at hen;rw[z5R _ (by rw[Zay];omega),List.drop_drop]at hF;generalize escL (s.drop (i+1))=X at hesc hen hF;obtain⟨xo,xn⟩:=X;simp only at hesc hen hF;rw[Zab,Zde]at hesc;refine q1I.of hesc ?_;cases xo with
     |none=>
      simp(disch:=omega)only[go_sem,↓reduceIte,escI];refine⟨(i+1+xn,d,b),?_,⟨by simp only;omega,by simp only;omega,hd1,by simp only;omega,by simpa using hF⟩,by simp only;omega⟩;refine Weak.mk ?_ ?_ ?_<;>simp only[go_sem,↓reduceIte,Sub,Zab,Zac]
     |some x=>
      have hx8:=q4f x;simp(disch:=omega)only[go_sem,↓reduceIte,escI];refine⟨fun _=>⟨by omega,(i+1+xn,d,b++[x]),?_,⟨by simp only;omega,by simp only[Zad,Zaf,Zag];omega,hd1,by simp only;omega,hF⟩,by simp only;omega⟩,fun h=>by exfalso;omega⟩;refine Weak.mk ?_ ?_ ?_<;>simp only[go_sem,↓reduceIte,Sub,Zab,Zac,q1J,q2z,q28]
   ·rw[if_neg (by omega),if_neg (by omega),if_pos (by omega)]at hF;refine⟨by omega,(i+1,d+1,b++[c]),?_,⟨by simp only;omega,by simp only[Zad,Zaf,Zag];omega,by simp only;omega,by simp only;omega,hF⟩,by simp only;omega⟩;refine Weak.mk ?_ ?_ ?_<;>simp only[go_sem,↓reduceIte,Sub,Zab,Zac,q1J,q2z,q28]
   ·rw[if_neg (by omega),if_pos (by omega),if_pos (by omega)]at hF;subst hF;simp(disch:=omega)only[go_sem,↓reduceIte,q1T];simp only[robj,Zab,Zde];rfl
   ·rw[if_neg (by omega),if_pos (by omega),if_neg (by omega)]at hF;refine⟨by omega,(i+1,d-1,b++[c]),?_,⟨by simp only;omega,by simp only[Zad,Zaf,Zag];omega,by simp only;omega,by simp only;omega,hF⟩,by simp only;omega⟩;have e1:((d-1:Nat):Int)=(d:Int)-1:=by omega
    refine Weak.mk ?_ ?_ ?_<;>simp only[go_sem,↓reduceIte,Sub,Zab,Zac,q1J,q2z,q28,e1]
   ·rw[if_neg (by omega),if_neg (by omega),if_neg (by omega)]at hF;refine⟨by omega,(i+1,d,b++[c]),?_,⟨by simp only;omega,by simp only[Zad,Zaf,Zag];omega,by simp only;omega,by simp only;omega,hF⟩,by simp only;omega⟩;refine Weak.mk ?_ ?_ ?_<;>simp only[go_sem,↓reduceIte,Sub,Zab,Zac,q1J,q2z,q28]
  ·rw[Zao (by omega),litF]at hF;subst hF;have hf:=q5f s (i:Int) 5;rw[q0v,show errD 5=.iface 49 (.int .i64 5)from rfl]at hf;refine q0b.mc1 (.x 0) rfl (hf) rfl rfl rfl rfl ⟨rfl,rfl⟩ ?_;simp only[go_sem,↓reduceIte,robj];exact⟨_,rfl⟩
def z7m:Option Nat→Res→Prop
 |some n,r=>r=.tup [.int .i64 n,.bool true]
 |none,r=>∃n:Int,r=.tup [.int .i64 n,.bool false]
def q7A:q0l:=
 .seq (.reg [Qx 2 (Ki 0),Qx 3 KF]) (.seq (.seq (.reg [Qc 6 0,Q 7 (.bin .eql (.t 6) (.k (.d (.str [])))),Qc 8 7,Qd 9 0 8 false,Qg 10 (.len true (.t 9)) 8 false,Qg 11 (.bin .gtr 
 (.t 10) (Ki 2)) 8 false,Q 12 (.pick (.t 8) KT (.t 11)),Qc 13 12,Qd 14 0 13 false,Qg 15 (.idxS (.t 14) (Ki 0)) 13 false,Qg 16 (.bin .eql (.t 15) (Kb 48)) 13 false,Q 17 
 (.pick (.t 13) KT (.t 16))]) (.cond (.t 17) (.seq (.reg [Qx 2 (Ki 0),Qx 3 KF]) .ret) .skip)) (.seq (.reg [Qx 4 (Ki 0)]) (.seq (.seq (.reg [Qc 18 0,Q 19 (.len true (.t 18)),Q 
 20 (.cp (Ki 0))]) (.block 0 (.loop (.seq (.reg [Q 21 (.bin .lss (.t 20) (.t 19))]) (.seq (.cond (.t 21) .skip (.exit 0)) (.seq (.block 1 (.seq (.reg [Qc 22 20,Qa 5 22]) (.seq 
 (.seq (.reg [Qc 23 0,Qc 24 5,Q 25 (.idxS (.t 23) (.t 24)),Q 26 (.bin .lss (.t 25) (Kb 48)),Qc 27 26,Qd 28 0 27 false,Qd 29 5 27 false,Qg 30 (.idxS (.t 28) (.t 29)) 27 
 false,Qg 31 (.bin .gtr (.t 30) (Kb 57)) 27 false,Q 32 (.pick (.t 27) KT (.t 31))]) (.cond (.t 32) (.seq (.reg [Qx 2 (Ki 0),Qx 3 KF]) .ret) .skip)) (.reg [Qc 33 4,Q 34 (.bin 
 .mul (Ki 10) (.t 33)),Qc 35 0,Qc 36 5,Q 37 (.idxS (.t 35) (.t 36)),Q 38 (.bin .sub (.t 37) (Kb 48)),Q 39 (.cvI .i64 (.t 38)),Q 40 (.bin .add (.t 34) (.t 39)),Qa 4 40])))) 
 (.reg [Q 41 (.bin .add (.t 20) (Ki 1)),Qc 20 41]))))))) (.seq (.reg [Qc 42 4,Qc 43 4,Q 44 (.bin .leq (.t 43) (Ki 60)),Qa 2 42,Qa 3 44]) .ret))))
def q7C:List LRes:=[.tmp 2,.tmp 3]
theorem q9H:q0E Tryz.prog 129 45 q7A q7C:=⟨_,_,Tryz.func129,rfl,by kernel_rfl,by kernel_rfl,rfl⟩
theorem z7o(w:List UInt8)(hw:w.length≤60000):q0y Tryz.prog 129 [.str w] (z7m (objF w)):=by
 generalize hR:objF w=R;have bad:R=none→∀n:Int,z7m R (.tup [.int .i64 n,.bool false]):=fun e n=>by subst e;exact⟨n,rfl⟩
 refine q9H.call rfl ?_;simp only[go_sem,↓reduceIte,q7A,q7C];refine⟨fun h1=>⟨fun h2=>?_,fun h2=>bad (by rw[←hR,objF,if_pos (by omega)]) 0⟩,fun h1=>bad (by rw[←hR,objF,if_pos (by rw[h1];simp)]) 0⟩;have hlen:1≤w.length:=by cases w with|nil=>exact absurd rfl h1|cons a r=>simp
 obtain⟨c0,hc0⟩:=get_some (l:=w) (i:=0) (by omega);have g0:getI w 0=some c0:=by rw[←hc0];exact q0g w 0
 have hd0:w.head?=some c0:=by rw[←hc0];cases w<;>rfl
 simp only[go_sem,↓reduceIte,g0];refine⟨fun h3=>bad (by rw[←hR,objF,if_pos (.inr (.inr (by rw[hd0];simp;omega)))]) 0,fun h3=>?_⟩;have ho:objF w=match digF w 0 with
  |none=>none
  |some n=>if n≤60 then some n else none:=by rw[objF,if_neg (by rw[hd0];simp only[Zat,Zas];omega)]<;>rfl
 rw[ho]at hR;refine q0n (fun y:Nat×Nat=>⟨[(0,.d (.str w)),(4,.d (.int .i64 y.2)),(19,.d (.int .i64 w.length)),(20,.d (.int .i64 y.1))],[],[]⟩)
  (fun y=>y.1≤w.length∧(y.1=0→y.2=0)∧(y.1=1→y.2≤9)∧y.2≤99∧digF (w.drop y.1) y.2=digF w 0) (fun y=>w.length-y.1) (0,0) ?_ ?_ ?_
 ·refine q1m ?_ trivial;simp only[go_sem,↓reduceIte,Sub,Zab,Zac]
 ·exact⟨by simp,by simp,by simp,by simp,rfl⟩
 ·rintro⟨i,n⟩ ⟨hi,hn0,hn1,hn2,hF⟩;simp only at hi hn0 hn1 hn2 hF;simp only[go_sem,↓reduceIte];refine⟨fun hlt=>?_,fun hge=>?_⟩
  ·obtain⟨c,hc⟩:=get_some (l:=w) (i:=i) (by omega);have hc8:=q4f c;rw[q1w hc,digF]at hF;have nodig:(c.toNat<48∨57<c.toNat)→R=none:=fun h=>by
    rw[if_pos h]at hF;rw[←hF]at hR;exact hR.symm
   simp only[go_sem,↓reduceIte,q0g,hc];refine⟨fun h4=>⟨fun h5=>bad (nodig (by omega)) 0,fun h5=>?_⟩,fun h4=>bad (nodig (by omega)) 0⟩;simp(disch:=omega)only[go_sem,↓reduceIte,q0g,hc];rw[if_neg (by omega)]at hF;refine⟨(i+1,10*n+(c.toNat-48)),?_,⟨by simp only;omega,by simp only;omega,by simp only;omega,by simp only;omega,hF⟩,by simp only;omega⟩;have zz:decide (57<(c.toNat:Int))=false:=by simpa using h5
   refine q1m ?_ trivial;simp only[go_sem,↓reduceIte,Sub,Zab,Zac,zz];all_goals((repeat' apply And.intro)<;>(congr 2<;>omega))
  ·rw[Zao (by omega),digF]at hF;rw[←hF]at hR;simp only at hR
   by_cases h6:n≤60
   ·rw[if_pos h6]at hR;subst hR;have z:((n:Int)≤60)=True:=eq_true (by omega);simp only[go_sem,↓reduceIte,z];rfl
   ·rw[if_neg h6]at hR;have z:((n:Int)≤60)=False:=eq_false (by omega);simp only[go_sem,↓reduceIte,z];exact bad hR.symm _
def j2i(s:List UInt8)(k:Nat):Option (Nat×Nat)→AV→List AObj→Prop
 |some (n,k'),r,hs=>r=.tuple [.d (.int .i64 n),.d (.bool true)]∧hs=[robj s k' 0]
 |none,r,hs=>∃n:Int,r=.tuple [.d (.int .i64 n),.d (.bool false)]∧hs=[robj s k 0]
def q34:q0l:=
 .seq (.reg [Qx 2 (Ki 0),Qx 3 KF]) (.seq (.dreg [Qc 8 0,Q 9 (.nck (.t 8)),Q 10 (.fa 0 (.t 9)),Q 11 (.ld false 1 (.t 10)),Qc 12 0,Q 13 (.nck (.t 12)),Q 14 (.fa 1 (.t 13)),Q 
 15 (.ld false 1 (.t 14)),⟨some 16,.call 26 [.t 11,.t 15],none⟩,Qa 4 16]) (.seq (.reg [Qc 18 4,⟨some 19,.call 129 [.t 18],none⟩,Qc 17 19,Q 20 (.ext 0 (.t 17)),Q 21 
 (.ext 1 (.t 17)),Qa 5 20,Qa 6 21]) (.seq (.dreg [Qc 22 0,Q 23 (.nck (.t 22)),Q 24 (.fa 0 (.t 23)),Q 25 (.ld false 1 (.t 24)),Qc 26 0,Q 27 (.nck (.t 26)),Q 28 (.fa 1 (.t 
 27)),Q 29 (.ld false 1 (.t 28)),Qc 30 4,Q 31 (.len true (.t 30)),Q 32 (.bin .add (.t 29) (.t 31)),⟨some 33,.call 25 [.t 25,.t 32],none⟩,Qa 7 33]) (.seq (.seq (.reg [Qc 
 34 6,Q 35 (.not (.t 34)),Qc 36 35,Qd 37 0 36 false,Qg 38 (.nck (.t 37)) 36 false,Qg 39 (.fa 0 (.t 38)) 36 false,Qg 40 (.ld false 1 (.t 39)) 36 false,Qd 41 7 36 false, 
 ⟨some 42,.call 26 [.t 40,.t 41],some (36,false)⟩,Qg 43 (.bin .neq (.t 42) (.k (.d (.str [48])))) 36 false,Q 44 (.pick (.t 36) KT (.t 43))]) (.cond (.t 44) (.seq (.reg [Qx 2 
 (Ki 0),Qx 3 KF]) .ret) .skip)) (.seq (.reg [Qc 45 0,Q 46 (.nck (.t 45)),Q 47 (.fa 0 (.t 46)),Q 48 (.ld false 1 (.t 47)),Qc 49 7,Q 50 (.bin .add (.t 49) (Ki 1)),⟨some 51, 
 .call 25 [.t 48,.t 50],none⟩,Qa 7 51]) (.seq (.seq (.reg [Qc 52 0,Q 53 (.nck (.t 52)),Q 54 (.fa 0 (.t 53)),Q 55 (.ld false 1 (.t 54)),Qc 56 7,⟨some 57,.call 26 [.t 55, 
 .t 56],none⟩,Q 58 (.bin .neq (.t 57) (.k (.d (.str [82]))))]) (.cond (.t 58) (.seq (.reg [Qx 2 (Ki 0),Qx 3 KF]) .ret) .skip)) (.seq (.reg [Qc 59 0,Qc 60 7,Q 61 (.bin .add 
 (.t 60) (Ki 1)),Q 62 (.nck (.t 59)),Q 63 (.fa 1 (.t 62)),⟨none,.st 1 (.t 63) (.t 61),none⟩]) (.seq (.reg [Qc 64 5,Qa 2 64,Qx 3 KT]) .ret))))))))
def q37:List LRes:=[.tmp 2,.tmp 3]
theorem q5P:q0E Tryz.prog 109 65 q34 q37:=⟨_,_,Tryz.func109,rfl,by kernel_rfl,by kernel_rfl,rfl⟩
theorem j2h(s:List UInt8)(k:Nat)(hs:s.length≤60000)(hk:k≤s.length):q42 Tryz.prog 109 [.ptr (.x 0) 0] [robj s k 0] (j2i s k (q7w s k)):=by
 have hwl:=q4h s k;generalize hR:q7w s k=R;unfold q7w at hR;have hw:=q1g s ((k:Nat):Int) (by omega);rw[q3X hk]at hw;generalize q08 s k=w at *;have hob:=z7o w (by omega);have bad:R=none→∀n:Int,j2i s k R (.tuple [.d (.int .i64 n),.d (.bool false)]) [robj s k 0]:=fun e n=>by rw[e];exact⟨n,rfl,rfl⟩
 have hw1:=q1f s ((k:Int)+(w.length:Int)) (by omega);have hcl:q3M s ((k:Int)+(w.length:Int))=k+w.length:=by rw[show(k:Int)+(w.length:Int)=((k+w.length:Nat):Int) by omega,q3X (by omega)]
 rw[hcl]at hw1;have hi1:=q2X (s:=s) (k:=k+w.length) (by omega);rw[q0v];refine q5P.q0G (by kernel_rfl) rfl ?_;simp only[go_sem,↓reduceIte,q34,q37];refine q1I.of hw ?_;simp only[go_sem,↓reduceIte];refine q0j.post hob (fun r hr=>?_);cases ho:objF w with
 |none=>
  rw[ho]at hr hR;obtain⟨n,rfl⟩:=hr;simp(disch:=omega)only[go_sem,↓reduceIte];refine q1I.of hw1 ?_;simp only[go_sem,↓reduceIte];exact bad hR.symm 0
 |some n=>
  rw[ho]at hr hR;simp only[z7m]at hr;subst hr;simp(disch:=omega)only[go_sem,↓reduceIte];refine q1I.of hw1 ?_;simp only at hR;generalize q0o s (k+w.length)=q at *;have hw2:=q1g s ((q:Nat):Int) (by omega);rw[q3X (by omega)]at hw2;simp only[go_sem,↓reduceIte];refine q0j.of hw2 ?_;simp only[go_sem,↓reduceIte];refine⟨fun h5=>bad (by rw[←hR,if_neg h5]) 0,fun h5=>?_⟩;rw[if_pos h5]at hR;have hql:q<s.length:=by
   rcases Zbq q s.length with h|h
   ·exact h
   ·unfold q08 at h5;rw[Zao h]at h5;cases h5
  have hw3:=q1f s ((q:Int)+1) (by omega);rw[show q3M s ((q:Int)+1)=q+1 by rw[show(q:Int)+1=((q+1:Nat):Int) by omega,q3X (by omega)]]at hw3;have hj1:=q2X (s:=s) (k:=q+1) (by omega);generalize q0o s (q+1)=j at *;have hw4:=q1g s ((j:Nat):Int) (by omega);rw[q3X (by omega)]at hw4;rw[IntWalk.i64_in _ (by omega)];refine q0j.of hw3 ?_;simp only[go_sem,↓reduceIte];refine q0j.of hw4 ?_;simp only[go_sem,↓reduceIte];refine⟨fun h6=>bad (by rw[←hR,if_neg h6]) 0,fun h6=>?_⟩;rw[if_pos h6]at hR
  simp(disch:=omega)only[IntWalk.i64_in,IntWalk.u8_in];subst hR;exact⟨rfl,by simp only[robj,Zab,Zde];rfl⟩
/-! ### Words -/
def z0v(s:List UInt8):RV→AV→List AObj→Prop
 |.ok v k,r,hs=>r=.d v.d∧hs=[robj s k 0]
 |.bad e,r,hs=>∃(v:Val) (k:Int),r=.d v.d∧hs=[robj s k e]
theorem q5U{s:List UInt8}{v:Val}{k:Nat}{R:RV}(h:R=.ok v k):z0v s R (.d v.d) [robj s k 0]:=by subst h;exact⟨rfl,rfl⟩
theorem q1j{s:List UInt8}{e:Nat}(v:Val)(k:Int){R:RV}(h:R=.bad e):z0v s R (.d v.d) [robj s k e]:=by subst h;exact⟨v,k,rfl,rfl⟩
def q3C:q0l:=
 .seq (.reg [⟨some 2,.allo [.int .i64 0,.int .i64 0,.str [],.list [],.list []],none⟩]) (.seq (.dreg [Qc 8 0,Q 9 (.nck (.t 8)),Q 10 (.fa 0 (.t 9)),Q 11 (.ld false 1 (.t 
 10)),Qc 12 0,Q 13 (.nck (.t 12)),Q 14 (.fa 1 (.t 13)),Q 15 (.ld false 1 (.t 14)),⟨some 16,.call 26 [.t 11,.t 15],none⟩,Qa 3 16]) (.seq (.seq (.reg [Qc 17 3]) (.block 0 
 (.seq (.reg [Q 19 (.bin .eql (.t 17) (.k (.d (.str [110,117,108,108])))),Qa 18 19]) (.cond (.t 18) (.seq (.reg [Qc 20 0,Q 21 (.nck (.t 20)),Q 22 (.fa 1 (.t 21)),Q 23 (.ld 
 false 1 (.t 22)),Q 24 (.bin .add (.t 23) (Ki 4)),Q 25 (.nck (.t 20)),Q 26 (.fa 1 (.t 25)),⟨none,.st 1 (.t 26) (.t 24),none⟩]) (.seq (.reg [Q 27 (.bld [(0,1),(1,1),(2, 
 1),(3,1),(4,1)] [.int .i64 0,.int .i64 0,.str [],.list [],.list []] [] []),⟨none,.st 5 (.t 2) (.t 27),none⟩]) .ret)) (.seq (.reg [Q 29 (.bin .eql (.t 17) (.k (.d (.str 
 [116,114,117,101])))),Qa 28 29]) (.cond (.t 28) (.seq (.reg [Qc 30 0,Q 31 (.nck (.t 30)),Q 32 (.fa 1 (.t 31)),Q 33 (.ld false 1 (.t 32)),Q 34 (.bin .add (.t 33) (Ki 4)), 
 Q 35 (.nck (.t 30)),Q 36 (.fa 1 (.t 35)),⟨none,.st 1 (.t 36) (.t 34),none⟩]) (.seq (.reg [Q 37 (.bld [(0,1),(1,1),(2,1),(3,1),(4,1)] [.int .i64 0,.int .i64 0,.str 
 [],.list [],.list []] [false,false,false,true,true] [(0,.k (.d (.int .i64 1))),(1,.k (.d (.int .i64 1)))]),⟨none,.st 5 (.t 2) (.t 37),none⟩]) .ret)) (.seq (.reg [Q 39 
 (.bin .eql (.t 17) (.k (.d (.str [102,97,108,115,101])))),Qa 38 39]) (.cond (.t 38) (.seq (.reg [Qc 40 0,Q 41 (.nck (.t 40)),Q 42 (.fa 1 (.t 41)),Q 43 (.ld false 1 (.t 
 42)),Q 44 (.bin .add (.t 43) (Ki 5)),Q 45 (.nck (.t 40)),Q 46 (.fa 1 (.t 45)),⟨none,.st 1 (.t 46) (.t 44),none⟩]) (.seq (.reg [Q 47 (.bld [(0,1),(1,1),(2,1),(3,1), 
 (4,1)] [.int .i64 0,.int .i64 0,.str [],.list [],.list []] [false,false,false,true,true] [(0,.k (.d (.int .i64 1)))]),⟨none,.st 5 (.t 2) (.t 47),none⟩]) .ret)) 
 .skip)))))))) (.seq (.reg [Qc 49 0,⟨some 50,.prim .call [.k (.fn (.func 109) [] []),.t 49] [],none⟩,Qc 48 50,Q 51 (.ext 0 (.t 48)),Q 52 (.ext 1 (.t 48)),Qa 4 51,Qa 5 
 52]) (.seq (.seq (.reg [Qc 53 5]) (.cond (.t 53) (.seq (.reg [Qc 54 4,Q 55 (.bld [(0,1),(1,1),(2,1),(3,1),(4,1)] [.int .i64 0,.int .i64 0,.str [],.list [],.list []] 
 [false,false,false,true,true] [(0,.k (.d (.int .i64 7))),(1,.t 54)]),⟨none,.st 5 (.t 2) (.t 55),none⟩]) .ret) .skip)) (.seq (.reg [Qc 57 3,⟨some 58,.call 110 [.t 57], 
 none⟩,Qc 56 58,Q 59 (.ext 0 (.t 56)),Q 60 (.ext 1 (.t 56)),Qa 6 59,Qa 7 60]) (.seq (.seq (.reg [Qc 61 7,Q 62 (.eqN 0 true (.t 61))]) (.cond (.t 62) (.seq (.reg [Qc 63 0,Qc 
 64 7,⟨some 65,.prim .call [.k (.fn (.func 51) [] []),.t 63,.t 64] [],none⟩]) (.seq (.reg [Q 66 (.bld [(0,1),(1,1),(2,1),(3,1),(4,1)] [.int .i64 0,.int .i64 0,.str 
 [],.list [],.list []] [] []),⟨none,.st 5 (.t 2) (.t 66),none⟩]) .ret)) .skip)) (.seq (.reg [Qc 67 0,Q 68 (.nck (.t 67)),Q 69 (.fa 1 (.t 68)),Q 70 (.ld false 1 (.t 69)), 
 Qc 71 3,Q 72 (.len true (.t 71)),Q 73 (.bin .add (.t 70) (.t 72)),Q 74 (.nck (.t 67)),Q 75 (.fa 1 (.t 74)),⟨none,.st 1 (.t 75) (.t 73),none⟩]) (.seq (.reg [Qc 76 6,Q 77 
 (.bld [(0,1),(1,1),(2,1),(3,1),(4,1)] [.int .i64 0,.int .i64 0,.str [],.list [],.list []] [false,false,false,true,true] [(0,.k (.d (.int .i64 2))),(1,.t 
 76)]),⟨none,.st 5 (.t 2) (.t 77),none⟩]) .ret))))))))
def q3J:List LRes:=[.cell 2 true 5]
theorem q5y:q0E Tryz.prog 83 78 q3C q3J:=⟨_,_,Tryz.func83,rfl,by kernel_rfl,by kernel_rfl,rfl⟩
theorem j0e(s:List UInt8)(k:Nat)(hs:s.length≤60000)(hk:k≤s.length):q42 Tryz.prog 83 [.ptr (.x 0) 0] [robj s k 0] (z0v s (q7y s k)):=by
 have hwl:=q4h s k;generalize hR:q7y s k=R;unfold q7y at hR;have hw:=q1g s ((k:Nat):Int) (by omega);rw[q3X hk]at hw;have hrf:=j2h s k hs hk;have hfx:=z9R (q08 s k) (by omega);have good:∀(a b:Int) (t:List UInt8) (m:Int),R=.ok (Val.mk a b t [] []) m.toNat→0≤m→z0v s R (.d (.agg [.int .i64 a,.int .i64 b,.str t,.list [],.list []])) [.cells [.d (.str s),.d (.int .i64 m),.d .nil]]:=fun a b t m he hm=>by
  have:=q5U (s:=s) he;rwa [kmk,q0v,show((m.toNat:Nat):Int)=m by omega]at this
 generalize q08 s k=w at *;rw[q0v]at hrf ⊢;refine q5y.q0G (by kernel_rfl) rfl ?_;simp only[go_sem,↓reduceIte,q3C,q3J];refine q1I.of hw ?_;simp(disch:=omega)only[go_sem,↓reduceIte];refine⟨fun w1=>?_,fun w1=>⟨fun w2=>?_,fun w2=>⟨fun w3=>?_,fun w3=>?_⟩⟩⟩
 ·rw[if_pos w1]at hR;exact good 0 0 [] (k+4) (by rw[←hR];congr 1) (by omega)
 ·rw[if_neg w1,if_pos w2]at hR;exact good 1 1 [] (k+4) (by rw[←hR];congr 1) (by omega)
 ·rw[if_neg w1,if_neg w2,if_pos w3]at hR;exact good 1 0 [] (k+5) (by rw[←hR];congr 1) (by omega)
 ·rw[if_neg w1,if_neg w2,if_neg w3]at hR;refine q0b.mp1 (.x 0) rfl (hrf) rfl rfl rfl rfl (fun r hs' hr=>?_);cases hra:q7w s k with
  |some p=>
   obtain⟨n,kn⟩:=p;rw[hra]at hR hr;obtain⟨rfl,rfl⟩:=hr;refine⟨⟨rfl,rfl⟩,?_⟩;simp only[go_sem,↓reduceIte,robj,errD];exact good 7 n [] kn (by rw[←hR];rfl) (by omega)
  |none=>
   rw[hra]at hR hr;obtain⟨n,rfl,rfl⟩:=hr;refine⟨⟨rfl,rfl⟩,?_⟩;simp only[go_sem,↓reduceIte,robj,errD];refine q0j.of hfx ?_;simp only[resP];generalize q5i w=F at hR;obtain⟨fn,fc⟩:=F;simp only at hR
   by_cases f0:fc=0
   ·subst f0;rw[if_pos rfl]at hR;rw[show errD 0=.nil from rfl];simp(disch:=omega)only[go_sem,↓reduceIte];exact good 2 fn [] _ (by rw[←hR];congr 1) (by omega)
   ·rw[if_neg f0]at hR;rw[q2P f0];have hf:=q5f s (k:Int) fc;rw[q0v,q2P f0]at hf;simp only[go_sem,↓reduceIte];refine q0b.mc1 (.x 0) rfl (hf) rfl rfl rfl rfl ⟨rfl,rfl⟩ ?_;simp only[go_sem,↓reduceIte,robj];have:=q1j (s:=s) zeroV (k:Int) hR.symm;rwa [Val.d_eq]at this
def RdAt(s:List UInt8)(rd:Nat→RV)(deep:Int):Prop:=∀k:Nat,k≤s.length→q42 Tryz.prog 50 [.ptr (.x 0) 0,.d (.int .i64 deep)] [robj s k 0] (z0v s (rd k))
theorem z3j{s:List UInt8}{k:Nat}{c:UInt8}{x:UInt8}(h:s[k]?=some c):q4q (s.drop k) [x]=decide (c=x):=by
 rw[q1w h];simp[q4q]
def ro(s:List UInt8)(i:Nat):Option (Int×Nat)→AObj
 |none=>.cells [.d (.str s),.d (.int .i64 i),.d .nil]
 |some (k,e)=>robj s k e
def q3A:q0l:=
 .seq (.reg [⟨some 4,.allo [.int .i64 0,.int .i64 0,.str [],.list [],.list []],none⟩]) (.seq (.reg [Q 7 (.bld [(0,1),(1,1),(2,1),(3,1),(4,1)] [.int .i64 0,.int .i64 
 0,.str [],.list [],.list []] [false,false,false,true,true] [(0,.k (.d (.int .i64 5)))]),⟨some 5,.allo [.int .i64 0,.int .i64 0,.str [],.list [],.list []],none⟩, 
 ⟨none,.st 5 (.t 5) (.t 7),none⟩]) (.seq (.block 0 (.loop (.seq (.seq (.reg [Qc 8 0,Q 9 (.nck (.t 8)),Q 10 (.fa 2 (.t 9)),Q 11 (.ld false 1 (.t 10)),Q 12 (.eqN 0 false (.t 
 11)),Qc 13 12,Qd 14 0 13 true,⟨some 15,.prim .call [.k (.fn (.func 75) [] []),.t 14] [],some (13,true)⟩,Qg 16 (.bin .neq (.t 15) (Kb 93)) 13 true,Q 17 (.pick (.t 13) (.t 
 16) KF),Qc 18 17,Qd 19 0 18 true,Qg 20 (.nck (.t 19)) 18 true,Qg 21 (.fa 2 (.t 20)) 18 true,Qg 22 (.ld false 1 (.t 21)) 18 true,Qg 23 (.eqN 0 false (.t 22)) 18 true,Q 24 
 (.pick (.t 18) (.t 23) KF)]) (.cond (.t 24) .skip (.exit 0))) (.block 1 (.seq (.reg [Qc 25 0,Qc 26 1,Q 27 (.bin .add (.t 26) (Ki 1)),⟨some 28,.prim .call [.k (.fn (.func 50) 
 [] []),.t 25,.t 27] [],none⟩,⟨some 6,.allo [.int .i64 0,.int .i64 0,.str [],.list [],.list []],none⟩,⟨none,.st 5 (.t 6) (.t 28),none⟩]) (.seq (.reg [Q 29 (.fa 3 (.t 
 5)),Q 30 (.ld false 1 (.t 29)),Q 31 (.ld true 5 (.t 6)),⟨some 32,.bsl 40 5 [.t 31],none⟩,⟨some 33,.app 40 5 80 false (.t 30) (.t 32),none⟩,Q 34 (.fa 3 (.t 5)),⟨none, 
 .st 1 (.t 34) (.t 33),none⟩]) (.seq (.reg [Q 35 (.fa 3 (.t 5)),Q 36 (.ld false 1 (.t 35)),Q 37 (.len false (.t 36)),Q 38 (.bin .gtr (.t 37) (Ki 300))]) (.cond (.t 38) (.reg 
 [Qc 39 0,Q 40 (.mkI 49 (Ki 2)),⟨some 41,.prim .call [.k (.fn (.func 51) [] []),.t 39,.t 40] [],none⟩]) .skip)))))))) (.seq (.reg [Qc 42 0,⟨some 43,.prim .call [.k (.fn 
 (.func 79) [] []),.t 42,.k (.d (.str [93]))] [],none⟩]) (.seq (.reg [Q 44 (.ld true 5 (.t 5)),⟨none,.st 5 (.t 4) (.t 44),none⟩]) .ret))))
def q3H:List LRes:=[.cell 4 true 5]
theorem q5w:q0E Tryz.prog 82 45 q3A q3H:=⟨_,_,Tryz.func82,rfl,by kernel_rfl,by kernel_rfl,rfl⟩
theorem j3S(s:List UInt8)(hs:s.length≤60000)(rd:Nat→RV)(deep:Int)(hd:0≤deep∧deep≤8)(hg:∀k,k≤s.length→z62 s k (rd k))(ih:RdAt s rd (deep+1))(k:Nat)(hk:k≤s.length):
  q42 Tryz.prog 82 [.ptr (.x 0) 0,.d (.int .i64 deep)] [robj s k 0] (z0v s (q4S rd s 301 [] k)):=by
 generalize hR:q4S rd s 301 [] k=R;rw[q0v];refine q5w.q0G (by kernel_rfl) rfl ?_;simp(disch:=omega)only[go_sem,↓reduceIte,q3A,q3H];refine q0n (fun y:Nat×List Val×Option (Int×Nat)=>⟨[(0,.ptr (.x 0) 0),(1,.d (.int .i64 deep)),(4,.ptr (.l 4) 0),(5,.ptr (.l 5) 0)],
   [(4,.cells [.d (.int .i64 0),.d (.int .i64 0),.d (.str []),.ns,.ns]),(5,.cells [.d (.int .i64 5),.d (.int .i64 0),.d (.str []),lrow (.l 5) 3 y.2.1,.ns])],[(0,ro s y.1 y.2.2)]⟩)
  (fun y=>y.1≤s.length∧y.2.1.length≤301∧(y.2.2=none→y.2.1.length≤300∧q4S rd s (301-y.2.1.length) y.2.1 y.1=R)∧∀k e,y.2.2=some (k,e)→e≠0∧R=.bad e) (fun y=>2*(s.length-y.1)+(if y.2.2.isNone=true then 1 else 0)) (k,[],none) ?_ ?_ ?_
 ·refine Weak.mk ?_ ?_ ?_<;>simp only[go_sem,↓reduceIte,Sub,Zab,Zac,lrow,ro]
 ·exact⟨hk,by simp,fun _=>⟨by simp,hR⟩,fun _ _ h=>by cases h⟩
 ·rintro⟨i,acc,o⟩ ⟨hi,ha,hF,hE⟩;simp only at hi ha hF hE;have hal:=q0Z acc;have fin:(lrow (.l 5) 3 acc=.ns∧q0u acc=[])∨lrow (.l 5) 3 acc=.own (.c (.l 5) 3) 40 5 (q0u acc):=by
   rcases z9J (.l 5) 3 acc with⟨h,rfl⟩|h
   ·exact .inl ⟨h,rfl⟩
   ·exact .inr h
  have dd:(lisV acc).d=D.agg [.int .i64 5,.int .i64 0,.str [],.list (q0u acc),.list []]:=by rw[Val.d_eq];rfl
  cases o with
  |some p=>
   obtain⟨k',e⟩:=p;obtain⟨e0,rfl⟩:=hE k' e rfl;have het:=j05 s k' [93] e0;have fb:=q1j (s:=s) (R:=.bad e) (lisV acc) k' rfl;rw[dd,q1k s k' e0]at fb;simp only[ro];rw[q1k s k' e0]at het ⊢;simp only[go_sem,↓reduceIte];refine q0b.mc1 (.x 0) rfl (het) rfl rfl rfl rfl ⟨rfl,rfl⟩ ?_;rcases fin with⟨h1,h2⟩|h1<;>rw[h1];all_goals
    simp only[go_sem,↓reduceIte];first
    |exact fb
    |(rw[h2]at fb;exact fb)
  |none=>
   obtain⟨ha',hF⟩:=hF rfl;obtain⟨m,hm⟩:∃m,301-acc.length=m+1:=⟨300-acc.length,by omega⟩;rw[hm,q4S]at hF;have hsk:=q2X hi;have hnx:=z8A s i hs hi;generalize q0o s i=q at *;simp only[ro];rw[q0v]at hnx;simp only[go_sem,↓reduceIte];refine q0b.mc1 (.x 0) rfl (hnx) rfl rfl rfl rfl ⟨rfl,rfl⟩ ?_;cases hc:s[q]? with
   |none=>
    rw[hc]at hF;simp only at hF;have het:=j05 s (q:Int) [93] (n:=5) (by decide);have fb:=q1j (s:=s) (R:=R) (lisV acc) (q:Int) hF.symm;rw[dd,q5V]at fb;rw[q5V]at het;simp only;rw[q5V];simp only[go_sem,↓reduceIte];refine q0b.mc1 (.x 0) rfl (het) rfl rfl rfl rfl ⟨rfl,rfl⟩ ?_;rcases fin with⟨h1,h2⟩|h1<;>rw[h1];all_goals
     simp only[go_sem,↓reduceIte];first
     |exact fb
     |(rw[h2]at fb;exact fb)
   |some c=>
    have hc8:=q4f c;have hlt:q<s.length:=(Zaa.1 hc).1;rw[hc]at hF;simp only at hF;simp only;rw[q0v];simp only[go_sem,↓reduceIte];refine⟨fun h2=>?_,fun h2=>?_⟩
    ·rw[if_neg (by omega)]at hF;have hv:=ih q (by omega);have hgq:=hg q (by omega);rw[q0v]at hv;simp(disch:=omega)only[IntWalk.i64_in,IntWalk.u8_in];refine q0b.mp1 (.x 0) rfl (hv) rfl rfl rfl rfl (fun r hs' hr=>?_);cases hx:rd q with
     |bad e=>
      rw[hx]at hF hr hgq;obtain⟨x,k',rfl,rfl⟩:=hr;obtain⟨g1,_⟩:=hgq;have e0:e≠0:=by omega
      refine⟨⟨rfl,rfl⟩,?_⟩;rw[Val.d_eq x,q1k s k' e0];have hrow:lrow (.l 5) 3 (acc++[x])=.own (.c (.l 5) 3) 40 5 (q0u acc++[D.agg [.int .i64 x.kind,.int .i64 x.n,.str x.s,.list (q0u x.l),.list (q0k x.f)]]):=by rw[z5S,Val.d_eq]
      have hfn:=q74 s k' e0 (.iface 49 (.int .i64 2));rw[q1k s k' e0]at hfn;have hnext:∀τ:St,τ=τ:=fun _=>rfl
      have inv:i≤s.length∧(acc++[x]).length≤301∧(some (k',e)=none→(acc++[x]).length≤300∧q4S rd s (301-(acc++[x]).length) (acc++[x]) i=R)∧∀k e',some (k',e)=some (k,e')→e'≠0∧R=.bad e':=
       ⟨hi,by simp;omega,fun h=>(by cases h),fun k e' h=>by cases h;exact⟨e0,hF.symm⟩⟩
      have hsl:=q0Z (acc++[x]);simp only[Zad,Zaf,Zag]at hsl;have hsn:q0u acc++[D.agg [.int .i64 x.kind,.int .i64 x.n,.str x.s,.list (q0u x.l),.list (q0k x.f)]]=q0u (acc++[x]):=by rw[q5o];simp[q0u,Val.d_eq]
      rw[hsn]at hrow;rcases fin with⟨h3,h4⟩|h3<;>rw[h3]
      ·rw[h4,Zav]at hsn;simp only[go_sem,↓reduceIte];rw[hsn];refine⟨(i,acc++[x],some (k',e)),?_,inv,by simp⟩;refine Weak.mk ?_ ?_ ?_<;>simp only[go_sem,↓reduceIte,Sub,Zab,Zac,hrow,ro,q1k s k' e0]
      ·simp only[go_sem,↓reduceIte];rw[hsn];refine⟨by omega,fun h5=>?_,fun h5=>?_⟩
       ·refine q0b.mc1 (.x 0) rfl (hfn) rfl rfl rfl rfl ⟨rfl,rfl⟩ ?_;simp only[go_sem,↓reduceIte];refine⟨(i,acc++[x],some (k',e)),?_,inv,by simp⟩;refine Weak.mk ?_ ?_ ?_<;>simp only[go_sem,↓reduceIte,Sub,Zab,Zac,hrow,ro,q1k s k' e0]
       ·refine⟨(i,acc++[x],some (k',e)),?_,inv,by simp⟩;refine Weak.mk ?_ ?_ ?_<;>simp only[go_sem,↓reduceIte,Sub,Zab,Zac,hrow,ro,q1k s k' e0]
     |ok x k'=>
      rw[hx]at hF hr hgq;obtain⟨rfl,rfl⟩:=hr;obtain⟨g1,g2,g3,g4⟩:=hgq;refine⟨⟨rfl,rfl⟩,?_⟩;simp only at hF;rw[Val.d_eq x,q0v];have hrow:lrow (.l 5) 3 (acc++[x])=.own (.c (.l 5) 3) 40 5 (q0u acc++[D.agg [.int .i64 x.kind,.int .i64 x.n,.str x.s,.list (q0u x.l),.list (q0k x.f)]]):=by rw[z5S,Val.d_eq]
      have hf0:=q5f s (k':Int) 2;rw[q0v,q7L,q7m.1]at hf0;have hsl:=q0Z (acc++[x]);have hlen:(acc++[x]).length=acc.length+1:=by simp
      have hsn:q0u acc++[D.agg [.int .i64 x.kind,.int .i64 x.n,.str x.s,.list (q0u x.l),.list (q0k x.f)]]=q0u (acc++[x]):=by rw[q5o];simp[q0u,Val.d_eq]
      rw[hsn]at hrow;have more:¬300<(q0u (acc++[x])).length→k'≤s.length∧(acc++[x]).length≤301∧((none:Option (Int×Nat))=none→(acc++[x]).length≤300∧q4S rd s (301-(acc++[x]).length) (acc++[x]) k'=R)∧∀k e',(none:Option (Int×Nat))=some (k,e')→e'≠0∧R=.bad e':=fun h=>
       ⟨g2,by omega,fun _=>⟨by omega,by rw[←hF];congr 1;omega⟩,fun _ _ h=>by cases h⟩
      have stop:300<(q0u (acc++[x])).length→k'≤s.length∧(acc++[x]).length≤301∧(some ((k':Int),2)=none→(acc++[x]).length≤300∧q4S rd s (301-(acc++[x]).length) (acc++[x]) k'=R)∧∀k e',some ((k':Int),2)=some (k,e')→e'≠0∧R=.bad e':=fun h=>
       ⟨g2,by omega,fun h=>(by cases h),fun k e' h'=>by
        cases h';have hm0:m=0:=by omega
        rw[hm0,q4S]at hF;exact⟨by decide,hF.symm⟩⟩
      rcases fin with⟨h3,h4⟩|h3<;>rw[h3]
      ·rw[h4,Zav]at hsn;simp only[go_sem,↓reduceIte];rw[hsn];have h5:¬300<(q0u (acc++[x])).length:=by rw[←hsn];simp
       refine⟨(k',acc++[x],none),?_,more h5,by simp;omega⟩;refine Weak.mk ?_ ?_ ?_<;>simp only[go_sem,↓reduceIte,Sub,Zab,Zac,hrow,ro]
      ·simp only[go_sem,↓reduceIte];rw[hsn];refine⟨by omega,fun h5=>?_,fun h5=>?_⟩
       ·refine q0b.mc1 (.x 0) rfl (hf0) rfl rfl rfl rfl ⟨rfl,rfl⟩ ?_;simp only[go_sem,↓reduceIte];refine⟨(k',acc++[x],some ((k':Int),2)),?_,stop (by omega),by simp;omega⟩;refine Weak.mk ?_ ?_ ?_<;>simp only[go_sem,↓reduceIte,Sub,Zab,Zac,hrow,ro,q7L]
       ·refine⟨(k',acc++[x],none),?_,more (by omega),by simp;omega⟩;refine Weak.mk ?_ ?_ ?_<;>simp only[go_sem,↓reduceIte,Sub,Zab,Zac,hrow,ro]
    ·rw[if_pos (by omega)]at hF;have het:=j3k s q [93] hs (by omega) (by simp);have hp:q4q (s.drop q) [93]=true:=by
      rw[z3j hc];have:c=93:=UInt8.toNat_inj.1 (by have:(93:UInt8).toNat=93:=rfl;omega);simp[this]
     rw[hp,if_pos rfl,q0v,q0v]at het;have fb:=q5U (s:=s) hF.symm;rw[dd,q0v]at fb;refine q0b.mc1 (.x 0) rfl (het) rfl rfl rfl rfl ⟨rfl,rfl⟩ ?_;rcases fin with⟨h1,h3⟩|h1<;>rw[h1];all_goals
      simp only[go_sem,↓reduceIte];first
      |exact fb
      |(rw[h3]at fb;exact fb)
def zD:D:=.agg [.int .i64 0,.int .i64 0,.str [],.list [],.list []]
def q1u:q0l:=
 .seq (.reg [⟨some 4,.allo [.int .i64 0,.int .i64 0,.str [],.list [],.list []],none⟩]) (.seq (.reg [Qc 6 0,⟨some 7,.prim .call [.k (.fn (.func 75) [] []),.t 6] [],none⟩, 
 Qa 5 7]) (.seq (.seq (.reg [Qc 8 1,Q 9 (.bin .gtr (.t 8) (Ki 8))]) (.cond (.t 9) (.reg [Qc 10 0,Q 11 (.mkI 49 (Ki 2)),⟨some 12,.prim .call [.k (.fn (.func 51) [] []),.t 10, 
 .t 11] [],none⟩]) .skip)) (.seq (.seq (.reg [Qc 13 0,Q 14 (.nck (.t 13)),Q 15 (.fa 2 (.t 14)),Q 16 (.ld false 1 (.t 15)),Q 17 (.eqN 0 true (.t 16))]) (.cond (.t 17) (.seq 
 (.reg [Q 18 (.bld [(0,1),(1,1),(2,1),(3,1),(4,1)] [.int .i64 0,.int .i64 0,.str [],.list [],.list []] [] []),⟨none,.st 5 (.t 4) (.t 18),none⟩]) .ret) .skip)) 
 (.seq (.block 0 (.seq (.reg [Qc 20 5,Q 21 (.bin .eql (.t 20) (Kb 47)),Qa 19 21]) (.cond (.t 19) (.seq (.reg [Qc 22 0,⟨some 23,.prim .call [.k (.fn (.func 76) [] []),.t 22] 
 [],none⟩,Q 24 (.bld [(0,1),(1,1),(2,1),(3,1),(4,1)] [.int .i64 0,.int .i64 0,.str [],.list [],.list []] [false,false,false,true,true] [(0,.k (.d (.int .i64 
 4))),(2,.t 23)]),⟨none,.st 5 (.t 4) (.t 24),none⟩]) .ret) (.seq (.reg [Qc 26 5,Q 27 (.bin .eql (.t 26) (Kb 40)),Qa 25 27]) (.cond (.t 25) (.seq (.reg [Qc 28 0,Qc 29 0, 
 ⟨some 30,.prim .call [.k (.fn (.func 78) [] []),.t 29] [],none⟩,⟨some 31,.prim .call [.k (.fn (.func 77) [] []),.t 28,.t 30] [],none⟩,⟨none,.st 5 (.t 4) (.t 31), 
 none⟩]) .ret) (.seq (.reg [Qc 33 0,⟨some 34,.prim .call [.k (.fn (.func 79) [] []),.t 33,.k (.d (.str [60,60]))] [],none⟩,Qa 32 34]) (.cond (.t 32) (.seq (.reg [Qc 35 0, 
 Qc 36 1,⟨some 37,.prim .call [.k (.fn (.func 80) [] []),.t 35,.t 36] [],none⟩,⟨none,.st 5 (.t 4) (.t 37),none⟩]) .ret) (.seq (.reg [Qc 39 5,Q 40 (.bin .eql (.t 39) (Kb 
 60)),Qa 38 40]) (.cond (.t 38) (.seq (.reg [Qc 41 0,Qc 42 0,⟨some 43,.prim .call [.k (.fn (.func 81) [] []),.t 42] [],none⟩,⟨some 44,.prim .call [.k (.fn (.func 77) [] 
 []),.t 41,.t 43] [],none⟩,⟨none,.st 5 (.t 4) (.t 44),none⟩]) .ret) (.seq (.reg [Qc 46 0,⟨some 47,.prim .call [.k (.fn (.func 79) [] []),.t 46,.k (.d (.str [91]))] [], 
 none⟩,Qa 45 47]) (.cond (.t 45) (.seq (.reg [Qc 48 0,Qc 49 1,⟨some 50,.prim .call [.k (.fn (.func 82) [] []),.t 48,.t 49] [],none⟩,⟨none,.st 5 (.t 4) (.t 50),none⟩]) 
 .ret) (.seq (.reg [Qc 52 5,⟨some 53,.call 49 [.t 52],none⟩,Qa 51 53]) (.cond (.t 51) (.seq (.reg [Qc 54 0,Q 55 (.mkI 49 (Ki 4)),⟨some 56,.prim .call [.k (.fn (.func 51) [] 
 []),.t 54,.t 55] [],none⟩]) (.seq (.reg [Q 57 (.bld [(0,1),(1,1),(2,1),(3,1),(4,1)] [.int .i64 0,.int .i64 0,.str [],.list [],.list []] [] []),⟨none,.st 5 (.t 
 4) (.t 57),none⟩]) .ret)) .skip))))))))))))) (.seq (.reg [Qc 58 0,⟨some 59,.prim .call [.k (.fn (.func 83) [] []),.t 58] [],none⟩,⟨none,.st 5 (.t 4) (.t 59),none⟩]) 
 .ret)))))
def q1v:List LRes:=[.cell 4 true 5]
theorem q1G:q0E Tryz.prog 50 60 q1u q1v:=⟨_,_,Tryz.func50,rfl,by kernel_rfl,by kernel_rfl,rfl⟩
theorem j4L(s:List UInt8)(k:Int)(deep:Int){n:Nat}(hn:n≠0)(hs:s.length≤60000):q1c Tryz.prog 50 [.ptr (.x 0) 0,.d (.int .i64 deep)] [robj s k n] (.d zD) [robj s (q0o s (q3M s k)) n]:=by
 obtain⟨c,hnx⟩:=next_ne s k hn hs;have hf:=q74 s (q0o s (q3M s k):Int) hn (.iface 49 (.int .i64 2));generalize(q0o s (q3M s k):Int)=q at *;rw[q1k s k hn,q1k s q hn]at *;refine q1G.q0G (by kernel_rfl) rfl ?_;simp only[go_sem,↓reduceIte,q1u,q1v];refine q0b.mc1 (.x 0) rfl (hnx) rfl rfl rfl rfl ⟨rfl,rfl⟩ ?_;simp only[go_sem,↓reduceIte];refine⟨fun h=>?_,fun h=>rfl⟩;refine q0b.mc1 (.x 0) rfl (hf) rfl rfl rfl rfl ⟨rfl,rfl⟩ ?_;simp only[go_sem,↓reduceIte];rfl
theorem z3k{s:List UInt8}{k:Nat}{c:UInt8}{x y:UInt8}(h:s[k]?=some c):q4q (s.drop k) [x,y]=(decide (c=x)&&decide (s[k+1]?=some y)):=by
 rw[q1w h];simp only[q4q,Zaf,Zag,Zch];cases hd:s[k+1]? with
 |none=>
  rw[Zao (List.getElem?_eq_none_iff.1 hd)];simp
 |some d=>
  rw[q1w hd];simp
theorem j4u(nm:List UInt8)(x:Val)(acc:List Fld):setV nm x (dicV acc)=dicV (setF nm x acc):=rfl
theorem j5w{acc:List Fld}(h:acc.length≤1048576)(hm:∀y∈acc,y.sm 300=true):(dicV acc).sm 1048576=true:=
 Val.q1Q.2 ⟨by simp[dicV,Val.s],by simp[dicV,Val.l],h,by simp[dicV,Val.l],fun y hy=>by
  have:=hm y hy;obtain⟨h1,h2⟩:=Fld.q1Q.1 this;exact Fld.q1Q.2 ⟨by omega,Val.z2i (by omega) _ h2⟩⟩
def q3z:q0l:=
 .seq (.reg [⟨some 4,.allo [.int .i64 0,.int .i64 0,.str [],.list [],.list []],none⟩]) (.seq (.reg [Q 11 (.bld [(0,1),(1,1),(2,1),(3,1),(4,1)] [.int .i64 0,.int .i64 
 0,.str [],.list [],.list []] [false,false,false,true,true] [(0,.k (.d (.int .i64 6)))]),⟨some 5,.allo [.int .i64 0,.int .i64 0,.str [],.list [],.list []],none⟩, 
 ⟨none,.st 5 (.t 5) (.t 11),none⟩]) (.seq (.block 0 (.loop (.seq (.seq (.reg [Qc 12 0,Q 13 (.nck (.t 12)),Q 14 (.fa 2 (.t 13)),Q 15 (.ld false 1 (.t 14)),Q 16 (.eqN 0 false 
 (.t 15))]) (.cond (.t 16) .skip (.exit 0))) (.block 1 (.seq (.reg [Qc 17 0,⟨some 18,.prim .call [.k (.fn (.func 75) [] []),.t 17] [],none⟩,Qa 6 18]) (.seq (.seq (.reg [Qc 19 
 0,⟨some 20,.prim .call [.k (.fn (.func 79) [] []),.t 19,.k (.d (.str [62,62]))] [],none⟩]) (.cond (.t 20) (.exit 0) .skip)) (.seq (.seq (.reg [Qc 21 0,Q 22 (.nck (.t 21)), 
 Q 23 (.fa 2 (.t 22)),Q 24 (.ld false 1 (.t 23)),Q 25 (.eqN 0 false (.t 24)),Qc 26 25,Qd 27 6 26 true,Qg 28 (.bin .neq (.t 27) (Kb 47)) 26 true,Q 29 (.pick (.t 26) (.t 28) 
 KF)]) (.cond (.t 29) (.reg [Qc 30 0,Q 31 (.mkI 49 (Ki 4)),⟨some 32,.prim .call [.k (.fn (.func 51) [] []),.t 30,.t 31] [],none⟩]) .skip)) (.seq (.seq (.reg [Qc 33 0,Q 34 
 (.nck (.t 33)),Q 35 (.fa 2 (.t 34)),Q 36 (.ld false 1 (.t 35)),Q 37 (.eqN 0 true (.t 36))]) (.cond (.t 37) (.exit 0) .skip)) (.seq (.reg [Qc 38 0,⟨some 39,.prim .call [.k 
 (.fn (.func 76) [] []),.t 38] [],none⟩,Qa 7 39]) (.seq (.reg [Qc 40 0,Qc 41 1,Q 42 (.bin .add (.t 41) (Ki 1)),⟨some 43,.prim .call [.k (.fn (.func 50) [] []),.t 40,.t 
 42] [],none⟩,⟨some 8,.allo [.int .i64 0,.int .i64 0,.str [],.list [],.list []],none⟩,⟨none,.st 5 (.t 8) (.t 43),none⟩]) (.seq (.reg [Q 45 (.ld true 5 (.t 5)),Qc 46 7, 
 ⟨some 47,.call 20 [.t 45,.t 46],none⟩,Qc 44 47,Q 48 (.ext 0 (.t 44)),Q 49 (.ext 1 (.t 44)),⟨some 9,.allo [.int .i64 0,.int .i64 0,.str [],.list [],.list []],none⟩, 
 ⟨none,.st 5 (.t 9) (.t 48),none⟩,Qa 10 49]) (.seq (.seq (.reg [Qc 50 10]) (.cond (.t 50) (.reg [Qc 51 0,Q 52 (.mkI 49 (Ki 3)),⟨some 53,.prim .call [.k (.fn (.func 51) [] 
 []),.t 51,.t 52] [],none⟩]) .skip)) (.seq (.seq (.reg [Qc 54 0,Q 55 (.nck (.t 54)),Q 56 (.fa 2 (.t 55)),Q 57 (.ld false 1 (.t 56)),Q 58 (.eqN 0 false (.t 57))]) (.cond (.t 
 58) (.reg [Q 59 (.ld true 5 (.t 5)),Qc 60 7,Q 61 (.ld true 5 (.t 8)),⟨some 62,.call 22 [.t 59,.t 60,.t 61],none⟩,⟨none,.st 5 (.t 5) (.t 62),none⟩]) .skip)) (.seq (.reg 
 [Q 63 (.fa 4 (.t 5)),Q 64 (.ld false 1 (.t 63)),Q 65 (.len false (.t 64)),Q 66 (.bin .gtr (.t 65) (Ki 300))]) (.cond (.t 66) (.reg [Qc 67 0,Q 68 (.mkI 49 (Ki 2)),⟨some 69, 
 .prim .call [.k (.fn (.func 51) [] []),.t 67,.t 68] [],none⟩]) .skip))))))))))))))) (.seq (.reg [Q 70 (.ld true 5 (.t 5)),⟨none,.st 5 (.t 4) (.t 70),none⟩]) .ret)))
def q3G:List LRes:=[.cell 4 true 5]
theorem q5v:q0E Tryz.prog 80 71 q3z q3G:=⟨_,_,Tryz.func80,rfl,by kernel_rfl,by kernel_rfl,rfl⟩
theorem j3g(s:List UInt8)(hs:s.length≤60000)(rd:Nat→RV)(deep:Int)(hd:0≤deep∧deep≤8)(hg:∀k,k≤s.length→z62 s k (rd k))(ih:RdAt s rd (deep+1))(k:Nat)(hk:k≤s.length):
  q42 Tryz.prog 80 [.ptr (.x 0) 0,.d (.int .i64 deep)] [robj s k 0] (z0v s (q4L rd s 301 [] k)):=by
 generalize hR:q4L rd s 301 [] k=R;rw[q0v];refine q5v.q0G (by kernel_rfl) rfl ?_;simp(disch:=omega)only[go_sem,↓reduceIte,q3z,q3G];refine q0n (fun y:Nat×List Fld×Option (Int×Nat)=>⟨[(0,.ptr (.x 0) 0),(1,.d (.int .i64 deep)),(4,.ptr (.l 4) 0),(5,.ptr (.l 5) 0)],
   [(4,.cells [.d (.int .i64 0),.d (.int .i64 0),.d (.str []),.ns,.ns]),(5,dobj y.2.1)],[(0,ro s y.1 y.2.2)]⟩)
  (fun y=>y.1≤s.length∧y.2.1.length≤301∧srt y.2.1∧(∀z∈y.2.1,z.sm 300=true)∧(y.2.2=none→y.2.1.length≤300∧q4L rd s (301-y.2.1.length) y.2.1 y.1=R)∧∀k e,y.2.2=some (k,e)→e≠0∧R=.bad e) (fun y=>2*(s.length-y.1)+(if y.2.2.isNone=true then 1 else 0)) (k,[],none) ?_ ?_ ?_
 ·refine Weak.mk ?_ ?_ ?_<;>simp only[go_sem,↓reduceIte,Sub,Zab,Zac,dobj,ro]
 ·exact⟨hk,by simp,z7H,by simp,fun _=>⟨by simp,hR⟩,fun _ _ h=>by cases h⟩
 ·rintro⟨i,acc,o⟩ ⟨hi,ha,hsrt,hsm,hF,hE⟩;simp only at hi ha hsrt hsm hF hE;have hal:=q0R acc;have dd:(dicV acc).d=D.agg [.int .i64 6,.int .i64 0,.str [],.list [],.list (q0k acc)]:=by rw[Val.d_eq];rfl
  have hcs:(dobj acc=.cells [.d (.int .i64 6),.d (.int .i64 0),.d (.str []),.ns,.ns]∧q0k acc=[])∨dobj acc=.cells [.d (.int .i64 6),.d (.int .i64 0),.d (.str []),.d (.list []),.d (.list (q0k acc))]:=by
   rcases z9k acc with⟨h,rfl⟩|h
   ·exact .inl ⟨h,rfl⟩
   ·exact .inr h
  have hget:=fun nm=>q5I (dicV acc) nm (by show acc.length≤_;omega)
  have hset:=fun nm x hx=>j2v (dicV acc) x nm hsrt (j5w (by omega) hsm) hx
  simp only[dd]at hget hset;have inv:∀(k':Int) (e:Nat),e≠0→R=.bad e→i≤s.length∧acc.length≤301∧srt acc∧(∀z∈acc,z.sm 300=true)∧(some (k',e)=none→acc.length≤300∧q4L rd s (301-acc.length) acc i=R)∧∀k e',some (k',e)=some (k,e')→e'≠0∧R=.bad e':=fun k' e e0 he=>
   ⟨hi,ha,hsrt,hsm,fun h=>(by cases h),fun k e' h=>by cases h;exact⟨e0,he⟩⟩
  cases o with
  |some p=>
   obtain⟨k',e⟩:=p;obtain⟨e0,rfl⟩:=hE k' e rfl;have fb:=q1j (s:=s) (R:=.bad e) (dicV acc) k' rfl;rw[dd,q1k s k' e0]at fb;simp only[ro];rw[q1k s k' e0];rcases hcs with⟨h1,h2⟩|h1<;>rw[h1];all_goals
    simp only[go_sem,↓reduceIte];first
    |exact fb
    |(rw[h2]at fb;exact fb)
  |none=>
   obtain⟨ha',hF⟩:=hF rfl;have hlen:(300<(acc.length:Int))=False:=eq_false (by omega);obtain⟨m,hm⟩:∃m,301-acc.length=m+1:=⟨300-acc.length,by omega⟩;rw[hm,q4L]at hF;have hsk:=q2X hi;have hnx:=z8A s i hs hi;generalize q0o s i=q at *;simp only[ro];rw[q0v]at hnx;simp only[go_sem,↓reduceIte];refine q0b.mc1 (.x 0) rfl (hnx) rfl rfl rfl rfl ⟨rfl,rfl⟩ ?_;cases hc:s[q]? with
   |none=>
    rw[hc]at hF;simp only at hF;have het:=j05 s (q:Int) [62,62] (n:=5) (by decide);have fb:=q1j (s:=s) (R:=R) (dicV acc) (q:Int) hF.symm;rw[dd,q5V]at fb;rw[q5V]at het;simp only;rw[q5V];simp only[go_sem,↓reduceIte];refine q0b.mc1 (.x 0) rfl (het) rfl rfl rfl rfl ⟨rfl,rfl⟩ ?_;rcases hcs with⟨h1,h2⟩|h1<;>rw[h1];all_goals
     simp only[go_sem,↓reduceIte];first
     |exact fb
     |(rw[h2]at fb;exact fb)
   |some c=>
    have hc8:=q4f c;have hlt:q<s.length:=(Zaa.1 hc).1;rw[hc]at hF;simp only at hF;simp only;rw[q0v];simp only[go_sem,↓reduceIte];have het:=j3k s q [62,62] hs (by omega) (by simp);rw[z3k hc]at het
    by_cases c62:c.toNat=62∧s[q+1]?=some 62
    ·have e62:c=62:=UInt8.toNat_inj.1 (by have:(62:UInt8).toNat=62:=rfl;omega);rw[if_pos c62]at hF;have hb:(decide (c=62)&&decide (s[q+1]?=some 62))=true:=by simp[e62,c62.2]
     rw[hb,if_pos rfl,q0v,q0v]at het;have fb:=q5U (s:=s) hF.symm;rw[dd,q0v]at fb;refine q0b.mc1 (.x 0) rfl (het) rfl rfl rfl rfl ⟨rfl,rfl⟩ ?_;rcases hcs with⟨h1,h3⟩|h1<;>rw[h1];all_goals
      simp only[go_sem,↓reduceIte];first
      |exact fb
      |(rw[h3]at fb;exact fb)
    ·rw[if_neg c62]at hF;have hb:(decide (c=62)&&decide (s[q+1]?=some 62))=false:=by
      by_cases e62:c=62
      ·have:¬s[q+1]?=some 62:=fun h=>c62 ⟨by rw[e62];rfl,h⟩
       simp[this]
      ·simp[e62]
     rw[hb,if_neg (by decide),q0v]at het;refine q0b.mc1 (.x 0) rfl (het) rfl rfl rfl rfl ⟨rfl,rfl⟩ ?_;simp only[go_sem,↓reduceIte];refine⟨fun h47=>?_,fun h47=>?_⟩
     ·rw[if_pos (by omega)]at hF;have hf:=q5f s (q:Int) 4;rw[q0v,q7M,q7m.2.2.1]at hf;have fb:=q1j (s:=s) (R:=R) (dicV acc) (q:Int) hF.symm;rw[dd,q7M]at fb;refine q0b.mc1 (.x 0) rfl (hf) rfl rfl rfl rfl ⟨rfl,rfl⟩ ?_;rcases hcs with⟨h1,h3⟩|h1<;>rw[h1];all_goals
       simp only[go_sem,↓reduceIte];first
       |exact fb
       |(rw[h3]at fb;exact fb)
     ·rw[if_neg (by omega)]at hF;have hnm:=z5V s q hs hlt;rw[q0v]at hnm;refine q0b.mp1 (.x 0) rfl (hnm) rfl rfl rfl rfl (fun r hs' hr=>?_);cases hn:q2V s q with
      |none=>
       rw[hn]at hF hr;simp only at hF;obtain⟨b,k2,rfl,rfl⟩:=hr;refine⟨⟨rfl,rfl⟩,?_⟩;have hv:=j4L s k2 (deep+1) (n:=4) (by decide) hs;have hgt:=hget b;have eg:getR (getV b (dicV acc).f)=.tup [((getV b acc).getD zeroV).d,.bool (getV b acc).isSome]:=rfl;rw[eg]at hgt;generalize(getV b acc).getD zeroV=gv at hgt;generalize(getV b acc).isSome=gs at hgt;rw[Val.d_eq gv]at hgt;generalize(q0o s (q3M s k2):Int)=q2 at hv;have hf3:=q74 s q2 (n:=4) (by decide) (.iface 49 (.int .i64 3));rw[q7M]at hv hf3 ⊢;rw[q7M]at hv
       simp(disch:=omega)only[go_sem,↓reduceIte];refine q0b.mc1 (.x 0) rfl (hv) rfl rfl rfl rfl ⟨rfl,rfl⟩ ?_;have inv4:=inv q2 4 (by decide) hF.symm;rcases hcs with⟨h1,h3⟩|h1<;>rw[h1];all_goals
        try rw[h3]at hgt
        simp only[go_sem,↓reduceIte,zD];refine q0j.of hgt ?_;cases gs with
        |false=>
         simp only[go_sem,↓reduceIte,hal,hlen];refine⟨(i,acc,some (q2,4)),?_,inv4,by simp⟩;refine Weak.mk ?_ ?_ ?_<;>simp only[go_sem,↓reduceIte,Sub,Zab,Zac,h1,ro,q7M]
        |true=>
         simp only[go_sem,↓reduceIte];refine q0b.mc1 (.x 0) rfl (hf3) rfl rfl rfl rfl ⟨rfl,rfl⟩ ?_;simp only[go_sem,↓reduceIte,hal,hlen];refine⟨(i,acc,some (q2,4)),?_,inv4,by simp⟩;refine Weak.mk ?_ ?_ ?_<;>simp only[go_sem,↓reduceIte,Sub,Zab,Zac,h1,ro,q7M]
      |some p=>
       obtain⟨nm,kn⟩:=p;rw[hn]at hF hr;obtain⟨rfl,rfl⟩:=hr;refine⟨⟨rfl,rfl⟩,?_⟩;simp only at hF;obtain⟨n1,n2,n3,n4⟩:=q8f hlt hn;have hv:=ih kn n2;have hgq:=hg kn n2;have hgt:=hget nm;have eg:getR (getV nm (dicV acc).f)=.tup [((getV nm acc).getD zeroV).d,.bool (getV nm acc).isSome]:=rfl;rw[eg]at hgt;have hnone:=z1v (nm:=nm) (l:=acc);generalize(getV nm acc).getD zeroV=gv at hgt;generalize(getV nm acc).isSome=gs at hgt hF hnone;rw[Val.d_eq gv]at hgt;rw[q0v]at hv ⊢;simp(disch:=omega)only[go_sem,↓reduceIte]
       refine q0b.mp1 (.x 0) rfl (hv) rfl rfl rfl rfl (fun r hs' hr=>?_);cases hx:rd kn with
       |bad e=>
        rw[hx]at hF hr hgq;obtain⟨x,k',rfl,rfl⟩:=hr;obtain⟨g1,_⟩:=hgq;have e0:e≠0:=by omega
        refine⟨⟨rfl,rfl⟩,?_⟩;have hf3:=q74 s k' e0 (.iface 49 (.int .i64 3));rw[Val.d_eq x];rw[q1k s k' e0]at hf3 ⊢;have inv4:=inv k' e e0 hF.symm;rcases hcs with⟨h1,h3⟩|h1<;>rw[h1];all_goals
         try rw[h3]at hgt
         simp only[go_sem,↓reduceIte];refine q0j.of hgt ?_;cases gs with
         |false=>
          simp only[go_sem,↓reduceIte,hal,hlen];refine⟨(i,acc,some (k',e)),?_,inv4,by simp⟩;refine Weak.mk ?_ ?_ ?_<;>simp only[go_sem,↓reduceIte,Sub,Zab,Zac,h1,ro,q1k s k' e0]
         |true=>
          simp only[go_sem,↓reduceIte];refine q0b.mc1 (.x 0) rfl (hf3) rfl rfl rfl rfl ⟨rfl,rfl⟩ ?_;simp only[go_sem,↓reduceIte,hal,hlen];refine⟨(i,acc,some (k',e)),?_,inv4,by simp⟩;refine Weak.mk ?_ ?_ ?_<;>simp only[go_sem,↓reduceIte,Sub,Zab,Zac,h1,ro,q1k s k' e0]
       |ok x k'=>
        rw[hx]at hF hr hgq;obtain⟨rfl,rfl⟩:=hr;obtain⟨g1,g2,g3,g4⟩:=hgq;refine⟨⟨rfl,rfl⟩,?_⟩;simp only at hF;have hf3:=q5f s (k':Int) 3;have hf2:=q5f s (k':Int) 2;rw[q0v,j46,q7m.2.1]at hf3;rw[q0v,q7L,q7m.1]at hf2;have hst:=hset nm x (Val.z2i (by omega) x g3);rw[j4u]at hst;rw[show(dicV (setF nm x acc)).d=.agg [.int .i64 6,.int .i64 0,.str [],.list [],.list (q0k (setF nm x acc))] by rw[Val.d_eq];rfl,Val.d_eq x]at hst;rw[Val.d_eq x,q0v];cases gs with
        |true=>
         rw[if_pos rfl]at hF;have inv4:=inv (k':Int) 3 (by decide) hF.symm;rcases hcs with⟨h1,h3⟩|h1<;>rw[h1];all_goals
          try rw[h3]at hgt
          simp only[go_sem,↓reduceIte];refine q0j.of hgt ?_;simp only[go_sem,↓reduceIte];refine q0b.mc1 (.x 0) rfl (hf3) rfl rfl rfl rfl ⟨rfl,rfl⟩ ?_;simp only[go_sem,↓reduceIte,hal,hlen];refine⟨(i,acc,some ((k':Int),3)),?_,inv4,by simp⟩;refine Weak.mk ?_ ?_ ?_<;>simp only[go_sem,↓reduceIte,Sub,Zab,Zac,h1,ro,j46]
        |false=>
         rw[if_neg (by decide)]at hF;have hno:=hnone rfl;obtain⟨p1,p2⟩:=z4E (x:=x) hno;have hsl:=q0R (setF nm x acc);have hob:=j5y (j58 nm x acc hno);have hsm2:∀z∈setF nm x acc,z.sm 300=true:=fun z hz=>by
          rcases z4D hz with rfl|hz
          ·exact Fld.q1Q.2 ⟨by simp only[Fld.name];omega,g3⟩
          ·exact hsm z hz
         have hsr2:=j2G (x:=x) hsrt hno;generalize setF nm x acc=acc2 at *;have more:acc2.length≤300→k'≤s.length∧acc2.length≤301∧srt acc2∧(∀z∈acc2,z.sm 300=true)∧((none:Option (Int×Nat))=none→acc2.length≤300∧q4L rd s (301-acc2.length) acc2 k'=R)∧∀k e',(none:Option (Int×Nat))=some (k,e')→e'≠0∧R=.bad e':=fun h=>
          ⟨g2,by omega,hsr2,hsm2,fun _=>⟨by omega,by rw[←hF];congr 1;omega⟩,fun _ _ h=>by cases h⟩
         have stop:¬acc2.length≤300→k'≤s.length∧acc2.length≤301∧srt acc2∧(∀z∈acc2,z.sm 300=true)∧(some ((k':Int),2)=none→acc2.length≤300∧q4L rd s (301-acc2.length) acc2 k'=R)∧∀k e',some ((k':Int),2)=some (k,e')→e'≠0∧R=.bad e':=fun h=>
          ⟨g2,by omega,hsr2,hsm2,fun h=>(by cases h),fun k e' h'=>by
           cases h';have hm0:m=0:=by omega
           rw[hm0,q4L]at hF;exact⟨by decide,hF.symm⟩⟩
         rcases hcs with⟨h1,h3⟩|h1<;>rw[h1];all_goals
          try rw[h3]at hgt hst
          simp only[go_sem,↓reduceIte];refine q0j.of hgt ?_;simp only[go_sem,↓reduceIte];refine q0j.of hst ?_;simp only[go_sem,↓reduceIte,hsl];refine⟨fun h5=>?_,fun h5=>?_⟩
          ·refine q0b.mc1 (.x 0) rfl (hf2) rfl rfl rfl rfl ⟨rfl,rfl⟩ ?_;simp only[go_sem,↓reduceIte];refine⟨(k',acc2,some ((k':Int),2)),?_,stop (by omega),by simp;omega⟩;refine Weak.mk ?_ ?_ ?_<;>simp only[go_sem,↓reduceIte,Sub,Zab,Zac,hob,ro,q7L]
          ·refine⟨(k',acc2,none),?_,more (by omega),by simp;omega⟩;refine Weak.mk ?_ ?_ ?_<;>simp only[go_sem,↓reduceIte,Sub,Zab,Zac,hob,ro]
theorem z2t:zeroV.d=.agg [.int .i64 0,.int .i64 0,.str [],.list [],.list []]:=by rw[Val.d_eq];rfl
theorem q9S{s:List UInt8}{R:RV}{r:AV}{hs:List AObj}(h:z0v s R r hs):∃(v:Val) (k:Int) (e:Nat),r=.d (.agg [.int .i64 v.kind,.int .i64 v.n,.str v.s,.list (q0u v.l),.list (q0k v.f)])∧hs=[.cells [.d (.str s),.d (.int .i64 k),.d (errD e)]]:=by
 cases R with
 |ok v k=>obtain⟨rfl,rfl⟩:=h;exact⟨v,k,0,by rw[Val.d_eq],rfl⟩
 |bad e=>obtain⟨v,k,rfl,rfl⟩:=h;exact⟨v,k,e,by rw[Val.d_eq],rfl⟩
theorem z7Q(s:List UInt8)(hs:s.length≤60000):∀(d:Nat),d≤8→RdAt s (q19 d s) (9-(d:Int)):=by
 intro d;induction d with
 |zero=>
  intro _ k hk;generalize hR:q19 0 s k=R;rw[q19]at hR;have hnx:=z8A s k hs hk;generalize q0o s k=q at *;rw[q0v]at hnx ⊢;refine q1G.q0G (by kernel_rfl) rfl ?_;simp only[go_sem,↓reduceIte,q1u,q1v];refine q0b.mc1 (.x 0) rfl (hnx) rfl rfl rfl rfl ⟨rfl,rfl⟩ ?_;cases hc:s[q]? with
  |none=>
   rw[hc]at hR;have hf:=q74 s (q:Int) (n:=5) (by decide) (.iface 49 (.int .i64 2));have fb:=q1j (s:=s) zeroV (q:Int) hR.symm;rw[z2t,q5V]at fb;rw[q5V]at hf;simp only;rw[q5V];simp only[go_sem,↓reduceIte];refine q0b.mc1 (.x 0) rfl (hf) rfl rfl rfl rfl ⟨rfl,rfl⟩ ?_;simp only[go_sem,↓reduceIte];exact fb
  |some c=>
   rw[hc]at hR;have hf:=q5f s (q:Int) 2;have fb:=q1j (s:=s) zeroV (q:Int) hR.symm;rw[z2t,q7L]at fb;rw[q0v,q7L,q7m.1]at hf;simp only;rw[q0v];simp only[go_sem,↓reduceIte];refine q0b.mc1 (.x 0) rfl (hf) rfl rfl rfl rfl ⟨rfl,rfl⟩ ?_;simp only[go_sem,↓reduceIte];exact fb
 |succ d ihd=>
  intro hd k hk;generalize hR:q19 (d+1) s k=R;rw[q19]at hR;have hsk:=q2X hk;have hnx:=z8A s k hs hk;generalize q0o s k=q at *;have ih:=ihd (by omega);obtain⟨deep,hde⟩:∃deep:Int,9-((d+1:Nat):Int)=deep:=⟨_,rfl⟩;have e1:9-(d:Int)=deep+1:=by omega
  have hdeep:0≤deep∧deep≤8:=by omega
  rw[e1]at ih;rw[hde];clear hde e1;have hg:=fun k hk=>q9T s d k hk
  rw[q0v]at hnx ⊢;refine q1G.q0G (by kernel_rfl) rfl ?_;simp only[go_sem,↓reduceIte,q1u,q1v];refine q0b.mc1 (.x 0) rfl (hnx) rfl rfl rfl rfl ⟨rfl,rfl⟩ ?_;have hd8:(8<deep)=False:=eq_false (by omega);cases hc:s[q]? with
  |none=>
   rw[hc]at hR;have fb:=q1j (s:=s) zeroV (q:Int) hR.symm;rw[z2t,q5V]at fb;simp only;rw[q5V];simp only[go_sem,↓reduceIte,hd8];exact fb
  |some c=>
   have hc8:=q4f c;have hlt:q<s.length:=(Zaa.1 hc).1;rw[hc]at hR;simp only at hR;simp only;rw[q0v];simp only[go_sem,↓reduceIte,hd8];refine⟨fun h47=>?_,fun h47=>⟨fun h40=>?_,fun h40=>?_⟩⟩
   ·rw[if_pos (by omega)]at hR;have hnm:=z5V s q hs hlt;rw[q0v]at hnm;refine q0b.mp1 (.x 0) rfl (hnm) rfl rfl rfl rfl (fun r hs' hr=>?_);cases hn:q2V s q with
    |none=>
     rw[hn]at hR hr;obtain⟨b,k2,rfl,rfl⟩:=hr;refine⟨⟨rfl,rfl⟩,?_⟩;have fb:=q1j (s:=s) (namV b) k2 hR.symm;rw[namV,kmk,q7M]at fb;rw[q7M];simp only[go_sem,↓reduceIte];exact fb
    |some p=>
     obtain⟨b,kn⟩:=p;rw[hn]at hR hr;obtain⟨rfl,rfl⟩:=hr;refine⟨⟨rfl,rfl⟩,?_⟩;have fb:=q5U (s:=s) hR.symm;rw[namV,kmk,q0v]at fb;rw[q0v];simp only[go_sem,↓reduceIte];exact fb
   ·rw[if_neg (by omega),if_pos (by omega)]at hR;have hl:=j1K s q hs hlt;rw[q0v]at hl;unfold z4h at hR;refine q0b.mp1 (.x 0) rfl (hl) rfl rfl rfl rfl (fun r hs' hr=>?_);cases hx:litF 0 1 (s.drop (q+1)) [] (q+1)with
    |none=>
     rw[hx]at hR hr;obtain⟨k2,rfl,rfl⟩:=hr;refine⟨⟨rfl,rfl⟩,?_⟩;have fb:=q1j (s:=s) (strV []) k2 hR.symm;have hst:=j48 s k2 [] (n:=5) (by decide);rw[strV,kmk,q5V]at fb hst;rw[q5V];simp only[go_sem,↓reduceIte];refine q0b.mc1 (.x 0) rfl (hst) rfl rfl rfl rfl ⟨rfl,rfl⟩ ?_;simp only[go_sem,↓reduceIte];exact fb
    |some p=>
     obtain⟨b,kn⟩:=p;rw[hx]at hR hr;obtain⟨rfl,rfl⟩:=hr;refine⟨⟨rfl,rfl⟩,?_⟩;simp only at hR;have hst:=j69 s (kn:Int) b;rw[strV,kmk,q0v]at hst;rw[q0v];simp only[go_sem,↓reduceIte];refine q0b.mc1 (.x 0) rfl (hst) rfl rfl rfl rfl ⟨rfl,rfl⟩ ?_
     by_cases hb:b.length≤200
     ·rw[if_pos hb]at hR ⊢;have fb:=q5U (s:=s) hR.symm;rw[strV,kmk,q0v]at fb;rw[q0v];simp only[go_sem,↓reduceIte];exact fb
     ·rw[if_neg hb]at hR ⊢;have fb:=q1j (s:=s) (strV b) (kn:Int) hR.symm;rw[strV,kmk,q7L]at fb;rw[q7L];simp only[go_sem,↓reduceIte];exact fb
   ·rw[if_neg (by omega),if_neg (by omega)]at hR;have het:=j3k s q [60,60] hs (by omega) (by simp);rw[z3k hc]at het
    by_cases cd:c.toNat=60∧s[q+1]?=some 60
    ·have e60:c=60:=UInt8.toNat_inj.1 (by have:(60:UInt8).toNat=60:=rfl;omega);have hq2:=(Zaa.1 cd.2).1;rw[if_pos cd]at hR;have hb:(decide (c=60)&&decide (s[q+1]?=some 60))=true:=by simp[e60,cd.2]
     have e2:(q:Int)+(([60,60]:List UInt8).length:Int)=((q+2:Nat):Int):=by simp
     rw[hb,if_pos rfl,e2,q0v,q0v]at het;refine q0b.mc1 (.x 0) rfl (het) rfl rfl rfl rfl ⟨rfl,rfl⟩ ?_;have hdc:=j3g s hs (q19 d s) deep hdeep hg ih (q+2) (by omega);rw[hR,q0v]at hdc;simp only[go_sem,↓reduceIte];refine q0b.mp1 (.x 0) rfl (hdc) rfl rfl rfl rfl (fun r hs' hr=>?_);obtain⟨v,k2,e,rfl,rfl⟩:=q9S hr;refine⟨⟨rfl,rfl⟩,?_⟩;simp only[go_sem,↓reduceIte];exact hr
    ·have hb:(decide (c=60)&&decide (s[q+1]?=some 60))=false:=by
      by_cases e60:c=60
      ·have:¬s[q+1]?=some 60:=fun h=>cd ⟨by rw[e60];rfl,h⟩
       simp[this]
      ·simp[e60]
     rw[if_neg cd]at hR;rw[hb,if_neg (by decide),q0v]at het;refine q0b.mc1 (.x 0) rfl (het) rfl rfl rfl rfl ⟨rfl,rfl⟩ ?_;simp only[go_sem,↓reduceIte];refine⟨fun h60=>?_,fun h60=>?_⟩
     ·rw[if_pos (by omega)]at hR;have hx:=z9B s q hs hlt;rw[q0v]at hx;unfold z65 at hR;have hcode:=q4Y (s.drop (q+1)) (-1) [];refine q0b.mp1 (.x 0) rfl (hx) rfl rfl rfl rfl (fun r hs' hr=>?_);generalize q2O (s.drop (q+1)) (-1) []=U at hR hcode hr;obtain⟨ub,uc⟩:=U;simp only at hR hcode hr;obtain⟨rfl,k2,rfl,hk2⟩:=hr;refine⟨⟨rfl,rfl⟩,?_⟩
      by_cases u0:uc=0
      ·subst u0;rw[if_pos rfl]at hR;rw[hk2 rfl];have hst:=j69 s ((q+1+q9C (s.drop (q+1)):Nat):Int) ub;rw[strV,kmk,q0v]at hst;rw[q0v];simp only[go_sem,↓reduceIte];refine q0b.mc1 (.x 0) rfl (hst) rfl rfl rfl rfl ⟨rfl,rfl⟩ ?_
       by_cases hb2:ub.length≤200
       ·rw[if_pos hb2]at hR ⊢;have fb:=q5U (s:=s) hR.symm;rw[strV,kmk,q0v]at fb;rw[q0v];simp only[go_sem,↓reduceIte];exact fb
       ·rw[if_neg hb2]at hR ⊢;have fb:=q1j (s:=s) (strV ub) ((q+1+q9C (s.drop (q+1)):Nat):Int) hR.symm;rw[strV,kmk,q7L]at fb;rw[q7L];simp only[go_sem,↓reduceIte];exact fb
      ·rw[if_neg u0]at hR;have fb:=q1j (s:=s) (strV ub) k2 hR.symm;have hst:=j48 s k2 ub u0;rw[strV,kmk,q1k s k2 u0]at fb hst;rw[q1k s k2 u0];simp only[go_sem,↓reduceIte];refine q0b.mc1 (.x 0) rfl (hst) rfl rfl rfl rfl ⟨rfl,rfl⟩ ?_;simp only[go_sem,↓reduceIte];exact fb
     ·rw[if_neg (by omega)]at hR;have het2:=j3k s q [91] hs (by omega) (by simp);rw[z3j hc]at het2
      by_cases h91:c.toNat=91
      ·rw[if_pos h91]at hR;have e91:c=91:=UInt8.toNat_inj.1 (by have:(91:UInt8).toNat=91:=rfl;omega);have e2:(q:Int)+(([91]:List UInt8).length:Int)=((q+1:Nat):Int):=by simp
       rw[decide_eq_true e91,if_pos rfl,e2,q0v,q0v]at het2;refine q0b.mc1 (.x 0) rfl (het2) rfl rfl rfl rfl ⟨rfl,rfl⟩ ?_;have hls:=j3S s hs (q19 d s) deep hdeep hg ih (q+1) (by omega);rw[hR,q0v]at hls;simp only[go_sem,↓reduceIte];refine q0b.mp1 (.x 0) rfl (hls) rfl rfl rfl rfl (fun r hs' hr=>?_);obtain⟨v,k2,e,rfl,rfl⟩:=q9S hr;refine⟨⟨rfl,rfl⟩,?_⟩;simp only[go_sem,↓reduceIte];exact hr
      ·rw[if_neg h91]at hR;have e91:¬c=91:=fun e=>h91 (by rw[e];rfl)
       rw[decide_eq_false e91,if_neg (by decide),q0v]at het2;refine q0b.mc1 (.x 0) rfl (het2) rfl rfl rfl rfl ⟨rfl,rfl⟩ ?_;simp only[go_sem,↓reduceIte];refine q0j.of (z6l c) ?_;simp only[go_sem,↓reduceIte];refine⟨fun hs1=>?_,fun hs1=>?_⟩
       ·rw[if_pos hs1]at hR;have hf:=q5f s (q:Int) 4;have fb:=q1j (s:=s) zeroV (q:Int) hR.symm;rw[z2t,q7M]at fb;rw[q0v,q7M,q7m.2.2.1]at hf;refine q0b.mc1 (.x 0) rfl (hf) rfl rfl rfl rfl ⟨rfl,rfl⟩ ?_;simp only[go_sem,↓reduceIte];exact fb
       ·rw[if_neg (by simp[hs1])]at hR;have hwv:=j0e s q hs (by omega);rw[hR,q0v]at hwv;refine q0b.mp1 (.x 0) rfl (hwv) rfl rfl rfl rfl (fun r hs' hr=>?_);obtain⟨v,k2,e,rfl,rfl⟩:=q9S hr;refine⟨⟨rfl,rfl⟩,?_⟩;simp only[go_sem,↓reduceIte];exact hr
def topP:RV→Res
 |.ok v k=>.tup [v.d,.int .i64 k,.nil]
 |.bad e=>.tup [zeroV.d,.int .i64 0,errD e]
def q8u:q0l:=
 .seq (.reg [⟨some 4,.allo [.int .i64 0,.int .i64 0,.str [],.list [],.list []],none⟩,Qx 5 (Ki 0),Qx 6 (.k (.d .nil))]) (.seq (.seq (.reg [Qc 9 0,Q 10 (.len true (.t 9)),Q 
 11 (.bin .gtr (.t 10) (Ki 60000)),Qc 12 11,Qd 13 1 12 false,Qg 14 (.bin .lss (.t 13) (Ki 0)) 12 false,Q 15 (.pick (.t 12) KT (.t 14)),Qc 16 15,Qd 17 1 16 false,Qd 18 0 16 
 false,Qg 19 (.len true (.t 18)) 16 false,Qg 20 (.bin .gtr (.t 17) (.t 19)) 16 false,Q 21 (.pick (.t 16) KT (.t 20))]) (.cond (.t 21) (.seq (.reg [Q 22 (.bld [(0,1),(1,1), 
 (2,1),(3,1),(4,1)] [.int .i64 0,.int .i64 0,.str [],.list [],.list []] [] []),Q 23 (.mkI 49 (Ki 1)),⟨none,.st 5 (.t 4) (.t 22),none⟩,Qx 5 (Ki 0),Qa 6 23]) .ret) 
 .skip)) (.seq (.reg [Qc 24 0,Qc 25 1,Q 26 (.bld [(0,1),(1,1),(2,1)] [.str [],.int .i64 0,.nil] [] [(0,.t 24),(1,.t 25)]),⟨some 27,.box (.t 26),none⟩,Qa 7 27]) 
 (.seq (.reg [Qc 28 7,⟨some 29,.prim .call [.k (.fn (.func 50) [] []),.t 28,.k (.d (.int .i64 1))] [],none⟩,⟨some 8,.allo [.int .i64 0,.int .i64 0,.str [],.list [], 
 .list []],none⟩,⟨none,.st 5 (.t 8) (.t 29),none⟩]) (.seq (.seq (.reg [Qc 30 7,Q 31 (.nck (.t 30)),Q 32 (.fa 2 (.t 31)),Q 33 (.ld false 1 (.t 32)),Q 34 (.eqN 0 false (.t 
 33))]) (.cond (.t 34) (.reg [Qc 35 7,Q 36 (.ld true 5 (.t 8)),⟨some 37,.call 52 [.t 36],none⟩,⟨some 38,.prim .call [.k (.fn (.func 51) [] []),.t 35,.t 37] [],none⟩]) 
 .skip)) (.seq (.seq (.reg [Qc 39 7,Q 40 (.nck (.t 39)),Q 41 (.fa 2 (.t 40)),Q 42 (.ld false 1 (.t 41)),Q 43 (.eqN 0 true (.t 42))]) (.cond (.t 43) (.seq (.dreg [Q 44 (.bld 
 [(0,1),(1,1),(2,1),(3,1),(4,1)] [.int .i64 0,.int .i64 0,.str [],.list [],.list []] [] []),Qc 45 7,Q 46 (.nck (.t 45)),Q 47 (.fa 2 (.t 46)),Q 48 (.ld false 1 (.t 
 47)),⟨none,.stC 5 (.t 4) (.t 44) [(45,.cp (.t 7)),(46,.nck (.t 45)),(47,.fa 2 (.t 46)),(48,.ld false 1 (.t 47))],none⟩,Q 5 (.cp (Ki 0)),Qc 6 48]) .ret) .skip)) (.seq 
 (.dreg [Q 49 (.ld true 5 (.t 8)),Qc 50 7,Q 51 (.nck (.t 50)),Q 52 (.fa 1 (.t 51)),Q 53 (.ld false 1 (.t 52)),⟨none,.stC 5 (.t 4) (.t 49) [(50,.cp (.t 7)),(51,.nck (.t 
 50)),(52,.fa 1 (.t 51)),(53,.ld false 1 (.t 52))],none⟩,Qc 5 53,Q 6 (.cp (.k (.d .nil)))]) .ret))))))
def q8C:List LRes:=[.cell 4 true 5,.tmp 5,.tmp 6]
theorem z0E:q0E Tryz.prog 27 54 q8u q8C:=⟨_,_,Tryz.func27,rfl,by kernel_rfl,by kernel_rfl,rfl⟩
theorem q9p(s:List UInt8)(k:Int)(hs:s.length≤1000000000):q0y Tryz.prog 27 [.str s,.int .i64 k] (fun r=>r=topP (z6B s k)):=by
 refine z0E.call rfl ?_;generalize hR:z6B s k=R;unfold z6B at hR;simp only[go_sem,↓reduceIte,q8u,q8C];have bad:∀(e:Nat),R=.bad e→Res.tup [.agg [.int .i64 0,.int .i64 0,.str [],.list [],.list []],.int .i64 0,errD e]=topP R:=fun e he=>by
  rw[he,topP,z2t]
 have b1:=bad 1;rw[q2P (by decide)]at b1;refine⟨fun h1=>⟨fun h2=>⟨fun h3=>?_,fun h3=>?_⟩,fun h2=>?_⟩,fun h1=>?_⟩
 ·rw[if_pos (by omega)]at hR;exact b1 hR.symm
 ·rw[if_neg (by omega)]at hR;obtain⟨q,rfl⟩:∃q:Nat,k=q:=⟨k.toNat,by omega⟩;rw[Zcn]at hR;have hc:=z7Q s (by omega) 8 (by omega) q (by omega);have hg:=q9T s 8 q (by omega);rw[q0v]at hc;refine q0b.mp1 (.l 27) rfl (hc) rfl rfl rfl rfl (fun r hs' hr=>?_);cases hx:q19 8 s q with
  |bad e=>
   rw[hx]at hR hr hg;obtain⟨v,k2,rfl,rfl⟩:=hr;refine⟨⟨rfl,rfl⟩,?_⟩;have he:e≠0:=by obtain⟨g1,_⟩:=hg;omega
   rw[q1k s k2 he,Val.d_eq v];have b2:=bad e hR.symm;rw[q2P he]at b2;simp only[go_sem,↓reduceIte];exact b2
  |ok v n=>
   rw[hx]at hR hr hg;obtain⟨rfl,rfl⟩:=hr;refine⟨⟨rfl,rfl⟩,?_⟩;simp only at hR;obtain⟨g1,g2,g3,g4⟩:=hg;have hf:=z1f v (Val.z2i (by omega) v g3);have hfl:=q5f s (n:Int) (q2i v);rw[q0v]at hfl ⊢;rw[Val.d_eq v]at hf ⊢;simp only[go_sem,↓reduceIte];refine q0j.of hf ?_;simp only[go_sem,↓reduceIte];refine q0b.mc1 (.l 27) rfl (hfl) rfl rfl rfl rfl ⟨rfl,rfl⟩ ?_
   by_cases f0:q2i v=0
   ·rw[if_pos f0]at hR;rw[f0,q0v];simp only[go_sem,↓reduceIte];rw[←hR,topP,Val.d_eq]
   ·rw[if_neg f0]at hR;have b2:=bad _ hR.symm;rw[q2P f0]at b2;rw[q1k s n f0];simp only[go_sem,↓reduceIte];exact b2
 ·rw[if_pos (by omega)]at hR;exact b1 hR.symm
 ·rw[if_pos (by omega)]at hR;exact b1 hR.symm
def At(s:List UInt8)(k:Nat)(t:List UInt8):Prop:=∃p,s=p++t∧p.length=k
section
variable {s:List UInt8} {k:Nat}
theorem At.drop{t:List UInt8}(h:At s k t):s.drop k=t:=by
 obtain⟨p,rfl,rfl⟩:=h;rw[List.drop_append,Zao (by omega),Zav,Nat.sub_self,Zcm]
theorem At.len{t:List UInt8}(h:At s k t):k+t.length=s.length:=by
 obtain⟨p,rfl,rfl⟩:=h;rw[Zad]
theorem At.more{a b:List UInt8}(h:At s k (a++b)):At s (k+a.length) b:=by
 obtain⟨p,rfl,rfl⟩:=h;exact⟨p++a,by rw[List.append_assoc],Zad⟩
theorem At.get0{c:UInt8}{r:List UInt8}(h:At s k (c::r)):s[k]?=some c:=by
 obtain⟨p,rfl,rfl⟩:=h;rw[Zaj (Zai _),Nat.sub_self];rfl
def bl(b:List UInt8):Prop:=∀c∈b,c.toNat≠37∧q2b c.toNat=true
def nb(c:UInt8):Prop:=c.toNat≠37∧q2b c.toNat=false
theorem z8Y{c:UInt8}{r:List UInt8}(hc:nb c):∀{b:List UInt8} (k:Nat),bl b→q3W false (b++c::r) k=k+b.length
 |[],k,_=>by
  rw[Zav,q3W,if_neg (by simp),if_neg hc.1,if_neg (by rw[hc.2];simp)];rfl
 |x::b,k,h=>by
  have hx:=h x (by simp);rw[Zba,q3W,if_neg (by simp),if_neg hx.1,if_pos hx.2,z8Y hc (k+1) fun y hy=>h y (by simp[hy])];simp only[Zaf];omega
theorem At.skip{b:List UInt8}{c:UInt8}{r:List UInt8}(h:At s k (b++c::r))(hb:bl b)(hc:nb c):q0o s k=k+b.length:=by
 unfold q0o;rw[h.drop,z8Y hc k hb]
theorem At.j7z{c:UInt8}{r:List UInt8}(h:At s k (c::r))(hc:nb c):q0o s k=k:=At.skip (b:=[]) h (fun _ h=>by cases h) hc
theorem At.word{w p:List UInt8}(h:At s k (w++p))(hw:plW w)(hp:dl p):q08 s k=w:=by
 unfold q08;rw[h.drop,q1B hw hp]
theorem At.le{t:List UInt8}(h:At s k t):k≤s.length:=by have:=h.len;omega
theorem At.q1f{b:List UInt8}{c:UInt8}{r:List UInt8}(h:At s k (b++c::r))(hb:bl b)(hc:nb c)(hs:s.length≤1000000000):q0y Tryz.prog 25 [.str s,.int .i64 k] (fun x=>x=.one (.int .i64 ((k+b.length:Nat):Int))):=by
 have:=Go.Av.Tryz.q1f s k hs;rwa [q3X h.le,h.skip hb hc]at this
theorem At.q1g{w p:List UInt8}(h:At s k (w++p))(hw:plW w)(hp:dl p)(hs:s.length≤1000000000):q0y Tryz.prog 26 [.str s,.int .i64 k] (fun x=>x=.one (.str w)):=by
 have:=Go.Av.Tryz.q1g s k hs;rwa [q3X h.le,h.word hw hp]at this
theorem j2A{r:List UInt8}{c:UInt8}{t:List UInt8}(e:r=c::t)(hc:nb c)(h:q2a r≠[48]):q7x (10::r):=by
 unfold q7x rtP;have e1:q0o (10::r) 0=1:=by
  have:=At.skip (s:=10::r) (k:=0) (b:=[10]) (c:=c) (r:=t) ⟨[],by rw[e];rfl,rfl⟩ (fun x hx=>by
   rw[Zbe.1 hx];exact⟨by decide,by decide⟩) hc
  simpa using this
 have e2:q08 (10::r) 1=q2a r:=rfl;rw[e1,e2,if_neg h]
theorem At.value{b r:List UInt8}{c:UInt8}{v:Val}(h:At s k (b++(q0F v++c::r)))(hb:bl b)(hv:q2i v=0)(hp:dl (c::r))(hq:q7x (c::r))(hs:s.length≤60000):
  z6B s k=.ok v (k+b.length+(q0F v).length):=by
 have hf:=hv;rw[q8U]at hf;obtain⟨h1,h2⟩:=hf;obtain⟨x,t,hx,x1,x2,_⟩:=q7b h2;have hle:=h.le;have hk:q0o s k=q0o s (k+b.length):=by
  have hm:=h.more;rw[hx,Zba]at h hm;rw[h.skip hb ⟨x1,x2⟩,hm.j7z ⟨x1,x2⟩]
 unfold z6B;rw[if_neg (by omega)];have ht:=j6f _ v 8 (Zai _) h2 (by omega) (by omega) (c::r) hp hq;obtain⟨p,rfl,rfl⟩:=h;have e:q19 8 (p++(b++(q0F v++c::r))) ((p.length:Nat):Int).toNat=.ok v (p.length+b.length+(q0F v).length):=by
  rw[Zcn,z3B hk 8,←List.append_assoc];have:=z2f (p:=p++b) (s:=q0F v++c::r) 8 0;rw[Zad,Zck]at this;rw[this,ht];rfl
 rw[e];simp only;rw[if_pos hv]
/-! ### Digits -/
def dgt(c:UInt8):Prop:=48≤c.toNat∧c.toNat≤57
theorem q4j(m:Nat):∀c∈Lib.decDigits m,dgt c:=by
 induction m using Nat.strongRecOn with
 |_ m ih=>
  rw[Lib.decDigits];have one:∀k,k<10→dgt (UInt8.ofNat (48+k)):=fun k hk=>by unfold dgt;rw[q7c hk];omega
  by_cases h:m<10
  ·rw[dif_pos h];intro c hc;rw[Zbe.1 hc];exact one m h
  ·rw[dif_neg h];intro c hc;rcases Zau.1 hc with hc|hc
   ·exact ih (m / 10) (by omega) c hc
   ·rw[Zbe.1 hc];exact one _ (by omega)
theorem j0X{c:UInt8}(h:dgt c):digB c:=⟨by have:=h.1;omega,h.2,by have:=h.1;omega⟩
theorem j0Y{w:List UInt8}(h:∀c∈w,dgt c):plW w:=fun c hc=>z1h (j0X (h c hc))
theorem z5f{c:UInt8}(h:dgt c):nb c:=⟨by have:=h.1;omega,(z1h (j0X h)).1⟩
def decV:List UInt8→Nat→Nat
 |[],n=>n
 |c::r,n=>decV r (10*n+(c.toNat-48))
theorem z1g(c:UInt8):∀(a:List UInt8) (n:Nat),decV (a++[c]) n=10*decV a n+(c.toNat-48)
 |[],n=>rfl
 |x::a,n=>by rw[Zba,decV,z1g c a];rfl
theorem q8O(m:Nat):decV (Lib.decDigits m) 0=m:=by
 induction m using Nat.strongRecOn with
 |_ m ih=>
  rw[Lib.decDigits]
  by_cases h:m<10
  ·rw[dif_pos h,decV,decV,q7c h];omega
  ·rw[dif_neg h,z1g,ih (m / 10) (by omega),q7c (by omega)];omega
theorem j0T(z:Nat)(w:List UInt8):decV (List.replicate z 48++w) 0=decV w 0:=by
 induction z with
 |zero=>rfl
 |succ z ih=>rw[List.replicate_succ,Zba,decV];exact ih
theorem j0S:∀(w:List UInt8) (n:Nat),(∀c∈w,dgt c)→decV w n+1≤(n+1)*10 ^ w.length
 |[],n,_=>by simp[decV]
 |c::r,n,h=>by
  have h1:=j0S r (10*n+(c.toNat-48)) fun x hx=>h x (by simp[hx])
  have h2:=(h c (by simp)).2;rw[decV,Zaf,Nat.pow_succ];refine Zbw h1 ?_;rw[show(n+1)*(10 ^ r.length*10)=((n+1)*10)*10 ^ r.length by rw[Nat.mul_comm (10 ^ r.length),Nat.mul_assoc]];exact Zbx _ (by omega)
theorem z73{w:List UInt8}(h:∀c∈w,dgt c)(hl:w.length≤10):decV w 0≤10000000000:=by
 have h1:=j0S w 0 h;have h2:(10:Nat) ^ w.length≤10 ^ 10:=Nat.pow_le_pow_right (by omega) hl;omega
end
end Go.Av.Tryz
