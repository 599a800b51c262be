import Derived.Test.YtfkdhlghpjbbpaaGreatDoorWa
import Derived.Test.YtfkdhlghpjbbpaaGreatDoorWb
import Derived.Test.YtfkdhlghpjbbpaaGreatDoorAvI
set_option linter.unusedSimpArgs false
set_option maxRecDepth 100000
namespace Go.Av.Tryz
open Go.Proofs
def q9P:q0m:=
 .seq (.reg [Qx 2 KF]) (.seq (.reg [Qc 3 0,Q 4 (.bin .eql (.t 3) (Kb 0)),Qc 5 4,Qd 6 0 5 false,Qg 7 (.bin .eql (.t 6) (Kb 9)) 5 false,Q 8 (.pick (.t 5) KT (.t 7)),Qc 9 8,Qd 
 10 0 9 false,Qg 11 (.bin .eql (.t 10) (Kb 10)) 9 false,Q 12 (.pick (.t 9) KT (.t 11)),Qc 13 12,Qd 14 0 13 false,Qg 15 (.bin .eql (.t 14) (Kb 12)) 13 false,Q 16 (.pick (.t 
 13) KT (.t 15)),Qc 17 16,Qd 18 0 17 false,Qg 19 (.bin .eql (.t 18) (Kb 13)) 17 false,Q 20 (.pick (.t 17) KT (.t 19)),Qc 21 20,Qd 22 0 21 false,Qg 23 (.bin .eql (.t 22) (Kb 
 32)) 21 false,Q 24 (.pick (.t 21) KT (.t 23)),Qa 2 24]) .ret)
def q9U:List LRes:=[.tmp 2]
theorem z1Q:q0t Tryz.prog 60 25 q9P q9U:=⟨_,_,Tryz.func60,rfl,by kernel_rfl,by kernel_rfl,rfl⟩
def z2b:q0m:=
 .seq (.reg [Qx 2 (Ki 0)]) (.seq (.block 0 (.seq (.reg [Qc 4 0,Q 5 (.bin .geq (.t 4) (Kb 48)),Qc 6 5,Qd 7 0 6 true,Qg 8 (.bin .leq (.t 7) (Kb 57)) 6 true,Q 9 (.pick (.t 6) (.t 
 8) KF),Qa 3 9]) (.cond (.t 3) (.seq (.reg [Qc 10 0,Q 11 (.bin .sub (.t 10) (Kb 48)),Q 12 (.cvI .i64 (.t 11)),Qa 2 12]) .ret) (.seq (.reg [Qc 14 0,Q 15 (.bin .geq (.t 14) (Kb 
 97)),Qc 16 15,Qd 17 0 16 true,Qg 18 (.bin .leq (.t 17) (Kb 102)) 16 true,Q 19 (.pick (.t 16) (.t 18) KF),Qa 13 19]) (.cond (.t 13) (.seq (.reg [Qc 20 0,Q 21 (.bin .sub (.t 
 20) (Kb 97)),Q 22 (.cvI .i64 (.t 21)),Q 23 (.bin .add (.t 22) (Ki 10)),Qa 2 23]) .ret) (.seq (.reg [Qc 25 0,Q 26 (.bin .geq (.t 25) (Kb 65)),Qc 27 26,Qd 28 0 27 true,Qg 29 
 (.bin .leq (.t 28) (Kb 70)) 27 true,Q 30 (.pick (.t 27) (.t 29) KF),Qa 24 30]) (.cond (.t 24) (.seq (.reg [Qc 31 0,Q 32 (.bin .sub (.t 31) (Kb 65)),Q 33 (.cvI .i64 (.t 32)), 
 Q 34 (.bin .add (.t 33) (Ki 10)),Qa 2 34]) .ret) .skip))))))) (.seq (.reg [Qx 2 (Ki (-1))]) .ret))
def z2i:List LRes:=[.tmp 2]
theorem z3U:q0t Tryz.prog 107 35 z2b z2i:=⟨_,_,Tryz.func107,rfl,by kernel_rfl,by kernel_rfl,rfl⟩
def q91(n:Int):Bool:=decide (n=0) || (decide (n=9) || (decide (n=10) || (decide (n=12) || (decide (n=13) || decide (n=32)))))
def hexI(n:Int):Int:=if 48≤n∧n≤57 then n-48 else if 97≤n∧n≤102 then n-87 else if 65≤n∧n≤70 then n-55 else -1
theorem z39(n:Int):q0y Tryz.prog 60 [.int .u8 n] (fun r=>r=.one (.bool (q91 n))):=by
 refine z1Q.call rfl ?_;simp only[go_sem,↓reduceIte,q9P,q9U];unfold q91;simp +contextual
theorem z1W{n:Int}(h:0≤n∧n<256):q0y Tryz.prog 107 [.int .u8 n] (fun r=>r=.one (.int .i64 (hexI n))):=by
 refine z3U.call rfl ?_;simp only[go_sem,↓reduceIte,z2b,z2i];unfold hexI;repeat' (first|apply And.intro|intro _)
 all_goals
  congr 2
  try simp only[IntKind.wrap_i64,IntKind.wrap_u8]
  (repeat' split)<;>omega
def q67:List UInt8→Int→List UInt8→List UInt8×Nat
 |[],_,_=>([],5)
 |c::r,h,b=>
  if c.toNat=62 then(if 0≤h then b++[z1J (16*h)]else b,0)
  else if q91 c.toNat=true then q67 r h b
  else if hexI c.toNat<0 then([],4)
  else if h<0 then q67 r (hexI c.toNat) b
  else q67 r (-1) (b++[z1J (16*h+hexI c.toNat)])
theorem z2C(n:Int): -1≤hexI n∧hexI n≤15:=by
 unfold hexI;(repeat' split)<;>omega
def q3i:List UInt8:=[48,49,50,51,52,53,54,55,56,57,65,66,67,68,69,70]
theorem tabv:∀i:Fin 16,(q3i.getD i.val 0).toNat=if i.val<10 then 48+i.val else 55+i.val:=by decide
theorem j5z{i:Nat}(h:i<16):(q3i.getD i 0).toNat=if i<10 then 48+i else 55+i:=tabv ⟨i,h⟩
def q47:q0m:=
 .seq (.reg [Qx 2 (Ki 0)]) (.seq (.seq (.reg [Qc 4 0,Q 5 (.bin .geq (.t 4) (Kb 97)),Qc 6 5,Qd 7 0 6 true,Qg 8 (.bin .leq (.t 7) (Kb 102)) 6 true,Q 9 (.pick (.t 6) (.t 8) KF)]) 
 (.cond (.t 9) (.reg [Qc 10 0,Q 11 (.bin .sub (.t 10) (Kb 32)),Qa 0 11]) .skip)) (.seq (.seq (.reg [Qx 3 (Ki 0)]) (.block 0 (.loop (.seq (.seq (.reg [Qc 12 3,Q 13 (.bin .lss 
 (.t 12) (Ki 16))]) (.cond (.t 13) .skip (.exit 0))) (.seq (.block 1 (.seq (.reg [Qc 16 3,Q 17 (.idxS (.k (.d (.str [48,49,50,51,52,53,54,55,56,57,65,66,67,68,69, 
 70]))) (.t 16)),Qc 18 0,Q 19 (.bin .eql (.t 17) (.t 18))]) (.cond (.t 19) (.seq (.reg [Qc 20 3,Qa 2 20]) .ret) .skip))) (.reg [Qc 14 3,Q 15 (.bin .add (.t 14) (Ki 1)),Qa 3 
 15])))))) (.seq (.reg [Qx 2 (Ki (-1))]) .ret)))
def q5h:List LRes:=[.tmp 2]
theorem q7k:q0t Tryz.prog 121 21 q47 q5h:=⟨_,_,Tryz.func121,rfl,by kernel_rfl,by kernel_rfl,rfl⟩
theorem q8T(c:Nat)(h:c<256):q0y Tryz.prog 121 [.int .u8 c] (fun r=>r=.one (.int .i64 (hexI c))):=by
 refine q7k.call rfl ?_;have ht:([48,49,50,51,52,53,54,55,56,57,65,66,67,68,69,70]:List UInt8)=q3i:=rfl;have htl:q3i.length=16:=rfl;simp(disch:=omega)only[go_sem,↓reduceIte,q47,q5h];have fin:∀i d:Nat,i<16→d=(if 97≤c∧c≤102 then c-32 else c)→(q3i.getD i 0).toNat=d→hexI c=i:=fun i d hi hd ht=>by
  rw[j5z hi]at ht;unfold hexI;subst hd
  (repeat' split at ht)<;>(repeat' split)<;>omega
 have fin2:∀d:Nat,d=(if 97≤c∧c≤102 then c-32 else c)→(∀j,j<16→(q3i.getD j 0).toNat≠d)→hexI c = -1:=fun d hd hj=>by
  unfold hexI;split
  ·have:=hj (c-48) (by omega);rw[j5z (by omega)]at this;subst hd;split at this<;>split at this<;>omega
  ·split
   ·have:=hj (c-87) (by omega);rw[j5z (by omega)]at this;subst hd;split at this<;>split at this<;>omega
   ·split
    ·have:=hj (c-55) (by omega);rw[j5z (by omega)]at this;subst hd;split at this<;>split at this<;>omega
    ·rfl
 refine⟨fun a1=>⟨fun a2=>?_,fun a2=>?_⟩,fun a1=>?_⟩
 ·rw[show IntKind.u8.wrap ((c:Int)-32)=((c-32:Nat):Int) by rw[IntWalk.u8_in _ (by omega)];omega];have hd:(c-32)=(if 97≤c∧c≤102 then c-32 else c):=by split<;>omega
  refine q0j (fun i:Nat=>⟨[(0,.d (.int .u8 ((c-32):Nat))),(3,.d (.int .i64 i))],[],[]⟩)
   (fun i=>i≤16∧∀j,j<i→(q3i.getD j 0).toNat≠(c-32)) (fun i=>16-i) 0 ?_ ?_ ?_
  ·refine q0h ?_ trivial;simp only[go_sem,↓reduceIte,Sub,Int.natCast_add,Int.natCast_mul]
  ·exact⟨by omega,fun j hj=>by omega⟩
  ·rintro i ⟨hi,hj⟩;simp only[go_sem,↓reduceIte];refine⟨fun q1=>?_,fun q1=>?_⟩
   ·have hg:q3i[i]?=some (q3i.getD i 0):=by
     have:i<q3i.length:=by omega
     simp[List.getD_eq_getElem?_getD,this]
    simp(disch:=omega)only[go_sem,↓reduceIte,ht,q0d,hg,Int.ofNat_inj];refine⟨fun q2=>?_,fun q2=>⟨i+1,?_,⟨by omega,fun j hj1=>?_⟩,by omega⟩⟩
    ·rw[fin i _ (by omega) hd q2]
    ·refine q0h ?_ trivial;simp only[go_sem,↓reduceIte,Sub,Int.natCast_add,Int.natCast_mul]
    ·rcases Zbc j i with h1|h1
     ·exact hj j h1
     ·have:j=i:=by omega
      subst this;exact q2
   ·have hi16:i=16:=by omega
    rw[fin2 _ hd (fun j hj1=>hj j (by omega))]
 ·skip
  have hd:c=(if 97≤c∧c≤102 then c-32 else c):=by split<;>omega
  refine q0j (fun i:Nat=>⟨[(0,.d (.int .u8 (c:Nat))),(3,.d (.int .i64 i))],[],[]⟩)
   (fun i=>i≤16∧∀j,j<i→(q3i.getD j 0).toNat≠c) (fun i=>16-i) 0 ?_ ?_ ?_
  ·refine q0h ?_ trivial;simp only[go_sem,↓reduceIte,Sub,Int.natCast_add,Int.natCast_mul]
  ·exact⟨by omega,fun j hj=>by omega⟩
  ·rintro i ⟨hi,hj⟩;simp only[go_sem,↓reduceIte];refine⟨fun q1=>?_,fun q1=>?_⟩
   ·have hg:q3i[i]?=some (q3i.getD i 0):=by
     have:i<q3i.length:=by omega
     simp[List.getD_eq_getElem?_getD,this]
    simp(disch:=omega)only[go_sem,↓reduceIte,ht,q0d,hg,Int.ofNat_inj];refine⟨fun q2=>?_,fun q2=>⟨i+1,?_,⟨by omega,fun j hj1=>?_⟩,by omega⟩⟩
    ·rw[fin i _ (by omega) hd q2]
    ·refine q0h ?_ trivial;simp only[go_sem,↓reduceIte,Sub,Int.natCast_add,Int.natCast_mul]
    ·rcases Zbc j i with h1|h1
     ·exact hj j h1
     ·have:j=i:=by omega
      subst this;exact q2
   ·have hi16:i=16:=by omega
    rw[fin2 _ hd (fun j hj1=>hj j (by omega))]
 ·skip
  have hd:c=(if 97≤c∧c≤102 then c-32 else c):=by split<;>omega
  refine q0j (fun i:Nat=>⟨[(0,.d (.int .u8 (c:Nat))),(3,.d (.int .i64 i))],[],[]⟩)
   (fun i=>i≤16∧∀j,j<i→(q3i.getD j 0).toNat≠c) (fun i=>16-i) 0 ?_ ?_ ?_
  ·refine q0h ?_ trivial;simp only[go_sem,↓reduceIte,Sub,Int.natCast_add,Int.natCast_mul]
  ·exact⟨by omega,fun j hj=>by omega⟩
  ·rintro i ⟨hi,hj⟩;simp only[go_sem,↓reduceIte];refine⟨fun q1=>?_,fun q1=>?_⟩
   ·have hg:q3i[i]?=some (q3i.getD i 0):=by
     have:i<q3i.length:=by omega
     simp[List.getD_eq_getElem?_getD,this]
    simp(disch:=omega)only[go_sem,↓reduceIte,ht,q0d,hg,Int.ofNat_inj];refine⟨fun q2=>?_,fun q2=>⟨i+1,?_,⟨by omega,fun j hj1=>?_⟩,by omega⟩⟩
    ·rw[fin i _ (by omega) hd q2]
    ·refine q0h ?_ trivial;simp only[go_sem,↓reduceIte,Sub,Int.natCast_add,Int.natCast_mul]
    ·rcases Zbc j i with h1|h1
     ·exact hj j h1
     ·have:j=i:=by omega
      subst this;exact q2
   ·have hi16:i=16:=by omega
    rw[fin2 _ hd (fun j hj1=>hj j (by omega))]
def z7T:List UInt8→Nat
 |[]=>0
 |c::r=>if c.toNat=62 then 1 else z7T r+1
def q2s:List (List UInt8):=[[115,112,97,99,101],[112,101,114,105,111,100],[99,111,109,109,97],[104,121,112,104,101,110],[99,111,108,111,110],[122,101,114,111],[111,110,101],[116,119,111],[116,104,114,101,101],[102,111,117,114],[102,105,118,101],[115,105,120],[115,101,118,101,110],[101,105,103,104,116],[110,105,110,101]]
def q72:List UInt8:=[32,46,44,45,58,48,49,50,51,52,53,54,55,56,57]
def look:List (List UInt8)→List UInt8→List UInt8→Option (List UInt8)
 |n::ns,c::cs,s=>if s=n then some [c]else look ns cs s
 |_,_,_=>none
theorem z4x:∀(ns:List (List UInt8)) (cs:List UInt8) (s:List UInt8),q3g (ns.map .str) (cs.map fun c=>.str [c]) (.str s)=(look ns cs s).map .str
 |[],_,_=>by simp[q3g,look]
 |_::_,[],_=>by simp[q3g,look]
 |n::ns,c::cs,s=>by
  simp only[Zai,q3g,look,z0X,beq_iff_eq];split
  ·rfl
  ·exact z4x ns cs s
def letter(s:List UInt8):Bool:=decide (s.length=1)&&((decide (97≤(s.getD 0 0).toNat)&&decide ((s.getD 0 0).toNat≤122)) || (decide (65≤(s.getD 0 0).toNat)&&decide ((s.getD 0 0).toNat≤90)))
def z3q(s:List UInt8):Option (List UInt8):=if letter s=true then some s else look q2s q72 s
theorem q0e.q0u{t kt e:TypeId}{m i x:LX}{K:St→Prop}{σ:St}{ks vs:List D}{key v:D}{s:Nat}(hm:σ.ev m=.mp (.l s))(ho:σ.obj (.l s)=some (.mobj ks vs))(hi:σ.ev i=.d key)(hx:(σ.ev x).rd=some v)
  (ht:Tryz.prog.underlying t=some (.map kt e)) (hkt:Tryz.prog.underlying kt=some .string) (hkey:q0Y .string key=true) (hks:ks.all (q0Y .string)=true) (hnew:(q3g ks vs key).isNone=true)
  (hK:K (σ.setObj (.l s) (.mobj (ks++[key]) (vs++[v])))):q0e Tryz.prog none (.mapUpd t) [m,i,x] K σ:=
 q0e.z9l hm ho hi hx ht hkt hkey (fun k hk=>Zaj.1 hks k hk) (Option.isNone_iff_eq_none.1 hnew) hK
def q22:q0m:=
 .seq (.reg [Qx 2 (.k (.d (.str []))),Qx 3 KF]) (.seq (.seq (.reg [Qc 6 0,Q 7 (.len true (.t 6)),Q 8 (.bin .eql (.t 7) (Ki 1)),Qc 9 8,Qd 10 0 9 true,Qg 11 (.idxS (.t 10) (Ki 
 0)) 9 true,Qg 12 (.bin .geq (.t 11) (Kb 97)) 9 true,Qd 13 12 9 true,Qd 14 0 13 true,Qg 15 (.idxS (.t 14) (Ki 0)) 13 true,Qg 16 (.bin .leq (.t 15) (Kb 122)) 13 true,Qg 17 
 (.pick (.t 13) (.t 16) KF) 9 true,Qd 18 17 9 true,Qd 19 0 18 false,Qg 20 (.idxS (.t 19) (Ki 0)) 18 false,Qg 21 (.bin .geq (.t 20) (Kb 65)) 18 false,Qd 22 21 18 false,Qd 23 
 0 22 true,Qg 24 (.idxS (.t 23) (Ki 0)) 22 true,Qg 25 (.bin .leq (.t 24) (Kb 90)) 22 true,Qg 26 (.pick (.t 22) (.t 25) KF) 18 false,Qg 27 (.pick (.t 18) KT (.t 26)) 9 true,Q 
 28 (.pick (.t 9) (.t 27) KF)]) (.cond (.t 28) (.seq (.reg [Qc 29 0,Qa 2 29,Qx 3 KT]) .ret) .skip)) (.seq (.reg [⟨some 31,.prim (.mkMap 202) [] [],none⟩,⟨none,.prim (.mapUpd 
 202) [.t 31,.k (.d (.str [115,112,97,99,101])),.k (.d (.str [32]))] [],none⟩,⟨none,.prim (.mapUpd 202) [.t 31,.k (.d (.str [112,101,114,105,111,100])),.k (.d 
 (.str [46]))] [],none⟩,⟨none,.prim (.mapUpd 202) [.t 31,.k (.d (.str [99,111,109,109,97])),.k (.d (.str [44]))] [],none⟩,⟨none,.prim (.mapUpd 202) [.t 31,.k (.d 
 (.str [104,121,112,104,101,110])),.k (.d (.str [45]))] [],none⟩,⟨none,.prim (.mapUpd 202) [.t 31,.k (.d (.str [99,111,108,111,110])),.k (.d (.str [58]))] [], 
 none⟩,⟨none,.prim (.mapUpd 202) [.t 31,.k (.d (.str [122,101,114,111])),.k (.d (.str [48]))] [],none⟩,⟨none,.prim (.mapUpd 202) [.t 31,.k (.d (.str [111,110,101])), 
 .k (.d (.str [49]))] [],none⟩,⟨none,.prim (.mapUpd 202) [.t 31,.k (.d (.str [116,119,111])),.k (.d (.str [50]))] [],none⟩,⟨none,.prim (.mapUpd 202) [.t 31,.k (.d (.str 
 [116,104,114,101,101])),.k (.d (.str [51]))] [],none⟩,⟨none,.prim (.mapUpd 202) [.t 31,.k (.d (.str [102,111,117,114])),.k (.d (.str [52]))] [],none⟩,⟨none,.prim 
 (.mapUpd 202) [.t 31,.k (.d (.str [102,105,118,101])),.k (.d (.str [53]))] [],none⟩,⟨none,.prim (.mapUpd 202) [.t 31,.k (.d (.str [115,105,120])),.k (.d (.str [54]))] 
 [],none⟩,⟨none,.prim (.mapUpd 202) [.t 31,.k (.d (.str [115,101,118,101,110])),.k (.d (.str [55]))] [],none⟩,⟨none,.prim (.mapUpd 202) [.t 31,.k (.d (.str [101,105, 
 103,104,116])),.k (.d (.str [56]))] [],none⟩,⟨none,.prim (.mapUpd 202) [.t 31,.k (.d (.str [110,105,110,101])),.k (.d (.str [57]))] [],none⟩,Qc 32 31,Qc 33 0,⟨some 
 34,.prim (.lookup 202 true) [.t 32,.t 33] [],none⟩,Qc 30 34,Q 35 (.ext 0 (.t 30)),Q 36 (.ext 1 (.t 30)),Qa 4 35,Qa 5 36]) (.seq (.reg [Qc 37 4,Qc 38 5,Qa 2 37,Qa 3 
 38]) .ret)))
def q24:List LRes:=[.tmp 2,.tmp 3]
theorem z1P:q0t Tryz.prog 145 39 q22 q24:=⟨_,_,Tryz.func145,rfl,by kernel_rfl,by kernel_rfl,rfl⟩
theorem z8E(s:List UInt8)(hs:s.length≤1000000):q0y Tryz.prog 145 [.str s] (fun r=>r=q1n (z3q s)):=by
 refine z1P.call rfl ?_;unfold z3q;have one:s.length=1→∃c,s=[c]:=fun h=>Zch.1 h
 have mapT:Tryz.prog.underlying 202=some (.map 9 9):=by kernel_rfl
 have strT:Tryz.prog.underlying 9=some .string:=by kernel_rfl
 have strZ:Program.zeroOf Tryz.prog 9=some (.str []):=by kernel_rfl
 have htab:=z4x q2s q72 s;generalize look q2s q72 s=R at htab ⊢;simp only[q2s,q72,Zai,Zbe]at htab
 by_cases h1:s.length=1
 ·obtain⟨c,hc⟩:=one h1;have hc8:=q3s c;have g0:getI s 0=some c:=by rw[hc];rfl
  have hlet:letter s=(decide (97≤c.toNat)&&decide (c.toNat≤122) || decide (65≤c.toNat)&&decide (c.toNat≤90)):=by rw[hc];rfl
  have zl:((s.length:Int)=1)=True:=eq_true (by omega);rw[hlet]
  by_cases a1:97≤c.toNat∧c.toNat≤122
  ·have z1:(97≤(c.toNat:Int))=True:=eq_true (by omega);have z2:((c.toNat:Int)≤122)=True:=eq_true (by omega);rw[if_pos (by simp;omega)];simp(disch:=omega)only[go_sem,↓reduceIte,q22,q24,g0,zl,z1,z2];rfl
  ·by_cases a2:65≤c.toNat∧c.toNat≤90
   ·have z1:(97≤(c.toNat:Int))=False:=eq_false (by omega);have z3:(65≤(c.toNat:Int))=True:=eq_true (by omega);have z4:((c.toNat:Int)≤90)=True:=eq_true (by omega);rw[if_pos (by simp;omega)];simp(disch:=omega)only[go_sem,↓reduceIte,q22,q24,g0,zl,z1,z3,z4];rfl
   ·rw[if_neg (by simp;omega)]
    by_cases a3:c.toNat<65
    ·have z1:(97≤(c.toNat:Int))=False:=eq_false (by omega);have z3:(65≤(c.toNat:Int))=False:=eq_false (by omega);simp(disch:=omega)only[go_sem,↓reduceIte,q22,q24,g0,zl,z1,z3];refine q0e.mkMap mapT ?_;simp only[go_sem,↓reduceIte];refine q0e.q0u rfl rfl rfl rfl mapT strT rfl rfl rfl ?_;simp only[go_sem,↓reduceIte];refine q0e.q0u rfl rfl rfl rfl mapT strT rfl rfl rfl ?_;simp only[go_sem,↓reduceIte];refine q0e.q0u rfl rfl rfl rfl mapT strT rfl rfl rfl ?_;simp only[go_sem,↓reduceIte]
     refine q0e.q0u rfl rfl rfl rfl mapT strT rfl rfl rfl ?_;simp only[go_sem,↓reduceIte];refine q0e.q0u rfl rfl rfl rfl mapT strT rfl rfl rfl ?_;simp only[go_sem,↓reduceIte];refine q0e.q0u rfl rfl rfl rfl mapT strT rfl rfl rfl ?_;simp only[go_sem,↓reduceIte];refine q0e.q0u rfl rfl rfl rfl mapT strT rfl rfl rfl ?_;simp only[go_sem,↓reduceIte];refine q0e.q0u rfl rfl rfl rfl mapT strT rfl rfl rfl ?_;simp only[go_sem,↓reduceIte];refine q0e.q0u rfl rfl rfl rfl mapT strT rfl rfl rfl ?_;simp only[go_sem,↓reduceIte]
     refine q0e.q0u rfl rfl rfl rfl mapT strT rfl rfl rfl ?_;simp only[go_sem,↓reduceIte];refine q0e.q0u rfl rfl rfl rfl mapT strT rfl rfl rfl ?_;simp only[go_sem,↓reduceIte];refine q0e.q0u rfl rfl rfl rfl mapT strT rfl rfl rfl ?_;simp only[go_sem,↓reduceIte];refine q0e.q0u rfl rfl rfl rfl mapT strT rfl rfl rfl ?_;simp only[go_sem,↓reduceIte];refine q0e.q0u rfl rfl rfl rfl mapT strT rfl rfl rfl ?_;simp only[go_sem,↓reduceIte];refine q0e.q0u rfl rfl rfl rfl mapT strT rfl rfl rfl ?_;simp only[go_sem,↓reduceIte]
     refine q0e.z5v (kd:=.string) (key:=.str s) (zero:=.str []) rfl rfl rfl mapT strT rfl (fun k hk=>Zaj.1 (show(List.map D.str q2s).all (q0Y .string)=true from rfl) k hk) strZ ?_;rw[htab];cases R<;>(simp only[Zav,Zck];simp only[go_sem,↓reduceIte];rfl)
    ·by_cases a4:c.toNat<97
     ·have z1:(97≤(c.toNat:Int))=False:=eq_false (by omega);have z3:(65≤(c.toNat:Int))=True:=eq_true (by omega);have z4:((c.toNat:Int)≤90)=False:=eq_false (by omega);simp(disch:=omega)only[go_sem,↓reduceIte,q22,q24,g0,zl,z1,z3,z4];refine q0e.mkMap mapT ?_;simp only[go_sem,↓reduceIte];refine q0e.q0u rfl rfl rfl rfl mapT strT rfl rfl rfl ?_;simp only[go_sem,↓reduceIte];refine q0e.q0u rfl rfl rfl rfl mapT strT rfl rfl rfl ?_;simp only[go_sem,↓reduceIte]
      refine q0e.q0u rfl rfl rfl rfl mapT strT rfl rfl rfl ?_;simp only[go_sem,↓reduceIte];refine q0e.q0u rfl rfl rfl rfl mapT strT rfl rfl rfl ?_;simp only[go_sem,↓reduceIte];refine q0e.q0u rfl rfl rfl rfl mapT strT rfl rfl rfl ?_;simp only[go_sem,↓reduceIte];refine q0e.q0u rfl rfl rfl rfl mapT strT rfl rfl rfl ?_;simp only[go_sem,↓reduceIte];refine q0e.q0u rfl rfl rfl rfl mapT strT rfl rfl rfl ?_;simp only[go_sem,↓reduceIte];refine q0e.q0u rfl rfl rfl rfl mapT strT rfl rfl rfl ?_;simp only[go_sem,↓reduceIte]
      refine q0e.q0u rfl rfl rfl rfl mapT strT rfl rfl rfl ?_;simp only[go_sem,↓reduceIte];refine q0e.q0u rfl rfl rfl rfl mapT strT rfl rfl rfl ?_;simp only[go_sem,↓reduceIte];refine q0e.q0u rfl rfl rfl rfl mapT strT rfl rfl rfl ?_;simp only[go_sem,↓reduceIte];refine q0e.q0u rfl rfl rfl rfl mapT strT rfl rfl rfl ?_;simp only[go_sem,↓reduceIte];refine q0e.q0u rfl rfl rfl rfl mapT strT rfl rfl rfl ?_;simp only[go_sem,↓reduceIte];refine q0e.q0u rfl rfl rfl rfl mapT strT rfl rfl rfl ?_;simp only[go_sem,↓reduceIte]
      refine q0e.q0u rfl rfl rfl rfl mapT strT rfl rfl rfl ?_;simp only[go_sem,↓reduceIte];refine q0e.z5v (kd:=.string) (key:=.str s) (zero:=.str []) rfl rfl rfl mapT strT rfl (fun k hk=>Zaj.1 (show(List.map D.str q2s).all (q0Y .string)=true from rfl) k hk) strZ ?_;rw[htab];cases R<;>(simp only[Zav,Zck];simp only[go_sem,↓reduceIte];rfl)
     ·have z1:(97≤(c.toNat:Int))=True:=eq_true (by omega);have z2:((c.toNat:Int)≤122)=False:=eq_false (by omega);have z3:(65≤(c.toNat:Int))=True:=eq_true (by omega);have z4:((c.toNat:Int)≤90)=False:=eq_false (by omega);simp(disch:=omega)only[go_sem,↓reduceIte,q22,q24,g0,zl,z1,z2,z3,z4];refine q0e.mkMap mapT ?_;simp only[go_sem,↓reduceIte];refine q0e.q0u rfl rfl rfl rfl mapT strT rfl rfl rfl ?_;simp only[go_sem,↓reduceIte];refine q0e.q0u rfl rfl rfl rfl mapT strT rfl rfl rfl ?_
      simp only[go_sem,↓reduceIte];refine q0e.q0u rfl rfl rfl rfl mapT strT rfl rfl rfl ?_;simp only[go_sem,↓reduceIte];refine q0e.q0u rfl rfl rfl rfl mapT strT rfl rfl rfl ?_;simp only[go_sem,↓reduceIte];refine q0e.q0u rfl rfl rfl rfl mapT strT rfl rfl rfl ?_;simp only[go_sem,↓reduceIte];refine q0e.q0u rfl rfl rfl rfl mapT strT rfl rfl rfl ?_;simp only[go_sem,↓reduceIte];refine q0e.q0u rfl rfl rfl rfl mapT strT rfl rfl rfl ?_;simp only[go_sem,↓reduceIte];refine q0e.q0u rfl rfl rfl rfl mapT strT rfl rfl rfl ?_
      simp only[go_sem,↓reduceIte];refine q0e.q0u rfl rfl rfl rfl mapT strT rfl rfl rfl ?_;simp only[go_sem,↓reduceIte];refine q0e.q0u rfl rfl rfl rfl mapT strT rfl rfl rfl ?_;simp only[go_sem,↓reduceIte];refine q0e.q0u rfl rfl rfl rfl mapT strT rfl rfl rfl ?_;simp only[go_sem,↓reduceIte];refine q0e.q0u rfl rfl rfl rfl mapT strT rfl rfl rfl ?_;simp only[go_sem,↓reduceIte];refine q0e.q0u rfl rfl rfl rfl mapT strT rfl rfl rfl ?_;simp only[go_sem,↓reduceIte];refine q0e.q0u rfl rfl rfl rfl mapT strT rfl rfl rfl ?_
      simp only[go_sem,↓reduceIte];refine q0e.q0u rfl rfl rfl rfl mapT strT rfl rfl rfl ?_;simp only[go_sem,↓reduceIte];refine q0e.z5v (kd:=.string) (key:=.str s) (zero:=.str []) rfl rfl rfl mapT strT rfl (fun k hk=>Zaj.1 (show(List.map D.str q2s).all (q0Y .string)=true from rfl) k hk) strZ ?_;rw[htab];cases R<;>(simp only[Zav,Zck];simp only[go_sem,↓reduceIte];rfl)
 ·have zl:((s.length:Int)=1)=False:=eq_false (by omega);have hlet:letter s=false:=by unfold letter;rw[decide_eq_false h1];rfl
  rw[hlet,if_neg (by decide)];simp(disch:=omega)only[go_sem,↓reduceIte,q22,q24,zl];refine q0e.mkMap mapT ?_;simp only[go_sem,↓reduceIte];refine q0e.q0u rfl rfl rfl rfl mapT strT rfl rfl rfl ?_;simp only[go_sem,↓reduceIte];refine q0e.q0u rfl rfl rfl rfl mapT strT rfl rfl rfl ?_;simp only[go_sem,↓reduceIte];refine q0e.q0u rfl rfl rfl rfl mapT strT rfl rfl rfl ?_;simp only[go_sem,↓reduceIte];refine q0e.q0u rfl rfl rfl rfl mapT strT rfl rfl rfl ?_;simp only[go_sem,↓reduceIte]
  refine q0e.q0u rfl rfl rfl rfl mapT strT rfl rfl rfl ?_;simp only[go_sem,↓reduceIte];refine q0e.q0u rfl rfl rfl rfl mapT strT rfl rfl rfl ?_;simp only[go_sem,↓reduceIte];refine q0e.q0u rfl rfl rfl rfl mapT strT rfl rfl rfl ?_;simp only[go_sem,↓reduceIte];refine q0e.q0u rfl rfl rfl rfl mapT strT rfl rfl rfl ?_;simp only[go_sem,↓reduceIte];refine q0e.q0u rfl rfl rfl rfl mapT strT rfl rfl rfl ?_;simp only[go_sem,↓reduceIte];refine q0e.q0u rfl rfl rfl rfl mapT strT rfl rfl rfl ?_;simp only[go_sem,↓reduceIte]
  refine q0e.q0u rfl rfl rfl rfl mapT strT rfl rfl rfl ?_;simp only[go_sem,↓reduceIte];refine q0e.q0u rfl rfl rfl rfl mapT strT rfl rfl rfl ?_;simp only[go_sem,↓reduceIte];refine q0e.q0u rfl rfl rfl rfl mapT strT rfl rfl rfl ?_;simp only[go_sem,↓reduceIte];refine q0e.q0u rfl rfl rfl rfl mapT strT rfl rfl rfl ?_;simp only[go_sem,↓reduceIte];refine q0e.q0u rfl rfl rfl rfl mapT strT rfl rfl rfl ?_;simp only[go_sem,↓reduceIte]
  refine q0e.z5v (kd:=.string) (key:=.str s) (zero:=.str []) rfl rfl rfl mapT strT rfl (fun k hk=>Zaj.1 (show(List.map D.str q2s).all (q0Y .string)=true from rfl) k hk) strZ ?_;rw[htab];cases R<;>(simp only[Zav,Zck];simp only[go_sem,↓reduceIte];rfl)
def hexD(c:Nat):Option Nat:=if 48≤c∧c≤57 then some (c-48)else if 65≤c∧c≤70 then some (c-55)else none
def q2R:List UInt8→Nat→Option Nat
 |[],n=>some n
 |c::r,n=>match hexD c.toNat with
  |none=>none
  |some d=>q2R r (16*n+d)
def hexZ(o:Option Nat):Int:=match o with
 |some n=>n
 |none => -1
def z8n{α:Type}(a b:Option α):Option α:=match a with
 |some t=>some t
 |none=>b
def surM:Option Nat→Option (List UInt8)
 |none=>none
 |some n=>if 55296≤n∧n<57344 then none else some (enc n)
def uniM(s:List UInt8):Option (List UInt8):=if s.length≠7∨s.take 3≠[117,110,105]then none else surM (q2R (s.drop 3) 0)
def q8x(s:List UInt8):Option (List UInt8):=z8n (z3q s) (uniM s)
theorem z0V{c d:Nat}(h:hexD c=some d):d≤15:=by
 unfold hexD at h;split at h
 ·cases h;omega
 ·split at h
  ·cases h;omega
  ·cases h
theorem z6t:∀(s:List UInt8) (n:Nat),∀m,q2R s n=some m→m<(n+1)*16 ^ s.length
 |[],n,m,h=>by simp[q2R]at h;subst h;simp
 |c::r,n,m,h=>by
  simp only[q2R]at h;cases hd:hexD c.toNat with
  |none=>rw[hd]at h;cases h
  |some d=>
   rw[hd]at h;have ih:=z6t r _ m h;have:=z0V hd;rw[Zad,Nat.pow_succ];have h2:(16*n+d+1)*16 ^ r.length≤((n+1)*16)*16 ^ r.length:=Zbx _ (by omega)
   calc m<(16*n+d+1)*16 ^ r.length:=ih
    _≤((n+1)*16)*16 ^ r.length:=h2
    _=(n+1)*(16 ^ r.length*16):=by rw[Nat.mul_assoc,Nat.mul_comm 16]
def z32:q0m:=
 .seq (.reg [Qx 2 (Ki 0)]) (.seq (.reg [Qx 3 (Ki 0)]) (.seq (.seq (.reg [Qc 6 0,Q 7 (.len true (.t 6)),Q 8 (.cp (Ki 0))]) (.block 0 (.loop (.seq (.reg [Q 9 (.bin .lss (.t 8) (.t 
 7))]) (.seq (.cond (.t 9) .skip (.exit 0)) (.seq (.block 1 (.seq (.reg [Qc 10 8,Qa 4 10]) (.seq (.reg [Qc 11 0,Qc 12 4,Q 13 (.idxS (.t 11) (.t 12)),Qa 5 13]) (.block 2 (.seq 
 (.reg [Qc 15 5,Q 16 (.bin .geq (.t 15) (Kb 48)),Qc 17 16,Qd 18 5 17 true,Qg 19 (.bin .leq (.t 18) (Kb 57)) 17 true,Q 20 (.pick (.t 17) (.t 19) KF),Qa 14 20]) (.cond (.t 14) 
 (.reg [Qc 21 3,Q 22 (.bin .mul (Ki 16) (.t 21)),Qc 23 5,Q 24 (.bin .sub (.t 23) (Kb 48)),Q 25 (.cvI .i64 (.t 24)),Q 26 (.bin .add (.t 22) (.t 25)),Qa 3 26]) (.seq (.reg [Qc 
 28 5,Q 29 (.bin .geq (.t 28) (Kb 65)),Qc 30 29,Qd 31 5 30 true,Qg 32 (.bin .leq (.t 31) (Kb 70)) 30 true,Q 33 (.pick (.t 30) (.t 32) KF),Qa 27 33]) (.cond (.t 27) (.reg [Qc 
 34 3,Q 35 (.bin .mul (Ki 16) (.t 34)),Qc 36 5,Q 37 (.bin .sub (.t 36) (Kb 65)),Q 38 (.cvI .i64 (.t 37)),Q 39 (.bin .add (.t 35) (.t 38)),Q 40 (.bin .add (.t 39) (Ki 10)), 
 Qa 3 40]) (.seq (.reg [Qx 2 (Ki (-1))]) .ret))))))))) (.reg [Q 41 (.bin .add (.t 8) (Ki 1)),Qc 8 41]))))))) (.seq (.reg [Qc 42 3,Qa 2 42]) .ret)))
def z34:List LRes:=[.tmp 2]
theorem z5q:q0t Tryz.prog 146 43 z32 z34:=⟨_,_,Tryz.func146,rfl,by kernel_rfl,by kernel_rfl,rfl⟩
theorem j1S(s:List UInt8)(hs:s.length≤4):q0y Tryz.prog 146 [.str s] (fun r=>r=.one (.int .i64 (hexZ (q2R s 0)))):=by
 refine z5q.call rfl ?_;generalize hR:q2R s 0=R;simp only[go_sem,↓reduceIte,z32,z34];refine q0j (fun y:Nat×Nat=>⟨[(0,.d (.str s)),(3,.d (.int .i64 y.2)),(7,.d (.int .i64 s.length)),(8,.d (.int .i64 y.1))],[],[]⟩)
  (fun y=>y.1≤s.length∧y.2<16 ^ y.1∧q2R (s.drop y.1) y.2=R) (fun y=>s.length-y.1) (0,0) ?_ ?_ ?_
 ·refine q0h ?_ trivial;simp only[go_sem,↓reduceIte,Sub,Int.natCast_add,Int.natCast_mul]
 ·exact⟨Zar _,by simp,hR⟩
 ·rintro⟨i,n⟩ ⟨hi,hn,hF⟩;simp only at hi hn hF;have hpow:16 ^ i≤65536:=by
   have:i=0∨i=1∨i=2∨i=3∨i=4:=by omega
   rcases this with rfl|rfl|rfl|rfl|rfl<;>decide
  simp only[go_sem,↓reduceIte];refine⟨fun hlt=>?_,fun hge=>?_⟩
  ·obtain⟨c,hc⟩:=get_some (l:=s) (i:=i) (by omega);have hc8:=q3s c;rw[q07 hc,q2R]at hF;have nxt:∀d:Nat,hexD c.toNat=some d→q2R (s.drop (i+1)) (16*n+d)=R∧16*n+d<16 ^ (i+1):=fun d h=>by
    rw[h]at hF;have:=z0V h;exact⟨hF,by rw[Nat.pow_succ];omega⟩
   by_cases a:48≤c.toNat∧c.toNat≤57
   ·have z1:(48≤(c.toNat:Int))=True:=eq_true (by omega);have z2:((c.toNat:Int)≤57)=True:=eq_true (by omega);obtain⟨f1,f2⟩:=nxt (c.toNat-48) (by unfold hexD;rw[if_pos a]);have e:(16*(n:Int)+((c.toNat:Int)-48))=((16*n+(c.toNat-48):Nat):Int):=by omega
    simp(disch:=omega)only[go_sem,↓reduceIte,q0d,hc,z1,z2,e];refine⟨(i+1,16*n+(c.toNat-48)),?_,⟨by simp only;omega,f2,f1⟩,by simp only;omega⟩;refine q0h ?_ trivial;simp only[go_sem,↓reduceIte,Sub,Int.natCast_add,Int.natCast_mul]
   ·have bad:hexD c.toNat=none→Res.one (.int .i64 (-1))=Res.one (.int .i64 (hexZ R)):=fun h=>by rw[h]at hF;rw[←hF];rfl
    by_cases b:65≤c.toNat∧c.toNat≤70
    ·have z2:((c.toNat:Int)≤57)=False:=eq_false (by omega);have z1:(48≤(c.toNat:Int))=True:=eq_true (by omega);have z3:(65≤(c.toNat:Int))=True:=eq_true (by omega);have z4:((c.toNat:Int)≤70)=True:=eq_true (by omega);obtain⟨f1,f2⟩:=nxt (c.toNat-55) (by unfold hexD;rw[if_neg a,if_pos b]);have e:(16*(n:Int)+((c.toNat:Int)-65)+10)=((16*n+(c.toNat-55):Nat):Int):=by omega
     simp(disch:=omega)only[go_sem,↓reduceIte,q0d,hc,z1,z2,z3,z4,e];refine⟨(i+1,16*n+(c.toNat-55)),?_,⟨by simp only;omega,f2,f1⟩,by simp only;omega⟩;refine q0h ?_ trivial;simp only[go_sem,↓reduceIte,Sub,Int.natCast_add,Int.natCast_mul]
    ·have b':=bad (by unfold hexD;rw[if_neg a,if_neg b])
     by_cases c1:48≤c.toNat
     ·have z1:(48≤(c.toNat:Int))=True:=eq_true (by omega);have z2:((c.toNat:Int)≤57)=False:=eq_false (by omega)
      by_cases c2:65≤c.toNat
      ·have z3:(65≤(c.toNat:Int))=True:=eq_true (by omega);have z4:((c.toNat:Int)≤70)=False:=eq_false (by omega);simp(disch:=omega)only[go_sem,↓reduceIte,q0d,hc,z1,z2,z3,z4];exact b'
      ·have z3:(65≤(c.toNat:Int))=False:=eq_false (by omega);simp(disch:=omega)only[go_sem,↓reduceIte,q0d,hc,z1,z2,z3];exact b'
     ·have z1:(48≤(c.toNat:Int))=False:=eq_false (by omega);have z3:(65≤(c.toNat:Int))=False:=eq_false (by omega);simp(disch:=omega)only[go_sem,↓reduceIte,q0d,hc,z1,z3];exact b'
  ·have:s.drop i=[]:=Zah (by omega);rw[this]at hF;simp only[q2R]at hF;subst hF;rfl
def z1g:q0m:=
 .seq (.reg [Qx 2 (.k (.d (.str []))),Qx 3 KF]) (.seq (.reg [Qc 8 0,⟨some 9,.call 145 [.t 8],none⟩,Qc 7 9,Q 10 (.ext 0 (.t 7)),Q 11 (.ext 1 (.t 7)),Qa 4 10,Qa 5 11]) (.seq 
 (.seq (.reg [Qc 12 5]) (.cond (.t 12) (.seq (.reg [Qc 13 4,Qa 2 13,Qx 3 KT]) .ret) .skip)) (.seq (.seq (.reg [Qc 14 0,Q 15 (.len true (.t 14)),Q 16 (.bin .neq (.t 15) (Ki 
 7)),Qc 17 16,Qd 18 0 17 false,Qg 19 (.subS (.t 18) none (some (Ki 3))) 17 false,Qg 20 (.bin .neq (.t 19) (.k (.d (.str [117,110,105])))) 17 false,Q 21 (.pick (.t 17) KT 
 (.t 20))]) (.cond (.t 21) (.seq (.reg [Qx 2 (.k (.d (.str []))),Qx 3 KF]) .ret) .skip)) (.seq (.reg [Qc 22 0,Q 23 (.subS (.t 22) (some (Ki 3)) none),⟨some 24,.call 146 [.t 
 23],none⟩,Qa 6 24]) (.seq (.seq (.reg [Qc 25 6,Q 26 (.bin .lss (.t 25) (Ki 0)),Qc 27 26,Qd 28 6 27 false,Qg 29 (.bin .geq (.t 28) (Ki 55296)) 27 false,Qd 30 29 27 false, 
 Qd 31 6 30 true,Qg 32 (.bin .lss (.t 31) (Ki 57344)) 30 true,Qg 33 (.pick (.t 30) (.t 32) KF) 27 false,Q 34 (.pick (.t 27) KT (.t 33))]) (.cond (.t 34) (.seq (.reg [Qx 2 (.k 
 (.d (.str []))),Qx 3 KF]) .ret) .skip)) (.seq (.reg [Qc 35 6,Q 36 (.cvI .i32 (.t 35)),Q 37 (.i2s (.t 36)),Qa 2 37,Qx 3 KT]) .ret))))))
def z1o:List LRes:=[.tmp 2,.tmp 3]
theorem z2L:q0t Tryz.prog 133 38 z1g z1o:=⟨_,_,Tryz.func133,rfl,by kernel_rfl,by kernel_rfl,rfl⟩
theorem j0f(s:List UInt8)(hs:s.length≤1000000):q0y Tryz.prog 133 [.str s] (fun r=>r=q1n (q8x s)):=by
 refine z2L.call rfl ?_;unfold q8x;simp only[go_sem,↓reduceIte,z1g,z1o];refine q0i.of (z8E s hs) ?_;cases hS:z3q s with
 |some t=>
  simp only[z8n,q1n];simp only[go_sem,↓reduceIte]
 |none=>
  simp only[z8n,uniM,q1n]
  by_cases h7:s.length=7
  ·have z7:((s.length:Int)=7)=True:=eq_true (by omega);have hcut:cutI s 0 3=s.take 3:=rfl;have hcut2:cutI s 3 (s.length:Int)=s.drop 3:=by unfold cutI;simp
   by_cases hu:s.take 3=[117,110,105]
   ·have hb:¬(s.length≠7∨s.take 3≠[117,110,105]):=by rintro(h|h);exact h h7;exact h hu
    rw[if_neg hb];simp(disch:=omega)only[go_sem,↓reduceIte,z7,hcut,hu];refine⟨by omega,⟨by omega,by omega⟩,?_⟩;rw[hcut2];refine q0i.of (j1S (s.drop 3) (by rw[Zby];omega)) ?_;have hlt:=z6t (s.drop 3) 0;rw[Zby,h7]at hlt;cases hH:q2R (s.drop 3) 0 with
    |none=>
     simp only[hexZ,surM];simp only[go_sem,↓reduceIte]
    |some n=>
     have hn:=hlt n hH;simp only[hexZ,surM];have z8:((n:Int)<0)=False:=eq_false (by omega)
     by_cases hsur:55296≤n∧n<57344
     ·have z9:(55296≤(n:Int))=True:=eq_true (by omega);have z10:((n:Int)<57344)=True:=eq_true (by omega);simp only[go_sem,↓reduceIte,z8,z9,z10];rw[if_pos hsur]
     ·have he:(Utf8.encode (n:Int)).data.toList=enc n:=z0S (by unfold q3m;omega);have hw32:IntKind.i32.wrap (n:Int)=(n:Int):=by rw[IntWalk.i32_in _ (by omega)]
      rw[if_neg hsur]
      by_cases h9:55296≤n
      ·have z9:(55296≤(n:Int))=True:=eq_true (by omega);have z10:((n:Int)<57344)=False:=eq_false (by omega);simp only[go_sem,↓reduceIte,z8,z9,z10,hw32,he]
      ·have z9:(55296≤(n:Int))=False:=eq_false (by omega);simp only[go_sem,↓reduceIte,z8,z9,hw32,he]
   ·have hb:s.length≠7∨s.take 3≠[117,110,105]:=.inr hu;rw[if_pos hb];simp(disch:=omega)only[go_sem,↓reduceIte,z7,hcut,hu];omega
  ·have z7:((s.length:Int)=7)=False:=eq_false (by omega);rw[if_pos (.inl h7)];simp(disch:=omega)only[go_sem,↓reduceIte,z7]
theorem z0n{i:Nat}(h:i<15)(s:List UInt8):look (q2s.drop i) (q72.drop i) s=if s=q2s.getD i []then some [q72.getD i 0]else look (q2s.drop (i+1)) (q72.drop (i+1)) s:=by
 have:i=0∨i=1∨i=2∨i=3∨i=4∨i=5∨i=6∨i=7∨i=8∨i=9∨i=10∨i=11∨i=12∨i=13∨i=14:=by omega
 rcases this with rfl|rfl|rfl|rfl|rfl|rfl|rfl|rfl|rfl|rfl|rfl|rfl|rfl|rfl|rfl<;>rfl
theorem z5e{c:Nat}(h:c<256):(hexI c<0∨97≤c)↔hexD c=none:=by
 unfold hexI hexD;constructor
 ·intro h1;rw[if_neg,if_neg];all_goals
   intro h2;rcases h1 with h1|h1
   ·(repeat' split at h1)<;>omega
   ·omega
 ·intro h1;split at h1
  ·cases h1
  ·split at h1
   ·cases h1
   ·by_cases h97:97≤c
    ·exact .inr h97
    ·left
     rw[if_neg (by omega),if_neg (by omega),if_neg (by omega)];omega
theorem z5d{c d:Nat}(h:hexD c=some d):hexI c=d∧c<97:=by
 unfold hexD at h;unfold hexI;split at h
 ·cases h;rw[if_pos (by omega)];omega
 ·split at h
  ·cases h;rw[if_neg (by omega),if_neg (by omega),if_pos (by omega)];omega
  ·cases h
def q0Q:q0m:=
 .seq (.reg [Qx 2 (.k (.d (.str []))),Qx 3 KF]) (.seq (.seq (.reg [Qc 10 0,Q 11 (.len true (.t 10)),Q 12 (.bin .eql (.t 11) (Ki 1)),Qc 13 12,Qd 14 0 13 true,Qg 15 (.idxS (.t 
 14) (Ki 0)) 13 true,Qg 16 (.bin .geq (.t 15) (Kb 97)) 13 true,Qd 17 16 13 true,Qd 18 0 17 true,Qg 19 (.idxS (.t 18) (Ki 0)) 17 true,Qg 20 (.bin .leq (.t 19) (Kb 122)) 17 
 true,Qg 21 (.pick (.t 17) (.t 20) KF) 13 true,Qd 22 21 13 true,Qd 23 0 22 false,Qg 24 (.idxS (.t 23) (Ki 0)) 22 false,Qg 25 (.bin .geq (.t 24) (Kb 65)) 22 false,Qd 26 25 22 
 false,Qd 27 0 26 true,Qg 28 (.idxS (.t 27) (Ki 0)) 26 true,Qg 29 (.bin .leq (.t 28) (Kb 90)) 26 true,Qg 30 (.pick (.t 26) (.t 29) KF) 22 false,Qg 31 (.pick (.t 22) KT (.t 
 30)) 13 true,Q 32 (.pick (.t 13) (.t 31) KF)]) (.cond (.t 32) (.seq (.reg [Qc 33 0,Qa 2 33,Qx 3 KT]) .ret) .skip)) (.seq (.reg [⟨some 34,.bsl 9 1 [.k (.d (.str [115,112,97, 
 99,101])),.k (.d (.str [112,101,114,105,111,100])),.k (.d (.str [99,111,109,109,97])),.k (.d (.str [104,121,112,104,101,110])),.k (.d (.str [99,111,108,111, 
 110])),.k (.d (.str [122,101,114,111])),.k (.d (.str [111,110,101])),.k (.d (.str [116,119,111])),.k (.d (.str [116,104,114,101,101])),.k (.d (.str [102,111, 
 117,114])),.k (.d (.str [102,105,118,101])),.k (.d (.str [115,105,120])),.k (.d (.str [115,101,118,101,110])),.k (.d (.str [101,105,103,104,116])),.k (.d (.str 
 [110,105,110,101]))],none⟩,Qa 4 34]) (.seq (.reg [Qx 5 (.k (.d (.str [32,46,44,45,58,48,49,50,51,52,53,54,55,56,57])))]) (.seq (.seq (.reg [Qx 6 (Ki 0)]) 
 (.block 0 (.loop (.seq (.seq (.reg [Qc 35 6,Qc 36 4,Q 37 (.len false (.t 36)),Q 38 (.bin .lss (.t 35) (.t 37))]) (.cond (.t 38) .skip (.exit 0))) (.seq (.block 1 (.seq (.reg 
 [Qc 41 4,Qc 42 6,Q 43 (.ia 1 (.t 41) (.t 42)),Q 44 (.ld false 1 (.t 43)),Qc 45 0,Q 46 (.bin .eql (.t 44) (.t 45))]) (.cond (.t 46) (.seq (.reg [Qc 47 5,Qc 48 6,Qc 49 6,Q 
 50 (.bin .add (.t 49) (Ki 1)),Q 51 (.subS (.t 47) (some (.t 48)) (some (.t 50))),Qa 2 51,Qx 3 KT]) .ret) .skip))) (.reg [Qc 39 6,Q 40 (.bin .add (.t 39) (Ki 1)),Qa 6 
 40])))))) (.seq (.seq (.reg [Qc 52 0,Q 53 (.len true (.t 52)),Q 54 (.bin .neq (.t 53) (Ki 7)),Qc 55 54,Qd 56 0 55 false,Qg 57 (.subS (.t 56) none (some (Ki 3))) 55 false,Qg 
 58 (.bin .neq (.t 57) (.k (.d (.str [117,110,105])))) 55 false,Q 59 (.pick (.t 55) KT (.t 58))]) (.cond (.t 59) (.seq (.reg [Qx 2 (.k (.d (.str []))),Qx 3 KF]) .ret) .skip)) 
 (.seq (.reg [Qx 7 (Ki 0)]) (.seq (.seq (.reg [Qx 8 (Ki 3)]) (.block 2 (.loop (.seq (.seq (.reg [Qc 60 8,Q 61 (.bin .lss (.t 60) (Ki 7))]) (.cond (.t 61) .skip (.exit 2))) (.seq 
 (.block 3 (.seq (.reg [Qc 64 0,Qc 65 8,Q 66 (.idxS (.t 64) (.t 65)),⟨some 67,.call 121 [.t 66],none⟩,Qa 9 67]) (.seq (.seq (.reg [Qc 68 9,Q 69 (.bin .lss (.t 68) (Ki 0)), 
 Qc 70 69,Qd 71 0 70 false,Qd 72 8 70 false,Qg 73 (.idxS (.t 71) (.t 72)) 70 false,Qg 74 (.bin .geq (.t 73) (Kb 97)) 70 false,Q 75 (.pick (.t 70) KT (.t 74))]) (.cond (.t 75) 
 (.seq (.reg [Qx 2 (.k (.d (.str []))),Qx 3 KF]) .ret) .skip)) (.reg [Qc 76 7,Q 77 (.bin .mul (Ki 16) (.t 76)),Qc 78 9,Q 79 (.bin .add (.t 77) (.t 78)),Qa 7 79])))) (.reg [Qc 
 62 8,Q 63 (.bin .add (.t 62) (Ki 1)),Qa 8 63])))))) (.seq (.seq (.reg [Qc 80 7,Q 81 (.bin .gtr (.t 80) (Ki 55295)),Qc 82 81,Qd 83 7 82 true,Qg 84 (.bin .lss (.t 83) (Ki 
 57344)) 82 true,Q 85 (.pick (.t 82) (.t 84) KF)]) (.cond (.t 85) (.seq (.reg [Qx 2 (.k (.d (.str []))),Qx 3 KF]) .ret) .skip)) (.seq (.reg [Qc 86 7,⟨some 87,.bsl 3 1 [.t 86], 
 none⟩,⟨some 88,.call 92 [.t 87],none⟩,Qa 2 88,Qx 3 KT]) .ret)))))))))
def q0R:List LRes:=[.tmp 2,.tmp 3]
theorem q7j:q0t Tryz.prog 100 89 q0Q q0R:=⟨_,_,Tryz.func100,rfl,by kernel_rfl,by kernel_rfl,rfl⟩
theorem z2A(s:List UInt8)(hs:s.length≤1000000):q0y Tryz.prog 100 [.str s] (fun r=>r=q1n (q8x s)):=by
 refine q7j.call rfl ?_;generalize hG:q8x s=G;unfold q8x z3q at hG
 have hgd:∀i:Nat,i<15→getI ([.str [115,112,97,99,101],.str [112,101,114,105,111,100],.str [99,111,109,109,97],.str [104,121,112,104,101,110],.str [99,111,108,111,110],.str [122,101,114,111],.str [111,110,101],.str [116,119,111],.str [116,104,114,101,101],.str [102,111,117,114],.str [102,105,118,101],.str [115,105,120],.str [115,101,118,101,110],.str [101,105,103,104,116],.str [110,105,110,101]]:List D) (i:Int)=some (.str (q2s.getD i [])):=fun i h=>by
  rw[q0d];show(q2s.map D.str)[i]?=_
  rw[Zae,List.getD_eq_getElem?_getD,Zaf (show i<q2s.length from h)];rfl
 have hsd:∀i:Nat,i<15→cutI ([32,46,44,45,58,48,49,50,51,52,53,54,55,56,57]:List UInt8) (i:Int) ((i:Int)+1)=[q72.getD i 0]:=fun i h=>by
  have:i=0∨i=1∨i=2∨i=3∨i=4∨i=5∨i=6∨i=7∨i=8∨i=9∨i=10∨i=11∨i=12∨i=13∨i=14:=by omega
  rcases this with rfl|rfl|rfl|rfl|rfl|rfl|rfl|rfl|rfl|rfl|rfl|rfl|rfl|rfl|rfl<;>rfl
 have hcut:cutI s 0 3=s.take 3:=rfl;have hlet:∀c,s=[c]→letter s=(decide (97≤c.toNat)&&decide (c.toNat≤122) || decide (65≤c.toNat)&&decide (c.toNat≤90)):=fun c h=>by rw[h];rfl
 by_cases h1:s.length=1
 ·obtain⟨c,hc⟩:=Zch.1 h1;have hc8:=q3s c;have g0:getI s 0=some c:=by rw[hc];rfl
  have zl1:((s.length:Int)=1)=True:=eq_true (by omega);rw[hlet c hc]at hG
  by_cases a1:97≤c.toNat∧c.toNat≤122
  ·have z1:(97≤(c.toNat:Int))=True:=eq_true (by omega);have z2:((c.toNat:Int)≤122)=True:=eq_true (by omega);rw[if_pos (by simp;omega)]at hG;simp(disch:=omega)only[go_sem,↓reduceIte,q0Q,q0R,g0,zl1,z1,z2];rw[←hG];rfl
  ·by_cases a2:65≤c.toNat∧c.toNat≤90
   ·have z1:(97≤(c.toNat:Int))=False:=eq_false (by omega);have z3:(65≤(c.toNat:Int))=True:=eq_true (by omega);have z4:((c.toNat:Int)≤90)=True:=eq_true (by omega);rw[if_pos (by simp;omega)]at hG;simp(disch:=omega)only[go_sem,↓reduceIte,q0Q,q0R,g0,zl1,z1,z3,z4];rw[←hG];rfl
   ·rw[if_neg (by simp;omega)]at hG;generalize hX:uniM s=X at hG
    by_cases a3:c.toNat<65
    ·have z1:(97≤(c.toNat:Int))=False:=eq_false (by omega);have z3:(65≤(c.toNat:Int))=False:=eq_false (by omega);simp(disch:=omega)only[go_sem,↓reduceIte,q0Q,q0R,g0,zl1,z1,z3]
     refine q0j (fun i:Nat=>⟨[(0,.d (.str s)),(4,.own (.t 4) 9 1 [.str [115,112,97,99,101],.str [112,101,114,105,111,100],.str [99,111,109,109,97],.str [104,121,112,104,101,110],.str [99,111,108,111,110],.str [122,101,114,111],.str [111,110,101],.str [116,119,111],.str [116,104,114,101,101],.str [102,111,117,114],.str [102,105,118,101],.str [115,105,120],.str [115,101,118,101,110],.str [101,105,103,104,116],.str [110,105,110,101]]),(5,.d (.str [32,46,44,45,58,48,49,50,51,52,53,54,55,56,57])),(6,.d (.int .i64 i))],[],[]⟩)
      (fun i=>i≤15∧z8n (look (q2s.drop i) (q72.drop i) s) X=G) (fun i=>15-i) 0 ?_ ?_ ?_
     ·refine q0h ?_ trivial;simp only[go_sem,↓reduceIte,Sub,Int.natCast_add,Int.natCast_mul]
     ·exact⟨by omega,hG⟩
     ·rintro i ⟨hi,hF⟩
      by_cases hlt:i<15
      ·have zl:((i:Int)<15)=True:=eq_true (by omega);rw[z0n hlt]at hF;have g1:=hgd i hlt;have g2:=hsd i hlt
       by_cases hq:s=q2s.getD i []
       ·rw[if_pos hq]at hF;have zq:(q2s.getD i []=s)=True:=eq_true hq.symm;simp(disch:=omega)only[go_sem,↓reduceIte,zl,g1,g2,zq];refine⟨by omega,?_⟩;rw[←hF];rfl
       ·rw[if_neg hq]at hF;have zq:(q2s.getD i []=s)=False:=eq_false fun h=>hq h.symm
        simp(disch:=omega)only[go_sem,↓reduceIte,zl,g1,zq];refine⟨i+1,?_,⟨by omega,hF⟩,by omega⟩;refine q0h ?_ trivial;simp only[go_sem,↓reduceIte,Sub,Int.natCast_add,Int.natCast_mul]
      ·have zl:((i:Int)<15)=False:=eq_false (by omega);have hi15:i=15:=by omega
       subst hi15;have hX0:X=G:=hF;subst hX0;subst hX;unfold uniM
       by_cases h7:s.length=7
       ·have z7:((s.length:Int)=7)=True:=eq_true (by omega)
        by_cases hu:s.take 3=[117,110,105]
        ·have hb:¬(s.length≠7∨s.take 3≠[117,110,105]):=by rintro(h|h);exact h h7;exact h hu
         rw[if_neg hb];generalize hR:surM (q2R (s.drop 3) 0)=R;simp(disch:=omega)only[go_sem,↓reduceIte,zl,z7,hcut,hu];refine⟨by omega,?_⟩;refine q0j (fun y:Nat×Nat=>⟨[(0,.d (.str s)),(7,.d (.int .i64 y.2)),(8,.d (.int .i64 y.1))],[],[]⟩)
          (fun y=>3≤y.1∧y.1≤7∧y.2<16 ^ (y.1-3)∧surM (q2R (s.drop y.1) y.2)=R) (fun y=>7-y.1) (3,0) ?_ ?_ ?_
         ·refine q0h ?_ trivial;simp only[go_sem,↓reduceIte,Sub,Int.natCast_add,Int.natCast_mul]
         ·exact⟨by simp,by simp,by simp,hR⟩
         ·rintro⟨i,n⟩ ⟨h3,hi7,hn,hF⟩;simp only at h3 hi7 hn hF;have hpow:16 ^ (i-3)≤65536:=by
           have:i-3=0∨i-3=1∨i-3=2∨i-3=3∨i-3=4:=by omega
           rcases this with h|h|h|h|h<;>rw[h]<;>decide
          by_cases hi:i<7
          ·have z8:((i:Int)<7)=True:=eq_true (by omega);obtain⟨c,hc⟩:=get_some (l:=s) (i:=i) (by omega);have hc8:=q3s c;rw[q07 hc,q2R]at hF;simp(disch:=omega)only[go_sem,↓reduceIte,z8,q0d,hc];refine q0i.of (q8T c.toNat hc8) ?_;cases hd:hexD c.toNat with
           |none=>
            rw[hd]at hF;simp only[surM]at hF;have hk:=(z5e hc8).2 hd;have fin:Res.tup [D.str [],D.bool false]=q1n R:=by rw[←hF];rfl
            by_cases hk1:hexI c.toNat<0
            ·have z9:=eq_true hk1;simp(disch:=omega)only[go_sem,↓reduceIte,z9,q0d,hc];exact fin
            ·have z9:=eq_false hk1;have z10:(97≤(c.toNat:Int))=True:=eq_true (by omega);simp(disch:=omega)only[go_sem,↓reduceIte,z9,z10,q0d,hc];exact fin
           |some d=>
            rw[hd]at hF;simp only at hF;obtain⟨k1,k2⟩:=z5d hd;have k3:=z0V hd;rw[k1];have z9:((d:Int)<0)=False:=eq_false (by omega);have z10:(97≤(c.toNat:Int))=False:=eq_false (by omega);simp(disch:=omega)only[go_sem,↓reduceIte,z9,z10,q0d,hc];refine⟨(i+1,16*n+d),?_,⟨by simp only;omega,by simp only;omega,?_,hF⟩,by simp only;omega⟩
            ·refine q0h ?_ trivial;simp only[go_sem,↓reduceIte,Sub,Int.natCast_add,Int.natCast_mul]
            ·simp only;rw[show i+1-3=(i-3)+1 by omega,Nat.pow_succ];omega
          ·have z8:((i:Int)<7)=False:=eq_false (by omega);have hi':i=7:=by omega
           subst hi';rw[Zah (by omega)]at hF;simp only[q2R,surM]at hF
           by_cases hsur:55296≤n∧n<57344
           ·rw[if_pos hsur]at hF;have z9:(55295<(n:Int))=True:=eq_true (by omega);have z10:((n:Int)<57344)=True:=eq_true (by omega);simp(disch:=omega)only[go_sem,↓reduceIte,z8,z9,z10];rw[←hF];rfl
           ·rw[if_neg hsur]at hF;have hvr:q3m n:=by unfold q3m;omega
            by_cases h9:55295<n
            ·have z9:(55295<(n:Int))=True:=eq_true (by omega);have z10:((n:Int)<57344)=False:=eq_false (by omega);simp(disch:=omega)only[go_sem,↓reduceIte,z8,z9,z10];refine q0i.of (q2K [n] (by simpa using hvr) (by simp)) ?_;simp only[go_sem,↓reduceIte];rw[←hF];simp[q1n,encM]
            ·have z9:(55295<(n:Int))=False:=eq_false (by omega);simp(disch:=omega)only[go_sem,↓reduceIte,z8,z9];refine q0i.of (q2K [n] (by simpa using hvr) (by simp)) ?_;simp only[go_sem,↓reduceIte];rw[←hF];simp[q1n,encM]
        ·rw[if_pos (.inr hu)];simp(disch:=omega)only[go_sem,↓reduceIte,zl,z7,hcut,hu];exact⟨by omega,rfl⟩
       ·have z7:((s.length:Int)=7)=False:=eq_false (by omega);rw[if_pos (.inl h7)];simp(disch:=omega)only[go_sem,↓reduceIte,zl,z7];rfl
    ·by_cases a4:c.toNat<97
     ·have z1:(97≤(c.toNat:Int))=False:=eq_false (by omega);have z3:(65≤(c.toNat:Int))=True:=eq_true (by omega);have z4:((c.toNat:Int)≤90)=False:=eq_false (by omega);simp(disch:=omega)only[go_sem,↓reduceIte,q0Q,q0R,g0,zl1,z1,z3,z4]
      refine q0j (fun i:Nat=>⟨[(0,.d (.str s)),(4,.own (.t 4) 9 1 [.str [115,112,97,99,101],.str [112,101,114,105,111,100],.str [99,111,109,109,97],.str [104,121,112,104,101,110],.str [99,111,108,111,110],.str [122,101,114,111],.str [111,110,101],.str [116,119,111],.str [116,104,114,101,101],.str [102,111,117,114],.str [102,105,118,101],.str [115,105,120],.str [115,101,118,101,110],.str [101,105,103,104,116],.str [110,105,110,101]]),(5,.d (.str [32,46,44,45,58,48,49,50,51,52,53,54,55,56,57])),(6,.d (.int .i64 i))],[],[]⟩)
       (fun i=>i≤15∧z8n (look (q2s.drop i) (q72.drop i) s) X=G) (fun i=>15-i) 0 ?_ ?_ ?_
      ·refine q0h ?_ trivial;simp only[go_sem,↓reduceIte,Sub,Int.natCast_add,Int.natCast_mul]
      ·exact⟨by omega,hG⟩
      ·rintro i ⟨hi,hF⟩
       by_cases hlt:i<15
       ·have zl:((i:Int)<15)=True:=eq_true (by omega);rw[z0n hlt]at hF;have g1:=hgd i hlt;have g2:=hsd i hlt
        by_cases hq:s=q2s.getD i []
        ·rw[if_pos hq]at hF;have zq:(q2s.getD i []=s)=True:=eq_true hq.symm;simp(disch:=omega)only[go_sem,↓reduceIte,zl,g1,g2,zq];refine⟨by omega,?_⟩;rw[←hF];rfl
        ·rw[if_neg hq]at hF;have zq:(q2s.getD i []=s)=False:=eq_false fun h=>hq h.symm
         simp(disch:=omega)only[go_sem,↓reduceIte,zl,g1,zq];refine⟨i+1,?_,⟨by omega,hF⟩,by omega⟩;refine q0h ?_ trivial;simp only[go_sem,↓reduceIte,Sub,Int.natCast_add,Int.natCast_mul]
       ·have zl:((i:Int)<15)=False:=eq_false (by omega);have hi15:i=15:=by omega
        subst hi15;have hX0:X=G:=hF;subst hX0;subst hX;unfold uniM
        by_cases h7:s.length=7
        ·have z7:((s.length:Int)=7)=True:=eq_true (by omega)
         by_cases hu:s.take 3=[117,110,105]
         ·have hb:¬(s.length≠7∨s.take 3≠[117,110,105]):=by rintro(h|h);exact h h7;exact h hu
          rw[if_neg hb];generalize hR:surM (q2R (s.drop 3) 0)=R;simp(disch:=omega)only[go_sem,↓reduceIte,zl,z7,hcut,hu];refine⟨by omega,?_⟩;refine q0j (fun y:Nat×Nat=>⟨[(0,.d (.str s)),(7,.d (.int .i64 y.2)),(8,.d (.int .i64 y.1))],[],[]⟩)
           (fun y=>3≤y.1∧y.1≤7∧y.2<16 ^ (y.1-3)∧surM (q2R (s.drop y.1) y.2)=R) (fun y=>7-y.1) (3,0) ?_ ?_ ?_
          ·refine q0h ?_ trivial;simp only[go_sem,↓reduceIte,Sub,Int.natCast_add,Int.natCast_mul]
          ·exact⟨by simp,by simp,by simp,hR⟩
          ·rintro⟨i,n⟩ ⟨h3,hi7,hn,hF⟩;simp only at h3 hi7 hn hF;have hpow:16 ^ (i-3)≤65536:=by
            have:i-3=0∨i-3=1∨i-3=2∨i-3=3∨i-3=4:=by omega
            rcases this with h|h|h|h|h<;>rw[h]<;>decide
           by_cases hi:i<7
           ·have z8:((i:Int)<7)=True:=eq_true (by omega);obtain⟨c,hc⟩:=get_some (l:=s) (i:=i) (by omega);have hc8:=q3s c;rw[q07 hc,q2R]at hF;simp(disch:=omega)only[go_sem,↓reduceIte,z8,q0d,hc];refine q0i.of (q8T c.toNat hc8) ?_;cases hd:hexD c.toNat with
            |none=>
             rw[hd]at hF;simp only[surM]at hF;have hk:=(z5e hc8).2 hd;have fin:Res.tup [D.str [],D.bool false]=q1n R:=by rw[←hF];rfl
             by_cases hk1:hexI c.toNat<0
             ·have z9:=eq_true hk1;simp(disch:=omega)only[go_sem,↓reduceIte,z9,q0d,hc];exact fin
             ·have z9:=eq_false hk1;have z10:(97≤(c.toNat:Int))=True:=eq_true (by omega);simp(disch:=omega)only[go_sem,↓reduceIte,z9,z10,q0d,hc];exact fin
            |some d=>
             rw[hd]at hF;simp only at hF;obtain⟨k1,k2⟩:=z5d hd;have k3:=z0V hd;rw[k1];have z9:((d:Int)<0)=False:=eq_false (by omega);have z10:(97≤(c.toNat:Int))=False:=eq_false (by omega);simp(disch:=omega)only[go_sem,↓reduceIte,z9,z10,q0d,hc];refine⟨(i+1,16*n+d),?_,⟨by simp only;omega,by simp only;omega,?_,hF⟩,by simp only;omega⟩
             ·refine q0h ?_ trivial;simp only[go_sem,↓reduceIte,Sub,Int.natCast_add,Int.natCast_mul]
             ·simp only;rw[show i+1-3=(i-3)+1 by omega,Nat.pow_succ];omega
           ·have z8:((i:Int)<7)=False:=eq_false (by omega);have hi':i=7:=by omega
            subst hi';rw[Zah (by omega)]at hF;simp only[q2R,surM]at hF
            by_cases hsur:55296≤n∧n<57344
            ·rw[if_pos hsur]at hF;have z9:(55295<(n:Int))=True:=eq_true (by omega);have z10:((n:Int)<57344)=True:=eq_true (by omega);simp(disch:=omega)only[go_sem,↓reduceIte,z8,z9,z10];rw[←hF];rfl
            ·rw[if_neg hsur]at hF;have hvr:q3m n:=by unfold q3m;omega
             by_cases h9:55295<n
             ·have z9:(55295<(n:Int))=True:=eq_true (by omega);have z10:((n:Int)<57344)=False:=eq_false (by omega);simp(disch:=omega)only[go_sem,↓reduceIte,z8,z9,z10];refine q0i.of (q2K [n] (by simpa using hvr) (by simp)) ?_;simp only[go_sem,↓reduceIte];rw[←hF];simp[q1n,encM]
             ·have z9:(55295<(n:Int))=False:=eq_false (by omega);simp(disch:=omega)only[go_sem,↓reduceIte,z8,z9];refine q0i.of (q2K [n] (by simpa using hvr) (by simp)) ?_;simp only[go_sem,↓reduceIte];rw[←hF];simp[q1n,encM]
         ·rw[if_pos (.inr hu)];simp(disch:=omega)only[go_sem,↓reduceIte,zl,z7,hcut,hu];exact⟨by omega,rfl⟩
        ·have z7:((s.length:Int)=7)=False:=eq_false (by omega);rw[if_pos (.inl h7)];simp(disch:=omega)only[go_sem,↓reduceIte,zl,z7];rfl
     ·have z1:(97≤(c.toNat:Int))=True:=eq_true (by omega);have z2:((c.toNat:Int)≤122)=False:=eq_false (by omega);have z3:(65≤(c.toNat:Int))=True:=eq_true (by omega);have z4:((c.toNat:Int)≤90)=False:=eq_false (by omega);simp(disch:=omega)only[go_sem,↓reduceIte,q0Q,q0R,g0,zl1,z1,z2,z3,z4]
      refine q0j (fun i:Nat=>⟨[(0,.d (.str s)),(4,.own (.t 4) 9 1 [.str [115,112,97,99,101],.str [112,101,114,105,111,100],.str [99,111,109,109,97],.str [104,121,112,104,101,110],.str [99,111,108,111,110],.str [122,101,114,111],.str [111,110,101],.str [116,119,111],.str [116,104,114,101,101],.str [102,111,117,114],.str [102,105,118,101],.str [115,105,120],.str [115,101,118,101,110],.str [101,105,103,104,116],.str [110,105,110,101]]),(5,.d (.str [32,46,44,45,58,48,49,50,51,52,53,54,55,56,57])),(6,.d (.int .i64 i))],[],[]⟩)
       (fun i=>i≤15∧z8n (look (q2s.drop i) (q72.drop i) s) X=G) (fun i=>15-i) 0 ?_ ?_ ?_
      ·refine q0h ?_ trivial;simp only[go_sem,↓reduceIte,Sub,Int.natCast_add,Int.natCast_mul]
      ·exact⟨by omega,hG⟩
      ·rintro i ⟨hi,hF⟩
       by_cases hlt:i<15
       ·have zl:((i:Int)<15)=True:=eq_true (by omega);rw[z0n hlt]at hF;have g1:=hgd i hlt;have g2:=hsd i hlt
        by_cases hq:s=q2s.getD i []
        ·rw[if_pos hq]at hF;have zq:(q2s.getD i []=s)=True:=eq_true hq.symm;simp(disch:=omega)only[go_sem,↓reduceIte,zl,g1,g2,zq];refine⟨by omega,?_⟩;rw[←hF];rfl
        ·rw[if_neg hq]at hF;have zq:(q2s.getD i []=s)=False:=eq_false fun h=>hq h.symm
         simp(disch:=omega)only[go_sem,↓reduceIte,zl,g1,zq];refine⟨i+1,?_,⟨by omega,hF⟩,by omega⟩;refine q0h ?_ trivial;simp only[go_sem,↓reduceIte,Sub,Int.natCast_add,Int.natCast_mul]
       ·have zl:((i:Int)<15)=False:=eq_false (by omega);have hi15:i=15:=by omega
        subst hi15;have hX0:X=G:=hF;subst hX0;subst hX;unfold uniM
        by_cases h7:s.length=7
        ·have z7:((s.length:Int)=7)=True:=eq_true (by omega)
         by_cases hu:s.take 3=[117,110,105]
         ·have hb:¬(s.length≠7∨s.take 3≠[117,110,105]):=by rintro(h|h);exact h h7;exact h hu
          rw[if_neg hb];generalize hR:surM (q2R (s.drop 3) 0)=R;simp(disch:=omega)only[go_sem,↓reduceIte,zl,z7,hcut,hu];refine⟨by omega,?_⟩;refine q0j (fun y:Nat×Nat=>⟨[(0,.d (.str s)),(7,.d (.int .i64 y.2)),(8,.d (.int .i64 y.1))],[],[]⟩)
           (fun y=>3≤y.1∧y.1≤7∧y.2<16 ^ (y.1-3)∧surM (q2R (s.drop y.1) y.2)=R) (fun y=>7-y.1) (3,0) ?_ ?_ ?_
          ·refine q0h ?_ trivial;simp only[go_sem,↓reduceIte,Sub,Int.natCast_add,Int.natCast_mul]
          ·exact⟨by simp,by simp,by simp,hR⟩
          ·rintro⟨i,n⟩ ⟨h3,hi7,hn,hF⟩;simp only at h3 hi7 hn hF;have hpow:16 ^ (i-3)≤65536:=by
            have:i-3=0∨i-3=1∨i-3=2∨i-3=3∨i-3=4:=by omega
            rcases this with h|h|h|h|h<;>rw[h]<;>decide
           by_cases hi:i<7
           ·have z8:((i:Int)<7)=True:=eq_true (by omega);obtain⟨c,hc⟩:=get_some (l:=s) (i:=i) (by omega);have hc8:=q3s c;rw[q07 hc,q2R]at hF;simp(disch:=omega)only[go_sem,↓reduceIte,z8,q0d,hc];refine q0i.of (q8T c.toNat hc8) ?_;cases hd:hexD c.toNat with
            |none=>
             rw[hd]at hF;simp only[surM]at hF;have hk:=(z5e hc8).2 hd;have fin:Res.tup [D.str [],D.bool false]=q1n R:=by rw[←hF];rfl
             by_cases hk1:hexI c.toNat<0
             ·have z9:=eq_true hk1;simp(disch:=omega)only[go_sem,↓reduceIte,z9,q0d,hc];exact fin
             ·have z9:=eq_false hk1;have z10:(97≤(c.toNat:Int))=True:=eq_true (by omega);simp(disch:=omega)only[go_sem,↓reduceIte,z9,z10,q0d,hc];exact fin
            |some d=>
             rw[hd]at hF;simp only at hF;obtain⟨k1,k2⟩:=z5d hd;have k3:=z0V hd;rw[k1];have z9:((d:Int)<0)=False:=eq_false (by omega);have z10:(97≤(c.toNat:Int))=False:=eq_false (by omega);simp(disch:=omega)only[go_sem,↓reduceIte,z9,z10,q0d,hc];refine⟨(i+1,16*n+d),?_,⟨by simp only;omega,by simp only;omega,?_,hF⟩,by simp only;omega⟩
             ·refine q0h ?_ trivial;simp only[go_sem,↓reduceIte,Sub,Int.natCast_add,Int.natCast_mul]
             ·simp only;rw[show i+1-3=(i-3)+1 by omega,Nat.pow_succ];omega
           ·have z8:((i:Int)<7)=False:=eq_false (by omega);have hi':i=7:=by omega
            subst hi';rw[Zah (by omega)]at hF;simp only[q2R,surM]at hF
            by_cases hsur:55296≤n∧n<57344
            ·rw[if_pos hsur]at hF;have z9:(55295<(n:Int))=True:=eq_true (by omega);have z10:((n:Int)<57344)=True:=eq_true (by omega);simp(disch:=omega)only[go_sem,↓reduceIte,z8,z9,z10];rw[←hF];rfl
            ·rw[if_neg hsur]at hF;have hvr:q3m n:=by unfold q3m;omega
             by_cases h9:55295<n
             ·have z9:(55295<(n:Int))=True:=eq_true (by omega);have z10:((n:Int)<57344)=False:=eq_false (by omega);simp(disch:=omega)only[go_sem,↓reduceIte,z8,z9,z10];refine q0i.of (q2K [n] (by simpa using hvr) (by simp)) ?_;simp only[go_sem,↓reduceIte];rw[←hF];simp[q1n,encM]
             ·have z9:(55295<(n:Int))=False:=eq_false (by omega);simp(disch:=omega)only[go_sem,↓reduceIte,z8,z9];refine q0i.of (q2K [n] (by simpa using hvr) (by simp)) ?_;simp only[go_sem,↓reduceIte];rw[←hF];simp[q1n,encM]
         ·rw[if_pos (.inr hu)];simp(disch:=omega)only[go_sem,↓reduceIte,zl,z7,hcut,hu];exact⟨by omega,rfl⟩
        ·have z7:((s.length:Int)=7)=False:=eq_false (by omega);rw[if_pos (.inl h7)];simp(disch:=omega)only[go_sem,↓reduceIte,zl,z7];rfl
 ·have zl1:((s.length:Int)=1)=False:=eq_false (by omega);have hl0:letter s=false:=by unfold letter;rw[decide_eq_false h1];rfl
  rw[hl0,if_neg (by decide)]at hG;generalize hX:uniM s=X at hG;simp(disch:=omega)only[go_sem,↓reduceIte,q0Q,q0R,zl1]
  refine q0j (fun i:Nat=>⟨[(0,.d (.str s)),(4,.own (.t 4) 9 1 [.str [115,112,97,99,101],.str [112,101,114,105,111,100],.str [99,111,109,109,97],.str [104,121,112,104,101,110],.str [99,111,108,111,110],.str [122,101,114,111],.str [111,110,101],.str [116,119,111],.str [116,104,114,101,101],.str [102,111,117,114],.str [102,105,118,101],.str [115,105,120],.str [115,101,118,101,110],.str [101,105,103,104,116],.str [110,105,110,101]]),(5,.d (.str [32,46,44,45,58,48,49,50,51,52,53,54,55,56,57])),(6,.d (.int .i64 i))],[],[]⟩)
   (fun i=>i≤15∧z8n (look (q2s.drop i) (q72.drop i) s) X=G) (fun i=>15-i) 0 ?_ ?_ ?_
  ·refine q0h ?_ trivial;simp only[go_sem,↓reduceIte,Sub,Int.natCast_add,Int.natCast_mul]
  ·exact⟨by omega,hG⟩
  ·rintro i ⟨hi,hF⟩
   by_cases hlt:i<15
   ·have zl:((i:Int)<15)=True:=eq_true (by omega);rw[z0n hlt]at hF;have g1:=hgd i hlt;have g2:=hsd i hlt
    by_cases hq:s=q2s.getD i []
    ·rw[if_pos hq]at hF;have zq:(q2s.getD i []=s)=True:=eq_true hq.symm;simp(disch:=omega)only[go_sem,↓reduceIte,zl,g1,g2,zq];refine⟨by omega,?_⟩;rw[←hF];rfl
    ·rw[if_neg hq]at hF;have zq:(q2s.getD i []=s)=False:=eq_false fun h=>hq h.symm
     simp(disch:=omega)only[go_sem,↓reduceIte,zl,g1,zq];refine⟨i+1,?_,⟨by omega,hF⟩,by omega⟩;refine q0h ?_ trivial;simp only[go_sem,↓reduceIte,Sub,Int.natCast_add,Int.natCast_mul]
   ·have zl:((i:Int)<15)=False:=eq_false (by omega);have hi15:i=15:=by omega
    subst hi15;have hX0:X=G:=hF;subst hX0;subst hX;unfold uniM
    by_cases h7:s.length=7
    ·have z7:((s.length:Int)=7)=True:=eq_true (by omega)
     by_cases hu:s.take 3=[117,110,105]
     ·have hb:¬(s.length≠7∨s.take 3≠[117,110,105]):=by rintro(h|h);exact h h7;exact h hu
      rw[if_neg hb];generalize hR:surM (q2R (s.drop 3) 0)=R;simp(disch:=omega)only[go_sem,↓reduceIte,zl,z7,hcut,hu];refine⟨by omega,?_⟩;refine q0j (fun y:Nat×Nat=>⟨[(0,.d (.str s)),(7,.d (.int .i64 y.2)),(8,.d (.int .i64 y.1))],[],[]⟩)
       (fun y=>3≤y.1∧y.1≤7∧y.2<16 ^ (y.1-3)∧surM (q2R (s.drop y.1) y.2)=R) (fun y=>7-y.1) (3,0) ?_ ?_ ?_
      ·refine q0h ?_ trivial;simp only[go_sem,↓reduceIte,Sub,Int.natCast_add,Int.natCast_mul]
      ·exact⟨by simp,by simp,by simp,hR⟩
      ·rintro⟨i,n⟩ ⟨h3,hi7,hn,hF⟩;simp only at h3 hi7 hn hF;have hpow:16 ^ (i-3)≤65536:=by
        have:i-3=0∨i-3=1∨i-3=2∨i-3=3∨i-3=4:=by omega
        rcases this with h|h|h|h|h<;>rw[h]<;>decide
       by_cases hi:i<7
       ·have z8:((i:Int)<7)=True:=eq_true (by omega);obtain⟨c,hc⟩:=get_some (l:=s) (i:=i) (by omega);have hc8:=q3s c;rw[q07 hc,q2R]at hF;simp(disch:=omega)only[go_sem,↓reduceIte,z8,q0d,hc];refine q0i.of (q8T c.toNat hc8) ?_;cases hd:hexD c.toNat with
        |none=>
         rw[hd]at hF;simp only[surM]at hF;have hk:=(z5e hc8).2 hd;have fin:Res.tup [D.str [],D.bool false]=q1n R:=by rw[←hF];rfl
         by_cases hk1:hexI c.toNat<0
         ·have z9:=eq_true hk1;simp(disch:=omega)only[go_sem,↓reduceIte,z9,q0d,hc];exact fin
         ·have z9:=eq_false hk1;have z10:(97≤(c.toNat:Int))=True:=eq_true (by omega);simp(disch:=omega)only[go_sem,↓reduceIte,z9,z10,q0d,hc];exact fin
        |some d=>
         rw[hd]at hF;simp only at hF;obtain⟨k1,k2⟩:=z5d hd;have k3:=z0V hd;rw[k1];have z9:((d:Int)<0)=False:=eq_false (by omega);have z10:(97≤(c.toNat:Int))=False:=eq_false (by omega);simp(disch:=omega)only[go_sem,↓reduceIte,z9,z10,q0d,hc];refine⟨(i+1,16*n+d),?_,⟨by simp only;omega,by simp only;omega,?_,hF⟩,by simp only;omega⟩
         ·refine q0h ?_ trivial;simp only[go_sem,↓reduceIte,Sub,Int.natCast_add,Int.natCast_mul]
         ·simp only;rw[show i+1-3=(i-3)+1 by omega,Nat.pow_succ];omega
       ·have z8:((i:Int)<7)=False:=eq_false (by omega);have hi':i=7:=by omega
        subst hi';rw[Zah (by omega)]at hF;simp only[q2R,surM]at hF
        by_cases hsur:55296≤n∧n<57344
        ·rw[if_pos hsur]at hF;have z9:(55295<(n:Int))=True:=eq_true (by omega);have z10:((n:Int)<57344)=True:=eq_true (by omega);simp(disch:=omega)only[go_sem,↓reduceIte,z8,z9,z10];rw[←hF];rfl
        ·rw[if_neg hsur]at hF;have hvr:q3m n:=by unfold q3m;omega
         by_cases h9:55295<n
         ·have z9:(55295<(n:Int))=True:=eq_true (by omega);have z10:((n:Int)<57344)=False:=eq_false (by omega);simp(disch:=omega)only[go_sem,↓reduceIte,z8,z9,z10];refine q0i.of (q2K [n] (by simpa using hvr) (by simp)) ?_;simp only[go_sem,↓reduceIte];rw[←hF];simp[q1n,encM]
         ·have z9:(55295<(n:Int))=False:=eq_false (by omega);simp(disch:=omega)only[go_sem,↓reduceIte,z8,z9];refine q0i.of (q2K [n] (by simpa using hvr) (by simp)) ?_;simp only[go_sem,↓reduceIte];rw[←hF];simp[q1n,encM]
     ·rw[if_pos (.inr hu)];simp(disch:=omega)only[go_sem,↓reduceIte,zl,z7,hcut,hu];exact⟨by omega,rfl⟩
    ·have z7:((s.length:Int)=7)=False:=eq_false (by omega);rw[if_pos (.inl h7)];simp(disch:=omega)only[go_sem,↓reduceIte,zl,z7];rfl
structure Fnt where
 wide:Bool
 ws:List (Int×Int)
 miss:Int
 ns:List (Int×List UInt8)
 cs:List Span
def q2A{α:Type}(l:List (Int×α)):List D:=l.map fun p=>.int .i64 p.1
def q7Z(l:List (Int×Int)):List D:=l.map fun p=>.int .i64 p.2
def q7U(l:List (Int×List UInt8)):List D:=l.map fun p=>.str p.2
def Fnt.d(x:Fnt):D:=.agg [.bool x.wide,.map (q2A x.ws) (q7Z x.ws),.int .i64 x.miss,.map (q2A x.ns) (q7U x.ns),.list (q1s x.cs)]
def assoc{α:Type}:List (Int×α)→Int→Option α
 |[],_=>none
 |p::r,c=>if c=p.1 then some p.2 else assoc r c
theorem z4R(l:List (Int×Int))(c:Int):q3g (q2A l) (q7Z l) (.int .i64 c)=(assoc l c).map (D.int .i64):=by
 induction l with
 |nil=>rfl
 |cons p r ih=>
  simp only[q2A,q7Z,Zai,q3g,z0X,beq_iff_eq,assoc]at ih ⊢;split
  ·rfl
  ·exact ih
theorem z7t(l:List (Int×List UInt8))(c:Int):q3g (q2A l) (q7U l) (.int .i64 c)=(assoc l c).map D.str:=by
 induction l with
 |nil=>rfl
 |cons p r ih=>
  simp only[q2A,q7U,Zai,q3g,z0X,beq_iff_eq,assoc]at ih ⊢;split
  ·rfl
  ·exact ih
theorem q5n{α:Type}(l:List (Int×α)):∀k∈q2A l,q0Y (.int .i64) k=true:=fun k hk=>by
 obtain⟨p,_,rfl⟩:=Zak.1 hk;rfl
theorem q9Z{α:Type}:∀{l:List (Int×α)} {c:Int} {v:α},assoc l c=some v→∃p∈l,p.2=v
 |[],c,v,h=>by cases h
 |p::r,c,v,h=>by
  simp only[assoc]at h;split at h
  ·cases h;exact⟨p,by simp,rfl⟩
  ·obtain⟨q,q1,q2⟩:=q9Z h;exact⟨q,by simp[q1],q2⟩
structure Fnt.ok(x:Fnt):Prop where
 cs:∀s∈x.cs,j6c s
 cl:x.cs.length≤1000000
 nl:∀p∈x.ns,p.2.length≤1000000
def q4d(x:Fnt)(c:Int):List UInt8:=
 match q8q x.cs c with
 |some t=>t
 |none=>if x.wide=true then[]else
  match assoc x.ns c with
  |some n=>(q8x n).getD []
  |none=>if 32≤c∧c≤126 then[UInt8.ofNat c.toNat]else[]
theorem j2o:Tryz.prog.underlying 59=some (.map 3 9):=by kernel_rfl
theorem j0p:Tryz.prog.underlying 58=some (.map 3 3):=by kernel_rfl
theorem intT:Tryz.prog.underlying 3=some (.int .i64):=by kernel_rfl
theorem j7D:Program.zeroOf Tryz.prog 9=some (.str []):=by kernel_rfl
theorem j4p:Program.zeroOf Tryz.prog 3=some (.int .i64 0):=by kernel_rfl
theorem j1d{c:Nat}(h:c<128):(Utf8.encode (c:Int)).data.toList=[UInt8.ofNat c]:=by
 rw[z0S (by unfold q3m;omega)];rcases q7v (r:=c) (by unfold q3m;omega)with⟨_,e⟩|⟨a,_,_⟩|⟨a,_,_⟩|⟨a,_,_⟩
 ·exact e
 all_goals omega
def z19:q0m:=
 .seq (.reg [⟨some 2,.box (.t 0),none⟩,Qx 4 (.k (.d (.str [])))]) (.seq (.reg [Q 10 (.fa 4 (.t 2)),Q 11 (.ld false 1 (.t 10)),Qc 12 1,⟨some 13,.call 132 [.t 11,.t 12], 
 none⟩,Qc 9 13,Q 14 (.ext 0 (.t 9)),Q 15 (.ext 1 (.t 9)),Qa 5 14,Qa 6 15]) (.seq (.seq (.reg [Qc 16 6]) (.cond (.t 16) (.seq (.reg [Qc 17 5,Qa 4 17]) .ret) .skip)) (.seq 
 (.seq (.reg [Q 18 (.fa 0 (.t 2)),Q 19 (.ld false 1 (.t 18))]) (.cond (.t 19) (.seq (.reg [Qx 4 (.k (.d (.str [])))]) .ret) .skip)) (.seq (.reg [Q 21 (.fa 3 (.t 2)),Q 22 (.ld 
 false 1 (.t 21)),Qc 23 1,⟨some 24,.prim (.lookup 59 true) [.t 22,.t 23] [],none⟩,Qc 20 24,Q 25 (.ext 0 (.t 20)),Q 26 (.ext 1 (.t 20)),Qa 7 25,Qa 8 26]) (.seq (.seq 
 (.reg [Qc 27 8]) (.cond (.t 27) (.seq (.reg [Qc 29 7,⟨some 30,.call 133 [.t 29],none⟩,Qc 28 30,Q 31 (.ext 0 (.t 28)),Q 32 (.ext 1 (.t 28)),Qa 5 31]) (.seq (.reg [Qc 33 5, 
 Qa 4 33]) .ret)) .skip)) (.seq (.seq (.reg [Qc 34 1,Q 35 (.bin .geq (.t 34) (Ki 32)),Qc 36 35,Qd 37 1 36 true,Qg 38 (.bin .leq (.t 37) (Ki 126)) 36 true,Q 39 (.pick (.t 36) 
 (.t 38) KF)]) (.cond (.t 39) (.seq (.reg [Qc 40 1,Q 41 (.cvI .i32 (.t 40)),Q 42 (.i2s (.t 41)),Qa 4 42]) .ret) .skip)) (.seq (.reg [Qx 4 (.k (.d (.str [])))]) .ret)))))))
def z2g:List LRes:=[.tmp 4]
theorem z3S:q0t Tryz.prog 116 43 z19 z2g:=⟨_,_,Tryz.func116,rfl,by kernel_rfl,by kernel_rfl,rfl⟩
theorem q8S(x:Fnt)(hx:x.ok)(c:Int)(hc:0≤c∧c≤65535):q0y Tryz.prog 116 [x.d,.int .i64 c] (fun r=>r=.one (.str (q4d x c))):=by
 refine z3S.call rfl ?_;unfold q4d;simp only[go_sem,↓reduceIte,z19,z2g,Fnt.d];refine q0i.of (j3x x.cs c hx.cs (by omega) hx.cl) ?_;cases hcm:q8q x.cs c with
 |some t=>
  simp only[q1n];simp only[go_sem,↓reduceIte]
 |none=>
  simp only[q1n];cases hw:x.wide with
  |true=>
   simp only[go_sem,↓reduceIte]
  |false=>
   simp only[go_sem,↓reduceIte];refine q0e.lookup (kd:=.int .i64) (key:=.int .i64 c) (zero:=.str []) rfl rfl j2o intT rfl (q5n _) j7D ?_;rw[z7t];cases ha:assoc x.ns c with
   |some n=>
    obtain⟨p,p1,p2⟩:=q9Z ha;have hnl:=hx.nl p p1;rw[p2]at hnl;simp only[Zav,Zbj,Zcq];simp only[go_sem,↓reduceIte];refine q0i.of (j0f n hnl) ?_;cases q8x n<;>(simp only[q1n];simp only[go_sem,↓reduceIte])<;>rfl
   |none=>
    simp only[Zck,Zbm,Zcg];obtain⟨m,rfl⟩:=Int.eq_ofNat_of_zero_le hc.1;have hw32:IntKind.i32.wrap (m:Int)=(m:Int):=by rw[IntWalk.i32_in _ (by omega)]
    by_cases h1:(32:Int)≤m
    ·have z1:=eq_true h1
     by_cases h2:(m:Int)≤126
     ·have z2:=eq_true h2;have he:=j1d (c:=m) (by omega);simp(disch:=omega)only[go_sem,↓reduceIte,z1,z2,hw32,he];rfl
     ·have z2:=eq_false h2;simp(disch:=omega)only[go_sem,↓reduceIte,z1,z2]
    ·have z1:=eq_false h1;simp(disch:=omega)only[go_sem,↓reduceIte,z1]
structure Sgn where
 code:Int
 width:Int
 text:List UInt8
def Sgn.d(x:Sgn):D:=.agg [.int .i64 x.code,.int .i64 x.width,.str x.text]
def q3G(l:List Sgn):List D:=l.map Sgn.d
theorem q0v(l:List Sgn):(q3G l).length=l.length:=by simp[q3G]
theorem z7e(l:List Sgn)(j:Nat):(q3G l)[j]?=(l[j]?).map Sgn.d:=by simp[q3G]
theorem q65(a b:List Sgn):q3G (a++b)=q3G a++q3G b:=by simp[q3G]
def sgnM(x:Fnt)(c:Int):Sgn:=⟨c,(assoc x.ws c).getD x.miss,q4d x c⟩
def q6W(x:Fnt)(s:List UInt8):List Sgn:=s.map fun c=>sgnM x c.toNat
def q6K(x:Fnt):List UInt8→List Sgn
 |a::b::r=>sgnM x (256*(a.toNat:Int)+b.toNat)::q6K x r
 |_=>[]
def q8M(x:Fnt)(s:List UInt8):Option (List Sgn):=if x.wide=true then(if s.length % 2=0 then some (q6K x s)else none)else some (q6W x s)
def z5P(o:Option (List Sgn)):Res:=match o with
 |some l=>.tup [.list (q3G l),errD 0]
 |none=>.tup [.list [],errD 4]
def z3o(o:Option (List Sgn)):Res:=match o with
 |some l=>.tup [.list (q3G l),.int .i64 0]
 |none=>.tup [.list [],.int .i64 4]
theorem z3n(x:Fnt)(a b:UInt8):∀p:List UInt8,p.length % 2=0→q6K x (p++[a,b])=q6K x p++[sgnM x (256*(a.toNat:Int)+b.toNat)]
 |[],_=>rfl
 |[c],h=>by simp at h
 |c::d::r,h=>by
  have:=z3n x a b r (by simp at h;omega);simp only[Zbh,q6K,this]
theorem z0D(x:Fnt):∀p:List UInt8,(q6K x p).length≤p.length
 |[]=>by simp[q6K]
 |[c]=>by simp[q6K]
 |c::d::r=>by have:=z0D x r;simp only[q6K,Zad];omega
def q6X:q0m:=
 .seq (.reg [⟨some 2,.box (.t 0),none⟩,⟨some 4,.nils 143 3,none⟩,Qx 5 (.k (.d .nil))]) (.seq (.reg [Qx 6 (Ki 1)]) (.seq (.seq (.reg [Q 12 (.fa 0 (.t 2)),Q 13 (.ld false 1 (.t 
 12))]) (.cond (.t 13) (.reg [Qx 6 (Ki 2)]) .skip)) (.seq (.seq (.reg [Qc 14 1,Q 15 (.len true (.t 14)),Qc 16 6,Q 17 (.bin .rem (.t 15) (.t 16)),Q 18 (.bin .gtr (.t 17) (Ki 
 0))]) (.cond (.t 18) (.seq (.reg [Q 19 (.mkI 76 (Ki 4)),⟨some 4,.nils 143 3,none⟩,Qa 5 19]) .ret) .skip)) (.seq (.reg [⟨some 7,.nils 143 3,none⟩]) (.seq (.seq (.reg [Qx 8 
 (Ki 0)]) (.block 0 (.loop (.seq (.seq (.reg [Qc 20 8,Qc 21 1,Q 22 (.len true (.t 21)),Q 23 (.bin .lss (.t 20) (.t 22))]) (.cond (.t 23) .skip (.exit 0))) (.seq (.block 1 (.seq 
 (.reg [Qc 27 1,Qc 28 8,Q 29 (.idxS (.t 27) (.t 28)),Q 30 (.cvI .i64 (.t 29)),Qa 9 30]) (.seq (.seq (.reg [Q 31 (.fa 0 (.t 2)),Q 32 (.ld false 1 (.t 31))]) (.cond (.t 32) 
 (.reg [Qc 33 9,Q 34 (.bin .mul (Ki 256) (.t 33)),Qc 35 1,Qc 36 8,Q 37 (.bin .add (.t 36) (Ki 1)),Q 38 (.idxS (.t 35) (.t 37)),Q 39 (.cvI .i64 (.t 38)),Q 40 (.bin .add (.t 
 34) (.t 39)),Qa 9 40]) .skip)) (.seq (.reg [Q 42 (.fa 1 (.t 2)),Q 43 (.ld false 1 (.t 42)),Qc 44 9,⟨some 45,.prim (.lookup 58 true) [.t 43,.t 44] [],none⟩,Qc 41 45,Q 46 
 (.ext 0 (.t 41)),Q 47 (.ext 1 (.t 41)),Qa 10 46,Qa 11 47]) (.seq (.seq (.reg [Qc 48 11,Q 49 (.not (.t 48))]) (.cond (.t 49) (.reg [Q 50 (.fa 2 (.t 2)),Q 51 (.ld false 1 (.t 
 50)),Qa 10 51]) .skip)) (.reg [Qc 52 7,Qc 53 9,Qc 54 10,Q 55 (.ld true 5 (.t 2)),Qc 56 9,⟨some 57,.call 116 [.t 55,.t 56],none⟩,Q 58 (.bld [(0,1),(1,1),(2,1)] 
 [.int .i64 0,.int .i64 0,.str []] [] [(0,.t 53),(1,.t 54),(2,.t 57)]),⟨some 59,.bsl 143 3 [.t 58],none⟩,⟨some 60,.app 143 3 32 false (.t 52) (.t 59),none⟩,Qa 7 
 60])))))) (.reg [Qc 24 8,Qc 25 6,Q 26 (.bin .add (.t 24) (.t 25)),Qa 8 26])))))) (.seq (.reg [Qc 61 7,Qa 4 61,Qx 5 (.k (.d .nil))]) .ret))))))
def q6Z:List LRes:=[.tmp 4,.tmp 5]
theorem z2M:q0t Tryz.prog 94 62 q6X q6Z:=⟨_,_,Tryz.func94,rfl,by kernel_rfl,by kernel_rfl,rfl⟩
theorem j0L(x:Fnt)(hx:x.ok)(s:List UInt8)(hs:s.length≤1000000):q0y Tryz.prog 94 [x.d,.str s] (fun r=>r=z5P (q8M x s)):=by
 refine z2M.call rfl ?_;unfold q8M;cases hw:x.wide with
 |true=>
  have hxd:x.d=.agg [.bool true,.map (q2A x.ws) (q7Z x.ws),.int .i64 x.miss,.map (q2A x.ns) (q7U x.ns),.list (q1s x.cs)]:=by unfold Fnt.d;rw[hw]
  simp only[if_true];have zm:Int.tmod (s.length:Int) 2=((s.length % 2:Nat):Int):=rfl
  by_cases h2:s.length % 2=0
  ·rw[if_pos h2];have z2:(0<((s.length % 2:Nat):Int))=False:=eq_false (by omega);simp only[go_sem,↓reduceIte,q6X,q6Z,Fnt.d,hw,zm,z2];refine q0j (fun i:Nat=>⟨[(1,.d (.str s)),(2,.ptr (.l 2) 0),(6,.d (.int .i64 2)),(7,.own (.t 7) 143 3 (q3G (q6K x (s.take i)))),(8,.d (.int .i64 i))],[(2,.cells [.d (.bool true),.d (.map (q2A x.ws) (q7Z x.ws)),.d (.int .i64 x.miss),.d (.map (q2A x.ns) (q7U x.ns)),.d (.list (q1s x.cs))])],[]⟩)
    (fun i=>i≤s.length∧i % 2=0) (fun i=>s.length-i) 0 ?_ ?_ ?_
   ·refine Weak.mk ?_ ?_ ?_<;>simp only[go_sem,↓reduceIte,Sub,Int.natCast_add,Int.natCast_mul,q6K,q3G,Zce,Zbe]
   ·exact⟨Zar _,rfl⟩
   ·rintro i ⟨hi,hm⟩;simp only[go_sem,↓reduceIte];refine⟨fun hlt=>?_,fun hge=>?_⟩
    ·obtain⟨a,ha⟩:=get_some (l:=s) (i:=i) (by omega);have ha8:=q3s a;obtain⟨b,hb⟩:=get_some (l:=s) (i:=i+1) (by omega);have hb8:=q3s b;have hb':getI s ((i:Int)+1)=some b:=by rw[z0c];exact hb
     have htl:(s.take i).length=i:=by rw[Zcb];omega
     have hnext:q6K x (s.take (i+2))=q6K x (s.take i)++[sgnM x (256*(a.toNat:Int)+b.toNat)]:=by
      rw[show i+2=(i+1)+1 by omega,Zbd,Zbd,ha,hb];simp only[Option.toList_some,Zcs,Zbh,Zbu];exact z3n x a b (s.take i) (by rw[htl];exact hm)
     have hl1:=z0D x (s.take i);simp(disch:=omega)only[go_sem,↓reduceIte,q0d,ha,hb'];have hsl:=q0v (q6K x (s.take i));refine q0e.lookup (kd:=.int .i64) (key:=.int .i64 (256*(a.toNat:Int)+b.toNat)) (zero:=.int .i64 0) rfl rfl j0p intT rfl (q5n _) j4p ?_;rw[z4R]
     have fin:∀w:Int,(assoc x.ws (256*(a.toNat:Int)+b.toNat)).getD x.miss=w→q3G (q6K x (s.take i))++[.agg [.int .i64 (256*(a.toNat:Int)+b.toNat),.int .i64 w,.str (q4d x (256*(a.toNat:Int)+b.toNat))]]=q3G (q6K x (s.take (i+2))):=fun w h=>by
      rw[hnext,q65];simp only[q3G,Zai,Zbe,Sgn.d,sgnM,h]
     cases hq:assoc x.ws (256*(a.toNat:Int)+b.toNat)with
     |some w=>
      have f1:=fin w (by rw[hq];rfl);simp only[Zav,Zbj,Zcq];simp(disch:=omega)only[go_sem,↓reduceIte,hw];have hcall:=q8S x hx (256*(a.toNat:Int)+b.toNat) (by omega);rw[hxd]at hcall;refine q0i.of hcall ?_;simp(disch:=omega)only[go_sem,↓reduceIte,hw,q0v];refine⟨by omega,i+2,?_,⟨by omega,by omega⟩,by omega⟩;refine Weak.mk ?_ ?_ ?_<;>simp only[go_sem,↓reduceIte,Sub,Int.natCast_add,Int.natCast_mul,f1]
     |none=>
      have f1:=fin x.miss (by rw[hq];rfl);simp only[Zck,Zbm,Zcg];simp(disch:=omega)only[go_sem,↓reduceIte,hw];have hcall:=q8S x hx (256*(a.toNat:Int)+b.toNat) (by omega);rw[hxd]at hcall;refine q0i.of hcall ?_;simp(disch:=omega)only[go_sem,↓reduceIte,hw,q0v];refine⟨by omega,i+2,?_,⟨by omega,by omega⟩,by omega⟩;refine Weak.mk ?_ ?_ ?_<;>simp only[go_sem,↓reduceIte,Sub,Int.natCast_add,Int.natCast_mul,f1]
    ·have hi':i=s.length:=by omega
     subst hi';rw[Zcf];rfl
  ·rw[if_neg h2];have z2:(0<((s.length % 2:Nat):Int))=True:=eq_true (by omega);simp only[go_sem,↓reduceIte,q6X,q6Z,Fnt.d,hw,zm,z2];rfl
 |false=>
  have hxd:x.d=.agg [.bool false,.map (q2A x.ws) (q7Z x.ws),.int .i64 x.miss,.map (q2A x.ns) (q7U x.ns),.list (q1s x.cs)]:=by unfold Fnt.d;rw[hw]
  simp only[Zan,if_false];have zm:Int.tmod (s.length:Int) 1=0:=by rw[Int.tmod_eq_emod];simp
  simp only[go_sem,↓reduceIte,q6X,q6Z,Fnt.d,hw,zm];refine q0j (fun i:Nat=>⟨[(1,.d (.str s)),(2,.ptr (.l 2) 0),(6,.d (.int .i64 1)),(7,.own (.t 7) 143 3 (q3G (q6W x (s.take i)))),(8,.d (.int .i64 i))],[(2,.cells [.d (.bool false),.d (.map (q2A x.ws) (q7Z x.ws)),.d (.int .i64 x.miss),.d (.map (q2A x.ns) (q7U x.ns)),.d (.list (q1s x.cs))])],[]⟩)
   (fun i=>i≤s.length∧i % 1=0) (fun i=>s.length-i) 0 ?_ ?_ ?_
  ·refine Weak.mk ?_ ?_ ?_<;>simp only[go_sem,↓reduceIte,Sub,Int.natCast_add,Int.natCast_mul,q6W,q3G,Zce,Zbe]
  ·exact⟨Zar _,rfl⟩
  ·rintro i ⟨hi,hm⟩;simp only[go_sem,↓reduceIte];refine⟨fun hlt=>?_,fun hge=>?_⟩
   ·obtain⟨a,ha⟩:=get_some (l:=s) (i:=i) (by omega);have ha8:=q3s a;have hnext:q6W x (s.take (i+1))=q6W x (s.take i)++[sgnM x (a.toNat:Int)]:=by
     rw[Zbd,ha];simp[q6W]
    have hl1:(q6W x (s.take i)).length≤i:=by unfold q6W;rw[Zas,Zcb];omega
    simp(disch:=omega)only[go_sem,↓reduceIte,q0d,ha];have hsl:=q0v (q6W x (s.take i));refine q0e.lookup (kd:=.int .i64) (key:=.int .i64 (a.toNat:Int)) (zero:=.int .i64 0) rfl rfl j0p intT rfl (q5n _) j4p ?_;rw[z4R];have fin:∀w:Int,(assoc x.ws (a.toNat:Int)).getD x.miss=w→q3G (q6W x (s.take i))++[.agg [.int .i64 (a.toNat:Int),.int .i64 w,.str (q4d x (a.toNat:Int))]]=q3G (q6W x (s.take (i+1))):=fun w h=>by
     rw[hnext,q65];simp only[q3G,Zai,Zbe,Sgn.d,sgnM,h]
    cases hq:assoc x.ws (a.toNat:Int)with
    |some w=>
     have f1:=fin w (by rw[hq];rfl);simp only[Zav,Zbj,Zcq];simp(disch:=omega)only[go_sem,↓reduceIte,hw];have hcall:=q8S x hx (a.toNat:Int) (by omega);rw[hxd]at hcall;refine q0i.of hcall ?_;simp(disch:=omega)only[go_sem,↓reduceIte,hw,q0v];refine⟨by omega,i+1,?_,⟨by omega,by omega⟩,by omega⟩;refine Weak.mk ?_ ?_ ?_<;>simp only[go_sem,↓reduceIte,Sub,Int.natCast_add,Int.natCast_mul,f1]
    |none=>
     have f1:=fin x.miss (by rw[hq];rfl);simp only[Zck,Zbm,Zcg];simp(disch:=omega)only[go_sem,↓reduceIte,hw];have hcall:=q8S x hx (a.toNat:Int) (by omega);rw[hxd]at hcall;refine q0i.of hcall ?_;simp(disch:=omega)only[go_sem,↓reduceIte,hw,q0v];refine⟨by omega,i+1,?_,⟨by omega,by omega⟩,by omega⟩;refine Weak.mk ?_ ?_ ?_<;>simp only[go_sem,↓reduceIte,Sub,Int.natCast_add,Int.natCast_mul,f1]
   ·have hi':i=s.length:=by omega
    subst hi';rw[Zcf];rfl
def q1C:q0m:=
 .seq (.reg [⟨some 2,.box (.t 0),none⟩,⟨some 4,.nils 143 3,none⟩,Qx 5 (Ki 0)]) (.seq (.reg [⟨some 6,.nils 143 3,none⟩]) (.seq (.reg [Qx 7 (Ki 1)]) (.seq (.seq (.reg [Q 16 
 (.fa 0 (.t 2)),Q 17 (.ld false 1 (.t 16))]) (.cond (.t 17) (.reg [Qx 7 (Ki 2)]) .skip)) (.seq (.seq (.reg [Qc 18 1,Q 19 (.len true (.t 18)),Qc 20 7,Q 21 (.bin .rem (.t 19) 
 (.t 20)),Q 22 (.bin .gtr (.t 21) (Ki 0))]) (.cond (.t 22) (.seq (.reg [⟨some 4,.nils 143 3,none⟩,Qx 5 (Ki 4)]) .ret) .skip)) (.seq (.seq (.reg [Qx 8 (Ki 0)]) (.block 0 (.loop 
 (.seq (.seq (.reg [Qc 23 8,Qc 24 1,Q 25 (.len true (.t 24)),Q 26 (.bin .lss (.t 23) (.t 25))]) (.cond (.t 26) .skip (.exit 0))) (.seq (.block 1 (.seq (.reg [Qc 30 1,Qc 31 8, 
 Q 32 (.idxS (.t 30) (.t 31)),Q 33 (.cvI .i64 (.t 32)),Qa 9 33]) (.seq (.seq (.reg [Q 34 (.fa 0 (.t 2)),Q 35 (.ld false 1 (.t 34))]) (.cond (.t 35) (.dreg [Qc 36 1,Qc 37 8,Q 
 38 (.idxS (.t 36) (.t 37)),Q 39 (.cvI .i64 (.t 38)),Q 40 (.bin .mul (Ki 256) (.t 39)),Qc 41 1,Qc 42 8,Q 43 (.bin .add (.t 42) (Ki 1)),Q 44 (.idxS (.t 41) (.t 43)),Q 45 
 (.cvI .i64 (.t 44)),Q 46 (.bin .add (.t 40) (.t 45)),Qa 9 46]) .skip)) (.seq (.reg [Q 48 (.fa 1 (.t 2)),Q 49 (.ld false 1 (.t 48)),Qc 50 9,⟨some 51,.prim (.lookup 58 true) 
 [.t 49,.t 50] [],none⟩,Qc 47 51,Q 52 (.ext 0 (.t 47)),Q 53 (.ext 1 (.t 47)),Qa 10 52,Qa 11 53]) (.seq (.seq (.reg [Qc 54 11,Q 55 (.not (.t 54))]) (.cond (.t 55) (.reg [Q 
 56 (.fa 2 (.t 2)),Q 57 (.ld false 1 (.t 56)),Qa 10 57]) .skip)) (.seq (.reg [Q 59 (.fa 4 (.t 2)),Q 60 (.ld false 1 (.t 59)),Qc 61 9,⟨some 62,.call 99 [.t 60,.t 61],none⟩, 
 Qc 58 62,Q 63 (.ext 0 (.t 58)),Q 64 (.ext 1 (.t 58)),Qa 12 63,Qa 13 64]) (.seq (.seq (.reg [Qc 65 13,Q 66 (.not (.t 65)),Qc 67 66,Qg 68 (.fa 0 (.t 2)) 67 true,Qg 69 (.ld 
 false 1 (.t 68)) 67 true,Qg 70 (.not (.t 69)) 67 true,Q 71 (.pick (.t 67) (.t 70) KF)]) (.cond (.t 71) (.seq (.reg [Q 73 (.fa 3 (.t 2)),Q 74 (.ld false 1 (.t 73)),Qc 75 9, 
 ⟨some 76,.prim (.lookup 59 true) [.t 74,.t 75] [],none⟩,Qc 72 76,Q 77 (.ext 0 (.t 72)),Q 78 (.ext 1 (.t 72)),Qa 14 77,Qa 15 78]) (.seq (.reg [Qc 79 15]) (.cond (.t 79) 
 (.reg [Qc 81 14,⟨some 82,.call 100 [.t 81],none⟩,Qc 80 82,Q 83 (.ext 0 (.t 80)),Q 84 (.ext 1 (.t 80)),Qa 12 83]) (.seq (.reg [Qc 85 9,Q 86 (.bin .geq (.t 85) (Ki 32)),Qc 
 87 86,Qd 88 9 87 true,Qg 89 (.bin .lss (.t 88) (Ki 127)) 87 true,Q 90 (.pick (.t 87) (.t 89) KF)]) (.cond (.t 90) (.reg [Qc 91 9,Q 92 (.cvI .u8 (.t 91)),⟨some 93,.bsl 5 1 
 [.t 92],none⟩,Q 94 (.b2s (.t 93)),Qa 12 94]) .skip))))) .skip)) (.reg [Qc 95 6,Qc 96 9,Qc 97 10,Qc 98 12,Q 99 (.bld [(0,1),(1,1),(2,1)] [.int .i64 0,.int .i64 0, 
 .str []] [] [(0,.t 96),(1,.t 97),(2,.t 98)]),⟨some 100,.bsl 143 3 [.t 99],none⟩,⟨some 101,.app 143 3 32 false (.t 95) (.t 100),none⟩,Qa 6 101])))))))) (.reg [Qc 27 8, 
 Qc 28 7,Q 29 (.bin .add (.t 27) (.t 28)),Qa 8 29])))))) (.seq (.reg [Qc 102 6,Qa 4 102,Qx 5 (Ki 0)]) .ret))))))
def q1G:List LRes:=[.tmp 4,.tmp 5]
theorem q6G:q0t Tryz.prog 73 103 q1C q1G:=⟨_,_,Tryz.func73,rfl,by kernel_rfl,by kernel_rfl,rfl⟩
set_option maxHeartbeats 1000000 in
theorem z7g(x:Fnt)(hx:x.ok)(s:List UInt8)(hs:s.length≤1000000):q0y Tryz.prog 73 [x.d,.str s] (fun r=>r=z3o (q8M x s)):=by
 refine q6G.call rfl ?_;unfold q8M;have hcs:∀s∈x.cs,s.wf∧s.to-s.fr≤1000000:=fun s hs=>⟨(hx.cs s hs).1,(hx.cs s hs).2.1⟩
 cases hw:x.wide with
 |true=>
  simp only[if_true];have zm:Int.tmod (s.length:Int) 2=((s.length % 2:Nat):Int):=rfl
  by_cases h2:s.length % 2=0
  ·rw[if_pos h2];have z2:(0<((s.length % 2:Nat):Int))=False:=eq_false (by omega);simp only[go_sem,↓reduceIte,q1C,q1G,Fnt.d,hw,zm,z2];refine q0j (fun i:Nat=>⟨[(1,.d (.str s)),(2,.ptr (.l 2) 0),(6,.own (.t 6) 143 3 (q3G (q6K x (s.take i)))),(7,.d (.int .i64 2)),(8,.d (.int .i64 i))],[(2,.cells [.d (.bool true),.d (.map (q2A x.ws) (q7Z x.ws)),.d (.int .i64 x.miss),.d (.map (q2A x.ns) (q7U x.ns)),.d (.list (q1s x.cs))])],[]⟩)
    (fun i=>i≤s.length∧i % 2=0) (fun i=>s.length-i) 0 ?_ ?_ ?_
   ·refine Weak.mk ?_ ?_ ?_<;>simp only[go_sem,↓reduceIte,Sub,Int.natCast_add,Int.natCast_mul,q6K,q3G,Zce,Zbe]
   ·exact⟨Zar _,rfl⟩
   ·rintro i ⟨hi,hm⟩;simp only[go_sem,↓reduceIte];refine⟨fun hlt=>?_,fun hge=>?_⟩
    ·obtain⟨a,ha⟩:=get_some (l:=s) (i:=i) (by omega);have ha8:=q3s a;obtain⟨b,hb⟩:=get_some (l:=s) (i:=i+1) (by omega);have hb8:=q3s b;have hb':getI s ((i:Int)+1)=some b:=by rw[z0c];exact hb
     have htl:(s.take i).length=i:=by rw[Zcb];omega
     have hnext:q6K x (s.take (i+2))=q6K x (s.take i)++[sgnM x (256*(a.toNat:Int)+b.toNat)]:=by
      rw[show i+2=(i+1)+1 by omega,Zbd,Zbd,ha,hb];simp only[Option.toList_some,Zcs,Zbh,Zbu];exact z3n x a b (s.take i) (by rw[htl];exact hm)
     have hl1:=z0D x (s.take i);simp(disch:=omega)only[go_sem,↓reduceIte,q0d,ha,hb'];have hsl:=q0v (q6K x (s.take i));have hb2s:bytesOf [D.int .u8 (a.toNat:Int)]=some [a]:=q2E [a];refine q0e.lookup (kd:=.int .i64) (key:=.int .i64 (256*(a.toNat:Int)+b.toNat)) (zero:=.int .i64 0) rfl rfl j0p intT rfl (q5n _) j4p ?_;rw[z4R]
     have fin:∀w u,(assoc x.ws (256*(a.toNat:Int)+b.toNat)).getD x.miss=w→q4d x (256*(a.toNat:Int)+b.toNat)=u→q3G (q6K x (s.take i))++[.agg [.int .i64 (256*(a.toNat:Int)+b.toNat),.int .i64 w,.str u]]=q3G (q6K x (s.take (i+2))):=fun w u h h'=>by
      rw[hnext,q65];simp only[q3G,Zai,Zbe,Sgn.d,sgnM,h,h']
     cases hq:assoc x.ws (256*(a.toNat:Int)+b.toNat)with
     |some w=>
      have f1:=fun u=>fin w u (by rw[hq];rfl)
      simp only[Zav,Zbj,Zcq];have hcall:=q5w x.cs (256*(a.toNat:Int)+b.toNat) hcs (by omega) hx.cl;simp(disch:=omega)only[go_sem,↓reduceIte,hw];refine q0i.of hcall ?_;cases hcm:q8q x.cs (256*(a.toNat:Int)+b.toNat)with
      |some u=>
       have f2:=f1 u (by unfold q4d;rw[hcm]);simp only[q1n];simp(disch:=omega)only[go_sem,↓reduceIte,hw,q0v];refine⟨by omega,i+2,?_,⟨by omega,by omega⟩,by omega⟩;refine Weak.mk ?_ ?_ ?_<;>simp only[go_sem,↓reduceIte,Sub,Int.natCast_add,Int.natCast_mul,f2]
      |none=>
       have f2:=f1 [] (by unfold q4d;rw[hcm];simp only[hw,if_true]);simp only[q1n];simp(disch:=omega)only[go_sem,↓reduceIte,hw,q0v];refine⟨by omega,i+2,?_,⟨by omega,by omega⟩,by omega⟩;refine Weak.mk ?_ ?_ ?_<;>simp only[go_sem,↓reduceIte,Sub,Int.natCast_add,Int.natCast_mul,f2]
     |none=>
      have f1:=fun u=>fin x.miss u (by rw[hq];rfl)
      simp only[Zck,Zbm,Zcg];have hcall:=q5w x.cs (256*(a.toNat:Int)+b.toNat) hcs (by omega) hx.cl;simp(disch:=omega)only[go_sem,↓reduceIte,hw];refine q0i.of hcall ?_;cases hcm:q8q x.cs (256*(a.toNat:Int)+b.toNat)with
      |some u=>
       have f2:=f1 u (by unfold q4d;rw[hcm]);simp only[q1n];simp(disch:=omega)only[go_sem,↓reduceIte,hw,q0v];refine⟨by omega,i+2,?_,⟨by omega,by omega⟩,by omega⟩;refine Weak.mk ?_ ?_ ?_<;>simp only[go_sem,↓reduceIte,Sub,Int.natCast_add,Int.natCast_mul,f2]
      |none=>
       have f2:=f1 [] (by unfold q4d;rw[hcm];simp only[hw,if_true]);simp only[q1n];simp(disch:=omega)only[go_sem,↓reduceIte,hw,q0v];refine⟨by omega,i+2,?_,⟨by omega,by omega⟩,by omega⟩;refine Weak.mk ?_ ?_ ?_<;>simp only[go_sem,↓reduceIte,Sub,Int.natCast_add,Int.natCast_mul,f2]
    ·have hi':i=s.length:=by omega
     subst hi';rw[Zcf];rfl
  ·rw[if_neg h2];have z2:(0<((s.length % 2:Nat):Int))=True:=eq_true (by omega);simp only[go_sem,↓reduceIte,q1C,q1G,Fnt.d,hw,zm,z2];rfl
 |false=>
  simp only[Zan,if_false];have zm:Int.tmod (s.length:Int) 1=0:=by rw[Int.tmod_eq_emod];simp
  simp only[go_sem,↓reduceIte,q1C,q1G,Fnt.d,hw,zm];refine q0j (fun i:Nat=>⟨[(1,.d (.str s)),(2,.ptr (.l 2) 0),(6,.own (.t 6) 143 3 (q3G (q6W x (s.take i)))),(7,.d (.int .i64 1)),(8,.d (.int .i64 i))],[(2,.cells [.d (.bool false),.d (.map (q2A x.ws) (q7Z x.ws)),.d (.int .i64 x.miss),.d (.map (q2A x.ns) (q7U x.ns)),.d (.list (q1s x.cs))])],[]⟩)
   (fun i=>i≤s.length∧i % 1=0) (fun i=>s.length-i) 0 ?_ ?_ ?_
  ·refine Weak.mk ?_ ?_ ?_<;>simp only[go_sem,↓reduceIte,Sub,Int.natCast_add,Int.natCast_mul,q6W,q3G,Zce,Zbe]
  ·exact⟨Zar _,rfl⟩
  ·rintro i ⟨hi,hm⟩;simp only[go_sem,↓reduceIte];refine⟨fun hlt=>?_,fun hge=>?_⟩
   ·obtain⟨a,ha⟩:=get_some (l:=s) (i:=i) (by omega);have ha8:=q3s a;have hnext:q6W x (s.take (i+1))=q6W x (s.take i)++[sgnM x (a.toNat:Int)]:=by
     rw[Zbd,ha];simp[q6W]
    have hl1:(q6W x (s.take i)).length≤i:=by unfold q6W;rw[Zas,Zcb];omega
    simp(disch:=omega)only[go_sem,↓reduceIte,q0d,ha];have hsl:=q0v (q6W x (s.take i));have hb2s:bytesOf [D.int .u8 (a.toNat:Int)]=some [a]:=q2E [a];refine q0e.lookup (kd:=.int .i64) (key:=.int .i64 (a.toNat:Int)) (zero:=.int .i64 0) rfl rfl j0p intT rfl (q5n _) j4p ?_;rw[z4R];have fin:∀w u,(assoc x.ws (a.toNat:Int)).getD x.miss=w→q4d x (a.toNat:Int)=u→q3G (q6W x (s.take i))++[.agg [.int .i64 (a.toNat:Int),.int .i64 w,.str u]]=q3G (q6W x (s.take (i+1))):=fun w u h h'=>by
     rw[hnext,q65];simp only[q3G,Zai,Zbe,Sgn.d,sgnM,h,h']
    cases hq:assoc x.ws (a.toNat:Int)with
    |some w=>
     have f1:=fun u=>fin w u (by rw[hq];rfl)
     simp only[Zav,Zbj,Zcq];have hcall:=q5w x.cs (a.toNat:Int) hcs (by omega) hx.cl;simp(disch:=omega)only[go_sem,↓reduceIte,hw];refine q0i.of hcall ?_;cases hcm:q8q x.cs (a.toNat:Int)with
     |some u=>
      have f2:=f1 u (by unfold q4d;rw[hcm]);simp only[q1n];simp(disch:=omega)only[go_sem,↓reduceIte,hw,q0v];refine⟨by omega,i+1,?_,⟨by omega,by omega⟩,by omega⟩;refine Weak.mk ?_ ?_ ?_<;>simp only[go_sem,↓reduceIte,Sub,Int.natCast_add,Int.natCast_mul,f2]
     |none=>
      simp only[q1n];simp(disch:=omega)only[go_sem,↓reduceIte,hw];refine q0e.lookup (kd:=.int .i64) (key:=.int .i64 (a.toNat:Int)) (zero:=.str []) rfl rfl j2o intT rfl (q5n _) j7D ?_;rw[z7t];cases ha2:assoc x.ns (a.toNat:Int)with
      |some n=>
       obtain⟨p,p1,p2⟩:=q9Z ha2;have hnl:=hx.nl p p1;rw[p2]at hnl;have f3:=f1 ((q8x n).getD []) (by unfold q4d;rw[hcm];simp only[hw,Zan,if_false,ha2]);simp only[Zav,Zbj,Zcq];simp(disch:=omega)only[go_sem,↓reduceIte,hw];refine q0i.of (z2A n hnl) ?_;cases hgl:q8x n with
       |some g=>
        have f2:=f3;rw[hgl,Zbj]at f2;simp only[q1n];simp(disch:=omega)only[go_sem,↓reduceIte,hw,q0v];refine⟨by omega,i+1,?_,⟨by omega,by omega⟩,by omega⟩;refine Weak.mk ?_ ?_ ?_<;>simp only[go_sem,↓reduceIte,Sub,Int.natCast_add,Int.natCast_mul,f2]
       |none=>
        have f2:=f3;rw[hgl,Zbm]at f2;simp only[q1n];simp(disch:=omega)only[go_sem,↓reduceIte,hw,q0v];refine⟨by omega,i+1,?_,⟨by omega,by omega⟩,by omega⟩;refine Weak.mk ?_ ?_ ?_<;>simp only[go_sem,↓reduceIte,Sub,Int.natCast_add,Int.natCast_mul,f2]
      |none=>
       simp only[Zck,Zbm,Zcg]
       by_cases h1:(32:Int)≤(a.toNat:Int)
       ·have z1:=eq_true h1
        by_cases h2:(a.toNat:Int)<127
        ·have z2:=eq_true h2;have f2:=f1 [a] (by unfold q4d;rw[hcm];simp only[hw,Zan,if_false,ha2];rw[if_pos (by omega)];simp);simp(disch:=omega)only[go_sem,↓reduceIte,hw,z1,z2,q0v,hb2s];refine⟨by omega,i+1,?_,⟨by omega,by omega⟩,by omega⟩;refine Weak.mk ?_ ?_ ?_<;>simp only[go_sem,↓reduceIte,Sub,Int.natCast_add,Int.natCast_mul,f2]
        ·have z2:=eq_false h2;have f2:=f1 [] (by unfold q4d;rw[hcm];simp only[hw,Zan,if_false,ha2];rw[if_neg (by omega)]);simp(disch:=omega)only[go_sem,↓reduceIte,hw,z1,z2,q0v];refine⟨by omega,i+1,?_,⟨by omega,by omega⟩,by omega⟩;refine Weak.mk ?_ ?_ ?_<;>simp only[go_sem,↓reduceIte,Sub,Int.natCast_add,Int.natCast_mul,f2]
       ·have z1:=eq_false h1;have f2:=f1 [] (by unfold q4d;rw[hcm];simp only[hw,Zan,if_false,ha2];rw[if_neg (by omega)]);simp(disch:=omega)only[go_sem,↓reduceIte,hw,z1,q0v];refine⟨by omega,i+1,?_,⟨by omega,by omega⟩,by omega⟩;refine Weak.mk ?_ ?_ ?_<;>simp only[go_sem,↓reduceIte,Sub,Int.natCast_add,Int.natCast_mul,f2]
    |none=>
     have f1:=fun u=>fin x.miss u (by rw[hq];rfl)
     simp only[Zck,Zbm,Zcg];have hcall:=q5w x.cs (a.toNat:Int) hcs (by omega) hx.cl;simp(disch:=omega)only[go_sem,↓reduceIte,hw];refine q0i.of hcall ?_;cases hcm:q8q x.cs (a.toNat:Int)with
     |some u=>
      have f2:=f1 u (by unfold q4d;rw[hcm]);simp only[q1n];simp(disch:=omega)only[go_sem,↓reduceIte,hw,q0v];refine⟨by omega,i+1,?_,⟨by omega,by omega⟩,by omega⟩;refine Weak.mk ?_ ?_ ?_<;>simp only[go_sem,↓reduceIte,Sub,Int.natCast_add,Int.natCast_mul,f2]
     |none=>
      simp only[q1n];simp(disch:=omega)only[go_sem,↓reduceIte,hw];refine q0e.lookup (kd:=.int .i64) (key:=.int .i64 (a.toNat:Int)) (zero:=.str []) rfl rfl j2o intT rfl (q5n _) j7D ?_;rw[z7t];cases ha2:assoc x.ns (a.toNat:Int)with
      |some n=>
       obtain⟨p,p1,p2⟩:=q9Z ha2;have hnl:=hx.nl p p1;rw[p2]at hnl;have f3:=f1 ((q8x n).getD []) (by unfold q4d;rw[hcm];simp only[hw,Zan,if_false,ha2]);simp only[Zav,Zbj,Zcq];simp(disch:=omega)only[go_sem,↓reduceIte,hw];refine q0i.of (z2A n hnl) ?_;cases hgl:q8x n with
       |some g=>
        have f2:=f3;rw[hgl,Zbj]at f2;simp only[q1n];simp(disch:=omega)only[go_sem,↓reduceIte,hw,q0v];refine⟨by omega,i+1,?_,⟨by omega,by omega⟩,by omega⟩;refine Weak.mk ?_ ?_ ?_<;>simp only[go_sem,↓reduceIte,Sub,Int.natCast_add,Int.natCast_mul,f2]
       |none=>
        have f2:=f3;rw[hgl,Zbm]at f2;simp only[q1n];simp(disch:=omega)only[go_sem,↓reduceIte,hw,q0v];refine⟨by omega,i+1,?_,⟨by omega,by omega⟩,by omega⟩;refine Weak.mk ?_ ?_ ?_<;>simp only[go_sem,↓reduceIte,Sub,Int.natCast_add,Int.natCast_mul,f2]
      |none=>
       simp only[Zck,Zbm,Zcg]
       by_cases h1:(32:Int)≤(a.toNat:Int)
       ·have z1:=eq_true h1
        by_cases h2:(a.toNat:Int)<127
        ·have z2:=eq_true h2;have f2:=f1 [a] (by unfold q4d;rw[hcm];simp only[hw,Zan,if_false,ha2];rw[if_pos (by omega)];simp);simp(disch:=omega)only[go_sem,↓reduceIte,hw,z1,z2,q0v,hb2s];refine⟨by omega,i+1,?_,⟨by omega,by omega⟩,by omega⟩;refine Weak.mk ?_ ?_ ?_<;>simp only[go_sem,↓reduceIte,Sub,Int.natCast_add,Int.natCast_mul,f2]
        ·have z2:=eq_false h2;have f2:=f1 [] (by unfold q4d;rw[hcm];simp only[hw,Zan,if_false,ha2];rw[if_neg (by omega)]);simp(disch:=omega)only[go_sem,↓reduceIte,hw,z1,z2,q0v];refine⟨by omega,i+1,?_,⟨by omega,by omega⟩,by omega⟩;refine Weak.mk ?_ ?_ ?_<;>simp only[go_sem,↓reduceIte,Sub,Int.natCast_add,Int.natCast_mul,f2]
       ·have z1:=eq_false h1;have f2:=f1 [] (by unfold q4d;rw[hcm];simp only[hw,Zan,if_false,ha2];rw[if_neg (by omega)]);simp(disch:=omega)only[go_sem,↓reduceIte,hw,z1,q0v];refine⟨by omega,i+1,?_,⟨by omega,by omega⟩,by omega⟩;refine Weak.mk ?_ ?_ ?_<;>simp only[go_sem,↓reduceIte,Sub,Int.natCast_add,Int.natCast_mul,f2]
   ·have hi':i=s.length:=by omega
    subst hi';rw[Zcf];rfl
abbrev M6:=Int×Int×Int×Int×Int×Int
def m6D(m:M6):D:=mat m.1 m.2.1 m.2.2.1 m.2.2.2.1 m.2.2.2.2.1 m.2.2.2.2.2
structure PSt where
 ctm:M6
 font:Option Fnt
 size:Int
 char:Int
 word:Int
 scale:Int
 lead:Int
 rise:Int
structure Gph where
 text:List UInt8
 fr:Int×Int
 to:Int×Int
 size:Int
 box:Int×Int×Int×Int
def Gph.d(g:Gph):D:=.agg [.str g.text,I g.fr.1,I g.fr.2,I g.to.1,I g.to.2,I g.size,I g.box.1,I g.box.2.1,I g.box.2.2.1,I g.box.2.2.2]
def q3d(l:List Gph):List D:=l.map Gph.d
structure PT where
 s:PSt
 saved:List PSt
 tm:M6
 lm:M6
 inn:Bool
 out:List Gph
 bad:Nat
def q89:Option Fnt→D
 |none=>.nilp
 |some x=>.pto [.bool x.wide,.map (q2A x.ws) (q7Z x.ws),.int .i64 x.miss,.map (q2A x.ns) (q7U x.ns),.list (q1s x.cs)]
def PSt.d(s:PSt):D:=.agg [I s.ctm.1,I s.ctm.2.1,I s.ctm.2.2.1,I s.ctm.2.2.2.1,I s.ctm.2.2.2.2.1,I s.ctm.2.2.2.2.2,q89 s.font,I s.size,I s.char,I s.word,I s.scale,I s.lead,I s.rise]
def svV(l:List PSt):Option Nat→AV
 |none=>.ns
 |some c=>.rs (.x 1000) l.length c
def svO(l:List PSt):Option Nat→Option AObj
 |none=>none
 |some c=>some (.cells (rowC 13 (l.map PSt.d) c))
def outV:List Gph→AV
 |[]=>.ns
 |g::l=>.own (.c (.x 0) 28) 55 10 (q3d (g::l))
def pob(fd:D)(q:PT)(c:Option Nat):AObj:=
 .cells [.d fd,.d (I q.s.ctm.1),.d (I q.s.ctm.2.1),.d (I q.s.ctm.2.2.1),.d (I q.s.ctm.2.2.2.1),.d (I q.s.ctm.2.2.2.2.1),.d (I q.s.ctm.2.2.2.2.2),.d (q89 q.s.font),.d (I q.s.size),.d (I q.s.char),.d (I q.s.word),.d (I q.s.scale),.d (I q.s.lead),.d (I q.s.rise),
  svV q.saved c,.d (I q.tm.1),.d (I q.tm.2.1),.d (I q.tm.2.2.1),.d (I q.tm.2.2.2.1),.d (I q.tm.2.2.2.2.1),.d (I q.tm.2.2.2.2.2),.d (I q.lm.1),.d (I q.lm.2.1),.d (I q.lm.2.2.1),.d (I q.lm.2.2.2.1),.d (I q.lm.2.2.2.2.1),.d (I q.lm.2.2.2.2.2),
  .d (.bool q.inn),outV q.out,.d (errD q.bad)]
theorem q0l(fd:D)(q:PT)(c:Option Nat):PO (pob fd q c):=by
 obtain⟨s,saved,tm,lm,inn,out,bad⟩:=q;cases c<;>cases out<;>exact⟨rfl,rfl,rfl⟩
theorem z4L(l:List PSt)(c:Option Nat):rowM (svO l c)=true:=by
 cases c with
 |none=>rfl
 |some c=>exact q4Y 13 _ c
theorem q0o(m:Option AObj):aget (mob m) 1000=m:=by cases m<;>rfl
attribute [go_sem] q0o z4L
def errO{α:Type}(o:Option α):Nat:=if o.isNone=true then 1 else 0
def orE(n e:Nat):Nat:=if n=0 then e else n
def PT.er(q:PT)(e:Nat):PT:={ q with bad:=orE q.bad e }
def q0K:q0m:=
 .seq (.reg [Qc 4 0,Q 5 (.nck (.t 4)),Q 6 (.fa 29 (.t 5)),Q 7 (.ld false 1 (.t 6)),Q 8 (.eqN 0 false (.t 7))]) (.cond (.t 8) (.reg [Qc 9 0,Qc 10 1,Q 11 (.nck (.t 9)),Q 12 
 (.fa 29 (.t 11)),⟨none,.st 1 (.t 12) (.t 10),none⟩]) .skip)
def q0L:List LRes:=[]
theorem q3J:q0t Tryz.prog 66 13 q0K q0L:=⟨_,_,Tryz.func66,rfl,by kernel_rfl,by kernel_rfl,rfl⟩
theorem q7G(fd:D)(q:PT)(c:Option Nat)(e:Nat){m:Option AObj}(hm:rowM m=true):MVE Tryz.prog 66 [.ptr (.x 0) 0,.d (errD e)] [pob fd q c] m (.tuple []) [pob fd (q.er e) c] m:=by
 refine q3J.mv (by kernel_rfl) rfl rfl ?_;generalize hM:mob m=M;have ha:aget M 1000=m:=hM▸q0o m;have hn:=hm;unfold rowM at hn;have hMM:∀o:AObj,Sub ((0,o)::M) ((0,o)::M):=fun o=>hM▸subM o m
 by_cases h:q.bad=0
 ·have e1:q.er e={ q with bad:=e }:=by simp[PT.er,orE,h]
  rw[e1];simp only[pob,h,show errD 0=.nil from rfl]
  by_cases he:e=0
  ·subst he;simp only[go_sem,↓reduceIte,q0K,q0L,ha,hn,show errD 0=.nil from rfl]
  ·rw[q4k he];simp only[go_sem,↓reduceIte,q0K,q0L,ha,hn]
 ·have e1:q.er e=q:=by simp[PT.er,orE,h]
  rw[e1];simp only[pob,q4k h];simp only[go_sem,↓reduceIte,q0K,q0L,ha,hn]
def q2h:q0m:=
 .seq (.reg [Qx 6 (Ki 0)]) (.seq (.reg [Qc 10 1,Qc 11 2,⟨some 12,.call 120 [.t 10,.t 11],none⟩,Qc 9 12,Q 13 (.ext 0 (.t 9)),Q 14 (.ext 1 (.t 9)),Qa 7 13,Qa 8 14]) (.seq 
 (.reg [Qc 15 0,Qc 16 8,⟨some 17,.prim .call [.k (.fn (.func 66) [] []),.t 15,.t 16] [],none⟩]) (.seq (.reg [Qc 18 7,Qa 6 18]) .ret)))
def q2n:List LRes:=[.tmp 6]
theorem q3Y:q0t Tryz.prog 97 19 q2h q2n:=⟨_,_,Tryz.func97,rfl,by kernel_rfl,by kernel_rfl,rfl⟩
theorem pmul(fd:D)(q:PT)(c:Option Nat)(a b:Int){m:Option AObj}(hm:rowM m=true):MVE Tryz.prog 97 [.ptr (.x 0) 0,.d (I a),.d (I b)] [pob fd q c] m (.d (I ((mulF a b).getD 0))) [pob fd (q.er (errO (mulF a b))) c] m:=by
 refine q3Y.mv (by kernel_rfl) rfl rfl ?_;generalize hM:mob m=M;have ha:aget M 1000=m:=hM▸q0o m;have hn:=hm;unfold rowM at hn;have hMM:∀o:AObj,Sub ((0,o)::M) ((0,o)::M):=fun o=>hM▸subM o m
 simp only[go_sem,↓reduceIte,q2h,q2n,I];refine q0i.of (j4H a b) ?_;have e:intE (mulF a b)=.tup [I ((mulF a b).getD 0),errD (errO (mulF a b))]:=by cases mulF a b<;>rfl
 rw[e];simp only[go_sem,↓reduceIte,ha,hn,I];refine q0e.poM rfl (q7G _ _ _ _ hm) (q0l _ _ _) (q0l _ _ _) hm hM rfl rfl rfl ⟨⟨rfl,rfl⟩,rfl⟩ ?_;simp only[go_sem,↓reduceIte,ha,hn]
def q2g:q0m:=
 .seq (.reg [Qx 6 (Ki 0)]) (.seq (.reg [Qc 10 1,Qc 11 2,⟨some 12,.call 135 [.t 10,.t 11],none⟩,Qc 9 12,Q 13 (.ext 0 (.t 9)),Q 14 (.ext 1 (.t 9)),Qa 7 13,Qa 8 14]) (.seq 
 (.reg [Qc 15 0,Qc 16 8,⟨some 17,.prim .call [.k (.fn (.func 66) [] []),.t 15,.t 16] [],none⟩]) (.seq (.reg [Qc 18 7,Qa 6 18]) .ret)))
def q2m:List LRes:=[.tmp 6]
theorem q3X:q0t Tryz.prog 119 19 q2g q2m:=⟨_,_,Tryz.func119,rfl,by kernel_rfl,by kernel_rfl,rfl⟩
theorem padd(fd:D)(q:PT)(c:Option Nat)(a b:Int){m:Option AObj}(hm:rowM m=true):MVE Tryz.prog 119 [.ptr (.x 0) 0,.d (I a),.d (I b)] [pob fd q c] m (.d (I ((addF a b).getD 0))) [pob fd (q.er (errO (addF a b))) c] m:=by
 refine q3X.mv (by kernel_rfl) rfl rfl ?_;generalize hM:mob m=M;have ha:aget M 1000=m:=hM▸q0o m;have hn:=hm;unfold rowM at hn;have hMM:∀o:AObj,Sub ((0,o)::M) ((0,o)::M):=fun o=>hM▸subM o m
 simp only[go_sem,↓reduceIte,q2g,q2m,I];refine q0i.of (j3O a b) ?_;have e:intE (addF a b)=.tup [I ((addF a b).getD 0),errD (errO (addF a b))]:=by cases addF a b<;>rfl
 rw[e];simp only[go_sem,↓reduceIte,ha,hn,I];refine q0e.poM rfl (q7G _ _ _ _ hm) (q0l _ _ _) (q0l _ _ _) hm hM rfl rfl rfl ⟨⟨rfl,rfl⟩,rfl⟩ ?_;simp only[go_sem,↓reduceIte,ha,hn]
def m60:M6:=(0,0,0,0,0,0)
def q20:M6:=(1000,0,0,1000,0,0)
def catF(a b:M6):Option M6:=q8r a.1 a.2.1 a.2.2.1 a.2.2.2.1 a.2.2.2.2.1 a.2.2.2.2.2 b.1 b.2.1 b.2.2.1 b.2.2.2.1 b.2.2.2.2.1 b.2.2.2.2.2
def appF(a:M6)(x y:Int):Option (Int×Int):=z2n a.1 a.2.1 a.2.2.1 a.2.2.2.1 a.2.2.2.2.1 a.2.2.2.2.2 x y
def q1J:q0m:=
 .seq (.reg [⟨some 4,.box (.t 1),none⟩,⟨some 5,.box (.t 2),none⟩,⟨some 6,.allo [.int .i64 0,.int .i64 0,.int .i64 0,.int .i64 0,.int .i64 0,.int .i64 0],none⟩]) (.seq 
 (.reg [Q 10 (.ld true 6 (.t 4)),Q 11 (.ld true 6 (.t 5)),⟨some 12,.call 67 [.t 10,.t 11],none⟩,Qc 9 12,Q 13 (.ext 0 (.t 9)),Q 14 (.ext 1 (.t 9)),⟨some 7,.allo [.int 
 .i64 0,.int .i64 0,.int .i64 0,.int .i64 0,.int .i64 0,.int .i64 0],none⟩,⟨none,.st 6 (.t 7) (.t 13),none⟩,Qa 8 14]) (.seq (.reg [Qc 15 0,Qc 16 8,⟨some 17,.prim 
 .call [.k (.fn (.func 66) [] []),.t 15,.t 16] [],none⟩]) (.seq (.reg [Q 18 (.ld true 6 (.t 7)),⟨none,.st 6 (.t 6) (.t 18),none⟩]) .ret)))
def q1M:List LRes:=[.cell 6 true 6]
theorem q3q:q0t Tryz.prog 45 19 q1J q1M:=⟨_,_,Tryz.func45,rfl,by kernel_rfl,by kernel_rfl,rfl⟩
theorem z5B(fd:D)(q:PT)(c:Option Nat)(a b:M6){m:Option AObj}(hm:rowM m=true):MVE Tryz.prog 45 [.ptr (.x 0) 0,.d (m6D a),.d (m6D b)] [pob fd q c] m (.d (m6D ((catF a b).getD m60))) [pob fd (q.er (errO (catF a b))) c] m:=by
 refine q3q.mv (by kernel_rfl) rfl rfl ?_;generalize hM:mob m=M;have ha:aget M 1000=m:=hM▸q0o m;have hn:=hm;unfold rowM at hn;have hMM:∀o:AObj,Sub ((0,o)::M) ((0,o)::M):=fun o=>hM▸subM o m
 simp only[go_sem,↓reduceIte,q1J,q1M,m6D,mat,I];refine q0i.of (z7y (a:=a.1) (b:=a.2.1) (c:=a.2.2.1) (d:=a.2.2.2.1) (e:=a.2.2.2.2.1) (f:=a.2.2.2.2.2) (p:=b.1) (q:=b.2.1) (r:=b.2.2.1) (s:=b.2.2.2.1) (t:=b.2.2.2.2.1) (u:=b.2.2.2.2.2)) ?_;have e:matE (catF a b)=.tup [m6D ((catF a b).getD m60),errD (errO (catF a b))]:=by cases catF a b<;>rfl
 rw[show q8r a.1 a.2.1 a.2.2.1 a.2.2.2.1 a.2.2.2.2.1 a.2.2.2.2.2 b.1 b.2.1 b.2.2.1 b.2.2.2.1 b.2.2.2.2.1 b.2.2.2.2.2=catF a b from rfl,e];simp only[go_sem,↓reduceIte,ha,hn,m6D,mat,I];refine q0e.poM rfl (q7G _ _ _ _ hm) (q0l _ _ _) (q0l _ _ _) hm hM rfl rfl rfl ⟨⟨rfl,rfl⟩,rfl⟩ ?_;simp only[go_sem,↓reduceIte,ha,hn]
def q1Q:q0m:=
 .seq (.reg [⟨some 5,.box (.t 1),none⟩,⟨some 8,.allo [.int .i64 0,.int .i64 0],none⟩]) (.seq (.reg [Q 12 (.ld true 6 (.t 5)),Qc 13 2,Qc 14 3,Q 15 (.bld [(0,1),(1,1)] 
 [.int .i64 0,.int .i64 0] [] [(0,.t 13),(1,.t 14)]),⟨some 16,.call 134 [.t 12,.t 15],none⟩,Qc 11 16,Q 17 (.ext 0 (.t 11)),Q 18 (.ext 1 (.t 11)),⟨some 9,.allo [.int 
 .i64 0,.int .i64 0],none⟩,⟨none,.st 2 (.t 9) (.t 17),none⟩,Qa 10 18]) (.seq (.reg [Qc 19 0,Qc 20 10,⟨some 21,.prim .call [.k (.fn (.func 66) [] []),.t 19,.t 20] [], 
 none⟩]) (.seq (.reg [Q 22 (.ld true 2 (.t 9)),⟨none,.st 2 (.t 8) (.t 22),none⟩]) .ret)))
def q1T:List LRes:=[.cell 8 true 2]
theorem q3D:q0t Tryz.prog 117 23 q1Q q1T:=⟨_,_,Tryz.func117,rfl,by kernel_rfl,by kernel_rfl,rfl⟩
theorem j8A(fd:D)(q:PT)(c:Option Nat)(a:M6)(x y:Int){m:Option AObj}(hm:rowM m=true):MVE Tryz.prog 117 [.ptr (.x 0) 0,.d (m6D a),.d (I x),.d (I y)] [pob fd q c] m (.d (pt ((appF a x y).getD (0,0)).1 ((appF a x y).getD (0,0)).2)) [pob fd (q.er (errO (appF a x y))) c] m:=by
 refine q3D.mv (by kernel_rfl) rfl rfl ?_;generalize hM:mob m=M;have ha:aget M 1000=m:=hM▸q0o m;have hn:=hm;unfold rowM at hn;have hMM:∀o:AObj,Sub ((0,o)::M) ((0,o)::M):=fun o=>hM▸subM o m
 simp only[go_sem,↓reduceIte,q1Q,q1T,m6D,mat,I];refine q0i.of (z9Z (a:=a.1) (b:=a.2.1) (c:=a.2.2.1) (d:=a.2.2.2.1) (e:=a.2.2.2.2.1) (f:=a.2.2.2.2.2) (x:=x) (y:=y)) ?_;have e:ptE (appF a x y)=.tup [pt ((appF a x y).getD (0,0)).1 ((appF a x y).getD (0,0)).2,errD (errO (appF a x y))]:=by cases appF a x y<;>rfl
 rw[show z2n a.1 a.2.1 a.2.2.1 a.2.2.2.1 a.2.2.2.2.1 a.2.2.2.2.2 x y=appF a x y from rfl,e];simp only[go_sem,↓reduceIte,ha,hn,pt,I];refine q0e.poM rfl (q7G _ _ _ _ hm) (q0l _ _ _) (q0l _ _ _) hm hM rfl rfl rfl ⟨⟨rfl,rfl⟩,rfl⟩ ?_;simp only[go_sem,↓reduceIte,ha,hn]
end Go.Av.Tryz
