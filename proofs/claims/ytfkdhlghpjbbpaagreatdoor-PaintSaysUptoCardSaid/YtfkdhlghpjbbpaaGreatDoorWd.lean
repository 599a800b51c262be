import Derived.Test.YtfkdhlghpjbbpaaGreatDoorWc
import Derived.Test.YtfkdhlghpjbbpaaGreatDoorWa
import Derived.Test.YtfkdhlghpjbbpaaGreatDoorAvI
import Derived.Test.YtfkdhlghpjbbpaaGreatDoorAvJ
import Derived.Test.YtfkdhlghpjbbpaaGreatDoorWb
set_option linter.unusedSimpArgs false
set_option maxRecDepth 100000
set_option maxHeartbeats 4000000
namespace Go.Av.Tryz
open Go.Proofs
def PT.mv(q:PT)(x y:Int):PT:={ q.er (errO (catF (1000,0,0,1000,x,y) q.lm))with lm:=(catF (1000,0,0,1000,x,y) q.lm).getD m60,tm:=(catF (1000,0,0,1000,x,y) q.lm).getD m60 }
def PT.on(q:PT)(x:Int):PT:={ q.er (errO (catF (1000,0,0,1000,x,0) q.tm))with tm:=(catF (1000,0,0,1000,x,0) q.tm).getD m60 }
def q1Z:q0m:=
 .seq (.reg [Qc 6 0,Qc 7 0,Qc 8 1,Qc 9 2,Q 10 (.bld [(0,1),(1,1),(2,1),(3,1),(4,1),(5,1)] [.int .i64 0,.int .i64 0,.int .i64 0,.int .i64 0,.int .i64 0,.int .i64 
 0] [] [(0,.k (.d (.int .i64 1000))),(3,.k (.d (.int .i64 1000))),(4,.t 8),(5,.t 9)]),Qc 11 0,Q 12 (.nck (.t 11)),Q 13 (.fa 21 (.t 12)),Q 14 (.ld true 6 (.t 13)),⟨some 
 15,.prim .call [.k (.fn (.func 45) [] []),.t 7,.t 10,.t 14] [],none⟩,Q 16 (.nck (.t 6)),Q 17 (.fa 21 (.t 16)),⟨none,.st 6 (.t 17) (.t 15),none⟩]) (.reg [Qc 18 0,Qc 19 
 0,Q 20 (.nck (.t 19)),Q 21 (.fa 21 (.t 20)),Q 22 (.ld true 6 (.t 21)),Q 23 (.nck (.t 18)),Q 24 (.fa 15 (.t 23)),⟨none,.st 6 (.t 24) (.t 22),none⟩])
def q15:List LRes:=[]
theorem q3L:q0t Tryz.prog 68 25 q1Z q15:=⟨_,_,Tryz.func68,rfl,by kernel_rfl,by kernel_rfl,rfl⟩
theorem j40(fd:D)(q:PT)(c:Option Nat)(x y:Int){m:Option AObj}(hm:rowM m=true):MVE Tryz.prog 68 [.ptr (.x 0) 0,.d (I x),.d (I y)] [pob fd q c] m (.tuple []) [pob fd (q.mv x y) c] m:=by
 refine q3L.mv (by kernel_rfl) rfl rfl ?_;generalize hM:mob m=M;have ha:aget M 1000=m:=hM▸q0o m;have hn:=hm;unfold rowM at hn;have hMM:∀o:AObj,Sub ((0,o)::M) ((0,o)::M):=fun o=>hM▸subM o m
 simp only[go_sem,↓reduceIte,q1Z,q15,I,pob];refine q0e.poM rfl (z5B fd q c (1000,0,0,1000,x,y) q.lm hm) (q0l _ _ _) (q0l _ _ _) hm hM rfl rfl rfl ⟨⟨rfl,rfl⟩,rfl⟩ ?_;simp only[go_sem,↓reduceIte,pob,PT.er,m6D,mat,I,ha,hn];rfl
def q2v:q0m:=
 .reg [Qc 4 0,Qc 5 0,Qc 6 1,Q 7 (.bld [(0,1),(1,1),(2,1),(3,1),(4,1),(5,1)] [.int .i64 0,.int .i64 0,.int .i64 0,.int .i64 0,.int .i64 0,.int .i64 0] [] [(0,.k 
 (.d (.int .i64 1000))),(3,.k (.d (.int .i64 1000))),(4,.t 6)]),Qc 8 0,Q 9 (.nck (.t 8)),Q 10 (.fa 15 (.t 9)),Q 11 (.ld true 6 (.t 10)),⟨some 12,.prim .call [.k (.fn 
 (.func 45) [] []),.t 5,.t 7,.t 11] [],none⟩,Q 13 (.nck (.t 4)),Q 14 (.fa 15 (.t 13)),⟨none,.st 6 (.t 14) (.t 12),none⟩]
def q2y:List LRes:=[]
theorem q4f:q0t Tryz.prog 96 15 q2v q2y:=⟨_,_,Tryz.func96,rfl,by kernel_rfl,by kernel_rfl,rfl⟩
theorem pon(fd:D)(q:PT)(c:Option Nat)(x:Int){m:Option AObj}(hm:rowM m=true):MVE Tryz.prog 96 [.ptr (.x 0) 0,.d (I x)] [pob fd q c] m (.tuple []) [pob fd (q.on x) c] m:=by
 refine q4f.mv (by kernel_rfl) rfl rfl ?_;generalize hM:mob m=M;have ha:aget M 1000=m:=hM▸q0o m;have hn:=hm;unfold rowM at hn;have hMM:∀o:AObj,Sub ((0,o)::M) ((0,o)::M):=fun o=>hM▸subM o m
 simp only[go_sem,↓reduceIte,q2v,q2y,I,pob];refine q0e.poM rfl (z5B fd q c (1000,0,0,1000,x,0) q.tm hm) (q0l _ _ _) (q0l _ _ _) hm hM rfl rfl rfl ⟨⟨rfl,rfl⟩,rfl⟩ ?_;simp only[go_sem,↓reduceIte,pob,PT.er,m6D,mat,I,ha,hn];rfl
def PT.tx(q:PT)(b:Bool):PT:={ (if q.inn=b then q.er 10 else q)with inn:=b,tm:=q20,lm:=q20 }
def q10:q0m:=
 .seq (.seq (.reg [Qc 4 0,Q 5 (.nck (.t 4)),Q 6 (.fa 27 (.t 5)),Q 7 (.ld false 1 (.t 6)),Qc 8 1,Q 9 (.eqB false (.t 7) (.t 8))]) (.cond (.t 9) (.reg [Qc 10 0,Q 11 (.mkI 76 (Ki 
 10)),⟨some 12,.prim .call [.k (.fn (.func 66) [] []),.t 10,.t 11] [],none⟩]) .skip)) (.reg [Qc 13 0,Qc 14 0,Qc 15 0,Qc 16 1,⟨some 17,.call 30 [],none⟩,⟨some 18,.call 
 30 [],none⟩,Q 19 (.nck (.t 13)),Q 20 (.fa 27 (.t 19)),⟨none,.st 1 (.t 20) (.t 16),none⟩,Q 21 (.nck (.t 14)),Q 22 (.fa 15 (.t 21)),⟨none,.st 6 (.t 22) (.t 17),none⟩,Q 
 23 (.nck (.t 15)),Q 24 (.fa 21 (.t 23)),⟨none,.st 6 (.t 24) (.t 18),none⟩])
def q16:List LRes:=[]
theorem q3O:q0t Tryz.prog 47 25 q10 q16:=⟨_,_,Tryz.func47,rfl,by kernel_rfl,by kernel_rfl,rfl⟩
theorem j8F(fd:D)(q:PT)(c:Option Nat)(b:Bool){m:Option AObj}(hm:rowM m=true):MVE Tryz.prog 47 [.ptr (.x 0) 0,.d (.bool b)] [pob fd q c] m (.tuple []) [pob fd (q.tx b) c] m:=by
 refine q3O.mv (by kernel_rfl) rfl rfl ?_;generalize hM:mob m=M;have ha:aget M 1000=m:=hM▸q0o m;have hn:=hm;unfold rowM at hn;have hMM:∀o:AObj,Sub ((0,o)::M) ((0,o)::M):=fun o=>hM▸subM o m
 simp only[go_sem,↓reduceIte,q10,q16,I,pob];refine⟨fun h=>?_,fun h=>?_⟩
 ·have e:q.tx b={ q.er 10 with inn:=b,tm:=q20,lm:=q20 }:=by simp[PT.tx,h]
  refine q0e.poM rfl (q7G fd q c 10 hm) (q0l _ _ _) (q0l _ _ _) hm hM rfl rfl rfl ⟨⟨rfl,rfl⟩,rfl⟩ ?_;simp only[go_sem,↓reduceIte,pob,I];refine q0i.of q6N ?_;simp only[go_sem,↓reduceIte];refine q0i.of q6N ?_;simp only[go_sem,↓reduceIte,mat,I,ha,hn];rw[e];rfl
 ·have e:q.tx b={ q with inn:=b,tm:=q20,lm:=q20 }:=by simp[PT.tx,h]
  refine q0i.of q6N ?_;simp only[go_sem,↓reduceIte];refine q0i.of q6N ?_;simp only[go_sem,↓reduceIte,mat,I,ha,hn];rw[e];rfl
theorem gI0{a:D}{l:List D}:getI (a::l) 0=some a:=rfl
theorem gI1{a b:D}{l:List D}:getI (a::b::l) 1=some b:=rfl
theorem gI2{a b c:D}{l:List D}:getI (a::b::c::l) 2=some c:=rfl
theorem gI3{a b c d:D}{l:List D}:getI (a::b::c::d::l) 3=some d:=rfl
theorem gI4{a b c d e:D}{l:List D}:getI (a::b::c::d::e::l) 4=some e:=rfl
theorem gI5{a b c d e f:D}{l:List D}:getI (a::b::c::d::e::f::l) 5=some f:=rfl
attribute [go_sem] gI0 gI1 gI2 gI3 gI4 gI5
def q3R:q0m:=
 .seq (.reg [⟨some 2,.allo [.int .i64 0,.int .i64 0,.int .i64 0,.int .i64 0,.int .i64 0,.int .i64 0],none⟩]) (.seq (.dreg [Qc 3 0,Q 4 (.ia 1 (.t 3) (Ki 0)),Q 5 (.ld false 1 
 (.t 4)),Qc 6 0,Q 7 (.ia 1 (.t 6) (Ki 1)),Q 8 (.ld false 1 (.t 7)),Qc 9 0,Q 10 (.ia 1 (.t 9) (Ki 2)),Q 11 (.ld false 1 (.t 10)),Qc 12 0,Q 13 (.ia 1 (.t 12) (Ki 3)),Q 14 
 (.ld false 1 (.t 13)),Qc 15 0,Q 16 (.ia 1 (.t 15) (Ki 4)),Q 17 (.ld false 1 (.t 16)),Qc 18 0,Q 19 (.ia 1 (.t 18) (Ki 5)),Q 20 (.ld false 1 (.t 19)),Q 21 (.bld [(0,1),(1, 
 1),(2,1),(3,1),(4,1),(5,1)] [.int .i64 0,.int .i64 0,.int .i64 0,.int .i64 0,.int .i64 0,.int .i64 0] [] [(0,.t 5),(1,.t 8),(2,.t 11),(3,.t 14),(4,.t 17), 
 (5,.t 20)]),⟨none,.st 6 (.t 2) (.t 21),none⟩]) .ret)
def q3T:List LRes:=[.cell 2 true 6]
theorem q51:q0t Tryz.prog 46 22 q3R q3T:=⟨_,_,Tryz.func46,rfl,by kernel_rfl,by kernel_rfl,rfl⟩
theorem j2X(a b c d e f:Int):q0y Tryz.prog 46 [.list [I a,I b,I c,I d,I e,I f]] (fun r=>r=.one (m6D (a,b,c,d,e,f))):=by
 refine q51.call rfl ?_;simp only[go_sem,↓reduceIte,q3R,q3T,I,m6D,mat]
structure OpV where
 nm:List UInt8
 args:List Val
def OpV.d(o:OpV):D:=.agg [.str o.nm,.list (q0M o.args)]
def q9H(l:List Val):List Int:=l.filterMap fun v=>if v.kind=2 then some v.n else none
def nmD(l:List Int):List D:=l.map fun n=>.int .i64 n
theorem z2V(l:List Int):(nmD l).length=l.length:=by simp[nmD]
def q2Y(l:List Val)(k:Nat):Option (List Int):=if(q9H l).length=k∧l.length=k then some (q9H l)else none
def kErr{α:Type}(o:Option α):Nat:=if o.isNone=true then 8 else 0
def q1v(l:List Val)(k:Nat):List Int:=(q2Y l k).getD (List.replicate k 0)
theorem j0s(l:List Val)(v:Val):q9H (l++[v])=q9H l++(if v.kind=2 then[v.n]else[]):=by
 simp only[q9H,List.filterMap_append];congr 1
 by_cases h:v.kind=2<;>simp[h]
theorem z9q(l:List Val):(q9H l).length≤l.length:=List.length_filterMap_le _ _
theorem er0(q:PT):q.er 0=q:=by
 obtain⟨s,saved,tm,lm,inn,out,bad⟩:=q;unfold PT.er orE
 by_cases h:bad=0<;>simp[h]
def q1z:q0m:=
 .seq (.reg [⟨some 4,.box (.t 1),none⟩,⟨some 6,.nils 3 1,none⟩]) (.seq (.reg [⟨some 7,.nils 3 1,none⟩]) (.seq (.seq (.reg [Q 10 (.fa 1 (.t 4)),Q 11 (.ld false 1 (.t 10)),Q 
 12 (.len false (.t 11)),Q 13 (.cp (Ki 0))]) (.block 0 (.loop (.seq (.reg [Q 14 (.bin .lss (.t 13) (.t 12))]) (.seq (.cond (.t 14) .skip (.exit 0)) (.seq (.block 1 (.seq (.reg [Q 
 15 (.ia 5 (.t 11) (.t 13)),Q 16 (.ld true 5 (.t 15)),⟨some 9,.allo [.int .i64 0,.int .i64 0,.str [],.list [],.list []],none⟩,⟨none,.st 5 (.t 9) (.t 16),none⟩]) (.seq 
 (.reg [Q 17 (.fa 0 (.t 9)),Q 18 (.ld false 1 (.t 17)),Q 19 (.bin .eql (.t 18) (Ki 2))]) (.cond (.t 19) (.reg [Qc 20 7,Q 21 (.fa 1 (.t 9)),Q 22 (.ld false 1 (.t 21)),⟨some 
 23,.bsl 3 1 [.t 22],none⟩,⟨some 24,.app 3 1 8 false (.t 20) (.t 23),none⟩,Qa 7 24]) .skip)))) (.reg [Q 25 (.bin .add (.t 13) (Ki 1)),Qc 13 25]))))))) (.seq (.seq (.reg [Qc 
 26 7,Q 27 (.len false (.t 26)),Qc 28 2,Q 29 (.bin .neq (.t 27) (.t 28)),Qc 30 29,Qg 31 (.fa 1 (.t 4)) 30 false,Qg 32 (.ld false 1 (.t 31)) 30 false,Qg 33 (.len false (.t 
 32)) 30 false,Qd 34 2 30 false,Qg 35 (.bin .neq (.t 33) (.t 34)) 30 false,Q 36 (.pick (.t 30) KT (.t 35))]) (.cond (.t 36) (.seq (.reg [Qc 37 0,Q 38 (.mkI 76 (Ki 8)),⟨some 
 39,.prim .call [.k (.fn (.func 66) [] []),.t 37,.t 38] [],none⟩]) (.seq (.reg [Qc 40 2,⟨some 41,.prim (.mkSlice 96) [.t 40,.t 40] [],none⟩,Qa 6 41]) .ret)) .skip)) (.seq 
 (.reg [Qc 42 7,Qa 6 42]) .ret))))
def q1D:List LRes:=[.tmp 6]
theorem q3j:q0t Tryz.prog 43 43 q1z q1D:=⟨_,_,Tryz.func43,rfl,by kernel_rfl,by kernel_rfl,rfl⟩
theorem q81(fd:D)(q:PT)(c:Option Nat)(o:OpV)(k:Nat)(hl:o.args.length≤1000)(hk:k≤10){m:Option AObj}(hm:rowM m=true):
  MVE Tryz.prog 43 [.ptr (.x 0) 0,.d o.d,.d (I k)] [pob fd q c] m (.d (.list (nmD (q1v o.args k)))) [pob fd (q.er (kErr (q2Y o.args k))) c] m:=by
 refine q3j.mv (by kernel_rfl) rfl rfl ?_;generalize hM:mob m=M;have ha:aget M 1000=m:=hM▸q0o m;have hn:=hm;unfold rowM at hn;have hMM:∀o:AObj,Sub ((0,o)::M) ((0,o)::M):=fun o=>hM▸subM o m
 simp only[go_sem,↓reduceIte,q1z,q1D,I,OpV.d];have hvl:=q0n o.args;refine q0j (fun i:Nat=>⟨[(0,.ptr (.x 0) 0),(2,.d (.int .i64 k)),(4,.ptr (.l 4) 0),(6,.own (.t 6) 3 1 []),(7,.own (.t 7) 3 1 (nmD (q9H (o.args.take i)))),(11,.d (.list (q0M o.args))),(12,.d (.int .i64 o.args.length)),(13,.d (.int .i64 i))],[(4,.cells [.d (.str o.nm),.d (.list (q0M o.args))])],(0,pob fd q c)::M⟩)
  (fun i=>i≤o.args.length) (fun i=>o.args.length-i) 0 ?_ (Zar _) ?_
 ·refine Weak.mk ?_ ?_ (hMM _)<;>simp only[go_sem,↓reduceIte,Sub,Int.natCast_add,Int.natCast_mul,hvl];rfl
 ·intro i hi;simp(disch:=omega)only[go_sem,↓reduceIte];refine⟨fun hlt=>?_,fun hge=>?_⟩
  ·obtain⟨v,hv⟩:=get_some (l:=o.args) (i:=i) (by omega);have htk:o.args.take (i+1)=o.args.take i++[v]:=by rw[Zbd,hv];rfl
   have hno:=j0s (o.args.take i) v;have hg:getI (q0M o.args) (i:Int)=some v.d:=by rw[q0d,q4Z,hv];rfl
   simp(disch:=omega)only[go_sem,↓reduceIte,hg,Val.d_eq];refine⟨fun h2=>?_,fun h2=>?_⟩
   ·have hb1:=z9q (o.args.take i);have hb2:=z2V (q9H (o.args.take i));rw[Zcb]at hb1;refine⟨⟨by omega,by omega⟩,i+1,?_,by omega,by omega⟩;rw[htk,hno,if_pos h2];refine Weak.mk ?_ ?_ (hMM _)<;>simp only[go_sem,↓reduceIte,Sub,Int.natCast_add,Int.natCast_mul,nmD,List.map_append,Zai,Zbe]
   ·refine⟨i+1,?_,by omega,by omega⟩;rw[htk,hno,if_neg h2,Zdc];refine Weak.mk ?_ ?_ (hMM _)<;>simp only[go_sem,↓reduceIte,Sub,Int.natCast_add,Int.natCast_mul]
  ·have hie:i=o.args.length:=by omega
   subst hie;have hnl:=z2V (q9H o.args);rw[Zcf,hnl,hvl];refine⟨fun h1=>⟨fun h2=>?_,fun h2=>?_⟩,fun h1=>?_⟩
   rotate_left
   ·have e:q2Y o.args k=some (q9H o.args):=if_pos ⟨by omega,by omega⟩;simp only[q1v,e,kErr,Zbj,Option.isNone_some,Zan,↓reduceIte,er0,ha,and_true,true_and];exact hn
   rotate_left
   all_goals
    have e:q2Y o.args k=none:=if_neg (by omega);simp only[q1v,e,kErr,Zbm,Zcl,↓reduceIte];refine q0e.poM rfl (q7G fd q c 8 hm) (q0l _ _ _) (q0l _ _ _) hm hM rfl rfl rfl ⟨⟨rfl,rfl⟩,rfl⟩ ?_;simp only[go_sem,↓reduceIte];refine q0e.mkData (n:=k) (z:=.int .i64 0) (zv:=.int .i64 0) 41 rfl rfl (show q3V Tryz.prog 96=some (3,1,8) by kernel_rfl) (by kernel_rfl) rfl rfl (fun f w=>.int _ _) (by omega) (by omega) rfl (z0r (q0l _ _ _).no hm hM) ?_;simp only[go_sem,↓reduceIte,ha,hn];simp[nmD]
def strM:List Val→Option (List UInt8)
 |[v]=>if v.kind=3 then some v.s else none
 |_=>none
theorem z3v{l:List Val}(h:l.length≠1):strM l=none:=by
 match l with
 |[]=>rfl
 |[v]=>simp at h
 |_::_::_=>rfl
def q2i:q0m:=
 .seq (.reg [⟨some 4,.box (.t 1),none⟩,Qx 6 (.k (.d (.str [])))]) (.seq (.seq (.reg [Q 7 (.fa 1 (.t 4)),Q 8 (.ld false 1 (.t 7)),Q 9 (.len false (.t 8)),Qc 10 2,Q 11 (.bin 
 .add (.t 10) (Ki 1)),Q 12 (.bin .neq (.t 9) (.t 11)),Qc 13 12,Qg 14 (.fa 1 (.t 4)) 13 false,Qg 15 (.ld false 1 (.t 14)) 13 false,Qd 16 2 13 false,Qg 17 (.ia 5 (.t 15) (.t 
 16)) 13 false,Qg 18 (.fa 0 (.t 17)) 13 false,Qg 19 (.ld false 1 (.t 18)) 13 false,Qg 20 (.bin .neq (.t 19) (Ki 3)) 13 false,Q 21 (.pick (.t 13) KT (.t 20))]) (.cond (.t 21) 
 (.seq (.reg [Qc 22 0,Q 23 (.mkI 76 (Ki 8)),⟨some 24,.prim .call [.k (.fn (.func 66) [] []),.t 22,.t 23] [],none⟩]) (.seq (.reg [Qx 6 (.k (.d (.str [])))]) .ret)) .skip)) 
 (.seq (.reg [Q 25 (.fa 1 (.t 4)),Q 26 (.ld false 1 (.t 25)),Qc 27 2,Q 28 (.ia 5 (.t 26) (.t 27)),Q 29 (.fa 2 (.t 28)),Q 30 (.ld false 1 (.t 29)),Qa 6 30]) .ret))
def q2o:List LRes:=[.tmp 6]
theorem q3Z:q0t Tryz.prog 70 31 q2i q2o:=⟨_,_,Tryz.func70,rfl,by kernel_rfl,by kernel_rfl,rfl⟩
theorem pstr(fd:D)(q:PT)(c:Option Nat)(o:OpV)(hl:o.args.length≤1000){m:Option AObj}(hm:rowM m=true):
  MVE Tryz.prog 70 [.ptr (.x 0) 0,.d o.d,.d (I 0)] [pob fd q c] m (.d (.str ((strM o.args).getD []))) [pob fd (q.er (kErr (strM o.args))) c] m:=by
 refine q3Z.mv (by kernel_rfl) rfl rfl ?_;generalize hM:mob m=M;have ha:aget M 1000=m:=hM▸q0o m;have hn:=hm;unfold rowM at hn;have hMM:∀o:AObj,Sub ((0,o)::M) ((0,o)::M):=fun o=>hM▸subM o m
 obtain⟨nm,args⟩:=o;have hvl:=q0n args;simp(disch:=omega)only[go_sem,↓reduceIte,q2i,q2o,I,OpV.d];refine⟨fun h1=>?_,fun h1=>?_⟩
 ·obtain⟨v,rfl⟩:∃v,args=[v]:=by
   match args,h1 with
   |[v],_=>exact⟨v,rfl⟩
   |[],h1=>simp[q0M]at h1
   |_::_::_,h1=>simp[q0M]at h1;omega
  have hg:getI (q0M [v]) 0=some v.d:=rfl;simp(disch:=omega)only[go_sem,↓reduceIte,hg,Val.d_eq];refine⟨fun h2=>?_,fun h2=>?_⟩
  ·have e:strM [v]=none:=if_neg h2;simp only[e,kErr,Zbm,Zcl,↓reduceIte];refine q0e.poM rfl (q7G fd q c 8 hm) (q0l _ _ _) (q0l _ _ _) hm hM rfl rfl rfl ⟨⟨rfl,rfl⟩,rfl⟩ ?_;simp only[go_sem,↓reduceIte,ha,hn]
  ·have e:strM [v]=some v.s:=if_pos h2;simp only[go_sem,↓reduceIte,hg,Val.d_eq,e,kErr,Zbj,Option.isNone_some,er0,ha,hn]
 ·have e:strM args=none:=z3v (by omega);simp only[e,kErr,Zbm,Zcl,↓reduceIte];refine q0e.poM rfl (q7G fd q c 8 hm) (q0l _ _ _) (q0l _ _ _) hm hM rfl rfl rfl ⟨⟨rfl,rfl⟩,rfl⟩ ?_;simp only[go_sem,↓reduceIte,ha,hn]
def PT.wb(q:PT)(n:Nat):PT:={ q with bad:=n }
theorem j9m(q:PT)(n e:Nat):(q.wb n).er e=q.wb (orE n e):=rfl
def PT.glA(q:PT)(x:Sgn):PT:=
 let o1:=mulF q.s.size q.s.scale
 let o2:=catF (o1.getD 0,0,0,q.s.size,0,q.s.rise) q.tm
 let o3:=catF (o2.getD m60) q.s.ctm
 let o4:=appF (o3.getD m60) 0 0
 let o5:=appF (o3.getD m60) x.width 0
 let o6:=appF (o3.getD m60) 0 1000
 let o7:=appF (o3.getD m60) x.width 1000
 let n7:=orE (orE (orE (orE (orE (orE (orE q.bad (errO o1)) (errO o2)) (errO o3)) (errO o4)) (errO o5)) (errO o6)) (errO o7)
 let out:=q.out++[⟨x.text,o4.getD (0,0),o5.getD (0,0),q.s.size,q1O [o4.getD (0,0),o5.getD (0,0),o6.getD (0,0),o7.getD (0,0)]⟩]
 { q with out:=out,bad:=if 1000<out.length then orE n7 2 else n7 }
def PSt.wide(s:PSt):Bool:=match s.font with
 |some f=>f.wide
 |none=>false
def PT.glB(q:PT)(x:Sgn):PT:=
 let o9:=mulF x.width q.s.size
 let o10:=addF (o9.getD 0) q.s.char
 let n10:=orE (orE q.bad (errO o9)) (errO o10)
 let o11:=addF (o10.getD 0) q.s.word
 if x.code=32∧q.s.wide=false then(let o12:=mulF (o11.getD 0) q.s.scale;(q.wb (orE (orE n10 (errO o11)) (errO o12))).on (o12.getD 0))
 else(let o12:=mulF (o10.getD 0) q.s.scale;(q.wb (orE n10 (errO o12))).on (o12.getD 0))
def PT.gl(q:PT)(x:Sgn):PT:=(q.glA x).glB x
def pX(fd:D)(q:PT)(c:Option Nat)(n:Nat):AObj:=pob fd (q.wb n) c
theorem q5U(fd:D)(q:PT)(c:Option Nat)(n:Nat):PO (pX fd q c n):=q0l _ _ _
theorem j2R{l:List Gph}(h:l≠[]):outV l=.own (.c (.x 0) 28) 55 10 (q3d l):=by
 cases l with
 |nil=>exact absurd rfl h
 |cons g l=>rfl
def q1R:q0m:=
 .seq (.reg [⟨some 3,.box (.t 1),none⟩]) (.seq (.reg [Qc 13 0,Q 14 (.nck (.t 13)),Q 15 (.fa 1 (.t 14)),Q 16 (.ld true 13 (.t 15)),⟨some 4,.allo [.int .i64 0,.int .i64 0, 
 .int .i64 0,.int .i64 0,.int .i64 0,.int .i64 0,.nilpT 83,.int .i64 0,.int .i64 0,.int .i64 0,.int .i64 0,.int .i64 0,.int .i64 0],none⟩,⟨none,.st 13 (.t 4) (.t 16), 
 none⟩]) (.seq (.reg [Qc 17 0,Q 18 (.fa 7 (.t 4)),Q 19 (.ld false 1 (.t 18)),Q 20 (.fa 10 (.t 4)),Q 21 (.ld false 1 (.t 20)),⟨some 22,.prim .call [.k (.fn (.func 97) [] []), 
 .t 17,.t 19,.t 21] [],none⟩,Qa 5 22]) (.seq (.fam [Qc 23 0,Qc 24 0,Qc 25 5,Q 26 (.fa 7 (.t 4)),Q 27 (.ld false 1 (.t 26)),Q 28 (.fa 12 (.t 4)),Q 29 (.ld false 1 (.t 
 28)),Q 30 (.bld [(0,1),(1,1),(2,1),(3,1),(4,1),(5,1)] [.int .i64 0,.int .i64 0,.int .i64 0,.int .i64 0,.int .i64 0,.int .i64 0] [] [(0,.t 25),(3,.t 27),(5, 
 .t 29)]),Qc 31 0,Q 32 (.nck (.t 31)),Q 33 (.fa 15 (.t 32)),Q 34 (.ld true 6 (.t 33)),⟨some 35,.prim .call [.k (.fn (.func 45) [] []),.t 24,.t 30,.t 34] [],none⟩,Q 36 
 (.fa 0 (.t 4)),Q 37 (.ld true 6 (.t 36)),⟨some 38,.prim .call [.k (.fn (.func 45) [] []),.t 23,.t 35,.t 37] [],none⟩,⟨some 6,.allo [.int .i64 0,.int .i64 0,.int .i64 
 0,.int .i64 0,.int .i64 0,.int .i64 0],none⟩,⟨none,.st 6 (.t 6) (.t 38),none⟩] [[],[],[],[],[3],[],[5],[2,4,6],[],[8],[9],[10],[1,7,11],[],[13],[0,12, 
 14,12],[],[16,15,15,0,1,2,3,4,5,6,7,8,9,10,11,12,13,14,15,16]]) (.seq (.fam [Qc 39 0,Q 40 (.ld true 6 (.t 6)),⟨some 41,.prim .call [.k (.fn (.func 117) 
 [] []),.t 39,.t 40,.k (.d (.int .i64 0)),.k (.d (.int .i64 0))] [],none⟩,Qc 42 0,Q 43 (.ld true 6 (.t 6)),Q 44 (.fa 1 (.t 3)),Q 45 (.ld false 1 (.t 44)),⟨some 46,.prim 
 .call [.k (.fn (.func 117) [] []),.t 42,.t 43,.t 45,.k (.d (.int .i64 0))] [],none⟩,⟨some 7,.allo [.int .i64 0,.int .i64 0],none⟩,⟨some 8,.allo [.int .i64 0,.int .i64 
 0],none⟩,⟨none,.st 2 (.t 7) (.t 41),none⟩,⟨none,.st 2 (.t 8) (.t 46),none⟩] [[],[],[0,1],[],[],[],[5],[3,4,6,2],[],[],[8,2,7,0,1,2,8,9],[9,7,10,0, 
 1,2,3,4,5,6,7,8,9,10]]) (.seq (.fam [Qc 47 0,Q 48 (.ld true 6 (.t 6)),⟨some 49,.prim .call [.k (.fn (.func 117) [] []),.t 47,.t 48,.k (.d (.int .i64 0)),.k (.d 
 (.int .i64 1000))] [],none⟩,Qc 50 0,Q 51 (.ld true 6 (.t 6)),Q 52 (.fa 1 (.t 3)),Q 53 (.ld false 1 (.t 52)),⟨some 54,.prim .call [.k (.fn (.func 117) [] []),.t 50,.t 51, 
 .t 53,.k (.d (.int .i64 1000))] [],none⟩,⟨some 9,.allo [.int .i64 0,.int .i64 0],none⟩,⟨some 10,.allo [.int .i64 0,.int .i64 0],none⟩,⟨none,.st 2 (.t 9) (.t 49), 
 none⟩,⟨none,.st 2 (.t 10) (.t 54),none⟩] [[],[],[0,1],[],[],[],[5],[3,4,6,2],[],[],[8,2,7,0,1,2,8,9],[9,7,10,0,1,2,3,4,5,6,7,8,9,10]]) (.seq 
 (.reg [Q 55 (.ld true 2 (.t 7)),Q 56 (.ld true 2 (.t 8)),Q 57 (.ld true 2 (.t 9)),Q 58 (.ld true 2 (.t 10)),⟨some 59,.bsl 51 2 [.t 55,.t 56,.t 57,.t 58],none⟩,⟨some 60, 
 .call 118 [.t 59],none⟩,⟨some 11,.allo [.int .i64 0,.int .i64 0,.int .i64 0,.int .i64 0],none⟩,⟨none,.st 4 (.t 11) (.t 60),none⟩]) (.seq (.dreg [Qc 61 0,Qc 62 0,Q 63 
 (.nck (.t 62)),Q 64 (.fa 28 (.t 63)),Q 65 (.ld false 1 (.t 64)),Q 66 (.fa 2 (.t 3)),Q 67 (.ld false 1 (.t 66)),Q 68 (.ld true 2 (.t 7)),Q 69 (.ld true 2 (.t 8)),Q 70 (.fa 
 7 (.t 4)),Q 71 (.ld false 1 (.t 70)),Q 72 (.ld true 4 (.t 11)),Q 73 (.bld [(0,1),(1,2),(3,2),(5,1),(6,4)] [.str [],.int .i64 0,.int .i64 0,.int .i64 0,.int .i64 
 0,.int .i64 0,.int .i64 0,.int .i64 0,.int .i64 0,.int .i64 0] [] [(0,.t 67),(1,.t 68),(2,.t 69),(3,.t 71),(4,.t 72)]),⟨some 74,.bsl 55 10 [.t 73],none⟩,⟨some 
 75,.app 55 10 88 false (.t 65) (.t 74),none⟩,Q 76 (.nck (.t 61)),Q 77 (.fa 28 (.t 76)),⟨none,.st 1 (.t 77) (.t 75),none⟩]) (.seq (.seq (.reg [Qc 78 0,Q 79 (.nck (.t 78)), 
 Q 80 (.fa 28 (.t 79)),Q 81 (.ld false 1 (.t 80)),Q 82 (.len false (.t 81)),Q 83 (.bin .gtr (.t 82) (Ki 1000))]) (.cond (.t 83) (.reg [Qc 84 0,Q 85 (.mkI 76 (Ki 2)),⟨some 86, 
 .prim .call [.k (.fn (.func 66) [] []),.t 84,.t 85] [],none⟩]) .skip)) (.seq (.fam [Qc 87 0,Qc 88 0,Q 89 (.fa 1 (.t 3)),Q 90 (.ld false 1 (.t 89)),Q 91 (.fa 7 (.t 4)),Q 
 92 (.ld false 1 (.t 91)),⟨some 93,.prim .call [.k (.fn (.func 97) [] []),.t 88,.t 90,.t 92] [],none⟩,Q 94 (.fa 8 (.t 4)),Q 95 (.ld false 1 (.t 94)),⟨some 96,.prim .call 
 [.k (.fn (.func 119) [] []),.t 87,.t 93,.t 95] [],none⟩,Qa 12 96] [[],[],[],[2],[],[4],[1,3,5],[],[7],[0,6,8,6],[9,9,0,1,2,3,4,5,6,7,8,9]]) (.seq 
 (.seq (.reg [Q 97 (.fa 0 (.t 3)),Q 98 (.ld false 1 (.t 97)),Q 99 (.bin .eql (.t 98) (Ki 32)),Qc 100 99,Qg 101 (.fa 6 (.t 4)) 100 true,Qg 102 (.ld false 1 (.t 101)) 100 true, 
 Qg 103 (.nck (.t 102)) 100 true,Qg 104 (.fa 0 (.t 103)) 100 true,Qg 105 (.ld false 1 (.t 104)) 100 true,Qg 106 (.not (.t 105)) 100 true,Q 107 (.pick (.t 100) (.t 106) KF)]) 
 (.cond (.t 107) (.reg [Qc 108 0,Qc 109 12,Q 110 (.fa 9 (.t 4)),Q 111 (.ld false 1 (.t 110)),⟨some 112,.prim .call [.k (.fn (.func 119) [] []),.t 108,.t 109,.t 111] [], 
 none⟩,Qa 12 112]) .skip)) (.reg [Qc 113 0,Qc 114 0,Qc 115 12,Q 116 (.fa 10 (.t 4)),Q 117 (.ld false 1 (.t 116)),⟨some 118,.prim .call [.k (.fn (.func 97) [] []),.t 114, 
 .t 115,.t 117] [],none⟩,⟨some 119,.prim .call [.k (.fn (.func 96) [] []),.t 113,.t 118] [],none⟩])))))))))))
def q1U:List LRes:=[]
theorem q3E:q0t Tryz.prog 95 120 q1R q1U:=⟨_,_,Tryz.func95,rfl,by kernel_rfl,by kernel_rfl,rfl⟩
theorem j8B(fd:D)(q:PT)(c:Option Nat)(x:Sgn)(hout:q.out.length≤100000)(f:Fnt)(hf:q.s.font=some f){m:Option AObj}(hm:rowM m=true):
  MVE Tryz.prog 95 [.ptr (.x 0) 0,.d x.d] [pob fd q c] m (.tuple []) [pob fd (q.gl x) c] m:=by
 refine q3E.mv (by kernel_rfl) rfl rfl ?_;generalize hM:mob m=M;have ha:aget M 1000=m:=hM▸q0o m;have hn:=hm;unfold rowM at hn;have hMM:∀o:AObj,Sub ((0,o)::M) ((0,o)::M):=fun o=>hM▸subM o m
 generalize hE:pob fd (q.gl x) c=oE;simp(disch:=omega)only[go_sem,↓reduceIte,q1R,q1U,I,Sgn.d,pob];have hcat:∀n a b,MVE Tryz.prog 45 [.ptr (.x 0) 0,.d (m6D a),.d (m6D b)] [pX fd q c n] m (.d (m6D ((catF a b).getD m60))) [pX fd q c (orE n (errO (catF a b)))] m:=fun n a b=>z5B fd (q.wb n) c a b hm
 have happ:∀n a x y,MVE Tryz.prog 117 [.ptr (.x 0) 0,.d (m6D a),.d (I x),.d (I y)] [pX fd q c n] m (.d (pt ((appF a x y).getD (0,0)).1 ((appF a x y).getD (0,0)).2)) [pX fd q c (orE n (errO (appF a x y)))] m:=fun n a x y=>j8A fd (q.wb n) c a x y hm
 refine q0e.poM rfl (pmul fd q c q.s.size q.s.scale hm) (q0l _ _ _) (q0l _ _ _) hm hM rfl rfl rfl ⟨⟨rfl,rfl⟩,rfl⟩ ?_;simp only[go_sem,↓reduceIte];generalize ho1:mulF q.s.size q.s.scale=o1;refine q6J (pX fd q c) M 17 [0,4,5] [6] (orE q.bad (errO o1)) (by kernel_rfl) rfl rfl rfl ?_;simp only[go_sem,↓reduceIte,pX,pob,PT.wb,m6D,mat,I];refine FR.prim (q3b.mve rfl hM (hcat _ (o1.getD 0,0,0,q.s.size,0,q.s.rise) q.tm) (q5U _ _ _ _) (q5U _ _ _ _) hm rfl rfl ⟨⟨rfl,rfl⟩,rfl⟩) rfl ?_;generalize ho2:catF (o1.getD 0,0,0,q.s.size,0,q.s.rise) q.tm=o2
 simp only[go_sem,↓reduceIte,pX,pob,PT.wb,m6D,mat,I];refine FR.prim (q3b.mve rfl hM (hcat _ (o2.getD m60) q.s.ctm) (q5U _ _ _ _) (q5U _ _ _ _) hm rfl rfl ⟨⟨rfl,rfl⟩,rfl⟩) rfl ?_;generalize ho3:catF (o2.getD m60) q.s.ctm=o3;simp only[go_sem,↓reduceIte,pX,pob,PT.wb,m6D,mat,I];refine q6J (pX fd q c) M 10 [0,6,3] [7,8] (orE (orE (orE q.bad (errO o1)) (errO o2)) (errO o3)) (by kernel_rfl) rfl rfl rfl ?_;simp only[go_sem,↓reduceIte,pX,pob,PT.wb,m6D,mat,I]
 refine FR.prim (q3b.mve rfl hM (happ _ (o3.getD m60) 0 0) (q5U _ _ _ _) (q5U _ _ _ _) hm rfl rfl ⟨⟨rfl,rfl⟩,rfl⟩) rfl ?_;generalize ho4:appF (o3.getD m60) 0 0=o4;simp only[go_sem,↓reduceIte,pX,pob,PT.wb,m6D,mat,pt,I];refine FR.prim (q3b.mve rfl hM (happ _ (o3.getD m60) x.width 0) (q5U _ _ _ _) (q5U _ _ _ _) hm rfl rfl ⟨⟨rfl,rfl⟩,rfl⟩) rfl ?_;generalize ho5:appF (o3.getD m60) x.width 0=o5;simp only[go_sem,↓reduceIte,pX,pob,PT.wb,m6D,mat,pt,I]
 refine q6J (pX fd q c) M 10 [0,6,3] [9,10] (orE (orE (orE (orE (orE q.bad (errO o1)) (errO o2)) (errO o3)) (errO o4)) (errO o5)) (by kernel_rfl) rfl rfl rfl ?_;simp only[go_sem,↓reduceIte,pX,pob,PT.wb,m6D,mat,pt,I];refine FR.prim (q3b.mve rfl hM (happ _ (o3.getD m60) 0 1000) (q5U _ _ _ _) (q5U _ _ _ _) hm rfl rfl ⟨⟨rfl,rfl⟩,rfl⟩) rfl ?_;generalize ho6:appF (o3.getD m60) 0 1000=o6;simp only[go_sem,↓reduceIte,pX,pob,PT.wb,m6D,mat,pt,I]
 refine FR.prim (q3b.mve rfl hM (happ _ (o3.getD m60) x.width 1000) (q5U _ _ _ _) (q5U _ _ _ _) hm rfl rfl ⟨⟨rfl,rfl⟩,rfl⟩) rfl ?_;generalize ho7:appF (o3.getD m60) x.width 1000=o7;simp only[go_sem,↓reduceIte,pX,pob,PT.wb,m6D,mat,pt,I];refine q0i.of (z7s [o4.getD (0,0),o5.getD (0,0),o6.getD (0,0),o7.getD (0,0)] (by simp)) ?_;generalize ho8:q1O [o4.getD (0,0),o5.getD (0,0),o6.getD (0,0),o7.getD (0,0)]=o8;simp only[go_sem,↓reduceIte,boxD,I]
 have hOV:=j2R (l:=q.out++[⟨x.text,o4.getD (0,0),o5.getD (0,0),q.s.size,o8⟩]) (by simp);have hLn:(q3d (q.out++[⟨x.text,o4.getD (0,0),o5.getD (0,0),q.s.size,o8⟩])).length=q.out.length+1:=by simp[q3d]
 have hsn:q3d (q.out++[⟨x.text,o4.getD (0,0),o5.getD (0,0),q.s.size,o8⟩])=q3d q.out++[.agg [.str x.text,.int .i64 (o4.getD (0,0)).1,.int .i64 (o4.getD (0,0)).2,.int .i64 (o5.getD (0,0)).1,.int .i64 (o5.getD (0,0)).2,.int .i64 q.s.size,.int .i64 o8.1,.int .i64 o8.2.1,.int .i64 o8.2.2.1,.int .i64 o8.2.2.2]]:=by simp[q3d,Gph.d,I]
 have hql:(q3d q.out).length=q.out.length:=by simp[q3d]
 have hAo:outV (q.glA x).out=.own (.c (.x 0) 28) 55 10 (q3d (q.out++[⟨x.text,o4.getD (0,0),o5.getD (0,0),q.s.size,o8⟩])):=by
  simp only[PT.glA,ho1,ho2,ho3,ho4,ho5,ho6,ho7,ho8];exact hOV
 generalize hn7:orE (orE (orE (orE (orE (orE (orE q.bad (errO o1)) (errO o2)) (errO o3)) (errO o4)) (errO o5)) (errO o6)) (errO o7)=n7 at *;have hAb:(q.glA x).bad=if 1000<q.out.length+1 then orE n7 2 else n7:=by
  simp only[PT.glA,ho1,ho2,ho3,ho4,ho5,ho6,ho7,hn7,Zaq,Zad,Zam,Zaw]
 generalize hG:(⟨x.text,o4.getD (0,0),o5.getD (0,0),q.s.size,o8⟩:Gph)=gl0 at *;have hpo:=fun n=>q0l fd ((q.glA x).wb n) c
 have hpf:=q7G fd ((q.glA x).wb n7) c 2 hm;have hao2:∀n,outV ((q.glA x).wb n).out=.own (.c (.x 0) 28) 55 10 (q3d (q.out++[gl0])):=fun n=>hAo
 rw[j9m]at hpf;simp only[pob,hao2]at hpo hpf;have hmul:∀n a b,MVE Tryz.prog 97 [.ptr (.x 0) 0,.d (I a),.d (I b)] [pX fd (q.glA x) c n] m (.d (I ((mulF a b).getD 0))) [pX fd (q.glA x) c (orE n (errO (mulF a b)))] m:=fun n a b=>pmul fd ((q.glA x).wb n) c a b hm
 have hadd:∀n a b,MVE Tryz.prog 119 [.ptr (.x 0) 0,.d (I a),.d (I b)] [pX fd (q.glA x) c n] m (.d (I ((addF a b).getD 0))) [pX fd (q.glA x) c (orE n (errO (addF a b)))] m:=fun n a b=>padd fd ((q.glA x).wb n) c a b hm
 by_cases ho:q.out=[]
 case' pos=>
  have hv:outV q.out=.ns:=by rw[ho];rfl
  rw[show q3d q.out=[] by rw[ho];rfl,Zbu]at hsn;simp(disch:=omega)only[go_sem,↓reduceIte,hv];rw[←hsn];rw[ho,if_neg (by simp)]at hAb
 case' neg=>
  have hv:=j2R ho;simp(disch:=omega)only[go_sem,↓reduceIte,hv,←hsn,hLn,hql];refine⟨⟨by omega,by omega⟩,fun h1=>?ya,fun h1=>?yb⟩
 case' ya=>
  rw[if_pos (by omega)]at hAb;refine q0e.poM rfl hpf (hpo _) (hpo _) hm hM rfl rfl rfl ⟨⟨rfl,rfl⟩,rfl⟩ ?_;simp only[go_sem,↓reduceIte]
 case' yb=>
  rw[if_neg (by omega)]at hAb
 all_goals
  refine z9I ⟨[(0,.ptr (.x 0) 0),(3,.ptr (.l 3) 0),(4,.ptr (.l 4) 0)],[(3,.cells [.d (.int .i64 x.code),.d (.int .i64 x.width),.d (.str x.text)]),(4,.cells [.d (.int .i64 q.s.ctm.1),.d (.int .i64 q.s.ctm.2.1),.d (.int .i64 q.s.ctm.2.2.1),.d (.int .i64 q.s.ctm.2.2.2.1),.d (.int .i64 q.s.ctm.2.2.2.2.1),.d (.int .i64 q.s.ctm.2.2.2.2.2),.d (q89 q.s.font),.d (.int .i64 q.s.size),.d (.int .i64 q.s.char),.d (.int .i64 q.s.word),.d (.int .i64 q.s.scale),.d (.int .i64 q.s.lead),.d (.int .i64 q.s.rise)])],(0,pX fd (q.glA x) c (q.glA x).bad)::M⟩ (Weak.mk ?_ ?_ ?_) ?_
  ·simp only[go_sem,↓reduceIte,Sub]
  ·simp only[go_sem,↓reduceIte,Sub]
  ·show Sub ((0,pob fd (q.glA x) c)::M) _
   unfold pob;rw[hAo,hAb];exact hMM _
  clear hAb;refine q6J (pX fd (q.glA x) c) M 10 [0,3,4] [] (q.glA x).bad (by kernel_rfl) rfl rfl rfl ?_;simp only[go_sem,↓reduceIte,pX,pob,PT.wb];refine FR.prim (q3b.mve rfl hM (hmul _ x.width q.s.size) (q5U _ _ _ _) (q5U _ _ _ _) hm rfl rfl ⟨⟨rfl,rfl⟩,rfl⟩) rfl ?_;generalize ho9:mulF x.width q.s.size=o9;simp only[go_sem,↓reduceIte,pX,pob,PT.wb,I];refine FR.prim (q3b.mve rfl hM (hadd _ (o9.getD 0) q.s.char) (q5U _ _ _ _) (q5U _ _ _ _) hm rfl rfl ⟨⟨rfl,rfl⟩,rfl⟩) rfl ?_;generalize ho10:addF (o9.getD 0) q.s.char=o10
  simp only[go_sem,↓reduceIte,I,hf,q89];have hwd:q.s.wide=f.wide:=by simp[PSt.wide,hf]
  have hsA:(q.glA x).s=q.s:=rfl;refine⟨fun hx=>⟨fun hw=>?_,fun hw=>?_⟩,fun hx=>?_⟩
  ·refine q0e.poM rfl (hadd (orE (orE (q.glA x).bad (errO o9)) (errO o10)) (o10.getD 0) q.s.word) (q5U _ _ _ _) (q5U _ _ _ _) hm hM rfl rfl rfl ⟨⟨rfl,rfl⟩,rfl⟩ ?_;generalize ho11:addF (o10.getD 0) q.s.word=o11;simp only[go_sem,↓reduceIte,I];refine q0e.poM rfl (hmul (orE (orE (orE (q.glA x).bad (errO o9)) (errO o10)) (errO o11)) (o11.getD 0) q.s.scale) (q5U _ _ _ _) (q5U _ _ _ _) hm hM rfl rfl rfl ⟨⟨rfl,rfl⟩,rfl⟩ ?_;generalize ho12:mulF (o11.getD 0) q.s.scale=o12;simp only[go_sem,↓reduceIte,I]
   refine q0e.poM rfl (pon fd ((q.glA x).wb (orE (orE (orE (orE (q.glA x).bad (errO o9)) (errO o10)) (errO o11)) (errO o12))) c (o12.getD 0) hm) (q0l _ _ _) (q0l _ _ _) hm hM rfl rfl rfl ⟨⟨rfl,rfl⟩,rfl⟩ ?_;simp only[go_sem,↓reduceIte,ha,hn];rw[←hE,PT.gl,PT.glB];simp only[hsA,ho9,ho10,ho11,ho12,hx,hwd,hw,and_self,↓reduceIte]
  all_goals
   have hno:¬(x.code=32∧f.wide=false):=fun h=>by first|exact hx h.1|(rw[h.2]at hw;cases hw)|exact hw h.2
   refine q0e.poM rfl (hmul (orE (orE (q.glA x).bad (errO o9)) (errO o10)) (o10.getD 0) q.s.scale) (q5U _ _ _ _) (q5U _ _ _ _) hm hM rfl rfl rfl ⟨⟨rfl,rfl⟩,rfl⟩ ?_;generalize ho12:mulF (o10.getD 0) q.s.scale=o12;simp only[go_sem,↓reduceIte,I];refine q0e.poM rfl (pon fd ((q.glA x).wb (orE (orE (orE (q.glA x).bad (errO o9)) (errO o10)) (errO o12))) c (o12.getD 0) hm) (q0l _ _ _) (q0l _ _ _) hm hM rfl rfl rfl ⟨⟨rfl,rfl⟩,rfl⟩ ?_;simp only[go_sem,↓reduceIte,ha,hn];rw[←hE,PT.gl,PT.glB];simp only[hsA,ho9,ho10,ho12,hwd,hno,↓reduceIte]
def PT.gls(q:PT):List Sgn→PT
 |[]=>q
 |x::l=>PT.gls (if q.bad=0 then q.gl x else q) l
def PT.shw(q:PT)(t:List UInt8):PT:=
 match q.s.font with
 |some f=>if q.inn=true then(match q8M f t with
  |some l=>q.gls l
  |none=>q.er 4)else q.er 6
 |none=>q.er 6
structure PT.ok(q:PT):Prop where
 out:q.bad=0→q.out.length≤1000
 font:∀f,q.s.font=some f→f.ok
theorem q7F{n e:Nat}(h:orE n e=0):n=0:=by
 unfold orE at h;split at h
 ·assumption
 ·exact h
theorem q7b{q:PT}(h:q.ok)(e:Nat):(q.er e).ok:=⟨fun hb=>h.out (q7F hb),h.font⟩
theorem gl_s(q:PT)(x:Sgn):(q.gl x).s=q.s∧(q.gl x).out=(q.glA x).out∧((q.gl x).bad=0→(q.glA x).bad=0)∧(q.gl x).inn=q.inn∧(q.gl x).saved=q.saved∧(q.gl x).lm=q.lm:=by
 unfold PT.gl PT.glB;split
 ·exact⟨rfl,rfl,fun h=>q7F (q7F (q7F (q7F (q7F h)))),rfl,rfl,rfl⟩
 ·exact⟨rfl,rfl,fun h=>q7F (q7F (q7F (q7F h))),rfl,rfl,rfl⟩
theorem j9v{q:PT}(h:q.ok)(x:Sgn):(q.gl x).ok:=by
 obtain⟨h1,h2,h3,_,_⟩:=gl_s q x;refine⟨fun hb=>?_,by rw[h1];exact h.font⟩;have hb:=h3 hb;rw[h2];have hA:∃n,(q.glA x).bad=if 1000<(q.glA x).out.length then orE n 2 else n:=⟨_,rfl⟩
 obtain⟨n,hA⟩:=hA;rw[hA]at hb;split at hb
 ·exact absurd hb (by unfold orE;split<;>omega)
 ·rename_i hl;omega
theorem z89(q:PT):∀(l:List Sgn) (x:Sgn),q.gls (l++[x])=(if(q.gls l).bad=0 then(q.gls l).gl x else q.gls l):=by
 intro l;induction l generalizing q with
 |nil=>intro x;rfl
 |cons a l ih=>intro x;simp only[Zbh,PT.gls];exact ih _ x
theorem z4q{q:PT}(h:q.ok):∀(l:List Sgn),(q.gls l).ok∧(q.gls l).s=q.s∧(q.gls l).inn=q.inn∧(q.gls l).saved=q.saved∧(q.gls l).lm=q.lm:=by
 intro l;induction l generalizing q with
 |nil=>exact⟨h,rfl,rfl,rfl,rfl⟩
 |cons a l ih=>
  simp only[PT.gls];split
  ·obtain⟨h1,_,_,h4,h5,h6⟩:=gl_s q a;obtain⟨k1,k2,k3,k4,k5⟩:=ih (j9v h a);exact⟨k1,k2.trans h1,k3.trans h4,k4.trans h5,k5.trans h6⟩
  ·exact ih h
theorem z4H{f:Fnt}{t:List UInt8}{l:List Sgn}(h:q8M f t=some l):l.length≤t.length:=by
 unfold q8M at h;split at h
 ·split at h
  ·cases h;exact z0D f t
  ·cases h
 ·cases h;simp[q6W]
def q05:q0m:=
 .seq (.seq (.reg [Qc 8 0,Q 9 (.nck (.t 8)),Q 10 (.fa 1 (.t 9)),Q 11 (.fa 6 (.t 10)),Q 12 (.ld false 1 (.t 11)),Q 13 (.eqN 1 false (.t 12)),Qc 14 13,Qd 15 0 14 false,Qg 16 
 (.nck (.t 15)) 14 false,Qg 17 (.fa 27 (.t 16)) 14 false,Qg 18 (.ld false 1 (.t 17)) 14 false,Qg 19 (.not (.t 18)) 14 false,Q 20 (.pick (.t 14) KT (.t 19))]) (.cond (.t 20) 
 (.seq (.reg [Qc 21 0,Q 22 (.mkI 76 (Ki 6)),⟨some 23,.prim .call [.k (.fn (.func 66) [] []),.t 21,.t 22] [],none⟩]) .ret) .skip)) (.seq (.reg [Qc 25 0,Q 26 (.nck (.t 25)), 
 Q 27 (.fa 1 (.t 26)),Q 28 (.fa 6 (.t 27)),Q 29 (.ld false 1 (.t 28)),Q 30 (.nck (.t 29)),Q 31 (.ld true 5 (.t 30)),Qc 32 1,⟨some 33,.call 94 [.t 31,.t 32],none⟩,Qc 24 
 33,Q 34 (.ext 0 (.t 24)),Q 35 (.ext 1 (.t 24)),Qa 4 34,Qa 5 35]) (.seq (.reg [Qc 36 0,Qc 37 5,⟨some 38,.prim .call [.k (.fn (.func 66) [] []),.t 36,.t 37] [],none⟩]) 
 (.seq (.reg [Qc 39 4,Q 40 (.len false (.t 39)),Q 41 (.cp (Ki 0))]) (.block 0 (.loop (.seq (.reg [Q 42 (.bin .lss (.t 41) (.t 40))]) (.seq (.cond (.t 42) .skip (.exit 0)) (.seq 
 (.block 1 (.seq (.reg [Q 43 (.ia 3 (.t 39) (.t 41)),Q 44 (.ld true 3 (.t 43)),⟨some 7,.allo [.int .i64 0,.int .i64 0,.str []],none⟩,⟨none,.st 3 (.t 7) (.t 44),none⟩]) 
 (.seq (.reg [Qc 45 0,Q 46 (.nck (.t 45)),Q 47 (.fa 29 (.t 46)),Q 48 (.ld false 1 (.t 47)),Q 49 (.eqN 0 false (.t 48))]) (.cond (.t 49) (.reg [Qc 50 0,Q 51 (.ld true 3 (.t 
 7)),⟨some 52,.prim .call [.k (.fn (.func 95) [] []),.t 50,.t 51] [],none⟩]) .skip)))) (.reg [Q 53 (.bin .add (.t 41) (Ki 1)),Qc 41 53])))))))))
def q06:List LRes:=[]
theorem q3N:q0t Tryz.prog 69 54 q05 q06:=⟨_,_,Tryz.func69,rfl,by kernel_rfl,by kernel_rfl,rfl⟩
theorem j7f(fd:D)(q:PT)(c:Option Nat)(t:List UInt8)(hq:q.ok)(ht:t.length≤1000000){m:Option AObj}(hm:rowM m=true):
  MVE Tryz.prog 69 [.ptr (.x 0) 0,.d (.str t)] [pob fd q c] m (.tuple []) [pob fd (q.shw t) c] m:=by
 refine q3N.mv (by kernel_rfl) rfl rfl ?_;generalize hM:mob m=M;have ha:aget M 1000=m:=hM▸q0o m;have hn:=hm;unfold rowM at hn;have hMM:∀o:AObj,Sub ((0,o)::M) ((0,o)::M):=fun o=>hM▸subM o m
 generalize hE:pob fd (q.shw t) c=oE;have hpo:=q0l fd q c;have hpo6:=fun e=>q0l fd (q.er e) c
 have hpf6:=fun e=>q7G fd q c e hm
 cases hf:q.s.font with
 |none=>
  simp only[pob,PT.er,hf,q89]at hpo hpo6 hpf6;simp only[go_sem,↓reduceIte,q05,q06,I,pob,hf,q89];refine q0e.poM rfl (hpf6 6) hpo (hpo6 6) hm hM rfl rfl rfl ⟨⟨rfl,rfl⟩,rfl⟩ ?_;simp only[go_sem,↓reduceIte,ha,hn];rw[←hE];simp only[PT.shw,hf,pob,PT.er,q89]
 |some f=>
  simp only[pob,PT.er,hf,q89]at hpo hpo6 hpf6;simp only[go_sem,↓reduceIte,q05,q06,I,pob,hf,q89];refine⟨fun hi=>?_,fun hi=>?_⟩
  ·refine q0e.poM rfl (hpf6 6) hpo (hpo6 6) hm hM rfl rfl rfl ⟨⟨rfl,rfl⟩,rfl⟩ ?_;simp only[go_sem,↓reduceIte,ha,hn];rw[←hE];simp only[PT.shw,hf,hi,pob,PT.er,q89,Zan,↓reduceIte]
  ·refine q0i.of (j0L f (hq.font f hf) t ht) ?_;cases hs:q8M f t with
   |none=>
    simp only[go_sem,↓reduceIte,z5P];refine q0e.poM rfl (hpf6 4) hpo (hpo6 4) hm hM rfl rfl rfl ⟨⟨rfl,rfl⟩,rfl⟩ ?_;simp only[go_sem,↓reduceIte];refine q1X ?_;simp only[go_sem,↓reduceIte,ha,hn];rw[←hE];simp only[PT.shw,hf,hi,hs,pob,PT.er,q89,↓reduceIte]
   |some l=>
    have hlb:=z4H hs;have hE2:q.shw t=q.gls l:=by simp only[PT.shw,hf,hi,hs,↓reduceIte]
    simp only[go_sem,↓reduceIte,z5P,show errD 0=.nil from rfl];refine q0e.poM rfl (hpf6 0) hpo (hpo6 0) hm hM rfl rfl rfl ⟨⟨rfl,rfl⟩,rfl⟩ ?_;have hll:=q0v l;simp only[go_sem,↓reduceIte,hll];refine q0j (fun i:Nat=>⟨[(0,.ptr (.x 0) 0),(39,.d (.list (q3G l))),(40,.d (.int .i64 l.length)),(41,.d (.int .i64 i))],[],(0,pob fd (q.gls (l.take i)) c)::M⟩) (fun i=>i≤l.length) (fun i=>l.length-i) 0 ?_ (Zar _) ?_
    ·refine Weak.mk ?_ ?_ ?_
     ·simp only[go_sem,↓reduceIte,Sub]
     ·simp only[go_sem,↓reduceIte,Sub]
     ·show Sub ((0,pob fd q c)::M) _
      have h0:orE q.bad 0=q.bad:=congrArg PT.bad (er0 q);rw[h0];simp only[pob,hf,q89];exact hMM _
    ·intro i hi';simp(disch:=omega)only[go_sem,↓reduceIte];refine⟨fun hlt=>?_,fun hge=>?_⟩
     ·obtain⟨x,hx⟩:=get_some (l:=l) (i:=i) (by omega);have hg:getI (q3G l) (i:Int)=some x.d:=by rw[q0d,z7e,hx];rfl
      have htk:l.take (i+1)=l.take i++[x]:=by rw[Zbd,hx];rfl
      have hgl:=z89 q (l.take i) x;rw[←htk]at hgl;obtain⟨hok,hs1,_⟩:=z4q hq (l.take i);generalize q.gls (l.take i)=q1 at *
      by_cases hb:q1.bad=0
      ·rw[if_pos hb]at hgl;obtain⟨s1,sv1,tm1,lm1,in1,out1,b1⟩:=q1;simp only at hb hs1;subst hb;subst hs1;simp(disch:=omega)only[go_sem,↓reduceIte,hg,Sgn.d,pob,show errD 0=.nil from rfl];refine q0e.poM rfl (j8B fd ⟨q.s,sv1,tm1,lm1,in1,out1,0⟩ c x (by have:=hok.out rfl;simp only at this ⊢;omega) f hf hm) (q0l _ _ _) (q0l _ _ _) hm hM rfl rfl rfl ⟨⟨rfl,rfl⟩,rfl⟩ ?_;simp(disch:=omega)only[go_sem,↓reduceIte];refine⟨i+1,?_,by omega,by omega⟩;rw[hgl]
       refine Weak.mk ?_ ?_ (hMM _)<;>simp only[go_sem,↓reduceIte,Sub,Int.natCast_add,Int.natCast_mul]
      ·rw[if_neg hb]at hgl;simp(disch:=omega)only[go_sem,↓reduceIte,hg,Sgn.d,pob,q4k hb];refine⟨i+1,?_,by omega,by omega⟩;rw[hgl];refine Weak.mk ?_ ?_ ?_
       ·simp only[go_sem,↓reduceIte,Sub,Int.natCast_add]
       ·simp only[go_sem,↓reduceIte,Sub]
       ·simp only[pob,q4k hb];exact hMM _
     ·have hie:i=l.length:=by omega
      subst hie;simp(disch:=omega)only[go_sem,↓reduceIte,ha,hn];rw[←hE,hE2,Zcf]
def PT.bk(q:PT)(n:Int):PT:=
 (q.wb (orE (orE q.bad (errO (mulF (Int.tdiv (-n) 1000) q.s.size))) (errO (mulF ((mulF (Int.tdiv (-n) 1000) q.s.size).getD 0) q.s.scale)))).on ((mulF ((mulF (Int.tdiv (-n) 1000) q.s.size).getD 0) q.s.scale).getD 0)
def PT.ls1(q:PT)(v:Val):PT:=if v.kind=3 then q.shw v.s else if v.kind=2 then q.bk v.n else q.er 8
def PT.lst(q:PT):List Val→PT
 |[]=>q
 |v::l=>PT.lst (q.ls1 v) l
theorem z9k(q:PT):∀(l:List Val) (v:Val),q.lst (l++[v])=(q.lst l).ls1 v:=by
 intro l;induction l generalizing q with
 |nil=>intro v;rfl
 |cons a l ih=>intro v;simp only[Zbh,PT.lst];exact ih _ v
theorem j9t{q:PT}(h:q.ok)(n:Int):(q.bk n).ok:=⟨fun hb=>h.out (q7F (q7F (q7F hb))),h.font⟩
theorem j6a{q:PT}(h:q.ok)(t:List UInt8):(q.shw t).ok∧(q.shw t).s=q.s:=by
 unfold PT.shw;split
 ·split
  ·split
   ·exact⟨(z4q h _).1,(z4q h _).2.1⟩
   ·exact⟨q7b h 4,rfl⟩
  ·exact⟨q7b h 6,rfl⟩
 ·exact⟨q7b h 6,rfl⟩
theorem j51{q:PT}(h:q.ok)(v:Val):(q.ls1 v).ok:=by
 unfold PT.ls1;split
 ·exact(j6a h _).1
 ·split
  ·exact j9t h _
  ·exact q7b h 8
theorem j2n{q:PT}(h:q.ok)(l:List Val):(q.lst l).ok:=by
 induction l generalizing q with
 |nil=>exact h
 |cons v l ih=>exact ih (j51 h v)
theorem z8J{x B:Int}(h1 : -B≤x)(h2:x≤B): -B≤x.tdiv 1000∧x.tdiv 1000≤B:=by
 rcases Int.le_total 0 x with h|h
 ·rw[Int.tdiv_eq_ediv_of_nonneg h];omega
 ·have e:x = -(-x):=by omega
  rw[e,Int.neg_tdiv,Int.tdiv_eq_ediv_of_nonneg (by omega)];omega
def pY(fd:D)(q:PT)(c:Option Nat)(p:Nat×M6):AObj:=pob fd { q with bad:=p.1,tm:=p.2 } c
theorem j0w(fd:D)(q:PT)(c:Option Nat)(p:Nat×M6):PO (pY fd q c p):=q0l _ _ _
def q1Y:q0m:=
 .seq (.reg [Qc 6 1,Q 7 (.len false (.t 6)),Q 8 (.cp (Ki 0))]) (.block 0 (.loop (.seq (.reg [Q 9 (.bin .lss (.t 8) (.t 7))]) (.seq (.cond (.t 9) .skip (.exit 0)) (.seq (.block 1 
 (.seq (.reg [Q 10 (.ia 5 (.t 6) (.t 8)),Q 11 (.ld true 5 (.t 10)),⟨some 5,.allo [.int .i64 0,.int .i64 0,.str [],.list [],.list []],none⟩,⟨none,.st 5 (.t 5) (.t 11), 
 none⟩]) (.seq (.reg [Q 12 (.fa 0 (.t 5)),Q 13 (.ld false 1 (.t 12))]) (.block 2 (.seq (.reg [Q 18 (.bin .eql (.t 13) (Ki 3)),Qa 17 18]) (.cond (.t 17) (.reg [Qc 19 0,Q 20 (.fa 
 2 (.t 5)),Q 21 (.ld false 1 (.t 20)),⟨some 22,.prim .call [.k (.fn (.func 69) [] []),.t 19,.t 21] [],none⟩]) (.seq (.reg [Q 24 (.bin .eql (.t 13) (Ki 2)),Qa 23 24]) (.cond 
 (.t 23) (.fam [Qc 25 0,Qc 26 0,Qc 27 0,Q 28 (.fa 1 (.t 5)),Q 29 (.ld false 1 (.t 28)),Q 30 (.neg (.t 29)),Q 31 (.bin .quo (.t 30) (Ki 1000)),Qc 32 0,Q 33 (.nck (.t 32)), 
 Q 34 (.fa 1 (.t 33)),Q 35 (.fa 7 (.t 34)),Q 36 (.ld false 1 (.t 35)),⟨some 37,.prim .call [.k (.fn (.func 97) [] []),.t 27,.t 31,.t 36] [],none⟩,Qc 38 0,Q 39 (.nck (.t 
 38)),Q 40 (.fa 1 (.t 39)),Q 41 (.fa 10 (.t 40)),Q 42 (.ld false 1 (.t 41)),⟨some 43,.prim .call [.k (.fn (.func 97) [] []),.t 26,.t 37,.t 42] [],none⟩,⟨some 44,.prim 
 .call [.k (.fn (.func 96) [] []),.t 25,.t 43] [],none⟩] [[],[],[],[],[3],[4],[5],[],[7],[8],[9],[10],[2,6,11],[],[13],[14],[15],[16],[1,12,17,12],[0, 
 18,18]]) (.reg [Qc 14 0,Q 15 (.mkI 76 (Ki 8)),⟨some 16,.prim .call [.k (.fn (.func 66) [] []),.t 14,.t 15] [],none⟩]))))))))) (.reg [Q 45 (.bin .add (.t 8) (Ki 1)),Qc 8 
 45]))))))
def q14:List LRes:=[]
theorem q3K:q0t Tryz.prog 71 46 q1Y q14:=⟨_,_,Tryz.func71,rfl,by kernel_rfl,by kernel_rfl,rfl⟩
theorem j9D(fd:D)(q:PT)(c:Option Nat)(l:List Val)(hq:q.ok)(hl:l.length≤100000)(hv:∀v∈l,v.s.length≤1000000∧(v.kind=2→Lim v.n)){m:Option AObj}(hm:rowM m=true):
  MVE Tryz.prog 71 [.ptr (.x 0) 0,.d (.list (q0M l))] [pob fd q c] m (.tuple []) [pob fd (q.lst l) c] m:=by
 refine q3K.mv (by kernel_rfl) rfl rfl ?_;generalize hM:mob m=M;have ha:aget M 1000=m:=hM▸q0o m;have hn:=hm;unfold rowM at hn;have hMM:∀o:AObj,Sub ((0,o)::M) ((0,o)::M):=fun o=>hM▸subM o m
 have hll:=q0n l;simp only[go_sem,↓reduceIte,q1Y,q14,I,hll];refine q0j (fun i:Nat=>⟨[(0,.ptr (.x 0) 0),(6,.d (.list (q0M l))),(7,.d (.int .i64 l.length)),(8,.d (.int .i64 i))],[],(0,pob fd (q.lst (l.take i)) c)::M⟩) (fun i=>i≤l.length) (fun i=>l.length-i) 0 ?_ (Zar _) ?_
 ·refine Weak.mk ?_ ?_ (hMM _)<;>simp only[go_sem,↓reduceIte,Sub,Int.natCast_add,Int.natCast_mul]
 ·intro i hi;simp(disch:=omega)only[go_sem,↓reduceIte];refine⟨fun hlt=>?_,fun hge=>?_⟩
  ·obtain⟨v,hx⟩:=get_some (l:=l) (i:=i) (by omega);have hg:getI (q0M l) (i:Int)=some v.d:=by rw[q0d,q4Z,hx];rfl
   have htk:l.take (i+1)=l.take i++[v]:=by rw[Zbd,hx];rfl
   have hgl:=z9k q (l.take i) v;rw[←htk]at hgl;have hok:=j2n hq (l.take i);obtain⟨hv1,hv2⟩:=hv v (Zaa hx);generalize q.lst (l.take i)=q1 at *;simp(disch:=omega)only[go_sem,↓reduceIte,hg,Val.d_eq];refine⟨fun h3=>?_,fun h3=>?_⟩
   ·refine q0e.poM rfl (j7f fd q1 c v.s hok hv1 hm) (q0l _ _ _) (q0l _ _ _) hm hM rfl rfl rfl ⟨⟨rfl,rfl⟩,rfl⟩ ?_;simp(disch:=omega)only[go_sem,↓reduceIte];refine⟨i+1,?_,by omega,by omega⟩;rw[hgl,PT.ls1,if_pos h3];refine Weak.mk ?_ ?_ (hMM _)<;>simp only[go_sem,↓reduceIte,Sub,Int.natCast_add,Int.natCast_mul]
   ·refine⟨fun h2=>?_,fun h2=>?_⟩
    ·obtain⟨b1,b2⟩:=hv2 h2;have hmul:∀p a b,MVE Tryz.prog 97 [.ptr (.x 0) 0,.d (I a),.d (I b)] [pY fd q1 c p] m (.d (I ((mulF a b).getD 0))) [pY fd q1 c (orE p.1 (errO (mulF a b)),p.2)] m:=fun p a b=>pmul fd { q1 with bad:=p.1,tm:=p.2 } c a b hm
     have hon:∀p x,MVE Tryz.prog 96 [.ptr (.x 0) 0,.d (I x)] [pY fd q1 c p] m (.tuple []) [pY fd q1 c (orE p.1 (errO (catF (1000,0,0,1000,x,0) p.2)),(catF (1000,0,0,1000,x,0) p.2).getD m60)] m:=fun p x=>pon fd { q1 with bad:=p.1,tm:=p.2 } c x hm
     refine q6J (pY fd q1 c) M 20 [0,5] [] (q1.bad,q1.tm) (by kernel_rfl) rfl rfl rfl ?_;obtain⟨t1,t2⟩:=z8J (x := -v.n) (B:=1000000000) (by omega) (by omega);have hw:IntKind.i64.wrap ((0-v.n).tdiv 1000)=(-v.n).tdiv 1000:=by rw[Int.zero_sub];exact IntWalk.i64_in _ (by omega)
     simp(disch:=omega)only[go_sem,↓reduceIte,pY,pob,hw];refine FR.prim (q3b.mve rfl hM (hmul (q1.bad,q1.tm) ((-v.n).tdiv 1000) q1.s.size) (j0w _ _ _ _) (j0w _ _ _ _) hm rfl rfl ⟨⟨rfl,rfl⟩,rfl⟩) rfl ?_;simp(disch:=omega)only[go_sem,↓reduceIte,pY,pob];refine FR.prim (q3b.mve rfl hM (hmul _ ((mulF ((-v.n).tdiv 1000) q1.s.size).getD 0) q1.s.scale) (j0w _ _ _ _) (j0w _ _ _ _) hm rfl rfl ⟨⟨rfl,rfl⟩,rfl⟩) rfl ?_
     refine FR.prim (q3b.mve rfl hM (hon _ ((mulF ((mulF ((-v.n).tdiv 1000) q1.s.size).getD 0) q1.s.scale).getD 0)) (j0w _ _ _ _) (j0w _ _ _ _) hm rfl rfl ⟨⟨rfl,rfl⟩,rfl⟩) rfl ?_;simp(disch:=omega)only[go_sem,↓reduceIte];refine⟨i+1,?_,by omega,by omega⟩;rw[hgl,PT.ls1,if_neg h3,if_pos h2];refine Weak.mk ?_ ?_ ?_
     ·simp only[go_sem,↓reduceIte,Sub,Int.natCast_add]
     ·simp only[go_sem,↓reduceIte,Sub]
     ·exact hMM _
    ·refine q0e.poM rfl (q7G fd q1 c 8 hm) (q0l _ _ _) (q0l _ _ _) hm hM rfl rfl rfl ⟨⟨rfl,rfl⟩,rfl⟩ ?_;simp(disch:=omega)only[go_sem,↓reduceIte];refine⟨i+1,?_,by omega,by omega⟩;rw[hgl,PT.ls1,if_neg h3,if_neg h2];refine Weak.mk ?_ ?_ (hMM _)<;>simp only[go_sem,↓reduceIte,Sub,Int.natCast_add,Int.natCast_mul]
  ·have hie:i=l.length:=by omega
   subst hie;simp(disch:=omega)only[go_sem,↓reduceIte,ha,hn];rw[Zcf]
abbrev Fl:=List (List UInt8×Fnt)
def q0g(l:Fl):D:=.map (l.map fun p=>.str p.1) (l.map fun p=>p.2.d)
def z0m:Fl→List UInt8→Option Fnt
 |[],_=>none
 |p::r,s=>if s=p.1 then some p.2 else z0m r s
theorem z5u(l:Fl)(s:List UInt8):q3g (l.map fun p=>.str p.1) (l.map fun p=>p.2.d) (.str s)=(z0m l s).map Fnt.d:=by
 induction l with
 |nil=>rfl
 |cons p r ih=>
  simp only[Zai,q3g,z0X,beq_iff_eq,z0m]at ih ⊢;split
  ·rfl
  ·exact ih
def fnt0:Fnt:=⟨false,[],0,[],[]⟩
theorem j6V:Tryz.prog.underlying 25=some (.map 9 62):=by kernel_rfl
theorem z8G:Tryz.prog.underlying 9=some .string:=by kernel_rfl
theorem fntZ:Program.zeroOf Tryz.prog 62=some fnt0.d:=by kernel_rfl
def PT.chs(q:PT)(fl:Fl)(l:List Val):PT:=
 match l with
 |[a,b]=>if a.kind=4∧b.kind=2 then(match z0m fl a.s with
  |some f=>{ q with s:={ q.s with font:=some f,size:=b.n } }
  |none=>q.er 6)else q.er 8
 |_=>q.er 8
def q1I:q0m:=
 .seq (.reg [⟨some 3,.box (.t 1),none⟩]) (.seq (.seq (.reg [Q 6 (.fa 1 (.t 3)),Q 7 (.ld false 1 (.t 6)),Q 8 (.len false (.t 7)),Q 9 (.bin .neq (.t 8) (Ki 2)),Qc 10 9,Qg 11 
 (.fa 1 (.t 3)) 10 false,Qg 12 (.ld false 1 (.t 11)) 10 false,Qg 13 (.ia 5 (.t 12) (Ki 0)) 10 false,Qg 14 (.fa 0 (.t 13)) 10 false,Qg 15 (.ld false 1 (.t 14)) 10 false,Qg 16 
 (.bin .neq (.t 15) (Ki 4)) 10 false,Q 17 (.pick (.t 10) KT (.t 16)),Qc 18 17,Qg 19 (.fa 1 (.t 3)) 18 false,Qg 20 (.ld false 1 (.t 19)) 18 false,Qg 21 (.ia 5 (.t 20) (Ki 1)) 
 18 false,Qg 22 (.fa 0 (.t 21)) 18 false,Qg 23 (.ld false 1 (.t 22)) 18 false,Qg 24 (.bin .neq (.t 23) (Ki 2)) 18 false,Q 25 (.pick (.t 18) KT (.t 24))]) (.cond (.t 25) (.seq 
 (.reg [Qc 26 0,Q 27 (.mkI 76 (Ki 8)),⟨some 28,.prim .call [.k (.fn (.func 66) [] []),.t 26,.t 27] [],none⟩]) .ret) .skip)) (.seq (.fam [Qc 30 0,Q 31 (.nck (.t 30)),Q 32 
 (.fa 0 (.t 31)),Q 33 (.ld false 1 (.t 32)),Q 34 (.fa 1 (.t 3)),Q 35 (.ld false 1 (.t 34)),Q 36 (.ia 5 (.t 35) (Ki 0)),Q 37 (.fa 2 (.t 36)),Q 38 (.ld false 1 (.t 37)),⟨some 
 39,.prim (.lookup 25 true) [.t 33,.t 38] [],none⟩,Qc 29 39,Q 40 (.ext 0 (.t 29)),Q 41 (.ext 1 (.t 29)),⟨some 4,.allo [.bool false,.map [] [],.int .i64 0,.map [] [], 
 .list []],none⟩,⟨none,.st 5 (.t 4) (.t 40),none⟩,Qa 5 41] [[],[0],[1],[2],[],[4],[5],[6],[7],[3,8],[9],[10],[10],[],[13,11,0,1,2,3,4,5,6,7,8,9,10, 
 11,13],[12,14,0,1,2,3,4,5,6,7,8,9,10,11,12,13,14]]) (.seq (.seq (.reg [Qc 42 5,Q 43 (.not (.t 42))]) (.cond (.t 43) (.seq (.reg [Qc 44 0,Q 45 (.mkI 76 (Ki 
 6)),⟨some 46,.prim .call [.k (.fn (.func 66) [] []),.t 44,.t 45] [],none⟩]) .ret) .skip)) (.reg [Qc 47 0,Qc 48 0,Q 49 (.fa 1 (.t 3)),Q 50 (.ld false 1 (.t 49)),Q 51 (.ia 
 5 (.t 50) (Ki 1)),Q 52 (.fa 1 (.t 51)),Q 53 (.ld false 1 (.t 52)),Q 54 (.nck (.t 47)),Q 55 (.fa 1 (.t 54)),Q 56 (.fa 6 (.t 55)),⟨none,.st 1 (.t 56) (.t 4),none⟩,Q 57 
 (.nck (.t 48)),Q 58 (.fa 1 (.t 57)),Q 59 (.fa 7 (.t 58)),⟨none,.st 1 (.t 59) (.t 53),none⟩]))))
def q1L:List LRes:=[]
theorem q3p:q0t Tryz.prog 48 60 q1I q1L:=⟨_,_,Tryz.func48,rfl,by kernel_rfl,by kernel_rfl,rfl⟩
theorem j7a(fl:Fl)(q:PT)(c:Option Nat)(o:OpV)(hl:o.args.length≤1000){m:Option AObj}(hm:rowM m=true):
  MVE Tryz.prog 48 [.ptr (.x 0) 0,.d o.d] [pob (q0g fl) q c] m (.tuple []) [pob (q0g fl) (q.chs fl o.args) c] m:=by
 refine q3p.mv (by kernel_rfl) rfl rfl ?_;generalize hM:mob m=M;have ha:aget M 1000=m:=hM▸q0o m;have hn:=hm;unfold rowM at hn;have hMM:∀o:AObj,Sub ((0,o)::M) ((0,o)::M):=fun o=>hM▸subM o m
 generalize hE:pob (q0g fl) (q.chs fl o.args) c=oE;obtain⟨nm,args⟩:=o;have hvl:=q0n args;simp only at hl hE;simp(disch:=omega)only[go_sem,↓reduceIte,q1I,q1L,I,OpV.d];refine⟨fun h1=>?_,fun h1=>?_⟩
 ·obtain⟨a,b,rfl⟩:∃a b,args=[a,b]:=by
   match args,h1 with
   |[a,b],_=>exact⟨a,b,rfl⟩
   |[],h1=>simp[q0M]at h1
   |[_],h1=>simp[q0M]at h1
   |_::_::_::_,h1=>simp[q0M]at h1;omega
  have hg0:getI (q0M [a,b]) 0=some a.d:=rfl;have hg1:getI (q0M [a,b]) 1=some b.d:=rfl;simp(disch:=omega)only[go_sem,↓reduceIte,hg0,hg1,Val.d_eq];have hbad:¬(a.kind=4∧b.kind=2)→pob (q0g fl) (q.er 8) c=oE:=fun h=>by rw[←hE];simp only[PT.chs,h,↓reduceIte]
  refine⟨fun h2=>⟨fun h3=>?_,fun h3=>?_⟩,fun h2=>?_⟩
  ·refine q0e.poM rfl (q7G (q0g fl) q c 8 hm) (q0l _ _ _) (q0l _ _ _) hm hM rfl rfl rfl ⟨⟨rfl,rfl⟩,rfl⟩ ?_;simp only[go_sem,↓reduceIte,ha,hn];rw[hbad fun h=>h3 h.2]
  ·refine j3l (pX (q0g fl) q c) M 15 [0,3] [4] q.bad (fun _=>_) (fun _=>.refl _) (by kernel_rfl) (fun _=>rfl) (fun _=>rfl) (fun _=>rfl) (fun b0=>?_);simp only[go_sem,↓reduceIte,pX,pob,PT.wb,hg0,Val.d_eq];refine FR.prim (q3b.lookup (ks:=fl.map fun p=>.str p.1) (vs:=fl.map fun p=>p.2.d) (key:=.str a.s) rfl rfl j6V z8G rfl (fun k hk=>by obtain⟨p,_,rfl⟩:=Zak.1 hk;rfl) fntZ) z8F ?_;rw[z5u];cases hlk:z0m fl a.s with
   |none=>
    simp only[go_sem,↓reduceIte,Fnt.d,fnt0];refine⟨_,rfl,rfl,_,GhoB.j8c 4 (D.cells fnt0.d) rfl (z0r (q0l (q0g fl) q c).no hm hM),?_⟩;simp only[go_sem,↓reduceIte,AV.frzP,z1M,Zcg];refine q0e.poM rfl (q7G (q0g fl) q c 6 hm) (q0l _ _ _) (q0l _ _ _) hm hM rfl rfl rfl ⟨⟨rfl,rfl⟩,rfl⟩ ?_;simp only[go_sem,↓reduceIte,ha,hn];rw[←hE];simp only[PT.chs,h2,h3,hlk,and_self,↓reduceIte]
   |some f=>
    simp only[go_sem,↓reduceIte,Fnt.d];refine⟨_,rfl,rfl,_,GhoB.j8c 4 (D.cells f.d) rfl (z0r (q0l (q0g fl) q c).no hm hM),?_⟩;simp only[go_sem,↓reduceIte,AV.frzP,z1M,Zcq,Fnt.d,hg1,Val.d_eq,ha,hn];rw[←hE];simp only[PT.chs,h2,h3,hlk,and_self,↓reduceIte,pob,I,q89]
  ·refine q0e.poM rfl (q7G (q0g fl) q c 8 hm) (q0l _ _ _) (q0l _ _ _) hm hM rfl rfl rfl ⟨⟨rfl,rfl⟩,rfl⟩ ?_;simp only[go_sem,↓reduceIte,ha,hn];rw[hbad fun h=>h2 h.1]
 ·have e:q.chs fl args=q.er 8:=by
   match args,h1 with
   |[a,b],h1=>simp[q0M]at h1
   |[],_=>rfl
   |[_],_=>rfl
   |_::_::_::_,_=>rfl
  refine q0e.poM rfl (q7G (q0g fl) q c 8 hm) (q0l _ _ _) (q0l _ _ _) hm hM rfl rfl rfl ⟨⟨rfl,rfl⟩,rfl⟩ ?_;simp only[go_sem,↓reduceIte,ha,hn];rw[←hE,e]
def svOK(q:PT):Option Nat→Prop
 |none=>q.saved=[]
 |some c=>q.saved.length≤c∧c≤maxLen
def PT.sv(q:PT)(back:Bool):PT:=
 if back=true then(match q.saved.getLast? with
  |none=>q.er 10
  |some x=>{ q with s:=x,saved:=q.saved.dropLast })
 else if q.saved.length=8 then q.er 10 else{ q with saved:=q.saved++[q.s] }
def z8O(fd:D)(q:PT)(o:AObj)(m:Option AObj):Prop:=∃c,svOK q c∧o=pob fd q c∧m=svO q.saved c
instance:Inhabited PSt:=⟨⟨m60,none,0,0,0,0,0,0⟩⟩
def pZ(fd:D)(q:PT)(c:Option Nat)(s:PSt):AObj:=pob fd { q with s:=s } c
theorem z6Y(l:List Gph):outV l=.ns∨∃a b c d,outV l=.own a b c d:=by
 cases l with
 |nil=>exact .inl rfl
 |cons g l=>exact .inr ⟨_,_,_,_,rfl⟩
theorem svSl:q3V Tryz.prog 84=some (83,13,104):=by kernel_rfl
theorem svZ:q9N Tryz.prog 83=true:=by kernel_rfl
theorem svT:isSl Tryz.prog 84=true:=by kernel_rfl
theorem z3w(l:List PSt):∀y∈l.map PSt.d,y.cells.length=13:=fun y hy=>by
 obtain⟨s,_,rfl⟩:=Zak.1 hy;rfl
theorem j5i(l:List PSt)(x:PSt)(c:Nat):List.take 13 (List.drop (l.length*13) (rowC 13 ((l++[x]).map PSt.d) c))=
  [.d (I x.ctm.1),.d (I x.ctm.2.1),.d (I x.ctm.2.2.1),.d (I x.ctm.2.2.2.1),.d (I x.ctm.2.2.2.2.1),.d (I x.ctm.2.2.2.2.2),.d (q89 x.font),.d (I x.size),.d (I x.char),.d (I x.word),.d (I x.scale),.d (I x.lead),.d (I x.rise)]:=by
 have h1:((l.map PSt.d).flatMap D.cells).length=l.length*13:=by rw[q0G (z3w l),Zas]
 have h2:l.length*13=(((l.map PSt.d).flatMap D.cells).map AV.d).length:=by rw[Zas,h1]
 rw[rowC,List.map_append,Zde,List.map_append,Zcs,h2,List.drop_left];rfl
theorem j7o(l:List PSt)(c:Nat)(h:l.length≤c):(rowC 13 (l.map PSt.d) c).length=c*13:=q4j (z3w l) (by rw[Zas];exact h)
def q0r:q0m:=
 .seq (.reg [Qc 5 0,Q 6 (.nck (.t 5)),Q 7 (.fa 14 (.t 6)),Q 8 (.ld false 1 (.t 7)),Q 9 (.len false (.t 8)),Qa 4 9]) (.block 0 (.seq (.seq (.reg [Qc 24 1,Q 25 (.not (.t 24)), 
 Qc 26 25,Qd 27 4 26 true,Qg 28 (.bin .eql (.t 27) (Ki 8)) 26 true,Q 29 (.pick (.t 26) (.t 28) KF),Qa 23 29]) (.cond (.t 23) .skip (.reg [Qc 30 1,Qc 31 30,Qd 32 4 31 true, 
 Qg 33 (.bin .eql (.t 32) (Ki 0)) 31 true,Q 34 (.pick (.t 31) (.t 33) KF),Qa 23 34]))) (.cond (.t 23) (.reg [Qc 35 0,Q 36 (.mkI 76 (Ki 10)),⟨some 37,.prim .call [.k (.fn 
 (.func 66) [] []),.t 35,.t 36] [],none⟩]) (.seq (.reg [Qc 39 1,Qa 38 39]) (.cond (.t 38) (.fam [Qc 40 0,Qc 41 0,Qc 42 0,Q 43 (.nck (.t 42)),Q 44 (.fa 14 (.t 43)),Q 45 
 (.ld false 1 (.t 44)),Qc 46 4,Q 47 (.bin .sub (.t 46) (Ki 1)),Q 48 (.ia 13 (.t 45) (.t 47)),Q 49 (.ld true 13 (.t 48)),Qc 50 0,Q 51 (.nck (.t 50)),Q 52 (.fa 14 (.t 51)),Q 
 53 (.ld false 1 (.t 52)),Qc 54 4,Q 55 (.bin .sub (.t 54) (Ki 1)),Q 56 (.sub 13 (.t 53) none (some (.t 55))),Q 57 (.nck (.t 40)),Q 58 (.fa 1 (.t 57)),⟨none,.st 13 (.t 58) 
 (.t 49),none⟩,Q 59 (.nck (.t 41)),Q 60 (.fa 14 (.t 59)),⟨none,.st 1 (.t 60) (.t 56),none⟩] [[],[],[],[2],[3],[4],[],[6],[5,7],[8],[],[10],[11],[12],[],[14], 
 [13,15],[0,0,2,3,4,5,6,7,8,9,13],[17,0,2,3,4,5,6,7,8,9,13],[18,9,0,2,3,4,5,6,7,8,9,13],[1,0,1,2,3,4,5,6,7,8,9,10,11,12,13,14, 
 15,16,17,18,19],[20,0,1,2,3,4,5,6,7,8,9,10,11,12,13,14,15,16,17,18,19],[21,16,19,0,1,2,3,4,5,6,7,8,9,10,11,12,13,14,15,16,17,18, 
 19]]) (.dreg [Qc 10 0,Qc 11 0,Qc 15 0,Q 12 (.nck (.t 11)),Q 13 (.fa 14 (.t 12)),Q 14 (.ld false 1 (.t 13)),Q 16 (.nck (.t 15)),Q 17 (.fa 1 (.t 16)),Q 18 (.ld true 13 (.t 
 17)),⟨some 19,.bsl 83 13 [.t 18],none⟩,⟨some 20,.prim (.bi .append [84,84]) [.t 14,.t 19] [(10,.cp (.t 0))],none⟩,Q 21 (.nck (.t 10)),Q 22 (.fa 14 (.t 21)),⟨none,.st 
 1 (.t 22) (.t 20),none⟩]))))))
def q0s:List LRes:=[]
theorem q3M:q0t Tryz.prog 44 61 q0r q0s:=⟨_,_,Tryz.func44,rfl,by kernel_rfl,by kernel_rfl,rfl⟩
theorem j8C(fd:D)(q:PT)(c:Option Nat)(hc:svOK q c)(hq:q.saved.length≤8)(back:Bool):
  MV Tryz.prog 44 [.ptr (.x 0) 0,.d (.bool back)] [pob fd q c] (svO q.saved c) (fun r hs' m'=>r=.tuple []∧∃o',hs'=[o']∧z8O fd (q.sv back) o' m'):=by
 have hm:=z4L q.saved c;generalize hmm:svO q.saved c=m at *;refine q3M.mv (by kernel_rfl) rfl rfl ?_;generalize hM:mob m=M;have ha:aget M 1000=m:=hM▸q0o m;have hn:=hm;unfold rowM at hn;have hMM:∀o:AObj,Sub ((0,o)::M) ((0,o)::M):=fun o=>hM▸subM o m
 cases c with
 |none=>
  have hs:q.saved=[]:=hc;cases back with
  |true=>
   have e:q.sv true=q.er 10:=by simp[PT.sv,hs]
   rw[e];simp(maxSteps:=2000000)only[go_sem,↓reduceIte,q0r,q0s,I,pob,svV];refine q0e.poM rfl (q7G fd q none 10 hm) (q0l _ _ _) (q0l _ _ _) hm hM rfl rfl rfl ⟨⟨rfl,rfl⟩,rfl⟩ ?_;simp(maxSteps:=2000000)only[go_sem,↓reduceIte,ha,hn];exact⟨_,rfl,none,hs,rfl,hmm.symm⟩
  |false=>
   have e:q.sv false={ q with saved:=q.saved++[q.s] }:=by simp[PT.sv,hs]
   rw[e];subst hM;subst hmm;simp(maxSteps:=2000000)only[go_sem,↓reduceIte,q0r,q0s,I,pob,svV,svO,mob];refine q0e.appX (c:=0) (fs:=[]) (ys:=[q.s.d]) svSl svZ svT (.inl ⟨.inl rfl,rfl⟩) (.inl rfl) (by simp) (fun y hy=>by simp at hy;subst hy;rfl) (fun y hy=>by cases hy) (by simp only[Zad,Zam,maxLen];omega) (fun c' hc1 hc2=>?_)
   rcases z6Y q.out with ho|⟨o1,o2,o3,o4,ho⟩<;>simp(maxSteps:=2000000)only[go_sem,↓reduceIte,St.q3B,AV.drop,AV.has,Zam,Zad,Zbu,q4Y,ho]<;>refine⟨_,rfl,some c',⟨by simp only[Zaq,Zas,Zad,Zam]at hc1 ⊢;rw[hs];simpa using hc1,hc2⟩,?_,?_⟩
   ·simp[pob,svV,ho,I,hs]
   ·simp[svO,List.map_append,hs]
   ·simp[pob,svV,ho,I,hs]
   ·simp[svO,List.map_append,hs]
 |some c=>
  have hc':q.saved.length≤c∧c≤maxLen:=hc;cases back with
  |true=>
   rcases List.eq_nil_or_concat q.saved with hs|⟨l,x,hs⟩
   ·have e:q.sv true=q.er 10:=by simp[PT.sv,hs]
    rw[e];have hz:(q.saved.length:Int)=0:=by rw[hs];rfl
    simp(maxSteps:=2000000)only[go_sem,↓reduceIte,q0r,q0s,I,pob,svV,hz];refine q0e.poM rfl (q7G fd q (some c) 10 hm) (q0l _ _ _) (q0l _ _ _) hm hM rfl rfl rfl ⟨⟨rfl,rfl⟩,rfl⟩ ?_;simp(maxSteps:=2000000)only[go_sem,↓reduceIte,ha,hn];exact⟨_,rfl,some c,hc,rfl,hmm.symm⟩
   ·rw[List.concat_eq_append]at hs;have e:q.sv true={ q with s:=x,saved:=l }:=by simp[PT.sv,hs]
    rw[e];have hlen:q.saved.length=l.length+1:=by rw[hs];simp
    have hz:((q.saved.length:Int)=0)=False:=eq_false (by omega);subst hM;subst hmm;simp(maxSteps:=2000000)only[go_sem,↓reduceIte,q0r,q0s,I,pob,svV,svO,mob,hz];refine j3l (pZ fd q (some c)) [(1000,AObj.cells (rowC 13 (q.saved.map PSt.d) c))] 20 [0,4] [999998] q.s (fun _=>_) (fun _=>.refl _) (by kernel_rfl) (fun _=>rfl) (fun _=>rfl) (fun _=>rfl) (fun b0=>?_)
    have hw:IntKind.i64.wrap ((q.saved.length:Int)-1)=l.length:=by rw[hlen,Int.natCast_add,Zcp,Int.add_sub_cancel];exact IntWalk.i64_in _ (by omega)
    have hz1:(0≤(l.length:Int)∧(l.length:Int)<q.saved.length)=True:=eq_true (by omega);have hz2:(l.length*13+13≤(rowC 13 (q.saved.map PSt.d) c).length)=True:=eq_true (by rw[j7o _ _ hc'.1];omega);have hz3:=j5i l x c;rw[←hs]at hz3;have hz4:(0≤(l.length:Int)∧(l.length:Int)≤c)=True:=eq_true (by omega);simp(maxSteps:=2000000)(disch:=omega)only[go_sem,↓reduceIte,pZ,pob,svV,hw,hz1,hz2,hz3,hz4,Zdd];refine⟨x,StF.x0 rfl rfl rfl rfl (by simp) rfl,?_⟩
    refine⟨_,GhoB.z5L (sz:=13) (c:=c) (fs:=l.map PSt.d) (gs:=[x.d]) (by rw[hs,List.map_append];rfl) (z3w _) (z3w [x]) (by simp;omega),?_⟩;simp(maxSteps:=2000000)only[go_sem,↓reduceIte,q4Y];exact⟨_,rfl,some c,⟨by simp only;omega,hc'.2⟩,rfl,rfl⟩
  |false=>
   by_cases h8:q.saved.length=8
   ·have e:q.sv false=q.er 10:=by simp[PT.sv,h8]
    rw[e];have hz:(q.saved.length:Int)=8:=by omega
    simp(maxSteps:=2000000)only[go_sem,↓reduceIte,q0r,q0s,I,pob,svV,hz];refine q0e.poM rfl (q7G fd q (some c) 10 hm) (q0l _ _ _) (q0l _ _ _) hm hM rfl rfl rfl ⟨⟨rfl,rfl⟩,rfl⟩ ?_;simp(maxSteps:=2000000)only[go_sem,↓reduceIte,ha,hn];exact⟨_,rfl,some c,hc,rfl,hmm.symm⟩
   ·have e:q.sv false={ q with saved:=q.saved++[q.s] }:=by simp[PT.sv,h8]
    rw[e];have hz:((q.saved.length:Int)=8)=False:=eq_false (by omega);subst hM;subst hmm;simp(maxSteps:=2000000)only[go_sem,↓reduceIte,q0r,q0s,I,pob,svV,svO,mob,hz]
    refine q0e.appX (c:=c) (fs:=q.saved.map PSt.d) (ys:=[q.s.d]) svSl svZ svT (.inr ⟨by rw[Zas];rfl,rfl,by rw[Zas];exact hc'.1,hc'.2⟩) (.inl rfl) (by simp) (fun y hy=>by simp at hy;subst hy;rfl) (z3w _) (by simp only[Zas,Zad,Zam,maxLen]at hc' ⊢;omega) (fun c' hc1 hc2=>?_)
    rcases z6Y q.out with ho|⟨o1,o2,o3,o4,ho⟩<;>simp(maxSteps:=2000000)only[go_sem,↓reduceIte,St.q3B,AV.drop,AV.has,Zam,Zad,Zbu,q4Y,ho]<;>refine⟨_,rfl,some c',⟨by simp only[Zaq,Zas,Zad,Zam]at hc1 ⊢;omega,hc2⟩,?_,?_⟩
    ·simp[pob,svV,ho,I]
    ·simp[svO,List.map_append]
    ·simp[pob,svV,ho,I]
    ·simp[svO,List.map_append]
def setAt(s:List UInt8):Option Nat:=
 if s=[84,99]then some 9 else if s=[84,119]then some 10 else if s=[84,122]then some 11 else if s=[84,76]then some 12 else if s=[84,115]then some 13 else none
theorem j8l:Tryz.prog.underlying 108=some (.map 9 106):=by kernel_rfl
def j3p(b:Nat):List UE:=[.m 3,
 .v 4 (.d (.addr (at_ b 0))),.v 5 (.d (.addr (at_ b 0))),.v 6 (.d (.addr (at_ b 1))),.v 7 (.d (.addr (at_ b 9))),.u [84,99] (.addr (at_ b 9)),
 .v 8 (.d (.addr (at_ b 0))),.v 9 (.d (.addr (at_ b 0))),.v 10 (.d (.addr (at_ b 1))),.v 11 (.d (.addr (at_ b 10))),.u [84,119] (.addr (at_ b 10)),
 .v 12 (.d (.addr (at_ b 0))),.v 13 (.d (.addr (at_ b 0))),.v 14 (.d (.addr (at_ b 1))),.v 15 (.d (.addr (at_ b 11))),.u [84,122] (.addr (at_ b 11)),
 .v 16 (.d (.addr (at_ b 0))),.v 17 (.d (.addr (at_ b 0))),.v 18 (.d (.addr (at_ b 1))),.v 19 (.d (.addr (at_ b 12))),.u [84,76] (.addr (at_ b 12)),
 .v 20 (.d (.addr (at_ b 0))),.v 21 (.d (.addr (at_ b 0))),.v 22 (.d (.addr (at_ b 1))),.v 23 (.d (.addr (at_ b 13))),.u [84,115] (.addr (at_ b 13)),
 .v 24 (.mp (.l 3)),.v 2 (.mp (.l 3))]
def q1A:q0m:=
 .seq (.reg [Qx 2 (.k (.d (.map [] [])))]) (.seq (.fam [⟨some 3,.prim (.mkMap 108) [] [],none⟩,Qc 4 0,Q 5 (.nck (.t 4)),Q 6 (.fa 1 (.t 5)),Q 7 (.fa 8 (.t 6)),⟨none,.prim 
 (.mapUpd 108) [.t 3,.k (.d (.str [84,99])),.t 7] [],none⟩,Qc 8 0,Q 9 (.nck (.t 8)),Q 10 (.fa 1 (.t 9)),Q 11 (.fa 9 (.t 10)),⟨none,.prim (.mapUpd 108) [.t 3,.k (.d 
 (.str [84,119])),.t 11] [],none⟩,Qc 12 0,Q 13 (.nck (.t 12)),Q 14 (.fa 1 (.t 13)),Q 15 (.fa 10 (.t 14)),⟨none,.prim (.mapUpd 108) [.t 3,.k (.d (.str [84,122])),.t 15] 
 [],none⟩,Qc 16 0,Q 17 (.nck (.t 16)),Q 18 (.fa 1 (.t 17)),Q 19 (.fa 11 (.t 18)),⟨none,.prim (.mapUpd 108) [.t 3,.k (.d (.str [84,76])),.t 19] [],none⟩,Qc 20 0,Q 21 
 (.nck (.t 20)),Q 22 (.fa 1 (.t 21)),Q 23 (.fa 12 (.t 22)),⟨none,.prim (.mapUpd 108) [.t 3,.k (.d (.str [84,115])),.t 23] [],none⟩,Qc 24 3,Qa 2 24] [[],[],[1],[2], 
 [3],[0,4],[],[6],[7],[8],[0,9],[],[11],[12],[13],[0,14],[],[16],[17],[18],[0,19],[],[21],[22],[23],[0,24],[0,1,2,3,4,5,6,7,8,9,10,11,12, 
 13,14,15,16,17,18,19,20,21,22,23,24,25],[26,0,1,2,3,4,5,6,7,8,9,10,11,12,13,14,15,16,17,18,19,20,21,22,23,24,25,26]]) .ret)
def q1E:List LRes:=[.tmp 2]
theorem q3k:q0t Tryz.prog 42 25 q1A q1E:=⟨_,_,Tryz.func42,rfl,by kernel_rfl,by kernel_rfl,rfl⟩
theorem z7d(b:Nat):q0y Tryz.prog 42 [.addr (at_ b 0)] (fun r=>∃ks vs,r=.one (.map ks vs)∧(∀k∈ks,q0Y .string k=true)∧∀s,q3g ks vs (.str s)=(setAt s).map fun o=>.addr (at_ b o)):=by
 refine q3k.call rfl ?_;simp only[go_sem,↓reduceIte,q1A,q1E];refine j5o [(0,.d (.addr (at_ b 0)))] (j3p b) rfl j8l z8G (fun p hp=>?_) (fun p hp=>?_) (by kernel_rfl) (by kernel_rfl) rfl ?_ (fun b0 ks vs h1 h2=>?_)
 ·simp at hp;subst hp;rfl
 ·simp at hp;subst hp;exact⟨rfl,rfl⟩
 ·refine⟨⟨rfl,rfl⟩,⟨.inl ⟨_,rfl,rfl,rfl⟩,.inl rfl⟩,⟨.inl ⟨_,rfl,rfl,rfl⟩,.inl rfl⟩,⟨.inl ⟨_,rfl,rfl,rfl⟩,.inl rfl⟩,⟨.inl ⟨_,rfl,rfl,rfl⟩,.inl rfl⟩,⟨_,rfl,by simp,_,rfl,rfl⟩,⟨.inl ⟨_,rfl,rfl,rfl⟩,.inl rfl⟩,⟨.inl ⟨_,rfl,rfl,rfl⟩,.inl rfl⟩,⟨.inl ⟨_,rfl,rfl,rfl⟩,.inl rfl⟩,⟨.inl ⟨_,rfl,rfl,rfl⟩,.inl rfl⟩,⟨_,rfl,by simp,_,rfl,rfl⟩,⟨.inl ⟨_,rfl,rfl,rfl⟩,.inl rfl⟩,⟨.inl ⟨_,rfl,rfl,rfl⟩,.inl rfl⟩,⟨.inl ⟨_,rfl,rfl,rfl⟩,.inl rfl⟩,⟨.inl ⟨_,rfl,rfl,rfl⟩,.inl rfl⟩,⟨_,rfl,by simp,_,rfl,rfl⟩,⟨.inl ⟨_,rfl,rfl,rfl⟩,.inl rfl⟩,⟨.inl ⟨_,rfl,rfl,rfl⟩,.inl rfl⟩,⟨.inl ⟨_,rfl,rfl,rfl⟩,.inl rfl⟩,⟨.inl ⟨_,rfl,rfl,rfl⟩,.inl rfl⟩,⟨_,rfl,by simp,_,rfl,rfl⟩,⟨.inl ⟨_,rfl,rfl,rfl⟩,.inl rfl⟩,⟨.inl ⟨_,rfl,rfl,rfl⟩,.inl rfl⟩,⟨.inl ⟨_,rfl,rfl,rfl⟩,.inl rfl⟩,⟨.inl ⟨_,rfl,rfl,rfl⟩,.inl rfl⟩,⟨_,rfl,by simp,_,rfl,rfl⟩,⟨.inl ⟨_,rfl,rfl,rfl⟩,.inr (by simp)⟩,⟨.inr ⟨_,rfl,rfl,rfl⟩,.inr (by simp)⟩,trivial⟩
 ·refine⟨_,GhoB.frzM (a:=3) (ks:=ks) (vs:=vs) rfl,?_⟩;simp only[go_sem,↓reduceIte,q59,j3p,Zct,List.filterMap_nil,UE.z3r,AV.frzM,amap];refine⟨ks,vs,rfl,h2,fun s=>?_⟩;rw[h1];simp only[j3p,entU,true_and,eq_comm (b:=s),setAt];split
  ·rfl
  split
  ·rfl
  split
  ·rfl
  split
  ·rfl
  split<;>rfl
def ng(x:Int):Int:=IntKind.i64.wrap (0-x)
def m6L(l:List Int):M6:=(l.getD 0 0,l.getD 1 0,l.getD 2 0,l.getD 3 0,l.getD 4 0,l.getD 5 0)
def PT.nu(q:PT)(l:List Val)(k:Nat):PT:=q.er (kErr (q2Y l k))
def PT.st(q:PT)(l:List Val):PT:=(q.er (kErr (strM l))).shw ((strM l).getD [])
def PT.ld(q:PT)(x:Int):PT:={ q with s:={ q.s with lead:=x } }
def PT.tj(q:PT):List Val→PT
 |[v]=>if v.kind=5 then q.lst v.l else q.er 8
 |_=>q.er 8
def PT.ins(q:PT)(o:OpV):PT:=
 if o.nm=[84,100]then(q.nu o.args 2).mv ((q1v o.args 2).getD 0 0) ((q1v o.args 2).getD 1 0)
 else if o.nm=[84,68]then((q.nu o.args 2).ld (ng ((q1v o.args 2).getD 1 0))).mv ((q1v o.args 2).getD 0 0) ((q1v o.args 2).getD 1 0)
 else if o.nm=[84,109]then{ q.nu o.args 6 with tm:=m6L (q1v o.args 6),lm:=m6L (q1v o.args 6) }
 else if o.nm=[84,42]then(q.nu o.args 0).mv 0 (ng (q.nu o.args 0).s.lead)
 else if o.nm=[84,106]then q.st o.args
 else if o.nm=[39]then(q.mv 0 (ng q.s.lead)).st o.args
 else if o.nm=[84,74]then q.tj o.args
 else q
theorem q2b(l:List Val)(k:Nat):(q1v l k).length=k:=by
 unfold q1v q2Y;split
 ·rename_i h;exact h.1
 ·simp
theorem len2{α:Type}{l:List α}(h:l.length=2):∃a b,l=[a,b]:=by
 match l,h with
 |[a,b],_=>exact⟨a,b,rfl⟩
theorem len6{α:Type}{l:List α}(h:l.length=6):∃a b c d e f,l=[a,b,c,d,e,f]:=by
 match l,h with
 |[a,b,c,d,e,f],_=>exact⟨a,b,c,d,e,f,rfl⟩
structure OpV.ok(o:OpV):Prop where
 n:o.args.length≤1000
 s:∀v∈o.args,v.s.length≤1000000∧(v.kind=2→Lim v.n)∧v.l.length≤100000∧∀w∈v.l,w.s.length≤1000000∧(w.kind=2→Lim w.n)
theorem j3v{o:OpV}(ho:o.ok):((strM o.args).getD []).length≤1000000:=by
 obtain⟨nm,args⟩:=o;match args,ho with
 |[],_=>simp[strM]
 |[v],ho=>
  simp only[strM];split
  ·exact(ho.s v (by simp)).1
  ·simp
 |_::_::_,_=>simp[strM]
theorem z8c{q:PT}(h:q.ok)(x y:Int):(q.mv x y).ok:=⟨fun hb=>h.out (q7F hb),h.font⟩
def q1K:q0m:=
 .seq (.reg [⟨some 3,.box (.t 1),none⟩]) (.seq (.reg [Q 6 (.fa 0 (.t 3)),Q 7 (.ld false 1 (.t 6))]) (.block 0 (.seq (.reg [Q 9 (.bin .eql (.t 7) (.k (.d (.str [84,100])))),Qa 8 
 9]) (.cond (.t 8) (.seq (.reg [Qc 10 0,Q 11 (.ld true 2 (.t 3)),⟨some 12,.prim .call [.k (.fn (.func 43) [] []),.t 10,.t 11,.k (.d (.int .i64 2))] [],none⟩,Qa 4 12]) 
 (.dreg [Qc 13 0,Qc 14 4,Q 15 (.ia 1 (.t 14) (Ki 0)),Q 16 (.ld false 1 (.t 15)),Qc 17 4,Q 18 (.ia 1 (.t 17) (Ki 1)),Q 19 (.ld false 1 (.t 18)),⟨some 20,.prim .call [.k 
 (.fn (.func 68) [] []),.t 13,.t 16,.t 19] [],none⟩])) (.seq (.reg [Q 22 (.bin .eql (.t 7) (.k (.d (.str [84,68])))),Qa 21 22]) (.cond (.t 21) (.seq (.reg [Qc 23 0,Q 24 
 (.ld true 2 (.t 3)),⟨some 25,.prim .call [.k (.fn (.func 43) [] []),.t 23,.t 24,.k (.d (.int .i64 2))] [],none⟩,Qa 5 25]) (.seq (.reg [Qc 26 0,Qc 27 5,Q 28 (.ia 1 (.t 
 27) (Ki 1)),Q 29 (.ld false 1 (.t 28)),Q 30 (.neg (.t 29)),Q 31 (.nck (.t 26)),Q 32 (.fa 1 (.t 31)),Q 33 (.fa 11 (.t 32)),⟨none,.st 1 (.t 33) (.t 30),none⟩]) (.dreg [Qc 
 34 0,Qc 35 5,Q 36 (.ia 1 (.t 35) (Ki 0)),Q 37 (.ld false 1 (.t 36)),Qc 38 5,Q 39 (.ia 1 (.t 38) (Ki 1)),Q 40 (.ld false 1 (.t 39)),⟨some 41,.prim .call [.k (.fn (.func 
 68) [] []),.t 34,.t 37,.t 40] [],none⟩]))) (.seq (.reg [Q 43 (.bin .eql (.t 7) (.k (.d (.str [84,109])))),Qa 42 43]) (.cond (.t 42) (.seq (.reg [Qc 44 0,Qc 45 0,Q 46 (.ld 
 true 2 (.t 3)),⟨some 47,.prim .call [.k (.fn (.func 43) [] []),.t 45,.t 46,.k (.d (.int .i64 6))] [],none⟩,⟨some 48,.call 46 [.t 47],none⟩,Q 49 (.nck (.t 44)),Q 50 
 (.fa 15 (.t 49)),⟨none,.st 6 (.t 50) (.t 48),none⟩]) (.reg [Qc 51 0,Qc 52 0,Q 53 (.nck (.t 52)),Q 54 (.fa 15 (.t 53)),Q 55 (.ld true 6 (.t 54)),Q 56 (.nck (.t 51)),Q 57 
 (.fa 21 (.t 56)),⟨none,.st 6 (.t 57) (.t 55),none⟩])) (.seq (.reg [Q 59 (.bin .eql (.t 7) (.k (.d (.str [84,42])))),Qa 58 59]) (.cond (.t 58) (.seq (.reg [Qc 60 0,Q 61 (.ld 
 true 2 (.t 3)),⟨some 62,.prim .call [.k (.fn (.func 43) [] []),.t 60,.t 61,.k (.d (.int .i64 0))] [],none⟩]) (.reg [Qc 63 0,Qc 64 0,Q 65 (.nck (.t 64)),Q 66 (.fa 1 (.t 
 65)),Q 67 (.fa 11 (.t 66)),Q 68 (.ld false 1 (.t 67)),Q 69 (.neg (.t 68)),⟨some 70,.prim .call [.k (.fn (.func 68) [] []),.t 63,.k (.d (.int .i64 0)),.t 69] [],none⟩])) 
 (.seq (.reg [Q 72 (.bin .eql (.t 7) (.k (.d (.str [84,106])))),Qa 71 72]) (.cond (.t 71) (.reg [Qc 73 0,Qc 74 0,Q 75 (.ld true 2 (.t 3)),⟨some 76,.prim .call [.k (.fn 
 (.func 70) [] []),.t 74,.t 75,.k (.d (.int .i64 0))] [],none⟩,⟨some 77,.prim .call [.k (.fn (.func 69) [] []),.t 73,.t 76] [],none⟩]) (.seq (.reg [Q 79 (.bin .eql (.t 7) 
 (.k (.d (.str [39])))),Qa 78 79]) (.cond (.t 78) (.seq (.reg [Qc 80 0,Qc 81 0,Q 82 (.nck (.t 81)),Q 83 (.fa 1 (.t 82)),Q 84 (.fa 11 (.t 83)),Q 85 (.ld false 1 (.t 84)),Q 
 86 (.neg (.t 85)),⟨some 87,.prim .call [.k (.fn (.func 68) [] []),.t 80,.k (.d (.int .i64 0)),.t 86] [],none⟩]) (.reg [Qc 88 0,Qc 89 0,Q 90 (.ld true 2 (.t 3)),⟨some 91, 
 .prim .call [.k (.fn (.func 70) [] []),.t 89,.t 90,.k (.d (.int .i64 0))] [],none⟩,⟨some 92,.prim .call [.k (.fn (.func 69) [] []),.t 88,.t 91] [],none⟩])) (.seq (.reg 
 [Q 94 (.bin .eql (.t 7) (.k (.d (.str [84,74])))),Qa 93 94]) (.cond (.t 93) (.seq (.seq (.reg [Q 95 (.fa 1 (.t 3)),Q 96 (.ld false 1 (.t 95)),Q 97 (.len false (.t 96)),Q 98 
 (.bin .neq (.t 97) (Ki 1)),Qc 99 98,Qg 100 (.fa 1 (.t 3)) 99 false,Qg 101 (.ld false 1 (.t 100)) 99 false,Qg 102 (.ia 5 (.t 101) (Ki 0)) 99 false,Qg 103 (.fa 0 (.t 102)) 99 
 false,Qg 104 (.ld false 1 (.t 103)) 99 false,Qg 105 (.bin .neq (.t 104) (Ki 5)) 99 false,Q 106 (.pick (.t 99) KT (.t 105))]) (.cond (.t 106) (.seq (.reg [Qc 107 0,Q 108 (.mkI 
 76 (Ki 8)),⟨some 109,.prim .call [.k (.fn (.func 66) [] []),.t 107,.t 108] [],none⟩]) .ret) .skip)) (.reg [Qc 110 0,Q 111 (.fa 1 (.t 3)),Q 112 (.ld false 1 (.t 111)),Q 
 113 (.ia 5 (.t 112) (Ki 0)),Q 114 (.fa 3 (.t 113)),Q 115 (.ld false 1 (.t 114)),⟨some 116,.prim .call [.k (.fn (.func 71) [] []),.t 110,.t 115] [],none⟩])) 
 .skip))))))))))))))))
def q1N:List LRes:=[]
theorem q3r:q0t Tryz.prog 49 117 q1K q1N:=⟨_,_,Tryz.func49,rfl,by kernel_rfl,by kernel_rfl,rfl⟩
theorem j7b(fd:D)(q:PT)(c:Option Nat)(o:OpV)(hq:q.ok)(ho:o.ok){m:Option AObj}(hm:rowM m=true):
  MVE Tryz.prog 49 [.ptr (.x 0) 0,.d o.d] [pob fd q c] m (.tuple []) [pob fd (q.ins o) c] m:=by
 refine q3r.mv (by kernel_rfl) rfl rfl ?_;generalize hM:mob m=M;have ha:aget M 1000=m:=hM▸q0o m;have hn:=hm;unfold rowM at hn;have hMM:∀o:AObj,Sub ((0,o)::M) ((0,o)::M):=fun o=>hM▸subM o m
 obtain⟨nm,args⟩:=o;have hvl:=q0n args;simp only[go_sem,↓reduceIte,q1K,q1N,I,OpV.d];refine⟨fun h1=>?_,fun h1=>?_⟩
 ·have e:q.ins ⟨nm,args⟩=(q.nu args 2).mv ((q1v args 2).getD 0 0) ((q1v args 2).getD 1 0):=by simp only[PT.ins];rw[if_pos h1]
  rw[e];refine q0e.poM rfl (q81 fd q c ⟨nm,args⟩ 2 ho.n (by decide) hm) (q0l _ _ _) (q0l _ _ _) hm hM rfl rfl rfl ⟨⟨rfl,rfl⟩,rfl⟩ ?_;rw[PT.nu];obtain⟨a,b,hab⟩:=len2 (q2b args 2);simp only[hab];generalize q.er (kErr (q2Y args 2))=q1;simp only[go_sem,↓reduceIte,nmD,Zaz,Zbo];refine q0e.poM rfl (j40 fd q1 c a b hm) (q0l _ _ _) (q0l _ _ _) hm hM rfl rfl rfl ⟨⟨rfl,rfl⟩,rfl⟩ ?_;simp only[go_sem,↓reduceIte,ha,hn]
 refine⟨fun h2=>?_,fun h2=>?_⟩
 ·have e:q.ins ⟨nm,args⟩=((q.nu args 2).ld (ng ((q1v args 2).getD 1 0))).mv ((q1v args 2).getD 0 0) ((q1v args 2).getD 1 0):=by simp only[PT.ins];rw[if_neg h1,if_pos h2]
  rw[e];refine q0e.poM rfl (q81 fd q c ⟨nm,args⟩ 2 ho.n (by decide) hm) (q0l _ _ _) (q0l _ _ _) hm hM rfl rfl rfl ⟨⟨rfl,rfl⟩,rfl⟩ ?_;rw[PT.nu];obtain⟨a,b,hab⟩:=len2 (q2b args 2);simp only[hab];generalize q.er (kErr (q2Y args 2))=q1;simp only[Zaz,Zbo];generalize hE:pob fd ((q1.ld (ng b)).mv a b) c=oE;simp only[go_sem,↓reduceIte,nmD,pob,I];refine q0e.poM rfl (j40 fd (q1.ld (ng b)) c a b hm) (q0l _ _ _) (q0l _ _ _) hm hM rfl rfl rfl ⟨⟨rfl,rfl⟩,rfl⟩ ?_;simp only[go_sem,↓reduceIte,ha,hn]
  exact congrArg (fun x=>[x]) hE
 refine⟨fun h3=>?_,fun h3=>?_⟩
 ·have e:q.ins ⟨nm,args⟩={ q.nu args 6 with tm:=m6L (q1v args 6),lm:=m6L (q1v args 6) }:=by simp only[PT.ins];rw[if_neg h1,if_neg h2,if_pos h3]
  rw[e];refine q0e.poM rfl (q81 fd q c ⟨nm,args⟩ 6 ho.n (by decide) hm) (q0l _ _ _) (q0l _ _ _) hm hM rfl rfl rfl ⟨⟨rfl,rfl⟩,rfl⟩ ?_;rw[PT.nu];obtain⟨a1,a2,a3,a4,a5,a6,hab⟩:=len6 (q2b args 6);simp only[hab];generalize q.er (kErr (q2Y args 6))=q1;simp only[go_sem,↓reduceIte,nmD];refine q0i.of (j2X a1 a2 a3 a4 a5 a6) ?_;simp only[go_sem,↓reduceIte,pob,m6D,mat,I,m6L,Zaz,Zbo,ha,hn]
 refine⟨fun h4=>?_,fun h4=>?_⟩
 ·have e:q.ins ⟨nm,args⟩=(q.nu args 0).mv 0 (ng (q.nu args 0).s.lead):=by simp only[PT.ins];rw[if_neg h1,if_neg h2,if_neg h3,if_pos h4]
  rw[e];refine q0e.poM rfl (q81 fd q c ⟨nm,args⟩ 0 ho.n (by decide) hm) (q0l _ _ _) (q0l _ _ _) hm hM rfl rfl rfl ⟨⟨rfl,rfl⟩,rfl⟩ ?_;rw[PT.nu];generalize q.er (kErr (q2Y args 0))=q1;generalize hE:pob fd (q1.mv 0 (ng q1.s.lead)) c=oE;simp only[go_sem,↓reduceIte,nmD,pob,I];refine q0e.poM rfl (j40 fd q1 c 0 (ng q1.s.lead) hm) (q0l _ _ _) (q0l _ _ _) hm hM rfl rfl rfl ⟨⟨rfl,rfl⟩,rfl⟩ ?_;simp only[go_sem,↓reduceIte,ha,hn];exact congrArg (fun x=>[x]) hE
 refine⟨fun h5=>?_,fun h5=>?_⟩
 ·have e:q.ins ⟨nm,args⟩=q.st args:=by simp only[PT.ins];rw[if_neg h1,if_neg h2,if_neg h3,if_neg h4,if_pos h5]
  rw[e];refine q0e.poM rfl (pstr fd q c ⟨nm,args⟩ ho.n hm) (q0l _ _ _) (q0l _ _ _) hm hM rfl rfl rfl ⟨⟨rfl,rfl⟩,rfl⟩ ?_;rw[PT.st];have hs:=j3v ho;have hq1:=q7b hq (kErr (strM args));generalize q.er (kErr (strM args))=q1 at *;generalize(strM args).getD []=s1 at *;simp only[go_sem,↓reduceIte];refine q0e.poM rfl (j7f fd q1 c s1 hq1 hs hm) (q0l _ _ _) (q0l _ _ _) hm hM rfl rfl rfl ⟨⟨rfl,rfl⟩,rfl⟩ ?_;simp only[go_sem,↓reduceIte,ha,hn]
 refine⟨fun h6=>?_,fun h6=>?_⟩
 ·have e:q.ins ⟨nm,args⟩=(q.mv 0 (ng q.s.lead)).st args:=by simp only[PT.ins];rw[if_neg h1,if_neg h2,if_neg h3,if_neg h4,if_neg h5,if_pos h6]
  rw[e];generalize hE:pob fd ((q.mv 0 (ng q.s.lead)).st args) c=oE;simp only[go_sem,↓reduceIte,pob,I];refine q0e.poM rfl (j40 fd q c 0 (ng q.s.lead) hm) (q0l _ _ _) (q0l _ _ _) hm hM rfl rfl rfl ⟨⟨rfl,rfl⟩,rfl⟩ ?_;have hq0:=z8c hq 0 (ng q.s.lead);generalize q.mv 0 (ng q.s.lead)=q0 at *;simp only[go_sem,↓reduceIte];refine q0e.poM rfl (pstr fd q0 c ⟨nm,args⟩ ho.n hm) (q0l _ _ _) (q0l _ _ _) hm hM rfl rfl rfl ⟨⟨rfl,rfl⟩,rfl⟩ ?_;rw[PT.st]at hE;have hs:=j3v ho;have hq1:=q7b hq0 (kErr (strM args))
  generalize q0.er (kErr (strM args))=q1 at *;generalize(strM args).getD []=s1 at *;simp only[go_sem,↓reduceIte];refine q0e.poM rfl (j7f fd q1 c s1 hq1 hs hm) (q0l _ _ _) (q0l _ _ _) hm hM rfl rfl rfl ⟨⟨rfl,rfl⟩,rfl⟩ ?_;simp only[go_sem,↓reduceIte,ha,hn];exact congrArg (fun x=>[x]) hE
 refine⟨fun h7=>?_,fun h7=>?_⟩
 ·have e:q.ins ⟨nm,args⟩=q.tj args:=by simp only[PT.ins];rw[if_neg h1,if_neg h2,if_neg h3,if_neg h4,if_neg h5,if_neg h6,if_pos h7]
  rw[e];simp(disch:=omega)only[go_sem,↓reduceIte,hvl];refine⟨fun h8=>?_,fun h8=>?_⟩
  ·obtain⟨v,rfl⟩:∃v,args=[v]:=by
    match args,h8 with
    |[v],_=>exact⟨v,rfl⟩
    |[],h8=>simp at h8
    |_::_::_,h8=>simp at h8;omega
   have hg:getI (q0M [v]) 0=some v.d:=rfl;simp(disch:=omega)only[go_sem,↓reduceIte,hg,Val.d_eq];refine⟨fun h9=>?_,fun h9=>?_⟩
   ·have e2:q.tj [v]=q.er 8:=if_neg h9;rw[e2];refine q0e.poM rfl (q7G fd q c 8 hm) (q0l _ _ _) (q0l _ _ _) hm hM rfl rfl rfl ⟨⟨rfl,rfl⟩,rfl⟩ ?_;simp only[go_sem,↓reduceIte,ha,hn]
   ·have e2:q.tj [v]=q.lst v.l:=if_pos h9;rw[e2];have hv:=ho.s v (by simp);refine q0e.poM rfl (j9D fd q c v.l hq hv.2.2.1 hv.2.2.2 hm) (q0l _ _ _) (q0l _ _ _) hm hM rfl rfl rfl ⟨⟨rfl,rfl⟩,rfl⟩ ?_;simp only[go_sem,↓reduceIte,ha,hn]
  ·have e2:q.tj args=q.er 8:=by
    match args,h8 with
    |[v],h8=>simp at h8
    |[],_=>rfl
    |_::_::_,_=>rfl
   rw[e2];refine q0e.poM rfl (q7G fd q c 8 hm) (q0l _ _ _) (q0l _ _ _) hm hM rfl rfl rfl ⟨⟨rfl,rfl⟩,rfl⟩ ?_;simp only[go_sem,↓reduceIte,ha,hn]
 ·have e:q.ins ⟨nm,args⟩=q:=by simp only[PT.ins];rw[if_neg h1,if_neg h2,if_neg h3,if_neg h4,if_neg h5,if_neg h6,if_neg h7]
  rw[e];simp only[go_sem,↓reduceIte,ha,hn]
def PT.setN(q:PT)(k:Nat)(x:Int):PT:=
 { q with s:={ q.s with char:=if k=9 then x else q.s.char,word:=if k=10 then x else q.s.word,scale:=if k=11 then x else q.s.scale,lead:=if k=12 then x else q.s.lead,rise:=if k=13 then x else q.s.rise } }
def PT.cm(q:PT)(m:M6):PT:={ q.er (errO (catF m q.s.ctm))with s:={ q.s with ctm:=(catF m q.s.ctm).getD m60 } }
def PT.dop(q:PT)(fl:Fl)(o:OpV):PT:=
 match setAt o.nm with
 |some k=>(q.nu o.args 1).setN k (if o.nm=[84,122]then IntKind.i64.wrap (((q1v o.args 1).getD 0 0).tdiv 100)else(q1v o.args 1).getD 0 0)
 |none=>if o.nm=[113]∨o.nm=[81]then q.sv (decide (o.nm=[81]))
  else if o.nm=[99,109]then(q.nu o.args 6).cm (m6L (q1v o.args 6))
  else if o.nm=[66,84]∨o.nm=[69,84]then q.tx (decide (o.nm=[66,84]))
  else if o.nm=[84,102]then q.chs fl o.args
  else q.ins o
theorem ptrZ:Program.zeroOf Tryz.prog 106=some .nilp:=by kernel_rfl
def doZ(b:Nat)(nm:List UInt8)(x:List D×List D)(i:Nat):AV:=
 match i with
 |0=>.d (.addr (at_ b 0))
 |1=>.d (.map x.1 x.2)
 |2=>.ptr (.l 3) 0
 |3=>.d (.str nm)
 |4=>.tuple [.d (((setAt nm).map fun o=>D.addr (at_ b o)).getD .nilp),.d (.bool ((setAt nm).map fun o=>D.addr (at_ b o)).isSome)]
 |5=>.tuple [.d (((setAt nm).map fun o=>D.addr (at_ b o)).getD .nilp),.d (.bool ((setAt nm).map fun o=>D.addr (at_ b o)).isSome)]
 |6=>.d (((setAt nm).map fun o=>D.addr (at_ b o)).getD .nilp)
 |7=>.d (.bool ((setAt nm).map fun o=>D.addr (at_ b o)).isSome)
 |8=>.d (((setAt nm).map fun o=>D.addr (at_ b o)).getD .nilp)
 |_=>.d (.bool ((setAt nm).map fun o=>D.addr (at_ b o)).isSome)
def doΦ(b:Nat)(x:List D×List D):Prop:=(∀k∈x.1,q0Y .string k=true)∧∀s,q3g x.1 x.2 (.str s)=(setAt s).map fun o=>.addr (at_ b o)
theorem z0H(q:PT)(b:Bool):(q.tx b).saved=q.saved:=by
 unfold PT.tx;split<;>rfl
theorem z2q(q:PT)(fl:Fl)(l:List Val):(q.chs fl l).saved=q.saved:=by
 unfold PT.chs;split
 ·split
  ·split<;>rfl
  ·rfl
 ·rfl
theorem q5W{q:PT}(h:q.ok)(t:List UInt8):(q.shw t).saved=q.saved:=by
 unfold PT.shw;split
 ·split
  ·split
   ·exact(z4q h _).2.2.2.1
   ·rfl
  ·rfl
 ·rfl
theorem z6M{q:PT}(h:q.ok)(l:List Val):(q.lst l).saved=q.saved:=by
 induction l generalizing q with
 |nil=>rfl
 |cons v l ih=>
  rw[PT.lst,ih (j51 h v)];unfold PT.ls1;split
  ·exact q5W h _
  ·split<;>rfl
theorem z9Q{q:PT}(h:q.ok)(l:List Val):(q.st l).saved=q.saved:=q5W (q7b h _) _
theorem j5A{q:PT}(h:q.ok)(l:List Val):(q.tj l).saved=q.saved:=by
 unfold PT.tj;split
 ·split
  ·exact z6M h _
  ·rfl
 ·rfl
theorem z2D(q:PT)(h:q.ok)(o:OpV):(q.ins o).saved=q.saved:=by
 unfold PT.ins;split
 ·rfl
 split
 ·rfl
 split
 ·rfl
 split
 ·rfl
 split
 ·exact z9Q h _
 split
 ·exact z9Q (z8c h _ _) _
 split
 ·exact j5A h _
 ·rfl
theorem z8C{s:List UInt8}{k:Nat}(h:setAt s=some k):(k=11∧s=[84,122])∨(¬s=[84,122]∧(k=9∨k=10∨k=12∨k=13)):=by
 unfold setAt at h;split at h
 ·rename_i e;subst e;cases h;exact .inr ⟨by decide,.inl rfl⟩
 split at h
 ·rename_i e;subst e;cases h;exact .inr ⟨by decide,.inr (.inl rfl)⟩
 split at h
 ·rename_i e;cases h;exact .inl ⟨rfl,e⟩
 split at h
 ·rename_i e;subst e;cases h;exact .inr ⟨by decide,.inr (.inr (.inl rfl))⟩
 split at h
 ·rename_i e;subst e;cases h;exact .inr ⟨by decide,.inr (.inr (.inr rfl))⟩
 ·cases h
theorem j5R(b:Nat):∃x,doΦ b x:=by
 refine⟨([.str [84,99],.str [84,119],.str [84,122],.str [84,76],.str [84,115]],[.addr (at_ b 9),.addr (at_ b 10),.addr (at_ b 11),.addr (at_ b 12),.addr (at_ b 13)]),fun k hk=>?_,fun s=>?_⟩
 ·simp at hk;rcases hk with rfl|rfl|rfl|rfl|rfl<;>rfl
 ·simp only[q3g,z0X,beq_iff_eq,setAt];split
  ·rfl
  split
  ·rfl
  split
  ·rfl
  split
  ·rfl
  split<;>rfl
def q2u:q0m:=
 .seq (.reg [⟨some 3,.box (.t 1),none⟩]) (.seq (.fam [Qc 7 0,⟨some 8,.prim .call [.k (.fn (.func 42) [] []),.t 7] [],none⟩,Q 9 (.fa 0 (.t 3)),Q 10 (.ld false 1 (.t 9)), 
 ⟨some 11,.prim (.lookup 108 true) [.t 8,.t 10] [],none⟩,Qc 6 11,Q 12 (.ext 0 (.t 6)),Q 13 (.ext 1 (.t 6)),Qa 4 12,Qa 5 13] [[],[0],[],[2],[1,3],[4],[5],[5],[6, 
 1,0,1,2,3,4,5,6],[7,8,0,1,2,3,4,5,6,7,8]]) (.block 0 (.seq (.reg [Qc 18 5,Qa 17 18]) (.cond (.t 17) (.seq (.reg [Qc 19 4,Qc 20 0,Q 21 (.ld true 2 (.t 3)), 
 ⟨some 22,.prim .call [.k (.fn (.func 43) [] []),.t 20,.t 21,.k (.d (.int .i64 1))] [],none⟩,Q 23 (.ia 1 (.t 22) (Ki 0)),Q 24 (.ld false 1 (.t 23)),Q 25 (.nck (.t 19)), 
 ⟨none,.st 1 (.t 25) (.t 24),none⟩]) (.seq (.reg [Q 26 (.fa 0 (.t 3)),Q 27 (.ld false 1 (.t 26)),Q 28 (.bin .eql (.t 27) (.k (.d (.str [84,122]))))]) (.cond (.t 28) (.reg [Qc 
 29 4,Q 30 (.nck (.t 29)),Q 31 (.ld false 1 (.t 30)),Q 32 (.bin .quo (.t 31) (Ki 100)),Q 33 (.nck (.t 29)),⟨none,.st 1 (.t 33) (.t 32),none⟩]) .skip))) (.seq (.reg [Q 35 
 (.fa 0 (.t 3)),Q 36 (.ld false 1 (.t 35)),Q 37 (.bin .eql (.t 36) (.k (.d (.str [113])))),Qc 38 37,Qg 39 (.fa 0 (.t 3)) 38 false,Qg 40 (.ld false 1 (.t 39)) 38 false,Qg 41 
 (.bin .eql (.t 40) (.k (.d (.str [81])))) 38 false,Q 42 (.pick (.t 38) KT (.t 41)),Qa 34 42]) (.cond (.t 34) (.reg [Qc 43 0,Q 44 (.fa 0 (.t 3)),Q 45 (.ld false 1 (.t 44)),Q 
 46 (.bin .eql (.t 45) (.k (.d (.str [81])))),⟨some 47,.prim .call [.k (.fn (.func 44) [] []),.t 43,.t 46] [],none⟩]) (.seq (.reg [Q 49 (.fa 0 (.t 3)),Q 50 (.ld false 1 (.t 
 49)),Q 51 (.bin .eql (.t 50) (.k (.d (.str [99,109])))),Qa 48 51]) (.cond (.t 48) (.fam [Qc 52 0,Qc 53 0,Qc 54 0,Q 55 (.ld true 2 (.t 3)),⟨some 56,.prim .call [.k (.fn 
 (.func 43) [] []),.t 54,.t 55,.k (.d (.int .i64 6))] [],none⟩,⟨some 57,.call 46 [.t 56],none⟩,Qc 58 0,Q 59 (.nck (.t 58)),Q 60 (.fa 1 (.t 59)),Q 61 (.fa 0 (.t 60)),Q 
 62 (.ld true 6 (.t 61)),⟨some 63,.prim .call [.k (.fn (.func 45) [] []),.t 53,.t 57,.t 62] [],none⟩,Q 64 (.nck (.t 52)),Q 65 (.fa 1 (.t 64)),Q 66 (.fa 0 (.t 65)),⟨none, 
 .st 6 (.t 66) (.t 63),none⟩] [[],[],[],[],[2,3],[4,4],[],[6],[7],[8],[9],[1,5,10,5],[0,0,1,2,3,4,5,6,7,8,9,10,11],[12,0,1,2,3,4,5,6,7,8, 
 9,10,11],[13,0,1,2,3,4,5,6,7,8,9,10,11],[14,11,11,0,1,2,3,4,5,6,7,8,9,10,11]]) (.seq (.reg [Q 68 (.fa 0 (.t 3)),Q 69 (.ld false 1 (.t 68)),Q 70 
 (.bin .eql (.t 69) (.k (.d (.str [66,84])))),Qc 71 70,Qg 72 (.fa 0 (.t 3)) 71 false,Qg 73 (.ld false 1 (.t 72)) 71 false,Qg 74 (.bin .eql (.t 73) (.k (.d (.str [69,84])))) 
 71 false,Q 75 (.pick (.t 71) KT (.t 74)),Qa 67 75]) (.cond (.t 67) (.reg [Qc 76 0,Q 77 (.fa 0 (.t 3)),Q 78 (.ld false 1 (.t 77)),Q 79 (.bin .eql (.t 78) (.k (.d (.str [66, 
 84])))),⟨some 80,.prim .call [.k (.fn (.func 47) [] []),.t 76,.t 79] [],none⟩]) (.seq (.reg [Q 82 (.fa 0 (.t 3)),Q 83 (.ld false 1 (.t 82)),Q 84 (.bin .eql (.t 83) (.k (.d 
 (.str [84,102])))),Qa 81 84]) (.cond (.t 81) (.reg [Qc 85 0,Q 86 (.ld true 2 (.t 3)),⟨some 87,.prim .call [.k (.fn (.func 48) [] []),.t 85,.t 86] [],none⟩]) (.reg [Qc 14 
 0,Q 15 (.ld true 2 (.t 3)),⟨some 16,.prim .call [.k (.fn (.func 49) [] []),.t 14,.t 15] [],none⟩])))))))))))))
def q2x:List LRes:=[]
theorem q4e:q0t Tryz.prog 31 88 q2u q2x:=⟨_,_,Tryz.func31,rfl,by kernel_rfl,by kernel_rfl,rfl⟩
theorem pdo(fl:Fl)(q:PT)(c:Option Nat)(hc:svOK q c)(hs8:q.saved.length≤8)(o:OpV)(hq:q.ok)(ho:o.ok):
  MV Tryz.prog 31 [.ptr (.x 0) 0,.d o.d] [pob (q0g fl) q c] (svO q.saved c) (fun r hs' m'=>r=.tuple []∧∃o',hs'=[o']∧z8O (q0g fl) (q.dop fl o) o' m'):=by
 have hcs:∀q':PT,q'.saved=q.saved→svOK q' c:=fun q' h=>by cases c<;>simpa only[svOK,h]using hc
 have hm:=z4L q.saved c;generalize hmm:svO q.saved c=m at *;refine q4e.mv (by kernel_rfl) rfl rfl ?_;generalize hM:mob m=M;have ha:aget M 1000=m:=hM▸q0o m;have hn:=hm;unfold rowM at hn;have hMM:∀o:AObj,Sub ((0,o)::M) ((0,o)::M):=fun o=>hM▸subM o m
 obtain⟨nm,args⟩:=o;simp only[go_sem,↓reduceIte,q2u,q2x,OpV.d];refine fun b0=>j6L b0 ⟨[(0,.d (.addr (at_ (b0 0) 0))),(3,.ptr (.l 3) 0)],_,_⟩ (GhoB.j5r fun G w hG t y ht=>?_) (doΦ (b0 0)) ?_ [(0,.d (.addr (at_ (b0 0) 0))),(3,.ptr (.l 3) 0)] [7,8,9,10,11,6,12,13,4,5] (doZ (b0 0) nm) 1 rfl (by decide) (by decide) (fun p hp=>?_) (fun p hp=>?_) (fun j hj=>?_) (fun i d o hl hd hi x hx τ N hk hL hH hN=>?_) (fun d o hl hd τ N hk hL hH hN=>?_) (fun x hx=>?_)
 ·by_cases h0:0=t
  ·subst h0;cases ht;exact⟨_,rfl,j3T hG 0⟩
  ·by_cases h3:3=t
   ·subst h3;cases ht;exact⟨_,rfl,fun _ h=>h⟩
   ·simp[aget,h0,h3]at ht
 ·exact j5R _
 ·simp at hp;rcases hp with rfl|rfl<;>rfl
 ·simp at hp;rcases hp with rfl|rfl<;>rfl
 ·match j with
  |0=>exact .inl fun _ _=>rfl
  |1=>exact .inr (.inl rfl)
  |2=>exact .inl fun _ _=>rfl
  |3=>exact .inl fun _ _=>rfl
  |4=>exact .inl fun _ _=>rfl
  |5=>exact .inl fun _ _=>rfl
  |6=>exact .inl fun _ _=>rfl
  |7=>exact .inl fun _ _=>rfl
  |8=>exact .inl fun _ _=>rfl
  |n+9=>exact .inl fun _ _=>rfl
 ·have e0:=hk (0,.d (.addr (at_ (b0 0) 0))) (by simp[q6D]);have e3:=hk (3,.ptr (.l 3) 0) (by simp[q6D]);simp only at e0 e3 hL hH;match i,hl,hd,hi,hk,hN with
  |0,hl,hd,_,hk,hN=>
   cases hl;cases hd;exact q8v (z:=doZ (b0 0) nm x 0) (by simp only[go_sem,↓reduceIte,e0,doZ]) hN
  |1,_,_,hi,_,_=>exact absurd rfl hi
  |2,hl,hd,_,hk,hN=>
   cases hl;cases hd;exact q8v (z:=doZ (b0 0) nm x 2) (by simp only[go_sem,↓reduceIte,e3,doZ]) hN
  |3,hl,hd,_,hk,hN=>
   cases hl;cases hd;have e9:=hk (9,.ptr (.l 3) 0) (by simp[q6D,doZ]);simp only at e9;exact q8v (z:=doZ (b0 0) nm x 3) (by simp only[go_sem,↓reduceIte,e9,hL,doZ]) hN
  |4,hl,hd,_,hk,hN=>
   cases hl;cases hd;have e8:=hk (8,.d (.map x.1 x.2)) (by simp[q6D,doZ]);have e10:=hk (10,.d (.str nm)) (by simp[q6D,doZ]);refine q99 (q0e.lookup (ks:=x.1) (vs:=x.2) (key:=.str nm) (q6B e8) (q6B e10) j8l z8G rfl hx.1 ptrZ ?_);rw[hx.2];exact hN
  |5,hl,hd,_,hk,hN=>
   cases hl;cases hd;have e11:=hk (11,doZ (b0 0) nm x 4) (by simp[q6D]);simp only[doZ]at e11;exact q8v (z:=doZ (b0 0) nm x 5) (by simp only[go_sem,↓reduceIte,e11,doZ]) hN
  |6,hl,hd,_,hk,hN=>
   cases hl;cases hd;have e6:=hk (6,doZ (b0 0) nm x 5) (by simp[q6D]);simp only[doZ]at e6;exact q8v (z:=doZ (b0 0) nm x 6) (by simp only[go_sem,↓reduceIte,e6,doZ]) hN
  |7,hl,hd,_,hk,hN=>
   cases hl;cases hd;have e6:=hk (6,doZ (b0 0) nm x 5) (by simp[q6D]);simp only[doZ]at e6;exact q8v (z:=doZ (b0 0) nm x 7) (by simp only[go_sem,↓reduceIte,e6,doZ]) hN
  |8,hl,hd,_,hk,hN=>
   cases hl;cases hd;have e12:=hk (12,doZ (b0 0) nm x 6) (by simp[q6D]);refine z7M ?_;rw[show τ.ev (.t 12)=_ from q6B e12];exact hN
  |9,hl,hd,_,hk,hN=>
   cases hl;cases hd;have e13:=hk (13,doZ (b0 0) nm x 7) (by simp[q6D]);refine z7M ?_;rw[show τ.ev (.t 13)=_ from q6B e13];exact hN
 ·cases hl;cases hd;obtain⟨x,hx⟩:=j5R (b0 0);have e7:=hk x hx (7,.d (.addr (at_ (b0 0) 0))) (by simp[q6D,doZ]);refine q99 (q0e.j9B (ds:=[.addr (at_ (b0 0) 0)]) rfl (z7d (b0 0)) (by kernel_rfl) ?_ (fun y ⟨ks,vs,h1,h2,h3⟩=>?_) (fun r ⟨ks,vs,h1,_⟩=>⟨_,h1⟩))
  ·simp only[evL,Zai,Zbe];exact congrArg (fun z=>[z]) (q6B e7)
  ·cases h1;exact hN (ks,vs) ⟨h2,h3⟩
 ·cases hk:setAt nm with
  |none=>
   refine⟨⟨[(0,.ptr (.x 0) 0),(3,.ptr (.l 3) 0),(4,.d .nilp),(5,.d (.bool false))],_,_⟩,GhoB.j5r fun G w hG t y ht=>?_,?_⟩
   ·by_cases h0:0=t
    ·subst h0;cases ht;exact⟨_,rfl,z7u hG 0⟩
    ·by_cases h3:3=t
     ·subst h3;cases ht;exact⟨_,rfl,fun _ h=>h⟩
     ·by_cases h4:4=t
      ·subst h4;cases ht;exact⟨_,rfl,fun _ h=>by simpa[doZ,hk]using h⟩
      ·by_cases h5:5=t
       ·subst h5;cases ht;exact⟨_,rfl,fun _ h=>by simpa[doZ,hk]using h⟩
       ·simp[aget,h0,h3,h4,h5]at ht
   ·show POP Tryz.prog .normal _ _ _
    simp only[go_sem,↓reduceIte];refine⟨fun h1=>⟨fun h2=>?_,fun h2=>?_⟩,fun h1=>?_⟩
    ·have e:q.dop fl ⟨nm,args⟩=q.sv (decide (nm=[81])):=by simp only[PT.dop,hk];rw[if_pos (.inr h2)]
     rw[e];refine q0e.poP (Post:=z8O (q0g fl) (q.sv (decide (nm=[81])))) rfl (by rw[←hmm];exact j8C (q0g fl) q c hc hs8 (decide (nm=[81]))) (q0l _ _ _) hm hM rfl rfl rfl ⟨⟨rfl,rfl⟩,rfl⟩ (fun o1 m1 hp=>?_);obtain⟨c1,hc1,rfl,rfl⟩:=hp;have hn1:=z4L (q.sv (decide (nm=[81]))).saved c1;unfold rowM at hn1;refine⟨q0l _ _ _,?_⟩;have ha1:=q0o (svO (q.sv (decide (nm=[81]))).saved c1);generalize mob (svO (q.sv (decide (nm=[81]))).saved c1)=M1 at *;simp only[go_sem,↓reduceIte,ha1,hn1];exact⟨_,rfl,c1,hc1,rfl,rfl⟩
    ·refine⟨fun h3=>?_,fun h3=>?_⟩
     ·have e:q.dop fl ⟨nm,args⟩=(q.nu args 6).cm (m6L (q1v args 6)):=by simp only[PT.dop,hk];rw[if_neg (fun h=>h.elim h1 h2),if_pos h3]
      rw[e];have hnum:MVE Tryz.prog 43 [.ptr (.x 0) 0,.d (OpV.d ⟨nm,args⟩),.d (I 6)] [pX (q0g fl) q c q.bad] m (.d (.list (nmD (q1v args 6)))) [pX (q0g fl) q c (orE q.bad (kErr (q2Y args 6)))] m:=q81 (q0g fl) (q.wb q.bad) c ⟨nm,args⟩ 6 ho.n (by decide) hm;have hcat:∀n a b,MVE Tryz.prog 45 [.ptr (.x 0) 0,.d (m6D a),.d (m6D b)] [pX (q0g fl) q c n] m (.d (m6D ((catF a b).getD m60))) [pX (q0g fl) q c (orE n (errO (catF a b)))] m:=fun n a b=>z5B (q0g fl) (q.wb n) c a b hm
      obtain⟨a1,a2,a3,a4,a5,a6,hab⟩:=len6 (q2b args 6);rw[hab]at hnum;refine q6J (pX (q0g fl) q c) M 12 [0,3] [] q.bad (by kernel_rfl) rfl rfl rfl ?_;simp only[go_sem,↓reduceIte,pX,pob,PT.wb,OpV.d];refine FR.prim (q3b.mve rfl hM hnum (q5U _ _ _ _) (q5U _ _ _ _) hm rfl rfl ⟨⟨rfl,rfl⟩,rfl⟩) rfl ?_;refine FR.call (j2X a1 a2 a3 a4 a5 a6) rfl ?_;simp only[go_sem,↓reduceIte,pX,pob,PT.wb];refine FR.prim (q3b.mve rfl hM (hcat _ (a1,a2,a3,a4,a5,a6) q.s.ctm) (q5U _ _ _ _) (q5U _ _ _ _) hm rfl rfl ⟨⟨rfl,rfl⟩,rfl⟩) rfl ?_
      simp only[go_sem,↓reduceIte,pX,pob,PT.wb,m6D,mat,I,ha,hn];rw[hab];exact⟨_,rfl,c,hcs _ rfl,rfl,hmm.symm⟩
     ·refine⟨fun h4=>⟨fun h5=>?_,fun h5=>⟨fun h6=>?_,fun h6=>?_⟩⟩,fun h4=>?_⟩
      ·have e:q.dop fl ⟨nm,args⟩=q.tx (decide (nm=[66,84])):=by simp only[PT.dop,hk];rw[if_neg (fun h=>h.elim h1 h2),if_neg h3,if_pos (.inr h5)]
       rw[e];refine q0e.poM rfl (j8F (q0g fl) q c (decide (nm=[66,84])) hm) (q0l _ _ _) (q0l _ _ _) hm hM rfl rfl rfl ⟨⟨rfl,rfl⟩,rfl⟩ ?_;simp only[go_sem,↓reduceIte,ha,hn];exact⟨_,rfl,c,hcs _ (z0H q _),rfl,by rw[z0H];exact hmm.symm⟩
      ·have e:q.dop fl ⟨nm,args⟩=q.chs fl args:=by simp only[PT.dop,hk];rw[if_neg (fun h=>h.elim h1 h2),if_neg h3,if_neg (fun h=>h.elim h4 h5),if_pos h6]
       rw[e];refine q0e.poM rfl (j7a fl q c ⟨nm,args⟩ ho.n hm) (q0l _ _ _) (q0l _ _ _) hm hM rfl rfl rfl ⟨⟨rfl,rfl⟩,rfl⟩ ?_;simp only[go_sem,↓reduceIte,ha,hn];exact⟨_,rfl,c,hcs _ (z2q q fl args),rfl,by rw[z2q];exact hmm.symm⟩
      ·have e:q.dop fl ⟨nm,args⟩=q.ins ⟨nm,args⟩:=by simp only[PT.dop,hk];rw[if_neg (fun h=>h.elim h1 h2),if_neg h3,if_neg (fun h=>h.elim h4 h5),if_neg h6]
       rw[e];refine q0e.poM rfl (j7b (q0g fl) q c ⟨nm,args⟩ hq ho hm) (q0l _ _ _) (q0l _ _ _) hm hM rfl rfl rfl ⟨⟨rfl,rfl⟩,rfl⟩ ?_;simp only[go_sem,↓reduceIte,ha,hn];exact⟨_,rfl,c,hcs _ (z2D q hq _),rfl,by rw[z2D q hq];exact hmm.symm⟩
      ·have e:q.dop fl ⟨nm,args⟩=q.tx (decide (nm=[66,84])):=by simp only[PT.dop,hk];rw[if_neg (fun h=>h.elim h1 h2),if_neg h3,if_pos (.inl h4)]
       rw[e];refine q0e.poM rfl (j8F (q0g fl) q c (decide (nm=[66,84])) hm) (q0l _ _ _) (q0l _ _ _) hm hM rfl rfl rfl ⟨⟨rfl,rfl⟩,rfl⟩ ?_;simp only[go_sem,↓reduceIte,ha,hn];exact⟨_,rfl,c,hcs _ (z0H q _),rfl,by rw[z0H];exact hmm.symm⟩
    ·have e:q.dop fl ⟨nm,args⟩=q.sv (decide (nm=[81])):=by simp only[PT.dop,hk];rw[if_pos (.inl h1)]
     rw[e];refine q0e.poP (Post:=z8O (q0g fl) (q.sv (decide (nm=[81])))) rfl (by rw[←hmm];exact j8C (q0g fl) q c hc hs8 (decide (nm=[81]))) (q0l _ _ _) hm hM rfl rfl rfl ⟨⟨rfl,rfl⟩,rfl⟩ (fun o1 m1 hp=>?_);obtain⟨c1,hc1,rfl,rfl⟩:=hp;have hn1:=z4L (q.sv (decide (nm=[81]))).saved c1;unfold rowM at hn1;refine⟨q0l _ _ _,?_⟩;have ha1:=q0o (svO (q.sv (decide (nm=[81]))).saved c1);generalize mob (svO (q.sv (decide (nm=[81]))).saved c1)=M1 at *;simp only[go_sem,↓reduceIte,ha1,hn1];exact⟨_,rfl,c1,hc1,rfl,rfl⟩
  |some k=>
   refine⟨⟨[(0,.ptr (.x 0) 0),(3,.ptr (.l 3) 0),(4,.ptr (.x 0) k),(5,.d (.bool true))],_,_⟩,GhoB.j5r fun G w hG t y ht=>?_,?_⟩
   ·by_cases h0:0=t
    ·subst h0;cases ht;exact⟨_,rfl,z7u hG 0⟩
    ·by_cases h3:3=t
     ·subst h3;cases ht;exact⟨_,rfl,fun _ h=>h⟩
     ·by_cases h4:4=t
      ·subst h4;cases ht;refine⟨_,rfl,fun v h=>z7u hG k v ?_⟩;simpa[doZ,hk]using h
      ·by_cases h5:5=t
       ·subst h5;cases ht;exact⟨_,rfl,fun _ h=>by simpa[doZ,hk]using h⟩
       ·simp[aget,h0,h3,h4,h5]at ht
   ·show POP Tryz.prog .normal _ _ _
    have e:q.dop fl ⟨nm,args⟩=(q.nu args 1).setN k (if nm=[84,122]then IntKind.i64.wrap (((q1v args 1).getD 0 0).tdiv 100)else(q1v args 1).getD 0 0):=by simp only[PT.dop,hk]
    rw[e];simp only[go_sem,↓reduceIte];refine q0e.poM rfl (q81 (q0g fl) q c ⟨nm,args⟩ 1 ho.n (by decide) hm) (q0l _ _ _) (q0l _ _ _) hm hM rfl rfl rfl ⟨⟨rfl,rfl⟩,rfl⟩ ?_;rw[PT.nu];obtain⟨a,hab⟩:∃a,q1v args 1=[a]:=Zch.1 (q2b args 1);simp only[hab,Zaz];have hc1:svOK (q.er (kErr (q2Y args 1))) c:=by cases c<;>exact hc
    have hm1:m=svO (q.er (kErr (q2Y args 1))).saved c:=hmm.symm;generalize q.er (kErr (q2Y args 1))=q1 at *;rcases z8C hk with⟨rfl,hz⟩|⟨hz,rfl|rfl|rfl|rfl⟩
    ·simp only[go_sem,↓reduceIte,pob,nmD,I,hz,ha,hn];exact⟨_,rfl,c,by cases c<;>exact hc1,rfl,hm1⟩
    all_goals
     simp only[go_sem,↓reduceIte,pob,nmD,I,hz,ha,hn];exact⟨_,rfl,c,by cases c<;>exact hc1,rfl,hm1⟩
def q00:PT:=⟨⟨q20,none,0,0,0,1000,0,0⟩,[],q20,q20,false,[],0⟩
def PT.run(fl:Fl)(q:PT):List OpV→PT
 |[]=>q
 |o::l=>if(q.dop fl o).bad=0 then PT.run fl (q.dop fl o) l else q.dop fl o
def opsD(l:List OpV):D:=.list (l.map OpV.d)
def z23(q:PT):Res:=if q.bad=0 then .tup [.list (q3d q.out),.nil]else .tup [.list [],errD q.bad]
def j0x(fl:Fl)(l:List OpV):Res:=if l.length>2000 then .tup [.list [],errD 2]else z23 (q00.run fl l)
structure PT.inv(q:PT):Prop where
 ok:q.ok
 n:q.saved.length≤8
 f:∀s∈q.saved,∀f,s.font=some f→f.ok
theorem j87{q:PT}(h:q.inv)(b:Bool):(q.sv b).inv:=by
 unfold PT.sv;split
 ·split
  ·exact⟨q7b h.ok 10,h.n,h.f⟩
  ·rename_i x hx;have hm:=List.mem_of_getLast? hx;refine⟨⟨h.ok.out,h.f x hm⟩,by simp only[List.length_dropLast];have:=h.n;omega,fun s hs=>h.f s (List.dropLast_subset _ hs)⟩
 ·split
  ·exact⟨q7b h.ok 10,h.n,h.f⟩
  ·refine⟨⟨h.ok.out,h.ok.font⟩,by have:=h.n;simp only[Zaq,Zad,Zam];omega,fun s hs=>?_⟩;rcases Zbb.1 hs with hs|hs
   ·exact h.f s hs
   ·simp at hs;subst hs;exact h.ok.font
theorem z0A{q q':PT}(h:q.inv)(hs:q'.saved=q.saved)(hok:q'.ok):q'.inv:=⟨hok,by rw[hs];exact h.n,by rw[hs];exact h.f⟩
theorem j9R{q:PT}(h:q.ok)(b:Bool):(q.tx b).ok:=by
 unfold PT.tx;split
 ·exact⟨fun hb=>h.out (q7F hb),h.font⟩
 ·exact⟨h.out,h.font⟩
theorem j2l{fl:Fl}{s:List UInt8}{f:Fnt}(h:z0m fl s=some f):∃p∈fl,p.2=f:=by
 induction fl with
 |nil=>cases h
 |cons p l ih=>
  simp only[z0m]at h;split at h
  ·cases h;exact⟨p,by simp,rfl⟩
  ·obtain⟨p',h1,h2⟩:=ih h;exact⟨p',by simp[h1],h2⟩
theorem j7V{q:PT}(h:q.ok){fl:Fl}(hf:∀p∈fl,p.2.ok)(l:List Val):(q.chs fl l).ok:=by
 unfold PT.chs;split
 ·split
  ·split
   ·rename_i f hlk;refine⟨h.out,fun g hg=>?_⟩;cases hg;obtain⟨p,h1,rfl⟩:=j2l hlk;exact hf p h1
   ·exact q7b h 6
  ·exact q7b h 8
 ·exact q7b h 8
theorem j81{q:PT}(h:q.ok)(l:List Val):(q.st l).ok:=(j6a (q7b h _) _).1
theorem j9P{q:PT}(h:q.ok)(l:List Val):(q.tj l).ok:=by
 unfold PT.tj;split
 ·split
  ·exact j2n h _
  ·exact q7b h 8
 ·exact q7b h 8
theorem j8e{q:PT}(h:q.ok)(o:OpV):(q.ins o).ok:=by
 unfold PT.ins;split
 ·exact z8c (q7b h _) _ _
 split
 ·exact z8c (q:=(q.nu o.args 2).ld (ng ((q1v o.args 2).getD 1 0))) ⟨fun hb=>h.out (q7F (n:=q.bad) hb),h.font⟩ _ _
 split
 ·exact⟨fun hb=>h.out (q7F hb),h.font⟩
 split
 ·exact z8c (q7b h _) _ _
 split
 ·exact j81 h _
 split
 ·exact j81 (z8c h _ _) _
 split
 ·exact j9P h _
 ·exact h
theorem z4X{q:PT}(h:q.inv){fl:Fl}(hf:∀p∈fl,p.2.ok)(o:OpV):(q.dop fl o).inv:=by
 unfold PT.dop;split
 ·exact z0A h rfl ⟨fun hb=>h.ok.out (q7F hb),h.ok.font⟩
 ·split
  ·exact j87 h _
  ·split
   ·exact z0A h rfl ⟨fun hb=>h.ok.out (q7F (q7F hb)),h.ok.font⟩
   ·split
    ·exact z0A h (z0H q _) (j9R h.ok _)
    ·split
     ·exact z0A h (z2q q fl _) (j7V h.ok hf _)
     ·exact z0A h (z2D q h.ok o) (j8e h.ok o)
theorem q0e.loP{P:Program}[Inv P]{d:Option Nat}{f:LX}{args:List LX}{N:St→Prop}{σ:St}{g:FuncId}{first cap xs:List AV}{o:AObj}{m:Option AObj}{z:AV}{Post:AObj→Option AObj→Prop}(k:Nat)(hf:σ.ev f=.fn (.func g) first cap)(hc:MV P g xs [o] m (fun r hs' m'=>r=z∧∃o',hs'=[o']∧Post o' m'))(ho:PO o)(hm:rowM m=true)(hH:σ.H=mob m)(hL:aget σ.L k=some (o.ren [.l k]))
  (hx:q5q [] 0 (first++(evL σ args++cap))=renL [.l k] xs) (hwx:labL 1 xs=true) (hz:z.q1y=true∧z.q7d 1=true)
  (hK:∀o1 m1,Post o1 m1→PO o1∧N (putO ⟨amap (AV.q5Y [.l k]) (amap (AV.drop (.x 1000)) σ.ρ),aset (amap (q0q (.x 1000)) σ.L) k (o1.ren [.l k]),mob m1⟩ d (z.ren [.l k]))):q0e P d .call (f::args) N σ:=by
 have h1:σ.obj (.x 1000)=m:=by
  show aget σ.H 1000=m
  rw[hH];exact q0o m
 refine q0e.mv [.l k] hf hc hx hwx ⟨hL,trivial⟩ (by simp[wfMO,ho.wf]) rfl rfl h1 hm fun r hs' m1 ⟨e1,o1,e2,hp⟩=>?_
 subst e1;subst e2;obtain⟨ho1,hK⟩:=hK o1 m1 hp;refine⟨⟨hz,by simp[q4M,ho1.wf,isLocal]⟩,?_⟩;have e:q9w σ.q3B [.l k] [o1] m1=⟨amap (AV.q5Y [.l k]) (amap (AV.drop (.x 1000)) σ.ρ),aset (amap (q0q (.x 1000)) σ.L) k (o1.ren [.l k]),mob m1⟩:=by
  have e1:adel (amap (q0q (.x 1000)) σ.H) 1000=[]:=by
   rw[hH];cases m<;>rfl
  simp only[q9w,q41,q5u,St.q3B,e1];cases m1<;>rfl
 rw[e];exact hK
def outL:List Gph→AV
 |[]=>.ns
 |g::l=>.own (.c (.l 19) 28) 55 10 (q3d (g::l))
def pobL(fd:D)(q:PT)(c:Option Nat):AObj:=
 .cells [.d fd,.d (I q.s.ctm.1),.d (I q.s.ctm.2.1),.d (I q.s.ctm.2.2.1),.d (I q.s.ctm.2.2.2.1),.d (I q.s.ctm.2.2.2.2.1),.d (I q.s.ctm.2.2.2.2.2),.d (q89 q.s.font),.d (I q.s.size),.d (I q.s.char),.d (I q.s.word),.d (I q.s.scale),.d (I q.s.lead),.d (I q.s.rise),
  svV q.saved c,.d (I q.tm.1),.d (I q.tm.2.1),.d (I q.tm.2.2.1),.d (I q.tm.2.2.2.1),.d (I q.tm.2.2.2.2.1),.d (I q.tm.2.2.2.2.2),.d (I q.lm.1),.d (I q.lm.2.1),.d (I q.lm.2.2.1),.d (I q.lm.2.2.2.1),.d (I q.lm.2.2.2.2.1),.d (I q.lm.2.2.2.2.2),
  .d (.bool q.inn),outL q.out,.d (errD q.bad)]
theorem j2Z(fd:D)(q:PT)(c:Option Nat):(pob fd q c).ren [.l 19]=pobL fd q c:=by
 obtain⟨s,saved,tm,lm,inn,out,bad⟩:=q;cases c<;>cases out<;>rfl
theorem j2Y(fd:D)(q:PT)(c:Option Nat):q0q (.l 8) (pobL fd q c)=pobL fd q c:=by
 obtain⟨s,saved,tm,lm,inn,out,bad⟩:=q;cases c<;>cases out<;>rfl
theorem z5M(fl:Fl)(q:PT)(o:OpV)(l:List OpV):q.run fl (o::l)=if(q.dop fl o).bad=0 then(q.dop fl o).run fl l else q.dop fl o:=rfl
def q4s:q0m:=
 .seq (.reg [⟨some 4,.nils 55 10,none⟩,Qx 5 (.k (.d .nil))]) (.seq (.seq (.reg [Qc 9 0,Q 10 (.len false (.t 9)),Q 11 (.bin .gtr (.t 10) (Ki 2000))]) (.cond (.t 11) (.seq (.reg 
 [Q 12 (.mkI 76 (Ki 2)),⟨some 4,.nils 55 10,none⟩,Qa 5 12]) .ret) .skip)) (.seq (.reg [Qc 13 1,⟨some 14,.call 30 [],none⟩,Q 15 (.bld [(0,6),(6,1),(7,1),(8,1),(9, 
 1),(10,1),(11,1),(12,1)] [.int .i64 0,.int .i64 0,.int .i64 0,.int .i64 0,.int .i64 0,.int .i64 0,.nilp,.int .i64 0,.int .i64 0,.int .i64 0,.int .i64 0,.int .i64 
 0,.int .i64 0] [] [(0,.t 14),(5,.k (.d (.int .i64 1000)))]),⟨some 16,.call 30 [],none⟩,⟨some 17,.call 30 [],none⟩,Q 18 (.bld [(0,1),(1,13),(14,1),(15,6),(21, 
 6),(27,1),(28,1),(29,1)] [.map [] [],.int .i64 0,.int .i64 0,.int .i64 0,.int .i64 0,.int .i64 0,.int .i64 0,.nilp,.int .i64 0,.int .i64 0,.int .i64 0,.int .i64 
 0,.int .i64 0,.int .i64 0,.list [],.int .i64 0,.int .i64 0,.int .i64 0,.int .i64 0,.int .i64 0,.int .i64 0,.int .i64 0,.int .i64 0,.int .i64 0,.int .i64 0,.int .i64 
 0,.int .i64 0,.bool false,.list [],.nil] [false,false,false,false,false,false,false,false,false,false,false,false,false,false,true,false,false,false,false, 
 false,false,false,false,false,false,false,false,false,true,false] [(0,.t 13),(1,.t 15),(3,.t 16),(4,.t 17)]),⟨some 19,.box (.t 18),none⟩,Qa 6 19]) (.seq 
 (.seq (.reg [Qc 20 0,Q 21 (.len false (.t 20)),Q 22 (.cp (Ki 0))]) (.block 0 (.loop (.seq (.reg [Q 23 (.bin .lss (.t 22) (.t 21))]) (.seq (.cond (.t 23) .skip (.exit 0)) (.seq 
 (.block 1 (.seq (.reg [Q 24 (.ia 2 (.t 20) (.t 22)),Q 25 (.ld true 2 (.t 24)),⟨some 8,.allo [.str [],.list []],none⟩,⟨none,.st 2 (.t 8) (.t 25),none⟩]) (.seq (.reg [Qc 26 
 6,Q 27 (.ld true 2 (.t 8)),⟨some 28,.prim .call [.k (.fn (.func 31) [] []),.t 26,.t 27] [],none⟩]) (.seq (.reg [Qc 29 6,Q 30 (.nck (.t 29)),Q 31 (.fa 29 (.t 30)),Q 32 
 (.ld false 1 (.t 31)),Q 33 (.eqN 0 true (.t 32))]) (.cond (.t 33) (.seq (.dreg [Qc 34 6,Q 35 (.nck (.t 34)),Q 36 (.fa 29 (.t 35)),Q 37 (.ld false 1 (.t 36)),Q 4 (.cp (.k (.d 
 (.list [])))),Qc 5 37]) .ret) .skip))))) (.reg [Q 38 (.bin .add (.t 22) (Ki 1)),Qc 22 38]))))))) (.seq (.reg [Qc 39 6,Q 40 (.nck (.t 39)),Q 41 (.fa 28 (.t 40)),Q 42 (.ld 
 false 1 (.t 41)),Qa 4 42,Qx 5 (.k (.d .nil))]) .ret))))
def q4u:List LRes:=[.tmp 4,.tmp 5]
theorem q6E:q0t Tryz.prog 11 43 q4s q4u:=⟨_,_,Tryz.func11,rfl,by kernel_rfl,by kernel_rfl,rfl⟩
theorem z6Z(fl:Fl)(l:List OpV)(hl:l.length≤1000000)(hf:∀p∈fl,p.2.ok)(ho:∀o∈l,o.ok):
  q0y Tryz.prog 11 [opsD l,q0g fl] (fun r=>r=j0x fl l):=by
 refine q6E.call rfl ?_;have hlen:(l.map OpV.d).length=l.length:=Zas ..;simp(disch:=omega)only[go_sem,↓reduceIte,q4s,q4u,opsD,hlen];refine⟨fun h1=>?_,fun h1=>?_⟩
 ·have e:j0x fl l=.tup [.list [],errD 2]:=if_pos (by omega);rw[e];rfl
 ·refine q0i.of q6N ?_;simp only[go_sem,↓reduceIte,mat];refine q0i.of q6N ?_;simp only[go_sem,↓reduceIte,mat];refine q0i.of q6N ?_;simp only[go_sem,↓reduceIte,mat,q0g,I];have e:j0x fl l=z23 (q00.run fl l):=if_neg (by omega);rw[e];have hq0:q00.inv:=⟨⟨fun _=>Zar _,fun f h=>by cases h⟩,Zar _,fun s h=>by cases h⟩
  refine q0j (fun y:Nat×PT×Option Nat=>⟨[(0,.d (.list (l.map OpV.d))),(1,.d (q0g fl)),(4,.own (.t 4) 55 10 []),(6,.ptr (.l 19) 0),(20,.d (.list (l.map OpV.d))),(21,.d (.int .i64 l.length)),(22,.d (.int .i64 y.1))],[(19,pobL (q0g fl) y.2.1 y.2.2)],mob (svO y.2.1.saved y.2.2)⟩)
   (fun y=>y.1≤l.length∧y.2.1.inv∧svOK y.2.1 y.2.2∧y.2.1.bad=0∧q00.run fl l=y.2.1.run fl (l.drop y.1)) (fun y=>l.length-y.1) (0,q00,none) ?_ ⟨Zar _,hq0,rfl,rfl,rfl⟩ ?_
  ·refine Weak.mk ?_ ?_ ?_
   ·simp only[go_sem,↓reduceIte,Sub,q0g,hlen]
   ·simp only[go_sem,↓reduceIte,Sub,pobL,q00,svV,outL,q20,I,q0g,q89,errD]
   ·simp only[go_sem,↓reduceIte,Sub,svO,mob,q00]
  ·intro⟨i,q,c⟩ ⟨hi,hq,hc,hb,hr⟩;simp only at hi hq hc hb hr ⊢;rw[hr];simp(disch:=omega)only[go_sem,↓reduceIte];refine⟨fun hlt=>?_,fun hge=>?_⟩
   ·obtain⟨o,hx⟩:=get_some (l:=l) (i:=i) (by omega);have hg:getI (l.map OpV.d) (i:Int)=some o.d:=by rw[q0d,Zae,hx];rfl
    have hdr:l.drop i=o::l.drop (i+1):=q07 hx;rw[hdr,z5M];simp(disch:=omega)only[go_sem,↓reduceIte,hg,OpV.d];have hd8:=j2Y (q0g fl) q c;simp only[q0q]at hd8;rw[hd8];have hom:=ho o (Zaa hx);have hq1:=z4X hq hf o;refine q0e.loP 19 rfl (pdo fl q c hc hq.n o hq.ok hom) (q0l _ _ _) (z4L _ _) rfl (by rw[j2Z];rfl) rfl rfl ⟨rfl,rfl⟩ (fun o1 m1 hp=>?_);obtain⟨c1,hc1,rfl,rfl⟩:=hp;refine⟨q0l _ _ _,?_⟩;rw[j2Z];generalize q.dop fl o=q1 at *
    by_cases hb1:q1.bad=0
    ·have he:errD q1.bad=.nil:=by rw[hb1];rfl
     simp only[hb1,↓reduceIte];simp(disch:=omega)only[go_sem,↓reduceIte,pobL,he];refine⟨(i+1,q1,c1),Weak.mk ?_ ?_ ?_,⟨by simp only;omega,hq1,hc1,hb1,rfl⟩,by simp only;omega⟩
     ·simp only[go_sem,↓reduceIte,Sub,Int.natCast_add]
     ·simp only[go_sem,↓reduceIte,Sub,he]
     ·cases hs:svO q1.saved c1<;>simp only[go_sem,↓reduceIte,Sub,hs]
    ·have he:=q4k hb1;simp only[hb1,↓reduceIte];simp(disch:=omega)only[go_sem,↓reduceIte,pobL,he];rw[z23,if_neg hb1,he]
   ·have hie:i=l.length:=by omega
    subst hie;rw[List.drop_length];have e2:PT.run fl q []=q:=rfl;rw[e2,z23,if_pos hb];cases ho:q.out with
    |nil=>
     simp only[go_sem,↓reduceIte,pobL,ho,outL];rfl
    |cons g r=>
     simp only[go_sem,↓reduceIte,pobL,ho,outL]
mutual
def awV:Val→Nat
 |.mk _ _ s l f=>1+s.length+awL l+awF f
def awL:List Val→Nat
 |[]=>0
 |v::r=>awV v+awL r
def awF:List Fld→Nat
 |[]=>0
 |.mk nm v::r=>nm.length+awV v+awF r
end
mutual
theorem j7I(most:Int):∀v:Val,awV v≤1000000000→0≤wtV most v∧wtV most v≤awV v∧(wtV most v≤most→wtV most v=awV v)
 |.mk k n s l f,h=>by
  simp only[awV]at h ⊢;simp only[wtV];have e:IntKind.i64.wrap (1+(s.length:Int))=1+(s.length:Int):=IntWalk.i64_in _ (by omega);rw[e];have h1:=j6j most l (1+(s.length:Int)) (by omega) (by omega);have h2:=j6i most f (wtL most l (1+(s.length:Int))) (by omega) (by omega);refine⟨by omega,by omega,fun h3=>?_⟩;have:=h2.2.2 h3;have:=h1.2.2 (by omega);omega
theorem j6j(most:Int):∀(l:List Val) (n:Int),0≤n→n+awL l≤1000000000→n≤wtL most l n∧wtL most l n≤n+awL l∧(wtL most l n≤most→wtL most l n=n+awL l)
 |[],n,h0,h=>by simp only[wtL,awL];omega
 |v::r,n,h0,h=>by
  simp only[awL]at h ⊢;simp only[wtL]
  by_cases hm:n≤most
  ·rw[if_pos hm];have hv:=j7I most v (by omega);have e:IntKind.i64.wrap (n+wtV most v)=n+wtV most v:=IntWalk.i64_in _ (by omega);rw[e];have hr:=j6j most r (n+wtV most v) (by omega) (by omega);refine⟨by omega,by omega,fun h3=>?_⟩;have:=hr.2.2 h3;have:=hv.2.2 (by omega);omega
  ·rw[if_neg hm];exact⟨by omega,by omega,fun h3=>absurd h3 hm⟩
theorem j6i(most:Int):∀(l:List Fld) (n:Int),0≤n→n+awF l≤1000000000→n≤wtF most l n∧wtF most l n≤n+awF l∧(wtF most l n≤most→wtF most l n=n+awF l)
 |[],n,h0,h=>by simp only[wtF,awF];omega
 |.mk nm v::r,n,h0,h=>by
  simp only[awF]at h ⊢;simp only[wtF]
  by_cases hm:n≤most
  ·rw[if_pos hm];have hv:=j7I most v (by omega);have e0:IntKind.i64.wrap (n+(nm.length:Int))=n+(nm.length:Int):=IntWalk.i64_in _ (by omega);rw[e0];have e:IntKind.i64.wrap (n+(nm.length:Int)+wtV most v)=n+(nm.length:Int)+wtV most v:=IntWalk.i64_in _ (by omega);rw[e];have hr:=j6i most r (n+(nm.length:Int)+wtV most v) (by omega) (by omega);refine⟨by omega,by omega,fun h3=>?_⟩;have:=hr.2.2 h3;have:=hv.2.2 (by omega);omega
  ·rw[if_neg hm];exact⟨by omega,by omega,fun h3=>absurd h3 hm⟩
end
theorem z22(l:List OpV):(l.map OpV.d).length=l.length:=Zas ..
theorem z9r{l:List OpV}{i:Nat}{o:OpV}(h:l[i]?=some o):(l.map OpV.d)[i]?=some (.agg [.str o.nm,.list (q0M o.args)]):=by simp[h,OpV.d]
theorem z4M{l:List Val}{i:Nat}{v:Val}(h:l[i]?=some v):(q0M l)[i]?=some (.agg [.int .i64 v.kind,.int .i64 v.n,.str v.s,.list (q0M v.l),.list (q3H v.f)]):=by
 rw[q6i,Zae,h,Zav,Val.d_eq v]
theorem z7n(l:List Val):(q0M l).length=l.length:=by simp[q6i]
def j6n(l:List OpV):Prop:=l.length≤1048576∧∀o∈l,o.args.length≤1048576∧o.nm.length≤1048576∧∀v∈o.args,v.sm 1048576=true∧awV v≤1048576
def z4O(l:List OpV):Prop:=l.length≤300∧∀o∈l,o.nm.length≤50∧o.args.length≤12∧∀v∈o.args,wtV 9000 v≤9000
def q34:q0m:=
 .seq (.reg [Qx 2 KF]) (.seq (.seq (.reg [Qc 6 0,Q 7 (.len false (.t 6)),Q 8 (.bin .gtr (.t 7) (Ki 300))]) (.cond (.t 8) (.seq (.reg [Qx 2 KF]) .ret) .skip)) (.seq (.reg [Qx 3 (Ki 
 0)]) (.seq (.seq (.reg [Qx 4 (Ki 0)]) (.block 0 (.loop (.seq (.seq (.reg [Qc 9 4,Qc 10 0,Q 11 (.len false (.t 10)),Q 12 (.bin .lss (.t 9) (.t 11))]) (.cond (.t 12) .skip 
 (.exit 0))) (.seq (.block 1 (.seq (.seq (.reg [Qc 15 0,Qc 16 4,Q 17 (.ia 2 (.t 15) (.t 16)),Q 18 (.fa 0 (.t 17)),Q 19 (.ld false 1 (.t 18)),Q 20 (.len true (.t 19)),Q 21 
 (.bin .gtr (.t 20) (Ki 50)),Qc 22 21,Qd 23 0 22 false,Qd 24 4 22 false,Qg 25 (.ia 2 (.t 23) (.t 24)) 22 false,Qg 26 (.fa 1 (.t 25)) 22 false,Qg 27 (.ld false 1 (.t 26)) 22 
 false,Qg 28 (.len false (.t 27)) 22 false,Qg 29 (.bin .gtr (.t 28) (Ki 12)) 22 false,Q 30 (.pick (.t 22) KT (.t 29))]) (.cond (.t 30) (.seq (.reg [Qx 2 KF]) .ret) .skip)) 
 (.seq (.seq (.reg [Qx 5 (Ki 0)]) (.block 2 (.loop (.seq (.seq (.reg [Qc 31 5,Qc 32 0,Qc 33 4,Q 34 (.ia 2 (.t 32) (.t 33)),Q 35 (.fa 1 (.t 34)),Q 36 (.ld false 1 (.t 35)),Q 
 37 (.len false (.t 36)),Q 38 (.bin .lss (.t 31) (.t 37))]) (.cond (.t 38) .skip (.exit 2))) (.seq (.block 3 (.reg [Qc 41 3,Qc 42 0,Qc 43 4,Q 44 (.ia 2 (.t 42) (.t 43)),Q 45 
 (.fa 1 (.t 44)),Q 46 (.ld false 1 (.t 45)),Qc 47 5,Q 48 (.ia 5 (.t 46) (.t 47)),Q 49 (.ld true 5 (.t 48)),⟨some 50,.call 27 [.t 49,.k (.d (.int .i64 9000))],none⟩,Q 51 
 (.bin .add (.t 41) (.t 50)),Qa 3 51])) (.reg [Qc 39 5,Q 40 (.bin .add (.t 39) (Ki 1)),Qa 5 40])))))) (.seq (.reg [Qc 52 3,Q 53 (.bin .gtr (.t 52) (Ki 9000))]) (.cond (.t 53) 
 (.seq (.reg [Qx 2 KF]) .ret) .skip))))) (.reg [Qc 13 4,Q 14 (.bin .add (.t 13) (Ki 1)),Qa 4 14])))))) (.seq (.reg [Qx 2 KT]) .ret))))
def q38:List LRes:=[.tmp 2]
theorem q6d:q0t Tryz.prog 9 54 q34 q38:=⟨_,_,Tryz.func9,rfl,by kernel_rfl,by kernel_rfl,rfl⟩
theorem z5r(l:List OpV)(hl:j6n l):q0y Tryz.prog 9 [opsD l] (fun r=>∃b,r=.one (.bool b)∧(b=true→z4O l)):=by
 have hlen:=z22 l;refine q6d.call rfl ?_;simp only[go_sem,↓reduceIte,q34,q38,hlen,opsD];refine⟨fun h1=>⟨_,rfl,fun h=>by cases h⟩,fun h1=>?_⟩;refine q0j (fun y:Nat×Int=>⟨[(0,.d (.list (l.map OpV.d))),(3,.d (.int .i64 y.2)),(4,.d (.int .i64 y.1))],[],[]⟩)
  (fun y=>y.1≤l.length∧(0≤y.2∧y.2≤9000)∧∀j o,j<y.1→l[j]?=some o→o.nm.length≤50∧o.args.length≤12∧∀v∈o.args,wtV 9000 v≤9000) (fun y=>l.length-y.1) (0,0) ?_ ?_ ?_
 ·refine q0h ?_ trivial;simp only[go_sem,↓reduceIte,Sub,Int.natCast_add,Int.natCast_mul]
 ·exact⟨by simp,by simp,fun j o hj=>by simp at hj⟩
 ·rintro⟨i,n⟩ ⟨g1,g2,g3⟩;simp only at g1 g2 g3;simp only[go_sem,↓reduceIte,hlen];refine⟨fun q1=>?_,fun q1=>?_⟩
  ·obtain⟨o,ho⟩:=get_some (l:=l) (i:=i) (by omega);have hd:=z9r ho;obtain⟨hi1,hi2,hi3⟩:=hl.2 o (Zaa ho);have hal:=z7n o.args;simp(disch:=omega)only[go_sem,↓reduceIte,q0d,hd,hal];have nob:∃b,Res.one (D.bool false)=Res.one (D.bool b)∧(b=true→z4O l):=⟨false,rfl,fun h=>by cases h⟩;refine⟨fun q2=>⟨fun q3=>nob,fun q3=>?_⟩,fun q2=>nob⟩;refine q0j (fun y:Nat×Int=>⟨[(0,.d (.list (l.map OpV.d))),(3,.d (.int .i64 y.2)),(4,.d (.int .i64 i)),(5,.d (.int .i64 y.1))],[],[]⟩)
    (fun y=>y.1≤o.args.length∧(0≤y.2∧y.2≤9000+1048576*y.1)∧∀j v,j<y.1→o.args[j]?=some v→wtV 9000 v≤y.2) (fun y=>o.args.length-y.1) (0,n) ?_ ?_ ?_
   ·refine q0h ?_ trivial;simp only[go_sem,↓reduceIte,Sub,Int.natCast_add,Int.natCast_mul]
   ·exact⟨by simp,⟨g2.1,by simp;omega⟩,fun j v hj=>by simp at hj⟩
   ·rintro⟨k,n2⟩ ⟨f1,f2,f3⟩;simp only at f1 f2 f3;simp(disch:=omega)only[go_sem,↓reduceIte,q0d,hd,hal];refine⟨fun r1=>?_,fun r1=>?_⟩
    ·obtain⟨v,hv⟩:=get_some (l:=o.args) (i:=k) (by omega);have hvd:=z4M hv;obtain⟨s1,s2⟩:=hi3 v (Zaa hv);have hwc:=z8K _ v 9000 (Zal _) s1;rw[Val.d_eq v]at hwc;have hwt:=j7I 9000 v (by omega);simp(disch:=omega)only[go_sem,↓reduceIte,q0d,hd,hvd,hal];refine q0i.of hwc ?_;simp(disch:=omega)only[go_sem,↓reduceIte];refine⟨(k+1,n2+wtV 9000 v),?_,⟨by simp only;omega,⟨by simp only;omega,by simp only[Int.natCast_add,Zcp];omega⟩,fun j u hj hu=>?_⟩,by simp only;omega⟩
     ·refine q0h ?_ trivial;simp only[go_sem,↓reduceIte,Sub,Int.natCast_add,Int.natCast_mul]
     ·by_cases e:j=k
      ·subst e;rw[hv]at hu;cases hu;simp only;omega
      ·have:=f3 j u (by simp only at hj;omega) hu;simp only;omega
    ·refine⟨fun r2=>nob,fun r2=>?_⟩;refine⟨(i+1,n2),?_,⟨by simp only;omega,⟨f2.1,by simp only;omega⟩,fun j u hj hu=>?_⟩,by simp only;omega⟩
     ·refine q0h ?_ trivial;simp only[go_sem,↓reduceIte,Sub,Int.natCast_add,Int.natCast_mul]
     ·by_cases e:j=i
      ·subst e;rw[ho]at hu;cases hu;refine⟨by omega,by omega,fun v hv=>?_⟩;obtain⟨j',hj'⟩:=Zap hv;have:=f3 j' v (by have:=(Zab.1 hj').1;omega) hj';omega
      ·exact g3 j u (by simp only at hj;omega) hu
  ·exact⟨_,rfl,fun _=>⟨by omega,fun o ho=>by
    obtain⟨j,hj⟩:=Zap ho;exact g3 j o (by have:=(Zab.1 hj).1;omega) hj⟩⟩
end Go.Av.Tryz
