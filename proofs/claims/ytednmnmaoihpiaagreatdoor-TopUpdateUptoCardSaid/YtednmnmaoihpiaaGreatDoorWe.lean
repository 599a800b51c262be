import Derived.Test.YtednmnmaoihpiaaGreatDoorWd
import Derived.Shelf.Strings.LastIndexAll
import Derived.Shelf.Strings.Repeat
import Derived.Test.YtednmnmaoihpiaaGreatDoorWa
import Derived.Test.YtednmnmaoihpiaaGreatDoorAvI
import Derived.Shelf.SortM.SortNone
import Derived.Shelf.SortM.Plain
import Derived.Sort.OwnSortedInts
import Derived.Test.YtednmnmaoihpiaaGreatDoorAvJ
import Derived.Test.YtednmnmaoihpiaaGreatDoorWc
set_option linter.unusedSimpArgs false
set_option maxRecDepth 100000
set_option maxHeartbeats 8000000
set_option linter.unusedSectionVars false
namespace Go.Av.Tryz
open Go.Proofs
open Go.Proofs Go.Shelf
def q8s:q0l:=
 .seq (.reg [Qx 4 (Ki 0),Qx 5 (Ki 0),Qx 6 (.k (.d .nil))]) (.seq (.reg [Qc 10 0,Qc 11 1,⟨some 12,.call 26 [.t 10,.t 11],none⟩,Qa 7 12]) (.seq (.seq (.reg [Qc 13 7,Q 14 
 (.bin .eql (.t 13) (.k (.d (.str [])))),Qc 15 14,Qd 16 7 15 false,Qg 17 (.len true (.t 16)) 15 false,Qg 18 (.bin .gtr (.t 17) (Ki 10)) 15 false,Q 19 (.pick (.t 15) KT (.t 
 18))]) (.cond (.t 19) (.seq (.reg [Q 20 (.mkI 49 (Ki 4)),Qx 4 (Ki 0),Qx 5 (Ki 0),Qa 6 20]) .ret) .skip)) (.seq (.reg [Qx 8 (Ki 0)]) (.seq (.seq (.reg [Qc 21 7,Q 22 (.len true 
 (.t 21)),Q 23 (.cp (Ki 0))]) (.block 0 (.loop (.seq (.reg [Q 24 (.bin .lss (.t 23) (.t 22))]) (.seq (.cond (.t 24) .skip (.exit 0)) (.seq (.block 1 (.seq (.reg [Qc 25 23,Qa 9 
 25]) (.seq (.seq (.reg [Qc 26 7,Qc 27 9,Q 28 (.idxS (.t 26) (.t 27)),Q 29 (.bin .lss (.t 28) (Kb 48)),Qc 30 29,Qd 31 7 30 false,Qd 32 9 30 false,Qg 33 (.idxS (.t 31) (.t 
 32)) 30 false,Qg 34 (.bin .gtr (.t 33) (Kb 57)) 30 false,Q 35 (.pick (.t 30) KT (.t 34))]) (.cond (.t 35) (.seq (.reg [Q 36 (.mkI 49 (Ki 4)),Qx 4 (Ki 0),Qx 5 (Ki 0),Qa 6 
 36]) .ret) .skip)) (.reg [Qc 37 8,Q 38 (.bin .mul (Ki 10) (.t 37)),Qc 39 7,Qc 40 9,Q 41 (.idxS (.t 39) (.t 40)),Q 42 (.bin .sub (.t 41) (Kb 48)),Q 43 (.cvI .i64 (.t 42)),Q 
 44 (.bin .add (.t 38) (.t 43)),Qa 8 44])))) (.reg [Q 45 (.bin .add (.t 23) (Ki 1)),Qc 23 45]))))))) (.seq (.reg [Qc 46 8,Qc 47 1,Qc 48 7,Q 49 (.len true (.t 48)),Q 50 (.bin 
 .add (.t 47) (.t 49)),Qa 4 46,Qa 5 50,Qx 6 (.k (.d .nil))]) .ret)))))
def q8A:List LRes:=[.tmp 4,.tmp 5,.tmp 6]
theorem z0C:q0E Tryz.prog 34 51 q8s q8A:=⟨_,_,Tryz.func34,rfl,by kernel_rfl,by kernel_rfl,rfl⟩
theorem q4M{s:List UInt8}{k:Nat}{w p:List UInt8}(h:At s k (w++p))(hw:∀c∈w,dgt c)(hn:w≠[])(hl:w.length≤10)(hp:dl p)(hs:s.length≤1000000):
  q0y Tryz.prog 34 [.str s,.int .i64 k] (fun r=>r=.tup [.int .i64 (decV w 0),.int .i64 ((k+w.length:Nat):Int),.nil]):=by
 have hc1:=h.q1g (j0Y hw) hp (by omega);have hk:=h.le;have hmax:=z73 hw hl;refine z0C.call rfl ?_;simp only[go_sem,↓reduceIte,q8s,q8A];refine q0j.of hc1 ?_;have hn':(w=[])=False:=eq_false hn;have hl':(10<(w.length:Int))=False:=eq_false (by omega);simp(disch:=omega)only[go_sem,↓reduceIte,hn',hl'];refine q0n (fun i:Nat=>⟨[(0,.d (.str s)),(1,.d (.int .i64 k)),(7,.d (.str w)),(8,.d (.int .i64 (decV (w.take i) 0))),(22,.d (.int .i64 w.length)),(23,.d (.int .i64 i))],[],[]⟩)
  (fun i=>i≤w.length) (fun i=>w.length-i) 0 ?_ (Zbb _) ?_
 ·refine q1m ?_ trivial;simp only[go_sem,↓reduceIte,Sub,Zab,Zac,decV,Zcf]
 ·intro i hi;simp only[go_sem,↓reduceIte];refine⟨fun q=>?_,fun q=>?_⟩
  ·obtain⟨c,hc⟩:=get_some (l:=w) (i:=i) (by omega);have hd:=hw c (Zae hc);have h1:((c.toNat:Int)<48)=False:=eq_false (by have:=hd.1;omega);have h2:(57<(c.toNat:Int))=False:=eq_false (by have:=hd.2;omega);have h3:=z73 (w:=w.take i) (fun x hx=>hw x (Zbj hx)) (by rw[Zaq];omega);have h4:decV (w.take (i+1)) 0=10*decV (w.take i) 0+(c.toNat-48):=by rw[Zcd,hc];exact z1g c _ 0
   obtain⟨m,hm⟩:∃m,c.toNat-48=m:=⟨_,rfl⟩;have hm':(c.toNat:Int)-48=(m:Int):=by have:=hd.1;omega
   have hm9:m≤9:=by have:=hd.2;omega
   rw[hm]at h4;simp(disch:=omega)only[go_sem,↓reduceIte,q0g,hc,h1,h2,hm'];refine⟨i+1,?_,by omega,by omega⟩;refine q1m ?_ trivial;simp only[go_sem,↓reduceIte,Sub,Zab,Zac,h4]
  ·have e:i=w.length:=by omega
   subst e;rw[Zcq];simp(disch:=omega)only[go_sem,↓reduceIte,Zab]
def z5D:Go.Shelf.Ren:=⟨fun|148=>33|222=>56|223=>57|269=>92|n=>n,fun|9=>9|3=>3|4=>4|5=>5|146=>134|51=>117|46=>84|n=>n,fun|n=>n⟩
theorem j3N:Go.Proofs.Lays.n148 Tryz.prog z5D where
 mixed:=by kernel_rfl
 f148:=Tryz.func33.trans (congrArg some (by kernel_rfl))
 f222:=Tryz.func56.trans (congrArg some (by kernel_rfl))
 f223:=Tryz.func57.trans (congrArg some (by kernel_rfl))
 f269:=Tryz.func92.trans (congrArg some (by kernel_rfl))
 t3:=Tryz.underlying3
 a3:=Tryz.isAgg3
 z3:=Tryz.sizeOf3
 v3:=Tryz.zeroValue3
 t4:=Tryz.underlying4
 a4:=Tryz.isAgg4
 z4:=Tryz.sizeOf4
 v4:=Tryz.zeroValue4
 t5:=Tryz.underlying5
 a5:=Tryz.isAgg5
 z5:=Tryz.sizeOf5
 v5:=Tryz.zeroValue5
 t9:=Tryz.underlying9
 a9:=Tryz.isAgg9
 z9:=Tryz.sizeOf9
 v9:=Tryz.zeroValue9
 t46:=Tryz.underlying84
 a46:=Tryz.isAgg84
 z46:=Tryz.sizeOf84
 v46:=Tryz.zeroValue84
 t51:=Tryz.underlying117
 a51:=Tryz.isAgg117
 z51:=Tryz.sizeOf117
 v51:=Tryz.zeroValue117
 t146:=Tryz.underlying134
 a146:=Tryz.isAgg134
 z146:=Tryz.sizeOf134
 v146:=Tryz.zeroValue134
theorem z2z(s t:List UInt8)(hs:s.length≤1000000):q0y Tryz.prog 33 [.str s,.str t] (fun r=>r=.one (.int .i64 (Lib.lastIndex s t))):=by
 intro f w vs hI ht hsz hrd;have hv:vs = #[.string ⟨s.toArray⟩,.string ⟨t.toArray⟩]:=by
  have h1:=hrd 0 _ rfl;have h2:=hrd 1 _ rfl;match vs,hsz with
  |⟨[v,u]⟩,_=>cases h1;cases h2;rfl
 subst hv;refine(Any.strings_LastIndex j3N ⟨s.toArray⟩ ⟨t.toArray⟩ (by show s.toArray.size<_;simp;omega) w).mono fun e w' ⟨he,hw⟩=>?_
 subst hw;exact⟨_,_,f,rfl,he,.int _ _,⟨Zai _,fun b hb=>⟨rfl,rfl⟩,ht,rfl,rfl,rfl⟩⟩
def sxT:List UInt8:=[115,116,97,114,116,120,114,101,102]
theorem z5C{s r:List UInt8}{k:Nat}(h:At s k (sxT++r))(hr:∀c∈r,c≠115):Lib.lastIndex s sxT=k:=by
 have hlen:=h.len;simp only[Zad,show sxT.length=9 from rfl]at hlen;have hat:Lib.occAt s sxT k=true:=by
  unfold Lib.occAt;rw[h.drop];simp
 have hno:∀j,k<j→Lib.occAt s sxT j=false:=fun j hj=>by
  unfold Lib.occAt;rw[Bool.eq_false_iff];intro hc;obtain⟨m,rfl⟩:∃m,j=k+(m+1):=⟨j-k-1,by omega⟩;rw[←List.drop_drop,h.drop]at hc;have h0:((sxT++r).drop (m+1)).head?=some 115:=by
   rw[List.isPrefixOf_iff_prefix]at hc;obtain⟨t,ht⟩:=hc;rw[←ht];rfl
  rw[List.head?_drop]at h0;have hmem:(115:UInt8)∈[116,97,114,116,120,114,101,102]++r:=by
   have e:sxT++r=115::([116,97,114,116,120,114,101,102]++r):=rfl;rw[e,List.getElem?_cons_succ]at h0;exact Zae h0
  rcases Zau.1 hmem with h1|h1
  ·revert h1;decide
  ·exact hr 115 h1 rfl
 unfold Lib.lastIndex;rw[if_pos (by simp[sxT];omega)];rcases Lib.lastOcc_spec s sxT (s.length-sxT.length+1)with⟨_,h2⟩|⟨i,h1,h2,h3,h4⟩
 ·have:=h2 k (by simp[sxT];omega);rw[hat]at this;cases this
 ·rw[h2];rcases Nat.lt_trichotomy i k with h5|h5|h5
  ·have:=h4 k h5 (by simp[sxT];omega);rw[hat]at this;cases this
  ·rw[h5]
  ·rw[hno i h5]at h3;cases h3
def q95:q0l:=
 .seq (.reg [Qx 2 (Ki 0),Qx 3 (.k (.d .nil))]) (.seq (.reg [Qc 8 0,⟨some 9,.call 33 [.t 8,.k (.d (.str [115,116,97,114,116,120,114,101,102]))],none⟩,Qa 4 9]) (.seq 
 (.seq (.reg [Qc 10 4,Q 11 (.bin .lss (.t 10) (Ki 0))]) (.cond (.t 11) (.seq (.reg [Q 12 (.mkI 49 (Ki 4)),Qx 2 (Ki 0),Qa 3 12]) .ret) .skip)) (.seq (.reg [Qc 14 0,Qc 15 0,Qc 
 16 4,Q 17 (.bin .add (.t 16) (Ki 9)),⟨some 18,.call 25 [.t 15,.t 17],none⟩,⟨some 19,.call 34 [.t 14,.t 18],none⟩,Qc 13 19,Q 20 (.ext 0 (.t 13)),Q 21 (.ext 1 (.t 13)), 
 Q 22 (.ext 2 (.t 13)),Qa 5 20,Qa 6 21,Qa 7 22]) (.seq (.reg [Qc 23 5,Qc 24 7,Qa 2 23,Qa 3 24]) .ret))))
def z0e:List LRes:=[.tmp 2,.tmp 3]
theorem z1H:q0E Tryz.prog 17 25 q95 z0e:=⟨_,_,Tryz.func17,rfl,by kernel_rfl,by kernel_rfl,rfl⟩
theorem q9Z{s w p:List UInt8}{k:Nat}(h:At s k (sxT++([10]++(w++p))))(hw:∀c∈w,dgt c)(hn:w≠[])(hl:w.length≤10)(hp:dl p)(hr:∀c∈p,c≠115)(hs:s.length≤1000000):
  q0y Tryz.prog 17 [.str s] (fun r=>r=.tup [.int .i64 (decV w 0),.nil]):=by
 have hli:=z2z s sxT hs;rw[z5C h (fun c hc=>by
  rcases Zau.1 hc with h1|h1
  ·rw[Zbe.1 h1];decide
  ·rcases Zau.1 h1 with h1|h1
   ·exact fun e=>by have:=(hw c h1).2;rw[e]at this;revert this;decide
   ·exact hr c h1)]at hli
 have h9:At s (k+9) ([10]++(w++p)):=h.more;have hle:=h9.le;obtain⟨c,r,hcr⟩:∃c r,w=c::r:=by cases w with|nil=>exact absurd rfl hn|cons c r=>exact⟨c,r,rfl⟩
 have hsk:q0y Tryz.prog 25 [.str s,.int .i64 ((k+9:Nat):Int)] (fun x=>x=.one (.int .i64 ((k+9+1:Nat):Int))):=
  At.q1f (b:=[10]) (c:=c) (r:=r++p) (by rw[hcr]at h9;exact h9) (fun x hx=>by rw[Zbe.1 hx];exact⟨by decide,by decide⟩) (z5f (hw c (by rw[hcr];simp))) (by omega)
 have hdg:=q4M (h9.more) hw hn hl hp hs;simp only[List.length_singleton]at hdg;rw[Zab]at hsk;refine z1H.call rfl ?_;simp only[go_sem,↓reduceIte,q95,z0e];refine q0j.of hli ?_;have hk0:((k:Int)<0)=False:=eq_false (by omega);simp(disch:=omega)only[go_sem,↓reduceIte,hk0];refine q0j.of hsk ?_;simp only[go_sem,↓reduceIte];refine q0j.of hdg ?_;simp only[go_sem,↓reduceIte]
def linT(w:List UInt8):List UInt8:=w++[32,48,48,48,48,48,32,110,32,10]
def z04:q0l:=
 .seq (.reg [Qx 4 (Ki 0),Qx 5 KF,Qx 6 (Ki 0),Qx 7 (.k (.d .nil))]) (.seq (.reg [Qc 13 0,Qc 14 0,Qc 15 1,⟨some 16,.call 25 [.t 14,.t 15],none⟩,⟨some 17,.call 34 [.t 13,.t 
 16],none⟩,Qc 12 17,Q 18 (.ext 0 (.t 12)),Q 19 (.ext 1 (.t 12)),Q 20 (.ext 2 (.t 12)),Qa 8 18,Qa 9 19,Qa 10 20]) (.seq (.seq (.reg [Qc 21 10,Q 22 (.eqN 0 true (.t 21))]) 
 (.cond (.t 22) (.seq (.reg [Qc 23 10,Qx 4 (Ki 0),Qx 5 KF,Qx 6 (Ki 0),Qa 7 23]) .ret) .skip)) (.seq (.reg [Qc 25 0,Qc 26 0,Qc 27 9,⟨some 28,.call 25 [.t 26,.t 27],none⟩, 
 ⟨some 29,.call 34 [.t 25,.t 28],none⟩,Qc 24 29,Q 30 (.ext 0 (.t 24)),Q 31 (.ext 1 (.t 24)),Q 32 (.ext 2 (.t 24)),Qa 9 31,Qa 10 32]) (.seq (.seq (.reg [Qc 33 10,Q 34 
 (.eqN 0 true (.t 33))]) (.cond (.t 34) (.seq (.reg [Qc 35 10,Qx 4 (Ki 0),Qx 5 KF,Qx 6 (Ki 0),Qa 7 35]) .ret) .skip)) (.seq (.reg [Qc 36 0,Qc 37 9,⟨some 38,.call 25 [.t 36, 
 .t 37],none⟩,Qa 9 38]) (.seq (.reg [Qc 39 0,Qc 40 9,⟨some 41,.call 26 [.t 39,.t 40],none⟩,Qa 11 41]) (.seq (.seq (.reg [Qc 42 11,Q 43 (.bin .neq (.t 42) (.k (.d (.str 
 [110])))),Qc 44 43,Qd 45 11 44 true,Qg 46 (.bin .neq (.t 45) (.k (.d (.str [102])))) 44 true,Q 47 (.pick (.t 44) (.t 46) KF)]) (.cond (.t 47) (.seq (.reg [Q 48 (.mkI 49 (Ki 
 4)),Qx 4 (Ki 0),Qx 5 KF,Qx 6 (Ki 0),Qa 7 48]) .ret) .skip)) (.seq (.reg [Qc 49 8,Qc 50 11,Q 51 (.bin .eql (.t 50) (.k (.d (.str [110])))),Qc 52 9,Q 53 (.bin .add (.t 52) 
 (Ki 1)),Qa 4 49,Qa 5 51,Qa 6 53,Qx 7 (.k (.d .nil))]) .ret))))))))
def z09:List LRes:=[.tmp 4,.tmp 5,.tmp 6,.tmp 7]
theorem z2B:q0E Tryz.prog 58 54 z04 z09:=⟨_,_,Tryz.func58,rfl,by kernel_rfl,by kernel_rfl,rfl⟩
theorem j0b{s b w p:List UInt8}{k:Nat}(h:At s k (b++(linT w++p)))(hb:bl b)(hw:∀c∈w,dgt c)(hn:w≠[])(hl:w.length≤10)(hs:s.length≤1000000):
  q0y Tryz.prog 58 [.str s,.int .i64 k] (fun r=>r=.tup [.int .i64 (decV w 0),.bool true,.int .i64 ((k+b.length+w.length+8:Nat):Int),.nil]):=by
 obtain⟨c,r,hcr⟩:∃c r,w=c::r:=by cases w with|nil=>exact absurd rfl hn|cons c r=>exact⟨c,r,rfl⟩
 have b32:bl [32]:=fun x hx=>by rw[Zbe.1 hx];exact⟨by decide,by decide⟩
 have z5:∀c∈([48,48,48,48,48]:List UInt8),dgt c:=fun c hc=>by simp at hc;rw[hc];exact⟨by decide,by decide⟩
 have sk1:=At.q1f (s:=s) (k:=k) (b:=b) (c:=c) (r:=r++[32,48,48,48,48,48,32,110,32,10]++p) (by rw[linT,hcr]at h;simpa using h) hb (z5f (hw c (by rw[hcr];simp))) (by omega);have a1:At s (k+b.length) (w++([32]++(([48,48,48,48,48]:List UInt8)++([32]++([110]++([32,10]++p)))))):=by
  have:=h.more;rw[linT]at this;simpa using this
 have d1:=q4M a1 hw hn hl (.inl (by decide)) hs;have a2:=a1.more;have sk2:=At.q1f (b:=[32]) (c:=48) (r:=[48,48,48,48]++([32]++([110]++([32,10]++p)))) a2 b32 ⟨by decide,by decide⟩ (by omega);have a3:=a2.more;have d2:=q4M a3 z5 (by simp) (by simp) (.inl (by decide)) hs;have a4:=a3.more;have sk3:=At.q1f (b:=[32]) (c:=110) (r:=[32,10]++p) a4 b32 ⟨by decide,by decide⟩ (by omega);have a5:=a4.more
 have w1:=a5.q1g (w:=[110]) (fun c hc=>by rw[Zbe.1 hc];exact⟨by decide,by decide⟩) (.inl (by decide)) (by omega);have hle:=a5.le;simp only[List.length_singleton,Zaf,Zag]at sk2 d2 sk3 w1 hle;refine z2B.call rfl ?_;simp only[go_sem,↓reduceIte,z04,z09];refine q0j.of sk1 ?_;simp only[go_sem,↓reduceIte];refine q0j.of d1 ?_;simp only[go_sem,↓reduceIte];refine q0j.of sk2 ?_;simp only[go_sem,↓reduceIte];refine q0j.of d2 ?_;simp only[go_sem,↓reduceIte];refine q0j.of sk3 ?_
 simp only[go_sem,↓reduceIte];refine q0j.of w1 ?_;simp(disch:=omega)only[go_sem,↓reduceIte];rw[show((k+b.length+w.length+8:Nat):Int)=((k+b.length+w.length+1+5+1:Nat):Int)+1 by omega]
open Go.Proofs Go.Shelf
def z17:Go.Shelf.Ren:=⟨fun|105=>91|212=>117|99=>16|165=>118|166=>86|170=>119|169=>54|263=>136|264=>137|206=>32|240=>114|241=>138|276=>131|277=>148|n=>n,fun|9=>9|3=>3|4=>4|20=>20|0=>0|46=>84|109=>153|5=>5|72=>102|76=>34|51=>117|146=>134|53=>119|148=>177|70=>99|37=>100|75=>26|127=>133|164=>167|80=>104|n=>n,fun|n=>n⟩
theorem j53:Go.Proofs.Lays.n105 Tryz.prog z17 where
 mixed:=by kernel_rfl
 f99:=Tryz.func16.trans (congrArg some (by kernel_rfl))
 f105:=Tryz.func91.trans (congrArg some (by kernel_rfl))
 f165:=Tryz.func118.trans (congrArg some (by kernel_rfl))
 f166:=Tryz.func86.trans (congrArg some (by kernel_rfl))
 f169:=Tryz.func54.trans (congrArg some (by kernel_rfl))
 f170:=Tryz.func119.trans (congrArg some (by kernel_rfl))
 f206:=Tryz.func32.trans (congrArg some (by kernel_rfl))
 f212:=Tryz.func117.trans (congrArg some (by kernel_rfl))
 f240:=Tryz.func114.trans (congrArg some (by kernel_rfl))
 f241:=Tryz.func138.trans (congrArg some (by kernel_rfl))
 f263:=Tryz.func136.trans (congrArg some (by kernel_rfl))
 f264:=Tryz.func137.trans (congrArg some (by kernel_rfl))
 f276:=Tryz.func131.trans (congrArg some (by kernel_rfl))
 f277:=Tryz.func148.trans (congrArg some (by kernel_rfl))
 t0:=Tryz.underlying0
 a0:=Tryz.isAgg0
 z0:=Tryz.sizeOf0
 v0:=Tryz.zeroValue0
 t3:=Tryz.underlying3
 a3:=Tryz.isAgg3
 z3:=Tryz.sizeOf3
 v3:=Tryz.zeroValue3
 t4:=Tryz.underlying4
 a4:=Tryz.isAgg4
 z4:=Tryz.sizeOf4
 v4:=Tryz.zeroValue4
 t5:=Tryz.underlying5
 a5:=Tryz.isAgg5
 z5:=Tryz.sizeOf5
 v5:=Tryz.zeroValue5
 t9:=Tryz.underlying9
 a9:=Tryz.isAgg9
 z9:=Tryz.sizeOf9
 v9:=Tryz.zeroValue9
 t20:=Tryz.underlying20
 a20:=Tryz.isAgg20
 z20:=Tryz.sizeOf20
 v20:=Tryz.zeroValue20
 t37:=Tryz.underlying100
 a37:=Tryz.isAgg100
 z37:=Tryz.sizeOf100
 v37:=Tryz.zeroValue100
 t46:=Tryz.underlying84
 a46:=Tryz.isAgg84
 z46:=Tryz.sizeOf84
 v46:=Tryz.zeroValue84
 t51:=Tryz.underlying117
 a51:=Tryz.isAgg117
 z51:=Tryz.sizeOf117
 v51:=Tryz.zeroValue117
 t53:=Tryz.underlying119
 a53:=Tryz.isAgg119
 z53:=Tryz.sizeOf119
 v53:=Tryz.zeroValue119
 t70:=Tryz.underlying99
 a70:=Tryz.isAgg99
 z70:=Tryz.sizeOf99
 v70:=Tryz.zeroValue99
 t72:=Tryz.underlying102
 a72:=Tryz.isAgg102
 z72:=Tryz.sizeOf102
 v72:=Tryz.zeroValue102
 t75:=Tryz.underlying26
 a75:=Tryz.isAgg26
 z75:=Tryz.sizeOf26
 v75:=Tryz.zeroValue26
 t76:=Tryz.underlying34
 a76:=Tryz.isAgg34
 z76:=Tryz.sizeOf34
 v76:=Tryz.zeroValue34
 t109:=Tryz.underlying153
 a109:=Tryz.isAgg153
 z109:=Tryz.sizeOf153
 v109:=Tryz.zeroValue153
 t127:=Tryz.underlying133
 a127:=Tryz.isAgg133
 z127:=Tryz.sizeOf133
 v127:=Tryz.zeroValue133
 t146:=Tryz.underlying134
 a146:=Tryz.isAgg134
 z146:=Tryz.sizeOf134
 v146:=Tryz.zeroValue134
 t148:=Tryz.underlying177
 a148:=Tryz.isAgg177
 z148:=Tryz.sizeOf177
 v148:=Tryz.zeroValue177
 t164:=Tryz.underlying167
 a164:=Tryz.isAgg167
 z164:=Tryz.sizeOf167
 v164:=Tryz.zeroValue167
theorem j4l:Builder.Extra Tryz.prog z17 where
 sizeBuilder:=by kernel_rfl
 liesBuilder:=by kernel_rfl
 t5:=Tryz.underlying5
 a5:=Tryz.isAgg5
 z5:=Tryz.sizeOf5
 v5:=Tryz.zeroValue5
 infoByte:=by kernel_rfl
 cellsByte:=by kernel_rfl
 sizeByte:=by kernel_rfl
 neB5:=by decide
theorem repeatL_one(c:UInt8):∀n,Lib.repeatL [c] n=List.replicate n c
 |0=>rfl
 |n+1=>by rw[Lib.repeatL,repeatL_one c n];rfl
theorem z7w(c:Nat)(hc:c≤100):q0y Tryz.prog 91 [.str [48],.int .i64 c] (fun r=>r=.one (.str (List.replicate c 48))):=by
 intro f w vs hI ht hsz hrd;have hv:vs = #[.string ⟨#[48]⟩,.int .i64 c]:=by
  have h1:=hrd 0 _ rfl;have h2:=hrd 1 _ rfl;match vs,hsz with
  |⟨[v,u]⟩,_=>cases h1;cases h2;rfl
 subst hv;refine(Any.strings_Repeat j53 j4l ⟨#[48]⟩ c w (by omega) (by show 1*c≤_;omega)).mono fun e w' ⟨he,hb⟩=>?_
 refine⟨_,_,f,rfl,he,?_,⟨hb.size,fun b hb0=>⟨hb.block b hb0,rfl⟩,fun b hb0=>ht b (by have:=hb.size;omega),hb.os,hb.tape,hb.output⟩⟩;show RRes f w' (.one (.str (List.replicate c 48))) (.string ⟨(Lib.repeatL [48] c).toArray⟩)
 rw[repeatL_one];exact .str _
def tenT(n:Nat):List UInt8:=List.replicate (10-(Lib.decDigits n).length) 48++Lib.decDigits n
theorem q2A{n:Nat}(h:n<10000000000):1≤(Lib.decDigits n).length∧(Lib.decDigits n).length≤10:=
 ⟨by have:=q6o n;exact List.length_pos_iff.2 this,q7j n 9 h⟩
theorem q7o{n:Nat}(h:n<10000000000):(tenT n).length=10:=by
 have:=q2A h;rw[tenT,Zad,List.length_replicate];omega
theorem j4A(n:Nat):∀c∈tenT n,dgt c:=fun c hc=>by
 rcases Zau.1 hc with h|h
 ·rw[(Zdc.1 h).2];exact⟨by decide,by decide⟩
 ·exact q4j n c h
theorem j4B(n:Nat):decV (tenT n) 0=n:=by rw[tenT,j0T,q8O]
theorem q3N(n:Nat)(h:n<10000000000):q0y Tryz.prog 24 [.int .i64 n] (fun r=>r=.one (.str (Lib.decDigits n))):=by
 have:=q6Y n (by omega) (by omega);rwa [show Lib.itoa (n:Int)=Lib.decDigits n by rw[Lib.itoa,if_neg (by omega),Zcn]]at this
def z2N:q0l:=
 .seq (.reg [Qx 2 (.k (.d (.str [])))]) (.seq (.reg [Qc 4 0,⟨some 5,.call 24 [.t 4],none⟩,Qa 3 5]) (.seq (.reg [Qc 6 3,Q 7 (.len true (.t 6)),Q 8 (.bin .sub (Ki 10) (.t 7)), 
 ⟨some 9,.call 91 [.k (.d (.str [48])),.t 8],none⟩,Qc 10 3,Q 11 (.bin .add (.t 9) (.t 10)),Qa 2 11]) .ret))
def z2Q:List LRes:=[.tmp 2]
theorem z4f:q0E Tryz.prog 55 12 z2N z2Q:=⟨_,_,Tryz.func55,rfl,by kernel_rfl,by kernel_rfl,rfl⟩
theorem j4C(n:Nat)(h:n<10000000000):q0y Tryz.prog 55 [.int .i64 n] (fun r=>r=.one (.str (tenT n))):=by
 have hl:=q2A h;have hr:=z7w (10-(Lib.decDigits n).length) (by omega);have e:((10-(Lib.decDigits n).length:Nat):Int)=10-((Lib.decDigits n).length:Int):=by omega
 rw[e]at hr;refine z4f.call rfl ?_;simp only[go_sem,↓reduceIte,z2N,z2Q];refine q0j.of (q3N n h) ?_;simp(disch:=omega)only[go_sem,↓reduceIte];refine q0j.of hr ?_;simp only[go_sem,↓reduceIte,tenT,List.length_replicate];omega
def nsA(l:List Nat):List AV:=l.map fun(n:Nat)=>.d (.int .i64 (n:Int))
theorem q24(l:List Nat):(nsA l).length=l.length:=by simp[nsA]
def rowN(l:List Nat)(c:Nat):List AV:=rowA (nsA l) c
theorem z8O{l:List Nat}{c:Nat}(h:l.length≤c):(rowN l c).length=c:=z0U (by rw[q24];exact h)
theorem q7n{l:List Nat}{c i v:Nat}(h:l[i]?=some v):(rowN l c)[i]?=some (.d (.int .i64 v)):=by
 have hi:=(Zaa.1 h).1;rw[rowN,rowA,Zal (by rw[q24];exact hi),nsA,Zam,h];rfl
theorem q9b(l:List Nat)(c:Nat):rowO (.cells (rowN l c))=true:=by
 simp only[rowO,rowN,rowA,nsA,List.all_append,List.all_map,Zah,Zbo,Function.comp];refine⟨fun x _=>trivial,fun x hx=>?_⟩;rw[(Zdc.1 hx).2]
def nsD(l:List Nat):List D:=l.map fun(n:Nat)=>.int .i64 (n:Int)
theorem z1X(l:List Nat):(nsD l).length=l.length:=by simp[nsD]
theorem j5S(l:List Nat)(j:Nat):(nsD l)[j]?=(l[j]?).map fun(n:Nat)=>D.int .i64 (n:Int):=by simp[nsD]
theorem j5R(l:List Nat):nsA l=(nsD l).map .d:=by simp[nsA,nsD]
theorem j10(l:List Nat):∀y∈nsD l,y.cells=[y]:=fun y hy=>by
 simp only[nsD,Zap]at hy;obtain⟨n,_,rfl⟩:=hy;rfl
theorem z8B(l:List Nat)(d:Nat):∀y∈nsA l,z1Y d y:=fun y hy=>by
 simp only[nsA,Zap]at hy;obtain⟨n,_,rfl⟩:=hy;exact⟨rfl,rfl,fun e he=>by cases he⟩
theorem z8l(n:Int)(d:Nat):z1Y d (.d (.int .i64 n)):=⟨rfl,rfl,fun e he=>by cases he⟩
theorem j2q(r:Ref)(l:List Nat)(c:Nat):(rowN l c).map (AV.drop r)=rowN l c:=by
 refine(Zct fun x hx=>?_).trans (List.map_id _);rcases Zau.1 hx with hx|hx
 ·simp only[nsA,Zap]at hx;obtain⟨n,_,rfl⟩:=hx;rfl
 ·rw[(Zdc.1 hx).2];rfl
theorem q9c(l:List Nat)(n c:Nat):rowA (nsA l++[.d (.int .i64 (n:Int))]) c=rowN (l++[n]) c:=by
 simp[rowN,nsA]
attribute [go_sem] j2q
attribute [go_sem] q9b
open Go.Proofs Go.Sort
theorem setRow{E:Entry}{n:Nat}{G:q0p}{σ:St}{ts:Array Value}{w:World}(h:SR E n G σ ts w){r:Ref}{cs cs':List AV}(hr:σ.obj r=some (.cells cs))(hsc:∀y∈cs',∀s,y.has (.l s)=false){w':World}(hs:w.heap.size≤w'.heap.size)(hb:∀b,b<w.heap.size→b≠G.b r→w'.heap[b]?=w.heap[b]?)
  (hos:w'.os=w.os) (htp:w'.tape=w.tape) (hout:w'.output=w.output) (ho':Ext G.f w G.f w'→ObjR G w' r (.cells cs')):SR E n G (σ.setObj r (.cells cs')) ts w':=by
 have hf:=h.objf r _ hr;have hext:Ext G.f w G.f w':=by
  refine⟨hs,fun _=>Zai _,fun b j hj=>?_,fun b es c h0 hm=>?_⟩
  ·have hne:b≠G.b r:=fun e=>by rw[e,hf]at hj;omega
   have hlt:b<w.heap.size:=by
    rcases Zbq b w.heap.size with h1|h1
    ·exact h1
    ·rw[h.top b h1]at hj;omega
   simp only[World.cell?,at_];rw[hb b hlt hne]
  ·rw[hb b (Zan.1 hm).1 (fun e=>by rw[e,hf]at h0;omega)];exact hm
 have obj:∀r' o1,(σ.setObj r (.cells cs')).obj r'=some o1→(r'=r∧o1=.cells cs')∨(r'≠r∧σ.obj r'=some o1):=fun r' o1 h1=>by
  rw[St.q1i]at h1;split at h1
  ·rename_i e;exact .inl ⟨e.symm,by simpa using h1.symm⟩
  ·rename_i e;exact .inr ⟨fun e'=>e e'.symm,h1⟩
 have dom:∀r' o1,(σ.setObj r (.cells cs')).obj r'=some o1→∃o2,σ.obj r'=some o2:=fun r' o1 h1=>by
  rcases obj r' o1 h1 with⟨rfl,_⟩|⟨_,h1⟩
  ·exact⟨_,hr⟩
  ·exact⟨_,h1⟩
 refine⟨h.size,fun t y hy=>?_,fun r' o1 ho=>?_,fun r' o1 ho=>?_,fun r1 r2 o1 o2 h1 h2=>?_,fun q v' e sz hq=>?_,fun q v' e sz b hq hb' r' o1 ho=>?_,h.lamInj,fun r' o1 ho=>?_,h.newLam,h.ext.trans hext,fun b hb0 hM=>?_,fun b hb0=>h.top b (by omega),h.ext0,fun k cs2 y s ho hy=>?_,
  hos.trans h.os,htp.trans h.tape,hout.trans h.output⟩
 ·have h2:aget σ.ρ t=some y:=by cases r<;>exact hy
  exact AVR.mono (G':=G) (h:=h.slot t y h2) hext (fun _ _=>rfl) (fun _ _ _ hp=>hp)
 ·rcases obj r' o1 ho with⟨rfl,rfl⟩|⟨hne,ho⟩
  ·exact ho' hext
  ·have hb1:G.b r'≠G.b r:=fun e=>hne (h.inj r' r _ _ ho hr e)
   exact(h.obj r' o1 ho).mono (G':=G) hext rfl (hb _ (h.obj r' o1 ho).lt hb1) (fun _ _ _ _ _ _=>rfl) (fun _ _ hp=>hp)
 ·obtain⟨o2,h2⟩:=dom r' o1 ho;exact h.objf r' o2 h2
 ·obtain⟨o3,h3⟩:=dom r1 o1 h1;obtain⟨o4,h4⟩:=dom r2 o2 h2;exact h.inj r1 r2 o3 o4 h3 h4
 ·exact(h.lam q v' e sz hq).mono fun b hb1=>⟨hb b ((h.lam q v' e sz hq).lt hb1) (fun e'=>h.lamObj q v' e sz b hq hb1 r _ hr e'.symm),rfl⟩
 ·obtain⟨o2,h2⟩:=dom r' o1 ho;exact h.lamObj q v' e sz b hq hb' r' o2 h2
 ·obtain⟨o2,h2⟩:=dom r' o1 ho;exact h.newObj r' o2 h2
 ·have hb':b≠G.b r:=fun e=>by
   rcases h.newObj r _ hr with h2|h2
   ·omega
   ·rw[e]at hM;exact hM h2
  exact⟨(hb b (Zcp hb0 h.ext.size) hb').trans (h.fr b hb0 hM).1,(h.fr b hb0 hM).2⟩
 ·rcases obj (.x k) _ ho with⟨e,h2⟩|⟨_,ho⟩
  ·cases h2;exact hsc y hy s
  ·exact h.own0 k cs2 y s ho hy
def srtN(l:List Nat):List Nat:=((l.map Int.ofNat).mergeSort fun x y=>decide (x≤y)).map Int.toNat
theorem q1R(l:List Nat):(srtN l).length=l.length:=by simp[srtN]
theorem z83(l:List Nat):((srtN l).map Int.ofNat)=(l.map Int.ofNat).mergeSort fun x y=>decide (x≤y):=by
 unfold srtN;rw[List.map_map];refine(Zct fun x hx=>?_).trans (List.map_id _);have:=(List.mergeSort_perm (l.map Int.ofNat) _).subset hx;obtain⟨n,_,rfl⟩:=Zap.1 this;rfl
theorem z6g{l:List Nat}{c i:Nat}{x:AV}(h:(rowN l c)[i]?=some x):(∃n,l[i]?=some n∧x=.d (.int .i64 (n:Int)))∨(l.length≤i∧i<c∧x=.junk):=by
 unfold rowN rowA at h
 by_cases hi:i<l.length
 ·left
  rw[Zal (by rw[q24];exact hi),nsA,Zam]at h;cases hl:l[i]? with
  |none=>rw[hl]at h;cases h
  |some n=>rw[hl]at h;cases h;exact⟨n,rfl,rfl⟩
 ·right
  rw[Zaj (by rw[q24];omega)]at h;obtain⟨h1,h2⟩:=Zaa.1 h;rw[q24]at h1;simp only[List.length_replicate]at h1;rw[List.getElem_replicate]at h2;exact⟨by omega,by omega,h2.symm⟩
theorem z97{P:Program}[Inv P]{fn:FuncId}(hc:q3L P fn=true)
  (hk:∀(blk off cap:Nat) (zs:List Int) (w:World),Holds (Value.int .i64) w blk off zs.toArray→blk<w.heap.size→zs.length<4611686018427387904→
   Calls P fn #[.slice (some ⟨blk,off,none⟩) zs.length cap] w fun e w'=>e=.returned (.tuple #[])∧∃n os,w'=grow (putRow (Value.int .i64) (Sort.ahead w n) blk off (zs.mergeSort fun x y=>decide (x≤y)).toArray) os)
  (l:List Nat) (c:Nat) (hl:l.length≤1000000000) (hlc:l.length≤c):
  q1c P fn [.rs (.x 0) l.length c] [.cells (rowN l c)] (.tuple []) [.cells (rowN (srtN l) c)]:=by
 refine⟨hc,fun G w vs hI hown h=>?_⟩;have hsz:vs.size=1:=h.size;have h0:=h.slot 0 (.rs (.x 0) l.length c) rfl;obtain⟨arr,el,hb,ha,hcell⟩:=h.obj (.x 0) (.cells (rowN l c)) rfl;have hvs:vs = #[.slice (some (at_ (G.b (.x 0)) 0)) l.length c]:=by
  match vs,hsz with
  |⟨[v]⟩,_=>
   have h0:AVR G w (.rs (.x 0) l.length c) v:=h0;cases h0;rfl
 rw[z8O hlc]at ha;have hb0:G.b (.x 0)<w.heap.size:=(Zan.1 hb).1;have hat:∀(j n:Nat),l[j]?=some n→arr[j]?=some (Value.int .i64 (n:Int)):=fun j n hj=>by
  obtain⟨q1,_⟩:=hcell j _ (q7n hj);have hjl:=(Zaa.1 hj).1;have e:arr[j]?=some (arr.getD j undef):=by rw[Zaz,Zci (by omega)];rfl
  rw[e];generalize arr.getD j undef=v at q1;cases q1 with
  |d _ _ q=>cases q;rfl
 have hH:Holds (Value.int .i64) w (G.b (.x 0)) 0 (l.map Int.ofNat).toArray:=fun j hj=>by
  have hjl:j<l.length:=by simpa using hj
  refine⟨?_,by simp[World.frozen?,hb]⟩;have:=hat j l[j] (by rw[Zak hjl]);simp only[World.cell?,hb,Zbh];simpa[hjl]using this
 have hcall:=hk (G.b (.x 0)) 0 c (l.map Int.ofNat) w hH hb0 (by simp;omega);rw[Zbd]at hcall;rw[hvs];refine hcall.mono fun e w' ⟨he,m,os,hw⟩=>⟨.tuple [],_,G,.tuple #[],⟨rfl,rfl⟩,he,rfl,?_⟩
 rw[←z83]at hw;subst hw;have hheap:=heap_sortedI (n:=m) (os:=os) ((srtN l).map Int.ofNat).toArray hb;have h1:=setRow h (r:=.x 0) (cs:=rowN l c) (cs':=rowN (srtN l) c) rfl (fun y hy s=>by
   obtain⟨i,hi⟩:=Zbl hy;rcases z6g hi with⟨n,_,rfl⟩|⟨_,_,rfl⟩<;>rfl)
  (w':=grow (putRow (Value.int .i64) (Sort.ahead w m) (G.b (.x 0)) 0 ((srtN l).map Int.ofNat).toArray) os)
  (by simp[grow,putRow,mapBlock,Sort.ahead])
  (fun b hb1 hne=>by
   rw[heap_grow_old _ _ (by simpa[putRow,mapBlock,Sort.ahead]using hb1)];simp[putRow,mapBlock,Sort.ahead,Zdd,Ne.symm hne])
  rfl rfl rfl (fun hx=>⟨_,el,hheap,by simp[putCells,ha,z8O (show(srtN l).length≤c by rw[q1R];exact hlc)],fun i x hi=>by
   rcases z6g hi with⟨n,hn,rfl⟩|⟨h2,h3,rfl⟩
   ·have hil:=(Zaa.1 hn).1;rw[q1R]at hil;have e:(putCells (Value.int .i64) 0 ((srtN l).map Int.ofNat).toArray arr).getD i undef=Value.int .i64 (n:Int):=by
     rw[Zaz];have hn2:=(Zaa.1 hn).2;simp[putCells,show i<arr.size by omega,q1R,hil,hn2]
    rw[e];exact⟨.d _ _ (.int _ _),rfl,fun q hq=>(by cases hq),fun e he=>(by cases he)⟩
   ·have e:(putCells (Value.int .i64) 0 ((srtN l).map Int.ofNat).toArray arr).getD i undef=arr.getD i undef:=by
     rw[Zaz,Zaz];rw[q1R]at h2;simp[putCells,show i<arr.size by omega,q1R,show ¬i<l.length by omega]
    rw[e];rw[q1R]at h2;have hj:(rowN l c)[i]?=some .junk:=by
     rw[rowN,rowA,Zaj (by rw[q24];exact h2),List.getElem?_replicate,if_pos (by rw[q24];omega)]
    exact⟨.junk _,(hcell i _ hj).2.1,fun q hq=>(by cases hq),fun e he=>(by cases he)⟩⟩)
 exact{ h1 with
  size:=rfl
  slot:=fun s x hx=>by
   cases s with
   |zero=>cases hx;exact .tuple [] #[] rfl (fun _ h=>by cases h) fun i x hi=>by simp at hi
   |succ s=>simp[aget]at hx }
def z6n:Go.Shelf.Ren:=⟨fun|5=>21|8=>38|7=>37|19=>68|20=>69|10=>59|11=>60|12=>61|13=>62|14=>63|15=>64|16=>65|17=>66|18=>67|30=>93|31=>94|32=>95|33=>96|34=>97|35=>98|40=>120|n=>n,fun|23=>32|25=>3|3=>3|32=>84|22=>32|0=>0|44=>117|46=>119|4=>4|36=>110|35=>109|41=>66|5=>5|9=>9|53=>136|57=>128|63=>157|64=>147|n=>n,fun|n=>n⟩
theorem z82:Go.Proofs.SlLaysM.n5 Tryz.prog z6n where
 mixed:=by kernel_rfl
 f5 := ⟨"slices.Sort[[]int,int]", by decide, Tryz.func21.trans (congrArg some (by kernel_rfl))⟩
 f7 := ⟨"slices.pdqsortOrdered[int]", by decide, Tryz.func37.trans (congrArg some (by kernel_rfl))⟩
 f8:=Tryz.func38.trans (congrArg some (by kernel_rfl))
 f10 := ⟨"slices.insertionSortOrdered[int]", by decide, Tryz.func59.trans (congrArg some (by kernel_rfl))⟩
 f11 := ⟨"slices.heapSortOrdered[int]", by decide, Tryz.func60.trans (congrArg some (by kernel_rfl))⟩
 f12 := ⟨"slices.breakPatternsOrdered[int]", by decide, Tryz.func61.trans (congrArg some (by kernel_rfl))⟩
 f13 := ⟨"slices.choosePivotOrdered[int]", by decide, Tryz.func62.trans (congrArg some (by kernel_rfl))⟩
 f14 := ⟨"slices.reverseRangeOrdered[int]", by decide, Tryz.func63.trans (congrArg some (by kernel_rfl))⟩
 f15 := ⟨"slices.partialInsertionSortOrdered[int]", by decide, Tryz.func64.trans (congrArg some (by kernel_rfl))⟩
 f16 := ⟨"cmp.Less[int]", by decide, Tryz.func65.trans (congrArg some (by kernel_rfl))⟩
 f17 := ⟨"slices.partitionEqualOrdered[int]", by decide, Tryz.func66.trans (congrArg some (by kernel_rfl))⟩
 f18 := ⟨"slices.partitionOrdered[int]", by decide, Tryz.func67.trans (congrArg some (by kernel_rfl))⟩
 f19:=Tryz.func68.trans (congrArg some (by kernel_rfl))
 f20:=Tryz.func69.trans (congrArg some (by kernel_rfl))
 f30 := ⟨"slices.siftDownOrdered[int]", by decide, Tryz.func93.trans (congrArg some (by kernel_rfl))⟩
 f31:=Tryz.func94.trans (congrArg some (by kernel_rfl))
 f32:=Tryz.func95.trans (congrArg some (by kernel_rfl))
 f33 := ⟨"slices.medianAdjacentOrdered[int]", by decide, Tryz.func96.trans (congrArg some (by kernel_rfl))⟩
 f34 := ⟨"slices.medianOrdered[int]", by decide, Tryz.func97.trans (congrArg some (by kernel_rfl))⟩
 f35 := ⟨"cmp.isNaN[int]", by decide, Tryz.func98.trans (congrArg some (by kernel_rfl))⟩
 f40 := ⟨"slices.order2Ordered[int]", by decide, Tryz.func120.trans (congrArg some (by kernel_rfl))⟩
 t0:=Tryz.underlying0
 a0:=Tryz.isAgg0
 z0:=Tryz.sizeOf0
 v0:=Tryz.zeroValue0
 t3:=Tryz.underlying3
 a3:=Tryz.isAgg3
 z3:=Tryz.sizeOf3
 v3:=Tryz.zeroValue3
 t4:=Tryz.underlying4
 a4:=Tryz.isAgg4
 z4:=Tryz.sizeOf4
 v4:=Tryz.zeroValue4
 t5:=Tryz.underlying5
 a5:=Tryz.isAgg5
 z5:=Tryz.sizeOf5
 v5:=Tryz.zeroValue5
 t9:=Tryz.underlying9
 a9:=Tryz.isAgg9
 z9:=Tryz.sizeOf9
 v9:=Tryz.zeroValue9
 t22:=Tryz.underlying32
 a22:=Tryz.isAgg32
 z22:=Tryz.sizeOf32
 v22:=Tryz.zeroValue32
 t23:=Tryz.underlying32
 a23:=Tryz.isAgg32
 z23:=Tryz.sizeOf32
 v23:=Tryz.zeroValue32
 t25:=Tryz.underlying3
 a25:=Tryz.isAgg3
 z25:=Tryz.sizeOf3
 v25:=Tryz.zeroValue3
 t32:=Tryz.underlying84
 a32:=Tryz.isAgg84
 z32:=Tryz.sizeOf84
 v32:=Tryz.zeroValue84
 t35:=Tryz.underlying109
 a35:=Tryz.isAgg109
 z35:=Tryz.sizeOf109
 v35:=Tryz.zeroValue109
 t36:=Tryz.underlying110
 a36:=Tryz.isAgg110
 z36:=Tryz.sizeOf110
 v36:=Tryz.zeroValue110
 t41:=Tryz.underlying66
 a41:=Tryz.isAgg66
 z41:=Tryz.sizeOf66
 v41:=Tryz.zeroValue66
 t44:=Tryz.underlying117
 a44:=Tryz.isAgg117
 z44:=Tryz.sizeOf117
 v44:=Tryz.zeroValue117
 t46:=Tryz.underlying119
 a46:=Tryz.isAgg119
 z46:=Tryz.sizeOf119
 v46:=Tryz.zeroValue119
 t53:=Tryz.underlying136
 a53:=Tryz.isAgg136
 z53:=Tryz.sizeOf136
 v53:=Tryz.zeroValue136
 t57:=Tryz.underlying128
 a57:=Tryz.isAgg128
 z57:=Tryz.sizeOf128
 v57:=Tryz.zeroValue128
 t63:=Tryz.underlying157
 a63:=Tryz.isAgg157
 z63:=Tryz.sizeOf157
 v63:=Tryz.zeroValue157
 t64:=Tryz.underlying147
 a64:=Tryz.isAgg147
 z64:=Tryz.sizeOf147
 v64:=Tryz.zeroValue147
theorem z6o(l:List Nat)(c:Nat)(hl:l.length≤1000000000)(hlc:l.length≤c):
  q1c Tryz.prog 21 [.rs (.x 0) l.length c] [.cells (rowN l c)] (.tuple []) [.cells (rowN (srtN l) c)]:=
 z97 (by kernel_rfl) (fun blk off cap zs w h1 h2 h3=>AnyM.slices_Sort_int z82 blk off cap zs w h1 h2 h3) l c hl hlc
theorem q9n:q1c Tryz.prog 21 [.ns] [] (.tuple []) []:=by
 refine⟨by kernel_rfl,fun G w vs hI hown h=>?_⟩;have hsz:vs.size=1:=h.size;have h0:=h.slot 0 .ns rfl;have hvs:vs = #[.slice none 0 0]:=by
  match vs,hsz with
  |⟨[v]⟩,_=>
   have h0:AVR G w .ns v:=h0;cases h0;rfl
 rw[hvs];refine(AnyM.slices_Sort_int_none z82 none 0 w).mono fun e w' ⟨he,hw⟩=>⟨.tuple [],[],G,.tuple #[],⟨rfl,rfl⟩,he,rfl,?_⟩
 subst hw;exact{ h with
  size:=rfl
  slot:=fun s x hx=>by
   cases s with
   |zero=>cases hx;exact .tuple [] #[] rfl (fun _ h=>by cases h) fun i x hi=>by simp at hi
   |succ s=>simp[aget]at hx }
def rise(l:List Nat):Prop:=l.Pairwise (·<·)
theorem z6f:∀{l m:List Nat},rise l→rise m→l.Perm m→l=m
 |[],m,_,_,h=>(List.nil_perm.1 h).symm
 |x::l,[],_,_,h=>by have:=h.length_eq;simp at this
 |x::l,y::m,hl,hm,h=>by
  have h1:=Zcv.1 hl;have h2:=Zcv.1 hm;have hx:x∈y::m:=h.subset (by simp);have hy:y∈x::l:=h.symm.subset (by simp);have e:x=y:=by
   rcases Zar.1 hx with e|hx
   ·exact e
   ·rcases Zar.1 hy with e|hy
    ·exact e.symm
    ·have:=h1.1 y hy;have:=h2.1 x hx;omega
  subst e;rw[z6f h1.2 h2.2 (List.Perm.cons_inv h)]
theorem q1S(l:List Nat):(srtN l).Perm l:=by
 have h1:(srtN l).Perm ((l.map Int.ofNat).map Int.toNat):=(List.mergeSort_perm (l.map Int.ofNat) _).map Int.toNat;rw[List.map_map]at h1;have e:l.map (Int.toNat∘Int.ofNat)=l:=(Zct fun x _=>rfl).trans (List.map_id l);rwa [e]at h1
theorem z2j{l:List Nat}(hn:l.Nodup):rise (srtN l):=by
 have h1:((l.map Int.ofNat).mergeSort fun x y=>decide (x≤y)).Pairwise fun x y=>decide (x≤y)=true:=
  List.pairwise_mergeSort (fun a b c h1 h2=>by simp only[decide_eq_true_eq]at *;omega) (fun a b=>by simp only[Zca,decide_eq_true_eq];omega) _
 rw[←z83,List.pairwise_map]at h1;have h2:(srtN l).Nodup:=(q1S l).nodup_iff.2 hn;refine(h1.and h2).imp fun{a b} h=>?_
 obtain⟨h3,h4⟩:=h;have h3:=of_decide_eq_true h3;have:a≤b:=by simpa using h3
 omega
theorem j2F{l m:List Nat}(h:l.Perm m)(hn:m.Nodup):srtN l=srtN m:=
 z6f (z2j (h.nodup_iff.2 hn)) (z2j hn) ((q1S l).trans (h.trans (q1S m).symm))
/-! ### Where objects stand -/
def ksN(ps:List (Nat×Nat)):List D:=ps.map fun p=>.int .i64 (p.1:Int)
def vsN(ps:List (Nat×Nat)):List D:=ps.map fun p=>.int .i64 (p.2:Int)
def mapN(ps:List (Nat×Nat)):D:=.map (ksN ps) (vsN ps)
def prN(ps:List (Nat×Nat)):List (D×D):=ps.map fun p=>(.int .i64 (p.1:Int),.int .i64 (p.2:Int))
theorem j20(ps:List (Nat×Nat)):(ksN ps).zip (vsN ps)=prN ps:=by
 induction ps with
 |nil=>rfl
 |cons p r ih=>simp only[ksN,vsN,prN,Zbf,List.zip_cons_cons]at ih ⊢;rw[ih]
theorem j2c{ps:List (Nat×Nat)}{i:Nat}{k v:D}(h:(prN ps)[i]?=some (k,v)):∃p,ps[i]?=some p∧k=.int .i64 (p.1:Int)∧v=.int .i64 (p.2:Int):=by
 rw[prN,Zam]at h;cases hx:ps[i]? with
 |none=>rw[hx]at h;cases h
 |some p=>rw[hx]at h;cases h;exact⟨p,rfl,rfl,rfl⟩
theorem z11:∀(ps:List (Nat×Nat)) (i:Nat),(prN ps).eraseIdx i=prN (ps.eraseIdx i)
 |[],i=>rfl
 |p::r,0=>rfl
 |p::r,i+1=>by
  have:=z11 r i;simp only[prN,Zbf,Zdb]at this ⊢;rw[this]
def lkN:List (Nat×Nat)→Nat→Option Nat
 |[],_=>none
 |p::r,n=>if n=p.1 then some p.2 else lkN r n
theorem z1S(n:Nat):∀ps:List (Nat×Nat),q84 (ksN ps) (vsN ps) (.int .i64 (n:Int))=(lkN ps n).map fun(v:Nat)=>D.int .i64 (v:Int)
 |[]=>rfl
 |p::r=>by
  have ih:=z1S n r;simp only[ksN,vsN,Zbf,q84,j3L,lkN,beq_iff_eq]at ih ⊢
  by_cases h:n=p.1
  ·rw[if_pos (by omega),if_pos h];rfl
  ·rw[if_neg (by omega),if_neg h,ih]
theorem z1Q{n v:Nat}:∀{ps:List (Nat×Nat)},lkN ps n=some v→(n,v)∈ps
 |[],h=>by cases h
 |p::r,h=>by
  rw[lkN]at h;split at h
  ·rename_i e;cases h;rw[e];simp
  ·exact List.mem_cons_of_mem _ (z1Q h)
theorem q59{n:Nat}:∀{ps:List (Nat×Nat)},n∈ps.map Prod.fst→∃v,lkN ps n=some v
 |[],h=>by cases h
 |p::r,h=>by
  rw[lkN];split
  ·exact⟨_,rfl⟩
  ·rename_i e;rw[Zbf]at h;rcases Zar.1 h with h|h
   ·exact absurd h e
   ·exact q59 h
theorem z1R:Tryz.prog.underlying 54=some (.map 3 3):=by kernel_rfl
theorem z9D:Tryz.prog.underlying 3=some (.int .i64):=by kernel_rfl
theorem z3X:q92 Tryz.prog 3=true:=by kernel_rfl
theorem q7f(ps:List (Nat×Nat)):∀k∈ksN ps,q2B (.int .i64) k=true:=fun k hk=>by
 obtain⟨p,_,rfl⟩:=Zap.1 hk;rfl
/-! ### The table's text -/
def runN:Nat→List Nat→Nat
 |_,[]=>0
 |p,x::r=>if x=p+1 then runN x r+1 else 0
theorem z7z:∀(p:Nat) (l:List Nat),runN p l≤l.length
 |_,[]=>Zai _
 |p,x::r=>by
  rw[runN];split
  ·have:=z7z x r;simp only[Zaf];omega
  ·omega
def secT(f:Nat→List UInt8)(l:List Nat):List UInt8:=
 match l with
 |[]=>[]
 |x::r=>Lib.decDigits x++[32]++Lib.decDigits (runN x r+1)++[10]++((x::r).take (runN x r+1)).flatMap f++secT f (r.drop (runN x r))
termination_by l.length
decreasing_by simp;omega
def entT(ps:List (Nat×Nat))(n:Nat):List UInt8:=linT (tenT ((lkN ps n).getD 0))
def xrT:List UInt8:=[120,114,101,102,10]
def tabT(ps:List (Nat×Nat)):List UInt8:=xrT++secT (entT ps) (srtN (ps.map Prod.fst))
theorem j2s:∀(r:List Nat) (x j:Nat),j≤r.length→(∀m y z,m<j→(x::r)[m]?=some y→(x::r)[m+1]?=some z→z=y+1)→(∀y z,(x::r)[j]?=some y→(x::r)[j+1]?=some z→z≠y+1)→runN x r=j
 |[],x,j,hj,_,_=>by simp at hj;subst hj;rfl
 |a::r,x,0,_,_,h2=>by
  rw[runN,if_neg (h2 x a rfl rfl)]
 |a::r,x,j+1,hj,h1,h2=>by
  rw[runN,if_pos (h1 0 x a (by omega) rfl rfl),j2s r a j (by simpa using hj) (fun m y z hm hy hz=>h1 (m+1) y z (by omega) hy hz) (fun y z hy hz=>h2 y z hy hz)]
theorem q9O:∀{l:List Nat} {i x:Nat},l[i]?=some x→(x::l.eraseIdx i).Perm l
 |[],_,_,h=>by simp at h
 |a::l,0,x,h=>by cases h;exact .refl _
 |a::l,i+1,x,h=>by
  rw[Zdb];exact(List.Perm.swap a x _).trans ((q9O (l:=l) (i:=i) (by simpa using h)).cons a)
theorem z1m{α β:Type}(f:α→β):∀(l:List α) (i:Nat),(l.eraseIdx i).map f=(l.map f).eraseIdx i
 |[],i=>rfl
 |a::l,0=>rfl
 |a::l,i+1=>by rw[Zdb,Zbf,Zbf,Zdb,z1m f l i]
def rwS(r:Nat):List Nat→Nat→AV
 |[],_=>.ns
 |_::l,c=>.rs (.l r) (l.length+1) c
def rwL(r:Nat):List Nat→Nat→List (Nat×AObj)
 |[],_=>[]
 |x::l,c=>[(r,.cells (rowN (x::l) c))]
theorem q40.mc1r{P:Program}[Inv P]{σ:St}{dst:Option Nat}{g:Nat}{args:List LX}{K:St→Prop}{xs:List AV}{h0 k0:AObj}{ret:AV}(r0:Ref)(hc:q1c P g xs [h0] ret [k0])(hx:q5A [] 0 (evL σ args)=renL [r0] xs)(hwx:wfAL [] 1 0 xs=true)
  (o0:σ.obj r0=some h0) (d:rowO h0=true∧rowO k0=true) (hret:q9V 1 ret=true) (hK:K (retO ((σ.z9a [r0]).setObj r0 k0) dst [r0] ret)):q40 P dst g args K σ:=by
 refine q40.q0G [r0] [] hc hx hwx ⟨by rw[z4A d.1];exact o0,trivial⟩ (by simp[wfO,j2r d.1]) rfl rfl fun r hs' hp _=>?_
 obtain⟨rfl,rfl⟩:=hp;have e:q4i (q0x σ (q2K [])) [r0] [k0]=(σ.z9a [r0]).setObj r0 k0:=by
  simp[q4i,q3U,q2K,q0x,z4A d.2,St.z9a]
 rw[e];exact⟨⟨hret,by simp[q4J,j2r d.2,z4A d.2,z92 d.2]⟩,hK⟩
theorem q40.mc0{P:Program}[Inv P]{σ:St}{dst:Option Nat}{g:Nat}{args:List LX}{K:St→Prop}{xs:List AV}{ret:AV}(hc:q1c P g xs [] ret [])(hx:q5A [] 0 (evL σ args)=renL [] xs)(hwx:wfAL [] 0 0 xs=true)
  (hret:q9V 0 ret=true) (hK:K (retO (q4i (q0x σ (q2K [])) [] []) dst [] ret)):q40 P dst g args K σ:=by
 refine q40.q0G [] [] hc hx hwx trivial rfl rfl rfl fun r hs' hp _=>?_
 obtain⟨rfl,rfl⟩:=hp;exact⟨⟨hret,rfl⟩,hK⟩
theorem q30{α:Type}{l:List α}{i:Nat}{x:α}(h:l[i]?=some x):l.drop i=x::l.drop (i+1):=by
 obtain⟨h1,rfl⟩:=Zaa.1 h;exact Zcw h1
def q96:q0l:=
 .seq (.reg [Qx 2 (.k (.d (.str [])))]) (.seq (.alt [([],⟨some 3,.nils 3 1,none⟩)] []) (.seq (.seq (.reg [Qc 8 0,⟨some 9,.prim (.range 54) [.t 8] [],none⟩]) (.block 0 (.loop 
 (.seq (.reg [⟨some 10,.prim (.next false 0) [.t 9] [],none⟩,Q 11 (.ext 0 (.t 10))]) (.seq (.cond (.t 11) .skip (.exit 0)) (.block 1 (.seq (.reg [⟨some 12,.prim .entry [.t 9] 
 [],none⟩,Q 13 (.ext 0 (.t 12)),Qa 4 13]) (.alt [([Qc 14 3,Qc 15 4,⟨some 16,.bsl 3 1 [.t 15],none⟩],⟨some 17,.app 3 1 8 false (.t 14) (.t 16),none⟩)] [Qa 3 17])))))))) 
 (.seq (.reg [Qc 18 3,⟨some 19,.call 21 [.t 18],none⟩]) (.seq (.reg [Qx 5 (.k (.d (.str [120,114,101,102,10])))]) (.seq (.seq (.reg [Qx 6 (Ki 0)]) (.block 2 (.loop (.seq 
 (.seq (.reg [Qc 20 6,Qc 21 3,Q 22 (.len false (.t 21)),Q 23 (.bin .lss (.t 20) (.t 22))]) (.cond (.t 23) .skip (.exit 2))) (.block 3 (.seq (.reg [Qc 24 6,Q 25 (.bin .add (.t 
 24) (Ki 1)),Qa 7 25]) (.seq (.block 4 (.loop (.seq (.seq (.dreg [Qc 26 7,Qc 27 3,Q 28 (.len false (.t 27)),Q 29 (.bin .lss (.t 26) (.t 28)),Qc 30 29,Qd 31 3 30 true,Qd 32 
 7 30 true,Qg 33 (.ia 1 (.t 31) (.t 32)) 30 true,Qg 34 (.ld false 1 (.t 33)) 30 true,Qd 35 3 30 true,Qd 36 7 30 true,Qg 37 (.bin .sub (.t 36) (Ki 1)) 30 true,Qg 38 (.ia 1 
 (.t 35) (.t 37)) 30 true,Qg 39 (.ld false 1 (.t 38)) 30 true,Qg 40 (.bin .add (.t 39) (Ki 1)) 30 true,Qg 41 (.bin .eql (.t 34) (.t 40)) 30 true,Q 42 (.pick (.t 30) (.t 41) 
 KF)]) (.cond (.t 42) .skip (.exit 4))) (.block 5 (.reg [Qc 43 7,Q 44 (.bin .add (.t 43) (Ki 1)),Qa 7 44]))))) (.seq (.reg [Qc 45 5,Qc 46 3,Qc 47 6,Q 48 (.ia 1 (.t 46) (.t 
 47)),Q 49 (.ld false 1 (.t 48)),⟨some 50,.call 24 [.t 49],none⟩,Q 51 (.bin .add (.t 50) (.k (.d (.str [32])))),Qc 52 7,Qc 53 6,Q 54 (.bin .sub (.t 52) (.t 53)),⟨some 55, 
 .call 24 [.t 54],none⟩,Q 56 (.bin .add (.t 51) (.t 55)),Q 57 (.bin .add (.t 56) (.k (.d (.str [10])))),Q 58 (.bin .add (.t 45) (.t 57)),Qa 5 58]) (.block 6 (.loop (.seq 
 (.seq (.reg [Qc 59 6,Qc 60 7,Q 61 (.bin .lss (.t 59) (.t 60))]) (.cond (.t 61) .skip (.exit 6))) (.seq (.block 7 (.reg [Qc 64 5,Qc 65 0,Qc 66 3,Qc 67 6,Q 68 (.ia 1 (.t 66) 
 (.t 67)),Q 69 (.ld false 1 (.t 68)),⟨some 70,.prim (.lookup 54 false) [.t 65,.t 69] [],none⟩,⟨some 71,.call 55 [.t 70],none⟩,Q 72 (.bin .add (.t 71) (.k (.d (.str [32, 
 48,48,48,48,48,32,110,32,10])))),Q 73 (.bin .add (.t 64) (.t 72)),Qa 5 73])) (.reg [Qc 62 6,Q 63 (.bin .add (.t 62) (Ki 1)),Qa 6 63]))))))))))))) (.seq (.reg [Qc 74 
 5,Qa 2 74]) .ret))))))
def z0f:List LRes:=[.tmp 2]
theorem z1I:q0E Tryz.prog 31 75 q96 z0f:=⟨_,_,Tryz.func31,rfl,by kernel_rfl,by kernel_rfl,rfl⟩
theorem j2L(ps:List (Nat×Nat))(hn:(ps.map Prod.fst).Nodup)(hl:ps.length≤1000)(hp:∀p∈ps,p.1<10000000000∧p.2<10000000000):
  q0y Tryz.prog 31 [mapN ps] (fun r=>r=.one (.str (tabT ps))):=by
 refine z1I.call rfl ?_;simp only[go_sem,↓reduceIte,q96,z0f];refine q14.nils ?_;simp only[go_sem,↓reduceIte,mapN];refine q0b.rangeMap rfl z1R ?_;rw[j20];simp only[go_sem,↓reduceIte];refine q0n (fun y:List Nat×Nat×List (Nat×Nat)×List (D×D)=>⟨[(0,.d (mapN ps)),(3,rwS 17 y.1 y.2.1),(9,.ptr (.l 9) 0)],(9,.miter (prN y.2.2.1) y.2.2.2)::rwL 17 y.1 y.2.1,[]⟩)
  (fun y=>(y.1++y.2.2.1.map Prod.fst).Perm (ps.map Prod.fst)∧(y.1=[]∨y.1.length≤y.2.1∧y.2.1≤maxLen)) (fun y=>y.2.2.1.length) ([],0,ps,[]) ?_ ⟨List.Perm.refl _,.inl rfl⟩ ?_
 ·refine Weak.mk ?_ ?_ ?_<;>simp only[go_sem,↓reduceIte,Sub,Zab,Zac,rwS,rwL,mapN]
 ·rintro⟨V,c,lp,cur⟩ ⟨hP,hc⟩;simp only at hP hc;have hVl:V.length≤1000:=by have:=hP.length_eq;simp at this;omega
  simp only[go_sem,↓reduceIte];refine q0b.j1W rfl rfl (fun h0=>?_) (fun q k v hik=>?_)
  ·have hlp:lp=[]:=by cases lp with|nil=>rfl|cons a r=>cases h0
   subst hlp;rw[Zce,Zco]at hP;have hsrt:=j2F hP hn;cases hO:V with
   |nil=>
    have hs:rwS 17 ([]:List Nat) c=.ns:=rfl;have hb:rwL 17 ([]:List Nat) c=[]:=rfl;have hps:ps=[]:=by
     have:=hP.length_eq;rw[hO]at this;exact Zbi (by simpa using this.symm)
    simp(disch:=omega)only[go_sem,↓reduceIte,hs,hb];refine q0j.z9i (q40.mc0 q9n rfl rfl rfl ?_);simp only[go_sem,↓reduceIte];refine q2L ?_;simp only[go_sem,↓reduceIte];have e:tabT ps=[120,114,101,102,10]:=by
     rw[hps,tabT];have:srtN (([]:List (Nat×Nat)).map Prod.fst)=[]:=Zbi (by rw[q1R];rfl);rw[this,secT,Zco];rfl
    rw[e]
   |cons x r=>
    rw[←hO];have hs:rwS 17 V c=.rs (.l 17) V.length c:=by rw[hO];rfl
    have hb:rwL 17 V c=[(17,.cells (rowN V c))]:=by rw[hO];rfl
    have hc':=hc.resolve_left (by rw[hO];simp);simp(disch:=omega)only[go_sem,↓reduceIte,hs,hb];refine q0j.z9i (q40.mc1r (.l 17) (z6o V c (by omega) hc'.1) rfl rfl rfl ⟨q9b _ _,q9b _ _⟩ rfl ?_);rw[hsrt];have hkl:(srtN (ps.map Prod.fst)).length=V.length:=by rw[←hsrt,q1R]
    have hkm:∀k∈srtN (ps.map Prod.fst),k<10000000000∧∃v,lkN ps k=some v∧v<10000000000:=fun k hk=>by
     have h1:=(q1S _).subset hk;obtain⟨v,hv⟩:=q59 h1;obtain⟨p,hp1,rfl⟩:=Zap.1 h1;exact⟨(hp p hp1).1,v,hv,(hp _ (z1Q hv)).2⟩
    unfold tabT;generalize srtN (ps.map Prod.fst)=K at *;rw[←hkl]at hc' hVl ⊢;clear hs hb hO hP hsrt hkl;generalize hN:K.length=N at *;simp only[go_sem,↓reduceIte];generalize hR:xrT++secT (entT ps) K=R;refine q0n (fun y:Nat×List UInt8=>⟨[(0,.d (mapN ps)),(3,.rs (.l 17) N c),(5,.d (.str y.2)),(6,.d (.int .i64 y.1))],[(17,.cells (rowN K c))],[]⟩)
     (fun y=>y.1≤N∧y.2.length≤10+50*y.1∧y.2++secT (entT ps) (K.drop y.1)=R) (fun y=>N-y.1) (0,xrT) ?_ ⟨Zbb _,by decide,hR⟩ ?_
    ·refine Weak.mk ?_ ?_ ?_<;>simp only[go_sem,↓reduceIte,Sub,Zab,Zac,xrT,mapN]
    ·rintro⟨i,s⟩ ⟨g1,g2,g3⟩;simp only at g1 g2 g3;simp only[go_sem,↓reduceIte];refine⟨fun q1=>?_,fun q1=>?_⟩
     ·have hi:i<N:=by omega
      obtain⟨x,hx⟩:=get_some (l:=K) (i:=i) (by omega);have hxm:=hkm x (Zae hx);refine q0n (fun j:Nat=>⟨[(0,.d (mapN ps)),(3,.rs (.l 17) N c),(5,.d (.str s)),(6,.d (.int .i64 i)),(7,.d (.int .i64 j))],[(17,.cells (rowN K c))],[]⟩)
       (fun j=>i+1≤j∧j≤N∧∀m y z,i≤m→m+1<j→K[m]?=some y→K[m+1]?=some z→z=y+1) (fun j=>N-j) (i+1) ?_ ⟨Zai _,by omega,fun m y z h1 h2=>absurd h2 (by omega)⟩ ?_
      ·have w1:IntKind.i64.wrap ((i:Int)+1)=(i:Int)+1:=IntWalk.i64_in _ (by omega);refine Weak.mk ?_ ?_ ?_<;>simp only[go_sem,↓reduceIte,Sub,Zab,Zac,mapN,w1]
      ·rintro j ⟨j1,j2,j3⟩;have e1:((j:Int)-1)=((j-1:Nat):Int):=by omega
       have e2:((j:Int)-(i:Int))=((j-i:Nat):Int):=by omega
       obtain⟨y,hy⟩:=get_some (l:=K) (i:=j-1) (by omega);have l2:(rowN K c)[(((j-1:Nat):Int)).toNat * 1]?=some (.d (.int .i64 (y:Nat))):=by
        rw[show(((j-1:Nat):Int)).toNat * 1=j-1 by omega];exact q7n hy
       have l0:(rowN K c)[((i:Nat):Int).toNat * 1]?=some (.d (.int .i64 (x:Nat))):=by
        rw[show((i:Nat):Int).toNat * 1=i by omega];exact q7n hx
       have hym:=hkm y (Zae hy);have stop:(∀z,K[j]?=some z→z≠y+1)→runN x (K.drop (i+1))=j-i-1:=fun hs=>by
        have hdr:∀m,(x::K.drop (i+1))[m]?=K[i+m]?:=fun m=>by
         rw[←q30 hx,Zbv]
        refine j2s _ x _ (by rw[Zay];omega) (fun m u v h1 h2 h3=>?_) (fun u v h2 h3=>?_)
        ·rw[hdr]at h2 h3;exact j3 (i+m) u v (by omega) (by omega) h2 h3
        ·rw[hdr]at h2 h3;rw[show i+(j-i-1)=j-1 by omega,hy]at h2;rw[show i+(j-i-1+1)=j by omega]at h3;cases h2;exact hs v h3
       by_cases hgo:∃z,K[j]?=some z∧z=y+1
       ·obtain⟨z,hz,hzy⟩:=hgo;have hj:=(Zaa.1 hz).1;have l1:(rowN K c)[((j:Nat):Int).toNat * 1]?=some (.d (.int .i64 (z:Nat))):=by
         rw[show((j:Nat):Int).toNat * 1=j by omega];exact q7n hz
        have z1:((j:Int)<(N:Int))=True:=eq_true (by omega);have z2:((z:Int)=(y:Int)+1)=True:=eq_true (by omega);simp(disch:=omega)only[go_sem,↓reduceIte,z1,e1,l1,l2,z2];refine⟨by omega,⟨by omega,by omega⟩,j+1,?_,⟨by omega,by omega,fun m u v h1 h2 h3 h4=>?_⟩,by omega⟩
        ·refine Weak.mk ?_ ?_ ?_<;>simp only[go_sem,↓reduceIte,Sub,Zab,Zac,mapN]
        ·by_cases e:m+1=j
         ·have e3:m=j-1:=by omega
          rw[e3,hy]at h3;rw[e,hz]at h4;cases h3;cases h4;exact hzy
         ·exact j3 m u v h1 (by omega) h3 h4
       ·have hrun:=stop fun z hz h=>hgo ⟨z,hz,h⟩
        have hxl:=q2A hxm.1;have hjl:=q2A (n:=j-i) (by omega);rw[q30 hx,secT,hrun,show j-i-1+1=j-i by omega,List.drop_drop,show i+1+(j-i-1)=j by omega,←q30 hx]at g3
        by_cases hj:j<N
        obtain⟨z,hz⟩:=get_some (l:=K) (i:=j) (by omega);have l1:(rowN K c)[((j:Nat):Int).toNat * 1]?=some (.d (.int .i64 (z:Nat))):=by
         rw[show((j:Nat):Int).toNat * 1=j by omega];exact q7n hz
        have z1:((j:Int)<(N:Int))=True:=eq_true (by omega);have hzm:=hkm z (Zae hz);have z2:((z:Int)=(y:Int)+1)=False:=eq_false fun h=>hgo ⟨z,hz,by omega⟩
        simp(disch:=omega)only[go_sem,↓reduceIte,z1,e1,l1,l2,z2,l0];refine⟨by omega,⟨by omega,by omega⟩,?_⟩
        rotate_left
        have z1:((j:Int)<(N:Int))=False:=eq_false (by omega);simp(disch:=omega)only[go_sem,↓reduceIte,z1,l0]
        rotate_left
        all_goals
         refine⟨⟨by omega,by omega⟩,?_⟩;refine q0j.of (q3N x hxm.1) ?_;simp(disch:=omega)only[go_sem,↓reduceIte,e2];refine⟨by omega,?_⟩;refine q0j.of (q3N (j-i) (by omega)) ?_;simp(disch:=omega)only[go_sem,↓reduceIte];refine⟨by simp only[Zad,Zaf,Zag];omega,by simp only[Zad,Zaf,Zag];omega,by simp only[Zad,Zaf,Zag];omega,?_⟩
         refine q0n (fun y:Nat×List UInt8=>⟨[(0,.d (mapN ps)),(3,.rs (.l 17) N c),(5,.d (.str y.2)),(6,.d (.int .i64 y.1)),(7,.d (.int .i64 j))],[(17,.cells (rowN K c))],[]⟩)
          (fun y=>i≤y.1∧y.1≤j∧y.2.length≤40+50*i+20*(y.1-i)∧y.2++(((K.drop y.1).take (j-y.1)).flatMap (entT ps)++secT (entT ps) (K.drop j))=R) (fun y=>j-y.1)
          (i,s++(Lib.decDigits x++[32]++Lib.decDigits (j-i)++[10])) ?_ ⟨Zai _,by simp only;omega,by simp only[Zad,Zaf,Zag];omega,by rw[←g3];simp only[List.append_assoc]⟩ ?_
         ·refine Weak.mk ?_ ?_ ?_<;>simp only[go_sem,↓reduceIte,Sub,Zab,Zac,mapN]
         ·rintro⟨u,s'⟩ ⟨u1,u2,u3,u4⟩;simp only at u1 u2 u3 u4;simp only[go_sem,↓reduceIte];refine⟨fun v1=>?_,fun v1=>?_⟩
          ·obtain⟨x',hx'⟩:=get_some (l:=K) (i:=u) (by omega);obtain⟨_,o,ho,ho2⟩:=hkm x' (Zae hx');have l3:(rowN K c)[((u:Nat):Int).toNat * 1]?=some (.d (.int .i64 (x':Nat))):=by
            rw[show((u:Nat):Int).toNat * 1=u by omega];exact q7n hx'
           simp(disch:=omega)only[go_sem,↓reduceIte,l3];refine⟨⟨by omega,by omega⟩,?_⟩;refine q0b.j5N (ks:=ksN ps) (vs:=vsN ps) (key:=.int .i64 (x':Nat)) (zero:=.int .i64 0) rfl rfl z1R z9D rfl (q7f ps) (by kernel_rfl) ?_;simp only[z1S,ho,Zat,Zbp];have ht:=q7o ho2;simp only[go_sem,↓reduceIte];refine q0j.of (j4C o ho2) ?_;simp(disch:=omega)only[go_sem,↓reduceIte]
           refine⟨by omega,by simp only[Zad,Zaf,Zag];omega,(u+1,s'++(tenT o++[32,48,48,48,48,48,32,110,32,10])),?_,⟨by simp only;omega,by simp only;omega,by simp only[Zad,Zaf,Zag];omega,?_⟩,by simp only;omega⟩
           ·refine Weak.mk ?_ ?_ ?_<;>simp only[go_sem,↓reduceIte,Sub,Zab,Zac,mapN]
           ·rw[q30 hx',show j-u=(j-(u+1))+1 by omega,Zch,Zbz]at u4;rw[←u4,entT,ho,Zbp,linT];simp only[List.append_assoc]
          ·have e:u=j:=by omega
           subst e;rw[Nat.sub_self,Zcf,List.flatMap_nil,Zav]at u4;refine⟨(u,s'),?_,⟨by omega,by simp only;omega,u4⟩,by simp only;omega⟩;refine Weak.mk ?_ ?_ ?_<;>simp only[go_sem,↓reduceIte,Sub,Zab,Zac,mapN]
     ·have:i=N:=by omega
      rw[this,Zao (by omega),secT,Zco]at g3;rw[g3]
  ·obtain⟨p,hpi,rfl,rfl⟩:=j2c hik;rw[z11];have hle:=(Zaa.1 hpi).1;have hP':((V++[p.1])++(lp.eraseIdx q).map Prod.fst).Perm (ps.map Prod.fst):=by
    refine List.Perm.trans ?_ hP;rw[List.append_assoc,z1m];exact(q9O (l:=lp.map Prod.fst) (by rw[Zam,hpi];rfl)).append_left V
   simp only[go_sem,↓reduceIte];refine q0b.z77 rfl rfl ?_;cases hO:V with
   |nil=>
    have hs:rwS 17 ([]:List Nat) c=.ns:=rfl;have hb:rwL 17 ([]:List Nat) c=[]:=rfl;rw[hO]at hP';simp(disch:=omega)only[go_sem,↓reduceIte,hs,hb];refine q14.app1 (r:=17) (c:=0) (cs:=nsA []) z3X (.inl ⟨rfl,rfl⟩) (Src1.own rfl) (z8B [] 17) (z8l _ _) (by simp[nsA,maxLen]) (fun c' h1 h2=>?_);rw[q9c];simp(disch:=omega)only[go_sem,↓reduceIte];refine⟨([]++[p.1],c',lp.eraseIdx q,[(.int .i64 (p.1:Int),.int .i64 (p.2:Int))]),?_,⟨hP',.inr ⟨h1,h2⟩⟩,by simp only[Zcy];split<;>omega⟩
    refine Weak.mk ?_ ?_ ?_<;>simp only[go_sem,↓reduceIte,Sub,Zab,Zac,rwS,rwL,nsA,Zce]
   |cons x r=>
    have hs:rwS 17 (x::r) c=.rs (.l 17) (r.length+1) c:=rfl;have hb:rwL 17 (x::r) c=[(17,.cells (rowN (x::r) c))]:=rfl;rw[hO]at hP' hc hVl;have hc':=hc.resolve_left (by simp);simp(disch:=omega)only[go_sem,↓reduceIte,hs,hb];simp only[Zaf]at hVl hc';refine q14.app1 (r:=17) (c:=c) (cs:=nsA (x::r)) z3X (.inr ⟨by rw[q24];rfl,rfl,by rw[q24];exact hc'.1,hc'.2⟩) (Src1.own rfl) (z8B _ 17) (z8l _ _) (by rw[q24];simp only[maxLen,Zaf];omega) (fun c' h1 h2=>?_);rw[q9c]
    rw[q24]at h1 ⊢;simp(disch:=omega)only[go_sem,↓reduceIte];refine⟨((x::r)++[p.1],c',lp.eraseIdx q,[(.int .i64 (p.1:Int),.int .i64 (p.2:Int))]),?_,⟨hP',.inr ⟨by simpa using h1,h2⟩⟩,by simp only[Zcy];split<;>omega⟩;refine Weak.mk ?_ ?_ ?_<;>simp only[go_sem,↓reduceIte,Sub,Zab,Zac,rwS,rwL,Zad]
def bsI(nm:List UInt8)(l:List Fld):Nat→Nat→Nat→Nat
 |0,i,_=>i
 |m+1,i,j=>if i<j then(match l[(i+j) / 2]? with
  |some x=>if Op.bytesLess x.name nm=true then bsI nm l m ((i+j) / 2+1) j else bsI nm l m i ((i+j) / 2)
  |none=>i)else i
theorem j0G(nm:List UInt8)(l:List Fld):∀(m i j:Nat),i≤j→j≤l.length→bsI nm l m i j≤l.length
 |0,i,j,h1,h2=>by rw[bsI];omega
 |m+1,i,j,h1,h2=>by
  rw[bsI];split
  ·split
   ·split
    ·exact j0G nm l m _ _ (by omega) h2
    ·exact j0G nm l m _ _ (by omega) (by omega)
   ·omega
  ·omega
def posG(nm:List UInt8)(l:List Fld):Nat:=bsI nm l (l.length+1) 0 l.length
def hasG(nm:List UInt8)(l:List Fld):Bool:=
 match l[posG nm l]? with
 |some x=>decide (x.name=nm)
 |none=>false
theorem q9P(nm:List UInt8)(l:List Fld):posG nm l≤l.length:=j0G nm l _ _ _ (by omega) (Zai _)
theorem z3W{nm:List UInt8}{f:List Fld}(h:hasG nm f=true):∃y:Fld,f[posG nm f]?=some y∧y.name=nm:=by
 unfold hasG at h;split at h
 ·rename_i y hy;exact⟨y,hy,of_decide_eq_true h⟩
 ·cases h
theorem z8F(nm:List UInt8):posG nm []=0:=rfl
theorem z0O(nm:List UInt8):hasG nm []=false:=rfl
def q9g(nm:List UInt8)(x:Val)(f:List Fld):List Fld:=if hasG nm f=true then f.set (posG nm f) (.mk nm x)else f.take (posG nm f)++.mk nm x::f.drop (posG nm f)
def q9X(nm:List UInt8)(x:Val)(v:Val):Val:=.mk v.kind v.n v.s v.l (q9g nm x v.f)
theorem q9h{nm:List UInt8}{x:Val}{f:List Fld}(h:hasG nm f=false):q0k (q9g nm x f)=(q0k f).take (posG nm f)++.agg [.str nm,.int .i64 x.kind,.int .i64 x.n,.str x.s,.list (q0u x.l),.list (q0k x.f)]::(q0k f).drop (posG nm f):=by
 rw[q9g,if_neg (by rw[h];simp),q2I,q2I,List.map_append,Zbf,List.map_take,List.map_drop,z8f]
theorem q9i{nm:List UInt8}{x:Val}{f:List Fld}(h:hasG nm f=true):q0k (q9g nm x f)=(q0k f).set (posG nm f) (.agg [.str nm,.int .i64 x.kind,.int .i64 x.n,.str x.s,.list (q0u x.l),.list (q0k x.f)]):=by
 rw[q9g,if_pos h,q2I,q2I,List.map_set,z8f]
theorem q9Y(nm:List UInt8)(x v:Val):(q9X nm x v).d=.agg [.int .i64 v.kind,.int .i64 v.n,.str v.s,.list (q0u v.l),.list (q0k (q9g nm x v.f))]:=by rw[Val.d_eq];rfl
theorem j2u(nm:List UInt8)(x:Val)(f:List Fld):Fld.mk nm x∈q9g nm x f:=by
 rw[q9g];split
 ·rename_i h;obtain⟨y,hy,_⟩:=z3W h;exact Zbm.2 ⟨posG nm f,by rw[List.getElem?_set_self (Zaa.1 hy).1]⟩
 ·simp
theorem q5m(l:List Fld)(nm:List UInt8)(hl:l.length≤1048576):
  q1c Tryz.prog 40 [.d (.list (q0k l)),.d (.str nm),.fn (.func 41) [] []] [] (.tuple [.d (.int .i64 (posG nm l)),.d (.bool (hasG nm l))]) []:=by
 have hfl:=q0R l;refine q0m.q0G (by kernel_rfl) rfl ?_;simp only[go_sem,↓reduceIte,q0h,q0i,hfl];generalize hR:posG nm l=R;unfold posG at hR;refine q0n (fun y:Nat×Nat=>⟨[(0,.d (.list (q0k l))),(1,.d (.str nm)),(2,.fn (.func 41) [] []),(8,.d (.int .i64 l.length)),(9,.d (.int .i64 y.1)),(10,.d (.int .i64 y.2))],[],[]⟩)
  (fun y=>y.1≤y.2∧y.2≤l.length∧∃m,y.2-y.1<m∧bsI nm l m y.1 y.2=R) (fun y=>y.2-y.1) (0,l.length) ?_ ?_ ?_
 ·refine Weak.mk ?_ ?_ ?_<;>simp only[go_sem,↓reduceIte,Sub,Zab,Zac]
 ·exact⟨by simp,by simp,l.length+1,by simp,hR⟩
 ·rintro⟨i,j⟩ ⟨hij,hj,m,hm,hF⟩;simp only at hij hj hm hF;obtain⟨m,rfl⟩:∃q,m=q+1:=⟨m-1,by omega⟩;rw[bsI]at hF;have hmid:IntKind.i64.wrap ((IntKind.u64.wrap ((i:Int)+j)).fdiv (2 ^ min 1 IntKind.u64.bits))=(((i+j) / 2:Nat):Int):=by
   have e1:IntKind.u64.wrap ((i:Int)+j)=((i+j:Nat):Int):=by
    rw[IntWalk.u64_in]<;>omega
   have e2:(2:Int) ^ min 1 IntKind.u64.bits=2:=rfl;rw[e1,e2];have e3:((i+j:Nat):Int).fdiv 2=(((i+j) / 2:Nat):Int):=by
    rw[Int.fdiv_eq_ediv_of_nonneg _ (by omega)];omega
   rw[e3,IntWalk.i64_in]<;>omega
  simp only[run_seq,q8l,q4V,pev,St.ev,St.get,aget,reduceCtorEq,↓reduceIte,Nat.reduceEqDiff,Zbp,q16,St.put,q6N,fB,binD,binI,Zat,q8g,q6f,q6h,q7R,decide_eq_true_eq,z0X,q5W,fCvI,Int.reduceLT,Int.toNat_one,q9N,asgS,fIa,fIaD,AV.rd,D.cells,z0W,q4x,q4y,q5j,q4U,St.mark,aset,putO,Zdf,q53,Zbc,z1p,z7B,z4r,z4y,resR,z0J,resA,j15,AV.simple,z9T,AV.wf,Bool.and_self,mkA,q5T,q8H,and_true,IteG]
  refine⟨fun hlt=>?_,fun hge=>?_⟩
  ·simp(disch:=omega)only[IntWalk.i64_in,hmid];obtain⟨x,hx⟩:=get_some (l:=l) (i:=(i+j) / 2) (by omega);have hc:=(q9f x nm).q4s (by kernel_rfl);simp only[Zbf,Zce,Res.av]at hc;rw[Fld.d_eq x]at hc;simp(disch:=omega)only[q0g,q07,hx,Zat,Fld.d_eq,Zaf,Zag,Zbh,Nat.reduceAdd,↓reduceIte,q16,St.put,q6N,q4V,pev,fLd,St.ev,St.get,aget,Zbp,Zai,Zch,List.take_nil,Nat.reduceEqDiff,reduceCtorEq,q5h]
   refine q0b.q0G ([]) ([]) rfl (hc) rfl rfl (by simp only[q1b,St.obj,aget,AObj.ren,AV.ren,AV.ren1,renL,q2u,renR,renQ,Zaw,Zax,and_true,and_self,Nat.reduceEqDiff,↓reduceIte,reduceCtorEq]) rfl rfl rfl ⟨rfl,rfl⟩ ?_;simp(disch:=omega)only[go_sem,↓reduceIte];obtain⟨c1,c2⟩:=cmpB x.name nm;rw[if_pos (by omega),hx]at hF;simp only at hF
   refine⟨fun hl1=>⟨((i+j) / 2+1,j),?_,⟨by simp only;omega,hj,m,by simp only;omega,by rw[if_pos (c1.1 hl1)]at hF;exact hF⟩,by simp only;omega⟩,fun hl1=>⟨(i,(i+j) / 2),?_,⟨by simp only;omega,by simp only;omega,m,by simp only;omega,by rw[if_neg (fun e=>hl1 (c1.2 e))]at hF;exact hF⟩,by simp only;omega⟩⟩
   ·refine Weak.mk ?_ ?_ ?_<;>simp only[go_sem,↓reduceIte,Sub,Zab,Zac]
   ·refine Weak.mk ?_ ?_ ?_<;>simp only[go_sem,↓reduceIte,Sub,Zab,Zac]
  ·have hij':i=j:=by omega
   subst hij';rw[if_neg (by omega)]at hF;subst hF;have hhas:hasG nm l=(match l[i]? with|some x=>decide (x.name=nm)|none=>false):=by unfold hasG posG;rw[hR]
   refine⟨fun hlt=>?_,fun hge=>?_⟩
   ·obtain⟨x,hx⟩:=get_some (l:=l) (i:=i) (by omega);have hc:=(q9f x nm).q4s (by kernel_rfl);simp only[Zbf,Zce,Res.av]at hc;rw[Fld.d_eq x]at hc;simp(disch:=omega)only[q0g,q07,hx,Zat,Fld.d_eq,Zaf,Zag,Zbh,Nat.reduceAdd,↓reduceIte,q16,St.put,q6N,q4U,St.get,aget,Nat.reduceEqDiff,Zbp,St.mark,aset,putO,Zdf,q53,q4V,pev,fLd,St.ev,Zai,Zch,List.take_nil,reduceCtorEq,q5h]
    refine q0b.q0G ([]) ([]) rfl (hc) rfl rfl (by simp only[q1b,St.obj,aget,AObj.ren,AV.ren,AV.ren1,renL,q2u,renR,renQ,Zaw,Zax,and_true,and_self,Nat.reduceEqDiff,↓reduceIte,reduceCtorEq]) rfl rfl rfl ⟨rfl,rfl⟩ ?_;simp(disch:=omega)only[go_sem,↓reduceIte];rw[hhas,hx];have c2:=(cmpB x.name nm).2
    by_cases he:x.name=nm
    ·have h0:=c2.2 he;rw[he]at h0;simp[he,h0]
    ·have:¬Lib.compareBytes x.name nm=0:=fun e=>he (c2.1 e)
     simp[he,this]
   ·have:l[i]?=none:=List.getElem?_eq_none (by omega);rw[hhas,this]
theorem z2d(v x:Val)(nm:List UInt8)(hv:v.sm 1048576=true)(hx:x.sm 1048576=true):q0y Tryz.prog 22 [v.d,.str nm,x.d] (fun r=>r=.one (q9X nm x v).d):=by
 obtain⟨_,hll,hfl,hsl,hsf⟩:=Val.q1Q.1 hv;have hvl:=q0Z v.l;have hfl':=q0R v.f;have hcx:=j6E x hx;rw[Val.d_eq x]at hcx;refine z4V.j4b (Post:=fun r=>r.data=(q9X nm x v).d) ?_ (fun r hr=>by rw[hr]);refine q7J.z9K rfl ?_;rw[Val.d_eq v,Val.d_eq x];simp only[go_sem,↓reduceIte,q7W];refine q0j.z9i (q40.z9K (j5r _ v (Zai _) hv) (by rw[Val.d_eq];rfl) (fun r hok hr=>?_));obtain⟨X,hX,hr⟩:=hr;rcases hr with⟨hf0,rfl⟩|⟨hf0,c,rfl⟩
 ·rcases hX with⟨rfl,hl0⟩|rfl
  ·simp only[go_sem,↓reduceIte,XR.z1d];refine q0b.q0G ([]) ([]) rfl ((q5m [] nm (by simp)).j34) rfl rfl (by simp only[q1b,St.obj,aget,AObj.ren,AV.ren,AV.ren1,renL,q2u,renR,renQ,Zaw,Zax,and_true,and_self,Nat.reduceEqDiff,↓reduceIte,reduceCtorEq]) rfl rfl rfl ⟨rfl,rfl⟩ ?_;simp only[go_sem,↓reduceIte,z8F,z0O];refine q1I.of hcx ?_;simp(disch:=omega)only[go_sem,↓reduceIte]
   refine q0b.insert (k:=10) (c:=0) (i:=0) (fs:=[]) q6X rfl (.inl ⟨rfl,rfl⟩) rfl rfl rfl (by decide) (by simp) (by simp) (by simp) (fun c' h1 h2=>?_);simp(disch:=omega)only[go_sem,↓reduceIte,q2k];refine⟨.row [.d (.int .i64 v.kind),.d (.int .i64 v.n),.d (.str v.s),.ns] 6 [.agg [.str nm,.int .i64 x.kind,.int .i64 x.n,.str x.s,.list (q0u x.l),.list (q0k x.f)]] c',10,rfl,(fun _ _ _ _ h=>by cases h;rfl),⟨by simp[AV.dns],by simp[D.cells],by simpa using h1,h2⟩,?_⟩;rw[q9Y,hf0,hl0,q9h (z0O nm)];rfl
  ·simp only[go_sem,↓reduceIte,XR.z1d];refine q0b.q0G ([]) ([]) rfl ((q5m [] nm (by simp)).j34) rfl rfl (by simp only[q1b,St.obj,aget,AObj.ren,AV.ren,AV.ren1,renL,q2u,renR,renQ,Zaw,Zax,and_true,and_self,Nat.reduceEqDiff,↓reduceIte,reduceCtorEq]) rfl rfl rfl ⟨rfl,rfl⟩ ?_;simp only[go_sem,↓reduceIte,z8F,z0O];refine q1I.of hcx ?_;simp(disch:=omega)only[go_sem,↓reduceIte]
   refine q0b.insert (k:=10) (c:=0) (i:=0) (fs:=[]) q6X rfl (.inl ⟨rfl,rfl⟩) rfl rfl rfl (by decide) (by simp) (by simp) (by simp) (fun c' h1 h2=>?_);simp(disch:=omega)only[go_sem,↓reduceIte,q2k];refine⟨.row [.d (.int .i64 v.kind),.d (.int .i64 v.n),.d (.str v.s),.d (.list (q0u v.l))] 6 [.agg [.str nm,.int .i64 x.kind,.int .i64 x.n,.str x.s,.list (q0u x.l),.list (q0k x.f)]] c',10,rfl,(fun _ _ _ _ h=>by cases h;rfl),⟨by simp[AV.dns],by simp[D.cells],by simpa using h1,h2⟩,?_⟩;rw[q9Y,hf0,q9h (z0O nm)];rfl
 ·rcases hX with⟨rfl,hl0⟩|rfl
  ·simp only[go_sem,↓reduceIte,XR.z1d];refine q0b.z3J (k:=10) (sz:=6) (c:=c) (fs:=q0k v.f) rfl rfl rfl (q0q _) hok.2.2.1 rfl (q5m v.f nm hfl) rfl ?_;simp only[go_sem,↓reduceIte];refine⟨fun hh=>?_,fun hh=>?_⟩
   ·refine q1I.of hcx ?_;simp(disch:=omega)only[go_sem,↓reduceIte];obtain⟨y,hy,hyn⟩:=z3W hh;have hlt:=(Zaa.1 hy).1;have hrow:=q5l (q0q v.f) hok.2.2.1;have hset:=z0V (sz:=6) (c:=c) (i:=posG nm v.f) (a:=.str nm) (xs:=[.int .i64 y.v.kind,.int .i64 y.v.n,.str y.v.s,.list (q0u y.v.l),.list (q0k y.v.f)]) (q0q v.f) (by rw[q07,hy];simp only[Zat];rw[Fld.d_eq,hyn]) (ys:=[.int .i64 x.kind,.int .i64 x.n,.str x.s,.list (q0u x.l),.list (q0k x.f)]) rfl
    refine⟨⟨by omega,by omega⟩,?_,?_⟩
    ·rw[hrow,Zcn];have:=hok.2.2.1;omega
    ·refine⟨.row [.d (.int .i64 v.kind),.d (.int .i64 v.n),.d (.str v.s),.ns] 6 ((q0k v.f).set (posG nm v.f) (.agg [.str nm,.int .i64 x.kind,.int .i64 x.n,.str x.s,.list (q0u x.l),.list (q0k x.f)])) c,10,?_,(fun _ _ _ _ h=>by cases h;rw[←hset];rfl),⟨by simp[AV.dns],?_,by rw[Zcz];exact hok.2.2.1,hok.2.2.2⟩,?_⟩
     ·show _=some (AV.sx _)
      rw[Zcz];rfl
     ·rw[←q9i hh];exact q0q _
     ·rw[q9Y,hl0,q9i hh];rfl
   ·refine q1I.of hcx ?_;simp(disch:=omega)only[go_sem,↓reduceIte];refine q0b.insert (k:=10) (c:=c) (i:=posG nm v.f) (fs:=q0k v.f) q6X rfl (.inr ⟨rfl,rfl,hok.2.2.1,hok.2.2.2⟩) rfl rfl rfl (by decide) (q0q _) (by rw[hfl'];exact q9P _ _) (by omega) (fun c' h1 h2=>?_);simp(disch:=omega)only[go_sem,↓reduceIte,q2k];have hins:=q9h (x:=x) hh
    refine⟨.row [.d (.int .i64 v.kind),.d (.int .i64 v.n),.d (.str v.s),.ns] 6 (q0k (q9g nm x v.f)) c',10,?_,(fun _ _ _ _ h=>by cases h;rw[hins];rfl),⟨by simp[AV.dns],q0q _,?_,h2⟩,?_⟩
    ·have hl:(q0k (q9g nm x v.f)).length=(q0k v.f).length+1:=by
      rw[hins,Zad,Zaf,Zaq,Zay];have:=q9P nm v.f;omega
     show _=some (AV.sx _)
     rw[hl];rfl
    ·rw[hins,Zad,Zaf,Zaq,Zay];have:=q9P nm v.f;omega
    ·rw[q9Y,hl0];rfl
  ·simp only[go_sem,↓reduceIte,XR.z1d];refine q0b.z3J (k:=10) (sz:=6) (c:=c) (fs:=q0k v.f) rfl rfl rfl (q0q _) hok.2.2.1 rfl (q5m v.f nm hfl) rfl ?_;simp only[go_sem,↓reduceIte];refine⟨fun hh=>?_,fun hh=>?_⟩
   ·refine q1I.of hcx ?_;simp(disch:=omega)only[go_sem,↓reduceIte];obtain⟨y,hy,hyn⟩:=z3W hh;have hlt:=(Zaa.1 hy).1;have hrow:=q5l (q0q v.f) hok.2.2.1;have hset:=z0V (sz:=6) (c:=c) (i:=posG nm v.f) (a:=.str nm) (xs:=[.int .i64 y.v.kind,.int .i64 y.v.n,.str y.v.s,.list (q0u y.v.l),.list (q0k y.v.f)]) (q0q v.f) (by rw[q07,hy];simp only[Zat];rw[Fld.d_eq,hyn]) (ys:=[.int .i64 x.kind,.int .i64 x.n,.str x.s,.list (q0u x.l),.list (q0k x.f)]) rfl
    refine⟨⟨by omega,by omega⟩,?_,?_⟩
    ·rw[hrow,Zcn];have:=hok.2.2.1;omega
    ·refine⟨.row [.d (.int .i64 v.kind),.d (.int .i64 v.n),.d (.str v.s),.d (.list (q0u v.l))] 6 ((q0k v.f).set (posG nm v.f) (.agg [.str nm,.int .i64 x.kind,.int .i64 x.n,.str x.s,.list (q0u x.l),.list (q0k x.f)])) c,10,?_,(fun _ _ _ _ h=>by cases h;rw[←hset];rfl),⟨by simp[AV.dns],?_,by rw[Zcz];exact hok.2.2.1,hok.2.2.2⟩,?_⟩
     ·show _=some (AV.sx _)
      rw[Zcz];rfl
     ·rw[←q9i hh];exact q0q _
     ·rw[q9Y,q9i hh];rfl
   ·refine q1I.of hcx ?_;simp(disch:=omega)only[go_sem,↓reduceIte];refine q0b.insert (k:=10) (c:=c) (i:=posG nm v.f) (fs:=q0k v.f) q6X rfl (.inr ⟨rfl,rfl,hok.2.2.1,hok.2.2.2⟩) rfl rfl rfl (by decide) (q0q _) (by rw[hfl'];exact q9P _ _) (by omega) (fun c' h1 h2=>?_);simp(disch:=omega)only[go_sem,↓reduceIte,q2k];have hins:=q9h (x:=x) hh
    refine⟨.row [.d (.int .i64 v.kind),.d (.int .i64 v.n),.d (.str v.s),.d (.list (q0u v.l))] 6 (q0k (q9g nm x v.f)) c',10,?_,(fun _ _ _ _ h=>by cases h;rw[hins];rfl),⟨by simp[AV.dns],q0q _,?_,h2⟩,?_⟩
    ·have hl:(q0k (q9g nm x v.f)).length=(q0k v.f).length+1:=by
      rw[hins,Zad,Zaf,Zaq,Zay];have:=q9P nm v.f;omega
     show _=some (AV.sx _)
     rw[hl];rfl
    ·rw[hins,Zad,Zaf,Zaq,Zay];have:=q9P nm v.f;omega
    ·rw[q9Y];rfl
mutual
def wtV(most:Int):Val→Int
 |.mk _ _ s l f=>wtF most f (wtL most l (IntKind.i64.wrap (1+(s.length:Int))))
def wtL(most:Int):List Val→Int→Int
 |[],n=>n
 |v::r,n=>if n≤most then wtL most r (IntKind.i64.wrap (n+wtV most v))else n
def wtF(most:Int):List Fld→Int→Int
 |[],n=>n
 |.mk nm v::r,n=>if n≤most then wtF most r (IntKind.i64.wrap (IntKind.i64.wrap (n+(nm.length:Int))+wtV most v))else n
end
theorem j7n(most:Int)(v:Val):wtV most v=wtF most v.f (wtL most v.l (IntKind.i64.wrap (1+(v.s.length:Int)))):=by cases v;simp only[wtV,Val.s,Val.l,Val.f]
theorem z4T(most:Int)(y:Fld)(r:List Fld)(n:Int):wtF most (y::r) n=if n≤most then wtF most r (IntKind.i64.wrap (IntKind.i64.wrap (n+(y.name.length:Int))+wtV most y.v))else n:=by cases y;simp only[wtF,Fld.name,Fld.v]
theorem j4P{most n:Int}(h:¬n≤most):∀l,wtL most l n=n
 |[]=>by simp only[wtL]
 |v::r=>by simp only[wtL,if_neg h]
theorem z9e{most n:Int}(h:¬n≤most)(l:List Fld):wtF most l n=n:=by
 cases l with
 |nil=>simp only[wtF]
 |cons y r=>rw[z4T,if_neg h]
def q3g:q0l:=
 .seq (.reg [⟨some 2,.box (.t 0),none⟩,Qx 4 (Ki 0)]) (.seq (.reg [Q 8 (.fa 2 (.t 2)),Q 9 (.ld false 1 (.t 8)),Q 10 (.len true (.t 9)),Q 11 (.bin .add (Ki 1) (.t 10)),Qa 5 
 11]) (.seq (.seq (.reg [Qx 6 (Ki 0)]) (.block 0 (.loop (.seq (.seq (.reg [Qc 12 6,Q 13 (.fa 3 (.t 2)),Q 14 (.ld false 1 (.t 13)),Q 15 (.len false (.t 14)),Q 16 (.bin .lss (.t 
 12) (.t 15)),Qc 17 16,Qd 18 5 17 true,Qd 19 1 17 true,Qg 20 (.bin .leq (.t 18) (.t 19)) 17 true,Q 21 (.pick (.t 17) (.t 20) KF)]) (.cond (.t 21) .skip (.exit 0))) (.seq 
 (.block 1 (.reg [Qc 24 5,Q 25 (.fa 3 (.t 2)),Q 26 (.ld false 1 (.t 25)),Qc 27 6,Q 28 (.ia 5 (.t 26) (.t 27)),Q 29 (.ld true 5 (.t 28)),Qc 30 1,⟨some 31,.call 14 [.t 29, 
 .t 30],none⟩,Q 32 (.bin .add (.t 24) (.t 31)),Qa 5 32])) (.reg [Qc 22 6,Q 23 (.bin .add (.t 22) (Ki 1)),Qa 6 23])))))) (.seq (.seq (.reg [Qx 7 (Ki 0)]) (.block 2 (.loop 
 (.seq (.seq (.reg [Qc 33 7,Q 34 (.fa 4 (.t 2)),Q 35 (.ld false 1 (.t 34)),Q 36 (.len false (.t 35)),Q 37 (.bin .lss (.t 33) (.t 36)),Qc 38 37,Qd 39 5 38 true,Qd 40 1 38 
 true,Qg 41 (.bin .leq (.t 39) (.t 40)) 38 true,Q 42 (.pick (.t 38) (.t 41) KF)]) (.cond (.t 42) .skip (.exit 2))) (.seq (.block 3 (.dreg [Qc 45 5,Q 46 (.fa 4 (.t 2)),Q 47 
 (.ld false 1 (.t 46)),Qc 48 7,Q 49 (.ia 6 (.t 47) (.t 48)),Q 50 (.fa 0 (.t 49)),Q 51 (.ld false 1 (.t 50)),Q 52 (.len true (.t 51)),Q 53 (.bin .add (.t 45) (.t 52)),Q 54 
 (.fa 4 (.t 2)),Q 55 (.ld false 1 (.t 54)),Qc 56 7,Q 57 (.ia 6 (.t 55) (.t 56)),Q 58 (.fa 1 (.t 57)),Q 59 (.ld true 5 (.t 58)),Qc 60 1,⟨some 61,.call 14 [.t 59,.t 60], 
 none⟩,Q 62 (.bin .add (.t 53) (.t 61)),Qa 5 62])) (.reg [Qc 43 7,Q 44 (.bin .add (.t 43) (Ki 1)),Qa 7 44])))))) (.seq (.reg [Qc 63 5,Qa 4 63]) .ret))))
def q3k:List LRes:=[.tmp 4]
theorem q44:q0E Tryz.prog 14 64 q3g q3k:=⟨_,_,Tryz.func14,rfl,by kernel_rfl,by kernel_rfl,rfl⟩
theorem z7R:∀(m:Nat) (v:Val) (most:Int),SizeOf.sizeOf v≤m→v.sm 1048576=true→q0y Tryz.prog 14 [v.d,.int .i64 most] (fun r=>r=.one (.int .i64 (wtV most v))):=by
 intro m;induction m with
 |zero=>intro v most h;cases v;simp at h
 |succ m ih=>
  intro v most hv hsm;obtain⟨_,hll,hfl,hsl,hsf⟩:=Val.q1Q.1 hsm;have hvl:=q0Z v.l;have hfl':=q0R v.f;generalize hR:wtV most v=R;rw[j7n]at hR;rw[Val.d_eq];refine q44.call rfl ?_;simp only[go_sem,↓reduceIte,q3g,q3k];generalize IntKind.i64.wrap (1+(v.s.length:Int))=n0 at hR ⊢;refine q0n (fun y:Nat×Int=>⟨[(1,.d (.int .i64 most)),(2,.ptr (.l 2) 0),(5,.d (.int .i64 y.2)),(6,.d (.int .i64 y.1))],
    [(2,.cells [.d (.int .i64 v.kind),.d (.int .i64 v.n),.d (.str v.s),.d (.list (q0u v.l)),.d (.list (q0k v.f))])],[]⟩) (fun y=>y.1≤v.l.length∧wtF most v.f (wtL most (v.l.drop y.1) y.2)=R) (fun y=>v.l.length-y.1) (0,n0) ?_ ⟨by simp,hR⟩ ?_
  ·refine Weak.mk ?_ ?_ ?_<;>simp only[go_sem,↓reduceIte,Sub,Zab,Zac]
  ·rintro⟨i,n⟩ ⟨hi,hF⟩;simp only at hi hF;simp only[go_sem,↓reduceIte,hvl];refine⟨fun hlt=>⟨fun hle=>?_,fun hgt=>?_⟩,fun hge=>?_⟩
   ·obtain⟨x,hx⟩:=get_some (l:=v.l) (i:=i) (by omega);have hm:=Zae hx;have hc:=ih x most (by have:=z2h hm;omega) (hsl x hm);rw[Val.d_eq x]at hc;rw[q1w hx,wtL,if_pos hle]at hF;simp(disch:=omega)only[go_sem,↓reduceIte,q0g,q4g,hx,Val.d_eq];first|refine q0j.of hc ?_|refine q1I.of hc ?_
    simp(disch:=omega)only[go_sem,↓reduceIte];refine⟨(i+1,IntKind.i64.wrap (n+wtV most x)),?_,⟨by simp only;omega,hF⟩,by simp only;omega⟩;refine Weak.mk ?_ ?_ ?_<;>simp only[go_sem,↓reduceIte,Sub,Zab,Zac,hvl]
   ·rw[j4P hgt]at hF;refine q0n (fun y:Nat×Int=>⟨[(1,.d (.int .i64 most)),(2,.ptr (.l 2) 0),(5,.d (.int .i64 y.2)),(7,.d (.int .i64 y.1))],
      [(2,.cells [.d (.int .i64 v.kind),.d (.int .i64 v.n),.d (.str v.s),.d (.list (q0u v.l)),.d (.list (q0k v.f))])],[]⟩) (fun y=>y.1≤v.f.length∧wtF most (v.f.drop y.1) y.2=R) (fun y=>v.f.length-y.1) (0,n) ?_ ⟨by simp,hF⟩ ?_
    ·refine Weak.mk ?_ ?_ ?_<;>simp only[go_sem,↓reduceIte,Sub,Zab,Zac]
    ·rintro⟨j,n2⟩ ⟨hj,hG⟩;simp only at hj hG;simp only[go_sem,↓reduceIte,hfl'];refine⟨fun hlt2=>⟨fun hle2=>?_,fun hgt2=>?_⟩,fun hge2=>?_⟩
     ·obtain⟨y,hy⟩:=get_some (l:=v.f) (i:=j) (by omega);have hm:=Zae hy;have hc:=ih y.v most (by have:=z2g hm;omega) (Fld.q1Q.1 (hsf y hm)).2;rw[Val.d_eq y.v]at hc;rw[q1w hy,z4T,if_pos hle2]at hG;simp(disch:=omega)only[go_sem,↓reduceIte,q0g,q07,hy,Fld.d_eq];refine q1I.of hc ?_;simp(disch:=omega)only[go_sem,↓reduceIte,q0g,q07,hy,Fld.d_eq];refine⟨(j+1,IntKind.i64.wrap (IntKind.i64.wrap (n2+(y.name.length:Int))+wtV most y.v)),?_,⟨by simp only;omega,hG⟩,by simp only;omega⟩
      refine Weak.mk ?_ ?_ ?_<;>simp only[go_sem,↓reduceIte,Sub,Zab,Zac]
     ·rw[z9e hgt2]at hG;rw[hG]
     ·rw[Zao (by omega),wtF]at hG;rw[hG]
   ·rw[Zao (by omega),wtL]at hF;refine q0n (fun y:Nat×Int=>⟨[(1,.d (.int .i64 most)),(2,.ptr (.l 2) 0),(5,.d (.int .i64 y.2)),(7,.d (.int .i64 y.1))],
      [(2,.cells [.d (.int .i64 v.kind),.d (.int .i64 v.n),.d (.str v.s),.d (.list (q0u v.l)),.d (.list (q0k v.f))])],[]⟩) (fun y=>y.1≤v.f.length∧wtF most (v.f.drop y.1) y.2=R) (fun y=>v.f.length-y.1) (0,n) ?_ ⟨by simp,hF⟩ ?_
    ·refine Weak.mk ?_ ?_ ?_<;>simp only[go_sem,↓reduceIte,Sub,Zab,Zac]
    ·rintro⟨j,n2⟩ ⟨hj,hG⟩;simp only at hj hG;simp only[go_sem,↓reduceIte,hfl'];refine⟨fun hlt2=>⟨fun hle2=>?_,fun hgt2=>?_⟩,fun hge2=>?_⟩
     ·obtain⟨y,hy⟩:=get_some (l:=v.f) (i:=j) (by omega);have hm:=Zae hy;have hc:=ih y.v most (by have:=z2g hm;omega) (Fld.q1Q.1 (hsf y hm)).2;rw[Val.d_eq y.v]at hc;rw[q1w hy,z4T,if_pos hle2]at hG;simp(disch:=omega)only[go_sem,↓reduceIte,q0g,q07,hy,Fld.d_eq];refine q1I.of hc ?_;simp(disch:=omega)only[go_sem,↓reduceIte,q0g,q07,hy,Fld.d_eq];refine⟨(j+1,IntKind.i64.wrap (IntKind.i64.wrap (n2+(y.name.length:Int))+wtV most y.v)),?_,⟨by simp only;omega,hG⟩,by simp only;omega⟩
      refine Weak.mk ?_ ?_ ?_<;>simp only[go_sem,↓reduceIte,Sub,Zab,Zac]
     ·rw[z9e hgt2]at hG;rw[hG]
     ·rw[Zao (by omega),wtF]at hG;rw[hG]
mutual
def awV:Val→Nat
 |.mk _ _ s l f=>1+s.length+awL l+awF f
def awL:List Val→Nat
 |[]=>0
 |v::r=>awV v+awL r
def awF:List Fld→Nat
 |[]=>0
 |.mk nm v::r=>nm.length+awV v+awF r
end
theorem j6v(v:Val):awV v=1+v.s.length+awL v.l+awF v.f:=by cases v;simp only[awV,Val.s,Val.l,Val.f]
theorem j28(y:Fld)(r:List Fld):awF (y::r)=y.name.length+awV y.v+awF r:=by cases y;simp only[awF,Fld.name,Fld.v]
mutual
theorem j6n(most:Int):∀v:Val,awV v≤1000000000→0≤wtV most v∧wtV most v≤awV v∧(wtV most v≤most→wtV most v=awV v)
 |.mk k n s l f,h=>by
  simp only[awV]at h ⊢;simp only[wtV];have e:IntKind.i64.wrap (1+(s.length:Int))=1+(s.length:Int):=IntWalk.i64_in _ (by omega);rw[e];have h1:=j5g most l (1+(s.length:Int)) (by omega) (by omega);have h2:=j5f most f (wtL most l (1+(s.length:Int))) (by omega) (by omega);refine⟨by omega,by omega,fun h3=>?_⟩;have:=h2.2.2 h3;have:=h1.2.2 (by omega);omega
theorem j5g(most:Int):∀(l:List Val) (n:Int),0≤n→n+awL l≤1000000000→n≤wtL most l n∧wtL most l n≤n+awL l∧(wtL most l n≤most→wtL most l n=n+awL l)
 |[],n,h0,h=>by simp only[wtL,awL];omega
 |v::r,n,h0,h=>by
  simp only[awL]at h ⊢;simp only[wtL]
  by_cases hm:n≤most
  ·rw[if_pos hm];have hv:=j6n most v (by omega);have e:IntKind.i64.wrap (n+wtV most v)=n+wtV most v:=IntWalk.i64_in _ (by omega);rw[e];have hr:=j5g most r (n+wtV most v) (by omega) (by omega);refine⟨by omega,by omega,fun h3=>?_⟩;have:=hr.2.2 h3;have:=hv.2.2 (by omega);omega
  ·rw[if_neg hm];exact⟨by omega,by omega,fun h3=>absurd h3 hm⟩
theorem j5f(most:Int):∀(l:List Fld) (n:Int),0≤n→n+awF l≤1000000000→n≤wtF most l n∧wtF most l n≤n+awF l∧(wtF most l n≤most→wtF most l n=n+awF l)
 |[],n,h0,h=>by simp only[wtF,awF];omega
 |.mk nm v::r,n,h0,h=>by
  simp only[awF]at h ⊢;simp only[wtF]
  by_cases hm:n≤most
  ·rw[if_pos hm];have hv:=j6n most v (by omega);have e0:IntKind.i64.wrap (n+(nm.length:Int))=n+(nm.length:Int):=IntWalk.i64_in _ (by omega);rw[e0];have e:IntKind.i64.wrap (n+(nm.length:Int)+wtV most v)=n+(nm.length:Int)+wtV most v:=IntWalk.i64_in _ (by omega);rw[e];have hr:=j5f most r (n+(nm.length:Int)+wtV most v) (by omega) (by omega);refine⟨by omega,by omega,fun h3=>?_⟩;have:=hr.2.2 h3;have:=hv.2.2 (by omega);omega
  ·rw[if_neg hm];exact⟨by omega,by omega,fun h3=>absurd h3 hm⟩
end
mutual
theorem z6H(n:Nat):∀v:Val,awV v≤n→v.sm n=true
 |.mk k a s l f,h=>by
  simp only[awV]at h;rw[Val.q1Q];simp only[Val.s,Val.l,Val.f];obtain⟨h1,h2⟩:=j4S n l (by omega);obtain⟨h3,h4⟩:=j4R n f (by omega);exact⟨by omega,by omega,by omega,h2,h4⟩
theorem j4S(n:Nat):∀l:List Val,awL l≤n→l.length≤awL l∧∀x∈l,x.sm n=true
 |[],_=>⟨Zai _,fun x hx=>by cases hx⟩
 |v::r,h=>by
  simp only[awL]at h ⊢;obtain⟨h1,h2⟩:=j4S n r (by omega);have h3:=z6H n v (by omega);have h4:1≤awV v:=by cases v;simp only[awV];omega
  refine⟨by simp only[Zaf];omega,fun x hx=>?_⟩;rcases Zar.1 hx with rfl|hx
  ·exact h3
  ·exact h2 x hx
theorem j4R(n:Nat):∀l:List Fld,awF l≤n→l.length≤awF l∧∀x∈l,x.sm n=true
 |[],_=>⟨Zai _,fun x hx=>by cases hx⟩
 |.mk nm v::r,h=>by
  simp only[awF]at h ⊢;obtain⟨h1,h2⟩:=j4R n r (by omega);have h3:=z6H n v (by omega);have h4:1≤awV v:=by cases v;simp only[awV];omega
  refine⟨by simp only[Zaf];omega,fun x hx=>?_⟩;rcases Zar.1 hx with rfl|hx
  ·exact Fld.q1Q.2 ⟨by simp only[Fld.name];omega,h3⟩
  ·exact h2 x hx
end
theorem q9u:∀a b:List Fld,awF (a++b)=awF a+awF b
 |[],b=>by simp[awF]
 |.mk nm v::r,b=>by simp only[Zba,awF,q9u r b];omega
theorem j5l(nm:List UInt8)(x:Val)(f:List Fld):awF (q9g nm x f)≤awF f+nm.length+awV x:=by
 rw[q9g];split
 ·rw[List.set_eq_take_append_cons_drop];split
  ·have h1:=q9u (f.take (posG nm f)) (f.drop (posG nm f+1));have h2:=q9u (f.take (posG nm f)) (f.drop (posG nm f));rw[List.take_append_drop]at h2;rename_i hlt;rw[q30 (Zak hlt),j28]at h2;rw[q9u,awF];omega
  ·omega
 ·have h2:=q9u (f.take (posG nm f)) (f.drop (posG nm f));rw[List.take_append_drop]at h2;rw[q9u,awF];omega
theorem j0w(nm:List UInt8)(x v:Val):awV (q9X nm x v)≤awV v+nm.length+awV x:=by
 have:=j5l nm x v.f;rw[j6v v];simp only[q9X,awV];omega
/-! ### Objects -/
structure ObV where
 n:Int
 v:Val
 st:Bool
 data:List UInt8
def ObV.d(o:ObV):D:=.agg [.int .i64 o.n,.int .i64 o.v.kind,.int .i64 o.v.n,.str o.v.s,.list (q0u o.v.l),.list (q0k o.v.f),.bool o.st,.str o.data]
def lenN:List UInt8:=[76,101,110,103,116,104]
def lenV(n:Nat):Val:=.mk 2 ((n*1000:Nat):Int) [] [] []
def ObV.val(o:ObV):Val:=if o.st=true then q9X lenN (lenV o.data.length) o.v else o.v
def ObV.ok(o:ObV):Prop:=1≤o.n∧o.n≤60∧q2i o.val=0∧(o.st=true→o.v.kind=6∧o.data.length≤20000)∧(o.st=false→o.data=[])
def strT:List UInt8:=[115,116,114,101,97,109,10]
def estT:List UInt8:=[10,101,110,100,115,116,114,101,97,109,10]
def eobT:List UInt8:=[101,110,100,111,98,106,10]
def q4K(o:ObV):List UInt8:=Lib.decDigits o.n.toNat++[32,48,32,111,98,106,10]++q0F o.val++[10]++(if o.st=true then strT++o.data++estT else[])++eobT
theorem z02{v:Val}(h:q2i v=0):(q0F v).length≤600000:=by
 rw[q8U]at h;have:=q7a v h.2;omega
def ObV.lt(o:ObV):Prop:=awV o.v≤20000∧o.data.length≤1000000∧i64 o.n
def q7T:q0l:=
 .seq (.reg [⟨some 1,.box (.t 0),none⟩,Qx 2 (.k (.d (.str []))),Qx 3 (.k (.d .nil))]) (.seq (.seq (.reg [Q 8 (.fa 0 (.t 1)),Q 9 (.ld false 1 (.t 8)),Q 10 (.bin .lss (.t 9) (Ki 
 1)),Qc 11 10,Qg 12 (.fa 0 (.t 1)) 11 false,Qg 13 (.ld false 1 (.t 12)) 11 false,Qg 14 (.bin .gtr (.t 13) (Ki 60)) 11 false,Q 15 (.pick (.t 11) KT (.t 14))]) (.cond (.t 15) 
 (.seq (.reg [Q 16 (.mkI 49 (Ki 1)),Qx 2 (.k (.d (.str []))),Qa 3 16]) .ret) .skip)) (.seq (.reg [Q 17 (.fa 1 (.t 1)),Q 18 (.ld true 5 (.t 17)),⟨some 4,.allo [.int .i64 0, 
 .int .i64 0,.str [],.list [],.list []],none⟩,⟨none,.st 5 (.t 4) (.t 18),none⟩]) (.seq (.seq (.reg [Q 19 (.fa 6 (.t 1)),Q 20 (.ld false 1 (.t 19))]) (.cond (.t 20) (.seq 
 (.seq (.reg [Q 21 (.fa 0 (.t 4)),Q 22 (.ld false 1 (.t 21)),Q 23 (.bin .neq (.t 22) (Ki 6))]) (.cond (.t 23) (.seq (.reg [Q 24 (.mkI 49 (Ki 8)),Qx 2 (.k (.d (.str []))),Qa 3 
 24]) .ret) .skip)) (.seq (.seq (.reg [Q 25 (.fa 7 (.t 1)),Q 26 (.ld false 1 (.t 25)),Q 27 (.len true (.t 26)),Q 28 (.bin .gtr (.t 27) (Ki 20000))]) (.cond (.t 28) (.seq (.reg 
 [Q 29 (.mkI 49 (Ki 2)),Qx 2 (.k (.d (.str []))),Qa 3 29]) .ret) .skip)) (.reg [Q 30 (.ld true 5 (.t 4)),Q 31 (.fa 7 (.t 1)),Q 32 (.ld false 1 (.t 31)),Q 33 (.len true (.t 
 32)),Q 34 (.bin .mul (.t 33) (Ki 1000)),Q 35 (.bld [(0,1),(1,1),(2,1),(3,1),(4,1)] [.int .i64 0,.int .i64 0,.str [],.list [],.list []] [false,false,false,true, 
 true] [(0,.k (.d (.int .i64 2))),(1,.t 34)]),⟨some 36,.call 22 [.t 30,.k (.d (.str [76,101,110,103,116,104])),.t 35],none⟩,⟨none,.st 5 (.t 4) (.t 36),none⟩]))) 
 (.seq (.reg [Q 37 (.fa 7 (.t 1)),Q 38 (.ld false 1 (.t 37)),Q 39 (.bin .neq (.t 38) (.k (.d (.str []))))]) (.cond (.t 39) (.seq (.reg [Q 40 (.mkI 49 (Ki 3)),Qx 2 (.k (.d (.str 
 []))),Qa 3 40]) .ret) .skip)))) (.seq (.reg [Q 42 (.ld true 5 (.t 4)),⟨some 43,.call 30 [.t 42],none⟩,Qc 41 43,Q 44 (.ext 0 (.t 41)),Q 45 (.ext 1 (.t 41)),Qa 5 44,Qa 6 
 45]) (.seq (.seq (.reg [Qc 46 6,Q 47 (.eqN 0 true (.t 46))]) (.cond (.t 47) (.seq (.reg [Qc 48 6,Qx 2 (.k (.d (.str []))),Qa 3 48]) .ret) .skip)) (.seq (.reg [Q 49 (.fa 0 (.t 
 1)),Q 50 (.ld false 1 (.t 49)),⟨some 51,.call 24 [.t 50],none⟩,Q 52 (.bin .add (.t 51) (.k (.d (.str [32,48,32,111,98,106,10])))),Qc 53 5,Q 54 (.bin .add (.t 52) (.t 
 53)),Q 55 (.bin .add (.t 54) (.k (.d (.str [10])))),Qa 7 55]) (.seq (.seq (.reg [Q 56 (.fa 6 (.t 1)),Q 57 (.ld false 1 (.t 56))]) (.cond (.t 57) (.reg [Qc 58 7,Q 59 (.fa 7 
 (.t 1)),Q 60 (.ld false 1 (.t 59)),Q 61 (.bin .add (.k (.d (.str [115,116,114,101,97,109,10]))) (.t 60)),Q 62 (.bin .add (.t 61) (.k (.d (.str [10,101,110,100,115, 
 116,114,101,97,109,10])))),Q 63 (.bin .add (.t 58) (.t 62)),Qa 7 63]) .skip)) (.seq (.reg [Qc 64 7,Q 65 (.bin .add (.t 64) (.k (.d (.str [101,110,100,111,98,106, 
 10])))),Qa 2 65,Qx 3 (.k (.d .nil))]) .ret))))))))
def q7Y:List LRes:=[.tmp 2,.tmp 3]
theorem z2A:q0E Tryz.prog 29 66 q7T q7Y:=⟨_,_,Tryz.func29,rfl,by kernel_rfl,by kernel_rfl,rfl⟩
theorem j0D(o:ObV)(ho:o.lt):q0y Tryz.prog 29 [o.d] (fun r=>((∃e:Nat,e≠0∧r=.tup [.str [],errD e])∧¬o.ok)∨(o.ok∧r=.tup [.str (q4K o),.nil])):=by
 have bad:∀(e:Nat),e≠0→¬o.ok→((∃q:Nat,q≠0∧Res.tup [.str [],.iface 49 (.int .i64 (e:Nat))]=.tup [.str [],errD q])∧¬o.ok)∨(o.ok∧Res.tup [.str [],.iface 49 (.int .i64 (e:Nat))]=.tup [.str (q4K o),.nil]):=fun e he hno=>.inl ⟨⟨e,he,by rw[q2P he]⟩,hno⟩
 have n1:o.n<1→¬o.ok:=fun a h=>by have:=h.1;omega
 have n60:60<o.n→¬o.ok:=fun a h=>by have:=h.2.1;omega
 obtain⟨h1,h2,h3⟩:=ho;have hsm:=z6H 1048576 o.v (by omega);have hset:=z2d o.v (lenV o.data.length) lenN hsm (by rfl);rw[Val.d_eq o.v,Val.d_eq (lenV _),Val.d_eq (q9X _ _ _)]at hset;have tail:∀(v:Val) (hv:v=o.val) (h0:1≤o.n) (h60:o.n≤60) (hk:o.st=true→o.v.kind=6∧o.data.length≤20000) (hd:o.st=false→o.data=[]),q2i v=0→o.ok:=fun v hv h0 h60 hk hd hf=>⟨h0,h60,hv▸hf,hk,hd⟩
 refine z2A.call rfl ?_;cases hst:o.st with
 |true=>
  simp only[go_sem,↓reduceIte,q7T,q7Y,ObV.d,hst];refine⟨fun a1=>⟨fun a2=>bad 1 (by decide) (n60 a2),fun a2=>⟨fun a3=>bad 8 (by decide) fun h=>a3 (h.2.2.2.1 hst).1,fun a3=>⟨fun a4=>bad 2 (by decide) fun h=>by have:=(h.2.2.2.1 hst).2;omega,fun a4=>?_⟩⟩⟩,fun a1=>bad 1 (by decide) (n1 a1)⟩;have e1:IntKind.i64.wrap ((o.data.length:Int)*1000)=((o.data.length*1000:Nat):Int):=by rw[IntWalk.i64_in]<;>omega
  rw[e1];refine q0j.of hset ?_;have hval:q9X lenN (lenV o.data.length) o.v=o.val:=by rw[ObV.val,if_pos hst]
  have hsm2:(q9X lenN (lenV o.data.length) o.v).sm 1048576=true:=z6H _ _ (by
   have:=j0w lenN (lenV o.data.length) o.v;have h5:awV (lenV o.data.length)=1:=rfl;have h6:lenN.length=6:=rfl;omega)
  have htx:=q91 _ hsm2;rw[hval]at htx ⊢;rw[Val.d_eq o.val]at htx;simp only[go_sem,↓reduceIte];refine q0j.of htx ?_;unfold z99
  by_cases hf:q2i o.val=0
  ·have hok:=tail _ rfl (by omega) (by omega) (fun _=>⟨a3,by omega⟩) (fun h=>by rw[hst]at h;cases h) hf;have ht6:=z02 hf;have hn:o.n=((o.n.toNat:Nat):Int):=by omega
   have hno:=q3N o.n.toNat (by omega);have hdl:=q2A (n:=o.n.toNat) (by omega);rw[←hn]at hno;rw[if_pos hf];simp only[go_sem,↓reduceIte,hst];refine q0j.of hno ?_;simp(disch:=omega)only[go_sem,↓reduceIte,hst];simp only[Zad,Zaf,Zag];refine⟨by omega,by omega,by omega,by omega,by omega,by omega,by omega,.inr ⟨hok,?_⟩⟩;rw[q4K,if_pos hst];simp[strT,estT,eobT]
  ·rw[if_neg hf,q2P hf];simp only[go_sem,↓reduceIte];exact bad _ hf fun h=>hf h.2.2.1
 |false=>
  simp only[go_sem,↓reduceIte,q7T,q7Y,ObV.d,hst];refine⟨fun a1=>⟨fun a2=>bad 1 (by decide) (n60 a2),fun a2=>⟨fun a3=>bad 3 (by decide) fun h=>a3 (h.2.2.2.2 hst),fun a3=>?_⟩⟩,fun a1=>bad 1 (by decide) (n1 a1)⟩;have hval:o.v=o.val:=by rw[ObV.val,hst];rfl
  have htx:=q91 _ hsm;rw[Val.d_eq o.v,hval]at htx;rw[hval];refine q0j.of htx ?_;unfold z99
  by_cases hf:q2i o.val=0
  ·have hok:=tail _ rfl (by omega) (by omega) (fun h=>by rw[hst]at h;cases h) (fun _=>a3) hf;have ht6:=z02 hf;have hn:o.n=((o.n.toNat:Nat):Int):=by omega
   have hno:=q3N o.n.toNat (by omega);have hdl:=q2A (n:=o.n.toNat) (by omega);rw[←hn]at hno;rw[if_pos hf];simp only[go_sem,↓reduceIte,hst];refine q0j.of hno ?_;simp(disch:=omega)only[go_sem,↓reduceIte,hst];simp only[Zad,Zaf,Zag];refine⟨by omega,by omega,by omega,by omega,.inr ⟨hok,?_⟩⟩;rw[q4K,hst];simp[eobT]
  ·rw[if_neg hf,q2P hf];simp only[go_sem,↓reduceIte];exact bad _ hf fun h=>hf h.2.2.1
/-! ### What is laid -/
def q2t(l:List ObV):List D:=l.map ObV.d
def q0M(l:List ObV):List UInt8:=l.flatMap q4K
def plcs:Nat→List ObV→List (Nat×Nat)
 |_,[]=>[]
 |k,o::r=>(o.n.toNat,k)::plcs (k+(q4K o).length) r
theorem z4p:∀(k:Nat) (a b:List ObV),plcs k (a++b)=plcs k a++plcs (k+(q0M a).length) b
 |k,[],b=>rfl
 |k,o::a,b=>by
  rw[Zba,plcs,z4p (k+(q4K o).length) a b,plcs,Zba];simp only[q0M,Zbz,Zad,Zbn]
def trlT:List UInt8:=[116,114,97,105,108,101,114,10]
def eofT:List UInt8:=[10,37,37,69,79,70,10]
def layT(s:List UInt8)(l:List ObV)(tl:Val):List UInt8:=
 s++q0M l++(tabT (plcs s.length l)++trlT++q0F tl++([10]++sxT++[10])++Lib.decDigits (s++q0M l).length++eofT)
def q15(s:List UInt8)(l:List ObV)(tl:Val):Prop:=l.length≤60∧(∀o∈l,o.ok)∧(l.map fun o=>o.n).Nodup∧q2i tl=0∧(layT s l tl).length≤60000
theorem j1l{f:Nat→List UInt8}{c:Nat}:∀{l:List Nat},(∀n∈l,(f n).length≤c)→(l.flatMap f).length≤c*l.length
 |[],_=>by simp
 |x::r,h=>by
  have h1:=h x (by simp);have h2:=j1l (l:=r) fun n hn=>h n (by simp[hn])
  rw[Zbz,Zad,Zaf,Nat.mul_succ];omega
theorem z8S{f:Nat→List UInt8}:∀(m:Nat) (l:List Nat),l.length≤m→m≤1000→(∀n∈l,(f n).length≤20∧n<10000000000)→(secT f l).length≤50*l.length
 |0,l,h,_,_=>by
  have:l=[]:=Zbi (by omega);subst this;rw[secT];simp
 |m+1,[],_,_,_=>by rw[secT];simp
 |m+1,x::r,h,hm,hf=>by
  simp only[Zaf]at h;have hk:=z7z x r;have h1:=z8S m (r.drop (runN x r)) (by rw[Zay];omega) (by omega) fun n hn=>hf n (List.mem_cons_of_mem _ (Zbt hn))
  have h2:=q2A (hf x (by simp)).2;have h3:=q2A (n:=runN x r+1) (by omega);have h4:=j1l (f:=f) (c:=20) (l:=(x::r).take (runN x r+1)) fun n hn=>(hf n (Zbj hn)).1
  rw[Zaq,Zaf,Nat.min_eq_left (by omega)]at h4;rw[Zay]at h1;rw[secT];simp only[Zad,Zaf,Zag];omega
theorem z88{ps:List (Nat×Nat)}(hl:ps.length≤1000)(hp:∀p∈ps,p.1<10000000000∧p.2<10000000000):(tabT ps).length≤5+50*ps.length:=by
 have h:=z8S (f:=entT ps) 1000 (srtN (ps.map Prod.fst)) (by rw[q1R,Zbd];exact hl) (Zai _) (fun n hn=>by
  have h1:=(q1S _).subset hn;obtain⟨v,hv⟩:=q59 h1;obtain⟨p,hp1,rfl⟩:=Zap.1 h1;refine⟨?_,(hp p hp1).1⟩;rw[entT,hv,Zbp,linT,Zad,q7o (hp _ (z1Q hv)).2];simp)
 rw[q1R,Zbd]at h;rw[tabT,Zad,show xrT.length=5 from rfl];omega
theorem j0C{o:ObV}(h:o.ok):(q4K o).length≤700000:=by
 obtain⟨h1,h2,h3,h4,h5⟩:=h;have h6:=z02 h3;have h7:=q2A (n:=o.n.toNat) (by omega);have h8:(if o.st=true then strT++o.data++estT else[]).length≤20018:=by
  split
  ·rename_i e;have:=(h4 e).2;simp[strT,estT];omega
  ·simp
 simp only[q4K,Zad,Zaf,Zag,eobT];omega
theorem q88{q:Nat×Nat}:∀{l:List ObV} {k:Nat},q∈plcs k l→(∃o∈l,q.1=o.n.toNat)∧k≤q.2∧q.2≤k+(q0M l).length
 |[],k,h=>by cases h
 |o::r,k,h=>by
  rw[plcs]at h;simp only[q0M,Zbz,Zad];rcases Zar.1 h with rfl|h
  ·exact⟨⟨o,by simp,rfl⟩,Zai _,by simp only;omega⟩
  ·obtain⟨⟨o',h1,h2⟩,h3,h4⟩:=q88 h;simp only[q0M]at h4;exact⟨⟨o',by simp[h1],h2⟩,by omega,by omega⟩
theorem q13:∀(l:List ObV) (k:Nat),(plcs k l).map Prod.fst=l.map fun o=>o.n.toNat
 |[],k=>rfl
 |o::r,k=>by rw[plcs,Zbf,q13 r];rfl
theorem q87(l:List ObV)(k:Nat):(plcs k l).length=l.length:=by
 have:=congrArg List.length (q13 l k);simpa using this
theorem q86{l:List ObV}(h1:∀o∈l,o.ok)(h2:(l.map fun o=>o.n).Nodup):(l.map fun o=>o.n.toNat).Nodup:=by
 rw[List.Nodup,List.pairwise_map]at *;refine h2.imp_of_mem fun{a b} ha hb hne he=>hne ?_
 have:=(h1 a ha).1;have:=(h1 b hb).1;omega
theorem Gh.j7t{σ:St}{a:Nat}{ks vs:List D}(ho:aget σ.L a=some (.mobj ks vs)):Gh σ ⟨amap (AV.frzM a ks vs) σ.ρ,[],σ.H⟩:=fun E n G ts w h=>⟨_,h.frzM ho⟩
def z2M:q0l:=
 .seq (.reg [⟨some 5,.box (.t 2),none⟩,Qx 6 (.k (.d (.str []))),Qx 7 (.k (.d .nil))]) (.seq (.seq (.reg [Qc 18 1,Q 19 (.len false (.t 18)),Q 20 (.bin .gtr (.t 19) (Ki 60))]) 
 (.cond (.t 20) (.seq (.reg [Q 21 (.mkI 49 (Ki 2)),Qx 6 (.k (.d (.str []))),Qa 7 21]) .ret) .skip)) (.seq (.reg [⟨some 22,.prim (.mkMap 54) [] [],none⟩,Qa 8 22]) (.seq (.seq 
 (.reg [Qc 23 1,Q 24 (.len false (.t 23)),Q 25 (.cp (Ki 0))]) (.block 0 (.loop (.seq (.reg [Q 26 (.bin .lss (.t 25) (.t 24))]) (.seq (.cond (.t 26) .skip (.exit 0)) (.seq 
 (.block 1 (.seq (.reg [Q 27 (.ia 8 (.t 23) (.t 25)),Q 28 (.ld true 8 (.t 27)),⟨some 10,.allo [.int .i64 0,.int .i64 0,.int .i64 0,.str [],.list [],.list [],.bool false, 
 .str []],none⟩,⟨none,.st 8 (.t 10) (.t 28),none⟩]) (.seq (.reg [Q 30 (.ld true 8 (.t 10)),⟨some 31,.call 29 [.t 30],none⟩,Qc 29 31,Q 32 (.ext 0 (.t 29)),Q 33 (.ext 1 
 (.t 29)),Qa 11 32,Qa 12 33]) (.seq (.seq (.reg [Qc 34 12,Q 35 (.eqN 0 true (.t 34))]) (.cond (.t 35) (.seq (.reg [Qc 36 12,Qx 6 (.k (.d (.str []))),Qa 7 36]) .ret) .skip)) 
 (.seq (.reg [Qc 38 8,Q 39 (.fa 0 (.t 10)),Q 40 (.ld false 1 (.t 39)),⟨some 41,.prim (.lookup 54 true) [.t 38,.t 40] [],none⟩,Qc 37 41,Q 42 (.ext 0 (.t 37)),Q 43 (.ext 1 
 (.t 37)),Qa 13 42,Qa 14 43]) (.seq (.seq (.reg [Qc 44 14]) (.cond (.t 44) (.seq (.reg [Q 45 (.mkI 49 (Ki 3)),Qx 6 (.k (.d (.str []))),Qa 7 45]) .ret) .skip)) (.seq (.reg [Qc 
 46 8,Q 47 (.fa 0 (.t 10)),Q 48 (.ld false 1 (.t 47)),Qc 49 0,Q 50 (.len true (.t 49)),⟨none,.prim (.mapUpd 54) [.t 46,.t 48,.t 50] [],none⟩]) (.reg [Qc 51 0,Qc 52 11,Q 
 53 (.bin .add (.t 51) (.t 52)),Qa 0 53])))))))) (.reg [Q 54 (.bin .add (.t 25) (Ki 1)),Qc 25 54]))))))) (.seq (.reg [Q 56 (.ld true 5 (.t 5)),⟨some 57,.call 30 [.t 56], 
 none⟩,Qc 55 57,Q 58 (.ext 0 (.t 55)),Q 59 (.ext 1 (.t 55)),Qa 15 58,Qa 16 59]) (.seq (.seq (.reg [Qc 60 16,Q 61 (.eqN 0 true (.t 60))]) (.cond (.t 61) (.seq (.reg [Qc 62 
 16,Qx 6 (.k (.d (.str []))),Qa 7 62]) .ret) .skip)) (.seq (.reg [Qc 63 0,Q 64 (.len true (.t 63)),Qa 17 64]) (.seq (.alt [([Qc 65 0],Qc 66 8)] [⟨some 67,.prim .call [.k 
 (.fn (.func 31) [] []),.t 66] [],none⟩,Q 68 (.bin .add (.t 67) (.k (.d (.str [116,114,97,105,108,101,114,10])))),Qc 69 15,Q 70 (.bin .add (.t 68) (.t 69)),Q 71 (.bin 
 .add (.t 70) (.k (.d (.str [10,115,116,97,114,116,120,114,101,102,10])))),Qc 72 17,⟨some 73,.call 24 [.t 72],none⟩,Q 74 (.bin .add (.t 71) (.t 73)),Q 75 (.bin 
 .add (.t 74) (.k (.d (.str [10,37,37,69,79,70,10])))),Q 76 (.bin .add (.t 65) (.t 75)),Qa 0 76]) (.seq (.seq (.reg [Qc 77 0,Q 78 (.len true (.t 77)),Q 79 (.bin .gtr (.t 
 78) (Ki 60000))]) (.cond (.t 79) (.seq (.reg [Q 80 (.mkI 49 (Ki 2)),Qx 6 (.k (.d (.str []))),Qa 7 80]) .ret) .skip)) (.seq (.reg [Qc 81 0,Qa 6 81,Qx 7 (.k (.d .nil))]) 
 .ret)))))))))
def z2P:List LRes:=[.tmp 6,.tmp 7]
theorem z4e:q0E Tryz.prog 15 82 z2M z2P:=⟨_,_,Tryz.func15,rfl,by kernel_rfl,by kernel_rfl,rfl⟩
theorem z8p(s:List UInt8)(l:List ObV)(tl:Val)(hs:s.length≤1000000)(hl:∀o∈l,o.lt)(ht:tl.sm 1048576=true):
  q0y Tryz.prog 15 [.str s,.list (q2t l),tl.d] (fun r=>((∃e:Nat,e≠0∧r=.tup [.str [],errD e])∧¬q15 s l tl)∨(q15 s l tl∧r=.tup [.str (layT s l tl),.nil])):=by
 have bad:∀(e:Nat),e≠0→¬q15 s l tl→((∃q:Nat,q≠0∧Res.tup [.str [],.iface 49 (.int .i64 (e:Nat))]=.tup [.str [],errD q])∧¬q15 s l tl)∨(q15 s l tl∧Res.tup [.str [],.iface 49 (.int .i64 (e:Nat))]=.tup [.str (layT s l tl),.nil]):=fun e he hno=>.inl ⟨⟨e,he,by rw[q2P he]⟩,hno⟩
 have hlen:(q2t l).length=l.length:=Zbd ..;rw[Val.d_eq tl];refine z4e.call rfl ?_;simp(disch:=omega)only[go_sem,↓reduceIte,z2M,z2P,hlen];refine⟨fun a1=>bad 2 (by decide) fun h=>by have:=h.1;omega,fun a1=>?_⟩;have h60:l.length≤60:=by omega
 refine q0b.mkMap z1R ?_;simp only[go_sem,↓reduceIte];refine q0n (fun i:Nat=>⟨[(0,.d (.str (s++q0M (l.take i)))),(5,.ptr (.l 5) 0),(8,.mp (.l 22)),(23,.d (.list (q2t l))),(24,.d (.int .i64 l.length)),(25,.d (.int .i64 i))],
   [(22,.mobj (ksN (plcs s.length (l.take i))) (vsN (plcs s.length (l.take i)))),(5,.cells [.d (.int .i64 tl.kind),.d (.int .i64 tl.n),.d (.str tl.s),.d (.list (q0u tl.l)),.d (.list (q0k tl.f))])],[]⟩)
  (fun i=>i≤l.length∧(∀o∈l.take i,o.ok)∧((l.take i).map fun o=>o.n).Nodup∧(q0M (l.take i)).length≤700000*i) (fun i=>l.length-i) 0 ?_ ⟨Zbb _,by simp,by simp,by simp[q0M]⟩ ?_
 ·refine Weak.mk ?_ ?_ ?_<;>simp only[go_sem,↓reduceIte,Sub,Zab,Zac,q0M,Zcf,List.flatMap_nil,Zco,plcs,ksN,vsN,Zce,hlen]
 ·rintro i ⟨g1,g2,g3,g4⟩;simp only[go_sem,↓reduceIte];refine⟨fun q1=>?_,fun q1=>?_⟩
  ·obtain⟨o,ho⟩:=get_some (l:=l) (i:=i) (by omega);have hom:=Zae ho;have hg:getI (q2t l) (i:Int)=some o.d:=by rw[q0g,q2t,Zam,ho];rfl
   have htk:l.take (i+1)=l.take i++[o]:=by rw[Zcd,ho];rfl
   have hb:=j0D o (hl o hom);rw[ObV.d]at hb hg;simp(disch:=omega)only[go_sem,↓reduceIte,hg];refine q0j.post hb (fun r hr=>?_);rcases hr with⟨⟨e,he,rfl⟩,hno⟩|⟨hok,rfl⟩
   ·rw[q2P he];simp only[go_sem,↓reduceIte];exact bad e he fun h=>hno (h.2.1 o hom)
   ·simp only[go_sem,↓reduceIte];have hn:o.n=((o.n.toNat:Nat):Int):=by have:=hok.1;omega
    have hlk:=z1S o.n.toNat (plcs s.length (l.take i));rw[←hn]at hlk;have hpa:=z4p s.length (l.take i) [o];rw[←htk,plcs,plcs]at hpa;have hba:q0M (l.take (i+1))=q0M (l.take i)++q4K o:=by rw[htk];simp[q0M]
    have hbl:=j0C hok;refine q0b.j1N (ks:=ksN (plcs s.length (l.take i))) (vs:=vsN (plcs s.length (l.take i))) (key:=.int .i64 o.n) (zero:=.int .i64 0) (s:=.l 22) rfl rfl rfl z1R z9D rfl (q7f _) (by kernel_rfl) ?_;cases hk:lkN (plcs s.length (l.take i)) o.n.toNat with
    |some v=>
     rw[hk]at hlk;simp only[go_sem,↓reduceIte,hlk,Zat,Option.isSome_some];refine bad 3 (by decide) fun h=>?_
     obtain⟨⟨p,hp,he⟩,_,_⟩:=q88 (z1Q hk);have hpo:=g2 p hp;have hne:p.n=o.n:=by
      have h1:=hpo.1;have h2:=hok.1;have he:o.n.toNat=p.n.toNat:=he;omega
     obtain⟨b,hb⟩:=Zbm.1 hp;have hbl:=(Zaa.1 hb).1;rw[Zaq]at hbl;rw[List.getElem?_take_of_lt (by omega)]at hb;have hnd:=h.2.2.1;have e1:(l.map fun o=>o.n)[b]?=some p.n:=by rw[Zam,hb];rfl
     have e2:(l.map fun o=>o.n)[i]?=some p.n:=by rw[Zam,ho,hne];rfl
     obtain⟨q1,q2⟩:=Zaa.1 e1;obtain⟨q3,q4⟩:=Zaa.1 e2;have:=(List.pairwise_iff_getElem.1 hnd b i q1 q3 (by omega));rw[q2,q4]at this;exact this rfl
    |none=>
     rw[hk]at hlk;have hks:ksN (plcs s.length (l.take (i+1)))=ksN (plcs s.length (l.take i))++[.int .i64 o.n]:=by rw[hpa,ksN,List.map_append,hn];rfl
     have hvs:vsN (plcs s.length (l.take (i+1)))=vsN (plcs s.length (l.take i))++[.int .i64 ((s.length+(q0M (l.take i)).length:Nat):Int)]:=by rw[hpa,vsN,List.map_append];rfl
     have hnn:o.n∉(l.take i).map fun o=>o.n:=fun h=>by
      obtain⟨p,hp,he⟩:=Zap.1 h;obtain⟨v,hv⟩:=q59 (n:=o.n.toNat) (ps:=plcs s.length (l.take i)) (by rw[q13];exact Zap.2 ⟨p,hp,by rw[he]⟩);rw[hv]at hk;cases hk
     simp only[go_sem,↓reduceIte,hlk,Option.map_none,Option.isSome_none];refine q0b.j42 (ks:=ksN (plcs s.length (l.take i))) (vs:=vsN (plcs s.length (l.take i))) (key:=.int .i64 o.n) (v:=.int .i64 ((s++q0M (l.take i)).length:Nat)) (s:=.l 22) rfl rfl rfl rfl z1R z9D rfl (q7f _) hlk ?_;rw[Zad,←hks,←hvs];simp(disch:=omega)only[go_sem,↓reduceIte];refine⟨by rw[Zad];omega,i+1,?_,⟨by omega,fun x hx=>?_,?_,by rw[hba,Zad];omega⟩,by omega⟩
     ·refine Weak.mk ?_ ?_ ?_<;>simp only[go_sem,↓reduceIte,Sub,Zab,Zac,hba,List.append_assoc]
     ·rw[htk]at hx;rcases Zau.1 hx with hx|hx
      ·exact g2 x hx
      ·rw[Zbe.1 hx];exact hok
     ·rw[htk,List.map_append,List.nodup_append];exact⟨g3,by simp,fun a ha b hb=>by
       rw[List.map_singleton]at hb;rw[Zbe.1 hb];exact fun e=>hnn (e▸ha)⟩
  ·have e:i=l.length:=by omega
   subst e;rw[Zcq]at g2 g3 g4 ⊢;have htx:=q91 tl ht;rw[Val.d_eq tl]at htx;refine q0j.of htx ?_;unfold z99
   by_cases hf:q2i tl=0
   ·rw[if_pos hf];have h6:=z02 hf;have hpl:=q87 l s.length;have hpm:∀p∈plcs s.length l,p.1<10000000000∧p.2<10000000000:=fun p hp=>by
     obtain⟨⟨o,q1,q2⟩,q3,q4⟩:=q88 hp;have:=(g2 o q1).2.1;exact⟨by omega,by omega⟩
    have htl:=z88 (ps:=plcs s.length l) (by omega) hpm;have htab:=(j2L (plcs s.length l) (by rw[q13];exact q86 g2 g3) (by omega) hpm).q4s (by kernel_rfl);have hit:=q3N (s++q0M l).length (by rw[Zad];omega);have hdl:=q2A (n:=(s++q0M l).length) (by rw[Zad];omega);simp only[go_sem,↓reduceIte];refine q14.ghost (q14.step rfl (fun _ _ _ h=>by cases h) rfl ?_);refine⟨_,Gh.j7t (a:=22) rfl,?_⟩;simp only[go_sem,↓reduceIte,amap,AV.frzM]
    refine q0b.q0G ([]) ([]) rfl (htab) rfl rfl (by simp only[q1b,St.obj,aget,AObj.ren,AV.ren,AV.ren1,renL,q2u,renR,renQ,Zaw,Zax,and_true,and_self,Nat.reduceEqDiff,↓reduceIte,reduceCtorEq]) rfl rfl rfl ⟨rfl,rfl⟩ ?_;simp(disch:=omega)only[go_sem,↓reduceIte];refine⟨by omega,by simp only[Zad,Zaf,Zag];omega,by simp only[Zad,Zaf,Zag];omega,?_⟩;refine q0j.of hit ?_;simp(disch:=omega)only[go_sem,↓reduceIte]
    refine⟨?_,?_,?_,fun a5=>bad 2 (by decide) fun h=>absurd (Int.ofNat_lt.1 a5) (Nat.not_lt.2 h.2.2.2.2),fun a5=>.inr ⟨⟨h60,g2,g3,hf,Int.ofNat_le.1 (Int.not_lt.1 a5)⟩,rfl⟩⟩;all_goals
     simp only[Zad,Zaf,Zag]at hdl ⊢;omega
   ·rw[if_neg hf,q2P hf];simp only[go_sem,↓reduceIte];exact bad _ hf fun h=>hf h.2.2.2.1
def rotN:List UInt8:=[82,111,111,116]
def q0T(n:Int):Val:=.mk 6 0 [] [] [.mk rotN (.mk 7 n [] [] [])]
def hdrT:List UInt8:=[37,80,68,70,45,49,46,52,10]
def q94:q0l:=
 .seq (.reg [Qx 4 (.k (.d (.str []))),Qx 5 (.k (.d .nil))]) (.seq (.seq (.reg [Qc 7 1,Q 8 (.bin .lss (.t 7) (Ki 1)),Qc 9 8,Qd 10 1 9 false,Qg 11 (.bin .gtr (.t 10) (Ki 60)) 9 
 false,Q 12 (.pick (.t 9) KT (.t 11))]) (.cond (.t 12) (.seq (.reg [Q 13 (.mkI 49 (Ki 1)),Qx 4 (.k (.d (.str []))),Qa 5 13]) .ret) .skip)) (.seq (.reg [Qc 14 1,Q 15 (.bld [(0, 
 1),(1,1),(2,1),(3,1),(4,1)] [.int .i64 0,.int .i64 0,.str [],.list [],.list []] [false,false,false,true,true] [(0,.k (.d (.int .i64 7))),(1,.t 14)]),Q 16 
 (.bld [(0,1),(1,5)] [.str [],.int .i64 0,.int .i64 0,.str [],.list [],.list []] [] [(0,.k (.d (.str [82,111,111,116]))),(1,.t 15)]),⟨some 17,.bsl 51 6 [.t 16], 
 none⟩,Q 18 (.bld [(0,1),(1,1),(2,1),(3,1),(4,1)] [.int .i64 0,.int .i64 0,.str [],.list [],.list []] [false,false,false,true,false] [(0,.k (.d (.int .i64 6))), 
 (4,.t 17)]),⟨some 6,.allo [.int .i64 0,.int .i64 0,.str [],.list [],.list []],none⟩,⟨none,.st 5 (.t 6) (.t 18),none⟩]) (.seq (.reg [Qc 19 0,Q 20 (.ld true 5 (.t 6)), 
 ⟨some 21,.call 15 [.k (.d (.str [37,80,68,70,45,49,46,52,10])),.t 19,.t 20],none⟩,Q 22 (.ext 0 (.t 21)),Q 23 (.ext 1 (.t 21)),Qa 4 22,Qa 5 23]) .ret)))
def z0d:List LRes:=[.tmp 4,.tmp 5]
theorem z1G:q0E Tryz.prog 7 24 q94 z0d:=⟨_,_,Tryz.func7,rfl,by kernel_rfl,by kernel_rfl,rfl⟩
theorem z2X(l:List ObV)(n:Int)(hl:∀o∈l,o.lt):
  q0y Tryz.prog 7 [.list (q2t l),.int .i64 n] (fun r=>((∃e:Nat,e≠0∧r=.tup [.str [],errD e])∧¬(1≤n∧n≤60∧q15 hdrT l (q0T n)))∨((1≤n∧n≤60∧q15 hdrT l (q0T n))∧r=.tup [.str (layT hdrT l (q0T n)),.nil])):=by
 have hy:=z8p hdrT l (q0T n) (by decide) hl (by rfl);rw[Val.d_eq (q0T n)]at hy;refine z1G.call rfl ?_;simp only[go_sem,↓reduceIte,q94,z0d];refine⟨fun a1=>⟨fun a2=>.inl ⟨⟨1,by decide,rfl⟩,fun h=>by omega⟩,fun a2=>?_⟩,fun a1=>.inl ⟨⟨1,by decide,rfl⟩,fun h=>by omega⟩⟩;refine q0j.post hy (fun r hr=>?_);rcases hr with⟨⟨e,he,rfl⟩,hno⟩|⟨hok,rfl⟩
 ·simp only[go_sem,↓reduceIte];exact .inl ⟨⟨e,he,rfl⟩,fun h=>hno h.2.2⟩
 ·simp only[go_sem,↓reduceIte];exact .inr ⟨by omega,by omega,hok⟩
end Go.Av.Tryz
