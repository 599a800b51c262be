import Derived.Test.YtfkdhlghpjbbpaaGreatDoorWa
import Derived.Shelf.Unicode.DecodeLast
import Derived.Shelf.LaysM
set_option linter.unusedSimpArgs false
set_option maxRecDepth 100000
namespace Go.Av.Tryz
open Go.Proofs
open Go.Lib (decodeL decodeN decodeN_shape decodeL_N)
def q2c(l:List Nat):List D:=l.map fun(n:Nat)=>D.int .i64 (n:Int)
theorem q0y(l:List Nat):(q2c l).length=l.length:=by simp[q2c]
theorem q5A(a b:List Nat):q2c (a++b)=q2c a++q2c b:=by simp[q2c]
theorem q62(l:List Nat)(j:Nat):(q2c l)[j]?=(l[j]?).map fun(n:Nat)=>D.int .i64 (n:Int):=by simp[q2c]
def cumR(l:List UInt8)(r0:Nat):Nat→Nat
 |0=>r0
 |j+1=>64*cumR l r0 j+(l.getD (j+1) 0).toNat-128
def q7X(l:List UInt8)(j:Nat):Prop:=128≤(l.getD j 0).toNat∧(l.getD j 0).toNat≤191
def q6t(c n r0:Nat):Prop:=(c<128∧n=0∧r0=c)∨(194≤c∧c<224∧n=1∧r0=c-192)∨(224≤c∧c<240∧n=2∧r0=c-224)∨(240≤c∧c<245∧n=3∧r0=c-240)
theorem z9s(l:List UInt8)(h:decodeN l.length (l.getD 0 0).toNat (l.getD 1 0).toNat (l.getD 2 0).toNat (l.getD 3 0).toNat=(65533,1)):bad l=true:=by
 have e:decodeL l=(65533,1):=(decodeL_N l).trans h; simp only[bad,e,decide_true,Bool.and_self]
theorem j0r{l:List UInt8}(hl:0<l.length)(h:∀ n r0,¬ q6t (l.getD 0 0).toNat n r0):bad l=true:=by
 refine z9s l (Lib.decodeN_bad _ _ _ _ _ ?_); have k0:=(l.getD 0 0).toNat_lt
 by_cases a:(l.getD 0 0).toNat<128
 ·exact absurd (.inl ⟨a,rfl,rfl⟩) (h 0 (l.getD 0 0).toNat)
 ·by_cases b:194≤(l.getD 0 0).toNat∧(l.getD 0 0).toNat<224
  ·exact absurd (.inr (.inl ⟨b.1,b.2,rfl,rfl⟩)) (h 1 ((l.getD 0 0).toNat-192))
  ·by_cases c:224≤(l.getD 0 0).toNat∧(l.getD 0 0).toNat<240
   ·exact absurd (.inr (.inr (.inl ⟨c.1,c.2,rfl,rfl⟩))) (h 2 ((l.getD 0 0).toNat-224))
   ·by_cases d:240≤(l.getD 0 0).toNat∧(l.getD 0 0).toNat<245
    ·exact absurd (.inr (.inr (.inr ⟨d.1,d.2,rfl,rfl⟩))) (h 3 ((l.getD 0 0).toNat-240))
    ·omega
theorem q7h{l:List UInt8}{n r0:Nat}(hl:0<l.length)(h:q6t (l.getD 0 0).toNat n r0)(hn:l.length≤n):bad l=true:=by
 refine z9s l ?_; unfold q6t at h; rcases decodeN_shape l.length (l.getD 0 0).toNat (l.getD 1 0).toNat (l.getD 2 0).toNat (l.getD 3 0).toNat with⟨c,e⟩|⟨c1,c2,c3,cv,e⟩|⟨c1,c2,c3,c4,cv,cs,e⟩|⟨c1,c2,c3,c4,c5,cv,cw,e⟩|e; all_goals first|exact e|(exfalso; omega)
theorem q8H{l:List UInt8}{n r0 j:Nat}(hl:0<l.length)(h:q6t (l.getD 0 0).toNat n r0)(h1:1≤j)(hj:j≤n)(hc:¬ q7X l j):bad l=true:=by
 refine z9s l ?_; unfold q6t at h; unfold q7X at hc; have k1:=(l.getD 1 0).toNat_lt; have k2:=(l.getD 2 0).toNat_lt; have k3:=(l.getD 3 0).toNat_lt; have hj3:j=1∨j=2∨j=3:=by omega
 rcases decodeN_shape l.length (l.getD 0 0).toNat (l.getD 1 0).toNat (l.getD 2 0).toNat (l.getD 3 0).toNat with⟨c,e⟩|⟨c1,c2,c3,cv,e⟩|⟨c1,c2,c3,c4,cv,cs,e⟩|⟨c1,c2,c3,c4,c5,cv,cw,e⟩|e; all_goals first
  |exact e
  |(exfalso; omega)
  |(exfalso; rcases hj3 with rfl|rfl|rfl<;>omega)
theorem z0q{l:List UInt8}{n r0:Nat}(h:q6t (l.getD 0 0).toNat n r0)(hl:n<l.length)(hc:∀ j,1≤j→j≤n→q7X l j):
  (((n=2∧cumR l r0 n<2048)∨(n=3∧cumR l r0 n<65536)∨1114111<cumR l r0 n∨(55295<cumR l r0 n∧cumR l r0 n<57344))∧bad l=true)∨
  (¬((n=2∧cumR l r0 n<2048)∨(n=3∧cumR l r0 n<65536)∨1114111<cumR l r0 n∨(55295<cumR l r0 n∧cumR l r0 n<57344))∧bad l=false∧decodeL l=(cumR l r0 n,n+1)):=by
 have hb:∀ r k,decodeN l.length (l.getD 0 0).toNat (l.getD 1 0).toNat (l.getD 2 0).toNat (l.getD 3 0).toNat=(r,k)→(r≠65533∨k≠1)→bad l=false∧decodeL l=(r,k):=fun r k e hk=>by
  refine⟨?_,by rw[decodeL_N,e]⟩; rw[Bool.eq_false_iff]; intro hb; rw[z9t,decodeL_N,e]at hb; simp only at hb; rcases hk with hk|hk
  ·exact hk hb.1
  ·exact hk hb.2
 have k0:=(l.getD 0 0).toNat_lt; unfold q6t at h; rcases h with⟨a,rfl,rfl⟩|⟨a,b,rfl,rfl⟩|⟨a,b,rfl,rfl⟩|⟨a,b,rfl,rfl⟩
 ·right
  simp only[cumR]; refine⟨by omega,hb _ _ ?_ (.inl (by omega))⟩; rw[decodeN,if_pos a]
 ·right
  obtain⟨c1,c2⟩:=hc 1 (by omega) (by omega); have e:cumR l ((l.getD 0 0).toNat-192) 1=(l.getD 0 0).toNat % 32*64+(l.getD 1 0).toNat % 64:=by simp only[cumR,Nat.zero_add,Nat.reduceAdd]; omega
  rw[e]; refine⟨by omega,hb _ _ ?_ (.inr (by omega))⟩; rw[decodeN,if_neg (by omega),if_pos (by omega),if_pos (by omega)]
 ·obtain⟨c1,c2⟩:=hc 1 (by omega) (by omega); obtain⟨d1,d2⟩:=hc 2 (by omega) (by omega); have e:cumR l ((l.getD 0 0).toNat-224) 2=(l.getD 0 0).toNat % 16*4096+(l.getD 1 0).toNat % 64*64+(l.getD 2 0).toNat % 64:=by simp only[cumR,Nat.zero_add,Nat.reduceAdd]; omega
  rw[e]
  by_cases hx:(l.getD 0 0).toNat % 16*4096+(l.getD 1 0).toNat % 64*64+(l.getD 2 0).toNat % 64<2048∨(55295<(l.getD 0 0).toNat % 16*4096+(l.getD 1 0).toNat % 64*64+(l.getD 2 0).toNat % 64∧(l.getD 0 0).toNat % 16*4096+(l.getD 1 0).toNat % 64*64+(l.getD 2 0).toNat % 64<57344)
  ·left
   refine⟨by omega,z9s l ?_⟩; rw[decodeN,if_neg (by omega),if_neg (by omega),if_pos (by omega),if_neg (by omega)]
  ·right
   refine⟨by omega,hb _ _ ?_ (.inr (by omega))⟩; rw[decodeN,if_neg (by omega),if_neg (by omega),if_pos (by omega),if_pos (by omega)]
 ·obtain⟨c1,c2⟩:=hc 1 (by omega) (by omega); obtain⟨d1,d2⟩:=hc 2 (by omega) (by omega); obtain⟨f1,f2⟩:=hc 3 (by omega) (by omega); have e:cumR l ((l.getD 0 0).toNat-240) 3=(l.getD 0 0).toNat % 8*262144+(l.getD 1 0).toNat % 64*4096+(l.getD 2 0).toNat % 64*64+(l.getD 3 0).toNat % 64:=by simp only[cumR,Nat.zero_add,Nat.reduceAdd]; omega
  rw[e]
  by_cases hx:(l.getD 0 0).toNat % 8*262144+(l.getD 1 0).toNat % 64*4096+(l.getD 2 0).toNat % 64*64+(l.getD 3 0).toNat % 64<65536∨1114111<(l.getD 0 0).toNat % 8*262144+(l.getD 1 0).toNat % 64*4096+(l.getD 2 0).toNat % 64*64+(l.getD 3 0).toNat % 64
  ·left
   refine⟨by omega,z9s l ?_⟩; rw[decodeN,if_neg (by omega),if_neg (by omega),if_neg (by omega),if_pos (by omega),if_neg (by omega)]
  ·right
   refine⟨by omega,hb _ _ ?_ (.inr (by omega))⟩; rw[decodeN,if_neg (by omega),if_neg (by omega),if_neg (by omega),if_pos (by omega),if_pos (by omega)]
def q2d(o:Option (List Nat)):Res:=match o with
 |some rs=>.tup [.list (q2c rs),.bool true]
 |none=>.tup [.list [],.bool false]
theorem z3r{l:List UInt8}{n r0:Nat}(h:q6t (l.getD 0 0).toNat n r0):n≤3∧r0<128:=by unfold q6t at h; omega
theorem z7g{l:List UInt8}{n r0:Nat}(h:r0<128):∀ j,j≤3→cumR l r0 j<50000000:=by
 intro j hj; have k1:=(l.getD (0+1) 0).toNat_lt; have k2:=(l.getD (1+1) 0).toNat_lt; have k3:=(l.getD (2+1) 0).toNat_lt; match j,hj with
 |0,_=>simp only[cumR]; omega
 |1,_=>simp only[cumR]; omega
 |2,_=>simp only[cumR]; omega
 |3,_=>simp only[cumR]; omega
 |j+4,h=>omega
def q37:q0i:=
 .seq (.reg [⟨some 2,.nils 3 1,none⟩,Qx 3 KF]) (.seq (.reg [⟨some 4,.nils 3 1,none⟩]) (.seq (.reg [Qx 5 (Ki 0)]) (.seq (.block 0 (.loop (.seq (.seq (.reg [Qc 11 5,Qc 12 0,Q 
 13 (.len true (.t 12)),Q 14 (.bin .lss (.t 11) (.t 13))]) (.cond (.t 14) .skip (.exit 0))) (.block 1 (.seq (.reg [Qc 15 0,Qc 16 5,Q 17 (.idxS (.t 15) (.t 16)),Q 18 (.cvI .i64 
 (.t 17)),Qa 6 18]) (.seq (.reg [Qx 7 (Ki 0)]) (.seq (.reg [Qc 19 6,Qa 8 19]) (.seq (.block 2 (.seq (.reg [Qc 21 6,Q 22 (.bin .lss (.t 21) (Ki 128)),Qa 20 22]) (.cond (.t 20) 
 .skip (.seq (.reg [Qc 24 6,Q 25 (.bin .geq (.t 24) (Ki 194)),Qc 26 25,Qd 27 6 26 true,Qg 28 (.bin .lss (.t 27) (Ki 224)) 26 true,Q 29 (.pick (.t 26) (.t 28) KF),Qa 23 29]) 
 (.cond (.t 23) (.seq (.reg [Qx 7 (Ki 1)]) (.reg [Qc 30 6,Q 31 (.bin .sub (.t 30) (Ki 192)),Qa 8 31])) (.seq (.reg [Qc 33 6,Q 34 (.bin .geq (.t 33) (Ki 224)),Qc 35 34,Qd 36 6 
 35 true,Qg 37 (.bin .lss (.t 36) (Ki 240)) 35 true,Q 38 (.pick (.t 35) (.t 37) KF),Qa 32 38]) (.cond (.t 32) (.seq (.reg [Qx 7 (Ki 2)]) (.reg [Qc 39 6,Q 40 (.bin .sub (.t 39) 
 (Ki 224)),Qa 8 40])) (.seq (.reg [Qc 42 6,Q 43 (.bin .geq (.t 42) (Ki 240)),Qc 44 43,Qd 45 6 44 true,Qg 46 (.bin .lss (.t 45) (Ki 245)) 44 true,Q 47 (.pick (.t 44) (.t 46) 
 KF),Qa 41 47]) (.cond (.t 41) (.seq (.reg [Qx 7 (Ki 3)]) (.reg [Qc 48 6,Q 49 (.bin .sub (.t 48) (Ki 240)),Qa 8 49])) (.seq (.reg [⟨some 2,.nils 3 1,none⟩,Qx 3 KF]) 
 .ret)))))))))) (.seq (.seq (.reg [Qc 50 5,Qc 51 7,Q 52 (.bin .add (.t 50) (.t 51)),Qc 53 0,Q 54 (.len true (.t 53)),Q 55 (.bin .geq (.t 52) (.t 54))]) (.cond (.t 55) (.seq 
 (.reg [⟨some 2,.nils 3 1,none⟩,Qx 3 KF]) .ret) .skip)) (.seq (.seq (.reg [Qx 9 (Ki 1)]) (.block 3 (.loop (.seq (.seq (.reg [Qc 56 9,Qc 57 7,Q 58 (.bin .leq (.t 56) (.t 
 57))]) (.cond (.t 58) .skip (.exit 3))) (.seq (.block 4 (.seq (.reg [Qc 61 0,Qc 62 5,Qc 63 9,Q 64 (.bin .add (.t 62) (.t 63)),Q 65 (.idxS (.t 61) (.t 64)),Q 66 (.cvI .i64 
 (.t 65)),Qa 10 66]) (.seq (.seq (.reg [Qc 67 10,Q 68 (.bin .lss (.t 67) (Ki 128)),Qc 69 68,Qd 70 10 69 false,Qg 71 (.bin .gtr (.t 70) (Ki 191)) 69 false,Q 72 (.pick (.t 69) 
 KT (.t 71))]) (.cond (.t 72) (.seq (.reg [⟨some 2,.nils 3 1,none⟩,Qx 3 KF]) .ret) .skip)) (.reg [Qc 73 8,Q 74 (.bin .mul (Ki 64) (.t 73)),Qc 75 10,Q 76 (.bin .add (.t 74) 
 (.t 75)),Q 77 (.bin .sub (.t 76) (Ki 128)),Qa 8 77])))) (.reg [Qc 59 9,Q 60 (.bin .add (.t 59) (Ki 1)),Qa 9 60])))))) (.seq (.seq (.reg [Qc 78 7,Q 79 (.bin .eql (.t 78) (Ki 
 2)),Qc 80 79,Qd 81 8 80 true,Qg 82 (.bin .lss (.t 81) (Ki 2048)) 80 true,Q 83 (.pick (.t 80) (.t 82) KF),Qc 84 83,Qd 85 7 84 false,Qg 86 (.bin .eql (.t 85) (Ki 3)) 84 
 false,Qd 87 86 84 false,Qd 88 8 87 true,Qg 89 (.bin .lss (.t 88) (Ki 65536)) 87 true,Qg 90 (.pick (.t 87) (.t 89) KF) 84 false,Q 91 (.pick (.t 84) KT (.t 90)),Qc 92 91,Qd 
 93 8 92 false,Qg 94 (.bin .gtr (.t 93) (Ki 1114111)) 92 false,Q 95 (.pick (.t 92) KT (.t 94)),Qc 96 95,Qd 97 8 96 false,Qg 98 (.bin .gtr (.t 97) (Ki 55295)) 96 false,Qd 99 
 98 96 false,Qd 100 8 99 true,Qg 101 (.bin .lss (.t 100) (Ki 57344)) 99 true,Qg 102 (.pick (.t 99) (.t 101) KF) 96 false,Q 103 (.pick (.t 96) KT (.t 102))]) (.cond (.t 103) 
 (.seq (.reg [⟨some 2,.nils 3 1,none⟩,Qx 3 KF]) .ret) .skip)) (.seq (.reg [Qc 104 4,Qc 105 8,⟨some 106,.bsl 3 1 [.t 105],none⟩,⟨some 107,.app 3 1 8 false (.t 104) (.t 
 106),none⟩,Qa 4 107]) (.reg [Qc 108 5,Qc 109 7,Q 110 (.bin .add (.t 108) (.t 109)),Q 111 (.bin .add (.t 110) (Ki 1)),Qa 5 111]))))))))))))) (.seq (.reg [Qc 112 4,Qa 2 112, 
 Qx 3 KT]) .ret))))
def q4d:List LRes:=[.tmp 2,.tmp 3]
theorem q5K:q0r Tryz.prog 64 113 q37 q4d:=⟨_,_,Tryz.func64,rfl,by kernel_rfl,by kernel_rfl,rfl⟩
theorem q9z(s:List UInt8)(hs:s.length≤1000000000):q0s Tryz.prog 64 [.str s] (fun r=>r=q2d (q0Y s)):=by
 refine q5K.call rfl ?_; simp(maxSteps:=2000000)only[go_sem,↓reduceIte,q37,q4d]; refine q0l (fun y:Nat×List Nat=>⟨[(0,.d (.str s)),(4,.own (.t 4) 3 1 (q2c y.2)),(5,.d (.int .i64 y.1))],[],[]⟩)
  (fun y=>y.1≤s.length∧y.2.length≤y.1∧(q0Y (s.drop y.1)).map (y.2++·)=q0Y s) (fun y=>s.length-y.1) (0,[]) ?_ ?_ ?_
 ·refine q0d ?_ trivial; simp(maxSteps:=2000000)only[go_sem,↓reduceIte,Sub,Int.natCast_add,Int.natCast_mul,q2c]
 ·exact⟨Nat.zero_le _,Nat.le_refl _,by simp⟩
 ·rintro⟨i,acc⟩ ⟨hi,ha,hF⟩; simp only at hi ha hF; have hacc:=q0y acc; simp(maxSteps:=2000000)only[go_sem,↓reduceIte]; refine⟨fun hlt=>?_,fun hge=>?_⟩
  ·obtain⟨c,hc⟩:=get_some (l:=s) (i:=i) (by omega); have hc8:=q4o c; have hne:s.drop i≠[]:=fun h=>by have:=List.drop_eq_nil_iff.1 h; omega
   have hlen:(s.drop i).length=s.length-i:=List.length_drop; have hg0:(s.drop i).getD 0 0=c:=by rw[List.getD_eq_getElem?_getD,List.getElem?_drop]; simp[hc]
   rw[z1C hne]at hF; have bad':bad (s.drop i)=true→Res.tup [D.list [],D.bool false]=q2d (q0Y s):=fun h=>by rw[if_pos h]at hF; rw[← hF]; rfl
   by_cases a:c.toNat<128
   ·have z0:((c.toNat:Int)<128)=True:=eq_true (by omega); have hlead:q6t ((s.drop i).getD 0 0).toNat 0 (c.toNat):=by rw[hg0]; unfold q6t; omega
    obtain⟨q1,q2⟩:=z3r hlead; have e0:((cumR (s.drop i) (c.toNat) 0:Nat):Int)=(c.toNat:Int):=by unfold cumR; omega
    simp(maxSteps:=2000000)(disch:=omega)only[go_sem,↓reduceIte,q0a,hc,z0]; refine⟨fun h=>bad' (q7h (by omega) hlead (by omega)),fun h=>?_⟩; refine q0l (fun j:Nat=>⟨[(0,.d (.str s)),(4,.own (.t 4) 3 1 (q2c acc)),(5,.d (.int .i64 i)),(7,.d (.int .i64 0)),(8,.d (.int .i64 (cumR (s.drop i) (c.toNat) j:Nat))),(9,.d (.int .i64 ((j:Int)+1)))],[],[]⟩)
     (fun j=>j≤0∧∀ k,1≤k→k≤j→q7X (s.drop i) k) (fun j=>0-j) 0 ?_ ?_ ?_
    ·refine q0d ?_ trivial; simp(maxSteps:=2000000)only[go_sem,↓reduceIte,Sub,Int.natCast_add,Int.natCast_mul,e0]
    ·exact⟨by omega,fun k h1 h2=>by omega⟩
    ·rintro j ⟨hj,hcj⟩; have hcum:=z7g (l:=s.drop i) (n:=0) q2 j (by omega); have zj:(((j:Int)+1≤0))=(j<0):=propext (by omega); simp(maxSteps:=2000000)(disch:=omega)only[go_sem,↓reduceIte,zj]; refine⟨fun hj1=>?_,fun hj1=>?_⟩
     ·obtain⟨d,hd⟩:=get_some (l:=s) (i:=i+(j+1)) (by omega); have hd8:=q4o d; have hgd:getI s ((i:Int)+((j:Int)+1))=some d:=by rw[← hd,← q0a]; congr 1
      have hgd':(s.drop i).getD (j+1) 0=d:=by rw[List.getD_eq_getElem?_getD,List.getElem?_drop]; simp[hd]
      have hbad:¬(128≤d.toNat∧d.toNat≤191)→bad (s.drop i)=true:=fun h=>q8H (by omega) hlead (j:=j+1) (by omega) (by omega) (by unfold q7X; rw[hgd']; exact h)
      have hnext:128≤d.toNat→((cumR (s.drop i) (c.toNat) (j+1):Nat):Int)=64*(cumR (s.drop i) (c.toNat) j:Nat)+d.toNat-128:=fun h=>by simp only[cumR,hgd']; omega
      simp(maxSteps:=2000000)(disch:=omega)only[go_sem,↓reduceIte,hgd]; refine⟨fun h1=>⟨fun h2=>bad' (hbad (by omega)),fun h2=>⟨j+1,?_,⟨by omega,fun k k1 k2=>?_⟩,by omega⟩⟩,fun h1=>bad' (hbad (by omega))⟩
      ·have hn:=hnext (by omega); refine q0d ?_ trivial; simp(maxSteps:=2000000)only[go_sem,↓reduceIte,Sub,Int.natCast_add,Int.natCast_mul,hn]
      ·by_cases hk:k=j+1
       ·subst hk; unfold q7X; rw[hgd']; omega
       ·exact hcj k k1 (by omega)
     ·have hjN:j=0:=by omega
      subst hjN; have hfin:=z0q hlead (by omega) (fun k k1 k2=>hcj k k1 k2); generalize cumR (s.drop i) (c.toNat) 0=R at *; clear e0; simp(maxSteps:=2000000)(disch:=omega)only[go_sem,↓reduceIte]; have eN:((i+1:Nat):Int)=(i:Int)+0+1:=by omega
      have zz:q2c acc++[D.int .i64 (R:Int)]=q2c (acc++[R]):=by rw[q5A]; rfl
      rcases hfin with⟨hx,hb⟩|⟨hx,hb,hdec⟩
      ·repeat' (first|intro _|apply And.intro)
       all_goals first|exact bad' hb|(exfalso; omega)
      ·rw[hb,if_neg (by decide),hdec]at hF; simp only at hF; have hF2:(q0Y (s.drop (i+1))).map ((acc++[R])++·)=q0Y s:=by
        rw[List.drop_drop]at hF; rw[← hF]; cases q0Y (s.drop (i+1))<;>simp
       repeat' (first|intro _|apply And.intro)
       all_goals first|(exfalso; omega)|omega|skip
       all_goals refine⟨(i+1,acc++[R]),?_,⟨by simp only; omega,by simp only[List.length_append,List.length_cons,List.length_nil]; omega,hF2⟩,by simp only; omega⟩
       all_goals(refine q0d ?_ trivial; simp(maxSteps:=2000000)only[go_sem,↓reduceIte,Sub,Int.natCast_add,Int.natCast_mul,zz,eN])
   by_cases b:194≤c.toNat∧c.toNat<224
   ·have z0:((c.toNat:Int)<128)=False:=eq_false (by omega); have z1:(194≤(c.toNat:Int))=True:=eq_true (by omega); have z2:((c.toNat:Int)<224)=True:=eq_true (by omega); have hlead:q6t ((s.drop i).getD 0 0).toNat 1 (c.toNat-192):=by rw[hg0]; unfold q6t; omega
    obtain⟨q1,q2⟩:=z3r hlead; have e0:((cumR (s.drop i) (c.toNat-192) 0:Nat):Int)=(c.toNat:Int)-192:=by unfold cumR; omega
    simp(maxSteps:=2000000)(disch:=omega)only[go_sem,↓reduceIte,q0a,hc,z0,z1,z2]; refine⟨fun h=>bad' (q7h (by omega) hlead (by omega)),fun h=>?_⟩; refine q0l (fun j:Nat=>⟨[(0,.d (.str s)),(4,.own (.t 4) 3 1 (q2c acc)),(5,.d (.int .i64 i)),(7,.d (.int .i64 1)),(8,.d (.int .i64 (cumR (s.drop i) (c.toNat-192) j:Nat))),(9,.d (.int .i64 ((j:Int)+1)))],[],[]⟩)
     (fun j=>j≤1∧∀ k,1≤k→k≤j→q7X (s.drop i) k) (fun j=>1-j) 0 ?_ ?_ ?_
    ·refine q0d ?_ trivial; simp(maxSteps:=2000000)only[go_sem,↓reduceIte,Sub,Int.natCast_add,Int.natCast_mul,e0]
    ·exact⟨by omega,fun k h1 h2=>by omega⟩
    ·rintro j ⟨hj,hcj⟩; have hcum:=z7g (l:=s.drop i) (n:=1) q2 j (by omega); have zj:(((j:Int)+1≤1))=(j<1):=propext (by omega); simp(maxSteps:=2000000)(disch:=omega)only[go_sem,↓reduceIte,zj]; refine⟨fun hj1=>?_,fun hj1=>?_⟩
     ·obtain⟨d,hd⟩:=get_some (l:=s) (i:=i+(j+1)) (by omega); have hd8:=q4o d; have hgd:getI s ((i:Int)+((j:Int)+1))=some d:=by rw[← hd,← q0a]; congr 1
      have hgd':(s.drop i).getD (j+1) 0=d:=by rw[List.getD_eq_getElem?_getD,List.getElem?_drop]; simp[hd]
      have hbad:¬(128≤d.toNat∧d.toNat≤191)→bad (s.drop i)=true:=fun h=>q8H (by omega) hlead (j:=j+1) (by omega) (by omega) (by unfold q7X; rw[hgd']; exact h)
      have hnext:128≤d.toNat→((cumR (s.drop i) (c.toNat-192) (j+1):Nat):Int)=64*(cumR (s.drop i) (c.toNat-192) j:Nat)+d.toNat-128:=fun h=>by simp only[cumR,hgd']; omega
      simp(maxSteps:=2000000)(disch:=omega)only[go_sem,↓reduceIte,hgd]; refine⟨fun h1=>⟨fun h2=>bad' (hbad (by omega)),fun h2=>⟨j+1,?_,⟨by omega,fun k k1 k2=>?_⟩,by omega⟩⟩,fun h1=>bad' (hbad (by omega))⟩
      ·have hn:=hnext (by omega); refine q0d ?_ trivial; simp(maxSteps:=2000000)only[go_sem,↓reduceIte,Sub,Int.natCast_add,Int.natCast_mul,hn]
      ·by_cases hk:k=j+1
       ·subst hk; unfold q7X; rw[hgd']; omega
       ·exact hcj k k1 (by omega)
     ·have hjN:j=1:=by omega
      subst hjN; have hfin:=z0q hlead (by omega) (fun k k1 k2=>hcj k k1 k2); generalize cumR (s.drop i) (c.toNat-192) 1=R at *; clear e0; simp(maxSteps:=2000000)(disch:=omega)only[go_sem,↓reduceIte]; have eN:((i+2:Nat):Int)=(i:Int)+1+1:=by omega
      have zz:q2c acc++[D.int .i64 (R:Int)]=q2c (acc++[R]):=by rw[q5A]; rfl
      rcases hfin with⟨hx,hb⟩|⟨hx,hb,hdec⟩
      ·repeat' (first|intro _|apply And.intro)
       all_goals first|exact bad' hb|(exfalso; omega)
      ·rw[hb,if_neg (by decide),hdec]at hF; simp only at hF; have hF2:(q0Y (s.drop (i+2))).map ((acc++[R])++·)=q0Y s:=by
        rw[List.drop_drop]at hF; rw[← hF]; cases q0Y (s.drop (i+2))<;>simp
       repeat' (first|intro _|apply And.intro)
       all_goals first|(exfalso; omega)|omega|skip
       all_goals refine⟨(i+2,acc++[R]),?_,⟨by simp only; omega,by simp only[List.length_append,List.length_cons,List.length_nil]; omega,hF2⟩,by simp only; omega⟩
       all_goals(refine q0d ?_ trivial; simp(maxSteps:=2000000)only[go_sem,↓reduceIte,Sub,Int.natCast_add,Int.natCast_mul,zz,eN])
   by_cases b2:224≤c.toNat∧c.toNat<240
   ·have z0:((c.toNat:Int)<128)=False:=eq_false (by omega); have z1:(194≤(c.toNat:Int))=True:=eq_true (by omega); have z2:((c.toNat:Int)<224)=False:=eq_false (by omega); have z3:(224≤(c.toNat:Int))=True:=eq_true (by omega); have z4:((c.toNat:Int)<240)=True:=eq_true (by omega); have hlead:q6t ((s.drop i).getD 0 0).toNat 2 (c.toNat-224):=by rw[hg0]; unfold q6t; omega
    obtain⟨q1,q2⟩:=z3r hlead; have e0:((cumR (s.drop i) (c.toNat-224) 0:Nat):Int)=(c.toNat:Int)-224:=by unfold cumR; omega
    simp(maxSteps:=2000000)(disch:=omega)only[go_sem,↓reduceIte,q0a,hc,z0,z1,z2,z3,z4]; refine⟨fun h=>bad' (q7h (by omega) hlead (by omega)),fun h=>?_⟩; refine q0l (fun j:Nat=>⟨[(0,.d (.str s)),(4,.own (.t 4) 3 1 (q2c acc)),(5,.d (.int .i64 i)),(7,.d (.int .i64 2)),(8,.d (.int .i64 (cumR (s.drop i) (c.toNat-224) j:Nat))),(9,.d (.int .i64 ((j:Int)+1)))],[],[]⟩)
     (fun j=>j≤2∧∀ k,1≤k→k≤j→q7X (s.drop i) k) (fun j=>2-j) 0 ?_ ?_ ?_
    ·refine q0d ?_ trivial; simp(maxSteps:=2000000)only[go_sem,↓reduceIte,Sub,Int.natCast_add,Int.natCast_mul,e0]
    ·exact⟨by omega,fun k h1 h2=>by omega⟩
    ·rintro j ⟨hj,hcj⟩; have hcum:=z7g (l:=s.drop i) (n:=2) q2 j (by omega); have zj:(((j:Int)+1≤2))=(j<2):=propext (by omega); simp(maxSteps:=2000000)(disch:=omega)only[go_sem,↓reduceIte,zj]; refine⟨fun hj1=>?_,fun hj1=>?_⟩
     ·obtain⟨d,hd⟩:=get_some (l:=s) (i:=i+(j+1)) (by omega); have hd8:=q4o d; have hgd:getI s ((i:Int)+((j:Int)+1))=some d:=by rw[← hd,← q0a]; congr 1
      have hgd':(s.drop i).getD (j+1) 0=d:=by rw[List.getD_eq_getElem?_getD,List.getElem?_drop]; simp[hd]
      have hbad:¬(128≤d.toNat∧d.toNat≤191)→bad (s.drop i)=true:=fun h=>q8H (by omega) hlead (j:=j+1) (by omega) (by omega) (by unfold q7X; rw[hgd']; exact h)
      have hnext:128≤d.toNat→((cumR (s.drop i) (c.toNat-224) (j+1):Nat):Int)=64*(cumR (s.drop i) (c.toNat-224) j:Nat)+d.toNat-128:=fun h=>by simp only[cumR,hgd']; omega
      simp(maxSteps:=2000000)(disch:=omega)only[go_sem,↓reduceIte,hgd]; refine⟨fun h1=>⟨fun h2=>bad' (hbad (by omega)),fun h2=>⟨j+1,?_,⟨by omega,fun k k1 k2=>?_⟩,by omega⟩⟩,fun h1=>bad' (hbad (by omega))⟩
      ·have hn:=hnext (by omega); refine q0d ?_ trivial; simp(maxSteps:=2000000)only[go_sem,↓reduceIte,Sub,Int.natCast_add,Int.natCast_mul,hn]
      ·by_cases hk:k=j+1
       ·subst hk; unfold q7X; rw[hgd']; omega
       ·exact hcj k k1 (by omega)
     ·have hjN:j=2:=by omega
      subst hjN; have hfin:=z0q hlead (by omega) (fun k k1 k2=>hcj k k1 k2); generalize cumR (s.drop i) (c.toNat-224) 2=R at *; clear e0; simp(maxSteps:=2000000)(disch:=omega)only[go_sem,↓reduceIte]; have eN:((i+3:Nat):Int)=(i:Int)+2+1:=by omega
      have zz:q2c acc++[D.int .i64 (R:Int)]=q2c (acc++[R]):=by rw[q5A]; rfl
      rcases hfin with⟨hx,hb⟩|⟨hx,hb,hdec⟩
      ·repeat' (first|intro _|apply And.intro)
       all_goals first|exact bad' hb|(exfalso; omega)
      ·rw[hb,if_neg (by decide),hdec]at hF; simp only at hF; have hF2:(q0Y (s.drop (i+3))).map ((acc++[R])++·)=q0Y s:=by
        rw[List.drop_drop]at hF; rw[← hF]; cases q0Y (s.drop (i+3))<;>simp
       repeat' (first|intro _|apply And.intro)
       all_goals first|(exfalso; omega)|omega|skip
       all_goals refine⟨(i+3,acc++[R]),?_,⟨by simp only; omega,by simp only[List.length_append,List.length_cons,List.length_nil]; omega,hF2⟩,by simp only; omega⟩
       all_goals(refine q0d ?_ trivial; simp(maxSteps:=2000000)only[go_sem,↓reduceIte,Sub,Int.natCast_add,Int.natCast_mul,zz,eN])
   by_cases b3:240≤c.toNat∧c.toNat<245
   ·have z0:((c.toNat:Int)<128)=False:=eq_false (by omega); have z1:(194≤(c.toNat:Int))=True:=eq_true (by omega); have z2:((c.toNat:Int)<224)=False:=eq_false (by omega); have z3:(224≤(c.toNat:Int))=True:=eq_true (by omega); have z4:((c.toNat:Int)<240)=False:=eq_false (by omega); have z5:(240≤(c.toNat:Int))=True:=eq_true (by omega); have z6:((c.toNat:Int)<245)=True:=eq_true (by omega); have hlead:q6t ((s.drop i).getD 0 0).toNat 3 (c.toNat-240):=by rw[hg0]; unfold q6t; omega
    obtain⟨q1,q2⟩:=z3r hlead; have e0:((cumR (s.drop i) (c.toNat-240) 0:Nat):Int)=(c.toNat:Int)-240:=by unfold cumR; omega
    simp(maxSteps:=2000000)(disch:=omega)only[go_sem,↓reduceIte,q0a,hc,z0,z1,z2,z3,z4,z5,z6]; refine⟨fun h=>bad' (q7h (by omega) hlead (by omega)),fun h=>?_⟩; refine q0l (fun j:Nat=>⟨[(0,.d (.str s)),(4,.own (.t 4) 3 1 (q2c acc)),(5,.d (.int .i64 i)),(7,.d (.int .i64 3)),(8,.d (.int .i64 (cumR (s.drop i) (c.toNat-240) j:Nat))),(9,.d (.int .i64 ((j:Int)+1)))],[],[]⟩)
     (fun j=>j≤3∧∀ k,1≤k→k≤j→q7X (s.drop i) k) (fun j=>3-j) 0 ?_ ?_ ?_
    ·refine q0d ?_ trivial; simp(maxSteps:=2000000)only[go_sem,↓reduceIte,Sub,Int.natCast_add,Int.natCast_mul,e0]
    ·exact⟨by omega,fun k h1 h2=>by omega⟩
    ·rintro j ⟨hj,hcj⟩; have hcum:=z7g (l:=s.drop i) (n:=3) q2 j (by omega); have zj:(((j:Int)+1≤3))=(j<3):=propext (by omega); simp(maxSteps:=2000000)(disch:=omega)only[go_sem,↓reduceIte,zj]; refine⟨fun hj1=>?_,fun hj1=>?_⟩
     ·obtain⟨d,hd⟩:=get_some (l:=s) (i:=i+(j+1)) (by omega); have hd8:=q4o d; have hgd:getI s ((i:Int)+((j:Int)+1))=some d:=by rw[← hd,← q0a]; congr 1
      have hgd':(s.drop i).getD (j+1) 0=d:=by rw[List.getD_eq_getElem?_getD,List.getElem?_drop]; simp[hd]
      have hbad:¬(128≤d.toNat∧d.toNat≤191)→bad (s.drop i)=true:=fun h=>q8H (by omega) hlead (j:=j+1) (by omega) (by omega) (by unfold q7X; rw[hgd']; exact h)
      have hnext:128≤d.toNat→((cumR (s.drop i) (c.toNat-240) (j+1):Nat):Int)=64*(cumR (s.drop i) (c.toNat-240) j:Nat)+d.toNat-128:=fun h=>by simp only[cumR,hgd']; omega
      simp(maxSteps:=2000000)(disch:=omega)only[go_sem,↓reduceIte,hgd]; refine⟨fun h1=>⟨fun h2=>bad' (hbad (by omega)),fun h2=>⟨j+1,?_,⟨by omega,fun k k1 k2=>?_⟩,by omega⟩⟩,fun h1=>bad' (hbad (by omega))⟩
      ·have hn:=hnext (by omega); refine q0d ?_ trivial; simp(maxSteps:=2000000)only[go_sem,↓reduceIte,Sub,Int.natCast_add,Int.natCast_mul,hn]
      ·by_cases hk:k=j+1
       ·subst hk; unfold q7X; rw[hgd']; omega
       ·exact hcj k k1 (by omega)
     ·have hjN:j=3:=by omega
      subst hjN; have hfin:=z0q hlead (by omega) (fun k k1 k2=>hcj k k1 k2); generalize cumR (s.drop i) (c.toNat-240) 3=R at *; clear e0; simp(maxSteps:=2000000)(disch:=omega)only[go_sem,↓reduceIte]; have eN:((i+4:Nat):Int)=(i:Int)+3+1:=by omega
      have zz:q2c acc++[D.int .i64 (R:Int)]=q2c (acc++[R]):=by rw[q5A]; rfl
      rcases hfin with⟨hx,hb⟩|⟨hx,hb,hdec⟩
      ·repeat' (first|intro _|apply And.intro)
       all_goals first|exact bad' hb|(exfalso; omega)
      ·rw[hb,if_neg (by decide),hdec]at hF; simp only at hF; have hF2:(q0Y (s.drop (i+4))).map ((acc++[R])++·)=q0Y s:=by
        rw[List.drop_drop]at hF; rw[← hF]; cases q0Y (s.drop (i+4))<;>simp
       repeat' (first|intro _|apply And.intro)
       all_goals first|(exfalso; omega)|omega|skip
       all_goals refine⟨(i+4,acc++[R]),?_,⟨by simp only; omega,by simp only[List.length_append,List.length_cons,List.length_nil]; omega,hF2⟩,by simp only; omega⟩
       all_goals(refine q0d ?_ trivial; simp(maxSteps:=2000000)only[go_sem,↓reduceIte,Sub,Int.natCast_add,Int.natCast_mul,zz,eN])
   have hnone:bad (s.drop i)=true:=j0r (by omega) (by rw[hg0]; intro n r0 h; unfold q6t at h; omega); have z0:((c.toNat:Int)<128)=False:=eq_false (by omega); simp(maxSteps:=2000000)(disch:=omega)only[go_sem,↓reduceIte,q0a,hc,z0]; repeat' (first|intro _|apply And.intro)
   all_goals first|exact bad' hnone|(exfalso; omega)
  ·have:s.drop i=[]:=List.drop_eq_nil_of_le (by omega); rw[this,z8O]at hF; rw[← hF]; simp(maxSteps:=2000000)only[go_sem,↓reduceIte]; simp[q2d]
end Go.Av.Tryz
set_option linter.unusedSimpArgs false
set_option maxRecDepth 100000
namespace Go.Av.Tryz
open Go.Proofs
theorem q7Y(a b:List Nat):encM (a++b)=encM a++encM b:=by simp[encM]
theorem z7i:∀{l:List Nat},(∀ r∈l,q3Z r)→(encM l).length≤4*l.length
 |[],_=>by simp[encM]
 |r::l,h=>by
  have h1:=z3c (h r (by simp)); have ih:=z7i fun x hx=>h x (List.mem_cons_of_mem _ hx)
  have:encM (r::l)=enc r++encM l:=rfl; rw[this,List.length_append,List.length_cons]; omega
def q38:q0i:=
 .seq (.reg [Qx 2 (.k (.d (.str [])))]) (.seq (.reg [⟨some 3,.nils 5 1,none⟩]) (.seq (.seq (.reg [Qx 4 (Ki 0)]) (.block 0 (.loop (.seq (.seq (.reg [Qc 6 4,Qc 7 0,Q 8 (.len false 
 (.t 7)),Q 9 (.bin .lss (.t 6) (.t 8))]) (.cond (.t 9) .skip (.exit 0))) (.seq (.block 1 (.seq (.reg [Qc 12 0,Qc 13 4,Q 14 (.ia 1 (.t 12) (.t 13)),Q 15 (.ld false 1 (.t 14)), 
 Qa 5 15]) (.block 2 (.seq (.reg [Qc 38 5,Q 39 (.bin .lss (.t 38) (Ki 128)),Qa 37 39]) (.cond (.t 37) (.reg [Qc 40 3,Qc 41 5,Q 42 (.cvI .u8 (.t 41)),⟨some 43,.bsl 5 1 [.t 
 42],none⟩,⟨some 44,.app 5 1 1 false (.t 40) (.t 43),none⟩,Qa 3 44]) (.seq (.reg [Qc 46 5,Q 47 (.bin .lss (.t 46) (Ki 2048)),Qa 45 47]) (.cond (.t 45) (.reg [Qc 48 3,Qc 49 
 5,Q 50 (.bin .quo (.t 49) (Ki 64)),Q 51 (.bin .add (Ki 192) (.t 50)),Q 52 (.cvI .u8 (.t 51)),Qc 53 5,Q 54 (.bin .rem (.t 53) (Ki 64)),Q 55 (.bin .add (Ki 128) (.t 54)),Q 
 56 (.cvI .u8 (.t 55)),⟨some 57,.bsl 5 1 [.t 52,.t 56],none⟩,⟨some 58,.app 5 1 1 false (.t 48) (.t 57),none⟩,Qa 3 58]) (.seq (.reg [Qc 60 5,Q 61 (.bin .lss (.t 60) (Ki 
 65536)),Qa 59 61]) (.cond (.t 59) (.reg [Qc 62 3,Qc 63 5,Q 64 (.bin .quo (.t 63) (Ki 4096)),Q 65 (.bin .add (Ki 224) (.t 64)),Q 66 (.cvI .u8 (.t 65)),Qc 67 5,Q 68 (.bin 
 .quo (.t 67) (Ki 64)),Q 69 (.bin .rem (.t 68) (Ki 64)),Q 70 (.bin .add (Ki 128) (.t 69)),Q 71 (.cvI .u8 (.t 70)),Qc 72 5,Q 73 (.bin .rem (.t 72) (Ki 64)),Q 74 (.bin .add 
 (Ki 128) (.t 73)),Q 75 (.cvI .u8 (.t 74)),⟨some 76,.bsl 5 1 [.t 66,.t 71,.t 75],none⟩,⟨some 77,.app 5 1 1 false (.t 62) (.t 76),none⟩,Qa 3 77]) (.reg [Qc 16 3,Qc 17 5, 
 Q 18 (.bin .quo (.t 17) (Ki 262144)),Q 19 (.bin .add (Ki 240) (.t 18)),Q 20 (.cvI .u8 (.t 19)),Qc 21 5,Q 22 (.bin .quo (.t 21) (Ki 4096)),Q 23 (.bin .rem (.t 22) (Ki 64)),Q 
 24 (.bin .add (Ki 128) (.t 23)),Q 25 (.cvI .u8 (.t 24)),Qc 26 5,Q 27 (.bin .quo (.t 26) (Ki 64)),Q 28 (.bin .rem (.t 27) (Ki 64)),Q 29 (.bin .add (Ki 128) (.t 28)),Q 30 
 (.cvI .u8 (.t 29)),Qc 31 5,Q 32 (.bin .rem (.t 31) (Ki 64)),Q 33 (.bin .add (Ki 128) (.t 32)),Q 34 (.cvI .u8 (.t 33)),⟨some 35,.bsl 5 1 [.t 20,.t 25,.t 30,.t 34],none⟩, 
 ⟨some 36,.app 5 1 1 false (.t 16) (.t 35),none⟩,Qa 3 36])))))))))) (.reg [Qc 10 4,Q 11 (.bin .add (.t 10) (Ki 1)),Qa 4 11])))))) (.seq (.reg [Qc 78 3,Q 79 (.b2s (.t 78)), 
 Qa 2 79]) .ret)))
def q4e:List LRes:=[.tmp 2]
theorem q5L:q0r Tryz.prog 92 80 q38 q4e:=⟨_,_,Tryz.func92,rfl,by kernel_rfl,by kernel_rfl,rfl⟩
theorem z1I(l:List Nat)(hv:∀ r∈l,q3Z r)(hl:l.length≤100000000):q0s Tryz.prog 92 [.list (q2c l)] (fun r=>r=.one (.str (encM l))):=by
 have hI:((q2c l).length:Int)=(l.length:Int):=by rw[q0y]
 refine q5L.call rfl ?_; simp(maxSteps:=2000000)only[go_sem,↓reduceIte,q38,q4e,hI]; refine q0l (fun i:Nat=>⟨[(0,.d (.list (q2c l))),(3,.own (.t 3) 5 1 (q0W (encM (l.take i)))),(4,.d (.int .i64 i))],[],[]⟩)
  (fun i=>i≤l.length) (fun i=>l.length-i) 0 ?_ ?_ ?_
 ·refine q0d ?_ trivial; simp(maxSteps:=2000000)only[go_sem,↓reduceIte,Sub,Int.natCast_add,Int.natCast_mul,q0W,encM,List.flatMap_nil]
 ·omega
 ·intro i hi; simp(maxSteps:=2000000)only[go_sem,↓reduceIte,hI]; refine⟨fun hlt=>?_,fun hge=>?_⟩
  ·obtain⟨r,hr⟩:=get_some (l:=l) (i:=i) (by omega); have hvr:=hv r (List.mem_of_getElem? hr); have hvr':=hvr; unfold q3Z at hvr'; have htake:l.take (i+1)=l.take i++[r]:=by rw[List.take_add_one,hr]; rfl
   have hle:=z7i (l:=l.take i) fun x hx=>hv x (List.mem_of_mem_take hx)
   have hti:(l.take i).length=i:=by rw[List.length_take]; omega
   have hbl:=q6a (encM (l.take i)); have hnext:q0W (encM (l.take i))++q0W (enc r)=q0W (encM (l.take (i+1))):=by rw[htake,q7Y,q2t]; simp[encM]
   have q1:Int.tdiv (r:Int) 64=((r / 64:Nat):Int):=rfl; have q2:Int.tmod (r:Int) 64=((r % 64:Nat):Int):=rfl; have q3:Int.tdiv (r:Int) 4096=((r / 4096:Nat):Int):=rfl; have q4:Int.tdiv (r:Int) 262144=((r / 262144:Nat):Int):=rfl; have q5:Int.tmod ((r / 64:Nat):Int) 64=((r / 64 % 64:Nat):Int):=rfl; have q6:Int.tmod ((r / 4096:Nat):Int) 64=((r / 4096 % 64:Nat):Int):=rfl; rcases q5U hvr with⟨a,e⟩|⟨a,b,e⟩|⟨a,b,e⟩|⟨a,b,e⟩
   ·rw[e]at hnext; have z0:((r:Int)<128)=True:=eq_true (by omega); have hz:q0W (encM (l.take i))++[.int .u8 ((r:Int))]=q0W (encM (l.take (i+1))):=by
     rw[← hnext]; congr 1
     simp only[q0W,List.map_cons,List.map_nil,ofNat_toNat (show r<256 by omega),Int.natCast_add,Int.cast_ofNat_Int]
    simp(maxSteps:=2000000)(disch:=omega)only[go_sem,↓reduceIte,hI,q0a,q62,hr,q1,q2,q3,q4,q5,q6,z0]; refine⟨by omega,i+1,?_,by omega,by omega⟩; refine q0d ?_ trivial; simp(maxSteps:=2000000)only[go_sem,↓reduceIte,Sub,Int.natCast_add,Int.natCast_mul,hz]
   ·rw[e]at hnext; have z0:((r:Int)<128)=False:=eq_false (by omega); have z1:((r:Int)<2048)=True:=eq_true (by omega); have hz:q0W (encM (l.take i))++[.int .u8 (192+((r / 64:Nat):Int)),.int .u8 (128+((r % 64:Nat):Int))]=q0W (encM (l.take (i+1))):=by
     rw[← hnext]; congr 1
     simp only[q0W,List.map_cons,List.map_nil,ofNat_toNat (show 192+r / 64<256 by omega),ofNat_toNat (show 128+r % 64<256 by omega),Int.natCast_add,Int.cast_ofNat_Int]
    simp(maxSteps:=2000000)(disch:=omega)only[go_sem,↓reduceIte,hI,q0a,q62,hr,q1,q2,q3,q4,q5,q6,z0,z1]; refine⟨by omega,i+1,?_,by omega,by omega⟩; refine q0d ?_ trivial; simp(maxSteps:=2000000)only[go_sem,↓reduceIte,Sub,Int.natCast_add,Int.natCast_mul,hz]
   ·rw[e]at hnext; have z0:((r:Int)<128)=False:=eq_false (by omega); have z1:((r:Int)<2048)=False:=eq_false (by omega); have z2:((r:Int)<65536)=True:=eq_true (by omega); have hz:q0W (encM (l.take i))++[.int .u8 (224+((r / 4096:Nat):Int)),.int .u8 (128+((r / 64 % 64:Nat):Int)),.int .u8 (128+((r % 64:Nat):Int))]=q0W (encM (l.take (i+1))):=by
     rw[← hnext]; congr 1
     simp only[q0W,List.map_cons,List.map_nil,ofNat_toNat (show 224+r / 4096<256 by omega),ofNat_toNat (show 128+r / 64 % 64<256 by omega),ofNat_toNat (show 128+r % 64<256 by omega),Int.natCast_add,Int.cast_ofNat_Int]
    simp(maxSteps:=2000000)(disch:=omega)only[go_sem,↓reduceIte,hI,q0a,q62,hr,q1,q2,q3,q4,q5,q6,z0,z1,z2]; refine⟨by omega,i+1,?_,by omega,by omega⟩; refine q0d ?_ trivial; simp(maxSteps:=2000000)only[go_sem,↓reduceIte,Sub,Int.natCast_add,Int.natCast_mul,hz]
   ·rw[e]at hnext; have z0:((r:Int)<128)=False:=eq_false (by omega); have z1:((r:Int)<2048)=False:=eq_false (by omega); have z2:((r:Int)<65536)=False:=eq_false (by omega); have hz:q0W (encM (l.take i))++[.int .u8 (240+((r / 262144:Nat):Int)),.int .u8 (128+((r / 4096 % 64:Nat):Int)),.int .u8 (128+((r / 64 % 64:Nat):Int)),.int .u8 (128+((r % 64:Nat):Int))]=q0W (encM (l.take (i+1))):=by
     rw[← hnext]; congr 1
     simp only[q0W,List.map_cons,List.map_nil,ofNat_toNat (show 240+r / 262144<256 by omega),ofNat_toNat (show 128+r / 4096 % 64<256 by omega),ofNat_toNat (show 128+r / 64 % 64<256 by omega),ofNat_toNat (show 128+r % 64<256 by omega),Int.natCast_add,Int.cast_ofNat_Int]
    simp(maxSteps:=2000000)(disch:=omega)only[go_sem,↓reduceIte,hI,q0a,q62,hr,q1,q2,q3,q4,q5,q6,z0,z1,z2]; refine⟨by omega,i+1,?_,by omega,by omega⟩; refine q0d ?_ trivial; simp(maxSteps:=2000000)only[go_sem,↓reduceIte,Sub,Int.natCast_add,Int.natCast_mul,hz]
  ·have:i=l.length:=by omega
   subst this; simp(maxSteps:=2000000)only[go_sem,↓reduceIte,q3o,List.take_length]
end Go.Av.Tryz
set_option linter.unusedSimpArgs false
set_option maxRecDepth 100000
namespace Go.Av.Tryz
open Go.Proofs
def onM(s:List UInt8)(n:Nat):Option (List UInt8):=
 match q0Y s with
 |none=>none
 |some rs=>if rs=[]then none else
  if 1114111<rs.getLastD 0+n∨(55295<rs.getLastD 0+n∧rs.getLastD 0+n<57344)∨(rs.getLastD 0≤55295∧57344≤rs.getLastD 0+n)then none
  else some (encM (rs.dropLast++[rs.getLastD 0+n]))
def q3s(o:Option (List UInt8)):Res:=match o with
 |some t=>.tup [.str t,.bool true]
 |none=>.tup [.str [],.bool false]
theorem z7u{rs:List Nat}(h:rs≠[]):rs[rs.length-1]?=some (rs.getLastD 0):=by
 rw[List.getLastD_eq_getLast?,List.getLast?_eq_getElem?]; have:rs.length-1<rs.length:=by have:=List.length_pos_iff.2 h; omega
 rw[List.getElem?_eq_getElem this]; rfl
theorem j3I{rs:List Nat}(h:rs≠[])(x:Nat):rs.set (rs.length-1) x=rs.dropLast++[x]:=by
 obtain⟨a,b,rfl⟩:∃ a b,rs=a++[b]:=⟨rs.dropLast,rs.getLast h,(List.dropLast_concat_getLast h).symm⟩; rw[List.dropLast_concat,List.length_append,List.set_append_right _ _ (by simp)]; simp
theorem z5c(l:List Nat)(i x:Nat):(q2c l).set i (.int .i64 x)=q2c (l.set i x):=by simp[q2c,List.map_set]
theorem q4E(l:List Nat):∀ y∈q2c l,y.cells=[y]:=fun y hy=>by
 simp only[q2c,List.mem_map]at hy; obtain⟨n,_,rfl⟩:=hy; rfl
theorem j4i:q28 Tryz.prog 96=some (3,1,8):=by kernel_rfl
theorem j0o:q9C Tryz.prog 3=true:=by kernel_rfl
theorem j6s:isSl Tryz.prog 96=true:=by kernel_rfl
def q41:q0i:=
 .seq (.reg [Qx 4 (.k (.d (.str []))),Qx 5 KF]) (.seq (.reg [Qc 12 0,⟨some 13,.call 64 [.t 12],none⟩,Qc 11 13,Q 14 (.ext 0 (.t 11)),Q 15 (.ext 1 (.t 11)),Qa 6 14,Qa 7 15]) 
 (.seq (.seq (.reg [Qc 16 7,Q 17 (.not (.t 16)),Qc 18 17,Qd 19 6 18 false,Qg 20 (.len false (.t 19)) 18 false,Qg 21 (.bin .eql (.t 20) (Ki 0)) 18 false,Q 22 (.pick (.t 18) 
 KT (.t 21))]) (.cond (.t 22) (.seq (.reg [Qx 4 (.k (.d (.str []))),Qx 5 KF]) .ret) .skip)) (.seq (.reg [Qc 23 6,Qc 24 6,Q 25 (.len false (.t 24)),Q 26 (.bin .sub (.t 25) (Ki 
 1)),Q 27 (.ia 1 (.t 23) (.t 26)),Q 28 (.ld false 1 (.t 27)),Qa 8 28]) (.seq (.reg [Qc 29 8,Qc 30 1,Q 31 (.bin .add (.t 29) (.t 30)),Qa 9 31]) (.seq (.seq (.reg [Qc 32 9,Q 
 33 (.bin .gtr (.t 32) (Ki 1114111)),Qc 34 33,Qd 35 9 34 false,Qg 36 (.bin .gtr (.t 35) (Ki 55295)) 34 false,Qd 37 36 34 false,Qd 38 9 37 true,Qg 39 (.bin .lss (.t 38) (Ki 
 57344)) 37 true,Qg 40 (.pick (.t 37) (.t 39) KF) 34 false,Q 41 (.pick (.t 34) KT (.t 40)),Qc 42 41,Qd 43 8 42 false,Qg 44 (.bin .leq (.t 43) (Ki 55295)) 42 false,Qd 45 44 
 42 false,Qd 46 9 45 true,Qg 47 (.bin .geq (.t 46) (Ki 57344)) 45 true,Qg 48 (.pick (.t 45) (.t 47) KF) 42 false,Q 49 (.pick (.t 42) KT (.t 48))]) (.cond (.t 49) (.seq (.reg 
 [Qx 4 (.k (.d (.str []))),Qx 5 KF]) .ret) .skip)) (.seq (.reg [Qc 50 6,⟨some 51,.prim (.bi .append [96,96]) [.k (.d (.list [])),.t 50] [],none⟩,Qa 10 51]) (.seq (.reg [Qc 
 52 10,Qc 53 10,Q 54 (.len false (.t 53)),Q 55 (.bin .sub (.t 54) (Ki 1)),Qc 56 9,Q 57 (.ia 1 (.t 52) (.t 55)),⟨none,.st 1 (.t 57) (.t 56),none⟩]) (.seq (.reg [Qc 58 10, 
 ⟨some 59,.call 92 [.t 58],none⟩,Qa 4 59,Qx 5 KT]) .ret))))))))
def q45:List LRes:=[.tmp 4,.tmp 5]
theorem q6v:q0r Tryz.prog 65 60 q41 q45:=⟨_,_,Tryz.func65,rfl,by kernel_rfl,by kernel_rfl,rfl⟩
theorem j28(s:List UInt8)(n:Nat)(hs:s.length≤1000000)(hn:n≤1000000):q0s Tryz.prog 65 [.str s,.int .i64 n] (fun r=>r=q3s (onM s n)):=by
 refine q6v.call rfl ?_; simp(maxSteps:=2000000)only[go_sem,↓reduceIte,q41,q45]; refine q0g.of (q9z s (by omega)) ?_; unfold onM; cases hrs:q0Y s with
 |none=>
  simp only[q2d]; simp(maxSteps:=2000000)only[go_sem,↓reduceIte]; simp[q3s]
 |some rs=>
  obtain⟨e1,e2⟩:=q7r s.length (Nat.le_refl _) hrs; have hI:((q2c rs).length:Int)=(rs.length:Int):=by rw[q0y]
  simp only[q2d]
  by_cases h0:rs=[]
  ·subst h0; simp(maxSteps:=2000000)only[go_sem,↓reduceIte,q2c]; simp[q3s]
  ·have hpos:=List.length_pos_iff.2 h0; have hlast:=z7u h0; have hlv:=e2 _ (List.mem_of_getElem? hlast); have hle:rs.length≤s.length:=by
    rw[← e1]; have:∀ l:List Nat,(∀ r∈l,q3Z r)→l.length≤(encM l).length:=fun l=>by
     induction l with
     |nil=>intro _; simp
     |cons a l ih=>
      intro h; have h1:=(z3c (h a (by simp))).1; have h2:=ih fun x hx=>h x (List.mem_cons_of_mem _ hx)
      have h3:encM (a::l)=enc a++encM l:=rfl; rw[h3,List.length_append,List.length_cons]; omega
    exact this rs e2
   rw[if_neg h0]; have hd:=j3I h0 (rs.getLastD 0+n); generalize rs.getLastD 0=k at *; unfold q3Z at hlv; have z0:((rs.length:Int)=0)=False:=eq_false (by omega); have g1:getI (q2c rs) ((rs.length:Int)-1)=some (.int .i64 k):=by
    rw[show((rs.length:Int)-1)=((rs.length-1:Nat):Int) by omega,q0a,q62,hlast]; rfl
   by_cases hb:1114111<k+n∨(55295<k+n∧k+n<57344)∨(k≤55295∧57344≤k+n)
   ·rw[if_pos hb]
    by_cases hA:1114111<k+n
    ·have zA:(1114111<(k:Int)+n)=True:=eq_true (by omega); simp(maxSteps:=2000000)(disch:=omega)only[go_sem,↓reduceIte,hI,z0,g1,zA]; simp[q3s]
    ·by_cases hB:55295<k+n∧k+n<57344
     ·have zA:(1114111<(k:Int)+n)=False:=eq_false (by omega); have zB:(55295<(k:Int)+n)=True:=eq_true (by omega); have zC:((k:Int)+n<57344)=True:=eq_true (by omega); simp(maxSteps:=2000000)(disch:=omega)only[go_sem,↓reduceIte,hI,z0,g1,zA,zB,zC]; simp[q3s]
     ·have zA:(1114111<(k:Int)+n)=False:=eq_false (by omega); have zB:(55295<(k:Int)+n)=True:=eq_true (by omega); have zC:((k:Int)+n<57344)=False:=eq_false (by omega); have zD:((k:Int)≤55295)=True:=eq_true (by omega); have zE:(57344≤(k:Int)+n)=True:=eq_true (by omega); simp(maxSteps:=2000000)(disch:=omega)only[go_sem,↓reduceIte,hI,z0,g1,zA,zB,zC,zD,zE]; simp[q3s]
   ·rw[if_neg hb]; have zA:(1114111<(k:Int)+n)=False:=eq_false (by omega); have hnl:(rs.dropLast++[k+n]).length=rs.length:=by rw[← hd,List.length_set]
    have hvn:∀ r∈rs.dropLast++[k+n],q3Z r:=fun r hr=>by
     rcases List.mem_append.1 hr with hr|hr
     ·exact e2 r ((List.dropLast_subset _ hr))
     ·simp at hr; subst hr; unfold q3Z; omega
    by_cases hB:55295<k+n
    ·have zB:(55295<(k:Int)+n)=True:=eq_true (by omega); have zC:((k:Int)+n<57344)=False:=eq_false (by omega); have zE:(57344≤(k:Int)+n)=True:=eq_true (by omega); have zD:((k:Int)≤55295)=False:=eq_false (by omega); simp(maxSteps:=2000000)(disch:=omega)only[go_sem,↓reduceIte,hI,z0,g1,zA,zB,zC,zE,zD]
     refine q0c.j32 (fs:=[]) (ys:=q2c rs) (c:=0) j4i j0o j6s (.inl ⟨.inr rfl,rfl⟩) rfl (by intro h; exact h0 (List.length_eq_zero_iff.1 (by rw[← q0y,h]; rfl))) (fun y hy=>by rw[q4E _ y hy]; rfl) (by simp) (by simp only[List.length_nil,q0y,maxLen]; omega) (fun c' h1 h2=>?_); have hrl:(rowC 1 (q2c rs) c').length=c':=by rw[q3Y (fun y hy=>by rw[q4E _ y hy]; rfl) (by simpa using h1)]; omega
     have hcl:rs.length≤c':=by simpa[q0y]using h1
     have hset:(rowC 1 (q2c rs) c').set (rs.length-1) (.d (.int .i64 ((k:Int)+n)))=rowC 1 (q2c (rs.dropLast++[k+n])) c':=by
      rw[← Int.natCast_add,z7O (q4E rs) (by rw[q0y]; omega) rfl,z5c,hd]
     have hto:((rs.length:Int)-1).toNat=rs.length-1:=by omega
     simp(maxSteps:=2000000)(disch:=omega)only[go_sem,↓reduceIte,hI,q0y,hrl,hto,Nat.mul_one,hset]; refine⟨by omega,by omega,q0g.j59 (z1W.frozen (k:=51) (sz:=1) (c:=c') (fs:=q2c (rs.dropLast++[k+n])) (by rw[q0y,hnl]; rfl) rfl (fun y hy=>by rw[q4E _ y hy]; rfl) (by rw[q0y,hnl]; exact hcl) (z1I _ hvn (by rw[hnl]; omega)) ?_)⟩; simp(maxSteps:=2000000)only[go_sem,↓reduceIte]; simp[q3s]
    ·have zB:(55295<(k:Int)+n)=False:=eq_false (by omega); have zE:(57344≤(k:Int)+n)=False:=eq_false (by omega)
     by_cases hD:k≤55295
     ·have zD:((k:Int)≤55295)=True:=eq_true (by omega); simp(maxSteps:=2000000)(disch:=omega)only[go_sem,↓reduceIte,hI,z0,g1,zA,zB,zE,zD]; refine q0c.j32 (fs:=[]) (ys:=q2c rs) (c:=0) j4i j0o j6s (.inl ⟨.inr rfl,rfl⟩) rfl (by intro h; exact h0 (List.length_eq_zero_iff.1 (by rw[← q0y,h]; rfl))) (fun y hy=>by rw[q4E _ y hy]; rfl) (by simp) (by simp only[List.length_nil,q0y,maxLen]; omega) (fun c' h1 h2=>?_)
      have hrl:(rowC 1 (q2c rs) c').length=c':=by rw[q3Y (fun y hy=>by rw[q4E _ y hy]; rfl) (by simpa using h1)]; omega
      have hcl:rs.length≤c':=by simpa[q0y]using h1
      have hset:(rowC 1 (q2c rs) c').set (rs.length-1) (.d (.int .i64 ((k:Int)+n)))=rowC 1 (q2c (rs.dropLast++[k+n])) c':=by
       rw[← Int.natCast_add,z7O (q4E rs) (by rw[q0y]; omega) rfl,z5c,hd]
      have hto:((rs.length:Int)-1).toNat=rs.length-1:=by omega
      simp(maxSteps:=2000000)(disch:=omega)only[go_sem,↓reduceIte,hI,q0y,hrl,hto,Nat.mul_one,hset]; refine⟨by omega,by omega,q0g.j59 (z1W.frozen (k:=51) (sz:=1) (c:=c') (fs:=q2c (rs.dropLast++[k+n])) (by rw[q0y,hnl]; rfl) rfl (fun y hy=>by rw[q4E _ y hy]; rfl) (by rw[q0y,hnl]; exact hcl) (z1I _ hvn (by rw[hnl]; omega)) ?_)⟩; simp(maxSteps:=2000000)only[go_sem,↓reduceIte]; simp[q3s]
     ·exfalso; omega
end Go.Av.Tryz
set_option linter.unusedSimpArgs false
set_option maxRecDepth 100000
namespace Go.Av.Tryz
open Go.Proofs
structure Span where
 fr:Int
 «to» : Int
 tx:List UInt8
def Span.d(x:Span):D:=.agg [.int .i64 x.fr,.int .i64 x.to,.str x.tx]
def q2e(l:List Span):List D:=l.map Span.d
theorem q6j(l:List Span):(q2e l).length=l.length:=by simp[q2e]
theorem q0p(l:List Span)(j:Nat):(q2e l)[j]?=(l[j]?).map Span.d:=by simp[q2e]
def Span.wf(x:Span):Prop := -9223372036854775808≤x.fr∧x.fr≤9223372036854775807 ∧ -9223372036854775808≤x.to∧x.to≤9223372036854775807∧x.tx.length≤1000000
def q5m(most:Int)(prev:Option Int)(x:Span):Nat:=
 if x.fr<0∨most<x.to then 1
 else if x.to<x.fr∨(∃ p,prev=some p∧x.fr≤p)∨q0Y x.tx=none∨x.tx=[]∨40<x.tx.length then 3
 else if onM x.tx (x.to-x.fr).toNat=none then 3 else 0
instance (prev:Option Int) (f:Int):Decidable (∃ p,prev=some p∧f≤p):=match prev with
 |none=>.isFalse (by rintro⟨p,h,_⟩; cases h)
 |some p=>if h:f≤p then .isTrue ⟨p,rfl,h⟩else .isFalse (by rintro⟨q,h1,h2⟩; cases h1; exact h h2)
def q4I(most:Int):Option Int→List Span→Nat
 |_,[]=>0
 |prev,x::r=>if q5m most prev x=0 then q4I most (some x.to) r else q5m most prev x
def z5a(wide:Bool):Int:=if wide=true then 65535 else 255
def z2A(l:List Span)(wide:Bool):Nat:=if 300<l.length then 2 else q4I (z5a wide) none l
def q5s(l:List Span)(i:Nat):Option Int:=if i=0 then none else(l[i-1]?).map Span.to
theorem q8S(s:List UInt8)(m:Int)(hs:s.length≤1000000)(h0:0≤m)(h1:m≤1000000):q0s Tryz.prog 65 [.str s,.int .i64 m] (fun r=>r=q3s (onM s m.toNat)):=by
 obtain⟨n,rfl⟩:=Int.eq_ofNat_of_zero_le h0; exact j28 s n hs (by omega)
def q1F:q0i:=
 .seq (.reg [Qx 4 (Ki 0)]) (.seq (.seq (.reg [Qc 12 0,Q 13 (.len false (.t 12)),Q 14 (.bin .gtr (.t 13) (Ki 300))]) (.cond (.t 14) (.seq (.reg [Qx 4 (Ki 2)]) .ret) .skip)) (.seq 
 (.reg [Qx 5 (Ki 255)]) (.seq (.seq (.reg [Qc 15 1]) (.cond (.t 15) (.reg [Qx 5 (Ki 65535)]) .skip)) (.seq (.seq (.reg [Qx 6 (Ki 0)]) (.block 0 (.loop (.seq (.seq (.reg [Qc 16 6, 
 Qc 17 0,Q 18 (.len false (.t 17)),Q 19 (.bin .lss (.t 16) (.t 18))]) (.cond (.t 19) .skip (.exit 0))) (.seq (.block 1 (.seq (.reg [Qc 22 0,Qc 23 6,Q 24 (.ia 3 (.t 22) (.t 
 23)),Q 25 (.ld true 3 (.t 24)),⟨some 7,.allo [.int .i64 0,.int .i64 0,.str []],none⟩,⟨none,.st 3 (.t 7) (.t 25),none⟩]) (.seq (.seq (.reg [Q 26 (.fa 0 (.t 7)),Q 27 (.ld 
 false 1 (.t 26)),Q 28 (.bin .lss (.t 27) (Ki 0)),Qc 29 28,Qg 30 (.fa 1 (.t 7)) 29 false,Qg 31 (.ld false 1 (.t 30)) 29 false,Qd 32 5 29 false,Qg 33 (.bin .gtr (.t 31) (.t 
 32)) 29 false,Q 34 (.pick (.t 29) KT (.t 33))]) (.cond (.t 34) (.seq (.reg [Qx 4 (Ki 1)]) .ret) .skip)) (.seq (.reg [Q 36 (.fa 2 (.t 7)),Q 37 (.ld false 1 (.t 36)),⟨some 38, 
 .call 64 [.t 37],none⟩,Qc 35 38,Q 39 (.ext 0 (.t 35)),Q 40 (.ext 1 (.t 35)),Qa 8 39,Qa 9 40]) (.seq (.seq (.dreg [Q 41 (.fa 0 (.t 7)),Q 42 (.ld false 1 (.t 41)),Q 43 (.fa 
 1 (.t 7)),Q 44 (.ld false 1 (.t 43)),Q 45 (.bin .gtr (.t 42) (.t 44)),Qc 46 45,Qd 47 6 46 false,Qg 48 (.bin .gtr (.t 47) (Ki 0)) 46 false,Qd 49 48 46 false,Qg 50 (.fa 0 
 (.t 7)) 49 true,Qg 51 (.ld false 1 (.t 50)) 49 true,Qd 52 0 49 true,Qd 53 6 49 true,Qg 54 (.bin .sub (.t 53) (Ki 1)) 49 true,Qg 55 (.ia 3 (.t 52) (.t 54)) 49 true,Qg 56 
 (.fa 1 (.t 55)) 49 true,Qg 57 (.ld false 1 (.t 56)) 49 true,Qg 58 (.bin .leq (.t 51) (.t 57)) 49 true,Qg 59 (.pick (.t 49) (.t 58) KF) 46 false,Q 60 (.pick (.t 46) KT (.t 
 59)),Qc 61 60,Qd 62 9 61 false,Qg 63 (.not (.t 62)) 61 false,Q 64 (.pick (.t 61) KT (.t 63)),Qc 65 64,Qg 66 (.fa 2 (.t 7)) 65 false,Qg 67 (.ld false 1 (.t 66)) 65 false, 
 Qg 68 (.bin .eql (.t 67) (.k (.d (.str [])))) 65 false,Q 69 (.pick (.t 65) KT (.t 68)),Qc 70 69,Qg 71 (.fa 2 (.t 7)) 70 false,Qg 72 (.ld false 1 (.t 71)) 70 false,Qg 73 
 (.len true (.t 72)) 70 false,Qg 74 (.bin .gtr (.t 73) (Ki 40)) 70 false,Q 75 (.pick (.t 70) KT (.t 74))]) (.cond (.t 75) (.seq (.reg [Qx 4 (Ki 3)]) .ret) .skip)) (.seq (.reg [Q 
 77 (.fa 2 (.t 7)),Q 78 (.ld false 1 (.t 77)),Q 79 (.fa 1 (.t 7)),Q 80 (.ld false 1 (.t 79)),Q 81 (.fa 0 (.t 7)),Q 82 (.ld false 1 (.t 81)),Q 83 (.bin .sub (.t 80) (.t 82)), 
 ⟨some 84,.call 65 [.t 78,.t 83],none⟩,Qc 76 84,Q 85 (.ext 0 (.t 76)),Q 86 (.ext 1 (.t 76)),Qa 10 85,Qa 11 86]) (.seq (.reg [Qc 87 11,Q 88 (.not (.t 87))]) (.cond (.t 88) 
 (.seq (.reg [Qx 4 (Ki 3)]) .ret) .skip)))))))) (.reg [Qc 20 6,Q 21 (.bin .add (.t 20) (Ki 1)),Qa 6 21])))))) (.seq (.reg [Qx 4 (Ki 0)]) .ret)))))
def q1L:List LRes:=[.tmp 4]
theorem q4B:q0r Tryz.prog 40 89 q1F q1L:=⟨_,_,Tryz.func40,rfl,by kernel_rfl,by kernel_rfl,rfl⟩
theorem z1L(l:List Span)(wide:Bool)(hw:∀ x∈l,x.wf):q0s Tryz.prog 40 [.list (q2e l),.bool wide] (fun r=>r=.one (.int .i64 (z2A l wide))):=by
 have hI:((q2e l).length:Int)=(l.length:Int):=by rw[q6j]
 refine q4B.call rfl ?_; unfold z2A
 by_cases h300:300<l.length
 ·rw[if_pos h300]; have z:(300<(l.length:Int))=True:=eq_true (by omega); simp(maxSteps:=2000000)only[go_sem,↓reduceIte,q1F,q1L,hI,z]
 ·rw[if_neg h300]; have z:(300<(l.length:Int))=False:=eq_false (by omega); generalize hR:q4I (z5a wide) none l=R; simp(maxSteps:=2000000)only[go_sem,↓reduceIte,q1F,q1L,hI,z]; refine⟨fun hwd=>?_,fun hwd=>?_⟩
  ·have e5:z5a wide=65535:=by rw[hwd]; rfl
   rw[e5]at hR; refine q0l (fun i:Nat=>⟨[(0,.d (.list (q2e l))),(5,.d (.int .i64 65535)),(6,.d (.int .i64 i))],[],[]⟩)
    (fun i=>i≤l.length∧q4I 65535 (q5s l i) (l.drop i)=R) (fun i=>l.length-i) 0 ?_ ?_ ?_
   ·refine q0d ?_ trivial; simp(maxSteps:=2000000)only[go_sem,↓reduceIte,Sub,Int.natCast_add,Int.natCast_mul]
   ·exact⟨Nat.zero_le _,hR⟩
   ·rintro i ⟨hi,hF⟩; simp(maxSteps:=2000000)only[go_sem,↓reduceIte,hI]; refine⟨fun hlt=>?_,fun hge=>?_⟩
    ·obtain⟨x,hx⟩:=get_some (l:=l) (i:=i) (by omega); obtain⟨w1,w2,w3,w4,w5⟩:=hw x (List.mem_of_getElem? hx); rw[q05 hx,q4I]at hF; have hprev:q5s l (i+1)=some x.to:=by unfold q5s; rw[if_neg (by omega),Nat.add_sub_cancel,hx]; rfl
     rw[← hprev]at hF; have hbad:∀ k:Nat,k≠0→q5m 65535 (q5s l i) x=k→Res.one (.int .i64 (k:Int))=Res.one (.int .i64 (R:Int)):=fun k h0 h=>by rw[h,if_neg h0]at hF; rw[hF]
     unfold q5m at hF hbad
     by_cases hA:x.fr<0∨65535<x.to
     ·have b1:=hbad 1 (by decide) (if_pos hA)
      by_cases hA1:x.fr<0
      ·have z1:=eq_true hA1; simp(maxSteps:=2000000)(disch:=omega)only[go_sem,↓reduceIte,hI,q0a,q0p,hx,Span.d,z1]; exact b1
      ·have z1:=eq_false hA1; have z2:(65535<x.to)=True:=eq_true (by omega); simp(maxSteps:=2000000)(disch:=omega)only[go_sem,↓reduceIte,hI,q0a,q0p,hx,Span.d,z1,z2]; exact b1
     ·rw[if_neg hA]at hF; simp only[if_neg hA]at hbad; have z1:(x.fr<0)=False:=eq_false (by omega); have z2:(65535<x.to)=False:=eq_false (by omega); simp(maxSteps:=2000000)(disch:=omega)only[go_sem,↓reduceIte,hI,q0a,q0p,hx,Span.d,z1,z2]; refine q0g.of (q9z x.tx (by omega)) ?_
      by_cases hC:x.to<x.fr
      ·have b3:=hbad 3 (by decide) (if_pos (.inl hC)); have z3:=eq_true hC; cases hrs:q0Y x.tx<;>(simp only[q2d]; simp(maxSteps:=2000000)(disch:=omega)only[go_sem,↓reduceIte,z3]; exact b3)
      ·have z3:=eq_false hC
       by_cases hi0:i=0
       ·have z4:(0<(i:Int))=False:=eq_false (by omega); have hp:¬ ∃ p,q5s l i=some p∧x.fr≤p:=by rintro⟨p,h1,_⟩; unfold q5s at h1; rw[if_pos hi0]at h1; cases h1
        cases hrs:q0Y x.tx with
        |none=>
         have b3:=hbad 3 (by decide) (if_pos (.inr (.inr (.inl hrs)))); simp only[q2d]; simp(maxSteps:=2000000)(disch:=omega)only[go_sem,↓reduceIte,hI,q0a,q0p,hx,Span.d,z3,z4]; exact b3
        |some rs=>
         simp only[q2d]
         by_cases h5:x.tx=[]
         ·have b3:=hbad 3 (by decide) (if_pos (.inr (.inr (.inr (.inl h5))))); simp(maxSteps:=2000000)(disch:=omega)only[go_sem,↓reduceIte,hI,q0a,q0p,hx,Span.d,z3,z4,h5]; exact b3
         ·by_cases h6:40<x.tx.length
          ·have b3:=hbad 3 (by decide) (if_pos (.inr (.inr (.inr (.inr h6))))); have z6:(40<(x.tx.length:Int))=True:=eq_true (by omega); simp(maxSteps:=2000000)(disch:=omega)only[go_sem,↓reduceIte,hI,q0a,q0p,hx,Span.d,z3,z4,h5,z6]; exact b3
          ·have hgood:¬(x.to<x.fr∨(∃ p,q5s l i=some p∧x.fr≤p)∨q0Y x.tx=none∨x.tx=[]∨40<x.tx.length):=by
            rintro(h|h|h|h|h)
            ·exact hC h
            ·exact hp h
            ·rw[hrs]at h; cases h
            ·exact h5 h
            ·exact h6 h
           rw[if_neg hgood]at hF; simp only[if_neg hgood]at hbad; have z6:(40<(x.tx.length:Int))=False:=eq_false (by omega); simp(maxSteps:=2000000)(disch:=omega)only[go_sem,↓reduceIte,hI,q0a,q0p,hx,Span.d,z3,z4,h5,z6]; refine q0g.of (q8S x.tx (x.to-x.fr) (by omega) (by omega) (by omega)) ?_; cases ho:onM x.tx (x.to-x.fr).toNat with
           |none=>
            have b3:=hbad 3 (by decide) (if_pos ho); simp only[q3s]; simp(maxSteps:=2000000)(disch:=omega)only[go_sem,↓reduceIte]; exact b3
           |some u=>
            simp only[q3s]; simp only[ho,reduceCtorEq,if_false,if_true]at hF; simp(maxSteps:=2000000)(disch:=omega)only[go_sem,↓reduceIte]; refine⟨i+1,?_,⟨by omega,hF⟩,by omega⟩; refine q0d ?_ trivial; simp(maxSteps:=2000000)only[go_sem,↓reduceIte,Sub,Int.natCast_add,Int.natCast_mul]
       ·have z4:(0<(i:Int))=True:=eq_true (by omega); obtain⟨y,hy⟩:=get_some (l:=l) (i:=i-1) (by omega); have gy:getI (q2e l) ((i:Int)-1)=some (.agg [.int .i64 y.fr,.int .i64 y.to,.str y.tx]):=by
         rw[show((i:Int)-1)=((i-1:Nat):Int) by omega,q0a,q0p,hy]; rfl
        have hpv:q5s l i=some y.to:=by unfold q5s; rw[if_neg hi0,hy]; rfl
        by_cases hq:x.fr≤y.to
        ·have b3:=hbad 3 (by decide) (if_pos (.inr (.inl ⟨y.to,hpv,hq⟩))); have z7:=eq_true hq; cases hrs:q0Y x.tx<;>(simp only[q2d]; simp(maxSteps:=2000000)(disch:=omega)only[go_sem,↓reduceIte,z3,z4,gy,z7]; exact b3)
        ·have z7:=eq_false hq; have hp:¬ ∃ p,q5s l i=some p∧x.fr≤p:=by rintro⟨p,h1,h2⟩; rw[hpv]at h1; cases h1; exact hq h2
         cases hrs:q0Y x.tx with
         |none=>
          have b3:=hbad 3 (by decide) (if_pos (.inr (.inr (.inl hrs)))); simp only[q2d]; simp(maxSteps:=2000000)(disch:=omega)only[go_sem,↓reduceIte,hI,q0a,q0p,hx,Span.d,z3,z4,gy,z7]; exact b3
         |some rs=>
          simp only[q2d]
          by_cases h5:x.tx=[]
          ·have b3:=hbad 3 (by decide) (if_pos (.inr (.inr (.inr (.inl h5))))); simp(maxSteps:=2000000)(disch:=omega)only[go_sem,↓reduceIte,hI,q0a,q0p,hx,Span.d,z3,z4,gy,z7,h5]; exact b3
          ·by_cases h6:40<x.tx.length
           ·have b3:=hbad 3 (by decide) (if_pos (.inr (.inr (.inr (.inr h6))))); have z6:(40<(x.tx.length:Int))=True:=eq_true (by omega); simp(maxSteps:=2000000)(disch:=omega)only[go_sem,↓reduceIte,hI,q0a,q0p,hx,Span.d,z3,z4,gy,z7,h5,z6]; exact b3
           ·have hgood:¬(x.to<x.fr∨(∃ p,q5s l i=some p∧x.fr≤p)∨q0Y x.tx=none∨x.tx=[]∨40<x.tx.length):=by
             rintro(h|h|h|h|h)
             ·exact hC h
             ·exact hp h
             ·rw[hrs]at h; cases h
             ·exact h5 h
             ·exact h6 h
            rw[if_neg hgood]at hF; simp only[if_neg hgood]at hbad; have z6:(40<(x.tx.length:Int))=False:=eq_false (by omega); simp(maxSteps:=2000000)(disch:=omega)only[go_sem,↓reduceIte,hI,q0a,q0p,hx,Span.d,z3,z4,gy,z7,h5,z6]; refine q0g.of (q8S x.tx (x.to-x.fr) (by omega) (by omega) (by omega)) ?_; cases ho:onM x.tx (x.to-x.fr).toNat with
            |none=>
             have b3:=hbad 3 (by decide) (if_pos ho); simp only[q3s]; simp(maxSteps:=2000000)(disch:=omega)only[go_sem,↓reduceIte]; exact b3
            |some u=>
             simp only[q3s]; simp only[ho,reduceCtorEq,if_false,if_true]at hF; simp(maxSteps:=2000000)(disch:=omega)only[go_sem,↓reduceIte]; refine⟨i+1,?_,⟨by omega,hF⟩,by omega⟩; refine q0d ?_ trivial; simp(maxSteps:=2000000)only[go_sem,↓reduceIte,Sub,Int.natCast_add,Int.natCast_mul]
    ·have:l.drop i=[]:=List.drop_eq_nil_of_le (by omega); rw[this]at hF; simp only[q4I]at hF; subst hF; rfl
  ·have e5:z5a wide=255:=by rw[hwd]; rfl
   rw[e5]at hR; refine q0l (fun i:Nat=>⟨[(0,.d (.list (q2e l))),(5,.d (.int .i64 255)),(6,.d (.int .i64 i))],[],[]⟩)
    (fun i=>i≤l.length∧q4I 255 (q5s l i) (l.drop i)=R) (fun i=>l.length-i) 0 ?_ ?_ ?_
   ·refine q0d ?_ trivial; simp(maxSteps:=2000000)only[go_sem,↓reduceIte,Sub,Int.natCast_add,Int.natCast_mul]
   ·exact⟨Nat.zero_le _,hR⟩
   ·rintro i ⟨hi,hF⟩; simp(maxSteps:=2000000)only[go_sem,↓reduceIte,hI]; refine⟨fun hlt=>?_,fun hge=>?_⟩
    ·obtain⟨x,hx⟩:=get_some (l:=l) (i:=i) (by omega); obtain⟨w1,w2,w3,w4,w5⟩:=hw x (List.mem_of_getElem? hx); rw[q05 hx,q4I]at hF; have hprev:q5s l (i+1)=some x.to:=by unfold q5s; rw[if_neg (by omega),Nat.add_sub_cancel,hx]; rfl
     rw[← hprev]at hF; have hbad:∀ k:Nat,k≠0→q5m 255 (q5s l i) x=k→Res.one (.int .i64 (k:Int))=Res.one (.int .i64 (R:Int)):=fun k h0 h=>by rw[h,if_neg h0]at hF; rw[hF]
     unfold q5m at hF hbad
     by_cases hA:x.fr<0∨255<x.to
     ·have b1:=hbad 1 (by decide) (if_pos hA)
      by_cases hA1:x.fr<0
      ·have z1:=eq_true hA1; simp(maxSteps:=2000000)(disch:=omega)only[go_sem,↓reduceIte,hI,q0a,q0p,hx,Span.d,z1]; exact b1
      ·have z1:=eq_false hA1; have z2:(255<x.to)=True:=eq_true (by omega); simp(maxSteps:=2000000)(disch:=omega)only[go_sem,↓reduceIte,hI,q0a,q0p,hx,Span.d,z1,z2]; exact b1
     ·rw[if_neg hA]at hF; simp only[if_neg hA]at hbad; have z1:(x.fr<0)=False:=eq_false (by omega); have z2:(255<x.to)=False:=eq_false (by omega); simp(maxSteps:=2000000)(disch:=omega)only[go_sem,↓reduceIte,hI,q0a,q0p,hx,Span.d,z1,z2]; refine q0g.of (q9z x.tx (by omega)) ?_
      by_cases hC:x.to<x.fr
      ·have b3:=hbad 3 (by decide) (if_pos (.inl hC)); have z3:=eq_true hC; cases hrs:q0Y x.tx<;>(simp only[q2d]; simp(maxSteps:=2000000)(disch:=omega)only[go_sem,↓reduceIte,z3]; exact b3)
      ·have z3:=eq_false hC
       by_cases hi0:i=0
       ·have z4:(0<(i:Int))=False:=eq_false (by omega); have hp:¬ ∃ p,q5s l i=some p∧x.fr≤p:=by rintro⟨p,h1,_⟩; unfold q5s at h1; rw[if_pos hi0]at h1; cases h1
        cases hrs:q0Y x.tx with
        |none=>
         have b3:=hbad 3 (by decide) (if_pos (.inr (.inr (.inl hrs)))); simp only[q2d]; simp(maxSteps:=2000000)(disch:=omega)only[go_sem,↓reduceIte,hI,q0a,q0p,hx,Span.d,z3,z4]; exact b3
        |some rs=>
         simp only[q2d]
         by_cases h5:x.tx=[]
         ·have b3:=hbad 3 (by decide) (if_pos (.inr (.inr (.inr (.inl h5))))); simp(maxSteps:=2000000)(disch:=omega)only[go_sem,↓reduceIte,hI,q0a,q0p,hx,Span.d,z3,z4,h5]; exact b3
         ·by_cases h6:40<x.tx.length
          ·have b3:=hbad 3 (by decide) (if_pos (.inr (.inr (.inr (.inr h6))))); have z6:(40<(x.tx.length:Int))=True:=eq_true (by omega); simp(maxSteps:=2000000)(disch:=omega)only[go_sem,↓reduceIte,hI,q0a,q0p,hx,Span.d,z3,z4,h5,z6]; exact b3
          ·have hgood:¬(x.to<x.fr∨(∃ p,q5s l i=some p∧x.fr≤p)∨q0Y x.tx=none∨x.tx=[]∨40<x.tx.length):=by
            rintro(h|h|h|h|h)
            ·exact hC h
            ·exact hp h
            ·rw[hrs]at h; cases h
            ·exact h5 h
            ·exact h6 h
           rw[if_neg hgood]at hF; simp only[if_neg hgood]at hbad; have z6:(40<(x.tx.length:Int))=False:=eq_false (by omega); simp(maxSteps:=2000000)(disch:=omega)only[go_sem,↓reduceIte,hI,q0a,q0p,hx,Span.d,z3,z4,h5,z6]; refine q0g.of (q8S x.tx (x.to-x.fr) (by omega) (by omega) (by omega)) ?_; cases ho:onM x.tx (x.to-x.fr).toNat with
           |none=>
            have b3:=hbad 3 (by decide) (if_pos ho); simp only[q3s]; simp(maxSteps:=2000000)(disch:=omega)only[go_sem,↓reduceIte]; exact b3
           |some u=>
            simp only[q3s]; simp only[ho,reduceCtorEq,if_false,if_true]at hF; simp(maxSteps:=2000000)(disch:=omega)only[go_sem,↓reduceIte]; refine⟨i+1,?_,⟨by omega,hF⟩,by omega⟩; refine q0d ?_ trivial; simp(maxSteps:=2000000)only[go_sem,↓reduceIte,Sub,Int.natCast_add,Int.natCast_mul]
       ·have z4:(0<(i:Int))=True:=eq_true (by omega); obtain⟨y,hy⟩:=get_some (l:=l) (i:=i-1) (by omega); have gy:getI (q2e l) ((i:Int)-1)=some (.agg [.int .i64 y.fr,.int .i64 y.to,.str y.tx]):=by
         rw[show((i:Int)-1)=((i-1:Nat):Int) by omega,q0a,q0p,hy]; rfl
        have hpv:q5s l i=some y.to:=by unfold q5s; rw[if_neg hi0,hy]; rfl
        by_cases hq:x.fr≤y.to
        ·have b3:=hbad 3 (by decide) (if_pos (.inr (.inl ⟨y.to,hpv,hq⟩))); have z7:=eq_true hq; cases hrs:q0Y x.tx<;>(simp only[q2d]; simp(maxSteps:=2000000)(disch:=omega)only[go_sem,↓reduceIte,z3,z4,gy,z7]; exact b3)
        ·have z7:=eq_false hq; have hp:¬ ∃ p,q5s l i=some p∧x.fr≤p:=by rintro⟨p,h1,h2⟩; rw[hpv]at h1; cases h1; exact hq h2
         cases hrs:q0Y x.tx with
         |none=>
          have b3:=hbad 3 (by decide) (if_pos (.inr (.inr (.inl hrs)))); simp only[q2d]; simp(maxSteps:=2000000)(disch:=omega)only[go_sem,↓reduceIte,hI,q0a,q0p,hx,Span.d,z3,z4,gy,z7]; exact b3
         |some rs=>
          simp only[q2d]
          by_cases h5:x.tx=[]
          ·have b3:=hbad 3 (by decide) (if_pos (.inr (.inr (.inr (.inl h5))))); simp(maxSteps:=2000000)(disch:=omega)only[go_sem,↓reduceIte,hI,q0a,q0p,hx,Span.d,z3,z4,gy,z7,h5]; exact b3
          ·by_cases h6:40<x.tx.length
           ·have b3:=hbad 3 (by decide) (if_pos (.inr (.inr (.inr (.inr h6))))); have z6:(40<(x.tx.length:Int))=True:=eq_true (by omega); simp(maxSteps:=2000000)(disch:=omega)only[go_sem,↓reduceIte,hI,q0a,q0p,hx,Span.d,z3,z4,gy,z7,h5,z6]; exact b3
           ·have hgood:¬(x.to<x.fr∨(∃ p,q5s l i=some p∧x.fr≤p)∨q0Y x.tx=none∨x.tx=[]∨40<x.tx.length):=by
             rintro(h|h|h|h|h)
             ·exact hC h
             ·exact hp h
             ·rw[hrs]at h; cases h
             ·exact h5 h
             ·exact h6 h
            rw[if_neg hgood]at hF; simp only[if_neg hgood]at hbad; have z6:(40<(x.tx.length:Int))=False:=eq_false (by omega); simp(maxSteps:=2000000)(disch:=omega)only[go_sem,↓reduceIte,hI,q0a,q0p,hx,Span.d,z3,z4,gy,z7,h5,z6]; refine q0g.of (q8S x.tx (x.to-x.fr) (by omega) (by omega) (by omega)) ?_; cases ho:onM x.tx (x.to-x.fr).toNat with
            |none=>
             have b3:=hbad 3 (by decide) (if_pos ho); simp only[q3s]; simp(maxSteps:=2000000)(disch:=omega)only[go_sem,↓reduceIte]; exact b3
            |some u=>
             simp only[q3s]; simp only[ho,reduceCtorEq,if_false,if_true]at hF; simp(maxSteps:=2000000)(disch:=omega)only[go_sem,↓reduceIte]; refine⟨i+1,?_,⟨by omega,hF⟩,by omega⟩; refine q0d ?_ trivial; simp(maxSteps:=2000000)only[go_sem,↓reduceIte,Sub,Int.natCast_add,Int.natCast_mul]
    ·have:l.drop i=[]:=List.drop_eq_nil_of_le (by omega); rw[this]at hF; simp only[q4I]at hF; subst hF; rfl
def z4y:List Span→Int→Option (List UInt8)
 |[],_=>none
 |x::r,c=>if x.fr≤c∧c≤x.to then onM x.tx (c-x.fr).toNat else z4y r c
end Go.Av.Tryz
set_option linter.unusedSimpArgs false
namespace Go.Av.Tryz
open Go.Proofs Go.RowKit
open Go.Shelf
set_option maxRecDepth 100000
def z4S:Go.Shelf.Ren:=⟨fun|271=>151|120=>153|197=>154|260=>155|n=>n,fun|9=>9|21=>21|3=>3|4=>4|5=>5|105=>200|119=>204|0=>0|46=>193|139=>207|138=>206|n=>n,fun|3=>1|4=>2|n=>n⟩
theorem j2J:Go.Proofs.LaysM.n271 Tryz.prog z4S where
 mixed:=by kernel_rfl
 f120:=Tryz.func153.trans (congrArg some (by kernel_rfl))
 f197:=Tryz.func154.trans (congrArg some (by kernel_rfl))
 f260:=Tryz.func155.trans (congrArg some (by kernel_rfl))
 f271:=Tryz.func151.trans (congrArg some (by kernel_rfl))
 t0:=Tryz.underlying0
 a0:=Tryz.isAgg0
 z0:=Tryz.sizeOf0
 v0:=Tryz.zeroValue0
 t3:=Tryz.underlying3
 a3:=Tryz.isAgg3
 z3:=Tryz.sizeOf3
 v3:=Tryz.zeroValue3
 t4:=Tryz.underlying4
 a4:=Tryz.isAgg4
 z4:=Tryz.sizeOf4
 v4:=Tryz.zeroValue4
 t5:=Tryz.underlying5
 a5:=Tryz.isAgg5
 z5:=Tryz.sizeOf5
 v5:=Tryz.zeroValue5
 t9:=Tryz.underlying9
 a9:=Tryz.isAgg9
 z9:=Tryz.sizeOf9
 v9:=Tryz.zeroValue9
 t21:=Tryz.underlying21
 a21:=Tryz.isAgg21
 z21:=Tryz.sizeOf21
 v21:=Tryz.zeroValue21
 t46:=Tryz.underlying193
 a46:=Tryz.isAgg193
 z46:=Tryz.sizeOf193
 v46:=Tryz.zeroValue193
 t105:=Tryz.underlying200
 a105:=Tryz.isAgg200
 z105:=Tryz.sizeOf200
 v105:=Tryz.zeroValue200
 t119:=Tryz.underlying204
 a119:=Tryz.isAgg204
 z119:=Tryz.sizeOf204
 t138:=Tryz.underlying206
 a138:=Tryz.isAgg206
 z138:=Tryz.sizeOf206
 v138:=Tryz.zeroValue206
 t139:=Tryz.underlying207
 a139:=Tryz.isAgg207
 z139:=Tryz.sizeOf207
 v139:=Tryz.zeroValue207
 g3:=by kernel_rfl
 g4:=by kernel_rfl
 i0:=by kernel_rfl
 i3:=by kernel_rfl
 i4:=by kernel_rfl
 i5:=by kernel_rfl
 i9:=by kernel_rfl
 i21:=by kernel_rfl
 i46:=by kernel_rfl
 i105:=by kernel_rfl
 i138:=by kernel_rfl
 i139:=by kernel_rfl
 m3:=by kernel_rfl
 m4:=by kernel_rfl
theorem j5S{f:Nat→Nat}{w:World}(hI:Inv.inv Tryz.prog f w):Lib.Utf8Tabs 1 2 w:=hI.2.2.1 _ _ (by kernel_rfl) (by kernel_rfl)
theorem j18{f:Nat→Nat}{w w':World}(h:Below w.heap.size w w')(ht:∀ b,w.heap.size≤b→f b=0):Fr f w f w':=
 ⟨h.size,fun b hb=>⟨h.block b hb,rfl⟩,fun b hb=>ht b (Nat.le_trans h.size hb),h.os,h.tape,h.output⟩
theorem j6Y{f:Nat→Nat}{w:World}{vs:Array Value}{s:List UInt8}(hsz:vs.size=1)(h:RD f w (.str s) (vs.getD 0 undef)):vs = #[.string ⟨s.toArray⟩]:=by
 match vs,hsz with
 |⟨[v]⟩,_=>cases h; rfl
theorem z0O(s:List UInt8)(hs:s.length≤1000000000):q0s Tryz.prog 151 [.str s] (fun r=>r=.tup [.int .i32 (Lib.decodeLastL s).1,.int .i64 (Lib.decodeLastL s).2]):=by
 intro f w vs hI ht hsz hrd; obtain rfl:=j6Y hsz (hrd 0 _ rfl); refine(Any.utf8_DecodeLastRuneInString j2J.ton271 ⟨s.toArray⟩ w (by show s.toArray.size≤_; simp; omega) (j5S hI)).mono fun e w' ⟨he,hw⟩=>?_
 refine⟨_,_,f,rfl,he,⟨_,rfl,rfl,fun i y hi=>?_⟩,j18 hw ht⟩; match i,hi with
 |0,hi=>cases hi; exact .int _ _
 |1,hi=>cases hi; exact .int _ _
 |(i+2),hi=>simp at hi
end Go.Av.Tryz
set_option linter.unusedSimpArgs false
set_option maxRecDepth 100000
namespace Go.Av.Tryz
open Go.Proofs
def q8c:q0i:=
 .seq (.reg [Qx 4 (.k (.d (.str []))),Qx 5 KF]) (.seq (.reg [Qc 10 0,⟨some 11,.call 151 [.t 10],none⟩,Qc 9 11,Q 12 (.ext 0 (.t 9)),Q 13 (.ext 1 (.t 9)),Qa 6 12,Qa 7 13]) 
 (.seq (.reg [Qc 14 6,Q 15 (.cvI .i64 (.t 14)),Qc 16 1,Q 17 (.bin .add (.t 15) (.t 16)),Qa 8 17]) (.seq (.seq (.reg [Qc 18 8,Q 19 (.bin .gtr (.t 18) (Ki 1114111)),Qc 20 19, 
 Qd 21 8 20 false,Qg 22 (.bin .geq (.t 21) (Ki 55296)) 20 false,Qd 23 22 20 false,Qd 24 8 23 true,Qg 25 (.bin .lss (.t 24) (Ki 57344)) 23 true,Qg 26 (.pick (.t 23) (.t 25) 
 KF) 20 false,Q 27 (.pick (.t 20) KT (.t 26))]) (.cond (.t 27) (.seq (.reg [Qx 4 (.k (.d (.str []))),Qx 5 KF]) .ret) .skip)) (.seq (.seq (.reg [Qc 28 6,Q 29 (.cvI .i64 (.t 
 28)),Q 30 (.bin .lss (.t 29) (Ki 55296)),Qc 31 30,Qd 32 8 31 true,Qg 33 (.bin .geq (.t 32) (Ki 57344)) 31 true,Q 34 (.pick (.t 31) (.t 33) KF)]) (.cond (.t 34) (.seq (.reg 
 [Qx 4 (.k (.d (.str []))),Qx 5 KF]) .ret) .skip)) (.seq (.reg [Qc 35 0,Qc 36 0,Q 37 (.len true (.t 36)),Qc 38 7,Q 39 (.bin .sub (.t 37) (.t 38)),Q 40 (.subS (.t 35) none 
 (some (.t 39))),Qc 41 8,Q 42 (.cvI .i32 (.t 41)),Q 43 (.i2s (.t 42)),Q 44 (.bin .add (.t 40) (.t 43)),Qa 4 44,Qx 5 KT]) .ret)))))
def q8i:List LRes:=[.tmp 4,.tmp 5]
theorem z0g:q0r Tryz.prog 144 45 q8c q8i:=⟨_,_,Tryz.func144,rfl,by kernel_rfl,by kernel_rfl,rfl⟩
theorem z5O(s:List UInt8)(m:Int){rs:List Nat}(hrs:q0Y s=some rs)(h0:rs≠[])(hs:s.length≤1000000)(h1:0≤m)(h2:m≤1000000):q0s Tryz.prog 144 [.str s,.int .i64 m] (fun r=>r=q3s (onM s m.toNat)):=by
 obtain⟨n,rfl⟩:=Int.eq_ofNat_of_zero_le h1; obtain⟨e1,e2⟩:=q7r s.length (Nat.le_refl _) hrs; have hlast:=z7u h0; have hlv:=e2 _ (List.mem_of_getElem? hlast); have hlv':=hlv; unfold q3Z at hlv'; have hsplit:s=encM rs.dropLast++enc (rs.getLastD 0):=by
  rw[← e1]; obtain⟨a,b,rfl⟩:∃ a b,rs=a++[b]:=⟨rs.dropLast,rs.getLast h0,(List.dropLast_concat_getLast h0).symm⟩; rw[q7Y,List.dropLast_concat]; simp[encM]
 have hdec:Lib.decodeLastL s=(rs.getLastD 0,(enc (rs.getLastD 0)).length):=by rw[hsplit]; exact j2K hlv _
 have hel:=z3c hlv; have hlen:s.length=(encM rs.dropLast).length+(enc (rs.getLastD 0)).length:=by conv=>lhs; rw[hsplit,List.length_append]
 have htake:s.take (encM rs.dropLast).length=encM rs.dropLast:=by
  conv=>lhs; rw[hsplit]
  simp
 refine z0g.call rfl ?_; simp(maxSteps:=2000000)only[go_sem,↓reduceIte,q8c,q8i]; refine q0g.of (z0O s (by omega)) ?_; rw[hdec]; unfold onM; simp only[hrs,if_neg h0,Int.toNat_natCast]; have hfin:encM rs.dropLast++enc (rs.getLastD 0+n)=encM (rs.dropLast++[rs.getLastD 0+n]):=by rw[q7Y]; simp[encM]
 have henc:q3Z (rs.getLastD 0+n)→(Utf8.encode ((rs.getLastD 0:Int)+n)).data.toList=enc (rs.getLastD 0+n):=fun h=>by rw[← Int.natCast_add]; exact q9f h
 generalize rs.getLastD 0=k at *; generalize encM rs.dropLast=pre at *
 by_cases hb:1114111<k+n∨(55295<k+n∧k+n<57344)∨(k≤55295∧57344≤k+n)
 ·rw[if_pos hb]
  by_cases hA:1114111<k+n
  ·have zA:(1114111<(k:Int)+n)=True:=eq_true (by omega); simp(maxSteps:=2000000)(disch:=omega)only[go_sem,↓reduceIte,zA]; simp[q3s]
  ·by_cases hB:55295<k+n∧k+n<57344
   ·have zA:(1114111<(k:Int)+n)=False:=eq_false (by omega); have zB:(55296≤(k:Int)+n)=True:=eq_true (by omega); have zC:((k:Int)+n<57344)=True:=eq_true (by omega); simp(maxSteps:=2000000)(disch:=omega)only[go_sem,↓reduceIte,zA,zB,zC]; simp[q3s]
   ·have zA:(1114111<(k:Int)+n)=False:=eq_false (by omega); have zB:(55296≤(k:Int)+n)=True:=eq_true (by omega); have zC:((k:Int)+n<57344)=False:=eq_false (by omega); have zD:((k:Int)<55296)=True:=eq_true (by omega); have zE:(57344≤(k:Int)+n)=True:=eq_true (by omega); simp(maxSteps:=2000000)(disch:=omega)only[go_sem,↓reduceIte,zA,zB,zC,zD,zE]; simp[q3s]
 ·rw[if_neg hb]; have zA:(1114111<(k:Int)+n)=False:=eq_false (by omega); have hv:=henc (by unfold q3Z; omega); have hw32:IntKind.i32.wrap ((k:Int)+n)=(k:Int)+n:=by rw[IntWalk.i32_in _ (by omega)]
  have hcut:cutI s 0 ((s.length:Int)-(enc k).length)=pre:=by
   unfold cutI; rw[show((s.length:Int)-(enc k).length).toNat=pre.length by omega,htake]; rfl
  have hfl:=z3c (r:=k+n) (by unfold q3Z; omega)
  by_cases hB:55295<k+n
  ·have zB:(55296≤(k:Int)+n)=True:=eq_true (by omega); have zC:((k:Int)+n<57344)=False:=eq_false (by omega); have zE:(57344≤(k:Int)+n)=True:=eq_true (by omega); have zD:((k:Int)<55296)=False:=eq_false (by omega); simp(maxSteps:=2000000)(disch:=omega)only[go_sem,↓reduceIte,zA,zB,zC,zE,zD,hw32,hv,hcut,hfin]; refine⟨by omega,by omega,?_⟩; simp[q3s]
  ·have zB:(55296≤(k:Int)+n)=False:=eq_false (by omega); have zE:(57344≤(k:Int)+n)=False:=eq_false (by omega); have zD:((k:Int)<55296)=True:=eq_true (by omega); simp(maxSteps:=2000000)(disch:=omega)only[go_sem,↓reduceIte,zA,zB,zE,zD,hw32,hv,hcut,hfin]; refine⟨by omega,by omega,?_⟩; simp[q3s]
def z0u:q0i:=
 .seq (.reg [Qx 4 (.k (.d (.str []))),Qx 5 KF]) (.seq (.seq (.reg [Qc 8 0,Q 9 (.len false (.t 8)),Q 10 (.cp (Ki 0))]) (.block 0 (.loop (.seq (.reg [Q 11 (.bin .lss (.t 10) (.t 
 9))]) (.seq (.cond (.t 11) .skip (.exit 0)) (.seq (.block 1 (.seq (.reg [Q 12 (.ia 3 (.t 8) (.t 10)),Q 13 (.ld true 3 (.t 12)),⟨some 7,.allo [.int .i64 0,.int .i64 0,.str 
 []],none⟩,⟨none,.st 3 (.t 7) (.t 13),none⟩]) (.seq (.reg [Qc 14 1,Q 15 (.fa 0 (.t 7)),Q 16 (.ld false 1 (.t 15)),Q 17 (.bin .geq (.t 14) (.t 16)),Qc 18 17,Qd 19 1 18 
 true,Qg 20 (.fa 1 (.t 7)) 18 true,Qg 21 (.ld false 1 (.t 20)) 18 true,Qg 22 (.bin .leq (.t 19) (.t 21)) 18 true,Q 23 (.pick (.t 18) (.t 22) KF)]) (.cond (.t 23) (.seq (.reg 
 [Q 24 (.fa 2 (.t 7)),Q 25 (.ld false 1 (.t 24)),Qc 26 1,Q 27 (.fa 0 (.t 7)),Q 28 (.ld false 1 (.t 27)),Q 29 (.bin .sub (.t 26) (.t 28)),⟨some 30,.call 144 [.t 25,.t 29], 
 none⟩,Q 31 (.ext 0 (.t 30)),Q 32 (.ext 1 (.t 30)),Qa 4 31,Qa 5 32]) .ret) .skip)))) (.reg [Q 33 (.bin .add (.t 10) (Ki 1)),Qc 10 33]))))))) (.seq (.reg [Qx 4 (.k (.d (.str 
 []))),Qx 5 KF]) .ret))
def z0B:List LRes:=[.tmp 4,.tmp 5]
theorem z17:q0r Tryz.prog 132 34 z0u z0B:=⟨_,_,Tryz.func132,rfl,by kernel_rfl,by kernel_rfl,rfl⟩
def j4t(x:Span):Prop:=x.wf∧x.to-x.fr≤1000000∧∃ rs,q0Y x.tx=some rs∧rs≠[]
theorem j1O(l:List Span)(c:Int)(hw:∀ x∈l,j4t x)(hc : -9223372036854775808≤c∧c≤9223372036854775807)(hl:l.length≤1000000):q0s Tryz.prog 132 [.list (q2e l),.int .i64 c] (fun r=>r=q3s (z4y l c)):=by
 have hI:((q2e l).length:Int)=(l.length:Int):=by rw[q6j]
 refine z17.call rfl ?_; generalize hR:z4y l c=R; simp(maxSteps:=2000000)only[go_sem,↓reduceIte,z0u,z0B,hI]; refine q0l (fun i:Nat=>⟨[(0,.d (.list (q2e l))),(1,.d (.int .i64 c)),(8,.d (.list (q2e l))),(9,.d (.int .i64 l.length)),(10,.d (.int .i64 i))],[],[]⟩)
  (fun i=>i≤l.length∧z4y (l.drop i) c=R) (fun i=>l.length-i) 0 ?_ ?_ ?_
 ·refine q0d ?_ trivial; simp(maxSteps:=2000000)only[go_sem,↓reduceIte,Sub,Int.natCast_add,Int.natCast_mul]
 ·exact⟨Nat.zero_le _,hR⟩
 ·rintro i ⟨hi,hF⟩; simp(maxSteps:=2000000)only[go_sem,↓reduceIte,hI]; refine⟨fun hlt=>?_,fun hge=>?_⟩
  ·obtain⟨x,hx⟩:=get_some (l:=l) (i:=i) (by omega); obtain⟨⟨w1,w2,w3,w4,w5⟩,w6,rs,w7,w8⟩:=hw x (List.mem_of_getElem? hx); rw[q05 hx,z4y]at hF
   by_cases hA:x.fr≤c∧c≤x.to
   ·rw[if_pos hA]at hF; have z1:=eq_true hA.1; have z2:=eq_true hA.2; simp(maxSteps:=2000000)(disch:=omega)only[go_sem,↓reduceIte,hI,q0a,q0p,hx,Span.d,z1,z2]; refine q0g.of (z5O x.tx (c-x.fr) w7 w8 (by omega) (by omega) (by omega)) ?_; rw[hF]; cases R<;>(simp only[q3s]; simp(maxSteps:=2000000)(disch:=omega)only[go_sem,↓reduceIte])
   ·rw[if_neg hA]at hF
    by_cases hA1:x.fr≤c
    ·have z1:=eq_true hA1; have z2:(c≤x.to)=False:=eq_false (by omega); simp(maxSteps:=2000000)(disch:=omega)only[go_sem,↓reduceIte,hI,q0a,q0p,hx,Span.d,z1,z2]; refine⟨i+1,?_,⟨by omega,hF⟩,by omega⟩; refine q0d ?_ trivial; simp(maxSteps:=2000000)only[go_sem,↓reduceIte,Sub,Int.natCast_add,Int.natCast_mul]
    ·have z1:=eq_false hA1; simp(maxSteps:=2000000)(disch:=omega)only[go_sem,↓reduceIte,hI,q0a,q0p,hx,Span.d,z1]; refine⟨i+1,?_,⟨by omega,hF⟩,by omega⟩; refine q0d ?_ trivial; simp(maxSteps:=2000000)only[go_sem,↓reduceIte,Sub,Int.natCast_add,Int.natCast_mul]
  ·have:l.drop i=[]:=List.drop_eq_nil_of_le (by omega); rw[this]at hF; simp only[z4y]at hF; subst hF; rfl
def q8d:q0i:=
 .seq (.reg [Qx 2 KF]) (.seq (.reg [Qc 3 0,Q 4 (.bin .eql (.t 3) (Kb 0)),Qc 5 4,Qd 6 0 5 false,Qg 7 (.bin .eql (.t 6) (Kb 9)) 5 false,Q 8 (.pick (.t 5) KT (.t 7)),Qc 9 8,Qd 
 10 0 9 false,Qg 11 (.bin .eql (.t 10) (Kb 10)) 9 false,Q 12 (.pick (.t 9) KT (.t 11)),Qc 13 12,Qd 14 0 13 false,Qg 15 (.bin .eql (.t 14) (Kb 12)) 13 false,Q 16 (.pick (.t 
 13) KT (.t 15)),Qc 17 16,Qd 18 0 17 false,Qg 19 (.bin .eql (.t 18) (Kb 13)) 17 false,Q 20 (.pick (.t 17) KT (.t 19)),Qc 21 20,Qd 22 0 21 false,Qg 23 (.bin .eql (.t 22) (Kb 
 32)) 21 false,Q 24 (.pick (.t 21) KT (.t 23)),Qa 2 24]) .ret)
def q8j:List LRes:=[.tmp 2]
theorem z0i:q0r Tryz.prog 60 25 q8d q8j:=⟨_,_,Tryz.func60,rfl,by kernel_rfl,by kernel_rfl,rfl⟩
def z0z:q0i:=
 .seq (.reg [Qx 2 (Ki 0)]) (.seq (.block 0 (.seq (.reg [Qc 4 0,Q 5 (.bin .geq (.t 4) (Kb 48)),Qc 6 5,Qd 7 0 6 true,Qg 8 (.bin .leq (.t 7) (Kb 57)) 6 true,Q 9 (.pick (.t 6) (.t 
 8) KF),Qa 3 9]) (.cond (.t 3) (.seq (.reg [Qc 10 0,Q 11 (.bin .sub (.t 10) (Kb 48)),Q 12 (.cvI .i64 (.t 11)),Qa 2 12]) .ret) (.seq (.reg [Qc 14 0,Q 15 (.bin .geq (.t 14) (Kb 
 97)),Qc 16 15,Qd 17 0 16 true,Qg 18 (.bin .leq (.t 17) (Kb 102)) 16 true,Q 19 (.pick (.t 16) (.t 18) KF),Qa 13 19]) (.cond (.t 13) (.seq (.reg [Qc 20 0,Q 21 (.bin .sub (.t 
 20) (Kb 97)),Q 22 (.cvI .i64 (.t 21)),Q 23 (.bin .add (.t 22) (Ki 10)),Qa 2 23]) .ret) (.seq (.reg [Qc 25 0,Q 26 (.bin .geq (.t 25) (Kb 65)),Qc 27 26,Qd 28 0 27 true,Qg 29 
 (.bin .leq (.t 28) (Kb 70)) 27 true,Q 30 (.pick (.t 27) (.t 29) KF),Qa 24 30]) (.cond (.t 24) (.seq (.reg [Qc 31 0,Q 32 (.bin .sub (.t 31) (Kb 65)),Q 33 (.cvI .i64 (.t 32)), 
 Q 34 (.bin .add (.t 33) (Ki 10)),Qa 2 34]) .ret) .skip))))))) (.seq (.reg [Qx 2 (Ki (-1))]) .ret))
def z0G:List LRes:=[.tmp 2]
theorem z2d:q0r Tryz.prog 107 35 z0z z0G:=⟨_,_,Tryz.func107,rfl,by kernel_rfl,by kernel_rfl,rfl⟩
def q8p(n:Int):Bool:=decide (n=0) || (decide (n=9) || (decide (n=10) || (decide (n=12) || (decide (n=13) || decide (n=32)))))
def hexI(n:Int):Int:=if 48≤n∧n≤57 then n-48 else if 97≤n∧n≤102 then n-87 else if 65≤n∧n≤70 then n-55 else -1
theorem z2p(n:Int):q0s Tryz.prog 60 [.int .u8 n] (fun r=>r=.one (.bool (q8p n))):=by
 refine z0i.call rfl ?_; simp(maxSteps:=2000000)only[go_sem,↓reduceIte,q8d,q8j]; unfold q8p; simp +contextual
theorem z0o{n:Int}(h:0≤n∧n<256):q0s Tryz.prog 107 [.int .u8 n] (fun r=>r=.one (.int .i64 (hexI n))):=by
 refine z2d.call rfl ?_; simp(maxSteps:=2000000)only[go_sem,↓reduceIte,z0z,z0G]; unfold hexI; repeat' (first|apply And.intro|intro _)
 all_goals
  congr 2
  try simp only[IntKind.wrap_i64,IntKind.wrap_u8]
  (repeat' split)<;>omega
def q5C:List UInt8→Int→List UInt8→List UInt8×Nat
 |[],_,_=>([],5)
 |c::r,h,b=>
  if c.toNat=62 then(if 0≤h then b++[z0c (16*h)]else b,0)
  else if q8p c.toNat=true then q5C r h b
  else if hexI c.toNat<0 then([],4)
  else if h<0 then q5C r (hexI c.toNat) b
  else q5C r (-1) (b++[z0c (16*h+hexI c.toNat)])
theorem z00(n:Int): -1≤hexI n∧hexI n≤15:=by
 unfold hexI; (repeat' split)<;>omega
def z6g:List UInt8→Nat
 |[]=>0
 |c::r=>if c.toNat=62 then 1 else z6g r+1
end Go.Av.Tryz
set_option linter.unusedSimpArgs false
set_option maxRecDepth 100000
namespace Go.Av.Tryz
open Go.Proofs
def q90:List (List UInt8):=[[115,112,97,99,101],[112,101,114,105,111,100],[99,111,109,109,97],[104,121,112,104,101,110],[99,111,108,111,110],[122,101,114,111],[111,110,101],[116,119,111],[116,104,114,101,101],[102,111,117,114],[102,105,118,101],[115,105,120],[115,101,118,101,110],[101,105,103,104,116],[110,105,110,101]]
def z7n:List UInt8:=[32,46,44,45,58,48,49,50,51,52,53,54,55,56,57]
def look:List (List UInt8)→List UInt8→List UInt8→Option (List UInt8)
 |n::ns,c::cs,s=>if s=n then some [c]else look ns cs s
 |_,_,_=>none
theorem z2M:∀(ns:List (List UInt8)) (cs:List UInt8) (s:List UInt8),q2B (ns.map .str) (cs.map fun c=>.str [c]) (.str s)=(look ns cs s).map .str
 |[],_,_=>by simp[q2B,look]
 |_::_,[],_=>by simp[q2B,look]
 |n::ns,c::cs,s=>by
  simp only[List.map_cons,q2B,look,q9k,beq_iff_eq]; split
  ·rfl
  ·exact z2M ns cs s
def letter(s:List UInt8):Bool:=decide (s.length=1)&&((decide (97≤(s.getD 0 0).toNat)&&decide ((s.getD 0 0).toNat≤122)) || (decide (65≤(s.getD 0 0).toNat)&&decide ((s.getD 0 0).toNat≤90)))
def z32(s:List UInt8):Option (List UInt8):=if letter s=true then some s else look q90 z7n s
theorem q0c.q0m{t kt e:TypeId}{m i x:LX}{K:St→Prop}{σ:St}{ks vs:List D}{key v:D}{s:Nat}(hm:σ.ev m=.mp (.l s))(ho:σ.obj (.l s)=some (.mobj ks vs))(hi:σ.ev i=.d key)(hx:(σ.ev x).rd=some v)
  (ht:Tryz.prog.underlying t=some (.map kt e)) (hkt:Tryz.prog.underlying kt=some .string) (hkey:q0L .string key=true) (hks:ks.all (q0L .string)=true) (hnew:(q2B ks vs key).isNone=true)
  (hK:K (σ.setObj (.l s) (.mobj (ks++[key]) (vs++[v])))):q0c Tryz.prog none (.mapUpd t) [m,i,x] K σ:=
 q0c.z7A hm ho hi hx ht hkt hkey (fun k hk=>List.all_eq_true.1 hks k hk) (Option.isNone_iff_eq_none.1 hnew) hK
def q2r:q0i:=
 .seq (.reg [Qx 2 (.k (.d (.str []))),Qx 3 KF]) (.seq (.seq (.reg [Qc 6 0,Q 7 (.len true (.t 6)),Q 8 (.bin .eql (.t 7) (Ki 1)),Qc 9 8,Qd 10 0 9 true,Qg 11 (.idxS (.t 10) (Ki 
 0)) 9 true,Qg 12 (.bin .geq (.t 11) (Kb 97)) 9 true,Qd 13 12 9 true,Qd 14 0 13 true,Qg 15 (.idxS (.t 14) (Ki 0)) 13 true,Qg 16 (.bin .leq (.t 15) (Kb 122)) 13 true,Qg 17 
 (.pick (.t 13) (.t 16) KF) 9 true,Qd 18 17 9 true,Qd 19 0 18 false,Qg 20 (.idxS (.t 19) (Ki 0)) 18 false,Qg 21 (.bin .geq (.t 20) (Kb 65)) 18 false,Qd 22 21 18 false,Qd 23 
 0 22 true,Qg 24 (.idxS (.t 23) (Ki 0)) 22 true,Qg 25 (.bin .leq (.t 24) (Kb 90)) 22 true,Qg 26 (.pick (.t 22) (.t 25) KF) 18 false,Qg 27 (.pick (.t 18) KT (.t 26)) 9 true,Q 
 28 (.pick (.t 9) (.t 27) KF)]) (.cond (.t 28) (.seq (.reg [Qc 29 0,Qa 2 29,Qx 3 KT]) .ret) .skip)) (.seq (.reg [⟨some 31,.prim (.mkMap 202) [] [],none⟩,⟨none,.prim (.mapUpd 
 202) [.t 31,.k (.d (.str [115,112,97,99,101])),.k (.d (.str [32]))] [],none⟩,⟨none,.prim (.mapUpd 202) [.t 31,.k (.d (.str [112,101,114,105,111,100])),.k (.d 
 (.str [46]))] [],none⟩,⟨none,.prim (.mapUpd 202) [.t 31,.k (.d (.str [99,111,109,109,97])),.k (.d (.str [44]))] [],none⟩,⟨none,.prim (.mapUpd 202) [.t 31,.k (.d 
 (.str [104,121,112,104,101,110])),.k (.d (.str [45]))] [],none⟩,⟨none,.prim (.mapUpd 202) [.t 31,.k (.d (.str [99,111,108,111,110])),.k (.d (.str [58]))] [], 
 none⟩,⟨none,.prim (.mapUpd 202) [.t 31,.k (.d (.str [122,101,114,111])),.k (.d (.str [48]))] [],none⟩,⟨none,.prim (.mapUpd 202) [.t 31,.k (.d (.str [111,110,101])), 
 .k (.d (.str [49]))] [],none⟩,⟨none,.prim (.mapUpd 202) [.t 31,.k (.d (.str [116,119,111])),.k (.d (.str [50]))] [],none⟩,⟨none,.prim (.mapUpd 202) [.t 31,.k (.d (.str 
 [116,104,114,101,101])),.k (.d (.str [51]))] [],none⟩,⟨none,.prim (.mapUpd 202) [.t 31,.k (.d (.str [102,111,117,114])),.k (.d (.str [52]))] [],none⟩,⟨none,.prim 
 (.mapUpd 202) [.t 31,.k (.d (.str [102,105,118,101])),.k (.d (.str [53]))] [],none⟩,⟨none,.prim (.mapUpd 202) [.t 31,.k (.d (.str [115,105,120])),.k (.d (.str [54]))] 
 [],none⟩,⟨none,.prim (.mapUpd 202) [.t 31,.k (.d (.str [115,101,118,101,110])),.k (.d (.str [55]))] [],none⟩,⟨none,.prim (.mapUpd 202) [.t 31,.k (.d (.str [101,105, 
 103,104,116])),.k (.d (.str [56]))] [],none⟩,⟨none,.prim (.mapUpd 202) [.t 31,.k (.d (.str [110,105,110,101])),.k (.d (.str [57]))] [],none⟩,Qc 32 31,Qc 33 0,⟨some 
 34,.prim (.lookup 202 true) [.t 32,.t 33] [],none⟩,Qc 30 34,Q 35 (.ext 0 (.t 30)),Q 36 (.ext 1 (.t 30)),Qa 4 35,Qa 5 36]) (.seq (.reg [Qc 37 4,Qc 38 5,Qa 2 37,Qa 3 
 38]) .ret)))
def q2s:List LRes:=[.tmp 2,.tmp 3]
theorem z0h:q0r Tryz.prog 145 39 q2r q2s:=⟨_,_,Tryz.func145,rfl,by kernel_rfl,by kernel_rfl,rfl⟩
theorem z6W(s:List UInt8)(hs:s.length≤1000000):q0s Tryz.prog 145 [.str s] (fun r=>r=q3s (z32 s)):=by
 refine z0h.call rfl ?_; unfold z32; have one:s.length=1→∃ c,s=[c]:=fun h=>List.length_eq_one_iff.1 h
 have mapT:Tryz.prog.underlying 202=some (.map 9 9):=by kernel_rfl
 have strT:Tryz.prog.underlying 9=some .string:=by kernel_rfl
 have strZ:Program.zeroOf Tryz.prog 9=some (.str []):=by kernel_rfl
 have htab:=z2M q90 z7n s; generalize look q90 z7n s=R at htab ⊢; simp only[q90,z7n,List.map_cons,List.map_nil]at htab
 by_cases h1:s.length=1
 ·obtain⟨c,hc⟩:=one h1; have hc8:=q4o c; have g0:getI s 0=some c:=by rw[hc]; rfl
  have hlet:letter s=(decide (97≤c.toNat)&&decide (c.toNat≤122) || decide (65≤c.toNat)&&decide (c.toNat≤90)):=by rw[hc]; rfl
  have zl:((s.length:Int)=1)=True:=eq_true (by omega); rw[hlet]
  by_cases a1:97≤c.toNat∧c.toNat≤122
  ·have z1:(97≤(c.toNat:Int))=True:=eq_true (by omega); have z2:((c.toNat:Int)≤122)=True:=eq_true (by omega); rw[if_pos (by simp; omega)]; simp(maxSteps:=2000000)(disch:=omega)only[go_sem,↓reduceIte,q2r,q2s,g0,zl,z1,z2]; rfl
  ·by_cases a2:65≤c.toNat∧c.toNat≤90
   ·have z1:(97≤(c.toNat:Int))=False:=eq_false (by omega); have z3:(65≤(c.toNat:Int))=True:=eq_true (by omega); have z4:((c.toNat:Int)≤90)=True:=eq_true (by omega); rw[if_pos (by simp; omega)]; simp(maxSteps:=2000000)(disch:=omega)only[go_sem,↓reduceIte,q2r,q2s,g0,zl,z1,z3,z4]; rfl
   ·rw[if_neg (by simp; omega)]
    by_cases a3:c.toNat<65
    ·have z1:(97≤(c.toNat:Int))=False:=eq_false (by omega); have z3:(65≤(c.toNat:Int))=False:=eq_false (by omega); simp(maxSteps:=2000000)(disch:=omega)only[go_sem,↓reduceIte,q2r,q2s,g0,zl,z1,z3]; refine q0c.mkMap mapT ?_; simp(maxSteps:=2000000)only[go_sem,↓reduceIte]; refine q0c.q0m rfl rfl rfl rfl mapT strT rfl rfl rfl ?_; simp(maxSteps:=2000000)only[go_sem,↓reduceIte]; refine q0c.q0m rfl rfl rfl rfl mapT strT rfl rfl rfl ?_; simp(maxSteps:=2000000)only[go_sem,↓reduceIte]
     refine q0c.q0m rfl rfl rfl rfl mapT strT rfl rfl rfl ?_; simp(maxSteps:=2000000)only[go_sem,↓reduceIte]; refine q0c.q0m rfl rfl rfl rfl mapT strT rfl rfl rfl ?_; simp(maxSteps:=2000000)only[go_sem,↓reduceIte]; refine q0c.q0m rfl rfl rfl rfl mapT strT rfl rfl rfl ?_; simp(maxSteps:=2000000)only[go_sem,↓reduceIte]; refine q0c.q0m rfl rfl rfl rfl mapT strT rfl rfl rfl ?_; simp(maxSteps:=2000000)only[go_sem,↓reduceIte]; refine q0c.q0m rfl rfl rfl rfl mapT strT rfl rfl rfl ?_; simp(maxSteps:=2000000)only[go_sem,↓reduceIte]
     refine q0c.q0m rfl rfl rfl rfl mapT strT rfl rfl rfl ?_; simp(maxSteps:=2000000)only[go_sem,↓reduceIte]; refine q0c.q0m rfl rfl rfl rfl mapT strT rfl rfl rfl ?_; simp(maxSteps:=2000000)only[go_sem,↓reduceIte]; refine q0c.q0m rfl rfl rfl rfl mapT strT rfl rfl rfl ?_; simp(maxSteps:=2000000)only[go_sem,↓reduceIte]; refine q0c.q0m rfl rfl rfl rfl mapT strT rfl rfl rfl ?_; simp(maxSteps:=2000000)only[go_sem,↓reduceIte]; refine q0c.q0m rfl rfl rfl rfl mapT strT rfl rfl rfl ?_; simp(maxSteps:=2000000)only[go_sem,↓reduceIte]
     refine q0c.q0m rfl rfl rfl rfl mapT strT rfl rfl rfl ?_; simp(maxSteps:=2000000)only[go_sem,↓reduceIte]; refine q0c.q0m rfl rfl rfl rfl mapT strT rfl rfl rfl ?_; simp(maxSteps:=2000000)only[go_sem,↓reduceIte]; refine q0c.q0m rfl rfl rfl rfl mapT strT rfl rfl rfl ?_; simp(maxSteps:=2000000)only[go_sem,↓reduceIte]; refine q0c.z3C (kd:=.string) (key:=.str s) (zero:=.str []) rfl rfl rfl mapT strT rfl (fun k hk=>List.all_eq_true.1 (show(List.map D.str q90).all (q0L .string)=true from rfl) k hk) strZ ?_; rw[htab]
     cases R<;>(simp only[Option.map_some,Option.map_none]; simp(maxSteps:=2000000)only[go_sem,↓reduceIte]; rfl)
    ·by_cases a4:c.toNat<97
     ·have z1:(97≤(c.toNat:Int))=False:=eq_false (by omega); have z3:(65≤(c.toNat:Int))=True:=eq_true (by omega); have z4:((c.toNat:Int)≤90)=False:=eq_false (by omega); simp(maxSteps:=2000000)(disch:=omega)only[go_sem,↓reduceIte,q2r,q2s,g0,zl,z1,z3,z4]; refine q0c.mkMap mapT ?_; simp(maxSteps:=2000000)only[go_sem,↓reduceIte]; refine q0c.q0m rfl rfl rfl rfl mapT strT rfl rfl rfl ?_; simp(maxSteps:=2000000)only[go_sem,↓reduceIte]; refine q0c.q0m rfl rfl rfl rfl mapT strT rfl rfl rfl ?_
      simp(maxSteps:=2000000)only[go_sem,↓reduceIte]; refine q0c.q0m rfl rfl rfl rfl mapT strT rfl rfl rfl ?_; simp(maxSteps:=2000000)only[go_sem,↓reduceIte]; refine q0c.q0m rfl rfl rfl rfl mapT strT rfl rfl rfl ?_; simp(maxSteps:=2000000)only[go_sem,↓reduceIte]; refine q0c.q0m rfl rfl rfl rfl mapT strT rfl rfl rfl ?_; simp(maxSteps:=2000000)only[go_sem,↓reduceIte]; refine q0c.q0m rfl rfl rfl rfl mapT strT rfl rfl rfl ?_; simp(maxSteps:=2000000)only[go_sem,↓reduceIte]; refine q0c.q0m rfl rfl rfl rfl mapT strT rfl rfl rfl ?_
      simp(maxSteps:=2000000)only[go_sem,↓reduceIte]; refine q0c.q0m rfl rfl rfl rfl mapT strT rfl rfl rfl ?_; simp(maxSteps:=2000000)only[go_sem,↓reduceIte]; refine q0c.q0m rfl rfl rfl rfl mapT strT rfl rfl rfl ?_; simp(maxSteps:=2000000)only[go_sem,↓reduceIte]; refine q0c.q0m rfl rfl rfl rfl mapT strT rfl rfl rfl ?_; simp(maxSteps:=2000000)only[go_sem,↓reduceIte]; refine q0c.q0m rfl rfl rfl rfl mapT strT rfl rfl rfl ?_; simp(maxSteps:=2000000)only[go_sem,↓reduceIte]; refine q0c.q0m rfl rfl rfl rfl mapT strT rfl rfl rfl ?_
      simp(maxSteps:=2000000)only[go_sem,↓reduceIte]; refine q0c.q0m rfl rfl rfl rfl mapT strT rfl rfl rfl ?_; simp(maxSteps:=2000000)only[go_sem,↓reduceIte]; refine q0c.q0m rfl rfl rfl rfl mapT strT rfl rfl rfl ?_; simp(maxSteps:=2000000)only[go_sem,↓reduceIte]; refine q0c.q0m rfl rfl rfl rfl mapT strT rfl rfl rfl ?_; simp(maxSteps:=2000000)only[go_sem,↓reduceIte]
      refine q0c.z3C (kd:=.string) (key:=.str s) (zero:=.str []) rfl rfl rfl mapT strT rfl (fun k hk=>List.all_eq_true.1 (show(List.map D.str q90).all (q0L .string)=true from rfl) k hk) strZ ?_; rw[htab]; cases R<;>(simp only[Option.map_some,Option.map_none]; simp(maxSteps:=2000000)only[go_sem,↓reduceIte]; rfl)
     ·have z1:(97≤(c.toNat:Int))=True:=eq_true (by omega); have z2:((c.toNat:Int)≤122)=False:=eq_false (by omega); have z3:(65≤(c.toNat:Int))=True:=eq_true (by omega); have z4:((c.toNat:Int)≤90)=False:=eq_false (by omega); simp(maxSteps:=2000000)(disch:=omega)only[go_sem,↓reduceIte,q2r,q2s,g0,zl,z1,z2,z3,z4]; refine q0c.mkMap mapT ?_; simp(maxSteps:=2000000)only[go_sem,↓reduceIte]; refine q0c.q0m rfl rfl rfl rfl mapT strT rfl rfl rfl ?_; simp(maxSteps:=2000000)only[go_sem,↓reduceIte]
      refine q0c.q0m rfl rfl rfl rfl mapT strT rfl rfl rfl ?_; simp(maxSteps:=2000000)only[go_sem,↓reduceIte]; refine q0c.q0m rfl rfl rfl rfl mapT strT rfl rfl rfl ?_; simp(maxSteps:=2000000)only[go_sem,↓reduceIte]; refine q0c.q0m rfl rfl rfl rfl mapT strT rfl rfl rfl ?_; simp(maxSteps:=2000000)only[go_sem,↓reduceIte]; refine q0c.q0m rfl rfl rfl rfl mapT strT rfl rfl rfl ?_; simp(maxSteps:=2000000)only[go_sem,↓reduceIte]; refine q0c.q0m rfl rfl rfl rfl mapT strT rfl rfl rfl ?_; simp(maxSteps:=2000000)only[go_sem,↓reduceIte]
      refine q0c.q0m rfl rfl rfl rfl mapT strT rfl rfl rfl ?_; simp(maxSteps:=2000000)only[go_sem,↓reduceIte]; refine q0c.q0m rfl rfl rfl rfl mapT strT rfl rfl rfl ?_; simp(maxSteps:=2000000)only[go_sem,↓reduceIte]; refine q0c.q0m rfl rfl rfl rfl mapT strT rfl rfl rfl ?_; simp(maxSteps:=2000000)only[go_sem,↓reduceIte]; refine q0c.q0m rfl rfl rfl rfl mapT strT rfl rfl rfl ?_; simp(maxSteps:=2000000)only[go_sem,↓reduceIte]; refine q0c.q0m rfl rfl rfl rfl mapT strT rfl rfl rfl ?_; simp(maxSteps:=2000000)only[go_sem,↓reduceIte]
      refine q0c.q0m rfl rfl rfl rfl mapT strT rfl rfl rfl ?_; simp(maxSteps:=2000000)only[go_sem,↓reduceIte]; refine q0c.q0m rfl rfl rfl rfl mapT strT rfl rfl rfl ?_; simp(maxSteps:=2000000)only[go_sem,↓reduceIte]; refine q0c.q0m rfl rfl rfl rfl mapT strT rfl rfl rfl ?_; simp(maxSteps:=2000000)only[go_sem,↓reduceIte]; refine q0c.q0m rfl rfl rfl rfl mapT strT rfl rfl rfl ?_; simp(maxSteps:=2000000)only[go_sem,↓reduceIte]
      refine q0c.z3C (kd:=.string) (key:=.str s) (zero:=.str []) rfl rfl rfl mapT strT rfl (fun k hk=>List.all_eq_true.1 (show(List.map D.str q90).all (q0L .string)=true from rfl) k hk) strZ ?_; rw[htab]; cases R<;>(simp only[Option.map_some,Option.map_none]; simp(maxSteps:=2000000)only[go_sem,↓reduceIte]; rfl)
 ·have zl:((s.length:Int)=1)=False:=eq_false (by omega); have hlet:letter s=false:=by unfold letter; rw[decide_eq_false h1]; rfl
  rw[hlet,if_neg (by decide)]; simp(maxSteps:=2000000)(disch:=omega)only[go_sem,↓reduceIte,q2r,q2s,zl]; refine q0c.mkMap mapT ?_; simp(maxSteps:=2000000)only[go_sem,↓reduceIte]; refine q0c.q0m rfl rfl rfl rfl mapT strT rfl rfl rfl ?_; simp(maxSteps:=2000000)only[go_sem,↓reduceIte]; refine q0c.q0m rfl rfl rfl rfl mapT strT rfl rfl rfl ?_; simp(maxSteps:=2000000)only[go_sem,↓reduceIte]; refine q0c.q0m rfl rfl rfl rfl mapT strT rfl rfl rfl ?_; simp(maxSteps:=2000000)only[go_sem,↓reduceIte]
  refine q0c.q0m rfl rfl rfl rfl mapT strT rfl rfl rfl ?_; simp(maxSteps:=2000000)only[go_sem,↓reduceIte]; refine q0c.q0m rfl rfl rfl rfl mapT strT rfl rfl rfl ?_; simp(maxSteps:=2000000)only[go_sem,↓reduceIte]; refine q0c.q0m rfl rfl rfl rfl mapT strT rfl rfl rfl ?_; simp(maxSteps:=2000000)only[go_sem,↓reduceIte]; refine q0c.q0m rfl rfl rfl rfl mapT strT rfl rfl rfl ?_; simp(maxSteps:=2000000)only[go_sem,↓reduceIte]; refine q0c.q0m rfl rfl rfl rfl mapT strT rfl rfl rfl ?_; simp(maxSteps:=2000000)only[go_sem,↓reduceIte]
  refine q0c.q0m rfl rfl rfl rfl mapT strT rfl rfl rfl ?_; simp(maxSteps:=2000000)only[go_sem,↓reduceIte]; refine q0c.q0m rfl rfl rfl rfl mapT strT rfl rfl rfl ?_; simp(maxSteps:=2000000)only[go_sem,↓reduceIte]; refine q0c.q0m rfl rfl rfl rfl mapT strT rfl rfl rfl ?_; simp(maxSteps:=2000000)only[go_sem,↓reduceIte]; refine q0c.q0m rfl rfl rfl rfl mapT strT rfl rfl rfl ?_; simp(maxSteps:=2000000)only[go_sem,↓reduceIte]; refine q0c.q0m rfl rfl rfl rfl mapT strT rfl rfl rfl ?_; simp(maxSteps:=2000000)only[go_sem,↓reduceIte]
  refine q0c.q0m rfl rfl rfl rfl mapT strT rfl rfl rfl ?_; simp(maxSteps:=2000000)only[go_sem,↓reduceIte]; refine q0c.q0m rfl rfl rfl rfl mapT strT rfl rfl rfl ?_; simp(maxSteps:=2000000)only[go_sem,↓reduceIte]; refine q0c.z3C (kd:=.string) (key:=.str s) (zero:=.str []) rfl rfl rfl mapT strT rfl (fun k hk=>List.all_eq_true.1 (show(List.map D.str q90).all (q0L .string)=true from rfl) k hk) strZ ?_; rw[htab]; cases R<;>(simp only[Option.map_some,Option.map_none]; simp(maxSteps:=2000000)only[go_sem,↓reduceIte]; rfl)
end Go.Av.Tryz
set_option linter.unusedSimpArgs false
set_option maxRecDepth 100000
namespace Go.Av.Tryz
open Go.Proofs
def hexD(c:Nat):Option Nat:=if 48≤c∧c≤57 then some (c-48)else if 65≤c∧c≤70 then some (c-55)else none
def q6p:List UInt8→Nat→Option Nat
 |[],n=>some n
 |c::r,n=>match hexD c.toNat with
  |none=>none
  |some d=>q6p r (16*n+d)
def hexZ(o:Option Nat):Int:=match o with
 |some n=>n
 |none => -1
def j5q{α:Type}(a b:Option α):Option α:=match a with
 |some t=>some t
 |none=>b
def surM:Option Nat→Option (List UInt8)
 |none=>none
 |some n=>if 55296≤n∧n<57344 then none else some (enc n)
def uniM(s:List UInt8):Option (List UInt8):=if s.length≠7∨s.take 3≠[117,110,105]then none else surM (q6p (s.drop 3) 0)
def z7q(s:List UInt8):Option (List UInt8):=j5q (z32 s) (uniM s)
theorem j0j{c d:Nat}(h:hexD c=some d):d≤15:=by
 unfold hexD at h; split at h
 ·cases h; omega
 ·split at h
  ·cases h; omega
  ·cases h
theorem z4N:∀(s:List UInt8) (n:Nat),∀ m,q6p s n=some m→m<(n+1)*16 ^ s.length
 |[],n,m,h=>by simp[q6p]at h; subst h; simp
 |c::r,n,m,h=>by
  simp only[q6p]at h; cases hd:hexD c.toNat with
  |none=>rw[hd]at h; cases h
  |some d=>
   rw[hd]at h; have ih:=z4N r _ m h; have:=j0j hd; rw[List.length_cons,Nat.pow_succ]; have h2:(16*n+d+1)*16 ^ r.length≤((n+1)*16)*16 ^ r.length:=Nat.mul_le_mul_right _ (by omega)
   calc m<(16*n+d+1)*16 ^ r.length:=ih
    _≤((n+1)*16)*16 ^ r.length:=h2
    _=(n+1)*(16 ^ r.length*16):=by rw[Nat.mul_assoc,Nat.mul_comm 16]
def z2j:q0i:=
 .seq (.reg [Qx 2 (Ki 0)]) (.seq (.reg [Qx 3 (Ki 0)]) (.seq (.seq (.reg [Qc 6 0,Q 7 (.len true (.t 6)),Q 8 (.cp (Ki 0))]) (.block 0 (.loop (.seq (.reg [Q 9 (.bin .lss (.t 8) (.t 
 7))]) (.seq (.cond (.t 9) .skip (.exit 0)) (.seq (.block 1 (.seq (.reg [Qc 10 8,Qa 4 10]) (.seq (.reg [Qc 11 0,Qc 12 4,Q 13 (.idxS (.t 11) (.t 12)),Qa 5 13]) (.block 2 (.seq 
 (.reg [Qc 15 5,Q 16 (.bin .geq (.t 15) (Kb 48)),Qc 17 16,Qd 18 5 17 true,Qg 19 (.bin .leq (.t 18) (Kb 57)) 17 true,Q 20 (.pick (.t 17) (.t 19) KF),Qa 14 20]) (.cond (.t 14) 
 (.reg [Qc 21 3,Q 22 (.bin .mul (Ki 16) (.t 21)),Qc 23 5,Q 24 (.bin .sub (.t 23) (Kb 48)),Q 25 (.cvI .i64 (.t 24)),Q 26 (.bin .add (.t 22) (.t 25)),Qa 3 26]) (.seq (.reg [Qc 
 28 5,Q 29 (.bin .geq (.t 28) (Kb 65)),Qc 30 29,Qd 31 5 30 true,Qg 32 (.bin .leq (.t 31) (Kb 70)) 30 true,Q 33 (.pick (.t 30) (.t 32) KF),Qa 27 33]) (.cond (.t 27) (.reg [Qc 
 34 3,Q 35 (.bin .mul (Ki 16) (.t 34)),Qc 36 5,Q 37 (.bin .sub (.t 36) (Kb 65)),Q 38 (.cvI .i64 (.t 37)),Q 39 (.bin .add (.t 35) (.t 38)),Q 40 (.bin .add (.t 39) (Ki 10)), 
 Qa 3 40]) (.seq (.reg [Qx 2 (Ki (-1))]) .ret))))))))) (.reg [Q 41 (.bin .add (.t 8) (Ki 1)),Qc 8 41]))))))) (.seq (.reg [Qc 42 3,Qa 2 42]) .ret)))
def z2l:List LRes:=[.tmp 2]
theorem z3y:q0r Tryz.prog 146 43 z2j z2l:=⟨_,_,Tryz.func146,rfl,by kernel_rfl,by kernel_rfl,rfl⟩
theorem z98(s:List UInt8)(hs:s.length≤4):q0s Tryz.prog 146 [.str s] (fun r=>r=.one (.int .i64 (hexZ (q6p s 0)))):=by
 refine z3y.call rfl ?_; generalize hR:q6p s 0=R; simp(maxSteps:=2000000)only[go_sem,↓reduceIte,z2j,z2l]; refine q0l (fun y:Nat×Nat=>⟨[(0,.d (.str s)),(3,.d (.int .i64 y.2)),(7,.d (.int .i64 s.length)),(8,.d (.int .i64 y.1))],[],[]⟩)
  (fun y=>y.1≤s.length∧y.2<16 ^ y.1∧q6p (s.drop y.1) y.2=R) (fun y=>s.length-y.1) (0,0) ?_ ?_ ?_
 ·refine q0d ?_ trivial; simp(maxSteps:=2000000)only[go_sem,↓reduceIte,Sub,Int.natCast_add,Int.natCast_mul]
 ·exact⟨Nat.zero_le _,by simp,hR⟩
 ·rintro⟨i,n⟩ ⟨hi,hn,hF⟩; simp only at hi hn hF; have hpow:16 ^ i≤65536:=by
   have:i=0∨i=1∨i=2∨i=3∨i=4:=by omega
   rcases this with rfl|rfl|rfl|rfl|rfl<;>decide
  simp(maxSteps:=2000000)only[go_sem,↓reduceIte]; refine⟨fun hlt=>?_,fun hge=>?_⟩
  ·obtain⟨c,hc⟩:=get_some (l:=s) (i:=i) (by omega); have hc8:=q4o c; rw[q05 hc,q6p]at hF; have nxt:∀ d:Nat,hexD c.toNat=some d→q6p (s.drop (i+1)) (16*n+d)=R∧16*n+d<16 ^ (i+1):=fun d h=>by
    rw[h]at hF; have:=j0j h; exact⟨hF,by rw[Nat.pow_succ]; omega⟩
   by_cases a:48≤c.toNat∧c.toNat≤57
   ·have z1:(48≤(c.toNat:Int))=True:=eq_true (by omega); have z2:((c.toNat:Int)≤57)=True:=eq_true (by omega); obtain⟨f1,f2⟩:=nxt (c.toNat-48) (by unfold hexD; rw[if_pos a]); have e:(16*(n:Int)+((c.toNat:Int)-48))=((16*n+(c.toNat-48):Nat):Int):=by omega
    simp(maxSteps:=2000000)(disch:=omega)only[go_sem,↓reduceIte,q0a,hc,z1,z2,e]; refine⟨(i+1,16*n+(c.toNat-48)),?_,⟨by simp only; omega,f2,f1⟩,by simp only; omega⟩; refine q0d ?_ trivial; simp(maxSteps:=2000000)only[go_sem,↓reduceIte,Sub,Int.natCast_add,Int.natCast_mul]
   ·have bad:hexD c.toNat=none→Res.one (.int .i64 (-1))=Res.one (.int .i64 (hexZ R)):=fun h=>by rw[h]at hF; rw[← hF]; rfl
    by_cases b:65≤c.toNat∧c.toNat≤70
    ·have z2:((c.toNat:Int)≤57)=False:=eq_false (by omega); have z1:(48≤(c.toNat:Int))=True:=eq_true (by omega); have z3:(65≤(c.toNat:Int))=True:=eq_true (by omega); have z4:((c.toNat:Int)≤70)=True:=eq_true (by omega); obtain⟨f1,f2⟩:=nxt (c.toNat-55) (by unfold hexD; rw[if_neg a,if_pos b]); have e:(16*(n:Int)+((c.toNat:Int)-65)+10)=((16*n+(c.toNat-55):Nat):Int):=by omega
     simp(maxSteps:=2000000)(disch:=omega)only[go_sem,↓reduceIte,q0a,hc,z1,z2,z3,z4,e]; refine⟨(i+1,16*n+(c.toNat-55)),?_,⟨by simp only; omega,f2,f1⟩,by simp only; omega⟩; refine q0d ?_ trivial; simp(maxSteps:=2000000)only[go_sem,↓reduceIte,Sub,Int.natCast_add,Int.natCast_mul]
    ·have b':=bad (by unfold hexD; rw[if_neg a,if_neg b])
     by_cases c1:48≤c.toNat
     ·have z1:(48≤(c.toNat:Int))=True:=eq_true (by omega); have z2:((c.toNat:Int)≤57)=False:=eq_false (by omega)
      by_cases c2:65≤c.toNat
      ·have z3:(65≤(c.toNat:Int))=True:=eq_true (by omega); have z4:((c.toNat:Int)≤70)=False:=eq_false (by omega); simp(maxSteps:=2000000)(disch:=omega)only[go_sem,↓reduceIte,q0a,hc,z1,z2,z3,z4]; exact b'
      ·have z3:(65≤(c.toNat:Int))=False:=eq_false (by omega); simp(maxSteps:=2000000)(disch:=omega)only[go_sem,↓reduceIte,q0a,hc,z1,z2,z3]; exact b'
     ·have z1:(48≤(c.toNat:Int))=False:=eq_false (by omega); have z3:(65≤(c.toNat:Int))=False:=eq_false (by omega); simp(maxSteps:=2000000)(disch:=omega)only[go_sem,↓reduceIte,q0a,hc,z1,z3]; exact b'
  ·have:s.drop i=[]:=List.drop_eq_nil_of_le (by omega); rw[this]at hF; simp only[q6p]at hF; subst hF; rfl
def q9G:q0i:=
 .seq (.reg [Qx 2 (.k (.d (.str []))),Qx 3 KF]) (.seq (.reg [Qc 8 0,⟨some 9,.call 145 [.t 8],none⟩,Qc 7 9,Q 10 (.ext 0 (.t 7)),Q 11 (.ext 1 (.t 7)),Qa 4 10,Qa 5 11]) (.seq 
 (.seq (.reg [Qc 12 5]) (.cond (.t 12) (.seq (.reg [Qc 13 4,Qa 2 13,Qx 3 KT]) .ret) .skip)) (.seq (.seq (.reg [Qc 14 0,Q 15 (.len true (.t 14)),Q 16 (.bin .neq (.t 15) (Ki 
 7)),Qc 17 16,Qd 18 0 17 false,Qg 19 (.subS (.t 18) none (some (Ki 3))) 17 false,Qg 20 (.bin .neq (.t 19) (.k (.d (.str [117,110,105])))) 17 false,Q 21 (.pick (.t 17) KT 
 (.t 20))]) (.cond (.t 21) (.seq (.reg [Qx 2 (.k (.d (.str []))),Qx 3 KF]) .ret) .skip)) (.seq (.reg [Qc 22 0,Q 23 (.subS (.t 22) (some (Ki 3)) none),⟨some 24,.call 146 [.t 
 23],none⟩,Qa 6 24]) (.seq (.seq (.reg [Qc 25 6,Q 26 (.bin .lss (.t 25) (Ki 0)),Qc 27 26,Qd 28 6 27 false,Qg 29 (.bin .geq (.t 28) (Ki 55296)) 27 false,Qd 30 29 27 false, 
 Qd 31 6 30 true,Qg 32 (.bin .lss (.t 31) (Ki 57344)) 30 true,Qg 33 (.pick (.t 30) (.t 32) KF) 27 false,Q 34 (.pick (.t 27) KT (.t 33))]) (.cond (.t 34) (.seq (.reg [Qx 2 (.k 
 (.d (.str []))),Qx 3 KF]) .ret) .skip)) (.seq (.reg [Qc 35 6,Q 36 (.cvI .i32 (.t 35)),Q 37 (.i2s (.t 36)),Qa 2 37,Qx 3 KT]) .ret))))))
def q9O:List LRes:=[.tmp 2,.tmp 3]
theorem z1c:q0r Tryz.prog 133 38 q9G q9O:=⟨_,_,Tryz.func133,rfl,by kernel_rfl,by kernel_rfl,rfl⟩
theorem z8p(s:List UInt8)(hs:s.length≤1000000):q0s Tryz.prog 133 [.str s] (fun r=>r=q3s (z7q s)):=by
 refine z1c.call rfl ?_; unfold z7q; simp(maxSteps:=2000000)only[go_sem,↓reduceIte,q9G,q9O]; refine q0g.of (z6W s hs) ?_; cases hS:z32 s with
 |some t=>
  simp only[j5q,q3s]; simp(maxSteps:=2000000)only[go_sem,↓reduceIte]
 |none=>
  simp only[j5q,uniM,q3s]
  by_cases h7:s.length=7
  ·have z7:((s.length:Int)=7)=True:=eq_true (by omega); have hcut:cutI s 0 3=s.take 3:=rfl; have hcut2:cutI s 3 (s.length:Int)=s.drop 3:=by unfold cutI; simp
   by_cases hu:s.take 3=[117,110,105]
   ·have hb:¬(s.length≠7∨s.take 3≠[117,110,105]):=by rintro(h|h); exact h h7; exact h hu
    rw[if_neg hb]; simp(maxSteps:=2000000)(disch:=omega)only[go_sem,↓reduceIte,z7,hcut,hu]; refine⟨by omega,⟨by omega,by omega⟩,?_⟩; rw[hcut2]; refine q0g.of (z98 (s.drop 3) (by rw[List.length_drop]; omega)) ?_; have hlt:=z4N (s.drop 3) 0; rw[List.length_drop,h7]at hlt; cases hH:q6p (s.drop 3) 0 with
    |none=>
     simp only[hexZ,surM]; simp(maxSteps:=2000000)only[go_sem,↓reduceIte]
    |some n=>
     have hn:=hlt n hH; simp only[hexZ,surM]; have z8:((n:Int)<0)=False:=eq_false (by omega)
     by_cases hsur:55296≤n∧n<57344
     ·have z9:(55296≤(n:Int))=True:=eq_true (by omega); have z10:((n:Int)<57344)=True:=eq_true (by omega); simp(maxSteps:=2000000)only[go_sem,↓reduceIte,z8,z9,z10]; rw[if_pos hsur]
     ·have he:(Utf8.encode (n:Int)).data.toList=enc n:=q9f (by unfold q3Z; omega); have hw32:IntKind.i32.wrap (n:Int)=(n:Int):=by rw[IntWalk.i32_in _ (by omega)]
      rw[if_neg hsur]
      by_cases h9:55296≤n
      ·have z9:(55296≤(n:Int))=True:=eq_true (by omega); have z10:((n:Int)<57344)=False:=eq_false (by omega); simp(maxSteps:=2000000)only[go_sem,↓reduceIte,z8,z9,z10,hw32,he]
      ·have z9:(55296≤(n:Int))=False:=eq_false (by omega); simp(maxSteps:=2000000)only[go_sem,↓reduceIte,z8,z9,hw32,he]
   ·have hb:s.length≠7∨s.take 3≠[117,110,105]:=.inr hu; rw[if_pos hb]; simp(maxSteps:=2000000)(disch:=omega)only[go_sem,↓reduceIte,z7,hcut,hu]; omega
  ·have z7:((s.length:Int)=7)=False:=eq_false (by omega); rw[if_pos (.inl h7)]; simp(maxSteps:=2000000)(disch:=omega)only[go_sem,↓reduceIte,z7]
end Go.Av.Tryz
