import Derived.Test.YtednmnmaoihpiaaGreatDoorWe
import Derived.Test.YtednmnmaoihpiaaGreatDoorAvJ
import Derived.Test.YtednmnmaoihpiaaGreatDoorWc
import Derived.Test.YtednmnmaoihpiaaGreatDoorAvG
set_option linter.unusedSimpArgs false
set_option maxRecDepth 100000
set_option maxHeartbeats 16000000
namespace Go.Av.Tryz
open Go.Proofs
theorem z8u:∀(r:List Nat) (x i n:Nat),i≤runN x r→(x::r)[i]?=some n→n=x+i
 |[],x,0,n,_,h=>by cases h;rfl
 |[],x,i+1,n,hi,h=>by simp[runN]at hi
 |a::r,x,0,n,_,h=>by cases h;rfl
 |a::r,x,i+1,n,hi,h=>by
  rw[runN]at hi;split at hi
  ·rename_i e;have:=z8u r a i n (by omega) (by simpa using h);omega
  ·omega
def trwT:List UInt8:=[116,114,97,105,108,101,114]
theorem z8x(f:Nat→List UInt8)(l:List Nat)(z:List UInt8):∃a r,secT f l++(trwT++z)=a::r∧nb a:=by
 cases l with
 |nil=>rw[secT];exact⟨116,_,rfl,by decide,by decide⟩
 |cons x r=>
  rw[secT];obtain⟨c,t,hc⟩:∃c t,Lib.decDigits x=c::t:=by
   cases e:Lib.decDigits x with
   |nil=>exact absurd e (q7B x)
   |cons c t=>exact⟨c,t,rfl⟩
  rw[hc];exact⟨c,_,rfl,z4V (q5m x c (by rw[hc];simp))⟩
theorem j6O:plW trwT:=fun c hc=>by revert hc;revert c;decide
theorem j30{l:List Nat}(h:rise l){i j a b:Nat}(hij:i<j)(ha:l[i]?=some a)(hb:l[j]?=some b):a<b:=by
 obtain⟨h1,rfl⟩:=Zaa.1 ha;obtain⟨h2,rfl⟩:=Zaa.1 hb;exact List.pairwise_iff_getElem.1 h i j h1 h2 hij
def q4k:q0m:=
 .seq (.reg [⟨some 4,.allo [.int .i64 0,.int .i64 0,.str [],.list [],.list []],none⟩,Qx 5 (.k (.d .nil))]) (.seq (.seq (.reg [Qc 11 1,Qc 12 0,Q 13 (.nck (.t 12)),Q 14 (.fa 
 0 (.t 13)),Q 15 (.ld false 1 (.t 14)),Q 16 (.len true (.t 15)),Q 17 (.bin .geq (.t 11) (.t 16)),Qc 18 17,Qd 19 0 18 false,Qg 20 (.nck (.t 19)) 18 false,Qg 21 (.fa 0 (.t 
 20)) 18 false,Qg 22 (.ld false 1 (.t 21)) 18 false,Qd 23 1 18 false,⟨some 24,.call 26 [.t 22,.t 23],some (18,false)⟩,Qg 25 (.bin .neq (.t 24) (.k (.d (.str [120,114, 
 101,102])))) 18 false,Q 26 (.pick (.t 18) KT (.t 25))]) (.cond (.t 26) (.seq (.reg [Q 27 (.bld [(0,1),(1,1),(2,1),(3,1),(4,1)] [.int .i64 0,.int .i64 0,.str [], 
 .list [],.list []] [] []),Q 28 (.mkI 49 (Ki 4)),⟨none,.st 5 (.t 4) (.t 27),none⟩,Qa 5 28]) .ret) .skip)) (.seq (.reg [Qc 29 0,Q 30 (.nck (.t 29)),Q 31 (.fa 0 (.t 30)),Q 
 32 (.ld false 1 (.t 31)),Qc 33 1,Q 34 (.bin .add (.t 33) (Ki 4)),⟨some 35,.call 25 [.t 32,.t 34],none⟩,Qa 1 35]) (.seq (.block 0 (.loop (.seq (.seq (.reg [Qc 36 0,Q 37 
 (.nck (.t 36)),Q 38 (.fa 0 (.t 37)),Q 39 (.ld false 1 (.t 38)),Qc 40 1,⟨some 41,.call 26 [.t 39,.t 40],none⟩,Q 42 (.bin .neq (.t 41) (.k (.d (.str [116,114,97,105, 
 108,101,114]))))]) (.cond (.t 42) .skip (.exit 0))) (.block 1 (.seq (.reg [Qc 44 0,Qc 45 1,⟨some 46,.prim .call [.k (.fn (.func 36) [] []),.t 44,.t 45] [],none⟩,Qc 43 
 46,Q 47 (.ext 0 (.t 43)),Q 48 (.ext 1 (.t 43)),Qa 6 47,Qa 7 48]) (.seq (.seq (.reg [Qc 49 7,Q 50 (.eqN 0 true (.t 49))]) (.cond (.t 50) (.seq (.reg [Q 51 (.bld [(0,1),(1, 
 1),(2,1),(3,1),(4,1)] [.int .i64 0,.int .i64 0,.str [],.list [],.list []] [] []),Qc 52 7,⟨none,.st 5 (.t 4) (.t 51),none⟩,Qa 5 52]) .ret) .skip)) (.reg [Qc 53 6, 
 Qa 1 53]))))))) (.seq (.reg [Qc 55 0,Q 56 (.nck (.t 55)),Q 57 (.fa 0 (.t 56)),Q 58 (.ld false 1 (.t 57)),Qc 59 1,Q 60 (.bin .add (.t 59) (Ki 7)),⟨some 61,.call 27 [.t 58, 
 .t 60],none⟩,Qc 54 61,Q 62 (.ext 0 (.t 54)),Q 63 (.ext 1 (.t 54)),Q 64 (.ext 2 (.t 54)),⟨some 8,.allo [.int .i64 0,.int .i64 0,.str [],.list [],.list []],none⟩, 
 ⟨none,.st 5 (.t 8) (.t 62),none⟩,Qa 9 63,Qa 10 64]) (.seq (.seq (.reg [Qc 65 10,Q 66 (.eqN 0 false (.t 65)),Qc 67 66,Qg 68 (.fa 0 (.t 8)) 67 true,Qg 69 (.ld false 1 (.t 
 68)) 67 true,Qg 70 (.bin .neq (.t 69) (Ki 6)) 67 true,Q 71 (.pick (.t 67) (.t 70) KF)]) (.cond (.t 71) (.reg [Q 72 (.mkI 49 (Ki 8)),Qa 10 72]) .skip)) (.seq (.reg [Q 73 (.ld 
 true 5 (.t 8)),Qc 74 10,⟨none,.st 5 (.t 4) (.t 73),none⟩,Qa 5 74]) .ret))))))
def q4l:List LRes:=[.cell 4 true 5,.tmp 5]
theorem q54:q0E Tryz.prog 19 75 q4k q4l:=⟨_,_,Tryz.func19,rfl,by kernel_rfl,by kernel_rfl,rfl⟩
theorem z9L{s:List UInt8}{k:Nat}{ps:List (Nat×Nat)}{K:List Nat}{v:Val}{c:UInt8}{r:List UInt8}
  (h:At s k (xrT++(secT (entT ps) K++(trwT++([10]++(q0F v++c::r)))))) (hs:s.length≤60000)
  (hr:rise K) (hK:∀n∈K,1≤n∧n≤60∧∃w,lkN ps n=some w∧w<10000000000) (hl:K.length≤60) (hv:q2t v=0) (hk6:v.kind=6) (hp:dl (c::r)) (hq:q9a (c::r)):
  q09 Tryz.prog 19 [.ptr (.x 0) 0,.d (.int .i64 k)] [.cells (filC s (.x 1) none),.mobj [] []] (.tuple [.d v.d,.d .nil]) [.cells (filC s (.x 1) none),.mobj (ksN (entN ps K)) (vsN (entN ps K))]:=by
 have hlen:=h.len;have w1:=At.q1e (w:=[120,114,101,102]) (p:=[10]++(secT (entT ps) K++(trwT++([10]++(q0F v++c::r))))) h (fun x hx=>by revert hx;revert x;decide) (show dl (10::_)from Or.inl (by decide)) (by omega);have h2:At s (k+4) ([10]++(secT (entT ps) K++(trwT++([10]++(q0F v++c::r))))):=At.more (a:=[120,114,101,102]) h;obtain⟨a0,r0,e0,n0⟩:=z8x (entT ps) K ([10]++(q0F v++c::r));have sk:=At.q1d (b:=[10]) (c:=a0) (r:=r0) (by rw[←e0];exact h2) z6t n0 (by omega);have h3:=h2.more
 simp only[List.length_singleton]at sk h3;simp only[xrT,Zac,Zaf]at hlen;rw[Zab]at sk;refine q54.q0G (by kernel_rfl) rfl ?_;have z1:((s.length:Int)≤(k:Int))=False:=eq_false (by omega);simp only[go_sem,↓reduceIte,q4k,q4l,filC,tlC,z1];refine q0k.of w1 ?_;simp(disch:=omega)only[go_sem,↓reduceIte];refine q0k.of sk ?_;simp only[go_sem,↓reduceIte]
 refine q0t (fun y:Nat×Nat=>⟨[(0,.ptr (.x 0) 0),(1,.d (.int .i64 y.2)),(4,.ptr (.l 4) 0)],[(4,.cells [.d (.int .i64 0),.d (.int .i64 0),.d (.str []),.ns,.ns])],[(0,.cells [.d (.str s),.mp (.x 1),.d (.int .i64 0),.d (.int .i64 0),.d (.str []),.ns,.ns]),(1,.mobj (ksN (entN ps (K.take y.1))) (vsN (entN ps (K.take y.1))))]⟩)
  (fun y=>y.1≤K.length∧At s y.2 (secT (entT ps) (K.drop y.1)++(trwT++([10]++(q0F v++c::r))))) (fun y=>K.length-y.1) (0,k+4+1) ?_ ⟨Zbb _,h3⟩ ?_
 ·refine Weak.mk ?_ ?_ ?_<;>simp only[go_sem,↓reduceIte,Sub,Zab,Zad,entN,Zby,Zcj,ksN,vsN]
 ·rintro⟨i,m⟩ ⟨g1,g2⟩;simp only at g1 g2;have hm:=g2.le;simp only[go_sem,↓reduceIte]
  by_cases hi:i<K.length
  ·obtain⟨x,hx⟩:=get_some (l:=K) (i:=i) hi;have hxk:=hK x (Zae hx);rw[q3Y hx,secT]at g2;have w2:=At.q1e (w:=Lib.decDigits x) (p:=[32]++(Lib.decDigits (runN x (K.drop (i+1))+1)++([10]++(((x::K.drop (i+1)).take (runN x (K.drop (i+1))+1)).flatMap (entT ps)++(secT (entT ps) ((K.drop (i+1)).drop (runN x (K.drop (i+1))))++(trwT++([10]++(q0F v++c::r)))))))) (by simpa only[List.append_assoc]using g2) (j0E (q5m x)) (show dl (32::_)from Or.inl (by decide)) (by omega)
   have z2:(Lib.decDigits x=[116,114,97,105,108,101,114])=False:=eq_false fun e=>by
    have:=q5m x 116 (by rw[e];simp);exact absurd this.2 (by decide)
   refine q0k.of w2 ?_;simp only[go_sem,↓reduceIte,z2];have hk:=z7h x (K.drop (i+1));rw[Zav]at hk;generalize hrn:runN x (K.drop (i+1))=u at *;have hlst:((x::K.drop (i+1)).take (u+1)).length=u+1:=by rw[Zap,Zaf,Zav];omega
   have hlk:∀j n,((x::K.drop (i+1)).take (u+1))[j]?=some n→j≤u∧K[i+j]?=some n∧n=x+j:=fun j n hj=>by
    have hjl:=(Zaa.1 hj).1;rw[hlst]at hjl;rw[List.getElem?_take_of_lt (by omega)]at hj;refine⟨by omega,?_,z8u (K.drop (i+1)) x j n (by omega) hj⟩;rw[←q3Y hx,Zbu]at hj;exact hj
   have htk:K.take (i+(u+1))=K.take i++(x::K.drop (i+1)).take (u+1):=by rw[←q3Y hx,List.take_add]
   have hen:entN ps (K.take i)++entN ps ((x::K.drop (i+1)).take (u+1))=entN ps (K.take (i+(u+1))):=by rw[htk,entN,entN,entN,List.map_append]
   obtain⟨a1,r1,e1,n1⟩:=z8x (entT ps) ((K.drop (i+1)).drop u) ([10]++(q0F v++c::r));have g3:At s m (Lib.decDigits x++([32]++(Lib.decDigits ((x::K.drop (i+1)).take (u+1)).length++([10]++(((x::K.drop (i+1)).take (u+1)).flatMap (entT ps)++a1::r1))))):=by
    rw[hlst,←e1];simpa only[List.append_assoc]using g2
   obtain⟨k',hk'⟩:∃k',At s k' (a1::r1):=⟨_,g3.more.more.more.more.more⟩;have hsec:=z5W (ps:=ps) (q:=entN ps (K.take i)) none g3 hk' n1 hs (fun j n hj=>by
    obtain⟨q1,q2,q3⟩:=hlk j n hj;obtain⟨p1,p2,p3⟩:=hK n (Zae q2);refine⟨q3,p1,p2,fun hm=>?_,p3⟩;rw[z3C]at hm;obtain⟨b,hb⟩:=Zbo.1 hm;have hbl:=(Zaa.1 hb).1;rw[Zap]at hbl;rw[List.getElem?_take_of_lt (by omega)]at hb;have:=j30 hr (show b<i+j by omega) hb q2;omega) hxk.2.1 (by rw[hlst];omega)
   rw[hen]at hsec;simp only[filC,tlC]at hsec;refine q0b.q0G ([.x 0,.x 1]) ([]) rfl (hsec) rfl rfl (by simp only[q1c,St.obj,aget,AObj.ren,AV.ren,AV.ren1,renL,q2G,renR,renQ,Zay,Zaz,and_true,and_self,Nat.reduceEqDiff,↓reduceIte,reduceCtorEq]) rfl rfl rfl ⟨rfl,rfl⟩ ?_;simp only[go_sem,↓reduceIte];refine⟨(i+(u+1),k'),?_,⟨by simp only;omega,?_⟩,by simp only;omega⟩
   ·refine Weak.mk ?_ ?_ ?_<;>simp only[go_sem,↓reduceIte,Sub,Zab,Zad]
   ·rw[←e1,List.drop_drop,show i+1+u=i+(u+1) by omega]at hk';exact hk'
  ·have e:i=K.length:=by omega
   subst e;rw[Zao (Zai _),secT,Zaw]at g2;have w2:=At.q1e (w:=trwT) (p:=[10]++(q0F v++c::r)) g2 j6O (show dl (10::_)from Or.inl (by decide)) (by omega);have g3:At s (m+7) ([10]++(q0F v++c::r)):=g2.more;have hval:=q9f s ((m+7:Nat):Int) (by omega);rw[g3.value z6t hv hp hq hs,topP,show((m+7:Nat):Int)=(m:Int)+7 by omega]at hval;rw[Val.d_eq v]at hval ⊢;refine q0k.of w2 ?_;simp(disch:=omega)only[go_sem,↓reduceIte,trwT];refine q0k.of hval ?_;rw[Zcq]
   simp only[go_sem,↓reduceIte,hk6]
def filD(s:List UInt8)(q:List (Nat×Nat))(v:Val):D:=.pto [.str s,mapN q,.int .i64 v.kind,.int .i64 v.n,.str v.s,.list (q0u v.l),.list (q0j v.f)]
def q3u:q0m:=
 .seq (.reg [⟨some 2,.nils 3 1,none⟩]) (.seq (.alt [([],⟨some 3,.nils 3 1,none⟩)] []) (.seq (.seq (.reg [Qc 6 0,Q 7 (.nck (.t 6)),Q 8 (.fa 1 (.t 7)),Q 9 (.ld false 1 (.t 
 8)),⟨some 10,.prim (.range 54) [.t 9] [],none⟩]) (.block 0 (.loop (.seq (.reg [⟨some 11,.prim (.next false 0) [.t 10] [],none⟩,Q 12 (.ext 0 (.t 11))]) (.seq (.cond (.t 12) 
 .skip (.exit 0)) (.block 1 (.seq (.reg [⟨some 13,.prim .entry [.t 10] [],none⟩,Q 14 (.ext 0 (.t 13)),Q 15 (.ext 1 (.t 13)),Qa 4 14,Qa 5 15]) (.seq (.reg [Qc 16 5,Q 17 
 (.bin .geq (.t 16) (Ki 0))]) (.cond (.t 17) (.alt [([Qc 18 3,Qc 19 4,⟨some 20,.bsl 3 1 [.t 19],none⟩],⟨some 21,.app 3 1 8 false (.t 18) (.t 20),none⟩)] [Qa 3 21]) 
 .skip))))))))) (.seq (.reg [Qc 22 3,⟨some 23,.call 21 [.t 22],none⟩]) (.seq (.alt [([],Qc 24 3)] [Qa 2 24]) .ret))))
def q3B:List LRes:=[.tmp 2]
theorem q5q:q0E Tryz.prog 9 25 q3u q3B:=⟨_,_,Tryz.func9,rfl,by kernel_rfl,by kernel_rfl,rfl⟩
theorem z0h(s:List UInt8)(q:List (Nat×Nat))(v:Val)(hn:(q.map Prod.fst).Nodup)(hl:q.length≤1000):
  q0y Tryz.prog 9 [filD s q v] (fun r=>r=.one (.list (nsD (srtN (q.map Prod.fst))))):=by
 refine q5q.call rfl ?_;simp only[go_sem,↓reduceIte,q3u,q3B,filD];refine q2g.nils ?_;simp only[go_sem,↓reduceIte,mapN];refine q0b.rangeMap rfl z2r ?_;rw[j2C];simp only[go_sem,↓reduceIte];refine q0t (fun y:List Nat×Nat×List (Nat×Nat)×List (D×D)=>⟨[(3,rwS 21 y.1 y.2.1),(10,.ptr (.l 10) 0)],(10,.miter (prN y.2.2.1) y.2.2.2)::rwL 21 y.1 y.2.1,[]⟩)
  (fun y=>(y.1++y.2.2.1.map Prod.fst).Perm (q.map Prod.fst)∧(y.1=[]∨y.1.length≤y.2.1∧y.2.1≤maxLen)) (fun y=>y.2.2.1.length) ([],0,q,[]) ?_ ⟨List.Perm.refl _,.inl rfl⟩ ?_
 ·refine Weak.mk ?_ ?_ ?_<;>simp only[go_sem,↓reduceIte,Sub,Zab,Zad,rwS,rwL,mapN]
 ·rintro⟨V,c,lp,cur⟩ ⟨hP,hc⟩;simp only at hP hc;have hVl:V.length≤1000:=by have:=hP.length_eq;simp at this;omega
  simp only[go_sem,↓reduceIte];refine q0b.j1A rfl rfl (fun h0=>?_) (fun i k w hik=>?_)
  ·have hlp:lp=[]:=by cases lp with|nil=>rfl|cons a r=>cases h0
   subst hlp;rw[Zby,Zco]at hP;have hsrt:=j2k hP hn;cases hO:V with
   |nil=>
    have hs:rwS 21 ([]:List Nat) c=.ns:=rfl;have hb:rwL 21 ([]:List Nat) c=[]:=rfl;have hq:srtN (q.map Prod.fst)=[]:=by rw[←hsrt,hO];exact Zbh (by rw[q10];rfl)
    rw[hq];simp(disch:=omega)only[go_sem,↓reduceIte,hs,hb];refine q0k.z8T (q4W.mc0 q9d rfl rfl rfl ?_);simp only[go_sem,↓reduceIte];refine q2g.step rfl (fun _ _ _ h=>by cases h) rfl ?_;simp only[go_sem,↓reduceIte,nsD,Zby]
   |cons x r=>
    rw[←hO];have hs:rwS 21 V c=.rs (.l 21) V.length c:=by rw[hO];rfl
    have hb:rwL 21 V c=[(21,.cells (rowN V c))]:=by rw[hO];rfl
    have hc':=hc.resolve_left (by rw[hO];simp);simp(disch:=omega)only[go_sem,↓reduceIte,hs,hb];refine q0k.z8T (q4W.mc1r (.l 21) (z56 V c (by omega) hc'.1) rfl rfl rfl ⟨q80 _ _,q80 _ _⟩ rfl ?_);rw[hsrt];have hkl:(srtN (q.map Prod.fst)).length=V.length:=by rw[←hsrt,q10]
    generalize srtN (q.map Prod.fst)=K at *;rw[←hkl]at hc' hVl ⊢;clear hs hb hO hP hsrt hkl;simp only[go_sem,↓reduceIte];refine q2g.ghost (q2g.step rfl (fun _ _ _ h=>by cases h) rfl ?_);refine⟨⟨[(24,.d (.list (nsD K)))],[],[]⟩,Gh.trans (Gh.frzL (a:=21) (sz:=1) (fs:=nsD K) (c:=c) ?_ (fun y hy=>by rw[j1E K y hy];rfl) (by rw[z1J];omega)) (Gh.wk ⟨fun t x hx=>?_,fun r ob h=>by cases r<;>cases h⟩),?_⟩
    ·rw[j11 (j1E K),←j5p];rfl
    ·simp only[aget]at hx;split at hx
     ·rename_i e;subst e;cases hx;rw[St.j6U (x:=.rs (.l 21) K.length c) rfl];simp[AV.frzL,z1J]
     ·cases hx
    ·simp only[go_sem,↓reduceIte]
  ·obtain⟨p,hpi,rfl,rfl⟩:=j1Q hik;rw[z1N];have hle:=(Zaa.1 hpi).1;have hP':((V++[p.1])++(lp.eraseIdx i).map Prod.fst).Perm (q.map Prod.fst):=by
    refine List.Perm.trans ?_ hP;rw[List.append_assoc,z1c];exact(q9E (l:=lp.map Prod.fst) (by rw[Zam,hpi];rfl)).append_left V
   simp only[go_sem,↓reduceIte];refine q0b.z7K rfl rfl ?_;have z0:(0≤(p.2:Int))=True:=eq_true (by omega);cases hO:V with
   |nil=>
    have hs:rwS 21 ([]:List Nat) c=.ns:=rfl;have hb:rwL 21 ([]:List Nat) c=[]:=rfl;rw[hO]at hP';simp(disch:=omega)only[go_sem,↓reduceIte,hs,hb,z0];refine q2g.app1 (r:=21) (c:=0) (cs:=nsA []) z3L (.inl ⟨rfl,rfl⟩) (Src1.own rfl) (z8f [] 21) (z7X _ _) (by simp[nsA,maxLen]) (fun c' h1 h2=>?_);rw[q81];simp(disch:=omega)only[go_sem,↓reduceIte];refine⟨([]++[p.1],c',lp.eraseIdx i,[(.int .i64 (p.1:Int),.int .i64 (p.2:Int))]),?_,⟨hP',.inr ⟨h1,h2⟩⟩,by simp only[Zcy];split<;>omega⟩
    refine Weak.mk ?_ ?_ ?_<;>simp only[go_sem,↓reduceIte,Sub,Zab,Zad,rwS,rwL,nsA,Zby]
   |cons x r=>
    have hs:rwS 21 (x::r) c=.rs (.l 21) (r.length+1) c:=rfl;have hb:rwL 21 (x::r) c=[(21,.cells (rowN (x::r) c))]:=rfl;rw[hO]at hP' hc hVl;have hc':=hc.resolve_left (by simp);simp(disch:=omega)only[go_sem,↓reduceIte,hs,hb,z0];simp only[Zaf]at hVl hc';refine q2g.app1 (r:=21) (c:=c) (cs:=nsA (x::r)) z3L (.inr ⟨by rw[q2X];rfl,rfl,by rw[q2X];exact hc'.1,hc'.2⟩) (Src1.own rfl) (z8f _ 21) (z7X _ _) (by rw[q2X];simp only[maxLen,Zaf];omega) (fun c' h1 h2=>?_);rw[q81]
    rw[q2X]at h1 ⊢;simp(disch:=omega)only[go_sem,↓reduceIte];refine⟨((x::r)++[p.1],c',lp.eraseIdx i,[(.int .i64 (p.1:Int),.int .i64 (p.2:Int))]),?_,⟨hP',.inr ⟨by simpa using h1,h2⟩⟩,by simp only[Zcy];split<;>omega⟩;refine Weak.mk ?_ ?_ ?_<;>simp only[go_sem,↓reduceIte,Sub,Zab,Zad,rwS,rwL,Zac]
def q4v:q0m:=
 .seq (.reg [Qx 2 (Ki 0),Qx 3 (.k (.d .nil))]) (.seq (.reg [Qc 7 0,Q 8 (.nck (.t 7)),Q 9 (.fa 2 (.t 8)),Q 10 (.ld true 5 (.t 9)),⟨some 11,.call 20 [.t 10,.k (.d (.str [82, 
 111,111,116]))],none⟩,Qc 6 11,Q 12 (.ext 0 (.t 6)),Q 13 (.ext 1 (.t 6)),⟨some 4,.allo [.int .i64 0,.int .i64 0,.str [],.list [],.list []],none⟩,⟨none,.st 5 (.t 4) 
 (.t 12),none⟩,Qa 5 13]) (.seq (.seq (.reg [Qc 14 5,Q 15 (.not (.t 14))]) (.cond (.t 15) (.seq (.reg [Q 16 (.mkI 49 (Ki 6)),Qx 2 (Ki 0),Qa 3 16]) .ret) .skip)) (.seq (.seq 
 (.reg [Q 17 (.fa 0 (.t 4)),Q 18 (.ld false 1 (.t 17)),Q 19 (.bin .neq (.t 18) (Ki 7))]) (.cond (.t 19) (.seq (.reg [Q 20 (.mkI 49 (Ki 8)),Qx 2 (Ki 0),Qa 3 20]) .ret) .skip)) 
 (.seq (.reg [Q 21 (.fa 1 (.t 4)),Q 22 (.ld false 1 (.t 21)),Qa 2 22,Qx 3 (.k (.d .nil))]) .ret))))
def q4z:List LRes:=[.tmp 2,.tmp 3]
theorem q6o:q0E Tryz.prog 10 23 q4v q4z:=⟨_,_,Tryz.func10,rfl,by kernel_rfl,by kernel_rfl,rfl⟩
theorem j1Z(s:List UInt8)(q:List (Nat×Nat))(v:Val)(n:Int)(hf:v.f.length≤1048576)(hg:getV rotN v.f=some (.mk 7 n [] [] [])):
  q0y Tryz.prog 10 [filD s q v] (fun r=>r=.tup [.int .i64 n,.nil]):=by
 have g:=q8L v rotN hf;rw[hg,Val.d_eq v]at g;have e:getR (some (.mk 7 n [] [] []))=.tup [.agg [.int .i64 7,.int .i64 n,.str [],.list [],.list []],.bool true]:=rfl;rw[e]at g;refine q6o.call rfl ?_;simp only[go_sem,↓reduceIte,q4v,q4z,filD];refine q0k.of g ?_;simp only[go_sem,↓reduceIte]
def q2I:q0m:=
 .seq (.reg [Qx 4 (Ki 0)]) (.seq (.seq (.reg [Qc 6 0,Q 7 (.len false (.t 6)),Q 8 (.cp (Ki 0))]) (.block 0 (.loop (.seq (.reg [Q 9 (.bin .lss (.t 8) (.t 7))]) (.seq (.cond (.t 9) 
 .skip (.exit 0)) (.seq (.block 1 (.seq (.reg [Qc 10 8,Qa 5 10]) (.seq (.reg [Qc 11 1,Qc 12 0,Qc 13 5,Q 14 (.ia 1 (.t 12) (.t 13)),Q 15 (.ld false 1 (.t 14)),Q 16 (.bin .eql 
 (.t 11) (.t 15))]) (.cond (.t 16) (.seq (.reg [Qc 17 5,Qa 4 17]) .ret) .skip)))) (.reg [Q 18 (.bin .add (.t 8) (Ki 1)),Qc 8 18]))))))) (.seq (.reg [Qx 4 (Ki (-1))]) .ret))
def q2K:List LRes:=[.tmp 4]
theorem q4p:q0E Tryz.prog 35 19 q2I q2K:=⟨_,_,Tryz.func35,rfl,by kernel_rfl,by kernel_rfl,rfl⟩
def q2i:q0m:=
 .seq (.reg [Qx 4 KF]) (.seq (.reg [Qc 5 0,Qc 6 1,⟨some 7,.call 35 [.t 5,.t 6],none⟩,Q 8 (.bin .geq (.t 7) (Ki 0)),Qa 4 8]) .ret)
def q2k:List LRes:=[.tmp 4]
theorem q3M:q0E Tryz.prog 18 9 q2i q2k:=⟨_,_,Tryz.func18,rfl,by kernel_rfl,by kernel_rfl,rfl⟩
theorem z6R(l:List Nat)(n:Nat)(hl:l.length≤1000000):q0y Tryz.prog 35 [.list (nsD l),.int .i64 n] (fun r=>∃i:Int,r=.one (.int .i64 i)∧(n∉l→i = -1)∧(n∈l→0≤i)):=by
 have hlen:=z1J l;refine q4p.call rfl ?_;simp only[go_sem,↓reduceIte,q2I,q2K,hlen];refine q0t (fun i:Nat=>⟨[(0,.d (.list (nsD l))),(1,.d (.int .i64 n)),(7,.d (.int .i64 l.length)),(8,.d (.int .i64 i))],[],[]⟩)
  (fun i=>i≤l.length∧n∉l.take i) (fun i=>l.length-i) 0 ?_ ⟨Zbb _,by simp⟩ ?_
 ·refine Weak.mk ?_ ?_ ?_<;>simp only[go_sem,↓reduceIte,Sub,Zab,Zad,hlen]
 ·intro i ⟨g1,g2⟩;simp only[go_sem,↓reduceIte];refine⟨fun q=>?_,fun q=>?_⟩
  ·obtain⟨x,hx⟩:=get_some (l:=l) (i:=i) (by omega);have hg:getI (nsD l) (i:Int)=some (.int .i64 x):=by rw[q0g,j5q,hx];rfl
   simp(disch:=omega)only[go_sem,↓reduceIte,hg];refine⟨fun e=>⟨i,rfl,fun h=>absurd (Zae hx) (by rw[←show n=x by omega];exact h),fun _=>by omega⟩,fun e=>⟨i+1,?_,⟨by omega,fun h=>?_⟩,by omega⟩⟩
   ·refine Weak.mk ?_ ?_ ?_<;>simp only[go_sem,↓reduceIte,Sub,Zab,Zad]
   ·rw[Zch,hx]at h;rcases Zau.1 h with h|h
    ·exact g2 h
    ·have:n=x:=by simpa using h
     omega
  ·rw[Zbw (by omega)]at g2;exact⟨-1,rfl,fun _=>rfl,fun h=>absurd h g2⟩
theorem j17(l:List Nat)(n:Nat)(hl:l.length≤1000000)(hn:n∉l):q0y Tryz.prog 18 [.list (nsD l),.int .i64 n] (fun r=>r=.one (.bool false)):=by
 refine q3M.call rfl ?_;simp only[go_sem,↓reduceIte,q2i,q2k];refine q0k.post (z6R l n hl) (fun r hr=>?_);obtain⟨i,rfl,h1,_⟩:=hr;rw[h1 hn];simp only[go_sem,↓reduceIte]
def prvN:List UInt8:=[80,114,101,118]
def z0S:q0m:=
 .seq (.reg [Qx 2 (.k (.d .nilp)),Qx 3 (.k (.d .nil))]) (.seq (.seq (.reg [Qc 12 0,Q 13 (.len true (.t 12)),Q 14 (.bin .gtr (.t 13) (Ki 60000))]) (.cond (.t 14) (.seq (.reg [Q 15 
 (.mkI 49 (Ki 2)),Qx 2 (.k (.d .nilp)),Qa 3 15]) .ret) .skip)) (.seq (.seq (.reg [Qc 16 0,⟨some 17,.call 16 [.t 16,.k (.d (.str [37,80,68,70,45]))],none⟩,Q 18 (.not (.t 
 17))]) (.cond (.t 18) (.seq (.reg [Q 19 (.mkI 49 (Ki 4)),Qx 2 (.k (.d .nilp)),Qa 3 19]) .ret) .skip)) (.seq (.alt [([Qc 20 0,⟨some 21,.prim (.mkMap 54) [] [],none⟩],Q 22 
 (.bld [(0,1),(1,1),(2,5)] [.str [],.map [] [],.int .i64 0,.int .i64 0,.str [],.list [],.list []] [false,false,false,false,false,true,true] [(0,.t 20),(1,.t 
 21)])),([],⟨some 23,.box (.t 22),none⟩)] [Qa 4 23]) (.seq (.reg [Qc 25 0,⟨some 26,.call 17 [.t 25],none⟩,Qc 24 26,Q 27 (.ext 0 (.t 24)),Q 28 (.ext 1 (.t 24)),Qa 5 27, 
 Qa 6 28]) (.seq (.seq (.reg [Qc 29 6,Q 30 (.eqN 0 true (.t 29))]) (.cond (.t 30) (.seq (.reg [Qc 31 6,Qx 2 (.k (.d .nilp)),Qa 3 31]) .ret) .skip)) (.seq (.reg [⟨some 7,.nils 
 3 1,none⟩]) (.block 0 (.loop (.block 1 (.seq (.seq (.reg [Qc 32 7,Qc 33 5,⟨some 34,.call 18 [.t 32,.t 33],none⟩]) (.cond (.t 34) (.seq (.reg [Q 35 (.mkI 49 (Ki 7)),Qx 2 
 (.k (.d .nilp)),Qa 3 35]) .ret) .skip)) (.seq (.seq (.reg [Qc 36 7,Q 37 (.len false (.t 36)),Q 38 (.bin .eql (.t 37) (Ki 8))]) (.cond (.t 38) (.seq (.reg [Q 39 (.mkI 49 (Ki 
 2)),Qx 2 (.k (.d .nilp)),Qa 3 39]) .ret) .skip)) (.seq (.reg [Qc 40 7,Qc 41 5,⟨some 42,.bsl 3 1 [.t 41],none⟩,⟨some 43,.app 3 1 8 false (.t 40) (.t 42),none⟩,Qa 7 43]) 
 (.seq (.reg [Qc 45 4,Qc 46 5,⟨some 47,.prim .call [.k (.fn (.func 19) [] []),.t 45,.t 46] [],none⟩,Qc 44 47,Q 48 (.ext 0 (.t 44)),Q 49 (.ext 1 (.t 44)),⟨some 8,.allo 
 [.int .i64 0,.int .i64 0,.str [],.list [],.list []],none⟩,⟨none,.st 5 (.t 8) (.t 48),none⟩,Qa 9 49]) (.seq (.seq (.reg [Qc 50 9,Q 51 (.eqN 0 true (.t 50))]) (.cond (.t 
 51) (.seq (.reg [Qc 52 9,Qx 2 (.k (.d .nilp)),Qa 3 52]) .ret) .skip)) (.seq (.seq (.reg [Qc 53 7,Q 54 (.len false (.t 53)),Q 55 (.bin .eql (.t 54) (Ki 1))]) (.cond (.t 55) 
 (.reg [Qc 56 4,Q 57 (.ld true 5 (.t 8)),Q 58 (.nck (.t 56)),Q 59 (.fa 2 (.t 58)),⟨none,.st 5 (.t 59) (.t 57),none⟩]) .skip)) (.seq (.reg [Q 61 (.ld true 5 (.t 8)),⟨some 
 62,.call 20 [.t 61,.k (.d (.str [80,114,101,118]))],none⟩,Qc 60 62,Q 63 (.ext 0 (.t 60)),Q 64 (.ext 1 (.t 60)),⟨some 10,.allo [.int .i64 0,.int .i64 0,.str [],.list 
 [],.list []],none⟩,⟨none,.st 5 (.t 10) (.t 63),none⟩,Qa 11 64]) (.seq (.seq (.reg [Qc 65 11,Q 66 (.not (.t 65))]) (.cond (.t 66) (.seq (.alt [([],Qc 67 4)] [Qa 2 67,Qx 3 
 (.k (.d .nil))]) .ret) .skip)) (.seq (.seq (.reg [Q 68 (.fa 0 (.t 10)),Q 69 (.ld false 1 (.t 68)),Q 70 (.bin .neq (.t 69) (Ki 2)),Qc 71 70,Qg 72 (.fa 1 (.t 10)) 71 false,Qg 
 73 (.ld false 1 (.t 72)) 71 false,Qg 74 (.bin .lss (.t 73) (Ki 0)) 71 false,Q 75 (.pick (.t 71) KT (.t 74)),Qc 76 75,Qg 77 (.fa 1 (.t 10)) 76 false,Qg 78 (.ld false 1 (.t 
 77)) 76 false,Qg 79 (.bin .rem (.t 78) (Ki 1000)) 76 false,Qg 80 (.bin .neq (.t 79) (Ki 0)) 76 false,Q 81 (.pick (.t 76) KT (.t 80))]) (.cond (.t 81) (.seq (.reg [Q 82 (.mkI 
 49 (Ki 8)),Qx 2 (.k (.d .nilp)),Qa 3 82]) .ret) .skip)) (.reg [Q 83 (.fa 1 (.t 10)),Q 84 (.ld false 1 (.t 83)),Q 85 (.bin .quo (.t 84) (Ki 1000)),Qa 5 85])))))))))))))))))))
def z0Y:List LRes:=[.tmp 2,.tmp 3]
theorem z2j:q0E Tryz.prog 8 86 z0S z0Y:=⟨_,_,Tryz.func8,rfl,by kernel_rfl,by kernel_rfl,rfl⟩
theorem z89{s:List UInt8}{k k0:Nat}{ps:List (Nat×Nat)}{K:List Nat}{v:Val}{c:UInt8}{r p:List UInt8}(hpre:q5c s [37,80,68,70,45]=true)
  (h0:At s k0 (sxT++([10]++(Lib.decDigits k++p)))) (hp0:dl p) (hp1:∀c∈p,c≠115)
  (h:At s k (xrT++(secT (entT ps) K++(trwT++([10]++(q0F v++c::r)))))) (hs:s.length≤60000)
  (hr:rise K) (hK:∀n∈K,1≤n∧n≤60∧∃w,lkN ps n=some w∧w<10000000000) (hl:K.length≤60) (hv:q2t v=0) (hk6:v.kind=6) (hp:dl (c::r)) (hq:q9a (c::r))
  (hf:v.f.length≤1048576) (hg:getV prvN v.f=none):
  q0y Tryz.prog 8 [.str s] (fun x=>x=.tup [filD s (entN ps K) v,.nil]):=by
 have hkl:=h.le;have hst:=z9K h0 (q5m k) (q7B k) (q2S (by omega)).2 hp0 hp1 (by omega);rw[z3A]at hst;have hct:=j17 [] k (by simp) (by simp);have hta:=z9L h hs hr hK hl hv hk6 hp hq;have hge:=q8L v prvN hf;have e0:getR none=.tup [.agg [.int .i64 0,.int .i64 0,.str [],.list [],.list []],.bool false]:=rfl;rw[hg,e0,Val.d_eq v]at hge;rw[Val.d_eq v]at hta;simp only[filC,tlC]at hta;have hpr:=q7C s [37,80,68,70,45];rw[hpre]at hpr;have z1:(60000<(s.length:Int))=False:=eq_false (by omega)
 refine z2j.call rfl ?_;simp only[go_sem,↓reduceIte,z0S,z0Y,z1];refine q0k.of hpr ?_;simp only[go_sem,↓reduceIte];refine q0b.mkMap z2r ?_;simp only[go_sem,↓reduceIte];refine q2g.bldX (out:=[.d (.str s),.mp (.l 21),.d (.int .i64 0),.d (.int .i64 0),.d (.str []),.ns,.ns]) rfl (by simp[AV.simple]) (fun j hj=>match j,hj with
  |5,_=>rfl
  |6,_=>rfl
  |0,h=>by cases h
  |1,h=>by cases h
  |2,h=>by cases h
  |3,h=>by cases h
  |4,h=>by cases h
  |(j+7),h=>by simp at h) ?_
 simp only[go_sem,↓reduceIte];refine q2g.boxX rfl (by simp[mpX]) ?_;simp only[go_sem,↓reduceIte];refine q0k.of hst ?_;simp only[go_sem,↓reduceIte];refine q3Q ?_;simp only[go_sem,↓reduceIte];refine q0k.of hct ?_;simp only[go_sem,↓reduceIte];refine q0b.q0G ([.l 23,.l 21]) ([]) rfl (hta) rfl rfl (by simp only[q1c,St.obj,aget,AObj.ren,AV.ren,AV.ren1,renL,q2G,renR,renQ,Zay,Zaz,and_true,and_self,Nat.reduceEqDiff,↓reduceIte,reduceCtorEq]) rfl rfl rfl ⟨rfl,rfl⟩ ?_;simp only[go_sem,↓reduceIte]
 refine q0k.of hge ?_;simp only[go_sem,↓reduceIte];refine q2g.ghost (q2g.step rfl (fun _ _ _ h=>by cases h) rfl ?_);refine⟨_,Gh.trans (Gh.j5e (a:=21) rfl) (Gh.frzP (a:=23) (fs:=[.str s,mapN (entN ps K),.int .i64 v.kind,.int .i64 v.n,.str v.s,.list (q0u v.l),.list (q0j v.f)]) rfl),?_⟩;simp only[go_sem,↓reduceIte,St.frzM,St.frzP,amap,adel,AV.frzM,AV.frzP,filD]
def SubJ:List (Nat×AV)→List (Nat×AV)→Prop
 |[],_=>True
 |(s,x)::r,l=>(x=.junk∨aget l s=some x)∧SubJ r l
theorem SubJ.get:∀{l m:List (Nat×AV)},SubJ l m→∀{s:Nat} {x:AV},aget l s=some x→x=.junk∨aget m s=some x
 |[],_,_,s,x,hx=>by cases hx
 |(k,v)::r,m,h,s,x,hx=>by
  simp only[aget]at hx;split at hx
  ·rename_i e;cases hx;rw[←e];exact h.1
  ·exact SubJ.get h.2 hx
theorem GhoB.jnk{b0:Nat→Nat}{σ τ:St}(h1:SubJ τ.ρ σ.ρ)(h2:Sub τ.L σ.L)(h3:Sub τ.H σ.H):GhoB b0 σ τ:=fun E n G ts w e h=>⟨G,by
 have hw:Wk ⟨σ.ρ,τ.L,τ.H⟩ σ:=⟨fun _ _ h=>h,fun r o ho=>by
  cases r with
  |l s=>exact h2.get ho
  |x s=>exact h3.get ho⟩
 have g:=h.wk hw;have hsl:∀s x,aget τ.ρ s=some x→AVR G w x (ts.getD s undef):=fun s x hx=>by
  rcases h1.get hx with h5|h5
  ·rw[h5];exact .junk _
  ·exact g.slot s x h5
 exact{ g with slot:=hsl }⟩
theorem j33{P:Program}[Inv P]{l:List q0a}{deps:List (List Nat)}{k:List Item}{K:Exit→St→Prop}{σ:St}(S:(Nat→Bool)→St)(h0:SubJ (S fun _=>false).ρ σ.ρ∧Sub (S fun _=>false).L σ.L∧Sub (S fun _=>false).H σ.H)(hg:∀x∈l,x.guard=none)
  (h1:∀(done:Nat→Bool) (i:Nat) (x:q0a),l[i]?=some x→(∀j∈deps.getD i [],done j=true)→OPS P [x] [.goal fun τ=>Weak (S fun k=>k==i || done k) τ] (fun _ _=>False) (S done))
  (h2:∀done:Nat→Bool,(∀i,i<l.length→done i=true)→POP P .normal k K (S done)):RUN P (.fam l deps) k K σ:=by
 show FamW P l deps (POP P .normal k K) σ
 intro b0;refine⟨fun done τ=>Wk (S done) τ,⟨S fun _=>false,GhoB.jnk h0.1 h0.2.1 h0.2.2,Wk.refl _⟩,fun done τ i x hI hx hd hj=>⟨S done,GhoB.wk hI,.inl ?_⟩,fun done τ ha hI=>⟨S done,GhoB.wk hI,h2 done ha⟩⟩;have h:=h1 done i x hx hj;have hgx:=hg x (Zae hx);unfold LOps;rw[hgx];have h':q4X P [x] (fun τ=>Wk (S fun k=>k==i || done k) τ) (S done):=q28 (fun τ (g:Weak _ τ)=>g.wk) h;unfold q4X at h';rw[hgx]at h';exact h'
def nbd(b:Bool)(x y:AV):AV:=if b=true then x else y
theorem q6t(x y:AV):nbd true x y=x:=rfl
theorem j64(x y:AV):nbd false x y=y:=rfl
def filP(s:List UInt8)(q:List (Nat×Nat))(v:Val):List D:=[.str s,mapN q,.int .i64 v.kind,.int .i64 v.n,.str v.s,.list (q0u v.l),.list (q0j v.f)]
def strS(s:List UInt8)(q:List (Nat×Nat))(tv v:Val)(n a b:Int)(data:List UInt8)(done:Nat→Bool):St:=
 ⟨[(0,.d (.pto (filP s q tv))),(2,.d (.int .i64 a)),(10,.d (.int .i64 b)),(4,.ptr (.l 4) 0),(6,.ptr (.l 6) 0),
  (95,nbd (done 0) (.d (.pto (filP s q tv))) .junk),(96,nbd (done 1) (.dptr (filP s q tv)) .junk),(97,nbd (done 2) (.dptr (filP s q tv)) .junk),(98,nbd (done 3) (.d (.str s)) .junk),
  (99,nbd (done 4) (.d (.int .i64 a)) .junk),(100,nbd (done 5) (.d (.int .i64 b)) .junk),(101,nbd (done 6) (.d (.str data)) .junk),(102,nbd (done 7) (.ptr (.l 4) 6) .junk),(103,nbd (done 9) (.ptr (.l 4) 7) .junk)],
  [(4,.cells [.d (.int .i64 n),.d (.int .i64 v.kind),.d (.int .i64 v.n),.d (.str v.s),.d (.list (q0u v.l)),.d (.list (q0j v.f)),nbd (done 8) (.d (.bool true)) (.d (.bool false)),nbd (done 10) (.d (.str data)) (.d (.str []))]),
  (6,.cells [.d (.int .i64 0),.d (.int .i64 0),.d (.int .i64 0),.d (.str []),.ns,.ns,.d (.bool false),.d (.str [])])],[]⟩
def q31:q0m:=
 .seq (.reg [⟨some 4,.box (.t 1),none⟩,⟨some 6,.allo [.int .i64 0,.int .i64 0,.int .i64 0,.str [],.list [],.list [],.bool false,.str []],none⟩,Qx 7 (.k (.d .nil))]) 
 (.seq (.reg [Q 12 (.fa 1 (.t 4)),Q 13 (.ld true 5 (.t 12)),⟨some 14,.call 20 [.t 13,.k (.d (.str [76,101,110,103,116,104]))],none⟩,Qc 11 14,Q 15 (.ext 0 (.t 11)),Q 
 16 (.ext 1 (.t 11)),⟨some 8,.allo [.int .i64 0,.int .i64 0,.str [],.list [],.list []],none⟩,⟨none,.st 5 (.t 8) (.t 15),none⟩,Qa 9 16]) (.seq (.seq (.reg [Qc 17 9,Q 18 
 (.not (.t 17)),Qc 19 18,Qg 20 (.fa 0 (.t 8)) 19 false,Qg 21 (.ld false 1 (.t 20)) 19 false,Qg 22 (.bin .neq (.t 21) (Ki 2)) 19 false,Q 23 (.pick (.t 19) KT (.t 22)),Qc 24 
 23,Qg 25 (.fa 1 (.t 8)) 24 false,Qg 26 (.ld false 1 (.t 25)) 24 false,Qg 27 (.bin .lss (.t 26) (Ki 0)) 24 false,Q 28 (.pick (.t 24) KT (.t 27)),Qc 29 28,Qg 30 (.fa 1 (.t 
 8)) 29 false,Qg 31 (.ld false 1 (.t 30)) 29 false,Qg 32 (.bin .rem (.t 31) (Ki 1000)) 29 false,Qg 33 (.bin .neq (.t 32) (Ki 0)) 29 false,Q 34 (.pick (.t 29) KT (.t 33))]) 
 (.cond (.t 34) (.seq (.reg [Q 35 (.bld [(0,1),(1,5),(6,1),(7,1)] [.int .i64 0,.int .i64 0,.int .i64 0,.str [],.list [],.list [],.bool false,.str []] [] []),Q 36 
 (.mkI 49 (Ki 8)),⟨none,.st 8 (.t 6) (.t 35),none⟩,Qa 7 36]) .ret) .skip)) (.seq (.seq (.reg [Qc 37 2,Qc 38 0,Q 39 (.nck (.t 38)),Q 40 (.fa 0 (.t 39)),Q 41 (.ld false 1 
 (.t 40)),Q 42 (.len true (.t 41)),Q 43 (.bin .lss (.t 37) (.t 42)),Qc 44 43,Qd 45 0 44 true,Qg 46 (.nck (.t 45)) 44 true,Qg 47 (.fa 0 (.t 46)) 44 true,Qg 48 (.ld false 1 
 (.t 47)) 44 true,Qd 49 2 44 true,Qg 50 (.idxS (.t 48) (.t 49)) 44 true,Qg 51 (.bin .eql (.t 50) (Kb 13)) 44 true,Q 52 (.pick (.t 44) (.t 51) KF)]) (.cond (.t 52) (.reg [Qc 53 
 2,Q 54 (.bin .add (.t 53) (Ki 1)),Qa 2 54]) .skip)) (.seq (.seq (.reg [Qc 55 2,Qc 56 0,Q 57 (.nck (.t 56)),Q 58 (.fa 0 (.t 57)),Q 59 (.ld false 1 (.t 58)),Q 60 (.len true 
 (.t 59)),Q 61 (.bin .geq (.t 55) (.t 60)),Qc 62 61,Qd 63 0 62 false,Qg 64 (.nck (.t 63)) 62 false,Qg 65 (.fa 0 (.t 64)) 62 false,Qg 66 (.ld false 1 (.t 65)) 62 false,Qd 67 
 2 62 false,Qg 68 (.idxS (.t 66) (.t 67)) 62 false,Qg 69 (.bin .neq (.t 68) (Kb 10)) 62 false,Q 70 (.pick (.t 62) KT (.t 69))]) (.cond (.t 70) (.seq (.reg [Q 71 (.bld [(0,1), 
 (1,5),(6,1),(7,1)] [.int .i64 0,.int .i64 0,.int .i64 0,.str [],.list [],.list [],.bool false,.str []] [] []),Q 72 (.mkI 49 (Ki 4)),⟨none,.st 8 (.t 6) (.t 71), 
 none⟩,Qa 7 72]) .ret) .skip)) (.seq (.reg [Qc 73 2,Q 74 (.bin .add (.t 73) (Ki 1)),Qa 2 74]) (.seq (.reg [Qc 75 2,Q 76 (.fa 1 (.t 8)),Q 77 (.ld false 1 (.t 76)),Q 78 (.bin 
 .quo (.t 77) (Ki 1000)),Q 79 (.bin .add (.t 75) (.t 78)),Qa 10 79]) (.seq (.seq (.reg [Qc 80 10,Qc 81 0,Q 82 (.nck (.t 81)),Q 83 (.fa 0 (.t 82)),Q 84 (.ld false 1 (.t 83)), 
 Q 85 (.len true (.t 84)),Q 86 (.bin .gtr (.t 80) (.t 85))]) (.cond (.t 86) (.seq (.reg [Q 87 (.bld [(0,1),(1,5),(6,1),(7,1)] [.int .i64 0,.int .i64 0,.int .i64 0,.str 
 [],.list [],.list [],.bool false,.str []] [] []),Q 88 (.mkI 49 (Ki 5)),⟨none,.st 8 (.t 6) (.t 87),none⟩,Qa 7 88]) .ret) .skip)) (.seq (.seq (.reg [Qc 89 10,Qc 90 2,Q 
 91 (.bin .sub (.t 89) (.t 90)),Q 92 (.bin .gtr (.t 91) (Ki 20000))]) (.cond (.t 92) (.seq (.reg [Q 93 (.bld [(0,1),(1,5),(6,1),(7,1)] [.int .i64 0,.int .i64 0,.int .i64 
 0,.str [],.list [],.list [],.bool false,.str []] [] []),Q 94 (.mkI 49 (Ki 2)),⟨none,.st 8 (.t 6) (.t 93),none⟩,Qa 7 94]) .ret) .skip)) (.seq (.fam [Qc 95 0,Q 96 (.nck 
 (.t 95)),Q 97 (.fa 0 (.t 96)),Q 98 (.ld false 1 (.t 97)),Qc 99 2,Qc 100 10,Q 101 (.subS (.t 98) (some (.t 99)) (some (.t 100))),Q 102 (.fa 6 (.t 4)),⟨none,.st 1 (.t 102) 
 KT,none⟩,Q 103 (.fa 7 (.t 4)),⟨none,.st 1 (.t 103) (.t 101),none⟩] [[],[0],[1],[2],[],[],[3,4,5],[],[7],[0,1,2,3,4,5,6,7,8],[9,6,8,0,1,2,3,4,5, 
 6,7,8]]) (.seq (.seq (.dreg [Qc 104 0,Q 105 (.nck (.t 104)),Q 106 (.fa 0 (.t 105)),Q 107 (.ld false 1 (.t 106)),Qc 108 0,Q 109 (.nck (.t 108)),Q 110 (.fa 0 (.t 109)),Q 
 111 (.ld false 1 (.t 110)),Qc 112 10,⟨some 113,.call 25 [.t 111,.t 112],none⟩,⟨some 114,.call 26 [.t 107,.t 113],none⟩,Q 115 (.bin .neq (.t 114) (.k (.d (.str [101, 
 110,100,115,116,114,101,97,109]))))]) (.cond (.t 115) (.seq (.reg [Q 116 (.bld [(0,1),(1,5),(6,1),(7,1)] [.int .i64 0,.int .i64 0,.int .i64 0,.str [],.list [], 
 .list [],.bool false,.str []] [] []),Q 117 (.mkI 49 (Ki 4)),⟨none,.st 8 (.t 6) (.t 116),none⟩,Qa 7 117]) .ret) .skip)) (.seq (.reg [Q 118 (.ld true 8 (.t 4)),⟨none,.st 8 
 (.t 6) (.t 118),none⟩,Qx 7 (.k (.d .nil))]) .ret)))))))))))
def q34:List LRes:=[.cell 6 true 8,.tmp 7]
theorem q5L:q0E Tryz.prog 28 119 q31 q34:=⟨_,_,Tryz.func28,rfl,by kernel_rfl,by kernel_rfl,rfl⟩
theorem z7s{s:List UInt8}{q:List (Nat×Nat)}{tv v:Val}{n:Int}{k:Nat}{data z:List UInt8}(h:At s k ([10]++(data++([10]++([101,110,100,115,116,114,101,97,109]++10::z)))))(hs:s.length≤60000)
  (hd:data.length≤20000) (hf:v.f.length≤1048576) (hg:getV lenN v.f=some (lenV data.length)):
  q0y Tryz.prog 28 [filD s q tv,(ObV.mk n v false []).d,.int .i64 k] (fun r=>r=.tup [(ObV.mk n v true data).d,.nil]):=by
 have g:=q8L v lenN hf;have e0:getR (some (lenV data.length))=.tup [.agg [.int .i64 2,.int .i64 ((data.length*1000:Nat):Int),.str [],.list [],.list []],.bool true]:=rfl;rw[hg,e0,Val.d_eq v]at g;have hle:=h.len;simp only[Zac,Zaf,Zag]at hle;have h1:=h.more;simp only[Zaf,Zag]at h1;have hc:s[k]?=some 10:=h.get0;have z1:((k:Int)<(s.length:Int))=True:=eq_true (by omega);have z2:((s.length:Int)≤(k:Int))=False:=eq_false (by omega)
 have z3:(((data.length*1000:Nat):Int)<0)=False:=eq_false (by omega);have z4:(((data.length*1000:Nat):Int).tmod 1000=0)=True:=eq_true (by rw[Zad];exact Int.mul_tmod_left _ _);have z5:((data.length*1000:Nat):Int).tdiv 1000=(data.length:Int):=by rw[Zad];exact Int.mul_tdiv_cancel _ (by decide)
 have z6:(((10:UInt8).toNat:Int)=13)=False:=eq_false (by decide);have z7:(((10:UInt8).toNat:Int)=10)=True:=eq_true (by decide);refine q5L.call rfl ?_;simp only[go_sem,↓reduceIte,q31,q34,filD,ObV.d];refine q0k.of g ?_;simp(disch:=omega)only[go_sem,↓reduceIte,z1,z2,z3,z4,z5,z6,z7,q0g,hc];refine⟨fun q1=>by omega,fun q1=>⟨fun q2=>by omega,fun q2=>?_⟩⟩;have hcut:cutI s ((k:Int)+1) ((k:Int)+1+(data.length:Int))=data:=by
  have:=q7a s (k+1) (k+1+data.length);rw[show((k+1:Nat):Int)=(k:Int)+1 by omega,show((k+1+data.length:Nat):Int)=(k:Int)+1+(data.length:Int) by omega]at this;rw[this];have h2:=h1.drop;rw[show k+(0+1)=k+1 by omega]at h2;rw[List.drop_take,h2,show k+1+data.length-(k+1)=data.length by omega,List.take_append_of_le_length (Zai _),Zcq]
 refine j33 (strS s q tv v n ((k:Int)+1) ((k:Int)+1+(data.length:Int)) data) ?_ (by simp) (fun done i x hx hj=>?_) (fun done hd=>?_)
 ·simp only[go_sem,↓reduceIte,strS,j64,SubJ,Sub,filP,true_or,or_true]
 ·match i,hx with
  |0,hx=>
   cases hx;simp(disch:=omega)only[go_sem,↓reduceIte,strS];refine Weak.mk ?_ ?_ ?_<;>simp only[go_sem,↓reduceIte,Sub,Zab,Zad,q6t]
  |1,hx=>
   cases hx;have d0:=hj 0 (by decide);simp(disch:=omega)only[go_sem,↓reduceIte,strS,d0,q6t,filP];refine Weak.mk ?_ ?_ ?_<;>simp only[go_sem,↓reduceIte,Sub,Zab,Zad,q6t]
  |2,hx=>
   cases hx;have d1:=hj 1 (by decide);simp(disch:=omega)only[go_sem,↓reduceIte,strS,d1,q6t,filP];refine Weak.mk ?_ ?_ ?_<;>simp only[go_sem,↓reduceIte,Sub,Zab,Zad,q6t]
  |3,hx=>
   cases hx;have d2:=hj 2 (by decide);simp(disch:=omega)only[go_sem,↓reduceIte,strS,d2,q6t,filP];refine Weak.mk ?_ ?_ ?_<;>simp only[go_sem,↓reduceIte,Sub,Zab,Zad,q6t]
  |4,hx=>
   cases hx;simp(disch:=omega)only[go_sem,↓reduceIte,strS];refine Weak.mk ?_ ?_ ?_<;>simp only[go_sem,↓reduceIte,Sub,Zab,Zad,q6t]
  |5,hx=>
   cases hx;simp(disch:=omega)only[go_sem,↓reduceIte,strS];refine Weak.mk ?_ ?_ ?_<;>simp only[go_sem,↓reduceIte,Sub,Zab,Zad,q6t]
  |6,hx=>
   cases hx;have d3:=hj 3 (by decide);have d4:=hj 4 (by decide);have d5:=hj 5 (by decide);simp(disch:=omega)only[go_sem,↓reduceIte,strS,d3,d4,d5,q6t,hcut];refine⟨⟨by omega,by omega,by omega⟩,?_⟩;refine Weak.mk ?_ ?_ ?_<;>simp only[go_sem,↓reduceIte,Sub,Zab,Zad,q6t]
  |7,hx=>
   cases hx;simp(disch:=omega)only[go_sem,↓reduceIte,strS];refine Weak.mk ?_ ?_ ?_<;>simp only[go_sem,↓reduceIte,Sub,Zab,Zad,q6t]
  |8,hx=>
   cases hx;have d7:=hj 7 (by decide);simp(disch:=omega)only[go_sem,↓reduceIte,strS,d7,q6t];refine Weak.mk ?_ ?_ ?_<;>simp only[go_sem,↓reduceIte,Sub,Zab,Zad,q6t]
  |9,hx=>
   cases hx;simp(disch:=omega)only[go_sem,↓reduceIte,strS];refine Weak.mk ?_ ?_ ?_<;>simp only[go_sem,↓reduceIte,Sub,Zab,Zad,q6t]
  |10,hx=>
   cases hx;have d9:=hj 9 (by decide);have d6:=hj 6 (by decide);simp(disch:=omega)only[go_sem,↓reduceIte,strS,d9,d6,q6t];refine Weak.mk ?_ ?_ ?_<;>simp only[go_sem,↓reduceIte,Sub,Zab,Zad,q6t]
  |(m+11),hx=>simp at hx
 ·have ha:∀i,i<11→done i=true:=hd;have h2:=h1.more;have h3:=h2.more;have hk2:k+(0+1)+data.length=k+1+data.length:=by omega
  rw[hk2]at h2;have sk:=At.q1d (b:=[10]) (c:=101) (r:=[110,100,115,116,114,101,97,109]++10::z) h2 z6t ⟨by decide,by decide⟩ (by omega);have w1:=h3.q1e (w:=[101,110,100,115,116,114,101,97,109]) (fun c hc=>by revert hc;revert c;decide) (show dl (10::_)from Or.inl (by decide)) (by omega);rw[hk2]at w1;rw[show((k+1+data.length:Nat):Int)=(k:Int)+1+(data.length:Int) by omega]at sk
  simp only[go_sem,↓reduceIte,strS,ha 0 (by decide),ha 1 (by decide),ha 2 (by decide),ha 3 (by decide),ha 4 (by decide),ha 5 (by decide),ha 6 (by decide),ha 7 (by decide),ha 8 (by decide),ha 9 (by decide),ha 10 (by decide),q6t,filP];refine q1G.of sk ?_;simp only[go_sem,↓reduceIte];refine q1G.of w1 ?_;simp only[go_sem,↓reduceIte]
def bodE(o:ObV):List UInt8:=(if o.st=true then strT++o.data++estT else[])++eobT
theorem j0h(o:ObV)(z:List UInt8):∃c r,bodE o++z=c::r∧nb c∧q15 (c::r)≠[48]:=by
 cases hst:o.st with
 |true=>
  refine⟨115,[116,114,101,97,109,10]++o.data++estT++eobT++z,by simp[bodE,hst,strT],⟨by decide,by decide⟩,?_⟩;rw[q1F,if_pos (by decide)];simp
 |false=>
  refine⟨101,[110,100,111,98,106,10]++z,by simp[bodE,hst,eobT],⟨by decide,by decide⟩,?_⟩;rw[q1F,if_pos (by decide)];simp
theorem j2L(o:ObV)(z:List UInt8):q5F o++z=Lib.decDigits o.n.toNat++([32]++([48]++([32]++([111,98,106]++([10]++(q0F o.val++10::(bodE o++z))))))):=by
 simp[q5F,bodE]
def q44:q0m:=
 .seq (.reg [⟨some 4,.allo [.int .i64 0,.int .i64 0,.int .i64 0,.str [],.list [],.list [],.bool false,.str []],none⟩,Qx 5 (.k (.d .nil))]) (.seq (.reg [Qc 15 0,Q 16 (.nck 
 (.t 15)),Q 17 (.fa 1 (.t 16)),Q 18 (.ld false 1 (.t 17)),Qc 19 1,⟨some 20,.prim (.lookup 54 true) [.t 18,.t 19] [],none⟩,Qc 14 20,Q 21 (.ext 0 (.t 14)),Q 22 (.ext 1 (.t 
 14)),Qa 6 21,Qa 7 22]) (.seq (.seq (.reg [Qc 23 7,Q 24 (.not (.t 23)),Qc 25 24,Qd 26 6 25 false,Qg 27 (.bin .lss (.t 26) (Ki 0)) 25 false,Q 28 (.pick (.t 25) KT (.t 27))]) 
 (.cond (.t 28) (.seq (.reg [Q 29 (.bld [(0,1),(1,5),(6,1),(7,1)] [.int .i64 0,.int .i64 0,.int .i64 0,.str [],.list [],.list [],.bool false,.str []] [] []),Q 30 
 (.mkI 49 (Ki 6)),⟨none,.st 8 (.t 4) (.t 29),none⟩,Qa 5 30]) .ret) .skip)) (.seq (.seq (.reg [Qc 31 1,⟨some 32,.call 24 [.t 31],none⟩,⟨some 33,.bsl 9 1 [.t 32,.k (.d 
 (.str [48])),.k (.d (.str [111,98,106]))],none⟩,Q 34 (.len false (.t 33)),Q 35 (.cp (Ki 0))]) (.block 0 (.loop (.seq (.reg [Q 36 (.bin .lss (.t 35) (.t 34))]) (.seq (.cond 
 (.t 36) .skip (.exit 0)) (.seq (.block 1 (.seq (.reg [Q 37 (.ia 1 (.t 33) (.t 35)),Q 38 (.ld false 1 (.t 37)),Qa 9 38]) (.seq (.reg [Qc 39 0,Q 40 (.nck (.t 39)),Q 41 (.fa 0 
 (.t 40)),Q 42 (.ld false 1 (.t 41)),Qc 43 6,⟨some 44,.call 25 [.t 42,.t 43],none⟩,Qa 6 44]) (.seq (.seq (.reg [Qc 45 0,Q 46 (.nck (.t 45)),Q 47 (.fa 0 (.t 46)),Q 48 
 (.ld false 1 (.t 47)),Qc 49 6,⟨some 50,.call 26 [.t 48,.t 49],none⟩,Qc 51 9,Q 52 (.bin .neq (.t 50) (.t 51))]) (.cond (.t 52) (.seq (.reg [Q 53 (.bld [(0,1),(1,5),(6, 
 1),(7,1)] [.int .i64 0,.int .i64 0,.int .i64 0,.str [],.list [],.list [],.bool false,.str []] [] []),Q 54 (.mkI 49 (Ki 4)),⟨none,.st 8 (.t 4) (.t 53),none⟩,Qa 5 
 54]) .ret) .skip)) (.reg [Qc 55 6,Qc 56 9,Q 57 (.len true (.t 56)),Q 58 (.bin .add (.t 55) (.t 57)),Qa 6 58]))))) (.reg [Q 59 (.bin .add (.t 35) (Ki 1)),Qc 35 59]))))))) 
 (.seq (.reg [Qc 61 0,Q 62 (.nck (.t 61)),Q 63 (.fa 0 (.t 62)),Q 64 (.ld false 1 (.t 63)),Qc 65 6,⟨some 66,.call 27 [.t 64,.t 65],none⟩,Qc 60 66,Q 67 (.ext 0 (.t 60)),Q 
 68 (.ext 1 (.t 60)),Q 69 (.ext 2 (.t 60)),⟨some 10,.allo [.int .i64 0,.int .i64 0,.str [],.list [],.list []],none⟩,⟨none,.st 5 (.t 10) (.t 67),none⟩,Qa 11 68,Qa 12 
 69]) (.seq (.seq (.reg [Qc 70 12,Q 71 (.eqN 0 true (.t 70))]) (.cond (.t 71) (.seq (.reg [Q 72 (.bld [(0,1),(1,5),(6,1),(7,1)] [.int .i64 0,.int .i64 0,.int .i64 0, 
 .str [],.list [],.list [],.bool false,.str []] [] []),Qc 73 12,⟨none,.st 8 (.t 4) (.t 72),none⟩,Qa 5 73]) .ret) .skip)) (.seq (.reg [Qc 74 1,Q 75 (.ld true 5 (.t 10)), 
 Q 76 (.bld [(0,1),(1,5),(6,1),(7,1)] [.int .i64 0,.int .i64 0,.int .i64 0,.str [],.list [],.list [],.bool false,.str []] [] [(0,.t 74),(1,.t 75)]),⟨some 13, 
 .allo [.int .i64 0,.int .i64 0,.int .i64 0,.str [],.list [],.list [],.bool false,.str []],none⟩,⟨none,.st 8 (.t 13) (.t 76),none⟩]) (.seq (.reg [Qc 77 0,Q 78 (.nck 
 (.t 77)),Q 79 (.fa 0 (.t 78)),Q 80 (.ld false 1 (.t 79)),Qc 81 11,⟨some 82,.call 25 [.t 80,.t 81],none⟩,Qa 11 82]) (.seq (.seq (.reg [Qc 83 0,Q 84 (.nck (.t 83)),Q 85 
 (.fa 0 (.t 84)),Q 86 (.ld false 1 (.t 85)),Qc 87 11,⟨some 88,.call 26 [.t 86,.t 87],none⟩]) (.block 2 (.seq (.reg [Q 90 (.bin .eql (.t 88) (.k (.d (.str [101,110,100, 
 111,98,106])))),Qa 89 90]) (.cond (.t 89) (.seq (.reg [Q 91 (.ld true 8 (.t 13)),⟨none,.st 8 (.t 4) (.t 91),none⟩,Qx 5 (.k (.d .nil))]) .ret) (.seq (.reg [Q 93 (.bin .eql 
 (.t 88) (.k (.d (.str [115,116,114,101,97,109])))),Qa 92 93]) (.cond (.t 92) (.seq (.reg [Qc 94 0,Q 95 (.ld true 8 (.t 13)),Qc 96 11,Q 97 (.bin .add (.t 96) (Ki 6)), 
 ⟨some 98,.prim .call [.k (.fn (.func 28) [] []),.t 94,.t 95,.t 97] [],none⟩,Q 99 (.ext 0 (.t 98)),Q 100 (.ext 1 (.t 98)),⟨none,.st 8 (.t 4) (.t 99),none⟩,Qa 5 100]) 
 .ret) .skip)))))) (.seq (.reg [Q 101 (.bld [(0,1),(1,5),(6,1),(7,1)] [.int .i64 0,.int .i64 0,.int .i64 0,.str [],.list [],.list [],.bool false,.str []] [] []),Q 
 102 (.mkI 49 (Ki 4)),⟨none,.st 8 (.t 4) (.t 101),none⟩,Qa 5 102]) .ret)))))))))
def q46:List LRes:=[.cell 4 true 8,.tmp 5]
theorem q6V:q0E Tryz.prog 13 103 q44 q46:=⟨_,_,Tryz.func13,rfl,by kernel_rfl,by kernel_rfl,rfl⟩
theorem z7U{s:List UInt8}{q:List (Nat×Nat)}{tv:Val}{o:ObV}{k:Nat}{z:List UInt8}(hlk:lkN q o.n.toNat=some k)(h:At s k (q5F o++z))(hok:o.ok)(hs:s.length≤60000)
  (hf:o.val.f.length≤1048576) (hg:o.st=true→getV lenN o.val.f=some (lenV o.data.length)):
  q0y Tryz.prog 13 [filD s q tv,.int .i64 o.n] (fun r=>r=.tup [(ObV.mk o.n o.val o.st o.data).d,.nil]):=by
 obtain⟨o1,o2,o3,o4,o5⟩:=hok;have hn:o.n=((o.n.toNat:Nat):Int):=by omega
 have hml:=z1E o.n.toNat q;rw[hlk,←hn]at hml;have hit:=q3K o.n.toNat (by omega);rw[←hn]at hit;obtain⟨c,r,hcr,hc,hw⟩:=j0h o z;rw[j2L,hcr]at h;have hlen:=h.len;simp only[Zac,Zaf,Zag]at hlen;obtain⟨c1,r1,hd1⟩:∃c r,Lib.decDigits o.n.toNat=c::r:=by
  cases e:Lib.decDigits o.n.toNat with
  |nil=>exact absurd e (q7B _)
  |cons c r=>exact⟨c,r,rfl⟩
 have b32:bl [32]:=fun x hx=>by rw[Zbc.1 hx];exact⟨by decide,by decide⟩
 have s1:=At.q1d (s:=s) (k:=k) (b:=[]) (c:=c1) (r:=r1++([32]++([48]++([32]++([111,98,106]++([10]++(q0F o.val++10::c::r))))))) (by rw[hd1]at h;exact h) (fun x hx=>by cases hx) (z4V (q5m _ c1 (by rw[hd1];simp))) (by omega);have w1:=h.q1e (j0E (q5m _)) (show dl (32::_)from Or.inl (by decide)) (by omega);have a2:=h.more;have s2:=At.q1d (b:=[32]) (c:=48) (r:=[32]++([111,98,106]++([10]++(q0F o.val++10::c::r)))) a2 b32 ⟨by decide,by decide⟩ (by omega);have a3:=a2.more
 have w2:=a3.q1e (w:=[48]) (fun x hx=>by rw[Zbc.1 hx];exact⟨by decide,by decide⟩) (show dl (32::_)from Or.inl (by decide)) (by omega);have a4:=a3.more;have s3:=At.q1d (b:=[32]) (c:=111) (r:=[98,106]++([10]++(q0F o.val++10::c::r))) a4 b32 ⟨by decide,by decide⟩ (by omega);have a5:=a4.more;have w3:=a5.q1e (w:=[111,98,106]) (fun c hc=>by revert hc;revert c;decide) (show dl (10::_)from Or.inl (by decide)) (by omega);have a6:=a5.more
 have hval:=q9f s ((k+(Lib.decDigits o.n.toNat).length+[(32:UInt8)].length+[(48:UInt8)].length+[(32:UInt8)].length+[(111:UInt8),98,106].length:Nat):Int) (by omega);rw[a6.value z6t o3 (Or.inl (by decide)) (j2f rfl hc hw) hs,topP,Val.d_eq o.val]at hval;have a7:=a6.more.more;have s4:=At.q1d (b:=[10]) (c:=c) (r:=r) a7 z6t hc (by omega);simp only[Zaf,Zag,Zbg,Zck]at s1 s2 w2 s3 w3 hval s4;generalize hL:(Lib.decDigits o.n.toNat).length=L at *
 rw[show((k+L:Nat):Int)=(k:Int)+(L:Int) by omega]at s2;rw[show((k+L+1+1:Nat):Int)=((k+L+1:Nat):Int)+1 by omega]at s3;rw[show((k+L+1+1+1+(1+1+1):Nat):Int)=((k+L+1+1+1:Nat):Int)+3 by omega]at hval;refine q6V.call rfl ?_;simp only[go_sem,↓reduceIte,q44,q46,filD,mapN];refine q0b.lookup (ks:=ksN q) (vs:=vsN q) (key:=.int .i64 o.n) (zero:=.int .i64 0) rfl rfl z2r z9h rfl (q7b q) (by kernel_rfl) ?_
 have zk:((k:Int)<0)=False:=eq_false (by omega);simp only[go_sem,↓reduceIte,hml,Zat,Option.isSome_some,Zbp,zk];refine q0k.of hit ?_;simp only[go_sem,↓reduceIte];have g0:getI [D.str (Lib.decDigits o.n.toNat),D.str [48],D.str [111,98,106]] 0=some (.str (Lib.decDigits o.n.toNat)):=rfl;have g1:getI [D.str (Lib.decDigits o.n.toNat),D.str [48],D.str [111,98,106]] 1=some (.str [48]):=rfl;have g2:getI [D.str (Lib.decDigits o.n.toNat),D.str [48],D.str [111,98,106]] 2=some (.str [111,98,106]):=rfl;refine q3Q ?_
 simp only[go_sem,↓reduceIte,g0];refine q0k.of s1 ?_;simp only[go_sem,↓reduceIte];refine q0k.of w1 ?_;simp(disch:=omega)only[go_sem,↓reduceIte,hL];refine q3Q ?_;simp only[go_sem,↓reduceIte,g1];refine q0k.of s2 ?_;simp only[go_sem,↓reduceIte];refine q0k.of w2 ?_;simp(disch:=omega)only[go_sem,↓reduceIte];refine q3Q ?_;simp only[go_sem,↓reduceIte,g2];refine q0k.of s3 ?_;simp only[go_sem,↓reduceIte];refine q0k.of w3 ?_;simp(disch:=omega)only[go_sem,↓reduceIte];refine q3Q ?_;simp only[go_sem,↓reduceIte]
 refine q0k.of hval ?_;simp only[go_sem,↓reduceIte];refine q0k.of s4 ?_;have a8:At s (k+L+1+1+1+3+1+(q0F o.val).length+1) (bodE o++z):=by
  have:=At.more (a:=[10]) a7;rw[←hcr]at this;exact this
 generalize k+L+1+1+1+3+1+(q0F o.val).length+1=m at *;have hm:=a8.le;cases hst:o.st with
 |false=>
  have hb:bodE o++z=[101,110,100,111,98,106]++10::z:=by simp[bodE,hst,eobT]
  rw[hb]at a8;have w4:=a8.q1e (fun c hc=>by revert hc;revert c;decide) (show dl (10::_)from Or.inl (by decide)) (by omega);simp only[go_sem,↓reduceIte];refine q0k.of w4 ?_;rw[o5 hst];simp only[go_sem,↓reduceIte,ObV.d]
 |true=>
  obtain⟨_,o6⟩:=o4 hst;have hb:bodE o++z=[115,116,114,101,97,109]++([10]++(o.data++([10]++([101,110,100,115,116,114,101,97,109]++10::(eobT++z))))):=by simp[bodE,hst,eobT,strT,estT]
  rw[hb]at a8;have w4:=a8.q1e (fun c hc=>by revert hc;revert c;decide) (show dl (10::_)from Or.inl (by decide)) (by omega);have hst2:=z7s (q:=q) (tv:=tv) (n:=o.n) a8.more hs o6 hf (hg hst);rw[show((m+[(115:UInt8),116,114,101,97,109].length:Nat):Int)=(m:Int)+6 from rfl]at hst2;simp only[ObV.d,filD,mapN]at hst2;simp only[go_sem,↓reduceIte];refine q0k.of w4 ?_;simp(disch:=omega)only[go_sem,↓reduceIte];refine⟨fun e=>(by cases e),fun _=>?_⟩
  refine q0b.q0G ([]) ([]) rfl (hst2.q4P (by kernel_rfl)) rfl rfl (by simp only[q1c,St.obj,aget,AObj.ren,AV.ren,AV.ren1,renL,q2G,renR,renQ,Zay,Zaz,and_true,and_self,Nat.reduceEqDiff,↓reduceIte,reduceCtorEq]) rfl rfl rfl ⟨rfl,rfl⟩ ?_;simp only[go_sem,↓reduceIte,ObV.d]
theorem z6r(v:Val):q5E v v=true:=(q9i v v).2 rfl
def q33:q0m:=
 .seq (.reg [⟨some 3,.box (.t 1),none⟩,Qx 4 KF]) (.seq (.reg [Qc 9 0,Q 10 (.fa 0 (.t 3)),Q 11 (.ld false 1 (.t 10)),⟨some 12,.prim .call [.k (.fn (.func 13) [] []),.t 9,.t 
 11] [],none⟩,Qc 8 12,Q 13 (.ext 0 (.t 8)),Q 14 (.ext 1 (.t 8)),⟨some 5,.allo [.int .i64 0,.int .i64 0,.int .i64 0,.str [],.list [],.list [],.bool false,.str []], 
 none⟩,⟨none,.st 8 (.t 5) (.t 13),none⟩,Qa 6 14]) (.seq (.reg [Q 15 (.fa 1 (.t 3)),Q 16 (.ld true 5 (.t 15)),⟨some 7,.allo [.int .i64 0,.int .i64 0,.str [],.list [], 
 .list []],none⟩,⟨none,.st 5 (.t 7) (.t 16),none⟩]) (.seq (.seq (.reg [Q 17 (.fa 6 (.t 3)),Q 18 (.ld false 1 (.t 17))]) (.cond (.t 18) (.reg [Q 19 (.ld true 5 (.t 7)),Q 20 
 (.fa 7 (.t 3)),Q 21 (.ld false 1 (.t 20)),Q 22 (.len true (.t 21)),Q 23 (.bin .mul (.t 22) (Ki 1000)),Q 24 (.bld [(0,1),(1,1),(2,1),(3,1),(4,1)] [.int .i64 0,.int 
 .i64 0,.str [],.list [],.list []] [false,false,false,true,true] [(0,.k (.d (.int .i64 2))),(1,.t 23)]),⟨some 25,.call 22 [.t 19,.k (.d (.str [76,101,110,103,116, 
 104])),.t 24],none⟩,⟨none,.st 5 (.t 7) (.t 25),none⟩]) .skip)) (.seq (.reg [Qc 26 6,Q 27 (.eqN 0 false (.t 26)),Qc 28 27,Qg 29 (.fa 0 (.t 5)) 28 true,Qg 30 (.ld false 1 
 (.t 29)) 28 true,Qg 31 (.fa 0 (.t 3)) 28 true,Qg 32 (.ld false 1 (.t 31)) 28 true,Qg 33 (.bin .eql (.t 30) (.t 32)) 28 true,Q 34 (.pick (.t 28) (.t 33) KF),Qc 35 34,Qg 36 
 (.fa 6 (.t 5)) 35 true,Qg 37 (.ld false 1 (.t 36)) 35 true,Qg 38 (.fa 6 (.t 3)) 35 true,Qg 39 (.ld false 1 (.t 38)) 35 true,Qg 40 (.eqB false (.t 37) (.t 39)) 35 true,Q 41 
 (.pick (.t 35) (.t 40) KF),Qc 42 41,Qg 43 (.fa 7 (.t 5)) 42 true,Qg 44 (.ld false 1 (.t 43)) 42 true,Qg 45 (.fa 7 (.t 3)) 42 true,Qg 46 (.ld false 1 (.t 45)) 42 true,Qg 47 
 (.bin .eql (.t 44) (.t 46)) 42 true,Q 48 (.pick (.t 42) (.t 47) KF),Qc 49 48,Qg 50 (.fa 1 (.t 5)) 49 true,Qg 51 (.ld true 5 (.t 50)) 49 true,Qg 52 (.ld true 5 (.t 7)) 49 
 true,⟨some 53,.call 23 [.t 51,.t 52],some (49,true)⟩,Q 54 (.pick (.t 49) (.t 53) KF),Qa 4 54]) .ret))))
def q36:List LRes:=[.tmp 4]
theorem q5N:q0E Tryz.prog 11 55 q33 q36:=⟨_,_,Tryz.func11,rfl,by kernel_rfl,by kernel_rfl,rfl⟩
theorem j07{s:List UInt8}{q:List (Nat×Nat)}{tv:Val}{o:ObV}{k:Nat}{z:List UInt8}(hlk:lkN q o.n.toNat=some k)(h:At s k (q5F o++z))(hok:o.ok)(hs:s.length≤60000)(ho:o.lt)
  (hg:o.st=true→getV lenN o.val.f=some (lenV o.data.length)):
  q0y Tryz.prog 11 [filD s q tv,o.d] (fun r=>r=.one (.bool true)):=by
 obtain⟨h1,h2,h3⟩:=ho;have hsm:=z6s 1048576 o.v (by omega);have hsm2:o.val.sm 1048576=true:=by
  unfold ObV.val;split
  ·refine z6s _ _ ?_;have:=j0c lenN (lenV o.data.length) o.v;have h5:awV (lenV o.data.length)=1:=rfl;have h6:lenN.length=6:=rfl;omega
  ·exact hsm
 have hget:=z7U (tv:=tv) hlk h hok hs (Val.q1O.1 hsm2).2.2.1 hg;have hal:=z6q _ o.val o.val (Zai _) hsm2;rw[z6r,Val.d_eq o.val]at hal;have hset:=z5X o.v (lenV o.data.length) lenN hsm (by rfl);rw[Val.d_eq o.v,Val.d_eq (lenV _),Val.d_eq (z0w _ _ _)]at hset;simp only[ObV.d]at hget;refine q5N.call rfl ?_;simp only[go_sem,↓reduceIte,q33,q36,ObV.d]
 refine q0b.q0G ([]) ([]) rfl (hget.q4P (by kernel_rfl)) rfl rfl (by simp only[q1c,St.obj,aget,AObj.ren,AV.ren,AV.ren1,renL,q2G,renR,renQ,Zay,Zaz,and_true,and_self,Nat.reduceEqDiff,↓reduceIte,reduceCtorEq]) rfl rfl rfl ⟨rfl,rfl⟩ ?_;cases hst:o.st with
 |true=>
  have hval:z0w lenN (lenV o.data.length) o.v=o.val:=by rw[ObV.val,if_pos hst]
  rw[hval]at hset;have e1:IntKind.i64.wrap ((o.data.length:Int)*1000)=((o.data.length*1000:Nat):Int):=by rw[IntWalk.i64_in]<;>omega
  simp only[go_sem,↓reduceIte,hst,e1];refine q0k.of hset ?_;simp only[go_sem,↓reduceIte,hst];refine q0k.of hal ?_;simp only[go_sem,↓reduceIte]
 |false=>
  have hval:o.v=o.val:=by rw[ObV.val,hst];rfl
  simp only[go_sem,↓reduceIte,hst];rw[hval];refine q0k.of hal ?_;simp only[go_sem,↓reduceIte]
def q2b:q0m:=
 .seq (.reg [Qx 2 KF]) (.seq (.seq (.reg [Qc 5 0,Q 6 (.len false (.t 5)),Q 7 (.bin .gtr (.t 6) (Ki 70))]) (.cond (.t 7) (.seq (.reg [Qx 2 KF]) .ret) .skip)) (.seq (.reg [Qx 3 (Ki 
 0)]) (.seq (.seq (.reg [Qx 4 (Ki 0)]) (.block 0 (.loop (.seq (.seq (.reg [Qc 8 4,Qc 9 0,Q 10 (.len false (.t 9)),Q 11 (.bin .lss (.t 8) (.t 10))]) (.cond (.t 11) .skip (.exit 
 0))) (.seq (.block 1 (.seq (.dreg [Qc 14 3,Qc 15 0,Qc 16 4,Q 17 (.ia 8 (.t 15) (.t 16)),Q 18 (.fa 7 (.t 17)),Q 19 (.ld false 1 (.t 18)),Q 20 (.len true (.t 19)),Q 21 (.bin 
 .add (.t 14) (.t 20)),Qc 22 0,Qc 23 4,Q 24 (.ia 8 (.t 22) (.t 23)),Q 25 (.fa 1 (.t 24)),Q 26 (.ld true 5 (.t 25)),⟨some 27,.call 14 [.t 26,.k (.d (.int .i64 20000))], 
 none⟩,Q 28 (.bin .add (.t 21) (.t 27)),Qa 3 28]) (.seq (.reg [Qc 29 3,Q 30 (.bin .gtr (.t 29) (Ki 20000))]) (.cond (.t 30) (.seq (.reg [Qx 2 KF]) .ret) .skip)))) (.reg [Qc 12 
 4,Q 13 (.bin .add (.t 12) (Ki 1)),Qa 4 13])))))) (.seq (.reg [Qx 2 KT]) .ret))))
def q2c:List LRes:=[.tmp 2]
theorem q3s:q0E Tryz.prog 6 31 q2b q2c:=⟨_,_,Tryz.func6,rfl,by kernel_rfl,by kernel_rfl,rfl⟩
theorem z2q(l:List ObV)(hl:l.length≤1048576)(ho:∀o∈l,o.v.sm 1048576=true∧awV o.v≤1048576∧o.data.length≤1048576):
  q0y Tryz.prog 6 [.list (q4r l)] (fun r=>∃b,r=.one (.bool b)∧(b=true→l.length≤70∧∀o∈l,o.data.length≤20000∧awV o.v≤20000)):=by
 have hlen:(q4r l).length=l.length:=Zbi ..;have nob:∃b,Res.one (D.bool false)=Res.one (D.bool b)∧(b=true→l.length≤70∧∀o∈l,o.data.length≤20000∧awV o.v≤20000):=⟨false,rfl,fun h=>by cases h⟩;refine q3s.call rfl ?_;simp only[go_sem,↓reduceIte,q2b,q2c,hlen];refine⟨fun a1=>nob,fun a1=>?_⟩;refine q0t (fun y:Nat×Int=>⟨[(0,.d (.list (q4r l))),(3,.d (.int .i64 y.2)),(4,.d (.int .i64 y.1))],[],[]⟩)
  (fun y=>y.1≤l.length∧0≤y.2∧y.2≤20000∧∀o∈l.take y.1,o.data.length≤20000∧awV o.v≤20000) (fun y=>l.length-y.1) (0,0) ?_ ⟨Zbb _,by simp,by simp,by simp⟩ ?_
 ·refine Weak.mk ?_ ?_ ?_<;>simp only[go_sem,↓reduceIte,Sub,Zab,Zad]
 ·rintro⟨i,m⟩ ⟨g1,g2,g3,g4⟩;simp only at g1 g2 g3 g4;simp only[go_sem,↓reduceIte,hlen];refine⟨fun q1=>?_,fun q1=>?_⟩
  ·obtain⟨o,hoi⟩:=get_some (l:=l) (i:=i) (by omega);obtain⟨p1,p2,p3⟩:=ho o (Zae hoi);have hg:getI (q4r l) (i:Int)=some o.d:=by rw[q0g,q4r,Zam,hoi];rfl
   rw[ObV.d]at hg;have hw:=z7y _ o.v 20000 (Zai _) p1;rw[Val.d_eq o.v]at hw;obtain⟨w1,w2,w3⟩:=j5U 20000 o.v (by omega);simp(disch:=omega)only[go_sem,↓reduceIte,hg];refine q1G.of hw ?_;simp(disch:=omega)only[go_sem,↓reduceIte];refine⟨fun q2=>nob,fun q2=>⟨(i+1,m+o.data.length+wtV 20000 o.v),?_,⟨by simp only;omega,by simp only;omega,by simp only;omega,fun x hx=>?_⟩,by simp only;omega⟩⟩
   ·refine Weak.mk ?_ ?_ ?_<;>simp only[go_sem,↓reduceIte,Sub,Zab,Zad]
   ·rw[Zch,hoi]at hx;rcases Zau.1 hx with hx|hx
    ·exact g4 x hx
    ·have:x=o:=by simpa using hx
     subst this;have:=w3 (by omega);exact⟨by omega,by omega⟩
  ·rw[Zbw (by omega)]at g4;exact⟨true,rfl,fun _=>⟨by omega,g4⟩⟩
/-! ### A dictionary's entry that is told -/
theorem z7T{nm:List UInt8}{x:Val}:∀{l:List Fld},(l.Pairwise fun a b=>Op.bytesLess a.name b.name=true)→Fld.mk nm x∈l→getV nm l=some x
 |[],_,h=>by cases h
 |y::r,hp,h=>by
  obtain⟨h1,h2⟩:=Zcv.1 hp;rw[getV];rcases Zar.1 h with h|h
  ·subst h;rw[if_pos (show(Fld.mk nm x).name=nm from rfl)];rfl
  ·have h3:=j1h (h1 _ h);rw[if_neg (show ¬y.name=nm from h3)];exact z7T h2 h
theorem j5k{o:ObV}(hok:o.ok)(hst:o.st=true):getV lenN o.val.f=some (lenV o.data.length):=by
 have hf:=hok.2.2.1;rw[q8K]at hf;have hw:=hf.2;have hval:o.val=z0w lenN (lenV o.data.length) o.v:=by rw[ObV.val,if_pos hst]
 have hk:o.val.kind=6:=by rw[hval];exact(hok.2.2.2.1 hst).1
 rw[q2P,hk]at hw;simp at hw;refine z7T (z4z hw.2.2.2).2 ?_;rw[hval];exact j19 _ _ _
/-! ### Places -/
theorem j1q{n:Nat}:∀{a b:List (Nat×Nat)},n∉a.map Prod.fst→lkN (a++b) n=lkN b n
 |[],b,_=>rfl
 |p::r,b,h=>by
  rw[Zbe,Zar,not_or]at h;rw[Zbd,lkN,if_neg h.1,j1q h.2]
theorem j1r{ps:List (Nat×Nat)}{n v:Nat}(hv:lkN ps n=some v):∀{K:List Nat},n∈K→lkN (entN ps K) n=some v
 |[],h=>by cases h
 |m::K,h=>by
  have hc:entN ps (m::K)=(m,(lkN ps m).getD 0)::entN ps K:=rfl;rw[hc,lkN]
  by_cases e:n=m
  ·subst e;rw[if_pos rfl,hv];rfl
  ·rw[if_neg e];exact j1r hv ((Zar.1 h).resolve_left e)
theorem j5j{l:List ObV}{tl:Val}(h:q6i hdrT l tl):
  At (layT hdrT l tl) (hdrT++q1Y l).length (xrT++(secT (entT (plcs 9 l)) (srtN ((plcs 9 l).map Prod.fst))++(trwT++([10]++(q0F tl++10::(sxT++([10]++(Lib.decDigits (hdrT++q1Y l).length++eofT))))))))∧
  At (layT hdrT l tl) ((hdrT++q1Y l).length+(tabT (plcs 9 l)++trlT++q0F tl++[10]).length) (sxT++([10]++(Lib.decDigits (hdrT++q1Y l).length++eofT))):=by
 constructor
 ·refine⟨hdrT++q1Y l,?_,rfl⟩;have e:tabT (plcs hdrT.length l)=xrT++secT (entT (plcs 9 l)) (srtN ((plcs 9 l).map Prod.fst)):=rfl;rw[layT,e];have e2:trlT=trwT++[10]:=rfl;rw[e2];simp only[List.append_assoc,Zbd,Zaw]
 ·refine⟨hdrT++q1Y l++(tabT (plcs 9 l)++trlT++q0F tl++[10]),?_,by rw[Zac]⟩;have e:plcs hdrT.length l=plcs 9 l:=rfl;rw[layT,e];simp only[List.append_assoc]
theorem j3m{l:List ObV}{tl:Val}(h:q6i hdrT l tl){i:Nat}{o:ObV}(ho:l[i]?=some o):
  ∃k z,lkN (plcs 9 l) o.n.toNat=some k∧At (layT hdrT l tl) k (q5F o++z):=by
 obtain⟨h1,h2,h3,h4,h5⟩:=h;have hi:=(Zaa.1 ho).1;have hsp:l=l.take i++(o::l.drop (i+1)):=by rw[←q3Y ho,List.take_append_drop]
 refine⟨9+(q1Y (l.take i)).length,q1Y (l.drop (i+1))++(tabT (plcs hdrT.length l)++trlT++q0F tl++([10]++sxT++[10])++Lib.decDigits (hdrT++q1Y l).length++eofT),?_,hdrT++q1Y (l.take i),?_,by rw[Zac];rfl⟩
 ·have hp:plcs 9 l=plcs 9 (l.take i)++plcs (9+(q1Y (l.take i)).length) (o::l.drop (i+1)):=by rw[←z4a,←hsp]
  rw[hp,j1q,plcs,lkN,if_pos rfl];intro hm;rw[q3o]at hm;have hnd:=z0G h2 h3;rw[hsp,List.map_append,Zbe,List.nodup_append]at hnd;exact hnd.2.2 _ hm _ (by simp) rfl
 ·have hb:q1Y l=q1Y (l.take i)++(q5F o++q1Y (l.drop (i+1))):=by
   conv=>lhs;rw[hsp]
   simp[q1Y]
  rw[layT];generalize tabT (plcs hdrT.length l)++trlT++q0F tl++([10]++sxT++[10])++Lib.decDigits (hdrT++q1Y l).length++eofT=X;rw[hb];simp only[List.append_assoc]
def filQ(l:List ObV):List (Nat×Nat):=entN (plcs 9 l) (srtN ((plcs 9 l).map Prod.fst))
theorem z3H(l:List ObV):(filQ l).map Prod.fst=srtN ((plcs 9 l).map Prod.fst):=z3C _ _
theorem z0A(l:List ObV):(filQ l).length=l.length:=by
 have:=congrArg List.length (z3H l);rw[q10,Zbi,Zbi,z0H]at this;exact this
theorem j2s(k:Nat)(z:List UInt8):q9a (10::(sxT++([10]++(Lib.decDigits k++z)))):=by
 refine j2f (c:=115) (t:=[116,97,114,116,120,114,101,102]++([10]++(Lib.decDigits k++z))) rfl ⟨by decide,by decide⟩ ?_;have e:sxT++([10]++(Lib.decDigits k++z))=115::([116,97,114,116,120,114,101,102]++([10]++(Lib.decDigits k++z))):=rfl;rw[e,q1F,if_pos (by decide)];simp
theorem z5l{l:List ObV}{n:Int}(h:q6i hdrT l (q2E n)):
  q0y Tryz.prog 8 [.str (layT hdrT l (q2E n))] (fun x=>x=.tup [filD (layT hdrT l (q2E n)) (filQ l) (q2E n),.nil]):=by
 obtain⟨a1,a2⟩:=j5j h;obtain⟨h1,h2,h3,h4,h5⟩:=h;have hnd:((plcs 9 l).map Prod.fst).Nodup:=by rw[q3o];exact z0G h2 h3
 have hle:=a1.le;have hlen:(hdrT++q1Y l).length=9+(q1Y l).length:=by rw[Zac];rfl
 refine z89 (c:=10) (r:=sxT++([10]++(Lib.decDigits (hdrT++q1Y l).length++eofT))) ?_ a2 (Or.inl (by decide)) ?_ a1 h5 (z13 hnd) (fun m hm=>?_) ?_ h4 rfl (Or.inl (by decide)) (j2s _ _) (by simp[q2E,Val.f]) rfl
 ·have e:layT hdrT l (q2E n)=[37,80,68,70,45]++([49,46,52,10]++(q1Y l++(tabT (plcs hdrT.length l)++trlT++q0F (q2E n)++([10]++sxT++[10])++Lib.decDigits (hdrT++q1Y l).length++eofT))):=by
   rw[layT,hdrT];simp
  rw[e,q5c];simp
 ·intro c hc;revert hc;revert c;decide
 ·have hm1:=(q3q _).subset hm;rw[q3o]at hm1;obtain⟨o,ho,rfl⟩:=Zaq.1 hm1;have hok:=h2 o ho;obtain⟨w,hw⟩:=q8T (n:=o.n.toNat) (ps:=plcs 9 l) (by rw[q3o];exact Zaq.2 ⟨o,ho,rfl⟩);obtain⟨_,_,hw2⟩:=q8X (z1D hw);have:=hok.1;have:=hok.2.1;exact⟨by omega,by omega,w,hw,by simp only at hw2;omega⟩
 ·rw[q10,Zbi,z0H];exact h1
theorem z5k{l:List ObV}{n:Int}(h:q6i hdrT l (q2E n))(hl:∀o∈l,o.lt){i:Nat}{o:ObV}(ho:l[i]?=some o):
  ∃k z,lkN (filQ l) o.n.toNat=some k∧At (layT hdrT l (q2E n)) k (q5F o++z):=by
 obtain⟨k,z,h1,h2⟩:=j3m h ho;refine⟨k,z,j1r h1 ?_,h2⟩;refine(q3q _).symm.subset ?_;rw[q3o];exact Zaq.2 ⟨o,Zae ho,rfl⟩
theorem j1d(n:Int):getV rotN (q2E n).f=some (.mk 7 n [] [] []):=by
 simp only[q2E,Val.f,getV,Fld.name,Fld.v,if_true]
/-! ### An object stands in a file -/
def flgV:Val:=.mk 1 0 [] [] []
def flgO:ObV:=⟨2,flgV,false,[]⟩
theorem j3b:q6i hdrT [flgO] (q2E 2):=by
 have hok:flgO.ok:=⟨by decide,by decide,by kernel_rfl,fun h=>(by cases h),fun _=>rfl⟩;have hft:q2t (q2E 2)=0:=by kernel_rfl
 refine⟨by simp,fun o ho=>by rw[Zbc.1 ho];exact hok,by simp,hft,?_⟩;have hpl:(plcs hdrT.length [flgO]).length=1:=z0H _ _;have hb:(q5F flgO).length≤40:=by
  have h1:=q2S (n:=flgO.n.toNat) (by decide);have h2:(q0F flgO.val).length≤5:=by
   have e:flgO.val=.mk 1 0 [] [] []:=rfl;rw[e];simp[q0F]
  have e:(if flgO.st=true then strT++flgO.data++estT else[])=[]:=rfl;rw[q5F,e];simp only[Zac,Zaf,Zag,eobT];omega
 have hbs:q1Y [flgO]=q5F flgO:=by simp[q1Y]
 have htab:=z8J (ps:=plcs hdrT.length [flgO]) (by omega) (fun p hp=>by
  obtain⟨⟨o,q1,q2⟩,q3,q4⟩:=q8X hp;rw[hbs]at q4;rw[Zbc.1 q1]at q2;have e:flgO.n.toNat=2:=rfl;have e2:hdrT.length=9:=rfl;exact⟨by omega,by omega⟩)
 have htx:(q0F (q2E 2)).length≤6000:=by
  rw[q8K]at hft;have h1:=q65 (q2E 2) hft.2;have h2:(ptV (q2E 2)).1≤3:=by decide
  omega
 have hd:=q2S (n:=(hdrT++q1Y [flgO]).length) (by rw[hbs,Zac];have e2:hdrT.length=9:=rfl;omega);rw[layT,hbs]at *;simp only[Zac,Zaf,Zag,hdrT,trlT,sxT,eofT]at *;omega
def q3c:q0m:=
 .seq (.reg [Qx 0 KF]) (.seq (.reg [Q 6 (.bld [(0,1),(1,1),(2,1),(3,1),(4,1)] [.int .i64 0,.int .i64 0,.str [],.list [],.list []] [false,false,false,true,true] [(0, 
 .k (.d (.int .i64 1)))]),Q 7 (.bld [(0,1),(1,5),(6,1),(7,1)] [.int .i64 0,.int .i64 0,.int .i64 0,.str [],.list [],.list [],.bool false,.str []] [] [(0,.k (.d 
 (.int .i64 2))),(1,.t 6)]),⟨some 8,.bsl 42 8 [.t 7],none⟩,⟨some 9,.call 7 [.t 8,.k (.d (.int .i64 2))],none⟩,Qc 5 9,Q 10 (.ext 0 (.t 5)),Q 11 (.ext 1 (.t 5)),Qa 1 
 10,Qa 2 11]) (.seq (.seq (.reg [Qc 12 2,Q 13 (.eqN 0 true (.t 12))]) (.cond (.t 13) (.seq (.reg [Qx 0 KF]) .ret) .skip)) (.seq (.reg [Qc 15 1,⟨some 16,.call 8 [.t 15],none⟩, 
 Qc 14 16,Q 17 (.ext 0 (.t 14)),Q 18 (.ext 1 (.t 14)),Qa 3 17,Qa 2 18]) (.seq (.seq (.reg [Qc 19 2,Q 20 (.eqN 0 true (.t 19)),Qc 21 20,Qd 22 3 21 false,Qg 23 (.eqN 1 false 
 (.t 22)) 21 false,Q 24 (.pick (.t 21) KT (.t 23))]) (.cond (.t 24) (.seq (.reg [Qx 0 KF]) .ret) .skip)) (.seq (.reg [Qc 26 3,⟨some 27,.prim .call [.k (.fn (.func 13) [] []), 
 .t 26,.k (.d (.int .i64 2))] [],none⟩,Qc 25 27,Q 28 (.ext 0 (.t 25)),Q 29 (.ext 1 (.t 25)),⟨some 4,.allo [.int .i64 0,.int .i64 0,.int .i64 0,.str [],.list [],.list 
 [],.bool false,.str []],none⟩,⟨none,.st 8 (.t 4) (.t 28),none⟩,Qa 2 29]) (.seq (.reg [Qc 30 2,Q 31 (.eqN 0 false (.t 30)),Qc 32 31,Qg 33 (.fa 1 (.t 4)) 32 true,Qg 34 
 (.fa 0 (.t 33)) 32 true,Qg 35 (.ld false 1 (.t 34)) 32 true,Qg 36 (.bin .eql (.t 35) (Ki 1)) 32 true,Q 37 (.pick (.t 32) (.t 36) KF),Qc 38 37,Qd 39 3 38 true,⟨some 40, 
 .prim .call [.k (.fn (.func 9) [] []),.t 39] [],some (38,true)⟩,Qg 41 (.len false (.t 40)) 38 true,Qg 42 (.bin .eql (.t 41) (Ki 1)) 38 true,Q 43 (.pick (.t 38) (.t 42) KF), 
 Qa 0 43]) .ret))))))
def q3g:List LRes:=[.tmp 0]
theorem q41:q0E Tryz.prog 5 44 q3c q3g:=⟨_,_,Tryz.func5,rfl,by kernel_rfl,by kernel_rfl,rfl⟩
theorem z7q:q0y Tryz.prog 5 [] (fun r=>r=.one (.bool true)):=by
 have hlt:∀o∈[flgO],o.lt:=fun o ho=>by rw[Zbc.1 ho];exact⟨by decide,by decide,⟨by decide,by decide⟩⟩
 have hb:=z2I [flgO] 2 hlt;have hlaid:=j3b;have hr:=z5l hlaid;obtain⟨k,z,p1,p2⟩:=z5k hlaid hlt (i:=0) (o:=flgO) rfl;have hg:=z7U (tv:=q2E 2) p1 p2 (hlaid.2.1 flgO (by simp)) hlaid.2.2.2.2 (by simp[ObV.val,flgO,flgV,Val.f]) (fun h=>by cases h);have hn:=z0h (layT hdrT [flgO] (q2E 2)) (filQ [flgO]) (q2E 2) (by rw[z3H];exact(q3q _).nodup_iff.2 (by rw[q3o];simp)) (by rw[z0A];simp)
 have hnl:(nsD (srtN ((filQ [flgO]).map Prod.fst))).length=1:=by rw[z1J,q10,Zbi,z0A];rfl
 generalize layT hdrT [flgO] (q2E 2)=T at *;generalize filQ [flgO]=q at *;refine q41.call rfl ?_;simp only[go_sem,↓reduceIte,q3c,q3g];refine q0k.post hb (fun r hr2=>?_);rcases hr2 with⟨_,hno⟩|⟨_,rfl⟩
 ·exact absurd ⟨by decide,by decide,hlaid⟩ hno
 simp only[go_sem,↓reduceIte];simp only[filD,ObV.d]at hr hg hn;refine q0k.of hr ?_;simp only[go_sem,↓reduceIte];refine q0b.q0G ([]) ([]) rfl (hg.q4P (by kernel_rfl)) rfl rfl (by simp only[q1c,St.obj,aget,AObj.ren,AV.ren,AV.ren1,renL,q2G,renR,renQ,Zay,Zaz,and_true,and_self,Nat.reduceEqDiff,↓reduceIte,reduceCtorEq]) rfl rfl rfl ⟨rfl,rfl⟩ ?_;have hk:((⟨2,flgV,false,[]⟩:ObV).val.kind=1)=True:=eq_true (by rfl);simp only[go_sem,↓reduceIte,flgO,hk]
 refine q0b.q0G ([]) ([]) rfl (hn.q4P (by kernel_rfl)) rfl rfl (by simp only[q1c,St.obj,aget,AObj.ren,AV.ren,AV.ren1,renL,q2G,renR,renQ,Zay,Zaz,and_true,and_self,Nat.reduceEqDiff,↓reduceIte,reduceCtorEq]) rfl rfl rfl ⟨rfl,rfl⟩ ?_;simp only[go_sem,↓reduceIte,hnl]
def q21:q0m:=
 .seq (.reg [Qx 4 KF]) (.seq (.reg [⟨some 12,.call 5 [],none⟩,Qa 5 12]) (.seq (.seq (.reg [Qc 13 5,Q 14 (.not (.t 13))]) (.cond (.t 14) (.seq (.reg [Qx 4 KF]) .ret) .skip)) 
 (.seq (.seq (.reg [Qc 15 0,⟨some 16,.call 6 [.t 15],none⟩,Q 17 (.not (.t 16))]) (.cond (.t 17) (.seq (.reg [Qx 4 KT]) .ret) .skip)) (.seq (.reg [Qc 19 0,Qc 20 1,⟨some 21, 
 .call 7 [.t 19,.t 20],none⟩,Qc 18 21,Q 22 (.ext 0 (.t 18)),Q 23 (.ext 1 (.t 18)),Qa 6 22,Qa 7 23]) (.seq (.seq (.reg [Qc 24 7,Q 25 (.eqN 0 true (.t 24))]) (.cond (.t 25) 
 (.seq (.reg [Qc 26 6,Q 27 (.bin .eql (.t 26) (.k (.d (.str [])))),Qa 4 27]) .ret) .skip)) (.seq (.reg [Qc 29 6,⟨some 30,.call 8 [.t 29],none⟩,Qc 28 30,Q 31 (.ext 0 (.t 
 28)),Q 32 (.ext 1 (.t 28)),Qa 8 31,Qa 7 32]) (.seq (.seq (.reg [Qc 33 7,Q 34 (.eqN 0 true (.t 33)),Qc 35 34,Qd 36 8 35 false,Qg 37 (.eqN 1 false (.t 36)) 35 false,Q 38 
 (.pick (.t 35) KT (.t 37)),Qc 39 38,Qd 40 8 39 false,⟨some 41,.prim .call [.k (.fn (.func 9) [] []),.t 40] [],some (39,false)⟩,Qg 42 (.len false (.t 41)) 39 false,Qd 43 
 0 39 false,Qg 44 (.len false (.t 43)) 39 false,Qg 45 (.bin .neq (.t 42) (.t 44)) 39 false,Q 46 (.pick (.t 39) KT (.t 45))]) (.cond (.t 46) (.seq (.reg [Qx 4 KF]) .ret) .skip)) 
 (.seq (.reg [Qc 48 8,⟨some 49,.prim .call [.k (.fn (.func 10) [] []),.t 48] [],none⟩,Qc 47 49,Q 50 (.ext 0 (.t 47)),Q 51 (.ext 1 (.t 47)),Qa 9 50,Qa 7 51]) (.seq (.seq 
 (.reg [Qc 52 7,Q 53 (.eqN 0 true (.t 52)),Qc 54 53,Qd 55 9 54 false,Qd 56 1 54 false,Qg 57 (.bin .neq (.t 55) (.t 56)) 54 false,Q 58 (.pick (.t 54) KT (.t 57))]) (.cond (.t 
 58) (.seq (.reg [Qx 4 KF]) .ret) .skip)) (.seq (.seq (.reg [Qx 10 (Ki 0)]) (.block 0 (.loop (.seq (.seq (.reg [Qc 59 10,Qc 60 0,Q 61 (.len false (.t 60)),Q 62 (.bin .lss (.t 
 59) (.t 61))]) (.cond (.t 62) .skip (.exit 0))) (.seq (.block 1 (.seq (.reg [Qc 65 8,Qc 66 0,Qc 67 10,Q 68 (.ia 8 (.t 66) (.t 67)),Q 69 (.ld true 8 (.t 68)),⟨some 70,.prim 
 .call [.k (.fn (.func 11) [] []),.t 65,.t 69] [],none⟩,Qa 11 70]) (.seq (.reg [Qc 71 11,Q 72 (.not (.t 71))]) (.cond (.t 72) (.seq (.reg [Qx 4 KF]) .ret) .skip)))) (.reg [Qc 
 63 10,Q 64 (.bin .add (.t 63) (Ki 1)),Qa 10 64])))))) (.seq (.reg [Qx 4 KT]) .ret)))))))))))
def q22:List LRes:=[.tmp 4]
theorem q4M:q0E Tryz.prog 3 73 q21 q22:=⟨_,_,Tryz.func3,rfl,by kernel_rfl,by kernel_rfl,rfl⟩
theorem z6k(l:List ObV)(n:Int)(hl:l.length≤1048576)(ho:∀o∈l,o.v.sm 1048576=true∧awV o.v≤1048576∧o.data.length≤1048576∧i64 o.n):
  q0y Tryz.prog 3 [.list (q4r l),.int .i64 n] (fun r=>r=.one (.bool true)):=by
 have hlen:(q4r l).length=l.length:=Zbi ..;have hli:=z2q l hl fun o h=>⟨(ho o h).1,(ho o h).2.1,(ho o h).2.2.1⟩
 refine q4M.call rfl ?_;simp only[go_sem,↓reduceIte,q21,q22];refine q0k.of z7q ?_;simp only[go_sem,↓reduceIte];refine q0k.post hli (fun r hr=>?_);obtain⟨b,rfl,hb⟩:=hr;cases b with
 |false=>simp only[go_sem,↓reduceIte]
 |true=>
  obtain⟨hl70,hb⟩:=hb rfl;have hlt:∀o∈l,o.lt:=fun o h=>⟨(hb o h).2,by have:=(hb o h).1;omega,(ho o h).2.2.2⟩
  simp only[go_sem,↓reduceIte];refine q0k.post (z2I l n hlt) (fun r hr=>?_);rcases hr with⟨⟨e,he,rfl⟩,_⟩|⟨⟨n1,n60,hlaid⟩,rfl⟩
  ·rw[q2T he];simp only[go_sem,↓reduceIte]
  ·have hrd:=z5l hlaid;have hnd:((plcs 9 l).map Prod.fst).Nodup:=by rw[q3o];exact z0G hlaid.2.1 hlaid.2.2.1
   have hnum:=z0h (layT hdrT l (q2E n)) (filQ l) (q2E n) (by rw[z3H];exact(q3q _).nodup_iff.2 hnd) (by rw[z0A];omega);have hnl:(nsD (srtN ((filQ l).map Prod.fst))).length=l.length:=by rw[z1J,q10,Zbi,z0A]
   have hroot:=j1Z (layT hdrT l (q2E n)) (filQ l) (q2E n) n (by simp[q2E,Val.f]) (j1d n);have hheld:∀(i:Nat) (o:ObV),l[i]?=some o→q0y Tryz.prog 11 [filD (layT hdrT l (q2E n)) (filQ l) (q2E n),o.d] (fun r=>r=.one (.bool true)):=fun i o hi=>by
    obtain⟨k,z,p1,p2⟩:=z5k hlaid hlt hi;have hm:=Zae hi;exact j07 p1 p2 (hlaid.2.1 o hm) hlaid.2.2.2.2 (hlt o hm) (fun h=>j5k (hlaid.2.1 o hm) h)
   generalize layT hdrT l (q2E n)=T at *;generalize filQ l=q at *;simp only[go_sem,↓reduceIte];simp only[filD]at hrd hnum hroot hheld;refine q0k.of hrd ?_;simp only[go_sem,↓reduceIte];refine q0b.q0G ([]) ([]) rfl (hnum.q4P (by kernel_rfl)) rfl rfl (by simp only[q1c,St.obj,aget,AObj.ren,AV.ren,AV.ren1,renL,q2G,renR,renQ,Zay,Zaz,and_true,and_self,Nat.reduceEqDiff,↓reduceIte,reduceCtorEq]) rfl rfl rfl ⟨rfl,rfl⟩ ?_;simp only[go_sem,↓reduceIte,hnl,hlen]
   refine q0b.q0G ([]) ([]) rfl (hroot.q4P (by kernel_rfl)) rfl rfl (by simp only[q1c,St.obj,aget,AObj.ren,AV.ren,AV.ren1,renL,q2G,renR,renQ,Zay,Zaz,and_true,and_self,Nat.reduceEqDiff,↓reduceIte,reduceCtorEq]) rfl rfl rfl ⟨rfl,rfl⟩ ?_;simp only[go_sem,↓reduceIte];refine q0t (fun i:Nat=>⟨[(0,.d (.list (q4r l))),(8,.d (filD T q (q2E n))),(10,.d (.int .i64 i))],[],[]⟩) (fun i=>i≤l.length) (fun i=>l.length-i) 0 ?_ (Zbb _) ?_
   ·refine Weak.mk ?_ ?_ ?_<;>simp only[go_sem,↓reduceIte,Sub,Zab,Zad,filD]
   ·intro i hi;simp only[go_sem,↓reduceIte,hlen,filD];intro q1;obtain⟨o,hoi⟩:=get_some (l:=l) (i:=i) (by omega);have hg:getI (q4r l) (i:Int)=some o.d:=by rw[q0g,q4r,Zam,hoi];rfl
    have hh:=hheld i o hoi;rw[ObV.d]at hg hh;simp(disch:=omega)only[go_sem,↓reduceIte,hg];refine q0b.q0G ([]) ([]) rfl (hh.q4P (by kernel_rfl)) rfl rfl (by simp only[q1c,St.obj,aget,AObj.ren,AV.ren,AV.ren1,renL,q2G,renR,renQ,Zay,Zaz,and_true,and_self,Nat.reduceEqDiff,↓reduceIte,reduceCtorEq]) rfl rfl rfl ⟨rfl,rfl⟩ ?_;simp(disch:=omega)only[go_sem,↓reduceIte];refine⟨i+1,?_,by omega,by omega⟩;refine Weak.mk ?_ ?_ ?_<;>simp only[go_sem,↓reduceIte,Sub,Zab,Zad,filD]
theorem j54:Tryz.prog.cellsOf 3=1:=by kernel_rfl
theorem j4s:Tryz.prog.cellsOf 9=1:=by kernel_rfl
theorem j58:Tryz.prog.cellsOf 37=1:=by kernel_rfl
theorem j56:Tryz.prog.cellsOf 38=1:=by kernel_rfl
theorem j4t:Tryz.prog.cellsOf 40=5:=by kernel_rfl
theorem z4R:Tryz.prog.cellsOf 51=6:=by kernel_rfl
theorem j5n(v:Val):mkD v.d.cells=v.d:=by rw[Val.d_eq];rfl
theorem j5m(x:Fld):mkD x.d.cells=x.d:=by rw[Fld.d_eq];rfl
set_option maxRecDepth 100000 in
theorem j6R:∀k:Nat,(∀ds,OfT Tryz.prog k 40 ds→∃v:Val,ds=v.d.cells)∧(∀ds,OfT Tryz.prog k 51 ds→∃x:Fld,ds=x.d.cells):=by
 intro k;induction k using Nat.strongRecOn with
 |_ k ih=>
  cases k with
  |zero=>exact⟨fun _ h=>h.elim,fun _ h=>h.elim⟩
  |succ k=>
   refine⟨fun ds h=>?_,fun ds h=>?_⟩
   ·unfold OfT at h;rw[Tryz.underlying40]at h;obtain⟨h1,h2⟩:=h;rw[j4t]at h1;match ds,h1 with
    |[a,b,c,d,e],_=>
     have f0:OfT Tryz.prog k 3 (([a,b,c,d,e].drop 0).take (Tryz.prog.cellsOf 3)):=h2 0 _ rfl;have f1:OfT Tryz.prog k 3 (([a,b,c,d,e].drop 1).take (Tryz.prog.cellsOf 3)):=h2 1 _ rfl;have f2:OfT Tryz.prog k 9 (([a,b,c,d,e].drop 2).take (Tryz.prog.cellsOf 9)):=h2 2 _ rfl;have f3:OfT Tryz.prog k 37 (([a,b,c,d,e].drop 3).take (Tryz.prog.cellsOf 37)):=h2 3 _ rfl;have f4:OfT Tryz.prog k 38 (([a,b,c,d,e].drop 4).take (Tryz.prog.cellsOf 38)):=h2 4 _ rfl
     simp only[j54,j4s,j58,j56,Zcl,List.drop_succ_cons,Zce,Zcj]at f0 f1 f2 f3 f4;obtain⟨n0,e0,_⟩:=f0.int Tryz.underlying3;obtain⟨n1,e1,_⟩:=f1.int Tryz.underlying3;obtain⟨s,e2,_⟩:=f2.string Tryz.underlying9;obtain⟨l,m,hm,e3,_,hl⟩:=f3.slice Tryz.underlying37;obtain⟨f,m',hm',e4,_,hf⟩:=f4.slice Tryz.underlying38;obtain⟨ls,rfl⟩:=q9j (g:=Val.d) (l:=l) fun x hx=>by
      obtain⟨cs,q1,q2⟩:=hl x hx;obtain⟨v,rfl⟩:=(ih m (by omega)).1 cs q2;exact⟨v,by rw[q1,j5n]⟩
     obtain⟨fs,rfl⟩:=q9j (g:=Fld.d) (l:=f) fun x hx=>by
      obtain⟨cs,q1,q2⟩:=hf x hx;obtain⟨y,rfl⟩:=(ih m' (by omega)).2 cs q2;exact⟨y,by rw[q1,j5m]⟩
     simp only[Zcx,and_true]at e0 e1 e2 e3 e4;refine⟨.mk n0 n1 s ls fs,?_⟩;rw[mk_d,e0,e1,e2,e3,e4,z0R,q2B];rfl
   ·unfold OfT at h;rw[Tryz.underlying51]at h;obtain⟨h1,h2⟩:=h;rw[z4R]at h1;match ds,h1 with
    |[a,b,c,d,e,f],_=>
     have f0:OfT Tryz.prog k 9 (([a,b,c,d,e,f].drop 0).take (Tryz.prog.cellsOf 9)):=h2 0 _ rfl;have f1:OfT Tryz.prog k 40 (([a,b,c,d,e,f].drop 1).take (Tryz.prog.cellsOf 40)):=h2 1 _ rfl;simp only[j4s,j4t,Zcl,List.drop_succ_cons,Zce,Zcj]at f0 f1;obtain⟨s,e0,_⟩:=f0.string Tryz.underlying9;obtain⟨v,e1⟩:=(ih k (by omega)).1 _ f1;simp only[Zcx,and_true]at e0;refine⟨.mk s v,?_⟩;rw[e0,e1];rfl
theorem wf64{n:Int}(h:(Lit.int .i64 n).wf=true): -9223372036854775808≤n∧n≤9223372036854775807:=by
 have:=wf_i64 h;omega
theorem j4V:Tryz.prog.cellsOf 42=8:=by kernel_rfl
theorem j55:Tryz.prog.cellsOf 4=1:=by kernel_rfl
theorem j4W:Tryz.prog.cellsOf 40=5:=by kernel_rfl
theorem j59:Tryz.prog.cellsOf 9=1:=by kernel_rfl
theorem j57:Tryz.prog.cellsOf 3=1:=by kernel_rfl
set_option maxRecDepth 100000 in
theorem j6q{k:Nat}{ds:List D}(h:OfT Tryz.prog k 42 ds):∃o:ObV,mkD ds=o.d∧i64 o.n:=by
 cases k with
 |zero=>exact h.elim
 |succ k=>
  unfold OfT at h;rw[Tryz.underlying42]at h;obtain⟨h1,h2⟩:=h;rw[j4V]at h1;match ds,h1 with
  |[a,b,c,d,e,f,g,u],_=>
   have f0:OfT Tryz.prog k 3 (([a,b,c,d,e,f,g,u].drop 0).take (Tryz.prog.cellsOf 3)):=h2 0 _ rfl;have f1:OfT Tryz.prog k 40 (([a,b,c,d,e,f,g,u].drop 1).take (Tryz.prog.cellsOf 40)):=h2 1 _ rfl;have f2:OfT Tryz.prog k 4 (([a,b,c,d,e,f,g,u].drop 6).take (Tryz.prog.cellsOf 4)):=h2 2 _ rfl;have f3:OfT Tryz.prog k 9 (([a,b,c,d,e,f,g,u].drop 7).take (Tryz.prog.cellsOf 9)):=h2 3 _ rfl;simp only[j57,j4W,j55,j59,Zcl,List.drop_succ_cons,Zce,Zcj]at f0 f1 f2 f3
   obtain⟨n,e0,hn⟩:=f0.int Tryz.underlying3;obtain⟨v,e1⟩:=(j6R k).1 _ f1;obtain⟨st,e2⟩:=f2.bool Tryz.underlying4;obtain⟨s,e3,_⟩:=f3.string Tryz.underlying9;rw[Val.d_eq v]at e1;simp only[D.cells,Zcx,and_true]at e0 e1 e2 e3;obtain⟨q1,q2,q3,q4,q5⟩:=e1;refine⟨⟨n,v,st,s⟩,?_,?_⟩
   ·rw[e0,q1,q2,q3,q4,q5,e2,e3];rfl
   ·have:=wf64 hn;exact this
theorem j5s{k:Nat}{ds:List D}(h:OfT Tryz.prog k 22 ds):∃l:List ObV,ds=[.list (q4r l)]∧∀o∈l,i64 o.n:=by
 obtain⟨l,m,hm,e1,_,hl⟩:=h.slice Tryz.underlying22;obtain⟨ys,rfl⟩:=q9j (g:=fun y:{ o:ObV // i64 o.n }=>y.1.d) (l:=l) fun x hx=>by
  obtain⟨cs,q1,q2⟩:=hl x hx;obtain⟨o,q3,q4⟩:=j6q q2;exact⟨⟨o,q4⟩,by rw[q1,q3]⟩
 refine⟨ys.map (·.1),by rw[e1];simp[Function.comp_def,q4r],fun o ho=>?_⟩;obtain⟨y,_,rfl⟩:=Zaq.1 ho;exact y.2
mutual
theorem j0d:∀v:Val,awV v≤bkD v.d
 |.mk k n s l f=>by
  have h1:=j0b l;have h2:=j0a f;rw[mk_d];simp only[awV,bkD,bkL];omega
theorem j0b:∀l:List Val,awL l≤bkL (q0u l)
 |[]=>by simp[awL]
 |v::r=>by
  have h1:=j0d v;have h2:=j0b r;simp only[awL,q0u,bkL];omega
theorem j0a:∀l:List Fld,awF l≤bkL (q0j l)
 |[]=>by simp[awF]
 |.mk nm v::r=>by
  have h1:=j0d v;have h2:=j0a r;simp only[awF,q0j,bkL];have:nm.length+bkD v.d≤bkD (Fld.mk nm v).d:=by
   rw[Fld.d_eq,Val.d_eq v];simp only[Fld.name,Fld.v,bkD,bkL,D.cells];omega
  omega
end
theorem j0g{x:D}:∀{l:List D},x∈l→bkD x≤bkL l
 |y::r,h=>by
  simp only[bkL];rcases Zar.1 h with rfl|h
  ·omega
  ·have:=j0g h;omega
theorem j53(o:ObV):bkD o.v.d≤bkD o.d∧o.data.length+1≤bkD o.d:=by
 rw[Val.d_eq o.v];simp only[ObV.d,bkD,bkL];omega
theorem j0f:∀l:List ObV,l.length≤bkL (q4r l)
 |[]=>by simp
 |o::r=>by
  have h1:=j0f r;have h2:=j53 o;have e:bkL (q4r (o::r))=bkD o.d+bkL (q4r r):=by simp only[q4r,Zbe,bkL]
  rw[e];simp only[Zaf];omega
theorem j1G{l:List ObV}(h:bkD (.list (q4r l))≤1048576)(hn:∀o∈l,i64 o.n):l.length≤1048576∧∀o∈l,o.v.sm 1048576=true∧awV o.v≤1048576∧o.data.length≤1048576∧i64 o.n:=by
 simp only[bkD]at h;have hlen:=j0f l;refine⟨by omega,fun o ho=>?_⟩;have h1:=j0g (x:=o.d) (l:=q4r l) (Zcs ho);obtain⟨h2,h3⟩:=j53 o;have h4:=j0d o.v;exact⟨z6s _ _ (by omega),by omega,by omega,hn o ho⟩
end Go.Av.Tryz
