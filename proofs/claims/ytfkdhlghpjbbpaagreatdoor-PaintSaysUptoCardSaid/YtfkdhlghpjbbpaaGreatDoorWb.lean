import Derived.Test.YtfkdhlghpjbbpaaGreatDoorWa
import Derived.Test.YtfkdhlghpjbbpaaGreatDoorAvG
import Derived.Lib.MapLaws
import Derived.Lib.RuneBytes
import Derived.Lib.SpaceUEq
import Derived.Lib.ValidLaws
import Derived.Shelf.Unicode.DecodeLast
import Derived.Shelf.LaysM
set_option linter.unusedSimpArgs false
set_option maxRecDepth 100000
namespace Go.Av.Tryz
open Go.Proofs
mutual
def wtV(most:Int):Val→Int
 |.mk _ _ s l f=>wtF most f (wtL most l (IntKind.i64.wrap (1+(s.length:Int))))
def wtL(most:Int):List Val→Int→Int
 |[],n=>n
 |v::r,n=>if n≤most then wtL most r (IntKind.i64.wrap (n+wtV most v))else n
def wtF(most:Int):List Fld→Int→Int
 |[],n=>n
 |.mk nm v::r,n=>if n≤most then wtF most r (IntKind.i64.wrap (IntKind.i64.wrap (n+(nm.length:Int))+wtV most v))else n
end
theorem j9q(most:Int)(v:Val):wtV most v=wtF most v.f (wtL most v.l (IntKind.i64.wrap (1+(v.s.length:Int)))):=by cases v;simp only[wtV,Val.s,Val.l,Val.f]
theorem z5W(most:Int)(y:Fld)(r:List Fld)(n:Int):wtF most (y::r) n=if n≤most then wtF most r (IntKind.i64.wrap (IntKind.i64.wrap (n+(y.name.length:Int))+wtV most y.v))else n:=by cases y;simp only[wtF,Fld.name,Fld.v]
theorem j5H{most n:Int}(h:¬n≤most):∀l,wtL most l n=n
 |[]=>by simp only[wtL]
 |v::r=>by simp only[wtL,if_neg h]
theorem z9X{most n:Int}(h:¬n≤most)(l:List Fld):wtF most l n=n:=by
 cases l with
 |nil=>simp only[wtF]
 |cons y r=>rw[z5W,if_neg h]
def q4F:q0m:=
 .seq (.reg [⟨some 2,.box (.t 0),none⟩,Qx 4 (Ki 0)]) (.seq (.reg [Q 8 (.fa 2 (.t 2)),Q 9 (.ld false 1 (.t 8)),Q 10 (.len true (.t 9)),Q 11 (.bin .add (Ki 1) (.t 10)),Qa 5 
 11]) (.seq (.seq (.reg [Qx 6 (Ki 0)]) (.block 0 (.loop (.seq (.seq (.reg [Qc 12 6,Q 13 (.fa 3 (.t 2)),Q 14 (.ld false 1 (.t 13)),Q 15 (.len false (.t 14)),Q 16 (.bin .lss (.t 
 12) (.t 15)),Qc 17 16,Qd 18 5 17 true,Qd 19 1 17 true,Qg 20 (.bin .leq (.t 18) (.t 19)) 17 true,Q 21 (.pick (.t 17) (.t 20) KF)]) (.cond (.t 21) .skip (.exit 0))) (.seq 
 (.block 1 (.reg [Qc 24 5,Q 25 (.fa 3 (.t 2)),Q 26 (.ld false 1 (.t 25)),Qc 27 6,Q 28 (.ia 5 (.t 26) (.t 27)),Q 29 (.ld true 5 (.t 28)),Qc 30 1,⟨some 31,.call 27 [.t 29, 
 .t 30],none⟩,Q 32 (.bin .add (.t 24) (.t 31)),Qa 5 32])) (.reg [Qc 22 6,Q 23 (.bin .add (.t 22) (Ki 1)),Qa 6 23])))))) (.seq (.seq (.reg [Qx 7 (Ki 0)]) (.block 2 (.loop 
 (.seq (.seq (.reg [Qc 33 7,Q 34 (.fa 4 (.t 2)),Q 35 (.ld false 1 (.t 34)),Q 36 (.len false (.t 35)),Q 37 (.bin .lss (.t 33) (.t 36)),Qc 38 37,Qd 39 5 38 true,Qd 40 1 38 
 true,Qg 41 (.bin .leq (.t 39) (.t 40)) 38 true,Q 42 (.pick (.t 38) (.t 41) KF)]) (.cond (.t 42) .skip (.exit 2))) (.seq (.block 3 (.dreg [Qc 45 5,Q 46 (.fa 4 (.t 2)),Q 47 
 (.ld false 1 (.t 46)),Qc 48 7,Q 49 (.ia 6 (.t 47) (.t 48)),Q 50 (.fa 0 (.t 49)),Q 51 (.ld false 1 (.t 50)),Q 52 (.len true (.t 51)),Q 53 (.bin .add (.t 45) (.t 52)),Q 54 
 (.fa 4 (.t 2)),Q 55 (.ld false 1 (.t 54)),Qc 56 7,Q 57 (.ia 6 (.t 55) (.t 56)),Q 58 (.fa 1 (.t 57)),Q 59 (.ld true 5 (.t 58)),Qc 60 1,⟨some 61,.call 27 [.t 59,.t 60], 
 none⟩,Q 62 (.bin .add (.t 53) (.t 61)),Qa 5 62])) (.reg [Qc 43 7,Q 44 (.bin .add (.t 43) (Ki 1)),Qa 7 44])))))) (.seq (.reg [Qc 63 5,Qa 4 63]) .ret))))
def q4J:List LRes:=[.tmp 4]
theorem q6R:q0t Tryz.prog 27 64 q4F q4J:=⟨_,_,Tryz.func27,rfl,by kernel_rfl,by kernel_rfl,rfl⟩
theorem z8K:∀(m:Nat) (v:Val) (most:Int),SizeOf.sizeOf v≤m→v.sm 1048576=true→q0y Tryz.prog 27 [v.d,.int .i64 most] (fun r=>r=.one (.int .i64 (wtV most v))):=by
 intro m;induction m with
 |zero=>intro v most h;cases v;simp at h
 |succ m ih=>
  intro v most hv hsm;obtain⟨_,hll,hfl,hsl,hsf⟩:=Val.q6L.1 hsm;have hvl:=q0n v.l;have hfl':=q5L v.f;generalize hR:wtV most v=R;rw[j9q]at hR;rw[Val.d_eq];refine q6R.call rfl ?_;simp only[go_sem,↓reduceIte,q4F,q4J];generalize IntKind.i64.wrap (1+(v.s.length:Int))=n0 at hR ⊢;refine q0j (fun y:Nat×Int=>⟨[(1,.d (.int .i64 most)),(2,.ptr (.l 2) 0),(5,.d (.int .i64 y.2)),(6,.d (.int .i64 y.1))],
    [(2,.cells [.d (.int .i64 v.kind),.d (.int .i64 v.n),.d (.str v.s),.d (.list (q0M v.l)),.d (.list (q3H v.f))])],[]⟩) (fun y=>y.1≤v.l.length∧wtF most v.f (wtL most (v.l.drop y.1) y.2)=R) (fun y=>v.l.length-y.1) (0,n0) ?_ ⟨by simp,hR⟩ ?_
  ·refine Weak.mk ?_ ?_ ?_<;>simp only[go_sem,↓reduceIte,Sub,Int.natCast_add,Int.natCast_mul]
  ·rintro⟨i,n⟩ ⟨hi,hF⟩;simp only at hi hF;simp only[go_sem,↓reduceIte,hvl];refine⟨fun hlt=>⟨fun hle=>?_,fun hgt=>?_⟩,fun hge=>?_⟩
   ·obtain⟨x,hx⟩:=get_some (l:=v.l) (i:=i) (by omega);have hm:=Zaa hx;have hc:=ih x most (by have:=z7h hm;omega) (hsl x hm);rw[Val.d_eq x]at hc;rw[q07 hx,wtL,if_pos hle]at hF;simp(disch:=omega)only[go_sem,↓reduceIte,q0d,q4Z,hx,Val.d_eq];first|refine q0i.of hc ?_|refine q6a.of hc ?_
    simp(disch:=omega)only[go_sem,↓reduceIte];refine⟨(i+1,IntKind.i64.wrap (n+wtV most x)),?_,⟨by simp only;omega,hF⟩,by simp only;omega⟩;refine Weak.mk ?_ ?_ ?_<;>simp only[go_sem,↓reduceIte,Sub,Int.natCast_add,Int.natCast_mul,hvl]
   ·rw[j5H hgt]at hF;refine q0j (fun y:Nat×Int=>⟨[(1,.d (.int .i64 most)),(2,.ptr (.l 2) 0),(5,.d (.int .i64 y.2)),(7,.d (.int .i64 y.1))],
      [(2,.cells [.d (.int .i64 v.kind),.d (.int .i64 v.n),.d (.str v.s),.d (.list (q0M v.l)),.d (.list (q3H v.f))])],[]⟩) (fun y=>y.1≤v.f.length∧wtF most (v.f.drop y.1) y.2=R) (fun y=>v.f.length-y.1) (0,n) ?_ ⟨by simp,hF⟩ ?_
    ·refine Weak.mk ?_ ?_ ?_<;>simp only[go_sem,↓reduceIte,Sub,Int.natCast_add,Int.natCast_mul]
    ·rintro⟨j,n2⟩ ⟨hj,hG⟩;simp only at hj hG;simp only[go_sem,↓reduceIte,hfl'];refine⟨fun hlt2=>⟨fun hle2=>?_,fun hgt2=>?_⟩,fun hge2=>?_⟩
     ·obtain⟨y,hy⟩:=get_some (l:=v.f) (i:=j) (by omega);have hm:=Zaa hy;have hc:=ih y.v most (by have:=z4I hm;omega) (Fld.q6L.1 (hsf y hm)).2;rw[Val.d_eq y.v]at hc;rw[q07 hy,z5W,if_pos hle2]at hG;simp(disch:=omega)only[go_sem,↓reduceIte,q0d,q3c,hy,Fld.d_eq];refine q6a.of hc ?_;simp(disch:=omega)only[go_sem,↓reduceIte,q0d,q3c,hy,Fld.d_eq];refine⟨(j+1,IntKind.i64.wrap (IntKind.i64.wrap (n2+(y.name.length:Int))+wtV most y.v)),?_,⟨by simp only;omega,hG⟩,by simp only;omega⟩
      refine Weak.mk ?_ ?_ ?_<;>simp only[go_sem,↓reduceIte,Sub,Int.natCast_add,Int.natCast_mul]
     ·rw[z9X hgt2]at hG;rw[hG]
     ·rw[Zah (by omega),wtF]at hG;rw[hG]
   ·rw[Zah (by omega),wtL]at hF;refine q0j (fun y:Nat×Int=>⟨[(1,.d (.int .i64 most)),(2,.ptr (.l 2) 0),(5,.d (.int .i64 y.2)),(7,.d (.int .i64 y.1))],
      [(2,.cells [.d (.int .i64 v.kind),.d (.int .i64 v.n),.d (.str v.s),.d (.list (q0M v.l)),.d (.list (q3H v.f))])],[]⟩) (fun y=>y.1≤v.f.length∧wtF most (v.f.drop y.1) y.2=R) (fun y=>v.f.length-y.1) (0,n) ?_ ⟨by simp,hF⟩ ?_
    ·refine Weak.mk ?_ ?_ ?_<;>simp only[go_sem,↓reduceIte,Sub,Int.natCast_add,Int.natCast_mul]
    ·rintro⟨j,n2⟩ ⟨hj,hG⟩;simp only at hj hG;simp only[go_sem,↓reduceIte,hfl'];refine⟨fun hlt2=>⟨fun hle2=>?_,fun hgt2=>?_⟩,fun hge2=>?_⟩
     ·obtain⟨y,hy⟩:=get_some (l:=v.f) (i:=j) (by omega);have hm:=Zaa hy;have hc:=ih y.v most (by have:=z4I hm;omega) (Fld.q6L.1 (hsf y hm)).2;rw[Val.d_eq y.v]at hc;rw[q07 hy,z5W,if_pos hle2]at hG;simp(disch:=omega)only[go_sem,↓reduceIte,q0d,q3c,hy,Fld.d_eq];refine q6a.of hc ?_;simp(disch:=omega)only[go_sem,↓reduceIte,q0d,q3c,hy,Fld.d_eq];refine⟨(j+1,IntKind.i64.wrap (IntKind.i64.wrap (n2+(y.name.length:Int))+wtV most y.v)),?_,⟨by simp only;omega,hG⟩,by simp only;omega⟩
      refine Weak.mk ?_ ?_ ?_<;>simp only[go_sem,↓reduceIte,Sub,Int.natCast_add,Int.natCast_mul]
     ·rw[z9X hgt2]at hG;rw[hG]
     ·rw[Zah (by omega),wtF]at hG;rw[hG]
def ptN:Option (Int×Int)→Res
 |some (x,y)=>.tup [pt x y,I 0]
 |none=>.tup [pt 0 0,I 1]
def matN:Option (Int×Int×Int×Int×Int×Int)→Res
 |some (a,b,c,d,e,f)=>.tup [mat a b c d e f,I 0]
 |none=>.tup [mat 0 0 0 0 0 0,I 1]
def flg(o:Option Int):Int:=if o.isNone=true then 1 else 0
theorem z4o(o:Option Int):0≤flg o∧flg o≤1:=by unfold flg;split<;>omega
theorem z0W(o:Option Int):intN o=.tup [I (o.getD 0),I (flg o)]:=by cases o<;>rfl
def q45:q0m:=
 .seq (.reg [⟨some 2,.box (.t 0),none⟩,⟨some 3,.box (.t 1),none⟩,⟨some 4,.allo [.int .i64 0,.int .i64 0],none⟩,Qx 5 (Ki 0)]) (.seq (.reg [Q 11 (.fa 0 (.t 2)),Q 12 (.ld 
 false 1 (.t 11)),Q 13 (.fa 0 (.t 3)),Q 14 (.ld false 1 (.t 13)),Q 15 (.fa 2 (.t 2)),Q 16 (.ld false 1 (.t 15)),Q 17 (.fa 1 (.t 3)),Q 18 (.ld false 1 (.t 17)),Q 19 (.fa 4 
 (.t 2)),Q 20 (.ld false 1 (.t 19)),⟨some 21,.call 98 [.t 12,.t 14,.t 16,.t 18,.t 20],none⟩,Qc 10 21,Q 22 (.ext 0 (.t 10)),Q 23 (.ext 1 (.t 10)),Qa 6 22,Qa 7 23]) 
 (.seq (.reg [Q 25 (.fa 1 (.t 2)),Q 26 (.ld false 1 (.t 25)),Q 27 (.fa 0 (.t 3)),Q 28 (.ld false 1 (.t 27)),Q 29 (.fa 3 (.t 2)),Q 30 (.ld false 1 (.t 29)),Q 31 (.fa 1 (.t 
 3)),Q 32 (.ld false 1 (.t 31)),Q 33 (.fa 5 (.t 2)),Q 34 (.ld false 1 (.t 33)),⟨some 35,.call 98 [.t 26,.t 28,.t 30,.t 32,.t 34],none⟩,Qc 24 35,Q 36 (.ext 0 (.t 24)), 
 Q 37 (.ext 1 (.t 24)),Qa 8 36,Qa 9 37]) (.seq (.seq (.reg [Qc 38 7,Qc 39 9,Q 40 (.bin .add (.t 38) (.t 39)),Q 41 (.bin .gtr (.t 40) (Ki 0))]) (.cond (.t 41) (.seq (.reg [Q 
 42 (.bld [(0,1),(1,1)] [.int .i64 0,.int .i64 0] [] []),⟨none,.st 2 (.t 4) (.t 42),none⟩,Qx 5 (Ki 1)]) .ret) .skip)) (.seq (.reg [Qc 43 6,Qc 44 8,Q 45 (.bld [(0,1), 
 (1,1)] [.int .i64 0,.int .i64 0] [] [(0,.t 43),(1,.t 44)]),⟨none,.st 2 (.t 4) (.t 45),none⟩,Qx 5 (Ki 0)]) .ret))))
def q5f:List LRes:=[.cell 4 true 2,.tmp 5]
theorem q7h:q0t Tryz.prog 101 46 q45 q5f:=⟨_,_,Tryz.func101,rfl,by kernel_rfl,by kernel_rfl,rfl⟩
theorem z8t{a b c d e f x y:Int}:q0y Tryz.prog 101 [mat a b c d e f,pt x y] (fun r=>r=ptN (z2n a b c d e f x y)):=by
 refine q7h.call rfl ?_;unfold z2n;simp only[go_sem,↓reduceIte,q45,q5f,mat,pt,I];refine q0i.of (q4W _ _ _ _ _) ?_;cases h1:twoF a x c y e with
 |none=>
  simp only[go_sem,↓reduceIte,intN,I];refine q0i.of (q4W _ _ _ _ _) ?_;cases h2:twoF b x d y f with
  |none=>simp(disch:=omega)only[go_sem,↓reduceIte,intN,I,ptN,pt]
  |some v=>simp(disch:=omega)only[go_sem,↓reduceIte,intN,I,ptN,pt]
 |some u=>
  simp only[go_sem,↓reduceIte,intN,I];refine q0i.of (q4W _ _ _ _ _) ?_;cases h2:twoF b x d y f with
  |none=>simp(disch:=omega)only[go_sem,↓reduceIte,intN,I,ptN,pt]
  |some v=>simp(disch:=omega)only[go_sem,↓reduceIte,intN,I,ptN,pt]
def q4G:q0m:=
 .seq (.reg [⟨some 2,.box (.t 0),none⟩,⟨some 3,.box (.t 1),none⟩,⟨some 4,.allo [.int .i64 0,.int .i64 0,.int .i64 0,.int .i64 0,.int .i64 0,.int .i64 0],none⟩,Qx 5 (Ki 
 0)]) (.seq (.dead [18,19,20,21,22,23,24,25,26,27,28,29] (.reg [Q 19 (.fa 0 (.t 2)),Q 20 (.ld false 1 (.t 19)),Q 21 (.fa 0 (.t 3)),Q 22 (.ld false 1 (.t 21)),Q 23 
 (.fa 1 (.t 2)),Q 24 (.ld false 1 (.t 23)),Q 25 (.fa 2 (.t 3)),Q 26 (.ld false 1 (.t 25)),⟨some 27,.call 98 [.t 20,.t 22,.t 24,.t 26,.k (.d (.int .i64 0))],none⟩,Qc 18 
 27,Q 28 (.ext 0 (.t 18)),Q 29 (.ext 1 (.t 18)),Qa 6 28,Qa 7 29])) (.seq (.dead [30,31,32,33,34,35,36,37,38,39,40,41] (.reg [Q 31 (.fa 0 (.t 2)),Q 32 (.ld false 1 
 (.t 31)),Q 33 (.fa 1 (.t 3)),Q 34 (.ld false 1 (.t 33)),Q 35 (.fa 1 (.t 2)),Q 36 (.ld false 1 (.t 35)),Q 37 (.fa 3 (.t 3)),Q 38 (.ld false 1 (.t 37)),⟨some 39,.call 98 
 [.t 32,.t 34,.t 36,.t 38,.k (.d (.int .i64 0))],none⟩,Qc 30 39,Q 40 (.ext 0 (.t 30)),Q 41 (.ext 1 (.t 30)),Qa 8 40,Qa 9 41])) (.seq (.dead [42,43,44,45,46,47,48, 
 49,50,51,52,53] (.reg [Q 43 (.fa 2 (.t 2)),Q 44 (.ld false 1 (.t 43)),Q 45 (.fa 0 (.t 3)),Q 46 (.ld false 1 (.t 45)),Q 47 (.fa 3 (.t 2)),Q 48 (.ld false 1 (.t 47)),Q 49 
 (.fa 2 (.t 3)),Q 50 (.ld false 1 (.t 49)),⟨some 51,.call 98 [.t 44,.t 46,.t 48,.t 50,.k (.d (.int .i64 0))],none⟩,Qc 42 51,Q 52 (.ext 0 (.t 42)),Q 53 (.ext 1 (.t 42)), 
 Qa 10 52,Qa 11 53])) (.seq (.dead [54,55,56,57,58,59,60,61,62,63,64,65] (.reg [Q 55 (.fa 2 (.t 2)),Q 56 (.ld false 1 (.t 55)),Q 57 (.fa 1 (.t 3)),Q 58 (.ld false 1 
 (.t 57)),Q 59 (.fa 3 (.t 2)),Q 60 (.ld false 1 (.t 59)),Q 61 (.fa 3 (.t 3)),Q 62 (.ld false 1 (.t 61)),⟨some 63,.call 98 [.t 56,.t 58,.t 60,.t 62,.k (.d (.int .i64 
 0))],none⟩,Qc 54 63,Q 64 (.ext 0 (.t 54)),Q 65 (.ext 1 (.t 54)),Qa 12 64,Qa 13 65])) (.seq (.dead [66,67,68,69,70,71,72,73,74,75,76,77,78,79] (.reg [Q 67 (.fa 
 4 (.t 2)),Q 68 (.ld false 1 (.t 67)),Q 69 (.fa 0 (.t 3)),Q 70 (.ld false 1 (.t 69)),Q 71 (.fa 5 (.t 2)),Q 72 (.ld false 1 (.t 71)),Q 73 (.fa 2 (.t 3)),Q 74 (.ld false 1 
 (.t 73)),Q 75 (.fa 4 (.t 3)),Q 76 (.ld false 1 (.t 75)),⟨some 77,.call 98 [.t 68,.t 70,.t 72,.t 74,.t 76],none⟩,Qc 66 77,Q 78 (.ext 0 (.t 66)),Q 79 (.ext 1 (.t 66)), 
 Qa 14 78,Qa 15 79])) (.seq (.dead [80,81,82,83,84,85,86,87,88,89,90,91,92,93] (.reg [Q 81 (.fa 4 (.t 2)),Q 82 (.ld false 1 (.t 81)),Q 83 (.fa 1 (.t 3)),Q 84 (.ld 
 false 1 (.t 83)),Q 85 (.fa 5 (.t 2)),Q 86 (.ld false 1 (.t 85)),Q 87 (.fa 3 (.t 3)),Q 88 (.ld false 1 (.t 87)),Q 89 (.fa 5 (.t 3)),Q 90 (.ld false 1 (.t 89)),⟨some 91, 
 .call 98 [.t 82,.t 84,.t 86,.t 88,.t 90],none⟩,Qc 80 91,Q 92 (.ext 0 (.t 80)),Q 93 (.ext 1 (.t 80)),Qa 16 92,Qa 17 93])) (.seq (.seq (.dead [94,95,96,97,98,99, 
 100,101,102,103,104] (.reg [Qc 94 7,Qc 95 9,Q 96 (.bin .add (.t 94) (.t 95)),Qc 97 11,Q 98 (.bin .add (.t 96) (.t 97)),Qc 99 13,Q 100 (.bin .add (.t 98) (.t 99)),Qc 
 101 15,Q 102 (.bin .add (.t 100) (.t 101)),Qc 103 17,Q 104 (.bin .add (.t 102) (.t 103)),Q 105 (.bin .gtr (.t 104) (Ki 0))])) (.cond (.t 105) (.seq (.dead [106] (.reg [Q 106 
 (.bld [(0,1),(1,1),(2,1),(3,1),(4,1),(5,1)] [.int .i64 0,.int .i64 0,.int .i64 0,.int .i64 0,.int .i64 0,.int .i64 0] [] []),⟨none,.st 6 (.t 4) (.t 106),none⟩, 
 Qx 5 (Ki 1)])) .ret) .skip)) (.seq (.dead [107,108,109,110,111,112,113] (.reg [Qc 107 6,Qc 108 8,Qc 109 10,Qc 110 12,Qc 111 14,Qc 112 16,Q 113 (.bld [(0,1),(1,1), 
 (2,1),(3,1),(4,1),(5,1)] [.int .i64 0,.int .i64 0,.int .i64 0,.int .i64 0,.int .i64 0,.int .i64 0] [] [(0,.t 107),(1,.t 108),(2,.t 109),(3,.t 110),(4,.t 
 111),(5,.t 112)]),⟨none,.st 6 (.t 4) (.t 113),none⟩,Qx 5 (Ki 0)])) .ret))))))))
def q4K:List LRes:=[.cell 4 true 6,.tmp 5]
theorem q6T:q0t Tryz.prog 72 114 q4G q4K:=⟨_,_,Tryz.func72,rfl,by kernel_rfl,by kernel_rfl,rfl⟩
theorem z69{a b c d e f p q r s t u:Int}(ht:i64 t)(hu:i64 u):q0y Tryz.prog 72 [mat a b c d e f,mat p q r s t u] (fun x=>x=matN (q8r a b c d e f p q r s t u)):=by
 refine q6T.call rfl ?_;unfold q8r rowF;have w0:IntKind.i64.wrap (0*t)=0:=by rw[Int.zero_mul];rfl
 have w1:IntKind.i64.wrap (0*u)=0:=by rw[Int.zero_mul];rfl
 have w2:IntKind.i64.wrap (1*t)=t:=by rw[Int.one_mul];exact IntWalk.i64_in _ ht
 have w3:IntKind.i64.wrap (1*u)=u:=by rw[Int.one_mul];exact IntWalk.i64_in _ hu
 rw[w0,w1,w2,w3];simp only[go_sem,↓reduceIte,q4G,q4K,mat,pt,I];refine q0i.of (q4W _ _ _ _ _) ?_;generalize twoF a p b r 0=o1;have g1:=z4o o1;simp only[go_sem,↓reduceIte,z0W,I];refine q0i.of (q4W _ _ _ _ _) ?_;generalize twoF a q b s 0=o2;have g2:=z4o o2;simp only[go_sem,↓reduceIte,z0W,I];refine q0i.of (q4W _ _ _ _ _) ?_;generalize twoF c p d r 0=o3;have g3:=z4o o3;simp only[go_sem,↓reduceIte,z0W,I];refine q0i.of (q4W _ _ _ _ _) ?_
 generalize twoF c q d s 0=o4;have g4:=z4o o4;simp only[go_sem,↓reduceIte,z0W,I];refine q0i.of (q4W _ _ _ _ _) ?_;generalize twoF e p f r t=o5;have g5:=z4o o5;simp only[go_sem,↓reduceIte,z0W,I];refine q0i.of (q4W _ _ _ _ _) ?_;generalize twoF e q f s u=o6;have g6:=z4o o6;simp(disch:=omega)only[go_sem,↓reduceIte,z0W,I];clear g1 g2 g3 g4 g5 g6;refine⟨fun q=>?_,fun q=>?_⟩
 ·cases o1<;>cases o2<;>cases o3<;>cases o4<;>cases o5<;>cases o6<;>first|rfl|(simp[flg]at q)
 ·cases o1<;>cases o2<;>cases o3<;>cases o4<;>cases o5<;>cases o6<;>first|rfl|(exfalso;simp[flg]at q)
def boxD(b:Int×Int×Int×Int):D:=.agg [I b.1,I b.2.1,I b.2.2.1,I b.2.2.2]
def ptsD(l:List (Int×Int)):List D:=l.map fun p=>pt p.1 p.2
theorem z3a(l:List (Int×Int)):(ptsD l).length=l.length:=by simp[ptsD]
theorem z11(l:List (Int×Int))(j:Nat):(ptsD l)[j]?=(l[j]?).map fun p=>pt p.1 p.2:=by simp[ptsD]
def minI(a b:Int):Int:=if b<a then b else a
def maxI(a b:Int):Int:=if a<b then b else a
def z5b(b:Int×Int×Int×Int)(p:Int×Int):Int×Int×Int×Int:=(minI b.1 p.1,minI b.2.1 p.2,maxI b.2.2.1 p.1,maxI b.2.2.2 p.2)
def q1O:List (Int×Int)→Int×Int×Int×Int
 |[]=>(0,0,0,0)
 |p::r=>r.foldl z5b (p.1,p.2,p.1,p.2)
def z1e:q0m:=
 .seq (.reg [⟨some 2,.allo [.int .i64 0,.int .i64 0,.int .i64 0,.int .i64 0],none⟩]) (.seq (.reg [⟨some 3,.allo [.int .i64 0,.int .i64 0,.int .i64 0,.int .i64 0],none⟩]) 
 (.seq (.seq (.reg [Qc 6 0,Q 7 (.len false (.t 6)),Q 8 (.cp (Ki 0))]) (.block 0 (.loop (.seq (.reg [Q 9 (.bin .lss (.t 8) (.t 7))]) (.seq (.cond (.t 9) .skip (.exit 0)) (.seq 
 (.block 1 (.seq (.reg [Qc 10 8,Q 11 (.ia 2 (.t 6) (.t 8)),Q 12 (.ld true 2 (.t 11)),⟨some 5,.allo [.int .i64 0,.int .i64 0],none⟩,Qa 4 10,⟨none,.st 2 (.t 5) (.t 12), 
 none⟩]) (.seq (.seq (.reg [Qc 13 4,Q 14 (.bin .eql (.t 13) (Ki 0))]) (.cond (.t 14) (.reg [Q 15 (.fa 0 (.t 5)),Q 16 (.ld false 1 (.t 15)),Q 17 (.fa 1 (.t 5)),Q 18 (.ld false 
 1 (.t 17)),Q 19 (.fa 0 (.t 5)),Q 20 (.ld false 1 (.t 19)),Q 21 (.fa 1 (.t 5)),Q 22 (.ld false 1 (.t 21)),Q 23 (.bld [(0,1),(1,1),(2,1),(3,1)] [.int .i64 0,.int .i64 
 0,.int .i64 0,.int .i64 0] [] [(0,.t 16),(1,.t 18),(2,.t 20),(3,.t 22)]),⟨none,.st 4 (.t 3) (.t 23),none⟩]) .skip)) (.reg [Q 24 (.fa 0 (.t 3)),Q 25 (.ld false 1 (.t 
 24)),Q 26 (.fa 0 (.t 5)),Q 27 (.ld false 1 (.t 26)),Q 28 (.mm false (.t 25) (.t 27)),Q 29 (.fa 1 (.t 3)),Q 30 (.ld false 1 (.t 29)),Q 31 (.fa 1 (.t 5)),Q 32 (.ld false 1 
 (.t 31)),Q 33 (.mm false (.t 30) (.t 32)),Q 34 (.fa 2 (.t 3)),Q 35 (.ld false 1 (.t 34)),Q 36 (.fa 0 (.t 5)),Q 37 (.ld false 1 (.t 36)),Q 38 (.mm true (.t 35) (.t 37)),Q 
 39 (.fa 3 (.t 3)),Q 40 (.ld false 1 (.t 39)),Q 41 (.fa 1 (.t 5)),Q 42 (.ld false 1 (.t 41)),Q 43 (.mm true (.t 40) (.t 42)),Q 44 (.bld [(0,1),(1,1),(2,1),(3,1)] [.int 
 .i64 0,.int .i64 0,.int .i64 0,.int .i64 0] [] [(0,.t 28),(1,.t 33),(2,.t 38),(3,.t 43)]),⟨none,.st 4 (.t 3) (.t 44),none⟩])))) (.reg [Q 45 (.bin .add (.t 8) (Ki 
 1)),Qc 8 45]))))))) (.seq (.reg [Q 46 (.ld true 4 (.t 3)),⟨none,.st 4 (.t 2) (.t 46),none⟩]) .ret)))
def z1m:List LRes:=[.cell 2 true 4]
theorem z2J:q0t Tryz.prog 118 47 z1e z1m:=⟨_,_,Tryz.func118,rfl,by kernel_rfl,by kernel_rfl,rfl⟩
theorem z7s(l:List (Int×Int))(hl:l.length≤100000):q0y Tryz.prog 118 [.list (ptsD l)] (fun r=>r=.one (boxD (q1O l))):=by
 refine z2J.call rfl ?_;have hI:((ptsD l).length:Int)=(l.length:Int):=by rw[z3a]
 simp only[go_sem,↓reduceIte,z1e,z1m,hI];have hstep:∀(i:Nat) (p:Int×Int),0<i→l[i]?=some p→q1O (l.take (i+1))=z5b (q1O (l.take i)) p:=fun i p hi hp=>by
  rw[z3C hp];cases hl2:l.take i with
  |nil=>
   have hlt:i<l.length:=(Zab.1 hp).1;have:=congrArg List.length hl2;rw[Zcb,Zam]at this;omega
  |cons q r=>simp[q1O,List.foldl_append]
 have hfirst:∀p:Int×Int,z5b (p.1,p.2,p.1,p.2) p=(p.1,p.2,p.1,p.2):=fun p=>by simp[z5b,minI,maxI]
 refine q0j (fun i:Nat=>⟨[(0,.d (.list (ptsD l))),(2,.ptr (.l 2) 0),(3,.ptr (.l 3) 0),(6,.d (.list (ptsD l))),(7,.d (.int .i64 l.length)),(8,.d (.int .i64 i))],
   [(2,.cells [.d (I 0),.d (I 0),.d (I 0),.d (I 0)]),(3,.cells [.d (I (q1O (l.take i)).1),.d (I (q1O (l.take i)).2.1),.d (I (q1O (l.take i)).2.2.1),.d (I (q1O (l.take i)).2.2.2)])],[]⟩)
  (fun i=>i≤l.length) (fun i=>l.length-i) 0 ?_ ?_ ?_
 ·refine Weak.mk ?_ ?_ ?_<;>simp only[go_sem,↓reduceIte,Sub,Int.natCast_add,Int.natCast_mul,I,q1O]
 ·omega
 ·intro i hi;simp only[go_sem,↓reduceIte,I];refine⟨fun q1=>?_,fun q1=>?_⟩
  ·obtain⟨p,hp⟩:=get_some (l:=l) (i:=i) (by omega)
   by_cases hz:i=0
   ·subst hz;have h1:q1O (l.take (0+1))=z5b (p.1,p.2,p.1,p.2) p:=by
     rw[z3C hp,hfirst];rfl
    have g0:getI (ptsD l) 0=some (pt p.1 p.2):=by
     show getI (ptsD l) ((0:Nat):Int)=_
     rw[q0d,z11,hp];rfl
    simp(disch:=omega)only[go_sem,↓reduceIte,g0,pt,I];refine⟨1,?_,by omega,by omega⟩;rw[Zaw]at h1;refine Weak.mk ?_ ?_ ?_<;>simp only[go_sem,↓reduceIte,Sub,Int.natCast_add,Int.natCast_mul,I,h1,z5b,minI,maxI]
   ·have hz':¬(i:Int)=0:=by omega
    have h1:=hstep i p (by omega) hp;simp(disch:=omega)only[go_sem,↓reduceIte,q0d,z11,hp,pt,I,hz'];refine⟨i+1,?_,by omega,by omega⟩;refine Weak.mk ?_ ?_ ?_<;>simp only[go_sem,↓reduceIte,Sub,Int.natCast_add,Int.natCast_mul,I,h1,z5b,minI,maxI]
  ·have hil:i=l.length:=by omega
   rw[hil,Zcf];simp only[go_sem,↓reduceIte,I,boxD]
def q21:q0m:=
 .seq (.reg [⟨some 2,.allo [.int .i64 0,.int .i64 0,.int .i64 0,.int .i64 0],none⟩]) (.seq (.seq (.reg [Qc 5 0,Q 6 (.len false (.t 5)),Q 7 (.bin .eql (.t 6) (Ki 0))]) (.cond 
 (.t 7) (.seq (.reg [Q 8 (.bld [(0,1),(1,1),(2,1),(3,1)] [.int .i64 0,.int .i64 0,.int .i64 0,.int .i64 0] [] []),⟨none,.st 4 (.t 2) (.t 8),none⟩]) .ret) .skip)) 
 (.seq (.dreg [⟨some 3,.allo [.int .i64 0,.int .i64 0,.int .i64 0,.int .i64 0],none⟩,Qc 9 0,Q 10 (.ia 2 (.t 9) (Ki 0)),Q 11 (.fa 0 (.t 10)),Q 12 (.ld false 1 (.t 11)),Qc 
 13 0,Q 14 (.ia 2 (.t 13) (Ki 0)),Q 15 (.fa 1 (.t 14)),Q 16 (.ld false 1 (.t 15)),Qc 17 0,Q 18 (.ia 2 (.t 17) (Ki 0)),Q 19 (.fa 0 (.t 18)),Q 20 (.ld false 1 (.t 19)),Qc 21 
 0,Q 22 (.ia 2 (.t 21) (Ki 0)),Q 23 (.fa 1 (.t 22)),Q 24 (.ld false 1 (.t 23)),Q 25 (.bld [(0,1),(1,1),(2,1),(3,1)] [.int .i64 0,.int .i64 0,.int .i64 0,.int .i64 0] 
 [] [(0,.t 12),(1,.t 16),(2,.t 20),(3,.t 24)]),⟨none,.st 4 (.t 3) (.t 25),none⟩]) (.seq (.seq (.reg [Qx 4 (Ki 1)]) (.block 0 (.loop (.seq (.seq (.reg [Qc 26 4,Qc 27 0, 
 Q 28 (.len false (.t 27)),Q 29 (.bin .lss (.t 26) (.t 28))]) (.cond (.t 29) .skip (.exit 0))) (.seq (.block 1 (.seq (.dreg [Q 32 (.fa 0 (.t 3)),Q 33 (.ld false 1 (.t 32)),Qc 
 34 0,Qc 35 4,Q 36 (.ia 2 (.t 34) (.t 35)),Q 37 (.fa 0 (.t 36)),Q 38 (.ld false 1 (.t 37)),Q 39 (.mm false (.t 33) (.t 38)),Q 40 (.fa 0 (.t 3)),⟨none,.st 1 (.t 40) (.t 
 39),none⟩]) (.seq (.dreg [Q 41 (.fa 1 (.t 3)),Q 42 (.ld false 1 (.t 41)),Qc 43 0,Qc 44 4,Q 45 (.ia 2 (.t 43) (.t 44)),Q 46 (.fa 1 (.t 45)),Q 47 (.ld false 1 (.t 46)),Q 48 
 (.mm false (.t 42) (.t 47)),Q 49 (.fa 1 (.t 3)),⟨none,.st 1 (.t 49) (.t 48),none⟩]) (.seq (.dreg [Q 50 (.fa 2 (.t 3)),Q 51 (.ld false 1 (.t 50)),Qc 52 0,Qc 53 4,Q 54 (.ia 
 2 (.t 52) (.t 53)),Q 55 (.fa 0 (.t 54)),Q 56 (.ld false 1 (.t 55)),Q 57 (.mm true (.t 51) (.t 56)),Q 58 (.fa 2 (.t 3)),⟨none,.st 1 (.t 58) (.t 57),none⟩]) (.dreg [Q 59 
 (.fa 3 (.t 3)),Q 60 (.ld false 1 (.t 59)),Qc 61 0,Qc 62 4,Q 63 (.ia 2 (.t 61) (.t 62)),Q 64 (.fa 1 (.t 63)),Q 65 (.ld false 1 (.t 64)),Q 66 (.mm true (.t 60) (.t 65)),Q 
 67 (.fa 3 (.t 3)),⟨none,.st 1 (.t 67) (.t 66),none⟩]))))) (.reg [Qc 30 4,Q 31 (.bin .add (.t 30) (Ki 1)),Qa 4 31])))))) (.seq (.reg [Q 68 (.ld true 4 (.t 3)),⟨none,.st 4 
 (.t 2) (.t 68),none⟩]) .ret))))
def q23:List LRes:=[.cell 2 true 4]
theorem q6S:q0t Tryz.prog 75 69 q21 q23:=⟨_,_,Tryz.func75,rfl,by kernel_rfl,by kernel_rfl,rfl⟩
theorem z68(l:List (Int×Int))(hl:l.length≤100000):q0y Tryz.prog 75 [.list (ptsD l)] (fun r=>r=.one (boxD (q1O l))):=by
 refine q6S.call rfl ?_;have hI:((ptsD l).length:Int)=(l.length:Int):=by rw[z3a]
 cases l with
 |nil=>
  have h0:ptsD []=[]:=rfl;simp only[go_sem,↓reduceIte,q21,q23,h0,boxD,q1O,I]
 |cons p r=>
  generalize hl2:p::r=l at hI hl ⊢;have hp0:l[0]?=some p:=by rw[←hl2];rfl
  have hlen:1≤l.length:=by rw[←hl2];simp
  have g0:getI (ptsD l) 0=some (pt p.1 p.2):=by
   show getI (ptsD l) ((0:Nat):Int)=_
   rw[q0d,z11,hp0];rfl
  have hstep:∀(i:Nat) (p:Int×Int),0<i→l[i]?=some p→q1O (l.take (i+1))=z5b (q1O (l.take i)) p:=fun i p hi hp=>by
   rw[z3C hp];cases hl2:l.take i with
   |nil=>
    have hlt:i<l.length:=(Zab.1 hp).1;have:=congrArg List.length hl2;rw[Zcb,Zam]at this;omega
   |cons q r=>simp[q1O,List.foldl_append]
  have hz:¬((l.length:Int)=0):=by omega
  have h1:q1O (l.take 1)=(p.1,p.2,p.1,p.2):=by rw[←hl2];rfl
  simp(disch:=omega)only[go_sem,↓reduceIte,q21,q23,hI,hz,g0,pt,I];refine q0j (fun i:Nat=>⟨[(0,.d (.list (ptsD l))),(2,.ptr (.l 2) 0),(3,.ptr (.l 3) 0),(4,.d (.int .i64 i))],
    [(2,.cells [.d (I 0),.d (I 0),.d (I 0),.d (I 0)]),(3,.cells [.d (I (q1O (l.take i)).1),.d (I (q1O (l.take i)).2.1),.d (I (q1O (l.take i)).2.2.1),.d (I (q1O (l.take i)).2.2.2)])],[]⟩)
   (fun i=>1≤i∧i≤l.length) (fun i=>l.length-i) 1 ?_ ?_ ?_
  ·refine Weak.mk ?_ ?_ ?_<;>simp only[go_sem,↓reduceIte,Sub,Int.natCast_add,Int.natCast_mul,I,h1]
  ·omega
  ·intro i hi;simp only[go_sem,↓reduceIte,I,hI];refine⟨fun q1=>?_,fun q1=>?_⟩
   ·obtain⟨p,hp⟩:=get_some (l:=l) (i:=i) (by omega);have h1:=hstep i p (by omega) hp;simp(disch:=omega)only[go_sem,↓reduceIte,q0d,z11,hp,pt,I];refine⟨i+1,?_,by omega,by omega⟩;refine Weak.mk ?_ ?_ ?_<;>simp only[go_sem,↓reduceIte,Sub,Int.natCast_add,Int.natCast_mul,I,h1,z5b,minI,maxI]
   ·have hil:i=l.length:=by omega
    rw[hil,Zcf];simp only[go_sem,↓reduceIte,I,boxD]
open Go.Lib (decodeL decodeN decodeN_shape decodeL_N encodeRune encodeRuneZ decodeLastL validD)
def q3m(r:Nat):Prop:=r<55296∨(57344≤r∧r≤1114111)
instance (r:Nat):Decidable (q3m r):=by unfold q3m;infer_instance
def enc(r:Nat):List UInt8:=encodeRune (r:Int)
def bad(l:List UInt8):Bool:=decide ((decodeL l).1=65533)&&decide ((decodeL l).2=1)
theorem j1h{l:List UInt8}:bad l=true↔(decodeL l).1=65533∧(decodeL l).2=1:=by simp[bad]
theorem z2s{l:List UInt8}(hne:l≠[]):1≤(decodeL l).2∧(decodeL l).2≤4∧(decodeL l).2≤l.length∧q3m (decodeL l).1∧(bad l=false→l.take (decodeL l).2=enc (decodeL l).1):=by
 refine⟨?_,?_,Lib.decodeL_le l hne,?_,fun hb=>?_⟩
 ·have hl:0<l.length:=Zcw.2 hne;rw[decodeL_N];rcases decodeN_shape l.length (l.getD 0 0).toNat (l.getD 1 0).toNat (l.getD 2 0).toNat (l.getD 3 0).toNat with⟨c,e⟩|⟨c1,c2,c3,cv,e⟩|⟨c1,c2,c3,c4,cv,cs,e⟩|⟨c1,c2,c3,c4,c5,cv,cw,e⟩|e;all_goals(rw[e];dsimp only;omega)
 ·rw[decodeL_N];rcases decodeN_shape l.length (l.getD 0 0).toNat (l.getD 1 0).toNat (l.getD 2 0).toNat (l.getD 3 0).toNat with⟨c,e⟩|⟨c1,c2,c3,cv,e⟩|⟨c1,c2,c3,c4,cv,cs,e⟩|⟨c1,c2,c3,c4,c5,cv,cw,e⟩|e;all_goals(rw[e];dsimp only;omega)
 ·have k1:=(l.getD 1 0).toNat_lt;rw[decodeL_N];unfold q3m;rcases decodeN_shape l.length (l.getD 0 0).toNat (l.getD 1 0).toNat (l.getD 2 0).toNat (l.getD 3 0).toNat with⟨c,e⟩|⟨c1,c2,c3,cv,e⟩|⟨c1,c2,c3,c4,cv,cs,e⟩|⟨c1,c2,c3,c4,c5,cv,cw,e⟩|e;all_goals(rw[e];dsimp only;omega)
 ·exact(Lib.encode_decode l hne (fun h=>by rw[j1h.2 h]at hb;cases hb)).symm
/-! ### A text's signs -/
def z1G:Nat→List UInt8→Option (List Nat)
 |0,_=>some []
 |f+1,l=>if l=[]then some []else if bad l=true then none else(z1G f (l.drop (decodeL l).2)).map ((decodeL l).1::·)
def q1g(l:List UInt8):Option (List Nat):=z1G l.length l
theorem q82:∀f,z1G f []=some []
 |0=>rfl
 |f+1=>by simp[z1G]
theorem z3i:∀(f g:Nat) (l:List UInt8),l.length≤f→l.length≤g→z1G f l=z1G g l
 |0,g,l,h,_=>by have:l=[]:=Zbq.1 (by omega);subst this;rw[q82,q82]
 |f+1,0,l,_,h=>by have:l=[]:=Zbq.1 (by omega);subst this;rw[q82,q82]
 |f+1,g+1,l,h1,h2=>by
  simp only[z1G]
  by_cases hl:l=[]
  ·simp[hl]
  ·have:=(z2s hl).1;have:=Zcw.2 hl;rw[z3i f g (l.drop (decodeL l).2) (by simp;omega) (by simp;omega)]
theorem j0J:q1g []=some []:=rfl
theorem z3j{l:List UInt8}(hl:l≠[]):q1g l=if bad l=true then none else(q1g (l.drop (decodeL l).2)).map ((decodeL l).1::·):=by
 unfold q1g;obtain⟨c,r,rfl⟩:∃c r,l=c::r:=by cases l with|nil=>exact absurd rfl hl|cons c r=>exact⟨c,r,rfl⟩
 have h1:=(z2s hl).1;conv=>lhs;rw[Zad,z1G,if_neg hl]
 rw[z3i r.length _ (List.drop _ _) (by simp;omega) (Zal _)]
def encM(rs:List Nat):List UInt8:=rs.flatMap enc
theorem q83:∀(n:Nat) {l:List UInt8} {rs:List Nat},l.length≤n→q1g l=some rs→encM rs=l∧∀r∈rs,q3m r
 |n,[],rs,_,h=>by cases h;exact⟨rfl,by simp⟩
 |0,c::l,rs,h,_=>by simp at h
 |n+1,c::l,rs,hn,h=>by
  have hne:c::l≠[]:=by simp
  rw[z3j hne]at h;obtain⟨f1,f2,f3,f4,f5⟩:=z2s hne;split at h
  ·cases h
  ·rename_i hb;obtain⟨rs',h1,rfl⟩:=Zay.1 h;obtain⟨e1,e2⟩:=q83 n (by simp at hn ⊢;omega) h1;refine⟨?_,fun r hr=>?_⟩
   ·show enc _++encM rs'=_
    rw[e1,←f5 (by simpa using hb)];exact List.take_append_drop _ _
   ·rcases Zau.1 hr with rfl|hr
    ·exact f4
    ·exact e2 r hr
/-! ### A sign's bytes, read -/
theorem q7v{r:Nat}(h:q3m r):
  (r<128∧enc r=[UInt8.ofNat r])∨(128≤r∧r<2048∧enc r=[UInt8.ofNat (192+r / 64),UInt8.ofNat (128+r % 64)])∨
  (2048≤r∧r<65536∧enc r=[UInt8.ofNat (224+r / 4096),UInt8.ofNat (128+r / 64 % 64),UInt8.ofNat (128+r % 64)])∨
  (65536≤r∧r≤1114111∧enc r=[UInt8.ofNat (240+r / 262144),UInt8.ofNat (128+r / 4096 % 64),UInt8.ofNat (128+r / 64 % 64),UInt8.ofNat (128+r % 64)]):=by
 unfold q3m at h;have t:∀(z:Int) (k:Nat),z=(k:Int)→z.toNat.toUInt8=UInt8.ofNat k:=fun z k e=>by rw[e];rfl
 by_cases h1:r<128
 ·left;refine⟨h1,?_⟩
  unfold enc encodeRune;rw[Lib.encodeRuneZ_one (by omega) (by omega)];simp only[Zai,Zbe];rw[t r r rfl]
 ·by_cases h2:r<2048
  ·right;left;refine⟨by omega,h2,?_⟩
   unfold enc encodeRune;rw[Lib.encodeRuneZ_two (by omega) (by omega)];simp only[Zai,Zbe];rw[t (192+(r:Int) / 64) (192+r / 64) (by omega),t (128+(r:Int) % 64) (128+r % 64) (by omega)]
  ·by_cases h3:r<65536
   ·right;right;left;refine⟨by omega,h3,?_⟩
    unfold enc encodeRune;rw[Lib.encodeRuneZ_three (by omega)];simp only[Zai,Zbe];rw[t (224+(r:Int) / 4096) (224+r / 4096) (by omega),t (128+(r:Int) / 64 % 64) (128+r / 64 % 64) (by omega),t (128+(r:Int) % 64) (128+r % 64) (by omega)]
   ·right;right;right;refine⟨by omega,by omega,?_⟩
    unfold enc encodeRune;rw[Lib.encodeRuneZ_four (by omega) (by omega)];simp only[Zai,Zbe];rw[t (240+(r:Int) / 262144) (240+r / 262144) (by omega),t (128+(r:Int) / 4096 % 64) (128+r / 4096 % 64) (by omega),t (128+(r:Int) / 64 % 64) (128+r / 64 % 64) (by omega),t (128+(r:Int) % 64) (128+r % 64) (by omega)]
theorem ofNat_toNat{k:Nat}(h:k<256):(UInt8.ofNat k).toNat=k:=by simp[UInt8.toNat_ofNat'];omega
theorem z94{r:Nat}(h:q3m r)(t:List UInt8):decodeL (enc r++t)=(r,(enc r).length):=by
 rw[decodeL_N];unfold q3m at h;rcases q7v h with⟨a,e⟩|⟨a,b,e⟩|⟨a,b,e⟩|⟨a,b,e⟩;all_goals rw[e]
 ·simp only[Zbh,Zbu,Zaz,Zad,Zam];rw[ofNat_toNat (by omega),decodeN,if_pos a]
 ·simp only[Zbh,Zbu,Zaz,Zbo,Zad,Zam];rw[ofNat_toNat (by omega),ofNat_toNat (by omega),decodeN,if_neg (by omega),if_pos (by omega),if_pos (by omega)];congr 1;omega
 ·simp only[Zbh,Zbu,Zaz,Zbo,Zad,Zam];rw[ofNat_toNat (by omega),ofNat_toNat (by omega),ofNat_toNat (by omega),decodeN,if_neg (by omega),if_neg (by omega),if_pos (by omega),if_pos (by omega)];congr 1;omega
 ·simp only[Zbh,Zbu,Zaz,Zbo,Zad,Zam];rw[ofNat_toNat (by omega),ofNat_toNat (by omega),ofNat_toNat (by omega),ofNat_toNat (by omega),decodeN,if_neg (by omega),if_neg (by omega),if_neg (by omega),if_pos (by omega),if_pos (by omega)];congr 1;omega
theorem z4Y{r:Nat}(h:q3m r):1≤(enc r).length∧(enc r).length≤4∧enc r≠[]:=by
 rcases q7v h with⟨a,e⟩|⟨a,b,e⟩|⟨a,b,e⟩|⟨a,b,e⟩<;>(rw[e];simp)
theorem z3N(t:List UInt8){c0 c1 c2 c3:UInt8}(h3:128≤c3.toNat)(h2:Lib.runeStartB c2=false)(h1:Lib.runeStartB c1=false)(h0:Lib.runeStartB c0=true)(hd:(decodeL [c0,c1,c2,c3]).2=4):decodeLastL (t++[c0,c1,c2,c3])=decodeL [c0,c1,c2,c3]:=by
 have g1:=Lib.getD_app_end t [c0,c1,c2,c3] 1 (by omega) (by simp);have g2:=Lib.getD_app_end t [c0,c1,c2,c3] 2 (by omega) (by simp);have g3:=Lib.getD_app_end t [c0,c1,c2,c3] 3 (by omega) (by simp);have g4:=Lib.getD_app_end t [c0,c1,c2,c3] 4 (by omega) (by simp);have hl:(t++[c0,c1,c2,c3]).length=t.length+4:=by simp
 have hs:Lib.lastStart (t++[c0,c1,c2,c3])=(t++[c0,c1,c2,c3]).length-4:=by
  unfold Lib.lastStart;simp only[g2,g3,g4];rw[if_neg (by omega)];simp only[Zad,Zam,Zbo,Zaz,Nat.reduceAdd,Nat.reduceSub,h2,h1,h0,Zan,if_false,if_true];rw[if_neg (by omega),if_neg (by omega)]
 have hdrop:=Lib.drop_app_end t [c0,c1,c2,c3];unfold decodeLastL;rw[if_neg (by simp),g1,if_neg (by simp;omega),hs];simp only[Zad,Zam]at hdrop;simp only[hdrop,hd];rw[if_pos (by omega)]
theorem j4u{r:Nat}(h:q3m r)(t:List UInt8):decodeLastL (t++enc r)=(r,(enc r).length):=by
 have hd:=z94 h [];rw[Zdc]at hd;have h':=h;unfold q3m at h';have st:∀k,k<256→Lib.runeStartB (UInt8.ofNat k)=(k / 64 != 2):=fun k hk=>by unfold Lib.runeStartB;rw[ofNat_toNat hk]
 have nc:∀k:Nat,128≤k→k<192→Lib.runeStartB (UInt8.ofNat k)=false:=by
  intro k h1 h2;have h3:k / 64=2:=by omega
  rw[st k (by omega),h3];rfl
 have ns:∀k:Nat,192≤k→k<256→Lib.runeStartB (UInt8.ofNat k)=true:=by
  intro k h1 h2;have h3:k / 64=3:=by omega
  rw[st k (by omega),h3];rfl
 rcases q7v h with⟨a,e⟩|⟨a,b,e⟩|⟨a,b,e⟩|⟨a,b,e⟩
 ·have g1:=Lib.getD_app_end t [UInt8.ofNat r] 1 (by omega) (by simp);rw[e];unfold decodeLastL;rw[if_neg (by simp),g1];simp only[Zad,Zam,Nat.sub_self,Zaz,Zaw];rw[if_pos (by rw[ofNat_toNat (by omega)];exact a),ofNat_toNat (by omega)]
 ·rw[e]at hd ⊢;rw[Lib.last2 t _ _ (by rw[ofNat_toNat (by omega)];omega) (ns _ (by omega) (by omega)) (by rw[hd];rfl),hd]
 ·rw[e]at hd ⊢;rw[Lib.last3 t _ _ _ (by rw[ofNat_toNat (by omega)];omega) (nc _ (by omega) (by omega)) (ns _ (by omega) (by omega)) (by rw[hd];rfl),hd]
 ·rw[e]at hd ⊢;rw[z3N t (by rw[ofNat_toNat (by omega)];omega) (nc _ (by omega) (by omega)) (nc _ (by omega) (by omega)) (ns _ (by omega) (by omega)) (by rw[hd];rfl),hd]
theorem z0S{r:Nat}(h:q3m r):(Utf8.encode (r:Int)).data.toList=enc r:=by
 have hv:Utf8.valid (r:Int)=true:=by unfold q3m at h;simp[Utf8.valid];omega
 unfold Utf8.encode;simp only[hv,if_true,Zdd];unfold q3m at h;rcases q7v h with⟨a,e⟩|⟨a,b,e⟩|⟨a,b,e⟩|⟨a,b,e⟩
 ·simp only[if_pos a,e]
 ·have a':¬r<128:=by omega
  simp only[if_neg a',if_pos b,e]
 ·have a':¬r<128:=by omega
  have b':¬r<2048:=by omega
  simp only[if_neg a',if_neg b',if_pos b,e]
 ·have a':¬r<128:=by omega
  have b':¬r<2048:=by omega
  have c':¬r<65536:=by omega
  simp only[if_neg a',if_neg b',if_neg c',e]
open Go.Lib (decodeL decodeN decodeN_shape decodeL_N)
def q2C(l:List Nat):List D:=l.map fun(n:Nat)=>D.int .i64 (n:Int)
theorem q0J(l:List Nat):(q2C l).length=l.length:=by simp[q2C]
theorem q64(a b:List Nat):q2C (a++b)=q2C a++q2C b:=by simp[q2C]
theorem q8G(l:List Nat)(j:Nat):(q2C l)[j]?=(l[j]?).map fun(n:Nat)=>D.int .i64 (n:Int):=by simp[q2C]
def cumR(l:List UInt8)(r0:Nat):Nat→Nat
 |0=>r0
 |j+1=>64*cumR l r0 j+(l.getD (j+1) 0).toNat-128
def q9y(l:List UInt8)(j:Nat):Prop:=128≤(l.getD j 0).toNat∧(l.getD j 0).toNat≤191
def q76(c n r0:Nat):Prop:=(c<128∧n=0∧r0=c)∨(194≤c∧c<224∧n=1∧r0=c-192)∨(224≤c∧c<240∧n=2∧r0=c-224)∨(240≤c∧c<245∧n=3∧r0=c-240)
theorem j1g(l:List UInt8)(h:decodeN l.length (l.getD 0 0).toNat (l.getD 1 0).toNat (l.getD 2 0).toNat (l.getD 3 0).toNat=(65533,1)):bad l=true:=by
 have e:decodeL l=(65533,1):=(decodeL_N l).trans h;simp only[bad,e,decide_true,Bool.and_self]
theorem j18{l:List UInt8}(hl:0<l.length)(h:∀n r0,¬q76 (l.getD 0 0).toNat n r0):bad l=true:=by
 refine j1g l (Lib.decodeN_bad _ _ _ _ _ ?_);have k0:=(l.getD 0 0).toNat_lt
 by_cases a:(l.getD 0 0).toNat<128
 ·exact absurd (.inl ⟨a,rfl,rfl⟩) (h 0 (l.getD 0 0).toNat)
 ·by_cases b:194≤(l.getD 0 0).toNat∧(l.getD 0 0).toNat<224
  ·exact absurd (.inr (.inl ⟨b.1,b.2,rfl,rfl⟩)) (h 1 ((l.getD 0 0).toNat-192))
  ·by_cases c:224≤(l.getD 0 0).toNat∧(l.getD 0 0).toNat<240
   ·exact absurd (.inr (.inr (.inl ⟨c.1,c.2,rfl,rfl⟩))) (h 2 ((l.getD 0 0).toNat-224))
   ·by_cases d:240≤(l.getD 0 0).toNat∧(l.getD 0 0).toNat<245
    ·exact absurd (.inr (.inr (.inr ⟨d.1,d.2,rfl,rfl⟩))) (h 3 ((l.getD 0 0).toNat-240))
    ·omega
theorem q8U{l:List UInt8}{n r0:Nat}(hl:0<l.length)(h:q76 (l.getD 0 0).toNat n r0)(hn:l.length≤n):bad l=true:=by
 refine j1g l ?_;unfold q76 at h;rcases decodeN_shape l.length (l.getD 0 0).toNat (l.getD 1 0).toNat (l.getD 2 0).toNat (l.getD 3 0).toNat with⟨c,e⟩|⟨c1,c2,c3,cv,e⟩|⟨c1,c2,c3,c4,cv,cs,e⟩|⟨c1,c2,c3,c4,c5,cv,cw,e⟩|e;all_goals first|exact e|(exfalso;omega)
theorem z0i{l:List UInt8}{n r0 j:Nat}(hl:0<l.length)(h:q76 (l.getD 0 0).toNat n r0)(h1:1≤j)(hj:j≤n)(hc:¬q9y l j):bad l=true:=by
 refine j1g l ?_;unfold q76 at h;unfold q9y at hc;have k1:=(l.getD 1 0).toNat_lt;have k2:=(l.getD 2 0).toNat_lt;have k3:=(l.getD 3 0).toNat_lt;have hj3:j=1∨j=2∨j=3:=by omega
 rcases decodeN_shape l.length (l.getD 0 0).toNat (l.getD 1 0).toNat (l.getD 2 0).toNat (l.getD 3 0).toNat with⟨c,e⟩|⟨c1,c2,c3,cv,e⟩|⟨c1,c2,c3,c4,cv,cs,e⟩|⟨c1,c2,c3,c4,c5,cv,cw,e⟩|e;all_goals first
  |exact e
  |(exfalso;omega)
  |(exfalso;rcases hj3 with rfl|rfl|rfl<;>omega)
theorem z1Y{l:List UInt8}{n r0:Nat}(h:q76 (l.getD 0 0).toNat n r0)(hl:n<l.length)(hc:∀j,1≤j→j≤n→q9y l j):
  (((n=2∧cumR l r0 n<2048)∨(n=3∧cumR l r0 n<65536)∨1114111<cumR l r0 n∨(55295<cumR l r0 n∧cumR l r0 n<57344))∧bad l=true)∨
  (¬((n=2∧cumR l r0 n<2048)∨(n=3∧cumR l r0 n<65536)∨1114111<cumR l r0 n∨(55295<cumR l r0 n∧cumR l r0 n<57344))∧bad l=false∧decodeL l=(cumR l r0 n,n+1)):=by
 have hb:∀r k,decodeN l.length (l.getD 0 0).toNat (l.getD 1 0).toNat (l.getD 2 0).toNat (l.getD 3 0).toNat=(r,k)→(r≠65533∨k≠1)→bad l=false∧decodeL l=(r,k):=fun r k e hk=>by
  refine⟨?_,by rw[decodeL_N,e]⟩;rw[Bool.eq_false_iff];intro hb;rw[j1h,decodeL_N,e]at hb;simp only at hb;rcases hk with hk|hk
  ·exact hk hb.1
  ·exact hk hb.2
 have k0:=(l.getD 0 0).toNat_lt;unfold q76 at h;rcases h with⟨a,rfl,rfl⟩|⟨a,b,rfl,rfl⟩|⟨a,b,rfl,rfl⟩|⟨a,b,rfl,rfl⟩
 ·right
  simp only[cumR];refine⟨by omega,hb _ _ ?_ (.inl (by omega))⟩;rw[decodeN,if_pos a]
 ·right
  obtain⟨c1,c2⟩:=hc 1 (by omega) (by omega);have e:cumR l ((l.getD 0 0).toNat-192) 1=(l.getD 0 0).toNat % 32*64+(l.getD 1 0).toNat % 64:=by simp only[cumR,Zaw,Nat.reduceAdd];omega
  rw[e];refine⟨by omega,hb _ _ ?_ (.inr (by omega))⟩;rw[decodeN,if_neg (by omega),if_pos (by omega),if_pos (by omega)]
 ·obtain⟨c1,c2⟩:=hc 1 (by omega) (by omega);obtain⟨d1,d2⟩:=hc 2 (by omega) (by omega);have e:cumR l ((l.getD 0 0).toNat-224) 2=(l.getD 0 0).toNat % 16*4096+(l.getD 1 0).toNat % 64*64+(l.getD 2 0).toNat % 64:=by simp only[cumR,Zaw,Nat.reduceAdd];omega
  rw[e]
  by_cases hx:(l.getD 0 0).toNat % 16*4096+(l.getD 1 0).toNat % 64*64+(l.getD 2 0).toNat % 64<2048∨(55295<(l.getD 0 0).toNat % 16*4096+(l.getD 1 0).toNat % 64*64+(l.getD 2 0).toNat % 64∧(l.getD 0 0).toNat % 16*4096+(l.getD 1 0).toNat % 64*64+(l.getD 2 0).toNat % 64<57344)
  ·left
   refine⟨by omega,j1g l ?_⟩;rw[decodeN,if_neg (by omega),if_neg (by omega),if_pos (by omega),if_neg (by omega)]
  ·right
   refine⟨by omega,hb _ _ ?_ (.inr (by omega))⟩;rw[decodeN,if_neg (by omega),if_neg (by omega),if_pos (by omega),if_pos (by omega)]
 ·obtain⟨c1,c2⟩:=hc 1 (by omega) (by omega);obtain⟨d1,d2⟩:=hc 2 (by omega) (by omega);obtain⟨f1,f2⟩:=hc 3 (by omega) (by omega);have e:cumR l ((l.getD 0 0).toNat-240) 3=(l.getD 0 0).toNat % 8*262144+(l.getD 1 0).toNat % 64*4096+(l.getD 2 0).toNat % 64*64+(l.getD 3 0).toNat % 64:=by simp only[cumR,Zaw,Nat.reduceAdd];omega
  rw[e]
  by_cases hx:(l.getD 0 0).toNat % 8*262144+(l.getD 1 0).toNat % 64*4096+(l.getD 2 0).toNat % 64*64+(l.getD 3 0).toNat % 64<65536∨1114111<(l.getD 0 0).toNat % 8*262144+(l.getD 1 0).toNat % 64*4096+(l.getD 2 0).toNat % 64*64+(l.getD 3 0).toNat % 64
  ·left
   refine⟨by omega,j1g l ?_⟩;rw[decodeN,if_neg (by omega),if_neg (by omega),if_neg (by omega),if_pos (by omega),if_neg (by omega)]
  ·right
   refine⟨by omega,hb _ _ ?_ (.inr (by omega))⟩;rw[decodeN,if_neg (by omega),if_neg (by omega),if_neg (by omega),if_pos (by omega),if_pos (by omega)]
def q2D(o:Option (List Nat)):Res:=match o with
 |some rs=>.tup [.list (q2C rs),.bool true]
 |none=>.tup [.list [],.bool false]
theorem z5i{l:List UInt8}{n r0:Nat}(h:q76 (l.getD 0 0).toNat n r0):n≤3∧r0<128:=by unfold q76 at h;omega
theorem z8Z{l:List UInt8}{n r0:Nat}(h:r0<128):∀j,j≤3→cumR l r0 j<50000000:=by
 intro j hj;have k1:=(l.getD (0+1) 0).toNat_lt;have k2:=(l.getD (1+1) 0).toNat_lt;have k3:=(l.getD (2+1) 0).toNat_lt;match j,hj with
 |0,_=>simp only[cumR];omega
 |1,_=>simp only[cumR];omega
 |2,_=>simp only[cumR];omega
 |3,_=>simp only[cumR];omega
 |j+4,h=>omega
def q48:q0m:=
 .seq (.reg [⟨some 2,.nils 3 1,none⟩,Qx 3 KF]) (.seq (.reg [⟨some 4,.nils 3 1,none⟩]) (.seq (.reg [Qx 5 (Ki 0)]) (.seq (.block 0 (.loop (.seq (.seq (.reg [Qc 11 5,Qc 12 0,Q 
 13 (.len true (.t 12)),Q 14 (.bin .lss (.t 11) (.t 13))]) (.cond (.t 14) .skip (.exit 0))) (.block 1 (.seq (.reg [Qc 15 0,Qc 16 5,Q 17 (.idxS (.t 15) (.t 16)),Q 18 (.cvI .i64 
 (.t 17)),Qa 6 18]) (.seq (.reg [Qx 7 (Ki 0)]) (.seq (.reg [Qc 19 6,Qa 8 19]) (.seq (.block 2 (.seq (.reg [Qc 21 6,Q 22 (.bin .lss (.t 21) (Ki 128)),Qa 20 22]) (.cond (.t 20) 
 .skip (.seq (.reg [Qc 24 6,Q 25 (.bin .geq (.t 24) (Ki 194)),Qc 26 25,Qd 27 6 26 true,Qg 28 (.bin .lss (.t 27) (Ki 224)) 26 true,Q 29 (.pick (.t 26) (.t 28) KF),Qa 23 29]) 
 (.cond (.t 23) (.seq (.reg [Qx 7 (Ki 1)]) (.reg [Qc 30 6,Q 31 (.bin .sub (.t 30) (Ki 192)),Qa 8 31])) (.seq (.reg [Qc 33 6,Q 34 (.bin .geq (.t 33) (Ki 224)),Qc 35 34,Qd 36 6 
 35 true,Qg 37 (.bin .lss (.t 36) (Ki 240)) 35 true,Q 38 (.pick (.t 35) (.t 37) KF),Qa 32 38]) (.cond (.t 32) (.seq (.reg [Qx 7 (Ki 2)]) (.reg [Qc 39 6,Q 40 (.bin .sub (.t 39) 
 (Ki 224)),Qa 8 40])) (.seq (.reg [Qc 42 6,Q 43 (.bin .geq (.t 42) (Ki 240)),Qc 44 43,Qd 45 6 44 true,Qg 46 (.bin .lss (.t 45) (Ki 245)) 44 true,Q 47 (.pick (.t 44) (.t 46) 
 KF),Qa 41 47]) (.cond (.t 41) (.seq (.reg [Qx 7 (Ki 3)]) (.reg [Qc 48 6,Q 49 (.bin .sub (.t 48) (Ki 240)),Qa 8 49])) (.seq (.reg [⟨some 2,.nils 3 1,none⟩,Qx 3 KF]) 
 .ret)))))))))) (.seq (.seq (.reg [Qc 50 5,Qc 51 7,Q 52 (.bin .add (.t 50) (.t 51)),Qc 53 0,Q 54 (.len true (.t 53)),Q 55 (.bin .geq (.t 52) (.t 54))]) (.cond (.t 55) (.seq 
 (.reg [⟨some 2,.nils 3 1,none⟩,Qx 3 KF]) .ret) .skip)) (.seq (.seq (.reg [Qx 9 (Ki 1)]) (.block 3 (.loop (.seq (.seq (.reg [Qc 56 9,Qc 57 7,Q 58 (.bin .leq (.t 56) (.t 
 57))]) (.cond (.t 58) .skip (.exit 3))) (.seq (.block 4 (.seq (.reg [Qc 61 0,Qc 62 5,Qc 63 9,Q 64 (.bin .add (.t 62) (.t 63)),Q 65 (.idxS (.t 61) (.t 64)),Q 66 (.cvI .i64 
 (.t 65)),Qa 10 66]) (.seq (.seq (.reg [Qc 67 10,Q 68 (.bin .lss (.t 67) (Ki 128)),Qc 69 68,Qd 70 10 69 false,Qg 71 (.bin .gtr (.t 70) (Ki 191)) 69 false,Q 72 (.pick (.t 69) 
 KT (.t 71))]) (.cond (.t 72) (.seq (.reg [⟨some 2,.nils 3 1,none⟩,Qx 3 KF]) .ret) .skip)) (.reg [Qc 73 8,Q 74 (.bin .mul (Ki 64) (.t 73)),Qc 75 10,Q 76 (.bin .add (.t 74) 
 (.t 75)),Q 77 (.bin .sub (.t 76) (Ki 128)),Qa 8 77])))) (.reg [Qc 59 9,Q 60 (.bin .add (.t 59) (Ki 1)),Qa 9 60])))))) (.seq (.seq (.reg [Qc 78 7,Q 79 (.bin .eql (.t 78) (Ki 
 2)),Qc 80 79,Qd 81 8 80 true,Qg 82 (.bin .lss (.t 81) (Ki 2048)) 80 true,Q 83 (.pick (.t 80) (.t 82) KF),Qc 84 83,Qd 85 7 84 false,Qg 86 (.bin .eql (.t 85) (Ki 3)) 84 
 false,Qd 87 86 84 false,Qd 88 8 87 true,Qg 89 (.bin .lss (.t 88) (Ki 65536)) 87 true,Qg 90 (.pick (.t 87) (.t 89) KF) 84 false,Q 91 (.pick (.t 84) KT (.t 90)),Qc 92 91,Qd 
 93 8 92 false,Qg 94 (.bin .gtr (.t 93) (Ki 1114111)) 92 false,Q 95 (.pick (.t 92) KT (.t 94)),Qc 96 95,Qd 97 8 96 false,Qg 98 (.bin .gtr (.t 97) (Ki 55295)) 96 false,Qd 99 
 98 96 false,Qd 100 8 99 true,Qg 101 (.bin .lss (.t 100) (Ki 57344)) 99 true,Qg 102 (.pick (.t 99) (.t 101) KF) 96 false,Q 103 (.pick (.t 96) KT (.t 102))]) (.cond (.t 103) 
 (.seq (.reg [⟨some 2,.nils 3 1,none⟩,Qx 3 KF]) .ret) .skip)) (.seq (.reg [Qc 104 4,Qc 105 8,⟨some 106,.bsl 3 1 [.t 105],none⟩,⟨some 107,.app 3 1 8 false (.t 104) (.t 
 106),none⟩,Qa 4 107]) (.reg [Qc 108 5,Qc 109 7,Q 110 (.bin .add (.t 108) (.t 109)),Q 111 (.bin .add (.t 110) (Ki 1)),Qa 5 111]))))))))))))) (.seq (.reg [Qc 112 4,Qa 2 112, 
 Qx 3 KT]) .ret))))
def q5i:List LRes:=[.tmp 2,.tmp 3]
theorem q7l:q0t Tryz.prog 64 113 q48 q5i:=⟨_,_,Tryz.func64,rfl,by kernel_rfl,by kernel_rfl,rfl⟩
theorem z09(s:List UInt8)(hs:s.length≤1000000000):q0y Tryz.prog 64 [.str s] (fun r=>r=q2D (q1g s)):=by
 refine q7l.call rfl ?_;simp only[go_sem,↓reduceIte,q48,q5i];refine q0j (fun y:Nat×List Nat=>⟨[(0,.d (.str s)),(4,.own (.t 4) 3 1 (q2C y.2)),(5,.d (.int .i64 y.1))],[],[]⟩)
  (fun y=>y.1≤s.length∧y.2.length≤y.1∧(q1g (s.drop y.1)).map (y.2++·)=q1g s) (fun y=>s.length-y.1) (0,[]) ?_ ?_ ?_
 ·refine q0h ?_ trivial;simp only[go_sem,↓reduceIte,Sub,Int.natCast_add,Int.natCast_mul,q2C]
 ·exact⟨Zar _,Zal _,by simp⟩
 ·rintro⟨i,acc⟩ ⟨hi,ha,hF⟩;simp only at hi ha hF;have hacc:=q0J acc;simp only[go_sem,↓reduceIte];refine⟨fun hlt=>?_,fun hge=>?_⟩
  ·obtain⟨c,hc⟩:=get_some (l:=s) (i:=i) (by omega);have hc8:=q3s c;have hne:s.drop i≠[]:=fun h=>by have:=List.drop_eq_nil_iff.1 h;omega
   have hlen:(s.drop i).length=s.length-i:=Zby;have hg0:(s.drop i).getD 0 0=c:=by rw[List.getD_eq_getElem?_getD,Zbn];simp[hc]
   rw[z3j hne]at hF;have bad':bad (s.drop i)=true→Res.tup [D.list [],D.bool false]=q2D (q1g s):=fun h=>by rw[if_pos h]at hF;rw[←hF];rfl
   by_cases a:c.toNat<128
   ·have z0:((c.toNat:Int)<128)=True:=eq_true (by omega);have hlead:q76 ((s.drop i).getD 0 0).toNat 0 (c.toNat):=by rw[hg0];unfold q76;omega
    obtain⟨q1,q2⟩:=z5i hlead;have e0:((cumR (s.drop i) (c.toNat) 0:Nat):Int)=(c.toNat:Int):=by unfold cumR;omega
    simp(disch:=omega)only[go_sem,↓reduceIte,q0d,hc,z0];refine⟨fun h=>bad' (q8U (by omega) hlead (by omega)),fun h=>?_⟩;refine q0j (fun j:Nat=>⟨[(0,.d (.str s)),(4,.own (.t 4) 3 1 (q2C acc)),(5,.d (.int .i64 i)),(7,.d (.int .i64 0)),(8,.d (.int .i64 (cumR (s.drop i) (c.toNat) j:Nat))),(9,.d (.int .i64 ((j:Int)+1)))],[],[]⟩)
     (fun j=>j≤0∧∀k,1≤k→k≤j→q9y (s.drop i) k) (fun j=>0-j) 0 ?_ ?_ ?_
    ·refine q0h ?_ trivial;simp only[go_sem,↓reduceIte,Sub,Int.natCast_add,Int.natCast_mul,e0]
    ·exact⟨by omega,fun k h1 h2=>by omega⟩
    ·rintro j ⟨hj,hcj⟩;have hcum:=z8Z (l:=s.drop i) (n:=0) q2 j (by omega);have zj:(((j:Int)+1≤0))=(j<0):=propext (by omega);simp(disch:=omega)only[go_sem,↓reduceIte,zj];refine⟨fun hj1=>?_,fun hj1=>?_⟩
     ·obtain⟨d,hd⟩:=get_some (l:=s) (i:=i+(j+1)) (by omega);have hd8:=q3s d;have hgd:getI s ((i:Int)+((j:Int)+1))=some d:=by rw[←hd,←q0d];congr 1
      have hgd':(s.drop i).getD (j+1) 0=d:=by rw[List.getD_eq_getElem?_getD,Zbn];simp[hd]
      have hbad:¬(128≤d.toNat∧d.toNat≤191)→bad (s.drop i)=true:=fun h=>z0i (by omega) hlead (j:=j+1) (by omega) (by omega) (by unfold q9y;rw[hgd'];exact h)
      have hnext:128≤d.toNat→((cumR (s.drop i) (c.toNat) (j+1):Nat):Int)=64*(cumR (s.drop i) (c.toNat) j:Nat)+d.toNat-128:=fun h=>by simp only[cumR,hgd'];omega
      simp(disch:=omega)only[go_sem,↓reduceIte,hgd];refine⟨fun h1=>⟨fun h2=>bad' (hbad (by omega)),fun h2=>⟨j+1,?_,⟨by omega,fun k k1 k2=>?_⟩,by omega⟩⟩,fun h1=>bad' (hbad (by omega))⟩
      ·have hn:=hnext (by omega);refine q0h ?_ trivial;simp only[go_sem,↓reduceIte,Sub,Int.natCast_add,Int.natCast_mul,hn]
      ·by_cases hk:k=j+1
       ·subst hk;unfold q9y;rw[hgd'];omega
       ·exact hcj k k1 (by omega)
     ·have hjN:j=0:=by omega
      subst hjN;have hfin:=z1Y hlead (by omega) (fun k k1 k2=>hcj k k1 k2);generalize cumR (s.drop i) (c.toNat) 0=R at *;clear e0;simp(disch:=omega)only[go_sem,↓reduceIte];have eN:((i+1:Nat):Int)=(i:Int)+0+1:=by omega
      have zz:q2C acc++[D.int .i64 (R:Int)]=q2C (acc++[R]):=by rw[q64];rfl
      rcases hfin with⟨hx,hb⟩|⟨hx,hb,hdec⟩
      ·repeat' (first|intro _|apply And.intro)
       all_goals first|exact bad' hb|(exfalso;omega)
      ·rw[hb,if_neg (by decide),hdec]at hF;simp only at hF;have hF2:(q1g (s.drop (i+1))).map ((acc++[R])++·)=q1g s:=by
        rw[Zdm]at hF;rw[←hF];cases q1g (s.drop (i+1))<;>simp
       repeat' (first|intro _|apply And.intro)
       all_goals first|(exfalso;omega)|omega|skip
       all_goals refine⟨(i+1,acc++[R]),?_,⟨by simp only;omega,by simp only[Zaq,Zad,Zam];omega,hF2⟩,by simp only;omega⟩
       all_goals(refine q0h ?_ trivial;simp only[go_sem,↓reduceIte,Sub,Int.natCast_add,Int.natCast_mul,zz,eN])
   by_cases b:194≤c.toNat∧c.toNat<224
   ·have z0:((c.toNat:Int)<128)=False:=eq_false (by omega);have z1:(194≤(c.toNat:Int))=True:=eq_true (by omega);have z2:((c.toNat:Int)<224)=True:=eq_true (by omega);have hlead:q76 ((s.drop i).getD 0 0).toNat 1 (c.toNat-192):=by rw[hg0];unfold q76;omega
    obtain⟨q1,q2⟩:=z5i hlead;have e0:((cumR (s.drop i) (c.toNat-192) 0:Nat):Int)=(c.toNat:Int)-192:=by unfold cumR;omega
    simp(disch:=omega)only[go_sem,↓reduceIte,q0d,hc,z0,z1,z2];refine⟨fun h=>bad' (q8U (by omega) hlead (by omega)),fun h=>?_⟩;refine q0j (fun j:Nat=>⟨[(0,.d (.str s)),(4,.own (.t 4) 3 1 (q2C acc)),(5,.d (.int .i64 i)),(7,.d (.int .i64 1)),(8,.d (.int .i64 (cumR (s.drop i) (c.toNat-192) j:Nat))),(9,.d (.int .i64 ((j:Int)+1)))],[],[]⟩)
     (fun j=>j≤1∧∀k,1≤k→k≤j→q9y (s.drop i) k) (fun j=>1-j) 0 ?_ ?_ ?_
    ·refine q0h ?_ trivial;simp only[go_sem,↓reduceIte,Sub,Int.natCast_add,Int.natCast_mul,e0]
    ·exact⟨by omega,fun k h1 h2=>by omega⟩
    ·rintro j ⟨hj,hcj⟩;have hcum:=z8Z (l:=s.drop i) (n:=1) q2 j (by omega);have zj:(((j:Int)+1≤1))=(j<1):=propext (by omega);simp(disch:=omega)only[go_sem,↓reduceIte,zj];refine⟨fun hj1=>?_,fun hj1=>?_⟩
     ·obtain⟨d,hd⟩:=get_some (l:=s) (i:=i+(j+1)) (by omega);have hd8:=q3s d;have hgd:getI s ((i:Int)+((j:Int)+1))=some d:=by rw[←hd,←q0d];congr 1
      have hgd':(s.drop i).getD (j+1) 0=d:=by rw[List.getD_eq_getElem?_getD,Zbn];simp[hd]
      have hbad:¬(128≤d.toNat∧d.toNat≤191)→bad (s.drop i)=true:=fun h=>z0i (by omega) hlead (j:=j+1) (by omega) (by omega) (by unfold q9y;rw[hgd'];exact h)
      have hnext:128≤d.toNat→((cumR (s.drop i) (c.toNat-192) (j+1):Nat):Int)=64*(cumR (s.drop i) (c.toNat-192) j:Nat)+d.toNat-128:=fun h=>by simp only[cumR,hgd'];omega
      simp(disch:=omega)only[go_sem,↓reduceIte,hgd];refine⟨fun h1=>⟨fun h2=>bad' (hbad (by omega)),fun h2=>⟨j+1,?_,⟨by omega,fun k k1 k2=>?_⟩,by omega⟩⟩,fun h1=>bad' (hbad (by omega))⟩
      ·have hn:=hnext (by omega);refine q0h ?_ trivial;simp only[go_sem,↓reduceIte,Sub,Int.natCast_add,Int.natCast_mul,hn]
      ·by_cases hk:k=j+1
       ·subst hk;unfold q9y;rw[hgd'];omega
       ·exact hcj k k1 (by omega)
     ·have hjN:j=1:=by omega
      subst hjN;have hfin:=z1Y hlead (by omega) (fun k k1 k2=>hcj k k1 k2);generalize cumR (s.drop i) (c.toNat-192) 1=R at *;clear e0;simp(disch:=omega)only[go_sem,↓reduceIte];have eN:((i+2:Nat):Int)=(i:Int)+1+1:=by omega
      have zz:q2C acc++[D.int .i64 (R:Int)]=q2C (acc++[R]):=by rw[q64];rfl
      rcases hfin with⟨hx,hb⟩|⟨hx,hb,hdec⟩
      ·repeat' (first|intro _|apply And.intro)
       all_goals first|exact bad' hb|(exfalso;omega)
      ·rw[hb,if_neg (by decide),hdec]at hF;simp only at hF;have hF2:(q1g (s.drop (i+2))).map ((acc++[R])++·)=q1g s:=by
        rw[Zdm]at hF;rw[←hF];cases q1g (s.drop (i+2))<;>simp
       repeat' (first|intro _|apply And.intro)
       all_goals first|(exfalso;omega)|omega|skip
       all_goals refine⟨(i+2,acc++[R]),?_,⟨by simp only;omega,by simp only[Zaq,Zad,Zam];omega,hF2⟩,by simp only;omega⟩
       all_goals(refine q0h ?_ trivial;simp only[go_sem,↓reduceIte,Sub,Int.natCast_add,Int.natCast_mul,zz,eN])
   by_cases b2:224≤c.toNat∧c.toNat<240
   ·have z0:((c.toNat:Int)<128)=False:=eq_false (by omega);have z1:(194≤(c.toNat:Int))=True:=eq_true (by omega);have z2:((c.toNat:Int)<224)=False:=eq_false (by omega);have z3:(224≤(c.toNat:Int))=True:=eq_true (by omega);have z4:((c.toNat:Int)<240)=True:=eq_true (by omega);have hlead:q76 ((s.drop i).getD 0 0).toNat 2 (c.toNat-224):=by rw[hg0];unfold q76;omega
    obtain⟨q1,q2⟩:=z5i hlead;have e0:((cumR (s.drop i) (c.toNat-224) 0:Nat):Int)=(c.toNat:Int)-224:=by unfold cumR;omega
    simp(disch:=omega)only[go_sem,↓reduceIte,q0d,hc,z0,z1,z2,z3,z4];refine⟨fun h=>bad' (q8U (by omega) hlead (by omega)),fun h=>?_⟩;refine q0j (fun j:Nat=>⟨[(0,.d (.str s)),(4,.own (.t 4) 3 1 (q2C acc)),(5,.d (.int .i64 i)),(7,.d (.int .i64 2)),(8,.d (.int .i64 (cumR (s.drop i) (c.toNat-224) j:Nat))),(9,.d (.int .i64 ((j:Int)+1)))],[],[]⟩)
     (fun j=>j≤2∧∀k,1≤k→k≤j→q9y (s.drop i) k) (fun j=>2-j) 0 ?_ ?_ ?_
    ·refine q0h ?_ trivial;simp only[go_sem,↓reduceIte,Sub,Int.natCast_add,Int.natCast_mul,e0]
    ·exact⟨by omega,fun k h1 h2=>by omega⟩
    ·rintro j ⟨hj,hcj⟩;have hcum:=z8Z (l:=s.drop i) (n:=2) q2 j (by omega);have zj:(((j:Int)+1≤2))=(j<2):=propext (by omega);simp(disch:=omega)only[go_sem,↓reduceIte,zj];refine⟨fun hj1=>?_,fun hj1=>?_⟩
     ·obtain⟨d,hd⟩:=get_some (l:=s) (i:=i+(j+1)) (by omega);have hd8:=q3s d;have hgd:getI s ((i:Int)+((j:Int)+1))=some d:=by rw[←hd,←q0d];congr 1
      have hgd':(s.drop i).getD (j+1) 0=d:=by rw[List.getD_eq_getElem?_getD,Zbn];simp[hd]
      have hbad:¬(128≤d.toNat∧d.toNat≤191)→bad (s.drop i)=true:=fun h=>z0i (by omega) hlead (j:=j+1) (by omega) (by omega) (by unfold q9y;rw[hgd'];exact h)
      have hnext:128≤d.toNat→((cumR (s.drop i) (c.toNat-224) (j+1):Nat):Int)=64*(cumR (s.drop i) (c.toNat-224) j:Nat)+d.toNat-128:=fun h=>by simp only[cumR,hgd'];omega
      simp(disch:=omega)only[go_sem,↓reduceIte,hgd];refine⟨fun h1=>⟨fun h2=>bad' (hbad (by omega)),fun h2=>⟨j+1,?_,⟨by omega,fun k k1 k2=>?_⟩,by omega⟩⟩,fun h1=>bad' (hbad (by omega))⟩
      ·have hn:=hnext (by omega);refine q0h ?_ trivial;simp only[go_sem,↓reduceIte,Sub,Int.natCast_add,Int.natCast_mul,hn]
      ·by_cases hk:k=j+1
       ·subst hk;unfold q9y;rw[hgd'];omega
       ·exact hcj k k1 (by omega)
     ·have hjN:j=2:=by omega
      subst hjN;have hfin:=z1Y hlead (by omega) (fun k k1 k2=>hcj k k1 k2);generalize cumR (s.drop i) (c.toNat-224) 2=R at *;clear e0;simp(disch:=omega)only[go_sem,↓reduceIte];have eN:((i+3:Nat):Int)=(i:Int)+2+1:=by omega
      have zz:q2C acc++[D.int .i64 (R:Int)]=q2C (acc++[R]):=by rw[q64];rfl
      rcases hfin with⟨hx,hb⟩|⟨hx,hb,hdec⟩
      ·repeat' (first|intro _|apply And.intro)
       all_goals first|exact bad' hb|(exfalso;omega)
      ·rw[hb,if_neg (by decide),hdec]at hF;simp only at hF;have hF2:(q1g (s.drop (i+3))).map ((acc++[R])++·)=q1g s:=by
        rw[Zdm]at hF;rw[←hF];cases q1g (s.drop (i+3))<;>simp
       repeat' (first|intro _|apply And.intro)
       all_goals first|(exfalso;omega)|omega|skip
       all_goals refine⟨(i+3,acc++[R]),?_,⟨by simp only;omega,by simp only[Zaq,Zad,Zam];omega,hF2⟩,by simp only;omega⟩
       all_goals(refine q0h ?_ trivial;simp only[go_sem,↓reduceIte,Sub,Int.natCast_add,Int.natCast_mul,zz,eN])
   by_cases b3:240≤c.toNat∧c.toNat<245
   ·have z0:((c.toNat:Int)<128)=False:=eq_false (by omega);have z1:(194≤(c.toNat:Int))=True:=eq_true (by omega);have z2:((c.toNat:Int)<224)=False:=eq_false (by omega);have z3:(224≤(c.toNat:Int))=True:=eq_true (by omega);have z4:((c.toNat:Int)<240)=False:=eq_false (by omega);have z5:(240≤(c.toNat:Int))=True:=eq_true (by omega);have z6:((c.toNat:Int)<245)=True:=eq_true (by omega);have hlead:q76 ((s.drop i).getD 0 0).toNat 3 (c.toNat-240):=by rw[hg0];unfold q76;omega
    obtain⟨q1,q2⟩:=z5i hlead;have e0:((cumR (s.drop i) (c.toNat-240) 0:Nat):Int)=(c.toNat:Int)-240:=by unfold cumR;omega
    simp(disch:=omega)only[go_sem,↓reduceIte,q0d,hc,z0,z1,z2,z3,z4,z5,z6];refine⟨fun h=>bad' (q8U (by omega) hlead (by omega)),fun h=>?_⟩;refine q0j (fun j:Nat=>⟨[(0,.d (.str s)),(4,.own (.t 4) 3 1 (q2C acc)),(5,.d (.int .i64 i)),(7,.d (.int .i64 3)),(8,.d (.int .i64 (cumR (s.drop i) (c.toNat-240) j:Nat))),(9,.d (.int .i64 ((j:Int)+1)))],[],[]⟩)
     (fun j=>j≤3∧∀k,1≤k→k≤j→q9y (s.drop i) k) (fun j=>3-j) 0 ?_ ?_ ?_
    ·refine q0h ?_ trivial;simp only[go_sem,↓reduceIte,Sub,Int.natCast_add,Int.natCast_mul,e0]
    ·exact⟨by omega,fun k h1 h2=>by omega⟩
    ·rintro j ⟨hj,hcj⟩;have hcum:=z8Z (l:=s.drop i) (n:=3) q2 j (by omega);have zj:(((j:Int)+1≤3))=(j<3):=propext (by omega);simp(disch:=omega)only[go_sem,↓reduceIte,zj];refine⟨fun hj1=>?_,fun hj1=>?_⟩
     ·obtain⟨d,hd⟩:=get_some (l:=s) (i:=i+(j+1)) (by omega);have hd8:=q3s d;have hgd:getI s ((i:Int)+((j:Int)+1))=some d:=by rw[←hd,←q0d];congr 1
      have hgd':(s.drop i).getD (j+1) 0=d:=by rw[List.getD_eq_getElem?_getD,Zbn];simp[hd]
      have hbad:¬(128≤d.toNat∧d.toNat≤191)→bad (s.drop i)=true:=fun h=>z0i (by omega) hlead (j:=j+1) (by omega) (by omega) (by unfold q9y;rw[hgd'];exact h)
      have hnext:128≤d.toNat→((cumR (s.drop i) (c.toNat-240) (j+1):Nat):Int)=64*(cumR (s.drop i) (c.toNat-240) j:Nat)+d.toNat-128:=fun h=>by simp only[cumR,hgd'];omega
      simp(disch:=omega)only[go_sem,↓reduceIte,hgd];refine⟨fun h1=>⟨fun h2=>bad' (hbad (by omega)),fun h2=>⟨j+1,?_,⟨by omega,fun k k1 k2=>?_⟩,by omega⟩⟩,fun h1=>bad' (hbad (by omega))⟩
      ·have hn:=hnext (by omega);refine q0h ?_ trivial;simp only[go_sem,↓reduceIte,Sub,Int.natCast_add,Int.natCast_mul,hn]
      ·by_cases hk:k=j+1
       ·subst hk;unfold q9y;rw[hgd'];omega
       ·exact hcj k k1 (by omega)
     ·have hjN:j=3:=by omega
      subst hjN;have hfin:=z1Y hlead (by omega) (fun k k1 k2=>hcj k k1 k2);generalize cumR (s.drop i) (c.toNat-240) 3=R at *;clear e0;simp(disch:=omega)only[go_sem,↓reduceIte];have eN:((i+4:Nat):Int)=(i:Int)+3+1:=by omega
      have zz:q2C acc++[D.int .i64 (R:Int)]=q2C (acc++[R]):=by rw[q64];rfl
      rcases hfin with⟨hx,hb⟩|⟨hx,hb,hdec⟩
      ·repeat' (first|intro _|apply And.intro)
       all_goals first|exact bad' hb|(exfalso;omega)
      ·rw[hb,if_neg (by decide),hdec]at hF;simp only at hF;have hF2:(q1g (s.drop (i+4))).map ((acc++[R])++·)=q1g s:=by
        rw[Zdm]at hF;rw[←hF];cases q1g (s.drop (i+4))<;>simp
       repeat' (first|intro _|apply And.intro)
       all_goals first|(exfalso;omega)|omega|skip
       all_goals refine⟨(i+4,acc++[R]),?_,⟨by simp only;omega,by simp only[Zaq,Zad,Zam];omega,hF2⟩,by simp only;omega⟩
       all_goals(refine q0h ?_ trivial;simp only[go_sem,↓reduceIte,Sub,Int.natCast_add,Int.natCast_mul,zz,eN])
   have hnone:bad (s.drop i)=true:=j18 (by omega) (by rw[hg0];intro n r0 h;unfold q76 at h;omega);have z0:((c.toNat:Int)<128)=False:=eq_false (by omega);simp(disch:=omega)only[go_sem,↓reduceIte,q0d,hc,z0];repeat' (first|intro _|apply And.intro)
   all_goals first|exact bad' hnone|(exfalso;omega)
  ·have:s.drop i=[]:=Zah (by omega);rw[this,j0J]at hF;rw[←hF];simp only[go_sem,↓reduceIte];simp[q2D]
theorem q9z(a b:List Nat):encM (a++b)=encM a++encM b:=by simp[encM]
theorem z82:∀{l:List Nat},(∀r∈l,q3m r)→(encM l).length≤4*l.length
 |[],_=>by simp[encM]
 |r::l,h=>by
  have h1:=z4Y (h r (by simp));have ih:=z82 fun x hx=>h x (Zbp _ hx)
  have:encM (r::l)=enc r++encM l:=rfl;rw[this,Zaq,Zad];omega
def q49:q0m:=
 .seq (.reg [Qx 2 (.k (.d (.str [])))]) (.seq (.reg [⟨some 3,.nils 5 1,none⟩]) (.seq (.seq (.reg [Qx 4 (Ki 0)]) (.block 0 (.loop (.seq (.seq (.reg [Qc 6 4,Qc 7 0,Q 8 (.len false 
 (.t 7)),Q 9 (.bin .lss (.t 6) (.t 8))]) (.cond (.t 9) .skip (.exit 0))) (.seq (.block 1 (.seq (.reg [Qc 12 0,Qc 13 4,Q 14 (.ia 1 (.t 12) (.t 13)),Q 15 (.ld false 1 (.t 14)), 
 Qa 5 15]) (.block 2 (.seq (.reg [Qc 38 5,Q 39 (.bin .lss (.t 38) (Ki 128)),Qa 37 39]) (.cond (.t 37) (.reg [Qc 40 3,Qc 41 5,Q 42 (.cvI .u8 (.t 41)),⟨some 43,.bsl 5 1 [.t 
 42],none⟩,⟨some 44,.app 5 1 1 false (.t 40) (.t 43),none⟩,Qa 3 44]) (.seq (.reg [Qc 46 5,Q 47 (.bin .lss (.t 46) (Ki 2048)),Qa 45 47]) (.cond (.t 45) (.reg [Qc 48 3,Qc 49 
 5,Q 50 (.bin .quo (.t 49) (Ki 64)),Q 51 (.bin .add (Ki 192) (.t 50)),Q 52 (.cvI .u8 (.t 51)),Qc 53 5,Q 54 (.bin .rem (.t 53) (Ki 64)),Q 55 (.bin .add (Ki 128) (.t 54)),Q 
 56 (.cvI .u8 (.t 55)),⟨some 57,.bsl 5 1 [.t 52,.t 56],none⟩,⟨some 58,.app 5 1 1 false (.t 48) (.t 57),none⟩,Qa 3 58]) (.seq (.reg [Qc 60 5,Q 61 (.bin .lss (.t 60) (Ki 
 65536)),Qa 59 61]) (.cond (.t 59) (.reg [Qc 62 3,Qc 63 5,Q 64 (.bin .quo (.t 63) (Ki 4096)),Q 65 (.bin .add (Ki 224) (.t 64)),Q 66 (.cvI .u8 (.t 65)),Qc 67 5,Q 68 (.bin 
 .quo (.t 67) (Ki 64)),Q 69 (.bin .rem (.t 68) (Ki 64)),Q 70 (.bin .add (Ki 128) (.t 69)),Q 71 (.cvI .u8 (.t 70)),Qc 72 5,Q 73 (.bin .rem (.t 72) (Ki 64)),Q 74 (.bin .add 
 (Ki 128) (.t 73)),Q 75 (.cvI .u8 (.t 74)),⟨some 76,.bsl 5 1 [.t 66,.t 71,.t 75],none⟩,⟨some 77,.app 5 1 1 false (.t 62) (.t 76),none⟩,Qa 3 77]) (.reg [Qc 16 3,Qc 17 5, 
 Q 18 (.bin .quo (.t 17) (Ki 262144)),Q 19 (.bin .add (Ki 240) (.t 18)),Q 20 (.cvI .u8 (.t 19)),Qc 21 5,Q 22 (.bin .quo (.t 21) (Ki 4096)),Q 23 (.bin .rem (.t 22) (Ki 64)),Q 
 24 (.bin .add (Ki 128) (.t 23)),Q 25 (.cvI .u8 (.t 24)),Qc 26 5,Q 27 (.bin .quo (.t 26) (Ki 64)),Q 28 (.bin .rem (.t 27) (Ki 64)),Q 29 (.bin .add (Ki 128) (.t 28)),Q 30 
 (.cvI .u8 (.t 29)),Qc 31 5,Q 32 (.bin .rem (.t 31) (Ki 64)),Q 33 (.bin .add (Ki 128) (.t 32)),Q 34 (.cvI .u8 (.t 33)),⟨some 35,.bsl 5 1 [.t 20,.t 25,.t 30,.t 34],none⟩, 
 ⟨some 36,.app 5 1 1 false (.t 16) (.t 35),none⟩,Qa 3 36])))))))))) (.reg [Qc 10 4,Q 11 (.bin .add (.t 10) (Ki 1)),Qa 4 11])))))) (.seq (.reg [Qc 78 3,Q 79 (.b2s (.t 78)), 
 Qa 2 79]) .ret)))
def q5j:List LRes:=[.tmp 2]
theorem q7m:q0t Tryz.prog 92 80 q49 q5j:=⟨_,_,Tryz.func92,rfl,by kernel_rfl,by kernel_rfl,rfl⟩
theorem q2K(l:List Nat)(hv:∀r∈l,q3m r)(hl:l.length≤100000000):q0y Tryz.prog 92 [.list (q2C l)] (fun r=>r=.one (.str (encM l))):=by
 have hI:((q2C l).length:Int)=(l.length:Int):=by rw[q0J]
 refine q7m.call rfl ?_;simp only[go_sem,↓reduceIte,q49,q5j,hI];refine q0j (fun i:Nat=>⟨[(0,.d (.list (q2C l))),(3,.own (.t 3) 5 1 (q08 (encM (l.take i)))),(4,.d (.int .i64 i))],[],[]⟩)
  (fun i=>i≤l.length) (fun i=>l.length-i) 0 ?_ ?_ ?_
 ·refine q0h ?_ trivial;simp only[go_sem,↓reduceIte,Sub,Int.natCast_add,Int.natCast_mul,q08,encM,List.flatMap_nil]
 ·omega
 ·intro i hi;simp only[go_sem,↓reduceIte,hI];refine⟨fun hlt=>?_,fun hge=>?_⟩
  ·obtain⟨r,hr⟩:=get_some (l:=l) (i:=i) (by omega);have hvr:=hv r (Zaa hr);have hvr':=hvr;unfold q3m at hvr';have htake:l.take (i+1)=l.take i++[r]:=by rw[Zbd,hr];rfl
   have hle:=z82 (l:=l.take i) fun x hx=>hv x (Zcd hx)
   have hti:(l.take i).length=i:=by rw[Zcb];omega
   have hbl:=q7M (encM (l.take i));have hnext:q08 (encM (l.take i))++q08 (enc r)=q08 (encM (l.take (i+1))):=by rw[htake,q9z,q25];simp[encM]
   have q1:Int.tdiv (r:Int) 64=((r / 64:Nat):Int):=rfl;have q2:Int.tmod (r:Int) 64=((r % 64:Nat):Int):=rfl;have q3:Int.tdiv (r:Int) 4096=((r / 4096:Nat):Int):=rfl;have q4:Int.tdiv (r:Int) 262144=((r / 262144:Nat):Int):=rfl;have q5:Int.tmod ((r / 64:Nat):Int) 64=((r / 64 % 64:Nat):Int):=rfl;have q6:Int.tmod ((r / 4096:Nat):Int) 64=((r / 4096 % 64:Nat):Int):=rfl;rcases q7v hvr with⟨a,e⟩|⟨a,b,e⟩|⟨a,b,e⟩|⟨a,b,e⟩
   ·rw[e]at hnext;have z0:((r:Int)<128)=True:=eq_true (by omega);have hz:q08 (encM (l.take i))++[.int .u8 ((r:Int))]=q08 (encM (l.take (i+1))):=by
     rw[←hnext];congr 1
     simp only[q08,Zai,Zbe,ofNat_toNat (show r<256 by omega),Int.natCast_add,Int.cast_ofNat_Int]
    simp(disch:=omega)only[go_sem,↓reduceIte,hI,q0d,q8G,hr,q1,q2,q3,q4,q5,q6,z0];refine⟨by omega,i+1,?_,by omega,by omega⟩;refine q0h ?_ trivial;simp only[go_sem,↓reduceIte,Sub,Int.natCast_add,Int.natCast_mul,hz]
   ·rw[e]at hnext;have z0:((r:Int)<128)=False:=eq_false (by omega);have z1:((r:Int)<2048)=True:=eq_true (by omega);have hz:q08 (encM (l.take i))++[.int .u8 (192+((r / 64:Nat):Int)),.int .u8 (128+((r % 64:Nat):Int))]=q08 (encM (l.take (i+1))):=by
     rw[←hnext];congr 1
     simp only[q08,Zai,Zbe,ofNat_toNat (show 192+r / 64<256 by omega),ofNat_toNat (show 128+r % 64<256 by omega),Int.natCast_add,Int.cast_ofNat_Int]
    simp(disch:=omega)only[go_sem,↓reduceIte,hI,q0d,q8G,hr,q1,q2,q3,q4,q5,q6,z0,z1];refine⟨by omega,i+1,?_,by omega,by omega⟩;refine q0h ?_ trivial;simp only[go_sem,↓reduceIte,Sub,Int.natCast_add,Int.natCast_mul,hz]
   ·rw[e]at hnext;have z0:((r:Int)<128)=False:=eq_false (by omega);have z1:((r:Int)<2048)=False:=eq_false (by omega);have z2:((r:Int)<65536)=True:=eq_true (by omega);have hz:q08 (encM (l.take i))++[.int .u8 (224+((r / 4096:Nat):Int)),.int .u8 (128+((r / 64 % 64:Nat):Int)),.int .u8 (128+((r % 64:Nat):Int))]=q08 (encM (l.take (i+1))):=by
     rw[←hnext];congr 1
     simp only[q08,Zai,Zbe,ofNat_toNat (show 224+r / 4096<256 by omega),ofNat_toNat (show 128+r / 64 % 64<256 by omega),ofNat_toNat (show 128+r % 64<256 by omega),Int.natCast_add,Int.cast_ofNat_Int]
    simp(disch:=omega)only[go_sem,↓reduceIte,hI,q0d,q8G,hr,q1,q2,q3,q4,q5,q6,z0,z1,z2];refine⟨by omega,i+1,?_,by omega,by omega⟩;refine q0h ?_ trivial;simp only[go_sem,↓reduceIte,Sub,Int.natCast_add,Int.natCast_mul,hz]
   ·rw[e]at hnext;have z0:((r:Int)<128)=False:=eq_false (by omega);have z1:((r:Int)<2048)=False:=eq_false (by omega);have z2:((r:Int)<65536)=False:=eq_false (by omega);have hz:q08 (encM (l.take i))++[.int .u8 (240+((r / 262144:Nat):Int)),.int .u8 (128+((r / 4096 % 64:Nat):Int)),.int .u8 (128+((r / 64 % 64:Nat):Int)),.int .u8 (128+((r % 64:Nat):Int))]=q08 (encM (l.take (i+1))):=by
     rw[←hnext];congr 1
     simp only[q08,Zai,Zbe,ofNat_toNat (show 240+r / 262144<256 by omega),ofNat_toNat (show 128+r / 4096 % 64<256 by omega),ofNat_toNat (show 128+r / 64 % 64<256 by omega),ofNat_toNat (show 128+r % 64<256 by omega),Int.natCast_add,Int.cast_ofNat_Int]
    simp(disch:=omega)only[go_sem,↓reduceIte,hI,q0d,q8G,hr,q1,q2,q3,q4,q5,q6,z0,z1,z2];refine⟨by omega,i+1,?_,by omega,by omega⟩;refine q0h ?_ trivial;simp only[go_sem,↓reduceIte,Sub,Int.natCast_add,Int.natCast_mul,hz]
  ·have:i=l.length:=by omega
   subst this;simp only[go_sem,↓reduceIte,q2E,Zcf]
def onM(s:List UInt8)(n:Nat):Option (List UInt8):=
 match q1g s with
 |none=>none
 |some rs=>if rs=[]then none else
  if 1114111<rs.getLastD 0+n∨(55295<rs.getLastD 0+n∧rs.getLastD 0+n<57344)∨(rs.getLastD 0≤55295∧57344≤rs.getLastD 0+n)then none
  else some (encM (rs.dropLast++[rs.getLastD 0+n]))
def q1n(o:Option (List UInt8)):Res:=match o with
 |some t=>.tup [.str t,.bool true]
 |none=>.tup [.str [],.bool false]
theorem z9e{rs:List Nat}(h:rs≠[]):rs[rs.length-1]?=some (rs.getLastD 0):=by
 rw[List.getLastD_eq_getLast?,List.getLast?_eq_getElem?];have:rs.length-1<rs.length:=by have:=Zcw.2 h;omega
 rw[Zaf this];rfl
theorem j5q{rs:List Nat}(h:rs≠[])(x:Nat):rs.set (rs.length-1) x=rs.dropLast++[x]:=by
 obtain⟨a,b,rfl⟩:∃a b,rs=a++[b]:=⟨rs.dropLast,rs.getLast h,(List.dropLast_concat_getLast h).symm⟩;rw[List.dropLast_concat,Zaq,List.set_append_right _ _ (by simp)];simp
theorem z6Q(l:List Nat)(i x:Nat):(q2C l).set i (.int .i64 x)=q2C (l.set i x):=by simp[q2C,List.map_set]
theorem q5T(l:List Nat):∀y∈q2C l,y.cells=[y]:=fun y hy=>by
 simp only[q2C,Zak]at hy;obtain⟨n,_,rfl⟩:=hy;rfl
theorem j5Y:q3V Tryz.prog 96=some (3,1,8):=by kernel_rfl
theorem j15:q9N Tryz.prog 3=true:=by kernel_rfl
theorem j8g:isSl Tryz.prog 96=true:=by kernel_rfl
def q6n:q0m:=
 .seq (.reg [Qx 4 (.k (.d (.str []))),Qx 5 KF]) (.seq (.reg [Qc 12 0,⟨some 13,.call 64 [.t 12],none⟩,Qc 11 13,Q 14 (.ext 0 (.t 11)),Q 15 (.ext 1 (.t 11)),Qa 6 14,Qa 7 15]) 
 (.seq (.seq (.reg [Qc 16 7,Q 17 (.not (.t 16)),Qc 18 17,Qd 19 6 18 false,Qg 20 (.len false (.t 19)) 18 false,Qg 21 (.bin .eql (.t 20) (Ki 0)) 18 false,Q 22 (.pick (.t 18) 
 KT (.t 21))]) (.cond (.t 22) (.seq (.reg [Qx 4 (.k (.d (.str []))),Qx 5 KF]) .ret) .skip)) (.seq (.reg [Qc 23 6,Qc 24 6,Q 25 (.len false (.t 24)),Q 26 (.bin .sub (.t 25) (Ki 
 1)),Q 27 (.ia 1 (.t 23) (.t 26)),Q 28 (.ld false 1 (.t 27)),Qa 8 28]) (.seq (.reg [Qc 29 8,Qc 30 1,Q 31 (.bin .add (.t 29) (.t 30)),Qa 9 31]) (.seq (.seq (.reg [Qc 32 9,Q 
 33 (.bin .gtr (.t 32) (Ki 1114111)),Qc 34 33,Qd 35 9 34 false,Qg 36 (.bin .gtr (.t 35) (Ki 55295)) 34 false,Qd 37 36 34 false,Qd 38 9 37 true,Qg 39 (.bin .lss (.t 38) (Ki 
 57344)) 37 true,Qg 40 (.pick (.t 37) (.t 39) KF) 34 false,Q 41 (.pick (.t 34) KT (.t 40)),Qc 42 41,Qd 43 8 42 false,Qg 44 (.bin .leq (.t 43) (Ki 55295)) 42 false,Qd 45 44 
 42 false,Qd 46 9 45 true,Qg 47 (.bin .geq (.t 46) (Ki 57344)) 45 true,Qg 48 (.pick (.t 45) (.t 47) KF) 42 false,Q 49 (.pick (.t 42) KT (.t 48))]) (.cond (.t 49) (.seq (.reg 
 [Qx 4 (.k (.d (.str []))),Qx 5 KF]) .ret) .skip)) (.seq (.reg [Qc 50 6,⟨some 51,.prim (.bi .append [96,96]) [.k (.d (.list [])),.t 50] [],none⟩,Qa 10 51]) (.seq (.reg [Qc 
 52 10,Qc 53 10,Q 54 (.len false (.t 53)),Q 55 (.bin .sub (.t 54) (Ki 1)),Qc 56 9,Q 57 (.ia 1 (.t 52) (.t 55)),⟨none,.st 1 (.t 57) (.t 56),none⟩]) (.seq (.reg [Qc 58 10, 
 ⟨some 59,.call 92 [.t 58],none⟩,Qa 4 59,Qx 5 KT]) .ret))))))))
def q6r:List LRes:=[.tmp 4,.tmp 5]
theorem q78:q0t Tryz.prog 65 60 q6n q6r:=⟨_,_,Tryz.func65,rfl,by kernel_rfl,by kernel_rfl,rfl⟩
theorem j4O(s:List UInt8)(n:Nat)(hs:s.length≤1000000)(hn:n≤1000000):q0y Tryz.prog 65 [.str s,.int .i64 n] (fun r=>r=q1n (onM s n)):=by
 refine q78.call rfl ?_;simp only[go_sem,↓reduceIte,q6n,q6r];refine q0i.of (z09 s (by omega)) ?_;unfold onM;cases hrs:q1g s with
 |none=>
  simp only[q2D];simp only[go_sem,↓reduceIte];simp[q1n]
 |some rs=>
  obtain⟨e1,e2⟩:=q83 s.length (Zal _) hrs;have hI:((q2C rs).length:Int)=(rs.length:Int):=by rw[q0J]
  simp only[q2D]
  by_cases h0:rs=[]
  ·subst h0;simp only[go_sem,↓reduceIte,q2C];simp[q1n]
  ·have hpos:=Zcw.2 h0;have hlast:=z9e h0;have hlv:=e2 _ (Zaa hlast);have hle:rs.length≤s.length:=by
    rw[←e1];have:∀l:List Nat,(∀r∈l,q3m r)→l.length≤(encM l).length:=fun l=>by
     induction l with
     |nil=>intro _;simp
     |cons a l ih=>
      intro h;have h1:=(z4Y (h a (by simp))).1;have h2:=ih fun x hx=>h x (Zbp _ hx)
      have h3:encM (a::l)=enc a++encM l:=rfl;rw[h3,Zaq,Zad];omega
    exact this rs e2
   rw[if_neg h0];have hd:=j5q h0 (rs.getLastD 0+n);generalize rs.getLastD 0=k at *;unfold q3m at hlv;have z0:((rs.length:Int)=0)=False:=eq_false (by omega);have g1:getI (q2C rs) ((rs.length:Int)-1)=some (.int .i64 k):=by
    rw[show((rs.length:Int)-1)=((rs.length-1:Nat):Int) by omega,q0d,q8G,hlast];rfl
   by_cases hb:1114111<k+n∨(55295<k+n∧k+n<57344)∨(k≤55295∧57344≤k+n)
   ·rw[if_pos hb]
    by_cases hA:1114111<k+n
    ·have zA:(1114111<(k:Int)+n)=True:=eq_true (by omega);simp(disch:=omega)only[go_sem,↓reduceIte,hI,z0,g1,zA];simp[q1n]
    ·by_cases hB:55295<k+n∧k+n<57344
     ·have zA:(1114111<(k:Int)+n)=False:=eq_false (by omega);have zB:(55295<(k:Int)+n)=True:=eq_true (by omega);have zC:((k:Int)+n<57344)=True:=eq_true (by omega);simp(disch:=omega)only[go_sem,↓reduceIte,hI,z0,g1,zA,zB,zC];simp[q1n]
     ·have zA:(1114111<(k:Int)+n)=False:=eq_false (by omega);have zB:(55295<(k:Int)+n)=True:=eq_true (by omega);have zC:((k:Int)+n<57344)=False:=eq_false (by omega);have zD:((k:Int)≤55295)=True:=eq_true (by omega);have zE:(57344≤(k:Int)+n)=True:=eq_true (by omega);simp(disch:=omega)only[go_sem,↓reduceIte,hI,z0,g1,zA,zB,zC,zD,zE];simp[q1n]
   ·rw[if_neg hb];have zA:(1114111<(k:Int)+n)=False:=eq_false (by omega);have hnl:(rs.dropLast++[k+n]).length=rs.length:=by rw[←hd,List.length_set]
    have hvn:∀r∈rs.dropLast++[k+n],q3m r:=fun r hr=>by
     rcases Zbb.1 hr with hr|hr
     ·exact e2 r ((List.dropLast_subset _ hr))
     ·simp at hr;subst hr;unfold q3m;omega
    by_cases hB:55295<k+n
    ·have zB:(55295<(k:Int)+n)=True:=eq_true (by omega);have zC:((k:Int)+n<57344)=False:=eq_false (by omega);have zE:(57344≤(k:Int)+n)=True:=eq_true (by omega);have zD:((k:Int)≤55295)=False:=eq_false (by omega);simp(disch:=omega)only[go_sem,↓reduceIte,hI,z0,g1,zA,zB,zC,zE,zD]
     refine q0e.j5K (fs:=[]) (ys:=q2C rs) (c:=0) j5Y j15 j8g (.inl ⟨.inr rfl,rfl⟩) rfl (by intro h;exact h0 (Zbq.1 (by rw[←q0J,h];rfl))) (fun y hy=>by rw[q5T _ y hy];rfl) (by simp) (by simp only[Zam,q0J,maxLen];omega) (fun c' h1 h2=>?_);have hrl:(rowC 1 (q2C rs) c').length=c':=by rw[q4j (fun y hy=>by rw[q5T _ y hy];rfl) (by simpa using h1)];omega
     have hcl:rs.length≤c':=by simpa[q0J]using h1
     have hset:(rowC 1 (q2C rs) c').set (rs.length-1) (.d (.int .i64 ((k:Int)+n)))=rowC 1 (q2C (rs.dropLast++[k+n])) c':=by
      rw[←Int.natCast_add,z9H (q5T rs) (by rw[q0J];omega) rfl,z6Q,hd]
     have hto:((rs.length:Int)-1).toNat=rs.length-1:=by omega
     simp(disch:=omega)only[go_sem,↓reduceIte,hI,q0J,hrl,hto,Nat.mul_one,hset];refine⟨by omega,by omega,q0i.j7X (z3F.frozen (k:=51) (sz:=1) (c:=c') (fs:=q2C (rs.dropLast++[k+n])) (by rw[q0J,hnl];rfl) rfl (fun y hy=>by rw[q5T _ y hy];rfl) (by rw[q0J,hnl];exact hcl) (q2K _ hvn (by rw[hnl];omega)) ?_)⟩;simp only[go_sem,↓reduceIte];simp[q1n]
    ·have zB:(55295<(k:Int)+n)=False:=eq_false (by omega);have zE:(57344≤(k:Int)+n)=False:=eq_false (by omega)
     by_cases hD:k≤55295
     ·have zD:((k:Int)≤55295)=True:=eq_true (by omega);simp(disch:=omega)only[go_sem,↓reduceIte,hI,z0,g1,zA,zB,zE,zD];refine q0e.j5K (fs:=[]) (ys:=q2C rs) (c:=0) j5Y j15 j8g (.inl ⟨.inr rfl,rfl⟩) rfl (by intro h;exact h0 (Zbq.1 (by rw[←q0J,h];rfl))) (fun y hy=>by rw[q5T _ y hy];rfl) (by simp) (by simp only[Zam,q0J,maxLen];omega) (fun c' h1 h2=>?_)
      have hrl:(rowC 1 (q2C rs) c').length=c':=by rw[q4j (fun y hy=>by rw[q5T _ y hy];rfl) (by simpa using h1)];omega
      have hcl:rs.length≤c':=by simpa[q0J]using h1
      have hset:(rowC 1 (q2C rs) c').set (rs.length-1) (.d (.int .i64 ((k:Int)+n)))=rowC 1 (q2C (rs.dropLast++[k+n])) c':=by
       rw[←Int.natCast_add,z9H (q5T rs) (by rw[q0J];omega) rfl,z6Q,hd]
      have hto:((rs.length:Int)-1).toNat=rs.length-1:=by omega
      simp(disch:=omega)only[go_sem,↓reduceIte,hI,q0J,hrl,hto,Nat.mul_one,hset];refine⟨by omega,by omega,q0i.j7X (z3F.frozen (k:=51) (sz:=1) (c:=c') (fs:=q2C (rs.dropLast++[k+n])) (by rw[q0J,hnl];rfl) rfl (fun y hy=>by rw[q5T _ y hy];rfl) (by rw[q0J,hnl];exact hcl) (q2K _ hvn (by rw[hnl];omega)) ?_)⟩;simp only[go_sem,↓reduceIte];simp[q1n]
     ·exfalso;omega
structure Span where
 fr:Int
 «to» : Int
 tx:List UInt8
def Span.d(x:Span):D:=.agg [.int .i64 x.fr,.int .i64 x.to,.str x.tx]
def q1s(l:List Span):List D:=l.map Span.d
theorem q6h(l:List Span):(q1s l).length=l.length:=by simp[q1s]
theorem q0w(l:List Span)(j:Nat):(q1s l)[j]?=(l[j]?).map Span.d:=by simp[q1s]
def Span.wf(x:Span):Prop := -9223372036854775808≤x.fr∧x.fr≤9223372036854775807 ∧ -9223372036854775808≤x.to∧x.to≤9223372036854775807∧x.tx.length≤1000000
def q6M(most:Int)(prev:Option Int)(x:Span):Nat:=
 if x.fr<0∨most<x.to then 1
 else if x.to<x.fr∨(∃p,prev=some p∧x.fr≤p)∨q1g x.tx=none∨x.tx=[]∨40<x.tx.length then 3
 else if onM x.tx (x.to-x.fr).toNat=none then 3 else 0
instance (prev:Option Int) (f:Int):Decidable (∃p,prev=some p∧f≤p):=match prev with
 |none=>.isFalse (by rintro⟨p,h,_⟩;cases h)
 |some p=>if h:f≤p then .isTrue ⟨p,rfl,h⟩else .isFalse (by rintro⟨q,h1,h2⟩;cases h1;exact h h2)
def q50(most:Int):Option Int→List Span→Nat
 |_,[]=>0
 |prev,x::r=>if q6M most prev x=0 then q50 most (some x.to) r else q6M most prev x
def z6P(wide:Bool):Int:=if wide=true then 65535 else 255
def z4k(l:List Span)(wide:Bool):Nat:=if 300<l.length then 2 else q50 (z6P wide) none l
def q6V(l:List Span)(i:Nat):Option Int:=if i=0 then none else(l[i-1]?).map Span.to
theorem q8H(s:List UInt8)(m:Int)(hs:s.length≤1000000)(h0:0≤m)(h1:m≤1000000):q0y Tryz.prog 65 [.str s,.int .i64 m] (fun r=>r=q1n (onM s m.toNat)):=by
 obtain⟨n,rfl⟩:=Int.eq_ofNat_of_zero_le h0;exact j4O s n hs (by omega)
def q13:q0m:=
 .seq (.reg [Qx 4 (Ki 0)]) (.seq (.seq (.reg [Qc 12 0,Q 13 (.len false (.t 12)),Q 14 (.bin .gtr (.t 13) (Ki 300))]) (.cond (.t 14) (.seq (.reg [Qx 4 (Ki 2)]) .ret) .skip)) (.seq 
 (.reg [Qx 5 (Ki 255)]) (.seq (.seq (.reg [Qc 15 1]) (.cond (.t 15) (.reg [Qx 5 (Ki 65535)]) .skip)) (.seq (.seq (.reg [Qx 6 (Ki 0)]) (.block 0 (.loop (.seq (.seq (.reg [Qc 16 6, 
 Qc 17 0,Q 18 (.len false (.t 17)),Q 19 (.bin .lss (.t 16) (.t 18))]) (.cond (.t 19) .skip (.exit 0))) (.seq (.block 1 (.seq (.reg [Qc 22 0,Qc 23 6,Q 24 (.ia 3 (.t 22) (.t 
 23)),Q 25 (.ld true 3 (.t 24)),⟨some 7,.allo [.int .i64 0,.int .i64 0,.str []],none⟩,⟨none,.st 3 (.t 7) (.t 25),none⟩]) (.seq (.seq (.reg [Q 26 (.fa 0 (.t 7)),Q 27 (.ld 
 false 1 (.t 26)),Q 28 (.bin .lss (.t 27) (Ki 0)),Qc 29 28,Qg 30 (.fa 1 (.t 7)) 29 false,Qg 31 (.ld false 1 (.t 30)) 29 false,Qd 32 5 29 false,Qg 33 (.bin .gtr (.t 31) (.t 
 32)) 29 false,Q 34 (.pick (.t 29) KT (.t 33))]) (.cond (.t 34) (.seq (.reg [Qx 4 (Ki 1)]) .ret) .skip)) (.seq (.reg [Q 36 (.fa 2 (.t 7)),Q 37 (.ld false 1 (.t 36)),⟨some 38, 
 .call 64 [.t 37],none⟩,Qc 35 38,Q 39 (.ext 0 (.t 35)),Q 40 (.ext 1 (.t 35)),Qa 8 39,Qa 9 40]) (.seq (.seq (.dreg [Q 41 (.fa 0 (.t 7)),Q 42 (.ld false 1 (.t 41)),Q 43 (.fa 
 1 (.t 7)),Q 44 (.ld false 1 (.t 43)),Q 45 (.bin .gtr (.t 42) (.t 44)),Qc 46 45,Qd 47 6 46 false,Qg 48 (.bin .gtr (.t 47) (Ki 0)) 46 false,Qd 49 48 46 false,Qg 50 (.fa 0 
 (.t 7)) 49 true,Qg 51 (.ld false 1 (.t 50)) 49 true,Qd 52 0 49 true,Qd 53 6 49 true,Qg 54 (.bin .sub (.t 53) (Ki 1)) 49 true,Qg 55 (.ia 3 (.t 52) (.t 54)) 49 true,Qg 56 
 (.fa 1 (.t 55)) 49 true,Qg 57 (.ld false 1 (.t 56)) 49 true,Qg 58 (.bin .leq (.t 51) (.t 57)) 49 true,Qg 59 (.pick (.t 49) (.t 58) KF) 46 false,Q 60 (.pick (.t 46) KT (.t 
 59)),Qc 61 60,Qd 62 9 61 false,Qg 63 (.not (.t 62)) 61 false,Q 64 (.pick (.t 61) KT (.t 63)),Qc 65 64,Qg 66 (.fa 2 (.t 7)) 65 false,Qg 67 (.ld false 1 (.t 66)) 65 false, 
 Qg 68 (.bin .eql (.t 67) (.k (.d (.str [])))) 65 false,Q 69 (.pick (.t 65) KT (.t 68)),Qc 70 69,Qg 71 (.fa 2 (.t 7)) 70 false,Qg 72 (.ld false 1 (.t 71)) 70 false,Qg 73 
 (.len true (.t 72)) 70 false,Qg 74 (.bin .gtr (.t 73) (Ki 40)) 70 false,Q 75 (.pick (.t 70) KT (.t 74))]) (.cond (.t 75) (.seq (.reg [Qx 4 (Ki 3)]) .ret) .skip)) (.seq (.reg [Q 
 77 (.fa 2 (.t 7)),Q 78 (.ld false 1 (.t 77)),Q 79 (.fa 1 (.t 7)),Q 80 (.ld false 1 (.t 79)),Q 81 (.fa 0 (.t 7)),Q 82 (.ld false 1 (.t 81)),Q 83 (.bin .sub (.t 80) (.t 82)), 
 ⟨some 84,.call 65 [.t 78,.t 83],none⟩,Qc 76 84,Q 85 (.ext 0 (.t 76)),Q 86 (.ext 1 (.t 76)),Qa 10 85,Qa 11 86]) (.seq (.reg [Qc 87 11,Q 88 (.not (.t 87))]) (.cond (.t 88) 
 (.seq (.reg [Qx 4 (Ki 3)]) .ret) .skip)))))))) (.reg [Qc 20 6,Q 21 (.bin .add (.t 20) (Ki 1)),Qa 6 21])))))) (.seq (.reg [Qx 4 (Ki 0)]) .ret)))))
def q19:List LRes:=[.tmp 4]
theorem q5P:q0t Tryz.prog 40 89 q13 q19:=⟨_,_,Tryz.func40,rfl,by kernel_rfl,by kernel_rfl,rfl⟩
theorem z3s(l:List Span)(wide:Bool)(hw:∀x∈l,x.wf):q0y Tryz.prog 40 [.list (q1s l),.bool wide] (fun r=>r=.one (.int .i64 (z4k l wide))):=by
 have hI:((q1s l).length:Int)=(l.length:Int):=by rw[q6h]
 refine q5P.call rfl ?_;unfold z4k
 by_cases h300:300<l.length
 ·rw[if_pos h300];have z:(300<(l.length:Int))=True:=eq_true (by omega);simp only[go_sem,↓reduceIte,q13,q19,hI,z]
 ·rw[if_neg h300];have z:(300<(l.length:Int))=False:=eq_false (by omega);generalize hR:q50 (z6P wide) none l=R;simp only[go_sem,↓reduceIte,q13,q19,hI,z];refine⟨fun hwd=>?_,fun hwd=>?_⟩
  ·have e5:z6P wide=65535:=by rw[hwd];rfl
   rw[e5]at hR;refine q0j (fun i:Nat=>⟨[(0,.d (.list (q1s l))),(5,.d (.int .i64 65535)),(6,.d (.int .i64 i))],[],[]⟩)
    (fun i=>i≤l.length∧q50 65535 (q6V l i) (l.drop i)=R) (fun i=>l.length-i) 0 ?_ ?_ ?_
   ·refine q0h ?_ trivial;simp only[go_sem,↓reduceIte,Sub,Int.natCast_add,Int.natCast_mul]
   ·exact⟨Zar _,hR⟩
   ·rintro i ⟨hi,hF⟩;simp only[go_sem,↓reduceIte,hI];refine⟨fun hlt=>?_,fun hge=>?_⟩
    ·obtain⟨x,hx⟩:=get_some (l:=l) (i:=i) (by omega);obtain⟨w1,w2,w3,w4,w5⟩:=hw x (Zaa hx);rw[q07 hx,q50]at hF;have hprev:q6V l (i+1)=some x.to:=by unfold q6V;rw[if_neg (by omega),Nat.add_sub_cancel,hx];rfl
     rw[←hprev]at hF;have hbad:∀k:Nat,k≠0→q6M 65535 (q6V l i) x=k→Res.one (.int .i64 (k:Int))=Res.one (.int .i64 (R:Int)):=fun k h0 h=>by rw[h,if_neg h0]at hF;rw[hF]
     unfold q6M at hF hbad
     by_cases hA:x.fr<0∨65535<x.to
     ·have b1:=hbad 1 (by decide) (if_pos hA)
      by_cases hA1:x.fr<0
      ·have z1:=eq_true hA1;simp(disch:=omega)only[go_sem,↓reduceIte,hI,q0d,q0w,hx,Span.d,z1];exact b1
      ·have z1:=eq_false hA1;have z2:(65535<x.to)=True:=eq_true (by omega);simp(disch:=omega)only[go_sem,↓reduceIte,hI,q0d,q0w,hx,Span.d,z1,z2];exact b1
     ·rw[if_neg hA]at hF;simp only[if_neg hA]at hbad;have z1:(x.fr<0)=False:=eq_false (by omega);have z2:(65535<x.to)=False:=eq_false (by omega);simp(disch:=omega)only[go_sem,↓reduceIte,hI,q0d,q0w,hx,Span.d,z1,z2];refine q0i.of (z09 x.tx (by omega)) ?_
      by_cases hC:x.to<x.fr
      ·have b3:=hbad 3 (by decide) (if_pos (.inl hC));have z3:=eq_true hC;cases hrs:q1g x.tx<;>(simp only[q2D];simp(disch:=omega)only[go_sem,↓reduceIte,z3];exact b3)
      ·have z3:=eq_false hC
       by_cases hi0:i=0
       ·have z4:(0<(i:Int))=False:=eq_false (by omega);have hp:¬ ∃p,q6V l i=some p∧x.fr≤p:=by rintro⟨p,h1,_⟩;unfold q6V at h1;rw[if_pos hi0]at h1;cases h1
        cases hrs:q1g x.tx with
        |none=>
         have b3:=hbad 3 (by decide) (if_pos (.inr (.inr (.inl hrs))));simp only[q2D];simp(disch:=omega)only[go_sem,↓reduceIte,hI,q0d,q0w,hx,Span.d,z3,z4];exact b3
        |some rs=>
         simp only[q2D]
         by_cases h5:x.tx=[]
         ·have b3:=hbad 3 (by decide) (if_pos (.inr (.inr (.inr (.inl h5)))));simp(disch:=omega)only[go_sem,↓reduceIte,hI,q0d,q0w,hx,Span.d,z3,z4,h5];exact b3
         ·by_cases h6:40<x.tx.length
          ·have b3:=hbad 3 (by decide) (if_pos (.inr (.inr (.inr (.inr h6)))));have z6:(40<(x.tx.length:Int))=True:=eq_true (by omega);simp(disch:=omega)only[go_sem,↓reduceIte,hI,q0d,q0w,hx,Span.d,z3,z4,h5,z6];exact b3
          ·have hgood:¬(x.to<x.fr∨(∃p,q6V l i=some p∧x.fr≤p)∨q1g x.tx=none∨x.tx=[]∨40<x.tx.length):=by
            rintro(h|h|h|h|h)
            ·exact hC h
            ·exact hp h
            ·rw[hrs]at h;cases h
            ·exact h5 h
            ·exact h6 h
           rw[if_neg hgood]at hF;simp only[if_neg hgood]at hbad;have z6:(40<(x.tx.length:Int))=False:=eq_false (by omega);simp(disch:=omega)only[go_sem,↓reduceIte,hI,q0d,q0w,hx,Span.d,z3,z4,h5,z6];refine q0i.of (q8H x.tx (x.to-x.fr) (by omega) (by omega) (by omega)) ?_;cases ho:onM x.tx (x.to-x.fr).toNat with
           |none=>
            have b3:=hbad 3 (by decide) (if_pos ho);simp only[q1n];simp(disch:=omega)only[go_sem,↓reduceIte];exact b3
           |some u=>
            simp only[q1n];simp only[ho,reduceCtorEq,if_false,if_true]at hF;simp(disch:=omega)only[go_sem,↓reduceIte];refine⟨i+1,?_,⟨by omega,hF⟩,by omega⟩;refine q0h ?_ trivial;simp only[go_sem,↓reduceIte,Sub,Int.natCast_add,Int.natCast_mul]
       ·have z4:(0<(i:Int))=True:=eq_true (by omega);obtain⟨y,hy⟩:=get_some (l:=l) (i:=i-1) (by omega);have gy:getI (q1s l) ((i:Int)-1)=some (.agg [.int .i64 y.fr,.int .i64 y.to,.str y.tx]):=by
         rw[show((i:Int)-1)=((i-1:Nat):Int) by omega,q0d,q0w,hy];rfl
        have hpv:q6V l i=some y.to:=by unfold q6V;rw[if_neg hi0,hy];rfl
        by_cases hq:x.fr≤y.to
        ·have b3:=hbad 3 (by decide) (if_pos (.inr (.inl ⟨y.to,hpv,hq⟩)));have z7:=eq_true hq;cases hrs:q1g x.tx<;>(simp only[q2D];simp(disch:=omega)only[go_sem,↓reduceIte,z3,z4,gy,z7];exact b3)
        ·have z7:=eq_false hq;have hp:¬ ∃p,q6V l i=some p∧x.fr≤p:=by rintro⟨p,h1,h2⟩;rw[hpv]at h1;cases h1;exact hq h2
         cases hrs:q1g x.tx with
         |none=>
          have b3:=hbad 3 (by decide) (if_pos (.inr (.inr (.inl hrs))));simp only[q2D];simp(disch:=omega)only[go_sem,↓reduceIte,hI,q0d,q0w,hx,Span.d,z3,z4,gy,z7];exact b3
         |some rs=>
          simp only[q2D]
          by_cases h5:x.tx=[]
          ·have b3:=hbad 3 (by decide) (if_pos (.inr (.inr (.inr (.inl h5)))));simp(disch:=omega)only[go_sem,↓reduceIte,hI,q0d,q0w,hx,Span.d,z3,z4,gy,z7,h5];exact b3
          ·by_cases h6:40<x.tx.length
           ·have b3:=hbad 3 (by decide) (if_pos (.inr (.inr (.inr (.inr h6)))));have z6:(40<(x.tx.length:Int))=True:=eq_true (by omega);simp(disch:=omega)only[go_sem,↓reduceIte,hI,q0d,q0w,hx,Span.d,z3,z4,gy,z7,h5,z6];exact b3
           ·have hgood:¬(x.to<x.fr∨(∃p,q6V l i=some p∧x.fr≤p)∨q1g x.tx=none∨x.tx=[]∨40<x.tx.length):=by
             rintro(h|h|h|h|h)
             ·exact hC h
             ·exact hp h
             ·rw[hrs]at h;cases h
             ·exact h5 h
             ·exact h6 h
            rw[if_neg hgood]at hF;simp only[if_neg hgood]at hbad;have z6:(40<(x.tx.length:Int))=False:=eq_false (by omega);simp(disch:=omega)only[go_sem,↓reduceIte,hI,q0d,q0w,hx,Span.d,z3,z4,gy,z7,h5,z6];refine q0i.of (q8H x.tx (x.to-x.fr) (by omega) (by omega) (by omega)) ?_;cases ho:onM x.tx (x.to-x.fr).toNat with
            |none=>
             have b3:=hbad 3 (by decide) (if_pos ho);simp only[q1n];simp(disch:=omega)only[go_sem,↓reduceIte];exact b3
            |some u=>
             simp only[q1n];simp only[ho,reduceCtorEq,if_false,if_true]at hF;simp(disch:=omega)only[go_sem,↓reduceIte];refine⟨i+1,?_,⟨by omega,hF⟩,by omega⟩;refine q0h ?_ trivial;simp only[go_sem,↓reduceIte,Sub,Int.natCast_add,Int.natCast_mul]
    ·have:l.drop i=[]:=Zah (by omega);rw[this]at hF;simp only[q50]at hF;subst hF;rfl
  ·have e5:z6P wide=255:=by rw[hwd];rfl
   rw[e5]at hR;refine q0j (fun i:Nat=>⟨[(0,.d (.list (q1s l))),(5,.d (.int .i64 255)),(6,.d (.int .i64 i))],[],[]⟩)
    (fun i=>i≤l.length∧q50 255 (q6V l i) (l.drop i)=R) (fun i=>l.length-i) 0 ?_ ?_ ?_
   ·refine q0h ?_ trivial;simp only[go_sem,↓reduceIte,Sub,Int.natCast_add,Int.natCast_mul]
   ·exact⟨Zar _,hR⟩
   ·rintro i ⟨hi,hF⟩;simp only[go_sem,↓reduceIte,hI];refine⟨fun hlt=>?_,fun hge=>?_⟩
    ·obtain⟨x,hx⟩:=get_some (l:=l) (i:=i) (by omega);obtain⟨w1,w2,w3,w4,w5⟩:=hw x (Zaa hx);rw[q07 hx,q50]at hF;have hprev:q6V l (i+1)=some x.to:=by unfold q6V;rw[if_neg (by omega),Nat.add_sub_cancel,hx];rfl
     rw[←hprev]at hF;have hbad:∀k:Nat,k≠0→q6M 255 (q6V l i) x=k→Res.one (.int .i64 (k:Int))=Res.one (.int .i64 (R:Int)):=fun k h0 h=>by rw[h,if_neg h0]at hF;rw[hF]
     unfold q6M at hF hbad
     by_cases hA:x.fr<0∨255<x.to
     ·have b1:=hbad 1 (by decide) (if_pos hA)
      by_cases hA1:x.fr<0
      ·have z1:=eq_true hA1;simp(disch:=omega)only[go_sem,↓reduceIte,hI,q0d,q0w,hx,Span.d,z1];exact b1
      ·have z1:=eq_false hA1;have z2:(255<x.to)=True:=eq_true (by omega);simp(disch:=omega)only[go_sem,↓reduceIte,hI,q0d,q0w,hx,Span.d,z1,z2];exact b1
     ·rw[if_neg hA]at hF;simp only[if_neg hA]at hbad;have z1:(x.fr<0)=False:=eq_false (by omega);have z2:(255<x.to)=False:=eq_false (by omega);simp(disch:=omega)only[go_sem,↓reduceIte,hI,q0d,q0w,hx,Span.d,z1,z2];refine q0i.of (z09 x.tx (by omega)) ?_
      by_cases hC:x.to<x.fr
      ·have b3:=hbad 3 (by decide) (if_pos (.inl hC));have z3:=eq_true hC;cases hrs:q1g x.tx<;>(simp only[q2D];simp(disch:=omega)only[go_sem,↓reduceIte,z3];exact b3)
      ·have z3:=eq_false hC
       by_cases hi0:i=0
       ·have z4:(0<(i:Int))=False:=eq_false (by omega);have hp:¬ ∃p,q6V l i=some p∧x.fr≤p:=by rintro⟨p,h1,_⟩;unfold q6V at h1;rw[if_pos hi0]at h1;cases h1
        cases hrs:q1g x.tx with
        |none=>
         have b3:=hbad 3 (by decide) (if_pos (.inr (.inr (.inl hrs))));simp only[q2D];simp(disch:=omega)only[go_sem,↓reduceIte,hI,q0d,q0w,hx,Span.d,z3,z4];exact b3
        |some rs=>
         simp only[q2D]
         by_cases h5:x.tx=[]
         ·have b3:=hbad 3 (by decide) (if_pos (.inr (.inr (.inr (.inl h5)))));simp(disch:=omega)only[go_sem,↓reduceIte,hI,q0d,q0w,hx,Span.d,z3,z4,h5];exact b3
         ·by_cases h6:40<x.tx.length
          ·have b3:=hbad 3 (by decide) (if_pos (.inr (.inr (.inr (.inr h6)))));have z6:(40<(x.tx.length:Int))=True:=eq_true (by omega);simp(disch:=omega)only[go_sem,↓reduceIte,hI,q0d,q0w,hx,Span.d,z3,z4,h5,z6];exact b3
          ·have hgood:¬(x.to<x.fr∨(∃p,q6V l i=some p∧x.fr≤p)∨q1g x.tx=none∨x.tx=[]∨40<x.tx.length):=by
            rintro(h|h|h|h|h)
            ·exact hC h
            ·exact hp h
            ·rw[hrs]at h;cases h
            ·exact h5 h
            ·exact h6 h
           rw[if_neg hgood]at hF;simp only[if_neg hgood]at hbad;have z6:(40<(x.tx.length:Int))=False:=eq_false (by omega);simp(disch:=omega)only[go_sem,↓reduceIte,hI,q0d,q0w,hx,Span.d,z3,z4,h5,z6];refine q0i.of (q8H x.tx (x.to-x.fr) (by omega) (by omega) (by omega)) ?_;cases ho:onM x.tx (x.to-x.fr).toNat with
           |none=>
            have b3:=hbad 3 (by decide) (if_pos ho);simp only[q1n];simp(disch:=omega)only[go_sem,↓reduceIte];exact b3
           |some u=>
            simp only[q1n];simp only[ho,reduceCtorEq,if_false,if_true]at hF;simp(disch:=omega)only[go_sem,↓reduceIte];refine⟨i+1,?_,⟨by omega,hF⟩,by omega⟩;refine q0h ?_ trivial;simp only[go_sem,↓reduceIte,Sub,Int.natCast_add,Int.natCast_mul]
       ·have z4:(0<(i:Int))=True:=eq_true (by omega);obtain⟨y,hy⟩:=get_some (l:=l) (i:=i-1) (by omega);have gy:getI (q1s l) ((i:Int)-1)=some (.agg [.int .i64 y.fr,.int .i64 y.to,.str y.tx]):=by
         rw[show((i:Int)-1)=((i-1:Nat):Int) by omega,q0d,q0w,hy];rfl
        have hpv:q6V l i=some y.to:=by unfold q6V;rw[if_neg hi0,hy];rfl
        by_cases hq:x.fr≤y.to
        ·have b3:=hbad 3 (by decide) (if_pos (.inr (.inl ⟨y.to,hpv,hq⟩)));have z7:=eq_true hq;cases hrs:q1g x.tx<;>(simp only[q2D];simp(disch:=omega)only[go_sem,↓reduceIte,z3,z4,gy,z7];exact b3)
        ·have z7:=eq_false hq;have hp:¬ ∃p,q6V l i=some p∧x.fr≤p:=by rintro⟨p,h1,h2⟩;rw[hpv]at h1;cases h1;exact hq h2
         cases hrs:q1g x.tx with
         |none=>
          have b3:=hbad 3 (by decide) (if_pos (.inr (.inr (.inl hrs))));simp only[q2D];simp(disch:=omega)only[go_sem,↓reduceIte,hI,q0d,q0w,hx,Span.d,z3,z4,gy,z7];exact b3
         |some rs=>
          simp only[q2D]
          by_cases h5:x.tx=[]
          ·have b3:=hbad 3 (by decide) (if_pos (.inr (.inr (.inr (.inl h5)))));simp(disch:=omega)only[go_sem,↓reduceIte,hI,q0d,q0w,hx,Span.d,z3,z4,gy,z7,h5];exact b3
          ·by_cases h6:40<x.tx.length
           ·have b3:=hbad 3 (by decide) (if_pos (.inr (.inr (.inr (.inr h6)))));have z6:(40<(x.tx.length:Int))=True:=eq_true (by omega);simp(disch:=omega)only[go_sem,↓reduceIte,hI,q0d,q0w,hx,Span.d,z3,z4,gy,z7,h5,z6];exact b3
           ·have hgood:¬(x.to<x.fr∨(∃p,q6V l i=some p∧x.fr≤p)∨q1g x.tx=none∨x.tx=[]∨40<x.tx.length):=by
             rintro(h|h|h|h|h)
             ·exact hC h
             ·exact hp h
             ·rw[hrs]at h;cases h
             ·exact h5 h
             ·exact h6 h
            rw[if_neg hgood]at hF;simp only[if_neg hgood]at hbad;have z6:(40<(x.tx.length:Int))=False:=eq_false (by omega);simp(disch:=omega)only[go_sem,↓reduceIte,hI,q0d,q0w,hx,Span.d,z3,z4,gy,z7,h5,z6];refine q0i.of (q8H x.tx (x.to-x.fr) (by omega) (by omega) (by omega)) ?_;cases ho:onM x.tx (x.to-x.fr).toNat with
            |none=>
             have b3:=hbad 3 (by decide) (if_pos ho);simp only[q1n];simp(disch:=omega)only[go_sem,↓reduceIte];exact b3
            |some u=>
             simp only[q1n];simp only[ho,reduceCtorEq,if_false,if_true]at hF;simp(disch:=omega)only[go_sem,↓reduceIte];refine⟨i+1,?_,⟨by omega,hF⟩,by omega⟩;refine q0h ?_ trivial;simp only[go_sem,↓reduceIte,Sub,Int.natCast_add,Int.natCast_mul]
    ·have:l.drop i=[]:=Zah (by omega);rw[this]at hF;simp only[q50]at hF;subst hF;rfl
def q35:q0m:=
 .seq (.reg [Qx 4 (.k (.d (.str []))),Qx 5 KF]) (.seq (.seq (.reg [Qx 6 (Ki 0)]) (.block 0 (.loop (.seq (.seq (.reg [Qc 7 6,Qc 8 0,Q 9 (.len false (.t 8)),Q 10 (.bin .lss (.t 7) 
 (.t 9))]) (.cond (.t 10) .skip (.exit 0))) (.seq (.block 1 (.seq (.reg [Qc 13 1,Qc 14 0,Qc 15 6,Q 16 (.ia 3 (.t 14) (.t 15)),Q 17 (.fa 0 (.t 16)),Q 18 (.ld false 1 (.t 17)), 
 Q 19 (.bin .geq (.t 13) (.t 18)),Qc 20 19,Qd 21 1 20 true,Qd 22 0 20 true,Qd 23 6 20 true,Qg 24 (.ia 3 (.t 22) (.t 23)) 20 true,Qg 25 (.fa 1 (.t 24)) 20 true,Qg 26 (.ld 
 false 1 (.t 25)) 20 true,Qg 27 (.bin .leq (.t 21) (.t 26)) 20 true,Q 28 (.pick (.t 20) (.t 27) KF)]) (.cond (.t 28) (.seq (.dreg [Qc 29 0,Qc 30 6,Q 31 (.ia 3 (.t 29) (.t 
 30)),Q 32 (.fa 2 (.t 31)),Q 33 (.ld false 1 (.t 32)),Qc 34 1,Qc 35 0,Qc 36 6,Q 37 (.ia 3 (.t 35) (.t 36)),Q 38 (.fa 0 (.t 37)),Q 39 (.ld false 1 (.t 38)),Q 40 (.bin .sub 
 (.t 34) (.t 39)),⟨some 41,.call 65 [.t 33,.t 40],none⟩,Q 42 (.ext 0 (.t 41)),Q 43 (.ext 1 (.t 41)),Qa 4 42,Qa 5 43]) .ret) .skip))) (.reg [Qc 11 6,Q 12 (.bin .add (.t 
 11) (Ki 1)),Qa 6 12])))))) (.seq (.reg [Qx 4 (.k (.d (.str []))),Qx 5 KF]) .ret))
def q39:List LRes:=[.tmp 4,.tmp 5]
theorem q6e:q0t Tryz.prog 99 44 q35 q39:=⟨_,_,Tryz.func99,rfl,by kernel_rfl,by kernel_rfl,rfl⟩
def q8q:List Span→Int→Option (List UInt8)
 |[],_=>none
 |x::r,c=>if x.fr≤c∧c≤x.to then onM x.tx (c-x.fr).toNat else q8q r c
theorem q5w(l:List Span)(c:Int)(hw:∀x∈l,x.wf∧x.to-x.fr≤1000000)(hc : -9223372036854775808≤c∧c≤9223372036854775807)(hl:l.length≤1000000):q0y Tryz.prog 99 [.list (q1s l),.int .i64 c] (fun r=>r=q1n (q8q l c)):=by
 have hI:((q1s l).length:Int)=(l.length:Int):=by rw[q6h]
 refine q6e.call rfl ?_;generalize hR:q8q l c=R;simp only[go_sem,↓reduceIte,q35,q39,hI];refine q0j (fun i:Nat=>⟨[(0,.d (.list (q1s l))),(1,.d (.int .i64 c)),(6,.d (.int .i64 i))],[],[]⟩)
  (fun i=>i≤l.length∧q8q (l.drop i) c=R) (fun i=>l.length-i) 0 ?_ ?_ ?_
 ·refine q0h ?_ trivial;simp only[go_sem,↓reduceIte,Sub,Int.natCast_add,Int.natCast_mul]
 ·exact⟨Zar _,hR⟩
 ·rintro i ⟨hi,hF⟩;simp only[go_sem,↓reduceIte,hI];refine⟨fun hlt=>?_,fun hge=>?_⟩
  ·obtain⟨x,hx⟩:=get_some (l:=l) (i:=i) (by omega);obtain⟨⟨w1,w2,w3,w4,w5⟩,w6⟩:=hw x (Zaa hx);rw[q07 hx,q8q]at hF
   by_cases hA:x.fr≤c∧c≤x.to
   ·rw[if_pos hA]at hF;have z1:=eq_true hA.1;have z2:=eq_true hA.2;simp(disch:=omega)only[go_sem,↓reduceIte,hI,q0d,q0w,hx,Span.d,z1,z2];refine q6a.of (q8H x.tx (c-x.fr) (by omega) (by omega) (by omega)) ?_;rw[hF];cases R<;>(simp only[q1n];simp(disch:=omega)only[go_sem,↓reduceIte])
   ·rw[if_neg hA]at hF
    by_cases hA1:x.fr≤c
    ·have z1:=eq_true hA1;have z2:(c≤x.to)=False:=eq_false (by omega);simp(disch:=omega)only[go_sem,↓reduceIte,hI,q0d,q0w,hx,Span.d,z1,z2];refine⟨i+1,?_,⟨by omega,hF⟩,by omega⟩;refine q0h ?_ trivial;simp only[go_sem,↓reduceIte,Sub,Int.natCast_add,Int.natCast_mul]
    ·have z1:=eq_false hA1;simp(disch:=omega)only[go_sem,↓reduceIte,hI,q0d,q0w,hx,Span.d,z1];refine⟨i+1,?_,⟨by omega,hF⟩,by omega⟩;refine q0h ?_ trivial;simp only[go_sem,↓reduceIte,Sub,Int.natCast_add,Int.natCast_mul]
  ·have:l.drop i=[]:=Zah (by omega);rw[this]at hF;simp only[q8q]at hF;subst hF;rfl
open Go.Proofs Go.RowKit
open Go.Shelf
def z6y:Go.Shelf.Ren:=⟨fun|271=>151|120=>153|197=>154|260=>155|n=>n,fun|9=>9|21=>21|3=>3|4=>4|5=>5|105=>200|119=>204|0=>0|46=>193|139=>207|138=>206|n=>n,fun|3=>1|4=>2|n=>n⟩
theorem j4t:Go.Proofs.LaysM.n271 Tryz.prog z6y where
 mixed:=by kernel_rfl
 f120:=Tryz.func153.trans (congrArg some (by kernel_rfl))
 f197:=Tryz.func154.trans (congrArg some (by kernel_rfl))
 f260:=Tryz.func155.trans (congrArg some (by kernel_rfl))
 f271:=Tryz.func151.trans (congrArg some (by kernel_rfl))
 t0:=Tryz.underlying0
 a0:=Tryz.isAgg0
 z0:=Tryz.sizeOf0
 v0:=Tryz.zeroValue0
 t3:=Tryz.underlying3
 a3:=Tryz.isAgg3
 z3:=Tryz.sizeOf3
 v3:=Tryz.zeroValue3
 t4:=Tryz.underlying4
 a4:=Tryz.isAgg4
 z4:=Tryz.sizeOf4
 v4:=Tryz.zeroValue4
 t5:=Tryz.underlying5
 a5:=Tryz.isAgg5
 z5:=Tryz.sizeOf5
 v5:=Tryz.zeroValue5
 t9:=Tryz.underlying9
 a9:=Tryz.isAgg9
 z9:=Tryz.sizeOf9
 v9:=Tryz.zeroValue9
 t21:=Tryz.underlying21
 a21:=Tryz.isAgg21
 z21:=Tryz.sizeOf21
 v21:=Tryz.zeroValue21
 t46:=Tryz.underlying193
 a46:=Tryz.isAgg193
 z46:=Tryz.sizeOf193
 v46:=Tryz.zeroValue193
 t105:=Tryz.underlying200
 a105:=Tryz.isAgg200
 z105:=Tryz.sizeOf200
 v105:=Tryz.zeroValue200
 t119:=Tryz.underlying204
 a119:=Tryz.isAgg204
 z119:=Tryz.sizeOf204
 t138:=Tryz.underlying206
 a138:=Tryz.isAgg206
 z138:=Tryz.sizeOf206
 v138:=Tryz.zeroValue206
 t139:=Tryz.underlying207
 a139:=Tryz.isAgg207
 z139:=Tryz.sizeOf207
 v139:=Tryz.zeroValue207
 g3:=by kernel_rfl
 g4:=by kernel_rfl
 i0:=by kernel_rfl
 i3:=by kernel_rfl
 i4:=by kernel_rfl
 i5:=by kernel_rfl
 i9:=by kernel_rfl
 i21:=by kernel_rfl
 i46:=by kernel_rfl
 i105:=by kernel_rfl
 i138:=by kernel_rfl
 i139:=by kernel_rfl
 m3:=by kernel_rfl
 m4:=by kernel_rfl
theorem j7G{f:Nat→Nat}{w:World}(hI:Inv.inv Tryz.prog f w):Lib.Utf8Tabs 1 2 w:=hI.2.2.1 _ _ (by kernel_rfl) (by kernel_rfl)
theorem j3U{f:Nat→Nat}{w w':World}(h:Below w.heap.size w w')(ht:∀b,w.heap.size≤b→f b=0):Fr f w f w':=
 ⟨h.size,fun b hb=>⟨h.block b hb,rfl⟩,fun b hb=>ht b (Zbw h.size hb),h.os,h.tape,h.output⟩
theorem j83{f:Nat→Nat}{w:World}{vs:Array Value}{s:List UInt8}(hsz:vs.size=1)(h:RD f w (.str s) (vs.getD 0 undef)):vs = #[.string ⟨s.toArray⟩]:=by
 match vs,hsz with
 |⟨[v]⟩,_=>cases h;rfl
theorem z2t(s:List UInt8)(hs:s.length≤1000000000):q0y Tryz.prog 151 [.str s] (fun r=>r=.tup [.int .i32 (Lib.decodeLastL s).1,.int .i64 (Lib.decodeLastL s).2]):=by
 intro f w vs hI ht hsz hrd;obtain rfl:=j83 hsz (hrd 0 _ rfl);refine(Any.utf8_DecodeLastRuneInString j4t.ton271 ⟨s.toArray⟩ w (by show s.toArray.size≤_;simp;omega) (j7G hI)).mono fun e w' ⟨he,hw⟩=>?_
 refine⟨_,_,f,rfl,he,⟨_,rfl,rfl,fun i y hi=>?_⟩,j3U hw ht⟩;match i,hi with
 |0,hi=>cases hi;exact .int _ _
 |1,hi=>cases hi;exact .int _ _
 |(i+2),hi=>simp at hi
def q9O:q0m:=
 .seq (.reg [Qx 4 (.k (.d (.str []))),Qx 5 KF]) (.seq (.reg [Qc 10 0,⟨some 11,.call 151 [.t 10],none⟩,Qc 9 11,Q 12 (.ext 0 (.t 9)),Q 13 (.ext 1 (.t 9)),Qa 6 12,Qa 7 13]) 
 (.seq (.reg [Qc 14 6,Q 15 (.cvI .i64 (.t 14)),Qc 16 1,Q 17 (.bin .add (.t 15) (.t 16)),Qa 8 17]) (.seq (.seq (.reg [Qc 18 8,Q 19 (.bin .gtr (.t 18) (Ki 1114111)),Qc 20 19, 
 Qd 21 8 20 false,Qg 22 (.bin .geq (.t 21) (Ki 55296)) 20 false,Qd 23 22 20 false,Qd 24 8 23 true,Qg 25 (.bin .lss (.t 24) (Ki 57344)) 23 true,Qg 26 (.pick (.t 23) (.t 25) 
 KF) 20 false,Q 27 (.pick (.t 20) KT (.t 26))]) (.cond (.t 27) (.seq (.reg [Qx 4 (.k (.d (.str []))),Qx 5 KF]) .ret) .skip)) (.seq (.seq (.reg [Qc 28 6,Q 29 (.cvI .i64 (.t 
 28)),Q 30 (.bin .lss (.t 29) (Ki 55296)),Qc 31 30,Qd 32 8 31 true,Qg 33 (.bin .geq (.t 32) (Ki 57344)) 31 true,Q 34 (.pick (.t 31) (.t 33) KF)]) (.cond (.t 34) (.seq (.reg 
 [Qx 4 (.k (.d (.str []))),Qx 5 KF]) .ret) .skip)) (.seq (.reg [Qc 35 0,Qc 36 0,Q 37 (.len true (.t 36)),Qc 38 7,Q 39 (.bin .sub (.t 37) (.t 38)),Q 40 (.subS (.t 35) none 
 (some (.t 39))),Qc 41 8,Q 42 (.cvI .i32 (.t 41)),Q 43 (.i2s (.t 42)),Q 44 (.bin .add (.t 40) (.t 43)),Qa 4 44,Qx 5 KT]) .ret)))))
def q9T:List LRes:=[.tmp 4,.tmp 5]
theorem z1O:q0t Tryz.prog 144 45 q9O q9T:=⟨_,_,Tryz.func144,rfl,by kernel_rfl,by kernel_rfl,rfl⟩
theorem z7v(s:List UInt8)(m:Int){rs:List Nat}(hrs:q1g s=some rs)(h0:rs≠[])(hs:s.length≤1000000)(h1:0≤m)(h2:m≤1000000):q0y Tryz.prog 144 [.str s,.int .i64 m] (fun r=>r=q1n (onM s m.toNat)):=by
 obtain⟨n,rfl⟩:=Int.eq_ofNat_of_zero_le h1;obtain⟨e1,e2⟩:=q83 s.length (Zal _) hrs;have hlast:=z9e h0;have hlv:=e2 _ (Zaa hlast);have hlv':=hlv;unfold q3m at hlv';have hsplit:s=encM rs.dropLast++enc (rs.getLastD 0):=by
  rw[←e1];obtain⟨a,b,rfl⟩:∃a b,rs=a++[b]:=⟨rs.dropLast,rs.getLast h0,(List.dropLast_concat_getLast h0).symm⟩;rw[q9z,List.dropLast_concat];simp[encM]
 have hdec:Lib.decodeLastL s=(rs.getLastD 0,(enc (rs.getLastD 0)).length):=by rw[hsplit];exact j4u hlv _
 have hel:=z4Y hlv;have hlen:s.length=(encM rs.dropLast).length+(enc (rs.getLastD 0)).length:=by conv=>lhs;rw[hsplit,Zaq]
 have htake:s.take (encM rs.dropLast).length=encM rs.dropLast:=by
  conv=>lhs;rw[hsplit]
  simp
 refine z1O.call rfl ?_;simp only[go_sem,↓reduceIte,q9O,q9T];refine q0i.of (z2t s (by omega)) ?_;rw[hdec];unfold onM;simp only[hrs,if_neg h0,Zdd];have hfin:encM rs.dropLast++enc (rs.getLastD 0+n)=encM (rs.dropLast++[rs.getLastD 0+n]):=by rw[q9z];simp[encM]
 have henc:q3m (rs.getLastD 0+n)→(Utf8.encode ((rs.getLastD 0:Int)+n)).data.toList=enc (rs.getLastD 0+n):=fun h=>by rw[←Int.natCast_add];exact z0S h
 generalize rs.getLastD 0=k at *;generalize encM rs.dropLast=pre at *
 by_cases hb:1114111<k+n∨(55295<k+n∧k+n<57344)∨(k≤55295∧57344≤k+n)
 ·rw[if_pos hb]
  by_cases hA:1114111<k+n
  ·have zA:(1114111<(k:Int)+n)=True:=eq_true (by omega);simp(disch:=omega)only[go_sem,↓reduceIte,zA];simp[q1n]
  ·by_cases hB:55295<k+n∧k+n<57344
   ·have zA:(1114111<(k:Int)+n)=False:=eq_false (by omega);have zB:(55296≤(k:Int)+n)=True:=eq_true (by omega);have zC:((k:Int)+n<57344)=True:=eq_true (by omega);simp(disch:=omega)only[go_sem,↓reduceIte,zA,zB,zC];simp[q1n]
   ·have zA:(1114111<(k:Int)+n)=False:=eq_false (by omega);have zB:(55296≤(k:Int)+n)=True:=eq_true (by omega);have zC:((k:Int)+n<57344)=False:=eq_false (by omega);have zD:((k:Int)<55296)=True:=eq_true (by omega);have zE:(57344≤(k:Int)+n)=True:=eq_true (by omega);simp(disch:=omega)only[go_sem,↓reduceIte,zA,zB,zC,zD,zE];simp[q1n]
 ·rw[if_neg hb];have zA:(1114111<(k:Int)+n)=False:=eq_false (by omega);have hv:=henc (by unfold q3m;omega);have hw32:IntKind.i32.wrap ((k:Int)+n)=(k:Int)+n:=by rw[IntWalk.i32_in _ (by omega)]
  have hcut:cutI s 0 ((s.length:Int)-(enc k).length)=pre:=by
   unfold cutI;rw[show((s.length:Int)-(enc k).length).toNat=pre.length by omega,htake];rfl
  have hfl:=z4Y (r:=k+n) (by unfold q3m;omega)
  by_cases hB:55295<k+n
  ·have zB:(55296≤(k:Int)+n)=True:=eq_true (by omega);have zC:((k:Int)+n<57344)=False:=eq_false (by omega);have zE:(57344≤(k:Int)+n)=True:=eq_true (by omega);have zD:((k:Int)<55296)=False:=eq_false (by omega);simp(disch:=omega)only[go_sem,↓reduceIte,zA,zB,zC,zE,zD,hw32,hv,hcut,hfin];refine⟨by omega,by omega,?_⟩;simp[q1n]
  ·have zB:(55296≤(k:Int)+n)=False:=eq_false (by omega);have zE:(57344≤(k:Int)+n)=False:=eq_false (by omega);have zD:((k:Int)<55296)=True:=eq_true (by omega);simp(disch:=omega)only[go_sem,↓reduceIte,zA,zB,zE,zD,hw32,hv,hcut,hfin];refine⟨by omega,by omega,?_⟩;simp[q1n]
def z16:q0m:=
 .seq (.reg [Qx 4 (.k (.d (.str []))),Qx 5 KF]) (.seq (.seq (.reg [Qc 8 0,Q 9 (.len false (.t 8)),Q 10 (.cp (Ki 0))]) (.block 0 (.loop (.seq (.reg [Q 11 (.bin .lss (.t 10) (.t 
 9))]) (.seq (.cond (.t 11) .skip (.exit 0)) (.seq (.block 1 (.seq (.reg [Q 12 (.ia 3 (.t 8) (.t 10)),Q 13 (.ld true 3 (.t 12)),⟨some 7,.allo [.int .i64 0,.int .i64 0,.str 
 []],none⟩,⟨none,.st 3 (.t 7) (.t 13),none⟩]) (.seq (.reg [Qc 14 1,Q 15 (.fa 0 (.t 7)),Q 16 (.ld false 1 (.t 15)),Q 17 (.bin .geq (.t 14) (.t 16)),Qc 18 17,Qd 19 1 18 
 true,Qg 20 (.fa 1 (.t 7)) 18 true,Qg 21 (.ld false 1 (.t 20)) 18 true,Qg 22 (.bin .leq (.t 19) (.t 21)) 18 true,Q 23 (.pick (.t 18) (.t 22) KF)]) (.cond (.t 23) (.seq (.reg 
 [Q 24 (.fa 2 (.t 7)),Q 25 (.ld false 1 (.t 24)),Qc 26 1,Q 27 (.fa 0 (.t 7)),Q 28 (.ld false 1 (.t 27)),Q 29 (.bin .sub (.t 26) (.t 28)),⟨some 30,.call 144 [.t 25,.t 29], 
 none⟩,Q 31 (.ext 0 (.t 30)),Q 32 (.ext 1 (.t 30)),Qa 4 31,Qa 5 32]) .ret) .skip)))) (.reg [Q 33 (.bin .add (.t 10) (Ki 1)),Qc 10 33]))))))) (.seq (.reg [Qx 4 (.k (.d (.str 
 []))),Qx 5 KF]) .ret))
def z2d:List LRes:=[.tmp 4,.tmp 5]
theorem z3O:q0t Tryz.prog 132 34 z16 z2d:=⟨_,_,Tryz.func132,rfl,by kernel_rfl,by kernel_rfl,rfl⟩
def j6c(x:Span):Prop:=x.wf∧x.to-x.fr≤1000000∧∃rs,q1g x.tx=some rs∧rs≠[]
theorem j3x(l:List Span)(c:Int)(hw:∀x∈l,j6c x)(hc : -9223372036854775808≤c∧c≤9223372036854775807)(hl:l.length≤1000000):q0y Tryz.prog 132 [.list (q1s l),.int .i64 c] (fun r=>r=q1n (q8q l c)):=by
 have hI:((q1s l).length:Int)=(l.length:Int):=by rw[q6h]
 refine z3O.call rfl ?_;generalize hR:q8q l c=R;simp only[go_sem,↓reduceIte,z16,z2d,hI];refine q0j (fun i:Nat=>⟨[(0,.d (.list (q1s l))),(1,.d (.int .i64 c)),(8,.d (.list (q1s l))),(9,.d (.int .i64 l.length)),(10,.d (.int .i64 i))],[],[]⟩)
  (fun i=>i≤l.length∧q8q (l.drop i) c=R) (fun i=>l.length-i) 0 ?_ ?_ ?_
 ·refine q0h ?_ trivial;simp only[go_sem,↓reduceIte,Sub,Int.natCast_add,Int.natCast_mul]
 ·exact⟨Zar _,hR⟩
 ·rintro i ⟨hi,hF⟩;simp only[go_sem,↓reduceIte,hI];refine⟨fun hlt=>?_,fun hge=>?_⟩
  ·obtain⟨x,hx⟩:=get_some (l:=l) (i:=i) (by omega);obtain⟨⟨w1,w2,w3,w4,w5⟩,w6,rs,w7,w8⟩:=hw x (Zaa hx);rw[q07 hx,q8q]at hF
   by_cases hA:x.fr≤c∧c≤x.to
   ·rw[if_pos hA]at hF;have z1:=eq_true hA.1;have z2:=eq_true hA.2;simp(disch:=omega)only[go_sem,↓reduceIte,hI,q0d,q0w,hx,Span.d,z1,z2];refine q0i.of (z7v x.tx (c-x.fr) w7 w8 (by omega) (by omega) (by omega)) ?_;rw[hF];cases R<;>(simp only[q1n];simp(disch:=omega)only[go_sem,↓reduceIte])
   ·rw[if_neg hA]at hF
    by_cases hA1:x.fr≤c
    ·have z1:=eq_true hA1;have z2:(c≤x.to)=False:=eq_false (by omega);simp(disch:=omega)only[go_sem,↓reduceIte,hI,q0d,q0w,hx,Span.d,z1,z2];refine⟨i+1,?_,⟨by omega,hF⟩,by omega⟩;refine q0h ?_ trivial;simp only[go_sem,↓reduceIte,Sub,Int.natCast_add,Int.natCast_mul]
    ·have z1:=eq_false hA1;simp(disch:=omega)only[go_sem,↓reduceIte,hI,q0d,q0w,hx,Span.d,z1];refine⟨i+1,?_,⟨by omega,hF⟩,by omega⟩;refine q0h ?_ trivial;simp only[go_sem,↓reduceIte,Sub,Int.natCast_add,Int.natCast_mul]
  ·have:l.drop i=[]:=Zah (by omega);rw[this]at hF;simp only[q8q]at hF;subst hF;rfl
end Go.Av.Tryz
