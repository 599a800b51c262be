import Derived.Test.YtgfdeebaihmkpaaGreatDoorWa
import Derived.Shelf.Strconv.Itoa3
set_option linter.unusedSimpArgs false
set_option maxRecDepth 100000
namespace Go.Av.Tryz
open Go.Proofs
mutual
def q1F:Val→Bool
 |.mk k n s l f=>
  let n0:=decide (n=0)
  let s0:=decide (s=[])
  let l0:=decide (l.length=0)
  let f0:=decide (f.length=0)
  if k=0 then n0&&(s0&&(l0&&f0))
  else if k=1 then(decide (n=0) || decide (n=1))&&(s0&&(l0&&f0))
  else if k=2 then decide (Lim n)&&(s0&&(l0&&f0))
  else if k=3 then n0&&(decide (s.length≤200)&&(l0&&f0))
  else if k=4 then n0&&(q1C s&&(l0&&f0))
  else if k=5 then n0&&(s0&&(z9z l&&f0))
  else if k=6 then n0&&(s0&&(l0&&q3O none f))
  else if k=7 then decide (1≤n∧n≤60)&&(s0&&(l0&&f0))
  else false
def z9z:List Val→Bool
 |[]=>true
 |v::r=>q1F v&&z9z r
def q3O(p:Option (List UInt8)):List Fld→Bool
 |[]=>true
 |.mk nm v::r=>(q1C nm&&(q1F v&&(match p with|some q=>Op.bytesLess q nm|none=>true)))&&q3O (some nm) r
end
theorem z3x(l:List Val):z9z l = !l.any (fun v => !q1F v):=by
 induction l with
 |nil=>rfl
 |cons v r ih=>simp[z9z,ih]
theorem q3f(v:Val):q1F v=(
  let n0:=decide (v.n=0)
  let s0:=decide (v.s=[])
  let l0:=decide (v.l.length=0)
  let f0:=decide (v.f.length=0)
  if v.kind=0 then n0&&(s0&&(l0&&f0))
  else if v.kind=1 then(decide (v.n=0) || decide (v.n=1))&&(s0&&(l0&&f0))
  else if v.kind=2 then decide (Lim v.n)&&(s0&&(l0&&f0))
  else if v.kind=3 then n0&&(decide (v.s.length≤200)&&(l0&&f0))
  else if v.kind=4 then n0&&(q1C v.s&&(l0&&f0))
  else if v.kind=5 then n0&&(s0&&(z9z v.l&&f0))
  else if v.kind=6 then n0&&(s0&&(l0&&q3O none v.f))
  else if v.kind=7 then decide (1≤v.n∧v.n≤60)&&(s0&&(l0&&f0))
  else false):=by cases v;unfold q1F;rfl
theorem j21{p:Option (List UInt8)}{l:List Fld}{x:Fld}:q3O p (l++[x])=(q3O p l&&(q1C x.name&&(q1F x.v&&(match(l.getLast?.map Fld.name).or p with|some q=>Op.bytesLess q x.name|none=>true)))):=by
 induction l generalizing p with
 |nil=>cases x;simp[q3O,Fld.name,Fld.v]
 |cons y r ih=>
  cases y with
  |mk nm v=>
   simp only[Zbe,q3O,ih,Bool.and_assoc];cases r with
   |nil=>simp[Fld.name]
   |cons z r=>
    have h1:∀q:Option (List UInt8),((z::r).getLast?.map Fld.name).or q=(z::r).getLast?.map Fld.name:=fun q=>by
     rw[List.getLast?_eq_some_getLast (by simp)];rfl
    have h2:(Fld.mk nm v::z::r).getLast?=(z::r).getLast?:=List.getLast?_cons_cons;rw[h2,h1,h1]
theorem z6t{l:List Fld}{i:Nat}{x:Fld}(hx:l[i]?=some x):q3O none (l.take (i+1))=(q3O none (l.take i)&&(q1C x.name&&(q1F x.v&&(match l[i-1]? with|some y=>if i=0 then true else Op.bytesLess y.name x.name|none=>true)))):=by
 have hl:i<l.length:=(Zac.1 hx).1;rw[Zcu,hx];simp only[Option.toList_some];rw[j21];congr 3
 by_cases h0:i=0
 ·subst h0;simp;cases l[0]?<;>rfl
 ·have:(l.take i).getLast?=l[i-1]?:=by
   rw[List.getLast?_eq_getElem?,Zaw,Zbc];have:min i l.length=i:=by omega
   rw[this,if_pos (by omega)]
  rw[this];cases hy:l[i-1]? with
  |none=>rfl
  |some y=>simp[h0]
theorem kinds(k:Int):k=0∨k=1∨k=2∨k=3∨k=4∨k=5∨k=6∨k=7∨(k≠0∧k≠1∧k≠2∧k≠3∧k≠4∧k≠5∧k≠6∧k≠7):=by omega
def q1K:q0g:=
 Qr [⟨some 1,.box (.t 0),none⟩,Qx 2 KF] (.seq (.dreg [Qf 9 1 1,Ql 10 9,Qk 11 .eql 10 0,Qf 12 2 1,Ql 13 12,Q 14 (.bin .eql (.t 13) (.k (.d (.str [])))),Qf 15 3 1,Ql 16 15, 
 Qz 17 false 16,Qk 18 .eql 17 0,Qf 19 4 1,Ql 20 19,Qz 21 false 20,Qk 22 .eql 21 0,Qc 3 11,Qc 4 14,Qc 5 18,Qc 6 22]) (.seq (Qr [Qf 23 0 1,Ql 24 23] (.block 0 (Qr [Qk 26 
 .eql 24 0,Qa 25 26] (.cond (.t 25) .skip (Qr [Qk 28 .eql 24 1,Qa 27 28] (.cond (.t 27) (.reg [Qf 29 1 1,Ql 30 29,Qk 31 .eql 30 0,Qc 32 31,Qg 33 (.fa 1 (.t 1)) 32 false,Qg 
 34 (.ld false 1 (.t 33)) 32 false,Qg 35 (.bin .eql (.t 34) (Ki 1)) 32 false,Qo 36 32 35,Qa 3 36]) (Qr [Qk 38 .eql 24 2,Qa 37 38] (.cond (.t 37) (.reg [Qf 39 1 1,Ql 40 39,Qj 
 41 137 [40],Q 42 (.eqN 0 false (.t 41)),Qa 3 42]) (Qr [Qk 44 .eql 24 3,Qa 43 44] (.cond (.t 43) (.reg [Qf 45 2 1,Ql 46 45,Qz 47 true 46,Qk 48 .leq 47 200,Qa 4 48]) (Qr [Qk 
 50 .eql 24 4,Qa 49 50] (.cond (.t 49) (.reg [Qf 51 2 1,Ql 52 51,Qj 53 133 [52],Qa 4 53]) (Qr [Qk 55 .eql 24 5,Qa 54 55] (.cond (.t 54) (.reg [Qf 56 3 1,Ql 57 56,⟨some 58, 
 .prim .call [.k (.fn (.func 138) [] []),.t 57,.k (.fn (.func 139) [] [])] [],none⟩,Qh 59 58,Qa 5 59]) (Qr [Qk 61 .eql 24 6,Qa 60 61] (.cond (.t 60) (Qr [Qf 62 4 1,Ql 63 
 62,Qz 64 false 63,Q 65 (.cp (Ki 0))] (.block 1 (.loop (Qr [Qb 66 .lss 65 64] (.seq (.cond (.t 66) .skip (.exit 1)) (.seq (.block 2 (Qr [Qc 67 65,Q 68 (.ia 6 (.t 63) (.t 65)), 
 Qm 69 6 68,⟨some 8,.allo [.str [],.int .i64 0,.int .i64 0,.str [],.list [],.list []],none⟩,Qa 7 67,Qs 6 8 69] (.dreg [Qc 70 7,Qk 71 .eql 70 0,Qc 72 71,Qd 73 6 72 
 false,Qo 74 72 73,Qc 75 74,Qg 76 (.fa 0 (.t 8)) 75 true,Qg 77 (.ld false 1 (.t 76)) 75 true,⟨some 78,.call 133 [.t 77],some (75,true)⟩,Qp 79 75 78,Qc 80 79,Qg 81 (.fa 
 1 (.t 8)) 80 true,Qg 82 (.ld true 5 (.t 81)) 80 true,⟨some 83,.call 93 [.t 82],some (80,true)⟩,Qp 84 80 83,Qc 85 84,Qd 86 7 85 true,Qg 87 (.bin .eql (.t 86) (Ki 0)) 85 
 true,Qd 88 87 85 true,Qg 89 (.fa 4 (.t 1)) 88 false,Qg 90 (.ld false 1 (.t 89)) 88 false,Qd 91 7 88 false,Qg 92 (.bin .sub (.t 91) (Ki 1)) 88 false,Qg 93 (.ia 6 (.t 90) (.t 
 92)) 88 false,Qg 94 (.fa 0 (.t 93)) 88 false,Qg 95 (.ld false 1 (.t 94)) 88 false,Qg 96 (.fa 0 (.t 8)) 88 false,Qg 97 (.ld false 1 (.t 96)) 88 false,Qg 98 (.bin .lss (.t 95) 
 (.t 97)) 88 false,Qg 99 (.pick (.t 88) KT (.t 98)) 85 true,Qp 100 85 99,Qa 6 100]))) (.reg [Qk 101 .add 65 1,Qc 65 101]))))))) (Qr [Qk 103 .eql 24 7,Qa 102 103] (.cond (.t 
 102) (.reg [Qf 104 1 1,Ql 105 104,Qk 106 .geq 105 1,Qc 107 106,Qg 108 (.fa 1 (.t 1)) 107 true,Qg 109 (.ld false 1 (.t 108)) 107 true,Qg 110 (.bin .leq (.t 109) (Ki 60)) 107 
 true,Qp 111 107 110,Qa 3 111]) (Qr [Qx 2 KF] .ret))))))))))))))))))) (Qr [Qc 112 3,Qc 113 112,Qd 114 4 113 true,Qp 115 113 114,Qc 116 115,Qd 117 5 116 true,Qp 118 116 
 117,Qc 119 118,Qd 120 6 119 true,Qp 121 119 120,Qa 2 121] .ret)))
def q1L:List LRes:=[.tmp 2]
theorem q1q:q0n Tryz.prog 93 122 q1K q1L:=⟨_,_,Tryz.func93,rfl,by kernel_rfl,by kernel_rfl,rfl⟩
def q95:q0g:=
 Qr [⟨some 1,.box (.t 0),none⟩,Qx 2 KF] (Qr [Qm 3 5 1,Qj 4 93 [3],Qh 5 4,Qa 2 5] .ret)
def q99:List LRes:=[.tmp 2]
theorem z19:q0n Tryz.prog 139 6 q95 q99:=⟨_,_,Tryz.func139,rfl,by kernel_rfl,by kernel_rfl,rfl⟩
theorem j5t:∀(m:Nat) (v:Val),SizeOf.sizeOf v≤m→v.sm 1048576=true→q0i Tryz.prog 93 [v.d] (fun r=>r=.one (.bool (q1F v))):=by
 intro m;induction m with
 |zero=>intro v h;cases v;simp at h
 |succ m ih=>
  intro v hv hsm;obtain⟨_,hll,hfl,hsl,hsf⟩:=Val.q1e.1 hsm;have hvl:=q0H v.l;have hfl':=q0D v.f;have hcl:∀x∈v.l,q0i Tryz.prog 139 [x.d] (fun r=>r=.one (.bool (!q1F x))):=fun x hx=>by
   have hc:=ih x (by have:=z1H hx;omega) (hsl x hx);rw[Val.d_eq]at hc ⊢;refine z19.call rfl ?_;simp(maxSteps:=2000000)only[go_sem,↓reduceIte,q95,q99];refine q0c.of hc ?_;simp(maxSteps:=2000000)only[go_sem,↓reduceIte]
  generalize hR:q1F v=R;rw[q3f]at hR;have cast0:∀a:Nat,((a:Int)=0)=(a=0):=fun a=>by apply propext;omega
  rw[Val.d_eq];rcases kinds v.kind with hk|hk|hk|hk|hk|hk|hk|hk|hk
  ·refine q1q.call rfl ?_;rw[hk]at hR;simp only[Int.reduceEq,↓reduceIte]at hR;simp(maxSteps:=2000000)only[go_sem,↓reduceIte,q1K,q1L,hk,hvl,hfl'];subst hR;simp only[cast0]
   by_cases c1:v.n=0<;>by_cases c2:v.s=[]<;>by_cases c3:v.l.length=0<;>by_cases c4:v.f.length=0<;>simp[c1,c2,c3,c4]
  ·refine q1q.call rfl ?_;rw[hk]at hR;simp only[Int.reduceEq,↓reduceIte]at hR;simp(maxSteps:=2000000)only[go_sem,↓reduceIte,q1K,q1L,hk,hvl,hfl'];subst hR;simp only[cast0]
   by_cases c1:v.n=0<;>by_cases c2:v.s=[]<;>by_cases c3:v.l.length=0<;>by_cases c4:v.f.length=0<;>simp[c1,c2,c3,c4]
  ·refine q1q.call rfl ?_;rw[hk]at hR;simp only[Int.reduceEq,↓reduceIte]at hR;simp(maxSteps:=2000000)only[go_sem,↓reduceIte,q1K,q1L,hk,hvl,hfl']
   by_cases hL:Lim v.n
   ·refine q0c.of (j04 hL) ?_;simp(maxSteps:=2000000)only[go_sem,↓reduceIte];subst hR;simp only[cast0]
    by_cases c2:v.s=[]<;>by_cases c3:v.l.length=0<;>by_cases c4:v.f.length=0<;>simp[hL,c2,c3,c4]
   ·refine q0c.of (z7P hL) ?_;simp(maxSteps:=2000000)only[go_sem,↓reduceIte,err];subst hR;simp[hL]
  ·refine q1q.call rfl ?_;rw[hk]at hR;simp only[Int.reduceEq,↓reduceIte]at hR;simp(maxSteps:=2000000)only[go_sem,↓reduceIte,q1K,q1L,hk,hvl,hfl'];subst hR;simp only[cast0];have c5:((v.s.length:Int)≤200)=(v.s.length≤200):=by apply propext;omega
   simp only[c5]
   by_cases c1:v.n=0<;>by_cases c2:v.s.length≤200<;>by_cases c3:v.l.length=0<;>by_cases c4:v.f.length=0<;>simp[c1,c2,c3,c4]
  ·refine q1q.call rfl ?_;rw[hk]at hR;simp only[Int.reduceEq,↓reduceIte]at hR;simp(maxSteps:=2000000)only[go_sem,↓reduceIte,q1K,q1L,hk,hvl,hfl'];refine q0c.of (q9j v.s) ?_;simp(maxSteps:=2000000)only[go_sem,↓reduceIte];subst hR;simp only[cast0]
   by_cases c1:v.n=0<;>cases c2:q1C v.s<;>by_cases c3:v.l.length=0<;>by_cases c4:v.f.length=0<;>simp[c1,c3,c4]
  ·refine q1q.call rfl ?_;rw[hk]at hR;simp only[Int.reduceEq,↓reduceIte]at hR;simp(maxSteps:=2000000)only[go_sem,↓reduceIte,q1K,q1L,hk,hvl,hfl'];refine q0e.q0C ([]) ([]) rfl (z1Q 139 (by kernel_rfl) v.l (by omega) _ hcl) rfl rfl (by simp only[q0R,St.obj,aget,AObj.ren,AV.ren,AV.ren1,renL,q1P,renR,renQ,Zap,Zaq,and_true,and_self,Nat.reduceEqDiff,↓reduceIte,reduceCtorEq]) rfl rfl rfl ⟨rfl,rfl⟩ ?_;simp(maxSteps:=2000000)only[go_sem,↓reduceIte];subst hR;rw[z3x]
   simp only[cast0]
   by_cases c1:v.n=0<;>by_cases c2:v.s=[]<;>cases c3:v.l.any (fun v => !q1F v)<;>by_cases c4:v.f.length=0<;>simp[c1,c2,c4]
  ·refine q1q.call rfl ?_;rw[hk]at hR;simp only[Int.reduceEq,↓reduceIte]at hR;simp(maxSteps:=2000000)only[go_sem,↓reduceIte,q1K,q1L,hk,hvl,hfl'];refine q0f (fun y:Nat×Bool=>⟨[(1,.ptr (.l 1) 0),(3,.d (.bool (decide (v.n=0)))),(4,.d (.bool (decide (v.s=[])))),(5,.d (.bool (decide ((v.l.length:Int)=0)))),(6,.d (.bool y.2)),(63,.d (.list (q0k v.f))),(64,.d (.int .i64 v.f.length)),(65,.d (.int .i64 y.1))],
     [(1,.cells [.d (.int .i64 6),.d (.int .i64 v.n),.d (.str v.s),.d (.list (q0m v.l)),.d (.list (q0k v.f))])],[]⟩)
    (fun y=>y.1≤v.f.length∧(y.1=0→y.2=decide (v.f.length=0))∧(y.1≠0→y.2=q3O none (v.f.take y.1))) (fun y=>v.f.length-y.1) (0,decide (v.f.length=0)) ?_ ?_ ?_
   ·refine Weak.mk ?_ ?_ ?_<;>simp(maxSteps:=2000000)only[go_sem,↓reduceIte,Sub,Zaa,Zab,cast0]
   ·exact⟨by simp,fun _=>rfl,fun h=>absurd rfl h⟩
   ·rintro⟨i,fb⟩ ⟨hi,hz,hnz⟩;simp only at hi hz hnz;simp(maxSteps:=2000000)only[go_sem,↓reduceIte];refine⟨fun hlt=>?_,fun hge=>?_⟩
    ·obtain⟨x,hx⟩:=get_some (l:=v.f) (i:=i) (by omega);have hsx:=Fld.q1e.1 (hsf x (Zaf hx));have hc:=ih x.v (by have:=z1G (Zaf hx);omega) hsx.2;have hn:=q9j x.name;rw[Val.d_eq]at hc;have hstep:q3O none (v.f.take (i+1))=(q3O none (v.f.take i)&&(q1C x.name&&(q1F x.v&&(match v.f[i-1]? with|some y=>if i=0 then true else Op.bytesLess y.name x.name|none=>true)))):=z6t hx;simp(maxSteps:=2000000)(disch:=omega)only[go_sem,↓reduceIte,q0a,q0K,hx,Fld.d_eq]
     refine⟨fun g1=>?_,fun g1=>?_⟩
     ·have i0:i≠0:=by omega
      have hfb:=hnz i0;obtain⟨y,hy⟩:=get_some (l:=v.f) (i:=i-1) (by omega);have hgy:getI (q0k v.f) ((i:Int)-1)=some y.d:=by
       have:(i:Int)-1=((i-1:Nat):Int):=by omega
       rw[this,q0a,q0K,hy];rfl
      rw[hy]at hstep;simp only[i0,if_false,←hfb]at hstep;refine⟨fun f1=>?_,fun f1=>?_⟩
      ·refine q1E.of hn ?_;simp(maxSteps:=2000000)(disch:=omega)only[go_sem,↓reduceIte];refine⟨fun n1=>?_,fun n1=>?_⟩
       ·refine q1E.of hc ?_;simp(maxSteps:=2000000)(disch:=omega)only[go_sem,↓reduceIte];refine⟨fun w1=>?_,fun w1=>?_⟩
        ·simp(maxSteps:=2000000)(disch:=omega)only[go_sem,↓reduceIte,g1,hgy,Fld.d_eq];refine⟨(i+1,Op.bytesLess y.name x.name),?_,⟨by simp only;omega,fun h=>absurd h (by simp),fun _=>?_⟩,by simp only;omega⟩
         ·refine Weak.mk ?_ ?_ ?_<;>simp(maxSteps:=2000000)only[go_sem,↓reduceIte,Sub,Zaa,Zab]
         ·rw[hstep];simp[f1,n1,w1]
        ·refine⟨(i+1,false),?_,⟨by simp only;omega,fun h=>absurd h (by simp),fun _=>?_⟩,by simp only;omega⟩
         ·refine Weak.mk ?_ ?_ ?_<;>simp(maxSteps:=2000000)only[go_sem,↓reduceIte,Sub,Zaa,Zab]
         ·rw[hstep];simp[w1]
       ·refine⟨(i+1,false),?_,⟨by simp only;omega,fun h=>absurd h (by simp),fun _=>?_⟩,by simp only;omega⟩
        ·refine Weak.mk ?_ ?_ ?_<;>simp(maxSteps:=2000000)only[go_sem,↓reduceIte,Sub,Zaa,Zab]
        ·rw[hstep];simp[n1]
      ·refine⟨(i+1,false),?_,⟨by simp only;omega,fun h=>absurd h (by simp),fun _=>?_⟩,by simp only;omega⟩
       ·refine Weak.mk ?_ ?_ ?_<;>simp(maxSteps:=2000000)only[go_sem,↓reduceIte,Sub,Zaa,Zab]
       ·rw[hstep];simp[f1]
     ·have i0:i=0:=by omega
      subst i0;refine q1E.of hn ?_;simp(maxSteps:=2000000)(disch:=omega)only[go_sem,↓reduceIte];refine⟨fun n1=>?_,fun n1=>?_⟩
      ·refine q1E.of hc ?_;simp(maxSteps:=2000000)(disch:=omega)only[go_sem,↓reduceIte];refine⟨fun w1=>?_,fun w1=>?_⟩
       ·skip
        refine⟨(1,true),?_,⟨by simp only;omega,fun h=>absurd h (by simp),fun _=>?_⟩,by simp only;omega⟩
        ·refine Weak.mk ?_ ?_ ?_<;>simp(maxSteps:=2000000)only[go_sem,↓reduceIte,Sub,Zaa,Zab]
        ·rw[hstep];simp[n1,w1,q3O];cases v.f[0]?<;>rfl
       ·skip
        refine⟨(1,false),?_,⟨by simp only;omega,fun h=>absurd h (by simp),fun _=>?_⟩,by simp only;omega⟩
        ·refine Weak.mk ?_ ?_ ?_<;>simp(maxSteps:=2000000)only[go_sem,↓reduceIte,Sub,Zaa,Zab]
        ·rw[hstep];simp[w1]
      ·skip
       refine⟨(1,false),?_,⟨by simp only;omega,fun h=>absurd h (by simp),fun _=>?_⟩,by simp only;omega⟩
       ·refine Weak.mk ?_ ?_ ?_<;>simp(maxSteps:=2000000)only[go_sem,↓reduceIte,Sub,Zaa,Zab]
       ·rw[hstep];simp[n1]
    ·subst hR;have hfb:fb=q3O none v.f:=by
      by_cases i0:i=0
      ·have h0:v.f=[]:=by
        have:v.f.length=0:=by omega
        exact List.length_eq_zero_iff.1 this
       rw[hz i0,h0];rfl
      ·rw[hnz i0,List.take_of_length_le (by omega)]
     rw[hfb];simp only[cast0]
     by_cases c1:v.n=0<;>by_cases c2:v.s=[]<;>by_cases c3:v.l.length=0<;>simp[c1,c2,c3]
  ·refine q1q.call rfl ?_;rw[hk]at hR;simp only[Int.reduceEq,↓reduceIte]at hR;simp(maxSteps:=2000000)only[go_sem,↓reduceIte,q1K,q1L,hk,hvl,hfl'];subst hR;simp only[cast0]
   by_cases c1:1≤v.n<;>by_cases c5:v.n≤60<;>by_cases c2:v.s=[]<;>by_cases c3:v.l.length=0<;>by_cases c4:v.f.length=0<;>simp[c1,c2,c3,c4,c5]
  ·refine q1q.call rfl ?_;obtain⟨k0,k1,k2,k3,k4,k5,k6,k7⟩:=hk;rw[if_neg k0,if_neg k1,if_neg k2,if_neg k3,if_neg k4,if_neg k5,if_neg k6,if_neg k7]at hR;subst hR;simp(maxSteps:=2000000)only[go_sem,↓reduceIte,q1K,q1L,hvl,hfl',k0,k1,k2,k3,k4,k5,k6,k7]
mutual
def ptV:Val→Nat×Nat
 |.mk _ _ _ l f=>(1+(ptL l).1+(ptF f).1,max (ptL l).2 (ptF f).2+1)
def ptL:List Val→Nat×Nat
 |[]=>(0,0)
 |v::r=>((ptV v).1+(ptL r).1,max (ptV v).2 (ptL r).2)
def ptF:List Fld→Nat×Nat
 |[]=>(0,0)
 |.mk _ v::r=>((ptV v).1+(ptF r).1,max (ptV v).2 (ptF r).2)
end
theorem j9A(v:Val):ptV v=(1+(ptL v.l).1+(ptF v.f).1,max (ptL v.l).2 (ptF v.f).2+1):=by cases v;simp only[ptV,Val.l,Val.f]
theorem q9M(x:Fld)(r:List Fld):ptF (x::r)=((ptV x.v).1+(ptF r).1,max (ptV x.v).2 (ptF r).2):=by cases x;simp only[ptF,Fld.v]
mutual
theorem z2c:∀(v:Val),1≤(ptV v).1∧1≤(ptV v).2
 |.mk k n s l f=>by simp only[ptV];omega
theorem j9z:∀(l:List Val),(ptL l).1=0→(ptL l).2=0
 |[],_=>rfl
 |v::r,h=>by
  have:=z2c v;simp only[ptL]at h;omega
theorem j9y:∀(l:List Fld),(ptF l).1=0→(ptF l).2=0
 |[],_=>rfl
 |.mk _ v::r,h=>by
  have:=z2c v;simp only[ptF]at h;omega
end
mutual
theorem j5h(deep:Nat):∀(v:Val) (left:Int),0≤left→((((ptV v).1:Int)≤left∧deep+(ptV v).2≤9)→szV deep v left=(true,left-(ptV v).1))∧(¬(((ptV v).1:Int)≤left∧deep+(ptV v).2≤9)→(szV deep v left).1=false)
 |.mk k n s l f,left,h=>by
  have hL:=j7J (deep+1) l;have hF:=j7H (deep+1) f;have e1:=j9z l;have e2:=j9y f;have e3:ptV (.mk k n s l f)=(1+(ptL l).1+(ptF f).1,max (ptL l).2 (ptF f).2+1):=by simp only[ptV]
  rw[e3];generalize hA:ptL l=A at *;generalize hB:ptF f=B at *;obtain⟨a1,a2⟩:=A;obtain⟨b1,b2⟩:=B;simp only at *;unfold szV
  by_cases h8:8<deep
  ·rw[if_pos h8];exact⟨fun c=>by exfalso;omega,fun _=>rfl⟩
  ·rw[if_neg h8]
   by_cases h0:left-1<0
   ·rw[if_pos h0];exact⟨fun c=>by exfalso;omega,fun _=>rfl⟩
   ·rw[if_neg h0];obtain⟨g1,g2⟩:=hL (left-1) (by omega)
    by_cases c1:((a1:Int)≤left-1∧(a1=0∨deep+1+a2≤9))
    ·rw[g1 c1];simp only;obtain⟨g3,g4⟩:=hF (left-1-a1) (by omega)
     by_cases c2:((b1:Int)≤left-1-a1∧(b1=0∨deep+1+b2≤9))
     ·refine⟨fun _=>?_,fun c=>by exfalso;omega⟩;rw[g3 c2];congr 1;omega
     ·exact⟨fun c=>by exfalso;omega,fun _=>g4 c2⟩
    ·refine⟨fun c=>by exfalso;omega,fun _=>?_⟩;have:=g2 c1;generalize szL (deep+1) l (left-1)=Z at this;obtain⟨z1,z2⟩:=Z;simp only at this;subst this;rfl
theorem j7J(deep:Nat):∀(l:List Val) (left:Int),0≤left→((((ptL l).1:Int)≤left∧((ptL l).1=0∨deep+(ptL l).2≤9))→szL deep l left=(true,left-(ptL l).1))∧(¬(((ptL l).1:Int)≤left∧((ptL l).1=0∨deep+(ptL l).2≤9))→(szL deep l left).1=false)
 |[],left,h=>by simp[szL,ptL];omega
 |v::r,left,h=>by
  obtain⟨g1,g2⟩:=j5h deep v left h;have h2:=j7J deep r;have hp:=z2c v;have hz:=j9z r;have e3:ptL (v::r)=((ptV v).1+(ptL r).1,max (ptV v).2 (ptL r).2):=by simp only[ptL]
  rw[e3];generalize hA:ptV v=A at *;generalize hB:ptL r=B at *;obtain⟨a1,a2⟩:=A;obtain⟨b1,b2⟩:=B;simp only at *;unfold szL
  by_cases c1:((a1:Int)≤left∧deep+a2≤9)
  ·rw[g1 c1];simp only;obtain⟨g3,g4⟩:=h2 (left-a1) (by omega)
   by_cases c2:((b1:Int)≤left-a1∧(b1=0∨deep+b2≤9))
   ·refine⟨fun _=>?_,fun c=>by exfalso;omega⟩;rw[g3 c2];congr 1;omega
   ·exact⟨fun c=>by exfalso;omega,fun _=>g4 c2⟩
  ·refine⟨fun c=>by exfalso;omega,fun _=>?_⟩;have:=g2 c1;generalize szV deep v left=Z at this;obtain⟨z1,z2⟩:=Z;simp only at this;subst this;rfl
theorem j7H(deep:Nat):∀(l:List Fld) (left:Int),0≤left→((((ptF l).1:Int)≤left∧((ptF l).1=0∨deep+(ptF l).2≤9))→szF deep l left=(true,left-(ptF l).1))∧(¬(((ptF l).1:Int)≤left∧((ptF l).1=0∨deep+(ptF l).2≤9))→(szF deep l left).1=false)
 |[],left,h=>by simp[szF,ptF];omega
 |.mk nm v::r,left,h=>by
  obtain⟨g1,g2⟩:=j5h deep v left h;have h2:=j7H deep r;have hp:=z2c v;have hz:=j9y r;have e3:ptF (.mk nm v::r)=((ptV v).1+(ptF r).1,max (ptV v).2 (ptF r).2):=by simp only[ptF]
  rw[e3];generalize hA:ptV v=A at *;generalize hB:ptF r=B at *;obtain⟨a1,a2⟩:=A;obtain⟨b1,b2⟩:=B;simp only at *;unfold szF
  by_cases c1:((a1:Int)≤left∧deep+a2≤9)
  ·rw[g1 c1];simp only;obtain⟨g3,g4⟩:=h2 (left-a1) (by omega)
   by_cases c2:((b1:Int)≤left-a1∧(b1=0∨deep+b2≤9))
   ·refine⟨fun _=>?_,fun c=>by exfalso;omega⟩;rw[g3 c2];congr 1;omega
   ·exact⟨fun c=>by exfalso;omega,fun _=>g4 c2⟩
  ·refine⟨fun c=>by exfalso;omega,fun _=>?_⟩;have:=g2 c1;generalize szV deep v left=Z at this;obtain⟨z1,z2⟩:=Z;simp only at this;subst this;rfl
end
def q4q(v:Val):Nat:=if 300<(ptV v).1∨8<(ptV v).2 then 2 else if q1F v then 0 else 3
theorem j8R(v:Val):(szV 1 v 300).1 = !decide (300<(ptV v).1∨8<(ptV v).2):=by
 have h:=j5h 1 v 300 (by omega)
 by_cases c:(((ptV v).1:Int)≤300∧1+(ptV v).2≤9)
 ·rw[h.1 c];have:¬(300<(ptV v).1∨8<(ptV v).2):=by omega
  simp[this]
 ·rw[h.2 c];have:(300<(ptV v).1∨8<(ptV v).2):=by omega
  simp[this]
def z0Z:q0g:=
 Qr [⟨some 1,.box (.t 0),none⟩,Qx 2 (.k (.d .nil))] (Qr [⟨some 3,.allo [.int .i64 0],none⟩,⟨none,.st 1 (.t 3) (Ki 300),none⟩] (.seq (Qr [Qm 4 5 1,⟨some 5,.prim .call [.k 
 (.fn (.func 92) [] []),.t 4,.k (.d (.int .i64 1)),.t 3] [],none⟩,Qh 6 5] (.cond (.t 6) (Qr [Q 7 (.mkI 49 (Ki 2)),Qa 2 7] .ret) .skip)) (.seq (Qr [Qm 8 5 1,Qj 9 93 [8],Qh 
 10 9] (.cond (.t 10) (Qr [Q 11 (.mkI 49 (Ki 3)),Qa 2 11] .ret) .skip)) (Qr [Qx 2 (.k (.d .nil))] .ret))))
def z05:List LRes:=[.tmp 2]
theorem z3b:q0n Tryz.prog 64 12 z0Z z05:=⟨_,_,Tryz.func64,rfl,by kernel_rfl,by kernel_rfl,rfl⟩
theorem z3R(v:Val)(hsm:v.sm 1048576=true):q0i Tryz.prog 64 [v.d] (fun r=>r=.one (errD (q4q v))):=by
 have h1:=j5c _ v (Zak _) 1 300 (by omega) (by omega) (by omega) (by omega) hsm;have h2:=j5t _ v (Zak _) hsm;rw[j8R]at h1;generalize(szV 1 v 300).2=q at h1;rw[Val.d_eq]at *;refine z3b.call rfl ?_;simp(maxSteps:=2000000)only[go_sem,↓reduceIte,z0Z,z05];refine q0e.mc1 (.l 3) rfl (h1) rfl rfl rfl rfl ⟨rfl,rfl⟩ ?_;simp(maxSteps:=2000000)only[go_sem,↓reduceIte];refine⟨fun c=>?_,fun c=>?_⟩
 ·simp only[q4q,if_pos c];rfl
 ·refine q0c.of h2 ?_;simp(maxSteps:=2000000)only[go_sem,↓reduceIte];simp only[q4q,if_neg c];cases q1F v<;>simp[errD]
theorem j1D{l:List Val}{x:Val}:ptL (l++[x])=((ptL l).1+(ptV x).1,max (ptL l).2 (ptV x).2):=by
 induction l with
 |nil=>simp[ptL]
 |cons y r ih=>simp only[Zbe,ptL,ih];congr 1<;>omega
theorem j1B{l:List Fld}{x:Fld}:ptF (l++[x])=((ptF l).1+(ptV x.v).1,max (ptF l).2 (ptV x.v).2):=by
 induction l with
 |nil=>simp[ptF,q9M]
 |cons y r ih=>simp only[Zbe,q9M,ih];congr 1<;>omega
theorem j9r(a b:Nat):(if(a:Int)<b then(b:Int)else a)=((max a b:Nat):Int):=by split<;>omega
theorem q3C{α:Type}{l:List α}{i:Nat}{x:α}(hx:l[i]?=some x):l.take (i+1)=l.take i++[x]:=by
 rw[Zcu,hx];rfl
theorem j0v{l:List Val}{i:Nat}:(ptL (l.take i)).1≤(ptL l).1:=by
 induction l generalizing i with
 |nil=>simp
 |cons y r ih=>
  cases i with
  |zero=>simp[ptL]
  |succ i=>simp only[Zcr,ptL];have:=ih (i:=i);omega
theorem j0u{l:List Fld}{i:Nat}:(ptF (l.take i)).1≤(ptF l).1:=by
 induction l generalizing i with
 |nil=>simp
 |cons y r ih=>
  cases i with
  |zero=>simp[ptF]
  |succ i=>simp only[Zcr,q9M];have:=ih (i:=i);omega
theorem j8D{l:List Val}{x:Val}(h:x∈l):(ptV x).1≤(ptL l).1:=by
 induction l with
 |nil=>simp at h
 |cons y r ih=>
  simp only[ptL];rcases Zba.1 h with rfl|h
  ·omega
  ·have:=ih h;omega
theorem j8C{l:List Fld}{x:Fld}(h:x∈l):(ptV x.v).1≤(ptF l).1:=by
 induction l with
 |nil=>simp at h
 |cons y r ih=>
  simp only[q9M];rcases Zba.1 h with rfl|h
  ·omega
  ·have:=ih h;omega
mutual
theorem j7z:∀(v:Val),(ptV v).2≤(ptV v).1
 |.mk k n s l f=>by
  have h1:=j1C l;have h2:=j1A f;simp only[ptV];omega
theorem j1C:∀(l:List Val),(ptL l).2≤(ptL l).1
 |[]=>Zak _
 |v::r=>by
  have h1:=j7z v;have h2:=j1C r;simp only[ptL];omega
theorem j1A:∀(l:List Fld),(ptF l).2≤(ptF l).1
 |[]=>Zak _
 |.mk _ v::r=>by
  have h1:=j7z v;have h2:=j1A r;simp only[ptF];omega
end
def q4N:q0g:=
 Qr [⟨some 1,.box (.t 0),none⟩,Qx 2 (Ki 0),Qx 3 (Ki 0)] (Qr [Qx 4 (Ki 1)] (Qr [Qx 5 (Ki 0)] (.seq (Qr [Qx 6 (Ki 0)] (.block 0 (.loop (.seq (Qr [Qc 12 6,Qf 13 3 1,Ql 14 13,Qz 
 15 false 14,Qb 16 .lss 12 15] (.cond (.t 16) .skip (.exit 0))) (.seq (.block 1 (Qr [Qf 20 3 1,Ql 21 20,Qc 22 6,Q 23 (.ia 5 (.t 21) (.t 22)),Qm 24 5 23,Qj 25 102 [24],Qc 19 
 25,Qe 26 0 19,Qe 27 1 19,Qa 7 26,Qa 8 27] (Qr [Qc 28 4,Qc 29 7,Qb 30 .add 28 29,Qa 4 30] (.reg [Qc 31 5,Qc 32 8,Q 33 (.mm true (.t 31) (.t 32)),Qa 5 33])))) (.reg [Qc 
 17 6,Qk 18 .add 17 1,Qa 6 18])))))) (.seq (Qr [Qx 9 (Ki 0)] (.block 2 (.loop (.seq (Qr [Qc 34 9,Qf 35 4 1,Ql 36 35,Qz 37 false 36,Qb 38 .lss 34 37] (.cond (.t 38) .skip 
 (.exit 2))) (.seq (.block 3 (Qr [Qf 42 4 1,Ql 43 42,Qc 44 9,Q 45 (.ia 6 (.t 43) (.t 44)),Qf 46 1 45,Qm 47 5 46,Qj 48 102 [47],Qc 41 48,Qe 49 0 41,Qe 50 1 41,Qa 10 49, 
 Qa 11 50] (Qr [Qc 51 4,Qc 52 10,Qb 53 .add 51 52,Qa 4 53] (.reg [Qc 54 5,Qc 55 11,Q 56 (.mm true (.t 54) (.t 55)),Qa 5 56])))) (.reg [Qc 39 9,Qk 40 .add 39 1,Qa 9 
 40])))))) (Qr [Qc 57 4,Qc 58 5,Qk 59 .add 58 1,Qa 2 57,Qa 3 59] .ret)))))
def q42:List LRes:=[.tmp 2,.tmp 3]
theorem q7l:q0n Tryz.prog 102 60 q4N q42:=⟨_,_,Tryz.func102,rfl,by kernel_rfl,by kernel_rfl,rfl⟩
theorem j2H:∀(m:Nat) (v:Val),SizeOf.sizeOf v≤m→v.sm 1048576=true→(ptV v).1≤1000000000→q0i Tryz.prog 102 [v.d] (fun r=>r=.tup [.int .i64 (ptV v).1,.int .i64 (ptV v).2]):=by
 intro m;induction m with
 |zero=>intro v h;cases v;simp at h
 |succ m ih=>
  intro v hv hsm hpt;obtain⟨_,hll,hfl,hsl,hsf⟩:=Val.q1e.1 hsm;have hvl:=q0H v.l;have hfl':=q0D v.f;have hpe:=j9A v;have hle:=j1C v.l;have hle2:=j1A v.f;rw[hpe]at hpt;simp only at hpt;rw[hpe];rw[Val.d_eq];refine q7l.call rfl ?_;simp(maxSteps:=2000000)only[go_sem,↓reduceIte,q4N,q42];refine q0f (fun i:Nat=>⟨[(1,.ptr (.l 1) 0),(4,.d (.int .i64 (1+(ptL (v.l.take i)).1:Nat))),(5,.d (.int .i64 (ptL (v.l.take i)).2)),(6,.d (.int .i64 i))],
    [(1,.cells [.d (.int .i64 v.kind),.d (.int .i64 v.n),.d (.str v.s),.d (.list (q0m v.l)),.d (.list (q0k v.f))])],[]⟩)
   (fun i=>i≤v.l.length) (fun i=>v.l.length-i) 0 ?_ ?_ ?_
  ·refine Weak.mk ?_ ?_ ?_<;>simp(maxSteps:=2000000)only[go_sem,↓reduceIte,Sub,Zaa,Zab,Zdf,ptL]
  ·omega
  ·intro i hi;simp(maxSteps:=2000000)only[go_sem,↓reduceIte,hvl];refine⟨fun hlt=>?_,fun hge=>?_⟩
   ·obtain⟨x,hx⟩:=get_some (l:=v.l) (i:=i) (by omega);have hm:=Zaf hx;have hc:=ih x (by have:=z1H hm;omega) (hsl x hm) (by have:=j8D hm;omega);have ht:=j0v (l:=v.l) (i:=i+1);have hle3:=j1C (v.l.take (i+1));rw[q3C hx,j1D]at ht hle3;simp only at ht hle3;rw[Val.d_eq]at hc;simp(maxSteps:=2000000)(disch:=omega)only[go_sem,↓reduceIte,q0a,q3c,hx,Val.d_eq];refine q0c.of hc ?_;simp(maxSteps:=2000000)(disch:=omega)only[go_sem,↓reduceIte];refine⟨i+1,?_,by omega,by omega⟩
    rw[q3C hx,j1D];refine Weak.mk ?_ ?_ ?_<;>simp(maxSteps:=2000000)only[go_sem,↓reduceIte,Sub,Zaa,Zab,j9r,Int.add_assoc]
   ·have ht:v.l.take i=v.l:=List.take_of_length_le (by omega);rw[ht];refine q0f (fun j:Nat=>⟨[(1,.ptr (.l 1) 0),(4,.d (.int .i64 (1+(ptL v.l).1+(ptF (v.f.take j)).1:Nat))),(5,.d (.int .i64 (max (ptL v.l).2 (ptF (v.f.take j)).2:Nat))),(9,.d (.int .i64 j))],
      [(1,.cells [.d (.int .i64 v.kind),.d (.int .i64 v.n),.d (.str v.s),.d (.list (q0m v.l)),.d (.list (q0k v.f))])],[]⟩)
     (fun j=>j≤v.f.length) (fun j=>v.f.length-j) 0 ?_ ?_ ?_
    ·refine Weak.mk ?_ ?_ ?_<;>simp(maxSteps:=2000000)only[go_sem,↓reduceIte,Sub,Zaa,Zab,Zdf,ptF,Zdg,Nat.max_zero]
    ·omega
    ·intro j hj;simp(maxSteps:=2000000)only[go_sem,↓reduceIte,hfl'];refine⟨fun hlt=>?_,fun hge=>?_⟩
     ·obtain⟨x,hx⟩:=get_some (l:=v.f) (i:=j) (by omega);have hm:=Zaf hx;have hc:=ih x.v (by have:=z1G hm;omega) (Fld.q1e.1 (hsf x hm)).2 (by have:=j8C hm;omega);have ht:=j0u (l:=v.f) (i:=j+1);have hle3:=j1A (v.f.take (j+1));rw[q3C hx,j1B]at ht hle3;simp only at ht hle3;rw[Val.d_eq]at hc;simp(maxSteps:=2000000)(disch:=omega)only[go_sem,↓reduceIte,q0a,q0K,hx,Fld.d_eq];refine q0c.of hc ?_;simp(maxSteps:=2000000)(disch:=omega)only[go_sem,↓reduceIte]
      refine⟨j+1,?_,by omega,by omega⟩;rw[q3C hx,j1B];refine Weak.mk ?_ ?_ ?_<;>simp(maxSteps:=2000000)only[go_sem,↓reduceIte,Sub,Zaa,Zab,j9r,Int.add_assoc,Nat.max_assoc]
     ·have ht:v.f.take j=v.f:=List.take_of_length_le (by omega);rw[ht];simp(maxSteps:=2000000)(disch:=omega)only[go_sem,↓reduceIte,Zaa,Zbz]
def q3n:q0g:=
 Qr [Qx 2 (Ki 0)] (.seq (Qr [Qc 3 0,Qk 4 .lss 3 (-1000000000),Qc 5 4,Qd 6 0 5 false,Qg 7 (.bin .gtr (.t 6) (Ki 1000000000)) 5 false,Qo 8 5 7] (.cond (.t 8) (Qr [Qx 2 (Ki 1)] 
 .ret) .skip)) (Qr [Qx 2 (Ki 0)] .ret))
def q3u:List LRes:=[.tmp 2]
theorem q51:q0n Tryz.prog 143 9 q3n q3u:=⟨_,_,Tryz.func143,rfl,by kernel_rfl,by kernel_rfl,rfl⟩
def fltI(n:Int):Int:=if Lim n then 0 else 1
theorem j2h(n:Int):q0i Tryz.prog 143 [.int .i64 n] (fun r=>r=.one (.int .i64 (fltI n))):=by
 refine q51.call rfl ?_;simp(maxSteps:=2000000)only[go_sem,↓reduceIte,q3n,q3u];unfold fltI
 by_cases h:Lim n
 ·rw[if_pos h];unfold Lim at h;exact⟨fun a=>⟨fun b=>by omega,fun b=>rfl⟩,fun a=>by omega⟩
 ·rw[if_neg h];unfold Lim at h;exact⟨fun a=>⟨fun b=>rfl,fun b=>by omega⟩,fun a=>rfl⟩
theorem j22{v x:Val}(hx:x∈v.l)(h:q1F x=false):q1F v=false:=by
 have h0:¬v.l.length=0:=fun e=>by rw[List.length_eq_zero_iff.1 e]at hx;simp at hx
 have h1:z9z v.l=false:=by rw[z3x];simp only[Bool.not_eq_false'];exact Zbq.2 ⟨x,hx,by simp[h]⟩
 rw[q3f];simp[h0,h1]
theorem z2k{v:Val}(h:q3O none v.f=false):q1F v=false:=by
 have h0:¬v.f.length=0:=fun e=>by rw[List.length_eq_zero_iff.1 e]at h;simp[q3O]at h
 rw[q3f];simp[h0,h]
theorem j5q{l:List Val}(h:∀x∈l,q1F x=true):z9z l=true:=by
 rw[z3x];simp only[Zca];rw[Zce];intro x hx;simp[h x hx]
theorem j5o{p:Option (List UInt8)}{a b:List Fld}(h:q3O p a=false):q3O p (a++b)=false:=by
 induction a generalizing p with
 |nil=>simp[q3O]at h
 |cons x r ih=>
  cases x;simp only[Zbe,q3O,Bool.and_eq_false_iff]at h ⊢;rcases h with h|h
  ·exact .inl h
  ·exact .inr (ih h)
theorem q7q{l:List Fld}{i:Nat}(h:q3O none (l.take i)=false):q3O none l=false:=by
 rw[←List.take_append_drop i l];exact j5o h
theorem q6U:∀(x y:List UInt8),(Op.bytesLess x y || decide (x=y)) = !Op.bytesLess y x
 |[],[]=>by simp[Op.bytesLess]
 |[],_::_=>by simp[Op.bytesLess]
 |_::_,[]=>by simp[Op.bytesLess]
 |a::x,b::y=>by
  have ih:=q6U x y;have hab:a=b↔a.toNat=b.toNat:=⟨fun h=>by rw[h],UInt8.toNat_inj.1⟩;simp only[Op.bytesLess,Zco,beq_iff_eq,bne_iff_ne]at ih ⊢;rcases Nat.lt_trichotomy a.toNat b.toNat with h|h|h
  ·have h1:¬b.toNat<a.toNat:=by omega
   have h2:¬a=b:=fun e=>by rw[hab]at e;omega
   have h3:¬b=a:=fun e=>h2 e.symm
   simp[h,h1,h2,h3]
  ·have h2:=hab.2 h;subst h2;simp[ih]
  ·have h1:¬a.toNat<b.toNat:=by omega
   have h2:¬a=b:=fun e=>by rw[hab]at e;omega
   have h3:¬b=a:=fun e=>h2 e.symm
   simp[h,h1,h2,h3]
def q4f:q0g:=
 Qr [⟨some 1,.box (.t 0),none⟩,Qx 2 KF] (.seq (Qr [Qx 3 (Ki 0)] (.block 0 (.loop (.seq (Qr [Qc 12 3,Qf 13 3 1,Ql 14 13,Qz 15 false 14,Qb 16 .lss 12 15] (.cond (.t 16) .skip 
 (.exit 0))) (.seq (.block 1 (Qr [Qf 19 3 1,Ql 20 19,Qc 21 3,Q 22 (.ia 5 (.t 20) (.t 21)),Qm 23 5 22,Qj 24 103 [23],Qa 4 24] (Qr [Qc 25 4,Qh 26 25] (.cond (.t 26) (Qr [Qx 2 
 KF] .ret) .skip)))) (.reg [Qc 17 3,Qk 18 .add 17 1,Qa 3 18])))))) (.seq (Qr [Qx 5 (Ki 0)] (.block 2 (.loop (.seq (Qr [Qc 27 5,Qf 28 4 1,Ql 29 28,Qz 30 false 29,Qb 31 .lss 
 27 30] (.cond (.t 31) .skip (.exit 2))) (.seq (.block 3 (Qr [Qf 34 4 1,Ql 35 34,Qc 36 5,Q 37 (.ia 6 (.t 35) (.t 36)),Qf 38 1 37,Qm 39 5 38,Qj 40 103 [39],Qa 6 40] (Qr [Qf 
 41 4 1,Ql 42 41,Qc 43 5,Q 44 (.ia 6 (.t 42) (.t 43)),Qf 45 0 44,Ql 46 45,Qj 47 141 [46],Qa 7 47] (.seq (.dreg [Qc 48 6,Qh 49 48,Qc 50 49,Qd 51 7 50 false,Qg 52 (.not 
 (.t 51)) 50 false,Qo 53 50 52,Qc 54 53,Qd 55 5 54 false,Qg 56 (.bin .gtr (.t 55) (Ki 0)) 54 false,Qd 57 56 54 false,Qg 58 (.fa 4 (.t 1)) 57 true,Qg 59 (.ld false 1 (.t 
 58)) 57 true,Qd 60 5 57 true,Qg 61 (.ia 6 (.t 59) (.t 60)) 57 true,Qg 62 (.fa 0 (.t 61)) 57 true,Qg 63 (.ld false 1 (.t 62)) 57 true,Qg 64 (.fa 4 (.t 1)) 57 true,Qg 65 (.ld 
 false 1 (.t 64)) 57 true,Qd 66 5 57 true,Qg 67 (.bin .sub (.t 66) (Ki 1)) 57 true,Qg 68 (.ia 6 (.t 65) (.t 67)) 57 true,Qg 69 (.fa 0 (.t 68)) 57 true,Qg 70 (.ld false 1 (.t 
 69)) 57 true,Qg 71 (.bin .leq (.t 63) (.t 70)) 57 true,Qg 72 (.pick (.t 57) (.t 71) KF) 54 false,Qo 73 54 72]) (.cond (.t 73) (Qr [Qx 2 KF] .ret) .skip))))) (.reg [Qc 32 5,Qk 
 33 .add 32 1,Qa 5 33])))))) (Qr [Qf 74 1 1,Ql 75 74,Qk 76 .eql 75 0,Qa 8 76] (Qr [Qf 77 2 1,Ql 78 77,Q 79 (.bin .eql (.t 78) (.k (.d (.str [])))),Qa 9 79] (Qr [Qf 80 3 1, 
 Ql 81 80,Qz 82 false 81,Qk 83 .eql 82 0,Qa 10 83] (Qr [Qf 84 4 1,Ql 85 84,Qz 86 false 85,Qk 87 .eql 86 0,Qa 11 87] (.seq (Qr [Qf 88 0 1,Ql 89 88] (.block 4 (Qr [Qk 91 
 .eql 89 0,Qa 90 91] (.cond (.t 90) (Qr [Qc 92 8,Qc 93 92,Qd 94 9 93 true,Qp 95 93 94,Qc 96 95,Qd 97 10 96 true,Qp 98 96 97,Qc 99 98,Qd 100 11 99 true,Qp 101 99 100,Qa 
 2 101] .ret) (Qr [Qk 103 .eql 89 1,Qa 102 103] (.cond (.t 102) (Qr [Qc 104 8,Qc 105 104,Qg 106 (.fa 1 (.t 1)) 105 false,Qg 107 (.ld false 1 (.t 106)) 105 false,Qg 108 (.bin 
 .eql (.t 107) (Ki 1)) 105 false,Qo 109 105 108,Qc 110 109,Qd 111 9 110 true,Qp 112 110 111,Qc 113 112,Qd 114 10 113 true,Qp 115 113 114,Qc 116 115,Qd 117 11 116 true,Qp 
 118 116 117,Qa 2 118] .ret) (Qr [Qk 120 .eql 89 2,Qa 119 120] (.cond (.t 119) (Qr [Qf 121 1 1,Ql 122 121,Qj 123 143 [122],Qk 124 .eql 123 0,Qc 125 124,Qd 126 9 125 true, 
 Qp 127 125 126,Qc 128 127,Qd 129 10 128 true,Qp 130 128 129,Qc 131 130,Qd 132 11 131 true,Qp 133 131 132,Qa 2 133] .ret) (Qr [Qk 135 .eql 89 3,Qa 134 135] (.cond (.t 134) 
 (Qr [Qc 136 8,Qc 137 136,Qg 138 (.fa 2 (.t 1)) 137 true,Qg 139 (.ld false 1 (.t 138)) 137 true,Qg 140 (.len true (.t 139)) 137 true,Qg 141 (.bin .leq (.t 140) (Ki 200)) 137 
 true,Qp 142 137 141,Qc 143 142,Qd 144 10 143 true,Qp 145 143 144,Qc 146 145,Qd 147 11 146 true,Qp 148 146 147,Qa 2 148] .ret) (Qr [Qk 150 .eql 89 4,Qa 149 150] (.cond 
 (.t 149) (Qr [Qc 151 8,Qc 152 151,Qg 153 (.fa 2 (.t 1)) 152 true,Qg 154 (.ld false 1 (.t 153)) 152 true,⟨some 155,.call 141 [.t 154],some (152,true)⟩,Qp 156 152 155,Qc 
 157 156,Qd 158 10 157 true,Qp 159 157 158,Qc 160 159,Qd 161 11 160 true,Qp 162 160 161,Qa 2 162] .ret) (Qr [Qk 164 .eql 89 5,Qa 163 164] (.cond (.t 163) (Qr [Qc 165 8,Qc 
 166 165,Qd 167 9 166 true,Qp 168 166 167,Qc 169 168,Qd 170 11 169 true,Qp 171 169 170,Qa 2 171] .ret) (Qr [Qk 173 .eql 89 6,Qa 172 173] (.cond (.t 172) (Qr [Qc 174 8,Qc 
 175 174,Qd 176 9 175 true,Qp 177 175 176,Qc 178 177,Qd 179 10 178 true,Qp 180 178 179,Qa 2 180] .ret) (Qr [Qk 182 .eql 89 7,Qa 181 182] (.cond (.t 181) (Qr [Qf 183 1 1,Ql 
 184 183,Qk 185 .geq 184 1,Qc 186 185,Qg 187 (.fa 1 (.t 1)) 186 true,Qg 188 (.ld false 1 (.t 187)) 186 true,Qg 189 (.bin .leq (.t 188) (Ki 60)) 186 true,Qp 190 186 189,Qc 
 191 190,Qd 192 9 191 true,Qp 193 191 192,Qc 194 193,Qd 195 10 194 true,Qp 196 194 195,Qc 197 196,Qd 198 11 197 true,Qp 199 197 198,Qa 2 199] .ret) 
 .skip)))))))))))))))))) (Qr [Qx 2 KF] .ret))))))))
def q4k:List LRes:=[.tmp 2]
theorem q6N:q0n Tryz.prog 103 200 q4f q4k:=⟨_,_,Tryz.func103,rfl,by kernel_rfl,by kernel_rfl,rfl⟩
theorem j0H:∀(m:Nat) (v:Val),SizeOf.sizeOf v≤m→v.sm 1048576=true→q0i Tryz.prog 103 [v.d] (fun r=>r=.one (.bool (q1F v))):=by
 intro m;induction m with
 |zero=>intro v h;cases v;simp at h
 |succ m ih=>
  intro v hv hsm;obtain⟨_,hll,hfl,hsl,hsf⟩:=Val.q1e.1 hsm;have hvl:=q0H v.l;have hfl':=q0D v.f;generalize hR:q1F v=R;have cast0:∀a:Nat,((a:Int)=0)=(a=0):=fun a=>by apply propext;omega
  rw[Val.d_eq];refine q6N.call rfl ?_;simp(maxSteps:=2000000)only[go_sem,↓reduceIte,q4f,q4k,hvl,hfl'];refine q0f (fun i:Nat=>⟨[(1,.ptr (.l 1) 0),(3,.d (.int .i64 i))],
    [(1,.cells [.d (.int .i64 v.kind),.d (.int .i64 v.n),.d (.str v.s),.d (.list (q0m v.l)),.d (.list (q0k v.f))])],[]⟩)
   (fun i=>i≤v.l.length∧∀j x,j<i→v.l[j]?=some x→q1F x=true) (fun i=>v.l.length-i) 0 ?_ ?_ ?_
  ·refine Weak.mk ?_ ?_ ?_<;>simp(maxSteps:=2000000)only[go_sem,↓reduceIte,Sub,Zaa,Zab]
  ·exact⟨by omega,fun j x h=>by omega⟩
  ·rintro i ⟨hi,hn⟩;simp(maxSteps:=2000000)only[go_sem,↓reduceIte,hvl];refine⟨fun hlt=>?_,fun hge=>?_⟩
   ·obtain⟨x,hx⟩:=get_some (l:=v.l) (i:=i) (by omega);have hm:=Zaf hx;have hc:=ih x (by have:=z1H hm;omega) (hsl x hm);rw[Val.d_eq]at hc;simp(maxSteps:=2000000)(disch:=omega)only[go_sem,↓reduceIte,q0a,q3c,hx,Val.d_eq];refine q0c.of hc ?_;simp(maxSteps:=2000000)(disch:=omega)only[go_sem,↓reduceIte];refine⟨fun w1=>?_,fun w1=>⟨i+1,?_,⟨by omega,fun j y hj hy=>?_⟩,by omega⟩⟩
    ·rw[←hR,j22 hm w1]
    ·refine Weak.mk ?_ ?_ ?_<;>simp(maxSteps:=2000000)only[go_sem,↓reduceIte,Sub,Zaa,Zab]
    ·rcases Zbi j i with h|h
     ·exact hn j y h hy
     ·have:j=i:=by omega
      subst this;rw[hx]at hy;cases hy;exact w1
   ·have hL:z9z v.l=true:=j5q (fun x hx=>by
     obtain⟨j,hj⟩:=Zbb hx;exact hn j x (by have:=(Zac.1 hj).1;omega) hj)
    refine q0f (fun i:Nat=>⟨[(1,.ptr (.l 1) 0),(5,.d (.int .i64 i))],
      [(1,.cells [.d (.int .i64 v.kind),.d (.int .i64 v.n),.d (.str v.s),.d (.list (q0m v.l)),.d (.list (q0k v.f))])],[]⟩)
     (fun i=>i≤v.f.length∧q3O none (v.f.take i)=true) (fun i=>v.f.length-i) 0 ?_ ?_ ?_
    ·refine Weak.mk ?_ ?_ ?_<;>simp(maxSteps:=2000000)only[go_sem,↓reduceIte,Sub,Zaa,Zab]
    ·exact⟨by omega,by simp[q3O]⟩
    ·rintro i ⟨hi,hn⟩;simp(maxSteps:=2000000)only[go_sem,↓reduceIte,hfl'];refine⟨fun hlt=>?_,fun hge=>?_⟩
     ·obtain⟨x,hx⟩:=get_some (l:=v.f) (i:=i) (by omega);have hm:=Zaf hx;have hc:=ih x.v (by have:=z1G hm;omega) (Fld.q1e.1 (hsf x hm)).2;have hstep:q3O none (v.f.take (i+1))=(q3O none (v.f.take i)&&(q1C x.name&&(q1F x.v&&(match v.f[i-1]? with|some y=>if i=0 then true else Op.bytesLess y.name x.name|none=>true)))):=z6t hx;rw[hn]at hstep;rw[Val.d_eq]at hc;simp(maxSteps:=2000000)(disch:=omega)only[go_sem,↓reduceIte,q0a,q0K,hx,Fld.d_eq];refine q0c.of hc ?_
      simp(maxSteps:=2000000)(disch:=omega)only[go_sem,↓reduceIte,q0a,q0K,hx,Fld.d_eq];refine q0c.of (q6F _) ?_;simp(maxSteps:=2000000)(disch:=omega)only[go_sem,↓reduceIte,q0a,q0K,hx,Fld.d_eq];refine⟨fun w1=>⟨fun n1=>⟨fun g1=>?_,fun g1=>?_⟩,fun n1=>?_⟩,fun w1=>?_⟩
      ·have i0:i≠0:=by omega
       obtain⟨y,hy⟩:=get_some (l:=v.f) (i:=i-1) (by omega);have hgy:getI (q0k v.f) ((i:Int)-1)=some y.d:=by
        have:(i:Int)-1=((i-1:Nat):Int):=by omega
        rw[this,q0a,q0K,hy];rfl
       rw[hy]at hstep;simp only[i0,if_false,w1,n1,Zcn]at hstep;simp(maxSteps:=2000000)(disch:=omega)only[go_sem,↓reduceIte,hgy,Fld.d_eq];refine⟨fun b1=>?_,fun b1=>⟨i+1,?_,⟨by omega,?_⟩,by omega⟩⟩
       ·rw[q6U]at b1;simp only[Zca]at b1;rw[b1]at hstep;rw[←hR,z2k (q7q hstep)]
       ·refine Weak.mk ?_ ?_ ?_<;>simp(maxSteps:=2000000)only[go_sem,↓reduceIte,Sub,Zaa,Zab]
       ·rw[q6U]at b1;simp only[Bool.not_eq_false']at b1;rw[hstep,b1]
      ·have i0:i=0:=by omega
       subst i0;simp only[if_true,w1,n1,Zcn]at hstep;simp(maxSteps:=2000000)(disch:=omega)only[go_sem,↓reduceIte];refine⟨0+1,?_,⟨by omega,?_⟩,by omega⟩
       ·refine Weak.mk ?_ ?_ ?_<;>simp(maxSteps:=2000000)only[go_sem,↓reduceIte,Sub,Zaa,Zab]
       ·rw[hstep];cases v.f[0-1]?<;>rfl
      ·rw[n1]at hstep;simp only[Zcn,Zcq]at hstep;rw[←hR,z2k (q7q hstep)]
      ·rw[w1]at hstep;simp only[Zcn,Zcq,Bool.and_false]at hstep;rw[←hR,z2k (q7q hstep)]
     ·have hF:q3O none v.f=true:=by rw[←List.take_of_length_le (l:=v.f) (i:=i) (by omega)];exact hn
      rw[q3f,hL,hF]at hR;refine⟨fun k0=>?_,fun k0=>⟨fun k1=>?_,fun k1=>⟨fun k2=>?_,fun k2=>⟨fun k3=>?_,fun k3=>⟨fun k4=>?_,fun k4=>⟨fun k5=>?_,fun k5=>⟨fun k6=>?_,fun k6=>⟨fun k7=>?_,fun k7=>?_⟩⟩⟩⟩⟩⟩⟩⟩
      ·rw[k0]at hR;simp only[Int.reduceEq,↓reduceIte]at hR;subst hR;simp only[cast0,hvl]
       by_cases c1:v.n=0<;>by_cases c2:v.s=[]<;>by_cases c3:v.l.length=0<;>by_cases c4:v.f.length=0<;>simp[c1,c2,c3,c4,Res.one.injEq]
      ·rw[k1]at hR;simp only[Int.reduceEq,↓reduceIte]at hR;subst hR;simp only[cast0,hvl]
       by_cases c1:v.n=0<;>by_cases c2:v.s=[]<;>by_cases c3:v.l.length=0<;>by_cases c4:v.f.length=0<;>simp[c1,c2,c3,c4,Res.one.injEq]
      ·rw[k2]at hR;simp only[Int.reduceEq,↓reduceIte]at hR;subst hR;refine q0c.of (j2h _) ?_;simp(maxSteps:=2000000)only[go_sem,↓reduceIte];have hfl2:(fltI v.n=0)=Lim v.n:=by unfold fltI;split<;>simp_all
       simp only[cast0,hvl,hfl2]
       by_cases c1:Lim v.n<;>by_cases c2:v.s=[]<;>by_cases c3:v.l.length=0<;>by_cases c4:v.f.length=0<;>simp[c1,c2,c3,c4]
      ·rw[k3]at hR;simp only[Int.reduceEq,↓reduceIte]at hR;subst hR;have c5:((v.s.length:Int)≤200)=(v.s.length≤200):=by apply propext;omega
       simp only[cast0,hvl,c5]
       by_cases c1:v.n=0<;>by_cases c2:v.s.length≤200<;>by_cases c3:v.l.length=0<;>by_cases c4:v.f.length=0<;>simp[c1,c2,c3,c4]
      ·rw[k4]at hR;simp only[Int.reduceEq,↓reduceIte]at hR;subst hR;refine⟨fun c1=>?_,fun c1=>?_⟩
       ·refine q0c.of (q6F v.s) ?_;simp(maxSteps:=2000000)only[go_sem,↓reduceIte];simp only[cast0,hvl];cases c2:q1C v.s<;>by_cases c3:v.l.length=0<;>by_cases c4:v.f.length=0<;>simp[c1,c3,c4]
       ·simp[c1]
      ·rw[k5]at hR;simp only[Int.reduceEq,↓reduceIte]at hR;subst hR;simp only[cast0,hvl]
       by_cases c1:v.n=0<;>by_cases c2:v.s=[]<;>by_cases c3:v.l.length=0<;>by_cases c4:v.f.length=0<;>simp[c1,c2,c3,c4,Res.one.injEq]
      ·rw[k6]at hR;simp only[Int.reduceEq,↓reduceIte]at hR;subst hR;simp only[cast0,hvl]
       by_cases c1:v.n=0<;>by_cases c2:v.s=[]<;>by_cases c3:v.l.length=0<;>by_cases c4:v.f.length=0<;>simp[c1,c2,c3,c4,Res.one.injEq]
      ·rw[k7]at hR;simp only[Int.reduceEq,↓reduceIte]at hR;subst hR;simp only[cast0,hvl]
       by_cases c1:1≤v.n<;>by_cases c5:v.n≤60<;>by_cases c2:v.s=[]<;>by_cases c3:v.l.length=0<;>by_cases c4:v.f.length=0<;>simp[c1,c2,c3,c4,c5]
      ·rw[if_neg k0,if_neg k1,if_neg k2,if_neg k3,if_neg k4,if_neg k5,if_neg k6,if_neg k7]at hR;subst hR;rfl
def q2Y:q0g:=
 Qr [⟨some 1,.box (.t 0),none⟩,Qx 2 (Ki 0)] (Qr [Qm 7 5 1,Qj 8 102 [7],Qc 6 8,Qe 9 0 6,Qe 10 1 6,Qa 3 9,Qa 4 10] (.seq (Qr [Qc 11 3,Qk 12 .gtr 11 300,Qc 13 12,Qd 14 4 13 
 false,Qg 15 (.bin .gtr (.t 14) (Ki 8)) 13 false,Qo 16 13 15] (.cond (.t 16) (Qr [Qx 2 (Ki 2)] .ret) .skip)) (Qr [Qm 17 5 1,Qj 18 103 [17],Qa 5 18] (.seq (Qr [Qc 19 5,Qh 20 
 19] (.cond (.t 20) (Qr [Qx 2 (Ki 3)] .ret) .skip)) (Qr [Qx 2 (Ki 0)] .ret)))))
def q25:List LRes:=[.tmp 2]
theorem q5C:q0n Tryz.prog 71 21 q2Y q25:=⟨_,_,Tryz.func71,rfl,by kernel_rfl,by kernel_rfl,rfl⟩
theorem z9U(v:Val)(hsm:v.sm 1048576=true)(hpt:(ptV v).1≤1000000000):q0i Tryz.prog 71 [v.d] (fun r=>r=.one (.int .i64 (q4q v))):=by
 have h1:=j2H _ v (Zak _) hsm hpt;have h2:=j0H _ v (Zak _) hsm;have c1:((300:Int)<(ptV v).1)=(300<(ptV v).1):=by apply propext;omega
 have c2:((8:Int)<(ptV v).2)=(8<(ptV v).2):=by apply propext;omega
 rw[Val.d_eq]at *;refine q5C.call rfl ?_;simp(maxSteps:=2000000)only[go_sem,↓reduceIte,q2Y,q25];refine q0c.of h1 ?_;simp(maxSteps:=2000000)only[go_sem,↓reduceIte,c1,c2];refine⟨fun a1=>⟨fun a2=>?_,fun a2=>?_⟩,fun a1=>?_⟩
 ·simp[q4q,a2]
 ·refine q0c.of h2 ?_;simp(maxSteps:=2000000)only[go_sem,↓reduceIte];have a3:¬(300<(ptV v).1∨8<(ptV v).2):=by omega
  simp only[q4q,if_neg a3];cases q1F v<;>simp
 ·have a3:300<(ptV v).1:=by omega
  simp[q4q,a3]
def eqB{α:Type}(p:α→α→Bool):List α→List α→Bool
 |[],[]=>true
 |x::r,y::s=>p x y&&eqB p r s
 |_,_=>false
theorem z9P{α:Type}{p:α→α→Bool}:∀{a b:List α},¬a.length=b.length→eqB p a b=false
 |[],[],h=>absurd rfl h
 |[],_::_,_=>rfl
 |_::_,[],_=>rfl
 |x::r,y::s,h=>by
  have:eqB p r s=false:=z9P (by simpa using h);simp[eqB,this]
theorem j3J{α:Type}{p:α→α→Bool}{a b:List α}(ha:a=[])(hb:b=[]):eqB p a b=true:=by subst ha;subst hb;rfl
mutual
def q6k:Val→Val→Bool
 |.mk k n s l f,.mk k' n' s' l' f'=>decide (k=k')&&(decide (n=n')&&(decide (s=s')&&(z1a l l'&&z09 f f')))
def z1a:List Val→List Val→Bool
 |[],[]=>true
 |x::r,y::s=>q6k x y&&z1a r s
 |_,_=>false
def z09:List Fld→List Fld→Bool
 |[],[]=>true
 |.mk nm x::r,.mk nm' y::s=>(decide (nm=nm')&&q6k x y)&&z09 r s
 |_,_=>false
end
def z7G(x y:Fld):Bool:=decide (x.name=y.name)&&q6k x.v y.v
theorem z7F:∀(a b:List Val),z1a a b=eqB q6k a b
 |[],[]=>rfl
 |[],_::_=>rfl
 |_::_,[]=>rfl
 |x::r,y::s=>by simp only[z1a,eqB,z7F r s]
theorem z7E:∀(a b:List Fld),z09 a b=eqB z7G a b
 |[],[]=>rfl
 |[],_::_=>rfl
 |.mk _ _::_,[]=>rfl
 |.mk _ x::r,.mk _ y::s=>by simp only[z09,eqB,z7E r s];rfl
theorem j3e(a b:Val):q6k a b=(decide (a.kind=b.kind)&&(decide (a.n=b.n)&&(decide (a.s=b.s)&&(eqB q6k a.l b.l&&eqB z7G a.f b.f)))):=by
 cases a;cases b;simp only[q6k,z7F,z7E];rfl
mutual
theorem q7z:∀(a b:Val),q6k a b=true↔a=b
 |.mk k n s l f,.mk k' n' s' l' f'=>by
  simp only[q6k,Zah,decide_eq_true_eq,z5E l l',z5D f f',Val.mk.injEq]
theorem z5E:∀(a b:List Val),z1a a b=true↔a=b
 |[],[]=>by simp[z1a]
 |[],_::_=>by simp[z1a]
 |_::_,[]=>by simp[z1a]
 |x::r,y::s=>by simp only[z1a,Zah,q7z x y,z5E r s,Zdh]
theorem z5D:∀(a b:List Fld),z09 a b=true↔a=b
 |[],[]=>by simp[z09]
 |[],_::_=>by simp[z09]
 |.mk _ _::_,[]=>by simp[z09]
 |.mk nm x::r,.mk nm' y::s=>by simp only[z09,Zah,decide_eq_true_eq,q7z x y,z5D r s,Zdh,Fld.mk.injEq]
end
def q4I:q0g:=
 Qr [⟨some 2,.box (.t 0),none⟩,⟨some 3,.box (.t 1),none⟩,Qx 4 KF] (.seq (Qr [Qf 9 0 2,Ql 10 9,Qf 11 0 3,Ql 12 11,Qb 13 .neq 10 12,Qc 14 13,Qg 15 (.fa 1 (.t 2)) 14 false, 
 Qg 16 (.ld false 1 (.t 15)) 14 false,Qg 17 (.fa 1 (.t 3)) 14 false,Qg 18 (.ld false 1 (.t 17)) 14 false,Qg 19 (.bin .neq (.t 16) (.t 18)) 14 false,Qo 20 14 19,Qc 21 20,Qg 
 22 (.fa 2 (.t 2)) 21 false,Qg 23 (.ld false 1 (.t 22)) 21 false,Qg 24 (.fa 2 (.t 3)) 21 false,Qg 25 (.ld false 1 (.t 24)) 21 false,Qg 26 (.bin .neq (.t 23) (.t 25)) 21 false, 
 Qo 27 21 26,Qc 28 27,Qg 29 (.fa 3 (.t 2)) 28 false,Qg 30 (.ld false 1 (.t 29)) 28 false,Qg 31 (.len false (.t 30)) 28 false,Qg 32 (.fa 3 (.t 3)) 28 false,Qg 33 (.ld false 1 
 (.t 32)) 28 false,Qg 34 (.len false (.t 33)) 28 false,Qg 35 (.bin .neq (.t 31) (.t 34)) 28 false,Qo 36 28 35,Qc 37 36,Qg 38 (.fa 4 (.t 2)) 37 false,Qg 39 (.ld false 1 (.t 
 38)) 37 false,Qg 40 (.len false (.t 39)) 37 false,Qg 41 (.fa 4 (.t 3)) 37 false,Qg 42 (.ld false 1 (.t 41)) 37 false,Qg 43 (.len false (.t 42)) 37 false,Qg 44 (.bin .neq (.t 
 40) (.t 43)) 37 false,Qo 45 37 44] (.cond (.t 45) (Qr [Qx 4 KF] .ret) .skip)) (.seq (Qr [Qx 5 (Ki 0)] (.block 0 (.loop (.seq (Qr [Qc 46 5,Qf 47 3 2,Ql 48 47,Qz 49 false 48, 
 Qb 50 .lss 46 49] (.cond (.t 50) .skip (.exit 0))) (.seq (.block 1 (.seq (.dreg [Qf 53 3 2,Ql 54 53,Qc 55 5,Q 56 (.ia 5 (.t 54) (.t 55)),Qm 57 5 56,Qf 58 3 3,Ql 59 58,Qc 
 60 5,Q 61 (.ia 5 (.t 59) (.t 60)),Qm 62 5 61,Qj 63 28 [57,62],Qa 6 63]) (Qr [Qc 64 6,Qh 65 64] (.cond (.t 65) (Qr [Qx 4 KF] .ret) .skip)))) (.reg [Qc 51 5,Qk 52 .add 51 1, 
 Qa 5 52])))))) (.seq (Qr [Qx 7 (Ki 0)] (.block 2 (.loop (.seq (Qr [Qc 66 7,Qf 67 4 2,Ql 68 67,Qz 69 false 68,Qb 70 .lss 66 69] (.cond (.t 70) .skip (.exit 2))) (.seq (.block 
 3 (.seq (.dreg [Qf 73 4 2,Ql 74 73,Qc 75 7,Q 76 (.ia 6 (.t 74) (.t 75)),Qf 77 1 76,Qm 78 5 77,Qf 79 4 3,Ql 80 79,Qc 81 7,Q 82 (.ia 6 (.t 80) (.t 81)),Qf 83 1 82,Qm 84 
 5 83,Qj 85 28 [78,84],Qa 8 85]) (.seq (.dreg [Qc 86 8,Qh 87 86,Qc 88 87,Qg 89 (.fa 4 (.t 2)) 88 false,Qg 90 (.ld false 1 (.t 89)) 88 false,Qd 91 7 88 false,Qg 92 (.ia 6 
 (.t 90) (.t 91)) 88 false,Qg 93 (.fa 0 (.t 92)) 88 false,Qg 94 (.ld false 1 (.t 93)) 88 false,Qg 95 (.fa 4 (.t 3)) 88 false,Qg 96 (.ld false 1 (.t 95)) 88 false,Qd 97 7 88 
 false,Qg 98 (.ia 6 (.t 96) (.t 97)) 88 false,Qg 99 (.fa 0 (.t 98)) 88 false,Qg 100 (.ld false 1 (.t 99)) 88 false,Qg 101 (.bin .neq (.t 94) (.t 100)) 88 false,Qo 102 88 
 101]) (.cond (.t 102) (Qr [Qx 4 KF] .ret) .skip)))) (.reg [Qc 71 7,Qk 72 .add 71 1,Qa 7 72])))))) (Qr [Qx 4 KT] .ret))))
def q4X:List LRes:=[.tmp 4]
theorem q7f:q0n Tryz.prog 28 103 q4I q4X:=⟨_,_,Tryz.func28,rfl,by kernel_rfl,by kernel_rfl,rfl⟩
theorem z3N:∀(m:Nat) (a b:Val),SizeOf.sizeOf a≤m→a.sm 1048576=true→q0i Tryz.prog 28 [a.d,b.d] (fun r=>r=.one (.bool (q6k a b))):=by
 intro m;induction m with
 |zero=>intro v b h;cases v;simp at h
 |succ m ih=>
  intro a b hv hsm;obtain⟨_,hll,hfl,hsl,hsf⟩:=Val.q1e.1 hsm;have hvl:=q0H a.l;have hfl':=q0D a.f;have hvl2:=q0H b.l;have hfl2:=q0D b.f;generalize hR:q6k a b=R;rw[j3e]at hR;rw[Val.d_eq a,Val.d_eq b];have castE:∀x y:Nat,((x:Int)=(y:Int))=(x=y):=fun x y=>by apply propext;omega
  refine q7f.call rfl ?_;simp(maxSteps:=2000000)only[go_sem,↓reduceIte,q4I,q4X,hvl,hfl',hvl2,hfl2,castE];refine⟨fun c1=>⟨fun c2=>⟨fun c3=>⟨fun c4=>⟨fun c5=>?_,fun c5=>?_⟩,fun c4=>?_⟩,fun c3=>?_⟩,fun c2=>?_⟩,fun c1=>?_⟩
  ·rw[z9P c5]at hR;subst hR;simp
  ·simp only[c1,c2,c3,decide_true,Zcn]at hR;refine q0f (fun i:Nat=>⟨[(2,.ptr (.l 2) 0),(3,.ptr (.l 3) 0),(5,.d (.int .i64 i))],
     [(2,.cells [.d (.int .i64 a.kind),.d (.int .i64 a.n),.d (.str a.s),.d (.list (q0m a.l)),.d (.list (q0k a.f))]),
      (3,.cells [.d (.int .i64 b.kind),.d (.int .i64 b.n),.d (.str b.s),.d (.list (q0m b.l)),.d (.list (q0k b.f))])],[]⟩)
    (fun i=>i≤a.l.length∧(eqB q6k (a.l.drop i) (b.l.drop i)&&eqB z7G a.f b.f)=R) (fun i=>a.l.length-i) 0 ?_ ?_ ?_
   ·refine Weak.mk ?_ ?_ ?_<;>simp(maxSteps:=2000000)only[go_sem,↓reduceIte,Sub,Zaa,Zab]
   ·exact⟨by omega,hR⟩
   ·rintro i ⟨hi,hF⟩;simp(maxSteps:=2000000)only[go_sem,↓reduceIte,hvl];refine⟨fun hlt=>?_,fun hge=>?_⟩
    ·obtain⟨x,hx⟩:=get_some (l:=a.l) (i:=i) (by omega);obtain⟨y,hy⟩:=get_some (l:=b.l) (i:=i) (by omega);rw[q0W hx,q0W hy,eqB]at hF;have hm:=Zaf hx;have hc:=ih x y (by have:=z1H hm;omega) (hsl x hm);rw[Val.d_eq x,Val.d_eq y]at hc;simp(maxSteps:=2000000)(disch:=omega)only[go_sem,↓reduceIte,q0a,q3c,hx,hy,Val.d_eq];refine q1E.of hc ?_;simp(maxSteps:=2000000)(disch:=omega)only[go_sem,↓reduceIte];refine⟨fun w1=>?_,fun w1=>⟨i+1,?_,⟨by omega,?_⟩,by omega⟩⟩
     ·rw[←hF,w1];rfl
     ·refine Weak.mk ?_ ?_ ?_<;>simp(maxSteps:=2000000)only[go_sem,↓reduceIte,Sub,Zaa,Zab]
     ·rw[←hF,w1];rfl
    ·rw[j3J (Zai (by omega)) (Zai (by omega)),Zcn]at hF;refine q0f (fun i:Nat=>⟨[(2,.ptr (.l 2) 0),(3,.ptr (.l 3) 0),(7,.d (.int .i64 i))],
       [(2,.cells [.d (.int .i64 a.kind),.d (.int .i64 a.n),.d (.str a.s),.d (.list (q0m a.l)),.d (.list (q0k a.f))]),
        (3,.cells [.d (.int .i64 b.kind),.d (.int .i64 b.n),.d (.str b.s),.d (.list (q0m b.l)),.d (.list (q0k b.f))])],[]⟩)
      (fun i=>i≤a.f.length∧eqB z7G (a.f.drop i) (b.f.drop i)=R) (fun i=>a.f.length-i) 0 ?_ ?_ ?_
     ·refine Weak.mk ?_ ?_ ?_<;>simp(maxSteps:=2000000)only[go_sem,↓reduceIte,Sub,Zaa,Zab]
     ·exact⟨by omega,hF⟩
     ·rintro i ⟨hi,hF⟩;simp(maxSteps:=2000000)only[go_sem,↓reduceIte,hfl'];refine⟨fun hlt=>?_,fun hge=>?_⟩
      ·obtain⟨x,hx⟩:=get_some (l:=a.f) (i:=i) (by omega);obtain⟨y,hy⟩:=get_some (l:=b.f) (i:=i) (by omega);rw[q0W hx,q0W hy,eqB,z7G]at hF;have hm:=Zaf hx;have hc:=ih x.v y.v (by have:=z1G hm;omega) (Fld.q1e.1 (hsf x hm)).2;rw[Val.d_eq x.v,Val.d_eq y.v]at hc;simp(maxSteps:=2000000)(disch:=omega)only[go_sem,↓reduceIte,q0a,q0K,hx,hy,Fld.d_eq];refine q1E.of hc ?_;simp(maxSteps:=2000000)(disch:=omega)only[go_sem,↓reduceIte,q0a,q0K,hx,hy,Fld.d_eq]
       refine⟨fun w1=>⟨fun n1=>?_,fun n1=>⟨i+1,?_,⟨by omega,?_⟩,by omega⟩⟩,fun w1=>?_⟩
       ·rw[←hF];simp[n1]
       ·refine Weak.mk ?_ ?_ ?_<;>simp(maxSteps:=2000000)only[go_sem,↓reduceIte,Sub,Zaa,Zab]
       ·rw[←hF,w1];simp[n1]
       ·rw[←hF,w1];simp
      ·rw[j3J (Zai (by omega)) (Zai (by omega))]at hF;subst hF;rfl
  ·rw[z9P c4]at hR;subst hR;simp
  ·simp only[c3,decide_false,Zcq,Bool.and_false]at hR;subst hR;rfl
  ·simp only[c2,decide_false,Zcq,Bool.and_false]at hR;subst hR;rfl
  ·simp only[c1,decide_false,Zcq,Bool.and_false]at hR;subst hR;rfl
def q5R:q0g:=
 Qr [⟨some 2,.box (.t 0),none⟩,Qv 4,Qx 5 KF] (.seq (Qr [Qx 6 (Ki 0)] (.block 0 (.loop (.seq (Qr [Qc 7 6,Qf 8 4 2,Ql 9 8,Qz 10 false 9,Qb 11 .lss 7 10] (.cond (.t 11) .skip 
 (.exit 0))) (.seq (.block 1 (Qr [Qf 14 4 2,Ql 15 14,Qc 16 6,Q 17 (.ia 6 (.t 15) (.t 16)),Qf 18 0 17,Ql 19 18,Qc 20 1,Qb 21 .eql 19 20] (.cond (.t 21) (Qr [Qf 22 4 2,Ql 23 
 22,Qc 24 6,Q 25 (.ia 6 (.t 23) (.t 24)),Qf 26 1 25,Qm 27 5 26,Qs 5 4 27,Qx 5 KT] .ret) .skip))) (.reg [Qc 12 6,Qk 13 .add 12 1,Qa 6 13])))))) (Qr [Qy 28,Qs 5 4 28,Qx 5 
 KF] .ret))
def q5T:List LRes:=[.cell 4 true 5,.tmp 5]
theorem q8d:q0n Tryz.prog 21 29 q5R q5T:=⟨_,_,Tryz.func21,rfl,by kernel_rfl,by kernel_rfl,rfl⟩
def getV(nm:List UInt8):List Fld→Option Val
 |[]=>none
 |x::r=>if x.name=nm then some x.v else getV nm r
def zeroV:Val:=.mk 0 0 [] [] []
def getR(o:Option Val):Res:=.tup [(o.getD zeroV).d,.bool o.isSome]
theorem q88(v:Val)(nm:List UInt8)(hf:v.f.length≤1048576):q0i Tryz.prog 21 [v.d,.str nm] (fun r=>r=getR (getV nm v.f)):=by
 have hfl':=q0D v.f;generalize hR:getV nm v.f=R;rw[Val.d_eq];refine q8d.call rfl ?_;simp(maxSteps:=2000000)only[go_sem,↓reduceIte,q5R,q5T];refine q0f (fun i:Nat=>⟨[(1,.d (.str nm)),(2,.ptr (.l 2) 0),(4,.ptr (.l 4) 0),(6,.d (.int .i64 i))],
   [(2,.cells [.d (.int .i64 v.kind),.d (.int .i64 v.n),.d (.str v.s),.d (.list (q0m v.l)),.d (.list (q0k v.f))]),
    (4,.cells [.d (.int .i64 0),.d (.int .i64 0),.d (.str []),.ns,.ns])],[]⟩)
  (fun i=>i≤v.f.length∧getV nm (v.f.drop i)=R) (fun i=>v.f.length-i) 0 ?_ ?_ ?_
 ·refine Weak.mk ?_ ?_ ?_<;>simp(maxSteps:=2000000)only[go_sem,↓reduceIte,Sub,Zaa,Zab]
 ·exact⟨by omega,hR⟩
 ·rintro i ⟨hi,hF⟩;simp(maxSteps:=2000000)only[go_sem,↓reduceIte,hfl'];refine⟨fun hlt=>?_,fun hge=>?_⟩
  ·obtain⟨x,hx⟩:=get_some (l:=v.f) (i:=i) (by omega);rw[q0W hx,getV]at hF;simp(maxSteps:=2000000)(disch:=omega)only[go_sem,↓reduceIte,q0a,q0K,hx,Fld.d_eq];refine⟨fun n1=>?_,fun n1=>⟨i+1,?_,⟨by omega,?_⟩,by omega⟩⟩
   ·rw[if_pos n1]at hF;subst hF;simp only[getR,Zbd,Zcb];rw[Val.d_eq x.v]
   ·refine Weak.mk ?_ ?_ ?_<;>simp(maxSteps:=2000000)only[go_sem,↓reduceIte,Sub,Zaa,Zab]
   ·rw[if_neg n1]at hF;exact hF
  ·rw[Zai (by omega),getV]at hF;subst hF;rfl
def z3C:q0g:=
 Qr [⟨some 2,.box (.t 0),none⟩,Qv 4,Qx 5 KF] (.seq (Qr [Qf 8 4 2,Ql 9 8,Qz 10 false 9,Q 11 (.cp (Ki 0))] (.block 0 (.loop (Qr [Qb 12 .lss 11 10] (.seq (.cond (.t 12) .skip 
 (.exit 0)) (.seq (.block 1 (Qr [Q 13 (.ia 6 (.t 9) (.t 11)),Qm 14 6 13,⟨some 7,.allo [.str [],.int .i64 0,.int .i64 0,.str [],.list [],.list []],none⟩,Qs 6 7 14] (Qr 
 [Qf 15 0 7,Ql 16 15,Qc 17 1,Qb 18 .eql 16 17] (.cond (.t 18) (Qr [Qf 19 1 7,Qm 20 5 19,Qs 5 4 20,Qx 5 KT] .ret) .skip)))) (.reg [Qk 21 .add 11 1,Qc 11 21]))))))) (Qr [Qy 
 22,Qs 5 4 22,Qx 5 KF] .ret))
def z3J:List LRes:=[.cell 4 true 5,.tmp 5]
theorem z5o:q0n Tryz.prog 18 23 z3C z3J:=⟨_,_,Tryz.func18,rfl,by kernel_rfl,by kernel_rfl,rfl⟩
theorem q87(v:Val)(nm:List UInt8)(hf:v.f.length≤1048576):q0i Tryz.prog 18 [v.d,.str nm] (fun r=>r=getR (getV nm v.f)):=by
 have hfl':=q0D v.f;generalize hR:getV nm v.f=R;rw[Val.d_eq];refine z5o.call rfl ?_;simp(maxSteps:=2000000)only[go_sem,↓reduceIte,z3C,z3J];refine q0f (fun i:Nat=>⟨[(1,.d (.str nm)),(2,.ptr (.l 2) 0),(4,.ptr (.l 4) 0),(9,.d (.list (q0k v.f))),(10,.d (.int .i64 v.f.length)),(11,.d (.int .i64 i))],
   [(2,.cells [.d (.int .i64 v.kind),.d (.int .i64 v.n),.d (.str v.s),.d (.list (q0m v.l)),.d (.list (q0k v.f))]),
    (4,.cells [.d (.int .i64 0),.d (.int .i64 0),.d (.str []),.ns,.ns])],[]⟩)
  (fun i=>i≤v.f.length∧getV nm (v.f.drop i)=R) (fun i=>v.f.length-i) 0 ?_ ?_ ?_
 ·refine Weak.mk ?_ ?_ ?_<;>simp(maxSteps:=2000000)only[go_sem,↓reduceIte,Sub,Zaa,Zab,hfl']
 ·exact⟨by omega,hR⟩
 ·rintro i ⟨hi,hF⟩;simp(maxSteps:=2000000)only[go_sem,↓reduceIte,hfl'];refine⟨fun hlt=>?_,fun hge=>?_⟩
  ·obtain⟨x,hx⟩:=get_some (l:=v.f) (i:=i) (by omega);rw[q0W hx,getV]at hF;simp(maxSteps:=2000000)(disch:=omega)only[go_sem,↓reduceIte,q0a,q0K,hx,Fld.d_eq];refine⟨fun n1=>?_,fun n1=>⟨i+1,?_,⟨by omega,?_⟩,by omega⟩⟩
   ·rw[if_pos n1]at hF;subst hF;simp only[getR,Zbd,Zcb];rw[Val.d_eq x.v]
   ·refine Weak.mk ?_ ?_ ?_<;>simp(maxSteps:=2000000)only[go_sem,↓reduceIte,Sub,Zaa,Zab]
   ·rw[if_neg n1]at hF;exact hF
  ·rw[Zai (by omega),getV]at hF;subst hF;rfl
/-! ### Builders, wherever they lie -/
def Bld.at(r:Ref):Bld→AObj
 |.new=>.cells [.nt 135,.ns]
 |.nul=>.cells [.ptr r 0,.ns]
 |.has s=>.cells [.ptr r 0,.own (.c r 1) 5 1 (q0v s)]
theorem Bld.j1y(b:Bld):b.obj=b.at (.x 0):=by cases b<;>rfl
theorem Bld.j3h(b:Bld)(r:Ref):(b.at (.x 0)).ren [r]=b.at r:=by cases b<;>rfl
theorem Bld.j87(b:Bld):(b.at (.x 0)).wf 1=true:=by cases b<;>rfl
theorem Bld.j86(b:Bld)(i:Nat):(b.at (.x i)).q5b=true:=by cases b<;>rfl
theorem Bld.q0w(s:List UInt8):Bld.bytes (.has s)=s:=rfl
theorem q1m{dst:Option Nat}{f:LX}{args:List LX}{K:St→Prop}{σ:St}{g:FuncId}{first cap:List AV}{xs:List AV}{ret:AV}(r:Ref){b b':Bld}(hf:σ.ev f=.fn (.func g) first cap)(hc:q1r Tryz.prog g xs [b.at (.x 0)] ret [b'.at (.x 0)])
  (hx:q7o [] 0 (first++(evL σ args++cap))=renL [r] xs) (hwx:wfAL [] 1 0 xs=true) (ho:σ.obj r=some (b.at r)) (hr:z2h 1 ret=true)
  (hK:K (retO (({ σ with ρ:=amap (AV.z47 [r]) σ.ρ }:St).setObj r (b'.at r)) dst [r] ret)):q0e Tryz.prog dst .call (f::args) K σ:=by
 refine q0e.q0C [r] [] hf hc hx hwx ?_ ?_ ?_ ?_ ⟨hr,?_⟩ ?_
 ·exact⟨by rw[Bld.j3h];exact ho,trivial⟩
 ·show(Bld.at (.x 0) b).wf 1&&true=true
  rw[Bld.j87];rfl
 ·rfl
 ·rfl
 ·show((Bld.at (.x 0) b').wf 1&&(isLocal r || ((Bld.at (.x 0) b').ren [r]).q5b))&&true=true
  rw[Bld.j87,Bld.j3h];cases r with
  |l s=>rfl
  |x i=>rw[Bld.j86];rfl
 ·show K (retO (q5f [r] { (q0z σ [])with ρ:=amap (AV.z47 [r]) (q0z σ []).ρ } [r] [Bld.at (.x 0) b']) dst [r] ret)
  simp only[q5f,Bld.j3h,q0z];exact hK
theorem q0S(b:Bld)(t:List UInt8)(hl:(b.bytes++t).length≤1000000000):q1r Tryz.prog 121 [.ptr (.x 0) 0,.d (.str t)] [b.at (.x 0)] (.tuple [.d (.int .i64 t.length),.d .nil]) [Bld.at (.x 0) (.has (b.bytes++t))]:=by
 rw[←Bld.j1y,←Bld.j1y];exact z3g b t hl
theorem q1N(b:Bld)(c:UInt8)(hl:b.bytes.length+1≤1000000000):q1r Tryz.prog 125 [.ptr (.x 0) 0,.d (.int .u8 c.toNat)] [b.at (.x 0)] (.d .nil) [Bld.at (.x 0) (.has (b.bytes++[c]))]:=by
 rw[←Bld.j1y,←Bld.j1y];exact z5v b c hl
theorem q6W{c:UInt8}(h:c.toNat<128):(Utf8.encode (c.toNat:Int)).data.toList=[c]:=by
 have:∀n:Fin 128,(Utf8.encode ((n.val:Nat):Int)).data.toList=[UInt8.ofNat n.val]:=by decide +kernel
 have:=this ⟨c.toNat,h⟩;simp only at this;rw[this];simp
def z8Q(c:UInt8):Bool:=decide (32<c.toNat)&&(decide (c.toNat≤126) && !decide (c∈([40,41,60,62,91,93,123,125,47,37,35]:List UInt8)))
def z01:q0g:=
 Qr [Qx 2 KF] (Qr [Qc 3 0,Q 4 (.bin .gtr (.t 3) (Kb 32)),Qc 5 4,Qd 6 0 5 true,Qg 7 (.bin .leq (.t 6) (Kb 126)) 5 true,Qp 8 5 7,Qc 9 8,Qd 10 0 9 true,Qg 11 (.cvI .i32 (.t 
 10)) 9 true,Qg 12 (.i2s (.t 11)) 9 true,⟨some 13,.call 82 [.k (.d (.str [40,41,60,62,91,93,123,125,47,37,35])),.t 12],some (9,true)⟩,Qg 14 (.not (.t 13)) 9 true, 
 Qp 15 9 14,Qa 2 15] .ret)
def z07:List LRes:=[.tmp 2]
theorem z3d:q0n Tryz.prog 163 16 z01 z07:=⟨_,_,Tryz.func163,rfl,by kernel_rfl,by kernel_rfl,rfl⟩
theorem j2J(c:UInt8):q0i Tryz.prog 163 [.int .u8 c.toNat] (fun r=>r=.one (.bool (z8Q c))):=by
 have hc8:=q1Q c;refine z3d.call rfl ?_;simp(maxSteps:=2000000)only[go_sem,↓reduceIte,z01,z07];refine⟨fun h1=>⟨fun h2=>?_,fun h2=>?_⟩,fun h1=>?_⟩
 ·rw[IntWalk.i32_in _ (by omega),q6W (by omega)];refine q0c.of (z0a _ c) ?_;simp(maxSteps:=2000000)only[go_sem,↓reduceIte];have h3:32<c.toNat:=by omega
  have h4:c.toNat≤126:=by omega
  simp[z8Q,h3,h4]
 ·have h4:¬c.toNat≤126:=by omega
  simp[z8Q,h4]
 ·have h4:¬32<c.toNat:=by omega
  simp[z8Q,h4]
def q6Y:List UInt8:=[48,49,50,51,52,53,54,55,56,57,65,66,67,68,69,70]
theorem j5j{n:Nat}(h:n<16):getI q6Y (n:Int)=some (q6Y.getD n 0):=by
 rw[q0a];have:n<q6Y.length:=h;simp[this]
def z66(c:UInt8):List UInt8:=if z8Q c then[c]else[35,q6Y.getD (c.toNat / 16) 0,q6Y.getD (c.toNat % 16) 0]
def q8J(s:List UInt8):List UInt8:=s.flatMap z66
theorem z8B(c:UInt8):(z66 c).length≤3:=by unfold z66;split<;>simp
theorem q9k(s:List UInt8):(q8J s).length≤3*s.length:=by
 induction s with
 |nil=>simp[q8J]
 |cons c s ih=>
  have:q8J (c::s)=z66 c++q8J s:=rfl;rw[this,Zad];have:=z8B c;simp only[Zae];omega
theorem z6c{s:List UInt8}{i:Nat}{c:UInt8}(h:s[i]?=some c):q8J (s.take (i+1))=q8J (s.take i)++z66 c:=by
 simp[q8J,z4Z h]
theorem j5H(a b:UInt8):bytesOf [.int .u8 a.toNat,.int .u8 b.toNat]=some [a,b]:=q0q [a,b]
def z2t:q0g:=
 Qr [Qc 5 0,⟨some 6,.prim .call [.k (.fn (.func 125) [] []),.t 5,.k (.d (.int .u8 47))] [],none⟩] (Qr [Qc 7 1,Qz 8 true 7,Q 9 (.cp (Ki 0))] (.block 0 (.loop (Qr [Qb 10 .lss 9 
 8] (.seq (.cond (.t 10) .skip (.exit 0)) (.seq (.block 1 (Qr [Qc 11 9,Qa 4 11] (Qr [Qc 12 1,Qc 13 4,Q 14 (.idxS (.t 12) (.t 13)),Qj 15 163 [14]] (.cond (.t 15) (.reg [Qc 16 
 0,Qc 17 1,Qc 18 4,Q 19 (.idxS (.t 17) (.t 18)),Qq 20 125 [16,19]]) (.dreg [Qc 21 0,Qc 22 1,Qc 23 4,Q 24 (.idxS (.t 22) (.t 23)),Q 25 (.bin .shr (.t 24) (.k (.d (.int 
 .u64 4)))),Q 26 (.idxS (.k (.d (.str [48,49,50,51,52,53,54,55,56,57,65,66,67,68,69,70]))) (.t 25)),Qc 27 1,Qc 28 4,Q 29 (.idxS (.t 27) (.t 28)),Q 30 (.bin 
 .and (.t 29) (Kb 15)),Q 31 (.idxS (.k (.d (.str [48,49,50,51,52,53,54,55,56,57,65,66,67,68,69,70]))) (.t 30)),⟨some 32,.bsl 5 1 [.t 26,.t 31],none⟩,Q 33 
 (.b2s (.t 32)),Q 34 (.bin .add (.k (.d (.str [35]))) (.t 33)),Qq 35 121 [21,34]]))))) (.reg [Qk 36 .add 9 1,Qc 9 36])))))))
def z2C:List LRes:=[]
theorem z4m:q0n Tryz.prog 124 37 z2t z2C:=⟨_,_,Tryz.func124,rfl,by kernel_rfl,by kernel_rfl,rfl⟩
theorem j4s(b:Bld)(s:List UInt8)(hl:b.bytes.length+3*s.length+1≤1000000000):q1r Tryz.prog 124 [.ptr (.x 0) 0,.d (.str s)] [b.at (.x 0)] (.tuple []) [Bld.at (.x 0) (.has (b.bytes++[47]++q8J s))]:=by
 refine z4m.q0C (by kernel_rfl) rfl ?_;simp(maxSteps:=2000000)only[go_sem,↓reduceIte,z2t,z2C];refine q1m (.x 0) rfl (q1N b 47 (by omega)) rfl rfl rfl rfl ?_;simp(maxSteps:=2000000)only[go_sem,↓reduceIte];refine q0f (fun i:Nat=>⟨[(0,.ptr (.x 0) 0),(1,.d (.str s)),(7,.d (.str s)),(8,.d (.int .i64 s.length)),(9,.d (.int .i64 i))],[],
   [(0,Bld.at (.x 0) (.has (b.bytes++[47]++q8J (s.take i))))]⟩)
  (fun i=>i≤s.length) (fun i=>s.length-i) 0 ?_ ?_ ?_
 ·refine Weak.mk ?_ ?_ ?_<;>simp(maxSteps:=2000000)only[go_sem,↓reduceIte,Sub,Zaa,Zab,Zdf,q8J,List.flatMap_nil]
 ·omega
 ·intro i hi;have hle:=q9k (s.take i);rw[Zaw]at hle;have ht:([48,49,50,51,52,53,54,55,56,57,65,66,67,68,69,70]:List UInt8)=q6Y:=rfl
  simp(maxSteps:=2000000)only[run_seq,z2i,q9r,pev,fB,binD,St.ev,St.get,aget,reduceCtorEq,↓reduceIte,Nat.reduceEqDiff,Zbd,binI,Zax,q3s,St.put,z08,z2b,q9L,q9Q,z1P,decide_eq_true_eq,z7k,q9u,z4y,asgS,z2W,z7j,q8l,q8m,q9s,j0q,z4H,resR,z4G,mkA,q8B,z3L,true_and,IteG];refine⟨fun hlt=>?_,fun hge=>?_⟩
  ·obtain⟨c,hc⟩:=get_some (l:=s) (i:=i) (by omega);have hc8:=q1Q c;have e1:Int.fdiv (c.toNat:Int) (2 ^ min 4 IntKind.u8.bits)=((c.toNat / 16:Nat):Int):=z6o c.toNat 4;have e2:IntKind.u8.wrap (((BitVec.ofInt IntKind.u8.bits (c.toNat:Int) &&& BitVec.ofInt IntKind.u8.bits 15).toNat:Nat):Int)=((c.toNat % 16:Nat):Int):=by
    rw[←j9Y];exact j3f (m:=15) hc8 (by decide)
   have t1:getI q6Y ((c.toNat / 16:Nat):Int)=some (q6Y.getD (c.toNat / 16) 0):=j5j (by omega);have t2:getI q6Y ((c.toNat % 16:Nat):Int)=some (q6Y.getD (c.toNat % 16) 0):=j5j (by omega);simp(maxSteps:=2000000)(disch:=omega)only[q0a s,hc,Zax,q3s,St.put,z08,j1z,evL,St.ev,St.get,aget,↓reduceIte,Zbd,q5N,AV.rd];refine q0c.of (j2J c) ?_
   simp(maxSteps:=2000000)(disch:=omega)only[putO,St.put,z08,Res.av,z2b,q9L,q9Q,St.ev,St.get,aget,↓reduceIte,Zbd,z1P,z2i,q9r,pev,reduceCtorEq,q3s,Nat.reduceEqDiff,z2W,q0a s,hc,Zax,q9J,j1O,z9K,fB,binD,Int.reduceLT,Int.reduceToNat,IteG,Bool.not_eq_true];refine⟨fun p1=>?_,fun p1=>?_⟩
   ·refine q1m (.x 0) rfl (q1N (.has (b.bytes++[47]++q8J (s.take i))) c (by simp only[Bld.q0w,Zad,Zae,Zag];omega)) rfl rfl rfl rfl ?_;simp(maxSteps:=2000000)(disch:=omega)only[go_sem,↓reduceIte];refine⟨i+1,?_,by omega,by omega⟩;have:z66 c=[c]:=by simp[z66,p1]
    refine Weak.mk ?_ ?_ ?_<;>simp(maxSteps:=2000000)only[go_sem,↓reduceIte,Sub,Zaa,Zab,z6c hc,Bld.q0w,this,List.append_assoc]
   ·simp(maxSteps:=2000000)(disch:=omega)only[ht,e1,t1,Zax,q3s,St.put,z08,z9K,pev,St.ev,St.get,aget,Nat.reduceEqDiff,↓reduceIte,reduceCtorEq,Zbd,z2W,q0a s,hc,fB,binD,binI,e2,t2,j3E,bspS,evL,q5N,AV.rd,q8C,D.cells,Zae,Zag,Zbg,beq_self_eq_true,Bool.and_self,Nat.reduceAdd,Nat.reduceMul,Nat.reduceLeDiff,ne_eq,not_false_eq_true,and_self,z3h,fB2s,j5H,binS,Int.cast_ofNat_Int,Int.reduceLE,Zbe,Zbj,j06]
    refine q1m (.x 0) rfl (q0S (.has (b.bytes++[47]++q8J (s.take i))) [35,q6Y.getD (c.toNat / 16) 0,q6Y.getD (c.toNat % 16) 0] (by simp only[Bld.q0w,Zad,Zae,Zag];omega)) rfl rfl rfl rfl ?_;simp(maxSteps:=2000000)(disch:=omega)only[go_sem,↓reduceIte];refine⟨i+1,?_,by omega,by omega⟩;have:z66 c=[35,q6Y.getD (c.toNat / 16) 0,q6Y.getD (c.toNat % 16) 0]:=by simp[z66,p1]
    refine Weak.mk ?_ ?_ ?_<;>simp(maxSteps:=2000000)only[go_sem,↓reduceIte,Sub,Zaa,Zab,z6c hc,Bld.q0w,this,List.append_assoc]
  ·rw[List.take_of_length_le (by omega)]
def strB(c:UInt8):List UInt8:=if c=40∨c=41∨c=92 then[92,c]else if 32≤c.toNat∧c.toNat≤126 then[c]else[92,UInt8.ofNat (48+c.toNat / 64),UInt8.ofNat (48+c.toNat / 8 % 8),UInt8.ofNat (48+c.toNat % 8)]
def strP(s:List UInt8):List UInt8:=s.flatMap strB
theorem j0L(c:UInt8):(strB c).length≤4:=by
 unfold strB;repeat' split
 all_goals simp
theorem z0S(s:List UInt8):(strP s).length≤4*s.length:=by
 induction s with
 |nil=>simp[strP]
 |cons c s ih=>
  have:strP (c::s)=strB c++strP s:=rfl;rw[this,Zad];have:=j0L c;simp only[Zae];omega
theorem q7Y{s:List UInt8}{i:Nat}{c:UInt8}(h:s[i]?=some c):strP (s.take (i+1))=strP (s.take i)++strB c:=by
 simp[strP,z4Z h]
theorem and7(n:Nat):n &&& 7=n % 8:=Nat.and_two_pow_sub_one_eq_mod n 3
theorem z7L(a b c:Nat):bytesOf [.int .u8 (48+(a:Int)),.int .u8 (48+(b:Int)),.int .u8 (48+(c:Int))]=some [UInt8.ofNat (48+a),UInt8.ofNat (48+b),UInt8.ofNat (48+c)]:=by
 have h:∀x:Nat,(48+(x:Int)).toNat=48+x:=fun x=>by omega
 simp only[bytesOf,h,Zax]
def z3E:q0g:=
 Qr [Qc 6 0,⟨some 7,.prim .call [.k (.fn (.func 125) [] []),.t 6,.k (.d (.int .u8 40))] [],none⟩] (.seq (Qr [Qc 8 1,Qz 9 true 8,Q 10 (.cp (Ki 0))] (.block 0 (.loop (Qr [Qb 11 
 .lss 10 9] (.seq (.cond (.t 11) .skip (.exit 0)) (.seq (.block 1 (Qr [Qc 12 10,Qa 4 12] (Qr [Qc 13 1,Qc 14 4,Q 15 (.idxS (.t 13) (.t 14)),Qa 5 15] (.block 2 (Qr [Qc 32 5,Q 
 33 (.bin .eql (.t 32) (Kb 40)),Qc 34 33,Qd 35 5 34 false,Qg 36 (.bin .eql (.t 35) (Kb 41)) 34 false,Qo 37 34 36,Qc 38 37,Qd 39 5 38 false,Qg 40 (.bin .eql (.t 39) (Kb 92)) 
 38 false,Qo 41 38 40,Qa 31 41] (.cond (.t 31) (.reg [Qc 42 0,Qc 43 5,Q 44 (.cvI .i32 (.t 43)),Q 45 (.i2s (.t 44)),Q 46 (.bin .add (.k (.d (.str [92]))) (.t 45)),Qq 47 121 
 [42,46]]) (Qr [Qc 49 5,Q 50 (.bin .geq (.t 49) (Kb 32)),Qc 51 50,Qd 52 5 51 true,Qg 53 (.bin .leq (.t 52) (Kb 126)) 51 true,Qp 54 51 53,Qa 48 54] (.cond (.t 48) (.reg [Qc 
 55 0,Qc 56 5,Qq 57 125 [55,56]]) (.reg [Qc 16 0,Qc 17 5,Q 18 (.bin .shr (.t 17) (.k (.d (.int .u64 6)))),Q 19 (.bin .add (Kb 48) (.t 18)),Qc 20 5,Q 21 (.bin .shr (.t 20) 
 (.k (.d (.int .u64 3)))),Q 22 (.bin .and (.t 21) (Kb 7)),Q 23 (.bin .add (Kb 48) (.t 22)),Qc 24 5,Q 25 (.bin .and (.t 24) (Kb 7)),Q 26 (.bin .add (Kb 48) (.t 25)),⟨some 27, 
 .bsl 5 1 [.t 19,.t 23,.t 26],none⟩,Q 28 (.b2s (.t 27)),Q 29 (.bin .add (.k (.d (.str [92]))) (.t 28)),Qq 30 121 [16,29]]))))))))) (.reg [Qk 58 .add 10 1,Qc 10 58]))))))) 
 (.reg [Qc 59 0,⟨some 60,.prim .call [.k (.fn (.func 125) [] []),.t 59,.k (.d (.int .u8 41))] [],none⟩]))
def z3K:List LRes:=[]
theorem z5q:q0n Tryz.prog 123 61 z3E z3K:=⟨_,_,Tryz.func123,rfl,by kernel_rfl,by kernel_rfl,rfl⟩
theorem j9J(b:Bld)(s:List UInt8)(hl:b.bytes.length+4*s.length+2≤1000000000):q1r Tryz.prog 123 [.ptr (.x 0) 0,.d (.str s)] [b.at (.x 0)] (.tuple []) [Bld.at (.x 0) (.has (b.bytes++[40]++strP s++[41]))]:=by
 refine z5q.q0C (by kernel_rfl) rfl ?_;simp(maxSteps:=2000000)only[go_sem,↓reduceIte,z3E,z3K];refine q1m (.x 0) rfl (q1N b 40 (by omega)) rfl rfl rfl rfl ?_;simp(maxSteps:=2000000)only[go_sem,↓reduceIte];refine q0f (fun i:Nat=>⟨[(0,.ptr (.x 0) 0),(1,.d (.str s)),(8,.d (.str s)),(9,.d (.int .i64 s.length)),(10,.d (.int .i64 i))],[],
   [(0,Bld.at (.x 0) (.has (b.bytes++[40]++strP (s.take i))))]⟩)
  (fun i=>i≤s.length) (fun i=>s.length-i) 0 ?_ ?_ ?_
 ·refine Weak.mk ?_ ?_ ?_<;>simp(maxSteps:=2000000)only[go_sem,↓reduceIte,Sub,Zaa,Zab,Zdf,strP,List.flatMap_nil]
 ·omega
 ·intro i hi;have hle:=z0S (s.take i);rw[Zaw]at hle;simp(maxSteps:=2000000)only[go_sem,↓reduceIte];refine⟨fun hlt=>?_,fun hge=>?_⟩
  ·obtain⟨c,hc⟩:=get_some (l:=s) (i:=i) (by omega);have hc8:=q1Q c;have cc:∀k:Nat,c.toNat=k→c=UInt8.ofNat k:=fun k h=>by rw[←h];simp
   rcases(by omega:c.toNat=40∨c.toNat=41∨c.toNat=92∨(c.toNat≠40∧c.toNat≠41∧c.toNat≠92∧32≤c.toNat∧c.toNat≤126)∨(c.toNat≠40∧c.toNat≠41∧c.toNat≠92∧¬(32≤c.toNat∧c.toNat≤126)))with q|q|q|q|q
   ·have i32:IntKind.i32.wrap (c.toNat:Int)=c.toNat:=IntWalk.i32_in _ (by omega);have en:(Utf8.encode (c.toNat:Int)).data.toList=[c]:=q6W (by omega);have n40:((c.toNat:Int)=40)=True:=eq_true (by omega);have n41:((c.toNat:Int)=41)=False:=eq_false (by omega);have n92:((c.toNat:Int)=92)=False:=eq_false (by omega);simp(maxSteps:=2000000)(disch:=omega)only[go_sem,↓reduceIte,q0a s,hc,n40,n41,n92,i32,en]
    refine q1m (.x 0) rfl (q0S (.has (b.bytes++[40]++strP (s.take i))) [92,c] (by simp only[Bld.q0w,Zad,Zae,Zag];omega)) rfl rfl rfl rfl ?_;simp(maxSteps:=2000000)(disch:=omega)only[go_sem,↓reduceIte];refine⟨i+1,?_,by omega,by omega⟩;have hb:strB c=[92,c]:=by rw[cc _ q];rfl
    refine Weak.mk ?_ ?_ ?_<;>simp(maxSteps:=2000000)only[go_sem,↓reduceIte,Sub,Zaa,Zab,q7Y hc,Bld.q0w,hb,List.append_assoc]
   ·have i32:IntKind.i32.wrap (c.toNat:Int)=c.toNat:=IntWalk.i32_in _ (by omega);have en:(Utf8.encode (c.toNat:Int)).data.toList=[c]:=q6W (by omega);have n40:((c.toNat:Int)=40)=False:=eq_false (by omega);have n41:((c.toNat:Int)=41)=True:=eq_true (by omega);have n92:((c.toNat:Int)=92)=False:=eq_false (by omega);simp(maxSteps:=2000000)(disch:=omega)only[go_sem,↓reduceIte,q0a s,hc,n40,n41,n92,i32,en]
    refine q1m (.x 0) rfl (q0S (.has (b.bytes++[40]++strP (s.take i))) [92,c] (by simp only[Bld.q0w,Zad,Zae,Zag];omega)) rfl rfl rfl rfl ?_;simp(maxSteps:=2000000)(disch:=omega)only[go_sem,↓reduceIte];refine⟨i+1,?_,by omega,by omega⟩;have hb:strB c=[92,c]:=by rw[cc _ q];rfl
    refine Weak.mk ?_ ?_ ?_<;>simp(maxSteps:=2000000)only[go_sem,↓reduceIte,Sub,Zaa,Zab,q7Y hc,Bld.q0w,hb,List.append_assoc]
   ·have i32:IntKind.i32.wrap (c.toNat:Int)=c.toNat:=IntWalk.i32_in _ (by omega);have en:(Utf8.encode (c.toNat:Int)).data.toList=[c]:=q6W (by omega);have n40:((c.toNat:Int)=40)=False:=eq_false (by omega);have n41:((c.toNat:Int)=41)=False:=eq_false (by omega);have n92:((c.toNat:Int)=92)=True:=eq_true (by omega);simp(maxSteps:=2000000)(disch:=omega)only[go_sem,↓reduceIte,q0a s,hc,n40,n41,n92,i32,en]
    refine q1m (.x 0) rfl (q0S (.has (b.bytes++[40]++strP (s.take i))) [92,c] (by simp only[Bld.q0w,Zad,Zae,Zag];omega)) rfl rfl rfl rfl ?_;simp(maxSteps:=2000000)(disch:=omega)only[go_sem,↓reduceIte];refine⟨i+1,?_,by omega,by omega⟩;have hb:strB c=[92,c]:=by rw[cc _ q];rfl
    refine Weak.mk ?_ ?_ ?_<;>simp(maxSteps:=2000000)only[go_sem,↓reduceIte,Sub,Zaa,Zab,q7Y hc,Bld.q0w,hb,List.append_assoc]
   ·obtain⟨q1,q2,q3,q4,q5⟩:=q;have n40:((c.toNat:Int)=40)=False:=eq_false (by omega);have n41:((c.toNat:Int)=41)=False:=eq_false (by omega);have n92:((c.toNat:Int)=92)=False:=eq_false (by omega);have L32:((32:Int)≤c.toNat)=True:=eq_true (by omega);have G126:((c.toNat:Int)≤126)=True:=eq_true (by omega);simp(maxSteps:=2000000)(disch:=omega)only[go_sem,↓reduceIte,q0a s,hc,n40,n41,n92,L32,G126]
    refine q1m (.x 0) rfl (q1N (.has (b.bytes++[40]++strP (s.take i))) c (by simp only[Bld.q0w,Zad,Zae,Zag];omega)) rfl rfl rfl rfl ?_;simp(maxSteps:=2000000)(disch:=omega)only[go_sem,↓reduceIte];refine⟨i+1,?_,by omega,by omega⟩;have hb:strB c=[c]:=by
     have z:¬(c=40∨c=41∨c=92):=by
      rintro(rfl|rfl|rfl)
      ·exact q1 rfl
      ·exact q2 rfl
      ·exact q3 rfl
     simp[strB,z,q4,q5]
    refine Weak.mk ?_ ?_ ?_<;>simp(maxSteps:=2000000)only[go_sem,↓reduceIte,Sub,Zaa,Zab,q7Y hc,Bld.q0w,hb,List.append_assoc]
   ·obtain⟨q1,q2,q3,q4⟩:=q;have e1:Int.fdiv (c.toNat:Int) (2 ^ min 6 IntKind.u8.bits)=((c.toNat / 64:Nat):Int):=z6o c.toNat 6;have e2:Int.fdiv (c.toNat:Int) (2 ^ min 3 IntKind.u8.bits)=((c.toNat / 8:Nat):Int):=z6o c.toNat 3;have e3:IntKind.u8.wrap (((BitVec.ofInt IntKind.u8.bits ((c.toNat / 8:Nat):Int) &&& BitVec.ofInt IntKind.u8.bits 7).toNat:Nat):Int)=((c.toNat / 8 % 8:Nat):Int):=by
     rw[←and7];exact j3f (m:=7) (by omega) (by decide)
    have e4:IntKind.u8.wrap (((BitVec.ofInt IntKind.u8.bits (c.toNat:Int) &&& BitVec.ofInt IntKind.u8.bits 7).toNat:Nat):Int)=((c.toNat % 8:Nat):Int):=by
     rw[←and7];exact j3f (m:=7) hc8 (by decide)
    have hb:strB c=[92,UInt8.ofNat (48+c.toNat / 64),UInt8.ofNat (48+c.toNat / 8 % 8),UInt8.ofNat (48+c.toNat % 8)]:=by
     have z:¬(c=40∨c=41∨c=92):=by
      rintro(rfl|rfl|rfl)
      ·exact q1 rfl
      ·exact q2 rfl
      ·exact q3 rfl
     unfold strB;rw[if_neg z,if_neg q4]
    rcases(by omega:¬32≤c.toNat∨(32≤c.toNat∧¬c.toNat≤126))with r|r
    ·skip
     have n40:((c.toNat:Int)=40)=False:=eq_false (by omega);have n41:((c.toNat:Int)=41)=False:=eq_false (by omega);have n92:((c.toNat:Int)=92)=False:=eq_false (by omega);have L32:((32:Int)≤c.toNat)=False:=eq_false (by omega)
     simp(maxSteps:=2000000)(disch:=omega)only[q0a s,hc,Zax,q3s,St.put,z08,z4y,asgS,St.ev,St.get,aget,↓reduceIte,Zbd,z2b,q9L,q9u,run_seq,z2i,q9r,pev,fB,binD,binI,n40,decide_false,q9q,St.mark,aset,putO,Zcp,z0V,Nat.reduceEqDiff,n41,z5b,Zao,n92,q9Q,z1P,L32,Zcm,reduceCtorEq,Int.reduceLT,Int.reduceToNat,e1,IntWalk.u8_in,e2,e3,e4,j0o,bslS,evL,q5N,AV.rd,q8C,D.cells,Zae,Zag,Zbg,beq_self_eq_true,Bool.and_self,Nat.reduceAdd,Nat.reduceMul,Nat.reduceLeDiff,ne_eq,not_false_eq_true,and_self,St.erase,amap,AV.erase,z3h,fB2s,z7L,binS,Int.cast_ofNat_Int,Int.reduceLE,Zbe,Zbj,q9J]
     refine q1m (.x 0) rfl (q0S (.has (b.bytes++[40]++strP (s.take i))) [92,UInt8.ofNat (48+c.toNat / 64),UInt8.ofNat (48+c.toNat / 8 % 8),UInt8.ofNat (48+c.toNat % 8)] (by simp only[Bld.q0w,Zad,Zae,Zag];omega)) rfl rfl rfl rfl ?_;simp(maxSteps:=2000000)(disch:=omega)only[go_sem,↓reduceIte];refine⟨i+1,?_,by omega,by omega⟩;refine Weak.mk ?_ ?_ ?_<;>simp(maxSteps:=2000000)only[go_sem,↓reduceIte,Sub,Zaa,Zab,q7Y hc,Bld.q0w,hb,List.append_assoc]
    ·skip
     have n40:((c.toNat:Int)=40)=False:=eq_false (by omega);have n41:((c.toNat:Int)=41)=False:=eq_false (by omega);have n92:((c.toNat:Int)=92)=False:=eq_false (by omega);have L32:((32:Int)≤c.toNat)=True:=eq_true (by omega);have G126:((c.toNat:Int)≤126)=False:=eq_false (by omega)
     simp(maxSteps:=2000000)(disch:=omega)only[q0a s,hc,Zax,q3s,St.put,z08,z4y,asgS,St.ev,St.get,aget,↓reduceIte,Zbd,z2b,q9L,q9u,run_seq,z2i,q9r,pev,fB,binD,binI,n40,decide_false,q9q,St.mark,aset,putO,Zcp,z0V,Nat.reduceEqDiff,n41,z5b,Zao,n92,q9Q,z1P,L32,decide_true,Zcm,G126,reduceCtorEq,Int.reduceLT,Int.reduceToNat,e1,IntWalk.u8_in,e2,e3,e4,j0o,bslS,evL,q5N,AV.rd,q8C,D.cells,Zae,Zag,Zbg,beq_self_eq_true,Bool.and_self,Nat.reduceAdd,Nat.reduceMul,Nat.reduceLeDiff,ne_eq,not_false_eq_true,and_self,St.erase,amap,AV.erase,z3h,fB2s,z7L,binS,Int.cast_ofNat_Int,Int.reduceLE,Zbe,Zbj,q9J]
     refine q1m (.x 0) rfl (q0S (.has (b.bytes++[40]++strP (s.take i))) [92,UInt8.ofNat (48+c.toNat / 64),UInt8.ofNat (48+c.toNat / 8 % 8),UInt8.ofNat (48+c.toNat % 8)] (by simp only[Bld.q0w,Zad,Zae,Zag];omega)) rfl rfl rfl rfl ?_;simp(maxSteps:=2000000)(disch:=omega)only[go_sem,↓reduceIte];refine⟨i+1,?_,by omega,by omega⟩;refine Weak.mk ?_ ?_ ?_<;>simp(maxSteps:=2000000)only[go_sem,↓reduceIte,Sub,Zaa,Zab,q7Y hc,Bld.q0w,hb,List.append_assoc]
  ·have hll:=z0S s;rw[List.take_of_length_le (by omega)];refine q1m (.x 0) rfl (q1N (.has (b.bytes++[40]++strP s)) 41 (by simp only[Bld.q0w,Zad,Zae,Zag];omega)) rfl rfl rfl rfl ?_;simp(maxSteps:=2000000)only[go_sem,↓reduceIte,Bld.q0w]
open Go.Shelf
def z8f:Go.Shelf.Ren:=⟨fun|171=>37|243=>59|246=>81|283=>127|284=>128|285=>129|286=>130|129=>114|317=>167|318=>168|319=>169|320=>170|337=>189|338=>190|n=>n,fun|3=>3|9=>9|2=>2|4=>4|171=>170|0=>0|53=>161|37=>128|5=>5|173=>172|212=>197|51=>144|20=>20|213=>198|46=>127|232=>225|233=>226|n=>n,fun|17=>1|18=>2|19=>3|n=>n⟩
theorem j6h:Go.Proofs.LaysM.n171 Tryz.prog z8f where
 mixed:=by kernel_rfl
 f129:=Tryz.func114.trans (congrArg some (by kernel_rfl))
 f171:=Tryz.func37.trans (congrArg some (by kernel_rfl))
 f243:=Tryz.func59.trans (congrArg some (by kernel_rfl))
 f246:=Tryz.func81.trans (congrArg some (by kernel_rfl))
 f283:=Tryz.func127.trans (congrArg some (by kernel_rfl))
 f284:=Tryz.func128.trans (congrArg some (by kernel_rfl))
 f285:=Tryz.func129.trans (congrArg some (by kernel_rfl))
 f286:=Tryz.func130.trans (congrArg some (by kernel_rfl))
 f317:=Tryz.func167.trans (congrArg some (by kernel_rfl))
 f318:=Tryz.func168.trans (congrArg some (by kernel_rfl))
 f319:=Tryz.func169.trans (congrArg some (by kernel_rfl))
 f320:=Tryz.func170.trans (congrArg some (by kernel_rfl))
 f337:=Tryz.func189.trans (congrArg some (by kernel_rfl))
 f338:=Tryz.func190.trans (congrArg some (by kernel_rfl))
 t0:=Tryz.underlying0
 a0:=Tryz.isAgg0
 z0:=Tryz.sizeOf0
 v0:=Tryz.zeroValue0
 t2:=Tryz.underlying2
 a2:=Tryz.isAgg2
 z2:=Tryz.sizeOf2
 v2:=Tryz.zeroValue2
 t3:=Tryz.underlying3
 a3:=Tryz.isAgg3
 z3:=Tryz.sizeOf3
 v3:=Tryz.zeroValue3
 t4:=Tryz.underlying4
 a4:=Tryz.isAgg4
 z4:=Tryz.sizeOf4
 v4:=Tryz.zeroValue4
 t5:=Tryz.underlying5
 a5:=Tryz.isAgg5
 z5:=Tryz.sizeOf5
 v5:=Tryz.zeroValue5
 t9:=Tryz.underlying9
 a9:=Tryz.isAgg9
 z9:=Tryz.sizeOf9
 v9:=Tryz.zeroValue9
 t20:=Tryz.underlying20
 a20:=Tryz.isAgg20
 z20:=Tryz.sizeOf20
 v20:=Tryz.zeroValue20
 t37:=Tryz.underlying128
 a37:=Tryz.isAgg128
 z37:=Tryz.sizeOf128
 v37:=Tryz.zeroValue128
 t46:=Tryz.underlying127
 a46:=Tryz.isAgg127
 z46:=Tryz.sizeOf127
 v46:=Tryz.zeroValue127
 t51:=Tryz.underlying144
 a51:=Tryz.isAgg144
 z51:=Tryz.sizeOf144
 v51:=Tryz.zeroValue144
 t53:=Tryz.underlying161
 a53:=Tryz.isAgg161
 z53:=Tryz.sizeOf161
 v53:=Tryz.zeroValue161
 t171:=Tryz.underlying170
 a171:=Tryz.isAgg170
 z171:=Tryz.sizeOf170
 v171:=Tryz.zeroValue170
 t173:=Tryz.underlying172
 a173:=Tryz.isAgg172
 z173:=Tryz.sizeOf172
 v173:=Tryz.zeroValue172
 t212:=Tryz.underlying197
 a212:=Tryz.isAgg197
 z212:=Tryz.sizeOf197
 v212:=Tryz.zeroValue197
 t213:=Tryz.underlying198
 a213:=Tryz.isAgg198
 z213:=Tryz.sizeOf198
 t232:=Tryz.underlying225
 a232:=Tryz.isAgg225
 z232:=Tryz.sizeOf225
 v232:=Tryz.zeroValue225
 t233:=Tryz.underlying226
 a233:=Tryz.isAgg226
 z233:=Tryz.sizeOf226
 v233:=Tryz.zeroValue226
 g17:=by kernel_rfl
 g18:=by kernel_rfl
 g19:=by kernel_rfl
 i0:=by kernel_rfl
 i2:=by kernel_rfl
 i3:=by kernel_rfl
 i4:=by kernel_rfl
 i5:=by kernel_rfl
 i9:=by kernel_rfl
 i20:=by kernel_rfl
 i37:=by kernel_rfl
 i46:=by kernel_rfl
 i51:=by kernel_rfl
 i53:=by kernel_rfl
 i171:=by kernel_rfl
 i173:=by kernel_rfl
 i212:=by kernel_rfl
 i232:=by kernel_rfl
 i233:=by kernel_rfl
 m17:=by kernel_rfl
 m18:=by kernel_rfl
 m19:=by kernel_rfl
theorem j2c(w:World)(k:Nat):(w.drewN k).heap=w.heap∧(w.drewN k).os=w.os∧(w.drewN k).tape=w.tape∧(w.drewN k).output=w.output:=by
 exact⟨rfl,rfl,rfl,rfl⟩
theorem q9c(n:Int)(h0 : -9223372036854775808≤n)(h1:n≤9223372036854775807):q0i Tryz.prog 37 [.int .i64 n] (fun r=>r=.one (.str (Lib.itoa n))):=by
 intro f w vs hI ht hsz hrd;have hv:vs = #[.int .i64 n]:=by
  have h2:=hrd 0 _ rfl;match vs,hsz with
  |⟨[v]⟩,_=>cases h2;rfl
 subst hv;refine(Any.strconv_Itoa j6h n h0 h1 w (hI.1 1 (by kernel_rfl))).mono fun e w' ⟨he,k,os,hw⟩=>?_
 subst hw;obtain⟨d1,d2,d3,d4⟩:=j2c w k;have hheap:(Sort.grow (w.drewN k) os).heap=w.heap++os:=by simp[Sort.grow]
 refine⟨_,_,f,rfl,he,.str _,⟨?_,fun b hb=>⟨?_,rfl⟩,fun b hb=>ht b ?_,d2,d3,d4⟩⟩
 ·rw[hheap];simp
 ·rw[hheap,Array.getElem?_append_left hb]
 ·rw[hheap]at hb;simp at hb;omega
def q9y(l:List UInt8):List UInt8:=(l.reverse.dropWhile (·==48)).reverse
theorem z6r(l:List UInt8)(c:UInt8):q9y (l++[c])=if c=48 then q9y l else l++[c]:=by
 unfold q9y;rw[List.reverse_append,List.reverse_cons,List.reverse_nil,Zbj,Zbe,Zbj]
 by_cases h:c=48
 ·rw[if_pos h];simp[h]
 ·rw[if_neg h];simp[h]
def q4g:q0g:=
 Qr [Qx 4 (.k (.d (.str [])))] (.seq (.block 0 (.loop (.seq (Qr [Qc 5 0,Qz 6 true 5,Qk 7 .gtr 6 0,Qc 8 7,Qd 9 0 8 true,Qd 10 0 8 true,Qg 11 (.len true (.t 10)) 8 true,Qg 12 
 (.bin .sub (.t 11) (Ki 1)) 8 true,Qg 13 (.idxS (.t 9) (.t 12)) 8 true,Qd 14 1 8 true,Qg 15 (.bin .eql (.t 13) (.t 14)) 8 true,Qp 16 8 15] (.cond (.t 16) .skip (.exit 0))) 
 (.block 1 (.reg [Qc 17 0,Qc 18 0,Qz 19 true 18,Qk 20 .sub 19 1,Q 21 (.subS (.t 17) none (some (.t 20))),Qa 0 21]))))) (Qr [Qc 22 0,Qa 4 22] .ret))
def q4l:List LRes:=[.tmp 4]
theorem q6O:q0n Tryz.prog 182 23 q4g q4l:=⟨_,_,Tryz.func182,rfl,by kernel_rfl,by kernel_rfl,rfl⟩
theorem z7v(s:List UInt8)(hs:s.length≤1000000):q0i Tryz.prog 182 [.str s,.int .u8 48] (fun r=>r=.one (.str (q9y s))):=by
 refine q6O.call rfl ?_;simp(maxSteps:=2000000)only[go_sem,↓reduceIte,q4g,q4l];refine q0f (fun k:Nat=>⟨[(0,.d (.str (s.take k))),(1,.d (.int .u8 48))],[],[]⟩)
  (fun k=>k≤s.length∧q9y (s.take k)=q9y s) (fun k=>k) s.length ?_ ?_ ?_
 ·refine q0d ?_ trivial;simp(maxSteps:=2000000)only[go_sem,↓reduceIte,Sub,Zaa,Zab,List.take_length]
 ·exact⟨Zak _,by rw[List.take_length]⟩
 ·rintro k ⟨hk,hF⟩;have hlk:(s.take k).length=k:=by rw[Zaw];omega
  have hlI:(((s.take k).length:Nat):Int)=(k:Int):=by rw[hlk]
  simp(maxSteps:=2000000)(disch:=omega)only[go_sem,↓reduceIte,hlI];refine⟨fun q1=>?_,fun q1=>?_⟩
  ·obtain⟨c,hc⟩:=get_some (l:=s) (i:=k-1) (by omega);have hsplit:s.take k=s.take (k-1)++[c]:=by
    rw[←z4Z hc];congr 1;omega
   have hg:getI (s.take k) ((k:Int)-1)=some c:=by
    have e:((k:Int)-1)=((k-1:Nat):Int):=by omega
    rw[e,q0a,Zbc,if_pos (by omega),hc]
   have hcut:cutI (s.take k) 0 ((k:Int)-1)=s.take (k-1):=by
    have e:((k:Int)-1)=((k-1:Nat):Int):=by omega
    rw[e];show cutI (s.take k) ((0:Nat):Int) _=_
    rw[q4n,List.take_take,List.drop_zero];congr 1;omega
   simp(maxSteps:=2000000)(disch:=omega)only[go_sem,↓reduceIte,hg,hcut,hlI];refine⟨fun q2=>⟨⟨by omega,by omega⟩,k-1,?_,⟨by omega,?_⟩,by omega⟩,fun q2=>?_⟩
   ·refine q0d ?_ trivial;simp(maxSteps:=2000000)only[go_sem,↓reduceIte,Sub,Zaa,Zab]
   ·rw[←hF,hsplit,z6r,if_pos (by
     have h48:(48:UInt8).toNat=48:=rfl;apply UInt8.toNat_inj.1;omega)]
   ·rw[←hF,hsplit,z6r,if_neg (fun h=>q2 (by rw[h];rfl))]
  ·have hk0:k=0:=by omega
   subst hk0;rw[←hF];rfl
def q3D:q0g:=
 Qr [Qx 4 (.k (.d (.str [])))] (.seq (Qr [Qc 7 0,Q 8 (.bin .eql (.t 7) (.k (.d (.str [])))),Qc 9 8,Qd 10 1 9 false,Qg 11 (.bin .eql (.t 10) (.k (.d (.str [])))) 9 false,Qo 12 9 
 11] (.cond (.t 12) (Qr [Qc 13 0,Qa 4 13] .ret) .skip)) (.seq (Qr [Qc 14 1,Qz 15 true 14,Qk 16 .eql 15 1,Qc 17 16,Qd 18 1 17 true,Qg 19 (.idxS (.t 18) (Ki 0)) 17 true,Qg 20 
 (.bin .lss (.t 19) (Kb 128)) 17 true,Qp 21 17 20] (.cond (.t 21) (Qr [Qc 22 0,Qc 23 1,Q 24 (.idxS (.t 23) (Ki 0)),Qj 25 182 [22,24],Qa 4 25] .ret) .skip)) (.seq (Qr [Qc 27 
 1,Qj 28 183 [27],Qc 26 28,Qe 29 0 26,Qe 30 1 26,⟨some 5,.allo [.bool false,.bool false,.bool false,.bool false,.bool false,.bool false,.bool false,.bool false,.bool 
 false,.bool false,.bool false,.bool false,.bool false,.bool false,.bool false,.bool false,.bool false,.bool false,.bool false,.bool false,.bool false,.bool false, 
 .bool false,.bool false,.bool false,.bool false,.bool false,.bool false,.bool false,.bool false,.bool false,.bool false,.bool false,.bool false,.bool false,.bool 
 false,.bool false,.bool false,.bool false,.bool false,.bool false,.bool false,.bool false,.bool false,.bool false,.bool false,.bool false,.bool false,.bool false, 
 .bool false,.bool false,.bool false,.bool false,.bool false,.bool false,.bool false,.bool false,.bool false,.bool false,.bool false,.bool false,.bool false,.bool 
 false,.bool false,.bool false,.bool false,.bool false,.bool false,.bool false,.bool false,.bool false,.bool false,.bool false,.bool false,.bool false,.bool false, 
 .bool false,.bool false,.bool false,.bool false,.bool false,.bool false,.bool false,.bool false,.bool false,.bool false,.bool false,.bool false,.bool false,.bool 
 false,.bool false,.bool false,.bool false,.bool false,.bool false,.bool false,.bool false,.bool false,.bool false,.bool false,.bool false,.bool false,.bool false, 
 .bool false,.bool false,.bool false,.bool false,.bool false,.bool false,.bool false,.bool false,.bool false,.bool false,.bool false,.bool false,.bool false,.bool 
 false,.bool false,.bool false,.bool false,.bool false,.bool false,.bool false,.bool false,.bool false,.bool false,.bool false,.bool false,.bool false,.bool false, 
 .bool false,.bool false,.bool false,.bool false,.bool false,.bool false,.bool false,.bool false,.bool false,.bool false,.bool false,.bool false,.bool false,.bool 
 false,.bool false,.bool false,.bool false,.bool false,.bool false,.bool false,.bool false,.bool false,.bool false,.bool false,.bool false,.bool false,.bool false, 
 .bool false,.bool false,.bool false,.bool false,.bool false,.bool false,.bool false,.bool false,.bool false,.bool false,.bool false,.bool false,.bool false,.bool 
 false,.bool false,.bool false,.bool false,.bool false,.bool false,.bool false,.bool false,.bool false,.bool false,.bool false,.bool false,.bool false,.bool false, 
 .bool false,.bool false,.bool false,.bool false,.bool false,.bool false,.bool false,.bool false,.bool false,.bool false,.bool false,.bool false,.bool false,.bool 
 false,.bool false,.bool false,.bool false,.bool false,.bool false,.bool false,.bool false,.bool false,.bool false,.bool false,.bool false,.bool false,.bool false, 
 .bool false,.bool false,.bool false,.bool false,.bool false,.bool false,.bool false,.bool false,.bool false,.bool false,.bool false,.bool false,.bool false,.bool 
 false,.bool false,.bool false,.bool false,.bool false,.bool false,.bool false,.bool false,.bool false,.bool false,.bool false,.bool false,.bool false,.bool false, 
 .bool false,.bool false,.bool false,.bool false,.bool false,.bool false,.bool false,.bool false,.bool false,.bool false,.bool false,.bool false,.bool false,.bool 
 false,.bool false,.bool false,.bool false,.bool false],none⟩,Qs 256 5 29,Qa 6 30] (Qr [Qc 31 6] (.cond (.t 31) (Qr [Qc 32 0,Qq 33 184 [32,5],Qa 4 33] .ret) .skip))) (Qr 
 [Qc 34 0,Qc 35 1,Qj 36 185 [34,35],Qa 4 36] .ret))))
def q3E:List LRes:=[.tmp 4]
theorem q8I:q0n Tryz.prog 162 37 q3D q3E:=⟨_,_,Tryz.func162,rfl,by kernel_rfl,by kernel_rfl,rfl⟩
set_option maxRecDepth 10000 in
theorem z9w(s:List UInt8)(hs:s.length≤1000000):q0i Tryz.prog 162 [.str s,.str [48]] (fun r=>r=.one (.str (q9y s))):=by
 refine q8I.call rfl ?_;have hg:getI ([48]:List UInt8) 0=some 48:=rfl;have h48:((UInt8.toNat 48:Nat):Int)=48:=rfl
 by_cases h:s=[]
 ·subst h;simp(maxSteps:=2000000)only[go_sem,↓reduceIte,q3D,q3E];rfl
 ·have h1:(([48]:List UInt8)=[])=False:=by simp
  have h2:(s=[])=False:=eq_false h;simp(maxSteps:=2000000)only[go_sem,↓reduceIte,q3D,q3E,h1,h2,hg,h48];refine q0c.of (z7v s hs) ?_;simp(maxSteps:=2000000)only[go_sem,↓reduceIte]
def z1X(r:Nat):List UInt8:=[UInt8.ofNat (48+r / 100),UInt8.ofNat (48+r / 10 % 10),UInt8.ofNat (48+r % 10)]
theorem j7V{r:Nat}(h:r<1000):Lib.decDigits (1000+r)=49::z1X r:=by
 rw[Lib.decDigits,dif_neg (by omega),Lib.decDigits,dif_neg (by omega),Lib.decDigits,dif_neg (by omega),Lib.decDigits,dif_pos (by omega)];have e1:(1000+r) / 10 / 10 / 10=1:=by omega
 have e2:(1000+r) / 10 / 10 % 10=r / 100:=by omega
 have e3:(1000+r) / 10 % 10=r / 10 % 10:=by omega
 have e4:(1000+r) % 10=r % 10:=by omega
 rw[e1,e2,e3,e4];rfl
def j2m(r:Nat):List UInt8:=if q9y (z1X r)=[]then[]else 46::q9y (z1X r)
def z42(n:Int):List UInt8:=(if n<0 then[45]else[])++Lib.decDigits (n.natAbs / 1000)++j2m (n.natAbs % 1000)
def resT(n:Int):Res:=if Lim n then .tup [.str (z42 n),.nil]else .tup [.str [],err 1]
theorem q9I(u k:Nat)(h:u<10 ^ (k+1)):(Lib.decDigits u).length≤k+1:=by
 induction k generalizing u with
 |zero=>rw[Lib.decDigits,dif_pos (by simpa using h)];simp
 |succ k ih=>
  rw[Lib.decDigits];split
  ·simp
  ·rw[Zad];have:=ih (u / 10) (by rw[Zdk]at h;omega);simp;omega
def z5z:q0g:=
 Qr [Qx 2 (.k (.d (.str []))),Qx 3 (.k (.d .nil))] (Qr [Qc 8 0,Qj 9 137 [8],Qa 4 9] (.seq (Qr [Qc 10 4,Q 11 (.eqN 0 true (.t 10))] (.cond (.t 11) (Qr [Qc 12 4,Qx 2 (.k (.d 
 (.str []))),Qa 3 12] .ret) .skip)) (Qr [Qx 5 (.k (.d (.str [])))] (.seq (Qr [Qc 13 0,Qk 14 .lss 13 0] (.cond (.t 14) (.reg [Qc 15 0,Q 16 (.neg (.t 15)),Qx 5 (.k (.d (.str 
 [45]))),Qa 0 16]) .skip)) (Qr [Qc 17 5,Qc 18 0,Qk 19 .quo 18 1000,Qj 20 37 [19],Qb 21 .add 17 20,Qa 6 21] (Qr [Qc 22 0,Qk 23 .rem 22 1000,Q 24 (.bin .add (Ki 1000) (.t 
 23)),Qj 25 37 [24],Q 26 (.subS (.t 25) (some (Ki 1)) none),Qa 7 26] (Qr [Qc 27 7,⟨some 28,.call 162 [.t 27,.k (.d (.str [48]))],none⟩,Qa 7 28] (.seq (Qr [Qc 29 7,Q 30 
 (.bin .neq (.t 29) (.k (.d (.str []))))] (.cond (.t 30) (.reg [Qc 31 6,Qc 32 7,Q 33 (.bin .add (.k (.d (.str [46]))) (.t 32)),Qb 34 .add 31 33,Qa 6 34]) .skip)) (Qr [Qc 35 6, 
 Qa 2 35,Qx 3 (.k (.d .nil))] .ret)))))))))
def z5C:List LRes:=[.tmp 2,.tmp 3]
theorem z6W:q0n Tryz.prog 122 36 z5z z5C:=⟨_,_,Tryz.func122,rfl,by kernel_rfl,by kernel_rfl,rfl⟩
theorem z9v(n:Int):q0i Tryz.prog 122 [.int .i64 n] (fun r=>r=resT n):=by
 refine z6W.call rfl ?_;simp(maxSteps:=2000000)only[go_sem,↓reduceIte,z5z,z5C];unfold resT
 by_cases hl:Lim n
 ·rw[if_pos hl];refine q0c.of (j04 hl) ?_;unfold Lim at hl;obtain⟨m,hm⟩:∃m:Nat,n.natAbs=m:=⟨_,rfl⟩;have hm9:m≤1000000000:=by omega
  have hd1:Int.tdiv (m:Int) 1000=((m / 1000:Nat):Int):=rfl;have hd2:Int.tmod (m:Int) 1000=((m % 1000:Nat):Int):=rfl;have hi1:Lib.itoa ((m / 1000:Nat):Int)=Lib.decDigits (m / 1000):=by unfold Lib.itoa;rw[if_neg (by omega)];rfl
  have hi2:Lib.itoa (1000+((m % 1000:Nat):Int))=49::z1X (m % 1000):=by
   unfold Lib.itoa;rw[if_neg (by omega),←j7V (Nat.mod_lt _ (by decide))];congr 1
  have hlen:=q9I (m / 1000) 6 (by omega);unfold z42;rw[hm];generalize Lib.decDigits (m / 1000)=D1 at hi1 hlen ⊢;have hcut:cutI (49::z1X (m % 1000)) 1 4=z1X (m % 1000):=rfl;have hfl:((z1X (m % 1000)).length:Nat)=3:=rfl;have htl:(q9y (z1X (m % 1000))).length≤3:=by
   unfold q9y;rw[List.length_reverse];exact Zbr (List.dropWhile_sublist _).length_le (by rw[List.length_reverse];exact Zak 3)
  by_cases hn:n<0
  ·have e:0-n=(m:Int):=by omega
   simp(maxSteps:=2000000)(disch:=omega)only[go_sem,↓reduceIte,hn,e,hd1,hd2];refine q0c.of (q9c _ (by omega) (by omega)) ?_;rw[hi1];simp(maxSteps:=2000000)(disch:=omega)only[go_sem,↓reduceIte,e,hd1,hd2];refine⟨by omega,?_⟩;refine q0c.of (q9c _ (by omega) (by omega)) ?_;rw[hi2];simp(maxSteps:=2000000)(disch:=omega)only[go_sem,↓reduceIte,hcut,hfl];refine q0c.of (z9w _ (by rw[hfl];omega)) ?_;unfold j2m
   by_cases ht:q9y (z1X (m % 1000))=[]
   ·rw[if_pos ht,ht];simp(maxSteps:=2000000)only[go_sem,↓reduceIte,Zdi]
   ·rw[if_neg ht];have ht':(q9y (z1X (m % 1000))=[])=False:=eq_false ht;simp(maxSteps:=2000000)(disch:=omega)only[go_sem,↓reduceIte,ht',List.append_assoc];exact⟨by omega,by omega⟩
  ·have e:n=(m:Int):=by omega
   rw[e];have hn':¬((m:Int)<0):=by omega
   simp(maxSteps:=2000000)(disch:=omega)only[go_sem,↓reduceIte,hn',hd1,hd2];refine q0c.of (q9c _ (by omega) (by omega)) ?_;rw[hi1];simp(maxSteps:=2000000)(disch:=omega)only[go_sem,↓reduceIte,hd1,hd2];refine⟨by omega,?_⟩;refine q0c.of (q9c _ (by omega) (by omega)) ?_;rw[hi2];simp(maxSteps:=2000000)(disch:=omega)only[go_sem,↓reduceIte,hcut,hfl];refine q0c.of (z9w _ (by rw[hfl];omega)) ?_;unfold j2m
   by_cases ht:q9y (z1X (m % 1000))=[]
   ·rw[if_pos ht,ht];simp(maxSteps:=2000000)only[go_sem,↓reduceIte,Zdi]
   ·rw[if_neg ht];have ht':(q9y (z1X (m % 1000))=[])=False:=eq_false ht;simp(maxSteps:=2000000)(disch:=omega)only[go_sem,↓reduceIte,ht',List.append_assoc];exact⟨by omega,by omega⟩
 ·rw[if_neg hl];refine q0c.of (z7P hl) ?_;simp(maxSteps:=2000000)only[go_sem,↓reduceIte,err]
theorem z7M(k:Nat):bytesOf [.int .u8 (k:Nat)]=some [UInt8.ofNat k]:=rfl
def q3Q:q0g:=
 Qr [Qx 2 (.k (.d (.str [])))] (.seq (Qr [Qc 3 0,Qk 4 .lss 3 0] (.cond (.t 4) (Qr [Qc 5 0,Q 6 (.neg (.t 5)),Qj 7 53 [6],Q 8 (.bin .add (.k (.d (.str [45]))) (.t 7)),Qa 2 8] 
 .ret) .skip)) (.seq (Qr [Qc 9 0,Qk 10 .lss 9 10] (.cond (.t 10) (Qr [Qc 11 0,Q 12 (.bin .add (Ki 48) (.t 11)),Q 13 (.cvI .u8 (.t 12)),⟨some 14,.bsl 5 1 [.t 13],none⟩,Q 15 
 (.b2s (.t 14)),Qa 2 15] .ret) .skip)) (.seq (.dreg [Qc 16 0,Qk 17 .quo 16 10,Qj 18 53 [17],Qc 19 0,Qk 20 .rem 19 10,Q 21 (.bin .add (Ki 48) (.t 20)),Q 22 (.cvI .u8 (.t 
 21)),⟨some 23,.bsl 5 1 [.t 22],none⟩,Q 24 (.b2s (.t 23)),Qb 25 .add 18 24,Qa 2 25]) .ret)))
def q3X:List LRes:=[.tmp 2]
theorem q6t:q0n Tryz.prog 53 26 q3Q q3X:=⟨_,_,Tryz.func53,rfl,by kernel_rfl,by kernel_rfl,rfl⟩
theorem z7R(n:Nat):n≤1000000000→q0i Tryz.prog 53 [.int .i64 n] (fun r=>r=.one (.str (Lib.decDigits n))):=by
 induction n using Nat.strongRecOn with
 |_ n ih=>
  intro hn;refine q6t.call rfl ?_;have q0:¬((n:Int)<0):=by omega
  simp(maxSteps:=2000000)only[go_sem,↓reduceIte,q3Q,q3X,q0];rw[Lib.decDigits];refine⟨fun q1=>?_,fun q1=>?_⟩
  ·rw[dif_pos (by omega)];have e:(48:Int)+n=((48+n:Nat):Int):=by omega
   simp(maxSteps:=2000000)(disch:=omega)only[go_sem,↓reduceIte,e,z7M]
  ·rw[dif_neg (by omega)];have e2:Int.tdiv (n:Int) 10=((n / 10:Nat):Int):=rfl;have e3:Int.tmod (n:Int) 10=((n % 10:Nat):Int):=rfl;have e4:(48:Int)+(n % 10:Nat)=((48+n % 10:Nat):Int):=by omega
   have hl:=q9I (n / 10) 9 (by omega);simp(maxSteps:=2000000)(disch:=omega)only[go_sem,↓reduceIte,e2,e3];refine q1E.of (ih (n / 10) (by omega) (by omega)) ?_;simp(maxSteps:=2000000)(disch:=omega)only[go_sem,↓reduceIte,e3,e4,z7M];try omega
mutual
def z1L:Val→List UInt8
 |.mk k n s l f=>
  if k=1 then(if n=1 then[116,114,117,101]else[102,97,108,115,101])
  else if k=2 then z42 n
  else if k=3 then[40]++strP s++[41]
  else if k=4 then[47]++q8J s
  else if k=5 then[91]++q59 false l++[93]
  else if k=6 then[60,60]++q5P f++[32,62,62]
  else if k=7 then Lib.decDigits n.toNat++[32,48,32,82]
  else[110,117,108,108]
def q59(sep:Bool):List Val→List UInt8
 |[]=>[]
 |v::r=>(if sep then[32]else[])++z1L v++q59 true r
def q5P:List Fld→List UInt8
 |[]=>[]
 |.mk nm v::r=>[32,47]++q8J nm++[32]++z1L v++q5P r
end
theorem j10(v:Val):z1L v=
  if v.kind=1 then(if v.n=1 then[116,114,117,101]else[102,97,108,115,101])
  else if v.kind=2 then z42 v.n
  else if v.kind=3 then[40]++strP v.s++[41]
  else if v.kind=4 then[47]++q8J v.s
  else if v.kind=5 then[91]++q59 false v.l++[93]
  else if v.kind=6 then[60,60]++q5P v.f++[32,62,62]
  else if v.kind=7 then Lib.decDigits v.n.toNat++[32,48,32,82]
  else[110,117,108,108]:=by cases v;simp only[z1L];rfl
theorem z2R(sep:Bool)(a b:List Val):q59 sep (a++b)=q59 sep a++q59 (sep || decide (a≠[])) b:=by
 induction a generalizing sep with
 |nil=>simp[q59]
 |cons v r ih=>simp[q59,ih,List.append_assoc]
theorem j2Y{l:List Val}{i:Nat}{x:Val}(hx:l[i]?=some x):q59 false (l.take (i+1))=q59 false (l.take i)++(if 0<i then[32]else[])++z1L x:=by
 rw[q3C hx,z2R];have hl:i<l.length:=(Zac.1 hx).1
 by_cases h:0<i
 ·have:l.take i≠[]:=fun e=>by
   have h2:(l.take i).length=0:=by rw[e];rfl
   rw[Zaw]at h2;omega
  simp[q59,h,this]
 ·obtain rfl:i=0:=by omega
  simp[q59]
theorem z7s{l:List Val}{i:Nat}:(q59 false (l.take i)).length≤(q59 false l).length:=by
 have h:=z2R false (l.take i) (l.drop i);rw[List.take_append_drop]at h;rw[h,Zad];omega
def j7a(x:Fld):List UInt8:=[32,47]++q8J x.name++[32]++z1L x.v
theorem z2S(a b:List Fld):q5P (a++b)=q5P a++q5P b:=by
 induction a with
 |nil=>simp[q5P]
 |cons x r ih=>cases x;simp[q5P,ih,List.append_assoc]
theorem j2Z{l:List Fld}{i:Nat}{x:Fld}(hx:l[i]?=some x):q5P (l.take (i+1))=q5P (l.take i)++j7a x:=by
 rw[q3C hx,z2S];cases x;simp[q5P,j7a,Fld.name,Fld.v]
theorem z7t{l:List Fld}{i:Nat}:(q5P (l.take i)).length≤(q5P l).length:=by
 have h:=z2S (l.take i) (l.drop i);rw[List.take_append_drop]at h;rw[h,Zad];omega
/-! ### What is well, part by part -/
theorem j8T{v:Val}(h:q1F v=true)(hk:v.kind=1):v.n=0∨v.n=1:=by rw[q3f,hk]at h;simp at h;exact h.1
theorem j5r{v:Val}(h:q1F v=true)(hk:v.kind=2):Lim v.n:=by rw[q3f,hk]at h;simp at h;exact h.1
theorem j0W{v x:Val}(h:q1F v=true)(hk:v.kind=5)(hx:x∈v.l):q1F x=true:=by
 rw[q3f,hk]at h;simp at h;have h1:=h.2.2.1;rw[z3x]at h1;simp only[Zca]at h1;rw[Zce]at h1;simpa using h1 x hx
theorem z48:∀{p:Option (List UInt8)} {l:List Fld} {x:Fld},q3O p l=true→x∈l→q1C x.name=true∧q1F x.v=true
 |p,.mk nm v::r,x,h,hx=>by
  simp only[q3O,Zah]at h;rcases Zba.1 hx with rfl|hx
  ·exact⟨h.1.1,h.1.2.1⟩
  ·exact z48 h.2 hx
theorem j8W{v:Val}{x:Fld}(h:q1F v=true)(hk:v.kind=6)(hx:x∈v.f):q1F x.v=true:=by
 rw[q3f,hk]at h;simp at h;exact(z48 h.2.2.2 hx).2
theorem j5s{v:Val}(h:q1F v=true)(hk:v.kind=7):1≤v.n∧v.n≤60:=by rw[q3f,hk]at h;simp at h;exact h.1
theorem j8X{v:Val}(h:q1F v=true):v.kind=0∨v.kind=1∨v.kind=2∨v.kind=3∨v.kind=4∨v.kind=5∨v.kind=6∨v.kind=7:=by
 rcases kinds v.kind with k|k|k|k|k|k|k|k|⟨k0,k1,k2,k3,k4,k5,k6,k7⟩
 ·exact .inl k
 ·exact .inr (.inl k)
 ·exact .inr (.inr (.inl k))
 ·exact .inr (.inr (.inr (.inl k)))
 ·exact .inr (.inr (.inr (.inr (.inl k))))
 ·exact .inr (.inr (.inr (.inr (.inr (.inl k)))))
 ·exact .inr (.inr (.inr (.inr (.inr (.inr (.inl k))))))
 ·exact .inr (.inr (.inr (.inr (.inr (.inr (.inr k))))))
 ·rw[q3f,if_neg k0,if_neg k1,if_neg k2,if_neg k3,if_neg k4,if_neg k5,if_neg k6,if_neg k7]at h;cases h
end Go.Av.Tryz
