import Derived.Test.YtgfdeebaihmkpaaGreatDoorWb
import Derived.Test.YtgfdeebaihmkpaaGreatDoorAvG
import Derived.Lib.Bytealg
import Derived.Test.YtgfdeebaihmkpaaGreatDoorWa
import Derived.Shelf.RegionOpenPlain
import Derived.WalkKit
import Derived.Lib.Walk
import Derived.Lib.SliceRun
import Derived.Lib.JoinLaws
import Derived.Lib.AppendZerosOnto
import Derived.Lib.Overlaps
import Derived.Laws.Externs
import Derived.Laws.IdiomCopy
import Derived.Laws.NewBlocks
set_option linter.unusedSimpArgs false
set_option linter.unusedVariables false
namespace Go.Av.Tryz
open Go.Proofs
theorem z43(k:Nat):z42 ((k:Int)*1000)=Lib.decDigits k:=by
 have h1:¬((k:Int)*1000<0):=by omega
 have h2:((k:Int)*1000).natAbs=k*1000:=by omega
 unfold z42;rw[if_neg h1,h2];have h3:k*1000 / 1000=k:=by omega
 have h4:k*1000 % 1000=0:=by omega
 rw[h3,h4];have h5:j2m 0=[]:=by decide
 simp[h5]
def q1v:q0g:=
 Qr [⟨some 3,.box (.t 1),none⟩] (Qr [Qf 12 0 3,Ql 13 12] (.block 0 (Qr [Qk 17 .eql 13 1,Qa 16 17] (.cond (.t 16) (.reg [Qc 18 0,⟨some 19,.bsl 9 1 [.k (.d (.str [102,97,108, 
 115,101])),.k (.d (.str [116,114,117,101]))],none⟩,Qf 20 1 3,Ql 21 20,Q 22 (.ia 1 (.t 19) (.t 21)),Ql 23 22,Qq 24 121 [18,23]]) (Qr [Qk 26 .eql 13 2,Qa 25 26] (.cond 
 (.t 25) (Qr [Qf 28 1 3,Ql 29 28,Qj 30 122 [29],Qc 27 30,Qe 31 0 27,Qe 32 1 27,Qa 4 31,Qa 5 32] (.reg [Qc 33 0,Qc 34 4,Qq 35 121 [33,34]])) (Qr [Qk 37 .eql 13 3,Qa 36 
 37] (.cond (.t 36) (.reg [Qc 38 0,Qf 39 2 3,Ql 40 39,Qq 41 123 [38,40]]) (Qr [Qk 43 .eql 13 4,Qa 42 43] (.cond (.t 42) (.reg [Qc 44 0,Qf 45 2 3,Ql 46 45,Qq 47 124 [44, 
 46]]) (Qr [Qk 49 .eql 13 5,Qa 48 49] (.cond (.t 48) (Qr [Qc 50 0,⟨some 51,.prim .call [.k (.fn (.func 125) [] []),.t 50,.k (.d (.int .u8 91))] [],none⟩] (.seq (Qr [Qf 52 3 
 3,Ql 53 52,Qz 54 false 53,Q 55 (.cp (Ki 0))] (.block 1 (.loop (Qr [Qb 56 .lss 55 54] (.seq (.cond (.t 56) .skip (.exit 1)) (.seq (.block 2 (Qr [Qc 57 55,Q 58 (.ia 5 (.t 53) 
 (.t 55)),Qm 59 5 58,Qv 7,Qa 6 57,Qs 5 7 59] (.seq (Qr [Qc 60 6,Qk 61 .gtr 60 0] (.cond (.t 61) (.reg [Qc 62 0,⟨some 63,.prim .call [.k (.fn (.func 125) [] []),.t 62,.k 
 (.d (.int .u8 32))] [],none⟩]) .skip)) (.reg [Qc 64 0,Qm 65 5 7,Qq 66 78 [64,65]])))) (.reg [Qk 67 .add 55 1,Qc 55 67]))))))) (.reg [Qc 68 0,⟨some 69,.prim .call [.k (.fn 
 (.func 125) [] []),.t 68,.k (.d (.int .u8 93))] [],none⟩]))) (Qr [Qk 71 .eql 13 6,Qa 70 71] (.cond (.t 70) (Qr [Qc 72 0,⟨some 73,.prim .call [.k (.fn (.func 121) [] []),.t 
 72,.k (.d (.str [60,60]))] [],none⟩] (.seq (Qr [Qf 74 4 3,Ql 75 74,Qz 76 false 75,Q 77 (.cp (Ki 0))] (.block 3 (.loop (Qr [Qb 78 .lss 77 76] (.seq (.cond (.t 78) .skip 
 (.exit 3)) (.seq (.block 4 (Qr [Q 79 (.ia 6 (.t 75) (.t 77)),Qm 80 6 79,⟨some 9,.allo [.str [],.int .i64 0,.int .i64 0,.str [],.list [],.list []],none⟩,Qs 6 9 80] (Qr 
 [Qc 81 0,⟨some 82,.prim .call [.k (.fn (.func 125) [] []),.t 81,.k (.d (.int .u8 32))] [],none⟩] (Qr [Qc 83 0,Qf 84 0 9,Ql 85 84,Qq 86 124 [83,85]] (Qr [Qc 87 0,⟨some 
 88,.prim .call [.k (.fn (.func 125) [] []),.t 87,.k (.d (.int .u8 32))] [],none⟩] (.reg [Qc 89 0,Qf 90 1 9,Qm 91 5 90,Qq 92 78 [89,91]])))))) (.reg [Qk 93 .add 77 1,Qc 
 77 93]))))))) (.reg [Qc 94 0,⟨some 95,.prim .call [.k (.fn (.func 121) [] []),.t 94,.k (.d (.str [32,62,62]))] [],none⟩]))) (Qr [Qk 97 .eql 13 7,Qa 96 97] (.cond (.t 96) 
 (Qr [Qf 99 1 3,Ql 100 99,Qk 101 .mul 100 1000,Qj 102 122 [101],Qc 98 102,Qe 103 0 98,Qe 104 1 98,Qa 10 103,Qa 11 104] (.reg [Qc 105 0,Qc 106 10,Q 107 (.bin .add (.t 
 106) (.k (.d (.str [32,48,32,82])))),Qq 108 121 [105,107]])) (.reg [Qc 14 0,⟨some 15,.prim .call [.k (.fn (.func 121) [] []),.t 14,.k (.d (.str [110,117,108,108]))] 
 [],none⟩])))))))))))))))))
def q1w:List LRes:=[]
theorem q1h:q0n Tryz.prog 78 109 q1v q1w:=⟨_,_,Tryz.func78,rfl,by kernel_rfl,by kernel_rfl,rfl⟩
theorem j7k:∀(m:Nat) (v:Val) (b:Bld),SizeOf.sizeOf v≤m→v.sm 1048576=true→q1F v=true→b.bytes.length+(z1L v).length≤900000000→
  q1r Tryz.prog 78 [.ptr (.x 0) 0,.d v.d] [b.at (.x 0)] (.tuple []) [Bld.at (.x 0) (.has (b.bytes++z1L v))]:=by
 intro m;induction m with
 |zero=>intro v b h;cases v;simp at h
 |succ m ih=>
  intro v b hv hsm hw htl;obtain⟨hsl0,hll,hfl,hsl,hsf⟩:=Val.q1e.1 hsm;have hvl:=q0H v.l;have hfl':=q0D v.f;generalize hR:z1L v=R at htl ⊢;rw[j10]at hR;rw[Val.d_eq];rcases j8X hw with hk|hk|hk|hk|hk|hk|hk|hk
  ·refine q1h.q0C (by kernel_rfl) rfl ?_;rw[hk]at hR;simp only[Int.reduceEq,↓reduceIte]at hR;simp(maxSteps:=2000000)only[go_sem,↓reduceIte,q1v,q1w,hk,hvl,hfl'];refine q1m (.x 0) rfl (q0S b [110,117,108,108] (by rw[Zad,hR];omega)) rfl rfl rfl rfl ?_;simp(maxSteps:=2000000)only[go_sem,↓reduceIte];rw[hR]
  ·have hn:=j8T hw hk;rw[hk]at hR;simp only[Int.reduceEq,↓reduceIte]at hR;rcases hn with hn|hn
   ·refine q1h.q0C (by kernel_rfl) rfl ?_;rw[hn]at hR;simp only[Int.reduceEq,↓reduceIte]at hR;simp(maxSteps:=2000000)only[go_sem,↓reduceIte,q1v,q1w,hk,hn,hvl,hfl'];have hg:getI [D.str [102,97,108,115,101],D.str [116,114,117,101]] 0=some (.str [102,97,108,115,101]):=rfl;simp(maxSteps:=2000000)only[go_sem,↓reduceIte,hg];refine q1m (.x 0) rfl (q0S b [102,97,108,115,101] (by rw[Zad,hR];omega)) rfl rfl rfl rfl ?_;simp(maxSteps:=2000000)only[go_sem,↓reduceIte];rw[hR]
   ·refine q1h.q0C (by kernel_rfl) rfl ?_;rw[hn]at hR;simp only[↓reduceIte]at hR;simp(maxSteps:=2000000)only[go_sem,↓reduceIte,q1v,q1w,hk,hn,hvl,hfl'];have hg:getI [D.str [102,97,108,115,101],D.str [116,114,117,101]] 1=some (.str [116,114,117,101]):=rfl;simp(maxSteps:=2000000)only[go_sem,↓reduceIte,hg];refine q1m (.x 0) rfl (q0S b [116,114,117,101] (by rw[Zad,hR];omega)) rfl rfl rfl rfl ?_;simp(maxSteps:=2000000)only[go_sem,↓reduceIte];rw[hR]
  ·refine q1h.q0C (by kernel_rfl) rfl ?_;have hL:=j5r hw hk;rw[hk]at hR;simp only[Int.reduceEq,↓reduceIte]at hR;have hc:=z9v v.n;rw[resT,if_pos hL]at hc;simp(maxSteps:=2000000)only[go_sem,↓reduceIte,q1v,q1w,hk,hvl,hfl'];refine q0c.of hc ?_;simp(maxSteps:=2000000)only[go_sem,↓reduceIte];refine q1m (.x 0) rfl (q0S b (z42 v.n) (by rw[Zad,hR];omega)) rfl rfl rfl rfl ?_;simp(maxSteps:=2000000)only[go_sem,↓reduceIte];rw[hR]
  ·refine q1h.q0C (by kernel_rfl) rfl ?_;rw[hk]at hR;simp only[Int.reduceEq,↓reduceIte]at hR;simp(maxSteps:=2000000)only[go_sem,↓reduceIte,q1v,q1w,hk,hvl,hfl'];refine q1m (.x 0) rfl (j9J b v.s (by omega)) rfl rfl rfl rfl ?_;simp(maxSteps:=2000000)only[go_sem,↓reduceIte];rw[←hR];simp only[List.append_assoc]
  ·refine q1h.q0C (by kernel_rfl) rfl ?_;rw[hk]at hR;simp only[Int.reduceEq,↓reduceIte]at hR;simp(maxSteps:=2000000)only[go_sem,↓reduceIte,q1v,q1w,hk,hvl,hfl'];refine q1m (.x 0) rfl (j4s b v.s (by omega)) rfl rfl rfl rfl ?_;simp(maxSteps:=2000000)only[go_sem,↓reduceIte];rw[←hR];simp only[List.append_assoc]
  ·refine q1h.q0C (by kernel_rfl) rfl ?_;rw[hk]at hR;simp only[Int.reduceEq,↓reduceIte]at hR;have hRl:=congrArg List.length hR;simp only[Zad,Zae,Zag]at hRl;simp(maxSteps:=2000000)only[go_sem,↓reduceIte,q1v,q1w,hk,hvl,hfl'];refine q1m (.x 0) rfl (q1N b 91 (by omega)) rfl rfl rfl rfl ?_;simp(maxSteps:=2000000)only[go_sem,↓reduceIte]
   refine q0f (fun i:Nat=>⟨[(0,.ptr (.x 0) 0),(3,.ptr (.l 3) 0),(53,.d (.list (q0m v.l))),(54,.d (.int .i64 v.l.length)),(55,.d (.int .i64 i))],
     [(3,.cells [.d (.int .i64 5),.d (.int .i64 v.n),.d (.str v.s),.d (.list (q0m v.l)),.d (.list (q0k v.f))])],
     [(0,Bld.at (.x 0) (.has (b.bytes++[91]++q59 false (v.l.take i))))]⟩)
    (fun i=>i≤v.l.length) (fun i=>v.l.length-i) 0 ?_ ?_ ?_
   ·refine Weak.mk ?_ ?_ ?_<;>simp(maxSteps:=2000000)only[go_sem,↓reduceIte,Sub,Zaa,Zab,Zdf,q59,hvl]
   ·omega
   ·intro i hi;simp(maxSteps:=2000000)only[go_sem,↓reduceIte,hvl];refine⟨fun hlt=>?_,fun hge=>?_⟩
    ·obtain⟨x,hx⟩:=get_some (l:=v.l) (i:=i) (by omega);have hm:=Zaf hx;have hn:=j2Y hx;have hle:=z7s (l:=v.l) (i:=i+1);have hnl:=congrArg List.length hn;simp only[Zad]at hnl
     by_cases i0:0<i
     ·rw[if_pos i0]at hn hnl;have i0':((0:Int)<(i:Int))=True:=eq_true (by omega);simp only[Zae,Zag]at hnl;have hc:=ih x (.has (b.bytes++[91]++q59 false (v.l.take i)++[32])) (by have:=z1H hm;omega) (hsl x hm) (j0W hw hk hm) (by simp only[Bld.q0w,Zad,Zae,Zag];omega);rw[Val.d_eq]at hc;simp(maxSteps:=2000000)(disch:=omega)only[go_sem,↓reduceIte,q0a,q3c,hx,Val.d_eq,i0']
      refine q1m (.x 0) rfl (q1N (.has (b.bytes++[91]++q59 false (v.l.take i))) 32 (by simp only[Bld.q0w,Zad,Zae,Zag];omega)) rfl rfl rfl rfl ?_;simp(maxSteps:=2000000)(disch:=omega)only[go_sem,↓reduceIte,Bld.q0w];refine q1m (.x 0) rfl (hc) rfl rfl rfl rfl ?_;simp(maxSteps:=2000000)(disch:=omega)only[go_sem,↓reduceIte];refine⟨i+1,?_,by omega,by omega⟩
      refine Weak.mk ?_ ?_ ?_<;>simp(maxSteps:=2000000)only[go_sem,↓reduceIte,Sub,Zaa,Zab,hn,Bld.q0w,List.append_assoc]
     ·rw[if_neg i0]at hn hnl;have i0':((0:Int)<(i:Int))=False:=eq_false (by omega);simp only[Zag]at hnl;have hc:=ih x (.has (b.bytes++[91]++q59 false (v.l.take i))) (by have:=z1H hm;omega) (hsl x hm) (j0W hw hk hm) (by simp only[Bld.q0w,Zad,Zae,Zag];omega);rw[Val.d_eq]at hc;simp(maxSteps:=2000000)(disch:=omega)only[go_sem,↓reduceIte,q0a,q3c,hx,Val.d_eq,i0'];refine q1m (.x 0) rfl (hc) rfl rfl rfl rfl ?_
      simp(maxSteps:=2000000)(disch:=omega)only[go_sem,↓reduceIte];refine⟨i+1,?_,by omega,by omega⟩;refine Weak.mk ?_ ?_ ?_<;>simp(maxSteps:=2000000)only[go_sem,↓reduceIte,Sub,Zaa,Zab,hn,Bld.q0w,List.append_assoc,Zbj]
    ·rw[List.take_of_length_le (by omega)];refine q1m (.x 0) rfl (q1N (.has (b.bytes++[91]++q59 false v.l)) 93 (by simp only[Bld.q0w,Zad,Zae,Zag];omega)) rfl rfl rfl rfl ?_;simp(maxSteps:=2000000)only[go_sem,↓reduceIte,Bld.q0w];rw[←hR];simp only[List.append_assoc]
  ·refine q1h.q0C (by kernel_rfl) rfl ?_;rw[hk]at hR;simp only[Int.reduceEq,↓reduceIte]at hR;have hRl:=congrArg List.length hR;simp only[Zad,Zae,Zag]at hRl;simp(maxSteps:=2000000)only[go_sem,↓reduceIte,q1v,q1w,hk,hvl,hfl'];refine q1m (.x 0) rfl (q0S b [60,60] (by simp only[Zad,Zae,Zag];omega)) rfl rfl rfl rfl ?_;simp(maxSteps:=2000000)only[go_sem,↓reduceIte]
   refine q0f (fun i:Nat=>⟨[(0,.ptr (.x 0) 0),(3,.ptr (.l 3) 0),(75,.d (.list (q0k v.f))),(76,.d (.int .i64 v.f.length)),(77,.d (.int .i64 i))],
     [(3,.cells [.d (.int .i64 6),.d (.int .i64 v.n),.d (.str v.s),.d (.list (q0m v.l)),.d (.list (q0k v.f))])],
     [(0,Bld.at (.x 0) (.has (b.bytes++[60,60]++q5P (v.f.take i))))]⟩)
    (fun i=>i≤v.f.length) (fun i=>v.f.length-i) 0 ?_ ?_ ?_
   ·refine Weak.mk ?_ ?_ ?_<;>simp(maxSteps:=2000000)only[go_sem,↓reduceIte,Sub,Zaa,Zab,Zdf,q5P,hfl']
   ·omega
   ·intro i hi;simp(maxSteps:=2000000)only[go_sem,↓reduceIte,hfl'];refine⟨fun hlt=>?_,fun hge=>?_⟩
    ·obtain⟨x,hx⟩:=get_some (l:=v.f) (i:=i) (by omega);have hm:=Zaf hx;have hn:=j2Z hx;have hle:=z7t (l:=v.f) (i:=i+1);have hnl:=congrArg List.length hn;simp only[j7a,Zad,Zae,Zag]at hnl;have hsx:=Fld.q1e.1 (hsf x hm);have hsx1:=hsx.1
     have hc:=ih x.v (.has (b.bytes++[60,60]++q5P (v.f.take i)++[32]++[47]++q8J x.name++[32])) (by have:=z1G hm;omega) hsx.2 (j8W hw hk hm) (by simp only[Bld.q0w,Zad,Zae,Zag];omega);rw[Val.d_eq]at hc;simp(maxSteps:=2000000)(disch:=omega)only[go_sem,↓reduceIte,q0a,q0K,hx,Fld.d_eq];refine q1m (.x 0) rfl (q1N (.has (b.bytes++[60,60]++q5P (v.f.take i))) 32 (by simp only[Bld.q0w,Zad,Zae,Zag];omega)) rfl rfl rfl rfl ?_
     simp(maxSteps:=2000000)(disch:=omega)only[go_sem,↓reduceIte,Bld.q0w];refine q1m (.x 0) rfl (j4s (.has (b.bytes++[60,60]++q5P (v.f.take i)++[32])) x.name (by simp only[Bld.q0w,Zad,Zae,Zag];omega)) rfl rfl rfl rfl ?_;simp(maxSteps:=2000000)(disch:=omega)only[go_sem,↓reduceIte,Bld.q0w]
     refine q1m (.x 0) rfl (q1N (.has (b.bytes++[60,60]++q5P (v.f.take i)++[32]++[47]++q8J x.name)) 32 (by simp only[Bld.q0w,Zad,Zae,Zag];omega)) rfl rfl rfl rfl ?_;simp(maxSteps:=2000000)(disch:=omega)only[go_sem,↓reduceIte,Bld.q0w];refine q1m (.x 0) rfl (hc) rfl rfl rfl rfl ?_;simp(maxSteps:=2000000)(disch:=omega)only[go_sem,↓reduceIte];refine⟨i+1,?_,by omega,by omega⟩
     refine Weak.mk ?_ ?_ ?_<;>simp(maxSteps:=2000000)only[go_sem,↓reduceIte,Sub,Zaa,Zab,hn,Bld.q0w,j7a,List.append_assoc]
    ·rw[List.take_of_length_le (by omega)];refine q1m (.x 0) rfl (q0S (.has (b.bytes++[60,60]++q5P v.f)) [32,62,62] (by simp only[Bld.q0w,Zad,Zae,Zag];omega)) rfl rfl rfl rfl ?_;simp(maxSteps:=2000000)only[go_sem,↓reduceIte,Bld.q0w];rw[←hR];simp only[List.append_assoc]
  ·refine q1h.q0C (by kernel_rfl) rfl ?_;have hL:=j5s hw hk;rw[hk]at hR;simp only[Int.reduceEq,↓reduceIte]at hR;have hc:=z9v (v.n*1000);have hLim:Lim (v.n*1000):=by unfold Lim;omega
   have hz:v.n=((v.n.toNat:Nat):Int):=by omega
   have hT:z42 (v.n*1000)=Lib.decDigits v.n.toNat:=by rw[hz];exact z43 _
   rw[resT,if_pos hLim,hT]at hc;simp(maxSteps:=2000000)(disch:=omega)only[go_sem,↓reduceIte,q1v,q1w,hk,hvl,hfl'];refine q0c.of hc ?_;simp(maxSteps:=2000000)only[go_sem,↓reduceIte];have hRl:=congrArg List.length hR;simp only[Zad,Zae,Zag]at hRl;refine⟨by omega,?_⟩;refine q1m (.x 0) rfl (q0S b (Lib.decDigits v.n.toNat++[32,48,32,82]) (by rw[Zad,hR];omega)) rfl rfl rfl rfl ?_;simp(maxSteps:=2000000)only[go_sem,↓reduceIte];rw[hR]
/-! ### The whole text -/
theorem j5l{a:Int}(h:Lim a):(z42 a).length≤100:=by
 unfold Lim at h;have h1:=q9I (a.natAbs / 1000) 6 (by omega);have h2:(q9y (z1X (a.natAbs % 1000))).length≤3:=by
  unfold q9y;rw[List.length_reverse];exact Zbr (List.dropWhile_sublist _).length_le (by rw[List.length_reverse];exact Zak 3)
 have h3:(j2m (a.natAbs % 1000)).length≤4:=by
  unfold j2m;split
  ·simp
  ·simp only[Zae];omega
 have h4:(if a<0 then[(45:UInt8)]else[]).length≤1:=by split<;>simp
 unfold z42;simp only[Zad];omega
theorem z4r{s:List UInt8}(h:q1C s=true):s.length≤200:=by
 unfold q1C at h;simp only[Zah,decide_eq_true_eq]at h;exact h.2.1
theorem j8U{v:Val}(h:q1F v=true)(hk:v.kind=3):v.s.length≤200:=by rw[q3f,hk]at h;simp at h;exact h.2.1
theorem j8V{v:Val}(h:q1F v=true)(hk:v.kind=4):v.s.length≤200:=by rw[q3f,hk]at h;simp at h;exact z4r h.2.1
theorem j7h{v:Val}(h:q1F v=true)(hk:v.kind=6):∀x∈v.f,q1C x.name=true∧q1F x.v=true:=by rw[q3f,hk]at h;simp at h;exact fun x hx=>z48 h.2.2.2 hx
mutual
theorem z45:∀(v:Val),q1F v=true→(z1L v).length+700≤2000*(ptV v).1
 |.mk k n s l f,hw=>by
  have hl:k=5→(q59 false l).length≤2000*(ptL l).1:=fun e=>z9t l false (fun x hx=>j0W hw e hx)
  have hf:k=6→(q5P f).length≤2000*(ptF f).1:=fun e=>z9u f (j7h hw e)
  have h1:=z0S s;have h2:=q9k s;have h3:k=3→s.length≤200:=fun e=>j8U hw e
  have h4:k=4→s.length≤200:=fun e=>j8V hw e
  have h5:k=2→(z42 n).length≤100:=fun e=>j5l (j5r hw e)
  have h6:k=7→(Lib.decDigits n.toNat).length≤3:=fun e=>by
   have:=j5s hw e;simp only[Val.n]at this;exact q9I _ 2 (by omega)
  simp only[z1L,ptV];split
  ·split<;>simp<;>omega
  split
  ·rename_i e;have:=h5 e;omega
  split
  ·rename_i e;have:=h3 e;simp only[Zad,Zae,Zag];omega
  split
  ·rename_i e;have:=h4 e;simp only[Zad,Zae,Zag];omega
  split
  ·rename_i e;have:=hl e;simp only[Zad,Zae,Zag];omega
  split
  ·rename_i e;have:=hf e;simp only[Zad,Zae,Zag];omega
  split
  ·rename_i e;have:=h6 e;simp only[Zad,Zae,Zag];omega
  ·simp only[Zae,Zag];omega
theorem z9t:∀(l:List Val) (sep:Bool),(∀x∈l,q1F x=true)→(q59 sep l).length≤2000*(ptL l).1
 |[],_,_=>by simp[q59]
 |v::r,sep,h2=>by
  have a:=z45 v (h2 v (by simp));have b:=z9t r true (fun x hx=>h2 x (by simp[hx]));have c:(if sep=true then[(32:UInt8)]else[]).length≤1:=by split<;>simp
  simp only[q59,ptL,Zad];omega
theorem z9u:∀(l:List Fld),(∀x∈l,q1C x.name=true∧q1F x.v=true)→(q5P l).length≤2000*(ptF l).1
 |[],_=>by simp[q5P]
 |.mk nm v::r,h2=>by
  have z:=h2 (.mk nm v) (by simp);simp only[Fld.name,Fld.v]at z;have a:=z45 v z.2;have b:=z9u r (fun x hx=>h2 x (by simp[hx]));have c:=q9k nm;have d:=z4r z.1;simp only[q5P,ptF,Zad,Zae,Zag];omega
end
theorem j56{v:Val}:q4q v=0↔(¬(300<(ptV v).1∨8<(ptV v).2)∧q1F v=true):=by
 unfold q4q;split
 ·rename_i h;simp only[h,not_true,false_and,iff_false];omega
 ·rename_i h;split
  ·rename_i h2;simp[h,h2]
  ·rename_i h2;simp[h2]
def j0S(v:Val):Res:=if q4q v=0 then .tup [.str (z1L v),.nil]else .tup [.str [],errD (q4q v)]
def q8S:q0g:=
 Qr [⟨some 1,.box (.t 0),none⟩,Qx 2 (.k (.d (.str []))),Qx 3 (.k (.d .nil))] (Qr [Qm 6 5 1,Qj 7 64 [6],Qa 4 7] (.seq (Qr [Qc 8 4,Q 9 (.eqN 0 true (.t 8))] (.cond (.t 9) (Qr 
 [Qc 10 4,Qx 2 (.k (.d (.str []))),Qa 3 10] .ret) .skip)) (Qr [⟨some 5,.allo [.nilpT 135,.list []],none⟩] (Qr [Qm 11 5 1,Qq 12 78 [5,11]] (Qr [Qq 13 79 [5],Qa 2 13,Qx 3 
 (.k (.d .nil))] .ret)))))
def q8Z:List LRes:=[.tmp 2,.tmp 3]
theorem q9h:q0n Tryz.prog 57 14 q8S q8Z:=⟨_,_,Tryz.func57,rfl,by kernel_rfl,by kernel_rfl,rfl⟩
theorem z6q(v:Val)(hsm:v.sm 1048576=true):q0i Tryz.prog 57 [v.d] (fun r=>r=j0S v):=by
 have hc:=z3R v hsm
 by_cases h0:q4q v=0
 ·obtain⟨h1,hw⟩:=j56.1 h0;have hl:=z45 v hw;have h2:=j7k _ v .new (Zak _) hsm hw (by simp only[Bld.bytes,Zag];omega);have h3:=j0N (.has (z1L v)) (by simp only[Bld.bytes];omega);rw[j0S,if_pos h0];rw[h0,show errD 0=.nil from rfl]at hc;rw[Val.d_eq]at *;refine q9h.call rfl ?_;simp(maxSteps:=2000000)only[go_sem,↓reduceIte,q8S,q8Z];refine q0c.of hc ?_;simp(maxSteps:=2000000)only[go_sem,↓reduceIte];simp only[Bld.obj,Bld.said,Bld.bytes]at h3
  refine q1m (.l 5) rfl (h2) rfl rfl rfl rfl ?_;simp(maxSteps:=2000000)only[go_sem,↓reduceIte,Bld.at,Bld.bytes];refine q0e.mc1 (.l 5) rfl (h3) rfl rfl rfl rfl ⟨rfl,rfl⟩ ?_;simp(maxSteps:=2000000)only[go_sem,↓reduceIte]
 ·rw[j0S,if_neg h0];rw[q0Q h0]at hc ⊢;rw[Val.d_eq]at *;refine q9h.call rfl ?_;simp(maxSteps:=2000000)only[go_sem,↓reduceIte,q8S,q8Z];refine q0c.of hc ?_;simp(maxSteps:=2000000)only[go_sem,↓reduceIte]
def j5w(v:Val):XR→Prop:=fun r=>∃X:AV,((X=.ns∧v.l=[])∨X=.d (.list (q0m v.l)))∧
 ((v.f=[]∧r=.nul [.d (.int .i64 v.kind),.d (.int .i64 v.n),.d (.str v.s),X])∨(v.f≠[]∧∃c,r=.row [.d (.int .i64 v.kind),.d (.int .i64 v.n),.d (.str v.s),X] 6 (q0k v.f) c))
theorem j5w.data{v:Val}{r:XR}(h:j5w v r):r.data=v.d:=by
 obtain⟨X,hX,h⟩:=h;rw[Val.d_eq];have hx:X.den1=.list (q0m v.l):=by
  rcases hX with⟨rfl,e⟩|rfl
  ·rw[e];rfl
  ·rfl
 rcases h with⟨e,rfl⟩|⟨_,c,rfl⟩
 ·rw[e];simp[XR.data,AV.den1,←hx,q0k]
 ·simp[XR.data,AV.den1,←hx]
theorem q1j(l:List Fld):∀y∈q0k l,y.cells.length=6:=by
 intro y hy;rw[q5Y]at hy;obtain⟨x,_,rfl⟩:=Zat.1 hy;rw[Fld.d_eq];rfl
theorem q1M(a b:List Fld):q0k (a++b)=q0k a++q0k b:=by simp[q5Y]
theorem q5H(a b:List Val):q0m (a++b)=q0m a++q0m b:=by simp[z3w]
def q8Q:q0g:=
 Qr [⟨some 1,.box (.t 0),none⟩,Qv 2] (.seq (.dreg [Qf 9 3 1,Ql 10 9,Qf 11 4 1,Ql 12 11,Qc 3 10,Qc 4 12]) (Qr [Qf 13 3 1,⟨none,.st 1 (.t 13) (.k .ns),none⟩,Qf 14 4 1, 
 ⟨none,.st 1 (.t 14) (.k .ns),none⟩] (.seq (Qr [Qc 15 3,Qz 16 false 15,Q 17 (.cp (Ki 0))] (.block 0 (.loop (Qr [Qb 18 .lss 17 16] (.seq (.cond (.t 18) .skip (.exit 0)) (.seq 
 (.block 1 (Qr [Q 19 (.ia 5 (.t 15) (.t 17)),Qm 20 5 19,Qv 6,Qs 5 6 20] (.dreg [Qf 21 3 1,Ql 22 21,Qm 23 5 6,Qj 24 52 [23],⟨some 25,.bsl 25 5 [.t 24],none⟩,⟨some 26, 
 .app 25 5 80 false (.t 22) (.t 25),none⟩,Qf 27 3 1,Qs 1 27 26]))) (.reg [Qk 28 .add 17 1,Qc 17 28]))))))) (.seq (Qr [Qc 29 4,Qz 30 false 29,Q 31 (.cp (Ki 0))] (.block 2 
 (.loop (Qr [Qb 32 .lss 31 30] (.seq (.cond (.t 32) .skip (.exit 2)) (.seq (.block 3 (Qr [Q 33 (.ia 6 (.t 29) (.t 31)),Qm 34 6 33,⟨some 8,.allo [.str [],.int .i64 0,.int .i64 
 0,.str [],.list [],.list []],none⟩,Qs 6 8 34] (.dreg [Qf 35 4 1,Ql 36 35,Qf 37 0 8,Ql 38 37,Qf 39 1 8,Qm 40 5 39,Qj 41 52 [40],Q 42 (.bld [(0,1),(1,5)] [.str [], 
 .int .i64 0,.int .i64 0,.str [],.list [],.list []] [] [(0,.t 38),(1,.t 41)]),⟨some 43,.bsl 88 6 [.t 42],none⟩,⟨some 44,.prim (.bi .append [23,23]) [.t 36,.t 43] [], 
 none⟩,Qf 45 4 1,Qs 1 45 44]))) (.reg [Qk 46 .add 31 1,Qc 31 46]))))))) (Qr [Qm 47 5 1,Qs 5 2 47] .ret)))))
def z7B:List LRes:=[.cell 2 true 5]
theorem z4l:q0n Tryz.prog 52 48 q8Q z7B:=⟨_,_,Tryz.func52,rfl,by kernel_rfl,by kernel_rfl,rfl⟩
def z6O(v:Val):Nat→AV
 |0=>.ns
 |i+1=>.own (.c (.l 1) 3) 25 5 (q0m (v.l.take (i+1)))
def j3V(c:Nat):Nat→AV
 |0=>.ns
 |j+1=>.rs (.l 44) (j+1) c
def frow(v:Val)(c:Nat):Nat→List (Nat×AObj)
 |0=>[]
 |j+1=>[(44,.cells (rowC 6 (q0k (v.f.take (j+1))) c))]
theorem z98(v:Val)(i:Nat):(z6O v i=.ns∧v.l.take i=[])∨z6O v i=.own (.c (.l 1) 3) 25 5 (q0m (v.l.take i)):=by
 cases i with
 |zero=>exact .inl ⟨rfl,rfl⟩
 |succ i=>exact .inr rfl
theorem z11(v:Val)(i:Nat):z6O v (i+1)=.own (.c (.l 1) 3) 25 5 (q0m (v.l.take (i+1))):=rfl
theorem j4c(r:Ref)(v:Val)(i:Nat):AV.has r (z6O v i)=false:=by cases i<;>rfl
theorem j4b(v:Val){i:Nat}(hi:v.l.length≤i):(z6O v i=.ns∧v.l=[])∨z6O v i=.own (.c (.l 1) 3) 25 5 (q0m v.l):=by
 cases i with
 |zero=>exact .inl ⟨rfl,Zbl (by omega)⟩
 |succ i=>right;rw[z11,List.take_of_length_le hi]
theorem q8b:q45 Tryz.prog 23=some (88,6,96):=by kernel_rfl
theorem z73:z2l Tryz.prog 88=true:=by kernel_rfl
theorem z0x:isSl Tryz.prog 23=true:=by kernel_rfl
theorem z5S(c j:Nat):j3V c (j+1)=.rs (.l 44) (j+1) c:=rfl
theorem z8a(v:Val)(c j:Nat):frow v c (j+1)=[(44,.cells (rowC 6 (q0k (v.f.take (j+1))) c))]:=rfl
theorem z3W(v:Val){c j:Nat}(hc:j=0∨j≤c∧c≤maxLen):(j3V c j=.ns∧frow v c j=[]∧j=0)∨(j3V c j=.rs (.l 44) j c∧frow v c j=[(44,.cells (rowC 6 (q0k (v.f.take j)) c))]∧j≠0∧j≤c∧c≤maxLen):=by
 cases j with
 |zero=>exact .inl ⟨rfl,rfl,rfl⟩
 |succ j=>exact .inr ⟨rfl,rfl,by omega,by omega,by omega⟩
theorem j9b:∀(m:Nat) (v:Val),SizeOf.sizeOf v≤m→v.sm 1048576=true→z9C Tryz.prog 52 [v.d] (j5w v):=by
 intro m;induction m with
 |zero=>intro v h;cases v;simp at h
 |succ m ih=>
  intro v hv hsm;obtain⟨_,hll,hfl,hsl,hsf⟩:=Val.q1e.1 hsm;have hvl:=q0H v.l;have hfl':=q0D v.f;have ihP:∀x:Val,SizeOf.sizeOf x≤m→x.sm 1048576=true→q0i Tryz.prog 52 [x.d] (fun r=>r=.one x.d):=fun x h1 h2=>(ih x h1 h2).j8x fun r hr=>by rw[hr.data]
  have hmain:RUN Tryz.prog q8Q [] (retN 2 5 (j5w v)) ⟨z0D 0 [v.d],[],[]⟩:=by
   rw[Val.d_eq];simp(maxSteps:=2000000)only[go_sem,↓reduceIte,q8Q];refine q0f (fun i:Nat=>⟨[(1,.ptr (.l 1) 0),(2,.ptr (.l 2) 0),(4,.d (.list (q0k v.f))),(15,.d (.list (q0m v.l))),(16,.d (.int .i64 (q0m v.l).length)),(17,.d (.int .i64 i))],
     [(1,.cells [.d (.int .i64 v.kind),.d (.int .i64 v.n),.d (.str v.s),z6O v i,.ns]),(2,.cells [.d (.int .i64 0),.d (.int .i64 0),.d (.str []),.ns,.ns])],[]⟩)
    (fun i=>i≤v.l.length) (fun i=>v.l.length-i) 0 ?_ (by omega) ?_
   ·refine Weak.mk ?_ ?_ ?_<;>simp(maxSteps:=2000000)only[go_sem,↓reduceIte,Sub,Zaa,Zab,z6O]
   ·intro i hi;simp(maxSteps:=2000000)only[go_sem,↓reduceIte,hvl];refine⟨fun hlt=>?_,fun hge=>?_⟩
    ·obtain⟨x,hx⟩:=get_some (l:=v.l) (i:=i) (by omega);have hm:=Zaf hx;have hc:=ihP x (by have:=z1H hm;omega) (hsl x hm);rw[Val.d_eq]at hc;rcases z98 v i with⟨hlc,ht⟩|hlc
     ·simp(maxSteps:=2000000)(disch:=omega)only[go_sem,↓reduceIte,q0a,q3c,hx,Val.d_eq,hlc];refine q1E.of hc ?_;simp(maxSteps:=2000000)(disch:=omega)only[go_sem,↓reduceIte];refine⟨i+1,?_,by omega,by omega⟩;refine Weak.mk ?_ ?_ ?_<;>simp(maxSteps:=2000000)only[go_sem,↓reduceIte,Sub,Zaa,Zab,z11,q3C hx,ht,q0m,Val.d_eq,hvl]
     ·simp(maxSteps:=2000000)(disch:=omega)only[go_sem,↓reduceIte,q0a,q3c,hx,Val.d_eq,hlc];refine q1E.of hc ?_;have htl:(q0m (v.l.take i)).length≤1048576:=by rw[q0H,Zaw];omega
      simp(maxSteps:=2000000)(disch:=omega)only[go_sem,↓reduceIte];refine⟨⟨by omega,by omega⟩,⟨i+1,?_,by omega,by omega⟩⟩;refine Weak.mk ?_ ?_ ?_<;>simp(maxSteps:=2000000)only[go_sem,↓reduceIte,Sub,Zaa,Zab,z11,q3C hx,q5H,q0m,Val.d_eq,hvl]
    ·have hge':v.l.length≤i:=by omega
     have hLC:=j4b v hge';have hhas:=fun r=>j4c r v i
     generalize z6O v i=LC at hLC hhas;refine q0f (fun y:Nat×Nat=>⟨[(1,.ptr (.l 1) 0),(2,.ptr (.l 2) 0),(29,.d (.list (q0k v.f))),(30,.d (.int .i64 (q0k v.f).length)),(31,.d (.int .i64 y.1))],
       (1,.cells [.d (.int .i64 v.kind),.d (.int .i64 v.n),.d (.str v.s),LC,j3V y.2 y.1])::(2,.cells [.d (.int .i64 0),.d (.int .i64 0),.d (.str []),.ns,.ns])::frow v y.2 y.1,[]⟩)
      (fun y=>y.1≤v.f.length∧(y.1=0∨y.1≤y.2∧y.2≤maxLen)) (fun y=>v.f.length-y.1) (0,0) ?_ ⟨by simp,.inl rfl⟩ ?_
     ·refine Weak.mk ?_ ?_ ?_<;>simp(maxSteps:=2000000)only[go_sem,↓reduceIte,Sub,Zaa,Zab,j3V,frow]
     ·rintro⟨j,c⟩ ⟨hj,hc⟩;simp only at hj hc;simp(maxSteps:=2000000)only[go_sem,↓reduceIte,hfl'];refine⟨fun hlt=>?_,fun hge=>?_⟩
      ·obtain⟨x,hx⟩:=get_some (l:=v.f) (i:=j) (by omega);have hm:=Zaf hx;have hcl:=ihP x.v (by have:=z1G hm;omega) (Fld.q1e.1 (hsf x hm)).2;rw[Val.d_eq]at hcl;rcases z3W v hc with⟨e1,e2,e3⟩|⟨e1,e2,e3,e4,e5⟩
       ·simp(maxSteps:=2000000)(disch:=omega)only[go_sem,↓reduceIte,q0a,q0K,hx,Fld.d_eq,e1,e2,↓hhas,q5E];refine q1E.of hcl ?_;simp(maxSteps:=2000000)(disch:=omega)only[go_sem,↓reduceIte];refine q0e.j7n (c:=0) (fs:=[]) q8b z73 z0x (.inl ⟨.inl rfl,rfl⟩) rfl (by simp) (by simp[D.cells]) (by simp) (by simp[maxLen]) (fun c' h1 h2=>?_);simp(maxSteps:=2000000)(disch:=omega)only[go_sem,↓reduceIte,q5E,↓hhas];refine⟨(j+1,c'),?_,⟨by simp only;omega,.inr ⟨?_,h2⟩⟩,by simp only;omega⟩
        ·subst e3;refine Weak.mk ?_ ?_ ?_<;>simp(maxSteps:=2000000)only[go_sem,↓reduceIte,Sub,Zaa,Zab,z5S,z8a,q3C hx,q1M,q0k,Fld.d_eq]
        ·simp only[Zag,Zae]at h1;simp only;omega
       ·simp(maxSteps:=2000000)(disch:=omega)only[go_sem,↓reduceIte,q0a,q0K,hx,Fld.d_eq,e1,e2,↓hhas,q5E];refine q1E.of hcl ?_;simp(maxSteps:=2000000)(disch:=omega)only[go_sem,↓reduceIte];have hfl2:(q0k (v.f.take j)).length=j:=by rw[q0D,Zaw];omega
        refine q0e.j7n (c:=c) (fs:=q0k (v.f.take j)) q8b z73 z0x (.inr ⟨by rw[hfl2];rfl,rfl,by omega,e5⟩) rfl (by simp) (by simp[D.cells]) (q1j _) (by simp[hfl2,maxLen];omega) (fun c' h1 h2=>?_);rw[hfl2]at h1 ⊢;simp(maxSteps:=2000000)(disch:=omega)only[go_sem,↓reduceIte,q5E,↓hhas];refine⟨(j+1,c'),?_,⟨by simp only;omega,.inr ⟨?_,h2⟩⟩,by simp only;omega⟩
        ·refine Weak.mk ?_ ?_ ?_<;>simp(maxSteps:=2000000)only[go_sem,↓reduceIte,Sub,Zaa,Zab,z5S,z8a,q3C hx,q1M,q0k,Fld.d_eq]
        ·simp only[Zag,Zae]at h1;simp only;omega
      ·have hj':j=v.f.length:=by omega
       have htk:v.f.take j=v.f:=List.take_of_length_le (by omega);rcases z3W v hc with⟨e1,e2,e3⟩|⟨e1,e2,e3,e4,e5⟩
       ·have hf0:v.f=[]:=Zbl (by omega);rcases hLC with⟨rfl,hl0⟩|rfl
        ·simp(maxSteps:=2000000)only[go_sem,↓reduceIte,e1,e2];exact⟨.nul [.d (.int .i64 v.kind),.d (.int .i64 v.n),.d (.str v.s),.ns],0,rfl,(fun _ _ _ _ h=>by cases h),by simp[XR.ok,AV.dns],_,.inl ⟨rfl,hl0⟩,.inl ⟨hf0,rfl⟩⟩
        ·simp(maxSteps:=2000000)only[go_sem,↓reduceIte,e1,e2];exact⟨.nul [.d (.int .i64 v.kind),.d (.int .i64 v.n),.d (.str v.s),.d (.list (q0m v.l))],0,rfl,(fun _ _ _ _ h=>by cases h),by simp[XR.ok,AV.dns],_,.inr rfl,.inl ⟨hf0,rfl⟩⟩
       ·have hf0:v.f≠[]:=fun e=>e3 (by rw[hj',e];rfl)
        have hjl:j=(q0k v.f).length:=by omega
        rcases hLC with⟨rfl,hl0⟩|rfl
        ·simp(maxSteps:=2000000)only[go_sem,↓reduceIte,e1,e2,htk];exact⟨.row [.d (.int .i64 v.kind),.d (.int .i64 v.n),.d (.str v.s),.ns] 6 (q0k v.f) c,44,by rw[hjl];rfl,(fun _ _ _ _ h=>by cases h;rfl),⟨by simp[AV.dns],q1j _,by omega,e5⟩,_,.inl ⟨rfl,hl0⟩,.inr ⟨hf0,c,rfl⟩⟩
        ·simp(maxSteps:=2000000)only[go_sem,↓reduceIte,e1,e2,htk];exact⟨.row [.d (.int .i64 v.kind),.d (.int .i64 v.n),.d (.str v.s),.d (.list (q0m v.l))] 6 (q0k v.f) c,44,by rw[hjl];rfl,(fun _ _ _ _ h=>by cases h;rfl),⟨by simp[AV.dns],q1j _,by omega,e5⟩,_,.inr rfl,.inr ⟨hf0,c,rfl⟩⟩
  exact z4l.j6w rfl hmain
theorem j9S(a b:UInt8):(a<b)∨(a=b)∨(b<a):=by
 simp only[Zco,←UInt8.toNat_inj];omega
theorem cmpB:∀(a b:List UInt8),(Lib.compareBytes a b<0↔Op.bytesLess a b=true)∧(Lib.compareBytes a b=0↔a=b)
 |[],[]=>by simp[Lib.compareBytes,Op.bytesLess]
 |[],_::_=>by simp[Lib.compareBytes,Op.bytesLess]
 |_::_,[]=>by simp[Lib.compareBytes,Op.bytesLess]
 |a::x,b::y=>by
  have ih:=cmpB x y;simp only[Lib.compareBytes,Op.bytesLess,Zdh];rcases j9S a b with h|rfl|h
  ·have h2:¬a=b:=fun e=>by subst e;simp only[Zco]at h;omega
   simp[h,h2]
  ·have h2:¬a<a:=by simp only[Zco];omega
   simp[h2,ih]
  ·have h2:¬a<b:=by simp only[Zco]at h ⊢;omega
   have h3:¬a=b:=fun e=>by subst e;simp only[Zco]at h;omega
   simp[h,h2,h3]
theorem q7E:∀{a b c:List UInt8},Op.bytesLess a b=true→Op.bytesLess b c=true→Op.bytesLess a c=true
 |[],[],_,h,_=>by simp[Op.bytesLess]at h
 |[],_::_,[],_,h=>by simp[Op.bytesLess]at h
 |[],_::_,_::_,_,_=>by simp[Op.bytesLess]
 |_::_,[],_,h,_=>by simp[Op.bytesLess]at h
 |_::_,_::_,[],_,h=>by simp[Op.bytesLess]at h
 |a::x,b::y,c::z,h,k=>by
  simp only[Op.bytesLess,Zcc,Zah,decide_eq_true_eq,beq_iff_eq,Zco]at h k ⊢;rcases h with h|⟨rfl,h⟩<;>rcases k with k|⟨rfl,k⟩
  ·left;omega
  ·exact .inl h
  ·exact .inl k
  ·exact .inr ⟨rfl,q7E h k⟩
theorem z3n:∀(a:List UInt8),Op.bytesLess a a=false
 |[]=>rfl
 |a::x=>by
  have:¬a<a:=by simp only[Zco];omega
  simp[Op.bytesLess,z3n x,this]
def q2c:q0g:=
 Qr [Qx 4 (Ki 0)] (Qr [Qc 5 0,Qc 6 1,Qq 7 179 [5,6],Qa 4 7] .ret)
def q2h:List LRes:=[.tmp 4]
theorem q3J:q0n Tryz.prog 158 8 q2c q2h:=⟨_,_,Tryz.func158,rfl,by kernel_rfl,by kernel_rfl,rfl⟩
def q7u:q0g:=
 Qr [Qx 4 (Ki 0)] (Qr [Qc 5 0,Qc 6 1,Qj 7 158 [5,6],Qa 4 7] .ret)
def q7x:List LRes:=[.tmp 4]
theorem q9Z:q0n Tryz.prog 119 8 q7u q7x:=⟨_,_,Tryz.func119,rfl,by kernel_rfl,by kernel_rfl,rfl⟩
def z00:q0g:=
 Qr [⟨some 2,.box (.t 0),none⟩,Qx 4 (Ki 0)] (Qr [Qf 5 0 2,Ql 6 5,Qc 7 1,Qj 8 119 [6,7],Qa 4 8] .ret)
def z06:List LRes:=[.tmp 4]
theorem z3c:q0n Tryz.prog 118 9 z00 z06:=⟨_,_,Tryz.func118,rfl,by kernel_rfl,by kernel_rfl,rfl⟩
theorem z1e(a b:List UInt8):q0i Tryz.prog 158 [.str a,.str b] (fun r=>r=.one (.int .i64 (Lib.compareBytes a b))):=by
 refine q3J.call rfl ?_;simp(maxSteps:=2000000)only[go_sem,↓reduceIte,q2c,q2h];refine q0e.entry Tryz.func179 (by kernel_rfl) (by kernel_rfl) (by kernel_rfl) (e:=Extern.BytealgCompare.compare) (by kernel_rfl) (.d (.int .i64 (Lib.compareBytes a b))) (fun G w vs hl hv=>?_) ?_
 ·match vs,hl with
  |[v,u],_=>
   have h0:AVR G w (.d (.str a)) v:=hv 0 _ rfl;have h1:AVR G w (.d (.str b)) u:=hv 1 _ rfl;have h0:=h0.dinv;have h1:=h1.dinv;cases h0;cases h1;exact⟨_,Lib.run_compareString _ _ w,.d _ _ (.int _ _)⟩
 simp(maxSteps:=2000000)only[go_sem,↓reduceIte]
theorem z7Q(a b:List UInt8):q0i Tryz.prog 119 [.str a,.str b] (fun r=>r=.one (.int .i64 (Lib.compareBytes a b))):=by
 refine q9Z.call rfl ?_;simp(maxSteps:=2000000)only[go_sem,↓reduceIte,q7u,q7x];refine q0c.of (z1e a b) ?_;simp(maxSteps:=2000000)only[go_sem,↓reduceIte]
theorem z9a(x:Fld)(nm:List UInt8):q0i Tryz.prog 118 [x.d,.str nm] (fun r=>r=.one (.int .i64 (Lib.compareBytes x.name nm))):=by
 rw[Fld.d_eq];refine z3c.call rfl ?_;simp(maxSteps:=2000000)only[go_sem,↓reduceIte,z00,z06];refine q0c.of (z7Q _ _) ?_;simp(maxSteps:=2000000)only[go_sem,↓reduceIte]
def srt(l:List Fld):Prop:=∀(i j:Nat) (x y:Fld),i<j→l[i]?=some x→l[j]?=some y→Op.bytesLess x.name y.name=true
def posV(nm:List UInt8):List Fld→Nat
 |[]=>0
 |x::r=>if Op.bytesLess x.name nm then posV nm r+1 else 0
def hasV(nm:List UInt8)(l:List Fld):Bool:=
 match l[posV nm l]? with
 |some x=>decide (x.name=nm)
 |none=>false
theorem z0M(nm:List UInt8):∀l:List Fld,posV nm l≤l.length
 |[]=>by simp[posV]
 |x::r=>by simp only[posV,Zae];split<;>have:=z0M nm r<;>omega
theorem j4N(nm:List UInt8):∀(l:List Fld) (k:Nat),k≤l.length→(∀i x,i<k→l[i]?=some x→Op.bytesLess x.name nm=true)→(∀i x,k≤i→l[i]?=some x→Op.bytesLess x.name nm=false)→posV nm l=k
 |[],k,h,_,_=>by simp at h;simp[posV,h]
 |x::r,0,_,_,h=>by have:=h 0 x (by omega) rfl;simp[posV,this]
 |x::r,k+1,hk,h1,h2=>by
  have:=h1 0 x (by omega) rfl;have ih:=j4N nm r k (by simp at hk;omega) (fun i y hi hy=>h1 (i+1) y (by omega) (by simpa using hy)) (fun i y hi hy=>h2 (i+1) y (by omega) (by simpa using hy));simp[posV,this,ih]
def q0t:q0g:=
 Qr [Qx 6 (Ki 0),Qx 7 KF] (Qr [Qc 12 0,Qz 13 false 12,Qa 8 13] (Qr [Qc 14 8,Qx 9 (Ki 0),Qa 10 14] (.seq (.block 0 (.loop (.seq (Qr [Qc 15 9,Qc 16 10,Qb 17 .lss 15 16] (.cond 
 (.t 17) .skip (.exit 0))) (.block 1 (Qr [Qc 18 9,Qc 19 10,Qb 20 .add 18 19,Q 21 (.cvI .u64 (.t 20)),Q 22 (.bin .shr (.t 21) (.k (.d (.int .u64 1)))),Q 23 (.cvI .i64 (.t 
 22)),Qa 11 23] (Qr [Qc 24 2,Qc 25 0,Qc 26 11,Q 27 (.ia 6 (.t 25) (.t 26)),Qm 28 6 27,Qc 29 1,⟨some 30,.prim .call [.t 24,.t 28,.t 29] [],none⟩,Qk 31 .lss 30 0] (.cond 
 (.t 31) (.reg [Qc 32 11,Qk 33 .add 32 1,Qa 9 33]) (.reg [Qc 34 11,Qa 10 34])))))))) (Qr [Qc 35 9,Qc 36 9,Qc 37 8,Qb 38 .lss 36 37,Qc 39 38,Qd 40 2 39 true,Qd 41 0 39 
 true,Qd 42 9 39 true,Qg 43 (.ia 6 (.t 41) (.t 42)) 39 true,Qg 44 (.ld true 6 (.t 43)) 39 true,Qd 45 1 39 true,⟨some 46,.prim .call [.t 40,.t 44,.t 45] [],some (39, 
 true)⟩,Qg 47 (.bin .eql (.t 46) (Ki 0)) 39 true,Qp 48 39 47,Qa 6 35,Qa 7 48] .ret))))
def q0u:List LRes:=[.tmp 6,.tmp 7]
theorem q0M:q0n Tryz.prog 117 49 q0t q0u:=⟨_,_,Tryz.func117,rfl,by kernel_rfl,by kernel_rfl,rfl⟩
theorem q8q(l:List Fld)(nm:List UInt8)(hs:srt l)(hl:l.length≤1048576):
  q1r Tryz.prog 117 [.d (.list (q0k l)),.d (.str nm),.fn (.func 118) [] []] [] (.tuple [.d (.int .i64 (posV nm l)),.d (.bool (hasV nm l))]) []:=by
 have hfl:=q0D l;refine q0M.q0C (by kernel_rfl) rfl ?_;simp(maxSteps:=2000000)only[go_sem,↓reduceIte,q0t,q0u,hfl];refine q0f (fun y:Nat×Nat=>⟨[(0,.d (.list (q0k l))),(1,.d (.str nm)),(2,.fn (.func 118) [] []),(8,.d (.int .i64 l.length)),(9,.d (.int .i64 y.1)),(10,.d (.int .i64 y.2))],[],[]⟩)
  (fun y=>y.1≤y.2∧y.2≤l.length∧(∀i x,i<y.1→l[i]?=some x→Op.bytesLess x.name nm=true)∧(∀i x,y.2≤i→l[i]?=some x→Op.bytesLess x.name nm=false)) (fun y=>y.2-y.1) (0,l.length) ?_ ?_ ?_
 ·refine Weak.mk ?_ ?_ ?_<;>simp(maxSteps:=2000000)only[go_sem,↓reduceIte,Sub,Zaa,Zab]
 ·exact⟨by simp,by simp,fun i x hi=>by simp at hi,fun i x hi hx=>by simp only at hi;rw[Zbm hi]at hx;cases hx⟩
 ·rintro⟨i,j⟩ ⟨hij,hj,h1,h2⟩;simp only at hij hj h1 h2;have hmid:IntKind.i64.wrap ((IntKind.u64.wrap ((i:Int)+j)).fdiv (2 ^ min 1 IntKind.u64.bits))=(((i+j) / 2:Nat):Int):=by
   have e1:IntKind.u64.wrap ((i:Int)+j)=((i+j:Nat):Int):=by
    rw[IntWalk.u64_in]<;>omega
   have e2:(2:Int) ^ min 1 IntKind.u64.bits=2:=rfl;rw[e1,e2];have e3:((i+j:Nat):Int).fdiv 2=(((i+j) / 2:Nat):Int):=by
    rw[Int.fdiv_eq_ediv_of_nonneg _ (by omega)];omega
   rw[e3,IntWalk.i64_in]<;>omega
  simp(maxSteps:=2000000)only[run_seq,z2i,q9r,pev,St.ev,St.get,aget,reduceCtorEq,↓reduceIte,Nat.reduceEqDiff,Zbd,q3s,St.put,z08,fB,binD,binI,Zax,z2b,q9L,q9Q,z1P,decide_eq_true_eq,z7k,q9u,fCvI,Int.reduceLT,Int.toNat_one,z4y,asgS,fIa,fIaD,AV.rd,D.cells,z7j,q8l,q8m,q9s,q9q,St.mark,aset,putO,Zcm,z0V,Zao,z5b,j42,j0q,j1J,resR,z4G,resA,j6H,AV.simple,j4I,AV.wf,Bool.and_self,mkA,q8B,z3L,and_true,IteG]
  refine⟨fun hlt=>?_,fun hge=>?_⟩
  ·simp(maxSteps:=2000000)(disch:=omega)only[IntWalk.i64_in,hmid];obtain⟨x,hx⟩:=get_some (l:=l) (i:=(i+j) / 2) (by omega);have hc:=(z9a x nm).q1X (by kernel_rfl);simp only[Zbo,Zbs,Res.av]at hc;rw[Fld.d_eq x]at hc
   simp(maxSteps:=2000000)(disch:=omega)only[q0a,q0K,hx,Zax,Fld.d_eq,Zae,Zag,Zbg,Nat.reduceAdd,↓reduceIte,q3s,St.put,z08,q9r,pev,fLd,St.ev,St.get,aget,Zbd,Zak,Zcr,List.take_nil,Nat.reduceEqDiff,reduceCtorEq,q9J]
   refine q0e.q0C ([]) ([]) rfl (hc) rfl rfl (by simp only[q0R,St.obj,aget,AObj.ren,AV.ren,AV.ren1,renL,q1P,renR,renQ,Zap,Zaq,and_true,and_self,Nat.reduceEqDiff,↓reduceIte,reduceCtorEq]) rfl rfl rfl ⟨rfl,rfl⟩ ?_;simp(maxSteps:=2000000)(disch:=omega)only[go_sem,↓reduceIte];obtain⟨c1,c2⟩:=cmpB x.name nm
   refine⟨fun hl1=>⟨((i+j) / 2+1,j),?_,⟨by simp only;omega,hj,fun k y hk hy=>?_,h2⟩,by simp only;omega⟩,fun hl1=>⟨(i,(i+j) / 2),?_,⟨by simp only;omega,by simp only;omega,h1,fun k y hk hy=>?_⟩,by simp only;omega⟩⟩
   ·refine Weak.mk ?_ ?_ ?_<;>simp(maxSteps:=2000000)only[go_sem,↓reduceIte,Sub,Zaa,Zab]
   ·simp only at hk;rcases Zbi k ((i+j) / 2)with h3|h3
    ·exact q7E (hs k _ y x h3 hy hx) (c1.1 hl1)
    ·have:k=(i+j) / 2:=by omega
     subst this;rw[hx]at hy;cases hy;exact c1.1 hl1
   ·refine Weak.mk ?_ ?_ ?_<;>simp(maxSteps:=2000000)only[go_sem,↓reduceIte,Sub,Zaa,Zab]
   ·simp only at hk;have h4:Op.bytesLess x.name nm=false:=by
     cases h5:Op.bytesLess x.name nm with
     |false=>rfl
     |true=>exact absurd (c1.2 h5) hl1
    rcases Zbi ((i+j) / 2) k with h3|h3
    ·cases h5:Op.bytesLess y.name nm with
     |false=>rfl
     |true=>rw[q7E (hs _ k x y h3 hx hy) h5]at h4;cases h4
    ·have:k=(i+j) / 2:=by omega
     subst this;rw[hx]at hy;cases hy;exact h4
  ·have hij':i=j:=by omega
   subst hij';have hpos:=j4N nm l i hj h1 h2;rw[hpos];have hhas:hasV nm l=(match l[i]? with|some x=>decide (x.name=nm)|none=>false):=by unfold hasV;rw[hpos]
   refine⟨fun hlt=>?_,fun hge=>?_⟩
   ·obtain⟨x,hx⟩:=get_some (l:=l) (i:=i) (by omega);have hc:=(z9a x nm).q1X (by kernel_rfl);simp only[Zbo,Zbs,Res.av]at hc;rw[Fld.d_eq x]at hc;simp(maxSteps:=2000000)(disch:=omega)only[q0a,q0K,hx,Zax,Fld.d_eq,Zae,Zag,Zbg,Nat.reduceAdd,↓reduceIte,q3s,St.put,z08,q9q,St.get,aget,Nat.reduceEqDiff,Zbd,St.mark,aset,putO,Zcm,z0V,q9r,pev,fLd,St.ev,Zak,Zcr,List.take_nil,reduceCtorEq,q9J]
    refine q0e.q0C ([]) ([]) rfl (hc) rfl rfl (by simp only[q0R,St.obj,aget,AObj.ren,AV.ren,AV.ren1,renL,q1P,renR,renQ,Zap,Zaq,and_true,and_self,Nat.reduceEqDiff,↓reduceIte,reduceCtorEq]) rfl rfl rfl ⟨rfl,rfl⟩ ?_;simp(maxSteps:=2000000)(disch:=omega)only[go_sem,↓reduceIte];rw[hhas,hx];have c2:=(cmpB x.name nm).2
    by_cases he:x.name=nm
    ·have h0:=c2.2 he;rw[he]at h0;simp[he,h0]
    ·have:¬Lib.compareBytes x.name nm=0:=fun e=>he (c2.1 e)
     simp[he,this]
   ·have:l[i]?=none:=Zbm (by omega);rw[hhas,this]
end Go.Av.Tryz
namespace Go.Av.Tryz
open Go.Proofs Go.RowKit Go.Lib
section
variable {P:Program}
theorem q8p(w:World)(dT sT ty elem:TypeId)(sz k b o dLen dCap:Nat)(a:Addr)(sLen sCap:Nat)(cs:List Value)
  (hu:P.underlying dT=some (.slice elem)) (hs:(P.info? elem).map (·.size)=some sz) (hk:k=Nat.min sLen dLen) (hn:cs.length=k*sz)
  (hsrc:∀j v,cs[j]?=some v→w.cell? (a.add j)=some v) (hc:∀j,j<cs.length→(w.cell? ⟨b,o+j,none⟩).isSome=true) (hf:∀j,j<cs.length→w.frozen? ⟨b,o+j,none⟩=false) (h1:∀v∈cs,v.oneCell'=true):
  (Builtin.copy_ #[dT,sT] ty #[.slice (some ⟨b,o,none⟩) dLen dCap,.slice (some a) sLen sCap]).run P w=.ok (goInt k) (w.setCells b o cs):=by
 have hl:=run_loadCells_list (P:=P) w a cs hsrc;have hst:=run_storeCells_cells (P:=P) b o cs 0 w (by simpa using hc) (by simpa using hf) h1;cases hq:P.info? elem with
 |none=>simp[hq]at hs
 |some i=>
  have hi:i.size=sz:=by simpa[hq]using hs
  simp[Builtin.copy_,run_underlying hu,Builtin.lenOf,Builtin.firstCells,sizeOf,typeInfo,hq,hi,←hk,←hn,hl,hst]
theorem z9B(w:World){o:Oper}{a:Act}{K:Act→World→Prop}{Q:Exit→Act→World→Prop}(d s:Operand)(t t':TypeId)
  (ho:o.op=.call { callee:=.builtin .copy,args := #[d,s],argTypes := #[t,t'] }) (v u:Value) (hd:a.eval d=v) (hs:a.eval s=u) {v':Value} {w':World}
  (hr:(Builtin.copy_ #[t,t'] o.type #[v,u]).run P w=.ok v' w') (h:K (a.put o.dst v') w'):o.wp P a w K Q:=by
 unfold Oper.wp execOp;simp only[ho,resolve,invoke,builtin,Sem.run_bind,Sem.run_pure,Result.andThen_ok,List.map_toArray,Zbo,Zbs,hd,hs,hr];exact h
theorem q5Q(w:World){ops:Array Oper}{rest:List Oper}{o:Oper}{a:Act}{Q:Exit→Act→World→Prop}(hgd:o.guard=none)(d s:Operand)(t t':TypeId)
  (ho:o.op=.call { callee:=.builtin .copy,args := #[d,s],argTypes := #[t,t'] }) (v u:Value) (hd:a.eval d=v) (hs:a.eval s=u) {v':Value} {w':World}
  (hr:(Builtin.copy_ #[t,t'] o.type #[v,u]).run P w=.ok v' w') (h:wpList P ops Q rest (a.put o.dst v') w'):wpList P ops Q (o::rest) a w:=
 wpList_plain hgd fun _ hK=>z9B w d s t t' ho v u hd hs hr (hK _ _ h)
theorem z0k{ops:Array Oper}{o:Oper}{a:Act}{w:World}{K:Act→World→Prop}{Q:Exit→Act→World→Prop}{E:Prop}
  (hg:o.guard=none) (d x:Operand) (dT sT:TypeId) (hop:o.op=Op.call { callee:=Callee.builtin Builtin.copy,args := #[d,x],argTypes := #[dT,sT] })
  (v u:Value) (hd:a.eval d=v) (hx:a.eval x=u) {v':Value} {w':World} (hr:(Builtin.copy_ #[dT,sT] o.type #[v,u]).run P w=.ok v' w') (hK:K (a.put o.dst v') w'):
  if Region.wanted o (yielded ops a.tmps)=true then Oper.wp P o a w K Q else E:=by
 have hw:Region.wanted o (yielded ops a.tmps)=true:=by simp[Region.wanted,hg]
 rw[if_pos hw];unfold Oper.wp;simp[execOp,hop,resolve,invoke,builtin,hd,hx,hr,Result.andThen];exact hK
theorem z1C(w:World)(tS tR e:TypeId)(ht:P.underlying tS=some (.slice e))(size:Nat)(hz:∀w,(Go.sizeOf e).run P w=.ok size w)
  (a b:Addr) (la ca lb cb:Nat) (hne:a.block≠b.block) (tA:TypeId) (kA:Nat) (hsa:w.shape? a.block=some (tA,kA)) (hkA:kA≠0) {cs:Array Value} {el:TypeId} (hb:w.heap[b.block]?=some (.cells cs el (0,0))):
  (Extern.SlicesOverlaps.overlaps #[tS,tS] #[tR] #[.slice (some a) la ca,.slice (some b) lb cb]).run P w=.ok (.bool false) w:=by
 have hnb:(a.block != b.block)=true:=by simpa using hne
 have hnb':(a.block==b.block)=false:=by simpa using hne
 have hsb:w.shape? b.block=some (el,cs.size):=by simp[World.shape?,hb]
 have hfb:w.frozen? b=false:=by simp[World.frozen?,hb]
 have hfe:w.frozen? { block:=b.block,off:=cs.size }=false:=by simp[World.frozen?,hb]
 change Sem.run P (α:=Value) (do
  let some t := (#[tS, tS] : Array TypeId)[0]? | stuck "slices.overlaps: no parameter types"
  let .slice elem ← underlying t | stuck "slices.overlaps: slice type expected"
  let size ←sizeOf elem
  match(some a:Option Addr),(some b:Option Addr)with
  |some a,some b=>
   if la=0∨lb=0∨size=0 then pure (Value.bool false)
   else if a.block != b.block&&(←frozen a)&&(←frozen b)then unsupported .addressObserved
   else do
    if a.block != b.block then do
     noView a;noView b
     if ← mayBeOne a b then return Value.bool ((← choose (.extern "sameAddr.stringBytes" 2)) == 1)
    pure (Value.bool (a.block==b.block&&a.off<b.off+lb*size&&b.off<a.off+la*size))
  |_,_=>pure (Value.bool false)) w=_
 by_cases h0:la=0∨lb=0∨size=0
 ·simp[run_underlying ht,hz,h0]
 ·cases kA with
  |zero=>exact absurd rfl hkA
  |succ kA=>
   cases hfa:w.frozen? a<;>cases hf2:w.frozen? { block:=a.block,off:=kA+1 }<;>simp[run_underlying ht,hz,h0,hnb,hnb',frozen,noView,viewAt,mayBeOne,stringish,shape,Sem.run,hsa,hsb,hfa,hf2,hfb,hfe]
theorem q4s(b:Nat)(el:TypeId)(fr:Nat×Nat):∀(vs:List Value) (o:Nat) (w:World) (cur:Array Value),w.heap[b]?=some (.cells cur el fr)→o+vs.length≤cur.size→
  ∃cur',(w.setCells b o vs).heap[b]?=some (.cells cur' el fr)∧cur'.toList=cur.toList.take o++vs++cur.toList.drop (o+vs.length)
 |[],o,w,cur,h,_=>⟨cur,h,by simp⟩
 |v::r,o,w,cur,h,hl=>by
  simp only[Zae]at hl;have h1:=q9a w b o v h;obtain⟨cur',h2,h3⟩:=q4s b el fr r (o+1) _ _ h1 (by simp;omega);refine⟨cur',h2,?_⟩;rw[h3];have ho:o<cur.toList.length:=by simp;omega
  simp only[Array.toList_setIfInBounds,Zae];rw[Zcu,List.drop_set_of_lt (by omega),List.take_set_of_le (Zak _)];simp only[List.getElem?_set_self ho,Option.toList_some];simp[Nat.add_assoc,Nat.add_comm 1]
theorem q3B(b k:Nat)(hk:k≠b):∀(vs:List Value) (o:Nat) (w:World),(w.setCells b o vs).heap[k]?=w.heap[k]?
 |[],_,_=>rfl
 |v::r,o,w=>by
  show((w.setCell (at_ b o) v).setCells b (o+1) r).heap[k]?=_
  rw[q3B b k hk r,q1b w b o k v hk]
theorem q4v(b:Nat):∀(vs:List Value) (o:Nat) (w:World),(w.setCells b o vs).heap.size=w.heap.size
 |[],_,_=>rfl
 |v::r,o,w=>by
  show((w.setCell (at_ b o) v).setCells b (o+1) r).heap.size=_
  rw[q4v b r];simp
end
theorem z8P(w:World)(a b:Addr)(la ca lb cb:Nat)(hne:a.block≠b.block)(tA:TypeId)(kA:Nat)(hsa:w.shape? a.block=some (tA,kA))(hkA:kA≠0){cs:Array Value}{el:TypeId}(hb:w.heap[b.block]?=some (.cells cs el (0,0))):
  (callFunc 159 #[.slice (some a) la ca,.slice (some b) lb cb]).run Tryz.prog w=.ok (.value (.bool false)) w:=by
 rw[run_callFunc_extern Tryz.func159 (by kernel_rfl) (by kernel_rfl) (by kernel_rfl) (e:=Extern.SlicesOverlaps.overlaps #[23,23] #[4]) (by kernel_rfl),
  z1C w 23 4 88 Tryz.underlying23 6 (fun w=>by kernel_rfl) a b la ca lb cb hne tA kA hsa hkA hb]
 rfl
set_option maxHeartbeats 4000000 in
set_option maxRecDepth 100000 in
theorem j2t(v v':Value)(n:Nat)(vb voff vc:Nat)(w w':World)(base:Option Addr)(c:Nat)(hn:n≤c)(hc:c≤9223372036854775807)(hv:v=.slice base n c)(hb:base=none→n=0)
  (hr:(Builtin.append_ #[23,23] 23 #[v,.slice (some (at_ vb voff)) 1 vc]).run Tryz.prog w=.ok v' w'):
  Calls Tryz.prog 120 #[v,.int .i64 n,.slice (some (at_ vb voff)) 1 vc] w fun e W=>e=.returned v'∧W=w':=by
 subst hv
 go_enter Tryz.func120,Tryz.ntmps120
 cases base with
 |none=>
  have h0:=hb rfl;subst h0
  go_wp2_with (at_builtin;refine Lib.wpList_append_run _ rfl _ _ _ _ rfl _ _ rfl rfl _ _ hr ?_)
  go_ret
  exact⟨rfl,rfl⟩
 |some a=>
  obtain⟨ab,ao,asp⟩:=a
  go_wp2_with (at_builtin;refine Lib.wpList_append_run _ rfl _ _ _ _ rfl _ _ rfl rfl _ _ hr ?_)
  all_goals(go_ret;exact⟨rfl,rfl⟩)
theorem q8y(b:Nat)(vs:List Value)(o:Nat)(w:World)(h:∀j,j<vs.length→(w.cell? ⟨b,o+j,none⟩).isSome=true)(k:Nat)(hk:(w.cell? ⟨b,k,none⟩).isSome=true):((w.setCells b o vs).cell? ⟨b,k,none⟩).isSome=true:=by
 by_cases hin:o≤k∧k<o+vs.length
 ·have:=World.cell?_setCells_in b vs o w h (k-o) (by omega);rw[show o+(k-o)=k by omega]at this;rw[this];rfl
 ·rw[World.cell?_setCells_out b vs o w ⟨b,k,none⟩ (fun _ _=>by show k<o∨o+vs.length≤k;omega)];exact hk
set_option maxHeartbeats 4000000 in
set_option maxRecDepth 100000 in
theorem z8d(b n c i vb voff vc:Nat)(cs vs:List Value)(w:World)(hi:i<n)(hroom:n+1≤c)(hc63:c≤9223372036854775807)(hvb:vb≠b)(hcl:cs.length=n*6)(hvl:vs.length=6)
  (hcs:∀j v,cs[j]?=some v→w.cell? ⟨b,j,none⟩=some v) (hsp:∀j,j<(n+1)*6→(w.cell? ⟨b,j,none⟩).isSome=true) (hfz:∀j,w.frozen? ⟨b,j,none⟩=false)
  (hvs:∀j v,vs[j]?=some v→w.cell? ⟨vb,voff+j,none⟩=some v) (h1c:∀v∈cs,v.oneCell'=true) (h1v:∀v∈vs,v.oneCell'=true)
  (tA:TypeId) (kA:Nat) (hsa:w.shape? vb=some (tA,kA)) (hkA:kA≠0) {arr:Array Value} {el:TypeId} (hb:w.heap[b]?=some (.cells arr el (0,0))):
  Calls Tryz.prog 120 #[.slice (some ⟨b,0,none⟩) n c,.int .i64 i,.slice (some ⟨vb,voff,none⟩) 1 vc] w fun e w'=>
   e=.returned (.slice (some ⟨b,0,none⟩) (n+1) c)∧w'=(w.drew.setCells b ((i+1)*6) (cs.drop (i*6))).setCells b (i*6) vs:=by
 have hz2:¬((i:Int)=(n:Int)):=by omega
 have hsz:(Tryz.prog.info? 88).map (·.size)=some 6:=by kernel_rfl
 have hov:∀lb cb,(callFunc 159 #[.slice (some ⟨vb,voff,none⟩) 1 vc,.slice (some ⟨b,(i+1)*6,none⟩) lb cb]).run Tryz.prog w=.ok (.value (.bool false)) w:=fun lb cb=>
  z8P w ⟨vb,voff,none⟩ ⟨b,(i+1)*6,none⟩ 1 vc lb cb hvb tA kA hsa hkA hb
 have hdl:(cs.drop (i*6)).length=(n-i)*6:=by rw[Zau,hcl,Nat.sub_mul]
 have mixed:Tryz.prog.follows .mixedOrders=true:=by kernel_rfl
 have hcp1:∀ty dc sc,(Builtin.copy_ #[23,23] ty #[.slice (some ⟨b,(i+1)*6,none⟩) (n+1-(i+1)) dc,.slice (some ⟨b,i*6,none⟩) (n+1-i) sc]).run Tryz.prog w.drew=.ok (goInt ((n-i:Nat):Int)) (w.drew.setCells b ((i+1)*6) (cs.drop (i*6))):=fun ty dc sc=>
  q8p w.drew _ _ ty 88 6 (n-i) b ((i+1)*6) (n+1-(i+1)) dc ⟨b,i*6,none⟩ (n+1-i) sc (cs.drop (i*6)) Tryz.underlying23 hsz (by simp only[Nat.min_def];split<;>omega) hdl
   (fun j v hj=>by rw[Addr.add_lit];exact hcs (i*6+j) v (by rwa [Zbx]at hj))
   (fun j hj=>hsp _ (by omega)) (fun j hj=>hfz _) (fun v hv=>h1c v (Zbv hv))
 obtain⟨W1,hW1⟩:∃W1,W1=w.drew.setCells b ((i+1)*6) (cs.drop (i*6)):=⟨_,rfl⟩;have hsp1:∀k,k<(n+1)*6→(W1.cell? ⟨b,k,none⟩).isSome=true:=fun k hk=>by
  rw[hW1];exact q8y b (cs.drop (i*6)) ((i+1)*6) w.drew (fun j hj=>hsp _ (by rw[hdl]at hj;omega)) _ (hsp k hk)
 have hcp2:∀(W:World),(∀x,W.cell? x=W1.cell? x)→(∀x,W.frozen? x=W1.frozen? x)→∀ty dc,(Builtin.copy_ #[23,23] ty #[.slice (some ⟨b,i*6,none⟩) (n+1-i) dc,.slice (some ⟨vb,voff,none⟩) 1 vc]).run Tryz.prog W=.ok (goInt 1) (W.setCells b (i*6) vs):=fun W hWc hWf ty dc=>
  q8p W _ _ ty 88 6 1 b (i*6) (n+1-i) dc ⟨vb,voff,none⟩ 1 vc vs Tryz.underlying23 hsz (by simp only[Nat.min_def];split<;>omega) (by rw[hvl])
   (fun j v hj=>by
    rw[Addr.add_lit,hWc,hW1,World.cell?_setCells_out b _ _ _ _ (fun h _=>absurd h hvb)];exact hvs j v hj)
   (fun j hj=>by rw[hWc];exact hsp1 _ (by omega)) (fun j hj=>by rw[hWf,hW1,World.frozen?_setCells];exact hfz _) h1v
 rw[←hW1]at hcp1;have hw1:IntKind.i64.wrap ((i:Int)+1)=(i:Int)+1:=by rw[IntKind.wrap_i64];omega
 have hw2:IntKind.i64.wrap ((n:Int)+1)=(n:Int)+1:=by rw[IntKind.wrap_i64];omega
 have hb1:(0:Int)≤(i:Int)+1:=by omega
 have hin:i≤n:=by omega
 have htn:((i:Int)+1).toNat=i+1:=by omega
 have hb2:¬(c=i+1):=by omega
 have hb3:(i:Int)≤(n:Int)+1:=by omega
 have hb4:¬(c=i):=by omega
 go_enter Tryz.func120,Tryz.ntmps120
 go_wp2_with (simp only[hov])
 go_region_law_o (refine z0k rfl _ _ 23 23 rfl (.slice (some ⟨b,(i+1)*6,none⟩) (n+1-(i+1)) (c-(i+1))) (.slice (some ⟨b,i*6,none⟩) (n+1-i) (c-i)) (by simp[Act.eval,Act.put]) (by simp[Act.eval,Act.put]) (hcp1 3 (c-(i+1)) (c-i)) ?_)
 go_wp2_with (refine q5Q _ rfl _ _ 23 23 rfl _ _ rfl rfl (hcp2 _ (fun _=>rfl) (fun _=>rfl) _ _) ?_)
 go_ret
 first|exact⟨rfl,rfl⟩|exact⟨rfl,by rw[hW1]⟩
set_option maxHeartbeats 4000000 in
set_option maxRecDepth 100000 in
theorem z94(b n c i vb voff vc:Nat)(cs vs:List Value)(w:World)(hi:i<n)(hnc:n≤c)(hroom:c<n+1)(hn:n≤1048576)(hvb:vb≠b)(hcl:cs.length=n*6)(hvl:vs.length=6)
  (hcs:∀j v,cs[j]?=some v→w.cell? ⟨b,j,none⟩=some v)
  (hvs:∀j v,vs[j]?=some v→w.cell? ⟨vb,voff+j,none⟩=some v) (h1c:∀v∈cs,v.oneCell'=true) (h1v:∀v∈vs,v.oneCell'=true)
  {ti:TypeInfo} {z:Value} (hi0:Tryz.prog.info? 88=some ti) (hz0:ti.zero=some z) (hzs:z.cells.size=ti.size) (hzo:∀x∈z.cells.toList,x.oneCell'=true) (hsz6:ti.size=6) (hbz:ti.bytes=96):
  ∃ROW:Array Value,∃G:Nat,n+1≤G∧G≤maxLen∧ROW.size=G*6∧(∀x∈ROW.toList,x.oneCell'=true)∧ROW.toList.take (i*6)=cs.take (i*6)∧
  Calls Tryz.prog 120 #[.slice (some ⟨b,0,none⟩) n c,.int .i64 i,.slice (some ⟨vb,voff,none⟩) 1 vc] w fun e w'=>
   e=.returned (.slice (some ⟨w.heap.size,0,none⟩) (n+1) G)∧w'=(((w.alloc (.cells ROW 88)).drew.setCells w.heap.size (i*6) vs).drew).setCells w.heap.size ((i+1)*6) (cs.drop (i*6)):=by
 have hz2:¬((i:Int)=(n:Int)):=by omega
 have hz3:(c:Int)<(n:Int)+1:=by omega
 have hsz:(Tryz.prog.info? 88).map (·.size)=some 6:=by rw[hi0];simp[hsz6]
 have mixed:Tryz.prog.follows .mixedOrders=true:=by kernel_rfl
 have hbw:b<w.heap.size:=block_lt_of_cell (hcs 0 _ (Zal (by omega)));have hvw:vb<w.heap.size:=block_lt_of_cell (hvs 0 _ (Zal (by omega)));have hkk:(n:Int)+1-(i:Int)=((n+1-i:Nat):Int):=by omega
 have hik:i+(n+1-i)=n+1:=by omega
 have hold:(Builtin.firstCells ti.size i (.slice (some ⟨b,0,none⟩) i c)).run Tryz.prog w.drew=.ok (cs.take (i*6)).toArray w.drew:=by
  rw[hsz6];exact run_firstCells_some w.drew 6 i ⟨b,0,none⟩ i c (cs.take (i*6)) (by rw[Zaw];omega) (fun j v hj=>by
   rw[Addr.add_lit];rw[Zbc]at hj;split at hj
   ·rw[Zbg];exact hcs j v hj
   ·cases hj)
 have hrz:∀ty,(Builtin.append_ #[23,3] ty #[.slice (some ⟨b,0,none⟩) i c,.int .i64 ((n:Int)+1-(i:Int))]).run Tryz.prog w=
   .ok (.slice (some ⟨w.heap.size,0,none⟩) (n+1) (grownCap w (n+1) c 88)) (w.drew.alloc (.cells ((cs.take (i*6)).toArray++Builtin.zeroCells z.cells (n+1-i)++Builtin.zeroCells z.cells (grownCap w (n+1) c 88-(n+1))) 88)):=fun ty=>by
  have h:=Lib.run_append_grow_zeros w 23 3 ty 88 ti z .i64 .i64 Tryz.underlying23 Tryz.underlying3 hi0 hz0 (some ⟨b,0,none⟩) i c (cs.take (i*6)) hold (n+1-i) (by omega) (by omega) (by omega) (by omega) (by rw[hbz];omega) (by rw[hbz,hik];exact growslice_fits hroom (by omega));rw[hik]at h;rw[hkk];exact h
 obtain⟨G,hG⟩:∃G,G=grownCap w (n+1) c 88:=⟨_,rfl⟩;obtain⟨ROW,hROW⟩:∃ROW:Array Value,ROW=(cs.take (i*6)).toArray++Builtin.zeroCells z.cells (n+1-i)++Builtin.zeroCells z.cells (G-(n+1)):=⟨_,rfl⟩;rw[←hG]at hrz;rw[←hROW]at hrz;have hGn:n+1≤G:=by rw[hG];exact grownCap_ge w _ _ _
 have hGm:G≤maxLen:=by rw[hG];exact grownCap_le_maxLen w (n+1) c 88 (by unfold maxLen;omega)
 have hRs:ROW.size=G*6:=by
  rw[hROW];simp only[Array.size_append,List.size_toArray,size_zeroCells,hzs,hsz6,Zaw,hcl];omega
 have hRt:ROW.toList.take (i*6)=cs.take (i*6):=by
  rw[hROW];simp only[Array.toList_append,List.append_assoc];rw[List.take_append_of_le_length (by simp;omega),List.take_of_length_le (by simp;omega)]
 have hRo:∀x∈ROW.toList,x.oneCell'=true:=fun x hx=>by
  rw[hROW]at hx;simp only[Array.toList_append,Zaz]at hx;rcases hx with(hx|hx)|hx
  ·exact h1c x (Zbk hx)
  ·exact hzo x (q8t hx)
  ·exact hzo x (q8t hx)
 refine⟨ROW,G,hGn,hGm,hRs,hRo,hRt,?_⟩;obtain⟨W1,hW1⟩:∃W1,W1=w.drew.alloc (.cells ROW 88):=⟨_,rfl⟩;rw[←hW1]at hrz;have hN:∀j,j<(n+1)*6→(W1.cell? ⟨w.heap.size,j,none⟩).isSome=true:=fun j hj=>by
  rw[hW1,World.cell?_alloc_at (w:=w.drew) ROW _ w.heap.size j rfl,Zck (by omega)];rfl
 have hNf:∀j,W1.frozen? ⟨w.heap.size,j,none⟩=false:=fun j=>by rw[hW1];exact World.frozen?_alloc_at (w:=w.drew) ROW _ w.heap.size j rfl
 have hOb:∀j v,w.cell? ⟨b,j,none⟩=some v→W1.cell? ⟨b,j,none⟩=some v:=fun j v h=>by rw[hW1,World.cell?_alloc_past (w:=w.drew) _ b j hbw];exact h
 have hOv:∀j v,w.cell? ⟨vb,j,none⟩=some v→W1.cell? ⟨vb,j,none⟩=some v:=fun j v h=>by rw[hW1,World.cell?_alloc_past (w:=w.drew) _ vb j hvw];exact h
 have hcpA:∀(W:World),(∀x,W.cell? x=W1.cell? x)→(∀x,W.frozen? x=W1.frozen? x)→∀ty dc,(Builtin.copy_ #[23,23] ty #[.slice (some ⟨w.heap.size,i*6,none⟩) (n+1-i) dc,.slice (some ⟨vb,voff,none⟩) 1 vc]).run Tryz.prog W=.ok (goInt 1) (W.setCells w.heap.size (i*6) vs):=fun W hWc hWf ty dc=>
  q8p W _ _ ty 88 6 1 w.heap.size (i*6) (n+1-i) dc ⟨vb,voff,none⟩ 1 vc vs Tryz.underlying23 hsz (by simp only[Nat.min_def];split<;>omega) (by rw[hvl])
   (fun j v hj=>by rw[Addr.add_lit,hWc];exact hOv _ v (hvs j v hj))
   (fun j hj=>by rw[hWc];exact hN _ (by omega)) (fun j hj=>by rw[hWf];exact hNf _) h1v
 have hG63:G≤9223372036854775807:=by unfold maxLen at hGm;omega
 have hGi:¬(G=i):=by omega
 have hGim:¬(G=i+1):=by omega
 have hci:¬(c=i):=by omega
 have hbN:b≠w.heap.size:=by omega
 have hdl:(cs.drop (i*6)).length=(n-i)*6:=by rw[Zau,hcl,Nat.sub_mul]
 have hcpB:∀(W:World),(∀x,W.cell? x=(W1.setCells w.heap.size (i*6) vs).cell? x)→(∀x,W.frozen? x=(W1.setCells w.heap.size (i*6) vs).frozen? x)→∀ty dc sc,(Builtin.copy_ #[23,23] ty #[.slice (some ⟨w.heap.size,(i+1)*6,none⟩) (n+1-(i+1)) dc,.slice (some ⟨b,i*6,none⟩) (n-i) sc]).run Tryz.prog W=.ok (goInt ((n-i:Nat):Int)) (W.setCells w.heap.size ((i+1)*6) (cs.drop (i*6))):=fun W hWc hWf ty dc sc=>
  q8p W _ _ ty 88 6 (n-i) w.heap.size ((i+1)*6) (n+1-(i+1)) dc ⟨b,i*6,none⟩ (n-i) sc (cs.drop (i*6)) Tryz.underlying23 hsz (by simp only[Nat.min_def];split<;>omega) hdl
   (fun j v hj=>by
    rw[Addr.add_lit,hWc,World.cell?_setCells_out _ _ _ _ _ (fun h _=>absurd h hbN)];exact hOb _ v (hcs (i*6+j) v (by rwa [Zbx]at hj)))
   (fun j hj=>by rw[hWc];exact q8y _ _ _ _ (fun t ht=>hN _ (by omega)) _ (hN _ (by omega)))
   (fun j hj=>by rw[hWf,World.frozen?_setCells];exact hNf _) (fun v hv=>h1c v (Zbv hv))
 subst hW1;have hE1:∀x,((w.alloc (.cells ROW 88)).drew).cell? x=(w.drew.alloc (.cells ROW 88)).cell? x:=fun x=>rfl
 have hE2:∀x,((w.alloc (.cells ROW 88)).drew).frozen? x=(w.drew.alloc (.cells ROW 88)).frozen? x:=fun x=>rfl
 have hF1:∀x,(((w.alloc (.cells ROW 88)).drew.setCells w.heap.size (i*6) vs).drew).cell? x=((w.drew.alloc (.cells ROW 88)).setCells w.heap.size (i*6) vs).cell? x:=fun x=>rfl
 have hF2:∀x,(((w.alloc (.cells ROW 88)).drew.setCells w.heap.size (i*6) vs).drew).frozen? x=((w.drew.alloc (.cells ROW 88)).setCells w.heap.size (i*6) vs).frozen? x:=fun x=>rfl
 have hw1:IntKind.i64.wrap ((i:Int)+1)=(i:Int)+1:=by rw[IntKind.wrap_i64];omega
 have hw2:IntKind.i64.wrap ((n:Int)+1)=(n:Int)+1:=by rw[IntKind.wrap_i64];omega
 have hw3:IntKind.i64.wrap ((n:Int)+1-i)=(n:Int)+1-i:=by rw[IntKind.wrap_i64];omega
 have hb1:(0:Int)≤(i:Int)+1:=by omega
 have hin:i≤n:=by omega
 have htn:((i:Int)+1).toNat=i+1:=by omega
 have hb3:(i:Int)≤(n:Int):=by omega
 clear hkk hik hold hROW hG
 go_enter Tryz.func120,Tryz.ntmps120
 go_wp2_with (first
  |(at_builtin;refine Lib.wpList_append_run _ rfl _ _ _ _ rfl _ _ rfl rfl _ _ (hrz _) ?_)
  |(refine q5Q _ rfl _ _ 23 23 rfl _ _ rfl rfl (hcpA _ hE1 hE2 _ _) ?_)
  |(refine q5Q _ rfl _ _ 23 23 rfl _ _ rfl rfl (hcpB _ (fun _=>rfl) (fun _=>rfl) _ _ _) ?_))
 go_region_law_o (refine z0k rfl _ _ 23 23 rfl (.slice (some ⟨w.heap.size,(i+1)*6,none⟩) (n+1-(i+1)) (G-(i+1))) (.slice (some ⟨b,i*6,none⟩) (n-i) (c-i)) (by simp[Act.eval,Act.put]) (by simp[Act.eval,Act.put]) (hcpB _ hF1 hF2 3 (G-(i+1)) (c-i)) ?_)
 go_wp2
 go_ret
 exact⟨rfl,rfl⟩
theorem q07(b:Nat):∀(vs:List Value) (o:Nat) (w:World),(w.setCells b o vs).os=w.os∧(w.setCells b o vs).tape=w.tape∧(w.setCells b o vs).output=w.output
 |[],_,_=>⟨rfl,rfl,rfl⟩
 |v::r,o,w=>by
  have:=q07 b r (o+1) (w.setCell (at_ b o) v);exact this
theorem j18{w:World}{b o:Nat}{u:Value}(h:w.cell? (at_ b o)=some u):∃t k,w.shape? b=some (t,k)∧k≠0:=by
 simp only[World.cell?,at_]at h;split at h
 ·rename_i cs t fr hh;simp at h;have:=(Zar.1 h).1;exact⟨t,cs.size,by simp[World.shape?,hh],by omega⟩
 ·cases h
theorem fieldInfo:∃ti z,Tryz.prog.info? 88=some ti∧ti.zero=some z∧z.cells.size=ti.size∧(∀x∈z.cells.toList,x.oneCell'=true)∧ti.size=6∧ti.bytes=96:=by
 obtain⟨ti,z,h1,h2,h3,h4⟩:=z0U (P:=Tryz.prog) (e:=88) (by kernel_rfl);have h5:(Tryz.prog.info? 88).map (fun i=>(i.size,i.bytes))=some (6,96):=by kernel_rfl
 rw[h1]at h5;simp at h5;exact⟨ti,z,h1,h2,h3,h4,h5.1,h5.2⟩
theorem j2S{C xs news:List Value}{m i:Nat}(hx:C.take (m*6)=xs)(hC:(m+1)*6≤C.length)(hn:news.length=6)(hi:i≤m){C1 C2:List Value}
  (h1:C1=C.take ((i+1)*6)++xs.drop (i*6)++C.drop ((i+1)*6+(xs.drop (i*6)).length)) (h2:C2=C1.take (i*6)++news++C1.drop (i*6+news.length)):
  C2.length=C.length∧C2.take ((m+1)*6)=xs.take (i*6)++news++xs.drop (i*6)∧∀x∈C2,x∈C∨x∈news:=by
 have hxl:xs.length=m*6:=by rw[←hx,Zaw];omega
 have hdl:(xs.drop (i*6)).length=(m-i)*6:=by rw[Zau,hxl,Nat.sub_mul]
 have hmi:(i+1)*6+(m-i)*6=(m+1)*6:=by omega
 have htl:(C.take ((i+1)*6)).length=(i+1)*6:=by rw[Zaw];omega
 have e1:C1.take (i*6)=xs.take (i*6):=by
  rw[h1,List.append_assoc,List.take_append_of_le_length (by omega),List.take_take,←hx,List.take_take];congr 1;omega
 have e2:C1.drop (i*6+news.length)=xs.drop (i*6)++C.drop ((m+1)*6):=by
  have:i*6+news.length=(C.take ((i+1)*6)).length:=by omega
  rw[this,h1,List.append_assoc,List.drop_left,hdl,hmi]
 rw[e1,e2]at h2;have htl2:(xs.take (i*6)).length=i*6:=by rw[Zaw];omega
 refine⟨?_,?_,fun x hx2=>?_⟩
 ·rw[h2];simp only[Zad,htl2,hn,hdl,Zau];omega
 ·have:(m+1)*6=(xs.take (i*6)++news++xs.drop (i*6)).length:=by simp only[Zad,htl2,hn,hdl];omega
  rw[h2,←List.append_assoc,this,Zdj]
 ·have hsub:∀y∈xs,y∈C:=fun y hy=>by rw[←hx]at hy;exact Zbk hy
  rw[h2]at hx2;simp only[Zaz]at hx2;rcases hx2 with(h|h)|h|h
  ·exact .inl (hsub x (Zbk h))
  ·exact .inr h
  ·exact .inl (hsub x (Zbv h))
  ·exact .inl (Zbv h)
theorem j32{R xs news:List Value}{m i:Nat}(hx:xs.length=m*6)(hR:R.take (i*6)=xs.take (i*6))(hRl:(m+1)*6≤R.length)(hn:news.length=6)(hi:i≤m){C1 C2:List Value}
  (h1:C1=R.take (i*6)++news++R.drop (i*6+news.length)) (h2:C2=C1.take ((i+1)*6)++xs.drop (i*6)++C1.drop ((i+1)*6+(xs.drop (i*6)).length)):
  C2.length=R.length∧C2.take ((m+1)*6)=xs.take (i*6)++news++xs.drop (i*6)∧∀x∈C2,x∈R∨x∈news∨x∈xs:=by
 have hdl:(xs.drop (i*6)).length=(m-i)*6:=by rw[Zau,hx,Nat.sub_mul]
 have htl:(xs.take (i*6)).length=i*6:=by rw[Zaw];omega
 rw[hR]at h1;have hc1:C1.length=R.length:=by rw[h1];simp only[Zad,htl,hn,Zau];omega
 have e1:C1.take ((i+1)*6)=xs.take (i*6)++news:=by
  have:(i+1)*6=(xs.take (i*6)++news).length:=by simp only[Zad,htl,hn];omega
  rw[h1,this,Zdj]
 rw[e1]at h2;refine⟨?_,?_,fun x hx2=>?_⟩
 ·rw[h2];simp only[Zad,htl,hn,hdl,Zau,hc1];omega
 ·have:(m+1)*6=(xs.take (i*6)++news++xs.drop (i*6)).length:=by simp only[Zad,htl,hn,hdl];omega
  rw[h2,this,Zdj]
 ·rw[h2]at hx2;simp only[Zaz]at hx2;rcases hx2 with((h|h)|h)|h
  ·exact .inr (.inr (Zbk h))
  ·exact .inr (.inl h)
  ·exact .inr (.inr (Zbv h))
  ·have h:=Zbv h;rw[h1]at h;simp only[Zaz]at h;rcases h with(h|h)|h
   ·exact .inr (.inr (Zbk h))
   ·exact .inr (.inl h)
   ·exact .inl (Zbv h)
theorem z6J:j27 Tryz.prog 120 6:=by
 refine⟨by kernel_rfl,fun w el v m xs i vb voff vc news hown ho hi hm hne hnl hnc=>?_⟩;obtain⟨ti,z,q1,q2,q3,q4,q5,q6⟩:=fieldInfo;have hxl:xs.length=m*6:=hown.1;have hnews:∀j u,news[j]?=some u→w.cell? ⟨vb,voff+j,none⟩=some u:=fun j u hj=>(hnc j u hj).1
 have h1v:∀u∈news,u.oneCell'=true:=fun u hu=>by
  obtain⟨j,hj⟩:=Zbb hu;exact(hnc j u hj).2
 have hmax:(1048577:Nat)≤maxLen:=by simp[maxLen]
 -- at the end
 have atEnd:∀base c,v=.slice base m c→m≤c→c≤9223372036854775807→(base=none→m=0)→i=m→
   Calls Tryz.prog 120 #[v,.int .i64 i,.slice (some (at_ vb voff)) 1 vc] w fun e w'=>∃v' el',e=.returned v'∧w'.ownsRow 0 el' 6 v' (m+1) (xs.take (i*6)++news++xs.drop (i*6))∧Grow w w' v v' 0∧q7v w' v':=fun base c hv hmc hc hb him=>by
  subst him;have hsrc:Src Tryz.prog ti.size 23 (.slice (some (at_ vb voff)) 1 vc) 1 news w:=Src.ofSlice w Tryz.underlying23 (at_ vb voff) 1 vc news (by rw[q5,hnl]) (fun j u hj=>by rw[q5x];exact hnews j u hj) h1v;rw[←q5]at hown;obtain⟨v',w',el',r1,r2,r3,r4⟩:=q7p (P:=Tryz.prog) w 23 23 23 88 el ti z Tryz.underlying23 q1 q2 q3 v i xs hown _ 1 news hsrc (by omega) (by rw[q6];omega) (by omega) ho q4;refine(j2t v v' i vb voff vc w w' base c hmc hc hv hb r1).mono fun e W ⟨he,hW⟩=>?_
  subst he;subst hW;refine⟨v',el',rfl,?_,{ r3 with cells:=fun b hb j hj=>by omega },r4⟩;rw[List.take_of_length_le (by omega),List.drop_of_length_le (by omega),Zdi,←q5];exact r2
 rcases hown.2 with⟨rfl,rfl⟩|⟨g,cap,cur,rfl,_,hg,hnc2,hcm,hcs,htake⟩
 ·exact atEnd none 0 rfl (by omega) (by omega) (fun _=>rfl) (by omega)
 ·have hc63:cap≤9223372036854775807:=by simp only[maxLen]at hcm;omega
  by_cases him:i=m
  ·exact atEnd _ cap rfl hnc2 hc63 (fun h=>by cases h) him
  ·have hlt:i<m:=by omega
   have hgb:vb≠g:=fun e=>hne (by rw[e];rfl)
   have hcell:∀j u,xs[j]?=some u→w.cell? ⟨g,j,none⟩=some u:=fun j u hj=>by
    have:=hown.cells (g:=g) rfl j u hj;rw[q77]at this;exact this
   have h1c:∀u∈xs,u.oneCell'=true:=fun u hu=>by
    rw[←htake]at hu;exact ho g cur _ _ rfl hg u (Zbk hu)
   have hcl:cur.toList.length=cap*6:=by simpa using hcs
   by_cases hroom:m+1≤cap
   ·obtain⟨u,hu⟩:∃u,news[0]?=some u:=⟨_,Zal (by omega)⟩;obtain⟨tA,kA,s1,s2⟩:=j18 (hnc 0 u hu).1;refine(z8d g m cap i vb voff vc xs news w hlt hroom hc63 hgb hxl hnl hcell (fun j hj=>?_) (fun j=>by simp[World.frozen?,hg]) hnews h1c h1v tA kA s1 s2 hg).mono fun e W ⟨he,hW⟩=>?_
    ·simp only[World.cell?,hg];have:j<cur.size:=by rw[hcs];omega
     simp[this]
    ·subst he;have hdl:(xs.drop (i*6)).length=(m-i)*6:=by rw[Zau,hxl,Nat.sub_mul]
     obtain⟨c1,k1,k2⟩:=q4s g el (0,0) (xs.drop (i*6)) ((i+1)*6) w.drew cur hg (by rw[hdl,hcs];omega);have hc1:c1.size=cur.size:=by
      have:=congrArg List.length k2;simp only[Array.length_toList,Zad,Zaw,Zau,hdl]at this;have hxl':=hxl;omega
     obtain⟨c2,k3,k4⟩:=q4s g el (0,0) news (i*6) _ c1 k1 (by rw[hnl,hc1,hcs];omega);rw[←hW]at k3;obtain⟨l1,l2,l3⟩:=j2S (C:=cur.toList) (xs:=xs) (news:=news) (m:=m) (i:=i) htake (by rw[hcl];omega) hnl hi k2 k4;refine⟨_,el,rfl,⟨?_,.inr ⟨g,cap,c2,rfl,Zay _,k3,hroom,hcm,?_,l2⟩⟩,⟨?_,fun b hb hbb=>?_,fun _ _ j hj=>by omega,.inl rfl,?_,?_,?_⟩,fun b arr e2 fr hb hh x hx=>?_⟩
     ·simp only[Zad,Zaw,hdl,hnl,hxl];omega
     ·have:c2.size=cur.size:=by simpa using l1
      rw[this,hcs]
     ·rw[hW,q4v,q4v];exact Zak _
     ·have:b≠g:=fun e=>hbb (by rw[e];rfl)
      rw[hW,q3B g b this,q3B g b this];rfl
     ·rw[hW,(q07 _ _ _ _).1,(q07 _ _ _ _).1];rfl
     ·rw[hW,(q07 _ _ _ _).2.1,(q07 _ _ _ _).2.1];rfl
     ·rw[hW,(q07 _ _ _ _).2.2,(q07 _ _ _ _).2.2];rfl
     ·simp[Value.ownBlock]at hb;subst hb;rw[k3]at hh;cases hh;rcases l3 x hx with h|h
      ·exact ho g cur _ _ rfl hg x h
      ·exact h1v x h
   ·obtain⟨ROW,G,g1,g2,g3,g4,g5,hcall⟩:=z94 g m cap i vb voff vc xs news w hlt hnc2 (by omega) hm hgb hxl hnl hcell hnews h1c h1v q1 q2 q3 q4 q5 q6;refine hcall.mono fun e W ⟨he,hW⟩=>?_
    subst he;have hdl:(xs.drop (i*6)).length=(m-i)*6:=by rw[Zau,hxl,Nat.sub_mul]
    have hnew:((w.alloc (.cells ROW 88)).drew).heap[w.heap.size]?=some (.cells ROW 88 (0,0)):=q1x w _;obtain⟨c1,k1,k2⟩:=q4s w.heap.size 88 (0,0) news (i*6) _ ROW hnew (by rw[hnl,g3];omega);have hc1:c1.size=ROW.size:=by
     have:=congrArg List.length k2;simp only[Array.length_toList,Zad,Zaw,Zau,hnl]at this;omega
    obtain⟨c2,k3,k4⟩:=q4s w.heap.size 88 (0,0) (xs.drop (i*6)) ((i+1)*6) _ c1 (show(((w.alloc (.cells ROW 88)).drew.setCells w.heap.size (i*6) news).drew).heap[w.heap.size]?=_ from k1) (by rw[hdl,hc1,g3];omega);rw[←hW]at k3;have hRl:ROW.toList.length=G*6:=by simpa using g3
    obtain⟨l1,l2,l3⟩:=j32 (R:=ROW.toList) (xs:=xs) (news:=news) (m:=m) (i:=i) hxl g5 (by rw[hRl];omega) hnl hi k2 k4;refine⟨_,88,rfl,⟨?_,.inr ⟨w.heap.size,G,c2,rfl,Zay _,k3,g1,g2,?_,l2⟩⟩,⟨?_,fun b hb hbb=>?_,fun _ _ j hj=>by omega,.inr ⟨_,rfl,Zak _⟩,?_,?_,?_⟩,fun b arr e2 fr hb hh x hx=>?_⟩
    ·simp only[Zad,Zaw,hdl,hnl,hxl];omega
    ·have:c2.size=ROW.size:=by simpa using l1
     rw[this,g3]
    ·rw[hW,q4v];show _≤((w.alloc (.cells ROW 88)).drew.setCells w.heap.size (i*6) news).heap.size
     rw[q4v];show _≤(w.alloc (.cells ROW 88)).heap.size
     simp
    ·have hb':b≠w.heap.size:=by omega
     rw[hW,q3B _ b hb'];show((w.alloc (.cells ROW 88)).drew.setCells w.heap.size (i*6) news).heap[b]?=_
     rw[q3B _ b hb'];exact q11 w _ hb
    ·rw[hW,(q07 _ _ _ _).1];show((w.alloc (.cells ROW 88)).drew.setCells w.heap.size (i*6) news).os=_
     rw[(q07 _ _ _ _).1];rfl
    ·rw[hW,(q07 _ _ _ _).2.1];show((w.alloc (.cells ROW 88)).drew.setCells w.heap.size (i*6) news).tape=_
     rw[(q07 _ _ _ _).2.1];rfl
    ·rw[hW,(q07 _ _ _ _).2.2];show((w.alloc (.cells ROW 88)).drew.setCells w.heap.size (i*6) news).output=_
     rw[(q07 _ _ _ _).2.2];rfl
    ·simp[Value.ownBlock]at hb;subst hb;rw[k3]at hh;cases hh;rcases l3 x hx with h|h|h
     ·exact g4 x h
     ·exact h1v x h
     ·exact h1c x h
theorem j9c(v:Val)(hsm:v.sm 1048576=true):q0i Tryz.prog 52 [v.d] (fun r=>r=.one v.d):=
 (j9b _ v (Zak _) hsm).j8x fun r hr=>by rw[hr.data]
def setF(nm:List UInt8)(x:Val)(f:List Fld):List Fld:=if hasV nm f then f.set (posV nm f) (.mk nm x)else f.take (posV nm f)++.mk nm x::f.drop (posV nm f)
def setV(nm:List UInt8)(x v:Val):Val:=.mk v.kind v.n v.s v.l (setF nm x v.f)
theorem j34{nm:List UInt8}{f:List Fld}(h:hasV nm f=true):∃y:Fld,f[posV nm f]?=some y∧y.name=nm:=by
 unfold hasV at h;split at h
 ·rename_i y hy;exact⟨y,hy,by simpa using h⟩
 ·cases h
theorem z7b(nm:List UInt8):posV nm []=0:=rfl
theorem z1n(nm:List UInt8):hasV nm []=false:=rfl
theorem z7r:srt []:=fun i j x y _ h=>by simp at h
theorem z0c(nm:List UInt8)(x:Val):(Fld.mk nm x).d=.agg [.str nm,.int .i64 x.kind,.int .i64 x.n,.str x.s,.list (q0m x.l),.list (q0k x.f)]:=by rw[Fld.d_eq];rfl
theorem j2k(l:List Fld)(i:Nat):q0k (l.take i)=(q0k l).take i:=by simp[q5Y,List.map_take]
theorem j2j(l:List Fld)(i:Nat):q0k (l.drop i)=(q0k l).drop i:=by simp[q5Y,List.map_drop]
theorem z3t{nm:List UInt8}{x:Val}{f:List Fld}(h:hasV nm f=false):q0k (setF nm x f)=(q0k f).take (posV nm f)++.agg [.str nm,.int .i64 x.kind,.int .i64 x.n,.str x.s,.list (q0m x.l),.list (q0k x.f)]::(q0k f).drop (posV nm f):=by
 rw[setF,h,if_neg (by simp),q1M,q0k,z0c,j2k,j2j]
theorem z3u{nm:List UInt8}{x:Val}{f:List Fld}(h:hasV nm f=true):q0k (setF nm x f)=(q0k f).set (posV nm f) (.agg [.str nm,.int .i64 x.kind,.int .i64 x.n,.str x.s,.list (q0m x.l),.list (q0k x.f)]):=by
 rw[setF,h,if_pos rfl,q5Y,List.map_set,←q5Y,z0c]
theorem z6n(nm:List UInt8)(x v:Val):(setV nm x v).d=.agg [.int .i64 v.kind,.int .i64 v.n,.str v.s,.list (q0m v.l),.list (q0k (setF nm x v.f))]:=by rw[Val.d_eq];rfl
def z3D:q0g:=
 Qr [⟨some 3,.box (.t 0),none⟩,⟨some 5,.box (.t 2),none⟩,Qv 6] (Qr [Qm 9 5 3,Qj 10 52 [9],Qs 5 3 10] (Qr [Qf 12 4 3,Ql 13 12,Qc 14 1,⟨some 15,.prim .call [.k (.fn (.func 
 117) [] []),.t 13,.t 14,.k (.fn (.func 118) [] [])] [],none⟩,Qc 11 15,Qe 16 0 11,Qe 17 1 11,Qa 7 16,Qa 8 17] (.seq (Qr [Qc 18 8] (.cond (.t 18) (.dreg [Qf 19 4 3,Ql 20 
 19,Qc 21 7,Qm 22 5 5,Qj 23 52 [22],Q 24 (.ia 6 (.t 20) (.t 21)),Qf 25 1 24,Qs 5 25 23]) (.dreg [Qf 26 4 3,Ql 27 26,Qc 28 7,Qc 29 1,Qm 30 5 5,Qj 31 52 [30],Q 32 (.bld 
 [(0,1),(1,5)] [.str [],.int .i64 0,.int .i64 0,.str [],.list [],.list []] [] [(0,.t 29),(1,.t 31)]),⟨some 33,.bsl 88 6 [.t 32],none⟩,Qq 34 120 [27,28,33],Qf 35 
 4 3,Qs 1 35 34]))) (Qr [Qm 36 5 3,Qs 5 6 36] .ret))))
def z9D:List LRes:=[.cell 6 true 5]
theorem z5p:q0n Tryz.prog 77 37 z3D z9D:=⟨_,_,Tryz.func77,rfl,by kernel_rfl,by kernel_rfl,rfl⟩
theorem j47(v x:Val)(nm:List UInt8)(hs:srt v.f)(hv:v.sm 1048576=true)(hx:x.sm 1048576=true):q0i Tryz.prog 77 [v.d,.str nm,x.d] (fun r=>r=.one (setV nm x v).d):=by
 obtain⟨_,hll,hfl,hsl,hsf⟩:=Val.q1e.1 hv;have hvl:=q0H v.l;have hfl':=q0D v.f;have hcx:=j9c x hx;rw[Val.d_eq x]at hcx;refine z9C.j8x (Post:=fun r=>r.data=(setV nm x v).d) ?_ (fun r hr=>by rw[hr]);refine z5p.j6w rfl ?_;rw[Val.d_eq v,Val.d_eq x];simp(maxSteps:=2000000)only[go_sem,↓reduceIte,z3D];refine q0c.j5J (q7r.j6w (j9b _ v (Zak _) hv) (by rw[Val.d_eq];rfl) (fun r hok hr=>?_));obtain⟨X,hX,hr⟩:=hr;rcases hr with⟨hf0,rfl⟩|⟨hf0,c,rfl⟩
 ·rcases hX with⟨rfl,hl0⟩|rfl
  ·simp(maxSteps:=2000000)only[go_sem,↓reduceIte,XR.z9E];refine q0e.q0C ([]) ([]) rfl ((q8q [] nm z7r (by simp)).j9v) rfl rfl (by simp only[q0R,St.obj,aget,AObj.ren,AV.ren,AV.ren1,renL,q1P,renR,renQ,Zap,Zaq,and_true,and_self,Nat.reduceEqDiff,↓reduceIte,reduceCtorEq]) rfl rfl rfl ⟨rfl,rfl⟩ ?_;simp(maxSteps:=2000000)only[go_sem,↓reduceIte,z7b,z1n];refine q1E.of hcx ?_;simp(maxSteps:=2000000)(disch:=omega)only[go_sem,↓reduceIte]
   refine q0e.insert (k:=10) (c:=0) (i:=0) (fs:=[]) z6J rfl (.inl ⟨rfl,rfl⟩) rfl rfl rfl (by decide) (by simp) (by simp) (by simp) (fun c' h1 h2=>?_);simp(maxSteps:=2000000)(disch:=omega)only[go_sem,↓reduceIte,q5E];refine⟨.row [.d (.int .i64 v.kind),.d (.int .i64 v.n),.d (.str v.s),.ns] 6 [.agg [.str nm,.int .i64 x.kind,.int .i64 x.n,.str x.s,.list (q0m x.l),.list (q0k x.f)]] c',10,rfl,(fun _ _ _ _ h=>by cases h;rfl),⟨by simp[AV.dns],by simp[D.cells],by simpa using h1,h2⟩,?_⟩;rw[z6n,hf0,hl0,z3t (z1n nm)];rfl
  ·simp(maxSteps:=2000000)only[go_sem,↓reduceIte,XR.z9E];refine q0e.q0C ([]) ([]) rfl ((q8q [] nm z7r (by simp)).j9v) rfl rfl (by simp only[q0R,St.obj,aget,AObj.ren,AV.ren,AV.ren1,renL,q1P,renR,renQ,Zap,Zaq,and_true,and_self,Nat.reduceEqDiff,↓reduceIte,reduceCtorEq]) rfl rfl rfl ⟨rfl,rfl⟩ ?_;simp(maxSteps:=2000000)only[go_sem,↓reduceIte,z7b,z1n];refine q1E.of hcx ?_;simp(maxSteps:=2000000)(disch:=omega)only[go_sem,↓reduceIte]
   refine q0e.insert (k:=10) (c:=0) (i:=0) (fs:=[]) z6J rfl (.inl ⟨rfl,rfl⟩) rfl rfl rfl (by decide) (by simp) (by simp) (by simp) (fun c' h1 h2=>?_);simp(maxSteps:=2000000)(disch:=omega)only[go_sem,↓reduceIte,q5E];refine⟨.row [.d (.int .i64 v.kind),.d (.int .i64 v.n),.d (.str v.s),.d (.list (q0m v.l))] 6 [.agg [.str nm,.int .i64 x.kind,.int .i64 x.n,.str x.s,.list (q0m x.l),.list (q0k x.f)]] c',10,rfl,(fun _ _ _ _ h=>by cases h;rfl),⟨by simp[AV.dns],by simp[D.cells],by simpa using h1,h2⟩,?_⟩;rw[z6n,hf0,z3t (z1n nm)]
   rfl
 ·rcases hX with⟨rfl,hl0⟩|rfl
  ·simp(maxSteps:=2000000)only[go_sem,↓reduceIte,XR.z9E];refine q0e.j3q (k:=10) (sz:=6) (c:=c) (fs:=q0k v.f) rfl rfl rfl (q1j _) hok.2.2.1 rfl (q8q v.f nm hs hfl) rfl ?_;simp(maxSteps:=2000000)only[go_sem,↓reduceIte];refine⟨fun hh=>?_,fun hh=>?_⟩
   ·refine q1E.of hcx ?_;simp(maxSteps:=2000000)(disch:=omega)only[go_sem,↓reduceIte];obtain⟨y,hy,hyn⟩:=j34 hh;have hlt:=(Zac.1 hy).1;have hrow:=q9P (q1j v.f) hok.2.2.1;have hset:=j1K (sz:=6) (c:=c) (i:=posV nm v.f) (a:=.str nm) (xs:=[.int .i64 y.v.kind,.int .i64 y.v.n,.str y.v.s,.list (q0m y.v.l),.list (q0k y.v.f)]) (q1j v.f) (by rw[q0K,hy];simp only[Zax];rw[Fld.d_eq,hyn]) (ys:=[.int .i64 x.kind,.int .i64 x.n,.str x.s,.list (q0m x.l),.list (q0k x.f)]) rfl
    refine⟨⟨by omega,by omega⟩,?_,?_⟩
    ·rw[hrow,Zbw];have:=hok.2.2.1;omega
    ·refine⟨.row [.d (.int .i64 v.kind),.d (.int .i64 v.n),.d (.str v.s),.ns] 6 ((q0k v.f).set (posV nm v.f) (.agg [.str nm,.int .i64 x.kind,.int .i64 x.n,.str x.s,.list (q0m x.l),.list (q0k x.f)])) c,10,?_,(fun _ _ _ _ h=>by cases h;rw[←hset];rfl),⟨by simp[AV.dns],?_,by rw[List.length_set];exact hok.2.2.1,hok.2.2.2⟩,?_⟩
     ·show _=some (AV.sx _)
      rw[List.length_set];rfl
     ·rw[←z3u hh];exact q1j _
     ·rw[z6n,hl0,z3u hh];rfl
   ·refine q1E.of hcx ?_;simp(maxSteps:=2000000)(disch:=omega)only[go_sem,↓reduceIte];refine q0e.insert (k:=10) (c:=c) (i:=posV nm v.f) (fs:=q0k v.f) z6J rfl (.inr ⟨rfl,rfl,hok.2.2.1,hok.2.2.2⟩) rfl rfl rfl (by decide) (q1j _) (by rw[hfl'];exact z0M _ _) (by omega) (fun c' h1 h2=>?_);simp(maxSteps:=2000000)(disch:=omega)only[go_sem,↓reduceIte,q5E];have hins:=z3t (x:=x) hh
    refine⟨.row [.d (.int .i64 v.kind),.d (.int .i64 v.n),.d (.str v.s),.ns] 6 (q0k (setF nm x v.f)) c',10,?_,(fun _ _ _ _ h=>by cases h;rw[hins];rfl),⟨by simp[AV.dns],q1j _,?_,h2⟩,?_⟩
    ·have hl:(q0k (setF nm x v.f)).length=(q0k v.f).length+1:=by
      rw[hins,Zad,Zae,Zaw,Zau];have:=z0M nm v.f;omega
     show _=some (AV.sx _)
     rw[hl];rfl
    ·rw[hins,Zad,Zae,Zaw,Zau];have:=z0M nm v.f;omega
    ·rw[z6n,hl0];rfl
  ·simp(maxSteps:=2000000)only[go_sem,↓reduceIte,XR.z9E];refine q0e.j3q (k:=10) (sz:=6) (c:=c) (fs:=q0k v.f) rfl rfl rfl (q1j _) hok.2.2.1 rfl (q8q v.f nm hs hfl) rfl ?_;simp(maxSteps:=2000000)only[go_sem,↓reduceIte];refine⟨fun hh=>?_,fun hh=>?_⟩
   ·refine q1E.of hcx ?_;simp(maxSteps:=2000000)(disch:=omega)only[go_sem,↓reduceIte];obtain⟨y,hy,hyn⟩:=j34 hh;have hlt:=(Zac.1 hy).1;have hrow:=q9P (q1j v.f) hok.2.2.1;have hset:=j1K (sz:=6) (c:=c) (i:=posV nm v.f) (a:=.str nm) (xs:=[.int .i64 y.v.kind,.int .i64 y.v.n,.str y.v.s,.list (q0m y.v.l),.list (q0k y.v.f)]) (q1j v.f) (by rw[q0K,hy];simp only[Zax];rw[Fld.d_eq,hyn]) (ys:=[.int .i64 x.kind,.int .i64 x.n,.str x.s,.list (q0m x.l),.list (q0k x.f)]) rfl
    refine⟨⟨by omega,by omega⟩,?_,?_⟩
    ·rw[hrow,Zbw];have:=hok.2.2.1;omega
    ·refine⟨.row [.d (.int .i64 v.kind),.d (.int .i64 v.n),.d (.str v.s),.d (.list (q0m v.l))] 6 ((q0k v.f).set (posV nm v.f) (.agg [.str nm,.int .i64 x.kind,.int .i64 x.n,.str x.s,.list (q0m x.l),.list (q0k x.f)])) c,10,?_,(fun _ _ _ _ h=>by cases h;rw[←hset];rfl),⟨by simp[AV.dns],?_,by rw[List.length_set];exact hok.2.2.1,hok.2.2.2⟩,?_⟩
     ·show _=some (AV.sx _)
      rw[List.length_set];rfl
     ·rw[←z3u hh];exact q1j _
     ·rw[z6n,z3u hh];rfl
   ·refine q1E.of hcx ?_;simp(maxSteps:=2000000)(disch:=omega)only[go_sem,↓reduceIte];refine q0e.insert (k:=10) (c:=c) (i:=posV nm v.f) (fs:=q0k v.f) z6J rfl (.inr ⟨rfl,rfl,hok.2.2.1,hok.2.2.2⟩) rfl rfl rfl (by decide) (q1j _) (by rw[hfl'];exact z0M _ _) (by omega) (fun c' h1 h2=>?_);simp(maxSteps:=2000000)(disch:=omega)only[go_sem,↓reduceIte,q5E];have hins:=z3t (x:=x) hh
    refine⟨.row [.d (.int .i64 v.kind),.d (.int .i64 v.n),.d (.str v.s),.d (.list (q0m v.l))] 6 (q0k (setF nm x v.f)) c',10,?_,(fun _ _ _ _ h=>by cases h;rw[hins];rfl),⟨by simp[AV.dns],q1j _,?_,h2⟩,?_⟩
    ·have hl:(q0k (setF nm x v.f)).length=(q0k v.f).length+1:=by
      rw[hins,Zad,Zae,Zaw,Zau];have:=z0M nm v.f;omega
     show _=some (AV.sx _)
     rw[hl];rfl
    ·rw[hins,Zad,Zae,Zaw,Zau];have:=z0M nm v.f;omega
    ·rw[z6n];rfl
def leqB(a b:List UInt8):Bool:=Op.bytesLess a b || decide (a=b)
def q5X(nm:List UInt8)(x:Val):Bool→List Fld→List Fld
 |laid,[]=>if laid then[]else[.mk nm x]
 |laid,y::r=>(if !laid&&leqB nm y.name then[.mk nm x]else[])++((if y.name=nm then[]else[y])++q5X nm x (laid || leqB nm y.name) r)
theorem q85:q3g Tryz.prog 88=true:=by kernel_rfl
theorem mk_d(k n:Int)(s:List UInt8)(l:List Val)(f:List Fld):(Val.mk k n s l f).d=.agg [.int .i64 k,.int .i64 n,.str s,.list (q0m l),.list (q0k f)]:=by rw[Val.d_eq];rfl
def q5S:q0g:=
 Qr [⟨some 3,.box (.t 0),none⟩,⟨some 5,.box (.t 2),none⟩,Qv 6] (Qr [⟨some 7,.nils 88 6,none⟩] (Qr [Qx 8 KF] (.seq (Qr [Qx 9 (Ki 0)] (.block 0 (.loop (.seq (Qr [Qc 10 9,Qf 
 11 4 3,Ql 12 11,Qz 13 false 12,Qb 14 .lss 10 13] (.cond (.t 14) .skip (.exit 0))) (.seq (.block 1 (.seq (Qr [Qc 17 8,Qh 18 17,Qc 19 18,Qd 20 1 19 true,Qg 21 (.fa 4 (.t 3)) 
 19 true,Qg 22 (.ld false 1 (.t 21)) 19 true,Qd 23 9 19 true,Qg 24 (.ia 6 (.t 22) (.t 23)) 19 true,Qg 25 (.fa 0 (.t 24)) 19 true,Qg 26 (.ld false 1 (.t 25)) 19 true,Qg 27 
 (.bin .leq (.t 20) (.t 26)) 19 true,Qp 28 19 27] (.cond (.t 28) (Qr [Qc 29 7,Qc 30 1,Qm 31 5 5,Q 32 (.bld [(0,1),(1,5)] [.str [],.int .i64 0,.int .i64 0,.str [],.list 
 [],.list []] [] [(0,.t 30),(1,.t 31)]),⟨some 33,.bsl 88 6 [.t 32],none⟩,⟨some 34,.prim (.bi .append [23,23]) [.t 29,.t 33] [],none⟩,Qa 7 34] (.reg [Qx 8 KT])) 
 .skip)) (Qr [Qf 35 4 3,Ql 36 35,Qc 37 9,Q 38 (.ia 6 (.t 36) (.t 37)),Qf 39 0 38,Ql 40 39,Qc 41 1,Qb 42 .neq 40 41] (.cond (.t 42) (.reg [Qc 43 7,Qf 44 4 3,Ql 45 44,Qc 
 46 9,Q 47 (.ia 6 (.t 45) (.t 46)),Qm 48 6 47,⟨some 49,.bsl 88 6 [.t 48],none⟩,⟨some 50,.prim (.bi .append [23,23]) [.t 43,.t 49] [],none⟩,Qa 7 50]) .skip)))) (.reg [Qc 
 15 9,Qk 16 .add 15 1,Qa 9 16])))))) (.seq (Qr [Qc 51 8,Qh 52 51] (.cond (.t 52) (.reg [Qc 53 7,Qc 54 1,Qm 55 5 5,Q 56 (.bld [(0,1),(1,5)] [.str [],.int .i64 0,.int 
 .i64 0,.str [],.list [],.list []] [] [(0,.t 54),(1,.t 55)]),⟨some 57,.bsl 88 6 [.t 56],none⟩,⟨some 58,.prim (.bi .append [23,23]) [.t 53,.t 57] [],none⟩,Qa 7 58]) 
 .skip)) (Qr [Qc 59 7,Qf 60 4 3,Qs 1 60 59] (Qr [Qm 61 5 3,Qs 5 6 61] .ret))))))
def q5U:List LRes:=[.cell 6 true 5]
theorem q8e:q0n Tryz.prog 142 62 q5S q5U:=⟨_,_,Tryz.func142,rfl,by kernel_rfl,by kernel_rfl,rfl⟩
theorem j48(v x:Val)(nm:List UInt8)(hf:v.f.length≤1048576):q0i Tryz.prog 142 [v.d,.str nm,x.d] (fun r=>r=.one (Val.mk v.kind v.n v.s v.l (q5X nm x false v.f)).d):=by
 have hfl':=q0D v.f;generalize hR:q5X nm x false v.f=R;rw[mk_d,Val.d_eq v,Val.d_eq x];refine q8e.call rfl ?_;simp(maxSteps:=2000000)only[go_sem,↓reduceIte,q5S,q5U];refine q0f (fun y:Nat×Bool×List Fld=>⟨[(1,.d (.str nm)),(3,.ptr (.l 3) 0),(5,.ptr (.l 5) 0),(6,.ptr (.l 6) 0),(7,.own (.t 7) 88 6 (q0k y.2.2)),(8,.d (.bool y.2.1)),(9,.d (.int .i64 y.1))],
   [(3,.cells [.d (.int .i64 (v.kind)),.d (.int .i64 v.n),.d (.str v.s),.d (.list (q0m v.l)),.d (.list (q0k v.f))]),
    (5,.cells [.d (.int .i64 x.kind),.d (.int .i64 x.n),.d (.str x.s),.d (.list (q0m x.l)),.d (.list (q0k x.f))]),
    (6,.cells [.d (.int .i64 0),.d (.int .i64 0),.d (.str []),.ns,.ns])],[]⟩)
  (fun y=>y.1≤v.f.length∧y.2.2.length≤y.1+(if y.2.1=true then 1 else 0)∧y.2.2++q5X nm x y.2.1 (v.f.drop y.1)=R) (fun y=>v.f.length-y.1) (0,false,[]) ?_ ?_ ?_
 ·refine Weak.mk ?_ ?_ ?_<;>simp(maxSteps:=2000000)only[go_sem,↓reduceIte,Sub,Zaa,Zab,q0k]
 ·exact⟨by simp,by simp,by simpa using hR⟩
 ·rintro⟨i,b,acc⟩ ⟨hi,hl,hF⟩;simp only at hi hl hF;have hal:=q0D acc;have done:∀(b:Bool) (acc:List Fld),acc.length≤v.f.length+1→acc++q5X nm x b []=R→(b=true→acc=R)∧(b=false→acc++[.mk nm x]=R):=fun b acc _ h=>⟨fun e=>by rw[e]at h;simpa[q5X]using h,fun e=>by rw[e]at h;simpa[q5X]using h⟩
  by_cases hlt:i<v.f.length
  ·obtain⟨y,hy⟩:=get_some (l:=v.f) (i:=i) hlt;rw[q0W hy,q5X]at hF;cases b<;>simp only[if_true,if_false,Zao]at hl
   ·simp(maxSteps:=2000000)only[go_sem,↓reduceIte,hfl'];have hlt':(i:Int)<(v.f.length:Int):=by omega
    simp(maxSteps:=2000000)(disch:=omega)only[go_sem,↓reduceIte,hlt',q0a,q0K,hy,Fld.d_eq];refine⟨fun w1=>?_,fun w1=>⟨fun w2=>?_,fun w2=>?_⟩⟩
    ·have w1':leqB nm y.name=true:=w1;refine q0e.z3Q q8b q85 z0x rfl rfl (by simp only[Zad,Zae,Zag,hal];omega) ?_;simp(maxSteps:=2000000)(disch:=omega)only[go_sem,↓reduceIte,q0a,q0K,hy,Fld.d_eq];refine⟨fun w2=>?_,fun w2=>?_⟩
     ·refine q0e.z3Q q8b q85 z0x rfl rfl (by simp only[Zad,Zae,Zag,hal];omega) ?_;simp(maxSteps:=2000000)(disch:=omega)only[go_sem,↓reduceIte];refine⟨(i+1,true,acc++[.mk nm x]++[y]),?_,⟨by simp only;omega,by simp only[Zad,Zae,Zag,if_true,if_false,Zao];omega,?_⟩,by simp only;omega⟩
      ·refine Weak.mk ?_ ?_ ?_<;>simp(maxSteps:=2000000)only[go_sem,↓reduceIte,Sub,Zaa,Zab,q1M,q0k,z0c,Fld.d_eq y,List.append_assoc]
      ·simp only[w1',if_neg w2,Zcp,Zcm,Zcn,Zcq,Zdc,Bool.true_or,if_true,if_false,Zao,List.append_assoc,Zbj,Zbe]at hF ⊢;exact hF
     ·refine⟨(i+1,true,acc++[.mk nm x]),?_,⟨by simp only;omega,by simp only[Zad,Zae,Zag,if_true,if_false,Zao];omega,?_⟩,by simp only;omega⟩
      ·refine Weak.mk ?_ ?_ ?_<;>simp(maxSteps:=2000000)only[go_sem,↓reduceIte,Sub,Zaa,Zab,q1M,q0k,z0c,Fld.d_eq y,List.append_assoc]
      ·simp only[w1',if_pos w2,Zcp,Zcm,Zcn,Zcq,Zdc,Bool.true_or,if_true,if_false,Zao,List.append_assoc,Zbj,Zbe]at hF ⊢;exact hF
    ·have w1':leqB nm y.name=false:=by simpa[leqB]using w1
     refine q0e.z3Q q8b q85 z0x rfl rfl (by simp only[Zad,Zae,Zag,hal];omega) ?_;simp(maxSteps:=2000000)(disch:=omega)only[go_sem,↓reduceIte];refine⟨(i+1,false,acc++[y]),?_,⟨by simp only;omega,by simp only[Zad,Zae,Zag,if_true,if_false,Zao];omega,?_⟩,by simp only;omega⟩
     ·refine Weak.mk ?_ ?_ ?_<;>simp(maxSteps:=2000000)only[go_sem,↓reduceIte,Sub,Zaa,Zab,q1M,q0k,z0c,Fld.d_eq y,List.append_assoc]
     ·simp only[w1',if_neg w2,Zcp,Zcm,Zcn,Zcq,Zdc,Bool.true_or,if_true,if_false,Zao,List.append_assoc,Zbj,Zbe]at hF ⊢;exact hF
    ·have w1':leqB nm y.name=false:=by simpa[leqB]using w1
     refine⟨(i+1,false,acc),?_,⟨by simp only;omega,by simp only[Zad,Zae,Zag,if_true,if_false,Zao];omega,?_⟩,by simp only;omega⟩
     ·refine Weak.mk ?_ ?_ ?_<;>simp(maxSteps:=2000000)only[go_sem,↓reduceIte,Sub,Zaa,Zab,q1M,q0k,z0c,Fld.d_eq y,List.append_assoc]
     ·simp only[w1',if_pos w2,Zcp,Zcm,Zcn,Zcq,Zdc,Bool.true_or,if_true,if_false,Zao,List.append_assoc,Zbj,Zbe]at hF ⊢;exact hF
   ·simp(maxSteps:=2000000)only[go_sem,↓reduceIte,hfl'];have hlt':(i:Int)<(v.f.length:Int):=by omega
    simp(maxSteps:=2000000)(disch:=omega)only[go_sem,↓reduceIte,hlt',q0a,q0K,hy,Fld.d_eq];refine⟨fun w2=>?_,fun w2=>?_⟩
    ·refine q0e.z3Q q8b q85 z0x rfl rfl (by simp only[Zad,Zae,Zag,hal];omega) ?_;simp(maxSteps:=2000000)(disch:=omega)only[go_sem,↓reduceIte];refine⟨(i+1,true,acc++[y]),?_,⟨by simp only;omega,by simp only[Zad,Zae,Zag,if_true,if_false,Zao];omega,?_⟩,by simp only;omega⟩
     ·refine Weak.mk ?_ ?_ ?_<;>simp(maxSteps:=2000000)only[go_sem,↓reduceIte,Sub,Zaa,Zab,q1M,q0k,z0c,Fld.d_eq y,List.append_assoc]
     ·simp only[if_neg w2,Zcp,Zcm,Zcn,Zcq,Zdc,Bool.true_or,if_true,if_false,Zao,List.append_assoc,Zbj,Zbe]at hF ⊢;exact hF
    ·refine⟨(i+1,true,acc),?_,⟨by simp only;omega,by simp only[Zad,Zae,Zag,if_true,if_false,Zao];omega,?_⟩,by simp only;omega⟩
     ·refine Weak.mk ?_ ?_ ?_<;>simp(maxSteps:=2000000)only[go_sem,↓reduceIte,Sub,Zaa,Zab,q1M,q0k,z0c,Fld.d_eq y,List.append_assoc]
     ·simp only[if_pos w2,Zcp,Zcm,Zcn,Zcq,Zdc,Bool.true_or,if_true,if_false,Zao,List.append_assoc,Zbj,Zbe]at hF ⊢;exact hF
  ·simp(maxSteps:=2000000)only[go_sem,↓reduceIte,hfl'];have hlt':¬(i:Int)<(v.f.length:Int):=by omega
   simp(maxSteps:=2000000)(disch:=omega)only[go_sem,↓reduceIte,hlt'];rw[Zai (by omega)]at hF;have hl2:acc.length≤i+1:=by revert hl;split<;>omega
   obtain⟨d1,d2⟩:=done b acc (by omega) hF;cases b
   ·simp(maxSteps:=2000000)only[go_sem,↓reduceIte];refine q0e.z3Q q8b q85 z0x rfl rfl (by simp only[Zad,Zae,Zag,hal];omega) ?_;simp(maxSteps:=2000000)(disch:=omega)only[go_sem,↓reduceIte];rw[←d2 rfl,q1M,q0k,z0c,q0k]
   ·simp(maxSteps:=2000000)only[go_sem,↓reduceIte];rw[←d1 rfl]
/-! ### Names, strings -/
def q7S:List UInt8→List UInt8→Option (List UInt8)
 |[],b=>some b
 |c::r,b=>
  if c.toNat=35 then
   match r with
   |x::y::q=>if hexI x.toNat<0∨hexI y.toNat<0 then none else q7S q (b++[q46 (16*hexI x.toNat+hexI y.toNat)])
   |_=>none
  else q7S r (b++[c])
def octB(c:UInt8):Bool:=decide (48≤c.toNat)&&decide (c.toNat≤55)
def oct1(e:UInt8):Int:=(e.toNat:Int)-48
def octG:Nat→Int→List UInt8→Nat→Int×Nat
 |0,v,_,k=>(v,k)
 |_+1,v,[],k=>(v,k)
 |m+1,v,x::q,k=>if octB x=true then octG m (8*v+oct1 x) q (k+1)else(v,k)
theorem z4v{m:Nat}{v:Int}{t:List UInt8}{k:Nat}(h:∀x q,t=x::q→octB x=false):octG m v t k=(v,k):=by
 match m,t with
 |0,_=>rfl
 |m+1,[]=>rfl
 |m+1,x::q=>rw[octG,if_neg (by simp[h x q rfl])]
def octL(e:UInt8)(r:List UInt8):Option UInt8×Nat:=(some (q46 (octG 2 (oct1 e) r 1).1),(octG 2 (oct1 e) r 1).2)
def escL:List UInt8→Option UInt8×Nat
 |[]=>(none,1)
 |e::r=>
  if e.toNat=110 then(some 10,1)else if e.toNat=114 then(some 13,1)else if e.toNat=116 then(some 9,1)else if e.toNat=98 then(some 8,1)else if e.toNat=102 then(some 12,1)
  else if e.toNat=10 then(none,1)
  else if e.toNat=13 then(if r.head?.map UInt8.toNat=some 10 then(none,2)else(none,1))
  else if octB e=false then(some e,1)
  else octL e r
def litF:Nat→Nat→List UInt8→List UInt8→Nat→Option (List UInt8×Nat)
 |_,_,[],_,_=>none
 |k+1,d,_::r,b,p=>litF k d r b (p+1)
 |0,d,c::r,b,p=>
  if c.toNat=92 then(if r=[]then none else litF (escL r).2 d r (b++(escL r).1.toList) (p+1))
  else if c.toNat=41 then(if d≤1 then some (b,p+1)else litF 0 (d-1) r (b++[c]) (p+1))
  else if c.toNat=40 then litF 0 (d+1) r (b++[c]) (p+1)
  else litF 0 d r (b++[c]) (p+1)
theorem z4o:∀(k:Nat) {d:Nat} {t b:List UInt8} {p:Nat},k≤t.length→litF k d t b p=litF 0 d (t.drop k) b (p+k)
 |0,_,_,_,_,_=>rfl
 |k+1,d,[],b,p,h=>by simp at h
 |k+1,d,c::r,b,p,h=>by
  rw[litF,z4o k (by simpa using h),List.drop_succ_cons];congr 1;omega
/-! ### Values -/
inductive RV where
 |ok (v:Val) (k:Nat)
 |bad (e:Nat)
def numV(n:Int):Val:=.mk 2 n [] [] []
def strV(s:List UInt8):Val:=.mk 3 0 s [] []
def namV(s:List UInt8):Val:=.mk 4 0 s [] []
def lisV(l:List Val):Val:=.mk 5 0 [] l []
def dicV(f:List Fld):Val:=.mk 6 0 [] [] f
def digF:List UInt8→Nat→Option Nat
 |[],n=>some n
 |c::r,n=>if c.toNat<48∨57<c.toNat then none else digF r (10*n+(c.toNat-48))
def objF(w:List UInt8):Option Nat:=
 if w.length<1∨2<w.length∨w.head?.map UInt8.toNat=some 48 then none
 else match digF w 0 with
  |none=>none
  |some n=>if n≤60 then some n else none
def z3e(s:List UInt8)(at_:Nat):Option (Nat×Nat):=
 match objF (q0p s at_)with
 |none=>none
 |some n=>
  let i:=q0l s (at_+(q0p s at_).length)
  if q0p s i=[48]then
   let j:=q0l s (i+1)
   if q0p s j=[82]then some (n,j+1)else none
  else none
def j4m(s:List UInt8)(at_:Nat):RV:=
 match litF 0 1 (s.drop at_) [] at_ with
 |none=>.bad 5
 |some (b,k)=>if b.length≤200 then .ok (strV b) k else .bad 2
def z9X(s:List UInt8)(at_:Nat):RV:=
 if(q1i (s.drop at_) (-1) []).2=0 then(if(q1i (s.drop at_) (-1) []).1.length≤200 then .ok (strV (q1i (s.drop at_) (-1) []).1) (at_+q89 (s.drop at_))else .bad 2)
 else .bad (q1i (s.drop at_) (-1) []).2
def q5W(s:List UInt8)(at_:Nat):Option (List UInt8×Nat):=
 match q7S (q0p s (at_+1)) []with
 |none=>none
 |some b=>if q1C b=true then some (b,at_+1+(q0p s (at_+1)).length)else none
def j0X(s:List UInt8)(at_:Nat):RV:=
 if q0p s at_=[110,117,108,108]then .ok zeroV (at_+4)
 else if q0p s at_=[116,114,117,101]then .ok (.mk 1 1 [] [] []) (at_+4)
 else if q0p s at_=[102,97,108,115,101]then .ok (.mk 1 0 [] [] []) (at_+5)
 else match z3e s at_ with
  |some (n,k)=>.ok (.mk 7 n [] [] []) k
  |none=>if(q6E (q0p s at_)).2=0 then .ok (numV (q6E (q0p s at_)).1) (at_+(q0p s at_).length)else .bad (q6E (q0p s at_)).2
def q7P(rd:Nat→RV)(s:List UInt8):Nat→List Val→Nat→RV
 |0,_,_=>.bad 2
 |m+1,acc,at_=>
  match s[q0l s at_]? with
  |none=>.bad 5
  |some c=>
   if c.toNat=93 then .ok (lisV acc) (q0l s at_+1)
   else match rd (q0l s at_)with
    |.bad e=>.bad e
    |.ok x k=>q7P rd s m (acc++[x]) k
def q7B(rd:Nat→RV)(s:List UInt8):Nat→List Fld→Nat→RV
 |0,_,_=>.bad 2
 |m+1,acc,at_=>
  match s[q0l s at_]? with
  |none=>.bad 5
  |some c=>
   if c.toNat=62∧s[q0l s at_+1]?=some 62 then .ok (dicV acc) (q0l s at_+2)
   else if c.toNat≠47 then .bad 4
   else match q5W s (q0l s at_)with
    |none=>.bad 4
    |some (nm,k)=>match rd k with
     |.bad e=>.bad e
     |.ok x k'=>if(getV nm acc).isSome=true then .bad 3 else q7B rd s m (setF nm x acc) k'
def q57:Nat→List UInt8→Nat→RV
 |d,s,at_=>
  match s[q0l s at_]? with
  |none=>.bad 5
  |some c=>
   match d with
   |0=>.bad 2
   |d+1=>
    if c.toNat=47 then(match q5W s (q0l s at_)with
     |none=>.bad 4
     |some (b,k)=>.ok (namV b) k)
    else if c.toNat=40 then j4m s (q0l s at_+1)
    else if c.toNat=60∧s[q0l s at_+1]?=some 60 then q7B (q57 d s) s 301 [] (q0l s at_+2)
    else if c.toNat=60 then z9X s (q0l s at_+1)
    else if c.toNat=91 then q7P (q57 d s) s 301 [] (q0l s at_+1)
    else if q9w c=true then .bad 4
    else j0X s (q0l s at_)
def q3l(s:List UInt8)(at_:Int):RV:=
 if 60000<s.length∨at_<0∨(s.length:Int)<at_ then .bad 1
 else match q57 8 s at_.toNat with
  |.bad e=>.bad e
  |.ok v k=>if q4q v=0 then .ok v k else .bad (q4q v)
/-! ### What is set is set as the document has it -/
theorem j1Y{y:Fld}{r:List Fld}(h:srt (y::r)):srt r∧∀z∈r,Op.bytesLess y.name z.name=true:=
 ⟨fun i j a b hij ha hb=>h (i+1) (j+1) a b (by omega) (by simpa using ha) (by simpa using hb),fun z hz=>by
  obtain⟨i,hi⟩:=Zbb hz;exact h 0 (i+1) y z (by omega) rfl (by simpa using hi)⟩
theorem z0O{nm:List UInt8}{x:Val}:∀{l:List Fld},(∀z∈l,z.name≠nm)→q5X nm x true l=l
 |[],_=>by simp[q5X]
 |y::r,h=>by
  have h1:=h y (by simp);simp[q5X,h1,z0O (l:=r) fun z hz=>h z (by simp[hz])]
theorem j1i(a b:List UInt8):leqB a b = !Op.bytesLess b a:=q6U a b
theorem z84{nm:List UInt8}{x:Val}:∀{l:List Fld},srt l→q5X nm x false l=setF nm x l
 |[],_=>by simp[q5X,setF,z1n,z7b]
 |y::r,h=>by
  obtain⟨h1,h2⟩:=j1Y h;have hq:=j1i nm y.name;cases hl:Op.bytesLess y.name nm with
  |true=>
   rw[hl]at hq;have hne:y.name≠nm:=fun e=>by rw[e,z3n]at hl;cases hl
   have ih:=z84 (nm:=nm) (x:=x) h1;have hp:posV nm (y::r)=posV nm r+1:=by simp[posV,hl]
   have hh:hasV nm (y::r)=hasV nm r:=by simp[hasV,hp]
   simp only[q5X,hq,Zcm,Bool.and_false,Zdc,if_neg hne,Zao,if_false,Zbj,Zbe,ih];simp only[setF,hh,hp];split<;>simp
  |false=>
   rw[hl]at hq;have hp:posV nm (y::r)=0:=by simp[posV,hl]
   by_cases he:y.name=nm
   ·have hl2:=z0O (nm:=nm) (x:=x) (l:=r) fun z hz e=>by
     have:=h2 z hz;rw[e,he,z3n]at this;cases this
    have hh:hasV nm (y::r)=true:=by simp[hasV,hp,he]
    rw[he]at hq;simp[q5X,hq,he,hl2,setF,hh,hp]
   ·have hlt:Op.bytesLess nm y.name=true:=by
     have:=hq;simp only[leqB,Zcp,Zcc,decide_eq_true_eq]at this;rcases this with h|h
     ·exact h
     ·exact absurd h.symm he
    have hl2:=z0O (nm:=nm) (x:=x) (l:=r) fun z hz e=>by
     have:=q7E hlt (h2 z hz);rw[e,z3n]at this;cases this
    have hh:hasV nm (y::r)=false:=by simp[hasV,hp,he]
    simp[q5X,hq,he,hl2,setF,hh,hp]
theorem z3O(a:Val):q6k a a=true:=(q7z a a).2 rfl
theorem z7n{nm:List UInt8}{x:Val}{f:List Fld}{y:Fld}(h:y∈setF nm x f):y=.mk nm x∨y∈f:=by
 unfold setF at h;split at h
 ·rcases List.mem_or_eq_of_mem_set h with h|h
  ·exact .inr h
  ·exact .inl h
 ·rcases Zaz.1 h with h|h
  ·exact .inr (Zbk h)
  ·rcases Zba.1 h with h|h
   ·exact .inl h
   ·exact .inr (Zbv h)
end Go.Av.Tryz
