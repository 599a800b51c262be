import Derived.Test.YtfkdhlghpjbbpaaGreatDoorWd
import Derived.Test.YtfkdhlghpjbbpaaGreatDoorWe
import Derived.Test.YtfkdhlghpjbbpaaGreatDoorAvI
import Derived.Test.YtfkdhlghpjbbpaaGreatDoorAvJ
import Derived.Test.YtfkdhlghpjbbpaaGreatDoorWa
import Derived.Test.YtfkdhlghpjbbpaaGreatDoorAvG
set_option linter.unusedSimpArgs false
set_option maxRecDepth 100000
set_option maxHeartbeats 8000000
namespace Go.Av.Tryz
open Go.Proofs
theorem j6V:q0s Tryz.prog 24 [.str z5w] (fun r=>r=.tup [opsD z2U,.nil]):=by
 have h:=z3J z5w (by decide) (by unfold Flt z5w; decide); rw[show j1r (opqP z5w)=.tup [opsD z2U,.nil] by kernel_rfl]at h; exact h
theorem j1D:∀ p∈z7R,p.2.ok:=fun p hp=>by
 simp[z7R]at hp; subst hp; exact⟨fun s h=>by simp at h,by simp,fun p h=>by simp at h⟩
theorem j1E:∀ o∈z2U,o.ok:=fun o ho=>by
 simp[z2U]at ho; rcases ho with rfl|rfl|rfl|rfl
 ·exact⟨by simp,fun v h=>by simp at h⟩
 ·refine⟨by simp,fun v h=>?_⟩; simp at h; rcases h with rfl|rfl
  ·exact⟨by simp[namW,Val.s],fun h=>by simp[namW,Val.kind]at h,by simp[namW,Val.l],fun w h=>by simp[namW,Val.l]at h⟩
  ·exact⟨by simp[numW,Val.s],fun _=>by simp only[numW,Val.n]; decide,by simp[numW,Val.l],fun w h=>by simp[numW,Val.l]at h⟩
 ·refine⟨by simp,fun v h=>?_⟩; simp at h; subst h; exact⟨by simp[strW,Val.s],fun h=>by simp[strW,Val.kind]at h,by simp[strW,Val.l],fun w h=>by simp[strW,Val.l]at h⟩
 ·exact⟨by simp,fun v h=>by simp at h⟩
def z6d:Res→Bool
 |.tup [.list [_],.nil]=>true
 |_=>false
theorem z6e{r:Res}(h:z6d r=true):∃ g,r=.tup [.list [g],.nil]:=by
 unfold z6d at h; split at h
 ·exact⟨_,rfl⟩
 ·cases h
theorem j6W:z6d (z8G z7R z2U)=true:=by kernel_rfl
theorem Gh.frzM{σ:St}{a:Nat}{ks vs:List D}(ho:aget σ.L a=some (.mobj ks vs)):Gh σ ⟨amap (AV.frzM a ks vs) σ.ρ,[],σ.H⟩:=fun E n G ts w h=>⟨_,h.frzM ho⟩
def q1T:q0i:=
 .seq (.reg [Qx 2 KF]) (.seq (.reg [⟨some 7,.call 24 [.k (.d (.str [66,84,32,47,70,32,49,48,32,84,102,32,40,97,41,32,84,106,32,69,84]))],none⟩,Qc 6 7,Q 8 
 (.ext 0 (.t 6)),Q 9 (.ext 1 (.t 6)),Qa 3 8,Qa 4 9]) (.seq (.seq (.reg [Qc 10 4,Q 11 (.eqN 0 true (.t 10))]) (.cond (.t 11) (.seq (.reg [Qx 2 KF]) .ret) .skip)) (.seq (.alt 
 [([Qc 13 3,⟨some 14,.prim (.mkMap 25) [] [],none⟩,Q 15 (.bld [(0,1),(1,1),(2,1),(3,1),(4,1)] [.bool false,.map [] [],.int .i64 0,.map [] [],.list []] [false, 
 false,false,false,true] [(2,.k (.d (.int .i64 500)))]),⟨none,.prim (.mapUpd 25) [.t 14,.k (.d (.str [70])),.t 15] [],none⟩],Qc 16 14)] [⟨some 17,.prim .call [.k (.fn 
 (.func 11) [] []),.t 13,.t 16] [],none⟩,Qc 12 17,Q 18 (.ext 0 (.t 12)),Q 19 (.ext 1 (.t 12)),Qa 5 18,Qa 4 19]) (.seq (.reg [Qc 20 4,Q 21 (.eqN 0 false (.t 20)),Qc 22 
 21,Qd 23 5 22 true,Qg 24 (.len false (.t 23)) 22 true,Qg 25 (.bin .eql (.t 24) (Ki 1)) 22 true,Q 26 (.pick (.t 22) (.t 25) KF),Qc 27 26,Qd 28 0 27 true,⟨some 29,.prim 
 (.bi .len [25]) [.t 28] [],some (27,true)⟩,Qg 30 (.bin .lss (.t 29) (Ki 100)) 27 true,Q 31 (.pick (.t 27) (.t 30) KF),Qa 2 31]) .ret))))
def q1Z:List LRes:=[.tmp 2]
theorem q3e:q0r Tryz.prog 15 32 q1T q1Z:=⟨_,_,Tryz.func15,rfl,by kernel_rfl,by kernel_rfl,rfl⟩
theorem z2V(fl:Fl)(h:fl.length≤50):q0s Tryz.prog 15 [q0Z fl] (fun r=>r=.one (.bool true)):=by
 refine q3e.call rfl ?_; have hP:=j6V; unfold z5w at hP; simp(maxSteps:=2000000)only[go_sem,↓reduceIte,q1T,q1Z]; refine q0g.of hP ?_; simp(maxSteps:=2000000)only[go_sem,↓reduceIte]; refine q0c.mkMap z2L ?_; simp(maxSteps:=2000000)only[go_sem,↓reduceIte]; refine q0c.z7A (ks:=[]) (vs:=[]) (key:=.str [70]) (v:=Fnt.d ⟨false,[],500,[],[]⟩) (s:=14) rfl rfl rfl rfl z2L z8X rfl (fun k hk=>by cases hk) rfl ?_
 simp(maxSteps:=2000000)only[go_sem,↓reduceIte]; refine q3L.ghost (q3L.step rfl (fun _ _ _ h=>by cases h) rfl ?_); refine⟨_,Gh.frzM (a:=14) rfl,?_⟩; simp(maxSteps:=2000000)only[go_sem,↓reduceIte,amap,AV.frzM]; have hpg:=q53 z7R z2U (by decide) j1D j1E; obtain⟨g,hg⟩:=z6e j6W; rw[hg]at hpg
 refine q0c.q2q ([]) ([]) rfl (hpg.q5j (by kernel_rfl)) rfl rfl (by simp only[q1q,St.obj,aget,AObj.ren,AV.ren,AV.ren1,renL,q4L,renR,renQ,List.getD_cons_zero,List.getD_cons_succ,and_true,and_self,Nat.reduceEqDiff,↓reduceIte,reduceCtorEq]) rfl rfl rfl ⟨rfl,rfl⟩ ?_; simp(maxSteps:=2000000)only[go_sem,↓reduceIte]; refine q0c.j0H (ks:=q8E fl) (vs:=z1T fl) rfl z2L ?_; have hz:(((q8E fl).length:Int)<100)=True:=eq_true (by rw[List.length_map]; omega); simp(maxSteps:=2000000)only[go_sem,↓reduceIte,hz]
end Go.Av.Tryz
set_option linter.unusedSimpArgs false
set_option maxRecDepth 100000
set_option maxHeartbeats 16000000
namespace Go.Av.Tryz
open Go.Proofs
def q0T:q0i:=
 .seq (.reg [Qx 2 (Ki 0)]) (.seq (.seq (.reg [Qc 5 0,Q 6 (.eqN 0 false (.t 5))]) (.cond (.t 6) (.seq (.reg [Qx 2 (Ki 0)]) .ret) .skip)) (.seq (.reg [Qc 8 0,Q 9 (.asT 76 (.int .i64 
 0) (.t 8)),Qc 7 9,Q 10 (.ext 0 (.t 7)),Q 11 (.ext 1 (.t 7)),Qa 3 10,Qa 4 11]) (.seq (.seq (.reg [Qc 12 4,Q 13 (.not (.t 12))]) (.cond (.t 13) (.seq (.reg [Qx 2 (Ki (-1))]) 
 .ret) .skip)) (.seq (.reg [Qc 14 3,Qa 2 14]) .ret))))
def q0V:List LRes:=[.tmp 2]
theorem q22:q0r Tryz.prog 19 15 q0T q0V:=⟨_,_,Tryz.func19,rfl,by kernel_rfl,by kernel_rfl,rfl⟩
theorem z6z(n:Nat):q0s Tryz.prog 19 [errD n] (fun r=>r=.one (.int .i64 n)):=by
 refine q22.call rfl ?_
 by_cases h:n=0
 ·subst h; simp(maxSteps:=2000000)only[go_sem,↓reduceIte,q0T,q0V,show errD 0=.nil from rfl]
 ·rw[q13 h]; simp(maxSteps:=2000000)only[go_sem,↓reduceIte,q0T,q0V]
theorem j4p(l:List OpV):q6s 2 (l.map OpV.d)=true:=by
 induction l with
 |nil=>rfl
 |cons a r ih=>simp only[List.map_cons,q6s,Bool.and_eq_true]; exact⟨rfl,ih⟩
def VOK(v:Val):Prop:=v.s.length≤1000000∧(v.kind=2→Lim v.n)∧v.l.length≤100000∧∀ w∈v.l,w.s.length≤1000000∧(w.kind=2→Lim w.n)
theorem q9t{n:Int}(h:Lim n):VOK (numW n):=⟨by simp[numW,Val.s],fun _=>h,by simp[numW,Val.l],fun w hw=>by simp[numW,Val.l]at hw⟩
theorem j6I{nm:List UInt8}{l:List Val}(hl:l.length≤1000)(h:∀ v∈l,VOK v):OpV.ok ⟨nm,l⟩:=⟨hl,h⟩
theorem z3W{fl:Fl}(hf:∀ p∈fl,p.2.ok):∀(l:List OpV) {q:PT},q.inv→(q.run fl l).inv
 |[],_,h=>h
 |o::l,q,h=>by
  rw[z7P]; split
  ·exact z3W hf l (z5T h hf o)
  ·exact z5T h hf o
theorem z6L:q00.inv:=⟨⟨fun _=>Nat.zero_le _,fun f h=>by cases h⟩,Nat.zero_le _,fun s h=>by cases h⟩
end Go.Av.Tryz
set_option linter.unusedSimpArgs false
set_option maxRecDepth 100000
set_option maxHeartbeats 16000000
namespace Go.Av.Tryz
open Go.Proofs
theorem j1S:∀{v:Val},q7d v=true→v.s.length≤200∧(v.kind=2→Lim v.n)∧z4b v.l=true
 |.mk k n s l f,h=>by
  simp only[q7d]at h; have l0:l.length=0→z4b l=true:=fun e=>by rw[List.eq_nil_of_length_eq_zero e]; rfl
  have nm:q3g s=true→s.length≤200:=fun e=>by
   simp only[q3g,Bool.and_eq_true,decide_eq_true_eq]at e; exact e.2.1
  simp only[Val.s,Val.kind,Val.n,Val.l]; split at h
  ·simp only[Bool.and_eq_true,decide_eq_true_eq]at h; exact⟨by rw[h.2.1]; simp,by omega,l0 h.2.2.1⟩
  split at h
  ·simp only[Bool.and_eq_true,decide_eq_true_eq]at h; exact⟨by rw[h.2.1]; simp,by omega,l0 h.2.2.1⟩
  split at h
  ·simp only[Bool.and_eq_true,decide_eq_true_eq]at h; exact⟨by rw[h.2.1]; simp,fun _=>h.1,l0 h.2.2.1⟩
  split at h
  ·simp only[Bool.and_eq_true,decide_eq_true_eq]at h; exact⟨h.2.1,by omega,l0 h.2.2.1⟩
  split at h
  ·simp only[Bool.and_eq_true,decide_eq_true_eq]at h; exact⟨nm h.2.1,by omega,l0 h.2.2.1⟩
  split at h
  ·simp only[Bool.and_eq_true,decide_eq_true_eq]at h; exact⟨by rw[h.2.1]; simp,by omega,h.2.2.1⟩
  split at h
  ·simp only[Bool.and_eq_true,decide_eq_true_eq]at h; exact⟨by rw[h.2.1]; simp,by omega,l0 h.2.2.1⟩
  split at h
  ·simp only[Bool.and_eq_true,decide_eq_true_eq]at h; exact⟨by rw[h.2.1]; simp,by omega,l0 h.2.2.1⟩
  ·cases h
theorem z5I:∀{l:List Val},z4b l=true→∀ w∈l,q7d w=true
 |v::r,h,w,hw=>by
  simp only[z4b,Bool.and_eq_true]at h; rcases List.mem_cons.1 hw with rfl|hw
  ·exact h.1
  ·exact z5I h.2 w hw
theorem j1l:∀ l:List Val,l.length≤(ptL l).1
 |[]=>Nat.zero_le _
 |v::r=>by
  have h1:=q64 v; have h2:=j1l r; simp only[List.length_cons,ptL]; omega
theorem j0I{l:List OpV}(h1:q8h l)(h2:z9d l):∀ o∈l,o.ok:=fun o ho=>by
 obtain⟨_,k2,_⟩:=h1.2 o ho; refine⟨by omega,fun v hv=>?_⟩; have hf:=h2 o ho v hv; unfold q6n at hf; split at hf
 ·cases hf
 ·rename_i hp; split at hf
  ·rename_i hw; obtain⟨w1,w2,w3⟩:=j1S hw; have:=j1l v.l; rw[j6P]at hp; refine⟨by omega,w2,by omega,fun w hwl=>?_⟩; obtain⟨u1,u2,_⟩:=j1S (z5I w3 w hwl); exact⟨by omega,u2⟩
  ·cases hf
theorem z2G{p:List UInt8×Fnt}{l:Fl}(h:p∈q1p l):∃ s,(s,p.2)∈l:=by
 have key:∀(l a:Fl),p∈l.foldl (fun a p=>putF a p.1 p.2) a→p∈a∨∃ s,(s,p.2)∈l:=by
  intro l; induction l with
  |nil=>intro a h; exact .inl h
  |cons q r ih=>
   intro a h; rcases ih _ h with h|⟨s,h⟩
   ·rcases j3o h with h|h
    ·exact .inl h
    ·right; exact⟨q.1,by rw[h]; simp⟩
   ·right; exact⟨s,by simp[h]⟩
 rcases key l [] h with h|h
 ·cases h
 ·exact h
def PT.res(q:PT):List Gph:=if q.bad=0 then q.out else[]
theorem q8T(fl:Fl)(l:List OpV)(h:l.length≤2000):z8G fl l=.tup [.list (q2p (q00.run fl l).res),errD (q00.run fl l).bad]:=by
 unfold z8G z1q PT.res; rw[if_neg (by omega)]; split
 ·rename_i e; rw[e]; rfl
 ·rfl
theorem glSl:q28 Tryz.prog 36=some (55,10,88):=by kernel_rfl
theorem j6n:q31 Tryz.prog 55=true:=by kernel_rfl
theorem j6o:isSl Tryz.prog 36=true:=by kernel_rfl
theorem j6p(l:List Gph):q6s 10 (q2p l)=true:=by
 induction l with
 |nil=>rfl
 |cons a r ih=>simp only[q2p,List.map_cons,q6s,Bool.and_eq_true]at ih ⊢; exact⟨rfl,ih⟩
theorem j0h(a b:List Gph):q2p (a++b)=q2p a++q2p b:=List.map_append ..
theorem q8z(a:List Gph):(q2p a).length=a.length:=List.length_map ..
def q1u:q0i:=
 .seq (.reg [Qx 6 KF]) (.seq (.reg [Qc 21 2,⟨some 22,.call 8 [.t 21],none⟩,Qc 20 22,Q 23 (.ext 0 (.t 20)),Q 24 (.ext 1 (.t 20)),Qa 7 23,Qa 8 24]) (.seq (.reg [Qc 25 7,⟨some 
 26,.prim .call [.k (.fn (.func 15) [] []),.t 25] [],none⟩,Qa 9 26]) (.seq (.seq (.reg [Qc 27 9,Q 28 (.not (.t 27))]) (.cond (.t 28) (.seq (.reg [Qx 6 KF]) .ret) .skip)) 
 (.seq (.seq (.reg [Qc 29 8,Q 30 (.not (.t 29)),Qc 31 30,Qd 32 0 31 false,⟨some 33,.call 16 [.t 32],some (31,false)⟩,Qg 34 (.not (.t 33)) 31 false,Q 35 (.pick (.t 31) KT 
 (.t 34)),Qc 36 35,Qd 37 1 36 false,⟨some 38,.call 16 [.t 37],some (36,false)⟩,Qg 39 (.not (.t 38)) 36 false,Q 40 (.pick (.t 36) KT (.t 39))]) (.cond (.t 40) (.seq (.reg 
 [Qx 6 KT]) .ret) .skip)) (.seq (.reg [Qx 10 (Ki 0)]) (.seq (.reg [Qx 11 KF]) (.seq (.seq (.reg [Qx 12 (Ki 0)]) (.block 0 (.loop (.seq (.seq (.reg [Qc 41 12,Qc 42 1,Q 43 (.len 
 false (.t 42)),Q 44 (.bin .lss (.t 41) (.t 43))]) (.cond (.t 44) .skip (.exit 0))) (.seq (.block 1 (.seq (.seq (.reg [Qc 47 1,Qc 48 12,Q 49 (.ia 2 (.t 47) (.t 48)),Q 50 (.fa 
 0 (.t 49)),Q 51 (.ld false 1 (.t 50))]) (.block 2 (.seq (.reg [Q 53 (.bin .eql (.t 51) (.k (.d (.str [113])))),Qa 52 53]) (.cond (.t 52) (.reg [Qc 54 10,Q 55 (.bin .add (.t 
 54) (Ki 1)),Qa 10 55]) (.seq (.reg [Q 57 (.bin .eql (.t 51) (.k (.d (.str [81])))),Qa 56 57]) (.cond (.t 56) (.reg [Qc 58 10,Q 59 (.bin .sub (.t 58) (Ki 1)),Qa 10 59]) (.seq 
 (.seq (.reg [Q 61 (.bin .eql (.t 51) (.k (.d (.str [66,84])))),Qa 60 61]) (.cond (.t 60) .skip (.reg [Q 62 (.bin .eql (.t 51) (.k (.d (.str [69,84])))),Qa 60 62]))) (.cond 
 (.t 60) (.reg [Qc 63 1,Qc 64 12,Q 65 (.ia 2 (.t 63) (.t 64)),Q 66 (.fa 0 (.t 65)),Q 67 (.ld false 1 (.t 66)),Q 68 (.bin .eql (.t 67) (.k (.d (.str [66,84])))),Qa 11 68]) 
 .skip)))))))) (.seq (.reg [Qc 69 10,Q 70 (.bin .lss (.t 69) (Ki 0))]) (.cond (.t 70) (.seq (.reg [Qx 6 KT]) .ret) .skip)))) (.reg [Qc 45 12,Q 46 (.bin .add (.t 45) (Ki 1)),Qa 
 12 46])))))) (.seq (.seq (.reg [Qc 71 10,Q 72 (.bin .neq (.t 71) (Ki 0)),Qc 73 72,Qd 74 11 73 false,Q 75 (.pick (.t 73) KT (.t 74))]) (.cond (.t 75) (.seq (.reg [Qx 6 KT]) 
 .ret) .skip)) (.seq (.reg [Qc 77 1,Qc 78 7,⟨some 79,.prim .call [.k (.fn (.func 11) [] []),.t 77,.t 78] [],none⟩,Qc 76 79,Q 80 (.ext 0 (.t 76)),Q 81 (.ext 1 (.t 76)),Qa 
 13 80,Qa 14 81]) (.seq (.reg [Qc 83 0,Qc 84 7,⟨some 85,.prim .call [.k (.fn (.func 11) [] []),.t 83,.t 84] [],none⟩,Qc 82 85,Q 86 (.ext 0 (.t 82)),Q 87 (.ext 1 (.t 
 82)),Qa 15 86,Qa 16 87]) (.seq (.reg [Q 88 (.bld [(0,1),(1,1)] [.str [],.list []] [false,true] [(0,.k (.d (.str [113])))]),⟨some 89,.bsl 31 2 [.t 88],none⟩,Qc 90 1, 
 ⟨some 91,.app 31 2 40 false (.t 89) (.t 90),none⟩,Q 92 (.bld [(0,1),(1,1)] [.str [],.list []] [false,true] [(0,.k (.d (.str [81])))]),⟨some 93,.bsl 31 2 [.t 92], 
 none⟩,⟨some 94,.app 31 2 40 false (.t 91) (.t 93),none⟩,Qa 17 94]) (.seq (.reg [Qc 96 17,Qc 97 0,⟨some 98,.app 31 2 40 false (.t 96) (.t 97),none⟩,Qc 99 7,⟨some 100, 
 .prim .call [.k (.fn (.func 11) [] []),.t 98,.t 99] [],none⟩,Qc 95 100,Q 101 (.ext 0 (.t 95)),Q 102 (.ext 1 (.t 95)),Qa 18 101,Qa 19 102]) (.seq (.seq (.reg [Qc 103 14,Q 
 104 (.eqN 0 true (.t 103)),Qc 105 104,Qd 106 16 105 false,Qg 107 (.eqN 0 true (.t 106)) 105 false,Q 108 (.pick (.t 105) KT (.t 107)),Qc 109 108,Qd 110 19 109 false,Qg 111 
 (.eqN 0 true (.t 110)) 109 false,Q 112 (.pick (.t 109) KT (.t 111))]) (.cond (.t 112) (.seq (.reg [Qx 6 KT]) .ret) .skip)) (.seq (.seq (.reg [Qc 113 0,⟨some 114,.call 20 [.t 
 113],none⟩,Q 115 (.not (.t 114))]) (.cond (.t 115) (.seq (.reg [Qx 6 KT]) .ret) .skip)) (.seq (.reg [Qc 116 18,Qc 117 13,⟨some 118,.prim (.bi .append [36,36]) [.k (.d 
 (.list [])),.t 117] [],none⟩,Qc 119 15,⟨some 120,.app 55 10 88 false (.t 118) (.t 119),none⟩,⟨some 121,.call 14 [.t 116,.t 120],none⟩,Qa 6 121]) .ret)))))))))))))))
def q1y:List LRes:=[.tmp 6]
theorem q2Q:q0r Tryz.prog 5 122 q1u q1y:=⟨_,_,Tryz.func5,rfl,by kernel_rfl,by kernel_rfl,rfl⟩
theorem z5F(l more:List OpV)(fs:Fl)(hl:z79 l)(hm:z79 more)(hfs:fs.length≤1000000000)(hw:∀ p∈fs,p.2.wf∧p.1.length≤9223372036854775807∧i64 p.2.miss):
  q0s Tryz.prog 5 [opsD l,opsD more,.list (fs.map namD)] (fun r=>r=.one (.bool true)):=by
 refine q2Q.call rfl ?_; simp(maxSteps:=2000000)only[go_sem,↓reduceIte,q1u,q1y,opsD]; refine q0g.of (z0W fs hfs hw) ?_; obtain⟨hf5,hfb⟩:=j4g fs fun p hp=>(hw p hp).1
 generalize foR fs=R at *; obtain⟨fl,b⟩:=R; simp only at hf5 hfb; simp(maxSteps:=2000000)only[go_sem,↓reduceIte]; refine q0c.q2q ([]) ([]) rfl ((z2V fl (by omega)).q5j (by kernel_rfl)) rfl rfl (by simp only[q1q,St.obj,aget,AObj.ren,AV.ren,AV.ren1,renL,q4L,renR,renQ,List.getD_cons_zero,List.getD_cons_succ,and_true,and_self,Nat.reduceEqDiff,↓reduceIte,reduceCtorEq]) rfl rfl rfl ⟨rfl,rfl⟩ ?_; simp(maxSteps:=2000000)only[go_sem,↓reduceIte]; intro hbt; subst hbt; obtain⟨rfl,hl5,hok⟩:=hfb rfl
 refine q0g.post (z0Y l hl) (fun r hr=>?_); obtain⟨g1,rfl,hg1⟩:=hr; cases g1 with
 |false=>simp(maxSteps:=2000000)only[go_sem,↓reduceIte]
 |true=>
  obtain⟨l1,l2⟩:=hg1 rfl; simp(maxSteps:=2000000)only[go_sem,↓reduceIte]; refine q0g.post (z0Y more hm) (fun r hr=>?_); obtain⟨g2,rfl,hg2⟩:=hr; cases g2 with
  |false=>simp(maxSteps:=2000000)only[go_sem,↓reduceIte]
  |true=>
   obtain⟨m1,m2⟩:=hg2 rfl; simp(maxSteps:=2000000)only[go_sem,↓reduceIte]; have hml:=m1.1; have hmlen:=q4j more; generalize hR:balF more 0 false=R; refine q0l (fun y:Nat×Int×Bool=>⟨[(0,.d (opsD l)),(1,.d (opsD more)),(7,.d (q0Z (q1p fs))),(10,.d (.int .i64 y.2.1)),(11,.d (.bool y.2.2)),(12,.d (.int .i64 y.1))],[],[]⟩)
    (fun y=>y.1≤more.length∧0≤y.2.1∧y.2.1≤y.1∧balF (more.drop y.1) y.2.1 y.2.2=R) (fun y=>more.length-y.1) (0,0,false) ?_ ?_ ?_
   ·refine q0d ?_ trivial; simp(maxSteps:=2000000)only[go_sem,↓reduceIte,Sub,Int.natCast_add,Int.natCast_mul,opsD]
   ·exact⟨by simp,by simp,by simp,by simpa using hR⟩
   ·rintro⟨i,d,b⟩ ⟨g1,g2,g3,g4⟩; simp only at g1 g2 g3 g4; simp(maxSteps:=2000000)only[go_sem,↓reduceIte,opsD,hmlen]; refine⟨fun q1=>?_,fun q1=>?_⟩
    ·obtain⟨o,ho⟩:=get_some (l:=more) (i:=i) (by omega); have hd:=z0r ho; rw[j0c ho,balF]at g4
     by_cases a0:o.nm=[113]
     ·have e:=eq_true a0; rw[if_pos a0,if_pos (Or.inl a0),if_neg (by omega)]at g4; simp(maxSteps:=2000000)(disch:=omega)only[go_sem,↓reduceIte,q0a,hd,e]; refine fun _=>⟨(i+1,d+1,b),?_,⟨by simp only; omega,by simp only; omega,by simp only; omega,g4⟩,by simp only; omega⟩
      refine q0d ?_ trivial; simp(maxSteps:=2000000)only[go_sem,↓reduceIte,Sub,Int.natCast_add,Int.natCast_mul,opsD]
     rw[if_neg a0]at g4
     by_cases a1:o.nm=[81]
     ·have e:=eq_true a1; rw[if_pos a1,if_pos (Or.inr a1)]at g4; simp(maxSteps:=2000000)(disch:=omega)only[go_sem,↓reduceIte,q0a,hd,e,a0]; refine fun q5=>⟨(i+1,d-1,b),?_,⟨by simp only; omega,by simp only; omega,by simp only; omega,by rw[if_neg q5]at g4; exact g4⟩,by simp only; omega⟩
      refine q0d ?_ trivial; simp(maxSteps:=2000000)only[go_sem,↓reduceIte,Sub,Int.natCast_add,Int.natCast_mul,opsD]
     rw[if_neg a1,if_neg (show ¬(o.nm=[113]∨o.nm=[81])from fun h=>h.elim a0 a1),if_neg (by omega)]at g4
     by_cases a2:o.nm=[66,84]
     ·have e:=eq_true a2; rw[if_pos (Or.inl a2),decide_eq_true a2]at g4; simp(maxSteps:=2000000)(disch:=omega)only[go_sem,↓reduceIte,q0a,hd,e,a0,a1]; refine fun q5=>⟨(i+1,d,true),?_,⟨by simp only; omega,by simp only; omega,by simp only; omega,g4⟩,by simp only; omega⟩
      refine q0d ?_ trivial; simp(maxSteps:=2000000)only[go_sem,↓reduceIte,Sub,Int.natCast_add,Int.natCast_mul,opsD]
     by_cases a3:o.nm=[69,84]
     ·have e:=eq_true a3; rw[if_pos (Or.inr a3),decide_eq_false a2]at g4; simp(maxSteps:=2000000)(disch:=omega)only[go_sem,↓reduceIte,q0a,hd,e,a0,a1,a2]; refine fun q5=>⟨(i+1,d,false),?_,⟨by simp only; omega,by simp only; omega,by simp only; omega,g4⟩,by simp only; omega⟩
      refine q0d ?_ trivial; simp(maxSteps:=2000000)only[go_sem,↓reduceIte,Sub,Int.natCast_add,Int.natCast_mul,opsD]
     ·rw[if_neg (show ¬(o.nm=[66,84]∨o.nm=[69,84])from fun h=>h.elim a2 a3)]at g4; simp(maxSteps:=2000000)(disch:=omega)only[go_sem,↓reduceIte,q0a,hd,a0,a1,a2,a3]; refine fun q5=>⟨(i+1,d,b),?_,⟨by simp only; omega,by simp only; omega,by simp only; omega,g4⟩,by simp only; omega⟩
      refine q0d ?_ trivial; simp(maxSteps:=2000000)only[go_sem,↓reduceIte,Sub,Int.natCast_add,Int.natCast_mul,opsD]
    ·rintro hd0 hb0; subst hd0 hb0; rw[List.drop_eq_nil_of_le (by omega),balF]at g4; have hbal:balF more 0 false=some (0,false):=by rw[hR,g4]
     have hfk:∀ p∈q1p fs,p.2.ok:=fun p hp=>by
      obtain⟨s,hs⟩:=z2G hp; exact(hok _ hs).2.1
     have hlo:=j0I l1 l2; have hmo:=j0I m1 m2; have hll:=l1.1; have hllen:=q4j l; have pA:=q53 (q1p fs) more (by omega) hfk hmo; have pB:=q53 (q1p fs) l (by omega) hfk hlo; have hC:∀ o∈(⟨[113],[]⟩::more++[⟨[81],[]⟩]++l:List OpV),o.ok:=fun o ho=>by
      have one:∀ s:List UInt8,OpV.ok ⟨s,[]⟩:=fun s=>j6I (by simp) fun v hv=>by cases hv
      rcases List.mem_append.1 ho with ho|ho
      ·rcases List.mem_append.1 ho with ho|ho
       ·rcases List.mem_cons.1 ho with rfl|ho
        ·exact one _
        ·exact hmo o ho
       ·rw[List.mem_singleton.1 ho]; exact one _
      ·exact hlo o ho
     have pC:=q53 (q1p fs) (⟨[113],[]⟩::more++[⟨[81],[]⟩]++l) (by simp; omega) hfk hC; have vA:=q8T (q1p fs) more (by omega); have vB:=q8T (q1p fs) l (by omega); have vC:=q8T (q1p fs) (⟨[113],[]⟩::more++[⟨[81],[]⟩]++l) (by simp; omega); have hsv:=j3H (q1p fs) l more; have iA:=z3W hfk more z6L; have iB:=z3W hfk l z6L; rw[vA]at pA; rw[vB]at pB; rw[vC]at pC; generalize q00.run (q1p fs) more=qa at *; generalize q00.run (q1p fs) l=qb at *
     generalize q00.run (q1p fs) (⟨[113],[]⟩::more++[⟨[81],[]⟩]++l)=qc at *; refine q0c.q2q ([]) ([]) rfl (pA.q5j (by kernel_rfl)) rfl rfl (by simp only[q1q,St.obj,aget,AObj.ren,AV.ren,AV.ren1,renL,q4L,renR,renQ,List.getD_cons_zero,List.getD_cons_succ,and_true,and_self,Nat.reduceEqDiff,↓reduceIte,reduceCtorEq]) rfl rfl rfl ⟨rfl,rfl⟩ ?_; simp(maxSteps:=2000000)only[go_sem,↓reduceIte]
     refine q0c.q2q ([]) ([]) rfl (pB.q5j (by kernel_rfl)) rfl rfl (by simp only[q1q,St.obj,aget,AObj.ren,AV.ren,AV.ren1,renL,q4L,renR,renQ,List.getD_cons_zero,List.getD_cons_succ,and_true,and_self,Nat.reduceEqDiff,↓reduceIte,reduceCtorEq]) rfl rfl rfl ⟨rfl,rfl⟩ ?_; simp(maxSteps:=2000000)only[go_sem,↓reduceIte]; have hz1:(0+1+more.length≤140737488355327)=True:=eq_true (by omega); have hz2:((0+1+more.length)*40≤140737488355328)=True:=eq_true (by omega)
     simp(maxSteps:=2000000)only[go_sem,↓reduceIte,j4p,List.length_map,hz1,hz2]; have hln:(List.map OpV.d more++[D.agg [D.str [81],D.list []]]).length=more.length+1:=by simp
     have hop:opsD (⟨[113],[]⟩::more++[⟨[81],[]⟩]++l)=.list (D.agg [D.str [113],D.list []]::(List.map OpV.d more++[D.agg [D.str [81],D.list []]])++List.map OpV.d l):=by simp[opsD,OpV.d,q0K]
     rw[hop]at pC; refine⟨⟨by omega,by omega⟩,⟨by omega,by omega⟩,?_⟩; refine q0c.q2q ([]) ([]) rfl (pC.q5j (by kernel_rfl)) rfl rfl (by simp only[q1q,St.obj,aget,AObj.ren,AV.ren,AV.ren1,renL,q4L,renR,renQ,List.getD_cons_zero,List.getD_cons_succ,and_true,and_self,Nat.reduceEqDiff,↓reduceIte,reduceCtorEq]) rfl rfl rfl ⟨rfl,rfl⟩ ?_
     by_cases eA:qa.bad=0
     ·by_cases eB:qb.bad=0
      ·by_cases eC:qc.bad=0
       ·have sA:qa.res=qa.out:=if_pos eA; have sB:qb.res=qb.out:=if_pos eB; have sC:qc.res=qc.out:=if_pos eC; rw[eA,eB,eC,sA,sB,sC,show errD 0=.nil from rfl]; simp(maxSteps:=2000000)only[go_sem,↓reduceIte]; refine q0g.of (z5N l (by omega)) ?_; cases hg:begF l with
        |false=>simp(maxSteps:=2000000)only[go_sem,↓reduceIte]
        |true=>
         have hout:=hsv eA eB eC hbal hg; rw[hout]; have lA:=iA.ok.out eA; have lB:=iB.ok.out eB; simp(maxSteps:=2000000)only[go_sem,↓reduceIte]; have hsg:=z1D (qa.out++qb.out) (by rw[List.length_append]; omega); have hnil:(if false=true then(none:Option (List D))else if q6s 10 (q2p qa.out)=true then some (q2p qa.out)else none)=some (q2p qa.out):=by rw[j6p]; rfl
         refine q0c.j4G (ys:=q2p qa.out) glSl j6n j6o hnil (by rw[q8z]; omega) ?_; rw[j0h]at hsg ⊢; have z1:(qa.out.length+qb.out.length≤140737488355327)=True:=eq_true (by omega); have z2:((qa.out.length+qb.out.length)*88≤140737488355328)=True:=eq_true (by omega); simp(maxSteps:=2000000)only[go_sem,↓reduceIte,j6p,q8z,z1,z2]; refine q0g.of hsg ?_; simp(maxSteps:=2000000)only[go_sem,↓reduceIte]
       ·rw[eA,eB,q13 eC,show errD 0=.nil from rfl]; simp(maxSteps:=2000000)only[go_sem,↓reduceIte]
      ·rw[eA,q13 eB,show errD 0=.nil from rfl]; simp(maxSteps:=2000000)only[go_sem,↓reduceIte]
     ·rw[q13 eA]; simp(maxSteps:=2000000)only[go_sem,↓reduceIte]
end Go.Av.Tryz
set_option linter.unusedSimpArgs false
set_option maxRecDepth 100000
namespace Go.Av.Tryz
open Go.Proofs
end Go.Av.Tryz
set_option linter.unusedSimpArgs false
set_option maxRecDepth 100000
set_option maxHeartbeats 4000000
namespace Go.Av.Tryz
open Go.Proofs
end Go.Av.Tryz
set_option linter.unusedSimpArgs false
set_option maxRecDepth 100000
set_option maxHeartbeats 8000000
namespace Go.Av.Tryz
open Go.Proofs
end Go.Av.Tryz
set_option linter.unusedSimpArgs false
set_option maxRecDepth 100000
set_option maxHeartbeats 16000000
namespace Go.Av.Tryz
open Go.Proofs
end Go.Av.Tryz
set_option linter.unusedSimpArgs false
set_option maxRecDepth 100000
set_option maxHeartbeats 16000000
namespace Go.Av.Tryz
open Go.Proofs
end Go.Av.Tryz
set_option linter.unusedSimpArgs false
set_option maxRecDepth 100000
set_option maxHeartbeats 16000000
namespace Go.Av.Tryz
open Go.Proofs
end Go.Av.Tryz
set_option linter.unusedSimpArgs false
set_option maxRecDepth 100000
set_option maxHeartbeats 16000000
namespace Go.Av.Tryz
open Go.Proofs
end Go.Av.Tryz
set_option linter.unusedSimpArgs false
set_option maxRecDepth 100000
set_option maxHeartbeats 16000000
namespace Go.Av.Tryz
open Go.Proofs
end Go.Av.Tryz
set_option linter.unusedSimpArgs false
set_option maxRecDepth 100000
set_option maxHeartbeats 16000000
namespace Go.Av.Tryz
open Go.Proofs
end Go.Av.Tryz
set_option linter.unusedSimpArgs false
set_option maxRecDepth 100000
set_option maxHeartbeats 16000000
namespace Go.Av.Tryz
open Go.Proofs
def sh6(x y:Int)(m:M6):M6:=(m.1,m.2.1,m.2.2.1,m.2.2.2.1,m.2.2.2.2.1+x,m.2.2.2.2.2+y)
def PSt.sh(x y:Int)(s:PSt):PSt:={ s with ctm:=sh6 x y s.ctm }
def Gph.sh(x y:Int)(g:Gph):Gph:={ g with fr:=(g.fr.1+x,g.fr.2+y),to:=(g.to.1+x,g.to.2+y),box:=(g.box.1+x,g.box.2.1+y,g.box.2.2.1+x,g.box.2.2.2+y) }
def shT(x y:Int):Tr:=⟨sh6 x y,List.map (PSt.sh x y),List.map (Gph.sh x y)⟩
theorem q7p{a b c p q r s t u:Int}{R:Int×Int}(h:rowF a b c p q r s t u=some R):twoF a p b r (IntKind.i64.wrap (c*t))=some R.1∧twoF a q b s (IntKind.i64.wrap (c*u))=some R.2:=by
 unfold rowF at h; split at h
 ·rename_i h1 h2; cases h; exact⟨h1,h2⟩
 ·cases h
theorem z7b{m c R:M6}(h:catF m c=some R):rowF m.1 m.2.1 0 c.1 c.2.1 c.2.2.1 c.2.2.2.1 c.2.2.2.2.1 c.2.2.2.2.2=some (R.1,R.2.1)∧rowF m.2.2.1 m.2.2.2.1 0 c.1 c.2.1 c.2.2.1 c.2.2.2.1 c.2.2.2.2.1 c.2.2.2.2.2=some (R.2.2.1,R.2.2.2.1)∧
  rowF m.2.2.2.2.1 m.2.2.2.2.2 1 c.1 c.2.1 c.2.2.1 c.2.2.2.1 c.2.2.2.2.1 c.2.2.2.2.2=some (R.2.2.2.2.1,R.2.2.2.2.2):=by
 unfold catF q9b at h; split at h
 ·rename_i h1 h2 h3; cases h; exact⟨h1,h2,h3⟩
 ·cases h
theorem z4a{a x b y c r:Int}(h:twoF a x b y c=some r):Lim c∧Lim r:=by
 unfold twoF okF at h; split at h
 ·rename_i hl; split at h
  ·rename_i hr; cases h; exact⟨hl.2.2.2.2,hr⟩
  ·cases h
 ·cases h
theorem z71{a x b y c d r r':Int}(h:twoF a x b y c=some r)(h':twoF a x b y (c+d)=some r'):r'=r+d:=by
 unfold twoF okF at h h'; split at h
 ·split at h
  ·cases h; split at h'
   ·split at h'
    ·cases h'; omega
    ·cases h'
   ·cases h'
  ·cases h
 ·cases h
theorem j1V{t x:Int}(ht:Lim (IntKind.i64.wrap t))(hx : -1000000≤x∧x≤1000000):IntKind.i64.wrap (t+x)=IntKind.i64.wrap t+x:=by
 unfold Lim at ht; rw[IntKind.wrap_i64]at ht ⊢; rw[IntKind.wrap_i64]; omega
theorem j37{x y:Int}(hx : -1000000≤x∧x≤1000000)(hy : -1000000≤y∧y≤1000000){m c r r':M6}(h:catF m c=some r)(h':catF m (sh6 x y c)=some r'):r'=sh6 x y r:=by
 obtain⟨a1,a2,a3⟩:=z7b h; obtain⟨b1,b2,b3⟩:=z7b h'; simp only[sh6]at b1 b2 b3; obtain⟨p1,p2⟩:=q7p a1; obtain⟨p3,p4⟩:=q7p a2; obtain⟨p5,p6⟩:=q7p a3; obtain⟨q1,q2⟩:=q7p b1; obtain⟨q3,q4⟩:=q7p b2; obtain⟨q5,q6⟩:=q7p b3; simp only[Int.zero_mul,Int.one_mul]at p1 p2 p3 p4 p5 p6 q1 q2 q3 q4 q5 q6; rw[j1V (z4a p5).1 hx]at q5; rw[j1V (z4a p6).1 hy]at q6; rw[p1]at q1; rw[p2]at q2; rw[p3]at q3; rw[p4]at q4; have e5:=z71 p5 q5; have e6:=z71 p6 q6; obtain⟨r1,r2,r3,r4,r5,r6⟩:=r
 obtain⟨s1,s2,s3,s4,s5,s6⟩:=r'; simp only[Option.some.injEq]at q1 q2 q3 q4 e5 e6; rw[sh6,← q1,← q2,← q3,← q4,e5,e6]
theorem z25{m:M6}{x y:Int}{p:Int×Int}(h:appF m x y=some p):twoF m.1 x m.2.2.1 y m.2.2.2.2.1=some p.1∧twoF m.2.1 x m.2.2.2.1 y m.2.2.2.2.2=some p.2:=by
 unfold appF z4t at h; split at h
 ·rename_i h1 h2; cases h; exact⟨h1,h2⟩
 ·cases h
theorem z67{x y:Int}{m:M6}{u v:Int}{p p':Int×Int}(h:appF m u v=some p)(h':appF (sh6 x y m) u v=some p'):p'=(p.1+x,p.2+y):=by
 obtain⟨a1,a2⟩:=z25 h; obtain⟨b1,b2⟩:=z25 h'; simp only[sh6]at b1 b2; exact Prod.ext (z71 a1 b1) (z71 a2 b2)
theorem z6f(x y:Int)(b:Int×Int×Int×Int)(p:Int×Int):q8A (b.1+x,b.2.1+y,b.2.2.1+x,b.2.2.2+y) (p.1+x,p.2+y)=((q8A b p).1+x,(q8A b p).2.1+y,(q8A b p).2.2.1+x,(q8A b p).2.2.2+y):=by
 have mn:∀ a b z:Int,minI (a+z) (b+z)=minI a b+z:=fun a b z=>by
  unfold minI
  by_cases h:b<a
  ·rw[if_pos h,if_pos (by omega)]
  ·rw[if_neg h,if_neg (by omega)]
 have mx:∀ a b z:Int,maxI (a+z) (b+z)=maxI a b+z:=fun a b z=>by
  unfold maxI
  by_cases h:a<b
  ·rw[if_pos h,if_pos (by omega)]
  ·rw[if_neg h,if_neg (by omega)]
 simp only[q8A,mn,mx]
theorem z9n(x y:Int)(a b c d:Int×Int):q12 [(a.1+x,a.2+y),(b.1+x,b.2+y),(c.1+x,c.2+y),(d.1+x,d.2+y)]=
  ((q12 [a,b,c,d]).1+x,(q12 [a,b,c,d]).2.1+y,(q12 [a,b,c,d]).2.2.1+x,(q12 [a,b,c,d]).2.2.2+y):=by
 simp only[q12,List.foldl_cons,List.foldl_nil]; rw[z6f x y (a.1,a.2,a.1,a.2) b,z6f x y _ c,z6f x y _ d]
/-! ### A glyph -/
def PT.gm(q:PT):Option M6:=catF ((catF ((mulF q.s.size q.s.scale).getD 0,0,0,q.s.size,0,q.s.rise) q.tm).getD m60) q.s.ctm
def PT.gg(q:PT)(x:Sgn):Gph:=⟨x.text,(appF (q.gm.getD m60) 0 0).getD (0,0),(appF (q.gm.getD m60) x.width 0).getD (0,0),q.s.size,
 q12 [(appF (q.gm.getD m60) 0 0).getD (0,0),(appF (q.gm.getD m60) x.width 0).getD (0,0),(appF (q.gm.getD m60) 0 1000).getD (0,0),(appF (q.gm.getD m60) x.width 1000).getD (0,0)]⟩
def PT.gn(q:PT)(x:Sgn):Nat:=
 orE (orE (orE (orE (orE (orE (orE q.bad (errO (mulF q.s.size q.s.scale))) (errO (catF ((mulF q.s.size q.s.scale).getD 0,0,0,q.s.size,0,q.s.rise) q.tm))) (errO q.gm)) (errO (appF (q.gm.getD m60) 0 0))) (errO (appF (q.gm.getD m60) x.width 0))) (errO (appF (q.gm.getD m60) 0 1000))) (errO (appF (q.gm.getD m60) x.width 1000))
theorem q91(q:PT)(x:Sgn):q.glA x={ q with out:=q.out++[q.gg x],bad:=if 1000<(q.out++[q.gg x]).length then orE (q.gn x) 2 else q.gn x }:=rfl
theorem z3L{n e:Nat}:orE n e=0↔n=0∧e=0:=by
 unfold orE; split
 ·rename_i h; simp[h]
 ·rename_i h; simp[h]
theorem z0Q{α:Type}{o:Option α}(h:errO o=0):∃ y,o=some y:=by
 cases o with
 |none=>cases h
 |some y=>exact⟨y,rfl⟩
theorem q9Z{α:Type}(o:Option α):errO o≤1:=by cases o<;>simp[errO]
theorem z6E{n e:Nat}(h:n≤1)(h2:e≤1):orE n e≤1:=by unfold orE; split<;>assumption
theorem j47{q:PT}(h:q.bad≠0)(x:Sgn):q.gn x=q.bad:=by simp only[PT.gn,q0R h]
theorem gn_1{q:PT}(h:q.bad=0)(x:Sgn):q.gn x≤1:=by
 unfold PT.gn; rw[h]; exact z6E (z6E (z6E (z6E (z6E (z6E (z6E (by decide) (q9Z _)) (q9Z _)) (q9Z _)) (q9Z _)) (q9Z _)) (q9Z _)) (q9Z _)
theorem z8o{q:PT}{x:Sgn}(h:(q.glA x).bad=0):¬ 1000<(q.out++[q.gg x]).length∧q.gn x=0:=by
 rw[q91]at h; simp only at h; split at h
 ·exact absurd (z3L.1 h).2 (by decide)
 ·rename_i hl; exact⟨hl,h⟩
theorem gn_0{q:PT}{x:Sgn}(h:q.gn x=0):∃ m a b c d,q.gm=some m∧appF m 0 0=some a∧appF m x.width 0=some b∧appF m 0 1000=some c∧appF m x.width 1000=some d:=by
 unfold PT.gn at h; simp only[z3L]at h; obtain⟨⟨⟨⟨⟨_,h3⟩,h4⟩,h5⟩,h6⟩,h7⟩:=h; obtain⟨m,hm⟩:=z0Q h3; rw[hm]at h4 h5 h6 h7; simp only[Option.getD_some]at h4 h5 h6 h7; obtain⟨a,ha⟩:=z0Q h4; obtain⟨b,hb⟩:=z0Q h5; obtain⟨c,hc⟩:=z0Q h6; obtain⟨d,hd⟩:=z0Q h7; exact⟨m,a,b,c,d,hm,ha,hb,hc,hd⟩
theorem j45{q:PT}{x:Sgn}{m:M6}{a b c d:Int×Int}(hm:q.gm=some m)(ha:appF m 0 0=some a)(hb:appF m x.width 0=some b)(hc:appF m 0 1000=some c)(hd:appF m x.width 1000=some d):
  q.gg x=⟨x.text,a,b,q.s.size,q12 [a,b,c,d]⟩:=by
 simp only[PT.gg,hm,Option.getD_some,ha,hb,hc,hd]
theorem z7o{q:PT}(h:q.bad≠0)(x:Sgn):(q.glA x).bad=q.bad:=by
 rw[q91]; simp only; rw[j47 h,q0R h,ite_self]
theorem j6U{x y:Int}(hx : -1000000≤x∧x≤1000000)(hy : -1000000≤y∧y≤1000000):TrOK (shT x y) (fun n=>n=1):=by
 refine⟨fun m=>⟨fun q hb=>q0R hb,fun q h1 h2 h3=>?_,fun q h1 h2 h3=>?_⟩,fun b=>.same (fun q hb=>?_) (fun q=>?_),fun g=>⟨fun q hb=>z7o hb g,fun q h1 h2 h3=>?_,fun q h1 h2 h3=>?_⟩⟩
 ·obtain⟨r,hr⟩:=z0Q (z3L.1 h2).2; obtain⟨r',hr'⟩:=z0Q (z3L.1 h3).2; have hr2:catF m (sh6 x y q.s.ctm)=some r':=hr'; have e:=j37 hx hy hr hr2; show({ ((shT x y).ap q).er (errO (catF m (sh6 x y q.s.ctm)))with s:={ ((shT x y).ap q).s with ctm:=(catF m (sh6 x y q.s.ctm)).getD m60 } }:PT)=(shT x y).ap { q.er (errO (catF m q.s.ctm))with s:={ q.s with ctm:=(catF m q.s.ctm).getD m60 } }
  rw[hr,hr2,e]; rfl
 ·have:(((shT x y).ap q).cm m).bad=orE q.bad (errO (catF m (sh6 x y q.s.ctm))):=rfl; rw[this,h1]at h3 ⊢; have:=q9Z (catF m (sh6 x y q.s.ctm)); have e0:∀ e,orE 0 e=e:=fun _=>rfl
  rw[e0]at h3 ⊢; omega
 ·simp only[PT.sv]; split
  ·split
   ·exact q0R hb
   ·rfl
  ·split
   ·exact q0R hb
   ·rfl
 ·have e1:((shT x y).ap q).saved=q.saved.map (PSt.sh x y):=rfl; simp only[PT.sv,e1,List.getLast?_map,List.length_map]; cases b with
  |true=>
   simp only[if_true]; cases hl:q.saved.getLast? with
   |none=>rfl
   |some z=>
    simp only[Option.map_some]; rw[← List.map_dropLast]; rfl
  |false=>
   simp only[Bool.false_eq_true,if_false]; split
   ·rfl
   ·show({ (shT x y).ap q with saved:=q.saved.map (PSt.sh x y)++[PSt.sh x y q.s] }:PT)=_
    have:q.saved.map (PSt.sh x y)++[PSt.sh x y q.s]=(q.saved++[q.s]).map (PSt.sh x y):=by simp
    rw[this]; rfl
 ·obtain⟨l1,n1⟩:=z8o h2; obtain⟨l2,n2⟩:=z8o h3; obtain⟨m,a,b,c,d,hm,ha,hb,hc,hd⟩:=gn_0 n1; obtain⟨m',a',b',c',d',hm',ha',hb',hc',hd'⟩:=gn_0 n2; have em:=j37 hx hy hm (show catF _ (sh6 x y q.s.ctm)=some m' from hm'); subst em; have g1:=j45 hm ha hb hc hd; have g2:=j45 hm' ha' hb' hc' hd'; have ea:=z67 ha ha'; have eb:=z67 hb hb'; have ec:=z67 hc hc'; have ed:=z67 hd hd'; rw[ea,eb,ec,ed,z9n]at g2; rw[q91,q91,if_neg l1,if_neg l2,n1,n2]
  show({ (shT x y).ap q with out:=q.out.map (Gph.sh x y)++[((shT x y).ap q).gg g],bad:=0 }:PT)=(shT x y).ap { q with out:=q.out++[q.gg g],bad:=0 }
  have:q.out.map (Gph.sh x y)++[((shT x y).ap q).gg g]=(q.out++[q.gg g]).map (Gph.sh x y):=by
   rw[List.map_append,List.map_cons,List.map_nil,g1,g2]; rfl
  rw[this]; rfl
 ·obtain⟨l1,n1⟩:=z8o h2; have l2:¬ 1000<(((shT x y).ap q).out++[((shT x y).ap q).gg g]).length:=by
   have:((shT x y).ap q).out.length=q.out.length:=List.length_map ..; simp only[List.length_append,List.length_cons,List.length_nil]at l1 ⊢; omega
  rw[q91]at h3 ⊢; simp only at h3 ⊢; rw[if_neg l2]at h3 ⊢; have:=gn_1 (q:=(shT x y).ap q) h1 g; omega
/-! ### What is painted is of no great numbers -/
def Gph.fits(g:Gph):Bool:=decide (Lim g.fr.1)&&(decide (Lim g.fr.2)&&(decide (Lim g.to.1)&&(decide (Lim g.to.2)&&(decide (Lim g.box.1)&&decide (Lim g.box.2.2.2)))))
def Gph.lim(g:Gph):Gph:=if g.fits=true then g else⟨[],(0,0),(0,0),0,(0,0,0,0)⟩
def liT:Tr:=⟨id,id,List.map Gph.lim⟩
theorem j2Q(g:Gph):g.lim.fits=true:=by
 unfold Gph.lim; split
 ·assumption
 ·decide
theorem j46{q:PT}{x:Sgn}(h:q.gn x=0):(q.gg x).fits=true:=by
 obtain⟨m,a,b,c,d,hm,ha,hb,hc,hd⟩:=gn_0 h; rw[j45 hm ha hb hc hd]; have L:∀{u v:Int} {p:Int×Int},appF m u v=some p→Lim p.1∧Lim p.2:=fun h=>by
  obtain⟨h1,h2⟩:=z25 h; exact⟨(z4a h1).2,(z4a h2).2⟩
 obtain⟨a1,a2⟩:=L ha; obtain⟨b1,b2⟩:=L hb; obtain⟨c1,c2⟩:=L hc; obtain⟨d1,d2⟩:=L hd; have mn:∀{u v:Int},Lim u→Lim v→Lim (minI u v):=fun h1 h2=>by unfold minI; split<;>assumption
 have mx:∀{u v:Int},Lim u→Lim v→Lim (maxI u v):=fun h1 h2=>by unfold maxI; split<;>assumption
 simp only[Gph.fits,Bool.and_eq_true,decide_eq_true_eq,q12,List.foldl_cons,List.foldl_nil,q8A]; exact⟨a1,a2,b1,b2,decide_eq_true (mn (mn (mn a1 b1) c1) d1),decide_eq_true (mx (mx (mx a2 b2) c2) d2)⟩
theorem j6x:TrOK liT (fun _=>False):=by
 refine⟨fun m=>.same (fun _ h=>q0R h) fun _=>rfl,fun b=>.same (fun q hb=>?_) (fun q=>?_),fun g=>⟨fun q hb=>z7o hb g,fun q h1 h2 h3=>?_,fun q h1 h2 h3=>?_⟩⟩
 ·simp only[PT.sv]; split
  ·split
   ·exact q0R hb
   ·rfl
  ·split
   ·exact q0R hb
   ·rfl
 ·have e1:(liT.ap q).saved=q.saved:=rfl; simp only[PT.sv,e1]; split
  ·split<;>rfl
  ·split<;>rfl
 ·obtain⟨l1,n1⟩:=z8o h2; obtain⟨l2,n2⟩:=z8o h3; rw[q91,q91,if_neg l1,if_neg l2,n1,n2]; have e:(liT.ap q).gg g=q.gg g:=rfl; have:q.out.map Gph.lim++[q.gg g]=(q.out++[q.gg g]).map Gph.lim:=by
   rw[List.map_append,List.map_cons,List.map_nil,Gph.lim,if_pos (j46 n1)]
  rw[e]; show({ liT.ap q with out:=q.out.map Gph.lim++[q.gg g],bad:=0 }:PT)=_
  rw[this]; rfl
 ·obtain⟨l1,n1⟩:=z8o h2; have l2:¬ 1000<((liT.ap q).out++[(liT.ap q).gg g]).length:=by
   have:(liT.ap q).out.length=q.out.length:=List.length_map ..; simp only[List.length_append,List.length_cons,List.length_nil]at l1 ⊢; omega
  rw[q91]at h3; simp only at h3; rw[if_neg l2]at h3; exact absurd n1 h3
theorem j3E(fl:Fl)(l:List OpV)(h:(q00.run fl l).bad=0):∀ g∈(q00.run fl l).out,g.fits=true:=by
 have k:=Goo.run j6x fl l; have e0:liT.ap q00=q00:=rfl; have hb:(q00.run fl l)=liT.ap (q00.run fl l):=by
  have:=k.com q00 rfl h (by rw[e0]; exact h); rw[e0]at this; exact this
 rw[hb]; intro g hg; have hg:g∈(q00.run fl l).out.map Gph.lim:=hg; obtain⟨y,_,rfl⟩:=List.mem_map.1 hg; exact j2Q y
/-! ### The page that is moved along -/
def q8N(x y:Int):OpV:=⟨[99,109],[.mk 2 1000 [] [] [],.mk 2 0 [] [] [],.mk 2 0 [] [] [],.mk 2 1000 [] [] [],.mk 2 x [] [] [],.mk 2 y [] [] []]⟩
theorem j20(fl:Fl){x y:Int}(hx : -1000000≤x∧x≤1000000)(hy : -1000000≤y∧y≤1000000):q00.dop fl (q8N x y)=(shT x y).ap q00:=by
 have hw:∀{z:Int},-1000000≤z∧z≤1000000→twoF x 1000 y 0 z=twoF x 1000 y 0 z:=fun _=>rfl
 have t1:twoF x 1000 y 0 (IntKind.i64.wrap (1*0))=some x:=by
  unfold twoF okF; have e:IntKind.i64.wrap (1*0)=0:=by decide
  rw[e,if_pos (by unfold Lim; omega)]; have:(x*1000+y*0) / 1000+0=x:=by omega
  rw[this,if_pos (by unfold Lim; omega)]
 have t2:twoF x 0 y 1000 (IntKind.i64.wrap (1*0))=some y:=by
  unfold twoF okF; have e:IntKind.i64.wrap (1*0)=0:=by decide
  rw[e,if_pos (by unfold Lim; omega)]; have:(x*0+y*1000) / 1000+0=y:=by omega
  rw[this,if_pos (by unfold Lim; omega)]
 have hc:catF (1000,0,0,1000,x,y) q8b=some (1000,0,0,1000,x,y):=by
  unfold catF q9b; have r1:rowF 1000 0 0 1000 0 0 1000 0 0=some (1000,0):=by decide
  have r2:rowF 0 1000 0 1000 0 0 1000 0 0=some (0,1000):=by decide
  have r3:rowF x y 1 1000 0 0 1000 0 0=some (x,y):=by unfold rowF; rw[t1,t2]
  simp only[q8b,r1,r2,r3]
 have hd:q00.dop fl (q8N x y)={ q00.er (errO (catF (1000,0,0,1000,x,y) q8b))with s:={ q00.s with ctm:=(catF (1000,0,0,1000,x,y) q8b).getD m60 } }:=rfl; rw[hd,hc]; show PT.mk _ _ _ _ _ _ _=PT.mk _ _ _ _ _ _ _
 simp only[errO,Option.isNone_some,Option.getD_some,PT.er,q00,q8b,shT,sh6,Int.zero_add,List.map_nil]; rfl
theorem j1C(fl:Fl)(l:List OpV){x y:Int}(hx : -1000000≤x∧x≤1000000)(hy : -1000000≤y∧y≤1000000)(h:(q00.run fl l).bad=0):
  ((q00.run fl (q8N x y::l)).bad=0→(q00.run fl (q8N x y::l)).out=(q00.run fl l).out.map (Gph.sh x y))∧((q00.run fl (q8N x y::l)).bad≠0→(q00.run fl (q8N x y::l)).bad=1):=by
 have k:=Goo.run (j6U hx hy) fl l; have rc:q00.run fl (q8N x y::l)=if(q00.dop fl (q8N x y)).bad=0 then PT.run fl (q00.dop fl (q8N x y)) l else q00.dop fl (q8N x y):=rfl
 rw[rc,j20 fl hx hy,if_pos (show((shT x y).ap q00).bad=0 from rfl)]; refine⟨fun hb=>?_,fun hb=>k.err q00 rfl h hb⟩; have e:=k.com q00 rfl h hb; show(PT.run fl ((shT x y).ap q00) l).out=_
 rw[e]; rfl
end Go.Av.Tryz
set_option linter.unusedSimpArgs false
set_option maxRecDepth 100000
set_option maxHeartbeats 16000000
namespace Go.Av.Tryz
open Go.Proofs
def q08:q0i:=
 .seq (.reg [⟨some 2,.allo [.int .i64 0,.int .i64 0,.str [],.list [],.list []],none⟩]) (.seq (.reg [Qc 3 0,Q 4 (.bld [(0,1),(1,1),(2,1),(3,1),(4,1)] [.int .i64 0, 
 .int .i64 0,.str [],.list [],.list []] [false,false,false,true,true] [(0,.k (.d (.int .i64 2))),(1,.t 3)]),⟨none,.st 5 (.t 2) (.t 4),none⟩]) .ret)
def q1a:List LRes:=[.cell 2 true 5]
theorem q2z:q0r Tryz.prog 18 5 q08 q1a:=⟨_,_,Tryz.func18,rfl,by kernel_rfl,by kernel_rfl,rfl⟩
theorem z6V(n:Int):q0s Tryz.prog 18 [I n] (fun r=>r=.one (numW n).d):=by
 refine q2z.call rfl ?_; simp(maxSteps:=2000000)only[go_sem,↓reduceIte,q08,q1a,I,numW,Val.d,q0K,q3w]
def q1k:q0i:=
 .seq (.reg [Qx 8 KF]) (.seq (.reg [Qc 21 1,⟨some 22,.call 8 [.t 21],none⟩,Qc 20 22,Q 23 (.ext 0 (.t 20)),Q 24 (.ext 1 (.t 20)),Qa 9 23,Qa 10 24]) (.seq (.reg [Qc 25 9, 
 ⟨some 26,.prim .call [.k (.fn (.func 15) [] []),.t 25] [],none⟩,Qa 11 26]) (.seq (.seq (.reg [Qc 27 11,Q 28 (.not (.t 27))]) (.cond (.t 28) (.seq (.reg [Qx 8 KF]) .ret) 
 .skip)) (.seq (.seq (.reg [Qc 29 10,Q 30 (.not (.t 29)),Qc 31 30,Qd 32 0 31 false,⟨some 33,.call 16 [.t 32],some (31,false)⟩,Qg 34 (.not (.t 33)) 31 false,Q 35 (.pick 
 (.t 31) KT (.t 34)),Qc 36 35,Qd 37 2 36 false,Qd 38 3 36 false,⟨some 39,.bsl 3 1 [.t 37,.t 38],some (36,false)⟩,⟨some 40,.call 17 [.t 39],some (36,false)⟩,Qg 41 
 (.not (.t 40)) 36 false,Q 42 (.pick (.t 36) KT (.t 41))]) (.cond (.t 42) (.seq (.reg [Qx 8 KT]) .ret) .skip)) (.seq (.reg [Qc 44 0,Qc 45 9,⟨some 46,.prim .call [.k (.fn 
 (.func 11) [] []),.t 44,.t 45] [],none⟩,Qc 43 46,Q 47 (.ext 0 (.t 43)),Q 48 (.ext 1 (.t 43)),Qa 12 47,Qa 13 48]) (.seq (.seq (.reg [Qc 49 13,Q 50 (.eqN 0 true (.t 49))]) 
 (.cond (.t 50) (.seq (.reg [Qx 8 KT]) .ret) .skip)) (.seq (.reg [Qx 14 (.k (.fn (.func 18) [] []))]) (.seq (.reg [Qc 51 14,⟨some 52,.prim .call [.t 51,.k (.d (.int .i64 
 1000))] [],none⟩,Qc 53 14,⟨some 54,.prim .call [.t 53,.k (.d (.int .i64 0))] [],none⟩,Qc 55 14,⟨some 56,.prim .call [.t 55,.k (.d (.int .i64 0))] [],none⟩,Qc 57 14, 
 ⟨some 58,.prim .call [.t 57,.k (.d (.int .i64 1000))] [],none⟩,Qc 59 14,Qc 60 2,⟨some 61,.prim .call [.t 59,.t 60] [],none⟩,Qc 62 14,Qc 63 3,⟨some 64,.prim .call [.t 
 62,.t 63] [],none⟩,⟨some 65,.bsl 35 5 [.t 52,.t 54,.t 56,.t 58,.t 61,.t 64],none⟩,Q 66 (.bld [(0,1),(1,1)] [.str [],.list []] [] [(0,.k (.d (.str [99,109]))), 
 (1,.t 65)]),⟨some 15,.allo [.str [],.list []],none⟩,⟨none,.st 2 (.t 15) (.t 66),none⟩]) (.seq (.reg [Q 68 (.ld true 2 (.t 15)),⟨some 69,.bsl 31 2 [.t 68],none⟩,Qc 70 
 0,⟨some 71,.app 31 2 40 false (.t 69) (.t 70),none⟩,Qc 72 9,⟨some 73,.prim .call [.k (.fn (.func 11) [] []),.t 71,.t 72] [],none⟩,Qc 67 73,Q 74 (.ext 0 (.t 67)),Q 75 
 (.ext 1 (.t 67)),Qa 16 74,Qa 13 75]) (.seq (.seq (.reg [Qc 76 13,Q 77 (.eqN 0 true (.t 76))]) (.cond (.t 77) (.seq (.reg [Qc 78 13,⟨some 79,.call 19 [.t 78],none⟩,Q 80 
 (.bin .eql (.t 79) (Ki 1)),Qc 81 80,Qd 82 13 81 false,⟨some 83,.call 19 [.t 82],some (81,false)⟩,Qg 84 (.bin .eql (.t 83) (Ki 2)) 81 false,Q 85 (.pick (.t 81) KT (.t 
 84)),Qa 8 85]) .ret) .skip)) (.seq (.seq (.reg [Qc 86 12,Q 87 (.len false (.t 86)),Qc 88 16,Q 89 (.len false (.t 88)),Q 90 (.bin .neq (.t 87) (.t 89))]) (.cond (.t 90) (.seq 
 (.reg [Qx 8 KF]) .ret) .skip)) (.seq (.seq (.reg [Qx 17 (Ki 0)]) (.block 0 (.loop (.seq (.seq (.reg [Qc 91 17,Qc 92 12,Q 93 (.len false (.t 92)),Q 94 (.bin .lss (.t 91) (.t 
 93))]) (.cond (.t 94) .skip (.exit 0))) (.seq (.block 1 (.seq (.reg [Qc 97 12,Qc 98 17,Q 99 (.ia 10 (.t 97) (.t 98)),Q 100 (.ld true 10 (.t 99)),⟨some 18,.allo [.str [], 
 .int .i64 0,.int .i64 0,.int .i64 0,.int .i64 0,.int .i64 0,.int .i64 0,.int .i64 0,.int .i64 0,.int .i64 0],none⟩,⟨none,.st 10 (.t 18) (.t 100),none⟩]) (.seq (.reg 
 [Qc 101 16,Qc 102 17,Q 103 (.ia 10 (.t 101) (.t 102)),Q 104 (.ld true 10 (.t 103)),⟨some 19,.allo [.str [],.int .i64 0,.int .i64 0,.int .i64 0,.int .i64 0,.int .i64 0, 
 .int .i64 0,.int .i64 0,.int .i64 0,.int .i64 0],none⟩,⟨none,.st 10 (.t 19) (.t 104),none⟩]) (.seq (.reg [Q 105 (.fa 1 (.t 19)),Q 106 (.fa 0 (.t 105)),Q 107 (.ld false 1 
 (.t 106)),Q 108 (.fa 1 (.t 18)),Q 109 (.fa 0 (.t 108)),Q 110 (.ld false 1 (.t 109)),Qc 111 2,Q 112 (.bin .add (.t 110) (.t 111)),Q 113 (.bin .neq (.t 107) (.t 112)),Qc 114 
 113,Qg 115 (.fa 1 (.t 19)) 114 false,Qg 116 (.fa 1 (.t 115)) 114 false,Qg 117 (.ld false 1 (.t 116)) 114 false,Qg 118 (.fa 1 (.t 18)) 114 false,Qg 119 (.fa 1 (.t 118)) 114 
 false,Qg 120 (.ld false 1 (.t 119)) 114 false,Qd 121 3 114 false,Qg 122 (.bin .add (.t 120) (.t 121)) 114 false,Qg 123 (.bin .neq (.t 117) (.t 122)) 114 false,Q 124 (.pick 
 (.t 114) KT (.t 123)),Qc 125 124,Qg 126 (.fa 3 (.t 19)) 125 false,Qg 127 (.fa 0 (.t 126)) 125 false,Qg 128 (.ld false 1 (.t 127)) 125 false,Qg 129 (.fa 3 (.t 18)) 125 false, 
 Qg 130 (.fa 0 (.t 129)) 125 false,Qg 131 (.ld false 1 (.t 130)) 125 false,Qd 132 2 125 false,Qg 133 (.bin .add (.t 131) (.t 132)) 125 false,Qg 134 (.bin .neq (.t 128) (.t 
 133)) 125 false,Q 135 (.pick (.t 125) KT (.t 134)),Qc 136 135,Qg 137 (.fa 3 (.t 19)) 136 false,Qg 138 (.fa 1 (.t 137)) 136 false,Qg 139 (.ld false 1 (.t 138)) 136 false,Qg 
 140 (.fa 3 (.t 18)) 136 false,Qg 141 (.fa 1 (.t 140)) 136 false,Qg 142 (.ld false 1 (.t 141)) 136 false,Qd 143 3 136 false,Qg 144 (.bin .add (.t 142) (.t 143)) 136 false,Qg 
 145 (.bin .neq (.t 139) (.t 144)) 136 false,Q 146 (.pick (.t 136) KT (.t 145)),Qc 147 146,Qg 148 (.fa 0 (.t 18)) 147 false,Qg 149 (.ld false 1 (.t 148)) 147 false,Qg 150 
 (.fa 0 (.t 19)) 147 false,Qg 151 (.ld false 1 (.t 150)) 147 false,Qg 152 (.bin .neq (.t 149) (.t 151)) 147 false,Q 153 (.pick (.t 147) KT (.t 152)),Qc 154 153,Qg 155 (.fa 5 
 (.t 18)) 154 false,Qg 156 (.ld false 1 (.t 155)) 154 false,Qg 157 (.fa 5 (.t 19)) 154 false,Qg 158 (.ld false 1 (.t 157)) 154 false,Qg 159 (.bin .neq (.t 156) (.t 158)) 154 
 false,Q 160 (.pick (.t 154) KT (.t 159)),Qc 161 160,Qg 162 (.fa 6 (.t 19)) 161 false,Qg 163 (.fa 0 (.t 162)) 161 false,Qg 164 (.ld false 1 (.t 163)) 161 false,Qg 165 (.fa 6 
 (.t 18)) 161 false,Qg 166 (.fa 0 (.t 165)) 161 false,Qg 167 (.ld false 1 (.t 166)) 161 false,Qd 168 2 161 false,Qg 169 (.bin .add (.t 167) (.t 168)) 161 false,Qg 170 (.bin 
 .neq (.t 164) (.t 169)) 161 false,Q 171 (.pick (.t 161) KT (.t 170)),Qc 172 171,Qg 173 (.fa 6 (.t 19)) 172 false,Qg 174 (.fa 3 (.t 173)) 172 false,Qg 175 (.ld false 1 (.t 
 174)) 172 false,Qg 176 (.fa 6 (.t 18)) 172 false,Qg 177 (.fa 3 (.t 176)) 172 false,Qg 178 (.ld false 1 (.t 177)) 172 false,Qd 179 3 172 false,Qg 180 (.bin .add (.t 178) (.t 
 179)) 172 false,Qg 181 (.bin .neq (.t 175) (.t 180)) 172 false,Q 182 (.pick (.t 172) KT (.t 181))]) (.cond (.t 182) (.seq (.reg [Qx 8 KF]) .ret) .skip))))) (.reg [Qc 95 17,Q 
 96 (.bin .add (.t 95) (Ki 1)),Qa 17 96])))))) (.seq (.reg [Qx 8 KT]) .ret)))))))))))))
def q1o:List LRes:=[.tmp 8]
theorem q2J:q0r Tryz.prog 4 183 q1k q1o:=⟨_,_,Tryz.func4,rfl,by kernel_rfl,by kernel_rfl,rfl⟩
theorem z39(l:List OpV)(fs:Fl)(x y:Int)(hl:z79 l)(hfs:fs.length≤1000000000)(hw:∀ p∈fs,p.2.wf∧p.1.length≤9223372036854775807∧i64 p.2.miss)(hx:i64 x)(hy:i64 y):
  q0s Tryz.prog 4 [opsD l,.list (fs.map namD),I x,I y] (fun r=>r=.one (.bool true)):=by
 refine q2J.call rfl ?_; simp(maxSteps:=2000000)only[go_sem,↓reduceIte,q1k,q1o,opsD,I]; refine q0g.of (z0W fs hfs hw) ?_; obtain⟨hf5,hfb⟩:=j4g fs fun p hp=>(hw p hp).1
 generalize foR fs=R at *; obtain⟨fl,b⟩:=R; simp only at hf5 hfb; simp(maxSteps:=2000000)only[go_sem,↓reduceIte]; refine q0c.q2q ([]) ([]) rfl ((z2V fl (by omega)).q5j (by kernel_rfl)) rfl rfl (by simp only[q1q,St.obj,aget,AObj.ren,AV.ren,AV.ren1,renL,q4L,renR,renQ,List.getD_cons_zero,List.getD_cons_succ,and_true,and_self,Nat.reduceEqDiff,↓reduceIte,reduceCtorEq]) rfl rfl rfl ⟨rfl,rfl⟩ ?_; simp(maxSteps:=2000000)only[go_sem,↓reduceIte]; intro hbt; subst hbt; obtain⟨rfl,hl5,hok⟩:=hfb rfl
 refine q0g.post (z0Y l hl) (fun r hr=>?_); obtain⟨g1,rfl,hg1⟩:=hr; cases g1 with
 |false=>simp(maxSteps:=2000000)only[go_sem,↓reduceIte]
 |true=>
  obtain⟨l1,l2⟩:=hg1 rfl; simp(maxSteps:=2000000)only[go_sem,↓reduceIte]; refine q0g.of (z8S [x,y] (by simp)) ?_; cases hsm:z7W [x,y]with
  |false=>simp(maxSteps:=2000000)only[go_sem,↓reduceIte]
  |true=>
   simp only[z7W,List.all_cons,List.all_nil,Bool.and_true,Bool.and_eq_true,decide_eq_true_eq]at hsm; obtain⟨hx6,hy6⟩:=hsm; have hfk:∀ p∈q1p fs,p.2.ok:=fun p hp=>by
    obtain⟨s,hs⟩:=z2G hp; exact(hok _ hs).2.1
   have hlo:=j0I l1 l2; have hll:=l1.1; have hllen:=q4j l; have pB:=q53 (q1p fs) l (by omega) hfk hlo; have vB:=q8T (q1p fs) l (by omega); have hM:∀ o∈(q8N x y::l),o.ok:=fun o ho=>by
    rcases List.mem_cons.1 ho with rfl|ho
    ·refine j6I (by simp) fun v hv=>?_
     have lx:Lim x:=by unfold Lim; omega
     have ly:Lim y:=by unfold Lim; omega
     have n1:Lim 1000:=by decide
     have n0:Lim 0:=by decide
     simp only[List.mem_cons,List.not_mem_nil,or_false]at hv; rcases hv with rfl|rfl|rfl|rfl|rfl|rfl
     ·exact q9t n1
     ·exact q9t n0
     ·exact q9t n0
     ·exact q9t n1
     ·exact q9t lx
     ·exact q9t ly
    ·exact hlo o ho
   have pC:=q53 (q1p fs) (q8N x y::l) (by simp; omega) hfk hM; have vC:=q8T (q1p fs) (q8N x y::l) (by simp; omega); have hso:=j1C (q1p fs) l hx6 hy6; have hfit:=j3E (q1p fs) l; have iB:=z3W hfk l z6L; rw[vB]at pB; rw[vC]at pC; generalize q00.run (q1p fs) l=qb at *; generalize q00.run (q1p fs) (q8N x y::l)=qc at *; simp(maxSteps:=2000000)only[go_sem,↓reduceIte]
   refine q0c.q2q ([]) ([]) rfl (pB.q5j (by kernel_rfl)) rfl rfl (by simp only[q1q,St.obj,aget,AObj.ren,AV.ren,AV.ren1,renL,q4L,renR,renQ,List.getD_cons_zero,List.getD_cons_succ,and_true,and_self,Nat.reduceEqDiff,↓reduceIte,reduceCtorEq]) rfl rfl rfl ⟨rfl,rfl⟩ ?_
   by_cases eB:qb.bad=0
   ·have sB:qb.res=qb.out:=if_pos eB; rw[eB,sB,show errD 0=.nil from rfl]; simp(maxSteps:=2000000)only[go_sem,↓reduceIte]; have hv:=fun n=>z6V n
    refine q0c.q2q ([]) ([]) rfl ((hv 1000).q5j (by kernel_rfl)) rfl rfl (by simp only[q1q,St.obj,aget,AObj.ren,AV.ren,AV.ren1,renL,q4L,renR,renQ,List.getD_cons_zero,List.getD_cons_succ,and_true,and_self,Nat.reduceEqDiff,↓reduceIte,reduceCtorEq]) rfl rfl rfl ⟨rfl,rfl⟩ ?_; simp(maxSteps:=2000000)only[go_sem,↓reduceIte]
    refine q0c.q2q ([]) ([]) rfl ((hv 0).q5j (by kernel_rfl)) rfl rfl (by simp only[q1q,St.obj,aget,AObj.ren,AV.ren,AV.ren1,renL,q4L,renR,renQ,List.getD_cons_zero,List.getD_cons_succ,and_true,and_self,Nat.reduceEqDiff,↓reduceIte,reduceCtorEq]) rfl rfl rfl ⟨rfl,rfl⟩ ?_; simp(maxSteps:=2000000)only[go_sem,↓reduceIte]
    refine q0c.q2q ([]) ([]) rfl ((hv 0).q5j (by kernel_rfl)) rfl rfl (by simp only[q1q,St.obj,aget,AObj.ren,AV.ren,AV.ren1,renL,q4L,renR,renQ,List.getD_cons_zero,List.getD_cons_succ,and_true,and_self,Nat.reduceEqDiff,↓reduceIte,reduceCtorEq]) rfl rfl rfl ⟨rfl,rfl⟩ ?_; simp(maxSteps:=2000000)only[go_sem,↓reduceIte]
    refine q0c.q2q ([]) ([]) rfl ((hv 1000).q5j (by kernel_rfl)) rfl rfl (by simp only[q1q,St.obj,aget,AObj.ren,AV.ren,AV.ren1,renL,q4L,renR,renQ,List.getD_cons_zero,List.getD_cons_succ,and_true,and_self,Nat.reduceEqDiff,↓reduceIte,reduceCtorEq]) rfl rfl rfl ⟨rfl,rfl⟩ ?_; simp(maxSteps:=2000000)only[go_sem,↓reduceIte]
    refine q0c.q2q ([]) ([]) rfl ((hv x).q5j (by kernel_rfl)) rfl rfl (by simp only[q1q,St.obj,aget,AObj.ren,AV.ren,AV.ren1,renL,q4L,renR,renQ,List.getD_cons_zero,List.getD_cons_succ,and_true,and_self,Nat.reduceEqDiff,↓reduceIte,reduceCtorEq]) rfl rfl rfl ⟨rfl,rfl⟩ ?_; simp(maxSteps:=2000000)only[go_sem,↓reduceIte]
    refine q0c.q2q ([]) ([]) rfl ((hv y).q5j (by kernel_rfl)) rfl rfl (by simp only[q1q,St.obj,aget,AObj.ren,AV.ren,AV.ren1,renL,q4L,renR,renQ,List.getD_cons_zero,List.getD_cons_succ,and_true,and_self,Nat.reduceEqDiff,↓reduceIte,reduceCtorEq]) rfl rfl rfl ⟨rfl,rfl⟩ ?_; simp(maxSteps:=2000000)only[go_sem,↓reduceIte,numW,Val.d,q0K,q3w]; have z1:(0+1+l.length≤140737488355327)=True:=eq_true (by omega); have z2:((0+1+l.length)*40≤140737488355328)=True:=eq_true (by omega)
    simp(maxSteps:=2000000)only[go_sem,↓reduceIte,j4p,List.length_map,z1,z2]; refine q0c.q2q ([]) ([]) rfl (pC.q5j (by kernel_rfl)) rfl rfl (by simp only[q1q,St.obj,aget,AObj.ren,AV.ren,AV.ren1,renL,q4L,renR,renQ,List.getD_cons_zero,List.getD_cons_succ,and_true,and_self,Nat.reduceEqDiff,↓reduceIte,reduceCtorEq]) rfl rfl rfl ⟨rfl,rfl⟩ ?_
    by_cases eC:qc.bad=0
    ·have sC:qc.res=qc.out:=if_pos eC; rw[eC,sC,(hso eB).1 eC,show errD 0=.nil from rfl]; have hfg:=hfit eB; have lB:=iB.ok.out eB; have hgl:=q8z qb.out; have hgl2:(q2p (qb.out.map (Gph.sh x y))).length=qb.out.length:=by rw[q8z,List.length_map]
     simp(maxSteps:=2000000)only[go_sem,↓reduceIte,hgl,hgl2]; refine q0l (fun i:Nat=>⟨[(2,.d (.int .i64 x)),(3,.d (.int .i64 y)),(12,.d (.list (q2p qb.out))),(16,.d (.list (q2p (qb.out.map (Gph.sh x y))))),(17,.d (.int .i64 i))],[],[]⟩)
      (fun i=>i≤qb.out.length) (fun i=>qb.out.length-i) 0 ?_ (Nat.zero_le _) ?_
     ·refine q0d ?_ trivial; simp(maxSteps:=2000000)only[go_sem,↓reduceIte,Sub,Int.natCast_add,Int.natCast_mul]
     ·intro i hi; simp(maxSteps:=2000000)only[go_sem,↓reduceIte,hgl]; intro q1; obtain⟨g,hg⟩:=get_some (l:=qb.out) (i:=i) (by omega); have hgd:getI (q2p qb.out) (i:Int)=some g.d:=by rw[q0a,q2p,List.getElem?_map,hg]; rfl
      have hgd2:getI (q2p (qb.out.map (Gph.sh x y))) (i:Int)=some (g.sh x y).d:=by rw[q0a,q2p,List.getElem?_map,List.getElem?_map,hg]; rfl
      have hf:=hfg g (List.mem_of_getElem? hg); simp only[Gph.fits,Bool.and_eq_true,decide_eq_true_eq,Lim]at hf; obtain⟨f1,f2,f3,f4,f5,f6⟩:=hf
      replace f1:=of_decide_eq_true f1
      replace f2:=of_decide_eq_true f2
      replace f3:=of_decide_eq_true f3
      replace f4:=of_decide_eq_true f4
      replace f5:=of_decide_eq_true f5
      replace f6:=of_decide_eq_true f6
      have w1:IntKind.i64.wrap (g.fr.1+x)=g.fr.1+x:=IntWalk.i64_in _ (by omega); have w2:IntKind.i64.wrap (g.fr.2+y)=g.fr.2+y:=IntWalk.i64_in _ (by omega); have w3:IntKind.i64.wrap (g.to.1+x)=g.to.1+x:=IntWalk.i64_in _ (by omega); have w4:IntKind.i64.wrap (g.to.2+y)=g.to.2+y:=IntWalk.i64_in _ (by omega); have w5:IntKind.i64.wrap (g.box.1+x)=g.box.1+x:=IntWalk.i64_in _ (by omega); have w6:IntKind.i64.wrap (g.box.2.2.2+y)=g.box.2.2.2+y:=IntWalk.i64_in _ (by omega)
      simp(maxSteps:=2000000)(disch:=omega)only[go_sem,↓reduceIte,hgd,hgd2,Gph.d,Gph.sh,I,w1,w2,w3,w4,w5,w6]; refine⟨i+1,?_,by omega,by omega⟩; refine q0d ?_ trivial; simp(maxSteps:=2000000)only[go_sem,↓reduceIte,Sub,Int.natCast_add,Int.natCast_mul]
    ·have e1:=(hso eB).2 eC; have hn:=z6z qc.bad; rw[q13 eC,e1]at hn; rw[q13 eC,e1]; simp(maxSteps:=2000000)only[go_sem,↓reduceIte]; refine q0g.of hn ?_; simp(maxSteps:=2000000)only[go_sem,↓reduceIte]
   ·rw[q13 eB]; simp(maxSteps:=2000000)only[go_sem,↓reduceIte]
theorem j53:Tryz.prog.cellsOf 3=1:=by kernel_rfl
theorem z7c:Tryz.prog.cellsOf 9=1:=by kernel_rfl
theorem j38:Tryz.prog.cellsOf 29=1:=by kernel_rfl
theorem j54:Tryz.prog.cellsOf 33=1:=by kernel_rfl
theorem j39:Tryz.prog.cellsOf 35=5:=by kernel_rfl
theorem j57:Tryz.prog.cellsOf 105=6:=by kernel_rfl
theorem j0J(v:Val):mkD v.d.cells=v.d:=by rw[Val.d_eq]; rfl
theorem j5d(x:Fld):mkD x.d.cells=x.d:=by rw[Fld.d_eq]; rfl
set_option maxRecDepth 100000 in
theorem j7c:∀ k:Nat,(∀ ds,OfT Tryz.prog k 35 ds→∃ v:Val,ds=v.d.cells)∧(∀ ds,OfT Tryz.prog k 105 ds→∃ x:Fld,ds=x.d.cells):=by
 intro k; induction k using Nat.strongRecOn with
 |_ k ih=>
  cases k with
  |zero=>exact⟨fun _ h=>h.elim,fun _ h=>h.elim⟩
  |succ k=>
   refine⟨fun ds h=>?_,fun ds h=>?_⟩
   ·unfold OfT at h; rw[Tryz.underlying35]at h; obtain⟨h1,h2⟩:=h; rw[j39]at h1; match ds,h1 with
    |[a,b,c,d,e],_=>
     have f0:OfT Tryz.prog k 3 (([a,b,c,d,e].drop 0).take (Tryz.prog.cellsOf 3)):=h2 0 _ rfl; have f1:OfT Tryz.prog k 3 (([a,b,c,d,e].drop 1).take (Tryz.prog.cellsOf 3)):=h2 1 _ rfl; have f2:OfT Tryz.prog k 9 (([a,b,c,d,e].drop 2).take (Tryz.prog.cellsOf 9)):=h2 2 _ rfl; have f3:OfT Tryz.prog k 29 (([a,b,c,d,e].drop 3).take (Tryz.prog.cellsOf 29)):=h2 3 _ rfl; have f4:OfT Tryz.prog k 33 (([a,b,c,d,e].drop 4).take (Tryz.prog.cellsOf 33)):=h2 4 _ rfl
     simp only[j53,z7c,j38,j54,List.drop_zero,List.drop_succ_cons,List.take_succ_cons,List.take_zero]at f0 f1 f2 f3 f4; obtain⟨n0,e0,_⟩:=f0.int Tryz.underlying3; obtain⟨n1,e1,_⟩:=f1.int Tryz.underlying3; obtain⟨s,e2,_⟩:=f2.string Tryz.underlying9; obtain⟨l,m,hm,e3,_,hl⟩:=f3.slice Tryz.underlying29; obtain⟨f,m',hm',e4,_,hf⟩:=f4.slice Tryz.underlying33; obtain⟨ls,rfl⟩:=q4X (g:=Val.d) (l:=l) fun x hx=>by
      obtain⟨cs,q1,q2⟩:=hl x hx; obtain⟨v,rfl⟩:=(ih m (by omega)).1 cs q2; exact⟨v,by rw[q1,j0J]⟩
     obtain⟨fs,rfl⟩:=q4X (g:=Fld.d) (l:=f) fun x hx=>by
      obtain⟨cs,q1,q2⟩:=hf x hx; obtain⟨y,rfl⟩:=(ih m' (by omega)).2 cs q2; exact⟨y,by rw[q1,j5d]⟩
     simp only[List.cons.injEq,and_true]at e0 e1 e2 e3 e4; refine⟨.mk n0 n1 s ls fs,?_⟩; rw[mk_d,e0,e1,e2,e3,e4,q4W,z3k]; rfl
   ·unfold OfT at h; rw[Tryz.underlying105]at h; obtain⟨h1,h2⟩:=h; rw[j57]at h1; match ds,h1 with
    |[a,b,c,d,e,f],_=>
     have f0:OfT Tryz.prog k 9 (([a,b,c,d,e,f].drop 0).take (Tryz.prog.cellsOf 9)):=h2 0 _ rfl; have f1:OfT Tryz.prog k 35 (([a,b,c,d,e,f].drop 1).take (Tryz.prog.cellsOf 35)):=h2 1 _ rfl; simp only[z7c,j39,List.drop_zero,List.drop_succ_cons,List.take_succ_cons,List.take_zero]at f0 f1; obtain⟨s,e0,_⟩:=f0.string Tryz.underlying9; obtain⟨v,e1⟩:=(ih k (by omega)).1 _ f1; simp only[List.cons.injEq,and_true]at e0; refine⟨.mk s v,?_⟩; rw[e0,e1]; rfl
mutual
theorem bkV:∀(v:Val) (N:Nat),bkD v.d≤N→v.sm N=true∧(ptV v).1≤bkD v.d
 |.mk k n s l f,N,h=>by
  rw[mk_d]at h ⊢; simp only[bkD,bkL]at h ⊢; obtain⟨a1,a2,a3⟩:=bkVL l N (by omega); obtain⟨b1,b2,b3⟩:=bkVF f N (by omega); simp only[Val.sm,ptV,Bool.and_eq_true,decide_eq_true_eq]; exact⟨⟨by omega,by omega,by omega,a1,b1⟩,by omega⟩
theorem bkVL:∀(l:List Val) (N:Nat),bkL (q0K l)≤N→smL N l=true∧l.length≤bkL (q0K l)∧(ptL l).1≤bkL (q0K l)
 |[],N,h=>by simp[smL,ptL,q0K,bkL]
 |v::r,N,h=>by
  simp only[q0K,bkL]at h ⊢; obtain⟨a1,a2⟩:=bkV v N (by omega); obtain⟨b1,b2,b3⟩:=bkVL r N (by omega); have:=(q64 v).1; simp only[smL,ptL,Bool.and_eq_true,List.length_cons]; exact⟨⟨a1,b1⟩,by omega,by omega⟩
theorem bkVF:∀(l:List Fld) (N:Nat),bkL (q3w l)≤N→smF N l=true∧l.length≤bkL (q3w l)∧(ptF l).1≤bkL (q3w l)
 |[],N,h=>by simp[smF,ptF,q3w,bkL]
 |.mk nm v::r,N,h=>by
  have hd:bkD (Fld.mk nm v).d=nm.length+1+bkD v.d:=by
   rw[j6i,Val.d_eq v]; simp only[bkD,bkL]
  simp only[q3w,bkL,hd]at h ⊢; obtain⟨a1,a2⟩:=bkV v N (by omega); obtain⟨b1,b2,b3⟩:=bkVF r N (by omega); have:=(q64 v).1; simp only[smF,Fld.sm,ptF,Bool.and_eq_true,List.length_cons,decide_eq_true_eq]; exact⟨⟨⟨by omega,a1⟩,b1⟩,by omega,by omega⟩
end
end Go.Av.Tryz
set_option linter.unusedSimpArgs false
set_option maxRecDepth 100000
namespace Go.Av.Tryz
open Go.Proofs
theorem j02{P:Program}{k:Nat}{t kt e:TypeId}{ds:List D}(hu:P.underlying t=some (.map kt e))(h:OfT P k t ds):∃ ks vs m,k=m+1∧ds=[.map ks vs]∧ks.length=vs.length∧
  (∀ x∈ks,(∃ i n,P.underlying kt=some (.int i)∧x=.int i n)∨(∃ s,P.underlying kt=some .string∧x=.str s))∧∀ x∈vs,∃ cs,x=mkD cs∧OfT P m e cs:=by
 cases k with
 |zero=>exact h.elim
 |succ k=>unfold OfT at h; rw[hu]at h; obtain⟨ks,vs,h1,h2,_,h3,h4⟩:=h; exact⟨ks,vs,k,rfl,h1,h2,h3,h4⟩
theorem zip_map{α:Type}{g:α→D}:∀(ks vs:List D),ks.length=vs.length→(∀ x∈ks,∃ n:Int,x=.int .i64 n)→(∀ x∈vs,∃ y:α,x=g y)→∃ l:List (Int×α),ks=q2T l∧vs=l.map fun p=>g p.2
 |[],[],_,_,_=>⟨[],rfl,rfl⟩
 |[],_::_,h,_,_=>by simp at h
 |_::_,[],h,_,_=>by simp at h
 |k::ks,v::vs,h,h1,h2=>by
  obtain⟨l,e1,e2⟩:=zip_map ks vs (by simpa using h) (fun x hx=>h1 x (by simp[hx])) (fun x hx=>h2 x (by simp[hx])); obtain⟨n,rfl⟩:=h1 k (by simp); obtain⟨y,rfl⟩:=h2 v (by simp); exact⟨(n,y)::l,by rw[e1]; rfl,by rw[e2]; rfl⟩
theorem j68:Tryz.prog.cellsOf 3=1:=by kernel_rfl
theorem j66:Tryz.prog.cellsOf 4=1:=by kernel_rfl
theorem j7F:Tryz.prog.cellsOf 9=1:=by kernel_rfl
theorem j7D:Tryz.prog.cellsOf 58=1:=by kernel_rfl
theorem j7E:Tryz.prog.cellsOf 59=1:=by kernel_rfl
theorem j5T:Tryz.prog.cellsOf 60=1:=by kernel_rfl
theorem j69:Tryz.prog.cellsOf 127=3:=by kernel_rfl
theorem j67:Tryz.prog.cellsOf 62=5:=by kernel_rfl
theorem wf64{n:Int}(h:(Lit.int .i64 n).wf=true): -9223372036854775808≤n∧n≤9223372036854775807:=by
 have:=wf_i64 h; omega
def Span.in64(s:Span):Prop := -9223372036854775808≤s.fr∧s.fr≤9223372036854775807 ∧ -9223372036854775808≤s.to∧s.to≤9223372036854775807
theorem j5H{k:Nat}{ds:List D}(h:OfT Tryz.prog k 127 ds):∃ s:Span,mkD ds=s.d∧s.in64:=by
 cases k with
 |zero=>exact h.elim
 |succ k=>
  unfold OfT at h; rw[Tryz.underlying127]at h; obtain⟨h1,h2⟩:=h; rw[j69]at h1; match ds,h1 with
  |[a,b,c],_=>
   have f0:OfT Tryz.prog k 3 (([a,b,c].drop 0).take (Tryz.prog.cellsOf 3)):=h2 0 _ rfl; have f1:OfT Tryz.prog k 3 (([a,b,c].drop 1).take (Tryz.prog.cellsOf 3)):=h2 1 _ rfl; have f2:OfT Tryz.prog k 9 (([a,b,c].drop 2).take (Tryz.prog.cellsOf 9)):=h2 2 _ rfl; simp only[j68,j7F,List.drop_zero,List.drop_succ_cons,List.take_succ_cons,List.take_zero]at f0 f1 f2; obtain⟨n0,e0,w0⟩:=f0.int Tryz.underlying3; obtain⟨n1,e1,w1⟩:=f1.int Tryz.underlying3; obtain⟨s,e2,_⟩:=f2.string Tryz.underlying9; simp only[List.cons.injEq,and_true]at e0 e1 e2
   obtain⟨a1,a2⟩:=wf64 w0; obtain⟨b1,b2⟩:=wf64 w1; exact⟨⟨n0,n1,s⟩,by rw[e0,e1,e2]; rfl,a1,a2,b1,b2⟩
theorem j3K{k:Nat}{ds:List D}(h:OfT Tryz.prog k 60 ds):∃ l:List Span,ds=[.list (q2e l)]∧l.length≤maxLen∧∀ s∈l,s.in64:=by
 obtain⟨l,m,_,h1,h2,h3⟩:=h.slice Tryz.underlying60; obtain⟨ys,rfl⟩:=q4X (g:=fun y:{ s:Span // s.in64 }=>y.1.d) (l:=l) fun x hx=>by
  obtain⟨cs,h4,h5⟩:=h3 x hx; obtain⟨s,h6,h7⟩:=j5H h5; exact⟨⟨s,h7⟩,by rw[h4,h6]⟩
 refine⟨ys.map (·.1),by rw[h1]; simp[q2e,Function.comp_def],by simpa using h2,fun s hs=>?_⟩; obtain⟨y,_,rfl⟩:=List.mem_map.1 hs; exact y.2
theorem j42{k:Nat}{ds:List D}(h:OfT Tryz.prog k 62 ds):∃ x:Fnt,D.agg ds=x.d∧x.wf ∧ -9223372036854775808≤x.miss∧x.miss≤9223372036854775807:=by
 cases k with
 |zero=>exact h.elim
 |succ k=>
  unfold OfT at h; rw[Tryz.underlying62]at h; obtain⟨h1,h2⟩:=h; rw[j67]at h1; match ds,h1 with
  |[a,b,c,d,e],_=>
   have f0:OfT Tryz.prog k 4 (([a,b,c,d,e].drop 0).take (Tryz.prog.cellsOf 4)):=h2 0 _ rfl; have f1:OfT Tryz.prog k 58 (([a,b,c,d,e].drop 1).take (Tryz.prog.cellsOf 58)):=h2 1 _ rfl; have f2:OfT Tryz.prog k 3 (([a,b,c,d,e].drop 2).take (Tryz.prog.cellsOf 3)):=h2 2 _ rfl; have f3:OfT Tryz.prog k 59 (([a,b,c,d,e].drop 3).take (Tryz.prog.cellsOf 59)):=h2 3 _ rfl; have f4:OfT Tryz.prog k 60 (([a,b,c,d,e].drop 4).take (Tryz.prog.cellsOf 60)):=h2 4 _ rfl
   simp only[j68,j66,j7D,j7E,j5T,List.drop_zero,List.drop_succ_cons,List.take_succ_cons,List.take_zero]at f0 f1 f2 f3 f4; obtain⟨wd,e0⟩:=f0.bool Tryz.underlying4; obtain⟨kw,vw,m1,_,e1,l1,k1,v1⟩:=j02 Tryz.underlying58 f1; obtain⟨ms,e2,wm⟩:=f2.int Tryz.underlying3; obtain⟨kn,vn,m3,_,e3,l3,k3,v3⟩:=j02 Tryz.underlying59 f3; obtain⟨cs,e4,l4,w4⟩:=j3K f4
   have keys:∀ ks:List D,(∀ x∈ks,(∃ i n,Tryz.prog.underlying 3=some (.int i)∧x=.int i n)∨(∃ s,Tryz.prog.underlying 3=some .string∧x=.str s))→∀ x∈ks,∃ n:Int,x=.int .i64 n:=fun ks h x hx=>by
    rcases h x hx with⟨i,n,q1,q2⟩|⟨s,q1,_⟩
    ·rw[Tryz.underlying3]at q1; cases q1; exact⟨n,q2⟩
    ·rw[Tryz.underlying3]at q1; cases q1
   obtain⟨ws,rfl,rfl⟩:=zip_map (g:=D.int .i64) kw vw l1 (keys kw k1) fun x hx=>by
    obtain⟨cs,q1,q2⟩:=v1 x hx; obtain⟨n,q3,_⟩:=q2.int Tryz.underlying3; exact⟨n,by rw[q1,q3]; rfl⟩
   obtain⟨ns,rfl,rfl⟩:=zip_map (g:=D.str) kn vn l3 (keys kn k3) fun x hx=>by
    obtain⟨cs,q1,q2⟩:=v3 x hx; obtain⟨n,q3,_⟩:=q2.string Tryz.underlying9; exact⟨n,by rw[q1,q3]; rfl⟩
   simp only[List.cons.injEq,and_true]at e0 e1 e2 e3 e4; refine⟨⟨wd,ws,ms,ns,cs⟩,by rw[e0,e1,e2,e3,e4]; rfl,⟨fun s hs=>w4 s hs,by unfold maxLen at l4; omega⟩,wf64 wm⟩
theorem j56:Tryz.prog.cellsOf 31=2:=by kernel_rfl
theorem j6C(o:OpV):mkD [.str o.nm,.list (q0K o.args)]=o.d:=rfl
set_option maxRecDepth 100000 in
theorem j7n{k:Nat}{ds:List D}(h:OfT Tryz.prog k 31 ds):∃ o:OpV,ds=[.str o.nm,.list (q0K o.args)]:=by
 cases k with
 |zero=>exact h.elim
 |succ k=>
  unfold OfT at h; rw[Tryz.underlying31]at h; obtain⟨h1,h2⟩:=h; rw[j56]at h1; match ds,h1 with
  |[a,b],_=>
   have f0:OfT Tryz.prog k 9 (([a,b].drop 0).take (Tryz.prog.cellsOf 9)):=h2 0 _ rfl; have f1:OfT Tryz.prog k 29 (([a,b].drop 1).take (Tryz.prog.cellsOf 29)):=h2 1 _ rfl; simp only[z7c,j38,List.drop_zero,List.drop_succ_cons,List.take_succ_cons,List.take_zero]at f0 f1; obtain⟨s,e0,_⟩:=f0.string Tryz.underlying9; obtain⟨l,m,hm,e1,_,hl⟩:=f1.slice Tryz.underlying29; obtain⟨ls,rfl⟩:=q4X (g:=Val.d) (l:=l) fun x hx=>by
    obtain⟨cs,q1,q2⟩:=hl x hx; obtain⟨v,rfl⟩:=(j7c m).1 cs q2; exact⟨v,by rw[q1,j0J]⟩
   simp only[List.cons.injEq,and_true]at e0 e1; exact⟨⟨s,ls⟩,by rw[e0,e1,q4W]⟩
theorem j08{k:Nat}{ds:List D}(h:OfT Tryz.prog k 22 ds):∃ l:List OpV,ds=[opsD l]:=by
 obtain⟨l,m,hm,e1,_,hl⟩:=h.slice Tryz.underlying22; obtain⟨ls,rfl⟩:=q4X (g:=OpV.d) (l:=l) fun x hx=>by
  obtain⟨cs,q1,q2⟩:=hl x hx; obtain⟨o,rfl⟩:=j7n q2; exact⟨o,by rw[q1,j6C]⟩
 exact⟨ls,e1⟩
mutual
theorem j4J:∀ v:Val,awV v≤bkD v.d
 |.mk k n s l f=>by
  have h1:=j34 l; have h2:=j33 f; rw[mk_d]; simp only[awV,bkD,bkL]; omega
theorem j34:∀ l:List Val,awL l≤bkL (q0K l)
 |[]=>by simp[awL]
 |v::r=>by
  have h1:=j4J v; have h2:=j34 r; simp only[awL,q0K,bkL]; omega
theorem j33:∀ l:List Fld,awF l≤bkL (q3w l)
 |[]=>by simp[awF]
 |.mk nm v::r=>by
  have h1:=j4J v; have h2:=j33 r; simp only[awF,q3w,bkL]; have:nm.length+bkD v.d≤bkD (Fld.mk nm v).d:=by
   rw[Fld.d_eq,Val.d_eq v]; simp only[Fld.name,Fld.v,bkD,bkL,D.cells]; omega
  omega
end
theorem z69{x:D}:∀{l:List D},x∈l→bkD x≤bkL l
 |y::r,h=>by
  simp only[bkL]; rcases List.mem_cons.1 h with rfl|h
  ·omega
  ·have:=z69 h; omega
theorem j4M(o:OpV):bkD o.d=o.nm.length+1+(bkL (q0K o.args)+1):=by simp only[OpV.d,bkD,bkL]; try omega
theorem z9x:∀ l:List OpV,l.length≤bkL (l.map OpV.d)
 |[]=>by simp
 |o::r=>by
  have:=z9x r; have e:bkL ((o::r).map OpV.d)=bkD o.d+bkL (r.map OpV.d):=by simp only[List.map_cons,bkL]
  rw[e,j4M]; simp only[List.length_cons]; omega
theorem z9y:∀ l:List Val,l.length≤bkL (q0K l)
 |[]=>by simp
 |v::r=>by
  have:=z9y r; have h:=(bkV v _ (Nat.le_refl _)).2; have:=(q64 v).1; simp only[q0K,bkL,List.length_cons]; omega
theorem z3K{l:List OpV}(h:bkD (opsD l)≤1048576):z79 l∧∀ o∈l,∀ v∈o.args,(ptV v).1≤1048576:=by
 simp only[opsD,bkD]at h; have hlen:=z9x l; have ho:∀ o∈l,bkD o.d≤bkL (l.map OpV.d):=fun o ho=>z69 (List.mem_map_of_mem ho)
 have hv:∀ o∈l,∀ v∈o.args,bkD v.d≤1048576:=fun o h1 v h2=>by
  have:=ho o h1; rw[j4M]at this; have h3:bkD v.d≤bkL (q0K o.args):=z69 (by rw[q4W]; exact List.mem_map_of_mem h2); omega
 refine⟨⟨by omega,fun o h1=>?_⟩,fun o h1 v h2=>?_⟩
 ·have:=ho o h1; rw[j4M]at this; have h4:=z9y o.args; exact⟨by omega,by omega,fun v h2=>⟨(bkV v 1048576 (hv o h1 v h2)).1,by have:=j4J v; have:=hv o h1 v h2; omega⟩⟩
 ·have:=(bkV v 1048576 (hv o h1 v h2)).2; have:=hv o h1 v h2; omega
theorem j55:Tryz.prog.cellsOf 64=6:=by kernel_rfl
theorem j4O:Tryz.prog.cellsOf 62=5:=by kernel_rfl
set_option maxRecDepth 100000 in
theorem j6F{k:Nat}{ds:List D}(h:OfT Tryz.prog k 64 ds):∃ p:List UInt8×Fnt,mkD ds=namD p∧p.2.wf∧i64 p.2.miss:=by
 cases k with
 |zero=>exact h.elim
 |succ k=>
  unfold OfT at h; rw[Tryz.underlying64]at h; obtain⟨h1,h2⟩:=h; rw[j55]at h1; match ds,h1 with
  |[a,b,c,d,e,f],_=>
   have f0:OfT Tryz.prog k 9 (([a,b,c,d,e,f].drop 0).take (Tryz.prog.cellsOf 9)):=h2 0 _ rfl; have f1:OfT Tryz.prog k 62 (([a,b,c,d,e,f].drop 1).take (Tryz.prog.cellsOf 62)):=h2 1 _ rfl; simp only[z7c,j4O,List.drop_zero,List.drop_succ_cons,List.take_succ_cons,List.take_zero]at f0 f1; obtain⟨s,e0,_⟩:=f0.string Tryz.underlying9; obtain⟨x,e1,hw,hm⟩:=j42 f1; simp only[List.cons.injEq,and_true]at e0; have e2:x.d=.agg [.bool x.wide,.map (q2T x.ws) (q85 x.ws),.int .i64 x.miss,.map (q2T x.ns) (q8O x.ns),.list (q2e x.cs)]:=rfl
   rw[e2,D.agg.injEq]at e1; refine⟨(s,x),?_,hw,hm⟩; rw[e0,e1]; rfl
theorem z9w:∀ l:Fl,l.length≤bkL (l.map namD)
 |[]=>by simp
 |p::r=>by
  have:=z9w r; simp only[List.map_cons,bkL,namD,bkD,List.length_cons]; omega
theorem j52{l:Fl}{N:Nat}(h:bkL (l.map namD)≤N):∀ p∈l,p.1.length≤N:=fun p hp=>by
 have h1:bkD (namD p)≤bkL (l.map namD):=z69 (List.mem_map_of_mem hp); simp only[namD,bkD,bkL]at h1; omega
theorem j0Q{k:Nat}{ds:List D}(h:OfT Tryz.prog k 23 ds):∃ l:Fl,ds=[.list (l.map namD)]∧∀ p∈l,p.2.wf∧i64 p.2.miss:=by
 obtain⟨l,m,hm,e1,_,hl⟩:=h.slice Tryz.underlying23; obtain⟨ys,rfl⟩:=q4X (g:=fun y:{ p:List UInt8×Fnt // p.2.wf∧i64 p.2.miss }=>namD y.1) (l:=l) fun x hx=>by
  obtain⟨cs,q1,q2⟩:=hl x hx; obtain⟨p,q3,q4⟩:=j6F q2; exact⟨⟨p,q4⟩,by rw[q1,q3]⟩
 refine⟨ys.map (·.1),by rw[e1]; simp[Function.comp_def],fun p hp=>?_⟩; obtain⟨y,_,rfl⟩:=List.mem_map.1 hp; exact y.2
theorem z5b{l:Fl}(h:bkD (.list (l.map namD))≤1048576)(hw:∀ p∈l,p.2.wf∧i64 p.2.miss):l.length≤1000000000∧∀ p∈l,p.2.wf∧p.1.length≤9223372036854775807∧i64 p.2.miss:=by
 simp only[bkD]at h; have h1:=z9w l; have h2:=j52 (l:=l) (N:=1048576) (by omega); exact⟨by omega,fun p hp=>⟨(hw p hp).1,by have:=h2 p hp; omega,(hw p hp).2⟩⟩
end Go.Av.Tryz
