import Derived.Test.YtfkdhlghpjbbpaaGreatDoorWc
import Derived.Test.YtfkdhlghpjbbpaaGreatDoorAvJ
import Derived.Test.YtfkdhlghpjbbpaaGreatDoorWa
import Derived.Test.YtfkdhlghpjbbpaaGreatDoorWb
set_option linter.unusedSimpArgs false
set_option maxRecDepth 100000
set_option maxHeartbeats 4000000
namespace Go.Av.Tryz
open Go.Proofs
def PT.setN(q:PT)(k:Nat)(x:Int):PT:=
 { q with s:={ q.s with char:=if k=9 then x else q.s.char,word:=if k=10 then x else q.s.word,scale:=if k=11 then x else q.s.scale,lead:=if k=12 then x else q.s.lead,rise:=if k=13 then x else q.s.rise } }
def PT.cm(q:PT)(m:M6):PT:={ q.er (errO (catF m q.s.ctm))with s:={ q.s with ctm:=(catF m q.s.ctm).getD m60 } }
def PT.dop(q:PT)(fl:Fl)(o:OpV):PT:=
 match setAt o.nm with
 |some k=>(q.nu o.args 1).setN k (if o.nm=[84,122]then IntKind.i64.wrap (((q33 o.args 1).getD 0 0).tdiv 100)else(q33 o.args 1).getD 0 0)
 |none=>if o.nm=[113]∨o.nm=[81]then q.sv (decide (o.nm=[81]))
  else if o.nm=[99,109]then(q.nu o.args 6).cm (m6L (q33 o.args 6))
  else if o.nm=[66,84]∨o.nm=[69,84]then q.tx (decide (o.nm=[66,84]))
  else if o.nm=[84,102]then q.chs fl o.args
  else q.ins o
theorem ptrZ:Program.zeroOf Tryz.prog 106=some .nilp:=by kernel_rfl
def doZ(b:Nat)(nm:List UInt8)(x:List D×List D)(i:Nat):AV:=
 match i with
 |0=>.d (.addr (at_ b 0))
 |1=>.d (.map x.1 x.2)
 |2=>.ptr (.l 3) 0
 |3=>.d (.str nm)
 |4=>.tuple [.d (((setAt nm).map fun o=>D.addr (at_ b o)).getD .nilp),.d (.bool ((setAt nm).map fun o=>D.addr (at_ b o)).isSome)]
 |5=>.tuple [.d (((setAt nm).map fun o=>D.addr (at_ b o)).getD .nilp),.d (.bool ((setAt nm).map fun o=>D.addr (at_ b o)).isSome)]
 |6=>.d (((setAt nm).map fun o=>D.addr (at_ b o)).getD .nilp)
 |7=>.d (.bool ((setAt nm).map fun o=>D.addr (at_ b o)).isSome)
 |8=>.d (((setAt nm).map fun o=>D.addr (at_ b o)).getD .nilp)
 |_=>.d (.bool ((setAt nm).map fun o=>D.addr (at_ b o)).isSome)
def doΦ(b:Nat)(x:List D×List D):Prop:=(∀ k∈x.1,q0L .string k=true)∧∀ s,q2B x.1 x.2 (.str s)=(setAt s).map fun o=>.addr (at_ b o)
theorem q7s(q:PT)(b:Bool):(q.tx b).saved=q.saved:=by
 unfold PT.tx; split<;>rfl
theorem q8q(q:PT)(fl:Fl)(l:List Val):(q.chs fl l).saved=q.saved:=by
 unfold PT.chs; split
 ·split
  ·split<;>rfl
  ·rfl
 ·rfl
theorem z5x{q:PT}(h:q.ok)(t:List UInt8):(q.shw t).saved=q.saved:=by
 unfold PT.shw; split
 ·split
  ·split
   ·exact(z7p h _).2.2.2.1
   ·rfl
  ·rfl
 ·rfl
theorem j0G{q:PT}(h:q.ok)(l:List Val):(q.lst l).saved=q.saved:=by
 induction l generalizing q with
 |nil=>rfl
 |cons v l ih=>
  rw[PT.lst,ih (j4l h v)]; unfold PT.ls1; split
  ·exact z5x h _
  ·split<;>rfl
theorem z7X{q:PT}(h:q.ok)(l:List Val):(q.st l).saved=q.saved:=z5x (q6Q h _) _
theorem j3R{q:PT}(h:q.ok)(l:List Val):(q.tj l).saved=q.saved:=by
 unfold PT.tj; split
 ·split
  ·exact j0G h _
  ·rfl
 ·rfl
theorem z01(q:PT)(h:q.ok)(o:OpV):(q.ins o).saved=q.saved:=by
 unfold PT.ins; split
 ·rfl
 split
 ·rfl
 split
 ·rfl
 split
 ·rfl
 split
 ·exact z7X h _
 split
 ·exact z7X (z8y h _ _) _
 split
 ·exact j3R h _
 ·rfl
theorem z6T{s:List UInt8}{k:Nat}(h:setAt s=some k):(k=11∧s=[84,122])∨(¬ s=[84,122]∧(k=9∨k=10∨k=12∨k=13)):=by
 unfold setAt at h; split at h
 ·rename_i e; subst e; cases h; exact .inr ⟨by decide,.inl rfl⟩
 split at h
 ·rename_i e; subst e; cases h; exact .inr ⟨by decide,.inr (.inl rfl)⟩
 split at h
 ·rename_i e; cases h; exact .inl ⟨rfl,e⟩
 split at h
 ·rename_i e; subst e; cases h; exact .inr ⟨by decide,.inr (.inr (.inl rfl))⟩
 split at h
 ·rename_i e; subst e; cases h; exact .inr ⟨by decide,.inr (.inr (.inr rfl))⟩
 ·cases h
theorem j4a(b:Nat):∃ x,doΦ b x:=by
 refine⟨([.str [84,99],.str [84,119],.str [84,122],.str [84,76],.str [84,115]],[.addr (at_ b 9),.addr (at_ b 10),.addr (at_ b 11),.addr (at_ b 12),.addr (at_ b 13)]),fun k hk=>?_,fun s=>?_⟩
 ·simp at hk; rcases hk with rfl|rfl|rfl|rfl|rfl<;>rfl
 ·simp only[q2B,q9k,beq_iff_eq,setAt]; split
  ·rfl
  split
  ·rfl
  split
  ·rfl
  split
  ·rfl
  split<;>rfl
def q15:q0i:=
 .seq (.reg [⟨some 3,.box (.t 1),none⟩]) (.seq (.fam [Qc 7 0,⟨some 8,.prim .call [.k (.fn (.func 42) [] []),.t 7] [],none⟩,Q 9 (.fa 0 (.t 3)),Q 10 (.ld false 1 (.t 9)), 
 ⟨some 11,.prim (.lookup 108 true) [.t 8,.t 10] [],none⟩,Qc 6 11,Q 12 (.ext 0 (.t 6)),Q 13 (.ext 1 (.t 6)),Qa 4 12,Qa 5 13] [[],[0],[],[2],[1,3],[4],[5],[5],[6, 
 1,0,1,2,3,4,5,6],[7,8,0,1,2,3,4,5,6,7,8]]) (.block 0 (.seq (.reg [Qc 18 5,Qa 17 18]) (.cond (.t 17) (.seq (.reg [Qc 19 4,Qc 20 0,Q 21 (.ld true 2 (.t 3)), 
 ⟨some 22,.prim .call [.k (.fn (.func 43) [] []),.t 20,.t 21,.k (.d (.int .i64 1))] [],none⟩,Q 23 (.ia 1 (.t 22) (Ki 0)),Q 24 (.ld false 1 (.t 23)),Q 25 (.nck (.t 19)), 
 ⟨none,.st 1 (.t 25) (.t 24),none⟩]) (.seq (.reg [Q 26 (.fa 0 (.t 3)),Q 27 (.ld false 1 (.t 26)),Q 28 (.bin .eql (.t 27) (.k (.d (.str [84,122]))))]) (.cond (.t 28) (.reg [Qc 
 29 4,Q 30 (.nck (.t 29)),Q 31 (.ld false 1 (.t 30)),Q 32 (.bin .quo (.t 31) (Ki 100)),Q 33 (.nck (.t 29)),⟨none,.st 1 (.t 33) (.t 32),none⟩]) .skip))) (.seq (.reg [Q 35 
 (.fa 0 (.t 3)),Q 36 (.ld false 1 (.t 35)),Q 37 (.bin .eql (.t 36) (.k (.d (.str [113])))),Qc 38 37,Qg 39 (.fa 0 (.t 3)) 38 false,Qg 40 (.ld false 1 (.t 39)) 38 false,Qg 41 
 (.bin .eql (.t 40) (.k (.d (.str [81])))) 38 false,Q 42 (.pick (.t 38) KT (.t 41)),Qa 34 42]) (.cond (.t 34) (.reg [Qc 43 0,Q 44 (.fa 0 (.t 3)),Q 45 (.ld false 1 (.t 44)),Q 
 46 (.bin .eql (.t 45) (.k (.d (.str [81])))),⟨some 47,.prim .call [.k (.fn (.func 44) [] []),.t 43,.t 46] [],none⟩]) (.seq (.reg [Q 49 (.fa 0 (.t 3)),Q 50 (.ld false 1 (.t 
 49)),Q 51 (.bin .eql (.t 50) (.k (.d (.str [99,109])))),Qa 48 51]) (.cond (.t 48) (.fam [Qc 52 0,Qc 53 0,Qc 54 0,Q 55 (.ld true 2 (.t 3)),⟨some 56,.prim .call [.k (.fn 
 (.func 43) [] []),.t 54,.t 55,.k (.d (.int .i64 6))] [],none⟩,⟨some 57,.call 46 [.t 56],none⟩,Qc 58 0,Q 59 (.nck (.t 58)),Q 60 (.fa 1 (.t 59)),Q 61 (.fa 0 (.t 60)),Q 
 62 (.ld true 6 (.t 61)),⟨some 63,.prim .call [.k (.fn (.func 45) [] []),.t 53,.t 57,.t 62] [],none⟩,Q 64 (.nck (.t 52)),Q 65 (.fa 1 (.t 64)),Q 66 (.fa 0 (.t 65)),⟨none, 
 .st 6 (.t 66) (.t 63),none⟩] [[],[],[],[],[2,3],[4,4],[],[6],[7],[8],[9],[1,5,10,5],[0,0,1,2,3,4,5,6,7,8,9,10,11],[12,0,1,2,3,4,5,6,7,8, 
 9,10,11],[13,0,1,2,3,4,5,6,7,8,9,10,11],[14,11,11,0,1,2,3,4,5,6,7,8,9,10,11]]) (.seq (.reg [Q 68 (.fa 0 (.t 3)),Q 69 (.ld false 1 (.t 68)),Q 70 
 (.bin .eql (.t 69) (.k (.d (.str [66,84])))),Qc 71 70,Qg 72 (.fa 0 (.t 3)) 71 false,Qg 73 (.ld false 1 (.t 72)) 71 false,Qg 74 (.bin .eql (.t 73) (.k (.d (.str [69,84])))) 
 71 false,Q 75 (.pick (.t 71) KT (.t 74)),Qa 67 75]) (.cond (.t 67) (.reg [Qc 76 0,Q 77 (.fa 0 (.t 3)),Q 78 (.ld false 1 (.t 77)),Q 79 (.bin .eql (.t 78) (.k (.d (.str [66, 
 84])))),⟨some 80,.prim .call [.k (.fn (.func 47) [] []),.t 76,.t 79] [],none⟩]) (.seq (.reg [Q 82 (.fa 0 (.t 3)),Q 83 (.ld false 1 (.t 82)),Q 84 (.bin .eql (.t 83) (.k (.d 
 (.str [84,102])))),Qa 81 84]) (.cond (.t 81) (.reg [Qc 85 0,Q 86 (.ld true 2 (.t 3)),⟨some 87,.prim .call [.k (.fn (.func 48) [] []),.t 85,.t 86] [],none⟩]) (.reg [Qc 14 
 0,Q 15 (.ld true 2 (.t 3)),⟨some 16,.prim .call [.k (.fn (.func 49) [] []),.t 14,.t 15] [],none⟩])))))))))))))
def q18:List LRes:=[]
theorem q3p:q0r Tryz.prog 31 88 q15 q18:=⟨_,_,Tryz.func31,rfl,by kernel_rfl,by kernel_rfl,rfl⟩
theorem pdo(fl:Fl)(q:PT)(c:Option Nat)(hc:svOK q c)(hs8:q.saved.length≤8)(o:OpV)(hq:q.ok)(ho:o.ok):
  MV Tryz.prog 31 [.ptr (.x 0) 0,.d o.d] [pob (q0Z fl) q c] (svO q.saved c) (fun r hs' m'=>r=.tuple []∧∃ o',hs'=[o']∧z63 (q0Z fl) (q.dop fl o) o' m'):=by
 have hcs:∀ q':PT,q'.saved=q.saved→svOK q' c:=fun q' h=>by cases c<;>simpa only[svOK,h]using hc
 have hm:=z2Y q.saved c; generalize hmm:svO q.saved c=m at *; refine q3p.mv (by kernel_rfl) rfl rfl ?_; generalize hM:mob m=M; have ha:aget M 1000=m:=hM▸q0P m; have hn:=hm; unfold rowM at hn; have hMM:∀ o:AObj,Sub ((0,o)::M) ((0,o)::M):=fun o=>hM▸subM o m
 obtain⟨nm,args⟩:=o; simp(maxSteps:=2000000)only[go_sem,↓reduceIte,q15,q18,OpV.d]; refine fun b0=>j41 b0 ⟨[(0,.d (.addr (at_ (b0 0) 0))),(3,.ptr (.l 3) 0)],_,_⟩ (GhoB.j3J fun G w hG t y ht=>?_) (doΦ (b0 0)) ?_ [(0,.d (.addr (at_ (b0 0) 0))),(3,.ptr (.l 3) 0)] [7,8,9,10,11,6,12,13,4,5] (doZ (b0 0) nm) 1 rfl (by decide) (by decide) (fun p hp=>?_) (fun p hp=>?_) (fun j hj=>?_) (fun i d o hl hd hi x hx τ N hk hL hH hN=>?_) (fun d o hl hd τ N hk hL hH hN=>?_) (fun x hx=>?_)
 ·by_cases h0:0=t
  ·subst h0; cases ht; exact⟨_,rfl,j17 hG 0⟩
  ·by_cases h3:3=t
   ·subst h3; cases ht; exact⟨_,rfl,fun _ h=>h⟩
   ·simp[aget,h0,h3]at ht
 ·exact j4a _
 ·simp at hp; rcases hp with rfl|rfl<;>rfl
 ·simp at hp; rcases hp with rfl|rfl<;>rfl
 ·match j with
  |0=>exact .inl fun _ _=>rfl
  |1=>exact .inr (.inl rfl)
  |2=>exact .inl fun _ _=>rfl
  |3=>exact .inl fun _ _=>rfl
  |4=>exact .inl fun _ _=>rfl
  |5=>exact .inl fun _ _=>rfl
  |6=>exact .inl fun _ _=>rfl
  |7=>exact .inl fun _ _=>rfl
  |8=>exact .inl fun _ _=>rfl
  |n+9=>exact .inl fun _ _=>rfl
 ·have e0:=hk (0,.d (.addr (at_ (b0 0) 0))) (by simp[q5h]); have e3:=hk (3,.ptr (.l 3) 0) (by simp[q5h]); simp only at e0 e3 hL hH; match i,hl,hd,hi,hk,hN with
  |0,hl,hd,_,hk,hN=>
   cases hl; cases hd; exact q6R (z:=doZ (b0 0) nm x 0) (by simp(maxSteps:=2000000)only[go_sem,↓reduceIte,e0,doZ]) hN
  |1,_,_,hi,_,_=>exact absurd rfl hi
  |2,hl,hd,_,hk,hN=>
   cases hl; cases hd; exact q6R (z:=doZ (b0 0) nm x 2) (by simp(maxSteps:=2000000)only[go_sem,↓reduceIte,e3,doZ]) hN
  |3,hl,hd,_,hk,hN=>
   cases hl; cases hd; have e9:=hk (9,.ptr (.l 3) 0) (by simp[q5h,doZ]); simp only at e9; exact q6R (z:=doZ (b0 0) nm x 3) (by simp(maxSteps:=2000000)only[go_sem,↓reduceIte,e9,hL,doZ]) hN
  |4,hl,hd,_,hk,hN=>
   cases hl; cases hd; have e8:=hk (8,.d (.map x.1 x.2)) (by simp[q5h,doZ]); have e10:=hk (10,.d (.str nm)) (by simp[q5h,doZ]); refine q8y (q0c.lookup (ks:=x.1) (vs:=x.2) (key:=.str nm) (q5f e8) (q5f e10) j6y z8X rfl hx.1 ptrZ ?_); rw[hx.2]; exact hN
  |5,hl,hd,_,hk,hN=>
   cases hl; cases hd; have e11:=hk (11,doZ (b0 0) nm x 4) (by simp[q5h]); simp only[doZ]at e11; exact q6R (z:=doZ (b0 0) nm x 5) (by simp(maxSteps:=2000000)only[go_sem,↓reduceIte,e11,doZ]) hN
  |6,hl,hd,_,hk,hN=>
   cases hl; cases hd; have e6:=hk (6,doZ (b0 0) nm x 5) (by simp[q5h]); simp only[doZ]at e6; exact q6R (z:=doZ (b0 0) nm x 6) (by simp(maxSteps:=2000000)only[go_sem,↓reduceIte,e6,doZ]) hN
  |7,hl,hd,_,hk,hN=>
   cases hl; cases hd; have e6:=hk (6,doZ (b0 0) nm x 5) (by simp[q5h]); simp only[doZ]at e6; exact q6R (z:=doZ (b0 0) nm x 7) (by simp(maxSteps:=2000000)only[go_sem,↓reduceIte,e6,doZ]) hN
  |8,hl,hd,_,hk,hN=>
   cases hl; cases hd; have e12:=hk (12,doZ (b0 0) nm x 6) (by simp[q5h]); refine z57 ?_; rw[show τ.ev (.t 12)=_ from q5f e12]; exact hN
  |9,hl,hd,_,hk,hN=>
   cases hl; cases hd; have e13:=hk (13,doZ (b0 0) nm x 7) (by simp[q5h]); refine z57 ?_; rw[show τ.ev (.t 13)=_ from q5f e13]; exact hN
 ·cases hl; cases hd; obtain⟨x,hx⟩:=j4a (b0 0); have e7:=hk x hx (7,.d (.addr (at_ (b0 0) 0))) (by simp[q5h,doZ]); refine q8y (q0c.j7o (ds:=[.addr (at_ (b0 0) 0)]) rfl (z5u (b0 0)) (by kernel_rfl) ?_ (fun y ⟨ks,vs,h1,h2,h3⟩=>?_) (fun r ⟨ks,vs,h1,_⟩=>⟨_,h1⟩))
  ·simp only[evL,List.map_cons,List.map_nil]; exact congrArg (fun z=>[z]) (q5f e7)
  ·cases h1; exact hN (ks,vs) ⟨h2,h3⟩
 ·cases hk:setAt nm with
  |none=>
   refine⟨⟨[(0,.ptr (.x 0) 0),(3,.ptr (.l 3) 0),(4,.d .nilp),(5,.d (.bool false))],_,_⟩,GhoB.j3J fun G w hG t y ht=>?_,?_⟩
   ·by_cases h0:0=t
    ·subst h0; cases ht; exact⟨_,rfl,z5M hG 0⟩
    ·by_cases h3:3=t
     ·subst h3; cases ht; exact⟨_,rfl,fun _ h=>h⟩
     ·by_cases h4:4=t
      ·subst h4; cases ht; exact⟨_,rfl,fun _ h=>by simpa[doZ,hk]using h⟩
      ·by_cases h5:5=t
       ·subst h5; cases ht; exact⟨_,rfl,fun _ h=>by simpa[doZ,hk]using h⟩
       ·simp[aget,h0,h3,h4,h5]at ht
   ·show POP Tryz.prog .normal _ _ _
    simp(maxSteps:=2000000)only[go_sem,↓reduceIte]; refine⟨fun h1=>⟨fun h2=>?_,fun h2=>?_⟩,fun h1=>?_⟩
    ·have e:q.dop fl ⟨nm,args⟩=q.sv (decide (nm=[81])):=by simp only[PT.dop,hk]; rw[if_pos (.inr h2)]
     rw[e]; refine q0c.poP (Post:=z63 (q0Z fl) (q.sv (decide (nm=[81])))) rfl (by rw[← hmm]; exact j6M (q0Z fl) q c hc hs8 (decide (nm=[81]))) (q0e _ _ _) hm hM rfl rfl rfl ⟨⟨rfl,rfl⟩,rfl⟩ (fun o1 m1 hp=>?_); obtain⟨c1,hc1,rfl,rfl⟩:=hp; have hn1:=z2Y (q.sv (decide (nm=[81]))).saved c1; unfold rowM at hn1; refine⟨q0e _ _ _,?_⟩; have ha1:=q0P (svO (q.sv (decide (nm=[81]))).saved c1); generalize mob (svO (q.sv (decide (nm=[81]))).saved c1)=M1 at *; simp(maxSteps:=2000000)only[go_sem,↓reduceIte,ha1,hn1]
     exact⟨_,rfl,c1,hc1,rfl,rfl⟩
    ·refine⟨fun h3=>?_,fun h3=>?_⟩
     ·have e:q.dop fl ⟨nm,args⟩=(q.nu args 6).cm (m6L (q33 args 6)):=by simp only[PT.dop,hk]; rw[if_neg (fun h=>h.elim h1 h2),if_pos h3]
      rw[e]; have hnum:MVE Tryz.prog 43 [.ptr (.x 0) 0,.d (OpV.d ⟨nm,args⟩),.d (I 6)] [pX (q0Z fl) q c q.bad] m (.d (.list (nmD (q33 args 6)))) [pX (q0Z fl) q c (orE q.bad (kErr (q8R args 6)))] m:=q7o (q0Z fl) (q.wb q.bad) c ⟨nm,args⟩ 6 ho.n (by decide) hm; have hcat:∀ n a b,MVE Tryz.prog 45 [.ptr (.x 0) 0,.d (m6D a),.d (m6D b)] [pX (q0Z fl) q c n] m (.d (m6D ((catF a b).getD m60))) [pX (q0Z fl) q c (orE n (errO (catF a b)))] m:=fun n a b=>z3M (q0Z fl) (q.wb n) c a b hm
      obtain⟨a1,a2,a3,a4,a5,a6,hab⟩:=len6 (q63 args 6); rw[hab]at hnum; refine z2T (pX (q0Z fl) q c) M 12 [0,3] [] q.bad (by kernel_rfl) rfl rfl rfl ?_; simp(maxSteps:=2000000)only[go_sem,↓reduceIte,pX,pob,PT.wb,OpV.d]; refine FR.prim (q5D.mve rfl hM hnum (q4F _ _ _ _) (q4F _ _ _ _) hm rfl rfl ⟨⟨rfl,rfl⟩,rfl⟩) rfl ?_; refine FR.call (j1f a1 a2 a3 a4 a5 a6) rfl ?_; simp(maxSteps:=2000000)only[go_sem,↓reduceIte,pX,pob,PT.wb]
      refine FR.prim (q5D.mve rfl hM (hcat _ (a1,a2,a3,a4,a5,a6) q.s.ctm) (q4F _ _ _ _) (q4F _ _ _ _) hm rfl rfl ⟨⟨rfl,rfl⟩,rfl⟩) rfl ?_; simp(maxSteps:=2000000)only[go_sem,↓reduceIte,pX,pob,PT.wb,m6D,mat,I,ha,hn]; rw[hab]; exact⟨_,rfl,c,hcs _ rfl,rfl,hmm.symm⟩
     ·refine⟨fun h4=>⟨fun h5=>?_,fun h5=>⟨fun h6=>?_,fun h6=>?_⟩⟩,fun h4=>?_⟩
      ·have e:q.dop fl ⟨nm,args⟩=q.tx (decide (nm=[66,84])):=by simp only[PT.dop,hk]; rw[if_neg (fun h=>h.elim h1 h2),if_neg h3,if_pos (.inr h5)]
       rw[e]; refine q0c.poM rfl (j6Q (q0Z fl) q c (decide (nm=[66,84])) hm) (q0e _ _ _) (q0e _ _ _) hm hM rfl rfl rfl ⟨⟨rfl,rfl⟩,rfl⟩ ?_; simp(maxSteps:=2000000)only[go_sem,↓reduceIte,ha,hn]; exact⟨_,rfl,c,hcs _ (q7s q _),rfl,by rw[q7s]; exact hmm.symm⟩
      ·have e:q.dop fl ⟨nm,args⟩=q.chs fl args:=by simp only[PT.dop,hk]; rw[if_neg (fun h=>h.elim h1 h2),if_neg h3,if_neg (fun h=>h.elim h4 h5),if_pos h6]
       rw[e]; refine q0c.poM rfl (j5p fl q c ⟨nm,args⟩ ho.n hm) (q0e _ _ _) (q0e _ _ _) hm hM rfl rfl rfl ⟨⟨rfl,rfl⟩,rfl⟩ ?_; simp(maxSteps:=2000000)only[go_sem,↓reduceIte,ha,hn]; exact⟨_,rfl,c,hcs _ (q8q q fl args),rfl,by rw[q8q]; exact hmm.symm⟩
      ·have e:q.dop fl ⟨nm,args⟩=q.ins ⟨nm,args⟩:=by simp only[PT.dop,hk]; rw[if_neg (fun h=>h.elim h1 h2),if_neg h3,if_neg (fun h=>h.elim h4 h5),if_neg h6]
       rw[e]; refine q0c.poM rfl (j5r (q0Z fl) q c ⟨nm,args⟩ hq ho hm) (q0e _ _ _) (q0e _ _ _) hm hM rfl rfl rfl ⟨⟨rfl,rfl⟩,rfl⟩ ?_; simp(maxSteps:=2000000)only[go_sem,↓reduceIte,ha,hn]; exact⟨_,rfl,c,hcs _ (z01 q hq _),rfl,by rw[z01 q hq]; exact hmm.symm⟩
      ·have e:q.dop fl ⟨nm,args⟩=q.tx (decide (nm=[66,84])):=by simp only[PT.dop,hk]; rw[if_neg (fun h=>h.elim h1 h2),if_neg h3,if_pos (.inl h4)]
       rw[e]; refine q0c.poM rfl (j6Q (q0Z fl) q c (decide (nm=[66,84])) hm) (q0e _ _ _) (q0e _ _ _) hm hM rfl rfl rfl ⟨⟨rfl,rfl⟩,rfl⟩ ?_; simp(maxSteps:=2000000)only[go_sem,↓reduceIte,ha,hn]; exact⟨_,rfl,c,hcs _ (q7s q _),rfl,by rw[q7s]; exact hmm.symm⟩
    ·have e:q.dop fl ⟨nm,args⟩=q.sv (decide (nm=[81])):=by simp only[PT.dop,hk]; rw[if_pos (.inl h1)]
     rw[e]; refine q0c.poP (Post:=z63 (q0Z fl) (q.sv (decide (nm=[81])))) rfl (by rw[← hmm]; exact j6M (q0Z fl) q c hc hs8 (decide (nm=[81]))) (q0e _ _ _) hm hM rfl rfl rfl ⟨⟨rfl,rfl⟩,rfl⟩ (fun o1 m1 hp=>?_); obtain⟨c1,hc1,rfl,rfl⟩:=hp; have hn1:=z2Y (q.sv (decide (nm=[81]))).saved c1; unfold rowM at hn1; refine⟨q0e _ _ _,?_⟩; have ha1:=q0P (svO (q.sv (decide (nm=[81]))).saved c1); generalize mob (svO (q.sv (decide (nm=[81]))).saved c1)=M1 at *; simp(maxSteps:=2000000)only[go_sem,↓reduceIte,ha1,hn1]
     exact⟨_,rfl,c1,hc1,rfl,rfl⟩
  |some k=>
   refine⟨⟨[(0,.ptr (.x 0) 0),(3,.ptr (.l 3) 0),(4,.ptr (.x 0) k),(5,.d (.bool true))],_,_⟩,GhoB.j3J fun G w hG t y ht=>?_,?_⟩
   ·by_cases h0:0=t
    ·subst h0; cases ht; exact⟨_,rfl,z5M hG 0⟩
    ·by_cases h3:3=t
     ·subst h3; cases ht; exact⟨_,rfl,fun _ h=>h⟩
     ·by_cases h4:4=t
      ·subst h4; cases ht; refine⟨_,rfl,fun v h=>z5M hG k v ?_⟩; simpa[doZ,hk]using h
      ·by_cases h5:5=t
       ·subst h5; cases ht; exact⟨_,rfl,fun _ h=>by simpa[doZ,hk]using h⟩
       ·simp[aget,h0,h3,h4,h5]at ht
   ·show POP Tryz.prog .normal _ _ _
    have e:q.dop fl ⟨nm,args⟩=(q.nu args 1).setN k (if nm=[84,122]then IntKind.i64.wrap (((q33 args 1).getD 0 0).tdiv 100)else(q33 args 1).getD 0 0):=by simp only[PT.dop,hk]
    rw[e]; simp(maxSteps:=2000000)only[go_sem,↓reduceIte]; refine q0c.poM rfl (q7o (q0Z fl) q c ⟨nm,args⟩ 1 ho.n (by decide) hm) (q0e _ _ _) (q0e _ _ _) hm hM rfl rfl rfl ⟨⟨rfl,rfl⟩,rfl⟩ ?_; rw[PT.nu]; obtain⟨a,hab⟩:∃ a,q33 args 1=[a]:=List.length_eq_one_iff.1 (q63 args 1); simp only[hab,List.getD_cons_zero]; have hc1:svOK (q.er (kErr (q8R args 1))) c:=by cases c<;>exact hc
    have hm1:m=svO (q.er (kErr (q8R args 1))).saved c:=hmm.symm; generalize q.er (kErr (q8R args 1))=q1 at *; rcases z6T hk with⟨rfl,hz⟩|⟨hz,rfl|rfl|rfl|rfl⟩
    ·simp(maxSteps:=2000000)only[go_sem,↓reduceIte,pob,nmD,I,hz,ha,hn]; exact⟨_,rfl,c,by cases c<;>exact hc1,rfl,hm1⟩
    all_goals
     simp(maxSteps:=2000000)only[go_sem,↓reduceIte,pob,nmD,I,hz,ha,hn]; exact⟨_,rfl,c,by cases c<;>exact hc1,rfl,hm1⟩
end Go.Av.Tryz
set_option linter.unusedSimpArgs false
set_option maxRecDepth 100000
set_option maxHeartbeats 4000000
namespace Go.Av.Tryz
open Go.Proofs
def q00:PT:=⟨⟨q8b,none,0,0,0,1000,0,0⟩,[],q8b,q8b,false,[],0⟩
def PT.run(fl:Fl)(q:PT):List OpV→PT
 |[]=>q
 |o::l=>if(q.dop fl o).bad=0 then PT.run fl (q.dop fl o) l else q.dop fl o
def opsD(l:List OpV):D:=.list (l.map OpV.d)
def z1q(q:PT):Res:=if q.bad=0 then .tup [.list (q2p q.out),.nil]else .tup [.list [],errD q.bad]
def z8G(fl:Fl)(l:List OpV):Res:=if l.length>2000 then .tup [.list [],errD 2]else z1q (q00.run fl l)
structure PT.inv(q:PT):Prop where
 ok:q.ok
 n:q.saved.length≤8
 f:∀ s∈q.saved,∀ f,s.font=some f→f.ok
theorem j60{q:PT}(h:q.inv)(b:Bool):(q.sv b).inv:=by
 unfold PT.sv; split
 ·split
  ·exact⟨q6Q h.ok 10,h.n,h.f⟩
  ·rename_i x hx; have hm:=List.mem_of_getLast? hx; refine⟨⟨h.ok.out,h.f x hm⟩,by simp only[List.length_dropLast]; have:=h.n; omega,fun s hs=>h.f s (List.dropLast_subset _ hs)⟩
 ·split
  ·exact⟨q6Q h.ok 10,h.n,h.f⟩
  ·refine⟨⟨h.ok.out,h.ok.font⟩,by have:=h.n; simp only[List.length_append,List.length_cons,List.length_nil]; omega,fun s hs=>?_⟩; rcases List.mem_append.1 hs with hs|hs
   ·exact h.f s hs
   ·simp at hs; subst hs; exact h.ok.font
theorem q8Z{q q':PT}(h:q.inv)(hs:q'.saved=q.saved)(hok:q'.ok):q'.inv:=⟨hok,by rw[hs]; exact h.n,by rw[hs]; exact h.f⟩
theorem j7C{q:PT}(h:q.ok)(b:Bool):(q.tx b).ok:=by
 unfold PT.tx; split
 ·exact⟨fun hb=>h.out (q52 hb),h.font⟩
 ·exact⟨h.out,h.font⟩
theorem j0E{fl:Fl}{s:List UInt8}{f:Fnt}(h:q9q fl s=some f):∃ p∈fl,p.2=f:=by
 induction fl with
 |nil=>cases h
 |cons p l ih=>
  simp only[q9q]at h; split at h
  ·cases h; exact⟨p,by simp,rfl⟩
  ·obtain⟨p',h1,h2⟩:=ih h; exact⟨p',by simp[h1],h2⟩
theorem j58{q:PT}(h:q.ok){fl:Fl}(hf:∀ p∈fl,p.2.ok)(l:List Val):(q.chs fl l).ok:=by
 unfold PT.chs; split
 ·split
  ·split
   ·rename_i f hlk; refine⟨h.out,fun g hg=>?_⟩; cases hg; obtain⟨p,h1,rfl⟩:=j0E hlk; exact hf p h1
   ·exact q6Q h 6
  ·exact q6Q h 8
 ·exact q6Q h 8
theorem j6X{q:PT}(h:q.ok)(l:List Val):(q.st l).ok:=(j4s (q6Q h _) _).1
theorem j7B{q:PT}(h:q.ok)(l:List Val):(q.tj l).ok:=by
 unfold PT.tj; split
 ·split
  ·exact j4m h _
  ·exact q6Q h 8
 ·exact q6Q h 8
theorem j6r{q:PT}(h:q.ok)(o:OpV):(q.ins o).ok:=by
 unfold PT.ins; split
 ·exact z8y (q6Q h _) _ _
 split
 ·exact z8y (q:=(q.nu o.args 2).ld (ng ((q33 o.args 2).getD 1 0))) ⟨fun hb=>h.out (q52 (n:=q.bad) hb),h.font⟩ _ _
 split
 ·exact⟨fun hb=>h.out (q52 hb),h.font⟩
 split
 ·exact z8y (q6Q h _) _ _
 split
 ·exact j6X h _
 split
 ·exact j6X (z8y h _ _) _
 split
 ·exact j7B h _
 ·exact h
theorem z5T{q:PT}(h:q.inv){fl:Fl}(hf:∀ p∈fl,p.2.ok)(o:OpV):(q.dop fl o).inv:=by
 unfold PT.dop; split
 ·exact q8Z h rfl ⟨fun hb=>h.ok.out (q52 hb),h.ok.font⟩
 ·split
  ·exact j60 h _
  ·split
   ·exact q8Z h rfl ⟨fun hb=>h.ok.out (q52 (q52 hb)),h.ok.font⟩
   ·split
    ·exact q8Z h (q7s q _) (j7C h.ok _)
    ·split
     ·exact q8Z h (q8q q fl _) (j58 h.ok hf _)
     ·exact q8Z h (z01 q h.ok o) (j6r h.ok o)
theorem q0c.loP{P:Program}[Inv P]{d:Option Nat}{f:LX}{args:List LX}{N:St→Prop}{σ:St}{g:FuncId}{first cap xs:List AV}{o:AObj}{m:Option AObj}{z:AV}{Post:AObj→Option AObj→Prop}(k:Nat)(hf:σ.ev f=.fn (.func g) first cap)(hc:MV P g xs [o] m (fun r hs' m'=>r=z∧∃ o',hs'=[o']∧Post o' m'))(ho:PO o)(hm:rowM m=true)(hH:σ.H=mob m)(hL:aget σ.L k=some (o.ren [.l k]))
  (hx:q4k [] 0 (first++(evL σ args++cap))=renL [.l k] xs) (hwx:labL 1 xs=true) (hz:z.q1b=true∧z.q5G 1=true)
  (hK:∀ o1 m1,Post o1 m1→PO o1∧N (putO ⟨amap (AV.q4M [.l k]) (amap (AV.drop (.x 1000)) σ.ρ),aset (amap (q0f (.x 1000)) σ.L) k (o1.ren [.l k]),mob m1⟩ d (z.ren [.l k]))):q0c P d .call (f::args) N σ:=by
 have h1:σ.obj (.x 1000)=m:=by
  show aget σ.H 1000=m
  rw[hH]; exact q0P m
 refine q0c.mv [.l k] hf hc hx hwx ⟨hL,trivial⟩ (by simp[wfMO,ho.wf]) rfl rfl h1 hm fun r hs' m1 ⟨e1,o1,e2,hp⟩=>?_
 subst e1; subst e2; obtain⟨ho1,hK⟩:=hK o1 m1 hp; refine⟨⟨hz,by simp[q3Q,ho1.wf,isLocal]⟩,?_⟩; have e:q7V σ.q29 [.l k] [o1] m1=⟨amap (AV.q4M [.l k]) (amap (AV.drop (.x 1000)) σ.ρ),aset (amap (q0f (.x 1000)) σ.L) k (o1.ren [.l k]),mob m1⟩:=by
  have e1:adel (amap (q0f (.x 1000)) σ.H) 1000=[]:=by
   rw[hH]; cases m<;>rfl
  simp only[q7V,q32,q4n,St.q29,e1]; cases m1<;>rfl
 rw[e]; exact hK
def outL:List Gph→AV
 |[]=>.ns
 |g::l=>.own (.c (.l 19) 28) 55 10 (q2p (g::l))
def pobL(fd:D)(q:PT)(c:Option Nat):AObj:=
 .cells [.d fd,.d (I q.s.ctm.1),.d (I q.s.ctm.2.1),.d (I q.s.ctm.2.2.1),.d (I q.s.ctm.2.2.2.1),.d (I q.s.ctm.2.2.2.2.1),.d (I q.s.ctm.2.2.2.2.2),.d (q7y q.s.font),.d (I q.s.size),.d (I q.s.char),.d (I q.s.word),.d (I q.s.scale),.d (I q.s.lead),.d (I q.s.rise),
  svV q.saved c,.d (I q.tm.1),.d (I q.tm.2.1),.d (I q.tm.2.2.1),.d (I q.tm.2.2.2.1),.d (I q.tm.2.2.2.2.1),.d (I q.tm.2.2.2.2.2),.d (I q.lm.1),.d (I q.lm.2.1),.d (I q.lm.2.2.1),.d (I q.lm.2.2.2.1),.d (I q.lm.2.2.2.2.1),.d (I q.lm.2.2.2.2.2),
  .d (.bool q.inn),outL q.out,.d (errD q.bad)]
theorem j1h(fd:D)(q:PT)(c:Option Nat):(pob fd q c).ren [.l 19]=pobL fd q c:=by
 obtain⟨s,saved,tm,lm,inn,out,bad⟩:=q; cases c<;>cases out<;>rfl
theorem j1g(fd:D)(q:PT)(c:Option Nat):q0f (.l 8) (pobL fd q c)=pobL fd q c:=by
 obtain⟨s,saved,tm,lm,inn,out,bad⟩:=q; cases c<;>cases out<;>rfl
theorem z7P(fl:Fl)(q:PT)(o:OpV)(l:List OpV):q.run fl (o::l)=if(q.dop fl o).bad=0 then(q.dop fl o).run fl l else q.dop fl o:=rfl
def q3D:q0i:=
 .seq (.reg [⟨some 4,.nils 55 10,none⟩,Qx 5 (.k (.d .nil))]) (.seq (.seq (.reg [Qc 9 0,Q 10 (.len false (.t 9)),Q 11 (.bin .gtr (.t 10) (Ki 2000))]) (.cond (.t 11) (.seq (.reg 
 [Q 12 (.mkI 76 (Ki 2)),⟨some 4,.nils 55 10,none⟩,Qa 5 12]) .ret) .skip)) (.seq (.reg [Qc 13 1,⟨some 14,.call 30 [],none⟩,Q 15 (.bld [(0,6),(6,1),(7,1),(8,1),(9, 
 1),(10,1),(11,1),(12,1)] [.int .i64 0,.int .i64 0,.int .i64 0,.int .i64 0,.int .i64 0,.int .i64 0,.nilp,.int .i64 0,.int .i64 0,.int .i64 0,.int .i64 0,.int .i64 
 0,.int .i64 0] [] [(0,.t 14),(5,.k (.d (.int .i64 1000)))]),⟨some 16,.call 30 [],none⟩,⟨some 17,.call 30 [],none⟩,Q 18 (.bld [(0,1),(1,13),(14,1),(15,6),(21, 
 6),(27,1),(28,1),(29,1)] [.map [] [],.int .i64 0,.int .i64 0,.int .i64 0,.int .i64 0,.int .i64 0,.int .i64 0,.nilp,.int .i64 0,.int .i64 0,.int .i64 0,.int .i64 
 0,.int .i64 0,.int .i64 0,.list [],.int .i64 0,.int .i64 0,.int .i64 0,.int .i64 0,.int .i64 0,.int .i64 0,.int .i64 0,.int .i64 0,.int .i64 0,.int .i64 0,.int .i64 
 0,.int .i64 0,.bool false,.list [],.nil] [false,false,false,false,false,false,false,false,false,false,false,false,false,false,true,false,false,false,false, 
 false,false,false,false,false,false,false,false,false,true,false] [(0,.t 13),(1,.t 15),(3,.t 16),(4,.t 17)]),⟨some 19,.box (.t 18),none⟩,Qa 6 19]) (.seq 
 (.seq (.reg [Qc 20 0,Q 21 (.len false (.t 20)),Q 22 (.cp (Ki 0))]) (.block 0 (.loop (.seq (.reg [Q 23 (.bin .lss (.t 22) (.t 21))]) (.seq (.cond (.t 23) .skip (.exit 0)) (.seq 
 (.block 1 (.seq (.reg [Q 24 (.ia 2 (.t 20) (.t 22)),Q 25 (.ld true 2 (.t 24)),⟨some 8,.allo [.str [],.list []],none⟩,⟨none,.st 2 (.t 8) (.t 25),none⟩]) (.seq (.reg [Qc 26 
 6,Q 27 (.ld true 2 (.t 8)),⟨some 28,.prim .call [.k (.fn (.func 31) [] []),.t 26,.t 27] [],none⟩]) (.seq (.reg [Qc 29 6,Q 30 (.nck (.t 29)),Q 31 (.fa 29 (.t 30)),Q 32 
 (.ld false 1 (.t 31)),Q 33 (.eqN 0 true (.t 32))]) (.cond (.t 33) (.seq (.dreg [Qc 34 6,Q 35 (.nck (.t 34)),Q 36 (.fa 29 (.t 35)),Q 37 (.ld false 1 (.t 36)),Q 4 (.cp (.k (.d 
 (.list [])))),Qc 5 37]) .ret) .skip))))) (.reg [Q 38 (.bin .add (.t 22) (Ki 1)),Qc 22 38]))))))) (.seq (.reg [Qc 39 6,Q 40 (.nck (.t 39)),Q 41 (.fa 28 (.t 40)),Q 42 (.ld 
 false 1 (.t 41)),Qa 4 42,Qx 5 (.k (.d .nil))]) .ret))))
def q3E:List LRes:=[.tmp 4,.tmp 5]
theorem q5i:q0r Tryz.prog 11 43 q3D q3E:=⟨_,_,Tryz.func11,rfl,by kernel_rfl,by kernel_rfl,rfl⟩
theorem q53(fl:Fl)(l:List OpV)(hl:l.length≤1000000)(hf:∀ p∈fl,p.2.ok)(ho:∀ o∈l,o.ok):
  q0s Tryz.prog 11 [opsD l,q0Z fl] (fun r=>r=z8G fl l):=by
 refine q5i.call rfl ?_; have hlen:(l.map OpV.d).length=l.length:=List.length_map ..; simp(maxSteps:=2000000)(disch:=omega)only[go_sem,↓reduceIte,q3D,q3E,opsD,hlen]; refine⟨fun h1=>?_,fun h1=>?_⟩
 ·have e:z8G fl l=.tup [.list [],errD 2]:=if_pos (by omega); rw[e]; rfl
 ·refine q0g.of q5n ?_; simp(maxSteps:=2000000)only[go_sem,↓reduceIte,mat]; refine q0g.of q5n ?_; simp(maxSteps:=2000000)only[go_sem,↓reduceIte,mat]; refine q0g.of q5n ?_; simp(maxSteps:=2000000)only[go_sem,↓reduceIte,mat,q0Z,I]; have e:z8G fl l=z1q (q00.run fl l):=if_neg (by omega); rw[e]; have hq0:q00.inv:=⟨⟨fun _=>Nat.zero_le _,fun f h=>by cases h⟩,Nat.zero_le _,fun s h=>by cases h⟩
  refine q0l (fun y:Nat×PT×Option Nat=>⟨[(0,.d (.list (l.map OpV.d))),(1,.d (q0Z fl)),(4,.own (.t 4) 55 10 []),(6,.ptr (.l 19) 0),(20,.d (.list (l.map OpV.d))),(21,.d (.int .i64 l.length)),(22,.d (.int .i64 y.1))],[(19,pobL (q0Z fl) y.2.1 y.2.2)],mob (svO y.2.1.saved y.2.2)⟩)
   (fun y=>y.1≤l.length∧y.2.1.inv∧svOK y.2.1 y.2.2∧y.2.1.bad=0∧q00.run fl l=y.2.1.run fl (l.drop y.1)) (fun y=>l.length-y.1) (0,q00,none) ?_ ⟨Nat.zero_le _,hq0,rfl,rfl,rfl⟩ ?_
  ·refine Weak.mk ?_ ?_ ?_
   ·simp(maxSteps:=2000000)only[go_sem,↓reduceIte,Sub,q0Z,hlen]
   ·simp(maxSteps:=2000000)only[go_sem,↓reduceIte,Sub,pobL,q00,svV,outL,q8b,I,q0Z,q7y,errD]
   ·simp(maxSteps:=2000000)only[go_sem,↓reduceIte,Sub,svO,mob,q00]
  ·intro⟨i,q,c⟩ ⟨hi,hq,hc,hb,hr⟩; simp only at hi hq hc hb hr ⊢; rw[hr]; simp(maxSteps:=2000000)(disch:=omega)only[go_sem,↓reduceIte]; refine⟨fun hlt=>?_,fun hge=>?_⟩
   ·obtain⟨o,hx⟩:=get_some (l:=l) (i:=i) (by omega); have hg:getI (l.map OpV.d) (i:Int)=some o.d:=by rw[q0a,List.getElem?_map,hx]; rfl
    have hdr:l.drop i=o::l.drop (i+1):=q05 hx; rw[hdr,z7P]; simp(maxSteps:=2000000)(disch:=omega)only[go_sem,↓reduceIte,hg,OpV.d]; have hd8:=j1g (q0Z fl) q c; simp only[q0f]at hd8; rw[hd8]; have hom:=ho o (List.mem_of_getElem? hx); have hq1:=z5T hq hf o; refine q0c.loP 19 rfl (pdo fl q c hc hq.n o hq.ok hom) (q0e _ _ _) (z2Y _ _) rfl (by rw[j1h]; rfl) rfl rfl ⟨rfl,rfl⟩ (fun o1 m1 hp=>?_); obtain⟨c1,hc1,rfl,rfl⟩:=hp; refine⟨q0e _ _ _,?_⟩; rw[j1h]; generalize q.dop fl o=q1 at *
    by_cases hb1:q1.bad=0
    ·have he:errD q1.bad=.nil:=by rw[hb1]; rfl
     simp only[hb1,↓reduceIte]; simp(maxSteps:=2000000)(disch:=omega)only[go_sem,↓reduceIte,pobL,he]; refine⟨(i+1,q1,c1),Weak.mk ?_ ?_ ?_,⟨by simp only; omega,hq1,hc1,hb1,rfl⟩,by simp only; omega⟩
     ·simp(maxSteps:=2000000)only[go_sem,↓reduceIte,Sub,Int.natCast_add]
     ·simp(maxSteps:=2000000)only[go_sem,↓reduceIte,Sub,he]
     ·cases hs:svO q1.saved c1<;>simp(maxSteps:=2000000)only[go_sem,↓reduceIte,Sub,hs]
    ·have he:=q13 hb1; simp only[hb1,↓reduceIte]; simp(maxSteps:=2000000)(disch:=omega)only[go_sem,↓reduceIte,pobL,he]; rw[z1q,if_neg hb1,he]
   ·have hie:i=l.length:=by omega
    subst hie; rw[List.drop_length]; have e2:PT.run fl q []=q:=rfl; rw[e2,z1q,if_pos hb]; cases ho:q.out with
    |nil=>
     simp(maxSteps:=2000000)only[go_sem,↓reduceIte,pobL,ho,outL]; rfl
    |cons g r=>
     simp(maxSteps:=2000000)only[go_sem,↓reduceIte,pobL,ho,outL]
mutual
def awV:Val→Nat
 |.mk _ _ s l f=>1+s.length+awL l+awF f
def awL:List Val→Nat
 |[]=>0
 |v::r=>awV v+awL r
def awF:List Fld→Nat
 |[]=>0
 |.mk nm v::r=>nm.length+awV v+awF r
end
mutual
theorem j5U(most:Int):∀ v:Val,awV v≤1000000000→0≤wtV most v∧wtV most v≤awV v∧(wtV most v≤most→wtV most v=awV v)
 |.mk k n s l f,h=>by
  simp only[awV]at h ⊢; simp only[wtV]; have e:IntKind.i64.wrap (1+(s.length:Int))=1+(s.length:Int):=IntWalk.i64_in _ (by omega); rw[e]; have h1:=j4A most l (1+(s.length:Int)) (by omega) (by omega); have h2:=j4z most f (wtL most l (1+(s.length:Int))) (by omega) (by omega); refine⟨by omega,by omega,fun h3=>?_⟩; have:=h2.2.2 h3; have:=h1.2.2 (by omega); omega
theorem j4A(most:Int):∀(l:List Val) (n:Int),0≤n→n+awL l≤1000000000→n≤wtL most l n∧wtL most l n≤n+awL l∧(wtL most l n≤most→wtL most l n=n+awL l)
 |[],n,h0,h=>by simp only[wtL,awL]; omega
 |v::r,n,h0,h=>by
  simp only[awL]at h ⊢; simp only[wtL]
  by_cases hm:n≤most
  ·rw[if_pos hm]; have hv:=j5U most v (by omega); have e:IntKind.i64.wrap (n+wtV most v)=n+wtV most v:=IntWalk.i64_in _ (by omega); rw[e]; have hr:=j4A most r (n+wtV most v) (by omega) (by omega); refine⟨by omega,by omega,fun h3=>?_⟩; have:=hr.2.2 h3; have:=hv.2.2 (by omega); omega
  ·rw[if_neg hm]; exact⟨by omega,by omega,fun h3=>absurd h3 hm⟩
theorem j4z(most:Int):∀(l:List Fld) (n:Int),0≤n→n+awF l≤1000000000→n≤wtF most l n∧wtF most l n≤n+awF l∧(wtF most l n≤most→wtF most l n=n+awF l)
 |[],n,h0,h=>by simp only[wtF,awF]; omega
 |.mk nm v::r,n,h0,h=>by
  simp only[awF]at h ⊢; simp only[wtF]
  by_cases hm:n≤most
  ·rw[if_pos hm]; have hv:=j5U most v (by omega); have e0:IntKind.i64.wrap (n+(nm.length:Int))=n+(nm.length:Int):=IntWalk.i64_in _ (by omega); rw[e0]; have e:IntKind.i64.wrap (n+(nm.length:Int)+wtV most v)=n+(nm.length:Int)+wtV most v:=IntWalk.i64_in _ (by omega); rw[e]; have hr:=j4z most r (n+(nm.length:Int)+wtV most v) (by omega) (by omega); refine⟨by omega,by omega,fun h3=>?_⟩; have:=hr.2.2 h3; have:=hv.2.2 (by omega); omega
  ·rw[if_neg hm]; exact⟨by omega,by omega,fun h3=>absurd h3 hm⟩
end
theorem q4j(l:List OpV):(l.map OpV.d).length=l.length:=List.length_map ..
theorem z0r{l:List OpV}{i:Nat}{o:OpV}(h:l[i]?=some o):(l.map OpV.d)[i]?=some (.agg [.str o.nm,.list (q0K o.args)]):=by simp[h,OpV.d]
theorem z2Z{l:List Val}{i:Nat}{v:Val}(h:l[i]?=some v):(q0K l)[i]?=some (.agg [.int .i64 v.kind,.int .i64 v.n,.str v.s,.list (q0K v.l),.list (q3w v.f)]):=by
 rw[q4W,List.getElem?_map,h,Option.map_some,Val.d_eq v]
theorem z5G(l:List Val):(q0K l).length=l.length:=by simp[q4W]
def z79(l:List OpV):Prop:=l.length≤1048576∧∀ o∈l,o.args.length≤1048576∧o.nm.length≤1048576∧∀ v∈o.args,v.sm 1048576=true∧awV v≤1048576
def q8h(l:List OpV):Prop:=l.length≤300∧∀ o∈l,o.nm.length≤50∧o.args.length≤12∧∀ v∈o.args,wtV 9000 v≤9000
def q3i:q0i:=
 .seq (.reg [Qx 2 KF]) (.seq (.seq (.reg [Qc 6 0,Q 7 (.len false (.t 6)),Q 8 (.bin .gtr (.t 7) (Ki 300))]) (.cond (.t 8) (.seq (.reg [Qx 2 KF]) .ret) .skip)) (.seq (.reg [Qx 3 (Ki 
 0)]) (.seq (.seq (.reg [Qx 4 (Ki 0)]) (.block 0 (.loop (.seq (.seq (.reg [Qc 9 4,Qc 10 0,Q 11 (.len false (.t 10)),Q 12 (.bin .lss (.t 9) (.t 11))]) (.cond (.t 12) .skip 
 (.exit 0))) (.seq (.block 1 (.seq (.seq (.reg [Qc 15 0,Qc 16 4,Q 17 (.ia 2 (.t 15) (.t 16)),Q 18 (.fa 0 (.t 17)),Q 19 (.ld false 1 (.t 18)),Q 20 (.len true (.t 19)),Q 21 
 (.bin .gtr (.t 20) (Ki 50)),Qc 22 21,Qd 23 0 22 false,Qd 24 4 22 false,Qg 25 (.ia 2 (.t 23) (.t 24)) 22 false,Qg 26 (.fa 1 (.t 25)) 22 false,Qg 27 (.ld false 1 (.t 26)) 22 
 false,Qg 28 (.len false (.t 27)) 22 false,Qg 29 (.bin .gtr (.t 28) (Ki 12)) 22 false,Q 30 (.pick (.t 22) KT (.t 29))]) (.cond (.t 30) (.seq (.reg [Qx 2 KF]) .ret) .skip)) 
 (.seq (.seq (.reg [Qx 5 (Ki 0)]) (.block 2 (.loop (.seq (.seq (.reg [Qc 31 5,Qc 32 0,Qc 33 4,Q 34 (.ia 2 (.t 32) (.t 33)),Q 35 (.fa 1 (.t 34)),Q 36 (.ld false 1 (.t 35)),Q 
 37 (.len false (.t 36)),Q 38 (.bin .lss (.t 31) (.t 37))]) (.cond (.t 38) .skip (.exit 2))) (.seq (.block 3 (.reg [Qc 41 3,Qc 42 0,Qc 43 4,Q 44 (.ia 2 (.t 42) (.t 43)),Q 45 
 (.fa 1 (.t 44)),Q 46 (.ld false 1 (.t 45)),Qc 47 5,Q 48 (.ia 5 (.t 46) (.t 47)),Q 49 (.ld true 5 (.t 48)),⟨some 50,.call 27 [.t 49,.k (.d (.int .i64 9000))],none⟩,Q 51 
 (.bin .add (.t 41) (.t 50)),Qa 3 51])) (.reg [Qc 39 5,Q 40 (.bin .add (.t 39) (Ki 1)),Qa 5 40])))))) (.seq (.reg [Qc 52 3,Q 53 (.bin .gtr (.t 52) (Ki 9000))]) (.cond (.t 53) 
 (.seq (.reg [Qx 2 KF]) .ret) .skip))))) (.reg [Qc 13 4,Q 14 (.bin .add (.t 13) (Ki 1)),Qa 4 14])))))) (.seq (.reg [Qx 2 KT]) .ret))))
def q3l:List LRes:=[.tmp 2]
theorem q4T:q0r Tryz.prog 9 54 q3i q3l:=⟨_,_,Tryz.func9,rfl,by kernel_rfl,by kernel_rfl,rfl⟩
theorem z3z(l:List OpV)(hl:z79 l):q0s Tryz.prog 9 [opsD l] (fun r=>∃ b,r=.one (.bool b)∧(b=true→q8h l)):=by
 have hlen:=q4j l; refine q4T.call rfl ?_; simp(maxSteps:=2000000)only[go_sem,↓reduceIte,q3i,q3l,hlen,opsD]; refine⟨fun h1=>⟨_,rfl,fun h=>by cases h⟩,fun h1=>?_⟩; refine q0l (fun y:Nat×Int=>⟨[(0,.d (.list (l.map OpV.d))),(3,.d (.int .i64 y.2)),(4,.d (.int .i64 y.1))],[],[]⟩)
  (fun y=>y.1≤l.length∧(0≤y.2∧y.2≤9000)∧∀ j o,j<y.1→l[j]?=some o→o.nm.length≤50∧o.args.length≤12∧∀ v∈o.args,wtV 9000 v≤9000) (fun y=>l.length-y.1) (0,0) ?_ ?_ ?_
 ·refine q0d ?_ trivial; simp(maxSteps:=2000000)only[go_sem,↓reduceIte,Sub,Int.natCast_add,Int.natCast_mul]
 ·exact⟨by simp,by simp,fun j o hj=>by simp at hj⟩
 ·rintro⟨i,n⟩ ⟨g1,g2,g3⟩; simp only at g1 g2 g3; simp(maxSteps:=2000000)only[go_sem,↓reduceIte,hlen]; refine⟨fun q1=>?_,fun q1=>?_⟩
  ·obtain⟨o,ho⟩:=get_some (l:=l) (i:=i) (by omega); have hd:=z0r ho; obtain⟨hi1,hi2,hi3⟩:=hl.2 o (List.mem_of_getElem? ho); have hal:=z5G o.args; simp(maxSteps:=2000000)(disch:=omega)only[go_sem,↓reduceIte,q0a,hd,hal]; have nob:∃ b,Res.one (D.bool false)=Res.one (D.bool b)∧(b=true→q8h l):=⟨false,rfl,fun h=>by cases h⟩; refine⟨fun q2=>⟨fun q3=>nob,fun q3=>?_⟩,fun q2=>nob⟩
   refine q0l (fun y:Nat×Int=>⟨[(0,.d (.list (l.map OpV.d))),(3,.d (.int .i64 y.2)),(4,.d (.int .i64 i)),(5,.d (.int .i64 y.1))],[],[]⟩)
    (fun y=>y.1≤o.args.length∧(0≤y.2∧y.2≤9000+1048576*y.1)∧∀ j v,j<y.1→o.args[j]?=some v→wtV 9000 v≤y.2) (fun y=>o.args.length-y.1) (0,n) ?_ ?_ ?_
   ·refine q0d ?_ trivial; simp(maxSteps:=2000000)only[go_sem,↓reduceIte,Sub,Int.natCast_add,Int.natCast_mul]
   ·exact⟨by simp,⟨g2.1,by simp; omega⟩,fun j v hj=>by simp at hj⟩
   ·rintro⟨k,n2⟩ ⟨f1,f2,f3⟩; simp only at f1 f2 f3; simp(maxSteps:=2000000)(disch:=omega)only[go_sem,↓reduceIte,q0a,hd,hal]; refine⟨fun r1=>?_,fun r1=>?_⟩
    ·obtain⟨v,hv⟩:=get_some (l:=o.args) (i:=k) (by omega); have hvd:=z2Z hv; obtain⟨s1,s2⟩:=hi3 v (List.mem_of_getElem? hv); have hwc:=z6Z _ v 9000 (Nat.le_refl _) s1; rw[Val.d_eq v]at hwc; have hwt:=j5U 9000 v (by omega); simp(maxSteps:=2000000)(disch:=omega)only[go_sem,↓reduceIte,q0a,hd,hvd,hal]; refine q0g.of hwc ?_; simp(maxSteps:=2000000)(disch:=omega)only[go_sem,↓reduceIte]
     refine⟨(k+1,n2+wtV 9000 v),?_,⟨by simp only; omega,⟨by simp only; omega,by simp only[Int.natCast_add,Int.natCast_one]; omega⟩,fun j u hj hu=>?_⟩,by simp only; omega⟩
     ·refine q0d ?_ trivial; simp(maxSteps:=2000000)only[go_sem,↓reduceIte,Sub,Int.natCast_add,Int.natCast_mul]
     ·by_cases e:j=k
      ·subst e; rw[hv]at hu; cases hu; simp only; omega
      ·have:=f3 j u (by simp only at hj; omega) hu; simp only; omega
    ·refine⟨fun r2=>nob,fun r2=>?_⟩; refine⟨(i+1,n2),?_,⟨by simp only; omega,⟨f2.1,by simp only; omega⟩,fun j u hj hu=>?_⟩,by simp only; omega⟩
     ·refine q0d ?_ trivial; simp(maxSteps:=2000000)only[go_sem,↓reduceIte,Sub,Int.natCast_add,Int.natCast_mul]
     ·by_cases e:j=i
      ·subst e; rw[ho]at hu; cases hu; refine⟨by omega,by omega,fun v hv=>?_⟩; obtain⟨j',hj'⟩:=List.getElem?_of_mem hv; have:=f3 j' v (by have:=(List.getElem?_eq_some_iff.1 hj').1; omega) hj'; omega
      ·exact g3 j u (by simp only at hj; omega) hu
  ·exact⟨_,rfl,fun _=>⟨by omega,fun o ho=>by
    obtain⟨j,hj⟩:=List.getElem?_of_mem ho; exact g3 j o (by have:=(List.getElem?_eq_some_iff.1 hj).1; omega) hj⟩⟩
structure Tr where
 c:M6→M6
 g:List PSt→List PSt
 o:List Gph→List Gph
def Tr.ap(t:Tr)(q:PT):PT:={ q with s:={ q.s with ctm:=t.c q.s.ctm },saved:=t.g q.saved,out:=t.o q.out }
structure Goo(t:Tr)(E:Nat→Prop)(F:PT→PT):Prop where
 keep:∀ q,q.bad≠0→(F q).bad=q.bad
 com:∀ q,q.bad=0→(F q).bad=0→(F (t.ap q)).bad=0→F (t.ap q)=t.ap (F q)
 err:∀ q,q.bad=0→(F q).bad=0→(F (t.ap q)).bad≠0→E (F (t.ap q)).bad
variable {t:Tr} {E:Nat→Prop}
theorem Goo.mono{F:PT→PT}(h:Goo t E F){q:PT}(hb:(F q).bad=0):q.bad=0:=by
 by_cases e:q.bad=0
 ·exact e
 ·rw[h.keep q e]at hb; exact absurd hb e
theorem Goo.same{F:PT→PT}(hk:∀ q,q.bad≠0→(F q).bad=q.bad)(h:∀ q,F (t.ap q)=t.ap (F q)):Goo t E F:=
 ⟨hk,fun q _ _ _=>h q,fun q _ h2 h3=>by rw[h q]at h3; exact absurd h2 h3⟩
theorem Goo.comp{F G:PT→PT}(hF:Goo t E F)(hG:Goo t E G):Goo t E fun q=>G (F q):=by
 refine⟨fun q hb=>?_,fun q h1 h2 h3=>?_,fun q h1 h2 h3=>?_⟩
 ·have:=hF.keep q hb; rw[hG.keep _ (by rw[this]; exact hb),this]
 ·have e:=hF.com q h1 (hG.mono h2) (hG.mono h3); simp only[e]at h3 ⊢; exact hG.com _ (hG.mono h2) h2 h3
 ·by_cases hb:(F (t.ap q)).bad=0
  ·have e:=hF.com q h1 (hG.mono h2) hb; simp only[e]at h3 ⊢; exact hG.err _ (hG.mono h2) h2 h3
  ·simp only[hG.keep _ hb]at h3 ⊢; exact hF.err q h1 (hG.mono h2) hb
theorem Goo.loc{F:PT→PT}(h:∀ q,∃ K,Goo t E K∧F q=K q∧F (t.ap q)=K (t.ap q)):Goo t E F:=by
 refine⟨fun q hb=>?_,fun q h1 h2 h3=>?_,fun q h1 h2 h3=>?_⟩
 ·obtain⟨K,k,e,_⟩:=h q; rw[e]; exact k.keep q hb
 ·obtain⟨K,k,e,e2⟩:=h q; rw[e]at h2 ⊢; rw[e2]at h3 ⊢; exact k.com q h1 h2 h3
 ·obtain⟨K,k,e,e2⟩:=h q; rw[e]at h2; rw[e2]at h3 ⊢; exact k.err q h1 h2 h3
theorem Goo.id:Goo t E fun q=>q:=.same (fun _ _=>rfl) fun _=>rfl
theorem Goo.when{F:PT→PT}(h:Goo t E F):Goo t E fun q=>if q.bad=0 then F q else q:=
 .loc fun q=>by
  by_cases e:q.bad=0
  ·exact⟨F,h,if_pos e,if_pos e⟩
  ·exact⟨fun q=>q,.id,if_neg e,if_neg e⟩
theorem q0R{n e:Nat}(h:n≠0):orE n e=n:=if_neg h
theorem Goo.er(e:Nat):Goo t E (·.er e):=.same (fun _ h=>q0R h) fun _=>rfl
theorem Goo.nu(l:List Val)(k:Nat):Goo t E (·.nu l k):=.er _
theorem Goo.mv(x y:Int):Goo t E (·.mv x y):=.same (fun _ h=>q0R h) fun _=>rfl
theorem Goo.ld(x:Int):Goo t E (·.ld x):=.same (fun _ _=>rfl) fun _=>rfl
theorem Goo.bk(n:Int):Goo t E (·.bk n):=.same (fun q h=>by
 show orE (orE (orE q.bad _) _) _=_
 rw[q0R h,q0R h,q0R h]) fun _=>rfl
theorem Goo.setN(k:Nat)(x:Int):Goo t E (·.setN k x):=.same (fun _ _=>rfl) fun _=>rfl
theorem Goo.chs(fl:Fl)(l:List Val):Goo t E (·.chs fl l):=.same (fun q h=>by
  unfold PT.chs; split
  ·split
   ·split
    ·rfl
    ·exact q0R h
   ·exact q0R h
  ·exact q0R h) fun q=>by
  unfold PT.chs; split
  ·split
   ·split<;>rfl
   ·rfl
  ·rfl
theorem Goo.tx(b:Bool):Goo t E (·.tx b):=.same (fun q h=>by
  unfold PT.tx; split
  ·exact q0R h
  ·rfl) fun q=>by
  unfold PT.tx; show(PT.mk _ _ _ _ _ _ _)=_
  by_cases e:q.inn=b
  ·rw[if_pos (show(t.ap q).inn=b from e),if_pos e]; rfl
  ·rw[if_neg (show ¬(t.ap q).inn=b from e),if_neg e]; rfl
theorem Goo.glB(x:Sgn):Goo t E (·.glB x):=.same (fun q h=>by
  unfold PT.glB; split
  ·show orE (orE (orE (orE (orE q.bad _) _) _) _) _=_
   simp only[q0R h]
  ·show orE (orE (orE (orE q.bad _) _) _) _=_
   simp only[q0R h]) fun q=>by
  unfold PT.glB; have e:(t.ap q).s.wide=q.s.wide:=rfl; rw[e]; split<;>rfl
structure TrOK(t:Tr)(E:Nat→Prop):Prop where
 cm:∀ m,Goo t E (·.cm m)
 sv:∀ b,Goo t E (·.sv b)
 gl:∀ x,Goo t E (·.glA x)
theorem Goo.gls(ok:TrOK t E):∀ l:List Sgn,Goo t E (·.gls l)
 |[]=>.id
 |x::l=>by
  have h:=Goo.comp (Goo.when (Goo.comp (ok.gl x) (.glB x))) (Goo.gls ok l); exact h
theorem Goo.shw(ok:TrOK t E)(u:List UInt8):Goo t E (·.shw u):=.loc fun q=>by
 cases hf:q.s.font with
 |none=>exact⟨(·.er 6),.er 6,by simp only[PT.shw,hf],by simp only[PT.shw,show(t.ap q).s.font=none from hf]⟩
 |some f=>
  by_cases hi:q.inn=true
  ·cases hm:z1H f u with
   |some l=>exact⟨(·.gls l),.gls ok l,by simp only[PT.shw,hf,hi,hm,if_true],by simp only[PT.shw,show(t.ap q).s.font=some f from hf,show(t.ap q).inn=true from hi,hm,if_true]⟩
   |none=>exact⟨(·.er 4),.er 4,by simp only[PT.shw,hf,hi,hm,if_true],by simp only[PT.shw,show(t.ap q).s.font=some f from hf,show(t.ap q).inn=true from hi,hm,if_true]⟩
  ·exact⟨(·.er 6),.er 6,by simp only[PT.shw,hf,hi,if_false]; rfl,by simp only[PT.shw,show(t.ap q).s.font=some f from hf,show ¬(t.ap q).inn=true from hi]; rfl⟩
theorem Goo.ls1(ok:TrOK t E)(v:Val):Goo t E (·.ls1 v):=by
 unfold PT.ls1; split
 ·exact .shw ok _
 ·split
  ·exact .bk _
  ·exact .er 8
theorem Goo.lst(ok:TrOK t E):∀ l:List Val,Goo t E (·.lst l)
 |[]=>.id
 |v::l=>Goo.comp (.ls1 ok v) (Goo.lst ok l)
theorem Goo.st(ok:TrOK t E)(l:List Val):Goo t E (·.st l):=Goo.comp (.er _) (.shw ok _)
theorem Goo.tj(ok:TrOK t E)(l:List Val):Goo t E (·.tj l):=by
 unfold PT.tj; split
 ·split
  ·exact .lst ok _
  ·exact .er 8
 ·exact .er 8
theorem Goo.ins(ok:TrOK t E)(o:OpV):Goo t E (·.ins o):=by
 unfold PT.ins; split
 ·exact Goo.comp (.nu _ _) (.mv _ _)
 split
 ·exact Goo.comp (Goo.comp (.nu _ _) (.ld _)) (.mv _ _)
 split
 ·exact .same (fun _ h=>q0R h) fun _=>rfl
 split
 ·exact .loc fun q=>⟨fun q'=>(q'.nu o.args 0).mv 0 (ng (q.nu o.args 0).s.lead),Goo.comp (.nu _ _) (.mv _ _),rfl,rfl⟩
 split
 ·exact .st ok _
 split
 ·exact .loc fun q=>⟨fun q'=>(q'.mv 0 (ng q.s.lead)).st o.args,Goo.comp (.mv _ _) (.st ok _),rfl,rfl⟩
 split
 ·exact .tj ok _
 ·exact .id
theorem Goo.dop(ok:TrOK t E)(fl:Fl)(o:OpV):Goo t E (·.dop fl o):=by
 unfold PT.dop; split
 ·exact Goo.comp (.nu _ _) (.setN _ _)
 split
 ·exact ok.sv _
 split
 ·exact Goo.comp (.nu _ _) (ok.cm _)
 split
 ·exact .tx _
 split
 ·exact .chs _ _
 ·exact .ins ok o
theorem Goo.run(ok:TrOK t E)(fl:Fl):∀ l:List OpV,Goo t E (·.run fl l)
 |[]=>.id
 |o::l=>Goo.comp (Goo.dop ok fl o) (Goo.when (Goo.run ok fl l))
theorem j1v(fl:Fl):∀(a b:List OpV) (q:PT),q.bad=0→q.run fl (a++b)=if(q.run fl a).bad=0 then(q.run fl a).run fl b else q.run fl a
 |[],b,q,h=>by
  show _=if q.bad=0 then q.run fl b else q
  rw[if_pos h]; rfl
 |o::a,b,q,h=>by
  have rc:∀(q:PT) (o:OpV) (l:List OpV),q.run fl (o::l)=if(q.dop fl o).bad=0 then PT.run fl (q.dop fl o) l else q.dop fl o:=fun _ _ _=>rfl
  rw[List.cons_append,rc,rc]
  by_cases e:(q.dop fl o).bad=0
  ·simp only[if_pos e]; exact j1v fl a b _ e
  ·simp only[if_neg e]
def exT(P:List Gph)(S:List PSt):Tr:=⟨id,(S++·),(P++·)⟩
theorem j4c(P:List Gph)(S:List PSt):TrOK (exT P S) (fun _=>True):=by
 refine⟨fun m=>.same (fun _ h=>q0R h) fun _=>rfl,fun b=>⟨fun q hb=>?_,fun q h1 h2 h3=>?_,fun _ _ _ _=>trivial⟩,fun x=>⟨fun q hb=>?_,fun q h1 h2 h3=>?_,fun _ _ _ _=>trivial⟩⟩
 ·simp only[PT.sv]; split
  ·split
   ·exact q0R hb
   ·rfl
  ·split
   ·exact q0R hb
   ·rfl
 ·simp only[PT.sv]at h2 h3 ⊢; cases b with
  |true=>
   simp only[if_true]at h2 h3 ⊢; cases hl:q.saved.getLast? with
   |none=>rw[hl]at h2; simp only[PT.er,h1,orE]at h2; cases h2
   |some y=>
    have hne:q.saved≠[]:=fun e=>by rw[e]at hl; cases hl
    have e1:((exT P S).ap q).saved.getLast?=some y:=by
     show(S++q.saved).getLast?=some y
     rw[List.getLast?_append,hl]; rfl
    rw[e1]; simp only[hl]; have e2:((exT P S).ap q).saved.dropLast=S++q.saved.dropLast:=List.dropLast_append_of_ne_nil hne; rw[e2]; rfl
  |false=>
   simp only[Bool.false_eq_true,if_false]at h2 h3 ⊢
   by_cases a1:q.saved.length=8
   ·rw[if_pos a1]at h2; simp only[PT.er,h1,orE]at h2; cases h2
   ·by_cases a2:((exT P S).ap q).saved.length=8
    ·rw[if_pos a2]at h3; have h1':((exT P S).ap q).bad=0:=h1; simp only[PT.er,h1',orE]at h3; cases h3
    ·rw[if_neg a1,if_neg a2]; have e:((exT P S).ap q).saved++[q.s]=S++(q.saved++[q.s]):=List.append_assoc _ _ _; show({ (exT P S).ap q with saved:=((exT P S).ap q).saved++[q.s] }:PT)=_
     rw[e]; rfl
 ·simp only[PT.glA]; have:∀ n,(if 1000<n then orE (orE (orE (orE (orE (orE (orE (orE q.bad (errO (mulF q.s.size q.s.scale))) (errO (catF ((mulF q.s.size q.s.scale).getD 0,0,0,q.s.size,0,q.s.rise) q.tm))) (errO (catF ((catF ((mulF q.s.size q.s.scale).getD 0,0,0,q.s.size,0,q.s.rise) q.tm).getD m60) q.s.ctm))) 0) 0) 0) 0) 0 else 0)=(if 1000<n then q.bad else 0):=fun n=>by simp only[q0R hb]
  simp only[q0R hb,ite_self]
 ·have e:((exT P S).ap q).glA x={ (exT P S).ap (q.glA x)with bad:=(((exT P S).ap q).glA x).bad }:=by
   have:P++q.out++[(⟨x.text,(appF ((catF ((catF ((mulF q.s.size q.s.scale).getD 0,0,0,q.s.size,0,q.s.rise) q.tm).getD m60) q.s.ctm).getD m60) 0 0).getD (0,0),(appF ((catF ((catF ((mulF q.s.size q.s.scale).getD 0,0,0,q.s.size,0,q.s.rise) q.tm).getD m60) q.s.ctm).getD m60) x.width 0).getD (0,0),q.s.size,q12 [(appF ((catF ((catF ((mulF q.s.size q.s.scale).getD 0,0,0,q.s.size,0,q.s.rise) q.tm).getD m60) q.s.ctm).getD m60) 0 0).getD (0,0),(appF ((catF ((catF ((mulF q.s.size q.s.scale).getD 0,0,0,q.s.size,0,q.s.rise) q.tm).getD m60) q.s.ctm).getD m60) x.width 0).getD (0,0),(appF ((catF ((catF ((mulF q.s.size q.s.scale).getD 0,0,0,q.s.size,0,q.s.rise) q.tm).getD m60) q.s.ctm).getD m60) 0 1000).getD (0,0),(appF ((catF ((catF ((mulF q.s.size q.s.scale).getD 0,0,0,q.s.size,0,q.s.rise) q.tm).getD m60) q.s.ctm).getD m60) x.width 1000).getD (0,0)]⟩:Gph)]=P++(q.out++[_]):=List.append_assoc _ _ _
   show PT.mk _ _ _ _ _ (P++q.out++[_]) _=PT.mk _ _ _ _ _ (P++(q.out++[_])) _
   rw[List.append_assoc]; rfl
  rw[e,h3]; have h2':((exT P S).ap (q.glA x)).bad=0:=h2; show({ (exT P S).ap (q.glA x)with bad:=0 }:PT)=_
  rw[← h2']
/-! ### What is saved, and whether text is on -/
theorem j2A(l:List Sgn):∀ q:PT,(q.gls l).inn=q.inn∧(q.gls l).saved=q.saved:=by
 induction l with
 |nil=>intro q; exact⟨rfl,rfl⟩
 |cons x l ih=>
  intro q; rw[PT.gls]; split
  ·obtain⟨a,b⟩:=ih (q.gl x); obtain⟨_,_,_,c,d,_⟩:=gl_s q x; exact⟨a.trans c,b.trans d⟩
  ·exact ih q
theorem z3Y(q:PT)(u:List UInt8):(q.shw u).inn=q.inn∧(q.shw u).saved=q.saved:=by
 unfold PT.shw; split
 ·split
  ·split
   ·exact j2A _ q
   ·exact⟨rfl,rfl⟩
  ·exact⟨rfl,rfl⟩
 ·exact⟨rfl,rfl⟩
theorem j2S(l:List Val):∀ q:PT,(q.lst l).inn=q.inn∧(q.lst l).saved=q.saved:=by
 induction l with
 |nil=>intro q; exact⟨rfl,rfl⟩
 |cons v l ih=>
  intro q; rw[PT.lst]; obtain⟨a,b⟩:=ih (q.ls1 v); have:(q.ls1 v).inn=q.inn∧(q.ls1 v).saved=q.saved:=by
   unfold PT.ls1; split
   ·exact z3Y q _
   ·split<;>exact⟨rfl,rfl⟩
  exact⟨a.trans this.1,b.trans this.2⟩
theorem j2F(q:PT)(o:OpV):(q.ins o).inn=q.inn∧(q.ins o).saved=q.saved:=by
 unfold PT.ins; split
 ·exact⟨rfl,rfl⟩
 split
 ·exact⟨rfl,rfl⟩
 split
 ·exact⟨rfl,rfl⟩
 split
 ·exact⟨rfl,rfl⟩
 split
 ·exact z3Y (q.er _) _
 split
 ·exact z3Y ((q.mv _ _).er _) _
 split
 ·unfold PT.tj; split
  ·split
   ·exact j2S _ q
   ·exact⟨rfl,rfl⟩
  ·exact⟨rfl,rfl⟩
 ·exact⟨rfl,rfl⟩
def balF:List OpV→Int→Bool→Option (Int×Bool)
 |[],d,b=>some (d,b)
 |o::l,d,b=>
  let d':=if o.nm=[113]then d+1 else if o.nm=[81]then d-1 else d
  let b':=if o.nm=[113]∨o.nm=[81]then b else if o.nm=[66,84]∨o.nm=[69,84]then decide (o.nm=[66,84])else b
  if d'<0 then none else balF l d' b'
theorem z6U{s:List UInt8}(h:s=[113]∨s=[81]∨s=[66,84]∨s=[69,84]):setAt s=none:=by
 rcases h with rfl|rfl|rfl|rfl<;>decide
theorem z9u(fl:Fl):∀(l:List OpV) (q:PT) {d:Int} {b:Bool},q.bad=0→(q.run fl l).bad=0→balF l q.saved.length q.inn=some (d,b)→((q.run fl l).saved.length:Int)=d∧(q.run fl l).inn=b
 |[],q,d,b,_,_,h=>by
  simp only[balF,Option.some.injEq,Prod.mk.injEq]at h; exact h
 |o::l,q,d,b,h0,hr,h=>by
  have rc:q.run fl (o::l)=if(q.dop fl o).bad=0 then PT.run fl (q.dop fl o) l else q.dop fl o:=rfl
  rw[rc]at hr ⊢
  by_cases e:(q.dop fl o).bad=0
  ·rw[if_pos e]at hr ⊢; simp only[balF]at h
   by_cases hd:(if o.nm=[113]then(q.saved.length:Int)+1 else if o.nm=[81]then(q.saved.length:Int)-1 else q.saved.length)<0
   ·rw[if_pos hd]at h; cases h
   ·rw[if_neg hd]at h; refine z9u fl l (q.dop fl o) e hr ?_
    have key:((q.dop fl o).saved.length:Int)=(if o.nm=[113]then(q.saved.length:Int)+1 else if o.nm=[81]then(q.saved.length:Int)-1 else q.saved.length)∧
      (q.dop fl o).inn=(if o.nm=[113]∨o.nm=[81]then q.inn else if o.nm=[66,84]∨o.nm=[69,84]then decide (o.nm=[66,84])else q.inn):=by
     by_cases a1:o.nm=[113]∨o.nm=[81]
     ·have hd:q.dop fl o=q.sv (decide (o.nm=[81])):=by
       unfold PT.dop; rw[z6U (by rcases a1 with h|h<;>simp[h])]; simp only[if_pos a1]
      rw[hd]at e ⊢; rw[if_pos a1]; rcases a1 with a1|a1
      ·rw[a1,if_pos rfl]; rw[a1]at e; simp only[PT.sv,show decide (([113]:List UInt8)=[81])=false from rfl,Bool.false_eq_true,if_false]at e ⊢; split
       ·rename_i h8; rw[if_pos h8]at e; simp only[PT.er,h0,orE]at e; cases e
       ·exact⟨by simp,rfl⟩
      ·rw[a1,if_neg (by decide),if_pos rfl]; rw[a1]at e; simp only[PT.sv,decide_true,if_true]at e ⊢; cases hl:q.saved.getLast? with
       |none=>rw[hl]at e; simp only[PT.er,h0,orE]at e; cases e
       |some y=>
        have hne:q.saved≠[]:=fun e=>by rw[e]at hl; cases hl
        have:=List.length_pos_iff.2 hne; exact⟨by simp only[List.length_dropLast]; omega,rfl⟩
     ·rw[if_neg a1,if_neg (fun h=>a1 (.inl h)),if_neg (fun h=>a1 (.inr h))]
      by_cases a2:o.nm=[66,84]∨o.nm=[69,84]
      ·have hd:q.dop fl o=q.tx (decide (o.nm=[66,84])):=by
        unfold PT.dop; rw[z6U (by rcases a2 with h|h<;>simp[h])]; have a3:¬ o.nm=[99,109]:=by rcases a2 with h|h<;>simp[h]
        simp only[if_neg a1,if_neg a3,if_pos a2]
       rw[hd,if_pos a2]; exact⟨by rw[q7s],by unfold PT.tx; rfl⟩
      ·rw[if_neg a2]; unfold PT.dop; split
       ·exact⟨rfl,rfl⟩
       ·rw[if_neg a1]; split
        ·exact⟨rfl,rfl⟩
        split
        ·refine⟨by rw[q8q],?_⟩; unfold PT.chs; split
         ·split
          ·split<;>rfl
          ·rfl
         ·rfl
        ·obtain⟨k1,k2⟩:=j2F q o; exact⟨by rw[k2],k1⟩
    rw[key.1,key.2]; exact h
  ·rw[if_neg e]at hr; exact absurd hr e
/-! ### Text begins ahead of what hangs on its matrix -/
def PT.tl(q:PT)(a b:M6):PT:={ q with tm:=a,lm:=b }
def begF:List OpV→Bool
 |[]=>true
 |o::l=>if o.nm=[66,84]then true
  else if o.nm=[84,100]∨o.nm=[84,68]∨o.nm=[84,109]∨o.nm=[84,42]∨o.nm=[84,106]∨o.nm=[39]∨o.nm=[84,74]∨o.nm=[69,84]then false else begF l
theorem j7w(q:PT)(a b:M6)(k:Bool):(q.tl a b).sv k=(q.sv k).tl a b:=by
 unfold PT.sv; have e1:(q.tl a b).saved=q.saved:=rfl; rw[e1]; split
 ·split<;>rfl
 ·split<;>rfl
theorem z9v(fl:Fl):∀(l:List OpV) (q:PT) (a b:M6),begF l=true→∃ a' b',(q.tl a b).run fl l=(q.run fl l).tl a' b'
 |[],q,a,b,_=>⟨a,b,rfl⟩
 |o::l,q,a,b,h=>by
  have rc:∀ q:PT,q.run fl (o::l)=if(q.dop fl o).bad=0 then PT.run fl (q.dop fl o) l else q.dop fl o:=fun _=>rfl
  rw[rc,rc]; rw[begF]at h
  by_cases h1:o.nm=[66,84]
  ·have hd:∀ q:PT,q.dop fl o=q.tx true:=fun q=>by
    unfold PT.dop; rw[z6U (by simp[h1])]; simp[h1]
   have e:(q.tl a b).tx true=q.tx true:=by
    unfold PT.tx; have e1:(q.tl a b).inn=q.inn:=rfl; rw[e1]; split<;>rfl
   rw[hd,hd,e]; refine⟨(if(q.tx true).bad=0 then PT.run fl (q.tx true) l else q.tx true).tm,(if(q.tx true).bad=0 then PT.run fl (q.tx true) l else q.tx true).lm,rfl⟩
  ·rw[if_neg h1]at h; split at h
   ·cases h
   ·rename_i h2; have hd:∀ q:PT,(q.tl a b).dop fl o=(q.dop fl o).tl a b:=fun q=>by
     unfold PT.dop; split
     ·rfl
     split
     ·exact j7w q a b _
     split
     ·rfl
     split
     ·rename_i h4; exact absurd (h4.resolve_left h1) (fun h=>h2 (by simp[h]))
     split
     ·unfold PT.chs; split
      ·split
       ·split<;>rfl
       ·rfl
      ·rfl
     ·simp only[not_or]at h2; unfold PT.ins; simp only[if_neg h2.1,if_neg h2.2.1,if_neg h2.2.2.1,if_neg h2.2.2.2.1,if_neg h2.2.2.2.2.1,if_neg h2.2.2.2.2.2.1,if_neg h2.2.2.2.2.2.2.1]
    rw[hd]
    by_cases e:(q.dop fl o).bad=0
    ·rw[if_pos e,if_pos (show((q.dop fl o).tl a b).bad=0 from e)]; exact z9v fl l _ a b h
    ·rw[if_neg e,if_neg (show ¬((q.dop fl o).tl a b).bad=0 from e)]; exact⟨a,b,rfl⟩
theorem j3H(fl:Fl)(l more:List OpV)(hA:(q00.run fl more).bad=0)(hB:(q00.run fl l).bad=0)(hC:(q00.run fl (⟨[113],[]⟩::more++[⟨[81],[]⟩]++l)).bad=0)
  (hb:balF more 0 false=some (0,false)) (hg:begF l=true):
  (q00.run fl (⟨[113],[]⟩::more++[⟨[81],[]⟩]++l)).out=(q00.run fl more).out++(q00.run fl l).out:=by
 have hbal:=z9u fl more q00 rfl hA hb; have h1:(exT [] [q00.s]).ap q00=q00.dop fl ⟨[113],[]⟩:=rfl; rw[List.append_assoc,List.cons_append]at hC ⊢; have rc:∀(q:PT) (o:OpV) (l:List OpV),q.run fl (o::l)=if(q.dop fl o).bad=0 then PT.run fl (q.dop fl o) l else q.dop fl o:=fun _ _ _=>rfl
 rw[rc,if_pos (show(q00.dop fl ⟨[113],[]⟩).bad=0 from rfl),← h1,j1v fl _ _ _ rfl]at hC ⊢
 by_cases e1:(((exT [] [q00.s]).ap q00).run fl more).bad=0
 ·rw[if_pos e1]at hC ⊢; have e2:=(Goo.run (j4c [] [q00.s]) fl more).com q00 rfl hA e1; rw[e2]at hC ⊢; rw[List.singleton_append,rc]at hC ⊢; have hs:(q00.run fl more).saved=[]:=List.length_eq_zero_iff.1 (by have:=hbal.1; omega); have h3:((exT [] [q00.s]).ap (q00.run fl more)).dop fl ⟨[81],[]⟩=((exT (q00.run fl more).out []).ap q00).tl (q00.run fl more).tm (q00.run fl more).lm:=by
   have hi:=hbal.2; generalize q00.run fl more=q at *; obtain⟨s,saved,tm,lm,inn,out,bad⟩:=q; simp only at hs hi hA; subst hs hi hA; show PT.mk _ _ _ _ _ _ _=PT.mk _ _ _ _ _ (out++[]) _
   rw[List.append_nil]; rfl
  rw[h3]at hC ⊢; have hz:(((exT (q00.run fl more).out []).ap q00).tl (q00.run fl more).tm (q00.run fl more).lm).bad=0:=rfl; rw[if_pos hz]at hC ⊢; obtain⟨a',b',e4⟩:=z9v fl l ((exT (q00.run fl more).out []).ap q00) (q00.run fl more).tm (q00.run fl more).lm hg; rw[e4]at hC ⊢; have e5:=(Goo.run (j4c (q00.run fl more).out []) fl l).com q00 rfl hB hC; show(((exT (q00.run fl more).out []).ap q00).run fl l).out=_
  rw[e5]; rfl
 ·rw[if_neg e1]at hC; exact absurd hC e1
end Go.Av.Tryz
set_option linter.unusedSimpArgs false
set_option maxRecDepth 100000
set_option maxHeartbeats 4000000
namespace Go.Av.Tryz
open Go.Proofs
def z9d(l:List OpV):Prop:=∀ o∈l,∀ v∈o.args,q6n v=0
def q17:q0i:=
 .seq (.reg [Qx 2 KF]) (.seq (.seq (.reg [Qc 5 0,⟨some 6,.call 9 [.t 5],none⟩,Q 7 (.not (.t 6))]) (.cond (.t 7) (.seq (.reg [Qx 2 KF]) .ret) .skip)) (.seq (.seq (.reg [Qx 3 (Ki 
 0)]) (.block 0 (.loop (.seq (.seq (.reg [Qc 8 3,Qc 9 0,Q 10 (.len false (.t 9)),Q 11 (.bin .lss (.t 8) (.t 10))]) (.cond (.t 11) .skip (.exit 0))) (.seq (.block 1 (.seq (.reg 
 [Qx 4 (Ki 0)]) (.block 2 (.loop (.seq (.seq (.reg [Qc 14 4,Qc 15 0,Qc 16 3,Q 17 (.ia 2 (.t 15) (.t 16)),Q 18 (.fa 1 (.t 17)),Q 19 (.ld false 1 (.t 18)),Q 20 (.len false (.t 
 19)),Q 21 (.bin .lss (.t 14) (.t 20))]) (.cond (.t 21) .skip (.exit 2))) (.seq (.block 3 (.seq (.reg [Qc 24 0,Qc 25 3,Q 26 (.ia 2 (.t 24) (.t 25)),Q 27 (.fa 1 (.t 26)),Q 28 
 (.ld false 1 (.t 27)),Qc 29 4,Q 30 (.ia 5 (.t 28) (.t 29)),Q 31 (.ld true 5 (.t 30)),⟨some 32,.call 34 [.t 31],none⟩,Q 33 (.eqN 0 true (.t 32))]) (.cond (.t 33) (.seq 
 (.reg [Qx 2 KF]) .ret) .skip))) (.reg [Qc 22 4,Q 23 (.bin .add (.t 22) (Ki 1)),Qa 4 23]))))))) (.reg [Qc 12 3,Q 13 (.bin .add (.t 12) (Ki 1)),Qa 3 13])))))) (.seq (.reg [Qx 2 
 KT]) .ret)))
def q2a:List LRes:=[.tmp 2]
theorem q3r:q0r Tryz.prog 16 34 q17 q2a:=⟨_,_,Tryz.func16,rfl,by kernel_rfl,by kernel_rfl,rfl⟩
theorem z0Y(l:List OpV)(hl:z79 l):q0s Tryz.prog 16 [opsD l] (fun r=>∃ b,r=.one (.bool b)∧(b=true→q8h l∧z9d l)):=by
 have hlen:=q4j l; have hl1:=hl.1; have nob:∃ b,Res.one (D.bool false)=Res.one (D.bool b)∧(b=true→q8h l∧z9d l):=⟨false,rfl,fun h=>by cases h⟩; refine q3r.call rfl ?_; simp(maxSteps:=2000000)only[go_sem,↓reduceIte,q17,q2a,opsD]; refine q0g.post (z3z l hl) (fun r hr=>?_); obtain⟨b,rfl,hb⟩:=hr; cases b with
 |false=>
  simp(maxSteps:=2000000)only[go_sem,↓reduceIte]; exact nob
 |true=>
  have hb:=hb rfl; simp(maxSteps:=2000000)only[go_sem,↓reduceIte]; refine q0l (fun i:Nat=>⟨[(0,.d (.list (l.map OpV.d))),(3,.d (.int .i64 i))],[],[]⟩)
   (fun i=>i≤l.length∧∀ j o,j<i→l[j]?=some o→∀ v∈o.args,q6n v=0) (fun i=>l.length-i) 0 ?_ ?_ ?_
  ·refine q0d ?_ trivial; simp(maxSteps:=2000000)only[go_sem,↓reduceIte,Sub,Int.natCast_add,Int.natCast_mul]
  ·exact⟨by simp,fun j o hj=>by simp at hj⟩
  ·rintro i ⟨g1,g2⟩; simp(maxSteps:=2000000)only[go_sem,↓reduceIte,hlen]; refine⟨fun q1=>?_,fun q1=>?_⟩
   ·obtain⟨o,ho⟩:=get_some (l:=l) (i:=i) (by omega); have hd:=z0r ho; obtain⟨hi1,hi2,hi3⟩:=hl.2 o (List.mem_of_getElem? ho); have hal:=z5G o.args; refine q0l (fun k:Nat=>⟨[(0,.d (.list (l.map OpV.d))),(3,.d (.int .i64 i)),(4,.d (.int .i64 k))],[],[]⟩)
     (fun k=>k≤o.args.length∧∀ j v,j<k→o.args[j]?=some v→q6n v=0) (fun k=>o.args.length-k) 0 ?_ ?_ ?_
    ·refine q0d ?_ trivial; simp(maxSteps:=2000000)only[go_sem,↓reduceIte,Sub,Int.natCast_add,Int.natCast_mul]
    ·exact⟨by simp,fun j o hj=>by simp at hj⟩
    ·rintro k ⟨k1,k2⟩; simp(maxSteps:=2000000)(disch:=omega)only[go_sem,↓reduceIte,q0a,hd,hal]; refine⟨fun q2=>?_,fun q2=>?_⟩
     ·obtain⟨v,hv⟩:=get_some (l:=o.args) (i:=k) (by omega); have hvd:=z2Z hv; have hck:=z0L v (hi3 v (List.mem_of_getElem? hv)).1; rw[Val.d_eq v]at hck; simp(maxSteps:=2000000)(disch:=omega)only[go_sem,↓reduceIte,q0a,hvd]; refine q0g.of hck ?_
      by_cases f0:q6n v=0
      ·rw[f0,show errD 0=.nil from rfl]; simp(maxSteps:=2000000)(disch:=omega)only[go_sem,↓reduceIte]; refine⟨k+1,?_,⟨by omega,fun j u hj hu=>?_⟩,by omega⟩
       ·refine q0d ?_ trivial; simp(maxSteps:=2000000)only[go_sem,↓reduceIte,Sub,Int.natCast_add,Int.natCast_mul]
       ·by_cases e:j=k
        ·subst e; rw[hv]at hu; cases hu; exact f0
        ·exact k2 j u (by omega) hu
      ·rw[q13 f0]; simp(maxSteps:=2000000)only[go_sem,↓reduceIte]; exact nob
     ·refine⟨i+1,?_,⟨by omega,fun j u hj hu=>?_⟩,by omega⟩
      ·refine q0d ?_ trivial; simp(maxSteps:=2000000)only[go_sem,↓reduceIte,Sub,Int.natCast_add,Int.natCast_mul]
      ·by_cases e:j=i
       ·subst e; rw[ho]at hu; cases hu; intro v hv; obtain⟨j,hj⟩:=List.getElem?_of_mem hv; have:=(List.getElem?_eq_some_iff.1 hj).1; exact k2 j v (by omega) hj
       ·exact g2 j u (by omega) hu
   ·refine⟨true,rfl,fun _=>⟨hb,fun o ho=>?_⟩⟩; obtain⟨j,hj⟩:=List.getElem?_of_mem ho; have:=(List.getElem?_eq_some_iff.1 hj).1; exact g2 j o (by omega) hj
def q1D:q0i:=
 .seq (.reg [Qx 2 KF]) (.seq (.seq (.reg [Qx 3 (Ki 0)]) (.block 0 (.loop (.seq (.seq (.reg [Qc 4 3,Qc 5 0,Q 6 (.len false (.t 5)),Q 7 (.bin .lss (.t 4) (.t 6))]) (.cond (.t 7) 
 .skip (.exit 0))) (.seq (.block 1 (.seq (.reg [Qc 10 0,Qc 11 3,Q 12 (.ia 2 (.t 10) (.t 11)),Q 13 (.fa 0 (.t 12)),Q 14 (.ld false 1 (.t 13))]) (.block 2 (.seq (.reg [Q 16 
 (.bin .eql (.t 14) (.k (.d (.str [66,84])))),Qa 15 16]) (.cond (.t 15) (.seq (.reg [Qx 2 KT]) .ret) (.seq (.seq (.reg [Q 18 (.bin .eql (.t 14) (.k (.d (.str [84,100])))),Qa 
 17 18]) (.cond (.t 17) .skip (.seq (.reg [Q 19 (.bin .eql (.t 14) (.k (.d (.str [84,68])))),Qa 17 19]) (.cond (.t 17) .skip (.seq (.reg [Q 20 (.bin .eql (.t 14) (.k (.d (.str 
 [84,109])))),Qa 17 20]) (.cond (.t 17) .skip (.seq (.reg [Q 21 (.bin .eql (.t 14) (.k (.d (.str [84,42])))),Qa 17 21]) (.cond (.t 17) .skip (.seq (.reg [Q 22 (.bin .eql (.t 
 14) (.k (.d (.str [84,106])))),Qa 17 22]) (.cond (.t 17) .skip (.seq (.reg [Q 23 (.bin .eql (.t 14) (.k (.d (.str [39])))),Qa 17 23]) (.cond (.t 17) .skip (.seq (.reg [Q 24 
 (.bin .eql (.t 14) (.k (.d (.str [84,74])))),Qa 17 24]) (.cond (.t 17) .skip (.reg [Q 25 (.bin .eql (.t 14) (.k (.d (.str [69,84])))),Qa 17 25]))))))))))))))) (.cond (.t 17) 
 (.seq (.reg [Qx 2 KF]) .ret) .skip))))))) (.reg [Qc 8 3,Q 9 (.bin .add (.t 8) (Ki 1)),Qa 3 9])))))) (.seq (.reg [Qx 2 KT]) .ret))
def q1J:List LRes:=[.tmp 2]
theorem q21:q0r Tryz.prog 20 26 q1D q1J:=⟨_,_,Tryz.func20,rfl,by kernel_rfl,by kernel_rfl,rfl⟩
theorem z5N(l:List OpV)(hl:l.length≤1000000):q0s Tryz.prog 20 [opsD l] (fun r=>r=.one (.bool (begF l))):=by
 have hlen:=q4j l; refine q21.call rfl ?_; generalize hR:begF l=R; simp(maxSteps:=2000000)only[go_sem,↓reduceIte,q1D,q1J,opsD]; refine q0l (fun i:Nat=>⟨[(0,.d (.list (l.map OpV.d))),(3,.d (.int .i64 i))],[],[]⟩)
  (fun i=>i≤l.length∧begF (l.drop i)=R) (fun i=>l.length-i) 0 ?_ ?_ ?_
 ·refine q0d ?_ trivial; simp(maxSteps:=2000000)only[go_sem,↓reduceIte,Sub,Int.natCast_add,Int.natCast_mul]
 ·exact⟨by simp,by simpa using hR⟩
 ·rintro i ⟨g1,g2⟩; simp(maxSteps:=2000000)only[go_sem,↓reduceIte,hlen]; refine⟨fun q1=>?_,fun q1=>?_⟩
  ·obtain⟨o,ho⟩:=get_some (l:=l) (i:=i) (by omega); have hd:=z0r ho; rw[q05 ho,begF]at g2
   by_cases a0:o.nm=[66,84]
   ·rw[if_pos a0]at g2; have e:=eq_true a0; simp(maxSteps:=2000000)(disch:=omega)only[go_sem,↓reduceIte,q0a,hd,e]; rw[← g2]
   rw[if_neg a0]at g2
   by_cases a1:o.nm=[84,100]
   ·rw[if_pos (by simp[a1])]at g2; have e:=eq_true a1; simp(maxSteps:=2000000)(disch:=omega)only[go_sem,↓reduceIte,q0a,hd,a0,e]; rw[← g2]
   by_cases a2:o.nm=[84,68]
   ·rw[if_pos (by simp[a2])]at g2; have e:=eq_true a2; simp(maxSteps:=2000000)(disch:=omega)only[go_sem,↓reduceIte,q0a,hd,a0,a1,e]; rw[← g2]
   by_cases a3:o.nm=[84,109]
   ·rw[if_pos (by simp[a3])]at g2; have e:=eq_true a3; simp(maxSteps:=2000000)(disch:=omega)only[go_sem,↓reduceIte,q0a,hd,a0,a1,a2,e]; rw[← g2]
   by_cases a4:o.nm=[84,42]
   ·rw[if_pos (by simp[a4])]at g2; have e:=eq_true a4; simp(maxSteps:=2000000)(disch:=omega)only[go_sem,↓reduceIte,q0a,hd,a0,a1,a2,a3,e]; rw[← g2]
   by_cases a5:o.nm=[84,106]
   ·rw[if_pos (by simp[a5])]at g2; have e:=eq_true a5; simp(maxSteps:=2000000)(disch:=omega)only[go_sem,↓reduceIte,q0a,hd,a0,a1,a2,a3,a4,e]; rw[← g2]
   by_cases a6:o.nm=[39]
   ·rw[if_pos (by simp[a6])]at g2; have e:=eq_true a6; simp(maxSteps:=2000000)(disch:=omega)only[go_sem,↓reduceIte,q0a,hd,a0,a1,a2,a3,a4,a5,e]; rw[← g2]
   by_cases a7:o.nm=[84,74]
   ·rw[if_pos (by simp[a7])]at g2; have e:=eq_true a7; simp(maxSteps:=2000000)(disch:=omega)only[go_sem,↓reduceIte,q0a,hd,a0,a1,a2,a3,a4,a5,a6,e]; rw[← g2]
   by_cases a8:o.nm=[69,84]
   ·rw[if_pos (by simp[a8])]at g2; have e:=eq_true a8; simp(maxSteps:=2000000)(disch:=omega)only[go_sem,↓reduceIte,q0a,hd,a0,a1,a2,a3,a4,a5,a6,a7,e]; rw[← g2]
   rw[if_neg (by simp[a1,a2,a3,a4,a5,a6,a7,a8])]at g2; simp(maxSteps:=2000000)(disch:=omega)only[go_sem,↓reduceIte,q0a,hd,a0,a1,a2,a3,a4,a5,a6,a7,a8]; refine⟨i+1,?_,⟨by omega,g2⟩,by omega⟩; refine q0d ?_ trivial; simp(maxSteps:=2000000)only[go_sem,↓reduceIte,Sub,Int.natCast_add,Int.natCast_mul]
  ·rw[List.drop_eq_nil_of_le (by omega),begF]at g2; rw[← g2]
end Go.Av.Tryz
set_option linter.unusedSimpArgs false
set_option maxRecDepth 100000
namespace Go.Av.Tryz
open Go.Proofs
def q4i(l:List Span):Bool:=decide (l.length≤310)&&l.all fun x=>decide (x.tx.length≤60)
def q1E:q0i:=
 .seq (.reg [Qx 2 KF]) (.seq (.seq (.reg [Qc 4 0,Q 5 (.len false (.t 4)),Q 6 (.bin .gtr (.t 5) (Ki 310))]) (.cond (.t 6) (.seq (.reg [Qx 2 KF]) .ret) .skip)) (.seq (.seq (.reg [Qx 
 3 (Ki 0)]) (.block 0 (.loop (.seq (.seq (.reg [Qc 7 3,Qc 8 0,Q 9 (.len false (.t 8)),Q 10 (.bin .lss (.t 7) (.t 9))]) (.cond (.t 10) .skip (.exit 0))) (.seq (.block 1 (.seq 
 (.reg [Qc 13 0,Qc 14 3,Q 15 (.ia 3 (.t 13) (.t 14)),Q 16 (.fa 2 (.t 15)),Q 17 (.ld false 1 (.t 16)),Q 18 (.len true (.t 17)),Q 19 (.bin .gtr (.t 18) (Ki 60))]) (.cond (.t 
 19) (.seq (.reg [Qx 2 KF]) .ret) .skip))) (.reg [Qc 11 3,Q 12 (.bin .add (.t 11) (Ki 1)),Qa 3 12])))))) (.seq (.reg [Qx 2 KT]) .ret)))
def q1K:List LRes:=[.tmp 2]
theorem q4A:q0r Tryz.prog 39 20 q1E q1K:=⟨_,_,Tryz.func39,rfl,by kernel_rfl,by kernel_rfl,rfl⟩
theorem z1i(l:List Span)(hl:l.length≤9223372036854775807):q0s Tryz.prog 39 [.list (q2e l)] (fun r=>r=.one (.bool (q4i l))):=by
 refine q4A.call rfl ?_; have hI:((q2e l).length:Int)=(l.length:Int):=by rw[q6j]
 unfold q4i
 by_cases h310:l.length≤310
 ·have z1:(310<(l.length:Int))=False:=eq_false (by omega); rw[decide_eq_true h310,Bool.true_and]; generalize hR:(l.all fun x=>decide (x.tx.length≤60))=R; simp(maxSteps:=2000000)only[go_sem,↓reduceIte,q1E,q1K,hI,z1]; refine q0l (fun i:Nat=>⟨[(0,.d (.list (q2e l))),(3,.d (.int .i64 i))],[],[]⟩)
   (fun i=>i≤l.length∧((l.drop i).all fun x=>decide (x.tx.length≤60))=R) (fun i=>l.length-i) 0 ?_ ?_ ?_
  ·refine q0d ?_ trivial; simp(maxSteps:=2000000)only[go_sem,↓reduceIte,Sub,Int.natCast_add,Int.natCast_mul]
  ·exact⟨Nat.zero_le _,hR⟩
  ·rintro i ⟨hi,hF⟩; simp(maxSteps:=2000000)only[go_sem,↓reduceIte,hI]; refine⟨fun hlt=>?_,fun hge=>?_⟩
   ·obtain⟨x,hx⟩:=get_some (l:=l) (i:=i) (by omega); rw[q05 hx,List.all_cons]at hF
    by_cases h60:x.tx.length≤60
    ·have z2:(60<(x.tx.length:Int))=False:=eq_false (by omega); rw[decide_eq_true h60,Bool.true_and]at hF; simp(maxSteps:=2000000)(disch:=omega)only[go_sem,↓reduceIte,q0a,q0p,hx,Span.d,z2]; refine⟨i+1,?_,⟨by omega,hF⟩,by omega⟩; refine q0d ?_ trivial; simp(maxSteps:=2000000)only[go_sem,↓reduceIte,Sub,Int.natCast_add,Int.natCast_mul]
    ·have z2:(60<(x.tx.length:Int))=True:=eq_true (by omega); rw[decide_eq_false h60,Bool.false_and]at hF; simp(maxSteps:=2000000)(disch:=omega)only[go_sem,↓reduceIte,q0a,q0p,hx,Span.d,z2]; rw[← hF]
   ·have:l.drop i=[]:=List.drop_eq_nil_of_le (by omega); rw[this]at hF; rw[← hF]; rfl
 ·have z1:(310<(l.length:Int))=True:=eq_true (by omega); rw[decide_eq_false h310,Bool.false_and]; simp(maxSteps:=2000000)only[go_sem,↓reduceIte,q1E,q1K,hI,z1]
def okN(p:Int×List UInt8):Bool:=decide (p.2.length≤100)
def q4Y(x:Fnt):Bool:=q4i x.cs&&(decide (x.ws.length≤400)&&(decide (x.ns.length≤300)&&(x.ns.all okN&&decide (z2A x.cs x.wide=0))))
def q7L(l:List (Int×List UInt8)):List (D×D):=l.map fun p=>(.int .i64 p.1,.str p.2)
theorem j1X(l:List (Int×List UInt8)):(q2T l).zip (q8O l)=q7L l:=by
 induction l with
 |nil=>rfl
 |cons p r ih=>simp only[q2T,q8O,q7L,List.map_cons,List.zip_cons_cons]at ih ⊢; rw[ih]
theorem j1b(l:List (Int×List UInt8))(i:Nat){k v:D}(h:(q7L l)[i]?=some (k,v)):∃ p,l[i]?=some p∧k=.int .i64 p.1∧v=.str p.2:=by
 unfold q7L at h; rw[List.getElem?_map]at h; cases hp:l[i]? with
 |none=>rw[hp]at h; cases h
 |some p=>rw[hp]at h; cases h; exact⟨p,rfl,rfl,rfl⟩
theorem z1s:∀(l:List (Int×List UInt8)) (i:Nat),(q7L l).eraseIdx i=q7L (l.eraseIdx i)
 |[],i=>by simp[q7L]
 |p::r,0=>by simp[q7L]
 |p::r,i+1=>by have:=z1s r i; simp only[q7L,List.map_cons,List.eraseIdx_cons_succ]at this ⊢; rw[this]
theorem z4p{α:Type}(f:α→Bool):∀(l:List α) (i:Nat) (p:α),l[i]?=some p→f p=true→(l.eraseIdx i).all f=l.all f
 |[],i,p,h,_=>by simp at h
 |a::r,0,p,h,hf=>by simp at h; subst h; simp[hf]
 |a::r,i+1,p,h,hf=>by
  have:=z4p f r i p (by simpa using h) hf; simp only[List.eraseIdx_cons_succ,List.all_cons,this]
theorem j4F{α:Type}(f:α→Bool){l:List α}{i:Nat}{p:α}(h:l[i]?=some p)(hf:f p=false):l.all f=false:=by
 rw[Bool.eq_false_iff]; intro h2; have:=List.all_eq_true.1 h2 p (List.mem_of_getElem? h); rw[hf]at this; cases this
structure Fnt.wf(x:Fnt):Prop where
 cs:∀ s∈x.cs,-9223372036854775808≤s.fr∧s.fr≤9223372036854775807 ∧ -9223372036854775808≤s.to∧s.to≤9223372036854775807
 cl:x.cs.length≤9223372036854775807
def q25:q0i:=
 .seq (.reg [⟨some 1,.box (.t 0),none⟩,Qx 2 KF]) (.seq (.seq (.reg [Q 5 (.fa 4 (.t 1)),Q 6 (.ld false 1 (.t 5)),⟨some 7,.call 39 [.t 6],none⟩,Q 8 (.not (.t 7)),Qc 9 8,Qg 
 10 (.fa 1 (.t 1)) 9 false,Qg 11 (.ld false 1 (.t 10)) 9 false,⟨some 12,.prim (.bi .len [58]) [.t 11] [],some (9,false)⟩,Qg 13 (.bin .gtr (.t 12) (Ki 400)) 9 false,Q 14 
 (.pick (.t 9) KT (.t 13)),Qc 15 14,Qg 16 (.fa 3 (.t 1)) 15 false,Qg 17 (.ld false 1 (.t 16)) 15 false,⟨some 18,.prim (.bi .len [59]) [.t 17] [],some (15,false)⟩,Qg 19 
 (.bin .gtr (.t 18) (Ki 300)) 15 false,Q 20 (.pick (.t 15) KT (.t 19))]) (.cond (.t 20) (.seq (.reg [Qx 2 KF]) .ret) .skip)) (.seq (.seq (.reg [Q 21 (.fa 3 (.t 1)),Q 22 (.ld 
 false 1 (.t 21)),⟨some 23,.prim (.range 59) [.t 22] [],none⟩]) (.block 0 (.loop (.seq (.reg [⟨some 24,.prim (.next false 0) [.t 23] [],none⟩,Q 25 (.ext 0 (.t 24))]) (.seq 
 (.cond (.t 25) .skip (.exit 0)) (.block 1 (.seq (.reg [⟨some 26,.prim .entry [.t 23] [],none⟩,Q 27 (.ext 1 (.t 26)),Qa 4 27]) (.seq (.reg [Qc 28 4,Q 29 (.len true (.t 28)), 
 Q 30 (.bin .gtr (.t 29) (Ki 100))]) (.cond (.t 30) (.seq (.reg [Qx 2 KF]) .ret) .skip))))))))) (.seq (.reg [Q 31 (.fa 4 (.t 1)),Q 32 (.ld false 1 (.t 31)),Q 33 (.fa 0 (.t 1)), 
 Q 34 (.ld false 1 (.t 33)),⟨some 35,.call 40 [.t 32,.t 34],none⟩,Q 36 (.bin .eql (.t 35) (Ki 0)),Qa 2 36]) .ret)))
def q27:List LRes:=[.tmp 2]
theorem q4K:q0r Tryz.prog 25 37 q25 q27:=⟨_,_,Tryz.func25,rfl,by kernel_rfl,by kernel_rfl,rfl⟩
theorem z2e(x:Fnt)(hx:x.wf):q0s Tryz.prog 25 [x.d] (fun r=>r=.one (.bool (q4Y x))):=by
 refine q4K.call rfl ?_; unfold q4Y; have hwl:(q2T x.ws).length=x.ws.length:=by simp[q2T]
 have hnl:(q2T x.ns).length=x.ns.length:=by simp[q2T]
 simp(maxSteps:=2000000)only[go_sem,↓reduceIte,q25,q27,Fnt.d]; refine q0g.of (z1i x.cs hx.cl) ?_; cases hls:q4i x.cs with
 |false=>
  simp(maxSteps:=2000000)only[go_sem,↓reduceIte]
 |true=>
  have hcs:∀ s∈x.cs,s.wf:=fun s hs=>by
   obtain⟨a,b,c,d⟩:=hx.cs s hs; unfold q4i at hls; simp only[Bool.and_eq_true,List.all_eq_true,decide_eq_true_eq]at hls; exact⟨a,b,c,d,by have:=hls.2 s hs; omega⟩
  simp(maxSteps:=2000000)only[go_sem,↓reduceIte]; refine q0c.j0H rfl j2V ?_; rw[hwl]
  by_cases h400:x.ws.length≤400
  ·have z1:(400<(x.ws.length:Int))=False:=eq_false (by omega); rw[decide_eq_true h400]; simp(maxSteps:=2000000)only[go_sem,↓reduceIte,z1]; refine q0c.j0H rfl j5c ?_; rw[hnl]
   by_cases h300:x.ns.length≤300
   ·have z2:(300<(x.ns.length:Int))=False:=eq_false (by omega); rw[decide_eq_true h300]; simp(maxSteps:=2000000)only[go_sem,↓reduceIte,z2]; refine q0c.rangeMap rfl j5c ?_; rw[j1X]; generalize hR:x.ns.all okN=R; simp(maxSteps:=2000000)only[go_sem,↓reduceIte]; refine q0l (fun y:List (Int×List UInt8)×List (D×D)=>⟨[(1,.ptr (.l 1) 0),(23,.ptr (.l 23) 0)],
      [(1,.cells [.d (.bool x.wide),.d (.map (q2T x.ws) (q85 x.ws)),.d (.int .i64 x.miss),.d (.map (q2T x.ns) (q8O x.ns)),.d (.list (q2e x.cs))]),(23,.miter (q7L y.1) y.2)],[]⟩)
     (fun y=>y.1.all okN=R) (fun y=>y.1.length) (x.ns,[]) ?_ ?_ ?_
    ·refine Weak.mk ?_ ?_ ?_<;>simp(maxSteps:=2000000)only[go_sem,↓reduceIte,Sub,Int.natCast_add,Int.natCast_mul]
    ·exact hR
    ·rintro⟨rem,cur⟩ hF; simp only at hF; simp(maxSteps:=2000000)only[go_sem,↓reduceIte]; refine q0c.j0W rfl rfl (fun h0=>?_) (fun i k v hik=>?_)
     ·have hrem:rem=[]:=by cases rem with|nil=>rfl|cons a r=>cases h0
      subst hrem; simp only[List.all_nil]at hF; subst hF; simp(maxSteps:=2000000)only[go_sem,↓reduceIte]; refine q0g.of (z1L x.cs x.wide hcs) ?_; simp(maxSteps:=2000000)only[go_sem,↓reduceIte]; have e:((z2A x.cs x.wide:Nat):Int)=0↔z2A x.cs x.wide=0:=by omega
      simp only[e,Bool.true_and]
     ·obtain⟨p,hp,rfl,rfl⟩:=j1b rem i hik; rw[z1s]; simp(maxSteps:=2000000)only[go_sem,↓reduceIte]; refine q0c.z7j rfl rfl ?_
      by_cases h100:p.2.length≤100
      ·have z3:(100<(p.2.length:Int))=False:=eq_false (by omega); simp(maxSteps:=2000000)only[go_sem,↓reduceIte,z3]; have hlt:=(List.getElem?_eq_some_iff.1 hp).1; refine⟨(rem.eraseIdx i,[(.int .i64 p.1,.str p.2)]),?_,?_,?_⟩
       ·refine Weak.mk ?_ ?_ ?_<;>simp(maxSteps:=2000000)only[go_sem,↓reduceIte,Sub,Int.natCast_add,Int.natCast_mul]
       ·simp only; rw[z4p okN rem i p hp (by unfold okN; exact decide_eq_true h100)]; exact hF
       ·simp only; rw[List.length_eraseIdx,if_pos hlt]; omega
      ·have z3:(100<(p.2.length:Int))=True:=eq_true (by omega); simp(maxSteps:=2000000)only[go_sem,↓reduceIte,z3]; rw[j4F okN hp (by unfold okN; exact decide_eq_false h100)]at hF; rw[← hF]; rfl
   ·have z2:(300<(x.ns.length:Int))=True:=eq_true (by omega); rw[decide_eq_false h300]; simp(maxSteps:=2000000)only[go_sem,↓reduceIte,z2]
  ·have z1:(400<(x.ws.length:Int))=True:=eq_true (by omega); rw[decide_eq_false h400]; simp(maxSteps:=2000000)only[go_sem,↓reduceIte,z1]
theorem z7y{x:Fnt}(hx:x.wf)(h:q4Y x=true):x.ok:=by
 unfold q4Y at h; simp only[Bool.and_eq_true,decide_eq_true_eq]at h; obtain⟨h1,h2,h3,h4,h5⟩:=h; unfold q4i at h1; simp only[Bool.and_eq_true,List.all_eq_true,decide_eq_true_eq]at h1; obtain⟨h6,h7⟩:=h1; refine⟨fun s hs=>?_,by omega,fun p hp=>?_⟩
 ·obtain⟨a,b,c,d⟩:=hx.cs s hs
  have key:∀(m:Int),0≤m→m≤65535→∀(l:List Span) (prev:Option Int),q4I m prev l=0→s∈l→0≤s.fr∧s.to≤65535∧∃ rs,q0Y s.tx=some rs∧rs≠[]:=by
   intro m m0 m1 l; induction l with
   |nil=>intro _ _ hs; cases hs
   |cons y r ih=>
    intro prev hf hs; simp only[q4I]at hf; split at hf
    ·rename_i hy; rcases List.mem_cons.1 hs with rfl|hs
     ·unfold q5m at hy; split at hy
      ·cases hy
      ·split at hy
       ·cases hy
       ·rename_i q1 q2; cases hrs:q0Y s.tx with
        |none=>exact absurd (.inr (.inr (.inl hrs))) q2
        |some rs=>
         refine⟨by omega,by omega,rs,rfl,fun e=>?_⟩; subst e; have:=(q7r s.tx.length (Nat.le_refl _) hrs).1; exact q2 (.inr (.inr (.inr (.inl this.symm))))
     ·exact ih _ hf hs
    ·rename_i hy; exact absurd hf hy
  have hf:q4I (z5a x.wide) none x.cs=0:=by
   unfold z2A at h5; split at h5
   ·cases h5
   ·exact h5
  obtain⟨k1,k2,k3⟩:=key (z5a x.wide) (by unfold z5a; split<;>omega) (by unfold z5a; split<;>omega) x.cs none hf hs; exact⟨⟨a,b,c,d,by have:=h7 s hs; omega⟩,by omega,k3⟩
 ·have:=List.all_eq_true.1 h4 p hp; unfold okN at this; simp only[decide_eq_true_eq]at this; omega
end Go.Av.Tryz
set_option linter.unusedSimpArgs false
set_option maxRecDepth 100000
set_option maxHeartbeats 8000000
namespace Go.Av.Tryz
open Go.Proofs
def putF:Fl→List UInt8→Fnt→Fl
 |[],n,f=>[(n,f)]
 |p::r,n,f=>if n=p.1 then(p.1,f)::r else p::putF r n f
def q1p(l:Fl):Fl:=l.foldl (fun a p=>putF a p.1 p.2) []
abbrev q8E(fl:Fl):List D:=fl.map fun p=>.str p.1
abbrev z1T(fl:Fl):List D:=fl.map fun p=>p.2.d
theorem z7G{n:List UInt8}{f:Fnt}:∀{fl:Fl},q9q fl n=none→putF fl n f=fl++[(n,f)]
 |[],_=>rfl
 |p::r,h=>by
  simp only[q9q]at h; split at h
  ·cases h
  ·rename_i hne; simp only[putF,if_neg hne,z7G h,List.cons_append]
theorem z7H{n:List UInt8}{f:Fnt}:∀{fl:Fl},(q9q fl n).isSome=true→q8E (putF fl n f)=q8E fl∧z1T (putF fl n f)=mset (q8E fl) (z1T fl) (.str n) f.d
 |[],h=>by simp[q9q]at h
 |p::r,h=>by
  simp only[q9q]at h; simp only[putF,q8E,z1T,List.map_cons,mset,q9k,beq_iff_eq]; split
  ·exact⟨rfl,rfl⟩
  ·rename_i hne; rw[if_neg hne]at h; obtain⟨h1,h2⟩:=z7H (f:=f) h; exact⟨congrArg _ h1,congrArg _ h2⟩
theorem z7F(fl:Fl)(n:List UInt8)(f:Fnt):(putF fl n f).length≤fl.length+1:=by
 induction fl with
 |nil=>simp[putF]
 |cons p r ih=>simp only[putF]; split<;>simp only[List.length_cons]<;>omega
theorem j3o{fl:Fl}{n:List UInt8}{f:Fnt}{p:List UInt8×Fnt}(h:p∈putF fl n f):p∈fl∨p.2=f:=by
 induction fl with
 |nil=>simp[putF]at h; exact .inr (by rw[h])
 |cons q r ih=>
  simp only[putF]at h; split at h
  ·rcases List.mem_cons.1 h with rfl|h
   ·exact .inr rfl
   ·exact .inl (List.mem_cons_of_mem _ h)
  ·rcases List.mem_cons.1 h with rfl|h
   ·exact .inl (by simp)
   ·exact(ih h).imp (List.mem_cons_of_mem _) id
theorem z2I(fl:Fl):∀ k∈q8E fl,q0L .string k=true:=fun k hk=>by
 obtain⟨p,_,rfl⟩:=List.mem_map.1 hk; rfl
theorem z6a(l:Fl)(p:List UInt8×Fnt):q1p (l++[p])=putF (q1p l) p.1 p.2:=by simp[q1p]
theorem z8m(l:Fl):(q1p l).length≤l.length:=by
 have key:∀(l a:Fl),(l.foldl (fun a p=>putF a p.1 p.2) a).length≤a.length+l.length:=by
  intro l; induction l with
  |nil=>intro a; simp
  |cons p l ih=>intro a; have h1:=ih (putF a p.1 p.2); have h2:=z7F a p.1 p.2; simp only[List.foldl_cons,List.length_cons]; omega
 have h:=key l []; rw[List.length_nil,Nat.zero_add]at h; exact h
def namD(p:List UInt8×Fnt):D:=.agg [.str p.1,.bool p.2.wide,.map (q2T p.2.ws) (q85 p.2.ws),.int .i64 p.2.miss,.map (q2T p.2.ns) (q8O p.2.ns),.list (q2e p.2.cs)]
def okW(p:Int×Int):Bool:=decide (Lim p.2)
def FoOK(p:List UInt8×Fnt):Prop:=p.1.length≤50∧p.2.ok∧Lim p.2.miss∧∀ x∈p.2.ws,Lim x.2
theorem z2L:Tryz.prog.underlying 25=some (.map 9 62):=j6z
def z1r(l:List (Int×Int)):List (D×D):=l.map fun p=>(.int .i64 p.1,.int .i64 p.2)
theorem z88(l:List (Int×Int)):(q2T l).zip (q85 l)=z1r l:=by
 induction l with
 |nil=>rfl
 |cons p r ih=>simp only[q2T,q85,z1r,List.map_cons,List.zip_cons_cons]at ih ⊢; rw[ih]
theorem z8H(l:List (Int×Int))(i:Nat){k v:D}(h:(z1r l)[i]?=some (k,v)):∃ p,l[i]?=some p∧k=.int .i64 p.1∧v=.int .i64 p.2:=by
 simp only[z1r,List.getElem?_map,Option.map_eq_some_iff,Prod.mk.injEq]at h; obtain⟨p,h1,h2,h3⟩:=h; exact⟨p,h1,h2.symm,h3.symm⟩
theorem q96:∀(l:List (Int×Int)) (i:Nat),(z1r l).eraseIdx i=z1r (l.eraseIdx i)
 |[],_=>rfl
 |_::_,0=>rfl
 |p::r,i+1=>congrArg _ (q96 r i)
theorem z8x{σ:St}{fl:Fl}{t:Nat}(hl:aget σ.L 8=some (.mobj (q8E fl) (z1T fl)))(ht:aget σ.ρ t=some (.mp (.l 8)))(hH:σ.H=[]):Gh σ ⟨[(t,.d (q0Z fl))],[],[]⟩:=by
 refine Gh.trans (τ:=⟨amap (AV.frzM 8 (q8E fl) (z1T fl)) σ.ρ,[],σ.H⟩) (fun E n G ts w h=>⟨_,h.frzM hl⟩) (Gh.wk ⟨fun s x hx=>?_,fun r ob h=>?_⟩)
 ·simp only[aget]at hx; split at hx
  ·rename_i e; subst e; cases hx; rw[q0h,ht]; rfl
  ·cases hx
 ·cases r with
  |l q=>cases h
  |x q=>cases h
theorem j0c{α:Type}{l:List α}{i:Nat}{x:α}(h:l[i]?=some x):l.drop i=x::l.drop (i+1):=by
 obtain⟨h1,h2⟩:=List.getElem?_eq_some_iff.1 h; rw[List.drop_eq_getElem_cons h1,h2]
def foB(p:List UInt8×Fnt):Bool:=decide (p.1.length≤50)&&(q4Y p.2&&(decide (Lim p.2.miss)&&p.2.ws.all okW))
def foG(acc:Fl):Fl→Fl×Bool
 |[]=>(acc,true)
 |p::r=>if foB p=true then foG (putF acc p.1 p.2) r else(acc,false)
def foR(l:Fl):Fl×Bool:=if 5<l.length then([],false)else foG [] l
theorem j4f:∀(l acc fl:Fl) (b:Bool),foG acc l=(fl,b)→fl.length≤acc.length+l.length∧(b=true→fl=l.foldl (fun a p=>putF a p.1 p.2) acc∧∀ p∈l,foB p=true)
 |[],acc,fl,b,h=>by cases h; exact⟨by simp,fun _=>⟨rfl,fun p hp=>by cases hp⟩⟩
 |p::r,acc,fl,b,h=>by
  rw[foG]at h; split at h
  ·rename_i hp; obtain⟨h1,h2⟩:=j4f r _ fl b h; have:=z7F acc p.1 p.2; refine⟨by simp only[List.length_cons]; omega,fun hb=>?_⟩; obtain⟨h3,h4⟩:=h2 hb; refine⟨h3,fun q hq=>?_⟩; rcases List.mem_cons.1 hq with rfl|hq
   ·exact hp
   ·exact h4 q hq
  ·cases h; exact⟨by simp,fun h=>by cases h⟩
theorem j4g(l:Fl)(hw:∀ p∈l,p.2.wf):(foR l).1.length≤5∧((foR l).2=true→(foR l).1=q1p l∧l.length≤5∧∀ p∈l,FoOK p):=by
 unfold foR; split
 ·exact⟨Nat.zero_le _,fun h=>by cases h⟩
 ·rename_i h5; obtain⟨h1,h2⟩:=j4f l [] _ _ rfl; refine⟨by simp only[List.length_nil]at h1; omega,fun hb=>?_⟩; obtain⟨h3,h4⟩:=h2 hb; refine⟨h3,by omega,fun p hp=>?_⟩; have:=h4 p hp; simp only[foB,Bool.and_eq_true,decide_eq_true_eq,List.all_eq_true]at this; exact⟨this.1,z7y (hw p hp) this.2.1,this.2.2.1,fun x hx=>by have:=this.2.2.2 x hx; simpa[okW]using this⟩
def q1S:q0i:=
 .seq (.reg [Qx 2 (.k (.d (.map [] []))),Qx 3 KF]) (.seq (.reg [⟨some 8,.prim (.mkMap 25) [] [],none⟩,Qa 4 8]) (.seq (.seq (.reg [Qc 9 0,Q 10 (.len false (.t 9)),Q 11 (.bin 
 .gtr (.t 10) (Ki 5))]) (.cond (.t 11) (.seq (.alt [([],Qc 12 4)] [Qa 2 12,Qx 3 KF]) .ret) .skip)) (.seq (.seq (.reg [Qx 5 (Ki 0)]) (.block 0 (.loop (.seq (.seq (.reg [Qc 13 5, 
 Qc 14 0,Q 15 (.len false (.t 14)),Q 16 (.bin .lss (.t 13) (.t 15))]) (.cond (.t 16) .skip (.exit 0))) (.seq (.block 1 (.seq (.seq (.reg [Qc 19 0,Qc 20 5,Q 21 (.ia 6 (.t 19) 
 (.t 20)),Q 22 (.fa 0 (.t 21)),Q 23 (.ld false 1 (.t 22)),Q 24 (.len true (.t 23)),Q 25 (.bin .gtr (.t 24) (Ki 50)),Qc 26 25,Qd 27 0 26 false,Qd 28 5 26 false,Qg 29 (.ia 6 
 (.t 27) (.t 28)) 26 false,Qg 30 (.fa 1 (.t 29)) 26 false,Qg 31 (.ld true 5 (.t 30)) 26 false,⟨some 32,.call 25 [.t 31],some (26,false)⟩,Qg 33 (.not (.t 32)) 26 false,Q 34 
 (.pick (.t 26) KT (.t 33)),Qc 35 34,Qd 36 0 35 false,Qd 37 5 35 false,Qg 38 (.ia 6 (.t 36) (.t 37)) 35 false,Qg 39 (.fa 1 (.t 38)) 35 false,Qg 40 (.fa 2 (.t 39)) 35 false, 
 Qg 41 (.ld false 1 (.t 40)) 35 false,⟨some 42,.call 26 [.t 41],some (35,false)⟩,Qg 43 (.bin .gtr (.t 42) (Ki 0)) 35 false,Q 44 (.pick (.t 35) KT (.t 43))]) (.cond (.t 44) 
 (.seq (.alt [([],Qc 45 4)] [Qa 2 45,Qx 3 KF]) .ret) .skip)) (.seq (.seq (.reg [Qc 46 0,Qc 47 5,Q 48 (.ia 6 (.t 46) (.t 47)),Q 49 (.fa 1 (.t 48)),Q 50 (.fa 1 (.t 49)),Q 51 
 (.ld false 1 (.t 50)),⟨some 52,.prim (.range 58) [.t 51] [],none⟩]) (.block 2 (.loop (.seq (.reg [⟨some 53,.prim (.next false 0) [.t 52] [],none⟩,Q 54 (.ext 0 (.t 53))]) 
 (.seq (.cond (.t 54) .skip (.exit 2)) (.block 3 (.seq (.reg [⟨some 55,.prim .entry [.t 52] [],none⟩,Q 56 (.ext 1 (.t 55)),Qa 7 56]) (.seq (.reg [Qc 57 7,⟨some 58,.call 26 
 [.t 57],none⟩,Q 59 (.bin .gtr (.t 58) (Ki 0))]) (.cond (.t 59) (.seq (.alt [([],Qc 60 4)] [Qa 2 60,Qx 3 KF]) .ret) .skip))))))))) (.dreg [Qc 61 4,Qc 62 0,Qc 63 5,Q 64 (.ia 
 6 (.t 62) (.t 63)),Q 65 (.fa 0 (.t 64)),Q 66 (.ld false 1 (.t 65)),Qc 67 0,Qc 68 5,Q 69 (.ia 6 (.t 67) (.t 68)),Q 70 (.fa 1 (.t 69)),Q 71 (.ld true 5 (.t 70)),⟨none, 
 .prim (.mapUpd 25) [.t 61,.t 66,.t 71] [],none⟩])))) (.reg [Qc 17 5,Q 18 (.bin .add (.t 17) (Ki 1)),Qa 5 18])))))) (.seq (.alt [([],Qc 72 4)] [Qa 2 72,Qx 3 KT]) .ret))))
def q1Y:List LRes:=[.tmp 2,.tmp 3]
theorem q3d:q0r Tryz.prog 8 73 q1S q1Y:=⟨_,_,Tryz.func8,rfl,by kernel_rfl,by kernel_rfl,rfl⟩
theorem z0W(l:Fl)(hl:l.length≤1000000000)(hw:∀ p∈l,p.2.wf∧p.1.length≤9223372036854775807∧i64 p.2.miss):
  q0s Tryz.prog 8 [.list (l.map namD)] (fun r=>r=.tup [q0Z (foR l).1,.bool (foR l).2]):=by
 refine q3d.call rfl ?_; generalize hR:foR l=R; have hlen:(l.map namD).length=l.length:=List.length_map ..; simp(maxSteps:=2000000)only[go_sem,↓reduceIte,q1S,q1Y]; refine q0c.mkMap z2L ?_; simp(maxSteps:=2000000)(disch:=omega)only[go_sem,↓reduceIte,hlen]; refine⟨fun h1=>?_,fun h1=>?_⟩
 ·refine q3L.ghost (q3L.step rfl (fun _ _ _ h=>by cases h) rfl ?_); refine⟨_,z8x (fl:=[]) (t:=12) rfl rfl rfl,?_⟩; simp(maxSteps:=2000000)only[go_sem,↓reduceIte]; unfold foR at hR; rw[if_pos (by omega)]at hR; rw[← hR]
 ·refine q0l (fun i:Nat=>⟨[(0,.d (.list (l.map namD))),(4,.mp (.l 8)),(5,.d (.int .i64 i))],[(8,.mobj (q8E (q1p (l.take i))) (z1T (q1p (l.take i))))],[]⟩) (fun i=>i≤l.length∧foG (q1p (l.take i)) (l.drop i)=R) (fun i=>l.length-i) 0 ?_ ⟨Nat.zero_le _,by unfold foR at hR; rw[if_neg (by omega)]at hR; exact hR⟩ ?_
  ·refine Weak.mk ?_ ?_ ?_<;>simp(maxSteps:=2000000)only[go_sem,↓reduceIte,Sub,Int.natCast_add,Int.natCast_mul,q1p,List.take_zero,List.foldl_nil,List.map_nil]
  ·intro i ⟨hi,hG⟩; have hfl:=z8m (l.take i); rw[List.length_take]at hfl; simp(maxSteps:=2000000)(disch:=omega)only[go_sem,↓reduceIte,hlen]; refine⟨fun hlt=>?_,fun hge=>?_⟩
   ·obtain⟨p,hx⟩:=get_some (l:=l) (i:=i) (by omega); have hg:getI (l.map namD) (i:Int)=some (namD p):=by rw[q0a,List.getElem?_map,hx]; rfl
    have htk:l.take (i+1)=l.take i++[p]:=by rw[List.take_add_one,hx]; rfl
    obtain⟨hpw,hpn,hpm⟩:=hw p (List.mem_of_getElem? hx); have hsn:=z6a (l.take i) p; rw[← htk]at hsn; rw[j0c hx,foG]at hG; generalize hF:q1p (l.take i)=F at *
    by_cases h50:p.1.length≤50
    ·have z1:(50<(p.1.length:Int))=False:=eq_false (by omega); simp(maxSteps:=2000000)(disch:=omega)only[go_sem,↓reduceIte,hg,namD,z1]; refine q0g.of (z2e p.2 hpw) ?_; cases hlf:q4Y p.2 with
     |false=>
      simp(maxSteps:=2000000)(disch:=omega)only[go_sem,↓reduceIte,hg,namD]; refine q3L.ghost (q3L.step rfl (fun _ _ _ h=>by cases h) rfl ?_); refine⟨_,z8x (fl:=F) (t:=45) rfl rfl rfl,?_⟩; simp(maxSteps:=2000000)only[go_sem,↓reduceIte]; rw[if_neg (by simp[foB,hlf])]at hG; rw[← hG]
     |true=>
      have hfo:=z7y hpw hlf; simp(maxSteps:=2000000)(disch:=omega)only[go_sem,↓reduceIte,hg,namD]; refine q0g.of (z2B p.2.miss) ?_
      by_cases hms:Lim p.2.miss
      ·have z2:(0<fltI p.2.miss)=False:=eq_false (by rw[j0b hms]; decide); simp(maxSteps:=2000000)(disch:=omega)only[go_sem,↓reduceIte,hg,namD,z2]; refine q0c.rangeMap rfl j2V ?_; rw[z88]; simp(maxSteps:=2000000)only[go_sem,↓reduceIte]; refine q0l (fun y:List (Int×Int)×List (D×D)=>⟨[(0,.d (.list (l.map namD))),(4,.mp (.l 8)),(5,.d (.int .i64 i)),(52,.ptr (.l 52) 0)],
         [(8,.mobj (q8E F) (z1T F)),(52,.miter (z1r y.1) y.2)],[]⟩)
        (fun y=>(∀ x∈p.2.ws,x∈y.1∨Lim x.2)∧∀ x∈y.1,x∈p.2.ws) (fun y=>y.1.length) (p.2.ws,[]) ?_ ⟨fun x hx=>.inl hx,fun x hx=>hx⟩ ?_
       ·refine Weak.mk ?_ ?_ ?_<;>simp(maxSteps:=2000000)only[go_sem,↓reduceIte,Sub,Int.natCast_add,Int.natCast_mul]
       ·rintro⟨rem,cur⟩ ⟨hW,hS⟩; simp only at hW hS; simp(maxSteps:=2000000)only[go_sem,↓reduceIte]; refine q0c.j0W rfl rfl (fun h0=>?_) (fun q k v hik=>?_)
        ·have hrem:rem=[]:=by cases rem with|nil=>rfl|cons a r=>cases h0
         subst hrem; have hpok:foB p=true:=by
          simp only[foB,Bool.and_eq_true,decide_eq_true_eq,List.all_eq_true]; exact⟨h50,hlf,hms,fun x hx=>by simpa[okW]using(hW x hx).resolve_left (by simp)⟩
         rw[if_pos hpok,← hsn]at hG; have hD:∀(f:Fnt),f.d=.agg [.bool f.wide,.map (q2T f.ws) (q85 f.ws),.int .i64 f.miss,.map (q2T f.ns) (q8O f.ns),.list (q2e f.cs)]:=fun _=>rfl
         simp(maxSteps:=2000000)(disch:=omega)only[go_sem,↓reduceIte,hg,namD]; cases hlk:q9q F p.1 with
         |none=>
          have hpn:=z7G (f:=p.2) hlk; rw[hpn]at hsn; have hnk:=z6u F p.1; rw[hlk]at hnk; refine q0c.z7A (ks:=q8E F) (vs:=z1T F) (key:=.str p.1) (v:=p.2.d) (s:=8) rfl rfl rfl rfl z2L z8X rfl (z2I F) hnk ?_; simp(maxSteps:=2000000)(disch:=omega)only[go_sem,↓reduceIte]; refine⟨i+1,?_,⟨by omega,hG⟩,by omega⟩; rw[hsn]; refine Weak.mk ?_ ?_ ?_<;>simp(maxSteps:=2000000)only[go_sem,↓reduceIte,Sub,Int.natCast_add,Int.natCast_mul,List.map_append,List.map_cons,List.map_nil,q8E,z1T]
         |some f0=>
          obtain⟨k1,k2⟩:=z7H (n:=p.1) (f:=p.2) (fl:=F) (by rw[hlk]; rfl); rw[← hsn]at k1 k2; have hnk:=z6u F p.1; rw[hlk]at hnk; refine q0c.j6A (ks:=q8E F) (vs:=z1T F) (key:=.str p.1) (v:=p.2.d) (s:=8) rfl rfl rfl rfl z2L z8X rfl (z2I F) (by rw[hnk]; rfl) ?_; simp(maxSteps:=2000000)(disch:=omega)only[go_sem,↓reduceIte]; refine⟨i+1,?_,⟨by omega,hG⟩,by omega⟩; rw[k1,k2]; refine Weak.mk ?_ ?_ ?_<;>simp(maxSteps:=2000000)only[go_sem,↓reduceIte,Sub,Int.natCast_add,Int.natCast_mul]
        ·obtain⟨x,hx1,rfl,rfl⟩:=z8H rem q hik; rw[q96]; simp(maxSteps:=2000000)only[go_sem,↓reduceIte]; refine q0c.z7j rfl rfl ?_; simp(maxSteps:=2000000)only[go_sem,↓reduceIte]; refine q0g.of (z2B x.2) ?_; have hlt2:=(List.getElem?_eq_some_iff.1 hx1).1
         by_cases hL:Lim x.2
         ·have z3:(0<fltI x.2)=False:=eq_false (by rw[j0b hL]; decide); simp(maxSteps:=2000000)only[go_sem,↓reduceIte,z3]; refine⟨(rem.eraseIdx q,[(.int .i64 x.1,.int .i64 x.2)]),?_,⟨fun y hy=>?_,fun y hy=>hS y (List.mem_of_mem_eraseIdx hy)⟩,?_⟩
          ·refine Weak.mk ?_ ?_ ?_<;>simp(maxSteps:=2000000)only[go_sem,↓reduceIte,Sub,Int.natCast_add,Int.natCast_mul]
          ·rcases hW y hy with h|h
           ·by_cases e:y=x
            ·subst e; exact .inr hL
            ·refine .inl ?_; obtain⟨j,hj⟩:=List.getElem?_of_mem h; have hjq:j≠q:=fun e2=>by subst e2; rw[hx1]at hj; cases hj; exact e rfl
             have this:∀ j,(rem.eraseIdx q)[j]?=if j<q then rem[j]? else rem[j+1]?:=fun j=>List.getElem?_eraseIdx ..
             rcases Nat.lt_or_ge j q with h5|h5
             ·exact List.mem_of_getElem? (i:=j) (by rw[this,if_pos h5]; exact hj)
             ·exact List.mem_of_getElem? (i:=j-1) (by rw[this,if_neg (by omega),show j-1+1=j by omega]; exact hj)
           ·exact .inr h
          ·simp only; rw[List.length_eraseIdx,if_pos hlt2]; omega
         ·have z3:(0<fltI x.2)=True:=eq_true (by rw[j0a hL]; decide); simp(maxSteps:=2000000)only[go_sem,↓reduceIte,z3]; refine q3L.ghost (q3L.step rfl (fun _ _ _ h=>by cases h) rfl ?_); refine⟨_,z8x (fl:=F) (t:=60) rfl rfl rfl,?_⟩; simp(maxSteps:=2000000)only[go_sem,↓reduceIte]; have hno:¬ foB p=true:=fun hb=>by
           simp only[foB,Bool.and_eq_true,decide_eq_true_eq,List.all_eq_true]at hb; rcases List.getElem?_eq_some_iff.1 hx1 with⟨_,he⟩
           have:=hb.2.2.2 x (hS x (List.mem_of_getElem? hx1)); exact hL (by simpa[okW]using this)
          rw[if_neg hno]at hG; rw[← hG]
      ·have z2:(0<fltI p.2.miss)=True:=eq_true (by rw[j0a hms]; decide); simp(maxSteps:=2000000)(disch:=omega)only[go_sem,↓reduceIte,hg,namD,z2]; refine q3L.ghost (q3L.step rfl (fun _ _ _ h=>by cases h) rfl ?_); refine⟨_,z8x (fl:=F) (t:=45) rfl rfl rfl,?_⟩; simp(maxSteps:=2000000)only[go_sem,↓reduceIte]; rw[if_neg (by simp[foB,hms])]at hG; rw[← hG]
    ·have z1:(50<(p.1.length:Int))=True:=eq_true (by omega); simp(maxSteps:=2000000)(disch:=omega)only[go_sem,↓reduceIte,hg,namD,z1]; refine q3L.ghost (q3L.step rfl (fun _ _ _ h=>by cases h) rfl ?_); refine⟨_,z8x (fl:=F) (t:=45) rfl rfl rfl,?_⟩; simp(maxSteps:=2000000)only[go_sem,↓reduceIte]; rw[if_neg (by simp[foB]; omega)]at hG; rw[← hG]
   ·have hie:l.take i=l:=List.take_of_length_le (by omega); rw[hie,List.drop_eq_nil_of_le (by omega),foG]at hG; rw[hie]; refine q3L.ghost (q3L.step rfl (fun _ _ _ h=>by cases h) rfl ?_); refine⟨_,z8x (fl:=q1p l) (t:=72) rfl rfl rfl,?_⟩; simp(maxSteps:=2000000)only[go_sem,↓reduceIte]; rw[← hG]
end Go.Av.Tryz
set_option linter.unusedSimpArgs false
set_option maxRecDepth 100000
set_option maxHeartbeats 8000000
namespace Go.Av.Tryz
open Go.Proofs
theorem z4M(l:List Gph):(q2p l).length=l.length:=by simp[q2p]
def q07:q0i:=
 .seq (.reg [Qx 4 KF]) (.seq (.seq (.reg [Qc 6 0,Q 7 (.len false (.t 6)),Qc 8 1,Q 9 (.len false (.t 8)),Q 10 (.bin .neq (.t 7) (.t 9))]) (.cond (.t 10) (.seq (.reg [Qx 4 KF]) 
 .ret) .skip)) (.seq (.seq (.reg [Qx 5 (Ki 0)]) (.block 0 (.loop (.seq (.seq (.reg [Qc 11 5,Qc 12 0,Q 13 (.len false (.t 12)),Q 14 (.bin .lss (.t 11) (.t 13))]) (.cond (.t 14) 
 .skip (.exit 0))) (.seq (.block 1 (.seq (.dreg [Qc 17 0,Qc 18 5,Q 19 (.ia 10 (.t 17) (.t 18)),Q 20 (.ld true 10 (.t 19)),Qc 21 1,Qc 22 5,Q 23 (.ia 10 (.t 21) (.t 22)),Q 24 
 (.ld true 10 (.t 23)),⟨some 25,.prim (.eq .neq 55) [.t 20,.t 24] [],none⟩]) (.cond (.t 25) (.seq (.reg [Qx 4 KF]) .ret) .skip))) (.reg [Qc 15 5,Q 16 (.bin .add (.t 15) (Ki 
 1)),Qa 5 16])))))) (.seq (.reg [Qx 4 KT]) .ret)))
def q09:List LRes:=[.tmp 4]
theorem q2y:q0r Tryz.prog 14 26 q07 q09:=⟨_,_,Tryz.func14,rfl,by kernel_rfl,by kernel_rfl,rfl⟩
theorem z1D(l:List Gph)(h:l.length≤1000000):q0s Tryz.prog 14 [.list (q2p l),.list (q2p l)] (fun r=>r=.one (.bool true)):=by
 refine q2y.call rfl ?_; have hI:((q2p l).length:Int)=(l.length:Int):=by rw[z4M]
 simp(maxSteps:=2000000)only[go_sem,↓reduceIte,q07,q09,hI]; refine q0l (fun i:Nat=>⟨[(0,.d (.list (q2p l))),(1,.d (.list (q2p l))),(5,.d (.int .i64 i))],[],[]⟩)
  (fun i=>i≤l.length) (fun i=>l.length-i) 0 ?_ (Nat.zero_le _) ?_
 ·refine Weak.mk ?_ ?_ ?_<;>simp(maxSteps:=2000000)only[go_sem,↓reduceIte,Sub,Int.natCast_add,Int.natCast_mul]
 ·intro i hi; simp(maxSteps:=2000000)(disch:=omega)only[go_sem,↓reduceIte,hI]; intro hlt; obtain⟨x,hx⟩:=get_some (l:=l) (i:=i) (by omega); have hg:getI (q2p l) (i:Int)=some x.d:=by rw[q0a,q2p,List.getElem?_map,hx]; rfl
  simp(maxSteps:=2000000)(disch:=omega)only[go_sem,↓reduceIte,hg,Gph.d,I]; refine q0c.j5E (cs:=_) (ks:=[2,0,0,0,0,0,0,0,0,0]) rfl rfl (by kernel_rfl) (by kernel_rfl) (by kernel_rfl) rfl (by kernel_rfl) ?_; simp(maxSteps:=2000000)(disch:=omega)only[go_sem,↓reduceIte]; refine⟨i+1,?_,by omega,by omega⟩; refine Weak.mk ?_ ?_ ?_<;>simp(maxSteps:=2000000)only[go_sem,↓reduceIte,Sub,Int.natCast_add,Int.natCast_mul]
def z7W(l:List Int):Bool:=l.all fun n=>decide (-1000000≤n∧n≤1000000)
def q1U:q0i:=
 .seq (.reg [Qx 2 KF]) (.seq (.seq (.reg [Qx 3 (Ki 0)]) (.block 0 (.loop (.seq (.seq (.reg [Qc 4 3,Qc 5 0,Q 6 (.len false (.t 5)),Q 7 (.bin .lss (.t 4) (.t 6))]) (.cond (.t 7) 
 .skip (.exit 0))) (.seq (.block 1 (.seq (.reg [Qc 10 0,Qc 11 3,Q 12 (.ia 1 (.t 10) (.t 11)),Q 13 (.ld false 1 (.t 12)),Q 14 (.bin .lss (.t 13) (Ki (-1000000))),Qc 15 14,Qd 
 16 0 15 false,Qd 17 3 15 false,Qg 18 (.ia 1 (.t 16) (.t 17)) 15 false,Qg 19 (.ld false 1 (.t 18)) 15 false,Qg 20 (.bin .gtr (.t 19) (Ki 1000000)) 15 false,Q 21 (.pick (.t 
 15) KT (.t 20))]) (.cond (.t 21) (.seq (.reg [Qx 2 KF]) .ret) .skip))) (.reg [Qc 8 3,Q 9 (.bin .add (.t 8) (Ki 1)),Qa 3 9])))))) (.seq (.reg [Qx 2 KT]) .ret))
def q10:List LRes:=[.tmp 2]
theorem q3f:q0r Tryz.prog 17 22 q1U q10:=⟨_,_,Tryz.func17,rfl,by kernel_rfl,by kernel_rfl,rfl⟩
theorem z8S(l:List Int)(h:l.length≤1000000):q0s Tryz.prog 17 [.list (nmD l)] (fun r=>r=.one (.bool (z7W l))):=by
 refine q3f.call rfl ?_; have hI:((nmD l).length:Int)=(l.length:Int):=by rw[z6x]
 unfold z7W; generalize hR:(l.all fun n=>decide (-1000000≤n∧n≤1000000))=R; simp(maxSteps:=2000000)only[go_sem,↓reduceIte,q1U,q10,hI]; refine q0l (fun i:Nat=>⟨[(0,.d (.list (nmD l))),(3,.d (.int .i64 i))],[],[]⟩)
  (fun i=>i≤l.length∧((l.drop i).all fun n=>decide (-1000000≤n∧n≤1000000))=R) (fun i=>l.length-i) 0 ?_ ⟨Nat.zero_le _,hR⟩ ?_
 ·refine Weak.mk ?_ ?_ ?_<;>simp(maxSteps:=2000000)only[go_sem,↓reduceIte,Sub,Int.natCast_add,Int.natCast_mul]
 ·intro i ⟨hi,hF⟩; simp(maxSteps:=2000000)(disch:=omega)only[go_sem,↓reduceIte,hI]; refine⟨fun hlt=>?_,fun hge=>?_⟩
  ·obtain⟨x,hx⟩:=get_some (l:=l) (i:=i) (by omega); have hg:getI (nmD l) (i:Int)=some (.int .i64 x):=by rw[q0a,nmD,List.getElem?_map,hx]; rfl
   rw[q05 hx,List.all_cons]at hF; simp(maxSteps:=2000000)(disch:=omega)only[go_sem,↓reduceIte,hg]
   by_cases h1:x < -1000000
   ·have e:decide (-1000000≤x∧x≤1000000)=false:=decide_eq_false (by omega); rw[e,Bool.false_and]at hF; exact⟨fun h=>absurd h1 h,fun _=>by rw[← hF]⟩
   ·refine⟨fun _=>⟨fun h2=>?_,fun h2=>?_⟩,fun h=>absurd h h1⟩
    ·have e:decide (-1000000≤x∧x≤1000000)=false:=decide_eq_false (by omega); rw[e,Bool.false_and]at hF; rw[← hF]
    ·have e:decide (-1000000≤x∧x≤1000000)=true:=decide_eq_true (by omega); rw[e,Bool.true_and]at hF; refine⟨i+1,?_,⟨by omega,hF⟩,by omega⟩; refine Weak.mk ?_ ?_ ?_<;>simp(maxSteps:=2000000)only[go_sem,↓reduceIte,Sub,Int.natCast_add,Int.natCast_mul]
  ·have hd:l.drop i=[]:=List.drop_eq_nil_of_le (by omega); rw[hd,List.all_nil]at hF; rw[← hF]
end Go.Av.Tryz
set_option linter.unusedSimpArgs false
set_option maxRecDepth 100000
namespace Go.Av.Tryz
open Go.Proofs
end Go.Av.Tryz
set_option linter.unusedSimpArgs false
set_option maxRecDepth 100000
namespace Go.Av.Tryz
open Go.Proofs
def numW(n:Int):Val:=.mk 2 n [] [] []
def strW(s:List UInt8):Val:=.mk 3 0 s [] []
def namW(s:List UInt8):Val:=.mk 4 0 s [] []
def z5w:List UInt8:=[66,84,32,47,70,32,49,48,32,84,102,32,40,97,41,32,84,106,32,69,84]
def z2U:List OpV:=[⟨[66,84],[]⟩,⟨[84,102],[namW [70],numW 10000]⟩,⟨[84,106],[strW [97]]⟩,⟨[69,84],[]⟩]
def z7R:Fl:=[([70],⟨false,[],500,[],[]⟩)]
theorem z5X{α:Type}{l:List α}{i:Nat}{x:α}(h:l[i]?=some x):l.drop i=x::l.drop (i+1):=by
 obtain⟨hi,rfl⟩:=List.getElem?_eq_some_iff.1 h; exact List.drop_eq_getElem_cons hi
/-! ### Blanks, words -/
def z3Z:List UInt8:=[40,41,60,62,91,93,123,125,47,37]
def q82(c:UInt8):Bool:=decide (c∈z3Z)
def q6z(note:Bool):List UInt8→Nat→Nat
 |[],at_=>at_
 |c::r,at_=>
  if note=true then q6z (decide (c.toNat≠10)&&decide (c.toNat≠13)) r (at_+1)
  else if c.toNat=37 then q6z true r (at_+1)
  else if q8p c.toNat=true then q6z false r (at_+1)
  else at_
def q3t(s:List UInt8)(at_:Nat):Nat:=q6z false (s.drop at_) at_
def q88(s:List UInt8):List UInt8:=s.takeWhile fun c => !q8p c.toNat && !q82 c
def q2x(s:List UInt8)(at_:Nat):List UInt8:=q88 (s.drop at_)
def q5x(s:List UInt8)(n:Int):Nat:=(min (max n 0) s.length).toNat
theorem z0s:∀(s:List UInt8) (b:Bool) (k:Nat),k≤q6z b s k∧q6z b s k≤k+s.length
 |[],b,k=>by simp[q6z]
 |c::r,b,k=>by
  unfold q6z; simp only[List.length_cons]; split
  ·have:=z0s r (decide (c.toNat≠10)&&decide (c.toNat≠13)) (k+1); omega
  ·split
   ·have:=z0s r true (k+1); omega
   ·split
    ·have:=z0s r false (k+1); omega
    ·omega
theorem q4r{s:List UInt8}{k:Nat}(h:k≤s.length):k≤q3t s k∧q3t s k≤s.length:=by
 have:=z0s (s.drop k) false k; rw[List.length_drop]at this; unfold q3t; omega
theorem q30(s:List UInt8)(k:Nat):(q2x s k).length≤s.length-k:=by
 have:=(List.takeWhile_sublist (fun c:UInt8 => !q8p c.toNat && !q82 c) (l:=s.drop k)).length_le; rw[List.length_drop]at this; exact this
theorem z8i{c:UInt8}(h:c.toNat<128):(Utf8.encode (c.toNat:Int)).data.toList=[c]:=by
 have:∀ n:Fin 128,(Utf8.encode ((n.val:Nat):Int)).data.toList=[UInt8.ofNat n.val]:=by decide +kernel
 have:=this ⟨c.toNat,h⟩; simp only at this; rw[this]; simp
def q97:List UInt8→Nat→Nat→Int→Option (Nat×Nat×Int)
 |[],n,d,p=>some (n,d,p)
 |c::r,n,d,p=>
  if c.toNat=46∧p<0 then q97 r n d 0
  else if c.toNat<48∨57<c.toNat then none
  else q97 r (if p<3∧n≤1000000000 then 10*n+(c.toNat-48)else n) (d+1) (if 0≤p then p+1 else p)
def finP(neg:Bool):Option (Nat×Nat×Int)→Int×Nat
 |none=>(0,4)
 |some (n,d,p)=>if d=0 then(0,4)else if 1000000000<n*10 ^ (3-p.toNat)then(0,1)else(if neg=true then -((n*10 ^ (3-p.toNat):Nat):Int)else((n*10 ^ (3-p.toNat):Nat):Int),0)
def j1F:List UInt8→Bool×List UInt8
 |[]=>(false,[])
 |c::r=>if c.toNat=45 then(true,r)else if c.toNat=43 then(false,r)else(false,c::r)
def q6r(s:List UInt8):Int×Nat:=finP (j1F s).1 (q97 (j1F s).2 0 0 (-1))
def resP(p:Int×Nat):Res:=.tup [.int .i64 p.1,errD p.2]
def q7Q:q0i:=
 .seq (.reg [Qx 2 (Ki 0),Qx 3 (.k (.d .nil))]) (.seq (.reg [Qc 11 0,Qa 4 11]) (.seq (.reg [Qx 5 KF]) (.seq (.seq (.reg [Qc 12 4,Q 13 (.bin .neq (.t 12) (.k (.d (.str [])))),Qc 
 14 13,Qd 15 4 14 true,Qg 16 (.idxS (.t 15) (Ki 0)) 14 true,Qg 17 (.bin .eql (.t 16) (Kb 45)) 14 true,Qd 18 17 14 true,Qd 19 4 18 false,Qg 20 (.idxS (.t 19) (Ki 0)) 18 
 false,Qg 21 (.bin .eql (.t 20) (Kb 43)) 18 false,Qg 22 (.pick (.t 18) KT (.t 21)) 14 true,Q 23 (.pick (.t 14) (.t 22) KF)]) (.cond (.t 23) (.dreg [Qc 24 4,Q 25 (.idxS (.t 24) 
 (Ki 0)),Q 26 (.bin .eql (.t 25) (Kb 45)),Qc 27 4,Q 28 (.subS (.t 27) (some (Ki 1)) none),Qc 5 26,Qc 4 28]) .skip)) (.seq (.reg [Qx 6 (Ki 0),Qx 7 (Ki 0),Qx 8 (Ki (-1))]) 
 (.seq (.seq (.reg [Qc 29 4,Q 30 (.len true (.t 29)),Q 31 (.cp (Ki 0))]) (.block 0 (.loop (.seq (.reg [Q 32 (.bin .lss (.t 31) (.t 30))]) (.seq (.cond (.t 32) .skip (.exit 0)) 
 (.seq (.block 1 (.seq (.reg [Qc 33 31,Qa 9 33]) (.seq (.reg [Qc 34 4,Qc 35 9,Q 36 (.idxS (.t 34) (.t 35)),Qa 10 36]) (.block 2 (.seq (.reg [Qc 56 10,Q 57 (.bin .eql (.t 56) 
 (Kb 46)),Qc 58 57,Qd 59 8 58 true,Qg 60 (.bin .lss (.t 59) (Ki 0)) 58 true,Q 61 (.pick (.t 58) (.t 60) KF),Qa 55 61]) (.cond (.t 55) (.reg [Qx 8 (Ki 0)]) (.seq (.reg [Qc 63 
 10,Q 64 (.bin .lss (.t 63) (Kb 48)),Qc 65 64,Qd 66 10 65 false,Qg 67 (.bin .gtr (.t 66) (Kb 57)) 65 false,Q 68 (.pick (.t 65) KT (.t 67)),Qa 62 68]) (.cond (.t 62) (.seq 
 (.reg [Q 69 (.mkI 76 (Ki 4)),Qx 2 (Ki 0),Qa 3 69]) .ret) (.seq (.reg [Qc 37 7,Q 38 (.bin .add (.t 37) (Ki 1)),Qa 7 38]) (.seq (.seq (.reg [Qc 39 8,Q 40 (.bin .lss (.t 39) 
 (Ki 3)),Qc 41 40,Qd 42 6 41 true,Qg 43 (.bin .leq (.t 42) (Ki 1000000000)) 41 true,Q 44 (.pick (.t 41) (.t 43) KF)]) (.cond (.t 44) (.reg [Qc 45 6,Q 46 (.bin .mul (Ki 10) 
 (.t 45)),Qc 47 10,Q 48 (.bin .sub (.t 47) (Kb 48)),Q 49 (.cvI .i64 (.t 48)),Q 50 (.bin .add (.t 46) (.t 49)),Qa 6 50]) .skip)) (.seq (.reg [Qc 51 8,Q 52 (.bin .geq (.t 51) 
 (Ki 0))]) (.cond (.t 52) (.reg [Qc 53 8,Q 54 (.bin .add (.t 53) (Ki 1)),Qa 8 54]) .skip)))))))))))) (.reg [Q 70 (.bin .add (.t 31) (Ki 1)),Qc 31 70]))))))) (.seq (.seq (.reg 
 [Qc 71 7,Q 72 (.bin .eql (.t 71) (Ki 0))]) (.cond (.t 72) (.seq (.reg [Q 73 (.mkI 76 (Ki 4)),Qx 2 (Ki 0),Qa 3 73]) .ret) .skip)) (.seq (.seq (.reg [Qc 74 8,Q 75 (.mm true (.t 
 74) (Ki 0)),Qa 8 75]) (.block 3 (.loop (.seq (.seq (.reg [Qc 76 8,Q 77 (.bin .lss (.t 76) (Ki 3))]) (.cond (.t 77) .skip (.exit 3))) (.seq (.block 4 (.reg [Qc 80 6,Q 81 (.bin 
 .mul (.t 80) (Ki 10)),Qa 6 81])) (.reg [Qc 78 8,Q 79 (.bin .add (.t 78) (Ki 1)),Qa 8 79])))))) (.seq (.seq (.reg [Qc 82 6,Q 83 (.bin .gtr (.t 82) (Ki 1000000000))]) (.cond 
 (.t 83) (.seq (.reg [Q 84 (.mkI 76 (Ki 1)),Qx 2 (Ki 0),Qa 3 84]) .ret) .skip)) (.seq (.seq (.reg [Qc 85 5]) (.cond (.t 85) (.reg [Qc 86 6,Q 87 (.neg (.t 86)),Qa 6 87]) 
 .skip)) (.seq (.reg [Qc 88 6,Qa 2 88,Qx 3 (.k (.d .nil))]) .ret))))))))))
def q7T:List LRes:=[.tmp 2,.tmp 3]
theorem z19:q0r Tryz.prog 113 89 q7Q q7T:=⟨_,_,Tryz.func113,rfl,by kernel_rfl,by kernel_rfl,rfl⟩
theorem z8J(s:List UInt8)(hs:s.length≤1000000):q0s Tryz.prog 113 [.str s] (fun r=>r=resP (q6r s)):=by
 refine z19.call rfl ?_; unfold q6r; cases s with
 |nil=>
  have hs0:j1F []=(false,[]):=rfl; have hR:resP (finP false (q97 [] 0 0 (-1)))=.tup [.int .i64 0,.iface 76 (.int .i64 4)]:=rfl; rw[hs0,hR]; simp(maxSteps:=2000000)(disch:=omega)only[go_sem,↓reduceIte,q7Q,q7T]; refine q14 ?_; simp(maxSteps:=2000000)(disch:=omega)only[go_sem,↓reduceIte]
 |cons c r=>
  have hc8:=q4o c; have hne:(c::r=[])=False:=by simp
  have hg0:getI (c::r) 0=some c:=rfl; have hcut:cutI (c::r) 1 ((r.length+1:Nat):Int)=r:=by
   show cutI (c::r) ((1:Nat):Int) _=r
   rw[z0m]; simp
  have hlr:r.length+1≤1000000:=by simpa using hs
  generalize hst:j1F (c::r)=st; dsimp only[j1F]at hst; obtain⟨R,hR⟩:∃ R,finP st.1 (q97 st.2 0 0 (-1))=R:=⟨_,rfl⟩; rw[hR]; simp(maxSteps:=2000000)(disch:=omega)only[go_sem,↓reduceIte,q7Q,q7T,hne,hg0,hcut]; refine⟨fun a1=>⟨fun a2=>⟨by omega,?_⟩,fun a2=>?_⟩,fun a1=>⟨by omega,?_⟩⟩; rw[if_neg (by omega),if_pos (by omega)]at hst; subst hst; obtain⟨T,hT⟩:∃ T,T=r:=⟨_,rfl⟩; obtain⟨N,hN⟩:∃ N,N=false:=⟨_,rfl⟩; have hdec:decide ((c.toNat:Int)=45)=false:=by simp[a1]
  simp only[hdec]; rw[← hT,← hN]at hR; have hlT:T.length≤1000000:=by rw[hT]; omega
  rotate_left
  rw[if_neg (by omega),if_neg (by omega)]at hst; subst hst; obtain⟨T,hT⟩:∃ T,T=c::r:=⟨_,rfl⟩; obtain⟨N,hN⟩:∃ N,N=false:=⟨_,rfl⟩; rw[← hT,← hN]at hR; have hlT:T.length≤1000000:=by rw[hT]; exact hs
  rotate_left
  rw[if_pos (by omega)]at hst; subst hst; obtain⟨T,hT⟩:∃ T,T=r:=⟨_,rfl⟩; obtain⟨N,hN⟩:∃ N,N=true:=⟨_,rfl⟩; have hdec:decide ((c.toNat:Int)=45)=true:=by simp[a1]
  simp only[hdec]; rw[← hT,← hN]at hR; have hlT:T.length≤1000000:=by rw[hT]; omega
  rotate_left
  all_goals
   refine q0l (fun y:Nat×Nat×Nat×Int=>⟨[(4,.d (.str T)),(5,.d (.bool N)),(6,.d (.int .i64 y.2.1)),(7,.d (.int .i64 y.2.2.1)),(8,.d (.int .i64 y.2.2.2)),(30,.d (.int .i64 (T.length:Nat))),(31,.d (.int .i64 y.1))],[],[]⟩)
    (fun y=>y.1≤T.length∧y.2.1≤10000000009∧y.2.2.1≤y.1 ∧ -1≤y.2.2.2∧y.2.2.2≤y.1∧finP N (q97 (T.drop y.1) y.2.1 y.2.2.1 y.2.2.2)=R) (fun y=>T.length-y.1) (0,0,0,-1) ?_ ?_ ?_
   ·refine q0d ?_ trivial; simp(maxSteps:=2000000)only[go_sem,↓reduceIte,Sub,Int.natCast_add,Int.natCast_mul,hT,hN]
   ·exact⟨by simp,by simp,by simp,by simp,by simp,by simpa using hR⟩
   ·rintro⟨i,n,d,p⟩ ⟨hi,hn,hd,hp,hp2,hF⟩; simp only at hi hn hd hp hp2 hF; simp(maxSteps:=2000000)only[go_sem,↓reduceIte]; refine⟨fun q1=>?_,fun q1=>?_⟩
    ·obtain⟨x,hx⟩:=get_some (l:=T) (i:=i) (by omega); have hx8:=q4o x; rw[drop_cons hx]at hF; unfold q97 at hF
     by_cases e1:x.toNat=46∧p<0
     ·rw[if_pos e1]at hF; have e1a:(x.toNat:Int)=46:=by omega
      simp(maxSteps:=2000000)(disch:=omega)only[go_sem,↓reduceIte,q0a,hx,e1a,e1.2]; refine⟨(i+1,n,d,0),?_,⟨by simp only; omega,hn,by simp only; omega,by simp,by simp only; omega,hF⟩,by simp only; omega⟩; refine q0d ?_ trivial; simp(maxSteps:=2000000)only[go_sem,↓reduceIte,Sub,Int.natCast_add,Int.natCast_mul]
     ·rw[if_neg e1]at hF
      by_cases e2:x.toNat<48∨57<x.toNat
      ·rw[if_pos e2]at hF; subst hF; have hres:resP (finP N none)=.tup [.int .i64 0,.iface 76 (.int .i64 4)]:=rfl; rw[hres]; simp(maxSteps:=2000000)only[go_sem,↓reduceIte,q0a,hx]; refine⟨fun a=>⟨fun b=>by omega,fun b=>fun c=>by omega⟩,fun a=>fun b c=>by omega⟩
      ·rw[if_neg e2]at hF; have hne46:¬((x.toNat:Int)=46):=by omega
       have h48:¬((x.toNat:Int)<48):=by omega
       have h57:¬(57<(x.toNat:Int)):=by omega
       obtain⟨k,hk⟩:∃ k,x.toNat-48=k:=⟨_,rfl⟩; have hk':(x.toNat:Int)-48=(k:Int):=by omega
       rw[hk]at hF; simp(maxSteps:=2000000)(disch:=omega)only[go_sem,↓reduceIte,q0a,hx,hne46,h48,h57,hk']; refine⟨fun b1=>⟨fun b2=>⟨fun b3=>?_,fun b3=>?_⟩,fun b2=>⟨fun b3=>?_,fun b3=>?_⟩⟩,fun b1=>⟨fun b3=>?_,fun b3=>?_⟩⟩
       ·rw[if_pos ⟨b1,by omega⟩,if_pos b3]at hF; refine⟨(i+1,10*n+k,d+1,p+1),?_,⟨by simp only; omega,by simp only; omega,by simp only; omega,by simp only; omega,by simp only; omega,hF⟩,by simp only; omega⟩; refine q0d ?_ trivial; simp(maxSteps:=2000000)only[go_sem,↓reduceIte,Sub,Int.natCast_add,Int.natCast_mul]
       ·rw[if_pos ⟨b1,by omega⟩,if_neg b3]at hF; refine⟨(i+1,10*n+k,d+1,p),?_,⟨by simp only; omega,by simp only; omega,by simp only; omega,by simp only; omega,by simp only; omega,hF⟩,by simp only; omega⟩; refine q0d ?_ trivial; simp(maxSteps:=2000000)only[go_sem,↓reduceIte,Sub,Int.natCast_add,Int.natCast_mul]
       ·rw[if_neg (fun h=>b2 (by omega)),if_pos b3]at hF; refine⟨(i+1,n,d+1,p+1),?_,⟨by simp only; omega,by simp only; omega,by simp only; omega,by simp only; omega,by simp only; omega,hF⟩,by simp only; omega⟩; refine q0d ?_ trivial; simp(maxSteps:=2000000)only[go_sem,↓reduceIte,Sub,Int.natCast_add,Int.natCast_mul]
       ·rw[if_neg (fun h=>b2 (by omega)),if_neg b3]at hF; refine⟨(i+1,n,d+1,p),?_,⟨by simp only; omega,by simp only; omega,by simp only; omega,by simp only; omega,by simp only; omega,hF⟩,by simp only; omega⟩; refine q0d ?_ trivial; simp(maxSteps:=2000000)only[go_sem,↓reduceIte,Sub,Int.natCast_add,Int.natCast_mul]
       ·rw[if_neg (fun h=>b1 h.1),if_pos b3]at hF; refine⟨(i+1,n,d+1,p+1),?_,⟨by simp only; omega,by simp only; omega,by simp only; omega,by simp only; omega,by simp only; omega,hF⟩,by simp only; omega⟩; refine q0d ?_ trivial; simp(maxSteps:=2000000)only[go_sem,↓reduceIte,Sub,Int.natCast_add,Int.natCast_mul]
       ·rw[if_neg (fun h=>b1 h.1),if_neg b3]at hF; refine⟨(i+1,n,d+1,p),?_,⟨by simp only; omega,by simp only; omega,by simp only; omega,by simp only; omega,by simp only; omega,hF⟩,by simp only; omega⟩; refine q0d ?_ trivial; simp(maxSteps:=2000000)only[go_sem,↓reduceIte,Sub,Int.natCast_add,Int.natCast_mul]
    ·rw[List.drop_eq_nil_of_le (by omega)]at hF; unfold q97 at hF; dsimp only[finP]at hF; refine⟨fun c1=>?_,fun c1=>?_⟩
     ·rw[if_pos (by omega)]at hF; subst hF; simp[resP,errD]
     ·rw[if_neg (by omega)]at hF; have hmx:(if p<0 then 0 else p)=((p.toNat:Nat):Int):=by split<;>omega
      rw[hmx]; have hP9:p.toNat≤1000000:=by omega
      generalize p.toNat=P at hF hP9 ⊢; refine q0l (fun k:Nat=>⟨[(5,.d (.bool N)),(6,.d (.int .i64 (n*10 ^ k:Nat))),(8,.d (.int .i64 (P+k:Nat)))],[],[]⟩)
       (fun k=>k≤3-P) (fun k=>3-k) 0 ?_ ?_ ?_
      ·refine q0d ?_ trivial; simp(maxSteps:=2000000)only[go_sem,↓reduceIte,Sub,Int.natCast_add,Int.natCast_mul,Nat.pow_zero,Nat.mul_one,Nat.add_zero]
      ·omega
      ·intro k hk; have h10:10 ^ k≤10 ^ 3:=Nat.pow_le_pow_right (by decide) (by omega); have hM:n*10 ^ k≤10000000009*10 ^ 3:=Nat.mul_le_mul hn h10; simp(maxSteps:=2000000)only[go_sem,↓reduceIte]; refine⟨fun c2=>?_,fun c2=>?_⟩
       ·have hs1:n*10 ^ (k+1)=n*10 ^ k*10:=by rw[Nat.pow_succ,Nat.mul_assoc]
        generalize hMM:n*10 ^ k=M at hM hs1 ⊢; simp(disch:=omega)only[IntWalk.i64_in,IntWalk.u8_in]; refine⟨k+1,?_,by omega,by omega⟩; refine q0d ?_ trivial; simp(maxSteps:=2000000)only[go_sem,↓reduceIte,Sub,Int.natCast_add,Int.natCast_mul,hs1]; rw[Int.add_assoc]
       ·have hk3:k=3-P:=by omega
        rw[← hk3]at hF; generalize hMM:n*10 ^ k=M at hM hF ⊢; refine⟨fun c3=>?_,fun c3=>?_⟩
        ·rw[if_pos (by omega)]at hF; subst hF; simp[resP,errD]
        ·rw[if_neg (by omega)]at hF; subst hF; cases N
         ·simp(maxSteps:=2000000)(disch:=omega)only[go_sem,↓reduceIte,resP,errD]
         ·simp(maxSteps:=2000000)(disch:=omega)only[go_sem,↓reduceIte,resP,errD,Int.zero_sub]
end Go.Av.Tryz
