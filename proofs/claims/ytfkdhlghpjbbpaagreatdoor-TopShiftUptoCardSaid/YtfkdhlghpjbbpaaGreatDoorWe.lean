import Derived.Test.YtfkdhlghpjbbpaaGreatDoorWd
import Derived.Test.YtfkdhlghpjbbpaaGreatDoorWa
import Derived.Shelf.Strings.Search3
import Derived.Shelf.LaysM
import Derived.Test.YtfkdhlghpjbbpaaGreatDoorAvE
set_option linter.unusedSimpArgs false
namespace Go.Av.Tryz
open Go.Proofs
/-! ### Names, strings -/
def q60:List UInt8→List UInt8→Option (List UInt8)
 |[],b=>some b
 |c::r,b=>
  if c.toNat=35 then
   match r with
   |x::y::q=>if hexI x.toNat<0∨hexI y.toNat<0 then none else q60 q (b++[z0c (16*hexI x.toNat+hexI y.toNat)])
   |_=>none
  else q60 r (b++[c])
def octB(c:UInt8):Bool:=decide (48≤c.toNat)&&decide (c.toNat≤55)
def oct1(e:UInt8):Int:=(e.toNat:Int)-48
def octG:Nat→Int→List UInt8→Nat→Int×Nat
 |0,v,_,k=>(v,k)
 |_+1,v,[],k=>(v,k)
 |m+1,v,x::q,k=>if octB x=true then octG m (8*v+oct1 x) q (k+1)else(v,k)
theorem z5f{m:Nat}{v:Int}{t:List UInt8}{k:Nat}(h:∀ x q,t=x::q→octB x=false):octG m v t k=(v,k):=by
 match m,t with
 |0,_=>rfl
 |m+1,[]=>rfl
 |m+1,x::q=>rw[octG,if_neg (by simp[h x q rfl])]
def octL(e:UInt8)(r:List UInt8):Option UInt8×Nat:=(some (z0c (octG 2 (oct1 e) r 1).1),(octG 2 (oct1 e) r 1).2)
def escL:List UInt8→Option UInt8×Nat
 |[]=>(none,1)
 |e::r=>
  if e.toNat=110 then(some 10,1)else if e.toNat=114 then(some 13,1)else if e.toNat=116 then(some 9,1)else if e.toNat=98 then(some 8,1)else if e.toNat=102 then(some 12,1)
  else if e.toNat=10 then(none,1)
  else if e.toNat=13 then(if r.head?.map UInt8.toNat=some 10 then(none,2)else(none,1))
  else if octB e=false then(some e,1)
  else octL e r
def litF:Nat→Nat→List UInt8→List UInt8→Nat→Option (List UInt8×Nat)
 |_,_,[],_,_=>none
 |k+1,d,_::r,b,p=>litF k d r b (p+1)
 |0,d,c::r,b,p=>
  if c.toNat=92 then(if r=[]then none else litF (escL r).2 d r (b++(escL r).1.toList) (p+1))
  else if c.toNat=41 then(if d≤1 then some (b,p+1)else litF 0 (d-1) r (b++[c]) (p+1))
  else if c.toNat=40 then litF 0 (d+1) r (b++[c]) (p+1)
  else litF 0 d r (b++[c]) (p+1)
theorem z47:∀(k:Nat) {d:Nat} {t b:List UInt8} {p:Nat},k≤t.length→litF k d t b p=litF 0 d (t.drop k) b (p+k)
 |0,_,_,_,_,_=>rfl
 |k+1,d,[],b,p,h=>by simp at h
 |k+1,d,c::r,b,p,h=>by
  rw[litF,z47 k (by simpa using h),List.drop_succ_cons]; congr 1; omega
/-! ### Values -/
inductive RV where
 |ok (v:Val) (k:Nat)
 |bad (e:Nat)
def numV(n:Int):Val:=.mk 2 n [] [] []
def strV(s:List UInt8):Val:=.mk 3 0 s [] []
def namV(s:List UInt8):Val:=.mk 4 0 s [] []
def digF:List UInt8→Nat→Option Nat
 |[],n=>some n
 |c::r,n=>if c.toNat<48∨57<c.toNat then none else digF r (10*n+(c.toNat-48))
def objF(w:List UInt8):Option Nat:=
 if w.length<1∨2<w.length∨w.head?.map UInt8.toNat=some 48 then none
 else match digF w 0 with
  |none=>none
  |some n=>if n≤60 then some n else none
def z5s(s:List UInt8)(at_:Nat):Option (Nat×Nat):=
 match objF (q2x s at_)with
 |none=>none
 |some n=>
  let i:=q3t s (at_+(q2x s at_).length)
  if q2x s i=[48]then
   let j:=q3t s (i+1)
   if q2x s j=[82]then some (n,j+1)else none
  else none
def j2R(s:List UInt8)(at_:Nat):RV:=
 match litF 0 1 (s.drop at_) [] at_ with
 |none=>.bad 5
 |some (b,k)=>if b.length≤200 then .ok (strV b) k else .bad 2
def j6q(s:List UInt8)(at_:Nat):RV:=
 if(q5C (s.drop at_) (-1) []).2=0 then(if(q5C (s.drop at_) (-1) []).1.length≤200 then .ok (strV (q5C (s.drop at_) (-1) []).1) (at_+z6g (s.drop at_))else .bad 2)
 else .bad (q5C (s.drop at_) (-1) []).2
def q93(s:List UInt8)(at_:Nat):Option (List UInt8×Nat):=
 match q60 (q2x s (at_+1)) []with
 |none=>none
 |some b=>if q3g b=true then some (b,at_+1+(q2x s (at_+1)).length)else none
def z83(s:List UInt8)(at_:Nat):RV:=
 if q2x s at_=[110,117,108,108]then .ok zeroV (at_+4)
 else if q2x s at_=[116,114,117,101]then .ok (.mk 1 1 [] [] []) (at_+4)
 else if q2x s at_=[102,97,108,115,101]then .ok (.mk 1 0 [] [] []) (at_+5)
 else match z5s s at_ with
  |some (n,k)=>.ok (.mk 7 n [] [] []) k
  |none=>if(q6r (q2x s at_)).2=0 then .ok (numV (q6r (q2x s at_)).1) (at_+(q2x s at_).length)else .bad (q6r (q2x s at_)).2
open Go.Shelf
set_option maxRecDepth 100000
def z0d:Go.Shelf.Ren:=⟨fun|144=>82|143=>106|219=>123|217=>139|225=>138|224=>137|267=>140|266=>147|314=>148|n=>n,fun|9=>9|4=>4|3=>3|5=>5|46=>193|146=>198|51=>197|n=>n,fun|1=>0|n=>n⟩
theorem q6M:Go.Proofs.LaysM.n144 Tryz.prog z0d where
 mixed:=by kernel_rfl
 f143:=Tryz.func106.trans (congrArg some (by kernel_rfl))
 f144:=Tryz.func82.trans (congrArg some (by kernel_rfl))
 f217:=Tryz.func139.trans (congrArg some (by kernel_rfl))
 f219:=Tryz.func123.trans (congrArg some (by kernel_rfl))
 f224:=Tryz.func137.trans (congrArg some (by kernel_rfl))
 f225:=Tryz.func138.trans (congrArg some (by kernel_rfl))
 f266:=Tryz.func147.trans (congrArg some (by kernel_rfl))
 f267:=Tryz.func140.trans (congrArg some (by kernel_rfl))
 f314:=Tryz.func148.trans (congrArg some (by kernel_rfl))
 t3:=Tryz.underlying3
 a3:=Tryz.isAgg3
 z3:=Tryz.sizeOf3
 v3:=Tryz.zeroValue3
 t4:=Tryz.underlying4
 a4:=Tryz.isAgg4
 z4:=Tryz.sizeOf4
 v4:=Tryz.zeroValue4
 t5:=Tryz.underlying5
 a5:=Tryz.isAgg5
 z5:=Tryz.sizeOf5
 v5:=Tryz.zeroValue5
 t9:=Tryz.underlying9
 a9:=Tryz.isAgg9
 z9:=Tryz.sizeOf9
 v9:=Tryz.zeroValue9
 t46:=Tryz.underlying193
 a46:=Tryz.isAgg193
 z46:=Tryz.sizeOf193
 v46:=Tryz.zeroValue193
 t51:=Tryz.underlying197
 a51:=Tryz.isAgg197
 z51:=Tryz.sizeOf197
 v51:=Tryz.zeroValue197
 t146:=Tryz.underlying198
 a146:=Tryz.isAgg198
 z146:=Tryz.sizeOf198
 v146:=Tryz.zeroValue198
 g1:=by kernel_rfl
 i3:=by kernel_rfl
 i4:=by kernel_rfl
 i5:=by kernel_rfl
 i9:=by kernel_rfl
 i46:=by kernel_rfl
 i51:=by kernel_rfl
 i146:=by kernel_rfl
 m1:=by kernel_rfl
 s1_3:=fun w h=>Go.Proofs.cell_of_shapedOpen_int (zero := #[.int .i64 0]) (t:=3) h (of_decide_eq_true (by kernel_rfl)) (by kernel_rfl) rfl (by kernel_rfl) (by kernel_rfl) Tryz.underlying3
theorem z29(s sub:List UInt8)(hs:s.length<4294967281):q0s Tryz.prog 82 [.str s,.str sub] (fun r=>r=.one (.bool (Lib.contains s sub))):=by
 intro f w vs hI ht hsz hrd; have hv:vs = #[.string ⟨s.toArray⟩,.string ⟨sub.toArray⟩]:=by
  have h1:=hrd 0 _ rfl; have h2:=hrd 1 _ rfl; match vs,hsz with
  |⟨[v,u]⟩,_=>cases h1; cases h2; rfl
 subst hv; obtain⟨m,hm⟩:=hI.2.1 0 (by kernel_rfl); refine(Any.strings_Contains q6M.ton144 ⟨s.toArray⟩ ⟨sub.toArray⟩ m w (by show s.toArray.size<_; simpa using hs) hm).mono fun e w' ⟨he,hw⟩=>?_
 subst hw; exact⟨_,_,f,rfl,he,.bool _,Nat.le_refl _,fun b hb=>⟨rfl,rfl⟩,ht,rfl,rfl,rfl⟩
def q9J:q0i:=
 .seq (.reg [Qx 2 KF]) (.seq (.reg [Qc 3 0,Q 4 (.cvI .i32 (.t 3)),Q 5 (.i2s (.t 4)),⟨some 6,.call 82 [.k (.d (.str [40,41,60,62,91,93,123,125,47,37])),.t 5],none⟩,Qc 
 7 6,Qd 8 0 7 true,Qg 9 (.bin .lss (.t 8) (Kb 128)) 7 true,Q 10 (.pick (.t 7) (.t 9) KF),Qa 2 10]) .ret)
def q9R:List LRes:=[.tmp 2]
theorem z1g:q0r Tryz.prog 61 11 q9J q9R:=⟨_,_,Tryz.func61,rfl,by kernel_rfl,by kernel_rfl,rfl⟩
theorem z5y(c:UInt8):q0s Tryz.prog 61 [.int .u8 c.toNat] (fun r=>r=.one (.bool (q82 c))):=by
 have hc8:=q4o c; refine z1g.call rfl ?_; simp(maxSteps:=2000000)only[go_sem,↓reduceIte,q9J,q9R]; rw[IntWalk.i32_in _ (by omega)]
 by_cases h:c.toNat<128
 ·rw[z8i h]; refine q0g.of (z1X _ c) ?_; simp(maxSteps:=2000000)only[go_sem,↓reduceIte]; refine⟨fun h1=>?_,fun h1=>?_⟩
  ·have h2:q82 c=true:=by simpa[q82,z3Z]using h1
   have h3:((c.toNat:Int)<128)=True:=eq_true (by omega); simp[h2,h3]
  ·have h2:q82 c=false:=by simpa[q82,z3Z]using h1
   rw[h2]
 ·have h2:q82 c=false:=by
   simp only[q82,z3Z,List.mem_cons,List.not_mem_nil,or_false,decide_eq_false_iff_not,← UInt8.toNat_inj]; have:(40:UInt8).toNat=40:=rfl; rintro(e|e|e|e|e|e|e|e|e|e)<;>(rw[e]at h; exact h (by decide))
  have h3:((c.toNat:Int)<128)=False:=eq_false (by omega); rw[h2]; refine q0g.of (z29 _ _ (by simp)) ?_; simp(maxSteps:=2000000)only[go_sem,↓reduceIte,h3]
theorem z7d(s:List UInt8)(n:Int):(if(s.length:Int)<(if n<0 then 0 else n)then(s.length:Int)else if n<0 then 0 else n)=((q5x s n:Nat):Int):=by
 unfold q5x; split<;>split<;>omega
theorem z7e(s:List UInt8)(n:Int):q5x s n≤s.length:=by unfold q5x; omega
theorem q3S{s:List UInt8}{k:Nat}(h:k≤s.length):q5x s k=k:=by unfold q5x; omega
def q9H:q0i:=
 .seq (.reg [Qx 4 (Ki 0)]) (.seq (.reg [Qc 5 1,Q 6 (.mm true (.t 5) (Ki 0)),Qc 7 0,Q 8 (.len true (.t 7)),Q 9 (.mm false (.t 6) (.t 8)),Qa 1 9]) (.seq (.block 0 (.loop (.seq 
 (.seq (.reg [Qc 10 1,Qc 11 0,Q 12 (.len true (.t 11)),Q 13 (.bin .lss (.t 10) (.t 12))]) (.cond (.t 13) .skip (.exit 0))) (.block 1 (.block 2 (.seq (.reg [Qc 16 0,Qc 17 1,Q 
 18 (.idxS (.t 16) (.t 17)),⟨some 19,.call 60 [.t 18],none⟩,Qa 15 19]) (.cond (.t 15) (.reg [Qc 20 1,Q 21 (.bin .add (.t 20) (Ki 1)),Qa 1 21]) (.seq (.reg [Qc 23 0,Qc 24 1, 
 Q 25 (.idxS (.t 23) (.t 24)),Q 26 (.bin .eql (.t 25) (Kb 37)),Qa 22 26]) (.cond (.t 22) (.block 3 (.loop (.seq (.seq (.reg [Qc 27 1,Qc 28 0,Q 29 (.len true (.t 28)),Q 30 
 (.bin .lss (.t 27) (.t 29)),Qc 31 30,Qd 32 0 31 true,Qd 33 1 31 true,Qg 34 (.idxS (.t 32) (.t 33)) 31 true,Qg 35 (.bin .neq (.t 34) (Kb 10)) 31 true,Q 36 (.pick (.t 31) (.t 
 35) KF),Qc 37 36,Qd 38 0 37 true,Qd 39 1 37 true,Qg 40 (.idxS (.t 38) (.t 39)) 37 true,Qg 41 (.bin .neq (.t 40) (Kb 13)) 37 true,Q 42 (.pick (.t 37) (.t 41) KF)]) (.cond 
 (.t 42) .skip (.exit 3))) (.block 4 (.reg [Qc 43 1,Q 44 (.bin .add (.t 43) (Ki 1)),Qa 1 44]))))) (.seq (.reg [Qc 14 1,Qa 4 14]) .ret)))))))))) (.seq (.reg [Qc 45 1,Qa 4 45]) 
 .ret)))
def q9P:List LRes:=[.tmp 4]
theorem z1e:q0r Tryz.prog 35 46 q9H q9P:=⟨_,_,Tryz.func35,rfl,by kernel_rfl,by kernel_rfl,rfl⟩
theorem q55(s:List UInt8)(n:Int)(hs:s.length≤1000000000):q0s Tryz.prog 35 [.str s,.int .i64 n] (fun r=>r=.one (.int .i64 (q3t s (q5x s n)))):=by
 refine z1e.call rfl ?_; have hk:=z7e s n; have he:=z7d s n; generalize q5x s n=k at *; generalize hR:q3t s k=R; unfold q3t at hR; simp(maxSteps:=2000000)only[go_sem,↓reduceIte,q9H,q9P,he]; refine q0l (fun i:Nat=>⟨[(0,.d (.str s)),(1,.d (.int .i64 i))],[],[]⟩)
  (fun i=>i≤s.length∧q6z false (s.drop i) i=R) (fun i=>s.length-i) k ?_ ?_ ?_
 ·refine q0d ?_ trivial; simp(maxSteps:=2000000)only[go_sem,↓reduceIte,Sub,Int.natCast_add,Int.natCast_mul,he]
 ·exact⟨hk,hR⟩
 ·rintro i ⟨hi,hF⟩; simp(maxSteps:=2000000)only[go_sem,↓reduceIte]; refine⟨fun hlt=>?_,fun hge=>?_⟩
  ·obtain⟨c,hc⟩:=get_some (l:=s) (i:=i) (by omega); have hc8:=q4o c; rw[z5X hc,q6z,if_neg (by decide)]at hF; simp(maxSteps:=2000000)only[go_sem,↓reduceIte,q0a,hc]; refine q0g.of (z2p c.toNat) ?_; simp(maxSteps:=2000000)only[go_sem,↓reduceIte]; refine⟨fun h2=>?_,fun h2=>?_⟩
   ·rw[if_neg (by intro e; rw[e]at h2; exact absurd h2 (by decide)),if_pos h2]at hF; simp(disch:=omega)only[IntWalk.i64_in,IntWalk.u8_in]; refine⟨i+1,?_,⟨by omega,hF⟩,by omega⟩; refine q0d ?_ trivial; simp(maxSteps:=2000000)only[go_sem,↓reduceIte,Sub,Int.natCast_add,Int.natCast_mul]
   ·simp(maxSteps:=2000000)only[go_sem,↓reduceIte,q0a,hc]; refine⟨fun h3=>?_,fun h3=>?_⟩
    ·rw[if_pos (by omega)]at hF; have c37:c.toNat=37:=by omega
     refine q0l (fun j:Nat=>⟨[(0,.d (.str s)),(1,.d (.int .i64 j))],[],[]⟩)
      (fun j=>i≤j∧j≤s.length∧q6z true (s.drop j) j=R) (fun j=>s.length-j) i ?_ ?_ ?_
     ·refine q0d ?_ trivial; simp(maxSteps:=2000000)only[go_sem,↓reduceIte,Sub,Int.natCast_add,Int.natCast_mul]
     ·refine⟨Nat.le_refl _,hi,?_⟩; rw[z5X hc,q6z,if_pos rfl,c37]; exact hF
     ·rintro j ⟨hij,hj,hG⟩; simp(maxSteps:=2000000)only[go_sem,↓reduceIte]; refine⟨fun hlt2=>?_,fun hge2=>?_⟩
      ·obtain⟨x,hx⟩:=get_some (l:=s) (i:=j) (by omega); have hx8:=q4o x; rw[z5X hx,q6z,if_pos rfl]at hG; simp(maxSteps:=2000000)only[go_sem,↓reduceIte,q0a,hx]; have end_:(x.toNat=10∨x.toNat=13)→i<j∧q6z false (s.drop j) j=R:=fun h=>by
        refine⟨?_,?_⟩
        ·rcases Nat.lt_or_ge i j with q|q
         ·exact q
         ·have:i=j:=by omega
          subst this; rw[hc]at hx; cases hx; omega
        ·rw[z5X hx,q6z,if_neg (by decide),if_neg (by omega),if_pos (by rcases h with h|h<;>rw[h]<;>rfl)]; rcases h with h|h<;>(rw[h]at hG; exact hG)
       refine⟨fun g1=>⟨fun g2=>?_,fun g2=>?_⟩,fun g1=>?_⟩
       ·simp(disch:=omega)only[IntWalk.i64_in,IntWalk.u8_in]; have q:(decide (x.toNat≠10)&&decide (x.toNat≠13))=true:=by simp; omega
        rw[q]at hG; refine⟨j+1,?_,⟨by omega,by omega,hG⟩,by omega⟩; refine q0d ?_ trivial; simp(maxSteps:=2000000)only[go_sem,↓reduceIte,Sub,Int.natCast_add,Int.natCast_mul]
       ·obtain⟨q1,q2⟩:=end_ (.inr (by omega)); refine⟨j,?_,⟨hj,q2⟩,by omega⟩; refine q0d ?_ trivial; simp(maxSteps:=2000000)only[go_sem,↓reduceIte,Sub,Int.natCast_add,Int.natCast_mul]
       ·obtain⟨q1,q2⟩:=end_ (.inl (by omega)); refine⟨j,?_,⟨hj,q2⟩,by omega⟩; refine q0d ?_ trivial; simp(maxSteps:=2000000)only[go_sem,↓reduceIte,Sub,Int.natCast_add,Int.natCast_mul]
      ·refine⟨j,?_,⟨hj,?_⟩,by omega⟩
       ·refine q0d ?_ trivial; simp(maxSteps:=2000000)only[go_sem,↓reduceIte,Sub,Int.natCast_add,Int.natCast_mul]
       ·rw[List.drop_eq_nil_of_le (by omega),q6z]at hG; rw[List.drop_eq_nil_of_le (by omega),q6z]; exact hG
    ·rw[if_neg (by omega),if_neg (by simp[h2])]at hF; subst hF; rfl
  ·rw[List.drop_eq_nil_of_le (by omega),q6z]at hF; subst hF; simp(maxSteps:=2000000)only[go_sem,↓reduceIte]
/-! ### Words -/
theorem q9B(c:UInt8)(r:List UInt8):q88 (c::r)=if q8p c.toNat=false∧q82 c=false then c::q88 r else[]:=by
 unfold q88; rw[List.takeWhile_cons]
 by_cases h:q8p c.toNat=false∧q82 c=false
 ·rw[if_pos h,if_pos (by simp[h.1,h.2])]
 ·rw[if_neg h,if_neg (by simpa using h)]
theorem j1U{s:List UInt8}{k i:Nat}{c:UInt8}(hk:k≤i)(hc:s[i]?=some c)(h1:q8p c.toNat=false)(h2:q82 c=false)(h:q88 (s.drop k)=(s.drop k).take (i-k)++q88 (s.drop i)):
  q88 (s.drop k)=(s.drop k).take (i+1-k)++q88 (s.drop (i+1)):=by
 have hl:(s.drop k)[i-k]?=some c:=by rw[List.getElem?_drop,show k+(i-k)=i by omega]; exact hc
 rw[h,z5X hc,q9B,if_pos ⟨h1,h2⟩,show i+1-k=(i-k)+1 by omega,List.take_add_one,hl]; simp
def q9I:q0i:=
 .seq (.reg [Qx 4 (.k (.d (.str [])))]) (.seq (.reg [Qc 6 1,Q 7 (.mm true (.t 6) (Ki 0)),Qc 8 0,Q 9 (.len true (.t 8)),Q 10 (.mm false (.t 7) (.t 9)),Qa 1 10]) (.seq (.reg [Qc 
 11 1,Qa 5 11]) (.seq (.block 0 (.loop (.seq (.seq (.reg [Qc 12 5,Qc 13 0,Q 14 (.len true (.t 13)),Q 15 (.bin .lss (.t 12) (.t 14)),Qc 16 15,Qd 17 0 16 true,Qd 18 5 16 
 true,Qg 19 (.idxS (.t 17) (.t 18)) 16 true,⟨some 20,.call 60 [.t 19],some (16,true)⟩,Qg 21 (.not (.t 20)) 16 true,Q 22 (.pick (.t 16) (.t 21) KF),Qc 23 22,Qd 24 0 23 
 true,Qd 25 5 23 true,Qg 26 (.idxS (.t 24) (.t 25)) 23 true,⟨some 27,.call 61 [.t 26],some (23,true)⟩,Qg 28 (.not (.t 27)) 23 true,Q 29 (.pick (.t 23) (.t 28) KF)]) (.cond 
 (.t 29) .skip (.exit 0))) (.block 1 (.reg [Qc 30 5,Q 31 (.bin .add (.t 30) (Ki 1)),Qa 5 31]))))) (.seq (.reg [Qc 32 0,Qc 33 1,Qc 34 5,Q 35 (.subS (.t 32) (some (.t 33)) 
 (some (.t 34))),Qa 4 35]) .ret))))
def q9Q:List LRes:=[.tmp 4]
theorem z1f:q0r Tryz.prog 36 36 q9I q9Q:=⟨_,_,Tryz.func36,rfl,by kernel_rfl,by kernel_rfl,rfl⟩
theorem q59(s:List UInt8)(n:Int)(hs:s.length≤1000000000):q0s Tryz.prog 36 [.str s,.int .i64 n] (fun r=>r=.one (.str (q2x s (q5x s n)))):=by
 refine z1f.call rfl ?_; have hk:=z7e s n; have he:=z7d s n; generalize q5x s n=k at *; unfold q2x; simp(maxSteps:=2000000)only[go_sem,↓reduceIte,q9I,q9Q,he]; refine q0l (fun i:Nat=>⟨[(0,.d (.str s)),(1,.d (.int .i64 k)),(5,.d (.int .i64 i))],[],[]⟩)
  (fun i=>k≤i∧i≤s.length∧q88 (s.drop k)=(s.drop k).take (i-k)++q88 (s.drop i)) (fun i=>s.length-i) k ?_ ?_ ?_
 ·refine q0d ?_ trivial; simp(maxSteps:=2000000)only[go_sem,↓reduceIte,Sub,Int.natCast_add,Int.natCast_mul,he]
 ·exact⟨Nat.le_refl _,hk,by simp⟩
 ·rintro i ⟨hki,hi,hF⟩; have fin:q88 (s.drop i)=[]→(s.drop k).take (i-k)=q88 (s.drop k):=fun h=>by rw[hF,h,List.append_nil]
  have done:q88 (s.drop i)=[]→(0≤(k:Int)∧(k:Int)≤i∧(i:Int)≤s.length)∧Res.one (D.str (cutI s k i))=Res.one (D.str (q88 (s.drop k))):=fun h=>
   ⟨by omega,by rw[z0m,List.drop_take,fin h]⟩
  simp(maxSteps:=2000000)only[go_sem,↓reduceIte]; refine⟨fun hlt=>?_,fun hge=>?_⟩
  ·obtain⟨c,hc⟩:=get_some (l:=s) (i:=i) (by omega); simp(maxSteps:=2000000)only[go_sem,↓reduceIte,q0a,hc]; refine q0g.of (z2p c.toNat) ?_; simp(maxSteps:=2000000)only[go_sem,↓reduceIte]; refine⟨fun h1=>?_,fun h1=>?_⟩
   ·simp(maxSteps:=2000000)only[go_sem,↓reduceIte,q0a,hc]; refine q0g.of (z5y c) ?_; simp(maxSteps:=2000000)only[go_sem,↓reduceIte]; refine⟨fun h2=>?_,fun h2=>?_⟩
    ·simp(disch:=omega)only[IntWalk.i64_in,IntWalk.u8_in]; refine⟨i+1,?_,⟨by omega,by omega,j1U hki hc h1 h2 hF⟩,by omega⟩; refine q0d ?_ trivial; simp(maxSteps:=2000000)only[go_sem,↓reduceIte,Sub,Int.natCast_add,Int.natCast_mul]
    ·exact done (by rw[z5X hc,q9B,if_neg (by simp[h2])])
   ·exact done (by rw[z5X hc,q9B,if_neg (by simp[h1])])
  ·exact done (by rw[List.drop_eq_nil_of_le (by omega)]; rfl)
theorem j0N{c x y:UInt8}{r b:List UInt8}(h:c.toNat=35):q60 (c::x::y::r) b=if hexI x.toNat<0∨hexI y.toNat<0 then none else q60 r (b++[z0c (16*hexI x.toNat+hexI y.toNat)]):=by
 rw[q60,if_pos h]
theorem j0M{c:UInt8}{r b:List UInt8}(h:c.toNat=35)(hr:r.length<2):q60 (c::r) b=none:=by
 match r,hr with
 |[],_=>rw[q60,if_pos h]; intro x y q e; cases e
 |[x],_=>rw[q60,if_pos h]; intro x y q e; cases e
theorem j0O{c:UInt8}{r b:List UInt8}(h:c.toNat≠35):q60 (c::r) b=q60 r (b++[c]):=by
 match r with
 |[]=>simp[q60,h]
 |[x]=>simp[q60,h]
 |x::y::r=>rw[q60,if_neg h]
/-! ### What is set is set as the document has it -/
/-! ### Fields put in, none of that name there -/
mutual
theorem Val.z34{m m':Nat}(h:m≤m'):∀ v:Val,v.sm m=true→v.sm m'=true
 |.mk k n s l f,hv=>by
  simp only[Val.sm,Bool.and_eq_true,decide_eq_true_eq]at hv ⊢; exact⟨by omega,by omega,by omega,z7V h l hv.2.2.2.1,z7U h f hv.2.2.2.2⟩
theorem z7V{m m':Nat}(h:m≤m'):∀ l:List Val,smL m l=true→smL m' l=true
 |[],_=>rfl
 |v::r,hl=>by
  simp only[smL,Bool.and_eq_true]at hl ⊢; exact⟨Val.z34 h v hl.1,z7V h r hl.2⟩
theorem z7U{m m':Nat}(h:m≤m'):∀ l:List Fld,smF m l=true→smF m' l=true
 |[],_=>rfl
 |.mk nm v::r,hl=>by
  simp only[smF,Fld.sm,Bool.and_eq_true,decide_eq_true_eq]at hl ⊢; exact⟨⟨by omega,Val.z34 h v hl.1.2⟩,z7U h r hl.2⟩
end
/-! ### Parts -/
theorem z6w{s:List UInt8}{at_ k:Nat}{b:List UInt8}(ha:at_<s.length)(h:q93 s at_=some (b,k)):at_<k∧k≤s.length∧b.length≤200∧q3g b=true:=by
 unfold q93 at h; have hw:=q30 s (at_+1); split at h
 ·cases h
 ·rename_i b' hb; split at h
  ·rename_i hm; cases h; refine⟨by omega,by omega,?_,hm⟩; simp only[q3g,Bool.and_eq_true,decide_eq_true_eq]at hm; exact hm.2.1
  ·cases h
theorem z7r:∀ t:List UInt8,z6g t≤t.length
 |[]=>by simp[z6g]
 |c::r=>by unfold z6g; have:=z7r r; split<;>simp<;>omega
theorem q6k:∀(t:List UInt8) (h:Int) (b:List UInt8),(q5C t h b).2=0∨(q5C t h b).2=4∨(q5C t h b).2=5
 |[],_,_=>by simp[q5C]
 |c::r,h,b=>by
  unfold q5C; split
  ·simp
  ·split
   ·exact q6k r _ _
   ·split
    ·simp
    ·split
     ·exact q6k r _ _
     ·exact q6k r _ _
theorem j5W{s:List UInt8}{at_:Nat}(ha:at_≤s.length):match j6q s at_ with
  |.ok v k=>at_<k∧k≤s.length∧v.sm 300=true∧(ptV v).1=1
  |.bad e=>1≤e∧e≤8:=by
 have hg:=z7r (s.drop at_); rw[List.length_drop]at hg; unfold j6q; have hc:=q6k (s.drop at_) (-1) []
 by_cases h0:(q5C (s.drop at_) (-1) []).2=0
 ·rw[if_pos h0]; have hne:s.drop at_≠[]:=fun e=>by rw[e]at h0; simp[q5C]at h0
  have hpos:1≤z6g (s.drop at_):=by
   cases hd:s.drop at_ with
   |nil=>exact absurd hd hne
   |cons c r=>unfold z6g; split<;>omega
  split
  ·rename_i v k e; split at e
   ·cases e; rename_i hl; refine⟨by omega,by omega,Val.q68.2 ⟨by simp only[strV,Val.s]; omega,by simp[strV,Val.l],by simp[strV,Val.f],by simp[strV,Val.l],by simp[strV,Val.f]⟩,by simp[strV,ptV,ptL,ptF]⟩
   ·cases e
  ·rename_i e' e; split at e
   ·cases e
   ·cases e; omega
 ·rw[if_neg h0]; simp only; omega
theorem q7j:∀(t:List UInt8) (k d:Nat) (b:List UInt8) (p:Nat) {q:List UInt8} {n:Nat},litF k d t b p=some (q,n)→p<n∧n≤p+t.length
 |[],_,_,_,_,_,_,h=>by simp[litF]at h
 |c::r,0,d,b,p,q,n,h=>by
  unfold litF at h; simp only[List.length_cons]; split at h
  ·split at h
   ·cases h
   ·have:=q7j r _ _ _ _ h; omega
  ·split at h
   ·split at h
    ·cases h; omega
    ·have:=q7j r _ _ _ _ h; omega
   ·split at h
    ·have:=q7j r _ _ _ _ h; omega
    ·have:=q7j r _ _ _ _ h; omega
 |c::r,k+1,d,b,p,q,n,h=>by
  unfold litF at h; simp only[List.length_cons]; have:=q7j r _ _ _ _ h; omega
theorem j1L{b:List UInt8}(h:b.length≤200):(strV b).sm 300=true∧(ptV (strV b)).1=1:=
 ⟨Val.q68.2 ⟨by simp only[strV,Val.s]; omega,by simp[strV,Val.l],by simp[strV,Val.f],by simp[strV,Val.l],by simp[strV,Val.f]⟩,by simp[strV,ptV,ptL,ptF]⟩
theorem z8v{s:List UInt8}{at_:Nat}(ha:at_≤s.length):match j2R s at_ with
  |.ok v k=>at_<k∧k≤s.length∧v.sm 300=true∧(ptV v).1=1
  |.bad e=>1≤e∧e≤8:=by
 unfold j2R; cases h:litF 0 1 (s.drop at_) [] at_ with
 |none=>simp
 |some p=>
  obtain⟨b,k⟩:=p; have:=q7j _ _ _ _ _ h; rw[List.length_drop]at this; simp only
  by_cases hb:b.length≤200
  ·rw[if_pos hb]; obtain⟨h1,h2⟩:=j1L hb; exact⟨by omega,by omega,h1,h2⟩
  ·rw[if_neg hb]; simp
theorem z8M{s:List UInt8}{at_ n k:Nat}(ha:at_≤s.length)(h:z5s s at_=some (n,k)):at_<k∧k≤s.length∧1≤n∧n≤60:=by
 unfold z5s at h; have hw:=q30 s at_; split at h
 ·cases h
 ·rename_i m hm; have h1:=q4r (s:=s) (k:=at_+(q2x s at_).length) (by omega); simp only at h; split at h
  ·rename_i hq; have hw2:=q30 s (q3t s (at_+(q2x s at_).length)); rw[hq]at hw2; simp only[List.length_cons,List.length_nil]at hw2; have h2:=q4r (s:=s) (k:=q3t s (at_+(q2x s at_).length)+1) (by omega); split at h
   ·rename_i hr; have hw3:=q30 s (q3t s (q3t s (at_+(q2x s at_).length)+1)); rw[hr]at hw3; simp only[List.length_cons,List.length_nil]at hw3; cases h
    have hb:1≤n∧n≤60:=by
     unfold objF at hm; split at hm
     ·cases hm
     ·rename_i hc; generalize q2x s at_=w at hm hc; cases hd:digF w 0 with
      |none=>rw[hd]at hm; cases hm
      |some z=>
       rw[hd]at hm; simp only at hm; split at hm
       ·rename_i hz; cases hm; refine⟨?_,hz⟩; cases w with
        |nil=>simp at hc
        |cons a r=>
         have ha:a.toNat≠48:=fun e=>hc (.inr (.inr (by simp[e])))
         have mono:∀(t:List UInt8) (x y:Nat),digF t x=some y→x≤y:=fun t=>by
          induction t with
          |nil=>intro x y e; simp only[digF,Option.some.injEq]at e; omega
          |cons c r ih=>
           intro x y e; unfold digF at e; split at e
           ·cases e
           ·have:=ih _ _ e; omega
         unfold digF at hd; split at hd
         ·cases hd
         ·have:=mono _ _ _ hd; omega
       ·cases hm
    exact⟨by omega,by omega,hb⟩
   ·cases h
  ·cases h
theorem z6G(w:List UInt8):(q6r w).2=0∨(q6r w).2=1∨(q6r w).2=4:=by
 unfold q6r finP; split
 ·simp
 ·split
  ·simp
  ·split<;>simp
theorem z8I:(q6r []).2=4:=rfl
theorem z86{s:List UInt8}{at_:Nat}(ha:at_≤s.length):match z83 s at_ with
  |.ok v k=>at_<k∧k≤s.length∧v.sm 300=true∧(ptV v).1=1
  |.bad e=>1≤e∧e≤8:=by
 have plain:∀(k n:Int),(Val.mk k n [] [] []).sm 300=true∧(ptV (Val.mk k n [] [] [])).1=1:=fun k n=>⟨by simp[Val.sm,smL,smF],by simp[ptV,ptL,ptF]⟩
 have hw:=q30 s at_; unfold z83
 by_cases h1:q2x s at_=[110,117,108,108]
 ·rw[if_pos h1]; rw[h1]at hw; simp only[List.length_cons,List.length_nil]at hw; exact⟨by omega,by omega,plain 0 0⟩
 ·rw[if_neg h1]
  by_cases h2:q2x s at_=[116,114,117,101]
  ·rw[if_pos h2]; rw[h2]at hw; simp only[List.length_cons,List.length_nil]at hw; exact⟨by omega,by omega,plain 1 1⟩
  ·rw[if_neg h2]
   by_cases h3:q2x s at_=[102,97,108,115,101]
   ·rw[if_pos h3]; rw[h3]at hw; simp only[List.length_cons,List.length_nil]at hw; exact⟨by omega,by omega,plain 1 0⟩
   ·rw[if_neg h3]; cases hr:z5s s at_ with
    |some p=>
     obtain⟨n,k⟩:=p; have:=z8M ha hr; exact⟨by omega,by omega,plain 7 n⟩
    |none=>
     simp only; have hc:=z6G (q2x s at_)
     by_cases h4:(q6r (q2x s at_)).2=0
     ·rw[if_pos h4]; have hne:(q2x s at_).length≠0:=fun e=>by
       rw[List.length_eq_zero_iff.1 e,z8I]at h4; cases h4
      exact⟨by omega,by omega,plain 2 _⟩
     ·rw[if_neg h4]; simp only; omega
/-! ### Values -/
theorem kmk(k n:Int)(s:List UInt8):(Val.mk k n s [] []).d=.agg [.int .i64 k,.int .i64 n,.str s,.list [],.list []]:=by rw[mk_d]; rfl
def robj(s:List UInt8)(k:Int)(n:Nat):AObj:=.cells [.d (.str s),.d (.int .i64 k),.d (errD n)]
theorem q1M(s:List UInt8)(k:Int):robj s k 0=.cells [.d (.str s),.d (.int .i64 k),.d .nil]:=rfl
theorem z1z(s:List UInt8)(k:Int){n:Nat}(h:n≠0):robj s k n=.cells [.d (.str s),.d (.int .i64 k),.d (.iface 76 (.int .i64 n))]:=by rw[robj,q13 h]
theorem j4r(s:List UInt8)(k:Int):robj s k 2=.cells [.d (.str s),.d (.int .i64 k),.d (.iface 76 (.int .i64 2))]:=rfl
theorem z7M(s:List UInt8)(k:Int):robj s k 4=.cells [.d (.str s),.d (.int .i64 k),.d (.iface 76 (.int .i64 4))]:=rfl
theorem z7N(s:List UInt8)(k:Int):robj s k 5=.cells [.d (.str s),.d (.int .i64 k),.d (.iface 76 (.int .i64 5))]:=rfl
theorem j3w:errD 2=.iface 76 (.int .i64 2)∧errD 3=.iface 76 (.int .i64 3)∧errD 4=.iface 76 (.int .i64 4)∧errD 5=.iface 76 (.int .i64 5):=⟨rfl,rfl,rfl,rfl⟩
def q1N:q0i:=
 .seq (.reg [Qc 4 0,Q 5 (.nck (.t 4)),Q 6 (.fa 2 (.t 5)),Q 7 (.ld false 1 (.t 6)),Q 8 (.eqN 0 false (.t 7))]) (.cond (.t 8) (.reg [Qc 9 0,Qc 10 1,Q 11 (.nck (.t 9)),Q 12 (.fa 
 2 (.t 11)),⟨none,.st 1 (.t 12) (.t 10),none⟩]) .skip)
def q1O:List LRes:=[]
theorem q2g:q0r Tryz.prog 63 13 q1N q1O:=⟨_,_,Tryz.func63,rfl,by kernel_rfl,by kernel_rfl,rfl⟩
theorem z0U(s:List UInt8)(k:Int)(e:Nat):q6m Tryz.prog 63 [.ptr (.x 0) 0,.d (errD e)] [robj s k 0] (.tuple []) [robj s k e]:=by
 rw[q1M]
 by_cases h:e=0
 ·subst h; rw[q1M,show errD 0=.nil from rfl]; refine q2g.q2q (by kernel_rfl) rfl ?_; simp(maxSteps:=2000000)only[go_sem,↓reduceIte,q1N,q1O]
 ·rw[z1z s k h,q13 h]; refine q2g.q2q (by kernel_rfl) rfl ?_; simp(maxSteps:=2000000)only[go_sem,↓reduceIte,q1N,q1O]
theorem j40(s:List UInt8)(k:Int){n:Nat}(h:n≠0)(E:D):q6m Tryz.prog 63 [.ptr (.x 0) 0,.d E] [robj s k n] (.tuple []) [robj s k n]:=by
 rw[z1z s k h]; refine q2g.q2q (by kernel_rfl) rfl ?_; simp(maxSteps:=2000000)only[go_sem,↓reduceIte,q1N,q1O]
def q2h:q0i:=
 .seq (.reg [Qx 4 KF]) (.seq (.reg [Qc 5 0,Q 6 (.len true (.t 5)),Qc 7 1,Q 8 (.len true (.t 7)),Q 9 (.bin .geq (.t 6) (.t 8)),Qc 10 9,Qd 11 0 10 true,Qd 12 1 10 true,Qg 13 
 (.len true (.t 12)) 10 true,Qg 14 (.subS (.t 11) none (some (.t 13))) 10 true,Qd 15 1 10 true,Qg 16 (.bin .eql (.t 14) (.t 15)) 10 true,Q 17 (.pick (.t 10) (.t 16) KF),Qa 4 
 17]) .ret)
def q2j:List LRes:=[.tmp 4]
theorem q3z:q0r Tryz.prog 125 18 q2h q2j:=⟨_,_,Tryz.func125,rfl,by kernel_rfl,by kernel_rfl,rfl⟩
def q42:q0i:=
 .seq (.reg [Qx 4 KF]) (.seq (.reg [Qc 5 0,Qc 6 1,⟨some 7,.call 125 [.t 5,.t 6],none⟩,Qa 4 7]) .ret)
def q46:List LRes:=[.tmp 4]
theorem q6w:q0r Tryz.prog 109 8 q42 q46:=⟨_,_,Tryz.func109,rfl,by kernel_rfl,by kernel_rfl,rfl⟩
def q6U(s t:List UInt8):Bool:=decide (s.take t.length=t)
theorem z11(s t:List UInt8):q0s Tryz.prog 109 [.str s,.str t] (fun r=>r=.one (.bool (q6U s t))):=by
 have h:q0s Tryz.prog 125 [.str s,.str t] (fun r=>r=.one (.bool (q6U s t))):=by
  refine q3z.call rfl ?_; simp(maxSteps:=2000000)only[go_sem,↓reduceIte,q2h,q2j]; refine⟨fun h=>⟨by omega,?_⟩,fun h=>?_⟩
  ·rw[show(0:Int)=((0:Nat):Int)from rfl,z0m,List.drop_zero]; rfl
  ·have:q6U s t=false:=by
    simp only[q6U,decide_eq_false_iff_not]; intro e; have:=congrArg List.length e; simp at this; omega
   rw[this]
 refine q6w.call rfl ?_; simp(maxSteps:=2000000)only[go_sem,↓reduceIte,q42,q46]; refine q0g.of h ?_; simp(maxSteps:=2000000)only[go_sem,↓reduceIte]
def q35:q0i:=
 .seq (.reg [Qx 2 (Kb 0)]) (.seq (.dreg [Qc 3 0,Qc 4 0,Q 5 (.nck (.t 4)),Q 6 (.fa 0 (.t 5)),Q 7 (.ld false 1 (.t 6)),Qc 8 0,Q 9 (.nck (.t 8)),Q 10 (.fa 1 (.t 9)),Q 11 (.ld 
 false 1 (.t 10)),⟨some 12,.call 35 [.t 7,.t 11],none⟩,Q 13 (.nck (.t 3)),Q 14 (.fa 1 (.t 13)),⟨none,.st 1 (.t 14) (.t 12),none⟩]) (.seq (.seq (.dreg [Qc 15 0,Q 16 (.nck 
 (.t 15)),Q 17 (.fa 1 (.t 16)),Q 18 (.ld false 1 (.t 17)),Qc 19 0,Q 20 (.nck (.t 19)),Q 21 (.fa 0 (.t 20)),Q 22 (.ld false 1 (.t 21)),Q 23 (.len true (.t 22)),Q 24 (.bin 
 .lss (.t 18) (.t 23))]) (.cond (.t 24) (.seq (.dreg [Qc 25 0,Q 26 (.nck (.t 25)),Q 27 (.fa 0 (.t 26)),Q 28 (.ld false 1 (.t 27)),Qc 29 0,Q 30 (.nck (.t 29)),Q 31 (.fa 1 (.t 
 30)),Q 32 (.ld false 1 (.t 31)),Q 33 (.idxS (.t 28) (.t 32)),Qa 2 33]) .ret) .skip)) (.seq (.reg [Qc 34 0,Q 35 (.mkI 76 (Ki 5)),⟨some 36,.prim .call [.k (.fn (.func 63) [] 
 []),.t 34,.t 35] [],none⟩]) (.seq (.reg [Qx 2 (Kb 0)]) .ret))))
def q4b:List LRes:=[.tmp 2]
theorem q5I:q0r Tryz.prog 83 37 q35 q4b:=⟨_,_,Tryz.func83,rfl,by kernel_rfl,by kernel_rfl,rfl⟩
theorem j6G(s:List UInt8)(k:Nat)(hs:s.length≤60000)(hk:k≤s.length):q6m Tryz.prog 83 [.ptr (.x 0) 0] [robj s k 0]
  (.d (.int .u8 (match s[q3t s k]? with|none=>0|some c=>c.toNat))) [robj s (q3t s k) (match s[q3t s k]? with|none=>5|some _=>0)]:=by
 have hw:=q55 s ((k:Nat):Int) (by omega); rw[q3S hk]at hw; have hsk:=q4r hk; generalize q3t s k=q at *; rw[q1M]; refine q5I.q2q (by kernel_rfl) rfl ?_; simp(maxSteps:=2000000)only[go_sem,↓reduceIte,q35,q4b]; refine q5O.of hw ?_; simp(maxSteps:=2000000)only[go_sem,↓reduceIte]; refine⟨fun h1=>?_,fun h1=>?_⟩
 ·obtain⟨c,hc⟩:=get_some (l:=s) (i:=q) (by omega); simp(maxSteps:=2000000)only[go_sem,↓reduceIte,q0a,hc]; rfl
 ·rw[List.getElem?_eq_none (by omega)]; have hf:=z0U s (q:Int) 5; rw[q1M,show errD 5=.iface 76 (.int .i64 5)from rfl]at hf; refine q0c.mc1 (.x 0) rfl (hf) rfl rfl rfl rfl ⟨rfl,rfl⟩ ?_; simp(maxSteps:=2000000)only[go_sem,↓reduceIte,robj]
def q4t:q0i:=
 .seq (.reg [Qx 4 KF]) (.seq (.dreg [Qc 6 0,Q 7 (.nck (.t 6)),Q 8 (.fa 2 (.t 7)),Q 9 (.ld false 1 (.t 8)),Q 10 (.eqN 0 false (.t 9)),Qc 11 10,Qd 12 0 11 true,Qg 13 (.nck (.t 
 12)) 11 true,Qg 14 (.fa 0 (.t 13)) 11 true,Qg 15 (.ld false 1 (.t 14)) 11 true,Qd 16 0 11 true,Qg 17 (.nck (.t 16)) 11 true,Qg 18 (.fa 1 (.t 17)) 11 true,Qg 19 (.ld false 1 
 (.t 18)) 11 true,Qg 20 (.subS (.t 15) (some (.t 19)) none) 11 true,Qd 21 1 11 true,⟨some 22,.call 109 [.t 20,.t 21],some (11,true)⟩,Q 23 (.pick (.t 11) (.t 22) KF),Qa 5 
 23]) (.seq (.seq (.reg [Qc 24 5]) (.cond (.t 24) (.reg [Qc 25 0,Q 26 (.nck (.t 25)),Q 27 (.fa 1 (.t 26)),Q 28 (.ld false 1 (.t 27)),Qc 29 1,Q 30 (.len true (.t 29)),Q 31 
 (.bin .add (.t 28) (.t 30)),Q 32 (.nck (.t 25)),Q 33 (.fa 1 (.t 32)),⟨none,.st 1 (.t 33) (.t 31),none⟩]) .skip)) (.seq (.reg [Qc 34 5,Qa 4 34]) .ret)))
def q4v:List LRes:=[.tmp 4]
theorem q5Z:q0r Tryz.prog 87 35 q4t q4v:=⟨_,_,Tryz.func87,rfl,by kernel_rfl,by kernel_rfl,rfl⟩
theorem j6b(s:List UInt8)(k:Nat)(t:List UInt8)(hs:s.length≤60000)(hk:k≤s.length)(ht:t.length≤10):q6m Tryz.prog 87 [.ptr (.x 0) 0,.d (.str t)] [robj s k 0]
  (.d (.bool (q6U (s.drop k) t))) [robj s (if q6U (s.drop k) t=true then(k:Int)+t.length else k) 0]:=by
 have hp:=z11 (s.drop k) t; generalize q6U (s.drop k) t=b at *; rw[q1M]; refine q5Z.q2q (by kernel_rfl) rfl ?_; simp(maxSteps:=2000000)only[go_sem,↓reduceIte,q4t,q4v]; rw[show(s.length:Int)=((s.length:Nat):Int)from rfl,z0m,List.take_length]; refine⟨by omega,?_⟩; refine q5O.of hp ?_; simp(maxSteps:=2000000)only[go_sem,↓reduceIte]; refine⟨fun h=>?_,fun h=>?_⟩
 ·simp(disch:=omega)only[IntWalk.i64_in,IntWalk.u8_in]; rw[if_pos h]; rfl
 ·rw[if_neg (by simp[h])]; rfl
def q2K:q0i:=
 .seq (.reg [⟨some 4,.allo [.int .i64 0,.int .i64 0,.str [],.list [],.list []],none⟩]) (.seq (.seq (.reg [Qc 5 1,Q 6 (.len true (.t 5)),Q 7 (.bin .gtr (.t 6) (Ki 200))]) 
 (.cond (.t 7) (.reg [Qc 8 0,Q 9 (.mkI 76 (Ki 2)),⟨some 10,.prim .call [.k (.fn (.func 63) [] []),.t 8,.t 9] [],none⟩]) .skip)) (.seq (.reg [Qc 11 1,Q 12 (.bld [(0,1),(1, 
 1),(2,1),(3,1),(4,1)] [.int .i64 0,.int .i64 0,.str [],.list [],.list []] [false,false,false,true,true] [(0,.k (.d (.int .i64 3))),(2,.t 11)]),⟨none,.st 5 (.t 
 4) (.t 12),none⟩]) .ret))
def q2L:List LRes:=[.cell 4 true 5]
theorem q3H:q0r Tryz.prog 85 13 q2K q2L:=⟨_,_,Tryz.func85,rfl,by kernel_rfl,by kernel_rfl,rfl⟩
theorem j7v(s:List UInt8)(k:Int)(t:List UInt8):q6m Tryz.prog 85 [.ptr (.x 0) 0,.d (.str t)] [robj s k 0] (.d (strV t).d) [robj s k (if t.length≤200 then 0 else 2)]:=by
 have hf:=z0U s k 2; rw[show errD 2=.iface 76 (.int .i64 2)from rfl]at hf; rw[q1M]at hf ⊢; refine q3H.q2q (by kernel_rfl) rfl ?_; simp(maxSteps:=2000000)only[go_sem,↓reduceIte,q2K,q2L]; refine⟨fun h=>?_,fun h=>?_⟩
 ·refine q0c.mc1 (.x 0) rfl (hf) rfl rfl rfl rfl ⟨rfl,rfl⟩ ?_; simp(maxSteps:=2000000)only[go_sem,↓reduceIte,robj]; rw[if_neg (by omega),Val.d_eq]; exact⟨rfl,rfl⟩
 ·rw[if_pos (by omega),Val.d_eq]; exact⟨rfl,rfl⟩
theorem j6Z(s:List UInt8)(k:Int)(t:List UInt8){n:Nat}(hn:n≠0):q6m Tryz.prog 85 [.ptr (.x 0) 0,.d (.str t)] [robj s k n] (.d (strV t).d) [robj s k n]:=by
 have hf:=j40 s k hn (errD 2); rw[show errD 2=.iface 76 (.int .i64 2)from rfl]at hf; rw[z1z s k hn]at hf ⊢; refine q3H.q2q (by kernel_rfl) rfl ?_; simp(maxSteps:=2000000)only[go_sem,↓reduceIte,q2K,q2L]; refine⟨fun h=>?_,fun h=>?_⟩
 ·refine q0c.mc1 (.x 0) rfl (hf) rfl rfl rfl rfl ⟨rfl,rfl⟩ ?_; simp(maxSteps:=2000000)only[go_sem,↓reduceIte]; rw[Val.d_eq]; rfl
 ·rw[Val.d_eq]; rfl
def z7C(s:List UInt8):Option (List UInt8×Nat)→AV→List AObj→Prop
 |some (b,k),r,hs=>r=.d (.str b)∧hs=[robj s k 0]
 |none,r,hs=>∃(b:List UInt8) (k:Int),r=.d (.str b)∧hs=[robj s k 4]
def q34:q0i:=
 .seq (.reg [Qx 2 (.k (.d (.str [])))]) (.seq (.reg [Qc 6 0,Q 7 (.nck (.t 6)),Q 8 (.fa 1 (.t 7)),Q 9 (.ld false 1 (.t 8)),Q 10 (.bin .add (.t 9) (Ki 1)),Q 11 (.nck (.t 6)),Q 
 12 (.fa 1 (.t 11)),⟨none,.st 1 (.t 12) (.t 10),none⟩]) (.seq (.dreg [Qc 13 0,Q 14 (.nck (.t 13)),Q 15 (.fa 0 (.t 14)),Q 16 (.ld false 1 (.t 15)),Qc 17 0,Q 18 (.nck (.t 
 17)),Q 19 (.fa 1 (.t 18)),Q 20 (.ld false 1 (.t 19)),⟨some 21,.call 36 [.t 16,.t 20],none⟩,Qa 3 21]) (.seq (.reg [Qc 22 0,Q 23 (.nck (.t 22)),Q 24 (.fa 1 (.t 23)),Q 25 
 (.ld false 1 (.t 24)),Qc 26 3,Q 27 (.len true (.t 26)),Q 28 (.bin .add (.t 25) (.t 27)),Q 29 (.nck (.t 22)),Q 30 (.fa 1 (.t 29)),⟨none,.st 1 (.t 30) (.t 28),none⟩]) (.seq 
 (.reg [⟨some 4,.nils 5 1,none⟩]) (.seq (.seq (.reg [Qx 5 (Ki 0)]) (.block 0 (.loop (.seq (.seq (.reg [Qc 31 5,Qc 32 3,Q 33 (.len true (.t 32)),Q 34 (.bin .lss (.t 31) (.t 
 33))]) (.cond (.t 34) .skip (.exit 0))) (.seq (.block 1 (.seq (.seq (.reg [Qc 37 3,Qc 38 5,Q 39 (.idxS (.t 37) (.t 38)),Q 40 (.bin .neq (.t 39) (Kb 35))]) (.cond (.t 40) (.seq 
 (.reg [Qc 41 4,Qc 42 3,Qc 43 5,Q 44 (.idxS (.t 42) (.t 43)),⟨some 45,.bsl 5 1 [.t 44],none⟩,⟨some 46,.app 5 1 1 false (.t 41) (.t 45),none⟩,Qa 4 46]) (.exit 1)) .skip)) 
 (.seq (.seq (.reg [Qc 47 5,Q 48 (.bin .add (.t 47) (Ki 2)),Qc 49 3,Q 50 (.len true (.t 49)),Q 51 (.bin .geq (.t 48) (.t 50)),Qc 52 51,Qd 53 3 52 false,Qd 54 5 52 false,Qg 
 55 (.bin .add (.t 54) (Ki 1)) 52 false,Qg 56 (.idxS (.t 53) (.t 55)) 52 false,⟨some 57,.call 107 [.t 56],some (52,false)⟩,Qg 58 (.bin .lss (.t 57) (Ki 0)) 52 false,Q 59 
 (.pick (.t 52) KT (.t 58)),Qc 60 59,Qd 61 3 60 false,Qd 62 5 60 false,Qg 63 (.bin .add (.t 62) (Ki 2)) 60 false,Qg 64 (.idxS (.t 61) (.t 63)) 60 false,⟨some 65,.call 107 
 [.t 64],some (60,false)⟩,Qg 66 (.bin .lss (.t 65) (Ki 0)) 60 false,Q 67 (.pick (.t 60) KT (.t 66))]) (.cond (.t 67) (.seq (.reg [Qc 68 0,Q 69 (.mkI 76 (Ki 4)),⟨some 70, 
 .prim .call [.k (.fn (.func 63) [] []),.t 68,.t 69] [],none⟩]) (.seq (.reg [Qx 2 (.k (.d (.str [])))]) .ret)) .skip)) (.seq (.dreg [Qc 71 4,Qc 72 3,Qc 73 5,Q 74 (.bin .add 
 (.t 73) (Ki 1)),Q 75 (.idxS (.t 72) (.t 74)),⟨some 76,.call 107 [.t 75],none⟩,Q 77 (.bin .mul (Ki 16) (.t 76)),Qc 78 3,Qc 79 5,Q 80 (.bin .add (.t 79) (Ki 2)),Q 81 
 (.idxS (.t 78) (.t 80)),⟨some 82,.call 107 [.t 81],none⟩,Q 83 (.bin .add (.t 77) (.t 82)),Q 84 (.cvI .u8 (.t 83)),⟨some 85,.bsl 5 1 [.t 84],none⟩,⟨some 86,.app 5 1 1 
 false (.t 71) (.t 85),none⟩,Qa 4 86]) (.reg [Qc 87 5,Q 88 (.bin .add (.t 87) (Ki 2)),Qa 5 88]))))) (.reg [Qc 35 5,Q 36 (.bin .add (.t 35) (Ki 1)),Qa 5 36])))))) (.seq (.seq 
 (.reg [Qc 89 4,Q 90 (.b2s (.t 89)),⟨some 91,.call 79 [.t 90],none⟩,Q 92 (.not (.t 91))]) (.cond (.t 92) (.reg [Qc 93 0,Q 94 (.mkI 76 (Ki 4)),⟨some 95,.prim .call [.k (.fn 
 (.func 63) [] []),.t 93,.t 94] [],none⟩]) .skip)) (.seq (.reg [Qc 96 4,Q 97 (.b2s (.t 96)),Qa 2 97]) .ret)))))))
def q4a:List LRes:=[.tmp 2]
theorem q5H:q0r Tryz.prog 84 98 q34 q4a:=⟨_,_,Tryz.func84,rfl,by kernel_rfl,by kernel_rfl,rfl⟩
theorem j0P(s:List UInt8)(k:Nat)(hs:s.length≤60000)(hk:k<s.length):q7R Tryz.prog 84 [.ptr (.x 0) 0] [robj s k 0] (z7C s (q93 s k)):=by
 have hw:=q59 s ((k+1:Nat):Int) (by omega); rw[q3S (by omega)]at hw; have hwl:=q30 s (k+1); generalize hR:q93 s k=R; unfold q93 at hR; generalize q2x s (k+1)=w at *; rw[Int.natCast_add,Int.natCast_one]at hw; rw[q1M]; refine q5H.q2q (by kernel_rfl) rfl ?_; simp(maxSteps:=2000000)(disch:=omega)only[go_sem,↓reduceIte,q34,q4a]; refine q5O.of hw ?_; simp(maxSteps:=2000000)(disch:=omega)only[go_sem,↓reduceIte]
 refine q0l (fun y:Nat×List UInt8=>⟨[(0,.ptr (.x 0) 0),(3,.d (.str w)),(4,.own (.t 4) 5 1 (q0W y.2)),(5,.d (.int .i64 y.1))],[],[(0,.cells [.d (.str s),.d (.int .i64 ((k:Int)+1+w.length)),.d .nil])]⟩)
  (fun y=>y.1≤w.length∧y.2.length≤y.1∧q60 (w.drop y.1) y.2=q60 w []) (fun y=>w.length-y.1) (0,[]) ?_ ?_ ?_
 ·refine Weak.mk ?_ ?_ ?_<;>simp(maxSteps:=2000000)only[go_sem,↓reduceIte,Sub,Int.natCast_add,Int.natCast_mul,q0W]
 ·exact⟨by simp,by simp,by simp⟩
 ·rintro⟨i,b⟩ ⟨hi,hb,hF⟩; simp only at hi hb hF; have hblen:=q6a b; have hf:=z0U s ((k:Int)+1+w.length) 4; rw[q1M,show errD 4=.iface 76 (.int .i64 4)from rfl]at hf; simp(maxSteps:=2000000)only[go_sem,↓reduceIte]; refine⟨fun hlt=>?_,fun hge=>?_⟩
  ·obtain⟨c,hc⟩:=get_some (l:=w) (i:=i) (by omega); have hc8:=q4o c; rw[q05 hc]at hF; have bad:R=none→z7C s R (.d (.str [])) [robj s ((k:Int)+1+w.length) 4]:=fun e=>by rw[e]; exact⟨[],_,rfl,rfl⟩
   simp(maxSteps:=2000000)only[go_sem,↓reduceIte,q0a,hc]; refine⟨fun h1=>?_,fun h1=>⟨fun h2=>?_,fun h2=>?_⟩⟩
   ·rw[j0O (by omega)]at hF; simp(disch:=omega)only[IntWalk.i64_in,IntWalk.u8_in]; refine⟨by omega,(i+1,b++[c]),?_,⟨by simp only; omega,by simp only[List.length_append,List.length_cons,List.length_nil]; omega,hF⟩,by simp only; omega⟩; refine Weak.mk ?_ ?_ ?_<;>simp(maxSteps:=2000000)only[go_sem,↓reduceIte,Sub,Int.natCast_add,Int.natCast_mul,q2t,q5c,q5T]
   ·rw[IntWalk.i64_in _ (by omega)]at h2; obtain⟨x,hx⟩:=get_some (l:=w) (i:=i+1) (by omega); obtain⟨y,hy⟩:=get_some (l:=w) (i:=i+2) (by omega); have hx8:=q4o x; have hy8:=q4o y; have hxb:=z00 x.toNat; have hyb:=z00 y.toNat; rw[q05 hx,q05 hy,j0N (by omega)]at hF; have g1:getI w ((i:Int)+1)=some x:=by rw[z0X,hx]
    have g2:getI w ((i:Int)+2)=some y:=by rw[show(i:Int)+2=((i+2:Nat):Int) by omega,q0a,hy]
    simp(maxSteps:=2000000)(disch:=omega)only[go_sem,↓reduceIte,g1]; refine q0g.of (z0o (n:=x.toNat) (by omega)) ?_; simp(maxSteps:=2000000)(disch:=omega)only[go_sem,↓reduceIte]; refine⟨fun h3=>?_,fun h3=>?_⟩
    ·simp(maxSteps:=2000000)(disch:=omega)only[go_sem,↓reduceIte,g2]; refine q0g.of (z0o (n:=y.toNat) (by omega)) ?_; simp(maxSteps:=2000000)(disch:=omega)only[go_sem,↓reduceIte]; refine⟨fun h4=>?_,fun h4=>?_⟩
     ·rw[if_pos (.inr h4)]at hF; rw[← hF]at hR; refine q0c.mc1 (.x 0) rfl (hf) rfl rfl rfl rfl ⟨rfl,rfl⟩ ?_; simp(maxSteps:=2000000)only[go_sem,↓reduceIte,robj]; exact bad hR.symm
     ·rw[if_neg (by omega)]at hF; have hsn:=z4x (b:=b) (n:=16*hexI x.toNat+hexI y.toNat) (by omega) (by omega); simp(maxSteps:=2000000)(disch:=omega)only[go_sem,↓reduceIte,g1]; refine q5O.of (z0o (n:=x.toNat) (by omega)) ?_; simp(maxSteps:=2000000)(disch:=omega)only[go_sem,↓reduceIte,g2]; refine q5O.of (z0o (n:=y.toNat) (by omega)) ?_; simp(maxSteps:=2000000)(disch:=omega)only[go_sem,↓reduceIte]; rw[hsn]
      refine⟨by omega,(i+3,b++[z0c (16*hexI x.toNat+hexI y.toNat)]),?_,⟨by simp only; omega,by simp only[List.length_append,List.length_cons,List.length_nil]; omega,hF⟩,by simp only; omega⟩; have e3:((i+3:Nat):Int)=(i:Int)+2+1:=by omega
      refine Weak.mk ?_ ?_ ?_<;>simp(maxSteps:=2000000)only[go_sem,↓reduceIte,Sub,Int.natCast_add,Int.natCast_mul,e3]
    ·rw[if_pos (.inl h3)]at hF; rw[← hF]at hR; refine q0c.mc1 (.x 0) rfl (hf) rfl rfl rfl rfl ⟨rfl,rfl⟩ ?_; simp(maxSteps:=2000000)only[go_sem,↓reduceIte,robj]; exact bad hR.symm
   ·rw[IntWalk.i64_in _ (by omega)]at h2; rw[j0M (by omega) (by rw[List.length_drop]; omega)]at hF; rw[← hF]at hR; refine q0c.mc1 (.x 0) rfl (hf) rfl rfl rfl rfl ⟨rfl,rfl⟩ ?_; simp(maxSteps:=2000000)only[go_sem,↓reduceIte,robj]; exact bad hR.symm
  ·rw[List.drop_eq_nil_of_le (by omega),q60]at hF; rw[← hF]at hR; simp(maxSteps:=2000000)only[go_sem,↓reduceIte,q3o]; refine q0g.of (q61 b) ?_; simp(maxSteps:=2000000)only[go_sem,↓reduceIte]; refine⟨fun h1=>?_,fun h1=>?_⟩
   ·refine q0c.mc1 (.x 0) rfl (hf) rfl rfl rfl rfl ⟨rfl,rfl⟩ ?_; simp(maxSteps:=2000000)only[go_sem,↓reduceIte,robj,q3o]; rw[← hR]; simp only[h1]; exact⟨b,_,rfl,rfl⟩
   ·simp(maxSteps:=2000000)only[go_sem,↓reduceIte,q3o]; rw[← hR]; simp only[h1,if_true]; refine⟨rfl,?_⟩; simp only[robj,Int.natCast_add,Int.natCast_one]; rfl
def escI(o:Option UInt8):Int:=match o with
 |none => -1
 |some b=>b.toNat
theorem idx5(e:UInt8):Lib.indexByte [110,114,116,98,102] e=if e.toNat=110 then 0 else if e.toNat=114 then 1 else if e.toNat=116 then 2 else if e.toNat=98 then 3 else if e.toNat=102 then 4 else -1:=by
 have h:∀ i:Fin 256,Lib.indexByte [110,114,116,98,102] (UInt8.ofNat i.val)=if i.val=110 then 0 else if i.val=114 then 1 else if i.val=116 then 2 else if i.val=98 then 3 else if i.val=102 then 4 else -1:=by decide +kernel
 have:=h ⟨e.toNat,q4o e⟩; simpa using this
theorem j50{n:Int}(h:0≤n∧n≤511):IntKind.i64.wrap (((BitVec.ofInt IntKind.i64.bits n &&& BitVec.ofInt IntKind.i64.bits 255).toNat:Nat):Int)=((z0c n).toNat:Int):=by
 have hd:∀ i:Fin 512,IntKind.i64.wrap (((BitVec.ofInt IntKind.i64.bits ((i.val:Nat):Int) &&& BitVec.ofInt IntKind.i64.bits 255).toNat:Nat):Int)=((z0c ((i.val:Nat):Int)).toNat:Int):=by decide +kernel
 have:=hd ⟨n.toNat,by omega⟩; simp only at this; rwa [show((n.toNat:Nat):Int)=n by omega]at this
def q6C:q0i:=
 .seq (.reg [Qx 4 (Ki 0),Qx 5 (Ki 0)]) (.seq (.reg [Qc 10 0,Qc 11 1,Q 12 (.idxS (.t 10) (.t 11)),Qa 6 12]) (.seq (.reg [Qc 13 6,⟨some 14,.call 124 [.k (.d (.str [110,114, 
 116,98,102])),.t 13],none⟩,Qa 7 14]) (.seq (.block 0 (.seq (.reg [Qc 16 7,Q 17 (.bin .geq (.t 16) (Ki 0)),Qa 15 17]) (.cond (.t 15) (.seq (.reg [Qc 18 7,Q 19 (.idxS (.k 
 (.d (.str [10,13,9,8,12]))) (.t 18)),Q 20 (.cvI .i64 (.t 19)),Qa 4 20,Qx 5 (Ki 1)]) .ret) (.seq (.reg [Qc 22 6,Q 23 (.bin .eql (.t 22) (Kb 10)),Qa 21 23]) (.cond (.t 21) 
 (.seq (.reg [Qx 4 (Ki (-1)),Qx 5 (Ki 1)]) .ret) (.seq (.reg [Qc 25 6,Q 26 (.bin .eql (.t 25) (Kb 13)),Qc 27 26,Qd 28 1 27 true,Qg 29 (.bin .add (.t 28) (Ki 1)) 27 true,Qd 
 30 0 27 true,Qg 31 (.len true (.t 30)) 27 true,Qg 32 (.bin .lss (.t 29) (.t 31)) 27 true,Q 33 (.pick (.t 27) (.t 32) KF),Qc 34 33,Qd 35 0 34 true,Qd 36 1 34 true,Qg 37 
 (.bin .add (.t 36) (Ki 1)) 34 true,Qg 38 (.idxS (.t 35) (.t 37)) 34 true,Qg 39 (.bin .eql (.t 38) (Kb 10)) 34 true,Q 40 (.pick (.t 34) (.t 39) KF),Qa 24 40]) (.cond (.t 24) 
 (.seq (.reg [Qx 4 (Ki (-1)),Qx 5 (Ki 2)]) .ret) (.seq (.reg [Qc 42 6,Q 43 (.bin .eql (.t 42) (Kb 13)),Qa 41 43]) (.cond (.t 41) (.seq (.reg [Qx 4 (Ki (-1)),Qx 5 (Ki 1)]) 
 .ret) (.seq (.reg [Qc 45 6,Q 46 (.bin .lss (.t 45) (Kb 48)),Qc 47 46,Qd 48 6 47 false,Qg 49 (.bin .gtr (.t 48) (Kb 55)) 47 false,Q 50 (.pick (.t 47) KT (.t 49)),Qa 44 50]) 
 (.cond (.t 44) (.seq (.reg [Qc 51 6,Q 52 (.cvI .i64 (.t 51)),Qa 4 52,Qx 5 (Ki 1)]) .ret) .skip))))))))))) (.seq (.reg [Qx 8 (Ki 0),Qx 9 (Ki 0)]) (.seq (.block 1 (.loop (.seq 
 (.seq (.reg [Qc 53 9,Q 54 (.bin .lss (.t 53) (Ki 3)),Qc 55 54,Qd 56 1 55 true,Qd 57 9 55 true,Qg 58 (.bin .add (.t 56) (.t 57)) 55 true,Qd 59 0 55 true,Qg 60 (.len true 
 (.t 59)) 55 true,Qg 61 (.bin .lss (.t 58) (.t 60)) 55 true,Q 62 (.pick (.t 55) (.t 61) KF),Qc 63 62,Qd 64 0 63 true,Qd 65 1 63 true,Qd 66 9 63 true,Qg 67 (.bin .add (.t 
 65) (.t 66)) 63 true,Qg 68 (.idxS (.t 64) (.t 67)) 63 true,Qg 69 (.bin .geq (.t 68) (Kb 48)) 63 true,Q 70 (.pick (.t 63) (.t 69) KF),Qc 71 70,Qd 72 0 71 true,Qd 73 1 71 
 true,Qd 74 9 71 true,Qg 75 (.bin .add (.t 73) (.t 74)) 71 true,Qg 76 (.idxS (.t 72) (.t 75)) 71 true,Qg 77 (.bin .leq (.t 76) (Kb 55)) 71 true,Q 78 (.pick (.t 71) (.t 77) 
 KF)]) (.cond (.t 78) .skip (.exit 1))) (.block 2 (.seq (.reg [Qc 79 8,Q 80 (.bin .mul (Ki 8) (.t 79)),Qc 81 0,Qc 82 1,Qc 83 9,Q 84 (.bin .add (.t 82) (.t 83)),Q 85 (.idxS 
 (.t 81) (.t 84)),Q 86 (.bin .sub (.t 85) (Kb 48)),Q 87 (.cvI .i64 (.t 86)),Q 88 (.bin .add (.t 80) (.t 87)),Qa 8 88]) (.reg [Qc 89 9,Q 90 (.bin .add (.t 89) (Ki 1)),Qa 9 
 90])))))) (.seq (.reg [Qc 91 8,Q 92 (.bin .and (.t 91) (Ki 255)),Qc 93 9,Qa 4 92,Qa 5 93]) .ret))))))
def q6F:List LRes:=[.tmp 4,.tmp 5]
theorem q8I:q0r Tryz.prog 108 94 q6C q6F:=⟨_,_,Tryz.func108,rfl,by kernel_rfl,by kernel_rfl,rfl⟩
theorem z4E(s:List UInt8)(k:Nat)(hs:s.length≤60000)(hk:k<s.length):q0s Tryz.prog 108 [.str s,.int .i64 k] (fun r=>r=.tup [.int .i64 (escI (escL (s.drop k)).1),.int .i64 (escL (s.drop k)).2]):=by
 obtain⟨e,he⟩:=get_some (l:=s) (i:=k) hk; have he8:=q4o e; have hx:=q7I [110,114,116,98,102] e; rw[idx5]at hx; rw[q05 he]; generalize hR:escL (e::s.drop (k+1))=R; rw[escL]at hR; refine q8I.call rfl ?_; simp(maxSteps:=2000000)only[go_sem,↓reduceIte,q6C,q6F,q0a,he]; refine q0g.of hx ?_
 by_cases q0:e.toNat=110
 ·rw[if_pos q0]at hR ⊢; subst hR; have g:getI ([10,13,9,8,12]:List UInt8) 0=some 10:=rfl; simp(maxSteps:=2000000)only[go_sem,↓reduceIte,g]; rfl
 rw[if_neg q0]at hR ⊢
 by_cases q1:e.toNat=114
 ·rw[if_pos q1]at hR ⊢; subst hR; have g:getI ([10,13,9,8,12]:List UInt8) 1=some 13:=rfl; simp(maxSteps:=2000000)only[go_sem,↓reduceIte,g]; rfl
 rw[if_neg q1]at hR ⊢
 by_cases q2:e.toNat=116
 ·rw[if_pos q2]at hR ⊢; subst hR; have g:getI ([10,13,9,8,12]:List UInt8) 2=some 9:=rfl; simp(maxSteps:=2000000)only[go_sem,↓reduceIte,g]; rfl
 rw[if_neg q2]at hR ⊢
 by_cases q3:e.toNat=98
 ·rw[if_pos q3]at hR ⊢; subst hR; have g:getI ([10,13,9,8,12]:List UInt8) 3=some 8:=rfl; simp(maxSteps:=2000000)only[go_sem,↓reduceIte,g]; rfl
 rw[if_neg q3]at hR ⊢
 by_cases q4:e.toNat=102
 ·rw[if_pos q4]at hR ⊢; subst hR; have g:getI ([10,13,9,8,12]:List UInt8) 4=some 12:=rfl; simp(maxSteps:=2000000)only[go_sem,↓reduceIte,g]; rfl
 rw[if_neg q4]at hR ⊢
 by_cases q5:e.toNat=10
 ·rw[if_pos q5]at hR; subst hR; have z:((e.toNat:Int)=10)=True:=eq_true (by omega); simp(maxSteps:=2000000)only[go_sem,↓reduceIte,z]; rfl
 rw[if_neg q5]at hR; have z5:((e.toNat:Int)=10)=False:=eq_false (by omega)
 by_cases q6:e.toNat=13
 ·rw[if_pos q6]at hR; have z:((e.toNat:Int)=13)=True:=eq_true (by omega); simp(maxSteps:=2000000)(disch:=omega)only[go_sem,↓reduceIte,z5,z]; refine⟨fun h1=>?_,fun h1=>?_⟩
  ·obtain⟨x,hx⟩:=get_some (l:=s) (i:=k+1) (by omega); have hx8:=q4o x; have g:getI s ((k:Int)+1)=some x:=by rw[z0X,hx]
   have hh:(s.drop (k+1)).head?=some x:=by rw[q05 hx]; rfl
   rw[hh]at hR; simp(maxSteps:=2000000)(disch:=omega)only[go_sem,↓reduceIte,g]; refine⟨fun h2=>?_,fun h2=>?_⟩
   ·rw[if_pos (by simp; omega)]at hR; subst hR; rfl
   ·rw[if_neg (by simp; omega)]at hR; subst hR; exact⟨fun _=>rfl,fun h=>absurd (show(e.toNat:Int)=13 by omega) h⟩
  ·rw[List.drop_eq_nil_of_le (by omega)]at hR; rw[if_neg (by simp)]at hR; subst hR; rfl
 rw[if_neg q6]at hR; have z6:((e.toNat:Int)=13)=False:=eq_false (by omega)
 by_cases q7:octB e=true
 ·rw[if_neg (by simp[q7])]at hR; have q7':=q7; simp only[octB,Bool.and_eq_true,decide_eq_true_eq]at q7'; have z7:((e.toNat:Int)<48)=False:=eq_false (by omega); have z8:(55<(e.toNat:Int))=False:=eq_false (by omega); simp(maxSteps:=2000000)only[go_sem,↓reduceIte,z5,z6,z7,z8]; have h0:octG 3 0 (s.drop k) 0=octG 2 (oct1 e) (s.drop (k+1)) 1:=by
   rw[q05 he,octG,if_pos q7]; congr 1; simp
  unfold octL at hR; rw[← h0]at hR; generalize hG:octG 3 0 (s.drop k) 0=G at hR; refine q0l (fun y:Nat×Int=>⟨[(0,.d (.str s)),(1,.d (.int .i64 k)),(8,.d (.int .i64 y.2)),(9,.d (.int .i64 y.1))],[],[]⟩)
   (fun y=>y.1≤3∧k+y.1≤s.length∧0≤y.2∧y.2≤511∧(y.1=0→y.2=0)∧(y.1=1→y.2≤7)∧(y.1=2→y.2≤63)∧octG (3-y.1) y.2 (s.drop (k+y.1)) y.1=G) (fun y=>3-y.1) (0,0) ?_ ?_ ?_
  ·refine q0d ?_ trivial; simp(maxSteps:=2000000)only[go_sem,↓reduceIte,Sub,Int.natCast_add,Int.natCast_mul]
  ·exact⟨by simp,by simp only; omega,by simp,by simp,by simp,by simp,by simp,hG⟩
  ·rintro⟨j,v⟩ ⟨hj,hjl,hv0,hv1,hv2,hv3,hv4,hF⟩; simp only at hj hjl hv0 hv1 hv2 hv3 hv4 hF; have stop:octG (3-j) v (s.drop (k+j)) j=(v,j)→Res.tup [D.int .i64 (IntKind.i64.wrap (((BitVec.ofInt IntKind.i64.bits v &&& BitVec.ofInt IntKind.i64.bits 255).toNat:Nat):Int)),D.int .i64 j]=Res.tup [D.int .i64 (escI R.1),D.int .i64 R.2]:=fun h=>by
    rw[h]at hF; subst hF; subst hR; rw[j50 ⟨hv0,hv1⟩]; rfl
   have ej:(k:Int)+(j:Int)=((k+j:Nat):Int):=by omega
   simp(maxSteps:=2000000)(disch:=omega)only[go_sem,↓reduceIte]; refine⟨fun c1=>⟨fun c2=>?_,fun c2=>stop (z5f fun x q h=>by rw[List.drop_eq_nil_of_le (by omega)]at h; cases h)⟩,fun c1=>stop (by rw[show 3-j=0 by omega]; rfl)⟩; obtain⟨x,hx⟩:=get_some (l:=s) (i:=k+j) (by omega); have hx8:=q4o x; have stop2:=fun(h:octB x=false)=>stop (z5f fun x' q h'=>by rw[q05 hx]at h'; cases h'; exact h)
   have gx:getI s ((k:Int)+(j:Int))=some x:=by rw[ej,q0a,hx]
   simp(maxSteps:=2000000)(disch:=omega)only[go_sem,↓reduceIte,gx]; refine⟨fun c3=>⟨fun c4=>?_,fun c4=>stop2 (by simp[octB]; omega)⟩,fun c3=>stop2 (by simp[octB]; omega)⟩; have ox:octB x=true:=by simp[octB]; omega
   rw[q05 hx,show 3-j=(3-(j+1))+1 by omega,octG,if_pos ox]at hF; refine⟨(j+1,8*v+oct1 x),?_,⟨by simp only; omega,by simp only; omega,by simp only[oct1]; omega,by simp only[oct1]; omega,by simp only; omega,by simp only[oct1]; omega,by simp only[oct1]; omega,hF⟩,by simp only; omega⟩; have zz:decide ((x.toNat:Int)≤55)=true:=by simpa using c4
   refine q0d ?_ trivial; simp(maxSteps:=2000000)only[go_sem,↓reduceIte,Sub,Int.natCast_add,Int.natCast_mul,oct1,zz]; all_goals((repeat' apply And.intro)<;>(congr 2<;>omega))
 ·have q7:octB e=false:=by simpa using q7
  rw[if_pos q7]at hR; subst hR; simp(maxSteps:=2000000)only[go_sem,↓reduceIte,z5,z6]; rw[IntWalk.i64_in _ (by omega)]; refine⟨fun h1=>?_,fun h1=>rfl⟩; refine⟨fun h2=>rfl,fun h2=>?_⟩; simp[octB]at q7; exfalso; omega
theorem j6d{t:List UInt8}(ht:t≠[]):1≤(escL t).2∧(escL t).2≤t.length:=by
 cases t with
 |nil=>exact absurd rfl ht
 |cons e r=>
  have g:∀(m:Nat) (v:Int) (q:List UInt8) (k:Nat),k≤(octG m v q k).2∧(octG m v q k).2≤k+q.length:=fun m=>by
   induction m with
   |zero=>intro v q k; simp[octG]
   |succ m ih=>
    intro v q k; cases q with
    |nil=>simp[octG]
    |cons x q=>
     rw[octG]; split
     ·have:=ih (8*v+oct1 x) q (k+1); simp only[List.length_cons]; omega
     ·simp
  have h3:=g 2 (oct1 e) r 1; rw[escL]; simp only[List.length_cons]; repeat' split
  all_goals first
   |(simp only[octL]; omega)
   |(simp only; omega)
   |skip
  all_goals
   rename_i h; cases r with
   |nil=>simp at h
   |cons x q=>simp only[List.length_cons]; omega
def q3h:q0i:=
 .seq (.reg [Qx 2 (.k (.d (.str [])))]) (.seq (.reg [Qc 8 0,Q 9 (.nck (.t 8)),Q 10 (.fa 1 (.t 9)),Q 11 (.ld false 1 (.t 10)),Q 12 (.bin .add (.t 11) (Ki 1)),Q 13 (.nck (.t 8)), 
 Q 14 (.fa 1 (.t 13)),⟨none,.st 1 (.t 14) (.t 12),none⟩]) (.seq (.reg [⟨some 3,.nils 5 1,none⟩]) (.seq (.reg [Qx 4 (Ki 1)]) (.seq (.block 0 (.loop (.seq (.seq (.dreg [Qc 15 
 0,Q 16 (.nck (.t 15)),Q 17 (.fa 1 (.t 16)),Q 18 (.ld false 1 (.t 17)),Qc 19 0,Q 20 (.nck (.t 19)),Q 21 (.fa 0 (.t 20)),Q 22 (.ld false 1 (.t 21)),Q 23 (.len true (.t 
 22)),Q 24 (.bin .lss (.t 18) (.t 23))]) (.cond (.t 24) .skip (.exit 0))) (.block 1 (.seq (.dreg [Qc 25 0,Q 26 (.nck (.t 25)),Q 27 (.fa 0 (.t 26)),Q 28 (.ld false 1 (.t 27)), 
 Qc 29 0,Q 30 (.nck (.t 29)),Q 31 (.fa 1 (.t 30)),Q 32 (.ld false 1 (.t 31)),Q 33 (.idxS (.t 28) (.t 32)),Qa 5 33]) (.seq (.reg [Qc 34 0,Q 35 (.nck (.t 34)),Q 36 (.fa 1 (.t 
 35)),Q 37 (.ld false 1 (.t 36)),Q 38 (.bin .add (.t 37) (Ki 1)),Q 39 (.nck (.t 34)),Q 40 (.fa 1 (.t 39)),⟨none,.st 1 (.t 40) (.t 38),none⟩]) (.seq (.seq (.reg [Qc 41 5]) 
 (.block 2 (.seq (.reg [Q 43 (.bin .eql (.t 41) (Kb 92)),Qa 42 43]) (.cond (.t 42) (.seq (.seq (.dreg [Qc 44 0,Q 45 (.nck (.t 44)),Q 46 (.fa 1 (.t 45)),Q 47 (.ld false 1 (.t 
 46)),Qc 48 0,Q 49 (.nck (.t 48)),Q 50 (.fa 0 (.t 49)),Q 51 (.ld false 1 (.t 50)),Q 52 (.len true (.t 51)),Q 53 (.bin .eql (.t 47) (.t 52))]) (.cond (.t 53) (.exit 1) 
 .skip)) (.seq (.dreg [Qc 55 0,Q 56 (.nck (.t 55)),Q 57 (.fa 0 (.t 56)),Q 58 (.ld false 1 (.t 57)),Qc 59 0,Q 60 (.nck (.t 59)),Q 61 (.fa 1 (.t 60)),Q 62 (.ld false 1 (.t 
 61)),⟨some 63,.call 108 [.t 58,.t 62],none⟩,Qc 54 63,Q 64 (.ext 0 (.t 54)),Q 65 (.ext 1 (.t 54)),Qc 6 64,Qc 7 65]) (.seq (.reg [Qc 66 0,Q 67 (.nck (.t 66)),Q 68 (.fa 1 
 (.t 67)),Q 69 (.ld false 1 (.t 68)),Qc 70 7,Q 71 (.bin .add (.t 69) (.t 70)),Q 72 (.nck (.t 66)),Q 73 (.fa 1 (.t 72)),⟨none,.st 1 (.t 73) (.t 71),none⟩]) (.seq (.seq 
 (.reg [Qc 74 6,Q 75 (.bin .geq (.t 74) (Ki 0))]) (.cond (.t 75) (.reg [Qc 76 3,Qc 77 6,Q 78 (.cvI .u8 (.t 77)),⟨some 79,.bsl 5 1 [.t 78],none⟩,⟨some 80,.app 5 1 1 false 
 (.t 76) (.t 79),none⟩,Qa 3 80]) .skip)) (.exit 1))))) (.seq (.reg [Q 82 (.bin .eql (.t 41) (Kb 40)),Qa 81 82]) (.cond (.t 81) (.reg [Qc 83 4,Q 84 (.bin .add (.t 83) (Ki 1)), 
 Qa 4 84]) (.seq (.reg [Q 86 (.bin .eql (.t 41) (Kb 41)),Qa 85 86]) (.cond (.t 85) (.seq (.reg [Qc 87 4,Q 88 (.bin .sub (.t 87) (Ki 1)),Qa 4 88]) (.seq (.reg [Qc 89 4,Q 90 
 (.bin .eql (.t 89) (Ki 0))]) (.cond (.t 90) (.seq (.reg [Qc 91 3,Q 92 (.b2s (.t 91)),Qa 2 92]) .ret) .skip))) .skip)))))))) (.reg [Qc 93 3,Qc 94 5,⟨some 95,.bsl 5 1 [.t 94], 
 none⟩,⟨some 96,.app 5 1 1 false (.t 93) (.t 95),none⟩,Qa 3 96])))))))) (.seq (.reg [Qc 97 0,Q 98 (.mkI 76 (Ki 5)),⟨some 99,.prim .call [.k (.fn (.func 63) [] []),.t 97, 
 .t 98] [],none⟩]) (.seq (.reg [Qx 2 (.k (.d (.str [])))]) .ret))))))
def q3k:List LRes:=[.tmp 2]
theorem q4S:q0r Tryz.prog 86 100 q3h q3k:=⟨_,_,Tryz.func86,rfl,by kernel_rfl,by kernel_rfl,rfl⟩
theorem j0C(s:List UInt8)(k:Nat)(hs:s.length≤60000)(hk:k<s.length):q7R Tryz.prog 86 [.ptr (.x 0) 0] [robj s k 0]
  (fun r hs'=>match litF 0 1 (s.drop (k+1)) [] (k+1)with
   |some (b,k')=>r=.d (.str b)∧hs'=[robj s k' 0]
   |none=>∃ k':Int,r=.d (.str [])∧hs'=[robj s k' 5]):=by
 generalize hR:litF 0 1 (s.drop (k+1)) [] (k+1)=R; rw[q1M]; refine q4S.q2q (by kernel_rfl) rfl ?_; simp(maxSteps:=2000000)(disch:=omega)only[go_sem,↓reduceIte,q3h,q3k]; refine q0l (fun y:Nat×Nat×List UInt8=>⟨[(0,.ptr (.x 0) 0),(3,.own (.t 3) 5 1 (q0W y.2.2)),(4,.d (.int .i64 y.2.1))],[],[(0,.cells [.d (.str s),.d (.int .i64 y.1),.d .nil])]⟩)
  (fun y=>y.1≤s.length∧y.2.2.length≤y.1∧1≤y.2.1∧y.2.1≤y.1+1∧litF 0 y.2.1 (s.drop y.1) y.2.2 y.1=R) (fun y=>s.length-y.1) (k+1,1,[]) ?_ ?_ ?_
 ·refine Weak.mk ?_ ?_ ?_<;>simp(maxSteps:=2000000)only[go_sem,↓reduceIte,Sub,Int.natCast_add,Int.natCast_mul,q0W]
 ·exact⟨hk,by simp,by simp,by simp,hR⟩
 ·rintro⟨i,d,b⟩ ⟨hi,hb,hd1,hd2,hF⟩; simp only at hi hb hd1 hd2 hF; have hblen:=q6a b; simp(maxSteps:=2000000)only[go_sem,↓reduceIte]; refine⟨fun hlt=>?_,fun hge=>?_⟩
  ·obtain⟨c,hc⟩:=get_some (l:=s) (i:=i) (by omega); have hc8:=q4o c; rw[q05 hc,litF]at hF; simp(maxSteps:=2000000)(disch:=omega)only[go_sem,↓reduceIte,q0a,hc]; refine⟨fun h92=>?_,fun h92=>⟨fun h40=>?_,fun h40=>⟨fun h41=>⟨fun hd0=>?_,fun hd0=>?_⟩,fun h41=>?_⟩⟩⟩
   ·rw[if_pos (by omega)]at hF; refine⟨fun he=>?_,fun he=>?_⟩
    ·rw[if_pos (List.drop_eq_nil_of_le (by omega))]at hF; refine⟨(i+1,d,b),?_,⟨by simp only; omega,by simp only; omega,hd1,by simp only; omega,?_⟩,by simp only; omega⟩
     ·refine Weak.mk ?_ ?_ ?_<;>simp(maxSteps:=2000000)only[go_sem,↓reduceIte,Sub,Int.natCast_add,Int.natCast_mul]
     ·simp only; rw[List.drop_eq_nil_of_le (by omega),litF]; exact hF
    ·have hne:s.drop (i+1)≠[]:=fun e=>by have:=congrArg List.length e; simp at this; omega
     rw[if_neg hne]at hF; have hesc:=z4E s (i+1) hs (by omega); have hen:=j6d hne; rw[List.length_drop]at hen; rw[z47 _ (by rw[List.length_drop]; omega),List.drop_drop]at hF; generalize escL (s.drop (i+1))=X at hesc hen hF; obtain⟨xo,xn⟩:=X; simp only at hesc hen hF; rw[Int.natCast_add,Int.natCast_one]at hesc; refine q5O.of hesc ?_; cases xo with
     |none=>
      simp(maxSteps:=2000000)(disch:=omega)only[go_sem,↓reduceIte,escI]; refine⟨(i+1+xn,d,b),?_,⟨by simp only; omega,by simp only; omega,hd1,by simp only; omega,by simpa using hF⟩,by simp only; omega⟩; refine Weak.mk ?_ ?_ ?_<;>simp(maxSteps:=2000000)only[go_sem,↓reduceIte,Sub,Int.natCast_add,Int.natCast_mul]
     |some x=>
      have hx8:=q4o x; simp(maxSteps:=2000000)(disch:=omega)only[go_sem,↓reduceIte,escI]; refine⟨fun _=>⟨by omega,(i+1+xn,d,b++[x]),?_,⟨by simp only; omega,by simp only[List.length_append,List.length_cons,List.length_nil]; omega,hd1,by simp only; omega,hF⟩,by simp only; omega⟩,fun h=>by exfalso; omega⟩; refine Weak.mk ?_ ?_ ?_<;>simp(maxSteps:=2000000)only[go_sem,↓reduceIte,Sub,Int.natCast_add,Int.natCast_mul,q2t,q5c,q5T]
   ·rw[if_neg (by omega),if_neg (by omega),if_pos (by omega)]at hF; refine⟨by omega,(i+1,d+1,b++[c]),?_,⟨by simp only; omega,by simp only[List.length_append,List.length_cons,List.length_nil]; omega,by simp only; omega,by simp only; omega,hF⟩,by simp only; omega⟩; refine Weak.mk ?_ ?_ ?_<;>simp(maxSteps:=2000000)only[go_sem,↓reduceIte,Sub,Int.natCast_add,Int.natCast_mul,q2t,q5c,q5T]
   ·rw[if_neg (by omega),if_pos (by omega),if_pos (by omega)]at hF; subst hF; simp(maxSteps:=2000000)(disch:=omega)only[go_sem,↓reduceIte,q3o]; simp only[robj,Int.natCast_add,Int.natCast_one]; rfl
   ·rw[if_neg (by omega),if_pos (by omega),if_neg (by omega)]at hF; refine⟨by omega,(i+1,d-1,b++[c]),?_,⟨by simp only; omega,by simp only[List.length_append,List.length_cons,List.length_nil]; omega,by simp only; omega,by simp only; omega,hF⟩,by simp only; omega⟩; have e1:((d-1:Nat):Int)=(d:Int)-1:=by omega
    refine Weak.mk ?_ ?_ ?_<;>simp(maxSteps:=2000000)only[go_sem,↓reduceIte,Sub,Int.natCast_add,Int.natCast_mul,q2t,q5c,q5T,e1]
   ·rw[if_neg (by omega),if_neg (by omega),if_neg (by omega)]at hF; refine⟨by omega,(i+1,d,b++[c]),?_,⟨by simp only; omega,by simp only[List.length_append,List.length_cons,List.length_nil]; omega,by simp only; omega,by simp only; omega,hF⟩,by simp only; omega⟩; refine Weak.mk ?_ ?_ ?_<;>simp(maxSteps:=2000000)only[go_sem,↓reduceIte,Sub,Int.natCast_add,Int.natCast_mul,q2t,q5c,q5T]
  ·rw[List.drop_eq_nil_of_le (by omega),litF]at hF; subst hF; have hf:=z0U s (i:Int) 5; rw[q1M,show errD 5=.iface 76 (.int .i64 5)from rfl]at hf; refine q0c.mc1 (.x 0) rfl (hf) rfl rfl rfl rfl ⟨rfl,rfl⟩ ?_; simp(maxSteps:=2000000)only[go_sem,↓reduceIte,robj]; exact⟨_,rfl⟩
def z6A:Option Nat→Res→Prop
 |some n,r=>r=.tup [.int .i64 n,.bool true]
 |none,r=>∃ n:Int,r=.tup [.int .i64 n,.bool false]
def q7C:q0i:=
 .seq (.reg [Qx 2 (Ki 0),Qx 3 KF]) (.seq (.seq (.reg [Qc 6 0,Q 7 (.bin .eql (.t 6) (.k (.d (.str [])))),Qc 8 7,Qd 9 0 8 false,Qg 10 (.len true (.t 9)) 8 false,Qg 11 (.bin .gtr 
 (.t 10) (Ki 2)) 8 false,Q 12 (.pick (.t 8) KT (.t 11)),Qc 13 12,Qd 14 0 13 false,Qg 15 (.idxS (.t 14) (Ki 0)) 13 false,Qg 16 (.bin .eql (.t 15) (Kb 48)) 13 false,Q 17 
 (.pick (.t 13) KT (.t 16))]) (.cond (.t 17) (.seq (.reg [Qx 2 (Ki 0),Qx 3 KF]) .ret) .skip)) (.seq (.reg [Qx 4 (Ki 0)]) (.seq (.seq (.reg [Qc 18 0,Q 19 (.len true (.t 18)),Q 
 20 (.cp (Ki 0))]) (.block 0 (.loop (.seq (.reg [Q 21 (.bin .lss (.t 20) (.t 19))]) (.seq (.cond (.t 21) .skip (.exit 0)) (.seq (.block 1 (.seq (.reg [Qc 22 20,Qa 5 22]) (.seq 
 (.seq (.reg [Qc 23 0,Qc 24 5,Q 25 (.idxS (.t 23) (.t 24)),Q 26 (.bin .lss (.t 25) (Kb 48)),Qc 27 26,Qd 28 0 27 false,Qd 29 5 27 false,Qg 30 (.idxS (.t 28) (.t 29)) 27 
 false,Qg 31 (.bin .gtr (.t 30) (Kb 57)) 27 false,Q 32 (.pick (.t 27) KT (.t 31))]) (.cond (.t 32) (.seq (.reg [Qx 2 (Ki 0),Qx 3 KF]) .ret) .skip)) (.reg [Qc 33 4,Q 34 (.bin 
 .mul (Ki 10) (.t 33)),Qc 35 0,Qc 36 5,Q 37 (.idxS (.t 35) (.t 36)),Q 38 (.bin .sub (.t 37) (Kb 48)),Q 39 (.cvI .i64 (.t 38)),Q 40 (.bin .add (.t 34) (.t 39)),Qa 4 40])))) 
 (.reg [Q 41 (.bin .add (.t 20) (Ki 1)),Qc 20 41]))))))) (.seq (.reg [Qc 42 4,Qc 43 4,Q 44 (.bin .leq (.t 43) (Ki 60)),Qa 2 42,Qa 3 44]) .ret))))
def q7F:List LRes:=[.tmp 2,.tmp 3]
theorem q9o:q0r Tryz.prog 131 45 q7C q7F:=⟨_,_,Tryz.func131,rfl,by kernel_rfl,by kernel_rfl,rfl⟩
theorem z6B(w:List UInt8)(hw:w.length≤60000):q0s Tryz.prog 131 [.str w] (z6A (objF w)):=by
 generalize hR:objF w=R; have bad:R=none→∀ n:Int,z6A R (.tup [.int .i64 n,.bool false]):=fun e n=>by subst e; exact⟨n,rfl⟩
 refine q9o.call rfl ?_; simp(maxSteps:=2000000)only[go_sem,↓reduceIte,q7C,q7F]; refine⟨fun h1=>⟨fun h2=>?_,fun h2=>bad (by rw[← hR,objF,if_pos (by omega)]) 0⟩,fun h1=>bad (by rw[← hR,objF,if_pos (by rw[h1]; simp)]) 0⟩; have hlen:1≤w.length:=by cases w with|nil=>exact absurd rfl h1|cons a r=>simp
 obtain⟨c0,hc0⟩:=get_some (l:=w) (i:=0) (by omega); have g0:getI w 0=some c0:=by rw[← hc0]; exact q0a w 0
 have hd0:w.head?=some c0:=by rw[← hc0]; cases w<;>rfl
 simp(maxSteps:=2000000)only[go_sem,↓reduceIte,g0]; refine⟨fun h3=>bad (by rw[← hR,objF,if_pos (.inr (.inr (by rw[hd0]; simp; omega)))]) 0,fun h3=>?_⟩; have ho:objF w=match digF w 0 with
  |none=>none
  |some n=>if n≤60 then some n else none:=by rw[objF,if_neg (by rw[hd0]; simp only[Option.map_some,Option.some.injEq]; omega)]<;>rfl
 rw[ho]at hR; refine q0l (fun y:Nat×Nat=>⟨[(0,.d (.str w)),(4,.d (.int .i64 y.2)),(19,.d (.int .i64 w.length)),(20,.d (.int .i64 y.1))],[],[]⟩)
  (fun y=>y.1≤w.length∧(y.1=0→y.2=0)∧(y.1=1→y.2≤9)∧y.2≤99∧digF (w.drop y.1) y.2=digF w 0) (fun y=>w.length-y.1) (0,0) ?_ ?_ ?_
 ·refine q0d ?_ trivial; simp(maxSteps:=2000000)only[go_sem,↓reduceIte,Sub,Int.natCast_add,Int.natCast_mul]
 ·exact⟨by simp,by simp,by simp,by simp,rfl⟩
 ·rintro⟨i,n⟩ ⟨hi,hn0,hn1,hn2,hF⟩; simp only at hi hn0 hn1 hn2 hF; simp(maxSteps:=2000000)only[go_sem,↓reduceIte]; refine⟨fun hlt=>?_,fun hge=>?_⟩
  ·obtain⟨c,hc⟩:=get_some (l:=w) (i:=i) (by omega); have hc8:=q4o c; rw[q05 hc,digF]at hF; have nodig:(c.toNat<48∨57<c.toNat)→R=none:=fun h=>by
    rw[if_pos h]at hF; rw[← hF]at hR; exact hR.symm
   simp(maxSteps:=2000000)only[go_sem,↓reduceIte,q0a,hc]; refine⟨fun h4=>⟨fun h5=>bad (nodig (by omega)) 0,fun h5=>?_⟩,fun h4=>bad (nodig (by omega)) 0⟩; simp(maxSteps:=2000000)(disch:=omega)only[go_sem,↓reduceIte,q0a,hc]; rw[if_neg (by omega)]at hF; refine⟨(i+1,10*n+(c.toNat-48)),?_,⟨by simp only; omega,by simp only; omega,by simp only; omega,by simp only; omega,hF⟩,by simp only; omega⟩; have zz:decide (57<(c.toNat:Int))=false:=by simpa using h5
   refine q0d ?_ trivial; simp(maxSteps:=2000000)only[go_sem,↓reduceIte,Sub,Int.natCast_add,Int.natCast_mul,zz]; all_goals((repeat' apply And.intro)<;>(congr 2<;>omega))
  ·rw[List.drop_eq_nil_of_le (by omega),digF]at hF; rw[← hF]at hR; simp only at hR
   by_cases h6:n≤60
   ·rw[if_pos h6]at hR; subst hR; have z:((n:Int)≤60)=True:=eq_true (by omega); simp(maxSteps:=2000000)only[go_sem,↓reduceIte,z]; rfl
   ·rw[if_neg h6]at hR; have z:((n:Int)≤60)=False:=eq_false (by omega); simp(maxSteps:=2000000)only[go_sem,↓reduceIte,z]; exact bad hR.symm _
def j1p(s:List UInt8)(k:Nat):Option (Nat×Nat)→AV→List AObj→Prop
 |some (n,k'),r,hs=>r=.tuple [.d (.int .i64 n),.d (.bool true)]∧hs=[robj s k' 0]
 |none,r,hs=>∃ n:Int,r=.tuple [.d (.int .i64 n),.d (.bool false)]∧hs=[robj s k 0]
def q4u:q0i:=
 .seq (.reg [Qx 2 (Ki 0),Qx 3 KF]) (.seq (.dreg [Qc 8 0,Q 9 (.nck (.t 8)),Q 10 (.fa 0 (.t 9)),Q 11 (.ld false 1 (.t 10)),Qc 12 0,Q 13 (.nck (.t 12)),Q 14 (.fa 1 (.t 13)),Q 
 15 (.ld false 1 (.t 14)),⟨some 16,.call 36 [.t 11,.t 15],none⟩,Qa 4 16]) (.seq (.reg [Qc 18 4,⟨some 19,.call 131 [.t 18],none⟩,Qc 17 19,Q 20 (.ext 0 (.t 17)),Q 21 
 (.ext 1 (.t 17)),Qa 5 20,Qa 6 21]) (.seq (.dreg [Qc 22 0,Q 23 (.nck (.t 22)),Q 24 (.fa 0 (.t 23)),Q 25 (.ld false 1 (.t 24)),Qc 26 0,Q 27 (.nck (.t 26)),Q 28 (.fa 1 (.t 
 27)),Q 29 (.ld false 1 (.t 28)),Qc 30 4,Q 31 (.len true (.t 30)),Q 32 (.bin .add (.t 29) (.t 31)),⟨some 33,.call 35 [.t 25,.t 32],none⟩,Qa 7 33]) (.seq (.seq (.reg [Qc 
 34 6,Q 35 (.not (.t 34)),Qc 36 35,Qd 37 0 36 false,Qg 38 (.nck (.t 37)) 36 false,Qg 39 (.fa 0 (.t 38)) 36 false,Qg 40 (.ld false 1 (.t 39)) 36 false,Qd 41 7 36 false, 
 ⟨some 42,.call 36 [.t 40,.t 41],some (36,false)⟩,Qg 43 (.bin .neq (.t 42) (.k (.d (.str [48])))) 36 false,Q 44 (.pick (.t 36) KT (.t 43))]) (.cond (.t 44) (.seq (.reg [Qx 2 
 (Ki 0),Qx 3 KF]) .ret) .skip)) (.seq (.reg [Qc 45 0,Q 46 (.nck (.t 45)),Q 47 (.fa 0 (.t 46)),Q 48 (.ld false 1 (.t 47)),Qc 49 7,Q 50 (.bin .add (.t 49) (Ki 1)),⟨some 51, 
 .call 35 [.t 48,.t 50],none⟩,Qa 7 51]) (.seq (.seq (.reg [Qc 52 0,Q 53 (.nck (.t 52)),Q 54 (.fa 0 (.t 53)),Q 55 (.ld false 1 (.t 54)),Qc 56 7,⟨some 57,.call 36 [.t 55, 
 .t 56],none⟩,Q 58 (.bin .neq (.t 57) (.k (.d (.str [82]))))]) (.cond (.t 58) (.seq (.reg [Qx 2 (Ki 0),Qx 3 KF]) .ret) .skip)) (.seq (.reg [Qc 59 0,Qc 60 7,Q 61 (.bin .add 
 (.t 60) (Ki 1)),Q 62 (.nck (.t 59)),Q 63 (.fa 1 (.t 62)),⟨none,.st 1 (.t 63) (.t 61),none⟩]) (.seq (.reg [Qc 64 5,Qa 2 64,Qx 3 KT]) .ret))))))))
def q4w:List LRes:=[.tmp 2,.tmp 3]
theorem q50:q0r Tryz.prog 112 65 q4u q4w:=⟨_,_,Tryz.func112,rfl,by kernel_rfl,by kernel_rfl,rfl⟩
theorem j1o(s:List UInt8)(k:Nat)(hs:s.length≤60000)(hk:k≤s.length):q7R Tryz.prog 112 [.ptr (.x 0) 0] [robj s k 0] (j1p s k (z5s s k)):=by
 have hwl:=q30 s k; generalize hR:z5s s k=R; unfold z5s at hR; have hw:=q59 s ((k:Nat):Int) (by omega); rw[q3S hk]at hw; generalize q2x s k=w at *; have hob:=z6B w (by omega); have bad:R=none→∀ n:Int,j1p s k R (.tuple [.d (.int .i64 n),.d (.bool false)]) [robj s k 0]:=fun e n=>by rw[e]; exact⟨n,rfl,rfl⟩
 have hw1:=q55 s ((k:Int)+(w.length:Int)) (by omega); have hcl:q5x s ((k:Int)+(w.length:Int))=k+w.length:=by rw[show(k:Int)+(w.length:Int)=((k+w.length:Nat):Int) by omega,q3S (by omega)]
 rw[hcl]at hw1; have hi1:=q4r (s:=s) (k:=k+w.length) (by omega); rw[q1M]; refine q50.q2q (by kernel_rfl) rfl ?_; simp(maxSteps:=2000000)only[go_sem,↓reduceIte,q4u,q4w]; refine q5O.of hw ?_; simp(maxSteps:=2000000)only[go_sem,↓reduceIte]; refine q0g.post hob (fun r hr=>?_); cases ho:objF w with
 |none=>
  rw[ho]at hr hR; obtain⟨n,rfl⟩:=hr; simp(maxSteps:=2000000)(disch:=omega)only[go_sem,↓reduceIte]; refine q5O.of hw1 ?_; simp(maxSteps:=2000000)only[go_sem,↓reduceIte]; exact bad hR.symm 0
 |some n=>
  rw[ho]at hr hR; simp only[z6A]at hr; subst hr; simp(maxSteps:=2000000)(disch:=omega)only[go_sem,↓reduceIte]; refine q5O.of hw1 ?_; simp only at hR; generalize q3t s (k+w.length)=q at *; have hw2:=q59 s ((q:Nat):Int) (by omega); rw[q3S (by omega)]at hw2; simp(maxSteps:=2000000)only[go_sem,↓reduceIte]; refine q0g.of hw2 ?_; simp(maxSteps:=2000000)only[go_sem,↓reduceIte]; refine⟨fun h5=>bad (by rw[← hR,if_neg h5]) 0,fun h5=>?_⟩; rw[if_pos h5]at hR; have hql:q<s.length:=by
   rcases Nat.lt_or_ge q s.length with h|h
   ·exact h
   ·unfold q2x at h5; rw[List.drop_eq_nil_of_le h]at h5; cases h5
  have hw3:=q55 s ((q:Int)+1) (by omega); rw[show q5x s ((q:Int)+1)=q+1 by rw[show(q:Int)+1=((q+1:Nat):Int) by omega,q3S (by omega)]]at hw3; have hj1:=q4r (s:=s) (k:=q+1) (by omega); generalize q3t s (q+1)=j at *; have hw4:=q59 s ((j:Nat):Int) (by omega); rw[q3S (by omega)]at hw4; rw[IntWalk.i64_in _ (by omega)]; refine q0g.of hw3 ?_; simp(maxSteps:=2000000)only[go_sem,↓reduceIte]; refine q0g.of hw4 ?_; simp(maxSteps:=2000000)only[go_sem,↓reduceIte]
  refine⟨fun h6=>bad (by rw[← hR,if_neg h6]) 0,fun h6=>?_⟩; rw[if_pos h6]at hR; simp(disch:=omega)only[IntWalk.i64_in,IntWalk.u8_in]; subst hR; exact⟨rfl,by simp only[robj,Int.natCast_add,Int.natCast_one]; rfl⟩
/-! ### Words -/
def z2S(s:List UInt8):RV→AV→List AObj→Prop
 |.ok v k,r,hs=>r=.d v.d∧hs=[robj s k 0]
 |.bad e,r,hs=>∃(v:Val) (k:Int),r=.d v.d∧hs=[robj s k e]
theorem z1w{s:List UInt8}{v:Val}{k:Nat}{R:RV}(h:R=.ok v k):z2S s R (.d v.d) [robj s k 0]:=by subst h; exact⟨rfl,rfl⟩
theorem q40{s:List UInt8}{e:Nat}(v:Val)(k:Int){R:RV}(h:R=.bad e):z2S s R (.d v.d) [robj s k e]:=by subst h; exact⟨v,k,rfl,rfl⟩
def q36:q0i:=
 .seq (.reg [⟨some 2,.allo [.int .i64 0,.int .i64 0,.str [],.list [],.list []],none⟩]) (.seq (.dreg [Qc 8 0,Q 9 (.nck (.t 8)),Q 10 (.fa 0 (.t 9)),Q 11 (.ld false 1 (.t 
 10)),Qc 12 0,Q 13 (.nck (.t 12)),Q 14 (.fa 1 (.t 13)),Q 15 (.ld false 1 (.t 14)),⟨some 16,.call 36 [.t 11,.t 15],none⟩,Qa 3 16]) (.seq (.seq (.reg [Qc 17 3]) (.block 0 
 (.seq (.reg [Q 19 (.bin .eql (.t 17) (.k (.d (.str [110,117,108,108])))),Qa 18 19]) (.cond (.t 18) (.seq (.reg [Qc 20 0,Q 21 (.nck (.t 20)),Q 22 (.fa 1 (.t 21)),Q 23 (.ld 
 false 1 (.t 22)),Q 24 (.bin .add (.t 23) (Ki 4)),Q 25 (.nck (.t 20)),Q 26 (.fa 1 (.t 25)),⟨none,.st 1 (.t 26) (.t 24),none⟩]) (.seq (.reg [Q 27 (.bld [(0,1),(1,1),(2, 
 1),(3,1),(4,1)] [.int .i64 0,.int .i64 0,.str [],.list [],.list []] [] []),⟨none,.st 5 (.t 2) (.t 27),none⟩]) .ret)) (.seq (.reg [Q 29 (.bin .eql (.t 17) (.k (.d (.str 
 [116,114,117,101])))),Qa 28 29]) (.cond (.t 28) (.seq (.reg [Qc 30 0,Q 31 (.nck (.t 30)),Q 32 (.fa 1 (.t 31)),Q 33 (.ld false 1 (.t 32)),Q 34 (.bin .add (.t 33) (Ki 4)), 
 Q 35 (.nck (.t 30)),Q 36 (.fa 1 (.t 35)),⟨none,.st 1 (.t 36) (.t 34),none⟩]) (.seq (.reg [Q 37 (.bld [(0,1),(1,1),(2,1),(3,1),(4,1)] [.int .i64 0,.int .i64 0,.str 
 [],.list [],.list []] [false,false,false,true,true] [(0,.k (.d (.int .i64 1))),(1,.k (.d (.int .i64 1)))]),⟨none,.st 5 (.t 2) (.t 37),none⟩]) .ret)) (.seq (.reg [Q 39 
 (.bin .eql (.t 17) (.k (.d (.str [102,97,108,115,101])))),Qa 38 39]) (.cond (.t 38) (.seq (.reg [Qc 40 0,Q 41 (.nck (.t 40)),Q 42 (.fa 1 (.t 41)),Q 43 (.ld false 1 (.t 
 42)),Q 44 (.bin .add (.t 43) (Ki 5)),Q 45 (.nck (.t 40)),Q 46 (.fa 1 (.t 45)),⟨none,.st 1 (.t 46) (.t 44),none⟩]) (.seq (.reg [Q 47 (.bld [(0,1),(1,1),(2,1),(3,1), 
 (4,1)] [.int .i64 0,.int .i64 0,.str [],.list [],.list []] [false,false,false,true,true] [(0,.k (.d (.int .i64 1)))]),⟨none,.st 5 (.t 2) (.t 47),none⟩]) .ret)) 
 .skip)))))))) (.seq (.reg [Qc 49 0,⟨some 50,.prim .call [.k (.fn (.func 112) [] []),.t 49] [],none⟩,Qc 48 50,Q 51 (.ext 0 (.t 48)),Q 52 (.ext 1 (.t 48)),Qa 4 51,Qa 5 
 52]) (.seq (.seq (.reg [Qc 53 5]) (.cond (.t 53) (.seq (.reg [Qc 54 4,Q 55 (.bld [(0,1),(1,1),(2,1),(3,1),(4,1)] [.int .i64 0,.int .i64 0,.str [],.list [],.list []] 
 [false,false,false,true,true] [(0,.k (.d (.int .i64 7))),(1,.t 54)]),⟨none,.st 5 (.t 2) (.t 55),none⟩]) .ret) .skip)) (.seq (.reg [Qc 57 3,⟨some 58,.call 113 [.t 57], 
 none⟩,Qc 56 58,Q 59 (.ext 0 (.t 56)),Q 60 (.ext 1 (.t 56)),Qa 6 59,Qa 7 60]) (.seq (.seq (.reg [Qc 61 7,Q 62 (.eqN 0 true (.t 61))]) (.cond (.t 62) (.seq (.reg [Qc 63 0,Qc 
 64 7,⟨some 65,.prim .call [.k (.fn (.func 63) [] []),.t 63,.t 64] [],none⟩]) (.seq (.reg [Q 66 (.bld [(0,1),(1,1),(2,1),(3,1),(4,1)] [.int .i64 0,.int .i64 0,.str 
 [],.list [],.list []] [] []),⟨none,.st 5 (.t 2) (.t 66),none⟩]) .ret)) .skip)) (.seq (.reg [Qc 67 0,Q 68 (.nck (.t 67)),Q 69 (.fa 1 (.t 68)),Q 70 (.ld false 1 (.t 69)), 
 Qc 71 3,Q 72 (.len true (.t 71)),Q 73 (.bin .add (.t 70) (.t 72)),Q 74 (.nck (.t 67)),Q 75 (.fa 1 (.t 74)),⟨none,.st 1 (.t 75) (.t 73),none⟩]) (.seq (.reg [Qc 76 6,Q 77 
 (.bld [(0,1),(1,1),(2,1),(3,1),(4,1)] [.int .i64 0,.int .i64 0,.str [],.list [],.list []] [false,false,false,true,true] [(0,.k (.d (.int .i64 2))),(1,.t 
 76)]),⟨none,.st 5 (.t 2) (.t 77),none⟩]) .ret))))))))
def q4c:List LRes:=[.cell 2 true 5]
theorem q5J:q0r Tryz.prog 91 78 q36 q4c:=⟨_,_,Tryz.func91,rfl,by kernel_rfl,by kernel_rfl,rfl⟩
theorem z84(s:List UInt8)(k:Nat)(hs:s.length≤60000)(hk:k≤s.length):q7R Tryz.prog 91 [.ptr (.x 0) 0] [robj s k 0] (z2S s (z83 s k)):=by
 have hwl:=q30 s k; generalize hR:z83 s k=R; unfold z83 at hR; have hw:=q59 s ((k:Nat):Int) (by omega); rw[q3S hk]at hw; have hrf:=j1o s k hs hk; have hfx:=z8J (q2x s k) (by omega); have good:∀(a b:Int) (t:List UInt8) (m:Int),R=.ok (Val.mk a b t [] []) m.toNat→0≤m→z2S s R (.d (.agg [.int .i64 a,.int .i64 b,.str t,.list [],.list []])) [.cells [.d (.str s),.d (.int .i64 m),.d .nil]]:=fun a b t m he hm=>by
  have:=z1w (s:=s) he; rwa [kmk,q1M,show((m.toNat:Nat):Int)=m by omega]at this
 generalize q2x s k=w at *; rw[q1M]at hrf ⊢; refine q5J.q2q (by kernel_rfl) rfl ?_; simp(maxSteps:=2000000)only[go_sem,↓reduceIte,q36,q4c]; refine q5O.of hw ?_; simp(maxSteps:=2000000)(disch:=omega)only[go_sem,↓reduceIte]; refine⟨fun w1=>?_,fun w1=>⟨fun w2=>?_,fun w2=>⟨fun w3=>?_,fun w3=>?_⟩⟩⟩
 ·rw[if_pos w1]at hR; exact good 0 0 [] (k+4) (by rw[← hR]; congr 1) (by omega)
 ·rw[if_neg w1,if_pos w2]at hR; exact good 1 1 [] (k+4) (by rw[← hR]; congr 1) (by omega)
 ·rw[if_neg w1,if_neg w2,if_pos w3]at hR; exact good 1 0 [] (k+5) (by rw[← hR]; congr 1) (by omega)
 ·rw[if_neg w1,if_neg w2,if_neg w3]at hR; refine q0c.mp1 (.x 0) rfl (hrf) rfl rfl rfl rfl (fun r hs' hr=>?_); cases hra:z5s s k with
  |some p=>
   obtain⟨n,kn⟩:=p; rw[hra]at hR hr; obtain⟨rfl,rfl⟩:=hr; refine⟨⟨rfl,rfl⟩,?_⟩; simp(maxSteps:=2000000)only[go_sem,↓reduceIte,robj,errD]; exact good 7 n [] kn (by rw[← hR]; rfl) (by omega)
  |none=>
   rw[hra]at hR hr; obtain⟨n,rfl,rfl⟩:=hr; refine⟨⟨rfl,rfl⟩,?_⟩; simp(maxSteps:=2000000)only[go_sem,↓reduceIte,robj,errD]; refine q0g.of hfx ?_; simp only[resP]; generalize q6r w=F at hR; obtain⟨fn,fc⟩:=F; simp only at hR
   by_cases f0:fc=0
   ·subst f0; rw[if_pos rfl]at hR; rw[show errD 0=.nil from rfl]; simp(maxSteps:=2000000)(disch:=omega)only[go_sem,↓reduceIte]; exact good 2 fn [] _ (by rw[← hR]; congr 1) (by omega)
   ·rw[if_neg f0]at hR; rw[q13 f0]; have hf:=z0U s (k:Int) fc; rw[q1M,q13 f0]at hf; simp(maxSteps:=2000000)only[go_sem,↓reduceIte]; refine q0c.mc1 (.x 0) rfl (hf) rfl rfl rfl rfl ⟨rfl,rfl⟩ ?_; simp(maxSteps:=2000000)only[go_sem,↓reduceIte,robj]; have:=q40 (s:=s) zeroV (k:Int) hR.symm; rwa [Val.d_eq]at this
theorem z8q{s:List UInt8}{k:Nat}{c:UInt8}{x:UInt8}(h:s[k]?=some c):q6U (s.drop k) [x]=decide (c=x):=by
 rw[q05 h]; simp[q6U]
def zD:D:=.agg [.int .i64 0,.int .i64 0,.str [],.list [],.list []]
def q3M:q0i:=
 .seq (.reg [⟨some 4,.allo [.int .i64 0,.int .i64 0,.str [],.list [],.list []],none⟩]) (.seq (.reg [Qc 6 0,⟨some 7,.prim .call [.k (.fn (.func 83) [] []),.t 6] [],none⟩, 
 Qa 5 7]) (.seq (.seq (.reg [Qc 8 1,Q 9 (.bin .gtr (.t 8) (Ki 8))]) (.cond (.t 9) (.reg [Qc 10 0,Q 11 (.mkI 76 (Ki 2)),⟨some 12,.prim .call [.k (.fn (.func 63) [] []),.t 10, 
 .t 11] [],none⟩]) .skip)) (.seq (.seq (.reg [Qc 13 0,Q 14 (.nck (.t 13)),Q 15 (.fa 2 (.t 14)),Q 16 (.ld false 1 (.t 15)),Q 17 (.eqN 0 true (.t 16))]) (.cond (.t 17) (.seq 
 (.reg [Q 18 (.bld [(0,1),(1,1),(2,1),(3,1),(4,1)] [.int .i64 0,.int .i64 0,.str [],.list [],.list []] [] []),⟨none,.st 5 (.t 4) (.t 18),none⟩]) .ret) .skip)) 
 (.seq (.block 0 (.seq (.reg [Qc 20 5,Q 21 (.bin .eql (.t 20) (Kb 47)),Qa 19 21]) (.cond (.t 19) (.seq (.reg [Qc 22 0,⟨some 23,.prim .call [.k (.fn (.func 84) [] []),.t 22] 
 [],none⟩,Q 24 (.bld [(0,1),(1,1),(2,1),(3,1),(4,1)] [.int .i64 0,.int .i64 0,.str [],.list [],.list []] [false,false,false,true,true] [(0,.k (.d (.int .i64 
 4))),(2,.t 23)]),⟨none,.st 5 (.t 4) (.t 24),none⟩]) .ret) (.seq (.reg [Qc 26 5,Q 27 (.bin .eql (.t 26) (Kb 40)),Qa 25 27]) (.cond (.t 25) (.seq (.reg [Qc 28 0,Qc 29 0, 
 ⟨some 30,.prim .call [.k (.fn (.func 86) [] []),.t 29] [],none⟩,⟨some 31,.prim .call [.k (.fn (.func 85) [] []),.t 28,.t 30] [],none⟩,⟨none,.st 5 (.t 4) (.t 31), 
 none⟩]) .ret) (.seq (.reg [Qc 33 0,⟨some 34,.prim .call [.k (.fn (.func 87) [] []),.t 33,.k (.d (.str [60,60]))] [],none⟩,Qa 32 34]) (.cond (.t 32) (.seq (.reg [Qc 35 0, 
 Qc 36 1,⟨some 37,.prim .call [.k (.fn (.func 88) [] []),.t 35,.t 36] [],none⟩,⟨none,.st 5 (.t 4) (.t 37),none⟩]) .ret) (.seq (.reg [Qc 39 5,Q 40 (.bin .eql (.t 39) (Kb 
 60)),Qa 38 40]) (.cond (.t 38) (.seq (.reg [Qc 41 0,Qc 42 0,⟨some 43,.prim .call [.k (.fn (.func 89) [] []),.t 42] [],none⟩,⟨some 44,.prim .call [.k (.fn (.func 85) [] 
 []),.t 41,.t 43] [],none⟩,⟨none,.st 5 (.t 4) (.t 44),none⟩]) .ret) (.seq (.reg [Qc 46 0,⟨some 47,.prim .call [.k (.fn (.func 87) [] []),.t 46,.k (.d (.str [91]))] [], 
 none⟩,Qa 45 47]) (.cond (.t 45) (.seq (.reg [Qc 48 0,Qc 49 1,⟨some 50,.prim .call [.k (.fn (.func 90) [] []),.t 48,.t 49] [],none⟩,⟨none,.st 5 (.t 4) (.t 50),none⟩]) 
 .ret) (.seq (.reg [Qc 52 5,⟨some 53,.call 61 [.t 52],none⟩,Qa 51 53]) (.cond (.t 51) (.seq (.reg [Qc 54 0,Q 55 (.mkI 76 (Ki 4)),⟨some 56,.prim .call [.k (.fn (.func 63) [] 
 []),.t 54,.t 55] [],none⟩]) (.seq (.reg [Q 57 (.bld [(0,1),(1,1),(2,1),(3,1),(4,1)] [.int .i64 0,.int .i64 0,.str [],.list [],.list []] [] []),⟨none,.st 5 (.t 
 4) (.t 57),none⟩]) .ret)) .skip))))))))))))) (.seq (.reg [Qc 58 0,⟨some 59,.prim .call [.k (.fn (.func 91) [] []),.t 58] [],none⟩,⟨none,.st 5 (.t 4) (.t 59),none⟩]) 
 .ret)))))
def q3O:List LRes:=[.cell 4 true 5]
theorem q5q:q0r Tryz.prog 62 60 q3M q3O:=⟨_,_,Tryz.func62,rfl,by kernel_rfl,by kernel_rfl,rfl⟩
theorem z8r{s:List UInt8}{k:Nat}{c:UInt8}{x y:UInt8}(h:s[k]?=some c):q6U (s.drop k) [x,y]=(decide (c=x)&&decide (s[k+1]?=some y)):=by
 rw[q05 h]; simp only[q6U,List.length_cons,List.length_nil,List.take_succ_cons]; cases hd:s[k+1]? with
 |none=>
  rw[List.drop_eq_nil_of_le (List.getElem?_eq_none_iff.1 hd)]; simp
 |some d=>
  rw[q05 hd]; simp
theorem z4e:zeroV.d=.agg [.int .i64 0,.int .i64 0,.str [],.list [],.list []]:=by rw[Val.d_eq]; rfl
theorem z8K{s:List UInt8}{R:RV}{r:AV}{hs:List AObj}(h:z2S s R r hs):∃(v:Val) (k:Int) (e:Nat),r=.d (.agg [.int .i64 v.kind,.int .i64 v.n,.str v.s,.list (q0K v.l),.list (q3w v.f)])∧hs=[.cells [.d (.str s),.d (.int .i64 k),.d (errD e)]]:=by
 cases R with
 |ok v k=>obtain⟨rfl,rfl⟩:=h; exact⟨v,k,0,by rw[Val.d_eq],rfl⟩
 |bad e=>obtain⟨v,k,rfl,rfl⟩:=h; exact⟨v,k,e,by rw[Val.d_eq],rfl⟩
def topP:RV→Res
 |.ok v k=>.tup [v.d,.int .i64 k,.nil]
 |.bad e=>.tup [zeroV.d,.int .i64 0,errD e]
def q8e:q0i:=
 .seq (.reg [⟨some 4,.allo [.int .i64 0,.int .i64 0,.str [],.list [],.list []],none⟩,Qx 5 (Ki 0),Qx 6 (.k (.d .nil))]) (.seq (.seq (.reg [Qc 9 0,Q 10 (.len true (.t 9)),Q 
 11 (.bin .gtr (.t 10) (Ki 60000)),Qc 12 11,Qd 13 1 12 false,Qg 14 (.bin .lss (.t 13) (Ki 0)) 12 false,Q 15 (.pick (.t 12) KT (.t 14)),Qc 16 15,Qd 17 1 16 false,Qd 18 0 16 
 false,Qg 19 (.len true (.t 18)) 16 false,Qg 20 (.bin .gtr (.t 17) (.t 19)) 16 false,Q 21 (.pick (.t 16) KT (.t 20))]) (.cond (.t 21) (.seq (.reg [Q 22 (.bld [(0,1),(1,1), 
 (2,1),(3,1),(4,1)] [.int .i64 0,.int .i64 0,.str [],.list [],.list []] [] []),Q 23 (.mkI 76 (Ki 1)),⟨none,.st 5 (.t 4) (.t 22),none⟩,Qx 5 (Ki 0),Qa 6 23]) .ret) 
 .skip)) (.seq (.reg [Qc 24 0,Qc 25 1,Q 26 (.bld [(0,1),(1,1),(2,1)] [.str [],.int .i64 0,.nil] [] [(0,.t 24),(1,.t 25)]),⟨some 27,.box (.t 26),none⟩,Qa 7 27]) 
 (.seq (.reg [Qc 28 7,⟨some 29,.prim .call [.k (.fn (.func 62) [] []),.t 28,.k (.d (.int .i64 1))] [],none⟩,⟨some 8,.allo [.int .i64 0,.int .i64 0,.str [],.list [], 
 .list []],none⟩,⟨none,.st 5 (.t 8) (.t 29),none⟩]) (.seq (.seq (.reg [Qc 30 7,Q 31 (.nck (.t 30)),Q 32 (.fa 2 (.t 31)),Q 33 (.ld false 1 (.t 32)),Q 34 (.eqN 0 false (.t 
 33))]) (.cond (.t 34) (.reg [Qc 35 7,Q 36 (.ld true 5 (.t 8)),⟨some 37,.call 34 [.t 36],none⟩,⟨some 38,.prim .call [.k (.fn (.func 63) [] []),.t 35,.t 37] [],none⟩]) 
 .skip)) (.seq (.seq (.reg [Qc 39 7,Q 40 (.nck (.t 39)),Q 41 (.fa 2 (.t 40)),Q 42 (.ld false 1 (.t 41)),Q 43 (.eqN 0 true (.t 42))]) (.cond (.t 43) (.seq (.dreg [Q 44 (.bld 
 [(0,1),(1,1),(2,1),(3,1),(4,1)] [.int .i64 0,.int .i64 0,.str [],.list [],.list []] [] []),Qc 45 7,Q 46 (.nck (.t 45)),Q 47 (.fa 2 (.t 46)),Q 48 (.ld false 1 (.t 
 47)),⟨none,.stC 5 (.t 4) (.t 44) [(45,.cp (.t 7)),(46,.nck (.t 45)),(47,.fa 2 (.t 46)),(48,.ld false 1 (.t 47))],none⟩,Q 5 (.cp (Ki 0)),Qc 6 48]) .ret) .skip)) (.seq 
 (.dreg [Q 49 (.ld true 5 (.t 8)),Qc 50 7,Q 51 (.nck (.t 50)),Q 52 (.fa 1 (.t 51)),Q 53 (.ld false 1 (.t 52)),⟨none,.stC 5 (.t 4) (.t 49) [(50,.cp (.t 7)),(51,.nck (.t 
 50)),(52,.fa 1 (.t 51)),(53,.ld false 1 (.t 52))],none⟩,Qc 5 53,Q 6 (.cp (.k (.d .nil)))]) .ret))))))
def q8k:List LRes:=[.cell 4 true 5,.tmp 5,.tmp 6]
theorem z0j:q0r Tryz.prog 38 54 q8e q8k:=⟨_,_,Tryz.func38,rfl,by kernel_rfl,by kernel_rfl,rfl⟩
def fltF(s:List UInt8)(at_:Nat):RV:=
 match s[q3t s at_]? with
 |none=>.bad 5
 |some c=>
  if c.toNat=47 then(match q93 s (q3t s at_)with
   |none=>.bad 4
   |some (b,k)=>.ok (namV b) k)
  else if c.toNat=40 then j2R s (q3t s at_+1)
  else if q82 c=true then .bad 4
  else z83 s (q3t s at_)
def q84(s:List UInt8)(at_:Int):RV:=
 if 60000<s.length∨at_<0∨(s.length:Int)<at_ then .bad 1
 else match fltF s at_.toNat with
  |.bad e=>.bad e
  |.ok v k=>if q6n v=0 then .ok v k else .bad (q6n v)
def Flt(s:List UInt8):Prop:=∀ c∈s,c.toNat≠60∧c.toNat≠91
theorem z0V(s:List UInt8)(at_:Nat)(ha:at_≤s.length):match fltF s at_ with
  |.ok v k=>at_<k∧k≤s.length∧v.sm 300=true
  |.bad e=>1≤e∧e≤8:=by
 have hsk:=q4r ha; have one:∀{R:RV} {q:Nat},at_≤q→(match R with
   |.ok v k=>q<k∧k≤s.length∧v.sm 300=true∧(ptV v).1=1
   |.bad e=>1≤e∧e≤8)→match R with
   |.ok v k=>at_<k∧k≤s.length∧v.sm 300=true
   |.bad e=>1≤e∧e≤8:=fun{R q} hq h=>by
  cases R with
  |bad e=>exact h
  |ok v k=>obtain⟨h1,h2,h3,h4⟩:=h; exact⟨by omega,h2,h3⟩
 unfold fltF; cases hc:s[q3t s at_]? with
 |none=>exact⟨by decide,by decide⟩
 |some c=>
  have hlt:q3t s at_<s.length:=(List.getElem?_eq_some_iff.1 hc).1; simp only
  by_cases c47:c.toNat=47
  ·rw[if_pos c47]; cases hn:q93 s (q3t s at_)with
   |none=>exact⟨by decide,by decide⟩
   |some p=>
    obtain⟨b,k⟩:=p; obtain⟨n1,n2,n3,_⟩:=z6w hlt hn; exact⟨by omega,n2,Val.q68.2 ⟨by simp only[namV,Val.s]; omega,by simp[namV,Val.l],by simp[namV,Val.f],by simp[namV,Val.l],by simp[namV,Val.f]⟩⟩
  ·rw[if_neg c47]
   by_cases c40:c.toNat=40
   ·rw[if_pos c40]; exact one (by omega) (z8v (by omega))
   ·rw[if_neg c40]
    by_cases hs:q82 c=true
    ·rw[if_pos hs]; exact⟨by decide,by decide⟩
    ·rw[if_neg hs]; exact one (by omega) (z86 hsk.2)
theorem j1Q{s:List UInt8}{a n:Nat}{v:Val}(h:q84 s a=.ok v n):a<n∧n≤s.length∧v.sm 1048576=true:=by
 unfold q84 at h; split at h
 ·cases h
 ·rename_i hc; have hg:=z0V s (a:Int).toNat (by omega); split at h
  ·cases h
  ·rename_i x k hx; rw[hx]at hg; split at h
   ·cases h; exact⟨by have:=hg.1; omega,hg.2.1,Val.z34 (by omega) v hg.2.2⟩
   ·cases h
theorem z8Z{s:List UInt8}{k:Int}{e:Nat}(h:q84 s k=.bad e):1≤e:=by
 unfold q84 at h; split at h
 ·cases h; decide
 ·rename_i hc; have hg:=z0V s k.toNat (by omega); split at h
  ·rename_i e' hx; cases h; rw[hx]at hg; exact hg.1
  ·split at h
   ·cases h
   ·rename_i hf; cases h; omega
theorem j2x(s:List UInt8)(hs:s.length≤60000)(hno:Flt s)(k:Nat)(hk:k≤s.length):q7R Tryz.prog 62 [.ptr (.x 0) 0,.d (.int .i64 1)] [robj s k 0] (z2S s (fltF s k)):=by
 generalize hR:fltF s k=R; unfold fltF at hR; have hsk:=q4r hk; have hnx:=j6G s k hs hk; generalize q3t s k=q at *; rw[q1M]at hnx ⊢; refine q5q.q2q (by kernel_rfl) rfl ?_; simp(maxSteps:=2000000)only[go_sem,↓reduceIte,q3M,q3O]; refine q0c.mc1 (.x 0) rfl (hnx) rfl rfl rfl rfl ⟨rfl,rfl⟩ ?_; cases hc:s[q]? with
 |none=>
  rw[hc]at hR; have fb:=q40 (s:=s) zeroV (q:Int) hR.symm; rw[z4e,z7N]at fb; simp only; rw[z7N]; simp(maxSteps:=2000000)only[go_sem,↓reduceIte]; exact fb
 |some c=>
  have hc8:=q4o c; have hlt:q<s.length:=(List.getElem?_eq_some_iff.1 hc).1; obtain⟨no60,no91⟩:=hno c (List.mem_of_getElem? hc); rw[hc]at hR; simp only at hR; simp only; rw[q1M]; simp(maxSteps:=2000000)only[go_sem,↓reduceIte]; refine⟨fun h47=>?_,fun h47=>⟨fun h40=>?_,fun h40=>?_⟩⟩
  ·rw[if_pos (by omega)]at hR; have hnm:=j0P s q hs hlt; rw[q1M]at hnm; refine q0c.mp1 (.x 0) rfl (hnm) rfl rfl rfl rfl (fun r hs' hr=>?_); cases hn:q93 s q with
   |none=>
    rw[hn]at hR hr; obtain⟨b,k2,rfl,rfl⟩:=hr; refine⟨⟨rfl,rfl⟩,?_⟩; have fb:=q40 (s:=s) (namV b) k2 hR.symm; rw[namV,kmk,z7M]at fb; rw[z7M]; simp(maxSteps:=2000000)only[go_sem,↓reduceIte]; exact fb
   |some p=>
    obtain⟨b,kn⟩:=p; rw[hn]at hR hr; obtain⟨rfl,rfl⟩:=hr; refine⟨⟨rfl,rfl⟩,?_⟩; have fb:=z1w (s:=s) hR.symm; rw[namV,kmk,q1M]at fb; rw[q1M]; simp(maxSteps:=2000000)only[go_sem,↓reduceIte]; exact fb
  ·rw[if_neg (by omega),if_pos (by omega)]at hR; have hl:=j0C s q hs hlt; rw[q1M]at hl; unfold j2R at hR; refine q0c.mp1 (.x 0) rfl (hl) rfl rfl rfl rfl (fun r hs' hr=>?_); cases hx:litF 0 1 (s.drop (q+1)) [] (q+1)with
   |none=>
    rw[hx]at hR hr; obtain⟨k2,rfl,rfl⟩:=hr; refine⟨⟨rfl,rfl⟩,?_⟩; have fb:=q40 (s:=s) (strV []) k2 hR.symm; have hst:=j6Z s k2 [] (n:=5) (by decide); rw[strV,kmk,z7N]at fb hst; rw[z7N]; simp(maxSteps:=2000000)only[go_sem,↓reduceIte]; refine q0c.mc1 (.x 0) rfl (hst) rfl rfl rfl rfl ⟨rfl,rfl⟩ ?_; simp(maxSteps:=2000000)only[go_sem,↓reduceIte]; exact fb
   |some p=>
    obtain⟨b,kn⟩:=p; rw[hx]at hR hr; obtain⟨rfl,rfl⟩:=hr; refine⟨⟨rfl,rfl⟩,?_⟩; simp only at hR; have hst:=j7v s (kn:Int) b; rw[strV,kmk,q1M]at hst; rw[q1M]; simp(maxSteps:=2000000)only[go_sem,↓reduceIte]; refine q0c.mc1 (.x 0) rfl (hst) rfl rfl rfl rfl ⟨rfl,rfl⟩ ?_
    by_cases hb:b.length≤200
    ·rw[if_pos hb]at hR ⊢; have fb:=z1w (s:=s) hR.symm; rw[strV,kmk,q1M]at fb; rw[q1M]; simp(maxSteps:=2000000)only[go_sem,↓reduceIte]; exact fb
    ·rw[if_neg hb]at hR ⊢; have fb:=q40 (s:=s) (strV b) (kn:Int) hR.symm; rw[strV,kmk,j4r]at fb; rw[j4r]; simp(maxSteps:=2000000)only[go_sem,↓reduceIte]; exact fb
  ·rw[if_neg (by omega),if_neg (by omega)]at hR; have het:=j6b s q [60,60] hs (by omega) (by simp); have e60:¬ c=60:=fun e=>no60 (by rw[e]; rfl)
   have e91:¬ c=91:=fun e=>no91 (by rw[e]; rfl)
   rw[z8r hc,decide_eq_false e60,Bool.false_and,if_neg (by decide),q1M]at het; have het2:=j6b s q [91] hs (by omega) (by simp); rw[z8q hc,decide_eq_false e91,if_neg (by decide),q1M]at het2; refine q0c.mc1 (.x 0) rfl (het) rfl rfl rfl rfl ⟨rfl,rfl⟩ ?_; simp(maxSteps:=2000000)only[go_sem,↓reduceIte]; refine⟨fun h60=>absurd h60 (by omega),fun h60=>?_⟩; refine q0c.mc1 (.x 0) rfl (het2) rfl rfl rfl rfl ⟨rfl,rfl⟩ ?_; simp(maxSteps:=2000000)only[go_sem,↓reduceIte]; refine q0g.of (z5y c) ?_
   simp(maxSteps:=2000000)only[go_sem,↓reduceIte]; refine⟨fun hs1=>?_,fun hs1=>?_⟩
   ·rw[if_pos hs1]at hR; have hf:=z0U s (q:Int) 4; have fb:=q40 (s:=s) zeroV (q:Int) hR.symm; rw[z4e,z7M]at fb; rw[q1M,z7M,j3w.2.2.1]at hf; refine q0c.mc1 (.x 0) rfl (hf) rfl rfl rfl rfl ⟨rfl,rfl⟩ ?_; simp(maxSteps:=2000000)only[go_sem,↓reduceIte]; exact fb
   ·rw[if_neg (by simp[hs1])]at hR; have hwv:=z84 s q hs (by omega); rw[hR,q1M]at hwv; refine q0c.mp1 (.x 0) rfl (hwv) rfl rfl rfl rfl (fun r hs' hr=>?_); obtain⟨v,k2,e,rfl,rfl⟩:=z8K hr; refine⟨⟨rfl,rfl⟩,?_⟩; simp(maxSteps:=2000000)only[go_sem,↓reduceIte]; exact hr
theorem z58(s:List UInt8)(k:Int)(hs:s.length≤1000000000)(hno:Flt s):q0s Tryz.prog 38 [.str s,.int .i64 k] (fun r=>r=topP (q84 s k)):=by
 refine z0j.call rfl ?_; generalize hR:q84 s k=R; unfold q84 at hR; simp(maxSteps:=2000000)only[go_sem,↓reduceIte,q8e,q8k]; have bad:∀(e:Nat),R=.bad e→Res.tup [.agg [.int .i64 0,.int .i64 0,.str [],.list [],.list []],.int .i64 0,errD e]=topP R:=fun e he=>by
  rw[he,topP,z4e]
 have b1:=bad 1; rw[q13 (by decide)]at b1; refine⟨fun h1=>⟨fun h2=>⟨fun h3=>?_,fun h3=>?_⟩,fun h2=>?_⟩,fun h1=>?_⟩
 ·rw[if_pos (by omega)]at hR; exact b1 hR.symm
 ·rw[if_neg (by omega)]at hR; obtain⟨q,rfl⟩:∃ q:Nat,k=q:=⟨k.toNat,by omega⟩; rw[Int.toNat_natCast]at hR; have hc:=j2x s (by omega) hno q (by omega); have hg:=z0V s q (by omega); rw[q1M]at hc; refine q0c.mp1 (.l 27) rfl (hc) rfl rfl rfl rfl (fun r hs' hr=>?_); cases hx:fltF s q with
  |bad e=>
   rw[hx]at hR hr hg; obtain⟨v,k2,rfl,rfl⟩:=hr; refine⟨⟨rfl,rfl⟩,?_⟩; have he:e≠0:=by obtain⟨g1,_⟩:=hg; omega
   rw[z1z s k2 he,Val.d_eq v]; have b2:=bad e hR.symm; rw[q13 he]at b2; simp(maxSteps:=2000000)only[go_sem,↓reduceIte]; exact b2
  |ok v n=>
   rw[hx]at hR hr hg; obtain⟨rfl,rfl⟩:=hr; refine⟨⟨rfl,rfl⟩,?_⟩; simp only at hR; obtain⟨g1,g2,g3⟩:=hg; have hf:=z0L v (Val.z34 (by omega) v g3); have hfl:=z0U s (n:Int) (q6n v); rw[q1M]at hfl ⊢; rw[Val.d_eq v]at hf ⊢; simp(maxSteps:=2000000)only[go_sem,↓reduceIte]; refine q0g.of hf ?_; simp(maxSteps:=2000000)only[go_sem,↓reduceIte]; refine q0c.mc1 (.l 27) rfl (hfl) rfl rfl rfl rfl ⟨rfl,rfl⟩ ?_
   by_cases f0:q6n v=0
   ·rw[if_pos f0]at hR; rw[f0,q1M]; simp(maxSteps:=2000000)only[go_sem,↓reduceIte]; rw[← hR,topP,Val.d_eq]
   ·rw[if_neg f0]at hR; have b2:=bad _ hR.symm; rw[q13 f0]at b2; rw[z1z s n f0]; simp(maxSteps:=2000000)only[go_sem,↓reduceIte]; exact b2
 ·rw[if_pos (by omega)]at hR; exact b1 hR.symm
 ·rw[if_pos (by omega)]at hR; exact b1 hR.symm
def opCh(first:Bool)(c:UInt8):Bool:=
 (decide (97≤c.toNat)&&decide (c.toNat≤122)) || ((decide (65≤c.toNat)&&decide (c.toNat≤90)) || (decide (c.toNat=42) || (decide (c.toNat=39) || (decide (c.toNat=34) || (!first&&(decide (48≤c.toNat)&&decide (c.toNat≤57)))))))
def opL:List UInt8→Bool→Bool
 |[],_=>true
 |c::r,b=>opCh b c&&opL r false
def z8E(w:List UInt8):Bool:=decide (w≠[])&&(decide (w.length≤8)&&(decide (w≠[116,114,117,101])&&(decide (w≠[102,97,108,115,101])&&(decide (w≠[110,117,108,108])&&opL w true))))
def q7B:q0i:=
 .seq (.reg [Qx 2 KF]) (.seq (.seq (.reg [Qc 5 0,Q 6 (.bin .eql (.t 5) (.k (.d (.str [])))),Qc 7 6,Qd 8 0 7 false,Qg 9 (.len true (.t 8)) 7 false,Qg 10 (.bin .gtr (.t 9) (Ki 
 8)) 7 false,Q 11 (.pick (.t 7) KT (.t 10)),Qc 12 11,Qd 13 0 12 false,Qg 14 (.bin .eql (.t 13) (.k (.d (.str [116,114,117,101])))) 12 false,Q 15 (.pick (.t 12) KT (.t 
 14)),Qc 16 15,Qd 17 0 16 false,Qg 18 (.bin .eql (.t 17) (.k (.d (.str [102,97,108,115,101])))) 16 false,Q 19 (.pick (.t 16) KT (.t 18)),Qc 20 19,Qd 21 0 20 false,Qg 22 
 (.bin .eql (.t 21) (.k (.d (.str [110,117,108,108])))) 20 false,Q 23 (.pick (.t 20) KT (.t 22))]) (.cond (.t 23) (.seq (.reg [Qx 2 KF]) .ret) .skip)) (.seq (.seq (.reg [Qc 24 
 0,Q 25 (.len true (.t 24)),Q 26 (.cp (Ki 0))]) (.block 0 (.loop (.seq (.reg [Q 27 (.bin .lss (.t 26) (.t 25))]) (.seq (.cond (.t 27) .skip (.exit 0)) (.seq (.block 1 (.seq 
 (.reg [Qc 28 26,Qa 3 28]) (.seq (.reg [Qc 29 0,Qc 30 3,Q 31 (.idxS (.t 29) (.t 30)),Qa 4 31]) (.seq (.reg [Qc 32 4,Q 33 (.bin .lss (.t 32) (Kb 97)),Qc 34 33,Qd 35 4 34 
 false,Qg 36 (.bin .gtr (.t 35) (Kb 122)) 34 false,Q 37 (.pick (.t 34) KT (.t 36)),Qc 38 37,Qd 39 4 38 true,Qg 40 (.bin .lss (.t 39) (Kb 65)) 38 true,Qd 41 40 38 true,Qd 42 
 4 41 false,Qg 43 (.bin .gtr (.t 42) (Kb 90)) 41 false,Qg 44 (.pick (.t 41) KT (.t 43)) 38 true,Q 45 (.pick (.t 38) (.t 44) KF),Qc 46 45,Qd 47 4 46 true,Qg 48 (.bin .neq (.t 
 47) (Kb 42)) 46 true,Q 49 (.pick (.t 46) (.t 48) KF),Qc 50 49,Qd 51 4 50 true,Qg 52 (.bin .neq (.t 51) (Kb 39)) 50 true,Q 53 (.pick (.t 50) (.t 52) KF),Qc 54 53,Qd 55 4 54 
 true,Qg 56 (.bin .neq (.t 55) (Kb 34)) 54 true,Q 57 (.pick (.t 54) (.t 56) KF),Qc 58 57,Qd 59 3 58 true,Qg 60 (.bin .eql (.t 59) (Ki 0)) 58 true,Qd 61 60 58 true,Qd 62 4 
 61 false,Qg 63 (.bin .lss (.t 62) (Kb 48)) 61 false,Qg 64 (.pick (.t 61) KT (.t 63)) 58 true,Qd 65 64 58 true,Qd 66 4 65 false,Qg 67 (.bin .gtr (.t 66) (Kb 57)) 65 false,Qg 
 68 (.pick (.t 65) KT (.t 67)) 58 true,Q 69 (.pick (.t 58) (.t 68) KF)]) (.cond (.t 69) (.seq (.reg [Qx 2 KF]) .ret) .skip))))) (.reg [Q 70 (.bin .add (.t 26) (Ki 1)),Qc 26 
 70]))))))) (.seq (.reg [Qx 2 KT]) .ret)))
def q7E:List LRes:=[.tmp 2]
theorem q9n:q0r Tryz.prog 37 71 q7B q7E:=⟨_,_,Tryz.func37,rfl,by kernel_rfl,by kernel_rfl,rfl⟩
theorem z3I(w:List UInt8):q0s Tryz.prog 37 [.str w] (fun r=>r=.one (.bool (z8E w))):=by
 generalize hR:z8E w=R; unfold z8E at hR; refine q9n.call rfl ?_; simp(maxSteps:=2000000)only[go_sem,↓reduceIte,q7B,q7E]; have no:∀{x:Bool},x=R→x=false→Res.one (D.bool false)=Res.one (D.bool R):=fun h1 h2=>by rw[← h1,h2]
 refine⟨fun h1=>⟨fun h2=>⟨fun h3=>⟨fun h4=>⟨fun h5=>?_,fun h5=>?_⟩,fun h4=>?_⟩,fun h3=>?_⟩,fun h2=>?_⟩,fun h1=>?_⟩
 ·exact no hR (by simp[h5])
 rotate_left
 ·exact no hR (by simp[h4])
 ·exact no hR (by simp[h3])
 ·exact no hR (by simp; omega)
 ·exact no hR (by simp[h1])
 ·skip
  have hR':opL w true=R:=by
   rw[← hR]; simp[h1,h3,h4,h5]; omega
  refine q0l (fun i:Nat=>⟨[(0,.d (.str w)),(25,.d (.int .i64 w.length)),(26,.d (.int .i64 i))],[],[]⟩)
   (fun i=>i≤w.length∧opL (w.drop i) (decide (i=0))=R) (fun i=>w.length-i) 0 ?_ ?_ ?_
  ·refine q0d ?_ trivial; simp(maxSteps:=2000000)only[go_sem,↓reduceIte,Sub,Int.natCast_add,Int.natCast_mul]
  ·exact⟨by omega,hR'⟩
  ·intro i ⟨hi,hg⟩; simp(maxSteps:=2000000)only[go_sem,↓reduceIte]; refine⟨fun q1=>?_,fun q1=>?_⟩
   ·obtain⟨c,hc⟩:=get_some (l:=w) (i:=i) (by omega); have hc8:=q4o c; rw[q05 hc,opL]at hg
    by_cases k0:97≤c.toNat∧c.toNat≤122
    ·have ho:opCh (decide (i=0)) c=true:=by unfold opCh; simp; omega
     rw[ho,Bool.true_and]at hg; have l97:((c.toNat:Int)<97)=False:=eq_false (by omega); have g122:(122<(c.toNat:Int))=False:=eq_false (by omega); simp(maxSteps:=2000000)(disch:=omega)only[go_sem,↓reduceIte,q0a,hc,l97,g122]; refine⟨i+1,?_,⟨by omega,by simpa using hg⟩,by omega⟩; refine q0d ?_ trivial; simp(maxSteps:=2000000)only[go_sem,↓reduceIte,Sub,Int.natCast_add,Int.natCast_mul]
    by_cases k1:65≤c.toNat∧c.toNat≤90
    ·have ho:opCh (decide (i=0)) c=true:=by unfold opCh; simp; omega
     rw[ho,Bool.true_and]at hg; have l97:((c.toNat:Int)<97)=True:=eq_true (by omega); have l65:((c.toNat:Int)<65)=False:=eq_false (by omega); have g90:(90<(c.toNat:Int))=False:=eq_false (by omega); simp(maxSteps:=2000000)(disch:=omega)only[go_sem,↓reduceIte,q0a,hc,l97,l65,g90]; refine⟨i+1,?_,⟨by omega,by simpa using hg⟩,by omega⟩; refine q0d ?_ trivial; simp(maxSteps:=2000000)only[go_sem,↓reduceIte,Sub,Int.natCast_add,Int.natCast_mul]
    by_cases k2:c.toNat=42
    ·have ho:opCh (decide (i=0)) c=true:=by unfold opCh; simp; omega
     rw[ho,Bool.true_and]at hg; have l97:((c.toNat:Int)<97)=True:=eq_true (by omega); have l65:((c.toNat:Int)<65)=True:=eq_true (by omega); have e42:((c.toNat:Int)=42)=True:=eq_true (by omega); simp(maxSteps:=2000000)(disch:=omega)only[go_sem,↓reduceIte,q0a,hc,l97,l65,e42]; refine⟨i+1,?_,⟨by omega,by simpa using hg⟩,by omega⟩; refine q0d ?_ trivial; simp(maxSteps:=2000000)only[go_sem,↓reduceIte,Sub,Int.natCast_add,Int.natCast_mul]
    by_cases k3:c.toNat=39
    ·have ho:opCh (decide (i=0)) c=true:=by unfold opCh; simp; omega
     rw[ho,Bool.true_and]at hg; have l97:((c.toNat:Int)<97)=True:=eq_true (by omega); have l65:((c.toNat:Int)<65)=True:=eq_true (by omega); have e42:((c.toNat:Int)=42)=False:=eq_false (by omega); have e39:((c.toNat:Int)=39)=True:=eq_true (by omega); simp(maxSteps:=2000000)(disch:=omega)only[go_sem,↓reduceIte,q0a,hc,l97,l65,e42,e39]; refine⟨i+1,?_,⟨by omega,by simpa using hg⟩,by omega⟩; refine q0d ?_ trivial; simp(maxSteps:=2000000)only[go_sem,↓reduceIte,Sub,Int.natCast_add,Int.natCast_mul]
    by_cases k4:c.toNat=34
    ·have ho:opCh (decide (i=0)) c=true:=by unfold opCh; simp; omega
     rw[ho,Bool.true_and]at hg; have l97:((c.toNat:Int)<97)=True:=eq_true (by omega); have l65:((c.toNat:Int)<65)=True:=eq_true (by omega); have e42:((c.toNat:Int)=42)=False:=eq_false (by omega); have e39:((c.toNat:Int)=39)=False:=eq_false (by omega); have e34:((c.toNat:Int)=34)=True:=eq_true (by omega); simp(maxSteps:=2000000)(disch:=omega)only[go_sem,↓reduceIte,q0a,hc,l97,l65,e42,e39,e34]; refine⟨i+1,?_,⟨by omega,by simpa using hg⟩,by omega⟩; refine q0d ?_ trivial
     simp(maxSteps:=2000000)only[go_sem,↓reduceIte,Sub,Int.natCast_add,Int.natCast_mul]
    by_cases ki:i=0
    ·subst ki; have ho:opCh (decide ((0:Nat)=0)) c=false:=by unfold opCh; simp; omega
     rw[ho,Bool.false_and]at hg; rw[← hg]; have i0:getI w 0=some c:=by rw[show(0:Int)=((0:Nat):Int)from rfl,q0a,hc]
     by_cases r0:c.toNat<65
     ·have l97:((c.toNat:Int)<97)=True:=eq_true (by omega); have l65:((c.toNat:Int)<65)=True:=eq_true (by omega); have e42:((c.toNat:Int)=42)=False:=eq_false (by omega); have e39:((c.toNat:Int)=39)=False:=eq_false (by omega); have e34:((c.toNat:Int)=34)=False:=eq_false (by omega); simp(maxSteps:=2000000)(disch:=omega)only[go_sem,↓reduceIte,q0a,hc,i0,l97,l65,e42,e39,e34]
     by_cases r1:c.toNat<97
     ·have l97:((c.toNat:Int)<97)=True:=eq_true (by omega); have l65:((c.toNat:Int)<65)=False:=eq_false (by omega); have g90:(90<(c.toNat:Int))=True:=eq_true (by omega); have e42:((c.toNat:Int)=42)=False:=eq_false (by omega); have e39:((c.toNat:Int)=39)=False:=eq_false (by omega); have e34:((c.toNat:Int)=34)=False:=eq_false (by omega); simp(maxSteps:=2000000)(disch:=omega)only[go_sem,↓reduceIte,q0a,hc,i0,l97,l65,g90,e42,e39,e34]
     have l97:((c.toNat:Int)<97)=False:=eq_false (by omega); have g122:(122<(c.toNat:Int))=True:=eq_true (by omega); have l65:((c.toNat:Int)<65)=False:=eq_false (by omega); have g90:(90<(c.toNat:Int))=True:=eq_true (by omega); have e42:((c.toNat:Int)=42)=False:=eq_false (by omega); have e39:((c.toNat:Int)=39)=False:=eq_false (by omega); have e34:((c.toNat:Int)=34)=False:=eq_false (by omega); simp(maxSteps:=2000000)(disch:=omega)only[go_sem,↓reduceIte,q0a,hc,i0,l97,g122,l65,g90,e42,e39,e34]
    ·have i0:((i:Int)=0)=False:=eq_false (by omega)
     by_cases kd:48≤c.toNat∧c.toNat≤57
     ·have ho:opCh (decide (i=0)) c=true:=by unfold opCh; simp[ki]; omega
      rw[ho,Bool.true_and]at hg; have l97:((c.toNat:Int)<97)=True:=eq_true (by omega); have l65:((c.toNat:Int)<65)=True:=eq_true (by omega); have l48:((c.toNat:Int)<48)=False:=eq_false (by omega); have g57:(57<(c.toNat:Int))=False:=eq_false (by omega); have e42:((c.toNat:Int)=42)=False:=eq_false (by omega); have e39:((c.toNat:Int)=39)=False:=eq_false (by omega); have e34:((c.toNat:Int)=34)=False:=eq_false (by omega)
      simp(maxSteps:=2000000)(disch:=omega)only[go_sem,↓reduceIte,q0a,hc,i0,l97,l65,l48,g57,e42,e39,e34]; refine⟨i+1,?_,⟨by omega,by simpa using hg⟩,by omega⟩; refine q0d ?_ trivial; simp(maxSteps:=2000000)only[go_sem,↓reduceIte,Sub,Int.natCast_add,Int.natCast_mul]
     ·have ho:opCh (decide (i=0)) c=false:=by unfold opCh; simp[ki]; omega
      rw[ho,Bool.false_and]at hg; rw[← hg]
      by_cases r0:c.toNat<65
      ·have l97:((c.toNat:Int)<97)=True:=eq_true (by omega); have l65:((c.toNat:Int)<65)=True:=eq_true (by omega); have e42:((c.toNat:Int)=42)=False:=eq_false (by omega); have e39:((c.toNat:Int)=39)=False:=eq_false (by omega); have e34:((c.toNat:Int)=34)=False:=eq_false (by omega)
       by_cases r48:c.toNat<48
       ·have l48:((c.toNat:Int)<48)=True:=eq_true (by omega); simp(maxSteps:=2000000)(disch:=omega)only[go_sem,↓reduceIte,q0a,hc,i0,l97,l65,e42,e39,e34,l48]
       ·have l48:((c.toNat:Int)<48)=False:=eq_false (by omega); have g57:(57<(c.toNat:Int))=True:=eq_true (by omega); simp(maxSteps:=2000000)(disch:=omega)only[go_sem,↓reduceIte,q0a,hc,i0,l97,l65,e42,e39,e34,l48,g57]
      by_cases r1:c.toNat<97
      ·have l97:((c.toNat:Int)<97)=True:=eq_true (by omega); have l65:((c.toNat:Int)<65)=False:=eq_false (by omega); have g90:(90<(c.toNat:Int))=True:=eq_true (by omega); have e42:((c.toNat:Int)=42)=False:=eq_false (by omega); have e39:((c.toNat:Int)=39)=False:=eq_false (by omega); have e34:((c.toNat:Int)=34)=False:=eq_false (by omega); have l48:((c.toNat:Int)<48)=False:=eq_false (by omega); have g57:(57<(c.toNat:Int))=True:=eq_true (by omega)
       simp(maxSteps:=2000000)(disch:=omega)only[go_sem,↓reduceIte,q0a,hc,i0,l97,l65,g90,e42,e39,e34,l48,g57]
      have l97:((c.toNat:Int)<97)=False:=eq_false (by omega); have g122:(122<(c.toNat:Int))=True:=eq_true (by omega); have l65:((c.toNat:Int)<65)=False:=eq_false (by omega); have g90:(90<(c.toNat:Int))=True:=eq_true (by omega); have e42:((c.toNat:Int)=42)=False:=eq_false (by omega); have e39:((c.toNat:Int)=39)=False:=eq_false (by omega); have e34:((c.toNat:Int)=34)=False:=eq_false (by omega); have l48:((c.toNat:Int)<48)=False:=eq_false (by omega); have g57:(57<(c.toNat:Int))=True:=eq_true (by omega)
      simp(maxSteps:=2000000)(disch:=omega)only[go_sem,↓reduceIte,q0a,hc,i0,l97,g122,l65,g90,e42,e39,e34,l48,g57]
   ·rw[List.drop_eq_nil_of_le (by omega),opL]at hg; rw[← hg]
structure OpX where
 nm:List UInt8
 args:List Val
def OpX.d(o:OpX):D:=.agg [.str o.nm,.list (q0K o.args)]
def opxD(l:List OpX):List D:=l.map OpX.d
theorem z6D(l:List OpX):(opxD l).length=l.length:=by simp[opxD]
theorem j09(l:List OpX)(o:OpX):opxD (l++[o])=opxD l++[.agg [.str o.nm,.list (q0K o.args)]]:=by simp[opxD,OpX.d]
theorem z8Y(l:List Val)(v:Val):q0K (l++[v])=q0K l++[v.d]:=by simp[q4W]
inductive RO where
 |ok (l:List OpX)
 |bad (e:Nat)
def j1r:RO→Res
 |.ok l=>.tup [.list (opxD l),.nil]
 |.bad e=>.tup [.list [],errD e]
theorem j06{w:List UInt8}(h:z8E w=true):1≤w.length∧w.length≤8:=by
 unfold z8E at h; simp only[Bool.and_eq_true,decide_eq_true_eq]at h; exact⟨by have:=List.length_pos_iff.2 h.1; omega,h.2.1⟩
def z0y:q0i:=
 .seq (.reg [⟨some 2,.nils 31 2,none⟩,Qx 3 (.k (.d .nil))]) (.seq (.seq (.reg [Qc 11 0,Q 12 (.len true (.t 11)),Q 13 (.bin .gtr (.t 12) (Ki 20000))]) (.cond (.t 13) (.seq (.reg 
 [Q 14 (.mkI 76 (Ki 2)),⟨some 2,.nils 31 2,none⟩,Qa 3 14]) .ret) .skip)) (.seq (.reg [⟨some 4,.nils 31 2,none⟩]) (.seq (.reg [⟨some 5,.nils 35 5,none⟩]) (.seq (.seq (.reg 
 [Qc 15 0,⟨some 16,.call 35 [.t 15,.k (.d (.int .i64 0))],none⟩,Qa 6 16]) (.block 0 (.loop (.seq (.seq (.reg [Qc 17 6,Qc 18 0,Q 19 (.len true (.t 18)),Q 20 (.bin .lss (.t 
 17) (.t 19))]) (.cond (.t 20) .skip (.exit 0))) (.seq (.block 1 (.seq (.reg [Qc 24 0,Qc 25 6,⟨some 26,.call 36 [.t 24,.t 25],none⟩,Qa 7 26]) (.seq (.seq (.reg [Qc 27 7, 
 ⟨some 28,.call 37 [.t 27],none⟩]) (.cond (.t 28) (.seq (.seq (.reg [Qc 29 4,Q 30 (.len false (.t 29)),Q 31 (.bin .eql (.t 30) (Ki 2000))]) (.cond (.t 31) (.seq (.reg [Q 32 
 (.mkI 76 (Ki 2)),⟨some 2,.nils 31 2,none⟩,Qa 3 32]) .ret) .skip)) (.seq (.reg [Qc 33 4,Qc 34 7,Qc 35 5,Q 36 (.bld [(0,1),(1,1)] [.str [],.list []] [] [(0,.t 34),(1, 
 .t 35)]),⟨some 37,.bsl 31 2 [.t 36],none⟩,⟨some 38,.app 31 2 40 false (.t 33) (.t 37),none⟩,Qa 4 38]) (.seq (.reg [⟨some 5,.nils 35 5,none⟩]) (.seq (.reg [Qc 39 6,Qc 40 
 7,Q 41 (.len true (.t 40)),Q 42 (.bin .add (.t 39) (.t 41)),Qa 6 42]) (.exit 1))))) .skip)) (.seq (.reg [Qc 44 0,Qc 45 6,⟨some 46,.call 38 [.t 44,.t 45],none⟩,Qc 43 46, 
 Q 47 (.ext 0 (.t 43)),Q 48 (.ext 1 (.t 43)),Q 49 (.ext 2 (.t 43)),⟨some 8,.allo [.int .i64 0,.int .i64 0,.str [],.list [],.list []],none⟩,⟨none,.st 5 (.t 8) (.t 47), 
 none⟩,Qa 9 48,Qa 10 49]) (.seq (.seq (.reg [Qc 50 10,Q 51 (.eqN 0 true (.t 50))]) (.cond (.t 51) (.seq (.reg [Qc 52 10,⟨some 2,.nils 31 2,none⟩,Qa 3 52]) .ret) .skip)) 
 (.seq (.seq (.reg [Qc 53 5,Q 54 (.len false (.t 53)),Q 55 (.bin .eql (.t 54) (Ki 8))]) (.cond (.t 55) (.seq (.reg [Q 56 (.mkI 76 (Ki 10)),⟨some 2,.nils 31 2,none⟩,Qa 3 56]) 
 .ret) .skip)) (.seq (.reg [Qc 57 5,Q 58 (.ld true 5 (.t 8)),⟨some 59,.bsl 35 5 [.t 58],none⟩,⟨some 60,.app 35 5 80 false (.t 57) (.t 59),none⟩,Qa 5 60]) (.reg [Qc 61 9, 
 Qa 6 61])))))))) (.reg [Qc 21 0,Qc 22 6,⟨some 23,.call 35 [.t 21,.t 22],none⟩,Qa 6 23])))))) (.seq (.seq (.reg [Qc 62 5,Q 63 (.len false (.t 62)),Q 64 (.bin .gtr (.t 63) 
 (Ki 0))]) (.cond (.t 64) (.seq (.reg [Q 65 (.mkI 76 (Ki 5)),⟨some 2,.nils 31 2,none⟩,Qa 3 65]) .ret) .skip)) (.seq (.reg [Qc 66 4,Qa 2 66,Qx 3 (.k (.d .nil))]) .ret))))))
def z0F:List LRes:=[.tmp 2,.tmp 3]
theorem z2c:q0r Tryz.prog 24 67 z0y z0F:=⟨_,_,Tryz.func24,rfl,by kernel_rfl,by kernel_rfl,rfl⟩
def opqF(s:List UInt8):Nat→List OpX→List Val→Nat→RO
 |0,_,_,_=>.bad 0
 |m+1,l,args,at_=>
  if s.length≤at_ then(if args=[]then .ok l else .bad 5)
  else if z8E (q2x s at_)=true then(if l.length=2000 then .bad 2 else opqF s m (l++[⟨q2x s at_,args⟩]) [] (q3t s (at_+(q2x s at_).length)))
  else match q84 s at_ with
   |.bad e=>.bad e
   |.ok v k=>if args.length=8 then .bad 10 else opqF s m l (args++[v]) (q3t s k)
def opqP(s:List UInt8):RO:=if 20000<s.length then .bad 2 else opqF s (s.length+1) [] [] (q3t s 0)
theorem z3J(s:List UInt8)(hs:s.length≤1000000000)(hno:Flt s):q0s Tryz.prog 24 [.str s] (fun r=>r=j1r (opqP s)):=by
 generalize hR:opqP s=R; unfold opqP at hR; have bad:∀(e:Nat),R=.bad e→e≠0→Res.tup [.list [],.iface 76 (.int .i64 e)]=j1r R:=fun e he h0=>by rw[he,j1r,q13 h0]
 refine z2c.call rfl ?_; simp(maxSteps:=2000000)only[go_sem,↓reduceIte,z0y,z0F]; refine⟨fun h1=>?_,fun h1=>?_⟩
 ·rw[if_pos (by omega)]at hR; exact bad 2 hR.symm (by decide)
 ·have hsk:=q55 s 0 hs; have hc0:q5x s 0=0:=by unfold q5x; omega
  rw[hc0]at hsk; rw[if_neg (by omega)]at hR; refine q0g.of hsk ?_; simp(maxSteps:=2000000)only[go_sem,↓reduceIte]; refine q0l (fun y:Nat×List OpX×List Val=>⟨[(0,.d (.str s)),(4,.own (.t 4) 31 2 (opxD y.2.1)),(5,.own (.t 5) 35 5 (q0K y.2.2)),(6,.d (.int .i64 y.1))],[],[]⟩)
   (fun y=>y.1≤s.length∧y.2.1.length≤2000∧y.2.2.length≤8∧(∀ v∈y.2.2,v.sm 1048576=true)∧∃ m,s.length-y.1<m∧opqF s m y.2.1 y.2.2 y.1=R) (fun y=>s.length-y.1) (q3t s 0,[],[]) ?_ ?_ ?_
  ·refine q0d ?_ trivial; simp(maxSteps:=2000000)only[go_sem,↓reduceIte,Sub,Int.natCast_add,Int.natCast_mul,opxD,q0K,List.map_nil]
  ·have:=q4r (s:=s) (k:=0) (by omega); exact⟨this.2,by simp,by simp,by simp,s.length+1,by simp; omega,hR⟩
  ·rintro⟨at_,l,args⟩ ⟨g1,g2,g3,g4,m,g5,g6⟩; simp only at g1 g2 g3 g4 g5 g6; obtain⟨m,rfl⟩:∃ k,m=k+1:=⟨m-1,by omega⟩; rw[opqF]at g6; have hll:=z6D l; have hal:(q0K args).length=args.length:=by simp[q4W]
   have hw:=q59 s (at_:Int) hs; rw[q3S g1]at hw; have hwl:=q30 s at_; simp(maxSteps:=2000000)only[go_sem,↓reduceIte]; refine⟨fun q1=>?_,fun q1=>?_⟩
   ·rw[if_neg (by omega)]at g6; refine q0g.of hw ?_; simp(maxSteps:=2000000)only[go_sem,↓reduceIte]; refine q0g.of (z3I _) ?_; simp(maxSteps:=2000000)(disch:=omega)only[go_sem,↓reduceIte]; refine⟨fun q2=>⟨fun q3=>?_,fun q3=>⟨⟨by omega,by omega⟩,?_⟩⟩,fun q2=>?_⟩
    ·rw[if_pos q2,if_pos (by omega)]at g6; exact bad 2 g6.symm (by decide)
    ·rw[if_pos q2,if_neg (by omega)]at g6; have hml:=j06 q2; have hsk2:=q55 s ((at_+(q2x s at_).length:Nat):Int) hs; rw[q3S (by omega),Int.natCast_add]at hsk2; refine q0g.of hsk2 ?_; simp(maxSteps:=2000000)only[go_sem,↓reduceIte]; have hle:=q4r (s:=s) (k:=at_+(q2x s at_).length) (by omega); refine⟨(q3t s (at_+(q2x s at_).length),l++[⟨q2x s at_,args⟩],[]),?_,⟨hle.2,by simp; omega,by simp,by simp,m,by simp only; omega,g6⟩,by simp only; omega⟩; refine q0d ?_ trivial
     simp(maxSteps:=2000000)only[go_sem,↓reduceIte,Sub,Int.natCast_add,Int.natCast_mul,j09,q0K,List.map_nil]
    ·rw[if_neg (by simp[q2])]at g6; have hv:=z58 s (at_:Int) hs hno; cases hx:q84 s (at_:Int)with
     |bad e=>
      rw[hx]at g6 hv; have he:=z8Z hx; rw[topP,z4e,q13 (by omega)]at hv; refine q0g.of hv ?_; simp(maxSteps:=2000000)only[go_sem,↓reduceIte]; exact bad e g6.symm (by omega)
     |ok v k=>
      rw[hx]at g6 hv; obtain⟨e1,e2,e3⟩:=j1Q hx; rw[topP,Val.d_eq v]at hv; refine q0g.of hv ?_; simp(maxSteps:=2000000)(disch:=omega)only[go_sem,↓reduceIte]; simp only at g6; refine⟨fun q3=>?_,fun q3=>⟨⟨by omega,by omega⟩,?_⟩⟩
      ·rw[if_pos (by omega)]at g6; exact bad 10 g6.symm (by decide)
      ·rw[if_neg (by omega)]at g6; have hsk2:=q55 s (k:Int) hs; rw[q3S e2]at hsk2; refine q0g.of hsk2 ?_; simp(maxSteps:=2000000)only[go_sem,↓reduceIte]; have hle:=q4r e2; refine⟨(q3t s k,l,args++[v]),?_,⟨hle.2,g2,by simp; omega,fun x hx=>by
        rcases List.mem_append.1 hx with h|h
        ·exact g4 x h
        ·simp only[List.mem_singleton]at h; subst h; exact e3,m,by simp only; omega,g6⟩,by simp only; omega⟩
       refine q0d ?_ trivial; simp(maxSteps:=2000000)only[go_sem,↓reduceIte,Sub,Int.natCast_add,Int.natCast_mul,z8Y,Val.d_eq v]
   ·rw[if_pos (by omega)]at g6; refine⟨fun q2=>?_,fun q2=>?_⟩
    ·rw[if_neg (fun e=>by subst e; simp[q0K]at q2)]at g6; exact bad 5 g6.symm (by decide)
    ·have:args=[]:=List.length_eq_zero_iff.1 (by omega); rw[if_pos this]at g6; rw[← g6,j1r]
end Go.Av.Tryz
