import Derived.Test.YtfkdhlghpjbbpaaGreatDoorWb
import Derived.Test.YtfkdhlghpjbbpaaGreatDoorWa
import Derived.Test.YtfkdhlghpjbbpaaGreatDoorAvI
import Derived.Test.YtfkdhlghpjbbpaaGreatDoorAvJ
set_option linter.unusedSimpArgs false
set_option maxRecDepth 100000
namespace Go.Av.Tryz
open Go.Proofs
structure Fnt where
 wide:Bool
 ws:List (Int×Int)
 miss:Int
 ns:List (Int×List UInt8)
 cs:List Span
def q2T{α:Type}(l:List (Int×α)):List D:=l.map fun p=>.int .i64 p.1
def q85(l:List (Int×Int)):List D:=l.map fun p=>.int .i64 p.2
def q8O(l:List (Int×List UInt8)):List D:=l.map fun p=>.str p.2
def Fnt.d(x:Fnt):D:=.agg [.bool x.wide,.map (q2T x.ws) (q85 x.ws),.int .i64 x.miss,.map (q2T x.ns) (q8O x.ns),.list (q2e x.cs)]
def assoc{α:Type}:List (Int×α)→Int→Option α
 |[],_=>none
 |p::r,c=>if c=p.1 then some p.2 else assoc r c
theorem z9q(l:List (Int×Int))(c:Int):q2B (q2T l) (q85 l) (.int .i64 c)=(assoc l c).map (D.int .i64):=by
 induction l with
 |nil=>rfl
 |cons p r ih=>
  simp only[q2T,q85,List.map_cons,q2B,q9k,beq_iff_eq,assoc]at ih ⊢; split
  ·rfl
  ·exact ih
theorem j4I(l:List (Int×List UInt8))(c:Int):q2B (q2T l) (q8O l) (.int .i64 c)=(assoc l c).map D.str:=by
 induction l with
 |nil=>rfl
 |cons p r ih=>
  simp only[q2T,q8O,List.map_cons,q2B,q9k,beq_iff_eq,assoc]at ih ⊢; split
  ·rfl
  ·exact ih
theorem q9j{α:Type}(l:List (Int×α)):∀ k∈q2T l,q0L (.int .i64) k=true:=fun k hk=>by
 obtain⟨p,_,rfl⟩:=List.mem_map.1 hk; rfl
theorem z4v{α:Type}:∀{l:List (Int×α)} {c:Int} {v:α},assoc l c=some v→∃ p∈l,p.2=v
 |[],c,v,h=>by cases h
 |p::r,c,v,h=>by
  simp only[assoc]at h; split at h
  ·cases h; exact⟨p,by simp,rfl⟩
  ·obtain⟨q,q1,q2⟩:=z4v h; exact⟨q,by simp[q1],q2⟩
structure Fnt.ok(x:Fnt):Prop where
 cs:∀ s∈x.cs,j4t s
 cl:x.cs.length≤1000000
 nl:∀ p∈x.ns,p.2.length≤1000000
def z4H(x:Fnt)(c:Int):List UInt8:=
 match z4y x.cs c with
 |some t=>t
 |none=>if x.wide=true then[]else
  match assoc x.ns c with
  |some n=>(z7q n).getD []
  |none=>if 32≤c∧c≤126 then[UInt8.ofNat c.toNat]else[]
theorem j5c:Tryz.prog.underlying 59=some (.map 3 9):=by kernel_rfl
theorem j2V:Tryz.prog.underlying 58=some (.map 3 3):=by kernel_rfl
theorem intT:Tryz.prog.underlying 3=some (.int .i64):=by kernel_rfl
theorem j7u:Program.zeroOf Tryz.prog 9=some (.str []):=by kernel_rfl
theorem j6t:Program.zeroOf Tryz.prog 3=some (.int .i64 0):=by kernel_rfl
theorem z9o{c:Nat}(h:c<128):(Utf8.encode (c:Int)).data.toList=[UInt8.ofNat c]:=by
 rw[q9f (by unfold q3Z; omega)]; rcases q5U (r:=c) (by unfold q3Z; omega)with⟨_,e⟩|⟨a,_,_⟩|⟨a,_,_⟩|⟨a,_,_⟩
 ·exact e
 all_goals omega
def z0x:q0i:=
 .seq (.reg [⟨some 2,.box (.t 0),none⟩,Qx 4 (.k (.d (.str [])))]) (.seq (.reg [Q 10 (.fa 4 (.t 2)),Q 11 (.ld false 1 (.t 10)),Qc 12 1,⟨some 13,.call 132 [.t 11,.t 12], 
 none⟩,Qc 9 13,Q 14 (.ext 0 (.t 9)),Q 15 (.ext 1 (.t 9)),Qa 5 14,Qa 6 15]) (.seq (.seq (.reg [Qc 16 6]) (.cond (.t 16) (.seq (.reg [Qc 17 5,Qa 4 17]) .ret) .skip)) (.seq 
 (.seq (.reg [Q 18 (.fa 0 (.t 2)),Q 19 (.ld false 1 (.t 18))]) (.cond (.t 19) (.seq (.reg [Qx 4 (.k (.d (.str [])))]) .ret) .skip)) (.seq (.reg [Q 21 (.fa 3 (.t 2)),Q 22 (.ld 
 false 1 (.t 21)),Qc 23 1,⟨some 24,.prim (.lookup 59 true) [.t 22,.t 23] [],none⟩,Qc 20 24,Q 25 (.ext 0 (.t 20)),Q 26 (.ext 1 (.t 20)),Qa 7 25,Qa 8 26]) (.seq (.seq 
 (.reg [Qc 27 8]) (.cond (.t 27) (.seq (.reg [Qc 29 7,⟨some 30,.call 133 [.t 29],none⟩,Qc 28 30,Q 31 (.ext 0 (.t 28)),Q 32 (.ext 1 (.t 28)),Qa 5 31]) (.seq (.reg [Qc 33 5, 
 Qa 4 33]) .ret)) .skip)) (.seq (.seq (.reg [Qc 34 1,Q 35 (.bin .geq (.t 34) (Ki 32)),Qc 36 35,Qd 37 1 36 true,Qg 38 (.bin .leq (.t 37) (Ki 126)) 36 true,Q 39 (.pick (.t 36) 
 (.t 38) KF)]) (.cond (.t 39) (.seq (.reg [Qc 40 1,Q 41 (.cvI .i32 (.t 40)),Q 42 (.i2s (.t 41)),Qa 4 42]) .ret) .skip)) (.seq (.reg [Qx 4 (.k (.d (.str [])))]) .ret)))))))
def z0E:List LRes:=[.tmp 4]
theorem z2b:q0r Tryz.prog 116 43 z0x z0E:=⟨_,_,Tryz.func116,rfl,by kernel_rfl,by kernel_rfl,rfl⟩
theorem q7g(x:Fnt)(hx:x.ok)(c:Int)(hc:0≤c∧c≤65535):q0s Tryz.prog 116 [x.d,.int .i64 c] (fun r=>r=.one (.str (z4H x c))):=by
 refine z2b.call rfl ?_; unfold z4H; simp(maxSteps:=2000000)only[go_sem,↓reduceIte,z0x,z0E,Fnt.d]; refine q0g.of (j1O x.cs c hx.cs (by omega) hx.cl) ?_; cases hcm:z4y x.cs c with
 |some t=>
  simp only[q3s]; simp(maxSteps:=2000000)only[go_sem,↓reduceIte]
 |none=>
  simp only[q3s]; cases hw:x.wide with
  |true=>
   simp(maxSteps:=2000000)only[go_sem,↓reduceIte]
  |false=>
   simp(maxSteps:=2000000)only[go_sem,↓reduceIte]; refine q0c.lookup (kd:=.int .i64) (key:=.int .i64 c) (zero:=.str []) rfl rfl j5c intT rfl (q9j _) j7u ?_; rw[j4I]; cases ha:assoc x.ns c with
   |some n=>
    obtain⟨p,p1,p2⟩:=z4v ha; have hnl:=hx.nl p p1; rw[p2]at hnl; simp only[Option.map_some,Option.getD_some,Option.isSome_some]; simp(maxSteps:=2000000)only[go_sem,↓reduceIte]; refine q0g.of (z8p n hnl) ?_; cases z7q n<;>(simp only[q3s]; simp(maxSteps:=2000000)only[go_sem,↓reduceIte])<;>rfl
   |none=>
    simp only[Option.map_none,Option.getD_none,Option.isSome_none]; obtain⟨m,rfl⟩:=Int.eq_ofNat_of_zero_le hc.1; have hw32:IntKind.i32.wrap (m:Int)=(m:Int):=by rw[IntWalk.i32_in _ (by omega)]
    by_cases h1:(32:Int)≤m
    ·have z1:=eq_true h1
     by_cases h2:(m:Int)≤126
     ·have z2:=eq_true h2; have he:=z9o (c:=m) (by omega); simp(maxSteps:=2000000)(disch:=omega)only[go_sem,↓reduceIte,z1,z2,hw32,he]; rfl
     ·have z2:=eq_false h2; simp(maxSteps:=2000000)(disch:=omega)only[go_sem,↓reduceIte,z1,z2]
    ·have z1:=eq_false h1; simp(maxSteps:=2000000)(disch:=omega)only[go_sem,↓reduceIte,z1]
structure Sgn where
 code:Int
 width:Int
 text:List UInt8
def Sgn.d(x:Sgn):D:=.agg [.int .i64 x.code,.int .i64 x.width,.str x.text]
def q5N(l:List Sgn):List D:=l.map Sgn.d
theorem q2S(l:List Sgn):(q5N l).length=l.length:=by simp[q5N]
theorem j1B(l:List Sgn)(j:Nat):(q5N l)[j]?=(l[j]?).map Sgn.d:=by simp[q5N]
theorem q99(a b:List Sgn):q5N (a++b)=q5N a++q5N b:=by simp[q5N]
def sgnM(x:Fnt)(c:Int):Sgn:=⟨c,(assoc x.ws c).getD x.miss,z4H x c⟩
def z0l(x:Fnt)(s:List UInt8):List Sgn:=s.map fun c=>sgnM x c.toNat
def q7z(x:Fnt):List UInt8→List Sgn
 |a::b::r=>sgnM x (256*(a.toNat:Int)+b.toNat)::q7z x r
 |_=>[]
def z1H(x:Fnt)(s:List UInt8):Option (List Sgn):=if x.wide=true then(if s.length % 2=0 then some (q7z x s)else none)else some (z0l x s)
def z30(o:Option (List Sgn)):Res:=match o with
 |some l=>.tup [.list (q5N l),errD 0]
 |none=>.tup [.list [],errD 4]
theorem z5v(x:Fnt)(a b:UInt8):∀ p:List UInt8,p.length % 2=0→q7z x (p++[a,b])=q7z x p++[sgnM x (256*(a.toNat:Int)+b.toNat)]
 |[],_=>rfl
 |[c],h=>by simp at h
 |c::d::r,h=>by
  have:=z5v x a b r (by simp at h; omega); simp only[List.cons_append,q7z,this]
theorem z1G(x:Fnt):∀ p:List UInt8,(q7z x p).length≤p.length
 |[]=>by simp[q7z]
 |[c]=>by simp[q7z]
 |c::d::r=>by have:=z1G x r; simp only[q7z,List.length_cons]; omega
def q5t:q0i:=
 .seq (.reg [⟨some 2,.box (.t 0),none⟩,⟨some 4,.nils 143 3,none⟩,Qx 5 (.k (.d .nil))]) (.seq (.reg [Qx 6 (Ki 1)]) (.seq (.seq (.reg [Q 12 (.fa 0 (.t 2)),Q 13 (.ld false 1 (.t 
 12))]) (.cond (.t 13) (.reg [Qx 6 (Ki 2)]) .skip)) (.seq (.seq (.reg [Qc 14 1,Q 15 (.len true (.t 14)),Qc 16 6,Q 17 (.bin .rem (.t 15) (.t 16)),Q 18 (.bin .gtr (.t 17) (Ki 
 0))]) (.cond (.t 18) (.seq (.reg [Q 19 (.mkI 76 (Ki 4)),⟨some 4,.nils 143 3,none⟩,Qa 5 19]) .ret) .skip)) (.seq (.reg [⟨some 7,.nils 143 3,none⟩]) (.seq (.seq (.reg [Qx 8 
 (Ki 0)]) (.block 0 (.loop (.seq (.seq (.reg [Qc 20 8,Qc 21 1,Q 22 (.len true (.t 21)),Q 23 (.bin .lss (.t 20) (.t 22))]) (.cond (.t 23) .skip (.exit 0))) (.seq (.block 1 (.seq 
 (.reg [Qc 27 1,Qc 28 8,Q 29 (.idxS (.t 27) (.t 28)),Q 30 (.cvI .i64 (.t 29)),Qa 9 30]) (.seq (.seq (.reg [Q 31 (.fa 0 (.t 2)),Q 32 (.ld false 1 (.t 31))]) (.cond (.t 32) 
 (.reg [Qc 33 9,Q 34 (.bin .mul (Ki 256) (.t 33)),Qc 35 1,Qc 36 8,Q 37 (.bin .add (.t 36) (Ki 1)),Q 38 (.idxS (.t 35) (.t 37)),Q 39 (.cvI .i64 (.t 38)),Q 40 (.bin .add (.t 
 34) (.t 39)),Qa 9 40]) .skip)) (.seq (.reg [Q 42 (.fa 1 (.t 2)),Q 43 (.ld false 1 (.t 42)),Qc 44 9,⟨some 45,.prim (.lookup 58 true) [.t 43,.t 44] [],none⟩,Qc 41 45,Q 46 
 (.ext 0 (.t 41)),Q 47 (.ext 1 (.t 41)),Qa 10 46,Qa 11 47]) (.seq (.seq (.reg [Qc 48 11,Q 49 (.not (.t 48))]) (.cond (.t 49) (.reg [Q 50 (.fa 2 (.t 2)),Q 51 (.ld false 1 (.t 
 50)),Qa 10 51]) .skip)) (.reg [Qc 52 7,Qc 53 9,Qc 54 10,Q 55 (.ld true 5 (.t 2)),Qc 56 9,⟨some 57,.call 116 [.t 55,.t 56],none⟩,Q 58 (.bld [(0,1),(1,1),(2,1)] 
 [.int .i64 0,.int .i64 0,.str []] [] [(0,.t 53),(1,.t 54),(2,.t 57)]),⟨some 59,.bsl 143 3 [.t 58],none⟩,⟨some 60,.app 143 3 32 false (.t 52) (.t 59),none⟩,Qa 7 
 60])))))) (.reg [Qc 24 8,Qc 25 6,Q 26 (.bin .add (.t 24) (.t 25)),Qa 8 26])))))) (.seq (.reg [Qc 61 7,Qa 4 61,Qx 5 (.k (.d .nil))]) .ret))))))
def q5v:List LRes:=[.tmp 4,.tmp 5]
theorem z1d:q0r Tryz.prog 94 62 q5t q5v:=⟨_,_,Tryz.func94,rfl,by kernel_rfl,by kernel_rfl,rfl⟩
theorem z8R(x:Fnt)(hx:x.ok)(s:List UInt8)(hs:s.length≤1000000):q0s Tryz.prog 94 [x.d,.str s] (fun r=>r=z30 (z1H x s)):=by
 refine z1d.call rfl ?_; unfold z1H; cases hw:x.wide with
 |true=>
  have hxd:x.d=.agg [.bool true,.map (q2T x.ws) (q85 x.ws),.int .i64 x.miss,.map (q2T x.ns) (q8O x.ns),.list (q2e x.cs)]:=by unfold Fnt.d; rw[hw]
  simp only[if_true]; have zm:Int.tmod (s.length:Int) 2=((s.length % 2:Nat):Int):=rfl
  by_cases h2:s.length % 2=0
  ·rw[if_pos h2]; have z2:(0<((s.length % 2:Nat):Int))=False:=eq_false (by omega); simp(maxSteps:=2000000)only[go_sem,↓reduceIte,q5t,q5v,Fnt.d,hw,zm,z2]; refine q0l (fun i:Nat=>⟨[(1,.d (.str s)),(2,.ptr (.l 2) 0),(6,.d (.int .i64 2)),(7,.own (.t 7) 143 3 (q5N (q7z x (s.take i)))),(8,.d (.int .i64 i))],[(2,.cells [.d (.bool true),.d (.map (q2T x.ws) (q85 x.ws)),.d (.int .i64 x.miss),.d (.map (q2T x.ns) (q8O x.ns)),.d (.list (q2e x.cs))])],[]⟩)
    (fun i=>i≤s.length∧i % 2=0) (fun i=>s.length-i) 0 ?_ ?_ ?_
   ·refine Weak.mk ?_ ?_ ?_<;>simp(maxSteps:=2000000)only[go_sem,↓reduceIte,Sub,Int.natCast_add,Int.natCast_mul,q7z,q5N,List.take_zero,List.map_nil]
   ·exact⟨Nat.zero_le _,rfl⟩
   ·rintro i ⟨hi,hm⟩; simp(maxSteps:=2000000)only[go_sem,↓reduceIte]; refine⟨fun hlt=>?_,fun hge=>?_⟩
    ·obtain⟨a,ha⟩:=get_some (l:=s) (i:=i) (by omega); have ha8:=q4o a; obtain⟨b,hb⟩:=get_some (l:=s) (i:=i+1) (by omega); have hb8:=q4o b; have hb':getI s ((i:Int)+1)=some b:=by rw[z0X]; exact hb
     have htl:(s.take i).length=i:=by rw[List.length_take]; omega
     have hnext:q7z x (s.take (i+2))=q7z x (s.take i)++[sgnM x (256*(a.toNat:Int)+b.toNat)]:=by
      rw[show i+2=(i+1)+1 by omega,List.take_add_one,List.take_add_one,ha,hb]; simp only[Option.toList_some,List.append_assoc,List.cons_append,List.nil_append]; exact z5v x a b (s.take i) (by rw[htl]; exact hm)
     have hl1:=z1G x (s.take i); simp(maxSteps:=2000000)(disch:=omega)only[go_sem,↓reduceIte,q0a,ha,hb']; have hsl:=q2S (q7z x (s.take i)); refine q0c.lookup (kd:=.int .i64) (key:=.int .i64 (256*(a.toNat:Int)+b.toNat)) (zero:=.int .i64 0) rfl rfl j2V intT rfl (q9j _) j6t ?_; rw[z9q]
     have fin:∀ w:Int,(assoc x.ws (256*(a.toNat:Int)+b.toNat)).getD x.miss=w→q5N (q7z x (s.take i))++[.agg [.int .i64 (256*(a.toNat:Int)+b.toNat),.int .i64 w,.str (z4H x (256*(a.toNat:Int)+b.toNat))]]=q5N (q7z x (s.take (i+2))):=fun w h=>by
      rw[hnext,q99]; simp only[q5N,List.map_cons,List.map_nil,Sgn.d,sgnM,h]
     cases hq:assoc x.ws (256*(a.toNat:Int)+b.toNat)with
     |some w=>
      have f1:=fin w (by rw[hq]; rfl); simp only[Option.map_some,Option.getD_some,Option.isSome_some]; simp(maxSteps:=2000000)(disch:=omega)only[go_sem,↓reduceIte,hw]; have hcall:=q7g x hx (256*(a.toNat:Int)+b.toNat) (by omega); rw[hxd]at hcall; refine q0g.of hcall ?_; simp(maxSteps:=2000000)(disch:=omega)only[go_sem,↓reduceIte,hw,q2S]; refine⟨by omega,i+2,?_,⟨by omega,by omega⟩,by omega⟩; refine Weak.mk ?_ ?_ ?_<;>simp(maxSteps:=2000000)only[go_sem,↓reduceIte,Sub,Int.natCast_add,Int.natCast_mul,f1]
     |none=>
      have f1:=fin x.miss (by rw[hq]; rfl); simp only[Option.map_none,Option.getD_none,Option.isSome_none]; simp(maxSteps:=2000000)(disch:=omega)only[go_sem,↓reduceIte,hw]; have hcall:=q7g x hx (256*(a.toNat:Int)+b.toNat) (by omega); rw[hxd]at hcall; refine q0g.of hcall ?_; simp(maxSteps:=2000000)(disch:=omega)only[go_sem,↓reduceIte,hw,q2S]; refine⟨by omega,i+2,?_,⟨by omega,by omega⟩,by omega⟩; refine Weak.mk ?_ ?_ ?_<;>simp(maxSteps:=2000000)only[go_sem,↓reduceIte,Sub,Int.natCast_add,Int.natCast_mul,f1]
    ·have hi':i=s.length:=by omega
     subst hi'; rw[List.take_length]; rfl
  ·rw[if_neg h2]; have z2:(0<((s.length % 2:Nat):Int))=True:=eq_true (by omega); simp(maxSteps:=2000000)only[go_sem,↓reduceIte,q5t,q5v,Fnt.d,hw,zm,z2]; rfl
 |false=>
  have hxd:x.d=.agg [.bool false,.map (q2T x.ws) (q85 x.ws),.int .i64 x.miss,.map (q2T x.ns) (q8O x.ns),.list (q2e x.cs)]:=by unfold Fnt.d; rw[hw]
  simp only[Bool.false_eq_true,if_false]; have zm:Int.tmod (s.length:Int) 1=0:=by rw[Int.tmod_eq_emod]; simp
  simp(maxSteps:=2000000)only[go_sem,↓reduceIte,q5t,q5v,Fnt.d,hw,zm]; refine q0l (fun i:Nat=>⟨[(1,.d (.str s)),(2,.ptr (.l 2) 0),(6,.d (.int .i64 1)),(7,.own (.t 7) 143 3 (q5N (z0l x (s.take i)))),(8,.d (.int .i64 i))],[(2,.cells [.d (.bool false),.d (.map (q2T x.ws) (q85 x.ws)),.d (.int .i64 x.miss),.d (.map (q2T x.ns) (q8O x.ns)),.d (.list (q2e x.cs))])],[]⟩)
   (fun i=>i≤s.length∧i % 1=0) (fun i=>s.length-i) 0 ?_ ?_ ?_
  ·refine Weak.mk ?_ ?_ ?_<;>simp(maxSteps:=2000000)only[go_sem,↓reduceIte,Sub,Int.natCast_add,Int.natCast_mul,z0l,q5N,List.take_zero,List.map_nil]
  ·exact⟨Nat.zero_le _,rfl⟩
  ·rintro i ⟨hi,hm⟩; simp(maxSteps:=2000000)only[go_sem,↓reduceIte]; refine⟨fun hlt=>?_,fun hge=>?_⟩
   ·obtain⟨a,ha⟩:=get_some (l:=s) (i:=i) (by omega); have ha8:=q4o a; have hnext:z0l x (s.take (i+1))=z0l x (s.take i)++[sgnM x (a.toNat:Int)]:=by
     rw[List.take_add_one,ha]; simp[z0l]
    have hl1:(z0l x (s.take i)).length≤i:=by unfold z0l; rw[List.length_map,List.length_take]; omega
    simp(maxSteps:=2000000)(disch:=omega)only[go_sem,↓reduceIte,q0a,ha]; have hsl:=q2S (z0l x (s.take i)); refine q0c.lookup (kd:=.int .i64) (key:=.int .i64 (a.toNat:Int)) (zero:=.int .i64 0) rfl rfl j2V intT rfl (q9j _) j6t ?_; rw[z9q]; have fin:∀ w:Int,(assoc x.ws (a.toNat:Int)).getD x.miss=w→q5N (z0l x (s.take i))++[.agg [.int .i64 (a.toNat:Int),.int .i64 w,.str (z4H x (a.toNat:Int))]]=q5N (z0l x (s.take (i+1))):=fun w h=>by
     rw[hnext,q99]; simp only[q5N,List.map_cons,List.map_nil,Sgn.d,sgnM,h]
    cases hq:assoc x.ws (a.toNat:Int)with
    |some w=>
     have f1:=fin w (by rw[hq]; rfl); simp only[Option.map_some,Option.getD_some,Option.isSome_some]; simp(maxSteps:=2000000)(disch:=omega)only[go_sem,↓reduceIte,hw]; have hcall:=q7g x hx (a.toNat:Int) (by omega); rw[hxd]at hcall; refine q0g.of hcall ?_; simp(maxSteps:=2000000)(disch:=omega)only[go_sem,↓reduceIte,hw,q2S]; refine⟨by omega,i+1,?_,⟨by omega,by omega⟩,by omega⟩; refine Weak.mk ?_ ?_ ?_<;>simp(maxSteps:=2000000)only[go_sem,↓reduceIte,Sub,Int.natCast_add,Int.natCast_mul,f1]
    |none=>
     have f1:=fin x.miss (by rw[hq]; rfl); simp only[Option.map_none,Option.getD_none,Option.isSome_none]; simp(maxSteps:=2000000)(disch:=omega)only[go_sem,↓reduceIte,hw]; have hcall:=q7g x hx (a.toNat:Int) (by omega); rw[hxd]at hcall; refine q0g.of hcall ?_; simp(maxSteps:=2000000)(disch:=omega)only[go_sem,↓reduceIte,hw,q2S]; refine⟨by omega,i+1,?_,⟨by omega,by omega⟩,by omega⟩; refine Weak.mk ?_ ?_ ?_<;>simp(maxSteps:=2000000)only[go_sem,↓reduceIte,Sub,Int.natCast_add,Int.natCast_mul,f1]
   ·have hi':i=s.length:=by omega
    subst hi'; rw[List.take_length]; rfl
end Go.Av.Tryz
set_option linter.unusedSimpArgs false
set_option maxRecDepth 100000
namespace Go.Av.Tryz
open Go.Proofs
end Go.Av.Tryz
set_option linter.unusedSimpArgs false
set_option maxRecDepth 100000
namespace Go.Av.Tryz
open Go.Proofs
abbrev M6:=Int×Int×Int×Int×Int×Int
def m6D(m:M6):D:=mat m.1 m.2.1 m.2.2.1 m.2.2.2.1 m.2.2.2.2.1 m.2.2.2.2.2
structure PSt where
 ctm:M6
 font:Option Fnt
 size:Int
 char:Int
 word:Int
 scale:Int
 lead:Int
 rise:Int
structure Gph where
 text:List UInt8
 fr:Int×Int
 to:Int×Int
 size:Int
 box:Int×Int×Int×Int
def Gph.d(g:Gph):D:=.agg [.str g.text,I g.fr.1,I g.fr.2,I g.to.1,I g.to.2,I g.size,I g.box.1,I g.box.2.1,I g.box.2.2.1,I g.box.2.2.2]
def q2p(l:List Gph):List D:=l.map Gph.d
structure PT where
 s:PSt
 saved:List PSt
 tm:M6
 lm:M6
 inn:Bool
 out:List Gph
 bad:Nat
def q7y:Option Fnt→D
 |none=>.nilp
 |some x=>.pto [.bool x.wide,.map (q2T x.ws) (q85 x.ws),.int .i64 x.miss,.map (q2T x.ns) (q8O x.ns),.list (q2e x.cs)]
def PSt.d(s:PSt):D:=.agg [I s.ctm.1,I s.ctm.2.1,I s.ctm.2.2.1,I s.ctm.2.2.2.1,I s.ctm.2.2.2.2.1,I s.ctm.2.2.2.2.2,q7y s.font,I s.size,I s.char,I s.word,I s.scale,I s.lead,I s.rise]
def svV(l:List PSt):Option Nat→AV
 |none=>.ns
 |some c=>.rs (.x 1000) l.length c
def svO(l:List PSt):Option Nat→Option AObj
 |none=>none
 |some c=>some (.cells (rowC 13 (l.map PSt.d) c))
def outV:List Gph→AV
 |[]=>.ns
 |g::l=>.own (.c (.x 0) 28) 55 10 (q2p (g::l))
def pob(fd:D)(q:PT)(c:Option Nat):AObj:=
 .cells [.d fd,.d (I q.s.ctm.1),.d (I q.s.ctm.2.1),.d (I q.s.ctm.2.2.1),.d (I q.s.ctm.2.2.2.1),.d (I q.s.ctm.2.2.2.2.1),.d (I q.s.ctm.2.2.2.2.2),.d (q7y q.s.font),.d (I q.s.size),.d (I q.s.char),.d (I q.s.word),.d (I q.s.scale),.d (I q.s.lead),.d (I q.s.rise),
  svV q.saved c,.d (I q.tm.1),.d (I q.tm.2.1),.d (I q.tm.2.2.1),.d (I q.tm.2.2.2.1),.d (I q.tm.2.2.2.2.1),.d (I q.tm.2.2.2.2.2),.d (I q.lm.1),.d (I q.lm.2.1),.d (I q.lm.2.2.1),.d (I q.lm.2.2.2.1),.d (I q.lm.2.2.2.2.1),.d (I q.lm.2.2.2.2.2),
  .d (.bool q.inn),outV q.out,.d (errD q.bad)]
theorem q0e(fd:D)(q:PT)(c:Option Nat):PO (pob fd q c):=by
 obtain⟨s,saved,tm,lm,inn,out,bad⟩:=q; cases c<;>cases out<;>exact⟨rfl,rfl,rfl⟩
theorem z2Y(l:List PSt)(c:Option Nat):rowM (svO l c)=true:=by
 cases c with
 |none=>rfl
 |some c=>exact q66 13 _ c
theorem q0P(m:Option AObj):aget (mob m) 1000=m:=by cases m<;>rfl
attribute [go_sem] q0P z2Y
def errO{α:Type}(o:Option α):Nat:=if o.isNone=true then 1 else 0
def orE(n e:Nat):Nat:=if n=0 then e else n
def PT.er(q:PT)(e:Nat):PT:={ q with bad:=orE q.bad e }
def q0z:q0i:=
 .seq (.reg [Qc 4 0,Q 5 (.nck (.t 4)),Q 6 (.fa 29 (.t 5)),Q 7 (.ld false 1 (.t 6)),Q 8 (.eqN 0 false (.t 7))]) (.cond (.t 8) (.reg [Qc 9 0,Qc 10 1,Q 11 (.nck (.t 9)),Q 12 
 (.fa 29 (.t 11)),⟨none,.st 1 (.t 12) (.t 10),none⟩]) .skip)
def q0A:List LRes:=[]
theorem q2V:q0r Tryz.prog 66 13 q0z q0A:=⟨_,_,Tryz.func66,rfl,by kernel_rfl,by kernel_rfl,rfl⟩
theorem q54(fd:D)(q:PT)(c:Option Nat)(e:Nat){m:Option AObj}(hm:rowM m=true):MVE Tryz.prog 66 [.ptr (.x 0) 0,.d (errD e)] [pob fd q c] m (.tuple []) [pob fd (q.er e) c] m:=by
 refine q2V.mv (by kernel_rfl) rfl rfl ?_; generalize hM:mob m=M; have ha:aget M 1000=m:=hM▸q0P m; have hn:=hm; unfold rowM at hn; have hMM:∀ o:AObj,Sub ((0,o)::M) ((0,o)::M):=fun o=>hM▸subM o m
 by_cases h:q.bad=0
 ·have e1:q.er e={ q with bad:=e }:=by simp[PT.er,orE,h]
  rw[e1]; simp only[pob,h,show errD 0=.nil from rfl]
  by_cases he:e=0
  ·subst he; simp(maxSteps:=2000000)only[go_sem,↓reduceIte,q0z,q0A,ha,hn,show errD 0=.nil from rfl]
  ·rw[q13 he]; simp(maxSteps:=2000000)only[go_sem,↓reduceIte,q0z,q0A,ha,hn]
 ·have e1:q.er e=q:=by simp[PT.er,orE,h]
  rw[e1]; simp only[pob,q13 h]; simp(maxSteps:=2000000)only[go_sem,↓reduceIte,q0z,q0A,ha,hn]
def q1Q:q0i:=
 .seq (.reg [Qx 6 (Ki 0)]) (.seq (.reg [Qc 10 1,Qc 11 2,⟨some 12,.call 120 [.t 10,.t 11],none⟩,Qc 9 12,Q 13 (.ext 0 (.t 9)),Q 14 (.ext 1 (.t 9)),Qa 7 13,Qa 8 14]) (.seq 
 (.reg [Qc 15 0,Qc 16 8,⟨some 17,.prim .call [.k (.fn (.func 66) [] []),.t 15,.t 16] [],none⟩]) (.seq (.reg [Qc 18 7,Qa 6 18]) .ret)))
def q1W:List LRes:=[.tmp 6]
theorem q3b:q0r Tryz.prog 97 19 q1Q q1W:=⟨_,_,Tryz.func97,rfl,by kernel_rfl,by kernel_rfl,rfl⟩
theorem pmul(fd:D)(q:PT)(c:Option Nat)(a b:Int){m:Option AObj}(hm:rowM m=true):MVE Tryz.prog 97 [.ptr (.x 0) 0,.d (I a),.d (I b)] [pob fd q c] m (.d (I ((mulF a b).getD 0))) [pob fd (q.er (errO (mulF a b))) c] m:=by
 refine q3b.mv (by kernel_rfl) rfl rfl ?_; generalize hM:mob m=M; have ha:aget M 1000=m:=hM▸q0P m; have hn:=hm; unfold rowM at hn; have hMM:∀ o:AObj,Sub ((0,o)::M) ((0,o)::M):=fun o=>hM▸subM o m
 simp(maxSteps:=2000000)only[go_sem,↓reduceIte,q1Q,q1W,I]; refine q0g.of (j21 a b) ?_; have e:intE (mulF a b)=.tup [I ((mulF a b).getD 0),errD (errO (mulF a b))]:=by cases mulF a b<;>rfl
 rw[e]; simp(maxSteps:=2000000)only[go_sem,↓reduceIte,ha,hn,I]; refine q0c.poM rfl (q54 _ _ _ _ hm) (q0e _ _ _) (q0e _ _ _) hm hM rfl rfl rfl ⟨⟨rfl,rfl⟩,rfl⟩ ?_; simp(maxSteps:=2000000)only[go_sem,↓reduceIte,ha,hn]
def q1P:q0i:=
 .seq (.reg [Qx 6 (Ki 0)]) (.seq (.reg [Qc 10 1,Qc 11 2,⟨some 12,.call 135 [.t 10,.t 11],none⟩,Qc 9 12,Q 13 (.ext 0 (.t 9)),Q 14 (.ext 1 (.t 9)),Qa 7 13,Qa 8 14]) (.seq 
 (.reg [Qc 15 0,Qc 16 8,⟨some 17,.prim .call [.k (.fn (.func 66) [] []),.t 15,.t 16] [],none⟩]) (.seq (.reg [Qc 18 7,Qa 6 18]) .ret)))
def q1V:List LRes:=[.tmp 6]
theorem q3a:q0r Tryz.prog 119 19 q1P q1V:=⟨_,_,Tryz.func119,rfl,by kernel_rfl,by kernel_rfl,rfl⟩
theorem padd(fd:D)(q:PT)(c:Option Nat)(a b:Int){m:Option AObj}(hm:rowM m=true):MVE Tryz.prog 119 [.ptr (.x 0) 0,.d (I a),.d (I b)] [pob fd q c] m (.d (I ((addF a b).getD 0))) [pob fd (q.er (errO (addF a b))) c] m:=by
 refine q3a.mv (by kernel_rfl) rfl rfl ?_; generalize hM:mob m=M; have ha:aget M 1000=m:=hM▸q0P m; have hn:=hm; unfold rowM at hn; have hMM:∀ o:AObj,Sub ((0,o)::M) ((0,o)::M):=fun o=>hM▸subM o m
 simp(maxSteps:=2000000)only[go_sem,↓reduceIte,q1P,q1V,I]; refine q0g.of (j12 a b) ?_; have e:intE (addF a b)=.tup [I ((addF a b).getD 0),errD (errO (addF a b))]:=by cases addF a b<;>rfl
 rw[e]; simp(maxSteps:=2000000)only[go_sem,↓reduceIte,ha,hn,I]; refine q0c.poM rfl (q54 _ _ _ _ hm) (q0e _ _ _) (q0e _ _ _) hm hM rfl rfl rfl ⟨⟨rfl,rfl⟩,rfl⟩ ?_; simp(maxSteps:=2000000)only[go_sem,↓reduceIte,ha,hn]
def m60:M6:=(0,0,0,0,0,0)
def q8b:M6:=(1000,0,0,1000,0,0)
def catF(a b:M6):Option M6:=q9b a.1 a.2.1 a.2.2.1 a.2.2.2.1 a.2.2.2.2.1 a.2.2.2.2.2 b.1 b.2.1 b.2.2.1 b.2.2.2.1 b.2.2.2.2.1 b.2.2.2.2.2
def appF(a:M6)(x y:Int):Option (Int×Int):=z4t a.1 a.2.1 a.2.2.1 a.2.2.2.1 a.2.2.2.2.1 a.2.2.2.2.2 x y
def q1i:q0i:=
 .seq (.reg [⟨some 4,.box (.t 1),none⟩,⟨some 5,.box (.t 2),none⟩,⟨some 6,.allo [.int .i64 0,.int .i64 0,.int .i64 0,.int .i64 0,.int .i64 0,.int .i64 0],none⟩]) (.seq 
 (.reg [Q 10 (.ld true 6 (.t 4)),Q 11 (.ld true 6 (.t 5)),⟨some 12,.call 67 [.t 10,.t 11],none⟩,Qc 9 12,Q 13 (.ext 0 (.t 9)),Q 14 (.ext 1 (.t 9)),⟨some 7,.allo [.int 
 .i64 0,.int .i64 0,.int .i64 0,.int .i64 0,.int .i64 0,.int .i64 0],none⟩,⟨none,.st 6 (.t 7) (.t 13),none⟩,Qa 8 14]) (.seq (.reg [Qc 15 0,Qc 16 8,⟨some 17,.prim 
 .call [.k (.fn (.func 66) [] []),.t 15,.t 16] [],none⟩]) (.seq (.reg [Q 18 (.ld true 6 (.t 7)),⟨none,.st 6 (.t 6) (.t 18),none⟩]) .ret)))
def q1m:List LRes:=[.cell 6 true 6]
theorem q2H:q0r Tryz.prog 45 19 q1i q1m:=⟨_,_,Tryz.func45,rfl,by kernel_rfl,by kernel_rfl,rfl⟩
theorem z3M(fd:D)(q:PT)(c:Option Nat)(a b:M6){m:Option AObj}(hm:rowM m=true):MVE Tryz.prog 45 [.ptr (.x 0) 0,.d (m6D a),.d (m6D b)] [pob fd q c] m (.d (m6D ((catF a b).getD m60))) [pob fd (q.er (errO (catF a b))) c] m:=by
 refine q2H.mv (by kernel_rfl) rfl rfl ?_; generalize hM:mob m=M; have ha:aget M 1000=m:=hM▸q0P m; have hn:=hm; unfold rowM at hn; have hMM:∀ o:AObj,Sub ((0,o)::M) ((0,o)::M):=fun o=>hM▸subM o m
 simp(maxSteps:=2000000)only[go_sem,↓reduceIte,q1i,q1m,m6D,mat,I]; refine q0g.of (z5Q (a:=a.1) (b:=a.2.1) (c:=a.2.2.1) (d:=a.2.2.2.1) (e:=a.2.2.2.2.1) (f:=a.2.2.2.2.2) (p:=b.1) (q:=b.2.1) (r:=b.2.2.1) (s:=b.2.2.2.1) (t:=b.2.2.2.2.1) (u:=b.2.2.2.2.2)) ?_; have e:matE (catF a b)=.tup [m6D ((catF a b).getD m60),errD (errO (catF a b))]:=by cases catF a b<;>rfl
 rw[show q9b a.1 a.2.1 a.2.2.1 a.2.2.2.1 a.2.2.2.2.1 a.2.2.2.2.2 b.1 b.2.1 b.2.2.1 b.2.2.2.1 b.2.2.2.2.1 b.2.2.2.2.2=catF a b from rfl,e]; simp(maxSteps:=2000000)only[go_sem,↓reduceIte,ha,hn,m6D,mat,I]; refine q0c.poM rfl (q54 _ _ _ _ hm) (q0e _ _ _) (q0e _ _ _) hm hM rfl rfl rfl ⟨⟨rfl,rfl⟩,rfl⟩ ?_; simp(maxSteps:=2000000)only[go_sem,↓reduceIte,ha,hn]
def q1s:q0i:=
 .seq (.reg [⟨some 5,.box (.t 1),none⟩,⟨some 8,.allo [.int .i64 0,.int .i64 0],none⟩]) (.seq (.reg [Q 12 (.ld true 6 (.t 5)),Qc 13 2,Qc 14 3,Q 15 (.bld [(0,1),(1,1)] 
 [.int .i64 0,.int .i64 0] [] [(0,.t 13),(1,.t 14)]),⟨some 16,.call 134 [.t 12,.t 15],none⟩,Qc 11 16,Q 17 (.ext 0 (.t 11)),Q 18 (.ext 1 (.t 11)),⟨some 9,.allo [.int 
 .i64 0,.int .i64 0],none⟩,⟨none,.st 2 (.t 9) (.t 17),none⟩,Qa 10 18]) (.seq (.reg [Qc 19 0,Qc 20 10,⟨some 21,.prim .call [.k (.fn (.func 66) [] []),.t 19,.t 20] [], 
 none⟩]) (.seq (.reg [Q 22 (.ld true 2 (.t 9)),⟨none,.st 2 (.t 8) (.t 22),none⟩]) .ret)))
def q1w:List LRes:=[.cell 8 true 2]
theorem q2O:q0r Tryz.prog 117 23 q1s q1w:=⟨_,_,Tryz.func117,rfl,by kernel_rfl,by kernel_rfl,rfl⟩
theorem j6K(fd:D)(q:PT)(c:Option Nat)(a:M6)(x y:Int){m:Option AObj}(hm:rowM m=true):MVE Tryz.prog 117 [.ptr (.x 0) 0,.d (m6D a),.d (I x),.d (I y)] [pob fd q c] m (.d (pt ((appF a x y).getD (0,0)).1 ((appF a x y).getD (0,0)).2)) [pob fd (q.er (errO (appF a x y))) c] m:=by
 refine q2O.mv (by kernel_rfl) rfl rfl ?_; generalize hM:mob m=M; have ha:aget M 1000=m:=hM▸q0P m; have hn:=hm; unfold rowM at hn; have hMM:∀ o:AObj,Sub ((0,o)::M) ((0,o)::M):=fun o=>hM▸subM o m
 simp(maxSteps:=2000000)only[go_sem,↓reduceIte,q1s,q1w,m6D,mat,I]; refine q0g.of (z8b (a:=a.1) (b:=a.2.1) (c:=a.2.2.1) (d:=a.2.2.2.1) (e:=a.2.2.2.2.1) (f:=a.2.2.2.2.2) (x:=x) (y:=y)) ?_; have e:ptE (appF a x y)=.tup [pt ((appF a x y).getD (0,0)).1 ((appF a x y).getD (0,0)).2,errD (errO (appF a x y))]:=by cases appF a x y<;>rfl
 rw[show z4t a.1 a.2.1 a.2.2.1 a.2.2.2.1 a.2.2.2.2.1 a.2.2.2.2.2 x y=appF a x y from rfl,e]; simp(maxSteps:=2000000)only[go_sem,↓reduceIte,ha,hn,pt,I]; refine q0c.poM rfl (q54 _ _ _ _ hm) (q0e _ _ _) (q0e _ _ _) hm hM rfl rfl rfl ⟨⟨rfl,rfl⟩,rfl⟩ ?_; simp(maxSteps:=2000000)only[go_sem,↓reduceIte,ha,hn]
end Go.Av.Tryz
set_option linter.unusedSimpArgs false
set_option maxRecDepth 100000
namespace Go.Av.Tryz
open Go.Proofs
def PT.mv(q:PT)(x y:Int):PT:={ q.er (errO (catF (1000,0,0,1000,x,y) q.lm))with lm:=(catF (1000,0,0,1000,x,y) q.lm).getD m60,tm:=(catF (1000,0,0,1000,x,y) q.lm).getD m60 }
def PT.on(q:PT)(x:Int):PT:={ q.er (errO (catF (1000,0,0,1000,x,0) q.tm))with tm:=(catF (1000,0,0,1000,x,0) q.tm).getD m60 }
def q1B:q0i:=
 .seq (.reg [Qc 6 0,Qc 7 0,Qc 8 1,Qc 9 2,Q 10 (.bld [(0,1),(1,1),(2,1),(3,1),(4,1),(5,1)] [.int .i64 0,.int .i64 0,.int .i64 0,.int .i64 0,.int .i64 0,.int .i64 
 0] [] [(0,.k (.d (.int .i64 1000))),(3,.k (.d (.int .i64 1000))),(4,.t 8),(5,.t 9)]),Qc 11 0,Q 12 (.nck (.t 11)),Q 13 (.fa 21 (.t 12)),Q 14 (.ld true 6 (.t 13)),⟨some 
 15,.prim .call [.k (.fn (.func 45) [] []),.t 7,.t 10,.t 14] [],none⟩,Q 16 (.nck (.t 6)),Q 17 (.fa 21 (.t 16)),⟨none,.st 6 (.t 17) (.t 15),none⟩]) (.reg [Qc 18 0,Qc 19 
 0,Q 20 (.nck (.t 19)),Q 21 (.fa 21 (.t 20)),Q 22 (.ld true 6 (.t 21)),Q 23 (.nck (.t 18)),Q 24 (.fa 15 (.t 23)),⟨none,.st 6 (.t 24) (.t 22),none⟩])
def q1H:List LRes:=[]
theorem q2X:q0r Tryz.prog 68 25 q1B q1H:=⟨_,_,Tryz.func68,rfl,by kernel_rfl,by kernel_rfl,rfl⟩
theorem j3i(fd:D)(q:PT)(c:Option Nat)(x y:Int){m:Option AObj}(hm:rowM m=true):MVE Tryz.prog 68 [.ptr (.x 0) 0,.d (I x),.d (I y)] [pob fd q c] m (.tuple []) [pob fd (q.mv x y) c] m:=by
 refine q2X.mv (by kernel_rfl) rfl rfl ?_; generalize hM:mob m=M; have ha:aget M 1000=m:=hM▸q0P m; have hn:=hm; unfold rowM at hn; have hMM:∀ o:AObj,Sub ((0,o)::M) ((0,o)::M):=fun o=>hM▸subM o m
 simp(maxSteps:=2000000)only[go_sem,↓reduceIte,q1B,q1H,I,pob]; refine q0c.poM rfl (z3M fd q c (1000,0,0,1000,x,y) q.lm hm) (q0e _ _ _) (q0e _ _ _) hm hM rfl rfl rfl ⟨⟨rfl,rfl⟩,rfl⟩ ?_; simp(maxSteps:=2000000)only[go_sem,↓reduceIte,pob,PT.er,m6D,mat,I,ha,hn]; rfl
def q16:q0i:=
 .reg [Qc 4 0,Qc 5 0,Qc 6 1,Q 7 (.bld [(0,1),(1,1),(2,1),(3,1),(4,1),(5,1)] [.int .i64 0,.int .i64 0,.int .i64 0,.int .i64 0,.int .i64 0,.int .i64 0] [] [(0,.k 
 (.d (.int .i64 1000))),(3,.k (.d (.int .i64 1000))),(4,.t 6)]),Qc 8 0,Q 9 (.nck (.t 8)),Q 10 (.fa 15 (.t 9)),Q 11 (.ld true 6 (.t 10)),⟨some 12,.prim .call [.k (.fn 
 (.func 45) [] []),.t 5,.t 7,.t 11] [],none⟩,Q 13 (.nck (.t 4)),Q 14 (.fa 15 (.t 13)),⟨none,.st 6 (.t 14) (.t 12),none⟩]
def q19:List LRes:=[]
theorem q3q:q0r Tryz.prog 96 15 q16 q19:=⟨_,_,Tryz.func96,rfl,by kernel_rfl,by kernel_rfl,rfl⟩
theorem pon(fd:D)(q:PT)(c:Option Nat)(x:Int){m:Option AObj}(hm:rowM m=true):MVE Tryz.prog 96 [.ptr (.x 0) 0,.d (I x)] [pob fd q c] m (.tuple []) [pob fd (q.on x) c] m:=by
 refine q3q.mv (by kernel_rfl) rfl rfl ?_; generalize hM:mob m=M; have ha:aget M 1000=m:=hM▸q0P m; have hn:=hm; unfold rowM at hn; have hMM:∀ o:AObj,Sub ((0,o)::M) ((0,o)::M):=fun o=>hM▸subM o m
 simp(maxSteps:=2000000)only[go_sem,↓reduceIte,q16,q19,I,pob]; refine q0c.poM rfl (z3M fd q c (1000,0,0,1000,x,0) q.tm hm) (q0e _ _ _) (q0e _ _ _) hm hM rfl rfl rfl ⟨⟨rfl,rfl⟩,rfl⟩ ?_; simp(maxSteps:=2000000)only[go_sem,↓reduceIte,pob,PT.er,m6D,mat,I,ha,hn]; rfl
def PT.tx(q:PT)(b:Bool):PT:={ (if q.inn=b then q.er 10 else q)with inn:=b,tm:=q8b,lm:=q8b }
def q1C:q0i:=
 .seq (.seq (.reg [Qc 4 0,Q 5 (.nck (.t 4)),Q 6 (.fa 27 (.t 5)),Q 7 (.ld false 1 (.t 6)),Qc 8 1,Q 9 (.eqB false (.t 7) (.t 8))]) (.cond (.t 9) (.reg [Qc 10 0,Q 11 (.mkI 76 (Ki 
 10)),⟨some 12,.prim .call [.k (.fn (.func 66) [] []),.t 10,.t 11] [],none⟩]) .skip)) (.reg [Qc 13 0,Qc 14 0,Qc 15 0,Qc 16 1,⟨some 17,.call 30 [],none⟩,⟨some 18,.call 
 30 [],none⟩,Q 19 (.nck (.t 13)),Q 20 (.fa 27 (.t 19)),⟨none,.st 1 (.t 20) (.t 16),none⟩,Q 21 (.nck (.t 14)),Q 22 (.fa 15 (.t 21)),⟨none,.st 6 (.t 22) (.t 17),none⟩,Q 
 23 (.nck (.t 15)),Q 24 (.fa 21 (.t 23)),⟨none,.st 6 (.t 24) (.t 18),none⟩])
def q1I:List LRes:=[]
theorem q20:q0r Tryz.prog 47 25 q1C q1I:=⟨_,_,Tryz.func47,rfl,by kernel_rfl,by kernel_rfl,rfl⟩
theorem j6Q(fd:D)(q:PT)(c:Option Nat)(b:Bool){m:Option AObj}(hm:rowM m=true):MVE Tryz.prog 47 [.ptr (.x 0) 0,.d (.bool b)] [pob fd q c] m (.tuple []) [pob fd (q.tx b) c] m:=by
 refine q20.mv (by kernel_rfl) rfl rfl ?_; generalize hM:mob m=M; have ha:aget M 1000=m:=hM▸q0P m; have hn:=hm; unfold rowM at hn; have hMM:∀ o:AObj,Sub ((0,o)::M) ((0,o)::M):=fun o=>hM▸subM o m
 simp(maxSteps:=2000000)only[go_sem,↓reduceIte,q1C,q1I,I,pob]; refine⟨fun h=>?_,fun h=>?_⟩
 ·have e:q.tx b={ q.er 10 with inn:=b,tm:=q8b,lm:=q8b }:=by simp[PT.tx,h]
  refine q0c.poM rfl (q54 fd q c 10 hm) (q0e _ _ _) (q0e _ _ _) hm hM rfl rfl rfl ⟨⟨rfl,rfl⟩,rfl⟩ ?_; simp(maxSteps:=2000000)only[go_sem,↓reduceIte,pob,I]; refine q0g.of q5n ?_; simp(maxSteps:=2000000)only[go_sem,↓reduceIte]; refine q0g.of q5n ?_; simp(maxSteps:=2000000)only[go_sem,↓reduceIte,mat,I,ha,hn]; rw[e]; rfl
 ·have e:q.tx b={ q with inn:=b,tm:=q8b,lm:=q8b }:=by simp[PT.tx,h]
  refine q0g.of q5n ?_; simp(maxSteps:=2000000)only[go_sem,↓reduceIte]; refine q0g.of q5n ?_; simp(maxSteps:=2000000)only[go_sem,↓reduceIte,mat,I,ha,hn]; rw[e]; rfl
theorem gI0{a:D}{l:List D}:getI (a::l) 0=some a:=rfl
theorem gI1{a b:D}{l:List D}:getI (a::b::l) 1=some b:=rfl
theorem gI2{a b c:D}{l:List D}:getI (a::b::c::l) 2=some c:=rfl
theorem gI3{a b c d:D}{l:List D}:getI (a::b::c::d::l) 3=some d:=rfl
theorem gI4{a b c d e:D}{l:List D}:getI (a::b::c::d::e::l) 4=some e:=rfl
theorem gI5{a b c d e f:D}{l:List D}:getI (a::b::c::d::e::f::l) 5=some f:=rfl
attribute [go_sem] gI0 gI1 gI2 gI3 gI4 gI5
def q24:q0i:=
 .seq (.reg [⟨some 2,.allo [.int .i64 0,.int .i64 0,.int .i64 0,.int .i64 0,.int .i64 0,.int .i64 0],none⟩]) (.seq (.dreg [Qc 3 0,Q 4 (.ia 1 (.t 3) (Ki 0)),Q 5 (.ld false 1 
 (.t 4)),Qc 6 0,Q 7 (.ia 1 (.t 6) (Ki 1)),Q 8 (.ld false 1 (.t 7)),Qc 9 0,Q 10 (.ia 1 (.t 9) (Ki 2)),Q 11 (.ld false 1 (.t 10)),Qc 12 0,Q 13 (.ia 1 (.t 12) (Ki 3)),Q 14 
 (.ld false 1 (.t 13)),Qc 15 0,Q 16 (.ia 1 (.t 15) (Ki 4)),Q 17 (.ld false 1 (.t 16)),Qc 18 0,Q 19 (.ia 1 (.t 18) (Ki 5)),Q 20 (.ld false 1 (.t 19)),Q 21 (.bld [(0,1),(1, 
 1),(2,1),(3,1),(4,1),(5,1)] [.int .i64 0,.int .i64 0,.int .i64 0,.int .i64 0,.int .i64 0,.int .i64 0] [] [(0,.t 5),(1,.t 8),(2,.t 11),(3,.t 14),(4,.t 17), 
 (5,.t 20)]),⟨none,.st 6 (.t 2) (.t 21),none⟩]) .ret)
def q26:List LRes:=[.cell 2 true 6]
theorem q4J:q0r Tryz.prog 46 22 q24 q26:=⟨_,_,Tryz.func46,rfl,by kernel_rfl,by kernel_rfl,rfl⟩
theorem j1f(a b c d e f:Int):q0s Tryz.prog 46 [.list [I a,I b,I c,I d,I e,I f]] (fun r=>r=.one (m6D (a,b,c,d,e,f))):=by
 refine q4J.call rfl ?_; simp(maxSteps:=2000000)only[go_sem,↓reduceIte,q24,q26,I,m6D,mat]
end Go.Av.Tryz
set_option linter.unusedSimpArgs false
set_option maxRecDepth 100000
namespace Go.Av.Tryz
open Go.Proofs
structure OpV where
 nm:List UInt8
 args:List Val
def OpV.d(o:OpV):D:=.agg [.str o.nm,.list (q0K o.args)]
def z2g(l:List Val):List Int:=l.filterMap fun v=>if v.kind=2 then some v.n else none
def nmD(l:List Int):List D:=l.map fun n=>.int .i64 n
theorem z6x(l:List Int):(nmD l).length=l.length:=by simp[nmD]
def q8R(l:List Val)(k:Nat):Option (List Int):=if(z2g l).length=k∧l.length=k then some (z2g l)else none
def kErr{α:Type}(o:Option α):Nat:=if o.isNone=true then 8 else 0
def q33(l:List Val)(k:Nat):List Int:=(q8R l k).getD (List.replicate k 0)
theorem z8B(l:List Val)(v:Val):z2g (l++[v])=z2g l++(if v.kind=2 then[v.n]else[]):=by
 simp only[z2g,List.filterMap_append]; congr 1
 by_cases h:v.kind=2<;>simp[h]
theorem j25(l:List Val):(z2g l).length≤l.length:=List.length_filterMap_le _ _
theorem er0(q:PT):q.er 0=q:=by
 obtain⟨s,saved,tm,lm,inn,out,bad⟩:=q; unfold PT.er orE
 by_cases h:bad=0<;>simp[h]
def q1c:q0i:=
 .seq (.reg [⟨some 4,.box (.t 1),none⟩,⟨some 6,.nils 3 1,none⟩]) (.seq (.reg [⟨some 7,.nils 3 1,none⟩]) (.seq (.seq (.reg [Q 10 (.fa 1 (.t 4)),Q 11 (.ld false 1 (.t 10)),Q 
 12 (.len false (.t 11)),Q 13 (.cp (Ki 0))]) (.block 0 (.loop (.seq (.reg [Q 14 (.bin .lss (.t 13) (.t 12))]) (.seq (.cond (.t 14) .skip (.exit 0)) (.seq (.block 1 (.seq (.reg [Q 
 15 (.ia 5 (.t 11) (.t 13)),Q 16 (.ld true 5 (.t 15)),⟨some 9,.allo [.int .i64 0,.int .i64 0,.str [],.list [],.list []],none⟩,⟨none,.st 5 (.t 9) (.t 16),none⟩]) (.seq 
 (.reg [Q 17 (.fa 0 (.t 9)),Q 18 (.ld false 1 (.t 17)),Q 19 (.bin .eql (.t 18) (Ki 2))]) (.cond (.t 19) (.reg [Qc 20 7,Q 21 (.fa 1 (.t 9)),Q 22 (.ld false 1 (.t 21)),⟨some 
 23,.bsl 3 1 [.t 22],none⟩,⟨some 24,.app 3 1 8 false (.t 20) (.t 23),none⟩,Qa 7 24]) .skip)))) (.reg [Q 25 (.bin .add (.t 13) (Ki 1)),Qc 13 25]))))))) (.seq (.seq (.reg [Qc 
 26 7,Q 27 (.len false (.t 26)),Qc 28 2,Q 29 (.bin .neq (.t 27) (.t 28)),Qc 30 29,Qg 31 (.fa 1 (.t 4)) 30 false,Qg 32 (.ld false 1 (.t 31)) 30 false,Qg 33 (.len false (.t 
 32)) 30 false,Qd 34 2 30 false,Qg 35 (.bin .neq (.t 33) (.t 34)) 30 false,Q 36 (.pick (.t 30) KT (.t 35))]) (.cond (.t 36) (.seq (.reg [Qc 37 0,Q 38 (.mkI 76 (Ki 8)),⟨some 
 39,.prim .call [.k (.fn (.func 66) [] []),.t 37,.t 38] [],none⟩]) (.seq (.reg [Qc 40 2,⟨some 41,.prim (.mkSlice 96) [.t 40,.t 40] [],none⟩,Qa 6 41]) .ret)) .skip)) (.seq 
 (.reg [Qc 42 7,Qa 6 42]) .ret))))
def q1e:List LRes:=[.tmp 6]
theorem q2C:q0r Tryz.prog 43 43 q1c q1e:=⟨_,_,Tryz.func43,rfl,by kernel_rfl,by kernel_rfl,rfl⟩
theorem q7o(fd:D)(q:PT)(c:Option Nat)(o:OpV)(k:Nat)(hl:o.args.length≤1000)(hk:k≤10){m:Option AObj}(hm:rowM m=true):
  MVE Tryz.prog 43 [.ptr (.x 0) 0,.d o.d,.d (I k)] [pob fd q c] m (.d (.list (nmD (q33 o.args k)))) [pob fd (q.er (kErr (q8R o.args k))) c] m:=by
 refine q2C.mv (by kernel_rfl) rfl rfl ?_; generalize hM:mob m=M; have ha:aget M 1000=m:=hM▸q0P m; have hn:=hm; unfold rowM at hn; have hMM:∀ o:AObj,Sub ((0,o)::M) ((0,o)::M):=fun o=>hM▸subM o m
 simp(maxSteps:=2000000)only[go_sem,↓reduceIte,q1c,q1e,I,OpV.d]; have hvl:=q2f o.args; refine q0l (fun i:Nat=>⟨[(0,.ptr (.x 0) 0),(2,.d (.int .i64 k)),(4,.ptr (.l 4) 0),(6,.own (.t 6) 3 1 []),(7,.own (.t 7) 3 1 (nmD (z2g (o.args.take i)))),(11,.d (.list (q0K o.args))),(12,.d (.int .i64 o.args.length)),(13,.d (.int .i64 i))],[(4,.cells [.d (.str o.nm),.d (.list (q0K o.args))])],(0,pob fd q c)::M⟩)
  (fun i=>i≤o.args.length) (fun i=>o.args.length-i) 0 ?_ (Nat.zero_le _) ?_
 ·refine Weak.mk ?_ ?_ (hMM _)<;>simp(maxSteps:=2000000)only[go_sem,↓reduceIte,Sub,Int.natCast_add,Int.natCast_mul,hvl]; rfl
 ·intro i hi; simp(maxSteps:=2000000)(disch:=omega)only[go_sem,↓reduceIte]; refine⟨fun hlt=>?_,fun hge=>?_⟩
  ·obtain⟨v,hv⟩:=get_some (l:=o.args) (i:=i) (by omega); have htk:o.args.take (i+1)=o.args.take i++[v]:=by rw[List.take_add_one,hv]; rfl
   have hno:=z8B (o.args.take i) v; have hg:getI (q0K o.args) (i:Int)=some v.d:=by rw[q0a,q7b,hv]; rfl
   simp(maxSteps:=2000000)(disch:=omega)only[go_sem,↓reduceIte,hg,Val.d_eq]; refine⟨fun h2=>?_,fun h2=>?_⟩
   ·have hb1:=j25 (o.args.take i); have hb2:=z6x (z2g (o.args.take i)); rw[List.length_take]at hb1; refine⟨⟨by omega,by omega⟩,i+1,?_,by omega,by omega⟩; rw[htk,hno,if_pos h2]; refine Weak.mk ?_ ?_ (hMM _)<;>simp(maxSteps:=2000000)only[go_sem,↓reduceIte,Sub,Int.natCast_add,Int.natCast_mul,nmD,List.map_append,List.map_cons,List.map_nil]
   ·refine⟨i+1,?_,by omega,by omega⟩; rw[htk,hno,if_neg h2,List.append_nil]; refine Weak.mk ?_ ?_ (hMM _)<;>simp(maxSteps:=2000000)only[go_sem,↓reduceIte,Sub,Int.natCast_add,Int.natCast_mul]
  ·have hie:i=o.args.length:=by omega
   subst hie; have hnl:=z6x (z2g o.args); rw[List.take_length,hnl,hvl]; refine⟨fun h1=>⟨fun h2=>?_,fun h2=>?_⟩,fun h1=>?_⟩
   rotate_left
   ·have e:q8R o.args k=some (z2g o.args):=if_pos ⟨by omega,by omega⟩; simp only[q33,e,kErr,Option.getD_some,Option.isNone_some,Bool.false_eq_true,↓reduceIte,er0,ha,and_true,true_and]; exact hn
   rotate_left
   all_goals
    have e:q8R o.args k=none:=if_neg (by omega); simp only[q33,e,kErr,Option.getD_none,Option.isNone_none,↓reduceIte]; refine q0c.poM rfl (q54 fd q c 8 hm) (q0e _ _ _) (q0e _ _ _) hm hM rfl rfl rfl ⟨⟨rfl,rfl⟩,rfl⟩ ?_; simp(maxSteps:=2000000)only[go_sem,↓reduceIte]; refine q0c.mkData (n:=k) (z:=.int .i64 0) (zv:=.int .i64 0) 41 rfl rfl (show q28 Tryz.prog 96=some (3,1,8) by kernel_rfl) (by kernel_rfl) rfl rfl (fun f w=>.int _ _) (by omega) (by omega) rfl (z3F (q0e _ _ _).no hm hM) ?_
    simp(maxSteps:=2000000)only[go_sem,↓reduceIte,ha,hn]; simp[nmD]
def strM:List Val→Option (List UInt8)
 |[v]=>if v.kind=3 then some v.s else none
 |_=>none
theorem j1K{l:List Val}(h:l.length≠1):strM l=none:=by
 match l with
 |[]=>rfl
 |[v]=>simp at h
 |_::_::_=>rfl
def q1R:q0i:=
 .seq (.reg [⟨some 4,.box (.t 1),none⟩,Qx 6 (.k (.d (.str [])))]) (.seq (.seq (.reg [Q 7 (.fa 1 (.t 4)),Q 8 (.ld false 1 (.t 7)),Q 9 (.len false (.t 8)),Qc 10 2,Q 11 (.bin 
 .add (.t 10) (Ki 1)),Q 12 (.bin .neq (.t 9) (.t 11)),Qc 13 12,Qg 14 (.fa 1 (.t 4)) 13 false,Qg 15 (.ld false 1 (.t 14)) 13 false,Qd 16 2 13 false,Qg 17 (.ia 5 (.t 15) (.t 
 16)) 13 false,Qg 18 (.fa 0 (.t 17)) 13 false,Qg 19 (.ld false 1 (.t 18)) 13 false,Qg 20 (.bin .neq (.t 19) (Ki 3)) 13 false,Q 21 (.pick (.t 13) KT (.t 20))]) (.cond (.t 21) 
 (.seq (.reg [Qc 22 0,Q 23 (.mkI 76 (Ki 8)),⟨some 24,.prim .call [.k (.fn (.func 66) [] []),.t 22,.t 23] [],none⟩]) (.seq (.reg [Qx 6 (.k (.d (.str [])))]) .ret)) .skip)) 
 (.seq (.reg [Q 25 (.fa 1 (.t 4)),Q 26 (.ld false 1 (.t 25)),Qc 27 2,Q 28 (.ia 5 (.t 26) (.t 27)),Q 29 (.fa 2 (.t 28)),Q 30 (.ld false 1 (.t 29)),Qa 6 30]) .ret))
def q1X:List LRes:=[.tmp 6]
theorem q3c:q0r Tryz.prog 70 31 q1R q1X:=⟨_,_,Tryz.func70,rfl,by kernel_rfl,by kernel_rfl,rfl⟩
theorem pstr(fd:D)(q:PT)(c:Option Nat)(o:OpV)(hl:o.args.length≤1000){m:Option AObj}(hm:rowM m=true):
  MVE Tryz.prog 70 [.ptr (.x 0) 0,.d o.d,.d (I 0)] [pob fd q c] m (.d (.str ((strM o.args).getD []))) [pob fd (q.er (kErr (strM o.args))) c] m:=by
 refine q3c.mv (by kernel_rfl) rfl rfl ?_; generalize hM:mob m=M; have ha:aget M 1000=m:=hM▸q0P m; have hn:=hm; unfold rowM at hn; have hMM:∀ o:AObj,Sub ((0,o)::M) ((0,o)::M):=fun o=>hM▸subM o m
 obtain⟨nm,args⟩:=o; have hvl:=q2f args; simp(maxSteps:=2000000)(disch:=omega)only[go_sem,↓reduceIte,q1R,q1X,I,OpV.d]; refine⟨fun h1=>?_,fun h1=>?_⟩
 ·obtain⟨v,rfl⟩:∃ v,args=[v]:=by
   match args,h1 with
   |[v],_=>exact⟨v,rfl⟩
   |[],h1=>simp[q0K]at h1
   |_::_::_,h1=>simp[q0K]at h1; omega
  have hg:getI (q0K [v]) 0=some v.d:=rfl; simp(maxSteps:=2000000)(disch:=omega)only[go_sem,↓reduceIte,hg,Val.d_eq]; refine⟨fun h2=>?_,fun h2=>?_⟩
  ·have e:strM [v]=none:=if_neg h2; simp only[e,kErr,Option.getD_none,Option.isNone_none,↓reduceIte]; refine q0c.poM rfl (q54 fd q c 8 hm) (q0e _ _ _) (q0e _ _ _) hm hM rfl rfl rfl ⟨⟨rfl,rfl⟩,rfl⟩ ?_; simp(maxSteps:=2000000)only[go_sem,↓reduceIte,ha,hn]
  ·have e:strM [v]=some v.s:=if_pos h2; simp(maxSteps:=2000000)only[go_sem,↓reduceIte,hg,Val.d_eq,e,kErr,Option.getD_some,Option.isNone_some,er0,ha,hn]
 ·have e:strM args=none:=j1K (by omega); simp only[e,kErr,Option.getD_none,Option.isNone_none,↓reduceIte]; refine q0c.poM rfl (q54 fd q c 8 hm) (q0e _ _ _) (q0e _ _ _) hm hM rfl rfl rfl ⟨⟨rfl,rfl⟩,rfl⟩ ?_; simp(maxSteps:=2000000)only[go_sem,↓reduceIte,ha,hn]
end Go.Av.Tryz
set_option linter.unusedSimpArgs false
set_option maxRecDepth 100000
set_option maxHeartbeats 4000000
namespace Go.Av.Tryz
open Go.Proofs
def PT.wb(q:PT)(n:Nat):PT:={ q with bad:=n }
theorem j7G(q:PT)(n e:Nat):(q.wb n).er e=q.wb (orE n e):=rfl
def PT.glA(q:PT)(x:Sgn):PT:=
 let o1:=mulF q.s.size q.s.scale
 let o2:=catF (o1.getD 0,0,0,q.s.size,0,q.s.rise) q.tm
 let o3:=catF (o2.getD m60) q.s.ctm
 let o4:=appF (o3.getD m60) 0 0
 let o5:=appF (o3.getD m60) x.width 0
 let o6:=appF (o3.getD m60) 0 1000
 let o7:=appF (o3.getD m60) x.width 1000
 let n7:=orE (orE (orE (orE (orE (orE (orE q.bad (errO o1)) (errO o2)) (errO o3)) (errO o4)) (errO o5)) (errO o6)) (errO o7)
 let out:=q.out++[⟨x.text,o4.getD (0,0),o5.getD (0,0),q.s.size,q12 [o4.getD (0,0),o5.getD (0,0),o6.getD (0,0),o7.getD (0,0)]⟩]
 { q with out:=out,bad:=if 1000<out.length then orE n7 2 else n7 }
def PSt.wide(s:PSt):Bool:=match s.font with
 |some f=>f.wide
 |none=>false
def PT.glB(q:PT)(x:Sgn):PT:=
 let o9:=mulF x.width q.s.size
 let o10:=addF (o9.getD 0) q.s.char
 let n10:=orE (orE q.bad (errO o9)) (errO o10)
 let o11:=addF (o10.getD 0) q.s.word
 if x.code=32∧q.s.wide=false then(let o12:=mulF (o11.getD 0) q.s.scale; (q.wb (orE (orE n10 (errO o11)) (errO o12))).on (o12.getD 0))
 else(let o12:=mulF (o10.getD 0) q.s.scale; (q.wb (orE n10 (errO o12))).on (o12.getD 0))
def PT.gl(q:PT)(x:Sgn):PT:=(q.glA x).glB x
def pX(fd:D)(q:PT)(c:Option Nat)(n:Nat):AObj:=pob fd (q.wb n) c
theorem q4F(fd:D)(q:PT)(c:Option Nat)(n:Nat):PO (pX fd q c n):=q0e _ _ _
theorem j1a{l:List Gph}(h:l≠[]):outV l=.own (.c (.x 0) 28) 55 10 (q2p l):=by
 cases l with
 |nil=>exact absurd rfl h
 |cons g l=>rfl
def q1t:q0i:=
 .seq (.reg [⟨some 3,.box (.t 1),none⟩]) (.seq (.reg [Qc 13 0,Q 14 (.nck (.t 13)),Q 15 (.fa 1 (.t 14)),Q 16 (.ld true 13 (.t 15)),⟨some 4,.allo [.int .i64 0,.int .i64 0, 
 .int .i64 0,.int .i64 0,.int .i64 0,.int .i64 0,.nilpT 83,.int .i64 0,.int .i64 0,.int .i64 0,.int .i64 0,.int .i64 0,.int .i64 0],none⟩,⟨none,.st 13 (.t 4) (.t 16), 
 none⟩]) (.seq (.reg [Qc 17 0,Q 18 (.fa 7 (.t 4)),Q 19 (.ld false 1 (.t 18)),Q 20 (.fa 10 (.t 4)),Q 21 (.ld false 1 (.t 20)),⟨some 22,.prim .call [.k (.fn (.func 97) [] []), 
 .t 17,.t 19,.t 21] [],none⟩,Qa 5 22]) (.seq (.fam [Qc 23 0,Qc 24 0,Qc 25 5,Q 26 (.fa 7 (.t 4)),Q 27 (.ld false 1 (.t 26)),Q 28 (.fa 12 (.t 4)),Q 29 (.ld false 1 (.t 
 28)),Q 30 (.bld [(0,1),(1,1),(2,1),(3,1),(4,1),(5,1)] [.int .i64 0,.int .i64 0,.int .i64 0,.int .i64 0,.int .i64 0,.int .i64 0] [] [(0,.t 25),(3,.t 27),(5, 
 .t 29)]),Qc 31 0,Q 32 (.nck (.t 31)),Q 33 (.fa 15 (.t 32)),Q 34 (.ld true 6 (.t 33)),⟨some 35,.prim .call [.k (.fn (.func 45) [] []),.t 24,.t 30,.t 34] [],none⟩,Q 36 
 (.fa 0 (.t 4)),Q 37 (.ld true 6 (.t 36)),⟨some 38,.prim .call [.k (.fn (.func 45) [] []),.t 23,.t 35,.t 37] [],none⟩,⟨some 6,.allo [.int .i64 0,.int .i64 0,.int .i64 
 0,.int .i64 0,.int .i64 0,.int .i64 0],none⟩,⟨none,.st 6 (.t 6) (.t 38),none⟩] [[],[],[],[],[3],[],[5],[2,4,6],[],[8],[9],[10],[1,7,11],[],[13],[0,12, 
 14,12],[],[16,15,15,0,1,2,3,4,5,6,7,8,9,10,11,12,13,14,15,16]]) (.seq (.fam [Qc 39 0,Q 40 (.ld true 6 (.t 6)),⟨some 41,.prim .call [.k (.fn (.func 117) 
 [] []),.t 39,.t 40,.k (.d (.int .i64 0)),.k (.d (.int .i64 0))] [],none⟩,Qc 42 0,Q 43 (.ld true 6 (.t 6)),Q 44 (.fa 1 (.t 3)),Q 45 (.ld false 1 (.t 44)),⟨some 46,.prim 
 .call [.k (.fn (.func 117) [] []),.t 42,.t 43,.t 45,.k (.d (.int .i64 0))] [],none⟩,⟨some 7,.allo [.int .i64 0,.int .i64 0],none⟩,⟨some 8,.allo [.int .i64 0,.int .i64 
 0],none⟩,⟨none,.st 2 (.t 7) (.t 41),none⟩,⟨none,.st 2 (.t 8) (.t 46),none⟩] [[],[],[0,1],[],[],[],[5],[3,4,6,2],[],[],[8,2,7,0,1,2,8,9],[9,7,10,0, 
 1,2,3,4,5,6,7,8,9,10]]) (.seq (.fam [Qc 47 0,Q 48 (.ld true 6 (.t 6)),⟨some 49,.prim .call [.k (.fn (.func 117) [] []),.t 47,.t 48,.k (.d (.int .i64 0)),.k (.d 
 (.int .i64 1000))] [],none⟩,Qc 50 0,Q 51 (.ld true 6 (.t 6)),Q 52 (.fa 1 (.t 3)),Q 53 (.ld false 1 (.t 52)),⟨some 54,.prim .call [.k (.fn (.func 117) [] []),.t 50,.t 51, 
 .t 53,.k (.d (.int .i64 1000))] [],none⟩,⟨some 9,.allo [.int .i64 0,.int .i64 0],none⟩,⟨some 10,.allo [.int .i64 0,.int .i64 0],none⟩,⟨none,.st 2 (.t 9) (.t 49), 
 none⟩,⟨none,.st 2 (.t 10) (.t 54),none⟩] [[],[],[0,1],[],[],[],[5],[3,4,6,2],[],[],[8,2,7,0,1,2,8,9],[9,7,10,0,1,2,3,4,5,6,7,8,9,10]]) (.seq 
 (.reg [Q 55 (.ld true 2 (.t 7)),Q 56 (.ld true 2 (.t 8)),Q 57 (.ld true 2 (.t 9)),Q 58 (.ld true 2 (.t 10)),⟨some 59,.bsl 51 2 [.t 55,.t 56,.t 57,.t 58],none⟩,⟨some 60, 
 .call 118 [.t 59],none⟩,⟨some 11,.allo [.int .i64 0,.int .i64 0,.int .i64 0,.int .i64 0],none⟩,⟨none,.st 4 (.t 11) (.t 60),none⟩]) (.seq (.dreg [Qc 61 0,Qc 62 0,Q 63 
 (.nck (.t 62)),Q 64 (.fa 28 (.t 63)),Q 65 (.ld false 1 (.t 64)),Q 66 (.fa 2 (.t 3)),Q 67 (.ld false 1 (.t 66)),Q 68 (.ld true 2 (.t 7)),Q 69 (.ld true 2 (.t 8)),Q 70 (.fa 
 7 (.t 4)),Q 71 (.ld false 1 (.t 70)),Q 72 (.ld true 4 (.t 11)),Q 73 (.bld [(0,1),(1,2),(3,2),(5,1),(6,4)] [.str [],.int .i64 0,.int .i64 0,.int .i64 0,.int .i64 
 0,.int .i64 0,.int .i64 0,.int .i64 0,.int .i64 0,.int .i64 0] [] [(0,.t 67),(1,.t 68),(2,.t 69),(3,.t 71),(4,.t 72)]),⟨some 74,.bsl 55 10 [.t 73],none⟩,⟨some 
 75,.app 55 10 88 false (.t 65) (.t 74),none⟩,Q 76 (.nck (.t 61)),Q 77 (.fa 28 (.t 76)),⟨none,.st 1 (.t 77) (.t 75),none⟩]) (.seq (.seq (.reg [Qc 78 0,Q 79 (.nck (.t 78)), 
 Q 80 (.fa 28 (.t 79)),Q 81 (.ld false 1 (.t 80)),Q 82 (.len false (.t 81)),Q 83 (.bin .gtr (.t 82) (Ki 1000))]) (.cond (.t 83) (.reg [Qc 84 0,Q 85 (.mkI 76 (Ki 2)),⟨some 86, 
 .prim .call [.k (.fn (.func 66) [] []),.t 84,.t 85] [],none⟩]) .skip)) (.seq (.fam [Qc 87 0,Qc 88 0,Q 89 (.fa 1 (.t 3)),Q 90 (.ld false 1 (.t 89)),Q 91 (.fa 7 (.t 4)),Q 
 92 (.ld false 1 (.t 91)),⟨some 93,.prim .call [.k (.fn (.func 97) [] []),.t 88,.t 90,.t 92] [],none⟩,Q 94 (.fa 8 (.t 4)),Q 95 (.ld false 1 (.t 94)),⟨some 96,.prim .call 
 [.k (.fn (.func 119) [] []),.t 87,.t 93,.t 95] [],none⟩,Qa 12 96] [[],[],[],[2],[],[4],[1,3,5],[],[7],[0,6,8,6],[9,9,0,1,2,3,4,5,6,7,8,9]]) (.seq 
 (.seq (.reg [Q 97 (.fa 0 (.t 3)),Q 98 (.ld false 1 (.t 97)),Q 99 (.bin .eql (.t 98) (Ki 32)),Qc 100 99,Qg 101 (.fa 6 (.t 4)) 100 true,Qg 102 (.ld false 1 (.t 101)) 100 true, 
 Qg 103 (.nck (.t 102)) 100 true,Qg 104 (.fa 0 (.t 103)) 100 true,Qg 105 (.ld false 1 (.t 104)) 100 true,Qg 106 (.not (.t 105)) 100 true,Q 107 (.pick (.t 100) (.t 106) KF)]) 
 (.cond (.t 107) (.reg [Qc 108 0,Qc 109 12,Q 110 (.fa 9 (.t 4)),Q 111 (.ld false 1 (.t 110)),⟨some 112,.prim .call [.k (.fn (.func 119) [] []),.t 108,.t 109,.t 111] [], 
 none⟩,Qa 12 112]) .skip)) (.reg [Qc 113 0,Qc 114 0,Qc 115 12,Q 116 (.fa 10 (.t 4)),Q 117 (.ld false 1 (.t 116)),⟨some 118,.prim .call [.k (.fn (.func 97) [] []),.t 114, 
 .t 115,.t 117] [],none⟩,⟨some 119,.prim .call [.k (.fn (.func 96) [] []),.t 113,.t 118] [],none⟩])))))))))))
def q1x:List LRes:=[]
theorem q2P:q0r Tryz.prog 95 120 q1t q1x:=⟨_,_,Tryz.func95,rfl,by kernel_rfl,by kernel_rfl,rfl⟩
theorem j6L(fd:D)(q:PT)(c:Option Nat)(x:Sgn)(hout:q.out.length≤100000)(f:Fnt)(hf:q.s.font=some f){m:Option AObj}(hm:rowM m=true):
  MVE Tryz.prog 95 [.ptr (.x 0) 0,.d x.d] [pob fd q c] m (.tuple []) [pob fd (q.gl x) c] m:=by
 refine q2P.mv (by kernel_rfl) rfl rfl ?_; generalize hM:mob m=M; have ha:aget M 1000=m:=hM▸q0P m; have hn:=hm; unfold rowM at hn; have hMM:∀ o:AObj,Sub ((0,o)::M) ((0,o)::M):=fun o=>hM▸subM o m
 generalize hE:pob fd (q.gl x) c=oE; simp(maxSteps:=2000000)(disch:=omega)only[go_sem,↓reduceIte,q1t,q1x,I,Sgn.d,pob]; have hcat:∀ n a b,MVE Tryz.prog 45 [.ptr (.x 0) 0,.d (m6D a),.d (m6D b)] [pX fd q c n] m (.d (m6D ((catF a b).getD m60))) [pX fd q c (orE n (errO (catF a b)))] m:=fun n a b=>z3M fd (q.wb n) c a b hm
 have happ:∀ n a x y,MVE Tryz.prog 117 [.ptr (.x 0) 0,.d (m6D a),.d (I x),.d (I y)] [pX fd q c n] m (.d (pt ((appF a x y).getD (0,0)).1 ((appF a x y).getD (0,0)).2)) [pX fd q c (orE n (errO (appF a x y)))] m:=fun n a x y=>j6K fd (q.wb n) c a x y hm
 refine q0c.poM rfl (pmul fd q c q.s.size q.s.scale hm) (q0e _ _ _) (q0e _ _ _) hm hM rfl rfl rfl ⟨⟨rfl,rfl⟩,rfl⟩ ?_; simp(maxSteps:=2000000)only[go_sem,↓reduceIte]; generalize ho1:mulF q.s.size q.s.scale=o1; refine z2T (pX fd q c) M 17 [0,4,5] [6] (orE q.bad (errO o1)) (by kernel_rfl) rfl rfl rfl ?_; simp(maxSteps:=2000000)only[go_sem,↓reduceIte,pX,pob,PT.wb,m6D,mat,I]; refine FR.prim (q5D.mve rfl hM (hcat _ (o1.getD 0,0,0,q.s.size,0,q.s.rise) q.tm) (q4F _ _ _ _) (q4F _ _ _ _) hm rfl rfl ⟨⟨rfl,rfl⟩,rfl⟩) rfl ?_
 generalize ho2:catF (o1.getD 0,0,0,q.s.size,0,q.s.rise) q.tm=o2; simp(maxSteps:=2000000)only[go_sem,↓reduceIte,pX,pob,PT.wb,m6D,mat,I]; refine FR.prim (q5D.mve rfl hM (hcat _ (o2.getD m60) q.s.ctm) (q4F _ _ _ _) (q4F _ _ _ _) hm rfl rfl ⟨⟨rfl,rfl⟩,rfl⟩) rfl ?_; generalize ho3:catF (o2.getD m60) q.s.ctm=o3; simp(maxSteps:=2000000)only[go_sem,↓reduceIte,pX,pob,PT.wb,m6D,mat,I]; refine z2T (pX fd q c) M 10 [0,6,3] [7,8] (orE (orE (orE q.bad (errO o1)) (errO o2)) (errO o3)) (by kernel_rfl) rfl rfl rfl ?_
 simp(maxSteps:=2000000)only[go_sem,↓reduceIte,pX,pob,PT.wb,m6D,mat,I]; refine FR.prim (q5D.mve rfl hM (happ _ (o3.getD m60) 0 0) (q4F _ _ _ _) (q4F _ _ _ _) hm rfl rfl ⟨⟨rfl,rfl⟩,rfl⟩) rfl ?_; generalize ho4:appF (o3.getD m60) 0 0=o4; simp(maxSteps:=2000000)only[go_sem,↓reduceIte,pX,pob,PT.wb,m6D,mat,pt,I]; refine FR.prim (q5D.mve rfl hM (happ _ (o3.getD m60) x.width 0) (q4F _ _ _ _) (q4F _ _ _ _) hm rfl rfl ⟨⟨rfl,rfl⟩,rfl⟩) rfl ?_; generalize ho5:appF (o3.getD m60) x.width 0=o5
 simp(maxSteps:=2000000)only[go_sem,↓reduceIte,pX,pob,PT.wb,m6D,mat,pt,I]; refine z2T (pX fd q c) M 10 [0,6,3] [9,10] (orE (orE (orE (orE (orE q.bad (errO o1)) (errO o2)) (errO o3)) (errO o4)) (errO o5)) (by kernel_rfl) rfl rfl rfl ?_; simp(maxSteps:=2000000)only[go_sem,↓reduceIte,pX,pob,PT.wb,m6D,mat,pt,I]; refine FR.prim (q5D.mve rfl hM (happ _ (o3.getD m60) 0 1000) (q4F _ _ _ _) (q4F _ _ _ _) hm rfl rfl ⟨⟨rfl,rfl⟩,rfl⟩) rfl ?_; generalize ho6:appF (o3.getD m60) 0 1000=o6
 simp(maxSteps:=2000000)only[go_sem,↓reduceIte,pX,pob,PT.wb,m6D,mat,pt,I]; refine FR.prim (q5D.mve rfl hM (happ _ (o3.getD m60) x.width 1000) (q4F _ _ _ _) (q4F _ _ _ _) hm rfl rfl ⟨⟨rfl,rfl⟩,rfl⟩) rfl ?_; generalize ho7:appF (o3.getD m60) x.width 1000=o7; simp(maxSteps:=2000000)only[go_sem,↓reduceIte,pX,pob,PT.wb,m6D,mat,pt,I]; refine q0g.of (z5L [o4.getD (0,0),o5.getD (0,0),o6.getD (0,0),o7.getD (0,0)] (by simp)) ?_; generalize ho8:q12 [o4.getD (0,0),o5.getD (0,0),o6.getD (0,0),o7.getD (0,0)]=o8
 simp(maxSteps:=2000000)only[go_sem,↓reduceIte,boxD,I]; have hOV:=j1a (l:=q.out++[⟨x.text,o4.getD (0,0),o5.getD (0,0),q.s.size,o8⟩]) (by simp); have hLn:(q2p (q.out++[⟨x.text,o4.getD (0,0),o5.getD (0,0),q.s.size,o8⟩])).length=q.out.length+1:=by simp[q2p]
 have hsn:q2p (q.out++[⟨x.text,o4.getD (0,0),o5.getD (0,0),q.s.size,o8⟩])=q2p q.out++[.agg [.str x.text,.int .i64 (o4.getD (0,0)).1,.int .i64 (o4.getD (0,0)).2,.int .i64 (o5.getD (0,0)).1,.int .i64 (o5.getD (0,0)).2,.int .i64 q.s.size,.int .i64 o8.1,.int .i64 o8.2.1,.int .i64 o8.2.2.1,.int .i64 o8.2.2.2]]:=by simp[q2p,Gph.d,I]
 have hql:(q2p q.out).length=q.out.length:=by simp[q2p]
 have hAo:outV (q.glA x).out=.own (.c (.x 0) 28) 55 10 (q2p (q.out++[⟨x.text,o4.getD (0,0),o5.getD (0,0),q.s.size,o8⟩])):=by
  simp only[PT.glA,ho1,ho2,ho3,ho4,ho5,ho6,ho7,ho8]; exact hOV
 generalize hn7:orE (orE (orE (orE (orE (orE (orE q.bad (errO o1)) (errO o2)) (errO o3)) (errO o4)) (errO o5)) (errO o6)) (errO o7)=n7 at *; have hAb:(q.glA x).bad=if 1000<q.out.length+1 then orE n7 2 else n7:=by
  simp only[PT.glA,ho1,ho2,ho3,ho4,ho5,ho6,ho7,hn7,List.length_append,List.length_cons,List.length_nil,Nat.zero_add]
 generalize hG:(⟨x.text,o4.getD (0,0),o5.getD (0,0),q.s.size,o8⟩:Gph)=gl0 at *; have hpo:=fun n=>q0e fd ((q.glA x).wb n) c
 have hpf:=q54 fd ((q.glA x).wb n7) c 2 hm; have hao2:∀ n,outV ((q.glA x).wb n).out=.own (.c (.x 0) 28) 55 10 (q2p (q.out++[gl0])):=fun n=>hAo
 rw[j7G]at hpf; simp only[pob,hao2]at hpo hpf; have hmul:∀ n a b,MVE Tryz.prog 97 [.ptr (.x 0) 0,.d (I a),.d (I b)] [pX fd (q.glA x) c n] m (.d (I ((mulF a b).getD 0))) [pX fd (q.glA x) c (orE n (errO (mulF a b)))] m:=fun n a b=>pmul fd ((q.glA x).wb n) c a b hm
 have hadd:∀ n a b,MVE Tryz.prog 119 [.ptr (.x 0) 0,.d (I a),.d (I b)] [pX fd (q.glA x) c n] m (.d (I ((addF a b).getD 0))) [pX fd (q.glA x) c (orE n (errO (addF a b)))] m:=fun n a b=>padd fd ((q.glA x).wb n) c a b hm
 by_cases ho:q.out=[]
 case' pos=>
  have hv:outV q.out=.ns:=by rw[ho]; rfl
  rw[show q2p q.out=[] by rw[ho]; rfl,List.nil_append]at hsn; simp(maxSteps:=2000000)(disch:=omega)only[go_sem,↓reduceIte,hv]; rw[← hsn]; rw[ho,if_neg (by simp)]at hAb
 case' neg=>
  have hv:=j1a ho; simp(maxSteps:=2000000)(disch:=omega)only[go_sem,↓reduceIte,hv,← hsn,hLn,hql]; refine⟨⟨by omega,by omega⟩,fun h1=>?ya,fun h1=>?yb⟩
 case' ya=>
  rw[if_pos (by omega)]at hAb; refine q0c.poM rfl hpf (hpo _) (hpo _) hm hM rfl rfl rfl ⟨⟨rfl,rfl⟩,rfl⟩ ?_; simp(maxSteps:=2000000)only[go_sem,↓reduceIte]
 case' yb=>
  rw[if_neg (by omega)]at hAb
 all_goals
  refine j3D ⟨[(0,.ptr (.x 0) 0),(3,.ptr (.l 3) 0),(4,.ptr (.l 4) 0)],[(3,.cells [.d (.int .i64 x.code),.d (.int .i64 x.width),.d (.str x.text)]),(4,.cells [.d (.int .i64 q.s.ctm.1),.d (.int .i64 q.s.ctm.2.1),.d (.int .i64 q.s.ctm.2.2.1),.d (.int .i64 q.s.ctm.2.2.2.1),.d (.int .i64 q.s.ctm.2.2.2.2.1),.d (.int .i64 q.s.ctm.2.2.2.2.2),.d (q7y q.s.font),.d (.int .i64 q.s.size),.d (.int .i64 q.s.char),.d (.int .i64 q.s.word),.d (.int .i64 q.s.scale),.d (.int .i64 q.s.lead),.d (.int .i64 q.s.rise)])],(0,pX fd (q.glA x) c (q.glA x).bad)::M⟩ (Weak.mk ?_ ?_ ?_) ?_
  ·simp(maxSteps:=2000000)only[go_sem,↓reduceIte,Sub]
  ·simp(maxSteps:=2000000)only[go_sem,↓reduceIte,Sub]
  ·show Sub ((0,pob fd (q.glA x) c)::M) _
   unfold pob; rw[hAo,hAb]; exact hMM _
  clear hAb; refine z2T (pX fd (q.glA x) c) M 10 [0,3,4] [] (q.glA x).bad (by kernel_rfl) rfl rfl rfl ?_; simp(maxSteps:=2000000)only[go_sem,↓reduceIte,pX,pob,PT.wb]; refine FR.prim (q5D.mve rfl hM (hmul _ x.width q.s.size) (q4F _ _ _ _) (q4F _ _ _ _) hm rfl rfl ⟨⟨rfl,rfl⟩,rfl⟩) rfl ?_; generalize ho9:mulF x.width q.s.size=o9; simp(maxSteps:=2000000)only[go_sem,↓reduceIte,pX,pob,PT.wb,I]; refine FR.prim (q5D.mve rfl hM (hadd _ (o9.getD 0) q.s.char) (q4F _ _ _ _) (q4F _ _ _ _) hm rfl rfl ⟨⟨rfl,rfl⟩,rfl⟩) rfl ?_
  generalize ho10:addF (o9.getD 0) q.s.char=o10; simp(maxSteps:=2000000)only[go_sem,↓reduceIte,I,hf,q7y]; have hwd:q.s.wide=f.wide:=by simp[PSt.wide,hf]
  have hsA:(q.glA x).s=q.s:=rfl; refine⟨fun hx=>⟨fun hw=>?_,fun hw=>?_⟩,fun hx=>?_⟩
  ·refine q0c.poM rfl (hadd (orE (orE (q.glA x).bad (errO o9)) (errO o10)) (o10.getD 0) q.s.word) (q4F _ _ _ _) (q4F _ _ _ _) hm hM rfl rfl rfl ⟨⟨rfl,rfl⟩,rfl⟩ ?_; generalize ho11:addF (o10.getD 0) q.s.word=o11; simp(maxSteps:=2000000)only[go_sem,↓reduceIte,I]; refine q0c.poM rfl (hmul (orE (orE (orE (q.glA x).bad (errO o9)) (errO o10)) (errO o11)) (o11.getD 0) q.s.scale) (q4F _ _ _ _) (q4F _ _ _ _) hm hM rfl rfl rfl ⟨⟨rfl,rfl⟩,rfl⟩ ?_; generalize ho12:mulF (o11.getD 0) q.s.scale=o12; simp(maxSteps:=2000000)only[go_sem,↓reduceIte,I]
   refine q0c.poM rfl (pon fd ((q.glA x).wb (orE (orE (orE (orE (q.glA x).bad (errO o9)) (errO o10)) (errO o11)) (errO o12))) c (o12.getD 0) hm) (q0e _ _ _) (q0e _ _ _) hm hM rfl rfl rfl ⟨⟨rfl,rfl⟩,rfl⟩ ?_; simp(maxSteps:=2000000)only[go_sem,↓reduceIte,ha,hn]; rw[← hE,PT.gl,PT.glB]; simp only[hsA,ho9,ho10,ho11,ho12,hx,hwd,hw,and_self,↓reduceIte]
  all_goals
   have hno:¬(x.code=32∧f.wide=false):=fun h=>by first|exact hx h.1|(rw[h.2]at hw; cases hw)|exact hw h.2
   refine q0c.poM rfl (hmul (orE (orE (q.glA x).bad (errO o9)) (errO o10)) (o10.getD 0) q.s.scale) (q4F _ _ _ _) (q4F _ _ _ _) hm hM rfl rfl rfl ⟨⟨rfl,rfl⟩,rfl⟩ ?_; generalize ho12:mulF (o10.getD 0) q.s.scale=o12; simp(maxSteps:=2000000)only[go_sem,↓reduceIte,I]; refine q0c.poM rfl (pon fd ((q.glA x).wb (orE (orE (orE (q.glA x).bad (errO o9)) (errO o10)) (errO o12))) c (o12.getD 0) hm) (q0e _ _ _) (q0e _ _ _) hm hM rfl rfl rfl ⟨⟨rfl,rfl⟩,rfl⟩ ?_; simp(maxSteps:=2000000)only[go_sem,↓reduceIte,ha,hn]; rw[← hE,PT.gl,PT.glB]
   simp only[hsA,ho9,ho10,ho12,hwd,hno,↓reduceIte]
end Go.Av.Tryz
set_option linter.unusedSimpArgs false
set_option maxRecDepth 100000
set_option maxHeartbeats 4000000
namespace Go.Av.Tryz
open Go.Proofs
def PT.gls(q:PT):List Sgn→PT
 |[]=>q
 |x::l=>PT.gls (if q.bad=0 then q.gl x else q) l
def PT.shw(q:PT)(t:List UInt8):PT:=
 match q.s.font with
 |some f=>if q.inn=true then(match z1H f t with
  |some l=>q.gls l
  |none=>q.er 4)else q.er 6
 |none=>q.er 6
structure PT.ok(q:PT):Prop where
 out:q.bad=0→q.out.length≤1000
 font:∀ f,q.s.font=some f→f.ok
theorem q52{n e:Nat}(h:orE n e=0):n=0:=by
 unfold orE at h; split at h
 ·assumption
 ·exact h
theorem q6Q{q:PT}(h:q.ok)(e:Nat):(q.er e).ok:=⟨fun hb=>h.out (q52 hb),h.font⟩
theorem gl_s(q:PT)(x:Sgn):(q.gl x).s=q.s∧(q.gl x).out=(q.glA x).out∧((q.gl x).bad=0→(q.glA x).bad=0)∧(q.gl x).inn=q.inn∧(q.gl x).saved=q.saved∧(q.gl x).lm=q.lm:=by
 unfold PT.gl PT.glB; split
 ·exact⟨rfl,rfl,fun h=>q52 (q52 (q52 (q52 (q52 h)))),rfl,rfl,rfl⟩
 ·exact⟨rfl,rfl,fun h=>q52 (q52 (q52 (q52 h))),rfl,rfl,rfl⟩
theorem j7i{q:PT}(h:q.ok)(x:Sgn):(q.gl x).ok:=by
 obtain⟨h1,h2,h3,_,_⟩:=gl_s q x; refine⟨fun hb=>?_,by rw[h1]; exact h.font⟩; have hb:=h3 hb; rw[h2]; have hA:∃ n,(q.glA x).bad=if 1000<(q.glA x).out.length then orE n 2 else n:=⟨_,rfl⟩
 obtain⟨n,hA⟩:=hA; rw[hA]at hb; split at hb
 ·exact absurd hb (by unfold orE; split<;>omega)
 ·rename_i hl; omega
theorem j2B(q:PT):∀(l:List Sgn) (x:Sgn),q.gls (l++[x])=(if(q.gls l).bad=0 then(q.gls l).gl x else q.gls l):=by
 intro l; induction l generalizing q with
 |nil=>intro x; rfl
 |cons a l ih=>intro x; simp only[List.cons_append,PT.gls]; exact ih _ x
theorem z7p{q:PT}(h:q.ok):∀(l:List Sgn),(q.gls l).ok∧(q.gls l).s=q.s∧(q.gls l).inn=q.inn∧(q.gls l).saved=q.saved∧(q.gls l).lm=q.lm:=by
 intro l; induction l generalizing q with
 |nil=>exact⟨h,rfl,rfl,rfl,rfl⟩
 |cons a l ih=>
  simp only[PT.gls]; split
  ·obtain⟨h1,_,_,h4,h5,h6⟩:=gl_s q a; obtain⟨k1,k2,k3,k4,k5⟩:=ih (j7i h a); exact⟨k1,k2.trans h1,k3.trans h4,k4.trans h5,k5.trans h6⟩
  ·exact ih h
theorem z8Q{f:Fnt}{t:List UInt8}{l:List Sgn}(h:z1H f t=some l):l.length≤t.length:=by
 unfold z1H at h; split at h
 ·split at h
  ·cases h; exact z1G f t
  ·cases h
 ·cases h; simp[z0l]
def q0S:q0i:=
 .seq (.seq (.reg [Qc 8 0,Q 9 (.nck (.t 8)),Q 10 (.fa 1 (.t 9)),Q 11 (.fa 6 (.t 10)),Q 12 (.ld false 1 (.t 11)),Q 13 (.eqN 1 false (.t 12)),Qc 14 13,Qd 15 0 14 false,Qg 16 
 (.nck (.t 15)) 14 false,Qg 17 (.fa 27 (.t 16)) 14 false,Qg 18 (.ld false 1 (.t 17)) 14 false,Qg 19 (.not (.t 18)) 14 false,Q 20 (.pick (.t 14) KT (.t 19))]) (.cond (.t 20) 
 (.seq (.reg [Qc 21 0,Q 22 (.mkI 76 (Ki 6)),⟨some 23,.prim .call [.k (.fn (.func 66) [] []),.t 21,.t 22] [],none⟩]) .ret) .skip)) (.seq (.reg [Qc 25 0,Q 26 (.nck (.t 25)), 
 Q 27 (.fa 1 (.t 26)),Q 28 (.fa 6 (.t 27)),Q 29 (.ld false 1 (.t 28)),Q 30 (.nck (.t 29)),Q 31 (.ld true 5 (.t 30)),Qc 32 1,⟨some 33,.call 94 [.t 31,.t 32],none⟩,Qc 24 
 33,Q 34 (.ext 0 (.t 24)),Q 35 (.ext 1 (.t 24)),Qa 4 34,Qa 5 35]) (.seq (.reg [Qc 36 0,Qc 37 5,⟨some 38,.prim .call [.k (.fn (.func 66) [] []),.t 36,.t 37] [],none⟩]) 
 (.seq (.reg [Qc 39 4,Q 40 (.len false (.t 39)),Q 41 (.cp (Ki 0))]) (.block 0 (.loop (.seq (.reg [Q 42 (.bin .lss (.t 41) (.t 40))]) (.seq (.cond (.t 42) .skip (.exit 0)) (.seq 
 (.block 1 (.seq (.reg [Q 43 (.ia 3 (.t 39) (.t 41)),Q 44 (.ld true 3 (.t 43)),⟨some 7,.allo [.int .i64 0,.int .i64 0,.str []],none⟩,⟨none,.st 3 (.t 7) (.t 44),none⟩]) 
 (.seq (.reg [Qc 45 0,Q 46 (.nck (.t 45)),Q 47 (.fa 29 (.t 46)),Q 48 (.ld false 1 (.t 47)),Q 49 (.eqN 0 false (.t 48))]) (.cond (.t 49) (.reg [Qc 50 0,Q 51 (.ld true 3 (.t 
 7)),⟨some 52,.prim .call [.k (.fn (.func 95) [] []),.t 50,.t 51] [],none⟩]) .skip)))) (.reg [Q 53 (.bin .add (.t 41) (Ki 1)),Qc 41 53])))))))))
def q0U:List LRes:=[]
theorem q2Z:q0r Tryz.prog 69 54 q0S q0U:=⟨_,_,Tryz.func69,rfl,by kernel_rfl,by kernel_rfl,rfl⟩
theorem j5v(fd:D)(q:PT)(c:Option Nat)(t:List UInt8)(hq:q.ok)(ht:t.length≤1000000){m:Option AObj}(hm:rowM m=true):
  MVE Tryz.prog 69 [.ptr (.x 0) 0,.d (.str t)] [pob fd q c] m (.tuple []) [pob fd (q.shw t) c] m:=by
 refine q2Z.mv (by kernel_rfl) rfl rfl ?_; generalize hM:mob m=M; have ha:aget M 1000=m:=hM▸q0P m; have hn:=hm; unfold rowM at hn; have hMM:∀ o:AObj,Sub ((0,o)::M) ((0,o)::M):=fun o=>hM▸subM o m
 generalize hE:pob fd (q.shw t) c=oE; have hpo:=q0e fd q c; have hpo6:=fun e=>q0e fd (q.er e) c
 have hpf6:=fun e=>q54 fd q c e hm
 cases hf:q.s.font with
 |none=>
  simp only[pob,PT.er,hf,q7y]at hpo hpo6 hpf6; simp(maxSteps:=2000000)only[go_sem,↓reduceIte,q0S,q0U,I,pob,hf,q7y]; refine q0c.poM rfl (hpf6 6) hpo (hpo6 6) hm hM rfl rfl rfl ⟨⟨rfl,rfl⟩,rfl⟩ ?_; simp(maxSteps:=2000000)only[go_sem,↓reduceIte,ha,hn]; rw[← hE]; simp only[PT.shw,hf,pob,PT.er,q7y]
 |some f=>
  simp only[pob,PT.er,hf,q7y]at hpo hpo6 hpf6; simp(maxSteps:=2000000)only[go_sem,↓reduceIte,q0S,q0U,I,pob,hf,q7y]; refine⟨fun hi=>?_,fun hi=>?_⟩
  ·refine q0c.poM rfl (hpf6 6) hpo (hpo6 6) hm hM rfl rfl rfl ⟨⟨rfl,rfl⟩,rfl⟩ ?_; simp(maxSteps:=2000000)only[go_sem,↓reduceIte,ha,hn]; rw[← hE]; simp only[PT.shw,hf,hi,pob,PT.er,q7y,Bool.false_eq_true,↓reduceIte]
  ·refine q0g.of (z8R f (hq.font f hf) t ht) ?_; cases hs:z1H f t with
   |none=>
    simp(maxSteps:=2000000)only[go_sem,↓reduceIte,z30]; refine q0c.poM rfl (hpf6 4) hpo (hpo6 4) hm hM rfl rfl rfl ⟨⟨rfl,rfl⟩,rfl⟩ ?_; simp(maxSteps:=2000000)only[go_sem,↓reduceIte]; refine q14 ?_; simp(maxSteps:=2000000)only[go_sem,↓reduceIte,ha,hn]; rw[← hE]; simp only[PT.shw,hf,hi,hs,pob,PT.er,q7y,↓reduceIte]
   |some l=>
    have hlb:=z8Q hs; have hE2:q.shw t=q.gls l:=by simp only[PT.shw,hf,hi,hs,↓reduceIte]
    simp(maxSteps:=2000000)only[go_sem,↓reduceIte,z30,show errD 0=.nil from rfl]; refine q0c.poM rfl (hpf6 0) hpo (hpo6 0) hm hM rfl rfl rfl ⟨⟨rfl,rfl⟩,rfl⟩ ?_; have hll:=q2S l; simp(maxSteps:=2000000)only[go_sem,↓reduceIte,hll]; refine q0l (fun i:Nat=>⟨[(0,.ptr (.x 0) 0),(39,.d (.list (q5N l))),(40,.d (.int .i64 l.length)),(41,.d (.int .i64 i))],[],(0,pob fd (q.gls (l.take i)) c)::M⟩) (fun i=>i≤l.length) (fun i=>l.length-i) 0 ?_ (Nat.zero_le _) ?_
    ·refine Weak.mk ?_ ?_ ?_
     ·simp(maxSteps:=2000000)only[go_sem,↓reduceIte,Sub]
     ·simp(maxSteps:=2000000)only[go_sem,↓reduceIte,Sub]
     ·show Sub ((0,pob fd q c)::M) _
      have h0:orE q.bad 0=q.bad:=congrArg PT.bad (er0 q); rw[h0]; simp only[pob,hf,q7y]; exact hMM _
    ·intro i hi'; simp(maxSteps:=2000000)(disch:=omega)only[go_sem,↓reduceIte]; refine⟨fun hlt=>?_,fun hge=>?_⟩
     ·obtain⟨x,hx⟩:=get_some (l:=l) (i:=i) (by omega); have hg:getI (q5N l) (i:Int)=some x.d:=by rw[q0a,j1B,hx]; rfl
      have htk:l.take (i+1)=l.take i++[x]:=by rw[List.take_add_one,hx]; rfl
      have hgl:=j2B q (l.take i) x; rw[← htk]at hgl; obtain⟨hok,hs1,_⟩:=z7p hq (l.take i); generalize q.gls (l.take i)=q1 at *
      by_cases hb:q1.bad=0
      ·rw[if_pos hb]at hgl; obtain⟨s1,sv1,tm1,lm1,in1,out1,b1⟩:=q1; simp only at hb hs1; subst hb; subst hs1; simp(maxSteps:=2000000)(disch:=omega)only[go_sem,↓reduceIte,hg,Sgn.d,pob,show errD 0=.nil from rfl]; refine q0c.poM rfl (j6L fd ⟨q.s,sv1,tm1,lm1,in1,out1,0⟩ c x (by have:=hok.out rfl; simp only at this ⊢; omega) f hf hm) (q0e _ _ _) (q0e _ _ _) hm hM rfl rfl rfl ⟨⟨rfl,rfl⟩,rfl⟩ ?_; simp(maxSteps:=2000000)(disch:=omega)only[go_sem,↓reduceIte]; refine⟨i+1,?_,by omega,by omega⟩; rw[hgl]
       refine Weak.mk ?_ ?_ (hMM _)<;>simp(maxSteps:=2000000)only[go_sem,↓reduceIte,Sub,Int.natCast_add,Int.natCast_mul]
      ·rw[if_neg hb]at hgl; simp(maxSteps:=2000000)(disch:=omega)only[go_sem,↓reduceIte,hg,Sgn.d,pob,q13 hb]; refine⟨i+1,?_,by omega,by omega⟩; rw[hgl]; refine Weak.mk ?_ ?_ ?_
       ·simp(maxSteps:=2000000)only[go_sem,↓reduceIte,Sub,Int.natCast_add]
       ·simp(maxSteps:=2000000)only[go_sem,↓reduceIte,Sub]
       ·simp only[pob,q13 hb]; exact hMM _
     ·have hie:i=l.length:=by omega
      subst hie; simp(maxSteps:=2000000)(disch:=omega)only[go_sem,↓reduceIte,ha,hn]; rw[← hE,hE2,List.take_length]
end Go.Av.Tryz
set_option linter.unusedSimpArgs false
set_option maxRecDepth 100000
set_option maxHeartbeats 4000000
namespace Go.Av.Tryz
open Go.Proofs
def PT.bk(q:PT)(n:Int):PT:=
 (q.wb (orE (orE q.bad (errO (mulF (Int.tdiv (-n) 1000) q.s.size))) (errO (mulF ((mulF (Int.tdiv (-n) 1000) q.s.size).getD 0) q.s.scale)))).on ((mulF ((mulF (Int.tdiv (-n) 1000) q.s.size).getD 0) q.s.scale).getD 0)
def PT.ls1(q:PT)(v:Val):PT:=if v.kind=3 then q.shw v.s else if v.kind=2 then q.bk v.n else q.er 8
def PT.lst(q:PT):List Val→PT
 |[]=>q
 |v::l=>PT.lst (q.ls1 v) l
theorem j2T(q:PT):∀(l:List Val) (v:Val),q.lst (l++[v])=(q.lst l).ls1 v:=by
 intro l; induction l generalizing q with
 |nil=>intro v; rfl
 |cons a l ih=>intro v; simp only[List.cons_append,PT.lst]; exact ih _ v
theorem j7h{q:PT}(h:q.ok)(n:Int):(q.bk n).ok:=⟨fun hb=>h.out (q52 (q52 (q52 hb))),h.font⟩
theorem j4s{q:PT}(h:q.ok)(t:List UInt8):(q.shw t).ok∧(q.shw t).s=q.s:=by
 unfold PT.shw; split
 ·split
  ·split
   ·exact⟨(z7p h _).1,(z7p h _).2.1⟩
   ·exact⟨q6Q h 4,rfl⟩
  ·exact⟨q6Q h 6,rfl⟩
 ·exact⟨q6Q h 6,rfl⟩
theorem j4l{q:PT}(h:q.ok)(v:Val):(q.ls1 v).ok:=by
 unfold PT.ls1; split
 ·exact(j4s h _).1
 ·split
  ·exact j7h h _
  ·exact q6Q h 8
theorem j4m{q:PT}(h:q.ok)(l:List Val):(q.lst l).ok:=by
 induction l generalizing q with
 |nil=>exact h
 |cons v l ih=>exact ih (j4l h v)
theorem j5Q{x B:Int}(h1 : -B≤x)(h2:x≤B): -B≤x.tdiv 1000∧x.tdiv 1000≤B:=by
 rcases Int.le_total 0 x with h|h
 ·rw[Int.tdiv_eq_ediv_of_nonneg h]; omega
 ·have e:x = -(-x):=by omega
  rw[e,Int.neg_tdiv,Int.tdiv_eq_ediv_of_nonneg (by omega)]; omega
def pY(fd:D)(q:PT)(c:Option Nat)(p:Nat×M6):AObj:=pob fd { q with bad:=p.1,tm:=p.2 } c
theorem z8F(fd:D)(q:PT)(c:Option Nat)(p:Nat×M6):PO (pY fd q c p):=q0e _ _ _
def q1A:q0i:=
 .seq (.reg [Qc 6 1,Q 7 (.len false (.t 6)),Q 8 (.cp (Ki 0))]) (.block 0 (.loop (.seq (.reg [Q 9 (.bin .lss (.t 8) (.t 7))]) (.seq (.cond (.t 9) .skip (.exit 0)) (.seq (.block 1 
 (.seq (.reg [Q 10 (.ia 5 (.t 6) (.t 8)),Q 11 (.ld true 5 (.t 10)),⟨some 5,.allo [.int .i64 0,.int .i64 0,.str [],.list [],.list []],none⟩,⟨none,.st 5 (.t 5) (.t 11), 
 none⟩]) (.seq (.reg [Q 12 (.fa 0 (.t 5)),Q 13 (.ld false 1 (.t 12))]) (.block 2 (.seq (.reg [Q 18 (.bin .eql (.t 13) (Ki 3)),Qa 17 18]) (.cond (.t 17) (.reg [Qc 19 0,Q 20 (.fa 
 2 (.t 5)),Q 21 (.ld false 1 (.t 20)),⟨some 22,.prim .call [.k (.fn (.func 69) [] []),.t 19,.t 21] [],none⟩]) (.seq (.reg [Q 24 (.bin .eql (.t 13) (Ki 2)),Qa 23 24]) (.cond 
 (.t 23) (.fam [Qc 25 0,Qc 26 0,Qc 27 0,Q 28 (.fa 1 (.t 5)),Q 29 (.ld false 1 (.t 28)),Q 30 (.neg (.t 29)),Q 31 (.bin .quo (.t 30) (Ki 1000)),Qc 32 0,Q 33 (.nck (.t 32)), 
 Q 34 (.fa 1 (.t 33)),Q 35 (.fa 7 (.t 34)),Q 36 (.ld false 1 (.t 35)),⟨some 37,.prim .call [.k (.fn (.func 97) [] []),.t 27,.t 31,.t 36] [],none⟩,Qc 38 0,Q 39 (.nck (.t 
 38)),Q 40 (.fa 1 (.t 39)),Q 41 (.fa 10 (.t 40)),Q 42 (.ld false 1 (.t 41)),⟨some 43,.prim .call [.k (.fn (.func 97) [] []),.t 26,.t 37,.t 42] [],none⟩,⟨some 44,.prim 
 .call [.k (.fn (.func 96) [] []),.t 25,.t 43] [],none⟩] [[],[],[],[],[3],[4],[5],[],[7],[8],[9],[10],[2,6,11],[],[13],[14],[15],[16],[1,12,17,12],[0, 
 18,18]]) (.reg [Qc 14 0,Q 15 (.mkI 76 (Ki 8)),⟨some 16,.prim .call [.k (.fn (.func 66) [] []),.t 14,.t 15] [],none⟩]))))))))) (.reg [Q 45 (.bin .add (.t 8) (Ki 1)),Qc 8 
 45]))))))
def q1G:List LRes:=[]
theorem q2W:q0r Tryz.prog 71 46 q1A q1G:=⟨_,_,Tryz.func71,rfl,by kernel_rfl,by kernel_rfl,rfl⟩
theorem j7q(fd:D)(q:PT)(c:Option Nat)(l:List Val)(hq:q.ok)(hl:l.length≤100000)(hv:∀ v∈l,v.s.length≤1000000∧(v.kind=2→Lim v.n)){m:Option AObj}(hm:rowM m=true):
  MVE Tryz.prog 71 [.ptr (.x 0) 0,.d (.list (q0K l))] [pob fd q c] m (.tuple []) [pob fd (q.lst l) c] m:=by
 refine q2W.mv (by kernel_rfl) rfl rfl ?_; generalize hM:mob m=M; have ha:aget M 1000=m:=hM▸q0P m; have hn:=hm; unfold rowM at hn; have hMM:∀ o:AObj,Sub ((0,o)::M) ((0,o)::M):=fun o=>hM▸subM o m
 have hll:=q2f l; simp(maxSteps:=2000000)only[go_sem,↓reduceIte,q1A,q1G,I,hll]; refine q0l (fun i:Nat=>⟨[(0,.ptr (.x 0) 0),(6,.d (.list (q0K l))),(7,.d (.int .i64 l.length)),(8,.d (.int .i64 i))],[],(0,pob fd (q.lst (l.take i)) c)::M⟩) (fun i=>i≤l.length) (fun i=>l.length-i) 0 ?_ (Nat.zero_le _) ?_
 ·refine Weak.mk ?_ ?_ (hMM _)<;>simp(maxSteps:=2000000)only[go_sem,↓reduceIte,Sub,Int.natCast_add,Int.natCast_mul]
 ·intro i hi; simp(maxSteps:=2000000)(disch:=omega)only[go_sem,↓reduceIte]; refine⟨fun hlt=>?_,fun hge=>?_⟩
  ·obtain⟨v,hx⟩:=get_some (l:=l) (i:=i) (by omega); have hg:getI (q0K l) (i:Int)=some v.d:=by rw[q0a,q7b,hx]; rfl
   have htk:l.take (i+1)=l.take i++[v]:=by rw[List.take_add_one,hx]; rfl
   have hgl:=j2T q (l.take i) v; rw[← htk]at hgl; have hok:=j4m hq (l.take i); obtain⟨hv1,hv2⟩:=hv v (List.mem_of_getElem? hx); generalize q.lst (l.take i)=q1 at *; simp(maxSteps:=2000000)(disch:=omega)only[go_sem,↓reduceIte,hg,Val.d_eq]; refine⟨fun h3=>?_,fun h3=>?_⟩
   ·refine q0c.poM rfl (j5v fd q1 c v.s hok hv1 hm) (q0e _ _ _) (q0e _ _ _) hm hM rfl rfl rfl ⟨⟨rfl,rfl⟩,rfl⟩ ?_; simp(maxSteps:=2000000)(disch:=omega)only[go_sem,↓reduceIte]; refine⟨i+1,?_,by omega,by omega⟩; rw[hgl,PT.ls1,if_pos h3]; refine Weak.mk ?_ ?_ (hMM _)<;>simp(maxSteps:=2000000)only[go_sem,↓reduceIte,Sub,Int.natCast_add,Int.natCast_mul]
   ·refine⟨fun h2=>?_,fun h2=>?_⟩
    ·obtain⟨b1,b2⟩:=hv2 h2; have hmul:∀ p a b,MVE Tryz.prog 97 [.ptr (.x 0) 0,.d (I a),.d (I b)] [pY fd q1 c p] m (.d (I ((mulF a b).getD 0))) [pY fd q1 c (orE p.1 (errO (mulF a b)),p.2)] m:=fun p a b=>pmul fd { q1 with bad:=p.1,tm:=p.2 } c a b hm
     have hon:∀ p x,MVE Tryz.prog 96 [.ptr (.x 0) 0,.d (I x)] [pY fd q1 c p] m (.tuple []) [pY fd q1 c (orE p.1 (errO (catF (1000,0,0,1000,x,0) p.2)),(catF (1000,0,0,1000,x,0) p.2).getD m60)] m:=fun p x=>pon fd { q1 with bad:=p.1,tm:=p.2 } c x hm
     refine z2T (pY fd q1 c) M 20 [0,5] [] (q1.bad,q1.tm) (by kernel_rfl) rfl rfl rfl ?_; obtain⟨t1,t2⟩:=j5Q (x := -v.n) (B:=1000000000) (by omega) (by omega); have hw:IntKind.i64.wrap ((0-v.n).tdiv 1000)=(-v.n).tdiv 1000:=by rw[Int.zero_sub]; exact IntWalk.i64_in _ (by omega)
     simp(maxSteps:=2000000)(disch:=omega)only[go_sem,↓reduceIte,pY,pob,hw]; refine FR.prim (q5D.mve rfl hM (hmul (q1.bad,q1.tm) ((-v.n).tdiv 1000) q1.s.size) (z8F _ _ _ _) (z8F _ _ _ _) hm rfl rfl ⟨⟨rfl,rfl⟩,rfl⟩) rfl ?_; simp(maxSteps:=2000000)(disch:=omega)only[go_sem,↓reduceIte,pY,pob]; refine FR.prim (q5D.mve rfl hM (hmul _ ((mulF ((-v.n).tdiv 1000) q1.s.size).getD 0) q1.s.scale) (z8F _ _ _ _) (z8F _ _ _ _) hm rfl rfl ⟨⟨rfl,rfl⟩,rfl⟩) rfl ?_
     refine FR.prim (q5D.mve rfl hM (hon _ ((mulF ((mulF ((-v.n).tdiv 1000) q1.s.size).getD 0) q1.s.scale).getD 0)) (z8F _ _ _ _) (z8F _ _ _ _) hm rfl rfl ⟨⟨rfl,rfl⟩,rfl⟩) rfl ?_; simp(maxSteps:=2000000)(disch:=omega)only[go_sem,↓reduceIte]; refine⟨i+1,?_,by omega,by omega⟩; rw[hgl,PT.ls1,if_neg h3,if_pos h2]; refine Weak.mk ?_ ?_ ?_
     ·simp(maxSteps:=2000000)only[go_sem,↓reduceIte,Sub,Int.natCast_add]
     ·simp(maxSteps:=2000000)only[go_sem,↓reduceIte,Sub]
     ·exact hMM _
    ·refine q0c.poM rfl (q54 fd q1 c 8 hm) (q0e _ _ _) (q0e _ _ _) hm hM rfl rfl rfl ⟨⟨rfl,rfl⟩,rfl⟩ ?_; simp(maxSteps:=2000000)(disch:=omega)only[go_sem,↓reduceIte]; refine⟨i+1,?_,by omega,by omega⟩; rw[hgl,PT.ls1,if_neg h3,if_neg h2]; refine Weak.mk ?_ ?_ (hMM _)<;>simp(maxSteps:=2000000)only[go_sem,↓reduceIte,Sub,Int.natCast_add,Int.natCast_mul]
  ·have hie:i=l.length:=by omega
   subst hie; simp(maxSteps:=2000000)(disch:=omega)only[go_sem,↓reduceIte,ha,hn]; rw[List.take_length]
end Go.Av.Tryz
set_option linter.unusedSimpArgs false
set_option maxRecDepth 100000
set_option maxHeartbeats 4000000
namespace Go.Av.Tryz
open Go.Proofs
abbrev Fl:=List (List UInt8×Fnt)
def q0Z(l:Fl):D:=.map (l.map fun p=>.str p.1) (l.map fun p=>p.2.d)
def q9q:Fl→List UInt8→Option Fnt
 |[],_=>none
 |p::r,s=>if s=p.1 then some p.2 else q9q r s
theorem z6u(l:Fl)(s:List UInt8):q2B (l.map fun p=>.str p.1) (l.map fun p=>p.2.d) (.str s)=(q9q l s).map Fnt.d:=by
 induction l with
 |nil=>rfl
 |cons p r ih=>
  simp only[List.map_cons,q2B,q9k,beq_iff_eq,q9q]at ih ⊢; split
  ·rfl
  ·exact ih
def fnt0:Fnt:=⟨false,[],0,[],[]⟩
theorem j6z:Tryz.prog.underlying 25=some (.map 9 62):=by kernel_rfl
theorem z8X:Tryz.prog.underlying 9=some .string:=by kernel_rfl
theorem fntZ:Program.zeroOf Tryz.prog 62=some fnt0.d:=by kernel_rfl
def PT.chs(q:PT)(fl:Fl)(l:List Val):PT:=
 match l with
 |[a,b]=>if a.kind=4∧b.kind=2 then(match q9q fl a.s with
  |some f=>{ q with s:={ q.s with font:=some f,size:=b.n } }
  |none=>q.er 6)else q.er 8
 |_=>q.er 8
def q1h:q0i:=
 .seq (.reg [⟨some 3,.box (.t 1),none⟩]) (.seq (.seq (.reg [Q 6 (.fa 1 (.t 3)),Q 7 (.ld false 1 (.t 6)),Q 8 (.len false (.t 7)),Q 9 (.bin .neq (.t 8) (Ki 2)),Qc 10 9,Qg 11 
 (.fa 1 (.t 3)) 10 false,Qg 12 (.ld false 1 (.t 11)) 10 false,Qg 13 (.ia 5 (.t 12) (Ki 0)) 10 false,Qg 14 (.fa 0 (.t 13)) 10 false,Qg 15 (.ld false 1 (.t 14)) 10 false,Qg 16 
 (.bin .neq (.t 15) (Ki 4)) 10 false,Q 17 (.pick (.t 10) KT (.t 16)),Qc 18 17,Qg 19 (.fa 1 (.t 3)) 18 false,Qg 20 (.ld false 1 (.t 19)) 18 false,Qg 21 (.ia 5 (.t 20) (Ki 1)) 
 18 false,Qg 22 (.fa 0 (.t 21)) 18 false,Qg 23 (.ld false 1 (.t 22)) 18 false,Qg 24 (.bin .neq (.t 23) (Ki 2)) 18 false,Q 25 (.pick (.t 18) KT (.t 24))]) (.cond (.t 25) (.seq 
 (.reg [Qc 26 0,Q 27 (.mkI 76 (Ki 8)),⟨some 28,.prim .call [.k (.fn (.func 66) [] []),.t 26,.t 27] [],none⟩]) .ret) .skip)) (.seq (.fam [Qc 30 0,Q 31 (.nck (.t 30)),Q 32 
 (.fa 0 (.t 31)),Q 33 (.ld false 1 (.t 32)),Q 34 (.fa 1 (.t 3)),Q 35 (.ld false 1 (.t 34)),Q 36 (.ia 5 (.t 35) (Ki 0)),Q 37 (.fa 2 (.t 36)),Q 38 (.ld false 1 (.t 37)),⟨some 
 39,.prim (.lookup 25 true) [.t 33,.t 38] [],none⟩,Qc 29 39,Q 40 (.ext 0 (.t 29)),Q 41 (.ext 1 (.t 29)),⟨some 4,.allo [.bool false,.map [] [],.int .i64 0,.map [] [], 
 .list []],none⟩,⟨none,.st 5 (.t 4) (.t 40),none⟩,Qa 5 41] [[],[0],[1],[2],[],[4],[5],[6],[7],[3,8],[9],[10],[10],[],[13,11,0,1,2,3,4,5,6,7,8,9,10, 
 11,13],[12,14,0,1,2,3,4,5,6,7,8,9,10,11,12,13,14]]) (.seq (.seq (.reg [Qc 42 5,Q 43 (.not (.t 42))]) (.cond (.t 43) (.seq (.reg [Qc 44 0,Q 45 (.mkI 76 (Ki 
 6)),⟨some 46,.prim .call [.k (.fn (.func 66) [] []),.t 44,.t 45] [],none⟩]) .ret) .skip)) (.reg [Qc 47 0,Qc 48 0,Q 49 (.fa 1 (.t 3)),Q 50 (.ld false 1 (.t 49)),Q 51 (.ia 
 5 (.t 50) (Ki 1)),Q 52 (.fa 1 (.t 51)),Q 53 (.ld false 1 (.t 52)),Q 54 (.nck (.t 47)),Q 55 (.fa 1 (.t 54)),Q 56 (.fa 6 (.t 55)),⟨none,.st 1 (.t 56) (.t 4),none⟩,Q 57 
 (.nck (.t 48)),Q 58 (.fa 1 (.t 57)),Q 59 (.fa 7 (.t 58)),⟨none,.st 1 (.t 59) (.t 53),none⟩]))))
def q1l:List LRes:=[]
theorem q2G:q0r Tryz.prog 48 60 q1h q1l:=⟨_,_,Tryz.func48,rfl,by kernel_rfl,by kernel_rfl,rfl⟩
theorem j5p(fl:Fl)(q:PT)(c:Option Nat)(o:OpV)(hl:o.args.length≤1000){m:Option AObj}(hm:rowM m=true):
  MVE Tryz.prog 48 [.ptr (.x 0) 0,.d o.d] [pob (q0Z fl) q c] m (.tuple []) [pob (q0Z fl) (q.chs fl o.args) c] m:=by
 refine q2G.mv (by kernel_rfl) rfl rfl ?_; generalize hM:mob m=M; have ha:aget M 1000=m:=hM▸q0P m; have hn:=hm; unfold rowM at hn; have hMM:∀ o:AObj,Sub ((0,o)::M) ((0,o)::M):=fun o=>hM▸subM o m
 generalize hE:pob (q0Z fl) (q.chs fl o.args) c=oE; obtain⟨nm,args⟩:=o; have hvl:=q2f args; simp only at hl hE; simp(maxSteps:=2000000)(disch:=omega)only[go_sem,↓reduceIte,q1h,q1l,I,OpV.d]; refine⟨fun h1=>?_,fun h1=>?_⟩
 ·obtain⟨a,b,rfl⟩:∃ a b,args=[a,b]:=by
   match args,h1 with
   |[a,b],_=>exact⟨a,b,rfl⟩
   |[],h1=>simp[q0K]at h1
   |[_],h1=>simp[q0K]at h1
   |_::_::_::_,h1=>simp[q0K]at h1; omega
  have hg0:getI (q0K [a,b]) 0=some a.d:=rfl; have hg1:getI (q0K [a,b]) 1=some b.d:=rfl; simp(maxSteps:=2000000)(disch:=omega)only[go_sem,↓reduceIte,hg0,hg1,Val.d_eq]; have hbad:¬(a.kind=4∧b.kind=2)→pob (q0Z fl) (q.er 8) c=oE:=fun h=>by rw[← hE]; simp only[PT.chs,h,↓reduceIte]
  refine⟨fun h2=>⟨fun h3=>?_,fun h3=>?_⟩,fun h2=>?_⟩
  ·refine q0c.poM rfl (q54 (q0Z fl) q c 8 hm) (q0e _ _ _) (q0e _ _ _) hm hM rfl rfl rfl ⟨⟨rfl,rfl⟩,rfl⟩ ?_; simp(maxSteps:=2000000)only[go_sem,↓reduceIte,ha,hn]; rw[hbad fun h=>h3 h.2]
  ·refine j1x (pX (q0Z fl) q c) M 15 [0,3] [4] q.bad (fun _=>_) (fun _=>.refl _) (by kernel_rfl) (fun _=>rfl) (fun _=>rfl) (fun _=>rfl) (fun b0=>?_); simp(maxSteps:=2000000)only[go_sem,↓reduceIte,pX,pob,PT.wb,hg0,Val.d_eq]; refine FR.prim (q5D.lookup (ks:=fl.map fun p=>.str p.1) (vs:=fl.map fun p=>p.2.d) (key:=.str a.s) rfl rfl j6z z8X rfl (fun k hk=>by obtain⟨p,_,rfl⟩:=List.mem_map.1 hk; rfl) fntZ) j1J ?_; rw[z6u]; cases hlk:q9q fl a.s with
   |none=>
    simp(maxSteps:=2000000)only[go_sem,↓reduceIte,Fnt.d,fnt0]; refine⟨_,rfl,rfl,_,GhoB.j6m 4 (D.cells fnt0.d) rfl (z3F (q0e (q0Z fl) q c).no hm hM),?_⟩; simp(maxSteps:=2000000)only[go_sem,↓reduceIte,AV.frzP,z0f,Option.isSome_none]; refine q0c.poM rfl (q54 (q0Z fl) q c 6 hm) (q0e _ _ _) (q0e _ _ _) hm hM rfl rfl rfl ⟨⟨rfl,rfl⟩,rfl⟩ ?_; simp(maxSteps:=2000000)only[go_sem,↓reduceIte,ha,hn]; rw[← hE]; simp only[PT.chs,h2,h3,hlk,and_self,↓reduceIte]
   |some f=>
    simp(maxSteps:=2000000)only[go_sem,↓reduceIte,Fnt.d]; refine⟨_,rfl,rfl,_,GhoB.j6m 4 (D.cells f.d) rfl (z3F (q0e (q0Z fl) q c).no hm hM),?_⟩; simp(maxSteps:=2000000)only[go_sem,↓reduceIte,AV.frzP,z0f,Option.isSome_some,Fnt.d,hg1,Val.d_eq,ha,hn]; rw[← hE]; simp only[PT.chs,h2,h3,hlk,and_self,↓reduceIte,pob,I,q7y]
  ·refine q0c.poM rfl (q54 (q0Z fl) q c 8 hm) (q0e _ _ _) (q0e _ _ _) hm hM rfl rfl rfl ⟨⟨rfl,rfl⟩,rfl⟩ ?_; simp(maxSteps:=2000000)only[go_sem,↓reduceIte,ha,hn]; rw[hbad fun h=>h2 h.1]
 ·have e:q.chs fl args=q.er 8:=by
   match args,h1 with
   |[a,b],h1=>simp[q0K]at h1
   |[],_=>rfl
   |[_],_=>rfl
   |_::_::_::_,_=>rfl
  refine q0c.poM rfl (q54 (q0Z fl) q c 8 hm) (q0e _ _ _) (q0e _ _ _) hm hM rfl rfl rfl ⟨⟨rfl,rfl⟩,rfl⟩ ?_; simp(maxSteps:=2000000)only[go_sem,↓reduceIte,ha,hn]; rw[← hE,e]
end Go.Av.Tryz
set_option linter.unusedSimpArgs false
set_option maxRecDepth 100000
set_option maxHeartbeats 4000000
namespace Go.Av.Tryz
open Go.Proofs
def svOK(q:PT):Option Nat→Prop
 |none=>q.saved=[]
 |some c=>q.saved.length≤c∧c≤maxLen
def PT.sv(q:PT)(back:Bool):PT:=
 if back=true then(match q.saved.getLast? with
  |none=>q.er 10
  |some x=>{ q with s:=x,saved:=q.saved.dropLast })
 else if q.saved.length=8 then q.er 10 else{ q with saved:=q.saved++[q.s] }
def z63(fd:D)(q:PT)(o:AObj)(m:Option AObj):Prop:=∃ c,svOK q c∧o=pob fd q c∧m=svO q.saved c
instance:Inhabited PSt:=⟨⟨m60,none,0,0,0,0,0,0⟩⟩
def pZ(fd:D)(q:PT)(c:Option Nat)(s:PSt):AObj:=pob fd { q with s:=s } c
theorem z5k(l:List Gph):outV l=.ns∨∃ a b c d,outV l=.own a b c d:=by
 cases l with
 |nil=>exact .inl rfl
 |cons g l=>exact .inr ⟨_,_,_,_,rfl⟩
theorem svSl:q28 Tryz.prog 84=some (83,13,104):=by kernel_rfl
theorem svZ:q9C Tryz.prog 83=true:=by kernel_rfl
theorem svT:isSl Tryz.prog 84=true:=by kernel_rfl
theorem z1O(l:List PSt):∀ y∈l.map PSt.d,y.cells.length=13:=fun y hy=>by
 obtain⟨s,_,rfl⟩:=List.mem_map.1 hy; rfl
theorem j3x(l:List PSt)(x:PSt)(c:Nat):List.take 13 (List.drop (l.length*13) (rowC 13 ((l++[x]).map PSt.d) c))=
  [.d (I x.ctm.1),.d (I x.ctm.2.1),.d (I x.ctm.2.2.1),.d (I x.ctm.2.2.2.1),.d (I x.ctm.2.2.2.2.1),.d (I x.ctm.2.2.2.2.2),.d (q7y x.font),.d (I x.size),.d (I x.char),.d (I x.word),.d (I x.scale),.d (I x.lead),.d (I x.rise)]:=by
 have h1:((l.map PSt.d).flatMap D.cells).length=l.length*13:=by rw[q0B (z1O l),List.length_map]
 have h2:l.length*13=(((l.map PSt.d).flatMap D.cells).map AV.d).length:=by rw[List.length_map,h1]
 rw[rowC,List.map_append,List.flatMap_append,List.map_append,List.append_assoc,h2,List.drop_left]; rfl
theorem j5A(l:List PSt)(c:Nat)(h:l.length≤c):(rowC 13 (l.map PSt.d) c).length=c*13:=q3Y (z1O l) (by rw[List.length_map]; exact h)
def q0j:q0i:=
 .seq (.reg [Qc 5 0,Q 6 (.nck (.t 5)),Q 7 (.fa 14 (.t 6)),Q 8 (.ld false 1 (.t 7)),Q 9 (.len false (.t 8)),Qa 4 9]) (.block 0 (.seq (.seq (.reg [Qc 24 1,Q 25 (.not (.t 24)), 
 Qc 26 25,Qd 27 4 26 true,Qg 28 (.bin .eql (.t 27) (Ki 8)) 26 true,Q 29 (.pick (.t 26) (.t 28) KF),Qa 23 29]) (.cond (.t 23) .skip (.reg [Qc 30 1,Qc 31 30,Qd 32 4 31 true, 
 Qg 33 (.bin .eql (.t 32) (Ki 0)) 31 true,Q 34 (.pick (.t 31) (.t 33) KF),Qa 23 34]))) (.cond (.t 23) (.reg [Qc 35 0,Q 36 (.mkI 76 (Ki 10)),⟨some 37,.prim .call [.k (.fn 
 (.func 66) [] []),.t 35,.t 36] [],none⟩]) (.seq (.reg [Qc 39 1,Qa 38 39]) (.cond (.t 38) (.fam [Qc 40 0,Qc 41 0,Qc 42 0,Q 43 (.nck (.t 42)),Q 44 (.fa 14 (.t 43)),Q 45 
 (.ld false 1 (.t 44)),Qc 46 4,Q 47 (.bin .sub (.t 46) (Ki 1)),Q 48 (.ia 13 (.t 45) (.t 47)),Q 49 (.ld true 13 (.t 48)),Qc 50 0,Q 51 (.nck (.t 50)),Q 52 (.fa 14 (.t 51)),Q 
 53 (.ld false 1 (.t 52)),Qc 54 4,Q 55 (.bin .sub (.t 54) (Ki 1)),Q 56 (.sub 13 (.t 53) none (some (.t 55))),Q 57 (.nck (.t 40)),Q 58 (.fa 1 (.t 57)),⟨none,.st 13 (.t 58) 
 (.t 49),none⟩,Q 59 (.nck (.t 41)),Q 60 (.fa 14 (.t 59)),⟨none,.st 1 (.t 60) (.t 56),none⟩] [[],[],[],[2],[3],[4],[],[6],[5,7],[8],[],[10],[11],[12],[],[14], 
 [13,15],[0,0,2,3,4,5,6,7,8,9,13],[17,0,2,3,4,5,6,7,8,9,13],[18,9,0,2,3,4,5,6,7,8,9,13],[1,0,1,2,3,4,5,6,7,8,9,10,11,12,13,14, 
 15,16,17,18,19],[20,0,1,2,3,4,5,6,7,8,9,10,11,12,13,14,15,16,17,18,19],[21,16,19,0,1,2,3,4,5,6,7,8,9,10,11,12,13,14,15,16,17,18, 
 19]]) (.dreg [Qc 10 0,Qc 11 0,Qc 15 0,Q 12 (.nck (.t 11)),Q 13 (.fa 14 (.t 12)),Q 14 (.ld false 1 (.t 13)),Q 16 (.nck (.t 15)),Q 17 (.fa 1 (.t 16)),Q 18 (.ld true 13 (.t 
 17)),⟨some 19,.bsl 83 13 [.t 18],none⟩,⟨some 20,.prim (.bi .append [84,84]) [.t 14,.t 19] [(10,.cp (.t 0))],none⟩,Q 21 (.nck (.t 10)),Q 22 (.fa 14 (.t 21)),⟨none,.st 
 1 (.t 22) (.t 20),none⟩]))))))
def q0k:List LRes:=[]
theorem q2Y:q0r Tryz.prog 44 61 q0j q0k:=⟨_,_,Tryz.func44,rfl,by kernel_rfl,by kernel_rfl,rfl⟩
theorem j6M(fd:D)(q:PT)(c:Option Nat)(hc:svOK q c)(hq:q.saved.length≤8)(back:Bool):
  MV Tryz.prog 44 [.ptr (.x 0) 0,.d (.bool back)] [pob fd q c] (svO q.saved c) (fun r hs' m'=>r=.tuple []∧∃ o',hs'=[o']∧z63 fd (q.sv back) o' m'):=by
 have hm:=z2Y q.saved c; generalize hmm:svO q.saved c=m at *; refine q2Y.mv (by kernel_rfl) rfl rfl ?_; generalize hM:mob m=M; have ha:aget M 1000=m:=hM▸q0P m; have hn:=hm; unfold rowM at hn; have hMM:∀ o:AObj,Sub ((0,o)::M) ((0,o)::M):=fun o=>hM▸subM o m
 cases c with
 |none=>
  have hs:q.saved=[]:=hc; cases back with
  |true=>
   have e:q.sv true=q.er 10:=by simp[PT.sv,hs]
   rw[e]; simp(maxSteps:=2000000)only[go_sem,↓reduceIte,q0j,q0k,I,pob,svV]; refine q0c.poM rfl (q54 fd q none 10 hm) (q0e _ _ _) (q0e _ _ _) hm hM rfl rfl rfl ⟨⟨rfl,rfl⟩,rfl⟩ ?_; simp(maxSteps:=2000000)only[go_sem,↓reduceIte,ha,hn]; exact⟨_,rfl,none,hs,rfl,hmm.symm⟩
  |false=>
   have e:q.sv false={ q with saved:=q.saved++[q.s] }:=by simp[PT.sv,hs]
   rw[e]; subst hM; subst hmm; simp(maxSteps:=2000000)only[go_sem,↓reduceIte,q0j,q0k,I,pob,svV,svO,mob]; refine q0c.appX (c:=0) (fs:=[]) (ys:=[q.s.d]) svSl svZ svT (.inl ⟨.inl rfl,rfl⟩) (.inl rfl) (by simp) (fun y hy=>by simp at hy; subst hy; rfl) (fun y hy=>by cases hy) (by simp only[List.length_cons,List.length_nil,maxLen]; omega) (fun c' hc1 hc2=>?_)
   rcases z5k q.out with ho|⟨o1,o2,o3,o4,ho⟩<;>simp(maxSteps:=2000000)only[go_sem,↓reduceIte,St.q29,AV.drop,AV.has,List.length_nil,List.length_cons,List.nil_append,q66,ho]<;>refine⟨_,rfl,some c',⟨by simp only[List.length_append,List.length_map,List.length_cons,List.length_nil]at hc1 ⊢; rw[hs]; simpa using hc1,hc2⟩,?_,?_⟩
   ·simp[pob,svV,ho,I,hs]
   ·simp[svO,List.map_append,hs]
   ·simp[pob,svV,ho,I,hs]
   ·simp[svO,List.map_append,hs]
 |some c=>
  have hc':q.saved.length≤c∧c≤maxLen:=hc; cases back with
  |true=>
   rcases List.eq_nil_or_concat q.saved with hs|⟨l,x,hs⟩
   ·have e:q.sv true=q.er 10:=by simp[PT.sv,hs]
    rw[e]; have hz:(q.saved.length:Int)=0:=by rw[hs]; rfl
    simp(maxSteps:=2000000)only[go_sem,↓reduceIte,q0j,q0k,I,pob,svV,hz]; refine q0c.poM rfl (q54 fd q (some c) 10 hm) (q0e _ _ _) (q0e _ _ _) hm hM rfl rfl rfl ⟨⟨rfl,rfl⟩,rfl⟩ ?_; simp(maxSteps:=2000000)only[go_sem,↓reduceIte,ha,hn]; exact⟨_,rfl,some c,hc,rfl,hmm.symm⟩
   ·rw[List.concat_eq_append]at hs; have e:q.sv true={ q with s:=x,saved:=l }:=by simp[PT.sv,hs]
    rw[e]; have hlen:q.saved.length=l.length+1:=by rw[hs]; simp
    have hz:((q.saved.length:Int)=0)=False:=eq_false (by omega); subst hM; subst hmm; simp(maxSteps:=2000000)only[go_sem,↓reduceIte,q0j,q0k,I,pob,svV,svO,mob,hz]; refine j1x (pZ fd q (some c)) [(1000,AObj.cells (rowC 13 (q.saved.map PSt.d) c))] 20 [0,4] [999998] q.s (fun _=>_) (fun _=>.refl _) (by kernel_rfl) (fun _=>rfl) (fun _=>rfl) (fun _=>rfl) (fun b0=>?_)
    have hw:IntKind.i64.wrap ((q.saved.length:Int)-1)=l.length:=by rw[hlen,Int.natCast_add,Int.natCast_one,Int.add_sub_cancel]; exact IntWalk.i64_in _ (by omega)
    have hz1:(0≤(l.length:Int)∧(l.length:Int)<q.saved.length)=True:=eq_true (by omega); have hz2:(l.length*13+13≤(rowC 13 (q.saved.map PSt.d) c).length)=True:=eq_true (by rw[j5A _ _ hc'.1]; omega); have hz3:=j3x l x c; rw[← hs]at hz3; have hz4:(0≤(l.length:Int)∧(l.length:Int)≤c)=True:=eq_true (by omega); simp(maxSteps:=2000000)(disch:=omega)only[go_sem,↓reduceIte,pZ,pob,svV,hw,hz1,hz2,hz3,hz4,Int.toNat_natCast]; refine⟨x,StF.x0 rfl rfl rfl rfl (by simp) rfl,?_⟩
    refine⟨_,GhoB.j5z (sz:=13) (c:=c) (fs:=l.map PSt.d) (gs:=[x.d]) (by rw[hs,List.map_append]; rfl) (z1O _) (z1O [x]) (by simp; omega),?_⟩; simp(maxSteps:=2000000)only[go_sem,↓reduceIte,q66]; exact⟨_,rfl,some c,⟨by simp only; omega,hc'.2⟩,rfl,rfl⟩
  |false=>
   by_cases h8:q.saved.length=8
   ·have e:q.sv false=q.er 10:=by simp[PT.sv,h8]
    rw[e]; have hz:(q.saved.length:Int)=8:=by omega
    simp(maxSteps:=2000000)only[go_sem,↓reduceIte,q0j,q0k,I,pob,svV,hz]; refine q0c.poM rfl (q54 fd q (some c) 10 hm) (q0e _ _ _) (q0e _ _ _) hm hM rfl rfl rfl ⟨⟨rfl,rfl⟩,rfl⟩ ?_; simp(maxSteps:=2000000)only[go_sem,↓reduceIte,ha,hn]; exact⟨_,rfl,some c,hc,rfl,hmm.symm⟩
   ·have e:q.sv false={ q with saved:=q.saved++[q.s] }:=by simp[PT.sv,h8]
    rw[e]; have hz:((q.saved.length:Int)=8)=False:=eq_false (by omega); subst hM; subst hmm; simp(maxSteps:=2000000)only[go_sem,↓reduceIte,q0j,q0k,I,pob,svV,svO,mob,hz]
    refine q0c.appX (c:=c) (fs:=q.saved.map PSt.d) (ys:=[q.s.d]) svSl svZ svT (.inr ⟨by rw[List.length_map]; rfl,rfl,by rw[List.length_map]; exact hc'.1,hc'.2⟩) (.inl rfl) (by simp) (fun y hy=>by simp at hy; subst hy; rfl) (z1O _) (by simp only[List.length_map,List.length_cons,List.length_nil,maxLen]at hc' ⊢; omega) (fun c' hc1 hc2=>?_)
    rcases z5k q.out with ho|⟨o1,o2,o3,o4,ho⟩<;>simp(maxSteps:=2000000)only[go_sem,↓reduceIte,St.q29,AV.drop,AV.has,List.length_nil,List.length_cons,List.nil_append,q66,ho]<;>refine⟨_,rfl,some c',⟨by simp only[List.length_append,List.length_map,List.length_cons,List.length_nil]at hc1 ⊢; omega,hc2⟩,?_,?_⟩
    ·simp[pob,svV,ho,I]
    ·simp[svO,List.map_append]
    ·simp[pob,svV,ho,I]
    ·simp[svO,List.map_append]
end Go.Av.Tryz
set_option linter.unusedSimpArgs false
set_option maxRecDepth 100000
set_option maxHeartbeats 4000000
namespace Go.Av.Tryz
open Go.Proofs
def setAt(s:List UInt8):Option Nat:=
 if s=[84,99]then some 9 else if s=[84,119]then some 10 else if s=[84,122]then some 11 else if s=[84,76]then some 12 else if s=[84,115]then some 13 else none
theorem j6y:Tryz.prog.underlying 108=some (.map 9 106):=by kernel_rfl
def j1A(b:Nat):List UE:=[.m 3,
 .v 4 (.d (.addr (at_ b 0))),.v 5 (.d (.addr (at_ b 0))),.v 6 (.d (.addr (at_ b 1))),.v 7 (.d (.addr (at_ b 9))),.u [84,99] (.addr (at_ b 9)),
 .v 8 (.d (.addr (at_ b 0))),.v 9 (.d (.addr (at_ b 0))),.v 10 (.d (.addr (at_ b 1))),.v 11 (.d (.addr (at_ b 10))),.u [84,119] (.addr (at_ b 10)),
 .v 12 (.d (.addr (at_ b 0))),.v 13 (.d (.addr (at_ b 0))),.v 14 (.d (.addr (at_ b 1))),.v 15 (.d (.addr (at_ b 11))),.u [84,122] (.addr (at_ b 11)),
 .v 16 (.d (.addr (at_ b 0))),.v 17 (.d (.addr (at_ b 0))),.v 18 (.d (.addr (at_ b 1))),.v 19 (.d (.addr (at_ b 12))),.u [84,76] (.addr (at_ b 12)),
 .v 20 (.d (.addr (at_ b 0))),.v 21 (.d (.addr (at_ b 0))),.v 22 (.d (.addr (at_ b 1))),.v 23 (.d (.addr (at_ b 13))),.u [84,115] (.addr (at_ b 13)),
 .v 24 (.mp (.l 3)),.v 2 (.mp (.l 3))]
def q1d:q0i:=
 .seq (.reg [Qx 2 (.k (.d (.map [] [])))]) (.seq (.fam [⟨some 3,.prim (.mkMap 108) [] [],none⟩,Qc 4 0,Q 5 (.nck (.t 4)),Q 6 (.fa 1 (.t 5)),Q 7 (.fa 8 (.t 6)),⟨none,.prim 
 (.mapUpd 108) [.t 3,.k (.d (.str [84,99])),.t 7] [],none⟩,Qc 8 0,Q 9 (.nck (.t 8)),Q 10 (.fa 1 (.t 9)),Q 11 (.fa 9 (.t 10)),⟨none,.prim (.mapUpd 108) [.t 3,.k (.d 
 (.str [84,119])),.t 11] [],none⟩,Qc 12 0,Q 13 (.nck (.t 12)),Q 14 (.fa 1 (.t 13)),Q 15 (.fa 10 (.t 14)),⟨none,.prim (.mapUpd 108) [.t 3,.k (.d (.str [84,122])),.t 15] 
 [],none⟩,Qc 16 0,Q 17 (.nck (.t 16)),Q 18 (.fa 1 (.t 17)),Q 19 (.fa 11 (.t 18)),⟨none,.prim (.mapUpd 108) [.t 3,.k (.d (.str [84,76])),.t 19] [],none⟩,Qc 20 0,Q 21 
 (.nck (.t 20)),Q 22 (.fa 1 (.t 21)),Q 23 (.fa 12 (.t 22)),⟨none,.prim (.mapUpd 108) [.t 3,.k (.d (.str [84,115])),.t 23] [],none⟩,Qc 24 3,Qa 2 24] [[],[],[1],[2], 
 [3],[0,4],[],[6],[7],[8],[0,9],[],[11],[12],[13],[0,14],[],[16],[17],[18],[0,19],[],[21],[22],[23],[0,24],[0,1,2,3,4,5,6,7,8,9,10,11,12, 
 13,14,15,16,17,18,19,20,21,22,23,24,25],[26,0,1,2,3,4,5,6,7,8,9,10,11,12,13,14,15,16,17,18,19,20,21,22,23,24,25,26]]) .ret)
def q1f:List LRes:=[.tmp 2]
theorem q2D:q0r Tryz.prog 42 25 q1d q1f:=⟨_,_,Tryz.func42,rfl,by kernel_rfl,by kernel_rfl,rfl⟩
theorem z5u(b:Nat):q0s Tryz.prog 42 [.addr (at_ b 0)] (fun r=>∃ ks vs,r=.one (.map ks vs)∧(∀ k∈ks,q0L .string k=true)∧∀ s,q2B ks vs (.str s)=(setAt s).map fun o=>.addr (at_ b o)):=by
 refine q2D.call rfl ?_; simp(maxSteps:=2000000)only[go_sem,↓reduceIte,q1d,q1f]; refine j3F [(0,.d (.addr (at_ b 0)))] (j1A b) rfl j6y z8X (fun p hp=>?_) (fun p hp=>?_) (by kernel_rfl) (by kernel_rfl) rfl ?_ (fun b0 ks vs h1 h2=>?_)
 ·simp at hp; subst hp; rfl
 ·simp at hp; subst hp; exact⟨rfl,rfl⟩
 ·refine⟨⟨rfl,rfl⟩,⟨.inl ⟨_,rfl,rfl,rfl⟩,.inl rfl⟩,⟨.inl ⟨_,rfl,rfl,rfl⟩,.inl rfl⟩,⟨.inl ⟨_,rfl,rfl,rfl⟩,.inl rfl⟩,⟨.inl ⟨_,rfl,rfl,rfl⟩,.inl rfl⟩,⟨_,rfl,by simp,_,rfl,rfl⟩,⟨.inl ⟨_,rfl,rfl,rfl⟩,.inl rfl⟩,⟨.inl ⟨_,rfl,rfl,rfl⟩,.inl rfl⟩,⟨.inl ⟨_,rfl,rfl,rfl⟩,.inl rfl⟩,⟨.inl ⟨_,rfl,rfl,rfl⟩,.inl rfl⟩,⟨_,rfl,by simp,_,rfl,rfl⟩,⟨.inl ⟨_,rfl,rfl,rfl⟩,.inl rfl⟩,⟨.inl ⟨_,rfl,rfl,rfl⟩,.inl rfl⟩,⟨.inl ⟨_,rfl,rfl,rfl⟩,.inl rfl⟩,⟨.inl ⟨_,rfl,rfl,rfl⟩,.inl rfl⟩,⟨_,rfl,by simp,_,rfl,rfl⟩,⟨.inl ⟨_,rfl,rfl,rfl⟩,.inl rfl⟩,⟨.inl ⟨_,rfl,rfl,rfl⟩,.inl rfl⟩,⟨.inl ⟨_,rfl,rfl,rfl⟩,.inl rfl⟩,⟨.inl ⟨_,rfl,rfl,rfl⟩,.inl rfl⟩,⟨_,rfl,by simp,_,rfl,rfl⟩,⟨.inl ⟨_,rfl,rfl,rfl⟩,.inl rfl⟩,⟨.inl ⟨_,rfl,rfl,rfl⟩,.inl rfl⟩,⟨.inl ⟨_,rfl,rfl,rfl⟩,.inl rfl⟩,⟨.inl ⟨_,rfl,rfl,rfl⟩,.inl rfl⟩,⟨_,rfl,by simp,_,rfl,rfl⟩,⟨.inl ⟨_,rfl,rfl,rfl⟩,.inr (by simp)⟩,⟨.inr ⟨_,rfl,rfl,rfl⟩,.inr (by simp)⟩,trivial⟩
 ·refine⟨_,GhoB.frzM (a:=3) (ks:=ks) (vs:=vs) rfl,?_⟩; simp(maxSteps:=2000000)only[go_sem,↓reduceIte,q4P,j1A,List.filterMap_cons,List.filterMap_nil,UE.z1K,AV.frzM,amap]; refine⟨ks,vs,rfl,h2,fun s=>?_⟩; rw[h1]; simp only[j1A,entU,true_and,eq_comm (b:=s),setAt]; split
  ·rfl
  split
  ·rfl
  split
  ·rfl
  split
  ·rfl
  split<;>rfl
end Go.Av.Tryz
set_option linter.unusedSimpArgs false
set_option maxRecDepth 100000
set_option maxHeartbeats 4000000
namespace Go.Av.Tryz
open Go.Proofs
def ng(x:Int):Int:=IntKind.i64.wrap (0-x)
def m6L(l:List Int):M6:=(l.getD 0 0,l.getD 1 0,l.getD 2 0,l.getD 3 0,l.getD 4 0,l.getD 5 0)
def PT.nu(q:PT)(l:List Val)(k:Nat):PT:=q.er (kErr (q8R l k))
def PT.st(q:PT)(l:List Val):PT:=(q.er (kErr (strM l))).shw ((strM l).getD [])
def PT.ld(q:PT)(x:Int):PT:={ q with s:={ q.s with lead:=x } }
def PT.tj(q:PT):List Val→PT
 |[v]=>if v.kind=5 then q.lst v.l else q.er 8
 |_=>q.er 8
def PT.ins(q:PT)(o:OpV):PT:=
 if o.nm=[84,100]then(q.nu o.args 2).mv ((q33 o.args 2).getD 0 0) ((q33 o.args 2).getD 1 0)
 else if o.nm=[84,68]then((q.nu o.args 2).ld (ng ((q33 o.args 2).getD 1 0))).mv ((q33 o.args 2).getD 0 0) ((q33 o.args 2).getD 1 0)
 else if o.nm=[84,109]then{ q.nu o.args 6 with tm:=m6L (q33 o.args 6),lm:=m6L (q33 o.args 6) }
 else if o.nm=[84,42]then(q.nu o.args 0).mv 0 (ng (q.nu o.args 0).s.lead)
 else if o.nm=[84,106]then q.st o.args
 else if o.nm=[39]then(q.mv 0 (ng q.s.lead)).st o.args
 else if o.nm=[84,74]then q.tj o.args
 else q
theorem q63(l:List Val)(k:Nat):(q33 l k).length=k:=by
 unfold q33 q8R; split
 ·rename_i h; exact h.1
 ·simp
theorem len2{α:Type}{l:List α}(h:l.length=2):∃ a b,l=[a,b]:=by
 match l,h with
 |[a,b],_=>exact⟨a,b,rfl⟩
theorem len6{α:Type}{l:List α}(h:l.length=6):∃ a b c d e f,l=[a,b,c,d,e,f]:=by
 match l,h with
 |[a,b,c,d,e,f],_=>exact⟨a,b,c,d,e,f,rfl⟩
structure OpV.ok(o:OpV):Prop where
 n:o.args.length≤1000
 s:∀ v∈o.args,v.s.length≤1000000∧(v.kind=2→Lim v.n)∧v.l.length≤100000∧∀ w∈v.l,w.s.length≤1000000∧(w.kind=2→Lim w.n)
theorem j1M{o:OpV}(ho:o.ok):((strM o.args).getD []).length≤1000000:=by
 obtain⟨nm,args⟩:=o; match args,ho with
 |[],_=>simp[strM]
 |[v],ho=>
  simp only[strM]; split
  ·exact(ho.s v (by simp)).1
  ·simp
 |_::_::_,_=>simp[strM]
theorem z8y{q:PT}(h:q.ok)(x y:Int):(q.mv x y).ok:=⟨fun hb=>h.out (q52 hb),h.font⟩
def q1j:q0i:=
 .seq (.reg [⟨some 3,.box (.t 1),none⟩]) (.seq (.reg [Q 6 (.fa 0 (.t 3)),Q 7 (.ld false 1 (.t 6))]) (.block 0 (.seq (.reg [Q 9 (.bin .eql (.t 7) (.k (.d (.str [84,100])))),Qa 8 
 9]) (.cond (.t 8) (.seq (.reg [Qc 10 0,Q 11 (.ld true 2 (.t 3)),⟨some 12,.prim .call [.k (.fn (.func 43) [] []),.t 10,.t 11,.k (.d (.int .i64 2))] [],none⟩,Qa 4 12]) 
 (.dreg [Qc 13 0,Qc 14 4,Q 15 (.ia 1 (.t 14) (Ki 0)),Q 16 (.ld false 1 (.t 15)),Qc 17 4,Q 18 (.ia 1 (.t 17) (Ki 1)),Q 19 (.ld false 1 (.t 18)),⟨some 20,.prim .call [.k 
 (.fn (.func 68) [] []),.t 13,.t 16,.t 19] [],none⟩])) (.seq (.reg [Q 22 (.bin .eql (.t 7) (.k (.d (.str [84,68])))),Qa 21 22]) (.cond (.t 21) (.seq (.reg [Qc 23 0,Q 24 
 (.ld true 2 (.t 3)),⟨some 25,.prim .call [.k (.fn (.func 43) [] []),.t 23,.t 24,.k (.d (.int .i64 2))] [],none⟩,Qa 5 25]) (.seq (.reg [Qc 26 0,Qc 27 5,Q 28 (.ia 1 (.t 
 27) (Ki 1)),Q 29 (.ld false 1 (.t 28)),Q 30 (.neg (.t 29)),Q 31 (.nck (.t 26)),Q 32 (.fa 1 (.t 31)),Q 33 (.fa 11 (.t 32)),⟨none,.st 1 (.t 33) (.t 30),none⟩]) (.dreg [Qc 
 34 0,Qc 35 5,Q 36 (.ia 1 (.t 35) (Ki 0)),Q 37 (.ld false 1 (.t 36)),Qc 38 5,Q 39 (.ia 1 (.t 38) (Ki 1)),Q 40 (.ld false 1 (.t 39)),⟨some 41,.prim .call [.k (.fn (.func 
 68) [] []),.t 34,.t 37,.t 40] [],none⟩]))) (.seq (.reg [Q 43 (.bin .eql (.t 7) (.k (.d (.str [84,109])))),Qa 42 43]) (.cond (.t 42) (.seq (.reg [Qc 44 0,Qc 45 0,Q 46 (.ld 
 true 2 (.t 3)),⟨some 47,.prim .call [.k (.fn (.func 43) [] []),.t 45,.t 46,.k (.d (.int .i64 6))] [],none⟩,⟨some 48,.call 46 [.t 47],none⟩,Q 49 (.nck (.t 44)),Q 50 
 (.fa 15 (.t 49)),⟨none,.st 6 (.t 50) (.t 48),none⟩]) (.reg [Qc 51 0,Qc 52 0,Q 53 (.nck (.t 52)),Q 54 (.fa 15 (.t 53)),Q 55 (.ld true 6 (.t 54)),Q 56 (.nck (.t 51)),Q 57 
 (.fa 21 (.t 56)),⟨none,.st 6 (.t 57) (.t 55),none⟩])) (.seq (.reg [Q 59 (.bin .eql (.t 7) (.k (.d (.str [84,42])))),Qa 58 59]) (.cond (.t 58) (.seq (.reg [Qc 60 0,Q 61 (.ld 
 true 2 (.t 3)),⟨some 62,.prim .call [.k (.fn (.func 43) [] []),.t 60,.t 61,.k (.d (.int .i64 0))] [],none⟩]) (.reg [Qc 63 0,Qc 64 0,Q 65 (.nck (.t 64)),Q 66 (.fa 1 (.t 
 65)),Q 67 (.fa 11 (.t 66)),Q 68 (.ld false 1 (.t 67)),Q 69 (.neg (.t 68)),⟨some 70,.prim .call [.k (.fn (.func 68) [] []),.t 63,.k (.d (.int .i64 0)),.t 69] [],none⟩])) 
 (.seq (.reg [Q 72 (.bin .eql (.t 7) (.k (.d (.str [84,106])))),Qa 71 72]) (.cond (.t 71) (.reg [Qc 73 0,Qc 74 0,Q 75 (.ld true 2 (.t 3)),⟨some 76,.prim .call [.k (.fn 
 (.func 70) [] []),.t 74,.t 75,.k (.d (.int .i64 0))] [],none⟩,⟨some 77,.prim .call [.k (.fn (.func 69) [] []),.t 73,.t 76] [],none⟩]) (.seq (.reg [Q 79 (.bin .eql (.t 7) 
 (.k (.d (.str [39])))),Qa 78 79]) (.cond (.t 78) (.seq (.reg [Qc 80 0,Qc 81 0,Q 82 (.nck (.t 81)),Q 83 (.fa 1 (.t 82)),Q 84 (.fa 11 (.t 83)),Q 85 (.ld false 1 (.t 84)),Q 
 86 (.neg (.t 85)),⟨some 87,.prim .call [.k (.fn (.func 68) [] []),.t 80,.k (.d (.int .i64 0)),.t 86] [],none⟩]) (.reg [Qc 88 0,Qc 89 0,Q 90 (.ld true 2 (.t 3)),⟨some 91, 
 .prim .call [.k (.fn (.func 70) [] []),.t 89,.t 90,.k (.d (.int .i64 0))] [],none⟩,⟨some 92,.prim .call [.k (.fn (.func 69) [] []),.t 88,.t 91] [],none⟩])) (.seq (.reg 
 [Q 94 (.bin .eql (.t 7) (.k (.d (.str [84,74])))),Qa 93 94]) (.cond (.t 93) (.seq (.seq (.reg [Q 95 (.fa 1 (.t 3)),Q 96 (.ld false 1 (.t 95)),Q 97 (.len false (.t 96)),Q 98 
 (.bin .neq (.t 97) (Ki 1)),Qc 99 98,Qg 100 (.fa 1 (.t 3)) 99 false,Qg 101 (.ld false 1 (.t 100)) 99 false,Qg 102 (.ia 5 (.t 101) (Ki 0)) 99 false,Qg 103 (.fa 0 (.t 102)) 99 
 false,Qg 104 (.ld false 1 (.t 103)) 99 false,Qg 105 (.bin .neq (.t 104) (Ki 5)) 99 false,Q 106 (.pick (.t 99) KT (.t 105))]) (.cond (.t 106) (.seq (.reg [Qc 107 0,Q 108 (.mkI 
 76 (Ki 8)),⟨some 109,.prim .call [.k (.fn (.func 66) [] []),.t 107,.t 108] [],none⟩]) .ret) .skip)) (.reg [Qc 110 0,Q 111 (.fa 1 (.t 3)),Q 112 (.ld false 1 (.t 111)),Q 
 113 (.ia 5 (.t 112) (Ki 0)),Q 114 (.fa 3 (.t 113)),Q 115 (.ld false 1 (.t 114)),⟨some 116,.prim .call [.k (.fn (.func 71) [] []),.t 110,.t 115] [],none⟩])) 
 .skip))))))))))))))))
def q1n:List LRes:=[]
theorem q2I:q0r Tryz.prog 49 117 q1j q1n:=⟨_,_,Tryz.func49,rfl,by kernel_rfl,by kernel_rfl,rfl⟩
theorem j5r(fd:D)(q:PT)(c:Option Nat)(o:OpV)(hq:q.ok)(ho:o.ok){m:Option AObj}(hm:rowM m=true):
  MVE Tryz.prog 49 [.ptr (.x 0) 0,.d o.d] [pob fd q c] m (.tuple []) [pob fd (q.ins o) c] m:=by
 refine q2I.mv (by kernel_rfl) rfl rfl ?_; generalize hM:mob m=M; have ha:aget M 1000=m:=hM▸q0P m; have hn:=hm; unfold rowM at hn; have hMM:∀ o:AObj,Sub ((0,o)::M) ((0,o)::M):=fun o=>hM▸subM o m
 obtain⟨nm,args⟩:=o; have hvl:=q2f args; simp(maxSteps:=2000000)only[go_sem,↓reduceIte,q1j,q1n,I,OpV.d]; refine⟨fun h1=>?_,fun h1=>?_⟩
 ·have e:q.ins ⟨nm,args⟩=(q.nu args 2).mv ((q33 args 2).getD 0 0) ((q33 args 2).getD 1 0):=by simp only[PT.ins]; rw[if_pos h1]
  rw[e]; refine q0c.poM rfl (q7o fd q c ⟨nm,args⟩ 2 ho.n (by decide) hm) (q0e _ _ _) (q0e _ _ _) hm hM rfl rfl rfl ⟨⟨rfl,rfl⟩,rfl⟩ ?_; rw[PT.nu]; obtain⟨a,b,hab⟩:=len2 (q63 args 2); simp only[hab]; generalize q.er (kErr (q8R args 2))=q1; simp(maxSteps:=2000000)only[go_sem,↓reduceIte,nmD,List.getD_cons_zero,List.getD_cons_succ]; refine q0c.poM rfl (j3i fd q1 c a b hm) (q0e _ _ _) (q0e _ _ _) hm hM rfl rfl rfl ⟨⟨rfl,rfl⟩,rfl⟩ ?_; simp(maxSteps:=2000000)only[go_sem,↓reduceIte,ha,hn]
 refine⟨fun h2=>?_,fun h2=>?_⟩
 ·have e:q.ins ⟨nm,args⟩=((q.nu args 2).ld (ng ((q33 args 2).getD 1 0))).mv ((q33 args 2).getD 0 0) ((q33 args 2).getD 1 0):=by simp only[PT.ins]; rw[if_neg h1,if_pos h2]
  rw[e]; refine q0c.poM rfl (q7o fd q c ⟨nm,args⟩ 2 ho.n (by decide) hm) (q0e _ _ _) (q0e _ _ _) hm hM rfl rfl rfl ⟨⟨rfl,rfl⟩,rfl⟩ ?_; rw[PT.nu]; obtain⟨a,b,hab⟩:=len2 (q63 args 2); simp only[hab]; generalize q.er (kErr (q8R args 2))=q1; simp only[List.getD_cons_zero,List.getD_cons_succ]; generalize hE:pob fd ((q1.ld (ng b)).mv a b) c=oE; simp(maxSteps:=2000000)only[go_sem,↓reduceIte,nmD,pob,I]; refine q0c.poM rfl (j3i fd (q1.ld (ng b)) c a b hm) (q0e _ _ _) (q0e _ _ _) hm hM rfl rfl rfl ⟨⟨rfl,rfl⟩,rfl⟩ ?_
  simp(maxSteps:=2000000)only[go_sem,↓reduceIte,ha,hn]; exact congrArg (fun x=>[x]) hE
 refine⟨fun h3=>?_,fun h3=>?_⟩
 ·have e:q.ins ⟨nm,args⟩={ q.nu args 6 with tm:=m6L (q33 args 6),lm:=m6L (q33 args 6) }:=by simp only[PT.ins]; rw[if_neg h1,if_neg h2,if_pos h3]
  rw[e]; refine q0c.poM rfl (q7o fd q c ⟨nm,args⟩ 6 ho.n (by decide) hm) (q0e _ _ _) (q0e _ _ _) hm hM rfl rfl rfl ⟨⟨rfl,rfl⟩,rfl⟩ ?_; rw[PT.nu]; obtain⟨a1,a2,a3,a4,a5,a6,hab⟩:=len6 (q63 args 6); simp only[hab]; generalize q.er (kErr (q8R args 6))=q1; simp(maxSteps:=2000000)only[go_sem,↓reduceIte,nmD]; refine q0g.of (j1f a1 a2 a3 a4 a5 a6) ?_; simp(maxSteps:=2000000)only[go_sem,↓reduceIte,pob,m6D,mat,I,m6L,List.getD_cons_zero,List.getD_cons_succ,ha,hn]
 refine⟨fun h4=>?_,fun h4=>?_⟩
 ·have e:q.ins ⟨nm,args⟩=(q.nu args 0).mv 0 (ng (q.nu args 0).s.lead):=by simp only[PT.ins]; rw[if_neg h1,if_neg h2,if_neg h3,if_pos h4]
  rw[e]; refine q0c.poM rfl (q7o fd q c ⟨nm,args⟩ 0 ho.n (by decide) hm) (q0e _ _ _) (q0e _ _ _) hm hM rfl rfl rfl ⟨⟨rfl,rfl⟩,rfl⟩ ?_; rw[PT.nu]; generalize q.er (kErr (q8R args 0))=q1; generalize hE:pob fd (q1.mv 0 (ng q1.s.lead)) c=oE; simp(maxSteps:=2000000)only[go_sem,↓reduceIte,nmD,pob,I]; refine q0c.poM rfl (j3i fd q1 c 0 (ng q1.s.lead) hm) (q0e _ _ _) (q0e _ _ _) hm hM rfl rfl rfl ⟨⟨rfl,rfl⟩,rfl⟩ ?_; simp(maxSteps:=2000000)only[go_sem,↓reduceIte,ha,hn]; exact congrArg (fun x=>[x]) hE
 refine⟨fun h5=>?_,fun h5=>?_⟩
 ·have e:q.ins ⟨nm,args⟩=q.st args:=by simp only[PT.ins]; rw[if_neg h1,if_neg h2,if_neg h3,if_neg h4,if_pos h5]
  rw[e]; refine q0c.poM rfl (pstr fd q c ⟨nm,args⟩ ho.n hm) (q0e _ _ _) (q0e _ _ _) hm hM rfl rfl rfl ⟨⟨rfl,rfl⟩,rfl⟩ ?_; rw[PT.st]; have hs:=j1M ho; have hq1:=q6Q hq (kErr (strM args)); generalize q.er (kErr (strM args))=q1 at *; generalize(strM args).getD []=s1 at *; simp(maxSteps:=2000000)only[go_sem,↓reduceIte]; refine q0c.poM rfl (j5v fd q1 c s1 hq1 hs hm) (q0e _ _ _) (q0e _ _ _) hm hM rfl rfl rfl ⟨⟨rfl,rfl⟩,rfl⟩ ?_; simp(maxSteps:=2000000)only[go_sem,↓reduceIte,ha,hn]
 refine⟨fun h6=>?_,fun h6=>?_⟩
 ·have e:q.ins ⟨nm,args⟩=(q.mv 0 (ng q.s.lead)).st args:=by simp only[PT.ins]; rw[if_neg h1,if_neg h2,if_neg h3,if_neg h4,if_neg h5,if_pos h6]
  rw[e]; generalize hE:pob fd ((q.mv 0 (ng q.s.lead)).st args) c=oE; simp(maxSteps:=2000000)only[go_sem,↓reduceIte,pob,I]; refine q0c.poM rfl (j3i fd q c 0 (ng q.s.lead) hm) (q0e _ _ _) (q0e _ _ _) hm hM rfl rfl rfl ⟨⟨rfl,rfl⟩,rfl⟩ ?_; have hq0:=z8y hq 0 (ng q.s.lead); generalize q.mv 0 (ng q.s.lead)=q0 at *; simp(maxSteps:=2000000)only[go_sem,↓reduceIte]; refine q0c.poM rfl (pstr fd q0 c ⟨nm,args⟩ ho.n hm) (q0e _ _ _) (q0e _ _ _) hm hM rfl rfl rfl ⟨⟨rfl,rfl⟩,rfl⟩ ?_; rw[PT.st]at hE; have hs:=j1M ho; have hq1:=q6Q hq0 (kErr (strM args))
  generalize q0.er (kErr (strM args))=q1 at *; generalize(strM args).getD []=s1 at *; simp(maxSteps:=2000000)only[go_sem,↓reduceIte]; refine q0c.poM rfl (j5v fd q1 c s1 hq1 hs hm) (q0e _ _ _) (q0e _ _ _) hm hM rfl rfl rfl ⟨⟨rfl,rfl⟩,rfl⟩ ?_; simp(maxSteps:=2000000)only[go_sem,↓reduceIte,ha,hn]; exact congrArg (fun x=>[x]) hE
 refine⟨fun h7=>?_,fun h7=>?_⟩
 ·have e:q.ins ⟨nm,args⟩=q.tj args:=by simp only[PT.ins]; rw[if_neg h1,if_neg h2,if_neg h3,if_neg h4,if_neg h5,if_neg h6,if_pos h7]
  rw[e]; simp(maxSteps:=2000000)(disch:=omega)only[go_sem,↓reduceIte,hvl]; refine⟨fun h8=>?_,fun h8=>?_⟩
  ·obtain⟨v,rfl⟩:∃ v,args=[v]:=by
    match args,h8 with
    |[v],_=>exact⟨v,rfl⟩
    |[],h8=>simp at h8
    |_::_::_,h8=>simp at h8; omega
   have hg:getI (q0K [v]) 0=some v.d:=rfl; simp(maxSteps:=2000000)(disch:=omega)only[go_sem,↓reduceIte,hg,Val.d_eq]; refine⟨fun h9=>?_,fun h9=>?_⟩
   ·have e2:q.tj [v]=q.er 8:=if_neg h9; rw[e2]; refine q0c.poM rfl (q54 fd q c 8 hm) (q0e _ _ _) (q0e _ _ _) hm hM rfl rfl rfl ⟨⟨rfl,rfl⟩,rfl⟩ ?_; simp(maxSteps:=2000000)only[go_sem,↓reduceIte,ha,hn]
   ·have e2:q.tj [v]=q.lst v.l:=if_pos h9; rw[e2]; have hv:=ho.s v (by simp); refine q0c.poM rfl (j7q fd q c v.l hq hv.2.2.1 hv.2.2.2 hm) (q0e _ _ _) (q0e _ _ _) hm hM rfl rfl rfl ⟨⟨rfl,rfl⟩,rfl⟩ ?_; simp(maxSteps:=2000000)only[go_sem,↓reduceIte,ha,hn]
  ·have e2:q.tj args=q.er 8:=by
    match args,h8 with
    |[v],h8=>simp at h8
    |[],_=>rfl
    |_::_::_,_=>rfl
   rw[e2]; refine q0c.poM rfl (q54 fd q c 8 hm) (q0e _ _ _) (q0e _ _ _) hm hM rfl rfl rfl ⟨⟨rfl,rfl⟩,rfl⟩ ?_; simp(maxSteps:=2000000)only[go_sem,↓reduceIte,ha,hn]
 ·have e:q.ins ⟨nm,args⟩=q:=by simp only[PT.ins]; rw[if_neg h1,if_neg h2,if_neg h3,if_neg h4,if_neg h5,if_neg h6,if_neg h7]
  rw[e]; simp(maxSteps:=2000000)only[go_sem,↓reduceIte,ha,hn]
end Go.Av.Tryz
