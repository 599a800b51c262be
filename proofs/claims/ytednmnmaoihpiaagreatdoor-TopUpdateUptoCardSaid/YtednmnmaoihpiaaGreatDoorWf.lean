import Derived.Test.YtednmnmaoihpiaaGreatDoorWe
import Derived.Test.YtednmnmaoihpiaaGreatDoorAvJ
import Derived.Test.YtednmnmaoihpiaaGreatDoorWc
import Derived.Test.YtednmnmaoihpiaaGreatDoorAvG
set_option linter.unusedSimpArgs false
set_option maxRecDepth 100000
set_option maxHeartbeats 16000000
namespace Go.Av.Tryz
open Go.Proofs
theorem At.uniq{s t:List UInt8}{k m:Nat}(h:At s k t)(g:At s m t):k=m:=by
 have:=h.len;have:=g.len;omega
def tlC:Option Val→List AV
 |none=>[.d (.int .i64 0),.d (.int .i64 0),.d (.str []),.ns,.ns]
 |some v=>[.d (.int .i64 v.kind),.d (.int .i64 v.n),.d (.str v.s),.d (.list (q0u v.l)),.d (.list (q0k v.f))]
theorem j4E(t:Option Val):∃x1 x2 x3 y1 y2,tlC t=[.d x1,.d x2,.d x3,y1,y2]∧((y1=.ns∧y2=.ns)∨∃l1 l2,y1=.d (.list l1)∧y2=.d (.list l2)):=by
 cases t with
 |none=>exact⟨_,_,_,_,_,rfl,.inl ⟨rfl,rfl⟩⟩
 |some v=>exact⟨_,_,_,_,_,rfl,.inr ⟨_,_,rfl,rfl⟩⟩
def filC(s:List UInt8)(r:Ref)(t:Option Val):List AV:=.d (.str s)::.mp r::tlC t
def entN(ps:List (Nat×Nat))(l:List Nat):List (Nat×Nat):=l.map fun n=>(n,(lkN ps n).getD 0)
theorem z0M(ps:List (Nat×Nat))(l:List Nat):(entN ps l).map Prod.fst=l:=by
 rw[entN,List.map_map];exact(Zct fun _ _=>rfl).trans (List.map_id l)
theorem z4i{n:Nat}:∀{ps:List (Nat×Nat)},n∉ps.map Prod.fst→lkN ps n=none
 |[],_=>rfl
 |p::r,h=>by
  rw[Zbf,Zar,not_or]at h;rw[lkN,if_neg h.1,z4i h.2]
theorem z7h{n:Nat}:∀{a b:List (Nat×Nat)},n∉a.map Prod.fst→lkN (a++b) n=lkN b n
 |[],b,_=>rfl
 |p::r,b,h=>by
  rw[Zbf,Zar,not_or]at h;rw[Zba,lkN,if_neg h.1,z7h h.2]
theorem z0R{n w:Nat}:∀{a b:List (Nat×Nat)},lkN a n=some w→lkN (a++b) n=some w
 |[],b,h=>by cases h
 |p::r,b,h=>by
  rw[Zba,lkN];rw[lkN]at h
  by_cases e:n=p.1
  ·rw[if_pos e]at h ⊢;exact h
  ·rw[if_neg e]at h ⊢;exact z0R h
theorem j1L{n:Nat}{q:List (Nat×Nat)}(h:lkN q n=none):n∉q.map Prod.fst:=fun hm=>by
 obtain⟨v,hv⟩:=q59 hm;rw[hv]at h;cases h
def newN(q:List (Nat×Nat))(l:List Nat):List Nat:=l.filter fun n=>(lkN q n).isNone
def mrgN(q ps:List (Nat×Nat))(l:List Nat):List (Nat×Nat):=q++entN ps (newN q l)
theorem z8y(ps:List (Nat×Nat))(l:List Nat):mrgN [] ps l=entN ps l:=by
 have:newN [] l=l:=List.filter_eq_self.2 fun _ _=>rfl
 rw[mrgN,this,Zav]
theorem j43(q ps:List (Nat×Nat)):mrgN q ps []=q:=by simp[mrgN,newN,entN]
theorem j1Q{q ps:List (Nat×Nat)}{l:List Nat}{n:Nat}(h:lkN q n=none)(hn:n∉l):lkN (mrgN q ps l) n=none:=by
 refine z4i ?_;rw[mrgN,List.map_append,z0M,Zau];rintro(h1|h1)
 ·exact j1L h h1
 ·exact hn (Zcg.1 h1).1
theorem j1P{q ps:List (Nat×Nat)}{a b:List Nat}(h:∀n∈b,n∉a):mrgN (mrgN q ps a) ps b=mrgN q ps (a++b):=by
 have e:newN (mrgN q ps a) b=newN q b:=List.filter_congr fun n hn=>by
  cases hk:lkN q n with
  |none=>rw[j1Q hk (h n hn)]
  |some w=>rw[mrgN,z0R hk]
 rw[mrgN,e,mrgN,mrgN,newN,newN,newN,List.filter_append,entN,entN,entN,List.map_append,List.append_assoc]
theorem z6I:bl [10]:=fun x hx=>by rw[Zbe.1 hx];exact⟨by decide,by decide⟩
theorem j6x:bl [32,10]:=fun x hx=>by
 rcases Zar.1 hx with rfl|hx
 ·exact⟨by decide,by decide⟩
 ·exact z6I x hx
def q3y:q0l:=
 .seq (.reg [Qx 4 (Ki 0),Qx 5 (.k (.d .nil))]) (.seq (.reg [Qc 17 0,Q 18 (.nck (.t 17)),Q 19 (.fa 0 (.t 18)),Q 20 (.ld false 1 (.t 19)),Qc 21 1,⟨some 22,.call 34 [.t 20,.t 
 21],none⟩,Qc 16 22,Q 23 (.ext 0 (.t 16)),Q 24 (.ext 1 (.t 16)),Q 25 (.ext 2 (.t 16)),Qa 6 23,Qa 1 24,Qa 7 25]) (.seq (.seq (.reg [Qc 26 7,Q 27 (.eqN 0 true (.t 26))]) 
 (.cond (.t 27) (.seq (.reg [Qc 28 7,Qx 4 (Ki 0),Qa 5 28]) .ret) .skip)) (.seq (.dreg [Qc 30 0,Q 31 (.nck (.t 30)),Q 32 (.fa 0 (.t 31)),Q 33 (.ld false 1 (.t 32)),Qc 34 0,Q 
 35 (.nck (.t 34)),Q 36 (.fa 0 (.t 35)),Q 37 (.ld false 1 (.t 36)),Qc 38 1,⟨some 39,.call 25 [.t 37,.t 38],none⟩,⟨some 40,.call 34 [.t 33,.t 39],none⟩,Qc 29 40,Q 41 
 (.ext 0 (.t 29)),Q 42 (.ext 1 (.t 29)),Q 43 (.ext 2 (.t 29)),Qc 8 41,Qc 1 42,Qc 7 43]) (.seq (.seq (.reg [Qc 44 7,Q 45 (.eqN 0 true (.t 44))]) (.cond (.t 45) (.seq (.reg 
 [Qc 46 7,Qx 4 (Ki 0),Qa 5 46]) .ret) .skip)) (.seq (.seq (.reg [Qc 47 8,Q 48 (.cp (Ki 0))]) (.block 0 (.loop (.seq (.reg [Q 49 (.bin .lss (.t 48) (.t 47))]) (.seq (.cond (.t 
 49) .skip (.exit 0)) (.seq (.block 1 (.seq (.reg [Qc 50 48,Qa 9 50]) (.seq (.reg [Qc 52 0,Q 53 (.nck (.t 52)),Q 54 (.fa 0 (.t 53)),Q 55 (.ld false 1 (.t 54)),Qc 56 1,⟨some 
 57,.call 58 [.t 55,.t 56],none⟩,Qc 51 57,Q 58 (.ext 0 (.t 51)),Q 59 (.ext 1 (.t 51)),Q 60 (.ext 2 (.t 51)),Q 61 (.ext 3 (.t 51)),Qa 10 58,Qa 11 59,Qa 12 60,Qa 13 61]) 
 (.seq (.seq (.reg [Qc 62 13,Q 63 (.eqN 0 true (.t 62))]) (.cond (.t 63) (.seq (.reg [Qc 64 13,Qx 4 (Ki 0),Qa 5 64]) .ret) .skip)) (.seq (.reg [Qc 65 12,Qa 1 65]) (.seq (.reg 
 [Qc 67 0,Q 68 (.nck (.t 67)),Q 69 (.fa 1 (.t 68)),Q 70 (.ld false 1 (.t 69)),Qc 71 6,Qc 72 9,Q 73 (.bin .add (.t 71) (.t 72)),⟨some 74,.prim (.lookup 54 true) [.t 70,.t 
 73] [],none⟩,Qc 66 74,Q 75 (.ext 0 (.t 66)),Q 76 (.ext 1 (.t 66)),Qa 14 75,Qa 15 76]) (.seq (.reg [Qc 77 15,Q 78 (.not (.t 77)),Qc 79 78,Qd 80 6 79 true,Qd 81 9 79 
 true,Qg 82 (.bin .add (.t 80) (.t 81)) 79 true,Qg 83 (.bin .geq (.t 82) (Ki 1)) 79 true,Q 84 (.pick (.t 79) (.t 83) KF),Qc 85 84,Qd 86 6 85 true,Qd 87 9 85 true,Qg 88 
 (.bin .add (.t 86) (.t 87)) 85 true,Qg 89 (.bin .leq (.t 88) (Ki 60)) 85 true,Q 90 (.pick (.t 85) (.t 89) KF)]) (.cond (.t 90) (.seq (.reg [Qc 91 0,Q 92 (.nck (.t 91)),Q 93 
 (.fa 1 (.t 92)),Q 94 (.ld false 1 (.t 93)),Qc 95 6,Qc 96 9,Q 97 (.bin .add (.t 95) (.t 96)),Qc 98 10,⟨none,.prim (.mapUpd 54) [.t 94,.t 97,.t 98] [],none⟩]) (.seq (.reg 
 [Qc 99 11,Q 100 (.not (.t 99))]) (.cond (.t 100) (.reg [Qc 101 0,Q 102 (.nck (.t 101)),Q 103 (.fa 1 (.t 102)),Q 104 (.ld false 1 (.t 103)),Qc 105 6,Qc 106 9,Q 107 (.bin 
 .add (.t 105) (.t 106)),⟨none,.prim (.mapUpd 54) [.t 104,.t 107,.k (.d (.int .i64 (-1)))] [],none⟩]) .skip))) .skip)))))))) (.reg [Q 108 (.bin .add (.t 48) (Ki 1)),Qc 48 
 108]))))))) (.seq (.reg [Qc 109 0,Q 110 (.nck (.t 109)),Q 111 (.fa 0 (.t 110)),Q 112 (.ld false 1 (.t 111)),Qc 113 1,⟨some 114,.call 25 [.t 112,.t 113],none⟩,Qa 4 114, 
 Qx 5 (.k (.d .nil))]) .ret))))))
def q3F:List LRes:=[.tmp 4,.tmp 5]
theorem q5u:q0E Tryz.prog 36 115 q3y q3F:=⟨_,_,Tryz.func36,rfl,by kernel_rfl,by kernel_rfl,rfl⟩
theorem z6h{s:List UInt8}{k k' x:Nat}{ps q:List (Nat×Nat)}{lst:List Nat}{a:UInt8}{r:List UInt8}(t:Option Val)
  (h:At s k (Lib.decDigits x++([32]++(Lib.decDigits lst.length++([10]++(lst.flatMap (entT ps)++a::r)))))) (h':At s k' (a::r)) (ha:nb a) (hs:s.length≤60000)
  (hx:∀(i n:Nat),lst[i]?=some n→n=x+i∧1≤n∧n≤60∧∃v,lkN ps n=some v∧v<10000000000) (hx60:x≤60) (hl60:lst.length≤60):
  q1c Tryz.prog 36 [.ptr (.x 0) 0,.d (.int .i64 k)] [.cells (filC s (.x 1) t),.mobj (ksN q) (vsN q)] (.tuple [.d (.int .i64 k'),.d .nil]) [.cells (filC s (.x 1) t),.mobj (ksN (mrgN q ps lst)) (vsN (mrgN q ps lst))]:=by
 have d1:=q4M h (q4j x) (q6o x) (q2A (by omega)).2 (.inl (by decide)) (by omega);have h2:=h.more;obtain⟨c2,r2,hc2⟩:∃c r,Lib.decDigits lst.length=c::r:=by
  cases e:Lib.decDigits lst.length with
  |nil=>exact absurd e (q6o _)
  |cons c r=>exact⟨c,r,rfl⟩
 have sk2:=At.q1f (b:=[32]) (c:=c2) (r:=r2++([10]++(lst.flatMap (entT ps)++a::r))) (by rw[hc2]at h2;exact h2) (fun y hy=>by rw[Zbe.1 hy];exact⟨by decide,by decide⟩) (z5f (q4j _ c2 (by rw[hc2];simp))) (by omega);have h3:=h2.more;have d2:=q4M h3 (q4j _) (q6o _) (q2A (by omega)).2 (.inl (by decide)) (by omega);have h4:=h3.more;rw[q8O]at d1 d2;have hk4:=h4.le;generalize hK:k+(Lib.decDigits x).length+[(32:UInt8)].length+(Lib.decDigits lst.length).length=K at d2 h4 hk4
 refine q5u.q0G (by kernel_rfl) rfl ?_;generalize hT:tlC t=T;simp only[go_sem,↓reduceIte,q3y,q3F,filC,hT];refine q0j.of d1 ?_;simp only[go_sem,↓reduceIte];refine q1I.of sk2 ?_;simp only[go_sem,↓reduceIte];refine q1I.of d2 ?_;simp only[go_sem,↓reduceIte]
 refine q0n (fun y:Nat×Nat×List UInt8=>⟨[(0,.ptr (.x 0) 0),(1,.d (.int .i64 y.2.1)),(6,.d (.int .i64 x)),(47,.d (.int .i64 lst.length)),(48,.d (.int .i64 y.1))],[],[(0,.cells (.d (.str s)::.mp (.x 1)::T)),(1,.mobj (ksN (mrgN q ps (lst.take y.1))) (vsN (mrgN q ps (lst.take y.1))))]⟩)
  (fun y=>y.1≤lst.length∧bl y.2.2∧At s y.2.1 (y.2.2++((lst.drop y.1).flatMap (entT ps)++a::r))) (fun y=>lst.length-y.1) (0,K,[10]) ?_ ⟨Zbb _,z6I,h4⟩ ?_
 ·refine Weak.mk ?_ ?_ ?_<;>simp only[go_sem,↓reduceIte,Sub,Zab,Zac,j43,Zcf]
 ·rintro⟨i,m,b⟩ ⟨g1,g2,g3⟩;simp only at g1 g2 g3;have hm:=g3.le;simp only[go_sem,↓reduceIte];refine⟨fun v1=>?_,fun v1=>?_⟩
  ·obtain⟨n,hn⟩:=get_some (l:=lst) (i:=i) (by omega);obtain⟨n1,n2,n3,v,hv,hv2⟩:=hx i n hn;have htk:lst.take (i+1)=lst.take i++[n]:=by rw[Zcd,hn];rfl
   rw[q30 hn,Zbz,entT,hv,Zbp,List.append_assoc]at g3;have hl:=j0b g3 g2 (j4A v) (fun e=>by have:=q7o hv2;rw[e]at this;cases this) (by rw[q7o hv2];omega) (by omega);rw[j4B,q7o hv2]at hl;have g5:=g3.more;rw[linT]at g5;have g6:At s (m+b.length+10+8) ([32,10]++((lst.drop (i+1)).flatMap (entT ps)++a::r)):=by
    have g7:At s (m+b.length) ((tenT v++[32,48,48,48,48,48,32,110])++([32,10]++((lst.drop (i+1)).flatMap (entT ps)++a::r))):=by simpa using g5
    have:=g7.more;rw[Zad,q7o hv2]at this;exact this
   have hnt:n∉lst.take i:=fun h=>by
    obtain⟨j,hj⟩:=Zbm.1 h;have hjl:=(Zaa.1 hj).1;rw[Zaq]at hjl;rw[List.getElem?_take_of_lt (by omega)]at hj;have:=(hx j n hj).1;omega
   have hlk:=z1S n (mrgN q ps (lst.take i));refine q0j.of hl ?_;have e1:IntKind.i64.wrap ((x:Int)+(i:Int))=(n:Int):=by rw[IntWalk.i64_in]<;>omega
   simp only[go_sem,↓reduceIte,e1];refine q0b.j1N (ks:=ksN (mrgN q ps (lst.take i))) (vs:=vsN (mrgN q ps (lst.take i))) (key:=.int .i64 n) (zero:=.int .i64 0) (s:=.x 1) rfl rfl rfl z1R z9D rfl (q7f _) (by kernel_rfl) ?_;cases hk:lkN q n with
   |none=>
    rw[j1Q hk hnt,Option.map_none]at hlk;have hen:mrgN q ps (lst.take (i+1))=mrgN q ps (lst.take i)++[(n,v)]:=by
     rw[htk,mrgN,mrgN,newN,newN,List.filter_append,entN,entN,List.map_append];simp[hk,hv]
    have z1:(1≤(n:Int))=True:=eq_true (by omega);have z2:((n:Int)≤60)=True:=eq_true (by omega);simp only[go_sem,↓reduceIte,hlk,e1,z1,z2,Option.isSome_none];refine q0b.j42 (ks:=ksN (mrgN q ps (lst.take i))) (vs:=vsN (mrgN q ps (lst.take i))) (key:=.int .i64 n) (v:=.int .i64 v) (s:=.x 1) rfl rfl rfl rfl z1R z9D rfl (q7f _) hlk ?_;have ke:ksN (mrgN q ps (lst.take i))++[.int .i64 (n:Int)]=ksN (mrgN q ps (lst.take (i+1))):=by rw[hen];simp[ksN]
    have ve:vsN (mrgN q ps (lst.take i))++[.int .i64 (v:Int)]=vsN (mrgN q ps (lst.take (i+1))):=by rw[hen];simp[vsN]
    rw[ke,ve];simp(disch:=omega)only[go_sem,↓reduceIte];refine⟨(i+1,m+b.length+10+8,[32,10]),?_,⟨by simp only;omega,j6x,g6⟩,by simp only;omega⟩;refine Weak.mk ?_ ?_ ?_<;>simp only[go_sem,↓reduceIte,Sub,Zab,Zac]
   |some w=>
    have hen:mrgN q ps (lst.take (i+1))=mrgN q ps (lst.take i):=by
     rw[htk,mrgN,mrgN,newN,newN,List.filter_append];simp[hk]
    rw[mrgN,z0R hk,←mrgN,Zat]at hlk;simp(disch:=omega)only[go_sem,↓reduceIte,hlk,Option.isSome_some];refine⟨(i+1,m+b.length+10+8,[32,10]),?_,⟨by simp only;omega,j6x,g6⟩,by simp only;omega⟩;refine Weak.mk ?_ ?_ ?_<;>simp only[go_sem,↓reduceIte,Sub,Zab,Zac,hen]
  ·have e:i=lst.length:=by omega
   subst e;rw[Zao (Zai _),List.flatMap_nil,Zav]at g3;have sk:=g3.q1f g2 ha (by omega);have hk':m+b.length=k':=(g3.more).uniq h';rw[hk']at sk;refine q0j.of sk ?_;rw[Zcq];simp only[go_sem,↓reduceIte]
theorem z8Q:∀(r:List Nat) (x i n:Nat),i≤runN x r→(x::r)[i]?=some n→n=x+i
 |[],x,0,n,_,h=>by cases h;rfl
 |[],x,i+1,n,hi,h=>by simp[runN]at hi
 |a::r,x,0,n,_,h=>by cases h;rfl
 |a::r,x,i+1,n,hi,h=>by
  rw[runN]at hi;split at hi
  ·rename_i e;have:=z8Q r a i n (by omega) (by simpa using h);omega
  ·omega
def trwT:List UInt8:=[116,114,97,105,108,101,114]
theorem z8T(f:Nat→List UInt8)(l:List Nat)(z:List UInt8):∃a r,secT f l++(trwT++z)=a::r∧nb a:=by
 cases l with
 |nil=>rw[secT];exact⟨116,_,rfl,by decide,by decide⟩
 |cons x r=>
  rw[secT];obtain⟨c,t,hc⟩:∃c t,Lib.decDigits x=c::t:=by
   cases e:Lib.decDigits x with
   |nil=>exact absurd e (q6o x)
   |cons c t=>exact⟨c,t,rfl⟩
  rw[hc];exact⟨c,_,rfl,z5f (q4j x c (by rw[hc];simp))⟩
theorem j7i:plW trwT:=fun c hc=>by revert hc;revert c;decide
theorem j4p{l:List Nat}(h:rise l){i j a b:Nat}(hij:i<j)(ha:l[i]?=some a)(hb:l[j]?=some b):a<b:=by
 obtain⟨h1,rfl⟩:=Zaa.1 ha;obtain⟨h2,rfl⟩:=Zaa.1 hb;exact List.pairwise_iff_getElem.1 h i j h1 h2 hij
def q4o:q0l:=
 .seq (.reg [⟨some 4,.allo [.int .i64 0,.int .i64 0,.str [],.list [],.list []],none⟩,Qx 5 (.k (.d .nil))]) (.seq (.seq (.reg [Qc 11 1,Qc 12 0,Q 13 (.nck (.t 12)),Q 14 (.fa 
 0 (.t 13)),Q 15 (.ld false 1 (.t 14)),Q 16 (.len true (.t 15)),Q 17 (.bin .geq (.t 11) (.t 16)),Qc 18 17,Qd 19 0 18 false,Qg 20 (.nck (.t 19)) 18 false,Qg 21 (.fa 0 (.t 
 20)) 18 false,Qg 22 (.ld false 1 (.t 21)) 18 false,Qd 23 1 18 false,⟨some 24,.call 26 [.t 22,.t 23],some (18,false)⟩,Qg 25 (.bin .neq (.t 24) (.k (.d (.str [120,114, 
 101,102])))) 18 false,Q 26 (.pick (.t 18) KT (.t 25))]) (.cond (.t 26) (.seq (.reg [Q 27 (.bld [(0,1),(1,1),(2,1),(3,1),(4,1)] [.int .i64 0,.int .i64 0,.str [], 
 .list [],.list []] [] []),Q 28 (.mkI 49 (Ki 4)),⟨none,.st 5 (.t 4) (.t 27),none⟩,Qa 5 28]) .ret) .skip)) (.seq (.reg [Qc 29 0,Q 30 (.nck (.t 29)),Q 31 (.fa 0 (.t 30)),Q 
 32 (.ld false 1 (.t 31)),Qc 33 1,Q 34 (.bin .add (.t 33) (Ki 4)),⟨some 35,.call 25 [.t 32,.t 34],none⟩,Qa 1 35]) (.seq (.block 0 (.loop (.seq (.seq (.reg [Qc 36 0,Q 37 
 (.nck (.t 36)),Q 38 (.fa 0 (.t 37)),Q 39 (.ld false 1 (.t 38)),Qc 40 1,⟨some 41,.call 26 [.t 39,.t 40],none⟩,Q 42 (.bin .neq (.t 41) (.k (.d (.str [116,114,97,105, 
 108,101,114]))))]) (.cond (.t 42) .skip (.exit 0))) (.block 1 (.seq (.reg [Qc 44 0,Qc 45 1,⟨some 46,.prim .call [.k (.fn (.func 36) [] []),.t 44,.t 45] [],none⟩,Qc 43 
 46,Q 47 (.ext 0 (.t 43)),Q 48 (.ext 1 (.t 43)),Qa 6 47,Qa 7 48]) (.seq (.seq (.reg [Qc 49 7,Q 50 (.eqN 0 true (.t 49))]) (.cond (.t 50) (.seq (.reg [Q 51 (.bld [(0,1),(1, 
 1),(2,1),(3,1),(4,1)] [.int .i64 0,.int .i64 0,.str [],.list [],.list []] [] []),Qc 52 7,⟨none,.st 5 (.t 4) (.t 51),none⟩,Qa 5 52]) .ret) .skip)) (.reg [Qc 53 6, 
 Qa 1 53]))))))) (.seq (.reg [Qc 55 0,Q 56 (.nck (.t 55)),Q 57 (.fa 0 (.t 56)),Q 58 (.ld false 1 (.t 57)),Qc 59 1,Q 60 (.bin .add (.t 59) (Ki 7)),⟨some 61,.call 27 [.t 58, 
 .t 60],none⟩,Qc 54 61,Q 62 (.ext 0 (.t 54)),Q 63 (.ext 1 (.t 54)),Q 64 (.ext 2 (.t 54)),⟨some 8,.allo [.int .i64 0,.int .i64 0,.str [],.list [],.list []],none⟩, 
 ⟨none,.st 5 (.t 8) (.t 62),none⟩,Qa 9 63,Qa 10 64]) (.seq (.seq (.reg [Qc 65 10,Q 66 (.eqN 0 false (.t 65)),Qc 67 66,Qg 68 (.fa 0 (.t 8)) 67 true,Qg 69 (.ld false 1 (.t 
 68)) 67 true,Qg 70 (.bin .neq (.t 69) (Ki 6)) 67 true,Q 71 (.pick (.t 67) (.t 70) KF)]) (.cond (.t 71) (.reg [Q 72 (.mkI 49 (Ki 8)),Qa 10 72]) .skip)) (.seq (.reg [Q 73 (.ld 
 true 5 (.t 8)),Qc 74 10,⟨none,.st 5 (.t 4) (.t 73),none⟩,Qa 5 74]) .ret))))))
def q4p:List LRes:=[.cell 4 true 5,.tmp 5]
theorem q58:q0E Tryz.prog 19 75 q4o q4p:=⟨_,_,Tryz.func19,rfl,by kernel_rfl,by kernel_rfl,rfl⟩
theorem q90{s:List UInt8}{k:Nat}{ps:List (Nat×Nat)}{K:List Nat}{v:Val}{c:UInt8}{r:List UInt8}(q:List (Nat×Nat))(t:Option Val)
  (h:At s k (xrT++(secT (entT ps) K++(trwT++([10]++(q0F v++c::r)))))) (hs:s.length≤60000)
  (hr:rise K) (hK:∀n∈K,1≤n∧n≤60∧∃w,lkN ps n=some w∧w<10000000000) (hl:K.length≤60) (hv:q2i v=0) (hk6:v.kind=6) (hp:dl (c::r)) (hq:q7x (c::r)):
  q1c Tryz.prog 19 [.ptr (.x 0) 0,.d (.int .i64 k)] [.cells (filC s (.x 1) t),.mobj (ksN q) (vsN q)] (.tuple [.d v.d,.d .nil]) [.cells (filC s (.x 1) t),.mobj (ksN (mrgN q ps K)) (vsN (mrgN q ps K))]:=by
 have hlen:=h.len;have w1:=At.q1g (w:=[120,114,101,102]) (p:=[10]++(secT (entT ps) K++(trwT++([10]++(q0F v++c::r))))) h (fun x hx=>by revert hx;revert x;decide) (show dl (10::_)from Or.inl (by decide)) (by omega);have h2:At s (k+4) ([10]++(secT (entT ps) K++(trwT++([10]++(q0F v++c::r))))):=At.more (a:=[120,114,101,102]) h;obtain⟨a0,r0,e0,n0⟩:=z8T (entT ps) K ([10]++(q0F v++c::r));have sk:=At.q1f (b:=[10]) (c:=a0) (r:=r0) (by rw[←e0];exact h2) z6I n0 (by omega);have h3:=h2.more
 simp only[List.length_singleton]at sk h3;simp only[xrT,Zad,Zaf]at hlen;rw[Zab]at sk;refine q58.q0G (by kernel_rfl) rfl ?_;obtain⟨x1,x2,x3,y1,y2,hT,hy⟩:=j4E t;have z1:((s.length:Int)≤(k:Int))=False:=eq_false (by omega);simp only[go_sem,↓reduceIte,q4o,q4p,filC,hT,z1];refine q0j.of w1 ?_;simp(disch:=omega)only[go_sem,↓reduceIte];refine q0j.of sk ?_;simp only[go_sem,↓reduceIte]
 refine q0n (fun y:Nat×Nat=>⟨[(0,.ptr (.x 0) 0),(1,.d (.int .i64 y.2)),(4,.ptr (.l 4) 0)],[(4,.cells [.d (.int .i64 0),.d (.int .i64 0),.d (.str []),.ns,.ns])],[(0,.cells (.d (.str s)::.mp (.x 1)::[.d x1,.d x2,.d x3,y1,y2])),(1,.mobj (ksN (mrgN q ps (K.take y.1))) (vsN (mrgN q ps (K.take y.1))))]⟩)
  (fun y=>y.1≤K.length∧At s y.2 (secT (entT ps) (K.drop y.1)++(trwT++([10]++(q0F v++c::r))))) (fun y=>K.length-y.1) (0,k+4+1) ?_ ⟨Zbb _,h3⟩ ?_
 ·refine Weak.mk ?_ ?_ ?_<;>simp only[go_sem,↓reduceIte,Sub,Zab,Zac,j43,Zcf]
 ·rintro⟨i,m⟩ ⟨g1,g2⟩;simp only at g1 g2;have hm:=g2.le;simp only[go_sem,↓reduceIte]
  by_cases hi:i<K.length
  ·obtain⟨x,hx⟩:=get_some (l:=K) (i:=i) hi;have hxk:=hK x (Zae hx);rw[q30 hx,secT]at g2;have w2:=At.q1g (w:=Lib.decDigits x) (p:=[32]++(Lib.decDigits (runN x (K.drop (i+1))+1)++([10]++(((x::K.drop (i+1)).take (runN x (K.drop (i+1))+1)).flatMap (entT ps)++(secT (entT ps) ((K.drop (i+1)).drop (runN x (K.drop (i+1))))++(trwT++([10]++(q0F v++c::r)))))))) (by simpa only[List.append_assoc]using g2) (j0Y (q4j x)) (show dl (32::_)from Or.inl (by decide)) (by omega)
   have z2:(Lib.decDigits x=[116,114,97,105,108,101,114])=False:=eq_false fun e=>by
    have:=q4j x 116 (by rw[e];simp);exact absurd this.2 (by decide)
   refine q0j.of w2 ?_;simp only[go_sem,↓reduceIte,z2];have hk:=z7z x (K.drop (i+1));rw[Zay]at hk;generalize hrn:runN x (K.drop (i+1))=u at *;have hlst:((x::K.drop (i+1)).take (u+1)).length=u+1:=by rw[Zaq,Zaf,Zay];omega
   have hlk:∀j n,((x::K.drop (i+1)).take (u+1))[j]?=some n→j≤u∧K[i+j]?=some n∧n=x+j:=fun j n hj=>by
    have hjl:=(Zaa.1 hj).1;rw[hlst]at hjl;rw[List.getElem?_take_of_lt (by omega)]at hj;refine⟨by omega,?_,z8Q (K.drop (i+1)) x j n (by omega) hj⟩;rw[←q30 hx,Zbv]at hj;exact hj
   have htk:K.take (i+(u+1))=K.take i++(x::K.drop (i+1)).take (u+1):=by rw[←q30 hx,List.take_add]
   obtain⟨a1,r1,e1,n1⟩:=z8T (entT ps) ((K.drop (i+1)).drop u) ([10]++(q0F v++c::r));have g3:At s m (Lib.decDigits x++([32]++(Lib.decDigits ((x::K.drop (i+1)).take (u+1)).length++([10]++(((x::K.drop (i+1)).take (u+1)).flatMap (entT ps)++a1::r1))))):=by
    rw[hlst,←e1];simpa only[List.append_assoc]using g2
   obtain⟨k',hk'⟩:∃k',At s k' (a1::r1):=⟨_,g3.more.more.more.more.more⟩;have hsec:=z6h (ps:=ps) (q:=mrgN q ps (K.take i)) t g3 hk' n1 hs (fun j n hj=>by
    obtain⟨q1,q2,q3⟩:=hlk j n hj;obtain⟨p1,p2,p3⟩:=hK n (Zae q2);exact⟨q3,p1,p2,p3⟩) hxk.2.1 (by rw[hlst];omega)
   rw[j1P (fun n hn hm=>by
    obtain⟨j,hj⟩:=Zbm.1 hn;obtain⟨_,q2,_⟩:=hlk j n hj;obtain⟨b,hb⟩:=Zbm.1 hm;have hbl:=(Zaa.1 hb).1;rw[Zaq]at hbl;rw[List.getElem?_take_of_lt (by omega)]at hb;have:=j4p hr (show b<i+j by omega) hb q2;omega),←htk]at hsec
   simp only[filC,hT]at hsec;rcases hy with⟨rfl,rfl⟩|⟨l1,l2,rfl,rfl⟩;all_goals
    refine q0b.q0G ([.x 0,.x 1]) ([]) rfl (hsec) rfl rfl (by simp only[q1b,St.obj,aget,AObj.ren,AV.ren,AV.ren1,renL,q2u,renR,renQ,Zaw,Zax,and_true,and_self,Nat.reduceEqDiff,↓reduceIte,reduceCtorEq]) rfl rfl rfl ⟨rfl,rfl⟩ ?_;simp only[go_sem,↓reduceIte];refine⟨(i+(u+1),k'),?_,⟨by simp only;omega,?_⟩,by simp only;omega⟩
    ·refine Weak.mk ?_ ?_ ?_<;>simp only[go_sem,↓reduceIte,Sub,Zab,Zac]
    ·rw[←e1,List.drop_drop,show i+1+u=i+(u+1) by omega]at hk';exact hk'
  ·have e:i=K.length:=by omega
   subst e;rw[Zao (Zai _),secT,Zav]at g2;have w2:=At.q1g (w:=trwT) (p:=[10]++(q0F v++c::r)) g2 j7i (show dl (10::_)from Or.inl (by decide)) (by omega);have g3:At s (m+7) ([10]++(q0F v++c::r)):=g2.more;have hval:=q9p s ((m+7:Nat):Int) (by omega);rw[g3.value z6I hv hp hq hs,topP,show((m+7:Nat):Int)=(m:Int)+7 by omega]at hval;rw[Val.d_eq v]at hval ⊢;refine q0j.of w2 ?_;simp(disch:=omega)only[go_sem,↓reduceIte,trwT];refine q0j.of hval ?_;rw[Zcq]
   simp only[go_sem,↓reduceIte,hk6]
def filD(s:List UInt8)(q:List (Nat×Nat))(v:Val):D:=.pto [.str s,mapN q,.int .i64 v.kind,.int .i64 v.n,.str v.s,.list (q0u v.l),.list (q0k v.f)]
def q3x:q0l:=
 .seq (.reg [⟨some 2,.nils 3 1,none⟩]) (.seq (.alt [([],⟨some 3,.nils 3 1,none⟩)] []) (.seq (.seq (.reg [Qc 6 0,Q 7 (.nck (.t 6)),Q 8 (.fa 1 (.t 7)),Q 9 (.ld false 1 (.t 
 8)),⟨some 10,.prim (.range 54) [.t 9] [],none⟩]) (.block 0 (.loop (.seq (.reg [⟨some 11,.prim (.next false 0) [.t 10] [],none⟩,Q 12 (.ext 0 (.t 11))]) (.seq (.cond (.t 12) 
 .skip (.exit 0)) (.block 1 (.seq (.reg [⟨some 13,.prim .entry [.t 10] [],none⟩,Q 14 (.ext 0 (.t 13)),Q 15 (.ext 1 (.t 13)),Qa 4 14,Qa 5 15]) (.seq (.reg [Qc 16 5,Q 17 
 (.bin .geq (.t 16) (Ki 0))]) (.cond (.t 17) (.alt [([Qc 18 3,Qc 19 4,⟨some 20,.bsl 3 1 [.t 19],none⟩],⟨some 21,.app 3 1 8 false (.t 18) (.t 20),none⟩)] [Qa 3 21]) 
 .skip))))))))) (.seq (.reg [Qc 22 3,⟨some 23,.call 21 [.t 22],none⟩]) (.seq (.alt [([],Qc 24 3)] [Qa 2 24]) .ret))))
def q3E:List LRes:=[.tmp 2]
theorem q5t:q0E Tryz.prog 9 25 q3x q3E:=⟨_,_,Tryz.func9,rfl,by kernel_rfl,by kernel_rfl,rfl⟩
theorem z0u(s:List UInt8)(q:List (Nat×Nat))(v:Val)(hn:(q.map Prod.fst).Nodup)(hl:q.length≤1000):
  q0y Tryz.prog 9 [filD s q v] (fun r=>r=.one (.list (nsD (srtN (q.map Prod.fst))))):=by
 refine q5t.call rfl ?_;simp only[go_sem,↓reduceIte,q3x,q3E,filD];refine q14.nils ?_;simp only[go_sem,↓reduceIte,mapN];refine q0b.rangeMap rfl z1R ?_;rw[j20];simp only[go_sem,↓reduceIte];refine q0n (fun y:List Nat×Nat×List (Nat×Nat)×List (D×D)=>⟨[(3,rwS 21 y.1 y.2.1),(10,.ptr (.l 10) 0)],(10,.miter (prN y.2.2.1) y.2.2.2)::rwL 21 y.1 y.2.1,[]⟩)
  (fun y=>(y.1++y.2.2.1.map Prod.fst).Perm (q.map Prod.fst)∧(y.1=[]∨y.1.length≤y.2.1∧y.2.1≤maxLen)) (fun y=>y.2.2.1.length) ([],0,q,[]) ?_ ⟨List.Perm.refl _,.inl rfl⟩ ?_
 ·refine Weak.mk ?_ ?_ ?_<;>simp only[go_sem,↓reduceIte,Sub,Zab,Zac,rwS,rwL,mapN]
 ·rintro⟨V,c,lp,cur⟩ ⟨hP,hc⟩;simp only at hP hc;have hVl:V.length≤1000:=by have:=hP.length_eq;simp at this;omega
  simp only[go_sem,↓reduceIte];refine q0b.j1W rfl rfl (fun h0=>?_) (fun i k w hik=>?_)
  ·have hlp:lp=[]:=by cases lp with|nil=>rfl|cons a r=>cases h0
   subst hlp;rw[Zce,Zco]at hP;have hsrt:=j2F hP hn;cases hO:V with
   |nil=>
    have hs:rwS 21 ([]:List Nat) c=.ns:=rfl;have hb:rwL 21 ([]:List Nat) c=[]:=rfl;have hq:srtN (q.map Prod.fst)=[]:=by rw[←hsrt,hO];exact Zbi (by rw[q1R];rfl)
    rw[hq];simp(disch:=omega)only[go_sem,↓reduceIte,hs,hb];refine q0j.z9i (q40.mc0 q9n rfl rfl rfl ?_);simp only[go_sem,↓reduceIte];refine q14.step rfl (fun _ _ _ h=>by cases h) rfl ?_;simp only[go_sem,↓reduceIte,nsD,Zce]
   |cons x r=>
    rw[←hO];have hs:rwS 21 V c=.rs (.l 21) V.length c:=by rw[hO];rfl
    have hb:rwL 21 V c=[(21,.cells (rowN V c))]:=by rw[hO];rfl
    have hc':=hc.resolve_left (by rw[hO];simp);simp(disch:=omega)only[go_sem,↓reduceIte,hs,hb];refine q0j.z9i (q40.mc1r (.l 21) (z6o V c (by omega) hc'.1) rfl rfl rfl ⟨q9b _ _,q9b _ _⟩ rfl ?_);rw[hsrt];have hkl:(srtN (q.map Prod.fst)).length=V.length:=by rw[←hsrt,q1R]
    generalize srtN (q.map Prod.fst)=K at *;rw[←hkl]at hc' hVl ⊢;clear hs hb hO hP hsrt hkl;simp only[go_sem,↓reduceIte];refine q14.ghost (q14.step rfl (fun _ _ _ h=>by cases h) rfl ?_);refine⟨⟨[(24,.d (.list (nsD K)))],[],[]⟩,Gh.trans (Gh.frzL (a:=21) (sz:=1) (fs:=nsD K) (c:=c) ?_ (fun y hy=>by rw[j10 K y hy];rfl) (by rw[z1X];omega)) (Gh.wk ⟨fun t x hx=>?_,fun r ob h=>by cases r<;>cases h⟩),?_⟩
    ·rw[j2n (j10 K),←j5R];rfl
    ·simp only[aget]at hx;split at hx
     ·rename_i e;subst e;cases hx;rw[St.j7o (x:=.rs (.l 21) K.length c) rfl];simp[AV.frzL,z1X]
     ·cases hx
    ·simp only[go_sem,↓reduceIte]
  ·obtain⟨p,hpi,rfl,rfl⟩:=j2c hik;rw[z11];have hle:=(Zaa.1 hpi).1;have hP':((V++[p.1])++(lp.eraseIdx i).map Prod.fst).Perm (q.map Prod.fst):=by
    refine List.Perm.trans ?_ hP;rw[List.append_assoc,z1m];exact(q9O (l:=lp.map Prod.fst) (by rw[Zam,hpi];rfl)).append_left V
   simp only[go_sem,↓reduceIte];refine q0b.z77 rfl rfl ?_;have z0:(0≤(p.2:Int))=True:=eq_true (by omega);cases hO:V with
   |nil=>
    have hs:rwS 21 ([]:List Nat) c=.ns:=rfl;have hb:rwL 21 ([]:List Nat) c=[]:=rfl;rw[hO]at hP';simp(disch:=omega)only[go_sem,↓reduceIte,hs,hb,z0];refine q14.app1 (r:=21) (c:=0) (cs:=nsA []) z3X (.inl ⟨rfl,rfl⟩) (Src1.own rfl) (z8B [] 21) (z8l _ _) (by simp[nsA,maxLen]) (fun c' h1 h2=>?_);rw[q9c];simp(disch:=omega)only[go_sem,↓reduceIte];refine⟨([]++[p.1],c',lp.eraseIdx i,[(.int .i64 (p.1:Int),.int .i64 (p.2:Int))]),?_,⟨hP',.inr ⟨h1,h2⟩⟩,by simp only[Zcy];split<;>omega⟩
    refine Weak.mk ?_ ?_ ?_<;>simp only[go_sem,↓reduceIte,Sub,Zab,Zac,rwS,rwL,nsA,Zce]
   |cons x r=>
    have hs:rwS 21 (x::r) c=.rs (.l 21) (r.length+1) c:=rfl;have hb:rwL 21 (x::r) c=[(21,.cells (rowN (x::r) c))]:=rfl;rw[hO]at hP' hc hVl;have hc':=hc.resolve_left (by simp);simp(disch:=omega)only[go_sem,↓reduceIte,hs,hb,z0];simp only[Zaf]at hVl hc';refine q14.app1 (r:=21) (c:=c) (cs:=nsA (x::r)) z3X (.inr ⟨by rw[q24];rfl,rfl,by rw[q24];exact hc'.1,hc'.2⟩) (Src1.own rfl) (z8B _ 21) (z8l _ _) (by rw[q24];simp only[maxLen,Zaf];omega) (fun c' h1 h2=>?_);rw[q9c]
    rw[q24]at h1 ⊢;simp(disch:=omega)only[go_sem,↓reduceIte];refine⟨((x::r)++[p.1],c',lp.eraseIdx i,[(.int .i64 (p.1:Int),.int .i64 (p.2:Int))]),?_,⟨hP',.inr ⟨by simpa using h1,h2⟩⟩,by simp only[Zcy];split<;>omega⟩;refine Weak.mk ?_ ?_ ?_<;>simp only[go_sem,↓reduceIte,Sub,Zab,Zac,rwS,rwL,Zad]
def q4A:q0l:=
 .seq (.reg [Qx 2 (Ki 0),Qx 3 (.k (.d .nil))]) (.seq (.reg [Qc 7 0,Q 8 (.nck (.t 7)),Q 9 (.fa 2 (.t 8)),Q 10 (.ld true 5 (.t 9)),⟨some 11,.call 20 [.t 10,.k (.d (.str [82, 
 111,111,116]))],none⟩,Qc 6 11,Q 12 (.ext 0 (.t 6)),Q 13 (.ext 1 (.t 6)),⟨some 4,.allo [.int .i64 0,.int .i64 0,.str [],.list [],.list []],none⟩,⟨none,.st 5 (.t 4) 
 (.t 12),none⟩,Qa 5 13]) (.seq (.seq (.reg [Qc 14 5,Q 15 (.not (.t 14))]) (.cond (.t 15) (.seq (.reg [Q 16 (.mkI 49 (Ki 6)),Qx 2 (Ki 0),Qa 3 16]) .ret) .skip)) (.seq (.seq 
 (.reg [Q 17 (.fa 0 (.t 4)),Q 18 (.ld false 1 (.t 17)),Q 19 (.bin .neq (.t 18) (Ki 7))]) (.cond (.t 19) (.seq (.reg [Q 20 (.mkI 49 (Ki 8)),Qx 2 (Ki 0),Qa 3 20]) .ret) .skip)) 
 (.seq (.reg [Q 21 (.fa 1 (.t 4)),Q 22 (.ld false 1 (.t 21)),Qa 2 22,Qx 3 (.k (.d .nil))]) .ret))))
def q4E:List LRes:=[.tmp 2,.tmp 3]
theorem q6t:q0E Tryz.prog 10 23 q4A q4E:=⟨_,_,Tryz.func10,rfl,by kernel_rfl,by kernel_rfl,rfl⟩
theorem j2l(s:List UInt8)(q:List (Nat×Nat))(v:Val)(n:Int)(hf:v.f.length≤1048576)(hg:getV rotN v.f=some (.mk 7 n [] [] [])):
  q0y Tryz.prog 10 [filD s q v] (fun r=>r=.tup [.int .i64 n,.nil]):=by
 have g:=q5I v rotN hf;rw[hg,Val.d_eq v]at g;have e:getR (some (.mk 7 n [] [] []))=.tup [.agg [.int .i64 7,.int .i64 n,.str [],.list [],.list []],.bool true]:=rfl;rw[e]at g;refine q6t.call rfl ?_;simp only[go_sem,↓reduceIte,q4A,q4E,filD];refine q0j.of g ?_;simp only[go_sem,↓reduceIte]
def q2R:q0l:=
 .seq (.reg [Qx 4 (Ki 0)]) (.seq (.seq (.reg [Qc 6 0,Q 7 (.len false (.t 6)),Q 8 (.cp (Ki 0))]) (.block 0 (.loop (.seq (.reg [Q 9 (.bin .lss (.t 8) (.t 7))]) (.seq (.cond (.t 9) 
 .skip (.exit 0)) (.seq (.block 1 (.seq (.reg [Qc 10 8,Qa 5 10]) (.seq (.reg [Qc 11 1,Qc 12 0,Qc 13 5,Q 14 (.ia 1 (.t 12) (.t 13)),Q 15 (.ld false 1 (.t 14)),Q 16 (.bin .eql 
 (.t 11) (.t 15))]) (.cond (.t 16) (.seq (.reg [Qc 17 5,Qa 4 17]) .ret) .skip)))) (.reg [Q 18 (.bin .add (.t 8) (Ki 1)),Qc 8 18]))))))) (.seq (.reg [Qx 4 (Ki (-1))]) .ret))
def q2T:List LRes:=[.tmp 4]
theorem q4v:q0E Tryz.prog 35 19 q2R q2T:=⟨_,_,Tryz.func35,rfl,by kernel_rfl,by kernel_rfl,rfl⟩
def q2n:q0l:=
 .seq (.reg [Qx 4 KF]) (.seq (.reg [Qc 5 0,Qc 6 1,⟨some 7,.call 35 [.t 5,.t 6],none⟩,Q 8 (.bin .geq (.t 7) (Ki 0)),Qa 4 8]) .ret)
def q2p:List LRes:=[.tmp 4]
theorem q3P:q0E Tryz.prog 18 9 q2n q2p:=⟨_,_,Tryz.func18,rfl,by kernel_rfl,by kernel_rfl,rfl⟩
theorem z69(l:List Nat)(n:Nat)(hl:l.length≤1000000):q0y Tryz.prog 35 [.list (nsD l),.int .i64 n] (fun r=>∃i:Int,r=.one (.int .i64 i)∧(n∉l→i = -1)∧(n∈l→0≤i)):=by
 have hlen:=z1X l;refine q4v.call rfl ?_;simp only[go_sem,↓reduceIte,q2R,q2T,hlen];refine q0n (fun i:Nat=>⟨[(0,.d (.list (nsD l))),(1,.d (.int .i64 n)),(7,.d (.int .i64 l.length)),(8,.d (.int .i64 i))],[],[]⟩)
  (fun i=>i≤l.length∧n∉l.take i) (fun i=>l.length-i) 0 ?_ ⟨Zbb _,by simp⟩ ?_
 ·refine Weak.mk ?_ ?_ ?_<;>simp only[go_sem,↓reduceIte,Sub,Zab,Zac,hlen]
 ·intro i ⟨g1,g2⟩;simp only[go_sem,↓reduceIte];refine⟨fun q=>?_,fun q=>?_⟩
  ·obtain⟨x,hx⟩:=get_some (l:=l) (i:=i) (by omega);have hg:getI (nsD l) (i:Int)=some (.int .i64 x):=by rw[q0g,j5S,hx];rfl
   simp(disch:=omega)only[go_sem,↓reduceIte,hg];refine⟨fun e=>⟨i,rfl,fun h=>absurd (Zae hx) (by rw[←show n=x by omega];exact h),fun _=>by omega⟩,fun e=>⟨i+1,?_,⟨by omega,fun h=>?_⟩,by omega⟩⟩
   ·refine Weak.mk ?_ ?_ ?_<;>simp only[go_sem,↓reduceIte,Sub,Zab,Zac]
   ·rw[Zcd,hx]at h;rcases Zau.1 h with h|h
    ·exact g2 h
    ·have:n=x:=by simpa using h
     omega
  ·rw[Zbs (by omega)]at g2;exact⟨-1,rfl,fun _=>rfl,fun h=>absurd h g2⟩
theorem z2b(l:List Nat)(n:Nat)(hl:l.length≤1000000)(hn:n∉l):q0y Tryz.prog 18 [.list (nsD l),.int .i64 n] (fun r=>r=.one (.bool false)):=by
 refine q3P.call rfl ?_;simp only[go_sem,↓reduceIte,q2n,q2p];refine q0j.post (z69 l n hl) (fun r hr=>?_);obtain⟨i,rfl,h1,_⟩:=hr;rw[h1 hn];simp only[go_sem,↓reduceIte]
def prvN:List UInt8:=[80,114,101,118]
def q7S:q0l:=
 .seq (.reg [Qx 2 (.k (.d .nilp)),Qx 3 (.k (.d .nil))]) (.seq (.seq (.reg [Qc 12 0,Q 13 (.len true (.t 12)),Q 14 (.bin .gtr (.t 13) (Ki 60000))]) (.cond (.t 14) (.seq (.reg [Q 15 
 (.mkI 49 (Ki 2)),Qx 2 (.k (.d .nilp)),Qa 3 15]) .ret) .skip)) (.seq (.seq (.reg [Qc 16 0,⟨some 17,.call 16 [.t 16,.k (.d (.str [37,80,68,70,45]))],none⟩,Q 18 (.not (.t 
 17))]) (.cond (.t 18) (.seq (.reg [Q 19 (.mkI 49 (Ki 4)),Qx 2 (.k (.d .nilp)),Qa 3 19]) .ret) .skip)) (.seq (.alt [([Qc 20 0,⟨some 21,.prim (.mkMap 54) [] [],none⟩],Q 22 
 (.bld [(0,1),(1,1),(2,5)] [.str [],.map [] [],.int .i64 0,.int .i64 0,.str [],.list [],.list []] [false,false,false,false,false,true,true] [(0,.t 20),(1,.t 
 21)])),([],⟨some 23,.box (.t 22),none⟩)] [Qa 4 23]) (.seq (.reg [Qc 25 0,⟨some 26,.call 17 [.t 25],none⟩,Qc 24 26,Q 27 (.ext 0 (.t 24)),Q 28 (.ext 1 (.t 24)),Qa 5 27, 
 Qa 6 28]) (.seq (.seq (.reg [Qc 29 6,Q 30 (.eqN 0 true (.t 29))]) (.cond (.t 30) (.seq (.reg [Qc 31 6,Qx 2 (.k (.d .nilp)),Qa 3 31]) .ret) .skip)) (.seq (.reg [⟨some 7,.nils 
 3 1,none⟩]) (.block 0 (.loop (.block 1 (.seq (.seq (.reg [Qc 32 7,Qc 33 5,⟨some 34,.call 18 [.t 32,.t 33],none⟩]) (.cond (.t 34) (.seq (.reg [Q 35 (.mkI 49 (Ki 7)),Qx 2 
 (.k (.d .nilp)),Qa 3 35]) .ret) .skip)) (.seq (.seq (.reg [Qc 36 7,Q 37 (.len false (.t 36)),Q 38 (.bin .eql (.t 37) (Ki 8))]) (.cond (.t 38) (.seq (.reg [Q 39 (.mkI 49 (Ki 
 2)),Qx 2 (.k (.d .nilp)),Qa 3 39]) .ret) .skip)) (.seq (.reg [Qc 40 7,Qc 41 5,⟨some 42,.bsl 3 1 [.t 41],none⟩,⟨some 43,.app 3 1 8 false (.t 40) (.t 42),none⟩,Qa 7 43]) 
 (.seq (.reg [Qc 45 4,Qc 46 5,⟨some 47,.prim .call [.k (.fn (.func 19) [] []),.t 45,.t 46] [],none⟩,Qc 44 47,Q 48 (.ext 0 (.t 44)),Q 49 (.ext 1 (.t 44)),⟨some 8,.allo 
 [.int .i64 0,.int .i64 0,.str [],.list [],.list []],none⟩,⟨none,.st 5 (.t 8) (.t 48),none⟩,Qa 9 49]) (.seq (.seq (.reg [Qc 50 9,Q 51 (.eqN 0 true (.t 50))]) (.cond (.t 
 51) (.seq (.reg [Qc 52 9,Qx 2 (.k (.d .nilp)),Qa 3 52]) .ret) .skip)) (.seq (.seq (.reg [Qc 53 7,Q 54 (.len false (.t 53)),Q 55 (.bin .eql (.t 54) (Ki 1))]) (.cond (.t 55) 
 (.reg [Qc 56 4,Q 57 (.ld true 5 (.t 8)),Q 58 (.nck (.t 56)),Q 59 (.fa 2 (.t 58)),⟨none,.st 5 (.t 59) (.t 57),none⟩]) .skip)) (.seq (.reg [Q 61 (.ld true 5 (.t 8)),⟨some 
 62,.call 20 [.t 61,.k (.d (.str [80,114,101,118]))],none⟩,Qc 60 62,Q 63 (.ext 0 (.t 60)),Q 64 (.ext 1 (.t 60)),⟨some 10,.allo [.int .i64 0,.int .i64 0,.str [],.list 
 [],.list []],none⟩,⟨none,.st 5 (.t 10) (.t 63),none⟩,Qa 11 64]) (.seq (.seq (.reg [Qc 65 11,Q 66 (.not (.t 65))]) (.cond (.t 66) (.seq (.alt [([],Qc 67 4)] [Qa 2 67,Qx 3 
 (.k (.d .nil))]) .ret) .skip)) (.seq (.seq (.reg [Q 68 (.fa 0 (.t 10)),Q 69 (.ld false 1 (.t 68)),Q 70 (.bin .neq (.t 69) (Ki 2)),Qc 71 70,Qg 72 (.fa 1 (.t 10)) 71 false,Qg 
 73 (.ld false 1 (.t 72)) 71 false,Qg 74 (.bin .lss (.t 73) (Ki 0)) 71 false,Q 75 (.pick (.t 71) KT (.t 74)),Qc 76 75,Qg 77 (.fa 1 (.t 10)) 76 false,Qg 78 (.ld false 1 (.t 
 77)) 76 false,Qg 79 (.bin .rem (.t 78) (Ki 1000)) 76 false,Qg 80 (.bin .neq (.t 79) (Ki 0)) 76 false,Q 81 (.pick (.t 76) KT (.t 80))]) (.cond (.t 81) (.seq (.reg [Q 82 (.mkI 
 49 (Ki 8)),Qx 2 (.k (.d .nilp)),Qa 3 82]) .ret) .skip)) (.reg [Q 83 (.fa 1 (.t 10)),Q 84 (.ld false 1 (.t 83)),Q 85 (.bin .quo (.t 84) (Ki 1000)),Qa 5 85])))))))))))))))))))
def q7X:List LRes:=[.tmp 2,.tmp 3]
theorem q7H:q0E Tryz.prog 8 86 q7S q7X:=⟨_,_,Tryz.func8,rfl,by kernel_rfl,by kernel_rfl,rfl⟩
theorem z9v{s:List UInt8}{k k0:Nat}{ps:List (Nat×Nat)}{K:List Nat}{v:Val}{c:UInt8}{r p:List UInt8}(hpre:q4q s [37,80,68,70,45]=true)
  (h0:At s k0 (sxT++([10]++(Lib.decDigits k++p)))) (hp0:dl p) (hp1:∀c∈p,c≠115)
  (h:At s k (xrT++(secT (entT ps) K++(trwT++([10]++(q0F v++c::r)))))) (hs:s.length≤60000)
  (hr:rise K) (hK:∀n∈K,1≤n∧n≤60∧∃w,lkN ps n=some w∧w<10000000000) (hl:K.length≤60) (hv:q2i v=0) (hk6:v.kind=6) (hp:dl (c::r)) (hq:q7x (c::r))
  (hf:v.f.length≤1048576) (hg:getV prvN v.f=none):
  q0y Tryz.prog 8 [.str s] (fun x=>x=.tup [filD s (entN ps K) v,.nil]):=by
 have hkl:=h.le;have hst:=q9Z h0 (q4j k) (q6o k) (q2A (by omega)).2 hp0 hp1 (by omega);rw[q8O]at hst;have hct:=z2b [] k (by simp) (by simp);have hta:=q90 [] none h hs hr hK hl hv hk6 hp hq;rw[z8y,show ksN []=[]from rfl,show vsN []=[]from rfl]at hta;have hge:=q5I v prvN hf;have e0:getR none=.tup [.agg [.int .i64 0,.int .i64 0,.str [],.list [],.list []],.bool false]:=rfl;rw[hg,e0,Val.d_eq v]at hge;rw[Val.d_eq v]at hta;simp only[filC,tlC]at hta;have hpr:=q5r s [37,80,68,70,45]
 rw[hpre]at hpr;have z1:(60000<(s.length:Int))=False:=eq_false (by omega);refine q7H.call rfl ?_;simp only[go_sem,↓reduceIte,q7S,q7X,z1];refine q0j.of hpr ?_;simp only[go_sem,↓reduceIte];refine q0b.mkMap z1R ?_;simp only[go_sem,↓reduceIte];refine q14.bldX (out:=[.d (.str s),.mp (.l 21),.d (.int .i64 0),.d (.int .i64 0),.d (.str []),.ns,.ns]) rfl (by simp[AV.simple]) (fun j hj=>match j,hj with
  |5,_=>rfl
  |6,_=>rfl
  |0,h=>by cases h
  |1,h=>by cases h
  |2,h=>by cases h
  |3,h=>by cases h
  |4,h=>by cases h
  |(j+7),h=>by simp at h) ?_
 simp only[go_sem,↓reduceIte];refine q14.boxX rfl (by simp[mpX]) ?_;simp only[go_sem,↓reduceIte];refine q0j.of hst ?_;simp only[go_sem,↓reduceIte];refine q2L ?_;simp only[go_sem,↓reduceIte];refine q0j.of hct ?_;simp only[go_sem,↓reduceIte];refine q0b.q0G ([.l 23,.l 21]) ([]) rfl (hta) rfl rfl (by simp only[q1b,St.obj,aget,AObj.ren,AV.ren,AV.ren1,renL,q2u,renR,renQ,Zaw,Zax,and_true,and_self,Nat.reduceEqDiff,↓reduceIte,reduceCtorEq]) rfl rfl rfl ⟨rfl,rfl⟩ ?_;simp only[go_sem,↓reduceIte]
 refine q0j.of hge ?_;simp only[go_sem,↓reduceIte];refine q14.ghost (q14.step rfl (fun _ _ _ h=>by cases h) rfl ?_);refine⟨_,Gh.trans (Gh.j3E (a:=21) rfl) (Gh.frzP (a:=23) (fs:=[.str s,mapN (entN ps K),.int .i64 v.kind,.int .i64 v.n,.str v.s,.list (q0u v.l),.list (q0k v.f)]) rfl),?_⟩;simp only[go_sem,↓reduceIte,St.frzM,St.frzP,amap,adel,AV.frzM,AV.frzP,filD]
def SubJ:List (Nat×AV)→List (Nat×AV)→Prop
 |[],_=>True
 |(s,x)::r,l=>(x=.junk∨aget l s=some x)∧SubJ r l
theorem SubJ.get:∀{l m:List (Nat×AV)},SubJ l m→∀{s:Nat} {x:AV},aget l s=some x→x=.junk∨aget m s=some x
 |[],_,_,s,x,hx=>by cases hx
 |(k,v)::r,m,h,s,x,hx=>by
  simp only[aget]at hx;split at hx
  ·rename_i e;cases hx;rw[←e];exact h.1
  ·exact SubJ.get h.2 hx
theorem GhoB.jnk{b0:Nat→Nat}{σ τ:St}(h1:SubJ τ.ρ σ.ρ)(h2:Sub τ.L σ.L)(h3:Sub τ.H σ.H):GhoB b0 σ τ:=fun E n G ts w e h=>⟨G,by
 have hw:Wk ⟨σ.ρ,τ.L,τ.H⟩ σ:=⟨fun _ _ h=>h,fun r o ho=>by
  cases r with
  |l s=>exact h2.get ho
  |x s=>exact h3.get ho⟩
 have g:=h.wk hw;have hsl:∀s x,aget τ.ρ s=some x→AVR G w x (ts.getD s undef):=fun s x hx=>by
  rcases h1.get hx with h5|h5
  ·rw[h5];exact .junk _
  ·exact g.slot s x h5
 exact{ g with slot:=hsl }⟩
theorem j4s{P:Program}[Inv P]{l:List q0a}{deps:List (List Nat)}{k:List Item}{K:Exit→St→Prop}{σ:St}(S:(Nat→Bool)→St)(h0:SubJ (S fun _=>false).ρ σ.ρ∧Sub (S fun _=>false).L σ.L∧Sub (S fun _=>false).H σ.H)(hg:∀x∈l,x.guard=none)
  (h1:∀(done:Nat→Bool) (i:Nat) (x:q0a),l[i]?=some x→(∀j∈deps.getD i [],done j=true)→OPS P [x] [.goal fun τ=>Weak (S fun k=>k==i || done k) τ] (fun _ _=>False) (S done))
  (h2:∀done:Nat→Bool,(∀i,i<l.length→done i=true)→POP P .normal k K (S done)):RUN P (.fam l deps) k K σ:=by
 show FamW P l deps (POP P .normal k K) σ
 intro b0;refine⟨fun done τ=>Wk (S done) τ,⟨S fun _=>false,GhoB.jnk h0.1 h0.2.1 h0.2.2,Wk.refl _⟩,fun done τ i x hI hx hd hj=>⟨S done,GhoB.wk hI,.inl ?_⟩,fun done τ ha hI=>⟨S done,GhoB.wk hI,h2 done ha⟩⟩;have h:=h1 done i x hx hj;have hgx:=hg x (Zae hx);unfold LOps;rw[hgx];have h':q41 P [x] (fun τ=>Wk (S fun k=>k==i || done k) τ) (S done):=q3d (fun τ (g:Weak _ τ)=>g.wk) h;unfold q41 at h';rw[hgx]at h';exact h'
def nbd(b:Bool)(x y:AV):AV:=if b=true then x else y
theorem q6y(x y:AV):nbd true x y=x:=rfl
theorem j7x(x y:AV):nbd false x y=y:=rfl
def filP(s:List UInt8)(q:List (Nat×Nat))(v:Val):List D:=[.str s,mapN q,.int .i64 v.kind,.int .i64 v.n,.str v.s,.list (q0u v.l),.list (q0k v.f)]
def strS(s:List UInt8)(q:List (Nat×Nat))(tv v:Val)(n a b:Int)(data:List UInt8)(done:Nat→Bool):St:=
 ⟨[(0,.d (.pto (filP s q tv))),(2,.d (.int .i64 a)),(10,.d (.int .i64 b)),(4,.ptr (.l 4) 0),(6,.ptr (.l 6) 0),
  (95,nbd (done 0) (.d (.pto (filP s q tv))) .junk),(96,nbd (done 1) (.dptr (filP s q tv)) .junk),(97,nbd (done 2) (.dptr (filP s q tv)) .junk),(98,nbd (done 3) (.d (.str s)) .junk),
  (99,nbd (done 4) (.d (.int .i64 a)) .junk),(100,nbd (done 5) (.d (.int .i64 b)) .junk),(101,nbd (done 6) (.d (.str data)) .junk),(102,nbd (done 7) (.ptr (.l 4) 6) .junk),(103,nbd (done 9) (.ptr (.l 4) 7) .junk)],
  [(4,.cells [.d (.int .i64 n),.d (.int .i64 v.kind),.d (.int .i64 v.n),.d (.str v.s),.d (.list (q0u v.l)),.d (.list (q0k v.f)),nbd (done 8) (.d (.bool true)) (.d (.bool false)),nbd (done 10) (.d (.str data)) (.d (.str []))]),
  (6,.cells [.d (.int .i64 0),.d (.int .i64 0),.d (.int .i64 0),.d (.str []),.ns,.ns,.d (.bool false),.d (.str [])])],[]⟩
def q33:q0l:=
 .seq (.reg [⟨some 4,.box (.t 1),none⟩,⟨some 6,.allo [.int .i64 0,.int .i64 0,.int .i64 0,.str [],.list [],.list [],.bool false,.str []],none⟩,Qx 7 (.k (.d .nil))]) 
 (.seq (.reg [Q 12 (.fa 1 (.t 4)),Q 13 (.ld true 5 (.t 12)),⟨some 14,.call 20 [.t 13,.k (.d (.str [76,101,110,103,116,104]))],none⟩,Qc 11 14,Q 15 (.ext 0 (.t 11)),Q 
 16 (.ext 1 (.t 11)),⟨some 8,.allo [.int .i64 0,.int .i64 0,.str [],.list [],.list []],none⟩,⟨none,.st 5 (.t 8) (.t 15),none⟩,Qa 9 16]) (.seq (.seq (.reg [Qc 17 9,Q 18 
 (.not (.t 17)),Qc 19 18,Qg 20 (.fa 0 (.t 8)) 19 false,Qg 21 (.ld false 1 (.t 20)) 19 false,Qg 22 (.bin .neq (.t 21) (Ki 2)) 19 false,Q 23 (.pick (.t 19) KT (.t 22)),Qc 24 
 23,Qg 25 (.fa 1 (.t 8)) 24 false,Qg 26 (.ld false 1 (.t 25)) 24 false,Qg 27 (.bin .lss (.t 26) (Ki 0)) 24 false,Q 28 (.pick (.t 24) KT (.t 27)),Qc 29 28,Qg 30 (.fa 1 (.t 
 8)) 29 false,Qg 31 (.ld false 1 (.t 30)) 29 false,Qg 32 (.bin .rem (.t 31) (Ki 1000)) 29 false,Qg 33 (.bin .neq (.t 32) (Ki 0)) 29 false,Q 34 (.pick (.t 29) KT (.t 33))]) 
 (.cond (.t 34) (.seq (.reg [Q 35 (.bld [(0,1),(1,5),(6,1),(7,1)] [.int .i64 0,.int .i64 0,.int .i64 0,.str [],.list [],.list [],.bool false,.str []] [] []),Q 36 
 (.mkI 49 (Ki 8)),⟨none,.st 8 (.t 6) (.t 35),none⟩,Qa 7 36]) .ret) .skip)) (.seq (.seq (.reg [Qc 37 2,Qc 38 0,Q 39 (.nck (.t 38)),Q 40 (.fa 0 (.t 39)),Q 41 (.ld false 1 
 (.t 40)),Q 42 (.len true (.t 41)),Q 43 (.bin .lss (.t 37) (.t 42)),Qc 44 43,Qd 45 0 44 true,Qg 46 (.nck (.t 45)) 44 true,Qg 47 (.fa 0 (.t 46)) 44 true,Qg 48 (.ld false 1 
 (.t 47)) 44 true,Qd 49 2 44 true,Qg 50 (.idxS (.t 48) (.t 49)) 44 true,Qg 51 (.bin .eql (.t 50) (Kb 13)) 44 true,Q 52 (.pick (.t 44) (.t 51) KF)]) (.cond (.t 52) (.reg [Qc 53 
 2,Q 54 (.bin .add (.t 53) (Ki 1)),Qa 2 54]) .skip)) (.seq (.seq (.reg [Qc 55 2,Qc 56 0,Q 57 (.nck (.t 56)),Q 58 (.fa 0 (.t 57)),Q 59 (.ld false 1 (.t 58)),Q 60 (.len true 
 (.t 59)),Q 61 (.bin .geq (.t 55) (.t 60)),Qc 62 61,Qd 63 0 62 false,Qg 64 (.nck (.t 63)) 62 false,Qg 65 (.fa 0 (.t 64)) 62 false,Qg 66 (.ld false 1 (.t 65)) 62 false,Qd 67 
 2 62 false,Qg 68 (.idxS (.t 66) (.t 67)) 62 false,Qg 69 (.bin .neq (.t 68) (Kb 10)) 62 false,Q 70 (.pick (.t 62) KT (.t 69))]) (.cond (.t 70) (.seq (.reg [Q 71 (.bld [(0,1), 
 (1,5),(6,1),(7,1)] [.int .i64 0,.int .i64 0,.int .i64 0,.str [],.list [],.list [],.bool false,.str []] [] []),Q 72 (.mkI 49 (Ki 4)),⟨none,.st 8 (.t 6) (.t 71), 
 none⟩,Qa 7 72]) .ret) .skip)) (.seq (.reg [Qc 73 2,Q 74 (.bin .add (.t 73) (Ki 1)),Qa 2 74]) (.seq (.reg [Qc 75 2,Q 76 (.fa 1 (.t 8)),Q 77 (.ld false 1 (.t 76)),Q 78 (.bin 
 .quo (.t 77) (Ki 1000)),Q 79 (.bin .add (.t 75) (.t 78)),Qa 10 79]) (.seq (.seq (.reg [Qc 80 10,Qc 81 0,Q 82 (.nck (.t 81)),Q 83 (.fa 0 (.t 82)),Q 84 (.ld false 1 (.t 83)), 
 Q 85 (.len true (.t 84)),Q 86 (.bin .gtr (.t 80) (.t 85))]) (.cond (.t 86) (.seq (.reg [Q 87 (.bld [(0,1),(1,5),(6,1),(7,1)] [.int .i64 0,.int .i64 0,.int .i64 0,.str 
 [],.list [],.list [],.bool false,.str []] [] []),Q 88 (.mkI 49 (Ki 5)),⟨none,.st 8 (.t 6) (.t 87),none⟩,Qa 7 88]) .ret) .skip)) (.seq (.seq (.reg [Qc 89 10,Qc 90 2,Q 
 91 (.bin .sub (.t 89) (.t 90)),Q 92 (.bin .gtr (.t 91) (Ki 20000))]) (.cond (.t 92) (.seq (.reg [Q 93 (.bld [(0,1),(1,5),(6,1),(7,1)] [.int .i64 0,.int .i64 0,.int .i64 
 0,.str [],.list [],.list [],.bool false,.str []] [] []),Q 94 (.mkI 49 (Ki 2)),⟨none,.st 8 (.t 6) (.t 93),none⟩,Qa 7 94]) .ret) .skip)) (.seq (.fam [Qc 95 0,Q 96 (.nck 
 (.t 95)),Q 97 (.fa 0 (.t 96)),Q 98 (.ld false 1 (.t 97)),Qc 99 2,Qc 100 10,Q 101 (.subS (.t 98) (some (.t 99)) (some (.t 100))),Q 102 (.fa 6 (.t 4)),⟨none,.st 1 (.t 102) 
 KT,none⟩,Q 103 (.fa 7 (.t 4)),⟨none,.st 1 (.t 103) (.t 101),none⟩] [[],[0],[1],[2],[],[],[3,4,5],[],[7],[0,1,2,3,4,5,6,7,8],[9,6,8,0,1,2,3,4,5, 
 6,7,8]]) (.seq (.seq (.dreg [Qc 104 0,Q 105 (.nck (.t 104)),Q 106 (.fa 0 (.t 105)),Q 107 (.ld false 1 (.t 106)),Qc 108 0,Q 109 (.nck (.t 108)),Q 110 (.fa 0 (.t 109)),Q 
 111 (.ld false 1 (.t 110)),Qc 112 10,⟨some 113,.call 25 [.t 111,.t 112],none⟩,⟨some 114,.call 26 [.t 107,.t 113],none⟩,Q 115 (.bin .neq (.t 114) (.k (.d (.str [101, 
 110,100,115,116,114,101,97,109]))))]) (.cond (.t 115) (.seq (.reg [Q 116 (.bld [(0,1),(1,5),(6,1),(7,1)] [.int .i64 0,.int .i64 0,.int .i64 0,.str [],.list [], 
 .list [],.bool false,.str []] [] []),Q 117 (.mkI 49 (Ki 4)),⟨none,.st 8 (.t 6) (.t 116),none⟩,Qa 7 117]) .ret) .skip)) (.seq (.reg [Q 118 (.ld true 8 (.t 4)),⟨none,.st 8 
 (.t 6) (.t 118),none⟩,Qx 7 (.k (.d .nil))]) .ret)))))))))))
def q36:List LRes:=[.cell 6 true 8,.tmp 7]
theorem q5O:q0E Tryz.prog 28 119 q33 q36:=⟨_,_,Tryz.func28,rfl,by kernel_rfl,by kernel_rfl,rfl⟩
theorem z7K{s:List UInt8}{q:List (Nat×Nat)}{tv v:Val}{n:Int}{k:Nat}{data z:List UInt8}(h:At s k ([10]++(data++([10]++([101,110,100,115,116,114,101,97,109]++10::z)))))(hs:s.length≤60000)
  (hd:data.length≤20000) (hf:v.f.length≤1048576) (hg:getV lenN v.f=some (lenV data.length)):
  q0y Tryz.prog 28 [filD s q tv,(ObV.mk n v false []).d,.int .i64 k] (fun r=>r=.tup [(ObV.mk n v true data).d,.nil]):=by
 have g:=q5I v lenN hf;have e0:getR (some (lenV data.length))=.tup [.agg [.int .i64 2,.int .i64 ((data.length*1000:Nat):Int),.str [],.list [],.list []],.bool true]:=rfl;rw[hg,e0,Val.d_eq v]at g;have hle:=h.len;simp only[Zad,Zaf,Zag]at hle;have h1:=h.more;simp only[Zaf,Zag]at h1;have hc:s[k]?=some 10:=h.get0;have z1:((k:Int)<(s.length:Int))=True:=eq_true (by omega);have z2:((s.length:Int)≤(k:Int))=False:=eq_false (by omega)
 have z3:(((data.length*1000:Nat):Int)<0)=False:=eq_false (by omega);have z4:(((data.length*1000:Nat):Int).tmod 1000=0)=True:=eq_true (by rw[Zac];exact Int.mul_tmod_left _ _);have z5:((data.length*1000:Nat):Int).tdiv 1000=(data.length:Int):=by rw[Zac];exact Int.mul_tdiv_cancel _ (by decide)
 have z6:(((10:UInt8).toNat:Int)=13)=False:=eq_false (by decide);have z7:(((10:UInt8).toNat:Int)=10)=True:=eq_true (by decide);refine q5O.call rfl ?_;simp only[go_sem,↓reduceIte,q33,q36,filD,ObV.d];refine q0j.of g ?_;simp(disch:=omega)only[go_sem,↓reduceIte,z1,z2,z3,z4,z5,z6,z7,q0g,hc];refine⟨fun q1=>by omega,fun q1=>⟨fun q2=>by omega,fun q2=>?_⟩⟩;have hcut:cutI s ((k:Int)+1) ((k:Int)+1+(data.length:Int))=data:=by
  have:=q56 s (k+1) (k+1+data.length);rw[show((k+1:Nat):Int)=(k:Int)+1 by omega,show((k+1+data.length:Nat):Int)=(k:Int)+1+(data.length:Int) by omega]at this;rw[this];have h2:=h1.drop;rw[show k+(0+1)=k+1 by omega]at h2;rw[List.drop_take,h2,show k+1+data.length-(k+1)=data.length by omega,List.take_append_of_le_length (Zai _),Zcq]
 refine j4s (strS s q tv v n ((k:Int)+1) ((k:Int)+1+(data.length:Int)) data) ?_ (by simp) (fun done i x hx hj=>?_) (fun done hd=>?_)
 ·simp only[go_sem,↓reduceIte,strS,j7x,SubJ,Sub,filP,true_or,or_true]
 ·match i,hx with
  |0,hx=>
   cases hx;simp(disch:=omega)only[go_sem,↓reduceIte,strS];refine Weak.mk ?_ ?_ ?_<;>simp only[go_sem,↓reduceIte,Sub,Zab,Zac,q6y]
  |1,hx=>
   cases hx;have d0:=hj 0 (by decide);simp(disch:=omega)only[go_sem,↓reduceIte,strS,d0,q6y,filP];refine Weak.mk ?_ ?_ ?_<;>simp only[go_sem,↓reduceIte,Sub,Zab,Zac,q6y]
  |2,hx=>
   cases hx;have d1:=hj 1 (by decide);simp(disch:=omega)only[go_sem,↓reduceIte,strS,d1,q6y,filP];refine Weak.mk ?_ ?_ ?_<;>simp only[go_sem,↓reduceIte,Sub,Zab,Zac,q6y]
  |3,hx=>
   cases hx;have d2:=hj 2 (by decide);simp(disch:=omega)only[go_sem,↓reduceIte,strS,d2,q6y,filP];refine Weak.mk ?_ ?_ ?_<;>simp only[go_sem,↓reduceIte,Sub,Zab,Zac,q6y]
  |4,hx=>
   cases hx;simp(disch:=omega)only[go_sem,↓reduceIte,strS];refine Weak.mk ?_ ?_ ?_<;>simp only[go_sem,↓reduceIte,Sub,Zab,Zac,q6y]
  |5,hx=>
   cases hx;simp(disch:=omega)only[go_sem,↓reduceIte,strS];refine Weak.mk ?_ ?_ ?_<;>simp only[go_sem,↓reduceIte,Sub,Zab,Zac,q6y]
  |6,hx=>
   cases hx;have d3:=hj 3 (by decide);have d4:=hj 4 (by decide);have d5:=hj 5 (by decide);simp(disch:=omega)only[go_sem,↓reduceIte,strS,d3,d4,d5,q6y,hcut];refine⟨⟨by omega,by omega,by omega⟩,?_⟩;refine Weak.mk ?_ ?_ ?_<;>simp only[go_sem,↓reduceIte,Sub,Zab,Zac,q6y]
  |7,hx=>
   cases hx;simp(disch:=omega)only[go_sem,↓reduceIte,strS];refine Weak.mk ?_ ?_ ?_<;>simp only[go_sem,↓reduceIte,Sub,Zab,Zac,q6y]
  |8,hx=>
   cases hx;have d7:=hj 7 (by decide);simp(disch:=omega)only[go_sem,↓reduceIte,strS,d7,q6y];refine Weak.mk ?_ ?_ ?_<;>simp only[go_sem,↓reduceIte,Sub,Zab,Zac,q6y]
  |9,hx=>
   cases hx;simp(disch:=omega)only[go_sem,↓reduceIte,strS];refine Weak.mk ?_ ?_ ?_<;>simp only[go_sem,↓reduceIte,Sub,Zab,Zac,q6y]
  |10,hx=>
   cases hx;have d9:=hj 9 (by decide);have d6:=hj 6 (by decide);simp(disch:=omega)only[go_sem,↓reduceIte,strS,d9,d6,q6y];refine Weak.mk ?_ ?_ ?_<;>simp only[go_sem,↓reduceIte,Sub,Zab,Zac,q6y]
  |(m+11),hx=>simp at hx
 ·have ha:∀i,i<11→done i=true:=hd;have h2:=h1.more;have h3:=h2.more;have hk2:k+(0+1)+data.length=k+1+data.length:=by omega
  rw[hk2]at h2;have sk:=At.q1f (b:=[10]) (c:=101) (r:=[110,100,115,116,114,101,97,109]++10::z) h2 z6I ⟨by decide,by decide⟩ (by omega);have w1:=h3.q1g (w:=[101,110,100,115,116,114,101,97,109]) (fun c hc=>by revert hc;revert c;decide) (show dl (10::_)from Or.inl (by decide)) (by omega);rw[hk2]at w1;rw[show((k+1+data.length:Nat):Int)=(k:Int)+1+(data.length:Int) by omega]at sk
  simp only[go_sem,↓reduceIte,strS,ha 0 (by decide),ha 1 (by decide),ha 2 (by decide),ha 3 (by decide),ha 4 (by decide),ha 5 (by decide),ha 6 (by decide),ha 7 (by decide),ha 8 (by decide),ha 9 (by decide),ha 10 (by decide),q6y,filP];refine q1I.of sk ?_;simp only[go_sem,↓reduceIte];refine q1I.of w1 ?_;simp only[go_sem,↓reduceIte]
def bodE(o:ObV):List UInt8:=(if o.st=true then strT++o.data++estT else[])++eobT
theorem j0B(o:ObV)(z:List UInt8):∃c r,bodE o++z=c::r∧nb c∧q2a (c::r)≠[48]:=by
 cases hst:o.st with
 |true=>
  refine⟨115,[116,114,101,97,109,10]++o.data++estT++eobT++z,by simp[bodE,hst,strT],⟨by decide,by decide⟩,?_⟩;rw[q1H,if_pos (by decide)];simp
 |false=>
  refine⟨101,[110,100,111,98,106,10]++z,by simp[bodE,hst,eobT],⟨by decide,by decide⟩,?_⟩;rw[q1H,if_pos (by decide)];simp
theorem j29(o:ObV)(z:List UInt8):q4K o++z=Lib.decDigits o.n.toNat++([32]++([48]++([32]++([111,98,106]++([10]++(q0F o.val++10::(bodE o++z))))))):=by
 simp[q4K,bodE]
def q48:q0l:=
 .seq (.reg [⟨some 4,.allo [.int .i64 0,.int .i64 0,.int .i64 0,.str [],.list [],.list [],.bool false,.str []],none⟩,Qx 5 (.k (.d .nil))]) (.seq (.reg [Qc 15 0,Q 16 (.nck 
 (.t 15)),Q 17 (.fa 1 (.t 16)),Q 18 (.ld false 1 (.t 17)),Qc 19 1,⟨some 20,.prim (.lookup 54 true) [.t 18,.t 19] [],none⟩,Qc 14 20,Q 21 (.ext 0 (.t 14)),Q 22 (.ext 1 (.t 
 14)),Qa 6 21,Qa 7 22]) (.seq (.seq (.reg [Qc 23 7,Q 24 (.not (.t 23)),Qc 25 24,Qd 26 6 25 false,Qg 27 (.bin .lss (.t 26) (Ki 0)) 25 false,Q 28 (.pick (.t 25) KT (.t 27))]) 
 (.cond (.t 28) (.seq (.reg [Q 29 (.bld [(0,1),(1,5),(6,1),(7,1)] [.int .i64 0,.int .i64 0,.int .i64 0,.str [],.list [],.list [],.bool false,.str []] [] []),Q 30 
 (.mkI 49 (Ki 6)),⟨none,.st 8 (.t 4) (.t 29),none⟩,Qa 5 30]) .ret) .skip)) (.seq (.seq (.reg [Qc 31 1,⟨some 32,.call 24 [.t 31],none⟩,⟨some 33,.bsl 9 1 [.t 32,.k (.d 
 (.str [48])),.k (.d (.str [111,98,106]))],none⟩,Q 34 (.len false (.t 33)),Q 35 (.cp (Ki 0))]) (.block 0 (.loop (.seq (.reg [Q 36 (.bin .lss (.t 35) (.t 34))]) (.seq (.cond 
 (.t 36) .skip (.exit 0)) (.seq (.block 1 (.seq (.reg [Q 37 (.ia 1 (.t 33) (.t 35)),Q 38 (.ld false 1 (.t 37)),Qa 9 38]) (.seq (.reg [Qc 39 0,Q 40 (.nck (.t 39)),Q 41 (.fa 0 
 (.t 40)),Q 42 (.ld false 1 (.t 41)),Qc 43 6,⟨some 44,.call 25 [.t 42,.t 43],none⟩,Qa 6 44]) (.seq (.seq (.reg [Qc 45 0,Q 46 (.nck (.t 45)),Q 47 (.fa 0 (.t 46)),Q 48 
 (.ld false 1 (.t 47)),Qc 49 6,⟨some 50,.call 26 [.t 48,.t 49],none⟩,Qc 51 9,Q 52 (.bin .neq (.t 50) (.t 51))]) (.cond (.t 52) (.seq (.reg [Q 53 (.bld [(0,1),(1,5),(6, 
 1),(7,1)] [.int .i64 0,.int .i64 0,.int .i64 0,.str [],.list [],.list [],.bool false,.str []] [] []),Q 54 (.mkI 49 (Ki 4)),⟨none,.st 8 (.t 4) (.t 53),none⟩,Qa 5 
 54]) .ret) .skip)) (.reg [Qc 55 6,Qc 56 9,Q 57 (.len true (.t 56)),Q 58 (.bin .add (.t 55) (.t 57)),Qa 6 58]))))) (.reg [Q 59 (.bin .add (.t 35) (Ki 1)),Qc 35 59]))))))) 
 (.seq (.reg [Qc 61 0,Q 62 (.nck (.t 61)),Q 63 (.fa 0 (.t 62)),Q 64 (.ld false 1 (.t 63)),Qc 65 6,⟨some 66,.call 27 [.t 64,.t 65],none⟩,Qc 60 66,Q 67 (.ext 0 (.t 60)),Q 
 68 (.ext 1 (.t 60)),Q 69 (.ext 2 (.t 60)),⟨some 10,.allo [.int .i64 0,.int .i64 0,.str [],.list [],.list []],none⟩,⟨none,.st 5 (.t 10) (.t 67),none⟩,Qa 11 68,Qa 12 
 69]) (.seq (.seq (.reg [Qc 70 12,Q 71 (.eqN 0 true (.t 70))]) (.cond (.t 71) (.seq (.reg [Q 72 (.bld [(0,1),(1,5),(6,1),(7,1)] [.int .i64 0,.int .i64 0,.int .i64 0, 
 .str [],.list [],.list [],.bool false,.str []] [] []),Qc 73 12,⟨none,.st 8 (.t 4) (.t 72),none⟩,Qa 5 73]) .ret) .skip)) (.seq (.reg [Qc 74 1,Q 75 (.ld true 5 (.t 10)), 
 Q 76 (.bld [(0,1),(1,5),(6,1),(7,1)] [.int .i64 0,.int .i64 0,.int .i64 0,.str [],.list [],.list [],.bool false,.str []] [] [(0,.t 74),(1,.t 75)]),⟨some 13, 
 .allo [.int .i64 0,.int .i64 0,.int .i64 0,.str [],.list [],.list [],.bool false,.str []],none⟩,⟨none,.st 8 (.t 13) (.t 76),none⟩]) (.seq (.reg [Qc 77 0,Q 78 (.nck 
 (.t 77)),Q 79 (.fa 0 (.t 78)),Q 80 (.ld false 1 (.t 79)),Qc 81 11,⟨some 82,.call 25 [.t 80,.t 81],none⟩,Qa 11 82]) (.seq (.seq (.reg [Qc 83 0,Q 84 (.nck (.t 83)),Q 85 
 (.fa 0 (.t 84)),Q 86 (.ld false 1 (.t 85)),Qc 87 11,⟨some 88,.call 26 [.t 86,.t 87],none⟩]) (.block 2 (.seq (.reg [Q 90 (.bin .eql (.t 88) (.k (.d (.str [101,110,100, 
 111,98,106])))),Qa 89 90]) (.cond (.t 89) (.seq (.reg [Q 91 (.ld true 8 (.t 13)),⟨none,.st 8 (.t 4) (.t 91),none⟩,Qx 5 (.k (.d .nil))]) .ret) (.seq (.reg [Q 93 (.bin .eql 
 (.t 88) (.k (.d (.str [115,116,114,101,97,109])))),Qa 92 93]) (.cond (.t 92) (.seq (.reg [Qc 94 0,Q 95 (.ld true 8 (.t 13)),Qc 96 11,Q 97 (.bin .add (.t 96) (Ki 6)), 
 ⟨some 98,.prim .call [.k (.fn (.func 28) [] []),.t 94,.t 95,.t 97] [],none⟩,Q 99 (.ext 0 (.t 98)),Q 100 (.ext 1 (.t 98)),⟨none,.st 8 (.t 4) (.t 99),none⟩,Qa 5 100]) 
 .ret) .skip)))))) (.seq (.reg [Q 101 (.bld [(0,1),(1,5),(6,1),(7,1)] [.int .i64 0,.int .i64 0,.int .i64 0,.str [],.list [],.list [],.bool false,.str []] [] []),Q 
 102 (.mkI 49 (Ki 4)),⟨none,.st 8 (.t 4) (.t 101),none⟩,Qa 5 102]) .ret)))))))))
def q5a:List LRes:=[.cell 4 true 8,.tmp 5]
theorem q60:q0E Tryz.prog 13 103 q48 q5a:=⟨_,_,Tryz.func13,rfl,by kernel_rfl,by kernel_rfl,rfl⟩
theorem z8i{s:List UInt8}{q:List (Nat×Nat)}{tv:Val}{o:ObV}{k:Nat}{z:List UInt8}(hlk:lkN q o.n.toNat=some k)(h:At s k (q4K o++z))(hok:o.ok)(hs:s.length≤60000)
  (hf:o.val.f.length≤1048576) (hg:o.st=true→getV lenN o.val.f=some (lenV o.data.length)):
  q0y Tryz.prog 13 [filD s q tv,.int .i64 o.n] (fun r=>r=.tup [(ObV.mk o.n o.val o.st o.data).d,.nil]):=by
 obtain⟨o1,o2,o3,o4,o5⟩:=hok;have hn:o.n=((o.n.toNat:Nat):Int):=by omega
 have hml:=z1S o.n.toNat q;rw[hlk,←hn]at hml;have hit:=q3N o.n.toNat (by omega);rw[←hn]at hit;obtain⟨c,r,hcr,hc,hw⟩:=j0B o z;rw[j29,hcr]at h;have hlen:=h.len;simp only[Zad,Zaf,Zag]at hlen;obtain⟨c1,r1,hd1⟩:∃c r,Lib.decDigits o.n.toNat=c::r:=by
  cases e:Lib.decDigits o.n.toNat with
  |nil=>exact absurd e (q6o _)
  |cons c r=>exact⟨c,r,rfl⟩
 have b32:bl [32]:=fun x hx=>by rw[Zbe.1 hx];exact⟨by decide,by decide⟩
 have s1:=At.q1f (s:=s) (k:=k) (b:=[]) (c:=c1) (r:=r1++([32]++([48]++([32]++([111,98,106]++([10]++(q0F o.val++10::c::r))))))) (by rw[hd1]at h;exact h) (fun x hx=>by cases hx) (z5f (q4j _ c1 (by rw[hd1];simp))) (by omega);have w1:=h.q1g (j0Y (q4j _)) (show dl (32::_)from Or.inl (by decide)) (by omega);have a2:=h.more;have s2:=At.q1f (b:=[32]) (c:=48) (r:=[32]++([111,98,106]++([10]++(q0F o.val++10::c::r)))) a2 b32 ⟨by decide,by decide⟩ (by omega);have a3:=a2.more
 have w2:=a3.q1g (w:=[48]) (fun x hx=>by rw[Zbe.1 hx];exact⟨by decide,by decide⟩) (show dl (32::_)from Or.inl (by decide)) (by omega);have a4:=a3.more;have s3:=At.q1f (b:=[32]) (c:=111) (r:=[98,106]++([10]++(q0F o.val++10::c::r))) a4 b32 ⟨by decide,by decide⟩ (by omega);have a5:=a4.more;have w3:=a5.q1g (w:=[111,98,106]) (fun c hc=>by revert hc;revert c;decide) (show dl (10::_)from Or.inl (by decide)) (by omega);have a6:=a5.more
 have hval:=q9p s ((k+(Lib.decDigits o.n.toNat).length+[(32:UInt8)].length+[(48:UInt8)].length+[(32:UInt8)].length+[(111:UInt8),98,106].length:Nat):Int) (by omega);rw[a6.value z6I o3 (Or.inl (by decide)) (j2A rfl hc hw) hs,topP,Val.d_eq o.val]at hval;have a7:=a6.more.more;have s4:=At.q1f (b:=[10]) (c:=c) (r:=r) a7 z6I hc (by omega);simp only[Zaf,Zag,Zbh,Zck]at s1 s2 w2 s3 w3 hval s4;generalize hL:(Lib.decDigits o.n.toNat).length=L at *
 rw[show((k+L:Nat):Int)=(k:Int)+(L:Int) by omega]at s2;rw[show((k+L+1+1:Nat):Int)=((k+L+1:Nat):Int)+1 by omega]at s3;rw[show((k+L+1+1+1+(1+1+1):Nat):Int)=((k+L+1+1+1:Nat):Int)+3 by omega]at hval;refine q60.call rfl ?_;simp only[go_sem,↓reduceIte,q48,q5a,filD,mapN];refine q0b.lookup (ks:=ksN q) (vs:=vsN q) (key:=.int .i64 o.n) (zero:=.int .i64 0) rfl rfl z1R z9D rfl (q7f q) (by kernel_rfl) ?_
 have zk:((k:Int)<0)=False:=eq_false (by omega);simp only[go_sem,↓reduceIte,hml,Zat,Option.isSome_some,Zbp,zk];refine q0j.of hit ?_;simp only[go_sem,↓reduceIte];have g0:getI [D.str (Lib.decDigits o.n.toNat),D.str [48],D.str [111,98,106]] 0=some (.str (Lib.decDigits o.n.toNat)):=rfl;have g1:getI [D.str (Lib.decDigits o.n.toNat),D.str [48],D.str [111,98,106]] 1=some (.str [48]):=rfl;have g2:getI [D.str (Lib.decDigits o.n.toNat),D.str [48],D.str [111,98,106]] 2=some (.str [111,98,106]):=rfl;refine q2L ?_
 simp only[go_sem,↓reduceIte,g0];refine q0j.of s1 ?_;simp only[go_sem,↓reduceIte];refine q0j.of w1 ?_;simp(disch:=omega)only[go_sem,↓reduceIte,hL];refine q2L ?_;simp only[go_sem,↓reduceIte,g1];refine q0j.of s2 ?_;simp only[go_sem,↓reduceIte];refine q0j.of w2 ?_;simp(disch:=omega)only[go_sem,↓reduceIte];refine q2L ?_;simp only[go_sem,↓reduceIte,g2];refine q0j.of s3 ?_;simp only[go_sem,↓reduceIte];refine q0j.of w3 ?_;simp(disch:=omega)only[go_sem,↓reduceIte];refine q2L ?_;simp only[go_sem,↓reduceIte]
 refine q0j.of hval ?_;simp only[go_sem,↓reduceIte];refine q0j.of s4 ?_;have a8:At s (k+L+1+1+1+3+1+(q0F o.val).length+1) (bodE o++z):=by
  have:=At.more (a:=[10]) a7;rw[←hcr]at this;exact this
 generalize k+L+1+1+1+3+1+(q0F o.val).length+1=m at *;have hm:=a8.le;cases hst:o.st with
 |false=>
  have hb:bodE o++z=[101,110,100,111,98,106]++10::z:=by simp[bodE,hst,eobT]
  rw[hb]at a8;have w4:=a8.q1g (fun c hc=>by revert hc;revert c;decide) (show dl (10::_)from Or.inl (by decide)) (by omega);simp only[go_sem,↓reduceIte];refine q0j.of w4 ?_;rw[o5 hst];simp only[go_sem,↓reduceIte,ObV.d]
 |true=>
  obtain⟨_,o6⟩:=o4 hst;have hb:bodE o++z=[115,116,114,101,97,109]++([10]++(o.data++([10]++([101,110,100,115,116,114,101,97,109]++10::(eobT++z))))):=by simp[bodE,hst,eobT,strT,estT]
  rw[hb]at a8;have w4:=a8.q1g (fun c hc=>by revert hc;revert c;decide) (show dl (10::_)from Or.inl (by decide)) (by omega);have hst2:=z7K (q:=q) (tv:=tv) (n:=o.n) a8.more hs o6 hf (hg hst);rw[show((m+[(115:UInt8),116,114,101,97,109].length:Nat):Int)=(m:Int)+6 from rfl]at hst2;simp only[ObV.d,filD,mapN]at hst2;simp only[go_sem,↓reduceIte];refine q0j.of w4 ?_;simp(disch:=omega)only[go_sem,↓reduceIte];refine⟨fun e=>(by cases e),fun _=>?_⟩
  refine q0b.q0G ([]) ([]) rfl (hst2.q4s (by kernel_rfl)) rfl rfl (by simp only[q1b,St.obj,aget,AObj.ren,AV.ren,AV.ren1,renL,q2u,renR,renQ,Zaw,Zax,and_true,and_self,Nat.reduceEqDiff,↓reduceIte,reduceCtorEq]) rfl rfl rfl ⟨rfl,rfl⟩ ?_;simp only[go_sem,↓reduceIte,ObV.d]
theorem z6G(v:Val):q5H v v=true:=(q9s v v).2 rfl
def q35:q0l:=
 .seq (.reg [⟨some 3,.box (.t 1),none⟩,Qx 4 KF]) (.seq (.reg [Qc 9 0,Q 10 (.fa 0 (.t 3)),Q 11 (.ld false 1 (.t 10)),⟨some 12,.prim .call [.k (.fn (.func 13) [] []),.t 9,.t 
 11] [],none⟩,Qc 8 12,Q 13 (.ext 0 (.t 8)),Q 14 (.ext 1 (.t 8)),⟨some 5,.allo [.int .i64 0,.int .i64 0,.int .i64 0,.str [],.list [],.list [],.bool false,.str []], 
 none⟩,⟨none,.st 8 (.t 5) (.t 13),none⟩,Qa 6 14]) (.seq (.reg [Q 15 (.fa 1 (.t 3)),Q 16 (.ld true 5 (.t 15)),⟨some 7,.allo [.int .i64 0,.int .i64 0,.str [],.list [], 
 .list []],none⟩,⟨none,.st 5 (.t 7) (.t 16),none⟩]) (.seq (.seq (.reg [Q 17 (.fa 6 (.t 3)),Q 18 (.ld false 1 (.t 17))]) (.cond (.t 18) (.reg [Q 19 (.ld true 5 (.t 7)),Q 20 
 (.fa 7 (.t 3)),Q 21 (.ld false 1 (.t 20)),Q 22 (.len true (.t 21)),Q 23 (.bin .mul (.t 22) (Ki 1000)),Q 24 (.bld [(0,1),(1,1),(2,1),(3,1),(4,1)] [.int .i64 0,.int 
 .i64 0,.str [],.list [],.list []] [false,false,false,true,true] [(0,.k (.d (.int .i64 2))),(1,.t 23)]),⟨some 25,.call 22 [.t 19,.k (.d (.str [76,101,110,103,116, 
 104])),.t 24],none⟩,⟨none,.st 5 (.t 7) (.t 25),none⟩]) .skip)) (.seq (.reg [Qc 26 6,Q 27 (.eqN 0 false (.t 26)),Qc 28 27,Qg 29 (.fa 0 (.t 5)) 28 true,Qg 30 (.ld false 1 
 (.t 29)) 28 true,Qg 31 (.fa 0 (.t 3)) 28 true,Qg 32 (.ld false 1 (.t 31)) 28 true,Qg 33 (.bin .eql (.t 30) (.t 32)) 28 true,Q 34 (.pick (.t 28) (.t 33) KF),Qc 35 34,Qg 36 
 (.fa 6 (.t 5)) 35 true,Qg 37 (.ld false 1 (.t 36)) 35 true,Qg 38 (.fa 6 (.t 3)) 35 true,Qg 39 (.ld false 1 (.t 38)) 35 true,Qg 40 (.eqB false (.t 37) (.t 39)) 35 true,Q 41 
 (.pick (.t 35) (.t 40) KF),Qc 42 41,Qg 43 (.fa 7 (.t 5)) 42 true,Qg 44 (.ld false 1 (.t 43)) 42 true,Qg 45 (.fa 7 (.t 3)) 42 true,Qg 46 (.ld false 1 (.t 45)) 42 true,Qg 47 
 (.bin .eql (.t 44) (.t 46)) 42 true,Q 48 (.pick (.t 42) (.t 47) KF),Qc 49 48,Qg 50 (.fa 1 (.t 5)) 49 true,Qg 51 (.ld true 5 (.t 50)) 49 true,Qg 52 (.ld true 5 (.t 7)) 49 
 true,⟨some 53,.call 23 [.t 51,.t 52],some (49,true)⟩,Q 54 (.pick (.t 49) (.t 53) KF),Qa 4 54]) .ret))))
def q38:List LRes:=[.tmp 4]
theorem q5Q:q0E Tryz.prog 11 55 q35 q38:=⟨_,_,Tryz.func11,rfl,by kernel_rfl,by kernel_rfl,rfl⟩
theorem z5v{s:List UInt8}{q:List (Nat×Nat)}{tv:Val}{o:ObV}{k:Nat}{z:List UInt8}(hlk:lkN q o.n.toNat=some k)(h:At s k (q4K o++z))(hok:o.ok)(hs:s.length≤60000)(ho:o.lt)
  (hg:o.st=true→getV lenN o.val.f=some (lenV o.data.length)):
  q0y Tryz.prog 11 [filD s q tv,o.d] (fun r=>r=.one (.bool true)):=by
 obtain⟨h1,h2,h3⟩:=ho;have hsm:=z6H 1048576 o.v (by omega);have hsm2:o.val.sm 1048576=true:=by
  unfold ObV.val;split
  ·refine z6H _ _ ?_;have:=j0w lenN (lenV o.data.length) o.v;have h5:awV (lenV o.data.length)=1:=rfl;have h6:lenN.length=6:=rfl;omega
  ·exact hsm
 have hget:=z8i (tv:=tv) hlk h hok hs (Val.q1Q.1 hsm2).2.2.1 hg;have hal:=z6F _ o.val o.val (Zai _) hsm2;rw[z6G,Val.d_eq o.val]at hal;have hset:=z2d o.v (lenV o.data.length) lenN hsm (by rfl);rw[Val.d_eq o.v,Val.d_eq (lenV _),Val.d_eq (q9X _ _ _)]at hset;simp only[ObV.d]at hget;refine q5Q.call rfl ?_;simp only[go_sem,↓reduceIte,q35,q38,ObV.d]
 refine q0b.q0G ([]) ([]) rfl (hget.q4s (by kernel_rfl)) rfl rfl (by simp only[q1b,St.obj,aget,AObj.ren,AV.ren,AV.ren1,renL,q2u,renR,renQ,Zaw,Zax,and_true,and_self,Nat.reduceEqDiff,↓reduceIte,reduceCtorEq]) rfl rfl rfl ⟨rfl,rfl⟩ ?_;cases hst:o.st with
 |true=>
  have hval:q9X lenN (lenV o.data.length) o.v=o.val:=by rw[ObV.val,if_pos hst]
  rw[hval]at hset;have e1:IntKind.i64.wrap ((o.data.length:Int)*1000)=((o.data.length*1000:Nat):Int):=by rw[IntWalk.i64_in]<;>omega
  simp only[go_sem,↓reduceIte,hst,e1];refine q0j.of hset ?_;simp only[go_sem,↓reduceIte,hst];refine q0j.of hal ?_;simp only[go_sem,↓reduceIte]
 |false=>
  have hval:o.v=o.val:=by rw[ObV.val,hst];rfl
  simp only[go_sem,↓reduceIte,hst];rw[hval];refine q0j.of hal ?_;simp only[go_sem,↓reduceIte]
def q2g:q0l:=
 .seq (.reg [Qx 2 KF]) (.seq (.seq (.reg [Qc 5 0,Q 6 (.len false (.t 5)),Q 7 (.bin .gtr (.t 6) (Ki 70))]) (.cond (.t 7) (.seq (.reg [Qx 2 KF]) .ret) .skip)) (.seq (.reg [Qx 3 (Ki 
 0)]) (.seq (.seq (.reg [Qx 4 (Ki 0)]) (.block 0 (.loop (.seq (.seq (.reg [Qc 8 4,Qc 9 0,Q 10 (.len false (.t 9)),Q 11 (.bin .lss (.t 8) (.t 10))]) (.cond (.t 11) .skip (.exit 
 0))) (.seq (.block 1 (.seq (.dreg [Qc 14 3,Qc 15 0,Qc 16 4,Q 17 (.ia 8 (.t 15) (.t 16)),Q 18 (.fa 7 (.t 17)),Q 19 (.ld false 1 (.t 18)),Q 20 (.len true (.t 19)),Q 21 (.bin 
 .add (.t 14) (.t 20)),Qc 22 0,Qc 23 4,Q 24 (.ia 8 (.t 22) (.t 23)),Q 25 (.fa 1 (.t 24)),Q 26 (.ld true 5 (.t 25)),⟨some 27,.call 14 [.t 26,.k (.d (.int .i64 20000))], 
 none⟩,Q 28 (.bin .add (.t 21) (.t 27)),Qa 3 28]) (.seq (.reg [Qc 29 3,Q 30 (.bin .gtr (.t 29) (Ki 20000))]) (.cond (.t 30) (.seq (.reg [Qx 2 KF]) .ret) .skip)))) (.reg [Qc 12 
 4,Q 13 (.bin .add (.t 12) (Ki 1)),Qa 4 13])))))) (.seq (.reg [Qx 2 KT]) .ret))))
def q2h:List LRes:=[.tmp 2]
theorem q3v:q0E Tryz.prog 6 31 q2g q2h:=⟨_,_,Tryz.func6,rfl,by kernel_rfl,by kernel_rfl,rfl⟩
theorem q7K(l:List ObV)(hl:l.length≤1048576)(ho:∀o∈l,o.v.sm 1048576=true∧awV o.v≤1048576∧o.data.length≤1048576):
  q0y Tryz.prog 6 [.list (q2t l)] (fun r=>∃b,r=.one (.bool b)∧(b=true→l.length≤70∧∀o∈l,o.data.length≤20000∧awV o.v≤20000)):=by
 have hlen:(q2t l).length=l.length:=Zbd ..;have nob:∃b,Res.one (D.bool false)=Res.one (D.bool b)∧(b=true→l.length≤70∧∀o∈l,o.data.length≤20000∧awV o.v≤20000):=⟨false,rfl,fun h=>by cases h⟩;refine q3v.call rfl ?_;simp only[go_sem,↓reduceIte,q2g,q2h,hlen];refine⟨fun a1=>nob,fun a1=>?_⟩;refine q0n (fun y:Nat×Int=>⟨[(0,.d (.list (q2t l))),(3,.d (.int .i64 y.2)),(4,.d (.int .i64 y.1))],[],[]⟩)
  (fun y=>y.1≤l.length∧0≤y.2∧y.2≤20000∧∀o∈l.take y.1,o.data.length≤20000∧awV o.v≤20000) (fun y=>l.length-y.1) (0,0) ?_ ⟨Zbb _,by simp,by simp,by simp⟩ ?_
 ·refine Weak.mk ?_ ?_ ?_<;>simp only[go_sem,↓reduceIte,Sub,Zab,Zac]
 ·rintro⟨i,m⟩ ⟨g1,g2,g3,g4⟩;simp only at g1 g2 g3 g4;simp only[go_sem,↓reduceIte,hlen];refine⟨fun q1=>?_,fun q1=>?_⟩
  ·obtain⟨o,hoi⟩:=get_some (l:=l) (i:=i) (by omega);obtain⟨p1,p2,p3⟩:=ho o (Zae hoi);have hg:getI (q2t l) (i:Int)=some o.d:=by rw[q0g,q2t,Zam,hoi];rfl
   rw[ObV.d]at hg;have hw:=z7R _ o.v 20000 (Zai _) p1;rw[Val.d_eq o.v]at hw;obtain⟨w1,w2,w3⟩:=j6n 20000 o.v (by omega);simp(disch:=omega)only[go_sem,↓reduceIte,hg];refine q1I.of hw ?_;simp(disch:=omega)only[go_sem,↓reduceIte];refine⟨fun q2=>nob,fun q2=>⟨(i+1,m+o.data.length+wtV 20000 o.v),?_,⟨by simp only;omega,by simp only;omega,by simp only;omega,fun x hx=>?_⟩,by simp only;omega⟩⟩
   ·refine Weak.mk ?_ ?_ ?_<;>simp only[go_sem,↓reduceIte,Sub,Zab,Zac]
   ·rw[Zcd,hoi]at hx;rcases Zau.1 hx with hx|hx
    ·exact g4 x hx
    ·have:x=o:=by simpa using hx
     subst this;have:=w3 (by omega);exact⟨by omega,by omega⟩
  ·rw[Zbs (by omega)]at g4;exact⟨true,rfl,fun _=>⟨by omega,g4⟩⟩
/-! ### A dictionary's entry that is told -/
theorem z8h{nm:List UInt8}{x:Val}:∀{l:List Fld},(l.Pairwise fun a b=>Op.bytesLess a.name b.name=true)→Fld.mk nm x∈l→getV nm l=some x
 |[],_,h=>by cases h
 |y::r,hp,h=>by
  obtain⟨h1,h2⟩:=Zcv.1 hp;rw[getV];rcases Zar.1 h with h|h
  ·subst h;rw[if_pos (show(Fld.mk nm x).name=nm from rfl)];rfl
  ·have h3:=j1C (h1 _ h);rw[if_neg (show ¬y.name=nm from h3)];exact z8h h2 h
theorem j1B{o:ObV}(hok:o.ok)(hst:o.st=true):getV lenN o.val.f=some (lenV o.data.length):=by
 have hf:=hok.2.2.1;rw[q8U]at hf;have hw:=hf.2;have hval:o.val=q9X lenN (lenV o.data.length) o.v:=by rw[ObV.val,if_pos hst]
 have hk:o.val.kind=6:=by rw[hval];exact(hok.2.2.2.1 hst).1
 rw[q2Y,hk]at hw;simp at hw;refine z8h (z4O hw.2.2.2).2 ?_;rw[hval];exact j2u _ _ _
/-! ### Places -/
theorem z7i{ps:List (Nat×Nat)}{n v:Nat}(hv:lkN ps n=some v):∀{K:List Nat},n∈K→lkN (entN ps K) n=some v
 |[],h=>by cases h
 |m::K,h=>by
  have hc:entN ps (m::K)=(m,(lkN ps m).getD 0)::entN ps K:=rfl;rw[hc,lkN]
  by_cases e:n=m
  ·subst e;rw[if_pos rfl,hv];rfl
  ·rw[if_neg e];exact z7i hv ((Zar.1 h).resolve_left e)
theorem z1x(s:List UInt8)(l:List ObV)(tl:Val):
  At (layT s l tl) (s++q0M l).length (xrT++(secT (entT (plcs s.length l)) (srtN ((plcs s.length l).map Prod.fst))++(trwT++([10]++(q0F tl++10::(sxT++([10]++(Lib.decDigits (s++q0M l).length++eofT))))))))∧
  At (layT s l tl) ((s++q0M l).length+(tabT (plcs s.length l)++trlT++q0F tl++[10]).length) (sxT++([10]++(Lib.decDigits (s++q0M l).length++eofT))):=by
 constructor
 ·refine⟨s++q0M l,?_,rfl⟩;have e:tabT (plcs s.length l)=xrT++secT (entT (plcs s.length l)) (srtN ((plcs s.length l).map Prod.fst)):=rfl;rw[layT,e];have e2:trlT=trwT++[10]:=rfl;rw[e2];simp only[List.append_assoc,Zba,Zav]
 ·refine⟨s++q0M l++(tabT (plcs s.length l)++trlT++q0F tl++[10]),?_,by rw[Zad]⟩;rw[layT];simp only[List.append_assoc]
theorem z8o{s:List UInt8}{l:List ObV}{tl:Val}(h:q15 s l tl){i:Nat}{o:ObV}(ho:l[i]?=some o):
  ∃k z,lkN (plcs s.length l) o.n.toNat=some k∧At (layT s l tl) k (q4K o++z):=by
 obtain⟨h1,h2,h3,h4,h5⟩:=h;have hi:=(Zaa.1 ho).1;have hsp:l=l.take i++(o::l.drop (i+1)):=by rw[←q30 ho,List.take_append_drop]
 refine⟨s.length+(q0M (l.take i)).length,q0M (l.drop (i+1))++(tabT (plcs s.length l)++trlT++q0F tl++([10]++sxT++[10])++Lib.decDigits (s++q0M l).length++eofT),?_,s++q0M (l.take i),?_,by rw[Zad]⟩
 ·have hp:plcs s.length l=plcs s.length (l.take i)++plcs (s.length+(q0M (l.take i)).length) (o::l.drop (i+1)):=by rw[←z4p,←hsp]
  rw[hp,z7h,plcs,lkN,if_pos rfl];intro hm;rw[q13]at hm;have hnd:=q86 h2 h3;rw[hsp,List.map_append,Zbf,List.nodup_append]at hnd;exact hnd.2.2 _ hm _ (by simp) rfl
 ·have hb:q0M l=q0M (l.take i)++(q4K o++q0M (l.drop (i+1))):=by
   conv=>lhs;rw[hsp]
   simp[q0M]
  rw[layT];generalize tabT (plcs s.length l)++trlT++q0F tl++([10]++sxT++[10])++Lib.decDigits (s++q0M l).length++eofT=X;rw[hb];simp only[List.append_assoc]
def filK(k:Nat)(l:List ObV):List (Nat×Nat):=entN (plcs k l) (srtN ((plcs k l).map Prod.fst))
def filQ(l:List ObV):List (Nat×Nat):=filK 9 l
theorem q8V(k:Nat)(l:List ObV):(filK k l).map Prod.fst=srtN ((plcs k l).map Prod.fst):=z0M _ _
theorem j3A(l:List ObV):(filQ l).map Prod.fst=srtN ((plcs 9 l).map Prod.fst):=z0M _ _
theorem j3z(k:Nat)(l:List ObV):(filK k l).length=l.length:=by
 have:=congrArg List.length (q8V k l);rw[q1R,Zbd,Zbd,q87]at this;exact this
theorem z8c(l:List ObV):(filQ l).length=l.length:=j3z 9 l
theorem z2p(k:Nat)(z:List UInt8):q7x (10::(sxT++([10]++(Lib.decDigits k++z)))):=by
 refine j2A (c:=115) (t:=[116,97,114,116,120,114,101,102]++([10]++(Lib.decDigits k++z))) rfl ⟨by decide,by decide⟩ ?_;have e:sxT++([10]++(Lib.decDigits k++z))=115::([116,97,114,116,120,114,101,102]++([10]++(Lib.decDigits k++z))):=rfl;rw[e,q1H,if_pos (by decide)];simp
theorem z1z{s:List UInt8}{l:List ObV}{tl:Val}(h:q15 s l tl):rise (srtN ((plcs s.length l).map Prod.fst)):=by
 obtain⟨h1,h2,h3,h4,h5⟩:=h;exact z2j (by rw[q13];exact q86 h2 h3)
theorem z1y{s:List UInt8}{l:List ObV}{tl:Val}(h:q15 s l tl):∀n∈srtN ((plcs s.length l).map Prod.fst),1≤n∧n≤60∧∃w,lkN (plcs s.length l) n=some w∧w<10000000000:=fun m hm=>by
 have a1:=(z1x s l tl).1;have hle:=a1.le;obtain⟨h1,h2,h3,h4,h5⟩:=h;have hm1:=(q1S _).subset hm;rw[q13]at hm1;obtain⟨o,ho,rfl⟩:=Zap.1 hm1;have hok:=h2 o ho;obtain⟨w,hw⟩:=q59 (n:=o.n.toNat) (ps:=plcs s.length l) (by rw[q13];exact Zap.2 ⟨o,ho,rfl⟩);obtain⟨_,_,hw2⟩:=q88 (z1Q hw);have:=hok.1;have:=hok.2.1;rw[Zad]at hle;exact⟨by omega,by omega,w,hw,by simp only at hw2;omega⟩
theorem z33{s:List UInt8}{l:List ObV}{tl:Val}(h:q15 s l tl):(srtN ((plcs s.length l).map Prod.fst)).length≤60:=by
 rw[q1R,Zbd,q87];exact h.1
theorem j1s(l:List ObV)(tl:Val)(z:List UInt8):q4q (layT hdrT l tl++z) [37,80,68,70,45]=true:=by
 have e:layT hdrT l tl++z=[37,80,68,70,45]++([49,46,52,10]++(q0M l++(tabT (plcs hdrT.length l)++trlT++q0F tl++([10]++sxT++[10])++Lib.decDigits (hdrT++q0M l).length++eofT))++z):=by
  rw[layT,hdrT];simp
 rw[e,q4q];simp
theorem j5F:∀c∈eofT,c≠115:=by decide
theorem z5B{l:List ObV}{n:Int}(h:q15 hdrT l (q0T n)):
  q0y Tryz.prog 8 [.str (layT hdrT l (q0T n))] (fun x=>x=.tup [filD (layT hdrT l (q0T n)) (filQ l) (q0T n),.nil]):=by
 obtain⟨a1,a2⟩:=z1x hdrT l (q0T n);have hp:=j1s l (q0T n) [];rw[Zco]at hp;exact z9v (c:=10) (r:=sxT++([10]++(Lib.decDigits (hdrT++q0M l).length++eofT))) hp a2 (Or.inl (by decide)) j5F a1 h.2.2.2.2 (z1z h) (z1y h) (z33 h) h.2.2.2.1 rfl (Or.inl (by decide)) (z2p _ _) (by simp[q0T,Val.f]) rfl
theorem z5A{s:List UInt8}{l:List ObV}{tl:Val}(h:q15 s l tl){i:Nat}{o:ObV}(ho:l[i]?=some o):
  ∃k z,lkN (filK s.length l) o.n.toNat=some k∧At (layT s l tl) k (q4K o++z):=by
 obtain⟨k,z,h1,h2⟩:=z8o h ho;refine⟨k,z,z7i h1 ?_,h2⟩;refine(q1S _).symm.subset ?_;rw[q13];exact Zap.2 ⟨o,Zae ho,rfl⟩
/-! ### An object stands in a file -/
def flgV:Val:=.mk 1 0 [] [] []
def flgO:ObV:=⟨2,flgV,false,[]⟩
theorem j3B:q15 hdrT [flgO] (q0T 2):=by
 have hok:flgO.ok:=⟨by decide,by decide,by kernel_rfl,fun h=>(by cases h),fun _=>rfl⟩;have hft:q2i (q0T 2)=0:=by kernel_rfl
 refine⟨by simp,fun o ho=>by rw[Zbe.1 ho];exact hok,by simp,hft,?_⟩;have hpl:(plcs hdrT.length [flgO]).length=1:=q87 _ _;have hb:(q4K flgO).length≤40:=by
  have h1:=q2A (n:=flgO.n.toNat) (by decide);have h2:(q0F flgO.val).length≤5:=by
   have e:flgO.val=.mk 1 0 [] [] []:=rfl;rw[e];simp[q0F]
  have e:(if flgO.st=true then strT++flgO.data++estT else[])=[]:=rfl;rw[q4K,e];simp only[Zad,Zaf,Zag,eobT];omega
 have hbs:q0M [flgO]=q4K flgO:=by simp[q0M]
 have htab:=z88 (ps:=plcs hdrT.length [flgO]) (by omega) (fun p hp=>by
  obtain⟨⟨o,q1,q2⟩,q3,q4⟩:=q88 hp;rw[hbs]at q4;rw[Zbe.1 q1]at q2;have e:flgO.n.toNat=2:=rfl;have e2:hdrT.length=9:=rfl;exact⟨by omega,by omega⟩)
 have htx:(q0F (q0T 2)).length≤6000:=by
  rw[q8U]at hft;have h1:=q7a (q0T 2) hft.2;have h2:(ptV (q0T 2)).1≤3:=by decide
  omega
 have hd:=q2A (n:=(hdrT++q0M [flgO]).length) (by rw[hbs,Zad];have e2:hdrT.length=9:=rfl;omega);rw[layT,hbs]at *;simp only[Zad,Zaf,Zag,hdrT,trlT,sxT,eofT]at *;omega
def q3h:q0l:=
 .seq (.reg [Qx 0 KF]) (.seq (.reg [Q 6 (.bld [(0,1),(1,1),(2,1),(3,1),(4,1)] [.int .i64 0,.int .i64 0,.str [],.list [],.list []] [false,false,false,true,true] [(0, 
 .k (.d (.int .i64 1)))]),Q 7 (.bld [(0,1),(1,5),(6,1),(7,1)] [.int .i64 0,.int .i64 0,.int .i64 0,.str [],.list [],.list [],.bool false,.str []] [] [(0,.k (.d 
 (.int .i64 2))),(1,.t 6)]),⟨some 8,.bsl 42 8 [.t 7],none⟩,⟨some 9,.call 7 [.t 8,.k (.d (.int .i64 2))],none⟩,Qc 5 9,Q 10 (.ext 0 (.t 5)),Q 11 (.ext 1 (.t 5)),Qa 1 
 10,Qa 2 11]) (.seq (.seq (.reg [Qc 12 2,Q 13 (.eqN 0 true (.t 12))]) (.cond (.t 13) (.seq (.reg [Qx 0 KF]) .ret) .skip)) (.seq (.reg [Qc 15 1,⟨some 16,.call 8 [.t 15],none⟩, 
 Qc 14 16,Q 17 (.ext 0 (.t 14)),Q 18 (.ext 1 (.t 14)),Qa 3 17,Qa 2 18]) (.seq (.seq (.reg [Qc 19 2,Q 20 (.eqN 0 true (.t 19)),Qc 21 20,Qd 22 3 21 false,Qg 23 (.eqN 1 false 
 (.t 22)) 21 false,Q 24 (.pick (.t 21) KT (.t 23))]) (.cond (.t 24) (.seq (.reg [Qx 0 KF]) .ret) .skip)) (.seq (.reg [Qc 26 3,⟨some 27,.prim .call [.k (.fn (.func 13) [] []), 
 .t 26,.k (.d (.int .i64 2))] [],none⟩,Qc 25 27,Q 28 (.ext 0 (.t 25)),Q 29 (.ext 1 (.t 25)),⟨some 4,.allo [.int .i64 0,.int .i64 0,.int .i64 0,.str [],.list [],.list 
 [],.bool false,.str []],none⟩,⟨none,.st 8 (.t 4) (.t 28),none⟩,Qa 2 29]) (.seq (.reg [Qc 30 2,Q 31 (.eqN 0 false (.t 30)),Qc 32 31,Qg 33 (.fa 1 (.t 4)) 32 true,Qg 34 
 (.fa 0 (.t 33)) 32 true,Qg 35 (.ld false 1 (.t 34)) 32 true,Qg 36 (.bin .eql (.t 35) (Ki 1)) 32 true,Q 37 (.pick (.t 32) (.t 36) KF),Qc 38 37,Qd 39 3 38 true,⟨some 40, 
 .prim .call [.k (.fn (.func 9) [] []),.t 39] [],some (38,true)⟩,Qg 41 (.len false (.t 40)) 38 true,Qg 42 (.bin .eql (.t 41) (Ki 1)) 38 true,Q 43 (.pick (.t 38) (.t 42) KF), 
 Qa 0 43]) .ret))))))
def q3l:List LRes:=[.tmp 0]
theorem q45:q0E Tryz.prog 5 44 q3h q3l:=⟨_,_,Tryz.func5,rfl,by kernel_rfl,by kernel_rfl,rfl⟩
theorem z7I:q0y Tryz.prog 5 [] (fun r=>r=.one (.bool true)):=by
 have hlt:∀o∈[flgO],o.lt:=fun o ho=>by rw[Zbe.1 ho];exact⟨by decide,by decide,⟨by decide,by decide⟩⟩
 have hb:=z2X [flgO] 2 hlt;have hlaid:=j3B;have hr:=z5B hlaid;obtain⟨k,z,p1,p2⟩:∃k z,lkN (filQ [flgO]) flgO.n.toNat=some k∧At (layT hdrT [flgO] (q0T 2)) k (q4K flgO++z):=z5A hlaid (i:=0) (o:=flgO) rfl;have hg:=z8i (tv:=q0T 2) p1 p2 (hlaid.2.1 flgO (by simp)) hlaid.2.2.2.2 (by simp[ObV.val,flgO,flgV,Val.f]) (fun h=>by cases h);have hn:=z0u (layT hdrT [flgO] (q0T 2)) (filQ [flgO]) (q0T 2) (by rw[j3A];exact(q1S _).nodup_iff.2 (by rw[q13];simp)) (by rw[z8c];simp)
 have hnl:(nsD (srtN ((filQ [flgO]).map Prod.fst))).length=1:=by rw[z1X,q1R,Zbd,z8c];rfl
 generalize layT hdrT [flgO] (q0T 2)=T at *;generalize filQ [flgO]=q at *;refine q45.call rfl ?_;simp only[go_sem,↓reduceIte,q3h,q3l];refine q0j.post hb (fun r hr2=>?_);rcases hr2 with⟨_,hno⟩|⟨_,rfl⟩
 ·exact absurd ⟨by decide,by decide,hlaid⟩ hno
 simp only[go_sem,↓reduceIte];simp only[filD,ObV.d]at hr hg hn;refine q0j.of hr ?_;simp only[go_sem,↓reduceIte];refine q0b.q0G ([]) ([]) rfl (hg.q4s (by kernel_rfl)) rfl rfl (by simp only[q1b,St.obj,aget,AObj.ren,AV.ren,AV.ren1,renL,q2u,renR,renQ,Zaw,Zax,and_true,and_self,Nat.reduceEqDiff,↓reduceIte,reduceCtorEq]) rfl rfl rfl ⟨rfl,rfl⟩ ?_;have hk:((⟨2,flgV,false,[]⟩:ObV).val.kind=1)=True:=eq_true (by rfl);simp only[go_sem,↓reduceIte,flgO,hk]
 refine q0b.q0G ([]) ([]) rfl (hn.q4s (by kernel_rfl)) rfl rfl (by simp only[q1b,St.obj,aget,AObj.ren,AV.ren,AV.ren1,renL,q2u,renR,renQ,Zaw,Zax,and_true,and_self,Nat.reduceEqDiff,↓reduceIte,reduceCtorEq]) rfl rfl rfl ⟨rfl,rfl⟩ ?_;simp only[go_sem,↓reduceIte,hnl]
theorem j6y:Tryz.prog.cellsOf 3=1:=by kernel_rfl
theorem j4V:Tryz.prog.cellsOf 9=1:=by kernel_rfl
theorem j6C:Tryz.prog.cellsOf 37=1:=by kernel_rfl
theorem j6A:Tryz.prog.cellsOf 38=1:=by kernel_rfl
theorem j4W:Tryz.prog.cellsOf 40=5:=by kernel_rfl
theorem z5b:Tryz.prog.cellsOf 51=6:=by kernel_rfl
theorem j5P(v:Val):mkD v.d.cells=v.d:=by rw[Val.d_eq];rfl
theorem j5O(x:Fld):mkD x.d.cells=x.d:=by rw[Fld.d_eq];rfl
set_option maxRecDepth 100000 in
theorem j7l:∀k:Nat,(∀ds,OfT Tryz.prog k 40 ds→∃v:Val,ds=v.d.cells)∧(∀ds,OfT Tryz.prog k 51 ds→∃x:Fld,ds=x.d.cells):=by
 intro k;induction k using Nat.strongRecOn with
 |_ k ih=>
  cases k with
  |zero=>exact⟨fun _ h=>h.elim,fun _ h=>h.elim⟩
  |succ k=>
   refine⟨fun ds h=>?_,fun ds h=>?_⟩
   ·unfold OfT at h;rw[Tryz.underlying40]at h;obtain⟨h1,h2⟩:=h;rw[j4W]at h1;match ds,h1 with
    |[a,b,c,d,e],_=>
     have f0:OfT Tryz.prog k 3 (([a,b,c,d,e].drop 0).take (Tryz.prog.cellsOf 3)):=h2 0 _ rfl;have f1:OfT Tryz.prog k 3 (([a,b,c,d,e].drop 1).take (Tryz.prog.cellsOf 3)):=h2 1 _ rfl;have f2:OfT Tryz.prog k 9 (([a,b,c,d,e].drop 2).take (Tryz.prog.cellsOf 9)):=h2 2 _ rfl;have f3:OfT Tryz.prog k 37 (([a,b,c,d,e].drop 3).take (Tryz.prog.cellsOf 37)):=h2 3 _ rfl;have f4:OfT Tryz.prog k 38 (([a,b,c,d,e].drop 4).take (Tryz.prog.cellsOf 38)):=h2 4 _ rfl
     simp only[j6y,j4V,j6C,j6A,Zcm,List.drop_succ_cons,Zch,Zcf]at f0 f1 f2 f3 f4;obtain⟨n0,e0,_⟩:=f0.int Tryz.underlying3;obtain⟨n1,e1,_⟩:=f1.int Tryz.underlying3;obtain⟨s,e2,_⟩:=f2.string Tryz.underlying9;obtain⟨l,m,hm,e3,_,hl⟩:=f3.slice Tryz.underlying37;obtain⟨f,m',hm',e4,_,hf⟩:=f4.slice Tryz.underlying38;obtain⟨ls,rfl⟩:=q9t (g:=Val.d) (l:=l) fun x hx=>by
      obtain⟨cs,q1,q2⟩:=hl x hx;obtain⟨v,rfl⟩:=(ih m (by omega)).1 cs q2;exact⟨v,by rw[q1,j5P]⟩
     obtain⟨fs,rfl⟩:=q9t (g:=Fld.d) (l:=f) fun x hx=>by
      obtain⟨cs,q1,q2⟩:=hf x hx;obtain⟨y,rfl⟩:=(ih m' (by omega)).2 cs q2;exact⟨y,by rw[q1,j5O]⟩
     simp only[Zcx,and_true]at e0 e1 e2 e3 e4;refine⟨.mk n0 n1 s ls fs,?_⟩;rw[mk_d,e0,e1,e2,e3,e4,z03,q2I];rfl
   ·unfold OfT at h;rw[Tryz.underlying51]at h;obtain⟨h1,h2⟩:=h;rw[z5b]at h1;match ds,h1 with
    |[a,b,c,d,e,f],_=>
     have f0:OfT Tryz.prog k 9 (([a,b,c,d,e,f].drop 0).take (Tryz.prog.cellsOf 9)):=h2 0 _ rfl;have f1:OfT Tryz.prog k 40 (([a,b,c,d,e,f].drop 1).take (Tryz.prog.cellsOf 40)):=h2 1 _ rfl;simp only[j4V,j4W,Zcm,List.drop_succ_cons,Zch,Zcf]at f0 f1;obtain⟨s,e0,_⟩:=f0.string Tryz.underlying9;obtain⟨v,e1⟩:=(ih k (by omega)).1 _ f1;simp only[Zcx,and_true]at e0;refine⟨.mk s v,?_⟩;rw[e0,e1];rfl
theorem wf64{n:Int}(h:(Lit.int .i64 n).wf=true): -9223372036854775808≤n∧n≤9223372036854775807:=by
 have:=wf_i64 h;omega
theorem j5p:Tryz.prog.cellsOf 42=8:=by kernel_rfl
theorem j6z:Tryz.prog.cellsOf 4=1:=by kernel_rfl
theorem j5q:Tryz.prog.cellsOf 40=5:=by kernel_rfl
theorem j6D:Tryz.prog.cellsOf 9=1:=by kernel_rfl
theorem j6B:Tryz.prog.cellsOf 3=1:=by kernel_rfl
set_option maxRecDepth 100000 in
theorem j6U{k:Nat}{ds:List D}(h:OfT Tryz.prog k 42 ds):∃o:ObV,mkD ds=o.d∧i64 o.n:=by
 cases k with
 |zero=>exact h.elim
 |succ k=>
  unfold OfT at h;rw[Tryz.underlying42]at h;obtain⟨h1,h2⟩:=h;rw[j5p]at h1;match ds,h1 with
  |[a,b,c,d,e,f,g,u],_=>
   have f0:OfT Tryz.prog k 3 (([a,b,c,d,e,f,g,u].drop 0).take (Tryz.prog.cellsOf 3)):=h2 0 _ rfl;have f1:OfT Tryz.prog k 40 (([a,b,c,d,e,f,g,u].drop 1).take (Tryz.prog.cellsOf 40)):=h2 1 _ rfl;have f2:OfT Tryz.prog k 4 (([a,b,c,d,e,f,g,u].drop 6).take (Tryz.prog.cellsOf 4)):=h2 2 _ rfl;have f3:OfT Tryz.prog k 9 (([a,b,c,d,e,f,g,u].drop 7).take (Tryz.prog.cellsOf 9)):=h2 3 _ rfl;simp only[j6B,j5q,j6z,j6D,Zcm,List.drop_succ_cons,Zch,Zcf]at f0 f1 f2 f3
   obtain⟨n,e0,hn⟩:=f0.int Tryz.underlying3;obtain⟨v,e1⟩:=(j7l k).1 _ f1;obtain⟨st,e2⟩:=f2.bool Tryz.underlying4;obtain⟨s,e3,_⟩:=f3.string Tryz.underlying9;rw[Val.d_eq v]at e1;simp only[D.cells,Zcx,and_true]at e0 e1 e2 e3;obtain⟨q1,q2,q3,q4,q5⟩:=e1;refine⟨⟨n,v,st,s⟩,?_,?_⟩
   ·rw[e0,q1,q2,q3,q4,q5,e2,e3];rfl
   ·have:=wf64 hn;exact this
theorem j12{k:Nat}{ds:List D}(h:OfT Tryz.prog k 22 ds):∃l:List ObV,ds=[.list (q2t l)]∧∀o∈l,i64 o.n:=by
 obtain⟨l,m,hm,e1,_,hl⟩:=h.slice Tryz.underlying22;obtain⟨ys,rfl⟩:=q9t (g:=fun y:{ o:ObV // i64 o.n }=>y.1.d) (l:=l) fun x hx=>by
  obtain⟨cs,q1,q2⟩:=hl x hx;obtain⟨o,q3,q4⟩:=j6U q2;exact⟨⟨o,q4⟩,by rw[q1,q3]⟩
 refine⟨ys.map (·.1),by rw[e1];simp[Function.comp_def,q2t],fun o ho=>?_⟩;obtain⟨y,_,rfl⟩:=Zap.1 ho;exact y.2
mutual
theorem j0x:∀v:Val,awV v≤bkD v.d
 |.mk k n s l f=>by
  have h1:=j0v l;have h2:=j0u f;rw[mk_d];simp only[awV,bkD,bkL];omega
theorem j0v:∀l:List Val,awL l≤bkL (q0u l)
 |[]=>by simp[awL]
 |v::r=>by
  have h1:=j0x v;have h2:=j0v r;simp only[awL,q0u,bkL];omega
theorem j0u:∀l:List Fld,awF l≤bkL (q0k l)
 |[]=>by simp[awF]
 |.mk nm v::r=>by
  have h1:=j0x v;have h2:=j0u r;simp only[awF,q0k,bkL];have:nm.length+bkD v.d≤bkD (Fld.mk nm v).d:=by
   rw[Fld.d_eq,Val.d_eq v];simp only[Fld.name,Fld.v,bkD,bkL,D.cells];omega
  omega
end
theorem j0A{x:D}:∀{l:List D},x∈l→bkD x≤bkL l
 |y::r,h=>by
  simp only[bkL];rcases Zar.1 h with rfl|h
  ·omega
  ·have:=j0A h;omega
theorem j6w(o:ObV):bkD o.v.d≤bkD o.d∧o.data.length+1≤bkD o.d:=by
 rw[Val.d_eq o.v];simp only[ObV.d,bkD,bkL];omega
theorem j0z:∀l:List ObV,l.length≤bkL (q2t l)
 |[]=>by simp
 |o::r=>by
  have h1:=j0z r;have h2:=j6w o;have e:bkL (q2t (o::r))=bkD o.d+bkL (q2t r):=by simp only[q2t,Zbf,bkL]
  rw[e];simp only[Zaf];omega
theorem z5Y{l:List ObV}(h:bkD (.list (q2t l))≤1048576)(hn:∀o∈l,i64 o.n):l.length≤1048576∧∀o∈l,o.v.sm 1048576=true∧awV o.v≤1048576∧o.data.length≤1048576∧i64 o.n:=by
 simp only[bkD]at h;have hlen:=j0z l;refine⟨by omega,fun o ho=>?_⟩;have h1:=j0A (x:=o.d) (l:=q2t l) (Zcs ho);obtain⟨h2,h3⟩:=j6w o;have h4:=j0x o.v;exact⟨z6H _ _ (by omega),by omega,by omega,hn o ho⟩
theorem z61{s:List UInt8}{k k0 k2:Nat}{ps ps2:List (Nat×Nat)}{K K2:List Nat}{v v2:Val}{c c2:UInt8}{r r2 p:List UInt8}(hpre:q4q s [37,80,68,70,45]=true)
  (h0:At s k0 (sxT++([10]++(Lib.decDigits k++p)))) (hp0:dl p) (hp1:∀c∈p,c≠115) (hs:s.length≤60000)
  (h:At s k (xrT++(secT (entT ps) K++(trwT++([10]++(q0F v++c::r))))))
  (hr:rise K) (hK:∀n∈K,1≤n∧n≤60∧∃w,lkN ps n=some w∧w<10000000000) (hl:K.length≤60) (hv:q2i v=0) (hk6:v.kind=6) (hp:dl (c::r)) (hq:q7x (c::r))
  (hf:v.f.length≤1048576) (hg:getV prvN v.f=some (lenV k2)) (hne:k2≠k)
  (h2:At s k2 (xrT++(secT (entT ps2) K2++(trwT++([10]++(q0F v2++c2::r2))))))
  (hr2:rise K2) (hK2:∀n∈K2,1≤n∧n≤60∧∃w,lkN ps2 n=some w∧w<10000000000) (hl2:K2.length≤60) (hv2:q2i v2=0) (hk62:v2.kind=6) (hp2:dl (c2::r2)) (hq2:q7x (c2::r2))
  (hf2:v2.f.length≤1048576) (hg2:getV prvN v2.f=none):
  q0y Tryz.prog 8 [.str s] (fun x=>x=.tup [filD s (mrgN (entN ps K) ps2 K2) v,.nil]):=by
 have hkl:=h.le;have hkl2:=h2.le;have hst:=q9Z h0 (q4j k) (q6o k) (q2A (by omega)).2 hp0 hp1 (by omega);rw[q8O]at hst;have hct:=z2b [] k (by simp) (by simp);have hct2:=z2b [k] k2 (by simp) (by simpa using hne);have hta:=q90 [] none h hs hr hK hl hv hk6 hp hq;rw[z8y,show ksN []=[]from rfl,show vsN []=[]from rfl]at hta;have hta2:=q90 (entN ps K) (some v) h2 hs hr2 hK2 hl2 hv2 hk62 hp2 hq2;have hge:=q5I v prvN hf;have hge2:=q5I v2 prvN hf2
 have e0:getR none=.tup [.agg [.int .i64 0,.int .i64 0,.str [],.list [],.list []],.bool false]:=rfl;have e1:getR (some (lenV k2))=.tup [.agg [.int .i64 2,.int .i64 ((k2*1000:Nat):Int),.str [],.list [],.list []],.bool true]:=rfl;rw[hg,e1,Val.d_eq v]at hge;rw[hg2,e0,Val.d_eq v2]at hge2;rw[Val.d_eq v]at hta;rw[Val.d_eq v2]at hta2;simp only[filC,tlC]at hta hta2;have hpr:=q5r s [37,80,68,70,45];rw[hpre]at hpr;have z1:(60000<(s.length:Int))=False:=eq_false (by omega)
 have z3:(((k2*1000:Nat):Int)<0)=False:=eq_false (by omega);have z4:(((k2*1000:Nat):Int).tmod 1000=0)=True:=eq_true (by rw[Zac];exact Int.mul_tmod_left _ _);have z5:((k2*1000:Nat):Int).tdiv 1000=(k2:Int):=by rw[Zac];exact Int.mul_tdiv_cancel _ (by decide)
 refine q7H.call rfl ?_;simp only[go_sem,↓reduceIte,q7S,q7X,z1];refine q0j.of hpr ?_;simp only[go_sem,↓reduceIte];refine q0b.mkMap z1R ?_;simp only[go_sem,↓reduceIte];refine q14.bldX (out:=[.d (.str s),.mp (.l 21),.d (.int .i64 0),.d (.int .i64 0),.d (.str []),.ns,.ns]) rfl (by simp[AV.simple]) (fun j hj=>match j,hj with
  |5,_=>rfl
  |6,_=>rfl
  |0,h=>by cases h
  |1,h=>by cases h
  |2,h=>by cases h
  |3,h=>by cases h
  |4,h=>by cases h
  |(j+7),h=>by simp at h) ?_
 simp only[go_sem,↓reduceIte];refine q14.boxX rfl (by simp[mpX]) ?_;simp only[go_sem,↓reduceIte];refine q0j.of hst ?_;simp only[go_sem,↓reduceIte];refine q2L ?_;simp only[go_sem,↓reduceIte];refine q0j.of hct ?_;simp only[go_sem,↓reduceIte];refine q0b.q0G ([.l 23,.l 21]) ([]) rfl (hta) rfl rfl (by simp only[q1b,St.obj,aget,AObj.ren,AV.ren,AV.ren1,renL,q2u,renR,renQ,Zaw,Zax,and_true,and_self,Nat.reduceEqDiff,↓reduceIte,reduceCtorEq]) rfl rfl rfl ⟨rfl,rfl⟩ ?_;simp only[go_sem,↓reduceIte]
 refine q0j.of hge ?_;simp only[go_sem,↓reduceIte];simp(disch:=omega)only[go_sem,↓reduceIte,z3,z4,z5];refine q2L ?_;simp only[go_sem,↓reduceIte];refine q0j.of hct2 ?_;simp only[go_sem,↓reduceIte];refine q0b.q0G ([.l 23,.l 21]) ([]) rfl (hta2) rfl rfl (by simp only[q1b,St.obj,aget,AObj.ren,AV.ren,AV.ren1,renL,q2u,renR,renQ,Zaw,Zax,and_true,and_self,Nat.reduceEqDiff,↓reduceIte,reduceCtorEq]) rfl rfl rfl ⟨rfl,rfl⟩ ?_;simp only[go_sem,↓reduceIte];refine q0j.of hge2 ?_;simp only[go_sem,↓reduceIte]
 refine q14.ghost (q14.step rfl (fun _ _ _ h=>by cases h) rfl ?_);refine⟨_,Gh.trans (Gh.j3E (a:=21) rfl) (Gh.frzP (a:=23) (fs:=[.str s,mapN (mrgN (entN ps K) ps2 K2),.int .i64 v.kind,.int .i64 v.n,.str v.s,.list (q0u v.l),.list (q0k v.f)]) rfl),?_⟩;simp only[go_sem,↓reduceIte,St.frzM,St.frzP,amap,adel,AV.frzM,AV.frzP,filD]
def updV(n:Int)(k:Nat):Val:=.mk 6 0 [] [] [.mk prvN (lenV k),.mk rotN (.mk 7 n [] [] [])]
theorem j4J(n:Int)(k:Nat):q9X prvN (lenV k) (q0T n)=updV n k:=by kernel_rfl
theorem j4I(n:Int)(k:Nat):getV prvN (updV n k).f=some (lenV k):=by
 simp only[updV,Val.f,getV,Fld.name,Fld.v,if_true]
theorem j2Q(n:Int)(k:Nat):getV rotN (updV n k).f=some (.mk 7 n [] [] []):=by
 have:¬prvN=rotN:=by decide
 simp only[updV,Val.f,getV,Fld.name,Fld.v,if_true,if_neg this]
theorem At.ext{s t:List UInt8}{k:Nat}(h:At s k t)(z:List UInt8):At (s++z) k (t++z):=by
 obtain⟨p,rfl,rfl⟩:=h;exact⟨p,by rw[List.append_assoc],rfl⟩
theorem z34(s:List UInt8)(l:List ObV)(tl:Val):∃z,layT s l tl=s++z:=by
 refine⟨q0M l++(tabT (plcs s.length l)++trlT++q0F tl++([10]++sxT++[10])++Lib.decDigits (s++q0M l).length++eofT),?_⟩;rw[layT];simp only[List.append_assoc]
def q8r:q0l:=
 .seq (.reg [Qx 4 (.k (.d (.str []))),Qx 5 (.k (.d .nil))]) (.seq (.reg [Qc 12 0,⟨some 13,.call 8 [.t 12],none⟩,Qc 11 13,Q 14 (.ext 0 (.t 11)),Q 15 (.ext 1 (.t 11)),Qa 6 14, 
 Qa 7 15]) (.seq (.seq (.reg [Qc 16 7,Q 17 (.eqN 0 true (.t 16))]) (.cond (.t 17) (.seq (.reg [Qc 18 7,Qx 4 (.k (.d (.str []))),Qa 5 18]) .ret) .skip)) (.seq (.reg [Qc 20 0, 
 ⟨some 21,.call 17 [.t 20],none⟩,Qc 19 21,Q 22 (.ext 0 (.t 19)),Q 23 (.ext 1 (.t 19)),Qa 8 22,Qa 9 23]) (.seq (.reg [Qc 24 6,Q 25 (.nck (.t 24)),Q 26 (.fa 2 (.t 25)),Q 
 27 (.ld true 5 (.t 26)),Qc 28 8,Q 29 (.bin .mul (.t 28) (Ki 1000)),Q 30 (.bld [(0,1),(1,1),(2,1),(3,1),(4,1)] [.int .i64 0,.int .i64 0,.str [],.list [],.list []] 
 [false,false,false,true,true] [(0,.k (.d (.int .i64 2))),(1,.t 29)]),⟨some 31,.call 22 [.t 27,.k (.d (.str [80,114,101,118])),.t 30],none⟩,⟨some 10,.allo [.int 
 .i64 0,.int .i64 0,.str [],.list [],.list []],none⟩,⟨none,.st 5 (.t 10) (.t 31),none⟩]) (.seq (.reg [Qc 32 0,Qc 33 1,Q 34 (.ld true 5 (.t 10)),⟨some 35,.call 15 [.t 
 32,.t 33,.t 34],none⟩,Q 36 (.ext 0 (.t 35)),Q 37 (.ext 1 (.t 35)),Qa 4 36,Qa 5 37]) .ret)))))
def q8z:List LRes:=[.tmp 4,.tmp 5]
theorem z0B:q0E Tryz.prog 12 38 q8r q8z:=⟨_,_,Tryz.func12,rfl,by kernel_rfl,by kernel_rfl,rfl⟩
theorem z7P{l:List ObV}{n:Int}(h:q15 hdrT l (q0T n))(more:List ObV)(hm:∀o∈more,o.lt):
  q0y Tryz.prog 12 [.str (layT hdrT l (q0T n)),.list (q2t more)] (fun r=>((∃e:Nat,e≠0∧r=.tup [.str [],errD e])∧¬q15 (layT hdrT l (q0T n)) more (updV n (hdrT++q0M l).length))∨
   (q15 (layT hdrT l (q0T n)) more (updV n (hdrT++q0M l).length)∧r=.tup [.str (layT (layT hdrT l (q0T n)) more (updV n (hdrT++q0M l).length)),.nil])):=by
 have hrd:=z5B h;obtain⟨a1,a2⟩:=z1x hdrT l (q0T n);have hlen:=h.2.2.2.2;have hk:=a1.le;have hst:=q9Z a2 (q4j _) (q6o _) (q2A (by omega)).2 (show dl eofT from Or.inl (by decide)) j5F (by omega);rw[q8O]at hst;have hset:=z2d (q0T n) (lenV (hdrT++q0M l).length) prvN (by rfl) (by rfl);rw[j4J,Val.d_eq (q0T n),Val.d_eq (lenV _),Val.d_eq (updV _ _)]at hset;have hy:=z8p (layT hdrT l (q0T n)) more (updV n (hdrT++q0M l).length) (by omega) hm (by rfl);rw[Val.d_eq (updV _ _)]at hy
 generalize(hdrT++q0M l).length=k at *;generalize layT hdrT l (q0T n)=T at *;generalize filQ l=q at *;simp only[filD]at hrd;have e1:IntKind.i64.wrap ((k:Int)*1000)=((k*1000:Nat):Int):=by rw[IntWalk.i64_in]<;>omega
 refine z0B.call rfl ?_;simp only[go_sem,↓reduceIte,q8r,q8z];refine q0j.of hrd ?_;simp only[go_sem,↓reduceIte];refine q0j.of hst ?_;simp only[go_sem,↓reduceIte,e1];refine q0j.of hset ?_;simp only[go_sem,↓reduceIte];refine q0j.post hy (fun r hr=>?_);rcases hr with⟨⟨e,he,rfl⟩,hno⟩|⟨hok,rfl⟩
 ·simp only[go_sem,↓reduceIte];exact .inl ⟨⟨e,he,rfl⟩,hno⟩
 ·simp only[go_sem,↓reduceIte];exact .inr hok
def updQ(l:List ObV)(k:Nat)(m:List ObV):List (Nat×Nat):=mrgN (filK k m) (plcs 9 l) (srtN ((plcs 9 l).map Prod.fst))
theorem j4K{l m:List ObV}{n:Int}(h:q15 hdrT l (q0T n))(h2:q15 (layT hdrT l (q0T n)) m (updV n (hdrT++q0M l).length)):
  q0y Tryz.prog 8 [.str (layT (layT hdrT l (q0T n)) m (updV n (hdrT++q0M l).length))] (fun x=>x=.tup [filD (layT (layT hdrT l (q0T n)) m (updV n (hdrT++q0M l).length)) (updQ l (layT hdrT l (q0T n)).length m) (updV n (hdrT++q0M l).length),.nil]):=by
 obtain⟨a1,_⟩:=z1x hdrT l (q0T n);obtain⟨b1,b2⟩:=z1x (layT hdrT l (q0T n)) m (updV n (hdrT++q0M l).length);obtain⟨z,hz⟩:=z34 (layT hdrT l (q0T n)) m (updV n (hdrT++q0M l).length);have c1:=a1.ext z;have hp:=j1s l (q0T n) z;rw[←hz]at c1 hp
 have c2:At (layT (layT hdrT l (q0T n)) m (updV n (hdrT++q0M l).length)) (hdrT++q0M l).length (xrT++(secT (entT (plcs hdrT.length l)) (srtN ((plcs hdrT.length l).map Prod.fst))++(trwT++([10]++(q0F (q0T n)++10::(sxT++([10]++(Lib.decDigits (hdrT++q0M l).length++(eofT++z))))))))):=by
  simpa only[List.append_assoc,Zba]using c1
 have hne:(hdrT++q0M l).length≠(layT hdrT l (q0T n)++q0M m).length:=by
  have:=a1.len;have e:xrT.length=5:=rfl;intro hc;simp only[Zad,e]at this hc;omega
 exact z61 hp b2 (Or.inl (by decide)) j5F h2.2.2.2.2 b1 (z1z h2) (z1y h2) (z33 h2) h2.2.2.2.1 rfl (Or.inl (by decide)) (z2p _ _) (by simp[updV,Val.f]) (j4I _ _) hne
  c2 (z1z h) (z1y h) (z33 h) h.2.2.2.1 rfl (Or.inl (by decide)) (z2p _ _) (by simp[q0T,Val.f]) rfl
theorem j6h{l m:List ObV}{n:Int}(h2:q15 (layT hdrT l (q0T n)) m (updV n (hdrT++q0M l).length)){i:Nat}{o:ObV}(ho:m[i]?=some o):
  ∃k z,lkN (updQ l (layT hdrT l (q0T n)).length m) o.n.toNat=some k∧At (layT (layT hdrT l (q0T n)) m (updV n (hdrT++q0M l).length)) k (q4K o++z):=by
 obtain⟨k,z,q1,q2⟩:=z5A h2 ho;exact⟨k,z,z0R q1,q2⟩
theorem j1j{s:List UInt8}{m:List ObV}{tl:Val}{o:ObV}(h2:q15 s m tl)(hok:o.ok):(lkN (filK s.length m) o.n.toNat).isNone = !(m.any fun x=>decide (x.n=o.n)):=by
 cases hk:lkN (filK s.length m) o.n.toNat with
 |none=>
  have hn:=j1L hk;have:(m.any fun x=>decide (x.n=o.n))=false:=by
   rw[Zby];intro x hx e;have e:x.n=o.n:=of_decide_eq_true e;refine hn ?_;rw[q8V];refine(q1S _).symm.subset ?_;rw[q13];exact Zap.2 ⟨x,hx,by rw[e]⟩
  rw[this];rfl
 |some w=>
  have:(m.any fun x=>decide (x.n=o.n))=true:=by
   have hm:o.n.toNat∈(filK s.length m).map Prod.fst:=by
    refine Classical.byContradiction fun hc=>?_
    rw[z4i hc]at hk;cases hk
   rw[q8V]at hm;have hm:=(q1S _).subset hm;rw[q13]at hm;obtain⟨x,hx,e⟩:=Zap.1 hm;refine Zbr.2 ⟨x,hx,decide_eq_true ?_⟩;have:=(h2.2.1 x hx).1;have:=hok.1;omega
  rw[this];rfl
theorem j6i{l m:List ObV}{n:Int}(h:q15 hdrT l (q0T n))(h2:q15 (layT hdrT l (q0T n)) m (updV n (hdrT++q0M l).length)){i:Nat}{o:ObV}(ho:l[i]?=some o)
  (hno:(m.any fun x=>decide (x.n=o.n))=false):
  ∃k z,lkN (updQ l (layT hdrT l (q0T n)).length m) o.n.toNat=some k∧At (layT (layT hdrT l (q0T n)) m (updV n (hdrT++q0M l).length)) k (q4K o++z):=by
 have hm:=Zae ho;obtain⟨k,z,q1,q2⟩:=z8o h ho;obtain⟨y,hy⟩:=z34 (layT hdrT l (q0T n)) m (updV n (hdrT++q0M l).length);have hk:=j1j h2 (h.2.1 o hm);rw[hno]at hk;have hk:lkN (filK (layT hdrT l (q0T n)).length m) o.n.toNat=none:=by simpa using hk
 refine⟨k,z++y,?_,?_⟩
 ·rw[updQ,mrgN,z7h (j1L hk)];refine z7i q1 (Zcg.2 ⟨?_,by rw[hk];rfl⟩);refine(q1S _).symm.subset ?_;rw[q13];exact Zap.2 ⟨o,hm,rfl⟩
 ·have:=q2.ext y;rw[hy,←List.append_assoc];exact this
def cntU(m:List ObV)(l:List ObV):Nat:=m.length+(l.filter fun o => !(m.any fun x=>decide (x.n=o.n))).length
theorem j2R(l:List ObV)(k:Nat)(m:List ObV):(updQ l k m).map Prod.fst=srtN ((plcs k m).map Prod.fst)++newN (filK k m) (srtN ((plcs 9 l).map Prod.fst)):=by
 rw[updQ,mrgN,List.map_append,z0M,q8V]
theorem j2T{l m:List ObV}{n:Int}{s:List UInt8}{tl:Val}(h:q15 hdrT l (q0T n))(h2:q15 s m tl):((updQ l s.length m).map Prod.fst).Nodup:=by
 have d1:((plcs 9 l).map Prod.fst).Nodup:=by rw[q13];exact q86 h.2.1 h.2.2.1
 have d2:((plcs s.length m).map Prod.fst).Nodup:=by rw[q13];exact q86 h2.2.1 h2.2.2.1
 rw[j2R,List.nodup_append];refine⟨(q1S _).nodup_iff.2 d2,((q1S _).nodup_iff.2 d1).filter _,fun a ha b hb e=>?_⟩;subst e;have hb:=(Zcg.1 hb).2;rw[←q8V]at ha;obtain⟨w,hw⟩:=q59 ha;rw[hw]at hb;cases hb
theorem j2S{l m:List ObV}{n:Int}{s:List UInt8}{tl:Val}(h:q15 hdrT l (q0T n))(h2:q15 s m tl):(updQ l s.length m).length=cntU m l:=by
 have:=congrArg List.length (j2R l s.length m);rw[Zbd]at this;rw[this,Zad,q1R,Zbd,q87,cntU,newN];congr 1
 rw[((q1S ((plcs 9 l).map Prod.fst)).filter _).length_eq,q13,List.filter_map,Zbd];congr 1
 exact List.filter_congr fun o ho=>by
  rw[Function.comp,j1j h2 (h.2.1 o ho)]
def q2M:q0l:=
 .seq (.reg [Qx 6 KF]) (.seq (.reg [⟨some 20,.call 5 [],none⟩,Qa 7 20]) (.seq (.seq (.reg [Qc 21 7,Q 22 (.not (.t 21))]) (.cond (.t 22) (.seq (.reg [Qx 6 KF]) .ret) .skip)) 
 (.seq (.seq (.reg [Qc 23 0,⟨some 24,.call 6 [.t 23],none⟩,Q 25 (.not (.t 24)),Qc 26 25,Qd 27 1 26 false,⟨some 28,.call 6 [.t 27],some (26,false)⟩,Qg 29 (.not (.t 28)) 
 26 false,Q 30 (.pick (.t 26) KT (.t 29))]) (.cond (.t 30) (.seq (.reg [Qx 6 KT]) .ret) .skip)) (.seq (.reg [Qc 32 0,Qc 33 2,⟨some 34,.call 7 [.t 32,.t 33],none⟩,Qc 31 34, 
 Q 35 (.ext 0 (.t 31)),Q 36 (.ext 1 (.t 31)),Qa 8 35,Qa 9 36]) (.seq (.seq (.reg [Qc 37 9,Q 38 (.eqN 0 true (.t 37))]) (.cond (.t 38) (.seq (.reg [Qx 6 KT]) .ret) .skip)) 
 (.seq (.reg [Qc 40 8,Qc 41 1,⟨some 42,.call 12 [.t 40,.t 41],none⟩,Qc 39 42,Q 43 (.ext 0 (.t 39)),Q 44 (.ext 1 (.t 39)),Qa 10 43,Qa 9 44]) (.seq (.seq (.reg [Qc 45 9,Q 
 46 (.eqN 0 true (.t 45))]) (.cond (.t 46) (.seq (.reg [Qc 47 10,Q 48 (.bin .eql (.t 47) (.k (.d (.str [])))),Qa 6 48]) .ret) .skip)) (.seq (.reg [Qc 50 10,⟨some 51,.call 8 
 [.t 50],none⟩,Qc 49 51,Q 52 (.ext 0 (.t 49)),Q 53 (.ext 1 (.t 49)),Qa 11 52,Qa 9 53]) (.seq (.seq (.reg [Qc 54 9,Q 55 (.eqN 0 true (.t 54)),Qc 56 55,Qd 57 10 56 false, 
 Qg 58 (.len true (.t 57)) 56 false,Qd 59 8 56 false,Qg 60 (.len true (.t 59)) 56 false,Qg 61 (.bin .lss (.t 58) (.t 60)) 56 false,Q 62 (.pick (.t 56) KT (.t 61)),Qc 63 62, 
 Qd 64 10 63 false,Qd 65 8 63 false,Qg 66 (.len true (.t 65)) 63 false,Qg 67 (.subS (.t 64) none (some (.t 66))) 63 false,Qd 68 8 63 false,Qg 69 (.bin .neq (.t 67) (.t 68)) 
 63 false,Q 70 (.pick (.t 63) KT (.t 69))]) (.cond (.t 70) (.seq (.reg [Qx 6 KF]) .ret) .skip)) (.seq (.reg [Qc 71 1,Q 72 (.len false (.t 71)),Qa 12 72]) (.seq (.seq (.reg [Qx 
 13 (Ki 0)]) (.block 0 (.loop (.seq (.seq (.reg [Qc 73 13,Qc 74 1,Q 75 (.len false (.t 74)),Q 76 (.bin .lss (.t 73) (.t 75))]) (.cond (.t 76) .skip (.exit 0))) (.seq (.block 1 
 (.seq (.reg [Qc 79 11,Qc 80 1,Qc 81 13,Q 82 (.ia 8 (.t 80) (.t 81)),Q 83 (.ld true 8 (.t 82)),⟨some 84,.prim .call [.k (.fn (.func 11) [] []),.t 79,.t 83] [],none⟩,Qa 
 14 84]) (.seq (.reg [Qc 85 14,Q 86 (.not (.t 85))]) (.cond (.t 86) (.seq (.reg [Qx 6 KF]) .ret) .skip)))) (.reg [Qc 77 13,Q 78 (.bin .add (.t 77) (Ki 1)),Qa 13 78])))))) (.seq 
 (.seq (.reg [Qx 15 (Ki 0)]) (.block 2 (.loop (.seq (.seq (.reg [Qc 87 15,Qc 88 0,Q 89 (.len false (.t 88)),Q 90 (.bin .lss (.t 87) (.t 89))]) (.cond (.t 90) .skip (.exit 2))) 
 (.seq (.block 3 (.seq (.reg [Qx 16 KF]) (.seq (.seq (.reg [Qx 17 (Ki 0)]) (.block 4 (.loop (.seq (.seq (.reg [Qc 93 17,Qc 94 1,Q 95 (.len false (.t 94)),Q 96 (.bin .lss (.t 
 93) (.t 95))]) (.cond (.t 96) .skip (.exit 4))) (.seq (.block 5 (.dreg [Qc 99 16,Qc 100 99,Qd 101 1 100 false,Qd 102 17 100 false,Qg 103 (.ia 8 (.t 101) (.t 102)) 100 false, 
 Qg 104 (.fa 0 (.t 103)) 100 false,Qg 105 (.ld false 1 (.t 104)) 100 false,Qd 106 0 100 false,Qd 107 15 100 false,Qg 108 (.ia 8 (.t 106) (.t 107)) 100 false,Qg 109 (.fa 0 (.t 
 108)) 100 false,Qg 110 (.ld false 1 (.t 109)) 100 false,Qg 111 (.bin .eql (.t 105) (.t 110)) 100 false,Q 112 (.pick (.t 100) KT (.t 111)),Qa 16 112])) (.reg [Qc 97 17,Q 98 
 (.bin .add (.t 97) (Ki 1)),Qa 17 98])))))) (.seq (.seq (.reg [Qc 113 16]) (.cond (.t 113) (.exit 3) .skip)) (.seq (.reg [Qc 114 12,Q 115 (.bin .add (.t 114) (Ki 1)),Qa 12 
 115]) (.seq (.reg [Qc 116 11,Qc 117 0,Qc 118 15,Q 119 (.ia 8 (.t 117) (.t 118)),Q 120 (.ld true 8 (.t 119)),⟨some 121,.prim .call [.k (.fn (.func 11) [] []),.t 116,.t 
 120] [],none⟩,Qa 18 121]) (.seq (.reg [Qc 122 18,Q 123 (.not (.t 122))]) (.cond (.t 123) (.seq (.reg [Qx 6 KF]) .ret) .skip)))))))) (.reg [Qc 91 15,Q 92 (.bin .add (.t 91) 
 (Ki 1)),Qa 15 92])))))) (.seq (.reg [Qc 125 11,⟨some 126,.prim .call [.k (.fn (.func 10) [] []),.t 125] [],none⟩,Qc 124 126,Q 127 (.ext 0 (.t 124)),Q 128 (.ext 1 (.t 
 124)),Qa 19 127,Qa 9 128]) (.seq (.reg [Qc 129 9,Q 130 (.eqN 0 false (.t 129)),Qc 131 130,Qd 132 19 131 true,Qd 133 2 131 true,Qg 134 (.bin .eql (.t 132) (.t 133)) 131 
 true,Q 135 (.pick (.t 131) (.t 134) KF),Qc 136 135,Qd 137 11 136 true,⟨some 138,.prim .call [.k (.fn (.func 9) [] []),.t 137] [],some (136,true)⟩,Qg 139 (.len false (.t 
 138)) 136 true,Qd 140 12 136 true,Qg 141 (.bin .eql (.t 139) (.t 140)) 136 true,Q 142 (.pick (.t 136) (.t 141) KF),Qa 6 142]) .ret))))))))))))))
def q2N:List LRes:=[.tmp 6]
theorem q4l:q0E Tryz.prog 4 143 q2M q2N:=⟨_,_,Tryz.func4,rfl,by kernel_rfl,by kernel_rfl,rfl⟩
theorem z2J(l m:List ObV)(n:Int)(hl:l.length≤1048576)(ho:∀o∈l,o.v.sm 1048576=true∧awV o.v≤1048576∧o.data.length≤1048576∧i64 o.n)
  (hm:m.length≤1048576) (hp:∀o∈m,o.v.sm 1048576=true∧awV o.v≤1048576∧o.data.length≤1048576∧i64 o.n):
  q0y Tryz.prog 4 [.list (q2t l),.list (q2t m),.int .i64 n] (fun r=>r=.one (.bool true)):=by
 have hlen:(q2t l).length=l.length:=Zbd ..;have hlem:(q2t m).length=m.length:=Zbd ..;have hli:=q7K l hl fun o h=>⟨(ho o h).1,(ho o h).2.1,(ho o h).2.2.1⟩
 have hmi:=q7K m hm fun o h=>⟨(hp o h).1,(hp o h).2.1,(hp o h).2.2.1⟩
 refine q4l.call rfl ?_;simp only[go_sem,↓reduceIte,q2M,q2N];refine q0j.of z7I ?_;simp only[go_sem,↓reduceIte];refine q0j.post hli (fun r hr=>?_);obtain⟨b,rfl,hb⟩:=hr;cases b with
 |false=>simp only[go_sem,↓reduceIte]
 |true=>
  obtain⟨hl70,hb⟩:=hb rfl;have hlt:∀o∈l,o.lt:=fun o h=>⟨(hb o h).2,by have:=(hb o h).1;omega,(ho o h).2.2.2⟩
  simp only[go_sem,↓reduceIte];refine q0j.post hmi (fun r hr=>?_);obtain⟨b2,rfl,hb2⟩:=hr;cases b2 with
  |false=>simp only[go_sem,↓reduceIte]
  |true=>
   obtain⟨hm70,hb2⟩:=hb2 rfl;have hmt:∀o∈m,o.lt:=fun o h=>⟨(hb2 o h).2,by have:=(hb2 o h).1;omega,(hp o h).2.2.2⟩
   simp only[go_sem,↓reduceIte];refine q0j.post (z2X l n hlt) (fun r hr=>?_);rcases hr with⟨⟨e,he,rfl⟩,_⟩|⟨⟨n1,n60,hlaid⟩,rfl⟩
   ·rw[q2P he];simp only[go_sem,↓reduceIte]
   ·simp only[go_sem,↓reduceIte];refine q0j.post (z7P hlaid m hmt) (fun r hr=>?_);rcases hr with⟨⟨e,he,rfl⟩,_⟩|⟨hupd,rfl⟩
    ·rw[q2P he];simp only[go_sem,↓reduceIte]
    ·have hrd:=j4K hlaid hupd;have hnum:=z0u (layT (layT hdrT l (q0T n)) m (updV n (hdrT++q0M l).length)) (updQ l (layT hdrT l (q0T n)).length m) (updV n (hdrT++q0M l).length) (j2T hlaid hupd) (by rw[j2S hlaid hupd,cntU];have:=List.length_filter_le (fun o => !(m.any fun x=>decide (x.n=o.n))) l;omega);have hnl:(nsD (srtN ((updQ l (layT hdrT l (q0T n)).length m).map Prod.fst))).length=cntU m l:=by rw[z1X,q1R,Zbd,j2S hlaid hupd]
     have hroot:=j2l (layT (layT hdrT l (q0T n)) m (updV n (hdrT++q0M l).length)) (updQ l (layT hdrT l (q0T n)).length m) (updV n (hdrT++q0M l).length) n (by simp[updV,Val.f]) (j2Q n _);have hnew:∀(i:Nat) (o:ObV),m[i]?=some o→q0y Tryz.prog 11 [filD (layT (layT hdrT l (q0T n)) m (updV n (hdrT++q0M l).length)) (updQ l (layT hdrT l (q0T n)).length m) (updV n (hdrT++q0M l).length),o.d] (fun r=>r=.one (.bool true)):=fun i o hi=>by
      obtain⟨k,z,p1,p2⟩:=j6h hupd hi;have hmm:=Zae hi;exact z5v p1 p2 (hupd.2.1 o hmm) hupd.2.2.2.2 (hmt o hmm) (fun h=>j1B (hupd.2.1 o hmm) h)
     have hold:∀(i:Nat) (o:ObV),l[i]?=some o→(m.any fun x=>decide (x.n=o.n))=false→q0y Tryz.prog 11 [filD (layT (layT hdrT l (q0T n)) m (updV n (hdrT++q0M l).length)) (updQ l (layT hdrT l (q0T n)).length m) (updV n (hdrT++q0M l).length),o.d] (fun r=>r=.one (.bool true)):=fun i o hi hno=>by
      obtain⟨k,z,p1,p2⟩:=j6i hlaid hupd hi hno;have hmm:=Zae hi;exact z5v p1 p2 (hlaid.2.1 o hmm) hupd.2.2.2.2 (hlt o hmm) (fun h=>j1B (hlaid.2.1 o hmm) h)
     obtain⟨z,hz⟩:=z34 (layT hdrT l (q0T n)) m (updV n (hdrT++q0M l).length);generalize layT (layT hdrT l (q0T n)) m (updV n (hdrT++q0M l).length)=T2 at *;generalize updQ l (layT hdrT l (q0T n)).length m=q at *;generalize updV n (hdrT++q0M l).length=tv at *;generalize layT hdrT l (q0T n)=T at *;have hTl:((T2.length:Int)<(T.length:Int))=False:=eq_false (by rw[hz,Zad];omega);have hcut:cutI T2 0 (T.length:Int)=T:=by
      have:=q56 T2 0 T.length;rw[hz]at this ⊢;simpa using this
     simp only[go_sem,↓reduceIte];simp only[filD]at hrd hnum hroot hnew hold;refine q0j.of hrd ?_;simp only[go_sem,↓reduceIte,hTl,hcut];refine⟨by rw[hz,Zad];omega,?_⟩;refine q0n (fun i:Nat=>⟨[(0,.d (.list (q2t l))),(1,.d (.list (q2t m))),(2,.d (.int .i64 n)),(11,.d (filD T2 q tv)),(12,.d (.int .i64 m.length)),(13,.d (.int .i64 i))],[],[]⟩) (fun i=>i≤m.length) (fun i=>m.length-i) 0 ?_ (Zbb _) ?_
     ·refine Weak.mk ?_ ?_ ?_<;>simp only[go_sem,↓reduceIte,Sub,Zab,Zac,filD,hlem]
     ·intro i hi;simp only[go_sem,↓reduceIte,hlem,filD];refine⟨fun q1=>?_,fun q1=>?_⟩
      ·obtain⟨o,hoi⟩:=get_some (l:=m) (i:=i) (by omega);have hg:getI (q2t m) (i:Int)=some o.d:=by rw[q0g,q2t,Zam,hoi];rfl
       have hh:=hnew i o hoi;rw[ObV.d]at hg hh;simp(disch:=omega)only[go_sem,↓reduceIte,hg];refine q0b.q0G ([]) ([]) rfl (hh.q4s (by kernel_rfl)) rfl rfl (by simp only[q1b,St.obj,aget,AObj.ren,AV.ren,AV.ren1,renL,q2u,renR,renQ,Zaw,Zax,and_true,and_self,Nat.reduceEqDiff,↓reduceIte,reduceCtorEq]) rfl rfl rfl ⟨rfl,rfl⟩ ?_;simp(disch:=omega)only[go_sem,↓reduceIte];refine⟨i+1,?_,by omega,by omega⟩;refine Weak.mk ?_ ?_ ?_<;>simp only[go_sem,↓reduceIte,Sub,Zab,Zac,filD]
      ·refine q0n (fun i:Nat=>⟨[(0,.d (.list (q2t l))),(1,.d (.list (q2t m))),(2,.d (.int .i64 n)),(11,.d (filD T2 q tv)),(12,.d (.int .i64 (cntU m (l.take i):Nat))),(15,.d (.int .i64 i))],[],[]⟩) (fun i=>i≤l.length) (fun i=>l.length-i) 0 ?_ (Zbb _) ?_
       ·refine Weak.mk ?_ ?_ ?_<;>simp only[go_sem,↓reduceIte,Sub,Zab,Zac,filD,cntU,Zcf,List.filter_nil,Zag,Zck]
       ·intro i hi;simp only[go_sem,↓reduceIte,hlen,filD];refine⟨fun q1=>?_,fun q1=>?_⟩
        ·obtain⟨o,hoi⟩:=get_some (l:=l) (i:=i) (by omega);have hg:getI (q2t l) (i:Int)=some o.d:=by rw[q0g,q2t,Zam,hoi];rfl
         have htk:l.take (i+1)=l.take i++[o]:=by rw[Zcd,hoi];rfl
         have hcl:=List.length_filter_le (fun o => !(m.any fun x=>decide (x.n=o.n))) (l.take i);rw[Zaq]at hcl;refine q0n (fun k:Nat=>⟨[(0,.d (.list (q2t l))),(1,.d (.list (q2t m))),(2,.d (.int .i64 n)),(11,.d (filD T2 q tv)),(12,.d (.int .i64 (cntU m (l.take i):Nat))),(15,.d (.int .i64 i)),(16,.d (.bool ((m.take k).any fun x=>decide (x.n=o.n)))),(17,.d (.int .i64 k))],[],[]⟩) (fun k=>k≤m.length) (fun k=>m.length-k) 0 ?_ (Zbb _) ?_
         ·refine Weak.mk ?_ ?_ ?_<;>simp only[go_sem,↓reduceIte,Sub,Zab,Zac,filD,Zcf,List.any_nil]
         ·intro k hk;simp only[go_sem,↓reduceIte,hlem,filD];refine⟨fun q2=>?_,fun q2=>?_⟩
          ·obtain⟨u,hu⟩:=get_some (l:=m) (i:=k) (by omega);have hgu:getI (q2t m) (k:Int)=some u.d:=by rw[q0g,q2t,Zam,hu];rfl
           have htu:(m.take (k+1)).any (fun x=>decide (x.n=o.n))=((m.take k).any (fun x=>decide (x.n=o.n)) || decide (u.n=o.n)):=by rw[Zcd,hu,List.any_append];simp
           rw[ObV.d]at hg hgu;cases hb16:(m.take k).any fun x=>decide (x.n=o.n)with
           |true=>
            rw[hb16,Bool.true_or]at htu;simp(disch:=omega)only[go_sem,↓reduceIte,hg,hgu];refine⟨k+1,?_,by omega,by omega⟩;refine Weak.mk ?_ ?_ ?_<;>simp only[go_sem,↓reduceIte,Sub,Zab,Zac,filD,htu]
           |false=>
            rw[hb16,Bool.false_or]at htu;simp(disch:=omega)only[go_sem,↓reduceIte,hg,hgu];refine⟨k+1,?_,by omega,by omega⟩;refine Weak.mk ?_ ?_ ?_<;>simp only[go_sem,↓reduceIte,Sub,Zab,Zac,filD,htu]
          ·rw[Zbs (by omega)];cases hbm:m.any fun x=>decide (x.n=o.n)with
           |true=>
            have hcu:cntU m (l.take (i+1))=cntU m (l.take i):=by
             rw[htk,cntU,cntU,List.filter_append];simp[hbm]
            simp(disch:=omega)only[go_sem,↓reduceIte];refine⟨i+1,?_,by omega,by omega⟩;refine Weak.mk ?_ ?_ ?_<;>simp only[go_sem,↓reduceIte,Sub,Zab,Zac,filD,hcu]
           |false=>
            have hcu:cntU m (l.take (i+1))=cntU m (l.take i)+1:=by
             rw[htk,cntU,cntU,List.filter_append];simp[hbm];omega
            have hcm:cntU m (l.take i)≤200:=by rw[cntU];omega
            have hh:=hold i o hoi hbm;rw[ObV.d]at hg hh;simp(disch:=omega)only[go_sem,↓reduceIte,hg];refine q0b.q0G ([]) ([]) rfl (hh.q4s (by kernel_rfl)) rfl rfl (by simp only[q1b,St.obj,aget,AObj.ren,AV.ren,AV.ren1,renL,q2u,renR,renQ,Zaw,Zax,and_true,and_self,Nat.reduceEqDiff,↓reduceIte,reduceCtorEq]) rfl rfl rfl ⟨rfl,rfl⟩ ?_;simp(disch:=omega)only[go_sem,↓reduceIte];refine⟨i+1,?_,by omega,by omega⟩
            refine Weak.mk ?_ ?_ ?_<;>simp only[go_sem,↓reduceIte,Sub,Zab,Zac,filD,hcu]
        ·rw[Zbs (by omega)];refine q0b.q0G ([]) ([]) rfl (hroot.q4s (by kernel_rfl)) rfl rfl (by simp only[q1b,St.obj,aget,AObj.ren,AV.ren,AV.ren1,renL,q2u,renR,renQ,Zaw,Zax,and_true,and_self,Nat.reduceEqDiff,↓reduceIte,reduceCtorEq]) rfl rfl rfl ⟨rfl,rfl⟩ ?_;simp only[go_sem,↓reduceIte]
         refine q0b.q0G ([]) ([]) rfl (hnum.q4s (by kernel_rfl)) rfl rfl (by simp only[q1b,St.obj,aget,AObj.ren,AV.ren,AV.ren1,renL,q2u,renR,renQ,Zaw,Zax,and_true,and_self,Nat.reduceEqDiff,↓reduceIte,reduceCtorEq]) rfl rfl rfl ⟨rfl,rfl⟩ ?_;simp only[go_sem,↓reduceIte,hnl]
end Go.Av.Tryz
