import Derived.Test.YtfkdhlghpjbbpaaGreatDoorWd
import Derived.Test.YtfkdhlghpjbbpaaGreatDoorWa
import Derived.Test.YtfkdhlghpjbbpaaGreatDoorWc
import Derived.Test.YtfkdhlghpjbbpaaGreatDoorAvJ
import Derived.Shelf.Strings.Search3
import Derived.Shelf.LaysM
import Derived.Test.YtfkdhlghpjbbpaaGreatDoorAvE
set_option linter.unusedSimpArgs false
set_option maxRecDepth 100000
set_option maxHeartbeats 8000000
namespace Go.Av.Tryz
open Go.Proofs
theorem j1Y{q:PT}(h:q.bad≠0):∀(l:List Sgn),q.gls l=q
 |[]=>rfl
 |a::l=>by rw[PT.gls,if_neg h];exact j1Y h l
theorem j6Q(q:PT):∀(a b:List Sgn),q.gls (a++b)=(q.gls a).gls b:=by
 intro a;induction a generalizing q with
 |nil=>intro b;rfl
 |cons x a ih=>intro b;simp only[Zbh,PT.gls];exact ih _ b
/-! ### What is saved, and whether text is on -/
/-! ### Text begins ahead of what hangs on its matrix -/
def j5J(l:List OpV):Prop:=∀o∈l,∀v∈o.args,q5K v=0
def q5p(l:List Span):Bool:=decide (l.length≤310)&&l.all fun x=>decide (x.tx.length≤60)
def q12:q0m:=
 .seq (.reg [Qx 2 KF]) (.seq (.seq (.reg [Qc 4 0,Q 5 (.len false (.t 4)),Q 6 (.bin .gtr (.t 5) (Ki 310))]) (.cond (.t 6) (.seq (.reg [Qx 2 KF]) .ret) .skip)) (.seq (.seq (.reg [Qx 
 3 (Ki 0)]) (.block 0 (.loop (.seq (.seq (.reg [Qc 7 3,Qc 8 0,Q 9 (.len false (.t 8)),Q 10 (.bin .lss (.t 7) (.t 9))]) (.cond (.t 10) .skip (.exit 0))) (.seq (.block 1 (.seq 
 (.reg [Qc 13 0,Qc 14 3,Q 15 (.ia 3 (.t 13) (.t 14)),Q 16 (.fa 2 (.t 15)),Q 17 (.ld false 1 (.t 16)),Q 18 (.len true (.t 17)),Q 19 (.bin .gtr (.t 18) (Ki 60))]) (.cond (.t 
 19) (.seq (.reg [Qx 2 KF]) .ret) .skip))) (.reg [Qc 11 3,Q 12 (.bin .add (.t 11) (Ki 1)),Qa 3 12])))))) (.seq (.reg [Qx 2 KT]) .ret)))
def q18:List LRes:=[.tmp 2]
theorem q5O:q0t Tryz.prog 39 20 q12 q18:=⟨_,_,Tryz.func39,rfl,by kernel_rfl,by kernel_rfl,rfl⟩
theorem z2R(l:List Span)(hl:l.length≤9223372036854775807):q0y Tryz.prog 39 [.list (q1s l)] (fun r=>r=.one (.bool (q5p l))):=by
 refine q5O.call rfl ?_;have hI:((q1s l).length:Int)=(l.length:Int):=by rw[q6h]
 unfold q5p
 by_cases h310:l.length≤310
 ·have z1:(310<(l.length:Int))=False:=eq_false (by omega);rw[decide_eq_true h310,Zci];generalize hR:(l.all fun x=>decide (x.tx.length≤60))=R;simp only[go_sem,↓reduceIte,q12,q18,hI,z1];refine q0j (fun i:Nat=>⟨[(0,.d (.list (q1s l))),(3,.d (.int .i64 i))],[],[]⟩)
   (fun i=>i≤l.length∧((l.drop i).all fun x=>decide (x.tx.length≤60))=R) (fun i=>l.length-i) 0 ?_ ?_ ?_
  ·refine q0h ?_ trivial;simp only[go_sem,↓reduceIte,Sub,Int.natCast_add,Int.natCast_mul]
  ·exact⟨Zar _,hR⟩
  ·rintro i ⟨hi,hF⟩;simp only[go_sem,↓reduceIte,hI];refine⟨fun hlt=>?_,fun hge=>?_⟩
   ·obtain⟨x,hx⟩:=get_some (l:=l) (i:=i) (by omega);rw[q07 hx,List.all_cons]at hF
    by_cases h60:x.tx.length≤60
    ·have z2:(60<(x.tx.length:Int))=False:=eq_false (by omega);rw[decide_eq_true h60,Zci]at hF;simp(disch:=omega)only[go_sem,↓reduceIte,q0d,q0w,hx,Span.d,z2];refine⟨i+1,?_,⟨by omega,hF⟩,by omega⟩;refine q0h ?_ trivial;simp only[go_sem,↓reduceIte,Sub,Int.natCast_add,Int.natCast_mul]
    ·have z2:(60<(x.tx.length:Int))=True:=eq_true (by omega);rw[decide_eq_false h60,Zdn]at hF;simp(disch:=omega)only[go_sem,↓reduceIte,q0d,q0w,hx,Span.d,z2];rw[←hF]
   ·have:l.drop i=[]:=Zah (by omega);rw[this]at hF;rw[←hF];rfl
 ·have z1:(310<(l.length:Int))=True:=eq_true (by omega);rw[decide_eq_false h310,Zdn];simp only[go_sem,↓reduceIte,q12,q18,hI,z1]
def okN(p:Int×List UInt8):Bool:=decide (p.2.length≤100)
def q6k(x:Fnt):Bool:=q5p x.cs&&(decide (x.ws.length≤400)&&(decide (x.ns.length≤300)&&(x.ns.all okN&&decide (z4k x.cs x.wide=0))))
def q9m(l:List (Int×List UInt8)):List (D×D):=l.map fun p=>(.int .i64 p.1,.str p.2)
theorem j3H(l:List (Int×List UInt8)):(q2A l).zip (q7U l)=q9m l:=by
 induction l with
 |nil=>rfl
 |cons p r ih=>simp only[q2A,q7U,q9m,Zai,List.zip_cons_cons]at ih ⊢;rw[ih]
theorem j2T(l:List (Int×List UInt8))(i:Nat){k v:D}(h:(q9m l)[i]?=some (k,v)):∃p,l[i]?=some p∧k=.int .i64 p.1∧v=.str p.2:=by
 unfold q9m at h;rw[Zae]at h;cases hp:l[i]? with
 |none=>rw[hp]at h;cases h
 |some p=>rw[hp]at h;cases h;exact⟨p,rfl,rfl,rfl⟩
theorem z26:∀(l:List (Int×List UInt8)) (i:Nat),(q9m l).eraseIdx i=q9m (l.eraseIdx i)
 |[],i=>by simp[q9m]
 |p::r,0=>by simp[q9m]
 |p::r,i+1=>by have:=z26 r i;simp only[q9m,Zai,List.eraseIdx_cons_succ]at this ⊢;rw[this]
theorem z6b{α:Type}(f:α→Bool):∀(l:List α) (i:Nat) (p:α),l[i]?=some p→f p=true→(l.eraseIdx i).all f=l.all f
 |[],i,p,h,_=>by simp at h
 |a::r,0,p,h,hf=>by simp at h;subst h;simp[hf]
 |a::r,i+1,p,h,hf=>by
  have:=z6b f r i p (by simpa using h) hf;simp only[List.eraseIdx_cons_succ,List.all_cons,this]
theorem j6p{α:Type}(f:α→Bool){l:List α}{i:Nat}{p:α}(h:l[i]?=some p)(hf:f p=false):l.all f=false:=by
 rw[Bool.eq_false_iff];intro h2;have:=Zaj.1 h2 p (Zaa h);rw[hf]at this;cases this
structure Fnt.wf(x:Fnt):Prop where
 cs:∀s∈x.cs,-9223372036854775808≤s.fr∧s.fr≤9223372036854775807 ∧ -9223372036854775808≤s.to∧s.to≤9223372036854775807
 cl:x.cs.length≤9223372036854775807
def q3S:q0m:=
 .seq (.reg [⟨some 1,.box (.t 0),none⟩,Qx 2 KF]) (.seq (.seq (.reg [Q 5 (.fa 4 (.t 1)),Q 6 (.ld false 1 (.t 5)),⟨some 7,.call 39 [.t 6],none⟩,Q 8 (.not (.t 7)),Qc 9 8,Qg 
 10 (.fa 1 (.t 1)) 9 false,Qg 11 (.ld false 1 (.t 10)) 9 false,⟨some 12,.prim (.bi .len [58]) [.t 11] [],some (9,false)⟩,Qg 13 (.bin .gtr (.t 12) (Ki 400)) 9 false,Q 14 
 (.pick (.t 9) KT (.t 13)),Qc 15 14,Qg 16 (.fa 3 (.t 1)) 15 false,Qg 17 (.ld false 1 (.t 16)) 15 false,⟨some 18,.prim (.bi .len [59]) [.t 17] [],some (15,false)⟩,Qg 19 
 (.bin .gtr (.t 18) (Ki 300)) 15 false,Q 20 (.pick (.t 15) KT (.t 19))]) (.cond (.t 20) (.seq (.reg [Qx 2 KF]) .ret) .skip)) (.seq (.seq (.reg [Q 21 (.fa 3 (.t 1)),Q 22 (.ld 
 false 1 (.t 21)),⟨some 23,.prim (.range 59) [.t 22] [],none⟩]) (.block 0 (.loop (.seq (.reg [⟨some 24,.prim (.next false 0) [.t 23] [],none⟩,Q 25 (.ext 0 (.t 24))]) (.seq 
 (.cond (.t 25) .skip (.exit 0)) (.block 1 (.seq (.reg [⟨some 26,.prim .entry [.t 23] [],none⟩,Q 27 (.ext 1 (.t 26)),Qa 4 27]) (.seq (.reg [Qc 28 4,Q 29 (.len true (.t 28)), 
 Q 30 (.bin .gtr (.t 29) (Ki 100))]) (.cond (.t 30) (.seq (.reg [Qx 2 KF]) .ret) .skip))))))))) (.seq (.reg [Q 31 (.fa 4 (.t 1)),Q 32 (.ld false 1 (.t 31)),Q 33 (.fa 0 (.t 1)), 
 Q 34 (.ld false 1 (.t 33)),⟨some 35,.call 40 [.t 32,.t 34],none⟩,Q 36 (.bin .eql (.t 35) (Ki 0)),Qa 2 36]) .ret)))
def q3U:List LRes:=[.tmp 2]
theorem q52:q0t Tryz.prog 25 37 q3S q3U:=⟨_,_,Tryz.func25,rfl,by kernel_rfl,by kernel_rfl,rfl⟩
theorem z3V(x:Fnt)(hx:x.wf):q0y Tryz.prog 25 [x.d] (fun r=>r=.one (.bool (q6k x))):=by
 refine q52.call rfl ?_;unfold q6k;have hwl:(q2A x.ws).length=x.ws.length:=by simp[q2A]
 have hnl:(q2A x.ns).length=x.ns.length:=by simp[q2A]
 simp only[go_sem,↓reduceIte,q3S,q3U,Fnt.d];refine q0i.of (z2R x.cs hx.cl) ?_;cases hls:q5p x.cs with
 |false=>
  simp only[go_sem,↓reduceIte]
 |true=>
  have hcs:∀s∈x.cs,s.wf:=fun s hs=>by
   obtain⟨a,b,c,d⟩:=hx.cs s hs;unfold q5p at hls;simp only[Zac,Zaj,decide_eq_true_eq]at hls;exact⟨a,b,c,d,by have:=hls.2 s hs;omega⟩
  simp only[go_sem,↓reduceIte];refine q0e.j54 rfl j0p ?_;rw[hwl]
  by_cases h400:x.ws.length≤400
  ·have z1:(400<(x.ws.length:Int))=False:=eq_false (by omega);rw[decide_eq_true h400];simp only[go_sem,↓reduceIte,z1];refine q0e.j54 rfl j2o ?_;rw[hnl]
   by_cases h300:x.ns.length≤300
   ·have z2:(300<(x.ns.length:Int))=False:=eq_false (by omega);rw[decide_eq_true h300];simp only[go_sem,↓reduceIte,z2];refine q0e.rangeMap rfl j2o ?_;rw[j3H];generalize hR:x.ns.all okN=R;simp only[go_sem,↓reduceIte];refine q0j (fun y:List (Int×List UInt8)×List (D×D)=>⟨[(1,.ptr (.l 1) 0),(23,.ptr (.l 23) 0)],
      [(1,.cells [.d (.bool x.wide),.d (.map (q2A x.ws) (q7Z x.ws)),.d (.int .i64 x.miss),.d (.map (q2A x.ns) (q7U x.ns)),.d (.list (q1s x.cs))]),(23,.miter (q9m y.1) y.2)],[]⟩)
     (fun y=>y.1.all okN=R) (fun y=>y.1.length) (x.ns,[]) ?_ ?_ ?_
    ·refine Weak.mk ?_ ?_ ?_<;>simp only[go_sem,↓reduceIte,Sub,Int.natCast_add,Int.natCast_mul]
    ·exact hR
    ·rintro⟨rem,cur⟩ hF;simp only at hF;simp only[go_sem,↓reduceIte];refine q0e.j2C rfl rfl (fun h0=>?_) (fun i k v hik=>?_)
     ·have hrem:rem=[]:=by cases rem with|nil=>rfl|cons a r=>cases h0
      subst hrem;simp only[List.all_nil]at hF;subst hF;simp only[go_sem,↓reduceIte];refine q0i.of (z3s x.cs x.wide hcs) ?_;simp only[go_sem,↓reduceIte];have e:((z4k x.cs x.wide:Nat):Int)=0↔z4k x.cs x.wide=0:=by omega
      simp only[e,Zci]
     ·obtain⟨p,hp,rfl,rfl⟩:=j2T rem i hik;rw[z26];simp only[go_sem,↓reduceIte];refine q0e.z83 rfl rfl ?_
      by_cases h100:p.2.length≤100
      ·have z3:(100<(p.2.length:Int))=False:=eq_false (by omega);simp only[go_sem,↓reduceIte,z3];have hlt:=(Zab.1 hp).1;refine⟨(rem.eraseIdx i,[(.int .i64 p.1,.str p.2)]),?_,?_,?_⟩
       ·refine Weak.mk ?_ ?_ ?_<;>simp only[go_sem,↓reduceIte,Sub,Int.natCast_add,Int.natCast_mul]
       ·simp only;rw[z6b okN rem i p hp (by unfold okN;exact decide_eq_true h100)];exact hF
       ·simp only;rw[List.length_eraseIdx,if_pos hlt];omega
      ·have z3:(100<(p.2.length:Int))=True:=eq_true (by omega);simp only[go_sem,↓reduceIte,z3];rw[j6p okN hp (by unfold okN;exact decide_eq_false h100)]at hF;rw[←hF];rfl
   ·have z2:(300<(x.ns.length:Int))=True:=eq_true (by omega);rw[decide_eq_false h300];simp only[go_sem,↓reduceIte,z2]
  ·have z1:(400<(x.ws.length:Int))=True:=eq_true (by omega);rw[decide_eq_false h400];simp only[go_sem,↓reduceIte,z1]
theorem z9i{x:Fnt}(hx:x.wf)(h:q6k x=true):x.ok:=by
 unfold q6k at h;simp only[Zac,decide_eq_true_eq]at h;obtain⟨h1,h2,h3,h4,h5⟩:=h;unfold q5p at h1;simp only[Zac,Zaj,decide_eq_true_eq]at h1;obtain⟨h6,h7⟩:=h1;refine⟨fun s hs=>?_,by omega,fun p hp=>?_⟩
 ·obtain⟨a,b,c,d⟩:=hx.cs s hs
  have key:∀(m:Int),0≤m→m≤65535→∀(l:List Span) (prev:Option Int),q50 m prev l=0→s∈l→0≤s.fr∧s.to≤65535∧∃rs,q1g s.tx=some rs∧rs≠[]:=by
   intro m m0 m1 l;induction l with
   |nil=>intro _ _ hs;cases hs
   |cons y r ih=>
    intro prev hf hs;simp only[q50]at hf;split at hf
    ·rename_i hy;rcases Zau.1 hs with rfl|hs
     ·unfold q6M at hy;split at hy
      ·cases hy
      ·split at hy
       ·cases hy
       ·rename_i q1 q2;cases hrs:q1g s.tx with
        |none=>exact absurd (.inr (.inr (.inl hrs))) q2
        |some rs=>
         refine⟨by omega,by omega,rs,rfl,fun e=>?_⟩;subst e;have:=(q83 s.tx.length (Zal _) hrs).1;exact q2 (.inr (.inr (.inr (.inl this.symm))))
     ·exact ih _ hf hs
    ·rename_i hy;exact absurd hf hy
  have hf:q50 (z6P x.wide) none x.cs=0:=by
   unfold z4k at h5;split at h5
   ·cases h5
   ·exact h5
  obtain⟨k1,k2,k3⟩:=key (z6P x.wide) (by unfold z6P;split<;>omega) (by unfold z6P;split<;>omega) x.cs none hf hs;exact⟨⟨a,b,c,d,by have:=h7 s hs;omega⟩,by omega,k3⟩
 ·have:=Zaj.1 h4 p hp;unfold okN at this;simp only[decide_eq_true_eq]at this;omega
def putF:Fl→List UInt8→Fnt→Fl
 |[],n,f=>[(n,f)]
 |p::r,n,f=>if n=p.1 then(p.1,f)::r else p::putF r n f
def q4x(l:Fl):Fl:=l.foldl (fun a p=>putF a p.1 p.2) []
abbrev z1N(fl:Fl):List D:=fl.map fun p=>.str p.1
abbrev z3Z(fl:Fl):List D:=fl.map fun p=>p.2.d
theorem z9y{n:List UInt8}{f:Fnt}:∀{fl:Fl},z0m fl n=none→putF fl n f=fl++[(n,f)]
 |[],_=>rfl
 |p::r,h=>by
  simp only[z0m]at h;split at h
  ·cases h
  ·rename_i hne;simp only[putF,if_neg hne,z9y h,Zbh]
theorem z9z{n:List UInt8}{f:Fnt}:∀{fl:Fl},(z0m fl n).isSome=true→z1N (putF fl n f)=z1N fl∧z3Z (putF fl n f)=mset (z1N fl) (z3Z fl) (.str n) f.d
 |[],h=>by simp[z0m]at h
 |p::r,h=>by
  simp only[z0m]at h;simp only[putF,z1N,z3Z,Zai,mset,z0X,beq_iff_eq];split
  ·exact⟨rfl,rfl⟩
  ·rename_i hne;rw[if_neg hne]at h;obtain⟨h1,h2⟩:=z9z (f:=f) h;exact⟨congrArg _ h1,congrArg _ h2⟩
theorem z9x(fl:Fl)(n:List UInt8)(f:Fnt):(putF fl n f).length≤fl.length+1:=by
 induction fl with
 |nil=>simp[putF]
 |cons p r ih=>simp only[putF];split<;>simp only[Zad]<;>omega
theorem j46{fl:Fl}{n:List UInt8}{f:Fnt}{p:List UInt8×Fnt}(h:p∈putF fl n f):p∈fl∨p.2=f:=by
 induction fl with
 |nil=>simp[putF]at h;exact .inr (by rw[h])
 |cons q r ih=>
  simp only[putF]at h;split at h
  ·rcases Zau.1 h with rfl|h
   ·exact .inr rfl
   ·exact .inl (Zbp _ h)
  ·rcases Zau.1 h with rfl|h
   ·exact .inl (by simp)
   ·exact(ih h).imp (Zbp _) id
theorem z4s(fl:Fl):∀k∈z1N fl,q0Y .string k=true:=fun k hk=>by
 obtain⟨p,_,rfl⟩:=Zak.1 hk;rfl
theorem z7Q(l:Fl)(p:List UInt8×Fnt):q4x (l++[p])=putF (q4x l) p.1 p.2:=by simp[q4x]
theorem j0c(l:Fl):(q4x l).length≤l.length:=by
 have key:∀(l a:Fl),(l.foldl (fun a p=>putF a p.1 p.2) a).length≤a.length+l.length:=by
  intro l;induction l with
  |nil=>intro a;simp
  |cons p l ih=>intro a;have h1:=ih (putF a p.1 p.2);have h2:=z9x a p.1 p.2;simp only[Zdi,Zad];omega
 have h:=key l [];rw[Zam,Zaw]at h;exact h
def namD(p:List UInt8×Fnt):D:=.agg [.str p.1,.bool p.2.wide,.map (q2A p.2.ws) (q7Z p.2.ws),.int .i64 p.2.miss,.map (q2A p.2.ns) (q7U p.2.ns),.list (q1s p.2.cs)]
def okW(p:Int×Int):Bool:=decide (Lim p.2)
def FoOK(p:List UInt8×Fnt):Prop:=p.1.length≤50∧p.2.ok∧Lim p.2.miss∧∀x∈p.2.ws,Lim x.2
theorem z6N:Tryz.prog.underlying 25=some (.map 9 62):=j6V
def z25(l:List (Int×Int)):List (D×D):=l.map fun p=>(.int .i64 p.1,.int .i64 p.2)
theorem j0X(l:List (Int×Int)):(q2A l).zip (q7Z l)=z25 l:=by
 induction l with
 |nil=>rfl
 |cons p r ih=>simp only[q2A,q7Z,z25,Zai,List.zip_cons_cons]at ih ⊢;rw[ih]
theorem j0z(l:List (Int×Int))(i:Nat){k v:D}(h:(z25 l)[i]?=some (k,v)):∃p,l[i]?=some p∧k=.int .i64 p.1∧v=.int .i64 p.2:=by
 simp only[z25,Zae,Zay,Prod.mk.injEq]at h;obtain⟨p,h1,h2,h3⟩:=h;exact⟨p,h1,h2.symm,h3.symm⟩
theorem z1E:∀(l:List (Int×Int)) (i:Nat),(z25 l).eraseIdx i=z25 (l.eraseIdx i)
 |[],_=>rfl
 |_::_,0=>rfl
 |p::r,i+1=>congrArg _ (z1E r i)
theorem j0o{σ:St}{fl:Fl}{t:Nat}(hl:aget σ.L 8=some (.mobj (z1N fl) (z3Z fl)))(ht:aget σ.ρ t=some (.mp (.l 8)))(hH:σ.H=[]):Gh σ ⟨[(t,.d (q0g fl))],[],[]⟩:=by
 refine Gh.trans (τ:=⟨amap (AV.frzM 8 (z1N fl) (z3Z fl)) σ.ρ,[],σ.H⟩) (fun E n G ts w h=>⟨_,h.frzM hl⟩) (Gh.wk ⟨fun s x hx=>?_,fun r ob h=>?_⟩)
 ·simp only[aget]at hx;split at hx
  ·rename_i e;subst e;cases hx;rw[q0p,ht];rfl
  ·cases hx
 ·cases r with
  |l q=>cases h
  |x q=>cases h
theorem j6N{α:Type}{l:List α}{i:Nat}{x:α}(h:l[i]?=some x):l.drop i=x::l.drop (i+1):=by
 obtain⟨h1,h2⟩:=Zab.1 h;rw[Zcz h1,h2]
def foB(p:List UInt8×Fnt):Bool:=decide (p.1.length≤50)&&(q6k p.2&&(decide (Lim p.2.miss)&&p.2.ws.all okW))
def foG(acc:Fl):Fl→Fl×Bool
 |[]=>(acc,true)
 |p::r=>if foB p=true then foG (putF acc p.1 p.2) r else(acc,false)
def foR(l:Fl):Fl×Bool:=if 5<l.length then([],false)else foG [] l
theorem j5V:∀(l acc fl:Fl) (b:Bool),foG acc l=(fl,b)→fl.length≤acc.length+l.length∧(b=true→fl=l.foldl (fun a p=>putF a p.1 p.2) acc∧∀p∈l,foB p=true)
 |[],acc,fl,b,h=>by cases h;exact⟨by simp,fun _=>⟨rfl,fun p hp=>by cases hp⟩⟩
 |p::r,acc,fl,b,h=>by
  rw[foG]at h;split at h
  ·rename_i hp;obtain⟨h1,h2⟩:=j5V r _ fl b h;have:=z9x acc p.1 p.2;refine⟨by simp only[Zad];omega,fun hb=>?_⟩;obtain⟨h3,h4⟩:=h2 hb;refine⟨h3,fun q hq=>?_⟩;rcases Zau.1 hq with rfl|hq
   ·exact hp
   ·exact h4 q hq
  ·cases h;exact⟨by simp,fun h=>by cases h⟩
theorem j78(l:Fl)(hw:∀p∈l,p.2.wf):(foR l).1.length≤5∧((foR l).2=true→(foR l).1=q4x l∧l.length≤5∧∀p∈l,FoOK p):=by
 unfold foR;split
 ·exact⟨Zar _,fun h=>by cases h⟩
 ·rename_i h5;obtain⟨h1,h2⟩:=j5V l [] _ _ rfl;refine⟨by simp only[Zam]at h1;omega,fun hb=>?_⟩;obtain⟨h3,h4⟩:=h2 hb;refine⟨h3,by omega,fun p hp=>?_⟩;have:=h4 p hp;simp only[foB,Zac,decide_eq_true_eq,Zaj]at this;exact⟨this.1,z9i (hw p hp) this.2.1,this.2.2.1,fun x hx=>by have:=this.2.2.2 x hx;simpa[okW]using this⟩
def q2j:q0m:=
 .seq (.reg [Qx 2 (.k (.d (.map [] []))),Qx 3 KF]) (.seq (.reg [⟨some 8,.prim (.mkMap 25) [] [],none⟩,Qa 4 8]) (.seq (.seq (.reg [Qc 9 0,Q 10 (.len false (.t 9)),Q 11 (.bin 
 .gtr (.t 10) (Ki 5))]) (.cond (.t 11) (.seq (.alt [([],Qc 12 4)] [Qa 2 12,Qx 3 KF]) .ret) .skip)) (.seq (.seq (.reg [Qx 5 (Ki 0)]) (.block 0 (.loop (.seq (.seq (.reg [Qc 13 5, 
 Qc 14 0,Q 15 (.len false (.t 14)),Q 16 (.bin .lss (.t 13) (.t 15))]) (.cond (.t 16) .skip (.exit 0))) (.seq (.block 1 (.seq (.seq (.reg [Qc 19 0,Qc 20 5,Q 21 (.ia 6 (.t 19) 
 (.t 20)),Q 22 (.fa 0 (.t 21)),Q 23 (.ld false 1 (.t 22)),Q 24 (.len true (.t 23)),Q 25 (.bin .gtr (.t 24) (Ki 50)),Qc 26 25,Qd 27 0 26 false,Qd 28 5 26 false,Qg 29 (.ia 6 
 (.t 27) (.t 28)) 26 false,Qg 30 (.fa 1 (.t 29)) 26 false,Qg 31 (.ld true 5 (.t 30)) 26 false,⟨some 32,.call 25 [.t 31],some (26,false)⟩,Qg 33 (.not (.t 32)) 26 false,Q 34 
 (.pick (.t 26) KT (.t 33)),Qc 35 34,Qd 36 0 35 false,Qd 37 5 35 false,Qg 38 (.ia 6 (.t 36) (.t 37)) 35 false,Qg 39 (.fa 1 (.t 38)) 35 false,Qg 40 (.fa 2 (.t 39)) 35 false, 
 Qg 41 (.ld false 1 (.t 40)) 35 false,⟨some 42,.call 26 [.t 41],some (35,false)⟩,Qg 43 (.bin .gtr (.t 42) (Ki 0)) 35 false,Q 44 (.pick (.t 35) KT (.t 43))]) (.cond (.t 44) 
 (.seq (.alt [([],Qc 45 4)] [Qa 2 45,Qx 3 KF]) .ret) .skip)) (.seq (.seq (.reg [Qc 46 0,Qc 47 5,Q 48 (.ia 6 (.t 46) (.t 47)),Q 49 (.fa 1 (.t 48)),Q 50 (.fa 1 (.t 49)),Q 51 
 (.ld false 1 (.t 50)),⟨some 52,.prim (.range 58) [.t 51] [],none⟩]) (.block 2 (.loop (.seq (.reg [⟨some 53,.prim (.next false 0) [.t 52] [],none⟩,Q 54 (.ext 0 (.t 53))]) 
 (.seq (.cond (.t 54) .skip (.exit 2)) (.block 3 (.seq (.reg [⟨some 55,.prim .entry [.t 52] [],none⟩,Q 56 (.ext 1 (.t 55)),Qa 7 56]) (.seq (.reg [Qc 57 7,⟨some 58,.call 26 
 [.t 57],none⟩,Q 59 (.bin .gtr (.t 58) (Ki 0))]) (.cond (.t 59) (.seq (.alt [([],Qc 60 4)] [Qa 2 60,Qx 3 KF]) .ret) .skip))))))))) (.dreg [Qc 61 4,Qc 62 0,Qc 63 5,Q 64 (.ia 
 6 (.t 62) (.t 63)),Q 65 (.fa 0 (.t 64)),Q 66 (.ld false 1 (.t 65)),Qc 67 0,Qc 68 5,Q 69 (.ia 6 (.t 67) (.t 68)),Q 70 (.fa 1 (.t 69)),Q 71 (.ld true 5 (.t 70)),⟨none, 
 .prim (.mapUpd 25) [.t 61,.t 66,.t 71] [],none⟩])))) (.reg [Qc 17 5,Q 18 (.bin .add (.t 17) (Ki 1)),Qa 5 18])))))) (.seq (.alt [([],Qc 72 4)] [Qa 2 72,Qx 3 KT]) .ret))))
def q2p:List LRes:=[.tmp 2,.tmp 3]
theorem q30:q0t Tryz.prog 8 73 q2j q2p:=⟨_,_,Tryz.func8,rfl,by kernel_rfl,by kernel_rfl,rfl⟩
theorem z7P(l:Fl)(hl:l.length≤1000000000)(hw:∀p∈l,p.2.wf∧p.1.length≤9223372036854775807∧i64 p.2.miss):
  q0y Tryz.prog 8 [.list (l.map namD)] (fun r=>r=.tup [q0g (foR l).1,.bool (foR l).2]):=by
 refine q30.call rfl ?_;generalize hR:foR l=R;have hlen:(l.map namD).length=l.length:=Zas ..;simp only[go_sem,↓reduceIte,q2j,q2p];refine q0e.mkMap z6N ?_;simp(disch:=omega)only[go_sem,↓reduceIte,hlen];refine⟨fun h1=>?_,fun h1=>?_⟩
 ·refine q3t.ghost (q3t.step rfl (fun _ _ _ h=>by cases h) rfl ?_);refine⟨_,j0o (fl:=[]) (t:=12) rfl rfl rfl,?_⟩;simp only[go_sem,↓reduceIte];unfold foR at hR;rw[if_pos (by omega)]at hR;rw[←hR]
 ·refine q0j (fun i:Nat=>⟨[(0,.d (.list (l.map namD))),(4,.mp (.l 8)),(5,.d (.int .i64 i))],[(8,.mobj (z1N (q4x (l.take i))) (z3Z (q4x (l.take i))))],[]⟩) (fun i=>i≤l.length∧foG (q4x (l.take i)) (l.drop i)=R) (fun i=>l.length-i) 0 ?_ ⟨Zar _,by unfold foR at hR;rw[if_neg (by omega)]at hR;exact hR⟩ ?_
  ·refine Weak.mk ?_ ?_ ?_<;>simp only[go_sem,↓reduceIte,Sub,Int.natCast_add,Int.natCast_mul,q4x,Zce,List.foldl_nil,Zbe]
  ·intro i ⟨hi,hG⟩;have hfl:=j0c (l.take i);rw[Zcb]at hfl;simp(disch:=omega)only[go_sem,↓reduceIte,hlen];refine⟨fun hlt=>?_,fun hge=>?_⟩
   ·obtain⟨p,hx⟩:=get_some (l:=l) (i:=i) (by omega);have hg:getI (l.map namD) (i:Int)=some (namD p):=by rw[q0d,Zae,hx];rfl
    have htk:l.take (i+1)=l.take i++[p]:=by rw[Zbd,hx];rfl
    obtain⟨hpw,hpn,hpm⟩:=hw p (Zaa hx);have hsn:=z7Q (l.take i) p;rw[←htk]at hsn;rw[j6N hx,foG]at hG;generalize hF:q4x (l.take i)=F at *
    by_cases h50:p.1.length≤50
    ·have z1:(50<(p.1.length:Int))=False:=eq_false (by omega);simp(disch:=omega)only[go_sem,↓reduceIte,hg,namD,z1];refine q0i.of (z3V p.2 hpw) ?_;cases hlf:q6k p.2 with
     |false=>
      simp(disch:=omega)only[go_sem,↓reduceIte,hg,namD];refine q3t.ghost (q3t.step rfl (fun _ _ _ h=>by cases h) rfl ?_);refine⟨_,j0o (fl:=F) (t:=45) rfl rfl rfl,?_⟩;simp only[go_sem,↓reduceIte];rw[if_neg (by simp[foB,hlf])]at hG;rw[←hG]
     |true=>
      have hfo:=z9i hpw hlf;simp(disch:=omega)only[go_sem,↓reduceIte,hg,namD];refine q0i.of (q1t p.2.miss) ?_
      by_cases hms:Lim p.2.miss
      ·have z2:(0<fltI p.2.miss)=False:=eq_false (by rw[q4S hms];decide);simp(disch:=omega)only[go_sem,↓reduceIte,hg,namD,z2];refine q0e.rangeMap rfl j0p ?_;rw[j0X];simp only[go_sem,↓reduceIte];refine q0j (fun y:List (Int×Int)×List (D×D)=>⟨[(0,.d (.list (l.map namD))),(4,.mp (.l 8)),(5,.d (.int .i64 i)),(52,.ptr (.l 52) 0)],
         [(8,.mobj (z1N F) (z3Z F)),(52,.miter (z25 y.1) y.2)],[]⟩)
        (fun y=>(∀x∈p.2.ws,x∈y.1∨Lim x.2)∧∀x∈y.1,x∈p.2.ws) (fun y=>y.1.length) (p.2.ws,[]) ?_ ⟨fun x hx=>.inl hx,fun x hx=>hx⟩ ?_
       ·refine Weak.mk ?_ ?_ ?_<;>simp only[go_sem,↓reduceIte,Sub,Int.natCast_add,Int.natCast_mul]
       ·rintro⟨rem,cur⟩ ⟨hW,hS⟩;simp only at hW hS;simp only[go_sem,↓reduceIte];refine q0e.j2C rfl rfl (fun h0=>?_) (fun q k v hik=>?_)
        ·have hrem:rem=[]:=by cases rem with|nil=>rfl|cons a r=>cases h0
         subst hrem;have hpok:foB p=true:=by
          simp only[foB,Zac,decide_eq_true_eq,Zaj];exact⟨h50,hlf,hms,fun x hx=>by simpa[okW]using(hW x hx).resolve_left (by simp)⟩
         rw[if_pos hpok,←hsn]at hG;have hD:∀(f:Fnt),f.d=.agg [.bool f.wide,.map (q2A f.ws) (q7Z f.ws),.int .i64 f.miss,.map (q2A f.ns) (q7U f.ns),.list (q1s f.cs)]:=fun _=>rfl
         simp(disch:=omega)only[go_sem,↓reduceIte,hg,namD];cases hlk:z0m F p.1 with
         |none=>
          have hpn:=z9y (f:=p.2) hlk;rw[hpn]at hsn;have hnk:=z5u F p.1;rw[hlk]at hnk;refine q0e.z9l (ks:=z1N F) (vs:=z3Z F) (key:=.str p.1) (v:=p.2.d) (s:=8) rfl rfl rfl rfl z6N z8G rfl (z4s F) hnk ?_;simp(disch:=omega)only[go_sem,↓reduceIte];refine⟨i+1,?_,⟨by omega,hG⟩,by omega⟩;rw[hsn];refine Weak.mk ?_ ?_ ?_<;>simp only[go_sem,↓reduceIte,Sub,Int.natCast_add,Int.natCast_mul,List.map_append,Zai,Zbe,z1N,z3Z]
         |some f0=>
          obtain⟨k1,k2⟩:=z9z (n:=p.1) (f:=p.2) (fl:=F) (by rw[hlk];rfl);rw[←hsn]at k1 k2;have hnk:=z5u F p.1;rw[hlk]at hnk;refine q0e.j8m (ks:=z1N F) (vs:=z3Z F) (key:=.str p.1) (v:=p.2.d) (s:=8) rfl rfl rfl rfl z6N z8G rfl (z4s F) (by rw[hnk];rfl) ?_;simp(disch:=omega)only[go_sem,↓reduceIte];refine⟨i+1,?_,⟨by omega,hG⟩,by omega⟩;rw[k1,k2];refine Weak.mk ?_ ?_ ?_<;>simp only[go_sem,↓reduceIte,Sub,Int.natCast_add,Int.natCast_mul]
        ·obtain⟨x,hx1,rfl,rfl⟩:=j0z rem q hik;rw[z1E];simp only[go_sem,↓reduceIte];refine q0e.z83 rfl rfl ?_;simp only[go_sem,↓reduceIte];refine q0i.of (q1t x.2) ?_;have hlt2:=(Zab.1 hx1).1
         by_cases hL:Lim x.2
         ·have z3:(0<fltI x.2)=False:=eq_false (by rw[q4S hL];decide);simp only[go_sem,↓reduceIte,z3];refine⟨(rem.eraseIdx q,[(.int .i64 x.1,.int .i64 x.2)]),?_,⟨fun y hy=>?_,fun y hy=>hS y (List.mem_of_mem_eraseIdx hy)⟩,?_⟩
          ·refine Weak.mk ?_ ?_ ?_<;>simp only[go_sem,↓reduceIte,Sub,Int.natCast_add,Int.natCast_mul]
          ·rcases hW y hy with h|h
           ·by_cases e:y=x
            ·subst e;exact .inr hL
            ·refine .inl ?_;obtain⟨j,hj⟩:=Zap h;have hjq:j≠q:=fun e2=>by subst e2;rw[hx1]at hj;cases hj;exact e rfl
             have this:∀j,(rem.eraseIdx q)[j]?=if j<q then rem[j]? else rem[j+1]?:=fun j=>List.getElem?_eraseIdx ..
             rcases Zbc j q with h5|h5
             ·exact Zaa (i:=j) (by rw[this,if_pos h5];exact hj)
             ·exact Zaa (i:=j-1) (by rw[this,if_neg (by omega),show j-1+1=j by omega];exact hj)
           ·exact .inr h
          ·simp only;rw[List.length_eraseIdx,if_pos hlt2];omega
         ·have z3:(0<fltI x.2)=True:=eq_true (by rw[q4R hL];decide);simp only[go_sem,↓reduceIte,z3];refine q3t.ghost (q3t.step rfl (fun _ _ _ h=>by cases h) rfl ?_);refine⟨_,j0o (fl:=F) (t:=60) rfl rfl rfl,?_⟩;simp only[go_sem,↓reduceIte];have hno:¬foB p=true:=fun hb=>by
           simp only[foB,Zac,decide_eq_true_eq,Zaj]at hb;rcases Zab.1 hx1 with⟨_,he⟩
           have:=hb.2.2.2 x (hS x (Zaa hx1));exact hL (by simpa[okW]using this)
          rw[if_neg hno]at hG;rw[←hG]
      ·have z2:(0<fltI p.2.miss)=True:=eq_true (by rw[q4R hms];decide);simp(disch:=omega)only[go_sem,↓reduceIte,hg,namD,z2];refine q3t.ghost (q3t.step rfl (fun _ _ _ h=>by cases h) rfl ?_);refine⟨_,j0o (fl:=F) (t:=45) rfl rfl rfl,?_⟩;simp only[go_sem,↓reduceIte];rw[if_neg (by simp[foB,hms])]at hG;rw[←hG]
    ·have z1:(50<(p.1.length:Int))=True:=eq_true (by omega);simp(disch:=omega)only[go_sem,↓reduceIte,hg,namD,z1];refine q3t.ghost (q3t.step rfl (fun _ _ _ h=>by cases h) rfl ?_);refine⟨_,j0o (fl:=F) (t:=45) rfl rfl rfl,?_⟩;simp only[go_sem,↓reduceIte];rw[if_neg (by simp[foB];omega)]at hG;rw[←hG]
   ·have hie:l.take i=l:=List.take_of_length_le (by omega);rw[hie,Zah (by omega),foG]at hG;rw[hie];refine q3t.ghost (q3t.step rfl (fun _ _ _ h=>by cases h) rfl ?_);refine⟨_,j0o (fl:=q4x l) (t:=72) rfl rfl rfl,?_⟩;simp only[go_sem,↓reduceIte];rw[←hG]
theorem z6s(l:List Gph):(q3d l).length=l.length:=by simp[q3d]
def q1w:q0m:=
 .seq (.reg [Qx 4 KF]) (.seq (.seq (.reg [Qc 6 0,Q 7 (.len false (.t 6)),Qc 8 1,Q 9 (.len false (.t 8)),Q 10 (.bin .neq (.t 7) (.t 9))]) (.cond (.t 10) (.seq (.reg [Qx 4 KF]) 
 .ret) .skip)) (.seq (.seq (.reg [Qx 5 (Ki 0)]) (.block 0 (.loop (.seq (.seq (.reg [Qc 11 5,Qc 12 0,Q 13 (.len false (.t 12)),Q 14 (.bin .lss (.t 11) (.t 13))]) (.cond (.t 14) 
 .skip (.exit 0))) (.seq (.block 1 (.seq (.dreg [Qc 17 0,Qc 18 5,Q 19 (.ia 10 (.t 17) (.t 18)),Q 20 (.ld true 10 (.t 19)),Qc 21 1,Qc 22 5,Q 23 (.ia 10 (.t 21) (.t 22)),Q 24 
 (.ld true 10 (.t 23)),⟨some 25,.prim (.eq .neq 55) [.t 20,.t 24] [],none⟩]) (.cond (.t 25) (.seq (.reg [Qx 4 KF]) .ret) .skip))) (.reg [Qc 15 5,Q 16 (.bin .add (.t 15) (Ki 
 1)),Qa 5 16])))))) (.seq (.reg [Qx 4 KT]) .ret)))
def q1x:List LRes:=[.tmp 4]
theorem q3e:q0t Tryz.prog 14 26 q1w q1x:=⟨_,_,Tryz.func14,rfl,by kernel_rfl,by kernel_rfl,rfl⟩
theorem z3k(l:List Gph)(h:l.length≤1000000):q0y Tryz.prog 14 [.list (q3d l),.list (q3d l)] (fun r=>r=.one (.bool true)):=by
 refine q3e.call rfl ?_;have hI:((q3d l).length:Int)=(l.length:Int):=by rw[z6s]
 simp only[go_sem,↓reduceIte,q1w,q1x,hI];refine q0j (fun i:Nat=>⟨[(0,.d (.list (q3d l))),(1,.d (.list (q3d l))),(5,.d (.int .i64 i))],[],[]⟩)
  (fun i=>i≤l.length) (fun i=>l.length-i) 0 ?_ (Zar _) ?_
 ·refine Weak.mk ?_ ?_ ?_<;>simp only[go_sem,↓reduceIte,Sub,Int.natCast_add,Int.natCast_mul]
 ·intro i hi;simp(disch:=omega)only[go_sem,↓reduceIte,hI];intro hlt;obtain⟨x,hx⟩:=get_some (l:=l) (i:=i) (by omega);have hg:getI (q3d l) (i:Int)=some x.d:=by rw[q0d,q3d,Zae,hx];rfl
  simp(disch:=omega)only[go_sem,↓reduceIte,hg,Gph.d,I];refine q0e.j7s (cs:=_) (ks:=[2,0,0,0,0,0,0,0,0,0]) rfl rfl (by kernel_rfl) (by kernel_rfl) (by kernel_rfl) rfl (by kernel_rfl) ?_;simp(disch:=omega)only[go_sem,↓reduceIte];refine⟨i+1,?_,by omega,by omega⟩;refine Weak.mk ?_ ?_ ?_<;>simp only[go_sem,↓reduceIte,Sub,Int.natCast_add,Int.natCast_mul]
def numW(n:Int):Val:=.mk 2 n [] [] []
def strW(s:List UInt8):Val:=.mk 3 0 s [] []
def namW(s:List UInt8):Val:=.mk 4 0 s [] []
def z9L:Fl:=[([70],⟨false,[],500,[],[]⟩)]
theorem z7E{α:Type}{l:List α}{i:Nat}{x:α}(h:l[i]?=some x):l.drop i=x::l.drop (i+1):=by
 obtain⟨hi,rfl⟩:=Zab.1 h;exact Zcz hi
/-! ### Blanks, words -/
def z5O:List UInt8:=[40,41,60,62,91,93,123,125,47,37]
def z0E(c:UInt8):Bool:=decide (c∈z5O)
def q8c(note:Bool):List UInt8→Nat→Nat
 |[],at_=>at_
 |c::r,at_=>
  if note=true then q8c (decide (c.toNat≠10)&&decide (c.toNat≠13)) r (at_+1)
  else if c.toNat=37 then q8c true r (at_+1)
  else if q91 c.toNat=true then q8c false r (at_+1)
  else at_
def q4h(s:List UInt8)(at_:Nat):Nat:=q8c false (s.drop at_) at_
def z0L(s:List UInt8):List UInt8:=s.takeWhile fun c => !q91 c.toNat && !z0E c
def q3a(s:List UInt8)(at_:Nat):List UInt8:=z0L (s.drop at_)
def q61(s:List UInt8)(n:Int):Nat:=(min (max n 0) s.length).toNat
theorem z13:∀(s:List UInt8) (b:Bool) (k:Nat),k≤q8c b s k∧q8c b s k≤k+s.length
 |[],b,k=>by simp[q8c]
 |c::r,b,k=>by
  unfold q8c;simp only[Zad];split
  ·have:=z13 r (decide (c.toNat≠10)&&decide (c.toNat≠13)) (k+1);omega
  ·split
   ·have:=z13 r true (k+1);omega
   ·split
    ·have:=z13 r false (k+1);omega
    ·omega
theorem q5B{s:List UInt8}{k:Nat}(h:k≤s.length):k≤q4h s k∧q4h s k≤s.length:=by
 have:=z13 (s.drop k) false k;rw[Zby]at this;unfold q4h;omega
theorem q40(s:List UInt8)(k:Nat):(q3a s k).length≤s.length-k:=by
 have:=(List.takeWhile_sublist (fun c:UInt8 => !q91 c.toNat && !z0E c) (l:=s.drop k)).length_le;rw[Zby]at this;exact this
theorem z98{c:UInt8}(h:c.toNat<128):(Utf8.encode (c.toNat:Int)).data.toList=[c]:=by
 have:∀n:Fin 128,(Utf8.encode ((n.val:Nat):Int)).data.toList=[UInt8.ofNat n.val]:=by decide +kernel
 have:=this ⟨c.toNat,h⟩;simp only at this;rw[this];simp
def z1F:List UInt8→Nat→Nat→Int→Option (Nat×Nat×Int)
 |[],n,d,p=>some (n,d,p)
 |c::r,n,d,p=>
  if c.toNat=46∧p<0 then z1F r n d 0
  else if c.toNat<48∨57<c.toNat then none
  else z1F r (if p<3∧n≤1000000000 then 10*n+(c.toNat-48)else n) (d+1) (if 0≤p then p+1 else p)
def finP(neg:Bool):Option (Nat×Nat×Int)→Int×Nat
 |none=>(0,4)
 |some (n,d,p)=>if d=0 then(0,4)else if 1000000000<n*10 ^ (3-p.toNat)then(0,1)else(if neg=true then -((n*10 ^ (3-p.toNat):Nat):Int)else((n*10 ^ (3-p.toNat):Nat):Int),0)
def j3r:List UInt8→Bool×List UInt8
 |[]=>(false,[])
 |c::r=>if c.toNat=45 then(true,r)else if c.toNat=43 then(false,r)else(false,c::r)
def q75(s:List UInt8):Int×Nat:=finP (j3r s).1 (z1F (j3r s).2 0 0 (-1))
def resP(p:Int×Nat):Res:=.tup [.int .i64 p.1,errD p.2]
def q9r:q0m:=
 .seq (.reg [Qx 2 (Ki 0),Qx 3 (.k (.d .nil))]) (.seq (.reg [Qc 11 0,Qa 4 11]) (.seq (.reg [Qx 5 KF]) (.seq (.seq (.reg [Qc 12 4,Q 13 (.bin .neq (.t 12) (.k (.d (.str [])))),Qc 
 14 13,Qd 15 4 14 true,Qg 16 (.idxS (.t 15) (Ki 0)) 14 true,Qg 17 (.bin .eql (.t 16) (Kb 45)) 14 true,Qd 18 17 14 true,Qd 19 4 18 false,Qg 20 (.idxS (.t 19) (Ki 0)) 18 
 false,Qg 21 (.bin .eql (.t 20) (Kb 43)) 18 false,Qg 22 (.pick (.t 18) KT (.t 21)) 14 true,Q 23 (.pick (.t 14) (.t 22) KF)]) (.cond (.t 23) (.dreg [Qc 24 4,Q 25 (.idxS (.t 24) 
 (Ki 0)),Q 26 (.bin .eql (.t 25) (Kb 45)),Qc 27 4,Q 28 (.subS (.t 27) (some (Ki 1)) none),Qc 5 26,Qc 4 28]) .skip)) (.seq (.reg [Qx 6 (Ki 0),Qx 7 (Ki 0),Qx 8 (Ki (-1))]) 
 (.seq (.seq (.reg [Qc 29 4,Q 30 (.len true (.t 29)),Q 31 (.cp (Ki 0))]) (.block 0 (.loop (.seq (.reg [Q 32 (.bin .lss (.t 31) (.t 30))]) (.seq (.cond (.t 32) .skip (.exit 0)) 
 (.seq (.block 1 (.seq (.reg [Qc 33 31,Qa 9 33]) (.seq (.reg [Qc 34 4,Qc 35 9,Q 36 (.idxS (.t 34) (.t 35)),Qa 10 36]) (.block 2 (.seq (.reg [Qc 56 10,Q 57 (.bin .eql (.t 56) 
 (Kb 46)),Qc 58 57,Qd 59 8 58 true,Qg 60 (.bin .lss (.t 59) (Ki 0)) 58 true,Q 61 (.pick (.t 58) (.t 60) KF),Qa 55 61]) (.cond (.t 55) (.reg [Qx 8 (Ki 0)]) (.seq (.reg [Qc 63 
 10,Q 64 (.bin .lss (.t 63) (Kb 48)),Qc 65 64,Qd 66 10 65 false,Qg 67 (.bin .gtr (.t 66) (Kb 57)) 65 false,Q 68 (.pick (.t 65) KT (.t 67)),Qa 62 68]) (.cond (.t 62) (.seq 
 (.reg [Q 69 (.mkI 76 (Ki 4)),Qx 2 (Ki 0),Qa 3 69]) .ret) (.seq (.reg [Qc 37 7,Q 38 (.bin .add (.t 37) (Ki 1)),Qa 7 38]) (.seq (.seq (.reg [Qc 39 8,Q 40 (.bin .lss (.t 39) 
 (Ki 3)),Qc 41 40,Qd 42 6 41 true,Qg 43 (.bin .leq (.t 42) (Ki 1000000000)) 41 true,Q 44 (.pick (.t 41) (.t 43) KF)]) (.cond (.t 44) (.reg [Qc 45 6,Q 46 (.bin .mul (Ki 10) 
 (.t 45)),Qc 47 10,Q 48 (.bin .sub (.t 47) (Kb 48)),Q 49 (.cvI .i64 (.t 48)),Q 50 (.bin .add (.t 46) (.t 49)),Qa 6 50]) .skip)) (.seq (.reg [Qc 51 8,Q 52 (.bin .geq (.t 51) 
 (Ki 0))]) (.cond (.t 52) (.reg [Qc 53 8,Q 54 (.bin .add (.t 53) (Ki 1)),Qa 8 54]) .skip)))))))))))) (.reg [Q 70 (.bin .add (.t 31) (Ki 1)),Qc 31 70]))))))) (.seq (.seq (.reg 
 [Qc 71 7,Q 72 (.bin .eql (.t 71) (Ki 0))]) (.cond (.t 72) (.seq (.reg [Q 73 (.mkI 76 (Ki 4)),Qx 2 (Ki 0),Qa 3 73]) .ret) .skip)) (.seq (.seq (.reg [Qc 74 8,Q 75 (.mm true (.t 
 74) (Ki 0)),Qa 8 75]) (.block 3 (.loop (.seq (.seq (.reg [Qc 76 8,Q 77 (.bin .lss (.t 76) (Ki 3))]) (.cond (.t 77) .skip (.exit 3))) (.seq (.block 4 (.reg [Qc 80 6,Q 81 (.bin 
 .mul (.t 80) (Ki 10)),Qa 6 81])) (.reg [Qc 78 8,Q 79 (.bin .add (.t 78) (Ki 1)),Qa 8 79])))))) (.seq (.seq (.reg [Qc 82 6,Q 83 (.bin .gtr (.t 82) (Ki 1000000000))]) (.cond 
 (.t 83) (.seq (.reg [Q 84 (.mkI 76 (Ki 1)),Qx 2 (Ki 0),Qa 3 84]) .ret) .skip)) (.seq (.seq (.reg [Qc 85 5]) (.cond (.t 85) (.reg [Qc 86 6,Q 87 (.neg (.t 86)),Qa 6 87]) 
 .skip)) (.seq (.reg [Qc 88 6,Qa 2 88,Qx 3 (.k (.d .nil))]) .ret))))))))))
def q9u:List LRes:=[.tmp 2,.tmp 3]
theorem z3Q:q0t Tryz.prog 113 89 q9r q9u:=⟨_,_,Tryz.func113,rfl,by kernel_rfl,by kernel_rfl,rfl⟩
theorem j0B(s:List UInt8)(hs:s.length≤1000000):q0y Tryz.prog 113 [.str s] (fun r=>r=resP (q75 s)):=by
 refine z3Q.call rfl ?_;unfold q75;cases s with
 |nil=>
  have hs0:j3r []=(false,[]):=rfl;have hR:resP (finP false (z1F [] 0 0 (-1)))=.tup [.int .i64 0,.iface 76 (.int .i64 4)]:=rfl;rw[hs0,hR];simp(disch:=omega)only[go_sem,↓reduceIte,q9r,q9u];refine q1X ?_;simp(disch:=omega)only[go_sem,↓reduceIte]
 |cons c r=>
  have hc8:=q3s c;have hne:(c::r=[])=False:=by simp
  have hg0:getI (c::r) 0=some c:=rfl;have hcut:cutI (c::r) 1 ((r.length+1:Nat):Int)=r:=by
   show cutI (c::r) ((1:Nat):Int) _=r
   rw[z1U];simp
  have hlr:r.length+1≤1000000:=by simpa using hs
  generalize hst:j3r (c::r)=st;dsimp only[j3r]at hst;obtain⟨R,hR⟩:∃R,finP st.1 (z1F st.2 0 0 (-1))=R:=⟨_,rfl⟩;rw[hR];simp(disch:=omega)only[go_sem,↓reduceIte,q9r,q9u,hne,hg0,hcut];refine⟨fun a1=>⟨fun a2=>⟨by omega,?_⟩,fun a2=>?_⟩,fun a1=>⟨by omega,?_⟩⟩;rw[if_neg (by omega),if_pos (by omega)]at hst;subst hst;obtain⟨T,hT⟩:∃T,T=r:=⟨_,rfl⟩;obtain⟨N,hN⟩:∃N,N=false:=⟨_,rfl⟩;have hdec:decide ((c.toNat:Int)=45)=false:=by simp[a1]
  simp only[hdec];rw[←hT,←hN]at hR;have hlT:T.length≤1000000:=by rw[hT];omega
  rotate_left
  rw[if_neg (by omega),if_neg (by omega)]at hst;subst hst;obtain⟨T,hT⟩:∃T,T=c::r:=⟨_,rfl⟩;obtain⟨N,hN⟩:∃N,N=false:=⟨_,rfl⟩;rw[←hT,←hN]at hR;have hlT:T.length≤1000000:=by rw[hT];exact hs
  rotate_left
  rw[if_pos (by omega)]at hst;subst hst;obtain⟨T,hT⟩:∃T,T=r:=⟨_,rfl⟩;obtain⟨N,hN⟩:∃N,N=true:=⟨_,rfl⟩;have hdec:decide ((c.toNat:Int)=45)=true:=by simp[a1]
  simp only[hdec];rw[←hT,←hN]at hR;have hlT:T.length≤1000000:=by rw[hT];omega
  rotate_left
  all_goals
   refine q0j (fun y:Nat×Nat×Nat×Int=>⟨[(4,.d (.str T)),(5,.d (.bool N)),(6,.d (.int .i64 y.2.1)),(7,.d (.int .i64 y.2.2.1)),(8,.d (.int .i64 y.2.2.2)),(30,.d (.int .i64 (T.length:Nat))),(31,.d (.int .i64 y.1))],[],[]⟩)
    (fun y=>y.1≤T.length∧y.2.1≤10000000009∧y.2.2.1≤y.1 ∧ -1≤y.2.2.2∧y.2.2.2≤y.1∧finP N (z1F (T.drop y.1) y.2.1 y.2.2.1 y.2.2.2)=R) (fun y=>T.length-y.1) (0,0,0,-1) ?_ ?_ ?_
   ·refine q0h ?_ trivial;simp only[go_sem,↓reduceIte,Sub,Int.natCast_add,Int.natCast_mul,hT,hN]
   ·exact⟨by simp,by simp,by simp,by simp,by simp,by simpa using hR⟩
   ·rintro⟨i,n,d,p⟩ ⟨hi,hn,hd,hp,hp2,hF⟩;simp only at hi hn hd hp hp2 hF;simp only[go_sem,↓reduceIte];refine⟨fun q1=>?_,fun q1=>?_⟩
    ·obtain⟨x,hx⟩:=get_some (l:=T) (i:=i) (by omega);have hx8:=q3s x;rw[drop_cons hx]at hF;unfold z1F at hF
     by_cases e1:x.toNat=46∧p<0
     ·rw[if_pos e1]at hF;have e1a:(x.toNat:Int)=46:=by omega
      simp(disch:=omega)only[go_sem,↓reduceIte,q0d,hx,e1a,e1.2];refine⟨(i+1,n,d,0),?_,⟨by simp only;omega,hn,by simp only;omega,by simp,by simp only;omega,hF⟩,by simp only;omega⟩;refine q0h ?_ trivial;simp only[go_sem,↓reduceIte,Sub,Int.natCast_add,Int.natCast_mul]
     ·rw[if_neg e1]at hF
      by_cases e2:x.toNat<48∨57<x.toNat
      ·rw[if_pos e2]at hF;subst hF;have hres:resP (finP N none)=.tup [.int .i64 0,.iface 76 (.int .i64 4)]:=rfl;rw[hres];simp only[go_sem,↓reduceIte,q0d,hx];refine⟨fun a=>⟨fun b=>by omega,fun b=>fun c=>by omega⟩,fun a=>fun b c=>by omega⟩
      ·rw[if_neg e2]at hF;have hne46:¬((x.toNat:Int)=46):=by omega
       have h48:¬((x.toNat:Int)<48):=by omega
       have h57:¬(57<(x.toNat:Int)):=by omega
       obtain⟨k,hk⟩:∃k,x.toNat-48=k:=⟨_,rfl⟩;have hk':(x.toNat:Int)-48=(k:Int):=by omega
       rw[hk]at hF;simp(disch:=omega)only[go_sem,↓reduceIte,q0d,hx,hne46,h48,h57,hk'];refine⟨fun b1=>⟨fun b2=>⟨fun b3=>?_,fun b3=>?_⟩,fun b2=>⟨fun b3=>?_,fun b3=>?_⟩⟩,fun b1=>⟨fun b3=>?_,fun b3=>?_⟩⟩
       ·rw[if_pos ⟨b1,by omega⟩,if_pos b3]at hF;refine⟨(i+1,10*n+k,d+1,p+1),?_,⟨by simp only;omega,by simp only;omega,by simp only;omega,by simp only;omega,by simp only;omega,hF⟩,by simp only;omega⟩;refine q0h ?_ trivial;simp only[go_sem,↓reduceIte,Sub,Int.natCast_add,Int.natCast_mul]
       ·rw[if_pos ⟨b1,by omega⟩,if_neg b3]at hF;refine⟨(i+1,10*n+k,d+1,p),?_,⟨by simp only;omega,by simp only;omega,by simp only;omega,by simp only;omega,by simp only;omega,hF⟩,by simp only;omega⟩;refine q0h ?_ trivial;simp only[go_sem,↓reduceIte,Sub,Int.natCast_add,Int.natCast_mul]
       ·rw[if_neg (fun h=>b2 (by omega)),if_pos b3]at hF;refine⟨(i+1,n,d+1,p+1),?_,⟨by simp only;omega,by simp only;omega,by simp only;omega,by simp only;omega,by simp only;omega,hF⟩,by simp only;omega⟩;refine q0h ?_ trivial;simp only[go_sem,↓reduceIte,Sub,Int.natCast_add,Int.natCast_mul]
       ·rw[if_neg (fun h=>b2 (by omega)),if_neg b3]at hF;refine⟨(i+1,n,d+1,p),?_,⟨by simp only;omega,by simp only;omega,by simp only;omega,by simp only;omega,by simp only;omega,hF⟩,by simp only;omega⟩;refine q0h ?_ trivial;simp only[go_sem,↓reduceIte,Sub,Int.natCast_add,Int.natCast_mul]
       ·rw[if_neg (fun h=>b1 h.1),if_pos b3]at hF;refine⟨(i+1,n,d+1,p+1),?_,⟨by simp only;omega,by simp only;omega,by simp only;omega,by simp only;omega,by simp only;omega,hF⟩,by simp only;omega⟩;refine q0h ?_ trivial;simp only[go_sem,↓reduceIte,Sub,Int.natCast_add,Int.natCast_mul]
       ·rw[if_neg (fun h=>b1 h.1),if_neg b3]at hF;refine⟨(i+1,n,d+1,p),?_,⟨by simp only;omega,by simp only;omega,by simp only;omega,by simp only;omega,by simp only;omega,hF⟩,by simp only;omega⟩;refine q0h ?_ trivial;simp only[go_sem,↓reduceIte,Sub,Int.natCast_add,Int.natCast_mul]
    ·rw[Zah (by omega)]at hF;unfold z1F at hF;dsimp only[finP]at hF;refine⟨fun c1=>?_,fun c1=>?_⟩
     ·rw[if_pos (by omega)]at hF;subst hF;simp[resP,errD]
     ·rw[if_neg (by omega)]at hF;have hmx:(if p<0 then 0 else p)=((p.toNat:Nat):Int):=by split<;>omega
      rw[hmx];have hP9:p.toNat≤1000000:=by omega
      generalize p.toNat=P at hF hP9 ⊢;refine q0j (fun k:Nat=>⟨[(5,.d (.bool N)),(6,.d (.int .i64 (n*10 ^ k:Nat))),(8,.d (.int .i64 (P+k:Nat)))],[],[]⟩)
       (fun k=>k≤3-P) (fun k=>3-k) 0 ?_ ?_ ?_
      ·refine q0h ?_ trivial;simp only[go_sem,↓reduceIte,Sub,Int.natCast_add,Int.natCast_mul,Nat.pow_zero,Nat.mul_one,Zcn]
      ·omega
      ·intro k hk;have h10:10 ^ k≤10 ^ 3:=Nat.pow_le_pow_right (by decide) (by omega);have hM:n*10 ^ k≤10000000009*10 ^ 3:=Nat.mul_le_mul hn h10;simp only[go_sem,↓reduceIte];refine⟨fun c2=>?_,fun c2=>?_⟩
       ·have hs1:n*10 ^ (k+1)=n*10 ^ k*10:=by rw[Nat.pow_succ,Nat.mul_assoc]
        generalize hMM:n*10 ^ k=M at hM hs1 ⊢;simp(disch:=omega)only[IntWalk.i64_in,IntWalk.u8_in];refine⟨k+1,?_,by omega,by omega⟩;refine q0h ?_ trivial;simp only[go_sem,↓reduceIte,Sub,Int.natCast_add,Int.natCast_mul,hs1];rw[Int.add_assoc]
       ·have hk3:k=3-P:=by omega
        rw[←hk3]at hF;generalize hMM:n*10 ^ k=M at hM hF ⊢;refine⟨fun c3=>?_,fun c3=>?_⟩
        ·rw[if_pos (by omega)]at hF;subst hF;simp[resP,errD]
        ·rw[if_neg (by omega)]at hF;subst hF;cases N
         ·simp(disch:=omega)only[go_sem,↓reduceIte,resP,errD]
         ·simp(disch:=omega)only[go_sem,↓reduceIte,resP,errD,Int.zero_sub]
/-! ### Names, strings -/
def q8E:List UInt8→List UInt8→Option (List UInt8)
 |[],b=>some b
 |c::r,b=>
  if c.toNat=35 then
   match r with
   |x::y::q=>if hexI x.toNat<0∨hexI y.toNat<0 then none else q8E q (b++[z1J (16*hexI x.toNat+hexI y.toNat)])
   |_=>none
  else q8E r (b++[c])
def octB(c:UInt8):Bool:=decide (48≤c.toNat)&&decide (c.toNat≤55)
def oct1(e:UInt8):Int:=(e.toNat:Int)-48
def octG:Nat→Int→List UInt8→Nat→Int×Nat
 |0,v,_,k=>(v,k)
 |_+1,v,[],k=>(v,k)
 |m+1,v,x::q,k=>if octB x=true then octG m (8*v+oct1 x) q (k+1)else(v,k)
theorem z6T{m:Nat}{v:Int}{t:List UInt8}{k:Nat}(h:∀x q,t=x::q→octB x=false):octG m v t k=(v,k):=by
 match m,t with
 |0,_=>rfl
 |m+1,[]=>rfl
 |m+1,x::q=>rw[octG,if_neg (by simp[h x q rfl])]
def octL(e:UInt8)(r:List UInt8):Option UInt8×Nat:=(some (z1J (octG 2 (oct1 e) r 1).1),(octG 2 (oct1 e) r 1).2)
def escL:List UInt8→Option UInt8×Nat
 |[]=>(none,1)
 |e::r=>
  if e.toNat=110 then(some 10,1)else if e.toNat=114 then(some 13,1)else if e.toNat=116 then(some 9,1)else if e.toNat=98 then(some 8,1)else if e.toNat=102 then(some 12,1)
  else if e.toNat=10 then(none,1)
  else if e.toNat=13 then(if r.head?.map UInt8.toNat=some 10 then(none,2)else(none,1))
  else if octB e=false then(some e,1)
  else octL e r
def litF:Nat→Nat→List UInt8→List UInt8→Nat→Option (List UInt8×Nat)
 |_,_,[],_,_=>none
 |k+1,d,_::r,b,p=>litF k d r b (p+1)
 |0,d,c::r,b,p=>
  if c.toNat=92 then(if r=[]then none else litF (escL r).2 d r (b++(escL r).1.toList) (p+1))
  else if c.toNat=41 then(if d≤1 then some (b,p+1)else litF 0 (d-1) r (b++[c]) (p+1))
  else if c.toNat=40 then litF 0 (d+1) r (b++[c]) (p+1)
  else litF 0 d r (b++[c]) (p+1)
theorem z6L:∀(k:Nat) {d:Nat} {t b:List UInt8} {p:Nat},k≤t.length→litF k d t b p=litF 0 d (t.drop k) b (p+k)
 |0,_,_,_,_,_=>rfl
 |k+1,d,[],b,p,h=>by simp at h
 |k+1,d,c::r,b,p,h=>by
  rw[litF,z6L k (by simpa using h),Zcx];congr 1;omega
/-! ### Values -/
inductive RV where
 |ok (v:Val) (k:Nat)
 |bad (e:Nat)
def numV(n:Int):Val:=.mk 2 n [] [] []
def strV(s:List UInt8):Val:=.mk 3 0 s [] []
def namV(s:List UInt8):Val:=.mk 4 0 s [] []
def digF:List UInt8→Nat→Option Nat
 |[],n=>some n
 |c::r,n=>if c.toNat<48∨57<c.toNat then none else digF r (10*n+(c.toNat-48))
def objF(w:List UInt8):Option Nat:=
 if w.length<1∨2<w.length∨w.head?.map UInt8.toNat=some 48 then none
 else match digF w 0 with
  |none=>none
  |some n=>if n≤60 then some n else none
def z7a(s:List UInt8)(at_:Nat):Option (Nat×Nat):=
 match objF (q3a s at_)with
 |none=>none
 |some n=>
  let i:=q4h s (at_+(q3a s at_).length)
  if q3a s i=[48]then
   let j:=q4h s (i+1)
   if q3a s j=[82]then some (n,j+1)else none
  else none
def j4A(s:List UInt8)(at_:Nat):RV:=
 match litF 0 1 (s.drop at_) [] at_ with
 |none=>.bad 5
 |some (b,k)=>if b.length≤200 then .ok (strV b) k else .bad 2
def j8d(s:List UInt8)(at_:Nat):RV:=
 if(q67 (s.drop at_) (-1) []).2=0 then(if(q67 (s.drop at_) (-1) []).1.length≤200 then .ok (strV (q67 (s.drop at_) (-1) []).1) (at_+z7T (s.drop at_))else .bad 2)
 else .bad (q67 (s.drop at_) (-1) []).2
def z1B(s:List UInt8)(at_:Nat):Option (List UInt8×Nat):=
 match q8E (q3a s (at_+1)) []with
 |none=>none
 |some b=>if q2a b=true then some (b,at_+1+(q3a s (at_+1)).length)else none
def j0U(s:List UInt8)(at_:Nat):RV:=
 if q3a s at_=[110,117,108,108]then .ok zeroV (at_+4)
 else if q3a s at_=[116,114,117,101]then .ok (.mk 1 1 [] [] []) (at_+4)
 else if q3a s at_=[102,97,108,115,101]then .ok (.mk 1 0 [] [] []) (at_+5)
 else match z7a s at_ with
  |some (n,k)=>.ok (.mk 7 n [] [] []) k
  |none=>if(q75 (q3a s at_)).2=0 then .ok (numV (q75 (q3a s at_)).1) (at_+(q3a s at_).length)else .bad (q75 (q3a s at_)).2
open Go.Shelf
def z1K:Go.Shelf.Ren:=⟨fun|144=>82|143=>106|219=>123|217=>139|225=>138|224=>137|267=>140|266=>147|314=>148|n=>n,fun|9=>9|4=>4|3=>3|5=>5|46=>193|146=>198|51=>197|n=>n,fun|1=>0|n=>n⟩
theorem z1x:Go.Proofs.LaysM.n144 Tryz.prog z1K where
 mixed:=by kernel_rfl
 f143:=Tryz.func106.trans (congrArg some (by kernel_rfl))
 f144:=Tryz.func82.trans (congrArg some (by kernel_rfl))
 f217:=Tryz.func139.trans (congrArg some (by kernel_rfl))
 f219:=Tryz.func123.trans (congrArg some (by kernel_rfl))
 f224:=Tryz.func137.trans (congrArg some (by kernel_rfl))
 f225:=Tryz.func138.trans (congrArg some (by kernel_rfl))
 f266:=Tryz.func147.trans (congrArg some (by kernel_rfl))
 f267:=Tryz.func140.trans (congrArg some (by kernel_rfl))
 f314:=Tryz.func148.trans (congrArg some (by kernel_rfl))
 t3:=Tryz.underlying3
 a3:=Tryz.isAgg3
 z3:=Tryz.sizeOf3
 v3:=Tryz.zeroValue3
 t4:=Tryz.underlying4
 a4:=Tryz.isAgg4
 z4:=Tryz.sizeOf4
 v4:=Tryz.zeroValue4
 t5:=Tryz.underlying5
 a5:=Tryz.isAgg5
 z5:=Tryz.sizeOf5
 v5:=Tryz.zeroValue5
 t9:=Tryz.underlying9
 a9:=Tryz.isAgg9
 z9:=Tryz.sizeOf9
 v9:=Tryz.zeroValue9
 t46:=Tryz.underlying193
 a46:=Tryz.isAgg193
 z46:=Tryz.sizeOf193
 v46:=Tryz.zeroValue193
 t51:=Tryz.underlying197
 a51:=Tryz.isAgg197
 z51:=Tryz.sizeOf197
 v51:=Tryz.zeroValue197
 t146:=Tryz.underlying198
 a146:=Tryz.isAgg198
 z146:=Tryz.sizeOf198
 v146:=Tryz.zeroValue198
 g1:=by kernel_rfl
 i3:=by kernel_rfl
 i4:=by kernel_rfl
 i5:=by kernel_rfl
 i9:=by kernel_rfl
 i46:=by kernel_rfl
 i51:=by kernel_rfl
 i146:=by kernel_rfl
 m1:=by kernel_rfl
 s1_3:=fun w h=>Go.Proofs.cell_of_shapedOpen_int (zero := #[.int .i64 0]) (t:=3) h (of_decide_eq_true (by kernel_rfl)) (by kernel_rfl) rfl (by kernel_rfl) (by kernel_rfl) Tryz.underlying3
theorem z4U(s sub:List UInt8)(hs:s.length<4294967281):q0y Tryz.prog 82 [.str s,.str sub] (fun r=>r=.one (.bool (Lib.contains s sub))):=by
 intro f w vs hI ht hsz hrd;have hv:vs = #[.string ⟨s.toArray⟩,.string ⟨sub.toArray⟩]:=by
  have h1:=hrd 0 _ rfl;have h2:=hrd 1 _ rfl;match vs,hsz with
  |⟨[v,u]⟩,_=>cases h1;cases h2;rfl
 subst hv;obtain⟨m,hm⟩:=hI.2.1 0 (by kernel_rfl);refine(Any.strings_Contains z1x.ton144 ⟨s.toArray⟩ ⟨sub.toArray⟩ m w (by show s.toArray.size<_;simpa using hs) hm).mono fun e w' ⟨he,hw⟩=>?_
 subst hw;exact⟨_,_,f,rfl,he,.bool _,Zal _,fun b hb=>⟨rfl,rfl⟩,ht,rfl,rfl,rfl⟩
def z1j:q0m:=
 .seq (.reg [Qx 2 KF]) (.seq (.reg [Qc 3 0,Q 4 (.cvI .i32 (.t 3)),Q 5 (.i2s (.t 4)),⟨some 6,.call 82 [.k (.d (.str [40,41,60,62,91,93,123,125,47,37])),.t 5],none⟩,Qc 
 7 6,Qd 8 0 7 true,Qg 9 (.bin .lss (.t 8) (Kb 128)) 7 true,Q 10 (.pick (.t 7) (.t 9) KF),Qa 2 10]) .ret)
def z1r:List LRes:=[.tmp 2]
theorem z2P:q0t Tryz.prog 61 11 z1j z1r:=⟨_,_,Tryz.func61,rfl,by kernel_rfl,by kernel_rfl,rfl⟩
theorem z7f(c:UInt8):q0y Tryz.prog 61 [.int .u8 c.toNat] (fun r=>r=.one (.bool (z0E c))):=by
 have hc8:=q3s c;refine z2P.call rfl ?_;simp only[go_sem,↓reduceIte,z1j,z1r];rw[IntWalk.i32_in _ (by omega)]
 by_cases h:c.toNat<128
 ·rw[z98 h];refine q0i.of (z3G _ c) ?_;simp only[go_sem,↓reduceIte];refine⟨fun h1=>?_,fun h1=>?_⟩
  ·have h2:z0E c=true:=by simpa[z0E,z5O]using h1
   have h3:((c.toNat:Int)<128)=True:=eq_true (by omega);simp[h2,h3]
  ·have h2:z0E c=false:=by simpa[z0E,z5O]using h1
   rw[h2]
 ·have h2:z0E c=false:=by
   simp only[z0E,z5O,Zau,List.not_mem_nil,or_false,decide_eq_false_iff_not,←UInt8.toNat_inj];have:(40:UInt8).toNat=40:=rfl;rintro(e|e|e|e|e|e|e|e|e|e)<;>(rw[e]at h;exact h (by decide))
  have h3:((c.toNat:Int)<128)=False:=eq_false (by omega);rw[h2];refine q0i.of (z4U _ _ (by simp)) ?_;simp only[go_sem,↓reduceIte,h3]
theorem z8W(s:List UInt8)(n:Int):(if(s.length:Int)<(if n<0 then 0 else n)then(s.length:Int)else if n<0 then 0 else n)=((q61 s n:Nat):Int):=by
 unfold q61;split<;>split<;>omega
theorem z8X(s:List UInt8)(n:Int):q61 s n≤s.length:=by unfold q61;omega
theorem q4O{s:List UInt8}{k:Nat}(h:k≤s.length):q61 s k=k:=by unfold q61;omega
def z1h:q0m:=
 .seq (.reg [Qx 4 (Ki 0)]) (.seq (.reg [Qc 5 1,Q 6 (.mm true (.t 5) (Ki 0)),Qc 7 0,Q 8 (.len true (.t 7)),Q 9 (.mm false (.t 6) (.t 8)),Qa 1 9]) (.seq (.block 0 (.loop (.seq 
 (.seq (.reg [Qc 10 1,Qc 11 0,Q 12 (.len true (.t 11)),Q 13 (.bin .lss (.t 10) (.t 12))]) (.cond (.t 13) .skip (.exit 0))) (.block 1 (.block 2 (.seq (.reg [Qc 16 0,Qc 17 1,Q 
 18 (.idxS (.t 16) (.t 17)),⟨some 19,.call 60 [.t 18],none⟩,Qa 15 19]) (.cond (.t 15) (.reg [Qc 20 1,Q 21 (.bin .add (.t 20) (Ki 1)),Qa 1 21]) (.seq (.reg [Qc 23 0,Qc 24 1, 
 Q 25 (.idxS (.t 23) (.t 24)),Q 26 (.bin .eql (.t 25) (Kb 37)),Qa 22 26]) (.cond (.t 22) (.block 3 (.loop (.seq (.seq (.reg [Qc 27 1,Qc 28 0,Q 29 (.len true (.t 28)),Q 30 
 (.bin .lss (.t 27) (.t 29)),Qc 31 30,Qd 32 0 31 true,Qd 33 1 31 true,Qg 34 (.idxS (.t 32) (.t 33)) 31 true,Qg 35 (.bin .neq (.t 34) (Kb 10)) 31 true,Q 36 (.pick (.t 31) (.t 
 35) KF),Qc 37 36,Qd 38 0 37 true,Qd 39 1 37 true,Qg 40 (.idxS (.t 38) (.t 39)) 37 true,Qg 41 (.bin .neq (.t 40) (Kb 13)) 37 true,Q 42 (.pick (.t 37) (.t 41) KF)]) (.cond 
 (.t 42) .skip (.exit 3))) (.block 4 (.reg [Qc 43 1,Q 44 (.bin .add (.t 43) (Ki 1)),Qa 1 44]))))) (.seq (.reg [Qc 14 1,Qa 4 14]) .ret)))))))))) (.seq (.reg [Qc 45 1,Qa 4 45]) 
 .ret)))
def z1p:List LRes:=[.tmp 4]
theorem z2N:q0t Tryz.prog 35 46 z1h z1p:=⟨_,_,Tryz.func35,rfl,by kernel_rfl,by kernel_rfl,rfl⟩
theorem q7H(s:List UInt8)(n:Int)(hs:s.length≤1000000000):q0y Tryz.prog 35 [.str s,.int .i64 n] (fun r=>r=.one (.int .i64 (q4h s (q61 s n)))):=by
 refine z2N.call rfl ?_;have hk:=z8X s n;have he:=z8W s n;generalize q61 s n=k at *;generalize hR:q4h s k=R;unfold q4h at hR;simp only[go_sem,↓reduceIte,z1h,z1p,he];refine q0j (fun i:Nat=>⟨[(0,.d (.str s)),(1,.d (.int .i64 i))],[],[]⟩)
  (fun i=>i≤s.length∧q8c false (s.drop i) i=R) (fun i=>s.length-i) k ?_ ?_ ?_
 ·refine q0h ?_ trivial;simp only[go_sem,↓reduceIte,Sub,Int.natCast_add,Int.natCast_mul,he]
 ·exact⟨hk,hR⟩
 ·rintro i ⟨hi,hF⟩;simp only[go_sem,↓reduceIte];refine⟨fun hlt=>?_,fun hge=>?_⟩
  ·obtain⟨c,hc⟩:=get_some (l:=s) (i:=i) (by omega);have hc8:=q3s c;rw[z7E hc,q8c,if_neg (by decide)]at hF;simp only[go_sem,↓reduceIte,q0d,hc];refine q0i.of (z39 c.toNat) ?_;simp only[go_sem,↓reduceIte];refine⟨fun h2=>?_,fun h2=>?_⟩
   ·rw[if_neg (by intro e;rw[e]at h2;exact absurd h2 (by decide)),if_pos h2]at hF;simp(disch:=omega)only[IntWalk.i64_in,IntWalk.u8_in];refine⟨i+1,?_,⟨by omega,hF⟩,by omega⟩;refine q0h ?_ trivial;simp only[go_sem,↓reduceIte,Sub,Int.natCast_add,Int.natCast_mul]
   ·simp only[go_sem,↓reduceIte,q0d,hc];refine⟨fun h3=>?_,fun h3=>?_⟩
    ·rw[if_pos (by omega)]at hF;have c37:c.toNat=37:=by omega
     refine q0j (fun j:Nat=>⟨[(0,.d (.str s)),(1,.d (.int .i64 j))],[],[]⟩)
      (fun j=>i≤j∧j≤s.length∧q8c true (s.drop j) j=R) (fun j=>s.length-j) i ?_ ?_ ?_
     ·refine q0h ?_ trivial;simp only[go_sem,↓reduceIte,Sub,Int.natCast_add,Int.natCast_mul]
     ·refine⟨Zal _,hi,?_⟩;rw[z7E hc,q8c,if_pos rfl,c37];exact hF
     ·rintro j ⟨hij,hj,hG⟩;simp only[go_sem,↓reduceIte];refine⟨fun hlt2=>?_,fun hge2=>?_⟩
      ·obtain⟨x,hx⟩:=get_some (l:=s) (i:=j) (by omega);have hx8:=q3s x;rw[z7E hx,q8c,if_pos rfl]at hG;simp only[go_sem,↓reduceIte,q0d,hx];have end_:(x.toNat=10∨x.toNat=13)→i<j∧q8c false (s.drop j) j=R:=fun h=>by
        refine⟨?_,?_⟩
        ·rcases Zbc i j with q|q
         ·exact q
         ·have:i=j:=by omega
          subst this;rw[hc]at hx;cases hx;omega
        ·rw[z7E hx,q8c,if_neg (by decide),if_neg (by omega),if_pos (by rcases h with h|h<;>rw[h]<;>rfl)];rcases h with h|h<;>(rw[h]at hG;exact hG)
       refine⟨fun g1=>⟨fun g2=>?_,fun g2=>?_⟩,fun g1=>?_⟩
       ·simp(disch:=omega)only[IntWalk.i64_in,IntWalk.u8_in];have q:(decide (x.toNat≠10)&&decide (x.toNat≠13))=true:=by simp;omega
        rw[q]at hG;refine⟨j+1,?_,⟨by omega,by omega,hG⟩,by omega⟩;refine q0h ?_ trivial;simp only[go_sem,↓reduceIte,Sub,Int.natCast_add,Int.natCast_mul]
       ·obtain⟨q1,q2⟩:=end_ (.inr (by omega));refine⟨j,?_,⟨hj,q2⟩,by omega⟩;refine q0h ?_ trivial;simp only[go_sem,↓reduceIte,Sub,Int.natCast_add,Int.natCast_mul]
       ·obtain⟨q1,q2⟩:=end_ (.inl (by omega));refine⟨j,?_,⟨hj,q2⟩,by omega⟩;refine q0h ?_ trivial;simp only[go_sem,↓reduceIte,Sub,Int.natCast_add,Int.natCast_mul]
      ·refine⟨j,?_,⟨hj,?_⟩,by omega⟩
       ·refine q0h ?_ trivial;simp only[go_sem,↓reduceIte,Sub,Int.natCast_add,Int.natCast_mul]
       ·rw[Zah (by omega),q8c]at hG;rw[Zah (by omega),q8c];exact hG
    ·rw[if_neg (by omega),if_neg (by simp[h2])]at hF;subst hF;rfl
  ·rw[Zah (by omega),q8c]at hF;subst hF;simp only[go_sem,↓reduceIte]
/-! ### Words -/
theorem z1c(c:UInt8)(r:List UInt8):z0L (c::r)=if q91 c.toNat=false∧z0E c=false then c::z0L r else[]:=by
 unfold z0L;rw[List.takeWhile_cons]
 by_cases h:q91 c.toNat=false∧z0E c=false
 ·rw[if_pos h,if_pos (by simp[h.1,h.2])]
 ·rw[if_neg h,if_neg (by simpa using h)]
theorem j3F{s:List UInt8}{k i:Nat}{c:UInt8}(hk:k≤i)(hc:s[i]?=some c)(h1:q91 c.toNat=false)(h2:z0E c=false)(h:z0L (s.drop k)=(s.drop k).take (i-k)++z0L (s.drop i)):
  z0L (s.drop k)=(s.drop k).take (i+1-k)++z0L (s.drop (i+1)):=by
 have hl:(s.drop k)[i-k]?=some c:=by rw[Zbn,show k+(i-k)=i by omega];exact hc
 rw[h,z7E hc,z1c,if_pos ⟨h1,h2⟩,show i+1-k=(i-k)+1 by omega,Zbd,hl];simp
def z1i:q0m:=
 .seq (.reg [Qx 4 (.k (.d (.str [])))]) (.seq (.reg [Qc 6 1,Q 7 (.mm true (.t 6) (Ki 0)),Qc 8 0,Q 9 (.len true (.t 8)),Q 10 (.mm false (.t 7) (.t 9)),Qa 1 10]) (.seq (.reg [Qc 
 11 1,Qa 5 11]) (.seq (.block 0 (.loop (.seq (.seq (.reg [Qc 12 5,Qc 13 0,Q 14 (.len true (.t 13)),Q 15 (.bin .lss (.t 12) (.t 14)),Qc 16 15,Qd 17 0 16 true,Qd 18 5 16 
 true,Qg 19 (.idxS (.t 17) (.t 18)) 16 true,⟨some 20,.call 60 [.t 19],some (16,true)⟩,Qg 21 (.not (.t 20)) 16 true,Q 22 (.pick (.t 16) (.t 21) KF),Qc 23 22,Qd 24 0 23 
 true,Qd 25 5 23 true,Qg 26 (.idxS (.t 24) (.t 25)) 23 true,⟨some 27,.call 61 [.t 26],some (23,true)⟩,Qg 28 (.not (.t 27)) 23 true,Q 29 (.pick (.t 23) (.t 28) KF)]) (.cond 
 (.t 29) .skip (.exit 0))) (.block 1 (.reg [Qc 30 5,Q 31 (.bin .add (.t 30) (Ki 1)),Qa 5 31]))))) (.seq (.reg [Qc 32 0,Qc 33 1,Qc 34 5,Q 35 (.subS (.t 32) (some (.t 33)) 
 (some (.t 34))),Qa 4 35]) .ret))))
def z1q:List LRes:=[.tmp 4]
theorem z2O:q0t Tryz.prog 36 36 z1i z1q:=⟨_,_,Tryz.func36,rfl,by kernel_rfl,by kernel_rfl,rfl⟩
theorem q7L(s:List UInt8)(n:Int)(hs:s.length≤1000000000):q0y Tryz.prog 36 [.str s,.int .i64 n] (fun r=>r=.one (.str (q3a s (q61 s n)))):=by
 refine z2O.call rfl ?_;have hk:=z8X s n;have he:=z8W s n;generalize q61 s n=k at *;unfold q3a;simp only[go_sem,↓reduceIte,z1i,z1q,he];refine q0j (fun i:Nat=>⟨[(0,.d (.str s)),(1,.d (.int .i64 k)),(5,.d (.int .i64 i))],[],[]⟩)
  (fun i=>k≤i∧i≤s.length∧z0L (s.drop k)=(s.drop k).take (i-k)++z0L (s.drop i)) (fun i=>s.length-i) k ?_ ?_ ?_
 ·refine q0h ?_ trivial;simp only[go_sem,↓reduceIte,Sub,Int.natCast_add,Int.natCast_mul,he]
 ·exact⟨Zal _,hk,by simp⟩
 ·rintro i ⟨hki,hi,hF⟩;have fin:z0L (s.drop i)=[]→(s.drop k).take (i-k)=z0L (s.drop k):=fun h=>by rw[hF,h,Zdc]
  have done:z0L (s.drop i)=[]→(0≤(k:Int)∧(k:Int)≤i∧(i:Int)≤s.length)∧Res.one (D.str (cutI s k i))=Res.one (D.str (z0L (s.drop k))):=fun h=>
   ⟨by omega,by rw[z1U,List.drop_take,fin h]⟩
  simp only[go_sem,↓reduceIte];refine⟨fun hlt=>?_,fun hge=>?_⟩
  ·obtain⟨c,hc⟩:=get_some (l:=s) (i:=i) (by omega);simp only[go_sem,↓reduceIte,q0d,hc];refine q0i.of (z39 c.toNat) ?_;simp only[go_sem,↓reduceIte];refine⟨fun h1=>?_,fun h1=>?_⟩
   ·simp only[go_sem,↓reduceIte,q0d,hc];refine q0i.of (z7f c) ?_;simp only[go_sem,↓reduceIte];refine⟨fun h2=>?_,fun h2=>?_⟩
    ·simp(disch:=omega)only[IntWalk.i64_in,IntWalk.u8_in];refine⟨i+1,?_,⟨by omega,by omega,j3F hki hc h1 h2 hF⟩,by omega⟩;refine q0h ?_ trivial;simp only[go_sem,↓reduceIte,Sub,Int.natCast_add,Int.natCast_mul]
    ·exact done (by rw[z7E hc,z1c,if_neg (by simp[h2])])
   ·exact done (by rw[z7E hc,z1c,if_neg (by simp[h1])])
  ·exact done (by rw[Zah (by omega)];rfl)
theorem j2t{c x y:UInt8}{r b:List UInt8}(h:c.toNat=35):q8E (c::x::y::r) b=if hexI x.toNat<0∨hexI y.toNat<0 then none else q8E r (b++[z1J (16*hexI x.toNat+hexI y.toNat)]):=by
 rw[q8E,if_pos h]
theorem j2s{c:UInt8}{r b:List UInt8}(h:c.toNat=35)(hr:r.length<2):q8E (c::r) b=none:=by
 match r,hr with
 |[],_=>rw[q8E,if_pos h];intro x y q e;cases e
 |[x],_=>rw[q8E,if_pos h];intro x y q e;cases e
theorem j2u{c:UInt8}{r b:List UInt8}(h:c.toNat≠35):q8E (c::r) b=q8E r (b++[c]):=by
 match r with
 |[]=>simp[q8E,h]
 |[x]=>simp[q8E,h]
 |x::y::r=>rw[q8E,if_neg h]
/-! ### What is set is set as the document has it -/
/-! ### Fields put in, none of that name there -/
mutual
theorem Val.z5R{m m':Nat}(h:m≤m'):∀v:Val,v.sm m=true→v.sm m'=true
 |.mk k n s l f,hv=>by
  simp only[Val.sm,Zac,decide_eq_true_eq]at hv ⊢;exact⟨by omega,by omega,by omega,z9P h l hv.2.2.2.1,z9O h f hv.2.2.2.2⟩
theorem z9P{m m':Nat}(h:m≤m'):∀l:List Val,smL m l=true→smL m' l=true
 |[],_=>rfl
 |v::r,hl=>by
  simp only[smL,Zac]at hl ⊢;exact⟨Val.z5R h v hl.1,z9P h r hl.2⟩
theorem z9O{m m':Nat}(h:m≤m'):∀l:List Fld,smF m l=true→smF m' l=true
 |[],_=>rfl
 |.mk nm v::r,hl=>by
  simp only[smF,Fld.sm,Zac,decide_eq_true_eq]at hl ⊢;exact⟨⟨by omega,Val.z5R h v hl.1.2⟩,z9O h r hl.2⟩
end
/-! ### Parts -/
theorem z8d{s:List UInt8}{at_ k:Nat}{b:List UInt8}(ha:at_<s.length)(h:z1B s at_=some (b,k)):at_<k∧k≤s.length∧b.length≤200∧q2a b=true:=by
 unfold z1B at h;have hw:=q40 s (at_+1);split at h
 ·cases h
 ·rename_i b' hb;split at h
  ·rename_i hm;cases h;refine⟨by omega,by omega,?_,hm⟩;simp only[q2a,Zac,decide_eq_true_eq]at hm;exact hm.2.1
  ·cases h
theorem z9a:∀t:List UInt8,z7T t≤t.length
 |[]=>by simp[z7T]
 |c::r=>by unfold z7T;have:=z9a r;split<;>simp<;>omega
theorem q7Y:∀(t:List UInt8) (h:Int) (b:List UInt8),(q67 t h b).2=0∨(q67 t h b).2=4∨(q67 t h b).2=5
 |[],_,_=>by simp[q67]
 |c::r,h,b=>by
  unfold q67;split
  ·simp
  ·split
   ·exact q7Y r _ _
   ·split
    ·simp
    ·split
     ·exact q7Y r _ _
     ·exact q7Y r _ _
theorem j7K{s:List UInt8}{at_:Nat}(ha:at_≤s.length):match j8d s at_ with
  |.ok v k=>at_<k∧k≤s.length∧v.sm 300=true∧(ptV v).1=1
  |.bad e=>1≤e∧e≤8:=by
 have hg:=z9a (s.drop at_);rw[Zby]at hg;unfold j8d;have hc:=q7Y (s.drop at_) (-1) []
 by_cases h0:(q67 (s.drop at_) (-1) []).2=0
 ·rw[if_pos h0];have hne:s.drop at_≠[]:=fun e=>by rw[e]at h0;simp[q67]at h0
  have hpos:1≤z7T (s.drop at_):=by
   cases hd:s.drop at_ with
   |nil=>exact absurd hd hne
   |cons c r=>unfold z7T;split<;>omega
  split
  ·rename_i v k e;split at e
   ·cases e;rename_i hl;refine⟨by omega,by omega,Val.q6L.2 ⟨by simp only[strV,Val.s];omega,by simp[strV,Val.l],by simp[strV,Val.f],by simp[strV,Val.l],by simp[strV,Val.f]⟩,by simp[strV,ptV,ptL,ptF]⟩
   ·cases e
  ·rename_i e' e;split at e
   ·cases e
   ·cases e;omega
 ·rw[if_neg h0];simp only;omega
theorem q8W:∀(t:List UInt8) (k d:Nat) (b:List UInt8) (p:Nat) {q:List UInt8} {n:Nat},litF k d t b p=some (q,n)→p<n∧n≤p+t.length
 |[],_,_,_,_,_,_,h=>by simp[litF]at h
 |c::r,0,d,b,p,q,n,h=>by
  unfold litF at h;simp only[Zad];split at h
  ·split at h
   ·cases h
   ·have:=q8W r _ _ _ _ h;omega
  ·split at h
   ·split at h
    ·cases h;omega
    ·have:=q8W r _ _ _ _ h;omega
   ·split at h
    ·have:=q8W r _ _ _ _ h;omega
    ·have:=q8W r _ _ _ _ h;omega
 |c::r,k+1,d,b,p,q,n,h=>by
  unfold litF at h;simp only[Zad];have:=q8W r _ _ _ _ h;omega
theorem j3u{b:List UInt8}(h:b.length≤200):(strV b).sm 300=true∧(ptV (strV b)).1=1:=
 ⟨Val.q6L.2 ⟨by simp only[strV,Val.s];omega,by simp[strV,Val.l],by simp[strV,Val.f],by simp[strV,Val.l],by simp[strV,Val.f]⟩,by simp[strV,ptV,ptL,ptF]⟩
theorem j0m{s:List UInt8}{at_:Nat}(ha:at_≤s.length):match j4A s at_ with
  |.ok v k=>at_<k∧k≤s.length∧v.sm 300=true∧(ptV v).1=1
  |.bad e=>1≤e∧e≤8:=by
 unfold j4A;cases h:litF 0 1 (s.drop at_) [] at_ with
 |none=>simp
 |some p=>
  obtain⟨b,k⟩:=p;have:=q8W _ _ _ _ _ h;rw[Zby]at this;simp only
  by_cases hb:b.length≤200
  ·rw[if_pos hb];obtain⟨h1,h2⟩:=j3u hb;exact⟨by omega,by omega,h1,h2⟩
  ·rw[if_neg hb];simp
theorem j0F{s:List UInt8}{at_ n k:Nat}(ha:at_≤s.length)(h:z7a s at_=some (n,k)):at_<k∧k≤s.length∧1≤n∧n≤60:=by
 unfold z7a at h;have hw:=q40 s at_;split at h
 ·cases h
 ·rename_i m hm;have h1:=q5B (s:=s) (k:=at_+(q3a s at_).length) (by omega);simp only at h;split at h
  ·rename_i hq;have hw2:=q40 s (q4h s (at_+(q3a s at_).length));rw[hq]at hw2;simp only[Zad,Zam]at hw2;have h2:=q5B (s:=s) (k:=q4h s (at_+(q3a s at_).length)+1) (by omega);split at h
   ·rename_i hr;have hw3:=q40 s (q4h s (q4h s (at_+(q3a s at_).length)+1));rw[hr]at hw3;simp only[Zad,Zam]at hw3;cases h
    have hb:1≤n∧n≤60:=by
     unfold objF at hm;split at hm
     ·cases hm
     ·rename_i hc;generalize q3a s at_=w at hm hc;cases hd:digF w 0 with
      |none=>rw[hd]at hm;cases hm
      |some z=>
       rw[hd]at hm;simp only at hm;split at hm
       ·rename_i hz;cases hm;refine⟨?_,hz⟩;cases w with
        |nil=>simp at hc
        |cons a r=>
         have ha:a.toNat≠48:=fun e=>hc (.inr (.inr (by simp[e])))
         have mono:∀(t:List UInt8) (x y:Nat),digF t x=some y→x≤y:=fun t=>by
          induction t with
          |nil=>intro x y e;simp only[digF,Zax]at e;omega
          |cons c r ih=>
           intro x y e;unfold digF at e;split at e
           ·cases e
           ·have:=ih _ _ e;omega
         unfold digF at hd;split at hd
         ·cases hd
         ·have:=mono _ _ _ hd;omega
       ·cases hm
    exact⟨by omega,by omega,hb⟩
   ·cases h
  ·cases h
theorem z8m(w:List UInt8):(q75 w).2=0∨(q75 w).2=1∨(q75 w).2=4:=by
 unfold q75 finP;split
 ·simp
 ·split
  ·simp
  ·split<;>simp
theorem j0A:(q75 []).2=4:=rfl
theorem j0W{s:List UInt8}{at_:Nat}(ha:at_≤s.length):match j0U s at_ with
  |.ok v k=>at_<k∧k≤s.length∧v.sm 300=true∧(ptV v).1=1
  |.bad e=>1≤e∧e≤8:=by
 have plain:∀(k n:Int),(Val.mk k n [] [] []).sm 300=true∧(ptV (Val.mk k n [] [] [])).1=1:=fun k n=>⟨by simp[Val.sm,smL,smF],by simp[ptV,ptL,ptF]⟩
 have hw:=q40 s at_;unfold j0U
 by_cases h1:q3a s at_=[110,117,108,108]
 ·rw[if_pos h1];rw[h1]at hw;simp only[Zad,Zam]at hw;exact⟨by omega,by omega,plain 0 0⟩
 ·rw[if_neg h1]
  by_cases h2:q3a s at_=[116,114,117,101]
  ·rw[if_pos h2];rw[h2]at hw;simp only[Zad,Zam]at hw;exact⟨by omega,by omega,plain 1 1⟩
  ·rw[if_neg h2]
   by_cases h3:q3a s at_=[102,97,108,115,101]
   ·rw[if_pos h3];rw[h3]at hw;simp only[Zad,Zam]at hw;exact⟨by omega,by omega,plain 1 0⟩
   ·rw[if_neg h3];cases hr:z7a s at_ with
    |some p=>
     obtain⟨n,k⟩:=p;have:=j0F ha hr;exact⟨by omega,by omega,plain 7 n⟩
    |none=>
     simp only;have hc:=z8m (q3a s at_)
     by_cases h4:(q75 (q3a s at_)).2=0
     ·rw[if_pos h4];have hne:(q3a s at_).length≠0:=fun e=>by
       rw[Zbq.1 e,j0A]at h4;cases h4
      exact⟨by omega,by omega,plain 2 _⟩
     ·rw[if_neg h4];simp only;omega
/-! ### Values -/
theorem kmk(k n:Int)(s:List UInt8):(Val.mk k n s [] []).d=.agg [.int .i64 k,.int .i64 n,.str s,.list [],.list []]:=by rw[mk_d];rfl
def robj(s:List UInt8)(k:Int)(n:Nat):AObj:=.cells [.d (.str s),.d (.int .i64 k),.d (errD n)]
theorem q2c(s:List UInt8)(k:Int):robj s k 0=.cells [.d (.str s),.d (.int .i64 k),.d .nil]:=rfl
theorem z3g(s:List UInt8)(k:Int){n:Nat}(h:n≠0):robj s k n=.cells [.d (.str s),.d (.int .i64 k),.d (.iface 76 (.int .i64 n))]:=by rw[robj,q4k h]
theorem j59(s:List UInt8)(k:Int):robj s k 2=.cells [.d (.str s),.d (.int .i64 k),.d (.iface 76 (.int .i64 2))]:=rfl
theorem z9E(s:List UInt8)(k:Int):robj s k 4=.cells [.d (.str s),.d (.int .i64 k),.d (.iface 76 (.int .i64 4))]:=rfl
theorem z9F(s:List UInt8)(k:Int):robj s k 5=.cells [.d (.str s),.d (.int .i64 k),.d (.iface 76 (.int .i64 5))]:=rfl
theorem j5f:errD 2=.iface 76 (.int .i64 2)∧errD 3=.iface 76 (.int .i64 3)∧errD 4=.iface 76 (.int .i64 4)∧errD 5=.iface 76 (.int .i64 5):=⟨rfl,rfl,rfl,rfl⟩
def q2d:q0m:=
 .seq (.reg [Qc 4 0,Q 5 (.nck (.t 4)),Q 6 (.fa 2 (.t 5)),Q 7 (.ld false 1 (.t 6)),Q 8 (.eqN 0 false (.t 7))]) (.cond (.t 8) (.reg [Qc 9 0,Qc 10 1,Q 11 (.nck (.t 9)),Q 12 (.fa 
 2 (.t 11)),⟨none,.st 1 (.t 12) (.t 10),none⟩]) .skip)
def q2e:List LRes:=[]
theorem q2J:q0t Tryz.prog 63 13 q2d q2e:=⟨_,_,Tryz.func63,rfl,by kernel_rfl,by kernel_rfl,rfl⟩
theorem z2y(s:List UInt8)(k:Int)(e:Nat):q71 Tryz.prog 63 [.ptr (.x 0) 0,.d (errD e)] [robj s k 0] (.tuple []) [robj s k e]:=by
 rw[q2c]
 by_cases h:e=0
 ·subst h;rw[q2c,show errD 0=.nil from rfl];refine q2J.q4X (by kernel_rfl) rfl ?_;simp only[go_sem,↓reduceIte,q2d,q2e]
 ·rw[z3g s k h,q4k h];refine q2J.q4X (by kernel_rfl) rfl ?_;simp only[go_sem,↓reduceIte,q2d,q2e]
theorem j6K(s:List UInt8)(k:Int){n:Nat}(h:n≠0)(E:D):q71 Tryz.prog 63 [.ptr (.x 0) 0,.d E] [robj s k n] (.tuple []) [robj s k n]:=by
 rw[z3g s k h];refine q2J.q4X (by kernel_rfl) rfl ?_;simp only[go_sem,↓reduceIte,q2d,q2e]
def q2M:q0m:=
 .seq (.reg [Qx 4 KF]) (.seq (.reg [Qc 5 0,Q 6 (.len true (.t 5)),Qc 7 1,Q 8 (.len true (.t 7)),Q 9 (.bin .geq (.t 6) (.t 8)),Qc 10 9,Qd 11 0 10 true,Qd 12 1 10 true,Qg 13 
 (.len true (.t 12)) 10 true,Qg 14 (.subS (.t 11) none (some (.t 13))) 10 true,Qd 15 1 10 true,Qg 16 (.bin .eql (.t 14) (.t 15)) 10 true,Q 17 (.pick (.t 10) (.t 16) KF),Qa 4 
 17]) .ret)
def q2P:List LRes:=[.tmp 4]
theorem q4o:q0t Tryz.prog 125 18 q2M q2P:=⟨_,_,Tryz.func125,rfl,by kernel_rfl,by kernel_rfl,rfl⟩
def q6o:q0m:=
 .seq (.reg [Qx 4 KF]) (.seq (.reg [Qc 5 0,Qc 6 1,⟨some 7,.call 125 [.t 5,.t 6],none⟩,Qa 4 7]) .ret)
def q6s:List LRes:=[.tmp 4]
theorem q79:q0t Tryz.prog 109 8 q6o q6s:=⟨_,_,Tryz.func109,rfl,by kernel_rfl,by kernel_rfl,rfl⟩
def q8y(s t:List UInt8):Bool:=decide (s.take t.length=t)
theorem z3J(s t:List UInt8):q0y Tryz.prog 109 [.str s,.str t] (fun r=>r=.one (.bool (q8y s t))):=by
 have h:q0y Tryz.prog 125 [.str s,.str t] (fun r=>r=.one (.bool (q8y s t))):=by
  refine q4o.call rfl ?_;simp only[go_sem,↓reduceIte,q2M,q2P];refine⟨fun h=>⟨by omega,?_⟩,fun h=>?_⟩
  ·rw[show(0:Int)=((0:Nat):Int)from rfl,z1U,Zdf];rfl
  ·have:q8y s t=false:=by
    simp only[q8y,decide_eq_false_iff_not];intro e;have:=congrArg List.length e;simp at this;omega
   rw[this]
 refine q79.call rfl ?_;simp only[go_sem,↓reduceIte,q6o,q6s];refine q0i.of h ?_;simp only[go_sem,↓reduceIte]
def q43:q0m:=
 .seq (.reg [Qx 2 (Kb 0)]) (.seq (.dreg [Qc 3 0,Qc 4 0,Q 5 (.nck (.t 4)),Q 6 (.fa 0 (.t 5)),Q 7 (.ld false 1 (.t 6)),Qc 8 0,Q 9 (.nck (.t 8)),Q 10 (.fa 1 (.t 9)),Q 11 (.ld 
 false 1 (.t 10)),⟨some 12,.call 35 [.t 7,.t 11],none⟩,Q 13 (.nck (.t 3)),Q 14 (.fa 1 (.t 13)),⟨none,.st 1 (.t 14) (.t 12),none⟩]) (.seq (.seq (.dreg [Qc 15 0,Q 16 (.nck 
 (.t 15)),Q 17 (.fa 1 (.t 16)),Q 18 (.ld false 1 (.t 17)),Qc 19 0,Q 20 (.nck (.t 19)),Q 21 (.fa 0 (.t 20)),Q 22 (.ld false 1 (.t 21)),Q 23 (.len true (.t 22)),Q 24 (.bin 
 .lss (.t 18) (.t 23))]) (.cond (.t 24) (.seq (.dreg [Qc 25 0,Q 26 (.nck (.t 25)),Q 27 (.fa 0 (.t 26)),Q 28 (.ld false 1 (.t 27)),Qc 29 0,Q 30 (.nck (.t 29)),Q 31 (.fa 1 (.t 
 30)),Q 32 (.ld false 1 (.t 31)),Q 33 (.idxS (.t 28) (.t 32)),Qa 2 33]) .ret) .skip)) (.seq (.reg [Qc 34 0,Q 35 (.mkI 76 (Ki 5)),⟨some 36,.prim .call [.k (.fn (.func 63) [] 
 []),.t 34,.t 35] [],none⟩]) (.seq (.reg [Qx 2 (Kb 0)]) .ret))))
def q5d:List LRes:=[.tmp 2]
theorem q7f:q0t Tryz.prog 83 37 q43 q5d:=⟨_,_,Tryz.func83,rfl,by kernel_rfl,by kernel_rfl,rfl⟩
theorem j8v(s:List UInt8)(k:Nat)(hs:s.length≤60000)(hk:k≤s.length):q71 Tryz.prog 83 [.ptr (.x 0) 0] [robj s k 0]
  (.d (.int .u8 (match s[q4h s k]? with|none=>0|some c=>c.toNat))) [robj s (q4h s k) (match s[q4h s k]? with|none=>5|some _=>0)]:=by
 have hw:=q7H s ((k:Nat):Int) (by omega);rw[q4O hk]at hw;have hsk:=q5B hk;generalize q4h s k=q at *;rw[q2c];refine q7f.q4X (by kernel_rfl) rfl ?_;simp only[go_sem,↓reduceIte,q43,q5d];refine q6a.of hw ?_;simp only[go_sem,↓reduceIte];refine⟨fun h1=>?_,fun h1=>?_⟩
 ·obtain⟨c,hc⟩:=get_some (l:=s) (i:=q) (by omega);simp only[go_sem,↓reduceIte,q0d,hc];rfl
 ·rw[Zdl (by omega)];have hf:=z2y s (q:Int) 5;rw[q2c,show errD 5=.iface 76 (.int .i64 5)from rfl]at hf;refine q0e.mc1 (.x 0) rfl (hf) rfl rfl rfl rfl ⟨rfl,rfl⟩ ?_;simp only[go_sem,↓reduceIte,robj]
def q5D:q0m:=
 .seq (.reg [Qx 4 KF]) (.seq (.dreg [Qc 6 0,Q 7 (.nck (.t 6)),Q 8 (.fa 2 (.t 7)),Q 9 (.ld false 1 (.t 8)),Q 10 (.eqN 0 false (.t 9)),Qc 11 10,Qd 12 0 11 true,Qg 13 (.nck (.t 
 12)) 11 true,Qg 14 (.fa 0 (.t 13)) 11 true,Qg 15 (.ld false 1 (.t 14)) 11 true,Qd 16 0 11 true,Qg 17 (.nck (.t 16)) 11 true,Qg 18 (.fa 1 (.t 17)) 11 true,Qg 19 (.ld false 1 
 (.t 18)) 11 true,Qg 20 (.subS (.t 15) (some (.t 19)) none) 11 true,Qd 21 1 11 true,⟨some 22,.call 109 [.t 20,.t 21],some (11,true)⟩,Q 23 (.pick (.t 11) (.t 22) KF),Qa 5 
 23]) (.seq (.seq (.reg [Qc 24 5]) (.cond (.t 24) (.reg [Qc 25 0,Q 26 (.nck (.t 25)),Q 27 (.fa 1 (.t 26)),Q 28 (.ld false 1 (.t 27)),Qc 29 1,Q 30 (.len true (.t 29)),Q 31 
 (.bin .add (.t 28) (.t 30)),Q 32 (.nck (.t 25)),Q 33 (.fa 1 (.t 32)),⟨none,.st 1 (.t 33) (.t 31),none⟩]) .skip)) (.seq (.reg [Qc 34 5,Qa 4 34]) .ret)))
def q5G:List LRes:=[.tmp 4]
theorem q7A:q0t Tryz.prog 87 35 q5D q5G:=⟨_,_,Tryz.func87,rfl,by kernel_rfl,by kernel_rfl,rfl⟩
theorem j70(s:List UInt8)(k:Nat)(t:List UInt8)(hs:s.length≤60000)(hk:k≤s.length)(ht:t.length≤10):q71 Tryz.prog 87 [.ptr (.x 0) 0,.d (.str t)] [robj s k 0]
  (.d (.bool (q8y (s.drop k) t))) [robj s (if q8y (s.drop k) t=true then(k:Int)+t.length else k) 0]:=by
 have hp:=z3J (s.drop k) t;generalize q8y (s.drop k) t=b at *;rw[q2c];refine q7A.q4X (by kernel_rfl) rfl ?_;simp only[go_sem,↓reduceIte,q5D,q5G];rw[show(s.length:Int)=((s.length:Nat):Int)from rfl,z1U,Zcf];refine⟨by omega,?_⟩;refine q6a.of hp ?_;simp only[go_sem,↓reduceIte];refine⟨fun h=>?_,fun h=>?_⟩
 ·simp(disch:=omega)only[IntWalk.i64_in,IntWalk.u8_in];rw[if_pos h];rfl
 ·rw[if_neg (by simp[h])];rfl
def q3u:q0m:=
 .seq (.reg [⟨some 4,.allo [.int .i64 0,.int .i64 0,.str [],.list [],.list []],none⟩]) (.seq (.seq (.reg [Qc 5 1,Q 6 (.len true (.t 5)),Q 7 (.bin .gtr (.t 6) (Ki 200))]) 
 (.cond (.t 7) (.reg [Qc 8 0,Q 9 (.mkI 76 (Ki 2)),⟨some 10,.prim .call [.k (.fn (.func 63) [] []),.t 8,.t 9] [],none⟩]) .skip)) (.seq (.reg [Qc 11 1,Q 12 (.bld [(0,1),(1, 
 1),(2,1),(3,1),(4,1)] [.int .i64 0,.int .i64 0,.str [],.list [],.list []] [false,false,false,true,true] [(0,.k (.d (.int .i64 3))),(2,.t 11)]),⟨none,.st 5 (.t 
 4) (.t 12),none⟩]) .ret))
def q3x:List LRes:=[.cell 4 true 5]
theorem q4z:q0t Tryz.prog 85 13 q3u q3x:=⟨_,_,Tryz.func85,rfl,by kernel_rfl,by kernel_rfl,rfl⟩
theorem j9J(s:List UInt8)(k:Int)(t:List UInt8):q71 Tryz.prog 85 [.ptr (.x 0) 0,.d (.str t)] [robj s k 0] (.d (strV t).d) [robj s k (if t.length≤200 then 0 else 2)]:=by
 have hf:=z2y s k 2;rw[show errD 2=.iface 76 (.int .i64 2)from rfl]at hf;rw[q2c]at hf ⊢;refine q4z.q4X (by kernel_rfl) rfl ?_;simp only[go_sem,↓reduceIte,q3u,q3x];refine⟨fun h=>?_,fun h=>?_⟩
 ·refine q0e.mc1 (.x 0) rfl (hf) rfl rfl rfl rfl ⟨rfl,rfl⟩ ?_;simp only[go_sem,↓reduceIte,robj];rw[if_neg (by omega),Val.d_eq];exact⟨rfl,rfl⟩
 ·rw[if_pos (by omega),Val.d_eq];exact⟨rfl,rfl⟩
theorem j84(s:List UInt8)(k:Int)(t:List UInt8){n:Nat}(hn:n≠0):q71 Tryz.prog 85 [.ptr (.x 0) 0,.d (.str t)] [robj s k n] (.d (strV t).d) [robj s k n]:=by
 have hf:=j6K s k hn (errD 2);rw[show errD 2=.iface 76 (.int .i64 2)from rfl]at hf;rw[z3g s k hn]at hf ⊢;refine q4z.q4X (by kernel_rfl) rfl ?_;simp only[go_sem,↓reduceIte,q3u,q3x];refine⟨fun h=>?_,fun h=>?_⟩
 ·refine q0e.mc1 (.x 0) rfl (hf) rfl rfl rfl rfl ⟨rfl,rfl⟩ ?_;simp only[go_sem,↓reduceIte];rw[Val.d_eq];rfl
 ·rw[Val.d_eq];rfl
def z9o(s:List UInt8):Option (List UInt8×Nat)→AV→List AObj→Prop
 |some (b,k),r,hs=>r=.d (.str b)∧hs=[robj s k 0]
 |none,r,hs=>∃(b:List UInt8) (k:Int),r=.d (.str b)∧hs=[robj s k 4]
def q42:q0m:=
 .seq (.reg [Qx 2 (.k (.d (.str [])))]) (.seq (.reg [Qc 6 0,Q 7 (.nck (.t 6)),Q 8 (.fa 1 (.t 7)),Q 9 (.ld false 1 (.t 8)),Q 10 (.bin .add (.t 9) (Ki 1)),Q 11 (.nck (.t 6)),Q 
 12 (.fa 1 (.t 11)),⟨none,.st 1 (.t 12) (.t 10),none⟩]) (.seq (.dreg [Qc 13 0,Q 14 (.nck (.t 13)),Q 15 (.fa 0 (.t 14)),Q 16 (.ld false 1 (.t 15)),Qc 17 0,Q 18 (.nck (.t 
 17)),Q 19 (.fa 1 (.t 18)),Q 20 (.ld false 1 (.t 19)),⟨some 21,.call 36 [.t 16,.t 20],none⟩,Qa 3 21]) (.seq (.reg [Qc 22 0,Q 23 (.nck (.t 22)),Q 24 (.fa 1 (.t 23)),Q 25 
 (.ld false 1 (.t 24)),Qc 26 3,Q 27 (.len true (.t 26)),Q 28 (.bin .add (.t 25) (.t 27)),Q 29 (.nck (.t 22)),Q 30 (.fa 1 (.t 29)),⟨none,.st 1 (.t 30) (.t 28),none⟩]) (.seq 
 (.reg [⟨some 4,.nils 5 1,none⟩]) (.seq (.seq (.reg [Qx 5 (Ki 0)]) (.block 0 (.loop (.seq (.seq (.reg [Qc 31 5,Qc 32 3,Q 33 (.len true (.t 32)),Q 34 (.bin .lss (.t 31) (.t 
 33))]) (.cond (.t 34) .skip (.exit 0))) (.seq (.block 1 (.seq (.seq (.reg [Qc 37 3,Qc 38 5,Q 39 (.idxS (.t 37) (.t 38)),Q 40 (.bin .neq (.t 39) (Kb 35))]) (.cond (.t 40) (.seq 
 (.reg [Qc 41 4,Qc 42 3,Qc 43 5,Q 44 (.idxS (.t 42) (.t 43)),⟨some 45,.bsl 5 1 [.t 44],none⟩,⟨some 46,.app 5 1 1 false (.t 41) (.t 45),none⟩,Qa 4 46]) (.exit 1)) .skip)) 
 (.seq (.seq (.reg [Qc 47 5,Q 48 (.bin .add (.t 47) (Ki 2)),Qc 49 3,Q 50 (.len true (.t 49)),Q 51 (.bin .geq (.t 48) (.t 50)),Qc 52 51,Qd 53 3 52 false,Qd 54 5 52 false,Qg 
 55 (.bin .add (.t 54) (Ki 1)) 52 false,Qg 56 (.idxS (.t 53) (.t 55)) 52 false,⟨some 57,.call 107 [.t 56],some (52,false)⟩,Qg 58 (.bin .lss (.t 57) (Ki 0)) 52 false,Q 59 
 (.pick (.t 52) KT (.t 58)),Qc 60 59,Qd 61 3 60 false,Qd 62 5 60 false,Qg 63 (.bin .add (.t 62) (Ki 2)) 60 false,Qg 64 (.idxS (.t 61) (.t 63)) 60 false,⟨some 65,.call 107 
 [.t 64],some (60,false)⟩,Qg 66 (.bin .lss (.t 65) (Ki 0)) 60 false,Q 67 (.pick (.t 60) KT (.t 66))]) (.cond (.t 67) (.seq (.reg [Qc 68 0,Q 69 (.mkI 76 (Ki 4)),⟨some 70, 
 .prim .call [.k (.fn (.func 63) [] []),.t 68,.t 69] [],none⟩]) (.seq (.reg [Qx 2 (.k (.d (.str [])))]) .ret)) .skip)) (.seq (.dreg [Qc 71 4,Qc 72 3,Qc 73 5,Q 74 (.bin .add 
 (.t 73) (Ki 1)),Q 75 (.idxS (.t 72) (.t 74)),⟨some 76,.call 107 [.t 75],none⟩,Q 77 (.bin .mul (Ki 16) (.t 76)),Qc 78 3,Qc 79 5,Q 80 (.bin .add (.t 79) (Ki 2)),Q 81 
 (.idxS (.t 78) (.t 80)),⟨some 82,.call 107 [.t 81],none⟩,Q 83 (.bin .add (.t 77) (.t 82)),Q 84 (.cvI .u8 (.t 83)),⟨some 85,.bsl 5 1 [.t 84],none⟩,⟨some 86,.app 5 1 1 
 false (.t 71) (.t 85),none⟩,Qa 4 86]) (.reg [Qc 87 5,Q 88 (.bin .add (.t 87) (Ki 2)),Qa 5 88]))))) (.reg [Qc 35 5,Q 36 (.bin .add (.t 35) (Ki 1)),Qa 5 36])))))) (.seq (.seq 
 (.reg [Qc 89 4,Q 90 (.b2s (.t 89)),⟨some 91,.call 79 [.t 90],none⟩,Q 92 (.not (.t 91))]) (.cond (.t 92) (.reg [Qc 93 0,Q 94 (.mkI 76 (Ki 4)),⟨some 95,.prim .call [.k (.fn 
 (.func 63) [] []),.t 93,.t 94] [],none⟩]) .skip)) (.seq (.reg [Qc 96 4,Q 97 (.b2s (.t 96)),Qa 2 97]) .ret)))))))
def q5c:List LRes:=[.tmp 2]
theorem q7e:q0t Tryz.prog 84 98 q42 q5c:=⟨_,_,Tryz.func84,rfl,by kernel_rfl,by kernel_rfl,rfl⟩
theorem j2v(s:List UInt8)(k:Nat)(hs:s.length≤60000)(hk:k<s.length):q9s Tryz.prog 84 [.ptr (.x 0) 0] [robj s k 0] (z9o s (z1B s k)):=by
 have hw:=q7L s ((k+1:Nat):Int) (by omega);rw[q4O (by omega)]at hw;have hwl:=q40 s (k+1);generalize hR:z1B s k=R;unfold z1B at hR;generalize q3a s (k+1)=w at *;rw[Int.natCast_add,Zcp]at hw;rw[q2c];refine q7e.q4X (by kernel_rfl) rfl ?_;simp(disch:=omega)only[go_sem,↓reduceIte,q42,q5c];refine q6a.of hw ?_;simp(disch:=omega)only[go_sem,↓reduceIte]
 refine q0j (fun y:Nat×List UInt8=>⟨[(0,.ptr (.x 0) 0),(3,.d (.str w)),(4,.own (.t 4) 5 1 (q08 y.2)),(5,.d (.int .i64 y.1))],[],[(0,.cells [.d (.str s),.d (.int .i64 ((k:Int)+1+w.length)),.d .nil])]⟩)
  (fun y=>y.1≤w.length∧y.2.length≤y.1∧q8E (w.drop y.1) y.2=q8E w []) (fun y=>w.length-y.1) (0,[]) ?_ ?_ ?_
 ·refine Weak.mk ?_ ?_ ?_<;>simp only[go_sem,↓reduceIte,Sub,Int.natCast_add,Int.natCast_mul,q08]
 ·exact⟨by simp,by simp,by simp⟩
 ·rintro⟨i,b⟩ ⟨hi,hb,hF⟩;simp only at hi hb hF;have hblen:=q7M b;have hf:=z2y s ((k:Int)+1+w.length) 4;rw[q2c,show errD 4=.iface 76 (.int .i64 4)from rfl]at hf;simp only[go_sem,↓reduceIte];refine⟨fun hlt=>?_,fun hge=>?_⟩
  ·obtain⟨c,hc⟩:=get_some (l:=w) (i:=i) (by omega);have hc8:=q3s c;rw[q07 hc]at hF;have bad:R=none→z9o s R (.d (.str [])) [robj s ((k:Int)+1+w.length) 4]:=fun e=>by rw[e];exact⟨[],_,rfl,rfl⟩
   simp only[go_sem,↓reduceIte,q0d,hc];refine⟨fun h1=>?_,fun h1=>⟨fun h2=>?_,fun h2=>?_⟩⟩
   ·rw[j2u (by omega)]at hF;simp(disch:=omega)only[IntWalk.i64_in,IntWalk.u8_in];refine⟨by omega,(i+1,b++[c]),?_,⟨by simp only;omega,by simp only[Zaq,Zad,Zam];omega,hF⟩,by simp only;omega⟩;refine Weak.mk ?_ ?_ ?_<;>simp only[go_sem,↓reduceIte,Sub,Int.natCast_add,Int.natCast_mul,q25,q6y,q7u]
   ·rw[IntWalk.i64_in _ (by omega)]at h2;obtain⟨x,hx⟩:=get_some (l:=w) (i:=i+1) (by omega);obtain⟨y,hy⟩:=get_some (l:=w) (i:=i+2) (by omega);have hx8:=q3s x;have hy8:=q3s y;have hxb:=z2C x.toNat;have hyb:=z2C y.toNat;rw[q07 hx,q07 hy,j2t (by omega)]at hF;have g1:getI w ((i:Int)+1)=some x:=by rw[z0c,hx]
    have g2:getI w ((i:Int)+2)=some y:=by rw[show(i:Int)+2=((i+2:Nat):Int) by omega,q0d,hy]
    simp(disch:=omega)only[go_sem,↓reduceIte,g1];refine q0i.of (z1W (n:=x.toNat) (by omega)) ?_;simp(disch:=omega)only[go_sem,↓reduceIte];refine⟨fun h3=>?_,fun h3=>?_⟩
    ·simp(disch:=omega)only[go_sem,↓reduceIte,g2];refine q0i.of (z1W (n:=y.toNat) (by omega)) ?_;simp(disch:=omega)only[go_sem,↓reduceIte];refine⟨fun h4=>?_,fun h4=>?_⟩
     ·rw[if_pos (.inr h4)]at hF;rw[←hF]at hR;refine q0e.mc1 (.x 0) rfl (hf) rfl rfl rfl rfl ⟨rfl,rfl⟩ ?_;simp only[go_sem,↓reduceIte,robj];exact bad hR.symm
     ·rw[if_neg (by omega)]at hF;have hsn:=z6f (b:=b) (n:=16*hexI x.toNat+hexI y.toNat) (by omega) (by omega);simp(disch:=omega)only[go_sem,↓reduceIte,g1];refine q6a.of (z1W (n:=x.toNat) (by omega)) ?_;simp(disch:=omega)only[go_sem,↓reduceIte,g2];refine q6a.of (z1W (n:=y.toNat) (by omega)) ?_;simp(disch:=omega)only[go_sem,↓reduceIte];rw[hsn]
      refine⟨by omega,(i+3,b++[z1J (16*hexI x.toNat+hexI y.toNat)]),?_,⟨by simp only;omega,by simp only[Zaq,Zad,Zam];omega,hF⟩,by simp only;omega⟩;have e3:((i+3:Nat):Int)=(i:Int)+2+1:=by omega
      refine Weak.mk ?_ ?_ ?_<;>simp only[go_sem,↓reduceIte,Sub,Int.natCast_add,Int.natCast_mul,e3]
    ·rw[if_pos (.inl h3)]at hF;rw[←hF]at hR;refine q0e.mc1 (.x 0) rfl (hf) rfl rfl rfl rfl ⟨rfl,rfl⟩ ?_;simp only[go_sem,↓reduceIte,robj];exact bad hR.symm
   ·rw[IntWalk.i64_in _ (by omega)]at h2;rw[j2s (by omega) (by rw[Zby];omega)]at hF;rw[←hF]at hR;refine q0e.mc1 (.x 0) rfl (hf) rfl rfl rfl rfl ⟨rfl,rfl⟩ ?_;simp only[go_sem,↓reduceIte,robj];exact bad hR.symm
  ·rw[Zah (by omega),q8E]at hF;rw[←hF]at hR;simp only[go_sem,↓reduceIte,q2E];refine q0i.of (q8F b) ?_;simp only[go_sem,↓reduceIte];refine⟨fun h1=>?_,fun h1=>?_⟩
   ·refine q0e.mc1 (.x 0) rfl (hf) rfl rfl rfl rfl ⟨rfl,rfl⟩ ?_;simp only[go_sem,↓reduceIte,robj,q2E];rw[←hR];simp only[h1];exact⟨b,_,rfl,rfl⟩
   ·simp only[go_sem,↓reduceIte,q2E];rw[←hR];simp only[h1,if_true];refine⟨rfl,?_⟩;simp only[robj,Int.natCast_add,Zcp];rfl
def escI(o:Option UInt8):Int:=match o with
 |none => -1
 |some b=>b.toNat
theorem idx5(e:UInt8):Lib.indexByte [110,114,116,98,102] e=if e.toNat=110 then 0 else if e.toNat=114 then 1 else if e.toNat=116 then 2 else if e.toNat=98 then 3 else if e.toNat=102 then 4 else -1:=by
 have h:∀i:Fin 256,Lib.indexByte [110,114,116,98,102] (UInt8.ofNat i.val)=if i.val=110 then 0 else if i.val=114 then 1 else if i.val=116 then 2 else if i.val=98 then 3 else if i.val=102 then 4 else -1:=by decide +kernel
 have:=h ⟨e.toNat,q3s e⟩;simpa using this
theorem j7O{n:Int}(h:0≤n∧n≤511):IntKind.i64.wrap (((BitVec.ofInt IntKind.i64.bits n &&& BitVec.ofInt IntKind.i64.bits 255).toNat:Nat):Int)=((z1J n).toNat:Int):=by
 have hd:∀i:Fin 512,IntKind.i64.wrap (((BitVec.ofInt IntKind.i64.bits ((i.val:Nat):Int) &&& BitVec.ofInt IntKind.i64.bits 255).toNat:Nat):Int)=((z1J ((i.val:Nat):Int)).toNat:Int):=by decide +kernel
 have:=hd ⟨n.toNat,by omega⟩;simp only at this;rwa [show((n.toNat:Nat):Int)=n by omega]at this
def q8f:q0m:=
 .seq (.reg [Qx 4 (Ki 0),Qx 5 (Ki 0)]) (.seq (.reg [Qc 10 0,Qc 11 1,Q 12 (.idxS (.t 10) (.t 11)),Qa 6 12]) (.seq (.reg [Qc 13 6,⟨some 14,.call 124 [.k (.d (.str [110,114, 
 116,98,102])),.t 13],none⟩,Qa 7 14]) (.seq (.block 0 (.seq (.reg [Qc 16 7,Q 17 (.bin .geq (.t 16) (Ki 0)),Qa 15 17]) (.cond (.t 15) (.seq (.reg [Qc 18 7,Q 19 (.idxS (.k 
 (.d (.str [10,13,9,8,12]))) (.t 18)),Q 20 (.cvI .i64 (.t 19)),Qa 4 20,Qx 5 (Ki 1)]) .ret) (.seq (.reg [Qc 22 6,Q 23 (.bin .eql (.t 22) (Kb 10)),Qa 21 23]) (.cond (.t 21) 
 (.seq (.reg [Qx 4 (Ki (-1)),Qx 5 (Ki 1)]) .ret) (.seq (.reg [Qc 25 6,Q 26 (.bin .eql (.t 25) (Kb 13)),Qc 27 26,Qd 28 1 27 true,Qg 29 (.bin .add (.t 28) (Ki 1)) 27 true,Qd 
 30 0 27 true,Qg 31 (.len true (.t 30)) 27 true,Qg 32 (.bin .lss (.t 29) (.t 31)) 27 true,Q 33 (.pick (.t 27) (.t 32) KF),Qc 34 33,Qd 35 0 34 true,Qd 36 1 34 true,Qg 37 
 (.bin .add (.t 36) (Ki 1)) 34 true,Qg 38 (.idxS (.t 35) (.t 37)) 34 true,Qg 39 (.bin .eql (.t 38) (Kb 10)) 34 true,Q 40 (.pick (.t 34) (.t 39) KF),Qa 24 40]) (.cond (.t 24) 
 (.seq (.reg [Qx 4 (Ki (-1)),Qx 5 (Ki 2)]) .ret) (.seq (.reg [Qc 42 6,Q 43 (.bin .eql (.t 42) (Kb 13)),Qa 41 43]) (.cond (.t 41) (.seq (.reg [Qx 4 (Ki (-1)),Qx 5 (Ki 1)]) 
 .ret) (.seq (.reg [Qc 45 6,Q 46 (.bin .lss (.t 45) (Kb 48)),Qc 47 46,Qd 48 6 47 false,Qg 49 (.bin .gtr (.t 48) (Kb 55)) 47 false,Q 50 (.pick (.t 47) KT (.t 49)),Qa 44 50]) 
 (.cond (.t 44) (.seq (.reg [Qc 51 6,Q 52 (.cvI .i64 (.t 51)),Qa 4 52,Qx 5 (Ki 1)]) .ret) .skip))))))))))) (.seq (.reg [Qx 8 (Ki 0),Qx 9 (Ki 0)]) (.seq (.block 1 (.loop (.seq 
 (.seq (.reg [Qc 53 9,Q 54 (.bin .lss (.t 53) (Ki 3)),Qc 55 54,Qd 56 1 55 true,Qd 57 9 55 true,Qg 58 (.bin .add (.t 56) (.t 57)) 55 true,Qd 59 0 55 true,Qg 60 (.len true 
 (.t 59)) 55 true,Qg 61 (.bin .lss (.t 58) (.t 60)) 55 true,Q 62 (.pick (.t 55) (.t 61) KF),Qc 63 62,Qd 64 0 63 true,Qd 65 1 63 true,Qd 66 9 63 true,Qg 67 (.bin .add (.t 
 65) (.t 66)) 63 true,Qg 68 (.idxS (.t 64) (.t 67)) 63 true,Qg 69 (.bin .geq (.t 68) (Kb 48)) 63 true,Q 70 (.pick (.t 63) (.t 69) KF),Qc 71 70,Qd 72 0 71 true,Qd 73 1 71 
 true,Qd 74 9 71 true,Qg 75 (.bin .add (.t 73) (.t 74)) 71 true,Qg 76 (.idxS (.t 72) (.t 75)) 71 true,Qg 77 (.bin .leq (.t 76) (Kb 55)) 71 true,Q 78 (.pick (.t 71) (.t 77) 
 KF)]) (.cond (.t 78) .skip (.exit 1))) (.block 2 (.seq (.reg [Qc 79 8,Q 80 (.bin .mul (Ki 8) (.t 79)),Qc 81 0,Qc 82 1,Qc 83 9,Q 84 (.bin .add (.t 82) (.t 83)),Q 85 (.idxS 
 (.t 81) (.t 84)),Q 86 (.bin .sub (.t 85) (Kb 48)),Q 87 (.cvI .i64 (.t 86)),Q 88 (.bin .add (.t 80) (.t 87)),Qa 8 88]) (.reg [Qc 89 9,Q 90 (.bin .add (.t 89) (Ki 1)),Qa 9 
 90])))))) (.seq (.reg [Qc 91 8,Q 92 (.bin .and (.t 91) (Ki 255)),Qc 93 9,Qa 4 92,Qa 5 93]) .ret))))))
def q8i:List LRes:=[.tmp 4,.tmp 5]
theorem z0j:q0t Tryz.prog 108 94 q8f q8i:=⟨_,_,Tryz.func108,rfl,by kernel_rfl,by kernel_rfl,rfl⟩
theorem z6l(s:List UInt8)(k:Nat)(hs:s.length≤60000)(hk:k<s.length):q0y Tryz.prog 108 [.str s,.int .i64 k] (fun r=>r=.tup [.int .i64 (escI (escL (s.drop k)).1),.int .i64 (escL (s.drop k)).2]):=by
 obtain⟨e,he⟩:=get_some (l:=s) (i:=k) hk;have he8:=q3s e;have hx:=q9j [110,114,116,98,102] e;rw[idx5]at hx;rw[q07 he];generalize hR:escL (e::s.drop (k+1))=R;rw[escL]at hR;refine z0j.call rfl ?_;simp only[go_sem,↓reduceIte,q8f,q8i,q0d,he];refine q0i.of hx ?_
 by_cases q0:e.toNat=110
 ·rw[if_pos q0]at hR ⊢;subst hR;have g:getI ([10,13,9,8,12]:List UInt8) 0=some 10:=rfl;simp only[go_sem,↓reduceIte,g];rfl
 rw[if_neg q0]at hR ⊢
 by_cases q1:e.toNat=114
 ·rw[if_pos q1]at hR ⊢;subst hR;have g:getI ([10,13,9,8,12]:List UInt8) 1=some 13:=rfl;simp only[go_sem,↓reduceIte,g];rfl
 rw[if_neg q1]at hR ⊢
 by_cases q2:e.toNat=116
 ·rw[if_pos q2]at hR ⊢;subst hR;have g:getI ([10,13,9,8,12]:List UInt8) 2=some 9:=rfl;simp only[go_sem,↓reduceIte,g];rfl
 rw[if_neg q2]at hR ⊢
 by_cases q3:e.toNat=98
 ·rw[if_pos q3]at hR ⊢;subst hR;have g:getI ([10,13,9,8,12]:List UInt8) 3=some 8:=rfl;simp only[go_sem,↓reduceIte,g];rfl
 rw[if_neg q3]at hR ⊢
 by_cases q4:e.toNat=102
 ·rw[if_pos q4]at hR ⊢;subst hR;have g:getI ([10,13,9,8,12]:List UInt8) 4=some 12:=rfl;simp only[go_sem,↓reduceIte,g];rfl
 rw[if_neg q4]at hR ⊢
 by_cases q5:e.toNat=10
 ·rw[if_pos q5]at hR;subst hR;have z:((e.toNat:Int)=10)=True:=eq_true (by omega);simp only[go_sem,↓reduceIte,z];rfl
 rw[if_neg q5]at hR;have z5:((e.toNat:Int)=10)=False:=eq_false (by omega)
 by_cases q6:e.toNat=13
 ·rw[if_pos q6]at hR;have z:((e.toNat:Int)=13)=True:=eq_true (by omega);simp(disch:=omega)only[go_sem,↓reduceIte,z5,z];refine⟨fun h1=>?_,fun h1=>?_⟩
  ·obtain⟨x,hx⟩:=get_some (l:=s) (i:=k+1) (by omega);have hx8:=q3s x;have g:getI s ((k:Int)+1)=some x:=by rw[z0c,hx]
   have hh:(s.drop (k+1)).head?=some x:=by rw[q07 hx];rfl
   rw[hh]at hR;simp(disch:=omega)only[go_sem,↓reduceIte,g];refine⟨fun h2=>?_,fun h2=>?_⟩
   ·rw[if_pos (by simp;omega)]at hR;subst hR;rfl
   ·rw[if_neg (by simp;omega)]at hR;subst hR;exact⟨fun _=>rfl,fun h=>absurd (show(e.toNat:Int)=13 by omega) h⟩
  ·rw[Zah (by omega)]at hR;rw[if_neg (by simp)]at hR;subst hR;rfl
 rw[if_neg q6]at hR;have z6:((e.toNat:Int)=13)=False:=eq_false (by omega)
 by_cases q7:octB e=true
 ·rw[if_neg (by simp[q7])]at hR;have q7':=q7;simp only[octB,Zac,decide_eq_true_eq]at q7';have z7:((e.toNat:Int)<48)=False:=eq_false (by omega);have z8:(55<(e.toNat:Int))=False:=eq_false (by omega);simp only[go_sem,↓reduceIte,z5,z6,z7,z8];have h0:octG 3 0 (s.drop k) 0=octG 2 (oct1 e) (s.drop (k+1)) 1:=by
   rw[q07 he,octG,if_pos q7];congr 1;simp
  unfold octL at hR;rw[←h0]at hR;generalize hG:octG 3 0 (s.drop k) 0=G at hR;refine q0j (fun y:Nat×Int=>⟨[(0,.d (.str s)),(1,.d (.int .i64 k)),(8,.d (.int .i64 y.2)),(9,.d (.int .i64 y.1))],[],[]⟩)
   (fun y=>y.1≤3∧k+y.1≤s.length∧0≤y.2∧y.2≤511∧(y.1=0→y.2=0)∧(y.1=1→y.2≤7)∧(y.1=2→y.2≤63)∧octG (3-y.1) y.2 (s.drop (k+y.1)) y.1=G) (fun y=>3-y.1) (0,0) ?_ ?_ ?_
  ·refine q0h ?_ trivial;simp only[go_sem,↓reduceIte,Sub,Int.natCast_add,Int.natCast_mul]
  ·exact⟨by simp,by simp only;omega,by simp,by simp,by simp,by simp,by simp,hG⟩
  ·rintro⟨j,v⟩ ⟨hj,hjl,hv0,hv1,hv2,hv3,hv4,hF⟩;simp only at hj hjl hv0 hv1 hv2 hv3 hv4 hF;have stop:octG (3-j) v (s.drop (k+j)) j=(v,j)→Res.tup [D.int .i64 (IntKind.i64.wrap (((BitVec.ofInt IntKind.i64.bits v &&& BitVec.ofInt IntKind.i64.bits 255).toNat:Nat):Int)),D.int .i64 j]=Res.tup [D.int .i64 (escI R.1),D.int .i64 R.2]:=fun h=>by
    rw[h]at hF;subst hF;subst hR;rw[j7O ⟨hv0,hv1⟩];rfl
   have ej:(k:Int)+(j:Int)=((k+j:Nat):Int):=by omega
   simp(disch:=omega)only[go_sem,↓reduceIte];refine⟨fun c1=>⟨fun c2=>?_,fun c2=>stop (z6T fun x q h=>by rw[Zah (by omega)]at h;cases h)⟩,fun c1=>stop (by rw[show 3-j=0 by omega];rfl)⟩;obtain⟨x,hx⟩:=get_some (l:=s) (i:=k+j) (by omega);have hx8:=q3s x;have stop2:=fun(h:octB x=false)=>stop (z6T fun x' q h'=>by rw[q07 hx]at h';cases h';exact h)
   have gx:getI s ((k:Int)+(j:Int))=some x:=by rw[ej,q0d,hx]
   simp(disch:=omega)only[go_sem,↓reduceIte,gx];refine⟨fun c3=>⟨fun c4=>?_,fun c4=>stop2 (by simp[octB];omega)⟩,fun c3=>stop2 (by simp[octB];omega)⟩;have ox:octB x=true:=by simp[octB];omega
   rw[q07 hx,show 3-j=(3-(j+1))+1 by omega,octG,if_pos ox]at hF;refine⟨(j+1,8*v+oct1 x),?_,⟨by simp only;omega,by simp only;omega,by simp only[oct1];omega,by simp only[oct1];omega,by simp only;omega,by simp only[oct1];omega,by simp only[oct1];omega,hF⟩,by simp only;omega⟩;have zz:decide ((x.toNat:Int)≤55)=true:=by simpa using c4
   refine q0h ?_ trivial;simp only[go_sem,↓reduceIte,Sub,Int.natCast_add,Int.natCast_mul,oct1,zz];all_goals((repeat' apply And.intro)<;>(congr 2<;>omega))
 ·have q7:octB e=false:=by simpa using q7
  rw[if_pos q7]at hR;subst hR;simp only[go_sem,↓reduceIte,z5,z6];rw[IntWalk.i64_in _ (by omega)];refine⟨fun h1=>?_,fun h1=>rfl⟩;refine⟨fun h2=>rfl,fun h2=>?_⟩;simp[octB]at q7;exfalso;omega
theorem j72{t:List UInt8}(ht:t≠[]):1≤(escL t).2∧(escL t).2≤t.length:=by
 cases t with
 |nil=>exact absurd rfl ht
 |cons e r=>
  have g:∀(m:Nat) (v:Int) (q:List UInt8) (k:Nat),k≤(octG m v q k).2∧(octG m v q k).2≤k+q.length:=fun m=>by
   induction m with
   |zero=>intro v q k;simp[octG]
   |succ m ih=>
    intro v q k;cases q with
    |nil=>simp[octG]
    |cons x q=>
     rw[octG];split
     ·have:=ih (8*v+oct1 x) q (k+1);simp only[Zad];omega
     ·simp
  have h3:=g 2 (oct1 e) r 1;rw[escL];simp only[Zad];repeat' split
  all_goals first
   |(simp only[octL];omega)
   |(simp only;omega)
   |skip
  all_goals
   rename_i h;cases r with
   |nil=>simp at h
   |cons x q=>simp only[Zad];omega
def q33:q0m:=
 .seq (.reg [Qx 2 (.k (.d (.str [])))]) (.seq (.reg [Qc 8 0,Q 9 (.nck (.t 8)),Q 10 (.fa 1 (.t 9)),Q 11 (.ld false 1 (.t 10)),Q 12 (.bin .add (.t 11) (Ki 1)),Q 13 (.nck (.t 8)), 
 Q 14 (.fa 1 (.t 13)),⟨none,.st 1 (.t 14) (.t 12),none⟩]) (.seq (.reg [⟨some 3,.nils 5 1,none⟩]) (.seq (.reg [Qx 4 (Ki 1)]) (.seq (.block 0 (.loop (.seq (.seq (.dreg [Qc 15 
 0,Q 16 (.nck (.t 15)),Q 17 (.fa 1 (.t 16)),Q 18 (.ld false 1 (.t 17)),Qc 19 0,Q 20 (.nck (.t 19)),Q 21 (.fa 0 (.t 20)),Q 22 (.ld false 1 (.t 21)),Q 23 (.len true (.t 
 22)),Q 24 (.bin .lss (.t 18) (.t 23))]) (.cond (.t 24) .skip (.exit 0))) (.block 1 (.seq (.dreg [Qc 25 0,Q 26 (.nck (.t 25)),Q 27 (.fa 0 (.t 26)),Q 28 (.ld false 1 (.t 27)), 
 Qc 29 0,Q 30 (.nck (.t 29)),Q 31 (.fa 1 (.t 30)),Q 32 (.ld false 1 (.t 31)),Q 33 (.idxS (.t 28) (.t 32)),Qa 5 33]) (.seq (.reg [Qc 34 0,Q 35 (.nck (.t 34)),Q 36 (.fa 1 (.t 
 35)),Q 37 (.ld false 1 (.t 36)),Q 38 (.bin .add (.t 37) (Ki 1)),Q 39 (.nck (.t 34)),Q 40 (.fa 1 (.t 39)),⟨none,.st 1 (.t 40) (.t 38),none⟩]) (.seq (.seq (.reg [Qc 41 5]) 
 (.block 2 (.seq (.reg [Q 43 (.bin .eql (.t 41) (Kb 92)),Qa 42 43]) (.cond (.t 42) (.seq (.seq (.dreg [Qc 44 0,Q 45 (.nck (.t 44)),Q 46 (.fa 1 (.t 45)),Q 47 (.ld false 1 (.t 
 46)),Qc 48 0,Q 49 (.nck (.t 48)),Q 50 (.fa 0 (.t 49)),Q 51 (.ld false 1 (.t 50)),Q 52 (.len true (.t 51)),Q 53 (.bin .eql (.t 47) (.t 52))]) (.cond (.t 53) (.exit 1) 
 .skip)) (.seq (.dreg [Qc 55 0,Q 56 (.nck (.t 55)),Q 57 (.fa 0 (.t 56)),Q 58 (.ld false 1 (.t 57)),Qc 59 0,Q 60 (.nck (.t 59)),Q 61 (.fa 1 (.t 60)),Q 62 (.ld false 1 (.t 
 61)),⟨some 63,.call 108 [.t 58,.t 62],none⟩,Qc 54 63,Q 64 (.ext 0 (.t 54)),Q 65 (.ext 1 (.t 54)),Qc 6 64,Qc 7 65]) (.seq (.reg [Qc 66 0,Q 67 (.nck (.t 66)),Q 68 (.fa 1 
 (.t 67)),Q 69 (.ld false 1 (.t 68)),Qc 70 7,Q 71 (.bin .add (.t 69) (.t 70)),Q 72 (.nck (.t 66)),Q 73 (.fa 1 (.t 72)),⟨none,.st 1 (.t 73) (.t 71),none⟩]) (.seq (.seq 
 (.reg [Qc 74 6,Q 75 (.bin .geq (.t 74) (Ki 0))]) (.cond (.t 75) (.reg [Qc 76 3,Qc 77 6,Q 78 (.cvI .u8 (.t 77)),⟨some 79,.bsl 5 1 [.t 78],none⟩,⟨some 80,.app 5 1 1 false 
 (.t 76) (.t 79),none⟩,Qa 3 80]) .skip)) (.exit 1))))) (.seq (.reg [Q 82 (.bin .eql (.t 41) (Kb 40)),Qa 81 82]) (.cond (.t 81) (.reg [Qc 83 4,Q 84 (.bin .add (.t 83) (Ki 1)), 
 Qa 4 84]) (.seq (.reg [Q 86 (.bin .eql (.t 41) (Kb 41)),Qa 85 86]) (.cond (.t 85) (.seq (.reg [Qc 87 4,Q 88 (.bin .sub (.t 87) (Ki 1)),Qa 4 88]) (.seq (.reg [Qc 89 4,Q 90 
 (.bin .eql (.t 89) (Ki 0))]) (.cond (.t 90) (.seq (.reg [Qc 91 3,Q 92 (.b2s (.t 91)),Qa 2 92]) .ret) .skip))) .skip)))))))) (.reg [Qc 93 3,Qc 94 5,⟨some 95,.bsl 5 1 [.t 94], 
 none⟩,⟨some 96,.app 5 1 1 false (.t 93) (.t 95),none⟩,Qa 3 96])))))))) (.seq (.reg [Qc 97 0,Q 98 (.mkI 76 (Ki 5)),⟨some 99,.prim .call [.k (.fn (.func 63) [] []),.t 97, 
 .t 98] [],none⟩]) (.seq (.reg [Qx 2 (.k (.d (.str [])))]) .ret))))))
def q37:List LRes:=[.tmp 2]
theorem q6c:q0t Tryz.prog 86 100 q33 q37:=⟨_,_,Tryz.func86,rfl,by kernel_rfl,by kernel_rfl,rfl⟩
theorem j2j(s:List UInt8)(k:Nat)(hs:s.length≤60000)(hk:k<s.length):q9s Tryz.prog 86 [.ptr (.x 0) 0] [robj s k 0]
  (fun r hs'=>match litF 0 1 (s.drop (k+1)) [] (k+1)with
   |some (b,k')=>r=.d (.str b)∧hs'=[robj s k' 0]
   |none=>∃k':Int,r=.d (.str [])∧hs'=[robj s k' 5]):=by
 generalize hR:litF 0 1 (s.drop (k+1)) [] (k+1)=R;rw[q2c];refine q6c.q4X (by kernel_rfl) rfl ?_;simp(disch:=omega)only[go_sem,↓reduceIte,q33,q37];refine q0j (fun y:Nat×Nat×List UInt8=>⟨[(0,.ptr (.x 0) 0),(3,.own (.t 3) 5 1 (q08 y.2.2)),(4,.d (.int .i64 y.2.1))],[],[(0,.cells [.d (.str s),.d (.int .i64 y.1),.d .nil])]⟩)
  (fun y=>y.1≤s.length∧y.2.2.length≤y.1∧1≤y.2.1∧y.2.1≤y.1+1∧litF 0 y.2.1 (s.drop y.1) y.2.2 y.1=R) (fun y=>s.length-y.1) (k+1,1,[]) ?_ ?_ ?_
 ·refine Weak.mk ?_ ?_ ?_<;>simp only[go_sem,↓reduceIte,Sub,Int.natCast_add,Int.natCast_mul,q08]
 ·exact⟨hk,by simp,by simp,by simp,hR⟩
 ·rintro⟨i,d,b⟩ ⟨hi,hb,hd1,hd2,hF⟩;simp only at hi hb hd1 hd2 hF;have hblen:=q7M b;simp only[go_sem,↓reduceIte];refine⟨fun hlt=>?_,fun hge=>?_⟩
  ·obtain⟨c,hc⟩:=get_some (l:=s) (i:=i) (by omega);have hc8:=q3s c;rw[q07 hc,litF]at hF;simp(disch:=omega)only[go_sem,↓reduceIte,q0d,hc];refine⟨fun h92=>?_,fun h92=>⟨fun h40=>?_,fun h40=>⟨fun h41=>⟨fun hd0=>?_,fun hd0=>?_⟩,fun h41=>?_⟩⟩⟩
   ·rw[if_pos (by omega)]at hF;refine⟨fun he=>?_,fun he=>?_⟩
    ·rw[if_pos (Zah (by omega))]at hF;refine⟨(i+1,d,b),?_,⟨by simp only;omega,by simp only;omega,hd1,by simp only;omega,?_⟩,by simp only;omega⟩
     ·refine Weak.mk ?_ ?_ ?_<;>simp only[go_sem,↓reduceIte,Sub,Int.natCast_add,Int.natCast_mul]
     ·simp only;rw[Zah (by omega),litF];exact hF
    ·have hne:s.drop (i+1)≠[]:=fun e=>by have:=congrArg List.length e;simp at this;omega
     rw[if_neg hne]at hF;have hesc:=z6l s (i+1) hs (by omega);have hen:=j72 hne;rw[Zby]at hen;rw[z6L _ (by rw[Zby];omega),Zdm]at hF;generalize escL (s.drop (i+1))=X at hesc hen hF;obtain⟨xo,xn⟩:=X;simp only at hesc hen hF;rw[Int.natCast_add,Zcp]at hesc;refine q6a.of hesc ?_;cases xo with
     |none=>
      simp(disch:=omega)only[go_sem,↓reduceIte,escI];refine⟨(i+1+xn,d,b),?_,⟨by simp only;omega,by simp only;omega,hd1,by simp only;omega,by simpa using hF⟩,by simp only;omega⟩;refine Weak.mk ?_ ?_ ?_<;>simp only[go_sem,↓reduceIte,Sub,Int.natCast_add,Int.natCast_mul]
     |some x=>
      have hx8:=q3s x;simp(disch:=omega)only[go_sem,↓reduceIte,escI];refine⟨fun _=>⟨by omega,(i+1+xn,d,b++[x]),?_,⟨by simp only;omega,by simp only[Zaq,Zad,Zam];omega,hd1,by simp only;omega,hF⟩,by simp only;omega⟩,fun h=>by exfalso;omega⟩;refine Weak.mk ?_ ?_ ?_<;>simp only[go_sem,↓reduceIte,Sub,Int.natCast_add,Int.natCast_mul,q25,q6y,q7u]
   ·rw[if_neg (by omega),if_neg (by omega),if_pos (by omega)]at hF;refine⟨by omega,(i+1,d+1,b++[c]),?_,⟨by simp only;omega,by simp only[Zaq,Zad,Zam];omega,by simp only;omega,by simp only;omega,hF⟩,by simp only;omega⟩;refine Weak.mk ?_ ?_ ?_<;>simp only[go_sem,↓reduceIte,Sub,Int.natCast_add,Int.natCast_mul,q25,q6y,q7u]
   ·rw[if_neg (by omega),if_pos (by omega),if_pos (by omega)]at hF;subst hF;simp(disch:=omega)only[go_sem,↓reduceIte,q2E];simp only[robj,Int.natCast_add,Zcp];rfl
   ·rw[if_neg (by omega),if_pos (by omega),if_neg (by omega)]at hF;refine⟨by omega,(i+1,d-1,b++[c]),?_,⟨by simp only;omega,by simp only[Zaq,Zad,Zam];omega,by simp only;omega,by simp only;omega,hF⟩,by simp only;omega⟩;have e1:((d-1:Nat):Int)=(d:Int)-1:=by omega
    refine Weak.mk ?_ ?_ ?_<;>simp only[go_sem,↓reduceIte,Sub,Int.natCast_add,Int.natCast_mul,q25,q6y,q7u,e1]
   ·rw[if_neg (by omega),if_neg (by omega),if_neg (by omega)]at hF;refine⟨by omega,(i+1,d,b++[c]),?_,⟨by simp only;omega,by simp only[Zaq,Zad,Zam];omega,by simp only;omega,by simp only;omega,hF⟩,by simp only;omega⟩;refine Weak.mk ?_ ?_ ?_<;>simp only[go_sem,↓reduceIte,Sub,Int.natCast_add,Int.natCast_mul,q25,q6y,q7u]
  ·rw[Zah (by omega),litF]at hF;subst hF;have hf:=z2y s (i:Int) 5;rw[q2c,show errD 5=.iface 76 (.int .i64 5)from rfl]at hf;refine q0e.mc1 (.x 0) rfl (hf) rfl rfl rfl rfl ⟨rfl,rfl⟩ ?_;simp only[go_sem,↓reduceIte,robj];exact⟨_,rfl⟩
end Go.Av.Tryz
