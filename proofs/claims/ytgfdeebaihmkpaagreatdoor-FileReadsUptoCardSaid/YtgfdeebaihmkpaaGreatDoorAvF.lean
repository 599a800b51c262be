import Derived.Test.YtgfdeebaihmkpaaGreatDoorAvE
import Derived.WalkKit
import Derived.ProofKit
import Derived.OpenShut
import Derived.ShutString
import Derived.ChangeOld
import Derived.Below
import Derived.ChangeMaps
import Derived.Lay
import Derived.Lib.LaidU8
import Derived.Lib.LaidTab
import Derived.LaidMore
import Derived.Lib.Builder
import Derived.Lib.UnsafeStr
set_option linter.unusedSectionVars false
/- Small facts that walks end in. -/
namespace Go.Av
theorem q0a{α:Type}(l:List α)(i:Nat):getI l (i:Int)=l[i]?:=by simp[getI]
theorem z4Z{α:Type}{l:List α}{i:Nat}{c:α}(h:l[i]?=some c):l.take (i+1)=l.take i++[c]:=by
 rw[Zcu,h];rfl
theorem get_some{α:Type}{l:List α}{i:Nat}(h:i<l.length):∃c,l[i]?=some c:=⟨l[i],by simp[h]⟩
theorem q0j(a b:List UInt8):q0v (a++b)=q0v a++q0v b:=by simp[q0v]
theorem q0L(a:UInt8)(b:List UInt8):q0v (a::b)=.int .u8 a.toNat::q0v b:=rfl
theorem q06:q0v []=[]:=rfl
theorem q0o(a:List UInt8):(q0v a).length=a.length:=by simp[q0v]
theorem q1Q(c:UInt8):c.toNat<256:=c.toNat_lt
theorem z6o(n k:Nat):Int.fdiv (n:Int) (2 ^ k)=((n / 2 ^ k:Nat):Int):=by
 rw[Int.fdiv_eq_ediv_of_nonneg _ (by exact Int.le_of_lt (Int.pow_pos (by decide)))];simp
theorem j3f{n m:Nat}(hn:n<256)(hm:m<256):IntKind.u8.wrap (((BitVec.ofInt IntKind.u8.bits (n:Int) &&& BitVec.ofInt IntKind.u8.bits (m:Int)).toNat:Nat):Int)=((n &&& m:Nat):Int):=by
 have h1:∀x:Nat,x<256→(BitVec.ofInt 8 (x:Int)).toNat=x:=fun x hx=>by
  simp;omega
 show IntKind.u8.wrap (((BitVec.ofInt 8 (n:Int) &&& BitVec.ofInt 8 (m:Int)).toNat:Nat):Int)=_
 rw[BitVec.toNat_and,h1 n hn,h1 m hm];have:n &&& m≤n:=Nat.and_le_left;exact IntWalk.u8_in _ (by omega)
theorem j9Y(n:Nat):n &&& 15=n % 16:=Nat.and_two_pow_sub_one_eq_mod n 4
end Go.Av
/- More small facts that walks end in. -/
namespace Go.Av
theorem q3z{α:Type}(l:List α)(i:Nat):getI l ((i:Int)+1)=l[i+1]?:=by rw[←q0a];rfl
theorem x0e(n k:Nat):Int.tmod (n:Int) (k:Int)=((n % k:Nat):Int):=rfl
theorem drop_cons{s:List UInt8}{i:Nat}{c:UInt8}(h:s[i]?=some c):s.drop i=c::s.drop (i+1):=by
 obtain⟨hi,rfl⟩:=Zac.1 h;exact List.drop_eq_getElem_cons hi
def q46(n:Int):UInt8:=UInt8.ofNat (n.toNat % 256)
theorem z0t{n:Int}(h:0≤n):((q46 n).toNat:Int)=n % 256:=by
 simp[q46];omega
theorem q1Z{b:List UInt8}{n:Int}(h:0≤n)(h2:n<256):q0v b++[D.int IntKind.u8 n]=q0v (b++[q46 n]):=by
 rw[q0j];have:((q46 n).toNat:Int)=n:=by rw[z0t h];omega
 simp[q0v,this]
def j17(n:Nat):UInt8:=UInt8.ofNat n
theorem q27{n:Nat}(h:n<256):(j17 n).toNat=n:=by simp[j17];omega
theorem q81(l:List UInt8):q8C 1 (q0v l)=true:=by
 induction l with
 |nil=>rfl
 |cons c r ih=>rw[q0L];simp[q8C,D.cells,ih]
theorem z2K(l:List UInt8)(j:Int):cutI (q0v l) 0 j=q0v (l.take j.toNat):=by simp[cutI,q0v]
theorem q4n{α:Type}(l:List α)(i j:Nat):cutI l (i:Int) (j:Int)=(l.take j).drop i:=by simp[cutI]
theorem j5z{p:Prop}[Decidable p]{x:D}{g:D→AV}{σ:St}{d:Nat}{N:St→Prop}:PutG ((if p then some x else none).map g) σ d N=(p∧N (σ.put d (g x))):=by
 by_cases h:p
 ·rw[if_pos h];simp[h,PutG]
 ·rw[if_neg h];simp[h,PutG]
end Go.Av
/- The rewrites by which a step is made: one set. -/
namespace Go.Av
open Go.RowKit
attribute [go_sem] z7k z2i j1O run_seq q9Q q9u z7j j42 q9L j6Q j8z j0q z8R z8T j0r q8l q8m q9s j62 j6P z8S z7a St.dead j5C adel z2b q9r z4y j6K j8v j6J j8u j0o j9x j8w j1z q9q j72 z9K j70 j5Q j71 j5O j7Z appD j3E j9d j73 j5P j3F pev St.ev St.get St.put z08 St.mark St.obj St.setObj aget aset amap z0D asgS nilS newO newB boxS dnsL appS bslS bspS slaS List.all_cons List.all_nil List.any_cons List.any_nil Bool.or_false Bool.false_or Bool.true_or Bool.or_true Bool.or_self stS stD setA St.erase St.drop AV.erase AV.rename AV.drop AV.has AV.q7D q0P srcL evL evP evO q5N rdL q8C fLd fLdX fLdA AV.nsr AV.rd1 rd1L fIaR fIaD AV.z1I z9f List.all j3G j74 j3u j5I exists_eq_left' AV.z6Z fLdP fFa fIa fIaA fFld fBN z0J q9X j2z setR fExt AV.simple fMkI fAsT fNck fEqB fEqS eqCs eqC fEqN okN fNil isNil fNot fNeg fCvI fI2s z2W z6D z5c fSub loOf hiOf fLen z5a fMm z5b fB fB2s fMkF q6l j6e isLocal binD binI binS AV.rd D.cells D.one Res.av putO q3s j7M j5y j5z z3h j82 z1P z0V j5x IteG Classical.not_not j60 j0A j29 resS resL resV j9s Nat.zero_add Option.getD_some Option.getD_none Option.map_some Option.map_none Option.some.injEq Bool.not_true Bool.not_false Bool.not_eq_true' Bool.not_eq_false' decide_eq_true_eq decide_eq_false_iff_not decide_true decide_false true_implies false_implies true_and and_true and_self implies_true List.length_cons List.length_nil List.set_cons_zero List.set_cons_succ List.getElem?_cons_zero List.getElem?_cons_succ List.take_succ_cons List.take_zero List.drop_succ_cons List.drop_zero List.take_nil List.drop_nil List.map_cons List.map_nil List.cons_append List.nil_append List.append_nil beq_self_eq_true Bool.and_true Bool.true_and Bool.false_and Bool.and_false Lab.t.injEq Lab.c.injEq Ref.l.injEq Ref.x.injEq Bool.false_eq_true Bool.true_eq_false eq_self_iff_true if_true if_false Bool.not_eq_true Bool.not_eq_false and_false false_and or_true true_or or_false false_or ne_eq not_true_eq_false not_false_eq_true beq_iff_eq Nat.le_refl gt_iff_lt Int.toNat_zero Int.toNat_one Int.natCast_zero Int.cast_ofNat_Int Int.natCast_one IntWalk.i64_in IntWalk.u8_in q9J j06 z4H j1J z3L resR j4V z4G resA j6H mkA q8B j4I amod AV.den AV.pub j4J q7o q3e q0z nsD retO q5I q5f AObj.ren AV.ren AV.ren1 renL q1P renR renQ AV.z47 memR List.getD_cons_zero List.getD_cons_succ q9b numO AV.wf AV.wf1 wfL wf1L wfR Bool.and_self
/-! ### Short forms -/
def Q(k:Nat)(v:LV):q0b:=⟨some k,.val v,none⟩
def Qc(k s:Nat):q0b:=⟨some k,.val (.cp (.t s)),none⟩
def Qd(k s g:Nat)(b:Bool):q0b:=⟨some k,.val (.cp (.t s)),some (g,b)⟩
def Qg(k:Nat)(v:LV)(g:Nat)(b:Bool):q0b:=⟨some k,.val v,some (g,b)⟩
def Qa(k s:Nat):q0b:=⟨some k,.asg (.t s),none⟩
def Qx(k:Nat)(x:LX):q0b:=⟨some k,.asg x,none⟩
def Ki(n:Int):LX:=.k (.d (.int .i64 n))
def Kb(n:Int):LX:=.k (.d (.int .u8 n))
def KT:LX:=.k (.d (.bool true))
def KF:LX:=.k (.d (.bool false))
attribute [go_sem] Q Qc Qd Qg Qa Qx Ki Kb KT KF
def Qn(k s:Nat):q0b:=Q k (.nck (.t s))
def Qf(k o s:Nat):q0b:=Q k (.fa o (.t s))
def Ql(k s:Nat):q0b:=Q k (.ld false 1 (.t s))
def Qm(k m s:Nat):q0b:=Q k (.ld true m (.t s))
def Qe(k i s:Nat):q0b:=Q k (.ext i (.t s))
def Qz(k:Nat)(b:Bool)(s:Nat):q0b:=Q k (.len b (.t s))
def Qb(k:Nat)(o:BinOp)(s r:Nat):q0b:=Q k (.bin o (.t s) (.t r))
def Qk(k:Nat)(o:BinOp)(s:Nat)(n:Int):q0b:=Q k (.bin o (.t s) (Ki n))
def Qp(k s r:Nat):q0b:=Q k (.pick (.t s) (.t r) KF)
def Qo(k s r:Nat):q0b:=Q k (.pick (.t s) KT (.t r))
def Qh(k s:Nat):q0b:=Q k (.not (.t s))
def Qj(k f:Nat)(l:List Nat):q0b:=⟨some k,.call f (l.map .t),none⟩
def Qs(m s r:Nat):q0b:=⟨none,.st m (.t s) (.t r),none⟩
def Qq(k f:Nat)(l:List Nat):q0b:=⟨some k,.prim .call (.k (.fn (.func f) [] [])::l.map .t) [],none⟩
def Qv(k:Nat):q0b:=⟨some k,.allo [.int .i64 0,.int .i64 0,.str [],.list [],.list []],none⟩
def Qw(k:Nat):q0b:=⟨some k,.allo [.int .i64 0,.int .i64 0,.int .i64 0,.str [],.list [],.list [],.bool false,.str []],none⟩
def Qy(k:Nat):q0b:=Q k (.bld [(0,1),(1,1),(2,1),(3,1),(4,1)] [.int .i64 0,.int .i64 0,.str [],.list [],.list []] [] [])
def Qu(k:Nat):q0b:=Q k (.bld [(0,1),(1,5),(6,1),(7,1)] [.int .i64 0,.int .i64 0,.int .i64 0,.str [],.list [],.list [],.bool false,.str []] [] [])
def Qr(l:List q0b)(c:q0g):q0g:=.seq (.reg l) c
attribute [go_sem] Qn Qf Ql Qm Qe Qz Qb Qk Qp Qo Qh Qj Qs Qq Qv Qw Qy Qu Qr
attribute [go_sem] Nat.reduceEqDiff Nat.reduceBEq Nat.reduceLT Nat.reduceLeDiff Nat.reduceAdd Nat.reduceSub Nat.reduceMul reduceCtorEq Nat.reduceBNe Nat.reduceSubDiff Int.reduceLT Int.reduceLE Int.reduceEq Int.reduceNeg Int.reduceAdd Int.reduceMul Int.reduceSub Int.reduceToNat exists_eq'
variable {P:Program} [Inv P]
theorem q0e.mc1{dst:Option Nat}{f:LX}{args:List LX}{K:St→Prop}{σ:St}{g:FuncId}{first cap:List AV}{xs:List AV}{h h1:AObj}{ret:AV}(r:Ref)(hf:σ.ev f=.fn (.func g) first cap)(hc:q1r P g xs [h] ret [h1])
  (hx:q7o [] 0 (first++(evL σ args++cap))=renL [r] xs) (hwx:wfAL [] 1 0 xs=true) (ho:σ.obj r=some (h.ren [r])) (hwo:wfO 1 [h]=true)
  (hb:z2h 1 ret=true∧q6m [r] 1 [r] [h1]=true) (hK:K (retO (q5I (q0z σ (q3e [])) [r] [h1]) dst [r] ret)):q0e P dst .call (f::args) K σ:=
 q0e.q0C [r] [] hf hc hx hwx ⟨ho,trivial⟩ hwo rfl rfl hb hK
theorem q0e.mp1{dst:Option Nat}{f:LX}{args:List LX}{K:St→Prop}{σ:St}{g:FuncId}{first cap:List AV}{xs:List AV}{h:AObj}{Post:AV→List AObj→Prop}(r:Ref)(hf:σ.ev f=.fn (.func g) first cap)(hc:q6J P g xs [h] Post)
  (hx:q7o [] 0 (first++(evL σ args++cap))=renL [r] xs) (hwx:wfAL [] 1 0 xs=true) (ho:σ.obj r=some (h.ren [r])) (hwo:wfO 1 [h]=true)
  (hK:∀ret hs',Post ret hs'→(z2h 1 ret=true∧q6m [r] 1 [r] hs'=true)∧K (retO (q5I (q0z σ (q3e [])) [r] hs') dst [r] ret)):q0e P dst .call (f::args) K σ:=
 q0e.j94 [r] [] hf hc hx hwx ⟨ho,trivial⟩ hwo rfl rfl hK
end Go.Av
/- From the form by which a statement reads its arguments to data, and from a contract to what a statement asks. -/
namespace Go.Av
open Go.RowKit
def front(w:World)(b:Nat):Nat:=match w.heap[b]? with|some (.cells cs _ _)=>cs.size|some (.map _ _)=>1|_=>0
theorem j30{w:World}{b:Nat}(h:w.heap.size≤b):front w b=0:=by
 unfold front;rw[Zcz h]
theorem j6r{w:World}{b i:Nat}{v:Value}(h:w.cell? (at_ b i)=some v):i<front w b:=by
 unfold World.cell? at_ at h;unfold front;split at h
 ·rename_i cs e z hb;rw[hb];split at h
  ·cases h
  ·exact(Zar.1 h).1
 ·cases h
theorem z0u{α:Type}{p:Nat→α→Prop}:∀(n:Nat),(∀i,i<n→∃x,p i x)→∃l:List α,l.length=n∧∀i x,l[i]?=some x→p i x:=by
 intro n;induction n with
 |zero=>exact fun _=>⟨[],rfl,fun i x h=>by simp at h⟩
 |succ n ih=>
  intro h;obtain⟨l,hl,hp⟩:=ih fun i hi=>h i (by omega)
  obtain⟨x,hx⟩:=h n (by omega);refine⟨l++[x],by simp[hl],fun i y hy=>?_⟩;rcases Zbi i n with hi|hi
  ·rw[Zaj (by omega)]at hy;exact hp i y hy
  ·have:i=n:=by
    have:=(Zac.1 hy).1;simp[hl]at this;omega
   subst this;rw[Zam (by omega),hl]at hy;simp at hy;subst hy;exact hx
def mkD(ds:List D):D:=match ds with|[x]=>x|_=>.agg ds
theorem z8z{ds:List D}(h:∀d∈ds,d.one=true):(mkD ds).cells=ds:=by
 unfold mkD;split
 ·rename_i x;have:=h x (by simp);cases x<;>first|rfl|(simp[D.one]at this)
 ·rfl
def OfT(P:Program):Nat→TypeId→List D→Prop
 |0,_,_=>False
 |k+1,t,ds=>match P.underlying t with
  |some .bool=>∃b,ds=[.bool b]
  |some (.int i)=>∃n,ds=[.int i n]∧(Lit.int i n).wf=true
  |some .string=>∃s,ds=[.str s]∧s.length≤maxLen
  |some (.slice e)=>∃l,ds=[.list l]∧l.length≤maxLen∧∀x∈l,∃cs,x=mkD cs∧OfT P k e cs
  |some (.map kt e)=>∃ks vs,ds=[.map ks vs]∧ks.length=vs.length∧ks.length≤maxLen∧(∀x∈ks,(∃i n,P.underlying kt=some (.int i)∧x=.int i n)∨(∃s,P.underlying kt=some .string∧x=.str s))∧∀x∈vs,∃cs,x=mkD cs∧OfT P k e cs
  |some (.struct fs)=>ds.length=P.cellsOf t∧∀(i:Nat) (f:Field),fs[i]?=some f→OfT P k f.type ((ds.drop f.offset).take (P.cellsOf f.type))
  |_=>False
def z8M(P:Program):List Field→Nat→Nat→Bool
 |[],off,tot=>off==tot
 |f::r,off,tot=>f.offset==off&&z8M P r (off+P.cellsOf f.type) tot
def okTs(P:Program)(ts:List TypeId):Bool:=ts.all fun t=>match P.underlying t with
 |some .bool|some (.int _)|some .string=>P.cellsOf t==1
 |some (.slice e)=>P.cellsOf t==1&&(ts.contains e&&P.cellsOf e != 0)
 |some (.map kt e)=>P.cellsOf t==1&&(ts.contains e&&((match P.underlying kt with|some (.int _)|some .string=>true|_=>false)&&(match P.underlying e with|some (.struct _)|some (.array _ _)=>P.cellsOf e != 1|_=>true)))
 |some (.struct fs)=>fs.toList.all (fun f=>ts.contains f.type)&&z8M P fs.toList 0 (P.cellsOf t)
 |_=>false
section
variable {H:Type} {enc:TypeId×Value→H} {P:Program} {w:World} {base:Nat} {spare:Nat→Bool} {held:Bool}
theorem j3t{a:Addr}{n:Nat}{cs:List Value}(h:w.cells? base a n=some cs):cs.length=n∧∀j,j<n→w.cell? (a.add j)=cs[j]?:=by
 unfold World.cells? at h;split at h
 ·exact⟨by simpa using mapM_some_length h,fun j hj=>mapM_some_get h j j (by simp[hj])⟩
 ·cases h
theorem mapM_each{α β:Type}{f:α→Option β}:∀{l:List α} {r:List β},l.mapM f=some r→∀x∈l,∃y,f x=some y
 |[],_,_,x,hx=>by simp at hx
 |a::l,r,h,x,hx=>by
  simp only[List.mapM_cons,Option.bind_eq_bind,Option.pure_def]at h;cases ha:f a with
  |none=>simp[ha]at h
  |some y=>
   cases hr:l.mapM f with
   |none=>simp[ha,hr]at h
   |some r'=>
    rcases Zba.1 hx with rfl|hx
    ·exact⟨y,ha⟩
    ·exact mapM_each hr x hx
theorem j7d{n:Nat}{t k e:TypeId}{cs:List Value}{x:DataW H×List MemPlace}(hu:P.underlying t=some (.map k e))(h:DataW.trod enc P w base spare held (n+1) t cs=some x):
  (cs=[.map none]∧x.1=.nil)∨∃b es clock,(cs=[.map (some b)]∧∃l,x.1=.map l)∧w.heap[b]?=some (.map es clock)∧es.size≤maxLen∧(∀e∈es.toList,e.born<clock)∧(es.toList.map (·.born)).Nodup∧
    ∀m∈es.toList,(∃key,keyOf P k m.key=some key)∧m.val.formed P e=true∧∃y,DataW.trod enc P w base spare held n e m.val.cells.toList=some y:=by
 simp only[DataW.trod,hu]at h;split at h;all_goals first|(rename_i h1;cases h1;done)|(cases h;done)|skip
 ·cases h;exact .inl ⟨rfl,rfl⟩
 ·rename_i k' e' b h1;cases h1;right
  split at h
  ·rename_i es clock hb;split at h
   ·rename_i hc;obtain⟨_,c2,c3,c4⟩:=hc;obtain⟨entries,h2,h5⟩:=Zch.1 h;have h6:∃l,x.1=.map l:=by
     split at h5
     ·cases h5;exact⟨_,rfl⟩
     ·cases h5
    refine⟨b,es,clock,⟨rfl,h6⟩,hb,c2,fun m hm=>?_,Go.ChangeMaps.nodup_of_eraseDups _ (by rw[c4];simp),fun m hm=>?_⟩
    ·have:=Array.all_eq_true.1 c3;obtain⟨i,hi,rfl⟩:=List.getElem_of_mem hm;simpa using this i (by simpa using hi)
    ·obtain⟨y,hy⟩:=mapM_each h2 m hm;obtain⟨key,k1,k2⟩:=Zch.1 hy;split at k2
     ·rename_i hf;obtain⟨z,z1,_⟩:=Zbf.1 k2;exact⟨⟨key,k1⟩,hf,z,z1⟩
     ·cases k2
   ·cases h
  ·cases h
theorem j9q{n:Nat}{k e:TypeId}{b:Nat}{es:Array MapEntry}{clock:Nat}(hb:w.heap[b]?=some (.map es clock))(hs:es.size≤maxLen)(hc:∀m∈es.toList,m.born<clock)(hn:(es.toList.map (·.born)).Nodup)
  (hk:(match P.underlying k with|some (.int _)|some .string=>true|_=>false)=true) (he:(match P.underlying e with|some (.struct _)|some (.array _ _)=>P.cellsOf e != 1|_=>true)=true)
  (hm:∀m∈es.toList,(∃key,keyOf P k m.key=some key)∧m.val.formed P e=true∧∃ds:List D,OfT P n e ds∧ds.length=m.val.cells.toList.length∧m.val.cells.toList.length=P.cellsOf e∧(∀d∈ds,d.one=true)∧∀(i:Nat) (d:D) (v:Value),ds[i]?=some d→m.val.cells.toList[i]?=some v→RD (front w) w d v):
  ∃ks vs,ks.length=vs.length∧ks.length≤maxLen∧(∀x∈ks,(∃i n,P.underlying k=some (.int i)∧x=.int i n)∨(∃s,P.underlying k=some .string∧x=.str s))∧(∀x∈vs,∃cs,x=mkD cs∧OfT P n e cs)∧RD (front w) w (.map ks vs) (.map (some b)):=by
 have hkey:∀i,i<es.size→∃x:D,((∃i n,P.underlying k=some (.int i)∧x=.int i n)∨(∃s,P.underlying k=some .string∧x=.str s))∧∀m,es[i]?=some m→RD (front w) w x m.key:=by
  intro i hi;have hmem:es[i]∈es.toList:=by simp
  obtain⟨⟨key,h1⟩,_⟩:=hm _ hmem;unfold keyOf at h1;cases hu:P.underlying k with
  |none=>simp[hu]at hk
  |some T=>
   cases T with
   |int q=>
    simp only[hu]at h1;unfold mapKey at h1;rw[hu]at h1;split at h1
    ·rename_i h2 h3;cases h2
    ·rename_i q1 q2 m h2 h3;split at h1
     ·rename_i h4;obtain⟨rfl,_⟩:=h4;cases h2;exact⟨.int q m,.inl ⟨q,m,rfl,rfl⟩,fun m' hm'=>by rw[Zck hi]at hm';cases hm';rw[h3];exact .int _ _⟩
     ·cases h1
    ·rename_i h2 h3;cases h2
    ·cases h1
   |string=>
    simp only[hu]at h1;unfold mapKey at h1;rw[hu]at h1;split at h1
    ·rename_i h2 h3;cases h2
    ·rename_i h2 h3;cases h2
    ·rename_i s h2 h3;exact⟨.str s.data.toList,.inr ⟨_,rfl,rfl⟩,fun m' hm'=>by rw[Zck hi]at hm';cases hm';rw[h3];cases s;exact .str _⟩
    ·cases h1
   |_=>simp[hu]at hk
 have hval:∀i,i<es.size→∃x:D,(∃cs,x=mkD cs∧OfT P n e cs)∧∀m,es[i]?=some m→RD (front w) w x m.val:=by
  intro i hi;have hmem:es[i]∈es.toList:=by simp
  obtain⟨_,hf,ds,o1,o2,o3,o4,o5⟩:=hm _ hmem;refine⟨mkD ds,⟨ds,rfl,o1⟩,fun m' hm'=>?_⟩;rw[Zck hi]at hm';cases hm';generalize es[i].val=v at *;have one:v.cells = #[v]→RD (front w) w (mkD ds) v:=fun hv=>by
   rw[hv]at o2 o5;match ds,o2 with
   |[d],_=>exact o5 0 d v rfl (by simp)
  cases v with
  |agg cs=>
   simp only[Value.formed]at hf;have hne:P.cellsOf e≠1:=by
    split at hf
    ·rename_i h1;rw[h1]at he;simpa using he
    ·rename_i h1;rw[h1]at he;simpa using he
    ·cases hf
   simp only[Value.cells]at o2 o3 o5;have:mkD ds=.agg ds:=by
    unfold mkD;split
    ·rename_i x;simp at o2 o3;omega
    ·rfl
   rw[this];exact .agg ds cs (by simpa using o2.symm) o4 fun i d hd=>by
    have hlt:i<cs.size:=by have:=(Zac.1 hd).1;simp at o2;omega
    have:=o5 i d cs[i] hd (by simp[hlt]);simpa[hlt]using this
  |tuple _=>simp[Value.formed]at hf
  |_=>exact one rfl
 obtain⟨ks,k1,k2⟩:=z0u es.size hkey;obtain⟨vs,v1,v2⟩:=z0u es.size hval;refine⟨ks,vs,by omega,by omega,fun x hx=>?_,fun x hx=>?_,.map ks vs b es clock (by simp[front,hb]) hb k1 v1 hn hc (fun i x m hx hm=>(k2 i x hx).2 m hm) (fun i x m hx hm=>(v2 i x hx).2 m hm)⟩
 ·obtain⟨i,hi⟩:=Zbb hx;exact(k2 i x hi).1
 ·obtain⟨i,hi⟩:=Zbb hx;exact(v2 i x hi).1
end
end Go.Av
/- What a statement of a law asks, out of a contract. -/
namespace Go.Av
open Go.RowKit
theorem OfT.string{P:Program}{k:Nat}{t:TypeId}{ds:List D}(hu:P.underlying t=some .string)(h:OfT P k t ds):∃s,ds=[.str s]∧s.length≤maxLen:=by
 cases k with
 |zero=>exact h.elim
 |succ k=>unfold OfT at h;rw[hu]at h;exact h
theorem OfT.int{P:Program}{k:Nat}{t:TypeId}{i:IntKind}{ds:List D}(hu:P.underlying t=some (.int i))(h:OfT P k t ds):∃n,ds=[.int i n]∧(Lit.int i n).wf=true:=by
 cases k with
 |zero=>exact h.elim
 |succ k=>unfold OfT at h;rw[hu]at h;exact h
theorem OfT.slice{P:Program}{k:Nat}{t e:TypeId}{ds:List D}(hu:P.underlying t=some (.slice e))(h:OfT P k t ds):∃l m,k=m+1∧ds=[.list l]∧l.length≤maxLen∧∀x∈l,∃cs,x=mkD cs∧OfT P m e cs:=by
 cases k with
 |zero=>exact h.elim
 |succ k=>unfold OfT at h;rw[hu]at h;obtain⟨l,h1,h2,h3⟩:=h;exact⟨l,k,rfl,h1,h2,h3⟩
theorem z5F{α:Type}{g:α→D}{l:List D}(h:∀x∈l,∃y,x=g y):∃ys:List α,l=ys.map g:=by
 induction l with
 |nil=>exact⟨[],rfl⟩
 |cons x r ih=>
  obtain⟨ys,hy⟩:=ih fun z hz=>h z (by simp[hz])
  obtain⟨y,hx⟩:=h x (by simp);exact⟨y::ys,by rw[hy,hx];rfl⟩
section
variable {H:Type} {enc:TypeId×Value→H} {P:Program} {w:World} {base:Nat} {spare:Nat→Bool} {held:Bool}
theorem Fr.below{f f':Nat→Nat}{w w':World}(h:Fr f w f' w'):Below w.heap.size w w':=⟨h.os,h.tape,h.output,h.size,fun k hk=>(h.block k hk).1⟩
theorem q0i.law[Inv P]{fn:FuncId}{xs:List D}(h:q0i P fn xs (fun r=>r=.one (.bool true)))(hI:Inv.inv P (front w) w){vs:Array Value}(hl:vs.size=xs.length)(hr:∀(i:Nat) (y:D),xs[i]?=some y→RD (front w) w y (vs.getD i undef)):
  Calls P fn vs w fun e w'=>e=.returned (.bool true)∧Below w.heap.size w w':=
 (h (front w) w vs hI (fun _ hb=>j30 hb) hl hr).mono fun e w' ⟨r,v,f',hp,he,hr,hf⟩=>by
   subst hp;cases hr;exact⟨he,hf.below⟩
end
end Go.Av
/- Structs of integers as arguments; tables that start-up lays. -/
namespace Go.Av
open Go.RowKit
theorem j9Q{P:Program}{W:World}{l:List (String×DataW Unit)}{name:String}{k:IntKind}{zs:List Int}{g:Nat}{t e:TypeId}{n:Nat}
  (hg:P.globalNamed name=some g) (hty:(P.globals[g]?).map (·.type)=some t) (ht:P.underlying t=some (.array n e)) (he:P.underlying e=some (.int k)) (hce:P.cellsOf e=1) (hct:P.cellsOf t=n)
  (hm:(name,Lib.tabData k zs)∈l) (h:laidMet P l W):Lib.TabIs P W name k zs:=by
 obtain⟨g',t',cs,fuel,p,h1,h2,h3,h4⟩:=Lib.laidMet.reads h hm;obtain rfl:=Option.some.inj (hg.symm.trans h1);obtain rfl:=Option.some.inj (hty.symm.trans h2);have:=Lib.cells_of_tab ht he hce hct h4;unfold Lib.TabIs;rw[h3];congr 1
 apply Array.toList_inj.1;simpa using this
end Go.Av
/- Operations with rules of their own: conversions of pointers, comparisons, entries of the library. -/
namespace Go.Av
variable {P:Program} [Inv P]
theorem q0e.value{d:Nat}{p:Prim}{xs:List LX}{K:St→Prop}{σ:St}(z:AV)
  (h:∀(E:Entry) [HasInv P E] (n:Nat) (G:q0s) (a:Act) (w:World) (o:Oper) (os:List Operand),q2w P o=some (p,os)→q2x os=some xs→SR E n G σ a.tmps w→∃r,(execOp a.eval o).run P w=.ok (.value r) w∧AVR G w z r)
  (hK:K (σ.put d z)):q0e P (some d) p xs K σ:=by
 intro E _ n G a w o os hp hl hdst hd hσ;obtain⟨r,h1,h2⟩:=h E n G a w o os hp hl hσ;refine .inl ⟨r,w,h1,G,_,⟨trivial,hK⟩,?_⟩;simpa[Act.put]using hσ.put h2 (by simpa[q4p]using hd)
theorem z4B{o:Oper}{s t:TypeId}{os:List Operand}(h:q2w P o=some (.conv s t,os)):∃x,o.op=.convert s t x∧os=[x]:=by
 unfold q2w at h;split at h;all_goals first
  |(cases h;done)
  |(rename_i ho;split at h
    ·cases h
    ·cases h;exact⟨_,ho,rfl⟩)
  |(split at h<;>(try cases h)<;>(split at h<;>cases h))
  |(split at h<;>cases h)
theorem z8W{o:Oper}{op:BinOp}{t:TypeId}{os:List Operand}(h:q2w P o=some (.eq op t,os)):∃x y yt,o.op=.binOp op t x y yt∧os=[x,y]:=by
 unfold q2w at h;split at h;all_goals first
  |(cases h;done)
  |(rename_i ho;split at h
    ·cases h
    ·cases h;exact⟨_,_,_,ho,rfl⟩)
  |(split at h<;>(try cases h)<;>(split at h<;>cases h))
  |(split at h<;>cases h)
theorem z8s{x:Operand}{l:List LX}(h:q2x [x]=some l):∃y,q1o x=some y∧l=[y]:=by
 simp only[q2x]at h;split at h
 ·rename_i y r hy hr;cases hr;cases h;exact⟨y,hy,rfl⟩
 ·cases h
theorem z4a{x y:Operand}{l:List LX}(h:q2x [x,y]=some l):∃u v,q1o x=some u∧q1o y=some v∧l=[u,v]:=by
 simp only[q2x]at h;split at h
 ·rename_i u r hu hr;split at hr
  ·rename_i v r' hv hr';cases hr';cases hr;cases h;exact⟨u,v,hu,hv,rfl⟩
  ·cases hr
 ·cases h
theorem ObjR.shape{G:q0s}{w:World}{r:Ref}{cs:List AV}(h:ObjR G w r (.cells cs)):∃el,w.shape? (G.b r)=some (el,cs.length)∧∀(i:Nat) (e:TypeId),cs[i]?=some (AV.nt e)→e=el:=by
 obtain⟨arr,el,h1,h2,h3⟩:=h;exact⟨el,by simp[World.shape?,h1,h2],fun i e hi=>(h3 i _ hi).2.2.2 e rfl⟩
theorem q0e.j7c{d:Nat}{s t:TypeId}{x:LX}{K:St→Prop}{σ:St}{r:Ref}{off:Nat}{cs:List AV}{u:TypeId}{m:Nat}(hx:σ.ev x=.ptr r off)(ho:σ.obj r=some (.cells cs))(hlt:off<cs.length)
  (hs:P.underlying s=some (.pointer u)) (ht:P.underlying t=some .unsafePointer) (hu:(P.info? u).map (·.size)=some (m+1)) (hK:K (σ.put d (.ptr r off))):q0e P (some d) (.conv s t) [x] K σ:=by
 refine q0e.value (.ptr r off) (fun E _ n G a w o os hp hl hσ=>?_) hK;obtain⟨y,hop,rfl⟩:=z4B hp;obtain⟨x',hx',he⟩:=z8s hl;cases he;have rx:=hσ.ev hx';rw[hx]at rx;generalize hv:a.eval y=v at rx;cases rx;obtain⟨el,h1,_⟩:=(hσ.obj r _ ho).shape;obtain⟨j,hj,hjs⟩:=Zbf.1 hu;refine⟨.pointer (some (at_ (G.b r) off)),?_,.ptr _ _⟩;simp only[execOp,hop,hv,Sem.run_bind];rw[Lib.run_to_unsafe w (at_ (G.b r) off) hs ht hj (by rw[hjs];exact Nat.succ_ne_zero _) h1 hlt];rfl
theorem q0e.j2n{d:Nat}{s t:TypeId}{x:LX}{K:St→Prop}{σ:St}{r:Ref}{off:Nat}{cs:List AV}{u:TypeId}{m:Nat}{i:Nat}{e:TypeId}(hx:σ.ev x=.ptr r off)(ho:σ.obj r=some (.cells cs))(hi:cs[i]?=some (.nt e))
  (hs:P.underlying s=some .unsafePointer) (ht:P.underlying t=some (.pointer u)) (hu:(P.info? u).map (·.size)=some m) (hlies:liesAt P P.depth e (cs.length / P.cellsOf e) off u 1=true) (hK:K (σ.put d (.ptr r off))):q0e P (some d) (.conv s t) [x] K σ:=by
 refine q0e.value (.ptr r off) (fun E _ n G a w o os hp hl hσ=>?_) hK;obtain⟨y,hop,rfl⟩:=z4B hp;obtain⟨x',hx',he⟩:=z8s hl;cases he;have rx:=hσ.ev hx';rw[hx]at rx;generalize hv:a.eval y=v at rx;cases rx;obtain⟨el,h1,h2⟩:=(hσ.obj r _ ho).shape;obtain rfl:=h2 i e hi;obtain⟨j,hj,hjs⟩:=Zbf.1 hu;refine⟨.pointer (some (at_ (G.b r) off)),?_,.ptr _ _⟩;simp only[execOp,hop,hv,Sem.run_bind];rw[Lib.run_from_unsafe w (at_ (G.b r) off) hs ht hj h1 hlies];rfl
theorem q0e.j8K{d:Nat}{t:TypeId}{x y:LX}{K:St→Prop}{σ:St}{r:Ref}{off:Nat}{u:TypeId}{j:TypeInfo}(hx:σ.ev x=.ptr r off)(hy:σ.ev y=.ptr r off)(ht:P.underlying t=some (.pointer u))(hu:P.info? u=some j)(hK:K (σ.put d (.d (.bool false)))):
  q0e P (some d) (.eq .neq t) [x,y] K σ:=by
 refine q0e.value (.d (.bool false)) (fun E _ n G a w o os hp hl hσ=>?_) hK;obtain⟨X,Y,yt,hop,rfl⟩:=z8W hp;obtain⟨x',y',hx',hy',he⟩:=z4a hl;cases he;have rx:=hσ.ev hx';have ry:=hσ.ev hy';rw[hx]at rx;rw[hy]at ry;generalize hv:a.eval X=v at rx;generalize hv2:a.eval Y=v2 at ry;cases rx;cases ry;refine⟨.bool false,?_,.d _ _ (.bool _)⟩;have hg:(eqGuard .neq t X Y (.pointer (some (at_ (G.b r) off))) (.pointer (some (at_ (G.b r) off)))).run P w=.ok () w:=q79 (fun cs ds ⟨e,_⟩=>by cases e) (fun e=>by cases e)
 simp only[execOp,hop,hv,hv2,Sem.run_bind,hg,Result.andThen_ok];rw[Lib.run_neq_ptr_same w _ ht hu];rfl
theorem q0e.entry{d : Nat}{f : FuncId}{fn : Func}{e : Array Value → Sem Value}{args : List LX}{K : St → Prop}{σ : St}(hf : P.funcs[f]? = some fn)(hname : (fn.name == "runtime.NumGoroutine") = false)(hb : fn.body.isNone = true)(hn : Extern.findNext fn = none)(he : Extern.find fn = some e)(z : AV)
  (h:∀(G:q0s) (w:World) (vs:List Value),vs.length=(evL σ args).length→(∀(i:Nat) (x:AV),(evL σ args)[i]?=some x→AVR G w x (vs.getD i undef))→∃r,(e vs.toArray).run P w=.ok r w∧AVR G w z r)
  (hK:K (σ.put d z)):q0e P (some d) .call (.k (.fn (.func f) [] [])::args) K σ:=by
 refine q0e.value z (fun E _ n G a w o os hp hl hσ=>?_) hK;obtain⟨fo,osa,ts,hop,rfl⟩:=z0N hp;simp only[q2x]at hl;split at hl
 ·rename_i x l hxf hxl;obtain⟨rfl,rfl⟩:x=.k (.fn (.func f) [] [])∧l=args:=by simpa using hl
  have rf:=hσ.ev hxf;generalize hfv:a.eval fo=fv at rf;have rf':AVR G w (.fn (.func f) [] []) fv:=rf;cases rf' with
  |fn _ _ _ us vs hl1 hs1 hh1 hl2 hs2 hh2=>
   have e1:us = #[]:=by cases us;simp_all
   have e2:vs = #[]:=by cases vs;simp_all
   subst e1;subst e2;obtain⟨k1,k2⟩:=q4t hσ hxl;obtain⟨r,h1,h2⟩:=h G w (osa.toList.map a.eval) (by simpa using k1) k2;refine⟨r,?_,h2⟩;have h3:=run_callFunc_extern hf hname hb hn he (osa.toList.map a.eval).toArray w;rw[h1]at h3;simp only[execOp,hop,resolve,hfv,Deferred.ofValue,invoke,Sem.run_bind,Sem.run_pure,Result.andThen_ok];have:(#[]++osa.map a.eval ++ #[]:Array Value)=(osa.toList.map a.eval).toArray:=by
    apply Zcl;simp
   rw[this];exact h3
 ·cases hl
end Go.Av
