import Derived.Test.YtgfdeebaihmkpaaGreatDoorAvA
import Derived.Laws.StructEq
/- Operations over abstract states: operands, constants, and the operations that only reckon. -/
namespace Go.Av
/-! ### Operands -/
inductive LX where
 |t (s:Nat)
 |k (x:AV)
 deriving Inhabited
def St.ev(σ:St):LX→AV
 |.t s=>σ.get s
 |.k x=>x
def cst1:Value→Option D
 |.bool b=>some (.bool b)
 |.int k n=>some (.int k n)
 |.string s=>some (.str s.data.toList)
 |.nilIface=>some .nil
 |.nilFunc=>some .nilf
 |.pointer none=>some .nilp
 |.slice none 0 0=>some (.list [])
 |.map none=>some (.map [] [])
 |_=>none
def cstL:List Value→Option (List D)
 |[]=>some []
 |v::r=>match cst1 v,cstL r with
  |some x,some l=>some (x::l)
  |_,_=>none
def cst:Value→Option D
 |.iface t v=>(cst1 v).map (.iface t)
 |.agg cs=>(cstL cs.toList).map .agg
 |v=>cst1 v
theorem z9I{f:Nat→Nat}{w:World}{v:Value}{x:D}(h:cst1 v=some x):RD f w x v∧x.one=true:=by
 unfold cst1 at h;split at h<;>first|(cases h;exact⟨by constructor,rfl⟩)|(cases h)
theorem j3w{f:Nat→Nat}{w:World}:∀{vs:List Value} {l:List D},cstL vs=some l→vs.length=l.length∧(∀e∈l,e.one=true)∧∀(i:Nat) (e:D),l[i]?=some e→RD f w e (vs.getD i undef)
 |[],l,h=>by simp[cstL]at h;subst h;exact⟨rfl,fun _ h=>by simp at h,fun _ _ h=>by simp at h⟩
 |v::vs,l,h=>by
  simp only[cstL]at h;split at h
  ·rename_i x r hx hr;cases h;obtain⟨h1,h2,h3⟩:=j3w (f:=f) (w:=w) hr;obtain⟨h4,h5⟩:=z9I (f:=f) (w:=w) hx;refine⟨by simp[h1],fun e he=>?_,fun i e he=>?_⟩
   ·rcases Zba.1 he with rfl|he
    ·exact h5
    ·exact h2 e he
   ·cases i with
    |zero=>simp at he;subst he;simpa using h4
    |succ i=>simp at he;simpa using h3 i e he
  ·cases h
theorem z0b{f:Nat→Nat}{w:World}{v:Value}{x:D}(h:cst v=some x):RD f w x v:=by
 unfold cst at h;split at h
 ·rename_i t u;cases hu:cst1 u with
  |none=>simp[hu]at h
  |some y=>simp[hu]at h;subst h;exact .iface t y u (z9I hu).1
 ·rename_i cs;cases hl:cstL cs.toList with
  |none=>simp[hl]at h
  |some l=>
   simp[hl]at h;subst h;obtain⟨h1,h2,h3⟩:=j3w (f:=f) (w:=w) hl;exact .agg l cs (by simpa using h1) h2 (fun i e he=>by have:=h3 i e he;simpa[List.getD_eq_getElem?_getD]using this)
 ·exact(z9I h).1
def q1o:Operand→Option LX
 |.tmp t=>some (.t t)
 |.const v=>(cst v).map fun x=>.k (.d x)
 |.func f=>some (.k (.fn (.func f) [] []))
 |.global _=>none
variable {E:Entry} {n:Nat} {G:q0s} {σ:St} {a:Act} {w:World} {P:Program}
theorem SR.get(h:SR E n G σ a.tmps w)(s:Nat):AVR G w (σ.get s) (a.eval (.tmp s)):=by
 unfold St.get;cases hx:aget σ.ρ s with
 |none=>exact .junk _
 |some x=>exact h.slot s x hx
theorem SR.ev(h:SR E n G σ a.tmps w){o:Operand}{x:LX}(hx:q1o o=some x):AVR G w (σ.ev x) (a.eval o):=by
 cases o with
 |tmp t=>simp[q1o]at hx;subst hx;exact h.get t
 |const v=>
  simp only[q1o]at hx;cases hc:cst v with
  |none=>simp[hc]at hx
  |some d=>simp[hc]at hx;subst hx;exact .d d v (z0b hc)
 |func f=>simp[q1o]at hx;subst hx;exact .fn (.func f) [] [] #[] #[] rfl (fun _ h=>by simp at h) (fun _ _ h=>by simp at h) rfl (fun _ h=>by simp at h) (fun _ _ h=>by simp at h)
 |global g=>simp[q1o]at hx
def AV.rd1:AV→Option D
 |.d x=>some x
 |.ns=>some (.list [])
 |.nt _=>some .nilp
 |_=>none
def rd1L:List AV→Option (List D)
 |[]=>some []
 |x::r=>match x.rd1,rd1L r with
  |some y,some l=>some (y::l)
  |_,_=>none
def AV.rd:AV→Option D
 |.d x=>some x
 |.own _ _ _ l=>some (.list l)
 |.ns=>some (.list [])
 |.nt _=>some .nilp
 |.dptr cs=>some (.pto cs)
 |.sx cs=>(rd1L cs).map .agg
 |_=>none
theorem j1E:∀{xs:List AV} {l:List D},rd1L xs=some l→xs.length=l.length∧∀(i:Nat) (y:D),l[i]?=some y→∃x,xs[i]?=some x∧x.rd1=some y
 |[],l,h=>by simp[rd1L]at h;subst h;exact⟨rfl,fun _ _ h=>by simp at h⟩
 |x::r,l,h=>by
  simp only[rd1L]at h;split at h
  ·rename_i y l' hy hl;cases h;obtain⟨h1,h2⟩:=j1E hl;refine⟨by simp[h1],fun i z hz=>?_⟩;cases i with
   |zero=>simp at hz;subst hz;exact⟨x,rfl,hy⟩
   |succ i=>simp at hz;simpa using h2 i z hz
  ·cases h
theorem AVR.rd1{x:AV}{v:Value}{y:D}(h:AVR G w x v)(hy:x.rd1=some y):RD G.f w y v:=by
 cases h<;>simp[AV.rd1]at hy
 ·subst hy;assumption
 ·subst hy;exact .nils
 ·subst hy;exact .nilp
theorem AVR.rd{x:AV}{v:Value}{y:D}(h:AVR G w x v)(hy:x.rd=some y):RD G.f w y v:=by
 cases h<;>simp[AV.rd]at hy
 ·subst hy;assumption
 ·subst hy;assumption
 ·rename_i cs b o vs hb hc hr;subst hy;refine .pto cs b o vs hb hc (fun e he=>?_) fun i d hi=>(hr i d hi).2
  obtain⟨j,hj⟩:=Zbb he;exact(hr j e hj).1
 ·subst hy;exact .nils
 ·subst hy;exact .nilp
 ·rename_i xs vs hl hs ho h;obtain⟨l,hl2,rfl⟩:=hy;obtain⟨k1,k2⟩:=j1E hl2;have hr:∀i e,l[i]?=some e→RD G.f w e (vs.getD i undef):=fun i e hi=>by
   obtain⟨x,hx,hx1⟩:=k2 i e hi;exact(h i x hx).rd1 hx1
  refine .agg l vs (by omega) (fun e he=>?_) hr;obtain⟨i,hi⟩:=Zbb he;exact(hr i e hi).z6h (ho i (by have:=(Zac.1 hi).1;omega))
/-! ### Numbers, bools, strings -/
def binI(op:BinOp)(k:IntKind)(a b:Int):Option D:=
 match op with
 |.add=>some (.int k (k.wrap (a+b)))
 |.sub=>some (.int k (k.wrap (a-b)))
 |.mul=>some (.int k (k.wrap (a*b)))
 |.quo=>if b=0 then none else some (.int k (k.wrap (a.tdiv b)))
 |.rem=>if b=0 then none else some (.int k (a.tmod b))
 |.and=>some (.int k (k.wrap ((BitVec.ofInt k.bits a &&& BitVec.ofInt k.bits b).toNat)))
 |.or=>some (.int k (k.wrap ((BitVec.ofInt k.bits a ||| BitVec.ofInt k.bits b).toNat)))
 |.xor=>some (.int k (k.wrap ((BitVec.ofInt k.bits a ^^^ BitVec.ofInt k.bits b).toNat)))
 |.andNot=>some (.int k (k.wrap ((BitVec.ofInt k.bits a &&& ~~~(BitVec.ofInt k.bits b)).toNat)))
 |.eql=>some (.bool (decide (a=b)))
 |.neq=>some (.bool (!decide (a=b)))
 |.lss=>some (.bool (decide (a<b)))
 |.leq=>some (.bool (decide (a≤b)))
 |.gtr=>some (.bool (decide (b<a)))
 |.geq=>some (.bool (decide (b≤a)))
 |_=>none
def binS(op:BinOp)(a b:List UInt8):Option D:=
 match op with
 |.add=>if((a.length+b.length:Nat):Int)≤9223372036854775807 then some (.str (a++b))else none
 |.eql=>some (.bool (decide (a=b)))
 |.neq=>some (.bool (!decide (a=b)))
 |.lss=>some (.bool (Op.bytesLess a b))
 |.leq=>some (.bool (Op.bytesLess a b || decide (a=b)))
 |.gtr=>some (.bool (!(Op.bytesLess a b || decide (a=b))))
 |.geq=>some (.bool (!Op.bytesLess a b))
 |_=>none
def binD(op:BinOp):AV→AV→Option D
 |.d (.int k a),.d (.int k' b)=>match op with
  |.shl=>if b<0 then none else some (.int k (k.wrap (a*2 ^ (min b.toNat k.bits))))
  |.shr=>if b<0 then none else some (.int k (a.fdiv (2 ^ (min b.toNat k.bits))))
  |op=>if k=k' then binI op k a b else none
 |.d (.str a),.d (.str b)=>binS op a b
 |_,_=>none
theorem z2H(s:List UInt8):(⟨s.toArray⟩:ByteArray).toList=s:=by
 rw[ByteArray.toList_eq]
theorem j01{op:BinOp}{x y:AV}{v u:Value}{z:D}{t:TypeId}(hx:AVR G w x v)(hy:AVR G w y u)(h:binD op x y=some z):
  ∃r,(binOp op t v u).run P w=.ok r w∧RD G.f w z r:=by
 unfold binD at h;split at h
 ·rename_i k a k' b;cases hx with|d _ _ hx=>?_;cases hy with|d _ _ hy=>?_;cases hx;cases hy;split at h
  ·split at h
   ·cases h
   ·rename_i hb;cases h;exact⟨.int k (k.wrap (a*2 ^ (min b.toNat k.bits))),by simp[binOp,Op.shift,hb],.int _ _⟩
  ·split at h
   ·cases h
   ·rename_i hb;cases h;exact⟨.int k (a.fdiv (2 ^ (min b.toNat k.bits))),by simp[binOp,Op.shift,hb],.int _ _⟩
  ·rename_i h1 h2;split at h
   ·rename_i hk;subst hk;unfold binI at h;split at h<;>first
     |(cases h;refine⟨.int k _,?_,.int _ _⟩;simp[binOp,Op.intArith,Op.intBits];done)
     |(cases h;refine⟨.bool _,?_,.bool _⟩;simp[binOp,Op.intCmp];done)
     |(cases h;refine⟨.bool _,?_,.bool _⟩;simp[binOp,Op.intCmp];rfl)
     |(split at h;· cases h
       ·rename_i hb;cases h;exact⟨_,by simp[binOp,Op.intDiv,hb];rfl,by constructor⟩)
     |cases h
   ·cases h
 ·rename_i a b;cases hx with|d _ _ hx=>?_;cases hy with|d _ _ hy=>?_;cases hx;cases hy;unfold binS at h;split at h
  ·split at h
   ·rename_i hl;cases h;refine⟨.string ⟨(a++b).toArray⟩,?_,.str _⟩;have h1:¬((((⟨a.toArray⟩:ByteArray).size+(⟨b.toArray⟩:ByteArray).size:Nat):Int)>IntKind.i64.max):=by
     have:IntKind.i64.max=9223372036854775807:=by decide
     rw[this];simp[ByteArray.size]at hl ⊢;omega
    have h2:(⟨a.toArray⟩:ByteArray)++⟨b.toArray⟩=⟨(a++b).toArray⟩:=by
     apply ByteArray.ext;simp
    simp only[binOp,Op.stringOp,if_neg h1,h2,Sem.run_pure]
   ·cases h
  all_goals first
   |(cases h;refine⟨.bool _,?_,.bool _⟩;simp only[binOp,Op.stringOp,z2H,Sem.run_pure,Result.ok.injEq,Value.bool.injEq,and_true];done)
   |(cases h;refine⟨.bool _,?_,.bool _⟩;simp only[binOp,Op.stringOp,z2H,Sem.run_pure,Result.ok.injEq,Value.bool.injEq,and_true];first|rfl|(rw[Bool.eq_iff_iff];simp;done))
   |cases h
 ·cases h
end Go.Av
/- Operations over abstract states, continued: comparisons, conversions, strings, addresses, loads. -/
namespace Go.Av
variable {E:Entry} {n:Nat} {G:q0s} {σ:St} {a:Act} {w:World} {P:Program}
theorem AVR.dinv{x:D}{v:Value}(h:AVR G w (.d x) v):RD G.f w x v:=by cases h;assumption
theorem AVR.j0m{cs:List D}{v:Value}(h:AVR G w (.d (.pto cs)) v):AVR G w (.dptr cs) v:=by
 cases h with
 |d _ _ h=>cases h with
  |pto _ b o vs hb hc ho hr=>exact .dptr cs b o vs hb hc fun j y hj=>⟨ho y (Zaf hj),hr j y hj⟩
/-! ### Equality of bools; against nil -/
def fEqB(neg:Bool):AV→AV→Option AV
 |.d (.bool a),.d (.bool b)=>some (.d (.bool (if neg then !decide (a=b)else decide (a=b))))
 |_,_=>none
def isNil:AV→Option Bool
 |.d .nil=>some true
 |.d (.iface _ _)=>some false
 |.d .nilp=>some true
 |.ptr _ _=>some false
 |.dptr _=>some false
 |.d (.addr _)=>some false
 |.d (.pto _)=>some false
 |.d .nilf=>some true
 |.fn _ _ _=>some false
 |_=>none
def fNil(neg:Bool)(x:AV):Option AV:=(isNil x).map fun b=>.d (.bool (if neg then !b else b))
def eqOp(neg:Bool):BinOp:=if neg then .neq else .eql
theorem q5h{t:TypeId}{v u:Value}{b:Bool}(h:∀d,(Op.equalIn (d+1) t v u).run P w=.ok b w):(Op.equal t v u).run P w=.ok b w:=h 9999
theorem j5V{neg:Bool}{x y z:AV}{v u:Value}{t:TypeId}(ht:P.underlying t=some .bool)(hx:AVR G w x v)(hy:AVR G w y u)(h:fEqB neg x y=some z):
  ∃r,(binOp (eqOp neg) t v u).run P w=.ok r w∧AVR G w z r:=by
 unfold fEqB at h;split at h
 ·rename_i a b;cases h;have hx:=hx.dinv;have hy:=hy.dinv;cases hx;cases hy;have he:(Op.equal t (.bool a) (.bool b)).run P w=.ok (a==b) w:=q5h (fun d=>by simp[Op.equalIn,run_underlying ht]);have h1:binOp .eql t (.bool a) (.bool b)=(do pure (.bool (←Op.equal t (.bool a) (.bool b)))):=rfl;have h2:binOp .neq t (.bool a) (.bool b)=(do pure (.bool (!(←Op.equal t (.bool a) (.bool b))))):=rfl;refine⟨.bool _,?_,.d _ _ (.bool _)⟩;cases neg
  ·simp only[eqOp,Zao,if_false,h1,Sem.run_bind,he,Result.andThen_ok,Sem.run_pure];cases a<;>cases b<;>rfl
  ·simp only[eqOp,if_true,h2,Sem.run_bind,he,Result.andThen_ok,Sem.run_pure];cases a<;>cases b<;>rfl
 ·cases h
def j4x:TypeDesc→Option Value
 |.interface _=>some .nilIface
 |.pointer _=>some (.pointer none)
 |.func _ _ _=>some .nilFunc
 |_=>none
def j4w:TypeDesc→AV→Bool
 |.interface _,.d .nil=>true
 |.interface _,.d (.iface _ _)=>true
 |.pointer _,.d .nilp=>true
 |.pointer _,.ptr _ _=>true
 |.pointer _,.dptr _=>true
 |.pointer _,.d (.addr _)=>true
 |.pointer _,.d (.pto _)=>true
 |.func _ _ _,.d .nilf=>true
 |.func _ _ _,.fn _ _ _=>true
 |_,_=>false
theorem z6C{neg:Bool}{x z:AV}{v u:Value}{t:TypeId}{d:TypeDesc}(ht:P.underlying t=some d)(hu:j4x d=some u)(hx:AVR G w x v)(h:fNil neg x=some z)
  (hk:j4w d x=true):
  ∃r,(binOp (eqOp neg) t v u).run P w=.ok r w∧AVR G w z r:=by
 have key:∃b,isNil x=some b∧z=.d (.bool (if neg then !b else b)):=by
  unfold fNil at h;cases hb:isNil x with
  |none=>simp[hb]at h
  |some b=>simp[hb]at h;exact⟨b,rfl,h.symm⟩
 obtain⟨b,hb,rfl⟩:=key;refine⟨.bool (if neg then !b else b),?_,.d _ _ (.bool _)⟩;have fin:∀{v u:Value},(Op.equal t v u).run P w=.ok b w→binOp .eql t v u=(do pure (.bool (←Op.equal t v u)))→binOp .neq t v u=(do pure (.bool (!(←Op.equal t v u))))→
   (binOp (eqOp neg) t v u).run P w=.ok (.bool (if neg then !b else b)) w:=fun he h1 h2=>by
  cases neg
  ·simp only[eqOp,Zao,if_false,h1,Sem.run_bind,he,Result.andThen_ok,Sem.run_pure]
  ·simp only[eqOp,if_true,h2,Sem.run_bind,he,Result.andThen_ok,Sem.run_pure]
 cases d with
 |interface ms=>
  simp only[j4x,Zas]at hu;subst hu;cases x with
  |d y=>
   cases y with
   |nil=>simp only[isNil,Zas]at hb;subst hb;have hx:=hx.dinv;cases hx;exact fin (q5h (fun d=>by simp[Op.equalIn,run_underlying ht])) rfl rfl
   |iface t' y=>simp only[isNil,Zas]at hb;subst hb;have hx:=hx.dinv;cases hx;exact fin (q5h (fun d=>by simp[Op.equalIn,run_underlying ht])) rfl rfl
   |_=>cases hk
  |_=>cases hk
 |pointer e=>
  simp only[j4x,Zas]at hu;subst hu;cases x with
  |d y=>
   cases y with
   |nilp=>simp only[isNil,Zas]at hb;subst hb;have hx:=hx.dinv;cases hx;exact fin (q5h (fun d=>by simp[Op.equalIn,run_underlying ht])) rfl rfl
   |addr a=>simp only[isNil,Zas]at hb;subst hb;have hx:=hx.dinv;cases hx;exact fin (q5h (fun d=>by simp[Op.equalIn,run_underlying ht])) rfl rfl
   |pto cs=>simp only[isNil,Zas]at hb;subst hb;have hx:=hx.dinv;cases hx;exact fin (q5h (fun d=>by simp[Op.equalIn,run_underlying ht])) rfl rfl
   |_=>cases hk
  |ptr r o=>simp only[isNil,Zas]at hb;subst hb;cases hx;exact fin (q5h (fun d=>by simp[Op.equalIn,run_underlying ht])) rfl rfl
  |dptr cs=>simp only[isNil,Zas]at hb;subst hb;cases hx;exact fin (q5h (fun d=>by simp[Op.equalIn,run_underlying ht])) rfl rfl
  |_=>cases hk
 |func p r b=>
  simp only[j4x,Zas]at hu;subst hu;cases x with
  |d y=>
   cases y with
   |nilf=>simp only[isNil,Zas]at hb;subst hb;have hx:=hx.dinv;cases hx;exact fin (q5h (fun d=>by simp[Op.equalIn,run_underlying ht])) rfl rfl
   |_=>cases hk
  |fn f a b=>simp only[isNil,Zas]at hb;subst hb;cases hx;exact fin (q5h (fun d=>by simp[Op.equalIn,run_underlying ht])) rfl rfl
  |_=>cases hk
 |_=>simp[j4x]at hu
/-! ### not, minus, conversions of numbers -/
def fNot:AV→Option AV
 |.d (.bool b)=>some (.d (.bool (!b)))
 |_=>none
def fNeg:AV→Option AV
 |.d (.int k x)=>some (.d (.int k (k.wrap (0-x))))
 |_=>none
def fCvI(k:IntKind):AV→Option AV
 |.d (.int _ x)=>some (.d (.int k (k.wrap x)))
 |_=>none
def fI2s:AV→Option AV
 |.d (.int _ x)=>some (.d (.str (Utf8.encode x).data.toList))
 |_=>none
theorem j54{x z:AV}{v:Value}(hx:AVR G w x v)(h:fNot x=some z):∃r,(Op.unary .not v).run P w=.ok r w∧AVR G w z r:=by
 unfold fNot at h;split at h
 ·cases h;have hx:=hx.dinv;cases hx;exact⟨_,rfl,.d _ _ (.bool _)⟩
 ·cases h
theorem j53{x z:AV}{v:Value}(hx:AVR G w x v)(h:fNeg x=some z):∃r,(Op.unary .neg v).run P w=.ok r w∧AVR G w z r:=by
 unfold fNeg at h;split at h
 ·cases h;have hx:=hx.dinv;cases hx;exact⟨_,rfl,.d _ _ (.int _ _)⟩
 ·cases h
theorem j5U{k:IntKind}{x z:AV}{v:Value}{s t:TypeId}{ds:TypeDesc}(hs:P.underlying s=some ds)(ht:P.underlying t=some (.int k))(hx:AVR G w x v)(h:fCvI k x=some z):
  ∃r,(convert s t v).run P w=.ok r w∧AVR G w z r:=by
 unfold fCvI at h;split at h
 ·cases h;have hx:=hx.dinv;cases hx;refine⟨_,?_,.d _ _ (.int _ _)⟩;simp[convert,run_underlying hs,run_underlying ht,Conv.intToInt]
 ·cases h
theorem j5Z{x z:AV}{v:Value}{s t:TypeId}{ds:TypeDesc}(hs:P.underlying s=some ds)(ht:P.underlying t=some .string)(hx:AVR G w x v)(h:fI2s x=some z):
  ∃r,(convert s t v).run P w=.ok r w∧AVR G w z r:=by
 unfold fI2s at h;split at h
 ·cases h;have hx:=hx.dinv;cases hx;rename_i k n;refine⟨.string (Utf8.encode n),?_,?_⟩
  ·simp[convert,run_underlying hs,run_underlying ht,Conv.intToString]
  ·exact .d _ _ (RD.str _)
 ·cases h
/-! ### Bytes of a string; parts of it; lengths -/
def getI{α:Type}(l:List α)(i:Int):Option α:=if 0≤i then l[i.toNat]? else none
def z2W:AV→AV→Option AV
 |.d (.str s),.d (.int _ i)=>(getI s i).map fun b=>.d (.int .u8 b.toNat)
 |_,_=>none
theorem j3N{x y z:AV}{v u:Value}{t:TypeId}(ht:P.underlying t=some .string)(hx:AVR G w x v)(hy:AVR G w y u)(h:z2W x y=some z):
  ∃r,(Instr.index t v u).run P w=.ok r w∧AVR G w z r:=by
 unfold z2W at h;split at h
 ·rename_i s k i;have hx:=hx.dinv;cases hx;have hy:=hy.dinv;cases hy;unfold getI at h;split at h
  ·rename_i h0;cases hb:s[i.toNat]? with
   |none=>simp[hb]at h
   |some b=>
    simp[hb]at h;subst h;have hlt:i.toNat<s.length:=(Zac.1 hb).1;have h1:(⟨s.toArray⟩:ByteArray)[i.toNat]?=some b:=by
     rw[ByteArray.getElem?_lt' _ _ (by simpa[ByteArray.size]using hlt)];have:=(Zac.1 hb).2;simp[←this,ByteArray.getElem_eq_getElem_data]
    refine⟨.int .u8 b.toNat,?_,.d _ _ (.int _ _)⟩;simp[Instr.index,asIntOf,run_underlying ht,h0,h1]
  ·simp at h
 ·cases h
def loOf:Option AV→Option Int
 |none=>some 0
 |some (.d (.int _ i))=>some i
 |_=>none
def hiOf(len:Nat):Option AV→Option Int
 |none=>some len
 |some (.d (.int _ i))=>some i
 |_=>none
def cutI{α:Type}(l:List α)(lo hi:Int):List α:=(l.take hi.toNat).drop lo.toNat
def z6D(x:AV)(lo hi:Option AV):Option AV:=
 match x with
 |.d (.str s)=>match loOf lo,hiOf s.length hi with
  |some l,some h=>if 0≤l∧l≤h∧h≤s.length then some (.d (.str (cutI s l h)))else none
  |_,_=>none
 |_=>none
def OptR(G:q0s)(w:World):Option AV→Option Value→Prop
 |none,none=>True
 |some x,some v=>AVR G w x v
 |_,_=>False
theorem z6Y{lo:Option AV}{l:Int}{ul:Option Value}(h:OptR G w lo ul)(hl:loOf lo=some l):(ul=none∧l=0)∨∃k,ul=some (.int k l):=by
 unfold loOf at hl;split at hl
 ·cases hl;cases ul<;>simp_all[OptR]
 ·cases hl;cases ul with
  |none=>cases h
  |some u=>have h:=AVR.dinv h;cases h;exact .inr ⟨_,rfl⟩
 ·cases hl
theorem z3l{hi:Option AV}{len:Nat}{l:Int}{ul:Option Value}(h:OptR G w hi ul)(hl:hiOf len hi=some l):(ul=none∧l=len)∨∃k,ul=some (.int k l):=by
 unfold hiOf at hl;split at hl
 ·cases hl;cases ul<;>simp_all[OptR]
 ·cases hl;cases ul with
  |none=>cases h
  |some u=>have h:=AVR.dinv h;cases h;exact .inr ⟨_,rfl⟩
 ·cases hl
theorem z3T(s:List UInt8)(l h:Int):(⟨s.toArray⟩:ByteArray).extract l.toNat h.toNat=⟨(cutI s l h).toArray⟩:=by
 apply ByteArray.ext;simp[cutI,ByteArray.data_extract,List.extract_eq_take_drop,Zde]
theorem j1S(s:List UInt8):(⟨s.toArray⟩:ByteArray).size=s.length:=by rw[←ByteArray.size_data];simp
theorem j5K{α:Type}(l:List α):cutI l 0 l.length=l:=by simp[cutI]
theorem q0y(k:IntKind)(i:Int)(y:Nat)(code:BoundsCode)(h0:0≤i)(h1:i≤y)(w:World):(Instr.sliceBound (.int k i) y code).run P w=.ok i.toNat w:=by
 simp[Instr.sliceBound,asIntOf,h0,h1]
theorem j3R{x z:AV}{lo hi:Option AV}{v:Value}{ul uh:Option Value}{t:TypeId}(ht:P.underlying t=some .string)(hx:AVR G w x v)(hl:OptR G w lo ul)(hh:OptR G w hi uh)(h:z6D x lo hi=some z):
  ∃r,(Instr.sliceAt t v ul uh none).run P w=.ok r w∧AVR G w z r:=by
 unfold z6D at h;split at h
 ·rename_i s;have hx:=hx.dinv;cases hx;split at h
  ·rename_i l h' h1 h2;split at h
   ·rename_i hb;cases h;obtain⟨b0,b1,b2⟩:=hb;have hsz:=j1S s;refine⟨.string ⟨(cutI s l h').toArray⟩,?_,.d _ _ (.str _)⟩;rw[←z3T];have e1:(h'.toNat:Int)=h':=Int.toNat_of_nonneg (by omega);rcases z6Y hl h1 with⟨rfl,rfl⟩|⟨k1,rfl⟩<;>rcases z3l hh h2 with⟨rfl,rfl⟩|⟨k2,rfl⟩
    ·have e2:=z3T s 0 s.length;rw[j5K]at e2;simp only[Zbw,Int.toNat_zero]at e2 ⊢;rw[e2];simp[Instr.sliceAt,Instr.slice,run_underlying ht,Instr.sliceBounds]
    ·have g:=q0y (P:=P) k2 h' s.length .sliceAlen (by omega) b2 w;simp[Instr.sliceAt,Instr.slice,run_underlying ht,Instr.sliceBounds,hsz,g]
    ·have g:=q0y (P:=P) k1 l s.length .sliceB b0 b1 w;simp[Instr.sliceAt,Instr.slice,run_underlying ht,Instr.sliceBounds,hsz,g]
    ·have g:=q0y (P:=P) k2 h' s.length .sliceAlen (by omega) b2 w;have g2:=q0y (P:=P) k1 l h'.toNat .sliceB b0 (by omega) w;simp[Instr.sliceAt,Instr.slice,run_underlying ht,Instr.sliceBounds,hsz,g,g2]
   ·cases h
  ·cases h
 ·cases h
def fLen:AV→Option AV
 |.d (.str s)=>some (.d (.int .i64 s.length))
 |.d (.list l)=>some (.d (.int .i64 l.length))
 |.own _ _ _ l=>some (.d (.int .i64 l.length))
 |.ns=>some (.d (.int .i64 0))
 |.rs _ n _=>some (.d (.int .i64 n))
 |_=>none
theorem RD.z58{f:Nat→Nat}{l:List D}{v:Value}(h:RD f w (.list l) v):∃a c,v=.slice a l.length c:=by
 cases h
 ·exact⟨none,0,rfl⟩
 ·exact⟨_,_,rfl⟩
 ·exact⟨_,_,rfl⟩
def j4d(P:Program)(t:TypeId):AV→Prop
 |.d (.str _)=>P.underlying t=some .string
 |_=>∃e,P.underlying t=some (.slice e)
theorem j09{x z:AV}{v:Value}{t ty:TypeId}(hx:AVR G w x v)(h:fLen x=some z)(hk:j4d P t x):
  ∃r,(Builtin.len_ #[t] ty #[v]).run P w=.ok r w∧AVR G w z r:=by
 unfold fLen at h;split at h
 ·rename_i s;cases h;have hx:=hx.dinv;cases hx;refine⟨_,?_,.d _ _ (.int _ _)⟩;have h1:=run_len_string (P:=P) w t ty ⟨s.toArray⟩ hk;rw[j1S]at h1;exact h1
 ·rename_i l;cases h;have hx:=hx.dinv;obtain⟨a',c,rfl⟩:=hx.z58;obtain⟨e,hk⟩:=hk;refine⟨_,?_,.d _ _ (.int _ _)⟩;simp[Builtin.len_,run_underlying hk,goInt]
 ·cases h;cases hx with|own _ _ _ _ _ hq hv hs=>?_;obtain⟨a',c,rfl⟩:=hv.z58;obtain⟨e,hk⟩:=hk;refine⟨_,?_,.d _ _ (.int _ _)⟩;simp[Builtin.len_,run_underlying hk,goInt]
 ·cases h;cases hx;obtain⟨e,hk⟩:=hk;refine⟨_,?_,.d _ _ (.int _ _)⟩;simp[Builtin.len_,run_underlying hk,goInt]
 ·cases h;cases hx;obtain⟨e,hk⟩:=hk;refine⟨_,?_,.d _ _ (.int _ _)⟩;simp[Builtin.len_,run_underlying hk,goInt]
 ·cases h
def fMm(mx:Bool):AV→AV→Option AV
 |.d (.int k x),.d (.int _ y)=>some (.d (.int k (if mx then(if y>x then y else x)else(if y<x then y else x))))
 |_,_=>none
theorem j3Q{mx:Bool}{x y z:AV}{v u:Value}{at_:Array TypeId}{ty:TypeId}(hx:AVR G w x v)(hy:AVR G w y u)(h:fMm mx x y=some z):
  ∃r,(if mx then Builtin.max_ at_ ty #[v,u]else Builtin.min_ at_ ty #[v,u]).run P w=.ok r w∧AVR G w z r:=by
 unfold fMm at h;split at h
 ·cases h;have hx:=hx.dinv;have hy:=hy.dinv;cases hx;cases hy;refine⟨_,?_,.d _ _ (.int _ _)⟩;cases mx<;>simp[Builtin.max_,Builtin.min_,Builtin.max2,Builtin.min2]
 ·cases h
end Go.Av
/- Operations over abstract states, continued: addresses, loads, structs, interface values. -/
namespace Go.Av
variable {E:Entry} {n:Nat} {G:q0s} {σ:St} {a:Act} {w:World} {P:Program}
/-! ### Addresses -/
def fFa(off:Nat):AV→Option AV
 |.ptr r o=>some (.ptr r (o+off))
 |.dptr cs=>if off≤cs.length then some (.dptr (cs.drop off))else none
 |.d (.pto cs)=>if off≤cs.length then some (.dptr (cs.drop off))else none
 |.d (.addr a)=>some (.d (.addr (a.add off)))
 |_=>none
theorem AVR.q84{cs:List D}{b o off:Nat}(h:AVR G w (.dptr cs) (.pointer (some (at_ b o))))(ho:off≤cs.length):AVR G w (.dptr (cs.drop off)) (.pointer (some (at_ b (o+off)))):=by
 cases h with
 |dptr _ _ _ vs hb hc hr=>
  refine .dptr _ b (o+off) (fun k=>vs (off+k)) (by simp;omega) (fun k hk=>?_) (fun j y hj=>?_)
  ·simp at hk;rw[Nat.add_assoc];exact hc (off+k) (by omega)
  ·rw[Zbx]at hj;exact hr (off+j) y hj
theorem AVR.q4o{cs:List D}{v:Value}(h:AVR G w (.dptr cs) v):∃b o,v=.pointer (some (at_ b o)):=by
 cases h;exact⟨_,_,rfl⟩
theorem j77{x z:AV}{v:Value}{t i off:Nat}{fs:Array Field}{f:Field}(ht:P.underlying t=some (.struct fs))(hf:fs[i]?=some f)(ho:f.offset=off)(hs:P.cellsOf f.type≠0)(hx:AVR G w x v)(h:fFa off x=some z):
  ∃r,(Instr.fieldAt t v i).run P w=.ok r w∧AVR G w z r:=by
 have hinfo:∃ti,P.info? f.type=some ti∧ti.size≠0:=by
  unfold Program.cellsOf at hs;cases hi:P.info? f.type with
  |none=>simp[hi]at hs
  |some ti=>simp[hi]at hs;exact⟨ti,rfl,hs⟩
 obtain⟨ti,h1,h2⟩:=hinfo;unfold fFa at h;split at h
 ·cases h;cases hx;refine⟨_,?_,.ptr _ _⟩;simp[Instr.fieldAt,run_underlying ht,hf,Instr.sureAddr,fieldPlace,sizeOf,typeInfo,h1,h2,ho,q5x]
 ·split at h
  ·cases h;rename_i ho';obtain⟨b,o,rfl⟩:=hx.q4o;refine⟨_,?_,hx.q84 ho'⟩;simp[Instr.fieldAt,run_underlying ht,hf,Instr.sureAddr,fieldPlace,sizeOf,typeInfo,h1,h2,ho,q5x]
  ·cases h
 ·split at h
  ·cases h;rename_i ho';have hx:=hx.j0m;obtain⟨b,o,rfl⟩:=hx.q4o;refine⟨_,?_,hx.q84 ho'⟩;simp[Instr.fieldAt,run_underlying ht,hf,Instr.sureAddr,fieldPlace,sizeOf,typeInfo,h1,h2,ho,q5x]
  ·cases h
 ·cases h;have hx:=hx.dinv;cases hx;refine⟨_,?_,.d _ _ (.addr _)⟩;simp[Instr.fieldAt,run_underlying ht,hf,Instr.sureAddr,fieldPlace,sizeOf,typeInfo,h1,h2,ho]
 ·cases h
def fIaD(sz:Nat)(x:AV)(i:AV):Option AV:=
 match x.rd,i with
 |some (.list l),.d (.int _ i)=>match getI l i with
  |some e=>if e.cells.length=sz then some (.dptr e.cells)else none
  |none=>none
 |_,_=>none
def fIaR(sz:Nat)(r:Ref)(n:Nat):AV→Option AV
 |.d (.int _ i)=>if 0≤i∧i<n then some (.ptr r (i.toNat * sz))else none
 |_=>none
def fIa(sz:Nat)(x:AV)(i:AV):Option AV:=
 match x with
 |.rs r n _=>fIaR sz r n i
 |x=>fIaD sz x i
theorem j31{α:Type}{l:List α}{i:Int}{e:α}(h:getI l i=some e):0≤i∧i<l.length∧l[i.toNat]?=some e:=by
 unfold getI at h;split at h
 ·rename_i h0;have:=(Zac.1 h).1;exact⟨h0,by omega,h⟩
 ·cases h
theorem j78{x y z:AV}{v u:Value}{t e:TypeId}{sz:Nat}(ht:P.underlying t=some (.slice e))(hs:(P.info? e).map (·.size)=some sz)(hx:AVR G w x v)(hy:AVR G w y u)(h:fIa sz x y=some z):
  ∃r,(Instr.indexAt t v u).run P w=.ok r w∧AVR G w z r:=by
 unfold fIa at h;split at h
 ·rename_i r n c;unfold fIaR at h;split at h
  ·rename_i k i;split at h
   ·rename_i hb;cases h;cases hx;have hy:=hy.dinv;cases hy;cases hi:P.info? e with
    |none=>simp[hi]at hs
    |some ti=>
     simp[hi]at hs;refine⟨.pointer (some (at_ (G.b r) (i.toNat * sz))),?_,.ptr _ _⟩;simp[Instr.indexAt,asIntOf,run_underlying ht,hb.1,hb.2,sizeOf,typeInfo,hi,hs,q5x]
   ·cases h
  ·cases h
 unfold fIaD at h;split at h
 ·rename_i l k i hl;split at h
  ·rename_i el hg;split at h
   ·rename_i hsz;cases h;obtain⟨h0,h1,h2⟩:=j31 hg;have hr:=hx.rd hl;have hy:=hy.dinv;cases hy;cases hi:P.info? e with
    |none=>simp[hi]at hs
    |some ti=>
     simp[hi]at hs;cases hr with
     |nils=>simp at h1;omega
     |emp _ _=>simp at h1;omega
     |list _ b o cap sz' vs hcap hsz' hb hc hr=>
      have hm:=Zaf h2;have e1:sz'=sz:=by rw[←(hsz' el hm).1];exact hsz
      subst e1;have hlt:i.toNat<l.length:=by omega
      have hle:i.toNat * sz'+sz'≤l.length*sz':=by have:=Zby sz' hlt;rw[Nat.succ_mul]at this;exact this
      refine⟨.pointer (some (at_ b (o+i.toNat * sz'))),?_,.dptr _ b _ (fun k=>vs (i.toNat * sz'+k)) (by rw[hsz];omega) (fun k hk=>?_) (fun j y hj=>⟨(hsz' el hm).2 y (Zaf hj),hr i.toNat el j y h2 hj⟩)⟩
      ·simp[Instr.indexAt,asIntOf,run_underlying ht,h0,h1,sizeOf,typeInfo,hi,hs,q5x]
      ·rw[hsz]at hk;have:=hc (i.toNat * sz'+k) (by omega);rw[Nat.add_assoc];exact this
   ·cases h
  ·cases h
 ·cases h
def fIaA(len sz:Nat):AV→AV→Option AV
 |.ptr r o,.d (.int _ i)=>if 0≤i∧i<len then some (.ptr r (o+i.toNat * sz))else none
 |.dptr cs,.d (.int _ i)=>if 0≤i∧i<len∧i.toNat * sz≤cs.length then some (.dptr (cs.drop (i.toNat * sz)))else none
 |_,_=>none
theorem j50{x y z:AV}{v u:Value}{t e:TypeId}{len sz:Nat}(ht:P.underlying t=some (.array len e))(hs:(P.info? e).map (·.size)=some sz)(hx:AVR G w x v)(hy:AVR G w y u)(h:fIaA len sz x y=some z):
  ∃r,(Instr.indexAt t v u).run P w=.ok r w∧AVR G w z r:=by
 cases hi:P.info? e with
 |none=>simp[hi]at hs
 |some ti=>
  simp[hi]at hs;unfold fIaA at h;split at h
  ·split at h
   ·rename_i hb;cases h;cases hx;have hy:=hy.dinv;cases hy;refine⟨_,?_,.ptr _ _⟩;simp[Instr.indexAt,asIntOf,run_underlying ht,hb,Instr.sureAddr,sizeOf,typeInfo,hi,hs,q5x]
   ·cases h
  ·split at h
   ·rename_i hb;cases h;obtain⟨b,o,rfl⟩:=hx.q4o;have hy:=hy.dinv;cases hy;refine⟨_,?_,hx.q84 hb.2.2⟩;simp[Instr.indexAt,asIntOf,run_underlying ht,hb.1,hb.2.1,Instr.sureAddr,sizeOf,typeInfo,hi,hs,q5x]
   ·cases h
  ·cases h
/-! ### Loads -/
def rdL:List AV→Option (List D)
 |[]=>some []
 |x::r=>match x.rd,rdL r with
  |some y,some l=>some (y::l)
  |_,_=>none
def AV.den:AV→AV
 |.nt _=>.d .nilp
 |x=>x
theorem AVR.den{x:AV}{v:Value}(h:AVR G w x v):AVR G w x.den v:=by
 cases x<;>first|exact h|skip
 cases h;exact .d _ _ .nilp
def AV.pub:AV→AV
 |.nt _=>.d .nilp
 |.own _ _ _ l=>.d (.list l)
 |x=>x
theorem AVR.pub{x:AV}{v:Value}(h:AVR G w x v):AVR G w x.pub v:=by
 cases x<;>first|exact h|skip
 ·cases h with
  |own _ _ _ _ _ hq hv hs=>exact .d _ _ hv
 ·cases h;exact .d _ _ .nilp
def AV.z1I:AV→Bool
 |.d _|.ptr _ _|.dptr _|.ns|.nt _|.rs _ _ _|.mp _|.own _ _ _ _=>true
 |_=>false
def AV.nsr:AV→Bool
 |.ns|.rs _ _ _=>true
 |_=>false
def fLdA(cs:List AV):Option AV:=
 if cs.any AV.nsr then(if cs.all AV.z1I then some (.sx (cs.map AV.pub))else none)
 else match rdL cs with
 |some l=>some (.d (.agg l))
 |none=>if cs.all AV.z1I then some (.sx (cs.map AV.pub))else none
def fLdP(agg:Bool)(m:Nat)(cs:List AV)(o:Nat):Option AV:=
 if agg then(if o+m≤cs.length then fLdA ((cs.drop o).take m)else none)else(cs[o]?).map AV.den
def AV.z6Z:AV→Bool
 |.d _|.own _ _ _ _|.dptr _|.junk|.ns|.nt _|.ptr (.x _) _|.rs (.x _) _ _|.mp (.x _)=>true
 |_=>false
def fLdX(r:Ref)(z:Option AV):Option AV:=
 match r,z with
 |.x _,some z=>if z.z6Z then some z else none
 |_,z=>z
theorem z3U{r:Ref}{z:Option AV}{y:AV}(h:fLdX r z=some y):z=some y:=by
 unfold fLdX at h;split at h
 ·split at h
  ·exact h
  ·cases h
 ·exact h
def fLd(σ:St)(agg:Bool)(m:Nat):AV→Option AV
 |.ptr r o=>match σ.obj r with
  |some (.cells cs)=>fLdX r (fLdP agg m cs o)
  |_=>none
 |.dptr cs=>if agg then(if m≤cs.length then some (.d (.agg (cs.take m)))else none)else(cs[0]?).map .d
 |.d (.pto cs)=>if agg then(if m≤cs.length then some (.d (.agg (cs.take m)))else none)else(cs[0]?).map .d
 |_=>none
theorem z7c:∀{xs:List AV} {l:List D},rdL xs=some l→xs.length=l.length∧∀(i:Nat) (y:D),l[i]?=some y→∃x,xs[i]?=some x∧x.rd=some y
 |[],l,h=>by simp[rdL]at h;subst h;exact⟨rfl,fun _ _ h=>by simp at h⟩
 |x::r,l,h=>by
  simp only[rdL]at h;split at h
  ·rename_i y l' hy hl;cases h;obtain⟨h1,h2⟩:=z7c hl;refine⟨by simp[h1],fun i z hz=>?_⟩;cases i with
   |zero=>simp at hz;subst hz;exact⟨x,rfl,hy⟩
   |succ i=>simp at hz;simpa using h2 i z hz
  ·cases h
theorem z6B{xs:List AV}{us:List Value}{z:AV}(hl:us.length=xs.length)(h:∀(i:Nat) (x:AV),xs[i]?=some x→AVR G w x (us.getD i undef)∧(us.getD i undef).oneCell'=true)(hz:fLdA xs=some z):AVR G w z (.agg us.toArray):=by
 have sx:xs.all AV.z1I=true→AVR G w (.sx (xs.map AV.pub)) (.agg us.toArray):=fun hsol=>by
  have hg:∀i,us.toArray.getD i undef=us.getD i undef:=fun i=>by simp[List.getD_eq_getElem?_getD]
  refine .sx _ _ (by simpa using hl) (fun x hx=>?_) (fun i hi=>?_) (fun i x hi=>?_)
  ·obtain⟨y,hy,rfl⟩:=Zat.1 hx;have:=Zbh.1 hsol y hy;cases y<;>simp_all[AV.z1I,AV.pub,AV.simple]
  ·rw[hg];have hi':i<xs.length:=by simpa using hi
   exact(h i _ (Zal hi')).2
  ·rw[hg];rw[Zan]at hi;obtain⟨y,hy,rfl⟩:=Zbf.1 hi;exact(h i y hy).1.pub
 unfold fLdA at hz;split at hz
 ·split at hz
  ·rename_i hsol;cases hz;exact sx hsol
  ·cases hz
 ·split at hz
  ·rename_i l hr;cases hz;obtain⟨k1,k2⟩:=z7c hr;have hr':∀i e,l[i]?=some e→RD G.f w e (us.toArray.getD i undef)∧(us.toArray.getD i undef).oneCell'=true:=fun i e hi=>by
    obtain⟨x,hx,hx1⟩:=k2 i e hi;have hg:us.toArray.getD i undef=us.getD i undef:=by simp[List.getD_eq_getElem?_getD]
    rw[hg];exact⟨(h i x hx).1.rd hx1,(h i x hx).2⟩
   refine .d _ _ (.agg l _ (by simp;omega) (fun e he=>?_) fun i e hi=>(hr' i e hi).1);obtain⟨i,hi⟩:=Zbb he;exact(hr' i e hi).1.z6h (hr' i e hi).2
  ·split at hz
   ·rename_i hsol;cases hz;exact sx hsol
   ·cases hz
theorem cell_of_heap{w:World}{b:Nat}{arr:Array Value}{el:TypeId}{fr:Nat×Nat}(h:w.heap[b]?=some (.cells arr el fr))(i:Nat):w.cell? (at_ b i)=arr[i]?:=by
 simp[World.cell?,at_,h]
def aggT(d:TypeDesc):Bool:=match d with|.struct _|.array _ _=>true|_=>false
theorem q6q{t:TypeId}{d:TypeDesc}(ht:P.underlying t=some d):(isAgg t).run P w=.ok (aggT d) w:=by
 simp only[isAgg,Sem.run_bind,run_underlying ht,Result.andThen_ok];cases d<;>rfl
theorem z0H{t:TypeId}{d:TypeDesc}{m b o:Nat}{vs:List Value}(ht:P.underlying t=some d)(hd:aggT d=true)(hs:(P.info? t).map (·.size)=some m)(hl:vs.length=m)
  (h:∀j v,vs[j]?=some v→w.cell? (at_ b (o+j))=some v):(loadVar t (at_ b o)).run P w=.ok (.agg vs.toArray) w:=by
 cases hi:P.info? t with
 |none=>simp[hi]at hs
 |some ti=>
  simp[hi]at hs;have h1:=run_loadCells_list (P:=P) w (at_ b o) vs (fun j v hj=>by rw[q5x];exact h j v hj);simp[loadVar,q6q ht,hd,sizeOf,typeInfo,hi,hs,←hl,h1]
theorem z0I{t:TypeId}{d:TypeDesc}{b o:Nat}{v:Value}(ht:P.underlying t=some d)(hd:aggT d=false)(h:w.cell? (at_ b o)=some v):(loadVar t (at_ b o)).run P w=.ok v w:=by
 simp[loadVar,q6q ht,hd,run_load,h]
theorem z9S(hσ:SR E n G σ a.tmps w){x z:AV}{v:Value}{t:TypeId}{d:TypeDesc}{m:Nat}(ht:P.underlying t=some d)(hs:(P.info? t).map (·.size)=some m)(hx:AVR G w x v)(h:fLd σ (aggT d) m x=some z):
  ∃r,(Instr.loadAt t v).run P w=.ok r w∧AVR G w z r:=by
 unfold fLd at h;split at h
 ·rename_i r o;cases hx;split at h
  ·rename_i cs hcs;obtain⟨arr,el,g1,g2,g3⟩:=hσ.obj r _ hcs;have hcell:=cell_of_heap g1;have h:=z3U h;unfold fLdP at h;cases hd:aggT d with
   |true=>
    simp only[hd,if_true]at h;split at h
    ·rename_i hle;have hseg:((cs.drop o).take m).length=m:=by simp;omega
     refine⟨.agg ((List.range m).map fun j=>arr.getD (o+j) undef).toArray,?_,z6B (by simp;omega) (fun i x hi=>?_) h⟩
     ·simp only[Instr.loadAt,Sem.run_bind,Instr.sureAddr,Sem.run_pure,Result.andThen_ok];refine z0H ht hd hs (by simp) (fun j v hj=>?_);rw[hcell];have hj':j<m:=by have:=(Zac.1 hj).1;simpa using this
      simp[hj']at hj;rw[←hj];have hsz:o+j<arr.size:=by rw[g2];omega
      simp[hsz]
     ·have hj':i<m:=by have:=(Zac.1 hi).1;omega
      rw[Zbc,if_pos hj',Zbx]at hi;have e:((List.range m).map fun j=>arr.getD (o+j) undef).getD i undef=arr.getD (o+i) undef:=by simp[List.getD_eq_getElem?_getD,hj']
      rw[e];obtain⟨c1,c2,_⟩:=g3 (o+i) x hi;exact⟨c1,c2⟩
    ·cases h
   |false=>
    simp only[hd,Zao,if_false]at h;obtain⟨z0,h0,rfl⟩:=Zbf.1 h;obtain⟨c1,_,_⟩:=g3 o z0 h0;have hsz:o<arr.size:=by rw[g2];exact(Zac.1 h0).1
    refine⟨_,?_,c1.den⟩;simp only[Instr.loadAt,Sem.run_bind,Instr.sureAddr,Sem.run_pure,Result.andThen_ok];exact z0I ht hd (by rw[hcell];simp[hsz])
  ·cases h
 ·rename_i cs;cases hx with|dptr _ b o vs hb hc hr=>?_;cases hd:aggT d with
  |true=>
   simp only[hd,if_true]at h;split at h
   ·rename_i hle;cases h;refine⟨.agg ((List.range m).map vs).toArray,?_,.d _ _ (.agg _ _ (by simp;omega) (fun y hy=>?_) (fun j y hj=>?_))⟩
    ·simp only[Instr.loadAt,Sem.run_bind,Instr.sureAddr,Sem.run_pure,Result.andThen_ok];refine z0H ht hd hs (by simp) (fun j v hj=>?_);have hj':j<m:=by have:=(Zac.1 hj).1;simpa using this
     simp[hj']at hj;rw[←hj];exact hc j (by omega)
    ·obtain⟨j,hj⟩:=Zbt.1 (Zbk hy);exact(hr j y hj).1
    ·have hj':j<m:=by have:=(Zac.1 hj).1;simp at this;omega
     rw[Zbc,if_pos hj']at hj;have:=(hr j y hj).2;simpa[hj']using this
   ·cases h
  |false=>
   simp only[hd,Zao,if_false]at h;cases hy:cs[0]? with
   |none=>simp[hy]at h
   |some y=>
    simp[hy]at h;subst h;refine⟨_,?_,.d _ _ (hr 0 y hy).2⟩;simp only[Instr.loadAt,Sem.run_bind,Instr.sureAddr,Sem.run_pure,Result.andThen_ok];exact z0I ht hd (by have:=hc 0 (Zac.1 hy).1;simpa using this)
 ·rename_i cs;cases hx.j0m with|dptr _ b o vs hb hc hr=>?_;cases hd:aggT d with
  |true=>
   simp only[hd,if_true]at h;split at h
   ·rename_i hle;cases h;refine⟨.agg ((List.range m).map vs).toArray,?_,.d _ _ (.agg _ _ (by simp;omega) (fun y hy=>?_) (fun j y hj=>?_))⟩
    ·simp only[Instr.loadAt,Sem.run_bind,Instr.sureAddr,Sem.run_pure,Result.andThen_ok];refine z0H ht hd hs (by simp) (fun j v hj=>?_);have hj':j<m:=by have:=(Zac.1 hj).1;simpa using this
     simp[hj']at hj;rw[←hj];exact hc j (by omega)
    ·obtain⟨j,hj⟩:=Zbt.1 (Zbk hy);exact(hr j y hj).1
    ·have hj':j<m:=by have:=(Zac.1 hj).1;simp at this;omega
     rw[Zbc,if_pos hj']at hj;have:=(hr j y hj).2;simpa[hj']using this
   ·cases h
  |false=>
   simp only[hd,Zao,if_false]at h;cases hy:cs[0]? with
   |none=>simp[hy]at h
   |some y=>
    simp[hy]at h;subst h;refine⟨_,?_,.d _ _ (hr 0 y hy).2⟩;simp only[Instr.loadAt,Sem.run_bind,Instr.sureAddr,Sem.run_pure,Result.andThen_ok];exact z0I ht hd (by have:=hc 0 (Zac.1 hy).1;simpa using this)
 ·cases h
theorem j9h{ts:Array Value}(hσ:SR E n G σ ts w){x z:AV}{v:Value}{agg:Bool}{m:Nat}(hx:AVR G w x v)(h:fLd σ agg m x=some z):∃r,AVR G w z r:=by
 unfold fLd at h;split at h
 ·rename_i r o;split at h
  ·rename_i cs hcs;obtain⟨arr,el,g1,g2,g3⟩:=hσ.obj r _ hcs;have h:=z3U h;unfold fLdP at h;cases agg with
   |true=>
    simp only[if_true]at h;split at h
    ·rename_i hle;have hseg:((cs.drop o).take m).length=m:=by simp;omega
     refine⟨_,z6B (us:=(List.range m).map fun j=>arr.getD (o+j) undef) (by simp;omega) (fun i x hi=>?_) h⟩;have hj':i<m:=by have:=(Zac.1 hi).1;omega
     rw[Zbc,if_pos hj',Zbx]at hi;have e:((List.range m).map fun j=>arr.getD (o+j) undef).getD i undef=arr.getD (o+i) undef:=by simp[List.getD_eq_getElem?_getD,hj']
     rw[e];obtain⟨c1,c2,_⟩:=g3 (o+i) x hi;exact⟨c1,c2⟩
    ·cases h
   |false=>
    simp only[Zao,if_false]at h;obtain⟨z0,h0,rfl⟩:=Zbf.1 h;obtain⟨c1,_,_⟩:=g3 o z0 h0;exact⟨_,c1.den⟩
  ·cases h
 ·rename_i cs;cases hx with|dptr _ b o vs hb hc hr=>?_;cases agg with
  |true=>
   simp only[if_true]at h;split at h
   ·rename_i hle;cases h;refine⟨.agg ((List.range m).map vs).toArray,.d _ _ (.agg _ _ (by simp;omega) (fun y hy=>?_) (fun j y hj=>?_))⟩
    ·obtain⟨j,hj⟩:=Zbt.1 (Zbk hy);exact(hr j y hj).1
    ·have hj':j<m:=by have:=(Zac.1 hj).1;simp at this;omega
     rw[Zbc,if_pos hj']at hj;have:=(hr j y hj).2;simpa[hj']using this
   ·cases h
  |false=>
   simp only[Zao,if_false]at h;cases hy:cs[0]? with
   |none=>simp[hy]at h
   |some y=>
    simp[hy]at h;subst h;exact⟨_,.d _ _ (hr 0 y hy).2⟩
 ·rename_i cs;cases hx.j0m with|dptr _ b o vs hb hc hr=>?_;cases agg with
  |true=>
   simp only[if_true]at h;split at h
   ·rename_i hle;cases h;refine⟨.agg ((List.range m).map vs).toArray,.d _ _ (.agg _ _ (by simp;omega) (fun y hy=>?_) (fun j y hj=>?_))⟩
    ·obtain⟨j,hj⟩:=Zbt.1 (Zbk hy);exact(hr j y hj).1
    ·have hj':j<m:=by have:=(Zac.1 hj).1;simp at this;omega
     rw[Zbc,if_pos hj']at hj;have:=(hr j y hj).2;simpa[hj']using this
   ·cases h
  |false=>
   simp only[Zao,if_false]at h;cases hy:cs[0]? with
   |none=>simp[hy]at h
   |some y=>
    simp[hy]at h;subst h;exact⟨_,.d _ _ (hr 0 y hy).2⟩
 ·cases h
end Go.Av
/- Operations over abstract states, continued: parts of slices, fields, interface values, tuples, closures, bytes to a string. -/
namespace Go.Av
variable {E:Entry} {n:Nat} {G:q0s} {σ:St} {a:Act} {w:World} {P:Program}
/-! ### A part of a slice -/
def q8C(sz:Nat):List D→Bool
 |[]=>true
 |x::r=>x.cells.length==sz&&q8C sz r
theorem q82{sz:Nat}{l:List D}:q8C sz l=true↔∀x∈l,x.cells.length=sz:=by
 induction l with
 |nil=>simp[q8C]
 |cons x r ih=>simp[q8C,ih]
def z5c(x:AV)(lo hi:Option AV):Option AV:=
 match x with
 |.rs r n c=>match lo,hiOf n hi with
  |none,some j=>if 0≤j∧j≤c then some (.rs r j.toNat c)else none
  |_,_=>none
 |_=>none
def fSub(sz:Nat)(x:AV)(lo hi:Option AV):Option AV:=
 match z5c x lo hi with
 |some z=>some z
 |none=>match x.rd with
 |some (.list l)=>match loOf lo,hiOf l.length hi with
  |some i,some j=>if 0≤i∧i≤j∧j≤l.length∧q8C sz l=true then some (.d (.list (cutI l i j)))else none
  |_,_=>none
 |_=>none
theorem z3V{x z:AV}{lo hi:Option AV}(h:z5c x lo hi=some z):∃r n c j,x=.rs r n c∧lo=none∧hiOf n hi=some j∧(0≤j∧j≤c)∧z=.rs r j.toNat c:=by
 unfold z5c at h;split at h
 ·split at h
  ·rename_i j h2;split at h
   ·cases h;exact⟨_,_,_,j,rfl,rfl,h2,by assumption,rfl⟩
   ·cases h
  ·cases h
 ·cases h
theorem j6v{α:Type}{l:List α}{i j:Int}{x:α}(h:x∈cutI l i j):x∈l:=Zbk (Zbv h)
theorem j5L{α:Type}{l:List α}{i j:Int}{k:Nat}{x:α}(h:(cutI l i j)[k]?=some x):l[i.toNat+k]?=some x:=by
 unfold cutI at h;rw[Zbx,Zbc]at h;split at h
 ·exact h
 ·cases h
theorem z6A{α:Type}{l:List α}{i j:Int}(hj:j≤l.length):(cutI l i j).length=j.toNat-i.toNat:=by
 unfold cutI;simp;omega
theorem RD.cut{f:Nat→Nat}{l:List D}{b o cap sz:Nat}{i j:Int}(h:RD f w (.list l) (.slice (some (at_ b o)) l.length cap))(hs:∀x∈l,x.cells.length=sz)(h0:0≤i)(h1:i≤j)(h2:j≤l.length)(c':Nat)(hc':j.toNat-i.toNat≤c'):
  RD f w (.list (cutI l i j)) (.slice (some (at_ b (o+i.toNat * sz))) (j.toNat-i.toNat) c'):=by
 have hlen:=z6A (l:=l) (i:=i) h2;cases h with
 |emp _ _=>
  simp at h2;have:i=0:=by omega
  have:j=0:=by omega
  subst i;subst j;exact .emp _ _
 |list _ _ _ _ sz' vs hcap hsz hb hc hr=>
  by_cases hl:l=[]
  ·subst hl;simp at h2;have:i=0:=by omega
   have:j=0:=by omega
   subst i;subst j;have e:cutI ([]:List D) 0 0=[]:=rfl;rw[e];exact .list [] b (o+(0:Int).toNat * sz) c' 0 (fun _=>undef) (Zay _) (fun _ h=>by simp at h) (by simpa using hb) (fun k hk=>by simp at hk) (fun _ _ _ _ h=>by simp at h)
  ·obtain⟨x,r,rfl⟩:=List.exists_cons_of_ne_nil hl;have e1:sz'=sz:=by rw[←(hsz x (by simp)).1];exact hs x (by simp)
   subst e1;rw[←hlen]at hc' ⊢;have hle:i.toNat * sz'+(cutI (x::r) i j).length*sz'≤(x::r).length*sz':=by
    rw[←Nat.add_mul,hlen];exact Zby _ (by omega)
   refine .list _ b _ c' sz' (fun k=>vs (i.toNat * sz'+k)) hc' (fun y hy=>hsz y (j6v hy)) (by omega) (fun k hk=>?_) (fun p y q d hy hd=>?_)
   ·rw[Nat.add_assoc];exact hc _ (by omega)
   ·have:=hr (i.toNat+p) y q d (j5L hy) hd;rw[Nat.add_mul,Nat.add_assoc]at this;exact this
theorem j55{x z:AV}{lo hi:Option AV}{v:Value}{ul uh:Option Value}{t e:TypeId}{sz:Nat}(ht:P.underlying t=some (.slice e))(hs:(P.info? e).map (·.size)=some sz)(hx:AVR G w x v)(hl:OptR G w lo ul)(hh:OptR G w hi uh)(h:fSub sz x lo hi=some z):
  ∃r,(Instr.sliceAt t v ul uh none).run P w=.ok r w∧AVR G w z r:=by
 unfold fSub at h;split at h
 ·rename_i z' hz';cases h;obtain⟨r,m,c,j,rfl,rfl,h2,⟨b0,b1⟩,rfl⟩:=z3V hz';cases hx;cases hti:P.info? e with
  |none=>simp[hti]at hs
  |some ti=>
   simp[hti]at hs;have hul:ul=none:=by cases ul with|none=>rfl|some _=>cases hl
   subst hul;refine⟨.slice (some (at_ (G.b r) 0)) j.toNat c,?_,.rs _ _ _⟩;have hz:(at_ (G.b r) 0).add 0=at_ (G.b r) 0:=rfl;rcases z3l hh h2 with⟨rfl,rfl⟩|⟨k2,rfl⟩
   ·simp[Instr.sliceAt,Instr.slice,run_underlying ht,Instr.sliceBounds,sizeOf,typeInfo,hti,hz]
   ·have g:=q0y (P:=P) k2 j c .sliceAcap b0 b1 w;simp[Instr.sliceAt,Instr.slice,run_underlying ht,Instr.sliceBounds,g,sizeOf,typeInfo,hti,hz]
 split at h
 ·rename_i l hrd;split at h
  ·rename_i i j h1 h2;split at h
   ·rename_i hb;cases h;obtain⟨b0,b1,b2,b3⟩:=hb;have b3:=q82.1 b3;have hr:=hx.rd hrd;cases hti:P.info? e with
    |none=>simp[hti]at hs
    |some ti=>
     simp[hti]at hs
     -- the bounds' own runs
     have run:∀(ad:Option Addr) (cap:Nat),l.length≤cap→
       (Instr.sliceAt t (.slice ad l.length cap) ul uh none).run P w=.ok (.slice (if cap=i.toNat then ad else ad.map (·.add (i.toNat * sz))) (j.toNat-i.toNat) (cap-i.toNat)) w:=fun ad cap hcap=>by
      rcases z6Y hl h1 with⟨rfl,rfl⟩|⟨k1,rfl⟩<;>rcases z3l hh h2 with⟨rfl,rfl⟩|⟨k2,rfl⟩
      ·simp[Instr.sliceAt,Instr.slice,run_underlying ht,Instr.sliceBounds,sizeOf,typeInfo,hti]
      ·have g:=q0y (P:=P) k2 j cap .sliceAcap (by omega) (by omega) w;simp[Instr.sliceAt,Instr.slice,run_underlying ht,Instr.sliceBounds,g,sizeOf,typeInfo,hti]
      ·have g:=q0y (P:=P) k1 i l.length .sliceB b0 b1 w;simp[Instr.sliceAt,Instr.slice,run_underlying ht,Instr.sliceBounds,g,sizeOf,typeInfo,hti,hs]
      ·have g:=q0y (P:=P) k2 j cap .sliceAcap (by omega) (by omega) w;have g2:=q0y (P:=P) k1 i j.toNat .sliceB b0 (by omega) w;simp[Instr.sliceAt,Instr.slice,run_underlying ht,Instr.sliceBounds,g,g2,sizeOf,typeInfo,hti,hs]
     cases hr with
     |nils=>
      simp at b2;have e1:i=0:=by omega
      have e2:j=0:=by omega
      subst i;subst j;refine⟨_,run none 0 (by simp),.d _ _ ?_⟩;simp[cutI];exact .nils
     |emp a' cap=>
      simp at b2;have e1:i=0:=by omega
      have e2:j=0:=by omega
      subst i;subst j;refine⟨_,run (some a') cap (by simp),.d _ _ ?_⟩;have e3:cutI ([]:List D) 0 0=[]:=rfl;rw[e3];split<;>exact .emp _ _
     |list _ b o cap sz' vs hcap hsz hbb hc hr=>
      refine⟨_,run _ cap hcap,.d _ _ ?_⟩
      by_cases hc0:cap=i.toNat
      ·-- nothing is left
       have e1:j.toNat-i.toNat=0:=by omega
       have e2:cutI l i j=[]:=Zbl (by rw[z6A b2];exact e1);rw[if_pos hc0,e1,e2];exact .list [] b o _ 0 (fun _=>undef) (Zay _) (fun _ h=>by simp at h) (by simp;omega) (fun k hk=>by simp at hk) (fun _ _ _ _ h=>by simp at h)
      ·rw[if_neg hc0];simp only[Zax,q5x];exact RD.cut (.list l b o cap sz' vs hcap hsz hbb hc hr) b3 b0 b1 b2 _ (by omega)
   ·cases h
  ·cases h
 ·cases h
/-! ### A field of a struct that is no variable -/
def fFld(agg:Bool)(m off:Nat):AV→Option AV
 |.d (.agg cs)=>if agg then(if off+m≤cs.length then some (.d (.agg ((cs.drop off).take m)))else none)else(cs[off]?).map .d
 |.sx cs=>if agg then(if off+m≤cs.length then fLdA ((cs.drop off).take m)else none)else(match cs[off]? with|some x=>if x.z1I then some x.pub else none|none=>none)
 |_=>none
theorem j5Y{x z:AV}{v:Value}{t i m:Nat}{fs:Array Field}{f:Field}{d:TypeDesc}(ht:P.underlying t=some (.struct fs))(hf:fs[i]?=some f)(hd:P.underlying f.type=some d)(hs:(P.info? f.type).map (·.size)=some m)
  (hx:AVR G w x v) (h:fFld (aggT d) m f.offset x=some z):∃r,(Instr.field t v i).run P w=.ok r w∧AVR G w z r:=by
 unfold fFld at h;split at h
 ·rename_i cs;have hx:=hx.dinv;cases hx with|agg _ vs hl ho hr=>?_;cases hti:P.info? f.type with
  |none=>simp[hti]at hs
  |some ti=>
   simp[hti]at hs;cases hda:aggT d with
   |true=>
    simp only[hda,if_true]at h;split at h
    ·rename_i hle;cases h;refine⟨.agg (vs.extract f.offset (f.offset+m)),?_,.d _ _ (.agg _ _ (by simp;omega) (fun y hy=>ho y (Zbv (Zbk hy))) (fun j y hj=>?_))⟩
     ·simp[Instr.field,run_underlying ht,hf,asAgg,part,q6q hd,hda,sizeOf,typeInfo,hti,hs]
     ·have hj':j<m:=by have:=(Zac.1 hj).1;simp at this;omega
      rw[Zbc,if_pos hj',Zbx]at hj;have:=hr (f.offset+j) y hj;have e:(vs.extract f.offset (f.offset+m)).getD j undef=vs.getD (f.offset+j) undef:=by
       simp only[Zav,Array.getElem?_extract];rw[if_pos (by omega)]
      rw[e];exact this
    ·cases h
   |false=>
    simp only[hda,Zao,if_false]at h;cases hy:cs[f.offset]? with
    |none=>simp[hy]at h
    |some y=>
     simp[hy]at h;subst h;have hlt:f.offset<vs.size:=by rw[hl];exact(Zac.1 hy).1
     have hget:vs[f.offset]?=some (vs.getD f.offset undef):=by simp[hlt]
     refine⟨vs.getD f.offset undef,?_,.d _ _ (hr _ y hy)⟩;simp[Instr.field,run_underlying ht,hf,asAgg,part,q6q hd,hda,hlt]
 ·rename_i cs;cases hx with|sx _ vs hl hsim ho hr=>?_;cases hti:P.info? f.type with
  |none=>simp[hti]at hs
  |some ti=>
   simp[hti]at hs;cases hda:aggT d with
   |true=>
    simp only[hda,if_true]at h;split at h
    ·rename_i hle;have hv:=z6B (G:=G) (w:=w) (us:=(vs.extract f.offset (f.offset+m)).toList) (by simp;omega) (fun i x hi=>by
      have hseg:((cs.drop f.offset).take m).length=m:=by simp;omega
      have hj':i<m:=by have:=(Zac.1 hi).1;omega
      rw[Zbc,if_pos hj',Zbx]at hi;have e:(vs.extract f.offset (f.offset+m)).toList.getD i undef=vs.getD (f.offset+i) undef:=by
       rw[List.getD_eq_getElem?_getD,Array.getElem?_toList,Array.getElem?_extract];rw[if_pos (by omega)];simp
      rw[e];exact⟨hr _ x hi,ho _ (by omega)⟩) h
     rw[Array.toArray_toList]at hv;refine⟨_,?_,hv⟩;simp[Instr.field,run_underlying ht,hf,asAgg,part,q6q hd,hda,sizeOf,typeInfo,hti,hs]
    ·cases h
   |false=>
    simp only[hda,Zao,if_false]at h;split at h
    rotate_left
    ·cases h
    rename_i y hy;split at h
    rotate_left
    ·cases h
    cases h;have hlt:f.offset<vs.size:=by rw[hl];exact(Zac.1 hy).1
    refine⟨vs.getD f.offset undef,?_,(hr _ y hy).pub⟩;simp[Instr.field,run_underlying ht,hf,asAgg,part,q6q hd,hda,hlt]
 ·cases h
/-! ### Interface values, tuples, closures -/
def fMkI(t:TypeId)(x:AV):Option AV:=x.rd.map fun y=>.d (.iface t y)
theorem j52{x z:AV}{v:Value}{t:TypeId}(ht:P.concrete t=true)(hx:AVR G w x v)(h:fMkI t x=some z):∃r,(Instr.makeInterface t v).run P w=.ok r w∧AVR G w z r:=by
 unfold fMkI at h;cases hy:x.rd with
 |none=>simp[hy]at h
 |some y=>simp[hy]at h;subst h;exact⟨_,run_makeInterface w t v ht,.d _ _ (.iface t y v (hx.rd hy))⟩
def fAsT(t:TypeId)(zero:D):AV→Option AV
 |.d (.iface t' y)=>if t'=t then some (.tuple [.d y,.d (.bool true)])else some (.tuple [.d zero,.d (.bool false)])
 |.d .nil=>some (.tuple [.d zero,.d (.bool false)])
 |_=>none
theorem AVR.pair{x y:AV}{u v:Value}(hx:AVR G w x u)(hy:AVR G w y v)(h1:x.simple=true)(h2:y.simple=true):AVR G w (.tuple [x,y]) (.tuple #[u,v]):=
 .tuple _ _ rfl (fun z hz=>by simp at hz;rcases hz with rfl|rfl<;>assumption) (fun i z hz=>by
  match i,hz with
  |0,hz=>simp at hz;subst hz;exact hx
  |1,hz=>simp at hz;subst hz;exact hy)
theorem j5S{x z:AV}{v zv:Value}{xt t:TypeId}{d:TypeDesc}{zero:D}{ti:TypeInfo}(ht:P.underlying t=some d)(hd:∀ms,d≠.interface ms)(hi:P.info? t=some ti)(hz:ti.zero=some zv)(hzv:cst zv=some zero)
  (hx:AVR G w x v) (h:fAsT t zero x=some z):∃r,(Instr.typeAssert v xt t true).run P w=.ok r w∧AVR G w z r:=by
 have hzr:AVR G w (.d zero) zv:=.d _ _ (z0b hzv);have hzero:(zeroValue t).run P w=.ok zv w:=by simp[zeroValue,typeInfo,hi,hz]
 unfold fAsT at h;split at h
 ·rename_i t' y;have hx:=hx.dinv;cases hx with|iface _ _ u hy=>?_;split at h
  ·rename_i e;cases h;subst e;refine⟨.tuple #[u,.bool true],?_,.pair (.d _ _ hy) (.d _ _ (.bool true)) rfl rfl⟩;cases d<;>first|(exact absurd rfl (hd _))|simp[Instr.typeAssert,run_underlying ht]
  ·rename_i e;cases h;refine⟨.tuple #[zv,.bool false],?_,.pair hzr (.d _ _ (.bool false)) rfl rfl⟩;cases d<;>first|(exact absurd rfl (hd _))|simp[Instr.typeAssert,run_underlying ht,e,hzero]
 ·cases h;have hx:=hx.dinv;cases hx;refine⟨.tuple #[zv,.bool false],?_,.pair hzr (.d _ _ (.bool false)) rfl rfl⟩;cases d<;>first|(exact absurd rfl (hd _))|simp[Instr.typeAssert,run_underlying ht,hzero]
 ·cases h
def fExt(i:Nat):AV→Option AV
 |.tuple xs=>match xs[i]? with
  |some x=>if x.simple then some x else none
  |none=>none
 |_=>none
theorem j5X{x z:AV}{v:Value}{i:Nat}(hx:AVR G w x v)(h:fExt i x=some z):∃r,(Instr.extract v i).run P w=.ok r w∧AVR G w z r:=by
 unfold fExt at h;split at h
 ·rename_i xs;split at h
  ·rename_i y hy;split at h
   ·cases h;cases hx with
    |tuple _ vs hl hs hr=>
     have hlt:i<vs.size:=by rw[hl];exact(Zac.1 hy).1
     refine⟨vs.getD i undef,?_,hr i _ hy⟩;simp[Instr.extract,hlt]
   ·cases h
  ·cases h
 ·cases h
def fNck:AV→Option AV
 |.ptr r o=>some (.ptr r o)
 |.dptr cs=>some (.dptr cs)
 |.d (.pto cs)=>some (.dptr cs)
 |.d (.addr a)=>some (.d (.addr a))
 |_=>none
/-! ### Bytes to a string -/
def bytesOf:List D→Option (List UInt8)
 |[]=>some []
 |.int .u8 b::r=>(bytesOf r).map (UInt8.ofNat b.toNat::·)
 |_=>none
theorem q0q(s:List UInt8):bytesOf (q0v s)=some s:=by
 induction s with
 |nil=>rfl
 |cons b r ih=>
  have:q0v (b::r)=.int .u8 b.toNat::q0v r:=rfl;rw[this,bytesOf,ih];simp
def fB2s(x:AV):Option AV:=
 match x.rd with
 |some (.list l)=>(bytesOf l).map fun s=>.d (.str s)
 |_=>none
theorem z2G:∀{l:List D} {s:List UInt8},bytesOf l=some s→∃ns:List Int,l=ns.map (D.int .u8)∧s=ns.map fun k=>UInt8.ofNat k.toNat
 |[],s,h=>by simp[bytesOf]at h;subst h;exact⟨[],rfl,rfl⟩
 |x::r,s,h=>by
  cases x with
  |int k b=>
   cases k<;>simp[bytesOf]at h;obtain⟨s',h1,rfl⟩:=h;obtain⟨ns,rfl,rfl⟩:=z2G h1;exact⟨b::ns,rfl,rfl⟩
  |_=>simp[bytesOf]at h
theorem foldl_push(ns:List Int):∀r:ByteArray,ns.foldl (fun r k=>r.push (UInt8.ofNat k.toNat)) r=⟨(r.data.toList++ns.map fun k=>UInt8.ofNat k.toNat).toArray⟩:=by
 induction ns with
 |nil=>intro r;simp
 |cons b ns ih=>intro r;simp only[List.foldl_cons,ih,Zbo];congr 1;simp[ByteArray.push]
theorem j5T{x z:AV}{v:Value}{s t e:TypeId}(hs:P.underlying s=some (.slice e))(he:P.underlying e=some (.int .u8))(ht:P.underlying t=some .string)(hx:AVR G w x v)(h:fB2s x=some z):
  ∃r,(convert s t v).run P w=.ok r w∧AVR G w z r:=by
 unfold fB2s at h;split at h
 ·rename_i l hl;cases hb:bytesOf l with
  |none=>simp[hb]at h
  |some bs=>
   simp[hb]at h;subst h;obtain⟨ns,rfl,rfl⟩:=z2G hb;have hr:=hx.rd hl;have conv:∀u,(Conv.bytesToString v).run P w=.ok u w→(∃a n c,v=.slice a n c)→(convert s t v).run P w=.ok u w:=fun u hu ⟨a',n',c',e'⟩=>by
    subst e';simp[convert,run_underlying hs,run_underlying he,run_underlying ht,hu]
   generalize hL:ns.map (D.int .u8)=L at hr;cases hr with
   |nils=>
    have:ns=[]:=by cases ns<;>simp_all
    subst this;exact⟨.string .empty,conv _ (by simp[Conv.bytesToString]) ⟨_,_,_,rfl⟩,.d _ _ (RD.str [])⟩
   |emp a' cap=>
    have:ns=[]:=by cases ns<;>simp_all
    subst this;refine⟨.string .empty,conv _ ?_ ⟨_,_,_,rfl⟩,.d _ _ (RD.str [])⟩;have hload:(loadCells a' 0).run P w=.ok #[] w:=by
     have:=run_loadCells_list (P:=P) w a' [] (fun j v hj=>by simp at hj);simpa using this
    simp[Conv.bytesToString,hload,Result.andThen]
   |list _ b o cap sz vs hcap hsz hbb hc hr=>
    subst hL;have hv:∀(k:Nat) (m:Int),ns[k]?=some m→sz=1∧vs (k*sz)=.int .u8 m:=fun k m hk=>by
     have h1:(ns.map (D.int .u8))[k]?=some (.int .u8 m):=by simp[hk]
     have h2:=(hsz _ (Zaf h1)).1;have h3:=hr k _ 0 _ h1 rfl;refine⟨h2.symm,?_⟩;rw[Zdg]at h3;generalize vs (k*sz)=u at h3;cases h3;rfl
    have hload:(loadCells (at_ b o) (ns.map (D.int .u8)).length).run P w=.ok (ns.map (Value.int .u8)).toArray w:=by
     have:=run_loadCells_list (P:=P) w (at_ b o) (ns.map (Value.int .u8)) (fun j v hj=>by
      simp only[Zan]at hj;cases hk:ns[j]? with
      |none=>simp[hk]at hj
      |some m=>
       simp[hk]at hj;subst hj;obtain⟨e1,e2⟩:=hv j m hk;subst e1;rw[q5x,←e2,Nat.mul_one];exact hc j (by have:=(Zac.1 hk).1;simpa using this))
     simpa using this
    refine⟨_,conv _ (run_bytesToString w (at_ b o) _ cap ns hload) ⟨_,_,_,rfl⟩,?_⟩;rw[foldl_push];exact .d _ _ (RD.str _)
 ·cases h
end Go.Av
/- Equality of structs of plain fields. -/
namespace Go.Av
variable {E:Entry} {n:Nat} {G:q0s} {σ:St} {a:Act} {w:World} {P:Program}
def eqC:Nat→D→D→Option Bool
 |0,.int k x,.int k' y=>if k=k' then some (decide (x=y))else none
 |1,.bool x,.bool y=>some (decide (x=y))
 |2,.str x,.str y=>some (decide (x=y))
 |_,_,_=>none
def eqCs:List Nat→List D→List D→Option Bool
 |[],[],[]=>some true
 |k::ks,x::xs,y::ys=>match eqC k x y,eqCs ks xs ys with
  |some b,some c=>some (b&&c)
  |_,_=>none
 |_,_,_=>none
def fEqS(neg:Bool)(ks:List Nat):AV→AV→Option AV
 |.d (.agg xs),.d (.agg ys)=>(eqCs ks xs ys).map fun b=>.d (.bool (if neg then !b else b))
 |_,_=>none
def z0E:TypeDesc→Option Nat
 |.int _=>some 0
 |.bool=>some 1
 |.string=>some 2
 |_=>none
def z10(P:Program):Nat→List Field→Option (List Nat)
 |_,[]=>some []
 | i, f :: r => if f.offset = i ∧ f.name ≠ "_" then
   match(P.underlying f.type).bind z0E,z10 P (i+1) r with
   |some k,some l=>some (k::l)
   |_,_=>none
  else none
theorem z8j{t:TypeId}{k:Nat}(h:(P.underlying t).bind z0E=some k)(vs:Array Value)(i:Nat)(hi:i<vs.size):(part t vs i).run P w=.ok (vs.getD i undef) w:=by
 cases hu:P.underlying t with
 |none=>simp[hu]at h
 |some d=>
  have:aggT d=false:=by simp[hu]at h;cases d<;>simp[z0E]at h<;>rfl
  simp[part,q6q hu,this,hi]
theorem j76{t:TypeId}{k:Nat}(h:(P.underlying t).bind z0E=some k){x y:D}{u v:Value}(hx:RD G.f w x u)(hy:RD G.f w y v){b:Bool}(he:eqC k x y=some b)(d:Nat):(Op.equalIn (d+1) t u v).run P w=.ok b w:=by
 cases hu:P.underlying t with
 |none=>simp[hu]at h
 |some td=>
  unfold eqC at he;split at he
  ·rename_i k1 x k2 y;cases hx;cases hy;split at he
   ·cases he;have:∃k,td=.int k:=by simp[hu]at h;cases td<;>simp[z0E]at h;exact⟨_,rfl⟩
    obtain⟨k0,rfl⟩:=this;rename_i e;subst e;rw[run_equalIn_int w d t k1 k0 x y hu];rfl
   ·cases he
  ·cases hx;cases hy;cases he;have:td=.bool:=by simp[hu]at h;cases td<;>simp[z0E]at h;rfl
   subst this;rw[run_equalIn_bool' w d t _ _ hu];rfl
  ·cases hx;cases hy;cases he;have:td=.string:=by simp[hu]at h;cases td<;>simp[z0E]at h;rfl
   subst this;rw[run_equalIn_string w d t _ _ hu];simp only[ByteArray.toList_eq];congr 1;rw[Bool.eq_iff_iff];simp
  ·cases he
theorem j08:∀{fs:List Field} {ks:List Nat} {i:Nat} {xs ys:List D} {b:Bool} (us vs:Array Value) (d:Nat),z10 P i fs=some ks→eqCs ks xs ys=some b→i+xs.length=us.size→i+ys.length=vs.size→
  (∀(j:Nat) (x:D),xs[j]?=some x→RD G.f w x (us.getD (i+j) undef))→(∀(j:Nat) (y:D),ys[j]?=some y→RD G.f w y (vs.getD (i+j) undef))→(Op.eqFields (d+1) us vs fs).run P w=.ok b w
 |[],ks,i,xs,ys,b,us,vs,d,hk,he,h1,h2,hx,hy=>by
  simp[z10]at hk;subst hk;have:b=true:=by cases xs<;>cases ys<;>simp[eqCs]at he;exact he
  subst this;simp[Op.eqFields]
 |f::fs,ks,i,xs,ys,b,us,vs,d,hk,he,h1,h2,hx,hy=>by
  simp only[z10]at hk;split at hk
  ·rename_i hf;split at hk
   ·rename_i k l hk1 hk2;cases hk;cases xs with
    |nil=>simp[eqCs]at he
    |cons x xs=>
     cases ys with
     |nil=>simp[eqCs]at he
     |cons y ys=>
      simp only[eqCs]at he;split at he
      ·rename_i b1 b2 e1 e2;cases he;have hi1:i<us.size:=by simp at h1;omega
       have hi2:i<vs.size:=by simp at h2;omega
       have r1:=j76 (P:=P) hk1 (hx 0 x rfl) (hy 0 y rfl) e1 d;have r2:=j08 us vs d hk2 e2 (by simp at h1;omega) (by simp at h2;omega) (fun j z hz=>by have:=hx (j+1) z (by simpa using hz);rw[show i+(j+1)=i+1+j by omega]at this;exact this)
        (fun j z hz=>by have:=hy (j+1) z (by simpa using hz);rw[show i+(j+1)=i+1+j by omega]at this;exact this)
       simp only[Op.eqFields,hf.2,ne_eq,not_false_eq_true,if_true,hf.1,Sem.run_bind,z8j hk1 us i hi1,z8j hk1 vs i hi2,Result.andThen_ok];rw[show i+0=i from rfl]at r1;rw[r1];cases b1<;>simp[r2]
      ·cases he
   ·cases hk
  ·cases hk
theorem j5W{neg:Bool}{t:TypeId}{ks:List Nat}{x y z:AV}{u v:Value}(ht:P.underlying t=some (.struct (P.fieldsOf t)))(hp:P.stoodInHeld t=false)(hk:z10 P 0 (P.fieldsOf t).toList=some ks)(hx:AVR G w x u)(hy:AVR G w y v)(h:fEqS neg ks x y=some z):
  ∃r,(binOp (eqOp neg) t u v).run P w=.ok r w∧AVR G w z r:=by
 unfold fEqS at h;split at h
 ·rename_i xs ys;cases hb:eqCs ks xs ys with
  |none=>simp[hb]at h
  |some b=>
   simp[hb]at h;subst h;have hx:=hx.dinv;have hy:=hy.dinv;cases hx with|agg _ us hl1 _ h1=>?_;cases hy with|agg _ vs hl2 _ h2=>?_;have hr:=j08 (P:=P) (G:=G) (w:=w) us vs 9998 hk hb (by simp[hl1]) (by simp[hl2]) (fun j x hj=>by simpa using h1 j x hj) (fun j x hj=>by simpa using h2 j x hj);refine⟨.bool (if neg then !b else b),?_,.d _ _ (.bool _)⟩;cases neg
   ·simp only[eqOp,Zao,if_false];rw[run_eql_struct,run_equalIn_agg w 9999 t us vs ht hp,hr];rfl
   ·simp only[eqOp,if_true];rw[run_neq_struct,run_equalIn_agg w 9999 t us vs ht hp,hr];rfl
 ·cases h
end Go.Av
/- Composite literals over abstract states. -/
namespace Go.Av
variable {E:Entry} {n:Nat} {G:q0s} {σ:St} {a:Act} {w:World} {P:Program}
def setV(cells:Array Value)(off:Nat)(v:Array Value):Array Value:=v.zipIdx.foldl (fun cs (c,j)=>cs.setIfInBounds (off+j) c) cells
theorem z9c(off:Nat):∀(l:List Value) (k:Nat) (cells:Array Value),((l.zipIdx k).foldl (fun cs (p:Value×Nat)=>cs.setIfInBounds (off+p.2) p.1) cells).size=cells.size∧
  ∀i,off+k+l.length≤cells.size→((l.zipIdx k).foldl (fun cs (p:Value×Nat)=>cs.setIfInBounds (off+p.2) p.1) cells).getD i undef=if off+k≤i∧i<off+k+l.length then l.getD (i-off-k) undef else cells.getD i undef
 |[],k,cells=>⟨rfl,fun i _=>by simp;intro h1 h2;omega⟩
 |v::l,k,cells=>by
  obtain⟨h1,h2⟩:=z9c off l (k+1) (cells.setIfInBounds (off+k) v);simp only[List.zipIdx_cons,List.foldl_cons];refine⟨by rw[h1];simp,fun i hi=>?_⟩;simp only[Zae]at hi;rw[h2 i (by simp;omega)];simp only[Zae]
  by_cases hc:off+k=i
  ·subst hc;rw[if_neg (by omega),if_pos (by omega)];have:off+k-off-k=0:=by omega
   rw[this];simp[show off+k<cells.size by omega]
  ·by_cases hd:off+(k+1)≤i∧i<off+(k+1)+l.length
   ·rw[if_pos hd,if_pos (by omega)];have:i-off-k=(i-off-(k+1))+1:=by omega
    rw[this];rfl
   ·rw[if_neg hd,if_neg (by omega)];simp[Zbp hc]
theorem z1E(cells:Array Value)(off:Nat)(v:Array Value)(h:off+v.size≤cells.size):(setV cells off v).size=cells.size∧
  ∀i,(setV cells off v).getD i undef=if off≤i∧i<off+v.size then v.getD (i-off) undef else cells.getD i undef:=by
 obtain⟨l⟩:=v;have h0:=z9c off l 0 cells;have e:setV cells off ⟨l⟩=(l.zipIdx 0).foldl (fun cs (p:Value×Nat)=>cs.setIfInBounds (off+p.2) p.1) cells:=by
  simp only[setV];rw[←Array.foldl_toList];simp
 rw[e];refine⟨h0.1,fun i=>?_⟩;rw[h0.2 i (by simpa using h)];simp[List.getD_eq_getElem?_getD]
theorem z3X(place:Nat→Option (Nat×Nat))(cells:Array Value)(i:Nat)(v:Value)(r:List (Nat×Value))(off size:Nat)(hp:place i=some (off,size))(hs:v.cells.size=size)(ho:off+size≤cells.size):
  Instr.fill place cells ((i,v)::r)=Instr.fill place (setV cells off v.cells) r:=by
 simp only[Instr.fill,hp];rw[if_neg (by simp[hs];omega)];rfl
/-! ### Structs and arrays -/
def setR(cs:List D)(off:Nat)(xs:List D):List D:=cs.take off++xs++cs.drop (off+xs.length)
def j2z:List (Nat×Nat)→Nat→Option (Nat×Nat)
 |[],_=>none
 |p::_,0=>some p
 |_::r,i+1=>j2z r i
theorem z3o(l:List (Nat×Nat))(i:Nat):j2z l i=l[i]?:=by
 induction l generalizing i with
 |nil=>rfl
 |cons p r ih=>cases i<;>simp[j2z,ih]
def q9X(places:List (Nat×Nat))(cs:List D):List (Nat×AV)→Option (List D)
 |[]=>some cs
 |(i,x)::r=>match j2z places i,x.rd with
  |some (off,size),some y=>if y.cells.length=size∧off+size≤cs.length then q9X places (setR cs off y.cells) r else none
  |_,_=>none
def q8L(f:Nat→Nat)(w:World)(cs:List D)(arr:Array Value):Prop:=
 arr.size=cs.length∧∀i y,cs[i]?=some y→y.one=true∧RD f w y (arr.getD i undef)
theorem q8L.agg{f:Nat→Nat}{cs:List D}{arr:Array Value}(h:q8L f w cs arr):RD f w (.agg cs) (.agg arr):=
 .agg cs arr h.1 (fun e he=>by obtain⟨i,hi⟩:=Zbt.1 he;exact(h.2 i e hi).1) (fun i e hi=>(h.2 i e hi).2)
theorem q8L.set{f:Nat→Nat}{cs:List D}{arr:Array Value}(h:q8L f w cs arr){y:D}{v:Value}(hv:RD f w y v){off:Nat}(ho:off+y.cells.length≤cs.length):
  q8L f w (setR cs off y.cells) (setV arr off v.cells):=by
 have hs:=hv.q2I;obtain⟨h1,h2⟩:=z1E arr off v.cells (by rw[hs,h.1];exact ho);have hlen:(setR cs off y.cells).length=cs.length:=by simp[setR];omega
 refine⟨by rw[h1,h.1,hlen],fun i z hz=>?_⟩;rw[h2 i];have htl:(cs.take off).length=off:=by simp;omega
 by_cases hc:off≤i∧i<off+v.cells.size
 ·rw[if_pos hc];unfold setR at hz;rw[List.append_assoc,Zam (by omega),htl,Zaj (by omega)]at hz;exact⟨hv.flat z (Zaf hz),hv.cell hz⟩
 ·rw[if_neg hc];unfold setR at hz
  by_cases hi:i<off
  ·rw[List.append_assoc,Zaj (by omega),Zbc,if_pos hi]at hz;exact h.2 i z hz
  ·rw[List.append_assoc,Zam (by omega),htl,Zam (by omega),Zbx]at hz;have:off+y.cells.length+(i-off-y.cells.length)=i:=by omega
   rw[this]at hz;exact h.2 i z hz
theorem z74{places:List (Nat×Nat)}:∀{xs:List (Nat×AV)} {vs:List (Nat×Value)} {cs out:List D} {arr:Array Value},vs.map (·.1)=xs.map (·.1)→(∀(i:Nat) (p:Nat×AV) (q:Nat×Value),xs[i]?=some p→vs[i]?=some q→AVR G w p.2 q.2)→
  q8L G.f w cs arr→q9X places cs xs=some out→∃arr',Instr.fill (places[·]?) arr vs=some arr'∧q8L G.f w out arr'
 |[],vs,cs,out,arr,hk,_,hc,h=>by
  have:vs=[]:=by simpa using hk
  subst this;simp[q9X]at h;subst h;exact⟨arr,rfl,hc⟩
 |(i,x)::xs,vs,cs,out,arr,hk,hr,hc,h=>by
  cases vs with
  |nil=>simp at hk
  |cons q vs=>
   obtain⟨i',v⟩:=q;simp at hk;obtain⟨rfl,hk⟩:=hk;simp only[q9X]at h;split at h
   ·rename_i off size y hp hy;split at h
    ·rename_i hb;have hv:RD G.f w y v:=(hr 0 _ _ rfl rfl).rd hy;have hs:=hv.q2I;rw[z3o]at hp;rw[z3X _ arr i' v vs off size hp (by rw[hs];exact hb.1) (by rw[hc.1];exact hb.2)];exact z74 (by simpa using hk) (fun j p q hp hq=>hr (j+1) p q (by simpa using hp) (by simpa using hq)) (hc.set hv (by rw[hb.1];exact hb.2)) h
    ·cases h
   ·cases h
def Program.placesOf(P:Program)(t:TypeId)(parts:Nat):Option (List (Nat×Nat)):=
 match P.underlying t with
 |some (.struct fs)=>fs.toList.mapM (fun f=>(P.info? f.type).map fun i=>(f.offset,i.size))
 |some (.array _ e)=>(P.info? e).map fun ie=>(List.range parts).map fun i=>(i*ie.size,ie.size)
 |_=>none
def Program.zeroOf(P:Program)(t:TypeId):Option D:=((P.info? t).bind (·.zero)).bind cst
theorem z1W{p q:Nat→Option (Nat×Nat)}:∀{vs:List (Nat×Value)} {arr:Array Value},(∀x∈vs,p x.1=q x.1)→Instr.fill p arr vs=Instr.fill q arr vs
 |[],_,_=>rfl
 |(i,v)::r,arr,h=>by
  simp only[Instr.fill,h (i,v) (by simp)];split
  ·rfl
  ·split
   ·rfl
   ·exact z1W fun x hx=>h x (by simp[hx])
theorem j3M{t:TypeId}{places:List (Nat×Nat)}{m:Nat}{z:D}{xs:List (Nat×AV)}{vs:List (Nat×Value)}{out:List D}(hp:Go.Av.Program.placesOf P t m=some places)(hz:Go.Av.Program.zeroOf P t=some z) 
  (hm:∀x∈xs,x.1<m) (hk:vs.map (·.1)=xs.map (·.1)) (hr:∀(i:Nat) (p:Nat×AV) (q:Nat×Value),xs[i]?=some p→vs[i]?=some q→AVR G w p.2 q.2) (h:q9X places z.cells xs=some out):
  ∃zv arr',cst zv=some z∧Instr.fill (places[·]?) zv.cells vs=some arr'∧(Instr.build t vs.toArray).run P w=.ok (.agg arr') w∧q8L G.f w out arr':=by
 unfold Program.zeroOf at hz;cases hi:P.info? t with
 |none=>simp[hi]at hz
 |some ti=>
  cases hzv:ti.zero with
  |none=>simp[hi,hzv]at hz
  |some zv=>
   simp[hi,hzv]at hz;have hzr:RD G.f w z zv:=z0b hz;have hc0:q8L G.f w z.cells zv.cells:=⟨hzr.q2I,fun i y hy=>⟨hzr.flat y (Zaf hy),hzr.cell hy⟩⟩;obtain⟨arr',h1,h2⟩:=z74 hk hr hc0 h;refine⟨zv,arr',hz,h1,run_build w t _ arr' ?_,h2⟩;unfold Program.placesOf at hp;cases hu:P.underlying t with
   |none=>simp[hu]at hp
   |some d=>
    cases d with
    |struct fs=>
     simp only[hu]at hp;simp only[Program.built,hi,hu,hzv,hp];simpa using h1
    |array k e=>
     simp only[hu]at hp;cases hie:P.info? e with
     |none=>simp[hie]at hp
     |some ie=>
      simp[hie]at hp;simp only[Program.built,hi,hu,hzv,hie];rw[←h1];refine z1W fun x hx=>?_
      have hxm:x.1<m:=by
       have:x.1∈vs.map (·.1):=Zat.2 ⟨x,hx,rfl⟩;rw[hk]at this;obtain⟨y,hy,e⟩:=Zat.1 this;rw[←e];exact hm y hy
      simp[←hp,hxm]
    |_=>simp[hu]at hp
theorem z78{place:Nat→Option (Nat×Nat)}{j:Nat}:∀{vs:List (Nat×Value)} {arr arr':Array Value},Instr.fill place arr vs=some arr'→
  (∀q∈vs,∀off size,place q.1=some (off,size)→j<off∨off+size≤j)→arr'.getD j undef=arr.getD j undef
 |[],arr,arr',h,_=>by simp[Instr.fill]at h;rw[h]
 |(i,v)::vs,arr,arr',h,hb=>by
  simp only[Instr.fill]at h;split at h
  ·cases h
  ·rename_i off size hp;split at h
   ·cases h
   ·rename_i hc;simp only[bne_iff_ne,ne_eq,Zcc,decide_eq_true_eq,not_or,Decidable.not_not]at hc;have hle:off+v.cells.size≤arr.size:=by omega
    have:=z78 (arr:=setV arr off v.cells) h fun q hq=>hb q (by simp[hq])
    rw[this,(z1E arr off v.cells hle).2 j];have:=hb (i,v) (by simp) off size hp;rw[if_neg (by omega)]
/-! ### A slice's literal, all of its elements in order -/
theorem j9i{size:Nat}:∀(vs:List Value) (k:Nat) (arr:Array Value),(∀v∈vs,v.cells.size=size)→(k+vs.length)*size≤arr.size→
  ∃out,Instr.fill (fun i=>some (i*size,size)) arr ((vs.zipIdx k).map fun p=>(p.2,p.1))=some out∧out.size=arr.size∧(∀i,i<k*size→out.getD i undef=arr.getD i undef)∧
   ∀i v j,vs[i]?=some v→j<size→out.getD ((k+i)*size+j) undef=v.cells.getD j undef
 |[],k,arr,_,_=>⟨arr,rfl,rfl,fun _ _=>rfl,fun _ _ _ h=>by simp at h⟩
 |v::vs,k,arr,hs,hle=>by
  have hsv:=hs v (by simp);simp only[Zae]at hle;have hle1:k*size+size≤arr.size:=by
   have:(k+1)*size≤(k+(vs.length+1))*size:=Zby _ (by omega);rw[Nat.succ_mul]at this;omega
  obtain⟨g1,g2⟩:=z1E arr (k*size) v.cells (by rw[hsv];exact hle1);obtain⟨out,h1,h2,h3,h4⟩:=j9i vs (k+1) (setV arr (k*size) v.cells) (fun u hu=>hs u (by simp[hu])) (by rw[g1,show k+1+vs.length=k+(vs.length+1) by omega];exact hle);refine⟨out,?_,by rw[h2,g1],fun i hi=>?_,fun i u j hu hj=>?_⟩
  ·simp only[List.zipIdx_cons,Zbo];rw[z3X _ arr k v _ (k*size) size rfl hsv hle1];exact h1
  ·rw[h3 i (by rw[Nat.succ_mul];omega),g2,if_neg (by omega)]
  ·cases i with
   |zero=>
    simp at hu;subst hu;rw[Zdg,h3 _ (by rw[Nat.succ_mul];omega),g2,if_pos (by omega)];congr 1;omega
   |succ i=>
    simp at hu;have:=h4 i u j hu hj;have e:k+1+i=k+(i+1):=by omega
    rw[e]at this;exact this
def q5N:List AV→Option (List D)
 |[]=>some []
 |x::r=>match x.rd,q5N r with
  |some y,some l=>some (y::l)
  |_,_=>none
theorem z4C:∀{xs:List AV} {l:List D},q5N xs=some l→xs.length=l.length∧∀(i:Nat) (x:AV),xs[i]?=some x→∃y,l[i]?=some y∧x.rd=some y
 |[],l,h=>by simp[q5N]at h;subst h;exact⟨rfl,fun _ _ h=>by simp at h⟩
 |x::r,l,h=>by
  simp only[q5N]at h;split at h
  ·rename_i y l' hy hl;cases h;obtain⟨h1,h2⟩:=z4C hl;refine⟨by simp[h1],fun i z hz=>?_⟩;cases i with
   |zero=>simp at hz;subst hz;exact⟨y,rfl,hy⟩
   |succ i=>simp at hz;simpa using h2 i z hz
  ·cases h
theorem j3m{t e:TypeId}{ti:TypeInfo}{zv:Value}{sz:Nat}(ht:P.underlying t=some (.slice e))(hi:P.info? e=some ti)(hz:ti.zero=some zv)(hs:ti.size=sz){xs:List AV}{vs:List Value}{l:List D}(hl:xs.length=vs.length)
  (hr:∀(i:Nat) (x:AV) (v:Value),xs[i]?=some x→vs[i]?=some v→AVR G w x v) (hrd:q5N xs=some l) (hc:q8C sz l=true) (hb:vs.length*sz≤16777216):
  ∃arr,(Instr.buildSlice t vs.length ((vs.zipIdx.map fun p=>(p.2,p.1)).toArray)).run P w=.ok (.slice (some (at_ w.heap.size 0)) vs.length vs.length) (w.alloc (.cells arr e))∧arr.size=vs.length*sz∧l.length=vs.length∧
   ∀i y j d,l[i]?=some y→y.cells[j]?=some d→d.one=true∧RD G.f w d (arr.getD (i*sz+j) undef):=by
 have hc:=q82.1 hc;obtain⟨hxl,hget⟩:=z4C hrd;have hv:∀i v,vs[i]?=some v→∃y,l[i]?=some y∧RD G.f w y v:=fun i v hv=>by
  have hi':i<xs.length:=by rw[hl];exact(Zac.1 hv).1
  obtain⟨y,h1,h2⟩:=hget i _ (Zal hi');exact⟨y,h1,(hr i _ v (Zal hi') hv).rd h2⟩
 have hsz:∀v∈vs,v.cells.size=sz:=fun v hm=>by
  obtain⟨i,hi'⟩:=Zbt.1 hm;obtain⟨y,h1,h2⟩:=hv i v hi';rw[h2.q2I];exact hc y (Zaf h1)
 obtain⟨out,h1,h2,_,h4⟩:=j9i (size:=sz) vs 0 ((Array.range (vs.length*sz)).map (fun k=>(if vs.length*sz=0 then #[]else zv.cells)[k % (if vs.length*sz=0 then #[]else zv.cells).size]!)) hsz (by simp);refine⟨out,?_,by rw[h2];simp,by rw[←hxl,hl],fun i y j d hy hd=>?_⟩
 ·have hbig:¬(vs.length*sz>2 ^ 24):=by omega
  unfold Instr.buildSlice;simp only[Sem.run_bind,run_underlying ht,Result.andThen_ok,sizeOf,typeInfo,run_program,hi,hs,Sem.run_pure,zeroValue,if_neg hbig]
  by_cases h0:vs.length*sz=0
  ·simp only[h0,if_true,Sem.run_bind,Sem.run_pure,Result.andThen_ok]at h1 ⊢;rw[h1];simp[newRow,at_]
  ·simp only[h0,if_false,Sem.run_bind,Sem.run_pure,Result.andThen_ok]at h1 ⊢;simp[hi,hz,h1,newRow,at_]
 ·have hi':i<vs.length:=by rw[←hl,hxl];exact(Zac.1 hy).1
  obtain⟨y',e1,e2⟩:=hv i _ (Zal hi');rw[hy]at e1;cases e1;have hj:j<sz:=by have:=(Zac.1 hd).1;rw[hc y (Zaf hy)]at this;exact this
  have:=h4 i _ j (Zal hi') hj;rw[Zbg]at this;rw[this];exact⟨e2.flat d (Zaf hd),e2.cell hd⟩
end Go.Av
