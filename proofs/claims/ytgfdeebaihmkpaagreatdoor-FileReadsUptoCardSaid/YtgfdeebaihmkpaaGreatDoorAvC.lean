import Derived.Test.YtgfdeebaihmkpaaGreatDoorAvB
/- The program's operations are read off into operations over abstract states: the ones that only reckon. -/
namespace Go.Av
inductive LV where
 |cp (x:LX)
 |pick (c a b:LX)
 |bin (op:BinOp) (x y:LX)
 |eqB (neg:Bool) (x y:LX)
 |eqN (kind:Nat) (neg:Bool) (x:LX)
 |eqS (neg:Bool) (ks:List Nat) (x y:LX)
 |not (x:LX)
 |neg (x:LX)
 |cvI (k:IntKind) (x:LX)
 |i2s (x:LX)
 |b2s (x:LX)
 |idxS (x i:LX)
 |subS (x:LX) (lo hi:Option LX)
 |len (str:Bool) (x:LX)
 |mm (mx:Bool) (x y:LX)
 |fa (off:Nat) (x:LX)
 |ia (sz:Nat) (x i:LX)
 |iaA (len sz:Nat) (x i:LX)
 |ld (agg:Bool) (m:Nat) (x:LX)
 |sub (sz:Nat) (x:LX) (lo hi:Option LX)
 |fld (agg:Bool) (m off:Nat) (x:LX)
 |bld (places:List (Nat×Nat)) (zero:List D) (nils:List Bool) (parts:List (Nat×LX))
 |mkI (t:TypeId) (x:LX)
 |asT (t:TypeId) (zero:D) (x:LX)
 |ext(i:Nat) (x:LX)
 |nck (x:LX)
 |mkF (f:Fn) (first cap:List LX)
 deriving Inhabited
def z5b:AV→AV→AV→Option AV
 |.d (.bool t),a,b=>some (if t then a else b)
 |_,_,_=>none
def okN:Nat→AV→Bool
 |0,.d .nil=>true
 |0,.d (.iface _ _)=>true
 |1,.d .nilp=>true
 |1,.ptr _ _=>true
 |1,.dptr _=>true
 |1,.d (.addr _)=>true
 |1,.d (.pto _)=>true
 |2,.d .nilf=>true
 |2,.fn _ _ _=>true
 |_,_=>false
def fEqN(kind:Nat)(neg:Bool)(x:AV):Option AV:=if okN kind x then fNil neg x else none
def z5a(str:Bool):AV→Option AV
 |.d (.str s)=>if str then fLen (.d (.str s))else none
 |x=>if str then none else fLen x
def evO(σ:St):Option LX→Option AV
 |none=>none
 |some x=>some (σ.ev x)
def evL(σ:St):List LX→List AV
 |[]=>[]
 |x::r=>σ.ev x::evL σ r
def evP(σ:St):List (Nat×LX)→List (Nat×AV)
 |[]=>[]
 |(i,x)::r=>(i,σ.ev x)::evP σ r
def q6l:List AV→Bool
 |[]=>true
 |x::r=>x.simple&&q6l r
def fMkF(f:Fn)(a b:List AV):Option AV:=if q6l a&&q6l b then some (.fn f a b)else none
def fB(o:Option D):Option AV:=o.map .d
def z0J:List Bool→List D→List AV
 |b::bs,x::xs=>(if b=true then .ns else .d x)::z0J bs xs
 |_,xs=>xs.map .d
def fBN(nils:List Bool)(o:Option (List D)):Option AV:=
 match nils with
 |[]=>fB (o.map .agg)
 |b::bs=>match o with
  |some out=>some (.sx (z0J (b::bs) out))
  |none=>none
def pev(σ:St):LV→Option AV
 |.cp x=>some (σ.ev x)
 |.pick c a b=>z5b (σ.ev c) (σ.ev a) (σ.ev b)
 |.bin op x y=>fB (binD op (σ.ev x) (σ.ev y))
 |.eqB neg x y=>fEqB neg (σ.ev x) (σ.ev y)
 |.eqN kind neg x=>fEqN kind neg (σ.ev x)
 |.eqS neg ks x y=>fEqS neg ks (σ.ev x) (σ.ev y)
 |.not x=>fNot (σ.ev x)
 |.neg x=>fNeg (σ.ev x)
 |.cvI k x=>fCvI k (σ.ev x)
 |.i2s x=>fI2s (σ.ev x)
 |.b2s x=>fB2s (σ.ev x)
 |.idxS x i=>z2W (σ.ev x) (σ.ev i)
 |.subS x lo hi=>z6D (σ.ev x) (evO σ lo) (evO σ hi)
 |.len str x=>z5a str (σ.ev x)
 |.mm mx x y=>fMm mx (σ.ev x) (σ.ev y)
 |.fa off x=>fFa off (σ.ev x)
 |.ia sz x i=>fIa sz (σ.ev x) (σ.ev i)
 |.iaA len sz x i=>fIaA len sz (σ.ev x) (σ.ev i)
 |.ld agg m x=>fLd σ agg m (σ.ev x)
 |.sub sz x lo hi=>fSub sz (σ.ev x) (evO σ lo) (evO σ hi)
 |.fld agg m off x=>fFld agg m off (σ.ev x)
 |.bld places zero nils parts=>fBN nils (q9X places zero (evP σ parts))
 |.mkI t x=>fMkI t (σ.ev x)
 |.asT t zero x=>fAsT t zero (σ.ev x)
 |.ext i x=>fExt i (σ.ev x)
 |.nck x=>fNck (σ.ev x)
 |.mkF f a b=>fMkF f (evL σ a) (evL σ b)
/-! ### Reading off -/
def q2x:List Operand→Option (List LX)
 |[]=>some []
 |o::r=>match q1o o,q2x r with
  |some x,some l=>some (x::l)
  |_,_=>none
def j4k:List (Nat×Operand)→Option (List (Nat×LX))
 |[]=>some []
 |(i,o)::r=>match q1o o,j4k r with
  |some x,some l=>some ((i,x)::l)
  |_,_=>none
def z6T:Option Operand→Option (Option LX)
 |none=>some none
 |some o=>(q1o o).map some
def z5s:BinOp→Option Bool
 |.eql=>some false
 |.neq=>some true
 |_=>none
def Program.sz(P:Program)(t:TypeId):Option Nat:=(P.info? t).map (·.size)
def isU8:Option TypeDesc→Bool
 |some (.int .u8)=>true
 |_=>false
def q7F(o:Operand)(g:LX→LV):Option LV:=(q1o o).map g
def z38(o p:Operand)(g:LX→LX→LV):Option LV:=
 match q1o o,q1o p with
 |some x,some y=>some (g x y)
 |_,_=>none
def z39(P:Program)(op:BinOp)(t:TypeId)(x y:Operand):Option LV:=
 match P.underlying t with
 |some (.int _)=>z38 x y (.bin op)
 |some .string=>z38 x y (.bin op)
 |some .bool=>match z5s op with
  |some neg=>z38 x y (.eqB neg)
  |none=>none
 |some (.interface _)=>match z5s op,y with
  |some neg,.const .nilIface=>q7F x (.eqN 0 neg)
  |_,_=>none
 |some (.pointer _)=>match z5s op,y with
  |some neg,.const (.pointer none)=>q7F x (.eqN 1 neg)
  |_,_=>none
 |some (.func _ _ _)=>match z5s op,y with
  |some neg,.const .nilFunc=>q7F x (.eqN 2 neg)
  |_,_=>none
 |some (.struct fs)=>match z5s op,z10 P 0 fs.toList with
  |some neg,some ks=>if !P.stoodInHeld t && !P.eqGuardType P.depth t then z38 x y (.eqS neg ks)else none
  |_,_=>none
 |_=>none
def z8n(P:Program)(s t:TypeId)(x:Operand):Option LV:=
 match P.underlying s,P.underlying t with
 |some (.int _),some (.int k)=>q7F x (.cvI k)
 |some (.int _),some .string=>q7F x .i2s
 |some (.slice e),some .string=>if isU8 (P.underlying e)then q7F x .b2s else none
 |_,_=>none
def q5z(P:Program)(t:TypeId)(x:Operand)(lo hi:Option Operand):Option LV:=
 match P.underlying t,q1o x,z6T lo,z6T hi with
 |some .string,some x,some lo,some hi=>some (.subS x lo hi)
 |some (.slice e),some x,some lo,some hi=>(Program.sz P e).map fun sz=>.sub sz x lo hi
 |_,_,_,_=>none
def j1m(P:Program)(t:TypeId)(x i:Operand):Option LV:=
 match P.underlying t with
 |some (.slice e)=>match Program.sz P e with
  |some sz=>z38 x i (.ia sz)
  |none=>none
 |some (.array len e)=>match Program.sz P e with
  |some sz=>z38 x i (.iaA len sz)
  |none=>none
 |_=>none
def j1l(P:Program)(t:TypeId)(x:Operand)(i:Nat):Option LV:=
 match P.underlying t with
 |some (.struct fs)=>match fs[i]? with
  |some f=>if P.cellsOf f.type≠0 then q7F x (.fa f.offset)else none
  |none=>none
 |_=>none
def z6R(P:Program)(t:TypeId)(x:Operand)(i:Nat):Option LV:=
 match P.underlying t with
 |some (.struct fs)=>match fs[i]? with
  |some f=>match P.underlying f.type,Program.sz P f.type with
   |some d,some m=>q7F x (.fld (aggT d) m f.offset)
   |_,_=>none
  |none=>none
 |_=>none
def j1n(P:Program)(t:TypeId)(x:Operand):Option LV:=
 match P.underlying t,Program.sz P t with
 |some d,some m=>q7F x (.ld (aggT d) m)
 |_,_=>none
def j83(m:Nat):List (Nat×LX)→Bool
 |[]=>true
 |(i,_)::r=>decide (i<m)&&j83 m r
def j1g:Option TypeDesc→Bool
 |some (.struct _)=>true
 |_=>false
def j7w:D→Bool
 |.list []=>true
 |_=>false
def j7o(places:List (Nat×Nat))(parts:List (Nat×LX))(j:Nat):Bool:=
 parts.all fun p=>match places[p.1]? with
  |some (off,size)=>decide (j<off) || decide (off+size≤j)
  |none=>true
def z6d(places:List (Nat×Nat))(zero:List D)(parts:List (Nat×LX)):List Bool:=
 let l:=(List.range zero.length).map fun j=>j7w (zero.getD j default)&&j7o places parts j
 if parts.isEmpty || !l.any id then[]else l
def z14(P:Program)(t:TypeId)(parts:List (Nat×Operand)):Option LV:=
 match Program.placesOf P t parts.length,Program.zeroOf P t,j4k parts with
 |some places,some (.agg zero),some l=>if j83 parts.length l || j1g (P.underlying t)then some (.bld places zero (z6d places zero l) l)else none
 |_,_,_=>none
def j1j(P:Program)(x:Operand)(t:TypeId):Option LV:=
 match P.underlying t,(P.info? t).bind (·.zero)with
 |some (.interface _),_=>none
 |some _,some zv=>match cst zv with
  |some zero=>q7F x (.asT t zero)
  |none=>none
 |_,_=>none
def j0a(P:Program)(t:TypeId)(x:Operand):Option LV:=
 match P.underlying t with
 |some .string=>q7F x (.len true)
 |some (.slice _)=>q7F x (.len false)
 |_=>none
def q6s(P:Program)(b:Builtin)(args:List Operand)(ts:List TypeId):Option LV:=
 match b,args,ts with
 |.len,[x],[t]=>j0a P t x
 |.min,[x,y],_=>z38 x y (.mm false)
 |.max,[x,y],_=>z38 x y (.mm true)
 |_,_,_=>none
def j2w(P:Program):Op→Option LV
 |.move x=>q7F x .cp
 |.pick c a b=>match q1o c,q1o a,q1o b with
  |some c,some a,some b=>some (.pick c a b)
  |_,_,_=>none
 |.binOp op t x y _=>z39 P op t x y
 |.unOp .not _ x=>q7F x .not
 |.unOp .neg _ x=>q7F x .neg
 |.convert s t x=>z8n P s t x
 |.index t x i=>match P.underlying t with
  |some .string=>z38 x i .idxS
  |_=>none
 |.slice t x lo hi none=>q5z P t x lo hi
 |.fieldAddr t x i=>j1l P t x i
 |.field t x i=>z6R P t x i
 |.indexAddr t x i=>j1m P t x i
 |.load t x=>j1n P t x
 |.build t parts=>z14 P t parts.toList
 |.makeInterface t x=>if P.concrete t then q7F x (.mkI t)else none
 |.typeAssert x _ t true=>j1j P x t
 |.extract x i=>q7F x (.ext i)
 |.nilCheck x=>q7F x .nck
 |.makeFunc f a b=>match q2x a.toList,q2x b.toList with
  |some a,some b=>some (.mkF f a b)
  |_,_=>none
 |.call { callee:=.builtin b,args,argTypes }=>q6s P b args.toList argTypes.toList
 |_=>none
variable {E:Entry} {n:Nat} {G:q0s} {σ:St} {a:Act} {w:World} {P:Program}
/-! ### It is sound -/
theorem q1c{o:Operand}{g:LX→LV}{v:LV}(h:q7F o g=some v):∃x,q1o o=some x∧v=g x:=by
 unfold q7F at h;cases hx:q1o o with
 |none=>simp[hx]at h
 |some x=>simp[hx]at h;exact⟨x,rfl,h.symm⟩
theorem q28{o p:Operand}{g:LX→LX→LV}{v:LV}(h:z38 o p g=some v):∃x y,q1o o=some x∧q1o p=some y∧v=g x y:=by
 unfold z38 at h;split at h
 ·rename_i x y hx hy;cases h;exact⟨x,y,hx,hy,rfl⟩
 ·cases h
theorem q7G(h:SR E n G σ a.tmps w){o:Option Operand}{x:Option LX}(hx:z6T o=some x):OptR G w (evO σ x) (o.map a.eval):=by
 cases o with
 |none=>simp[z6T]at hx;subst hx;trivial
 |some o=>
  simp only[z6T]at hx;cases hy:q1o o with
  |none=>simp[hy]at hx
  |some y=>simp[hy]at hx;subst hx;exact h.ev hy
theorem q4t(h:SR E n G σ a.tmps w):∀{os:List Operand} {l:List LX},q2x os=some l→os.length=(evL σ l).length∧∀(i:Nat) (x:AV),(evL σ l)[i]?=some x→AVR G w x ((os.map a.eval).getD i undef)
 |[],l,hl=>by simp[q2x]at hl;subst hl;exact⟨rfl,fun _ _ h=>by simp[evL]at h⟩
 |o::os,l,hl=>by
  simp only[q2x]at hl;split at hl
  ·rename_i x r hx hr;cases hl;obtain⟨h1,h2⟩:=q4t h hr;refine⟨by simp[evL,h1],fun i y hy=>?_⟩;cases i with
   |zero=>simp[evL]at hy;subst hy;simpa using h.ev hx
   |succ i=>simp[evL]at hy;simpa using h2 i y hy
  ·cases hl
theorem z4d(h:SR E n G σ a.tmps w):∀{os:List (Nat×Operand)} {l:List (Nat×LX)},j4k os=some l→(os.map fun p=>(p.1,a.eval p.2)).map (·.1)=(evP σ l).map (·.1)∧
  ∀(i:Nat) (p:Nat×AV) (q:Nat×Value),(evP σ l)[i]?=some p→(os.map fun p=>(p.1,a.eval p.2))[i]?=some q→AVR G w p.2 q.2
 |[],l,hl=>by simp[j4k]at hl;subst hl;exact⟨rfl,fun _ _ _ h=>by simp[evP]at h⟩
 |(k,o)::os,l,hl=>by
  simp only[j4k]at hl;split at hl
  ·rename_i x r hx hr;cases hl;obtain⟨h1,h2⟩:=z4d h hr;refine⟨by simp[evP];simpa using h1,fun i p q hp hq=>?_⟩;cases i with
   |zero=>simp[evP]at hp hq;subst hp;subst hq;exact h.ev hx
   |succ i=>simp[evP]at hp hq;exact h2 i p q hp (by simpa using hq)
  ·cases hl
theorem j7t{o:Option D}{z:AV}(h:fB o=some z):∃x,o=some x∧z=.d x:=by
 unfold fB at h;cases o with
 |none=>simp at h
 |some x=>simp at h;exact⟨x,rfl,h.symm⟩
theorem z1b{l:List AV}:q6l l=true↔∀x∈l,x.simple=true:=by
 induction l with
 |nil=>simp[q6l]
 |cons x r ih=>simp[q6l,ih]
theorem q79{op:BinOp}{t:TypeId}{x y:Operand}{u v:Value}(h:(∀cs ds,¬(u=.agg cs∧v=.agg ds)))(hn:u=.nilIface→v=.nilIface→(∃k,x=.const k)∨∃k,y=.const k):(eqGuard op t x y u v).run P w=.ok () w:=by
 unfold eqGuard;refine iteInduction (motive:=fun s=>Sem.run P s w=.ok () w) (fun _=>rfl) (fun _=>?_);split
 ·rcases hn rfl rfl with⟨k,rfl⟩|⟨k,rfl⟩<;>simp
 ·exact absurd ⟨rfl,rfl⟩ (h _ _)
 ·rfl
def Yields(P:Program)(a:Act)(G:q0s)(w:World)(o:Oper)(z:AV):Prop:=∃r,(execOp a.eval o).run P w=.ok (.value r) w∧AVR G w z r
theorem Yields.mk{o:Oper}{z:AV}{s:Sem Value}(he:execOp a.eval o=(do pure (.value (←s))))(h:∃r,s.run P w=.ok r w∧AVR G w z r):Yields P a G w o z:=by
 obtain⟨r,h1,h2⟩:=h;exact⟨r,by rw[he];simp[h1],h2⟩
theorem z1c{op:BinOp}{x y:AV}{d:D}{v:Value}(h:binD op x y=some d)(hx:AVR G w x v):(∀cs,v≠.agg cs)∧v≠.nilIface:=by
 unfold binD at h;split at h
 ·have:=hx.dinv;cases this;exact⟨fun _=>by simp,by simp⟩
 ·have:=hx.dinv;cases this;exact⟨fun _=>by simp,by simp⟩
 ·cases h
theorem z71{neg:Bool}{x y z:AV}{v:Value}(h:fEqB neg x y=some z)(hx:AVR G w x v):(∀cs,v≠.agg cs)∧v≠.nilIface:=by
 unfold fEqB at h;split at h
 ·have:=hx.dinv;cases this;exact⟨fun _=>by simp,by simp⟩
 ·cases h
theorem z67{k:Nat}{x:AV}{d:TypeDesc}(h:okN k x=true)(hd:(k=0∧∃ms,d=.interface ms)∨(k=1∧∃e,d=.pointer e)∨(k=2∧∃p r b,d=.func p r b)):j4w d x=true:=by
 rcases hd with⟨rfl,ms,rfl⟩|⟨rfl,e,rfl⟩|⟨rfl,p,r,b,rfl⟩<;>unfold okN at h<;>split at h<;>first|(exfalso;omega)|rfl|cases h
theorem z6P(hσ:SR E n G σ a.tmps w){o:Oper}{op:BinOp}{t yt:TypeId}{x y:Operand}{v:LV}{z:AV}(ho:o.op=.binOp op t x y yt)(hl:z39 P op t x y=some v)(h:pev σ v=some z):Yields P a G w o z:=by
 have he:execOp a.eval o=(do pure (.value (←(do eqGuard op t x y (a.eval x) (a.eval y);binOp op t (a.eval x) (a.eval y))))):=by simp only[execOp,ho]
 refine Yields.mk he ?_;have fin:(∃r,(binOp op t (a.eval x) (a.eval y)).run P w=.ok r w∧AVR G w z r)→(∀cs ds,¬(a.eval x=.agg cs∧a.eval y=.agg ds))→(a.eval x=.nilIface→a.eval y=.nilIface→(∃k,x=.const k)∨∃k,y=.const k)→
   ∃r,(do eqGuard op t x y (a.eval x) (a.eval y);binOp op t (a.eval x) (a.eval y):Sem Value).run P w=.ok r w∧AVR G w z r:=fun⟨r,h1,h2⟩ g1 g2=>⟨r,by simp[q79 g1 g2,h1],h2⟩
 unfold z39 at hl;split at hl
 ·obtain⟨x',y',hx,hy,rfl⟩:=q28 hl;have rx:=hσ.ev hx;have ry:=hσ.ev hy;obtain⟨d,hd,rfl⟩:=j7t h;obtain⟨r,h1,h2⟩:=j01 (P:=P) (t:=t) rx ry hd;exact fin ⟨r,h1,.d _ _ h2⟩ (fun cs ds ⟨e1,_⟩=>(z1c hd rx).1 cs e1) (fun e1 _=>absurd e1 (z1c hd rx).2)
 ·obtain⟨x',y',hx,hy,rfl⟩:=q28 hl;have rx:=hσ.ev hx;have ry:=hσ.ev hy;obtain⟨d,hd,rfl⟩:=j7t h;obtain⟨r,h1,h2⟩:=j01 (P:=P) (t:=t) rx ry hd;exact fin ⟨r,h1,.d _ _ h2⟩ (fun cs ds ⟨e1,_⟩=>(z1c hd rx).1 cs e1) (fun e1 _=>absurd e1 (z1c hd rx).2)
 ·rename_i ht;split at hl
  ·rename_i neg hn;obtain⟨x',y',hx,hy,rfl⟩:=q28 hl;have rx:=hσ.ev hx;have ry:=hσ.ev hy;have hop:op=eqOp neg:=by cases op<;>simp[z5s]at hn<;>subst hn<;>rfl
   subst hop;have h':fEqB neg (σ.ev x') (σ.ev y')=some z:=h;exact fin (j5V ht rx ry h') (fun cs ds ⟨e1,_⟩=>(z71 h' rx).1 cs e1) (fun e1 _=>absurd e1 (z71 h' rx).2)
  ·cases hl
 ·rename_i ms ht;split at hl
  ·rename_i neg hn;obtain⟨x',hx,rfl⟩:=q1c hl;have rx:=hσ.ev hx;have hop:op=eqOp neg:=by cases op<;>simp[z5s]at hn<;>subst hn<;>rfl
   subst hop;simp only[pev,fEqN]at h;split at h
   ·rename_i hk;exact fin (z6C ht rfl rx h (z67 hk (.inl ⟨rfl,_,rfl⟩))) (fun cs ds ⟨_,e2⟩=>by cases e2) (fun _ _=>.inr ⟨_,rfl⟩)
   ·cases h
  ·cases hl
 ·rename_i el ht;split at hl
  ·rename_i neg hn;obtain⟨x',hx,rfl⟩:=q1c hl;have rx:=hσ.ev hx;have hop:op=eqOp neg:=by cases op<;>simp[z5s]at hn<;>subst hn<;>rfl
   subst hop;simp only[pev,fEqN]at h;split at h
   ·rename_i hk;exact fin (z6C ht rfl rx h (z67 hk (.inr (.inl ⟨rfl,_,rfl⟩)))) (fun cs ds ⟨_,e2⟩=>by cases e2) (fun _ e2=>by cases e2)
   ·cases h
  ·cases hl
 ·rename_i p r b ht;split at hl
  ·rename_i neg hn;obtain⟨x',hx,rfl⟩:=q1c hl;have rx:=hσ.ev hx;have hop:op=eqOp neg:=by cases op<;>simp[z5s]at hn<;>subst hn<;>rfl
   subst hop;simp only[pev,fEqN]at h;split at h
   ·rename_i hk;exact fin (z6C ht rfl rx h (z67 hk (.inr (.inr ⟨rfl,_,_,_,rfl⟩)))) (fun cs ds ⟨_,e2⟩=>by cases e2) (fun _ e2=>by cases e2)
   ·cases h
  ·cases hl
 ·rename_i fs ht;have hfs:P.fieldsOf t=fs:=by simp[Program.fieldsOf,ht]
  split at hl
  ·rename_i neg ks hn hks;split at hl
   ·rename_i hc;simp only[Zah,Zca]at hc;obtain⟨x',y',hx,hy,rfl⟩:=q28 hl;have rx:=hσ.ev hx;have ry:=hσ.ev hy;have hop:op=eqOp neg:=by cases op<;>simp[z5s]at hn<;>subst hn<;>rfl
    subst hop;have h':fEqS neg ks (σ.ev x') (σ.ev y')=some z:=h;obtain⟨r,h1,h2⟩:=j5W (P:=P) (t:=t) (by rw[hfs];exact ht) hc.1 (by rw[hfs];exact hks) rx ry h';obtain⟨xs,ys,e1,e2⟩:∃xs ys,a.eval x=.agg xs∧a.eval y=.agg ys:=by
     unfold fEqS at h';split at h'
     ·rename_i xs ys h3 h4;rw[h3]at rx;rw[h4]at ry;have rx:=rx.dinv;have ry:=ry.dinv;generalize a.eval x=u at rx;generalize a.eval y=v at ry;cases rx;cases ry;exact⟨_,_,rfl,rfl⟩
     ·cases h'
    rw[e1,e2]at h1 ⊢;exact⟨r,by simp[run_eqGuard_agg w (eqOp neg) t x y xs ys hc.2,h1],h2⟩
   ·cases hl
  ·cases hl
 ·cases hl
end Go.Av
/- The operations that only reckon: what is read off is sound. -/
namespace Go.Av
variable {E:Entry} {n:Nat} {G:q0s} {σ:St} {a:Act} {w:World} {P:Program}
theorem j6g{d:Option TypeDesc}(h:isU8 d=true):d=some (.int .u8):=by
 unfold isU8 at h;split at h
 ·rfl
 ·cases h
theorem z8o(hσ:SR E n G σ a.tmps w){o:Oper}{s t:TypeId}{x:Operand}{v:LV}{z:AV}(ho:o.op=.convert s t x)(hl:z8n P s t x=some v)(h:pev σ v=some z):Yields P a G w o z:=by
 refine Yields.mk (s:=convert s t (a.eval x)) (by simp only[execOp,ho]) ?_;unfold z8n at hl;split at hl
 ·rename_i hs ht;obtain⟨x',hx,rfl⟩:=q1c hl;exact j5U hs ht (hσ.ev hx) h
 ·rename_i hs ht;obtain⟨x',hx,rfl⟩:=q1c hl;exact j5Z hs ht (hσ.ev hx) h
 ·rename_i e hs ht;split at hl
  ·rename_i h8;obtain⟨x',hx,rfl⟩:=q1c hl;exact j5T hs (j6g h8) ht (hσ.ev hx) h
  ·cases hl
 ·cases hl
theorem q9d(hσ:SR E n G σ a.tmps w){o:Oper}{t:TypeId}{x:Operand}{lo hi:Option Operand}{v:LV}{z:AV}(ho:o.op=.slice t x lo hi none)(hl:q5z P t x lo hi=some v)(h:pev σ v=some z):Yields P a G w o z:=by
 refine Yields.mk (s:=Instr.sliceAt t (a.eval x) (lo.map a.eval) (hi.map a.eval) none) (by simp[execOp,ho]) ?_;unfold q5z at hl;split at hl
 ·rename_i x' lo' hi' ht hx hlo hhi;cases hl;exact j3R ht (hσ.ev hx) (q7G hσ hlo) (q7G hσ hhi) h
 ·rename_i e x' lo' hi' ht hx hlo hhi;cases hs:Program.sz P e with
  |none=>simp[hs]at hl
  |some sz=>simp[hs]at hl;subst hl;exact j55 ht hs (hσ.ev hx) (q7G hσ hlo) (q7G hσ hhi) h
 ·cases hl
theorem z8r(hσ:SR E n G σ a.tmps w){o:Oper}{t:TypeId}{x i:Operand}{v:LV}{z:AV}(ho:o.op=.indexAddr t x i)(hl:j1m P t x i=some v)(h:pev σ v=some z):Yields P a G w o z:=by
 refine Yields.mk (s:=Instr.indexAt t (a.eval x) (a.eval i)) (by simp only[execOp,ho]) ?_;unfold j1m at hl;split at hl
 ·rename_i e ht;split at hl
  ·rename_i sz hs;obtain⟨x',y',hx,hy,rfl⟩:=q28 hl;exact j78 ht hs (hσ.ev hx) (hσ.ev hy) h
  ·cases hl
 ·rename_i len e ht;split at hl
  ·rename_i sz hs;obtain⟨x',y',hx,hy,rfl⟩:=q28 hl;exact j50 ht hs (hσ.ev hx) (hσ.ev hy) h
  ·cases hl
 ·cases hl
theorem z8q(hσ:SR E n G σ a.tmps w){o:Oper}{t:TypeId}{x:Operand}{i:Nat}{v:LV}{z:AV}(ho:o.op=.fieldAddr t x i)(hl:j1l P t x i=some v)(h:pev σ v=some z):Yields P a G w o z:=by
 refine Yields.mk (s:=Instr.fieldAt t (a.eval x) i) (by simp only[execOp,ho]) ?_;unfold j1l at hl;split at hl
 ·rename_i fs ht;split at hl
  ·rename_i f hf;split at hl
   ·rename_i hc;obtain⟨x',hx,rfl⟩:=q1c hl;exact j77 ht hf rfl hc (hσ.ev hx) h
   ·cases hl
  ·cases hl
 ·cases hl
theorem z6S(hσ:SR E n G σ a.tmps w){o:Oper}{t:TypeId}{x:Operand}{i:Nat}{v:LV}{z:AV}(ho:o.op=.field t x i)(hl:z6R P t x i=some v)(h:pev σ v=some z):Yields P a G w o z:=by
 refine Yields.mk (s:=Instr.field t (a.eval x) i) (by simp only[execOp,ho]) ?_;unfold z6R at hl;split at hl
 ·rename_i fs ht;split at hl
  ·rename_i f hf;split at hl
   ·rename_i d m hd hm;obtain⟨x',hx,rfl⟩:=q1c hl;exact j5Y ht hf hd hm (hσ.ev hx) h
   ·cases hl
  ·cases hl
 ·cases hl
theorem z8u(hσ:SR E n G σ a.tmps w){o:Oper}{t:TypeId}{x:Operand}{v:LV}{z:AV}(ho:o.op=.load t x)(hl:j1n P t x=some v)(h:pev σ v=some z):Yields P a G w o z:=by
 refine Yields.mk (s:=Instr.loadAt t (a.eval x)) (by simp only[execOp,ho]) ?_;unfold j1n at hl;split at hl
 ·rename_i d m hd hm;obtain⟨x',hx,rfl⟩:=q1c hl;exact z9S hσ hd hm (hσ.ev hx) h
 ·cases hl
theorem z6z{v:Value}(h:cst1 v=some (.list [])):v=.slice none 0 0:=by
 unfold cst1 at h;split at h<;>first|rfl|(cases h)
theorem j05:∀{vs:List Value} {l:List D},cstL vs=some l→∀i:Nat,l[i]?=some (.list [])→vs.getD i undef=.slice none 0 0
 |[],l,h,i,hi=>by simp[cstL]at h;subst h;simp at hi
 |v::vs,l,h,i,hi=>by
  simp only[cstL]at h;split at h
  ·rename_i x r hx hr;cases h;cases i with
   |zero=>simp at hi;subst hi;simpa using z6z hx
   |succ i=>simp at hi;simpa using j05 hr i hi
  ·cases h
theorem z9J{v:Value}{x:D}(h:cst v=some x){i:Nat}(hi:x.cells[i]?=some (.list [])):v.cells.getD i undef=.slice none 0 0:=by
 unfold cst at h;split at h
 ·obtain⟨y,_,rfl⟩:=Zbf.1 h;cases i<;>simp[D.cells]at hi
 ·rename_i cs;obtain⟨l,hl,rfl⟩:=Zbf.1 h;have:=j05 hl i hi;simpa[Value.cells,List.getD_eq_getElem?_getD]using this
 ·rename_i h1 h2;have hx:x.cells=[x]:=by
   unfold cst1 at h;split at h<;>first|(cases h;rfl)|(cases h)
  rw[hx]at hi;have h0:i=0:=by cases i<;>simp_all
  subst h0;simp at hi;subst hi;have:=z6z h;subst this;rfl
theorem z9R(σ:St):∀l:List (Nat×LX),(evP σ l).map (·.1)=l.map (·.1)
 |[]=>rfl
 |(i,x)::r=>by simp only[evP,Zbo,z9R σ r]
theorem z1u:∀(bs:List Bool) (xs:List D),(z0J bs xs).length=xs.length
 |[],xs=>by simp[z0J]
 |b::bs,[]=>by simp[z0J]
 |b::bs,x::xs=>by simp[z0J,z1u bs xs]
theorem q9i:∀(bs:List Bool) (xs:List D) (i:Nat) (y:AV),(z0J bs xs)[i]?=some y→∃x,xs[i]?=some x∧((bs[i]?=some true∧y=.ns)∨y=.d x)
 |[],xs,i,y,h=>by
  simp only[z0J,Zan]at h;obtain⟨x,h1,h2⟩:=Zbf.1 h;exact⟨x,h1,.inr h2.symm⟩
 |b::bs,[],i,y,h=>by simp[z0J]at h
 |b::bs,x::xs,i,y,h=>by
  simp only[z0J]at h;cases i with
  |zero=>
   simp only[List.getElem?_cons_zero,Zas]at h;refine⟨x,rfl,?_⟩;split at h
   ·rename_i hb;exact .inl ⟨by simp[hb],h.symm⟩
   ·exact .inr h.symm
  |succ i=>
   obtain⟨x',h1,h2⟩:=q9i bs xs i y (by simpa using h);exact⟨x',by simpa using h1,by simpa using h2⟩
theorem z7Z{t:TypeId}{places:List (Nat×Nat)}{m:Nat}{zero:List D}{xs:List (Nat×AV)}{l:List (Nat×LX)}{vs:List (Nat×Value)}{out:List D}{z:AV}(hp:Go.Av.Program.placesOf P t m=some places)(hz:Go.Av.Program.zeroOf P t=some (.agg zero))
  (hm:∀x∈xs,x.1<m) (hk:vs.map (·.1)=xs.map (·.1)) (hr:∀(i:Nat) (p:Nat×AV) (q:Nat×Value),xs[i]?=some p→vs[i]?=some q→AVR G w p.2 q.2) (h:q9X places zero xs=some out)
  (hl:xs.map (·.1)=l.map (·.1)) (hN:fBN (z6d places zero l) (some out)=some z):
  ∃r,(Instr.build t vs.toArray).run P w=.ok r w∧AVR G w z r:=by
 obtain⟨zv,arr',h0,h1,h2,h3⟩:=j3M hp hz hm hk hr h;refine⟨_,h2,?_⟩;cases hn:z6d places zero l with
 |nil=>rw[hn]at hN;cases hN;exact .d _ _ h3.agg
 |cons b bs=>
  rw[hn]at hN;cases hN;have hget:∀j,(b::bs)[j]?=some true→zero[j]?=some (.list [])∧j7o places l j=true:=fun j hj=>by
   rw[←hn]at hj;unfold z6d at hj;simp only at hj;split at hj
   ·simp at hj
   ·simp only[Zan]at hj;obtain⟨k,hk1,hk2⟩:=Zbf.1 hj;obtain⟨hk3,rfl⟩:=Zac.1 hk1;simp only[List.getElem_range,Zah]at hk2;simp only[List.length_range]at hk3;refine⟨?_,hk2.2⟩;have hk4:=hk2.1;rw[List.getD_eq_getElem?_getD,Zal hk3]at hk4;rw[Zal hk3];simp only[Zbd]at hk4;generalize zero[j]=y at hk4;unfold j7w at hk4;split at hk4
    ·rfl
    ·cases hk4
  refine .sx _ _ (by rw[z1u];exact h3.1) (fun y hy=>?_) (fun i hi=>?_) (fun i y hi=>?_)
  ·obtain⟨i,hi⟩:=Zbt.1 hy;obtain⟨x,_,h5⟩:=q9i _ _ _ _ hi;rcases h5 with⟨_,rfl⟩|rfl<;>rfl
  ·rw[z1u]at hi;obtain⟨o1,r1⟩:=h3.2 i out[i] (Zal hi);exact(r1.one o1).1
  ·obtain⟨x,h4,h5⟩:=q9i _ _ _ _ hi;obtain⟨o1,r1⟩:=h3.2 i x h4;rcases h5 with⟨hb,rfl⟩|rfl
   ·obtain⟨g1,g2⟩:=hget i hb;have hold:=z78 (j:=i) h1 fun q hq off size hpl=>by
     have hq1:q.1∈l.map (·.1):=by rw[←hl,←hk];exact Zat.2 ⟨q,hq,rfl⟩
     obtain⟨p,hp1,hp2⟩:=Zat.1 hq1;have:=Zbh.1 g2 p hp1;rw[hp2,hpl]at this;simpa using this
    have hz0:=z9J h0 (i:=i) (by simpa[D.cells]using g1);rw[hold,hz0];exact .ns
   ·exact .d _ _ r1
theorem z6Q(hσ:SR E n G σ a.tmps w){o:Oper}{t:TypeId}{parts:Array (Nat×Operand)}{v:LV}{z:AV}(ho:o.op=.build t parts)(hl:z14 P t parts.toList=some v)(h:pev σ v=some z):Yields P a G w o z:=by
 refine Yields.mk (s:=Instr.build t (parts.map fun(i,x)=>(i,a.eval x))) (by simp only[execOp,ho]) ?_;unfold z14 at hl;split at hl
 ·rename_i places zero l hp hz hpl;split at hl
  ·rename_i hc;cases hl;obtain⟨k1,k2⟩:=z4d hσ hpl;have h':fBN (z6d places zero l) (q9X places zero (evP σ l))=some z:=h;cases ho':q9X places zero (evP σ l)with
   |none=>rw[ho']at h';cases hn:z6d places zero l<;>rw[hn]at h'<;>cases h'
   |some out=>
    rw[ho']at h';have e:(parts.map fun(i,x)=>(i,a.eval x))=(parts.toList.map fun p=>(p.1,a.eval p.2)).toArray:=by
     apply Zcl;simp
    rw[e]
    -- each part's number is in range: else there is no place
    have hplace:∀(q:List (Nat×AV)) (cs out:List D),q9X places cs q=some out→∀p∈q,p.1<places.length:=fun q=>by
     induction q with
     |nil=>intro _ _ _ p hp;simp at hp
     |cons p q ih=>
      obtain⟨i,x⟩:=p;intro cs out hf p' hp';simp only[q9X]at hf;split at hf
      ·rename_i off size y hpl hy;split at hf
       ·rcases Zba.1 hp' with rfl|hp'
        ·rw[z3o]at hpl;exact(Zac.1 hpl).1
        ·exact ih _ _ hf p' hp'
       ·cases hf
      ·cases hf
    cases hu:P.underlying t with
    |none=>simp[Program.placesOf,hu]at hp
    |some d=>
     cases d with
     |struct fs=>
      -- structs: any bound serves
      have hp2:Program.placesOf P t (parts.toList.length+places.length)=some places:=by simpa[Program.placesOf,hu]using hp
      exact z7Z hp2 hz (fun p hpm=>by have:=hplace _ _ _ ho' p hpm;omega) k1 k2 ho' (z9R _ _) h'
     |array k e=>
      have hlen:places.length=parts.toList.length:=by
       simp only[Program.placesOf,hu]at hp;cases hie:P.info? e with
       |none=>simp[hie]at hp
       |some ie=>simp[hie]at hp;rw[←hp];simp
      exact z7Z hp hz (fun p hpm=>by have:=hplace _ _ _ ho' p hpm;omega) k1 k2 ho' (z9R _ _) h'
     |_=>simp[Program.placesOf,hu]at hp
  ·cases hl
 ·cases hl
theorem z8m(hσ:SR E n G σ a.tmps w){o:Oper}{xt t:TypeId}{x:Operand}{v:LV}{z:AV}(ho:o.op=.typeAssert x xt t true)(hl:j1j P x t=some v)(h:pev σ v=some z):Yields P a G w o z:=by
 refine Yields.mk (s:=Instr.typeAssert (a.eval x) xt t true) (by simp only[execOp,ho]) ?_;unfold j1j at hl;split at hl
 ·cases hl
 ·rename_i d zv hne hd hz;split at hl
  ·rename_i zero hc;obtain⟨x',hx,rfl⟩:=q1c hl;cases hi:P.info? t with
   |none=>simp[hi]at hz
   |some ti=>
    simp[hi]at hz;exact j5S hd (fun ms e=>by subst e;exact hne _ rfl) hi hz hc (hσ.ev hx) h
  ·cases hl
 ·cases hl
theorem z15(hσ:SR E n G σ a.tmps w){o:Oper}{b:Builtin}{args:Array Operand}{ts:Array TypeId}{v:LV}{z:AV}(ho:o.op=.call { callee:=.builtin b,args:=args,argTypes:=ts })(hl:q6s P b args.toList ts.toList=some v)(h:pev σ v=some z):Yields P a G w o z:=by
 unfold q6s at hl;split at hl
 ·rename_i x t ea et;have ea':args = #[x]:=by apply Zcl;exact ea
  have et':ts = #[t]:=by apply Zcl;exact et
  subst ea';subst et';refine Yields.mk (s:=Builtin.len_ #[t] o.type #[a.eval x]) (by simp[execOp,ho,resolve,invoke,builtin]) ?_;unfold j0a at hl;split at hl
  ·rename_i ht;obtain⟨x',hx,rfl⟩:=q1c hl;have h':z5a true (σ.ev x')=some z:=h;unfold z5a at h';split at h'
   ·rename_i s hs;have rx:=hσ.ev hx;rw[hs]at rx;exact j09 rx (by simpa using h') ht
   ·simp at h'
  ·rename_i e ht;obtain⟨x',hx,rfl⟩:=q1c hl;have h':z5a false (σ.ev x')=some z:=h;unfold z5a at h';split at h'
   ·simp at h'
   ·rename_i hne;refine j09 (hσ.ev hx) (by simpa using h') ?_;unfold j4d;split
    ·rename_i s hs;exact absurd hs (hne s)
    ·exact⟨e,ht⟩
  ·cases hl
 ·rename_i _ x y ea;have ea':args = #[x,y]:=by apply Zcl;exact ea
  subst ea';obtain⟨x',y',hx,hy,rfl⟩:=q28 hl;have h':fMm false (σ.ev x') (σ.ev y')=some z:=h;have:=j3Q (P:=P) (at_:=ts) (ty:=o.type) (hσ.ev hx) (hσ.ev hy) h';exact Yields.mk (s:=Builtin.min_ ts o.type #[a.eval x,a.eval y]) (by simp[execOp,ho,resolve,invoke,builtin]) (by simpa using this)
 ·rename_i _ x y ea;have ea':args = #[x,y]:=by apply Zcl;exact ea
  subst ea';obtain⟨x',y',hx,hy,rfl⟩:=q28 hl;have h':fMm true (σ.ev x') (σ.ev y')=some z:=h;have:=j3Q (P:=P) (at_:=ts) (ty:=o.type) (hσ.ev hx) (hσ.ev hy) h';exact Yields.mk (s:=Builtin.max_ ts o.type #[a.eval x,a.eval y]) (by simp[execOp,ho,resolve,invoke,builtin]) (by simpa using this)
 ·cases hl
theorem j0c(hσ:SR E n G σ a.tmps w){o:Oper}{v:LV}{z:AV}(hl:j2w P o.op=some v)(h:pev σ v=some z):Yields P a G w o z:=by
 unfold j2w at hl;split at hl
 ·rename_i x ho;obtain⟨x',hx,rfl⟩:=q1c hl;have h':some (σ.ev x')=some z:=h;cases h';exact⟨a.eval x,by simp[execOp,ho],hσ.ev hx⟩
 ·rename_i c x y ho;split at hl
  ·rename_i c' x' y' hc hx hy;cases hl;have h':z5b (σ.ev c') (σ.ev x') (σ.ev y')=some z:=h;unfold z5b at h';split at h'
   ·rename_i t hct;cases h';have rc:=hσ.ev hc;rw[hct]at rc;have rc:=rc.dinv;generalize hcv:a.eval c=cv at rc;cases rc;refine⟨if t then a.eval x else a.eval y,by simp[execOp,ho,hcv,asBool],?_⟩;cases t
    ·exact hσ.ev hy
    ·exact hσ.ev hx
   ·cases h'
  ·cases hl
 ·rename_i op t x y yt ho;exact z6P hσ ho hl h
 ·rename_i t x ho;obtain⟨x',hx,rfl⟩:=q1c hl;exact Yields.mk (by simp only[execOp,ho]) (j54 (hσ.ev hx) h)
 ·rename_i t x ho;obtain⟨x',hx,rfl⟩:=q1c hl;exact Yields.mk (by simp only[execOp,ho]) (j53 (hσ.ev hx) h)
 ·rename_i s t x ho;exact z8o hσ ho hl h
 ·rename_i t x i ho;split at hl
  ·rename_i ht;obtain⟨x',y',hx,hy,rfl⟩:=q28 hl;exact Yields.mk (by simp only[execOp,ho]) (j3N ht (hσ.ev hx) (hσ.ev hy) h)
  ·cases hl
 ·rename_i t x lo hi ho;exact q9d hσ ho hl h
 ·rename_i t x i ho;exact z8q hσ ho hl h
 ·rename_i t x i ho;exact z6S hσ ho hl h
 ·rename_i t x i ho;exact z8r hσ ho hl h
 ·rename_i t x ho;exact z8u hσ ho hl h
 ·rename_i t parts ho;exact z6Q hσ ho hl h
 ·rename_i t x ho;split at hl
  ·rename_i hc;obtain⟨x',hx,rfl⟩:=q1c hl;exact Yields.mk (by simp only[execOp,ho]) (j52 hc (hσ.ev hx) h)
  ·cases hl
 ·rename_i x xt t ho;exact z8m hσ ho hl h
 ·rename_i x i ho;obtain⟨x',hx,rfl⟩:=q1c hl;exact Yields.mk (by simp only[execOp,ho]) (j5X (hσ.ev hx) h)
 ·rename_i x ho;obtain⟨x',hx,rfl⟩:=q1c hl;have rx:=hσ.ev hx;have h':fNck (σ.ev x')=some z:=h;unfold fNck at h';split at h'
  ·rename_i r off he;cases h';rw[he]at rx;generalize hv:a.eval x=xv at rx;cases rx;exact⟨_,by simp[execOp,ho,hv],.ptr _ _⟩
  ·rename_i cs he;cases h';rw[he]at rx;generalize hv:a.eval x=xv at rx;obtain⟨b,off,rfl⟩:=rx.q4o;exact⟨_,by simp[execOp,ho,hv],rx⟩
  ·rename_i cs he;cases h';rw[he]at rx;have rx:=rx.j0m;generalize hv:a.eval x=xv at rx;obtain⟨b,off,rfl⟩:=rx.q4o;exact⟨_,by simp[execOp,ho,hv],rx⟩
  ·rename_i ad he;cases h';rw[he]at rx;have rx:=rx.dinv;generalize hv:a.eval x=xv at rx;cases rx;exact⟨_,by simp[execOp,ho,hv],.d _ _ (.addr _)⟩
  ·cases h'
 ·rename_i f x y ho;split at hl
  ·rename_i x' y' hx hy;cases hl;have h':fMkF f (evL σ x') (evL σ y')=some z:=h;unfold fMkF at h';split at h'
   ·rename_i hs;cases h';simp only[Zah]at hs;obtain⟨l1,r1⟩:=q4t hσ hx;obtain⟨l2,r2⟩:=q4t hσ hy;refine⟨.func f (x.map a.eval) (y.map a.eval),by simp[execOp,ho,Instr.makeFunc],?_⟩;exact .fn f _ _ _ _ (by simpa using l1) (z1b.1 hs.1) (fun i u hu=>by have:=r1 i u hu;simpa[List.getD_eq_getElem?_getD]using this)
     (by simpa using l2) (z1b.1 hs.2) (fun i u hu=>by have:=r2 i u hu;simpa[List.getD_eq_getElem?_getD]using this)
   ·cases h'
  ·cases hl
 ·rename_i b args ts ho;exact z15 hσ ho hl h
 ·cases hl
end Go.Av
/- Operations over abstract states that write or make memory. -/
namespace Go.Av
inductive Prim where
 |call
 |range (t:TypeId)
 |next (str:Bool) (t:TypeId)
 |entry
 |lookup (t:TypeId) (ok:Bool)
 |mkMap (t:TypeId)
 |mapUpd (t:TypeId)
 |mapEntry (t:TypeId)
 |entryStore (t:TypeId)
 |mkSlice (t:TypeId)
 |eq (op:BinOp) (t:TypeId)
 |conv(s t:TypeId)
 |bi (b:Builtin) (ts:List TypeId)
 deriving Inhabited
inductive LO where
 |val (v:LV)
 |asg (x:LX)
 |nils (e sz:Nat)
 |st (m:Nat) (addr x:LX)
 |box (x:LX)
 |allo (zero:List D)
 |app (e sz bytes:Nat) (str:Bool) (s x:LX)
 |bsl (e sz:Nat) (parts:List LX)
 |sla (len:Nat) (x:LX) (lo hi:Option LX)
 |call (f:Nat) (args:List LX)
 |prim (p:Prim) (xs:List LX) (chk:List (Nat×LV))
 |stC (m:Nat) (addr x:LX) (chk:List (Nat×LV))
 deriving Inhabited
structure q0b where
 dst:Option Nat
 op:LO
 guard:Option (Nat×Bool)
 deriving Inhabited
/-! ### What they do -/
def asgS(σ:St)(d:Nat)(y:AV):St:=
 match y with
 |.own (.t s) e sz l=>if s=d then σ.put d y else
  St.put { σ.erase (.t d)with ρ:=amap (AV.rename (.t s) (.t d)) (σ.erase (.t d)).ρ } d (.own (.t d) e sz l)
 |y=>σ.put d y
def nilS(σ:St)(d e sz:Nat):St:=(σ.erase (.t d)).put d (.own (.t d) e sz [])
def setA(cs:List AV)(o:Nat):List AV→List AV
 |[]=>cs
 |x::r=>setA (cs.set o x) (o+1) r
def stD(cs:List AV)(o:Nat)(xs:List D):List AV:=setA cs o (xs.map .d)
def j6e:AV→Bool
 |.ptr (.l _) _=>true
 |_=>false
def isLocal:Ref→Bool
 |.l _=>true
 |.x _=>false
def z9f:AV→Bool
 |.d _|.ptr _ _|.dptr _|.ns|.rs _ _ _=>true
 |_=>false
def stS(σ:St)(m:Nat)(addr x:AV):Option St:=
 match addr with
 |.ptr r o=>match σ.obj r with
  |some (.cells cs)=>match x with
   |.d y=>if y.cells.length=m∧o+m≤cs.length then some (σ.setObj r (.cells (stD cs o y.cells)))else none
   |.own (.t s) e sz l=>if m=1∧o<cs.length then
    let σ1:=σ.erase (.c r o)
    let σ2:St:={ σ1 with ρ:=amap (AV.rename (.t s) (.c r o)) σ1.ρ }
    match σ2.obj r with
    |some (.cells cs2)=>some (σ2.setObj r (.cells (cs2.set o (.own (.c r o) e sz l))))
    |_=>none
    else none
   |.ns=>if m=1∧o<cs.length then some (σ.setObj r (.cells (cs.set o .ns)))else none
   |.own (.c _ _) _ _ l=>if m=1∧o<cs.length then some (σ.setObj r (.cells (cs.set o (.d (.list l)))))else none
   |.ptr r' o'=>if m=1∧o<cs.length∧(isLocal r=true∨isLocal r'=false)then some (σ.setObj r (.cells (cs.set o (.ptr r' o'))))else none
   |.rs r' n' c'=>if m=1∧o<cs.length∧(isLocal r=true∨isLocal r'=false)then some (σ.setObj r (.cells (cs.set o (.rs r' n' c'))))else none
   |.sx xs=>if xs.length=m∧o+m≤cs.length∧isLocal r=true∧xs.all z9f=true then some (σ.setObj r (.cells (setA cs o xs)))else none
   |_=>none
  |_=>none
 |_=>none
def nsD:D→AV
 |.list []=>.ns
 |.nilpT e=>.nt e
 |x=>.d x
def tagD(e:TypeId):D→D
 |.nilp=>.nilpT e
 |x=>x
def newO(σ:St)(d:Nat)(cs:List D):St:=((σ.drop d).setObj (.l d) (.cells (cs.map nsD))).put d (.ptr (.l d) 0)
def newB(σ:St)(d:Nat)(cs:List D):St:=((σ.drop d).setObj (.l d) (.cells (cs.map .d))).put d (.ptr (.l d) 0)
def srcL(str:Bool)(sz:Nat):AV→Option (List D)
 |.d (.str s)=>if str&&sz==1 then some (q0v s)else none
 |x=>if str then none else match x.rd with
  |some (.list ys)=>if q8C sz ys then some ys else none
  |_=>none
def appS(σ:St)(d e sz bytes:Nat)(str:Bool)(s x:AV):Option St:=
 match s,srcL str sz x with
 |.own q e' sz' l,some ys=>if e'=e∧sz'=sz∧l.length+ys.length≤140737488355327∧(l.length+ys.length)*bytes≤140737488355328 then
  some (((σ.erase q).erase (.t d)).put d (.own (.t d) e sz (l++ys)))else none
 |.ns,some ys=>if ys.length≤140737488355327∧ys.length*bytes≤140737488355328 then
  some ((σ.erase (.t d)).put d (.own (.t d) e sz ys))else none
 |_,_=>none
def bslS(σ:St)(d e sz:Nat)(xs:List AV):Option St:=
 match q5N xs with
 |some l=>if q8C sz l∧xs.length*sz≤16777216∧sz≠0 then some ((σ.erase (.t d)).put d (.own (.t d) e sz l))else none
 |none=>none
def slaS(σ:St)(d len:Nat)(A:AV)(lo hi:Option AV):Option St:=
 match A with
 |.ptr (.l s) 0=>match aget σ.L s with
  |some (.cells cs)=>match rdL cs,loOf lo,hiOf len hi with
   |some ds,some i,some j=>if ds.length=len∧ds.all D.one=true∧0≤i∧i≤j∧j≤len then some (St.put { σ with L:=adel σ.L s } d (.d (.list (cutI ds i j))))else none
   |_,_,_=>none
  |_=>none
 |_=>none
def putV(σ:St)(d:Nat)(x:Option AV):Option St:=
 match x with
 |some x=>some (σ.put d x)
 |none=>none
def dnsL:List AV→Bool
 |[]=>true
 |.d _::r|.ns::r=>dnsL r
 |_::_=>false
def boxS(σ:St)(d:Nat)(x:AV):Option St:=
 match x with
 |.sx cs=>if dnsL cs then some (((σ.drop d).setObj (.l d) (.cells cs)).put d (.ptr (.l d) 0))else none
 |x=>match x.rd with
  |some y=>some (newB σ d y.cells)
  |none=>none
def q90(σ:St)(d:Nat):LO→Option St
 |.val v=>putV σ d (pev σ v)
 |.asg x=>some (asgS σ d (σ.ev x))
 |.nils e sz=>some (nilS σ d e sz)
 |.box x=>boxS σ d (σ.ev x)
 |.allo z=>some (newO σ d z)
 |.app e sz bytes str s x=>appS σ d e sz bytes str (σ.ev s) (σ.ev x)
 |.bsl e sz parts=>bslS σ d e sz (evL σ parts)
 |.sla len x lo hi=>slaS σ d len (σ.ev x) (evO σ lo) (evO σ hi)
 |_=>none
def j5e(σ:St):LO→Option St
 |.st m addr x=>stS σ m (σ.ev addr) (σ.ev x)
 |_=>none
def step1(σ:St)(dst:Option Nat)(op:LO):Option St:=
 match dst with
 |some d=>q90 σ d op
 |none=>j5e σ op
/-! ### Reading off -/
def q45(P:Program)(t:TypeId):Option (TypeId×Nat×Nat):=
 match P.underlying t with
 |some (.slice e)=>match P.info? e with
  |some ti=>some (e,ti.size,ti.bytes)
  |none=>none
 |_=>none
def q3g(P:Program)(e:TypeId):Bool:=
 match P.info? e with
 |some ti=>match ti.zero with
  |some z=>z.cells.size==ti.size
  |none=>false
 |none=>false
def z0f:Operand→Option LX
 |.const (.slice none 0 0)=>some (.k .ns)
 |o=>q1o o
def z13(P:Program)(t tx:TypeId)(s x:Operand):Option LO:=
 match q45 P t,z0f s,q1o x with
 |some (e,sz,bytes),some s,some x=>if q3g P e then(match P.underlying tx with
  |some (.slice _)=>some (.app e sz bytes false s x)
  |some .string=>some (.app e sz bytes true s x)
  |_=>none)else none
 |_,_,_=>none
def q2m(P:Program):List Operand→List TypeId→Option LO
 |[s,x],[t,tx]=>z13 P t tx s x
 |_,_=>none
def q5V(P:Program)(f:FuncId):Bool:=
 match P.funcs[f]? with
 | some fn => !(fn.name == "runtime.NumGoroutine") && fn.body.isSome
 |none=>false
def z0B:Nat→List (Nat×Operand)→Bool
 |_,[]=>true
 |k,(i,_)::r=>i==k&&z0B (k+1) r
def q5Z(P:Program)(o:Oper):Option LO:=
 match o.op with
 |.assign x=>match x with
  |.const (.slice none 0 0)=>match q45 P o.type with
   |some (e,sz,_)=>some (.nils e sz)
   |none=>none
  |x=>(q1o x).map .asg
 |.store t addr x=>match Program.sz P t,q1o addr,z0f x with
  |some m,some addr,some x=>some (.st m addr x)
  |_,_,_=>none
 |.box _ x=>(q1o x).map .box
 |.alloc e=>match Program.zeroOf P e with
  |some z=>some (.allo (z.cells.map (tagD e)))
  |none=>none
 |.call { callee:=.builtin .append,args,argTypes }=>q2m P args.toList argTypes.toList
 |.call { callee:=.value (.func f),args,.. }=>if q5V P f then(q2x args.toList).map (.call f)else none
 |.buildSlice t len parts=>match q45 P t,q2x (parts.toList.map (·.2))with
  |some (e,sz,_),some l=>if z0B 0 parts.toList&&parts.size==len&&q3g P e then some (.bsl e sz l)else none
  |_,_=>none
 |.slice t x lo hi none=>match P.underlying t with
  |some (.array len e)=>match Program.sz P e,q1o x,z6T lo,z6T hi with
   |some 1,some x,some lo,some hi=>some (.sla len x lo hi)
   |_,_,_,_=>none
  |_=>(q5z P t x lo hi).map .val
 |op=>(j2w P op).map .val
variable {E:Entry} {n:Nat} {G:q0s} {σ σ':St} {a:Act} {w:World} {P:Program}
def Does(P:Program)(E:Entry)(n:Nat)(a:Act)(w:World)(o:Oper)(σ':St):Prop:=
 ∃nx v w' G',(execOp a.eval o).run P w=.ok nx w'∧(nx=.value v∨nx=.skip∧v=undef)∧SR E n G' σ' (a.put o.dst v).tmps w'
theorem Does.mk{o:Oper}{d:Nat}{s:Sem Value}(hd:o.dst=some d)(he:execOp a.eval o=(do pure (.value (←s)))){v:Value}{w':World}{G':q0s}(hs:s.run P w=.ok v w')(h:SR E n G' σ' (a.tmps.setIfInBounds d v) w'):Does P E n a w o σ':=
 ⟨.value v,v,w',G',by rw[he];simp[hs],.inl rfl,by simpa[Act.put,hd]using h⟩
theorem j3g(h:SR E n G σ a.tmps w){o:Oper}{d:Nat}(hd:o.dst=some d)(hn:d<n){x:Operand}{x':LX}(ho:o.op=.assign x)(hx:q1o x=some x'):Does P E n a w o (asgS σ d (σ.ev x')):=by
 have he:execOp a.eval o=pure (.value (a.eval x)):=by simp only[execOp,ho]
 have rx:=h.ev hx;have fin:∀{σ' G'},SR E n G' σ' (a.tmps.setIfInBounds d (a.eval x)) w→Does P E n a w o σ':=fun hs=>⟨_,_,w,_,by rw[he];rfl,.inl rfl,by simpa[Act.put,hd]using hs⟩
 unfold asgS;split
 ·rename_i y s e sz l hy;have rx0:=rx;rw[hy]at rx;split
  ·exact fin (h.put rx0 hn)
  ·rename_i hne;have h1:=h.erase (.t d);have rx1:AVR _ w (.own (.t s) e sz l) (a.eval x):=rx.q6o (q:=.t d) (fun q' hq=>by simp[AV.lab?]at hq;rw[←hq];simpa using hne);have h2:=h1.rename s (.t d) (by simp);have rx2:=rx1.rename s (.t d) (by simp);simp only[AV.rename,if_true]at rx2;exact fin (h2.put rx2 hn)
 ·exact fin (h.put rx hn)
theorem j4y(h:SR E n G σ a.tmps w){o:Oper}{d e sz:Nat}(hd:o.dst=some d)(hn:d<n)(ho:o.op=.assign (.const (.slice none 0 0))):Does P E n a w o (nilS σ d e sz):=by
 have he:execOp a.eval o=pure (.value (.slice none 0 0)):=by simp only[execOp,ho];rfl
 have h1:=h.erase (.t d);have hOK:z3F G.f w (.slice none 0 0) e sz:=⟨0,[],World.ownsRow_nil w 0 e sz,fun b hb=>by simp[Value.ownBlock]at hb⟩;have h2:=h1.z7C (.t d) (by simp) (v:=.slice none 0 0) (e:=e) (sz:=sz) hOK (fun b hb=>by simp[Value.ownBlock]at hb);have h3:=h2.put (s:=d) (x:=.own (.t d) e sz []) (v:=.slice none 0 0) (.own _ _ _ _ _ (by simp) .nils (fun _ h=>by simp at h)) hn;exact⟨_,_,w,_,by rw[he];rfl,.inl rfl,by simpa[Act.put,hd,nilS]using h3⟩
theorem SR.evs(h:SR E n G σ a.tmps w){o:Operand}{x:LX}(hx:z0f o=some x):AVR G w (σ.ev x) (a.eval o):=by
 unfold z0f at hx;split at hx
 ·cases hx;exact .ns
 ·exact h.ev hx
theorem z2a(h:SR E n G σ a.tmps w){d e:Nat}(hn:d<n){cs:List AV}{arr:Array Value}(hl:arr.size=cs.length)(hc:∀(G':q0s) (w':World),Ext G.f w G'.f w'→∀(i:Nat) (x:AV),cs[i]?=some x→AVR G' w' x (arr.getD i undef)∧(arr.getD i undef).oneCell'=true∧x.lab?=none∧∀e',x=.nt e'→e'=e):
  ∃G',SR E n G' (((σ.drop d).setObj (.l d) (.cells cs)).put d (.ptr (.l d) 0)) (a.tmps.setIfInBounds d (.pointer (some (at_ w.heap.size 0)))) (w.alloc (.cells arr e)):=by
 have h1:=(h.drop d).alloc (.cells arr e) 0;have hf0:∀b,updf G.f w.heap.size 0 b=G.f b:=fun b=>by
  by_cases e:b=w.heap.size
  ·rw[e,q03,h.top _ (Zak _)]
  ·exact q0J _ _ e
 have hlt:∀r o,(σ.drop d).obj r=some o→G.b r<w.heap.size:=fun r o ho=>((h.drop d).obj r o ho).lt
 have hρ:∀t x,aget (σ.drop d).ρ t=some x→x.has (.l d)=false:=fun t x hx=>by
  simp only[St.drop,q0G]at hx;cases hy:aget σ.ρ t with
  |none=>simp[hy]at hx
  |some y=>simp[hy]at hx;subst hx;exact AV.q2Q _ _
 have hL:∀t cs x,aget (σ.drop d).L t=some (.cells cs)→x∈cs→x.has (.l d)=false:=fun t cs x hx hm=>by
  simp only[St.drop,q0G]at hx;cases hy:aget σ.L t with
  |none=>simp[hy]at hx
  |some y=>
   simp[hy]at hx;cases y with
   |siter s p=>simp[q0P]at hx
   |miter l c=>simp[q0P]at hx
   |mobj l c=>simp[q0P]at hx
   |cells cs'=>simp[q0P]at hx;subst hx;obtain⟨y,_,rfl⟩:=Zat.1 hm;exact AV.q2Q _ _
 have hext:Ext G.f w (updf G.f w.heap.size 0) (w.alloc (.cells arr e)):=Ext.alloc w h.top _ 0;have h2:=h1.j0Z d w.heap.size (.cells cs) hρ hL (by show updf G.f w.heap.size 0 w.heap.size=0;simp) (fun r o ho=>by have:=hlt r o ho;exact fun e'=>by have e'':G.b r=w.heap.size:=e';omega)
  (fun q v p hq hb=>by obtain⟨e1,s1⟩:=p;have:=(h.lam q v e1 s1 hq).lt hb;omega) h.ext.size
  ⟨arr,e,by show(w.alloc _).heap[updf G.b (.l d) w.heap.size (.l d)]?=_;rw[q03];exact q1x w _,hl,fun i x hi=>by
    obtain⟨g1,g2,g3,g4⟩:=hc { f:=updf G.f w.heap.size 0,b:=updf G.b (.l d) w.heap.size,lam:=G.lam } _ hext i x hi;exact⟨g1,g2,fun q hq=>(by rw[g3]at hq;cases hq),g4⟩⟩
 have h3:=h2.put (s:=d) (x:=.ptr (.l d) 0) (v:=.pointer (some (at_ w.heap.size 0))) (by
  have:=AVR.ptr (G:={ f:=updf G.f w.heap.size 0,b:=updf G.b (.l d) w.heap.size,lam:=G.lam }) (w:=w.alloc (.cells arr e)) (.l d) 0;simpa using this) hn
 exact⟨_,h3⟩
theorem j2A(h:SR E n G σ a.tmps w){d e:Nat}(hn:d<n){cs:List D}{arr:Array Value}(hc:q8L G.f w cs arr):
  ∃G',SR E n G' (newB σ d cs) (a.tmps.setIfInBounds d (.pointer (some (at_ w.heap.size 0)))) (w.alloc (.cells arr e)):=
 z2a h hn (by simp[hc.1]) fun G' w' hx i x hi=>by
  simp only[Zan]at hi;cases hy:cs[i]? with
  |none=>simp[hy]at hi
  |some y=>
   simp[hy]at hi;subst hi;obtain⟨o1,r1⟩:=hc.2 i y hy;exact⟨.d _ _ (r1.ext hx),(r1.one o1).1,rfl,fun _ e=>by cases e⟩
theorem j2B(h:SR E n G σ a.tmps w){d e:Nat}(hn:d<n){cs:List D}{arr:Array Value}(hc:q8L G.f w cs arr)(hz:∀i:Nat,cs[i]?=some (.list [])→arr.getD i undef=.slice none 0 0)(ht:∀(i:Nat) (e':TypeId),cs[i]?=some (.nilpT e')→e'=e):
  ∃G',SR E n G' (newO σ d cs) (a.tmps.setIfInBounds d (.pointer (some (at_ w.heap.size 0)))) (w.alloc (.cells arr e)):=
 z2a h hn (by simp[hc.1]) fun G' w' hx i x hi=>by
  simp only[Zan]at hi;cases hy:cs[i]? with
  |none=>simp[hy]at hi
  |some y=>
   simp[hy]at hi;subst hi;obtain⟨o1,r1⟩:=hc.2 i y hy;unfold nsD;split
   ·rw[hz i hy];exact⟨.ns,rfl,rfl,fun _ e=>by cases e⟩
   ·rename_i e';refine⟨?_,(r1.one o1).1,rfl,fun e2 h2=>by cases h2;exact ht i e' hy⟩;generalize arr.getD i undef=u at r1;cases r1;exact .nt _
   ·exact⟨.d _ _ (r1.ext hx),(r1.one o1).1,rfl,fun _ e=>by cases e⟩
theorem z5J{v:Value}{e:TypeId}(h:cst1 v=some (.nilpT e)):False:=by
 unfold cst1 at h;split at h<;>cases h
theorem j3x{v:Value}{x:D}{e:TypeId}(h:cst v=some x)(hi:D.nilpT e∈x.cells):False:=by
 have hL:∀{vs:List Value} {l:List D},cstL vs=some l→D.nilpT e∈l→False:=fun{vs}=>by
  induction vs with
  |nil=>intro l hl hm;simp[cstL]at hl;subst hl;simp at hm
  |cons v vs ih=>
   intro l hl hm;simp only[cstL]at hl;split at hl
   ·rename_i x r hx hr;cases hl;rcases Zba.1 hm with h|h
    ·subst h;exact z5J hx
    ·exact ih hr h
   ·cases hl
 unfold cst at h;split at h
 ·obtain⟨y,_,rfl⟩:=Zbf.1 h;simp[D.cells]at hi
 ·rename_i cs;obtain⟨l,hl,rfl⟩:=Zbf.1 h;exact hL hl hi
 ·have hx:x.cells=[x]:=by
   unfold cst1 at h;split at h<;>first|(cases h;rfl)|(cases h)
  rw[hx]at hi;simp at hi;subst hi;exact z5J h
theorem j3l(h:SR E n G σ a.tmps w){o:Oper}{d e:Nat}(hd:o.dst=some d)(hn:d<n){x:Operand}{x':LX}(ho:o.op=.box e x)(hx:q1o x=some x')(hs:boxS σ d (σ.ev x')=some σ'):Does P E n a w o σ':=by
 unfold boxS at hs;split at hs
 ·rename_i cs hcs;split at hs
  ·rename_i hd1;cases hs;have hmem:∀{cs:List AV},dnsL cs=true→∀x∈cs,(∃y,x=.d y)∨x=.ns:=fun{cs}=>by
    induction cs with
    |nil=>intro _ x hx;cases hx
    |cons y cs ih=>
     intro hc x hx;cases y<;>simp[dnsL]at hc
     ·rcases Zba.1 hx with rfl|hx
      ·exact .inl ⟨_,rfl⟩
      ·exact ih hc x hx
     ·rcases Zba.1 hx with rfl|hx
      ·exact .inr rfl
      ·exact ih hc x hx
   have rx:=h.ev hx;rw[hcs]at rx;generalize hv:a.eval x=v at rx;cases rx with
   |sx _ vs hl hsim hoc hh=>
    obtain⟨G',h1⟩:=z2a (e:=e) h hn (cs:=cs) (arr:=vs) hl (fun G2 w2 hx2 i y hi=>by
     have hlt:=(Zac.1 hi).1;have h3:=hh i y hi;rcases hmem hd1 y (Zaf hi)with⟨z,rfl⟩|rfl
     ·exact⟨.d _ _ (h3.dinv.ext hx2),hoc i hlt,rfl,fun _ e=>by cases e⟩
     ·refine⟨?_,hoc i hlt,rfl,fun _ e=>by cases e⟩;generalize vs.getD i undef=u at h3;cases h3;exact .ns)
    refine Does.mk (s:=Instr.box e (a.eval x)) hd (by simp only[execOp,ho]) ?_ h1;simp[Instr.box,newVar,newRow,at_,hv,Value.cells]
  ·cases hs
 split at hs
 ·rename_i y hy;cases hs;have rx:=(h.ev hx).rd hy;obtain⟨G',h1⟩:=j2A (e:=e) h hn (cs:=y.cells) (arr:=(a.eval x).cells) ⟨rx.q2I,fun i z hz=>⟨rx.flat z (Zaf hz),rx.cell hz⟩⟩;refine Does.mk (s:=Instr.box e (a.eval x)) hd (by simp only[execOp,ho]) ?_ h1;simp[Instr.box,newVar,newRow,at_]
 ·cases hs
theorem j14(h:SR E n G σ a.tmps w){o:Oper}{d e:Nat}(hd:o.dst=some d)(hn:d<n){z:D}(ho:o.op=.alloc e)(hz:Program.zeroOf P e=some z):Does P E n a w o (newO σ d (z.cells.map (tagD e))):=by
 unfold Program.zeroOf at hz;cases hi:P.info? e with
 |none=>simp[hi]at hz
 |some ti=>
  cases hzv:ti.zero with
  |none=>simp[hi,hzv]at hz
  |some zv=>
   simp[hi,hzv]at hz;have rx:RD G.f w z zv:=z0b hz;obtain⟨G',h1⟩:=j2B (e:=e) h hn (cs:=z.cells.map (tagD e)) (arr:=zv.cells) ⟨by simpa using rx.q2I,fun i y hy=>by
    rw[Zan]at hy;obtain⟨y0,hy0,rfl⟩:=Zbf.1 hy;have q1:=rx.flat y0 (Zaf hy0);have q2:=rx.cell hy0;cases y0<;>first|exact⟨q1,q2⟩|skip
    refine⟨rfl,?_⟩;simp only[tagD];generalize zv.cells.getD i undef=u at q2;cases q2;exact .nilpT _⟩ (fun i hi=>by
    rw[Zan]at hi;obtain⟨y0,hy0,he⟩:=Zbf.1 hi;have:y0=.list []:=by cases y0<;>simp[tagD]at he ⊢;exact he
    exact z9J hz (by rw[←this];exact hy0)) (fun i e' hi=>by
    rw[Zan]at hi;obtain⟨y0,hy0,he⟩:=Zbf.1 hi;cases y0<;>simp[tagD]at he
    ·exact he.symm
    ·exfalso
     have hm:=Zaf hy0;exact j3x hz hm)
   refine Does.mk (s:=Instr.alloc e true (.tuple #[])) hd (by simp only[execOp,ho]) ?_ h1;simp[Instr.alloc,zeroValue,typeInfo,hi,hzv,newVar,newRow,at_]
theorem z1j(σ:St)(d:Nat):(σ.erase (.t d)).erase (.t d)=σ.erase (.t d):=by
 have:∀l:List (Nat×AV),amap (AV.erase (.t d)) (amap (AV.erase (.t d)) l)=amap (AV.erase (.t d)) l:=fun l=>by
  induction l with
  |nil=>rfl
  |cons p r ih=>
   obtain⟨k,x⟩:=p;simp only[amap,ih];congr 2
   cases x<;>try rfl
   rename_i q e sz l
   by_cases h:q=.t d<;>simp[AV.erase,h]
 simp only[St.erase,this]
theorem z7I(h:SR E n G σ a.tmps w){o:Oper}{d:Nat}(hd:o.dst=some d)(hn:d<n){as:Array Operand}{ts:Array TypeId}{op:LO}(ho:o.op=.call { callee:=.builtin .append,args:=as,argTypes:=ts })(hl:q2m P as.toList ts.toList=some op)
  (hs:q90 σ d op=some σ'):Does P E n a w o σ':=by
 unfold q2m at hl;split at hl
 case h_2=>cases hl
 rename_i s x t tx ea et;have ea':as = #[s,x]:=by apply Zcl;exact ea
 have et':ts = #[t,tx]:=by apply Zcl;exact et
 subst ea';subst et';unfold z13 at hl;split at hl
 ·rename_i e sz bytes s' x' hsl hs' hx';split at hl
  ·rename_i hz
   -- the element's type
   unfold q45 at hsl;split at hsl
   ·rename_i e0 ht;split at hsl
    ·rename_i ti hi;simp at hsl;obtain⟨he0,hs0,hb0⟩:=hsl;subst hs0;subst hb0;subst he0;unfold q3g at hz;rw[hi]at hz;simp only at hz;cases hzv:ti.zero with
     |none=>simp[hzv]at hz
     |some z=>
      simp[hzv]at hz;have rs:=h.evs hs';have rx:=h.ev hx'
      have key:∀str,appS σ d e0 ti.size ti.bytes str (σ.ev s') (σ.ev x')=some σ'→(if str then P.underlying tx=some .string else ∃e',P.underlying tx=some (.slice e'))→Does P E n a w o σ':=fun str hap hk=>by
       -- what is appended
       have hsd:∀ys,srcL str ti.size (σ.ev x')=some ys→∃news,SrcD P G.f w ti.size tx (a.eval x) ys news:=by
        intro ys hsrc;unfold srcL at hsrc;split at hsrc
        ·rename_i bs hxs;split at hsrc
         ·rename_i hst;cases hsrc;simp at hst;obtain⟨rfl,hs1⟩:=hst;rw[hxs]at rx;simp at hk;rw[hs1];exact SrcD.ofStr hk rx.dinv
         ·cases hsrc
        ·split at hsrc
         ·cases hsrc
         ·rename_i hst;split at hsrc
          ·rename_i ys' hys;split at hsrc
           ·rename_i hsz';cases hsrc;simp[hst]at hk;obtain⟨e'',hk⟩:=hk;exact SrcD.ofList hk (rx.rd hys) (q82.1 hsz')
           ·cases hsrc
          ·cases hsrc
       unfold appS at hap;split at hap
       ·rename_i q e' sz' l ys hs1 hsrc;split at hap
        ·rename_i hb;obtain⟨rfl,rfl,hb1,hb2⟩:=hb;cases hap;rw[hs1]at rs;cases rs with|own _ _ _ _ v hq hv hsz=>?_;obtain⟨k,xs,hown,hfb⟩:=h.lam q _ _ _ hq;have hkl:=z69 hv hown;obtain⟨news,hsd⟩:=hsd _ hsrc;obtain⟨v',w',hr,ho',hg⟩:=z1B w t tx o.type e' ti z ht hi hzv hz (a.eval s) k xs hown (a.eval x) ys.length news hsd.src (by rw[hkl];simp[maxLen];omega) (by rw[hkl];exact hb2);obtain⟨G',h1,h2⟩:=h.append (q':=.t d) hq hv hsz hown hfb ho' hg hsd.cells hsd.rd hsd.src.newsLen
         exact Does.mk (s:=Builtin.append_ #[t,tx] o.type #[a.eval s,a.eval x]) hd (by simp[execOp,ho,resolve,invoke,builtin]) hr (h1.put h2 hn)
        ·cases hap
       ·rename_i ys hs1 hsrc;split at hap
        ·rename_i hb;obtain⟨hb1,hb2⟩:=hb;cases hap;rw[hs1]at rs;have hval:a.eval s=.slice none 0 0:=by
          generalize a.eval s=u at rs;cases rs;rfl
         have h1:=h.erase (.t d);have hOK:z3F G.f w (.slice none 0 0) e0 ti.size:=⟨0,[],World.ownsRow_nil w 0 e0 ti.size,fun b hb=>by simp[Value.ownBlock]at hb⟩;have h2:=h1.z7C (.t d) (by simp) (v:=.slice none 0 0) (e:=e0) (sz:=ti.size) hOK (fun b hb=>by simp[Value.ownBlock]at hb);obtain⟨k,xs,hown,hfb⟩:=h2.lam (.t d) (.slice none 0 0) e0 ti.size (by simp);have hkl:=z69 (l:=[]) (f:=G.f) (w:=w) .nils hown;obtain⟨news,hsd⟩:=hsd _ hsrc
         obtain⟨v',w',hr,ho',hg⟩:=z1B w t tx o.type e0 ti z ht hi hzv hz (.slice none 0 0) k xs hown (a.eval x) ys.length news hsd.src (by rw[hkl];simp[maxLen];omega) (by rw[hkl];simpa using hb2);obtain⟨G',h3,h4⟩:=h2.append (q:=.t d) (q':=.t d) (by simp) .nils (fun _ h=>by simp at h) hown hfb ho' hg hsd.cells hsd.rd hsd.src.newsLen;rw[z1j,z1j]at h3;simp only[Zbj]at h4;rw[←hval]at hr
         exact Does.mk (s:=Builtin.append_ #[t,tx] o.type #[a.eval s,a.eval x]) hd (by simp[execOp,ho,resolve,invoke,builtin]) hr (h3.put h4 hn)
        ·cases hap
       ·cases hap
      split at hl
      ·rename_i e' hk;cases hl;exact key false hs ⟨e',hk⟩
      ·rename_i hk;cases hl;exact key true hs hk
      ·cases hl
    ·cases hsl
   ·cases hsl
  ·cases hl
 ·cases hl
/-! ### A part of an array variable -/
theorem SR.freeze(h:SR E n G σ a.tmps w){s:Nat}{cs:List AV}(ho:aget σ.L s=some (.cells cs)):SR E n { G with f:=updf G.f (G.b (.l s)) cs.length } { σ with L:=adel σ.L s } a.tmps w:=by
 have ho':σ.obj (.l s)=some (.cells cs):=ho;have hwk:Wk { σ with L:=adel σ.L s } σ:=⟨fun _ _ h=>h,fun r o hr=>by
  cases r with
  |l t=>
   simp only[St.obj,q0O]at hr;split at hr
   ·cases hr
   ·exact hr
  |x k=>exact hr⟩
 have h1:=h.wk hwk;have hf0:G.f (G.b (.l s))=0:=h.objf _ _ ho';have hlt:=(h.obj _ _ ho').lt;refine h1.z0m (fun b=>b=G.b (.l s)) (fun b hb=>?_) ⟨Zak _,fun b=>?_,fun b i hi=>rfl,fun _ _ _ _ h=>h⟩ (fun b hb hx=>⟨rfl,q0J _ _ hx⟩) (fun b hb=>?_) rfl rfl rfl
 ·subst hb;refine⟨fun r o hr e=>?_,fun q v p hq hv=>?_,h.newObj _ _ ho'⟩
  ·have:=h.inj r (.l s) o _ (hwk.obj r o hr) ho' e;subst this;simp[St.obj,q0O]at hr
  ·obtain⟨e,sz⟩:=p;exact h.lamObj q v e sz _ hq hv _ _ ho' rfl
 ·by_cases e:b=G.b (.l s)
  ·rw[e,hf0];exact Zay _
  ·rw[q0J _ _ e];exact Zak _
 ·have:b≠G.b (.l s):=fun e=>by rw[e]at hb;omega
  rw[q0J _ _ this];exact h.top b hb
theorem j5d(h:SR E n G σ a.tmps w){o:Oper}{d:Nat}(hd:o.dst=some d)(hn:d<n){t:TypeId}{x:Operand}{lo hi:Option Operand}(ho:o.op=.slice t x lo hi none){len e:Nat}(ht:P.underlying t=some (.array len e))(hsz:Program.sz P e=some 1)
  {x':LX} {lo' hi':Option LX} (hx:q1o x=some x') (hlo:z6T lo=some lo') (hhi:z6T hi=some hi') (hs:slaS σ d len (σ.ev x') (evO σ lo') (evO σ hi')=some σ'):Does P E n a w o σ':=by
 unfold slaS at hs;have rx:=h.ev hx;have rl:=q7G h hlo;have rh:=q7G h hhi;split at hs
 ·rename_i s hxs;split at hs
  ·rename_i cs hcs;split at hs
   ·rename_i ds i j hr hi' hj;split at hs
    ·rename_i hb;obtain⟨b0,b1,b2,b3,b4⟩:=hb;cases hs;rw[hxs]at rx;have hax:a.eval x=.pointer (some (at_ (G.b (.l s)) 0)):=by
      generalize a.eval x=u at rx;cases rx;rfl
     have h1:=h.freeze hcs;obtain⟨arr,el,g1,g2,g3⟩:=h.obj (.l s) _ (show σ.obj (.l s)=some (.cells cs)from hcs);obtain⟨k1,k2⟩:=z7c hr;have hext:Ext G.f w (updf G.f (G.b (.l s)) cs.length) w:=⟨Zak _,fun b=>by
      by_cases e:b=G.b (.l s)
      ·rw[e,h.objf _ _ (show σ.obj (.l s)=some (.cells cs)from hcs)];exact Zay _
      ·rw[q0J _ _ e];exact Zak _,fun b i hi=>rfl,fun _ _ _ _ h=>h⟩
     have hone:∀y∈ds,y.cells=[y]∧y.one=true:=fun y hy=>by
      have:=Zbh.1 b1 y hy;cases y<;>first|exact⟨rfl,rfl⟩|(simp[D.one]at this)
     have hrd:RD (updf G.f (G.b (.l s)) cs.length) w (.list ds) (.slice (some (at_ (G.b (.l s)) 0)) ds.length len):=by
      refine .list ds (G.b (.l s)) 0 len 1 (fun k=>arr.getD k undef) (by omega) (fun y hy=>?_) ?_ (fun k hk=>?_) (fun i' y j' z hy hz=>?_)
      ·obtain⟨c1,c2⟩:=hone y hy;refine⟨by rw[c1];rfl,fun z hz=>?_⟩;rw[c1]at hz;simp at hz;subst hz;exact c2
      ·simp[k1]
      ·rw[Zbg,cell_of_heap g1];have:k<arr.size:=by rw[g2,k1];omega
       simp[this]
      ·obtain⟨c1,_⟩:=hone y (Zaf hy);rw[c1]at hz;have hj0:j'=0:=by cases j'<;>simp_all
       subst hj0;simp at hz;subst hz;obtain⟨xa,hxa,hrd⟩:=k2 i' y hy;obtain⟨c1,_,_⟩:=g3 i' xa hxa;simpa using(c1.rd hrd).ext hext
     have hszall:∀y∈ds,y.cells.length=1:=fun y hy=>by rw[(hone y hy).1];rfl
     have hsz':∃ti,P.info? e=some ti∧ti.size=1:=by
      unfold Program.sz at hsz;cases hti:P.info? e with
      |none=>simp[hti]at hsz
      |some ti=>simp[hti]at hsz;exact⟨ti,rfl,hsz⟩
     obtain⟨ti,hti,hti1⟩:=hsz';have hcut:RD (updf G.f (G.b (.l s)) cs.length) w (.list (cutI ds i j)) (.slice (some (if len=i.toNat then at_ (G.b (.l s)) 0 else(at_ (G.b (.l s)) 0).add (i.toNat * 1))) (j.toNat-i.toNat) (len-i.toNat)):=by
      by_cases hc0:len=i.toNat
      ·have e1:j.toNat-i.toNat=0:=by omega
       have e2:cutI ds i j=[]:=Zbl (by rw[z6A (l:=ds) (i:=i) (j:=j) (by omega)];exact e1);rw[if_pos hc0,e1,e2];exact .list [] _ _ _ 0 (fun _=>undef) (Zay _) (fun _ h=>by simp at h) (by simp) (fun k hk=>by simp at hk) (fun _ _ _ _ h=>by simp at h)
      ·rw[if_neg hc0];rw[q5x];exact RD.cut hrd hszall b2 b3 (by omega) (len-i.toNat) (by omega)
     have run:(Instr.sliceAt t (a.eval x) (lo.map a.eval) (hi.map a.eval) none).run P w=.ok (.slice (some (if len=i.toNat then at_ (G.b (.l s)) 0 else(at_ (G.b (.l s)) 0).add (i.toNat * 1))) (j.toNat-i.toNat) (len-i.toNat)) w:=by
      rw[hax];rcases z6Y rl hi' with⟨e1,rfl⟩|⟨k1,e1⟩<;>rcases z3l rh hj with⟨e2,rfl⟩|⟨k2,e2⟩<;>rw[e1,e2]
      ·simp[Instr.sliceAt,Instr.sureAddr,run_underlying ht,Instr.sliceBounds,sizeOf,typeInfo,hti]
      ·have g:=q0y (P:=P) k2 j len .sliceAlen (by omega) (by omega) w;simp[Instr.sliceAt,Instr.sureAddr,run_underlying ht,Instr.sliceBounds,g,sizeOf,typeInfo,hti]
      ·have g:=q0y (P:=P) k1 i len .sliceB b2 b3 w;simp[Instr.sliceAt,Instr.sureAddr,run_underlying ht,Instr.sliceBounds,g,sizeOf,typeInfo,hti,hti1]
      ·have g:=q0y (P:=P) k2 j len .sliceAlen (by omega) (by omega) w;have g2:=q0y (P:=P) k1 i j.toNat .sliceB b2 (by omega) w;simp[Instr.sliceAt,Instr.sureAddr,run_underlying ht,Instr.sliceBounds,g,g2,sizeOf,typeInfo,hti,hti1]
     exact Does.mk (s:=Instr.sliceAt t (a.eval x) (lo.map a.eval) (hi.map a.eval) none) hd (by simp[execOp,ho]) run (h1.put (.d _ _ hcut) hn)
    ·cases hs
   ·cases hs
  ·cases hs
 ·cases hs
end Go.Av
/- Operations over abstract states that write or make memory, continued: literals of slices, stores. -/
namespace Go.Av
variable {E:Entry} {n:Nat} {G:q0s} {σ σ':St} {a:Act} {w:World} {P:Program}
theorem z0C:∀(k:Nat) (l:List (Nat×Operand)),z0B k l=true→l=((l.map (·.2)).zipIdx k).map fun p=>(p.2,p.1)
 |_,[],_=>rfl
 |k,(i,o)::r,h=>by
  simp only[z0B,Zah,beq_iff_eq]at h;have:=z0C (k+1) r h.2;simp only[Zbo,List.zipIdx_cons,h.1];congr 1
theorem q6H(a:Act):∀(k:Nat) (l:List Operand),(((l.zipIdx k).map fun p=>(p.2,p.1)).map fun p:Nat×Operand=>(p.1,a.eval p.2))=((l.map a.eval).zipIdx k).map fun p=>(p.2,p.1)
 |_,[]=>rfl
 |k,o::r=>by
  have:=q6H a (k+1) r;simp only[List.zipIdx_cons,Zbo,this]
theorem j3n(h:SR E n G σ a.tmps w){o:Oper}{d:Nat}(hd:o.dst=some d)(hn:d<n){t:TypeId}{len:Nat}{parts:Array (Nat×Operand)}(ho:o.op=.buildSlice t len parts){e sz by_:Nat}{l:List LX}(hsl:q45 P t=some (e,sz,by_))
  (hl:q2x (parts.toList.map (·.2))=some l) (hio:z0B 0 parts.toList=true) (hlen:parts.size=len) (hz:q3g P e=true) (hs:bslS σ d e sz (evL σ l)=some σ'):Does P E n a w o σ':=by
 unfold bslS at hs;split at hs
 ·rename_i ds hrd;split at hs
  ·rename_i hb;obtain⟨b1,b2,b3⟩:=hb;cases hs;unfold q45 at hsl;split at hsl
   ·rename_i e0 ht;split at hsl
    ·rename_i ti hi;simp at hsl;obtain⟨he0,hs0,hb0⟩:=hsl;subst hs0;subst hb0;subst he0;unfold q3g at hz;rw[hi]at hz;simp only at hz;cases hzv:ti.zero with
     |none=>simp[hzv]at hz
     |some z=>
      obtain⟨k1,k2⟩:=q4t h hl;have hvl:(evL σ l).length=((parts.toList.map (·.2)).map a.eval).length:=by rw[←k1];simp
      have hpl:((parts.toList.map (·.2)).map a.eval).length=len:=by simp[hlen]
      obtain⟨arr,r1,r2,r3,r4⟩:=j3m (P:=P) (G:=G) (w:=w) ht hi hzv rfl (xs:=evL σ l) (vs:=(parts.toList.map (·.2)).map a.eval) hvl
       (fun i x v hx hv=>by have:=k2 i x hx;rw[List.getD_eq_getElem?_getD,hv]at this;exact this) hrd b1 (by rw[←hvl];exact b2)
      have hparts:(parts.map fun(i,x)=>(i,a.eval x))=(((parts.toList.map (·.2)).map a.eval).zipIdx.map fun p=>(p.2,p.1)).toArray:=by
       apply Zcl;have e1:=z0C 0 parts.toList hio;simp only[Array.toList_map];rw[←q6H a 0 (parts.toList.map (·.2)),←e1]
      rw[hpl]at r1 r2 r3;have hlen24:len≤16777216:=by
       rw[hvl,hpl]at b2;exact Zbr (Nat.le_mul_of_pos_right len (Nat.pos_of_ne_zero b3)) b2
      have h1:=(h.erase (.t d)).alloc (.cells arr e0) (len*ti.size);have hext:Ext G.f w (updf G.f w.heap.size (len*ti.size)) (w.alloc (.cells arr e0)):=Ext.alloc w h.top _ _;have hnew:=q1x w (.cells arr e0);have hOK:z3F (updf G.f w.heap.size (len*ti.size)) (w.alloc (.cells arr e0)) (.slice (some (at_ w.heap.size 0)) len len) e0 ti.size:=
       ⟨len,arr.toList,⟨by rw[Array.length_toList];exact r2,.inr ⟨w.heap.size,len,arr,rfl,Zay _,hnew,Zak _,by unfold maxLen;omega,r2,by rw[←r2,←Array.length_toList];exact List.take_length⟩⟩,fun b hb=>by simp[Value.ownBlock,at_]at hb;subst hb;simp⟩
      have hobj:∀r o,(σ.erase (.t d)).obj r=some o→G.b r<w.heap.size:=fun r o ho=>((h.erase (.t d)).obj r o ho).lt
      have h2:=h1.z7C (.t d) (by simp) hOK (fun b hb=>by
       simp[Value.ownBlock,at_]at hb;subst hb;exact⟨fun r o ho=>by have:=hobj r o ho;exact fun e'=>by have e'':G.b r=w.heap.size:=e';omega,
        fun q' v' p hp hb'=>by
         obtain⟨e1,s1⟩:=p;have hp':updf G.lam (.t d) none q'=some (v',e1,s1):=hp;have:=(((h.erase (.t d)).lam q' v' e1 s1 hp').lt hb');omega,.inl h.ext.size⟩)
      have hds:∀y∈ds,y.cells.length=ti.size:=q82.1 b1;have hflat:∀(i:Nat) (y:D),ds[i]?=some y→y.flat:=fun i y hy e he=>by
       obtain⟨j,hj⟩:=Zbt.1 he;exact(r4 i y j e hy hj).1
      have hrd':RD (updf G.f w.heap.size (len*ti.size)) (w.alloc (.cells arr e0)) (.list ds) (.slice (some (at_ w.heap.size 0)) len len):=by
       have:=RD.list (f:=updf G.f w.heap.size (len*ti.size)) (w:=w.alloc (.cells arr e0)) ds w.heap.size 0 len ti.size (fun j=>arr.getD j undef) (by omega)
        (fun y hy=>by obtain⟨i,hi'⟩:=Zbt.1 hy;exact⟨hds y hy,hflat i y hi'⟩) (by rw[r3];simp) (fun k hk=>by
          rw[Zbg,cell_of_heap hnew];have hk':k<arr.size:=by rw[r2,←r3];exact hk
          simp[hk']) (fun i y j e hy he=>(r4 i y j e hy he).2.ext hext)
       rw[r3]at this;exact this
      have h3:=h2.put (s:=d) (x:=.own (.t d) e0 ti.size ds) (v:=.slice (some (at_ w.heap.size 0)) len len) (.own _ _ _ _ _ (by simp) hrd' hds) hn;refine Does.mk (s:=Instr.buildSlice t len (parts.map fun(i,x)=>(i,a.eval x))) hd (by simp only[execOp,ho]) ?_ h3;rw[hparts];exact r1
    ·cases hsl
   ·cases hsl
  ·cases hs
 ·cases hs
theorem j3o(h:SR E n G σ a.tmps w){o:Oper}{d:Nat}(hd:o.dst=some d)(hn:d<n){t:TypeId}{len:Nat}{parts:Array (Nat×Operand)}(ho:o.op=.buildSlice t len parts){e sz by_:Nat}{l:List LX}(hsl:q45 P t=some (e,sz,by_))
  (hl:q2x (parts.toList.map (·.2))=some l) (hio:z0B 0 parts.toList=true) (hlen:parts.size=len) (hz:q3g P e=true) {ds:List D} (hrd:q5N (evL σ l)=some ds) (hb:q8C sz ds=true∧(evL σ l).length*sz≤16777216∧sz≠0):Does P E n a w o (σ.put d (.d (.list ds))):=by
 · · obtain⟨b1,b2,b3⟩:=hb
     unfold q45 at hsl;split at hsl
     ·rename_i e0 ht;split at hsl
      ·rename_i ti hi;simp at hsl;obtain⟨he0,hs0,hb0⟩:=hsl;subst hs0;subst hb0;subst he0;unfold q3g at hz;rw[hi]at hz;simp only at hz;cases hzv:ti.zero with
       |none=>simp[hzv]at hz
       |some z=>
        obtain⟨k1,k2⟩:=q4t h hl;have hvl:(evL σ l).length=((parts.toList.map (·.2)).map a.eval).length:=by rw[←k1];simp
        have hpl:((parts.toList.map (·.2)).map a.eval).length=len:=by simp[hlen]
        obtain⟨arr,r1,r2,r3,r4⟩:=j3m (P:=P) (G:=G) (w:=w) ht hi hzv rfl (xs:=evL σ l) (vs:=(parts.toList.map (·.2)).map a.eval) hvl
         (fun i x v hx hv=>by have:=k2 i x hx;rw[List.getD_eq_getElem?_getD,hv]at this;exact this) hrd b1 (by rw[←hvl];exact b2)
        have hparts:(parts.map fun(i,x)=>(i,a.eval x))=(((parts.toList.map (·.2)).map a.eval).zipIdx.map fun p=>(p.2,p.1)).toArray:=by
         apply Zcl;have e1:=z0C 0 parts.toList hio;simp only[Array.toList_map];rw[←q6H a 0 (parts.toList.map (·.2)),←e1]
        rw[hpl]at r1 r2 r3;have hlen24:len≤16777216:=by
         rw[hvl,hpl]at b2;exact Zbr (Nat.le_mul_of_pos_right len (Nat.pos_of_ne_zero b3)) b2
        have h1:=h.alloc (.cells arr e0) (len*ti.size);have hext:Ext G.f w (updf G.f w.heap.size (len*ti.size)) (w.alloc (.cells arr e0)):=Ext.alloc w h.top _ _;have hnew:=q1x w (.cells arr e0);have hds:∀y∈ds,y.cells.length=ti.size:=q82.1 b1;have hflat:∀(i:Nat) (y:D),ds[i]?=some y→y.flat:=fun i y hy e he=>by
         obtain⟨j,hj⟩:=Zbt.1 he;exact(r4 i y j e hy hj).1
        have hrd':RD (updf G.f w.heap.size (len*ti.size)) (w.alloc (.cells arr e0)) (.list ds) (.slice (some (at_ w.heap.size 0)) len len):=by
         have:=RD.list (f:=updf G.f w.heap.size (len*ti.size)) (w:=w.alloc (.cells arr e0)) ds w.heap.size 0 len ti.size (fun j=>arr.getD j undef) (by omega)
          (fun y hy=>by obtain⟨i,hi'⟩:=Zbt.1 hy;exact⟨hds y hy,hflat i y hi'⟩) (by rw[r3];simp) (fun k hk=>by
            rw[Zbg,cell_of_heap hnew];have hk':k<arr.size:=by rw[r2,←r3];exact hk
            simp[hk']) (fun i y j e hy he=>(r4 i y j e hy he).2.ext hext)
         rw[r3]at this;exact this
        have h3:=h1.put (s:=d) (x:=.d (.list ds)) (v:=.slice (some (at_ w.heap.size 0)) len len) (.d _ _ hrd') hn;refine Does.mk (s:=Instr.buildSlice t len (parts.map fun(i,x)=>(i,a.eval x))) hd (by simp only[execOp,ho]) ?_ h3;rw[hparts];exact r1
      ·cases hsl
     ·cases hsl
/-! ### Stores -/
theorem q9v{b o:Nat}{arr:Array Value}{el:TypeId}{v:Value}(hw:w.heap[b]?=some (.cells arr el (0,0)))(ho:o<arr.size)(hv:v.oneCell'=true):(store (at_ b o) v).run P w=.ok () (w.setCell (at_ b o) v):=by
 have hc:w.cell? (at_ b o)=some arr[o]:=by rw[cell_of_heap hw];simp[ho]
 have hf:w.frozen? (at_ b o)=false:=by simp[World.frozen?,at_,hw]
 rw[run_store P w _ _ _ hv,hc];simp[hf]
theorem St.z1D(σ:St)(r:Ref)(o o':AObj)(r':Ref):((σ.setObj r o).setObj r o').obj r'=(σ.setObj r o').obj r':=by
 simp only[St.q1s];split<;>rfl
theorem SR.congr{ts:Array Value}{τ:St}(h:SR E n G σ ts w)(hρ:τ.ρ=σ.ρ)(ho:∀r,τ.obj r=σ.obj r):SR E n G τ ts w:=
 ⟨h.size,fun s x hx=>h.slot s x (by rw[←hρ];exact hx),fun r o hr=>h.obj r o (by rw[←ho];exact hr),fun r o hr=>h.objf r o (by rw[←ho];exact hr),fun r r' o o' h1 h2=>h.inj r r' o o' (by rw[←ho];exact h1) (by rw[←ho];exact h2),h.lam,
   fun q v e sz b h1 h2 r o hr=>h.lamObj q v e sz b h1 h2 r o (by rw[←ho];exact hr),h.lamInj,fun r o hr=>h.newObj r o (by rw[←ho];exact hr),h.newLam,h.ext,h.fr,h.top,h.ext0,fun r cs x s hr=>h.own0 r cs x s (by rw[←ho];exact hr),h.os,h.tape,h.output⟩
theorem z9l{ts:Array Value}{r:Ref}:∀(xs:List D) (vs:List Value) (cs:List AV) (o i:Nat) (σ:St) (w:World),SR E n G σ ts w→σ.obj r=some (.cells cs)→xs.length=vs.length→o+i+xs.length≤cs.length→
  (∀(j:Nat) (x:D) (v:Value),xs[j]?=some x→vs[j]?=some v→x.one=true∧RD G.f w x v)→
  ∃w',(storeCells (at_ (G.b r) o) vs i).run P w=.ok () w'∧SR E n G (σ.setObj r (.cells (setA cs (o+i) (xs.map .d)))) ts w'
 |[],vs,cs,o,i,σ,w,h,hr,hl,hle,hx=>by
  have:vs=[]:=by simpa using hl.symm
  subst this;refine⟨w,by simp[storeCells],h.congr (by cases r<;>rfl) (fun r'=>?_)⟩;rw[St.q1s];split
  ·rename_i e;subst e;exact hr.symm
  ·rfl
 |x::xs,vs,cs,o,i,σ,w,h,hr,hl,hle,hx=>by
  cases vs with
  |nil=>simp at hl
  |cons v vs=>
   obtain⟨o1,r1⟩:=hx 0 x v rfl rfl;simp at hl hle;obtain⟨arr,el,g1,g2,_⟩:=h.obj r _ hr;have hone:=(r1.one o1).1;have hst:=q9v (P:=P) (o:=o+i) g1 (by rw[g2];omega) hone;have h1:=h.setCell hr (i:=o+i) (by omega) (.d _ _ r1) hone (fun q hq=>by simp[AV.lab?]at hq) (fun k s _=>rfl);have hext:Ext G.f w G.f (w.setCell (at_ (G.b r) (o+i)) v):=⟨by simp,fun _=>Zak _,fun b j hj=>by
    have hb:b≠G.b r:=fun e=>by rw[e,h.objf r _ hr]at hj;omega
    simp only[World.cell?,at_];rw[show(w.setCell ⟨G.b r,o+i,none⟩ v).heap[b]?=w.heap[b]? from q1b w _ _ b v hb],fun b es c hb hm=>by rw[q1b w _ _ b v (fun e=>by rw[e,h.objf r _ hr]at hb;omega)];exact hm⟩
   obtain⟨w',h2,h3⟩:=z9l xs vs (cs.set (o+i) (.d x)) o (i+1) _ _ h1 (by rw[St.q1s,if_pos rfl]) hl (by simp;omega) (fun j x' v' hj hv=>⟨(hx (j+1) x' v' hj hv).1,(hx (j+1) x' v' hj hv).2.ext hext⟩);refine⟨w',?_,h3.congr (by cases r<;>rfl) (fun r'=>?_)⟩
   ·simp only[storeCells,Sem.run_bind];rw[q5x,hst];exact h2
   ·rw[St.z1D];simp[setA,Nat.add_assoc]
theorem z9k{ts:Array Value}{r:Ref}(hloc:isLocal r=true):∀(xs:List AV) (vs:List Value) (cs:List AV) (o i:Nat) (σ:St) (w:World),SR E n G σ ts w→σ.obj r=some (.cells cs)→xs.length=vs.length→o+i+xs.length≤cs.length→
  (∀(j:Nat) (x:AV) (v:Value),xs[j]?=some x→vs[j]?=some v→z9f x=true∧v.oneCell'=true∧AVR G w x v)→
  ∃w',(storeCells (at_ (G.b r) o) vs i).run P w=.ok () w'∧SR E n G (σ.setObj r (.cells (setA cs (o+i) xs))) ts w'
 |[],vs,cs,o,i,σ,w,h,hr,hl,hle,hx=>by
  have:vs=[]:=by simpa using hl.symm
  subst this;refine⟨w,by simp[storeCells],h.congr (by cases r<;>rfl) (fun r'=>?_)⟩;rw[St.q1s];split
  ·rename_i e;subst e;exact hr.symm
  ·rfl
 |x::xs,vs,cs,o,i,σ,w,h,hr,hl,hle,hx=>by
  cases vs with
  |nil=>simp at hl
  |cons v vs=>
   obtain⟨o1,hone,r1⟩:=hx 0 x v rfl rfl;simp at hl hle;obtain⟨arr,el,g1,g2,_⟩:=h.obj r _ hr;have hst:=q9v (P:=P) (o:=o+i) g1 (by rw[g2];omega) hone;have h1:=h.setCell hr (i:=o+i) (by omega) r1 hone (fun q hq=>by cases x<;>simp_all[AV.lab?,z9f]) (fun k s e=>by subst e;cases hloc) (fun e he=>by subst he;simp[z9f]at o1);have hext:Ext G.f w G.f (w.setCell (at_ (G.b r) (o+i)) v):=⟨by simp,fun _=>Zak _,fun b j hj=>by
    have hb:b≠G.b r:=fun e=>by rw[e,h.objf r _ hr]at hj;omega
    simp only[World.cell?,at_];rw[show(w.setCell ⟨G.b r,o+i,none⟩ v).heap[b]?=w.heap[b]? from q1b w _ _ b v hb],fun b es c hb hm=>by rw[q1b w _ _ b v (fun e=>by rw[e,h.objf r _ hr]at hb;omega)];exact hm⟩
   obtain⟨w',h2,h3⟩:=z9k hloc xs vs (cs.set (o+i) x) o (i+1) _ _ h1 (by rw[St.q1s,if_pos rfl]) hl (by simp;omega) (fun j x' v' hj hv=>⟨(hx (j+1) x' v' hj hv).1,(hx (j+1) x' v' hj hv).2.1,
    (hx (j+1) x' v' hj hv).2.2.mono (G':=G) hext (fun _ _=>rfl) (fun _ _ _ hp=>hp)⟩)
   refine⟨w',?_,h3.congr (by cases r<;>rfl) (fun r'=>?_)⟩
   ·simp only[storeCells,Sem.run_bind];rw[q5x,hst];exact h2
   ·rw[St.z1D];simp[setA,Nat.add_assoc]
theorem q9x{t:TypeId}{m b o:Nat}{v:Value}{w':World}(hs:Program.sz P t=some m)(hv:v.cells.size=m)(h:(storeCells (at_ b o) v.cells.toList 0).run P w=.ok () w'):(Instr.storeAt t (.pointer (some (at_ b o))) v).run P w=.ok () w':=by
 unfold Program.sz at hs;cases hi:P.info? t with
 |none=>simp[hi]at hs
 |some ti=>
  simp[hi]at hs;simp[Instr.storeAt,Instr.sureAddr,storeVar,sizeOf,typeInfo,hi,hs,hv,h]
theorem q7X{t:TypeId}{b o:Nat}{arr:Array Value}{el:TypeId}{v:Value}(hs:Program.sz P t=some 1)(hw:w.heap[b]?=some (.cells arr el (0,0)))(ho:o<arr.size)(hv:v.oneCell'=true)(hc:v.cells = #[v]):
  (Instr.storeAt t (.pointer (some (at_ b o))) v).run P w=.ok () (w.setCell (at_ b o) v):=by
 refine q9x hs (by rw[hc];rfl) ?_;have:=q9v (P:=P) hw ho hv;simp only[hc,storeCells,Sem.run_bind,q5x,Zdg,this,Result.andThen_ok,Sem.run_pure]
theorem j66(h:SR E n G σ a.tmps w){o:Oper}(hd:o.dst=none){t:TypeId}{m:Nat}{addr x:Operand}{la lx:LX}(ho:o.op=.store t addr x)(hm:Program.sz P t=some m)(ha:q1o addr=some la)(hx:z0f x=some lx)(hs:stS σ m (σ.ev la) (σ.ev lx)=some σ'):Does P E n a w o σ':=by
 have ra:=h.ev ha;have rx:=h.evs hx;have fin:∀{w' G' σ'},(Instr.storeAt t (a.eval addr) (a.eval x)).run P w=.ok () w'→SR E n G' σ' a.tmps w'→Does P E n a w o σ':=fun{w' G' σ'} hr hs=>⟨.skip,undef,w',G',by simp[execOp,ho,hr],.inr ⟨rfl,rfl⟩,by simpa[Act.put,hd]using hs⟩
 unfold stS at hs;split at hs
 ·rename_i r off hla;rw[hla]at ra;generalize hav:a.eval addr=av at ra fin;cases ra;split at hs
  ·rename_i cs hcs;obtain⟨arr,el,g1,g2,g3⟩:=h.obj r _ hcs;split at hs
   ·rename_i y hy;split at hs
    ·rename_i hb;cases hs;rw[hy]at rx;have rx:=rx.dinv;have hvs:y.cells.length=(a.eval x).cells.toList.length:=by rw[←rx.q2I];simp
     obtain⟨w',h1,h2⟩:=z9l (P:=P) y.cells (a.eval x).cells.toList cs off 0 σ w h hcs hvs (by omega) (fun j z v hz hv=>⟨rx.flat z (Zaf hz),by
      have:=rx.cell hz;rw[Array.getElem?_toList]at hv;rwa [q8x hv]at this⟩)
     exact fin (q9x hm (by rw[rx.q2I];exact hb.1) h1) h2
    ·cases hs
   ·rename_i s e sz l hy;split at hs
    ·rename_i hb;obtain⟨rfl,hlt⟩:=hb;rw[hy]at rx
     -- the cell's label is given up; the slot's is renamed to it
     have h1:=h.erase (.c r off);have rx1:AVR _ w (.own (.t s) e sz l) (a.eval x):=rx.q6o (q:=.c r off) (fun q' hq=>by simp[AV.lab?]at hq;rw[←hq];simp);have h2:=h1.rename s (.c r off) (by simp);have rx2:=rx1.rename s (.c r off) (by simp);simp only[AV.rename,if_true]at rx2;simp only at hs;split at hs
     ·rename_i cs2 hcs2;cases hs;have hlen:cs2.length=cs.length:=by
       have:(σ.erase (.c r off)).obj r=some (.cells cs2):=by
        rw[←hcs2];cases r<;>rfl
       rw[St.q4u,hcs]at this;simp[q10]at this;rw[←this,z3P]
      have hone:(a.eval x).oneCell'=true∧(a.eval x).cells = #[a.eval x]:=by
       cases rx with|own _ _ _ _ v _ hv _=>exact hv.one rfl
      have h3:=h2.setCell hcs2 (i:=off) (by omega) rx2 hone.1 (fun q hq=>by simp[AV.lab?]at hq;exact hq.symm) (fun k s _=>rfl);exact fin (q7X hm g1 (by omega) hone.1 hone.2) h3
     ·cases hs
    ·cases hs
   ·rename_i hy;split at hs
    ·rename_i hb;obtain⟨rfl,hlt⟩:=hb;cases hs;rw[hy]at rx;have hv:a.eval x=.slice none 0 0:=by
      generalize a.eval x=u at rx;cases rx;rfl
     rw[hv]at fin;exact fin (q7X hm g1 (by omega) rfl rfl) (h.setCell hcs hlt .ns rfl (fun q hq=>by simp[AV.lab?]at hq) (fun k s _=>rfl))
    ·cases hs
   ·rename_i r' o' e sz l hy;split at hs
    ·rename_i hb;obtain⟨rfl,hlt⟩:=hb;cases hs;rw[hy]at rx;have rx':RD G.f w (.list l) (a.eval x):=rx.rd rfl;have hone:=rx'.one rfl;exact fin (q7X hm g1 (by omega) hone.1 hone.2) (h.setCell hcs hlt (.d _ _ rx') hone.1 (fun q hq=>by simp[AV.lab?]at hq) (fun k s _=>rfl))
    ·cases hs
   ·rename_i r' o' hy;split at hs
    ·rename_i hb;obtain⟨rfl,hlt,hloc⟩:=hb;cases hs;rw[hy]at rx;generalize hxv:a.eval x=xv at rx fin;cases rx;refine fin (q7X hm g1 (by omega) rfl rfl) (h.setCell hcs hlt (.ptr _ _) rfl (fun q hq=>by simp[AV.lab?]at hq) (fun k s e=>?_));rcases hloc with h1|h1
     ·rw[e]at h1;cases h1
     ·cases r' with
      |l t=>cases h1
      |x t=>simp[AV.has]
    ·cases hs
   ·rename_i r' n' c' hy;split at hs
    ·rename_i hb;obtain⟨rfl,hlt,hloc⟩:=hb;cases hs;rw[hy]at rx;generalize hxv:a.eval x=xv at rx fin;cases rx;refine fin (q7X hm g1 (by omega) rfl rfl) (h.setCell hcs hlt (.rs _ _ _) rfl (fun q hq=>by simp[AV.lab?]at hq) (fun k s e=>?_));rcases hloc with h1|h1
     ·rw[e]at h1;cases h1
     ·cases r' with
      |l t=>cases h1
      |x t=>simp[AV.has]
    ·cases hs
   ·rename_i xs hy;split at hs
    ·rename_i hb;cases hs;rw[hy]at rx;generalize hxv:a.eval x=xv at rx fin;cases rx with
     |sx _ vs hl hsi ho hh=>
      have hvs:xs.length=vs.toList.length:=by simp[hl]
      obtain⟨w',h1,h2⟩:=z9k (P:=P) hb.2.2.1 xs vs.toList cs off 0 σ w h hcs hvs (by omega) (fun j z v hz hv=>by
       have hj:=(Zac.1 hz).1;rw[Array.getElem?_toList]at hv;have e:=q8x hv undef;refine⟨Zbh.1 hb.2.2.2 z (Zaf hz),?_,?_⟩
       ·rw[←e];exact ho j hj
       ·rw[←e];exact hh j z hz)
      exact fin (q9x hm (by show vs.size=m;rw[hl];exact hb.1) h1) h2
    ·cases hs
   ·cases hs
  ·cases hs
 ·cases hs
end Go.Av
/- Programs over abstract states: regions, statements, loops, calls. What is proved of the abstract run holds of the call. -/
namespace Go.Av
/-! ### Calls of functions that write nothing that was there -/
inductive Res where
 |one (x:D)
 |tup (xs:List D)
 deriving Inhabited
def Res.av:Res→AV
 |.one x=>.d x
 |.tup xs=>.tuple (xs.map .d)
def RRes(f:Nat→Nat)(w:World):Res→Value→Prop
 |.one x,v=>RD f w x v
 |.tup xs,v=>∃vs:Array Value,v=.tuple vs∧vs.size=xs.length∧∀(i:Nat) (y:D),xs[i]?=some y→RD f w y (vs.getD i undef)
structure Fr(f:Nat→Nat)(w:World)(f':Nat→Nat)(w':World):Prop where
 size:w.heap.size≤w'.heap.size
 block:∀b,b<w.heap.size→w'.heap[b]?=w.heap[b]?∧f' b=f b
 top:∀b,w'.heap.size≤b→f' b=0
 os:w'.os=w.os
 tape:w'.tape=w.tape
 output:w'.output=w.output
class Inv (P:Program) where
 inv:(Nat→Nat)→World→Prop
 own:Nat→Prop
 lt:∀{f:Nat→Nat} {w:World},inv f w→∀b,own b→b<w.heap.size
 ext:∀{f:Nat→Nat} {w:World} {f':Nat→Nat} {w':World},(∀b,own b→w'.heap[b]?=w.heap[b]?∧f' b=f b)→inv f w→inv f' w'
def q0i(P:Program)[Inv P](fn:FuncId)(args:List D)(Post:Res→Prop):Prop:=
 ∀(f:Nat→Nat) (w:World) (vs:Array Value),Inv.inv P f w→(∀b,w.heap.size≤b→f b=0)→vs.size=args.length→(∀(i:Nat) (y:D),args[i]?=some y→RD f w y (vs.getD i undef))→
  Calls P fn vs w (fun e w'=>∃r v f',Post r∧e=.returned v∧RRes f' w' r v∧Fr f w f' w')
theorem q0i.mono{P:Program}[Inv P]{fn:FuncId}{args:List D}{Post Post':Res→Prop}(h:q0i P fn args Post)(hp:∀r,Post r→Post' r):q0i P fn args Post':=
 fun f w vs h0 h1 h2 h3=>(h f w vs h0 h1 h2 h3).mono fun _ _ ⟨r,v,f',a,b⟩=>⟨r,v,f',hp r a,b⟩
/-! ### Statements -/
inductive q0g where
 |skip
 |reg (l:List q0b)
 |dreg (l:List q0b)
 |fam (l:List q0b) (deps:List (List Nat))
 |dead (ds:List Nat) (c:q0g)
 |alt (l:List (List q0b×q0b)) (last:List q0b)
 |join (c:q0g)
 |seq (a b:q0g)
 |cond (c:LX) (a b:q0g)
 |block (id:Nat) (c:q0g)
 |loop (c:q0g)
 |exit (id:Nat)
 |ret
 |bad
 deriving Inhabited
def putO(σ:St):Option Nat→AV→St
 |some d,x=>σ.put d x
 |none,_=>σ
class HasInv (P:Program) [Inv P] (E:Entry):Prop where
 holds:Inv.inv P E.f0 E.w0
 none:∀b,Inv.own P b→¬E.M b
def z1O(E:Entry)(n:Nat)(K:St→Prop)(d:List Deferred)(a:Act)(w:World):Prop:=∃G σ,K σ∧SR E n G σ a.tmps w∧a.defers=d
def q4p(n:Nat):Option Nat→Bool
 |some d=>decide (d<n)
 |none=>true
def j8y(P:Program)(t:TypeId):Bool:=
 match P.underlying t with
 |some (.pointer _)=>false
 |some (.func _ _ _)=>false
 |some (.map _ _)=>false
 |_=>true
def j4M(P:Program)(f:FuncId):Bool:=
 match P.funcs[f]? with
 |some fn=>fn.params.all (j8y P)
 |none=>true
def j9D(P:Program):List TypeId→Bool
 |t::_=>match q45 P t with
  |some (_,sz,_)=>sz==6 || Nat.ble 11 sz
  |none=>false
 |[]=>false
def isSl(P:Program)(t:TypeId):Bool:=
 match P.underlying t with
 |some (.slice _)=>true
 |_=>false
def j5v(P:Program)(f:FuncId):Bool:=
 match P.funcs[f]? with
 |some fn=>match fn.params.toList,fn.resultTypes.toList with
  |[a,b,c],[r]=>isSl P a&&(!isSl P b&&(isSl P c&&r==a))
  |_,_=>false
 |none=>false
def j6A:List Operand→Bool
 |.const (.slice none 0 0)::_=>true
 |_=>false
def q2w(P:Program)(o:Oper):Option (Prim×List Operand):=
 match o.op with
 |.call { callee:=.value f,args,.. }=>match f with
  |.func g=>if j4M P g&&q5V P g && !j5v P g then none else some (.call,f::args.toList)
  |f=>some (.call,f::args.toList)
 |.call { callee:=.builtin b,args,argTypes }=>match b with
  |.append=>if j9D P argTypes.toList || j6A args.toList then some (.bi .append argTypes.toList,args.toList)else none
  |b=>if(q6s P b args.toList argTypes.toList).isSome then none else some (.bi b argTypes.toList,args.toList)
 |.range t x=>some (.range t,[x])
 |.next it str=>some (.next str o.type,[it])
 |.entry it=>some (.entry,[it])
 |.lookup t x i ok=>some (.lookup t ok,[x,i])
 |.makeMap t r=>some (.mkMap t,r.toList)
 |.mapUpdate t m k x=>some (.mapUpd t,[m,k,x])
 |.insert t m k x=>some (.mapUpd t,[m,k,x])
 |.mapEntry t m k=>some (.mapEntry t,[m,k])
 |.entryStore t m k x=>some (.entryStore t,[m,k,x])
 |.makeSlice t l c=>some (.mkSlice t,[l,c])
 |.binOp op t x y _=>if(z39 P op t x y).isSome then none else some (.eq op t,[x,y])
 |.convert s t x=>if(z8n P s t x).isSome then none else some (.conv s t,[x])
 |_=>none
def z2v(P:Program)(s:Sem Next)(w:World)(R:Value→World→Prop):Prop:=
 (∃v w',s.run P w=.ok (.value v) w'∧R v w')∨(∃w',s.run P w=.ok .skip w'∧R undef w')∨
   ∃g vals,s.run P w=.ok (.enter g vals) w∧Calls P g vals w fun e w'=>∃v,e=.returned v∧R v w'
theorem z2v.mono{P:Program}{s:Sem Next}{w:World}{R R':Value→World→Prop}(hR:∀v w,R v w→R' v w)(h:z2v P s w R):z2v P s w R':=by
 rcases h with⟨v,w',h1,h2⟩|⟨w',h1,h2⟩|⟨g,vals,h1,h2⟩
 ·exact .inl ⟨v,w',h1,hR _ _ h2⟩
 ·exact .inr (.inl ⟨w',h1,hR _ _ h2⟩)
 ·exact .inr (.inr ⟨g,vals,h1,h2.mono fun e w' ⟨v,e1,e2⟩=>⟨v,e1,hR _ _ e2⟩⟩)
theorem z2v.wp{P:Program}{o:Oper}{a:Act}{w:World}{next:Act→World→Prop}{Q:Exit→Act→World→Prop}(h:z2v P (execOp a.eval o) w (fun v w'=>next (a.put o.dst v) w')):o.wp P a w next Q:=by
 unfold Oper.wp;rcases h with⟨v,w',h1,h2⟩|⟨w',h1,h2⟩|⟨g,vals,h1,h2⟩
 ·rw[h1];exact h2
 ·rw[h1];exact h2
 ·rw[h1];simp only[Oper.upon_enter];refine h2.mono fun e w' ⟨v,e1,e2⟩=>?_
  subst e1;exact e2
def q8T(P:Program)[Inv P](dst:Option Nat)(p:Prim)(xs:List LX)(K:St→Prop)(σ:St):Prop:=
 ∀(E:Entry) [HasInv P E] (n:Nat) (G:q0s) (a:Act) (w:World) (o:Oper) (os:List Operand),
  q2w P o=some (p,os)→q2x os=some xs→o.dst=dst→q4p n dst=true→SR E n G σ a.tmps w→
   z2v P (execOp a.eval o) w (fun v w'=>∃G' σ',K σ'∧SR E n G' σ' (a.put dst v).tmps w')
theorem q8T.mono{P:Program}[Inv P]{dst:Option Nat}{p:Prim}{xs:List LX}{K K':St→Prop}{σ:St}(hK:∀σ,K σ→K' σ)(h:q8T P dst p xs K σ):q8T P dst p xs K' σ:=
 fun E _ n G a w o os h1 h2 h3 h4 h5=>(h E n G a w o os h1 h2 h3 h4 h5).mono fun v w' ⟨G',σ',q1,q2⟩=>⟨G',σ',hK _ q1,q2⟩
def Chk(σ:St):List (Nat×LV)→Prop
 |[]=>True
 |(k,v)::r=>(∃z,aget σ.ρ k=some z∧pev σ v=some z)∧Chk σ r
def ChkK(chk:List (Nat×LV))(K:St→Prop):St→Prop:=fun σ=>Chk σ chk∧K σ
def q7r(P:Program)[Inv P](dst:Option Nat)(f:Nat)(args:List LX)(K:St→Prop)(σ:St):Prop:=
 ∀(E:Entry) [HasInv P E] (n:Nat) (G:q0s) (a:Act) (w:World) (vs:Array Value),q4p n dst=true→SR E n G σ a.tmps w→vs.size=args.length→(∀(i:Nat) (x:AV),(evL σ args)[i]?=some x→AVR G w x (vs.getD i undef))→
  Calls P f vs w fun e w'=>∃v,e=.returned v∧∃G' σ',K σ'∧SR E n G' σ' (a.put dst v).tmps w'
theorem q7r.mono{P:Program}[Inv P]{dst:Option Nat}{f:Nat}{args:List LX}{K K':St→Prop}{σ:St}(hK:∀σ,K σ→K' σ)(h:q7r P dst f args K σ):q7r P dst f args K' σ:=
 fun E _ n G a w vs h1 h2 h3 h4=>(h E n G a w vs h1 h2 h3 h4).mono fun _ _ ⟨v,e1,G',σ',q1,q2⟩=>⟨v,e1,G',σ',hK _ q1,q2⟩
def q7s(P:Program)[Inv P](o:q0b)(K:St→Prop)(σ:St):Prop:=
 match o.op with
 |.prim p xs chk=>q8T P o.dst p xs (ChkK chk K) σ
 |.call f args=>(∃ds Post,q5N (evL σ args)=some ds∧q0i P f ds Post∧∀r,Post r→K (putO σ o.dst r.av))∨q7r P o.dst f args K σ
 |.stC m x y chk=>∃σ',step1 σ o.dst (.st m x y)=some σ'∧ChkK chk K σ'
 |op=>∃σ',step1 σ o.dst op=some σ'∧K σ'
def und:AV:=.tuple []
def LOps(P:Program)[Inv P]:List q0b→(St→Prop)→St→Prop
 |[],K,σ=>K σ
 |o::os,K,σ=>
  match o.guard with
  |none=>q7s P o (LOps P os K) σ
  |some (s,b)=>(∃t,σ.get s=.d (.bool t)∧(t=b→q7s P o (LOps P os K) σ)∧(t≠b→LOps P os K (putO σ o.dst und)))∨(σ.get s=und∧LOps P os K (putO σ o.dst und))
def q6I(P:Program)[Inv P]:List q0b→(St→Prop)→St→Prop
 |[],K,σ=>K σ
 |o::os,K,σ=>
  match o.guard with
  |none=>q7s P o (q6I P os K) σ
  |some (s,b)=>(∃t,σ.get s=.d (.bool t)∧(t=b→q7s P o (q6I P os K) σ)∧(t≠b→q6I P os K (putO σ o.dst und)))∨(σ.get s=und∧q6I P os K (putO σ o.dst und))
/-! ### Regions that draw their order -/
def q14:LX→List Nat
 |.t s=>[s]
 |.k _=>[]
def z2g:Option LX→List Nat
 |some x=>q14 x
 |none=>[]
def q5d:List LX→List Nat
 |[]=>[]
 |x::r=>q14 x++q5d r
def z4E:List (Nat×LX)→List Nat
 |[]=>[]
 |(_,x)::r=>q14 x++z4E r
def q61:LV→List Nat
 |.cp x|.eqN _ _ x|.not x|.neg x|.cvI _ x|.i2s x|.b2s x|.len _ x|.fa _ x|.ld _ _ x|.fld _ _ _ x|.mkI _ x|.asT _ _ x|.ext _ x|.nck x=>q14 x
 |.bin _ x y|.eqB _ x y|.eqS _ _ x y|.idxS x y|.mm _ x y|.ia _ x y|.iaA _ _ x y=>q14 x++q14 y
 |.pick c x y=>q14 c++(q14 x++q14 y)
 |.subS x lo hi|.sub _ x lo hi=>q14 x++(z2g lo++z2g hi)
 |.bld _ _ _ l=>z4E l
 |.mkF _ a b=>q5d a++q5d b
def z6l:LO→List Nat
 |.val v=>q61 v
 |.asg x|.box x=>q14 x
 |.nils _ _|.allo _=>[]
 |.st _ x y=>q14 x++q14 y
 |.stC _ x y _=>q14 x++q14 y
 |.app _ _ _ _ x y=>q14 x++q14 y
 |.bsl _ _ l=>q5d l
 |.prim _ l _=>q5d l
 |.sla _ x lo hi=>q14 x++(z2g lo++z2g hi)
 |.call _ l=>q5d l
def q0b.reads(o:q0b):List Nat:=z6l o.op++(match o.guard with|some (s,_)=>[s]|none=>[])
def homX:LX→Bool
 |.t _=>true
 |.k (.d _)=>true
 |_=>false
def j8b:Option LX→Bool
 |some x=>homX x
 |none=>true
def homV:LV→Bool
 |.cp x|.not x|.neg x|.cvI _ x|.i2s x|.b2s x|.len _ x|.fa _ x=>homX x
 |.bin _ x y|.eqB _ x y|.eqS _ _ x y|.idxS x y|.mm _ x y|.ia _ x y|.iaA _ _ x y=>homX x&&homX y
 |.pick c x y=>homX c&&(homX x&&homX y)
 |.subS x lo hi|.sub _ x lo hi=>homX x&&(j8b lo&&j8b hi)
 |_=>false
structure Eff where
 er:List Lab
 x:AV
def q0z:St→List Lab→St
 |σ,[]=>σ
 |σ,q::r=>q0z (σ.erase q) r
def AV.q0z:AV→List Lab→AV
 |x,[]=>x
 |x,q::r=>AV.q0z (x.erase q) r
def Eff.app(e:Eff)(d:Option Nat)(σ:St):St:=putO (q0z σ e.er) d e.x
def DEff(P:Program)[Inv P](d:Option Nat)(op:LO)(σ:St)(eff:Eff):Prop:=
 match op with
 |.val v=>d.isSome=true∧∃z,pev σ v=some z∧eff=⟨[],z⟩
 |.call f args=>∃ds r,q5N (evL σ args)=some ds∧q0i P f ds (fun x=>x=r)∧eff=⟨[],r.av⟩
 |.bsl _ sz parts=>∃k l,d=some k∧q5N (evL σ parts)=some l∧(q8C sz l=true∧(evL σ parts).length*sz≤16777216∧sz≠0)∧eff=⟨[],.d (.list l)⟩
 |.app e sz by_ str s x=>∃k er l ys,d=some k∧((∃q,σ.ev s=.own q e sz l∧er=[q,.t k])∨(σ.ev s=.ns∧l=[]∧er=[.t k]))∧srcL str sz (σ.ev x)=some ys∧(l.length+ys.length≤140737488355327∧(l.length+ys.length)*by_≤140737488355328)∧eff=⟨er,.own (.t k) e sz (l++ys)⟩
 |_=>False
def q5i(P:Program)[Inv P](o:q0b)(σ:St)(eff:Eff):Prop:=
 match o.guard with
 |none=>DEff P o.dst o.op σ eff
 |some (s,b)=>(∃t,σ.get s=.d (.bool t)∧(t=b→DEff P o.dst o.op σ eff)∧(t≠b→eff=⟨[],und⟩))∨(σ.get s=und∧eff=⟨[],und⟩)
def q0b.pure(o:q0b):Bool:=
 match o.op with
 |.val v=>homV v
 |_=>false
def q0b.keeps(o:q0b):Bool:=
 match o.op with
 |.val _|.call _ _|.bsl _ _ _=>true
 |_=>false
def q0b.q5D(o:q0b):Bool:=
 match o.op with
 |.val _|.call _ _|.bsl _ _ _|.app _ _ _ _ _ _=>true
 |_=>false
def z4u(d:Option Nat)(l:List Nat):Bool:=
 match d with
 |some k => !l.contains k
 |none=>true
def z2F(p q:q0b):Bool:=(match p.dst,q.dst with|some a,some b=>a != b|_,_=>true)&&z4u p.dst q.reads&&z4u q.dst p.reads
def z97:LO→Bool
 |.val (.ext _ (.t _))=>true
 |_=>false
def j1e:LO→Bool
 |.allo _=>true
 |_=>false
def isSt:LO→Bool
 |.st _ _ _=>true
 |_=>false
def q6V:LX→Bool
 |.t _=>true
 |.k (.d _)=>true
 |_=>false
def z9H:Option LX→Bool
 |some x=>q6V x
 |none=>true
def j4D:LV→Bool
 |.cp x|.not x|.neg x|.cvI _ x|.i2s x|.b2s x|.len _ x|.fa _ x|.ld _ _ x|.fld _ _ _ x|.mkI _ x|.asT _ _ x|.ext _ x|.nck x|.eqN _ _ x=>q6V x
 |.bin _ x y|.eqB _ x y|.eqS _ _ x y|.idxS x y|.mm _ x y|.ia _ x y|.iaA _ _ x y=>q6V x&&q6V y
 |.pick c x y=>q6V c&&(q6V x&&q6V y)
 |.subS x lo hi|.sub _ x lo hi=>q6V x&&(z9H lo&&z9H hi)
 |.bld _ _ _ l=>l.all fun p=>q6V p.2
 |.mkF _ _ _=>false
def j2E:LO→Bool
 |.val v=>j4D v
 |.call _ l|.bsl _ _ l=>l.all q6V
 |_=>false
def j0O(p q:q0b):Bool:=z2F p q&&((p.keeps&&q.keeps) || (p.pure&&q.q5D) || (q.pure&&p.q5D))
def j0D:LV→LV→Bool
 |.cp (.t s),.cp (.t s')=>s==s'
 |.nck (.t s),.nck (.t s')=>s==s'
 |.fa o (.t s),.fa o' (.t s')=>o==o'&&s==s'
 |.ld a m (.t s),.ld a' m' (.t s')=>a==a'&&(m==m'&&s==s')
 |.bin o (.t s) (.t u),.bin o' (.t s') (.t u')=>decide (o=o')&&(s==s'&&u==u')
 |.bin o (.t s) (.k (.d (.int k n))),.bin o' (.t s') (.k (.d (.int k' n')))=>decide (o=o')&&(s==s'&&(decide (k=k')&&n==n'))
 |_,_=>false
def isFa:LO→Bool
 |.val (.fa _ (.t _))=>true
 |.val (.cp (.t _))=>true
 |.val (.ld _ _ (.t _))=>true
 |_=>false
def neD(d:Nat):Option Nat→Bool
 |some k=>d != k
 |none=>false
def z4V(p q:q0b):Bool:=
 match p.dst,p.op,p.guard,q.op,q.guard with
 |some d,.val v,none,.prim _ xs chk,none=>isFa (.val v)&&(neD d q.dst&&(!(q5d xs).contains d&&(chk.any (fun e=>e.1==d&&j0D e.2 v)&&chk.all fun e => !(q61 e.2).contains d)))
 |_,_,_,_,_=>false
def z6K:LO→Bool
 |.stC _ _ _ _=>true
 |_=>false
def isVal:LO→Bool
 |.val _=>true
 |_=>false
def z4X(p q:q0b):Bool:=
 match p.dst,p.op,p.guard,q.dst,q.op,q.guard with
 |some d,.val v,none,none,.stC _ x y chk,none => !(q14 x++q14 y).contains d&&(!(q61 v).contains d&&chk.any fun e=>e.1==d&&j0D e.2 v)
 |_,_,_,_,_,_=>false
def q5G(p q:q0b):Bool:=j0O p q || (z2F p q&&j1e p.op&&p.guard.isNone&&p.dst.isSome&&q.keeps&&j2E q.op) || (z2F p q&&isSt p.op&&p.dst.isNone&&p.guard.isNone&&z97 q.op) || (z4V p q || z4X p q)
def faOf(p:q0b):List (Nat×LV):=
 match p.dst,p.op,p.guard with
 |some d,.val (.fa o (.t s)),none=>[(d,.fa o (.t s))]
 |_,_,_=>[]
def eaOf(p:q0b):List (Nat×LV):=
 match p.dst,p.op,p.guard with
 |some d,.val v,none=>if isFa (.val v)then[(d,v)]else[]
 |_,_,_=>[]
def q0b.setC(o:q0b)(c:List (Nat×LV)):q0b:=
 match o.op with
 |.prim p xs _=>{ o with op:=.prim p xs c }
 |.st m x y=>{ o with op:=.stC m x y c }
 |.stC m x y _=>{ o with op:=.stC m x y c }
 |_=>o
def q0b.setP(o:q0b)(c:List (Nat×LV)):q0b:=
 match o.op with
 |.prim _ _ _=>o.setC c
 |_=>o
def z6E(b:Bool)(p q:q0b):Bool:=(!(isFa p.op&&isFa q.op) || p.dst != q.dst)&&(!(b&&(isVal p.op&&isVal q.op)) || (p.dst != q.dst&&(match p.op,q.dst with|.val v,some d => !(q61 v).contains d|_,_=>true)))
def DStep(P:Program)[Inv P](o:q0b)(K:St→Prop)(σ:St):Prop:=
 if o.q5D then ∃e,q5i P o σ e∧K (e.app o.dst σ)else LOps P [o] K σ
def DOps(P:Program)[Inv P]:List q0b→(St→Prop)→St→Prop
 |[],K=>K
 |o::os,K=>DStep P o (DOps P os K)
def waits(ops:Array Oper)(i k:Nat):Bool:=
 match ops[i]? with
 |some o=>o.after.any fun e=>Region.binds .any e&&e.on==k
 |none=>false
def q9z(ops:Array Oper):Nat→Nat→Nat→Bool
 |0,i,k=>waits ops i k
 |f+1,i,k=>waits ops i k || (List.range i).any fun j=>waits ops i j&&q9z ops f j k
def j6O(ops:Array Oper)(lo:List q0b)(done:List Nat):Option Nat:=
 let c:=(List.range ops.size).filter fun i => !done.contains i&&(match ops[i]? with|some o=>o.after.all fun e => !Region.binds .any e || done.contains e.on|none=>false)
 match c.find? (fun i=>j1e (lo.getD i default).op),c.find? (fun i=>isSt (lo.getD i default).op)with
 |some i,_=>some i
 |none,some i=>some i
 |none,none=>c.head?
def order(ops:Array Oper)(lo:List q0b):Nat→List Nat→List Nat
 |0,acc=>acc.reverse
 |f+1,acc=>match j6O ops lo acc with
  |some i=>order ops lo f (i::acc)
  |none=>acc.reverse
def z7q(f:Nat→Nat):List Nat→Bool
 |[]=>true
 |a::l=>l.all (fun b=>decide (f a<f b))&&z7q f l
def posOf(ord:List Nat)(i:Nat):Nat:=ord.idxOf i
def z1g(ops:Array Oper)(lo:List q0b)(ord:List Nat):Bool:=
 z7q (posOf ord) ord&&ord.all (fun i=>decide (i<ops.size))&&(List.range ops.size).all (fun i=>ord.contains i)&&decide (ord.length=ops.size) &&
 (List.range ops.size).all fun i=>
   (match ops[i]? with|some o=>o.after.all fun e => !Region.binds .any e || (decide (e.on<ops.size)&&decide (posOf ord e.on<posOf ord i))|none=>true) &&
   (List.range ops.size).all fun k => !decide (posOf ord k<posOf ord i) || q9z ops 8 i k || (match lo[k]?,lo[i]? with|some p,some q=>q5G p q|_,_=>false)
def q0b.copy(o:q0b):q0b:=
 match o.op with
 |.asg x=>{ o with op:=.val (.cp x) }
 |.nils _ _=>{ o with op:=.val (.cp (.k (.d (.list [])))) }
 |_=>o
def j5C{α:Type}:List (Nat×α)→List Nat→List (Nat×α)
 |l,[]=>l
 |l,d::ds=>j5C (adel l d) ds
def St.dead(σ:St)(ds:List Nat):St:={ σ with ρ:=j5C σ.ρ ds }
def j7T(ds:List Nat)(K:Exit→St→Prop):Exit→St→Prop
 |.normal,σ=>K .normal (σ.dead ds)
 |e,σ=>K e σ
def q8z(P:Program)(o:Oper):Option LO:=
 match q2w P o with
 |some (p,os)=>(q2x os).map fun xs=>.prim p xs []
 |none=>q5Z P o
def altL:List (List q0b×q0b)→List q0b→List q0b
 |[],last=>last
 |(l,o)::r,last=>l++o::altL r last
def q2C(P:Program)[Inv P](lo:q0b)(K:St→Prop)(σ:St):Prop:=
 lo.guard=none∧∀(E:Entry) [HasInv P E] (n:Nat) (G:q0s) (a:Act) (w:World) (o:Oper),q8z P o=some lo.op→o.dst=lo.dst→q4p n lo.dst=true→SR E n G σ a.tmps w→
  z2v P (execOp a.eval o) w (fun v w'=>∃G' σ',K σ'∧SR E n G' σ' (a.put lo.dst v).tmps w')
theorem q2C.mono{P:Program}[Inv P]{lo:q0b}{K K':St→Prop}{σ:St}(hK:∀σ,K σ→K' σ)(h:q2C P lo K σ):q2C P lo K' σ:=
 ⟨h.1,fun E _ n G a w o h1 h2 h3 h4=>(h.2 E n G a w o h1 h2 h3 h4).mono fun v w' ⟨G',σ',q1,q2⟩=>⟨G',σ',hK _ q1,q2⟩⟩
def AOps(P:Program)[Inv P](last:List q0b)(K:St→Prop):List (List q0b×q0b)→St→Prop
 |[]=>q6I P last K
 |(l,o)::r=>q6I P l (q2C P o (AOps P last K r))
def Gho(σ τ:St):Prop:=∀(E:Entry) (n:Nat) (G:q0s) (ts:Array Value) (w:World),SR E n G σ ts w→∃G',SR E n G' τ ts w
def j9n(K:Exit→St→Prop):Exit→St→Prop
 |.normal,σ=>∃τ,Gho σ τ∧K .normal τ
 |e,σ=>K e σ
def q0g.strip:q0g→q0g
 |.dead _ c=>c.strip
 |.alt l last=>.reg (altL l last)
 |.join c=>c.strip
 |.seq a b=>.seq a.strip b.strip
 |.cond c a b=>.cond c a.strip b.strip
 |.block id c=>.block id c.strip
 |.loop c=>.loop c.strip
 |c=>c
def z7u(next:St→Prop)(K:Exit→St→Prop):Exit→St→Prop
 |.normal,σ=>next σ
 |e,σ=>K e σ
def j02(id:Nat)(K:Exit→St→Prop):Exit→St→Prop
 |.exit id',σ=>if id'=id then K .normal σ else K (.exit id') σ
 |e,σ=>K e σ
def GhoB(b0:Nat→Nat)(σ τ:St):Prop:=∀(E:Entry) (n:Nat) (G:q0s) (ts:Array Value) (w:World),E.b0=b0→SR E n G σ ts w→∃G',SR E n G' τ ts w
def FamW(P:Program)[Inv P](l:List q0b)(deps:List (List Nat))(K:St→Prop)(σ:St):Prop:=
 ∀b0:Nat→Nat,∃I:(Nat→Bool)→St→Prop,(∃τ0,GhoB b0 σ τ0∧I (fun _=>false) τ0)∧
  (∀(done:Nat→Bool) (τ:St) (i:Nat) (x:q0b),I done τ→l[i]?=some x→done i=false→(∀j∈deps.getD i [],done j=true)→
    ∃τ',GhoB b0 τ τ'∧(LOps P [x] (I fun k=>k==i || done k) τ'∨q2C P x (I fun k=>k==i || done k) τ'))∧
  ∀(done:Nat→Bool) (τ:St),(∀i,i<l.length→done i=true)→I done τ→∃τ',GhoB b0 τ τ'∧K τ'
def LW(P:Program)[Inv P]:q0g→(Exit→St→Prop)→St→Prop
 |.skip,K,σ=>K .normal σ
 |.reg l,K,σ=>q6I P l (K .normal) σ
 |.dreg l,K,σ=>DOps P l (K .normal) σ
 |.fam l deps,K,σ=>FamW P l deps (K .normal) σ
 |.dead ds c,K,σ=>LW P c (j7T ds K) σ
 |.alt l last,K,σ=>AOps P last (K .normal) l σ
 |.join c,K,σ=>LW P c (j9n K) σ
 |.seq a b,K,σ=>LW P a (z7u (LW P b K) K) σ
 |.cond c a b,K,σ=>∃t,σ.ev c=.d (.bool t)∧(t=true→LW P a K σ)∧(t=false→LW P b K σ)
 |.block id c,K,σ=>LW P c (j02 id K) σ
 |.loop c,K,σ=>∃(α:Type) (r:α→α→Prop) (I:α→St→Prop),WellFounded r∧(∃m τ,Wk τ σ∧I m τ)∧∀m τ,I m τ→LW P c (z7u (fun τ'=>∃m' τ'',Wk τ'' τ'∧I m' τ''∧r m' m) K) τ
 |.exit id,K,σ=>K (.exit id) σ
 |.ret,K,σ=>K .ret σ
 |.bad,_,_=>False
/-! ### Reading off -/
def guardOf(ops:Array Oper):Option (Nat×Bool)→Option (Option (Nat×Bool))
 |none=>some none
 |some (j,b)=>match(ops[j]?).bind (·.dst)with
  |some s=>some (some (s,b))
  |none=>none
def q2B(P:Program)(n:Nat)(ops:Array Oper)(o:Oper):Option q0b:=
 if q4p n o.dst then
  match q8z P o,guardOf ops o.guard with
  |some op,some g=>some { dst:=o.dst,op:=op,guard:=g }
  |_,_=>none
 else none
def q1n(P:Program)(n:Nat)(ops:Array Oper):List Oper→Option (List q0b)
 |[]=>some []
 |o::r=>match q2B P n ops o,q1n P n ops r with
  |some x,some l=>some (x::l)
  |_,_=>none
def z90(lo:List q0b)(ord:List Nat):List q0b:=ord.map fun i=>lo.getD i default
def j1a(ops:Array Oper)(lo:List q0b)(ord:List Nat):Bool:=(List.range ops.size).all fun i=>(List.range ops.size).all fun k => !decide (posOf ord i<posOf ord k) || z6E (lo.any fun x=>z6K x.op) (lo.getD i default) (lo.getD k default)
def z2E(f:q0b→List (Nat×LV))(ops:Array Oper)(ord:List Nat)(lo:List q0b):List q0b:=
 (List.range lo.length).map fun i=>(lo.getD i default).setP ((List.range ops.size).foldr (fun k acc=>if decide (posOf ord k<posOf ord i) && !q9z ops 8 i k then f (lo.getD k default)++acc else acc) [])
def valOf(p:q0b):List (Nat×LV):=
 match p.dst,p.op,p.guard with
 |some d,.val v,none=>[(d,v)]
 |_,_,_=>[]
def z6u(ops:Array Oper)(ord:List Nat)(lo:List q0b):List q0b:=
 (List.range lo.length).map fun i=>if isSt (lo.getD i default).op then(lo.getD i default).setC (ord.foldr (fun k acc=>if decide (posOf ord k<posOf ord i) && !q9z ops 8 i k then valOf (lo.getD k default)++acc else acc) [])else lo.getD i default
def z2V(ops:Array Oper)(lo:List q0b)(ord:List Nat):Bool:=z1g ops lo ord&&j1a ops lo ord
def j6N(ops:Array Oper)(lo:List q0b)(done:List Nat):Option Nat:=
 let c:=(List.range ops.size).filter fun i => !done.contains i&&(match ops[i]? with|some o=>o.after.all fun e => !Region.binds .any e || done.contains e.on|none=>false)
 match c.find? (fun i=>j1e (lo.getD i default).op),c.find? (fun i => !isSt (lo.getD i default).op)with
 |some i,_=>some i
 |none,some i=>some i
 |none,none=>c.head?
def z8N(ops:Array Oper)(lo:List q0b):Nat→List Nat→List Nat
 |0,acc=>acc.reverse
 |f+1,acc=>match j6N ops lo acc with
  |some i=>z8N ops lo f (i::acc)
  |none=>acc.reverse
def j96(ops:Array Oper)(lo:List q0b)(done:List Nat):Option Nat:=
 let c:=(List.range ops.size).filter fun i => !done.contains i&&(match ops[i]? with|some o=>o.after.all fun e => !Region.binds .any e || done.contains e.on|none=>false)
 match c.find? (fun i=>isFa (lo.getD i default).op)with
 |some i=>some i
 |none=>c.head?
def z8O(ops:Array Oper)(lo:List q0b):Nat→List Nat→List Nat
 |0,acc=>acc.reverse
 |f+1,acc=>match j96 ops lo acc with
  |some i=>z8O ops lo f (i::acc)
  |none=>acc.reverse
def q9F(P:Program)(n:Nat)(ops:Array Oper):Option (List q0b):=
 if P.follows .mixedOrders then
  match q1n P n ops ops.toList with
  |some lo=>
   if z2V ops lo (order ops lo ops.size [])then some (z90 lo (order ops lo ops.size []))
   else if z2V ops (lo.map q0b.copy) (order ops lo ops.size [])then some (z90 (lo.map q0b.copy) (order ops lo ops.size []))
   else if z2V ops (z2E faOf ops (order ops lo ops.size []) lo) (order ops lo ops.size [])then some (z90 (z2E faOf ops (order ops lo ops.size []) lo) (order ops lo ops.size []))
   else if z2V ops (z2E faOf ops (order ops lo ops.size []) (lo.map q0b.copy)) (order ops lo ops.size [])then some (z90 (z2E faOf ops (order ops lo ops.size []) (lo.map q0b.copy)) (order ops lo ops.size []))
   else if z2V ops (z6u ops (z8N ops lo ops.size []) (lo.map q0b.copy)) (z8N ops lo ops.size [])then some (z90 (z6u ops (z8N ops lo ops.size []) (lo.map q0b.copy)) (z8N ops lo ops.size []))
   else if z2V ops (z2E eaOf ops (z8O ops lo ops.size []) (lo.map q0b.copy)) (z8O ops lo ops.size [])then some (z90 (z2E eaOf ops (z8O ops lo ops.size []) (lo.map q0b.copy)) (z8O ops lo ops.size []))else none
  |none=>none
 else none
def z2L(ops:Array Oper):List (List Nat):=ops.toList.map fun o=>(o.after.toList.filter fun e=>Region.binds .any e).map (·.on)
def j3T(ops:Array Oper):Bool:=(List.range ops.size).all fun i=>((z2L ops).getD i []).all fun j=>decide (j<i)
def j4j(P:Program)(n:Nat)(ops:Array Oper):Option q0g:=
 match q1n P n ops ops.toList with
 |some l=>if P.follows .mixedOrders&&j3T ops then some (.fam l (z2L ops))else some .bad
 |none=>some .bad
def q5y(P:Program)(n:Nat):Code→Option q0g
 |.skip=>some .skip
 |.region _ ops draw=>if draw then(match q9F P n ops with|some l=>some (.dreg l)|none=>j4j P n ops)else(match q1n P n ops ops.toList with|some l=>some (.reg l)|none=>some .bad)
 |.seq a b=>match q5y P n a,q5y P n b with
  |some a,some b=>some (.seq a b)
  |_,_=>none
 |.cond c a b=>match q1o c,q5y P n a,q5y P n b with
  |some c,some a,some b=>some (.cond c a b)
  |_,_,_=>none
 |.block id c=>(q5y P n c).map (.block id)
 |.loop c=>(q5y P n c).map .loop
 |.exit id=>some (.exit id)
 |.ret=>some .ret
 |_=>some .bad
variable {E:Entry} {n:Nat} {G:q0s} {σ σ':St} {a:Act} {w:World} {P:Program}
/-! ### It is sound -/
theorem map_none{α β:Type}{o:Option α}{g:α→β}{b:β}(h:o.map g=some b):∃x,o=some x∧g x=b:=by
 cases o with
 |none=>simp at h
 |some x=>simp at h;exact⟨x,rfl,h⟩
theorem q2A{t tx:TypeId}{s x:Operand}{op:LO}(h:z13 P t tx s x=some op):∃e sz by_ str u v,op=.app e sz by_ str u v:=by
 unfold z13 at h;split at h
 ·split at h
  ·split at h<;>first|(cases h;exact⟨_,_,_,_,_,_,rfl⟩)|cases h
  ·cases h
 ·cases h
theorem q3A{o:Oper}{op:LO}(h:q8z P o=some op)(hn:∀p xs chk,op≠.prim p xs chk):q5Z P o=some op:=by
 unfold q8z at h;split at h
 ·rename_i p os _;cases hl:q2x os with
  |none=>simp[hl]at h
  |some l=>simp[hl]at h;exact(hn _ _ _ h.symm).elim
 ·exact h
theorem j1k{o:Oper}{p:Prim}{xs:List LX}{chk:List (Nat×LV)}(h:q5Z P o=some (.prim p xs chk)):False:=by
 unfold q5Z at h;split at h
 ·split at h
  ·split at h<;>cases h
  ·obtain⟨_,_,h⟩:=map_none h;cases h
 ·split at h<;>cases h
 ·obtain⟨_,_,h⟩:=map_none h;cases h
 ·split at h<;>cases h
 ·unfold q2m at h;split at h
  ·obtain⟨_,_,_,_,_,_,h⟩:=q2A h;cases h
  ·cases h
 ·split at h
  ·obtain⟨_,_,h⟩:=map_none h;cases h
  ·cases h
 ·split at h
  ·split at h<;>cases h
  ·cases h
 ·split at h
  ·split at h<;>cases h
  ·obtain⟨_,_,h⟩:=map_none h;cases h
 ·obtain⟨_,_,h⟩:=map_none h;cases h
theorem j6n{o:Oper}{m:Nat}{x y:LX}{chk:List (Nat×LV)}(h:q5Z P o=some (.stC m x y chk)):False:=by
 unfold q5Z at h;split at h
 ·split at h
  ·split at h<;>cases h
  ·obtain⟨_,_,h⟩:=map_none h;cases h
 ·split at h<;>cases h
 ·obtain⟨_,_,h⟩:=map_none h;cases h
 ·split at h<;>cases h
 ·unfold q2m at h;split at h
  ·obtain⟨_,_,_,_,_,_,h⟩:=q2A h;cases h
  ·cases h
 ·split at h
  ·obtain⟨_,_,h⟩:=map_none h;cases h
  ·cases h
 ·split at h
  ·split at h<;>cases h
  ·cases h
 ·split at h
  ·split at h<;>cases h
  ·obtain⟨_,_,h⟩:=map_none h;cases h
 ·obtain⟨_,_,h⟩:=map_none h;cases h
theorem z8v{o:Oper}{m:Nat}{x y:LX}{chk:List (Nat×LV)}(h:q8z P o=some (.stC m x y chk)):False:=by
 unfold q8z at h;split at h
 ·obtain⟨_,_,h⟩:=map_none h;cases h
 ·exact j6n h
theorem j0b{o:Oper}{p:Prim}{xs:List LX}{chk:List (Nat×LV)}(h:q8z P o=some (.prim p xs chk)):∃os,q2w P o=some (p,os)∧q2x os=some xs:=by
 unfold q8z at h;split at h
 ·rename_i p' os hp;cases hl:q2x os with
  |none=>simp[hl]at h
  |some l=>simp[hl]at h;obtain⟨rfl,rfl,rfl⟩:=h;exact⟨os,hp,hl⟩
 ·exact(j1k h).elim
theorem j6o{o:Oper}{m:Nat}{la lx:LX}(h:q5Z P o=some (.st m la lx)):∃t addr x,o.op=.store t addr x∧Program.sz P t=some m∧q1o addr=some la∧z0f x=some lx:=by
 unfold q5Z at h;split at h
 ·split at h
  ·split at h<;>cases h
  ·obtain⟨_,_,h⟩:=map_none h;cases h
 ·rename_i t addr x ho;split at h
  ·cases h;exact⟨t,addr,x,ho,by assumption,by assumption,by assumption⟩
  ·cases h
 ·obtain⟨_,_,h⟩:=map_none h;cases h
 ·split at h<;>cases h
 ·unfold q2m at h;split at h
  ·obtain⟨_,_,_,_,_,_,h⟩:=q2A h;cases h
  ·cases h
 ·split at h
  ·obtain⟨_,_,h⟩:=map_none h;cases h
  ·cases h
 ·split at h
  ·split at h<;>cases h
  ·cases h
 ·split at h
  ·split at h<;>cases h
  ·obtain⟨_,_,h⟩:=map_none h;cases h
 ·obtain⟨_,_,h⟩:=map_none h;cases h
theorem j2u{o:Oper}{f:Nat}{args:List LX}(h:q5Z P o=some (.call f args)):∃(os:Array Operand) (ts:Array TypeId),o.op=.call { callee:=.value (.func f),args:=os,argTypes:=ts }∧q2x os.toList=some args∧q5V P f=true:=by
 unfold q5Z at h;split at h
 ·split at h
  ·split at h<;>cases h
  ·obtain⟨_,_,h⟩:=map_none h;cases h
 ·split at h<;>cases h
 ·obtain⟨_,_,h⟩:=map_none h;cases h
 ·split at h<;>cases h
 ·unfold q2m at h;split at h
  ·obtain⟨_,_,_,_,_,_,h⟩:=q2A h;cases h
  ·cases h
 ·rename_i f' os ts ho;split at h
  ·rename_i hok;obtain⟨l,h1,h2⟩:=map_none h;cases h2;exact⟨os,ts,ho,h1,hok⟩
  ·cases h
 ·split at h
  ·split at h<;>cases h
  ·cases h
 ·split at h
  ·split at h<;>cases h
  ·obtain⟨_,_,h⟩:=map_none h;cases h
 ·obtain⟨_,_,h⟩:=map_none h;cases h
theorem z4U(h:SR E n G σ a.tmps w){o:Oper}{op:LO}(hd:q4p n o.dst=true)(hl:q5Z P o=some op)(hs:step1 σ o.dst op=some σ'):Does P E n a w o σ':=by
 cases hdst:o.dst with
 |none=>
  rw[hdst]at hs;simp only[step1]at hs;cases op<;>simp only[j5e]at hs<;>try(cases hs;done)
  obtain⟨t,addr,x,ho,hm,ha,hx⟩:=j6o hl;exact j66 h hdst ho hm ha hx hs
 |some d=>
  rw[hdst]at hs hd;have hn:d<n:=by simpa[q4p]using hd
  simp only[step1]at hs;unfold q5Z at hl;split at hl
  ·rename_i x ho;split at hl
   ·split at hl
    ·rename_i e sz by_ hsl;cases hl;simp only[q90]at hs;cases hs;exact j4y h hdst hn ho
    ·cases hl
   ·rename_i hne;cases hx:q1o x with
    |none=>simp[hx]at hl
    |some x'=>simp[hx]at hl;subst hl;simp only[q90]at hs;cases hs;exact j3g h hdst hn ho hx
  ·rename_i t addr x ho;split at hl
   ·cases hl;simp[q90]at hs
   ·cases hl
  ·rename_i e x ho;cases hx:q1o x with
   |none=>simp[hx]at hl
   |some x'=>simp[hx]at hl;subst hl;exact j3l h hdst hn ho hx hs
  ·rename_i e ho;split at hl
   ·rename_i z hz;cases hl;simp only[q90]at hs;cases hs;exact j14 h hdst hn ho hz
   ·cases hl
  ·rename_i as ts ho;exact z7I h hdst hn ho hl hs
  ·split at hl
   ·cases hx:q2x (‹Array Operand›).toList with
    |none=>simp[hx]at hl
    |some l=>simp[hx]at hl;subst hl;simp[q90]at hs
   ·cases hl
  ·rename_i t len parts ho;split at hl
   ·rename_i e sz by_ l hsl hpl;split at hl
    ·rename_i hc;cases hl;simp only[Zah,beq_iff_eq]at hc;exact j3n h hdst hn ho hsl hpl hc.1.1 hc.1.2 hc.2 hs
    ·cases hl
   ·cases hl
  ·rename_i t x lo hi ho;split at hl
   ·rename_i len e ht;split at hl
    ·rename_i x' lo' hi' hsz hx hlo hhi;cases hl;simp only[q90]at hs;exact j5d h hdst hn ho ht hsz hx hlo hhi hs
    ·cases hl
   ·cases hx:q5z P t x lo hi with
    |none=>simp[hx]at hl
    |some v=>
     simp[hx]at hl;subst hl;simp only[q90]at hs;unfold putV at hs;split at hs
     ·rename_i z hz;cases hs;obtain⟨r,h1,h2⟩:=q9d h ho hx hz;exact⟨.value r,r,w,G,h1,.inl rfl,by simpa[Act.put,hdst]using h.put h2 hn⟩
     ·cases hs
  ·cases hx:j2w P o.op with
   |none=>simp[hx]at hl
   |some v=>
    simp[hx]at hl;subst hl;simp only[q90]at hs;unfold putV at hs;split at hs
    ·rename_i z hz;cases hs;obtain⟨r,h1,h2⟩:=j0c h hx hz;exact⟨.value r,r,w,G,h1,.inl rfl,by simpa[Act.put,hdst]using h.put h2 hn⟩
    ·cases hs
theorem SR.putO(h:SR E n G σ a.tmps w){d:Option Nat}(hd:q4p n d=true){x:AV}{v:Value}(hx:AVR G w x v):SR E n G (putO σ d x) (a.put d v).tmps w:=by
 cases d with
 |none=>exact h
 |some d=>exact h.put hx (by simpa[q4p]using hd)
theorem put_defers(a:Act)(d:Option Nat)(v:Value):(a.put d v).defers=a.defers:=by cases d<;>rfl
theorem z8Z{xs:List AV}{ds:List D}{vs:List Value}(hrd:q5N xs=some ds)(hl:xs.length=vs.length)(hr:∀(i:Nat) (x:AV),xs[i]?=some x→AVR G w x (vs.getD i undef)):
  vs.length=ds.length∧∀(i:Nat) (y:D),ds[i]?=some y→RD G.f w y (vs.getD i undef):=by
 obtain⟨h1,h2⟩:=z4C hrd;refine⟨by rw[←hl,h1],fun i y hy=>?_⟩;have hi:i<xs.length:=by rw[h1];exact(Zac.1 hy).1
 obtain⟨y',e1,e2⟩:=h2 i _ (Zal hi);rw[hy]at e1;cases e1;exact(hr i _ (Zal hi)).rd e2
theorem RRes.av{f:Nat→Nat}{b:Ref→Nat}{lam:Lab→Option (Value×Nat×Nat)}{r:Res}{v:Value}(h:RRes f w r v):AVR { f:=f,b:=b,lam:=lam } w r.av v:=by
 cases r with
 |one x=>exact .d _ _ h
 |tup xs=>
  obtain⟨vs,rfl,h1,h2⟩:=h;refine .tuple _ vs (by simpa using h1) (fun x hx=>by obtain⟨y,_,rfl⟩:=Zat.1 hx;rfl) (fun i x hi=>?_);simp only[Zan]at hi;cases hy:xs[i]? with
  |none=>simp[hy]at hi
  |some y=>simp[hy]at hi;subst hi;exact .d _ _ (h2 i y hy)
theorem Fr.ext{f f':Nat→Nat}{w w':World}(h:Fr f w f' w')(ht:∀b,w.heap.size≤b→f b=0):Ext f w f' w':=by
 refine⟨h.size,fun b=>?_,fun b i hi=>?_,fun b es c hb hm=>by rw[(h.block b (Zar.1 hm).1).1];exact hm⟩
 ·rcases Zbi b w.heap.size with hb|hb
  ·rw[(h.block b hb).2];exact Zak _
  ·rw[ht b hb];exact Zay _
 ·have hb:b<w.heap.size:=by
   rcases Zbi b w.heap.size with hb|hb
   ·exact hb
   ·rw[ht b hb]at hi;omega
  simp only[World.cell?,at_];rw[(h.block b hb).1]
theorem z9Q(σ:St):∀l:List LX,(evL σ l).length=l.length
 |[]=>rfl
 |_::r=>by simp[evL,z9Q σ r]
variable [Inv P] [HasInv P E]in
theorem q8g(h:SR E n G σ a.tmps w){ops:Array Oper}{o:Oper}{lo:q0b}(hl:q2B P n ops o=some lo){K:St→Prop}(hs:q7s P lo K σ){next:Act→World→Prop}{Q:Exit→Act→World→Prop}
  (hK:∀a' w',z1O E n K a.defers a' w'→next a' w'):o.wp P a w next Q:=by
 unfold q2B at hl;split at hl
 ·rename_i hd;split at hl
  ·rename_i op g hE hg;cases hl;unfold q7s at hs;split at hs
   ·rename_i p xs chk heq;simp only at heq;subst heq;obtain⟨os,h1,h2⟩:=j0b hE;exact((hs E n G a w o os h1 h2 rfl hd h).mono fun v w' ⟨G',σ',q1,q2⟩=>hK _ _ ⟨G',σ',q1.2,q2,put_defers a _ _⟩).wp
   ·rename_i f args heq;simp only at heq;subst heq;obtain⟨os,ts,ho,hos,hok⟩:=j2u (q3A hE (fun p xs chk e=>by cases e));obtain⟨k1,k2⟩:=q4t h hos;have hrun:(execOp a.eval o).run P w=.ok (.enter f (os.map a.eval)) w:=by
     unfold q5V at hok;cases hf:P.funcs[f]? with
     |none=>simp[hf]at hok
     |some fn=>
      rw[hf]at hok;simp only[Zah,Zca]at hok;have hb:fn.body.isNone=false:=by cases hb:fn.body<;>simp_all
      have hcf:∀as,(callFunc f as).run P w=.ok (.enter f as) w:=fun as=>by
       simp only[callFunc,Sem.run_bind,run_program,Result.andThen_ok,hf,hok.1,hb,Zao,if_false,Sem.run_pure]
      simp only[execOp,ho,resolve,Deferred.ofValue,Act.eval,invoke,Sem.run_bind,Sem.run_pure,Result.andThen_ok,hcf];simp
    rcases hs with⟨ds,Post,h1,h2,h3⟩|hs
    ·obtain⟨k3,k4⟩:=z8Z (vs:=os.toList.map a.eval) h1 (by simpa using k1.symm) k2;have hc:=h2 G.f w (os.map a.eval) (Inv.ext (fun b hb=>h.fr b (Inv.lt (HasInv.holds (P:=P) (E:=E)) b hb) (HasInv.none b hb)) (HasInv.holds (P:=P) (E:=E))) h.top (by simpa using k3) (fun i y hy=>by have:=k4 i y hy;simpa[List.getD_eq_getElem?_getD]using this);unfold Oper.wp;rw[hrun];simp only[Oper.upon_enter];refine hc.mono fun e w' ⟨r,v,f',p1,p2,p3,p4⟩=>?_
     subst p2;have h5:SR E n { G with f:=f' } σ a.tmps w':=h.world (p4.ext h.top) (fun b hb=>p4.block b hb) p4.top p4.os p4.tape p4.output;exact hK _ _ ⟨_,_,h3 r p1,h5.putO hd p3.av,put_defers a _ _⟩
    ·have hc:=hs E n G a w (os.map a.eval) hd h (by have:=z9Q σ args;simp at k1 ⊢;omega) (fun i x hx=>by have:=k2 i x hx;simpa[List.getD_eq_getElem?_getD]using this);unfold Oper.wp;rw[hrun];simp only[Oper.upon_enter];refine hc.mono fun e w' ⟨v,p2,G',σ',q1,q2⟩=>?_
     subst p2;exact hK _ _ ⟨G',σ',q1,q2,put_defers a _ _⟩
   ·rename_i m x y chk heq;simp only at heq;subst heq;exact(z8v hE).elim
   ·rename_i op' hne0 hne _;obtain⟨σ',h1,h2⟩:=hs;obtain⟨nx,v,w',G',r1,r2,r3⟩:=z4U h hd (q3A hE (fun p xs chk e=>hne0 p xs chk e)) h1;unfold Oper.wp;rw[r1];rcases r2 with rfl|⟨rfl,rfl⟩
    ·exact hK _ _ ⟨G',σ',h2,r3,put_defers a _ _⟩
    ·exact hK _ _ ⟨G',σ',h2,r3,put_defers a _ _⟩
  ·cases hl
 ·cases hl
end Go.Av
