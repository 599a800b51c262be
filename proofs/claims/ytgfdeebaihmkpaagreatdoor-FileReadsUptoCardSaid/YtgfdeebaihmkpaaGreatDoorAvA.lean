import Derived.WalkKit
import Derived.Deep.AppendSrc
/- Abstract data that Go values stand for, and when a value in a world stands for a datum: immutable memory is what lies below a ghost frontier. -/
namespace Go.Av
theorem Zaa:type_of%@Int.natCast_add:=Int.natCast_add
theorem Zab:type_of%@Int.natCast_mul:=Int.natCast_mul
theorem Zac:type_of%@List.getElem?_eq_some_iff:=List.getElem?_eq_some_iff
theorem Zad:type_of%@List.length_append:=List.length_append
theorem Zae:type_of%@List.length_cons:=List.length_cons
theorem Zaf:type_of%@List.mem_of_getElem?:=List.mem_of_getElem?
theorem Zag:type_of%@List.length_nil:=List.length_nil
theorem Zah:type_of%@Bool.and_eq_true:=Bool.and_eq_true
theorem Zai:type_of%@List.drop_eq_nil_of_le:=List.drop_eq_nil_of_le
theorem Zaj:type_of%@List.getElem?_append_left:=List.getElem?_append_left
theorem Zak:type_of%@Nat.le_refl:=Nat.le_refl
theorem Zal:type_of%@List.getElem?_eq_getElem:=List.getElem?_eq_getElem
theorem Zam:type_of%@List.getElem?_append_right:=List.getElem?_append_right
theorem Zan:type_of%@List.getElem?_map:=List.getElem?_map
theorem Zao:type_of%@Bool.false_eq_true:=Bool.false_eq_true
theorem Zap:type_of%@List.getD_cons_zero:=List.getD_cons_zero
theorem Zaq:type_of%@List.getD_cons_succ:=List.getD_cons_succ
theorem Zar:type_of%@Array.getElem?_eq_some_iff:=Array.getElem?_eq_some_iff
theorem Zas:type_of%@Option.some.injEq:=Option.some.injEq
theorem Zat:type_of%@List.mem_map:=List.mem_map
theorem Zau:type_of%@List.length_drop:=List.length_drop
theorem Zav:type_of%@Array.getD_eq_getD_getElem?:=Array.getD_eq_getD_getElem?
theorem Zaw:type_of%@List.length_take:=List.length_take
theorem Zax:type_of%@Option.map_some:=Option.map_some
theorem Zay:type_of%@Nat.zero_le:=Nat.zero_le
theorem Zaz:type_of%@List.mem_append:=List.mem_append
theorem Zba:type_of%@List.mem_cons:=List.mem_cons
theorem Zbb:type_of%@List.getElem?_of_mem:=List.getElem?_of_mem
theorem Zbc:type_of%@List.getElem?_take:=List.getElem?_take
theorem Zbd:type_of%@Option.getD_some:=Option.getD_some
theorem Zbe:type_of%@List.cons_append:=List.cons_append
theorem Zbf:type_of%@Option.map_eq_some_iff:=Option.map_eq_some_iff
theorem Zbg:type_of%@Nat.zero_add:=Nat.zero_add
theorem Zbh:type_of%@List.all_eq_true:=List.all_eq_true
theorem Zbi:type_of%@Nat.lt_or_ge:=Nat.lt_or_ge
theorem Zbj:type_of%@List.nil_append:=List.nil_append
theorem Zbk:type_of%@List.mem_of_mem_take:=List.mem_of_mem_take
theorem Zbl:type_of%@List.eq_nil_of_length_eq_zero:=List.eq_nil_of_length_eq_zero
theorem Zbm:type_of%@List.getElem?_eq_none:=List.getElem?_eq_none
theorem Zbn:type_of%@List.length_map:=List.length_map
theorem Zbo:type_of%@List.map_cons:=List.map_cons
theorem Zbp:type_of%@Array.getElem?_setIfInBounds_ne:=Array.getElem?_setIfInBounds_ne
theorem Zbq:type_of%@List.any_eq_true:=List.any_eq_true
theorem Zbr:type_of%@Nat.le_trans:=Nat.le_trans
theorem Zbs:type_of%@List.map_nil:=List.map_nil
theorem Zbt:type_of%@List.mem_iff_getElem?:=List.mem_iff_getElem?
theorem Zbu:type_of%@Option.isSome_none:=Option.isSome_none
theorem Zbv:type_of%@List.mem_of_mem_drop:=List.mem_of_mem_drop
theorem Zbw:type_of%@Int.toNat_natCast:=Int.toNat_natCast
theorem Zbx:type_of%@List.getElem?_drop:=List.getElem?_drop
theorem Zby:type_of%@Nat.mul_le_mul_right:=Nat.mul_le_mul_right
theorem Zbz:type_of%@Int.natCast_one:=Int.natCast_one
theorem Zca:type_of%@Bool.not_eq_true':=Bool.not_eq_true'
theorem Zcb:type_of%@Option.isSome_some:=Option.isSome_some
theorem Zcc:type_of%@Bool.or_eq_true:=Bool.or_eq_true
theorem Zcd:type_of%@List.mem_filter:=List.mem_filter
theorem Zce:type_of%@List.any_eq_false:=List.any_eq_false
theorem Zcf:type_of%@Nat.lt_of_lt_of_le:=Nat.lt_of_lt_of_le
theorem Zcg:type_of%@List.length_singleton:=List.length_singleton
theorem Zch:type_of%@Option.bind_eq_some_iff:=Option.bind_eq_some_iff
theorem Zci:type_of%@List.mem_singleton:=List.mem_singleton
theorem Zcj:type_of%@Option.getD_none:=Option.getD_none
theorem Zck:type_of%@Array.getElem?_eq_getElem:=Array.getElem?_eq_getElem
theorem Zcl:type_of%@Array.ext':=Array.ext'
theorem Zcm:type_of%@Bool.not_true:=Bool.not_true
theorem Zcn:type_of%@Bool.true_and:=Bool.true_and
theorem Zco:type_of%@UInt8.lt_iff_toNat_lt:=UInt8.lt_iff_toNat_lt
theorem Zcp:type_of%@Bool.not_false:=Bool.not_false
theorem Zcq:type_of%@Bool.false_and:=Bool.false_and
theorem Zcr:type_of%@List.take_succ_cons:=List.take_succ_cons
theorem Zcs:type_of%@List.mem_range:=List.mem_range
theorem Zct:type_of%@Nat.pow_le_pow_right:=Nat.pow_le_pow_right
theorem Zcu:type_of%@List.take_add_one:=List.take_add_one
theorem Zcv:type_of%@List.flatMap_cons:=List.flatMap_cons
theorem Zcw:type_of%@Option.map_none:=Option.map_none
theorem Zcx:type_of%@List.nodup_cons:=List.nodup_cons
theorem Zcy:type_of%@List.mem_map_of_mem:=List.mem_map_of_mem
theorem Zcz:type_of%@Array.getElem?_eq_none:=Array.getElem?_eq_none
theorem Zda:type_of%@Array.getElem?_modify:=Array.getElem?_modify
theorem Zdb:type_of%@List.length_replicate:=List.length_replicate
theorem Zdc:type_of%@Bool.false_or:=Bool.false_or
theorem Zdd:type_of%@List.map_congr_left:=List.map_congr_left
theorem Zde:type_of%@List.drop_take:=List.drop_take
theorem Zdf:type_of%@List.take_zero:=List.take_zero
theorem Zdg:type_of%@Nat.add_zero:=Nat.add_zero
theorem Zdh:type_of%@List.cons.injEq:=List.cons.injEq
theorem Zdi:type_of%@List.append_nil:=List.append_nil
theorem Zdj:type_of%@List.take_left:=List.take_left
theorem Zdk:type_of%@Nat.pow_succ:=Nat.pow_succ
inductive D where
 |bool (b:Bool)
 |int (k:IntKind) (n:Int)
 |str (s:List UInt8)
 |nil
 |iface (t:TypeId) (x:D)
 |agg (cs:List D)
 |list (l:List D)
 |nilp
 |nilf
 |nilpT (e:TypeId)
 |map (ks vs:List D)
 |addr (a:Addr)
 |pto (cs:List D)
 deriving Inhabited
def D.cells:D→List D
 |.agg cs=>cs
 |x=>[x]
def D.one:D→Bool
 |.agg _=>false
 |_=>true
def D.flat(x:D):Prop:=∀e∈x.cells,e.one=true
def at_(b i:Nat):Addr:=⟨b,i,none⟩
inductive RD(f:Nat→Nat)(w:World):D→Value→Prop
 |bool (b):RD f w (.bool b) (.bool b)
 |int (k n):RD f w (.int k n) (.int k n)
 |str (s):RD f w (.str s) (.string ⟨s.toArray⟩)
 |nil:RD f w .nil .nilIface
 |iface (t x v) (h:RD f w x v):RD f w (.iface t x) (.iface t v)
 |nilp:RD f w .nilp (.pointer none)
 |nilpT (e):RD f w (.nilpT e) (.pointer none)
 |nilf:RD f w .nilf .nilFunc
 |agg (cs:List D) (vs:Array Value) (hl:vs.size=cs.length) (ho:∀e∈cs,e.one=true)
  (h:∀i e,cs[i]?=some e→RD f w e (vs.getD i undef)):RD f w (.agg cs) (.agg vs)
 |nils:RD f w (.list []) (.slice none 0 0)
 |emp (a:Addr) (cap:Nat):RD f w (.list []) (.slice (some a) 0 cap)
 |list (l:List D) (b o cap sz:Nat) (vs:Nat→Value) (hcap:l.length≤cap) (hsz:∀e∈l,e.cells.length=sz∧e.flat)
  (hb:o+l.length*sz≤f b) (hc:∀k,k<l.length*sz→w.cell? (at_ b (o+k))=some (vs k))
  (hr:∀i e j d,l[i]?=some e→e.cells[j]?=some d→RD f w d (vs (i*sz+j))):
  RD f w (.list l) (.slice (some (at_ b o)) l.length cap)
 |addr (a):RD f w (.addr a) (.pointer (some a))
 |pto (cs:List D) (b o:Nat) (vs:Nat→Value) (hb:o+cs.length≤f b) (hc:∀k,k<cs.length→w.cell? (at_ b (o+k))=some (vs k)) (ho:∀e∈cs,e.one=true)
  (hr:∀i d,cs[i]?=some d→RD f w d (vs i)):RD f w (.pto cs) (.pointer (some (at_ b o)))
 |mapn:RD f w (.map [] []) (.map none)
 |map (ks vs:List D) (b:Nat) (es:Array MapEntry) (clock:Nat) (hb:0<f b) (hh:w.heap[b]?=some (.map es clock)) (hk:ks.length=es.size) (hv:vs.length=es.size)
  (hn:(es.toList.map (·.born)).Nodup) (hc:∀e∈es.toList,e.born<clock) (hr:∀(i:Nat) k e,ks[i]?=some k→es[i]?=some e→RD f w k e.key)
  (hr':∀(i:Nat) k e,vs[i]?=some k→es[i]?=some e→RD f w k e.val):RD f w (.map ks vs) (.map (some b))
structure Ext(f:Nat→Nat)(w:World)(f':Nat→Nat)(w':World):Prop where
 size:w.heap.size≤w'.heap.size
 mono:∀b,f b≤f' b
 keep:∀b i,i<f b→w'.cell? (at_ b i)=w.cell? (at_ b i)
 maps:∀b es c,0<f b→w.heap[b]?=some (.map es c)→w'.heap[b]?=some (.map es c)
theorem Ext.refl(f:Nat→Nat)(w:World):Ext f w f w:=⟨Zak _,fun _=>Zak _,fun _ _ _=>rfl,fun _ _ _ _ h=>h⟩
theorem Ext.trans{f f' f'':Nat→Nat}{w w' w'':World}(h:Ext f w f' w')(k:Ext f' w' f'' w''):Ext f w f'' w'':=
 ⟨Zbr h.size k.size,fun b=>Zbr (h.mono b) (k.mono b),
   fun b i hi=>(k.keep b i (Zcf hi (h.mono b))).trans (h.keep b i hi),fun b es c hb hm=>k.maps b es c (Zcf hb (h.mono b)) (h.maps b es c hb hm)⟩
theorem RD.ext{f f':Nat→Nat}{w w':World}(hx:Ext f w f' w'){x:D}{v:Value}(h:RD f w x v):RD f' w' x v:=by
 induction h with
 |bool b=>exact .bool b
 |int k n=>exact .int k n
 |str s=>exact .str s
 |nil=>exact .nil
 |iface t x v _ ih=>exact .iface t x v ih
 |nilp=>exact .nilp
 |nilpT e=>exact .nilpT e
 |nilf=>exact .nilf
 |agg cs vs hl ho _ ih=>exact .agg cs vs hl ho ih
 |nils=>exact .nils
 |emp a c=>exact .emp a c
 |list l b o cap sz vs hcap hsz hb hc _ ih=>
  exact .list l b o cap sz vs hcap hsz (Zbr hb (hx.mono b)) (fun k hk=>(hx.keep b (o+k) (by omega)).trans (hc k hk)) ih
 |addr a=>exact .addr a
 |pto cs b o vs hb hc ho _ ih=>exact .pto cs b o vs (Zbr hb (hx.mono b)) (fun k hk=>(hx.keep b (o+k) (by omega)).trans (hc k hk)) ho ih
 |mapn=>exact .mapn
 |map ks vs b es clock hb hh hk hv hn hc _ _ ih ih'=>exact .map ks vs b es clock (Zcf hb (hx.mono b)) (hx.maps b es clock hb hh) hk hv hn hc ih ih'
theorem q8x{vs:Array Value}{i:Nat}{v:Value}(h:vs[i]?=some v)(u:Value):vs.getD i u=v:=by
 simp[h]
theorem RD.one{f:Nat→Nat}{w:World}{x:D}{v:Value}(h:RD f w x v)(ho:x.one=true):v.oneCell'=true∧v.cells = #[v]:=by
 cases h<;>first|exact⟨rfl,rfl⟩|(simp[D.one]at ho)
theorem RD.q2I{f:Nat→Nat}{w:World}{x:D}{v:Value}(h:RD f w x v):v.cells.size=x.cells.length:=by
 cases h<;>first|rfl|(simp[Value.cells,D.cells];assumption)
theorem RD.flat{f:Nat→Nat}{w:World}{x:D}{v:Value}(h:RD f w x v):x.flat:=by
 intro e he;cases h with
 |agg cs vs hl ho _=>exact ho e he
 |_=>simp[D.cells]at he;subst he;rfl
theorem RD.cell{f:Nat→Nat}{w:World}{x:D}{v:Value}(h:RD f w x v){i:Nat}{e:D}(hi:x.cells[i]?=some e):
  RD f w e (v.cells.getD i undef):=by
 cases h with
 |agg cs vs hl ho h=>exact h i e hi
 |bool b=>have:i=0:=by cases i<;>simp_all[D.cells]
          subst this;simp[D.cells]at hi;subst hi;exact .bool b
 |int k n=>have:i=0:=by cases i<;>simp_all[D.cells]
           subst this;simp[D.cells]at hi;subst hi;exact .int k n
 |str s=>have:i=0:=by cases i<;>simp_all[D.cells]
         subst this;simp[D.cells]at hi;subst hi;exact .str s
 |nil=>have:i=0:=by cases i<;>simp_all[D.cells]
       subst this;simp[D.cells]at hi;subst hi;exact .nil
 |iface t y v h=>have:i=0:=by cases i<;>simp_all[D.cells]
                 subst this;simp[D.cells]at hi;subst hi;exact .iface t y v h
 |nilp=>have:i=0:=by cases i<;>simp_all[D.cells]
        subst this;simp[D.cells]at hi;subst hi;exact .nilp
 |nilpT e=>have:i=0:=by cases i<;>simp_all[D.cells]
           subst this;simp[D.cells]at hi;subst hi;exact .nilpT e
 |nilf=>have:i=0:=by cases i<;>simp_all[D.cells]
        subst this;simp[D.cells]at hi;subst hi;exact .nilf
 |nils=>have:i=0:=by cases i<;>simp_all[D.cells]
        subst this;simp[D.cells]at hi;subst hi;exact .nils
 |emp a c=>
  have:i=0:=by cases i<;>simp_all[D.cells]
  subst this;simp[D.cells]at hi;subst hi;exact .emp a c
 |list l b o cap sz vs hcap hsz hb hc hr=>
  have:i=0:=by cases i<;>simp_all[D.cells]
  subst this;simp[D.cells]at hi;subst hi;exact .list l b o cap sz vs hcap hsz hb hc hr
 |addr a=>
  have:i=0:=by cases i<;>simp_all[D.cells]
  subst this;simp[D.cells]at hi;subst hi;exact .addr a
 |pto cs b o vs hb hc ho hr=>
  have:i=0:=by cases i<;>simp_all[D.cells]
  subst this;simp[D.cells]at hi;subst hi;exact .pto cs b o vs hb hc ho hr
 |mapn=>
  have:i=0:=by cases i<;>simp_all[D.cells]
  subst this;simp[D.cells]at hi;subst hi;exact .mapn
 |map ks vs b es clock hb hh hk hv hn hc hr hr'=>
  have:i=0:=by cases i<;>simp_all[D.cells]
  subst this;simp[D.cells]at hi;subst hi;exact .map ks vs b es clock hb hh hk hv hn hc hr hr'
theorem RD.z6h{f:Nat→Nat}{w:World}{x:D}{v:Value}(h:RD f w x v)(ho:v.oneCell'=true):x.one=true:=by
 cases h<;>first|rfl|(simp[Value.oneCell']at ho)
end Go.Av
/- Abstract states: what slots and local objects hold, and when a frame in a world stands for an abstract state. -/
namespace Go.Av
inductive Ref where
 |l (s:Nat)
 |x (r:Nat)
 deriving DecidableEq,Inhabited
inductive Lab where
 |t (s:Nat)
 |c (r:Ref) (off:Nat)
 deriving DecidableEq,Inhabited
inductive AV where
 |d (x:D)
 |own (q:Lab) (e sz:Nat) (l:List D)
 |ptr (r:Ref) (off:Nat)
 |dptr (cs:List D)
 |tuple (vs:List AV)
 |fn (f:Fn) (first cap:List AV)
 |junk
 |ns
 |nt (e:TypeId)
 |rs (r:Ref) (n c:Nat)
 |mp (r:Ref)
 |sx (cs:List AV)
 deriving Inhabited
def AV.simple:AV→Bool
 |.d _|.ptr _ _|.dptr _|.junk|.ns|.nt _|.rs _ _ _|.mp _=>true
 |_=>false
structure q0s where
 f:Nat→Nat
 b:Ref→Nat
 lam:Lab→Option (Value×Nat×Nat)
inductive AVR(G:q0s)(w:World):AV→Value→Prop
 |d (x v) (h:RD G.f w x v):AVR G w (.d x) v
 |own (q e sz l v) (hq:G.lam q=some (v,e,sz)) (hv:RD G.f w (.list l) v) (hs:∀y∈l,y.cells.length=sz):AVR G w (.own q e sz l) v
 |ptr (r off):AVR G w (.ptr r off) (.pointer (some (at_ (G.b r) off)))
 |dptr (cs:List D) (b o:Nat) (vs:Nat→Value) (hb:o+cs.length≤G.f b) (hc:∀k,k<cs.length→w.cell? (at_ b (o+k))=some (vs k))
  (hr:∀j y,cs[j]?=some y→y.one=true∧RD G.f w y (vs j)):AVR G w (.dptr cs) (.pointer (some (at_ b o)))
 |tuple (xs:List AV) (vs:Array Value) (hl:vs.size=xs.length) (hs:∀x∈xs,x.simple=true) (h:∀i x,xs[i]?=some x→AVR G w x (vs.getD i undef)):
  AVR G w (.tuple xs) (.tuple vs)
 |fn (f:Fn) (xs ys:List AV) (us vs:Array Value) (hl:us.size=xs.length) (hs:∀x∈xs,x.simple=true) (h:∀i x,xs[i]?=some x→AVR G w x (us.getD i undef))
  (hl':vs.size=ys.length) (hs':∀x∈ys,x.simple=true) (h':∀i x,ys[i]?=some x→AVR G w x (vs.getD i undef)):
  AVR G w (.fn f xs ys) (.func f us vs)
 |junk (v):AVR G w .junk v
 |ns:AVR G w .ns (.slice none 0 0)
 |nt (e:TypeId):AVR G w (.nt e) (.pointer none)
 |rs (r n c):AVR G w (.rs r n c) (.slice (some (at_ (G.b r) 0)) n c)
 |mp (r):AVR G w (.mp r) (.map (some (G.b r)))
 |sx (xs:List AV) (vs:Array Value) (hl:vs.size=xs.length) (hs:∀x∈xs,x.simple=true) (ho:∀i,i<xs.length→(vs.getD i undef).oneCell'=true) (h:∀i x,xs[i]?=some x→AVR G w x (vs.getD i undef)):
  AVR G w (.sx xs) (.agg vs)
def AV.lab?:AV→Option Lab
 |.own q _ _ _=>some q
 |_=>none
def AV.q7D(r:Ref):AV→Bool
 |.ptr r' _=>r'==r
 |.rs r' _ _=>r'==r
 |.mp r'=>r'==r
 |_=>false
def AV.has(r:Ref):AV→Bool
 |.ptr r' _=>r'==r
 |.rs r' _ _=>r'==r
 |.mp r'=>r'==r
 |.sx vs=>vs.any (AV.q7D r)
 |.tuple vs=>vs.any (AV.q7D r)
 |.fn _ a b=>a.any (AV.q7D r) || b.any (AV.q7D r)
 |_=>false
theorem AV.q4r{r:Ref}{x:AV}(h:x.simple=true):x.has r=x.q7D r:=by
 cases x<;>simp_all[AV.simple,AV.has,AV.q7D]
theorem AV.q2z{x:AV}(h:x.simple=true):x.lab?=none:=by
 cases x<;>simp_all[AV.simple,AV.lab?]
theorem AVR.mono{G G':q0s}{w w':World}(hx:Ext G.f w G'.f w'){x:AV}{v:Value}(h:AVR G w x v)
  (hb:∀r,x.has r=true→G'.b r=G.b r) (hl:∀q p,x.lab?=some q→G.lam q=some p→G'.lam q=some p):AVR G' w' x v:=by
 induction h with
 |d x v h=>exact .d x v (h.ext hx)
 |own q e sz l v hq hv hs=>exact .own q e sz l v (hl q _ rfl hq) (hv.ext hx) hs
 |ptr r off=>have:=hb r (by simp[AV.has]);rw[←this];exact .ptr r off
 |dptr cs b o vs hbb hc hr=>
  exact .dptr cs b o vs (Zbr hbb (hx.mono b)) (fun k hk=>(hx.keep b (o+k) (by omega)).trans (hc k hk)) (fun j y hj=>⟨(hr j y hj).1,(hr j y hj).2.ext hx⟩)
 |tuple xs vs hlen hs h ih=>
  refine .tuple xs vs hlen hs fun i x hi=>ih i x hi (fun r hr=>hb r ?_) (fun q p hq _=>?_)
  ·have hm:=Zaf hi;rw[AV.q4r (hs x hm)]at hr;exact Zbq.2 ⟨x,hm,hr⟩
  ·rw[AV.q2z (hs x (Zaf hi))]at hq;cases hq
 |fn f xs ys us vs hl1 hs1 h1 hl2 hs2 h2 ih1 ih2=>
  refine .fn f xs ys us vs hl1 hs1 (fun i x hi=>ih1 i x hi (fun r hr=>hb r ?_) (fun q p hq _=>?_)) hl2 hs2 (fun i x hi=>ih2 i x hi (fun r hr=>hb r ?_) (fun q p hq _=>?_))
  ·have hm:=Zaf hi;rw[AV.q4r (hs1 x hm)]at hr;simp only[AV.has,Zcc,Zbq];exact .inl ⟨x,hm,hr⟩
  ·rw[AV.q2z (hs1 x (Zaf hi))]at hq;cases hq
  ·have hm:=Zaf hi;rw[AV.q4r (hs2 x hm)]at hr;simp only[AV.has,Zcc,Zbq];exact .inr ⟨x,hm,hr⟩
  ·rw[AV.q2z (hs2 x (Zaf hi))]at hq;cases hq
 |junk v=>exact .junk v
 |ns=>exact .ns
 |nt e=>exact .nt e
 |rs r n c=>have:=hb r (by simp[AV.has]);rw[←this];exact .rs r n c
 |mp r=>have:=hb r (by simp[AV.has]);rw[←this];exact .mp r
 |sx xs vs hlen hs ho h ih=>
  refine .sx xs vs hlen hs ho fun i x hi=>ih i x hi (fun r hr=>hb r ?_) (fun q p hq _=>?_)
  ·have hm:=Zaf hi;rw[AV.q4r (hs x hm)]at hr;exact Zbq.2 ⟨x,hm,hr⟩
  ·rw[AV.q2z (hs x (Zaf hi))]at hq;cases hq
/-! ### Keyed lists -/
def aget{α:Type}:List (Nat×α)→Nat→Option α
 |[],_=>none
 |(k,v)::r,s=>if k=s then some v else aget r s
def aset{α:Type}:List (Nat×α)→Nat→α→List (Nat×α)
 |[],s,x=>[(s,x)]
 |(k,v)::r,s,x=>if k=s then(k,x)::r else(k,v)::aset r s x
def adel{α:Type}:List (Nat×α)→Nat→List (Nat×α)
 |[],_=>[]
 |(k,v)::r,s=>if k=s then adel r s else(k,v)::adel r s
def amap{α:Type}(g:α→α):List (Nat×α)→List (Nat×α)
 |[]=>[]
 |(k,v)::r=>(k,g v)::amap g r
theorem j3d{α:Type}(l:List (Nat×α))(s t:Nat)(x:α):aget (aset l s x) t=if s=t then some x else aget l t:=by
 induction l with
 |nil=>simp[aset,aget]
 |cons p r ih=>
  obtain⟨k,v⟩:=p;simp only[aset];split
  ·rename_i h;subst h;simp[aget];split<;>rfl
  ·rename_i h;simp only[aget,ih];split
   ·rename_i h';subst h';rw[if_neg (fun e=>h e.symm)]
   ·rfl
theorem q0O{α:Type}(l:List (Nat×α))(s t:Nat):aget (adel l s) t=if s=t then none else aget l t:=by
 induction l with
 |nil=>simp[adel,aget]
 |cons p r ih=>
  obtain⟨k,v⟩:=p;simp only[adel];split
  ·rename_i h;subst h;rw[ih];simp only[aget];split<;>rfl
  ·rename_i h;simp only[aget,ih];split
   ·rename_i h';subst h';rw[if_neg (fun e=>h e.symm)]
   ·rfl
theorem q0G{α:Type}(g:α→α)(l:List (Nat×α))(s:Nat):aget (amap g l) s=(aget l s).map g:=by
 induction l with
 |nil=>rfl
 |cons p r ih=>obtain⟨k,v⟩:=p;simp only[amap,aget,ih];split<;>simp
/-! ### States -/
inductive AObj where
 |cells (cs:List AV)
 |siter (s:List UInt8) (pos:Nat)
 |miter (left cur:List (D×D))
 |mobj (ks vs:List D)
 deriving Inhabited
structure St where
 ρ:List (Nat×AV)
 L:List (Nat×AObj)
 H:List (Nat×AObj)
def St.obj(σ:St):Ref→Option AObj
 |.l s=>aget σ.L s
 |.x r=>aget σ.H r
def St.get(σ:St)(s:Nat):AV:=(aget σ.ρ s).getD .junk
def z08{α:Type}(l:List (Nat×α))(s:Nat)(x:α):List (Nat×α):=(s,x)::l
theorem q3d{α:Type}(l:List (Nat×α))(s t:Nat)(x:α):aget (z08 l s x) t=if s=t then some x else aget l t:=rfl
def St.put(σ:St)(s:Nat)(x:AV):St:={ σ with ρ:=z08 σ.ρ s x }
def St.mark(σ:St)(s:Nat)(x:AV):St:={ σ with ρ:=aset σ.ρ s x }
def St.setObj(σ:St)(r:Ref)(o:AObj):St:=
 match r with
 |.l s=>{ σ with L:=aset σ.L s o }
 |.x k=>{ σ with H:=aset σ.H k o }
theorem St.q1s(σ:St)(r r':Ref)(o:AObj):(σ.setObj r o).obj r'=if r=r' then some o else σ.obj r':=by
 cases r<;>cases r'<;>simp[St.setObj,St.obj,j3d]
@[simp] theorem St.j0k(σ:St)(s:Nat)(x:AV)(r:Ref):(σ.put s x).obj r=σ.obj r:=by cases r<;>rfl
def j9X(G:q0s)(w:World)(r:Ref)(el:TypeId)(i:Nat)(x:AV)(v:Value):Prop:=
 AVR G w x v∧v.oneCell'=true∧(∀q,x.lab?=some q→q=.c r i)∧∀e,x=.nt e→e=el
def j28(f:Nat→Nat)(w:World)(m:Option Nat)(since:Nat)(seen:Array Nat)(c0:Nat)(left cur:List (D×D)):Prop:=
 match m with
 |none=>left=[]∧cur=[]
 |some b=>∃es,0<f b∧w.heap[b]?=some (.map es c0)∧(es.toList.map (·.born)).Nodup∧(∀e∈es.toList,e.born<since)∧since≤c0∧
  left.length=(es.toList.filter fun e => !seen.contains e.born).length∧
  (∀(i:Nat) (p:D×D) (e:MapEntry),left[i]?=some p→(es.toList.filter fun e => !seen.contains e.born)[i]?=some e→RD f w p.1 e.key∧RD f w p.2 e.val)∧
  (∀p∈cur,∃e∈es.toList,(∃s:Array Nat,seen=s.push e.born)∧RD f w p.1 e.key∧RD f w p.2 e.val)
theorem j28.ext{f f':Nat→Nat}{w w':World}(hx:Ext f w f' w'){m:Option Nat}{since:Nat}{seen:Array Nat}{c0:Nat}{left cur:List (D×D)}(h:j28 f w m since seen c0 left cur):j28 f' w' m since seen c0 left cur:=by
 cases m with
 |none=>simp only[j28]at h ⊢;exact h
 |some b=>
  obtain⟨es,h1,h2,h3,h4,h5,h6,h7,h8⟩:=h;exact⟨es,Zcf h1 (hx.mono b),hx.maps b es c0 h1 h2,h3,h4,h5,h6,fun i p e hp he=>⟨(h7 i p e hp he).1.ext hx,(h7 i p e hp he).2.ext hx⟩,
   fun p hp=>let⟨e,e1,e2,e3,e4⟩:=h8 p hp;⟨e,e1,e2,e3.ext hx,e4.ext hx⟩⟩
def MObj(f:Nat→Nat)(w:World)(es:Array MapEntry)(clock:Nat)(ks vs:List D):Prop:=
 ks.length=es.size∧vs.length=es.size∧(es.toList.map (·.born)).Nodup∧(∀e∈es.toList,e.born<clock)∧
  (∀(i:Nat) (k:D) (e:MapEntry),ks[i]?=some k→es[i]?=some e→RD f w k e.key)∧∀(i:Nat) (k:D) (e:MapEntry),vs[i]?=some k→es[i]?=some e→RD f w k e.val
theorem MObj.ext{f f':Nat→Nat}{w w':World}(hx:Ext f w f' w'){es:Array MapEntry}{clock:Nat}{ks vs:List D}(h:MObj f w es clock ks vs):MObj f' w' es clock ks vs:=
 ⟨h.1,h.2.1,h.2.2.1,h.2.2.2.1,fun i k e hk he=>(h.2.2.2.2.1 i k e hk he).ext hx,fun i k e hk he=>(h.2.2.2.2.2 i k e hk he).ext hx⟩
def ObjR(G:q0s)(w:World)(r:Ref):AObj→Prop
 |.cells cs=>∃arr el,w.heap[G.b r]?=some (.cells arr el (0,0))∧arr.size=cs.length∧∀i x,cs[i]?=some x→j9X G w r el i x (arr.getD i undef)
 |.siter s pos=>w.heap[G.b r]?=some (.stringIter ⟨s.toArray⟩ pos)
 |.mobj ks vs=>∃es clock,w.heap[G.b r]?=some (.map es clock)∧MObj G.f w es clock ks vs
 |.miter left cur=>∃m since seen c0,w.heap[G.b r]?=some (.mapIter m since seen c0)∧j28 G.f w m since seen c0 left cur
def z3F(f:Nat→Nat)(w:World)(v:Value)(e sz:Nat):Prop:=
 ∃n xs,w.ownsRow 0 e sz v n xs∧∀b,v.ownBlock=some b→f b=n*sz
structure Entry where
 w0:World
 f0:Nat→Nat
 M:Nat→Prop
 b0:Nat→Nat
structure SR(E:Entry)(n:Nat)(G:q0s)(σ:St)(ts:Array Value)(w:World):Prop where
 size:ts.size=n
 slot:∀s x,aget σ.ρ s=some x→AVR G w x (ts.getD s undef)
 obj:∀r o,σ.obj r=some o→ObjR G w r o
 objf:∀r o,σ.obj r=some o→G.f (G.b r)=0
 inj:∀r r' o o',σ.obj r=some o→σ.obj r'=some o'→G.b r=G.b r'→r=r'
 lam:∀q v e sz,G.lam q=some (v,e,sz)→z3F G.f w v e sz
 lamObj:∀q v e sz b,G.lam q=some (v,e,sz)→v.ownBlock=some b→∀r o,σ.obj r=some o→G.b r≠b
 lamInj:∀q q' v v' p p' b,G.lam q=some (v,p)→G.lam q'=some (v',p')→v.ownBlock=some b→v'.ownBlock=some b→q=q'
 newObj:∀r o,σ.obj r=some o→E.w0.heap.size≤G.b r∨E.M (G.b r)
 newLam:∀q v e sz b,G.lam q=some (v,e,sz)→v.ownBlock=some b→E.w0.heap.size≤b∨E.M b
 ext:Ext E.f0 E.w0 G.f w
 fr:∀b,b<E.w0.heap.size→¬E.M b→w.heap[b]?=E.w0.heap[b]?∧G.f b=E.f0 b
 top:∀b,w.heap.size≤b→G.f b=0
 ext0:∀r,r≠1000→G.b (.x r)=E.b0 r
 own0:∀r cs x s,σ.obj (.x r)=some (.cells cs)→x∈cs→x.has (.l s)=false
 os:w.os=E.w0.os
 tape:w.tape=E.w0.tape
 output:w.output=E.w0.output
theorem ObjR.lt{G:q0s}{w:World}{r:Ref}{o:AObj}(h:ObjR G w r o):G.b r<w.heap.size:=by
 cases o with
 |cells cs=>obtain⟨arr,el,h,_⟩:=h;exact(Zar.1 h).1
 |siter s p=>exact(Zar.1 h).1
 |miter l c=>obtain⟨_,_,_,_,h,_⟩:=h;exact(Zar.1 h).1
 |mobj l c=>obtain⟨_,_,h,_⟩:=h;exact(Zar.1 h).1
theorem z3F.lt{f:Nat→Nat}{w:World}{v:Value}{e sz b:Nat}(h:z3F f w v e sz)(hb:v.ownBlock=some b):b<w.heap.size:=by
 obtain⟨n,xs,h,_⟩:=h;exact(h.lt b hb).2
theorem SR.put{E:Entry}{n:Nat}{G:q0s}{σ:St}{ts:Array Value}{w:World}(h:SR E n G σ ts w){s:Nat}{x:AV}{v:Value}(hv:AVR G w x v)(hs:s<n):
  SR E n G (σ.put s x) (ts.setIfInBounds s v) w:=by
 refine{ h with size:=by simp[h.size],slot:=?_,obj:=fun r o ho=>h.obj r o (by simpa using ho),objf:=fun r o ho=>h.objf r o (by simpa using ho),inj:=fun r r' o o' ho ho'=>h.inj r r' o o' (by simpa using ho) (by simpa using ho'),lamObj:=fun q v e sz b h1 h2 r o ho=>h.lamObj q v e sz b h1 h2 r o (by simpa using ho),newObj:=fun r o ho=>h.newObj r o (by simpa using ho),own0:=fun r cs x s ho=>h.own0 r cs x s (by simpa using ho) };intro s' x' hx;simp only[St.put,q3d]at hx;have hsz:=h.size
 by_cases e:s=s'
 ·subst e;simp at hx;subst hx;simpa[Zav,Array.getElem?_setIfInBounds_self_of_lt,hsz,hs]using hv
 ·rw[if_neg e]at hx;have:=h.slot s' x' hx;simpa[Zav,Zbp e]using this
def Sub{α:Type}:List (Nat×α)→List (Nat×α)→Prop
 |[],_=>True
 |(s,x)::r,l=>aget l s=some x∧Sub r l
theorem Sub.get{α:Type}{l m:List (Nat×α)}(h:Sub l m){s:Nat}{x:α}(hx:aget l s=some x):aget m s=some x:=by
 induction l with
 |nil=>simp[aget]at hx
 |cons p r ih=>
  obtain⟨k,v⟩:=p;simp only[aget]at hx;split at hx
  ·rename_i e;subst e;cases hx;exact h.1
  ·exact ih h.2 hx
structure Weak(τ σ:St):Prop where
 ρ:Sub τ.ρ σ.ρ
 L:Sub τ.L σ.L
 H:Sub τ.H σ.H
theorem Weak.obj{τ σ:St}(h:Weak τ σ){r:Ref}{o:AObj}(ho:τ.obj r=some o):σ.obj r=some o:=by
 cases r with
 |l s=>exact h.L.get ho
 |x r=>exact h.H.get ho
structure Wk(τ σ:St):Prop where
 ρ:∀s x,aget τ.ρ s=some x→aget σ.ρ s=some x
 obj:∀r o,τ.obj r=some o→σ.obj r=some o
theorem Weak.wk{τ σ:St}(h:Weak τ σ):Wk τ σ:=⟨fun _ _=>h.ρ.get,fun _ _=>h.obj⟩
theorem Wk.refl(σ:St):Wk σ σ:=⟨fun _ _ h=>h,fun _ _ h=>h⟩
theorem SR.wk{E:Entry}{n:Nat}{G:q0s}{σ τ:St}{ts:Array Value}{w:World}(h:SR E n G σ ts w)(hw:Wk τ σ):SR E n G τ ts w:=
 { h with slot:=fun s x hx=>h.slot s x (hw.ρ s x hx),obj:=fun r o ho=>h.obj r o (hw.obj r o ho),objf:=fun r o ho=>h.objf r o (hw.obj r o ho),inj:=fun r r' o o' ho ho'=>h.inj r r' o o' (hw.obj r o ho) (hw.obj r' o' ho'),lamObj:=fun q v e sz b h1 h2 r o ho=>h.lamObj q v e sz b h1 h2 r o (hw.obj r o ho),newObj:=fun r o ho=>h.newObj r o (hw.obj r o ho),own0:=fun r cs x s ho=>h.own0 r cs x s (hw.obj _ _ ho) }
end Go.Av
/- Steps of abstract states: labels are given up and renamed, memory is made, cells are written. -/
namespace Go.Av
def updf{α β:Type}[DecidableEq α](f:α→β)(a:α)(v:β):α→β:=fun x=>if x=a then v else f x
@[simp] theorem q03{α β:Type}[DecidableEq α](f:α→β)(a:α)(v:β):updf f a v a=v:=by simp[updf]
theorem q0J{α β:Type}[DecidableEq α](f:α→β){a x:α}(v:β)(h:x≠a):updf f a v x=f x:=by simp[updf,h]
/-! ### Labels -/
def AV.erase(q:Lab):AV→AV
 |.own q' e sz l=>if q'=q then .d (.list l)else .own q' e sz l
 |x=>x
def amod{α:Type}:List α→Nat→(α→α)→List α
 |[],_,_=>[]
 |x::r,0,g=>g x::r
 |x::r,i+1,g=>x::amod r i g
theorem z3P{α:Type}(l:List α)(i:Nat)(g:α→α):(amod l i g).length=l.length:=by
 induction l generalizing i with
 |nil=>rfl
 |cons x r ih=>cases i<;>simp[amod,ih]
theorem j00{α:Type}(l:List α)(i j:Nat)(g:α→α):(amod l i g)[j]?=if i=j then l[j]?.map g else l[j]?:=by
 induction l generalizing i j with
 |nil=>simp[amod]
 |cons x r ih=>cases i<;>cases j<;>simp[amod,ih]
theorem j6u{α:Type}{l:List α}{i:Nat}{g:α→α}{y:α}(h:y∈amod l i g):∃x∈l,y=x∨y=g x:=by
 obtain⟨j,hj⟩:=Zbt.1 h;rw[j00]at hj;split at hj
 ·cases hx:l[j]? with
  |none=>simp[hx]at hj
  |some x=>simp[hx]at hj;exact⟨x,Zaf hx,.inr hj.symm⟩
 ·exact⟨y,Zaf hj,.inl rfl⟩
def q10(q:Lab)(r:Ref)(o:AObj):AObj:=
 match o,q with
 |.cells cs,.c r' off=>if r'=r then .cells (amod cs off (AV.erase q))else .cells cs
 |o,_=>o
def St.erase(σ:St)(q:Lab):St:=
 let σ':St:={ σ with ρ:=amap (AV.erase q) σ.ρ }
 match q with
 |.t _=>σ'
 |.c r off=>match σ'.obj r with
  |some (.cells cs)=>σ'.setObj r (.cells (amod cs off (AV.erase q)))
  |_=>σ'
theorem AV.j33(q:Lab)(x:AV)(r:Ref):(x.erase q).has r=x.has r:=by
 cases x<;>simp[AV.erase];split<;>simp[AV.has]
theorem AVR.erase{G:q0s}{w:World}{x:AV}{v:Value}(h:AVR G w x v)(q:Lab):
  AVR { G with lam:=updf G.lam q none } w (x.erase q) v:=by
 cases h with
 |own q' e sz l v hq hv hs=>
  by_cases e':q'=q
  ·simp only[AV.erase,if_pos e'];exact .d _ _ hv
  ·simp only[AV.erase,if_neg e'];exact .own q' e sz l v (by simpa[updf,e']using hq) hv hs
 |d x v h=>exact .d x v h
 |ptr r off=>exact .ptr r off
 |dptr cs b o vs hb hc hr=>exact .dptr cs b o vs hb hc hr
 |tuple xs vs hl hs h=>exact AVR.mono (G:=G) (w:=w) (h:=.tuple xs vs hl hs h) (G':={ G with lam:=updf G.lam q none }) (Ext.refl _ _) (fun _ _=>rfl) (fun q p hq=>by cases hq)
 |fn f xs ys us vs a b c d e g=>exact AVR.mono (G:=G) (w:=w) (h:=.fn f xs ys us vs a b c d e g) (G':={ G with lam:=updf G.lam q none }) (Ext.refl _ _) (fun _ _=>rfl) (fun q p hq=>by cases hq)
 |junk v=>exact .junk v
 |ns=>exact .ns
 |nt e=>exact .nt e
 |rs r n c=>exact .rs r n c
 |mp r=>exact .mp r
 |sx xs vs hl hs ho h=>exact AVR.mono (G:=G) (w:=w) (h:=.sx xs vs hl hs ho h) (G':={ G with lam:=updf G.lam q none }) (Ext.refl _ _) (fun _ _=>rfl) (fun q p hq=>by cases hq)
theorem AVR.q6o{G:q0s}{w:World}{x:AV}{v:Value}(h:AVR G w x v){q:Lab}(hn:∀q',x.lab?=some q'→q'≠q):
  AVR { G with lam:=updf G.lam q none } w x v:=
 AVR.mono (G:=G) (w:=w) (h:=h) (G':={ G with lam:=updf G.lam q none }) (Ext.refl _ _) (fun _ _=>rfl) (fun q' p hq hp=>by show updf G.lam q none q'=some p;rw[q0J _ _ (hn q' hq)];exact hp)
theorem St.q4u(σ:St)(q:Lab)(r:Ref):(σ.erase q).obj r=(σ.obj r).map (q10 q r):=by
 have h0:∀r,St.obj { σ with ρ:=amap (AV.erase q) σ.ρ } r=σ.obj r:=fun r=>by cases r<;>rfl
 cases q with
 |t s=>
  simp only[St.erase,h0];cases σ.obj r with
  |none=>rfl
  |some o=>cases o<;>rfl
 |c r' off=>
  simp only[St.erase,h0];split
  ·rename_i cs hcs;rw[St.q1s,h0]
   by_cases e:r'=r
   ·subst e;simp[hcs,q10]
   ·rw[if_neg e];cases σ.obj r with
    |none=>rfl
    |some o=>cases o<;>simp[q10,e]
  ·rename_i hcs;rw[h0];cases ho:σ.obj r with
   |none=>rfl
   |some o=>
    cases o with
    |siter s p=>rfl
    |miter l c=>rfl
    |mobj l c=>rfl
    |cells cs=>
     have e:r'≠r:=fun e=>hcs cs (by rw[e];exact ho)
     simp[q10,e]
theorem St.j8Z(σ:St)(q:Lab):(σ.erase q).ρ=amap (AV.erase q) σ.ρ:=by
 cases q with
 |t s=>rfl
 |c r off=>
  simp only[St.erase];split
  ·cases r<;>rfl
  ·rfl
theorem ObjR.erase{G:q0s}{w:World}{r:Ref}{o:AObj}(h:ObjR G w r o)(q:Lab):ObjR { G with lam:=updf G.lam q none } w r (q10 q r o):=by
 cases o with
 |siter s p=>cases q<;>exact h
 |miter l c=>cases q<;>exact h
 |mobj l c=>cases q<;>exact h
 |cells cs=>
  obtain⟨arr,el,h1,h2,h3⟩:=h;cases q with
  |t s=>
   refine⟨arr,el,h1,h2,fun i x hi=>⟨(h3 i x hi).1.q6o (fun q' hq=>?_),(h3 i x hi).2⟩⟩;rw[(h3 i x hi).2.2.1 q' hq];simp
  |c r' off=>
   by_cases e:r'=r
   ·subst e;simp only[q10,if_true];refine⟨arr,el,h1,by simp[z3P,h2],fun i x hi=>?_⟩;simp only[j00]at hi
    by_cases e:off=i
    ·subst e;rw[if_pos rfl]at hi;cases hx:cs[off]? with
     |none=>simp[hx]at hi
     |some y=>
      simp[hx]at hi;subst hi;refine⟨(h3 off y hx).1.erase _,(h3 off y hx).2.1,fun q' hq=>?_,fun e he=>(h3 off y hx).2.2.2 e (by cases y<;>simp[AV.erase]at he ⊢<;>first|exact he|(split at he<;>cases he))⟩;have h5:=(h3 off y hx).2.2.1 q';cases y with
      |own q'' e' sz l=>
       by_cases e'':q''=Lab.c r' off
       ·simp[AV.erase,e'',AV.lab?]at hq
       ·simp[AV.erase,e'',AV.lab?]at hq;exact h5 (by simp[AV.lab?,hq])
      |_=>simp[AV.erase,AV.lab?]at hq
    ·rw[if_neg e]at hi;refine⟨(h3 i x hi).1.q6o (fun q' hq=>?_),(h3 i x hi).2⟩;rw[(h3 i x hi).2.2.1 q' hq];simp;exact fun h=>e h.symm
   ·simp only[q10,if_neg e];refine⟨arr,el,h1,h2,fun i x hi=>⟨(h3 i x hi).1.q6o (fun q' hq=>?_),(h3 i x hi).2⟩⟩;rw[(h3 i x hi).2.2.1 q' hq];simp;exact fun h _=>e h.symm
theorem z7W{q:Lab}{r:Ref}{o:AObj}{cs:List AV}(h:q10 q r o=.cells cs):∃cs',o=.cells cs'∧∀y∈cs,∃x∈cs',∀t,y.has t=x.has t:=by
 cases o with
 |siter s p=>cases q<;>simp[q10]at h
 |miter l c=>cases q<;>simp[q10]at h
 |mobj l c=>cases q<;>simp[q10]at h
 |cells cs'=>
  refine⟨cs',rfl,?_⟩;cases q with
  |t s=>simp[q10]at h;subst h;exact fun y hy=>⟨y,hy,fun _=>rfl⟩
  |c r' off=>
   simp only[q10]at h;split at h
   ·simp at h;subst h;intro y hy;obtain⟨x,hx,e|e⟩:=j6u hy
    ·exact⟨x,hx,fun _=>by rw[e]⟩
    ·exact⟨x,hx,fun t=>by rw[e,AV.j33]⟩
   ·simp at h;subst h;exact fun y hy=>⟨y,hy,fun _=>rfl⟩
variable {E:Entry} {n:Nat} {G:q0s} {σ:St} {ts:Array Value} {w:World}
theorem SR.erase(h:SR E n G σ ts w)(q:Lab):SR E n { G with lam:=updf G.lam q none } (σ.erase q) ts w:=by
 have ho:∀r o,(σ.erase q).obj r=some o→∃o',σ.obj r=some o'∧o=q10 q r o':=fun r o ho=>by
  rw[St.q4u]at ho;cases hx:σ.obj r with
  |none=>simp[hx]at ho
  |some o'=>simp[hx]at ho;exact⟨o',rfl,ho.symm⟩
 have hl:∀q' p,updf G.lam q none q'=some p→G.lam q'=some p:=fun q' p hp=>by
  simp only[updf]at hp;split at hp
  ·cases hp
  ·exact hp
 refine⟨h.size,fun s x hx=>?_,fun r o hr=>?_,fun r o hr=>?_,fun r r' o o' hr hr'=>?_,fun q' v e sz hq=>h.lam q' v e sz (hl _ _ hq),fun q' v e sz b hq hb r o hr=>?_,
  fun q1 q2 v v' p p' b h1 h2=>h.lamInj q1 q2 v v' p p' b (hl _ _ h1) (hl _ _ h2),fun r o hr=>?_,fun q' v e sz b hq=>h.newLam q' v e sz b (hl _ _ hq),h.ext,h.fr,h.top,h.ext0,fun r cs x s hr hx=>?_,h.os,h.tape,h.output⟩
 ·rw[St.j8Z,q0G]at hx;cases hy:aget σ.ρ s with
  |none=>simp[hy]at hx
  |some y=>simp[hy]at hx;subst hx;exact(h.slot s y hy).erase q
 ·obtain⟨o',h1,rfl⟩:=ho r o hr;exact(h.obj r o' h1).erase q
 ·obtain⟨o',h1,rfl⟩:=ho r o hr;exact h.objf r o' h1
 ·obtain⟨o1,h1,rfl⟩:=ho r o hr;obtain⟨o2,h2,rfl⟩:=ho r' o' hr';exact h.inj r r' o1 o2 h1 h2
 ·obtain⟨o',h1,rfl⟩:=ho r o hr;exact h.lamObj q' v e sz b (hl _ _ hq) hb r o' h1
 ·obtain⟨o',h1,rfl⟩:=ho r o hr;exact h.newObj r o' h1
 ·obtain⟨o',h1,h2⟩:=ho _ _ hr;obtain⟨cs',rfl,h3⟩:=z7W h2.symm;obtain⟨y,hy,h4⟩:=h3 x hx;rw[h4];exact h.own0 r cs' y s h1 hy
end Go.Av
/- Steps of abstract states, continued: a label is renamed; memory is made; a cell is written; a row grows. -/
namespace Go.Av
variable {E:Entry} {n:Nat} {G:q0s} {σ:St} {ts:Array Value} {w:World}
/-! ### A slot's label is renamed -/
def AV.rename(q q':Lab):AV→AV
 |.own p e sz l=>if p=q then .own q' e sz l else .own p e sz l
 |x=>x
theorem AVR.rename{x:AV}{v:Value}(h:AVR G w x v)(s:Nat)(q':Lab)(hq:G.lam q'=none):
  AVR { G with lam:=updf (updf G.lam q' (G.lam (.t s))) (.t s) none } w (x.rename (.t s) q') v:=by
 have hne:∀p,G.lam (.t s)=some p→q'≠.t s:=fun p hp e=>by rw[e,hp]at hq;cases hq
 cases h with
 |own p e sz l v hp hv hs=>
  by_cases e':p=.t s
  ·subst e';simp only[AV.rename,if_true];exact .own q' e sz l v (by show updf (updf G.lam q' (G.lam (.t s))) (.t s) none q'=_;rw[q0J _ _ (hne _ hp),q03];exact hp) hv hs
  ·have h2:p≠q':=fun e=>by rw[e,hq]at hp;cases hp
   simp only[AV.rename,if_neg e'];exact .own p e sz l v (by show updf (updf G.lam q' (G.lam (.t s))) (.t s) none p=_;rw[q0J _ _ e',q0J _ _ h2];exact hp) hv hs
 |d x v h=>exact .d x v h
 |ptr r off=>exact .ptr r off
 |dptr cs b o vs hb hc hr=>exact .dptr cs b o vs hb hc hr
 |tuple xs vs hl hs h=>exact AVR.mono (G:=G) (w:=w) (h:=.tuple xs vs hl hs h) (G':={ G with lam:=updf (updf G.lam q' (G.lam (.t s))) (.t s) none }) (Ext.refl _ _) (fun _ _=>rfl) (fun q p hq=>by cases hq)
 |fn f xs ys us vs a b c d e g=>exact AVR.mono (G:=G) (w:=w) (h:=.fn f xs ys us vs a b c d e g) (G':={ G with lam:=updf (updf G.lam q' (G.lam (.t s))) (.t s) none }) (Ext.refl _ _) (fun _ _=>rfl) (fun q p hq=>by cases hq)
 |junk v=>exact .junk v
 |ns=>exact .ns
 |nt e=>exact .nt e
 |rs r n c=>exact .rs r n c
 |mp r=>exact .mp r
 |sx xs vs hl hs ho h=>exact AVR.mono (G:=G) (w:=w) (h:=.sx xs vs hl hs ho h) (G':={ G with lam:=updf (updf G.lam q' (G.lam (.t s))) (.t s) none }) (Ext.refl _ _) (fun _ _=>rfl) (fun q p hq=>by cases hq)
theorem SR.rename(h:SR E n G σ ts w)(s:Nat)(q':Lab)(hq:G.lam q'=none):
  SR E n { G with lam:=updf (updf G.lam q' (G.lam (.t s))) (.t s) none } { σ with ρ:=amap (AV.rename (.t s) q') σ.ρ } ts w:=by
 have hobj:∀r,St.obj { σ with ρ:=amap (AV.rename (.t s) q') σ.ρ } r=σ.obj r:=fun r=>by cases r<;>rfl
 have pre:∀q p,updf (updf G.lam q' (G.lam (.t s))) (.t s) none q=some p→q≠.t s∧((q=q'∧G.lam (.t s)=some p)∨(q≠q'∧G.lam q=some p)):=fun q p hp=>by
  simp only[updf]at hp;split at hp
  ·cases hp
  ·rename_i h1;split at hp
   ·rename_i h2;exact⟨h1,.inl ⟨h2,hp⟩⟩
   ·rename_i h2;exact⟨h1,.inr ⟨h2,hp⟩⟩
 have any:∀q p,updf (updf G.lam q' (G.lam (.t s))) (.t s) none q=some p→∃q0,G.lam q0=some p:=fun q p hp=>by
  rcases(pre q p hp).2 with⟨_,h⟩|⟨_,h⟩<;>exact⟨_,h⟩
 refine⟨h.size,fun t x hx=>?_,fun r o hr=>?_,fun r o hr=>h.objf r o (by rw[←hobj];exact hr),fun r r' o o' hr hr'=>h.inj r r' o o' (by rw[←hobj];exact hr) (by rw[←hobj];exact hr'),
  fun q v e sz hp=>?_,fun q v e sz b hp hb r o hr=>?_,fun q1 q2 v v' p p' b h1 h2 hb hb'=>?_,fun r o hr=>h.newObj r o (by rw[←hobj];exact hr),fun q v e sz b hp hb=>?_,h.ext,h.fr,h.top,h.ext0,
  fun r cs x t hr=>h.own0 r cs x t (by rw[←hobj];exact hr),h.os,h.tape,h.output⟩
 ·rw[q0G]at hx;cases hy:aget σ.ρ t with
  |none=>simp[hy]at hx
  |some y=>simp[hy]at hx;subst hx;exact(h.slot t y hy).rename s q' hq
 ·rw[hobj]at hr;have ho:=h.obj r o hr;cases o with
  |siter s p=>exact ho
  |miter l c=>exact ho
  |mobj l c=>exact ho
  |cells cs=>
   obtain⟨arr,el,h1,h2,h3⟩:=ho;refine⟨arr,el,h1,h2,fun i x hi=>⟨?_,(h3 i x hi).2⟩⟩;refine AVR.mono (G:=G) (w:=w) (h:=(h3 i x hi).1) (G':={ G with lam:=updf (updf G.lam q' (G.lam (.t s))) (.t s) none }) (Ext.refl _ _) (fun _ _=>rfl) (fun q p hl hp=>?_);have h4:=(h3 i x hi).2.2.1 q hl;have h5:q≠q':=fun e=>by rw[e,hq]at hp;cases hp
   show updf (updf G.lam q' (G.lam (.t s))) (.t s) none q=some p
   rw[q0J _ _ (by rw[h4];simp),q0J _ _ h5];exact hp
 ·obtain⟨q0,h0⟩:=any q _ hp;exact h.lam q0 v e sz h0
 ·obtain⟨q0,h0⟩:=any q _ hp;exact h.lamObj q0 v e sz b h0 hb r o (by rw[←hobj];exact hr)
 ·obtain⟨n1,c1⟩:=pre q1 _ h1;obtain⟨n2,c2⟩:=pre q2 _ h2;rcases c1 with⟨e1,g1⟩|⟨e1,g1⟩<;>rcases c2 with⟨e2,g2⟩|⟨e2,g2⟩
  ·rw[e1,e2]
  ·exact absurd (h.lamInj _ _ v v' p p' b g1 g2 hb hb').symm n2
  ·exact absurd (h.lamInj _ _ v v' p p' b g1 g2 hb hb') n1
  ·exact h.lamInj _ _ v v' p p' b g1 g2 hb hb'
 ·obtain⟨q0,h0⟩:=any q _ hp;exact h.newLam q0 v e sz b h0 hb
/-! ### A draw; new memory -/
theorem Ext.of_heap{f:Nat→Nat}{w w':World}(h:w'.heap=w.heap):Ext f w f w':=
 ⟨by rw[h];exact Zak _,fun _=>Zak _,fun b i _=>by simp[World.cell?,h],fun b es c _ hm=>by rw[h];exact hm⟩
theorem ObjR.mono{G G':q0s}{w w':World}{r:Ref}{o:AObj}(h:ObjR G w r o)(hx:Ext G.f w G'.f w')(hb:G'.b r=G.b r)(hh:w'.heap[G.b r]?=w.heap[G.b r]?)
  (hbs:∀cs x,o=.cells cs→x∈cs→∀r',x.has r'=true→G'.b r'=G.b r') (hl:∀i p,G.lam (.c r i)=some p→G'.lam (.c r i)=some p):ObjR G' w' r o:=by
 cases o with
 |siter s p=>show w'.heap[G'.b r]?=_;rw[hb,hh];exact h
 |mobj l c=>obtain⟨es,clock,h1,h2⟩:=h;exact⟨es,clock,by rw[hb,hh];exact h1,h2.ext hx⟩
 |miter l c=>obtain⟨m,since,seen,c0,h1,h2⟩:=h;exact⟨m,since,seen,c0,by rw[hb,hh];exact h1,h2.ext hx⟩
 |cells cs=>
  obtain⟨arr,el,h1,h2,h3⟩:=h;refine⟨arr,el,by rw[hb,hh];exact h1,h2,fun i x hi=>⟨(h3 i x hi).1.mono hx (hbs cs x rfl (Zaf hi)) (fun q p hq hp=>?_),(h3 i x hi).2⟩⟩;have:=(h3 i x hi).2.2.1 q hq;subst this;exact hl i p hp
theorem z3F.mono{f f':Nat→Nat}{w w':World}{v:Value}{e sz:Nat}(h:z3F f w v e sz)(hb:∀b,v.ownBlock=some b→w'.heap[b]?=w.heap[b]?∧f' b=f b):z3F f' w' v e sz:=by
 obtain⟨n,xs,h1,h2⟩:=h;refine⟨n,xs,⟨h1.1,?_⟩,fun b hv=>by rw[(hb b hv).2];exact h2 b hv⟩;rcases h1.2 with h|⟨g,cap,cur,rfl,hg,hh,r⟩
 ·exact .inl h
 ·exact .inr ⟨g,cap,cur,rfl,hg,by rw[(hb g rfl).1];exact hh,r⟩
theorem SR.z0m(h:SR E n G σ ts w){w':World}{f':Nat→Nat}(X:Nat→Prop)(hX:∀b,X b→(∀r o,σ.obj r=some o→G.b r≠b)∧(∀q v p,G.lam q=some (v,p)→v.ownBlock≠some b)∧(E.w0.heap.size≤b∨E.M b))
  (hx:Ext G.f w f' w') (hold:∀b,b<w.heap.size→¬X b→w'.heap[b]?=w.heap[b]?∧f' b=G.f b)
  (ht:∀b,w'.heap.size≤b→f' b=0) (hos:w'.os=w.os) (htp:w'.tape=w.tape) (hout:w'.output=w.output):SR E n { G with f:=f' } σ ts w':=by
 have hlt:∀r o,σ.obj r=some o→G.b r<w.heap.size:=fun r o ho=>(h.obj r o ho).lt
 have ho':∀r o,σ.obj r=some o→w'.heap[G.b r]?=w.heap[G.b r]?∧f' (G.b r)=G.f (G.b r):=fun r o ho=>hold _ (hlt r o ho) (fun hx=>(hX _ hx).1 r o ho rfl)
 refine⟨h.size,fun s x hx'=>(h.slot s x hx').mono (G':={ G with f:=f' }) hx (fun _ _=>rfl) (fun _ _ _ hp=>hp),fun r o ho=>?_,fun r o ho=>?_,h.inj,fun q v e sz hq=>?_,h.lamObj,h.lamInj,h.newObj,h.newLam,h.ext.trans hx,fun b hb hM=>?_,ht,h.ext0,h.own0,
  hos.trans h.os,htp.trans h.tape,hout.trans h.output⟩
 ·exact(h.obj r o ho).mono (G':={ G with f:=f' }) hx rfl (ho' r o ho).1 (fun _ _ _ _ _ _=>rfl) (fun _ _ hp=>hp)
 ·show f' (G.b r)=0;rw[(ho' r o ho).2];exact h.objf r o ho
 ·exact(h.lam q v e sz hq).mono fun b hb=>hold b ((h.lam q v e sz hq).lt hb) (fun hx=>(hX _ hx).2.1 q v _ hq hb)
 ·have hb':=Zcf hb h.ext.size
  have h1:=hold b hb' (fun hx=>by rcases(hX b hx).2.2 with h|h;· omega
                                  ·exact hM h)
  exact⟨h1.1.trans (h.fr b hb hM).1,h1.2.trans (h.fr b hb hM).2⟩
theorem SR.world(h:SR E n G σ ts w){w':World}{f':Nat→Nat}(hx:Ext G.f w f' w')(hold:∀b,b<w.heap.size→w'.heap[b]?=w.heap[b]?∧f' b=G.f b)
  (ht:∀b,w'.heap.size≤b→f' b=0) (hos:w'.os=w.os) (htp:w'.tape=w.tape) (hout:w'.output=w.output):SR E n { G with f:=f' } σ ts w':=
 h.z0m (fun _=>False) (fun _ h=>h.elim) hx (fun b hb _=>hold b hb) ht hos htp hout
theorem SR.drew(h:SR E n G σ ts w):SR E n G σ ts w.drew:=
 h.world (f':=G.f) (Ext.of_heap rfl) (fun _ _=>⟨rfl,rfl⟩) (fun b hb=>h.top b hb) rfl rfl rfl
theorem q11(w:World)(o:Obj){b:Nat}(hb:b<w.heap.size):(w.alloc o).heap[b]?=w.heap[b]?:=by
 show(w.heap.push o)[b]?=_
 rw[Array.getElem?_push,if_neg (by omega)]
theorem q1x(w:World)(o:Obj):(w.alloc o).heap[w.heap.size]?=some o:=by
 show(w.heap.push o)[w.heap.size]?=_
 simp
theorem Ext.alloc{f:Nat→Nat}(w:World)(ht:∀b,w.heap.size≤b→f b=0)(o:Obj)(k:Nat):Ext f w (updf f w.heap.size k) (w.alloc o):=by
 refine⟨by simp,fun b=>?_,fun b i hi=>?_,fun b es c hb hm=>by rw[q11 w o (Zar.1 hm).1];exact hm⟩
 ·by_cases e:b=w.heap.size
  ·rw[e,ht _ (Zak _)];exact Zay _
  ·rw[q0J _ _ e];exact Zak _
 ·have hb:b<w.heap.size:=by
   rcases Zbi b w.heap.size with h|h
   ·exact h
   ·rw[ht b h]at hi;omega
  simp only[World.cell?,at_];rw[q11 w o hb]
theorem SR.alloc(h:SR E n G σ ts w)(o:Obj)(k:Nat):SR E n { G with f:=updf G.f w.heap.size k } σ ts (w.alloc o):=by
 refine h.world (Ext.alloc w h.top o k) (fun b hb=>⟨q11 w o hb,q0J _ _ (by omega)⟩) (fun b hb=>?_) rfl rfl rfl;simp at hb;rw[q0J _ _ (by omega)];exact h.top b (by omega)
theorem SR.z7C(h:SR E n G σ ts w)(q:Lab)(hq:G.lam q=none){v:Value}{e sz:Nat}(hv:z3F G.f w v e sz)
  (hb:∀b,v.ownBlock=some b→(∀r o,σ.obj r=some o→G.b r≠b)∧(∀q' v' p,G.lam q'=some (v',p)→v'.ownBlock≠some b)∧(E.w0.heap.size≤b∨E.M b)):
  SR E n { G with lam:=updf G.lam q (some (v,e,sz)) } σ ts w:=by
 have pre:∀q' p,updf G.lam q (some (v,e,sz)) q'=some p→(q'=q∧p=(v,e,sz))∨(q'≠q∧G.lam q'=some p):=fun q' p hp=>by
  simp only[updf]at hp;split at hp
  ·rename_i h;exact .inl ⟨h,by simpa using hp.symm⟩
  ·rename_i h;exact .inr ⟨h,hp⟩
 have keep:∀q' p,G.lam q'=some p→updf G.lam q (some (v,e,sz)) q'=some p:=fun q' p hp=>by
  rw[q0J _ _ (fun e=>by rw[e,hq]at hp;cases hp)];exact hp
 refine⟨h.size,fun s x hx=>AVR.mono (G:=G) (w:=w) (h:=h.slot s x hx) (G':={ G with lam:=updf G.lam q (some (v,e,sz)) }) (Ext.refl _ _) (fun _ _=>rfl) (fun q' p _ hp=>keep q' p hp),fun r o ho=>?_,h.objf,h.inj,fun q' v' e' sz' hp=>?_,fun q' v' e' sz' b hp hb' r o ho=>?_,
  fun q1 q2 v1 v2 p1 p2 b h1 h2 hb1 hb2=>?_,h.newObj,fun q' v' e' sz' b hp hb'=>?_,h.ext,h.fr,h.top,h.ext0,h.own0,h.os,h.tape,h.output⟩
 ·exact(h.obj r o ho).mono (G':={ G with lam:=updf G.lam q (some (v,e,sz)) }) (Ext.refl _ _) rfl rfl (fun _ _ _ _ _ _=>rfl) (fun i p hp=>keep _ p hp)
 ·rcases pre q' _ hp with⟨_,e1⟩|⟨_,hp⟩
  ·cases e1;exact hv
  ·exact h.lam q' v' e' sz' hp
 ·rcases pre q' _ hp with⟨_,e1⟩|⟨_,hp⟩
  ·cases e1;exact(hb b hb').1 r o ho
  ·exact h.lamObj q' v' e' sz' b hp hb' r o ho
 ·rcases pre q1 _ h1 with⟨e1,c1⟩|⟨_,c1⟩<;>rcases pre q2 _ h2 with⟨e2,c2⟩|⟨_,c2⟩
  ·rw[e1,e2]
  ·cases c1;exact absurd hb2 ((hb b hb1).2.1 q2 v2 p2 c2)
  ·cases c2;exact absurd hb1 ((hb b hb2).2.1 q1 v1 p1 c1)
  ·exact h.lamInj q1 q2 v1 v2 p1 p2 b c1 c2 hb1 hb2
 ·rcases pre q' _ hp with⟨_,e1⟩|⟨_,hp⟩
  ·cases e1;exact(hb b hb').2.2
  ·exact h.newLam q' v' e' sz' b hp hb'
end Go.Av
/- Steps of abstract states, continued: a new local object; a cell of an object is written; a row grows. -/
namespace Go.Av
variable {E:Entry} {n:Nat} {G:q0s} {σ:St} {ts:Array Value} {w:World}
/-! ### A new local object -/
def AV.drop(r:Ref)(x:AV):AV:=if x.has r then .junk else x
def q0P(r:Ref):AObj→AObj
 |.cells cs=>.cells (cs.map (AV.drop r))
 |.siter s p=>.siter s p
 |.miter l c=>.miter l c
 |.mobj l c=>.mobj l c
def St.drop(σ:St)(s:Nat):St:={ σ with ρ:=amap (AV.drop (.l s)) σ.ρ,L:=amap (q0P (.l s)) σ.L }
theorem AVR.drop{x:AV}{v:Value}(h:AVR G w x v)(r:Ref):AVR G w (x.drop r) v:=by
 unfold AV.drop;split
 ·exact .junk v
 ·exact h
theorem AV.q2Q(r:Ref)(x:AV):(x.drop r).has r=false:=by
 unfold AV.drop;split
 ·rfl
 ·rename_i h;simpa using h
theorem AV.j6k(r:Ref)(x:AV){q:Lab}(h:(x.drop r).lab?=some q):x.lab?=some q:=by
 unfold AV.drop at h;split at h
 ·cases h
 ·exact h
theorem St.q56(σ:St)(s:Nat)(r:Ref){o:AObj}(h:(σ.drop s).obj r=some o):∃o',σ.obj r=some o'∧(o=o'∨o=q0P (.l s) o'):=by
 cases r with
 |l t=>
  simp only[St.drop,St.obj,q0G]at h;cases hx:aget σ.L t with
  |none=>simp[hx]at h
  |some o'=>simp[hx]at h;exact⟨o',hx,.inr h.symm⟩
 |x t=>exact⟨o,h,.inl rfl⟩
theorem ObjR.drop{r r':Ref}{o:AObj}(h:ObjR G w r o):ObjR G w r (q0P r' o):=by
 cases o with
 |siter s p=>exact h
 |miter l c=>exact h
 |mobj l c=>exact h
 |cells cs=>
  obtain⟨arr,el,h1,h2,h3⟩:=h;refine⟨arr,el,h1,by simp[h2],fun i x hi=>?_⟩;simp only[Zan]at hi;cases hy:cs[i]? with
  |none=>simp[hy]at hi
  |some y=>simp[hy]at hi;subst hi;exact⟨(h3 i y hy).1.drop r',(h3 i y hy).2.1,fun q hq=>(h3 i y hy).2.2.1 q (AV.j6k r' y hq),fun e he=>(h3 i y hy).2.2.2 e (by unfold AV.drop at he;split at he<;>first|exact he|cases he)⟩
theorem SR.drop(h:SR E n G σ ts w)(s:Nat):SR E n G (σ.drop s) ts w:=by
 refine⟨h.size,fun t x hx=>?_,fun r o ho=>?_,fun r o ho=>?_,fun r r' o o' ho ho'=>?_,h.lam,fun q v e sz b h1 h2 r o ho=>?_,h.lamInj,fun r o ho=>?_,h.newLam,h.ext,h.fr,h.top,h.ext0,fun r cs x t ho hx=>?_,h.os,h.tape,h.output⟩
 ·simp only[St.drop,q0G]at hx;cases hy:aget σ.ρ t with
  |none=>simp[hy]at hx
  |some y=>simp[hy]at hx;subst hx;exact(h.slot t y hy).drop _
 ·obtain⟨o',h1,e|e⟩:=σ.q56 s r ho
  ·rw[e];exact h.obj r o' h1
  ·rw[e];exact(h.obj r o' h1).drop
 ·obtain⟨o',h1,_⟩:=σ.q56 s r ho;exact h.objf r o' h1
 ·obtain⟨o1,h1,_⟩:=σ.q56 s r ho;obtain⟨o2,h2,_⟩:=σ.q56 s r' ho';exact h.inj r r' o1 o2 h1 h2
 ·obtain⟨o',h3,_⟩:=σ.q56 s r ho;exact h.lamObj q v e sz b h1 h2 r o' h3
 ·obtain⟨o',h1,_⟩:=σ.q56 s r ho;exact h.newObj r o' h1
 ·exact h.own0 r cs x t ho hx
theorem SR.z6v(h:SR E n G σ ts w)(s b:Nat)(o:AObj)(hρ:∀t x,aget σ.ρ t=some x→x.has (.l s)=false)(hL:∀t cs x,aget σ.L t=some (.cells cs)→x∈cs→x.has (.l s)=false)
  (hf:G.f b=0) (hb:∀r o,σ.obj r=some o→G.b r≠b) (hlam:∀q v p,G.lam q=some (v,p)→v.ownBlock≠some b) (hn:E.w0.heap.size≤b∨E.M b)
  (ho:ObjR { G with b:=updf G.b (.l s) b } w (.l s) o):SR E n { G with b:=updf G.b (.l s) b } (σ.setObj (.l s) o) ts w:=by
 have hbs:∀x:AV,x.has (.l s)=false→∀r,x.has r=true→updf G.b (.l s) b r=G.b r:=fun x hx r hr=>q0J _ _ (fun e=>by rw[e,hx]at hr;cases hr)
 have obj:∀r o',(σ.setObj (.l s) o).obj r=some o'→(r=.l s∧o'=o)∨(r≠.l s∧σ.obj r=some o'):=fun r o' h1=>by
  rw[St.q1s]at h1;split at h1
  ·rename_i e;exact .inl ⟨e.symm,by simpa using h1.symm⟩
  ·rename_i e;exact .inr ⟨fun e'=>e e'.symm,h1⟩
 have hne:∀r,r≠.l s→updf G.b (.l s) b r=G.b r:=fun r hr=>q0J _ _ hr
 refine⟨h.size,fun t x hx=>?_,fun r o' h1=>?_,fun r o' h1=>?_,fun r r' o1 o2 h1 h2 he=>?_,h.lam,fun q v e sz b' h1 h2 r o' h3=>?_,h.lamInj,fun r o' h1=>?_,h.newLam,h.ext,h.fr,h.top,fun r hr=>?_,fun r cs x t h1 hx=>?_,h.os,h.tape,h.output⟩
 ·exact AVR.mono (G:=G) (w:=w) (h:=h.slot t x hx) (G':={ G with b:=updf G.b (.l s) b }) (Ext.refl _ _) (hbs x (hρ t x hx)) (fun _ _ _ hp=>hp)
 ·rcases obj r o' h1 with⟨rfl,rfl⟩|⟨hr,h1⟩
  ·exact ho
  ·refine ObjR.mono (G:=G) (w:=w) (h:=h.obj r o' h1) (G':={ G with b:=updf G.b (.l s) b }) (Ext.refl _ _) (hne r hr) rfl (fun cs x e hx=>hbs x ?_) (fun _ _ hp=>hp);subst e;cases r with
   |l t=>exact hL t cs x h1 hx
   |x t=>exact h.own0 t cs x s h1 hx
 ·rcases obj r o' h1 with⟨rfl,rfl⟩|⟨hr,h1⟩
  ·show G.f (updf G.b (.l s) b (.l s))=0;rw[q03];exact hf
  ·show G.f (updf G.b (.l s) b r)=0;rw[hne r hr];exact h.objf r o' h1
 ·have he':updf G.b (.l s) b r=updf G.b (.l s) b r':=he;rcases obj r o1 h1 with⟨rfl,_⟩|⟨hr,h1⟩<;>rcases obj r' o2 h2 with⟨rfl,_⟩|⟨hr',h2⟩
  ·rfl
  ·rw[q03,hne r' hr']at he';exact absurd he'.symm (hb r' o2 h2)
  ·rw[q03,hne r hr]at he';exact absurd he' (hb r o1 h1)
  ·rw[hne r hr,hne r' hr']at he';exact h.inj r r' o1 o2 h1 h2 he'
 ·show updf G.b (.l s) b r≠b'
  rcases obj r o' h3 with⟨rfl,_⟩|⟨hr,h3⟩
  ·rw[q03];intro e';rw[←e']at h2;exact hlam q v _ h1 h2
  ·rw[hne r hr];exact h.lamObj q v e sz b' h1 h2 r o' h3
 ·show _≤updf G.b (.l s) b r∨E.M (updf G.b (.l s) b r)
  rcases obj r o' h1 with⟨rfl,_⟩|⟨hr,h1⟩
  ·rw[q03];exact hn
  ·rw[hne r hr];exact h.newObj r o' h1
 ·show updf G.b (.l s) b (.x r)=_;rw[hne _ (by simp)];exact h.ext0 r hr
 ·rcases obj (.x r) _ h1 with⟨h2,_⟩|⟨_,h1⟩
  ·cases h2
  ·exact h.own0 r cs x t h1 hx
theorem SR.j0Z(h:SR E n G σ ts w)(s b:Nat)(o:AObj)(hρ:∀t x,aget σ.ρ t=some x→x.has (.l s)=false)(hL:∀t cs x,aget σ.L t=some (.cells cs)→x∈cs→x.has (.l s)=false)
  (hf:G.f b=0) (hb:∀r o,σ.obj r=some o→G.b r≠b) (hlam:∀q v p,G.lam q=some (v,p)→v.ownBlock≠some b) (hn:E.w0.heap.size≤b)
  (ho:ObjR { G with b:=updf G.b (.l s) b } w (.l s) o):SR E n { G with b:=updf G.b (.l s) b } (σ.setObj (.l s) o) ts w:=h.z6v s b o hρ hL hf hb hlam (.inl hn) ho
/-! ### A cell of an object is written -/
theorem q9a(w:World)(b o:Nat)(v:Value){arr:Array Value}{el:TypeId}{fr:Nat×Nat}(h:w.heap[b]?=some (.cells arr el fr)):
  (w.setCell (at_ b o) v).heap[b]?=some (.cells (arr.setIfInBounds o v) el fr):=by
 simp[World.setCell,at_,Zda,h]
theorem q1b(w:World)(b o k:Nat)(v:Value)(h:k≠b):(w.setCell (at_ b o) v).heap[k]?=w.heap[k]?:=by
 simp only[World.setCell,at_,Zda];rw[if_neg (fun e=>h e.symm)]
theorem SR.setCell(h:SR E n G σ ts w){r:Ref}{cs:List AV}{i:Nat}(hr:σ.obj r=some (.cells cs))(hi:i<cs.length){x:AV}{v:Value}(hx:AVR G w x v)(h1:v.oneCell'=true)
  (hl:∀q,x.lab?=some q→q=.c r i) (hx0:∀k s,r=.x k→x.has (.l s)=false) (hnt:∀e,x≠.nt e:=by intro e;simp):
  SR E n G (σ.setObj r (.cells (cs.set i x))) ts (w.setCell (at_ (G.b r) i) v):=by
 have hf:=h.objf r _ hr;have hext:Ext G.f w G.f (w.setCell (at_ (G.b r) i) v):=by
  refine⟨by simp,fun _=>Zak _,fun b j hj=>?_,fun b es c hb hm=>by rw[q1b w _ i b v (fun e=>by rw[e,hf]at hb;omega)];exact hm⟩;have hb:b≠G.b r:=fun e=>by rw[e,hf]at hj;omega
  simp only[World.cell?,at_];rw[show(w.setCell ⟨G.b r,i,none⟩ v).heap[b]?=w.heap[b]? from q1b w _ i b v hb]
 have obj:∀r' o',(σ.setObj r (.cells (cs.set i x))).obj r'=some o'→(r'=r∧o'=.cells (cs.set i x))∨(r'≠r∧σ.obj r'=some o'):=fun r' o' h1=>by
  rw[St.q1s]at h1;split at h1
  ·rename_i e;exact .inl ⟨e.symm,by simpa using h1.symm⟩
  ·rename_i e;exact .inr ⟨fun e'=>e e'.symm,h1⟩
 have dom:∀r' o',(σ.setObj r (.cells (cs.set i x))).obj r'=some o'→∃o'',σ.obj r'=some o'':=fun r' o' h1=>by
  rcases obj r' o' h1 with⟨rfl,_⟩|⟨_,h1⟩
  ·exact⟨_,hr⟩
  ·exact⟨_,h1⟩
 refine⟨h.size,fun t y hy=>?_,fun r' o' ho=>?_,fun r' o' ho=>?_,fun r1 r2 o1 o2 h1 h2=>?_,fun q v' e sz hq=>?_,fun q v' e sz b hq hb r' o' ho=>?_,h.lamInj,fun r' o' ho=>?_,h.newLam,h.ext.trans hext,fun b hb hM=>?_,fun b hb=>h.top b (by simpa using hb),h.ext0,fun k cs' y s ho hy=>?_,
  h.os,h.tape,h.output⟩
 ·have h2:aget σ.ρ t=some y:=by cases r<;>exact hy
  exact AVR.mono (G':=G) (h:=h.slot t y h2) hext (fun _ _=>rfl) (fun _ _ _ hp=>hp)
 ·rcases obj r' o' ho with⟨rfl,rfl⟩|⟨hne,ho⟩
  ·obtain⟨arr,el,g1,g2,g3⟩:=h.obj r' _ hr;refine⟨arr.setIfInBounds i v,el,q9a w _ i v g1,by simp[g2],fun j y hy=>?_⟩
   by_cases e:i=j
   ·subst e;simp[hi]at hy;subst hy;have:(arr.setIfInBounds i v).getD i undef=v:=by simp[g2,hi]
    rw[this];exact⟨hx.mono hext (fun _ _=>rfl) (fun _ _ _ hp=>hp),h1,hl,fun e he=>absurd he (hnt e)⟩
   ·rw[List.getElem?_set_ne e]at hy;have:(arr.setIfInBounds i v).getD j undef=arr.getD j undef:=by simp[Zbp e]
    rw[this];exact⟨(g3 j y hy).1.mono hext (fun _ _=>rfl) (fun _ _ _ hp=>hp),(g3 j y hy).2⟩
  ·have hb:G.b r'≠G.b r:=fun e=>hne (h.inj r' r _ _ ho hr e)
   exact(h.obj r' o' ho).mono (G':=G) hext rfl (q1b w _ i _ v hb) (fun _ _ _ _ _ _=>rfl) (fun _ _ hp=>hp)
 ·obtain⟨o'',h2⟩:=dom r' o' ho;exact h.objf r' o'' h2
 ·obtain⟨o3,h3⟩:=dom r1 o1 h1;obtain⟨o4,h4⟩:=dom r2 o2 h2;exact h.inj r1 r2 o3 o4 h3 h4
 ·exact(h.lam q v' e sz hq).mono fun b hb=>⟨q1b w _ i b v (fun e'=>h.lamObj q v' e sz b hq hb r _ hr e'.symm),rfl⟩
 ·obtain⟨o'',h2⟩:=dom r' o' ho;exact h.lamObj q v' e sz b hq hb r' o'' h2
 ·obtain⟨o'',h2⟩:=dom r' o' ho;exact h.newObj r' o'' h2
 ·have hb':b≠G.b r:=fun e=>by
   rcases h.newObj r _ hr with h2|h2
   ·omega
   ·rw[e]at hM;exact hM h2
  exact⟨(q1b w _ i b v hb').trans (h.fr b hb hM).1,(h.fr b hb hM).2⟩
 ·rcases obj (.x k) _ ho with⟨e,h2⟩|⟨_,ho⟩
  ·simp at h2;subst h2;rcases List.mem_or_eq_of_mem_set hy with h3|h3
   ·exact h.own0 k cs y s (by rw[e];exact hr) h3
   ·rw[h3];exact hx0 k s e.symm
  ·exact h.own0 k cs' y s ho hy
end Go.Av
/- 'append' over abstract states. -/
namespace Go.Av
variable {E:Entry} {n:Nat} {G:q0s} {σ:St} {ts:Array Value} {w:World}
structure Grow(w w':World)(v v':Value)(k:Nat):Prop where
 size:w.heap.size≤w'.heap.size
 block:∀b,b<w.heap.size→v.ownBlock≠some b→w'.heap[b]?=w.heap[b]?
 cells:∀b,v.ownBlock=some b→∀j,j<k→w'.cell? (at_ b j)=w.cell? (at_ b j)
 own:v'.ownBlock=v.ownBlock∨∃b,v'.ownBlock=some b∧w.heap.size≤b
 os:w'.os=w.os
 tape:w'.tape=w.tape
 output:w'.output=w.output
theorem q77(g j:Nat):(⟨g,0,none⟩:Addr).add j=at_ g j:=by unfold Addr.add at_;split<;>simp_all
theorem z1B{P:Program}(w:World)(t tx ty e:TypeId)(i:TypeInfo)(z:Value)(ht:P.underlying t=some (.slice e))(hi:P.info? e=some i)(hz:i.zero=some z)(hzs:z.cells.size=i.size)
  (v:Value) (k:Nat) (xs:List Value) (hown:w.ownsRow 0 e i.size v k xs) (x:Value) (m:Nat) (news:List Value) (hs:Src P i.size tx x m news w)
  (h63:k+m≤maxLen) (hbytes:(k+m)*i.bytes≤140737488355328):
  ∃v' w',(Builtin.append_ #[t,tx] ty #[v,x]).run P w=.ok v' w'∧w'.ownsRow 0 e i.size v' (k+m) (xs++news)∧Grow w w' v v' (k*i.size):=by
 have hsmall:k+m≤9223372036854775807:=by simp only[maxLen]at h63;omega
 have hlen:(xs++news).length=(k+m)*i.size:=by rw[Zad,hown.1,hs.newsLen,Nat.add_mul]
 have grown:∀(old:Nat),old<k+m→
   (w.drew.alloc (.cells ((xs++news).toArray++Builtin.zeroCells z.cells (grownCap w (k+m) old e-(k+m))) e)).ownsRow 0 e i.size
     (.slice (some ⟨w.heap.size,0,none⟩) (k+m) (grownCap w (k+m) old e)) (k+m) (xs++news)∧
   Grow w (w.drew.alloc (.cells ((xs++news).toArray++Builtin.zeroCells z.cells (grownCap w (k+m) old e-(k+m))) e)) v (.slice (some ⟨w.heap.size,0,none⟩) (k+m) (grownCap w (k+m) old e)) (k*i.size):=by
  intro old ho;have hge:=grownCap_ge w (k+m) old e;have hcm:grownCap w (k+m) old e≤maxLen:=grownCap_le_maxLen w (k+m) old e h63;have hnew:(w.drew.alloc (.cells ((xs++news).toArray++Builtin.zeroCells z.cells (grownCap w (k+m) old e-(k+m))) e)).heap[w.heap.size]?=_:=q1x w.drew _;refine⟨⟨hlen,.inr ⟨w.heap.size,_,_,rfl,Zay _,hnew,hge,hcm,?_,?_⟩⟩,⟨by simp,fun b hb _=>q11 w.drew _ hb,fun b hb j _=>?_,.inr ⟨_,rfl,Zak _⟩,rfl,rfl,rfl⟩⟩
  ·simp only[Array.size_append,List.size_toArray,size_zeroCells,hzs,hlen,←Nat.add_mul];congr 1
   omega
  ·simp only[Array.toList_append];rw[←hlen];exact Zdj
  ·have hlt:=hown.lt b hb;simp only[World.cell?,at_];rw[q11 w.drew _ hlt.2];rfl
 rcases hown.2 with⟨rfl,rfl⟩|⟨g,cap,cur,rfl,hbg,hg,hnc,hcm,hcs,htake⟩
 ·have hx:xs=[]:=Zbl (by simpa using hown.1);subst hx
  by_cases hm:m=0
  ·subst hm;have hn:news=[]:=Zbl (by simpa using hs.newsLen);subst hn;refine⟨.slice none 0 0,w,?_,World.ownsRow_nil w 0 e i.size,⟨Zak _,fun _ _ _=>rfl,fun _ _ _ _=>rfl,.inl rfl,rfl,rfl,rfl⟩⟩;rcases hs.kind with⟨e',hk⟩|hk<;>simp[Builtin.append_,run_underlying ht,run_underlying hk,sizeOf,typeInfo,hi,hs.len,hs.cells]
  ·have hr:=run_append_grow_src (P:=P) w t tx ty e i z ht hi hz none 0 0 [] (run_firstCells_none w.drew i.size 0 0 0) x m news hs (by omega) (by omega) (growslice_fits (by omega) hbytes);have hgr:=grown 0 (by omega);simp only[Zbg,Zbj]at hgr hr ⊢;exact⟨_,_,hr,hgr.1,hgr.2⟩
 ·by_cases hroom:k+m≤cap
  ·have hfit:k*i.size+0+news.length≤cur.size:=by rw[hs.newsLen,hcs,Zdg,←Nat.add_mul];exact Zby _ hroom
   have hst:=run_storeCells_at P g (k*i.size) e news 0 cur w hg hfit hs.one;simp only[Zdg]at hst;have hr:(Builtin.append_ #[t,tx] ty #[.slice (some ⟨g,0,none⟩) k cap,x]).run P w=.ok (.slice (some ⟨g,0,none⟩) (k+m) cap) (w.setRow g (cur.toList.take (k*i.size)++news++cur.toList.drop (k*i.size+news.length)).toArray):=by
    rcases hs.kind with⟨e',hk⟩|hk<;>simp[Builtin.append_,run_underlying ht,run_underlying hk,sizeOf,typeInfo,hi,hs.len,hroom,hs.cells,Addr.add_lit,hst]
   have hheap:=setRow_heap w g cur (cur.toList.take (k*i.size)++news++cur.toList.drop (k*i.size+news.length)).toArray e _ hg;refine⟨_,_,hr,⟨hlen,.inr ⟨g,cap,_,rfl,Zay _,hheap,hroom,hcm,?_,?_⟩⟩,⟨by simp,fun b _ hb=>setRow_other w g b _ (fun e=>hb (by simp[Value.ownBlock,e])),fun b hb j hj=>?_,.inl rfl,rfl,rfl,rfl⟩⟩
   ·simp only[List.size_toArray,Zad,Zaw,Zau,Array.length_toList];omega
   ·rw[htake,←hlen];exact Zdj
   ·simp[Value.ownBlock]at hb;subst hb;simp only[World.cell?,at_,hheap,hg];have h1:(cur.toList.take (k*i.size)).length=k*i.size:=by rw[htake];exact hown.1
    simp only[Zbu,Zao,if_false,List.getElem?_toArray,List.append_assoc];rw[Zaj (by omega),Zbc,if_pos hj];simp
  ·have holds:(Builtin.firstCells i.size k (.slice (some ⟨g,0,none⟩) k cap)).run P w.drew=.ok xs.toArray w.drew:=
    run_firstCells_some w.drew i.size k ⟨g,0,none⟩ k cap xs hown.1 (hown.cells (g:=g) rfl)
   have hr:=run_append_grow_src (P:=P) w t tx ty e i z ht hi hz (some ⟨g,0,none⟩) k cap xs holds x m news hs (by omega) (by omega) (growslice_fits (by omega) hbytes);have hgr:=grown cap (by omega);exact⟨_,_,hr,hgr.1,hgr.2⟩
structure SrcD(P:Program)(f:Nat→Nat)(w:World)(sz:Nat)(tx:TypeId)(x:Value)(ys:List D)(news:List Value):Prop where
 src:Src P sz tx x ys.length news w
 cells:∀y∈ys,y.cells.length=sz∧y.flat
 rd:∀i y j d,ys[i]?=some y→y.cells[j]?=some d→RD f w d (news.getD (i*sz+j) undef)
theorem j7u{i j m sz:Nat}(hi:i<m)(hj:j<sz):i*sz+j<m*sz:=by
 have:(i+1)*sz≤m*sz:=Zby _ hi;rw[Nat.add_mul]at this;omega
theorem q5x(b o j:Nat):(at_ b o).add j=at_ b (o+j):=by unfold Addr.add at_;split<;>simp_all
theorem SrcD.ofList{P:Program}{f:Nat→Nat}{w:World}{sz:Nat}{tx e':TypeId}(hk:P.underlying tx=some (.slice e')){ys:List D}{x:Value}(h:RD f w (.list ys) x)(hc:∀y∈ys,y.cells.length=sz):
  ∃news,SrcD P f w sz tx x ys news:=by
 cases h with
 |nils=>exact⟨[],Src.ofNil w hk 0,fun y hy=>by simp at hy,fun i y j d hy=>by simp at hy⟩
 |emp a c=>exact⟨[],Src.ofSlice w hk _ 0 _ [] (by simp) (fun j u hj=>by simp at hj) (fun u hu=>by simp at hu),fun y hy=>by simp at hy,fun i y j d hy=>by simp at hy⟩
 |list l b o cap sz' vs hcap hsz hb hcell hr=>
  have hz:ys=[]∨sz'=sz:=by
   cases ys with
   |nil=>exact .inl rfl
   |cons y r=>right;rw[←(hsz y (by simp)).1];exact hc y (by simp)
  rcases hz with rfl|rfl
  ·exact⟨[],Src.ofSlice w hk _ 0 _ [] (by simp) (fun j u hj=>by simp at hj) (fun u hu=>by simp at hu),fun y hy=>by simp at hy,fun i y j d hy=>by simp at hy⟩
  ·have hget:∀j,j<ys.length*sz'→((List.range (ys.length*sz')).map vs)[j]?=some (vs j):=fun j hj=>by simp[hj]
   have hone:∀j,j<ys.length*sz'→(vs j).oneCell'=true:=fun j hj=>by
    have hp:0<sz':=by rcases Nat.eq_zero_or_pos sz' with h|h;· rw[h]at hj;omega
                      ·exact h
    have hdm:=Nat.div_add_mod j sz';have hm:=Nat.mod_lt j hp;have hd:j / sz'<ys.length:=Nat.div_lt_of_lt_mul (by rw[Nat.mul_comm];exact hj);have hy:=Zal hd;have hcl:=(hsz _ (List.getElem_mem hd)).1;have hd':=Zal (l:=(ys[j / sz']).cells) (i:=j % sz') (by omega);have h3:=hr (j / sz') _ (j % sz') _ hy hd';rw[Nat.mul_comm,hdm]at h3;exact(h3.one ((hsz _ (List.getElem_mem hd)).2 _ (List.getElem_mem _))).1
   refine⟨(List.range (ys.length*sz')).map vs,Src.ofSlice w hk _ _ _ _ (by simp) (fun j u hj=>?_) (fun u hu=>?_),hsz,fun i y j d hy hd=>?_⟩
   ·have hj':j<ys.length*sz':=by have:=(Zac.1 hj).1;simpa using this
    rw[hget j hj']at hj;rw[q5x,hcell j hj'];exact hj
   ·obtain⟨j,hj,rfl⟩:=Zat.1 hu;exact hone j (Zcs.1 hj)
   ·have hi:i<ys.length:=(Zac.1 hy).1;have hj:j<sz':=by have:=(Zac.1 hd).1;rw[(hsz y (Zaf hy)).1]at this;exact this
    have hlt:=j7u hi hj;rw[List.getD_eq_getElem?_getD,hget _ hlt];exact hr i y j d hy hd
def q0v(s:List UInt8):List D:=s.map fun b=>.int .u8 b.toNat
theorem SrcD.ofStr{P:Program}{f:Nat→Nat}{w:World}{tx:TypeId}(hk:P.underlying tx=some .string){s:List UInt8}{x:Value}(h:RD f w (.str s) x):
  ∃news,SrcD P f w 1 tx x (q0v s) news:=by
 cases h;refine⟨byteCells ⟨s.toArray⟩,?_,fun y hy=>?_,fun i y j d hy hd=>?_⟩
 ·have:=Src.ofString w hk ⟨s.toArray⟩;have e:(q0v s).length=(⟨s.toArray⟩:ByteArray).size:=by simp[q0v,ByteArray.size]
  rw[e];exact this
 ·obtain⟨b,_,rfl⟩:=Zat.1 hy;exact⟨rfl,fun e he=>by simp[D.cells]at he;subst he;rfl⟩
 ·simp only[q0v,Zan]at hy;cases hb:s[i]? with
  |none=>simp[hb]at hy
  |some b=>
   simp[hb]at hy;subst hy;cases j with
   |succ j=>simp[D.cells]at hd
   |zero=>
    simp[D.cells]at hd;subst hd;have:(byteCells ⟨s.toArray⟩).getD (i*1+0) undef=.int .u8 b.toNat:=by simp[byteCells,List.getD_eq_getElem?_getD,hb]
    rw[this];exact .int _ _
theorem z69{f:Nat→Nat}{w:World}{l:List D}{v:Value}{e sz k:Nat}{xs:List Value}(h:RD f w (.list l) v)(ho:w.ownsRow 0 e sz v k xs):k=l.length:=by
 rcases ho.2 with⟨rfl,rfl⟩|⟨g,cap,cur,rfl,_⟩
 ·cases h;rfl
 ·cases h<;>rfl
def z6I(f:Nat→Nat)(v':Value)(k:Nat):Nat→Nat:=
 match v'.ownBlock with
 |some b=>updf f b k
 |none=>f
theorem SR.append(h:SR E n G σ ts w){q q':Lab}{e sz:Nat}{l ys:List D}{v v':Value}{k:Nat}{xs news:List Value}{w':World}(hq:G.lam q=some (v,e,sz))(hv:RD G.f w (.list l) v)(hl:∀y∈l,y.cells.length=sz)
  (hown:w.ownsRow 0 e sz v k xs) (hfb:∀b,v.ownBlock=some b→G.f b=k*sz) (hown':w'.ownsRow 0 e sz v' (k+ys.length) (xs++news)) (hg:Grow w w' v v' (k*sz))
  (hc:∀y∈ys,y.cells.length=sz∧y.flat) (hrd:∀i y j d,ys[i]?=some y→y.cells[j]?=some d→RD G.f w d (news.getD (i*sz+j) undef)) (hnl:news.length=ys.length*sz):
  ∃G',SR E n G' ((σ.erase q).erase q') ts w'∧AVR G' w' (.own q' e sz (l++ys)) v':=by
 have hk:=z69 hv hown;have h1:=(h.erase q).erase q';have hfr:∀b,v.ownBlock=some b→b<w.heap.size:=fun b hb=>(hown.lt b hb).2
 -- who else is there
 have dom:∀r o,((σ.erase q).erase q').obj r=some o→∃o',σ.obj r=some o':=fun r o ho=>by
  rw[St.q4u]at ho;cases h2:(σ.erase q).obj r with
  |none=>simp[h2]at ho
  |some o2=>
   rw[St.q4u]at h2;cases h3:σ.obj r with
   |none=>simp[h3]at h2
   |some o3=>exact⟨o3,rfl⟩
 have labs:∀p vp,updf (updf G.lam q none) q' none p=some vp→p≠q∧p≠q'∧G.lam p=some vp:=fun p vp hp=>by
  simp only[updf]at hp;split at hp
  ·cases hp
  ·rename_i h2;split at hp
   ·cases hp
   ·rename_i h3;exact⟨h3,h2,hp⟩
 have hXob:∀b,v.ownBlock=some b→(∀r o,((σ.erase q).erase q').obj r=some o→G.b r≠b)∧(∀p vp x,updf (updf G.lam q none) q' none p=some (vp,x)→vp.ownBlock≠some b)∧(E.w0.heap.size≤b∨E.M b):=fun b hb=>
  ⟨fun r o ho=>by obtain⟨o',h2⟩:=dom r o ho;exact h.lamObj q v e sz b hq hb r o' h2,
   fun p vp x hp hb'=>by obtain⟨h2,_,h3⟩:=labs p _ hp;exact h2 (h.lamInj p q vp v x _ b h3 hq hb' hb),
   h.newLam q v e sz b hq hb⟩
 have hgf:∀b,z6I G.f v' ((k+ys.length)*sz) b=G.f b∨(v'.ownBlock=some b∧z6I G.f v' ((k+ys.length)*sz) b=(k+ys.length)*sz):=fun b=>by
  unfold z6I;cases hb:v'.ownBlock with
  |none=>exact .inl rfl
  |some b'=>
   by_cases e:b=b'
   ·subst e;right;simp
   ·left;exact q0J _ _ e
 have hgb:∀b,v'.ownBlock=some b→z6I G.f v' ((k+ys.length)*sz) b=(k+ys.length)*sz:=fun b hb=>by simp[z6I,hb]
 have hext:Ext G.f w (z6I G.f v' ((k+ys.length)*sz)) w':=by
  refine⟨hg.size,fun b=>?_,fun b i hi=>?_,fun b es c hb hm=>by
   by_cases hb':v.ownBlock=some b
   ·rcases hown.2 with⟨rfl,_⟩|⟨g,cap,cur,rfl,_,h3,_⟩
    ·cases hb'
    ·cases hb';rw[h3]at hm;cases hm
   ·rw[hg.block b (Zar.1 hm).1 hb'];exact hm⟩
  ·rcases hgf b with h2|⟨h2,h3⟩
   ·rw[h2];exact Zak _
   ·rw[h3];rcases hg.own with h4|⟨b',h4,h5⟩
    ·rw[hfb b (by rw[←h4];exact h2)];exact Zby _ (by omega)
    ·rw[h4]at h2;cases h2;rw[h.top _ h5];exact Zay _
  ·by_cases hb:v.ownBlock=some b
   ·exact hg.cells b hb i (by rw[←hfb b hb];exact hi)
   ·have hlt:b<w.heap.size:=by
     rcases Zbi b w.heap.size with h2|h2
     ·exact h2
     ·rw[h.top b h2]at hi;omega
    simp only[World.cell?,at_];rw[hg.block b hlt hb]
 have h2:SR E n { G with f:=z6I G.f v' ((k+ys.length)*sz),lam:=updf (updf G.lam q none) q' none } ((σ.erase q).erase q') ts w':=by
  refine SR.z0m (G:={ G with lam:=updf (updf G.lam q none) q' none }) h1 (fun b=>v.ownBlock=some b) hXob hext (fun b hb hx=>⟨hg.block b hb hx,?_⟩) (fun b hb=>?_) hg.os hg.tape hg.output
  ·rcases hgf b with h3|⟨h3,_⟩
   ·exact h3
   ·rcases hg.own with h4|⟨b',h4,h5⟩
    ·exact absurd (h4▸h3) hx
    ·rw[h4]at h3;cases h3;omega
  ·rcases hgf b with h3|⟨h3,_⟩
   ·rw[h3];exact h.top b (Zbr hg.size hb)
   ·have:=(hown'.lt b h3).2;omega
 have hOK:z3F (z6I G.f v' ((k+ys.length)*sz)) w' v' e sz:=⟨k+ys.length,xs++news,hown',hgb⟩;have h3:=h2.z7C q' (by simp) hOK (fun b hb=>by
  rcases hg.own with h4|⟨b',h4,h5⟩
  ·exact hXob b (by rw[←h4];exact hb)
  ·rw[h4]at hb;cases hb;refine⟨fun r o ho=>?_,fun p vp x hp hb'=>?_,.inl (Zbr h.ext.size h5)⟩
   ·obtain⟨o',h6⟩:=dom r o ho;have:=(h.obj r o' h6).lt;exact fun e'=>by have e'':G.b r=b:=e';omega
   ·obtain⟨_,_,h6⟩:=labs p _ hp;obtain⟨e1,sz1⟩:=x;have:=(h.lam p vp e1 sz1 h6).lt hb';omega)
 refine⟨_,h3,.own q' e sz (l++ys) v' (by simp) ?_ (fun y hy=>?_)⟩
 ·-- the new slice reads as both
  rcases hown'.2 with⟨rfl,h4⟩|⟨g,cap,cur,rfl,_,hgg,hnc,hcm,hcs,htake⟩
  ·have h5:l=[]:=Zbl (by omega);have h6:ys=[]:=Zbl (by omega);subst h5;subst h6;exact .nils
  ·have hcl:∀y∈l++ys,y.cells.length=sz∧y.flat:=fun y hy=>by
    rcases Zaz.1 hy with hy|hy
    ·refine⟨hl y hy,?_⟩;cases hv with
     |nils=>cases hy
     |emp _ _=>cases hy
     |list _ b o c s' vs hcap hsz hb hcell hr=>exact(hsz y hy).2
    ·exact hc y hy
   have hcell:∀j,j<(k+ys.length)*sz→w'.cell? (at_ g j)=some ((xs++news).getD j undef):=fun j hj=>by
    have hj':j<(xs++news).length:=by rw[hown'.1];exact hj
    have:=hown'.cells (g:=g) rfl j ((xs++news)[j]) (Zal hj');rw[q77]at this;rw[this,List.getD_eq_getElem?_getD,Zal hj'];rfl
   have hlen:(l++ys).length=k+ys.length:=by rw[Zad,hk]
   have:=RD.list (f:=z6I G.f (.slice (some ⟨g,0,none⟩) (k+ys.length) cap) ((k+ys.length)*sz)) (w:=w') (l++ys) g 0 cap sz (fun j=>(xs++news).getD j undef) (by rw[hlen];exact hnc) hcl
    (by rw[hlen,hgb g rfl];omega) (fun j hj=>by rw[Zbg];exact hcell j (by rw[←hlen];exact hj)) (fun i y j d hy hd=>?_)
   ·rw[hlen]at this;exact this
   ·have hxl:xs.length=l.length*sz:=by rw[hown.1,hk]
    by_cases hi:i<l.length
    ·rw[Zaj hi]at hy;cases hv with
     |nils=>simp at hi
     |emp _ _=>simp at hi
     |list _ b o c s' vs hcap hsz hb hcell' hr=>
      have hj:j<s':=by have:=(Zac.1 hd).1;rw[(hsz y (Zaf hy)).1]at this;exact this
      have hs':s'=sz:=by rw[←(hsz y (Zaf hy)).1];exact hl y (Zaf hy)
      subst hs';have hlt:=j7u hi hj;have h7:=hr i y j d hy hd;have h8:=hcell' (i*s'+j) hlt
      -- the owned cells are these
      rcases hown.2 with⟨h9,_⟩|⟨g0,cap0,cur0,h9,_⟩
      ·cases h9
      ·cases h9;have h10:=hown.cells (g:=b) rfl (i*s'+j) (xs[i*s'+j]'(by rw[hxl];exact hlt)) (Zal _);rw[q77]at h10;have h11:some (vs (i*s'+j))=some (xs[i*s'+j]'(by rw[hxl];exact hlt)):=by rw[←h8,←h10];simp[at_]
       have h12:(xs++news).getD (i*s'+j) undef=vs (i*s'+j):=by
        rw[List.getD_eq_getElem?_getD,Zaj (by rw[hxl];exact hlt),Zal (by rw[hxl];exact hlt)];simp at h11 ⊢;exact h11.symm
       show RD _ w' d ((xs++news).getD (i*s'+j) undef)
       rw[h12];exact h7.ext hext
    ·rw[Zam (by omega)]at hy;have h7:=hrd (i-l.length) y j d hy hd;have h8:(xs++news).getD (i*sz+j) undef=news.getD ((i-l.length)*sz+j) undef:=by
      have h9:i*sz=l.length*sz+(i-l.length)*sz:=by rw[←Nat.add_mul];congr 1;omega
      rw[List.getD_eq_getElem?_getD,List.getD_eq_getElem?_getD,Zam (by rw[hxl];omega),hxl];congr 2;omega
     show RD _ w' d ((xs++news).getD (i*sz+j) undef)
     rw[h8];exact h7.ext hext
 ·rcases Zaz.1 hy with hy|hy
  ·exact hl y hy
  ·exact(hc y hy).1
end Go.Av
