import Derived.Test.YtgfdeebaihmkpaaGreatDoorAvI
import Derived.Lib.IfaceEq
import Derived.LaidEql
set_option linter.unusedSectionVars false
/- A region drawn in any order that makes one map: its entries stand in some order. -/
namespace Go.Av
variable {P:Program} [Inv P]
/-! ### A map that is not written any more is data -/
def AV.frzM(a:Nat)(ks vs:List D):AV→AV
 |.mp r=>if r=.l a then .d (.map ks vs)else .mp r
 |x=>x
theorem SR.frzM{E:Entry}{n:Nat}{G:q0s}{σ:St}{ts:Array Value}{w:World}(h:SR E n G σ ts w){a:Nat}{ks vs:List D}(ho:aget σ.L a=some (.mobj ks vs)):
  SR E n { G with f:=updf G.f (G.b (.l a)) 1 } ⟨amap (AV.frzM a ks vs) σ.ρ,[],σ.H⟩ ts w:=by
 have ho':σ.obj (.l a)=some (.mobj ks vs):=ho;have hwk:Wk { σ with L:=[] } σ:=⟨fun _ _ h=>h,fun r o hr=>by
  cases r with
  |x t=>exact hr
  |l k=>simp[St.obj,aget]at hr⟩
 have h1:=h.wk hwk;have hf0:G.f (G.b (.l a))=0:=h.objf _ _ ho';have hlt:=(h.obj _ _ ho').lt;have hext:Ext G.f w (updf G.f (G.b (.l a)) 1) w:=⟨Zak _,fun b=>by
  by_cases e:b=G.b (.l a)
  ·rw[e,hf0];exact Zay _
  ·rw[q0J _ _ e];exact Zak _,fun b i hi=>rfl,fun _ _ _ _ h=>h⟩
 have h2:SR E n { G with f:=updf G.f (G.b (.l a)) 1 } { σ with L:=[] } ts w:=by
  refine h1.z0m (fun b=>b=G.b (.l a)) (fun b hb=>?_) hext (fun b hb hx=>⟨rfl,q0J _ _ hx⟩) (fun b hb=>?_) rfl rfl rfl
  ·subst hb;refine⟨fun r o hr e=>?_,fun q v p hq hv=>?_,h.newObj _ _ ho'⟩
   ·have:=h.inj r (.l a) o _ (hwk.obj r o hr) ho' e;subst this;simp[St.obj,aget]at hr
   ·obtain⟨e,sz⟩:=p;exact h.lamObj q v e sz _ hq hv _ _ ho' rfl
  ·have:b≠G.b (.l a):=fun e=>by rw[e]at hb;omega
   rw[q0J _ _ this];exact h.top b hb
 have hrd:RD (updf G.f (G.b (.l a)) 1) w (.map ks vs) (.map (some (G.b (.l a)))):=by
  obtain⟨es,clock,g1,g2⟩:=h.obj _ _ ho';have g3:=g2.ext hext;exact .map ks vs _ es clock (by rw[q03];omega) g1 g3.1 g3.2.1 g3.2.2.1 g3.2.2.2.1 g3.2.2.2.2.1 g3.2.2.2.2.2
 refine{ h2 with slot:=fun s x hx=>?_ };simp only[q0G]at hx;cases hy:aget σ.ρ s with
 |none=>simp[hy]at hx
 |some y=>
  simp[hy]at hx;subst hx;have:=h2.slot s y hy;cases y with
  |mp r=>
   simp only[AV.frzM];split
   ·rename_i e;subst e;rw[z8A this];exact .d _ _ hrd
   ·exact this
  |_=>exact this
/-! ### The entries -/
inductive UE where
 |v (d:Nat) (z:AV)
 |m (d:Nat)
 |u (key:List UInt8) (v:D)
def UE.j97:UE→Option (Nat×AV)
 |.v d z=>some (d,z)
 |.m d=>some (d,.mp (.l d))
 |.u _ _=>none
def j9G(tab:List UE)(j:Nat):Option (Nat×AV):=(tab[j]?).bind UE.j97
def known(base:List (Nat×AV))(tab:List UE)(ds:List Nat):List (Nat×AV):=base++ds.filterMap (j9G tab)
/-! ### The check -/
end Go.Av
/- An entry under a key that was there; or not. -/
namespace Go.Av
variable {P:Program} [Inv P] {σ:St} {G:q0s} {w:World}
def mset:List D→List D→D→D→List D
 |k::ks,v::vs,x,y=>if z8h x k then y::vs else v::mset ks vs x y
 |_,vs,_,_=>vs
theorem z5U{kd:TypeDesc}{f:Nat→Nat}{key:D}{kv:Value}(hkey:q17 kd key=true)(hr:RD f w key kv)(y:D):∀(es:List MapEntry) (ks vs:List D) (i:Nat),ks.length=es.length→vs.length=es.length→(∀k∈ks,q17 kd k=true)→
  (∀(i:Nat) k e,ks[i]?=some k→es[i]?=some e→RD f w k e.key)→(q7R ks vs key).isSome=true→
  ∃j u e,Instr.findNow kd kv es i=some (some (i+j,u))∧es[j]?=some e∧e.key=kv∧mset ks vs key y=vs.set j y
 |[],[],[],i,_,_,_,_,h=>by simp[q7R]at h
 |[],_::_,_,i,h,_,_,_,_=>by simp at h
 |[],_,_::_,i,_,h,_,_,_=>by simp at h
 |_::_,[],_,i,h,_,_,_,_=>by simp at h
 |_::_,_,[],i,_,h,_,_,_=>by simp at h
 |e::es,k::ks,v::vs,i,h1,h2,h3,h4,h5=>by
  have rk:=h4 0 k e rfl rfl;obtain⟨r,q1,q2⟩:=MapKept.sameNow_of_keys (q1J hkey hr) (q1J (h3 k (by simp)) rk);have q3:=z8i hkey (h3 k (by simp)) hr rk;simp only[mset,q7R,Instr.findNow,q1]at h5 ⊢;cases r with
  |true=>
   have hu:=q2.1 rfl;rw[if_pos (q3.2 hu)];exact⟨0,e.val,e,rfl,rfl,hu.symm,rfl⟩
  |false=>
   have hne:¬z8h key k=true:=fun h=>by have:=q2.2 (q3.1 h);cases this
   rw[if_neg hne]at h5 ⊢;obtain⟨j,u,e',g1,g2,g3,g4⟩:=z5U hkey hr y es ks vs (i+1) (by simpa using h1) (by simpa using h2) (fun k hk=>h3 k (by simp[hk])) (fun i k e hk he=>h4 (i+1) k e (by simpa using hk) (by simpa using he)) h5;exact⟨j+1,u,e',by rw[show i+(j+1)=i+1+j by omega];exact g1,g2,g3,by rw[g4];rfl⟩
theorem q0e.j9p{t kt e:TypeId}{kd:TypeDesc}{m i x:LX}{K:St→Prop}{ks vs:List D}{key v:D}{s:Ref}(hm:σ.ev m=.mp s)(ho:σ.obj s=some (.mobj ks vs))(hi:σ.ev i=.d key)(hx:(σ.ev x).rd=some v)
  (ht:P.underlying t=some (.map kt e)) (hkt:P.underlying kt=some kd) (hkey:q17 kd key=true) (hks:∀k∈ks,q17 kd k=true) (hold:(q7R ks vs key).isSome=true)
  (hK:K (σ.setObj s (.mobj ks (mset ks vs key v)))):q0e P none (.mapUpd t) [m,i,x] K σ:=by
 intro E _ n G a w o os hp hl hdst hd hσ;obtain⟨M,I,X,hop,rfl⟩:=z1w hp;obtain⟨m',i',x',hm',hi',hx',he⟩:∃m' i' x',q1o M=some m'∧q1o I=some i'∧q1o X=some x'∧[m,i,x]=[m',i',x']:=by
  simp only[q2x]at hl;split at hl
  ·rename_i a b h1 h2;split at h2
   ·rename_i c d h3 h4;split at h4
    ·rename_i e f h5 h6;cases h6;cases h4;cases h2;exact⟨_,_,_,h1,h3,h5,(Option.some.inj hl).symm⟩
    ·cases h4
   ·cases h2
  ·cases hl
 cases he;have rm:=hσ.ev hm';have ri:=hσ.ev hi';have rx:=hσ.ev hx';rw[hm]at rm;rw[hi]at ri;have hmv:=z8A rm;have ri:=ri.dinv;have rx:=rx.rd hx;obtain⟨es,clock,hh,k1,k2,k3,k4,k5,k6⟩:=hσ.obj _ _ ho;have hkk:=q1J hkey ri;have hlt:=(hσ.obj _ _ ho).lt;obtain⟨j,u,e0,h2,h3,h4,h5⟩:=z5U hkey ri v es.toList ks vs 0 (by simpa using k1) (by simpa using k2) hks (fun i k e h1 h2=>k5 i k e h1 (by simpa using h2)) hold;rw[Zbg]at h2;have hjk:((es[j]?).map (·.key)).getD (a.eval I)=a.eval I:=by
  have:es[j]?=some e0:=by simpa using h3
  rw[this];exact h4
 have hrun:(Instr.mapUpdate t (.map (some (G.b s))) (a.eval I) (a.eval X)).run P w=.ok () { w with heap:=w.heap.setIfInBounds (G.b s) (.map (es.modify j fun e=>{ e with key:=a.eval I,val:=a.eval X }) clock) }:=by
  simp[Instr.mapUpdate,run_underlying ht,MapKept.run_getObj_map hh,MapKept.run_checkKey hkt hkk,MapKept.run_findKey hkt h2,hjk,MapKept.run_keyThatStays hkk,MapKept.run_setObj_map _ hh,Result.andThen]
 have hget:∀q,(es.modify j fun e=>{ e with key:=a.eval I,val:=a.eval X })[q]?=if j=q then(es[q]?).map fun e=>{ e with key:=a.eval I,val:=a.eval X }else es[q]?:=fun q=>by
  rw[Zda]
 have hS:=hσ.setIter (w':={ w with heap:=w.heap.setIfInBounds (G.b s) (.map (es.modify j fun e=>{ e with key:=a.eval I,val:=a.eval X }) clock) }) ho (o':=.mobj ks (mset ks vs key v)) rfl (by simp)
  (fun b hb=>Zbp (Ne.symm hb)) rfl rfl rfl fun hext=>by
    refine⟨_,_,by simp[hlt];exact⟨rfl,rfl⟩,by simp[k1],by rw[h5];simp[k2],?_,fun e he=>?_,fun i k e hk he=>?_,fun i k e hk he=>?_⟩
    ·have:(es.modify j fun e=>{ e with key:=a.eval I,val:=a.eval X }).toList.map (·.born)=es.toList.map (·.born):=by
      apply List.ext_getElem?;intro q;rw[Zan,Zan,Array.getElem?_toList,Array.getElem?_toList,hget];split
      ·cases es[q]?<;>rfl
      ·rfl
     rw[this];exact k3
    ·obtain⟨q,hq⟩:=Zbb he;rw[Array.getElem?_toList,hget]at hq;split at hq
     ·cases h6:es[q]? with
      |none=>rw[h6]at hq;cases hq
      |some e1=>
       rw[h6]at hq;cases hq;exact k4 e1 (by rw[←Array.getElem?_toList]at h6;exact Zaf h6)
     ·exact k4 e (by rw[←Array.getElem?_toList]at hq;exact Zaf hq)
    ·rw[hget]at he;split at he
     ·rename_i hji;subst hji;have h6:es[j]?=some e0:=by simpa using h3
      rw[h6]at he;cases he;have:=k5 j k e0 hk h6;rw[h4]at this;exact this.ext hext
     ·exact(k5 i k e hk he).ext hext
    ·rw[h5,List.getElem?_set]at hk;rw[hget]at he;split at hk
     ·rename_i hji;rw[if_pos hji]at he;split at hk
      ·cases hk;cases h6:es[i]? with
       |none=>rw[h6]at he;cases he
       |some e1=>rw[h6]at he;cases he;exact rx.ext hext
      ·cases hk
     ·rename_i hji;rw[if_neg hji]at he;exact(k6 i k e hk he).ext hext
 refine .inr (.inl ⟨_,?_,G,_,⟨trivial,hK⟩,by simpa[Act.put]using hS⟩);rcases hop with hop|hop<;>simp only[execOp,hop,hmv,Sem.run_bind,hrun]<;>rfl
end Go.Av
/- A map that is not written any more is data; the other objects stay. -/
namespace Go.Av
variable {E:Entry} {n:Nat} {G:q0s} {σ:St} {ts:Array Value} {w:World}
def j2p(a:Nat)(ks vs:List D):AObj→AObj
 |.cells cs=>.cells (cs.map (AV.frzM a ks vs))
 |o=>o
def St.frzM(σ:St)(a:Nat)(ks vs:List D):St:={ ρ:=amap (AV.frzM a ks vs) σ.ρ,L:=adel (amap (j2p a ks vs) σ.L) a,H:=amap (j2p a ks vs) σ.H }
theorem St.j6F(σ:St)(a:Nat)(ks vs:List D)(r:Ref){o:AObj}(h:(σ.frzM a ks vs).obj r=some o):r≠.l a∧∃o',σ.obj r=some o'∧o=j2p a ks vs o':=by
 cases r with
 |x t=>
  simp only[St.frzM,St.obj,q0G]at h;cases hx:aget σ.H t with
  |none=>simp[hx]at h
  |some o'=>simp[hx]at h;exact⟨by simp,o',hx,h.symm⟩
 |l t=>
  simp only[St.frzM,St.obj,q0O,q0G]at h;split at h
  ·cases h
  ·rename_i hne;cases hx:aget σ.L t with
   |none=>simp[hx]at h
   |some o'=>simp[hx]at h;exact⟨by simp;omega,o',hx,h.symm⟩
theorem AV.j6a(a:Nat)(ks vs:List D)(r:Ref){x:AV}(h:x.has r=false):(x.frzM a ks vs).has r=false:=by
 cases x with
 |mp r'=>
  simp only[AV.frzM];split
  ·rfl
  ·exact h
 |_=>exact h
theorem SR.j6b(h:SR E n G σ ts w){a:Nat}{ks vs:List D}(ho:aget σ.L a=some (.mobj ks vs)):
  SR E n { G with f:=updf G.f (G.b (.l a)) 1 } (σ.frzM a ks vs) ts w:=by
 have ho':σ.obj (.l a)=some (.mobj ks vs):=ho;have hwk:Wk { σ with L:=adel σ.L a } σ:=⟨fun _ _ h=>h,fun r o hr=>by
  cases r with
  |x t=>exact hr
  |l k=>
   simp only[St.obj,q0O]at hr;split at hr
   ·cases hr
   ·exact hr⟩
 have h1:=h.wk hwk;have hf0:G.f (G.b (.l a))=0:=h.objf _ _ ho';have hlt:=(h.obj _ _ ho').lt;have hext:Ext G.f w (updf G.f (G.b (.l a)) 1) w:=⟨Zak _,fun b=>by
  by_cases e:b=G.b (.l a)
  ·rw[e,hf0];exact Zay _
  ·rw[q0J _ _ e];exact Zak _,fun b i hi=>rfl,fun _ _ _ _ h=>h⟩
 have h2:SR E n { G with f:=updf G.f (G.b (.l a)) 1 } { σ with L:=adel σ.L a } ts w:=by
  refine h1.z0m (fun b=>b=G.b (.l a)) (fun b hb=>?_) hext (fun b hb hx=>⟨rfl,q0J _ _ hx⟩) (fun b hb=>?_) rfl rfl rfl
  ·subst hb;refine⟨fun r o hr e=>?_,fun q v p hq hv=>?_,h.newObj _ _ ho'⟩
   ·have:=h.inj r (.l a) o _ (hwk.obj r o hr) ho' e;subst this;simp[St.obj,q0O]at hr
   ·obtain⟨e,sz⟩:=p;exact h.lamObj q v e sz _ hq hv _ _ ho' rfl
  ·have:b≠G.b (.l a):=fun e=>by rw[e]at hb;omega
   rw[q0J _ _ this];exact h.top b hb
 have hrd:RD (updf G.f (G.b (.l a)) 1) w (.map ks vs) (.map (some (G.b (.l a)))):=by
  obtain⟨es,clock,g1,g2⟩:=h.obj _ _ ho';have g3:=g2.ext hext;exact .map ks vs _ es clock (by rw[q03];omega) g1 g3.1 g3.2.1 g3.2.2.1 g3.2.2.2.1 g3.2.2.2.2.1 g3.2.2.2.2.2
 have hfz:∀{x:AV} {v:Value},AVR { G with f:=updf G.f (G.b (.l a)) 1 } w x v→AVR { G with f:=updf G.f (G.b (.l a)) 1 } w (x.frzM a ks vs) v:=fun{x v} hx=>by
  cases x with
  |mp r=>
   simp only[AV.frzM];split
   ·rename_i e;subst e;rw[z8A hx];exact .d _ _ hrd
   ·exact hx
  |_=>exact hx
 have hob:∀r o,(σ.frzM a ks vs).obj r=some o→∃o',St.obj { σ with L:=adel σ.L a } r=some o'∧o=j2p a ks vs o':=fun r o hr=>by
  obtain⟨g1,o',g2,g3⟩:=σ.j6F a ks vs r hr;refine⟨o',?_,g3⟩;cases r with
  |x t=>exact g2
  |l k=>
   simp only[St.obj,q0O];rw[if_neg (fun e=>g1 (by rw[e]))];exact g2
 refine{ h2 with slot:=fun s x hx=>?_,obj:=fun r o hr=>?_,objf:=fun r o hr=>?_,inj:=fun r r' o o' hr hr' hb=>?_,lamObj:=fun q v e sz b h1 h3 r o hr=>?_,newObj:=fun r o hr=>?_,own0:=fun r cs x s hr hx=>?_ }
 ·simp only[St.frzM,q0G]at hx;cases hy:aget σ.ρ s with
  |none=>simp[hy]at hx
  |some y=>
   simp[hy]at hx;subst hx;exact hfz (h2.slot s y hy)
 ·obtain⟨o',g1,rfl⟩:=hob r o hr;have g2:=h2.obj r o' g1;cases o' with
  |cells cs=>
   obtain⟨arr,el,k1,k2,k3⟩:=g2;refine⟨arr,el,k1,by rw[k2,Zbn],fun i x hi=>?_⟩;rw[Zan]at hi;cases hy:cs[i]? with
   |none=>simp[hy]at hi
   |some y=>
    simp[hy]at hi;subst hi;obtain⟨m1,m2,m3,m4⟩:=k3 i y hy;refine⟨hfz m1,m2,fun q hq=>?_,fun e he=>?_⟩
    ·cases y with
     |mp r'=>
      simp only[AV.frzM]at hq;split at hq<;>cases hq
     |_=>exact m3 q hq
    ·cases y with
     |mp r'=>
      simp only[AV.frzM]at he;split at he<;>cases he
     |_=>exact m4 e he
  |_=>exact g2
 ·obtain⟨o',g1,_⟩:=hob r o hr;exact h2.objf r o' g1
 ·obtain⟨o1,g1,_⟩:=hob r o hr;obtain⟨o2,g2,_⟩:=hob r' o' hr';exact h2.inj r r' o1 o2 g1 g2 hb
 ·obtain⟨o',g1,_⟩:=hob r o hr;exact h2.lamObj q v e sz b h1 h3 r o' g1
 ·obtain⟨o',g1,_⟩:=hob r o hr;exact h2.newObj r o' g1
 ·obtain⟨o',g1,g2⟩:=hob _ _ hr;cases o' with
  |cells cs'=>
   simp only[j2p,AObj.cells.injEq]at g2;subst g2;obtain⟨y,hy,rfl⟩:=Zat.1 hx;exact AV.j6a _ _ _ _ (h2.own0 r cs' y s g1 hy)
  |_=>simp[j2p]at g2
theorem Gh.j6b{a:Nat}{ks vs:List D}(ho:aget σ.L a=some (.mobj ks vs)):Gh σ (σ.frzM a ks vs):=fun _ _ _ _ _ h=>⟨_,h.j6b ho⟩
theorem Gh.frzP{a:Nat}{fs:List D}(ho:σ.obj (.l a)=some (.cells (fs.map .d))):Gh σ (σ.frzP a fs):=fun _ _ _ _ _ h=>⟨_,h.frzP ho⟩
end Go.Av
/- What a map has under a key, told alone. -/
namespace Go.Av
open Go.RowKit
variable {P:Program} [Inv P]
theorem q0e.j8h{d:Nat}{t kt e:TypeId}{kd:TypeDesc}{x i:LX}{K:St→Prop}{σ:St}{ks vs:List D}{key zero:D}(hx:σ.ev x=.d (.map ks vs))(hi:σ.ev i=.d key)(ht:P.underlying t=some (.map kt e))(hkt:P.underlying kt=some kd)
  (hkey:q17 kd key=true) (hks:∀k∈ks,q17 kd k=true) (hz:Program.zeroOf P e=some zero) (hK:K (σ.put d (.d ((q7R ks vs key).getD zero)))):q0e P (some d) (.lookup t false) [x,i] K σ:=by
 refine q0e.value _ (fun E _ n G a w o os hp hl hσ=>?_) hK;obtain⟨X,I,hop,rfl⟩:=q8n hp;obtain⟨x',i',hx',hi',he⟩:=z4a hl;cases he;have rx:=hσ.ev hx';have ri:=hσ.ev hi';rw[hx]at rx;rw[hi]at ri;have rx:=rx.dinv;have ri:=ri.dinv;generalize hv:a.eval X=v at rx;generalize hvi:a.eval I=vi at ri;obtain⟨zi,zv,hzi,hzv,hzc⟩:∃zi zv,P.info? e=some zi∧zi.zero=some zv∧cst zv=some zero:=by
  unfold Program.zeroOf at hz;obtain⟨zv,h1,h2⟩:=Zch.1 hz;obtain⟨zi,h3,h4⟩:=Zch.1 h1;exact⟨zi,zv,h3,h4,h2⟩
 have hzero:∀w,(zeroValue e).run P w=.ok zv w:=fun w=>by simp[zeroValue,typeInfo,hzi,hzv]
 have hkk:=q1J hkey ri;cases rx with
 |mapn=>
  refine⟨zv,?_,.d _ _ (by simpa[q7R]using z0b hzc)⟩;simp only[execOp,hop,hv,hvi,Instr.lookup,Sem.run_bind,run_underlying ht,Result.andThen_ok,Sem.run_pure,MapKept.run_checkKey hkt hkk,MapKept.run_findKey hkt (show Instr.findNow kd vi (#[]:Array MapEntry).toList 0=some none from rfl),hzero];rfl
 |map _ _ b es clock hb hh hk hv' hn hc hr hr'=>
  rcases find_spec hkey ri es.toList ks vs 0 (by simpa using hk) (by simpa using hv') hks (fun i k e h1 h2=>hr i k e h1 (by simpa using h2)) (fun i k e h1 h2=>hr' i k e h1 (by simpa using h2))with⟨h1,h2⟩|⟨v,j,u,h1,h2,h3⟩
  ·rw[h1];refine⟨zv,?_,.d _ _ (z0b hzc)⟩;simp only[execOp,hop,hv,hvi,Instr.lookup,Sem.run_bind,run_underlying ht,Result.andThen_ok,Sem.run_pure,MapKept.run_getObj_map hh,MapKept.run_checkKey hkt hkk,MapKept.run_findKey hkt h2,hzero,h1];rfl
  ·rw[h1];refine⟨u,?_,.d _ _ h3⟩;simp only[execOp,hop,hv,hvi,Instr.lookup,Sem.run_bind,run_underlying ht,Result.andThen_ok,Sem.run_pure,MapKept.run_getObj_map hh,MapKept.run_checkKey hkt hkk,MapKept.run_findKey hkt h2,hzero,h1];rfl
end Go.Av
/- A struct is built with a map in it that is still written. -/
namespace Go.Av
variable {E:Entry} {n:Nat} {G:q0s} {σ:St} {ts:Array Value} {w:World} {P:Program} [Inv P]
def z7N:AV→Option (List AV)
 |.mp r=>some [.mp r]
 |x=>x.rd.map fun y=>y.cells.map .d
def z9V(places:List (Nat×Nat))(cs:List AV):List (Nat×AV)→Option (List AV)
 |[]=>some cs
 |(i,x)::r=>match j2z places i,z7N x with
  |some (off,size),some ys=>if ys.length=size∧off+size≤cs.length then z9V places (cs.take off++ys++cs.drop (off+size)) r else none
  |_,_=>none
def q91(G:q0s)(w:World)(cs:List AV)(arr:Array Value):Prop:=arr.size=cs.length∧∀i x,cs[i]?=some x→AVR G w x (arr.getD i undef)∧(arr.getD i undef).oneCell'=true
theorem z7O{x:AV}{v:Value}{ys:List AV}(hv:AVR G w x v)(h:z7N x=some ys):q91 G w ys v.cells:=by
 have rd:∀y,x.rd=some y→ys=y.cells.map .d→q91 G w ys v.cells:=fun y hy e=>by
  have hr:RD G.f w y v:=hv.rd hy;subst e;refine⟨by rw[hr.q2I,Zbn],fun i z hz=>?_⟩;rw[Zan]at hz;cases hc:y.cells[i]? with
  |none=>rw[hc]at hz;cases hz
  |some u=>
   rw[hc]at hz;cases hz;have h1:=hr.cell hc;exact⟨.d _ _ h1,(h1.one (hr.flat u (Zaf hc))).1⟩
 unfold z7N at h;split at h
 ·cases h;cases hv;exact⟨rfl,fun i x hx=>by
   cases i with
   |zero=>cases hx;exact⟨.mp _,rfl⟩
   |succ i=>simp at hx⟩
 ·obtain⟨y,h1,h2⟩:=map_none h;exact rd y h1 h2.symm
theorem q91.set{cs ys:List AV}{arr:Array Value}{v:Value}(h:q91 G w cs arr)(hv:q91 G w ys v.cells){off:Nat}(ho:off+ys.length≤cs.length):
  q91 G w (cs.take off++ys++cs.drop (off+ys.length)) (setV arr off v.cells):=by
 obtain⟨h1,h2⟩:=z1E arr off v.cells (by rw[hv.1,h.1];exact ho);refine⟨by rw[h1,h.1];simp;omega,fun i z hz=>?_⟩;rw[h2 i];have htl:(cs.take off).length=off:=by simp;omega
 have hsz:=hv.1
 by_cases hc:off≤i∧i<off+v.cells.size
 ·rw[if_pos hc];rw[List.append_assoc,Zam (by omega),htl,Zaj (by omega)]at hz;exact hv.2 _ z hz
 ·rw[if_neg hc]
  by_cases hi:i<off
  ·rw[List.append_assoc,Zaj (by omega),Zbc,if_pos hi]at hz;exact h.2 i z hz
  ·rw[List.append_assoc,Zam (by omega),htl,Zam (by omega),Zbx]at hz;rw[show off+ys.length+(i-off-ys.length)=i by omega]at hz;exact h.2 i z hz
theorem z77{places:List (Nat×Nat)}:∀{xs:List (Nat×AV)} {vs:List (Nat×Value)} {cs out:List AV} {arr:Array Value},vs.map (·.1)=xs.map (·.1)→(∀(i:Nat) (p:Nat×AV) (q:Nat×Value),xs[i]?=some p→vs[i]?=some q→AVR G w p.2 q.2)→
  q91 G w cs arr→z9V places cs xs=some out→∃arr',Instr.fill (places[·]?) arr vs=some arr'∧q91 G w out arr'
 |[],vs,cs,out,arr,hk,_,hc,h=>by
  have:vs=[]:=by simpa using hk
  subst this;simp[z9V]at h;subst h;exact⟨arr,rfl,hc⟩
 |(i,x)::xs,vs,cs,out,arr,hk,hr,hc,h=>by
  cases vs with
  |nil=>simp at hk
  |cons q vs=>
   obtain⟨i',v⟩:=q;simp at hk;obtain⟨rfl,hk⟩:=hk;simp only[z9V]at h;split at h
   ·rename_i off size ys hp hy;split at h
    ·rename_i hb;have hv:=z7O (hr 0 _ _ rfl rfl) hy;rw[z3o]at hp;rw[z3X _ arr i' v vs off size hp (by rw[hv.1];exact hb.1) (by rw[hc.1];exact hb.2)];have h3:=hc.set hv (off:=off) (by rw[hb.1];exact hb.2);rw[hb.1]at h3;exact z77 (by simpa using hk) (fun j p q hp hq=>hr (j+1) p q (by simpa using hp) (by simpa using hq)) h3 h
    ·cases h
   ·cases h
theorem z8w{op:Op}{pl:List (Nat×Nat)}{zero:List D}{nils:List Bool}{l:List (Nat×LX)}(h:j2w P op=some (.bld pl zero nils l)):∃t ps,op=.build t ps∧z14 P t ps.toList=some (.bld pl zero nils l):=by
 unfold j2w at h;split at h;all_goals first
  |exact⟨_,_,rfl,h⟩
  |(cases h;done)
  |(obtain⟨_,_,e⟩:=q1c h;cases e;done)
  |(simp only[z39,z8n,q5z,j1l,z6R,j1m,j1n,j1j,j0a,q6s]at h
    repeat' split at h
    all_goals first
     |(cases h;done)
     |(obtain⟨_,_,e⟩:=q1c h;cases e;done)
     |(obtain⟨_,_,_,_,e⟩:=q28 h;cases e;done))
  |(repeat' split at h
    all_goals first
     |(cases h;done)
     |(obtain⟨_,_,e⟩:=q1c h;cases e;done)
     |(obtain⟨_,_,_,_,e⟩:=q28 h;cases e;done))
  |(unfold q5z at h
    split at h
    ·cases h
    ·obtain⟨_,_,e⟩:=map_none h;cases e
    ·cases h)
  |skip
theorem j4g{o:Oper}{pl:List (Nat×Nat)}{zero:List D}{nils:List Bool}{l:List (Nat×LX)}(h:q5Z P o=some (.val (.bld pl zero nils l))):∃t ps,o.op=.build t ps∧z14 P t ps.toList=some (.bld pl zero nils l):=by
 unfold q5Z at h;split at h
 ·split at h
  ·split at h<;>cases h
  ·obtain⟨_,_,h⟩:=map_none h;cases h
 ·split at h<;>cases h
 ·obtain⟨_,_,h⟩:=map_none h;cases h
 ·split at h<;>cases h
 ·unfold q2m at h;split at h
  ·obtain⟨_,_,_,_,_,_,h⟩:=q2A h;cases h
  ·cases h
 ·split at h
  ·obtain⟨_,_,h⟩:=map_none h;cases h
  ·cases h
 ·split at h
  ·split at h<;>cases h
  ·cases h
 ·rename_i t x lo hi ho;have key:∀{v:LV},q5z P t x lo hi=some v→v≠.bld pl zero nils l:=fun{v} hv e=>by
   subst e;obtain⟨_,_,e,_⟩:=z8w (op:=.slice t x lo hi none) hv;cases e
  split at h
  ·split at h<;>cases h
  ·obtain⟨v,h1,h2⟩:=map_none h;cases h2;exact absurd rfl (key h1)
 ·obtain⟨v,h1,h2⟩:=map_none h;cases h2;exact z8w h1
theorem j1b{places:List (Nat×Nat)}:∀{q:List (Nat×AV)} {cs out:List AV},z9V places cs q=some out→∀p∈q,p.1<places.length
 |[],_,_,_,p,hp=>by cases hp
 |(i,x)::q,cs,out,hf,p,hp=>by
  simp only[z9V]at hf;split at hf
  ·rename_i off size y hpl hy;split at hf
   ·rcases Zba.1 hp with rfl|hp
    ·rw[z3o]at hpl;exact(Zac.1 hpl).1
    ·exact j1b hf p hp
   ·cases hf
  ·cases hf
theorem q2C.bldX{d:Nat}{pl:List (Nat×Nat)}{zero:List D}{nils:List Bool}{l:List (Nat×LX)}{K:St→Prop}{out:List AV}
  (hf:z9V pl (z0J nils zero) (evP σ l)=some out) (hs:∀x∈out,x.simple=true) (hnil:∀(j:Nat),nils[j]?=some true→zero[j]?=some (D.list [])) (hK:K (σ.put d (.sx out))):q2C P ⟨some d,.val (.bld pl zero nils l),none⟩ K σ:=
 ⟨rfl,fun E _ n G a w o h1 h2 h3 h4=>by
   obtain⟨t,ps,ho,hl⟩:=j4g (q3A h1 (fun p xs chk e=>by cases e));have hd:d<n:=by simpa[q4p]using h3
   unfold z14 at hl;split at hl
   ·rename_i places zer lx hp hz hpl;split at hl
    ·rename_i hc;simp only[Zas,LV.bld.injEq]at hl;obtain⟨rfl,rfl,_,rfl⟩:=hl;obtain⟨k1,k2⟩:=z4d h4 hpl;have e:(ps.map fun(i,x)=>(i,a.eval x))=(ps.toList.map fun p=>(p.1,a.eval p.2)).toArray:=by
      apply Zcl;simp
     obtain⟨zv,arr,hrun,hcx⟩:∃(zv:Value) (arr:Array Value),(Instr.build t (ps.toList.map fun p=>(p.1,a.eval p.2)).toArray).run P w=.ok (.agg arr) w∧q91 G w out arr:=by
      have hz':=hz;unfold Program.zeroOf at hz;cases hi:P.info? t with
      |none=>simp[hi]at hz
      |some ti=>
       cases hzv:ti.zero with
       |none=>simp[hi,hzv]at hz
       |some zv=>
        simp[hi,hzv]at hz;have hzr:RD G.f w (.agg zer) zv:=z0b hz;have hc0:q91 G w (z0J nils zer) zv.cells:=by
         refine⟨by rw[z1u];exact hzr.q2I,fun i y hy=>?_⟩;obtain⟨x,h5,h6⟩:=q9i _ _ _ _ hy;have hcell:(D.agg zer).cells[i]?=some x:=h5;have hr1:=hzr.cell hcell;have ho1:=(hr1.one (hzr.flat x (Zaf hcell))).1;rcases h6 with⟨hb,rfl⟩|rfl
         ·have h7:=hnil i hb;rw[h5]at h7;cases h7;have hz0:=z9J hz (i:=i) hcell;rw[hz0]at ho1 ⊢;exact⟨.ns,ho1⟩
         ·exact⟨.d _ _ hr1,ho1⟩
        obtain⟨arr',q1,q2⟩:=z77 k1 k2 hc0 hf;refine⟨zv,arr',run_build w t _ arr' ?_,q2⟩;unfold Program.placesOf at hp;cases hu:P.underlying t with
        |none=>simp[hu]at hp
        |some d=>
         cases d with
         |struct fs=>
          simp only[hu]at hp;simp only[Program.built,hi,hu,hzv,hp];simpa using q1
         |array k e=>
          simp only[hu]at hp;simp only[hu,j1g,Bool.or_false]at hc;cases hie:P.info? e with
          |none=>simp[hie]at hp
          |some ie=>
           simp[hie]at hp;simp only[Program.built,hi,hu,hzv,hie];rw[←q1];refine z1W fun x hx=>?_
           have hxm:x.1<ps.toList.length:=by
            have hm:x.1∈((ps.toList.map fun p=>(p.1,a.eval p.2)).map (·.1)):=Zat.2 ⟨x,hx,rfl⟩;rw[k1]at hm;obtain⟨y,hy,e2⟩:=Zat.1 hm;have:=j1b hf y hy;rw[←hp]at this;rw[←e2];simpa using this
           have hxm2:x.1<ps.size:=by simpa using hxm
           simp[←hp,hxm2]
         |_=>simp[hu]at hp
     have hav:AVR G w (.sx out) (.agg arr):=.sx _ _ hcx.1 hs (fun i hi=>(hcx.2 i out[i] (Zal hi)).2) (fun i x hi=>(hcx.2 i x hi).1);refine .inl ⟨.agg arr,w,?_,G,_,hK,?_⟩
     ·simp only[execOp,ho,e];simp[hrun]
     ·simpa[Act.put]using h4.put hav hd
    ·cases hl
   ·cases hl⟩
section
variable {a:Act}
theorem j2C(h:SR E n G σ a.tmps w){d e:Nat}(hn:d<n){cs:List AV}{arr:Array Value}(hl:arr.size=cs.length)(hc:∀(G':q0s) (w':World),Ext G.f w G'.f w'→(∀r,r≠.l d→G'.b r=G.b r)→∀(i:Nat) (x:AV),cs[i]?=some x→AVR G' w' x (arr.getD i undef)∧(arr.getD i undef).oneCell'=true∧x.lab?=none∧∀e',x=.nt e'→e'=e):
  ∃G',SR E n G' (((σ.drop d).setObj (.l d) (.cells cs)).put d (.ptr (.l d) 0)) (a.tmps.setIfInBounds d (.pointer (some (at_ w.heap.size 0)))) (w.alloc (.cells arr e)):=by
 have h1:=(h.drop d).alloc (.cells arr e) 0;have hf0:∀b,updf G.f w.heap.size 0 b=G.f b:=fun b=>by
  by_cases e:b=w.heap.size
  ·rw[e,q03,h.top _ (Zak _)]
  ·exact q0J _ _ e
 have hlt:∀r o,(σ.drop d).obj r=some o→G.b r<w.heap.size:=fun r o ho=>((h.drop d).obj r o ho).lt
 have hρ:∀t x,aget (σ.drop d).ρ t=some x→x.has (.l d)=false:=fun t x hx=>by
  simp only[St.drop,q0G]at hx;cases hy:aget σ.ρ t with
  |none=>simp[hy]at hx
  |some y=>simp[hy]at hx;subst hx;exact AV.q2Q _ _
 have hL:∀t cs x,aget (σ.drop d).L t=some (.cells cs)→x∈cs→x.has (.l d)=false:=fun t cs x hx hm=>by
  simp only[St.drop,q0G]at hx;cases hy:aget σ.L t with
  |none=>simp[hy]at hx
  |some y=>
   simp[hy]at hx;cases y with
   |siter s p=>simp[q0P]at hx
   |miter l c=>simp[q0P]at hx
   |mobj l c=>simp[q0P]at hx
   |cells cs'=>simp[q0P]at hx;subst hx;obtain⟨y,_,rfl⟩:=Zat.1 hm;exact AV.q2Q _ _
 have hext:Ext G.f w (updf G.f w.heap.size 0) (w.alloc (.cells arr e)):=Ext.alloc w h.top _ 0;have h2:=h1.j0Z d w.heap.size (.cells cs) hρ hL (by show updf G.f w.heap.size 0 w.heap.size=0;simp) (fun r o ho=>by have:=hlt r o ho;exact fun e'=>by have e'':G.b r=w.heap.size:=e';omega)
  (fun q v p hq hb=>by obtain⟨e1,s1⟩:=p;have:=(h.lam q v e1 s1 hq).lt hb;omega) h.ext.size
  ⟨arr,e,by show(w.alloc _).heap[updf G.b (.l d) w.heap.size (.l d)]?=_;rw[q03];exact q1x w _,hl,fun i x hi=>by
    obtain⟨g1,g2,g3,g4⟩:=hc { f:=updf G.f w.heap.size 0,b:=updf G.b (.l d) w.heap.size,lam:=G.lam } _ hext (fun r hr=>q0J _ _ hr) i x hi;exact⟨g1,g2,fun q hq=>(by rw[g3]at hq;cases hq),g4⟩⟩
 have h3:=h2.put (s:=d) (x:=.ptr (.l d) 0) (v:=.pointer (some (at_ w.heap.size 0))) (by
  have:=AVR.ptr (G:={ f:=updf G.f w.heap.size 0,b:=updf G.b (.l d) w.heap.size,lam:=G.lam }) (w:=w.alloc (.cells arr e)) (.l d) 0;simpa using this) hn
 exact⟨_,h3⟩
end
theorem j4h{o:Oper}{x':LX}(h:q5Z P o=some (.box x')):∃e x,o.op=.box e x∧q1o x=some x':=by
 unfold q5Z at h;split at h
 ·split at h
  ·split at h<;>cases h
  ·obtain⟨_,_,h⟩:=map_none h;cases h
 ·split at h<;>cases h
 ·rename_i e x ho;obtain⟨y,h1,h2⟩:=map_none h;cases h2;exact⟨e,x,ho,h1⟩
 ·split at h<;>cases h
 ·unfold q2m at h;split at h
  ·obtain⟨_,_,_,_,_,_,h⟩:=q2A h;cases h
  ·cases h
 ·split at h
  ·obtain⟨_,_,h⟩:=map_none h;cases h
  ·cases h
 ·split at h
  ·split at h<;>cases h
  ·cases h
 ·split at h
  ·split at h<;>cases h
  ·obtain⟨_,_,h⟩:=map_none h;cases h
 ·obtain⟨_,_,h⟩:=map_none h;cases h
def mpX(d:Nat):AV→Bool
 |.d _|.ns=>true
 |.mp r=>decide (r≠.l d)
 |_=>false
theorem q2C.boxX{d:Nat}{x':LX}{cs:List AV}{K:St→Prop}(hx:σ.ev x'=.sx cs)(hc:∀y∈cs,mpX d y=true)(hK:K (((σ.drop d).setObj (.l d) (.cells cs)).put d (.ptr (.l d) 0))):q2C P ⟨some d,.box x',none⟩ K σ:=
 ⟨rfl,fun E _ n G a w o h1 h2 h3 h=>by
   obtain⟨e,x,ho,hx2⟩:=j4h (q3A h1 (fun p xs chk e=>by cases e));have hn:d<n:=by simpa[q4p]using h3
   have rx:=h.ev hx2;rw[hx]at rx;generalize hv:a.eval x=v at rx;cases rx with
   |sx _ vs hl hsim hoc hh=>
    obtain⟨G',q1⟩:=j2C (e:=e) h hn (cs:=cs) (arr:=vs) hl (fun G2 w2 hx2 hb i y hi=>by
     have hlt:=(Zac.1 hi).1;have h5:=hh i y hi;have hm:=hc y (Zaf hi);cases y with
     |d z=>exact⟨.d _ _ (h5.dinv.ext hx2),hoc i hlt,rfl,fun _ e=>by cases e⟩
     |ns=>
      refine⟨?_,hoc i hlt,rfl,fun _ e=>by cases e⟩;generalize vs.getD i undef=u at h5;cases h5;exact .ns
     |mp r=>
      refine⟨?_,hoc i hlt,rfl,fun _ e=>by cases e⟩;have hr:r≠.l d:=of_decide_eq_true hm;generalize vs.getD i undef=u at h5;cases h5;rw[←hb r hr];exact .mp r
     |_=>cases hm)
    refine .inl ⟨.pointer (some (at_ w.heap.size 0)),w.alloc (.cells vs e),?_,G',_,hK,?_⟩
    ·simp only[execOp,ho];simp[Instr.box,newVar,newRow,at_,hv,Value.cells]
    ·simpa[Act.put]using q1⟩
end Go.Av
/- Two errors that are numbers: they are the same where their numbers are. -/
namespace Go.Av
variable {P:Program} [Inv P]
theorem q0e.j9e{d:Nat}{t tx:TypeId}{ms:Array (String×TypeId)}{q:IntKind}{x y:LX}{K:St→Prop}{σ:St}{n:Int}{u:D}{b:Bool}(hx:σ.ev x=.d u)(hy:σ.ev y=.d (.iface tx (.int q n)))
  (hu:(u=.nil∧b=false)∨∃m,u=.iface tx (.int q m)∧b=decide (m=n))
  (ht:P.underlying t=some (.interface ms)) (hc:(P.info? tx).map (·.comparable)=some true) (hq:P.underlying tx=some (.int q)) (hK:K (σ.put d (.d (.bool b)))):
  q0e P (some d) (.eq .eql t) [x,y] K σ:=by
 refine q0e.value (.d (.bool b)) (fun E _ n' G a w o os hp hl hσ=>?_) hK;obtain⟨X,Y,yt,hop,rfl⟩:=z8W hp;obtain⟨x',y',hx',hy',he⟩:=z4a hl;cases he;have rx:=hσ.ev hx';have ry:=hσ.ev hy';rw[hx]at rx;rw[hy]at ry;have rx:=rx.dinv;have ry:=ry.dinv;generalize hv:a.eval X=v at rx;generalize hv2:a.eval Y=v2 at ry;cases ry with
 |iface _ _ z hz=>
  cases hz;refine⟨.bool b,?_,.d _ _ (.bool _)⟩;rcases hu with⟨rfl,rfl⟩|⟨m,rfl,rfl⟩
  ·cases rx;have hg:(eqGuard .eql t X Y .nilIface (.iface tx (.int q n))).run P w=.ok () w:=q79 (fun cs ds ⟨e,_⟩=>by cases e) (fun _ e=>by cases e);simp only[execOp,hop,hv,hv2,Sem.run_bind,hg,Result.andThen_ok];rw[run_eql_iface_nil_left w tx _ ht];rfl
  ·cases rx with
   |iface _ _ z hz=>
    cases hz;have hg:(eqGuard .eql t X Y (.iface tx (.int q m)) (.iface tx (.int q n))).run P w=.ok () w:=q79 (fun cs ds ⟨e,_⟩=>by cases e) (fun e _=>by cases e);simp only[execOp,hop,hv,hv2,Sem.run_bind,hg,Result.andThen_ok];rw[Lib.run_eql_iface_int w m n ht hc hq];rfl
end Go.Av
