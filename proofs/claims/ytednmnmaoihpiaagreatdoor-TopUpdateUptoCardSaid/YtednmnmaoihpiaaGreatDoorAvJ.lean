import Derived.Test.YtednmnmaoihpiaaGreatDoorAvI
set_option linter.unusedSectionVars false
/- A region drawn in any order that makes one map: its entries stand in some order. -/
namespace Go.Av
variable {P:Program} [Inv P]
/-! ### A map that is not written any more is data -/
def AV.frzM(a:Nat)(ks vs:List D):AV→AV
 |.mp r=>if r=.l a then .d (.map ks vs)else .mp r
 |x=>x
theorem SR.frzM{E:Entry}{n:Nat}{G:q0p}{σ:St}{ts:Array Value}{w:World}(h:SR E n G σ ts w){a:Nat}{ks vs:List D}(ho:aget σ.L a=some (.mobj ks vs)):
  SR E n { G with f:=updf G.f (G.b (.l a)) 1 } ⟨amap (AV.frzM a ks vs) σ.ρ,[],σ.H⟩ ts w:=by
 have ho':σ.obj (.l a)=some (.mobj ks vs):=ho;have hwk:Wk { σ with L:=[] } σ:=⟨fun _ _ h=>h,fun r o hr=>by
  cases r with
  |x t=>exact hr
  |l k=>simp[St.obj,aget]at hr⟩
 have h1:=h.wk hwk;have hf0:G.f (G.b (.l a))=0:=h.objf _ _ ho';have hlt:=(h.obj _ _ ho').lt;have hext:Ext G.f w (updf G.f (G.b (.l a)) 1) w:=⟨Zai _,fun b=>by
  by_cases e:b=G.b (.l a)
  ·rw[e,hf0];exact Zbb _
  ·rw[q0H _ _ e];exact Zai _,fun b i hi=>rfl,fun _ _ _ _ h=>h⟩
 have h2:SR E n { G with f:=updf G.f (G.b (.l a)) 1 } { σ with L:=[] } ts w:=by
  refine h1.q7Q (fun b=>b=G.b (.l a)) (fun b hb=>?_) hext (fun b hb hx=>⟨rfl,q0H _ _ hx⟩) (fun b hb=>?_) rfl rfl rfl
  ·subst hb;refine⟨fun r o hr e=>?_,fun q v p hq hv=>?_,h.newObj _ _ ho'⟩
   ·have:=h.inj r (.l a) o _ (hwk.obj r o hr) ho' e;subst this;simp[St.obj,aget]at hr
   ·obtain⟨e,sz⟩:=p;exact h.lamObj q v e sz _ hq hv _ _ ho' rfl
  ·have:b≠G.b (.l a):=fun e=>by rw[e]at hb;omega
   rw[q0H _ _ this];exact h.top b hb
 have hrd:RD (updf G.f (G.b (.l a)) 1) w (.map ks vs) (.map (some (G.b (.l a)))):=by
  obtain⟨es,clock,g1,g2⟩:=h.obj _ _ ho';have g3:=g2.ext hext;exact .map ks vs _ es clock (by rw[q0S];omega) g1 g3.1 g3.2.1 g3.2.2.1 g3.2.2.2.1 g3.2.2.2.2.1 g3.2.2.2.2.2
 refine{ h2 with slot:=fun s x hx=>?_ };simp only[q0D]at hx;cases hy:aget σ.ρ s with
 |none=>simp[hy]at hx
 |some y=>
  simp[hy]at hx;subst hx;have:=h2.slot s y hy;cases y with
  |mp r=>
   simp only[AV.frzM];split
   ·rename_i e;subst e;rw[z8x this];exact .d _ _ hrd
   ·exact this
  |_=>exact this
/-! ### The entries -/
inductive UE where
 |v (d:Nat) (z:AV)
 |m (d:Nat)
 |u (key:List UInt8) (v:D)
def UE.j7A:UE→Option (Nat×AV)
 |.v d z=>some (d,z)
 |.m d=>some (d,.mp (.l d))
 |.u _ _=>none
def j68(tab:List UE)(j:Nat):Option (Nat×AV):=(tab[j]?).bind UE.j7A
def known(base:List (Nat×AV))(tab:List UE)(ds:List Nat):List (Nat×AV):=base++ds.filterMap (j68 tab)
/-! ### The check -/
end Go.Av
/- A map that is not written any more is data; the other objects stay. -/
namespace Go.Av
variable {E:Entry} {n:Nat} {G:q0p} {σ:St} {ts:Array Value} {w:World}
def z9y(a:Nat)(ks vs:List D):AObj→AObj
 |.cells cs=>.cells (cs.map (AV.frzM a ks vs))
 |o=>o
def St.frzM(σ:St)(a:Nat)(ks vs:List D):St:={ ρ:=amap (AV.frzM a ks vs) σ.ρ,L:=adel (amap (z9y a ks vs) σ.L) a,H:=amap (z9y a ks vs) σ.H }
theorem St.j37(σ:St)(a:Nat)(ks vs:List D)(r:Ref){o:AObj}(h:(σ.frzM a ks vs).obj r=some o):r≠.l a∧∃o',σ.obj r=some o'∧o=z9y a ks vs o':=by
 cases r with
 |x t=>
  simp only[St.frzM,St.obj,q0D]at h;cases hx:aget σ.H t with
  |none=>simp[hx]at h
  |some o'=>simp[hx]at h;exact⟨by simp,o',hx,h.symm⟩
 |l t=>
  simp only[St.frzM,St.obj,q0J,q0D]at h;split at h
  ·cases h
  ·rename_i hne;cases hx:aget σ.L t with
   |none=>simp[hx]at h
   |some o'=>simp[hx]at h;exact⟨by simp;omega,o',hx,h.symm⟩
theorem AV.j3D(a:Nat)(ks vs:List D)(r:Ref){x:AV}(h:x.has r=false):(x.frzM a ks vs).has r=false:=by
 cases x with
 |mp r'=>
  simp only[AV.frzM];split
  ·rfl
  ·exact h
 |_=>exact h
theorem SR.j3E(h:SR E n G σ ts w){a:Nat}{ks vs:List D}(ho:aget σ.L a=some (.mobj ks vs)):
  SR E n { G with f:=updf G.f (G.b (.l a)) 1 } (σ.frzM a ks vs) ts w:=by
 have ho':σ.obj (.l a)=some (.mobj ks vs):=ho;have hwk:Wk { σ with L:=adel σ.L a } σ:=⟨fun _ _ h=>h,fun r o hr=>by
  cases r with
  |x t=>exact hr
  |l k=>
   simp only[St.obj,q0J]at hr;split at hr
   ·cases hr
   ·exact hr⟩
 have h1:=h.wk hwk;have hf0:G.f (G.b (.l a))=0:=h.objf _ _ ho';have hlt:=(h.obj _ _ ho').lt;have hext:Ext G.f w (updf G.f (G.b (.l a)) 1) w:=⟨Zai _,fun b=>by
  by_cases e:b=G.b (.l a)
  ·rw[e,hf0];exact Zbb _
  ·rw[q0H _ _ e];exact Zai _,fun b i hi=>rfl,fun _ _ _ _ h=>h⟩
 have h2:SR E n { G with f:=updf G.f (G.b (.l a)) 1 } { σ with L:=adel σ.L a } ts w:=by
  refine h1.q7Q (fun b=>b=G.b (.l a)) (fun b hb=>?_) hext (fun b hb hx=>⟨rfl,q0H _ _ hx⟩) (fun b hb=>?_) rfl rfl rfl
  ·subst hb;refine⟨fun r o hr e=>?_,fun q v p hq hv=>?_,h.newObj _ _ ho'⟩
   ·have:=h.inj r (.l a) o _ (hwk.obj r o hr) ho' e;subst this;simp[St.obj,q0J]at hr
   ·obtain⟨e,sz⟩:=p;exact h.lamObj q v e sz _ hq hv _ _ ho' rfl
  ·have:b≠G.b (.l a):=fun e=>by rw[e]at hb;omega
   rw[q0H _ _ this];exact h.top b hb
 have hrd:RD (updf G.f (G.b (.l a)) 1) w (.map ks vs) (.map (some (G.b (.l a)))):=by
  obtain⟨es,clock,g1,g2⟩:=h.obj _ _ ho';have g3:=g2.ext hext;exact .map ks vs _ es clock (by rw[q0S];omega) g1 g3.1 g3.2.1 g3.2.2.1 g3.2.2.2.1 g3.2.2.2.2.1 g3.2.2.2.2.2
 have hfz:∀{x:AV} {v:Value},AVR { G with f:=updf G.f (G.b (.l a)) 1 } w x v→AVR { G with f:=updf G.f (G.b (.l a)) 1 } w (x.frzM a ks vs) v:=fun{x v} hx=>by
  cases x with
  |mp r=>
   simp only[AV.frzM];split
   ·rename_i e;subst e;rw[z8x hx];exact .d _ _ hrd
   ·exact hx
  |_=>exact hx
 have hob:∀r o,(σ.frzM a ks vs).obj r=some o→∃o',St.obj { σ with L:=adel σ.L a } r=some o'∧o=z9y a ks vs o':=fun r o hr=>by
  obtain⟨g1,o',g2,g3⟩:=σ.j37 a ks vs r hr;refine⟨o',?_,g3⟩;cases r with
  |x t=>exact g2
  |l k=>
   simp only[St.obj,q0J];rw[if_neg (fun e=>g1 (by rw[e]))];exact g2
 refine{ h2 with slot:=fun s x hx=>?_,obj:=fun r o hr=>?_,objf:=fun r o hr=>?_,inj:=fun r r' o o' hr hr' hb=>?_,lamObj:=fun q v e sz b h1 h3 r o hr=>?_,newObj:=fun r o hr=>?_,own0:=fun r cs x s hr hx=>?_ }
 ·simp only[St.frzM,q0D]at hx;cases hy:aget σ.ρ s with
  |none=>simp[hy]at hx
  |some y=>
   simp[hy]at hx;subst hx;exact hfz (h2.slot s y hy)
 ·obtain⟨o',g1,rfl⟩:=hob r o hr;have g2:=h2.obj r o' g1;cases o' with
  |cells cs=>
   obtain⟨arr,el,k1,k2,k3⟩:=g2;refine⟨arr,el,k1,by rw[k2,Zbd],fun i x hi=>?_⟩;rw[Zam]at hi;cases hy:cs[i]? with
   |none=>simp[hy]at hi
   |some y=>
    simp[hy]at hi;subst hi;obtain⟨m1,m2,m3,m4⟩:=k3 i y hy;refine⟨hfz m1,m2,fun q hq=>?_,fun e he=>?_⟩
    ·cases y with
     |mp r'=>
      simp only[AV.frzM]at hq;split at hq<;>cases hq
     |_=>exact m3 q hq
    ·cases y with
     |mp r'=>
      simp only[AV.frzM]at he;split at he<;>cases he
     |_=>exact m4 e he
  |_=>exact g2
 ·obtain⟨o',g1,_⟩:=hob r o hr;exact h2.objf r o' g1
 ·obtain⟨o1,g1,_⟩:=hob r o hr;obtain⟨o2,g2,_⟩:=hob r' o' hr';exact h2.inj r r' o1 o2 g1 g2 hb
 ·obtain⟨o',g1,_⟩:=hob r o hr;exact h2.lamObj q v e sz b h1 h3 r o' g1
 ·obtain⟨o',g1,_⟩:=hob r o hr;exact h2.newObj r o' g1
 ·obtain⟨o',g1,g2⟩:=hob _ _ hr;cases o' with
  |cells cs'=>
   simp only[z9y,AObj.cells.injEq]at g2;subst g2;obtain⟨y,hy,rfl⟩:=Zap.1 hx;exact AV.j3D _ _ _ _ (h2.own0 r cs' y s g1 hy)
  |_=>simp[z9y]at g2
theorem Gh.j3E{a:Nat}{ks vs:List D}(ho:aget σ.L a=some (.mobj ks vs)):Gh σ (σ.frzM a ks vs):=fun _ _ _ _ _ h=>⟨_,h.j3E ho⟩
theorem Gh.frzP{a:Nat}{fs:List D}(ho:σ.obj (.l a)=some (.cells (fs.map .d))):Gh σ (σ.frzP a fs):=fun _ _ _ _ _ h=>⟨_,h.frzP ho⟩
end Go.Av
/- What a map has under a key, told alone. -/
namespace Go.Av
open Go.RowKit
variable {P:Program} [Inv P]
theorem q0b.j5N{d:Nat}{t kt e:TypeId}{kd:TypeDesc}{x i:LX}{K:St→Prop}{σ:St}{ks vs:List D}{key zero:D}(hx:σ.ev x=.d (.map ks vs))(hi:σ.ev i=.d key)(ht:P.underlying t=some (.map kt e))(hkt:P.underlying kt=some kd)
  (hkey:q2B kd key=true) (hks:∀k∈ks,q2B kd k=true) (hz:Program.zeroOf P e=some zero) (hK:K (σ.put d (.d ((q84 ks vs key).getD zero)))):q0b P (some d) (.lookup t false) [x,i] K σ:=by
 refine q0b.value _ (fun E _ n G a w o os hp hl hσ=>?_) hK;obtain⟨X,I,hop,rfl⟩:=q6g hp;obtain⟨x',i',hx',hi',he⟩:=z5M hl;cases he;have rx:=hσ.ev hx';have ri:=hσ.ev hi';rw[hx]at rx;rw[hi]at ri;have rx:=rx.dinv;have ri:=ri.dinv;generalize hv:a.eval X=v at rx;generalize hvi:a.eval I=vi at ri;obtain⟨zi,zv,hzi,hzv,hzc⟩:∃zi zv,P.info? e=some zi∧zi.zero=some zv∧cst zv=some zero:=by
  unfold Program.zeroOf at hz;obtain⟨zv,h1,h2⟩:=Zcb.1 hz;obtain⟨zi,h3,h4⟩:=Zcb.1 h1;exact⟨zi,zv,h3,h4,h2⟩
 have hzero:∀w,(zeroValue e).run P w=.ok zv w:=fun w=>by simp[zeroValue,typeInfo,hzi,hzv]
 have hkk:=q2J hkey ri;cases rx with
 |mapn=>
  refine⟨zv,?_,.d _ _ (by simpa[q84]using q7F hzc)⟩;simp only[execOp,hop,hv,hvi,Instr.lookup,Sem.run_bind,run_underlying ht,Result.andThen_ok,Sem.run_pure,MapKept.run_checkKey hkt hkk,MapKept.run_findKey hkt (show Instr.findNow kd vi (#[]:Array MapEntry).toList 0=some none from rfl),hzero];rfl
 |map _ _ b es clock hb hh hk hv' hn hc hr hr'=>
  rcases find_spec hkey ri es.toList ks vs 0 (by simpa using hk) (by simpa using hv') hks (fun i k e h1 h2=>hr i k e h1 (by simpa using h2)) (fun i k e h1 h2=>hr' i k e h1 (by simpa using h2))with⟨h1,h2⟩|⟨v,j,u,h1,h2,h3⟩
  ·rw[h1];refine⟨zv,?_,.d _ _ (q7F hzc)⟩;simp only[execOp,hop,hv,hvi,Instr.lookup,Sem.run_bind,run_underlying ht,Result.andThen_ok,Sem.run_pure,MapKept.run_getObj_map hh,MapKept.run_checkKey hkt hkk,MapKept.run_findKey hkt h2,hzero,h1];rfl
  ·rw[h1];refine⟨u,?_,.d _ _ h3⟩;simp only[execOp,hop,hv,hvi,Instr.lookup,Sem.run_bind,run_underlying ht,Result.andThen_ok,Sem.run_pure,MapKept.run_getObj_map hh,MapKept.run_checkKey hkt hkk,MapKept.run_findKey hkt h2,hzero,h1];rfl
end Go.Av
/- A struct is built with a map in it that is still written. -/
namespace Go.Av
variable {E:Entry} {n:Nat} {G:q0p} {σ:St} {ts:Array Value} {w:World} {P:Program} [Inv P]
def z5b:AV→Option (List AV)
 |.mp r=>some [.mp r]
 |x=>x.rd.map fun y=>y.cells.map .d
def z60(places:List (Nat×Nat))(cs:List AV):List (Nat×AV)→Option (List AV)
 |[]=>some cs
 |(i,x)::r=>match z9I places i,z5b x with
  |some (off,size),some ys=>if ys.length=size∧off+size≤cs.length then z60 places (cs.take off++ys++cs.drop (off+size)) r else none
  |_,_=>none
def q7z(G:q0p)(w:World)(cs:List AV)(arr:Array Value):Prop:=arr.size=cs.length∧∀i x,cs[i]?=some x→AVR G w x (arr.getD i undef)∧(arr.getD i undef).oneCell'=true
theorem z5c{x:AV}{v:Value}{ys:List AV}(hv:AVR G w x v)(h:z5b x=some ys):q7z G w ys v.cells:=by
 have rd:∀y,x.rd=some y→ys=y.cells.map .d→q7z G w ys v.cells:=fun y hy e=>by
  have hr:RD G.f w y v:=hv.rd hy;subst e;refine⟨by rw[hr.q2l,Zbd],fun i z hz=>?_⟩;rw[Zam]at hz;cases hc:y.cells[i]? with
  |none=>rw[hc]at hz;cases hz
  |some u=>
   rw[hc]at hz;cases hz;have h1:=hr.cell hc;exact⟨.d _ _ h1,(h1.one (hr.flat u (Zae hc))).1⟩
 unfold z5b at h;split at h
 ·cases h;cases hv;exact⟨rfl,fun i x hx=>by
   cases i with
   |zero=>cases hx;exact⟨.mp _,rfl⟩
   |succ i=>simp at hx⟩
 ·obtain⟨y,h1,h2⟩:=map_none h;exact rd y h1 h2.symm
theorem q7z.set{cs ys:List AV}{arr:Array Value}{v:Value}(h:q7z G w cs arr)(hv:q7z G w ys v.cells){off:Nat}(ho:off+ys.length≤cs.length):
  q7z G w (cs.take off++ys++cs.drop (off+ys.length)) (setV arr off v.cells):=by
 obtain⟨h1,h2⟩:=q9k arr off v.cells (by rw[hv.1,h.1];exact ho);refine⟨by rw[h1,h.1];simp;omega,fun i z hz=>?_⟩;rw[h2 i];have htl:(cs.take off).length=off:=by simp;omega
 have hsz:=hv.1
 by_cases hc:off≤i∧i<off+v.cells.size
 ·rw[if_pos hc];rw[List.append_assoc,Zaj (by omega),htl,Zal (by omega)]at hz;exact hv.2 _ z hz
 ·rw[if_neg hc]
  by_cases hi:i<off
  ·rw[List.append_assoc,Zal (by omega),Zbg,if_pos hi]at hz;exact h.2 i z hz
  ·rw[List.append_assoc,Zaj (by omega),htl,Zaj (by omega),Zbv]at hz;rw[show off+ys.length+(i-off-ys.length)=i by omega]at hz;exact h.2 i z hz
theorem z5p{places:List (Nat×Nat)}:∀{xs:List (Nat×AV)} {vs:List (Nat×Value)} {cs out:List AV} {arr:Array Value},vs.map (·.1)=xs.map (·.1)→(∀(i:Nat) (p:Nat×AV) (q:Nat×Value),xs[i]?=some p→vs[i]?=some q→AVR G w p.2 q.2)→
  q7z G w cs arr→z60 places cs xs=some out→∃arr',Instr.fill (places[·]?) arr vs=some arr'∧q7z G w out arr'
 |[],vs,cs,out,arr,hk,_,hc,h=>by
  have:vs=[]:=by simpa using hk
  subst this;simp[z60]at h;subst h;exact⟨arr,rfl,hc⟩
 |(i,x)::xs,vs,cs,out,arr,hk,hr,hc,h=>by
  cases vs with
  |nil=>simp at hk
  |cons q vs=>
   obtain⟨i',v⟩:=q;simp at hk;obtain⟨rfl,hk⟩:=hk;simp only[z60]at h;split at h
   ·rename_i off size ys hp hy;split at h
    ·rename_i hb;have hv:=z5c (hr 0 _ _ rfl rfl) hy;rw[z0S]at hp;rw[z1s _ arr i' v vs off size hp (by rw[hv.1];exact hb.1) (by rw[hc.1];exact hb.2)];have h3:=hc.set hv (off:=off) (by rw[hb.1];exact hb.2);rw[hb.1]at h3;exact z5p (by simpa using hk) (fun j p q hp hq=>hr (j+1) p q (by simpa using hp) (by simpa using hq)) h3 h
    ·cases h
   ·cases h
theorem z5Q{op:Op}{pl:List (Nat×Nat)}{zero:List D}{nils:List Bool}{l:List (Nat×LX)}(h:z9G P op=some (.bld pl zero nils l)):∃t ps,op=.build t ps∧q9F P t ps.toList=some (.bld pl zero nils l):=by
 unfold z9G at h;split at h;all_goals first
  |exact⟨_,_,rfl,h⟩
  |(cases h;done)
  |(obtain⟨_,_,e⟩:=q01 h;cases e;done)
  |(simp only[z1C,z5G,q4c,z8u,z4b,z8v,z8w,z8s,z7e,q4R]at h
    repeat' split at h
    all_goals first
     |(cases h;done)
     |(obtain⟨_,_,e⟩:=q01 h;cases e;done)
     |(obtain⟨_,_,_,_,e⟩:=q2C h;cases e;done))
  |(repeat' split at h
    all_goals first
     |(cases h;done)
     |(obtain⟨_,_,e⟩:=q01 h;cases e;done)
     |(obtain⟨_,_,_,_,e⟩:=q2C h;cases e;done))
  |(unfold q4c at h
    split at h
    ·cases h
    ·obtain⟨_,_,e⟩:=map_none h;cases e
    ·cases h)
  |skip
theorem j1F{o:Oper}{pl:List (Nat×Nat)}{zero:List D}{nils:List Bool}{l:List (Nat×LX)}(h:q4t P o=some (.val (.bld pl zero nils l))):∃t ps,o.op=.build t ps∧q9F P t ps.toList=some (.bld pl zero nils l):=by
 unfold q4t at h;split at h
 ·split at h
  ·split at h<;>cases h
  ·obtain⟨_,_,h⟩:=map_none h;cases h
 ·split at h<;>cases h
 ·obtain⟨_,_,h⟩:=map_none h;cases h
 ·split at h<;>cases h
 ·unfold q2r at h;split at h
  ·obtain⟨_,_,_,_,_,_,h⟩:=q2d h;cases h
  ·cases h
 ·split at h
  ·obtain⟨_,_,h⟩:=map_none h;cases h
  ·cases h
 ·split at h
  ·split at h<;>cases h
  ·cases h
 ·rename_i t x lo hi ho;have key:∀{v:LV},q4c P t x lo hi=some v→v≠.bld pl zero nils l:=fun{v} hv e=>by
   subst e;obtain⟨_,_,e,_⟩:=z5Q (op:=.slice t x lo hi none) hv;cases e
  split at h
  ·split at h<;>cases h
  ·obtain⟨v,h1,h2⟩:=map_none h;cases h2;exact absurd rfl (key h1)
 ·obtain⟨v,h1,h2⟩:=map_none h;cases h2;exact z5Q h1
theorem z8d{places:List (Nat×Nat)}:∀{q:List (Nat×AV)} {cs out:List AV},z60 places cs q=some out→∀p∈q,p.1<places.length
 |[],_,_,_,p,hp=>by cases hp
 |(i,x)::q,cs,out,hf,p,hp=>by
  simp only[z60]at hf;split at hf
  ·rename_i off size y hpl hy;split at hf
   ·rcases Zar.1 hp with rfl|hp
    ·rw[z0S]at hpl;exact(Zaa.1 hpl).1
    ·exact z8d hf p hp
   ·cases hf
  ·cases hf
theorem q14.bldX{d:Nat}{pl:List (Nat×Nat)}{zero:List D}{nils:List Bool}{l:List (Nat×LX)}{K:St→Prop}{out:List AV}
  (hf:z60 pl (q8e nils zero) (evP σ l)=some out) (hs:∀x∈out,x.simple=true) (hnil:∀(j:Nat),nils[j]?=some true→zero[j]?=some (D.list [])) (hK:K (σ.put d (.sx out))):q14 P ⟨some d,.val (.bld pl zero nils l),none⟩ K σ:=
 ⟨rfl,fun E _ n G a w o h1 h2 h3 h4=>by
   obtain⟨t,ps,ho,hl⟩:=j1F (q2U h1 (fun p xs chk e=>by cases e));have hd:d<n:=by simpa[q3u]using h3
   unfold q9F at hl;split at hl
   ·rename_i places zer lx hp hz hpl;split at hl
    ·rename_i hc;simp only[Zas,LV.bld.injEq]at hl;obtain⟨rfl,rfl,_,rfl⟩:=hl;obtain⟨k1,k2⟩:=z1F h4 hpl;have e:(ps.map fun(i,x)=>(i,a.eval x))=(ps.toList.map fun p=>(p.1,a.eval p.2)).toArray:=by
      apply Zcj;simp
     obtain⟨zv,arr,hrun,hcx⟩:∃(zv:Value) (arr:Array Value),(Instr.build t (ps.toList.map fun p=>(p.1,a.eval p.2)).toArray).run P w=.ok (.agg arr) w∧q7z G w out arr:=by
      have hz':=hz;unfold Program.zeroOf at hz;cases hi:P.info? t with
      |none=>simp[hi]at hz
      |some ti=>
       cases hzv:ti.zero with
       |none=>simp[hi,hzv]at hz
       |some zv=>
        simp[hi,hzv]at hz;have hzr:RD G.f w (.agg zer) zv:=q7F hz;have hc0:q7z G w (q8e nils zer) zv.cells:=by
         refine⟨by rw[q83];exact hzr.q2l,fun i y hy=>?_⟩;obtain⟨x,h5,h6⟩:=q63 _ _ _ _ hy;have hcell:(D.agg zer).cells[i]?=some x:=h5;have hr1:=hzr.cell hcell;have ho1:=(hr1.one (hzr.flat x (Zae hcell))).1;rcases h6 with⟨hb,rfl⟩|rfl
         ·have h7:=hnil i hb;rw[h5]at h7;cases h7;have hz0:=z6N hz (i:=i) hcell;rw[hz0]at ho1 ⊢;exact⟨.ns,ho1⟩
         ·exact⟨.d _ _ hr1,ho1⟩
        obtain⟨arr',q1,q2⟩:=z5p k1 k2 hc0 hf;refine⟨zv,arr',run_build w t _ arr' ?_,q2⟩;unfold Program.placesOf at hp;cases hu:P.underlying t with
        |none=>simp[hu]at hp
        |some d=>
         cases d with
         |struct fs=>
          simp only[hu]at hp;simp only[Program.built,hi,hu,hzv,hp];simpa using q1
         |array k e=>
          simp only[hu]at hp;simp only[hu,z8n,Bool.or_false]at hc;cases hie:P.info? e with
          |none=>simp[hie]at hp
          |some ie=>
           simp[hie]at hp;simp only[Program.built,hi,hu,hzv,hie];rw[←q1];refine q9B fun x hx=>?_
           have hxm:x.1<ps.toList.length:=by
            have hm:x.1∈((ps.toList.map fun p=>(p.1,a.eval p.2)).map (·.1)):=Zap.2 ⟨x,hx,rfl⟩;rw[k1]at hm;obtain⟨y,hy,e2⟩:=Zap.1 hm;have:=z8d hf y hy;rw[←hp]at this;rw[←e2];simpa using this
           have hxm2:x.1<ps.size:=by simpa using hxm
           simp[←hp,hxm2]
         |_=>simp[hu]at hp
     have hav:AVR G w (.sx out) (.agg arr):=.sx _ _ hcx.1 hs (fun i hi=>(hcx.2 i out[i] (Zak hi)).2) (fun i x hi=>(hcx.2 i x hi).1);refine .inl ⟨.agg arr,w,?_,G,_,hK,?_⟩
     ·simp only[execOp,ho,e];simp[hrun]
     ·simpa[Act.put]using h4.put hav hd
    ·cases hl
   ·cases hl⟩
section
variable {a:Act}
theorem z9N(h:SR E n G σ a.tmps w){d e:Nat}(hn:d<n){cs:List AV}{arr:Array Value}(hl:arr.size=cs.length)(hc:∀(G':q0p) (w':World),Ext G.f w G'.f w'→(∀r,r≠.l d→G'.b r=G.b r)→∀(i:Nat) (x:AV),cs[i]?=some x→AVR G' w' x (arr.getD i undef)∧(arr.getD i undef).oneCell'=true∧x.lab?=none∧∀e',x=.nt e'→e'=e):
  ∃G',SR E n G' (((σ.drop d).setObj (.l d) (.cells cs)).put d (.ptr (.l d) 0)) (a.tmps.setIfInBounds d (.pointer (some (at_ w.heap.size 0)))) (w.alloc (.cells arr e)):=by
 have h1:=(h.drop d).alloc (.cells arr e) 0;have hf0:∀b,updf G.f w.heap.size 0 b=G.f b:=fun b=>by
  by_cases e:b=w.heap.size
  ·rw[e,q0S,h.top _ (Zai _)]
  ·exact q0H _ _ e
 have hlt:∀r o,(σ.drop d).obj r=some o→G.b r<w.heap.size:=fun r o ho=>((h.drop d).obj r o ho).lt
 have hρ:∀t x,aget (σ.drop d).ρ t=some x→x.has (.l d)=false:=fun t x hx=>by
  simp only[St.drop,q0D]at hx;cases hy:aget σ.ρ t with
  |none=>simp[hy]at hx
  |some y=>simp[hy]at hx;subst hx;exact AV.q2q _ _
 have hL:∀t cs x,aget (σ.drop d).L t=some (.cells cs)→x∈cs→x.has (.l d)=false:=fun t cs x hx hm=>by
  simp only[St.drop,q0D]at hx;cases hy:aget σ.L t with
  |none=>simp[hy]at hx
  |some y=>
   simp[hy]at hx;cases y with
   |siter s p=>simp[q0K]at hx
   |miter l c=>simp[q0K]at hx
   |mobj l c=>simp[q0K]at hx
   |cells cs'=>simp[q0K]at hx;subst hx;obtain⟨y,_,rfl⟩:=Zap.1 hm;exact AV.q2q _ _
 have hext:Ext G.f w (updf G.f w.heap.size 0) (w.alloc (.cells arr e)):=Ext.alloc w h.top _ 0;have h2:=h1.z7T d w.heap.size (.cells cs) hρ hL (by show updf G.f w.heap.size 0 w.heap.size=0;simp) (fun r o ho=>by have:=hlt r o ho;exact fun e'=>by have e'':G.b r=w.heap.size:=e';omega)
  (fun q v p hq hb=>by obtain⟨e1,s1⟩:=p;have:=(h.lam q v e1 s1 hq).lt hb;omega) h.ext.size
  ⟨arr,e,by show(w.alloc _).heap[updf G.b (.l d) w.heap.size (.l d)]?=_;rw[q0S];exact q1p w _,hl,fun i x hi=>by
    obtain⟨g1,g2,g3,g4⟩:=hc { f:=updf G.f w.heap.size 0,b:=updf G.b (.l d) w.heap.size,lam:=G.lam } _ hext (fun r hr=>q0H _ _ hr) i x hi;exact⟨g1,g2,fun q hq=>(by rw[g3]at hq;cases hq),g4⟩⟩
 have h3:=h2.put (s:=d) (x:=.ptr (.l d) 0) (v:=.pointer (some (at_ w.heap.size 0))) (by
  have:=AVR.ptr (G:={ f:=updf G.f w.heap.size 0,b:=updf G.b (.l d) w.heap.size,lam:=G.lam }) (w:=w.alloc (.cells arr e)) (.l d) 0;simpa using this) hn
 exact⟨_,h3⟩
end
theorem j1G{o:Oper}{x':LX}(h:q4t P o=some (.box x')):∃e x,o.op=.box e x∧q1h x=some x':=by
 unfold q4t at h;split at h
 ·split at h
  ·split at h<;>cases h
  ·obtain⟨_,_,h⟩:=map_none h;cases h
 ·split at h<;>cases h
 ·rename_i e x ho;obtain⟨y,h1,h2⟩:=map_none h;cases h2;exact⟨e,x,ho,h1⟩
 ·split at h<;>cases h
 ·unfold q2r at h;split at h
  ·obtain⟨_,_,_,_,_,_,h⟩:=q2d h;cases h
  ·cases h
 ·split at h
  ·obtain⟨_,_,h⟩:=map_none h;cases h
  ·cases h
 ·split at h
  ·split at h<;>cases h
  ·cases h
 ·split at h
  ·split at h<;>cases h
  ·obtain⟨_,_,h⟩:=map_none h;cases h
 ·obtain⟨_,_,h⟩:=map_none h;cases h
def mpX(d:Nat):AV→Bool
 |.d _|.ns=>true
 |.mp r=>decide (r≠.l d)
 |_=>false
theorem q14.boxX{d:Nat}{x':LX}{cs:List AV}{K:St→Prop}(hx:σ.ev x'=.sx cs)(hc:∀y∈cs,mpX d y=true)(hK:K (((σ.drop d).setObj (.l d) (.cells cs)).put d (.ptr (.l d) 0))):q14 P ⟨some d,.box x',none⟩ K σ:=
 ⟨rfl,fun E _ n G a w o h1 h2 h3 h=>by
   obtain⟨e,x,ho,hx2⟩:=j1G (q2U h1 (fun p xs chk e=>by cases e));have hn:d<n:=by simpa[q3u]using h3
   have rx:=h.ev hx2;rw[hx]at rx;generalize hv:a.eval x=v at rx;cases rx with
   |sx _ vs hl hsim hoc hh=>
    obtain⟨G',q1⟩:=z9N (e:=e) h hn (cs:=cs) (arr:=vs) hl (fun G2 w2 hx2 hb i y hi=>by
     have hlt:=(Zaa.1 hi).1;have h5:=hh i y hi;have hm:=hc y (Zae hi);cases y with
     |d z=>exact⟨.d _ _ (h5.dinv.ext hx2),hoc i hlt,rfl,fun _ e=>by cases e⟩
     |ns=>
      refine⟨?_,hoc i hlt,rfl,fun _ e=>by cases e⟩;generalize vs.getD i undef=u at h5;cases h5;exact .ns
     |mp r=>
      refine⟨?_,hoc i hlt,rfl,fun _ e=>by cases e⟩;have hr:r≠.l d:=of_decide_eq_true hm;generalize vs.getD i undef=u at h5;cases h5;rw[←hb r hr];exact .mp r
     |_=>cases hm)
    refine .inl ⟨.pointer (some (at_ w.heap.size 0)),w.alloc (.cells vs e),?_,G',_,hK,?_⟩
    ·simp only[execOp,ho];simp[Instr.box,newVar,newRow,at_,hv,Value.cells]
    ·simpa[Act.put]using q1⟩
end Go.Av
