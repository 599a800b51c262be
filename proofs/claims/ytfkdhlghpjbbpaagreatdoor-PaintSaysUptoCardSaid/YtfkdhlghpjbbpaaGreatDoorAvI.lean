import Derived.Test.YtfkdhlghpjbbpaaGreatDoorAvH
import Derived.Laws.Cover4
import Derived.Laws.MakeOwn
import Derived.Laws.IdiomStrings
set_option linter.unusedSectionVars false
/- Rows told by rules of their own: their cells may be slices, too; each is an object with a name of our choosing. -/
namespace Go.Av
variable {E:Entry} {n:Nat} {G:q0x} {σ:St} {ts:Array Value} {w:World} {P:Program} [Inv P]
theorem q3t.step{lo:q0f}{K:St→Prop}{σ':St}(hg:lo.guard=none)(hne:∀p xs chk,lo.op≠.prim p xs chk)(h:step1 σ lo.dst lo.op=some σ')(hK:K σ'):q3t P lo K σ:=
 ⟨hg,fun E _ n G a w o h1 h2 h3 h4=>by
   obtain⟨nx,v,w',G',r1,r2,r3⟩:=z3u h4 (o:=o) (h2▸h3) (q7z h1 hne) (h2▸h);rw[h2]at r3;rcases r2 with rfl|⟨rfl,rfl⟩
   ·exact .inl ⟨v,w',r1,G',σ',hK,r3⟩
   ·exact .inr (.inl ⟨w',r1,G',σ',hK,r3⟩)⟩
theorem q3t.ghost{lo:q0f}{K:St→Prop}(h:q3t P lo (fun τ=>∃τ',Gh τ τ'∧K τ') σ):q3t P lo K σ:=
 ⟨h.1,fun E _ n G a w o h1 h2 h3 h4=>(h.2 E n G a w o h1 h2 h3 h4).mono fun v w' ⟨G',σ',⟨τ',g1,g2⟩,q2⟩=>
   let⟨G2,q3⟩:=g1 _ _ _ _ _ q2
   ⟨G2,τ',g2,q3⟩⟩
theorem Gh.trans{σ τ υ:St}(h:Gh σ τ)(g:Gh τ υ):Gh σ υ:=fun E n G ts w q=>let⟨_,q1⟩:=h E n G ts w q;g E n _ ts w q1
theorem Gh.wk{σ τ:St}(h:Wk τ σ):Gh σ τ:=fun _ _ G _ _ q=>⟨G,q.wk h⟩
/-! ### Rows of cells -/
theorem j55(σ:St)(d:Nat):(∀t x,aget (σ.drop d).ρ t=some x→x.has (.l d)=false)∧(∀t cs x,aget (adel (σ.drop d).L d) t=some (.cells cs)→x∈cs→x.has (.l d)=false):=
 ⟨fun t x hx=>by
     simp only[St.drop,q0p]at hx;cases hy:aget σ.ρ t with
     |none=>simp[hy]at hx
     |some y=>simp[hy]at hx;subst hx;exact AV.q4Q _ _,fun t cs x hx hm=>by
     simp only[q0O]at hx;split at hx
     ·cases hx
     ·simp only[St.drop,q0p]at hx;cases hy:aget σ.L t with
      |none=>simp[hy]at hx
      |some o=>
       cases o with
       |siter s p=>simp[hy,q0q]at hx
       |miter l c=>simp[hy,q0q]at hx
       |mobj l c=>simp[hy,q0q]at hx
       |cells cs0=>
        simp[hy,q0q]at hx;subst hx;obtain⟨y,_,rfl⟩:=Zak.1 hm;exact AV.q4Q _ _⟩
theorem j61(σ:St)(d:Nat):∀r o,St.obj { σ.drop d with L:=adel (σ.drop d).L d } r=some o→r≠.l d∧(σ.drop d).obj r=some o:=fun r o hr=>by
 cases r with
 |l t=>
  simp only[St.obj,q0O]at hr;split at hr
  ·cases hr
  ·rename_i hne;exact⟨fun e=>hne (by injection e with e;exact e.symm),hr⟩
 |x k=>exact⟨by simp,hr⟩
theorem j0K(σ:St)(d:Nat)(o:AObj):∀r,((σ.drop d).setObj (.l d) o).obj r=(St.setObj { σ.drop d with L:=adel (σ.drop d).L d } (.l d) o).obj r:=fun r=>by
 simp only[St.q0X];split
 ·rfl
 ·rename_i hne;cases r with
  |l t=>
   have:d≠t:=fun e=>hne (by rw[e])
   simp only[St.obj,q0O,if_neg this]
  |x k=>rfl
end Go.Av
/- Rows of rows: they go over into data. -/
namespace Go.Av
variable {E:Entry} {n:Nat} {G:q0x} {σ:St} {ts:Array Value} {w:World}
def AV.frzL(a:Nat)(fs:List D)(c:Nat):AV→AV
 |.rs r n c'=>if r=.l a then(if n=fs.length∧c'=c then .d (.list fs)else .junk)else .rs r n c'
 |x=>x
def z0b(a:Nat)(fs:List D)(c:Nat):AObj→AObj
 |.cells cs=>.cells (cs.map (AV.frzL a fs c))
 |o=>o
def St.frzL(σ:St)(a:Nat)(fs:List D)(c:Nat):St:={ ρ:=amap (AV.frzL a fs c) σ.ρ,L:=adel (amap (z0b a fs c) σ.L) a,H:=amap (z0b a fs c) σ.H }
theorem St.j4M(σ:St)(a:Nat)(fs:List D)(c:Nat)(r:Ref){o:AObj}(h:(σ.frzL a fs c).obj r=some o):r≠.l a∧∃o',σ.obj r=some o'∧o=z0b a fs c o':=by
 cases r with
 |x t=>
  simp only[St.frzL,St.obj,q0p]at h;cases hx:aget σ.H t with
  |none=>simp[hx]at h
  |some o'=>simp[hx]at h;exact⟨by simp,o',hx,h.symm⟩
 |l t=>
  simp only[St.frzL,St.obj,q0O,q0p]at h;split at h
  ·cases h
  ·rename_i hne;cases hx:aget σ.L t with
   |none=>simp[hx]at h
   |some o'=>simp[hx]at h;exact⟨by simp;omega,o',hx,h.symm⟩
theorem j3i(h:SR E n G σ ts w){a sz c:Nat}{fs:List D}(ho:σ.obj (.l a)=some (.cells (rowC sz fs c)))(hfs:∀y∈fs,y.cells.length=sz)(hc:fs.length≤c):
  RD (updf G.f (G.b (.l a)) (rowC sz fs c).length) w (.list fs) (.slice (some (at_ (G.b (.l a)) 0)) fs.length c):=by
 obtain⟨arr,el,h1,h2,h3⟩:=h.obj _ _ ho;have hl:=q4j hfs hc;have hle:fs.length*sz≤c*sz:=Zbx _ hc;have hf0:=h.objf _ _ ho;have hext:Ext G.f w (updf G.f (G.b (.l a)) (rowC sz fs c).length) w:=⟨Zal _,fun b=>by
  by_cases e:b=G.b (.l a)
  ·rw[e,hf0];exact Zar _
  ·rw[q0U _ _ e];exact Zal _,fun _ _ _=>rfl,fun _ _ _ _ h=>h⟩
 have hcell:∀(i j:Nat) (e d:D),fs[i]?=some e→e.cells[j]?=some d→i*sz+j<c*sz∧RD G.f w d (arr.getD (i*sz+j) undef)∧(arr.getD (i*sz+j) undef).oneCell'=true:=fun i j e d he hd=>by
  have hx:=j1T hfs he hd;have hlt:i*sz+j<fs.length*sz:=by rw[←q0G hfs];exact(Zab.1 hx).1
  have hx2:(rowC sz fs c)[i*sz+j]?=some (.d d):=by
   rw[rowC,Zag (by rw[Zas,q0G hfs];exact hlt),Zae,hx];rfl
  obtain⟨g1,g2,_⟩:=h3 _ _ hx2;exact⟨by omega,g1.dinv,g2⟩
 have hflat:∀y∈fs,y.flat:=fun y hy e he=>by
  obtain⟨i,hi⟩:=Zap hy;obtain⟨j,hj⟩:=Zap he;obtain⟨_,g1,g2⟩:=hcell i j y e hi hj;exact g1.z6V g2
 refine .list fs (G.b (.l a)) 0 c sz (fun i=>arr.getD i undef) hc (fun e he=>⟨hfs e he,hflat e he⟩) (by rw[q0V,hl];omega) (fun i hi=>?_) (fun i e j d he hd=>(hcell i j e d he hd).2.1.ext hext);rw[Zaw,cell_of_heap h1];have:i<arr.size:=by rw[h2,hl];omega
 simp[this]
theorem AV.j4k(a:Nat)(fs:List D)(c:Nat)(r:Ref){x:AV}(h:x.has r=false):(x.frzL a fs c).has r=false:=by
 cases x with
 |rs r' n c'=>
  simp only[AV.frzL];split
  ·split<;>rfl
  ·exact h
 |_=>exact h
theorem SR.frzL(h:SR E n G σ ts w){a sz c:Nat}{fs:List D}(ho:σ.obj (.l a)=some (.cells (rowC sz fs c)))(hfs:∀y∈fs,y.cells.length=sz)(hc:fs.length≤c):
  SR E n { G with f:=updf G.f (G.b (.l a)) (rowC sz fs c).length } (σ.frzL a fs c) ts w:=by
 have hl:=j3i h ho hfs hc;have hwk:Wk { σ with L:=adel σ.L a } σ:=⟨fun _ _ h=>h,fun r o hr=>by
  cases r with
  |x t=>exact hr
  |l k=>
   simp only[St.obj,q0O]at hr;split at hr
   ·cases hr
   ·exact hr⟩
 have h1:=h.wk hwk;have hf0:G.f (G.b (.l a))=0:=h.objf _ _ ho;have hlt:=(h.obj _ _ ho).lt;have h2:SR E n { G with f:=updf G.f (G.b (.l a)) (rowC sz fs c).length } { σ with L:=adel σ.L a } ts w:=by
  refine h1.z1I (fun b=>b=G.b (.l a)) (fun b hb=>?_) ⟨Zal _,fun b=>?_,fun b i hi=>rfl,fun _ _ _ _ h=>h⟩ (fun b hb hx=>⟨rfl,q0U _ _ hx⟩) (fun b hb=>?_) rfl rfl rfl
  ·subst hb;refine⟨fun r o hr e=>?_,fun q v p hq hv=>?_,h.newObj _ _ ho⟩
   ·have:=h.inj r (.l a) o _ (hwk.obj r o hr) ho e;subst this;simp[St.obj,q0O]at hr
   ·obtain⟨e,sz⟩:=p;exact h.lamObj q v e sz _ hq hv _ _ ho rfl
  ·by_cases e:b=G.b (.l a)
   ·rw[e,hf0];exact Zar _
   ·rw[q0U _ _ e];exact Zal _
  ·have:b≠G.b (.l a):=fun e=>by rw[e]at hb;omega
   rw[q0U _ _ this];exact h.top b hb
 have hfz:∀{x:AV} {v:Value},AVR { G with f:=updf G.f (G.b (.l a)) (rowC sz fs c).length } w x v→AVR { G with f:=updf G.f (G.b (.l a)) (rowC sz fs c).length } w (x.frzL a fs c) v:=fun{x v} hx=>by
  cases x with
  |rs r n' c'=>
   simp only[AV.frzL];split
   ·rename_i e;subst e;split
    ·rename_i e;obtain⟨rfl,rfl⟩:=e;cases hx;exact .d _ _ hl
    ·exact .junk _
   ·exact hx
  |_=>exact hx
 have hob:∀r o,(σ.frzL a fs c).obj r=some o→∃o',St.obj { σ with L:=adel σ.L a } r=some o'∧o=z0b a fs c o':=fun r o hr=>by
  obtain⟨g1,o',g2,g3⟩:=σ.j4M a fs c r hr;refine⟨o',?_,g3⟩;cases r with
  |x t=>exact g2
  |l k=>
   simp only[St.obj,q0O];rw[if_neg (fun e=>g1 (by rw[e]))];exact g2
 refine{ h2 with slot:=fun s x hx=>?_,obj:=fun r o hr=>?_,objf:=fun r o hr=>?_,inj:=fun r r' o o' hr hr' hb=>?_,lamObj:=fun q v e sz b h1 h3 r o hr=>?_,newObj:=fun r o hr=>?_,own0:=fun r cs x s hr hx=>?_ }
 ·simp only[St.frzL,q0p]at hx;cases hy:aget σ.ρ s with
  |none=>simp[hy]at hx
  |some y=>
   simp[hy]at hx;subst hx;exact hfz (h2.slot s y hy)
 ·obtain⟨o',g1,rfl⟩:=hob r o hr;have g2:=h2.obj r o' g1;cases o' with
  |cells cs=>
   obtain⟨arr,el,k1,k2,k3⟩:=g2;refine⟨arr,el,k1,by rw[k2,Zas],fun i x hi=>?_⟩;rw[Zae]at hi;cases hy:cs[i]? with
   |none=>simp[hy]at hi
   |some y=>
    simp[hy]at hi;subst hi;obtain⟨m1,m2,m3,m4⟩:=k3 i y hy;refine⟨hfz m1,m2,fun q hq=>?_,fun e he=>?_⟩
    ·cases y with
     |rs r' n' c'=>
      simp only[AV.frzL]at hq;split at hq
      ·split at hq<;>cases hq
      ·cases hq
     |_=>exact m3 q hq
    ·cases y with
     |rs r' n' c'=>
      simp only[AV.frzL]at he;split at he
      ·split at he<;>cases he
      ·cases he
     |_=>exact m4 e he
  |_=>exact g2
 ·obtain⟨o',g1,_⟩:=hob r o hr;exact h2.objf r o' g1
 ·obtain⟨o1,g1,_⟩:=hob r o hr;obtain⟨o2,g2,_⟩:=hob r' o' hr';exact h2.inj r r' o1 o2 g1 g2 hb
 ·obtain⟨o',g1,_⟩:=hob r o hr;exact h2.lamObj q v e sz b h1 h3 r o' g1
 ·obtain⟨o',g1,_⟩:=hob r o hr;exact h2.newObj r o' g1
 ·obtain⟨o',g1,g2⟩:=hob _ _ hr;cases o' with
  |cells cs'=>
   simp only[z0b,AObj.cells.injEq]at g2;subst g2;obtain⟨y,hy,rfl⟩:=Zak.1 hx;exact AV.j4k _ _ _ _ (h2.own0 r cs' y s g1 hy)
  |_=>simp[z0b]at g2
theorem Gh.frzL{a sz c:Nat}{fs:List D}(ho:σ.obj (.l a)=some (.cells (rowC sz fs c)))(hfs:∀y∈fs,y.cells.length=sz)(hc:fs.length≤c):Gh σ (σ.frzL a fs c):=fun _ _ _ _ _ h=>⟨_,h.frzL ho hfs hc⟩
theorem St.j9r{σ:St}{a:Nat}{fs:List D}{c t:Nat}{x:AV}(h:aget σ.ρ t=some x):aget (σ.frzL a fs c).ρ t=some (x.frzL a fs c):=by
 simp only[St.frzL,q0p,h];rfl
/-! ### Rows of rows: the cells of the one are the others -/
end Go.Av
/- Calls that are handed two objects of data. -/
namespace Go.Av
variable {P:Program} [Inv P] {σ:St}
def St.j9i(σ:St)(R:List Ref):St:={ σ with ρ:=amap (AV.q5Y R) σ.ρ }
attribute [go_sem] St.j9i j7p z8A
end Go.Av
/- Rows that are made, signs as a string. -/
namespace Go.Av
variable {P:Program} [Inv P] {σ:St}
theorem j22{o:Oper}{t:TypeId}{os:List Operand}(h:q2S P o=some (.mkSlice t,os)):∃l c,o.op=.makeSlice t l c∧os=[l,c]:=by
 unfold q2S at h;split at h;all_goals first
  |(cases h;done)
  |(rename_i ho;cases h;exact⟨_,_,ho,rfl⟩)
  |(split at h<;>(try cases h)<;>(split at h<;>cases h))
  |(split at h<;>cases h)
theorem q0e.j8s{d r n by_:Nat}{t e:TypeId}{l c:LX}{K:St→Prop}{z:D}{zv:Value}(hl:σ.ev l=.d (.int .i64 (n:Nat)))(hc:σ.ev c=.d (.int .i64 (n:Nat)))(hsl:q3V P t=some (e,1,by_))
  (hz:(P.info? e).bind (·.zero)=some zv) (hzc:zv.cells = #[zv]) (hz1:zv.oneCell'=true) (hr:∀f w,RD f w z zv) (hn:n≤1000000) (hb:by_≤1000)
  (hK:K (((σ.drop r).setObj (.l r) (.cells (List.replicate n (.d z)))).put d (.rs (.l r) n n))):q0e P (some d) (.mkSlice t) [l,c] K σ:=by
 intro E _ m G a w o os hp hl' hdst hd h;obtain⟨L,C,hop,rfl⟩:=j22 hp;obtain⟨u,v,h1,h2,h3⟩:=z4t hl';cases h3;have rl:=h.ev h1;have rc:=h.ev h2;rw[hl]at rl;rw[hc]at rc;have rl:=rl.dinv;have rc:=rc.dinv;generalize hL:a.eval L=lv at rl;generalize hC:a.eval C=cv at rc;cases rl;cases rc;obtain⟨i,ht,hi,hi1,rfl⟩:=z0Z hsl;have hz':i.zero=some zv:=by rw[hi]at hz;exact hz
 have hbytes:(i.bytes:Int)*(n:Int)≤281474976710656:=by
  have:i.bytes*n≤1000*1000000:=Nat.mul_le_mul hb hn;rw[←Int.natCast_mul];omega
 have hrun:=run_make (P:=P) w t e i zv ht hi hz' .i64 .i64 n n (by omega) (Int.le_refl _) hbytes (by omega);simp only[Zdd,hi1,Nat.mul_one]at hrun;have hcell:∀j,j<n→(madeCells zv.cells n).getD j undef=zv:=fun j hj=>by
  simp[madeCells,hzc,hj,Nat.mod_one]
 have hsz:(madeCells zv.cells n).size=n:=size_madeCells _ _;have hd':=h.drop r;have hobj1:=j61 σ r;have h6:SR E m G { σ.drop r with L:=adel (σ.drop r).L r } a.tmps w:=hd'.wk ⟨fun _ _ h=>h,fun r o hr=>(hobj1 r o hr).2⟩;have h7:=h6.alloc (.cells (madeCells zv.cells n) e) 0;have hnew:=q1P w (.cells (madeCells zv.cells n) e);have hf:(updf G.f w.heap.size 0)=G.f:=by
  funext b
  by_cases e:b=w.heap.size
  ·rw[e,q0V];exact(h.top _ (Zal _)).symm
  ·rw[q0U _ _ e]
 rw[hf]at h7;have h8:=h7.z7q r w.heap.size (.cells (List.replicate n (.d z))) (j55 σ r).1 (j55 σ r).2 (h.top _ (Zal _))
  (fun r' o hr=>by have:=(h6.obj r' o hr).lt;exact fun e=>by have e':G.b r'=w.heap.size:=e;omega)
  (fun q vq p hq hb=>by
    obtain⟨e1,s1⟩:=p;have:=(h.lam q vq e1 s1 hq).lt hb;omega)
  (.inl h.ext.size)
  (by
    refine⟨madeCells zv.cells n,e,by show(w.alloc _).heap[updf G.b (.l r) w.heap.size (.l r)]?=_;rw[q0V];exact hnew,by rw[hsz];simp,fun j x hx=>?_⟩;have hj:j<n:=by have:=(Zab.1 hx).1;simpa using this
    have hxe:x=.d z:=(Zcy.1 (Zaa hx)).2;subst hxe;rw[hcell j hj];exact⟨.d _ _ (hr _ _),hz1,(fun q hq=>by cases hq),(fun e he=>by cases he)⟩)
 have h9:=h8.congr (τ:=(σ.drop r).setObj (.l r) (.cells (List.replicate n (.d z)))) rfl (j0K σ r _);refine .inl ⟨.slice (some (at_ w.heap.size 0)) n n,w.alloc (.cells (madeCells zv.cells n) e),?_,{ G with b:=updf G.b (.l r) w.heap.size },_,⟨trivial,hK⟩,?_⟩
 ·simp only[execOp,hop,hL,hC,Sem.run_bind,hrun,Result.andThen_ok];rfl
 ·have hput:=h9.put (s:=d) (x:=.rs (.l r) n n) (v:=.slice (some (at_ w.heap.size 0)) n n) (by
   have:=AVR.rs (G:={ G with b:=updf G.b (.l r) w.heap.size }) (w:=w.alloc (.cells (madeCells zv.cells n) e)) (.l r) n n;simpa[q0V]using this) (by simpa[q6z]using hd)
  simpa[Act.put]using hput
end Go.Av
/- Rows of wide elements, appended to by a rule of their own; a string's signs. -/
namespace Go.Av
variable {P:Program} [Inv P] {σ:St}
end Go.Av
/- Regions drawn in any order, told by a family of states: what is done has its slot. -/
namespace Go.Av
variable {P:Program} [Inv P] {σ τ:St} {k:List Item} {K:Exit→St→Prop}
theorem GhoB.refl{b0:Nat→Nat}(σ:St):GhoB b0 σ σ:=fun _ _ G _ _ _ h=>⟨G,h⟩
theorem GhoB.trans{b0:Nat→Nat}{σ τ ρ:St}(h:GhoB b0 σ τ)(k:GhoB b0 τ ρ):GhoB b0 σ ρ:=fun E n G ts w e hs=>by
 obtain⟨G1,h1⟩:=h E n G ts w e hs;exact k E n G1 ts w e h1
theorem GhoB.wk{b0:Nat→Nat}{σ τ:St}(h:Wk τ σ):GhoB b0 σ τ:=fun _ _ G _ _ _ hs=>⟨G,hs.wk h⟩
theorem q8v{d:Nat}{v:LV}{z:AV}{N:St→Prop}(hv:pev τ v=some z)(hK:N (τ.put d z)):LOps P [⟨some d,.val v,none⟩] N τ:=
 ⟨τ.put d z,by simp[step1,q9b,putV,hv],hK⟩
theorem z7M{d:Nat}{x:LX}{N:St→Prop}(hK:N (asgS τ d (τ.ev x))):LOps P [⟨some d,.asg x,none⟩] N τ:=⟨_,rfl,hK⟩
theorem q99{d:Option Nat}{p:Prim}{xs:List LX}{N:St→Prop}(h:q0e P d p xs N τ):LOps P [⟨d,.prim p xs [],none⟩] N τ:=h
theorem j5U{m:Nat}{x y:LX}{σ':St}{N:St→Prop}(hv:stS τ m (τ.ev x) (τ.ev y)=some σ')(hK:N σ'):LOps P [⟨none,.st m x y,none⟩] N τ:=
 ⟨σ',by simp[step1,j0P,hv],hK⟩
theorem j4h{d:Nat}{cs:List D}{N:St→Prop}(hK:N (newO τ d cs)):LOps P [⟨some d,.allo cs,none⟩] N τ:=⟨_,rfl,hK⟩
theorem j4i{d:Option Nat}{f:Nat}{xs:List LX}{ds:List D}{r:Res}{N:St→Prop}(hds:q6g (evL τ xs)=some ds)(h:q0y P f ds (fun x=>x=r))(hK:N (putO τ d r.av)):LOps P [⟨d,.call f xs,none⟩] N τ:=
 .inl ⟨ds,_,hds,h,fun r' e=>by subst e;exact hK⟩
end Go.Av
/- Regions drawn in any order, whose operations yield one and the same in any order: run once, in the text's order. -/
namespace Go.Av
variable {P:Program} [Inv P] {γ:Type}
/-! ### Reading in a state that holds more -/
theorem z9s{σ τ:St}{v:LV}{z:AV}(hg:∀s∈q58 v,τ.get s=σ.get s)(ho:∀r o,σ.obj r=some o→τ.obj r=some o)(h:pev σ v=some z):pev τ v=some z:=by
 have e:pev τ v=pev ⟨σ.ρ,τ.L,τ.H⟩ v:=q0N.pev ⟨fun s hs=>(hg s hs).trans rfl,rfl,rfl⟩;rw[e];have ev:∀x,St.ev ⟨σ.ρ,τ.L,τ.H⟩ x=σ.ev x:=fun x=>by cases x<;>rfl
 have evl:∀l,evL ⟨σ.ρ,τ.L,τ.H⟩ l=evL σ l:=fun l=>by
  induction l with
  |nil=>rfl
  |cons x l ih=>simp only[evL,ih,ev]
 have evp:∀l,evP ⟨σ.ρ,τ.L,τ.H⟩ l=evP σ l:=fun l=>by
  induction l with
  |nil=>rfl
  |cons x l ih=>obtain⟨i,x⟩:=x;simp only[evP,ih,ev]
 cases v<;>first
  |exact h
  |(simp only[pev,evl,evp]at h ⊢;exact h)
  |skip
 case ld a m x=>
  simp only[pev,ev]at h ⊢;unfold fLd at h ⊢;cases hx:σ.ev x with
  |ptr r off=>
   simp only[hx]at h ⊢;cases ho':σ.obj r with
   |none=>simp[ho']at h
   |some o=>
    have h2:=ho r o ho';have e2:St.obj ⟨σ.ρ,τ.L,τ.H⟩ r=some o:=by rw[←h2];cases r<;>rfl
    rw[ho']at h;rw[e2];exact h
  |d y=>simp only[hx]at h ⊢;cases y<;>exact h
  |_=>simp only[hx]at h ⊢;exact h
def inN(k:Nat):List Nat→Bool
 |[]=>false
 |a::l=>cond (k==a) true (inN k l)
theorem j6S(k:Nat):inN k []=false:=rfl
theorem z9b(k a:Nat)(l:List Nat):inN k (a::l)=cond (k==a) true (inN k l):=rfl
theorem z7X{k:Nat}:∀{l:List Nat},inN k l=true↔k∈l
 |[]=>by simp[inN]
 |a::l=>by
  rw[z9b,Zau,←z7X (l:=l)]
  by_cases h:k=a
  ·simp[h]
  ·simp[h,beq_eq_false_iff_ne.2 h]
/-! ### What a call leaves as it is (999998 among the names: the region has no call, and may read the row) -/
def q9a(z:AV):Bool:=z.lab?.isNone && !z.has (.x 1000)
def q3Q(ds:List Nat)(z:AV):Bool:=(cond (inN 999998 ds) true (q9a z))&&ds.all fun d => !z.has (.l d)
def q9M(ds:List Nat):AObj→Bool
 |.cells cs=>cs.all (q3Q ds)
 |_=>true
def St.at(τ:St)(o:AObj)(M:List (Nat×AObj)):St:={ τ with H:=(0,o)::M }
def q3b(P:Program)[Inv P](X:γ→AObj)(M:List (Nat×AObj))(p:Prim)(xs:List LX)(τ:St)(s s':γ)(z:AV):Prop:=
 ∀(d:Nat) (τ2:St) (N:St→Prop),evL τ2 xs=evL τ xs→τ2.H=(0,X s)::M→
  (∀τ3:St,(∀t y,t≠d→q9a y=true→aget τ2.ρ t=some y→aget τ3.ρ t=some y)→aget τ3.ρ d=some z→(∀k o,q9M [] o=true→aget τ2.L k=some o→aget τ3.L k=some o)→τ3.H=(0,X s')::M→N τ3)→q0e P (some d) p xs N τ2
def StF(X:γ→AObj)(M:List (Nat×AObj))(sz k:Nat)(y:LX)(τ:St)(s s':γ):Prop:=
 ∀τ2:St,τ2.get k=τ.get k→τ2.ev y=τ.ev y→τ2.H=(0,X s)::M→∃τ3,stS τ2 sz (τ2.ev (.t k)) (τ2.ev y)=some τ3∧τ3.ρ=τ2.ρ∧τ3.L=τ2.L∧τ3.H=(0,X s')::M
def setW(k:Nat)(ys:List D)(p:Nat×List D×Option (List D)):Nat×List D×Option (List D):=if p.1=k then(p.1,p.2.1,p.2.2.or (some ys))else p
def FR(P:Program)[Inv P](X:γ→AObj)(M:List (Nat×AObj))(ds:List Nat):Nat→List q0f→List (Nat×List D×Option (List D))→γ→St→(List (Nat×List D×Option (List D))→γ→List q0f→St→Prop)→Prop
 |0,l,A,s,τ,K=>K A s l τ
 |n+1,o::l,A,s,τ,K=>match o.guard,o.dst,o.op with
  |none,some d,.val v=>∃z,(∀s',pev (τ.at (X s') M) v=some z)∧q3Q ds z=true∧FR P X M ds n l A s (τ.put d z) K
  |none,some d,.call f xs=>∃ys r,q6g (evL τ xs)=some ys∧q0y P f ys (fun x=>x=r)∧FR P X M ds n l A s (τ.put d r.av) K
  |none,some d,.prim p xs chk=>(chk=[]∧inN 999998 ds=false)∧∃s' z,q3b P X M p xs τ s s' z∧q3Q ds z=true∧FR P X M ds n l A s' (τ.put d z) K
  |none,some d,.allo cs=>FR P X M ds n l (A++[(d,cs,none)]) s τ K
  |none,none,.st sz (.t k) y=>cond (inN k ds) (∃v,τ.ev y=.d v∧v.cells.length=sz∧FR P X M ds n l (A.map (setW k v.cells)) s τ K) (∃s',StF X M sz k y τ s s'∧FR P X M ds n l A s' τ K)
  |_,_,_=>False
 |_+1,[],_,_,_,_=>False
theorem j79{X:γ→AObj}{M:List (Nat×AObj)}{ds:List Nat}{n d:Nat}{v:LV}{l:List q0f}{A:List (Nat×List D×Option (List D))}{s:γ}{τ:St}{K:List (Nat×List D×Option (List D))→γ→List q0f→St→Prop}:
  FR P X M ds (n+1) (⟨some d,.val v,none⟩::l) A s τ K=∃z,(∀s',pev (τ.at (X s') M) v=some z)∧q3Q ds z=true∧FR P X M ds n l A s (τ.put d z) K:=rfl
theorem j6O{X:γ→AObj}{M:List (Nat×AObj)}{ds:List Nat}{n d:Nat}{cs:List D}{l:List q0f}{A:List (Nat×List D×Option (List D))}{s:γ}{τ:St}{K:List (Nat×List D×Option (List D))→γ→List q0f→St→Prop}:
  FR P X M ds (n+1) (⟨some d,.allo cs,none⟩::l) A s τ K=FR P X M ds n l (A++[(d,cs,none)]) s τ K:=rfl
theorem j6P{X:γ→AObj}{M:List (Nat×AObj)}{ds:List Nat}{n sz k:Nat}{y:LX}{l:List q0f}{A:List (Nat×List D×Option (List D))}{s:γ}{τ:St}{K:List (Nat×List D×Option (List D))→γ→List q0f→St→Prop}:
  FR P X M ds (n+1) (⟨none,.st sz (.t k) y,none⟩::l) A s τ K=cond (inN k ds) (∃v,τ.ev y=.d v∧v.cells.length=sz∧FR P X M ds n l (A.map (setW k v.cells)) s τ K) (∃s',StF X M sz k y τ s s'∧FR P X M ds n l A s' τ K):=rfl
theorem j1V{X:γ→AObj}{M:List (Nat×AObj)}{ds:List Nat}{l:List q0f}{A:List (Nat×List D×Option (List D))}{s:γ}{τ:St}{K:List (Nat×List D×Option (List D))→γ→List q0f→St→Prop}:
  FR P X M ds 0 l A s τ K=K A s l τ:=by unfold FR;rfl
theorem FR.prim{X:γ→AObj}{M:List (Nat×AObj)}{ds:List Nat}{n d:Nat}{p:Prim}{xs:List LX}{l:List q0f}{A:List (Nat×List D×Option (List D))}{s s':γ}{z:AV}{τ:St}{K:List (Nat×List D×Option (List D))→γ→List q0f→St→Prop}
  (h:q3b P X M p xs τ s s' z) (hz:q3Q ds z=true) (hK:FR P X M ds n l A s' (τ.put d z) K) (hm:inN 999998 ds=false:=by rfl):FR P X M ds (n+1) (⟨some d,.prim p xs [],none⟩::l) A s τ K:=⟨⟨rfl,hm⟩,s',z,h,hz,hK⟩
theorem FR.call{X:γ→AObj}{M:List (Nat×AObj)}{ds:List Nat}{n d f:Nat}{xs:List LX}{l:List q0f}{A:List (Nat×List D×Option (List D))}{s:γ}{ys:List D}{r:Res}{τ:St}{K:List (Nat×List D×Option (List D))→γ→List q0f→St→Prop}
  (h:q0y P f ys (fun x=>x=r)) (hy:q6g (evL τ xs)=some ys) (hK:FR P X M ds n l A s (τ.put d r.av) K):FR P X M ds (n+1) (⟨some d,.call f xs,none⟩::l) A s τ K:=⟨ys,r,hy,h,hK⟩
/-! ### What was run, operation by operation -/
inductive Ent(γ:Type) where
 |v (d:Nat) (z:AV)
 |p (d:Nat) (s:γ) (z:AV)
 |a (d:Nat) (cs:List D)
 |w (k:Nat) (v:D)
 |c (s:γ)
def Ent.app(τ:St):Ent γ→St
 |.v d z=>τ.put d z
 |.p d _ z=>τ.put d z
 |.a _ _=>τ
 |.w _ _=>τ
 |.c _=>τ
def Ent.st(s:γ):Ent γ→γ
 |.p _ s' _=>s'
 |.c s'=>s'
 |_=>s
def Ent.d:Ent γ→Nat
 |.v d _=>d
 |.p d _ _=>d
 |.a d _=>d
 |.w _ _=>999999
 |.c _=>999999
def Ent.z?:Ent γ→Option AV
 |.v _ z=>some z
 |.p _ _ z=>some z
 |.a _ _=>none
 |.w _ _=>none
 |.c _=>none
def wOf(d:Nat):List (Ent γ)→Option (List D)
 |[]=>none
 |.w k v::l=>if k=d then some v.cells else wOf d l
 |_::l=>wOf d l
def q6w:List (Ent γ)→List (Nat×List D×Option (List D))
 |[]=>[]
 |.a d cs::l=>(d,cs,wOf d l)::q6w l
 |_::l=>q6w l
def updA(es:List (Ent γ))(p:Nat×List D×Option (List D)):Nat×List D×Option (List D):=(p.1,p.2.1,p.2.2.or (wOf p.1 es))
def j6m(P:Program)[Inv P](X:γ→AObj)(M:List (Nat×AObj))(ds:List Nat)(o:q0f)(s:γ)(τ:St):Ent γ→Prop
 |.v d z=>q3Q ds z=true∧((∃v,o=⟨some d,.val v,none⟩∧∀s',pev (τ.at (X s') M) v=some z)∨∃f xs ys r,o=⟨some d,.call f xs,none⟩∧z=Res.av r∧q6g (evL τ xs)=some ys∧q0y P f ys (fun x=>x=r))
 |.p d s' z=>(q3Q ds z=true∧inN 999998 ds=false)∧∃p xs,o=⟨some d,.prim p xs [],none⟩∧q3b P X M p xs τ s s' z
 |.a d cs=>o=⟨some d,.allo cs,none⟩
 |.w k v=>k∈ds∧∃sz y,o=⟨none,.st sz (.t k) y,none⟩∧τ.ev y=.d v∧v.cells.length=sz
 |.c s'=>∃sz k y,k∉ds∧o=⟨none,.st sz (.t k) y,none⟩∧StF X M sz k y τ s s'
def FRE(P:Program)[Inv P](X:γ→AObj)(M:List (Nat×AObj))(ds:List Nat):List q0f→List (Ent γ)→γ→St→Prop
 |_,[],_,_=>True
 |[],_::_,_,_=>False
 |o::l,e::es,s,τ=>j6m P X M ds o s τ e∧FRE P X M ds l es (e.st s) (e.app τ)
theorem j5x(ds:List Nat)(r:Res):q3Q ds r.av=true:=by
 have h:∀q:Ref,r.av.has q=false:=fun q=>by
  cases r with
  |one x=>rfl
  |tup xs=>
   simp only[Res.av,AV.has,List.any_map,Zcc];intro x _;simp[AV.q6P]
 have h2:r.av.lab?=none:=by cases r<;>rfl
 simp[q3Q,q9a,h,h2]
variable {X:γ→AObj} {M:List (Nat×AObj)} {ds:List Nat}
theorem j9j(d:Nat)(cs:List D)(es:List (Ent γ)):updA (.a d cs::es)=updA es:=rfl
theorem j5E(p:Nat×List D×Option (List D)):updA (γ:=γ) [] p=p:=by
 obtain⟨d,cs,w⟩:=p;cases w<;>rfl
theorem j9k(k:Nat)(v:D)(es:List (Ent γ))(p:Nat×List D×Option (List D)):updA es (setW k v.cells p)=updA (.w k v::es) p:=by
 obtain⟨d,cs,w⟩:=p
 by_cases h:d=k
 ·subst h;cases w<;>simp[setW,updA,wOf]
 ·have h2:¬k=d:=fun e=>h e.symm
  simp[setW,updA,wOf,h,h2]
theorem FR.out{K:List (Nat×List D×Option (List D))→γ→List q0f→St→Prop}:∀{n:Nat} {l:List q0f} {A:List (Nat×List D×Option (List D))} {s:γ} {τ:St},FR P X M ds n l A s τ K→
  ∃es:List (Ent γ),es.length=n∧FRE P X M ds l es s τ∧K (A.map (updA es)++q6w es) (es.foldl Ent.st s) (l.drop n) (es.foldl Ent.app τ)
 |0,l,A,s,τ,h=>⟨[],rfl,by cases l<;>trivial,by
  rw[j1V]at h;have e:updA (γ:=γ) []=id:=funext j5E;simpa[q6w,e]using h⟩
 |n+1,[],A,s,τ,h=>by simp[FR]at h
 |n+1,⟨dst,op,g⟩::l,A,s,τ,h=>by
  cases g with
  |some _=>exact(h:False).elim
  |none=>
  cases dst with
  |none=>
   cases op with
   |st sz x y=>
    cases x with
    |k _=>exact(h:False).elim
    |t k=>
     rw[j6P]at h;cases hk:inN k ds with
     |true=>
      rw[hk]at h;obtain⟨v,h1,h2,h3⟩:=h;obtain⟨es,e1,e2,e3⟩:=FR.out h3;refine⟨.w k v::es,by simp[e1],⟨⟨z7X.1 hk,sz,y,rfl,h1,h2⟩,e2⟩,?_⟩;simp only[List.map_map]at e3;have:(updA es∘setW k v.cells)=updA (.w k v::es):=funext fun p=>j9k k v es p
      rw[this]at e3;exact e3
     |false=>
      rw[hk]at h;obtain⟨s',h1,h3⟩:=h;obtain⟨es,e1,e2,e3⟩:=FR.out h3;refine⟨.c s'::es,by simp[e1],⟨⟨sz,k,y,fun e=>(by rw[z7X.2 e]at hk;cases hk),rfl,h1⟩,e2⟩,?_⟩;exact e3
   |_=>exact(h:False).elim
  |some d=>
  cases op with
  |val v=>
   obtain⟨z,h1,h2,h3⟩:=h;obtain⟨es,e1,e2,e3⟩:=FR.out h3;exact⟨.v d z::es,by simp[e1],⟨⟨h2,.inl ⟨v,rfl,h1⟩⟩,e2⟩,e3⟩
  |call f xs=>
   obtain⟨ys,r,h1,h2,h3⟩:=h;obtain⟨es,e1,e2,e3⟩:=FR.out h3;exact⟨.v d r.av::es,by simp[e1],⟨⟨j5x ds r,.inr ⟨f,xs,ys,r,rfl,rfl,h1,h2⟩⟩,e2⟩,e3⟩
  |prim p xs chk=>
   obtain⟨⟨rfl,hm⟩,s',z,h1,h2,h3⟩:=h;obtain⟨es,e1,e2,e3⟩:=FR.out h3;exact⟨.p d s' z::es,by simp[e1],⟨⟨⟨h2,hm⟩,p,xs,rfl,h1⟩,e2⟩,e3⟩
  |allo cs=>
   obtain⟨es,e1,e2,e3⟩:=FR.out (A:=A++[(d,cs,none)]) h;exact⟨.a d cs::es,by simp[e1],⟨rfl,e2⟩,by rw[j9j];simpa[q6w,Ent.st,Ent.app,updA]using e3⟩
  |_=>exact(h:False).elim
theorem FRE.get:∀{l:List q0f} {es:List (Ent γ)} {s:γ} {τ:St},FRE P X M ds l es s τ→∀{i:Nat} {e:Ent γ},es[i]?=some e→
  ∃o,l[i]?=some o∧j6m P X M ds o ((es.take i).foldl Ent.st s) ((es.take i).foldl Ent.app τ) e
 |_,[],_,_,_,i,e,h=>by simp at h
 |[],_::_,_,_,h,_,_,_=>h.elim
 |o::l,e::es,s,τ,⟨h1,h2⟩,0,e',h=>by simp at h;subst h;exact⟨o,rfl,h1⟩
 |o::l,e::es,s,τ,⟨h1,h2⟩,i+1,e',h=>by
  simp at h;obtain⟨o',q1,q2⟩:=FRE.get h2 h;exact⟨o',by simpa using q1,by simpa using q2⟩
/-! ### The state of the text's order -/
theorem j3R:∀(es:List (Ent γ)) (τ:St),(es.foldl Ent.app τ).L=τ.L
 |[],_=>rfl
 |e::es,τ=>by rw[Zdi,j3R es];cases e<;>rfl
theorem q9Y{t:Nat}:∀(es:List (Ent γ)) (τ:St),(∀e∈es,e.z?.isSome=true→e.d≠t)→aget (es.foldl Ent.app τ).ρ t=aget τ.ρ t
 |[],_,_=>rfl
 |e::es,τ,h=>by
  rw[Zdi,q9Y es _ (fun e' he=>h e' (by simp[he]))];have:=h e (by simp);cases e with
  |v d z=>exact if_neg (this rfl)
  |p d s z=>exact if_neg (this rfl)
  |a d cs=>rfl
  |w k v=>rfl
  |c s=>rfl
theorem z7r:∀(es:List (Ent γ)) (τ:St),(es.map Ent.d).Nodup→∀{e:Ent γ} {z:AV},e∈es→e.z?=some z→aget (es.foldl Ent.app τ).ρ e.d=some z
 |[],_,_,e,_,he,_=>by simp at he
 |a::es,τ,hn,e,z,he,hz=>by
  rw[Zai,Zbk]at hn;rw[Zdi];rcases Zau.1 he with rfl|he
  ·rw[q9Y es _ (fun e' he' _ e1=>hn.1 (by rw[←e1];exact Zbs he'))];cases e with
   |v d z'=>cases hz;simp[Ent.app,St.put,q0A,Ent.d]
   |p d s z'=>cases hz;simp[Ent.app,St.put,q0A,Ent.d]
   |a d cs=>cases hz
   |w k v=>cases hz
   |c s=>cases hz
  ·exact z7r es _ hn.2 he hz
/-! ### Which call was last -/
def curI:List (Ent γ)→Nat→(Nat→Bool)→γ→γ
 |[],_,_,s=>s
 |e::es,k,done,s=>curI es (k+1) done (if done k=true then e.st s else s)
def Ent.isP:Ent γ→Bool
 |.p _ _ _=>true
 |.c _=>true
 |_=>false
theorem j9I{e:Ent γ}(h:e.isP=false)(s:γ):e.st s=s:=by cases e<;>first|rfl|simp[Ent.isP]at h
theorem q4P:∀(es:List (Ent γ)) (k:Nat) (f g:Nat→Bool) (s:γ),(∀i e,es[i]?=some e→e.isP=true→f (k+i)=g (k+i))→curI es k f s=curI es k g s
 |[],_,_,_,_,_=>rfl
 |e::es,k,f,g,s,h=>by
  simp only[curI];have e1:(if f k=true then e.st s else s)=if g k=true then e.st s else s:=by
   cases hp:e.isP with
   |false=>simp[j9I hp]
   |true=>have:=h 0 e rfl hp;simp only[Zcn]at this;rw[this]
  rw[e1];exact q4P es (k+1) f g _ fun i e' he hp=>by
   have:=h (i+1) e' (by simpa using he) hp;rwa [show k+1+i=k+(i+1) by omega]
theorem q7N:∀(es:List (Ent γ)) (k i:Nat) (s:γ),curI es k (fun j=>decide (j<k+i)) s=(es.take i).foldl Ent.st s
 |[],_,_,_=>by simp[curI]
 |e::es,k,0,s=>by
  simp only[curI,Zcn,Nat.lt_irrefl,decide_false,Zce,List.foldl_nil];have:=q7N es (k+1) 0 s;rw[Zce,List.foldl_nil,Zcn]at this;rw[←this];simp only[Zan,↓reduceIte];rw[this];refine(q4P es (k+1) _ (fun j=>decide (j<k+1)) s fun i e' he hp=>?_).trans this;have h1:¬(k+1+i<k):=by omega
  have h2:¬(k+1+i<k+1):=by omega
  simp[h1,h2]
 |e::es,k,i+1,s=>by
  simp only[curI,Zbz,Zdi];rw[if_pos (by simp),←q7N es (k+1) i];refine q4P es (k+1) _ _ _ fun j e' he hp=>?_
  have:(k+1+j<k+(i+1))↔(k+1+j<k+1+i):=by omega
  simp[this]
/-! ### The check of such a region -/
def z92(deps:List (List Nat)):List (List Nat):=
 (deps.foldl (fun acc d=>acc++[(List.range acc.length).filter fun k=>d.contains k || d.any fun j=>(acc.getD j []).contains k]) [])
def j1E(c:Nat)(l:List q0f):List Nat:=(l.take c).map fun o=>o.dst.getD 999999
def isPr(ds:List Nat):LO→Bool
 |.prim _ _ _=>true
 |.st _ (.t k) _ => !ds.contains k
 |_=>false
def rdsF(ds:List Nat)(o:q0f):List Nat:=match o.op with
 |.st _ (.t k) y=>cond (ds.contains k) (q1H y) (k::q1H y)
 |_=>o.reads
def stOK(ds:List Nat)(i:Nat)(l:List q0f)(d:List Nat)(o:q0f):Bool:=match o.op with
 |.st sz (.t k) _ => !ds.contains k || d.any fun j=>decide (j<i)&&match(l.getD j default).dst,(l.getD j default).op with
  |some k',.allo cs=>k'==k&&cs.length==sz
  |_,_=>false
 |_=>true
def z2X:List Nat→Bool
 |[]=>true
 |a::l => !l.contains a&&z2X l
def frOK(c:Nat)(l:List q0f)(deps:List (List Nat))(ds keys:List Nat):Bool:=
 z2X (j1E c l)&&((List.range c).all (fun i=>
  ((rdsF ds (l.getD i default)).all fun s=>((deps.getD i []).any fun j=>decide (j<i)&&((l.getD j default).dst==some s && !z1A (l.getD j default).op)) || (!(j1E c l).contains s&&keys.contains s)) &&
  ((!z1A (l.getD i default).op || ds.contains ((l.getD i default).dst.getD 0))&&(stOK ds i l (deps.getD i []) (l.getD i default) &&
  (List.range i).all fun j => !(isPr ds (l.getD i default).op&&isPr ds (l.getD j default).op) || ((z92 deps).getD i []).contains j))) &&
 (decide (c≤l.length)&&((List.range l.length).all fun i=>decide (i<c) || (List.range i).all fun j=>((z92 deps).getD i []).contains j)))
theorem q8Y:∀{l:List Nat},z2X l=true→l.Nodup
 |[],_=>List.nodup_nil
 |a::l,h=>by
  simp only[z2X,Zac,Zbf]at h;exact Zbk.2 ⟨by simpa using h.1,q8Y h.2⟩
def z0N(deps:List (List Nat))(done:Nat→Bool):Prop:=∀i,done i=true→∀j∈deps.getD i [],done j=true
theorem q92{deps:List (List Nat)}{done:Nat→Bool}(h:z0N deps done){i j:Nat}(hi:done i=true)(hj:((z92 deps).getD i []).contains j=true):done j=true:=by
 have key:∀(r p:List (List Nat)) (acc:List (List Nat)),deps=p++r→acc.length=p.length→(∀i j,done i=true→j∈acc.getD i []→done j=true)→
   ∀i j,done i=true→j∈(r.foldl (fun acc d=>acc++[(List.range acc.length).filter fun k=>d.contains k || d.any fun j=>(acc.getD j []).contains k]) acc).getD i []→done j=true:=by
  intro r;induction r with
  |nil=>intro p acc _ _ h;exact h
  |cons d r ih=>
   intro p acc hp hl ha;refine ih (p++[d]) _ (by simp[hp]) (by simp[hl]) fun i j hi hj=>?_
   by_cases hlt:i<acc.length
   ·refine ha i j hi ?_;simpa[List.getD_eq_getElem?_getD,Zag hlt]using hj
   ·by_cases he:i=acc.length
    ·subst he;simp only[List.getD_eq_getElem?_getD,Zao (Zal _),Nat.sub_self,List.getElem?_cons_zero,Zbj,Zco,Zca,Zbg]at hj;have hd:deps.getD acc.length []=d:=by rw[hp,hl];simp[List.getD_eq_getElem?_getD]
     have hc:=h _ hi;rw[hd]at hc;rcases hj.2 with h1|⟨k,h1,h2⟩
     ·exact hc j (by simpa using h1)
     ·exact ha k j (hc k h1) (by simpa using h2)
    ·rw[List.getD_eq_getElem?_getD,Zdl (by simp;omega)]at hj;simp at hj
 exact key deps [] [] rfl rfl (fun i j _ hj=>by simp at hj) i j hi (Zdk.1 hj)
def Ent.hasD:Ent γ→Bool
 |.w _ _=>false
 |.c _=>false
 |_=>true
/-! ### The family -/
structure FamU(X:γ→AObj)(M:List (Nat×AObj))(es:List (Ent γ))(σ:St)(s0:γ)(done:Nat→Bool)(τ:St):Prop where
 F:∀(j:Nat) (e:Ent γ) (z:AV),es[j]?=some e→e.z?=some z→done j=true→aget τ.ρ e.d=some z
 B:∀(t:Nat) (y:AV),aget σ.ρ t=some y→(∀e∈es,Ent.hasD e=true→Ent.d e≠t)→aget τ.ρ t=some y
 L:∀(k:Nat) (o:AObj),aget σ.L k=some o→aget τ.L k=some o
 A:∀(j d:Nat) (cs:List D),es[j]?=some (.a d cs)→done j=true→aget τ.ρ d=some (.ptr (.l d) 0)∧((∀(i:Nat) (v:D),es[i]?=some (.w d v)→done i=false)→aget τ.L d=some (.cells (cs.map nsD)))∧∀(i:Nat) (v:D),es[i]?=some (.w d v)→done i=true→aget τ.L d=some (.cells (v.cells.map .d))
 H:τ.H=(0,X (curI es 0 done s0))::M
structure j07(ds:List Nat)(σ:St):Prop where
 ρ:∀t y,aget σ.ρ t=some y→q3Q ds y=true
 L:∀k o,aget σ.L k=some o→q9M ds o=true
 n:∀d∈ds,aget σ.L d=none
def Ent.isA:Ent γ→Bool
 |.a _ _=>true
 |_=>false
theorem z14{z:AV}(h:q3Q ds z=true){d:Nat}(hd:d∈ds):z.has (.l d)=false:=by
 simp only[q3Q,Zac,Zaj,Zbf]at h;exact h.2 d hd
theorem z9R(hm:inN 999998 ds=false){z:AV}(h:q3Q ds z=true):q9a z=true:=by
 simp only[q3Q,hm,cond_false,Zac]at h;exact h.1
theorem j7y(hm:inN 999998 ds=false){o:AObj}(h:q9M ds o=true):q9M [] o=true:=by
 cases o with
 |cells cs=>
  simp only[q9M,Zaj]at h ⊢;intro x hx;have:=z9R hm (h x hx);simp[q3Q,this]
 |_=>rfl
theorem q8t{r:Ref}{z:AV}(h:z.has r=false):z.drop r=z:=by simp[AV.drop,h]
theorem z4K{o:AObj}(h:q9M ds o=true){d:Nat}(hd:d∈ds):q0q (.l d) o=o:=by
 cases o with
 |cells cs=>
  simp only[q9M,Zaj]at h;simp only[q0q];exact congrArg AObj.cells ((Zcj fun x hx=>q8t (z14 (h x hx) hd)).trans (List.map_id _))
 |_=>rfl
theorem z6S(x:D):(nsD x).lab?=none∧∀r,(nsD x).has r=false:=by
 unfold nsD;split<;>exact⟨rfl,fun _=>rfl⟩
theorem z3t(cs:List D):q9M [] (.cells (cs.map nsD))=true∧∀r,q0q r (.cells (cs.map nsD))=.cells (cs.map nsD):=by
 constructor
 ·simp only[q9M,Zaj];intro x hx;obtain⟨y,_,rfl⟩:=Zak.1 hx;simp[q3Q,q9a,z6S]
 ·intro r;simp only[q0q];refine congrArg AObj.cells ((Zcj fun x hx=>?_).trans (List.map_id _));obtain⟨y,_,rfl⟩:=Zak.1 hx;exact q8t ((z6S y).2 r)
def ctA(p:Nat×List D×Option (List D)):List AV:=match p.2.2 with
 |none=>p.2.1.map nsD
 |some ys=>ys.map .d
theorem z5T(p:Nat×List D×Option (List D)):q9M [] (.cells (ctA p))=true∧∀r,q0q r (.cells (ctA p))=.cells (ctA p):=by
 unfold ctA;split
 ·exact z3t _
 ·rename_i ys _;constructor
  ·simp only[q9M,Zaj];intro x hx;obtain⟨y,_,rfl⟩:=Zak.1 hx;rfl
  ·intro r;simp only[q0q];refine congrArg AObj.cells ((Zcj fun x hx=>?_).trans (List.map_id _));obtain⟨y,_,rfl⟩:=Zak.1 hx;rfl
theorem z0T{es:List (Ent γ)}(hn:(es.map Ent.d).Nodup){i j:Nat}{e e':Ent γ}(hi:es[i]?=some e)(hj:es[j]?=some e')(h:e.d=e'.d):i=j:=by
 have h1:=(Zab.1 hi).1;refine(List.getElem?_inj (l:=es.map Ent.d) (j:=j) (by simpa using h1) hn).1 ?_;rw[Zae,Zae,hi,hj];simp[h]
theorem FamU.step{es:List (Ent γ)}{σ:St}{s0:γ}{done:Nat→Bool}{τ τ':St}(h:FamU X M es σ s0 done τ)(hn:(es.map Ent.d).Nodup){i:Nat}{e:Ent γ}(he:es[i]?=some e)(hS:j07 ds σ)
  (hds:∀e∈es,Ent.isA e=true→e.d∈ds) (hz:∀e∈es,∀z,Ent.z? e=some z→q3Q ds z=true)
  (hmk:e.isP=true→inN 999998 ds=false)
  (ha:∀t y,t≠e.d→(e.isP=true→q9a y=true)→(e.isA=true→y.has (.l e.d)=false)→aget τ.ρ t=some y→aget τ'.ρ t=some y)
  (hb:∀z,e.z?=some z→aget τ'.ρ e.d=some z)
  (hc:∀k o,(e.isP=true→q9M [] o=true)→(e.isA=true→q0q (.l e.d) o=o∧k≠e.d)→aget τ.L k=some o→aget τ'.L k=some o)
  (hnw:e.hasD=true) (hdep:∀d cs,e=.a d cs→∀(i:Nat) (v:D),es[i]?=some (.w d v)→done i=false)
  (hd:∀d cs,e=.a d cs→aget τ'.ρ d=some (.ptr (.l d) 0)∧aget τ'.L d=some (.cells (cs.map nsD)))
  (hH:τ'.H=(0,X (curI es 0 (fun k=>k==i || done k) s0))::M):FamU X M es σ s0 (fun k=>k==i || done k) τ':=by
 have hem:e∈es:=Zaa he;refine⟨fun j e' z hj hz' hdj=>?_,fun t y ht hne=>?_,fun k o hk=>?_,fun j d cs hj hdj=>?_,hH⟩
 ·by_cases hij:j=i
  ·subst hij;rw[he]at hj;cases hj;exact hb z hz'
  ·have hdj:done j=true:=by simpa[hij]using hdj
   refine ha _ z (fun e1=>hij (z0T hn hj he e1)) (fun hp=>z9R (hmk hp) (hz e' (Zaa hj) z hz')) (fun hA=>z14 (hz e' (Zaa hj) z hz') (hds e hem hA)) (h.F j e' z hj hz' hdj)
 ·exact ha t y (fun e1=>hne e hem hnw e1.symm) (fun hp=>z9R (hmk hp) (hS.ρ t y ht)) (fun hA=>z14 (hS.ρ t y ht) (hds e hem hA)) (h.B t y ht hne)
 ·refine hc k o (fun hp=>j7y (hmk hp) (hS.L k o hk)) (fun hA=>⟨z4K (hS.L k o hk) (hds e hem hA),fun e1=>?_⟩) (h.L k o hk);have:=hS.n e.d (hds e hem hA);rw[←e1,hk]at this;cases this
 ·have hnew:∀(q:Nat) (v:D),es[q]?=some (.w d v)→(q==i || done q)=done q:=fun q v hq=>by
   have:¬q=i:=fun e1=>by subst e1;rw[he]at hq;cases hq;cases hnw
   simp[this]
  by_cases hij:j=i
  ·subst hij;rw[he]at hj;cases hj;refine⟨(hd d cs rfl).1,fun _=>(hd d cs rfl).2,fun q v hq hdq=>?_⟩;rw[hnew q v hq,hdep d cs rfl q v hq]at hdq;cases hdq
  ·have hdj:done j=true:=by simpa[hij]using hdj
   obtain⟨q1,q2,q3⟩:=h.A j d cs hj hdj;have hne:d≠e.d:=fun e1=>hij (z0T hn hj he e1)
   refine⟨ha d _ hne (fun _=>rfl) (fun _=>by simpa[AV.has]using hne) q1,fun hno=>?_,fun q v hq hdq=>?_⟩
   ·exact hc d _ (fun _=>(z3t cs).1) (fun _=>⟨(z3t cs).2 _,hne⟩) (q2 fun q v hq=>by have:=hno q v hq;rwa [hnew q v hq]at this)
   ·rw[hnew q v hq]at hdq;exact hc d _ (fun _=>(z5T (d,cs,some v.cells)).1) (fun _=>⟨(z5T (d,cs,some v.cells)).2 _,hne⟩) (q3 q v hq hdq)
def z2U(τ:St)(p:Nat×List D×Option (List D)):St:=match p.2.2 with
 |none=>newO τ p.1 p.2.1
 |some ys=>(newO τ p.1 p.2.1).setObj (.l p.1) (.cells (ys.map .d))
def z0q:List (Nat×List D×Option (List D))→St→St
 |[],τ=>τ
 |p::A,τ=>z0q A (z2U τ p)
theorem j2y(τ:St)(p:Nat×List D×Option (List D)):(z2U τ p).ρ=(newO τ p.1 p.2.1).ρ∧(z2U τ p).H=τ.H:=by
 unfold z2U;split<;>exact⟨rfl,rfl⟩
theorem j6Y(τ:St)(p:Nat×List D×Option (List D))(k:Nat):aget (z2U τ p).L k=if p.1=k then some (.cells (ctA p))else aget (newO τ p.1 p.2.1).L k:=by
 unfold z2U ctA;split
 ·split
  ·rename_i e;subst e;simp[newO,St.put,St.setObj,q4c]
  ·rfl
 ·simp only[St.setObj,q4c]
theorem j0n{x:q0f}{t:List q0f}{K:St→Prop}{τ:St}(h:q5m P (x::t) K τ):LOps P [x] (q5m P t K) τ:=by
 unfold LOps;unfold q5m at h;exact h
theorem j2z:∀(A:List (Nat×List D×Option (List D))) (τ:St),(z0q A τ).H=τ.H
 |[],_=>rfl
 |p::A,τ=>by rw[z0q,j2z A];exact(j2y τ p).2
theorem j2B:∀(A:List (Nat×List D×Option (List D))) (τ:St),(A.map (·.1)).Nodup→(∀t y,aget τ.ρ t=some y→∀a∈A,y.has (.l a.1)=false)→∀{t y},aget (z0q A τ).ρ t=some y→(t∈A.map (·.1)∧y=.ptr (.l t) 0)∨(t∉A.map (·.1)∧aget τ.ρ t=some y)
 |[],_,_,_,t,y,h=>.inr ⟨by simp,h⟩
 |(d,cs,w)::A,τ,hn,hs,t,y,h=>by
  rw[Zai,Zbk]at hn;have hr:∀t,aget (z2U τ (d,cs,w)).ρ t=if d=t then some (.ptr (.l d) 0)else aget τ.ρ t:=fun t=>by
   rw[(j2y τ (d,cs,w)).1];simp only[newO,St.put,q0A,St.setObj,St.drop,q0p];split
   ·rfl
   ·cases hy:aget τ.ρ t with
    |none=>rfl
    |some y=>exact congrArg some (q8t (hs t y hy (d,cs,w) (by simp)))
  have key:=j2B A (z2U τ (d,cs,w)) hn.2 (fun t y hy a ha=>by
   rw[hr]at hy;split at hy
   ·cases hy;have hne:¬d=a.1:=fun e1=>hn.1 (Zak.2 ⟨a,ha,e1.symm⟩)
    simpa[AV.has]using hne
   ·exact hs t y hy a (by simp[ha])) (t:=t) (y:=y) (by rw[z0q]at h;exact h)
  rcases key with⟨h1,h2⟩|⟨h1,h2⟩
  ·exact .inl ⟨by rw[Zai];exact Zbp _ h1,h2⟩
  ·rw[hr]at h2;split at h2
   ·rename_i e1;subst e1;cases h2;exact .inl ⟨by simp,rfl⟩
   ·rename_i e1;exact .inr ⟨by rw[Zai,Zau];exact fun h3=>h3.elim (fun e2=>e1 e2.symm) h1,h2⟩
theorem j2A:∀(A:List (Nat×List D×Option (List D))) (τ:St),(A.map (·.1)).Nodup→(∀k o,aget τ.L k=some o→∀a∈A,q0q (.l a.1) o=o)→∀{k o},aget (z0q A τ).L k=some o→(∃p,p∈A∧p.1=k∧o=.cells (ctA p))∨(k∉A.map (·.1)∧aget τ.L k=some o)
 |[],_,_,_,k,o,h=>.inr ⟨by simp,h⟩
 |(d,cs,w)::A,τ,hn,hs,k,o,h=>by
  rw[Zai,Zbk]at hn;have hr:∀k,aget (z2U τ (d,cs,w)).L k=if d=k then some (.cells (ctA (d,cs,w)))else aget τ.L k:=fun k=>by
   rw[j6Y];split
   ·rfl
   ·rename_i hne;simp only[newO,St.put,St.setObj,St.drop,q4c,q0p];rw[if_neg hne];cases hy:aget τ.L k with
    |none=>rfl
    |some y=>exact congrArg some (hs k y hy (d,cs,w) (by simp))
  rcases j2A A (z2U τ (d,cs,w)) hn.2 (fun k y hy a ha=>by
   rw[hr]at hy;split at hy
   ·cases hy;exact(z5T _).2 _
   ·exact hs k y hy a (by simp[ha])) (k:=k) (o:=o) (by rw[z0q]at h;exact h)with⟨p,h1,h2⟩|⟨h1,h2⟩
  ·exact .inl ⟨p,by simp[h1],h2⟩
  ·rw[hr]at h2;split at h2
   ·rename_i e1;subst e1;cases h2;exact .inl ⟨_,List.mem_cons_self,rfl,rfl⟩
   ·rename_i e1;exact .inr ⟨by rw[Zai,Zau];exact fun h3=>h3.elim (fun e2=>e1 e2.symm) h1,h2⟩
theorem q8n{es:List (Ent γ)}{p:Nat×List D×Option (List D)}(h:p∈q6w es):Ent.a p.1 p.2.1∈es∧(∀ys,p.2.2=some ys→∃v,Ent.w p.1 v∈es∧ys=D.cells v):=by
 induction es with
 |nil=>simp[q6w]at h
 |cons e es ih=>
  have up:∀{p:Nat×List D×Option (List D)},(Ent.a p.1 p.2.1∈es∧(∀ys,p.2.2=some ys→∃v,Ent.w p.1 v∈es∧ys=D.cells v))→(Ent.a p.1 p.2.1∈e::es∧(∀ys,p.2.2=some ys→∃v,Ent.w p.1 v∈e::es∧ys=D.cells v)):=fun⟨h1,h2⟩=>⟨Zbp _ h1,fun ys hy=>let⟨v,q1,q2⟩:=h2 ys hy;⟨v,Zbp _ q1,q2⟩⟩
  have wof:∀{d:Nat} {l:List (Ent γ)} {ys:List D},wOf d l=some ys→∃v,Ent.w d v∈l∧ys=D.cells v:=fun{d l ys} hw=>by
   induction l with
   |nil=>cases hw
   |cons a l ih=>
    cases a with
    |w k v=>
     simp only[wOf]at hw;split at hw
     ·rename_i e;cases hw;subst e;exact⟨v,by simp,rfl⟩
     ·obtain⟨v',q1,q2⟩:=ih hw;exact⟨v',Zbp _ q1,q2⟩
    |_=>obtain⟨v',q1,q2⟩:=ih hw;exact⟨v',Zbp _ q1,q2⟩
  cases e with
  |a d cs=>
   simp only[q6w,Zau]at h;rcases h with rfl|h
   ·exact⟨by simp,fun ys hy=>let⟨v,q1,q2⟩:=wof hy;⟨v,Zbp _ q1,q2⟩⟩
   ·exact up (ih h)
  |v d z=>exact up (ih h)
  |p d s z=>exact up (ih h)
  |w k v=>exact up (ih h)
  |c s=>exact up (ih h)
theorem j1b{es:List (Ent γ)}{d:Nat}{cs:List D}(h:.a d cs∈es):d∈(q6w es).map (·.1):=by
 induction es with
 |nil=>cases h
 |cons e es ih=>
  rcases Zau.1 h with rfl|h
  ·simp[q6w]
  ·have:=ih h;cases e<;>simp only[q6w,Zai]<;>first|exact this|exact Zbp _ this
theorem z2k:∀{es:List (Ent γ)},(es.map Ent.d).Nodup→((q6w es).map (·.1)).Nodup
 |[],_=>List.nodup_nil
 |e::es,h=>by
  rw[Zai,Zbk]at h;have ih:=z2k h.2;cases e with
  |a d cs=>
   simp only[q6w,Zai,Zbk];refine⟨fun hm=>h.1 ?_,ih⟩;obtain⟨p,h1,h2⟩:=Zak.1 hm;exact Zak.2 ⟨_,(q8n h1).1,h2⟩
  |v d z=>exact ih
  |p d s z=>exact ih
  |w k v=>exact ih
  |c s=>exact ih
theorem j5F{es:List (Ent γ)}{d:Nat}(h:wOf d es=none):∀v,.w d v∉es:=by
 induction es with
 |nil=>intro v hv;cases hv
 |cons e es ih=>
  intro v hv;cases e with
  |w k v'=>
   simp only[wOf]at h;split at h
   ·cases h
   ·rename_i hne;rcases Zau.1 hv with e|hv
    ·injection e with e1 e2;exact hne e1.symm
    ·exact ih h v hv
  |v a b=>rcases Zau.1 hv with e|hv;(· cases e);exact ih h v hv
  |p a b c=>rcases Zau.1 hv with e|hv;(· cases e);exact ih h v hv
  |a a b=>rcases Zau.1 hv with e|hv;(· cases e);exact ih h v hv
  |c a=>rcases Zau.1 hv with e|hv;(· cases e);exact ih h v hv
theorem j3Q{es:List (Ent γ)}{p:Nat×List D×Option (List D)}(h:p∈q6w es)(hn:p.2.2=none):∃j:Nat,es[j]?=some (Ent.a p.1 p.2.1)∧∀(i:Nat) (v:D),j<i→es[i]?≠some (Ent.w p.1 v):=by
 induction es with
 |nil=>simp[q6w]at h
 |cons e es ih=>
  have up:(∃j:Nat,es[j]?=some (Ent.a p.1 p.2.1)∧∀(i:Nat) (v:D),j<i→es[i]?≠some (Ent.w p.1 v))→∃j:Nat,(e::es)[j]?=some (Ent.a p.1 p.2.1)∧∀(i:Nat) (v:D),j<i→(e::es)[i]?≠some (Ent.w p.1 v):=fun⟨j,h1,h2⟩=>⟨j+1,by simpa using h1,fun i v hi=>by
   obtain⟨i',rfl⟩:∃i',i=i'+1:=⟨i-1,by omega⟩;simpa using h2 i' v (by omega)⟩
  cases e with
  |a d cs=>
   simp only[q6w,Zau]at h;rcases h with rfl|h
   ·refine⟨0,rfl,fun i v hi=>?_⟩;obtain⟨i',rfl⟩:∃i',i=i'+1:=⟨i-1,by omega⟩;intro he;exact j5F hn v (Zaa (by simpa using he))
   ·exact up (ih h)
  |v d z=>exact up (ih h)
  |p d s z=>exact up (ih h)
  |w k v=>exact up (ih h)
  |c s=>exact up (ih h)
theorem j8a:∀{l:List q0f} {es:List (Ent γ)} {s:γ} {τ:St},FRE P X M ds l es s τ→es.map Ent.d=j1E es.length l
 |_,[],_,_,_=>by simp[j1E]
 |[],_::_,_,_,h=>h.elim
 |o::l,e::es,s,τ,⟨h1,h2⟩=>by
  have ih:=j8a h2;simp only[j1E,Zad,Zbz,Zai]at ih ⊢;rw[ih];congr 1
  cases e with
  |v d z=>rcases h1 with⟨_,⟨v,rfl,_⟩|⟨f,xs,ys,r,rfl,_⟩⟩<;>rfl
  |p d s z=>obtain⟨_,p,xs,rfl,_⟩:=h1;rfl
  |a d cs=>obtain rfl:o=_:=h1;rfl
  |w k v=>obtain⟨_,sz,y,rfl,_⟩:=h1;rfl
  |c s=>obtain⟨sz,k,y,_,rfl,_⟩:=h1;rfl
theorem j8b{l:List q0f}{es:List (Ent γ)}{s:γ}{τ:St}(h:FRE P X M ds l es s τ):∀e∈es,∀z,Ent.z? e=some z→q3Q ds z=true:=fun e he z hz=>by
 obtain⟨i,hi⟩:=Zap he;obtain⟨o,_,h1⟩:=h.get hi;cases e with
 |v d z'=>cases hz;exact h1.1
 |p d s z'=>cases hz;exact h1.1.1
 |a d cs=>cases hz
 |w k v=>cases hz
 |c s=>cases hz
theorem FamU.fin{es:List (Ent γ)}{σ:St}{s0:γ}{done:Nat→Bool}{τ:St}{l:List q0f}(h:FamU X M es σ s0 done τ)(hn:(es.map Ent.d).Nodup)(hS:j07 ds σ)(hf:FRE P X M ds l es s0 σ)
  (hds:∀e∈es,Ent.isA e=true→e.d∈ds) (hwa:∀(i k:Nat) (v:D),es[i]?=some (.w k v)→∃j cs,es[j]?=some (.a k cs)∧j<i) (hall:∀i,i<es.length→done i=true):Wk (z0q (q6w es) ((es.foldl Ent.app σ).at (X (es.foldl Ent.st s0)) M)) τ:=by
 have hz:=j8b hf;have hslot:∀t y,aget (es.foldl Ent.app σ).ρ t=some y→(∃e∈es,e.z?=some y∧e.d=t)∨((∀e∈es,e.z?.isSome=true→Ent.d e≠t)∧aget σ.ρ t=some y):=fun t y ht=>by
  by_cases hex:∃e∈es,e.z?.isSome=true∧Ent.d e=t
  ·obtain⟨e,h1,h2,rfl⟩:=hex;obtain⟨z,hz'⟩:=Zdb.1 h2;rw[z7r es σ hn h1 hz']at ht;cases ht;exact .inl ⟨e,h1,hz',rfl⟩
  ·have hno:∀e∈es,e.z?.isSome=true→Ent.d e≠t:=fun e h1 h2 h3=>hex ⟨e,h1,h2,h3⟩
   rw[q9Y es σ hno]at ht;exact .inr ⟨hno,ht⟩
 have hstab:∀t y,aget (es.foldl Ent.app σ).ρ t=some y→q3Q ds y=true:=fun t y ht=>by
  rcases hslot t y ht with⟨e,h1,h2,_⟩|⟨_,h2⟩
  ·exact hz e h1 y h2
  ·exact hS.ρ t y h2
 have hAds:∀a∈q6w es,a.1∈ds:=fun a ha=>hds _ (q8n ha).1 rfl
 have hA:∀{t:Nat},t∈(q6w es).map (·.1)→∃(j:Nat) (cs:List D),es[j]?=some (Ent.a t cs):=fun{t} ht=>by
  obtain⟨p,h1,rfl⟩:=Zak.1 ht;obtain⟨j,hj⟩:=Zap (q8n h1).1;exact⟨j,p.2.1,hj⟩
 have hdn:∀{j:Nat} {e:Ent γ},es[j]?=some e→done j=true:=fun hj=>hall _ (Zab.1 hj).1
 refine⟨fun t y ht=>?_,fun r o ho=>?_⟩
 ·rcases j2B (q6w es) ((es.foldl Ent.app σ).at (X (es.foldl Ent.st s0)) M) (z2k hn) (fun t y hy a ha=>z14 (hstab t y hy) (hAds a ha)) ht with⟨h1,rfl⟩|⟨h1,h2⟩
  ·obtain⟨j,cs,hj⟩:=hA h1;exact(h.A j t cs hj (hdn hj)).1
  ·rcases hslot t y h2 with⟨e,q1,q2,rfl⟩|⟨q1,q2⟩
   ·obtain⟨j,hj⟩:=Zap q1;exact h.F j e y hj q2 (hdn hj)
   ·refine h.B t y q2 fun e he hh hd=>?_
    cases e with
    |a d cs=>
     simp only[Ent.d]at hd;subst hd;exact h1 (j1b he)
    |v d z=>exact q1 _ he rfl hd
    |p d s z=>exact q1 _ he rfl hd
    |w k v=>cases hh
    |c s=>cases hh
 ·cases r with
  |l k=>
   rcases j2A (q6w es) ((es.foldl Ent.app σ).at (X (es.foldl Ent.st s0)) M) (z2k hn) (fun k o hk a ha=>by
    have hk':aget σ.L k=some o:=by rw[←j3R es σ];exact hk
    exact z4K (hS.L k o hk') (hAds a ha)) (show aget (z0q (q6w es) ((es.foldl Ent.app σ).at (X (es.foldl Ent.st s0)) M)).L k=some o from ho)with⟨p,h1,rfl,rfl⟩|⟨h1,h2⟩
   ·cases hw:p.2.2 with
    |none=>
     obtain⟨j,hj,hlate⟩:=j3Q h1 hw;have e1:ctA p=p.2.1.map nsD:=by unfold ctA;rw[hw]
     rw[e1];refine(h.A j p.1 p.2.1 hj (hdn hj)).2.1 fun i v hi=>?_
     obtain⟨j',cs',hj',hlt⟩:=hwa i p.1 v hi;have:=z0T hn hj hj' rfl;exact absurd hi (hlate i v (by omega))
    |some ys=>
     obtain⟨v,hv1,hv2⟩:=(q8n h1).2 ys hw;obtain⟨j,hj⟩:=Zap (q8n h1).1;obtain⟨i,hi⟩:=Zap hv1;have e1:ctA p=v.cells.map .d:=by unfold ctA;rw[hw,hv2]
     rw[e1];exact(h.A j p.1 p.2.1 hj (hdn hj)).2.2 i v hi (hdn hi)
   ·exact h.L k o (by rw[←j3R es σ];exact h2)
  |x k=>
   have h1:(z0q (q6w es) ((es.foldl Ent.app σ).at (X (es.foldl Ent.st s0)) M)).H=τ.H:=by
    rw[j2z,h.H];have e1:=q7N es 0 es.length s0;rw[Zcf]at e1;have e2:curI es 0 done s0=es.foldl Ent.st s0:=by
     rw[←e1];refine q4P es 0 _ _ _ fun i e hi _=>?_
     have:=(Zab.1 hi).1;simp[hdn hi,this]
    rw[e2];rfl
   show aget τ.H k=some o
   rw[←h1];exact ho
theorem z7I{σ τ:St}:∀{l:List LX},(∀s∈q4q l,τ.get s=σ.get s)→evL τ l=evL σ l
 |[],_=>rfl
 |x::l,h=>by
  simp only[q4q,Zbb]at h;have h1:τ.ev x=σ.ev x:=by
   cases x with
   |t s=>exact h s (.inl (by simp[q1H]))
   |k y=>rfl
  simp only[evL,h1,z7I (l:=l) fun s hs=>h s (.inr hs)]
theorem q6B{σ:St}{t:Nat}{y:AV}(h:aget σ.ρ t=some y):σ.get t=y:=by simp[St.get,h]
theorem z81:∀(es:List (Ent γ)) (k:Nat) (s:γ),curI es k (fun _=>false) s=s
 |[],_,_=>rfl
 |e::es,k,s=>by simp only[curI,Zan,↓reduceIte];exact z81 es (k+1) s
theorem j3n{cs:List AV}{xs:List AV}(h:cs.length=xs.length):setA cs 0 xs=xs:=by
 have key:∀(xs pre cs:List AV),cs.length=xs.length→setA (pre++cs) pre.length xs=pre++xs:=by
  intro xs;induction xs with
  |nil=>intro pre cs h;cases cs with
   |nil=>rfl
   |cons a l=>simp at h
  |cons x xs ih=>
   intro pre cs h;cases cs with
   |nil=>simp at h
   |cons a l=>
    have e:(pre++a::l).set pre.length x=(pre++[x])++l:=by simp
    simp only[setA];rw[e,show pre.length+1=(pre++[x]).length by simp,ih (pre++[x]) l (by simpa using h)];simp
 simpa using key xs [] cs h
theorem FamW.fr{l:List q0f}{deps:List (List Nat)}{K:St→Prop}{σ:St}{c:Nat}{keys:List Nat}(hc:frOK c l deps ds keys=true)(s0:γ)(σ0:(Nat→Nat)→St)(hg:∀b0,GhoB b0 σ (σ0 b0))(hS:∀b0,j07 ds (σ0 b0))
  (hk:∀b0,∀t∈keys,(aget (σ0 b0).ρ t).isSome=true) (hH:∀b0,(σ0 b0).H=(0,X s0)::M)
  (h:∀b0,FR P X M ds c l [] s0 (σ0 b0) fun A s t τ=>q5m P t (fun τ'=>∃τ'',GhoB b0 τ' τ''∧K τ'') (z0q A (τ.at (X s) M))):FamW P l deps K σ:=by
 intro b0;obtain⟨es,e1,e2,e3⟩:=(h b0).out;rw[Zbe,Zbu]at e3;specialize hS b0;specialize hk b0;specialize hH b0;specialize hg b0;generalize σ0 b0=σ' at *;let K':St→Prop:=fun τ'=>∃τ'',GhoB b0 τ' τ''∧K τ''
 simp only[frOK,Zac,Zaj,Zcr,decide_eq_true_eq,Zca,Zbf]at hc;obtain⟨c1,c2,c3,c4⟩:=hc;have hdd:=j8a e2;rw[e1]at hdd;have hn:(es.map Ent.d).Nodup:=by rw[hdd];exact q8Y c1
 have hop:∀{i:Nat} {e:Ent γ},es[i]?=some e→∃o,l[i]?=some o∧j6m P X M ds o ((es.take i).foldl Ent.st s0) ((es.take i).foldl Ent.app σ') e:=fun hi=>e2.get hi
 have hlt:∀{i:Nat} {e:Ent γ},es[i]?=some e→i<c:=fun hi=>by rw[←e1];exact(Zab.1 hi).1
 have hds:∀e∈es,Ent.isA e=true→e.d∈ds:=fun e he hA=>by
  obtain⟨i,hi⟩:=Zap he;obtain⟨o,h1,h2⟩:=hop hi;cases e with
  |a d cs=>
   obtain rfl:o=_:=h2;have:=((c2 i (hlt hi)).2).1;rw[List.getD_eq_getElem?_getD,h1]at this;show d∈ds
   simpa[z1A]using this
  |v d z=>cases hA
  |p d s z=>cases hA
  |w k v=>cases hA
  |c s=>cases hA
 have hz:=j8b e2;have hwa':∀(i k:Nat) (v:D),es[i]?=some (.w k v)→∃j cs,es[j]?=some (.a k cs)∧j∈deps.getD i []∧j<i∧∃sz y,l[i]?=some ⟨none,.st sz (.t k) y,none⟩∧cs.length=sz:=fun i k v hi=>by
  obtain⟨o,h1,hkd,sz,y,rfl,h2,h3⟩:=hop hi;have hso:=((c2 i (hlt hi)).2).2.1;have e0:l.getD i default=⟨none,.st sz (.t k) y,none⟩:=by rw[List.getD_eq_getElem?_getD,h1];rfl
  rw[e0]at hso;simp only[stOK,Zdk.2 hkd,Bool.not_true,Bool.false_or,Zbg,Zac,decide_eq_true_eq]at hso;obtain⟨j,hj,hji,hb⟩:=hso;obtain⟨e',he'⟩:∃e',es[j]?=some e':=⟨es[j]'(by have:=hlt hi;omega),by have:=hlt hi;simp[e1,show j<c by omega]⟩;obtain⟨o',ho',hok'⟩:=hop he';rw[List.getD_eq_getElem?_getD,ho',Zbj]at hb;cases e' with
  |a d cs=>
   obtain rfl:o'=_:=hok';simp only[Zac,beq_iff_eq]at hb;obtain⟨rfl,hcs⟩:=hb;exact⟨j,cs,he',hj,hji,sz,y,h1,hcs⟩
  |v d z=>rcases hok' with⟨_,⟨v',rfl,_⟩|⟨f,xs,ys,r,rfl,_⟩⟩<;>cases hb
  |p d s z=>obtain⟨_,p,xs,rfl,_⟩:=hok';cases hb
  |w k' v'=>obtain⟨_,sz',y',rfl,_⟩:=hok';cases hb
  |c s'=>obtain⟨sz',k',y',_,rfl,_⟩:=hok';cases hb
 have hwa:∀(i k:Nat) (v:D),es[i]?=some (.w k v)→∃j cs,es[j]?=some (.a k cs)∧j<i:=fun i k v hi=>by
  obtain⟨j,cs,h1,_,h2,_⟩:=hwa' i k v hi;exact⟨j,cs,h1,h2⟩
 have hprim:∀{i j:Nat} {e e':Ent γ},es[i]?=some e→es[j]?=some e'→e.isP=true→e'.isP=true→j<i→((z92 deps).getD i []).contains j=true:=fun{i j e e'} hi hj hp hp' hji=>by
  obtain⟨o,h1,h2⟩:=hop hi;obtain⟨o',h1',h2'⟩:=hop hj;have:=((c2 i (hlt hi)).2).2.2 j hji;rw[List.getD_eq_getElem?_getD,List.getD_eq_getElem?_getD,h1,h1']at this;have q1:isPr ds o.op=true:=by
   cases e with
   |p d s z=>obtain⟨_,p,xs,rfl,_⟩:=h2;rfl
   |v d z=>cases hp
   |a d cs=>cases hp
   |w k v=>cases hp
   |c s=>obtain⟨sz,k,y,hk,rfl,_⟩:=h2;simp[isPr,hk]
  have q2:isPr ds o'.op=true:=by
   cases e' with
   |p d s z=>obtain⟨_,p,xs,rfl,_⟩:=h2';rfl
   |v d z=>cases hp'
   |a d cs=>cases hp'
   |w k v=>cases hp'
   |c s=>obtain⟨sz,k,y,hk,rfl,_⟩:=h2';simp[isPr,hk]
  simp only[Zbj,q1,q2,Bool.and_self,Bool.true_eq_false,false_or]at this;exact this
 refine⟨fun done τ=>z0N deps done∧(((∀j,c≤j→done j=false)∧FamU X M es σ' s0 done τ)∨∃k,(∀j,j<l.length→(done j=true↔j<c+k))∧q5m P ((l.drop c).drop k) K' τ),⟨σ',hg,fun i hi=>(by cases hi),.inl ⟨fun j _=>rfl,⟨fun j e z _ _ hj=>(by cases hj),fun t y ht _=>ht,fun k o hk=>hk,fun j d cs _ hj=>(by cases hj),by rw[z81];exact hH⟩⟩⟩,?_,?_⟩
 ·intro done τ i x ⟨hcl,halt⟩ hx hdi hdep;have hcl':z0N deps (fun k=>k==i || done k):=fun k hk j hj=>by
   by_cases hki:k=i
   ·subst hki;simp[hdep j hj]
   ·have:done k=true:=by simpa[hki]using hk
    simp[hcl k this j hj]
  have hclos:∀{j:Nat},((z92 deps).getD i []).contains j=true→j≠i→done j=true:=fun{j} hj hne=>by
   have:=q92 hcl' (i:=i) (j:=j) (by simp) hj;simpa[hne]using this
  have hil:i<l.length:=(Zab.1 hx).1;rcases Zbc i c with hic|hic
  ·rcases halt.symm with⟨k,hk1,_⟩|⟨hno,hU⟩
   ·have:=(hk1 i hil).2 (by omega);rw[hdi]at this;cases this
   obtain⟨e,he⟩:∃e,es[i]?=some e:=⟨es[i]'(by omega),by simp[e1,hic]⟩;have hem:=Zaa he;obtain⟨o,ho,hok⟩:=hop he;rw[hx]at ho;cases ho;have hno':∀j,c≤j→(fun k=>k==i || done k) j=false:=fun j hj=>by
    have:¬j=i:=by omega
    simp[this,hno j hj]
   have hcur:e.isP=false→curI es 0 (fun k=>k==i || done k) s0=curI es 0 done s0:=fun hp=>by
    refine q4P es 0 _ _ _ fun j e' hj hp'=>?_
    have:¬j=i:=fun e4=>by subst e4;rw[he]at hj;cases hj;rw[hp]at hp';cases hp'
    simp[this]
   have hreads:∀s∈rdsF ds x,τ.get s=((es.take i).foldl Ent.app σ').get s:=fun s hs=>by
    have:=(c2 i hic).1 s;rw[List.getD_eq_getElem?_getD,hx]at this;rcases this hs with h1|⟨h1,h2⟩
    ·obtain⟨j,hj,hb⟩:=Zbg.1 h1;simp only[Zac,decide_eq_true_eq,Zbf,beq_iff_eq]at hb;obtain⟨hji,hb1,hb2⟩:=hb;obtain⟨e',he'⟩:∃e',es[j]?=some e':=⟨es[j]'(by omega),by simp[e1,show j<c by omega]⟩;obtain⟨o',ho',hok'⟩:=hop he';rw[List.getD_eq_getElem?_getD,ho']at hb1 hb2;simp only[Zbj]at hb1 hb2;obtain⟨z,hz1,hz2⟩:∃z,e'.z?=some z∧e'.d=s:=by
      cases e' with
      |v d z=>rcases hok' with⟨_,⟨v,rfl,_⟩|⟨f,xs,ys,r,rfl,_⟩⟩<;>exact⟨z,rfl,Option.some.inj hb1⟩
      |p d s z=>obtain⟨_,p,xs,rfl,_⟩:=hok';exact⟨z,rfl,Option.some.inj hb1⟩
      |a d cs=>obtain rfl:o'=_:=hok';simp[z1A]at hb2
      |w k v=>obtain⟨_,sz,y,rfl,_⟩:=hok';cases hb1
      |c s=>obtain⟨sz,k,y,_,rfl,_⟩:=hok';cases hb1
     subst hz2;rw[q6B (hU.F j e' z he' hz1 (hdep j hj))];refine(q6B (z7r (es.take i) σ' (hn.sublist ((List.take_sublist i es).map _)) (Zaa (i:=j) ?_) hz1)).symm;rw[List.getElem?_take_of_lt hji];exact he'
    ·have h2':s∈keys:=by simpa using h2
     obtain⟨y,hy⟩:=Zdb.1 (hk s h2');have hne:∀e∈es,Ent.d e≠s:=fun e' he' e4=>by
      have:s∈es.map Ent.d:=Zak.2 ⟨e',he',e4⟩;rw[hdd]at this;simp[this]at h1
     rw[q6B (hU.B s y hy fun e' he' _=>hne e' he')];refine(q6B ?_).symm;rw[q9Y (es.take i) σ' fun e' he' _=>hne e' (Zcd he')];exact hy
   have hobj:∀r o,(((es.take i).foldl Ent.app σ').at (X (curI es 0 done s0)) M).obj r=some o→τ.obj r=some o:=fun r o hr=>by
    cases r with
    |l k=>
     have:aget ((es.take i).foldl Ent.app σ').L k=some o:=hr;rw[j3R]at this;exact hU.L k o this
    |x k=>show aget τ.H k=some o;rw[hU.H];exact hr
   refine⟨τ,.refl τ,.inl ?_⟩;cases e with
   |v d z=>
    have hst:FamU X M es σ' s0 (fun k=>k==i || done k) (τ.put d z):=by
     refine hU.step hn he hS hds hz (fun h4=>by cases h4) (fun t y ht _ _ hy=>?_) (fun z' hz'=>?_) (fun k o _ _ hk=>hk) rfl (fun _ _ h4=>by cases h4) (fun _ _ h4=>by cases h4) ?_
     ·simp only[St.put,q0A];rw[if_neg fun e4=>ht e4.symm];exact hy
     ·cases hz';simp[St.put,q0A,Ent.d]
     ·rw[hcur rfl];exact hU.H
    rcases hok with⟨_,⟨v,rfl,hv⟩|⟨f,xs,ys,r,rfl,rfl,hy,hP⟩⟩
    ·refine q8v (z9s (σ:=((es.take i).foldl Ent.app σ').at (X (curI es 0 done s0)) M) (fun s hs=>hreads s ?_) hobj (hv _)) ⟨hcl',.inl ⟨hno',hst⟩⟩;simp only[rdsF,q0f.reads,z0w,Zdc];exact hs
    ·refine j4i (ds:=ys) ?_ hP ⟨hcl',.inl ⟨hno',hst⟩⟩;rw[←hy,z7I fun s hs=>hreads s (by simpa[rdsF,q0f.reads,z0w]using hs)]
   |p d s' z=>
    obtain⟨⟨_,hmk0⟩,p,xs,rfl,hP⟩:=hok;have hdone:∀{j:Nat} {e':Ent γ},es[j]?=some e'→e'.isP=true→j≠i→(done j=true↔j<i):=fun{j e'} hj hp hne=>by
     constructor
     ·intro hdj;rcases Zbc j i with h4|h4
      ·exact h4
      ·have:=q92 hcl hdj (hprim hj he hp rfl (by omega));rw[hdi]at this;cases this
     ·intro hji;exact hclos (hprim he hj rfl hp hji) hne
    have hs1:curI es 0 done s0=(es.take i).foldl Ent.st s0:=by
     rw[←q7N es 0 i];refine q4P es 0 _ _ _ fun j e' hj hp=>?_
     simp only[Zaw]
     by_cases hji:j=i
     ·subst hji;simp[hdi]
     ·have:=hdone hj hp hji
      by_cases h5:j<i
      ·rw[this.2 h5];simp[h5]
      ·cases hb:done j with
       |true=>exact absurd (this.1 hb) h5
       |false=>simp[h5]
    have hs2:curI es 0 (fun k=>k==i || done k) s0=s':=by
     have h5:(es.take (i+1)).foldl Ent.st s0=s':=by
      rw[Zbd,he,List.foldl_append];rfl
     rw[←h5,←q7N es 0 (i+1)];refine q4P es 0 _ _ _ fun j e' hj hp=>?_
     simp only[Zaw]
     by_cases hji:j=i
     ·subst hji;simp
     ·have:=hdone hj hp hji;have h6:(j<i+1)↔j<i:=by omega
      by_cases h5:j<i
      ·rw[this.2 h5];simp[h6,h5]
      ·cases hb:done j with
       |true=>exact absurd (this.1 hb) h5
       |false=>simp[hji,h6,h5]
    refine q99 (hP d τ _ (z7I fun s hs=>hreads s (by simpa[rdsF,q0f.reads,z0w]using hs)) (by rw[hU.H,hs1]) fun τ3 q1 q2 q3 q4=>⟨hcl',.inl ⟨hno',?_⟩⟩);refine hU.step hn he hS hds hz (fun _=>hmk0) (fun t y ht h0 _ hy=>q1 t y ht (h0 rfl) hy) (fun z' hz'=>by cases hz';exact q2) (fun k o h0 _ hk=>q3 k o (h0 rfl) hk) rfl (fun _ _ h4=>by cases h4) (fun _ _ h4=>by cases h4) ?_;rw[hs2];exact q4
   |c s'=>
    obtain⟨sz,k,y,hkn,rfl,hP⟩:=hok;have hdone:∀{j:Nat} {e':Ent γ},es[j]?=some e'→e'.isP=true→j≠i→(done j=true↔j<i):=fun{j e'} hj hp hne=>by
     constructor
     ·intro hdj;rcases Zbc j i with h4|h4
      ·exact h4
      ·have:=q92 hcl hdj (hprim hj he hp rfl (by omega));rw[hdi]at this;cases this
     ·intro hji;exact hclos (hprim he hj rfl hp hji) hne
    have hs1:curI es 0 done s0=(es.take i).foldl Ent.st s0:=by
     rw[←q7N es 0 i];refine q4P es 0 _ _ _ fun j e' hj hp=>?_
     simp only[Zaw]
     by_cases hji:j=i
     ·subst hji;simp[hdi]
     ·have:=hdone hj hp hji
      by_cases h5:j<i
      ·rw[this.2 h5];simp[h5]
      ·cases hb:done j with
       |true=>exact absurd (this.1 hb) h5
       |false=>simp[h5]
    have hs2:curI es 0 (fun k=>k==i || done k) s0=s':=by
     have h5:(es.take (i+1)).foldl Ent.st s0=s':=by
      rw[Zbd,he,List.foldl_append];rfl
     rw[←h5,←q7N es 0 (i+1)];refine q4P es 0 _ _ _ fun j e' hj hp=>?_
     simp only[Zaw]
     by_cases hji:j=i
     ·subst hji;simp
     ·have:=hdone hj hp hji;have h6:(j<i+1)↔j<i:=by omega
      by_cases h5:j<i
      ·rw[this.2 h5];simp[h6,h5]
      ·cases hb:done j with
       |true=>exact absurd (this.1 hb) h5
       |false=>simp[hji,h6,h5]
    have hk:τ.get k=((es.take i).foldl Ent.app σ').get k:=hreads k (by simp[rdsF,hkn]);have hev:τ.ev y=((es.take i).foldl Ent.app σ').ev y:=by
     cases y with
     |t s=>exact hreads s (by simp[rdsF,q1H,hkn])
     |k z=>rfl
    obtain⟨τ3,t1,t2,t3,t4⟩:=hP τ hk hev (by rw[hU.H,hs1]);refine j5U t1 ⟨hcl',.inl ⟨hno',?_⟩⟩;refine⟨fun q e' z hq hz' hdq=>?_,fun t u ht hne=>?_,fun q o hq=>?_,fun q d' cs' hq hdq=>?_,?_⟩
    ·have:¬q=i:=fun e4=>by subst e4;rw[he]at hq;cases hq;cases hz'
     rw[t2];exact hU.F q e' z hq hz' (by simpa[this]using hdq)
    ·rw[t2];exact hU.B t u ht hne
    ·rw[t3];exact hU.L q o hq
    ·have hqi:¬q=i:=fun e4=>by subst e4;rw[he]at hq;cases hq
     have hdq':done q=true:=by simpa[hqi]using hdq
     obtain⟨b1,b2,b3⟩:=hU.A q d' cs' hq hdq';have hne2:∀(q2:Nat) (u:D),es[q2]?=some (.w d' u)→(q2==i || done q2)=done q2:=fun q2 u hq2=>by
      have:¬q2=i:=fun e4=>by subst e4;rw[he]at hq2;cases hq2
      simp[this]
     rw[t2,t3];exact⟨b1,fun hno2=>b2 fun q2 u hq2=>by rw[←hne2 q2 u hq2];exact hno2 q2 u hq2,fun q2 u hq2 hdq2=>b3 q2 u hq2 (by rw[←hne2 q2 u hq2];exact hdq2)⟩
    ·rw[hs2];exact t4
   |a d cs=>
    obtain rfl:x=_:=hok;refine j4h ⟨hcl',.inl ⟨hno',?_⟩⟩;refine hU.step hn he hS hds hz (fun h4=>by cases h4) (fun t y ht _ hA hy=>?_) (fun z' hz'=>by cases hz') (fun k o _ hA hk=>?_) rfl (fun d' cs' h4 q v hq=>?_) (fun d' cs' h4=>?_) ?_
    ·have hy':=q8t (hA rfl);simp only[newO,St.put,q0A,St.setObj,St.drop,q0p];rw[if_neg fun e4=>ht e4.symm,hy,Zav];exact congrArg some hy'
    ·obtain⟨h5,h6⟩:=hA rfl;simp only[newO,St.put,St.setObj,St.drop,q4c,q0p];rw[if_neg fun e4=>h6 e4.symm,hk,Zav];exact congrArg some h5
    ·cases h4;cases hdq:done q with
     |false=>rfl
     |true=>
      obtain⟨j,cs',hj,hjd,_⟩:=hwa' q d v hq;have:=z0T hn hj he rfl;subst this;rw[hcl q hdq j hjd]at hdi;cases hdi
    ·cases h4;constructor
     ·simp[newO,St.put,q0A]
     ·simp[newO,St.put,St.setObj,q4c]
    ·rw[hcur rfl];exact hU.H
   |w k v=>
    obtain⟨hkds0,sz,y,rfl,hy,hlen⟩:=hok;obtain⟨j,cs,hj,hjd,hji,sz',y',hx',hcs⟩:=hwa' i k v he;rw[hx]at hx';obtain⟨rfl,rfl⟩:sz'=sz∧y'=y:=by injection hx' with h4;injection h4 with _ h5 _;injection h5 with h6 _ h8;exact⟨h6.symm,h8.symm⟩
    have hjdone:=hdep j hjd;have huniq:∀(q:Nat) (u:D),es[q]?=some (.w k u)→q=i:=fun q u hq=>z0T hn hq he rfl
    obtain⟨a1,a2,a3⟩:=hU.A j k cs hj hjdone;have hLk:=a2 fun q u hq=>by rw[huniq q u hq];exact hdi
    have hev:τ.ev y'=.d v:=by
     rw[←hy];cases y' with
     |t s=>exact hreads s (by simp[rdsF,q1H,hkds0])
     |k z=>rfl
    have hk:τ.ev (.t k)=.ptr (.l k) 0:=q6B a1;have hst:stS τ sz' (τ.ev (.t k)) (τ.ev y')=some (τ.setObj (.l k) (.cells (v.cells.map .d))):=by
     rw[hk,hev];have ho:τ.obj (.l k)=some (.cells (cs.map nsD)):=hLk;have hfull:stD (cs.map nsD) 0 v.cells=v.cells.map .d:=j3n (by simp;omega);simp only[stS,ho,hfull];rw[if_pos ⟨hlen,by simp;omega⟩]
    refine j5U hst ⟨hcl',.inl ⟨hno',?_⟩⟩;have hLo:∀q,aget (τ.setObj (.l k) (.cells (v.cells.map .d))).L q=if k=q then some (.cells (v.cells.map .d))else aget τ.L q:=fun q=>by simp only[St.setObj,q4c]
    have hkds:k∈ds:=hds _ (Zaa hj) rfl;refine⟨fun q e' z hq hz' hdq=>?_,fun t u ht hne=>hU.B t u ht hne,fun q o hq=>?_,fun q d' cs' hq hdq=>?_,?_⟩
    ·have:¬q=i:=fun e4=>by subst e4;rw[he]at hq;cases hq;cases hz'
     exact hU.F q e' z hq hz' (by simpa[this]using hdq)
    ·rw[hLo,if_neg fun e4=>by subst e4;rw[hS.n _ hkds]at hq;cases hq];exact hU.L q o hq
    ·have hqi:¬q=i:=fun e4=>by subst e4;rw[he]at hq;cases hq
     have hdq':done q=true:=by simpa[hqi]using hdq
     obtain⟨b1,b2,b3⟩:=hU.A q d' cs' hq hdq';refine⟨b1,fun hno2=>?_,fun q2 u hq2 hdq2=>?_⟩
     ·have hkd:¬k=d':=fun e4=>by subst e4;have:=hno2 i v he;simp at this
      rw[hLo,if_neg hkd];exact b2 fun q2 u hq2=>by
       have h4:=hno2 q2 u hq2;simp only[Bool.or_eq_false_iff]at h4;exact h4.2
     ·have h4:=z0T hn hq2 he rfl;subst h4;rw[he]at hq2;cases hq2;rw[hLo,if_pos rfl]
    ·rw[hcur rfl];exact hU.H
  ·have hbelow:∀j,j<i→done j=true:=fun j hj=>by
    rcases c4 i hil with h4|h4
    ·omega
    ·exact hclos (h4 j hj) (by omega)
   have hgo:∀(k:Nat) (τ':St),i=c+k→(∀j,j<l.length→(done j=true↔j<c+k))→q5m P ((l.drop c).drop k) K' τ'→LOps P [x] (fun τ''=>z0N deps (fun k=>k==i || done k)∧(((∀j,c≤j→(fun k=>k==i || done k) j=false)∧FamU X M es σ' s0 (fun k=>k==i || done k) τ'')∨∃k,(∀j,j<l.length→((fun k=>k==i || done k) j=true↔j<c+k))∧q5m P ((l.drop c).drop k) K' τ'')) τ':=fun k τ' hik hd hl=>by
    have hcons:(l.drop c).drop k=x::(l.drop c).drop (k+1):=by
     rw[Zdm,Zdm,←hik,←Nat.add_assoc,←hik];have:=Zcz hil;rw[this];have h7:=Zab.1 hx;rw[h7.2]
    rw[hcons]at hl;refine q5R (fun τ'' h8=>⟨hcl',.inr ⟨k+1,fun j hj=>?_,h8⟩⟩) (j0n hl);simp only[Zca,beq_iff_eq];rw[hd j hj];omega
   rcases halt with⟨hno,hU⟩|⟨k,hk1,hk2⟩
   ·have hie:i=c:=by
     rcases Zbc c i with h4|h4
     ·have h5:=hbelow c h4;rw[hno c (Zal _)]at h5;cases h5
     ·omega
    refine⟨_,.wk (hU.fin hn hS e2 hds hwa fun j hj=>hbelow j (by omega)),.inl (hgo 0 _ hie (fun j hj=>?_) e3)⟩;constructor
    ·intro hdj;rcases Zbc j c with h4|h4
     ·omega
     ·rw[hno j h4]at hdj;cases hdj
    ·intro h4;exact hbelow j (by omega)
   ·refine⟨τ,.refl τ,.inl (hgo k τ ?_ hk1 hk2)⟩;rcases Nat.lt_trichotomy i (c+k)with h4|h4|h4
    ·have:=(hk1 i hil).2 h4;rw[hdi]at this;cases this
    ·exact h4
    ·have:=(hk1 (c+k) (by omega)).1 (hbelow _ h4);omega
 ·intro done τ hall ⟨_,halt⟩;rcases halt with⟨hno,hU⟩|⟨k,hk1,hk2⟩
  ·have hlen:l.length=c:=by
    rcases Zbc c l.length with h4|h4
    ·have:=hall c h4;rw[hno c (Zal _)]at this;cases this
    ·omega
   have hw:=hU.fin hn hS e2 hds hwa fun j hj=>hall j (by omega)
   rw[Zah (by omega)]at e3;obtain⟨τ'',g,hKk⟩:K' _:=e3;exact⟨τ'',(GhoB.wk hw).trans g,hKk⟩
  ·have:l.length≤c+k:=by
    rcases Zbc (c+k) l.length with h4|h4
    ·have:=(hk1 (c+k) h4).1 (hall _ h4);omega
    ·exact h4
   rw[Zah (by rw[Zby];omega)]at hk2;exact hk2
end Go.Av
/- Regions in any order: calls with one object and a row that may move; what freezes at their end. -/
namespace Go.Av
variable {P:Program} [Inv P] {γ:Type} {X:γ→AObj} {M:List (Nat×AObj)} {ds:List Nat}
def j5u(ds:List Nat)(σ:St):Bool:=(σ.ρ.all fun p=>q3Q ds p.2)&&((σ.L.all fun p=>q9M ds p.2)&&ds.all fun d=>(aget σ.L d).isNone)
theorem q8P{α:Type}:∀{l:List (Nat×α)} {s:Nat} {x:α},aget l s=some x→(s,x)∈l
 |(k,v)::r,s,x,h=>by
  simp only[aget]at h;split at h
  ·rename_i e;cases h;subst e;simp
  ·exact Zbp _ (q8P h)
theorem j07.of{σ:St}(h:j5u ds σ=true):j07 ds σ:=by
 simp only[j5u,Zac,Zaj,Option.isNone_iff_eq_none]at h;exact⟨fun t y ht=>h.1 _ (q8P ht),fun k o hk=>h.2.1 _ (q8P hk),h.2.2⟩
def j8i(keys:List Nat)(σ:St):Bool:=keys.all fun t=>(aget σ.ρ t).isSome
theorem q6J{l:List q0f}{deps:List (List Nat)}{k:List Item}{K:Exit→St→Prop}{σ:St}(X:γ→AObj)(M:List (Nat×AObj))(c:Nat)(keys ds:List Nat)(s0:γ)(hc:frOK c l deps ds keys=true)(hS:j5u ds σ=true)(hk:j8i keys σ=true)(hH:σ.H=(0,X s0)::M)
  (h:FR P X M ds c l [] s0 σ fun A s t τ=>OPS P t k K (z0q A (τ.at (X s) M))):RUN P (.fam l deps) k K σ:=
 FamW.fr hc s0 (fun _=>σ) (fun _=>.refl σ) (fun _=>.of hS) (fun _ t ht=>Zaj.1 hk t ht) (fun _=>hH) fun b0=>by
  have mono:∀(n:Nat) (l:List q0f) (A:List (Nat×List D×Option (List D))) (s:γ) (τ:St) (K1 K2:List (Nat×List D×Option (List D))→γ→List q0f→St→Prop),(∀A s t τ,K1 A s t τ→K2 A s t τ)→FR P X M ds n l A s τ K1→FR P X M ds n l A s τ K2:=by
   intro n;induction n with
   |zero=>intro l A s τ K1 K2 hK h;rw[j1V]at h ⊢;exact hK _ _ _ _ h
   |succ n ih=>
    intro l A s τ K1 K2 hK h;match l,h with
    |⟨some d,.val v,none⟩::l,⟨z,h1,h2,h3⟩=>exact⟨z,h1,h2,ih _ _ _ _ _ _ hK h3⟩
    |⟨some d,.call f xs,none⟩::l,⟨ys,r,h1,h2,h3⟩=>exact⟨ys,r,h1,h2,ih _ _ _ _ _ _ hK h3⟩
    |⟨some d,.prim p xs chk,none⟩::l,⟨h0,s',z,h1,h2,h3⟩=>exact⟨h0,s',z,h1,h2,ih _ _ _ _ _ _ hK h3⟩
    |⟨some d,.allo cs,none⟩::l,h=>exact ih _ (A++[(d,cs,none)]) _ _ _ _ hK h
    |⟨none,.st sz (.t k) y,none⟩::l,h=>
     rw[j6P]at h ⊢;cases hk:inN k ds with
     |true=>
      rw[hk]at h;obtain⟨v,h1,h2,h3⟩:=h;exact⟨v,h1,h2,ih _ _ _ _ _ _ hK h3⟩
     |false=>
      rw[hk]at h;obtain⟨s',h1,h3⟩:=h;exact⟨s',h1,ih _ _ _ _ _ _ hK h3⟩
  exact mono _ _ _ _ _ _ _ (fun A s t τ h=>q4B (fun τ' h'=>⟨τ',.refl τ',h'⟩) h) h
theorem j3l{l:List q0f}{deps:List (List Nat)}{k:List Item}{K:Exit→St→Prop}{σ:St}(X:γ→AObj)(M:List (Nat×AObj))(c:Nat)(keys ds:List Nat)(s0:γ)(σ0:(Nat→Nat)→St)(hg:∀b0,GhoB b0 σ (σ0 b0))(hc:frOK c l deps ds keys=true)(hS:∀b0,j5u ds (σ0 b0)=true)(hk:∀b0,j8i keys (σ0 b0)=true)(hH:∀b0,(σ0 b0).H=(0,X s0)::M)
  (h:∀b0,FR P X M ds c l [] s0 (σ0 b0) fun A s t τ=>OPS P t [] (fun _ τ'=>∃τ'',GhoB b0 τ' τ''∧POP P .normal k K τ'') (z0q A (τ.at (X s) M))):RUN P (.fam l deps) k K σ:=
 FamW.fr hc s0 σ0 hg (fun b0=>.of (hS b0)) (fun b0 t ht=>Zaj.1 (hk b0) t ht) hH h
theorem z9I{l:List q0f}{deps:List (List Nat)}{k:List Item}{K:Exit→St→Prop}{σ:St}(τ:St)(hw:Weak τ σ)(h:RUN P (.fam l deps) k K τ):RUN P (.fam l deps) k K σ:=fun b0=>by
 obtain⟨I,⟨τ0,g,h0⟩,h1,h2⟩:=h b0;exact⟨I,⟨τ0,(GhoB.wk hw.wk).trans g,h0⟩,h1,h2⟩
/-! ### Objects that a call with .x 0 takes as they are -/
theorem subM(o:AObj)(m:Option AObj):Sub ((0,o)::mob m) ((0,o)::mob m):=by
 cases m<;>simp[mob,Sub,aget]
structure PO(o:AObj):Prop where
 ren:o.ren [.x 0]=o
 wf:o.wfM 1=true
 no:o.q1y=true
theorem q0e.po{d:Option Nat}{f:LX}{args:List LX}{N:St→Prop}{σ:St}{g:FuncId}{first cap xs:List AV}{o o1:AObj}{m m1:Option AObj}{z:AV}(hf:σ.ev f=.fn (.func g) first cap)(hc:MVE P g xs [o] m z [o1] m1)(ho:PO o)(ho1:PO o1)(hm:rowM m=true)(hM:mob m=M)(hH:σ.H=(0,o)::M)
  (hx:q5q [] 0 (first++(evL σ args++cap))=renL [.x 0] xs) (hwx:labL 1 xs=true) (hz:(z.q1y=true∧z.q7d 1=true)∧z.ren [.x 0]=z)
  (hK:N (putO ⟨amap (AV.q5Y [.x 0]) (amap (AV.drop (.x 1000)) σ.ρ),amap (q0q (.x 1000)) σ.L,(0,o1)::mob m1⟩ d z)):q0e P d .call (f::args) N σ:=by
 have h0:σ.obj (.x 0)=some o:=by simp[St.obj,hH,aget]
 have h1:σ.obj (.x 1000)=m:=by
  simp only[St.obj,hH,aget,←hM];rw[if_neg (by decide)];cases m<;>rfl
 refine q0e.mvE (m1:=m1) [.x 0] hf hc hx hwx ⟨by rw[ho.ren];exact h0,trivial⟩ (by simp[wfMO,ho.wf]) rfl rfl h1 hm ⟨hz.1,by simp[q4M,ho1.wf,ho1.ren,ho1.no]⟩ ?_;rw[hz.2];have e:q9w σ.q3B [.x 0] [o1] m1=⟨amap (AV.q5Y [.x 0]) (amap (AV.drop (.x 1000)) σ.ρ),amap (q0q (.x 1000)) σ.L,(0,o1)::mob m1⟩:=by
  have e1:adel (amap (q0q (.x 1000)) σ.H) 1000=[(0,q0q (.x 1000) o)]:=by
   rw[hH,←hM];cases m<;>rfl
  simp only[q9w,q41,q5u,St.q3B,e1,ho1.ren];cases m1<;>rfl
 rw[e];exact hK
theorem q0e.poM{d:Option Nat}{f:LX}{args:List LX}{N:St→Prop}{σ:St}{g:FuncId}{first cap xs:List AV}{o o1:AObj}{m:Option AObj}{M:List (Nat×AObj)}{z:AV}(hf:σ.ev f=.fn (.func g) first cap)(hc:MVE P g xs [o] m z [o1] m)(ho:PO o)(ho1:PO o1)(hm:rowM m=true)(hM:mob m=M)(hH:σ.H=(0,o)::M)
  (hx:q5q [] 0 (first++(evL σ args++cap))=renL [.x 0] xs) (hwx:labL 1 xs=true) (hz:(z.q1y=true∧z.q7d 1=true)∧z.ren [.x 0]=z)
  (hK:N (putO ⟨amap (AV.q5Y [.x 0]) (amap (AV.drop (.x 1000)) σ.ρ),amap (q0q (.x 1000)) σ.L,(0,o1)::M⟩ d z)):q0e P d .call (f::args) N σ:=
 q0e.po hf hc ho ho1 hm hM hH hx hwx hz (by rw[hM];exact hK)
theorem q0e.poP{d:Option Nat}{f:LX}{args:List LX}{N:St→Prop}{σ:St}{g:FuncId}{first cap xs:List AV}{o:AObj}{m:Option AObj}{z:AV}{Post:AObj→Option AObj→Prop}(hf:σ.ev f=.fn (.func g) first cap)(hc:MV P g xs [o] m (fun r hs' m'=>r=z∧∃o',hs'=[o']∧Post o' m'))(ho:PO o)(hm:rowM m=true)(hM:mob m=M)(hH:σ.H=(0,o)::M)
  (hx:q5q [] 0 (first++(evL σ args++cap))=renL [.x 0] xs) (hwx:labL 1 xs=true) (hz:(z.q1y=true∧z.q7d 1=true)∧z.ren [.x 0]=z)
  (hK:∀o1 m1,Post o1 m1→PO o1∧N (putO ⟨amap (AV.q5Y [.x 0]) (amap (AV.drop (.x 1000)) σ.ρ),amap (q0q (.x 1000)) σ.L,(0,o1)::mob m1⟩ d z)):q0e P d .call (f::args) N σ:=by
 have h0:σ.obj (.x 0)=some o:=by simp[St.obj,hH,aget]
 have h1:σ.obj (.x 1000)=m:=by
  simp only[St.obj,hH,aget,←hM];rw[if_neg (by decide)];cases m<;>rfl
 refine q0e.mv [.x 0] hf hc hx hwx ⟨by rw[ho.ren];exact h0,trivial⟩ (by simp[wfMO,ho.wf]) rfl rfl h1 hm fun r hs' m1 ⟨e1,o1,e2,hp⟩=>?_
 subst e1;subst e2;obtain⟨ho1,hK⟩:=hK o1 m1 hp;refine⟨⟨hz.1,by simp[q4M,ho1.wf,ho1.ren,ho1.no]⟩,?_⟩;rw[hz.2];have e:q9w σ.q3B [.x 0] [o1] m1=⟨amap (AV.q5Y [.x 0]) (amap (AV.drop (.x 1000)) σ.ρ),amap (q0q (.x 1000)) σ.L,(0,o1)::mob m1⟩:=by
  have e1:adel (amap (q0q (.x 1000)) σ.H) 1000=[(0,q0q (.x 1000) o)]:=by
   rw[hH,←hM];cases m<;>rfl
  simp only[q9w,q41,q5u,St.q3B,e1,ho1.ren];cases m1<;>rfl
 rw[e];exact hK
theorem j0O{y:AV}(h:q9a y=true)(R:List Ref):(y.drop (.x 1000)).q5Y R=y:=by
 simp only[q9a,Zac,Zbf,Option.isNone_iff_eq_none]at h;rw[q8t h.2];cases y<;>first|rfl|(simp[AV.lab?]at h)
theorem j7z{o:AObj}(h:q9M [] o=true):q0q (.x 1000) o=o:=by
 cases o with
 |cells cs=>
  simp only[q9M,Zaj]at h;simp only[q0q];refine congrArg AObj.cells ((Zcj fun x hx=>?_).trans (List.map_id _));have:=z9R rfl (h x hx);simp only[q9a,Zac,Zbf]at this;exact q8t this.2
 |_=>rfl
theorem q3b.mve{τ:St}{s s':γ}{f:LX}{args:List LX}{g:FuncId}{first cap xs:List AV}{z:AV}{m:Option AObj}(hf:τ.ev f=.fn (.func g) first cap)(hM:mob m=M)(hc:MVE P g xs [X s] m z [X s'] m)(ho:PO (X s))(ho1:PO (X s'))(hm:rowM m=true)
  (hx:q5q [] 0 (first++(evL τ args++cap))=renL [.x 0] xs) (hwx:labL 1 xs=true) (hz:(z.q1y=true∧z.q7d 1=true)∧z.ren [.x 0]=z):q3b P X M .call (f::args) τ s s' z:=by
 intro d τ2 N hev hH hN;simp only[evL,Zcv]at hev;refine q0e.po (hev.1.trans hf) hc ho ho1 hm hM hH (by rw[hev.2];exact hx) hwx hz ?_;rw[hM];refine hN _ (fun t y ht h0 hy=>?_) ?_ (fun k o h0 hk=>?_) rfl
 ·simp only[putO,St.put,q0A];rw[if_neg fun e=>ht e.symm,q0p,q0p,hy,Zav,Zav,j0O h0]
 ·simp[putO,St.put,q0A]
 ·show aget (amap (q0q (.x 1000)) τ2.L) k=some o
  rw[q0p,hk,Zav,j7z h0]
theorem q3b.lookup{t kt e:TypeId}{kd:TypeDesc}{x i:LX}{τ:St}{s:γ}{ks vs:List D}{key zero:D}(hx:τ.ev x=.d (.map ks vs))(hi:τ.ev i=.d key)(ht:P.underlying t=some (.map kt e))(hkt:P.underlying kt=some kd)
  (hkey:q0Y kd key=true) (hks:∀k∈ks,q0Y kd k=true) (hz:Program.zeroOf P e=some zero):q3b P X M (.lookup t true) [x,i] τ s s (.tuple [.d ((q3g ks vs key).getD zero),.d (.bool (q3g ks vs key).isSome)]):=by
 intro d τ2 N hev hH hN;simp only[evL,Zcv,and_true]at hev;refine q0e.lookup (hev.1.trans hx) (hev.2.trans hi) ht hkt hkey hks hz (hN _ (fun t y ht h0 hy=>?_) ?_ (fun k o h0 hk=>hk) hH)
 ·simp only[St.put,q0A];rw[if_neg fun e=>ht e.symm];exact hy
 ·simp[St.put,q0A]
/-! ### A pointer to the object as data, and back -/
theorem GhoB.j5r{b0:Nat→Nat}{σ:St}{ρ:List (Nat×AV)}(h:∀(G:q0x) (w:World),G.b (.x 0)=b0 0→∀(t:Nat) (y:AV),aget ρ t=some y→∃x,aget σ.ρ t=some x∧∀v,AVR G w x v→AVR G w y v):GhoB b0 σ ⟨ρ,σ.L,σ.H⟩:=fun E n G ts w hb hs=>by
 have h0:G.b (.x 0)=b0 0:=by rw[hs.ext0 0 (by decide),hb]
 refine⟨G,{ hs with slot:=fun t y ht=>?_,obj:=fun r o ho=>hs.obj r o ?_,objf:=fun r o ho=>hs.objf r o ?_,inj:=fun r r' o o' ho ho'=>hs.inj r r' o o' ?_ ?_,lamObj:=fun q v e sz b h1 h2 r o ho=>hs.lamObj q v e sz b h1 h2 r o ?_,newObj:=fun r o ho=>hs.newObj r o ?_,own0:=fun r cs x s ho=>hs.own0 r cs x s ?_ }⟩
 ·obtain⟨x,h1,h2⟩:=h G w h0 t y ht;exact h2 _ (hs.slot t x h1)
 all_goals first
  |(cases r<;>first|exact ho|exact ho')
  |(cases r'<;>exact ho')
  |exact ho
theorem j3T{G:q0x}{w:World}{b0:Nat→Nat}(h:G.b (.x 0)=b0 0)(off:Nat)(v:Value)(hv:AVR G w (.ptr (.x 0) off) v):AVR G w (.d (.addr (at_ (b0 0) off))) v:=by
 cases hv;rw[h];exact .d _ _ (.addr _)
theorem z7u{G:q0x}{w:World}{b0:Nat→Nat}(h:G.b (.x 0)=b0 0)(off:Nat)(v:Value)(hv:AVR G w (.d (.addr (at_ (b0 0) off))) v):AVR G w (.ptr (.x 0) off) v:=by
 have h2:=hv.dinv;cases h2;rw[←h];exact .ptr _ _
/-! ### What a walk rewrites by -/
theorem j5v{ds:List Nat}{n c:Nat}:q3Q ds (.rs (.x 1000) n c)=inN 999998 ds:=by
 have h:∀d,(Ref.x 1000==Ref.l d)=false:=fun d=>rfl
 cases h2:inN 999998 ds<;>simp[q3Q,q9a,AV.lab?,AV.has,h,h2]
theorem j5w{ds:List Nat}{n:Nat}:q3Q ds (.ptr (.x 1000) n)=inN 999998 ds:=by
 have h:∀d,(Ref.x 1000==Ref.l d)=false:=fun d=>rfl
 cases h2:inN 999998 ds<;>simp[q3Q,q9a,AV.lab?,AV.has,h,h2]
theorem j7A{ds:List Nat}{x:D}:q3Q ds (.d x)=true:=by simp[q3Q,q9a,AV.lab?,AV.has]
theorem j0N{ds:List Nat}{x:List D}:q3Q ds (.dptr x)=true:=by simp[q3Q,q9a,AV.lab?,AV.has]
theorem j7C{ds:List Nat}{o:Nat}:q3Q ds (.ptr (.x 0) o)=true:=by simp[q3Q,q9a,AV.lab?,AV.has]
theorem j9G{k d:Nat}:((Ref.l k:Ref)==Ref.l d)=(k==d):=by
 by_cases h:k=d
 ·subst h;simp
 ·have h2:¬Ref.l k=Ref.l d:=fun e=>h (by injection e)
  rw[beq_eq_false_iff_ne.2 h2,beq_eq_false_iff_ne.2 h]
theorem j7B{ds:List Nat}{k o:Nat}:q3Q ds (.ptr (.l k) o)=ds.all fun d => !(k==d):=by
 have h1:(Ref.l k==Ref.x 1000)=false:=rfl;have h2:∀b,cond b true true=true:=fun b=>by cases b<;>rfl
 simp only[q3Q,q9a,AV.lab?,AV.has,j9G,h1,Zcl,Bool.not_false,Zci,h2]
theorem z8F{ds:List Nat}{a b:D}:q3Q ds (.tuple [.d a,.d b])=true:=by simp[q3Q,q9a,AV.lab?,AV.has,AV.q6P]
attribute [go_sem] j6S z9b cond_true cond_false j79 j6O j6P j1V z2U setW Option.none_or List.map_cons List.map_nil St.at j5v j5w j7A j0N j7C j7B z8F z0q forall_const exists_eq_left' List.all_cons List.all_nil
end Go.Av
/- A local object of data that is not written any more: a pointer to it is data. -/
namespace Go.Av
variable {E:Entry} {n:Nat} {G:q0x} {σ:St} {ts:Array Value} {w:World}
def AV.frzP(a:Nat)(fs:List D):AV→AV
 |.ptr r off=>if r=.l a then(if off=0 then .d (.pto fs)else .junk)else .ptr r off
 |x=>x
def z1M(a:Nat)(fs:List D):AObj→AObj
 |.cells cs=>.cells (cs.map (AV.frzP a fs))
 |o=>o
def St.frzP(σ:St)(a:Nat)(fs:List D):St:={ ρ:=amap (AV.frzP a fs) σ.ρ,L:=adel (amap (z1M a fs) σ.L) a,H:=amap (z1M a fs) σ.H }
theorem St.j4N(σ:St)(a:Nat)(fs:List D)(r:Ref){o:AObj}(h:(σ.frzP a fs).obj r=some o):r≠.l a∧∃o',σ.obj r=some o'∧o=z1M a fs o':=by
 cases r with
 |x t=>
  simp only[St.frzP,St.obj,q0p]at h;cases hx:aget σ.H t with
  |none=>simp[hx]at h
  |some o'=>simp[hx]at h;exact⟨by simp,o',hx,h.symm⟩
 |l t=>
  simp only[St.frzP,St.obj,q0O,q0p]at h;split at h
  ·cases h
  ·rename_i hne;cases hx:aget σ.L t with
   |none=>simp[hx]at h
   |some o'=>simp[hx]at h;exact⟨by simp;omega,o',hx,h.symm⟩
theorem ptoR(h:SR E n G σ ts w){a:Nat}{fs:List D}(ho:σ.obj (.l a)=some (.cells (fs.map .d))):RD (updf G.f (G.b (.l a)) fs.length) w (.pto fs) (.pointer (some (at_ (G.b (.l a)) 0))):=by
 obtain⟨arr,el,h1,h2,h3⟩:=h.obj _ _ ho;rw[Zas]at h2;have hf0:=h.objf _ _ ho;have hext:Ext G.f w (updf G.f (G.b (.l a)) fs.length) w:=⟨Zal _,fun b=>by
  by_cases e:b=G.b (.l a)
  ·rw[e,hf0];exact Zar _
  ·rw[q0U _ _ e];exact Zal _,fun _ _ _=>rfl,fun _ _ _ _ h=>h⟩
 have hcell:∀(i:Nat) (d:D),fs[i]?=some d→RD G.f w d (arr.getD i undef)∧(arr.getD i undef).oneCell'=true:=fun i d hd=>by
  obtain⟨g1,g2,_⟩:=h3 i (.d d) (by rw[Zae,hd];rfl);exact⟨g1.dinv,g2⟩
 refine .pto fs (G.b (.l a)) 0 (fun i=>arr.getD i undef) (by rw[q0V];omega) (fun i hi=>?_) (fun e he=>?_) (fun i d hd=>(hcell i d hd).1.ext hext)
 ·rw[Zaw,cell_of_heap h1];have:i<arr.size:=by omega
  simp[this]
 ·obtain⟨i,hi⟩:=Zap he;obtain⟨g1,g2⟩:=hcell i e hi;exact g1.z6V g2
theorem AV.j4l(a:Nat)(fs:List D)(r:Ref){x:AV}(h:x.has r=false):(x.frzP a fs).has r=false:=by
 cases x with
 |ptr r' off=>
  simp only[AV.frzP];split
  ·split<;>rfl
  ·exact h
 |_=>exact h
theorem SR.frzP(h:SR E n G σ ts w){a:Nat}{fs:List D}(ho:σ.obj (.l a)=some (.cells (fs.map .d))):
  SR E n { G with f:=updf G.f (G.b (.l a)) fs.length } (σ.frzP a fs) ts w:=by
 have hl:=ptoR h ho;have hwk:Wk { σ with L:=adel σ.L a } σ:=⟨fun _ _ h=>h,fun r o hr=>by
  cases r with
  |x t=>exact hr
  |l k=>
   simp only[St.obj,q0O]at hr;split at hr
   ·cases hr
   ·exact hr⟩
 have h1:=h.wk hwk;have hf0:G.f (G.b (.l a))=0:=h.objf _ _ ho;have hlt:=(h.obj _ _ ho).lt;have h2:SR E n { G with f:=updf G.f (G.b (.l a)) fs.length } { σ with L:=adel σ.L a } ts w:=by
  refine h1.z1I (fun b=>b=G.b (.l a)) (fun b hb=>?_) ⟨Zal _,fun b=>?_,fun b i hi=>rfl,fun _ _ _ _ h=>h⟩ (fun b hb hx=>⟨rfl,q0U _ _ hx⟩) (fun b hb=>?_) rfl rfl rfl
  ·subst hb;refine⟨fun r o hr e=>?_,fun q v p hq hv=>?_,h.newObj _ _ ho⟩
   ·have:=h.inj r (.l a) o _ (hwk.obj r o hr) ho e;subst this;simp[St.obj,q0O]at hr
   ·obtain⟨e,sz⟩:=p;exact h.lamObj q v e sz _ hq hv _ _ ho rfl
  ·by_cases e:b=G.b (.l a)
   ·rw[e,hf0];exact Zar _
   ·rw[q0U _ _ e];exact Zal _
  ·have:b≠G.b (.l a):=fun e=>by rw[e]at hb;omega
   rw[q0U _ _ this];exact h.top b hb
 have hfz:∀{x:AV} {v:Value},AVR { G with f:=updf G.f (G.b (.l a)) fs.length } w x v→AVR { G with f:=updf G.f (G.b (.l a)) fs.length } w (x.frzP a fs) v:=fun{x v} hx=>by
  cases x with
  |ptr r off=>
   simp only[AV.frzP];split
   ·rename_i e;subst e;split
    ·rename_i e;subst e;cases hx;exact .d _ _ hl
    ·exact .junk _
   ·exact hx
  |_=>exact hx
 have hob:∀r o,(σ.frzP a fs).obj r=some o→∃o',St.obj { σ with L:=adel σ.L a } r=some o'∧o=z1M a fs o':=fun r o hr=>by
  obtain⟨g1,o',g2,g3⟩:=σ.j4N a fs r hr;refine⟨o',?_,g3⟩;cases r with
  |x t=>exact g2
  |l k=>
   simp only[St.obj,q0O];rw[if_neg (fun e=>g1 (by rw[e]))];exact g2
 refine{ h2 with slot:=fun s x hx=>?_,obj:=fun r o hr=>?_,objf:=fun r o hr=>?_,inj:=fun r r' o o' hr hr' hb=>?_,lamObj:=fun q v e sz b h1 h3 r o hr=>?_,newObj:=fun r o hr=>?_,own0:=fun r cs x s hr hx=>?_ }
 ·simp only[St.frzP,q0p]at hx;cases hy:aget σ.ρ s with
  |none=>simp[hy]at hx
  |some y=>
   simp[hy]at hx;subst hx;exact hfz (h2.slot s y hy)
 ·obtain⟨o',g1,rfl⟩:=hob r o hr;have g2:=h2.obj r o' g1;cases o' with
  |cells cs=>
   obtain⟨arr,el,k1,k2,k3⟩:=g2;refine⟨arr,el,k1,by rw[k2,Zas],fun i x hi=>?_⟩;rw[Zae]at hi;cases hy:cs[i]? with
   |none=>simp[hy]at hi
   |some y=>
    simp[hy]at hi;subst hi;obtain⟨m1,m2,m3,m4⟩:=k3 i y hy;refine⟨hfz m1,m2,fun q hq=>?_,fun e he=>?_⟩
    ·cases y with
     |ptr r' off=>
      simp only[AV.frzP]at hq;split at hq
      ·split at hq<;>cases hq
      ·cases hq
     |_=>exact m3 q hq
    ·cases y with
     |ptr r' off=>
      simp only[AV.frzP]at he;split at he
      ·split at he<;>cases he
      ·cases he
     |_=>exact m4 e he
  |_=>exact g2
 ·obtain⟨o',g1,_⟩:=hob r o hr;exact h2.objf r o' g1
 ·obtain⟨o1,g1,_⟩:=hob r o hr;obtain⟨o2,g2,_⟩:=hob r' o' hr';exact h2.inj r r' o1 o2 g1 g2 hb
 ·obtain⟨o',g1,_⟩:=hob r o hr;exact h2.lamObj q v e sz b h1 h3 r o' g1
 ·obtain⟨o',g1,_⟩:=hob r o hr;exact h2.newObj r o' g1
 ·obtain⟨o',g1,g2⟩:=hob _ _ hr;cases o' with
  |cells cs'=>
   simp only[z1M,AObj.cells.injEq]at g2;subst g2;obtain⟨y,hy,rfl⟩:=Zak.1 hx;exact AV.j4l _ _ _ (h2.own0 r cs' y s g1 hy)
  |_=>simp[z1M]at g2
theorem GhoB.frzP{b0:Nat→Nat}{a:Nat}{fs:List D}(ho:σ.obj (.l a)=some (.cells (fs.map .d))):GhoB b0 σ (σ.frzP a fs):=fun _ _ _ _ _ _ h=>⟨_,h.frzP ho⟩
end Go.Av
/- A new slice of zeros as data; what leaves objects with no local rows as they are. -/
namespace Go.Av
variable {P:Program} [Inv P]
theorem z6r{a:Nat}{fs:List D}{c:Nat}{x:AV}(h:x.has (.l a)=false):x.frzL a fs c=x:=by
 cases x with
 |rs r n c'=>
  simp only[AV.has,beq_eq_false_iff_ne,ne_eq]at h;simp only[AV.frzL];rw[if_neg h]
 |_=>rfl
theorem z0d(r:Ref)(x:AV):(x.drop r).has r=false:=by
 unfold AV.drop;split
 ·rfl
 ·rename_i h;simpa using h
theorem j0e{a:Nat}{fs:List D}{c:Nat}(o:AObj):z0b a fs c (q0q (.l a) o)=q0q (.l a) o:=by
 cases o with
 |cells cs=>
  simp only[q0q,z0b,List.map_map];refine congrArg AObj.cells (Zcj fun x _=>?_);exact z6r (z0d _ x)
 |_=>rfl
def j2G(H:List (Nat×AObj)):Prop:=∀p∈H,p.2.q1y=true
theorem z7R{a:Nat}{fs:List D}{c:Nat}{o:AObj}(h:o.q1y=true):z0b a fs c o=o:=by
 cases o with
 |cells cs=>
  simp only[AObj.q1y,q6l]at h;simp only[z0b];refine congrArg AObj.cells ((Zcj fun x hx=>?_).trans (List.map_id _));have:=h x hx;cases x with
  |rs r n c'=>
   cases r with
   |l k=>simp only[AV.q1y,AV.q9l]at this;simp[isLocal]at this
   |x k=>rfl
  |_=>rfl
 |_=>rfl
theorem z2l{a:Nat}{fs:List D}{c:Nat}:∀{H:List (Nat×AObj)},j2G H→amap (z0b a fs c) H=H
 |[],_=>rfl
 |(k,o)::H,h=>by
  simp only[amap,z7R (h (k,o) (by simp)),z2l (H:=H) fun p hp=>h p (by simp[hp])]
theorem z0r{o:AObj}{m:Option AObj}{M:List (Nat×AObj)}(ho:o.q1y=true)(hm:rowM m=true)(hM:mob m=M):j2G ((0,o)::M):=by
 subst hM;intro p hp;cases m with
 |none=>simp[mob]at hp;subst hp;exact ho
 |some o'=>
  simp[mob]at hp;rcases hp with rfl|rfl
  ·exact ho
  ·obtain⟨cs,rfl,hd⟩:=z0y hm;simp only[AObj.q1y,q6l];intro x hx;rcases hd x hx with⟨d,rfl⟩|rfl<;>rfl
theorem q0e.mkData{σ:St}{d n by_:Nat}{t e:TypeId}{l c:LX}{K:St→Prop}{z:D}{zv:Value}(r:Nat)(hl:σ.ev l=.d (.int .i64 (n:Nat)))(hc:σ.ev c=.d (.int .i64 (n:Nat)))(hsl:q3V P t=some (e,1,by_))
  (hz:(P.info? e).bind (·.zero)=some zv) (hzc:zv.cells = #[zv]) (hz1:zv.oneCell'=true) (hr:∀f w,RD f w z zv) (hn:n≤1000000) (hb:by_≤1000) (hone:z.cells=[z]) (hH:j2G σ.H)
  (hK:K (St.put ⟨(σ.drop r).ρ,adel (σ.drop r).L r,σ.H⟩ d (.d (.list (List.replicate n z))))):q0e P (some d) (.mkSlice t) [l,c] K σ:=by
 refine q0e.ghost (q0e.j8s (r:=r) hl hc hsl hz hzc hz1 hr hn hb ⟨_,Gh.trans (Gh.frzL (a:=r) (sz:=1) (fs:=List.replicate n z) (c:=n) ?_ (fun y hy=>by rw[(Zcy.1 hy).2,hone];rfl) (by simp)) (Gh.wk ⟨fun t x hx=>?_,fun q o ho=>?_⟩),hK⟩)
 ·rw[St.z5x,St.q0X,if_pos rfl];have:∀k,(List.replicate k z).flatMap D.cells=List.replicate k z:=fun k=>by
   induction k with
   |zero=>rfl
   |succ k ih=>rw[List.replicate_succ,List.flatMap_cons,ih,hone];rfl
  simp[rowC,this]
 ·simp only[St.put,q0A]at hx;simp only[St.frzL,St.put,q0p,q0A];split
  ·rename_i e;rw[if_pos e]at hx;cases hx;simp[AV.frzL]
  ·rename_i e;rw[if_neg e]at hx;have h1:((σ.drop r).setObj (.l r) (.cells (List.replicate n (.d z)))).ρ=(σ.drop r).ρ:=rfl;rw[h1,hx,Zav];simp only[St.drop,q0p]at hx;cases hy:aget σ.ρ t with
   |none=>simp[hy]at hx
   |some y=>
    simp[hy]at hx;subst hx;rw[z6r (z0d _ y)]
 ·cases q with
  |x k=>
   show aget (amap (z0b r (List.replicate n z) n) σ.H) k=some o
   rw[z2l hH];exact ho
  |l k=>
   have ho':aget (adel (σ.drop r).L r) k=some o:=ho;rw[q0O]at ho';split at ho'
   ·cases ho'
   ·rename_i hne;show aget (adel (amap (z0b r (List.replicate n z) n) (aset (σ.drop r).L r (.cells (List.replicate n (.d z))))) r) k=some o
    rw[q0O,if_neg hne,q0p,q4c,if_neg hne,ho',Zav];simp only[St.drop,q0p]at ho';cases hy:aget σ.L k with
    |none=>simp[hy]at ho'
    |some y=>
     simp[hy]at ho';subst ho';rw[j0e]
theorem z7S{a:Nat}{fs:List D}{o:AObj}(h:o.q1y=true):z1M a fs o=o:=by
 cases o with
 |cells cs=>
  simp only[AObj.q1y,q6l]at h;simp only[z1M];refine congrArg AObj.cells ((Zcj fun x hx=>?_).trans (List.map_id _));have:=h x hx;cases x with
  |ptr r n=>
   cases r with
   |l k=>simp only[AV.q1y,AV.q9l]at this;simp[isLocal]at this
   |x k=>rfl
  |_=>rfl
 |_=>rfl
theorem z35{a:Nat}{fs:List D}:∀{H:List (Nat×AObj)},j2G H→amap (z1M a fs) H=H
 |[],_=>rfl
 |(k,o)::H,h=>by
  simp only[amap,z7S (h (k,o) (by simp)),z35 (H:=H) fun p hp=>h p (by simp[hp])]
theorem GhoB.j8c{b0:Nat→Nat}{σ:St}(a:Nat)(fs:List D)(ho:σ.obj (.l a)=some (.cells (fs.map .d)))(hH:j2G σ.H):GhoB b0 σ ⟨amap (AV.frzP a fs) σ.ρ,adel (amap (z1M a fs) σ.L) a,σ.H⟩:=by
 have h:=GhoB.frzP (b0:=b0) ho;simp only[St.frzP,z35 hH]at h;exact h
end Go.Av
/- Appending to the row that may come to stand elsewhere. -/
namespace Go.Av
variable {P:Program} [Inv P]
theorem q0e.appX{d t tx e sz by_ c:Nat}{s x:LX}{N:St→Prop}{σ:St}{fs ys:List D}(hsl:q3V P t=some (e,sz,by_))(hz:q9N P e=true)(htx:isSl P tx=true)
  (hs:((σ.ev s=.ns∨s=.k (.d (.list [])))∧fs=[])∨(σ.ev s=.rs (.x 1000) fs.length c∧σ.obj (.x 1000)=some (.cells (rowC sz fs c))∧fs.length≤c∧c≤maxLen))
  (hx:σ.ev x=.d (.list ys)∨∃q e',σ.ev x=.own q e' sz ys) (hys:ys≠[]) (hyc:∀y∈ys,y.cells.length=sz) (hfs:∀y∈fs,y.cells.length=sz) (hb:fs.length+ys.length≤maxLen∧(fs.length+ys.length)*by_≤140737488355328)
  (hK:∀c',fs.length+ys.length≤c'→c'≤maxLen→N ((σ.q3B.setObj (.x 1000) (.cells (rowC sz (fs++ys) c'))).put d (.rs (.x 1000) (fs.length+ys.length) c'))):
  q0e P (some d) (.bi .append [t,tx]) [s,x] N σ:=by
 intro E _ n G a w o os hp hl hdst hdn h;obtain⟨al,tt,hop,htt,rfl⟩:=z4D hp;obtain⟨S,X,hS,hX,he⟩:∃S X,al.toList=[S,X]∧q1q S=some s∧q1q X=some x:=by
  match has:al.toList,hl with
  |[S,X],hl=>
   obtain⟨u,v,h1,h2,h3⟩:=z4t hl;cases h3;exact⟨S,X,rfl,h1,h2⟩
  |[],hl=>simp[q27]at hl
  |[S],hl=>simp only[q27]at hl;split at hl<;>simp at hl;rename_i h2;cases h2;simp at hl
  |S::X::Y::r,hl=>
   simp only[q27]at hl;split at hl
   ·rename_i h1 h2;split at h2
    ·rename_i h3 h4;split at h4
     ·cases h4;cases h2;simp at hl
     ·cases h4
    ·cases h2
   ·cases hl
 have has:al = #[S,X]:=by apply Zcm;exact hS
 have htt':tt = #[t,tx]:=by apply Zcm;exact htt
 subst has;subst htt';obtain⟨i,ht,hi,rfl,rfl⟩:=z0Z hsl;obtain⟨i',z,hi',hz1,hz2,hz3⟩:=z3E hz;rw[hi]at hi';cases hi';obtain⟨e',hk⟩:=z9c htx;have rs:=h.ev hX;have rx0:=h.ev he;have rx:RD G.f w (.list ys) (a.eval X):=by
  rcases hx with hx|⟨q,e2,hx⟩
  ·rw[hx]at rx0;exact rx0.dinv
  ·rw[hx]at rx0;generalize hv:a.eval X=v at rx0;cases rx0 with
   |own _ _ _ _ _ hq hv hc=>exact hv
 obtain⟨news,hsd⟩:=SrcD.ofList (P:=P) hk rx hyc;have hyl:0<ys.length:=Zcw.2 hys
 -- the row al it is owned
 have hrow:∃el xs,w.ownsRow 0 el i.size (a.eval S) fs.length xs∧q9S w (a.eval S)∧(∀(j:Nat) (y:D),(fs.flatMap D.cells)[j]?=some y→RD G.f w y (xs.getD j undef))∧RowX G σ (a.eval S):=by
  rcases hs with⟨hs|hs,rfl⟩|⟨hs,ho,hc1,hc2⟩
  rotate_left
  ·subst hs;have hv:a.eval S=.slice none 0 0:=by
    rw[z9p hX];rfl
   rw[hv];exact⟨e,[],World.ownsRow_nil w 0 e i.size,(fun b _ _ _ hb=>by cases hb),(fun j y hy=>by simp at hy),.inl rfl⟩
  rotate_left
  ·rw[hs]at rs;generalize hv:a.eval S=v at rs;cases rs;exact⟨e,[],World.ownsRow_nil w 0 e i.size,(fun b _ _ _ hb=>by cases hb),(fun j y hy=>by simp at hy),.inl rfl⟩
  ·rw[hs]at rs;generalize hv:a.eval S=v at rs;cases rs;obtain⟨el,xs,g1,g2,g3⟩:=h.j7n ho hfs ⟨hc1,hc2⟩;exact⟨el,xs,g1,g2,g3,.inr ⟨_,_,_,ho,rfl⟩⟩
 obtain⟨el,xs,g1,g2,g3,g4⟩:=hrow;obtain⟨v',w',el',r1,r2,r3,r4⟩:=q9n w t tx o.type e el i z ht hi hz1 hz2 (a.eval S) fs.length xs g1 (a.eval X) ys.length news hsd.src hb.1 hb.2 (by omega) g2 hz3;have hr3:Grow w w' (a.eval S) v' 0:={ r3 with cells:=fun b hb j hj=>by omega };have hfy:∀y∈fs++ys,y.cells.length=i.size:=fun y hy=>by
  rcases Zbb.1 hy with hy|hy
  ·exact hfs y hy
  ·exact hyc y hy
 have hxl:xs.length=fs.length*i.size:=g1.1;have hf0:∀b,(a.eval S).ownBlock=some b→G.f b=0:=fun b hb=>by
  rcases g4 with hn|⟨o,k,c,h2,hn⟩
  ·rw[hn]at hb;cases hb
  ·rw[hn]at hb;simp[Value.ownBlock,at_]at hb;subst hb;exact h.objf _ _ h2
 have hext:Ext G.f w G.f w':=⟨r3.size,fun _=>Zal _,fun b j hj=>by
  by_cases hb:(a.eval S).ownBlock=some b
  ·rw[hf0 b hb]at hj;omega
  ·have hlt:b<w.heap.size:=by
    rcases Zbc b w.heap.size with h2|h2
    ·exact h2
    ·rw[h.top b h2]at hj;omega
   simp only[World.cell?,at_];rw[r3.block b hlt hb],fun b es c hb hm=>by rw[r3.block b (Zat.1 hm).1 (fun e=>by rw[hf0 b e]at hb;omega)];exact hm⟩
 have hrd:∀(j:Nat) (y:D),((fs++ys).flatMap D.cells)[j]?=some y→RD G.f w' y ((xs++news).getD j undef):=fun j y hy=>by
  rw[Zde]at hy;have hfl:=q0G hfs
  by_cases hj:j<fs.length*i.size
  ·rw[Zag (by omega)]at hy;rw[List.getD_eq_getElem?_getD,Zag (by omega),←List.getD_eq_getElem?_getD];exact(g3 j y hy).ext hext
  ·rw[Zao (by omega),hfl]at hy;rw[List.getD_eq_getElem?_getD,Zao (by omega),←List.getD_eq_getElem?_getD,hxl];obtain⟨k,jj,f,h1,h2,h3,h4⟩:=z47 hyc hy;rw[h3];exact(hsd.rd k f jj y h1 h2).ext hext
 obtain⟨b,c',q1,q2,rfl,q3⟩:=h.j80 g4 hr3 r2 (by omega) r4 (by simp) hfy hrd;refine .inl ⟨.slice (some (at_ b 0)) (fs.length+ys.length) c',w',?_,{ G with b:=updf G.b (.x 1000) b },_,⟨trivial,hK c' q1 q2⟩,?_⟩
 ·simp only[execOp,hop,resolve,invoke,builtin,Sem.run_bind,Sem.run_pure,Result.andThen_ok,List.map_toArray,Zai,Zbe];rw[r1];rfl
 ·have hput:=q3.put (s:=d) (x:=.rs (.x 1000) (fs.length+ys.length) c') (v:=.slice (some (at_ b 0)) (fs.length+ys.length) c') (by
   have:=AVR.rs (G:={ G with b:=updf G.b (.x 1000) b }) (w:=w') (.x 1000) (fs.length+ys.length) c';simpa[q0V]using this) (by simpa[q6z]using hdn)
  simpa[Act.put]using hput
/-! ### A row that gets shorter -/
theorem SR.jnk{E:Entry}{n:Nat}{G:q0x}{σ:St}{ts:Array Value}{w:World}(h:SR E n G σ ts w){k:Nat}{cs cs':List AV}(ho:aget σ.H k=some (.cells cs))(hl:cs'.length=cs.length)(hx:∀(i:Nat) (x:AV),cs'[i]?=some x→x=AV.junk∨cs[i]?=some x):
  SR E n G (σ.setObj (.x k) (.cells cs')) ts w:=by
 have ho':σ.obj (.x k)=some (.cells cs):=ho;have key:∀r o,(σ.setObj (.x k) (.cells cs')).obj r=some o→∃o',σ.obj r=some o'∧((r=.x k∧o=.cells cs'∧o'=.cells cs)∨o=o'):=fun r o hr=>by
  rw[St.q0X]at hr;split at hr
  ·rename_i e;subst e;cases hr;exact⟨_,ho',.inl ⟨rfl,rfl,rfl⟩⟩
  ·exact⟨o,hr,.inr rfl⟩
 refine{ h with slot:=fun s x hs=>h.slot s x hs,obj:=fun r o hr=>?_,objf:=fun r o hr=>?_,inj:=fun r r' o o' hr hr' hb=>?_,lamObj:=fun q v e sz b h1 h2 r o hr=>?_,newObj:=fun r o hr=>?_,own0:=fun r c x s hr hm=>?_ }
 ·obtain⟨o',g1,⟨rfl,rfl,rfl⟩|rfl⟩:=key r o hr
  ·obtain⟨arr,el,k1,k2,k3⟩:=h.obj _ _ g1;refine⟨arr,el,k1,by rw[k2,hl],fun i x hi=>?_⟩;rcases hx i x hi with rfl|h2
   ·have hlt:i<cs.length:=by rw[←hl];exact(Zab.1 hi).1
    obtain⟨_,m2,_,_⟩:=k3 i cs[i] (Zaf hlt);exact⟨.junk _,m2,fun q hq=>by simp[AV.lab?]at hq,fun e he=>by cases he⟩
   ·exact k3 i x h2
  ·exact h.obj r o g1
 ·obtain⟨o',g1,_⟩:=key r o hr;exact h.objf r o' g1
 ·obtain⟨o1,g1,_⟩:=key r o hr;obtain⟨o2,g2,_⟩:=key r' o' hr';exact h.inj r r' o1 o2 g1 g2 hb
 ·obtain⟨o1,g1,_⟩:=key r o hr;exact h.lamObj q v e sz b h1 h2 r o1 g1
 ·obtain⟨o1,g1,_⟩:=key r o hr;exact h.newObj r o1 g1
 ·obtain⟨o',g1,⟨h1,h2,rfl⟩|rfl⟩:=key _ _ hr
  ·cases h2;obtain⟨i,hi⟩:=Zap hm;rcases hx i x hi with rfl|h3
   ·rfl
   ·exact h.own0 r cs x s g1 (Zaa h3)
  ·exact h.own0 r c x s g1 hm
theorem j3g{sz c i:Nat}{fs gs:List D}{x:AV}(hf:∀y∈fs,y.cells.length=sz)(hg:∀y∈gs,y.cells.length=sz)(hc:(fs++gs).length≤c)(h:(rowC sz fs c)[i]?=some x):x=.junk∨(rowC sz (fs++gs) c)[i]?=some x:=by
 unfold rowC at h ⊢
 by_cases hi:i<(fs.flatMap D.cells).length
 ·right
  rw[Zag (by simpa using hi)]at h;rw[Zag (by simp only[Zde,List.map_append,Zaq,Zas];omega),Zde,List.map_append,Zag (by simpa using hi)];exact h
 ·rw[Zao (by simp at hi ⊢;omega)]at h;exact .inl (Zcy.1 (Zaa h)).2
theorem GhoB.z5L{b0:Nat→Nat}{σ:St}{sz c:Nat}{fs gs:List D}(ho:aget σ.H 1000=some (.cells (rowC sz (fs++gs) c)))(hf:∀y∈fs,y.cells.length=sz)(hg:∀y∈gs,y.cells.length=sz)(hc:(fs++gs).length≤c):
  GhoB b0 σ (σ.setObj (.x 1000) (.cells (rowC sz fs c))):=fun _ _ G _ _ _ h=>⟨G,h.jnk ho (by
   rw[q4j hf (by simp at hc;omega),q4j (fun y hy=>(Zbb.1 hy).elim (hf y) (hg y)) hc]) fun _ _ hi=>j3g hf hg hc hi⟩
theorem StF.x0{γ:Type}{X:γ→AObj}{M:List (Nat×AObj)}{sz k off:Nat}{y:LX}{τ:St}{s s':γ}{cs:List AV}{v:D}(hk:τ.get k=.ptr (.x 0) off)(hy:τ.ev y=.d v)(hs:X s=.cells cs)(hv:v.cells.length=sz)(hl:off+sz≤cs.length)(hs':X s'=.cells (stD cs off v.cells)):
  StF X M sz k y τ s s':=fun τ2 e1 e2 e3=>by
 refine⟨τ2.setObj (.x 0) (.cells (stD cs off v.cells)),?_,rfl,rfl,?_⟩
 ·have h1:τ2.ev (.t k)=.ptr (.x 0) off:=e1.trans hk;have h2:τ2.obj (.x 0)=some (.cells cs):=by simp only[St.obj,e3,aget,hs];rfl
  rw[h1,e2,hy];simp only[stS,h2];rw[if_pos ⟨hv,hl⟩]
 ·simp only[St.setObj,e3,hs',aset];rfl
end Go.Av
