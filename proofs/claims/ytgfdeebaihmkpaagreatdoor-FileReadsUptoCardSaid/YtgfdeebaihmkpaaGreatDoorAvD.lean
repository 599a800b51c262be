import Derived.Test.YtgfdeebaihmkpaaGreatDoorAvC
set_option linter.unusedSectionVars false
/- Regions that draw their order: what is abstract of them may be taken in the order of the text. -/
namespace Go.Av
variable {P:Program} [Inv P]
/-! ### States alike -/
structure Eqv(σ τ:St):Prop where
 ρ:∀s,aget σ.ρ s=aget τ.ρ s
 L:σ.L=τ.L
 H:σ.H=τ.H
theorem Eqv.refl(σ:St):Eqv σ σ:=⟨fun _=>rfl,rfl,rfl⟩
theorem Eqv.symm{σ τ:St}(h:Eqv σ τ):Eqv τ σ:=⟨fun s=>(h.ρ s).symm,h.L.symm,h.H.symm⟩
theorem Eqv.trans{σ τ υ:St}(h:Eqv σ τ)(k:Eqv τ υ):Eqv σ υ:=⟨fun s=>(h.ρ s).trans (k.ρ s),h.L.trans k.L,h.H.trans k.H⟩
theorem Eqv.get{σ τ:St}(h:Eqv σ τ)(s:Nat):σ.get s=τ.get s:=by simp only[St.get,h.ρ s]
theorem Eqv.obj{σ τ:St}(h:Eqv σ τ)(r:Ref):σ.obj r=τ.obj r:=by cases r<;>simp[St.obj,h.L,h.H]
theorem SR.eqv{E:Entry}{n:Nat}{G:q0s}{σ τ:St}{ts:Array Value}{w:World}(h:SR E n G σ ts w)(e:Eqv σ τ):SR E n G τ ts w:=
 have o:∀r,τ.obj r=σ.obj r:=fun r=>(e.obj r).symm
 { h with slot:=fun s x hx=>h.slot s x (by rw[e.ρ];exact hx),obj:=fun r x ho=>h.obj r x (by rw[←o];exact ho),objf:=fun r x ho=>h.objf r x (by rw[←o];exact ho),inj:=fun r r' x x' ho ho'=>h.inj r r' x x' (by rw[←o];exact ho) (by rw[←o];exact ho'),lamObj:=fun q v e sz b h1 h2 r x ho=>h.lamObj q v e sz b h1 h2 r x (by rw[←o];exact ho),newObj:=fun r x ho=>h.newObj r x (by rw[←o];exact ho),own0:=fun r cs x s ho=>h.own0 r cs x s (by rw[←o];exact ho) }
theorem Eqv.put{σ τ:St}(h:Eqv σ τ)(d:Nat)(x:AV):Eqv (σ.put d x) (τ.put d x):=
 ⟨fun s=>by simp only[St.put,q3d,h.ρ],h.L,h.H⟩
theorem Eqv.putO{σ τ:St}(h:Eqv σ τ)(d:Option Nat)(x:AV):Eqv (putO σ d x) (putO τ d x):=by
 cases d with
 |none=>exact h
 |some d=>exact h.put d x
theorem q2v{α:Type}(g:α→α)(l:List (Nat×α))(s:Nat):aget (amap g l) s=(aget l s).map g:=by
 induction l with
 |nil=>rfl
 |cons p r ih=>
  obtain⟨k,v⟩:=p;simp only[amap,aget];split
  ·rfl
  ·exact ih
theorem q83{α:Type}(g:α→α)(l:List (Nat×α))(s:Nat)(x:α):amap g (z08 l s x)=z08 (amap g l) s (g x):=rfl
theorem q8a(σ:St)(q:Lab):(σ.erase q).ρ=amap (AV.erase q) σ.ρ:=by
 unfold St.erase;cases q with
 |t s=>rfl
 |c r off=>
  simp only;split
  ·cases r<;>rfl
  ·rfl
theorem z1i{σ τ:St}(q:Lab)(hL:σ.L=τ.L)(hH:σ.H=τ.H):(σ.erase q).L=(τ.erase q).L∧(σ.erase q).H=(τ.erase q).H:=by
 unfold St.erase;cases q with
 |t s=>exact⟨hL,hH⟩
 |c r off=>
  cases r with
  |l s=>
   simp only[St.obj,hL];cases h:aget τ.L s with
   |none=>simp[hH]
   |some o=>cases o<;>simp[St.setObj,hH]
  |x k=>
   simp only[St.obj,hH];cases h:aget τ.H k with
   |none=>simp[hL]
   |some o=>cases o<;>simp[St.setObj,hL]
theorem Eqv.erase{σ τ:St}(h:Eqv σ τ)(q:Lab):Eqv (σ.erase q) (τ.erase q):=
 ⟨fun s=>by rw[q8a,q8a,q2v,q2v,h.ρ],(z1i q h.L h.H).1,(z1i q h.L h.H).2⟩
theorem j3K(σ:St)(q:Lab)(d:Nat)(x:AV):Eqv ((σ.put d x).erase q) ((σ.erase q).put d (x.erase q)):=by
 have h:=z1i (σ:=σ.put d x) (τ:=σ) q rfl rfl;refine⟨fun s=>?_,h.1,h.2⟩;rw[q8a];simp only[St.put,q8a,q83]
/-! ### What operations read -/
structure q0N(rs:List Nat)(σ τ:St):Prop where
 get:∀s∈rs,σ.get s=τ.get s
 L:σ.L=τ.L
 H:σ.H=τ.H
theorem q0N.mono{rs rs':List Nat}{σ τ:St}(h:q0N rs σ τ)(hs:∀s∈rs',s∈rs):q0N rs' σ τ:=⟨fun s k=>h.get s (hs s k),h.L,h.H⟩
theorem q0N.left{rs rs':List Nat}{σ τ:St}(h:q0N (rs++rs') σ τ):q0N rs σ τ:=h.mono fun _ k=>List.mem_append_left _ k
theorem q0N.right{rs rs':List Nat}{σ τ:St}(h:q0N (rs++rs') σ τ):q0N rs' σ τ:=h.mono fun _ k=>List.mem_append_right _ k
theorem q0N.j4C{rs:List Nat}{σ τ:St}(h:Eqv σ τ):q0N rs σ τ:=⟨fun s _=>h.get s,h.L,h.H⟩
theorem q0N.j9w{rs:List Nat}(σ:St){d:Nat}(x:AV)(hd:d∉rs):q0N rs (σ.put d x) σ:=
 ⟨fun s hs=>by
   have:d≠s:=fun e=>hd (e▸hs)
   simp only[St.get,St.put,q3d,if_neg this],rfl,rfl⟩
theorem q0N.obj{rs:List Nat}{σ τ:St}(h:q0N rs σ τ)(r:Ref):σ.obj r=τ.obj r:=by cases r<;>simp[St.obj,h.L,h.H]
theorem q0N.ev{σ τ:St}{x:LX}(h:q0N (q14 x) σ τ):σ.ev x=τ.ev x:=by
 cases x with
 |t s=>exact h.get s (by simp[q14])
 |k x=>rfl
theorem q0N.evO{σ τ:St}{x:Option LX}(h:q0N (z2g x) σ τ):evO σ x=evO τ x:=by
 cases x with
 |none=>rfl
 |some x=>simp only[Go.Av.evO,q0N.ev (x:=x) h]
theorem q0N.evL{σ τ:St}:∀{l:List LX},q0N (q5d l) σ τ→evL σ l=evL τ l
 |[],_=>rfl
 |x::r,h=>by simp only[Go.Av.evL,q0N.ev (x:=x) h.left,q0N.evL (l:=r) h.right]
theorem q0N.evP{σ τ:St}:∀{l:List (Nat×LX)},q0N (z4E l) σ τ→evP σ l=evP τ l
 |[],_=>rfl
 |(i,x)::r,h=>by simp only[Go.Av.evP,q0N.ev (x:=x) h.left,q0N.evP (l:=r) h.right]
theorem q0N.pev{σ τ:St}{v:LV}(h:q0N (q61 v) σ τ):pev σ v=pev τ v:=by
 cases v<;>simp only[q61]at h<;>simp only[Go.Av.pev]
 case cp x=>rw[h.ev]
 case pick c x y=>rw[q0N.ev h.left,q0N.ev h.right.left,q0N.ev h.right.right]
 case bin op x y=>rw[q0N.ev h.left,q0N.ev h.right]
 case eqB n x y=>rw[q0N.ev h.left,q0N.ev h.right]
 case eqN k n x=>rw[h.ev]
 case eqS n ks x y=>rw[q0N.ev h.left,q0N.ev h.right]
 case not x=>rw[h.ev]
 case neg x=>rw[h.ev]
 case cvI k x=>rw[h.ev]
 case i2s x=>rw[h.ev]
 case b2s x=>rw[h.ev]
 case idxS x y=>rw[q0N.ev h.left,q0N.ev h.right]
 case subS x lo hi=>rw[q0N.ev h.left,q0N.evO h.right.left,q0N.evO h.right.right]
 case len s x=>rw[h.ev]
 case mm m x y=>rw[q0N.ev h.left,q0N.ev h.right]
 case fa o x=>rw[h.ev]
 case ia s x y=>rw[q0N.ev h.left,q0N.ev h.right]
 case iaA l s x y=>rw[q0N.ev h.left,q0N.ev h.right]
 case ld a m x=>
  rw[h.ev];unfold fLd;cases τ.ev x<;>simp only[h.obj]
 case sub s x lo hi=>rw[q0N.ev h.left,q0N.evO h.right.left,q0N.evO h.right.right]
 case fld a m o x=>rw[h.ev]
 case bld p z q l=>rw[q0N.evP h]
 case mkI t x=>rw[h.ev]
 case asT t z x=>rw[h.ev]
 case ext i x=>rw[h.ev]
 case nck x=>rw[h.ev]
 case mkF f a b=>rw[q0N.evL h.left,q0N.evL h.right]
/-! ### What is done with a label's loss -/
theorem q02{σ:St}{q:Lab}{x:LX}(h:homX x=true):(σ.erase q).ev x=(σ.ev x).erase q:=by
 cases x with
 |t s=>
  simp only[St.ev,St.get,q8a,q2v];cases aget σ.ρ s<;>rfl
 |k x=>cases x<;>first|rfl|simp[homX]at h
theorem z7d{q:Lab}(x:AV):(x.erase q).rd=x.rd:=by
 cases x<;>try rfl
 rename_i q' e sz l
 by_cases h:q'=q<;>simp[AV.erase,AV.rd,h]
theorem z1k{σ:St}{q:Lab}{x:Option LX}(h:j8b x=true):evO (σ.erase q) x=(evO σ x).map (AV.erase q):=by
 cases x with
 |none=>rfl
 |some x=>simp only[evO,q02 (x:=x) h,Zax]
theorem z6a{q:Lab}(x:Option AV):loOf (x.map (AV.erase q))=loOf x:=by
 cases x with
 |none=>rfl
 |some x=>
  cases x<;>try rfl
  rename_i q' e sz l
  by_cases h:q'=q<;>simp[AV.erase,loOf,h]
theorem z9Y{q:Lab}{n:Nat}(x:Option AV):hiOf n (x.map (AV.erase q))=hiOf n x:=by
 cases x with
 |none=>rfl
 |some x=>
  cases x<;>try rfl
  rename_i q' e sz l
  by_cases h:q'=q<;>simp[AV.erase,hiOf,h]
theorem z9T{q:Lab}(x:AV)(lo hi:Option AV):z5c (x.erase q) (lo.map (AV.erase q)) (hi.map (AV.erase q))=z5c x lo hi:=by
 cases x with
 |rs r n c=>
  simp only[AV.erase,z5c,z9Y];cases lo<;>rfl
 |own q' e sz l=>by_cases h:q'=q<;>simp[AV.erase,z5c,h]
 |_=>rfl
theorem z50{q:Lab}{n:Nat}(x:Option AV):hiOf n (x.map (AV.erase q))=hiOf n x:=by
 cases x with
 |none=>rfl
 |some x=>
  cases x<;>try rfl
  rename_i q' e sz l
  by_cases h:q'=q<;>simp[AV.erase,hiOf,h]
theorem hom1{q:Lab}{g:AV→Option AV}(hg:∀q e sz l,g (.own q e sz l)=none)(hl:∀l,g (.d (.list l))=none)(hr:∀x z,g x=some z→z.erase q=z)(x:AV):g (x.erase q)=(g x).map (AV.erase q):=by
 have h0:∀x,x.erase q=x→g (x.erase q)=(g x).map (AV.erase q):=fun x e=>by
  rw[e];cases h:g x with
  |none=>rfl
  |some z=>simp[hr x z h]
 cases x<;>try exact h0 _ rfl
 rename_i q' e sz l
 by_cases h:q'=q
 ·simp[AV.erase,h,hg,hl]
 ·exact h0 _ (by simp[AV.erase,h])
theorem hom2{q:Lab}{g:AV→AV→Option AV}(hg:∀q e sz l y,g (.own q e sz l) y=none)(hl:∀l y,g (.d (.list l)) y=none)(hg':∀q e sz l y,g y (.own q e sz l)=none)(hl':∀l y,g y (.d (.list l))=none)
  (hr:∀x y z,g x y=some z→z.erase q=z) (x y:AV):g (x.erase q) (y.erase q)=(g x y).map (AV.erase q):=by
 rw[hom1 (g:=fun x=>g x (y.erase q)) (fun q e sz l=>hg ..) (fun l=>hl ..) (fun x z h=>hr x _ z h)];rw[hom1 (g:=fun y=>g x y) (fun q e sz l=>hg' ..) (fun l=>hl' ..) (fun y z h=>hr x y z h)];cases g x y with
 |none=>rfl
 |some z=>
  simp only[Zax,Zas];cases z<;>try rfl
  rename_i q' e sz l
  by_cases h:q'=q<;>simp[AV.erase,h]
theorem j4K{σ:St}{q:Lab}{v:LV}(h:homV v=true):pev (σ.erase q) v=(pev σ v).map (AV.erase q):=by
 have two:∀{a b:Bool},(a&&b)=true→a=true∧b=true:=fun h=>by simpa using h
 cases v<;>simp only[homV]at h<;>try(cases h;done)
 case cp x=>simp only[pev,q02 h,Zax]
 case pick c x y=>
  simp only[pev,q02 (two h).1,q02 (two (two h).2).1,q02 (two (two h).2).2];generalize σ.ev c=c;unfold z5b;cases c<;>try rfl
  ·rename_i d;cases d<;>try rfl
   rename_i b;cases b<;>rfl
  ·rename_i q' e sz l
   by_cases h:q'=q<;>simp[AV.erase,h]
 case bin op x y=>
  simp only[pev,q02 (two h).1,q02 (two h).2];refine hom2 (g:=fun a b=>fB (binD op a b)) ?_ ?_ ?_ ?_ ?_ _ _
  ·intros;rfl
  ·intros;rfl
  ·intro q e sz l y;cases y<;>first|rfl|(rename_i d;cases d<;>rfl)
  ·intro l y;cases y<;>first|rfl|(rename_i d;cases d<;>rfl)
  ·intro x y z hz;simp only[fB]at hz;cases hb:binD op x y with
   |none=>simp[hb]at hz
   |some w=>simp[hb]at hz;subst hz;rfl
 case eqB n x y=>
  simp only[pev,q02 (two h).1,q02 (two h).2];refine hom2 (g:=fEqB n) ?_ ?_ ?_ ?_ ?_ _ _
  ·intros;rfl
  ·intros;rfl
  ·intro q e sz l y;cases y<;>first|rfl|(rename_i d;cases d<;>rfl)
  ·intro l y;cases y<;>first|rfl|(rename_i d;cases d<;>rfl)
  ·intro x y z hz;unfold fEqB at hz;split at hz<;>cases hz;rfl
 case eqS n ks x y=>
  simp only[pev,q02 (two h).1,q02 (two h).2];refine hom2 (g:=fEqS n ks) ?_ ?_ ?_ ?_ ?_ _ _
  ·intros;rfl
  ·intros;rfl
  ·intro q e sz l y;cases y<;>first|rfl|(rename_i d;cases d<;>rfl)
  ·intro l y;cases y<;>first|rfl|(rename_i d;cases d<;>rfl)
  ·intro x y z hz;unfold fEqS at hz;split at hz
   ·rename_i xs ys;cases hb:eqCs ks xs ys<;>simp[hb]at hz;subst hz;rfl
   ·cases hz
 case not x=>
  simp only[pev,q02 h];refine hom1 (g:=fNot) (by intros;rfl) (by intros;rfl) (fun x z hz=>?_) _;unfold fNot at hz;split at hz<;>cases hz;rfl
 case neg x=>
  simp only[pev,q02 h];refine hom1 (g:=fNeg) (by intros;rfl) (by intros;rfl) (fun x z hz=>?_) _;unfold fNeg at hz;split at hz<;>cases hz;rfl
 case cvI k x=>
  simp only[pev,q02 h];refine hom1 (g:=fCvI k) (by intros;rfl) (by intros;rfl) (fun x z hz=>?_) _;unfold fCvI at hz;split at hz<;>cases hz;rfl
 case i2s x=>
  simp only[pev,q02 h];refine hom1 (g:=fI2s) (by intros;rfl) (by intros;rfl) (fun x z hz=>?_) _;unfold fI2s at hz;split at hz<;>cases hz;rfl
 case b2s x=>
  simp only[pev,q02 h,fB2s,z7d];split
  ·rename_i l hl;cases bytesOf l<;>rfl
  ·rfl
 case idxS x y=>
  simp only[pev,q02 (two h).1,q02 (two h).2];refine hom2 (g:=z2W) ?_ ?_ ?_ ?_ ?_ _ _
  ·intros;rfl
  ·intros;rfl
  ·intro q e sz l y;cases y<;>first|rfl|(rename_i d;cases d<;>rfl)
  ·intro l y;cases y<;>first|rfl|(rename_i d;cases d<;>rfl)
  ·intro x y z hz;unfold z2W at hz;split at hz
   ·rename_i s k i;cases hg:getI s i<;>simp[hg]at hz;subst hz;rfl
   ·cases hz
 case subS x lo hi=>
  simp only[pev,q02 (two h).1,z1k (two (two h).2).1,z1k (two (two h).2).2];refine hom1 (q:=q) (g:=fun a=>z6D a ((evO σ lo).map (AV.erase q)) ((evO σ hi).map (AV.erase q))) (by intros;rfl) (by intros;rfl) (fun x z hz=>?_) _ |>.trans ?_
  ·unfold z6D at hz;split at hz
   ·split at hz
    ·split at hz<;>cases hz;rfl
    ·cases hz
   ·cases hz
  ·unfold z6D;simp only[z6a,z50]
 case len s x=>
  simp only[pev,q02 h];generalize σ.ev x=a;cases a<;>cases s<;>try rfl
  ·rename_i d;cases d<;>rfl
  ·rename_i d;cases d<;>rfl
  ·rename_i q' e sz l
   by_cases h:q'=q<;>simp[AV.erase,h,z5a,fLen]
  ·rename_i q' e sz l
   by_cases h:q'=q<;>simp[AV.erase,h,z5a]
 case mm m x y=>
  simp only[pev,q02 (two h).1,q02 (two h).2];refine hom2 (g:=fMm m) ?_ ?_ ?_ ?_ ?_ _ _
  ·intros;rfl
  ·intros;rfl
  ·intro q e sz l y;cases y<;>first|rfl|(rename_i d;cases d<;>rfl)
  ·intro l y;cases y<;>first|rfl|(rename_i d;cases d<;>rfl)
  ·intro x y z hz;unfold fMm at hz;split at hz<;>cases hz;rfl
 case fa o x=>
  simp only[pev,q02 h];refine hom1 (g:=fFa o) (by intros;rfl) (by intros;rfl) (fun x z hz=>?_) _;unfold fFa at hz;split at hz
  ·cases hz;rfl
  ·split at hz<;>cases hz;rfl
  ·split at hz<;>cases hz;rfl
  ·cases hz;rfl
  ·cases hz
 case ia sz x y=>
  simp only[pev,q02 (two h).1,q02 (two h).2];have hR:∀(r:Ref) (n:Nat),fIaR sz r n ((σ.ev y).erase q)=(fIaR sz r n (σ.ev y)).map (AV.erase q):=fun r n=>by
   refine hom1 (q:=q) (g:=fIaR sz r n) (by intros;rfl) (by intros;rfl) (fun y z hz=>?_) _;unfold fIaR at hz;split at hz
   ·split at hz<;>cases hz;rfl
   ·cases hz
  have hD:fIaD sz ((σ.ev x).erase q) ((σ.ev y).erase q)=(fIaD sz (σ.ev x) (σ.ev y)).map (AV.erase q):=?_
  ·have h1:∀a b,fIa sz a b=(match a with|.rs r n _=>fIaR sz r n b|a=>fIaD sz a b):=fun a b=>rfl
   cases hx:σ.ev x with
   |rs r n c=>exact hR r n
   |own q' e s l=>
    rw[hx]at hD
    by_cases hq:q'=q
    ·simp only[AV.erase,if_pos hq]at hD ⊢;exact hD
    ·simp only[AV.erase,if_neg hq]at hD ⊢;exact hD
   |_=>rw[hx]at hD;exact hD
  simp only[fIaD,z7d];refine hom1 (q:=q) (g:=fun b=>match(σ.ev x).rd,b with
   |some (.list l),.d (.int _ i)=>match getI l i with
    |some e=>if e.cells.length=sz then some (.dptr e.cells)else none
    |none=>none
   |_,_=>none) ?_ ?_ (fun y z hz=>?_) _
  ·intros;cases(σ.ev x).rd<;>try rfl
   rename_i d;cases d<;>rfl
  ·intros;cases(σ.ev x).rd<;>try rfl
   rename_i d;cases d<;>rfl
  ·split at hz
   ·split at hz
    ·split at hz<;>cases hz;rfl
    ·cases hz
   ·cases hz
 case iaA len sz x y=>
  simp only[pev,q02 (two h).1,q02 (two h).2];refine hom2 (g:=fIaA len sz) ?_ ?_ ?_ ?_ ?_ _ _
  ·intros;rfl
  ·intros;rfl
  ·intro q e sz l y;cases y<;>rfl
  ·intro l y;cases y<;>rfl
  ·intro x y z hz;unfold fIaA at hz;split at hz
   ·split at hz<;>cases hz;rfl
   ·split at hz<;>cases hz;rfl
   ·cases hz
 case sub sz x lo hi=>
  simp only[pev,q02 (two h).1,z1k (two (two h).2).1,z1k (two (two h).2).2,fSub,z9T,z7d,z6a,z50];split
  ·rename_i z hz;obtain⟨r,n,c,j,_,_,_,_,rfl⟩:=z3V hz;rfl
  split
  ·split
   ·split<;>rfl
   ·rfl
  ·rfl
end Go.Av
/- Regions that draw their order: operations that stand apart may be swapped. -/
namespace Go.Av
variable {P:Program} [Inv P]
theorem Eqv.q0z{σ τ:St}(h:Eqv σ τ):∀er,Eqv (q0z σ er) (q0z τ er):=by
 intro er;induction er generalizing σ τ with
 |nil=>exact h
 |cons q r ih=>exact ih (h.erase q)
theorem Eqv.app{σ τ:St}(h:Eqv σ τ)(e:Eff)(d:Option Nat):Eqv (e.app d σ) (e.app d τ):=(h.q0z e.er).putO d e.x
theorem z5Q(er:List Lab)(σ:St)(d:Option Nat)(x:AV):Eqv (q0z (putO σ d x) er) (putO (q0z σ er) d (x.q0z er)):=by
 induction er generalizing σ x with
 |nil=>exact .refl _
 |cons q r ih=>
  cases d with
  |none=>exact .refl _
  |some d=>exact((j3K σ q d x).q0z r).trans (ih (σ:=σ.erase q) (x:=x.erase q))
theorem DEff.agree{d:Option Nat}{op:LO}{σ τ:St}{eff:Eff}(h:q0N (z6l op) σ τ)(hd:DEff P d op σ eff):DEff P d op τ eff:=by
 unfold DEff at *;cases op with
 |val v=>obtain⟨h0,z,h1,h2⟩:=hd;exact⟨h0,z,(q0N.pev h)▸h1,h2⟩
 |call f args=>obtain⟨ds,r,h1,h2,h3⟩:=hd;exact⟨ds,r,(q0N.evL h)▸h1,h2,h3⟩
 |bsl e sz parts=>obtain⟨k,l,h1,h2,h3,h4⟩:=hd;exact⟨k,l,h1,(q0N.evL h)▸h2,(q0N.evL h)▸h3,h4⟩
 |app e sz by_ str s x=>
  obtain⟨k,q,l,ys,h1,h2,h3,h4,h5⟩:=hd;exact⟨k,q,l,ys,h1,(q0N.ev (x:=s) (q0N.left h))▸h2,(q0N.ev (x:=x) (q0N.right h))▸h3,h4,h5⟩
 |_=>exact hd
theorem q5i.agree{o:q0b}{σ τ:St}{eff:Eff}(h:q0N o.reads σ τ)(hd:q5i P o σ eff):q5i P o τ eff:=by
 unfold q5i at *;unfold q0b.reads at h;cases hg:o.guard with
 |none=>rw[hg]at hd h;exact hd.agree h.left
 |some sb=>
  obtain⟨s,b⟩:=sb;rw[hg]at hd h;rcases hd with⟨t,h1,h2,h3⟩|⟨h1,h2⟩
  ·exact .inl ⟨t,(h.right.get s (by simp))▸h1,fun e=>(h2 e).agree h.left,h3⟩
  ·exact .inr ⟨(h.right.get s (by simp))▸h1,h2⟩
theorem z6M{o:q0b}{σ:St}{e:Eff}(h:o.keeps=true)(hd:q5i P o σ e):e.er=[]:=by
 obtain⟨d,op,g⟩:=o;have h0:∀{e},DEff P d op σ e→e.er=[]:=fun{e} hd=>by
  unfold q0b.keeps at h;unfold DEff at hd;cases op<;>simp only at h hd<;>try(cases h;done)
  ·obtain⟨_,_,_,rfl⟩:=hd;rfl
  ·obtain⟨_,_,_,_,_,rfl⟩:=hd;rfl
  ·obtain⟨_,_,_,_,rfl⟩:=hd;rfl
 unfold q5i at hd;cases g with
 |none=>exact h0 hd
 |some sb=>
  obtain⟨s,b⟩:=sb;rcases hd with⟨t,_,h2,h3⟩|⟨_,h2⟩
  ·by_cases ht:t=b
   ·exact h0 (h2 ht)
   ·rw[h3 ht]
  ·rw[h2]
theorem q9K{v:LV}(h:homV v=true):∀(er:List Lab) (σ:St),pev (q0z σ er) v=(pev σ v).map (fun z=>z.q0z er)
 |[],σ=>by simp[q0z,AV.q0z]
 |q::r,σ=>by
  simp only[q0z,q9K h r,j4K h];cases pev σ v<;>rfl
theorem get_erase(σ:St)(q:Lab)(s:Nat):(σ.erase q).get s=(σ.get s).erase q:=by
 simp only[St.get,q8a,q2v];cases aget σ.ρ s<;>rfl
theorem q7C:∀(er:List Lab) (σ:St) (s:Nat),(q0z σ er).get s=(σ.get s).q0z er
 |[],_,_=>rfl
 |q::r,σ,s=>by simp only[q0z,q7C r,get_erase,AV.q0z]
theorem j2e{x:AV}{q:Lab}{t:Bool}:x.erase q=.d (.bool t)↔x=.d (.bool t):=by
 cases x<;>try exact Iff.rfl
 rename_i q' e sz l
 by_cases h:q'=q<;>simp[AV.erase,h]
theorem z0v{t:Bool}:∀{er:List Lab} {x:AV},x.q0z er=.d (.bool t)↔x=.d (.bool t)
 |[],_=>Iff.rfl
 |q::r,x=>by simp only[AV.q0z];rw[z0v,j2e]
theorem q7Z(er:List Lab):AV.q0z und er=und:=by
 induction er with
 |nil=>rfl
 |cons q r ih=>exact ih
theorem j3L{x:AV}{q:Lab}:x.erase q=und↔x=und:=by
 cases x<;>simp[AV.erase,und];split<;>simp
theorem z5R:∀{er:List Lab} {x:AV},x.q0z er=und↔x=und
 |[],x=>Iff.rfl
 |q::r,x=>by
  show AV.q0z (x.erase q) r=und↔_
  rw[z5R,j3L]
theorem z6L{o:q0b}(h:o.pure=true):∃v,o.op=.val v∧homV v=true:=by
 unfold q0b.pure at h;split at h
 ·exact⟨_,by assumption,h⟩
 ·cases h
theorem j6U{o:q0b}{σ:St}{e:Eff}(h:o.pure=true)(er:List Lab)(hd:q5i P o σ e):q5i P o (q0z σ er) ⟨[],e.x.q0z er⟩:=by
 obtain⟨v,hop,hv⟩:=z6L h;obtain⟨d,op,g⟩:=o;simp only at hop;subst hop;simp only[q5i,DEff]at *;cases g with
 |none=>
  obtain⟨h0,z,h1,rfl⟩:=hd;exact⟨h0,z.q0z er,by rw[q9K hv,h1];rfl,rfl⟩
 |some sb=>
  rcases hd with⟨t,h1,h2,h3⟩|⟨h1,h2⟩
  ·refine .inl ⟨t,by rw[q7C,h1];exact z0v.2 rfl,fun ht=>?_,fun ht=>?_⟩
   ·obtain⟨h0,z,h1,rfl⟩:=h2 ht;exact⟨h0,z.q0z er,by rw[q9K hv,h1];rfl,rfl⟩
   ·rw[h3 ht];simp only[q7Z]
  ·exact .inr ⟨by rw[q7C,h1,q7Z],by rw[h2];simp only[q7Z]⟩
theorem j6T{o:q0b}{σ:St}{e:Eff}(h:o.pure=true)(er:List Lab)(hd:q5i P o (q0z σ er) e):∃z,q5i P o σ ⟨[],z⟩∧e=⟨[],z.q0z er⟩:=by
 obtain⟨v,hop,hv⟩:=z6L h;obtain⟨d,op,g⟩:=o;simp only at hop;subst hop;simp only[q5i,DEff]at *;have key:∀{e:Eff},(d.isSome=true∧∃z,pev (q0z σ er) v=some z∧e=⟨[],z⟩)→∃z,(d.isSome=true∧∃z',pev σ v=some z'∧(⟨[],z⟩:Eff)=⟨[],z'⟩)∧e=⟨[],z.q0z er⟩:=fun{e} ⟨h0,z,h1,h2⟩=>by
  rw[q9K hv]at h1;cases hz:pev σ v with
  |none=>simp[hz]at h1
  |some z0=>
   simp[hz]at h1;exact⟨z0,⟨h0,z0,rfl,rfl⟩,by rw[h2,←h1]⟩
 cases g with
 |none=>exact key hd
 |some sb=>
  obtain⟨s,b⟩:=sb;rcases hd with⟨t,h1,h2,h3⟩|⟨h1,h2⟩
  ·rw[q7C,z0v]at h1
   by_cases ht:t=b
   ·obtain⟨z,hz,he⟩:=key (h2 ht);exact⟨z,.inl ⟨t,h1,fun _=>hz,fun hn=>absurd ht hn⟩,he⟩
   ·exact⟨und,.inl ⟨t,h1,fun hn=>absurd hn ht,fun _=>rfl⟩,by rw[h3 ht,q7Z]⟩
  ·rw[q7C,z5R]at h1;exact⟨und,.inr ⟨h1,rfl⟩,by rw[h2,q7Z]⟩
def q3P(P:Program)[Inv P](o:q0b)(K:St→Prop)(σ:St):Prop:=∃e,q5i P o σ e∧∃τ,Eqv (e.app o.dst σ) τ∧K τ
theorem q7y{rs:List Nat}(σ:St){d:Option Nat}(x:AV)(h:z4u d rs=true):q0N rs (putO σ d x) σ:=by
 cases d with
 |none=>exact⟨fun _ _=>rfl,rfl,rfl⟩
 |some d=>exact .j9w σ x (by simpa[z4u]using h)
theorem q0N.symm{rs:List Nat}{σ τ:St}(h:q0N rs σ τ):q0N rs τ σ:=⟨fun s k=>(h.get s k).symm,h.L.symm,h.H.symm⟩
theorem put_comm{σ:St}{a b:Option Nat}{x y:AV}(h:(match a,b with|some a,some b=>a != b|_,_=>true)=true):Eqv (putO (putO σ a x) b y) (putO (putO σ b y) a x):=by
 cases a with
 |none=>exact .refl _
 |some a=>
  cases b with
  |none=>exact .refl _
  |some b=>
   have hab:a≠b:=by simpa using h
   refine⟨fun s=>?_,rfl,rfl⟩;simp only[putO,St.put,q3d]
   by_cases h1:a=s
   ·subst h1;simp[Ne.symm hab]
   ·simp[h1]
theorem z2d{o:q0b}(h:o.pure=true):o.keeps=true:=by
 obtain⟨v,hop,_⟩:=z6L h;simp[q0b.keeps,hop]
theorem swap{p q:q0b}(h:j0O p q=true){K:St→Prop}{σ:St}(hd:q3P P p (q3P P q K) σ):q3P P q (q3P P p K) σ:=by
 obtain⟨ep,hp,τ,hτ,eq,hq,υ,hυ,hK⟩:=hd;unfold j0O z2F at h;simp only[Zah,Zcc]at h;obtain⟨⟨⟨hne,hpq⟩,hqp⟩,hk⟩:=h;have hq':q5i P q (ep.app p.dst σ) eq:=hq.agree (.j4C hτ.symm)
 -- q ahead of p
 have hq1:q5i P q (q0z σ ep.er) eq:=hq'.agree (q7y _ _ hpq);rcases hk with(⟨k1,k2⟩|⟨k1,k2⟩)|⟨k1,k2⟩
 ·have e1:=z6M k1 hp;have e2:=z6M k2 hq;obtain⟨er1,zp⟩:=ep;obtain⟨er2,zq⟩:=eq;simp only at e1 e2;subst e1 e2;refine⟨⟨[],zq⟩,hq1,_,.refl _,⟨[],zp⟩,hp.agree (q7y _ _ hqp).symm,υ,?_,hK⟩;refine .trans ?_ hυ;refine .trans ?_ (hτ.app ⟨[],zq⟩ q.dst);exact(put_comm hne).symm
 ·have e1:=z6M (z2d k1) hp;obtain⟨er1,zp⟩:=ep;simp only at e1;subst e1;refine⟨eq,hq1,_,.refl _,⟨[],zp.q0z eq.er⟩,(j6U k1 eq.er hp).agree (q7y _ _ hqp).symm,υ,?_,hK⟩;refine .trans ?_ hυ;refine .trans ?_ (hτ.app eq q.dst);refine .trans (put_comm hne).symm ?_;exact((z5Q eq.er σ p.dst zp).symm).putO q.dst eq.x
 ·obtain⟨z,hz,he⟩:=j6T k1 ep.er hq1;subst he;refine⟨⟨[],z⟩,hz,_,.refl _,ep,hp.agree (q7y _ _ hqp).symm,υ,?_,hK⟩;refine .trans ?_ hυ;refine .trans ?_ (hτ.app ⟨[],z.q0z ep.er⟩ q.dst);refine .trans ((z5Q ep.er σ q.dst z).putO p.dst ep.x) ?_;exact(put_comm hne).symm
end Go.Av
/- Regions that draw their order: what may be done ahead of the making of a variable, and ahead of a store. -/
namespace Go.Av
variable {P:Program} [Inv P]
/-! ### Ahead of a new variable -/
theorem drop_eq{r:Ref}{x:AV}(h:x.has r=false):x.drop r=x:=by simp[AV.drop,h]
theorem j7s{r:Ref}(x:D):(AV.d x).drop r=.d x:=drop_eq rfl
theorem z9O(r:Ref)(bs:List Bool)(xs:List D):(AV.sx (z0J bs xs)).drop r=.sx (z0J bs xs):=by
 refine drop_eq ?_;simp only[AV.has,Zce];intro y hy;obtain⟨i,hi⟩:=Zbt.1 hy;obtain⟨x,_,h5⟩:=q9i _ _ _ _ hi;rcases h5 with⟨_,rfl⟩|rfl<;>simp[AV.q7D]
theorem j2L{r:Ref}{cs:List AV}(hh:(AV.sx cs).has r=true):((AV.sx cs).drop r).rd=(AV.sx cs).rd:=by
 have hn:∀{cs:List AV},(∃x∈cs,x.q7D r=true)→rd1L cs=none:=fun{cs} hx=>by
  obtain⟨x,hm,hx⟩:=hx;induction cs with
  |nil=>cases hm
  |cons y cs ih=>
   simp only[rd1L];rcases Zba.1 hm with rfl|hm
   ·cases x<;>simp_all[AV.q7D,AV.rd1]
   ·rw[ih hm];split
    ·rename_i h;cases h
    ·rfl
 have hx:∃x∈cs,x.q7D r=true:=Zbq.1 hh;simp only[AV.drop,hh,if_true,AV.rd,hn hx,Zcw]
theorem z4D{r:Ref}(x:AV):(x.drop r).rd=x.rd:=by
 cases hx:x.has r with
 |false=>rw[drop_eq hx]
 |true=>
  cases x
  case sx=>
   rename_i cs;exact j2L hx
  all_goals simp[AV.has]at hx
  all_goals simp[AV.drop,AV.has,AV.rd,hx]
theorem drop1{r:Ref}{α:Type}{g:AV→Option α}(hj:g .junk=none){x:AV}{z:α}(h:g (x.drop r)=some z):x.has r=false∧x.drop r=x∧g x=some z:=by
 cases hx:x.has r with
 |false=>rw[drop_eq hx]at h;exact⟨rfl,drop_eq hx,h⟩
 |true=>simp[AV.drop,hx,hj]at h
theorem z6G{σ:St}{d s:Nat}{cs:List D}(h:d≠s):(newO σ d cs).get s=(σ.get s).drop (.l d):=by
 simp only[newO,St.get,St.put,q3d,if_neg h,St.setObj,St.drop,q2v];cases aget σ.ρ s<;>rfl
theorem q0T{σ:St}{d:Nat}{cs:List D}{x:LX}(h:d∉q14 x)(hc:q6V x=true):(newO σ d cs).ev x=(σ.ev x).drop (.l d):=by
 cases x with
 |t s=>exact z6G (fun e=>h (by simp[q14,e]))
 |k y=>cases y<;>first|rfl|simp[q6V]at hc
theorem z3j{σ:St}{d:Nat}{cs:List D}{x:Option LX}(h:d∉z2g x)(hc:z9H x=true):evO (newO σ d cs) x=(evO σ x).map (AV.drop (.l d)):=by
 cases x with
 |none=>rfl
 |some x=>simp only[evO,q0T (x:=x) h hc,Zax]
theorem j4p{r:Ref}{x:Option AV}{i:Int}(h:loOf (x.map (AV.drop r))=some i):loOf x=some i:=by
 cases x with
 |none=>exact h
 |some x=>exact(drop1 (g:=fun x=>loOf (some x)) rfl h).2.2
theorem z9Z{r:Ref}{n:Nat}{x:Option AV}{i:Int}(h:hiOf n (x.map (AV.drop r))=some i):hiOf n x=some i:=by
 cases x with
 |none=>exact h
 |some x=>exact(drop1 (g:=fun x=>hiOf n (some x)) rfl h).2.2
theorem z2e{σ:St}{d:Nat}{cs:List D}:∀{l:List LX},d∉q5d l→l.all q6V=true→q5N (evL (newO σ d cs) l)=q5N (evL σ l)
 |[],_,_=>rfl
 |x::r,h,hc=>by
  simp only[q5d,Zaz,not_or]at h;simp only[List.all_cons,Zah]at hc;simp only[evL,q5N,q0T h.1 hc.1,z4D,z2e h.2 hc.2]
theorem z5T{σ:St}{d:Nat}{ds:List D}(pl:List (Nat×Nat)):∀{l:List (Nat×LX)} (cs:List D),d∉z4E l→(l.all fun p=>q6V p.2)=true→q9X pl cs (evP (newO σ d ds) l)=q9X pl cs (evP σ l)
 |[],_,_,_=>rfl
 |(i,x)::r,cs,h,hc=>by
  simp only[z4E,Zaz,not_or]at h;simp only[List.all_cons,Zah]at hc;simp only[evP,q9X,q0T h.1 hc.1,z4D];split
  ·split
   ·exact z5T pl _ h.2 hc.2
   ·rfl
  ·rfl
theorem j1F{r:Ref}:∀(xs:List AV),rdL (xs.map (AV.drop r))=rdL xs
 |[]=>rfl
 |x::l=>by simp only[Zbo,rdL,z4D,j1F l]
theorem j5M(r:Ref)(x:AV):x.den.drop r=(x.drop r).den:=by
 cases hh:x.has r with
 |true=>
  have h1:x.den=x:=by cases x<;>first|rfl|(simp[AV.has]at hh)
  rw[h1];simp only[AV.drop,hh,if_true];rfl
 |false=>
  have h1:x.den.has r=false:=by cases x<;>first|exact hh|rfl
  simp only[AV.drop,hh,h1];rfl
theorem j2T{r:Ref}{x:AV}(h:(x.drop r).z1I=true):x.has r=false∧x.drop r=x:=by
 unfold AV.drop at h ⊢;cases hh:x.has r with
 |true=>rw[hh]at h;simp[AV.z1I]at h
 |false=>exact⟨rfl,by simp⟩
theorem z0j{r:Ref}{cs:List AV}(h:(cs.map (AV.drop r)).all AV.z1I=true):cs.map (AV.drop r)=cs∧cs.all AV.z1I=true∧(AV.sx (cs.map AV.pub)).drop r=.sx (cs.map AV.pub):=by
 have h1:∀x∈cs,x.has r=false∧x.drop r=x:=fun x hx=>j2T (Zbh.1 h _ (Zcy hx))
 have h2:cs.map (AV.drop r)=cs:=by
  conv=>rhs;rw[←List.map_id cs]
  exact Zdd fun x hx=>(h1 x hx).2
 rw[h2]at h;refine⟨h2,h,?_⟩;have h3:(AV.sx (cs.map AV.pub)).has r=false:=by
  simp only[AV.has,Zce];intro y hy;obtain⟨x,hx,rfl⟩:=Zat.1 hy;have:=(h1 x hx).1;have hsx:=Zbh.1 h x hx;cases x<;>simp_all[AV.pub,AV.q7D,AV.has,AV.z1I]
 simp[AV.drop,h3]
theorem j6C{r:Ref}{x:AV}(h:(x.drop r).nsr=true):x.nsr=true:=by
 unfold AV.drop at h;split at h
 ·cases h
 ·exact h
theorem j8F{cs:List AV}(h:cs.any AV.nsr=true)(r:Ref)(hd:(cs.map (AV.drop r)).any AV.nsr=false){l:List D}(hr:rdL cs=some l):False:=by
 obtain⟨x,hx,hn⟩:=Zbq.1 h;have h1:(x.drop r).nsr=false:=by
  have:=Zce.1 hd _ (Zcy hx);simpa using this
 have hh:x.has r=true:=by
  cases hh:x.has r with
  |true=>rfl
  |false=>rw[drop_eq hh,hn]at h1;cases h1
 obtain⟨i,hi⟩:=Zbb hx;obtain⟨k1,k2⟩:=z7c hr;have hlt:i<l.length:=by rw[←k1];exact(Zac.1 hi).1
 obtain⟨y,hy,hyr⟩:=k2 i _ (Zal hlt);rw[hi]at hy;cases hy;cases x<;>simp_all[AV.nsr,AV.has,AV.rd]
theorem j3O{r:Ref}{cs:List AV}{z:AV}(h:fLdA (cs.map (AV.drop r))=some z):∃z0,fLdA cs=some z0∧z0.drop r=z:=by
 unfold fLdA at *;cases hd:(cs.map (AV.drop r)).any AV.nsr with
 |true=>
  have hcs:cs.any AV.nsr=true:=by
   obtain⟨x,hx,hn⟩:=Zbq.1 hd;obtain⟨y,hy,rfl⟩:=Zat.1 hx;exact Zbq.2 ⟨y,hy,j6C hn⟩
  rw[hd]at h;simp only[if_true]at h;split at h
  ·rename_i hs;cases h;obtain⟨e1,e2,e3⟩:=z0j hs;rw[hcs,e2,e1];exact⟨_,rfl,e3⟩
  ·cases h
 |false=>
  rw[hd]at h;simp only[Zao,if_false]at h;rw[j1F]at h;cases hr:rdL cs with
  |some l=>
   rw[hr]at h;simp only at h;cases h;have:cs.any AV.nsr=false:=by
    cases hc:cs.any AV.nsr with
    |false=>rfl
    |true=>exact(j8F hc r hd hr).elim
   rw[this];exact⟨_,rfl,j7s _⟩
  |none=>
   rw[hr]at h;simp only at h;split at h
   ·rename_i hs;cases h;obtain⟨e1,e2,e3⟩:=z0j hs;rw[e1]at hd;rw[hd,e2,e1];exact⟨_,rfl,e3⟩
   ·cases h
theorem j2g{r:Ref}{cs:List AV}{z:AV}(hp:∀x∈cs,x.q7D r=false)(h:fLdA cs=some z):z.drop r=z:=by
 have sx:cs.all AV.z1I=true→(AV.sx (cs.map AV.pub)).drop r=.sx (cs.map AV.pub):=fun hs=>by
  refine drop_eq ?_;simp only[AV.has,Zce];intro y hy;obtain⟨x,hx,rfl⟩:=Zat.1 hy;have h1:=hp x hx;have h2:=Zbh.1 hs x hx;cases x<;>simp_all[AV.pub,AV.q7D,AV.z1I]
 unfold fLdA at h;split at h
 ·split at h
  ·cases h;exact sx (by assumption)
  ·cases h
 ·split at h
  ·cases h;rfl
  ·split at h
   ·cases h;exact sx (by assumption)
   ·cases h
theorem j3P{r:Ref}{agg:Bool}{m o:Nat}{cs:List AV}{z:AV}(h:fLdP agg m (cs.map (AV.drop r)) o=some z):∃z0,fLdP agg m cs o=some z0∧z0.drop r=z:=by
 unfold fLdP at *;cases agg
 ·simp only[Zao,if_false,Zan]at *;cases hx:cs[o]? with
  |none=>simp[hx]at h
  |some x=>simp[hx]at h;exact⟨x.den,rfl,by rw[←h];exact j5M r x⟩
 ·simp only[if_true,Zbn]at *;split at h
  ·rename_i hl;rw[if_pos hl];exact j3O (by simpa[List.map_take,List.map_drop]using h)
  ·cases h
theorem j0f{z:AV}(h:z.z6Z=true)(d:Nat):z.has (.l d)=false:=by
 cases z<;>simp[AV.z6Z]at h<;>try rfl
 all_goals(rename Ref=>r;cases r<;>simp at h;rfl)
theorem j51{σ:St}{d:Nat}{ds:List D}{agg:Bool}{m:Nat}{x z:AV}(hx:x.has (.l d)=false)(h:fLd (newO σ d ds) agg m x=some z):∃z0,fLd σ agg m x=some z0∧z0.drop (.l d)=z:=by
 unfold fLd at *;split at h
 ·rename_i r o;have hr:r≠.l d:=fun e=>by subst e;simp[AV.has]at hx
  split at h
  ·rename_i cs hcs;cases r with
   |l t=>
    have h3:=hcs;simp only[newO,St.j0k,St.q1s]at h3;rw[if_neg (fun e=>hr e.symm)]at h3;simp only[St.drop,St.obj,q2v]at h3;cases ho:aget σ.L t with
    |none=>simp[ho]at h3
    |some o'=>
     simp[ho]at h3;cases o' with
     |siter s p=>simp[q0P]at h3
     |miter l c=>simp[q0P]at h3
     |mobj l c=>simp[q0P]at h3
     |cells cs'=>
      simp[q0P]at h3;subst h3;simp only[St.obj,ho];exact j3P (z3U h)
   |x k=>
    have h3:aget σ.H k=some (.cells cs):=hcs;simp only[St.obj,h3];refine⟨z,h,?_⟩;cases hz:fLdP agg m cs o with
    |none=>rw[hz]at h;cases h
    |some y=>
     rw[hz]at h;simp only[fLdX]at h;split at h
     ·cases h;rename_i hl;exact drop_eq (j0f hl d)
     ·cases h
  ·cases h
 ·refine⟨z,h,?_⟩;split at h
  ·split at h<;>cases h;rfl
  ·rename_i cs _;cases hc:cs[0]?<;>simp[hc]at h;subst h;rfl
 ·refine⟨z,h,?_⟩;split at h
  ·split at h<;>cases h;rfl
  ·rename_i cs _;cases hc:cs[0]?<;>simp[hc]at h;subst h;rfl
 ·cases h
theorem j6M{σ:St}{d:Nat}{cs:List D}{v:LV}{z:AV}(hd:d∉q61 v)(ho:j4D v=true)(h:pev (newO σ d cs) v=some z):∃z0,pev σ v=some z0∧z0.drop (.l d)=z:=by
 have two:∀{a b:Bool},(a&&b)=true→a=true∧b=true:=fun h=>by simpa using h
 cases v<;>simp only[q61,Zaz,not_or]at hd<;>simp only[j4D]at ho<;>simp only[pev]at h ⊢
 case cp x=>rw[q0T hd ho]at h;cases h;exact⟨_,rfl,rfl⟩
 case pick c x y=>
  rw[q0T hd.1 (two ho).1,q0T hd.2.1 (two (two ho).2).1,q0T hd.2.2 (two (two ho).2).2]at h;obtain⟨_,_,h1⟩:=drop1 (g:=fun c=>z5b c ((σ.ev x).drop (.l d)) ((σ.ev y).drop (.l d))) rfl h;unfold z5b at h1 ⊢;split at h1
  ·rename_i _ _ t e;cases h1;simp only[e];refine⟨_,rfl,?_⟩;cases t<;>rfl
  ·cases h1
 case bin op x y=>
  rw[q0T hd.1 (two ho).1,q0T hd.2 (two ho).2]at h;obtain⟨_,_,h1⟩:=drop1 (g:=fun x=>fB (binD op x ((σ.ev y).drop (.l d)))) rfl h;obtain⟨_,_,h2⟩:=drop1 (g:=fun y=>fB (binD op (σ.ev x) y)) (by cases σ.ev x<;>first|rfl|(rename_i d;cases d<;>rfl)) h1;refine⟨z,h2,?_⟩;simp only[fB]at h2;cases hb:binD op (σ.ev x) (σ.ev y)<;>simp[hb]at h2;subst h2;rfl
 case eqB n x y=>
  rw[q0T hd.1 (two ho).1,q0T hd.2 (two ho).2]at h;obtain⟨_,_,h1⟩:=drop1 (g:=fun x=>fEqB n x ((σ.ev y).drop (.l d))) rfl h;obtain⟨_,_,h2⟩:=drop1 (g:=fun y=>fEqB n (σ.ev x) y) (by cases σ.ev x<;>first|rfl|(rename_i d;cases d<;>rfl)) h1;refine⟨z,h2,?_⟩;unfold fEqB at h2;split at h2<;>cases h2;rfl
 case eqN k n x=>
  rw[q0T hd ho]at h;obtain⟨_,_,h1⟩:=drop1 (g:=fun x=>fEqN k n x) (by simp[fEqN];intro h;cases k<;>simp[okN]at h) h;refine⟨z,h1,?_⟩;unfold fEqN fNil at h1;split at h1
  ·cases hb:isNil (σ.ev x)<;>simp[hb]at h1;subst h1;rfl
  ·cases h1
 case eqS n ks x y=>
  rw[q0T hd.1 (two ho).1,q0T hd.2 (two ho).2]at h;obtain⟨_,_,h1⟩:=drop1 (g:=fun x=>fEqS n ks x ((σ.ev y).drop (.l d))) rfl h;obtain⟨_,_,h2⟩:=drop1 (g:=fun y=>fEqS n ks (σ.ev x) y) (by cases σ.ev x<;>first|rfl|(rename_i d;cases d<;>rfl)) h1;refine⟨z,h2,?_⟩;unfold fEqS at h2;split at h2
  ·rename_i xs ys _ _;cases hb:eqCs ks xs ys<;>simp[hb]at h2;subst h2;rfl
  ·cases h2
 case not x=>
  rw[q0T hd ho]at h;obtain⟨_,_,h1⟩:=drop1 (g:=fNot) rfl h;refine⟨z,h1,?_⟩;unfold fNot at h1;split at h1<;>cases h1;rfl
 case neg x=>
  rw[q0T hd ho]at h;obtain⟨_,_,h1⟩:=drop1 (g:=fNeg) rfl h;refine⟨z,h1,?_⟩;unfold fNeg at h1;split at h1<;>cases h1;rfl
 case cvI k x=>
  rw[q0T hd ho]at h;obtain⟨_,_,h1⟩:=drop1 (g:=fCvI k) rfl h;refine⟨z,h1,?_⟩;unfold fCvI at h1;split at h1<;>cases h1;rfl
 case i2s x=>
  rw[q0T hd ho]at h;obtain⟨_,_,h1⟩:=drop1 (g:=fI2s) rfl h;refine⟨z,h1,?_⟩;unfold fI2s at h1;split at h1<;>cases h1;rfl
 case b2s x=>
  rw[q0T hd ho]at h;obtain⟨_,_,h1⟩:=drop1 (g:=fB2s) rfl h;refine⟨z,h1,?_⟩;unfold fB2s at h1;split at h1
  ·rename_i l _;cases hb:bytesOf l<;>simp[hb]at h1;subst h1;rfl
  ·cases h1
 case idxS x y=>
  rw[q0T hd.1 (two ho).1,q0T hd.2 (two ho).2]at h;obtain⟨_,_,h1⟩:=drop1 (g:=fun x=>z2W x ((σ.ev y).drop (.l d))) rfl h;obtain⟨_,_,h2⟩:=drop1 (g:=fun y=>z2W (σ.ev x) y) (by cases σ.ev x<;>first|rfl|(rename_i d;cases d<;>rfl)) h1;refine⟨z,h2,?_⟩;unfold z2W at h2;split at h2
  ·rename_i s k i _ _;cases hb:getI s i<;>simp[hb]at h2;subst h2;rfl
  ·cases h2
 case subS x lo hi=>
  rw[q0T hd.1 (two ho).1,z3j hd.2.1 (two (two ho).2).1,z3j hd.2.2 (two (two ho).2).2]at h;obtain⟨_,_,h1⟩:=drop1 (g:=fun x=>z6D x ((evO σ lo).map (AV.drop (.l d))) ((evO σ hi).map (AV.drop (.l d)))) rfl h;unfold z6D at h1 ⊢;split at h1
  ·split at h1
   ·rename_i s _ i j e1 e2;rw[j4p e1,z9Z e2];refine⟨z,h1,?_⟩;split at h1<;>cases h1;rfl
   ·cases h1
  ·cases h1
 case len s x=>
  rw[q0T hd ho]at h;obtain⟨_,_,h1⟩:=drop1 (g:=z5a s) (by cases s<;>rfl) h;refine⟨z,h1,?_⟩;unfold z5a fLen at h1;split at h1<;>(split at h1<;>first|(cases h1;done)|skip)<;>(try split at h1)<;>first|(cases h1;rfl)|cases h1
 case mm m x y=>
  rw[q0T hd.1 (two ho).1,q0T hd.2 (two ho).2]at h;obtain⟨_,_,h1⟩:=drop1 (g:=fun x=>fMm m x ((σ.ev y).drop (.l d))) rfl h;obtain⟨_,_,h2⟩:=drop1 (g:=fun y=>fMm m (σ.ev x) y) (by cases σ.ev x<;>first|rfl|(rename_i d;cases d<;>rfl)) h1;refine⟨z,h2,?_⟩;unfold fMm at h2;split at h2<;>cases h2;rfl
 case fa o x=>
  rw[q0T hd ho]at h;obtain⟨h0,_,h1⟩:=drop1 (g:=fFa o) rfl h;refine⟨z,h1,?_⟩;unfold fFa at h1;split at h1
  ·rename_i r o' e;cases h1;rw[e]at h0;exact drop_eq h0
  ·split at h1<;>cases h1;rfl
  ·split at h1<;>cases h1;rfl
  ·cases h1;rfl
  ·cases h1
 case ia s x y=>
  rw[q0T hd.1 (two ho).1,q0T hd.2 (two ho).2]at h;obtain⟨_,_,h1⟩:=drop1 (g:=fun x=>fIa s x ((σ.ev y).drop (.l d))) rfl h;have hj:fIa s (σ.ev x) .junk=none:=by
   cases hx:σ.ev x<;>simp only[fIa,fIaR,fIaD,AV.rd];split<;>simp_all
  obtain⟨_,_,h2⟩:=drop1 (g:=fun y=>fIa s (σ.ev x) y) hj h1;refine⟨z,h2,?_⟩;rename_i h0 _ _ _;unfold fIa at h2;split at h2
  ·rename_i r n c e;rw[e]at h0;unfold fIaR at h2;split at h2
   ·split at h2<;>cases h2;exact drop_eq (by simpa[AV.has]using h0)
   ·cases h2
  ·unfold fIaD at h2;split at h2
   ·split at h2
    ·split at h2<;>cases h2;rfl
    ·cases h2
   ·cases h2
 case iaA l s x y=>
  rw[q0T hd.1 (two ho).1,q0T hd.2 (two ho).2]at h;obtain⟨h0,_,h1⟩:=drop1 (g:=fun x=>fIaA l s x ((σ.ev y).drop (.l d))) rfl h;obtain⟨_,_,h2⟩:=drop1 (g:=fun y=>fIaA l s (σ.ev x) y) (by cases σ.ev x<;>rfl) h1;refine⟨z,h2,?_⟩;unfold fIaA at h2;split at h2
  ·rename_i r o k i e _;split at h2<;>cases h2;rw[e]at h0;exact drop_eq h0
  ·split at h2<;>cases h2;rfl
  ·cases h2
 case ld a m x=>
  rw[q0T hd ho]at h;obtain⟨h0,_,h1⟩:=drop1 (g:=fLd (newO σ d cs) a m) rfl h;exact j51 h0 h1
 case sub s x lo hi=>
  rw[q0T hd.1 (two ho).1,z3j hd.2.1 (two (two ho).2).1,z3j hd.2.2 (two (two ho).2).2]at h;unfold fSub at h ⊢;split at h
  ·rename_i z' hz';cases h;obtain⟨r,n,c,j,h1,h2,h3,h4,rfl⟩:=z3V hz';have h5:σ.ev x=.rs r n c∧r≠.l d:=by
    cases hx:(σ.ev x).has (.l d)with
    |true=>rw[AV.drop,if_pos hx]at h1;cases h1
    |false=>
     rw[drop_eq hx]at h1;refine⟨h1,fun e=>?_⟩;rw[h1,e]at hx;simp[AV.has]at hx
   refine⟨.rs r j.toNat c,?_,drop_eq (by simp[AV.has,h5.2])⟩;have h6:evO σ lo=none:=by cases hlo:evO σ lo<;>simp[hlo]at h2 ⊢
   rw[h5.1,h6];simp only[z5c,z9Z h3];rw[if_pos h4]
  rename_i hR;rw[z4D]at h;have hR':z5c (σ.ev x) (evO σ lo) (evO σ hi)=none:=by
   cases hx:σ.ev x<;>first|rfl|skip
   rw[hx]at h;cases h
  rw[hR'];split at h
  ·split at h
   ·rename_i s _ _ i j e1 e2;rw[j4p e1,z9Z e2];refine⟨z,h,?_⟩;split at h<;>cases h;rfl
   ·cases h
  ·cases h
 case fld a m o x=>
  rw[q0T hd ho]at h;obtain⟨h0,_,h1⟩:=drop1 (g:=fFld a m o) rfl h;refine⟨z,h1,?_⟩;unfold fFld at h1;split at h1
  ·split at h1
   ·split at h1<;>cases h1;rfl
   ·rename_i cs _ _;cases hb:cs[o]?<;>simp[hb]at h1;subst h1;rfl
  ·rename_i cs hcs;rw[hcs]at h0;have hp:∀x∈cs,x.q7D (.l d)=false:=fun x hx=>by
    have:=Zce.1 (show cs.any (AV.q7D (.l d))=false from h0) x hx;simpa using this
   split at h1
   ·split at h1
    ·refine j2g (fun x hx=>hp x ?_) h1;exact Zbv (Zbk hx)
    ·cases h1
   ·split at h1
    ·rename_i x hx;split at h1
     ·rename_i hsx;cases h1;have:=hp x (Zaf hx);refine drop_eq ?_;cases x<;>simp_all[AV.pub,AV.q7D,AV.has,AV.z1I]
     ·cases h1
    ·cases h1
  ·cases h1
 case bld p zz q l=>
  rw[z5T p zz hd ho]at h;refine⟨z,h,?_⟩;cases hb:q9X p zz (evP σ l)with
  |none=>rw[hb]at h;cases q<;>cases h
  |some out=>
   rw[hb]at h;cases q with
   |nil=>cases h;rfl
   |cons b bs=>
    cases h;exact z9O _ _ _
 case mkI t x=>
  rw[q0T hd ho]at h;unfold fMkI at h ⊢;rw[z4D]at h;refine⟨z,h,?_⟩;cases hb:(σ.ev x).rd<;>simp[hb]at h;subst h;rfl
 case asT t zz x=>
  rw[q0T hd ho]at h;obtain⟨_,_,h1⟩:=drop1 (g:=fAsT t zz) rfl h;refine⟨z,h1,?_⟩;unfold fAsT at h1;split at h1
  ·split at h1<;>cases h1<;>rfl
  ·cases h1;rfl
  ·cases h1
 case ext i x=>
  rw[q0T hd ho]at h;obtain⟨h0,_,h1⟩:=drop1 (g:=fExt i) rfl h;refine⟨z,h1,?_⟩;unfold fExt at h1;split at h1
  ·rename_i xs e;split at h1
   ·rename_i y hy;split at h1
    ·rename_i hs;have hyz:y=z:=by cases h1;rfl
     subst hyz;rw[e]at h0;refine drop_eq ?_;rw[AV.q4r hs];simp only[AV.has,Zce]at h0;exact Bool.eq_false_iff.2 (h0 y (Zaf hy))
    ·cases h1
   ·cases h1
  ·cases h1
 case nck x=>
  rw[q0T hd ho]at h;obtain⟨h0,_,h1⟩:=drop1 (g:=fNck) rfl h;refine⟨z,h1,?_⟩;unfold fNck at h1;split at h1
  ·rename_i r o e;cases h1;rw[e]at h0;exact drop_eq h0
  ·cases h1;rfl
  ·cases h1;rfl
  ·cases h1;rfl
  ·cases h1
 case mkF f a b=>cases ho
end Go.Av
/- Regions that draw their order: any two operations that stand apart. -/
namespace Go.Av
variable {P:Program} [Inv P]
def Cl(K:St→Prop)(σ:St):Prop:=∃τ,Eqv σ τ∧K τ
theorem z1U(σ:St):∀(l:List LX),(evL σ l).length=l.length
 |[]=>rfl
 |_::r=>by simp[evL,z1U σ r]
theorem j6Z(r:Ref)(x:Res):x.av.drop r=x.av:=by
 refine drop_eq ?_;cases x with
 |one x=>rfl
 |tup xs=>
  simp only[Res.av,AV.has,Zce];intro y hy;obtain⟨z,_,rfl⟩:=Zat.1 hy;simp[AV.q7D]
theorem j3k{r:Ref}{x:AV}{t:Bool}(h:x.drop r=.d (.bool t)):x=.d (.bool t):=by
 unfold AV.drop at h;split at h
 ·cases h
 ·exact h
theorem j3A{o:q0b}{σ:St}{d:Nat}{cs:List D}{e:Eff}(hd:d∉o.reads)(hk:o.keeps=true)(ho:j2E o.op=true)(h:q5i P o (newO σ d cs) e):∃z,q5i P o σ ⟨[],z⟩∧e=⟨[],z.drop (.l d)⟩:=by
 obtain⟨dst,op,g⟩:=o;simp only[q0b.reads,Zaz,not_or]at hd;have key:∀{e:Eff},DEff P dst op (newO σ d cs) e→∃z,DEff P dst op σ ⟨[],z⟩∧e=⟨[],z.drop (.l d)⟩:=fun{e} h=>by
  cases op<;>simp only[q0b.keeps]at hk<;>try(cases hk;done)
  ·rename_i v;obtain⟨h0,z,h1,rfl⟩:=h;obtain⟨z0,h2,h3⟩:=j6M (by simpa[z6l]using hd.1) (by simpa[j2E]using ho) h1;exact⟨z0,⟨h0,z0,h2,rfl⟩,by rw[h3]⟩
  ·rename_i e' sz l;obtain⟨k,xs,h1,h2,h3,rfl⟩:=h;rw[z2e (by simpa[z6l]using hd.1) (by simpa[j2E]using ho)]at h2;rw[z1U]at h3;exact⟨.d (.list xs),⟨k,xs,h1,h2,by rw[z1U];exact h3,rfl⟩,by rw[j7s]⟩
  ·rename_i f l;obtain⟨ds,r,h1,h2,rfl⟩:=h;rw[z2e (by simpa[z6l]using hd.1) (by simpa[j2E]using ho)]at h1;exact⟨r.av,⟨ds,r,h1,h2,rfl⟩,by rw[j6Z]⟩
 unfold q5i at *;cases g with
 |none=>exact key h
 |some sb=>
  obtain⟨s,b⟩:=sb;have hs:d≠s:=fun e=>hd.2 (by simp[e])
  rcases h with⟨t,h1,h2,h3⟩|⟨h1,h2⟩
  ·rw[z6G hs]at h1;have h1:=j3k h1
   by_cases ht:t=b
   ·obtain⟨z,hz,he⟩:=key (h2 ht);exact⟨z,.inl ⟨t,h1,fun _=>hz,fun hn=>absurd ht hn⟩,he⟩
   ·exact⟨und,.inl ⟨t,h1,fun hn=>absurd hn ht,fun _=>rfl⟩,by rw[h3 ht];rfl⟩
  ·rw[z6G hs]at h1;have h1':σ.get s=und:=by
    generalize σ.get s=x at h1;unfold AV.drop at h1;split at h1
    ·cases h1
    ·exact h1
   exact⟨und,.inr ⟨h1',rfl⟩,by rw[h2];rfl⟩
theorem j6y{σ:St}{d:Nat}{cs:List D}{k:Option Nat}{z:AV}(h:(match k with|some a=>d != a|none=>true)=true):Eqv (newO (putO σ k z) d cs) (putO (newO σ d cs) k (z.drop (.l d))):=by
 cases k with
 |none=>exact .refl _
 |some k=>
  have hne:d≠k:=by simpa using h
  refine⟨fun s=>?_,rfl,rfl⟩;simp only[newO,putO,St.put,St.setObj,St.drop,q3d,q2v]
  by_cases h1:d=s
  ·subst h1;simp[Ne.symm hne]
  ·simp only[if_neg h1]
   by_cases h2:k=s
   ·simp[h2]
   ·simp[h2]
theorem j98{p q:q0b}(hap:z2F p q=true){cs:List D}(hp:p.op=.allo cs)(hg:p.guard=none){d:Nat}(hd:p.dst=some d)(hk:q.keeps=true)(ho:j2E q.op=true){K:St→Prop}{σ:St}(h:LOps P [p] (Cl (q3P P q K)) σ):q3P P q (LOps P [p] (Cl K)) σ:=by
 obtain⟨pd,pop,pg⟩:=p;simp only at hp hg hd;subst hp hg hd;obtain⟨σ1,h1,τ,hτ,e,he,υ,hυ,hK⟩:∃σ',step1 σ (some d) (.allo cs)=some σ'∧Cl (q3P P q K) σ':=h;simp only[step1,q90]at h1;cases h1;unfold z2F at hap;simp only[Zah]at hap;obtain⟨⟨hne,hpq⟩,hqp⟩:=hap;have hdr:d∉q.reads:=by simpa[z4u]using hpq
 have he1:q5i P q (newO σ d cs) e:=he.agree (.j4C hτ.symm);obtain⟨z,hz,rfl⟩:=j3A hdr hk ho he1;refine⟨⟨[],z⟩,hz,_,.refl _,?_⟩;show ∃σ',step1 (putO σ q.dst z) (some d) (.allo cs)=some σ'∧Cl K σ'
 refine⟨_,rfl,υ,?_,hK⟩;refine .trans (j6y (by cases hq:q.dst<;>simp_all)) ?_;exact(hτ.putO q.dst _).trans hυ
/-! ### Ahead of a store -/
theorem j2f(σ:St)(q:Lab)(d:Nat)(x:AV):(σ.put d x).erase q=(σ.erase q).put d (x.erase q):=by
 cases q with
 |t s=>simp only[St.erase,St.put,q83]
 |c r off=>
  cases r with
  |l s=>
   simp only[St.erase,St.put,St.obj,q83];cases aget σ.L s with
   |none=>rfl
   |some o=>cases o<;>rfl
  |x k=>
   simp only[St.erase,St.put,St.obj,q83];cases aget σ.H k with
   |none=>rfl
   |some o=>cases o<;>rfl
theorem q5e(σ:St)(r:Ref)(o:AObj)(d:Nat)(x:AV):(σ.put d x).setObj r o=(σ.setObj r o).put d x:=by cases r<;>rfl
theorem z7X{q:Lab}{x:AV}(h:x.simple=true):x.erase q=x:=by cases x<;>first|rfl|simp[AV.simple]at h
theorem z7e{q q':Lab}{x:AV}(h:x.simple=true):x.rename q q'=x:=by cases x<;>first|rfl|simp[AV.simple]at h
def AV.j6f(z:AV):Prop:=(∀q,z.erase q=z)∧∀q q',z.rename q q'=z
theorem z8c{z:AV}(h:z.simple=true):z.j6f:=⟨fun _=>z7X h,fun _ _=>z7e h⟩
theorem j8Q{σ σ2:St}{m d:Nat}{A X z:AV}(hz:z.j6f)(h:stS σ m A X=some σ2):stS (σ.put d z) m A X=some (σ2.put d z):=by
 unfold stS at *;split at h
 ·rename_i r o;simp only[St.j0k];split at h
  ·rename_i cs hcs;split at h
   ·split at h
    ·rename_i hc;cases h;rw[if_pos hc,q5e]
    ·cases h
   ·split at h
    ·rename_i hc;rw[if_pos hc];simp only[j2f,hz.1]at h ⊢;have e1:∀k,({ (σ.erase (.c r o)).put d z with ρ:=amap (AV.rename (.t k) (.c r o)) ((σ.erase (.c r o)).put d z).ρ }:St)=St.put { σ.erase (.c r o)with ρ:=amap (AV.rename (.t k) (.c r o)) (σ.erase (.c r o)).ρ } d z:=fun k=>by
      simp only[St.put,q83,hz.2]
     rw[e1];simp only[St.j0k];split at h
     ·cases h;rw[q5e]
     ·cases h
    ·cases h
   ·split at h
    ·rename_i hc;cases h;rw[if_pos hc,q5e]
    ·cases h
   ·split at h
    ·rename_i hc;cases h;rw[if_pos hc,q5e]
    ·cases h
   ·split at h
    ·rename_i hc;cases h;rw[if_pos hc,q5e]
    ·cases h
   ·split at h
    ·rename_i hc;cases h;rw[if_pos hc,q5e]
    ·cases h
   ·split at h
    ·rename_i hc;cases h;rw[if_pos hc,q5e]
    ·cases h
   ·cases h
  ·cases h
 ·cases h
theorem j8P{σ σ2:St}{m:Nat}{A X:AV}(h:stS σ m A X=some σ2)(s:Nat):σ2.get s=σ.get s∨∃q q' q'',σ2.get s=((σ.get s).erase q).rename q' q'':=by
 unfold stS at h;have hset:∀(τ:St) (r:Ref) (o:AObj),(τ.setObj r o).get s=τ.get s:=fun τ r o=>by cases r<;>rfl
 have hren:∀(s':Nat) (r:Ref) (o:Nat),St.get { σ.erase (.c r o)with ρ:=amap (AV.rename (.t s') (.c r o)) (σ.erase (.c r o)).ρ } s=((σ.get s).erase (.c r o)).rename (.t s') (.c r o):=fun s' r o=>by
  simp only[St.get,q2v,q8a];cases aget σ.ρ s<;>rfl
 split at h
 ·split at h
  ·split at h
   ·split at h<;>cases h;exact .inl (hset _ _ _)
   ·split at h
    ·dsimp only at h;split at h
     ·cases h;exact .inr ⟨_,_,_,(hset _ _ _).trans (hren _ _ _)⟩
     ·cases h
    ·cases h
   ·split at h<;>cases h;exact .inl (hset _ _ _)
   ·split at h<;>cases h;exact .inl (hset _ _ _)
   ·split at h<;>cases h;exact .inl (hset _ _ _)
   ·split at h<;>cases h;exact .inl (hset _ _ _)
   ·split at h<;>cases h;exact .inl (hset _ _ _)
   ·cases h
  ·cases h
 ·cases h
theorem j2N{x:AV}{q q' q'':Lab}{y:AV}(h:(x.erase q).rename q' q''=y)(hy:(∃t,y=.d (.bool t))∨∃xs,y=.tuple xs):x=y:=by
 cases x<;>try exact h
 rename_i q0 e sz l;exfalso
 simp only[AV.erase]at h;split at h
 ·simp only[AV.rename]at h;rcases hy with⟨t,rfl⟩|⟨xs,rfl⟩<;>cases h
 ·simp only[AV.rename]at h;split at h<;>rcases hy with⟨t,rfl⟩|⟨xs,rfl⟩<;>cases h
theorem z0R{σ σ2:St}{m:Nat}{A X:AV}(h:stS σ m A X=some σ2){s:Nat}{y:AV}(e:σ2.get s=y)(hy:(∃t,y=.d (.bool t))∨∃xs,y=.tuple xs):σ.get s=y:=by
 rcases j8P h s with h1|⟨q,q',q'',h1⟩
 ·rw[←h1];exact e
 ·exact j2N (h1.symm.trans e) hy
theorem j7W{σ σ2:St}{m:Nat}{A X:AV}(h:stS σ m A X=some σ2){o:q0b}(ho:z97 o.op=true){e:Eff}(he:q5i P o σ2 e):∃z,z.j6f∧q5i P o σ ⟨[],z⟩∧e=⟨[],z⟩:=by
 obtain⟨dst,op,g⟩:=o;have hop:∃i s,op=.val (.ext i (.t s)):=by
  unfold z97 at ho;split at ho
  ·exact⟨_,_,by assumption⟩
  ·cases ho
 obtain⟨i,s,rfl⟩:=hop;have key:∀{e:Eff},DEff P dst (.val (.ext i (.t s))) σ2 e→∃z,z.j6f∧DEff P dst (.val (.ext i (.t s))) σ ⟨[],z⟩∧e=⟨[],z⟩:=fun{e} ⟨h0,z,h1,h2⟩=>by
  have h1':fExt i (σ2.get s)=some z:=h1;unfold fExt at h1';split at h1'
  ·rename_i xs hx;have hx':=z0R h hx (.inr ⟨_,rfl⟩);split at h1'
   ·rename_i y hy;split at h1'
    ·rename_i hs;have hyz:y=z:=by cases h1';rfl
     subst hyz;refine⟨y,z8c hs,⟨h0,y,?_,rfl⟩,h2⟩;show fExt i (σ.get s)=some y
     rw[hx'];simp only[fExt,hy,hs,if_true]
    ·cases h1'
   ·cases h1'
  ·cases h1'
 unfold q5i at *;cases g with
 |none=>exact key he
 |some sb=>
  obtain⟨s',b⟩:=sb;rcases he with⟨t,h1,h2,h3⟩|⟨h1,h2⟩
  ·have h1:=z0R h h1 (.inl ⟨_,rfl⟩)
   by_cases ht:t=b
   ·obtain⟨z,hz,hs,he⟩:=key (h2 ht);exact⟨z,hz,.inl ⟨t,h1,fun _=>hs,fun hn=>absurd ht hn⟩,he⟩
   ·exact⟨und,⟨fun _=>rfl,fun _ _=>rfl⟩,.inl ⟨t,h1,fun hn=>absurd hn ht,fun _=>rfl⟩,by rw[h3 ht]⟩
  ·have h1:=z0R h h1 (.inr ⟨_,rfl⟩);exact⟨und,⟨fun _=>rfl,fun _ _=>rfl⟩,.inr ⟨h1,rfl⟩,by rw[h2]⟩
theorem j99{p q:q0b}(hap:z2F p q=true)(hp:isSt p.op=true)(hd:p.dst=none)(hg:p.guard=none)(hq:z97 q.op=true){K:St→Prop}{σ:St}(h:LOps P [p] (Cl (q3P P q K)) σ):q3P P q (LOps P [p] (Cl K)) σ:=by
 obtain⟨pd,pop,pg⟩:=p;simp only at hp hg hd;subst hg hd;obtain⟨m,x,y,rfl⟩:∃m x y,pop=.st m x y:=by
  unfold isSt at hp;split at hp
  ·exact⟨_,_,_,rfl⟩
  ·cases hp
 obtain⟨σ1,h1,τ,hτ,e,he,υ,hυ,hK⟩:∃σ',step1 σ none (.st m x y)=some σ'∧Cl (q3P P q K) σ':=h;simp only[step1,j5e]at h1;unfold z2F at hap;simp only[Zah]at hap;obtain⟨_,hqp⟩:=hap;have he1:q5i P q σ1 e:=he.agree (.j4C hτ.symm);obtain⟨z,hz,hs,rfl⟩:=j7W h1 hq he1;refine⟨⟨[],z⟩,hs,_,.refl _,?_⟩;show ∃σ',step1 (putO σ q.dst z) none (.st m x y)=some σ'∧Cl K σ'
 simp only[step1,j5e];have ag:q0N (q14 x++q14 y) (putO σ q.dst z) σ:=q7y _ _ (by simpa[q0b.reads,z6l]using hqp);rw[q0N.ev (x:=x) ag.left,q0N.ev (x:=y) ag.right];refine⟨putO σ1 q.dst z,?_,υ,(hτ.putO q.dst z).trans hυ,hK⟩;cases q.dst with
 |none=>exact h1
 |some k=>exact j8Q hz h1
end Go.Av
/- Regions that draw their order: whichever is drawn, what is shown of the order of the text holds. -/
namespace Go.Av
variable {E:Entry} {n:Nat} {G:q0s} {σ σ':St} {a:Act} {w:World} {P:Program} [Inv P] [HasInv P E]
theorem q9V(h:SR E n G σ a.tmps w){ops:Array Oper}{j s:Nat}(hj:(ops[j]?).bind (·.dst)=some s){t:Bool}(hs:σ.get s=.d (.bool t))(hn:s<n):yielded ops a.tmps j=some t:=by
 have:=h.get s;rw[hs]at this;have:=this.dinv;simp only[Act.eval]at this;have hv:a.tmps.getD s undef=.bool t:=by
  generalize a.tmps.getD s undef=v at this;cases this;rfl
 have hlt:s<a.tmps.size:=by rw[h.size];exact hn
 have hg:a.tmps[s]?=some (.bool t):=by
  rw[←hv];simp[hlt]
 unfold yielded;rw[hj];simp only[Option.bind_some,hg]
theorem SR.z7o(h:SR E n G σ a.tmps w){s:Nat}{t:Bool}(hs:σ.get s=.d (.bool t)):s<n:=by
 have h1:=h.get s;rw[hs]at h1;have h1:=h1.dinv;simp only[Act.eval]at h1;refine Classical.byContradiction fun hl=>?_
 have hu:a.tmps.getD s undef=undef:=by
  have:a.tmps.size≤s:=by rw[h.size];omega
  simp[this]
 rw[hu]at h1
 revert h1
 unfold undef;intro h1;cases h1
def q8v(P:Program)[Inv P](n:Nat)(ops:Array Oper)(o:Oper)(x:q0b):Prop:=∃y c,q2B P n ops o=some y∧((x=y∨x=y.copy)∨(x=y.setC c∨x=y.copy.setC c))
def j93:LO→Bool
 |.prim _ _ _|.st _ _ _|.stC _ _ _ _=>true
 |_=>false
theorem j45{y:q0b}(h:j93 y.op=false)(c:List (Nat×LV)):y.setC c=y:=by
 unfold q0b.setC;split
 ·rename_i e;rw[e]at h;cases h
 ·rename_i e;rw[e]at h;cases h
 ·rename_i e;rw[e]at h;cases h
 ·rfl
theorem z2j(y:q0b)(c:List (Nat×LV)):y.setC c=y∨(∃p xs k,y.op=.prim p xs k∧y.setC c={ y with op:=.prim p xs c })∨∃m a b,(y.op=.st m a b∨∃k,y.op=.stC m a b k)∧y.setC c={ y with op:=.stC m a b c }:=by
 unfold q0b.setC;split
 ·exact .inr (.inl ⟨_,_,_,by assumption,rfl⟩)
 ·exact .inr (.inr ⟨_,_,_,.inl (by assumption),rfl⟩)
 ·exact .inr (.inr ⟨_,_,_,.inr ⟨_,by assumption⟩,rfl⟩)
 ·exact .inl rfl
theorem j1Q(y:q0b)(c:List (Nat×LV)):(y.setC c).dst=y.dst∧(y.setC c).guard=y.guard:=by
 rcases z2j y c with e|⟨p,xs,k,_,e⟩|⟨m,a,b,_,e⟩<;>rw[e]<;>exact⟨rfl,rfl⟩
theorem z4P(y:q0b)(c c':List (Nat×LV)):(y.setC c).setC c'=y.setC c':=by
 obtain⟨d,op,g⟩:=y;cases op<;>rfl
def q65(p q:q0b):q0b:=
 match q.op with
 |.prim pr xs chk=>if isFa p.op then{ q with op:=.prim pr xs (chk.filter fun e=>some e.1 != p.dst) }else q
 |.stC m x y chk=>if isVal p.op then{ q with op:=.stC m x y (chk.filter fun e=>some e.1 != p.dst&&z4u p.dst (q61 e.2)) }else q
 |_=>q
def q64:List q0b→q0b→q0b
 |[],q=>q
 |p::pre,q=>q65 p (q64 pre q)
theorem z5P(p q:q0b):q65 p q=q∨∃c,q65 p q=q.setC c:=by
 obtain⟨d,op,g⟩:=q;unfold q65;dsimp only;split
 ·split
  ·exact .inr ⟨_,rfl⟩
  ·exact .inl rfl
 ·split
  ·exact .inr ⟨_,rfl⟩
  ·exact .inl rfl
 ·exact .inl rfl
theorem z2M:∀(pre:List q0b) (q:q0b),q64 pre q=q∨∃c,q64 pre q=q.setC c
 |[],q=>.inl rfl
 |p::pre,q=>by
  have e:q64 (p::pre) q=q65 p (q64 pre q):=rfl;rw[e];rcases z2M pre q with h|⟨c,h⟩<;>rw[h]
  ·exact z5P p q
  ·rcases z5P p (q.setC c)with h'|⟨c',h'⟩<;>rw[h']
   ·exact .inr ⟨c,rfl⟩
   ·exact .inr ⟨c',z4P _ _ _⟩
theorem q8v.setC{n:Nat}{ops:Array Oper}{o:Oper}{x:q0b}(h:q8v P n ops o x)(c:List (Nat×LV)):q8v P n ops o (x.setC c):=by
 obtain⟨y,c',hy,he⟩:=h;refine⟨y,c,hy,.inr ?_⟩;rcases he with(rfl|rfl)|(rfl|rfl)
 ·exact .inl rfl
 ·exact .inr rfl
 ·exact .inl (z4P _ _ _)
 ·exact .inr (z4P _ _ _)
theorem q34{ops:Array Oper}{o:Oper}{y:q0b}(h:q2B P n ops o=some y):q4p n o.dst=true∧y.dst=o.dst∧q8z P o=some y.op∧guardOf ops o.guard=some y.guard:=by
 unfold q2B at h;split at h
 ·rename_i hd;split at h
  ·rename_i op g hE hg;cases h;exact⟨hd,rfl,hE,hg⟩
  ·cases h
 ·cases h
def j5E(op:LO)(x:LX):Prop:=op=.asg x∨∃e sz,op=.nils e sz∧x=.k (.d (.list []))
theorem q9B{y:q0b}:y.copy=y∨∃x,j5E y.op x∧y.copy={ y with op:=.val (.cp x) }:=by
 unfold q0b.copy;split
 ·exact .inr ⟨_,.inl (by assumption),rfl⟩
 ·exact .inr ⟨_,.inr ⟨_,_,by assumption,rfl⟩,rfl⟩
 ·exact .inl rfl
theorem j4f{o:Oper}{x:LX}(h:q5Z P o=some (.asg x)):∃X,o.op=.assign X∧q1o X=some x:=by
 unfold q5Z at h;split at h
 ·rename_i X ho;split at h
  ·split at h<;>cases h
  ·obtain⟨z,h1,h2⟩:=map_none h;cases h2;exact⟨X,ho,h1⟩
 ·split at h<;>cases h
 ·obtain⟨_,_,h⟩:=map_none h;cases h
 ·split at h<;>cases h
 ·unfold q2m at h;split at h
  ·obtain⟨_,_,_,_,_,_,h⟩:=q2A h;cases h
  ·cases h
 ·split at h
  ·obtain⟨_,_,h⟩:=map_none h;cases h
  ·cases h
 ·split at h
  ·split at h<;>cases h
  ·cases h
 ·split at h
  ·split at h<;>cases h
  ·obtain⟨_,_,h⟩:=map_none h;cases h
 ·obtain⟨_,_,h⟩:=map_none h;cases h
theorem j4i{o:Oper}{e sz:Nat}{l:List LX}(h:q5Z P o=some (.bsl e sz l)):∃t len parts by_,o.op=.buildSlice t len parts∧q45 P t=some (e,sz,by_)∧q2x (parts.toList.map (·.2))=some l∧z0B 0 parts.toList=true∧parts.size=len∧q3g P e=true:=by
 unfold q5Z at h;split at h
 ·split at h
  ·split at h<;>cases h
  ·obtain⟨_,_,h⟩:=map_none h;cases h
 ·split at h<;>cases h
 ·obtain⟨_,_,h⟩:=map_none h;cases h
 ·split at h<;>cases h
 ·unfold q2m at h;split at h
  ·obtain⟨_,_,_,_,_,_,h⟩:=q2A h;cases h
  ·cases h
 ·split at h
  ·obtain⟨_,_,h⟩:=map_none h;cases h
  ·cases h
 ·rename_i t len parts ho;split at h
  ·rename_i e' sz' by_ l' h1 h2;split at h
   ·rename_i hc;cases h;simp only[Zah,beq_iff_eq]at hc;exact⟨t,len,parts,by_,ho,h1,h2,hc.1.1,hc.1.2,hc.2⟩
   ·cases h
  ·cases h
 ·split at h
  ·split at h<;>cases h
  ·obtain⟨_,_,h⟩:=map_none h;cases h
 ·obtain⟨_,_,h⟩:=map_none h;cases h
theorem z54{o:Oper}{e sz:Nat}(h:q5Z P o=some (.nils e sz)):o.op=.assign (.const (.slice none 0 0)):=by
 unfold q5Z at h;split at h
 ·rename_i x ho;split at h
  ·exact ho
  ·obtain⟨_,_,h⟩:=map_none h;cases h
 ·split at h<;>cases h
 ·obtain⟨_,_,h⟩:=map_none h;cases h
 ·split at h<;>cases h
 ·unfold q2m at h;split at h
  ·obtain⟨_,_,_,_,_,_,h⟩:=q2A h;cases h
  ·cases h
 ·split at h
  ·obtain⟨_,_,h⟩:=map_none h;cases h
  ·cases h
 ·split at h
  ·split at h<;>cases h
  ·cases h
 ·split at h
  ·split at h<;>cases h
  ·obtain⟨_,_,h⟩:=map_none h;cases h
 ·obtain⟨_,_,h⟩:=map_none h;cases h
theorem z99{o:Oper}{op:LO}{x:LX}(h:q8z P o=some op)(hx:j5E op x):∃X,o.op=.assign X∧q1o X=some x:=by
 rcases hx with rfl|⟨e,sz,rfl,rfl⟩
 ·exact j4f (q3A h (fun p xs chk e=>by cases e))
 ·exact⟨_,z54 (q3A h (fun p xs chk e=>by cases e)),rfl⟩
theorem j2v{o:Oper}{p:Prim}{xs:List LX}{k:List (Nat×LV)}(h:q8z P o=some (.prim p xs k)):k=[]:=by
 unfold q8z at h;split at h
 ·obtain⟨_,_,h⟩:=map_none h;cases h;rfl
 ·exact(j1k h).elim
theorem q38(h:SR E n G σ a.tmps w){ops:Array Oper}{o:Oper}{x:q0b}(hl:q8v P n ops o x){K:St→Prop}(hs:q7s P x K σ){next:Act→World→Prop}{Q:Exit→Act→World→Prop}
  (hK:∀a' w',z1O E n K a.defers a' w'→next a' w'):o.wp P a w next Q:=by
 obtain⟨y,c,hy,he⟩:=hl;have hxy:x=y∨x=y.setC c∨∃z,j5E y.op z∧x={ y with op:=.val (.cp z) }:=by
  have cp:∀{z},j5E y.op z→y.copy={ y with op:=.val (.cp z) }→y.copy.setC c=y.copy:=fun{z} hz e=>by
   rw[e];exact j45 rfl c
  rcases he with(rfl|rfl)|(rfl|rfl)
  ·exact .inl rfl
  ·rcases q9B (y:=y)with e|⟨z,hz,e⟩
   ·exact .inl e
   ·exact .inr (.inr ⟨z,hz,e⟩)
  ·exact .inr (.inl rfl)
  ·rcases q9B (y:=y)with e|⟨z,hz,e⟩
   ·rw[e];exact .inr (.inl rfl)
   ·exact .inr (.inr ⟨z,hz,by rw[cp hz e,e]⟩)
 rcases hxy with rfl|rfl|⟨z,hz,rfl⟩
 ·exact q8g h hy hs hK
 ·refine q8g h hy ?_ hK;rcases z2j y c with e|⟨p,xs,k,hp,e⟩|⟨m,u,v,hp,e⟩
  ·rw[e]at hs;exact hs
  ·have hk:k=[]:=by
    obtain⟨_,_,hE,_⟩:=q34 hy;rw[hp]at hE;exact j2v hE
   subst hk;rw[e]at hs;obtain⟨d,op,g⟩:=y;simp only at hp;subst hp;have hs:q8T P d p xs (ChkK c K) σ:=hs;exact q8T.mono (fun σ h=>⟨trivial,h.2⟩) hs
  ·rw[e]at hs;obtain⟨d,op,g⟩:=y;rcases hp with hp|⟨k,hp⟩<;>simp only at hp<;>subst hp
   ·obtain⟨σ',h1,h2⟩:=hs;exact⟨σ',h1,h2.2⟩
   ·obtain⟨_,_,hE,_⟩:=q34 hy;exact(z8v hE).elim
 ·obtain⟨hd,hdst,hE,_⟩:=q34 hy;obtain⟨X,ho,hX⟩:=z99 hE hz;have hrun:(execOp a.eval o).run P w=.ok (.value (a.eval X)) w:=by simp only[execOp,ho];rfl
  unfold q7s at hs;obtain⟨σ',h1,h2⟩:=hs;unfold Oper.wp;rw[hrun];refine hK _ _ ⟨G,σ',h2,?_,put_defers a _ _⟩;have rx:=h.ev hX;simp only[step1,hdst]at h1;cases hdd:o.dst with
  |none=>rw[hdd]at h1;simp[j5e]at h1
  |some d=>
   rw[hdd]at h1 hd;simp only[q90,putV,pev]at h1;cases h1;simpa[Act.put,hdd]using h.put rx (by simpa[q4p]using hd)
theorem j4r{x:q0b}(h:x.q5D=true):(∃v,x.op=.val v)∨(∃f l,x.op=.call f l)∨(∃e sz l,x.op=.bsl e sz l)∨∃e sz b s u v,x.op=.app e sz b s u v:=by
 unfold q0b.q5D at h;split at h
 ·exact .inl ⟨_,by assumption⟩
 ·exact .inr (.inl ⟨_,_,by assumption⟩)
 ·exact .inr (.inr (.inl ⟨_,_,_,by assumption⟩))
 ·exact .inr (.inr (.inr ⟨_,_,_,_,_,_,by assumption⟩))
 ·cases h
theorem j19(h:SR E n G σ a.tmps w){ops:Array Oper}{o:Oper}{x:q0b}(hl:q8v P n ops o x)(hm:x.q5D=true){e:Eff}(hs:DEff P x.dst x.op σ e){K:St→Prop}(hKe:K (e.app x.dst σ)){next:Act→World→Prop}{Q:Exit→Act→World→Prop}
  (hK:∀a' w',z1O E n K a.defers a' w'→next a' w'):o.wp P a w next Q:=by
 obtain⟨d,op,g⟩:=x;rcases j4r hm with⟨v,ho⟩|⟨f,l,ho⟩|⟨e1,sz,l,ho⟩|⟨e1,sz,b,s,u,v,ho⟩<;>simp only at ho<;>subst ho<;>simp only[DEff]at hs
 ·obtain⟨h0,z,h1,rfl⟩:=hs;cases d with
  |none=>cases h0
  |some d=>exact q38 h hl (K:=K) ⟨σ.put d z,by simp[step1,q90,putV,h1],hKe⟩ hK
 ·obtain⟨ds,r,h1,h2,rfl⟩:=hs;exact q38 h hl (K:=K) (.inl ⟨ds,_,h1,h2,fun r' e=>by subst e;exact hKe⟩) hK
 ·obtain⟨k,l',rfl,h2,h3,rfl⟩:=hs;obtain⟨y,c,hy,hxy⟩:=hl;have hsc:∀{y:q0b},(⟨some k,.bsl e1 sz l,g⟩:q0b)=y.setC c→y=⟨some k,.bsl e1 sz l,g⟩:=fun{y} e=>by
   rcases z2j y c with e'|⟨p,xs,kk,_,e'⟩|⟨_,_,_,_,e'⟩
   ·rw[e']at e;exact e.symm
   ·rw[e']at e;have:=congrArg q0b.op e;simp at this
   ·rw[e']at e;have:=congrArg q0b.op e;simp at this
  have hyb:y.dst=some k∧y.op=.bsl e1 sz l:=by
   rcases hxy with(e|e)|(e|e)
   ·rw[←e];exact⟨rfl,rfl⟩
   ·have e:=e.symm;rcases q9B (y:=y)with e'|⟨z,_,e'⟩
    ·rw[e']at e;rw[e];exact⟨rfl,rfl⟩
    ·rw[e']at e;have:=congrArg q0b.op e;simp at this
   ·rw[hsc e];exact⟨rfl,rfl⟩
   ·have e:=hsc e;rcases q9B (y:=y)with e'|⟨z,_,e'⟩
    ·rw[e']at e;rw[e];exact⟨rfl,rfl⟩
    ·rw[e']at e;have:=congrArg q0b.op e;simp at this
  obtain⟨hd,hdst,hE,_⟩:=q34 hy;rw[hyb.1]at hdst;rw[hyb.2]at hE;have hn:k<n:=by rw[←hdst]at hd;simpa[q4p]using hd
  obtain⟨t,len,parts,bb,ho,g1,g2,g3,g4,g5⟩:=j4i (q3A hE (fun p xs chk e=>by cases e));obtain⟨nx,v,w',G',r1,r2,r3⟩:=j3o h hdst.symm hn ho g1 g2 g3 g4 g5 h2 h3;unfold Oper.wp;rw[r1];rcases r2 with rfl|⟨rfl,rfl⟩
  ·exact hK _ _ ⟨G',_,hKe,r3,put_defers a _ _⟩
  ·exact hK _ _ ⟨G',_,hKe,r3,put_defers a _ _⟩
 ·obtain⟨k,er,l',ys,rfl,h2,h3,h4,rfl⟩:=hs;rcases h2 with⟨q,h2,rfl⟩|⟨h2,rfl,rfl⟩
  ·exact q38 h hl (K:=K) ⟨_,by simp only[step1,q90,appS,h2,h3];rw[if_pos ⟨trivial,trivial,h4.1,h4.2⟩];rfl,hKe⟩ hK
  ·simp only[Zag,Zbg]at h4;exact q38 h hl (K:=K) ⟨_,by simp only[step1,q90,appS,h2,h3];rw[if_pos h4];rfl,hKe⟩ hK
def q05(P:Program)[Inv P](o:q0b)(K:St→Prop)(σ:St):Prop:=if o.q5D then q3P P o K σ else LOps P [o] (Cl K) σ
def z7A(P:Program)[Inv P]:List q0b→(St→Prop)→St→Prop
 |[],K,σ=>∃τ,Eqv σ τ∧K τ
 |o::os,K,σ=>q05 P o (z7A P os K) σ
theorem q9R:undef=.tuple #[]:=rfl
theorem undR{G:q0s}{w:World}{v:Value}(h:v=.tuple #[]):AVR G w und v:=by
 subst h;exact .tuple [] #[] rfl (fun _ h=>by simp at h) (fun _ _ h=>by simp at h)
theorem q8j(h:SR E n G σ a.tmps w){ops:Array Oper}{j s:Nat}(hj:(ops[j]?).bind (·.dst)=some s){b:Bool}(hs:σ.get s=und):yielded ops a.tmps j≠some b:=by
 have:=h.get s;rw[hs]at this;have hv:a.tmps.getD s undef=.tuple #[]:=by
  have h2:AVR G w und (a.tmps.getD s undef):=this;generalize a.tmps.getD s undef=v at h2;cases h2 with
  |tuple _ vs hl _ _=>
   have:vs = #[]:=by cases vs;simp_all
   rw[this]
 intro hy;unfold yielded at hy;rw[hj]at hy;simp only[Option.bind_some]at hy;cases hg:a.tmps[s]? with
 |none=>rw[hg]at hy;cases hy
 |some v=>
  rw[hg]at hy;have hgd:a.tmps.getD s undef=v:=by simp[hg]
  rw[hv]at hgd;subst hgd;cases hy
theorem j3D(h:SR E n G σ a.tmps w){ops:Array Oper}{i:Nat}{o:Oper}(hi:ops[i]?=some o){x:q0b}(hl:q8v P n ops o x){K:St→Prop}(hs:q05 P x K σ){next:Act→World→Prop}{Q:Exit→Act→World→Prop}
  (hK:∀a' w',z1O E n K a.defers a' w'→next a' w'):wpOp P ops Q i next a w:=by
 have hinv:q4p n o.dst=true∧x.dst=o.dst∧guardOf ops o.guard=some x.guard:=by
  obtain⟨y,c,hy,he⟩:=hl;obtain⟨h1,h2,_,h4⟩:=q34 hy;rcases he with(rfl|rfl)|(rfl|rfl)
  ·exact⟨h1,h2,h4⟩
  ·rcases q9B (y:=y)with e|⟨z,_,e⟩<;>rw[e]<;>exact⟨h1,h2,h4⟩
  ·obtain⟨e1,e2⟩:=j1Q y c;rw[e1,e2];exact⟨h1,h2,h4⟩
  ·obtain⟨e1,e2⟩:=j1Q y.copy c;rw[e1,e2];rcases q9B (y:=y)with e|⟨z,_,e⟩<;>rw[e]<;>exact⟨h1,h2,h4⟩
 obtain⟨hdst,hxd,hgd⟩:=hinv;unfold wpOp;simp only[hi]
 -- by guard: done, or skipped
 have key:(x.guard=none→o.wp P a w next Q)→(∀s b t,x.guard=some (s,b)→σ.get s=.d (.bool t)→(t=b→o.wp P a w next Q)∧(t≠b→next (a.put o.dst undef) w))→(∀s b,x.guard=some (s,b)→(∃t,σ.get s=.d (.bool t))∨(σ.get s=und∧next (a.put o.dst undef) w))→
   if Region.wanted o (yielded ops a.tmps)then o.wp P a w next Q∨(o.asks P a w∧LetsOut Q)else next (a.put o.dst undef) w:=fun k1 k2 k3=>by
  cases hg:o.guard with
  |none=>
   rw[hg]at hgd;simp[guardOf]at hgd;rw[if_pos (by simp[Region.wanted,hg])];exact .inl (k1 hgd.symm)
  |some jb=>
   obtain⟨j,b⟩:=jb;rw[hg]at hgd;simp only[guardOf]at hgd;split at hgd
   ·rename_i s hs';simp only[Zas]at hgd;rcases k3 s b hgd.symm with⟨t,ht⟩|⟨hu,hnx⟩
    rotate_left
    ·have hy:yielded ops a.tmps j≠some b:=q8j h hs' hu;rw[if_neg (by simp[Region.wanted,hg,hy])];exact hnx
    have hy:=q9V h hs' ht (h.z7o ht);obtain⟨m1,m2⟩:=k2 s b t hgd.symm ht
    by_cases htb:t=b
    ·rw[if_pos (by simp[Region.wanted,hg,hy,htb])];exact .inl (m1 htb)
    ·rw[if_neg (by simp[Region.wanted,hg,hy,htb])];exact m2 htb
   ·cases hgd
 have skipped:∀{τ:St},Eqv (putO σ x.dst und) τ→K τ→next (a.put o.dst undef) w:=fun he hk=>
  hK _ _ ⟨G,_,hk,(h.putO hdst (undR q9R)).eqv (hxd▸he),put_defers a _ _⟩
 unfold q05 at hs;split at hs
 ·rename_i hm;obtain⟨e,he,τ,hτ,hk⟩:=hs;have go:DEff P x.dst x.op σ e→o.wp P a w next Q:=fun hd=>
   j19 (K:=fun υ=>Eqv υ τ) h hl hm hd hτ fun a' w' ⟨G',υ,h1,h2,h3⟩=>hK _ _ ⟨G',τ,hk,h2.eqv h1,h3⟩
  unfold q5i at he;refine key (fun hg=>?_) (fun s b t hg ht=>?_) (fun s b hg=>?_)<;>rw[hg]at he
  ·exact go he
  ·rcases he with⟨t',h1,h2,h3⟩|⟨h1,_⟩
   ·rw[ht]at h1;cases h1;refine⟨fun e=>go (h2 e),fun e'=>?_⟩;have:=h3 e';subst this;exact skipped hτ hk
   ·rw[ht]at h1;cases h1
  ·rcases he with⟨t',h1,_⟩|⟨h1,h2⟩
   ·exact .inl ⟨t',h1⟩
   ·subst h2;exact .inr ⟨h1,skipped hτ hk⟩
 ·simp only[LOps]at hs;refine key (fun hg=>?_) (fun s b t hg ht=>?_) (fun s b hg=>?_)<;>rw[hg]at hs
  ·exact q38 h hl hs fun a' w' ⟨G',υ,⟨τ,h1,hk⟩,h2,h3⟩=>hK _ _ ⟨G',τ,hk,h2.eqv h1,h3⟩
  ·rcases hs with⟨t',h1,h2,h3⟩|⟨h1,_⟩
   ·rw[ht]at h1;cases h1;refine⟨fun e=>q38 h hl (h2 e) fun a' w' ⟨G',υ,⟨τ,h1,hk⟩,h2,h3⟩=>hK _ _ ⟨G',τ,hk,h2.eqv h1,h3⟩,fun e=>?_⟩;obtain⟨τ,h1,hk⟩:=h3 e;exact skipped h1 hk
   ·rw[ht]at h1;cases h1
  ·rcases hs with⟨t',h1,_⟩|⟨h1,τ,h2,hk⟩
   ·exact .inl ⟨t',h1⟩
   ·exact .inr ⟨h1,skipped h2 hk⟩
theorem q6r{o:q0b}(h:o.keeps=true):o.q5D=true:=by
 unfold q0b.keeps at h;unfold q0b.q5D;split at h<;>first|(cases h;done)|simp[*]
theorem j0P{p q:q0b}(h:j0O p q=true):p.q5D=true∧q.q5D=true:=by
 unfold j0O at h;simp only[Zah,Zcc]at h;rcases h.2 with(⟨a,b⟩|⟨a,b⟩)|⟨a,b⟩
 ·exact⟨q6r a,q6r b⟩
 ·exact⟨q6r (z2d a),b⟩
 ·exact⟨b,q6r (z2d a)⟩
theorem q3P.mono{o:q0b}{K K':St→Prop}(hK:∀σ,K σ→K' σ)(h:q3P P o K σ):q3P P o K' σ:=
 let⟨e,h1,τ,h2,h3⟩:=h
 ⟨e,h1,τ,h2,hK _ h3⟩
theorem q9H{o:q0b}{K K':St→Prop}{σ:St}(hK:∀σ,K σ→K' σ)(h:q7s P o K σ):q7s P o K' σ:=by
 unfold q7s at *;split at h
 ·exact q8T.mono (fun σ h=>⟨h.1,hK σ h.2⟩) h
 ·rename_i f args heq;rcases h with⟨ds,Post,h1,h2,h3⟩|h
  ·exact .inl ⟨ds,Post,h1,h2,fun r hr=>hK _ (h3 r hr)⟩
  ·exact .inr (h.mono hK)
 ·obtain⟨σ',h1,h2⟩:=h;exact⟨σ',h1,h2.1,hK _ h2.2⟩
 ·obtain⟨σ',h1,h2⟩:=h;exact⟨σ',h1,hK _ h2⟩
theorem q6C{K K':St→Prop}(hK:∀σ,K σ→K' σ):∀{l:List q0b} {σ:St},LOps P l K σ→LOps P l K' σ
 |[],σ,h=>hK σ h
 |o::l,σ,h=>by
  simp only[LOps]at *;cases hg:o.guard with
  |none=>rw[hg]at h;exact q9H (fun _=>q6C hK) h
  |some sb=>
   obtain⟨s,b⟩:=sb;rw[hg]at h;rcases h with⟨t,h1,h2,h3⟩|⟨h1,h2⟩
   ·exact .inl ⟨t,h1,fun e=>q9H (fun _=>q6C hK) (h2 e),fun e=>q6C hK (h3 e)⟩
   ·exact .inr ⟨h1,q6C hK h2⟩
theorem Cl.mono{K K':St→Prop}(hK:∀σ,K σ→K' σ)(h:Cl K σ):Cl K' σ:=let⟨τ,a,b⟩:=h;⟨τ,a,hK _ b⟩
theorem q05.mono{o:q0b}{K K':St→Prop}(hK:∀σ,K σ→K' σ)(h:q05 P o K σ):q05 P o K' σ:=by
 unfold q05 at *;split at h
 ·rename_i hm;rw[if_pos hm];exact h.mono hK
 ·rename_i hm;rw[if_neg hm];exact q6C (fun _=>Cl.mono hK) h
/-! ### Places, and operations with rules of their own -/
theorem j0s{ev ev':Operand→Value}{o:Oper}{p:Prim}{os:List Operand}(h:q2w P o=some (p,os))(he:∀x∈os,ev x=ev' x):execOp ev o=execOp ev' o:=by
 have args:∀{l:Array Operand},(∀x∈l.toList,ev x=ev' x)→l.map ev=l.map ev':=fun{l} h=>by
  apply Zcl;simp only[Array.toList_map];exact Zdd h
 unfold q2w at h;split at h<;>rename_i ho
 ·have key:∀{f:Operand},(∀x∈f::(‹Array Operand›).toList,ev x=ev' x)→o.op=.call { callee:=.value f,args := ‹Array Operand›,argTypes := ‹Array TypeId› }→execOp ev o=execOp ev' o:=fun{f} he ho=>by
   have h1:=he f (by simp);have h2:=args (fun x hx=>he x (List.mem_cons_of_mem _ hx));simp only[execOp,ho,resolve,h1,h2]
  split at h
  ·split at h
   ·cases h
   ·cases h;exact key he ho
  ·cases h;exact key he ho
 ·have key:(∀x∈(‹Array Operand›).toList,ev x=ev' x)→execOp ev o=execOp ev' o:=fun he=>by
   simp only[execOp,ho,resolve,args he]
  split at h
  ·split at h
   ·cases h;exact key he
   ·cases h
  ·split at h
   ·cases h
   ·cases h;exact key he
 all_goals first
  |(cases h;done)
  |(split at h
    ·cases h
    ·cases h;simp only[execOp,ho];simp at he;simp[he])
  |(cases h;simp only[execOp,ho];simp at he;simp[he];done)
  |(cases h;simp only[execOp,ho];simp at he
    rename_i r;cases r with
    |none=>rfl
    |some x=>simp[he x rfl])
theorem j9g{G:q0s}{w:World}{x z:AV}{v:Value}{off:Nat}(hx:AVR G w x v)(h:fFa off x=some z):∃r,AVR G w z r:=by
 unfold fFa at h;split at h
 ·cases h;exact⟨_,.ptr _ _⟩
 ·split at h
  ·cases h;obtain⟨b,o,rfl⟩:=hx.q4o;exact⟨_,hx.q84 ‹_›⟩
  ·cases h
 ·split at h
  ·cases h;have hx:=hx.j0m;obtain⟨b,o,rfl⟩:=hx.q4o;exact⟨_,hx.q84 ‹_›⟩
  ·cases h
 ·cases h;exact⟨_,.d _ _ (.addr _)⟩
 ·cases h
theorem j6p{os:List Operand}{xs:List LX}(h:q2x os=some xs){d:Nat}(hd:d∉q5d xs){a:Act}{v:Value}:∀x∈os,(a.put (some d) v).eval x=a.eval x:=by
 induction os generalizing xs with
 |nil=>simp
 |cons o os ih=>
  simp only[q2x]at h;split at h
  ·rename_i x l hx hl;cases h;simp only[q5d,Zaz,not_or]at hd;intro y hy;rcases Zba.1 hy with rfl|hy
   ·cases y with
    |tmp t=>
     simp only[q1o]at hx;cases hx;have ht:d≠t:=fun e=>hd.1 (by simp[q14,e])
     simp only[Act.eval,Act.put,Zav];rw[Zbp ht]
    |_=>rfl
   ·exact ih hl hd.2 y hy
  ·cases h
theorem z7l{u v:LV}(h:j0D u v=true):u=v:=by
 unfold j0D at h;split at h<;>first|(cases h;done)|(simp only[Zah,beq_iff_eq,decide_eq_true_eq]at h;simp[h])
theorem j8e{E:Entry}{n:Nat}{G:q0s}{σ:St}{a:Act}{w:World}(hσ:SR E n G σ a.tmps w){v:LV}{z:AV}(hv:isFa (.val v)=true)(hz:pev σ v=some z):∃r,AVR G w z r:=by
 unfold isFa at hv;split at hv
 ·rename_i e;cases e;exact j9g (hσ.get _) hz
 ·rename_i e;cases e;cases hz;exact⟨_,hσ.get _⟩
 ·rename_i e;cases e;exact j9h hσ (hσ.get _) hz
 ·cases hv
theorem z4W{p q:q0b}(h:z4V p q=true):∃d v pr xs chk k,p=⟨some d,.val v,none⟩∧q=⟨some k,.prim pr xs chk,none⟩∧isFa (.val v)=true∧d≠k∧d∉q5d xs∧(d,v)∈chk∧∀e∈chk,d∉q61 e.2:=by
 obtain⟨pd,po,pg⟩:=p;obtain⟨qd,qo,qg⟩:=q;unfold z4V at h;split at h
 ·rename_i d v pr xs chk h1 h2 h3 h4 h5;simp only at h1 h2 h3 h4 h5;subst h1 h2 h3 h4 h5;simp only[Zah,Zca,Zbh,Zbq]at h;obtain⟨h0,h1,h2,⟨e,he,h3⟩,h4⟩:=h;cases qd with
  |none=>simp[neD]at h1
  |some k=>
   refine⟨d,v,pr,xs,chk,k,rfl,rfl,h0,by simpa[neD]using h1,by simpa using h2,?_,fun e he=>by simpa using h4 e he⟩;obtain⟨k',v'⟩:=e;rw[beq_iff_eq]at h3;obtain⟨rfl,h3⟩:=h3;rw[←z7l h3];exact he
 ·cases h
theorem z6x{σ:St}{chk:List (Nat×LV)}(h:Chk σ chk){k:Nat}{v:LV}(hm:(k,v)∈chk):∃z,aget σ.ρ k=some z∧pev σ v=some z:=by
 induction chk with
 |nil=>cases hm
 |cons e r ih=>
  obtain⟨k',v'⟩:=e;rcases Zba.1 hm with e|hm
  ·cases e;exact h.1
  ·exact ih h.2 hm
theorem j3v{σ:St}:∀{chk:List (Nat×LV)},(∀e∈chk,∃z,aget σ.ρ e.1=some z∧pev σ e.2=some z)→Chk σ chk
 |[],_=>trivial
 |e::r,h=>⟨h e (by simp),j3v fun e he=>h e (by simp[he])⟩
theorem j4a{v:LV}(h:isFa (.val v)=true):j0D v v=true:=by
 unfold isFa at h;split at h<;>first|(cases h;done)|(rename_i e;cases e;simp[j0D])
theorem j9L{p q:q0b}(h:z4V p q=true){K:St→Prop}{σ:St}(hd:q05 P p (q05 P q K) σ):q05 P (q65 p q) (q05 P p K) σ:=by
 obtain⟨d,v0,pr,xs,chk,k,rfl,rfl,hea,hdk,hdx,hmem,hall⟩:=z4W h;have e1:∀K σ,q05 P ⟨some d,.val v0,none⟩ K σ=q3P P ⟨some d,.val v0,none⟩ K σ:=fun K σ=>by simp[q05,q0b.q5D]
 have e2:∀c K σ,q05 P ⟨some k,.prim pr xs c,none⟩ K σ=q8T P (some k) pr xs (ChkK c (Cl K)) σ:=fun c K σ=>by
  simp only[q05,q0b.q5D];rfl
 rw[e1]at hd;obtain⟨e,⟨_,z,hz,rfl⟩,τ,hτ,hd⟩:=hd;rw[e2]at hd;have e3:q65 ⟨some d,.val v0,none⟩ ⟨some k,.prim pr xs chk,none⟩=⟨some k,.prim pr xs (chk.filter fun e=>some e.1 != some d),none⟩:=by simp only[q65,hea,if_true]
 rw[e3,e2];intro E _ n G a w o os hp hl hdst hdn hσ;obtain⟨vp,hvp⟩:∃vp,AVR G w z vp:=j8e hσ hea hz;have hkn:k<n:=by simpa[q4p]using hdn
 let m:=n+(d+1)
 let a':Act:={ a with tmps:=a.tmps++Array.replicate (m-a.tmps.size) undef }
 have hna:a.tmps.size=n:=hσ.size;have hgd:∀t,a'.tmps.getD t undef=a.tmps.getD t undef:=fun t=>by
  simp only[a',Zav,Array.getElem?_append]
  by_cases hs:t<a.tmps.size
  ·rw[if_pos hs]
  ·rw[if_neg hs,show a.tmps[t]?=none from Zcz (by omega)];simp only[Array.getElem?_replicate];split<;>rfl
 have hev:∀x:Operand,a'.eval x=a.eval x:=fun x=>by
  cases x with
  |tmp t=>exact hgd t
  |_=>rfl
 have hσ':SR E m G σ a'.tmps w:={ hσ with size:=by simp[a'];omega,slot:=fun t x hx=>by rw[hgd];exact hσ.slot t x hx };have hσ1:SR E m G τ (a'.put (some d) vp).tmps w:=(hσ'.put hvp (by omega)).eqv hτ;have hrun:=hd E m G (a'.put (some d) vp) w o os hp hl hdst (by simp[q4p];omega) hσ1;rw[j0s (ev':=a.eval) hp (fun x hx=>(j6p hl hdx x hx).trans (hev x))]at hrun;refine hrun.mono fun v w' ⟨G',σ',⟨hc,τ',hτ',hk⟩,hsr⟩=>?_
 have hag:∀rs,d∉rs→q0N rs { σ' with ρ:=adel σ'.ρ d } σ':=fun rs hrs=>⟨fun t ht=>by
  have:d≠t:=fun e=>hrs (e▸ht)
  simp only[St.get,q0O,if_neg this],rfl,rfl⟩
 refine⟨G',{ σ' with ρ:=adel σ'.ρ d },⟨j3v fun e he=>?_,?_⟩,?_⟩
 ·obtain⟨h1,h2⟩:=Zcd.1 he;obtain⟨z1,h3,h4⟩:=z6x hc (k:=e.1) (v:=e.2) h1;have hne:d≠e.1:=fun e'=>by simp[e']at h2
  exact⟨z1,by simp only[q0O,if_neg hne];exact h3,by rw[(hag _ (hall e h1)).pev];exact h4⟩
 ·obtain⟨z1,h3,h4⟩:=z6x hc hmem;refine⟨_,.refl _,?_⟩;rw[e1];have heq:Eqv (Eff.app ⟨[],z1⟩ (some d) { σ' with ρ:=adel σ'.ρ d }) σ':=by
   refine⟨fun t=>?_,rfl,rfl⟩;simp only[Eff.app,q0z,putO,St.put,q3d,q0O]
   by_cases e:d=t
   ·subst e;simp[h3]
   ·simp[e]
  exact⟨⟨[],z1⟩,⟨rfl,z1,by rw[(hag _ (hall _ hmem)).pev];exact h4,rfl⟩,τ',heq.trans hτ',hk⟩
 ·refine{ hsr with size:=by simp[Act.put,hna],slot:=fun t x hx=>?_ };simp only[q0O]at hx;split at hx
  ·cases hx
  ·rename_i hne;have:=hsr.slot t x hx;simp only[Act.put]at this ⊢;rw[Array.setIfInBounds_comm _ _ (by omega)]at this;have e:((a'.tmps.setIfInBounds k v).setIfInBounds d vp).getD t undef=(a.tmps.setIfInBounds k v).getD t undef:=by
    have h1:=hgd t;simp only[Zav]at h1;simp only[Zav,Zbp hne]
    by_cases hkt:k=t
    ·subst hkt;rw[Array.getElem?_setIfInBounds_self_of_lt (by simp[a'];omega),Array.getElem?_setIfInBounds_self_of_lt (by omega)]
    ·rw[Zbp hkt,Zbp hkt];exact h1
   rw[e]at this;exact this
structure OffD(d:Nat)(σ τ:St):Prop where
 ρ:∀s,s≠d→aget σ.ρ s=aget τ.ρ s
 L:σ.L=τ.L
 H:σ.H=τ.H
theorem OffD.obj{d:Nat}{σ τ:St}(h:OffD d σ τ)(r:Ref):σ.obj r=τ.obj r:=by cases r<;>simp[St.obj,h.L,h.H]
theorem OffD.agree{d:Nat}{σ τ:St}(h:OffD d σ τ){rs:List Nat}(hd:d∉rs):q0N rs σ τ:=⟨fun s hs=>by
 have:s≠d:=fun e=>hd (e▸hs)
 simp only[St.get,h.ρ s this],h.L,h.H⟩
theorem OffD.setObj{d:Nat}{σ τ:St}(h:OffD d σ τ)(r:Ref)(o:AObj):OffD d (σ.setObj r o) (τ.setObj r o):=by
 cases r<;>exact⟨h.ρ,by simp[St.setObj,h.L],by simp[St.setObj,h.H]⟩
theorem OffD.amap{d:Nat}{σ τ:St}(h:OffD d σ τ)(g:AV→AV):OffD d { σ with ρ:=amap g σ.ρ } { τ with ρ:=amap g τ.ρ }:=
 ⟨fun s hs=>by simp only[q2v,h.ρ s hs],h.L,h.H⟩
theorem OffD.erase{d:Nat}{σ τ:St}(h:OffD d σ τ)(q:Lab):OffD d (σ.erase q) (τ.erase q):=
 ⟨fun s hs=>by rw[q8a,q8a,q2v,q2v,h.ρ s hs],(z1i q h.L h.H).1,(z1i q h.L h.H).2⟩
theorem OffD.stS{d:Nat}{σ τ σ2:St}{m:Nat}{A X:AV}(h:OffD d σ τ)(hs:Go.Av.stS σ m A X=some σ2):∃τ2,Go.Av.stS τ m A X=some τ2∧OffD d σ2 τ2:=by
 unfold Go.Av.stS at hs ⊢;cases A<;>simp only at hs ⊢<;>try(cases hs;done)
 rename_i r o;rw[h.obj r]at hs;cases ho:τ.obj r with
 |none=>rw[ho]at hs;cases hs
 |some ob=>
  rw[ho]at hs;cases ob<;>try(cases hs;done)
  rename_i cs;dsimp only at hs ⊢;cases X<;>try(cases hs;done)
  all_goals(try dsimp only at hs)
  all_goals(try dsimp only)
  all_goals try(split at hs<;>cases hs;rename_i hc;rw[if_pos hc];exact⟨_,rfl,h.setObj _ _⟩)
  rename_i q e sz l;cases q<;>simp only at hs ⊢
  ·rename_i s;split at hs
   ·rename_i hc;rw[if_pos hc];have h2:=(h.erase (.c r o)).amap (AV.rename (.t s) (.c r o));rw[h2.obj r]at hs;split at hs
    ·rename_i cs2 hcs2;cases hs;exact⟨_,rfl,h2.setObj _ _⟩
    ·cases hs
   ·cases hs
  ·split at hs<;>cases hs;rename_i hc;rw[if_pos hc];exact⟨_,rfl,h.setObj _ _⟩
theorem z4Y{p q:q0b}(h:z4X p q=true):∃d v m x y chk,p=⟨some d,.val v,none⟩∧q=⟨none,.stC m x y chk,none⟩∧d∉q14 x++q14 y∧d∉q61 v∧(d,v)∈chk∧chk.any (fun e=>e.1==d&&j0D e.2 v)=true:=by
 obtain⟨pd,po,pg⟩:=p;obtain⟨qd,qo,qg⟩:=q;unfold z4X at h;split at h
 ·rename_i d v m x y chk h1 h2 h3 h4 h5 h6;simp only at h1 h2 h3 h4 h5 h6;subst h1 h2 h3 h4 h5 h6;simp only[Zah,Zca]at h;obtain⟨h1,h2,h3⟩:=h;refine⟨d,v,m,x,y,chk,rfl,rfl,by simpa using h1,by simpa using h2,?_,h3⟩;obtain⟨e,he,h4⟩:=Zbq.1 h3;simp only[Zah,beq_iff_eq]at h4;obtain⟨e1,e2⟩:=e;simp only at h4;rw[←h4.1,←z7l h4.2];exact he
 ·cases h
theorem j9M{p q:q0b}(h:z4X p q=true){K:St→Prop}{σ:St}(hd:q05 P p (q05 P q K) σ):q05 P (q65 p q) (q05 P p K) σ:=by
 obtain⟨d,v,m,x,y,chk,rfl,rfl,hdx,hdv,hmem,_⟩:=z4Y h;have e1:∀K σ,q05 P ⟨some d,.val v,none⟩ K σ=q3P P ⟨some d,.val v,none⟩ K σ:=fun K σ=>by simp[q05,q0b.q5D]
 have e2:∀c K σ,q05 P ⟨none,.stC m x y c,none⟩ K σ=∃σ',stS σ m (σ.ev x) (σ.ev y)=some σ'∧ChkK c (Cl K) σ':=fun c K σ=>by
  simp only[q05,q0b.q5D];rfl
 rw[e1]at hd;obtain⟨e,⟨_,z,hz,rfl⟩,τ,hτ,hd⟩:=hd;rw[e2]at hd;have e3:q65 ⟨some d,.val v,none⟩ ⟨none,.stC m x y chk,none⟩=⟨none,.stC m x y (chk.filter fun e=>some e.1 != some d&&z4u (some d) (q61 e.2)),none⟩:=rfl;rw[e3,e2];obtain⟨σ',h1,hc,τ',hτ',hk⟩:=hd;have hoff:OffD d τ σ:=⟨fun s hs=>by
  rw[←hτ.ρ];simp only[Eff.app,q0z,putO,St.put,q3d,if_neg (Ne.symm hs)],hτ.L.symm,hτ.H.symm⟩
 have ag:=hoff.agree hdx;rw[q0N.ev (x:=x) ag.left,q0N.ev (x:=y) ag.right]at h1;obtain⟨σ2,h2,hoff2⟩:=hoff.stS h1;refine⟨σ2,h2,j3v fun e he=>?_,σ2,.refl _,?_⟩
 ·obtain⟨k1,k2⟩:=Zcd.1 he;obtain⟨z1,h3,h4⟩:=z6x hc (k:=e.1) (v:=e.2) k1;simp only[Zah,bne_iff_ne,ne_eq,Zas,z4u,Zca,List.contains_eq_mem,decide_eq_false_iff_not]at k2;exact⟨z1,by rw[←hoff2.ρ _ k2.1];exact h3,by rw[←(hoff2.agree k2.2).pev];exact h4⟩
 ·obtain⟨z1,h3,h4⟩:=z6x hc hmem;rw[e1];have heq:Eqv (Eff.app ⟨[],z1⟩ (some d) σ2) σ':=by
   refine⟨fun t=>?_,hoff2.L.symm,hoff2.H.symm⟩;simp only[Eff.app,q0z,putO,St.put,q3d]
   by_cases e:d=t
   ·subst e;simp[h3]
   ·rw[if_neg e];exact(hoff2.ρ t (Ne.symm e)).symm
  exact⟨⟨[],z1⟩,⟨rfl,z1,by rw[←(hoff2.agree hdv).pev];exact h4,rfl⟩,τ',heq.trans hτ',hk⟩
theorem j9K{p q:q0b}(h:q5G p q=true)(h0:z4V p q=false)(h00:z4X p q=false){K:St→Prop}{σ:St}(hd:q05 P p (q05 P q K) σ):q05 P q (q05 P p K) σ:=by
 unfold q5G at h;rw[h0,h00]at h;simp only[Zcc,Zah,Bool.or_false]at h;rcases h with(h|⟨⟨⟨⟨⟨h1,h2⟩,h3⟩,h4⟩,h5⟩,h6⟩)|⟨⟨⟨⟨h1,h2⟩,h3⟩,h4⟩,h5⟩
 ·obtain⟨m1,m2⟩:=j0P h;have e1:q05 P p=q3P P p:=by funext K σ;simp[q05,m1]
  have e2:q05 P q=q3P P q:=by funext K σ;simp[q05,m2]
  rw[e1,e2]at hd ⊢;exact swap h hd
 ·obtain⟨cs,hcs⟩:∃cs,p.op=.allo cs:=by
   unfold j1e at h2;split at h2
   ·exact⟨_,by assumption⟩
   ·cases h2
  have m1:p.q5D=false:=by simp[q0b.q5D,hcs]
  have m2:=q6r h5;obtain⟨d,hdd⟩:=Option.isSome_iff_exists.1 h4;have e1:q05 P p=fun K=>LOps P [p] (Cl K):=by funext K σ;simp[q05,m1]
  have e2:q05 P q=q3P P q:=by funext K σ;simp[q05,m2]
  rw[e1,e2]at hd ⊢;exact j98 h1 hcs (by simpa using h3) hdd h5 h6 hd
 ·have m1:p.q5D=false:=by
   unfold isSt at h2;split at h2
   ·simp[q0b.q5D, *]
   ·cases h2
  have m2:q.q5D=true:=by
   unfold z97 at h5;split at h5
   ·simp[q0b.q5D, *]
   ·cases h5
  have e1:q05 P p=fun K=>LOps P [p] (Cl K):=by funext K σ;simp[q05,m1]
  have e2:q05 P q=q3P P q:=by funext K σ;simp[q05,m2]
  rw[e1,e2]at hd ⊢;exact j99 h1 h2 (by simpa using h3) (by simpa using h4) h5 hd
theorem z6j{p q:q0b}{pr:Prim}{xs:List LX}{chk:List (Nat×LV)}(hq:q.op=.prim pr xs chk)(h:q5G p q=true):z4V p q=true:=by
 obtain⟨qd,qo,qg⟩:=q;simp only at hq;subst hq;have hS:z4X p ⟨qd,.prim pr xs chk,qg⟩=false:=by
  cases hs:z4X p ⟨qd,.prim pr xs chk,qg⟩with
  |false=>rfl
  |true=>obtain⟨d,v,m,x,y,c,_,e,_⟩:=z4Y hs;cases e
 simpa[q5G,j0O,q0b.keeps,q0b.q5D,q0b.pure,z97,hS]using h
theorem z9i{p q:q0b}{m:Nat}{x y:LX}{chk:List (Nat×LV)}(hq:q.op=.stC m x y chk)(h:q5G p q=true):z4X p q=true:=by
 obtain⟨qd,qo,qg⟩:=q;simp only at hq;subst hq;have hF:z4V p ⟨qd,.stC m x y chk,qg⟩=false:=by
  cases hs:z4V p ⟨qd,.stC m x y chk,qg⟩with
  |false=>rfl
  |true=>obtain⟨d,v0,pr,xs,c,k,_,e,_⟩:=z4W hs;cases e
 simpa[q5G,j0O,q0b.keeps,q0b.q5D,q0b.pure,z97,hF]using h
def j7O:LO→Bool
 |.prim _ _ _|.stC _ _ _ _=>true
 |_=>false
theorem z5O{p q:q0b}(h:j7O q.op=false):q65 p q=q:=by
 unfold q65;split
 ·rename_i e;rw[e]at h;cases h
 ·rename_i e;rw[e]at h;cases h
 ·rfl
theorem j3H{p q:q0b}{pr:Prim}{xs:List LX}{chk:List (Nat×LV)}(hq:q.op=.prim pr xs chk)(h:isFa p.op=false):q65 p q=q:=by
 obtain⟨d,op,g⟩:=q;simp only at hq;subst hq;simp[q65,h]
theorem z9m{b:Bool}{p p' q:q0b}(hb:z6K q.op=true→b=true)(h:q5G p q=true)(ha:z6E b p p'=true):q5G p (q65 p' q)=true:=by
 by_cases hq:∃pr xs chk,q.op=.prim pr xs chk
 ·obtain⟨pr,xs,chk,hq⟩:=hq;have hF:=z6j hq h;obtain⟨d,v0,pr',xs',chk',k,rfl,rfl,h0,h1,h2,h3,h4⟩:=z4W hF;cases hfa:isFa p'.op with
  |false=>rw[j3H rfl hfa];exact h
  |true=>
   have hne:some d≠p'.dst:=by
    have:isFa (LO.val v0)=true:=h0;have ha:=(Bool.and_eq_true_iff.1 ha).1;simpa[this,hfa]using ha
   simp only[q65,hfa,if_true];have:z4V ⟨some d,.val v0,none⟩ ⟨some k,.prim pr' xs' (chk'.filter fun e=>some e.1 != p'.dst),none⟩=true:=by
    simp only[z4V,neD,bne_iff_ne,ne_eq,Zah,decide_eq_true_eq,Zca,Zbq,Zbh];refine⟨h0,h1,by simpa using h2,⟨_,Zcd.2 ⟨h3,by simpa using hne⟩,by simp[j4a h0]⟩,fun e he=>by simpa using h4 e (Zcd.1 he).1⟩
   simp[q5G,this]
 ·by_cases hq2:∃m x y chk,q.op=.stC m x y chk
  ·obtain⟨m,x,y,chk,hq2⟩:=hq2;have hS:=z9i hq2 h;have hb1:b=true:=hb (by rw[hq2];rfl);subst hb1;obtain⟨d,v,m,x,y,chk,rfl,rfl,h1,h2,h3,h4⟩:=z4Y hS;cases hv:isVal p'.op with
   |false=>simp only[q65,hv];exact h
   |true=>
    obtain⟨p'd,p'o,p'g⟩:=p';have ha:=(Bool.and_eq_true_iff.1 ha).2;have hvv:isVal (LO.val v)=true:=rfl;simp only[hvv,hv,Bool.and_self,Zcm,Zdc,Zah,bne_iff_ne,ne_eq]at ha;have ha2:z4u p'd (q61 v)=true:=by
     have:=ha.2;cases p'd with
     |none=>rfl
     |some d'=>simpa[z4u]using this
    simp only[q65,hv,if_true];have:z4X ⟨some d,.val v,none⟩ ⟨none,.stC m x y (chk.filter fun e=>some e.1 != p'd&&z4u p'd (q61 e.2)),none⟩=true:=by
     simp only[z4X,Zah,Zca,Zbq];obtain⟨e,he,h5⟩:=Zbq.1 h4;have h5':=h5;simp only[Zah,beq_iff_eq]at h5;refine⟨by simpa using h1,by simpa using h2,e,Zcd.2 ⟨he,?_⟩,by simpa using h5'⟩;rw[h5.1,z7l h5.2,ha2];simpa using ha.1
    simp[q5G,this]
  ·have hn:j7O q.op=false:=by
    cases ho:q.op with
    |prim=>exact(hq ⟨_,_,_,ho⟩).elim
    |stC=>exact(hq2 ⟨_,_,_,_,ho⟩).elim
    |_=>rfl
   rw[z5O hn];exact h
theorem z9N(p q:q0b):z6K (q65 p q).op=z6K q.op:=by
 obtain⟨d,op,g⟩:=q;unfold q65;dsimp only;split
 ·split<;>rfl
 ·split<;>rfl
 ·rfl
theorem z1h:∀(pre:List q0b) (q:q0b),z6K (q64 pre q).op=z6K q.op
 |[],q=>rfl
 |p::pre,q=>(z9N p (q64 pre q)).trans (z1h pre q)
theorem z0l{b:Bool}{p q:q0b}(hb:z6K q.op=true→b=true)(h:q5G p q=true):∀{pre:List q0b},(∀p'∈pre,z6E b p p'=true)→q5G p (q64 pre q)=true
 |[],_=>h
 |p'::pre,ha=>z9m (fun e=>hb (by rw[←z1h pre q];exact e)) (z0l hb h fun x hx=>ha x (by simp[hx])) (ha p' (by simp))
theorem x0a{p q:q0b}(h:q5G p q=true){K:St→Prop}{σ:St}(hd:q05 P p (q05 P q K) σ):q05 P (q65 p q) (q05 P p K) σ:=by
 cases h0:z4V p q with
 |true=>exact j9L h0 hd
 |false=>
  cases h1:z4X p q with
  |true=>exact j9M h1 hd
  |false=>
   have hn:j7O q.op=false:=by
    cases ho:q.op<;>first|rfl|(rw[z6j ho h]at h0;cases h0)|(rw[z9i ho h]at h1;cases h1)
   rw[z5O hn];exact j9K h h0 h1 hd
theorem pull{b:Bool}{q:q0b}(hb:z6K q.op=true→b=true){post:List q0b}{K:St→Prop}:∀{pre:List q0b} {σ:St},(∀p∈pre,q5G p q=true)→pre.Pairwise (fun p p'=>z6E b p p'=true)→z7A P (pre++q::post) K σ→q05 P (q64 pre q) (z7A P (pre++post) K) σ
 |[],_,_,_,h=>h
 |p::pre,σ,hs,hp,h=>by
  have h1:q05 P p (z7A P (pre++q::post) K) σ:=h;rw[List.pairwise_cons]at hp;exact x0a (z0l hb (hs p (by simp)) hp.1) (h1.mono fun τ ht=>pull hb (fun p hp=>hs p (by simp[hp])) hp.2 ht)
theorem z1S:∀{l:List q0b} {K:St→Prop} {σ:St},DOps P l K σ→z7A P l K σ
 |[],K,σ,h=>⟨σ,.refl _,h⟩
 |o::l,K,σ,h=>by
  simp only[DOps,DStep]at h;simp only[z7A,q05];split at h
  ·rename_i hm;obtain⟨e,h1,h2⟩:=h;rw[if_pos hm];exact⟨e,h1,_,.refl _,z1S h2⟩
  ·rename_i hm;rw[if_neg hm];exact q6C (fun σ h=>⟨σ,.refl _,z1S h⟩) h
theorem j6V{f:Nat→Nat}{R pre post:List Nat}{i:Nat}(hR:R.Pairwise (fun a b=>f a<f b))(he:R=pre++i::post):(∀k∈pre,f k<f i)∧(pre++post).Pairwise (fun a b=>f a<f b)∧∀k,k∈pre++post↔k∈R∧k≠i:=by
 subst he;rw[List.pairwise_append,List.pairwise_cons]at hR;obtain⟨h1,⟨h2,h3⟩,h4⟩:=hR;refine⟨fun k hk=>h4 k hk i (by simp),?_,fun k=>?_⟩
 ·rw[List.pairwise_append];exact⟨h1,h3,fun a ha b hb=>h4 a ha b (by simp[hb])⟩
 ·simp only[Zaz,Zba];constructor
  ·rintro(h|h)
   ·exact⟨.inl h,fun e=>by have:=h4 k h i (by simp);rw[e]at this;omega⟩
   ·exact⟨.inr (.inr h),fun e=>by have:=h2 k h;rw[e]at this;omega⟩
  ·rintro⟨h|h|h,hne⟩
   ·exact .inl h
   ·exact absurd h hne
   ·exact .inr h
theorem z6p{f:Nat→Nat}:∀{l:List Nat},z7q f l=true→l.Pairwise (fun a b=>f a<f b)
 |[],_=>.nil
 |a::l,h=>by
  simp only[z7q,Zah,Zbh,decide_eq_true_eq]at h;exact .cons (fun b hb=>h.1 b hb) (z6p h.2)
theorem j2a{ops:Array Oper}{lo:List q0b}{ord:List Nat}(h:z1g ops lo ord=true):ord.Pairwise (fun a b=>posOf ord a<posOf ord b)∧(∀k,k∈ord↔k<ops.size)∧ord.length=ops.size:=by
 unfold z1g at h;simp only[Zah,decide_eq_true_eq,Zbh]at h;obtain⟨⟨⟨⟨h1,h2⟩,h3⟩,h4⟩,_⟩:=h;exact⟨z6p h1,fun k=>⟨fun hk=>h2 k hk,fun hk=>by simpa using h3 k (Zcs.2 hk)⟩,h4⟩
theorem z5N{ops:Array Oper}{lo:List q0b}{ord:List Nat}(h:z1g ops lo ord=true){i:Nat}{o:Oper}(hi:ops[i]?=some o):
  (∀e∈o.after,Region.binds .any e=true→e.on<ops.size∧posOf ord e.on<posOf ord i)∧
  ∀k,k<ops.size→posOf ord k<posOf ord i→q9z ops 8 i k=true∨(match lo[k]?,lo[i]? with|some p,some q=>q5G p q|_,_=>false)=true:=by
 unfold z1g at h;rw[Zah]at h;have h1:=Zbh.1 h.2 i (Zcs.2 (Zar.1 hi).1);simp only[Zah,hi]at h1;refine⟨fun e he hb=>?_,fun k hk hp=>?_⟩
 ·have:=Array.all_eq_true'.1 h1.1 e he;simpa[hb]using this
 ·have h2:=Zbh.1 h1.2 k (Zcs.2 hk);rw[Zcc,Zcc]at h2;rcases h2 with(h2|h2)|h2
  ·simp[hp]at h2
  ·exact .inl h2
  ·exact .inr h2
theorem z9L{ops:Array Oper}{lo:List q0b}{ord:List Nat}(h:z1g ops lo ord=true){i:Nat}{o:Oper}(hi:ops[i]?=some o):∀e∈o.after,Region.binds .any e=true→e.on<ops.size∧posOf ord e.on<posOf ord i:=(z5N h hi).1
def j25(ops:Array Oper)(listed:Array Bool):Prop:=∀(i:Nat) (o:Oper),ops[i]?=some o→listed.getD i false=true→∀e∈o.after,Region.binds .any e=true→listed.getD e.on false=true
theorem q9T{ops:Array Oper}{i k:Nat}(h:waits ops i k=true):∃o,ops[i]?=some o∧∃e∈o.after,Region.binds .any e=true∧e.on=k:=by
 unfold waits at h;split at h
 ·rename_i o ho;obtain⟨e,he,hb⟩:=Array.any_eq_true'.1 h;simp only[Zah,beq_iff_eq]at hb;exact⟨o,ho,e,he,hb.1,hb.2⟩
 ·cases h
theorem z1N{ops:Array Oper}{listed:Array Bool}(hc:j25 ops listed):∀{f i k:Nat},q9z ops f i k=true→listed.getD i false=true→listed.getD k false=true
 |0,i,k,h,hl=>by
  obtain⟨o,ho,e,he,hb,rfl⟩:=q9T h;exact hc i o ho hl e he hb
 |f+1,i,k,h,hl=>by
  simp only[q9z,Zcc,Zbq,Zah]at h;rcases h with h|⟨j,_,h1,h2⟩
  ·obtain⟨o,ho,e,he,hb,rfl⟩:=q9T h;exact hc i o ho hl e he hb
  ·obtain⟨o,ho,e,he,hb,rfl⟩:=q9T h1;exact z1N hc h2 (hc i o ho hl e he hb)
theorem z9y{ops:Array Oper}{listed:Array Bool}(hc:j25 ops listed){f i k:Nat}{o:Oper}(ho:ops[i]?=some o)(hr:∀e∈o.after,Region.binds .any e=true→listed.getD e.on false=true)(h:q9z ops f i k=true):listed.getD k false=true:=by
 have h0:∀{j},waits ops i j=true→listed.getD j false=true:=fun hw=>by
  obtain⟨o',ho',e,he,hb,rfl⟩:=q9T hw;rw[ho]at ho';cases ho';exact hr e he hb
 cases f with
 |zero=>exact h0 h
 |succ f=>
  simp only[q9z,Zcc,Zbq,Zah]at h;rcases h with h|⟨j,_,h1,h2⟩
  ·exact h0 h
  ·exact z1N hc h2 (h0 h1)
theorem z9M{ops:Array Oper}{lo:List q0b}{ord:List Nat}(h:z1g ops lo ord=true){i k:Nat}{o:Oper}{x y:q0b}(hi:ops[i]?=some o)(hks:k<ops.size)(hk:posOf ord k<posOf ord i)(hx:lo[k]?=some x)(hy:lo[i]?=some y)(hw:q9z ops 8 i k=true→False):q5G x y=true:=by
 rcases(z5N h hi).2 k hks hk with h2|h2
 ·exact(hw h2).elim
 ·simpa only[hx,hy]using h2
theorem dany{ops:Array Oper}{lo:List q0b}(hlo:∀(i:Nat) (o:Oper),ops[i]?=some o→∃x,lo[i]?=some x∧q8v P n ops o x){ord:List Nat}(hok:z1g ops lo ord=true)(hfa:j1a ops lo ord=true){K:St→Prop}{Q:Exit→Act→World→Prop}{d:List Deferred}(hK:∀a' w',z1O E n K d a' w'→Q .normal a' w'):
  ∀(f:Nat) (listed:Array Bool) (R:List Nat) (σ:St) (G:q0s) (a:Act) (w:World),listed.size=ops.size→j25 ops listed→R.Pairwise (fun a b=>posOf ord a<posOf ord b)→(∀k,k∈R↔k<ops.size∧listed.getD k true=false)→R.length≤f→
   z7A P (R.map fun i=>lo.getD i default) K σ→SR E n G σ a.tmps w→a.defers=d→wpAny P .any ops Q f listed a w:=by
 have ready_mem:∀{listed:Array Bool} {R:List Nat},(∀k,k∈R↔k<ops.size∧listed.getD k true=false)→∀i∈Region.ready .any ops listed,i∈R:=fun hR i hi=>by
  obtain⟨h1,o,h2,_⟩:=mem_ready.1 hi;exact(hR i).2 ⟨(Zar.1 h2).1,h1⟩
 have fin:∀{σ:St} {G:q0s} {a:Act} {w:World},z7A P [] K σ→SR E n G σ a.tmps w→a.defers=d→Q .normal a w:=fun⟨τ,h1,h2⟩ h3 h4=>hK _ _ ⟨_,τ,h2,h3.eqv h1,h4⟩
 intro f;induction f with
 |zero=>
  intro listed R σ G a w hsz hcl hpw hR hf hd hσ hdef;have hnil:R=[]:=List.length_eq_zero_iff.1 (by omega);subst hnil;refine⟨?_,fin hd hσ hdef⟩;apply List.eq_nil_iff_forall_not_mem.2;intro i hi;exact absurd (ready_mem hR i hi) (by simp)
 |succ f ih=>
  intro listed R σ G a w hsz hcl hpw hR hf hd hσ hdef;refine⟨fun h0=>?_,fun i hi=>?_⟩
  ·cases hRc:R with
   |nil=>rw[hRc]at hd;exact fin hd hσ hdef
   |cons r R'=>
    exfalso
    have hr:=(hR r).1 (by rw[hRc];simp);obtain⟨o,ho⟩:∃o,ops[r]?=some o:=⟨ops[r],by simp[hr.1]⟩;have:r∈Region.ready .any ops listed:=mem_ready.2 ⟨hr.2,o,ho,fun e he hb=>by
     have hlt:=z9L hok ho e he hb;have hns:e.on∉R:=fun hm=>by
      rw[hRc]at hm hpw;rcases Zba.1 hm with h|h
      ·rw[h]at hlt;omega
      ·have:=(List.pairwise_cons.1 hpw).1 _ h;omega
     have hes:e.on<listed.size:=by rw[hsz];exact hlt.1
     have:¬(listed.getD e.on true=false):=fun hc=>hns ((hR _).2 ⟨hlt.1,hc⟩)
     simp[hes]at this ⊢;exact this⟩
    rw[h0]at this;cases this
  ·obtain⟨hun,o,ho,hall⟩:=mem_ready.1 hi;have hiR:=ready_mem hR i hi;obtain⟨pre,post,he⟩:=List.append_of_mem hiR;obtain⟨hlt,hpw',hmem⟩:=j6V hpw he;obtain⟨x,hx,hl⟩:=hlo i o ho;rw[he,List.map_append,Zbo]at hd;have hgx:lo.getD i default=x:=by simp[hx]
   rw[hgx]at hd;have hp:=pull (b:=lo.any fun x=>z6K x.op) (fun e=>Zbq.2 ⟨x,Zaf hx,e⟩) (fun p hp=>by
    obtain⟨k,hk,rfl⟩:=Zat.1 hp;have hkR:=(hR k).1 (by rw[he];simp[hk]);obtain⟨ok,hok'⟩:∃o,ops[k]?=some o:=⟨ops[k],by simp[hkR.1]⟩;obtain⟨y,hy,_⟩:=hlo k ok hok';have hgy:lo.getD k default=y:=by simp[hy]
    rw[hgy];exact z9M hok ho hkR.1 (hlt k hk) hy hx fun hw=>by
     have h1:=z9y hcl ho hall hw;have hks:k<listed.size:=by rw[hsz];exact hkR.1
     have h2:=hkR.2;simp[hks]at h1 h2;rw[h1]at h2;cases h2) (by
    have hpp:pre.Pairwise (fun a b=>posOf ord a<posOf ord b):=(List.pairwise_append.1 (he▸hpw)).1;rw[List.pairwise_map];refine List.Pairwise.imp_of_mem (fun{i k} hi hk hlt=>?_) hpp;have hi':=(hR i).1 (by rw[he];simp[hi]);have hk':=(hR k).1 (by rw[he];simp[hk]);unfold j1a at hfa;have h1:=Zbh.1 (Zbh.1 hfa i (Zcs.2 hi'.1)) k (Zcs.2 hk'.1);simpa[hlt]using h1) hd
   rw[←List.map_append]at hp;have hl':q8v P n ops o (q64 (pre.map fun i=>lo.getD i default) x):=by
    rcases z2M (pre.map fun i=>lo.getD i default) x with hc|⟨c,hc⟩<;>rw[hc]
    ·exact hl
    ·exact hl.setC c
   refine j3D hσ ho hl' hp fun a' w' ⟨G',σ',h1,h2,h3⟩=>?_
   refine ih (listed.setIfInBounds i true) (pre++post) σ' G' a' w' (by simp[hsz]) (fun j oj hj hl e he hb=>?_) hpw' (fun k=>?_) ?_ h1 h2 (h3.trans hdef)
   ·by_cases hij:i=j
    ·subst hij;rw[ho]at hj;cases hj;exact getD_set_true (hall e he hb)
    ·rw[getD_set_ne false hij]at hl;exact getD_set_true (hcl j oj hj hl e he hb)
   ·rw[hmem k,hR k]
    by_cases hki:i=k
    ·subst hki;have:i<listed.size:=by rw[hsz];exact(Zar.1 ho).1
     simp[this]
    ·rw[getD_set_ne true hki];constructor
     ·exact fun h=>h.1
     ·exact fun h=>⟨h,fun e=>hki e.symm⟩
   ·have:R.length=(pre++post).length+1:=by rw[he];simp;omega
    omega
theorem z0F{ops:Array Oper}:∀{l:List Oper} {lo:List q0b},q1n P n ops l=some lo→∀(i:Nat) (o:Oper),l[i]?=some o→∃x,lo[i]?=some x∧q2B P n ops o=some x
 |[],_,_,i,o,h=>by simp at h
 |o::l,lo,hl,i,o',h=>by
  simp only[q1n]at hl;split at hl
  ·rename_i x r hx hr;cases hl;cases i with
   |zero=>simp at h;subst h;exact⟨x,rfl,hx⟩
   |succ i=>simp at h;simpa using z0F hr i o' h
  ·cases hl
theorem z8p{ops:Array Oper}{lo:List q0b}(h:q9F P n ops=some lo):P.follows .mixedOrders=true∧∃l ord,lo=z90 l ord∧z1g ops l ord=true∧j1a ops l ord=true∧∀(i:Nat) (o:Oper),ops[i]?=some o→∃x,l[i]?=some x∧q8v P n ops o x:=by
 unfold q9F at h;split at h
 ·rename_i hf;split at h
  ·rename_i l0 hl0;have h0:∀(i:Nat) (o:Oper),ops[i]?=some o→∃x,l0[i]?=some x∧q2B P n ops o=some x:=fun i o hi=>z0F hl0 i o (by simpa using hi)
   have setP_:∀(x:q0b) c,x.setP c=x∨x.setP c=x.setC c:=fun x c=>by
    unfold q0b.setP;split
    ·exact .inr rfl
    ·exact .inl rfl
   have hadd:∀{f:q0b→List (Nat×LV)} {l:List q0b} {ord:List Nat} {i:Nat} {x:q0b},l[i]?=some x→∃y,(z2E f ops ord l)[i]?=some y∧(y=x∨∃c,y=x.setC c):=fun{f l ord i x} hx=>by
    have hi:=(Zac.1 hx).1;have hr:(List.range l.length)[i]?=some i:=by simp[hi]
    have hg:l.getD i default=x:=by rw[List.getD_eq_getElem?_getD,hx];rfl
    rw[z2E,Zan,hr,Zax,hg];refine⟨_,rfl,?_⟩;rcases setP_ x ((List.range ops.size).foldr (fun k acc=>if decide (posOf ord k<posOf ord i) && !q9z ops 8 i k then f (l.getD k default)++acc else acc) [])with e|e
    ·exact .inl e
    ·exact .inr ⟨_,e⟩
   have haddS:∀{l:List q0b} {ord:List Nat} {i:Nat} {x:q0b},l[i]?=some x→∃y,(z6u ops ord l)[i]?=some y∧(y=x∨∃c,y=x.setC c):=fun{l ord i x} hx=>by
    have hi:=(Zac.1 hx).1;have hr:(List.range l.length)[i]?=some i:=by simp[hi]
    have hg:l.getD i default=x:=by rw[List.getD_eq_getElem?_getD,hx];rfl
    rw[z6u,Zan,hr,Zax,hg];refine⟨_,rfl,?_⟩;split
    ·exact .inr ⟨_,rfl⟩
    ·exact .inl rfl
   have fin1:∀{y x:q0b} {o:Oper},q2B P n ops o=some x→(y=x∨∃c,y=x.setC c)→q8v P n ops o y:=fun{y x o} h2 h=>by
    rcases h with rfl|⟨c,rfl⟩
    ·exact⟨_,[],h2,.inl (.inl rfl)⟩
    ·exact⟨_,c,h2,.inr (.inl rfl)⟩
   have fin2:∀{y x:q0b} {o:Oper},q2B P n ops o=some x→(y=x.copy∨∃c,y=x.copy.setC c)→q8v P n ops o y:=fun{y x o} h2 h=>by
    rcases h with rfl|⟨c,rfl⟩
    ·exact⟨_,[],h2,.inl (.inr rfl)⟩
    ·exact⟨_,c,h2,.inr (.inr rfl)⟩
   split at h
   ·rename_i hok;cases h;simp only[z2V,Zah]at hok;exact⟨hf,l0,_,rfl,hok.1,hok.2,fun i o hi=>let⟨x,h1,h2⟩:=h0 i o hi;⟨x,h1,fin1 h2 (.inl rfl)⟩⟩
   ·split at h
    ·rename_i hok;cases h;simp only[z2V,Zah]at hok;exact⟨hf,l0.map q0b.copy,_,rfl,hok.1,hok.2,fun i o hi=>let⟨x,h1,h2⟩:=h0 i o hi;⟨x.copy,by simp[h1],fin2 h2 (.inl rfl)⟩⟩
    ·split at h
     ·rename_i hok;cases h;simp only[z2V,Zah]at hok;exact⟨hf,_,_,rfl,hok.1,hok.2,fun i o hi=>let⟨x,h1,h2⟩:=h0 i o hi;let⟨y,h3,h4⟩:=hadd h1;⟨y,h3,fin1 h2 h4⟩⟩
     ·split at h
      ·rename_i hok;cases h;simp only[z2V,Zah]at hok;exact⟨hf,_,_,rfl,hok.1,hok.2,fun i o hi=>let⟨x,h1,h2⟩:=h0 i o hi;let⟨y,h3,h4⟩:=hadd (l:=l0.map q0b.copy) (i:=i) (x:=x.copy) (by simp[h1]);⟨y,h3,fin2 h2 h4⟩⟩
      ·split at h
       ·rename_i hok;cases h;simp only[z2V,Zah]at hok;exact⟨hf,_,_,rfl,hok.1,hok.2,fun i o hi=>let⟨x,h1,h2⟩:=h0 i o hi;let⟨y,h3,h4⟩:=haddS (l:=l0.map q0b.copy) (i:=i) (x:=x.copy) (by simp[h1]);⟨y,h3,fin2 h2 h4⟩⟩
       ·split at h
        ·rename_i hok;cases h;simp only[z2V,Zah]at hok;exact⟨hf,_,_,rfl,hok.1,hok.2,fun i o hi=>let⟨x,h1,h2⟩:=h0 i o hi;let⟨y,h3,h4⟩:=hadd (l:=l0.map q0b.copy) (i:=i) (x:=x.copy) (by simp[h1]);⟨y,h3,fin2 h2 h4⟩⟩
        ·cases h
  ·cases h
 ·cases h
theorem j2b(h:SR E n G σ a.tmps w){id:Nat}{ops:Array Oper}{lo:List q0b}(hl:q9F P n ops=some lo){K:St→Prop}{Q:Exit→Act→World→Prop}{d:List Deferred}(hd:a.defers=d)(hs:DOps P lo K σ)(hK:∀a' w',z1O E n K d a' w'→Q .normal a' w'):(Code.region id ops true).wp P Q a w:=by
 obtain⟨hf,l,ord,rfl,hok,hfa,hlo⟩:=z8p hl;obtain⟨o1,o2,o3⟩:=j2a hok;refine wp_region_any hf ?_;refine dany hlo hok hfa hK ops.size (Array.replicate ops.size false) ord σ G a _ (by simp) (fun j oj _ hl=>absurd hl (by rcases Zbi j ops.size with h|h<;>simp[h])) o1 (fun k=>?_) (by omega) (z1S hs) (h.drew) hd;rw[o2 k];constructor
 ·intro hk;simp[hk]
 ·exact fun h=>h.1
end Go.Av
/- Programs over abstract states, continued: regions, statements, loops, functions. -/
namespace Go.Av
variable {E:Entry} {n:Nat} {G:q0s} {σ σ':St} {a:Act} {w:World} {P:Program} [Inv P] [HasInv P E]
theorem q7Q{K:St→Prop}{ops:Array Oper}{Q:Exit→Act→World→Prop}{d:List Deferred}(hK:∀a' w',z1O E n K d a' w'→Q .normal a' w'):∀{l:List Oper} {lo:List q0b} {σ:St} {a:Act} {w:World} {G:q0s},q1n P n ops l=some lo→q6I P lo K σ→SR E n G σ a.tmps w→a.defers=d→
  wpList P ops Q l a w
 |[],lo,σ,a,w,G,hl,h,hσ,hd=>by
  simp[q1n]at hl;subst hl;exact hK a w ⟨G,σ,h,hσ,hd⟩
 |o::l,lo,σ,a,w,G,hl,h,hσ,hd=>by
  simp only[q1n]at hl;split at hl
  ·rename_i x r hx hr;cases hl;have hx':=hx;unfold q2B at hx';split at hx'
   ·rename_i hdst;split at hx'
    ·rename_i op g hE hg;cases hx';have go:q7s P { dst:=o.dst,op:=op,guard:=g } (q6I P r K) σ→o.wp P a w (wpList P ops Q l) Q:=fun hs=>
      q8g hσ hx hs fun a' w' ⟨G',σ',h1,h2,h3⟩=>q7Q hK hr h1 h2 (h3.trans hd)
     unfold wpList;simp only[q6I]at h;cases hgd:o.guard with
     |none=>
      rw[hgd]at hg;simp[guardOf]at hg;subst hg;rw[if_pos (by simp[Region.wanted,hgd])];exact .inl (go h)
     |some jb=>
      obtain⟨j,b⟩:=jb;rw[hgd]at hg;simp only[guardOf]at hg;split at hg
      ·rename_i s hs;cases hg;rcases h with⟨t,ht,h1,h2⟩|⟨hu,h2⟩
       rotate_left
       ·have hy:yielded ops a.tmps j≠some b:=q8j hσ hs hu;rw[if_neg (by simp[Region.wanted,hgd,hy])];exact q7Q hK hr h2 (hσ.putO hdst (undR q9R)) ((put_defers a _ _).trans hd)
       have hy:=q9V hσ hs ht (hσ.z7o ht)
       by_cases htb:t=b
       ·rw[if_pos (by simp[Region.wanted,hgd,hy,htb])];exact .inl (go (h1 htb))
       ·rw[if_neg (by simp[Region.wanted,hgd,hy,htb])];exact q7Q hK hr (h2 htb) (hσ.putO hdst (undR q9R)) ((put_defers a _ _).trans hd)
      ·cases hg
    ·cases hx'
   ·cases hx'
  ·cases hl
theorem q8f{K:St→Prop}{ops:Array Oper}{Q:Exit→Act→World→Prop}{d:List Deferred}{rest:List Oper}(hK:∀a' w',z1O E n K d a' w'→wpList P ops Q rest a' w'):∀{l:List Oper} {lo:List q0b} {σ:St} {a:Act} {w:World} {G:q0s},q1n P n ops l=some lo→q6I P lo K σ→SR E n G σ a.tmps w→a.defers=d→
  wpList P ops Q (l++rest) a w
 |[],lo,σ,a,w,G,hl,h,hσ,hd=>by
  simp[q1n]at hl;subst hl;exact hK a w ⟨G,σ,h,hσ,hd⟩
 |o::l,lo,σ,a,w,G,hl,h,hσ,hd=>by
  simp only[q1n]at hl;split at hl
  ·rename_i x r hx hr;cases hl;have hx':=hx;unfold q2B at hx';split at hx'
   ·rename_i hdst;split at hx'
    ·rename_i op g hE hg;cases hx';have go:q7s P { dst:=o.dst,op:=op,guard:=g } (q6I P r K) σ→o.wp P a w (wpList P ops Q (l++rest)) Q:=fun hs=>
      q8g hσ hx hs fun a' w' ⟨G',σ',h1,h2,h3⟩=>q8f hK hr h1 h2 (h3.trans hd)
     rw[Zbe];unfold wpList;simp only[q6I]at h;cases hgd:o.guard with
     |none=>
      rw[hgd]at hg;simp[guardOf]at hg;subst hg;rw[if_pos (by simp[Region.wanted,hgd])];exact .inl (go h)
     |some jb=>
      obtain⟨j,b⟩:=jb;rw[hgd]at hg;simp only[guardOf]at hg;split at hg
      ·rename_i s hs;cases hg;rcases h with⟨t,ht,h1,h2⟩|⟨hu,h2⟩
       rotate_left
       ·have hy:yielded ops a.tmps j≠some b:=q8j hσ hs hu;rw[if_neg (by simp[Region.wanted,hgd,hy])];exact q8f hK hr h2 (hσ.putO hdst (undR q9R)) ((put_defers a _ _).trans hd)
       have hy:=q9V hσ hs ht (hσ.z7o ht)
       by_cases htb:t=b
       ·rw[if_pos (by simp[Region.wanted,hgd,hy,htb])];exact .inl (go (h1 htb))
       ·rw[if_neg (by simp[Region.wanted,hgd,hy,htb])];exact q8f hK hr (h2 htb) (hσ.putO hdst (undR q9R)) ((put_defers a _ _).trans hd)
      ·cases hg
    ·cases hx'
   ·cases hx'
  ·cases hl
theorem z4b{ops:Array Oper}:∀{lo1:List q0b} {l:List Oper} {lo2:List q0b},q1n P n ops l=some (lo1++lo2)→∃l1 l2,l=l1++l2∧q1n P n ops l1=some lo1∧q1n P n ops l2=some lo2
 |[],l,lo2,h=>⟨[],l,rfl,rfl,h⟩
 |x::lo1,[],lo2,h=>by simp[q1n]at h
 |x::lo1,o::l,lo2,h=>by
  simp only[q1n,Zbe]at h;split at h
  ·rename_i x' r hx hr;obtain⟨rfl,rfl⟩:=List.cons.inj (Option.some.inj h);obtain⟨l1,l2,rfl,h1,h2⟩:=z4b hr;exact⟨o::l1,l2,rfl,by simp only[q1n,hx,h1],h2⟩
  ·cases h
theorem z5G{K:St→Prop}{ops:Array Oper}{Q:Exit→Act→World→Prop}{d:List Deferred}(hK:∀a' w',z1O E n K d a' w'→Q .normal a' w'){last:List q0b}:∀{al:List (List q0b×q0b)} {l:List Oper} {σ:St} {a:Act} {w:World} {G:q0s},q1n P n ops l=some (altL al last)→AOps P last K al σ→SR E n G σ a.tmps w→a.defers=d→
  wpList P ops Q l a w
 |[],l,σ,a,w,G,hl,h,hσ,hd=>q7Q hK hl h hσ hd
 |(l1,o)::r,l,σ,a,w,G,hl,h,hσ,hd=>by
  obtain⟨m1,m2,rfl,e1,e2⟩:=z4b (lo1:=l1) (lo2:=o::altL r last) hl;refine q8f (K:=q2C P o (AOps P last K r)) (fun a' w' ⟨G',σ',h1,h2,h3⟩=>?_) e1 h hσ hd;cases m2 with
  |nil=>simp[q1n]at e2
  |cons x m2=>
   simp only[q1n]at e2;split at e2
   ·rename_i x' r' hx hr;obtain⟨rfl,rfl⟩:=List.cons.inj (Option.some.inj e2);have hx':=hx;unfold q2B at hx';split at hx'
    ·rename_i hdst;split at hx'
     ·rename_i op g hE hg;cases hx';obtain⟨hgn,hs⟩:=h1;simp only at hgn;subst hgn;have hgd:x.guard=none:=by
       cases hgd:x.guard with
       |none=>rfl
       |some jb=>
        obtain⟨j,b⟩:=jb;rw[hgd]at hg;simp only[guardOf]at hg;split at hg<;>cases hg
      unfold wpList;rw[if_pos (by simp[Region.wanted,hgd])];exact .inl (((hs E n G' a' w' x hE rfl hdst h2).mono fun v w2 ⟨G2,σ2,q1,q2⟩=>z5G hK hr q1 q2 ((put_defers a' _ _).trans h3)).wp)
     ·cases hx'
    ·cases hx'
   ·cases e2
def QK(E:Entry)(n:Nat)(d:List Deferred)(K:Exit→St→Prop):Exit→Act→World→Prop:=fun e a w=>z1O E n (K e) d a w
def LInv(P:Program)(n:Nat)(c:Code):q0g→Prop
 |.skip=>c=.skip
 |.reg l=>∃id ops,c=.region id ops false∧q1n P n ops ops.toList=some l
 |.dreg l=>∃id ops,c=.region id ops true∧q9F P n ops=some l
 |.fam l deps=>∃id ops,c=.region id ops true∧P.follows .mixedOrders=true∧q1n P n ops ops.toList=some l∧deps=z2L ops∧j3T ops=true
 |.seq x y=>∃cx cy,c=.seq cx cy∧q5y P n cx=some x∧q5y P n cy=some y
 |.cond x y z=>∃cc cy cz,c=.cond cc cy cz∧q1o cc=some x∧q5y P n cy=some y∧q5y P n cz=some z
 |.block id x=>∃cx,c=.block id cx∧q5y P n cx=some x
 |.loop x=>∃cx,c=.loop cx∧q5y P n cx=some x
 |.exit id=>c=.exit id
 |.ret=>c=.ret
 |.dead _ _=>False
 |.alt _ _=>False
 |.join _=>False
 |.bad=>True
theorem q29{c:Code}{L:q0g}(h:q5y P n c=some L):LInv P n c L:=by
 cases c<;>simp only[q5y]at h
 ·cases h;rfl
 ·rename_i id ops draw;split at h
  ·rename_i hd;subst hd;split at h
   ·cases h;exact⟨id,ops,rfl,by assumption⟩
   ·unfold j4j at h;split at h
    ·split at h
     ·rename_i hb;cases h;simp only[Zah]at hb;exact⟨id,ops,rfl,hb.1,by assumption,rfl,hb.2⟩
     ·cases h;trivial
    ·cases h;trivial
  ·rename_i hd;have:draw=false:=by simpa using hd
   subst this;split at h
   ·cases h;exact⟨id,ops,rfl,by assumption⟩
   ·cases h;trivial
 ·split at h
  ·cases h;exact⟨_,_,rfl,by assumption,by assumption⟩
  ·cases h
 ·split at h
  ·cases h;exact⟨_,_,_,rfl,by assumption,by assumption,by assumption⟩
  ·cases h
 ·obtain⟨l,h1,rfl⟩:=map_none h;exact⟨_,rfl,h1⟩
 ·obtain⟨l,h1,rfl⟩:=map_none h;exact⟨_,rfl,h1⟩
 ·cases h;trivial
 ·cases h;rfl
 ·cases h;trivial
 ·cases h;trivial
 ·cases h;trivial
 ·cases h;rfl
 ·cases h;trivial
theorem j3Z(h:SR E n G σ a.tmps w){ops:Array Oper}{i:Nat}{o:Oper}(hi:ops[i]?=some o){x:q0b}(hy:q2B P n ops o=some x){K:St→Prop}(hs:LOps P [x] K σ∨q2C P x K σ){next:Act→World→Prop}{Q:Exit→Act→World→Prop}
  (hK:∀a' w',z1O E n K a.defers a' w'→next a' w'):wpOp P ops Q i next a w:=by
 obtain⟨hdst,hxd,hE,hgd⟩:=q34 hy;have hl:q8v P n ops o x:=⟨x,[],hy,.inl (.inl rfl)⟩;unfold wpOp;simp only[hi];rcases hs with hs|⟨hg,hs⟩
 ·have key:(x.guard=none→o.wp P a w next Q)→(∀s b t,x.guard=some (s,b)→σ.get s=.d (.bool t)→(t=b→o.wp P a w next Q)∧(t≠b→next (a.put o.dst undef) w))→(∀s b,x.guard=some (s,b)→(∃t,σ.get s=.d (.bool t))∨(σ.get s=und∧next (a.put o.dst undef) w))→
      if Region.wanted o (yielded ops a.tmps)then o.wp P a w next Q∨(o.asks P a w∧LetsOut Q)else next (a.put o.dst undef) w:=fun k1 k2 k3=>by
   cases hg:o.guard with
   |none=>
    rw[hg]at hgd;simp[guardOf]at hgd;rw[if_pos (by simp[Region.wanted,hg])];exact .inl (k1 hgd.symm)
   |some jb=>
    obtain⟨j,b⟩:=jb;rw[hg]at hgd;simp only[guardOf]at hgd;split at hgd
    ·rename_i s hs';simp only[Zas]at hgd;rcases k3 s b hgd.symm with⟨t,ht⟩|⟨hu,hnx⟩
     rotate_left
     ·have hy:yielded ops a.tmps j≠some b:=q8j h hs' hu;rw[if_neg (by simp[Region.wanted,hg,hy])];exact hnx
     have hy:=q9V h hs' ht (h.z7o ht);obtain⟨m1,m2⟩:=k2 s b t hgd.symm ht
     by_cases htb:t=b
     ·rw[if_pos (by simp[Region.wanted,hg,hy,htb])];exact .inl (m1 htb)
     ·rw[if_neg (by simp[Region.wanted,hg,hy,htb])];exact m2 htb
    ·cases hgd
  have skipped:K (putO σ x.dst und)→next (a.put o.dst undef) w:=fun hk=>
   hK _ _ ⟨G,_,hk,hxd▸h.putO hdst (undR q9R),put_defers a _ _⟩
  simp only[LOps]at hs;refine key (fun hg=>?_) (fun s b t hg ht=>?_) (fun s b hg=>?_)<;>rw[hg]at hs
  ·exact q38 h hl hs hK
  ·rcases hs with⟨t',h1,h2,h3⟩|⟨h1,_⟩
   ·rw[ht]at h1;cases h1;exact⟨fun e=>q38 h hl (h2 e) hK,fun e=>skipped (h3 e)⟩
   ·rw[ht]at h1;cases h1
  ·rcases hs with⟨t',h1,_⟩|⟨h1,h2⟩
   ·exact .inl ⟨t',h1⟩
   ·exact .inr ⟨h1,skipped h2⟩
 ·have hgn:o.guard=none:=by
   rw[hg]at hgd;cases hgo:o.guard with
   |none=>rfl
   |some jb=>
    obtain⟨j,b⟩:=jb;rw[hgo]at hgd;simp only[guardOf]at hgd;split at hgd<;>cases hgd
  rw[if_pos (by simp[Region.wanted,hgn])];rw[hxd]at hs;exact .inl (((hs E n G a w o hE rfl hdst h).mono fun v w2 ⟨G2,σ2,q1,q2⟩=>hK _ _ ⟨G2,σ2,q1,q2,put_defers a _ _⟩).wp)
theorem z5K{ops:Array Oper}{i:Nat}{o:Oper}(h:ops[i]?=some o):(z2L ops).getD i []=(o.after.toList.filter fun e=>Region.binds .any e).map (·.on):=by
 have h2:ops.toList[i]?=some o:=by simpa using h
 rw[z2L,List.getD_eq_getElem?_getD,Zan,h2];rfl
theorem dfam{ops:Array Oper}{lo:List q0b}(hlo:∀(i:Nat) (o:Oper),ops[i]?=some o→∃x,lo[i]?=some x∧q2B P n ops o=some x)(hll:lo.length=ops.size)(hok:j3T ops=true){I:(Nat→Bool)→St→Prop}{K:St→Prop}{Q:Exit→Act→World→Prop}{d:List Deferred}
  (hstep:∀(done:Nat→Bool) (τ:St) (i:Nat) (x:q0b),I done τ→lo[i]?=some x→done i=false→(∀j∈(z2L ops).getD i [],done j=true)→∃τ',GhoB E.b0 τ τ'∧(LOps P [x] (I fun k=>k==i || done k) τ'∨q2C P x (I fun k=>k==i || done k) τ'))
  (hfin:∀(done:Nat→Bool) (τ:St),(∀i,i<lo.length→done i=true)→I done τ→∃τ',GhoB E.b0 τ τ'∧K τ') (hK:∀a' w',z1O E n K d a' w'→Q .normal a' w'):
  ∀(f:Nat) (listed:Array Bool) (τ:St) (G:q0s) (a:Act) (w:World),listed.size=ops.size→((List.range ops.size).filter fun k => !listed.getD k false).length≤f→
   I (fun k=>listed.getD k false) τ→SR E n G τ a.tmps w→a.defers=d→wpAny P .any ops Q f listed a w:=by
 have none_left:∀{listed:Array Bool},listed.size=ops.size→Region.ready .any ops listed=[]→∀i,i<ops.size→listed.getD i false=true:=fun{listed} hsz hr=>by
  intro i;induction i using Nat.strongRecOn with
  |_ i ih=>
   intro hi;cases hb:listed.getD i false with
   |true=>rfl
   |false=>
    exfalso
    obtain⟨o,ho⟩:∃o,ops[i]?=some o:=⟨ops[i],by simp[hi]⟩;have hm:i∈Region.ready .any ops listed:=mem_ready.2 ⟨by
     have hlt:i<listed.size:=by rw[hsz];exact hi
     simp[hlt]at hb ⊢;exact hb,o,ho,fun e he hbd=>by
     have h1:=Zbh.1 hok i (Zcs.2 hi);rw[z5K ho]at h1;have h2:=Zbh.1 h1 e.on (Zat.2 ⟨e,Zcd.2 ⟨by simpa using he,hbd⟩,rfl⟩);have h3:e.on<i:=by simpa using h2
     exact ih e.on h3 (by omega)⟩
    rw[hr]at hm;cases hm
 have fin:∀{listed:Array Bool} {τ:St} {G:q0s} {a:Act} {w:World},listed.size=ops.size→Region.ready .any ops listed=[]→I (fun k=>listed.getD k false) τ→SR E n G τ a.tmps w→a.defers=d→Q .normal a w:=fun hsz hr hI h3 h4=>by
  obtain⟨τ',g,hk⟩:=hfin _ _ (fun i hi=>none_left hsz hr i (by omega)) hI;obtain⟨G2,h5⟩:=g _ _ _ _ _ rfl h3;exact hK _ _ ⟨G2,τ',hk,h5,h4⟩
 intro f;induction f with
 |zero=>
  intro listed τ G a w hsz hf hI hσ hdef;have hnil:(List.range ops.size).filter (fun k => !listed.getD k false)=[]:=List.length_eq_zero_iff.1 (by omega);have hr:Region.ready .any ops listed=[]:=by
   apply List.eq_nil_iff_forall_not_mem.2;intro i hi;obtain⟨h1,o,h2,_⟩:=mem_ready.1 hi;have hlt:=(Zar.1 h2).1;have:i∈(List.range ops.size).filter (fun k => !listed.getD k false):=Zcd.2 ⟨Zcs.2 hlt,by
    have hlt':i<listed.size:=by rw[hsz];exact hlt
    simp[hlt']at h1 ⊢;exact h1⟩
   rw[hnil]at this;cases this
  exact⟨hr,fin hsz hr hI hσ hdef⟩
 |succ f ih=>
  intro listed τ G a w hsz hf hI hσ hdef;refine⟨fun h0=>fin hsz h0 hI hσ hdef,fun i hi=>?_⟩;obtain⟨hun,o,ho,hall⟩:=mem_ready.1 hi;have hlt:=(Zar.1 ho).1;have hlt':i<listed.size:=by rw[hsz];exact hlt
  have hdi:listed.getD i false=false:=by simp[hlt']at hun ⊢;exact hun
  obtain⟨x,hx,hl⟩:=hlo i o ho;obtain⟨τ',g,hs'⟩:=hstep _ τ i x hI hx hdi fun j hj=>by
   rw[z5K ho]at hj;obtain⟨e,he,rfl⟩:=Zat.1 hj;obtain⟨he,hb⟩:=Zcd.1 he;exact hall e (by simpa using he) hb
  obtain⟨G1,hσ⟩:=g _ _ _ _ _ rfl hσ;refine j3Z hσ ho hl hs' fun a' w' ⟨G',σ',h1,h2,h3⟩=>?_
  ·refine ih (listed.setIfInBounds i true) σ' G' a' w' (by simp[hsz]) ?_ ?_ h2 (h3.trans hdef)
   ·have hlen:((List.range ops.size).filter fun k => !(listed.setIfInBounds i true).getD k false).length+1≤((List.range ops.size).filter fun k => !listed.getD k false).length:=by
     have hsub:((List.range ops.size).filter fun k => !(listed.setIfInBounds i true).getD k false)=(((List.range ops.size).filter fun k => !listed.getD k false).filter fun k=>k != i):=by
      rw[List.filter_filter];refine List.filter_congr fun k hk=>?_
      by_cases hki:i=k
      ·subst hki;simp[hlt']
      ·rw[getD_set_ne false hki];have:(k != i)=true:=by simpa using fun e=>hki e.symm
       rw[this,Zcn]
     rw[hsub];have hmem:i∈(List.range ops.size).filter fun k => !listed.getD k false:=Zcd.2 ⟨Zcs.2 hlt,by rw[hdi];rfl⟩
     have h5:=List.length_filter_lt_length_iff_exists (p:=fun k=>k != i) (l:=(List.range ops.size).filter fun k => !listed.getD k false);exact h5.2 ⟨i,hmem,by simp⟩
    omega
   ·have e:(fun k=>k==i || listed.getD k false)=fun k=>(listed.setIfInBounds i true).getD k false:=by
     funext k
     by_cases hki:i=k
     ·subst hki;simp[hlt']
     ·rw[getD_set_ne false hki];have:(k==i)=false:=by simpa using fun e=>hki e.symm
      rw[this,Zdc]
    rw[←e];exact h1
theorem z4c{ops:Array Oper}:∀{l:List Oper} {lo:List q0b},q1n P n ops l=some lo→lo.length=l.length
 |[],lo,h=>by simp only[q1n,Zas]at h;subst h;rfl
 |o::l,lo,h=>by
  simp only[q1n]at h;split at h
  ·rename_i x r hx hr;cases h;simp[z4c hr]
  ·cases h
theorem j3U(h:SR E n G σ a.tmps w){id:Nat}{ops:Array Oper}{lo:List q0b}(hf:P.follows .mixedOrders=true)(hl:q1n P n ops ops.toList=some lo)(hok:j3T ops=true){K:St→Prop}{Q:Exit→Act→World→Prop}{d:List Deferred}(hd:a.defers=d)
  (hs:FamW P lo (z2L ops) K σ) (hK:∀a' w',z1O E n K d a' w'→Q .normal a' w'):(Code.region id ops true).wp P Q a w:=by
 obtain⟨I,⟨τ0,g0,h1⟩,h2,h3⟩:=hs E.b0;obtain⟨G0,h⟩:=g0 _ _ _ _ _ rfl h;refine wp_region_any hf ?_;refine dfam (fun i o hi=>z0F hl i o (by simpa using hi)) (by rw[z4c hl];simp) hok h2 h3 hK ops.size (Array.replicate ops.size false) τ0 G0 a _ (by simp) ?_ ?_ (h.drew) hd
 ·exact Zbr (List.length_filter_le _ _) (by simp)
 ·have e:(fun k=>(Array.replicate ops.size false).getD k false)=fun _=>false:=by
   funext k
   rcases Zbi k ops.size with hk|hk<;>simp[hk]
  rw[e];exact h1
theorem z7D{α:Type}:∀{ds:List Nat} {l:List (Nat×α)} {s:Nat} {x:α},aget (j5C l ds) s=some x→aget l s=some x
 |[],_,_,_,h=>h
 |d::ds,l,s,x,h=>by
  have:=z7D (ds:=ds) h;rw[q0O]at this;split at this
  ·cases this
  ·exact this
theorem j7U(σ:St)(ds:List Nat):Wk (σ.dead ds) σ:=⟨fun s x h=>z7D h,fun r o h=>by cases r<;>exact h⟩
theorem z60{d:List Deferred}:∀(L:q0g) {c:Code} {K:Exit→St→Prop} {σ:St} {G:q0s} {a:Act} {w:World},q5y P n c=some L.strip→LW P L K σ→SR E n G σ a.tmps w→a.defers=d→c.wp P (QK E n d K) a w:=by
 intro L;induction L with
 |skip=>
  intro c K σ G a w hl h hσ hd;have hi:c=.skip:=q29 hl;subst hi;exact wp_skip ⟨G,σ,h,hσ,hd⟩
 |reg l=>
  intro c K σ G a w hl h hσ hd;obtain⟨id,ops,rfl,hl'⟩:∃id ops,c=.region id ops false∧q1n P n ops ops.toList=some l:=q29 hl;refine wp_region_list ?_;exact q7Q (K:=K .normal) (fun a' w' h=>h) hl' h hσ hd
 |dreg l=>
  intro c K σ G a w hl h hσ hd;obtain⟨id,ops,rfl,hl'⟩:∃id ops,c=.region id ops true∧q9F P n ops=some l:=q29 hl;exact j2b (K:=K .normal) hσ hl' hd h (fun a' w' h=>h)
 |fam l deps=>
  intro c K σ G a w hl h hσ hd;obtain⟨id,ops,rfl,hf,hl',rfl,hok⟩:∃id ops,c=.region id ops true∧P.follows .mixedOrders=true∧q1n P n ops ops.toList=some l∧deps=z2L ops∧j3T ops=true:=q29 hl;exact j3U (K:=K .normal) hσ hf hl' hok hd h (fun a' w' h=>h)
 |dead ds x ih=>
  intro c K σ G a w hl h hσ hd;refine wp_mono (ih (K:=j7T ds K) hl h hσ hd) fun e a' w' ⟨G',σ',h1,h2,h3⟩=>?_
  cases e with
  |normal=>exact⟨G',σ'.dead ds,h1,h2.wk (j7U σ' ds),h3⟩
  |_=>exact⟨G',σ',h1,h2,h3⟩
 |alt al last=>
  intro c K σ G a w hl h hσ hd;obtain⟨id,ops,rfl,hl'⟩:∃id ops,c=.region id ops false∧q1n P n ops ops.toList=some (altL al last):=q29 hl;refine wp_region_list ?_;exact z5G (K:=K .normal) (fun a' w' h=>h) hl' h hσ hd
 |join x ih=>
  intro c K σ G a w hl h hσ hd;refine wp_mono (ih (K:=j9n K) hl h hσ hd) fun e a' w' ⟨G',σ',h1,h2,h3⟩=>?_
  cases e with
  |normal=>
   obtain⟨τ,g,hk⟩:=h1;obtain⟨G2,h4⟩:=g E n G' _ _ h2;exact⟨G2,τ,hk,h4,h3⟩
  |_=>exact⟨G',σ',h1,h2,h3⟩
 |seq x y ihx ihy=>
  intro c K σ G a w hl h hσ hd;obtain⟨cx,cy,rfl,hx,hy⟩:∃cx cy,c=.seq cx cy∧q5y P n cx=some x.strip∧q5y P n cy=some y.strip:=q29 hl;refine wp_seq (wp_mono (ihx hx h hσ hd) fun e a' w' ⟨G',σ',h1,h2,h3⟩=>?_);cases e with
  |normal=>exact ihy hy h1 h2 h3
  |_=>exact⟨G',σ',h1,h2,h3⟩
 |cond x y z ihy ihz=>
  intro c K σ G a w hl h hσ hd;obtain⟨cc,cy,cz,rfl,hx,hy,hz⟩:∃cc cy cz,c=.cond cc cy cz∧q1o cc=some x∧q5y P n cy=some y.strip∧q5y P n cz=some z.strip:=q29 hl;obtain⟨t,ht,h1,h2⟩:=h;have hc:=hσ.ev hx;rw[ht]at hc;have hc:=hc.dinv;have hv:a.eval cc=.bool t:=by
   generalize a.eval cc=v at hc;cases hc;rfl
  refine wp_cond hv ?_;cases t
  ·exact ihz hz (h2 rfl) hσ hd
  ·exact ihy hy (h1 rfl) hσ hd
 |block id x ih=>
  intro c K σ G a w hl h hσ hd;obtain⟨cx,rfl,hx⟩:∃cx,c=.block id cx∧q5y P n cx=some x.strip:=q29 hl;refine wp_block (wp_mono (ih hx h hσ hd) fun e a' w' ⟨G',σ',h1,h2,h3⟩=>?_);cases e with
  |exit id'=>
   simp only[j02]at h1;simp only[Exit.inBlock];split at h1
   ·rename_i e;rw[if_pos e];exact⟨G',σ',h1,h2,h3⟩
   ·rename_i e;rw[if_neg e];exact⟨G',σ',h1,h2,h3⟩
  |_=>exact⟨G',σ',h1,h2,h3⟩
 |loop x ih=>
  intro c K σ G a w hl h hσ hd;obtain⟨cx,rfl,hx⟩:∃cx,c=.loop cx∧q5y P n cx=some x.strip:=q29 hl;obtain⟨α,r,I,hwf,⟨m0,τ0,hw0,hI0⟩,hround⟩:=h;intro b k cs;have key:∀m (τ:St) (G:q0s) (a:Act) (w:World),I m τ→SR E n G τ a.tmps w→a.defers=d→
    ∃e a' w',QK E n d K e a' w'∧Arrives P (lone (b.at a (.code cx::.inLoop cx::k)) cs w) b k cs e a' w':=by
   intro m;induction m using hwf.induction with
   |_ m ihm=>
    intro τ G a w hI hσ hd;obtain⟨e,a₁,w₁,hq,harr⟩:=ih hx (hround m τ hI) hσ hd b (.inLoop cx::k) cs;obtain⟨G',σ',h1,h2,h3⟩:=hq;cases e with
    |normal=>
     obtain⟨m',τ'',hw,hI',hlt⟩:=h1;obtain⟨e₂,a₂,w₂,hq₂,harr₂⟩:=ihm m' hlt τ'' G' a₁ w₁ hI' (h2.wk hw) h3;exact⟨e₂,a₂,w₂,hq₂,.of_steps (Steps.trans harr (.one step_inLoop)) harr₂⟩
    |exit id=>exact⟨_,a₁,w₁,⟨G',σ',h1,h2,h3⟩,.pass (x:=.inLoop cx) rfl (fun _ _=>.inl (by simp)) harr⟩
    |goto l=>exact⟨_,a₁,w₁,⟨G',σ',h1,h2,h3⟩,.pass (x:=.inLoop cx) rfl (fun _ _=>.inl (by simp)) harr⟩
    |ret=>exact⟨_,a₁,w₁,⟨G',σ',h1,h2,h3⟩,.pass (x:=.inLoop cx) rfl (fun _ _=>.inl (by simp)) harr⟩
    |panic ch=>exact⟨_,a₁,w₁,⟨G',σ',h1,h2,h3⟩,.pass (x:=.inLoop cx) rfl (fun _ _=>.inl (by simp)) harr⟩
    |outgrown=>exact⟨_,a₁,w₁,⟨G',σ',h1,h2,h3⟩,.pass (x:=.inLoop cx) rfl (fun _ _=>.inl (by simp)) harr⟩
  obtain⟨e,a',w',hq,harr⟩:=key m0 τ0 G a w hI0 (hσ.wk hw0) hd;exact⟨e,a',w',hq,.of_steps (.one step_loop) harr⟩
 |bad=>intro c K σ G a w hl h hσ hd;exact h.elim
 |exit id=>
  intro c K σ G a w hl h hσ hd;have hi:c=.exit id:=q29 hl;subst hi;exact wp_exit ⟨G,σ,h,hσ,hd⟩
 |ret=>
  intro c K σ G a w hl h hσ hd;have hi:c=.ret:=q29 hl;subst hi;exact wp_ret ⟨G,σ,h,hσ,hd⟩
/-! ### Functions -/
inductive LRes where
 |tmp (t:Nat)
 |cell (a:Nat) (agg:Bool) (m:Nat)
 deriving Inhabited
def q1d(P:Program):List ResultVar→Option (List LRes)
 |[]=>some []
 |.tmp t::r=>(q1d P r).map (.tmp t::·)
 |.cell a t::r=>match P.underlying t,Program.sz P t,q1d P r with
  |some d,some m,some l=>some (.cell a (aggT d) m::l)
  |_,_,_=>none
def resV(σ:St):LRes→Option D
 |.tmp t=>(σ.get t).rd
 |.cell a agg m=>match fLd σ agg m (σ.get a)with
  |some z=>z.rd
  |none=>none
def resL(σ:St):List LRes→Option (List D)
 |[]=>some []
 |x::r=>match resV σ x,resL σ r with
  |some y,some l=>some (y::l)
  |_,_=>none
def j9s:List D→Res
 |[x]=>.one x
 |l=>.tup l
def resS(σ:St)(l:List LRes):Option Res:=(resL σ l).map j9s
def retK(l:List LRes)(Post:Res→Prop):Exit→St→Prop
 |.normal,σ=>∃r,resS σ l=some r∧Post r
 |.ret,σ=>∃r,resS σ l=some r∧Post r
 |_,_=>False
def q3M(a:Act):ResultVar→Sem Value
 |.tmp t=>pure (a.tmps.getD t undef)
 |.cell x t=>do loadVar t (←asAddr (a.tmps.getD x undef))
theorem z7f(h:SR E n G σ a.tmps w):∀{rs:List ResultVar} {l:List LRes} {ds:List D},q1d P rs=some l→resL σ l=some ds→
  ∃vs:List Value,(rs.mapM (q3M a)).run P w=.ok vs w∧vs.length=ds.length∧∀(i:Nat) (y:D),ds[i]?=some y→RD G.f w y (vs.getD i undef)
 |[],l,ds,hl,hd=>by
  simp[q1d]at hl;subst hl;simp[resL]at hd;subst hd;exact⟨[],by simp,rfl,fun _ _ h=>by simp at h⟩
 |r::rs,l,ds,hl,hd=>by
  have tail:∀{l':List LRes} {x:LRes},q1d P rs=some l'→l=x::l'→(∀y,resV σ x=some y→∃v,(q3M a r).run P w=.ok v w∧RD G.f w y v)→
    ∃vs:List Value,((r::rs).mapM (q3M a)).run P w=.ok vs w∧vs.length=ds.length∧∀(i:Nat) (y:D),ds[i]?=some y→RD G.f w y (vs.getD i undef):=by
   intro l' x hl' he hx;subst he;simp only[resL]at hd;split at hd
   ·rename_i y ds' hy hds;cases hd;obtain⟨v,h1,h2⟩:=hx y hy;obtain⟨vs,h3,h4,h5⟩:=z7f h hl' hds;refine⟨v::vs,?_,by simp[h4],fun i z hz=>?_⟩
    ·simp only[List.mapM_cons,Sem.run_bind,h1,Result.andThen_ok,h3,Sem.run_pure]
    ·cases i with
     |zero=>simp at hz;subst hz;simpa using h2
     |succ i=>simp at hz;simpa using h5 i z hz
   ·cases hd
  cases r with
  |tmp t=>
   simp only[q1d]at hl;obtain⟨l',h1,h2⟩:=map_none hl;exact tail h1 h2.symm (fun y hy=>⟨_,rfl,(h.get t).rd hy⟩)
  |cell x t=>
   simp only[q1d]at hl;split at hl
   ·rename_i d m l' hd' hm hl';cases hl;refine tail hl' rfl (fun y hy=>?_);simp only[resV]at hy;split at hy
    ·rename_i z hz;have hx:=h.get x;obtain⟨v,h1,h2⟩:=z9S h hd' hm hx hz;refine⟨v,?_,h2.rd hy⟩;simp only[Act.eval]at h1 hx;generalize hu0:a.tmps.getD x undef=u at h1 hx
     -- the slot holds an address
     have hu:∃ad,u=.pointer (some ad):=by
      unfold fLd at hz;split at hz
      ·rename_i r o he;rw[he]at hx;cases hx;exact⟨_,rfl⟩
      ·rename_i cs he;rw[he]at hx;obtain⟨b,o,rfl⟩:=hx.q4o;exact⟨_,rfl⟩
      ·rename_i cs he;rw[he]at hx;have hx:=hx.j0m;obtain⟨b,o,rfl⟩:=hx.q4o;exact⟨_,rfl⟩
      ·cases hz
     obtain⟨ad,rfl⟩:=hu;simp[Instr.loadAt,Instr.sureAddr]at h1;simp only[q3M,hu0,asAddr,Sem.run_bind,Sem.run_pure,Result.andThen_ok];exact h1
    ·cases hy
   ·cases hl
theorem j0z(h:SR E n G σ a.tmps w){fn:Func}{l:List LRes}{r:Res}(hl:q1d P fn.results.toList=some l)(hr:resS σ l=some r):∃v,(results fn a.tmps).run P w=.ok v w∧RRes G.f w r v:=by
 unfold resS at hr;obtain⟨ds,h1,rfl⟩:=map_none hr;obtain⟨vs,h2,h3,h4⟩:=z7f h hl h1;have h5:(fn.results.mapM (q3M a)).run P w=.ok vs.toArray w:=by
  rw[Array.mapM_eq_mapM_toList];simp only[Sem.run_map,h2,Result.andThen_ok]
 have h6:(results fn a.tmps).run P w=.ok (if h:vs.toArray.size=1 then vs.toArray[0]else .tuple vs.toArray) w:=by
  unfold results;simp only[Sem.run_bind]
  erw[h5]
  rfl
 refine⟨_,h6,?_⟩;match ds,vs,h3,h4 with
 |[x],[v],_,h4=>
  show RD G.f w x v
  simpa using h4 0 x rfl
 |[],[],_,_=>exact⟨#[],rfl,rfl,fun i y hy=>by simp at hy⟩
 |x::y::ds,u::v::vs,h3,h4=>
  refine⟨(u::v::vs).toArray,by simp,by simpa using h3,fun i z hz=>?_⟩;have:=h4 i z hz;simpa[List.getD_eq_getElem?_getD]using this
def z0D:Nat→List D→List (Nat×AV)
 |_,[]=>[]
 |k,x::r=>(k,.d x)::z0D (k+1) r
theorem z33:∀(k:Nat) (l:List D) (s:Nat) (x:AV),aget (z0D k l) s=some x→∃y,l[s-k]?=some y∧x=.d y∧k≤s
 |_,[],_,_,h=>by simp[z0D,aget]at h
 |k,y::l,s,x,h=>by
  simp only[z0D,aget]at h;split at h
  ·rename_i e;subst e;cases h;exact⟨y,by simp,rfl,Zak _⟩
  ·rename_i e;obtain⟨z,h1,h2,h3⟩:=z33 (k+1) l s x h;refine⟨z,?_,h2,by omega⟩;have:s-k=(s-(k+1))+1:=by omega
   rw[this];simpa using h1
theorem j6L{f:FuncId}{fn:Func}{c:Code}{L:q0g}{l:List LRes}{args:List D}{Post:Res→Prop}(hf:P.funcs[f]?=some fn)(hb:fn.body=some c)(hL:q5y P fn.ntmps c=some L.strip)(hl:q1d P fn.results.toList=some l)(hn:args.length≤fn.ntmps)
  (h:LW P L (retK l Post) ⟨z0D 0 args,[],[]⟩):q0i P f args Post:=by
 intro f0 w vs hI ht hsz hrd;refine calls_of_wp hf hb ?_;let E:Entry:={ w0:=w,f0:=f0,M:=fun _=>False,b0:=fun _=>0 }
 haveI:HasInv P E:=⟨hI,fun _ _ h=>h⟩
 let G0:q0s:={ f:=f0,b:=fun _=>0,lam:=fun _=>none }
 have h0:SR E fn.ntmps G0 ⟨z0D 0 args,[],[]⟩ (vs++Array.replicate (fn.ntmps-vs.size) undef) w:=by
  have hno:∀r o,St.obj ⟨z0D 0 args,[],[]⟩ r=some o→False:=fun r o ho=>by cases r<;>simp[St.obj,aget]at ho
  refine{ size:=by simp;omega,slot:=fun s x hx=>?_,obj:=fun r o ho=>(hno r o ho).elim,objf:=fun r o ho=>(hno r o ho).elim,inj:=fun r _ o _ ho=>(hno r o ho).elim,
          lam:=fun _ _ _ _ h=>(by cases h),lamObj:=fun _ _ _ _ _ h=>(by cases h),lamInj:=fun _ _ _ _ _ _ _ h=>(by cases h),
          newObj:=fun r o ho=>(hno r o ho).elim,newLam:=fun _ _ _ _ _ h=>(by cases h),ext:=Ext.refl _ _,fr:=fun _ _ _=>⟨rfl,rfl⟩,top:=ht,
          ext0:=fun _ _=>rfl,own0:=fun r cs x s ho=>(hno _ _ ho).elim,os:=rfl,tape:=rfl,output:=rfl }
  obtain⟨y,h1,rfl,_⟩:=z33 0 args s x hx;simp at h1;have hs:s<vs.size:=by rw[hsz];exact(Zac.1 h1).1
  have h2:=hrd s y h1;have:(vs++Array.replicate (fn.ntmps-vs.size) undef).getD s undef=vs.getD s undef:=by
   simp only[Zav];rw[Array.getElem?_append_left hs]
  rw[this];exact .d _ _ h2
 refine wp_mono (z60 (E:=E) (d:=[]) L hL h h0 rfl) fun e a' w' ⟨G',σ',h1,h2,h3⟩=>?_
 have fin:(∃r,resS σ' l=some r∧Post r)→∃v,(results fn a'.tmps).run P w'=.ok v w'∧∃r v' f',Post r∧Ending.returned v=.returned v'∧RRes f' w' r v'∧Fr f0 w f' w':=fun⟨r,hr,hp⟩=>by
  obtain⟨v,g1,g2⟩:=j0z (a:=a') h2 hl hr;exact⟨v,g1,r,v,G'.f,hp,rfl,g2,⟨h2.ext.size,fun b hb=>h2.fr b hb (fun h=>h),h2.top,h2.os,h2.tape,h2.output⟩⟩
 cases e with
 |normal=>obtain⟨v,g1,g2⟩:=fin h1;exact⟨h3,v,g1,g2⟩
 |ret=>obtain⟨v,g1,g2⟩:=fin h1;exact⟨h3,v,g1,g2⟩
 |exit id=>exact h1.elim
 |goto l=>exact h1.elim
 |panic ch=>exact h1.elim
 |outgrown=>exact h1.elim
end Go.Av
