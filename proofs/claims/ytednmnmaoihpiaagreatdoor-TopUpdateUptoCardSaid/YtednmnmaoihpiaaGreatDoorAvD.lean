import Derived.Test.YtednmnmaoihpiaaGreatDoorAvC
set_option linter.unusedSectionVars false
/- Regions that draw their order: what is abstract of them may be taken in the order of the text. -/
namespace Go.Av
variable {P:Program} [Inv P]
/-! ### States alike -/
structure Eqv(σ τ:St):Prop where
 ρ:∀s,aget σ.ρ s=aget τ.ρ s
 L:σ.L=τ.L
 H:σ.H=τ.H
theorem Eqv.refl(σ:St):Eqv σ σ:=⟨fun _=>rfl,rfl,rfl⟩
theorem Eqv.symm{σ τ:St}(h:Eqv σ τ):Eqv τ σ:=⟨fun s=>(h.ρ s).symm,h.L.symm,h.H.symm⟩
theorem Eqv.trans{σ τ υ:St}(h:Eqv σ τ)(k:Eqv τ υ):Eqv σ υ:=⟨fun s=>(h.ρ s).trans (k.ρ s),h.L.trans k.L,h.H.trans k.H⟩
theorem Eqv.get{σ τ:St}(h:Eqv σ τ)(s:Nat):σ.get s=τ.get s:=by simp only[St.get,h.ρ s]
theorem Eqv.obj{σ τ:St}(h:Eqv σ τ)(r:Ref):σ.obj r=τ.obj r:=by cases r<;>simp[St.obj,h.L,h.H]
theorem SR.eqv{E:Entry}{n:Nat}{G:q0p}{σ τ:St}{ts:Array Value}{w:World}(h:SR E n G σ ts w)(e:Eqv σ τ):SR E n G τ ts w:=
 have o:∀r,τ.obj r=σ.obj r:=fun r=>(e.obj r).symm
 { h with slot:=fun s x hx=>h.slot s x (by rw[e.ρ];exact hx),obj:=fun r x ho=>h.obj r x (by rw[←o];exact ho),objf:=fun r x ho=>h.objf r x (by rw[←o];exact ho),inj:=fun r r' x x' ho ho'=>h.inj r r' x x' (by rw[←o];exact ho) (by rw[←o];exact ho'),lamObj:=fun q v e sz b h1 h2 r x ho=>h.lamObj q v e sz b h1 h2 r x (by rw[←o];exact ho),newObj:=fun r x ho=>h.newObj r x (by rw[←o];exact ho),own0:=fun r cs x s ho=>h.own0 r cs x s (by rw[←o];exact ho) }
theorem Eqv.put{σ τ:St}(h:Eqv σ τ)(d:Nat)(x:AV):Eqv (σ.put d x) (τ.put d x):=
 ⟨fun s=>by simp only[St.put,q2H,h.ρ],h.L,h.H⟩
theorem Eqv.putO{σ τ:St}(h:Eqv σ τ)(d:Option Nat)(x:AV):Eqv (putO σ d x) (putO τ d x):=by
 cases d with
 |none=>exact h
 |some d=>exact h.put d x
theorem q17{α:Type}(g:α→α)(l:List (Nat×α))(s:Nat):aget (amap g l) s=(aget l s).map g:=by
 induction l with
 |nil=>rfl
 |cons p r ih=>
  obtain⟨k,v⟩:=p;simp only[amap,aget];split
  ·rfl
  ·exact ih
theorem q6Q{α:Type}(g:α→α)(l:List (Nat×α))(s:Nat)(x:α):amap g (q6N l s x)=q6N (amap g l) s (g x):=rfl
theorem q57(σ:St)(q:Lab):(σ.erase q).ρ=amap (AV.erase q) σ.ρ:=by
 unfold St.erase;cases q with
 |t s=>rfl
 |c r off=>
  simp only;split
  ·cases r<;>rfl
  ·rfl
theorem q8R{σ τ:St}(q:Lab)(hL:σ.L=τ.L)(hH:σ.H=τ.H):(σ.erase q).L=(τ.erase q).L∧(σ.erase q).H=(τ.erase q).H:=by
 unfold St.erase;cases q with
 |t s=>exact⟨hL,hH⟩
 |c r off=>
  cases r with
  |l s=>
   simp only[St.obj,hL];cases h:aget τ.L s with
   |none=>simp[hH]
   |some o=>cases o<;>simp[St.setObj,hH]
  |x k=>
   simp only[St.obj,hH];cases h:aget τ.H k with
   |none=>simp[hL]
   |some o=>cases o<;>simp[St.setObj,hL]
theorem Eqv.erase{σ τ:St}(h:Eqv σ τ)(q:Lab):Eqv (σ.erase q) (τ.erase q):=
 ⟨fun s=>by rw[q57,q57,q17,q17,h.ρ],(q8R q h.L h.H).1,(q8R q h.L h.H).2⟩
theorem j07(σ:St)(q:Lab)(d:Nat)(x:AV):Eqv ((σ.put d x).erase q) ((σ.erase q).put d (x.erase q)):=by
 have h:=q8R (σ:=σ.put d x) (τ:=σ) q rfl rfl;refine⟨fun s=>?_,h.1,h.2⟩;rw[q57];simp only[St.put,q57,q6Q]
/-! ### What operations read -/
structure q0I(rs:List Nat)(σ τ:St):Prop where
 get:∀s∈rs,σ.get s=τ.get s
 L:σ.L=τ.L
 H:σ.H=τ.H
theorem q0I.mono{rs rs':List Nat}{σ τ:St}(h:q0I rs σ τ)(hs:∀s∈rs',s∈rs):q0I rs' σ τ:=⟨fun s k=>h.get s (hs s k),h.L,h.H⟩
theorem q0I.left{rs rs':List Nat}{σ τ:St}(h:q0I (rs++rs') σ τ):q0I rs σ τ:=h.mono fun _ k=>List.mem_append_left _ k
theorem q0I.right{rs rs':List Nat}{σ τ:St}(h:q0I (rs++rs') σ τ):q0I rs' σ τ:=h.mono fun _ k=>List.mem_append_right _ k
theorem q0I.j13{rs:List Nat}{σ τ:St}(h:Eqv σ τ):q0I rs σ τ:=⟨fun s _=>h.get s,h.L,h.H⟩
theorem q0I.j6W{rs:List Nat}(σ:St){d:Nat}(x:AV)(hd:d∉rs):q0I rs (σ.put d x) σ:=
 ⟨fun s hs=>by
   have:d≠s:=fun e=>hd (e▸hs)
   simp only[St.get,St.put,q2H,if_neg this],rfl,rfl⟩
theorem q0I.obj{rs:List Nat}{σ τ:St}(h:q0I rs σ τ)(r:Ref):σ.obj r=τ.obj r:=by cases r<;>simp[St.obj,h.L,h.H]
theorem q0I.ev{σ τ:St}{x:LX}(h:q0I (q1O x) σ τ):σ.ev x=τ.ev x:=by
 cases x with
 |t s=>exact h.get s (by simp[q1O])
 |k x=>rfl
theorem q0I.evO{σ τ:St}{x:Option LX}(h:q0I (q9U x) σ τ):evO σ x=evO τ x:=by
 cases x with
 |none=>rfl
 |some x=>simp only[Go.Av.evO,q0I.ev (x:=x) h]
theorem q0I.evL{σ τ:St}:∀{l:List LX},q0I (q3S l) σ τ→evL σ l=evL τ l
 |[],_=>rfl
 |x::r,h=>by simp only[Go.Av.evL,q0I.ev (x:=x) h.left,q0I.evL (l:=r) h.right]
theorem q0I.evP{σ τ:St}:∀{l:List (Nat×LX)},q0I (z16 l) σ τ→evP σ l=evP τ l
 |[],_=>rfl
 |(i,x)::r,h=>by simp only[Go.Av.evP,q0I.ev (x:=x) h.left,q0I.evP (l:=r) h.right]
theorem q0I.pev{σ τ:St}{v:LV}(h:q0I (q5k v) σ τ):pev σ v=pev τ v:=by
 cases v<;>simp only[q5k]at h<;>simp only[Go.Av.pev]
 case cp x=>rw[h.ev]
 case pick c x y=>rw[q0I.ev h.left,q0I.ev h.right.left,q0I.ev h.right.right]
 case bin op x y=>rw[q0I.ev h.left,q0I.ev h.right]
 case eqB n x y=>rw[q0I.ev h.left,q0I.ev h.right]
 case eqN k n x=>rw[h.ev]
 case eqS n ks x y=>rw[q0I.ev h.left,q0I.ev h.right]
 case not x=>rw[h.ev]
 case neg x=>rw[h.ev]
 case cvI k x=>rw[h.ev]
 case i2s x=>rw[h.ev]
 case b2s x=>rw[h.ev]
 case idxS x y=>rw[q0I.ev h.left,q0I.ev h.right]
 case subS x lo hi=>rw[q0I.ev h.left,q0I.evO h.right.left,q0I.evO h.right.right]
 case len s x=>rw[h.ev]
 case mm m x y=>rw[q0I.ev h.left,q0I.ev h.right]
 case fa o x=>rw[h.ev]
 case ia s x y=>rw[q0I.ev h.left,q0I.ev h.right]
 case iaA l s x y=>rw[q0I.ev h.left,q0I.ev h.right]
 case ld a m x=>
  rw[h.ev];unfold fLd;cases τ.ev x<;>simp only[h.obj]
 case sub s x lo hi=>rw[q0I.ev h.left,q0I.evO h.right.left,q0I.evO h.right.right]
 case fld a m o x=>rw[h.ev]
 case bld p z q l=>rw[q0I.evP h]
 case mkI t x=>rw[h.ev]
 case asT t z x=>rw[h.ev]
 case ext i x=>rw[h.ev]
 case nck x=>rw[h.ev]
 case mkF f a b=>rw[q0I.evL h.left,q0I.evL h.right]
/-! ### What is done with a label's loss -/
theorem q0Q{σ:St}{q:Lab}{x:LX}(h:homX x=true):(σ.erase q).ev x=(σ.ev x).erase q:=by
 cases x with
 |t s=>
  simp only[St.ev,St.get,q57,q17];cases aget σ.ρ s<;>rfl
 |k x=>cases x<;>first|rfl|simp[homX]at h
theorem z4v{q:Lab}(x:AV):(x.erase q).rd=x.rd:=by
 cases x<;>try rfl
 rename_i q' e sz l
 by_cases h:q'=q<;>simp[AV.erase,AV.rd,h]
theorem q8T{σ:St}{q:Lab}{x:Option LX}(h:j5J x=true):evO (σ.erase q) x=(evO σ x).map (AV.erase q):=by
 cases x with
 |none=>rfl
 |some x=>simp only[evO,q0Q (x:=x) h,Zat]
theorem z3r{q:Lab}(x:Option AV):loOf (x.map (AV.erase q))=loOf x:=by
 cases x with
 |none=>rfl
 |some x=>
  cases x<;>try rfl
  rename_i q' e sz l
  by_cases h:q'=q<;>simp[AV.erase,loOf,h]
theorem z66{q:Lab}{n:Nat}(x:Option AV):hiOf n (x.map (AV.erase q))=hiOf n x:=by
 cases x with
 |none=>rfl
 |some x=>
  cases x<;>try rfl
  rename_i q' e sz l
  by_cases h:q'=q<;>simp[AV.erase,hiOf,h]
theorem z6Z{q:Lab}(x:AV)(lo hi:Option AV):z2v (x.erase q) (lo.map (AV.erase q)) (hi.map (AV.erase q))=z2v x lo hi:=by
 cases x with
 |rs r n c=>
  simp only[AV.erase,z2v,z66];cases lo<;>rfl
 |own q' e sz l=>by_cases h:q'=q<;>simp[AV.erase,z2v,h]
 |_=>rfl
theorem z3l{q:Lab}{n:Nat}(x:Option AV):hiOf n (x.map (AV.erase q))=hiOf n x:=by
 cases x with
 |none=>rfl
 |some x=>
  cases x<;>try rfl
  rename_i q' e sz l
  by_cases h:q'=q<;>simp[AV.erase,hiOf,h]
theorem hom1{q:Lab}{g:AV→Option AV}(hg:∀q e sz l,g (.own q e sz l)=none)(hl:∀l,g (.d (.list l))=none)(hr:∀x z,g x=some z→z.erase q=z)(x:AV):g (x.erase q)=(g x).map (AV.erase q):=by
 have h0:∀x,x.erase q=x→g (x.erase q)=(g x).map (AV.erase q):=fun x e=>by
  rw[e];cases h:g x with
  |none=>rfl
  |some z=>simp[hr x z h]
 cases x<;>try exact h0 _ rfl
 rename_i q' e sz l
 by_cases h:q'=q
 ·simp[AV.erase,h,hg,hl]
 ·exact h0 _ (by simp[AV.erase,h])
theorem hom2{q:Lab}{g:AV→AV→Option AV}(hg:∀q e sz l y,g (.own q e sz l) y=none)(hl:∀l y,g (.d (.list l)) y=none)(hg':∀q e sz l y,g y (.own q e sz l)=none)(hl':∀l y,g y (.d (.list l))=none)
  (hr:∀x y z,g x y=some z→z.erase q=z) (x y:AV):g (x.erase q) (y.erase q)=(g x y).map (AV.erase q):=by
 rw[hom1 (g:=fun x=>g x (y.erase q)) (fun q e sz l=>hg ..) (fun l=>hl ..) (fun x z h=>hr x _ z h)];rw[hom1 (g:=fun y=>g x y) (fun q e sz l=>hg' ..) (fun l=>hl' ..) (fun y z h=>hr x y z h)];cases g x y with
 |none=>rfl
 |some z=>
  simp only[Zat,Zas];cases z<;>try rfl
  rename_i q' e sz l
  by_cases h:q'=q<;>simp[AV.erase,h]
theorem j18{σ:St}{q:Lab}{v:LV}(h:homV v=true):pev (σ.erase q) v=(pev σ v).map (AV.erase q):=by
 have two:∀{a b:Bool},(a&&b)=true→a=true∧b=true:=fun h=>by simpa using h
 cases v<;>simp only[homV]at h<;>try(cases h;done)
 case cp x=>simp only[pev,q0Q h,Zat]
 case pick c x y=>
  simp only[pev,q0Q (two h).1,q0Q (two (two h).2).1,q0Q (two (two h).2).2];generalize σ.ev c=c;unfold z1p;cases c<;>try rfl
  ·rename_i d;cases d<;>try rfl
   rename_i b;cases b<;>rfl
  ·rename_i q' e sz l
   by_cases h:q'=q<;>simp[AV.erase,h]
 case bin op x y=>
  simp only[pev,q0Q (two h).1,q0Q (two h).2];refine hom2 (g:=fun a b=>fB (binD op a b)) ?_ ?_ ?_ ?_ ?_ _ _
  ·intros;rfl
  ·intros;rfl
  ·intro q e sz l y;cases y<;>first|rfl|(rename_i d;cases d<;>rfl)
  ·intro l y;cases y<;>first|rfl|(rename_i d;cases d<;>rfl)
  ·intro x y z hz;simp only[fB]at hz;cases hb:binD op x y with
   |none=>simp[hb]at hz
   |some w=>simp[hb]at hz;subst hz;rfl
 case eqB n x y=>
  simp only[pev,q0Q (two h).1,q0Q (two h).2];refine hom2 (g:=fEqB n) ?_ ?_ ?_ ?_ ?_ _ _
  ·intros;rfl
  ·intros;rfl
  ·intro q e sz l y;cases y<;>first|rfl|(rename_i d;cases d<;>rfl)
  ·intro l y;cases y<;>first|rfl|(rename_i d;cases d<;>rfl)
  ·intro x y z hz;unfold fEqB at hz;split at hz<;>cases hz;rfl
 case eqS n ks x y=>
  simp only[pev,q0Q (two h).1,q0Q (two h).2];refine hom2 (g:=fEqS n ks) ?_ ?_ ?_ ?_ ?_ _ _
  ·intros;rfl
  ·intros;rfl
  ·intro q e sz l y;cases y<;>first|rfl|(rename_i d;cases d<;>rfl)
  ·intro l y;cases y<;>first|rfl|(rename_i d;cases d<;>rfl)
  ·intro x y z hz;unfold fEqS at hz;split at hz
   ·rename_i xs ys;cases hb:eqCs ks xs ys<;>simp[hb]at hz;subst hz;rfl
   ·cases hz
 case not x=>
  simp only[pev,q0Q h];refine hom1 (g:=fNot) (by intros;rfl) (by intros;rfl) (fun x z hz=>?_) _;unfold fNot at hz;split at hz<;>cases hz;rfl
 case neg x=>
  simp only[pev,q0Q h];refine hom1 (g:=fNeg) (by intros;rfl) (by intros;rfl) (fun x z hz=>?_) _;unfold fNeg at hz;split at hz<;>cases hz;rfl
 case cvI k x=>
  simp only[pev,q0Q h];refine hom1 (g:=fCvI k) (by intros;rfl) (by intros;rfl) (fun x z hz=>?_) _;unfold fCvI at hz;split at hz<;>cases hz;rfl
 case i2s x=>
  simp only[pev,q0Q h];refine hom1 (g:=fI2s) (by intros;rfl) (by intros;rfl) (fun x z hz=>?_) _;unfold fI2s at hz;split at hz<;>cases hz;rfl
 case b2s x=>
  simp only[pev,q0Q h,fB2s,z4v];split
  ·rename_i l hl;cases bytesOf l<;>rfl
  ·rfl
 case idxS x y=>
  simp only[pev,q0Q (two h).1,q0Q (two h).2];refine hom2 (g:=z0A) ?_ ?_ ?_ ?_ ?_ _ _
  ·intros;rfl
  ·intros;rfl
  ·intro q e sz l y;cases y<;>first|rfl|(rename_i d;cases d<;>rfl)
  ·intro l y;cases y<;>first|rfl|(rename_i d;cases d<;>rfl)
  ·intro x y z hz;unfold z0A at hz;split at hz
   ·rename_i s k i;cases hg:getI s i<;>simp[hg]at hz;subst hz;rfl
   ·cases hz
 case subS x lo hi=>
  simp only[pev,q0Q (two h).1,q8T (two (two h).2).1,q8T (two (two h).2).2];refine hom1 (q:=q) (g:=fun a=>z3S a ((evO σ lo).map (AV.erase q)) ((evO σ hi).map (AV.erase q))) (by intros;rfl) (by intros;rfl) (fun x z hz=>?_) _ |>.trans ?_
  ·unfold z3S at hz;split at hz
   ·split at hz
    ·split at hz<;>cases hz;rfl
    ·cases hz
   ·cases hz
  ·unfold z3S;simp only[z3r,z3l]
 case len s x=>
  simp only[pev,q0Q h];generalize σ.ev x=a;cases a<;>cases s<;>try rfl
  ·rename_i d;cases d<;>rfl
  ·rename_i d;cases d<;>rfl
  ·rename_i q' e sz l
   by_cases h:q'=q<;>simp[AV.erase,h,z2u,fLen]
  ·rename_i q' e sz l
   by_cases h:q'=q<;>simp[AV.erase,h,z2u]
 case mm m x y=>
  simp only[pev,q0Q (two h).1,q0Q (two h).2];refine hom2 (g:=fMm m) ?_ ?_ ?_ ?_ ?_ _ _
  ·intros;rfl
  ·intros;rfl
  ·intro q e sz l y;cases y<;>first|rfl|(rename_i d;cases d<;>rfl)
  ·intro l y;cases y<;>first|rfl|(rename_i d;cases d<;>rfl)
  ·intro x y z hz;unfold fMm at hz;split at hz<;>cases hz;rfl
 case fa o x=>
  simp only[pev,q0Q h];refine hom1 (g:=fFa o) (by intros;rfl) (by intros;rfl) (fun x z hz=>?_) _;unfold fFa at hz;split at hz
  ·cases hz;rfl
  ·split at hz<;>cases hz;rfl
  ·split at hz<;>cases hz;rfl
  ·cases hz;rfl
  ·cases hz
 case ia sz x y=>
  simp only[pev,q0Q (two h).1,q0Q (two h).2];have hR:∀(r:Ref) (n:Nat),fIaR sz r n ((σ.ev y).erase q)=(fIaR sz r n (σ.ev y)).map (AV.erase q):=fun r n=>by
   refine hom1 (q:=q) (g:=fIaR sz r n) (by intros;rfl) (by intros;rfl) (fun y z hz=>?_) _;unfold fIaR at hz;split at hz
   ·split at hz<;>cases hz;rfl
   ·cases hz
  have hD:fIaD sz ((σ.ev x).erase q) ((σ.ev y).erase q)=(fIaD sz (σ.ev x) (σ.ev y)).map (AV.erase q):=?_
  ·have h1:∀a b,fIa sz a b=(match a with|.rs r n _=>fIaR sz r n b|a=>fIaD sz a b):=fun a b=>rfl
   cases hx:σ.ev x with
   |rs r n c=>exact hR r n
   |own q' e s l=>
    rw[hx]at hD
    by_cases hq:q'=q
    ·simp only[AV.erase,if_pos hq]at hD ⊢;exact hD
    ·simp only[AV.erase,if_neg hq]at hD ⊢;exact hD
   |_=>rw[hx]at hD;exact hD
  simp only[fIaD,z4v];refine hom1 (q:=q) (g:=fun b=>match(σ.ev x).rd,b with
   |some (.list l),.d (.int _ i)=>match getI l i with
    |some e=>if e.cells.length=sz then some (.dptr e.cells)else none
    |none=>none
   |_,_=>none) ?_ ?_ (fun y z hz=>?_) _
  ·intros;cases(σ.ev x).rd<;>try rfl
   rename_i d;cases d<;>rfl
  ·intros;cases(σ.ev x).rd<;>try rfl
   rename_i d;cases d<;>rfl
  ·split at hz
   ·split at hz
    ·split at hz<;>cases hz;rfl
    ·cases hz
   ·cases hz
 case iaA len sz x y=>
  simp only[pev,q0Q (two h).1,q0Q (two h).2];refine hom2 (g:=fIaA len sz) ?_ ?_ ?_ ?_ ?_ _ _
  ·intros;rfl
  ·intros;rfl
  ·intro q e sz l y;cases y<;>rfl
  ·intro l y;cases y<;>rfl
  ·intro x y z hz;unfold fIaA at hz;split at hz
   ·split at hz<;>cases hz;rfl
   ·split at hz<;>cases hz;rfl
   ·cases hz
 case sub sz x lo hi=>
  simp only[pev,q0Q (two h).1,q8T (two (two h).2).1,q8T (two (two h).2).2,fSub,z6Z,z4v,z3r,z3l];split
  ·rename_i z hz;obtain⟨r,n,c,j,_,_,_,_,rfl⟩:=z1q hz;rfl
  split
  ·split
   ·split<;>rfl
   ·rfl
  ·rfl
end Go.Av
/- Regions that draw their order: operations that stand apart may be swapped. -/
namespace Go.Av
variable {P:Program} [Inv P]
theorem Eqv.q0x{σ τ:St}(h:Eqv σ τ):∀er,Eqv (q0x σ er) (q0x τ er):=by
 intro er;induction er generalizing σ τ with
 |nil=>exact h
 |cons q r ih=>exact ih (h.erase q)
theorem Eqv.app{σ τ:St}(h:Eqv σ τ)(e:Eff)(d:Option Nat):Eqv (e.app d σ) (e.app d τ):=(h.q0x e.er).putO d e.x
theorem z3f(er:List Lab)(σ:St)(d:Option Nat)(x:AV):Eqv (q0x (putO σ d x) er) (putO (q0x σ er) d (x.q0x er)):=by
 induction er generalizing σ x with
 |nil=>exact .refl _
 |cons q r ih=>
  cases d with
  |none=>exact .refl _
  |some d=>exact((j07 σ q d x).q0x r).trans (ih (σ:=σ.erase q) (x:=x.erase q))
theorem DEff.agree{d:Option Nat}{op:LO}{σ τ:St}{eff:Eff}(h:q0I (z3C op) σ τ)(hd:DEff P d op σ eff):DEff P d op τ eff:=by
 unfold DEff at *;cases op with
 |val v=>obtain⟨h0,z,h1,h2⟩:=hd;exact⟨h0,z,(q0I.pev h)▸h1,h2⟩
 |call f args=>obtain⟨ds,r,h1,h2,h3⟩:=hd;exact⟨ds,r,(q0I.evL h)▸h1,h2,h3⟩
 |bsl e sz parts=>obtain⟨k,l,h1,h2,h3,h4⟩:=hd;exact⟨k,l,h1,(q0I.evL h)▸h2,(q0I.evL h)▸h3,h4⟩
 |app e sz by_ str s x=>
  obtain⟨k,q,l,ys,h1,h2,h3,h4,h5⟩:=hd;exact⟨k,q,l,ys,h1,(q0I.ev (x:=s) (q0I.left h))▸h2,(q0I.ev (x:=x) (q0I.right h))▸h3,h4,h5⟩
 |_=>exact hd
theorem q32.agree{o:q0a}{σ τ:St}{eff:Eff}(h:q0I o.reads σ τ)(hd:q32 P o σ eff):q32 P o τ eff:=by
 unfold q32 at *;unfold q0a.reads at h;cases hg:o.guard with
 |none=>rw[hg]at hd h;exact hd.agree h.left
 |some sb=>
  obtain⟨s,b⟩:=sb;rw[hg]at hd h;rcases hd with⟨t,h1,h2,h3⟩|⟨h1,h2⟩
  ·exact .inl ⟨t,(h.right.get s (by simp))▸h1,fun e=>(h2 e).agree h.left,h3⟩
  ·exact .inr ⟨(h.right.get s (by simp))▸h1,h2⟩
theorem z30{o:q0a}{σ:St}{e:Eff}(h:o.keeps=true)(hd:q32 P o σ e):e.er=[]:=by
 obtain⟨d,op,g⟩:=o;have h0:∀{e},DEff P d op σ e→e.er=[]:=fun{e} hd=>by
  unfold q0a.keeps at h;unfold DEff at hd;cases op<;>simp only at h hd<;>try(cases h;done)
  ·obtain⟨_,_,_,rfl⟩:=hd;rfl
  ·obtain⟨_,_,_,_,_,rfl⟩:=hd;rfl
  ·obtain⟨_,_,_,_,rfl⟩:=hd;rfl
 unfold q32 at hd;cases g with
 |none=>exact h0 hd
 |some sb=>
  obtain⟨s,b⟩:=sb;rcases hd with⟨t,_,h2,h3⟩|⟨_,h2⟩
  ·by_cases ht:t=b
   ·exact h0 (h2 ht)
   ·rw[h3 ht]
  ·rw[h2]
theorem q7k{v:LV}(h:homV v=true):∀(er:List Lab) (σ:St),pev (q0x σ er) v=(pev σ v).map (fun z=>z.q0x er)
 |[],σ=>by simp[q0x,AV.q0x]
 |q::r,σ=>by
  simp only[q0x,q7k h r,j18 h];cases pev σ v<;>rfl
theorem get_erase(σ:St)(q:Lab)(s:Nat):(σ.erase q).get s=(σ.get s).erase q:=by
 simp only[St.get,q57,q17];cases aget σ.ρ s<;>rfl
theorem q5J:∀(er:List Lab) (σ:St) (s:Nat),(q0x σ er).get s=(σ.get s).q0x er
 |[],_,_=>rfl
 |q::r,σ,s=>by simp only[q0x,q5J r,get_erase,AV.q0x]
theorem z9p{x:AV}{q:Lab}{t:Bool}:x.erase q=.d (.bool t)↔x=.d (.bool t):=by
 cases x<;>try exact Iff.rfl
 rename_i q' e sz l
 by_cases h:q'=q<;>simp[AV.erase,h]
theorem q73{t:Bool}:∀{er:List Lab} {x:AV},x.q0x er=.d (.bool t)↔x=.d (.bool t)
 |[],_=>Iff.rfl
 |q::r,x=>by simp only[AV.q0x];rw[q73,z9p]
theorem q52(er:List Lab):AV.q0x und er=und:=by
 induction er with
 |nil=>rfl
 |cons q r ih=>exact ih
theorem j08{x:AV}{q:Lab}:x.erase q=und↔x=und:=by
 cases x<;>simp[AV.erase,und];split<;>simp
theorem z3g:∀{er:List Lab} {x:AV},x.q0x er=und↔x=und
 |[],x=>Iff.rfl
 |q::r,x=>by
  show AV.q0x (x.erase q) r=und↔_
  rw[z3g,j08]
theorem z3Z{o:q0a}(h:o.pure=true):∃v,o.op=.val v∧homV v=true:=by
 unfold q0a.pure at h;split at h
 ·exact⟨_,by assumption,h⟩
 ·cases h
theorem j4j{o:q0a}{σ:St}{e:Eff}(h:o.pure=true)(er:List Lab)(hd:q32 P o σ e):q32 P o (q0x σ er) ⟨[],e.x.q0x er⟩:=by
 obtain⟨v,hop,hv⟩:=z3Z h;obtain⟨d,op,g⟩:=o;simp only at hop;subst hop;simp only[q32,DEff]at *;cases g with
 |none=>
  obtain⟨h0,z,h1,rfl⟩:=hd;exact⟨h0,z.q0x er,by rw[q7k hv,h1];rfl,rfl⟩
 |some sb=>
  rcases hd with⟨t,h1,h2,h3⟩|⟨h1,h2⟩
  ·refine .inl ⟨t,by rw[q5J,h1];exact q73.2 rfl,fun ht=>?_,fun ht=>?_⟩
   ·obtain⟨h0,z,h1,rfl⟩:=h2 ht;exact⟨h0,z.q0x er,by rw[q7k hv,h1];rfl,rfl⟩
   ·rw[h3 ht];simp only[q52]
  ·exact .inr ⟨by rw[q5J,h1,q52],by rw[h2];simp only[q52]⟩
theorem j4i{o:q0a}{σ:St}{e:Eff}(h:o.pure=true)(er:List Lab)(hd:q32 P o (q0x σ er) e):∃z,q32 P o σ ⟨[],z⟩∧e=⟨[],z.q0x er⟩:=by
 obtain⟨v,hop,hv⟩:=z3Z h;obtain⟨d,op,g⟩:=o;simp only at hop;subst hop;simp only[q32,DEff]at *;have key:∀{e:Eff},(d.isSome=true∧∃z,pev (q0x σ er) v=some z∧e=⟨[],z⟩)→∃z,(d.isSome=true∧∃z',pev σ v=some z'∧(⟨[],z⟩:Eff)=⟨[],z'⟩)∧e=⟨[],z.q0x er⟩:=fun{e} ⟨h0,z,h1,h2⟩=>by
  rw[q7k hv]at h1;cases hz:pev σ v with
  |none=>simp[hz]at h1
  |some z0=>
   simp[hz]at h1;exact⟨z0,⟨h0,z0,rfl,rfl⟩,by rw[h2,←h1]⟩
 cases g with
 |none=>exact key hd
 |some sb=>
  obtain⟨s,b⟩:=sb;rcases hd with⟨t,h1,h2,h3⟩|⟨h1,h2⟩
  ·rw[q5J,q73]at h1
   by_cases ht:t=b
   ·obtain⟨z,hz,he⟩:=key (h2 ht);exact⟨z,.inl ⟨t,h1,fun _=>hz,fun hn=>absurd ht hn⟩,he⟩
   ·exact⟨und,.inl ⟨t,h1,fun hn=>absurd hn ht,fun _=>rfl⟩,by rw[h3 ht,q52]⟩
  ·rw[q5J,z3g]at h1;exact⟨und,.inr ⟨h1,rfl⟩,by rw[h2,q52]⟩
def q27(P:Program)[Inv P](o:q0a)(K:St→Prop)(σ:St):Prop:=∃e,q32 P o σ e∧∃τ,Eqv (e.app o.dst σ) τ∧K τ
theorem q5G{rs:List Nat}(σ:St){d:Option Nat}(x:AV)(h:z1W d rs=true):q0I rs (putO σ d x) σ:=by
 cases d with
 |none=>exact⟨fun _ _=>rfl,rfl,rfl⟩
 |some d=>exact .j6W σ x (by simpa[z1W]using h)
theorem q0I.symm{rs:List Nat}{σ τ:St}(h:q0I rs σ τ):q0I rs τ σ:=⟨fun s k=>(h.get s k).symm,h.L.symm,h.H.symm⟩
theorem put_comm{σ:St}{a b:Option Nat}{x y:AV}(h:(match a,b with|some a,some b=>a != b|_,_=>true)=true):Eqv (putO (putO σ a x) b y) (putO (putO σ b y) a x):=by
 cases a with
 |none=>exact .refl _
 |some a=>
  cases b with
  |none=>exact .refl _
  |some b=>
   have hab:a≠b:=by simpa using h
   refine⟨fun s=>?_,rfl,rfl⟩;simp only[putO,St.put,q2H]
   by_cases h1:a=s
   ·subst h1;simp[Ne.symm hab]
   ·simp[h1]
theorem q9Q{o:q0a}(h:o.pure=true):o.keeps=true:=by
 obtain⟨v,hop,_⟩:=z3Z h;simp[q0a.keeps,hop]
theorem swap{p q:q0a}(h:z7M p q=true){K:St→Prop}{σ:St}(hd:q27 P p (q27 P q K) σ):q27 P q (q27 P p K) σ:=by
 obtain⟨ep,hp,τ,hτ,eq,hq,υ,hυ,hK⟩:=hd;unfold z7M z0m at h;simp only[Zah,Zca]at h;obtain⟨⟨⟨hne,hpq⟩,hqp⟩,hk⟩:=h;have hq':q32 P q (ep.app p.dst σ) eq:=hq.agree (.j13 hτ.symm)
 -- q ahead of p
 have hq1:q32 P q (q0x σ ep.er) eq:=hq'.agree (q5G _ _ hpq);rcases hk with(⟨k1,k2⟩|⟨k1,k2⟩)|⟨k1,k2⟩
 ·have e1:=z30 k1 hp;have e2:=z30 k2 hq;obtain⟨er1,zp⟩:=ep;obtain⟨er2,zq⟩:=eq;simp only at e1 e2;subst e1 e2;refine⟨⟨[],zq⟩,hq1,_,.refl _,⟨[],zp⟩,hp.agree (q5G _ _ hqp).symm,υ,?_,hK⟩;refine .trans ?_ hυ;refine .trans ?_ (hτ.app ⟨[],zq⟩ q.dst);exact(put_comm hne).symm
 ·have e1:=z30 (q9Q k1) hp;obtain⟨er1,zp⟩:=ep;simp only at e1;subst e1;refine⟨eq,hq1,_,.refl _,⟨[],zp.q0x eq.er⟩,(j4j k1 eq.er hp).agree (q5G _ _ hqp).symm,υ,?_,hK⟩;refine .trans ?_ hυ;refine .trans ?_ (hτ.app eq q.dst);refine .trans (put_comm hne).symm ?_;exact((z3f eq.er σ p.dst zp).symm).putO q.dst eq.x
 ·obtain⟨z,hz,he⟩:=j4i k1 ep.er hq1;subst he;refine⟨⟨[],z⟩,hz,_,.refl _,ep,hp.agree (q5G _ _ hqp).symm,υ,?_,hK⟩;refine .trans ?_ hυ;refine .trans ?_ (hτ.app ⟨[],z.q0x ep.er⟩ q.dst);refine .trans ((z3f ep.er σ q.dst z).putO p.dst ep.x) ?_;exact(put_comm hne).symm
end Go.Av
/- Regions that draw their order: what may be done ahead of the making of a variable, and ahead of a store. -/
namespace Go.Av
variable {P:Program} [Inv P]
/-! ### Ahead of a new variable -/
theorem drop_eq{r:Ref}{x:AV}(h:x.has r=false):x.drop r=x:=by simp[AV.drop,h]
theorem j4X{r:Ref}(x:D):(AV.d x).drop r=.d x:=drop_eq rfl
theorem z6U(r:Ref)(bs:List Bool)(xs:List D):(AV.sx (q8e bs xs)).drop r=.sx (q8e bs xs):=by
 refine drop_eq ?_;simp only[AV.has,Zby];intro y hy;obtain⟨i,hi⟩:=Zbm.1 hy;obtain⟨x,_,h5⟩:=q63 _ _ _ _ hi;rcases h5 with⟨_,rfl⟩|rfl<;>simp[AV.q5K]
theorem z9X{r:Ref}{cs:List AV}(hh:(AV.sx cs).has r=true):((AV.sx cs).drop r).rd=(AV.sx cs).rd:=by
 have hn:∀{cs:List AV},(∃x∈cs,x.q5K r=true)→rd1L cs=none:=fun{cs} hx=>by
  obtain⟨x,hm,hx⟩:=hx;induction cs with
  |nil=>cases hm
  |cons y cs ih=>
   simp only[rd1L];rcases Zar.1 hm with rfl|hm
   ·cases x<;>simp_all[AV.q5K,AV.rd1]
   ·rw[ih hm];split
    ·rename_i h;cases h
    ·rfl
 have hx:∃x∈cs,x.q5K r=true:=Zbr.1 hh;simp only[AV.drop,hh,if_true,AV.rd,hn hx,Option.map_none]
theorem z15{r:Ref}(x:AV):(x.drop r).rd=x.rd:=by
 cases hx:x.has r with
 |false=>rw[drop_eq hx]
 |true=>
  cases x
  case sx=>
   rename_i cs;exact z9X hx
  all_goals simp[AV.has]at hx
  all_goals simp[AV.drop,AV.has,AV.rd,hx]
theorem drop1{r:Ref}{α:Type}{g:AV→Option α}(hj:g .junk=none){x:AV}{z:α}(h:g (x.drop r)=some z):x.has r=false∧x.drop r=x∧g x=some z:=by
 cases hx:x.has r with
 |false=>rw[drop_eq hx]at h;exact⟨rfl,drop_eq hx,h⟩
 |true=>simp[AV.drop,hx,hj]at h
theorem z3U{σ:St}{d s:Nat}{cs:List D}(h:d≠s):(newO σ d cs).get s=(σ.get s).drop (.l d):=by
 simp only[newO,St.get,St.put,q2H,if_neg h,St.setObj,St.drop,q17];cases aget σ.ρ s<;>rfl
theorem q0N{σ:St}{d:Nat}{cs:List D}{x:LX}(h:d∉q1O x)(hc:q5c x=true):(newO σ d cs).ev x=(σ.ev x).drop (.l d):=by
 cases x with
 |t s=>exact z3U (fun e=>h (by simp[q1O,e]))
 |k y=>cases y<;>first|rfl|simp[q5c]at hc
theorem z0N{σ:St}{d:Nat}{cs:List D}{x:Option LX}(h:d∉q9U x)(hc:z6L x=true):evO (newO σ d cs) x=(evO σ x).map (AV.drop (.l d)):=by
 cases x with
 |none=>rfl
 |some x=>simp only[evO,q0N (x:=x) h hc,Zat]
theorem j1M{r:Ref}{x:Option AV}{i:Int}(h:loOf (x.map (AV.drop r))=some i):loOf x=some i:=by
 cases x with
 |none=>exact h
 |some x=>exact(drop1 (g:=fun x=>loOf (some x)) rfl h).2.2
theorem z67{r:Ref}{n:Nat}{x:Option AV}{i:Int}(h:hiOf n (x.map (AV.drop r))=some i):hiOf n x=some i:=by
 cases x with
 |none=>exact h
 |some x=>exact(drop1 (g:=fun x=>hiOf n (some x)) rfl h).2.2
theorem q9R{σ:St}{d:Nat}{cs:List D}:∀{l:List LX},d∉q3S l→l.all q5c=true→q4m (evL (newO σ d cs) l)=q4m (evL σ l)
 |[],_,_=>rfl
 |x::r,h,hc=>by
  simp only[q3S,Zau,not_or]at h;simp only[List.all_cons,Zah]at hc;simp only[evL,q4m,q0N h.1 hc.1,z15,q9R h.2 hc.2]
theorem z3i{σ:St}{d:Nat}{ds:List D}(pl:List (Nat×Nat)):∀{l:List (Nat×LX)} (cs:List D),d∉z16 l→(l.all fun p=>q5c p.2)=true→q7u pl cs (evP (newO σ d ds) l)=q7u pl cs (evP σ l)
 |[],_,_,_=>rfl
 |(i,x)::r,cs,h,hc=>by
  simp only[z16,Zau,not_or]at h;simp only[List.all_cons,Zah]at hc;simp only[evP,q7u,q0N h.1 hc.1,z15];split
  ·split
   ·exact z3i pl _ h.2 hc.2
   ·rfl
  ·rfl
theorem z8K{r:Ref}:∀(xs:List AV),rdL (xs.map (AV.drop r))=rdL xs
 |[]=>rfl
 |x::l=>by simp only[Zbf,rdL,z15,z8K l]
theorem j3f(r:Ref)(x:AV):x.den.drop r=(x.drop r).den:=by
 cases hh:x.has r with
 |true=>
  have h1:x.den=x:=by cases x<;>first|rfl|(simp[AV.has]at hh)
  rw[h1];simp only[AV.drop,hh,if_true];rfl
 |false=>
  have h1:x.den.has r=false:=by cases x<;>first|exact hh|rfl
  simp only[AV.drop,hh,h1];rfl
theorem z96{r:Ref}{x:AV}(h:(x.drop r).q9m=true):x.has r=false∧x.drop r=x:=by
 unfold AV.drop at h ⊢;cases hh:x.has r with
 |true=>rw[hh]at h;simp[AV.q9m]at h
 |false=>exact⟨rfl,by simp⟩
theorem q7N{r:Ref}{cs:List AV}(h:(cs.map (AV.drop r)).all AV.q9m=true):cs.map (AV.drop r)=cs∧cs.all AV.q9m=true∧(AV.sx (cs.map AV.pub)).drop r=.sx (cs.map AV.pub):=by
 have h1:∀x∈cs,x.has r=false∧x.drop r=x:=fun x hx=>z96 (Zbo.1 h _ (Zcs hx))
 have h2:cs.map (AV.drop r)=cs:=by
  conv=>rhs;rw[←List.map_id cs]
  exact Zct fun x hx=>(h1 x hx).2
 rw[h2]at h;refine⟨h2,h,?_⟩;have h3:(AV.sx (cs.map AV.pub)).has r=false:=by
  simp only[AV.has,Zby];intro y hy;obtain⟨x,hx,rfl⟩:=Zap.1 hy;have:=(h1 x hx).1;have hsx:=Zbo.1 h x hx;cases x<;>simp_all[AV.pub,AV.q5K,AV.has,AV.q9m]
 simp[AV.drop,h3]
theorem j35{r:Ref}{x:AV}(h:(x.drop r).nsr=true):x.nsr=true:=by
 unfold AV.drop at h;split at h
 ·cases h
 ·exact h
theorem j52{cs:List AV}(h:cs.any AV.nsr=true)(r:Ref)(hd:(cs.map (AV.drop r)).any AV.nsr=false){l:List D}(hr:rdL cs=some l):False:=by
 obtain⟨x,hx,hn⟩:=Zbr.1 h;have h1:(x.drop r).nsr=false:=by
  have:=Zby.1 hd _ (Zcs hx);simpa using this
 have hh:x.has r=true:=by
  cases hh:x.has r with
  |true=>rfl
  |false=>rw[drop_eq hh,hn]at h1;cases h1
 obtain⟨i,hi⟩:=Zbl hx;obtain⟨k1,k2⟩:=z4u hr;have hlt:i<l.length:=by rw[←k1];exact(Zaa.1 hi).1
 obtain⟨y,hy,hyr⟩:=k2 i _ (Zak hlt);rw[hi]at hy;cases hy;cases x<;>simp_all[AV.nsr,AV.has,AV.rd]
theorem j1b{r:Ref}{cs:List AV}{z:AV}(h:fLdA (cs.map (AV.drop r))=some z):∃z0,fLdA cs=some z0∧z0.drop r=z:=by
 unfold fLdA at *;cases hd:(cs.map (AV.drop r)).any AV.nsr with
 |true=>
  have hcs:cs.any AV.nsr=true:=by
   obtain⟨x,hx,hn⟩:=Zbr.1 hd;obtain⟨y,hy,rfl⟩:=Zap.1 hx;exact Zbr.2 ⟨y,hy,j35 hn⟩
  rw[hd]at h;simp only[if_true]at h;split at h
  ·rename_i hs;cases h;obtain⟨e1,e2,e3⟩:=q7N hs;rw[hcs,e2,e1];exact⟨_,rfl,e3⟩
  ·cases h
 |false=>
  rw[hd]at h;simp only[Zbc,if_false]at h;rw[z8K]at h;cases hr:rdL cs with
  |some l=>
   rw[hr]at h;simp only at h;cases h;have:cs.any AV.nsr=false:=by
    cases hc:cs.any AV.nsr with
    |false=>rfl
    |true=>exact(j52 hc r hd hr).elim
   rw[this];exact⟨_,rfl,j4X _⟩
  |none=>
   rw[hr]at h;simp only at h;split at h
   ·rename_i hs;cases h;obtain⟨e1,e2,e3⟩:=q7N hs;rw[e1]at hd;rw[hd,e2,e1];exact⟨_,rfl,e3⟩
   ·cases h
theorem z9r{r:Ref}{cs:List AV}{z:AV}(hp:∀x∈cs,x.q5K r=false)(h:fLdA cs=some z):z.drop r=z:=by
 have sx:cs.all AV.q9m=true→(AV.sx (cs.map AV.pub)).drop r=.sx (cs.map AV.pub):=fun hs=>by
  refine drop_eq ?_;simp only[AV.has,Zby];intro y hy;obtain⟨x,hx,rfl⟩:=Zap.1 hy;have h1:=hp x hx;have h2:=Zbo.1 hs x hx;cases x<;>simp_all[AV.pub,AV.q5K,AV.q9m]
 unfold fLdA at h;split at h
 ·split at h
  ·cases h;exact sx (by assumption)
  ·cases h
 ·split at h
  ·cases h;rfl
  ·split at h
   ·cases h;exact sx (by assumption)
   ·cases h
theorem j1c{r:Ref}{agg:Bool}{m o:Nat}{cs:List AV}{z:AV}(h:fLdP agg m (cs.map (AV.drop r)) o=some z):∃z0,fLdP agg m cs o=some z0∧z0.drop r=z:=by
 unfold fLdP at *;cases agg
 ·simp only[Zbc,if_false,Zam]at *;cases hx:cs[o]? with
  |none=>simp[hx]at h
  |some x=>simp[hx]at h;exact⟨x.den,rfl,by rw[←h];exact j3f r x⟩
 ·simp only[if_true,Zbd]at *;split at h
  ·rename_i hl;rw[if_pos hl];exact j1b (by simpa[List.map_take,List.map_drop]using h)
  ·cases h
theorem z7j{z:AV}(h:z.z4k=true)(d:Nat):z.has (.l d)=false:=by
 cases z<;>simp[AV.z4k]at h<;>try rfl
 all_goals(rename Ref=>r;cases r<;>simp at h;rfl)
theorem j3u{σ:St}{d:Nat}{ds:List D}{agg:Bool}{m:Nat}{x z:AV}(hx:x.has (.l d)=false)(h:fLd (newO σ d ds) agg m x=some z):∃z0,fLd σ agg m x=some z0∧z0.drop (.l d)=z:=by
 unfold fLd at *;split at h
 ·rename_i r o;have hr:r≠.l d:=fun e=>by subst e;simp[AV.has]at hx
  split at h
  ·rename_i cs hcs;cases r with
   |l t=>
    have h3:=hcs;simp only[newO,St.z7n,St.q1i]at h3;rw[if_neg (fun e=>hr e.symm)]at h3;simp only[St.drop,St.obj,q17]at h3;cases ho:aget σ.L t with
    |none=>simp[ho]at h3
    |some o'=>
     simp[ho]at h3;cases o' with
     |siter s p=>simp[q0K]at h3
     |miter l c=>simp[q0K]at h3
     |mobj l c=>simp[q0K]at h3
     |cells cs'=>
      simp[q0K]at h3;subst h3;simp only[St.obj,ho];exact j1c (z1o h)
   |x k=>
    have h3:aget σ.H k=some (.cells cs):=hcs;simp only[St.obj,h3];refine⟨z,h,?_⟩;cases hz:fLdP agg m cs o with
    |none=>rw[hz]at h;cases h
    |some y=>
     rw[hz]at h;simp only[fLdX]at h;split at h
     ·cases h;rename_i hl;exact drop_eq (z7j hl d)
     ·cases h
  ·cases h
 ·refine⟨z,h,?_⟩;split at h
  ·split at h<;>cases h;rfl
  ·rename_i cs _;cases hc:cs[0]?<;>simp[hc]at h;subst h;rfl
 ·refine⟨z,h,?_⟩;split at h
  ·split at h<;>cases h;rfl
  ·rename_i cs _;cases hc:cs[0]?<;>simp[hc]at h;subst h;rfl
 ·cases h
theorem j4d{σ:St}{d:Nat}{cs:List D}{v:LV}{z:AV}(hd:d∉q5k v)(ho:j14 v=true)(h:pev (newO σ d cs) v=some z):∃z0,pev σ v=some z0∧z0.drop (.l d)=z:=by
 have two:∀{a b:Bool},(a&&b)=true→a=true∧b=true:=fun h=>by simpa using h
 cases v<;>simp only[q5k,Zau,not_or]at hd<;>simp only[j14]at ho<;>simp only[pev]at h ⊢
 case cp x=>rw[q0N hd ho]at h;cases h;exact⟨_,rfl,rfl⟩
 case pick c x y=>
  rw[q0N hd.1 (two ho).1,q0N hd.2.1 (two (two ho).2).1,q0N hd.2.2 (two (two ho).2).2]at h;obtain⟨_,_,h1⟩:=drop1 (g:=fun c=>z1p c ((σ.ev x).drop (.l d)) ((σ.ev y).drop (.l d))) rfl h;unfold z1p at h1 ⊢;split at h1
  ·rename_i _ _ t e;cases h1;simp only[e];refine⟨_,rfl,?_⟩;cases t<;>rfl
  ·cases h1
 case bin op x y=>
  rw[q0N hd.1 (two ho).1,q0N hd.2 (two ho).2]at h;obtain⟨_,_,h1⟩:=drop1 (g:=fun x=>fB (binD op x ((σ.ev y).drop (.l d)))) rfl h;obtain⟨_,_,h2⟩:=drop1 (g:=fun y=>fB (binD op (σ.ev x) y)) (by cases σ.ev x<;>first|rfl|(rename_i d;cases d<;>rfl)) h1;refine⟨z,h2,?_⟩;simp only[fB]at h2;cases hb:binD op (σ.ev x) (σ.ev y)<;>simp[hb]at h2;subst h2;rfl
 case eqB n x y=>
  rw[q0N hd.1 (two ho).1,q0N hd.2 (two ho).2]at h;obtain⟨_,_,h1⟩:=drop1 (g:=fun x=>fEqB n x ((σ.ev y).drop (.l d))) rfl h;obtain⟨_,_,h2⟩:=drop1 (g:=fun y=>fEqB n (σ.ev x) y) (by cases σ.ev x<;>first|rfl|(rename_i d;cases d<;>rfl)) h1;refine⟨z,h2,?_⟩;unfold fEqB at h2;split at h2<;>cases h2;rfl
 case eqN k n x=>
  rw[q0N hd ho]at h;obtain⟨_,_,h1⟩:=drop1 (g:=fun x=>fEqN k n x) (by simp[fEqN];intro h;cases k<;>simp[okN]at h) h;refine⟨z,h1,?_⟩;unfold fEqN fNil at h1;split at h1
  ·cases hb:isNil (σ.ev x)<;>simp[hb]at h1;subst h1;rfl
  ·cases h1
 case eqS n ks x y=>
  rw[q0N hd.1 (two ho).1,q0N hd.2 (two ho).2]at h;obtain⟨_,_,h1⟩:=drop1 (g:=fun x=>fEqS n ks x ((σ.ev y).drop (.l d))) rfl h;obtain⟨_,_,h2⟩:=drop1 (g:=fun y=>fEqS n ks (σ.ev x) y) (by cases σ.ev x<;>first|rfl|(rename_i d;cases d<;>rfl)) h1;refine⟨z,h2,?_⟩;unfold fEqS at h2;split at h2
  ·rename_i xs ys _ _;cases hb:eqCs ks xs ys<;>simp[hb]at h2;subst h2;rfl
  ·cases h2
 case not x=>
  rw[q0N hd ho]at h;obtain⟨_,_,h1⟩:=drop1 (g:=fNot) rfl h;refine⟨z,h1,?_⟩;unfold fNot at h1;split at h1<;>cases h1;rfl
 case neg x=>
  rw[q0N hd ho]at h;obtain⟨_,_,h1⟩:=drop1 (g:=fNeg) rfl h;refine⟨z,h1,?_⟩;unfold fNeg at h1;split at h1<;>cases h1;rfl
 case cvI k x=>
  rw[q0N hd ho]at h;obtain⟨_,_,h1⟩:=drop1 (g:=fCvI k) rfl h;refine⟨z,h1,?_⟩;unfold fCvI at h1;split at h1<;>cases h1;rfl
 case i2s x=>
  rw[q0N hd ho]at h;obtain⟨_,_,h1⟩:=drop1 (g:=fI2s) rfl h;refine⟨z,h1,?_⟩;unfold fI2s at h1;split at h1<;>cases h1;rfl
 case b2s x=>
  rw[q0N hd ho]at h;obtain⟨_,_,h1⟩:=drop1 (g:=fB2s) rfl h;refine⟨z,h1,?_⟩;unfold fB2s at h1;split at h1
  ·rename_i l _;cases hb:bytesOf l<;>simp[hb]at h1;subst h1;rfl
  ·cases h1
 case idxS x y=>
  rw[q0N hd.1 (two ho).1,q0N hd.2 (two ho).2]at h;obtain⟨_,_,h1⟩:=drop1 (g:=fun x=>z0A x ((σ.ev y).drop (.l d))) rfl h;obtain⟨_,_,h2⟩:=drop1 (g:=fun y=>z0A (σ.ev x) y) (by cases σ.ev x<;>first|rfl|(rename_i d;cases d<;>rfl)) h1;refine⟨z,h2,?_⟩;unfold z0A at h2;split at h2
  ·rename_i s k i _ _;cases hb:getI s i<;>simp[hb]at h2;subst h2;rfl
  ·cases h2
 case subS x lo hi=>
  rw[q0N hd.1 (two ho).1,z0N hd.2.1 (two (two ho).2).1,z0N hd.2.2 (two (two ho).2).2]at h;obtain⟨_,_,h1⟩:=drop1 (g:=fun x=>z3S x ((evO σ lo).map (AV.drop (.l d))) ((evO σ hi).map (AV.drop (.l d)))) rfl h;unfold z3S at h1 ⊢;split at h1
  ·split at h1
   ·rename_i s _ i j e1 e2;rw[j1M e1,z67 e2];refine⟨z,h1,?_⟩;split at h1<;>cases h1;rfl
   ·cases h1
  ·cases h1
 case len s x=>
  rw[q0N hd ho]at h;obtain⟨_,_,h1⟩:=drop1 (g:=z2u s) (by cases s<;>rfl) h;refine⟨z,h1,?_⟩;unfold z2u fLen at h1;split at h1<;>(split at h1<;>first|(cases h1;done)|skip)<;>(try split at h1)<;>first|(cases h1;rfl)|cases h1
 case mm m x y=>
  rw[q0N hd.1 (two ho).1,q0N hd.2 (two ho).2]at h;obtain⟨_,_,h1⟩:=drop1 (g:=fun x=>fMm m x ((σ.ev y).drop (.l d))) rfl h;obtain⟨_,_,h2⟩:=drop1 (g:=fun y=>fMm m (σ.ev x) y) (by cases σ.ev x<;>first|rfl|(rename_i d;cases d<;>rfl)) h1;refine⟨z,h2,?_⟩;unfold fMm at h2;split at h2<;>cases h2;rfl
 case fa o x=>
  rw[q0N hd ho]at h;obtain⟨h0,_,h1⟩:=drop1 (g:=fFa o) rfl h;refine⟨z,h1,?_⟩;unfold fFa at h1;split at h1
  ·rename_i r o' e;cases h1;rw[e]at h0;exact drop_eq h0
  ·split at h1<;>cases h1;rfl
  ·split at h1<;>cases h1;rfl
  ·cases h1;rfl
  ·cases h1
 case ia s x y=>
  rw[q0N hd.1 (two ho).1,q0N hd.2 (two ho).2]at h;obtain⟨_,_,h1⟩:=drop1 (g:=fun x=>fIa s x ((σ.ev y).drop (.l d))) rfl h;have hj:fIa s (σ.ev x) .junk=none:=by
   cases hx:σ.ev x<;>simp only[fIa,fIaR,fIaD,AV.rd];split<;>simp_all
  obtain⟨_,_,h2⟩:=drop1 (g:=fun y=>fIa s (σ.ev x) y) hj h1;refine⟨z,h2,?_⟩;rename_i h0 _ _ _;unfold fIa at h2;split at h2
  ·rename_i r n c e;rw[e]at h0;unfold fIaR at h2;split at h2
   ·split at h2<;>cases h2;exact drop_eq (by simpa[AV.has]using h0)
   ·cases h2
  ·unfold fIaD at h2;split at h2
   ·split at h2
    ·split at h2<;>cases h2;rfl
    ·cases h2
   ·cases h2
 case iaA l s x y=>
  rw[q0N hd.1 (two ho).1,q0N hd.2 (two ho).2]at h;obtain⟨h0,_,h1⟩:=drop1 (g:=fun x=>fIaA l s x ((σ.ev y).drop (.l d))) rfl h;obtain⟨_,_,h2⟩:=drop1 (g:=fun y=>fIaA l s (σ.ev x) y) (by cases σ.ev x<;>rfl) h1;refine⟨z,h2,?_⟩;unfold fIaA at h2;split at h2
  ·rename_i r o k i e _;split at h2<;>cases h2;rw[e]at h0;exact drop_eq h0
  ·split at h2<;>cases h2;rfl
  ·cases h2
 case ld a m x=>
  rw[q0N hd ho]at h;obtain⟨h0,_,h1⟩:=drop1 (g:=fLd (newO σ d cs) a m) rfl h;exact j3u h0 h1
 case sub s x lo hi=>
  rw[q0N hd.1 (two ho).1,z0N hd.2.1 (two (two ho).2).1,z0N hd.2.2 (two (two ho).2).2]at h;unfold fSub at h ⊢;split at h
  ·rename_i z' hz';cases h;obtain⟨r,n,c,j,h1,h2,h3,h4,rfl⟩:=z1q hz';have h5:σ.ev x=.rs r n c∧r≠.l d:=by
    cases hx:(σ.ev x).has (.l d)with
    |true=>rw[AV.drop,if_pos hx]at h1;cases h1
    |false=>
     rw[drop_eq hx]at h1;refine⟨h1,fun e=>?_⟩;rw[h1,e]at hx;simp[AV.has]at hx
   refine⟨.rs r j.toNat c,?_,drop_eq (by simp[AV.has,h5.2])⟩;have h6:evO σ lo=none:=by cases hlo:evO σ lo<;>simp[hlo]at h2 ⊢
   rw[h5.1,h6];simp only[z2v,z67 h3];rw[if_pos h4]
  rename_i hR;rw[z15]at h;have hR':z2v (σ.ev x) (evO σ lo) (evO σ hi)=none:=by
   cases hx:σ.ev x<;>first|rfl|skip
   rw[hx]at h;cases h
  rw[hR'];split at h
  ·split at h
   ·rename_i s _ _ i j e1 e2;rw[j1M e1,z67 e2];refine⟨z,h,?_⟩;split at h<;>cases h;rfl
   ·cases h
  ·cases h
 case fld a m o x=>
  rw[q0N hd ho]at h;obtain⟨h0,_,h1⟩:=drop1 (g:=fFld a m o) rfl h;refine⟨z,h1,?_⟩;unfold fFld at h1;split at h1
  ·split at h1
   ·split at h1<;>cases h1;rfl
   ·rename_i cs _ _;cases hb:cs[o]?<;>simp[hb]at h1;subst h1;rfl
  ·rename_i cs hcs;rw[hcs]at h0;have hp:∀x∈cs,x.q5K (.l d)=false:=fun x hx=>by
    have:=Zby.1 (show cs.any (AV.q5K (.l d))=false from h0) x hx;simpa using this
   split at h1
   ·split at h1
    ·refine z9r (fun x hx=>hp x ?_) h1;exact Zbt (Zbj hx)
    ·cases h1
   ·split at h1
    ·rename_i x hx;split at h1
     ·rename_i hsx;cases h1;have:=hp x (Zae hx);refine drop_eq ?_;cases x<;>simp_all[AV.pub,AV.q5K,AV.has,AV.q9m]
     ·cases h1
    ·cases h1
  ·cases h1
 case bld p zz q l=>
  rw[z3i p zz hd ho]at h;refine⟨z,h,?_⟩;cases hb:q7u p zz (evP σ l)with
  |none=>rw[hb]at h;cases q<;>cases h
  |some out=>
   rw[hb]at h;cases q with
   |nil=>cases h;rfl
   |cons b bs=>
    cases h;exact z6U _ _ _
 case mkI t x=>
  rw[q0N hd ho]at h;unfold fMkI at h ⊢;rw[z15]at h;refine⟨z,h,?_⟩;cases hb:(σ.ev x).rd<;>simp[hb]at h;subst h;rfl
 case asT t zz x=>
  rw[q0N hd ho]at h;obtain⟨_,_,h1⟩:=drop1 (g:=fAsT t zz) rfl h;refine⟨z,h1,?_⟩;unfold fAsT at h1;split at h1
  ·split at h1<;>cases h1<;>rfl
  ·cases h1;rfl
  ·cases h1
 case ext i x=>
  rw[q0N hd ho]at h;obtain⟨h0,_,h1⟩:=drop1 (g:=fExt i) rfl h;refine⟨z,h1,?_⟩;unfold fExt at h1;split at h1
  ·rename_i xs e;split at h1
   ·rename_i y hy;split at h1
    ·rename_i hs;have hyz:y=z:=by cases h1;rfl
     subst hyz;rw[e]at h0;refine drop_eq ?_;rw[AV.q3o hs];simp only[AV.has,Zby]at h0;exact Bool.eq_false_iff.2 (h0 y (Zae hy))
    ·cases h1
   ·cases h1
  ·cases h1
 case nck x=>
  rw[q0N hd ho]at h;obtain⟨h0,_,h1⟩:=drop1 (g:=fNck) rfl h;refine⟨z,h1,?_⟩;unfold fNck at h1;split at h1
  ·rename_i r o e;cases h1;rw[e]at h0;exact drop_eq h0
  ·cases h1;rfl
  ·cases h1;rfl
  ·cases h1;rfl
  ·cases h1
 case mkF f a b=>cases ho
end Go.Av
/- Regions that draw their order: any two operations that stand apart. -/
namespace Go.Av
variable {P:Program} [Inv P]
def Cl(K:St→Prop)(σ:St):Prop:=∃τ,Eqv σ τ∧K τ
theorem q9A(σ:St):∀(l:List LX),(evL σ l).length=l.length
 |[]=>rfl
 |_::r=>by simp[evL,q9A σ r]
theorem j4n(r:Ref)(x:Res):x.av.drop r=x.av:=by
 refine drop_eq ?_;cases x with
 |one x=>rfl
 |tup xs=>
  simp only[Res.av,AV.has,Zby];intro y hy;obtain⟨z,_,rfl⟩:=Zap.1 hy;simp[AV.q5K]
theorem j0E{r:Ref}{x:AV}{t:Bool}(h:x.drop r=.d (.bool t)):x=.d (.bool t):=by
 unfold AV.drop at h;split at h
 ·cases h
 ·exact h
theorem j0W{o:q0a}{σ:St}{d:Nat}{cs:List D}{e:Eff}(hd:d∉o.reads)(hk:o.keeps=true)(ho:z9P o.op=true)(h:q32 P o (newO σ d cs) e):∃z,q32 P o σ ⟨[],z⟩∧e=⟨[],z.drop (.l d)⟩:=by
 obtain⟨dst,op,g⟩:=o;simp only[q0a.reads,Zau,not_or]at hd;have key:∀{e:Eff},DEff P dst op (newO σ d cs) e→∃z,DEff P dst op σ ⟨[],z⟩∧e=⟨[],z.drop (.l d)⟩:=fun{e} h=>by
  cases op<;>simp only[q0a.keeps]at hk<;>try(cases hk;done)
  ·rename_i v;obtain⟨h0,z,h1,rfl⟩:=h;obtain⟨z0,h2,h3⟩:=j4d (by simpa[z3C]using hd.1) (by simpa[z9P]using ho) h1;exact⟨z0,⟨h0,z0,h2,rfl⟩,by rw[h3]⟩
  ·rename_i e' sz l;obtain⟨k,xs,h1,h2,h3,rfl⟩:=h;rw[q9R (by simpa[z3C]using hd.1) (by simpa[z9P]using ho)]at h2;rw[q9A]at h3;exact⟨.d (.list xs),⟨k,xs,h1,h2,by rw[q9A];exact h3,rfl⟩,by rw[j4X]⟩
  ·rename_i f l;obtain⟨ds,r,h1,h2,rfl⟩:=h;rw[q9R (by simpa[z3C]using hd.1) (by simpa[z9P]using ho)]at h1;exact⟨r.av,⟨ds,r,h1,h2,rfl⟩,by rw[j4n]⟩
 unfold q32 at *;cases g with
 |none=>exact key h
 |some sb=>
  obtain⟨s,b⟩:=sb;have hs:d≠s:=fun e=>hd.2 (by simp[e])
  rcases h with⟨t,h1,h2,h3⟩|⟨h1,h2⟩
  ·rw[z3U hs]at h1;have h1:=j0E h1
   by_cases ht:t=b
   ·obtain⟨z,hz,he⟩:=key (h2 ht);exact⟨z,.inl ⟨t,h1,fun _=>hz,fun hn=>absurd ht hn⟩,he⟩
   ·exact⟨und,.inl ⟨t,h1,fun hn=>absurd hn ht,fun _=>rfl⟩,by rw[h3 ht];rfl⟩
  ·rw[z3U hs]at h1;have h1':σ.get s=und:=by
    generalize σ.get s=x at h1;unfold AV.drop at h1;split at h1
    ·cases h1
    ·exact h1
   exact⟨und,.inr ⟨h1',rfl⟩,by rw[h2];rfl⟩
theorem j31{σ:St}{d:Nat}{cs:List D}{k:Option Nat}{z:AV}(h:(match k with|some a=>d != a|none=>true)=true):Eqv (newO (putO σ k z) d cs) (putO (newO σ d cs) k (z.drop (.l d))):=by
 cases k with
 |none=>exact .refl _
 |some k=>
  have hne:d≠k:=by simpa using h
  refine⟨fun s=>?_,rfl,rfl⟩;simp only[newO,putO,St.put,St.setObj,St.drop,q2H,q17]
  by_cases h1:d=s
  ·subst h1;simp[Ne.symm hne]
  ·simp only[if_neg h1]
   by_cases h2:k=s
   ·simp[h2]
   ·simp[h2]
theorem j7B{p q:q0a}(hap:z0m p q=true){cs:List D}(hp:p.op=.allo cs)(hg:p.guard=none){d:Nat}(hd:p.dst=some d)(hk:q.keeps=true)(ho:z9P q.op=true){K:St→Prop}{σ:St}(h:LOps P [p] (Cl (q27 P q K)) σ):q27 P q (LOps P [p] (Cl K)) σ:=by
 obtain⟨pd,pop,pg⟩:=p;simp only at hp hg hd;subst hp hg hd;obtain⟨σ1,h1,τ,hτ,e,he,υ,hυ,hK⟩:∃σ',step1 σ (some d) (.allo cs)=some σ'∧Cl (q27 P q K) σ':=h;simp only[step1,q8n]at h1;cases h1;unfold z0m at hap;simp only[Zah]at hap;obtain⟨⟨hne,hpq⟩,hqp⟩:=hap;have hdr:d∉q.reads:=by simpa[z1W]using hpq
 have he1:q32 P q (newO σ d cs) e:=he.agree (.j13 hτ.symm);obtain⟨z,hz,rfl⟩:=j0W hdr hk ho he1;refine⟨⟨[],z⟩,hz,_,.refl _,?_⟩;show ∃σ',step1 (putO σ q.dst z) (some d) (.allo cs)=some σ'∧Cl K σ'
 refine⟨_,rfl,υ,?_,hK⟩;refine .trans (j31 (by cases hq:q.dst<;>simp_all)) ?_;exact(hτ.putO q.dst _).trans hυ
/-! ### Ahead of a store -/
theorem z9q(σ:St)(q:Lab)(d:Nat)(x:AV):(σ.put d x).erase q=(σ.erase q).put d (x.erase q):=by
 cases q with
 |t s=>simp only[St.erase,St.put,q6Q]
 |c r off=>
  cases r with
  |l s=>
   simp only[St.erase,St.put,St.obj,q6Q];cases aget σ.L s with
   |none=>rfl
   |some o=>cases o<;>rfl
  |x k=>
   simp only[St.erase,St.put,St.obj,q6Q];cases aget σ.H k with
   |none=>rfl
   |some o=>cases o<;>rfl
theorem q3T(σ:St)(r:Ref)(o:AObj)(d:Nat)(x:AV):(σ.put d x).setObj r o=(σ.setObj r o).put d x:=by cases r<;>rfl
theorem z5j{q:Lab}{x:AV}(h:x.simple=true):x.erase q=x:=by cases x<;>first|rfl|simp[AV.simple]at h
theorem z4w{q q':Lab}{x:AV}(h:x.simple=true):x.rename q q'=x:=by cases x<;>first|rfl|simp[AV.simple]at h
def AV.j3H(z:AV):Prop:=(∀q,z.erase q=z)∧∀q q',z.rename q q'=z
theorem z5w{z:AV}(h:z.simple=true):z.j3H:=⟨fun _=>z5j h,fun _ _=>z4w h⟩
theorem j6d{σ σ2:St}{m d:Nat}{A X z:AV}(hz:z.j3H)(h:stS σ m A X=some σ2):stS (σ.put d z) m A X=some (σ2.put d z):=by
 unfold stS at *;split at h
 ·rename_i r o;simp only[St.z7n];split at h
  ·rename_i cs hcs;split at h
   ·split at h
    ·rename_i hc;cases h;rw[if_pos hc,q3T]
    ·cases h
   ·split at h
    ·rename_i hc;rw[if_pos hc];simp only[z9q,hz.1]at h ⊢;have e1:∀k,({ (σ.erase (.c r o)).put d z with ρ:=amap (AV.rename (.t k) (.c r o)) ((σ.erase (.c r o)).put d z).ρ }:St)=St.put { σ.erase (.c r o)with ρ:=amap (AV.rename (.t k) (.c r o)) (σ.erase (.c r o)).ρ } d z:=fun k=>by
      simp only[St.put,q6Q,hz.2]
     rw[e1];simp only[St.z7n];split at h
     ·cases h;rw[q3T]
     ·cases h
    ·cases h
   ·split at h
    ·rename_i hc;cases h;rw[if_pos hc,q3T]
    ·cases h
   ·split at h
    ·rename_i hc;cases h;rw[if_pos hc,q3T]
    ·cases h
   ·split at h
    ·rename_i hc;cases h;rw[if_pos hc,q3T]
    ·cases h
   ·split at h
    ·rename_i hc;cases h;rw[if_pos hc,q3T]
    ·cases h
   ·split at h
    ·rename_i hc;cases h;rw[if_pos hc,q3T]
    ·cases h
   ·cases h
  ·cases h
 ·cases h
theorem j6c{σ σ2:St}{m:Nat}{A X:AV}(h:stS σ m A X=some σ2)(s:Nat):σ2.get s=σ.get s∨∃q q' q'',σ2.get s=((σ.get s).erase q).rename q' q'':=by
 unfold stS at h;have hset:∀(τ:St) (r:Ref) (o:AObj),(τ.setObj r o).get s=τ.get s:=fun τ r o=>by cases r<;>rfl
 have hren:∀(s':Nat) (r:Ref) (o:Nat),St.get { σ.erase (.c r o)with ρ:=amap (AV.rename (.t s') (.c r o)) (σ.erase (.c r o)).ρ } s=((σ.get s).erase (.c r o)).rename (.t s') (.c r o):=fun s' r o=>by
  simp only[St.get,q17,q57];cases aget σ.ρ s<;>rfl
 split at h
 ·split at h
  ·split at h
   ·split at h<;>cases h;exact .inl (hset _ _ _)
   ·split at h
    ·dsimp only at h;split at h
     ·cases h;exact .inr ⟨_,_,_,(hset _ _ _).trans (hren _ _ _)⟩
     ·cases h
    ·cases h
   ·split at h<;>cases h;exact .inl (hset _ _ _)
   ·split at h<;>cases h;exact .inl (hset _ _ _)
   ·split at h<;>cases h;exact .inl (hset _ _ _)
   ·split at h<;>cases h;exact .inl (hset _ _ _)
   ·split at h<;>cases h;exact .inl (hset _ _ _)
   ·cases h
  ·cases h
 ·cases h
theorem z90{x:AV}{q q' q'':Lab}{y:AV}(h:(x.erase q).rename q' q''=y)(hy:(∃t,y=.d (.bool t))∨∃xs,y=.tuple xs):x=y:=by
 cases x<;>try exact h
 rename_i q0 e sz l;exfalso
 simp only[AV.erase]at h;split at h
 ·simp only[AV.rename]at h;rcases hy with⟨t,rfl⟩|⟨xs,rfl⟩<;>cases h
 ·simp only[AV.rename]at h;split at h<;>rcases hy with⟨t,rfl⟩|⟨xs,rfl⟩<;>cases h
theorem q8m{σ σ2:St}{m:Nat}{A X:AV}(h:stS σ m A X=some σ2){s:Nat}{y:AV}(e:σ2.get s=y)(hy:(∃t,y=.d (.bool t))∨∃xs,y=.tuple xs):σ.get s=y:=by
 rcases j6c h s with h1|⟨q,q',q'',h1⟩
 ·rw[←h1];exact e
 ·exact z90 (h1.symm.trans e) hy
theorem j5v{σ σ2:St}{m:Nat}{A X:AV}(h:stS σ m A X=some σ2){o:q0a}(ho:z7b o.op=true){e:Eff}(he:q32 P o σ2 e):∃z,z.j3H∧q32 P o σ ⟨[],z⟩∧e=⟨[],z⟩:=by
 obtain⟨dst,op,g⟩:=o;have hop:∃i s,op=.val (.ext i (.t s)):=by
  unfold z7b at ho;split at ho
  ·exact⟨_,_,by assumption⟩
  ·cases ho
 obtain⟨i,s,rfl⟩:=hop;have key:∀{e:Eff},DEff P dst (.val (.ext i (.t s))) σ2 e→∃z,z.j3H∧DEff P dst (.val (.ext i (.t s))) σ ⟨[],z⟩∧e=⟨[],z⟩:=fun{e} ⟨h0,z,h1,h2⟩=>by
  have h1':fExt i (σ2.get s)=some z:=h1;unfold fExt at h1';split at h1'
  ·rename_i xs hx;have hx':=q8m h hx (.inr ⟨_,rfl⟩);split at h1'
   ·rename_i y hy;split at h1'
    ·rename_i hs;have hyz:y=z:=by cases h1';rfl
     subst hyz;refine⟨y,z5w hs,⟨h0,y,?_,rfl⟩,h2⟩;show fExt i (σ.get s)=some y
     rw[hx'];simp only[fExt,hy,hs,if_true]
    ·cases h1'
   ·cases h1'
  ·cases h1'
 unfold q32 at *;cases g with
 |none=>exact key he
 |some sb=>
  obtain⟨s',b⟩:=sb;rcases he with⟨t,h1,h2,h3⟩|⟨h1,h2⟩
  ·have h1:=q8m h h1 (.inl ⟨_,rfl⟩)
   by_cases ht:t=b
   ·obtain⟨z,hz,hs,he⟩:=key (h2 ht);exact⟨z,hz,.inl ⟨t,h1,fun _=>hs,fun hn=>absurd ht hn⟩,he⟩
   ·exact⟨und,⟨fun _=>rfl,fun _ _=>rfl⟩,.inl ⟨t,h1,fun hn=>absurd hn ht,fun _=>rfl⟩,by rw[h3 ht]⟩
  ·have h1:=q8m h h1 (.inr ⟨_,rfl⟩);exact⟨und,⟨fun _=>rfl,fun _ _=>rfl⟩,.inr ⟨h1,rfl⟩,by rw[h2]⟩
theorem j7C{p q:q0a}(hap:z0m p q=true)(hp:isSt p.op=true)(hd:p.dst=none)(hg:p.guard=none)(hq:z7b q.op=true){K:St→Prop}{σ:St}(h:LOps P [p] (Cl (q27 P q K)) σ):q27 P q (LOps P [p] (Cl K)) σ:=by
 obtain⟨pd,pop,pg⟩:=p;simp only at hp hg hd;subst hg hd;obtain⟨m,x,y,rfl⟩:∃m x y,pop=.st m x y:=by
  unfold isSt at hp;split at hp
  ·exact⟨_,_,_,rfl⟩
  ·cases hp
 obtain⟨σ1,h1,τ,hτ,e,he,υ,hυ,hK⟩:∃σ',step1 σ none (.st m x y)=some σ'∧Cl (q27 P q K) σ':=h;simp only[step1,j2H]at h1;unfold z0m at hap;simp only[Zah]at hap;obtain⟨_,hqp⟩:=hap;have he1:q32 P q σ1 e:=he.agree (.j13 hτ.symm);obtain⟨z,hz,hs,rfl⟩:=j5v h1 hq he1;refine⟨⟨[],z⟩,hs,_,.refl _,?_⟩;show ∃σ',step1 (putO σ q.dst z) none (.st m x y)=some σ'∧Cl K σ'
 simp only[step1,j2H];have ag:q0I (q1O x++q1O y) (putO σ q.dst z) σ:=q5G _ _ (by simpa[q0a.reads,z3C]using hqp);rw[q0I.ev (x:=x) ag.left,q0I.ev (x:=y) ag.right];refine⟨putO σ1 q.dst z,?_,υ,(hτ.putO q.dst z).trans hυ,hK⟩;cases q.dst with
 |none=>exact h1
 |some k=>exact j6d hz h1
end Go.Av
/- Regions that draw their order: whichever is drawn, what is shown of the order of the text holds. -/
namespace Go.Av
variable {E:Entry} {n:Nat} {G:q0p} {σ σ':St} {a:Act} {w:World} {P:Program} [Inv P] [HasInv P E]
theorem q7s(h:SR E n G σ a.tmps w){ops:Array Oper}{j s:Nat}(hj:(ops[j]?).bind (·.dst)=some s){t:Bool}(hs:σ.get s=.d (.bool t))(hn:s<n):yielded ops a.tmps j=some t:=by
 have:=h.get s;rw[hs]at this;have:=this.dinv;simp only[Act.eval]at this;have hv:a.tmps.getD s undef=.bool t:=by
  generalize a.tmps.getD s undef=v at this;cases this;rfl
 have hlt:s<a.tmps.size:=by rw[h.size];exact hn
 have hg:a.tmps[s]?=some (.bool t):=by
  rw[←hv];simp[hlt]
 unfold yielded;rw[hj];simp only[Option.bind_some,hg]
theorem SR.z4H(h:SR E n G σ a.tmps w){s:Nat}{t:Bool}(hs:σ.get s=.d (.bool t)):s<n:=by
 have h1:=h.get s;rw[hs]at h1;have h1:=h1.dinv;simp only[Act.eval]at h1;refine Classical.byContradiction fun hl=>?_
 have hu:a.tmps.getD s undef=undef:=by
  have:a.tmps.size≤s:=by rw[h.size];omega
  simp[this]
 rw[hu]at h1
 revert h1
 unfold undef;intro h1;cases h1
def q6n(P:Program)[Inv P](n:Nat)(ops:Array Oper)(o:Oper)(x:q0a):Prop:=∃y c,q2e P n ops o=some y∧((x=y∨x=y.copy)∨(x=y.setC c∨x=y.copy.setC c))
def j7v:LO→Bool
 |.prim _ _ _|.st _ _ _|.stC _ _ _ _=>true
 |_=>false
theorem j2t{y:q0a}(h:j7v y.op=false)(c:List (Nat×LV)):y.setC c=y:=by
 unfold q0a.setC;split
 ·rename_i e;rw[e]at h;cases h
 ·rename_i e;rw[e]at h;cases h
 ·rename_i e;rw[e]at h;cases h
 ·rfl
theorem q9W(y:q0a)(c:List (Nat×LV)):y.setC c=y∨(∃p xs k,y.op=.prim p xs k∧y.setC c={ y with op:=.prim p xs c })∨∃m a b,(y.op=.st m a b∨∃k,y.op=.stC m a b k)∧y.setC c={ y with op:=.stC m a b c }:=by
 unfold q0a.setC;split
 ·exact .inr (.inl ⟨_,_,_,by assumption,rfl⟩)
 ·exact .inr (.inr ⟨_,_,_,.inl (by assumption),rfl⟩)
 ·exact .inr (.inr ⟨_,_,_,.inr ⟨_,by assumption⟩,rfl⟩)
 ·exact .inl rfl
theorem z8V(y:q0a)(c:List (Nat×LV)):(y.setC c).dst=y.dst∧(y.setC c).guard=y.guard:=by
 rcases q9W y c with e|⟨p,xs,k,_,e⟩|⟨m,a,b,_,e⟩<;>rw[e]<;>exact⟨rfl,rfl⟩
theorem z2c(y:q0a)(c c':List (Nat×LV)):(y.setC c).setC c'=y.setC c':=by
 obtain⟨d,op,g⟩:=y;cases op<;>rfl
def q5q(p q:q0a):q0a:=
 match q.op with
 |.prim pr xs chk=>if isFa p.op then{ q with op:=.prim pr xs (chk.filter fun e=>some e.1 != p.dst) }else q
 |.stC m x y chk=>if isVal p.op then{ q with op:=.stC m x y (chk.filter fun e=>some e.1 != p.dst&&z1W p.dst (q5k e.2)) }else q
 |_=>q
def q5p:List q0a→q0a→q0a
 |[],q=>q
 |p::pre,q=>q5q p (q5p pre q)
theorem z3e(p q:q0a):q5q p q=q∨∃c,q5q p q=q.setC c:=by
 obtain⟨d,op,g⟩:=q;unfold q5q;dsimp only;split
 ·split
  ·exact .inr ⟨_,rfl⟩
  ·exact .inl rfl
 ·split
  ·exact .inr ⟨_,rfl⟩
  ·exact .inl rfl
 ·exact .inl rfl
theorem z0s:∀(pre:List q0a) (q:q0a),q5p pre q=q∨∃c,q5p pre q=q.setC c
 |[],q=>.inl rfl
 |p::pre,q=>by
  have e:q5p (p::pre) q=q5q p (q5p pre q):=rfl;rw[e];rcases z0s pre q with h|⟨c,h⟩<;>rw[h]
  ·exact z3e p q
  ·rcases z3e p (q.setC c)with h'|⟨c',h'⟩<;>rw[h']
   ·exact .inr ⟨c,rfl⟩
   ·exact .inr ⟨c',z2c _ _ _⟩
theorem q6n.setC{n:Nat}{ops:Array Oper}{o:Oper}{x:q0a}(h:q6n P n ops o x)(c:List (Nat×LV)):q6n P n ops o (x.setC c):=by
 obtain⟨y,c',hy,he⟩:=h;refine⟨y,c,hy,.inr ?_⟩;rcases he with(rfl|rfl)|(rfl|rfl)
 ·exact .inl rfl
 ·exact .inr rfl
 ·exact .inl (z2c _ _ _)
 ·exact .inr (z2c _ _ _)
theorem q29{ops:Array Oper}{o:Oper}{y:q0a}(h:q2e P n ops o=some y):q3u n o.dst=true∧y.dst=o.dst∧q6r P o=some y.op∧guardOf ops o.guard=some y.guard:=by
 unfold q2e at h;split at h
 ·rename_i hd;split at h
  ·rename_i op g hE hg;cases h;exact⟨hd,rfl,hE,hg⟩
  ·cases h
 ·cases h
def j26(op:LO)(x:LX):Prop:=op=.asg x∨∃e sz,op=.nils e sz∧x=.k (.d (.list []))
theorem q7e{y:q0a}:y.copy=y∨∃x,j26 y.op x∧y.copy={ y with op:=.val (.cp x) }:=by
 unfold q0a.copy;split
 ·exact .inr ⟨_,.inl (by assumption),rfl⟩
 ·exact .inr ⟨_,.inr ⟨_,_,by assumption,rfl⟩,rfl⟩
 ·exact .inl rfl
theorem j1E{o:Oper}{x:LX}(h:q4t P o=some (.asg x)):∃X,o.op=.assign X∧q1h X=some x:=by
 unfold q4t at h;split at h
 ·rename_i X ho;split at h
  ·split at h<;>cases h
  ·obtain⟨z,h1,h2⟩:=map_none h;cases h2;exact⟨X,ho,h1⟩
 ·split at h<;>cases h
 ·obtain⟨_,_,h⟩:=map_none h;cases h
 ·split at h<;>cases h
 ·unfold q2r at h;split at h
  ·obtain⟨_,_,_,_,_,_,h⟩:=q2d h;cases h
  ·cases h
 ·split at h
  ·obtain⟨_,_,h⟩:=map_none h;cases h
  ·cases h
 ·split at h
  ·split at h<;>cases h
  ·cases h
 ·split at h
  ·split at h<;>cases h
  ·obtain⟨_,_,h⟩:=map_none h;cases h
 ·obtain⟨_,_,h⟩:=map_none h;cases h
theorem j1H{o:Oper}{e sz:Nat}{l:List LX}(h:q4t P o=some (.bsl e sz l)):∃t len parts by_,o.op=.buildSlice t len parts∧q4r P t=some (e,sz,by_)∧q2s (parts.toList.map (·.2))=some l∧q77 0 parts.toList=true∧parts.size=len∧q31 P e=true:=by
 unfold q4t at h;split at h
 ·split at h
  ·split at h<;>cases h
  ·obtain⟨_,_,h⟩:=map_none h;cases h
 ·split at h<;>cases h
 ·obtain⟨_,_,h⟩:=map_none h;cases h
 ·split at h<;>cases h
 ·unfold q2r at h;split at h
  ·obtain⟨_,_,_,_,_,_,h⟩:=q2d h;cases h
  ·cases h
 ·split at h
  ·obtain⟨_,_,h⟩:=map_none h;cases h
  ·cases h
 ·rename_i t len parts ho;split at h
  ·rename_i e' sz' by_ l' h1 h2;split at h
   ·rename_i hc;cases h;simp only[Zah,beq_iff_eq]at hc;exact⟨t,len,parts,by_,ho,h1,h2,hc.1.1,hc.1.2,hc.2⟩
   ·cases h
  ·cases h
 ·split at h
  ·split at h<;>cases h
  ·obtain⟨_,_,h⟩:=map_none h;cases h
 ·obtain⟨_,_,h⟩:=map_none h;cases h
theorem z3n{o:Oper}{e sz:Nat}(h:q4t P o=some (.nils e sz)):o.op=.assign (.const (.slice none 0 0)):=by
 unfold q4t at h;split at h
 ·rename_i x ho;split at h
  ·exact ho
  ·obtain⟨_,_,h⟩:=map_none h;cases h
 ·split at h<;>cases h
 ·obtain⟨_,_,h⟩:=map_none h;cases h
 ·split at h<;>cases h
 ·unfold q2r at h;split at h
  ·obtain⟨_,_,_,_,_,_,h⟩:=q2d h;cases h
  ·cases h
 ·split at h
  ·obtain⟨_,_,h⟩:=map_none h;cases h
  ·cases h
 ·split at h
  ·split at h<;>cases h
  ·cases h
 ·split at h
  ·split at h<;>cases h
  ·obtain⟨_,_,h⟩:=map_none h;cases h
 ·obtain⟨_,_,h⟩:=map_none h;cases h
theorem z7d{o:Oper}{op:LO}{x:LX}(h:q6r P o=some op)(hx:j26 op x):∃X,o.op=.assign X∧q1h X=some x:=by
 rcases hx with rfl|⟨e,sz,rfl,rfl⟩
 ·exact j1E (q2U h (fun p xs chk e=>by cases e))
 ·exact⟨_,z3n (q2U h (fun p xs chk e=>by cases e)),rfl⟩
theorem z9F{o:Oper}{p:Prim}{xs:List LX}{k:List (Nat×LV)}(h:q6r P o=some (.prim p xs k)):k=[]:=by
 unfold q6r at h;split at h
 ·obtain⟨_,_,h⟩:=map_none h;cases h;rfl
 ·exact(z8t h).elim
theorem q3c(h:SR E n G σ a.tmps w){ops:Array Oper}{o:Oper}{x:q0a}(hl:q6n P n ops o x){K:St→Prop}(hs:q5C P x K σ){next:Act→World→Prop}{Q:Exit→Act→World→Prop}
  (hK:∀a' w',q9r E n K a.defers a' w'→next a' w'):o.wp P a w next Q:=by
 obtain⟨y,c,hy,he⟩:=hl;have hxy:x=y∨x=y.setC c∨∃z,j26 y.op z∧x={ y with op:=.val (.cp z) }:=by
  have cp:∀{z},j26 y.op z→y.copy={ y with op:=.val (.cp z) }→y.copy.setC c=y.copy:=fun{z} hz e=>by
   rw[e];exact j2t rfl c
  rcases he with(rfl|rfl)|(rfl|rfl)
  ·exact .inl rfl
  ·rcases q7e (y:=y)with e|⟨z,hz,e⟩
   ·exact .inl e
   ·exact .inr (.inr ⟨z,hz,e⟩)
  ·exact .inr (.inl rfl)
  ·rcases q7e (y:=y)with e|⟨z,hz,e⟩
   ·rw[e];exact .inr (.inl rfl)
   ·exact .inr (.inr ⟨z,hz,by rw[cp hz e,e]⟩)
 rcases hxy with rfl|rfl|⟨z,hz,rfl⟩
 ·exact q6b h hy hs hK
 ·refine q6b h hy ?_ hK;rcases q9W y c with e|⟨p,xs,k,hp,e⟩|⟨m,u,v,hp,e⟩
  ·rw[e]at hs;exact hs
  ·have hk:k=[]:=by
    obtain⟨_,_,hE,_⟩:=q29 hy;rw[hp]at hE;exact z9F hE
   subst hk;rw[e]at hs;obtain⟨d,op,g⟩:=y;simp only at hp;subst hp;have hs:q6H P d p xs (ChkK c K) σ:=hs;exact q6H.mono (fun σ h=>⟨trivial,h.2⟩) hs
  ·rw[e]at hs;obtain⟨d,op,g⟩:=y;rcases hp with hp|⟨k,hp⟩<;>simp only at hp<;>subst hp
   ·obtain⟨σ',h1,h2⟩:=hs;exact⟨σ',h1,h2.2⟩
   ·obtain⟨_,_,hE,_⟩:=q29 hy;exact(z5P hE).elim
 ·obtain⟨hd,hdst,hE,_⟩:=q29 hy;obtain⟨X,ho,hX⟩:=z7d hE hz;have hrun:(execOp a.eval o).run P w=.ok (.value (a.eval X)) w:=by simp only[execOp,ho];rfl
  unfold q5C at hs;obtain⟨σ',h1,h2⟩:=hs;unfold Oper.wp;rw[hrun];refine hK _ _ ⟨G,σ',h2,?_,put_defers a _ _⟩;have rx:=h.ev hX;simp only[step1,hdst]at h1;cases hdd:o.dst with
  |none=>rw[hdd]at h1;simp[j2H]at h1
  |some d=>
   rw[hdd]at h1 hd;simp only[q8n,putV,pev]at h1;cases h1;simpa[Act.put,hdd]using h.put rx (by simpa[q3u]using hd)
theorem j1O{x:q0a}(h:x.q4d=true):(∃v,x.op=.val v)∨(∃f l,x.op=.call f l)∨(∃e sz l,x.op=.bsl e sz l)∨∃e sz b s u v,x.op=.app e sz b s u v:=by
 unfold q0a.q4d at h;split at h
 ·exact .inl ⟨_,by assumption⟩
 ·exact .inr (.inl ⟨_,_,by assumption⟩)
 ·exact .inr (.inr (.inl ⟨_,_,_,by assumption⟩))
 ·exact .inr (.inr (.inr ⟨_,_,_,_,_,_,by assumption⟩))
 ·cases h
theorem z9j(h:SR E n G σ a.tmps w){ops:Array Oper}{o:Oper}{x:q0a}(hl:q6n P n ops o x)(hm:x.q4d=true){e:Eff}(hs:DEff P x.dst x.op σ e){K:St→Prop}(hKe:K (e.app x.dst σ)){next:Act→World→Prop}{Q:Exit→Act→World→Prop}
  (hK:∀a' w',q9r E n K a.defers a' w'→next a' w'):o.wp P a w next Q:=by
 obtain⟨d,op,g⟩:=x;rcases j1O hm with⟨v,ho⟩|⟨f,l,ho⟩|⟨e1,sz,l,ho⟩|⟨e1,sz,b,s,u,v,ho⟩<;>simp only at ho<;>subst ho<;>simp only[DEff]at hs
 ·obtain⟨h0,z,h1,rfl⟩:=hs;cases d with
  |none=>cases h0
  |some d=>exact q3c h hl (K:=K) ⟨σ.put d z,by simp[step1,q8n,putV,h1],hKe⟩ hK
 ·obtain⟨ds,r,h1,h2,rfl⟩:=hs;exact q3c h hl (K:=K) (.inl ⟨ds,_,h1,h2,fun r' e=>by subst e;exact hKe⟩) hK
 ·obtain⟨k,l',rfl,h2,h3,rfl⟩:=hs;obtain⟨y,c,hy,hxy⟩:=hl;have hsc:∀{y:q0a},(⟨some k,.bsl e1 sz l,g⟩:q0a)=y.setC c→y=⟨some k,.bsl e1 sz l,g⟩:=fun{y} e=>by
   rcases q9W y c with e'|⟨p,xs,kk,_,e'⟩|⟨_,_,_,_,e'⟩
   ·rw[e']at e;exact e.symm
   ·rw[e']at e;have:=congrArg q0a.op e;simp at this
   ·rw[e']at e;have:=congrArg q0a.op e;simp at this
  have hyb:y.dst=some k∧y.op=.bsl e1 sz l:=by
   rcases hxy with(e|e)|(e|e)
   ·rw[←e];exact⟨rfl,rfl⟩
   ·have e:=e.symm;rcases q7e (y:=y)with e'|⟨z,_,e'⟩
    ·rw[e']at e;rw[e];exact⟨rfl,rfl⟩
    ·rw[e']at e;have:=congrArg q0a.op e;simp at this
   ·rw[hsc e];exact⟨rfl,rfl⟩
   ·have e:=hsc e;rcases q7e (y:=y)with e'|⟨z,_,e'⟩
    ·rw[e']at e;rw[e];exact⟨rfl,rfl⟩
    ·rw[e']at e;have:=congrArg q0a.op e;simp at this
  obtain⟨hd,hdst,hE,_⟩:=q29 hy;rw[hyb.1]at hdst;rw[hyb.2]at hE;have hn:k<n:=by rw[←hdst]at hd;simpa[q3u]using hd
  obtain⟨t,len,parts,bb,ho,g1,g2,g3,g4,g5⟩:=j1H (q2U hE (fun p xs chk e=>by cases e));obtain⟨nx,v,w',G',r1,r2,r3⟩:=j0J h hdst.symm hn ho g1 g2 g3 g4 g5 h2 h3;unfold Oper.wp;rw[r1];rcases r2 with rfl|⟨rfl,rfl⟩
  ·exact hK _ _ ⟨G',_,hKe,r3,put_defers a _ _⟩
  ·exact hK _ _ ⟨G',_,hKe,r3,put_defers a _ _⟩
 ·obtain⟨k,er,l',ys,rfl,h2,h3,h4,rfl⟩:=hs;rcases h2 with⟨q,h2,rfl⟩|⟨h2,rfl,rfl⟩
  ·exact q3c h hl (K:=K) ⟨_,by simp only[step1,q8n,appS,h2,h3];rw[if_pos ⟨trivial,trivial,h4.1,h4.2⟩];rfl,hKe⟩ hK
  ·simp only[Zag,Zbh]at h4;exact q3c h hl (K:=K) ⟨_,by simp only[step1,q8n,appS,h2,h3];rw[if_pos h4];rfl,hKe⟩ hK
def q0U(P:Program)[Inv P](o:q0a)(K:St→Prop)(σ:St):Prop:=if o.q4d then q27 P o K σ else LOps P [o] (Cl K) σ
def z4U(P:Program)[Inv P]:List q0a→(St→Prop)→St→Prop
 |[],K,σ=>∃τ,Eqv σ τ∧K τ
 |o::os,K,σ=>q0U P o (z4U P os K) σ
theorem q7p:undef=.tuple #[]:=rfl
theorem undR{G:q0p}{w:World}{v:Value}(h:v=.tuple #[]):AVR G w und v:=by
 subst h;exact .tuple [] #[] rfl (fun _ h=>by simp at h) (fun _ _ h=>by simp at h)
theorem q6d(h:SR E n G σ a.tmps w){ops:Array Oper}{j s:Nat}(hj:(ops[j]?).bind (·.dst)=some s){b:Bool}(hs:σ.get s=und):yielded ops a.tmps j≠some b:=by
 have:=h.get s;rw[hs]at this;have hv:a.tmps.getD s undef=.tuple #[]:=by
  have h2:AVR G w und (a.tmps.getD s undef):=this;generalize a.tmps.getD s undef=v at h2;cases h2 with
  |tuple _ vs hl _ _=>
   have:vs = #[]:=by cases vs;simp_all
   rw[this]
 intro hy;unfold yielded at hy;rw[hj]at hy;simp only[Option.bind_some]at hy;cases hg:a.tmps[s]? with
 |none=>rw[hg]at hy;cases hy
 |some v=>
  rw[hg]at hy;have hgd:a.tmps.getD s undef=v:=by simp[hg]
  rw[hv]at hgd;subst hgd;cases hy
theorem j00(h:SR E n G σ a.tmps w){ops:Array Oper}{i:Nat}{o:Oper}(hi:ops[i]?=some o){x:q0a}(hl:q6n P n ops o x){K:St→Prop}(hs:q0U P x K σ){next:Act→World→Prop}{Q:Exit→Act→World→Prop}
  (hK:∀a' w',q9r E n K a.defers a' w'→next a' w'):wpOp P ops Q i next a w:=by
 have hinv:q3u n o.dst=true∧x.dst=o.dst∧guardOf ops o.guard=some x.guard:=by
  obtain⟨y,c,hy,he⟩:=hl;obtain⟨h1,h2,_,h4⟩:=q29 hy;rcases he with(rfl|rfl)|(rfl|rfl)
  ·exact⟨h1,h2,h4⟩
  ·rcases q7e (y:=y)with e|⟨z,_,e⟩<;>rw[e]<;>exact⟨h1,h2,h4⟩
  ·obtain⟨e1,e2⟩:=z8V y c;rw[e1,e2];exact⟨h1,h2,h4⟩
  ·obtain⟨e1,e2⟩:=z8V y.copy c;rw[e1,e2];rcases q7e (y:=y)with e|⟨z,_,e⟩<;>rw[e]<;>exact⟨h1,h2,h4⟩
 obtain⟨hdst,hxd,hgd⟩:=hinv;unfold wpOp;simp only[hi]
 -- by guard: done, or skipped
 have key:(x.guard=none→o.wp P a w next Q)→(∀s b t,x.guard=some (s,b)→σ.get s=.d (.bool t)→(t=b→o.wp P a w next Q)∧(t≠b→next (a.put o.dst undef) w))→(∀s b,x.guard=some (s,b)→(∃t,σ.get s=.d (.bool t))∨(σ.get s=und∧next (a.put o.dst undef) w))→
   if Region.wanted o (yielded ops a.tmps)then o.wp P a w next Q∨(o.asks P a w∧LetsOut Q)else next (a.put o.dst undef) w:=fun k1 k2 k3=>by
  cases hg:o.guard with
  |none=>
   rw[hg]at hgd;simp[guardOf]at hgd;rw[if_pos (by simp[Region.wanted,hg])];exact .inl (k1 hgd.symm)
  |some jb=>
   obtain⟨j,b⟩:=jb;rw[hg]at hgd;simp only[guardOf]at hgd;split at hgd
   ·rename_i s hs';simp only[Zas]at hgd;rcases k3 s b hgd.symm with⟨t,ht⟩|⟨hu,hnx⟩
    rotate_left
    ·have hy:yielded ops a.tmps j≠some b:=q6d h hs' hu;rw[if_neg (by simp[Region.wanted,hg,hy])];exact hnx
    have hy:=q7s h hs' ht (h.z4H ht);obtain⟨m1,m2⟩:=k2 s b t hgd.symm ht
    by_cases htb:t=b
    ·rw[if_pos (by simp[Region.wanted,hg,hy,htb])];exact .inl (m1 htb)
    ·rw[if_neg (by simp[Region.wanted,hg,hy,htb])];exact m2 htb
   ·cases hgd
 have skipped:∀{τ:St},Eqv (putO σ x.dst und) τ→K τ→next (a.put o.dst undef) w:=fun he hk=>
  hK _ _ ⟨G,_,hk,(h.putO hdst (undR q7p)).eqv (hxd▸he),put_defers a _ _⟩
 unfold q0U at hs;split at hs
 ·rename_i hm;obtain⟨e,he,τ,hτ,hk⟩:=hs;have go:DEff P x.dst x.op σ e→o.wp P a w next Q:=fun hd=>
   z9j (K:=fun υ=>Eqv υ τ) h hl hm hd hτ fun a' w' ⟨G',υ,h1,h2,h3⟩=>hK _ _ ⟨G',τ,hk,h2.eqv h1,h3⟩
  unfold q32 at he;refine key (fun hg=>?_) (fun s b t hg ht=>?_) (fun s b hg=>?_)<;>rw[hg]at he
  ·exact go he
  ·rcases he with⟨t',h1,h2,h3⟩|⟨h1,_⟩
   ·rw[ht]at h1;cases h1;refine⟨fun e=>go (h2 e),fun e'=>?_⟩;have:=h3 e';subst this;exact skipped hτ hk
   ·rw[ht]at h1;cases h1
  ·rcases he with⟨t',h1,_⟩|⟨h1,h2⟩
   ·exact .inl ⟨t',h1⟩
   ·subst h2;exact .inr ⟨h1,skipped hτ hk⟩
 ·simp only[LOps]at hs;refine key (fun hg=>?_) (fun s b t hg ht=>?_) (fun s b hg=>?_)<;>rw[hg]at hs
  ·exact q3c h hl hs fun a' w' ⟨G',υ,⟨τ,h1,hk⟩,h2,h3⟩=>hK _ _ ⟨G',τ,hk,h2.eqv h1,h3⟩
  ·rcases hs with⟨t',h1,h2,h3⟩|⟨h1,_⟩
   ·rw[ht]at h1;cases h1;refine⟨fun e=>q3c h hl (h2 e) fun a' w' ⟨G',υ,⟨τ,h1,hk⟩,h2,h3⟩=>hK _ _ ⟨G',τ,hk,h2.eqv h1,h3⟩,fun e=>?_⟩;obtain⟨τ,h1,hk⟩:=h3 e;exact skipped h1 hk
   ·rw[ht]at h1;cases h1
  ·rcases hs with⟨t',h1,_⟩|⟨h1,τ,h2,hk⟩
   ·exact .inl ⟨t',h1⟩
   ·exact .inr ⟨h1,skipped h2 hk⟩
theorem q4Q{o:q0a}(h:o.keeps=true):o.q4d=true:=by
 unfold q0a.keeps at h;unfold q0a.q4d;split at h<;>first|(cases h;done)|simp[*]
theorem z7N{p q:q0a}(h:z7M p q=true):p.q4d=true∧q.q4d=true:=by
 unfold z7M at h;simp only[Zah,Zca]at h;rcases h.2 with(⟨a,b⟩|⟨a,b⟩)|⟨a,b⟩
 ·exact⟨q4Q a,q4Q b⟩
 ·exact⟨q4Q (q9Q a),b⟩
 ·exact⟨b,q4Q (q9Q a)⟩
theorem q27.mono{o:q0a}{K K':St→Prop}(hK:∀σ,K σ→K' σ)(h:q27 P o K σ):q27 P o K' σ:=
 let⟨e,h1,τ,h2,h3⟩:=h
 ⟨e,h1,τ,h2,hK _ h3⟩
theorem q7i{o:q0a}{K K':St→Prop}{σ:St}(hK:∀σ,K σ→K' σ)(h:q5C P o K σ):q5C P o K' σ:=by
 unfold q5C at *;split at h
 ·exact q6H.mono (fun σ h=>⟨h.1,hK σ h.2⟩) h
 ·rename_i f args heq;rcases h with⟨ds,Post,h1,h2,h3⟩|h
  ·exact .inl ⟨ds,Post,h1,h2,fun r hr=>hK _ (h3 r hr)⟩
  ·exact .inr (h.mono hK)
 ·obtain⟨σ',h1,h2⟩:=h;exact⟨σ',h1,h2.1,hK _ h2.2⟩
 ·obtain⟨σ',h1,h2⟩:=h;exact⟨σ',h1,hK _ h2⟩
theorem q4T{K K':St→Prop}(hK:∀σ,K σ→K' σ):∀{l:List q0a} {σ:St},LOps P l K σ→LOps P l K' σ
 |[],σ,h=>hK σ h
 |o::l,σ,h=>by
  simp only[LOps]at *;cases hg:o.guard with
  |none=>rw[hg]at h;exact q7i (fun _=>q4T hK) h
  |some sb=>
   obtain⟨s,b⟩:=sb;rw[hg]at h;rcases h with⟨t,h1,h2,h3⟩|⟨h1,h2⟩
   ·exact .inl ⟨t,h1,fun e=>q7i (fun _=>q4T hK) (h2 e),fun e=>q4T hK (h3 e)⟩
   ·exact .inr ⟨h1,q4T hK h2⟩
theorem Cl.mono{K K':St→Prop}(hK:∀σ,K σ→K' σ)(h:Cl K σ):Cl K' σ:=let⟨τ,a,b⟩:=h;⟨τ,a,hK _ b⟩
theorem q0U.mono{o:q0a}{K K':St→Prop}(hK:∀σ,K σ→K' σ)(h:q0U P o K σ):q0U P o K' σ:=by
 unfold q0U at *;split at h
 ·rename_i hm;rw[if_pos hm];exact h.mono hK
 ·rename_i hm;rw[if_neg hm];exact q4T (fun _=>Cl.mono hK) h
/-! ### Places, and operations with rules of their own -/
theorem z7u{ev ev':Operand→Value}{o:Oper}{p:Prim}{os:List Operand}(h:q18 P o=some (p,os))(he:∀x∈os,ev x=ev' x):execOp ev o=execOp ev' o:=by
 have args:∀{l:Array Operand},(∀x∈l.toList,ev x=ev' x)→l.map ev=l.map ev':=fun{l} h=>by
  apply Zcj;simp only[Array.toList_map];exact Zct h
 unfold q18 at h;split at h<;>rename_i ho
 ·have key:∀{f:Operand},(∀x∈f::(‹Array Operand›).toList,ev x=ev' x)→o.op=.call { callee:=.value f,args := ‹Array Operand›,argTypes := ‹Array TypeId› }→execOp ev o=execOp ev' o:=fun{f} he ho=>by
   have h1:=he f (by simp);have h2:=args (fun x hx=>he x (List.mem_cons_of_mem _ hx));simp only[execOp,ho,resolve,h1,h2]
  split at h
  ·split at h
   ·cases h
   ·cases h;exact key he ho
  ·cases h;exact key he ho
 ·have key:(∀x∈(‹Array Operand›).toList,ev x=ev' x)→execOp ev o=execOp ev' o:=fun he=>by
   simp only[execOp,ho,resolve,args he]
  split at h
  ·split at h
   ·cases h;exact key he
   ·cases h
  ·split at h
   ·cases h
   ·cases h;exact key he
 all_goals first
  |(cases h;done)
  |(split at h
    ·cases h
    ·cases h;simp only[execOp,ho];simp at he;simp[he])
  |(cases h;simp only[execOp,ho];simp at he;simp[he];done)
  |(cases h;simp only[execOp,ho];simp at he
    rename_i r;cases r with
    |none=>rfl
    |some x=>simp[he x rfl])
theorem j6I{G:q0p}{w:World}{x z:AV}{v:Value}{off:Nat}(hx:AVR G w x v)(h:fFa off x=some z):∃r,AVR G w z r:=by
 unfold fFa at h;split at h
 ·cases h;exact⟨_,.ptr _ _⟩
 ·split at h
  ·cases h;obtain⟨b,o,rfl⟩:=hx.q3n;exact⟨_,hx.q6S ‹_›⟩
  ·cases h
 ·split at h
  ·cases h;have hx:=hx.z7p;obtain⟨b,o,rfl⟩:=hx.q3n;exact⟨_,hx.q6S ‹_›⟩
  ·cases h
 ·cases h;exact⟨_,.d _ _ (.addr _)⟩
 ·cases h
theorem j3R{os:List Operand}{xs:List LX}(h:q2s os=some xs){d:Nat}(hd:d∉q3S xs){a:Act}{v:Value}:∀x∈os,(a.put (some d) v).eval x=a.eval x:=by
 induction os generalizing xs with
 |nil=>simp
 |cons o os ih=>
  simp only[q2s]at h;split at h
  ·rename_i x l hx hl;cases h;simp only[q3S,Zau,not_or]at hd;intro y hy;rcases Zar.1 hy with rfl|hy
   ·cases y with
    |tmp t=>
     simp only[q1h]at hx;cases hx;have ht:d≠t:=fun e=>hd.1 (by simp[q1O,e])
     simp only[Act.eval,Act.put,Zaz];rw[Zbu ht]
    |_=>rfl
   ·exact ih hl hd.2 y hy
  ·cases h
theorem z4B{u v:LV}(h:z7C u v=true):u=v:=by
 unfold z7C at h;split at h<;>first|(cases h;done)|(simp only[Zah,beq_iff_eq,decide_eq_true_eq]at h;simp[h])
theorem j5M{E:Entry}{n:Nat}{G:q0p}{σ:St}{a:Act}{w:World}(hσ:SR E n G σ a.tmps w){v:LV}{z:AV}(hv:isFa (.val v)=true)(hz:pev σ v=some z):∃r,AVR G w z r:=by
 unfold isFa at hv;split at hv
 ·rename_i e;cases e;exact j6I (hσ.get _) hz
 ·rename_i e;cases e;cases hz;exact⟨_,hσ.get _⟩
 ·rename_i e;cases e;exact j6J hσ (hσ.get _) hz
 ·cases hv
theorem z2m{p q:q0a}(h:z2l p q=true):∃d v pr xs chk k,p=⟨some d,.val v,none⟩∧q=⟨some k,.prim pr xs chk,none⟩∧isFa (.val v)=true∧d≠k∧d∉q3S xs∧(d,v)∈chk∧∀e∈chk,d∉q5k e.2:=by
 obtain⟨pd,po,pg⟩:=p;obtain⟨qd,qo,qg⟩:=q;unfold z2l at h;split at h
 ·rename_i d v pr xs chk h1 h2 h3 h4 h5;simp only at h1 h2 h3 h4 h5;subst h1 h2 h3 h4 h5;simp only[Zah,Zcc,Zbo,Zbr]at h;obtain⟨h0,h1,h2,⟨e,he,h3⟩,h4⟩:=h;cases qd with
  |none=>simp[neD]at h1
  |some k=>
   refine⟨d,v,pr,xs,chk,k,rfl,rfl,h0,by simpa[neD]using h1,by simpa using h2,?_,fun e he=>by simpa using h4 e he⟩;obtain⟨k',v'⟩:=e;rw[beq_iff_eq]at h3;obtain⟨rfl,h3⟩:=h3;rw[←z4B h3];exact he
 ·cases h
theorem z3K{σ:St}{chk:List (Nat×LV)}(h:Chk σ chk){k:Nat}{v:LV}(hm:(k,v)∈chk):∃z,aget σ.ρ k=some z∧pev σ v=some z:=by
 induction chk with
 |nil=>cases hm
 |cons e r ih=>
  obtain⟨k',v'⟩:=e;rcases Zar.1 hm with e|hm
  ·cases e;exact h.1
  ·exact ih h.2 hm
theorem j0P{σ:St}:∀{chk:List (Nat×LV)},(∀e∈chk,∃z,aget σ.ρ e.1=some z∧pev σ e.2=some z)→Chk σ chk
 |[],_=>trivial
 |e::r,h=>⟨h e (by simp),j0P fun e he=>h e (by simp[he])⟩
theorem j1w{v:LV}(h:isFa (.val v)=true):z7C v v=true:=by
 unfold isFa at h;split at h<;>first|(cases h;done)|(rename_i e;cases e;simp[z7C])
theorem j7c{p q:q0a}(h:z2l p q=true){K:St→Prop}{σ:St}(hd:q0U P p (q0U P q K) σ):q0U P (q5q p q) (q0U P p K) σ:=by
 obtain⟨d,v0,pr,xs,chk,k,rfl,rfl,hea,hdk,hdx,hmem,hall⟩:=z2m h;have e1:∀K σ,q0U P ⟨some d,.val v0,none⟩ K σ=q27 P ⟨some d,.val v0,none⟩ K σ:=fun K σ=>by simp[q0U,q0a.q4d]
 have e2:∀c K σ,q0U P ⟨some k,.prim pr xs c,none⟩ K σ=q6H P (some k) pr xs (ChkK c (Cl K)) σ:=fun c K σ=>by
  simp only[q0U,q0a.q4d];rfl
 rw[e1]at hd;obtain⟨e,⟨_,z,hz,rfl⟩,τ,hτ,hd⟩:=hd;rw[e2]at hd;have e3:q5q ⟨some d,.val v0,none⟩ ⟨some k,.prim pr xs chk,none⟩=⟨some k,.prim pr xs (chk.filter fun e=>some e.1 != some d),none⟩:=by simp only[q5q,hea,if_true]
 rw[e3,e2];intro E _ n G a w o os hp hl hdst hdn hσ;obtain⟨vp,hvp⟩:∃vp,AVR G w z vp:=j5M hσ hea hz;have hkn:k<n:=by simpa[q3u]using hdn
 let m:=n+(d+1)
 let a':Act:={ a with tmps:=a.tmps++Array.replicate (m-a.tmps.size) undef }
 have hna:a.tmps.size=n:=hσ.size;have hgd:∀t,a'.tmps.getD t undef=a.tmps.getD t undef:=fun t=>by
  simp only[a',Zaz,Array.getElem?_append]
  by_cases hs:t<a.tmps.size
  ·rw[if_pos hs]
  ·rw[if_neg hs,show a.tmps[t]?=none from Zcu (by omega)];simp only[Array.getElem?_replicate];split<;>rfl
 have hev:∀x:Operand,a'.eval x=a.eval x:=fun x=>by
  cases x with
  |tmp t=>exact hgd t
  |_=>rfl
 have hσ':SR E m G σ a'.tmps w:={ hσ with size:=by simp[a'];omega,slot:=fun t x hx=>by rw[hgd];exact hσ.slot t x hx };have hσ1:SR E m G τ (a'.put (some d) vp).tmps w:=(hσ'.put hvp (by omega)).eqv hτ;have hrun:=hd E m G (a'.put (some d) vp) w o os hp hl hdst (by simp[q3u];omega) hσ1;rw[z7u (ev':=a.eval) hp (fun x hx=>(j3R hl hdx x hx).trans (hev x))]at hrun;refine hrun.mono fun v w' ⟨G',σ',⟨hc,τ',hτ',hk⟩,hsr⟩=>?_
 have hag:∀rs,d∉rs→q0I rs { σ' with ρ:=adel σ'.ρ d } σ':=fun rs hrs=>⟨fun t ht=>by
  have:d≠t:=fun e=>hrs (e▸ht)
  simp only[St.get,q0J,if_neg this],rfl,rfl⟩
 refine⟨G',{ σ' with ρ:=adel σ'.ρ d },⟨j0P fun e he=>?_,?_⟩,?_⟩
 ·obtain⟨h1,h2⟩:=Zcg.1 he;obtain⟨z1,h3,h4⟩:=z3K hc (k:=e.1) (v:=e.2) h1;have hne:d≠e.1:=fun e'=>by simp[e']at h2
  exact⟨z1,by simp only[q0J,if_neg hne];exact h3,by rw[(hag _ (hall e h1)).pev];exact h4⟩
 ·obtain⟨z1,h3,h4⟩:=z3K hc hmem;refine⟨_,.refl _,?_⟩;rw[e1];have heq:Eqv (Eff.app ⟨[],z1⟩ (some d) { σ' with ρ:=adel σ'.ρ d }) σ':=by
   refine⟨fun t=>?_,rfl,rfl⟩;simp only[Eff.app,q0x,putO,St.put,q2H,q0J]
   by_cases e:d=t
   ·subst e;simp[h3]
   ·simp[e]
  exact⟨⟨[],z1⟩,⟨rfl,z1,by rw[(hag _ (hall _ hmem)).pev];exact h4,rfl⟩,τ',heq.trans hτ',hk⟩
 ·refine{ hsr with size:=by simp[Act.put,hna],slot:=fun t x hx=>?_ };simp only[q0J]at hx;split at hx
  ·cases hx
  ·rename_i hne;have:=hsr.slot t x hx;simp only[Act.put]at this ⊢;rw[Array.setIfInBounds_comm _ _ (by omega)]at this;have e:((a'.tmps.setIfInBounds k v).setIfInBounds d vp).getD t undef=(a.tmps.setIfInBounds k v).getD t undef:=by
    have h1:=hgd t;simp only[Zaz]at h1;simp only[Zaz,Zbu hne]
    by_cases hkt:k=t
    ·subst hkt;rw[Array.getElem?_setIfInBounds_self_of_lt (by simp[a'];omega),Array.getElem?_setIfInBounds_self_of_lt (by omega)]
    ·rw[Zbu hkt,Zbu hkt];exact h1
   rw[e]at this;exact this
structure OffD(d:Nat)(σ τ:St):Prop where
 ρ:∀s,s≠d→aget σ.ρ s=aget τ.ρ s
 L:σ.L=τ.L
 H:σ.H=τ.H
theorem OffD.obj{d:Nat}{σ τ:St}(h:OffD d σ τ)(r:Ref):σ.obj r=τ.obj r:=by cases r<;>simp[St.obj,h.L,h.H]
theorem OffD.agree{d:Nat}{σ τ:St}(h:OffD d σ τ){rs:List Nat}(hd:d∉rs):q0I rs σ τ:=⟨fun s hs=>by
 have:s≠d:=fun e=>hd (e▸hs)
 simp only[St.get,h.ρ s this],h.L,h.H⟩
theorem OffD.setObj{d:Nat}{σ τ:St}(h:OffD d σ τ)(r:Ref)(o:AObj):OffD d (σ.setObj r o) (τ.setObj r o):=by
 cases r<;>exact⟨h.ρ,by simp[St.setObj,h.L],by simp[St.setObj,h.H]⟩
theorem OffD.amap{d:Nat}{σ τ:St}(h:OffD d σ τ)(g:AV→AV):OffD d { σ with ρ:=amap g σ.ρ } { τ with ρ:=amap g τ.ρ }:=
 ⟨fun s hs=>by simp only[q17,h.ρ s hs],h.L,h.H⟩
theorem OffD.erase{d:Nat}{σ τ:St}(h:OffD d σ τ)(q:Lab):OffD d (σ.erase q) (τ.erase q):=
 ⟨fun s hs=>by rw[q57,q57,q17,q17,h.ρ s hs],(q8R q h.L h.H).1,(q8R q h.L h.H).2⟩
theorem OffD.stS{d:Nat}{σ τ σ2:St}{m:Nat}{A X:AV}(h:OffD d σ τ)(hs:Go.Av.stS σ m A X=some σ2):∃τ2,Go.Av.stS τ m A X=some τ2∧OffD d σ2 τ2:=by
 unfold Go.Av.stS at hs ⊢;cases A<;>simp only at hs ⊢<;>try(cases hs;done)
 rename_i r o;rw[h.obj r]at hs;cases ho:τ.obj r with
 |none=>rw[ho]at hs;cases hs
 |some ob=>
  rw[ho]at hs;cases ob<;>try(cases hs;done)
  rename_i cs;dsimp only at hs ⊢;cases X<;>try(cases hs;done)
  all_goals(try dsimp only at hs)
  all_goals(try dsimp only)
  all_goals try(split at hs<;>cases hs;rename_i hc;rw[if_pos hc];exact⟨_,rfl,h.setObj _ _⟩)
  rename_i q e sz l;cases q<;>simp only at hs ⊢
  ·rename_i s;split at hs
   ·rename_i hc;rw[if_pos hc];have h2:=(h.erase (.c r o)).amap (AV.rename (.t s) (.c r o));rw[h2.obj r]at hs;split at hs
    ·rename_i cs2 hcs2;cases hs;exact⟨_,rfl,h2.setObj _ _⟩
    ·cases hs
   ·cases hs
  ·split at hs<;>cases hs;rename_i hc;rw[if_pos hc];exact⟨_,rfl,h.setObj _ _⟩
theorem z2o{p q:q0a}(h:z2n p q=true):∃d v m x y chk,p=⟨some d,.val v,none⟩∧q=⟨none,.stC m x y chk,none⟩∧d∉q1O x++q1O y∧d∉q5k v∧(d,v)∈chk∧chk.any (fun e=>e.1==d&&z7C e.2 v)=true:=by
 obtain⟨pd,po,pg⟩:=p;obtain⟨qd,qo,qg⟩:=q;unfold z2n at h;split at h
 ·rename_i d v m x y chk h1 h2 h3 h4 h5 h6;simp only at h1 h2 h3 h4 h5 h6;subst h1 h2 h3 h4 h5 h6;simp only[Zah,Zcc]at h;obtain⟨h1,h2,h3⟩:=h;refine⟨d,v,m,x,y,chk,rfl,rfl,by simpa using h1,by simpa using h2,?_,h3⟩;obtain⟨e,he,h4⟩:=Zbr.1 h3;simp only[Zah,beq_iff_eq]at h4;obtain⟨e1,e2⟩:=e;simp only at h4;rw[←h4.1,←z4B h4.2];exact he
 ·cases h
theorem j7d{p q:q0a}(h:z2n p q=true){K:St→Prop}{σ:St}(hd:q0U P p (q0U P q K) σ):q0U P (q5q p q) (q0U P p K) σ:=by
 obtain⟨d,v,m,x,y,chk,rfl,rfl,hdx,hdv,hmem,_⟩:=z2o h;have e1:∀K σ,q0U P ⟨some d,.val v,none⟩ K σ=q27 P ⟨some d,.val v,none⟩ K σ:=fun K σ=>by simp[q0U,q0a.q4d]
 have e2:∀c K σ,q0U P ⟨none,.stC m x y c,none⟩ K σ=∃σ',stS σ m (σ.ev x) (σ.ev y)=some σ'∧ChkK c (Cl K) σ':=fun c K σ=>by
  simp only[q0U,q0a.q4d];rfl
 rw[e1]at hd;obtain⟨e,⟨_,z,hz,rfl⟩,τ,hτ,hd⟩:=hd;rw[e2]at hd;have e3:q5q ⟨some d,.val v,none⟩ ⟨none,.stC m x y chk,none⟩=⟨none,.stC m x y (chk.filter fun e=>some e.1 != some d&&z1W (some d) (q5k e.2)),none⟩:=rfl;rw[e3,e2];obtain⟨σ',h1,hc,τ',hτ',hk⟩:=hd;have hoff:OffD d τ σ:=⟨fun s hs=>by
  rw[←hτ.ρ];simp only[Eff.app,q0x,putO,St.put,q2H,if_neg (Ne.symm hs)],hτ.L.symm,hτ.H.symm⟩
 have ag:=hoff.agree hdx;rw[q0I.ev (x:=x) ag.left,q0I.ev (x:=y) ag.right]at h1;obtain⟨σ2,h2,hoff2⟩:=hoff.stS h1;refine⟨σ2,h2,j0P fun e he=>?_,σ2,.refl _,?_⟩
 ·obtain⟨k1,k2⟩:=Zcg.1 he;obtain⟨z1,h3,h4⟩:=z3K hc (k:=e.1) (v:=e.2) k1;simp only[Zah,bne_iff_ne,ne_eq,Zas,z1W,Zcc,List.contains_eq_mem,decide_eq_false_iff_not]at k2;exact⟨z1,by rw[←hoff2.ρ _ k2.1];exact h3,by rw[←(hoff2.agree k2.2).pev];exact h4⟩
 ·obtain⟨z1,h3,h4⟩:=z3K hc hmem;rw[e1];have heq:Eqv (Eff.app ⟨[],z1⟩ (some d) σ2) σ':=by
   refine⟨fun t=>?_,hoff2.L.symm,hoff2.H.symm⟩;simp only[Eff.app,q0x,putO,St.put,q2H]
   by_cases e:d=t
   ·subst e;simp[h3]
   ·rw[if_neg e];exact(hoff2.ρ t (Ne.symm e)).symm
  exact⟨⟨[],z1⟩,⟨rfl,z1,by rw[←(hoff2.agree hdv).pev];exact h4,rfl⟩,τ',heq.trans hτ',hk⟩
theorem j7b{p q:q0a}(h:q4e p q=true)(h0:z2l p q=false)(h00:z2n p q=false){K:St→Prop}{σ:St}(hd:q0U P p (q0U P q K) σ):q0U P q (q0U P p K) σ:=by
 unfold q4e at h;rw[h0,h00]at h;simp only[Zca,Zah,Bool.or_false]at h;rcases h with(h|⟨⟨⟨⟨⟨h1,h2⟩,h3⟩,h4⟩,h5⟩,h6⟩)|⟨⟨⟨⟨h1,h2⟩,h3⟩,h4⟩,h5⟩
 ·obtain⟨m1,m2⟩:=z7N h;have e1:q0U P p=q27 P p:=by funext K σ;simp[q0U,m1]
  have e2:q0U P q=q27 P q:=by funext K σ;simp[q0U,m2]
  rw[e1,e2]at hd ⊢;exact swap h hd
 ·obtain⟨cs,hcs⟩:∃cs,p.op=.allo cs:=by
   unfold z8m at h2;split at h2
   ·exact⟨_,by assumption⟩
   ·cases h2
  have m1:p.q4d=false:=by simp[q0a.q4d,hcs]
  have m2:=q4Q h5;obtain⟨d,hdd⟩:=Option.isSome_iff_exists.1 h4;have e1:q0U P p=fun K=>LOps P [p] (Cl K):=by funext K σ;simp[q0U,m1]
  have e2:q0U P q=q27 P q:=by funext K σ;simp[q0U,m2]
  rw[e1,e2]at hd ⊢;exact j7B h1 hcs (by simpa using h3) hdd h5 h6 hd
 ·have m1:p.q4d=false:=by
   unfold isSt at h2;split at h2
   ·simp[q0a.q4d, *]
   ·cases h2
  have m2:q.q4d=true:=by
   unfold z7b at h5;split at h5
   ·simp[q0a.q4d, *]
   ·cases h5
  have e1:q0U P p=fun K=>LOps P [p] (Cl K):=by funext K σ;simp[q0U,m1]
  have e2:q0U P q=q27 P q:=by funext K σ;simp[q0U,m2]
  rw[e1,e2]at hd ⊢;exact j7C h1 h2 (by simpa using h3) (by simpa using h4) h5 hd
theorem z3z{p q:q0a}{pr:Prim}{xs:List LX}{chk:List (Nat×LV)}(hq:q.op=.prim pr xs chk)(h:q4e p q=true):z2l p q=true:=by
 obtain⟨qd,qo,qg⟩:=q;simp only at hq;subst hq;have hS:z2n p ⟨qd,.prim pr xs chk,qg⟩=false:=by
  cases hs:z2n p ⟨qd,.prim pr xs chk,qg⟩with
  |false=>rfl
  |true=>obtain⟨d,v,m,x,y,c,_,e,_⟩:=z2o hs;cases e
 simpa[q4e,z7M,q0a.keeps,q0a.q4d,q0a.pure,z7b,hS]using h
theorem z6p{p q:q0a}{m:Nat}{x y:LX}{chk:List (Nat×LV)}(hq:q.op=.stC m x y chk)(h:q4e p q=true):z2n p q=true:=by
 obtain⟨qd,qo,qg⟩:=q;simp only at hq;subst hq;have hF:z2l p ⟨qd,.stC m x y chk,qg⟩=false:=by
  cases hs:z2l p ⟨qd,.stC m x y chk,qg⟩with
  |false=>rfl
  |true=>obtain⟨d,v0,pr,xs,c,k,_,e,_⟩:=z2m hs;cases e
 simpa[q4e,z7M,q0a.keeps,q0a.q4d,q0a.pure,z7b,hF]using h
def j5k:LO→Bool
 |.prim _ _ _|.stC _ _ _ _=>true
 |_=>false
theorem z3d{p q:q0a}(h:j5k q.op=false):q5q p q=q:=by
 unfold q5q;split
 ·rename_i e;rw[e]at h;cases h
 ·rename_i e;rw[e]at h;cases h
 ·rfl
theorem j04{p q:q0a}{pr:Prim}{xs:List LX}{chk:List (Nat×LV)}(hq:q.op=.prim pr xs chk)(h:isFa p.op=false):q5q p q=q:=by
 obtain⟨d,op,g⟩:=q;simp only at hq;subst hq;simp[q5q,h]
theorem z6s{b:Bool}{p p' q:q0a}(hb:z3Y q.op=true→b=true)(h:q4e p q=true)(ha:z3T b p p'=true):q4e p (q5q p' q)=true:=by
 by_cases hq:∃pr xs chk,q.op=.prim pr xs chk
 ·obtain⟨pr,xs,chk,hq⟩:=hq;have hF:=z3z hq h;obtain⟨d,v0,pr',xs',chk',k,rfl,rfl,h0,h1,h2,h3,h4⟩:=z2m hF;cases hfa:isFa p'.op with
  |false=>rw[j04 rfl hfa];exact h
  |true=>
   have hne:some d≠p'.dst:=by
    have:isFa (LO.val v0)=true:=h0;have ha:=(Bool.and_eq_true_iff.1 ha).1;simpa[this,hfa]using ha
   simp only[q5q,hfa,if_true];have:z2l ⟨some d,.val v0,none⟩ ⟨some k,.prim pr' xs' (chk'.filter fun e=>some e.1 != p'.dst),none⟩=true:=by
    simp only[z2l,neD,bne_iff_ne,ne_eq,Zah,decide_eq_true_eq,Zcc,Zbr,Zbo];refine⟨h0,h1,by simpa using h2,⟨_,Zcg.2 ⟨h3,by simpa using hne⟩,by simp[j1w h0]⟩,fun e he=>by simpa using h4 e (Zcg.1 he).1⟩
   simp[q4e,this]
 ·by_cases hq2:∃m x y chk,q.op=.stC m x y chk
  ·obtain⟨m,x,y,chk,hq2⟩:=hq2;have hS:=z6p hq2 h;have hb1:b=true:=hb (by rw[hq2];rfl);subst hb1;obtain⟨d,v,m,x,y,chk,rfl,rfl,h1,h2,h3,h4⟩:=z2o hS;cases hv:isVal p'.op with
   |false=>simp only[q5q,hv];exact h
   |true=>
    obtain⟨p'd,p'o,p'g⟩:=p';have ha:=(Bool.and_eq_true_iff.1 ha).2;have hvv:isVal (LO.val v)=true:=rfl;simp only[hvv,hv,Bool.and_self,Zdf,Bool.false_or,Zah,bne_iff_ne,ne_eq]at ha;have ha2:z1W p'd (q5k v)=true:=by
     have:=ha.2;cases p'd with
     |none=>rfl
     |some d'=>simpa[z1W]using this
    simp only[q5q,hv,if_true];have:z2n ⟨some d,.val v,none⟩ ⟨none,.stC m x y (chk.filter fun e=>some e.1 != p'd&&z1W p'd (q5k e.2)),none⟩=true:=by
     simp only[z2n,Zah,Zcc,Zbr];obtain⟨e,he,h5⟩:=Zbr.1 h4;have h5':=h5;simp only[Zah,beq_iff_eq]at h5;refine⟨by simpa using h1,by simpa using h2,e,Zcg.2 ⟨he,?_⟩,by simpa using h5'⟩;rw[h5.1,z4B h5.2,ha2];simpa using ha.1
    simp[q4e,this]
  ·have hn:j5k q.op=false:=by
    cases ho:q.op with
    |prim=>exact(hq ⟨_,_,_,ho⟩).elim
    |stC=>exact(hq2 ⟨_,_,_,_,ho⟩).elim
    |_=>rfl
   rw[z3d hn];exact h
theorem z6S(p q:q0a):z3Y (q5q p q).op=z3Y q.op:=by
 obtain⟨d,op,g⟩:=q;unfold q5q;dsimp only;split
 ·split<;>rfl
 ·split<;>rfl
 ·rfl
theorem q8Q:∀(pre:List q0a) (q:q0a),z3Y (q5p pre q).op=z3Y q.op
 |[],q=>rfl
 |p::pre,q=>(z6S p (q5p pre q)).trans (q8Q pre q)
theorem q7P{b:Bool}{p q:q0a}(hb:z3Y q.op=true→b=true)(h:q4e p q=true):∀{pre:List q0a},(∀p'∈pre,z3T b p p'=true)→q4e p (q5p pre q)=true
 |[],_=>h
 |p'::pre,ha=>z6s (fun e=>hb (by rw[←q8Q pre q];exact e)) (q7P hb h fun x hx=>ha x (by simp[hx])) (ha p' (by simp))
theorem j7D{p q:q0a}(h:q4e p q=true){K:St→Prop}{σ:St}(hd:q0U P p (q0U P q K) σ):q0U P (q5q p q) (q0U P p K) σ:=by
 cases h0:z2l p q with
 |true=>exact j7c h0 hd
 |false=>
  cases h1:z2n p q with
  |true=>exact j7d h1 hd
  |false=>
   have hn:j5k q.op=false:=by
    cases ho:q.op<;>first|rfl|(rw[z3z ho h]at h0;cases h0)|(rw[z6p ho h]at h1;cases h1)
   rw[z3d hn];exact j7b h h0 h1 hd
theorem pull{b:Bool}{q:q0a}(hb:z3Y q.op=true→b=true){post:List q0a}{K:St→Prop}:∀{pre:List q0a} {σ:St},(∀p∈pre,q4e p q=true)→pre.Pairwise (fun p p'=>z3T b p p'=true)→z4U P (pre++q::post) K σ→q0U P (q5p pre q) (z4U P (pre++post) K) σ
 |[],_,_,_,h=>h
 |p::pre,σ,hs,hp,h=>by
  have h1:q0U P p (z4U P (pre++q::post) K) σ:=h;rw[Zcv]at hp;exact j7D (q7P hb (hs p (by simp)) hp.1) (h1.mono fun τ ht=>pull hb (fun p hp=>hs p (by simp[hp])) hp.2 ht)
theorem q9y:∀{l:List q0a} {K:St→Prop} {σ:St},DOps P l K σ→z4U P l K σ
 |[],K,σ,h=>⟨σ,.refl _,h⟩
 |o::l,K,σ,h=>by
  simp only[DOps,DStep]at h;simp only[z4U,q0U];split at h
  ·rename_i hm;obtain⟨e,h1,h2⟩:=h;rw[if_pos hm];exact⟨e,h1,_,.refl _,q9y h2⟩
  ·rename_i hm;rw[if_neg hm];exact q4T (fun σ h=>⟨σ,.refl _,q9y h⟩) h
theorem j4k{f:Nat→Nat}{R pre post:List Nat}{i:Nat}(hR:R.Pairwise (fun a b=>f a<f b))(he:R=pre++i::post):(∀k∈pre,f k<f i)∧(pre++post).Pairwise (fun a b=>f a<f b)∧∀k,k∈pre++post↔k∈R∧k≠i:=by
 subst he;rw[List.pairwise_append,Zcv]at hR;obtain⟨h1,⟨h2,h3⟩,h4⟩:=hR;refine⟨fun k hk=>h4 k hk i (by simp),?_,fun k=>?_⟩
 ·rw[List.pairwise_append];exact⟨h1,h3,fun a ha b hb=>h4 a ha b (by simp[hb])⟩
 ·simp only[Zau,Zar];constructor
  ·rintro(h|h)
   ·exact⟨.inl h,fun e=>by have:=h4 k h i (by simp);rw[e]at this;omega⟩
   ·exact⟨.inr (.inr h),fun e=>by have:=h2 k h;rw[e]at this;omega⟩
  ·rintro⟨h|h|h,hne⟩
   ·exact .inl h
   ·exact absurd h hne
   ·exact .inr h
theorem z3F{f:Nat→Nat}:∀{l:List Nat},z4I f l=true→l.Pairwise (fun a b=>f a<f b)
 |[],_=>.nil
 |a::l,h=>by
  simp only[z4I,Zah,Zbo,decide_eq_true_eq]at h;exact .cons (fun b hb=>h.1 b hb) (z3F h.2)
theorem z9l{ops:Array Oper}{lo:List q0a}{ord:List Nat}(h:q8P ops lo ord=true):ord.Pairwise (fun a b=>posOf ord a<posOf ord b)∧(∀k,k∈ord↔k<ops.size)∧ord.length=ops.size:=by
 unfold q8P at h;simp only[Zah,decide_eq_true_eq,Zbo]at h;obtain⟨⟨⟨⟨h1,h2⟩,h3⟩,h4⟩,_⟩:=h;exact⟨z3F h1,fun k=>⟨fun hk=>h2 k hk,fun hk=>by simpa using h3 k (Zcr.2 hk)⟩,h4⟩
theorem z3c{ops:Array Oper}{lo:List q0a}{ord:List Nat}(h:q8P ops lo ord=true){i:Nat}{o:Oper}(hi:ops[i]?=some o):
  (∀e∈o.after,Region.binds .any e=true→e.on<ops.size∧posOf ord e.on<posOf ord i)∧
  ∀k,k<ops.size→posOf ord k<posOf ord i→q7d ops 8 i k=true∨(match lo[k]?,lo[i]? with|some p,some q=>q4e p q|_,_=>false)=true:=by
 unfold q8P at h;rw[Zah]at h;have h1:=Zbo.1 h.2 i (Zcr.2 (Zan.1 hi).1);simp only[Zah,hi]at h1;refine⟨fun e he hb=>?_,fun k hk hp=>?_⟩
 ·have:=Array.all_eq_true'.1 h1.1 e he;simpa[hb]using this
 ·have h2:=Zbo.1 h1.2 k (Zcr.2 hk);rw[Zca,Zca]at h2;rcases h2 with(h2|h2)|h2
  ·simp[hp]at h2
  ·exact .inl h2
  ·exact .inr h2
theorem z6Q{ops:Array Oper}{lo:List q0a}{ord:List Nat}(h:q8P ops lo ord=true){i:Nat}{o:Oper}(hi:ops[i]?=some o):∀e∈o.after,Region.binds .any e=true→e.on<ops.size∧posOf ord e.on<posOf ord i:=(z3c h hi).1
def j0h(ops:Array Oper)(listed:Array Bool):Prop:=∀(i:Nat) (o:Oper),ops[i]?=some o→listed.getD i false=true→∀e∈o.after,Region.binds .any e=true→listed.getD e.on false=true
theorem q7q{ops:Array Oper}{i k:Nat}(h:waits ops i k=true):∃o,ops[i]?=some o∧∃e∈o.after,Region.binds .any e=true∧e.on=k:=by
 unfold waits at h;split at h
 ·rename_i o ho;obtain⟨e,he,hb⟩:=Array.any_eq_true'.1 h;simp only[Zah,beq_iff_eq]at hb;exact⟨o,ho,e,he,hb.1,hb.2⟩
 ·cases h
theorem q9q{ops:Array Oper}{listed:Array Bool}(hc:j0h ops listed):∀{f i k:Nat},q7d ops f i k=true→listed.getD i false=true→listed.getD k false=true
 |0,i,k,h,hl=>by
  obtain⟨o,ho,e,he,hb,rfl⟩:=q7q h;exact hc i o ho hl e he hb
 |f+1,i,k,h,hl=>by
  simp only[q7d,Zca,Zbr,Zah]at h;rcases h with h|⟨j,_,h1,h2⟩
  ·obtain⟨o,ho,e,he,hb,rfl⟩:=q7q h;exact hc i o ho hl e he hb
  ·obtain⟨o,ho,e,he,hb,rfl⟩:=q7q h1;exact q9q hc h2 (hc i o ho hl e he hb)
theorem z6C{ops:Array Oper}{listed:Array Bool}(hc:j0h ops listed){f i k:Nat}{o:Oper}(ho:ops[i]?=some o)(hr:∀e∈o.after,Region.binds .any e=true→listed.getD e.on false=true)(h:q7d ops f i k=true):listed.getD k false=true:=by
 have h0:∀{j},waits ops i j=true→listed.getD j false=true:=fun hw=>by
  obtain⟨o',ho',e,he,hb,rfl⟩:=q7q hw;rw[ho]at ho';cases ho';exact hr e he hb
 cases f with
 |zero=>exact h0 h
 |succ f=>
  simp only[q7d,Zca,Zbr,Zah]at h;rcases h with h|⟨j,_,h1,h2⟩
  ·exact h0 h
  ·exact q9q hc h2 (h0 h1)
theorem z6R{ops:Array Oper}{lo:List q0a}{ord:List Nat}(h:q8P ops lo ord=true){i k:Nat}{o:Oper}{x y:q0a}(hi:ops[i]?=some o)(hks:k<ops.size)(hk:posOf ord k<posOf ord i)(hx:lo[k]?=some x)(hy:lo[i]?=some y)(hw:q7d ops 8 i k=true→False):q4e x y=true:=by
 rcases(z3c h hi).2 k hks hk with h2|h2
 ·exact(hw h2).elim
 ·simpa only[hx,hy]using h2
theorem dany{ops:Array Oper}{lo:List q0a}(hlo:∀(i:Nat) (o:Oper),ops[i]?=some o→∃x,lo[i]?=some x∧q6n P n ops o x){ord:List Nat}(hok:q8P ops lo ord=true)(hfa:z8a ops lo ord=true){K:St→Prop}{Q:Exit→Act→World→Prop}{d:List Deferred}(hK:∀a' w',q9r E n K d a' w'→Q .normal a' w'):
  ∀(f:Nat) (listed:Array Bool) (R:List Nat) (σ:St) (G:q0p) (a:Act) (w:World),listed.size=ops.size→j0h ops listed→R.Pairwise (fun a b=>posOf ord a<posOf ord b)→(∀k,k∈R↔k<ops.size∧listed.getD k true=false)→R.length≤f→
   z4U P (R.map fun i=>lo.getD i default) K σ→SR E n G σ a.tmps w→a.defers=d→wpAny P .any ops Q f listed a w:=by
 have ready_mem:∀{listed:Array Bool} {R:List Nat},(∀k,k∈R↔k<ops.size∧listed.getD k true=false)→∀i∈Region.ready .any ops listed,i∈R:=fun hR i hi=>by
  obtain⟨h1,o,h2,_⟩:=mem_ready.1 hi;exact(hR i).2 ⟨(Zan.1 h2).1,h1⟩
 have fin:∀{σ:St} {G:q0p} {a:Act} {w:World},z4U P [] K σ→SR E n G σ a.tmps w→a.defers=d→Q .normal a w:=fun⟨τ,h1,h2⟩ h3 h4=>hK _ _ ⟨_,τ,h2,h3.eqv h1,h4⟩
 intro f;induction f with
 |zero=>
  intro listed R σ G a w hsz hcl hpw hR hf hd hσ hdef;have hnil:R=[]:=Zda.1 (by omega);subst hnil;refine⟨?_,fin hd hσ hdef⟩;apply List.eq_nil_iff_forall_not_mem.2;intro i hi;exact absurd (ready_mem hR i hi) (by simp)
 |succ f ih=>
  intro listed R σ G a w hsz hcl hpw hR hf hd hσ hdef;refine⟨fun h0=>?_,fun i hi=>?_⟩
  ·cases hRc:R with
   |nil=>rw[hRc]at hd;exact fin hd hσ hdef
   |cons r R'=>
    exfalso
    have hr:=(hR r).1 (by rw[hRc];simp);obtain⟨o,ho⟩:∃o,ops[r]?=some o:=⟨ops[r],by simp[hr.1]⟩;have:r∈Region.ready .any ops listed:=mem_ready.2 ⟨hr.2,o,ho,fun e he hb=>by
     have hlt:=z6Q hok ho e he hb;have hns:e.on∉R:=fun hm=>by
      rw[hRc]at hm hpw;rcases Zar.1 hm with h|h
      ·rw[h]at hlt;omega
      ·have:=(Zcv.1 hpw).1 _ h;omega
     have hes:e.on<listed.size:=by rw[hsz];exact hlt.1
     have:¬(listed.getD e.on true=false):=fun hc=>hns ((hR _).2 ⟨hlt.1,hc⟩)
     simp[hes]at this ⊢;exact this⟩
    rw[h0]at this;cases this
  ·obtain⟨hun,o,ho,hall⟩:=mem_ready.1 hi;have hiR:=ready_mem hR i hi;obtain⟨pre,post,he⟩:=List.append_of_mem hiR;obtain⟨hlt,hpw',hmem⟩:=j4k hpw he;obtain⟨x,hx,hl⟩:=hlo i o ho;rw[he,List.map_append,Zbf]at hd;have hgx:lo.getD i default=x:=by simp[hx]
   rw[hgx]at hd;have hp:=pull (b:=lo.any fun x=>z3Y x.op) (fun e=>Zbr.2 ⟨x,Zae hx,e⟩) (fun p hp=>by
    obtain⟨k,hk,rfl⟩:=Zap.1 hp;have hkR:=(hR k).1 (by rw[he];simp[hk]);obtain⟨ok,hok'⟩:∃o,ops[k]?=some o:=⟨ops[k],by simp[hkR.1]⟩;obtain⟨y,hy,_⟩:=hlo k ok hok';have hgy:lo.getD k default=y:=by simp[hy]
    rw[hgy];exact z6R hok ho hkR.1 (hlt k hk) hy hx fun hw=>by
     have h1:=z6C hcl ho hall hw;have hks:k<listed.size:=by rw[hsz];exact hkR.1
     have h2:=hkR.2;simp[hks]at h1 h2;rw[h1]at h2;cases h2) (by
    have hpp:pre.Pairwise (fun a b=>posOf ord a<posOf ord b):=(List.pairwise_append.1 (he▸hpw)).1;rw[List.pairwise_map];refine List.Pairwise.imp_of_mem (fun{i k} hi hk hlt=>?_) hpp;have hi':=(hR i).1 (by rw[he];simp[hi]);have hk':=(hR k).1 (by rw[he];simp[hk]);unfold z8a at hfa;have h1:=Zbo.1 (Zbo.1 hfa i (Zcr.2 hi'.1)) k (Zcr.2 hk'.1);simpa[hlt]using h1) hd
   rw[←List.map_append]at hp;have hl':q6n P n ops o (q5p (pre.map fun i=>lo.getD i default) x):=by
    rcases z0s (pre.map fun i=>lo.getD i default) x with hc|⟨c,hc⟩<;>rw[hc]
    ·exact hl
    ·exact hl.setC c
   refine j00 hσ ho hl' hp fun a' w' ⟨G',σ',h1,h2,h3⟩=>?_
   refine ih (listed.setIfInBounds i true) (pre++post) σ' G' a' w' (by simp[hsz]) (fun j oj hj hl e he hb=>?_) hpw' (fun k=>?_) ?_ h1 h2 (h3.trans hdef)
   ·by_cases hij:i=j
    ·subst hij;rw[ho]at hj;cases hj;exact getD_set_true (hall e he hb)
    ·rw[getD_set_ne false hij]at hl;exact getD_set_true (hcl j oj hj hl e he hb)
   ·rw[hmem k,hR k]
    by_cases hki:i=k
    ·subst hki;have:i<listed.size:=by rw[hsz];exact(Zan.1 ho).1
     simp[this]
    ·rw[getD_set_ne true hki];constructor
     ·exact fun h=>h.1
     ·exact fun h=>⟨h,fun e=>hki e.symm⟩
   ·have:R.length=(pre++post).length+1:=by rw[he];simp;omega
    omega
theorem q8b{ops:Array Oper}:∀{l:List Oper} {lo:List q0a},q1a P n ops l=some lo→∀(i:Nat) (o:Oper),l[i]?=some o→∃x,lo[i]?=some x∧q2e P n ops o=some x
 |[],_,_,i,o,h=>by simp at h
 |o::l,lo,hl,i,o',h=>by
  simp only[q1a]at hl;split at hl
  ·rename_i x r hx hr;cases hl;cases i with
   |zero=>simp at h;subst h;exact⟨x,rfl,hx⟩
   |succ i=>simp at h;simpa using q8b hr i o' h
  ·cases hl
theorem z5I{ops:Array Oper}{lo:List q0a}(h:q7g P n ops=some lo):P.follows .mixedOrders=true∧∃l ord,lo=z68 l ord∧q8P ops l ord=true∧z8a ops l ord=true∧∀(i:Nat) (o:Oper),ops[i]?=some o→∃x,l[i]?=some x∧q6n P n ops o x:=by
 unfold q7g at h;split at h
 ·rename_i hf;split at h
  ·rename_i l0 hl0;have h0:∀(i:Nat) (o:Oper),ops[i]?=some o→∃x,l0[i]?=some x∧q2e P n ops o=some x:=fun i o hi=>q8b hl0 i o (by simpa using hi)
   have setP_:∀(x:q0a) c,x.setP c=x∨x.setP c=x.setC c:=fun x c=>by
    unfold q0a.setP;split
    ·exact .inr rfl
    ·exact .inl rfl
   have hadd:∀{f:q0a→List (Nat×LV)} {l:List q0a} {ord:List Nat} {i:Nat} {x:q0a},l[i]?=some x→∃y,(z0l f ops ord l)[i]?=some y∧(y=x∨∃c,y=x.setC c):=fun{f l ord i x} hx=>by
    have hi:=(Zaa.1 hx).1;have hr:(List.range l.length)[i]?=some i:=by simp[hi]
    have hg:l.getD i default=x:=by rw[List.getD_eq_getElem?_getD,hx];rfl
    rw[z0l,Zam,hr,Zat,hg];refine⟨_,rfl,?_⟩;rcases setP_ x ((List.range ops.size).foldr (fun k acc=>if decide (posOf ord k<posOf ord i) && !q7d ops 8 i k then f (l.getD k default)++acc else acc) [])with e|e
    ·exact .inl e
    ·exact .inr ⟨_,e⟩
   have haddS:∀{l:List q0a} {ord:List Nat} {i:Nat} {x:q0a},l[i]?=some x→∃y,(z3G ops ord l)[i]?=some y∧(y=x∨∃c,y=x.setC c):=fun{l ord i x} hx=>by
    have hi:=(Zaa.1 hx).1;have hr:(List.range l.length)[i]?=some i:=by simp[hi]
    have hg:l.getD i default=x:=by rw[List.getD_eq_getElem?_getD,hx];rfl
    rw[z3G,Zam,hr,Zat,hg];refine⟨_,rfl,?_⟩;split
    ·exact .inr ⟨_,rfl⟩
    ·exact .inl rfl
   have fin1:∀{y x:q0a} {o:Oper},q2e P n ops o=some x→(y=x∨∃c,y=x.setC c)→q6n P n ops o y:=fun{y x o} h2 h=>by
    rcases h with rfl|⟨c,rfl⟩
    ·exact⟨_,[],h2,.inl (.inl rfl)⟩
    ·exact⟨_,c,h2,.inr (.inl rfl)⟩
   have fin2:∀{y x:q0a} {o:Oper},q2e P n ops o=some x→(y=x.copy∨∃c,y=x.copy.setC c)→q6n P n ops o y:=fun{y x o} h2 h=>by
    rcases h with rfl|⟨c,rfl⟩
    ·exact⟨_,[],h2,.inl (.inr rfl)⟩
    ·exact⟨_,c,h2,.inr (.inr rfl)⟩
   split at h
   ·rename_i hok;cases h;simp only[z0z,Zah]at hok;exact⟨hf,l0,_,rfl,hok.1,hok.2,fun i o hi=>let⟨x,h1,h2⟩:=h0 i o hi;⟨x,h1,fin1 h2 (.inl rfl)⟩⟩
   ·split at h
    ·rename_i hok;cases h;simp only[z0z,Zah]at hok;exact⟨hf,l0.map q0a.copy,_,rfl,hok.1,hok.2,fun i o hi=>let⟨x,h1,h2⟩:=h0 i o hi;⟨x.copy,by simp[h1],fin2 h2 (.inl rfl)⟩⟩
    ·split at h
     ·rename_i hok;cases h;simp only[z0z,Zah]at hok;exact⟨hf,_,_,rfl,hok.1,hok.2,fun i o hi=>let⟨x,h1,h2⟩:=h0 i o hi;let⟨y,h3,h4⟩:=hadd h1;⟨y,h3,fin1 h2 h4⟩⟩
     ·split at h
      ·rename_i hok;cases h;simp only[z0z,Zah]at hok;exact⟨hf,_,_,rfl,hok.1,hok.2,fun i o hi=>let⟨x,h1,h2⟩:=h0 i o hi;let⟨y,h3,h4⟩:=hadd (l:=l0.map q0a.copy) (i:=i) (x:=x.copy) (by simp[h1]);⟨y,h3,fin2 h2 h4⟩⟩
      ·split at h
       ·rename_i hok;cases h;simp only[z0z,Zah]at hok;exact⟨hf,_,_,rfl,hok.1,hok.2,fun i o hi=>let⟨x,h1,h2⟩:=h0 i o hi;let⟨y,h3,h4⟩:=haddS (l:=l0.map q0a.copy) (i:=i) (x:=x.copy) (by simp[h1]);⟨y,h3,fin2 h2 h4⟩⟩
       ·split at h
        ·rename_i hok;cases h;simp only[z0z,Zah]at hok;exact⟨hf,_,_,rfl,hok.1,hok.2,fun i o hi=>let⟨x,h1,h2⟩:=h0 i o hi;let⟨y,h3,h4⟩:=hadd (l:=l0.map q0a.copy) (i:=i) (x:=x.copy) (by simp[h1]);⟨y,h3,fin2 h2 h4⟩⟩
        ·cases h
  ·cases h
 ·cases h
theorem z9m(h:SR E n G σ a.tmps w){id:Nat}{ops:Array Oper}{lo:List q0a}(hl:q7g P n ops=some lo){K:St→Prop}{Q:Exit→Act→World→Prop}{d:List Deferred}(hd:a.defers=d)(hs:DOps P lo K σ)(hK:∀a' w',q9r E n K d a' w'→Q .normal a' w'):(Code.region id ops true).wp P Q a w:=by
 obtain⟨hf,l,ord,rfl,hok,hfa,hlo⟩:=z5I hl;obtain⟨o1,o2,o3⟩:=z9l hok;refine wp_region_any hf ?_;refine dany hlo hok hfa hK ops.size (Array.replicate ops.size false) ord σ G a _ (by simp) (fun j oj _ hl=>absurd hl (by rcases Zbq j ops.size with h|h<;>simp[h])) o1 (fun k=>?_) (by omega) (q9y hs) (h.drew) hd;rw[o2 k];constructor
 ·intro hk;simp[hk]
 ·exact fun h=>h.1
end Go.Av
/- Programs over abstract states, continued: regions, statements, loops, functions. -/
namespace Go.Av
variable {E:Entry} {n:Nat} {G:q0p} {σ σ':St} {a:Act} {w:World} {P:Program} [Inv P] [HasInv P E]
theorem q5R{K:St→Prop}{ops:Array Oper}{Q:Exit→Act→World→Prop}{d:List Deferred}(hK:∀a' w',q9r E n K d a' w'→Q .normal a' w'):∀{l:List Oper} {lo:List q0a} {σ:St} {a:Act} {w:World} {G:q0p},q1a P n ops l=some lo→q41 P lo K σ→SR E n G σ a.tmps w→a.defers=d→
  wpList P ops Q l a w
 |[],lo,σ,a,w,G,hl,h,hσ,hd=>by
  simp[q1a]at hl;subst hl;exact hK a w ⟨G,σ,h,hσ,hd⟩
 |o::l,lo,σ,a,w,G,hl,h,hσ,hd=>by
  simp only[q1a]at hl;split at hl
  ·rename_i x r hx hr;cases hl;have hx':=hx;unfold q2e at hx';split at hx'
   ·rename_i hdst;split at hx'
    ·rename_i op g hE hg;cases hx';have go:q5C P { dst:=o.dst,op:=op,guard:=g } (q41 P r K) σ→o.wp P a w (wpList P ops Q l) Q:=fun hs=>
      q6b hσ hx hs fun a' w' ⟨G',σ',h1,h2,h3⟩=>q5R hK hr h1 h2 (h3.trans hd)
     unfold wpList;simp only[q41]at h;cases hgd:o.guard with
     |none=>
      rw[hgd]at hg;simp[guardOf]at hg;subst hg;rw[if_pos (by simp[Region.wanted,hgd])];exact .inl (go h)
     |some jb=>
      obtain⟨j,b⟩:=jb;rw[hgd]at hg;simp only[guardOf]at hg;split at hg
      ·rename_i s hs;cases hg;rcases h with⟨t,ht,h1,h2⟩|⟨hu,h2⟩
       rotate_left
       ·have hy:yielded ops a.tmps j≠some b:=q6d hσ hs hu;rw[if_neg (by simp[Region.wanted,hgd,hy])];exact q5R hK hr h2 (hσ.putO hdst (undR q7p)) ((put_defers a _ _).trans hd)
       have hy:=q7s hσ hs ht (hσ.z4H ht)
       by_cases htb:t=b
       ·rw[if_pos (by simp[Region.wanted,hgd,hy,htb])];exact .inl (go (h1 htb))
       ·rw[if_neg (by simp[Region.wanted,hgd,hy,htb])];exact q5R hK hr (h2 htb) (hσ.putO hdst (undR q7p)) ((put_defers a _ _).trans hd)
      ·cases hg
    ·cases hx'
   ·cases hx'
  ·cases hl
theorem q6a{K:St→Prop}{ops:Array Oper}{Q:Exit→Act→World→Prop}{d:List Deferred}{rest:List Oper}(hK:∀a' w',q9r E n K d a' w'→wpList P ops Q rest a' w'):∀{l:List Oper} {lo:List q0a} {σ:St} {a:Act} {w:World} {G:q0p},q1a P n ops l=some lo→q41 P lo K σ→SR E n G σ a.tmps w→a.defers=d→
  wpList P ops Q (l++rest) a w
 |[],lo,σ,a,w,G,hl,h,hσ,hd=>by
  simp[q1a]at hl;subst hl;exact hK a w ⟨G,σ,h,hσ,hd⟩
 |o::l,lo,σ,a,w,G,hl,h,hσ,hd=>by
  simp only[q1a]at hl;split at hl
  ·rename_i x r hx hr;cases hl;have hx':=hx;unfold q2e at hx';split at hx'
   ·rename_i hdst;split at hx'
    ·rename_i op g hE hg;cases hx';have go:q5C P { dst:=o.dst,op:=op,guard:=g } (q41 P r K) σ→o.wp P a w (wpList P ops Q (l++rest)) Q:=fun hs=>
      q6b hσ hx hs fun a' w' ⟨G',σ',h1,h2,h3⟩=>q6a hK hr h1 h2 (h3.trans hd)
     rw[Zba];unfold wpList;simp only[q41]at h;cases hgd:o.guard with
     |none=>
      rw[hgd]at hg;simp[guardOf]at hg;subst hg;rw[if_pos (by simp[Region.wanted,hgd])];exact .inl (go h)
     |some jb=>
      obtain⟨j,b⟩:=jb;rw[hgd]at hg;simp only[guardOf]at hg;split at hg
      ·rename_i s hs;cases hg;rcases h with⟨t,ht,h1,h2⟩|⟨hu,h2⟩
       rotate_left
       ·have hy:yielded ops a.tmps j≠some b:=q6d hσ hs hu;rw[if_neg (by simp[Region.wanted,hgd,hy])];exact q6a hK hr h2 (hσ.putO hdst (undR q7p)) ((put_defers a _ _).trans hd)
       have hy:=q7s hσ hs ht (hσ.z4H ht)
       by_cases htb:t=b
       ·rw[if_pos (by simp[Region.wanted,hgd,hy,htb])];exact .inl (go (h1 htb))
       ·rw[if_neg (by simp[Region.wanted,hgd,hy,htb])];exact q6a hK hr (h2 htb) (hσ.putO hdst (undR q7p)) ((put_defers a _ _).trans hd)
      ·cases hg
    ·cases hx'
   ·cases hx'
  ·cases hl
theorem z1D{ops:Array Oper}:∀{lo1:List q0a} {l:List Oper} {lo2:List q0a},q1a P n ops l=some (lo1++lo2)→∃l1 l2,l=l1++l2∧q1a P n ops l1=some lo1∧q1a P n ops l2=some lo2
 |[],l,lo2,h=>⟨[],l,rfl,rfl,h⟩
 |x::lo1,[],lo2,h=>by simp[q1a]at h
 |x::lo1,o::l,lo2,h=>by
  simp only[q1a,Zba]at h;split at h
  ·rename_i x' r hx hr;obtain⟨rfl,rfl⟩:=List.cons.inj (Option.some.inj h);obtain⟨l1,l2,rfl,h1,h2⟩:=z1D hr;exact⟨o::l1,l2,rfl,by simp only[q1a,hx,h1],h2⟩
  ·cases h
theorem z2V{K:St→Prop}{ops:Array Oper}{Q:Exit→Act→World→Prop}{d:List Deferred}(hK:∀a' w',q9r E n K d a' w'→Q .normal a' w'){last:List q0a}:∀{al:List (List q0a×q0a)} {l:List Oper} {σ:St} {a:Act} {w:World} {G:q0p},q1a P n ops l=some (altL al last)→AOps P last K al σ→SR E n G σ a.tmps w→a.defers=d→
  wpList P ops Q l a w
 |[],l,σ,a,w,G,hl,h,hσ,hd=>q5R hK hl h hσ hd
 |(l1,o)::r,l,σ,a,w,G,hl,h,hσ,hd=>by
  obtain⟨m1,m2,rfl,e1,e2⟩:=z1D (lo1:=l1) (lo2:=o::altL r last) hl;refine q6a (K:=q14 P o (AOps P last K r)) (fun a' w' ⟨G',σ',h1,h2,h3⟩=>?_) e1 h hσ hd;cases m2 with
  |nil=>simp[q1a]at e2
  |cons x m2=>
   simp only[q1a]at e2;split at e2
   ·rename_i x' r' hx hr;obtain⟨rfl,rfl⟩:=List.cons.inj (Option.some.inj e2);have hx':=hx;unfold q2e at hx';split at hx'
    ·rename_i hdst;split at hx'
     ·rename_i op g hE hg;cases hx';obtain⟨hgn,hs⟩:=h1;simp only at hgn;subst hgn;have hgd:x.guard=none:=by
       cases hgd:x.guard with
       |none=>rfl
       |some jb=>
        obtain⟨j,b⟩:=jb;rw[hgd]at hg;simp only[guardOf]at hg;split at hg<;>cases hg
      unfold wpList;rw[if_pos (by simp[Region.wanted,hgd])];exact .inl (((hs E n G' a' w' x hE rfl hdst h2).mono fun v w2 ⟨G2,σ2,q1,q2⟩=>z2V hK hr q1 q2 ((put_defers a' _ _).trans h3)).wp)
     ·cases hx'
    ·cases hx'
   ·cases e2
def QK(E:Entry)(n:Nat)(d:List Deferred)(K:Exit→St→Prop):Exit→Act→World→Prop:=fun e a w=>q9r E n (K e) d a w
def LInv(P:Program)(n:Nat)(c:Code):q0l→Prop
 |.skip=>c=.skip
 |.reg l=>∃id ops,c=.region id ops false∧q1a P n ops ops.toList=some l
 |.dreg l=>∃id ops,c=.region id ops true∧q7g P n ops=some l
 |.fam l deps=>∃id ops,c=.region id ops true∧P.follows .mixedOrders=true∧q1a P n ops ops.toList=some l∧deps=z0r ops∧j1f ops=true
 |.seq x y=>∃cx cy,c=.seq cx cy∧q4b P n cx=some x∧q4b P n cy=some y
 |.cond x y z=>∃cc cy cz,c=.cond cc cy cz∧q1h cc=some x∧q4b P n cy=some y∧q4b P n cz=some z
 |.block id x=>∃cx,c=.block id cx∧q4b P n cx=some x
 |.loop x=>∃cx,c=.loop cx∧q4b P n cx=some x
 |.exit id=>c=.exit id
 |.ret=>c=.ret
 |.dead _ _=>False
 |.alt _ _=>False
 |.join _=>False
 |.bad=>True
theorem q2D{c:Code}{L:q0l}(h:q4b P n c=some L):LInv P n c L:=by
 cases c<;>simp only[q4b]at h
 ·cases h;rfl
 ·rename_i id ops draw;split at h
  ·rename_i hd;subst hd;split at h
   ·cases h;exact⟨id,ops,rfl,by assumption⟩
   ·unfold j1I at h;split at h
    ·split at h
     ·rename_i hb;cases h;simp only[Zah]at hb;exact⟨id,ops,rfl,hb.1,by assumption,rfl,hb.2⟩
     ·cases h;trivial
    ·cases h;trivial
  ·rename_i hd;have:draw=false:=by simpa using hd
   subst this;split at h
   ·cases h;exact⟨id,ops,rfl,by assumption⟩
   ·cases h;trivial
 ·split at h
  ·cases h;exact⟨_,_,rfl,by assumption,by assumption⟩
  ·cases h
 ·split at h
  ·cases h;exact⟨_,_,_,rfl,by assumption,by assumption,by assumption⟩
  ·cases h
 ·obtain⟨l,h1,rfl⟩:=map_none h;exact⟨_,rfl,h1⟩
 ·obtain⟨l,h1,rfl⟩:=map_none h;exact⟨_,rfl,h1⟩
 ·cases h;trivial
 ·cases h;rfl
 ·cases h;trivial
 ·cases h;trivial
 ·cases h;trivial
 ·cases h;rfl
 ·cases h;trivial
theorem j1m(h:SR E n G σ a.tmps w){ops:Array Oper}{i:Nat}{o:Oper}(hi:ops[i]?=some o){x:q0a}(hy:q2e P n ops o=some x){K:St→Prop}(hs:LOps P [x] K σ∨q14 P x K σ){next:Act→World→Prop}{Q:Exit→Act→World→Prop}
  (hK:∀a' w',q9r E n K a.defers a' w'→next a' w'):wpOp P ops Q i next a w:=by
 obtain⟨hdst,hxd,hE,hgd⟩:=q29 hy;have hl:q6n P n ops o x:=⟨x,[],hy,.inl (.inl rfl)⟩;unfold wpOp;simp only[hi];rcases hs with hs|⟨hg,hs⟩
 ·have key:(x.guard=none→o.wp P a w next Q)→(∀s b t,x.guard=some (s,b)→σ.get s=.d (.bool t)→(t=b→o.wp P a w next Q)∧(t≠b→next (a.put o.dst undef) w))→(∀s b,x.guard=some (s,b)→(∃t,σ.get s=.d (.bool t))∨(σ.get s=und∧next (a.put o.dst undef) w))→
      if Region.wanted o (yielded ops a.tmps)then o.wp P a w next Q∨(o.asks P a w∧LetsOut Q)else next (a.put o.dst undef) w:=fun k1 k2 k3=>by
   cases hg:o.guard with
   |none=>
    rw[hg]at hgd;simp[guardOf]at hgd;rw[if_pos (by simp[Region.wanted,hg])];exact .inl (k1 hgd.symm)
   |some jb=>
    obtain⟨j,b⟩:=jb;rw[hg]at hgd;simp only[guardOf]at hgd;split at hgd
    ·rename_i s hs';simp only[Zas]at hgd;rcases k3 s b hgd.symm with⟨t,ht⟩|⟨hu,hnx⟩
     rotate_left
     ·have hy:yielded ops a.tmps j≠some b:=q6d h hs' hu;rw[if_neg (by simp[Region.wanted,hg,hy])];exact hnx
     have hy:=q7s h hs' ht (h.z4H ht);obtain⟨m1,m2⟩:=k2 s b t hgd.symm ht
     by_cases htb:t=b
     ·rw[if_pos (by simp[Region.wanted,hg,hy,htb])];exact .inl (m1 htb)
     ·rw[if_neg (by simp[Region.wanted,hg,hy,htb])];exact m2 htb
    ·cases hgd
  have skipped:K (putO σ x.dst und)→next (a.put o.dst undef) w:=fun hk=>
   hK _ _ ⟨G,_,hk,hxd▸h.putO hdst (undR q7p),put_defers a _ _⟩
  simp only[LOps]at hs;refine key (fun hg=>?_) (fun s b t hg ht=>?_) (fun s b hg=>?_)<;>rw[hg]at hs
  ·exact q3c h hl hs hK
  ·rcases hs with⟨t',h1,h2,h3⟩|⟨h1,_⟩
   ·rw[ht]at h1;cases h1;exact⟨fun e=>q3c h hl (h2 e) hK,fun e=>skipped (h3 e)⟩
   ·rw[ht]at h1;cases h1
  ·rcases hs with⟨t',h1,_⟩|⟨h1,h2⟩
   ·exact .inl ⟨t',h1⟩
   ·exact .inr ⟨h1,skipped h2⟩
 ·have hgn:o.guard=none:=by
   rw[hg]at hgd;cases hgo:o.guard with
   |none=>rfl
   |some jb=>
    obtain⟨j,b⟩:=jb;rw[hgo]at hgd;simp only[guardOf]at hgd;split at hgd<;>cases hgd
  rw[if_pos (by simp[Region.wanted,hgn])];rw[hxd]at hs;exact .inl (((hs E n G a w o hE rfl hdst h).mono fun v w2 ⟨G2,σ2,q1,q2⟩=>hK _ _ ⟨G2,σ2,q1,q2,put_defers a _ _⟩).wp)
theorem z3a{ops:Array Oper}{i:Nat}{o:Oper}(h:ops[i]?=some o):(z0r ops).getD i []=(o.after.toList.filter fun e=>Region.binds .any e).map (·.on):=by
 have h2:ops.toList[i]?=some o:=by simpa using h
 rw[z0r,List.getD_eq_getElem?_getD,Zam,h2];rfl
theorem dfam{ops:Array Oper}{lo:List q0a}(hlo:∀(i:Nat) (o:Oper),ops[i]?=some o→∃x,lo[i]?=some x∧q2e P n ops o=some x)(hll:lo.length=ops.size)(hok:j1f ops=true){I:(Nat→Bool)→St→Prop}{K:St→Prop}{Q:Exit→Act→World→Prop}{d:List Deferred}
  (hstep:∀(done:Nat→Bool) (τ:St) (i:Nat) (x:q0a),I done τ→lo[i]?=some x→done i=false→(∀j∈(z0r ops).getD i [],done j=true)→∃τ',GhoB E.b0 τ τ'∧(LOps P [x] (I fun k=>k==i || done k) τ'∨q14 P x (I fun k=>k==i || done k) τ'))
  (hfin:∀(done:Nat→Bool) (τ:St),(∀i,i<lo.length→done i=true)→I done τ→∃τ',GhoB E.b0 τ τ'∧K τ') (hK:∀a' w',q9r E n K d a' w'→Q .normal a' w'):
  ∀(f:Nat) (listed:Array Bool) (τ:St) (G:q0p) (a:Act) (w:World),listed.size=ops.size→((List.range ops.size).filter fun k => !listed.getD k false).length≤f→
   I (fun k=>listed.getD k false) τ→SR E n G τ a.tmps w→a.defers=d→wpAny P .any ops Q f listed a w:=by
 have none_left:∀{listed:Array Bool},listed.size=ops.size→Region.ready .any ops listed=[]→∀i,i<ops.size→listed.getD i false=true:=fun{listed} hsz hr=>by
  intro i;induction i using Nat.strongRecOn with
  |_ i ih=>
   intro hi;cases hb:listed.getD i false with
   |true=>rfl
   |false=>
    exfalso
    obtain⟨o,ho⟩:∃o,ops[i]?=some o:=⟨ops[i],by simp[hi]⟩;have hm:i∈Region.ready .any ops listed:=mem_ready.2 ⟨by
     have hlt:i<listed.size:=by rw[hsz];exact hi
     simp[hlt]at hb ⊢;exact hb,o,ho,fun e he hbd=>by
     have h1:=Zbo.1 hok i (Zcr.2 hi);rw[z3a ho]at h1;have h2:=Zbo.1 h1 e.on (Zap.2 ⟨e,Zcg.2 ⟨by simpa using he,hbd⟩,rfl⟩);have h3:e.on<i:=by simpa using h2
     exact ih e.on h3 (by omega)⟩
    rw[hr]at hm;cases hm
 have fin:∀{listed:Array Bool} {τ:St} {G:q0p} {a:Act} {w:World},listed.size=ops.size→Region.ready .any ops listed=[]→I (fun k=>listed.getD k false) τ→SR E n G τ a.tmps w→a.defers=d→Q .normal a w:=fun hsz hr hI h3 h4=>by
  obtain⟨τ',g,hk⟩:=hfin _ _ (fun i hi=>none_left hsz hr i (by omega)) hI;obtain⟨G2,h5⟩:=g _ _ _ _ _ rfl h3;exact hK _ _ ⟨G2,τ',hk,h5,h4⟩
 intro f;induction f with
 |zero=>
  intro listed τ G a w hsz hf hI hσ hdef;have hnil:(List.range ops.size).filter (fun k => !listed.getD k false)=[]:=Zda.1 (by omega);have hr:Region.ready .any ops listed=[]:=by
   apply List.eq_nil_iff_forall_not_mem.2;intro i hi;obtain⟨h1,o,h2,_⟩:=mem_ready.1 hi;have hlt:=(Zan.1 h2).1;have:i∈(List.range ops.size).filter (fun k => !listed.getD k false):=Zcg.2 ⟨Zcr.2 hlt,by
    have hlt':i<listed.size:=by rw[hsz];exact hlt
    simp[hlt']at h1 ⊢;exact h1⟩
   rw[hnil]at this;cases this
  exact⟨hr,fin hsz hr hI hσ hdef⟩
 |succ f ih=>
  intro listed τ G a w hsz hf hI hσ hdef;refine⟨fun h0=>fin hsz h0 hI hσ hdef,fun i hi=>?_⟩;obtain⟨hun,o,ho,hall⟩:=mem_ready.1 hi;have hlt:=(Zan.1 ho).1;have hlt':i<listed.size:=by rw[hsz];exact hlt
  have hdi:listed.getD i false=false:=by simp[hlt']at hun ⊢;exact hun
  obtain⟨x,hx,hl⟩:=hlo i o ho;obtain⟨τ',g,hs'⟩:=hstep _ τ i x hI hx hdi fun j hj=>by
   rw[z3a ho]at hj;obtain⟨e,he,rfl⟩:=Zap.1 hj;obtain⟨he,hb⟩:=Zcg.1 he;exact hall e (by simpa using he) hb
  obtain⟨G1,hσ⟩:=g _ _ _ _ _ rfl hσ;refine j1m hσ ho hl hs' fun a' w' ⟨G',σ',h1,h2,h3⟩=>?_
  ·refine ih (listed.setIfInBounds i true) σ' G' a' w' (by simp[hsz]) ?_ ?_ h2 (h3.trans hdef)
   ·have hlen:((List.range ops.size).filter fun k => !(listed.setIfInBounds i true).getD k false).length+1≤((List.range ops.size).filter fun k => !listed.getD k false).length:=by
     have hsub:((List.range ops.size).filter fun k => !(listed.setIfInBounds i true).getD k false)=(((List.range ops.size).filter fun k => !listed.getD k false).filter fun k=>k != i):=by
      rw[List.filter_filter];refine List.filter_congr fun k hk=>?_
      by_cases hki:i=k
      ·subst hki;simp[hlt']
      ·rw[getD_set_ne false hki];have:(k != i)=true:=by simpa using fun e=>hki e.symm
       rw[this,Bool.true_and]
     rw[hsub];have hmem:i∈(List.range ops.size).filter fun k => !listed.getD k false:=Zcg.2 ⟨Zcr.2 hlt,by rw[hdi];rfl⟩
     have h5:=List.length_filter_lt_length_iff_exists (p:=fun k=>k != i) (l:=(List.range ops.size).filter fun k => !listed.getD k false);exact h5.2 ⟨i,hmem,by simp⟩
    omega
   ·have e:(fun k=>k==i || listed.getD k false)=fun k=>(listed.setIfInBounds i true).getD k false:=by
     funext k
     by_cases hki:i=k
     ·subst hki;simp[hlt']
     ·rw[getD_set_ne false hki];have:(k==i)=false:=by simpa using fun e=>hki e.symm
      rw[this,Bool.false_or]
    rw[←e];exact h1
theorem z1E{ops:Array Oper}:∀{l:List Oper} {lo:List q0a},q1a P n ops l=some lo→lo.length=l.length
 |[],lo,h=>by simp only[q1a,Zas]at h;subst h;rfl
 |o::l,lo,h=>by
  simp only[q1a]at h;split at h
  ·rename_i x r hx hr;cases h;simp[z1E hr]
  ·cases h
theorem j1g(h:SR E n G σ a.tmps w){id:Nat}{ops:Array Oper}{lo:List q0a}(hf:P.follows .mixedOrders=true)(hl:q1a P n ops ops.toList=some lo)(hok:j1f ops=true){K:St→Prop}{Q:Exit→Act→World→Prop}{d:List Deferred}(hd:a.defers=d)
  (hs:FamW P lo (z0r ops) K σ) (hK:∀a' w',q9r E n K d a' w'→Q .normal a' w'):(Code.region id ops true).wp P Q a w:=by
 obtain⟨I,⟨τ0,g0,h1⟩,h2,h3⟩:=hs E.b0;obtain⟨G0,h⟩:=g0 _ _ _ _ _ rfl h;refine wp_region_any hf ?_;refine dfam (fun i o hi=>q8b hl i o (by simpa using hi)) (by rw[z1E hl];simp) hok h2 h3 hK ops.size (Array.replicate ops.size false) τ0 G0 a _ (by simp) ?_ ?_ (h.drew) hd
 ·exact Zbw (List.length_filter_le _ _) (by simp)
 ·have e:(fun k=>(Array.replicate ops.size false).getD k false)=fun _=>false:=by
   funext k
   rcases Zbq k ops.size with hk|hk<;>simp[hk]
  rw[e];exact h1
theorem z4Y{α:Type}:∀{ds:List Nat} {l:List (Nat×α)} {s:Nat} {x:α},aget (j25 l ds) s=some x→aget l s=some x
 |[],_,_,_,h=>h
 |d::ds,l,s,x,h=>by
  have:=z4Y (ds:=ds) h;rw[q0J]at this;split at this
  ·cases this
  ·exact this
theorem j5t(σ:St)(ds:List Nat):Wk (σ.dead ds) σ:=⟨fun s x h=>z4Y h,fun r o h=>by cases r<;>exact h⟩
theorem z4l{d:List Deferred}:∀(L:q0l) {c:Code} {K:Exit→St→Prop} {σ:St} {G:q0p} {a:Act} {w:World},q4b P n c=some L.strip→LW P L K σ→SR E n G σ a.tmps w→a.defers=d→c.wp P (QK E n d K) a w:=by
 intro L;induction L with
 |skip=>
  intro c K σ G a w hl h hσ hd;have hi:c=.skip:=q2D hl;subst hi;exact wp_skip ⟨G,σ,h,hσ,hd⟩
 |reg l=>
  intro c K σ G a w hl h hσ hd;obtain⟨id,ops,rfl,hl'⟩:∃id ops,c=.region id ops false∧q1a P n ops ops.toList=some l:=q2D hl;refine wp_region_list ?_;exact q5R (K:=K .normal) (fun a' w' h=>h) hl' h hσ hd
 |dreg l=>
  intro c K σ G a w hl h hσ hd;obtain⟨id,ops,rfl,hl'⟩:∃id ops,c=.region id ops true∧q7g P n ops=some l:=q2D hl;exact z9m (K:=K .normal) hσ hl' hd h (fun a' w' h=>h)
 |fam l deps=>
  intro c K σ G a w hl h hσ hd;obtain⟨id,ops,rfl,hf,hl',rfl,hok⟩:∃id ops,c=.region id ops true∧P.follows .mixedOrders=true∧q1a P n ops ops.toList=some l∧deps=z0r ops∧j1f ops=true:=q2D hl;exact j1g (K:=K .normal) hσ hf hl' hok hd h (fun a' w' h=>h)
 |dead ds x ih=>
  intro c K σ G a w hl h hσ hd;refine wp_mono (ih (K:=j5s ds K) hl h hσ hd) fun e a' w' ⟨G',σ',h1,h2,h3⟩=>?_
  cases e with
  |normal=>exact⟨G',σ'.dead ds,h1,h2.wk (j5t σ' ds),h3⟩
  |_=>exact⟨G',σ',h1,h2,h3⟩
 |alt al last=>
  intro c K σ G a w hl h hσ hd;obtain⟨id,ops,rfl,hl'⟩:∃id ops,c=.region id ops false∧q1a P n ops ops.toList=some (altL al last):=q2D hl;refine wp_region_list ?_;exact z2V (K:=K .normal) (fun a' w' h=>h) hl' h hσ hd
 |join x ih=>
  intro c K σ G a w hl h hσ hd;refine wp_mono (ih (K:=j6L K) hl h hσ hd) fun e a' w' ⟨G',σ',h1,h2,h3⟩=>?_
  cases e with
  |normal=>
   obtain⟨τ,g,hk⟩:=h1;obtain⟨G2,h4⟩:=g E n G' _ _ h2;exact⟨G2,τ,hk,h4,h3⟩
  |_=>exact⟨G',σ',h1,h2,h3⟩
 |seq x y ihx ihy=>
  intro c K σ G a w hl h hσ hd;obtain⟨cx,cy,rfl,hx,hy⟩:∃cx cy,c=.seq cx cy∧q4b P n cx=some x.strip∧q4b P n cy=some y.strip:=q2D hl;refine wp_seq (wp_mono (ihx hx h hσ hd) fun e a' w' ⟨G',σ',h1,h2,h3⟩=>?_);cases e with
  |normal=>exact ihy hy h1 h2 h3
  |_=>exact⟨G',σ',h1,h2,h3⟩
 |cond x y z ihy ihz=>
  intro c K σ G a w hl h hσ hd;obtain⟨cc,cy,cz,rfl,hx,hy,hz⟩:∃cc cy cz,c=.cond cc cy cz∧q1h cc=some x∧q4b P n cy=some y.strip∧q4b P n cz=some z.strip:=q2D hl;obtain⟨t,ht,h1,h2⟩:=h;have hc:=hσ.ev hx;rw[ht]at hc;have hc:=hc.dinv;have hv:a.eval cc=.bool t:=by
   generalize a.eval cc=v at hc;cases hc;rfl
  refine wp_cond hv ?_;cases t
  ·exact ihz hz (h2 rfl) hσ hd
  ·exact ihy hy (h1 rfl) hσ hd
 |block id x ih=>
  intro c K σ G a w hl h hσ hd;obtain⟨cx,rfl,hx⟩:∃cx,c=.block id cx∧q4b P n cx=some x.strip:=q2D hl;refine wp_block (wp_mono (ih hx h hσ hd) fun e a' w' ⟨G',σ',h1,h2,h3⟩=>?_);cases e with
  |exit id'=>
   simp only[z7W]at h1;simp only[Exit.inBlock];split at h1
   ·rename_i e;rw[if_pos e];exact⟨G',σ',h1,h2,h3⟩
   ·rename_i e;rw[if_neg e];exact⟨G',σ',h1,h2,h3⟩
  |_=>exact⟨G',σ',h1,h2,h3⟩
 |loop x ih=>
  intro c K σ G a w hl h hσ hd;obtain⟨cx,rfl,hx⟩:∃cx,c=.loop cx∧q4b P n cx=some x.strip:=q2D hl;obtain⟨α,r,I,hwf,⟨m0,τ0,hw0,hI0⟩,hround⟩:=h;intro b k cs;have key:∀m (τ:St) (G:q0p) (a:Act) (w:World),I m τ→SR E n G τ a.tmps w→a.defers=d→
    ∃e a' w',QK E n d K e a' w'∧Arrives P (lone (b.at a (.code cx::.inLoop cx::k)) cs w) b k cs e a' w':=by
   intro m;induction m using hwf.induction with
   |_ m ihm=>
    intro τ G a w hI hσ hd;obtain⟨e,a₁,w₁,hq,harr⟩:=ih hx (hround m τ hI) hσ hd b (.inLoop cx::k) cs;obtain⟨G',σ',h1,h2,h3⟩:=hq;cases e with
    |normal=>
     obtain⟨m',τ'',hw,hI',hlt⟩:=h1;obtain⟨e₂,a₂,w₂,hq₂,harr₂⟩:=ihm m' hlt τ'' G' a₁ w₁ hI' (h2.wk hw) h3;exact⟨e₂,a₂,w₂,hq₂,.of_steps (Steps.trans harr (.one step_inLoop)) harr₂⟩
    |exit id=>exact⟨_,a₁,w₁,⟨G',σ',h1,h2,h3⟩,.pass (x:=.inLoop cx) rfl (fun _ _=>.inl (by simp)) harr⟩
    |goto l=>exact⟨_,a₁,w₁,⟨G',σ',h1,h2,h3⟩,.pass (x:=.inLoop cx) rfl (fun _ _=>.inl (by simp)) harr⟩
    |ret=>exact⟨_,a₁,w₁,⟨G',σ',h1,h2,h3⟩,.pass (x:=.inLoop cx) rfl (fun _ _=>.inl (by simp)) harr⟩
    |panic ch=>exact⟨_,a₁,w₁,⟨G',σ',h1,h2,h3⟩,.pass (x:=.inLoop cx) rfl (fun _ _=>.inl (by simp)) harr⟩
    |outgrown=>exact⟨_,a₁,w₁,⟨G',σ',h1,h2,h3⟩,.pass (x:=.inLoop cx) rfl (fun _ _=>.inl (by simp)) harr⟩
  obtain⟨e,a',w',hq,harr⟩:=key m0 τ0 G a w hI0 (hσ.wk hw0) hd;exact⟨e,a',w',hq,.of_steps (.one step_loop) harr⟩
 |bad=>intro c K σ G a w hl h hσ hd;exact h.elim
 |exit id=>
  intro c K σ G a w hl h hσ hd;have hi:c=.exit id:=q2D hl;subst hi;exact wp_exit ⟨G,σ,h,hσ,hd⟩
 |ret=>
  intro c K σ G a w hl h hσ hd;have hi:c=.ret:=q2D hl;subst hi;exact wp_ret ⟨G,σ,h,hσ,hd⟩
/-! ### Functions -/
inductive LRes where
 |tmp (t:Nat)
 |cell (a:Nat) (agg:Bool) (m:Nat)
 deriving Inhabited
def q02(P:Program):List ResultVar→Option (List LRes)
 |[]=>some []
 |.tmp t::r=>(q02 P r).map (.tmp t::·)
 |.cell a t::r=>match P.underlying t,Program.sz P t,q02 P r with
  |some d,some m,some l=>some (.cell a (aggT d) m::l)
  |_,_,_=>none
def resV(σ:St):LRes→Option D
 |.tmp t=>(σ.get t).rd
 |.cell a agg m=>match fLd σ agg m (σ.get a)with
  |some z=>z.rd
  |none=>none
def resL(σ:St):List LRes→Option (List D)
 |[]=>some []
 |x::r=>match resV σ x,resL σ r with
  |some y,some l=>some (y::l)
  |_,_=>none
def j6O:List D→Res
 |[x]=>.one x
 |l=>.tup l
def resS(σ:St)(l:List LRes):Option Res:=(resL σ l).map j6O
def retK(l:List LRes)(Post:Res→Prop):Exit→St→Prop
 |.normal,σ=>∃r,resS σ l=some r∧Post r
 |.ret,σ=>∃r,resS σ l=some r∧Post r
 |_,_=>False
def q25(a:Act):ResultVar→Sem Value
 |.tmp t=>pure (a.tmps.getD t undef)
 |.cell x t=>do loadVar t (←asAddr (a.tmps.getD x undef))
theorem z4x(h:SR E n G σ a.tmps w):∀{rs:List ResultVar} {l:List LRes} {ds:List D},q02 P rs=some l→resL σ l=some ds→
  ∃vs:List Value,(rs.mapM (q25 a)).run P w=.ok vs w∧vs.length=ds.length∧∀(i:Nat) (y:D),ds[i]?=some y→RD G.f w y (vs.getD i undef)
 |[],l,ds,hl,hd=>by
  simp[q02]at hl;subst hl;simp[resL]at hd;subst hd;exact⟨[],by simp,rfl,fun _ _ h=>by simp at h⟩
 |r::rs,l,ds,hl,hd=>by
  have tail:∀{l':List LRes} {x:LRes},q02 P rs=some l'→l=x::l'→(∀y,resV σ x=some y→∃v,(q25 a r).run P w=.ok v w∧RD G.f w y v)→
    ∃vs:List Value,((r::rs).mapM (q25 a)).run P w=.ok vs w∧vs.length=ds.length∧∀(i:Nat) (y:D),ds[i]?=some y→RD G.f w y (vs.getD i undef):=by
   intro l' x hl' he hx;subst he;simp only[resL]at hd;split at hd
   ·rename_i y ds' hy hds;cases hd;obtain⟨v,h1,h2⟩:=hx y hy;obtain⟨vs,h3,h4,h5⟩:=z4x h hl' hds;refine⟨v::vs,?_,by simp[h4],fun i z hz=>?_⟩
    ·simp only[List.mapM_cons,Sem.run_bind,h1,Result.andThen_ok,h3,Sem.run_pure]
    ·cases i with
     |zero=>simp at hz;subst hz;simpa using h2
     |succ i=>simp at hz;simpa using h5 i z hz
   ·cases hd
  cases r with
  |tmp t=>
   simp only[q02]at hl;obtain⟨l',h1,h2⟩:=map_none hl;exact tail h1 h2.symm (fun y hy=>⟨_,rfl,(h.get t).rd hy⟩)
  |cell x t=>
   simp only[q02]at hl;split at hl
   ·rename_i d m l' hd' hm hl';cases hl;refine tail hl' rfl (fun y hy=>?_);simp only[resV]at hy;split at hy
    ·rename_i z hz;have hx:=h.get x;obtain⟨v,h1,h2⟩:=z6Y h hd' hm hx hz;refine⟨v,?_,h2.rd hy⟩;simp only[Act.eval]at h1 hx;generalize hu0:a.tmps.getD x undef=u at h1 hx
     -- the slot holds an address
     have hu:∃ad,u=.pointer (some ad):=by
      unfold fLd at hz;split at hz
      ·rename_i r o he;rw[he]at hx;cases hx;exact⟨_,rfl⟩
      ·rename_i cs he;rw[he]at hx;obtain⟨b,o,rfl⟩:=hx.q3n;exact⟨_,rfl⟩
      ·rename_i cs he;rw[he]at hx;have hx:=hx.z7p;obtain⟨b,o,rfl⟩:=hx.q3n;exact⟨_,rfl⟩
      ·cases hz
     obtain⟨ad,rfl⟩:=hu;simp[Instr.loadAt,Instr.sureAddr]at h1;simp only[q25,hu0,asAddr,Sem.run_bind,Sem.run_pure,Result.andThen_ok];exact h1
    ·cases hy
   ·cases hl
theorem z7x(h:SR E n G σ a.tmps w){fn:Func}{l:List LRes}{r:Res}(hl:q02 P fn.results.toList=some l)(hr:resS σ l=some r):∃v,(results fn a.tmps).run P w=.ok v w∧RRes G.f w r v:=by
 unfold resS at hr;obtain⟨ds,h1,rfl⟩:=map_none hr;obtain⟨vs,h2,h3,h4⟩:=z4x h hl h1;have h5:(fn.results.mapM (q25 a)).run P w=.ok vs.toArray w:=by
  rw[Array.mapM_eq_mapM_toList];simp only[Sem.run_map,h2,Result.andThen_ok]
 have h6:(results fn a.tmps).run P w=.ok (if h:vs.toArray.size=1 then vs.toArray[0]else .tuple vs.toArray) w:=by
  unfold results;simp only[Sem.run_bind]
  erw[h5]
  rfl
 refine⟨_,h6,?_⟩;match ds,vs,h3,h4 with
 |[x],[v],_,h4=>
  show RD G.f w x v
  simpa using h4 0 x rfl
 |[],[],_,_=>exact⟨#[],rfl,rfl,fun i y hy=>by simp at hy⟩
 |x::y::ds,u::v::vs,h3,h4=>
  refine⟨(u::v::vs).toArray,by simp,by simpa using h3,fun i z hz=>?_⟩;have:=h4 i z hz;simpa[List.getD_eq_getElem?_getD]using this
def q79:Nat→List D→List (Nat×AV)
 |_,[]=>[]
 |k,x::r=>(k,.d x)::q79 (k+1) r
theorem z1w:∀(k:Nat) (l:List D) (s:Nat) (x:AV),aget (q79 k l) s=some x→∃y,l[s-k]?=some y∧x=.d y∧k≤s
 |_,[],_,_,h=>by simp[q79,aget]at h
 |k,y::l,s,x,h=>by
  simp only[q79,aget]at h;split at h
  ·rename_i e;subst e;cases h;exact⟨y,by simp,rfl,Zai _⟩
  ·rename_i e;obtain⟨z,h1,h2,h3⟩:=z1w (k+1) l s x h;refine⟨z,?_,h2,by omega⟩;have:s-k=(s-(k+1))+1:=by omega
   rw[this];simpa using h1
theorem j4c{f:FuncId}{fn:Func}{c:Code}{L:q0l}{l:List LRes}{args:List D}{Post:Res→Prop}(hf:P.funcs[f]?=some fn)(hb:fn.body=some c)(hL:q4b P fn.ntmps c=some L.strip)(hl:q02 P fn.results.toList=some l)(hn:args.length≤fn.ntmps)
  (h:LW P L (retK l Post) ⟨q79 0 args,[],[]⟩):q0y P f args Post:=by
 intro f0 w vs hI ht hsz hrd;refine calls_of_wp hf hb ?_;let E:Entry:={ w0:=w,f0:=f0,M:=fun _=>False,b0:=fun _=>0 }
 haveI:HasInv P E:=⟨hI,fun _ _ h=>h⟩
 let G0:q0p:={ f:=f0,b:=fun _=>0,lam:=fun _=>none }
 have h0:SR E fn.ntmps G0 ⟨q79 0 args,[],[]⟩ (vs++Array.replicate (fn.ntmps-vs.size) undef) w:=by
  have hno:∀r o,St.obj ⟨q79 0 args,[],[]⟩ r=some o→False:=fun r o ho=>by cases r<;>simp[St.obj,aget]at ho
  refine{ size:=by simp;omega,slot:=fun s x hx=>?_,obj:=fun r o ho=>(hno r o ho).elim,objf:=fun r o ho=>(hno r o ho).elim,inj:=fun r _ o _ ho=>(hno r o ho).elim,
          lam:=fun _ _ _ _ h=>(by cases h),lamObj:=fun _ _ _ _ _ h=>(by cases h),lamInj:=fun _ _ _ _ _ _ _ h=>(by cases h),
          newObj:=fun r o ho=>(hno r o ho).elim,newLam:=fun _ _ _ _ _ h=>(by cases h),ext:=Ext.refl _ _,fr:=fun _ _ _=>⟨rfl,rfl⟩,top:=ht,
          ext0:=fun _ _=>rfl,own0:=fun r cs x s ho=>(hno _ _ ho).elim,os:=rfl,tape:=rfl,output:=rfl }
  obtain⟨y,h1,rfl,_⟩:=z1w 0 args s x hx;simp at h1;have hs:s<vs.size:=by rw[hsz];exact(Zaa.1 h1).1
  have h2:=hrd s y h1;have:(vs++Array.replicate (fn.ntmps-vs.size) undef).getD s undef=vs.getD s undef:=by
   simp only[Zaz];rw[Array.getElem?_append_left hs]
  rw[this];exact .d _ _ h2
 refine wp_mono (z4l (E:=E) (d:=[]) L hL h h0 rfl) fun e a' w' ⟨G',σ',h1,h2,h3⟩=>?_
 have fin:(∃r,resS σ' l=some r∧Post r)→∃v,(results fn a'.tmps).run P w'=.ok v w'∧∃r v' f',Post r∧Ending.returned v=.returned v'∧RRes f' w' r v'∧Fr f0 w f' w':=fun⟨r,hr,hp⟩=>by
  obtain⟨v,g1,g2⟩:=z7x (a:=a') h2 hl hr;exact⟨v,g1,r,v,G'.f,hp,rfl,g2,⟨h2.ext.size,fun b hb=>h2.fr b hb (fun h=>h),h2.top,h2.os,h2.tape,h2.output⟩⟩
 cases e with
 |normal=>obtain⟨v,g1,g2⟩:=fin h1;exact⟨h3,v,g1,g2⟩
 |ret=>obtain⟨v,g1,g2⟩:=fin h1;exact⟨h3,v,g1,g2⟩
 |exit id=>exact h1.elim
 |goto l=>exact h1.elim
 |panic ch=>exact h1.elim
 |outgrown=>exact h1.elim
end Go.Av
