import Derived.Test.YtfkdhlghpjbbpaaGreatDoorAvG
set_option linter.unusedSectionVars false
/- Calls that take objects, one of which (the row x1000) may come to stand elsewhere: contracts. -/
namespace Go.Av
variable {E:Entry} {n:Nat} {G:q0x} {σ:St} {ts:Array Value} {w:World}
def mob:Option AObj→List (Nat×AObj)
 |none=>[]
 |some o=>[(1000,o)]
def rowO:AObj→Bool
 |.cells cs=>cs.all fun x=>match x with|.d _|.junk=>true|_=>false
 |_=>false
def rowM:Option AObj→Bool
 |none=>true
 |some o=>rowO o
theorem z0y{o:AObj}(h:rowO o=true):∃cs,o=.cells cs∧∀x∈cs,(∃d,x=.d d)∨x=.junk:=by
 cases o with
 |cells cs=>
  refine⟨cs,rfl,fun x hx=>?_⟩;simp only[rowO,Zaj]at h;have:=h x hx;cases x<;>simp at this
  ·exact .inl ⟨_,rfl⟩
  ·exact .inr rfl
 |_=>simp[rowO]at h
theorem ObjR.row{G':q0x}{r r':Ref}{o:AObj}(ho:rowO o=true)(hf:G'.f=G.f)(hb:G'.b r'=G.b r)(h:ObjR G w r o):ObjR G' w r' o:=by
 obtain⟨cs,rfl,hd⟩:=z0y ho;obtain⟨arr,el,h1,h2,h3⟩:=h;refine⟨arr,el,by rw[hb];exact h1,h2,fun i x hi=>?_⟩;obtain⟨k1,k2,k3,k4⟩:=h3 i x hi;rcases hd x (Zaa hi)with⟨d,rfl⟩|rfl
 ·exact⟨.d _ _ (by rw[hf];exact k1.dinv),k2,fun q hq=>by simp[AV.lab?]at hq,fun e he=>by cases he⟩
 ·exact⟨.junk _,k2,fun q hq=>by simp[AV.lab?]at hq,fun e he=>by cases he⟩
theorem q9v{α:Type}(l m:List (Nat×α))(s:Nat):aget (l++m) s=(aget l s).or (aget m s):=by
 induction l with
 |nil=>simp[aget]
 |cons a l ih=>
  obtain⟨k,v⟩:=a;simp only[Zbh,aget];split
  ·rfl
  ·exact ih
theorem z8P(m:Option AObj)(s:Nat):aget (mob m) s=if s=1000 then m else none:=by
 cases m with
 |none=>simp[mob,aget]
 |some o=>
  simp only[mob,aget]
  by_cases h:s=1000
  ·subst h;simp
  ·rw[if_neg h,if_neg (fun e=>h e.symm)]
theorem objH{ρ:List (Nat×AV)}{hs:List AObj}{m:Option AObj}(hl:hs.length≤1000){r:Ref}{o:AObj}(h:St.obj ⟨ρ,[],numO 0 hs++mob m⟩ r=some o):(∃i,r=.x i∧i<hs.length∧hs[i]?=some o)∨(r=.x 1000∧m=some o):=by
 cases r with
 |l s=>simp[St.obj,aget]at h
 |x i=>
  simp only[St.obj,q9v,q5z,z8P,Zar,if_true,Nat.sub_zero]at h;cases hh:hs[i]? with
  |some o'=>
   rw[hh]at h;simp at h;subst h;exact .inl ⟨i,rfl,(Zab.1 hh).1,hh⟩
  |none=>
   rw[hh]at h;simp at h;obtain⟨rfl,h⟩:=h;exact .inr ⟨rfl,h⟩
theorem j56{ρ:List (Nat×AV)}{hs:List AObj}{m:Option AObj}{i:Nat}{o:AObj}(h:hs[i]?=some o):St.obj ⟨ρ,[],numO 0 hs++mob m⟩ (.x i)=some o:=by
 simp[St.obj,q9v,q5z,h]
theorem j2J{ρ:List (Nat×AV)}{hs:List AObj}{m:Option AObj}(hl:hs.length≤1000):St.obj ⟨ρ,[],numO 0 hs++mob m⟩ (.x 1000)=m:=by
 simp[St.obj,q9v,q5z,z8P,Zdl hl]
def AV.q7d(n:Nat):AV→Bool
 |.own q _ _ _=>match q with
  |.c r _=>wfR n r
  |.t _=>false
 |_=>true
def labL(n:Nat):List AV→Bool
 |[]=>true
 |x::l=>x.q7d n&&labL n l
def AObj.wfM(n:Nat):AObj→Bool
 |.cells cs=>z2W cs&&labL n cs
 |_=>true
def wfMO(n:Nat):List AObj→Bool
 |[]=>true
 |o::l=>o.wfM n&&wfMO n l
theorem z9d{n:Nat}{l:List AV}:labL n l=true↔∀x∈l,x.q7d n=true:=by induction l with|nil=>simp[labL]|cons x l ih=>simp[labL,ih]
theorem z9W{n:Nat}{l:List AObj}:wfMO n l=true↔∀x∈l,x.wfM n=true:=by induction l with|nil=>simp[wfMO]|cons x l ih=>simp[wfMO,ih]
theorem z3D{n:Nat}{cs:List AV}(h:(AObj.cells cs).wfM n=true):∀x∈cs,x.q1y=true∧x.q7d n=true:=by
 simp only[AObj.wfM,Zac,q6l,z9d]at h;exact fun x hx=>⟨h.1 x hx,h.2 x hx⟩
/-! ### The contract -/
def inMV(G:q0x)(hs:List AObj)(m:Option AObj)(b:Nat):Prop:=
 (∃i o,hs[i]?=some o∧G.b (.x i)=b)∨(∃o,m=some o∧G.b (.x 1000)=b)∨∃q v p,G.lam q=some (v,p)∧v.ownBlock=some b
def z4g(G:q0x)(hs:List AObj)(m:Option AObj)(w:World):Entry:={ w0:=w,f0:=G.f,M:=inMV G hs m,b0:=fun r=>G.b (.x r) }
def MV(P:Program)[Inv P](fn:FuncId)(xs:List AV)(hs:List AObj)(m:Option AObj)(Post:AV→List AObj→Option AObj→Prop):Prop:=
 q5J P fn=true∧∀(G:q0x) (w:World) (vs:Array Value),Inv.inv P G.f w→(∀b,Inv.own P b→¬inMV G hs m b)→
  SR (z4g G hs m w) xs.length G ⟨q8z 0 xs,[],numO 0 hs++mob m⟩ vs w→
  Calls P fn vs w fun e w'=>∃r hs' m' G' v,Post r hs' m'∧e=.returned v∧hs'.length=hs.length∧rowM m'=true∧SR (z4g G hs m w) 1 G' ⟨[(0,r)],[],numO 0 hs'++mob m'⟩ #[v] w'
/-! ### What the callee finds -/
theorem AVR.z9U{R:List Ref}{x:AV}{v:Value}(hw:x.q7d R.length=true)(h:AVR G w (x.ren R) v):AVR (Gc G R []) w x v:=by
 cases x with
 |own q e sz l=>
  cases q with
  |t s=>simp[AV.q7d]at hw
  |c r off=>
   simp only[AV.q7d]at hw;obtain⟨i,rfl,hi⟩:=q53 hw;simp only[AV.ren,renQ]at h;cases h with
   |own _ _ _ _ _ hq hv hs=>exact .own _ _ _ _ _ (by simp only[Gc,if_pos hi];exact hq) hv hs
 |ptr r off=>
  simp only[AV.ren]at h;cases h;exact .ptr (G:=Gc G R []) r off
 |rs r n c=>
  simp only[AV.ren]at h;cases h;exact .rs (G:=Gc G R []) r n c
 |mp r=>
  simp only[AV.ren]at h;cases h;exact .mp (G:=Gc G R []) r
 |d x=>simp only[AV.ren]at h;cases h with|d _ _ h=>exact .d _ _ h
 |dptr cs=>simp only[AV.ren]at h;cases h with|dptr _ b o vs h1 h2 h3=>exact .dptr cs b o vs h1 h2 h3
 |tuple vs=>
  simp only[AV.ren,q4i]at h;cases h with
  |tuple _ us hl hs hh=>
   have hs':∀x∈vs,x.simple=true:=fun x hx=>by
    have:=hs (x.ren1 R) (Zbs hx);rwa [AV.q01]at this
   refine .tuple vs us (by simpa using hl) hs' fun i x hi=>?_
   exact(hh i (x.ren1 R) (by rw[Zae,hi];rfl)).z1H (hs' x (Zaa hi))
 |fn f a b=>
  simp only[AV.ren,q4i]at h;cases h with
  |fn _ _ _ us vs hl hs hh hl' hs' hh'=>
   have k:∀x∈a,x.simple=true:=fun x hx=>by
    have:=hs (x.ren1 R) (Zbs hx);rwa [AV.q01]at this
   have k':∀x∈b,x.simple=true:=fun x hx=>by
    have:=hs' (x.ren1 R) (Zbs hx);rwa [AV.q01]at this
   exact .fn f a b us vs (by simpa using hl) k (fun i x hi=>(hh i (x.ren1 R) (by rw[Zae,hi];rfl)).z1H (k x (Zaa hi)))
    (by simpa using hl') k' (fun i x hi=>(hh' i (x.ren1 R) (by rw[Zae,hi];rfl)).z1H (k' x (Zaa hi)))
 |junk=>exact .junk v
 |ns=>simp only[AV.ren]at h;cases h;exact .ns
 |nt e=>simp only[AV.ren]at h;cases h;exact .nt e
 |sx vs=>
  simp only[AV.ren,q4i]at h;cases h with
  |sx _ us hl hs ho hh=>
   have hs':∀x∈vs,x.simple=true:=fun x hx=>by
    have:=hs (x.ren1 R) (Zbs hx);rwa [AV.q01]at this
   refine .sx vs us (by simpa using hl) hs' (by simpa using ho) fun i x hi=>?_
   exact(hh i (x.ren1 R) (by rw[Zae,hi];rfl)).z1H (hs' x (Zaa hi))
theorem AV.j17{n:Nat}{x:AV}(h:x.q7d n=true){q:Lab}(hq:x.lab?=some q):∃i off,q=.c (.x i) off∧i<n:=by
 cases x<;>simp[AV.lab?]at hq;subst hq;rename_i q e sz l;cases q with
 |t s=>simp[AV.q7d]at h
 |c r off=>
  simp only[AV.q7d]at h;obtain⟨i,rfl,hi⟩:=q53 h;exact⟨i,off,rfl,hi⟩
theorem ObjR.z9U{R:List Ref}(hn:R.Nodup){i:Nat}(hi:i<R.length){o:AObj}(hw:o.wfM R.length=true)(h:ObjR G w (renR R (.x i)) (o.ren R)):ObjR (Gc G R []) w (.x i) o:=by
 cases o with
 |siter s p=>exact h
 |miter l c=>exact h
 |mobj l c=>exact h
 |cells cs=>
  simp only[AObj.ren,q8K]at h;obtain⟨arr,el,h1,h2,h3⟩:=h;refine⟨arr,el,h1,by simpa using h2,fun j x hj=>?_⟩;have hxw:=(z3D hw x (Zaa hj)).2;obtain⟨k1,k2,k3⟩:=h3 j (x.ren R) (by rw[Zae,hj];rfl);refine⟨k1.z9U hxw,k2,fun q hq=>?_,fun e he=>k3.2 e (by rw[he];rfl)⟩;obtain⟨k,off,rfl,hk⟩:=AV.j17 hxw hq;have:(x.ren R).lab?=some (renQ R (.c (.x k) off)):=by
   cases x<;>simp[AV.lab?]at hq;subst hq;rfl
  have:=k3.1 _ this;simp only[renQ,Lab.c.injEq]at this;obtain⟨e1,e2⟩:=this;have:k=i:=q8Z hn (q0P hk) (by rw[e1];exact q0P hi);rw[this,e2]
theorem q5V{R:List Ref}(hR:R.length≤1000):renR R (.x 1000)=.x 1000:=by
 simp[renR,List.getD_eq_getElem?_getD,Zdl hR]
theorem SR.j71(h:SR E n G σ ts w){R:List Ref}{xs:List AV}{hs:List AObj}{m:Option AObj}{vs:Array Value}(hvs:vs.size=xs.length)(hargs:∀i x,xs[i]?=some x→AVR (Gc G R []) w x (vs.getD i undef))
  (ho:q3W σ R R hs) (hwo:wfMO R.length hs=true) (hn:R.Nodup) (hR:R.length≤1000) (h1000:Ref.x 1000∉R) (hm:σ.obj (.x 1000)=m) (hrow:rowM m=true):
  SR (z4g (Gc G R []) hs m w) xs.length (Gc G R []) ⟨q8z 0 xs,[],numO 0 hs++mob m⟩ vs w:=by
 obtain⟨hlen,hget⟩:=q4C ho;have hb1:(Gc G R []).b (.x 1000)=G.b (.x 1000):=by show G.b (renR R (.x 1000))=_;rw[q5V hR]
 have hobj:∀r o,St.obj ⟨q8z 0 xs,[],numO 0 hs++mob m⟩ r=some o→(∃i,r=.x i∧i<R.length∧hs[i]?=some o∧σ.obj (renR R (.x i))=some (o.ren R))∨(r=.x 1000∧m=some o∧σ.obj (.x 1000)=some o):=by
  intro r o hr;rcases objH (by omega) hr with⟨i,rfl,hi,h1⟩|⟨rfl,h1⟩
  ·exact .inl ⟨i,rfl,by omega,h1,hget i _ o (q0P (by omega)) h1⟩
  ·exact .inr ⟨rfl,h1,hm.trans h1⟩
 have hup:∀r o,St.obj ⟨q8z 0 xs,[],numO 0 hs++mob m⟩ r=some o→∃r0 o0,σ.obj r0=some o0∧(Gc G R []).b r=G.b r0∧r0=renR R r:=by
  intro r o hr;rcases hobj r o hr with⟨i,rfl,hi,h1,h2⟩|⟨rfl,h1,h2⟩
  ·exact⟨_,_,h2,rfl,rfl⟩
  ·exact⟨_,_,h2,hb1,(q5V hR).symm⟩
 have hlam:∀q p,(Gc G R []).lam q=some p→∃q0,G.lam q0=some p:=fun q p hq=>by obtain⟨q0,h1,_⟩:=j01 hq;exact⟨q0,h1⟩
 refine{ size:=hvs,slot:=fun s x hx=>?_,obj:=fun r o hr=>?_,objf:=fun r o hr=>?_,inj:=fun r r' o o' hr hr' hb=>?_,lam:=fun q v e sz hq=>?_,lamObj:=fun q v e sz b hq hb r o hr=>?_,
         lamInj:=fun q q' v v' p p' b hq hq' hb hb'=>?_,newObj:=fun r o hr=>?_,newLam:=fun q v e sz b hq hb=>?_,ext:=Ext.refl _ _,fr:=fun _ _ _=>⟨rfl,rfl⟩,top:=h.top,ext0:=fun _ _=>rfl,own0:=fun r cs x s hr hx=>?_,os:=rfl,tape:=rfl,output:=rfl }
 ·simp only[z0f,Zar,if_true,Nat.sub_zero]at hx;exact hargs s x hx
 ·rcases hobj r o hr with⟨i,rfl,hi,h1,h2⟩|⟨rfl,h1,h2⟩
  ·exact(h.obj _ _ h2).z9U hn hi (z9W.1 hwo o (Zaa h1))
  ·exact ObjR.row (G:=G) (G':=Gc G R []) (by rw[h1]at hrow;exact hrow) rfl hb1 (h.obj _ _ h2)
 ·obtain⟨r0,o0,h1,h2,_⟩:=hup r o hr;show G.f ((Gc G R []).b r)=0
  rw[h2];exact h.objf _ _ h1
 ·obtain⟨r0,o0,h1,h2,h3⟩:=hup r o hr;obtain⟨r1,o1,h4,h5,h6⟩:=hup r' o' hr';have e:=h.inj _ _ _ _ h1 h4 (by rw[←h2,←h5];exact hb);rw[h3,h6]at e;rcases hobj r o hr with⟨i,rfl,hi,_,_⟩|⟨rfl,_,_⟩<;>rcases hobj r' o' hr' with⟨j,rfl,hj,_,_⟩|⟨rfl,_,_⟩
  ·rw[q8Z hn (q0P hi) (by rw[e];exact q0P hj)]
  ·rw[q5V hR]at e;exact absurd (Zaa (q0P hi)) (by rw[e];exact h1000)
  ·rw[q5V hR]at e;exact absurd (Zaa (q0P hj)) (by rw[←e];exact h1000)
  ·rfl
 ·obtain⟨q0,h1⟩:=hlam q _ hq;exact h.lam _ v e sz h1
 ·obtain⟨q0,h1⟩:=hlam q _ hq;obtain⟨r0,o0,h2,h3,_⟩:=hup r o hr;rw[h3];exact h.lamObj _ v e sz b h1 hb _ _ h2
 ·exact j5I (Q:=[]) hn (by simp[q4l]) (fun q hq=>by simp[q4l]at hq) hq hq' fun q0 q1 h1 h2=>h.lamInj _ _ v v' p p' b h1 h2 hb hb'
 ·rcases hobj r o hr with⟨i,rfl,hi,h1,h2⟩|⟨rfl,h1,h2⟩
  ·exact .inr (.inl ⟨i,o,h1,rfl⟩)
  ·exact .inr (.inr (.inl ⟨o,h1,rfl⟩))
 ·exact .inr (.inr (.inr ⟨q,v,_,hq,hb⟩))
 ·rcases hobj _ _ hr with⟨i,hr',hi,h1,h2⟩|⟨hr',h1,h2⟩
  ·exact AV.z0s (z3D (z9W.1 hwo _ (Zaa h1)) x hx).1 s
  ·rw[h1]at hrow;obtain⟨cs',e,hd⟩:=z0y (o:=.cells cs) hrow;cases e;rcases hd x hx with⟨d,rfl⟩|rfl<;>rfl
theorem z7W{R:List Ref}{hs:List AObj}{m:Option AObj}(ho:q3W σ R R hs)(hR:R.length≤1000)(hm:σ.obj (.x 1000)=m){b:Nat}(h:inMV (Gc G R []) hs m b):
  (∃r o,(r∈R∨r=.x 1000)∧σ.obj r=some o∧G.b r=b)∨∃q v p,(∃r off,q=.c r off∧r∈R)∧G.lam q=some (v,p)∧v.ownBlock=some b:=by
 obtain⟨hlen,hget⟩:=q4C ho;rcases h with⟨i,o,h1,h2⟩|⟨o,h1,h2⟩|⟨q,v,p,h1,h2⟩
 ·have hi:i<R.length:=by rw[hlen];exact(Zab.1 h1).1
  exact .inl ⟨_,_,.inl (Zaa (q0P hi)),hget i _ o (q0P hi) h1,h2⟩
 ·refine .inl ⟨_,o,.inr rfl,hm.trans h1,?_⟩;have:(Gc G R []).b (.x 1000)=G.b (.x 1000):=by show G.b (renR R (.x 1000))=_;rw[q5V hR]
  rw[←this];exact h2
 ·obtain⟨q0,h3,h4⟩:=j01 h1;rcases h4 with h4|h4
  ·exact .inr ⟨q0,v,p,h4,h3,h2⟩
  ·simp[q4l]at h4
end Go.Av
/- Calls with a row that may come to stand elsewhere: what the caller has back. -/
namespace Go.Av
variable {E:Entry} {n:Nat} {G:q0x} {σ:St} {ts:Array Value} {w:World}
/-! ### All names of the row are given up -/
def St.q3B(σ:St):St:={ ρ:=amap (AV.drop (.x 1000)) σ.ρ,L:=amap (q0q (.x 1000)) σ.L,H:=adel (amap (q0q (.x 1000)) σ.H) 1000 }
theorem St.q3F(σ:St)(r:Ref){o:AObj}(h:σ.q3B.obj r=some o):r≠.x 1000∧∃o',σ.obj r=some o'∧o=q0q (.x 1000) o':=by
 cases r with
 |l t=>
  simp only[St.q3B,St.obj,q0p]at h;cases hx:aget σ.L t with
  |none=>simp[hx]at h
  |some o'=>simp[hx]at h;exact⟨by simp,o',hx,h.symm⟩
 |x t=>
  simp only[St.q3B,St.obj,q0O,q0p]at h;split at h
  ·cases h
  ·rename_i hne;cases hx:aget σ.H t with
   |none=>simp[hx]at h
   |some o'=>simp[hx]at h;exact⟨by simp;omega,o',hx,h.symm⟩
theorem St.j1D{σ:St}{r:Ref}{o:AObj}(h:σ.obj r=some o)(hr:r≠.x 1000):σ.q3B.obj r=some (q0q (.x 1000) o):=by
 cases r with
 |l t=>simp only[St.q3B,St.obj,q0p]at h ⊢;rw[h];rfl
 |x t=>
  have:¬1000=t:=fun e=>hr (by rw[e])
  simp only[St.q3B,St.obj,q0O,q0p]at h ⊢;rw[if_neg this,h];rfl
theorem SR.q3B(h:SR E n G σ ts w)(B:Nat):SR E n { G with b:=updf G.b (.x 1000) B } σ.q3B ts w:=by
 have hbs:∀x:AV,∀r,(x.drop (.x 1000)).has r=true→updf G.b (.x 1000) B r=G.b r:=fun x r hr=>q0U _ _ (fun e=>by rw[e,AV.q4Q]at hr;cases hr)
 have hne:∀r,r≠.x 1000→updf G.b (.x 1000) B r=G.b r:=fun r hr=>q0U _ _ hr
 refine⟨h.size,fun t x hx=>?_,fun r o ho=>?_,fun r o ho=>?_,fun r r' o o' ho ho' hb=>?_,h.lam,fun q v e sz b h1 h2 r o ho=>?_,h.lamInj,fun r o ho=>?_,h.newLam,h.ext,h.fr,h.top,fun r hr=>?_,fun r cs x t ho hx=>?_,h.os,h.tape,h.output⟩
 ·simp only[St.q3B,q0p]at hx;cases hy:aget σ.ρ t with
  |none=>simp[hy]at hx
  |some y=>
   simp[hy]at hx;subst hx;exact AVR.mono (G:=G) (w:=w) (h:=(h.slot t y hy).drop _) (G':={ G with b:=updf G.b (.x 1000) B }) (Ext.refl _ _) (hbs y) (fun _ _ _ hp=>hp)
 ·obtain⟨hr,o',h1,rfl⟩:=σ.q3F r ho;refine ObjR.mono (G:=G) (w:=w) (h:=(h.obj r o' h1).drop) (G':={ G with b:=updf G.b (.x 1000) B }) (Ext.refl _ _) (hne r hr) rfl (fun cs x e hx=>?_) (fun _ _ hp=>hp);cases o' with
  |cells cs'=>
   simp only[q0q,AObj.cells.injEq]at e;subst e;obtain⟨y,_,rfl⟩:=Zak.1 hx;exact hbs y
  |_=>simp[q0q]at e
 ·obtain⟨hr,o',h1,_⟩:=σ.q3F r ho;show G.f (updf G.b (.x 1000) B r)=0
  rw[hne r hr];exact h.objf r o' h1
 ·obtain⟨hr,o1,h1,_⟩:=σ.q3F r ho;obtain⟨hr',o2,h2,_⟩:=σ.q3F r' ho';have hb:updf G.b (.x 1000) B r=updf G.b (.x 1000) B r':=hb;rw[hne r hr,hne r' hr']at hb;exact h.inj r r' o1 o2 h1 h2 hb
 ·obtain⟨hr,o',h3,_⟩:=σ.q3F r ho;show updf G.b (.x 1000) B r≠b
  rw[hne r hr];exact h.lamObj q v e sz b h1 h2 r o' h3
 ·obtain⟨hr,o',h1,_⟩:=σ.q3F r ho;show _≤updf G.b (.x 1000) B r∨E.M (updf G.b (.x 1000) B r)
  rw[hne r hr];exact h.newObj r o' h1
 ·show updf G.b (.x 1000) B (.x r)=_
  rw[hne _ (by simpa using hr)];exact h.ext0 r hr
 ·obtain⟨hr,o',h1,e⟩:=σ.q3F _ ho;cases o' with
  |cells cs'=>
   simp only[q0q,AObj.cells.injEq]at e;subst e;obtain⟨y,hy,rfl⟩:=Zak.1 hx;exact AV.j4n _ _ _ (h.own0 r cs' y t h1 hy)
  |_=>simp[q0q]at e
/-! ### What comes back -/
theorem AVR.z5I{G':q0x}{w':World}{R:List Ref}(hb:∀i,G'.b (.x i)=G.b (renR R (.x i))){x:AV}{v:Value}(hs:x.simple=true)(hw:x.q9l=true)(h:AVR G' w' x v):AVR (Gb G G' R) w' (x.ren1 R) v:=by
 have hx:∀{r:Ref},(!isLocal r)=true→∃i,r=.x i:=fun{r} hr=>by cases r with|l s=>simp[isLocal]at hr|x i=>exact⟨i,rfl⟩
 cases h with
 |d x v h=>exact .d x v h
 |own q e sz l v hq hv hs'=>simp[AV.simple]at hs
 |ptr r off=>
  obtain⟨i,rfl⟩:=hx hw;rw[hb i];exact .ptr (G:=Gb G G' R) (renR R (.x i)) off
 |dptr cs b o vs h1 h2 h3=>exact .dptr cs b o vs h1 h2 h3
 |tuple=>simp[AV.simple]at hs
 |fn=>simp[AV.simple]at hs
 |junk v=>exact .junk v
 |ns=>exact .ns
 |nt e=>exact .nt e
 |rs r n c=>
  obtain⟨i,rfl⟩:=hx hw;rw[hb i];exact .rs (G:=Gb G G' R) (renR R (.x i)) n c
 |mp r=>
  obtain⟨i,rfl⟩:=hx hw;rw[hb i];exact .mp (G:=Gb G G' R) (renR R (.x i))
 |sx=>simp[AV.simple]at hs
theorem AVR.z9D{G':q0x}{w':World}{R:List Ref}(hn:R.Nodup)(hb:∀i,G'.b (.x i)=G.b (renR R (.x i))){x:AV}{v:Value}(hw:x.q1y=true)(hlab:x.q7d R.length=true)(h:AVR G' w' x v):AVR (Gb G G' R) w' (x.ren R) v:=by
 have hx:∀{r:Ref},(!isLocal r)=true→∃i,r=.x i:=fun{r} hr=>by cases r with|l s=>simp[isLocal]at hr|x i=>exact⟨i,rfl⟩
 cases h with
 |d x v h=>exact .d x v h
 |own q e sz l v hq hv hs'=>
  cases q with
  |t s=>simp[AV.q7d]at hlab
  |c r off=>
   simp only[AV.q7d]at hlab;obtain⟨i,rfl,hi⟩:=q53 hlab;exact .own _ _ _ _ _ (by simp only[Gb,renQ,j11 hn hi];exact hq) hv hs'
 |ptr r off=>
  obtain⟨i,rfl⟩:=hx hw;rw[hb i];exact .ptr (G:=Gb G G' R) (renR R (.x i)) off
 |dptr cs b o vs h1 h2 h3=>exact .dptr cs b o vs h1 h2 h3
 |tuple xs vs hl hs' hh=>
  simp only[AV.q1y,q29]at hw;simp only[AV.ren,q4i];refine .tuple _ vs (by simpa using hl) (fun y hy=>?_) fun i y hy=>?_
  ·obtain⟨x,hx,rfl⟩:=Zak.1 hy;rw[AV.q01];exact hs' x hx
  ·rw[Zae]at hy;cases hx:xs[i]? with
   |none=>simp[hx]at hy
   |some x=>
    simp[hx]at hy;subst hy;have hm:=Zaa hx;exact(hh i x hx).z5I hb (hs' x hm) (hw x hm)
 |fn f xs ys us vs hl hs1 hh hl' hs2 hh'=>
  simp only[AV.q1y,Zac,q29]at hw;simp only[AV.ren,q4i];refine .fn f _ _ us vs (by simpa using hl) (fun y hy=>?_) (fun i y hy=>?_) (by simpa using hl') (fun y hy=>?_) (fun i y hy=>?_)
  ·obtain⟨x,hx,rfl⟩:=Zak.1 hy;rw[AV.q01];exact hs1 x hx
  ·rw[Zae]at hy;cases hx:xs[i]? with
   |none=>simp[hx]at hy
   |some x=>
    simp[hx]at hy;subst hy;have hm:=Zaa hx;exact(hh i x hx).z5I hb (hs1 x hm) (hw.1 x hm)
  ·obtain⟨x,hx,rfl⟩:=Zak.1 hy;rw[AV.q01];exact hs2 x hx
  ·rw[Zae]at hy;cases hx:ys[i]? with
   |none=>simp[hx]at hy
   |some x=>
    simp[hx]at hy;subst hy;have hm:=Zaa hx;exact(hh' i x hx).z5I hb (hs2 x hm) (hw.2 x hm)
 |junk v=>exact .junk v
 |ns=>exact .ns
 |nt e=>exact .nt e
 |rs r n c=>
  obtain⟨i,rfl⟩:=hx hw;rw[hb i];exact .rs (G:=Gb G G' R) (renR R (.x i)) n c
 |mp r=>
  obtain⟨i,rfl⟩:=hx hw;rw[hb i];exact .mp (G:=Gb G G' R) (renR R (.x i))
 |sx xs vs hl hs' ho hh=>
  simp only[AV.q1y,q29]at hw;simp only[AV.ren,q4i];refine .sx _ vs (by simpa using hl) (fun y hy=>?_) (by simpa using ho) fun i y hy=>?_
  ·obtain⟨x,hx,rfl⟩:=Zak.1 hy;rw[AV.q01];exact hs' x hx
  ·rw[Zae]at hy;cases hx:xs[i]? with
   |none=>simp[hx]at hy
   |some x=>
    simp[hx]at hy;subst hy;have hm:=Zaa hx;exact(hh i x hx).z5I hb (hs' x hm) (hw x hm)
theorem ObjR.z9D{G':q0x}{w':World}{R:List Ref}(hn:R.Nodup)(hb:∀i,G'.b (.x i)=G.b (renR R (.x i))){i:Nat}(hi:i<R.length){o:AObj}(hw:o.wfM R.length=true)(h:ObjR G' w' (.x i) o):
  ObjR (Gb G G' R) w' (renR R (.x i)) (o.ren R):=by
 have e:(Gb G G' R).b (renR R (.x i))=G'.b (.x i):=(hb i).symm;cases o with
 |siter s p=>show w'.heap[(Gb G G' R).b (renR R (.x i))]?=_;rw[e];exact h
 |miter l c=>obtain⟨m,since,seen,c0,h1,h2⟩:=h;exact⟨m,since,seen,c0,by rw[e];exact h1,h2⟩
 |mobj l c=>obtain⟨es,clock,h1,h2⟩:=h;exact⟨es,clock,by rw[e];exact h1,h2⟩
 |cells cs=>
  obtain⟨arr,el,h1,h2,h3⟩:=h;simp only[AObj.ren,q8K];refine⟨arr,el,by rw[e];exact h1,by simpa using h2,fun j y hy=>?_⟩;rw[Zae]at hy;cases hx:cs[j]? with
  |none=>simp[hx]at hy
  |some x=>
   simp[hx]at hy;subst hy;obtain⟨hxw,hxl⟩:=z3D hw x (Zaa hx);obtain⟨k1,k2,k3⟩:=h3 j x hx;refine⟨k1.z9D hn hb hxw hxl,k2,fun q hq=>?_,fun e' he=>k3.2 e' (by cases x<;>simp[AV.ren]at he ⊢;exact he)⟩;have:∃q0,x.lab?=some q0∧q=renQ R q0:=by
    cases x<;>simp[AV.ren,AV.lab?]at hq;exact⟨_,rfl,hq.symm⟩
   obtain⟨q0,hq0,rfl⟩:=this;rw[k3.1 q0 hq0];rfl
def q4M(R:List Ref)(n:Nat):List Ref→List AObj→Bool
 |[],[]=>true
 |r::rs,o::os=>(o.wfM n&&(isLocal r || (o.ren R).q1y))&&q4M R n rs os
 |_,_=>false
theorem z2o{R:List Ref}{n:Nat}:∀{rs:List Ref} {os:List AObj},q4M R n rs os=true→∀(i:Nat) (r:Ref) (o:AObj),rs[i]?=some r→os[i]?=some o→o.wfM n=true∧(isLocal r=true∨(o.ren R).q1y=true)
 |[],[],_,i,r,o,h,_=>by simp at h
 |[],_::_,h,_,_,_,_,_=>by simp[q4M]at h
 |_::_,[],h,_,_,_,_,_=>by simp[q4M]at h
 |r::rs,o::os,h,i,r',o',hr,ho=>by
  simp only[q4M,Zac,Zca]at h;cases i with
  |zero=>simp at hr ho;subst hr;subst ho;exact h.1
  |succ i=>simp at hr ho;exact z2o h.2 i r' o' hr ho
def setM(σ:St):Option AObj→St
 |none=>σ
 |some o=>σ.setObj (.x 1000) o
def q9w(σ:St)(R:List Ref)(os:List AObj)(m:Option AObj):St:=setM (q41 σ R os) m
theorem j1f{R:List Ref}{hs':List AObj}{m:Option AObj}(hn:R.Nodup)(h1:Ref.x 1000∉R)(hno:σ.obj (.x 1000)=none)(hl:hs'.length=R.length)(hback:q4M R R.length R hs'=true){r:Ref}{o:AObj}(hr:(q9w σ R hs' m).obj r=some o):
  (∃i o',r=renR R (.x i)∧i<R.length∧hs'[i]?=some o'∧o=o'.ren R∧o'.wfM R.length=true∧(isLocal r=true∨o.q1y=true))∨(r=.x 1000∧m=some o)∨(r∉R∧r≠.x 1000∧σ.obj r=some o):=by
 have hbk:=z2o hback;obtain⟨hset,hkeep⟩:=q9K (R:=R) (rs:=R) (os:=hs') (σ:={ σ with ρ:=amap (AV.q5Y R) σ.ρ }) hl.symm hn;have base:∀r o,(q41 σ R hs').obj r=some o→(∃i o',r=renR R (.x i)∧i<R.length∧hs'[i]?=some o'∧o=o'.ren R∧o'.wfM R.length=true∧(isLocal r=true∨o.q1y=true))∨(r∉R∧σ.obj r=some o):=by
  intro r o hr
  by_cases hm:r∈R
  ·obtain⟨i,hi⟩:=Zap hm;have hil:i<R.length:=(Zab.1 hi).1;have e:=q0P hil;rw[hi]at e;cases e;have hi':i<hs'.length:=by omega
   have g1:=Zaf hi';obtain⟨h2,h3⟩:=hbk i _ _ hi g1;have:=hset i _ _ hi g1;rw[show(q41 σ R hs').obj _=_ from this]at hr;cases hr;exact .inl ⟨i,_,rfl,hil,g1,rfl,h2,h3⟩
  ·have:=hkeep r hm;rw[show(q41 σ R hs').obj r=_ from this]at hr;exact .inr ⟨hm,by rw[←hr];cases r<;>rfl⟩
 have fin:(q41 σ R hs').obj r=some o→(∃i o',r=renR R (.x i)∧i<R.length∧hs'[i]?=some o'∧o=o'.ren R∧o'.wfM R.length=true∧(isLocal r=true∨o.q1y=true))∨(r=.x 1000∧m=some o)∨(r∉R∧r≠.x 1000∧σ.obj r=some o):=fun hr=>by
  rcases base r o hr with h|⟨h2,h3⟩
  ·exact .inl h
  ·exact .inr (.inr ⟨h2,(fun e=>by rw[e,hno]at h3;cases h3),h3⟩)
 cases m with
 |none=>exact fin hr
 |some o1=>
  simp only[q9w,setM,St.q0X]at hr;split at hr
  ·rename_i e;cases hr;exact .inr (.inl ⟨e.symm,rfl⟩)
  ·rename_i e;rcases fin hr with h|⟨h,_⟩|h
   ·exact .inl h
   ·exact absurd h.symm e
   ·exact .inr (.inr h)
theorem SR.j8j(h:SR E n G σ ts w){E1:Entry}{R:List Ref}{hs':List AObj}{m':Option AObj}{r:AV}{G':q0x}{v:Value}{w':World}(hw0:E1.w0=w)(hf0:E1.f0=G.f)(hb:∀i,G'.b (.x i)=G.b (renR R (.x i)))(hout:Out E E1 G σ R)
  (hpre:∀r∈R,∃o,σ.obj r=some o) (hn:R.Nodup) (hR:R.length≤1000) (h1000:Ref.x 1000∉R) (hno:σ.obj (.x 1000)=none) (hl:hs'.length=R.length) (k:SR E1 1 G' ⟨[(0,r)],[],numO 0 hs'++mob m'⟩ #[v] w') (hback:q4M R R.length R hs'=true) (hrow:rowM m'=true):
  SR E n (Gb G G' R) (q9w σ R hs' m') ts w':=by
 have hobj:=fun r o=>j1f (σ:=σ) (m:=m') (r:=r) (o:=o) hn h1000 hno hl hback
 have hb1:G'.b (.x 1000)=G.b (.x 1000):=by rw[hb 1000,q5V hR]
 have hfr:∀b,b<w.heap.size→¬E1.M b→w'.heap[b]?=w.heap[b]?∧G'.f b=G.f b:=fun b h1 h2=>by
  have:=k.fr b (by rw[hw0];exact h1) h2;rw[hw0,hf0]at this;exact this
 have hext:Ext G.f w G'.f w':=by have:=k.ext;rwa [hw0,hf0]at this
 have lamK:∀q p,(∀r off,q=.c r off→r∉R)→G.lam q=some p→(Gb G G' R).lam q=some p:=by
  intro q p hq hp;cases q with
  |t s=>exact hp
  |c r off=>
   simp only[Gb];have:idxR R r=none:=by unfold idxR;rw[if_neg (hq r off rfl)]
   rw[this];exact hp
 have newLam:∀q v e sz b,G'.lam q=some (v,e,sz)→v.ownBlock=some b→w.heap.size≤b∨E1.M b:=fun q v e sz b h1 h2=>by
  have:=k.newLam q v e sz b h1 h2;rwa [hw0]at this
 have newRow:∀o,m'=some o→w.heap.size≤G.b (.x 1000)∨E1.M (G.b (.x 1000)):=fun o hm=>by
  have:=k.newObj (.x 1000) o (by rw[j2J (by omega)];exact hm);rwa [hw0,hb1]at this
 -- what the callee tells of an object that comes back
 have kin:∀r o,(q9w σ R hs' m').obj r=some o→(∃i o',St.obj ⟨[(0,‹AV›)],[],numO 0 hs'++mob m'⟩ (.x i)=some o'∧G'.b (.x i)=G.b r∧r=renR R (.x i)∧(i<R.length∨i=1000))∨(r∉R∧r≠.x 1000∧σ.obj r=some o):=by
  intro r o hr;rcases hobj r o hr with⟨i,o',rfl,hi,h1,_⟩|⟨rfl,hm⟩|h1
  ·exact .inl ⟨i,o',j56 h1,hb i,rfl,.inl hi⟩
  ·exact .inl ⟨1000,o,(j2J (by omega)).trans hm,hb1,(q5V hR).symm,.inr rfl⟩
  ·exact .inr h1
 refine{ size:=h.size,slot:=fun s x hx=>?_,obj:=fun r o hr=>?_,objf:=fun r o hr=>?_,inj:=fun r r' o o' hr hr' hbb=>?_,lam:=fun q v e sz hq=>?_,lamObj:=fun q v e sz b hq hvb r o hr=>?_,
         lamInj:=fun q q' v v' p p' b hq hq' hvb hvb'=>?_,newObj:=fun r o hr=>?_,newLam:=fun q v e sz b hq hvb=>?_,ext:=h.ext.trans hext,fr:=fun b hb hM=>?_,top:=k.top,ext0:=h.ext0,own0:=fun r cs x s hr hx=>?_,
         os:=k.os.trans (by rw[hw0];exact h.os),tape:=k.tape.trans (by rw[hw0];exact h.tape),output:=k.output.trans (by rw[hw0];exact h.output) }
 ·have hx':aget (amap (AV.q5Y R) σ.ρ) s=some x:=by
   have e:(q9w σ R hs' m').ρ=amap (AV.q5Y R) σ.ρ:=by
    cases m' with
    |none=>exact z0C
    |some o=>exact z0C
   rw[←e];exact hx
  rw[q0p]at hx';cases h0:aget σ.ρ s with
  |none=>simp[h0]at hx'
  |some x0=>
   simp[h0]at hx';subst hx';have hv:=h.slot s x0 h0;have gen:x0.lab?=none→x0.q5Y R=x0→AVR (Gb G G' R) w' (x0.q5Y R) (ts.getD s undef):=fun hl e=>by
    rw[e];exact hv.mono (G':=Gb G G' R) hext (fun _ _=>rfl) (fun q p hq _=>by rw[hl]at hq;cases hq)
   cases x0 with
   |own q e sz l=>
    cases q with
    |t s'=>exact hv.mono (G':=Gb G G' R) hext (fun _ _=>rfl) (fun q p hq hp=>by simp[AV.lab?]at hq;subst hq;exact hp)
    |c r' off=>
     simp only[AV.q5Y];split
     ·cases hv with|own _ _ _ _ _ _ hrd _=>exact .d _ _ (hrd.ext hext)
     ·rename_i hm;rw[z0p]at hm;exact hv.mono (G':=Gb G G' R) hext (fun _ _=>rfl) (fun q p hq hp=>by
       simp[AV.lab?]at hq;subst hq;exact lamK _ _ (fun r2 off2 e2=>by cases e2;exact hm) hp)
   |d _=>exact gen rfl rfl
   |ptr _ _=>exact gen rfl rfl
   |dptr _=>exact gen rfl rfl
   |tuple _=>exact gen rfl rfl
   |fn _ _ _=>exact gen rfl rfl
   |junk=>exact gen rfl rfl
   |ns=>exact gen rfl rfl
   |nt _=>exact gen rfl rfl
   |rs _ _ _=>exact gen rfl rfl
   |mp _=>exact gen rfl rfl
   |sx _=>exact gen rfl rfl
 ·rcases hobj r o hr with⟨i,o',rfl,hi,h1,rfl,h2,_⟩|⟨rfl,hm⟩|⟨hm,_,h1⟩
  ·exact(k.obj (.x i) o' (j56 h1)).z9D hn hb hi h2
  ·exact ObjR.row (G:=G') (G':=Gb G G' R) (by rw[hm]at hrow;exact hrow) rfl hb1.symm (k.obj (.x 1000) o ((j2J (by omega)).trans hm))
  ·refine(h.obj r o h1).mono (G':=Gb G G' R) hext rfl (hfr _ (h.obj r o h1).lt (hout.obj r o h1 hm)).1 (fun _ _ _ _ _ _=>rfl) (fun i p hp=>lamK _ _ (fun r2 off2 e2=>by cases e2;exact hm) hp)
 ·rcases kin r o hr with⟨i,o',h1,h2,_⟩|⟨hm,_,h1⟩
  ·have:=k.objf (.x i) o' h1;rw[h2]at this;exact this
  ·show G'.f (G.b r)=0
   rw[(hfr _ (h.obj r o h1).lt (hout.obj r o h1 hm)).2];exact h.objf r o h1
 ·have hbb:G.b r=G.b r':=hbb;have cross:∀{i:Nat} {o1 o2:AObj} {r2:Ref},St.obj ⟨[(0,‹AV›)],[],numO 0 hs'++mob m'⟩ (.x i)=some o1→r2∉R→σ.obj r2=some o2→G'.b (.x i)=G.b r2→False:=fun{i o1 o2 r2} g1 g2 g3 g4=>by
   have:=k.newObj (.x i) o1 g1;rw[hw0,g4]at this;rcases this with h5|h5
   ·have:=(h.obj r2 o2 g3).lt;omega
   ·exact hout.obj r2 o2 g3 g2 h5
  rcases kin r o hr with⟨i,o1,h1,h2,h3,h4⟩|⟨hm,_,h1⟩<;>rcases kin r' o' hr' with⟨j,o2,h5,h6,h7,h8⟩|⟨hm',_,h5⟩
  ·have:=k.inj _ _ _ _ h1 h5 (by rw[h2,h6];exact hbb);rw[h3,h7];simp only[Ref.x.injEq]at this;rw[this]
  ·exact(cross h1 hm' h5 (h2.trans hbb)).elim
  ·exact(cross h5 hm h1 (h6.trans hbb.symm)).elim
  ·exact h.inj r r' _ _ h1 h5 hbb
 ·rcases q8e hq with⟨i,off,rfl,hi,h1⟩|⟨h1,h2⟩
  ·exact k.lam _ v e sz h1
  ·exact(h.lam q v e sz h1).mono fun b hvb=>hfr b ((h.lam q v e sz h1).lt hvb) (hout.row q v _ b h1 hvb h2)
 ·show G.b r≠b
  rcases q8e hq with⟨i,off,rfl,hi,h1⟩|⟨h1,h2⟩
  ·rcases kin r o hr with⟨j,o',h3,h4,_⟩|⟨hm,_,h3⟩
   ·have:=k.lamObj _ v e sz b h1 hvb (.x j) o' h3;rw[h4]at this;exact this
   ·intro hbb;rcases newLam _ v e sz b h1 hvb with h5|h5
    ·have:=(h.obj r o h3).lt;omega
    ·exact hout.obj r o h3 hm (by rw[hbb];exact h5)
  ·rcases hobj r o hr with⟨j,o',rfl,hj,h3,_⟩|⟨rfl,hm⟩|⟨hm,_,h3⟩
   ·obtain⟨o0,ho0⟩:=hpre _ (Zaa (q0P hj));exact h.lamObj q v e sz b h1 hvb _ o0 ho0
   ·intro hbb;rcases newRow o hm with h5|h5
    ·have:=(h.lam q v e sz h1).lt hvb;omega
    ·exact hout.row q v _ b h1 hvb h2 (by rw[←hbb];exact h5)
   ·exact h.lamObj q v e sz b h1 hvb r o h3
 ·rcases q8e hq with⟨i,off,rfl,hi,h1⟩|⟨h1,h2⟩<;>rcases q8e hq' with⟨j,off',rfl,hj,h3⟩|⟨h3,h4⟩
  ·have:=k.lamInj _ _ v v' p p' b h1 h3 hvb hvb';simp only[Lab.c.injEq,Ref.x.injEq]at this;rw[this.1,this.2]
  ·exfalso
   obtain⟨e1,s1⟩:=p;obtain⟨e2,s2⟩:=p';rcases newLam _ v e1 s1 b h1 hvb with h5|h5
   ·have:=(h.lam q' v' e2 s2 h3).lt hvb';omega
   ·exact hout.row q' v' _ b h3 hvb' h4 h5
  ·exfalso
   obtain⟨e1,s1⟩:=p;obtain⟨e2,s2⟩:=p';rcases newLam _ v' e2 s2 b h3 hvb' with h5|h5
   ·have:=(h.lam q v e1 s1 h1).lt hvb;omega
   ·exact hout.row q v _ b h1 hvb h2 h5
  ·exact h.lamInj q q' v v' p p' b h1 h3 hvb hvb'
 ·show E.w0.heap.size≤G.b r∨E.M (G.b r)
  rcases hobj r o hr with⟨j,o',rfl,hj,h3,_⟩|⟨rfl,hm⟩|⟨hm,_,h3⟩
  ·obtain⟨o0,ho0⟩:=hpre _ (Zaa (q0P hj));exact h.newObj _ o0 ho0
  ·rcases newRow o hm with h5|h5
   ·exact .inl (Zbw h.ext.size h5)
   ·exact hout.new _ h5
  ·exact h.newObj r o h3
 ·rcases q8e hq with⟨i,off,rfl,hi,h1⟩|⟨h1,h2⟩
  ·rcases newLam _ v e sz b h1 hvb with h5|h5
   ·exact .inl (Zbw h.ext.size h5)
   ·exact hout.new b h5
  ·exact h.newLam q v e sz b h1 hvb
 ·have hnM:¬E1.M b:=fun h5=>by
   rcases hout.new b h5 with h6|h6
   ·omega
   ·exact hM h6
  have h1:=hfr b (Zcu hb h.ext.size) hnM;have h2:=h.fr b hb hM;exact⟨h1.1.trans h2.1,h1.2.trans h2.2⟩
 ·rcases hobj _ _ hr with⟨i,o',e,hi,h1,e2,h2,h4⟩|⟨_,hm⟩|⟨hm,_,h1⟩
  ·rcases h4 with h4|h4
   ·simp[isLocal]at h4
   ·simp only[AObj.q1y,q6l]at h4;exact AV.z0s (h4 x hx) s
  ·rw[hm]at hrow;obtain⟨cs',e,hd⟩:=z0y (o:=.cells cs) hrow;cases e;rcases hd x hx with⟨d,rfl⟩|rfl<;>rfl
  ·exact h.own0 r cs x s h1 hx
end Go.Av
/- Calls with a row that may come to stand elsewhere: the rule of a call, and of a function; an element is put into such a row. -/
namespace Go.Av
variable {E:Entry} {n:Nat} {G:q0x} {σ:St} {ts:Array Value} {w:World} {P:Program} [Inv P]
theorem q7r.mv{dst:Option Nat}{f:LX}{args:List LX}{K:St→Prop}{g:FuncId}{first cap:List AV}(hf:σ.ev f=.fn (.func g) first cap){xs:List AV}{hs:List AObj}{m:Option AObj}(R:List Ref){Post:AV→List AObj→Option AObj→Prop}(hc:MV P g xs hs m Post)
  (hx:q5q [] 0 (first++(evL σ args++cap))=renL R xs) (hwx:labL R.length xs=true) (ho:q3W σ R R hs) (hwo:wfMO R.length hs=true) (hnd:z1C R=true) (h1000:memR (.x 1000) R=false) (hm:σ.obj (.x 1000)=m) (hrow:rowM m=true)
  (hK:∀r hs' m',Post r hs' m'→hs'.length=hs.length→((r.q1y=true∧r.q7d R.length=true)∧q4M R R.length R hs'=true)∧K (putO (q9w σ.q3B R hs' m') dst (r.ren R))):q7r P dst .call (f::args) K σ:=by
 intro E _ n G a w o os hp hl hdst hd h;obtain⟨fo,als,ts,hop,rfl⟩:=q9I hp;obtain⟨hn,hR⟩:=z4C hnd;have hnR:Ref.x 1000∉R:=fun e=>by rw[z0p.2 e]at h1000;cases h1000
 simp only[q27]at hl;split at hl
 ·rename_i x l hxf hxl;obtain⟨rfl,rfl⟩:x=f∧l=args:=by simpa using hl
  have rf:=h.ev hxf;rw[hf]at rf;generalize hfv:a.eval fo=fv at rf;cases rf with
  |fn _ _ _ us vs hl1 hs1 hh1 hl2 hs2 hh2=>
   obtain⟨k1,k2⟩:=q4V h hxl;let vals:Array Value:=us++als.map a.eval++vs
   have hrun:(execOp a.eval o).run P w=.ok (.enter g vals) w:=by
    simp only[execOp,hop,resolve,hfv,Deferred.ofValue,invoke,Sem.run_bind,Sem.run_pure,Result.andThen_ok,z4a hc.1];rfl
   have hsz:vals.size=xs.length:=by
    have hlen:∀(k:Nat) (l:List AV),(q5q [] k l).length=l.length:=fun k l=>by
     induction l generalizing k with
     |nil=>rfl
     |cons y l ih=>simp[q5q,ih]
    have:=congrArg List.length hx;rw[hlen,q8K]at this;simp only[Zas,Zaq]at this;have k1':als.size=(evL σ l).length:=by simpa using k1
    simp only[vals,Array.size_append,Array.size_map];omega
   have hargs:∀(i:Nat) (x:AV),xs[i]?=some x→AVR (Gc G R []) w x (vals.getD i undef):=by
    intro i x hi;have e:(q5q [] 0 (first++(evL σ l++cap)))[i]?=some (x.ren R):=by rw[hx,q8K,Zae,hi];rfl
    rw[z29,Zaw]at e;have hvl:vals.getD i undef=(us.toList++(als.toList.map a.eval++vs.toList)).getD i undef:=by
     simp[vals,Zba,List.getD_eq_getElem?_getD,←Array.getElem?_toList]
    rw[hvl];cases hy:(first++(evL σ l++cap))[i]? with
    |none=>rw[hy]at e;simp at e
    |some y=>
     rw[hy]at e;simp only[Zav,Zax]at e;have hyv:AVR G w y ((us.toList++(als.toList.map a.eval++vs.toList)).getD i undef):=by
      simp only[List.getD_eq_getElem?_getD];have q1:us.toList.length=first.length:=by simpa using hl1
      have q2:(als.toList.map a.eval).length=(evL σ l).length:=by simpa using k1
      rcases Zbc i first.length with c1|c1
      ·rw[Zag (by omega)];rw[Zag c1]at hy;have:=hh1 i y hy;simpa[Zba,←Array.getElem?_toList]using this
      ·rw[Zao (by omega),q1];rw[Zao c1]at hy;rcases Zbc (i-first.length) (evL σ l).length with c2|c2
       ·rw[Zag (by omega)];rw[Zag c2]at hy;have:=k2 _ y hy;rwa [List.getD_eq_getElem?_getD]at this
       ·rw[Zao (by omega),q2];rw[Zao c2]at hy;have:=hh2 _ y hy;simpa[Zba,←Array.getElem?_toList]using this
     simp only[j2U,aget]at e;have:=z27 hyv;rw[e]at this;exact this.z9U (z9d.1 hwx x (Zaa hi))
   have hent:=h.j71 (vs:=vals) hsz hargs ho hwo hn hR hnR hm hrow;have hInv:Inv.inv P G.f w:=Inv.ext (fun b hb=>h.fr b (Inv.lt (HasInv.holds (P:=P) (E:=E)) b hb) (HasInv.none b hb)) (HasInv.holds (P:=P) (E:=E));have hnew:∀b,inMV (Gc G R []) hs m b→E.w0.heap.size≤b∨E.M b:=fun b hM=>by
    rcases z7W ho hR hm hM with⟨r',o',g1,g2,g3⟩|⟨q',v',p',g1,g2,g3⟩
    ·rw[←g3];exact h.newObj r' o' g2
    ·obtain⟨e2,s2⟩:=p';exact h.newLam _ v' e2 s2 b g2 g3
   have hown:∀b,Inv.own P b→¬inMV (Gc G R []) hs m b:=fun b hb hM=>by
    have hlt:=Inv.lt (HasInv.holds (P:=P) (E:=E)) b hb;have hno:=HasInv.none (P:=P) (E:=E) b hb;rcases hnew b hM with h6|h6
    ·omega
    ·exact hno h6
   refine .inr (.inr ⟨g,vals,hrun,(hc.2 (Gc G R []) w vals hInv hown hent).mono fun e w' ⟨r,hs',m',G',v,p1,p2,p3,prow,p4⟩=>⟨v,p2,?_⟩⟩);obtain⟨⟨q1,q2⟩,q3⟩:=hK r hs' m' p1 p3;let G0:q0x:={ G with b:=updf G.b (.x 1000) (G'.b (.x 1000)) }
   have h0:SR E n G0 σ.q3B a.tmps w:=h.q3B _;have hne:∀r,r≠.x 1000→G0.b r=G.b r:=fun r hr=>q0U _ _ hr
   have hb:∀i,G'.b (.x i)=G0.b (renR R (.x i)):=fun i=>by
    by_cases hi:i=1000
    ·subst hi;rw[q5V hR];simp[G0]
    ·rw[p4.ext0 i hi,hne]
     ·rfl
     ·intro e
      by_cases hi2:i<R.length
      ·have:=Zaa (q0P hi2);rw[e]at this;exact hnR this
      ·simp[renR,List.getD_eq_getElem?_getD,Zdl (Nat.le_of_not_lt hi2)]at e;exact hi e
   have hout:Out E (z4g (Gc G R []) hs m w) G0 σ.q3B R:=by
    refine⟨fun r o hr hm1 hM=>?_,fun q v p b hq' hvb hqR hM=>?_,hnew⟩
    ·obtain⟨hr1,o2,hr2,_⟩:=σ.q3F r hr;rw[hne r hr1]at hM;rcases z7W ho hR hm hM with⟨r',o',g1,g2,g3⟩|⟨q',v',p',g1,g2,g3⟩
     ·have e:=h.inj _ _ _ _ g2 hr2 g3;subst e;rcases g1 with g1|g1
      ·exact hm1 g1
      ·exact hr1 g1
     ·obtain⟨e1,s1⟩:=p';exact h.lamObj _ v' e1 s1 _ g2 g3 r o2 hr2 rfl
    ·rcases z7W ho hR hm hM with⟨r',o',g1,g2,g3⟩|⟨q',v',p',g1,g2,g3⟩
     ·obtain⟨e1,s1⟩:=p;exact h.lamObj q v e1 s1 b hq' hvb r' o' g2 g3
     ·have:=h.lamInj _ _ _ _ _ _ b hq' g2 hvb g3;subst this;obtain⟨r,off,rfl,hm1⟩:=g1;exact hqR r off rfl hm1
   obtain⟨hlen,hget⟩:=q4C ho;have hpre:∀r∈R,∃o,σ.q3B.obj r=some o:=fun r hr=>by
    obtain⟨i,hi⟩:=Zap hr;have hil:i<hs.length:=by rw[←hlen];exact(Zab.1 hi).1
    exact⟨_,St.j1D (hget i r _ hi (Zaf hil)) (fun e=>hnR (e▸hr))⟩
   have hno:σ.q3B.obj (.x 1000)=none:=by
    cases hh:σ.q3B.obj (.x 1000)with
    |none=>rfl
    |some o=>exact absurd rfl (σ.q3F _ hh).1
   have h5:=h0.j8j (E1:=z4g (Gc G R []) hs m w) rfl rfl hb hout hpre hn hR hnR hno (p3.trans hlen.symm) p4 q2 prow;have h6:AVR G' w' r v:=by simpa using p4.slot 0 r (by simp[aget])
   subst hdst;have h7:AVR (Gb G0 G' R) w' (r.ren R) v:=AVR.z9D (G:=G0) hn hb q1.1 q1.2 h6;exact⟨_,_,q3,h5.putO hd h7⟩
 ·cases hl
/-! ### Functions -/
theorem SR.j76(h:SR E n G σ ts w){r:AV}{v:Value}(hr:AVR G w r v)(hl:r.lab?=none){hs':List AObj}{m':Option AObj}(hlen:hs'.length≤1000)(ho:∀(i:Nat) (o:AObj),hs'[i]?=some o→σ.obj (.x i)=some o)(hm:σ.obj (.x 1000)=m')(hrow:rowM m'=true):
  SR E 1 { G with lam:=fun q=>match q with|.c (.x i) off=>if i<hs'.length then G.lam (.c (.x i) off)else none|_=>none } ⟨[(0,r)],[],numO 0 hs'++mob m'⟩ #[v] w:=by
 let G1:q0x:={ G with lam:=fun q=>match q with|.c (.x i) off=>if i<hs'.length then G.lam (.c (.x i) off)else none|_=>none }
 have hobj:∀r' o,St.obj ⟨[(0,r)],[],numO 0 hs'++mob m'⟩ r'=some o→((∃i,r'=.x i∧i<hs'.length)∨(r'=.x 1000∧rowO o=true))∧σ.obj r'=some o:=by
  intro r' o hr';rcases objH hlen hr' with⟨i,rfl,hi,h1⟩|⟨rfl,h1⟩
  ·exact⟨.inl ⟨i,rfl,hi⟩,ho i o h1⟩
  ·exact⟨.inr ⟨rfl,by rw[h1]at hrow;exact hrow⟩,hm.trans h1⟩
 have hlam:∀(q:Lab) (p:Value×Nat×Nat),G1.lam q=some p→G.lam q=some p:=by
  intro q p hq;simp only[G1]at hq;split at hq
  ·split at hq
   ·exact hq
   ·cases hq
  ·cases hq
 refine{ size:=rfl,slot:=fun s x hx=>?_,obj:=fun r' o hr'=>?_,objf:=fun r' o hr'=>h.objf _ _ (hobj r' o hr').2,inj:=fun r1 r2 o1 o2 h1 h2 hb=>h.inj _ _ _ _ (hobj r1 o1 h1).2 (hobj r2 o2 h2).2 hb,lam:=fun q v e sz hq=>h.lam q v e sz (hlam q _ hq),lamObj:=fun q v e sz b hq hb r' o hr'=>h.lamObj q v e sz b (hlam q _ hq) hb _ _ (hobj r' o hr').2,
         lamInj:=fun q q' v v' p p' b hq hq' hb hb'=>h.lamInj q q' v v' p p' b (hlam q _ hq) (hlam q' _ hq') hb hb',newObj:=fun r' o hr'=>h.newObj _ _ (hobj r' o hr').2,newLam:=fun q v e sz b hq hb=>h.newLam q v e sz b (hlam q _ hq) hb,ext:=h.ext,fr:=h.fr,top:=h.top,ext0:=h.ext0,own0:=fun r' cs x s hr' hx=>h.own0 _ cs x s (hobj _ _ hr').2 hx,os:=h.os,tape:=h.tape,output:=h.output }
 ·simp only[aget]at hx;split at hx
  ·rename_i e;subst e;cases hx;have:(#[v]:Array Value).getD 0 undef=v:=rfl;rw[this];exact z3p (G:=G) rfl rfl hl hr
  ·cases hx
 ·obtain⟨h1,h2⟩:=hobj r' o hr';rcases h1 with⟨i,rfl,hi⟩|⟨rfl,hro⟩
  ·exact(h.obj _ _ h2).mono (Ext.refl _ _) rfl rfl (fun _ _ _ _ _ _=>rfl) (fun j p hp=>by simp only[if_pos hi];exact hp)
  ·exact ObjR.row (G:=G) hro rfl rfl (h.obj _ _ h2)
theorem j3b[HasInv P E]{a:Act}(h:SR E n G σ a.tmps w){k:Nat}{fn:Func}{l:List LRes}{xs:List AV}(hl:q1u P fn.results.toList=some l)(hr:q9J σ k l=some xs):∃v,(results fn a.tmps).run P w=.ok v w∧AVR G w (mkA xs) v∧(mkA xs).lab?=none:=by
 obtain⟨vs,g1,g2,g3⟩:=z5J (P:=P) (a:=a) h hl hr;have h5:(fn.results.mapM (q5r a)).run P w=.ok vs.toArray w:=by
  rw[Array.mapM_eq_mapM_toList];simp only[Sem.run_map,g1,Result.andThen_ok]
 have h6:(results fn a.tmps).run P w=.ok (if h:vs.toArray.size=1 then vs.toArray[0]else .tuple vs.toArray) w:=by
  unfold results;simp only[Sem.run_bind]
  erw[h5]
  rfl
 refine⟨_,h6,?_⟩;match xs,vs,g2,g3 with
 |[x],[v],_,g3=>
  have:=g3 0 x rfl;exact⟨by simpa[mkA]using this.1,AV.q3I this.2.1⟩
 |[],[],_,_=>exact⟨by simpa[mkA]using AVR.tuple (G:=G) (w:=w) [] #[] rfl (fun _ h=>by simp at h) (fun _ _ h=>by simp at h),rfl⟩
 |x::y::xs,u::v::vs,g2,g3=>
  refine⟨?_,rfl⟩;have:(u::v::vs).toArray.size≠1:=by simp
  rw[dif_neg this];refine .tuple _ _ (by simpa using g2) (fun z hz=>?_) (fun i z hz=>?_)
  ·obtain⟨i,hi⟩:=Zap hz;exact(g3 i z hi).2.1
  ·have:=(g3 i z hz).1;simpa[List.getD_eq_getElem?_getD]using this
def RetV(x:Option (List AV))(hs:Option (List AObj))(m:Option AObj)(Post:AV→List AObj→Option AObj→Prop):Prop:=∃y h,x=some y∧hs=some h∧rowM m=true∧Post (mkA y) h m
theorem j06{x:List AV}{hs:List AObj}{m:Option AObj}{Post:AV→List AObj→Option AObj→Prop}:RetV (some x) (some hs) m Post=(rowM m=true∧Post (mkA x) hs m):=
 propext ⟨fun⟨_,_,e,e',h⟩=>by cases e;cases e';exact h,fun h=>⟨_,_,rfl,rfl,h⟩⟩
def retV(l:List LRes)(n:Nat)(Post:AV→List AObj→Option AObj→Prop):Exit→St→Prop
 |.normal,σ=>RetV (q9J σ n l) (q6I σ 0 n) (aget σ.H 1000) Post
 |.ret,σ=>RetV (q9J σ n l) (q6I σ 0 n) (aget σ.H 1000) Post
 |_,_=>False
theorem z8y{l:List LRes}{n:Nat}{Post:AV→List AObj→Option AObj→Prop}{σ:St}:retV l n Post .normal σ=RetV (q9J σ n l) (q6I σ 0 n) (aget σ.H 1000) Post:=rfl
theorem j5d{l:List LRes}{n:Nat}{Post:AV→List AObj→Option AObj→Prop}{σ:St}:retV l n Post .ret σ=RetV (q9J σ n l) (q6I σ 0 n) (aget σ.H 1000) Post:=rfl
theorem j9z{f:FuncId}{fn:Func}{c:Code}{L:q0m}{l:List LRes}{xs:List AV}{hs:List AObj}{m:Option AObj}{Post:AV→List AObj→Option AObj→Prop}(hok:q5J P f=true)(hf:P.funcs[f]?=some fn)(hb:fn.body=some c)(hL:q5N P fn.ntmps c=some L.strip)(hl:q1u P fn.results.toList=some l)
  (hn:xs.length≤fn.ntmps) (hlen:hs.length≤1000) (h:LW P L (retV l hs.length Post) ⟨q8z 0 xs,[],numO 0 hs++mob m⟩):MV P f xs hs m Post:=by
 refine⟨hok,fun G w vs hI hown hsr=>calls_of_wp hf hb ?_⟩;let E:Entry:=z4g G hs m w
 haveI:HasInv P E:=⟨hI,hown⟩
 have h0:=SR.j9p hsr hn;refine wp_mono (z5w (E:=E) (d:=[]) L hL h h0 rfl) fun e a' w' ⟨G',σ',h1,h2,h3⟩=>?_
 have fin:RetV (q9J σ' hs.length l) (q6I σ' 0 hs.length) (aget σ'.H 1000) Post→∃v,(results fn a'.tmps).run P w'=.ok v w'∧∃r hs' m' G' v',Post r hs' m'∧Ending.returned v=.returned v'∧hs'.length=hs.length∧rowM m'=true∧SR E 1 G' ⟨[(0,r)],[],numO 0 hs'++mob m'⟩ #[v'] w':=fun⟨x,hs',hr,ho,hro,hp⟩=>by
  obtain⟨v,g1,g2,g3⟩:=j3b (P:=P) (a:=a') h2 hl hr;obtain⟨o1,o2⟩:=z05 ho;exact⟨_,g1,_,hs',_,_,_,hp,rfl,o1,hro,h2.j76 g2 g3 (by omega) (fun i o hi=>by have:=o2 i o hi;rw[Zaw]at this;exact this) rfl hro⟩
 cases e with
 |normal=>obtain⟨v,g1,g2⟩:=fin h1;exact⟨h3,v,g1,g2⟩
 |ret=>obtain⟨v,g1,g2⟩:=fin h1;exact⟨h3,v,g1,g2⟩
 |exit id=>exact h1.elim
 |goto l=>exact h1.elim
 |panic ch=>exact h1.elim
 |outgrown=>exact h1.elim
theorem q0t.mv{f:FuncId}{n:Nat}{L:q0m}{R:List LRes}(h:q0t P f n L R)(hok:q5J P f=true){xs:List AV}{hs:List AObj}{m:Option AObj}{Post:AV→List AObj→Option AObj→Prop}(hn:Nat.ble xs.length n=true)(hlen:Nat.ble hs.length 1000=true)
  (hr:RUN P L [] (retV R hs.length Post) ⟨q8z 0 xs,[],numO 0 hs++mob m⟩):MV P f xs hs m Post:=by
 obtain⟨fn,c,h1,h2,h3,h4,rfl⟩:=h;exact j9z hok h1 h2 h3 h4 (Zdj hn) (Zdj hlen) hr
theorem q0e.mv{dst:Option Nat}{f:LX}{args:List LX}{K:St→Prop}{σ:St}{g:FuncId}{first cap:List AV}{xs:List AV}{hs:List AObj}{m:Option AObj}{Post:AV→List AObj→Option AObj→Prop}(R:List Ref)(hf:σ.ev f=.fn (.func g) first cap)(hc:MV P g xs hs m Post)
  (hx:q5q [] 0 (first++(evL σ args++cap))=renL R xs) (hwx:labL R.length xs=true) (ho:q3W σ R R hs) (hwo:wfMO R.length hs=true) (hnd:z1C R=true) (h1000:memR (.x 1000) R=false) (hm:σ.obj (.x 1000)=m) (hrow:rowM m=true)
  (hK:∀r hs' m',Post r hs' m'→((r.q1y=true∧r.q7d R.length=true)∧q4M R R.length R hs'=true)∧K (putO (q9w σ.q3B R hs' m') dst (r.ren R))):q0e P dst .call (f::args) K σ:=
 q7r.mv hf R hc hx hwx ho hwo hnd h1000 hm hrow (fun r hs' m' h _=>⟨(hK r hs' m' h).1,trivial,(hK r hs' m' h).2⟩)
abbrev MVE(P:Program)[Inv P](fn:FuncId)(xs:List AV)(hs:List AObj)(m:Option AObj)(r:AV)(hs':List AObj)(m':Option AObj):Prop:=MV P fn xs hs m (fun r1 h1 m1=>r1=r∧h1=hs'∧m1=m')
theorem q0e.mvE{dst:Option Nat}{f:LX}{args:List LX}{K:St→Prop}{σ:St}{g:FuncId}{first cap:List AV}{xs:List AV}{hs hs1:List AObj}{m m1:Option AObj}{r:AV}(R:List Ref)(hf:σ.ev f=.fn (.func g) first cap)(hc:MVE P g xs hs m r hs1 m1)
  (hx:q5q [] 0 (first++(evL σ args++cap))=renL R xs) (hwx:labL R.length xs=true) (ho:q3W σ R R hs) (hwo:wfMO R.length hs=true) (hnd:z1C R=true) (h1000:memR (.x 1000) R=false) (hm:σ.obj (.x 1000)=m) (hrow:rowM m=true)
  (hb:(r.q1y=true∧r.q7d R.length=true)∧q4M R R.length R hs1=true) (hK:K (putO (q9w σ.q3B R hs1 m1) dst (r.ren R))):q0e P dst .call (f::args) K σ:=
 q0e.mv R hf hc hx hwx ho hwo hnd h1000 hm hrow (fun r' hs' m' ⟨e1,e2,e3⟩=>by subst e1;subst e2;subst e3;exact⟨hb,hK⟩)
end Go.Av
/- An element is put into a row that may come to stand elsewhere. -/
namespace Go.Av
variable {E:Entry} {n:Nat} {G:q0x} {σ:St} {ts:Array Value} {w:World} {P:Program} [Inv P]
attribute [go_sem] z8y j5d j06 mob rowM AV.q1y AV.q9l q7V z2W AObj.q1y AV.q7d labL AObj.wfM wfMO q4M setM q9w St.q3B
theorem q4Y(sz:Nat)(fs:List D)(c:Nat):rowO (.cells (rowC sz fs c))=true:=by
 simp only[rowO,Zaj];intro x hx;unfold rowC at hx;rcases Zbb.1 hx with hx|hx
 ·obtain⟨y,_,rfl⟩:=Zak.1 hx;rfl
 ·rw[(Zcy.1 hx).2]
theorem SR.addX(h:SR E n G σ ts w)(hno:σ.obj (.x 1000)=none){o:AObj}(hro:rowO o=true)(hf:G.f (G.b (.x 1000))=0)(hb:∀r o',σ.obj r=some o'→G.b r≠G.b (.x 1000))(hlam:∀q v p,G.lam q=some (v,p)→v.ownBlock≠some (G.b (.x 1000)))
  (hn:E.w0.heap.size≤G.b (.x 1000)∨E.M (G.b (.x 1000))) (ho:ObjR G w (.x 1000) o):SR E n G (σ.setObj (.x 1000) o) ts w:=by
 have obj:∀r o',(σ.setObj (.x 1000) o).obj r=some o'→(r=.x 1000∧o'=o)∨σ.obj r=some o':=fun r o' h1=>by
  rw[St.q0X]at h1;split at h1
  ·rename_i e;exact .inl ⟨e.symm,by simpa using h1.symm⟩
  ·exact .inr h1
 refine{ h with obj:=fun r o' h1=>?_,objf:=fun r o' h1=>?_,inj:=fun r r' o1 o2 h1 h2 he=>?_,lamObj:=fun q v e sz b h1 h2 r o' h3=>?_,newObj:=fun r o' h1=>?_,own0:=fun r cs x t h1 hx=>?_ }
 ·rcases obj r o' h1 with⟨rfl,rfl⟩|h1
  ·exact ho
  ·exact h.obj r o' h1
 ·rcases obj r o' h1 with⟨rfl,rfl⟩|h1
  ·exact hf
  ·exact h.objf r o' h1
 ·rcases obj r o1 h1 with⟨k1,_⟩|k1<;>rcases obj r' o2 h2 with⟨k2,_⟩|k2
  ·rw[k1,k2]
  ·rw[k1]at he;exact absurd he.symm (hb r' o2 k2)
  ·rw[k2]at he;exact absurd he (hb r o1 k1)
  ·exact h.inj r r' o1 o2 k1 k2 he
 ·rcases obj r o' h3 with⟨rfl,rfl⟩|h3
  ·exact fun e=>hlam q v _ h1 (by rw[e];exact h2)
  ·exact h.lamObj q v e sz b h1 h2 r o' h3
 ·rcases obj r o' h1 with⟨rfl,rfl⟩|h1
  ·exact hn
  ·exact h.newObj r o' h1
 ·rcases obj _ _ h1 with⟨_,e⟩|h1
  ·subst e;obtain⟨cs',e,hd⟩:=z0y (o:=.cells cs) hro;cases e;rcases hd x hx with⟨d,rfl⟩|rfl<;>rfl
  ·exact h.own0 r cs x t h1 hx
theorem SR.j7n(h:SR E n G σ ts w){r:Ref}{sz c:Nat}{fs:List D}(ho:σ.obj r=some (.cells (rowC sz fs c)))(hfs:∀y∈fs,y.cells.length=sz)(hc:fs.length≤c∧c≤maxLen):
  ∃el xs,w.ownsRow 0 el sz (.slice (some (at_ (G.b r) 0)) fs.length c) fs.length xs∧q9S w (.slice (some (at_ (G.b r) 0)) fs.length c)∧∀(i:Nat) (y:D),(fs.flatMap D.cells)[i]?=some y→RD G.f w y (xs.getD i undef):=by
 obtain⟨arr,el,h1,h2,h3⟩:=h.obj _ _ ho;have hl:=q4j hfs hc.1;rw[hl]at h2;have hle:fs.length*sz≤c*sz:=Zbx _ hc.1;refine⟨el,arr.toList.take (fs.length*sz),⟨by rw[Zcb,show arr.toList.length=c*sz by simpa using h2];exact Nat.min_eq_left hle,.inr ⟨G.b r,c,arr,rfl,Zar _,h1,hc.1,hc.2,h2,rfl⟩⟩,fun b a2 el2 fr hb hh x hx=>?_,fun i y hy=>?_⟩
 ·simp[Value.ownBlock,at_]at hb;subst hb;rw[h1]at hh;cases hh;obtain⟨i,hi,rfl⟩:=List.mem_iff_getElem.1 hx;have hi':i<arr.size:=by simpa using hi
  have:=(h3 i ((rowC sz fs c)[i]'(by rw[hl,←h2];exact hi')) (Zaf _)).2.1;simpa[hi']using this
 ·have hi:i<fs.length*sz:=by rw[←q0G hfs];exact(Zab.1 hy).1
  have hx:(rowC sz fs c)[i]?=some (.d y):=by
   rw[rowC,Zag (by rw[Zas,q0G hfs];exact hi),Zae,hy];rfl
  have:=(h3 i _ hx).1.dinv;rw[List.getD_eq_getElem?_getD,Zbi,if_pos hi];simpa using this
def RowX(G:q0x)(σ:St)(v:Value):Prop:=v=.slice none 0 0∨∃o k c,σ.obj (.x 1000)=some o∧v=.slice (some (at_ (G.b (.x 1000)) 0)) k c
theorem SR.j80(h:SR E n G σ ts w){v v':Value}{w':World}{e sz m:Nat}{xs':List Value}{fs:List D}(hv:RowX G σ v)
  (hg:Grow w w' v v' 0) (hown:w'.ownsRow 0 e sz v' m xs') (hm:m≠0) (hone:q9S w' v') (hfl:fs.length=m) (hfs:∀y∈fs,y.cells.length=sz)
  (hrd:∀(i:Nat) (y:D),(fs.flatMap D.cells)[i]?=some y→RD G.f w' y (xs'.getD i undef)):
  ∃b c,m≤c∧c≤maxLen∧v'=.slice (some (at_ b 0)) m c∧SR E n { G with b:=updf G.b (.x 1000) b } (σ.q3B.setObj (.x 1000) (.cells (rowC sz fs c))) ts w':=by
 rcases hown.2 with⟨_,h0⟩|⟨g,cap,cur,rfl,hbg,hgg,hnc,hcm,hcs,htake⟩
 ·exact absurd h0 hm
 refine⟨g,cap,hnc,hcm,rfl,?_⟩;have h1:=h.q3B g;have hne:∀r,r≠.x 1000→updf G.b (.x 1000) g r=G.b r:=fun r hr=>q0U _ _ hr
 have old:∀b,v.ownBlock=some b→∃o,σ.obj (.x 1000)=some o∧b=G.b (.x 1000):=fun b hb=>by
  rcases hv with rfl|⟨o,k,c,h2,rfl⟩
  ·cases hb
  ·simp[Value.ownBlock,at_]at hb;exact⟨o,h2,hb.symm⟩
 have hX:∀b,v.ownBlock=some b→(∀r o,σ.q3B.obj r=some o→updf G.b (.x 1000) g r≠b)∧(∀q v p,G.lam q=some (v,p)→v.ownBlock≠some b)∧(E.w0.heap.size≤b∨E.M b):=fun b hb=>by
  obtain⟨o,ho,rfl⟩:=old b hb;refine⟨fun r o' hr e=>?_,fun q vq p hq hvb=>?_,h.newObj _ _ ho⟩
  ·obtain⟨h2,o2,h4,_⟩:=σ.q3F r hr;rw[hne r h2]at e;exact h2 (h.inj _ _ _ _ h4 ho e)
  ·obtain⟨e1,s1⟩:=p;exact h.lamObj q vq e1 s1 _ hq hvb _ _ ho rfl
 have hf0:∀b,v.ownBlock=some b→G.f b=0:=fun b hb=>by
  obtain⟨o,ho,rfl⟩:=old b hb;exact h.objf _ _ ho
 have hext:Ext G.f w G.f w':=⟨hg.size,fun _=>Zal _,fun b i hi=>by
  by_cases hb:v.ownBlock=some b
  ·rw[hf0 b hb]at hi;omega
  ·have hlt:b<w.heap.size:=by
    rcases Zbc b w.heap.size with h2|h2
    ·exact h2
    ·rw[h.top b h2]at hi;omega
   simp only[World.cell?,at_];rw[hg.block b hlt hb],fun b es c hb hm=>by rw[hg.block b (Zat.1 hm).1 (fun e=>by rw[hf0 b e]at hb;omega)];exact hm⟩
 have h2:SR E n { G with f:=G.f,b:=updf G.b (.x 1000) g } σ.q3B ts w':=h1.z1I (fun b=>v.ownBlock=some b) hX hext (fun b hb hx=>⟨hg.block b hb hx,rfl⟩) (fun b hb=>h.top b (Zbw hg.size hb)) hg.os hg.tape hg.output;have hgn:v.ownBlock=some g∨w.heap.size≤g:=by
  rcases hg.own with h3|⟨b,h3,h4⟩
  ·exact .inl h3.symm
  ·simp[Value.ownBlock]at h3;subst h3;exact .inr h4
 refine SR.addX (G:={ G with f:=G.f,b:=updf G.b (.x 1000) g }) h2 ?_ (q4Y sz fs cap) ?_ ?_ ?_ ?_ ?_
 ·cases hh:σ.q3B.obj (.x 1000)with
  |none=>rfl
  |some o=>exact absurd rfl (σ.q3F _ hh).1
 ·show G.f (updf G.b (.x 1000) g (.x 1000))=0
  rw[q0V];rcases hgn with h4|h4
  ·exact hf0 g h4
  ·exact h.top g h4
 ·intro r o hr;show updf G.b (.x 1000) g r≠updf G.b (.x 1000) g (.x 1000)
  rw[q0V];rcases hgn with h4|h4
  ·exact(hX g h4).1 r o hr
  ·have:=(h1.obj r o hr).lt;exact fun e=>by rw[show({ G with b:=updf G.b (.x 1000) g }:q0x).b r=g from e]at this;omega
 ·intro q vq p hq;show vq.ownBlock≠some (updf G.b (.x 1000) g (.x 1000))
  rw[q0V];rcases hgn with h4|h4
  ·exact(hX g h4).2.1 q vq p hq
  ·intro hb;obtain⟨e1,s1⟩:=p;have:=(h.lam q vq e1 s1 hq).lt hb;omega
 ·show _≤updf G.b (.x 1000) g (.x 1000)∨E.M (updf G.b (.x 1000) g (.x 1000))
  rw[q0V];rcases hgn with h4|h4
  ·exact(hX g h4).2.2
  ·exact .inl (Zbw h.ext.size h4)
 ·have hl:=q4j hfs (c:=cap) (by omega);refine⟨cur,e,by show w'.heap[updf G.b (.x 1000) g (.x 1000)]?=_;rw[q0V];exact hgg,by rw[hcs,hl],fun i x hx=>?_⟩;have hi:i<cur.size:=by rw[hcs,←hl];exact(Zab.1 hx).1
  have hmem:cur.getD i undef∈cur.toList:=by simp[hi]
  have h1c:=hone g cur e _ rfl hgg _ hmem;unfold rowC at hx
  by_cases hlt:i<(fs.flatMap D.cells).length
  ·rw[Zag (by simpa using hlt),Zae]at hx;cases hy:(fs.flatMap D.cells)[i]? with
   |none=>simp[hy]at hx
   |some y=>
    simp[hy]at hx;subst hx;have hcx:cur.getD i undef=xs'.getD i undef:=by
     rw[q0G hfs,hfl]at hlt;rw[←htake,List.getD_eq_getElem?_getD,Zbi,if_pos hlt];simp
    exact⟨.d _ _ (by rw[hcx];exact hrd i y hy),h1c,(fun q hq=>by cases hq),(fun e he=>by cases he)⟩
  ·rw[Zao (by simpa using hlt)]at hx;have:x=.junk:=(Zcy.1 (Zaa hx)).2;subst this;exact⟨.junk _,h1c,(fun q hq=>by cases hq),(fun e he=>by cases he)⟩
end Go.Av
/- Calls in the midst of a reckoning whose arguments are rows that go over. -/
namespace Go.Av
variable {E:Entry} {n:Nat} {G:q0x} {σ:St} {ts:Array Value} {w:World} {P:Program} [Inv P]
end Go.Av
/- A row that came to stand elsewhere is data from then on. -/
namespace Go.Av
variable {E:Entry} {n:Nat} {G:q0x} {σ:St} {ts:Array Value} {w:World} {P:Program} [Inv P]
def Gh(σ τ:St):Prop:=∀(E:Entry) (n:Nat) (G:q0x) (ts:Array Value) (w:World),SR E n G σ ts w→∃G',SR E n G' τ ts w
theorem Gh.refl(σ:St):Gh σ σ:=fun _ _ G _ _ h=>⟨G,h⟩
theorem q0e.ghost{dst:Option Nat}{p:Prim}{xs:List LX}{N:St→Prop}(h:q0e P dst p xs (fun τ=>∃τ',Gh τ τ'∧N τ') σ):q0e P dst p xs N σ:=
 fun E _ n G a w o os h1 h2 h3 h4 h5=>(h E n G a w o os h1 h2 h3 h4 h5).mono fun v w' ⟨G',σ',q1,q2⟩=>by
  obtain⟨_,τ',g1,g2⟩:=q1;obtain⟨G2,g3⟩:=g1 _ _ _ _ _ q2;exact⟨G2,τ',⟨trivial,g2⟩,g3⟩
def AV.frzX(fs:List D)(c:Nat):AV→AV
 |.rs r n c'=>if r=.x 1000 then(if n=fs.length∧c'=c then .d (.list fs)else .junk)else .rs r n c'
 |x=>x
def frzO(fs:List D)(c:Nat):AObj→AObj
 |.cells cs=>.cells (cs.map (AV.frzX fs c))
 |o=>o
def St.frzX(σ:St)(fs:List D)(c:Nat):St:={ ρ:=amap (AV.frzX fs c) σ.ρ,L:=amap (frzO fs c) σ.L,H:=adel (amap (frzO fs c) σ.H) 1000 }
attribute [go_sem] St.frzX AV.frzX frzO
end Go.Av
