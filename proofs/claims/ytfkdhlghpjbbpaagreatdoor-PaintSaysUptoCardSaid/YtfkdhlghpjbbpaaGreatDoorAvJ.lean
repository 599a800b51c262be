import Derived.Test.YtfkdhlghpjbbpaaGreatDoorAvI
set_option linter.unusedSectionVars false
/- A region drawn in any order that makes one map: its entries stand in some order. -/
namespace Go.Av
variable {P:Program} [Inv P]
/-! ### A map that is not written any more is data -/
def AV.frzM(a:Nat)(ks vs:List D):AV→AV
 |.mp r=>if r=.l a then .d (.map ks vs)else .mp r
 |x=>x
theorem SR.frzM{E:Entry}{n:Nat}{G:q0x}{σ:St}{ts:Array Value}{w:World}(h:SR E n G σ ts w){a:Nat}{ks vs:List D}(ho:aget σ.L a=some (.mobj ks vs)):
  SR E n { G with f:=updf G.f (G.b (.l a)) 1 } ⟨amap (AV.frzM a ks vs) σ.ρ,[],σ.H⟩ ts w:=by
 have ho':σ.obj (.l a)=some (.mobj ks vs):=ho;have hwk:Wk { σ with L:=[] } σ:=⟨fun _ _ h=>h,fun r o hr=>by
  cases r with
  |x t=>exact hr
  |l k=>simp[St.obj,aget]at hr⟩
 have h1:=h.wk hwk;have hf0:G.f (G.b (.l a))=0:=h.objf _ _ ho';have hlt:=(h.obj _ _ ho').lt;have hext:Ext G.f w (updf G.f (G.b (.l a)) 1) w:=⟨Zal _,fun b=>by
  by_cases e:b=G.b (.l a)
  ·rw[e,hf0];exact Zar _
  ·rw[q0U _ _ e];exact Zal _,fun b i hi=>rfl,fun _ _ _ _ h=>h⟩
 have h2:SR E n { G with f:=updf G.f (G.b (.l a)) 1 } { σ with L:=[] } ts w:=by
  refine h1.z1I (fun b=>b=G.b (.l a)) (fun b hb=>?_) hext (fun b hb hx=>⟨rfl,q0U _ _ hx⟩) (fun b hb=>?_) rfl rfl rfl
  ·subst hb;refine⟨fun r o hr e=>?_,fun q v p hq hv=>?_,h.newObj _ _ ho'⟩
   ·have:=h.inj r (.l a) o _ (hwk.obj r o hr) ho' e;subst this;simp[St.obj,aget]at hr
   ·obtain⟨e,sz⟩:=p;exact h.lamObj q v e sz _ hq hv _ _ ho' rfl
  ·have:b≠G.b (.l a):=fun e=>by rw[e]at hb;omega
   rw[q0U _ _ this];exact h.top b hb
 have hrd:RD (updf G.f (G.b (.l a)) 1) w (.map ks vs) (.map (some (G.b (.l a)))):=by
  obtain⟨es,clock,g1,g2⟩:=h.obj _ _ ho';have g3:=g2.ext hext;exact .map ks vs _ es clock (by rw[q0V];omega) g1 g3.1 g3.2.1 g3.2.2.1 g3.2.2.2.1 g3.2.2.2.2.1 g3.2.2.2.2.2
 refine{ h2 with slot:=fun s x hx=>?_ };simp only[q0p]at hx;cases hy:aget σ.ρ s with
 |none=>simp[hy]at hx
 |some y=>
  simp[hy]at hx;subst hx;have:=h2.slot s y hy;cases y with
  |mp r=>
   simp only[AV.frzM];split
   ·rename_i e;subst e;rw[z9n this];exact .d _ _ hrd
   ·exact this
  |_=>exact this
theorem GhoB.frzM{b0:Nat→Nat}{σ:St}{a:Nat}{ks vs:List D}(ho:aget σ.L a=some (.mobj ks vs)):GhoB b0 σ ⟨amap (AV.frzM a ks vs) σ.ρ,[],σ.H⟩:=fun _ _ _ _ _ _ h=>⟨_,h.frzM ho⟩
/-! ### The entries -/
theorem z4y:∀{ks vs:List D} {k v x:D},ks.length=vs.length→q3g (ks++[k]) (vs++[v]) x=(q3g ks vs x).or (if z0X x k=true then some v else none)
 |[],[],k,v,x,_=>by simp[q3g]
 |[],_::_,_,_,_,h=>by simp at h
 |_::_,[],_,_,_,h=>by simp at h
 |a::ks,b::vs,k,v,x,h=>by
  simp only[Zbh,q3g];split
  ·rfl
  ·exact z4y (by simpa using h)
inductive UE where
 |v (d:Nat) (z:AV)
 |m (d:Nat)
 |u (key:List UInt8) (v:D)
def UE.z3r:UE→Option (Nat×AV)
 |.v d z=>some (d,z)
 |.m d=>some (d,.mp (.l d))
 |.u _ _=>none
def q59(tab:List UE):List (Nat×AV):=tab.filterMap UE.z3r
def q2t(tab:List UE)(j:Nat):Option (Nat×AV):=(tab[j]?).bind UE.z3r
def known(base:List (Nat×AV))(tab:List UE)(ds:List Nat):List (Nat×AV):=base++ds.filterMap (q2t tab)
def entU(key:List UInt8):Nat→List UE→(Nat→Bool)→Option D
 |_,[],_=>none
 |i,.u k v::r,done=>if done i=true∧k=key then some v else entU key (i+1) r done
 |i,_::r,done=>entU key (i+1) r done
def z2E:List UE→List (List UInt8)
 |[]=>[]
 |.u k _::r=>k::z2E r
 |_::r=>z2E r
theorem q95{key:List UInt8}:∀{tab:List UE} {i:Nat} {done:Nat→Bool},(∀j k v,tab[j]?=some (.u k v)→k=key→done (i+j)=false)→entU key i tab done=none
 |[],_,_,_=>rfl
 |e::r,i,done,h=>by
  have ih:entU key (i+1) r done=none:=q95 fun j k v hj hk=>by
   have:=h (j+1) k v (by simpa using hj) hk;rwa [show i+1+j=i+(j+1) by omega]
  cases e with
  |u k v=>
   simp only[entU];split
   ·rename_i h2;have:=h 0 k v rfl h2.2;rw[Zcn,h2.1]at this;cases this
   ·exact ih
  |v d z=>exact ih
  |m d=>exact ih
theorem z0g:∀{tab:List UE} {j:Nat} {k:List UInt8} {v:D},tab[j]?=some (.u k v)→k∈z2E tab
 |[],_,_,_,h=>by simp at h
 |e::r,0,k,v,h=>by simp at h;subst h;simp[z2E]
 |e::r,j+1,k,v,h=>by
  have:=z0g (tab:=r) (by simpa using h);cases e with
  |u _ _=>exact Zbp _ this
  |v _ _=>exact this
  |m _=>exact this
theorem z6h{key:List UInt8}:∀{tab:List UE} {i j:Nat} {k:List UInt8} {v:D} {done:Nat→Bool},(z2E tab).Nodup→tab[j]?=some (.u k v)→done (i+j)=false→
  entU key i tab (fun q=>q==i+j || done q)=(entU key i tab done).or (if key=k then some v else none)
 |[],_,_,_,_,_,_,h,_=>by simp at h
 |e::r,i,0,k,v,done,hn,h,hd=>by
  simp at h;subst h;simp only[z2E,Zbk]at hn;have hmono:∀(r:List UE) (q:Nat),i<q→entU key q r (fun q=>q==i+0 || done q)=entU key q r done:=by
   intro r;induction r with
   |nil=>intros;rfl
   |cons a r ih=>
    intro q hq;have:=ih (q+1) (by omega);have hne:¬q=i:=by omega
    cases a<;>simp only[entU,this];simp[hne]
  have hrest:=hmono r (i+1) (by omega);rw[Zcn]at hd
  by_cases hk:k=key
  ·subst hk;have h0:entU k (i+1) r done=none:=q95 fun j k' v' hj e=>by subst e;exact absurd (z0g hj) hn.1
   simp[entU,hd,h0]
  ·have hk2:¬key=k:=fun e=>hk e.symm
   simp only[entU,hk,hk2,and_false,↓reduceIte,Option.or_none];exact hrest
 |e::r,i,j+1,k,v,done,hn,h,hd=>by
  have hj:r[j]?=some (.u k v):=by simpa using h
  have e1:i+(j+1)=i+1+j:=by omega
  have hne:∀q,q=i→(q==i+(j+1))=false:=fun q hq=>by subst hq;simp
  have hn':(z2E r).Nodup:=by
   cases e with
   |u _ _=>exact(Zbk.1 hn).2
   |v _ _=>exact hn
   |m _=>exact hn
  have ih:=z6h (key:=key) (i:=i+1) hn' hj (by rw[←e1];exact hd);rw[←e1]at ih;cases e with
  |u k' v'=>
   simp only[entU,hne i rfl,Bool.false_or];split
   ·rename_i h2;rfl
   ·exact ih
  |v d z=>exact ih
  |m d=>exact ih
/-! ### The check -/
def z6R:List (List UInt8)→Bool
 |[]=>true
 |a::l => !l.contains a&&z6R l
theorem z4B:∀{l:List (List UInt8)},z6R l=true→l.Nodup
 |[],_=>List.nodup_nil
 |a::l,h=>by
  simp only[z6R,Zac,Zbf]at h;exact Zbk.2 ⟨by simpa using h.1,z4B h.2⟩
def UOK(t md:Nat)(base:List (Nat×AV))(tab:List UE)(ds:List Nat)(o:q0f):UE→Prop
 |.v d z=>((∃v,o=⟨some d,.val v,none⟩∧(q58 v).all (fun s=>(aget (known base tab ds) s).isSome)=true∧pev ⟨known base tab ds,[],[]⟩ v=some z)∨∃s,o=⟨some d,.asg (.t s),none⟩∧aget (known base tab ds) s=some z∧z.lab?.isNone=true)∧(z.has (.l md)=false∨0∈ds)
 |.m d=>d=md∧o=⟨some d,.prim (.mkMap t) [] [],none⟩
 |.u key v=>∃x,o=⟨none,.prim (.mapUpd t) [.t md,.k (.d (.str key)),x] [],none⟩∧0∈ds∧∃s,x=.t s∧aget (known base tab ds) s=some (.d v)
theorem FamW.mapU{l:List q0f}{deps:List (List Nat)}{K:St→Prop}{σ:St}{t kt e md:Nat}(base:List (Nat×AV))(tab:List UE)(hlen:tab.length=l.length)
  (ht:P.underlying t=some (.map kt e)) (hkt:P.underlying kt=some .string)
  (hb:∀p∈base,aget σ.ρ p.1=some p.2) (hbd:∀p∈base,(q59 tab).all (fun q => !(q.1==p.1))=true∧p.2.has (.l md)=false)
  (hn:z2X ((q59 tab).map (·.1))=true) (hk:z6R (z2E tab)=true) (h0:tab[0]?=some (.m md))
  (hok:∀i o u,l[i]?=some o→tab[i]?=some u→UOK t md base tab (deps.getD i []) o u)
  (h:∀b0 ks vs,(∀s,q3g ks vs (.str s)=entU s 0 tab fun _=>true)→(∀k∈ks,q0Y .string k=true)→∃τ'',GhoB b0 ⟨q59 tab,[(md,.mobj ks vs)],[]⟩ τ''∧K τ''):FamW P l deps K σ:=by
 intro b0;have hN:=q8Y hn;have hKn:=z4B hk
 -- one slot, one operation
 have huniq:∀{tab:List UE} {i j:Nat} {p q:Nat×AV},((q59 tab).map (·.1)).Nodup→q2t tab i=some p→q2t tab j=some q→p.1=q.1→i=j:=by
  intro tab;induction tab with
  |nil=>intro i j p q _ h1;simp[q2t]at h1
  |cons a r ih=>
   intro i j p q hn h1 h2 he;have hmem:∀{r:List UE} {j:Nat} {q:Nat×AV},q2t r j=some q→q.1∈(q59 r).map (·.1):=fun{r j q} hq=>by
    simp only[q2t,Zbv]at hq;obtain⟨u,g1,g2⟩:=hq;exact Zak.2 ⟨q,Zdh.2 ⟨u,Zaa g1,g2⟩,rfl⟩
   have hn':((q59 r).map (·.1)).Nodup:=by
    cases ha:a.z3r with
    |none=>simpa[q59,Zct,ha]using hn
    |some p=>simp only[q59,Zct,ha,Zai,Zbk]at hn;exact hn.2
   match i,j with
   |0,0=>rfl
   |0,j+1=>
    have g1:a.z3r=some p:=by simpa[q2t]using h1
    have g2:q2t r j=some q:=by simpa[q2t]using h2
    simp only[q59,Zct,g1,Zai,Zbk]at hn;exact absurd (he▸hmem g2) hn.1
   |i+1,0=>
    have g1:a.z3r=some q:=by simpa[q2t]using h2
    have g2:q2t r i=some p:=by simpa[q2t]using h1
    simp only[q59,Zct,g1,Zai,Zbk]at hn;exact absurd (he▸hmem g2) hn.1
   |i+1,j+1=>
    have:=ih (i:=i) (j:=j) hn' (by simpa[q2t]using h1) (by simpa[q2t]using h2) he;omega
 have hsm:∀{i:Nat} {q:Nat×AV},q2t tab i=some q→q∈q59 tab:=fun{i q} hq=>by
  simp only[q2t,Zbv]at hq;obtain⟨u,g1,g2⟩:=hq;exact Zdh.2 ⟨u,Zaa g1,g2⟩
 let I:(Nat→Bool)→St→Prop:=fun done τ=>(∀i j,done i=true→j∈deps.getD i []→done j=true)∧(∀p∈base,aget τ.ρ p.1=some p.2)∧(∀j p,done j=true→q2t tab j=some p→aget τ.ρ p.1=some p.2)∧
  (done 0=true→∃ks vs,aget τ.L md=some (.mobj ks vs)∧ks.length=vs.length∧(∀k∈ks,q0Y .string k=true)∧∀s,q3g ks vs (.str s)=entU s 0 tab done)
 have hknown:∀{done:Nat→Bool} {τ:St} {ds:List Nat},I done τ→(∀j∈ds,done j=true)→∀{s:Nat} {x:AV},aget (known base tab ds) s=some x→aget τ.ρ s=some x:=fun{done τ ds} hI hds {s x} hx=>by
  have hm:(s,x)∈base++ds.filterMap (q2t tab):=q8P hx;rcases Zbb.1 hm with h1|h1
  ·exact hI.2.1 _ h1
  ·obtain⟨j,h2,h3⟩:=Zdh.1 h1;exact hI.2.2.1 j _ (hds j h2) h3
 refine⟨I,⟨σ,.refl σ,fun i j hi=>(by cases hi),hb,fun j p hj=>(by cases hj),fun h=>(by cases h)⟩,?_,?_⟩
 ·intro done τ i x hI hx hdi hdep;refine⟨τ,.refl τ,.inl ?_⟩;obtain⟨u,hu⟩:∃u,tab[i]?=some u:=⟨tab[i]'(by rw[hlen];exact(Zab.1 hx).1),by simp⟩;have hu':=hok i x u hx hu;have hcl:∀k j,(k==i || done k)=true→j∈deps.getD k []→(j==i || done j)=true:=fun k j hk hj=>by
   by_cases hki:k=i
   ·subst hki;simp[hdep j hj]
   ·have:done k=true:=by simpa[hki]using hk
    simp[hI.1 k j this hj]
  have hent:∀(s:List UInt8),(∀k v,u≠.u k v)→entU s 0 tab (fun k=>k==i || done k)=entU s 0 tab done:=fun s hne=>by
   have key:∀(r:List UE) (q:Nat),(∀j k v,r[j]?=some (.u k v)→q+j≠i)→entU s q r (fun k=>k==i || done k)=entU s q r done:=by
    intro r;induction r with
    |nil=>intros;rfl
    |cons a r ih=>
     intro q hq;have hr:=ih (q+1) fun j k v hj=>by have:=hq (j+1) k v (by simpa using hj);omega
     cases a with
     |u k v=>
      have:=hq 0 k v rfl;have h4:¬q=i:=by omega
      simp only[entU,hr];simp[h4]
     |v d z=>exact hr
     |m d=>exact hr
   refine key tab 0 fun j k v hj e=>?_
   have:j=i:=by omega
   subst this;rw[hu]at hj;cases hj;exact hne _ _ rfl
  cases u with
  |v d z=>
   obtain⟨hop,hz⟩:=hu';have hsl:q2t tab i=some (d,z):=by simp[q2t,hu,UE.z3r]
   have hst:I (fun k=>k==i || done k) (τ.put d z):=by
    refine⟨hcl,fun p hp=>?_,fun j p hj hp=>?_,fun hd0=>?_⟩
    ·have:=Zaj.1 (hbd p hp).1 _ (hsm hsl);have hne:¬d=p.1:=by simpa using this
     simp only[St.put,q0A];rw[if_neg hne];exact hI.2.1 p hp
    ·simp only[St.put,q0A]
     by_cases hji:j=i
     ·subst hji;rw[hsl]at hp;cases hp;simp
     ·have hne:¬d=p.1:=fun e=>hji (huniq hN hp hsl e.symm)
      rw[if_neg hne];exact hI.2.2.1 j p (by simpa[hji]using hj) hp
    ·have hi0:¬0=i:=fun e=>by subst e;rw[h0]at hu;cases hu
     obtain⟨ks,vs,q1,q2,q3,q4⟩:=hI.2.2.2 (by simpa[hi0]using hd0);exact⟨ks,vs,q1,q2,q3,fun s=>by rw[q4,hent s fun _ _ h=>by cases h]⟩
   rcases hop with⟨v,rfl,hr,hv⟩|⟨s,rfl,hs,hlab⟩
   ·refine q8v (z9s (σ:=⟨known base tab (deps.getD i []),[],[]⟩) (fun s hs=>?_) (fun r o ho=>by cases r<;>simp[St.obj,aget]at ho) hv) hst;obtain⟨y,hy⟩:=Zdb.1 (Zaj.1 hr s hs);rw[q6B (hknown hI hdep hy),q6B (σ:=⟨known base tab (deps.getD i []),[],[]⟩) hy]
   ·refine z7M ?_;have e1:τ.ev (.t s)=z:=q6B (hknown hI hdep hs);rw[e1];have e2:asgS τ d z=τ.put d z:=by
     cases z<;>first|rfl|(simp[AV.lab?]at hlab)
    rw[e2];exact hst
  |m d=>
   obtain⟨rfl,rfl⟩:=hu';have hsl:q2t tab i=some (d,.mp (.l d)):=by simp[q2t,hu,UE.z3r]
   have hs0:q2t tab 0=some (d,.mp (.l d)):=by simp[q2t,h0,UE.z3r]
   have hi0:i=0:=huniq hN hsl hs0 rfl;subst hi0;have hdone:∀j,done j=true→0∉deps.getD j []:=fun j hj h4=>by rw[hI.1 j 0 hj h4]at hdi;cases hdi
   refine q99 (q0e.mkMap ht ⟨hcl,fun p hp=>?_,fun j p hj hp=>?_,fun hd0=>?_⟩)
   ·have:=Zaj.1 (hbd p hp).1 _ (hsm hsl);have hne:¬d=p.1:=by simpa using this
    simp only[St.put,q0A,St.setObj,St.drop,q0p];rw[if_neg hne,hI.2.1 p hp,Zav,q8t (hbd p hp).2]
   ·simp only[St.put,q0A,St.setObj,St.drop,q0p]
    by_cases hji:j=0
    ·subst hji;rw[hsl]at hp;cases hp;simp
    ·have hne:¬d=p.1:=fun e=>hji (huniq hN hp hsl e.symm)
     have hdj:done j=true:=by simpa[hji]using hj
     rw[if_neg hne,hI.2.2.1 j p hdj hp,Zav];congr 1
     have hlj:j<l.length:=by
      rw[←hlen];simp only[q2t,Zbv]at hp;obtain⟨u',g1,_⟩:=hp;exact(Zab.1 g1).1
     simp only[q2t,Zbv]at hp;obtain⟨u',g1,g2⟩:=hp;have g3:=hok j _ u' (Zaf hlj) g1;cases u' with
     |v d' z'=>
      cases g2;rcases g3.2 with g4|g4
      ·exact q8t g4
      ·exact absurd g4 (hdone j hdj)
     |m d'=>
      cases g2;exact absurd g3.1 fun e=>hne e.symm
     |u k v=>cases g2
   ·refine⟨[],[],by simp[St.put,St.setObj,q4c],rfl,fun k hk=>(by cases hk),fun s=>?_⟩;rw[hent s fun _ _ h=>by cases h];exact(q95 fun j k v hj _=>by
     rw[Zaw];cases hb:done j with
     |false=>rfl
     |true=>
      have hlj:j<l.length:=by rw[←hlen];exact(Zab.1 hj).1
      obtain⟨x,_,g2,_⟩:=hok j _ _ (Zaf hlj) hj;exact absurd g2 (hdone j hb)).symm
  |u key v=>
   obtain⟨x,rfl,hd0,s,rfl,hs⟩:=hu';have h0d:=hdep 0 hd0;obtain⟨ks,vs,q1,q2,q3,q4⟩:=hI.2.2.2 h0d;have hs0:q2t tab 0=some (md,.mp (.l md)):=by simp[q2t,h0,UE.z3r]
   have hmp:=hI.2.2.1 0 _ h0d hs0
   have hnew:q3g ks vs (.str key)=none:=by
    rw[q4];refine q95 fun j k v' hj hk=>?_
    subst hk;rw[Zaw]
    have hji:j=i:=by
     have hinj:∀{tab:List UE} {i j:Nat} {k:List UInt8} {v v':D},(z2E tab).Nodup→tab[i]?=some (.u k v)→tab[j]?=some (.u k v')→i=j:=by
      intro tab;induction tab with
      |nil=>intro i j k v v' _ h1;simp at h1
      |cons a r ih=>
       intro i j k v v' hn h1 h2;match i,j with
       |0,0=>rfl
       |0,j+1=>
        simp at h1;subst h1;exact absurd (z0g (tab:=r) (by simpa using h2)) (Zbk.1 hn).1
       |i+1,0=>
        simp at h2;subst h2;exact absurd (z0g (tab:=r) (by simpa using h1)) (Zbk.1 hn).1
       |i+1,j+1=>
        have hn':(z2E r).Nodup:=by
         cases a with
         |u _ _=>exact(Zbk.1 hn).2
         |v _ _=>exact hn
         |m _=>exact hn
        have:=ih (i:=i) (j:=j) hn' (by simpa using h1) (by simpa using h2);omega
     exact hinj hKn hj hu
    subst hji;exact hdi
   refine q99 (q0e.z9l (ks:=ks) (vs:=vs) (key:=.str key) (v:=v) (s:=md) (q6B hmp) q1 rfl (by rw[show τ.ev (.t s)=_ from q6B (hknown hI hdep hs)];rfl) ht hkt rfl q3 hnew ⟨hcl,fun p hp=>hI.2.1 p hp,fun j p hj hp=>?_,fun _=>?_⟩)
   ·have hji:¬j=i:=fun e=>by subst e;simp[q2t,hu,UE.z3r]at hp
    exact hI.2.2.1 j p (by simpa[hji]using hj) hp
   ·refine⟨ks++[.str key],vs++[v],by simp[St.setObj,q4c],by simp[q2],fun k hk=>?_,fun s'=>?_⟩
    ·rcases Zbb.1 hk with h4|h4
     ·exact q3 k h4
     ·simp at h4;subst h4;rfl
    ·have h5:=z6h (key:=s') (i:=0) (done:=done) hKn hu (by rw[Zaw];exact hdi);simp only[Zaw]at h5;rw[z4y q2,q4,h5];congr 1
     simp[z0X]
 ·intro done τ hall hI;have hl0:0<l.length:=by rw[←hlen];exact(Zab.1 h0).1
  obtain⟨ks,vs,q1,q2,q3,q4⟩:=hI.2.2.2 (hall 0 hl0);obtain⟨τ'',g,hK⟩:=h b0 ks vs (fun s=>by
   rw[q4];have key:∀(r:List UE) (q:Nat),q+r.length≤l.length→entU s q r done=entU s q r fun _=>true:=by
    intro r;induction r with
    |nil=>intros;rfl
    |cons a r ih=>
     intro q hq;simp only[Zad]at hq;have hr:=ih (q+1) (by omega);have:=hall q (by omega);cases a<;>simp only[entU,hr];simp[this]
   exact key tab 0 (by omega)) q3
  refine⟨τ'',(GhoB.wk ⟨fun s x hs=>?_,fun r o ho=>?_⟩).trans g,hK⟩
  ·have hm:(s,x)∈q59 tab:=q8P hs;obtain⟨u,g1,g2⟩:=Zdh.1 hm;obtain⟨j,hj⟩:=Zap g1;have hlj:j<l.length:=by rw[←hlen];exact(Zab.1 hj).1
   exact hI.2.2.1 j (s,x) (hall j hlj) (by simp[q2t,hj,g2])
  ·cases r with
   |l k=>
    simp only[St.obj,aget]at ho;split at ho
    ·rename_i e;subst e;cases ho;exact q1
    ·cases ho
   |x k=>simp[St.obj,aget]at ho
def UOKs(t md:Nat)(base:List (Nat×AV))(tab:List UE):List q0f→List UE→List (List Nat)→Prop
 |o::l,u::us,ds::dd=>UOK t md base tab ds o u∧UOKs t md base tab l us dd
 |[],[],_=>True
 |_,_,_=>False
theorem UOKs.at{t md:Nat}{base:List (Nat×AV)}{tab:List UE}:∀{l:List q0f} {us:List UE} {dd:List (List Nat)},UOKs t md base tab l us dd→∀{i:Nat} {o:q0f} {u:UE},l[i]?=some o→us[i]?=some u→UOK t md base tab (dd.getD i []) o u
 |o::l,u::us,ds::dd,⟨h,_⟩,0,_,_,h1,h2=>by simp at h1 h2;subst h1;subst h2;exact h
 |o::l,u::us,ds::dd,⟨_,h⟩,i+1,_,_,h1,h2=>UOKs.at h (i:=i) (by simpa using h1) (by simpa using h2)
 |[],[],_,_,i,_,_,h1,_=>by simp at h1
theorem j5o{l:List q0f}{deps:List (List Nat)}{k:List Item}{K:Exit→St→Prop}{σ:St}{t kt e md:Nat}(base:List (Nat×AV))(tab:List UE)(hlen:tab.length=l.length)
  (ht:P.underlying t=some (.map kt e)) (hkt:P.underlying kt=some .string)
  (hb:∀p∈base,aget σ.ρ p.1=some p.2) (hbd:∀p∈base,(q59 tab).all (fun q => !(q.1==p.1))=true∧p.2.has (.l md)=false)
  (hn:z2X ((q59 tab).map (·.1))=true) (hk:z6R (z2E tab)=true) (h0:tab[0]?=some (.m md))
  (hok:UOKs t md base tab l tab deps)
  (h:∀b0 ks vs,(∀s,q3g ks vs (.str s)=entU s 0 tab fun _=>true)→(∀k∈ks,q0Y .string k=true)→∃τ'',GhoB b0 ⟨q59 tab,[(md,.mobj ks vs)],[]⟩ τ''∧POP P .normal k K τ''):RUN P (.fam l deps) k K σ:=
 FamW.mapU base tab hlen ht hkt hb hbd hn hk h0 (fun _ _ _ h1 h2=>hok.at h1 h2) h
end Go.Av
/- A region drawn in any order, of which one call's outcome is not told outright. -/
namespace Go.Av
variable {P:Program} [Inv P] {α:Type}
theorem j3y(y:AV):y.q5Y []=y:=by
 cases y<;>first|rfl|(rename_i q e sz l;cases q<;>rfl)
theorem q9i:∀(ρ:List (Nat×AV)),amap (AV.q5Y []) ρ=ρ
 |[]=>rfl
 |(k,y)::r=>by
  have ih:=q9i r;simp only[amap];rw[j3y,ih]
theorem q0e.j9B{d:Nat}{f:LX}{args:List LX}{N:St→Prop}{σ:St}{g:FuncId}{ds:List D}{Post:Res→Prop}(hf:σ.ev f=.fn (.func g) [] [])(hc:q0y P g ds Post)(hok:q5J P g=true)
  (hx:evL σ args=ds.map .d) (hK:∀x,Post (.one x)→N (σ.put d (.d x))) (hone:∀r,Post r→∃x,r=.one x):q0e P (some d) .call (f::args) N σ:=by
 have hren:renL [] (ds.map AV.d)=ds.map AV.d:=by
  have:∀(l:List D),renL [] (l.map AV.d)=l.map AV.d:=by
   intro l;induction l with
   |nil=>rfl
   |cons a l ih=>simp only[Zai,renL];rw[show(AV.d a).ren []=.d a from rfl];exact congrArg _ ih
  exact this ds
 refine q0e.j8t [] [] hf (hc.q4X hok) (xs:=ds.map .d) ?_ ?_ trivial rfl rfl rfl fun r hs' ⟨x,h1,h2,h3⟩=>?_
 ·rw[hx,hren];have:∀(l:List D) (k:Nat),q5q [] k (l.map AV.d)=l.map AV.d:=by
   intro l;induction l with
   |nil=>intro k;rfl
   |cons a l ih=>intro k;simp only[Zai,q5q];rw[ih];rfl
  simpa using this ds 0
 ·have:∀(l:List D) (k:Nat),wfAL [] 0 k (l.map AV.d)=true:=by
   intro l;induction l with
   |nil=>intro k;rfl
   |cons a l ih=>intro k;simp only[Zai,wfAL,ih,Bool.and_true];rfl
  exact this ds 0
 ·subst h2;subst h3;obtain⟨x,rfl⟩:=hone x h1;refine⟨⟨rfl,rfl⟩,?_⟩;have e:retO (q41 (q0F σ (q4l [])) [] []) (some d) [] (Res.av (.one x))=σ.put d (.d x):=by
   have e1:q41 (q0F σ (q4l [])) [] []=σ:=by
    show({ σ with ρ:=amap (AV.q5Y []) σ.ρ }:St)=σ
    rw[q9i]
   rw[e1];rfl
  rw[e];exact hK x h1
def q6D(base:List (Nat×AV))(dsts:List Nat)(z:Nat→AV)(ds:List Nat):List (Nat×AV):=base++ds.filterMap fun j=>(dsts[j]?).map fun d=>(d,z j)
theorem j6L{l:List q0f}{deps:List (List Nat)}{K:St→Prop}{σ:St}(b0:Nat→Nat)(σ0:St)(hg:GhoB b0 σ σ0)(Φ:α→Prop)(hne:∃x,Φ x)(base:List (Nat×AV))(dsts:List Nat)(z:α→Nat→AV)(i0:Nat)
  (hlen:dsts.length=l.length) (hi0:i0<l.length) (hn:z2X dsts=true) (hb:∀p∈base,aget σ0.ρ p.1=some p.2) (hbd:∀p∈base,dsts.contains p.1=false)
  (hind:∀j,j<l.length→(∀x y,z x j=z y j)∨j=i0∨((z92 deps).getD j []).contains i0=true)
  (hok:∀i d o,l[i]?=some o→dsts[i]?=some d→i≠i0→∀x,Φ x→∀(τ:St) (N:St→Prop),(∀p∈q6D base dsts (z x) (deps.getD i []),aget τ.ρ p.1=some p.2)→τ.L=σ0.L→τ.H=σ0.H→N (τ.put d (z x i))→LOps P [o] N τ)
  (hok0:∀d o,l[i0]?=some o→dsts[i0]?=some d→∀(τ:St) (N:St→Prop),(∀x,Φ x→∀p∈q6D base dsts (z x) (deps.getD i0 []),aget τ.ρ p.1=some p.2)→τ.L=σ0.L→τ.H=σ0.H→(∀x,Φ x→N (τ.put d (z x i0)))→LOps P [o] N τ)
  (h:∀x,Φ x→∃τ'',GhoB b0 ⟨q6D base dsts (z x) (List.range l.length),σ0.L,σ0.H⟩ τ''∧K τ''):
  ∃I:(Nat→Bool)→St→Prop,(∃τ0,GhoB b0 σ τ0∧I (fun _=>false) τ0)∧
  (∀(done:Nat→Bool) (τ:St) (i:Nat) (x:q0f),I done τ→l[i]?=some x→done i=false→(∀j∈deps.getD i [],done j=true)→
    ∃τ',GhoB b0 τ τ'∧(LOps P [x] (I fun k=>k==i || done k) τ'∨q3t P x (I fun k=>k==i || done k) τ'))∧
  ∀(done:Nat→Bool) (τ:St),(∀i,i<l.length→done i=true)→I done τ→∃τ',GhoB b0 τ τ'∧K τ':=by
 have hN:=q8Y hn;let S:α→(Nat→Bool)→St→Prop:=fun x done τ=>∀j d,done j=true→dsts[j]?=some d→aget τ.ρ d=some (z x j)
 let B:St→Prop:=fun τ=>(∀p∈base,aget τ.ρ p.1=some p.2)∧τ.L=σ0.L∧τ.H=σ0.H
 let I:(Nat→Bool)→St→Prop:=fun done τ=>z0N deps done∧B τ∧((done i0=true∧∃x,Φ x∧S x done τ)∨(done i0=false∧∀x,Φ x→S x done τ))
 have hknown:∀{x:α} {done:Nat→Bool} {τ:St} {ds:List Nat},B τ→S x done τ→(∀j∈ds,done j=true)→∀p∈q6D base dsts (z x) ds,aget τ.ρ p.1=some p.2:=fun{x done τ ds} hB hS hds p hp=>by
  rcases Zbb.1 hp with h1|h1
  ·exact hB.1 p h1
  ·obtain⟨j,h2,h3⟩:=Zdh.1 h1;obtain⟨d,h4,rfl⟩:=Zay.1 h3;exact hS j d (hds j h2) h4
 have hput:∀{τ:St} {i d:Nat} {y:AV},dsts[i]?=some d→B τ→B (τ.put d y):=fun{τ i d y} hd hB=>by
  refine⟨fun p hp=>?_,hB.2.1,hB.2.2⟩;have h1:=hbd p hp;have hne:¬d=p.1:=fun e=>by
   have:d∈dsts:=Zaa hd;rw[e]at this;rw[Zdk.2 this]at h1;cases h1
  simp only[St.put,q0A];rw[if_neg hne];exact hB.1 p hp
 have hSput:∀{x:α} {done:Nat→Bool} {τ:St} {i d:Nat},dsts[i]?=some d→S x done τ→S x (fun k=>k==i || done k) (τ.put d (z x i)):=fun{x done τ i d} hd hS j e hj he=>by
  simp only[St.put,q0A]
  by_cases hji:j=i
  ·subst hji;rw[hd]at he;cases he;simp
  ·have hne:¬d=e:=fun e1=>hji (by
    subst e1;exact((List.getElem?_inj (Zab.1 hd).1 hN).1 (hd.trans he.symm)).symm)
   rw[if_neg hne];exact hS j e (by simpa[hji]using hj) he
 refine⟨I,⟨σ0,hg,fun i hi=>(by cases hi),⟨hb,rfl,rfl⟩,.inr ⟨rfl,fun x _ j d hj=>(by cases hj)⟩⟩,?_,?_⟩
 ·intro done τ i o ⟨hcl,hB,hS⟩ hx hdi hdep;refine⟨τ,.refl τ,.inl ?_⟩;have hil:i<l.length:=(Zab.1 hx).1;obtain⟨d,hd⟩:∃d,dsts[i]?=some d:=⟨dsts[i]'(by omega),by simp⟩;have hcl':z0N deps (fun k=>k==i || done k):=fun k hk j hj=>by
   by_cases hki:k=i
   ·subst hki;simp[hdep j hj]
   ·have:done k=true:=by simpa[hki]using hk
    simp[hcl k this j hj]
  by_cases hi:i=i0
  ·subst hi;rcases hS with⟨h1,_⟩|⟨_,hS⟩
   ·rw[h1]at hdi;cases hdi
   ·exact hok0 d o hx hd τ _ (fun x hΦ=>hknown hB (hS x hΦ) hdep) hB.2.1 hB.2.2 fun x hΦ=>⟨hcl',hput hd hB,.inl ⟨by simp,x,hΦ,hSput hd (hS x hΦ)⟩⟩
  ·have hi':¬i0=i:=fun e=>hi e.symm
   rcases hS with⟨h1,x,hΦ,hS⟩|⟨h1,hS⟩
   ·exact hok i d o hx hd hi x hΦ τ _ (hknown hB hS hdep) hB.2.1 hB.2.2 ⟨hcl',hput hd hB,.inl ⟨by simp[h1],x,hΦ,hSput hd hS⟩⟩
   ·obtain⟨x,hΦ⟩:=hne;refine hok i d o hx hd hi x hΦ τ _ (hknown hB (hS x hΦ) hdep) hB.2.1 hB.2.2 ⟨hcl',hput hd hB,.inr ⟨by simp[h1,hi'],fun y hy=>?_⟩⟩;rcases hind i hil with h2|h2|h2
    ·rw[h2 x y];exact hSput hd (hS y hy)
    ·exact absurd h2 hi
    ·have:=q92 hcl' (i:=i) (j:=i0) (by simp) h2;simp[hi',h1]at this
 ·intro done τ hall ⟨_,hB,hS⟩;obtain⟨x,hΦ,hS⟩:∃x,Φ x∧S x done τ:=by
   rcases hS with⟨_,h2⟩|⟨h1,_⟩
   ·exact h2
   ·rw[hall i0 hi0]at h1;cases h1
  obtain⟨τ'',g,hK⟩:=h x hΦ;refine⟨τ'',(GhoB.wk ⟨fun s y hs=>?_,fun r o ho=>?_⟩).trans g,hK⟩
  ·exact hknown hB hS (fun j hj=>hall j (by simpa using hj)) (s,y) (q8P hs)
  ·cases r with
   |l k=>show aget τ.L k=some o;rw[hB.2.1];exact ho
   |x k=>show aget τ.H k=some o;rw[hB.2.2];exact ho
end Go.Av
/- An object of which less is known: a nil row as data; a row that gets shorter. -/
namespace Go.Av
variable {P:Program} [Inv P]
theorem SR.wkc{E:Entry}{n:Nat}{G:q0x}{σ:St}{ts:Array Value}{w:World}(h:SR E n G σ ts w){r0:Ref}{cs cs':List AV}(ho':σ.obj r0=some (.cells cs))(hl:cs'.length=cs.length)(hx:∀(i:Nat) (x':AV),cs'[i]?=some x'→∃x,cs[i]?=some x∧(x'=x∨(x=.ns∧x'=.d (.list [])))):
  SR E n G (σ.setObj r0 (.cells cs')) ts w:=by
 have key:∀r o,(σ.setObj r0 (.cells cs')).obj r=some o→∃o',σ.obj r=some o'∧((r=r0∧o=.cells cs'∧o'=.cells cs)∨o=o'):=fun r o hr=>by
  rw[St.q0X]at hr;split at hr
  ·rename_i e;subst e;cases hr;exact⟨_,ho',.inl ⟨rfl,rfl,rfl⟩⟩
  ·exact⟨o,hr,.inr rfl⟩
 refine{ h with slot:=fun s x hs=>h.slot s x (by cases r0<;>exact hs),obj:=fun r o hr=>?_,objf:=fun r o hr=>?_,inj:=fun r r' o o' hr hr' hb=>?_,lamObj:=fun q v e sz b h1 h2 r o hr=>?_,newObj:=fun r o hr=>?_,own0:=fun r c x s hr hm=>?_ }
 ·obtain⟨o',g1,⟨rfl,rfl,rfl⟩|rfl⟩:=key r o hr
  ·obtain⟨arr,el,k1,k2,k3⟩:=h.obj _ _ g1;refine⟨arr,el,k1,by rw[k2,hl],fun i x hi=>?_⟩;obtain⟨y,hy,rfl|⟨rfl,rfl⟩⟩:=hx i x hi
   ·exact k3 i x hy
   ·obtain⟨m1,m2,_,_⟩:=k3 i .ns hy;refine⟨?_,m2,fun q hq=>(by simp[AV.lab?]at hq),fun e he=>(by cases he)⟩;generalize arr.getD i undef=v at m1;cases m1;exact .d _ _ .nils
  ·exact h.obj r o g1
 ·obtain⟨o',g1,_⟩:=key r o hr;exact h.objf r o' g1
 ·obtain⟨o1,g1,_⟩:=key r o hr;obtain⟨o2,g2,_⟩:=key r' o' hr';exact h.inj r r' o1 o2 g1 g2 hb
 ·obtain⟨o1,g1,_⟩:=key r o hr;exact h.lamObj q v e sz b h1 h2 r o1 g1
 ·obtain⟨o1,g1,_⟩:=key r o hr;exact h.newObj r o1 g1
 ·obtain⟨o',g1,⟨h1,h2,rfl⟩|rfl⟩:=key _ _ hr
  ·cases h2;obtain⟨i,hi⟩:=Zap hm;obtain⟨y,hy,rfl|⟨rfl,rfl⟩⟩:=hx i x hi
   ·exact h.own0 r cs x s (h1▸g1) (Zaa hy)
   ·rfl
  ·exact h.own0 r c x s g1 hm
theorem Gh.wkc{σ:St}{r0:Ref}{cs cs':List AV}(ho':σ.obj r0=some (.cells cs))(hl:cs'.length=cs.length)(hx:∀(i:Nat) (x':AV),cs'[i]?=some x'→∃x,cs[i]?=some x∧(x'=x∨(x=.ns∧x'=.d (.list [])))):Gh σ (σ.setObj r0 (.cells cs')):=
 fun _ _ G _ _ h=>⟨G,h.wkc ho' hl hx⟩
theorem Gh.z5L{σ:St}{sz c:Nat}{fs gs:List D}(ho:aget σ.H 1000=some (.cells (rowC sz (fs++gs) c)))(hf:∀y∈fs,y.cells.length=sz)(hg:∀y∈gs,y.cells.length=sz)(hc:(fs++gs).length≤c):
  Gh σ (σ.setObj (.x 1000) (.cells (rowC sz fs c))):=fun E n G ts w h=>GhoB.z5L (b0:=E.b0) ho hf hg hc E n G ts w rfl h
end Go.Av
/- An entry under a key that was there; or not. -/
namespace Go.Av
variable {P:Program} [Inv P] {σ:St} {G:q0x} {w:World}
def mset:List D→List D→D→D→List D
 |k::ks,v::vs,x,y=>if z0X x k then y::vs else v::mset ks vs x y
 |_,vs,_,_=>vs
theorem z4n{kd:TypeDesc}{f:Nat→Nat}{key:D}{kv:Value}(hkey:q0Y kd key=true)(hr:RD f w key kv)(y:D):∀(es:List MapEntry) (ks vs:List D) (i:Nat),ks.length=es.length→vs.length=es.length→(∀k∈ks,q0Y kd k=true)→
  (∀(i:Nat) k e,ks[i]?=some k→es[i]?=some e→RD f w k e.key)→(q3g ks vs key).isSome=true→
  ∃j u e,Instr.findNow kd kv es i=some (some (i+j,u))∧es[j]?=some e∧e.key=kv∧mset ks vs key y=vs.set j y
 |[],[],[],i,_,_,_,_,h=>by simp[q3g]at h
 |[],_::_,_,i,h,_,_,_,_=>by simp at h
 |[],_,_::_,i,_,h,_,_,_=>by simp at h
 |_::_,[],_,i,h,_,_,_,_=>by simp at h
 |_::_,_,[],i,_,h,_,_,_=>by simp at h
 |e::es,k::ks,v::vs,i,h1,h2,h3,h4,h5=>by
  have rk:=h4 0 k e rfl rfl;obtain⟨r,q1,q2⟩:=MapKept.sameNow_of_keys (q2B hkey hr) (q2B (h3 k (by simp)) rk);have q3:=z6w hkey (h3 k (by simp)) hr rk;simp only[mset,q3g,Instr.findNow,q1]at h5 ⊢;cases r with
  |true=>
   have hu:=q2.1 rfl;rw[if_pos (q3.2 hu)];exact⟨0,e.val,e,rfl,rfl,hu.symm,rfl⟩
  |false=>
   have hne:¬z0X key k=true:=fun h=>by have:=q2.2 (q3.1 h);cases this
   rw[if_neg hne]at h5 ⊢;obtain⟨j,u,e',g1,g2,g3,g4⟩:=z4n hkey hr y es ks vs (i+1) (by simpa using h1) (by simpa using h2) (fun k hk=>h3 k (by simp[hk])) (fun i k e hk he=>h4 (i+1) k e (by simpa using hk) (by simpa using he)) h5;exact⟨j+1,u,e',by rw[show i+(j+1)=i+1+j by omega];exact g1,g2,g3,by rw[g4];rfl⟩
theorem q0e.j8m{t kt e:TypeId}{kd:TypeDesc}{m i x:LX}{K:St→Prop}{ks vs:List D}{key v:D}{s:Nat}(hm:σ.ev m=.mp (.l s))(ho:σ.obj (.l s)=some (.mobj ks vs))(hi:σ.ev i=.d key)(hx:(σ.ev x).rd=some v)
  (ht:P.underlying t=some (.map kt e)) (hkt:P.underlying kt=some kd) (hkey:q0Y kd key=true) (hks:∀k∈ks,q0Y kd k=true) (hold:(q3g ks vs key).isSome=true)
  (hK:K (σ.setObj (.l s) (.mobj ks (mset ks vs key v)))):q0e P none (.mapUpd t) [m,i,x] K σ:=by
 intro E _ n G a w o os hp hl hdst hd hσ;obtain⟨M,I,X,hop,rfl⟩:=z0v hp;obtain⟨m',i',x',hm',hi',hx',he⟩:∃m' i' x',q1q M=some m'∧q1q I=some i'∧q1q X=some x'∧[m,i,x]=[m',i',x']:=by
  simp only[q27]at hl;split at hl
  ·rename_i a b h1 h2;split at h2
   ·rename_i c d h3 h4;split at h4
    ·rename_i e f h5 h6;cases h6;cases h4;cases h2;exact⟨_,_,_,h1,h3,h5,(Option.some.inj hl).symm⟩
    ·cases h4
   ·cases h2
  ·cases hl
 cases he;have rm:=hσ.ev hm';have ri:=hσ.ev hi';have rx:=hσ.ev hx';rw[hm]at rm;rw[hi]at ri;have hmv:=z9n rm;have ri:=ri.dinv;have rx:=rx.rd hx;obtain⟨es,clock,hh,k1,k2,k3,k4,k5,k6⟩:=hσ.obj _ _ ho;have hkk:=q2B hkey ri;have hlt:=(hσ.obj _ _ ho).lt;obtain⟨j,u,e0,h2,h3,h4,h5⟩:=z4n hkey ri v es.toList ks vs 0 (by simpa using k1) (by simpa using k2) hks (fun i k e h1 h2=>k5 i k e h1 (by simpa using h2)) hold;rw[Zaw]at h2;have hjk:((es[j]?).map (·.key)).getD (a.eval I)=a.eval I:=by
  have:es[j]?=some e0:=by simpa using h3
  rw[this];exact h4
 have hrun:(Instr.mapUpdate t (.map (some (G.b (.l s)))) (a.eval I) (a.eval X)).run P w=.ok () { w with heap:=w.heap.setIfInBounds (G.b (.l s)) (.map (es.modify j fun e=>{ e with key:=a.eval I,val:=a.eval X }) clock) }:=by
  simp[Instr.mapUpdate,run_underlying ht,MapKept.run_getObj_map hh,MapKept.run_checkKey hkt hkk,MapKept.run_findKey hkt h2,hjk,MapKept.run_keyThatStays hkk,MapKept.run_setObj_map _ hh,Result.andThen]
 have hget:∀q,(es.modify j fun e=>{ e with key:=a.eval I,val:=a.eval X })[q]?=if j=q then(es[q]?).map fun e=>{ e with key:=a.eval I,val:=a.eval X }else es[q]?:=fun q=>by
  rw[Array.getElem?_modify]
 have hS:=hσ.setIter (w':={ w with heap:=w.heap.setIfInBounds (G.b (.l s)) (.map (es.modify j fun e=>{ e with key:=a.eval I,val:=a.eval X }) clock) }) ho (o':=.mobj ks (mset ks vs key v)) rfl (by simp)
  (fun b hb=>Zbl (Ne.symm hb)) rfl rfl rfl fun hext=>by
    refine⟨_,_,by simp[hlt];exact⟨rfl,rfl⟩,by simp[k1],by rw[h5];simp[k2],?_,fun e he=>?_,fun i k e hk he=>?_,fun i k e hk he=>?_⟩
    ·have:(es.modify j fun e=>{ e with key:=a.eval I,val:=a.eval X }).toList.map (·.born)=es.toList.map (·.born):=by
      apply List.ext_getElem?;intro q;rw[Zae,Zae,Array.getElem?_toList,Array.getElem?_toList,hget];split
      ·cases es[q]?<;>rfl
      ·rfl
     rw[this];exact k3
    ·obtain⟨q,hq⟩:=Zap he;rw[Array.getElem?_toList,hget]at hq;split at hq
     ·cases h6:es[q]? with
      |none=>rw[h6]at hq;cases hq
      |some e1=>
       rw[h6]at hq;cases hq;exact k4 e1 (by rw[←Array.getElem?_toList]at h6;exact Zaa h6)
     ·exact k4 e (by rw[←Array.getElem?_toList]at hq;exact Zaa hq)
    ·rw[hget]at he;split at he
     ·rename_i hji;subst hji;have h6:es[j]?=some e0:=by simpa using h3
      rw[h6]at he;cases he;have:=k5 j k e0 hk h6;rw[h4]at this;exact this.ext hext
     ·exact(k5 i k e hk he).ext hext
    ·rw[h5,List.getElem?_set]at hk;rw[hget]at he;split at hk
     ·rename_i hji;rw[if_pos hji]at he;split at hk
      ·cases hk;cases h6:es[i]? with
       |none=>rw[h6]at he;cases he
       |some e1=>rw[h6]at he;cases he;exact rx.ext hext
      ·cases hk
     ·rename_i hji;rw[if_neg hji]at he;exact(k6 i k e hk he).ext hext
 refine .inr (.inl ⟨_,?_,G,_,⟨trivial,hK⟩,by simpa[Act.put]using hS⟩);rcases hop with hop|hop<;>simp only[execOp,hop,hmv,Sem.run_bind,hrun]<;>rfl
end Go.Av
/- Two structs whose fields may be structs of plain fields: they are the same where their data are. -/
namespace Go.Av
variable {P:Program} [Inv P] {G:q0x} {w:World} {σ:St}
def isK:Nat→D→Bool
 |0,.int _ _=>true
 |1,.bool _=>true
 |2,.str _=>true
 |_,_=>false
def allK:List Nat→List D→Bool
 |[],[]=>true
 |k::ks,x::xs=>isK k x&&allK ks xs
 |_,_=>false
theorem z84{k:Nat}{x:D}(h:isK k x=true):eqC k x x=some true:=by
 unfold isK at h;split at h<;>first|(simp[eqC];done)|cases h
theorem z6i:∀{ks:List Nat} {xs:List D},allK ks xs=true→eqCs ks xs xs=some true
 |[],[],_=>rfl
 |[],_::_,h=>by cases h
 |_::_,[],h=>by cases h
 |k::ks,x::xs,h=>by
  simp only[allK,Zac]at h;simp[eqCs,z84 h.1,z6i h.2]
theorem z4Q:∀{ks:List Nat} {xs:List D},allK ks xs=true→xs.length=ks.length
 |[],[],_=>rfl
 |[],_::_,h=>by cases h
 |_::_,[],h=>by cases h
 |k::ks,x::xs,h=>by
  simp only[allK,Zac]at h;simp[z4Q h.2]
theorem z8Q:∀{ks ls:List Nat} {xs:List D},allK (ks++ls) xs=true→allK ks (xs.take ks.length)=true∧allK ls (xs.drop ks.length)=true
 |[],_,_,h=>⟨rfl,h⟩
 |k::ks,ls,[],h=>by cases h
 |k::ks,ls,x::xs,h=>by
  simp only[Zbh,allK,Zac]at h;obtain⟨h1,h2⟩:=z8Q h.2;exact⟨by simp only[Zad,Zbz,allK,h.1,h1,Bool.and_self],h2⟩
def z6x(P:Program):Nat→List Field→Option (List Nat)
 |_,[]=>some []
 | i, f :: r => if f.offset = i ∧ f.name ≠ "_" then
   match(P.underlying f.type).bind q8A with
   |some k=>(z6x P (i+1) r).map (k::·)
   |none=>match P.underlying f.type with
    |some (.struct fs)=>if P.stoodInHeld f.type=false then
     match q9D P 0 fs.toList,P.info? f.type with
     |some ks,some ti=>if ti.size=ks.length then(z6x P (i+ks.length) r).map (ks++·)else none
     |_,_=>none
     else none
    |_=>none
  else none
theorem z7H:∀{fs:List Field} {ks:List Nat} {i:Nat} {xs:List D} (us vs:Array Value) (d:Nat),z6x P i fs=some ks→allK ks xs=true→i+xs.length=us.size→i+xs.length=vs.size→
  (∀(j:Nat) (x:D),xs[j]?=some x→RD G.f w x (us.getD (i+j) undef))→(∀(j:Nat) (y:D),xs[j]?=some y→RD G.f w y (vs.getD (i+j) undef))→(Op.eqFields (d+2) us vs fs).run P w=.ok true w
 |[],ks,i,xs,us,vs,d,hk,he,h1,h2,hx,hy=>by simp[Op.eqFields]
 |f::fs,ks,i,xs,us,vs,d,hk,he,h1,h2,hx,hy=>by
  simp only[z6x]at hk;split at hk
  ·rename_i hf;split at hk
   ·rename_i k hk1;obtain⟨l,hk2,rfl⟩:=Zay.1 hk;cases xs with
    |nil=>cases he
    |cons x xs=>
     simp only[allK,Zac]at he;have hi1:i<us.size:=by simp at h1;omega
     have hi2:i<vs.size:=by simp at h2;omega
     have r1:=j1F (P:=P) hk1 (hx 0 x rfl) (hy 0 x rfl) (z84 he.1) (d+1);have r2:=z7H us vs d hk2 he.2 (by simp at h1;omega) (by simp at h2;omega) (fun j z hz=>by have:=hx (j+1) z (by simpa using hz);rw[show i+(j+1)=i+1+j by omega]at this;exact this)
      (fun j z hz=>by have:=hy (j+1) z (by simpa using hz);rw[show i+(j+1)=i+1+j by omega]at this;exact this)
     simp only[Op.eqFields,hf.2,ne_eq,not_false_eq_true,if_true,hf.1,Sem.run_bind,z0h hk1 us i hi1,z0h hk1 vs i hi2,Result.andThen_ok];rw[show i+0=i from rfl]at r1;rw[r1];simp[r2]
   ·split at hk
    ·rename_i fs2 hu;split at hk
     ·rename_i hst;split at hk
      ·rename_i k2 ti hk2 hti;split at hk
       ·rename_i hsz;obtain⟨l,hk3,rfl⟩:=Zay.1 hk;obtain⟨a1,a2⟩:=z8Q he;have hl1:=z4Q a1;have hl2:=z4Q he;rw[Zaq]at hl2;have hlt:(xs.take k2.length).length=k2.length:=hl1;have hpart:∀cs:Array Value,(part f.type cs i).run P w=.ok (.agg (cs.extract i (i+k2.length))) w:=fun cs=>by
         have ha:aggT (.struct fs2)=true:=rfl;simp[part,q5M hu,ha,sizeOf,typeInfo,hti,hsz]
        have hget:∀(cs:Array Value) (j:Nat),j<k2.length→i+k2.length≤cs.size→(cs.extract i (i+k2.length)).getD j undef=cs.getD (i+j) undef:=fun cs j hj hc=>by
         simp only[Zba];rw[Array.getElem?_extract];rw[if_pos (by omega)]
        have r1:=z4Z (P:=P) (G:=G) (w:=w) (us.extract i (i+k2.length)) (vs.extract i (i+k2.length)) d (i:=0) hk2 (z6i a1) (by rw[hlt,Array.size_extract];omega) (by rw[hlt,Array.size_extract];omega)
         (fun j x hj=>by
           have hjl:j<k2.length:=by rw[←hlt];exact(Zab.1 hj).1
           rw[Zaw,hget us j hjl (by omega)];exact hx j x (by rw[List.getElem?_take_of_lt hjl]at hj;exact hj))
         (fun j x hj=>by
           have hjl:j<k2.length:=by rw[←hlt];exact(Zab.1 hj).1
           rw[Zaw,hget vs j hjl (by omega)];exact hy j x (by rw[List.getElem?_take_of_lt hjl]at hj;exact hj))
        have r2:=z7H us vs d hk3 a2 (by rw[Zby];omega) (by rw[Zby];omega)
         (fun j z hz=>by rw[Zbn]at hz;have:=hx _ z hz;rw[←Nat.add_assoc]at this;exact this)
         (fun j z hz=>by rw[Zbn]at hz;have:=hy _ z hz;rw[←Nat.add_assoc]at this;exact this)
        have hfo:P.fieldsOf f.type=fs2:=by simp[Program.fieldsOf,hu]
        have hut:P.underlying f.type=some (.struct (P.fieldsOf f.type)):=by rw[hfo];exact hu
        have r3:=run_equalIn_agg (P:=P) w (d+1) f.type (us.extract i (i+k2.length)) (vs.extract i (i+k2.length)) hut hst;rw[hfo]at r3;simp only[Op.eqFields,hf.2,ne_eq,not_false_eq_true,if_true,hf.1,Sem.run_bind,hpart us,hpart vs,Result.andThen_ok];rw[r3,r1];simp[r2]
       ·cases hk
      ·cases hk
     ·cases hk
    ·cases hk
  ·cases hk
theorem q0e.j7s{d:Nat}{t:TypeId}{x y:LX}{K:St→Prop}{cs:List D}{ks:List Nat}(hx:σ.ev x=.d (.agg cs))(hy:σ.ev y=.d (.agg cs))(ht:P.underlying t=some (.struct (P.fieldsOf t)))(hp:P.stoodInHeld t=false)(hk:z6x P 0 (P.fieldsOf t).toList=some ks)(hc:allK ks cs=true)
  (hg:P.eqGuardType P.depth t=false) (hK:K (σ.put d (.d (.bool false)))):q0e P (some d) (.eq .neq t) [x,y] K σ:=by
 refine q0e.value (.d (.bool false)) (fun E _ n G a w o os hp' hl hσ=>?_) hK;obtain⟨X,Y,yt,hop,rfl⟩:=j21 hp';obtain⟨x',y',hx',hy',he⟩:=z4t hl;cases he;have rx:=hσ.ev hx';have ry:=hσ.ev hy';rw[hx]at rx;rw[hy]at ry;have rx:=rx.dinv;have ry:=ry.dinv;generalize hv:a.eval X=v at rx;generalize hv2:a.eval Y=v2 at ry;cases rx with|agg _ us hl1 _ h1=>?_;cases ry with|agg _ vs hl2 _ h2=>?_;refine⟨.bool false,?_,.d _ _ (.bool _)⟩
 have hr:=z7H (P:=P) (G:=G) (w:=w) us vs 9997 hk hc (by simp[hl1]) (by simp[hl2]) (fun j x hj=>by simpa using h1 j x hj) (fun j x hj=>by simpa using h2 j x hj);have hgd:(eqGuard .neq t X Y (.agg us) (.agg vs)).run P w=.ok () w:=by
  exact run_eqGuard_agg w .neq t X Y us vs hg
 simp only[execOp,hop,hv,hv2,Sem.run_bind,hgd,Result.andThen_ok];rw[run_neq_struct,run_equalIn_agg w 9999 t us vs ht hp,hr];rfl
end Go.Av
