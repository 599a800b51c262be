import Derived.Test.YtgfdeebaihmkpaaGreatDoorAvD
import Derived.IntWalk
set_option linter.unusedSectionVars false
/- Stepping through statements over abstract states: equations to rewrite with. -/
namespace Go.Av
variable {P:Program} [Inv P]
theorem q39{K K':St→Prop}(hK:∀σ,K σ→K' σ):∀{l:List q0b} {σ:St},q6I P l K σ→q6I P l K' σ
 |[],σ,h=>hK σ h
 |o::l,σ,h=>by
  simp only[q6I]at *;cases hg:o.guard with
  |none=>rw[hg]at h;exact q9H (fun _=>q39 hK) h
  |some sb=>
   obtain⟨s,b⟩:=sb;rw[hg]at h;rcases h with⟨t,h1,h2,h3⟩|⟨h1,h2⟩
   ·exact .inl ⟨t,h1,fun e=>q9H (fun _=>q39 hK) (h2 e),fun e=>q39 hK (h3 e)⟩
   ·exact .inr ⟨h1,q39 hK h2⟩
/-! ### What is asked may be more -/
theorem j3z{o:q0b}{K K':St→Prop}{σ:St}(hK:∀σ,K σ→K' σ)(h:DStep P o K σ):DStep P o K' σ:=by
 unfold DStep at *;split at h
 ·rename_i hm;rw[if_pos hm];obtain⟨e,h1,h2⟩:=h;exact⟨e,h1,hK _ h2⟩
 ·rename_i hm;rw[if_neg hm];exact q6C hK h
theorem z7U{K K':St→Prop}(hK:∀σ,K σ→K' σ):∀{l:List q0b} {σ:St},DOps P l K σ→DOps P l K' σ
 |[],σ,h=>hK σ h
 |_::_,_,h=>j3z (fun _=>z7U hK) h
theorem z7H{last:List q0b}{K K':St→Prop}(hK:∀σ,K σ→K' σ):∀{al:List (List q0b×q0b)} {σ:St},AOps P last K al σ→AOps P last K' al σ
 |[],σ,h=>q39 hK h
 |(l,o)::r,σ,h=>q39 (fun σ h=>h.mono fun _=>z7H hK) h
theorem j0g:∀{L:q0g} {K K':Exit→St→Prop} {σ:St},LW P L K σ→(∀e σ,K e σ→K' e σ)→LW P L K' σ:=by
 intro L;induction L with
 |skip=>intro K K' σ h hK;exact hK _ _ h
 |reg l=>intro K K' σ h hK;exact q39 (fun σ=>hK _ σ) h
 |dreg l=>intro K K' σ h hK;exact z7U (fun σ=>hK _ σ) h
 |fam l deps=>intro K K' σ h hK;exact fun b0=>let⟨I,h1,h2,h3⟩:=h b0;⟨I,h1,h2,fun done τ a b=>let⟨τ',g,hk⟩:=h3 done τ a b;⟨τ',g,hK _ _ hk⟩⟩
 |alt al last=>intro K K' σ h hK;exact z7H (fun σ=>hK _ σ) h
 |join c ih=>
  intro K K' σ h hK;refine ih h fun e σ h=>?_
  cases e with
  |normal=>obtain⟨τ,g,hk⟩:=h;exact⟨τ,g,hK _ _ hk⟩
  |_=>exact hK _ _ h
 |dead ds c ih=>
  intro K K' σ h hK;refine ih h fun e σ h=>?_
  cases e<;>exact hK _ _ h
 |seq a b iha ihb=>
  intro K K' σ h hK;refine iha h fun e σ h=>?_
  cases e<;>first|exact hK _ _ h|exact ihb h hK
 |cond c a b iha ihb=>
  intro K K' σ h hK;obtain⟨t,h1,h2,h3⟩:=h;exact⟨t,h1,fun e=>iha (h2 e) hK,fun e=>ihb (h3 e) hK⟩
 |block id c ih=>
  intro K K' σ h hK;refine ih h fun e σ h=>?_
  cases e with
  |exit id'=>
   simp only[j02]at *;split at h
   ·rename_i e;rw[if_pos e];exact hK _ _ h
   ·rename_i e;rw[if_neg e];exact hK _ _ h
  |_=>exact hK _ _ h
 |loop c ih=>
  intro K K' σ h hK;obtain⟨α,r,I,h0,h1,h2⟩:=h;refine⟨α,r,I,h0,h1,fun m τ hI=>ih (h2 m τ hI) fun e σ h=>?_⟩;cases e<;>first|exact hK _ _ h|exact h
 |exit id=>intro K K' σ h hK;exact hK _ _ h
 |bad=>intro K K' σ h hK;exact h.elim
 |ret=>intro K K' σ h hK;exact hK _ _ h
inductive Item where
 |code (c:q0g)
 |blk (id:Nat)
 |goal (g:St→Prop)
 |dead (ds:List Nat)
def q7W(P:Program)[Inv P]:List Item→(Exit→St→Prop)→Exit→St→Prop
 |[],K=>K
 |.code c::k,K=>z7u (LW P c (q7W P k K)) (q7W P k K)
 |.blk id::k,K=>j02 id (q7W P k K)
 |.goal g::k,K=>z7u g (q7W P k K)
 |.dead ds::k,K=>j7T ds (q7W P k K)
def RUN(P:Program)[Inv P](c:q0g)(k:List Item)(K:Exit→St→Prop)(σ:St):Prop:=LW P c (q7W P k K) σ
def POP(P:Program)[Inv P](e:Exit)(k:List Item)(K:Exit→St→Prop)(σ:St):Prop:=q7W P k K e σ
def OPS(P:Program)[Inv P](l:List q0b)(k:List Item)(K:Exit→St→Prop)(σ:St):Prop:=q6I P l (q7W P k K .normal) σ
def PutG(z:Option AV)(σ:St)(d:Nat)(N:St→Prop):Prop:=∃x,z=some x∧N (σ.put d x)
def StG(z:Option St)(N:St→Prop):Prop:=∃τ,z=some τ∧N τ
def j7K(x:AV)(A B:St→Prop)(σ:St):Prop:=∃t,x=.d (.bool t)∧(t=true→A σ)∧(t=false→B σ)
def q0c(P:Program)[Inv P](f:Nat)(xs:List LX)(ds:Option (List D))(d:Option Nat)(N:St→Prop)(σ:St):Prop:=(∃l Post,ds=some l∧q0i P f l Post∧∀r,Post r→N (putO σ d r.av))∨q7r P d f xs N σ
theorem q0c.of{f:Nat}{xs:List LX}{l:List D}{d:Option Nat}{N:St→Prop}{σ:St}{r:Res}(h:q0i P f l (fun x=>x=r))(hN:N (putO σ d r.av)):q0c P f xs (some l) d N σ:=
 .inl ⟨l,_,rfl,h,fun _ e=>e▸hN⟩
theorem q0c.post{f:Nat}{xs:List LX}{l:List D}{d:Option Nat}{N:St→Prop}{σ:St}{Post:Res→Prop}(h:q0i P f l Post)(hN:∀r,Post r→N (putO σ d r.av)):q0c P f xs (some l) d N σ:=
 .inl ⟨l,_,rfl,h,hN⟩
theorem q0c.j5J{f:Nat}{xs:List LX}{ds:Option (List D)}{d:Option Nat}{N:St→Prop}{σ:St}(h:q7r P d f xs N σ):q0c P f xs ds d N σ:=.inr h
theorem q3s{x:AV}{σ:St}{d:Nat}{N:St→Prop}:PutG (some x) σ d N=N (σ.put d x):=
 propext ⟨fun⟨_,e,h⟩=>by cases e;exact h,fun h=>⟨_,rfl,h⟩⟩
theorem j7M{p:Prop}[Decidable p]{z:Option AV}{σ:St}{d:Nat}{N:St→Prop}:PutG (if p then z else none) σ d N=(p∧PutG z σ d N):=by
 by_cases h:p<;>simp[h,PutG]
theorem j5y{p:Prop}[Decidable p]{z:Option AV}{σ:St}{d:Nat}{N:St→Prop}:PutG (if p then none else z) σ d N=(¬p∧PutG z σ d N):=by
 by_cases h:p<;>simp[h,PutG]
theorem z3h{τ:St}{N:St→Prop}:StG (some τ) N=N τ:=
 propext ⟨fun⟨_,e,h⟩=>by cases e;exact h,fun h=>⟨_,rfl,h⟩⟩
theorem j82{p:Prop}[Decidable p]{z:Option St}{N:St→Prop}:StG (if p then z else none) N=(p∧StG z N):=by
 by_cases h:p<;>simp[h,StG]
theorem z1P{t:Bool}{A B:St→Prop}{σ:St}:j7K (.d (.bool t)) A B σ=if t=true then A σ else B σ:=by
 have:j7K (.d (.bool t)) A B σ=((t=true→A σ)∧(t=false→B σ)):=propext ⟨fun⟨_,e,h⟩=>by cases e;exact h,fun h=>⟨_,rfl,h⟩⟩;rw[this];cases t<;>simp
theorem IteG{p:Prop}[Decidable p]{A B:Prop}:(if p then A else B)=((p→A)∧(¬p→B)):=by
 by_cases h:p<;>simp[h]
def z2m(x:AV)(b:Bool)(A B:St→Prop)(σ τ ρ:St):Prop:=(∃t,x=.d (.bool t)∧(t=b→A σ)∧(t = !b→B τ))∨(x=.tuple []∧B ρ)
theorem z0V{t b:Bool}{A B:St→Prop}{σ τ ρ:St}:z2m (.d (.bool t)) b A B σ τ ρ=if t=b then A σ else B τ:=by
 have:z2m (.d (.bool t)) b A B σ τ ρ=((t=b→A σ)∧(t = !b→B τ)):=by
  apply propext;constructor
  ·intro h;rcases h with⟨_,e,h⟩|⟨e,_⟩
   ·cases e;exact h
   ·cases e
  ·exact fun h=>.inl ⟨_,rfl,h⟩
 rw[this];cases t<;>cases b<;>simp
theorem j5x{b:Bool}{A B:St→Prop}{σ τ ρ:St}:z2m (.tuple []) b A B σ τ ρ=B ρ:=by
 apply propext;constructor
 ·intro h;rcases h with⟨_,e,_⟩|⟨_,h⟩
  ·cases e
  ·exact h
 ·exact fun h=>.inr ⟨rfl,h⟩
def RetG(r:Option Res)(Post:Res→Prop):Prop:=∃x,r=some x∧Post x
theorem j29{r:Res}{Post:Res→Prop}:RetG (some r) Post=Post r:=
 propext ⟨fun⟨_,e,h⟩=>by cases e;exact h,fun h=>⟨_,rfl,h⟩⟩
theorem j0A{l:List LRes}{Post:Res→Prop}{σ:St}:retK l Post .normal σ=RetG (resS σ l) Post:=rfl
theorem j60{l:List LRes}{Post:Res→Prop}{σ:St}:retK l Post .ret σ=RetG (resS σ l) Post:=rfl
section
variable {k:List Item} {K:Exit→St→Prop} {σ:St}
theorem z7k:RUN P .skip k K σ=POP P .normal k K σ:=rfl
theorem z2i{l:List q0b}:RUN P (.reg l) k K σ=OPS P l k K σ:=rfl
theorem j8J{l:List q0b}{o:q0b}{r:List (List q0b×q0b)}{last:List q0b}:RUN P (.alt ((l,o)::r) last) k K σ=OPS P l [.goal (q2C P o (RUN P (.alt r last) k K))] K σ:=rfl
theorem j0C{last:List q0b}:RUN P (.alt [] last) k K σ=OPS P last k K σ:=rfl
theorem run_seq{a b:q0g}:RUN P (.seq a b) k K σ=RUN P a (.code b::k) K σ:=rfl
theorem q9Q{c:LX}{a b:q0g}:RUN P (.cond c a b) k K σ=j7K (σ.ev c) (RUN P a k K) (RUN P b k K) σ:=rfl
theorem q9u{id:Nat}{c:q0g}:RUN P (.block id c) k K σ=RUN P c (.blk id::k) K σ:=rfl
theorem z7j{id:Nat}:RUN P (.exit id) k K σ=POP P (.exit id) k K σ:=rfl
theorem j42:RUN P .ret k K σ=POP P .ret k K σ:=rfl
theorem q9L{c:q0g}:POP P .normal (.code c::k) K σ=RUN P c k K σ:=rfl
theorem j6Q{g:St→Prop}:POP P .normal (.goal g::k) K σ=g σ:=rfl
theorem j8z{id:Nat}:POP P .normal (.blk id::k) K σ=POP P .normal k K σ:=rfl
theorem j62{ds:List Nat}{c:q0g}:RUN P (.dead ds c) k K σ=RUN P c (.dead ds::k) K σ:=rfl
theorem j6P{ds:List Nat}:POP P .normal (.dead ds::k) K σ=POP P .normal k K (σ.dead ds):=rfl
theorem z8S{ds:List Nat}:POP P .ret (.dead ds::k) K σ=POP P .ret k K σ:=rfl
theorem z7a{id:Nat}{ds:List Nat}:POP P (.exit id) (.dead ds::k) K σ=POP P (.exit id) k K σ:=rfl
theorem j0q{e:Exit}:POP P e [] K σ=K e σ:=rfl
theorem z8R{c:q0g}:POP P .ret (.code c::k) K σ=POP P .ret k K σ:=rfl
theorem z8T{g:St→Prop}:POP P .ret (.goal g::k) K σ=POP P .ret k K σ:=rfl
theorem j0r{id:Nat}:POP P .ret (.blk id::k) K σ=POP P .ret k K σ:=rfl
theorem q8l{id:Nat}{c:q0g}:POP P (.exit id) (.code c::k) K σ=POP P (.exit id) k K σ:=rfl
theorem q8m{id:Nat}{g:St→Prop}:POP P (.exit id) (.goal g::k) K σ=POP P (.exit id) k K σ:=rfl
theorem q9s{id id':Nat}:POP P (.exit id) (.blk id'::k) K σ=if id=id' then POP P .normal k K σ else POP P (.exit id) k K σ:=rfl
theorem z2b:OPS P [] k K σ=POP P .normal k K σ:=rfl
theorem q9r{d:Nat}{v:LV}{l:List q0b}:OPS P (⟨some d,.val v,none⟩::l) k K σ=PutG (pev σ v) σ d (OPS P l k K):=by
 apply propext;show(∃τ,putV σ d (pev σ v)=some τ∧_)↔_
 unfold putV PutG;cases pev σ v<;>simp[OPS]
theorem z4y{d:Nat}{x:LX}{l:List q0b}:OPS P (⟨some d,.asg x,none⟩::l) k K σ=OPS P l k K (asgS σ d (σ.ev x)):=
 propext ⟨fun⟨_,e,h⟩=>by cases e;exact h,fun h=>⟨_,rfl,h⟩⟩
theorem j6K{d e sz:Nat}{l:List q0b}:OPS P (⟨some d,.nils e sz,none⟩::l) k K σ=OPS P l k K (nilS σ d e sz):=
 propext ⟨fun⟨_,e,h⟩=>by cases e;exact h,fun h=>⟨_,rfl,h⟩⟩
theorem j8v{d:Nat}{x:LX}{l:List q0b}:OPS P (⟨some d,.box x,none⟩::l) k K σ=StG (boxS σ d (σ.ev x)) (OPS P l k K):=rfl
theorem j6J{d:Nat}{z:List D}{l:List q0b}:OPS P (⟨some d,.allo z,none⟩::l) k K σ=OPS P l k K (newO σ d z):=
 propext ⟨fun⟨_,e,h⟩=>by cases e;exact h,fun h=>⟨_,rfl,h⟩⟩
theorem j8u{d e sz by_:Nat}{str:Bool}{s x:LX}{l:List q0b}:OPS P (⟨some d,.app e sz by_ str s x,none⟩::l) k K σ=StG (appS σ d e sz by_ str (σ.ev s) (σ.ev x)) (OPS P l k K):=rfl
theorem j0o{d e sz:Nat}{xs:List LX}{l:List q0b}:OPS P (⟨some d,.bsl e sz xs,none⟩::l) k K σ=StG (bslS σ d e sz (evL σ xs)) (OPS P l k K):=rfl
theorem j8w{d len:Nat}{x:LX}{lo hi:Option LX}{l:List q0b}:OPS P (⟨some d,.sla len x lo hi,none⟩::l) k K σ=StG (slaS σ d len (σ.ev x) (evO σ lo) (evO σ hi)) (OPS P l k K):=rfl
theorem j9x{m:Nat}{x y:LX}{l:List q0b}:OPS P (⟨none,.st m x y,none⟩::l) k K σ=StG (stS σ m (σ.ev x) (σ.ev y)) (OPS P l k K):=rfl
theorem j1z{d:Option Nat}{f:Nat}{xs:List LX}{l:List q0b}:OPS P (⟨d,.call f xs,none⟩::l) k K σ=q0c P f xs (q5N (evL σ xs)) d (OPS P l k K) σ:=rfl
theorem z7J{α:Type}:∀{l:List (Nat×α)} {s:Nat} {x:α},aget l s=some x→aset l s x=l
 |[],_,_,h=>by simp[aget]at h
 |(k,v)::r,s,x,h=>by
  simp only[aget]at h;simp only[aset];split at h
  ·rename_i e;cases h;rw[if_pos e]
  ·rename_i e;rw[if_neg e,z7J h]
theorem q2H{s:Nat}{t:Bool}(h:σ.get s=.d (.bool t)):σ.mark s (.d (.bool t))=σ:=by
 unfold St.get at h;cases hx:aget σ.ρ s with
 |none=>rw[hx]at h;cases h
 |some x=>rw[hx]at h;simp at h;subst h;simp only[St.mark,z7J hx]
theorem q9q{d:Option Nat}{op:LO}{s:Nat}{b:Bool}{l:List q0b}:OPS P (⟨d,op,some (s,b)⟩::l) k K σ=
  z2m (σ.get s) b (OPS P (⟨d,op,none⟩::l) k K) (OPS P l k K) (σ.mark s (.d (.bool b))) (putO (σ.mark s (.d (.bool (!b)))) d (.tuple [])) (putO σ d (.tuple [])):=by
 apply propext;show((∃t,σ.get s=.d (.bool t)∧(t=b→q7s P ⟨d,op,some (s,b)⟩ (q6I P l (q7W P k K .normal)) σ)∧(t≠b→q6I P l (q7W P k K .normal) (putO σ d und)))∨(σ.get s=und∧q6I P l (q7W P k K .normal) (putO σ d und)))↔_
 have hst:∀{K':St→Prop} {σ:St},q7s P ⟨d,op,some (s,b)⟩ K' σ↔q7s P ⟨d,op,none⟩ K' σ:=fun{K' σ}=>by unfold q7s;exact Iff.rfl
 unfold z2m;refine or_congr ?_ Iff.rfl;constructor
 ·rintro⟨t,h1,h2,h3⟩;refine⟨t,h1,fun e=>?_,fun e=>?_⟩
  ·subst e;rw[q2H h1];exact hst.1 (h2 rfl)
  ·have e':t≠b:=by rw[e];cases b<;>simp
   rw[←e,q2H h1];exact h3 e'
 ·rintro⟨t,h1,h2,h3⟩;refine⟨t,h1,fun e=>?_,fun e=>?_⟩
  ·subst e;have:=h2 rfl;rw[q2H h1]at this;exact hst.2 this
  ·have e':t = !b:=by cases t<;>cases b<;>simp_all
   have:=h3 e';rw[←e',q2H h1]at this;exact this
theorem q0f{α:Type}{c:q0g}(S:α→St)(p:α→Prop)(μ:α→Nat)(y0:α)(h0:Weak (S y0) σ)(p0:p y0)
  (h:∀y,p y→RUN P c (.goal (fun τ=>∃y',Weak (S y') τ∧p y'∧μ y'<μ y)::k) K (S y)):RUN P (.loop c) k K σ:=by
 refine⟨Nat,fun a b=>a<b,fun m τ=>∃y,τ=S y∧p y∧μ y=m,Nat.lt_wfRel.wf,⟨μ y0,S y0,h0.wk,y0,rfl,p0,rfl⟩,fun m τ ⟨y,hτ,hp,hm⟩=>?_⟩;subst hτ hm;exact j0g (h y hp) fun e τ' ht=>by
  cases e<;>first|exact ht|skip
  obtain⟨y',h1,h2,h3⟩:=ht;exact⟨μ y',S y',h1.wk,⟨y',rfl,h2,rfl⟩,h3⟩
end
inductive Round{β:Type}{γ:β→Type}(r:∀b,γ b→γ b→Prop):Option (Σ b,γ b)→Option (Σ b,γ b)→Prop
 |of {b:β} {x y:γ b} (h:r b x y):Round r (some ⟨b,x⟩) (some ⟨b,y⟩)
 |top (p:Σ b,γ b):Round r (some p) none
theorem Round.wf{β:Type}{γ:β→Type}{r:∀b,γ b→γ b→Prop}(h:∀b,WellFounded (r b)):WellFounded (Round r):=by
 have h1:∀(b:β) (x:γ b),Acc (Round r) (some ⟨b,x⟩):=fun b x=>by
  induction x using(h b).induction with
  |_ x ih=>exact⟨_,fun y hy=>by cases hy with|of hxy=>exact ih _ hxy⟩
 refine⟨fun a=>?_⟩;cases a with
 |some p=>exact h1 p.1 p.2
 |none=>exact⟨_,fun y hy=>by cases hy with|top p=>exact h1 p.1 p.2⟩
theorem q0X{c:q0g}{k:List Item}{K:Exit→St→Prop}{σ:St}(h:RUN P c (.code (.loop c)::k) K σ):RUN P (.loop c) k K σ:=by
 let K':=q7W P k K
 have h:LW P c (z7u (fun τ=>LW P (.loop c) K' τ) K') σ:=h;let β:={ τ:St // LW P (.loop c) K' τ }
 have hβ:∀b:β,∃(α:Type) (r:α→α→Prop) (I:α→St→Prop),WellFounded r∧(∃m τ,Wk τ b.1∧I m τ)∧∀m τ,I m τ→LW P c (z7u (fun τ'=>∃m' τ'',Wk τ'' τ'∧I m' τ''∧r m' m) K') τ:=fun b=>b.2
 let γ:β→Type:=fun b=>Classical.choose (hβ b)
 have hγ:∀b:β,∃(r:γ b→γ b→Prop) (I:γ b→St→Prop),WellFounded r∧(∃m τ,Wk τ b.1∧I m τ)∧∀m τ,I m τ→LW P c (z7u (fun τ'=>∃m' τ'',Wk τ'' τ'∧I m' τ''∧r m' m) K') τ:=fun b=>Classical.choose_spec (hβ b)
 let r:∀b,γ b→γ b→Prop:=fun b=>Classical.choose (hγ b)
 have hr:∀b:β,∃(I:γ b→St→Prop),WellFounded (r b)∧(∃m τ,Wk τ b.1∧I m τ)∧∀m τ,I m τ→LW P c (z7u (fun τ'=>∃m' τ'',Wk τ'' τ'∧I m' τ''∧r b m' m) K') τ:=fun b=>Classical.choose_spec (hγ b)
 let I:∀b,γ b→St→Prop:=fun b=>Classical.choose (hr b)
 have hI:∀b:β,WellFounded (r b)∧(∃m τ,Wk τ b.1∧I b m τ)∧∀m τ,I b m τ→LW P c (z7u (fun τ'=>∃m' τ'',Wk τ'' τ'∧I b m' τ''∧r b m' m) K') τ:=fun b=>Classical.choose_spec (hr b)
 refine⟨Option (Σ b,γ b),Round r,fun m τ=>match m with|none=>τ=σ|some p=>I p.1 p.2 τ,Round.wf fun b=>(hI b).1,⟨none,σ,Wk.refl σ,rfl⟩,fun m τ hm=>?_⟩;cases m with
 |none=>
  have hm:τ=σ:=hm;subst hm;refine j0g h fun e τ' ht=>?_
  cases e<;>first|exact ht|skip
  obtain⟨m,τ'',h1,h2⟩:=(hI ⟨τ',ht⟩).2.1;exact⟨some ⟨⟨τ',ht⟩,m⟩,τ'',h1,h2,.top _⟩
 |some p=>
  refine j0g ((hI p.1).2.2 p.2 τ hm) fun e τ' ht=>?_
  cases e<;>first|exact ht|skip
  obtain⟨m',τ'',h1,h2,h3⟩:=ht;exact⟨some ⟨p.1,m'⟩,τ'',h1,h2,.of h3⟩
theorem q0i.run{f:FuncId}{fn:Func}{c:Code}{L:q0g}{l:List LRes}{args:List D}{Post:Res→Prop}(hf:P.funcs[f]?=some fn)(hb:fn.body=some c)(hL:q5y P fn.ntmps c=some L.strip)(hl:q1d P fn.results.toList=some l)(hn:args.length≤fn.ntmps)
  (h:RUN P L [] (retK l Post) ⟨z0D 0 args,[],[]⟩):q0i P f args Post:=j6L hf hb hL hl hn h
end Go.Av
/- Stepping through regions that draw their order: equations to rewrite with. -/
namespace Go.Av
variable {P:Program} [Inv P]
def DPS(P:Program)[Inv P](l:List q0b)(k:List Item)(K:Exit→St→Prop)(σ:St):Prop:=DOps P l (q7W P k K .normal) σ
def q1E(P:Program)[Inv P](f:Nat)(ds:Option (List D))(d:Option Nat)(N:St→Prop)(σ:St):Prop:=∃l r,ds=some l∧q0i P f l (fun x=>x=r)∧N (putO σ d r.av)
theorem q1E.of{f:Nat}{l:List D}{d:Option Nat}{N:St→Prop}{σ:St}{r:Res}(h:q0i P f l (fun x=>x=r))(hN:N (putO σ d r.av)):q1E P f (some l) d N σ:=⟨l,r,rfl,h,hN⟩
def bspS(σ:St)(d sz:Nat)(xs:List AV):Option St:=
 match q5N xs with
 |some l=>if q8C sz l=true∧xs.length*sz≤16777216∧sz≠0 then some (σ.put d (.d (.list l)))else none
 |none=>none
section
variable {k:List Item} {K:Exit→St→Prop} {σ:St}
theorem j1O{l:List q0b}:RUN P (.dreg l) k K σ=DPS P l k K σ:=rfl
theorem j72:DPS P [] k K σ=POP P .normal k K σ:=propext ⟨fun h=>h,fun h=>h⟩
theorem z9K{d:Nat}{v:LV}{l:List q0b}:DPS P (⟨some d,.val v,none⟩::l) k K σ=PutG (pev σ v) σ d (DPS P l k K):=by
 apply propext;show(∃e:Eff,(true=true∧∃z,pev σ v=some z∧e=(⟨[],z⟩:Eff))∧_)↔_
 constructor
 ·rintro⟨e,⟨_,z,h1,rfl⟩,h2⟩;exact⟨z,h1,h2⟩
 ·rintro⟨z,h1,h2⟩;exact⟨_,⟨rfl,z,h1,rfl⟩,h2⟩
theorem j5P{d:Option Nat}{f:Nat}{xs:List LX}{l:List q0b}:DPS P (⟨d,.call f xs,none⟩::l) k K σ=q1E P f (q5N (evL σ xs)) d (DPS P l k K) σ:=by
 apply propext;show(∃e:Eff,(∃ds r,q5N (evL σ xs)=some ds∧q0i P f ds (fun x=>x=r)∧e=(⟨[],r.av⟩:Eff))∧_)↔_
 constructor
 ·rintro⟨e,⟨ds,r,h1,h2,rfl⟩,h3⟩;exact⟨ds,r,h1,h2,h3⟩
 ·rintro⟨ds,r,h1,h2,h3⟩;exact⟨_,⟨ds,r,h1,h2,rfl⟩,h3⟩
theorem j3E{d e sz:Nat}{xs:List LX}{l:List q0b}:DPS P (⟨some d,.bsl e sz xs,none⟩::l) k K σ=StG (bspS σ d sz (evL σ xs)) (DPS P l k K):=by
 apply propext;show(∃ef:Eff,(∃k' l',some d=some k'∧q5N (evL σ xs)=some l'∧(q8C sz l'=true∧(evL σ xs).length*sz≤16777216∧sz≠0)∧ef=(⟨[],.d (.list l')⟩:Eff))∧_)↔_
 unfold StG bspS;constructor
 ·rintro⟨e,⟨k',l',h1,h2,h3,rfl⟩,h4⟩;cases h1;rw[h2];exact⟨_,by simp only;rw[if_pos h3];rfl,h4⟩
 ·rintro⟨τ,h1,h2⟩;split at h1
  ·rename_i l' hl;split at h1
   ·rename_i h3;cases h1;exact⟨_,⟨d,l',rfl,hl,h3,rfl⟩,h2⟩
   ·cases h1
  ·cases h1
def appD(σ:St)(d e sz bytes:Nat)(str:Bool)(s x:AV):Option St:=
 match s,srcL str sz x with
 |.own q e' sz' l,some ys=>if e'=e∧sz'=sz∧l.length+ys.length≤140737488355327∧(l.length+ys.length)*bytes≤140737488355328 then
  some (((σ.erase q).erase (.t d)).put d (.own (.t d) e sz (l++ys)))else none
 |.ns,some ys=>if ys.length≤140737488355327∧ys.length*bytes≤140737488355328 then some ((σ.erase (.t d)).put d (.own (.t d) e sz ys))else none
 |_,_=>none
theorem j7Z{d e sz by_:Nat}{str:Bool}{s x:LX}{l:List q0b}:DPS P (⟨some d,.app e sz by_ str s x,none⟩::l) k K σ=StG (appD σ d e sz by_ str (σ.ev s) (σ.ev x)) (DPS P l k K):=by
 apply propext;show(∃ef:Eff,(∃k' er l' ys,some d=some k'∧((∃q,σ.ev s=.own q e sz l'∧er=[q,.t k'])∨(σ.ev s=.ns∧l'=[]∧er=[.t k']))∧srcL str sz (σ.ev x)=some ys∧(l'.length+ys.length≤140737488355327∧(l'.length+ys.length)*by_≤140737488355328)∧ef=(⟨er,.own (.t k') e sz (l'++ys)⟩:Eff))∧_)↔_
 unfold StG appD;constructor
 ·rintro⟨ef,⟨k',er,l',ys,h1,h2,h3,h4,rfl⟩,h5⟩;cases h1;rcases h2 with⟨q,h2,rfl⟩|⟨h2,rfl,rfl⟩
  ·rw[h2,h3];exact⟨_,by simp only;rw[if_pos ⟨trivial,trivial,h4.1,h4.2⟩];rfl,h5⟩
  ·rw[h2,h3];simp only[Zag,Zbg]at h4;exact⟨_,by simp only;rw[if_pos h4];rfl,h5⟩
 ·rintro⟨τ,h1,h2⟩;split at h1
  ·rename_i q e' sz' l' ys e1 e2;split at h1
   ·rename_i h3;cases h1;obtain⟨rfl,rfl,h3,h4⟩:=h3;exact⟨_,⟨d,_,l',ys,rfl,.inl ⟨q,e1,rfl⟩,e2,⟨h3,h4⟩,rfl⟩,h2⟩
   ·cases h1
  ·rename_i ys e1 e2;split at h1
   ·rename_i h3;cases h1;exact⟨_,⟨d,_,[],ys,rfl,.inr ⟨e1,rfl,rfl⟩,e2,by simpa using h3,rfl⟩,h2⟩
   ·cases h1
  ·cases h1
theorem j70{d:Nat}{x:LX}{l:List q0b}:DPS P (⟨some d,.asg x,none⟩::l) k K σ=DPS P l k K (asgS σ d (σ.ev x)):=
 propext ⟨fun⟨_,e,h⟩=>by cases e;exact h,fun h=>⟨_,rfl,h⟩⟩
theorem j5Q{d e sz:Nat}{l:List q0b}:DPS P (⟨some d,.nils e sz,none⟩::l) k K σ=DPS P l k K (nilS σ d e sz):=
 propext ⟨fun⟨_,e,h⟩=>by cases e;exact h,fun h=>⟨_,rfl,h⟩⟩
theorem j71{d:Nat}{x:LX}{l:List q0b}:DPS P (⟨some d,.box x,none⟩::l) k K σ=StG (boxS σ d (σ.ev x)) (DPS P l k K):=propext ⟨fun h=>h,fun h=>h⟩
theorem j5O{d:Nat}{z:List D}{l:List q0b}:DPS P (⟨some d,.allo z,none⟩::l) k K σ=DPS P l k K (newO σ d z):=
 propext ⟨fun⟨_,e,h⟩=>by cases e;exact h,fun h=>⟨_,rfl,h⟩⟩
theorem j73{d len:Nat}{x:LX}{lo hi:Option LX}{l:List q0b}:DPS P (⟨some d,.sla len x lo hi,none⟩::l) k K σ=StG (slaS σ d len (σ.ev x) (evO σ lo) (evO σ hi)) (DPS P l k K):=propext ⟨fun h=>h,fun h=>h⟩
theorem j9d{m:Nat}{x y:LX}{l:List q0b}:DPS P (⟨none,.st m x y,none⟩::l) k K σ=StG (stS σ m (σ.ev x) (σ.ev y)) (DPS P l k K):=propext ⟨fun h=>h,fun h=>h⟩
theorem j3F{d:Option Nat}{op:LO}{s:Nat}{b:Bool}{l:List q0b}:DPS P (⟨d,op,some (s,b)⟩::l) k K σ=
  z2m (σ.get s) b (DPS P (⟨d,op,none⟩::l) k K) (DPS P l k K) (σ.mark s (.d (.bool b))) (putO (σ.mark s (.d (.bool (!b)))) d (.tuple [])) (putO σ d (.tuple [])):=by
 apply propext;have nb:∀{t:Bool},t≠b↔t = !b:=fun{t}=>by cases t<;>cases b<;>simp
 by_cases hm:(⟨d,op,none⟩:q0b).q5D=true
 ·have hm':(⟨d,op,some (s,b)⟩:q0b).q5D=true:=hm;simp only[DPS,DOps,DStep,hm,hm',if_true,q5i,z2m];constructor
  ·rintro⟨e,⟨t,h1,h2,h3⟩|⟨h1,h2⟩,h4⟩
   ·refine .inl ⟨t,h1,fun ht=>?_,fun ht=>?_⟩
    ·subst ht;rw[q2H h1];exact⟨e,h2 rfl,h4⟩
    ·have:=h3 (nb.2 ht);subst this;rw[←ht,q2H h1];exact h4
   ·subst h2;exact .inr ⟨h1,h4⟩
  ·rintro(⟨t,h1,h2,h3⟩|⟨h1,h2⟩)
   ·by_cases ht:t=b
    ·subst ht;have:=h2 rfl;rw[q2H h1]at this;obtain⟨e,h4,h5⟩:=this;exact⟨e,.inl ⟨t,h1,fun _=>h4,fun hn=>absurd rfl hn⟩,h5⟩
    ·have h4:=h3 (nb.1 ht);rw[←nb.1 ht,q2H h1]at h4;exact⟨⟨[],und⟩,.inl ⟨t,h1,fun e=>absurd e ht,fun _=>rfl⟩,h4⟩
   ·exact⟨⟨[],und⟩,.inr ⟨h1,rfl⟩,h2⟩
 ·have hm':¬(⟨d,op,some (s,b)⟩:q0b).q5D=true:=hm;have hst:∀{K':St→Prop} {σ:St},q7s P ⟨d,op,some (s,b)⟩ K' σ↔q7s P ⟨d,op,none⟩ K' σ:=fun{K' σ}=>by unfold q7s;exact Iff.rfl
  simp only[DPS,DOps,DStep,if_neg hm,if_neg hm',LOps,z2m];refine or_congr ?_ Iff.rfl;constructor
  ·rintro⟨t,h1,h2,h3⟩;refine⟨t,h1,fun e=>?_,fun e=>?_⟩
   ·subst e;rw[q2H h1];exact hst.1 (h2 rfl)
   ·have e':t≠b:=by rw[e];cases b<;>simp
    rw[←e,q2H h1];exact h3 e'
  ·rintro⟨t,h1,h2,h3⟩;refine⟨t,h1,fun e=>?_,fun e=>?_⟩
   ·subst e;have:=h2 rfl;rw[q2H h1]at this;exact hst.2 this
   ·have e':t = !b:=by cases t<;>cases b<;>simp_all
    have:=h3 e';rw[←e',q2H h1]at this;exact this
end
/-! ### Parts of strings and rows: what must hold, and a value -/
def q0n(P:Program)[Inv P](f:FuncId)(n:Nat)(L:q0g)(R:List LRes):Prop:=∃fn c,P.funcs[f]?=some fn∧fn.body=some c∧q5y P fn.ntmps c=some L.strip∧q1d P fn.results.toList=some R∧fn.ntmps=n
theorem q0n.call{f:FuncId}{n:Nat}{L:q0g}{R:List LRes}(h:q0n P f n L R){args:List D}{Post:Res→Prop}(hn:Nat.ble args.length n=true)(hr:RUN P L [] (retK R Post) ⟨z0D 0 args,[],[]⟩):q0i P f args Post:=by
 obtain⟨fn,c,h1,h2,h3,h4,rfl⟩:=h;exact q0i.run h1 h2 h3 h4 (Nat.le_of_ble_eq_true hn) hr
theorem q0d{ρ ρ':List (Nat×AV)}{L L':List (Nat×AObj)}{H:List (Nat×AObj)}(h1:Sub ρ ρ')(h2:Sub L L'):Weak ⟨ρ,L,[]⟩ ⟨ρ',L',H⟩:=⟨h1,h2,trivial⟩
end Go.Av
/- Calls that take objects, or closures: contracts over abstract states, and the rule of such a call. -/
namespace Go.Av
/-! ### Names of objects, turned from the callee's to the caller's -/
def renR(R:List Ref):Ref→Ref
 |.x i=>R.getD i (.x i)
 |.l s=>.l s
def renQ(R:List Ref):Lab→Lab
 |.c r off=>.c (renR R r) off
 |.t s=>.t s
def AV.ren1(R:List Ref):AV→AV
 |.ptr r off=>.ptr (renR R r) off
 |.rs r n c=>.rs (renR R r) n c
 |.mp r=>.mp (renR R r)
 |x=>x
def q1P(R:List Ref):List AV→List AV
 |[]=>[]
 |x::l=>x.ren1 R::q1P R l
def AV.ren(R:List Ref):AV→AV
 |.d x=>.d x
 |.own q e sz l=>.own (renQ R q) e sz l
 |.ptr r off=>.ptr (renR R r) off
 |.dptr cs=>.dptr cs
 |.tuple vs=>.tuple (q1P R vs)
 |.fn f a b=>.fn f (q1P R a) (q1P R b)
 |.junk=>.junk
 |.ns=>.ns
 |.nt e=>.nt e
 |.rs r n c=>.rs (renR R r) n c
 |.mp r=>.mp (renR R r)
 |.sx vs=>.sx (q1P R vs)
def renL(R:List Ref):List AV→List AV
 |[]=>[]
 |x::l=>x.ren R::renL R l
def AObj.ren(R:List Ref):AObj→AObj
 |.cells cs=>.cells (renL R cs)
 |.siter s p=>.siter s p
 |.miter l c=>.miter l c
 |.mobj l c=>.mobj l c
theorem q9N(R:List Ref)(l:List AV):q1P R l=l.map (AV.ren1 R):=by induction l with|nil=>rfl|cons x l ih=>simp[q1P,ih]
theorem z0P(R:List Ref)(l:List AV):renL R l=l.map (AV.ren R):=by induction l with|nil=>rfl|cons x l ih=>simp[renL,ih]
def wfR(n:Nat):Ref→Bool
 |.x i=>decide (i<n)
 |.l _=>false
def AV.wf1(n:Nat):AV→Bool
 |.ptr r _=>wfR n r
 |.rs r _ _=>wfR n r
 |.mp r=>wfR n r
 |_=>true
def wf1L(n:Nat):List AV→Bool
 |[]=>true
 |x::l=>x.wf1 n&&wf1L n l
def AV.wf(n:Nat):AV→Bool
 |.own q _ _ _=>match q with
  |.c r _=>wfR n r
  |.t _=>false
 |.ptr r _=>wfR n r
 |.rs r _ _=>wfR n r
 |.mp r=>wfR n r
 |.sx vs=>wf1L n vs
 |.tuple vs=>wf1L n vs
 |.fn _ a b=>wf1L n a&&wf1L n b
 |_=>true
def wfL(n:Nat):List AV→Bool
 |[]=>true
 |x::l=>x.wf n&&wfL n l
def AObj.wf(n:Nat):AObj→Bool
 |.cells cs=>wfL n cs
 |.siter _ _=>true
 |.miter _ _=>true
 |.mobj _ _=>true
def wfO(n:Nat):List AObj→Bool
 |[]=>true
 |o::l=>o.wf n&&wfO n l
theorem q9U{n:Nat}{l:List AV}:wf1L n l=true↔∀x∈l,x.wf1 n=true:=by induction l with|nil=>simp[wf1L]|cons x l ih=>simp[wf1L,ih]
theorem z7y{n:Nat}{l:List AV}:wfL n l=true↔∀x∈l,x.wf n=true:=by induction l with|nil=>simp[wfL]|cons x l ih=>simp[wfL,ih]
theorem j5u{n:Nat}{l:List AObj}:wfO n l=true↔∀x∈l,x.wf n=true:=by induction l with|nil=>simp[wfO]|cons x l ih=>simp[wfO,ih]
def AV.z4s:AV→Bool
 |.ptr r _ => !isLocal r
 |.rs r _ _ => !isLocal r
 |.mp r => !isLocal r
 |_=>true
def q8i:List AV→Bool
 |[]=>true
 |x::l=>x.z4s&&q8i l
def AV.q5b:AV→Bool
 |.ptr r _ => !isLocal r
 |.rs r _ _ => !isLocal r
 |.mp r => !isLocal r
 |.sx vs=>q8i vs
 |.tuple vs=>q8i vs
 |.fn _ a b=>q8i a&&q8i b
 |_=>true
def z1v:List AV→Bool
 |[]=>true
 |x::l=>x.q5b&&z1v l
def AObj.q5b:AObj→Bool
 |.cells cs=>z1v cs
 |.siter _ _=>true
 |.miter _ _=>true
 |.mobj _ _=>true
theorem q5c{l:List AV}:q8i l=true↔∀x∈l,x.z4s=true:=by induction l with|nil=>simp[q8i]|cons x l ih=>simp[q8i,ih]
theorem j2D{l:List AV}:z1v l=true↔∀x∈l,x.q5b=true:=by induction l with|nil=>simp[z1v]|cons x l ih=>simp[z1v,ih]
theorem AV.z8I{x:AV}(h:x.q5b=true)(s:Nat):x.has (.l s)=false:=by
 have one:∀{y:AV},y.z4s=true→y.q7D (.l s)=false:=fun{y} hy=>by
  cases y<;>simp_all[AV.z4s,AV.q7D];all_goals(rename Ref=>r;cases r<;>simp_all[isLocal])
 cases x with
 |ptr r off=>cases r<;>simp_all[AV.q5b,AV.has,isLocal]
 |rs r n c=>cases r<;>simp_all[AV.q5b,AV.has,isLocal]
 |mp r=>cases r<;>simp_all[AV.q5b,AV.has,isLocal]
 |sx vs=>
  simp only[AV.q5b,q5c]at h;simp only[AV.has,Zce];intro y hy;simp[one (h y hy)]
 |tuple vs=>
  simp only[AV.q5b,q5c]at h;simp only[AV.has,Zce];intro y hy;simp[one (h y hy)]
 |fn f a b=>
  simp only[AV.q5b,Zah,q5c]at h;simp only[AV.has,Bool.or_eq_false_iff,Zce];exact⟨fun y hy=>by simp[one (h.1 y hy)],fun y hy=>by simp[one (h.2 y hy)]⟩
 |_=>rfl
theorem AV.j7j{n:Nat}{x:AV}(h:x.wf n=true):x.q5b=true:=by
 have one:∀{y:AV},y.wf1 n=true→y.z4s=true:=fun{y} hy=>by
  cases y<;>simp_all[AV.wf1,AV.z4s];all_goals(rename Ref=>r;cases r<;>simp_all[wfR,isLocal])
 cases x with
 |ptr r off=>cases r<;>simp_all[AV.wf,AV.q5b,wfR,isLocal]
 |rs r n c=>cases r<;>simp_all[AV.wf,AV.q5b,wfR,isLocal]
 |mp r=>cases r<;>simp_all[AV.wf,AV.q5b,wfR,isLocal]
 |sx vs=>simp only[AV.wf,q9U]at h;simp only[AV.q5b,q5c];exact fun y hy=>one (h y hy)
 |tuple vs=>simp only[AV.wf,q9U]at h;simp only[AV.q5b,q5c];exact fun y hy=>one (h y hy)
 |fn f a b=>
  simp only[AV.wf,Zah,q9U]at h;simp only[AV.q5b,Zah,q5c];exact⟨fun y hy=>one (h.1 y hy),fun y hy=>one (h.2 y hy)⟩
 |_=>rfl
/-! ### Contracts -/
def q9b:Nat→List AV→List (Nat×AV)
 |_,[]=>[]
 |k,x::r=>(k,x)::q9b (k+1) r
def numO:Nat→List AObj→List (Nat×AObj)
 |_,[]=>[]
 |k,o::r=>(k,o)::numO (k+1) r
theorem q6p:∀(l:List AV) (k s:Nat),aget (q9b k l) s=if k≤s then l[s-k]? else none
 |[],k,s=>by simp[q9b,aget]
 |x::r,k,s=>by
  simp only[q9b,aget,q6p r (k+1) s]
  by_cases h:k=s
  ·subst h;simp
  ·rw[if_neg h]
   by_cases h2:k≤s
   ·rw[if_pos h2,if_pos (by omega)];have:s-k=(s-(k+1))+1:=by omega
    rw[this];simp
   ·rw[if_neg h2,if_neg (by omega)]
theorem q8k:∀(l:List AObj) (k s:Nat),aget (numO k l) s=if k≤s then l[s-k]? else none
 |[],k,s=>by simp[numO,aget]
 |x::r,k,s=>by
  simp only[numO,aget,q8k r (k+1) s]
  by_cases h:k=s
  ·subst h;simp
  ·rw[if_neg h]
   by_cases h2:k≤s
   ·rw[if_pos h2,if_pos (by omega)];have:s-k=(s-(k+1))+1:=by omega
    rw[this];simp
   ·rw[if_neg h2,if_neg (by omega)]
def inM(G:q0s)(hs:List AObj)(b:Nat):Prop:=
 (∃i o,hs[i]?=some o∧G.b (.x i)=b)∨∃q v p,G.lam q=some (v,p)∧v.ownBlock=some b
def q5J(G:q0s)(hs:List AObj)(w:World):Entry:={ w0:=w,f0:=G.f,M:=inM G hs,b0:=fun r=>G.b (.x r) }
def q6J(P:Program)[Inv P](fn:FuncId)(xs:List AV)(hs:List AObj)(Post:AV→List AObj→Prop):Prop:=
 q5V P fn=true∧∀(G:q0s) (w:World) (vs:Array Value),Inv.inv P G.f w→(∀b,Inv.own P b→¬inM G hs b)→
  SR (q5J G hs w) xs.length G ⟨q9b 0 xs,[],numO 0 hs⟩ vs w→
  Calls P fn vs w fun e w'=>∃r hs' G' v,Post r hs'∧e=.returned v∧hs'.length=hs.length∧SR (q5J G hs w) 1 G' ⟨[(0,r)],[],numO 0 hs'⟩ #[v] w'
theorem q6J.mono{P:Program}[Inv P]{fn:FuncId}{xs:List AV}{hs:List AObj}{Post Post':AV→List AObj→Prop}(h:q6J P fn xs hs Post)(hp:∀r hs',Post r hs'→Post' r hs'):q6J P fn xs hs Post':=
 ⟨h.1,fun G w vs h0 h1 h2=>(h.2 G w vs h0 h1 h2).mono fun _ _ ⟨r,hs',G',v,a,b⟩=>⟨r,hs',G',v,hp r hs' a,b⟩⟩
/-! ### The caller's side -/
def memR(r:Ref):List Ref→Bool
 |[]=>false
 |a::l=>if a=r then true else memR r l
def z4t:List Ref→Bool
 |[]=>true
 |a::l => !memR a l&&z4t l
def z6e(l:List Ref):Bool:=z4t l&&Nat.ble l.length 1000
theorem z61{r:Ref}{l:List Ref}:memR r l=true↔r∈l:=by
 induction l with
 |nil=>simp[memR]
 |cons a l ih=>
  simp only[memR,Zba]
  by_cases h:a=r
  ·simp[h]
  ·rw[if_neg h,ih];exact⟨.inr,fun hh=>hh.elim (fun e=>absurd e.symm h) id⟩
theorem j0i{l:List Ref}:z4t l=true↔l.Nodup:=by
 induction l with
 |nil=>simp[z4t]
 |cons a l ih=>
  simp only[z4t,Zah,Zca,Zcx,ih,←z61];simp
theorem z6f{l:List Ref}(h:z6e l=true):l.Nodup∧l.length≤1000:=by
 simp only[z6e,Zah]at h;exact⟨j0i.1 h.1,Nat.le_of_ble_eq_true h.2⟩
def j4I:AV→AV
 |.own _ _ _ l=>.d (.list l)
 |x=>x
def j4J(Q:List (Nat×Lab))(i:Nat)(y:AV):AV:=
 match aget Q i with
 |some q=>match y with
  |.own q' e sz l=>if q'=q then .own (.t i) e sz l else .junk
  |_=>.junk
 |none=>j4I y
def q7o(Q:List (Nat×Lab)):Nat→List AV→List AV
 |_,[]=>[]
 |i,x::l=>j4J Q i x::q7o Q (i+1) l
def AV.wfA(Q:List (Nat×Lab))(n i:Nat):AV→Bool
 |.own q e sz l=>match q with
  |.t j=>j==i&&(aget Q i).isSome
  |.c r off=>AV.wf n (.own (.c r off) e sz l)
 |x=>x.wf n
def wfAL(Q:List (Nat×Lab))(n:Nat):Nat→List AV→Bool
 |_,[]=>true
 |i,x::l=>x.wfA Q n i&&wfAL Q n (i+1) l
def notR(R:List Ref):Lab→Bool
 |.c r _ => !memR r R
 |.t _=>true
def memQ(q:Lab):List (Nat×Lab)→Bool
 |[]=>false
 |(_,a)::l=>if a=q then true else memQ q l
def okQ(R:List Ref):List (Nat×Lab)→Bool
 |[]=>true
 |(_,q)::l=>(!memQ q l&&notR R q)&&okQ R l
def q3e:List (Nat×Lab)→List Lab
 |[]=>[]
 |(_,q)::l=>q::q3e l
theorem z4A{Q:List (Nat×Lab)}:∀{l:List AV} {k i:Nat},(q7o Q k l)[i]?=(l[i]?).map (j4J Q (k+i))
 |[],_,_=>by simp[q7o]
 |x::l,k,i=>by
  cases i with
  |zero=>simp[q7o]
  |succ i=>simp only[q7o,List.getElem?_cons_succ];rw[z4A];congr 2;omega
theorem z7x{Q:List (Nat×Lab)}{n:Nat}:∀{l:List AV} {k i:Nat} {x:AV},wfAL Q n k l=true→l[i]?=some x→x.wfA Q n (k+i)=true
 |[],_,_,_,_,h=>by simp at h
 |y::l,k,i,x,h,hx=>by
  simp only[wfAL,Zah]at h;cases i with
  |zero=>simp at hx;subst hx;exact h.1
  |succ i=>simp at hx;have:=z7x h.2 hx;rwa [show k+1+i=k+(i+1) by omega]at this
theorem j6t{q:Lab}{Q:List (Nat×Lab)}:memQ q Q=true↔q∈q3e Q:=by
 induction Q with
 |nil=>simp[memQ,q3e]
 |cons a l ih=>
  obtain⟨i,a⟩:=a;simp only[memQ,q3e,Zba]
  by_cases h:a=q
  ·simp[h]
  ·rw[if_neg h,ih];exact⟨.inr,fun hh=>hh.elim (fun e=>absurd e.symm h) id⟩
theorem j0n{R:List Ref}{Q:List (Nat×Lab)}(h:okQ R Q=true):(q3e Q).Nodup∧∀q∈q3e Q,∀r off,q=.c r off→r∉R:=by
 induction Q with
 |nil=>simp[q3e]
 |cons a l ih=>
  obtain⟨i,a⟩:=a;simp only[okQ,Zah,Zca]at h;obtain⟨⟨h1,h2⟩,h3⟩:=h;obtain⟨h4,h5⟩:=ih h3;simp only[q3e,Zcx,Zba];refine⟨⟨fun hm=>(by rw[j6t.2 hm]at h1;cases h1),h4⟩,fun q hq r off e=>?_⟩;rcases hq with rfl|hq
  ·subst e;simp only[notR,Zca]at h2;exact fun hm=>by rw[z61.2 hm]at h2;cases h2
  ·exact h5 q hq r off e
theorem q80{Q:List (Nat×Lab)}{i:Nat}{q:Lab}(h:aget Q i=some q):q∈q3e Q:=by
 induction Q with
 |nil=>simp[aget]at h
 |cons a l ih=>
  obtain⟨k,a⟩:=a;simp only[aget]at h;simp only[q3e,Zba];split at h
  ·cases h;exact .inl rfl
  ·exact .inr (ih h)
theorem j3c{Q:List (Nat×Lab)}(hn:(q3e Q).Nodup){i j:Nat}{q:Lab}(hi:aget Q i=some q)(hj:aget Q j=some q):i=j:=by
 induction Q with
 |nil=>simp[aget]at hi
 |cons a l ih=>
  obtain⟨k,a⟩:=a;simp only[q3e,Zcx]at hn;simp only[aget]at hi hj;split at hi
  ·rename_i e1;cases hi;split at hj
   ·rename_i e2;rw[←e1,←e2]
   ·exact absurd (q80 hj) hn.1
  ·split at hj
   ·cases hj;exact absurd (q80 hi) hn.1
   ·exact ih hn.2 hi hj
def q0R(σ:St)(R:List Ref):List Ref→List AObj→Prop
 |[],[]=>True
 |r::rs,o::os=>σ.obj r=some (o.ren R)∧q0R σ R rs os
 |_,_=>False
def AV.z47(R:List Ref):AV→AV
 |.own q e sz l=>match q with
  |.c r off=>if memR r R=true then .d (.list l)else .own (.c r off) e sz l
  |.t s=>.own (.t s) e sz l
 |x=>x
def q5f(R:List Ref):St→List Ref→List AObj→St
 |σ,[],_=>σ
 |σ,_,[]=>σ
 |σ,r::rs,o::os=>q5f R (σ.setObj r (o.ren R)) rs os
def q5I(σ:St)(R:List Ref)(os:List AObj):St:=q5f R { σ with ρ:=amap (AV.z47 R) σ.ρ } R os
def q6m(R:List Ref)(n:Nat):List Ref→List AObj→Bool
 |[],[]=>true
 |r::rs,o::os=>(o.wf n&&(isLocal r || (o.ren R).q5b))&&q6m R n rs os
 |_,_=>false
def retO(σ:St)(d:Option Nat)(R:List Ref)(r:AV):St:=
 match r with
 |.own _ e sz l=>match d with
  |some k=>(σ.erase (.t k)).put k (.own (.t k) e sz l)
  |none=>σ
 |r=>putO σ d (r.ren R)
def z2h(n:Nat):AV→Bool
 |.own q _ _ _=>match q with
  |.t k=>k==0
  |.c _ _=>false
 |r=>r.wf n
theorem q7T{σ:St}{R:List Ref}:∀{rs:List Ref} {os:List AObj},q0R σ R rs os→rs.length=os.length∧∀(i:Nat) (r:Ref) (o:AObj),rs[i]?=some r→os[i]?=some o→σ.obj r=some (o.ren R)
 |[],[],_=>⟨rfl,fun i r o h=>by simp at h⟩
 |[],_::_,h=>h.elim
 |_::_,[],h=>h.elim
 |r::rs,o::os,⟨h1,h2⟩=>by
  obtain⟨h3,h4⟩:=q7T h2;refine⟨by simp[h3],fun i r' o' hr ho=>?_⟩;cases i with
  |zero=>simp at hr ho;subst hr;subst ho;exact h1
  |succ i=>simp at hr ho;exact h4 i r' o' hr ho
theorem z5H{R:List Ref}{n:Nat}:∀{rs:List Ref} {os:List AObj},q6m R n rs os=true→∀(i:Nat) (r:Ref) (o:AObj),rs[i]?=some r→os[i]?=some o→o.wf n=true∧(isLocal r=true∨(o.ren R).q5b=true)
 |[],[],_,i,r,o,h,_=>by simp at h
 |[],_::_,h,_,_,_,_,_=>by simp[q6m]at h
 |_::_,[],h,_,_,_,_,_=>by simp[q6m]at h
 |r::rs,o::os,h,i,r',o',hr,ho=>by
  simp only[q6m,Zah,Zcc]at h;cases i with
  |zero=>simp at hr ho;subst hr;subst ho;exact h.1
  |succ i=>simp at hr ho;exact z5H h.2 i r' o' hr ho
theorem z4R{R:List Ref}:∀{rs:List Ref} {os:List AObj} {σ:St},rs.length=os.length→rs.Nodup→(∀(i:Nat) (r:Ref) (o:AObj),rs[i]?=some r→os[i]?=some o→(q5f R σ rs os).obj r=some (o.ren R))∧(∀r,r∉rs→(q5f R σ rs os).obj r=σ.obj r)
 |[],[],σ,_,_=>⟨fun i r o h=>by simp at h,fun r _=>rfl⟩
 |r::rs,o::os,σ,hl,hn=>by
  simp at hl;obtain⟨h0,hn'⟩:=Zcx.1 hn;obtain⟨h1,h2⟩:=z4R (R:=R) (rs:=rs) (os:=os) (σ:=σ.setObj r (o.ren R)) hl hn';refine⟨fun i r' o' hr ho=>?_,fun r' hr=>?_⟩
  ·cases i with
   |zero=>
    simp at hr ho;subst hr;subst ho;simp only[q5f];rw[h2 r h0,St.q1s,if_pos rfl]
   |succ i=>simp at hr ho;simp only[q5f];exact h1 i r' o' hr ho
  ·simp only[Zba,not_or]at hr;simp only[q5f];rw[h2 r' hr.2,St.q1s,if_neg (fun e=>hr.1 e.symm)]
 |[],_::_,σ,hl,_=>by simp at hl
 |_::_,[],σ,hl,_=>by simp at hl
theorem z9b{R:List Ref}:∀{rs:List Ref} {os:List AObj} {σ:St},(q5f R σ rs os).ρ=σ.ρ
 |[],os,σ=>by cases os<;>rfl
 |_::_,[],σ=>rfl
 |r::rs,o::os,σ=>by simp only[q5f];rw[z9b];cases r<;>rfl
end Go.Av
/- Calls that take objects: what the callee finds. -/
namespace Go.Av
variable {E:Entry} {n:Nat} {G:q0s} {σ:St} {ts:Array Value} {w:World}
def Gc(G:q0s)(R:List Ref)(Q:List (Nat×Lab)):q0s:=
 { f:=G.f,b:=fun r=>G.b (renR R r),lam:=fun q=>match q with
   |.c (.x i) off=>if i<R.length then G.lam (.c (renR R (.x i)) off)else none
   |.t i=>(aget Q i).bind G.lam
   |_=>none }
theorem q15{R:List Ref}{i:Nat}(h:i<R.length):R[i]?=some (renR R (.x i)):=by
 simp[renR,List.getD_eq_getElem?_getD,Zal h]
theorem q8s{n:Nat}{r:Ref}(h:wfR n r=true):∃i,r=.x i∧i<n:=by
 cases r with
 |l s=>simp[wfR]at h
 |x i=>exact⟨i,rfl,by simpa[wfR]using h⟩
theorem AV.q3b{R:List Ref}{x:AV}:(x.ren1 R).simple=x.simple:=by cases x<;>rfl
theorem AVR.j12{R:List Ref}{Q:List (Nat×Lab)}{x:AV}{v:Value}(hs:x.simple=true)(h:AVR G w (x.ren1 R) v):AVR (Gc G R Q) w x v:=by
 cases x with
 |d x=>simp only[AV.ren1]at h;cases h with|d _ _ h=>exact .d _ _ h
 |own q e sz l=>simp[AV.simple]at hs
 |ptr r off=>
  simp only[AV.ren1]at h;cases h;exact .ptr (G:=Gc G R Q) r off
 |dptr cs=>simp only[AV.ren1]at h;cases h with|dptr _ b o vs h1 h2 h3=>exact .dptr cs b o vs h1 h2 h3
 |tuple vs=>simp[AV.simple]at hs
 |fn f a b=>simp[AV.simple]at hs
 |junk=>exact .junk v
 |ns=>(first|(simp only[AV.ren1]at h)|(simp only[AV.ren]at h));cases h;exact .ns
 |nt e=>(first|(simp only[AV.ren1]at h)|(simp only[AV.ren]at h));cases h;exact .nt e
 |rs r n c=>
  simp only[AV.ren1]at h;cases h;exact .rs (G:=Gc G R Q) r n c
 |mp r=>
  simp only[AV.ren1]at h;cases h;exact .mp (G:=Gc G R Q) r
 |sx vs=>simp[AV.simple]at hs
theorem AVR.j5m{R:List Ref}{Q:List (Nat×Lab)}{x:AV}{v:Value}(hw:x.wf R.length=true)(h:AVR G w (x.ren R) v):AVR (Gc G R Q) w x v:=by
 cases x with
 |d x=>simp only[AV.ren]at h;cases h with|d _ _ h=>exact .d _ _ h
 |own q e sz l=>
  cases q with
  |t s=>simp[AV.wf]at hw
  |c r off=>
   simp only[AV.wf]at hw;obtain⟨i,rfl,hi⟩:=q8s hw;simp only[AV.ren,renQ]at h;cases h with
   |own _ _ _ _ _ hq hv hs=>exact .own _ _ _ _ _ (by simp only[Gc,if_pos hi];exact hq) hv hs
 |ptr r off=>
  simp only[AV.ren]at h;cases h;exact .ptr (G:=Gc G R Q) r off
 |dptr cs=>simp only[AV.ren]at h;cases h with|dptr _ b o vs h1 h2 h3=>exact .dptr cs b o vs h1 h2 h3
 |tuple vs=>
  simp only[AV.ren,q9N]at h;cases h with
  |tuple _ us hl hs hh=>
   have hs':∀x∈vs,x.simple=true:=fun x hx=>by
    have:=hs (x.ren1 R) (Zcy hx);rwa [AV.q3b]at this
   refine .tuple vs us (by simpa using hl) hs' fun i x hi=>?_
   exact(hh i (x.ren1 R) (by rw[Zan,hi];rfl)).j12 (hs' x (Zaf hi))
 |fn f a b=>
  simp only[AV.ren,q9N]at h;cases h with
  |fn _ _ _ us vs hl hs hh hl' hs' hh'=>
   have k:∀x∈a,x.simple=true:=fun x hx=>by
    have:=hs (x.ren1 R) (Zcy hx);rwa [AV.q3b]at this
   have k':∀x∈b,x.simple=true:=fun x hx=>by
    have:=hs' (x.ren1 R) (Zcy hx);rwa [AV.q3b]at this
   exact .fn f a b us vs (by simpa using hl) k (fun i x hi=>(hh i (x.ren1 R) (by rw[Zan,hi];rfl)).j12 (k x (Zaf hi)))
    (by simpa using hl') k' (fun i x hi=>(hh' i (x.ren1 R) (by rw[Zan,hi];rfl)).j12 (k' x (Zaf hi)))
 |junk=>exact .junk v
 |ns=>(first|(simp only[AV.ren1]at h)|(simp only[AV.ren]at h));cases h;exact .ns
 |nt e=>(first|(simp only[AV.ren1]at h)|(simp only[AV.ren]at h));cases h;exact .nt e
 |rs r n c=>
  simp only[AV.ren]at h;cases h;exact .rs (G:=Gc G R Q) r n c
 |mp r=>
  simp only[AV.ren]at h;cases h;exact .mp (G:=Gc G R Q) r
 |sx vs=>
  simp only[AV.ren,q9N]at h;cases h with
  |sx _ us hl hs ho hh=>
   have hs':∀x∈vs,x.simple=true:=fun x hx=>by
    have:=hs (x.ren1 R) (Zcy hx);rwa [AV.q3b]at this
   refine .sx vs us (by simpa using hl) hs' (by simpa using ho) fun i x hi=>?_
   exact(hh i (x.ren1 R) (by rw[Zan,hi];rfl)).j12 (hs' x (Zaf hi))
theorem AV.j9U{n:Nat}{x:AV}(h:x.wf n=true){q:Lab}(hq:x.lab?=some q):∃i off,q=.c (.x i) off∧i<n:=by
 cases x<;>simp[AV.lab?]at hq;subst hq;rename_i q e sz l;cases q with
 |t s=>simp[AV.wf]at h
 |c r off=>
  simp only[AV.wf]at h;obtain⟨i,rfl,hi⟩:=q8s h;exact⟨i,off,rfl,hi⟩
theorem z3q{α:Type}{l:List α}(h:l.Nodup){i j:Nat}{x:α}(hi:l[i]?=some x)(hj:l[j]?=some x):i=j:=by
 have hl:i<l.length:=(Zac.1 hi).1;exact(List.getElem?_inj hl h).1 (hi.trans hj.symm)
theorem ObjR.j5m{R:List Ref}{Q:List (Nat×Lab)}(hn:R.Nodup){i:Nat}(hi:i<R.length){o:AObj}(hw:o.wf R.length=true)(h:ObjR G w (renR R (.x i)) (o.ren R)):ObjR (Gc G R Q) w (.x i) o:=by
 cases o with
 |siter s p=>exact h
 |miter l c=>exact h
 |mobj l c=>exact h
 |cells cs=>
  simp only[AObj.ren,z0P]at h;obtain⟨arr,el,h1,h2,h3⟩:=h;simp only[AObj.wf,z7y]at hw;refine⟨arr,el,h1,by simpa using h2,fun j x hj=>?_⟩;have hxw:=hw x (Zaf hj);obtain⟨k1,k2,k3⟩:=h3 j (x.ren R) (by rw[Zan,hj];rfl);refine⟨k1.j5m hxw,k2,fun q hq=>?_,fun e he=>k3.2 e (by rw[he];rfl)⟩;obtain⟨k,off,rfl,hk⟩:=AV.j9U hxw hq;have:(x.ren R).lab?=some (renQ R (.c (.x k) off)):=by
   cases x<;>simp[AV.lab?]at hq;subst hq;rfl
  have:=k3.1 _ this;simp only[renQ,Lab.c.injEq]at this;obtain⟨e1,e2⟩:=this;have:k=i:=z3q hn (q15 hk) (by rw[e1];exact q15 hi);rw[this,e2]
theorem j26{R:List Ref}{Q:List (Nat×Lab)}{q:Lab}{p:Value×Nat×Nat}(h:(Gc G R Q).lam q=some p):
  (∃i off,q=.c (.x i) off∧i<R.length∧G.lam (.c (renR R (.x i)) off)=some p)∨∃i q0,q=.t i∧aget Q i=some q0∧G.lam q0=some p:=by
 simp only[Gc]at h;split at h
 ·rename_i i off;split at h
  ·rename_i hi;exact .inl ⟨i,off,rfl,hi,h⟩
  ·cases h
 ·rename_i i;cases hq:aget Q i with
  |none=>simp[hq]at h
  |some q0=>simp[hq]at h;exact .inr ⟨i,q0,rfl,hq,h⟩
 ·cases h
theorem j7L{R:List Ref}{Q:List (Nat×Lab)}{q:Lab}{p:Value×Nat×Nat}(h:(Gc G R Q).lam q=some p):∃q0,G.lam q0=some p∧((∃r off,q0=.c r off∧r∈R)∨q0∈q3e Q):=by
 rcases j26 h with⟨i,off,_,hi,h1⟩|⟨i,q0,_,hq,h1⟩
 ·exact⟨_,h1,.inl ⟨_,_,rfl,Zaf (q15 hi)⟩⟩
 ·exact⟨_,h1,.inr (q80 hq)⟩
theorem j80{R:List Ref}{Q:List (Nat×Lab)}(hn:R.Nodup)(hq:(q3e Q).Nodup)(hQR:∀q∈q3e Q,∀r off,q=.c r off→r∉R){q q':Lab}{p p':Value×Nat×Nat}(h:(Gc G R Q).lam q=some p)(h':(Gc G R Q).lam q'=some p')
  (hinj:∀q0 q1,G.lam q0=some p→G.lam q1=some p'→q0=q1):q=q':=by
 rcases j26 h with⟨i,off,rfl,hi,h1⟩|⟨i,q0,rfl,hq0,h1⟩<;>rcases j26 h' with⟨j,off',rfl,hj,h2⟩|⟨j,q1,rfl,hq1,h2⟩
 ·have:=hinj _ _ h1 h2;simp only[Lab.c.injEq]at this;obtain⟨e1,e2⟩:=this;rw[z3q hn (q15 hi) (by rw[e1];exact q15 hj),e2]
 ·have:=hinj _ _ h1 h2;exact absurd (Zaf (q15 hi)) (hQR _ (q80 hq1) _ _ this.symm)
 ·have:=hinj _ _ h1 h2;exact absurd (Zaf (q15 hj)) (hQR _ (q80 hq0) _ _ this)
 ·have:=hinj _ _ h1 h2;subst this;rw[j3c hq hq0 hq1]
theorem SR.enter(h:SR E n G σ ts w){R:List Ref}{Q:List (Nat×Lab)}{xs:List AV}{hs:List AObj}{vs:Array Value}(hvs:vs.size=xs.length)(hargs:∀i x,xs[i]?=some x→AVR (Gc G R Q) w x (vs.getD i undef))
  (ho:q0R σ R R hs) (hwo:wfO R.length hs=true) (hn:R.Nodup) (hq:okQ R Q=true):SR (q5J (Gc G R Q) hs w) xs.length (Gc G R Q) ⟨q9b 0 xs,[],numO 0 hs⟩ vs w:=by
 obtain⟨hlen,hget⟩:=q7T ho;obtain⟨hq1,hq2⟩:=j0n hq;have hobj:∀r o,St.obj ⟨q9b 0 xs,[],numO 0 hs⟩ r=some o→∃i,r=.x i∧i<R.length∧hs[i]?=some o∧σ.obj (renR R (.x i))=some (o.ren R):=by
  intro r o hr;cases r with
  |l s=>simp[St.obj,aget]at hr
  |x i=>
   simp only[St.obj,q8k,Zay,if_true,Nat.sub_zero]at hr;have hi:i<R.length:=by rw[hlen];exact(Zac.1 hr).1
   exact⟨i,rfl,hi,hr,hget i _ o (q15 hi) hr⟩
 refine{ size:=hvs,slot:=fun s x hx=>?_,obj:=fun r o hr=>?_,objf:=fun r o hr=>?_,inj:=fun r r' o o' hr hr' hb=>?_,lam:=fun q v e sz hq=>?_,lamObj:=fun q v e sz b hq hb r o hr=>?_,
         lamInj:=fun q q' v v' p p' b hq hq' hb hb'=>?_,newObj:=fun r o hr=>?_,newLam:=fun q v e sz b hq hb=>?_,ext:=Ext.refl _ _,fr:=fun _ _ _=>⟨rfl,rfl⟩,top:=h.top,ext0:=fun _ _=>rfl,own0:=fun r cs x s hr hx=>?_,os:=rfl,tape:=rfl,output:=rfl }
 ·simp only[q6p,Zay,if_true,Nat.sub_zero]at hx;exact hargs s x hx
 ·obtain⟨i,rfl,hi,h1,h2⟩:=hobj r o hr;exact(h.obj _ _ h2).j5m hn hi (j5u.1 hwo o (Zaf h1))
 ·obtain⟨i,rfl,hi,h1,h2⟩:=hobj r o hr;exact h.objf _ _ h2
 ·obtain⟨i,rfl,hi,h1,h2⟩:=hobj r o hr;obtain⟨j,rfl,hj,h3,h4⟩:=hobj r' o' hr';have:=h.inj _ _ _ _ h2 h4 hb;rw[z3q hn (q15 hi) (by rw[this];exact q15 hj)]
 ·obtain⟨q0,h1,_⟩:=j7L hq;exact h.lam _ v e sz h1
 ·obtain⟨q0,h1,_⟩:=j7L hq;obtain⟨j,rfl,hj,h3,h4⟩:=hobj r o hr;exact h.lamObj _ v e sz b h1 hb _ _ h4
 ·exact j80 hn hq1 hq2 hq hq' fun q0 q1 h1 h2=>h.lamInj _ _ v v' p p' b h1 h2 hb hb'
 ·obtain⟨i,rfl,hi,h1,h2⟩:=hobj r o hr;exact .inr (.inl ⟨i,o,h1,rfl⟩)
 ·exact .inr (.inr ⟨q,v,_,hq,hb⟩)
 ·obtain⟨i,hr',hi,h1,h2⟩:=hobj _ _ hr;have hw:=j5u.1 hwo _ (Zaf h1);simp only[AObj.wf,z7y]at hw;exact AV.z8I (AV.j7j (hw x hx)) s
theorem z52{R:List Ref}{Q:List (Nat×Lab)}{hs:List AObj}(ho:q0R σ R R hs){b:Nat}(h:inM (Gc G R Q) hs b):
  (∃r o,r∈R∧σ.obj r=some o∧G.b r=b)∨∃q v p,((∃r off,q=.c r off∧r∈R)∨q∈q3e Q)∧G.lam q=some (v,p)∧v.ownBlock=some b:=by
 obtain⟨hlen,hget⟩:=q7T ho;rcases h with⟨i,o,h1,h2⟩|⟨q,v,p,h1,h2⟩
 ·have hi:i<R.length:=by rw[hlen];exact(Zac.1 h1).1
  exact .inl ⟨_,_,Zaf (q15 hi),hget i _ o (q15 hi) h1,h2⟩
 ·obtain⟨q0,h3,h4⟩:=j7L h1;exact .inr ⟨q0,v,p,h4,h3,h2⟩
end Go.Av
/- Calls that take objects: what the caller has back. -/
namespace Go.Av
variable {E:Entry} {n:Nat} {G:q0s} {σ:St} {ts:Array Value} {w:World}
def idxR(R:List Ref)(r:Ref):Option Nat:=if r∈R then some (R.idxOf r)else none
theorem j36{R:List Ref}{r:Ref}{i:Nat}(h:idxR R r=some i):r=renR R (.x i)∧i<R.length:=by
 unfold idxR at h;split at h
 ·rename_i hm;cases h;have hl:=List.idxOf_lt_length_of_mem hm;refine⟨?_,hl⟩;have:R[R.idxOf r]?=some r:=by rw[Zal hl];simp
  rw[q15 hl]at this;exact(Option.some.inj this).symm
 ·cases h
theorem j35{R:List Ref}{r:Ref}(h:idxR R r=none):r∉R:=by
 unfold idxR at h;split at h
 ·cases h
 ·assumption
theorem j8c{R:List Ref}(hn:R.Nodup){i:Nat}(hi:i<R.length):idxR R (renR R (.x i))=some i:=by
 have hm:renR R (.x i)∈R:=Zaf (q15 hi);unfold idxR;rw[if_pos hm];have hl:=List.idxOf_lt_length_of_mem hm;have:R[R.idxOf (renR R (.x i))]?=some (renR R (.x i)):=by rw[Zal hl];simp
 rw[z3q hn this (q15 hi)]
def Gb(G G':q0s)(R:List Ref):q0s:=
 { f:=G'.f,b:=G.b,lam:=fun q=>match q with
   |.c r off=>match idxR R r with
    |some i=>G'.lam (.c (.x i) off)
    |none=>G.lam (.c r off)
   |.t s=>G.lam (.t s) }
theorem AVR.j1H{G':q0s}{w':World}{R:List Ref}(hb:∀i,i<R.length→G'.b (.x i)=G.b (renR R (.x i))){x:AV}{v:Value}(hs:x.simple=true)(hw:x.wf1 R.length=true)(h:AVR G' w' x v):AVR (Gb G G' R) w' (x.ren1 R) v:=by
 cases h with
 |d x v h=>exact .d x v h
 |own q e sz l v hq hv hs'=>simp[AV.simple]at hs
 |ptr r off=>
  simp only[AV.wf1]at hw;obtain⟨i,rfl,hi⟩:=q8s hw;rw[hb i hi];exact .ptr (G:=Gb G G' R) (renR R (.x i)) off
 |dptr cs b o vs h1 h2 h3=>exact .dptr cs b o vs h1 h2 h3
 |tuple=>simp[AV.simple]at hs
 |fn=>simp[AV.simple]at hs
 |junk v=>exact .junk v
 |ns=>exact .ns
 |nt e=>exact .nt e
 |rs r n c=>
  simp only[AV.wf1]at hw;obtain⟨i,rfl,hi⟩:=q8s hw;rw[hb i hi];exact .rs (G:=Gb G G' R) (renR R (.x i)) n c
 |mp r=>
  simp only[AV.wf1]at hw;obtain⟨i,rfl,hi⟩:=q8s hw;rw[hb i hi];exact .mp (G:=Gb G G' R) (renR R (.x i))
 |sx=>simp[AV.simple]at hs
theorem AVR.j4U{G':q0s}{w':World}{R:List Ref}(hn:R.Nodup)(hb:∀i,i<R.length→G'.b (.x i)=G.b (renR R (.x i))){x:AV}{v:Value}(hw:x.wf R.length=true)(h:AVR G' w' x v):AVR (Gb G G' R) w' (x.ren R) v:=by
 cases h with
 |d x v h=>exact .d x v h
 |own q e sz l v hq hv hs'=>
  cases q with
  |t s=>simp[AV.wf]at hw
  |c r off=>
   simp only[AV.wf]at hw;obtain⟨i,rfl,hi⟩:=q8s hw;exact .own _ _ _ _ _ (by simp only[Gb,renQ,j8c hn hi];exact hq) hv hs'
 |ptr r off=>
  simp only[AV.wf]at hw;obtain⟨i,rfl,hi⟩:=q8s hw;rw[hb i hi];exact .ptr (G:=Gb G G' R) (renR R (.x i)) off
 |dptr cs b o vs h1 h2 h3=>exact .dptr cs b o vs h1 h2 h3
 |tuple xs vs hl hs' hh=>
  simp only[AV.wf,q9U]at hw;simp only[AV.ren,q9N];refine .tuple _ vs (by simpa using hl) (fun y hy=>?_) fun i y hy=>?_
  ·obtain⟨x,hx,rfl⟩:=Zat.1 hy;rw[AV.q3b];exact hs' x hx
  ·rw[Zan]at hy;cases hx:xs[i]? with
   |none=>simp[hx]at hy
   |some x=>
    simp[hx]at hy;subst hy;have hm:=Zaf hx;exact(hh i x hx).j1H hb (hs' x hm) (hw x hm)
 |fn f xs ys us vs hl hs1 hh hl' hs2 hh'=>
  simp only[AV.wf,Zah,q9U]at hw;simp only[AV.ren,q9N];refine .fn f _ _ us vs (by simpa using hl) (fun y hy=>?_) (fun i y hy=>?_) (by simpa using hl') (fun y hy=>?_) (fun i y hy=>?_)
  ·obtain⟨x,hx,rfl⟩:=Zat.1 hy;rw[AV.q3b];exact hs1 x hx
  ·rw[Zan]at hy;cases hx:xs[i]? with
   |none=>simp[hx]at hy
   |some x=>
    simp[hx]at hy;subst hy;have hm:=Zaf hx;exact(hh i x hx).j1H hb (hs1 x hm) (hw.1 x hm)
  ·obtain⟨x,hx,rfl⟩:=Zat.1 hy;rw[AV.q3b];exact hs2 x hx
  ·rw[Zan]at hy;cases hx:ys[i]? with
   |none=>simp[hx]at hy
   |some x=>
    simp[hx]at hy;subst hy;have hm:=Zaf hx;exact(hh' i x hx).j1H hb (hs2 x hm) (hw.2 x hm)
 |junk v=>exact .junk v
 |ns=>exact .ns
 |nt e=>exact .nt e
 |rs r n c=>
  simp only[AV.wf]at hw;obtain⟨i,rfl,hi⟩:=q8s hw;rw[hb i hi];exact .rs (G:=Gb G G' R) (renR R (.x i)) n c
 |mp r=>
  simp only[AV.wf]at hw;obtain⟨i,rfl,hi⟩:=q8s hw;rw[hb i hi];exact .mp (G:=Gb G G' R) (renR R (.x i))
 |sx xs vs hl hs' ho hh=>
  simp only[AV.wf,q9U]at hw;simp only[AV.ren,q9N];refine .sx _ vs (by simpa using hl) (fun y hy=>?_) (by simpa using ho) fun i y hy=>?_
  ·obtain⟨x,hx,rfl⟩:=Zat.1 hy;rw[AV.q3b];exact hs' x hx
  ·rw[Zan]at hy;cases hx:xs[i]? with
   |none=>simp[hx]at hy
   |some x=>
    simp[hx]at hy;subst hy;have hm:=Zaf hx;exact(hh i x hx).j1H hb (hs' x hm) (hw x hm)
theorem ObjR.j4U{G':q0s}{w':World}{R:List Ref}(hn:R.Nodup)(hb:∀i,i<R.length→G'.b (.x i)=G.b (renR R (.x i))){i:Nat}(hi:i<R.length){o:AObj}(hw:o.wf R.length=true)(h:ObjR G' w' (.x i) o):
  ObjR (Gb G G' R) w' (renR R (.x i)) (o.ren R):=by
 have e:(Gb G G' R).b (renR R (.x i))=G'.b (.x i):=(hb i hi).symm;cases o with
 |siter s p=>show w'.heap[(Gb G G' R).b (renR R (.x i))]?=_;rw[e];exact h
 |miter l c=>obtain⟨m,since,seen,c0,h1,h2⟩:=h;exact⟨m,since,seen,c0,by rw[e];exact h1,h2⟩
 |mobj l c=>obtain⟨es,clock,h1,h2⟩:=h;exact⟨es,clock,by rw[e];exact h1,h2⟩
 |cells cs=>
  obtain⟨arr,el,h1,h2,h3⟩:=h;simp only[AObj.wf,z7y]at hw;simp only[AObj.ren,z0P];refine⟨arr,el,by rw[e];exact h1,by simpa using h2,fun j y hy=>?_⟩;rw[Zan]at hy;cases hx:cs[j]? with
  |none=>simp[hx]at hy
  |some x=>
   simp[hx]at hy;subst hy;have hxw:=hw x (Zaf hx);obtain⟨k1,k2,k3⟩:=h3 j x hx;refine⟨k1.j4U hn hb hxw,k2,fun q hq=>?_,fun e' he=>k3.2 e' (by cases x<;>simp[AV.ren]at he ⊢;exact he)⟩;have:∃q0,x.lab?=some q0∧q=renQ R q0:=by
    cases x<;>simp[AV.ren,AV.lab?]at hq;exact⟨_,rfl,hq.symm⟩
   obtain⟨q0,hq0,rfl⟩:=this;rw[k3.1 q0 hq0];rfl
theorem z7K{R:List Ref}{hs':List AObj}(hn:R.Nodup)(hl:hs'.length=R.length)(hback:q6m R R.length R hs'=true){r:Ref}{o:AObj}(hr:(q5I σ R hs').obj r=some o):
  (∃i o',r=renR R (.x i)∧i<R.length∧hs'[i]?=some o'∧o=o'.ren R∧o'.wf R.length=true∧(isLocal r=true∨o.q5b=true))∨(r∉R∧σ.obj r=some o):=by
 have hbk:=z5H hback;obtain⟨hset,hkeep⟩:=z4R (R:=R) (rs:=R) (os:=hs') (σ:={ σ with ρ:=amap (AV.z47 R) σ.ρ }) hl.symm hn
 by_cases hm:r∈R
 ·obtain⟨i,hi⟩:=Zbb hm;have hil:i<R.length:=(Zac.1 hi).1;have e:=q15 hil;rw[hi]at e;cases e;have hi':i<hs'.length:=by omega
  have h1:=Zal hi';obtain⟨h2,h3⟩:=hbk i _ _ hi h1;have:=hset i _ _ hi h1;rw[show(q5I σ R hs').obj _=_ from this]at hr;cases hr;exact .inl ⟨i,_,rfl,hil,h1,rfl,h2,h3⟩
 ·have:=hkeep r hm;rw[show(q5I σ R hs').obj r=_ from this]at hr;exact .inr ⟨hm,by rw[←hr];cases r<;>rfl⟩
theorem z5w{G':q0s}{R:List Ref}{q:Lab}{p:Value×Nat×Nat}(hq:(Gb G G' R).lam q=some p):(∃i off,q=.c (renR R (.x i)) off∧i<R.length∧G'.lam (.c (.x i) off)=some p)∨(G.lam q=some p∧∀r off,q=.c r off→r∉R):=by
 cases q with
 |t s=>exact .inr ⟨hq,fun _ _ e=>by cases e⟩
 |c r off=>
  simp only[Gb]at hq;cases hi:idxR R r with
  |some i=>rw[hi]at hq;obtain⟨e,hl⟩:=j36 hi;exact .inl ⟨i,off,by rw[←e],hl,hq⟩
  |none=>rw[hi]at hq;exact .inr ⟨hq,fun r' off' e=>by cases e;exact j35 hi⟩
structure Out(E E1:Entry)(G:q0s)(σ:St)(R:List Ref):Prop where
 obj:∀r o,σ.obj r=some o→r∉R→¬E1.M (G.b r)
 row:∀q v p b,G.lam q=some (v,p)→v.ownBlock=some b→(∀r off,q=.c r off→r∉R)→¬E1.M b
 new:∀b,E1.M b→E.w0.heap.size≤b∨E.M b
theorem SR.leave(h:SR E n G σ ts w){E1:Entry}{R:List Ref}{hs hs':List AObj}{r:AV}{G':q0s}{v:Value}{w':World}(hw0:E1.w0=w)(hf0:E1.f0=G.f)(hb0:∀i,E1.b0 i=G.b (renR R (.x i)))(hout:Out E E1 G σ R)
  (ho:q0R σ R R hs) (hn:R.Nodup) (hR:R.length≤1000) (hl:hs'.length=hs.length) (k:SR E1 1 G' ⟨[(0,r)],[],numO 0 hs'⟩ #[v] w') (hback:q6m R R.length R hs'=true):SR E n (Gb G G' R) (q5I σ R hs') ts w':=by
 obtain⟨hlen,hget⟩:=q7T ho;have hb:∀i,i<R.length→G'.b (.x i)=G.b (renR R (.x i)):=fun i hi=>(k.ext0 i (by omega)).trans (hb0 i)
 have hobj:=fun r o=>z7K (σ:=σ) (r:=r) (o:=o) hn (hl.trans hlen.symm) hback
 have hpre:∀r o,(q5I σ R hs').obj r=some o→∃o0,σ.obj r=some o0:=by
  intro r o hr;rcases hobj r o hr with⟨i,o',rfl,hi,h1,_⟩|⟨_,h1⟩
  ·have hi':i<hs.length:=by omega
   exact⟨_,hget i _ _ (q15 hi) (Zal hi')⟩
  ·exact⟨o,h1⟩
 have hfr:∀b,b<w.heap.size→¬E1.M b→w'.heap[b]?=w.heap[b]?∧G'.f b=G.f b:=fun b h1 h2=>by
  have:=k.fr b (by rw[hw0];exact h1) h2;rw[hw0,hf0]at this;exact this
 have hext:Ext G.f w G'.f w':=by have:=k.ext;rwa [hw0,hf0]at this
 have lamK:∀q p,(∀r off,q=.c r off→r∉R)→G.lam q=some p→(Gb G G' R).lam q=some p:=by
  intro q p hq hp;cases q with
  |t s=>exact hp
  |c r off=>
   simp only[Gb];have:idxR R r=none:=by unfold idxR;rw[if_neg (hq r off rfl)]
   rw[this];exact hp
 have newLam:∀q v e sz b,G'.lam q=some (v,e,sz)→v.ownBlock=some b→w.heap.size≤b∨E1.M b:=fun q v e sz b h1 h2=>by
  have:=k.newLam q v e sz b h1 h2;rwa [hw0]at this
 refine{ size:=h.size,slot:=fun s x hx=>?_,obj:=fun r o hr=>?_,objf:=fun r o hr=>?_,inj:=fun r r' o o' hr hr' hbb=>?_,lam:=fun q v e sz hq=>?_,lamObj:=fun q v e sz b hq hvb r o hr=>?_,
         lamInj:=fun q q' v v' p p' b hq hq' hvb hvb'=>?_,newObj:=fun r o hr=>?_,newLam:=fun q v e sz b hq hvb=>?_,ext:=h.ext.trans hext,fr:=fun b hb hM=>?_,top:=k.top,ext0:=h.ext0,own0:=fun r cs x s hr hx=>?_,
         os:=k.os.trans (by rw[hw0];exact h.os),tape:=k.tape.trans (by rw[hw0];exact h.tape),output:=k.output.trans (by rw[hw0];exact h.output) }
 ·have hx':aget (amap (AV.z47 R) σ.ρ) s=some x:=by
   have e:(q5I σ R hs').ρ=amap (AV.z47 R) σ.ρ:=z9b;rw[←e];exact hx
  rw[q0G]at hx';cases h0:aget σ.ρ s with
  |none=>simp[h0]at hx'
  |some x0=>
   simp[h0]at hx';subst hx';have hv:=h.slot s x0 h0;have gen:x0.lab?=none→x0.z47 R=x0→AVR (Gb G G' R) w' (x0.z47 R) (ts.getD s undef):=fun hl e=>by
    rw[e];exact hv.mono (G':=Gb G G' R) hext (fun _ _=>rfl) (fun q p hq _=>by rw[hl]at hq;cases hq)
   cases x0 with
   |own q e sz l=>
    cases q with
    |t s'=>exact hv.mono (G':=Gb G G' R) hext (fun _ _=>rfl) (fun q p hq hp=>by simp[AV.lab?]at hq;subst hq;exact hp)
    |c r' off=>
     simp only[AV.z47];split
     ·cases hv with|own _ _ _ _ _ _ hrd _=>exact .d _ _ (hrd.ext hext)
     ·rename_i hm;rw[z61]at hm;exact hv.mono (G':=Gb G G' R) hext (fun _ _=>rfl) (fun q p hq hp=>by
       simp[AV.lab?]at hq;subst hq;exact lamK _ _ (fun r2 off2 e2=>by cases e2;exact hm) hp)
   |d _=>exact gen rfl rfl
   |ptr _ _=>exact gen rfl rfl
   |dptr _=>exact gen rfl rfl
   |tuple _=>exact gen rfl rfl
   |fn _ _ _=>exact gen rfl rfl
   |junk=>exact gen rfl rfl
   |ns=>exact gen rfl rfl
   |nt _=>exact gen rfl rfl
   |rs _ _ _=>exact gen rfl rfl
   |mp _=>exact gen rfl rfl
   |sx _=>exact gen rfl rfl
 ·rcases hobj r o hr with⟨i,o',rfl,hi,h1,rfl,h2,_⟩|⟨hm,h1⟩
  ·exact(k.obj (.x i) o' (by simp[St.obj,q8k,h1])).j4U hn hb hi h2
  ·refine(h.obj r o h1).mono (G':=Gb G G' R) hext rfl (hfr _ (h.obj r o h1).lt (hout.obj r o h1 hm)).1 (fun _ _ _ _ _ _=>rfl) (fun i p hp=>lamK _ _ (fun r2 off2 e2=>by cases e2;exact hm) hp)
 ·rcases hobj r o hr with⟨i,o',rfl,hi,h1,rfl,h2,_⟩|⟨hm,h1⟩
  ·have:=k.objf (.x i) o' (by simp[St.obj,q8k,h1]);rw[hb i hi]at this;exact this
  ·show G'.f (G.b r)=0
   rw[(hfr _ (h.obj r o h1).lt (hout.obj r o h1 hm)).2];exact h.objf r o h1
 ·obtain⟨o1,h1⟩:=hpre r o hr;obtain⟨o2,h2⟩:=hpre r' o' hr';exact h.inj r r' o1 o2 h1 h2 hbb
 ·rcases z5w hq with⟨i,off,rfl,hi,h1⟩|⟨h1,h2⟩
  ·exact k.lam _ v e sz h1
  ·exact(h.lam q v e sz h1).mono fun b hvb=>hfr b ((h.lam q v e sz h1).lt hvb) (hout.row q v _ b h1 hvb h2)
 ·obtain⟨o0,ho0⟩:=hpre r o hr;rcases z5w hq with⟨i,off,rfl,hi,h1⟩|⟨h1,h2⟩
  ·rcases hobj r o hr with⟨j,o',rfl,hj,h3,rfl,h4,_⟩|⟨hm,h3⟩
   ·have:=k.lamObj _ v e sz b h1 hvb (.x j) o' (by simp[St.obj,q8k,h3]);rw[hb j hj]at this;exact this
   ·intro hbb;have hbb:G.b r=b:=hbb;rcases newLam _ v e sz b h1 hvb with h5|h5
    ·have:=(h.obj r o0 ho0).lt;omega
    ·exact hout.obj r o h3 hm (by rw[hbb];exact h5)
  ·exact h.lamObj q v e sz b h1 hvb r o0 ho0
 ·rcases z5w hq with⟨i,off,rfl,hi,h1⟩|⟨h1,h2⟩<;>rcases z5w hq' with⟨j,off',rfl,hj,h3⟩|⟨h3,h4⟩
  ·have:=k.lamInj _ _ v v' p p' b h1 h3 hvb hvb';simp only[Lab.c.injEq,Ref.x.injEq]at this;rw[this.1,this.2]
  ·exfalso
   obtain⟨e1,s1⟩:=p;obtain⟨e2,s2⟩:=p';rcases newLam _ v e1 s1 b h1 hvb with h5|h5
   ·have:=(h.lam q' v' e2 s2 h3).lt hvb';omega
   ·exact hout.row q' v' _ b h3 hvb' h4 h5
  ·exfalso
   obtain⟨e1,s1⟩:=p;obtain⟨e2,s2⟩:=p';rcases newLam _ v' e2 s2 b h3 hvb' with h5|h5
   ·have:=(h.lam q v e1 s1 h1).lt hvb;omega
   ·exact hout.row q v _ b h1 hvb h2 h5
  ·exact h.lamInj q q' v v' p p' b h1 h3 hvb hvb'
 ·obtain⟨o0,ho0⟩:=hpre r o hr;exact h.newObj r o0 ho0
 ·rcases z5w hq with⟨i,off,rfl,hi,h1⟩|⟨h1,h2⟩
  ·rcases newLam _ v e sz b h1 hvb with h5|h5
   ·exact .inl (Zbr h.ext.size h5)
   ·exact hout.new b h5
  ·exact h.newLam q v e sz b h1 hvb
 ·have hnM:¬E1.M b:=fun h5=>by
   rcases hout.new b h5 with h6|h6
   ·omega
   ·exact hM h6
  have h1:=hfr b (Zcf hb h.ext.size) hnM;have h2:=h.fr b hb hM;exact⟨h1.1.trans h2.1,h1.2.trans h2.2⟩
 ·rcases hobj _ _ hr with⟨i,o',e,hi,h1,e2,h2,h4⟩|⟨hm,h1⟩
  ·rcases h4 with h4|h4
   ·simp[isLocal]at h4
   ·simp only[AObj.q5b,j2D]at h4;exact AV.z8I (h4 x hx) s
  ·exact h.own0 r cs x s h1 hx
theorem SR.j1h(h:SR E n G σ ts w){E1:Entry}{R:List Ref}{hs hs':List AObj}{G':q0s}{v:Value}{w':World}{e sz:Nat}{l:List D}(hw0:E1.w0=w)(hf0:E1.f0=G.f)(hb0:∀i,E1.b0 i=G.b (renR R (.x i)))(hout:Out E E1 G σ R)
  (ho:q0R σ R R hs) (hn:R.Nodup) (hR:R.length≤1000) (hl:hs'.length=hs.length) (k:SR E1 1 G' ⟨[(0,.own (.t 0) e sz l)],[],numO 0 hs'⟩ #[v] w') (hback:q6m R R.length R hs'=true) (d:Nat) (hd:d<n):
  ∃G2,SR E n G2 (((q5I σ R hs').erase (.t d)).put d (.own (.t d) e sz l)) (ts.setIfInBounds d v) w':=by
 obtain⟨hlen,hget⟩:=q7T ho;have hb:∀i,i<R.length→G'.b (.x i)=G.b (renR R (.x i)):=fun i hi=>(k.ext0 i (by omega)).trans (hb0 i)
 have h1:=(h.leave hw0 hf0 hb0 hout ho hn hR hl k hback).erase (.t d);have hv:AVR G' w' (.own (.t 0) e sz l) v:=by simpa using k.slot 0 _ (by simp[aget])
 cases hv with
 |own _ _ _ _ _ hq hrd hsz=>
  have hobj:∀r o,((q5I σ R hs').erase (.t d)).obj r=some o→∃o',(q5I σ R hs').obj r=some o':=fun r o hr=>by
   rw[St.q4u]at hr;cases h0:(q5I σ R hs').obj r with
   |none=>simp[h0]at hr
   |some o'=>exact⟨o',rfl⟩
  have newb:∀b,v.ownBlock=some b→w.heap.size≤b∨E1.M b:=fun b hvb=>by
   have:=k.newLam _ v e sz b hq hvb;rwa [hw0]at this
  have h2:=h1.z7C (.t d) (by simp) (v:=v) (e:=e) (sz:=sz) (k.lam _ _ _ _ hq) (fun b hvb=>by
   refine⟨fun r o hr=>?_,fun q' v' p hp hvb'=>?_,?_⟩
   ·obtain⟨o',hr'⟩:=hobj r o hr;rcases z7K hn (hl.trans hlen.symm) hback hr' with⟨j,o2,rfl,hj,h3,_⟩|⟨hm,h3⟩
    ·have:=k.lamObj _ v e sz b hq hvb (.x j) o2 (by simp[St.obj,q8k,h3]);rw[hb j hj]at this;exact this
    ·intro hbb;have hbb:G.b r=b:=hbb;rcases newb b hvb with h5|h5
     ·have:=(h.obj r o' h3).lt;omega
     ·exact hout.obj r o' h3 hm (by rw[hbb];exact h5)
   ·simp only[updf]at hp;split at hp
    ·cases hp
    ·obtain⟨e2,s2⟩:=p;rcases z5w hp with⟨i,off,rfl,hi,g1⟩|⟨g1,g2⟩
     ·have:=k.lamInj _ _ v v' _ _ b hq g1 hvb hvb';cases this
     ·rcases newb b hvb with h5|h5
      ·have:=(h.lam q' v' e2 s2 g1).lt hvb';omega
      ·exact hout.row q' v' _ b g1 hvb' g2 h5
   ·rcases newb b hvb with h5|h5
    ·exact .inl (Zbr h.ext.size h5)
    ·exact hout.new b h5)
  exact⟨_,h2.put (s:=d) (x:=.own (.t d) e sz l) (v:=v) (.own _ _ _ _ _ (by simp) hrd hsz) hd⟩
theorem SR.q0z:∀(qs:List Lab) {G:q0s} {σ:St},SR E n G σ ts w→∃lam',SR E n { G with lam:=lam' } (Go.Av.q0z σ qs) ts w∧(∀q p,lam' q=some p→G.lam q=some p∧q∉qs)
 |[],G,σ,h=>⟨G.lam,h,fun q p hq=>⟨hq,by simp⟩⟩
 |q0::qs,G,σ,h=>by
  obtain⟨lam',h1,h2⟩:=SR.q0z qs (h.erase q0);refine⟨lam',h1,fun q p hq=>?_⟩;obtain⟨h3,h4⟩:=h2 q p hq;simp only[updf]at h3;split at h3
  ·cases h3
  ·rename_i hne;exact⟨h3,by simp only[Zba,not_or];exact⟨hne,h4⟩⟩
theorem z1T:∀(qs:List Lab) {σ:St} {r:Ref} {o:AObj},(Go.Av.q0z σ qs).obj r=some o→∃o',σ.obj r=some o'
 |[],σ,r,o,h=>⟨o,h⟩
 |q::qs,σ,r,o,h=>by
  obtain⟨o',h1⟩:=z1T qs (σ:=σ.erase q) h;rw[St.q4u]at h1;cases h0:σ.obj r with
  |none=>simp[h0]at h1
  |some o2=>exact⟨o2,rfl⟩
end Go.Av
/- Calls that take objects: the rule of a call, and of a function. -/
namespace Go.Av
variable {E:Entry} {n:Nat} {G:q0s} {σ:St} {ts:Array Value} {w:World} {P:Program} [Inv P]
theorem z5I{f:FuncId}(hok:q5V P f=true)(as:Array Value)(w:World):(callFunc f as).run P w=.ok (.enter f as) w:=by
 unfold q5V at hok;cases hf:P.funcs[f]? with
 |none=>simp[hf]at hok
 |some fn=>
  rw[hf]at hok;simp only[Zah,Zca]at hok;have hb:fn.body.isNone=false:=by cases hb:fn.body<;>simp_all
  simp only[callFunc,Sem.run_bind,run_program,Result.andThen_ok,hf,hok.1,hb,Zao,if_false,Sem.run_pure]
theorem z0N{o:Oper}{os:List Operand}(h:q2w P o=some (.call,os)):∃(f:Operand) (as:Array Operand) (ts:Array TypeId),o.op=.call { callee:=.value f,args:=as,argTypes:=ts }∧os=f::as.toList:=by
 unfold q2w at h;split at h
 ·rename_i f as ts ho;split at h
  ·split at h
   ·cases h
   ·cases h;exact⟨_,as,ts,ho,rfl⟩
  ·cases h;exact⟨_,as,ts,ho,rfl⟩
 ·split at h
  ·split at h<;>cases h
  ·split at h
   ·cases h
   ·cases h
 all_goals first|(cases h;done)|(split at h<;>cases h)
theorem z4z{x:AV}{v:Value}(h:AVR G w x v):AVR G w (j4I x) v:=by
 cases h with
 |own q e sz l v hq hv hs=>exact .d _ _ hv
 |d x v h=>exact .d x v h
 |ptr r off=>exact .ptr r off
 |dptr cs b o vs h1 h2 h3=>exact .dptr cs b o vs h1 h2 h3
 |tuple xs vs a b c=>exact .tuple xs vs a b c
 |fn f xs ys us vs a b c d e f'=>exact .fn f xs ys us vs a b c d e f'
 |junk v=>exact .junk v
 |ns=>exact .ns
 |nt e=>exact .nt e
 |rs r n c=>exact .rs r n c
 |mp r=>exact .mp r
 |sx xs vs a b c d=>exact .sx xs vs a b c d
theorem z3S:∀(qs:List Lab) {σ:St} {r:Ref},(∀q∈qs,∀r' off,q=.c r' off→r'≠r)→(Go.Av.q0z σ qs).obj r=σ.obj r
 |[],σ,r,_=>rfl
 |q::qs,σ,r,h=>by
  have h1:=z3S qs (σ:=σ.erase q) (r:=r) (fun q' hq=>h q' (by simp[hq]));show(Go.Av.q0z (σ.erase q) qs).obj r=_
  rw[h1,St.q4u];cases h0:σ.obj r with
  |none=>rfl
  |some o=>
   simp only[Zax,Zas];cases q with
   |t s=>cases o<;>rfl
   |c r' off=>
    have:=h (.c r' off) (by simp) r' off rfl;cases o<;>simp[q10,this]
theorem q9o{σ:St}{qs:List Lab}{R0:List Ref}:∀{R:List Ref} {hs:List AObj},(∀q∈qs,∀r off,q=.c r off→r∉R)→q0R σ R0 R hs→q0R (Go.Av.q0z σ qs) R0 R hs
 |[],[],_,h=>h
 |[],_::_,_,h=>h.elim
 |_::_,[],_,h=>h.elim
 |r::R,o::hs,hq,⟨h1,h2⟩=>⟨by rw[z3S qs (fun q hm r' off e e'=>hq q hm r' off e (by simp[e']))];exact h1,q9o (fun q hm r' off e hm'=>hq q hm r' off e (by simp[hm'])) h2⟩
theorem q8T.q0C{dst:Option Nat}{f:LX}{args:List LX}{K:St→Prop}{g:FuncId}{first cap:List AV}(hf:σ.ev f=.fn (.func g) first cap){xs:List AV}{hs:List AObj}(R:List Ref)(Q:List (Nat×Lab)){Post:AV→List AObj→Prop}(hc:q6J P g xs hs Post)
  (hx:q7o Q 0 (first++(evL σ args++cap))=renL R xs) (hwx:wfAL Q R.length 0 xs=true) (ho:q0R σ R R hs) (hwo:wfO R.length hs=true) (hnd:z6e R=true) (hq:okQ R Q=true)
  (hK:∀r hs',Post r hs'→hs'.length=hs.length→(z2h R.length r=true∧q6m R R.length R hs'=true)∧K (retO (q5I (Go.Av.q0z σ (q3e Q)) R hs') dst R r)):q8T P dst .call (f::args) K σ:=by
 intro E _ n G a w o os hp hl hdst hd h;obtain⟨fo,as,ts,hop,rfl⟩:=z0N hp;obtain⟨hn,hR⟩:=z6f hnd;obtain⟨hq1,hq2⟩:=j0n hq;simp only[q2x]at hl;split at hl
 ·rename_i x l hxf hxl;obtain⟨rfl,rfl⟩:x=f∧l=args:=by simpa using hl
  have rf:=h.ev hxf;rw[hf]at rf;generalize hfv:a.eval fo=fv at rf;cases rf with
  |fn _ _ _ us vs hl1 hs1 hh1 hl2 hs2 hh2=>
   obtain⟨k1,k2⟩:=q4t h hxl;let vals:Array Value:=us++as.map a.eval++vs
   have hrun:(execOp a.eval o).run P w=.ok (.enter g vals) w:=by
    simp only[execOp,hop,resolve,hfv,Deferred.ofValue,invoke,Sem.run_bind,Sem.run_pure,Result.andThen_ok,z5I hc.1];rfl
   have hsz:vals.size=xs.length:=by
    have hlen:∀(k:Nat) (l:List AV),(q7o Q k l).length=l.length:=fun k l=>by
     induction l generalizing k with
     |nil=>rfl
     |cons y l ih=>simp[q7o,ih]
    have:=congrArg List.length hx;rw[hlen,z0P]at this;simp only[Zbn,Zad]at this;have k1':as.size=(evL σ l).length:=by simpa using k1
    simp only[vals,Array.size_append,Array.size_map];omega
   have hargs:∀(i:Nat) (x:AV),xs[i]?=some x→AVR (Gc G R Q) w x (vals.getD i undef):=by
    intro i x hi;have e:(q7o Q 0 (first++(evL σ l++cap)))[i]?=some (x.ren R):=by rw[hx,z0P,Zan,hi];rfl
    have hwx':=z7x hwx hi;rw[Zbg]at hwx';rw[z4A,Zbg]at e;have hvl:vals.getD i undef=(us.toList++(as.toList.map a.eval++vs.toList)).getD i undef:=by
     simp[vals,Zav,List.getD_eq_getElem?_getD,←Array.getElem?_toList]
    rw[hvl];cases hy:(first++(evL σ l++cap))[i]? with
    |none=>rw[hy]at e;simp at e
    |some y=>
     rw[hy]at e;simp only[Zax,Zas]at e;have hyv:AVR G w y ((us.toList++(as.toList.map a.eval++vs.toList)).getD i undef):=by
      simp only[List.getD_eq_getElem?_getD];have q1:us.toList.length=first.length:=by simpa using hl1
      have q2:(as.toList.map a.eval).length=(evL σ l).length:=by simpa using k1
      rcases Zbi i first.length with c1|c1
      ·rw[Zaj (by omega)];rw[Zaj c1]at hy;have:=hh1 i y hy;simpa[Zav,←Array.getElem?_toList]using this
      ·rw[Zam (by omega),q1];rw[Zam c1]at hy;rcases Zbi (i-first.length) (evL σ l).length with c2|c2
       ·rw[Zaj (by omega)];rw[Zaj c2]at hy;have:=k2 _ y hy;rwa [List.getD_eq_getElem?_getD]at this
       ·rw[Zam (by omega),q2];rw[Zam c2]at hy;have:=hh2 _ y hy;simpa[Zav,←Array.getElem?_toList]using this
     unfold j4J at e;cases hqi:aget Q i with
     |none=>
      rw[hqi]at e;simp only at e;have hw:x.wf R.length=true:=by
       cases x with
       |own q e1 s1 l1=>
        cases q with
        |t j=>simp[AV.wfA,hqi]at hwx'
        |c r off=>exact hwx'
       |_=>exact hwx'
      have:=z4z hyv;rw[e]at this;exact this.j5m hw
     |some q=>
      rw[hqi]at e;simp only at e;split at e
      ·rename_i q' e1 s1 l1;split at e
       ·rename_i hqq;subst hqq;have hx:x=.own (.t i) e1 s1 l1:=by
         cases x with
         |own q2 e2 s2 l2=>
          simp only[AV.ren,AV.own.injEq]at e;obtain⟨g1,rfl,rfl,rfl⟩:=e;cases q2 with
          |t j=>simp only[renQ,Lab.t.injEq]at g1;rw[g1]
          |c r off=>simp[renQ]at g1
         |_=>simp[AV.ren]at e
        subst hx;cases hyv with
        |own _ _ _ _ _ hq' hv hs=>exact .own _ _ _ _ _ (by simp only[Gc,hqi];exact hq') hv hs
       ·have hx:x=.junk:=by
         cases x<;>simp[AV.ren]at e;rfl
        subst hx;exact .junk _
      ·have hx:x=.junk:=by
        cases x<;>simp[AV.ren]at e;rfl
       subst hx;exact .junk _
   have hent:=h.enter (vs:=vals) hsz hargs ho hwo hn hq;have hInv:Inv.inv P G.f w:=Inv.ext (fun b hb=>h.fr b (Inv.lt (HasInv.holds (P:=P) (E:=E)) b hb) (HasInv.none b hb)) (HasInv.holds (P:=P) (E:=E));have hnew:∀b,inM (Gc G R Q) hs b→E.w0.heap.size≤b∨E.M b:=fun b hM=>by
    rcases z52 ho hM with⟨r',o',g1,g2,g3⟩|⟨q',v',p',g1,g2,g3⟩
    ·rw[←g3];exact h.newObj r' o' g2
    ·obtain⟨e2,s2⟩:=p';exact h.newLam _ v' e2 s2 b g2 g3
   have hown:∀b,Inv.own P b→¬inM (Gc G R Q) hs b:=fun b hb hM=>by
    have hlt:=Inv.lt (HasInv.holds (P:=P) (E:=E)) b hb;have hno:=HasInv.none (P:=P) (E:=E) b hb;rcases hnew b hM with h6|h6
    ·omega
    ·exact hno h6
   obtain⟨lam',h0,hlam⟩:=h.q0z (q3e Q);have ho0:=q9o hq2 ho;have hout:Out E (q5J (Gc G R Q) hs w) { G with lam:=lam' } (Go.Av.q0z σ (q3e Q)) R:=by
    refine⟨fun r o hr hm hM=>?_,fun q v p b hq' hvb hqR hM=>?_,hnew⟩
    ·obtain⟨o2,hr2⟩:=z1T _ hr;rcases z52 ho hM with⟨r',o',g1,g2,g3⟩|⟨q',v',p',g1,g2,g3⟩
     ·exact hm (h.inj _ _ _ _ g2 hr2 g3▸g1)
     ·obtain⟨e1,s1⟩:=p';exact h.lamObj _ v' e1 s1 _ g2 g3 r o2 hr2 rfl
    ·obtain⟨g4,g5⟩:=hlam q _ hq';rcases z52 ho hM with⟨r',o',g1,g2,g3⟩|⟨q',v',p',g1,g2,g3⟩
     ·obtain⟨e1,s1⟩:=p;exact h.lamObj q v e1 s1 b g4 hvb r' o' g2 g3
     ·have:=h.lamInj _ _ _ _ _ _ b g4 g2 hvb g3;subst this;rcases g1 with⟨r,off,rfl,hm⟩|g1
      ·exact hqR r off rfl hm
      ·exact g5 g1
   refine .inr (.inr ⟨g,vals,hrun,(hc.2 (Gc G R Q) w vals hInv hown hent).mono fun e w' ⟨r,hs',G',v,p1,p2,p3,p4⟩=>⟨v,p2,?_⟩⟩);obtain⟨⟨q1,q2⟩,q3⟩:=hK r hs' p1 p3;have h5:=h0.leave (E1:=q5J (Gc G R Q) hs w) rfl rfl (fun _=>rfl) hout ho0 hn hR p3 p4 q2;have h6:AVR G' w' r v:=by simpa using p4.slot 0 r (by simp[aget])
   subst hdst;have gen:r.wf R.length=true→retO (q5I (Go.Av.q0z σ (q3e Q)) R hs') o.dst R r=putO (q5I (Go.Av.q0z σ (q3e Q)) R hs') o.dst (r.ren R)→∃G' σ',K σ'∧SR E n G' σ' (a.put o.dst v).tmps w':=fun hw he=>by
    have h7:AVR (Gb { G with lam:=lam' } G' R) w' (r.ren R) v:=AVR.j4U (G:={ G with lam:=lam' }) hn (fun i hi=>p4.ext0 i (by omega)) hw h6;exact⟨_,_,q3,by rw[he];exact h5.putO hd h7⟩
   cases r with
   |own q e sz l=>
    cases q with
    |c r off=>simp[z2h]at q1
    |t s=>
     have hs0:s=0:=by simpa[z2h]using q1
     subst hs0;cases hdd:o.dst with
     |none=>
      rw[hdd]at q3;exact⟨_,_,q3,by simpa[retO,Act.put]using h5⟩
     |some d=>
      rw[hdd]at q3 hd;obtain⟨G2,h8⟩:=h0.j1h (E1:=q5J (Gc G R Q) hs w) rfl rfl (fun _=>rfl) hout ho0 hn hR p3 p4 q2 d (by simpa[q4p]using hd);exact⟨_,_,q3,by simpa[retO,Act.put]using h8⟩
   |d _=>exact gen q1 rfl
   |ptr _ _=>exact gen q1 rfl
   |dptr _=>exact gen q1 rfl
   |tuple _=>exact gen q1 rfl
   |fn _ _ _=>exact gen q1 rfl
   |junk=>exact gen q1 rfl
   |ns=>exact gen q1 rfl
   |nt _=>exact gen q1 rfl
   |rs _ _ _=>exact gen q1 rfl
   |mp _=>exact gen q1 rfl
   |sx _=>exact gen q1 rfl
 ·cases hl
/-! ### Functions -/
def j6H(n:Nat)(x:AV):Option AV:=if x.simple&&x.wf n then some x else none
def resA(σ:St)(n:Nat):LRes→Option AV
 |.tmp t=>j6H n (j4I (σ.get t))
 |.cell a agg m=>(resV σ (.cell a agg m)).map .d
def z4G(σ:St)(n:Nat):List LRes→Option (List AV)
 |[]=>some []
 |x::r=>match resA σ n x,z4G σ n r with
  |some y,some l=>some (y::l)
  |_,_=>none
def mkA:List AV→AV
 |[x]=>x
 |l=>.tuple l
def q8B(σ:St):Nat→Nat→Option (List AObj)
 |_,0=>some []
 |k,n+1=>match aget σ.H k,q8B σ (k+1) n with
  |some o,some l=>some (o::l)
  |_,_=>none
def j4V:AV→Option AV
 |.own q e sz l=>match q with
  |.t _=>some (.own (.t 0) e sz l)
  |.c _ _=>none
 |_=>none
def resR(σ:St)(n:Nat):List LRes→Option AV
 |[.tmp t]=>match j4V (σ.get t)with
  |some x=>some x
  |none=>(z4G σ n [.tmp t]).map mkA
 |l=>(z4G σ n l).map mkA
def retM(l:List LRes)(n:Nat)(Post:AV→List AObj→Prop):Exit→St→Prop
 |.normal,σ=>∃x hs,resR σ n l=some x∧q8B σ 0 n=some hs∧Post x hs
 |.ret,σ=>∃x hs,resR σ n l=some x∧q8B σ 0 n=some hs∧Post x hs
 |_,_=>False
theorem z6g{σ:St}:∀{n k:Nat} {l:List AObj},q8B σ k n=some l→l.length=n∧∀(i:Nat) (o:AObj),l[i]?=some o→aget σ.H (k+i)=some o
 |0,k,l,h=>by simp[q8B]at h;subst h;exact⟨rfl,fun i o h=>by simp at h⟩
 |n+1,k,l,h=>by
  simp only[q8B]at h;split at h
  ·rename_i o r ho hr;cases h;obtain⟨h1,h2⟩:=z6g hr;refine⟨by simp[h1],fun i o' hi=>?_⟩;cases i with
   |zero=>simp at hi;subst hi;exact ho
   |succ i=>simp at hi;have:=h2 i o' hi;rwa [show k+1+i=k+(i+1) by omega]at this
  ·cases h
theorem j1I[HasInv P E]{a:Act}(h:SR E n G σ a.tmps w){k:Nat}:∀{rs:List ResultVar} {l:List LRes} {xs:List AV},q1d P rs=some l→z4G σ k l=some xs→
  ∃vs:List Value,(rs.mapM (q3M a)).run P w=.ok vs w∧vs.length=xs.length∧∀(i:Nat) (x:AV),xs[i]?=some x→AVR G w x (vs.getD i undef)∧x.simple=true∧x.wf k=true
 |[],l,xs,hl,hd=>by
  simp[q1d]at hl;subst hl;simp[z4G]at hd;subst hd;exact⟨[],by simp,rfl,fun _ _ h=>by simp at h⟩
 |r::rs,l,xs,hl,hd=>by
  have tail:∀{l':List LRes} {x:LRes},q1d P rs=some l'→l=x::l'→(∀y,resA σ k x=some y→∃v,(q3M a r).run P w=.ok v w∧AVR G w y v∧y.simple=true∧y.wf k=true)→
    ∃vs:List Value,((r::rs).mapM (q3M a)).run P w=.ok vs w∧vs.length=xs.length∧∀(i:Nat) (x:AV),xs[i]?=some x→AVR G w x (vs.getD i undef)∧x.simple=true∧x.wf k=true:=by
   intro l' x hl' he hx;subst he;simp only[z4G]at hd;split at hd
   ·rename_i y ds' hy hds;cases hd;obtain⟨v,h1,h2⟩:=hx y hy;obtain⟨vs,h3,h4,h5⟩:=j1I h hl' hds;refine⟨v::vs,?_,by simp[h4],fun i z hz=>?_⟩
    ·simp only[List.mapM_cons,Sem.run_bind,h1,Result.andThen_ok,h3,Sem.run_pure]
    ·cases i with
     |zero=>simp at hz;subst hz;simpa using h2
     |succ i=>simp at hz;simpa using h5 i z hz
   ·cases hd
  cases r with
  |tmp t=>
   simp only[q1d]at hl;obtain⟨l',h1,h2⟩:=map_none hl;refine tail h1 h2.symm (fun y hy=>?_);simp only[resA,j6H]at hy;split at hy
   ·rename_i hc;cases hy;simp only[Zah]at hc;exact⟨_,rfl,z4z (h.get t),hc.1,hc.2⟩
   ·cases hy
  |cell x t=>
   simp only[q1d]at hl;split at hl
   ·rename_i d m l' hd' hm hl';cases hl;refine tail hl' rfl (fun y hy=>?_);simp only[resA]at hy;obtain⟨z,hz,rfl⟩:=map_none hy;have hone:q1d P [ResultVar.cell x t]=some [.cell x (aggT d) m]:=by simp[q1d,hd',hm]
    obtain⟨vs,g1,g2,g3⟩:=z7f (P:=P) h hone (ds:=[z]) (by simp[resL,hz]);match vs,g2 with
    |[v],_=>
     have g4:=g3 0 z rfl;simp only[List.mapM_cons,List.mapM_nil,Sem.run_bind]at g1;cases hr:(q3M a (.cell x t)).run P w with
     |ok v' w'=>
      rw[hr]at g1;simp at g1;obtain⟨rfl,rfl⟩:=g1;exact⟨v',rfl,.d _ _ (by simpa using g4),rfl,rfl⟩
     |_=>rw[hr]at g1;simp[Result.andThen]at g1
   ·cases hl
theorem SR.x0f(h:SR E n G σ ts w){m:Nat}(hm:n≤m):SR E m G σ (ts++Array.replicate (m-ts.size) undef) w:=by
 refine{ h with size:=by have:=h.size;simp;omega,slot:=fun s x hx=>?_ };have:=h.slot s x hx;have e:(ts++Array.replicate (m-ts.size) undef).getD s undef=ts.getD s undef:=by
  simp only[Zav,Array.getElem?_append]
  by_cases hs:s<ts.size
  ·rw[if_pos hs]
  ·rw[if_neg hs,show ts[s]?=none from Zcz (by omega)];simp only[Array.getElem?_replicate];split<;>rfl
 rw[e];exact this
theorem j0I{G':q0s}{x:AV}{v:Value}(hf:G'.f=G.f)(hb:G'.b=G.b)(hs:x.lab?=none)(h:AVR G w x v):AVR G' w x v:=
 h.mono (G':=G') (by rw[hf];exact Ext.refl _ _) (fun r _=>by rw[hb]) (fun q p hq _=>by rw[hs]at hq;cases hq)
theorem SR.final(h:SR E n G σ ts w){r:AV}{v:Value}(q0:Option Lab)(hr:AVR { G with lam:=fun q=>match q with|.t 0=>q0.bind G.lam|_=>none } w r v)(hl:∀q,r.lab?=some q→q=.t 0)(hq0:∀r' off,q0≠some (.c r' off)){hs':List AObj}(ho:∀(i:Nat) (o:AObj),hs'[i]?=some o→σ.obj (.x i)=some o):
  SR E 1 { G with lam:=fun q=>match q with|.c (.x i) off=>if i<hs'.length then G.lam (.c (.x i) off)else none|.t 0=>q0.bind G.lam|_=>none } ⟨[(0,r)],[],numO 0 hs'⟩ #[v] w:=by
 have hobj:∀r' o,St.obj ⟨[(0,r)],[],numO 0 hs'⟩ r'=some o→∃i,r'=.x i∧hs'[i]?=some o∧σ.obj r'=some o:=by
  intro r' o hr';cases r' with
  |l s=>simp[St.obj,aget]at hr'
  |x i=>
   simp only[St.obj,q8k,Zay,if_true,Nat.sub_zero]at hr';exact⟨i,rfl,hr',ho i o hr'⟩
 have hlam:∀(q:Lab) (p:Value×Nat×Nat),(match q with|.c (.x i) off=>if i<hs'.length then G.lam (.c (.x i) off)else none|.t 0=>q0.bind G.lam|_=>none)=some p→∃q1,G.lam q1=some p∧((∃i off,q=.c (.x i) off∧q1=q)∨(q=.t 0∧q0=some q1)):=by
  intro q p hq;split at hq
  ·split at hq
   ·exact⟨_,hq,.inl ⟨_,_,rfl,rfl⟩⟩
   ·cases hq
  ·cases h0:q0 with
   |none=>simp[h0]at hq
   |some q1=>simp[h0]at hq;exact⟨q1,hq,.inr ⟨rfl,rfl⟩⟩
  ·cases hq
 refine{ size:=rfl,slot:=fun s x hx=>?_,obj:=fun r' o hr'=>?_,objf:=fun r' o hr'=>?_,inj:=fun r1 r2 o1 o2 h1 h2 hb=>?_,lam:=fun q v e sz hq=>?_,lamObj:=fun q v e sz b hq hb r' o hr'=>?_,
         lamInj:=fun q q' v v' p p' b hq hq' hb hb'=>?_,newObj:=fun r' o hr'=>?_,newLam:=fun q v e sz b hq hb=>?_,ext:=h.ext,fr:=h.fr,top:=h.top,ext0:=h.ext0,own0:=fun r' cs x s hr' hx=>?_,os:=h.os,tape:=h.tape,output:=h.output }
 ·simp only[aget]at hx;split at hx
  ·rename_i e;subst e;cases hx;have:(#[v]:Array Value).getD 0 undef=v:=rfl;rw[this];exact AVR.mono (G:={ G with lam:=fun q=>match q with|.t 0=>q0.bind G.lam|_=>none }) (G':={ G with lam:=fun q=>match q with|.c (.x i) off=>if i<hs'.length then G.lam (.c (.x i) off)else none|.t 0=>q0.bind G.lam|_=>none }) (w:=w) (w':=w) (Ext.refl G.f w) hr (fun _ _=>rfl) (fun q p hq hp=>by
    have:=hl q hq;subst this;exact hp)
  ·cases hx
 ·obtain⟨i,rfl,h1,h2⟩:=hobj r' o hr';have hi:i<hs'.length:=(Zac.1 h1).1;exact(h.obj _ _ h2).mono (Ext.refl _ _) rfl rfl (fun _ _ _ _ _ _=>rfl) (fun j p hp=>by simp only[if_pos hi];exact hp)
 ·obtain⟨i,rfl,h1,h2⟩:=hobj r' o hr';exact h.objf _ _ h2
 ·obtain⟨i,rfl,_,g1⟩:=hobj r1 o1 h1;obtain⟨j,rfl,_,g2⟩:=hobj r2 o2 h2;exact h.inj _ _ _ _ g1 g2 hb
 ·obtain⟨q1,g1,_⟩:=hlam q _ hq;exact h.lam q1 v e sz g1
 ·obtain⟨i,rfl,h1,h2⟩:=hobj r' o hr';obtain⟨q1,g1,_⟩:=hlam q _ hq;exact h.lamObj q1 v e sz b g1 hb _ _ h2
 ·obtain⟨q1,g1,k1⟩:=hlam q _ hq;obtain⟨q2,g2,k2⟩:=hlam q' _ hq';have e:=h.lamInj q1 q2 v v' p p' b g1 g2 hb hb';subst e;rcases k1 with⟨i,off,rfl,rfl⟩|⟨rfl,k1⟩<;>rcases k2 with⟨j,off',rfl,e2⟩|⟨rfl,k2⟩
  ·exact e2
  ·exact absurd k2 (hq0 _ _)
  ·rw[e2]at k1;exact absurd k1 (hq0 _ _)
  ·rfl
 ·obtain⟨i,rfl,h1,h2⟩:=hobj r' o hr';exact h.newObj _ _ h2
 ·obtain⟨q1,g1,_⟩:=hlam q _ hq;exact h.newLam q1 v e sz b g1 hb
 ·obtain⟨i,e,h1,h2⟩:=hobj _ _ hr';cases e;exact h.own0 _ cs x s h2 hx
theorem j6Y[HasInv P E]{a:Act}(h:SR E n G σ a.tmps w){k:Nat}{fn:Func}{l:List LRes}{x:AV}(hl:q1d P fn.results.toList=some l)(hr:resR σ k l=some x):∃v q0,(results fn a.tmps).run P w=.ok v w∧(∀r' off,q0≠some (.c r' off))∧
  AVR { G with lam:=fun q=>match q with|.t 0=>q0.bind G.lam|_=>none } w x v∧∀q,x.lab?=some q→q=.t 0:=by
 have base:∀{xs},z4G σ k l=some xs→∃v,(results fn a.tmps).run P w=.ok v w∧AVR G w (mkA xs) v∧(mkA xs).lab?=none:=fun{xs} hr=>by
  obtain⟨vs,g1,g2,g3⟩:=j1I (P:=P) (a:=a) h hl hr;have h5:(fn.results.mapM (q3M a)).run P w=.ok vs.toArray w:=by
   rw[Array.mapM_eq_mapM_toList];simp only[Sem.run_map,g1,Result.andThen_ok]
  have h6:(results fn a.tmps).run P w=.ok (if h:vs.toArray.size=1 then vs.toArray[0]else .tuple vs.toArray) w:=by
   unfold results;simp only[Sem.run_bind]
   erw[h5]
   rfl
  refine⟨_,h6,?_⟩;match xs,vs,g2,g3 with
  |[x],[v],_,g3=>
   have:=g3 0 x rfl;exact⟨by simpa[mkA]using this.1,AV.q2z this.2.1⟩
  |[],[],_,_=>exact⟨by simpa[mkA]using AVR.tuple (G:=G) (w:=w) [] #[] rfl (fun _ h=>by simp at h) (fun _ _ h=>by simp at h),rfl⟩
  |x::y::xs,u::v::vs,g2,g3=>
   refine⟨?_,rfl⟩;have:(u::v::vs).toArray.size≠1:=by simp
   rw[dif_neg this];refine .tuple _ _ (by simpa using g2) (fun z hz=>?_) (fun i z hz=>?_)
   ·obtain⟨i,hi⟩:=Zbb hz;exact(g3 i z hi).2.1
   ·have:=(g3 i z hz).1;simpa[List.getD_eq_getElem?_getD]using this
 have plain:(z4G σ k l).map mkA=some x→∃v q0,(results fn a.tmps).run P w=.ok v w∧(∀r' off,q0≠some (.c r' off))∧AVR { G with lam:=fun q=>match q with|.t 0=>q0.bind G.lam|_=>none } w x v∧∀q,x.lab?=some q→q=.t 0:=fun hm=>by
  obtain⟨xs,hxs,rfl⟩:=map_none hm;obtain⟨v,g1,g2,g3⟩:=base hxs;exact⟨v,none,g1,fun _ _ e=>(by cases e),j0I (G:=G) rfl rfl g3 g2,fun q hq=>by rw[g3]at hq;cases hq⟩
 unfold resR at hr;split at hr
 ·rename_i t;split at hr
  ·rename_i y hy;cases hr;unfold j4V at hy;split at hy
   ·rename_i q e sz l' hg;split at hy
    ·rename_i s;cases hy;have hv:=h.get t;rw[hg]at hv
     -- the one result
     have hres:∃rv,fn.results.toList=[rv]∧rv=.tmp t:=by
      cases hrl:fn.results.toList with
      |nil=>rw[hrl]at hl;simp[q1d]at hl
      |cons rv rs=>
       rw[hrl]at hl;cases rv with
       |tmp t'=>
        simp only[q1d]at hl;obtain⟨l2,h1,h2⟩:=map_none hl;simp only[Zdh,LRes.tmp.injEq]at h2;obtain⟨rfl,rfl⟩:=h2;cases rs with
        |nil=>exact⟨_,rfl,rfl⟩
        |cons r2 rs=>
         exfalso
         cases r2 with
         |tmp t2=>simp only[q1d]at h1;obtain⟨_,_,h3⟩:=map_none h1;cases h3
         |cell c t2=>simp only[q1d]at h1;split at h1<;>cases h1
       |cell c t2=>simp only[q1d]at hl;split at hl<;>simp at hl
     obtain⟨rv,hrv,rfl⟩:=hres;have h5:(fn.results.mapM (q3M a)).run P w=.ok #[a.tmps.getD t undef] w:=by
      rw[Array.mapM_eq_mapM_toList,hrv];simp[q3M]
     have h6:(results fn a.tmps).run P w=.ok (a.tmps.getD t undef) w:=by
      unfold results;simp only[Sem.run_bind]
      erw[h5]
      rfl
     refine⟨_,some (.t s),h6,fun _ _ e=>(by cases e),?_,fun q hq=>by simp[AV.lab?]at hq;exact hq.symm⟩;cases hv with
     |own _ _ _ _ _ hq hrd hsz=>exact .own _ _ _ _ _ (by show(some (Lab.t s)).bind G.lam=_;exact hq) hrd hsz
    ·cases hy
   ·cases hy
  ·exact plain hr
 ·exact plain hr
theorem j6s{f:FuncId}{fn:Func}{c:Code}{L:q0g}{l:List LRes}{xs:List AV}{hs:List AObj}{Post:AV→List AObj→Prop}(hok:q5V P f=true)(hf:P.funcs[f]?=some fn)(hb:fn.body=some c)(hL:q5y P fn.ntmps c=some L.strip)(hl:q1d P fn.results.toList=some l)
  (hn:xs.length≤fn.ntmps) (h:LW P L (retM l hs.length Post) ⟨q9b 0 xs,[],numO 0 hs⟩):q6J P f xs hs Post:=by
 refine⟨hok,fun G w vs hI hown hsr=>calls_of_wp hf hb ?_⟩;let E:Entry:=q5J G hs w
 haveI:HasInv P E:=⟨hI,hown⟩
 have h0:=SR.x0f hsr hn;refine wp_mono (z60 (E:=E) (d:=[]) L hL h h0 rfl) fun e a' w' ⟨G',σ',h1,h2,h3⟩=>?_
 have fin:(∃x hs',resR σ' hs.length l=some x∧q8B σ' 0 hs.length=some hs'∧Post x hs')→∃v,(results fn a'.tmps).run P w'=.ok v w'∧∃r hs' G' v',Post r hs'∧Ending.returned v=.returned v'∧hs'.length=hs.length∧SR E 1 G' ⟨[(0,r)],[],numO 0 hs'⟩ #[v'] w':=fun⟨x,hs',hr,ho,hp⟩=>by
  obtain⟨v,q0,g1,g2,g3,g4⟩:=j6Y (P:=P) (a:=a') h2 hl hr;obtain⟨o1,o2⟩:=z6g ho;exact⟨_,g1,x,hs',_,_,hp,rfl,o1,h2.final q0 g3 g4 g2 (fun i o hi=>by have:=o2 i o hi;rw[Zbg]at this;exact this)⟩
 cases e with
 |normal=>obtain⟨v,g1,g2⟩:=fin h1;exact⟨h3,v,g1,g2⟩
 |ret=>obtain⟨v,g1,g2⟩:=fin h1;exact⟨h3,v,g1,g2⟩
 |exit id=>exact h1.elim
 |goto l=>exact h1.elim
 |panic ch=>exact h1.elim
 |outgrown=>exact h1.elim
end Go.Av
/- Calls that take objects: equations to rewrite with. -/
namespace Go.Av
variable {P:Program} [Inv P]
def q0e(P:Program)[Inv P](d:Option Nat)(p:Prim)(xs:List LX)(N:St→Prop)(σ:St):Prop:=q8T P d p xs (ChkK [] N) σ
section
variable {k:List Item} {K:Exit→St→Prop} {σ:St}
theorem q9J{d:Option Nat}{p:Prim}{xs:List LX}{l:List q0b}:OPS P (⟨d,.prim p xs [],none⟩::l) k K σ=q0e P d p xs (OPS P l k K) σ:=rfl
theorem j06{d:Option Nat}{p:Prim}{xs:List LX}{l:List q0b}:DPS P (⟨d,.prim p xs [],none⟩::l) k K σ=q0e P d p xs (DPS P l k K) σ:=propext ⟨fun h=>h,fun h=>h⟩
theorem j3G{d:Option Nat}{p:Prim}{xs:List LX}{c:Nat×LV}{cs:List (Nat×LV)}{l:List q0b}:DPS P (⟨d,.prim p xs (c::cs),none⟩::l) k K σ=q0e P d p xs (ChkK (c::cs) (DPS P l k K)) σ:=by
 apply propext;constructor
 ·intro h;have h:q8T P d p xs (ChkK (c::cs) (DPS P l k K)) σ:=h;exact q8T.mono (fun σ h=>⟨trivial,h⟩) h
 ·intro h;have h1:q8T P d p xs (ChkK (c::cs) (DPS P l k K)) σ:=q8T.mono (fun σ h=>h.2) h;exact h1
theorem j74{m:Nat}{x y:LX}{c:List (Nat×LV)}{l:List q0b}:DPS P (⟨none,.stC m x y c,none⟩::l) k K σ=StG (stS σ m (σ.ev x) (σ.ev y)) (ChkK c (DPS P l k K)):=propext ⟨fun h=>h,fun h=>h⟩
theorem j3u{s:Nat}{v:LV}{r:List (Nat×LV)}{N:St→Prop}:ChkK ((s,v)::r) N σ=((∃z,aget σ.ρ s=some z∧pev σ v=some z)∧ChkK r N σ):=by
 apply propext;unfold ChkK;exact⟨fun h=>⟨h.1.1,h.1.2,h.2⟩,fun h=>⟨⟨h.1,h.2.1⟩,h.2.2⟩⟩
theorem j5I{N:St→Prop}:ChkK [] N σ=N σ:=propext ⟨fun h=>h.2,fun h=>⟨trivial,h⟩⟩
end
def RetM(x:Option AV)(hs:Option (List AObj))(Post:AV→List AObj→Prop):Prop:=∃y h,x=some y∧hs=some h∧Post y h
theorem z3L{x:AV}{hs:List AObj}{Post:AV→List AObj→Prop}:RetM (some x) (some hs) Post=Post x hs:=
 propext ⟨fun⟨_,_,e,e',h⟩=>by cases e;cases e';exact h,fun h=>⟨_,_,rfl,rfl,h⟩⟩
theorem z4H{l:List LRes}{n:Nat}{Post:AV→List AObj→Prop}{σ:St}:retM l n Post .normal σ=RetM (resR σ n l) (q8B σ 0 n) Post:=rfl
theorem j1J{l:List LRes}{n:Nat}{Post:AV→List AObj→Prop}{σ:St}:retM l n Post .ret σ=RetM (resR σ n l) (q8B σ 0 n) Post:=rfl
abbrev q1r(P:Program)[Inv P](fn:FuncId)(xs:List AV)(hs:List AObj)(r:AV)(hs':List AObj):Prop:=q6J P fn xs hs (fun r' h'=>r'=r∧h'=hs')
theorem q0n.q0C{f:FuncId}{n:Nat}{L:q0g}{R:List LRes}(h:q0n P f n L R)(hok:q5V P f=true){xs:List AV}{hs:List AObj}{Post:AV→List AObj→Prop}(hn:Nat.ble xs.length n=true)
  (hr:RUN P L [] (retM R hs.length Post) ⟨q9b 0 xs,[],numO 0 hs⟩):q6J P f xs hs Post:=by
 obtain⟨fn,c,h1,h2,h3,h4,rfl⟩:=h;exact j6s hok h1 h2 h3 h4 (Nat.le_of_ble_eq_true hn) hr
theorem q0e.q0C{dst:Option Nat}{f:LX}{args:List LX}{K:St→Prop}{σ:St}{g:FuncId}{first cap:List AV}{xs:List AV}{hs hs1:List AObj}{r:AV}(R:List Ref)(Q:List (Nat×Lab))(hf:σ.ev f=.fn (.func g) first cap)(hc:q1r P g xs hs r hs1)
  (hx:q7o Q 0 (first++(evL σ args++cap))=renL R xs) (hwx:wfAL Q R.length 0 xs=true) (ho:q0R σ R R hs) (hwo:wfO R.length hs=true) (hnd:z6e R=true) (hq:okQ R Q=true)
  (hb:z2h R.length r=true∧q6m R R.length R hs1=true) (hK:K (retO (q5I (q0z σ (q3e Q)) R hs1) dst R r)):q0e P dst .call (f::args) K σ:=
 q8T.q0C hf R Q hc hx hwx ho hwo hnd hq (fun r' hs' ⟨e1,e2⟩ _=>by subst e1;subst e2;exact⟨hb,trivial,hK⟩)
theorem q0e.j94{dst:Option Nat}{f:LX}{args:List LX}{K:St→Prop}{σ:St}{g:FuncId}{first cap:List AV}{xs:List AV}{hs:List AObj}{Post:AV→List AObj→Prop}(R:List Ref)(Q:List (Nat×Lab))(hf:σ.ev f=.fn (.func g) first cap)(hc:q6J P g xs hs Post)
  (hx:q7o Q 0 (first++(evL σ args++cap))=renL R xs) (hwx:wfAL Q R.length 0 xs=true) (ho:q0R σ R R hs) (hwo:wfO R.length hs=true) (hnd:z6e R=true) (hq:okQ R Q=true)
  (hK:∀r hs',Post r hs'→(z2h R.length r=true∧q6m R R.length R hs'=true)∧K (retO (q5I (q0z σ (q3e Q)) R hs') dst R r)):q0e P dst .call (f::args) K σ:=
 q8T.q0C hf R Q hc hx hwx ho hwo hnd hq (fun r' hs' h _=>⟨(hK r' hs' h).1,trivial,(hK r' hs' h).2⟩)
/-! ### Contracts of data alone -/
theorem Fr.sr{f':Nat→Nat}{G:q0s}{w w':World}(ht:∀b,w.heap.size≤b→G.f b=0)(h:Fr G.f w f' w'){r:AV}{v:Value}(hr:AVR { G with f:=f',lam:=fun _=>none } w' r v):
  SR (q5J G [] w) 1 { G with f:=f',lam:=fun _=>none } ⟨[(0,r)],[],numO 0 []⟩ #[v] w':=by
 have hno:∀r' o,St.obj ⟨[(0,r)],[],numO 0 []⟩ r'=some o→False:=fun r' o ho=>by cases r'<;>simp[St.obj,aget,numO]at ho
 refine{ size:=rfl,slot:=fun s x hx=>?_,obj:=fun r o ho=>(hno r o ho).elim,objf:=fun r o ho=>(hno r o ho).elim,inj:=fun r _ o _ ho=>(hno r o ho).elim,
         lam:=fun _ _ _ _ h=>(by cases h),lamObj:=fun _ _ _ _ _ h=>(by cases h),lamInj:=fun _ _ _ _ _ _ _ h=>(by cases h),
         newObj:=fun r o ho=>(hno r o ho).elim,newLam:=fun _ _ _ _ _ h=>(by cases h),ext:=h.ext ht,fr:=fun b hb _=>h.block b hb,top:=h.top,
         ext0:=fun _ _=>rfl,own0:=fun r cs x s ho=>(hno _ _ ho).elim,os:=h.os,tape:=h.tape,output:=h.output }
 simp only[aget]at hx;split at hx
 ·rename_i e;subst e;cases hx;exact hr
 ·cases hx
theorem j8E{G:q0s}{w:World}{E:Entry}{n:Nat}{ds:List D}{vs:Array Value}{hs:List (Nat×AObj)}(h:SR E n G ⟨q9b 0 (ds.map .d),[],hs⟩ vs w):∀(i:Nat) (y:D),ds[i]?=some y→RD G.f w y (vs.getD i undef):=fun i y hi=>by
 have:=h.slot i (.d y) (by simp[q6p,hi]);exact this.dinv
theorem q0i.q0C{f:FuncId}{ds:List D}{Post:Res→Prop}(h:q0i P f ds Post)(hok:q5V P f=true):q6J P f (ds.map .d) [] (fun r hs=>∃x,Post x∧r=x.av∧hs=[]):=by
 refine⟨hok,fun G w vs hI _ hsr=>?_⟩;refine(h G.f w vs hI hsr.top (by simpa using hsr.size) (j8E hsr)).mono fun e w' ⟨r,v,f',h1,h2,h3,h4⟩=>?_
 exact⟨r.av,[],_,v,⟨r,h1,rfl,rfl⟩,h2,rfl,h4.sr hsr.top h3.av⟩
theorem q0i.q1X{f:FuncId}{ds:List D}{r:Res}(h:q0i P f ds (fun x=>x=r))(hok:q5V P f=true):q1r P f (ds.map .d) [] r.av []:=
 (h.q0C hok).mono fun _ _ ⟨_,e,e1,e2⟩=>⟨by rw[e1,e],e2⟩
end Go.Av
