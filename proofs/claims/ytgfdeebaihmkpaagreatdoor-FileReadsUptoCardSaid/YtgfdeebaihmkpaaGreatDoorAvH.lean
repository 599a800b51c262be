import Derived.Test.YtgfdeebaihmkpaaGreatDoorAvG
set_option linter.unusedSectionVars false
/- Calls that take objects, one of which (the row x1000) may come to stand elsewhere: contracts. -/
namespace Go.Av
variable {E:Entry} {n:Nat} {G:q0s} {σ:St} {ts:Array Value} {w:World}
def mob:Option AObj→List (Nat×AObj)
 |none=>[]
 |some o=>[(1000,o)]
def rowO:AObj→Bool
 |.cells cs=>cs.all fun x=>match x with|.d _|.junk=>true|_=>false
 |_=>false
def rowM:Option AObj→Bool
 |none=>true
 |some o=>rowO o
theorem z7h{o:AObj}(h:rowO o=true):∃cs,o=.cells cs∧∀x∈cs,(∃d,x=.d d)∨x=.junk:=by
 cases o with
 |cells cs=>
  refine⟨cs,rfl,fun x hx=>?_⟩;simp only[rowO,Zbh]at h;have:=h x hx;cases x<;>simp at this
  ·exact .inl ⟨_,rfl⟩
  ·exact .inr rfl
 |_=>simp[rowO]at h
def AV.j9o(n:Nat):AV→Bool
 |.own q _ _ _=>match q with
  |.c r _=>wfR n r
  |.t _=>false
 |_=>true
def labL(n:Nat):List AV→Bool
 |[]=>true
 |x::l=>x.j9o n&&labL n l
def AObj.wfM(n:Nat):AObj→Bool
 |.cells cs=>z1v cs&&labL n cs
 |_=>true
def wfMO(n:Nat):List AObj→Bool
 |[]=>true
 |o::l=>o.wfM n&&wfMO n l
/-! ### The contract -/
/-! ### What the callee finds -/
end Go.Av
/- Calls with a row that may come to stand elsewhere: what the caller has back. -/
namespace Go.Av
variable {E:Entry} {n:Nat} {G:q0s} {σ:St} {ts:Array Value} {w:World}
/-! ### All names of the row are given up -/
def St.j90(σ:St):St:={ ρ:=amap (AV.drop (.x 1000)) σ.ρ,L:=amap (q0P (.x 1000)) σ.L,H:=adel (amap (q0P (.x 1000)) σ.H) 1000 }
/-! ### What comes back -/
def j3i(R:List Ref)(n:Nat):List Ref→List AObj→Bool
 |[],[]=>true
 |r::rs,o::os=>(o.wfM n&&(isLocal r || (o.ren R).q5b))&&j3i R n rs os
 |_,_=>false
def setM(σ:St):Option AObj→St
 |none=>σ
 |some o=>σ.setObj (.x 1000) o
def j9Z(σ:St)(R:List Ref)(os:List AObj)(m:Option AObj):St:=setM (q5I σ R os) m
end Go.Av
/- Calls with a row that may come to stand elsewhere: the rule of a call, and of a function; an element is put into such a row. -/
namespace Go.Av
variable {E:Entry} {n:Nat} {G:q0s} {σ:St} {ts:Array Value} {w:World} {P:Program} [Inv P]
/-! ### Functions -/
end Go.Av
/- An element is put into a row that may come to stand elsewhere. -/
namespace Go.Av
variable {E:Entry} {n:Nat} {G:q0s} {σ:St} {ts:Array Value} {w:World} {P:Program} [Inv P]
attribute [go_sem] mob rowM AV.q5b AV.z4s q8i z1v AObj.q5b AV.j9o labL AObj.wfM wfMO j3i setM j9Z St.j90
end Go.Av
/- Calls in the midst of a reckoning whose arguments are rows that go over. -/
namespace Go.Av
variable {E:Entry} {n:Nat} {G:q0s} {σ:St} {ts:Array Value} {w:World} {P:Program} [Inv P]
theorem q7r.q0C{dst:Option Nat}{g:Nat}{args:List LX}{K:St→Prop}{xs:List AV}{hs:List AObj}(R:List Ref)(Q:List (Nat×Lab)){Post:AV→List AObj→Prop}(hc:q6J P g xs hs Post)
  (hx:q7o Q 0 (evL σ args)=renL R xs) (hwx:wfAL Q R.length 0 xs=true) (ho:q0R σ R R hs) (hwo:wfO R.length hs=true) (hnd:z6e R=true) (hq:okQ R Q=true)
  (hK:∀r hs',Post r hs'→hs'.length=hs.length→(z2h R.length r=true∧q6m R R.length R hs'=true)∧K (retO (q5I (Go.Av.q0z σ (q3e Q)) R hs') dst R r)):q7r P dst g args K σ:=by
 intro E _ n G a w vs hd h hvl hvs;obtain⟨hn,hR⟩:=z6f hnd;obtain⟨hq1,hq2⟩:=j0n hq;have hsz:vs.size=xs.length:=by
  have hlen:∀(k:Nat) (l:List AV),(q7o Q k l).length=l.length:=fun k l=>by
   induction l generalizing k with
   |nil=>rfl
   |cons y l ih=>simp[q7o,ih]
  have hev:∀l:List LX,(evL σ l).length=l.length:=fun l=>by
   induction l with
   |nil=>rfl
   |cons y l ih=>simp[evL,ih]
  have:=congrArg List.length hx;rw[hlen,z0P,hev]at this;simp only[Zbn]at this;omega
 have hargs:∀(i:Nat) (x:AV),xs[i]?=some x→AVR (Gc G R Q) w x (vs.getD i undef):=by
  intro i x hi;have e:(q7o Q 0 (evL σ args))[i]?=some (x.ren R):=by rw[hx,z0P,Zan,hi];rfl
  have hwx':=z7x hwx hi;rw[Zbg]at hwx';rw[z4A,Zbg]at e;cases hy:(evL σ args)[i]? with
  |none=>rw[hy]at e;simp at e
  |some y=>
   rw[hy]at e;simp only[Zax,Zas]at e;have hyv:AVR G w y (vs.getD i undef):=hvs i y hy;unfold j4J at e;cases hqi:aget Q i with
   |none=>
    rw[hqi]at e;simp only at e;have hw:x.wf R.length=true:=by
     cases x with
     |own q e1 s1 l1=>
      cases q with
      |t j=>simp[AV.wfA,hqi]at hwx'
      |c r off=>exact hwx'
     |_=>exact hwx'
    have:=z4z hyv;rw[e]at this;exact this.j5m hw
   |some q=>
    rw[hqi]at e;simp only at e;split at e
    ·rename_i q' e1 s1 l1;split at e
     ·rename_i hqq;subst hqq;have hx:x=.own (.t i) e1 s1 l1:=by
       cases x with
       |own q2 e2 s2 l2=>
        simp only[AV.ren,AV.own.injEq]at e;obtain⟨g1,rfl,rfl,rfl⟩:=e;cases q2 with
        |t j=>simp only[renQ,Lab.t.injEq]at g1;rw[g1]
        |c r off=>simp[renQ]at g1
       |_=>simp[AV.ren]at e
      subst hx;cases hyv with
      |own _ _ _ _ _ hq' hv hs=>exact .own _ _ _ _ _ (by simp only[Gc,hqi];exact hq') hv hs
     ·have hx:x=.junk:=by
       cases x<;>simp[AV.ren]at e;rfl
      subst hx;exact .junk _
    ·have hx:x=.junk:=by
      cases x<;>simp[AV.ren]at e;rfl
     subst hx;exact .junk _
 have hent:=h.enter (vs:=vs) hsz hargs ho hwo hn hq;have hInv:Inv.inv P G.f w:=Inv.ext (fun b hb=>h.fr b (Inv.lt (HasInv.holds (P:=P) (E:=E)) b hb) (HasInv.none b hb)) (HasInv.holds (P:=P) (E:=E));have hnew:∀b,inM (Gc G R Q) hs b→E.w0.heap.size≤b∨E.M b:=fun b hM=>by
  rcases z52 ho hM with⟨r',o',g1,g2,g3⟩|⟨q',v',p',g1,g2,g3⟩
  ·rw[←g3];exact h.newObj r' o' g2
  ·obtain⟨e2,s2⟩:=p';exact h.newLam _ v' e2 s2 b g2 g3
 have hown:∀b,Inv.own P b→¬inM (Gc G R Q) hs b:=fun b hb hM=>by
  have hlt:=Inv.lt (HasInv.holds (P:=P) (E:=E)) b hb;have hno:=HasInv.none (P:=P) (E:=E) b hb;rcases hnew b hM with h6|h6
  ·omega
  ·exact hno h6
 obtain⟨lam',h0,hlam⟩:=h.q0z (q3e Q);have ho0:=q9o hq2 ho;have hout:Out E (q5J (Gc G R Q) hs w) { G with lam:=lam' } (Go.Av.q0z σ (q3e Q)) R:=by
  refine⟨fun r o hr hm hM=>?_,fun q v p b hq' hvb hqR hM=>?_,hnew⟩
  ·obtain⟨o2,hr2⟩:=z1T _ hr;rcases z52 ho hM with⟨r',o',g1,g2,g3⟩|⟨q',v',p',g1,g2,g3⟩
   ·exact hm (h.inj _ _ _ _ g2 hr2 g3▸g1)
   ·obtain⟨e1,s1⟩:=p';exact h.lamObj _ v' e1 s1 _ g2 g3 r o2 hr2 rfl
  ·obtain⟨g4,g5⟩:=hlam q _ hq';rcases z52 ho hM with⟨r',o',g1,g2,g3⟩|⟨q',v',p',g1,g2,g3⟩
   ·obtain⟨e1,s1⟩:=p;exact h.lamObj q v e1 s1 b g4 hvb r' o' g2 g3
   ·have:=h.lamInj _ _ _ _ _ _ b g4 g2 hvb g3;subst this;rcases g1 with⟨r,off,rfl,hm⟩|g1
    ·exact hqR r off rfl hm
    ·exact g5 g1
 refine(hc.2 (Gc G R Q) w vs hInv hown hent).mono fun e w' ⟨r,hs',G',v,p1,p2,p3,p4⟩=>⟨v,p2,?_⟩
 obtain⟨⟨q1,q2⟩,q3⟩:=hK r hs' p1 p3;have h5:=h0.leave (E1:=q5J (Gc G R Q) hs w) rfl rfl (fun _=>rfl) hout ho0 hn hR p3 p4 q2;have h6:AVR G' w' r v:=by simpa using p4.slot 0 r (by simp[aget])
 have gen:r.wf R.length=true→retO (q5I (Go.Av.q0z σ (q3e Q)) R hs') dst R r=putO (q5I (Go.Av.q0z σ (q3e Q)) R hs') dst (r.ren R)→∃G' σ',K σ'∧SR E n G' σ' (a.put dst v).tmps w':=fun hw he=>by
  have h7:AVR (Gb { G with lam:=lam' } G' R) w' (r.ren R) v:=AVR.j4U (G:={ G with lam:=lam' }) hn (fun i hi=>p4.ext0 i (by omega)) hw h6;exact⟨_,_,q3,by rw[he];exact h5.putO hd h7⟩
 cases r with
 |own q e sz l=>
  cases q with
  |c r off=>simp[z2h]at q1
  |t s=>
   have hs0:s=0:=by simpa[z2h]using q1
   subst hs0;cases hdd:dst with
   |none=>
    rw[hdd]at q3;exact⟨_,_,q3,by simpa[retO,Act.put]using h5⟩
   |some d=>
    rw[hdd]at q3 hd;obtain⟨G2,h8⟩:=h0.j1h (E1:=q5J (Gc G R Q) hs w) rfl rfl (fun _=>rfl) hout ho0 hn hR p3 p4 q2 d (by simpa[q4p]using hd);exact⟨_,_,q3,by simpa[retO,Act.put]using h8⟩
 |d _=>exact gen q1 rfl
 |ptr _ _=>exact gen q1 rfl
 |dptr _=>exact gen q1 rfl
 |tuple _=>exact gen q1 rfl
 |fn _ _ _=>exact gen q1 rfl
 |junk=>exact gen q1 rfl
 |ns=>exact gen q1 rfl
 |nt _=>exact gen q1 rfl
 |rs _ _ _=>exact gen q1 rfl
 |mp _=>exact gen q1 rfl
 |sx _=>exact gen q1 rfl
end Go.Av
/- A row that came to stand elsewhere is data from then on. -/
namespace Go.Av
variable {E:Entry} {n:Nat} {G:q0s} {σ:St} {ts:Array Value} {w:World} {P:Program} [Inv P]
def Gh(σ τ:St):Prop:=∀(E:Entry) (n:Nat) (G:q0s) (ts:Array Value) (w:World),SR E n G σ ts w→∃G',SR E n G' τ ts w
def AV.frzX(fs:List D)(c:Nat):AV→AV
 |.rs r n c'=>if r=.x 1000 then(if n=fs.length∧c'=c then .d (.list fs)else .junk)else .rs r n c'
 |x=>x
def frzO(fs:List D)(c:Nat):AObj→AObj
 |.cells cs=>.cells (cs.map (AV.frzX fs c))
 |o=>o
def St.frzX(σ:St)(fs:List D)(c:Nat):St:={ ρ:=amap (AV.frzX fs c) σ.ρ,L:=amap (frzO fs c) σ.L,H:=adel (amap (frzO fs c) σ.H) 1000 }
attribute [go_sem] St.frzX AV.frzX frzO
end Go.Av
