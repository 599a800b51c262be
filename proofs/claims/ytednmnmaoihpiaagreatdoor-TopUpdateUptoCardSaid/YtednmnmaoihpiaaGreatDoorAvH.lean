import Derived.Test.YtednmnmaoihpiaaGreatDoorAvG
set_option linter.unusedSectionVars false
/- Calls that take objects, one of which (the row x1000) may come to stand elsewhere: contracts. -/
namespace Go.Av
variable {E:Entry} {n:Nat} {G:q0p} {σ:St} {ts:Array Value} {w:World}
def mob:Option AObj→List (Nat×AObj)
 |none=>[]
 |some o=>[(1000,o)]
def rowO:AObj→Bool
 |.cells cs=>cs.all fun x=>match x with|.d _|.junk=>true|_=>false
 |_=>false
def rowM:Option AObj→Bool
 |none=>true
 |some o=>rowO o
theorem z4z{o:AObj}(h:rowO o=true):∃cs,o=.cells cs∧∀x∈cs,(∃d,x=.d d)∨x=.junk:=by
 cases o with
 |cells cs=>
  refine⟨cs,rfl,fun x hx=>?_⟩;simp only[rowO,Zbo]at h;have:=h x hx;cases x<;>simp at this
  ·exact .inl ⟨_,rfl⟩
  ·exact .inr rfl
 |_=>simp[rowO]at h
def AV.j6M(n:Nat):AV→Bool
 |.own q _ _ _=>match q with
  |.c r _=>wfR n r
  |.t _=>false
 |_=>true
def labL(n:Nat):List AV→Bool
 |[]=>true
 |x::l=>x.j6M n&&labL n l
def AObj.wfM(n:Nat):AObj→Bool
 |.cells cs=>q85 cs&&labL n cs
 |_=>true
def wfMO(n:Nat):List AObj→Bool
 |[]=>true
 |o::l=>o.wfM n&&wfMO n l
/-! ### The contract -/
/-! ### What the callee finds -/
end Go.Av
/- Calls with a row that may come to stand elsewhere: what the caller has back. -/
namespace Go.Av
variable {E:Entry} {n:Nat} {G:q0p} {σ:St} {ts:Array Value} {w:World}
/-! ### All names of the row are given up -/
def St.j7s(σ:St):St:={ ρ:=amap (AV.drop (.x 1000)) σ.ρ,L:=amap (q0K (.x 1000)) σ.L,H:=adel (amap (q0K (.x 1000)) σ.H) 1000 }
/-! ### What comes back -/
def j0y(R:List Ref)(n:Nat):List Ref→List AObj→Bool
 |[],[]=>true
 |r::rs,o::os=>(o.wfM n&&(isLocal r || (o.ren R).q3Q))&&j0y R n rs os
 |_,_=>false
def setM(σ:St):Option AObj→St
 |none=>σ
 |some o=>σ.setObj (.x 1000) o
def j7r(σ:St)(R:List Ref)(os:List AObj)(m:Option AObj):St:=setM (q4i σ R os) m
end Go.Av
/- Calls with a row that may come to stand elsewhere: the rule of a call, and of a function; an element is put into such a row. -/
namespace Go.Av
variable {E:Entry} {n:Nat} {G:q0p} {σ:St} {ts:Array Value} {w:World} {P:Program} [Inv P]
/-! ### Functions -/
end Go.Av
/- An element is put into a row that may come to stand elsewhere. -/
namespace Go.Av
variable {E:Entry} {n:Nat} {G:q0p} {σ:St} {ts:Array Value} {w:World} {P:Program} [Inv P]
attribute [go_sem] mob rowM AV.q3Q AV.z1U q6c q85 AObj.q3Q AV.j6M labL AObj.wfM wfMO j0y setM j7r St.j7s
end Go.Av
/- Calls in the midst of a reckoning whose arguments are rows that go over. -/
namespace Go.Av
variable {E:Entry} {n:Nat} {G:q0p} {σ:St} {ts:Array Value} {w:World} {P:Program} [Inv P]
theorem q40.q0G{dst:Option Nat}{g:Nat}{args:List LX}{K:St→Prop}{xs:List AV}{hs:List AObj}(R:List Ref)(Q:List (Nat×Lab)){Post:AV→List AObj→Prop}(hc:q42 P g xs hs Post)
  (hx:q5A Q 0 (evL σ args)=renL R xs) (hwx:wfAL Q R.length 0 xs=true) (ho:q1b σ R R hs) (hwo:wfO R.length hs=true) (hnd:z3u R=true) (hq:okQ R Q=true)
  (hK:∀r hs',Post r hs'→hs'.length=hs.length→(q9V R.length r=true∧q4J R R.length R hs'=true)∧K (retO (q4i (Go.Av.q0x σ (q2K Q)) R hs') dst R r)):q40 P dst g args K σ:=by
 intro E _ n G a w vs hd h hvl hvs;obtain⟨hn,hR⟩:=z3v hnd;obtain⟨hq1,hq2⟩:=z7q hq;have hsz:vs.size=xs.length:=by
  have hlen:∀(k:Nat) (l:List AV),(q5A Q k l).length=l.length:=fun k l=>by
   induction l generalizing k with
   |nil=>rfl
   |cons y l ih=>simp[q5A,ih]
  have hev:∀l:List LX,(evL σ l).length=l.length:=fun l=>by
   induction l with
   |nil=>rfl
   |cons y l ih=>simp[evL,ih]
  have:=congrArg List.length hx;rw[hlen,q8k,hev]at this;simp only[Zbd]at this;omega
 have hargs:∀(i:Nat) (x:AV),xs[i]?=some x→AVR (Gc G R Q) w x (vs.getD i undef):=by
  intro i x hi;have e:(q5A Q 0 (evL σ args))[i]?=some (x.ren R):=by rw[hx,q8k,Zam,hi];rfl
  have hwx':=z4R hwx hi;rw[Zbh]at hwx';rw[z10,Zbh]at e;cases hy:(evL σ args)[i]? with
  |none=>rw[hy]at e;simp at e
  |some y=>
   rw[hy]at e;simp only[Zat,Zas]at e;have hyv:AVR G w y (vs.getD i undef):=hvs i y hy;unfold j17 at e;cases hqi:aget Q i with
   |none=>
    rw[hqi]at e;simp only at e;have hw:x.wf R.length=true:=by
     cases x with
     |own q e1 s1 l1=>
      cases q with
      |t j=>simp[AV.wfA,hqi]at hwx'
      |c r off=>exact hwx'
     |_=>exact hwx'
    have:=z1Z hyv;rw[e]at this;exact this.j2P hw
   |some q=>
    rw[hqi]at e;simp only at e;split at e
    ·rename_i q' e1 s1 l1;split at e
     ·rename_i hqq;subst hqq;have hx:x=.own (.t i) e1 s1 l1:=by
       cases x with
       |own q2 e2 s2 l2=>
        simp only[AV.ren,AV.own.injEq]at e;obtain⟨g1,rfl,rfl,rfl⟩:=e;cases q2 with
        |t j=>simp only[renQ,Lab.t.injEq]at g1;rw[g1]
        |c r off=>simp[renQ]at g1
       |_=>simp[AV.ren]at e
      subst hx;cases hyv with
      |own _ _ _ _ _ hq' hv hs=>exact .own _ _ _ _ _ (by simp only[Gc,hqi];exact hq') hv hs
     ·have hx:x=.junk:=by
       cases x<;>simp[AV.ren]at e;rfl
      subst hx;exact .junk _
    ·have hx:x=.junk:=by
      cases x<;>simp[AV.ren]at e;rfl
     subst hx;exact .junk _
 have hent:=h.enter (vs:=vs) hsz hargs ho hwo hn hq;have hInv:Inv.inv P G.f w:=Inv.ext (fun b hb=>h.fr b (Inv.lt (HasInv.holds (P:=P) (E:=E)) b hb) (HasInv.none b hb)) (HasInv.holds (P:=P) (E:=E));have hnew:∀b,inM (Gc G R Q) hs b→E.w0.heap.size≤b∨E.M b:=fun b hM=>by
  rcases z3m ho hM with⟨r',o',g1,g2,g3⟩|⟨q',v',p',g1,g2,g3⟩
  ·rw[←g3];exact h.newObj r' o' g2
  ·obtain⟨e2,s2⟩:=p';exact h.newLam _ v' e2 s2 b g2 g3
 have hown:∀b,Inv.own P b→¬inM (Gc G R Q) hs b:=fun b hb hM=>by
  have hlt:=Inv.lt (HasInv.holds (P:=P) (E:=E)) b hb;have hno:=HasInv.none (P:=P) (E:=E) b hb;rcases hnew b hM with h6|h6
  ·omega
  ·exact hno h6
 obtain⟨lam',h0,hlam⟩:=h.q0x (q2K Q);have ho0:=q66 hq2 ho;have hout:Out E (q4k (Gc G R Q) hs w) { G with lam:=lam' } (Go.Av.q0x σ (q2K Q)) R:=by
  refine⟨fun r o hr hm hM=>?_,fun q v p b hq' hvb hqR hM=>?_,hnew⟩
  ·obtain⟨o2,hr2⟩:=q9z _ hr;rcases z3m ho hM with⟨r',o',g1,g2,g3⟩|⟨q',v',p',g1,g2,g3⟩
   ·exact hm (h.inj _ _ _ _ g2 hr2 g3▸g1)
   ·obtain⟨e1,s1⟩:=p';exact h.lamObj _ v' e1 s1 _ g2 g3 r o2 hr2 rfl
  ·obtain⟨g4,g5⟩:=hlam q _ hq';rcases z3m ho hM with⟨r',o',g1,g2,g3⟩|⟨q',v',p',g1,g2,g3⟩
   ·obtain⟨e1,s1⟩:=p;exact h.lamObj q v e1 s1 b g4 hvb r' o' g2 g3
   ·have:=h.lamInj _ _ _ _ _ _ b g4 g2 hvb g3;subst this;rcases g1 with⟨r,off,rfl,hm⟩|g1
    ·exact hqR r off rfl hm
    ·exact g5 g1
 refine(hc.2 (Gc G R Q) w vs hInv hown hent).mono fun e w' ⟨r,hs',G',v,p1,p2,p3,p4⟩=>⟨v,p2,?_⟩
 obtain⟨⟨q1,q2⟩,q3⟩:=hK r hs' p1 p3;have h5:=h0.leave (E1:=q4k (Gc G R Q) hs w) rfl rfl (fun _=>rfl) hout ho0 hn hR p3 p4 q2;have h6:AVR G' w' r v:=by simpa using p4.slot 0 r (by simp[aget])
 have gen:r.wf R.length=true→retO (q4i (Go.Av.q0x σ (q2K Q)) R hs') dst R r=putO (q4i (Go.Av.q0x σ (q2K Q)) R hs') dst (r.ren R)→∃G' σ',K σ'∧SR E n G' σ' (a.put dst v).tmps w':=fun hw he=>by
  have h7:AVR (Gb { G with lam:=lam' } G' R) w' (r.ren R) v:=AVR.j2j (G:={ G with lam:=lam' }) hn (fun i hi=>p4.ext0 i (by omega)) hw h6;exact⟨_,_,q3,by rw[he];exact h5.putO hd h7⟩
 cases r with
 |own q e sz l=>
  cases q with
  |c r off=>simp[q9V]at q1
  |t s=>
   have hs0:s=0:=by simpa[q9V]using q1
   subst hs0;cases hdd:dst with
   |none=>
    rw[hdd]at q3;exact⟨_,_,q3,by simpa[retO,Act.put]using h5⟩
   |some d=>
    rw[hdd]at q3 hd;obtain⟨G2,h8⟩:=h0.z8q (E1:=q4k (Gc G R Q) hs w) rfl rfl (fun _=>rfl) hout ho0 hn hR p3 p4 q2 d (by simpa[q3u]using hd);exact⟨_,_,q3,by simpa[retO,Act.put]using h8⟩
 |d _=>exact gen q1 rfl
 |ptr _ _=>exact gen q1 rfl
 |dptr _=>exact gen q1 rfl
 |tuple _=>exact gen q1 rfl
 |fn _ _ _=>exact gen q1 rfl
 |junk=>exact gen q1 rfl
 |ns=>exact gen q1 rfl
 |nt _=>exact gen q1 rfl
 |rs _ _ _=>exact gen q1 rfl
 |mp _=>exact gen q1 rfl
 |sx _=>exact gen q1 rfl
end Go.Av
/- A row that came to stand elsewhere is data from then on. -/
namespace Go.Av
variable {E:Entry} {n:Nat} {G:q0p} {σ:St} {ts:Array Value} {w:World} {P:Program} [Inv P]
def Gh(σ τ:St):Prop:=∀(E:Entry) (n:Nat) (G:q0p) (ts:Array Value) (w:World),SR E n G σ ts w→∃G',SR E n G' τ ts w
def AV.frzX(fs:List D)(c:Nat):AV→AV
 |.rs r n c'=>if r=.x 1000 then(if n=fs.length∧c'=c then .d (.list fs)else .junk)else .rs r n c'
 |x=>x
def frzO(fs:List D)(c:Nat):AObj→AObj
 |.cells cs=>.cells (cs.map (AV.frzX fs c))
 |o=>o
def St.frzX(σ:St)(fs:List D)(c:Nat):St:={ ρ:=amap (AV.frzX fs c) σ.ρ,L:=amap (frzO fs c) σ.L,H:=adel (amap (frzO fs c) σ.H) 1000 }
attribute [go_sem] St.frzX AV.frzX frzO
end Go.Av
