import Derived.Test.YtgfdeebaihmkpaaGreatDoorAvH
import Derived.Laws.Cover4
import Derived.Laws.MakeOwn
import Derived.Laws.IdiomStrings
set_option linter.unusedSectionVars false
/- Rows told by rules of their own: their cells may be slices, too; each is an object with a name of our choosing. -/
namespace Go.Av
variable {E:Entry} {n:Nat} {G:q0s} {σ:St} {ts:Array Value} {w:World} {P:Program} [Inv P]
theorem q2C.step{lo:q0b}{K:St→Prop}{σ':St}(hg:lo.guard=none)(hne:∀p xs chk,lo.op≠.prim p xs chk)(h:step1 σ lo.dst lo.op=some σ')(hK:K σ'):q2C P lo K σ:=
 ⟨hg,fun E _ n G a w o h1 h2 h3 h4=>by
   obtain⟨nx,v,w',G',r1,r2,r3⟩:=z4U h4 (o:=o) (h2▸h3) (q3A h1 hne) (h2▸h);rw[h2]at r3;rcases r2 with rfl|⟨rfl,rfl⟩
   ·exact .inl ⟨v,w',r1,G',σ',hK,r3⟩
   ·exact .inr (.inl ⟨w',r1,G',σ',hK,r3⟩)⟩
theorem q2C.ghost{lo:q0b}{K:St→Prop}(h:q2C P lo (fun τ=>∃τ',Gh τ τ'∧K τ') σ):q2C P lo K σ:=
 ⟨h.1,fun E _ n G a w o h1 h2 h3 h4=>(h.2 E n G a w o h1 h2 h3 h4).mono fun v w' ⟨G',σ',⟨τ',g1,g2⟩,q2⟩=>
   let⟨G2,q3⟩:=g1 _ _ _ _ _ q2
   ⟨G2,τ',g2,q3⟩⟩
theorem Gh.trans{σ τ υ:St}(h:Gh σ τ)(g:Gh τ υ):Gh σ υ:=fun E n G ts w q=>let⟨_,q1⟩:=h E n G ts w q;g E n _ ts w q1
theorem Gh.wk{σ τ:St}(h:Wk τ σ):Gh σ τ:=fun _ _ G _ _ q=>⟨G,q.wk h⟩
theorem q2C.nils{d e sz:Nat}{K:St→Prop}(hK:K (σ.put d .ns)):q2C P ⟨some d,.nils e sz,none⟩ K σ:=
 ⟨rfl,fun E _ n G a w o h1 h2 h3 h4=>by
   have ho:=z54 (q3A h1 (fun p xs chk e=>by cases e));refine .inl ⟨.slice none 0 0,w,?_,G,_,hK,?_⟩
   ·simp only[execOp,ho,Act.eval];rfl
   ·exact h4.put (s:=d) .ns (by simpa[q4p]using h3)⟩
/-! ### Rows of cells -/
def rowA(cs:List AV)(c:Nat):List AV:=cs++List.replicate (c-cs.length) .junk
theorem z3s{cs:List AV}{c:Nat}(h:cs.length≤c):(rowA cs c).length=c:=by simp[rowA];omega
theorem j4X{fs:List D}(h:∀y∈fs,y.cells=[y])(c:Nat):rowC 1 fs c=rowA (fs.map .d) c:=by
 have:fs.flatMap D.cells=fs:=by
  induction fs with
  |nil=>rfl
  |cons y r ih=>rw[Zcv,h y (by simp),ih (fun z hz=>h z (by simp[hz]))];rfl
 simp[rowC,rowA,this]
def z4w(d:Nat)(y:AV):Prop:=y.simple=true∧y.has (.l d)=false∧∀e,y≠.nt e
theorem j5F{d b:Nat}{y:AV}{v:Value}(hy:z4w d y)(h:AVR G w y v):AVR { G with b:=updf G.b (.l d) b } w y v:=
 AVR.mono (G:=G) (w:=w) (G':={ G with b:=updf G.b (.l d) b }) (Ext.refl _ _) h (fun r hr=>q0J _ _ (fun e=>by rw[e,hy.2.1]at hr;cases hr)) (fun q p hq _=>by rw[AV.q2z hy.1]at hq;cases hq)
theorem j61{d b:Nat}{cs:List AV}{c:Nat}{arr:Array Value}{el:TypeId}(hheap:w.heap[b]?=some (.cells arr el (0,0)))(hsz:arr.size=c)(hc:cs.length≤c)(hone:∀x∈arr.toList,x.oneCell'=true)(hcs:∀y∈cs,z4w d y)
  (hrd:∀(i:Nat) (y:AV),cs[i]?=some y→AVR G w y (arr.getD i undef)):ObjR { G with b:=updf G.b (.l d) b } w (.l d) (.cells (rowA cs c)):=by
 have hl:=z3s hc;refine⟨arr,el,by show w.heap[updf G.b (.l d) b (.l d)]?=_;rw[q03];exact hheap,by rw[hsz,hl],fun i x hx=>?_⟩;have hi:i<arr.size:=by rw[hsz,←hl];exact(Zac.1 hx).1
 have h1c:=hone (arr.getD i undef) (by simp[hi]);unfold rowA at hx
 by_cases hlt:i<cs.length
 ·rw[Zaj hlt]at hx;have hm:=Zaf hx;exact⟨j5F (hcs x hm) (hrd i x hx),h1c,(fun q hq=>by rw[AV.q2z (hcs x hm).1]at hq;cases hq),fun e he=>absurd he ((hcs x hm).2.2 e)⟩
 ·rw[Zam (by omega)]at hx;have:x=.junk:=(List.mem_replicate.1 (Zaf hx)).2;subst this;exact⟨.junk _,h1c,(fun q hq=>by cases hq),(fun e he=>by cases he)⟩
theorem j7y(σ:St)(d:Nat):(∀t x,aget (σ.drop d).ρ t=some x→x.has (.l d)=false)∧(∀t cs x,aget (adel (σ.drop d).L d) t=some (.cells cs)→x∈cs→x.has (.l d)=false):=
 ⟨fun t x hx=>by
     simp only[St.drop,q0G]at hx;cases hy:aget σ.ρ t with
     |none=>simp[hy]at hx
     |some y=>simp[hy]at hx;subst hx;exact AV.q2Q _ _,fun t cs x hx hm=>by
     simp only[q0O]at hx;split at hx
     ·cases hx
     ·simp only[St.drop,q0G]at hx;cases hy:aget σ.L t with
      |none=>simp[hy]at hx
      |some o=>
       cases o with
       |siter s p=>simp[hy,q0P]at hx
       |miter l c=>simp[hy,q0P]at hx
       |mobj l c=>simp[hy,q0P]at hx
       |cells cs0=>
        simp[hy,q0P]at hx;subst hx;obtain⟨y,_,rfl⟩:=Zat.1 hm;exact AV.q2Q _ _⟩
theorem j8n(σ:St)(d:Nat):∀r o,St.obj { σ.drop d with L:=adel (σ.drop d).L d } r=some o→r≠.l d∧(σ.drop d).obj r=some o:=fun r o hr=>by
 cases r with
 |l t=>
  simp only[St.obj,q0O]at hr;split at hr
  ·cases hr
  ·rename_i hne;exact⟨fun e=>hne (by injection e with e;exact e.symm),hr⟩
 |x k=>exact⟨by simp,hr⟩
theorem j2R(σ:St)(d:Nat)(o:AObj):∀r,((σ.drop d).setObj (.l d) o).obj r=(St.setObj { σ.drop d with L:=adel (σ.drop d).L d } (.l d) o).obj r:=fun r=>by
 simp only[St.q1s];split
 ·rfl
 ·rename_i hne;cases r with
  |l t=>
   have:d≠t:=fun e=>hne (by rw[e])
   simp only[St.obj,q0O,if_neg this]
  |x k=>rfl
theorem SR.j9F(h:SR E n G σ ts w)(d:Nat){v v':Value}{w':World}{e m:Nat}{xs':List Value}{cs:List AV}(hv:j3a G σ d v)
  (hg:Grow w w' v v' 0) (hown:w'.ownsRow 0 e 1 v' m xs') (hm:m≠0) (hone:q7v w' v') (hfl:cs.length=m) (hcs:∀y∈cs,z4w d y)
  (hrd:∀(i:Nat) (y:AV),cs[i]?=some y→AVR G w' y (xs'.getD i undef)):
  ∃b c,m≤c∧c≤maxLen∧v'=.slice (some (at_ b 0)) m c∧SR E n { G with b:=updf G.b (.l d) b } ((σ.drop d).setObj (.l d) (.cells (rowA cs c))) ts w':=by
 rcases hown.2 with⟨_,h0⟩|⟨g,cap,cur,rfl,hbg,hgg,hnc,hcm,hsz,htake⟩
 ·exact absurd h0 hm
 refine⟨g,cap,hnc,hcm,rfl,?_⟩;have hd:=h.drop d;have hobj1:=j8n σ d;have h1:SR E n G { σ.drop d with L:=adel (σ.drop d).L d } ts w:=hd.wk ⟨fun _ _ h=>h,fun r o hr=>(hobj1 r o hr).2⟩;have old:∀b,v.ownBlock=some b→∃o,σ.obj (.l d)=some o∧b=G.b (.l d):=fun b hb=>by
  rcases hv with rfl|⟨o,k,c,h2,rfl⟩
  ·cases hb
  ·simp[Value.ownBlock,at_]at hb;exact⟨o,h2,hb.symm⟩
 have hX:∀b,v.ownBlock=some b→(∀r o,St.obj { σ.drop d with L:=adel (σ.drop d).L d } r=some o→G.b r≠b)∧(∀q v p,G.lam q=some (v,p)→v.ownBlock≠some b)∧(E.w0.heap.size≤b∨E.M b):=fun b hb=>by
  obtain⟨o,ho,rfl⟩:=old b hb;refine⟨fun r o' hr e=>?_,fun q vq p hq hvb=>?_,h.newObj _ _ ho⟩
  ·obtain⟨h2,h3⟩:=hobj1 r o' hr;obtain⟨o2,h4,_⟩:=σ.q56 d r h3;exact h2 (h.inj _ _ _ _ h4 ho e)
  ·obtain⟨e1,s1⟩:=p;exact h.lamObj q vq e1 s1 _ hq hvb _ _ ho rfl
 have hf0:∀b,v.ownBlock=some b→G.f b=0:=fun b hb=>by
  obtain⟨o,ho,rfl⟩:=old b hb;exact h.objf _ _ ho
 have hext:Ext G.f w G.f w':=⟨hg.size,fun _=>Zak _,fun b i hi=>by
  by_cases hb:v.ownBlock=some b
  ·rw[hf0 b hb]at hi;omega
  ·have hlt:b<w.heap.size:=by
    rcases Zbi b w.heap.size with h2|h2
    ·exact h2
    ·rw[h.top b h2]at hi;omega
   simp only[World.cell?,at_];rw[hg.block b hlt hb],fun b es c hb hm=>by rw[hg.block b (Zar.1 hm).1 (fun e=>by rw[hf0 b e]at hb;omega)];exact hm⟩
 have h2:SR E n { G with f:=G.f } { σ.drop d with L:=adel (σ.drop d).L d } ts w':=h1.z0m (fun b=>v.ownBlock=some b) hX hext (fun b hb hx=>⟨hg.block b hb hx,rfl⟩) (fun b hb=>h.top b (Zbr hg.size hb)) hg.os hg.tape hg.output;have hgn:v.ownBlock=some g∨w.heap.size≤g:=by
  rcases hg.own with h3|⟨b,h3,h4⟩
  ·exact .inl h3.symm
  ·simp[Value.ownBlock]at h3;subst h3;exact .inr h4
 have h3:=h2.z6v d g (.cells (rowA cs cap)) (j7y σ d).1 (j7y σ d).2
  (by rcases hgn with h4|h4
      ·exact hf0 g h4
      ·exact h.top g h4)
  (fun r o hr=>by
    rcases hgn with h4|h4
    ·exact(hX g h4).1 r o hr
    ·have:=(h1.obj r o hr).lt;exact fun e=>by rw[e]at this;omega)
  (fun q vq p hq=>by
    rcases hgn with h4|h4
    ·exact(hX g h4).2.1 q vq p hq
    ·intro hb;obtain⟨e1,s1⟩:=p;have:=(h.lam q vq e1 s1 hq).lt hb;omega)
  (by rcases hgn with h4|h4
      ·exact(hX g h4).2.2
      ·exact .inl (Zbr h.ext.size h4))
  (j61 (G:=G) hgg (by omega) (by omega) (fun x hx=>hone g cur e _ rfl hgg x hx) hcs (fun i y hy=>by
    have hi:i<m:=by rw[←hfl];exact(Zac.1 hy).1
    have hcx:cur.getD i undef=xs'.getD i undef:=by
     rw[←htake,List.getD_eq_getElem?_getD,Zbc,if_pos (by omega)];simp
    rw[hcx];exact hrd i y hy))
 exact h3.congr rfl (j2R σ d _)
theorem SR.j8I(h:SR E n G σ ts w){d c:Nat}{cs:List AV}(ho:σ.obj (.l d)=some (.cells (rowA cs c)))(hc:cs.length≤c∧c≤maxLen):
  ∃el xs,w.ownsRow 0 el 1 (.slice (some (at_ (G.b (.l d)) 0)) cs.length c) cs.length xs∧q7v w (.slice (some (at_ (G.b (.l d)) 0)) cs.length c)∧∀(i:Nat) (y:AV),cs[i]?=some y→AVR G w y (xs.getD i undef):=by
 obtain⟨arr,el,h1,h2,h3⟩:=h.obj _ _ ho;rw[z3s hc.1]at h2;refine⟨el,arr.toList.take (cs.length*1),⟨by rw[Zaw,show arr.toList.length=c by simpa using h2];omega,.inr ⟨G.b (.l d),c,arr,rfl,Zay _,h1,hc.1,hc.2,by omega,rfl⟩⟩,fun b a2 el2 fr hb hh x hx=>?_,fun i y hy=>?_⟩
 ·simp[Value.ownBlock,at_]at hb;subst hb;rw[h1]at hh;cases hh;obtain⟨i,hi,rfl⟩:=List.mem_iff_getElem.1 hx;have hi':i<arr.size:=by simpa using hi
  have:=(h3 i ((rowA cs c)[i]'(by rw[z3s hc.1,←h2];exact hi')) (Zal _)).2.1;simpa[hi']using this
 ·have hi:i<cs.length:=(Zac.1 hy).1;have hx:(rowA cs c)[i]?=some y:=by rw[rowA,Zaj hi,hy]
  have:=(h3 i _ hx).1;rw[List.getD_eq_getElem?_getD,Zbc,if_pos (by omega)];simpa using this
def Src1(σ:St)(x y:AV):Prop:=(∃z,y=.d z∧z.cells=[z]∧((∃q e,x=.own q e 1 [z])∨x=.d (.list [z])))∨∃r c cs,x=.rs r 1 c∧σ.obj r=some (.cells (y::cs))
theorem Src1.own{q:Lab}{e:Nat}{z:D}(h:z.cells=[z]):Src1 σ (.own q e 1 [z]) (.d z):=.inl ⟨z,rfl,h,.inl ⟨q,e,rfl⟩⟩
theorem Src1.src{x y:AV}{v:Value}{tx e':TypeId}(hk:P.underlying tx=some (.slice e'))(hs:Src1 σ x y)(h:SR E n G σ ts w)(hx:AVR G w x v):∃u,Src P 1 tx v 1 [u] w∧AVR G w y u∧u.oneCell'=true:=by
 have hl:∀z:D,z.cells=[z]→RD G.f w (.list [z]) v→∃u,Src P 1 tx v 1 [u] w∧AVR G w (.d z) u∧u.oneCell'=true:=fun z hz hr=>by
  obtain⟨news,k1,k2,k3⟩:=SrcD.ofList (P:=P) hk (sz:=1) hr (fun y hy=>by rw[Zci.1 hy,hz];rfl);have hlen:=k1.newsLen;obtain⟨u,rfl⟩:∃u,news=[u]:=by
   match news,hlen with
   |[u],_=>exact⟨u,rfl⟩
   |[],hlen=>simp at hlen
   |_::_::_,hlen=>simp at hlen
  have h2:=k3 0 z 0 z rfl (by rw[hz];rfl);have h3:RD G.f w z u:=by simpa using h2
  refine⟨u,k1,.d _ _ h3,(h3.one ?_).1⟩;exact(k2 z (by simp)).2 z (by rw[hz];simp)
 rcases hs with⟨z,rfl,hz,⟨q,e,rfl⟩|rfl⟩|⟨r,c,cs,rfl,ho⟩
 ·cases hx with
  |own _ _ _ _ _ hq hv hc=>exact hl z hz hv
 ·exact hl z hz hx.dinv
 ·cases hx;obtain⟨arr,el,h1,h2,h3⟩:=h.obj _ _ ho;have hcell:=h3 0 y rfl;have h0:0<arr.size:=by rw[h2];simp
  refine⟨arr.getD 0 undef,Src.ofSlice w hk _ 1 _ [arr.getD 0 undef] rfl (fun j u hj=>?_) (fun u hu=>?_),hcell.1,hcell.2.1⟩
  ·have:j=0:=by have:=(Zac.1 hj).1;simpa using this
   subst this;simp at hj;rw[q5x,cell_of_heap h1];simp[h0,←hj]
  ·rw[Zci.1 hu];exact hcell.2.1
theorem j4e{o:Oper}{e sz by_:Nat}{s x:LX}(h:q5Z P o=some (.app e sz by_ false s x)):∃t tx S X e',o.op=.call { callee:=.builtin .append,args := #[S,X],argTypes := #[t,tx] }∧q45 P t=some (e,sz,by_)∧z0f S=some s∧q1o X=some x∧q3g P e=true∧P.underlying tx=some (.slice e'):=by
 have key:∀(args:Array Operand) (tt:Array TypeId),q2m P args.toList tt.toList=some (.app e sz by_ false s x)→∃t tx S X e',args = #[S,X]∧tt = #[t,tx]∧q45 P t=some (e,sz,by_)∧z0f S=some s∧q1o X=some x∧q3g P e=true∧P.underlying tx=some (.slice e'):=fun args tt h=>by
  unfold q2m at h;split at h
  ·rename_i S X t tx hA hT;unfold z13 at h;split at h
   ·rename_i e1 sz1 by1 s1 x1 q1 q2 q3;split at h
    ·rename_i hz;split at h
     ·rename_i e' hu;cases h;exact⟨t,tx,S,X,e',Zcl (by simpa using hA),Zcl (by simpa using hT),q1,q2,q3,hz,hu⟩
     ·cases h
     ·cases h
    ·cases h
   ·cases h
  ·cases h
 unfold q5Z at h;split at h
 ·split at h
  ·split at h<;>cases h
  ·obtain⟨_,_,h⟩:=map_none h;cases h
 ·split at h<;>cases h
 ·obtain⟨_,_,h⟩:=map_none h;cases h
 ·split at h<;>cases h
 ·rename_i args tt ho;obtain⟨t,tx,S,X,e',rfl,rfl,q⟩:=key args tt h;exact⟨t,tx,S,X,e',ho,q⟩
 ·split at h
  ·obtain⟨_,_,h⟩:=map_none h;cases h
  ·cases h
 ·split at h
  ·split at h<;>cases h
  ·cases h
 ·split at h
  ·split at h<;>cases h
  ·obtain⟨_,_,h⟩:=map_none h;cases h
 ·obtain⟨_,_,h⟩:=map_none h;cases h
theorem q2C.app1{d r e by_ c:Nat}{s x:LX}{y:AV}{cs:List AV}{K:St→Prop}(hz:z2l P e=true)
  (hs:(σ.ev s=.ns∧cs=[])∨(σ.ev s=.rs (.l r) cs.length c∧σ.obj (.l r)=some (.cells (rowA cs c))∧cs.length≤c∧c≤maxLen))
  (hx:Src1 σ (σ.ev x) y) (hcs:∀z∈cs,z4w r z) (hy:z4w r y) (hb:cs.length+1≤maxLen∧(cs.length+1)*by_≤140737488355328)
  (hK:∀c',cs.length+1≤c'→c'≤maxLen→K (((σ.drop r).setObj (.l r) (.cells (rowA (cs++[y]) c'))).put d (.rs (.l r) (cs.length+1) c'))):q2C P ⟨some d,.app e 1 by_ false s x,none⟩ K σ:=
 ⟨rfl,fun E _ n G a w o h1 h2 h3 h=>by
   obtain⟨t,tx,S,X,e',hop,hsl,hS,hX,hzf,hk⟩:=j4e (q3A h1 (fun p xs chk e=>by cases e));obtain⟨i,ht,hi,hi1,rfl⟩:=z55 hsl;obtain⟨i',z,hi',hz1,hz2,hz3⟩:=z0U hz;rw[hi]at hi';cases hi';have rs:=h.evs hS;have rx:=h.ev hX;obtain⟨u,hsrc,hyu,hu1⟩:=Src1.src (P:=P) hk hx h rx;have hrow:∃el xs,w.ownsRow 0 el 1 (a.eval S) cs.length xs∧q7v w (a.eval S)∧(∀(j:Nat) (y:AV),cs[j]?=some y→AVR G w y (xs.getD j undef))∧j3a G σ r (a.eval S):=by
    rcases hs with⟨hs,rfl⟩|⟨hs,ho,hc1,hc2⟩
    ·rw[hs]at rs;generalize hv:a.eval S=v at rs;cases rs;exact⟨e,[],World.ownsRow_nil w 0 e 1,(fun b _ _ _ hb=>by cases hb),(fun j y hy=>by simp at hy),.inl rfl⟩
    ·rw[hs]at rs;generalize hv:a.eval S=v at rs;cases rs;obtain⟨el,xs,g1,g2,g3⟩:=h.j8I ho ⟨hc1,hc2⟩;exact⟨el,xs,g1,g2,g3,.inr ⟨_,_,_,ho,rfl⟩⟩
   obtain⟨el,xs,g1,g2,g3,g4⟩:=hrow;have hxl:xs.length=cs.length*1:=g1.1;rw[←hi1]at g1;have hsrc:Src P i.size tx (a.eval X) 1 [u] w:=by rw[hi1];exact hsrc
   obtain⟨v',w',el',r1,r2,r3,r4⟩:=q7p w t tx o.type e el i z ht hi hz1 hz2 (a.eval S) cs.length xs g1 (a.eval X) 1 [u] hsrc hb.1 hb.2 (by omega) g2 hz3;rw[hi1]at r2 r3;have hr3:Grow w w' (a.eval S) v' 0:={ r3 with cells:=fun b hb j hj=>by omega };have hf0:∀b,(a.eval S).ownBlock=some b→G.f b=0:=fun b hb=>by
    rcases g4 with hn|⟨o,k,c,h2,hn⟩
    ·rw[hn]at hb;cases hb
    ·rw[hn]at hb;simp[Value.ownBlock,at_]at hb;subst hb;exact h.objf _ _ h2
   have hext:Ext G.f w G.f w':=⟨r3.size,fun _=>Zak _,fun b j hj=>by
    by_cases hb:(a.eval S).ownBlock=some b
    ·rw[hf0 b hb]at hj;omega
    ·have hlt:b<w.heap.size:=by
      rcases Zbi b w.heap.size with h2|h2
      ·exact h2
      ·rw[h.top b h2]at hj;omega
     simp only[World.cell?,at_];rw[r3.block b hlt hb],fun b es c hb hm=>by rw[r3.block b (Zar.1 hm).1 (fun e=>by rw[hf0 b e]at hb;omega)];exact hm⟩
   have hup:∀{y:AV} {v:Value},AVR G w y v→AVR G w' y v:=fun h=>AVR.mono (G:=G) (w:=w) (G':=G) hext h (fun _ _=>rfl) (fun _ _ _ hp=>hp)
   have hrd:∀(j:Nat) (z:AV),(cs++[y])[j]?=some z→AVR G w' z ((xs++[u]).getD j undef):=fun j z hz=>by
    by_cases hj:j<cs.length
    ·rw[Zaj hj]at hz;rw[List.getD_eq_getElem?_getD,Zaj (by omega),←List.getD_eq_getElem?_getD];exact hup (g3 j z hz)
    ·rw[Zam (by omega)]at hz;have hj0:j-cs.length=0:=by have:=(Zac.1 hz).1;simp at this;omega
     rw[hj0]at hz;simp at hz;subst hz;rw[List.getD_eq_getElem?_getD,Zam (by omega),show j-xs.length=0 by omega];exact hup hyu
   obtain⟨b,c',q1,q2,rfl,q3⟩:=h.j9F r g4 hr3 r2 (by omega) r4 (by simp) (fun z hz=>by
    rcases Zaz.1 hz with hz|hz
    ·exact hcs z hz
    ·rw[Zci.1 hz];exact hy) hrd
   refine .inl ⟨.slice (some (at_ b 0)) (cs.length+1) c',w',?_,{ G with b:=updf G.b (.l r) b },_,hK c' q1 q2,?_⟩
   ·simp only[execOp,hop,resolve,invoke,builtin,Sem.run_bind,Sem.run_pure,Result.andThen_ok,List.map_toArray,Zbo,Zbs];rw[r1];rfl
   ·have hput:=q3.put (s:=d) (x:=.rs (.l r) (cs.length+1) c') (v:=.slice (some (at_ b 0)) (cs.length+1) c') (by
     have:=AVR.rs (G:={ G with b:=updf G.b (.l r) b }) (w:=w') (.l r) (cs.length+1) c';simpa[q03]using this) (by simpa[q4p]using h3)
    simpa[Act.put]using hput⟩
end Go.Av
/- Rows of rows: they go over into data. -/
namespace Go.Av
variable {E:Entry} {n:Nat} {G:q0s} {σ:St} {ts:Array Value} {w:World}
def AV.frzL(a:Nat)(fs:List D)(c:Nat):AV→AV
 |.rs r n c'=>if r=.l a then(if n=fs.length∧c'=c then .d (.list fs)else .junk)else .rs r n c'
 |x=>x
def j2o(a:Nat)(fs:List D)(c:Nat):AObj→AObj
 |.cells cs=>.cells (cs.map (AV.frzL a fs c))
 |o=>o
def St.frzL(σ:St)(a:Nat)(fs:List D)(c:Nat):St:={ ρ:=amap (AV.frzL a fs c) σ.ρ,L:=adel (amap (j2o a fs c) σ.L) a,H:=amap (j2o a fs c) σ.H }
theorem St.j6E(σ:St)(a:Nat)(fs:List D)(c:Nat)(r:Ref){o:AObj}(h:(σ.frzL a fs c).obj r=some o):r≠.l a∧∃o',σ.obj r=some o'∧o=j2o a fs c o':=by
 cases r with
 |x t=>
  simp only[St.frzL,St.obj,q0G]at h;cases hx:aget σ.H t with
  |none=>simp[hx]at h
  |some o'=>simp[hx]at h;exact⟨by simp,o',hx,h.symm⟩
 |l t=>
  simp only[St.frzL,St.obj,q0O,q0G]at h;split at h
  ·cases h
  ·rename_i hne;cases hx:aget σ.L t with
   |none=>simp[hx]at h
   |some o'=>simp[hx]at h;exact⟨by simp;omega,o',hx,h.symm⟩
theorem j4Y(h:SR E n G σ ts w){a sz c:Nat}{fs:List D}(ho:σ.obj (.l a)=some (.cells (rowC sz fs c)))(hfs:∀y∈fs,y.cells.length=sz)(hc:fs.length≤c):
  RD (updf G.f (G.b (.l a)) (rowC sz fs c).length) w (.list fs) (.slice (some (at_ (G.b (.l a)) 0)) fs.length c):=by
 obtain⟨arr,el,h1,h2,h3⟩:=h.obj _ _ ho;have hl:=q9P hfs hc;have hle:fs.length*sz≤c*sz:=Zby _ hc;have hf0:=h.objf _ _ ho;have hext:Ext G.f w (updf G.f (G.b (.l a)) (rowC sz fs c).length) w:=⟨Zak _,fun b=>by
  by_cases e:b=G.b (.l a)
  ·rw[e,hf0];exact Zay _
  ·rw[q0J _ _ e];exact Zak _,fun _ _ _=>rfl,fun _ _ _ _ h=>h⟩
 have hcell:∀(i j:Nat) (e d:D),fs[i]?=some e→e.cells[j]?=some d→i*sz+j<c*sz∧RD G.f w d (arr.getD (i*sz+j) undef)∧(arr.getD (i*sz+j) undef).oneCell'=true:=fun i j e d he hd=>by
  have hx:=j3X hfs he hd;have hlt:i*sz+j<fs.length*sz:=by rw[←q1f hfs];exact(Zac.1 hx).1
  have hx2:(rowC sz fs c)[i*sz+j]?=some (.d d):=by
   rw[rowC,Zaj (by rw[Zbn,q1f hfs];exact hlt),Zan,hx];rfl
  obtain⟨g1,g2,_⟩:=h3 _ _ hx2;exact⟨by omega,g1.dinv,g2⟩
 have hflat:∀y∈fs,y.flat:=fun y hy e he=>by
  obtain⟨i,hi⟩:=Zbb hy;obtain⟨j,hj⟩:=Zbb he;obtain⟨_,g1,g2⟩:=hcell i j y e hi hj;exact g1.z6h g2
 refine .list fs (G.b (.l a)) 0 c sz (fun i=>arr.getD i undef) hc (fun e he=>⟨hfs e he,hflat e he⟩) (by rw[q03,hl];omega) (fun i hi=>?_) (fun i e j d he hd=>(hcell i j e d he hd).2.1.ext hext);rw[Zbg,cell_of_heap h1];have:i<arr.size:=by rw[h2,hl];omega
 simp[this]
theorem AV.j59(a:Nat)(fs:List D)(c:Nat)(r:Ref){x:AV}(h:x.has r=false):(x.frzL a fs c).has r=false:=by
 cases x with
 |rs r' n c'=>
  simp only[AV.frzL];split
  ·split<;>rfl
  ·exact h
 |_=>exact h
theorem SR.frzL(h:SR E n G σ ts w){a sz c:Nat}{fs:List D}(ho:σ.obj (.l a)=some (.cells (rowC sz fs c)))(hfs:∀y∈fs,y.cells.length=sz)(hc:fs.length≤c):
  SR E n { G with f:=updf G.f (G.b (.l a)) (rowC sz fs c).length } (σ.frzL a fs c) ts w:=by
 have hl:=j4Y h ho hfs hc;have hwk:Wk { σ with L:=adel σ.L a } σ:=⟨fun _ _ h=>h,fun r o hr=>by
  cases r with
  |x t=>exact hr
  |l k=>
   simp only[St.obj,q0O]at hr;split at hr
   ·cases hr
   ·exact hr⟩
 have h1:=h.wk hwk;have hf0:G.f (G.b (.l a))=0:=h.objf _ _ ho;have hlt:=(h.obj _ _ ho).lt;have h2:SR E n { G with f:=updf G.f (G.b (.l a)) (rowC sz fs c).length } { σ with L:=adel σ.L a } ts w:=by
  refine h1.z0m (fun b=>b=G.b (.l a)) (fun b hb=>?_) ⟨Zak _,fun b=>?_,fun b i hi=>rfl,fun _ _ _ _ h=>h⟩ (fun b hb hx=>⟨rfl,q0J _ _ hx⟩) (fun b hb=>?_) rfl rfl rfl
  ·subst hb;refine⟨fun r o hr e=>?_,fun q v p hq hv=>?_,h.newObj _ _ ho⟩
   ·have:=h.inj r (.l a) o _ (hwk.obj r o hr) ho e;subst this;simp[St.obj,q0O]at hr
   ·obtain⟨e,sz⟩:=p;exact h.lamObj q v e sz _ hq hv _ _ ho rfl
  ·by_cases e:b=G.b (.l a)
   ·rw[e,hf0];exact Zay _
   ·rw[q0J _ _ e];exact Zak _
  ·have:b≠G.b (.l a):=fun e=>by rw[e]at hb;omega
   rw[q0J _ _ this];exact h.top b hb
 have hfz:∀{x:AV} {v:Value},AVR { G with f:=updf G.f (G.b (.l a)) (rowC sz fs c).length } w x v→AVR { G with f:=updf G.f (G.b (.l a)) (rowC sz fs c).length } w (x.frzL a fs c) v:=fun{x v} hx=>by
  cases x with
  |rs r n' c'=>
   simp only[AV.frzL];split
   ·rename_i e;subst e;split
    ·rename_i e;obtain⟨rfl,rfl⟩:=e;cases hx;exact .d _ _ hl
    ·exact .junk _
   ·exact hx
  |_=>exact hx
 have hob:∀r o,(σ.frzL a fs c).obj r=some o→∃o',St.obj { σ with L:=adel σ.L a } r=some o'∧o=j2o a fs c o':=fun r o hr=>by
  obtain⟨g1,o',g2,g3⟩:=σ.j6E a fs c r hr;refine⟨o',?_,g3⟩;cases r with
  |x t=>exact g2
  |l k=>
   simp only[St.obj,q0O];rw[if_neg (fun e=>g1 (by rw[e]))];exact g2
 refine{ h2 with slot:=fun s x hx=>?_,obj:=fun r o hr=>?_,objf:=fun r o hr=>?_,inj:=fun r r' o o' hr hr' hb=>?_,lamObj:=fun q v e sz b h1 h3 r o hr=>?_,newObj:=fun r o hr=>?_,own0:=fun r cs x s hr hx=>?_ }
 ·simp only[St.frzL,q0G]at hx;cases hy:aget σ.ρ s with
  |none=>simp[hy]at hx
  |some y=>
   simp[hy]at hx;subst hx;exact hfz (h2.slot s y hy)
 ·obtain⟨o',g1,rfl⟩:=hob r o hr;have g2:=h2.obj r o' g1;cases o' with
  |cells cs=>
   obtain⟨arr,el,k1,k2,k3⟩:=g2;refine⟨arr,el,k1,by rw[k2,Zbn],fun i x hi=>?_⟩;rw[Zan]at hi;cases hy:cs[i]? with
   |none=>simp[hy]at hi
   |some y=>
    simp[hy]at hi;subst hi;obtain⟨m1,m2,m3,m4⟩:=k3 i y hy;refine⟨hfz m1,m2,fun q hq=>?_,fun e he=>?_⟩
    ·cases y with
     |rs r' n' c'=>
      simp only[AV.frzL]at hq;split at hq
      ·split at hq<;>cases hq
      ·cases hq
     |_=>exact m3 q hq
    ·cases y with
     |rs r' n' c'=>
      simp only[AV.frzL]at he;split at he
      ·split at he<;>cases he
      ·cases he
     |_=>exact m4 e he
  |_=>exact g2
 ·obtain⟨o',g1,_⟩:=hob r o hr;exact h2.objf r o' g1
 ·obtain⟨o1,g1,_⟩:=hob r o hr;obtain⟨o2,g2,_⟩:=hob r' o' hr';exact h2.inj r r' o1 o2 g1 g2 hb
 ·obtain⟨o',g1,_⟩:=hob r o hr;exact h2.lamObj q v e sz b h1 h3 r o' g1
 ·obtain⟨o',g1,_⟩:=hob r o hr;exact h2.newObj r o' g1
 ·obtain⟨o',g1,g2⟩:=hob _ _ hr;cases o' with
  |cells cs'=>
   simp only[j2o,AObj.cells.injEq]at g2;subst g2;obtain⟨y,hy,rfl⟩:=Zat.1 hx;exact AV.j59 _ _ _ _ (h2.own0 r cs' y s g1 hy)
  |_=>simp[j2o]at g2
theorem Gh.frzL{a sz c:Nat}{fs:List D}(ho:σ.obj (.l a)=some (.cells (rowC sz fs c)))(hfs:∀y∈fs,y.cells.length=sz)(hc:fs.length≤c):Gh σ (σ.frzL a fs c):=fun _ _ _ _ _ h=>⟨_,h.frzL ho hfs hc⟩
theorem St.j9W{σ:St}{a:Nat}{fs:List D}{c t:Nat}{x:AV}(h:aget σ.ρ t=some x):aget (σ.frzL a fs c).ρ t=some (x.frzL a fs c):=by
 simp only[St.frzL,q0G,h];rfl
/-! ### Rows of rows: the cells of the one are the others -/
end Go.Av
/- Calls that are handed two objects of data. -/
namespace Go.Av
variable {P:Program} [Inv P] {σ:St}
theorem z7i{o:AObj}(h:rowO o=true)(R:List Ref):o.ren R=o:=by
 obtain⟨cs,rfl,hc⟩:=z7h h;have:renL R cs=cs:=by
  rw[z0P];refine(Zdd fun x hx=>?_).trans (List.map_id _);rcases hc x hx with⟨d,rfl⟩|rfl<;>rfl
 simp[AObj.ren,this]
theorem j41{o:AObj}(h:rowO o=true)(n:Nat):o.wf n=true:=by
 obtain⟨cs,rfl,hc⟩:=z7h h;refine z7y.2 fun x hx=>?_
 rcases hc x hx with⟨d,rfl⟩|rfl<;>rfl
theorem j2P{o:AObj}(h:rowO o=true):o.q5b=true:=by
 obtain⟨cs,rfl,hc⟩:=z7h h;show z1v cs=true
 clear h;induction cs with
 |nil=>rfl
 |cons x l ih=>
  rw[z1v,ih (fun y hy=>hc y (by simp[hy])),Bool.and_true];rcases hc x (by simp)with⟨d,rfl⟩|rfl<;>rfl
def St.j11(σ:St)(R:List Ref):St:={ σ with ρ:=amap (AV.z47 R) σ.ρ }
attribute [go_sem] St.j11 j8J j0C
end Go.Av
/- Rows that are made, signs as a string. -/
namespace Go.Av
variable {P:Program} [Inv P] {σ:St}
end Go.Av
/- Rows of wide elements, appended to by a rule of their own; a string's signs. -/
namespace Go.Av
variable {P:Program} [Inv P] {σ:St}
end Go.Av
/- Regions drawn in any order, told by a family of states: what is done has its slot. -/
namespace Go.Av
variable {P:Program} [Inv P] {σ τ:St} {k:List Item} {K:Exit→St→Prop}
theorem GhoB.wk{b0:Nat→Nat}{σ τ:St}(h:Wk τ σ):GhoB b0 σ τ:=fun _ _ G _ _ _ hs=>⟨G,hs.wk h⟩
end Go.Av
/- Regions drawn in any order, whose operations yield one and the same in any order: run once, in the text's order. -/
namespace Go.Av
variable {P:Program} [Inv P] {γ:Type}
/-! ### Reading in a state that holds more -/
/-! ### What a call leaves as it is (999998 among the names: the region has no call, and may read the row) -/
def St.at(τ:St)(o:AObj)(M:List (Nat×AObj)):St:={ τ with H:=(0,o)::M }
def setW(k:Nat)(ys:List D)(p:Nat×List D×Option (List D)):Nat×List D×Option (List D):=if p.1=k then(p.1,p.2.1,p.2.2.or (some ys))else p
/-! ### What was run, operation by operation -/
variable {X:γ→AObj} {M:List (Nat×AObj)} {ds:List Nat}
/-! ### The state of the text's order -/
/-! ### Which call was last -/
/-! ### The check of such a region -/
/-! ### The family -/
def ctA(p:Nat×List D×Option (List D)):List AV:=match p.2.2 with
 |none=>p.2.1.map nsD
 |some ys=>ys.map .d
def j9t(τ:St)(p:Nat×List D×Option (List D)):St:=match p.2.2 with
 |none=>newO τ p.1 p.2.1
 |some ys=>(newO τ p.1 p.2.1).setObj (.l p.1) (.cells (ys.map .d))
def j9u:List (Nat×List D×Option (List D))→St→St
 |[],τ=>τ
 |p::A,τ=>j9u A (j9t τ p)
end Go.Av
/- Regions in any order: calls with one object and a row that may move; what freezes at their end. -/
namespace Go.Av
variable {P:Program} [Inv P] {γ:Type} {X:γ→AObj} {M:List (Nat×AObj)} {ds:List Nat}
/-! ### Objects that a call with .x 0 takes as they are -/
/-! ### A pointer to the object as data, and back -/
/-! ### What a walk rewrites by -/
attribute [go_sem] cond_true cond_false j9t setW Option.none_or List.map_cons List.map_nil St.at j9u forall_const exists_eq_left' List.all_cons List.all_nil
end Go.Av
/- A local object of data that is not written any more: a pointer to it is data. -/
namespace Go.Av
variable {E:Entry} {n:Nat} {G:q0s} {σ:St} {ts:Array Value} {w:World}
def AV.frzP(a:Nat)(fs:List D):AV→AV
 |.ptr r off=>if r=.l a then(if off=0 then .d (.pto fs)else .junk)else .ptr r off
 |x=>x
def j2q(a:Nat)(fs:List D):AObj→AObj
 |.cells cs=>.cells (cs.map (AV.frzP a fs))
 |o=>o
def St.frzP(σ:St)(a:Nat)(fs:List D):St:={ ρ:=amap (AV.frzP a fs) σ.ρ,L:=adel (amap (j2q a fs) σ.L) a,H:=amap (j2q a fs) σ.H }
theorem St.j6G(σ:St)(a:Nat)(fs:List D)(r:Ref){o:AObj}(h:(σ.frzP a fs).obj r=some o):r≠.l a∧∃o',σ.obj r=some o'∧o=j2q a fs o':=by
 cases r with
 |x t=>
  simp only[St.frzP,St.obj,q0G]at h;cases hx:aget σ.H t with
  |none=>simp[hx]at h
  |some o'=>simp[hx]at h;exact⟨by simp,o',hx,h.symm⟩
 |l t=>
  simp only[St.frzP,St.obj,q0O,q0G]at h;split at h
  ·cases h
  ·rename_i hne;cases hx:aget σ.L t with
   |none=>simp[hx]at h
   |some o'=>simp[hx]at h;exact⟨by simp;omega,o',hx,h.symm⟩
theorem ptoR(h:SR E n G σ ts w){a:Nat}{fs:List D}(ho:σ.obj (.l a)=some (.cells (fs.map .d))):RD (updf G.f (G.b (.l a)) fs.length) w (.pto fs) (.pointer (some (at_ (G.b (.l a)) 0))):=by
 obtain⟨arr,el,h1,h2,h3⟩:=h.obj _ _ ho;rw[Zbn]at h2;have hf0:=h.objf _ _ ho;have hext:Ext G.f w (updf G.f (G.b (.l a)) fs.length) w:=⟨Zak _,fun b=>by
  by_cases e:b=G.b (.l a)
  ·rw[e,hf0];exact Zay _
  ·rw[q0J _ _ e];exact Zak _,fun _ _ _=>rfl,fun _ _ _ _ h=>h⟩
 have hcell:∀(i:Nat) (d:D),fs[i]?=some d→RD G.f w d (arr.getD i undef)∧(arr.getD i undef).oneCell'=true:=fun i d hd=>by
  obtain⟨g1,g2,_⟩:=h3 i (.d d) (by rw[Zan,hd];rfl);exact⟨g1.dinv,g2⟩
 refine .pto fs (G.b (.l a)) 0 (fun i=>arr.getD i undef) (by rw[q03];omega) (fun i hi=>?_) (fun e he=>?_) (fun i d hd=>(hcell i d hd).1.ext hext)
 ·rw[Zbg,cell_of_heap h1];have:i<arr.size:=by omega
  simp[this]
 ·obtain⟨i,hi⟩:=Zbb he;obtain⟨g1,g2⟩:=hcell i e hi;exact g1.z6h g2
theorem AV.j6c(a:Nat)(fs:List D)(r:Ref){x:AV}(h:x.has r=false):(x.frzP a fs).has r=false:=by
 cases x with
 |ptr r' off=>
  simp only[AV.frzP];split
  ·split<;>rfl
  ·exact h
 |_=>exact h
theorem SR.frzP(h:SR E n G σ ts w){a:Nat}{fs:List D}(ho:σ.obj (.l a)=some (.cells (fs.map .d))):
  SR E n { G with f:=updf G.f (G.b (.l a)) fs.length } (σ.frzP a fs) ts w:=by
 have hl:=ptoR h ho;have hwk:Wk { σ with L:=adel σ.L a } σ:=⟨fun _ _ h=>h,fun r o hr=>by
  cases r with
  |x t=>exact hr
  |l k=>
   simp only[St.obj,q0O]at hr;split at hr
   ·cases hr
   ·exact hr⟩
 have h1:=h.wk hwk;have hf0:G.f (G.b (.l a))=0:=h.objf _ _ ho;have hlt:=(h.obj _ _ ho).lt;have h2:SR E n { G with f:=updf G.f (G.b (.l a)) fs.length } { σ with L:=adel σ.L a } ts w:=by
  refine h1.z0m (fun b=>b=G.b (.l a)) (fun b hb=>?_) ⟨Zak _,fun b=>?_,fun b i hi=>rfl,fun _ _ _ _ h=>h⟩ (fun b hb hx=>⟨rfl,q0J _ _ hx⟩) (fun b hb=>?_) rfl rfl rfl
  ·subst hb;refine⟨fun r o hr e=>?_,fun q v p hq hv=>?_,h.newObj _ _ ho⟩
   ·have:=h.inj r (.l a) o _ (hwk.obj r o hr) ho e;subst this;simp[St.obj,q0O]at hr
   ·obtain⟨e,sz⟩:=p;exact h.lamObj q v e sz _ hq hv _ _ ho rfl
  ·by_cases e:b=G.b (.l a)
   ·rw[e,hf0];exact Zay _
   ·rw[q0J _ _ e];exact Zak _
  ·have:b≠G.b (.l a):=fun e=>by rw[e]at hb;omega
   rw[q0J _ _ this];exact h.top b hb
 have hfz:∀{x:AV} {v:Value},AVR { G with f:=updf G.f (G.b (.l a)) fs.length } w x v→AVR { G with f:=updf G.f (G.b (.l a)) fs.length } w (x.frzP a fs) v:=fun{x v} hx=>by
  cases x with
  |ptr r off=>
   simp only[AV.frzP];split
   ·rename_i e;subst e;split
    ·rename_i e;subst e;cases hx;exact .d _ _ hl
    ·exact .junk _
   ·exact hx
  |_=>exact hx
 have hob:∀r o,(σ.frzP a fs).obj r=some o→∃o',St.obj { σ with L:=adel σ.L a } r=some o'∧o=j2q a fs o':=fun r o hr=>by
  obtain⟨g1,o',g2,g3⟩:=σ.j6G a fs r hr;refine⟨o',?_,g3⟩;cases r with
  |x t=>exact g2
  |l k=>
   simp only[St.obj,q0O];rw[if_neg (fun e=>g1 (by rw[e]))];exact g2
 refine{ h2 with slot:=fun s x hx=>?_,obj:=fun r o hr=>?_,objf:=fun r o hr=>?_,inj:=fun r r' o o' hr hr' hb=>?_,lamObj:=fun q v e sz b h1 h3 r o hr=>?_,newObj:=fun r o hr=>?_,own0:=fun r cs x s hr hx=>?_ }
 ·simp only[St.frzP,q0G]at hx;cases hy:aget σ.ρ s with
  |none=>simp[hy]at hx
  |some y=>
   simp[hy]at hx;subst hx;exact hfz (h2.slot s y hy)
 ·obtain⟨o',g1,rfl⟩:=hob r o hr;have g2:=h2.obj r o' g1;cases o' with
  |cells cs=>
   obtain⟨arr,el,k1,k2,k3⟩:=g2;refine⟨arr,el,k1,by rw[k2,Zbn],fun i x hi=>?_⟩;rw[Zan]at hi;cases hy:cs[i]? with
   |none=>simp[hy]at hi
   |some y=>
    simp[hy]at hi;subst hi;obtain⟨m1,m2,m3,m4⟩:=k3 i y hy;refine⟨hfz m1,m2,fun q hq=>?_,fun e he=>?_⟩
    ·cases y with
     |ptr r' off=>
      simp only[AV.frzP]at hq;split at hq
      ·split at hq<;>cases hq
      ·cases hq
     |_=>exact m3 q hq
    ·cases y with
     |ptr r' off=>
      simp only[AV.frzP]at he;split at he
      ·split at he<;>cases he
      ·cases he
     |_=>exact m4 e he
  |_=>exact g2
 ·obtain⟨o',g1,_⟩:=hob r o hr;exact h2.objf r o' g1
 ·obtain⟨o1,g1,_⟩:=hob r o hr;obtain⟨o2,g2,_⟩:=hob r' o' hr';exact h2.inj r r' o1 o2 g1 g2 hb
 ·obtain⟨o',g1,_⟩:=hob r o hr;exact h2.lamObj q v e sz b h1 h3 r o' g1
 ·obtain⟨o',g1,_⟩:=hob r o hr;exact h2.newObj r o' g1
 ·obtain⟨o',g1,g2⟩:=hob _ _ hr;cases o' with
  |cells cs'=>
   simp only[j2q,AObj.cells.injEq]at g2;subst g2;obtain⟨y,hy,rfl⟩:=Zat.1 hx;exact AV.j6c _ _ _ (h2.own0 r cs' y s g1 hy)
  |_=>simp[j2q]at g2
end Go.Av
/- A new slice of zeros as data; what leaves objects with no local rows as they are. -/
namespace Go.Av
variable {P:Program} [Inv P]
end Go.Av
/- Appending to the row that may come to stand elsewhere. -/
namespace Go.Av
variable {P:Program} [Inv P]
/-! ### A row that gets shorter -/
end Go.Av
