import Derived.Test.YtgfdeebaihmkpaaGreatDoorAvF
import Derived.MapKept
import Derived.Laws.IdiomRangeMap
set_option linter.unusedSectionVars false
/- Rows whose elements may be written in place: appending to them. -/
namespace Go.Av
variable {E:Entry} {n:Nat} {G:q0s} {σ:St} {ts:Array Value} {w:World} {P:Program} [Inv P]
def rowC(sz:Nat)(fs:List D)(c:Nat):List AV:=(fs.flatMap D.cells).map .d++List.replicate ((c-fs.length)*sz) .junk
theorem q1f{sz:Nat}:∀{fs:List D},(∀y∈fs,y.cells.length=sz)→(fs.flatMap D.cells).length=fs.length*sz
 |[],_=>by simp
 |f::fs,h=>by
  rw[Zcv,Zad,q1f (fun y hy=>h y (by simp[hy])),h f (by simp),Zae,Nat.add_mul];omega
theorem q9P{sz c:Nat}{fs:List D}(h:∀y∈fs,y.cells.length=sz)(hc:fs.length≤c):(rowC sz fs c).length=c*sz:=by
 rw[rowC,Zad,Zbn,q1f h,Zdb,←Nat.add_mul];congr 1;omega
theorem q5E(r:Ref)(sz:Nat)(fs:List D)(c:Nat):(rowC sz fs c).map (AV.drop r)=rowC sz fs c:=by
 simp only[rowC,List.map_append,List.map_map,List.map_replicate];rfl
theorem j1c{sz:Nat}:∀{fs:List D},(∀y∈fs,y.cells.length=sz)→∀{i:Nat} {y:D},(fs.flatMap D.cells)[i]?=some y→∃k j f,fs[k]?=some f∧f.cells[j]?=some y∧i=k*sz+j∧j<sz
 |[],_,i,y,h=>by simp at h
 |f::fs,hc,i,y,h=>by
  have hf:=hc f (by simp);rw[Zcv]at h
  by_cases hi:i<sz
  ·rw[Zaj (by omega)]at h;exact⟨0,i,f,rfl,h,by omega,hi⟩
  ·rw[Zam (by omega),hf]at h;obtain⟨k,j,g,h1,h2,h3,h4⟩:=j1c (fun y hy=>hc y (by simp[hy])) h;exact⟨k+1,j,g,by simpa using h1,h2,by rw[Nat.add_mul];omega,h4⟩
theorem j3X{sz:Nat}{fs:List D}(hc:∀y∈fs,y.cells.length=sz){k j:Nat}{f y:D}(hk:fs[k]?=some f)(hj:f.cells[j]?=some y):(fs.flatMap D.cells)[k*sz+j]?=some y:=by
 induction fs generalizing k with
 |nil=>simp at hk
 |cons g fs ih=>
  rw[Zcv];have hg:=hc g (by simp);cases k with
  |zero=>
   simp at hk;subst hk;have:=(Zac.1 hj).1;rw[Zaj (by omega)];simpa using hj
  |succ k=>
   simp at hk;rw[Zam (by rw[Nat.add_mul];omega),hg];have:=ih (fun y hy=>hc y (by simp[hy])) hk;rw[←this];congr 1;rw[Nat.add_mul];omega
def q7v(w:World)(v:Value):Prop:=∀b arr el fr,v.ownBlock=some b→w.heap[b]?=some (.cells arr el fr)→∀x∈arr.toList,x.oneCell'=true
theorem q8t{z:Array Value}{k:Nat}{x:Value}(h:x∈(Builtin.zeroCells z k).toList):x∈z.toList:=by
 unfold Builtin.zeroCells at h;simp only[Array.toList_map,Array.toList_range,Zat,Zcs]at h;obtain⟨i,hi,rfl⟩:=h
 have hz:0<z.size:=by rcases Nat.eq_zero_or_pos z.size with h|h;· rw[h]at hi;omega
                      ·exact h
 have:=Nat.mod_lt i hz;rw[getElem!_pos z (i % z.size) this];simp
theorem q7p(w:World)(t tx ty e el:TypeId)(i:TypeInfo)(z:Value)(ht:P.underlying t=some (.slice e))(hi:P.info? e=some i)(hz:i.zero=some z)(hzs:z.cells.size=i.size)
  (v:Value) (k:Nat) (xs:List Value) (hown:w.ownsRow 0 el i.size v k xs) (x:Value) (m:Nat) (news:List Value) (hs:Src P i.size tx x m news w)
  (h63:k+m≤maxLen) (hbytes:(k+m)*i.bytes≤140737488355328) (hm:m≠0) (ho:q7v w v) (hzo:∀x∈z.cells.toList,x.oneCell'=true):
  ∃v' w' el',(Builtin.append_ #[t,tx] ty #[v,x]).run P w=.ok v' w'∧w'.ownsRow 0 el' i.size v' (k+m) (xs++news)∧Grow w w' v v' (k*i.size)∧q7v w' v':=by
 have hsmall:k+m≤9223372036854775807:=by simp only[maxLen]at h63;omega
 have hlen:(xs++news).length=(k+m)*i.size:=by rw[Zad,hown.1,hs.newsLen,Nat.add_mul]
 have hxs:∀x∈xs,x.oneCell'=true:=by
  rcases hown.2 with⟨_,rfl⟩|⟨g,cap,cur,rfl,hbg,hg,hnc,hcm,hcs,htake⟩
  ·have:xs=[]:=Zbl (by simpa using hown.1);subst this;simp
  ·intro x hx;rw[←htake]at hx;exact ho g cur _ _ rfl hg x (Zbk hx)
 have grown:∀(old:Nat),old<k+m→
   (w.drew.alloc (.cells ((xs++news).toArray++Builtin.zeroCells z.cells (grownCap w (k+m) old e-(k+m))) e)).ownsRow 0 e i.size
     (.slice (some ⟨w.heap.size,0,none⟩) (k+m) (grownCap w (k+m) old e)) (k+m) (xs++news)∧
   Grow w (w.drew.alloc (.cells ((xs++news).toArray++Builtin.zeroCells z.cells (grownCap w (k+m) old e-(k+m))) e)) v (.slice (some ⟨w.heap.size,0,none⟩) (k+m) (grownCap w (k+m) old e)) (k*i.size)∧
   q7v (w.drew.alloc (.cells ((xs++news).toArray++Builtin.zeroCells z.cells (grownCap w (k+m) old e-(k+m))) e)) (.slice (some ⟨w.heap.size,0,none⟩) (k+m) (grownCap w (k+m) old e)):=by
  intro old hold;have hge:=grownCap_ge w (k+m) old e;have hcm:grownCap w (k+m) old e≤maxLen:=grownCap_le_maxLen w (k+m) old e h63;have hnew:(w.drew.alloc (.cells ((xs++news).toArray++Builtin.zeroCells z.cells (grownCap w (k+m) old e-(k+m))) e)).heap[w.heap.size]?=_:=q1x w.drew _;refine⟨⟨hlen,.inr ⟨w.heap.size,_,_,rfl,Zay _,hnew,hge,hcm,?_,?_⟩⟩,⟨by simp,fun b hb _=>q11 w.drew _ hb,fun b hb j _=>?_,.inr ⟨_,rfl,Zak _⟩,rfl,rfl,rfl⟩,?_⟩
  ·simp only[Array.size_append,List.size_toArray,size_zeroCells,hzs,hlen,←Nat.add_mul];congr 1
   omega
  ·simp only[Array.toList_append];rw[←hlen];exact Zdj
  ·have hlt:=hown.lt b hb;simp only[World.cell?,at_];rw[q11 w.drew _ hlt.2];rfl
  ·intro b arr el' fr hb hh x hx;simp only[Value.ownBlock,Zas]at hb;subst hb;rw[hnew]at hh;cases hh;simp only[Array.toList_append,Zaz]at hx;rcases hx with(hx|hx)|hx
   ·exact hxs x hx
   ·exact hs.one x hx
   ·exact hzo x (q8t hx)
 rcases hown.2 with⟨rfl,rfl⟩|⟨g,cap,cur,rfl,hbg,hg,hnc,hcm,hcs,htake⟩
 ·have hx:xs=[]:=Zbl (by simpa using hown.1);subst hx;have hr:=run_append_grow_src (P:=P) w t tx ty e i z ht hi hz none 0 0 [] (run_firstCells_none w.drew i.size 0 0 0) x m news hs (by omega) (by omega) (growslice_fits (by omega) hbytes);have hgr:=grown 0 (by omega);simp only[Zbg,Zbj]at hgr hr ⊢;exact⟨_,_,_,hr,hgr.1,hgr.2.1,hgr.2.2⟩
 ·by_cases hroom:k+m≤cap
  ·have hfit:k*i.size+0+news.length≤cur.size:=by rw[hs.newsLen,hcs,Zdg,←Nat.add_mul];exact Zby _ hroom
   have hst:=run_storeCells_at P g (k*i.size) el news 0 cur w hg hfit hs.one;simp only[Zdg]at hst;have hr:(Builtin.append_ #[t,tx] ty #[.slice (some ⟨g,0,none⟩) k cap,x]).run P w=.ok (.slice (some ⟨g,0,none⟩) (k+m) cap) (w.setRow g (cur.toList.take (k*i.size)++news++cur.toList.drop (k*i.size+news.length)).toArray):=by
    rcases hs.kind with⟨e',hk⟩|hk<;>simp[Builtin.append_,run_underlying ht,run_underlying hk,sizeOf,typeInfo,hi,hs.len,hroom,hs.cells,Addr.add_lit,hst]
   have hheap:=setRow_heap w g cur (cur.toList.take (k*i.size)++news++cur.toList.drop (k*i.size+news.length)).toArray el _ hg;refine⟨_,_,_,hr,⟨hlen,.inr ⟨g,cap,_,rfl,Zay _,hheap,hroom,hcm,?_,?_⟩⟩,⟨by simp,fun b _ hb=>setRow_other w g b _ (fun e=>hb (by simp[Value.ownBlock,e])),fun b hb j hj=>?_,.inl rfl,rfl,rfl,rfl⟩,?_⟩
   ·simp only[List.size_toArray,Zad,Zaw,Zau,Array.length_toList];omega
   ·rw[htake,←hlen];exact Zdj
   ·simp[Value.ownBlock]at hb;subst hb;simp only[World.cell?,at_,hheap,hg];have h1:(cur.toList.take (k*i.size)).length=k*i.size:=by rw[htake];exact hown.1
    simp only[Zbu,Zao,if_false,List.getElem?_toArray,List.append_assoc];rw[Zaj (by omega),Zbc,if_pos hj];simp
   ·intro b arr el' fr hb hh y hy;simp only[Value.ownBlock,Zas]at hb;subst hb;rw[hheap]at hh;cases hh;simp only[Zaz]at hy;rcases hy with(hy|hy)|hy
    ·exact ho g cur _ _ rfl hg y (Zbk hy)
    ·exact hs.one y hy
    ·exact ho g cur _ _ rfl hg y (Zbv hy)
  ·have holds:(Builtin.firstCells i.size k (.slice (some ⟨g,0,none⟩) k cap)).run P w.drew=.ok xs.toArray w.drew:=
    run_firstCells_some w.drew i.size k ⟨g,0,none⟩ k cap xs hown.1 (hown.cells (g:=g) rfl)
   have hr:=run_append_grow_src (P:=P) w t tx ty e i z ht hi hz (some ⟨g,0,none⟩) k cap xs holds x m news hs (by omega) (by omega) (growslice_fits (by omega) hbytes);have hgr:=grown cap (by omega);exact⟨_,_,_,hr,hgr.1,hgr.2.1,hgr.2.2⟩
def j3a(G:q0s)(σ:St)(d:Nat)(v:Value):Prop:=v=.slice none 0 0∨∃o k c,σ.obj (.l d)=some o∧v=.slice (some (at_ (G.b (.l d)) 0)) k c
theorem SR.j9E(h:SR E n G σ ts w)(d:Nat){v v':Value}{w':World}{e sz m:Nat}{xs':List Value}{fs:List D}(hv:j3a G σ d v)
  (hg:Grow w w' v v' 0) (hown:w'.ownsRow 0 e sz v' m xs') (hm:m≠0) (hone:q7v w' v') (hfl:fs.length=m) (hfs:∀y∈fs,y.cells.length=sz)
  (hrd:∀(i:Nat) (y:D),(fs.flatMap D.cells)[i]?=some y→RD G.f w' y (xs'.getD i undef)):
  ∃b c,m≤c∧c≤maxLen∧v'=.slice (some (at_ b 0)) m c∧SR E n { G with b:=updf G.b (.l d) b } ((σ.drop d).setObj (.l d) (.cells (rowC sz fs c))) ts w':=by
 rcases hown.2 with⟨_,h0⟩|⟨g,cap,cur,rfl,hbg,hgg,hnc,hcm,hcs,htake⟩
 ·exact absurd h0 hm
 refine⟨g,cap,hnc,hcm,rfl,?_⟩;have hd:=h.drop d;have hobj1:∀r o,St.obj { σ.drop d with L:=adel (σ.drop d).L d } r=some o→r≠.l d∧(σ.drop d).obj r=some o:=fun r o hr=>by
  cases r with
  |l t=>
   simp only[St.obj,q0O]at hr;split at hr
   ·cases hr
   ·rename_i hne;exact⟨fun e=>hne (by injection e with e;exact e.symm),hr⟩
  |x k=>exact⟨by simp,hr⟩
 have h1:SR E n G { σ.drop d with L:=adel (σ.drop d).L d } ts w:=hd.wk ⟨fun _ _ h=>h,fun r o hr=>(hobj1 r o hr).2⟩;have old:∀b,v.ownBlock=some b→∃o,σ.obj (.l d)=some o∧b=G.b (.l d):=fun b hb=>by
  rcases hv with rfl|⟨o,k,c,h2,rfl⟩
  ·cases hb
  ·simp[Value.ownBlock,at_]at hb;exact⟨o,h2,hb.symm⟩
 have hX:∀b,v.ownBlock=some b→(∀r o,St.obj { σ.drop d with L:=adel (σ.drop d).L d } r=some o→G.b r≠b)∧(∀q v p,G.lam q=some (v,p)→v.ownBlock≠some b)∧(E.w0.heap.size≤b∨E.M b):=fun b hb=>by
  obtain⟨o,ho,rfl⟩:=old b hb;refine⟨fun r o' hr e=>?_,fun q vq p hq hvb=>?_,h.newObj _ _ ho⟩
  ·obtain⟨h2,h3⟩:=hobj1 r o' hr;obtain⟨o2,h4,_⟩:=σ.q56 d r h3;exact h2 (h.inj _ _ _ _ h4 ho e)
  ·obtain⟨e1,s1⟩:=p;exact h.lamObj q vq e1 s1 _ hq hvb _ _ ho rfl
 have hf0:∀b,v.ownBlock=some b→G.f b=0:=fun b hb=>by
  obtain⟨o,ho,rfl⟩:=old b hb;exact h.objf _ _ ho
 have hext:Ext G.f w G.f w':=⟨hg.size,fun _=>Zak _,fun b i hi=>by
  by_cases hb:v.ownBlock=some b
  ·rw[hf0 b hb]at hi;omega
  ·have hlt:b<w.heap.size:=by
    rcases Zbi b w.heap.size with h2|h2
    ·exact h2
    ·rw[h.top b h2]at hi;omega
   simp only[World.cell?,at_];rw[hg.block b hlt hb],fun b es c hb hm=>by rw[hg.block b (Zar.1 hm).1 (fun e=>by rw[hf0 b e]at hb;omega)];exact hm⟩
 have h2:SR E n { G with f:=G.f } { σ.drop d with L:=adel (σ.drop d).L d } ts w':=h1.z0m (fun b=>v.ownBlock=some b) hX hext (fun b hb hx=>⟨hg.block b hb hx,rfl⟩) (fun b hb=>h.top b (Zbr hg.size hb)) hg.os hg.tape hg.output;have hgn:v.ownBlock=some g∨w.heap.size≤g:=by
  rcases hg.own with h3|⟨b,h3,h4⟩
  ·exact .inl h3.symm
  ·simp[Value.ownBlock]at h3;subst h3;exact .inr h4
 have h3:=h2.z6v d g (.cells (rowC sz fs cap))
  (fun t x hx=>by
    have hx:aget (σ.drop d).ρ t=some x:=hx;simp only[St.drop,q0G]at hx;cases hy:aget σ.ρ t with
    |none=>simp[hy]at hx
    |some y=>simp[hy]at hx;subst hx;exact AV.q2Q _ _)
  (fun t cs x hx hm=>by
    have hx:aget (adel (σ.drop d).L d) t=some (.cells cs):=hx;simp only[q0O]at hx;split at hx
    ·cases hx
    ·simp only[St.drop,q0G]at hx;cases hy:aget σ.L t with
     |none=>simp[hy]at hx
     |some o=>
      cases o with
      |siter s p=>simp[hy,q0P]at hx
      |miter l c=>simp[hy,q0P]at hx
      |mobj l c=>simp[hy,q0P]at hx
      |cells cs0=>
       simp[hy,q0P]at hx;subst hx;obtain⟨y,_,rfl⟩:=Zat.1 hm;exact AV.q2Q _ _)
  (by rcases hgn with h4|h4
      ·exact hf0 g h4
      ·exact h.top g h4)
  (fun r o hr=>by
    rcases hgn with h4|h4
    ·exact(hX g h4).1 r o hr
    ·have:=(h1.obj r o hr).lt;exact fun e=>by rw[e]at this;omega)
  (fun q vq p hq=>by
    rcases hgn with h4|h4
    ·exact(hX g h4).2.1 q vq p hq
    ·intro hb;obtain⟨e1,s1⟩:=p;have:=(h.lam q vq e1 s1 hq).lt hb;omega)
  (by rcases hgn with h4|h4
      ·exact(hX g h4).2.2
      ·exact .inl (Zbr h.ext.size h4))
  (by
    have hl:=q9P hfs (c:=cap) (by omega);refine⟨cur,e,by show w'.heap[updf G.b (.l d) g (.l d)]?=_;rw[q03];exact hgg,by rw[hcs,hl],fun i x hx=>?_⟩;have hi:i<cur.size:=by rw[hcs,←hl];exact(Zac.1 hx).1
    have hmem:cur.getD i undef∈cur.toList:=by simp[hi]
    have h1c:=hone g cur e _ rfl hgg _ hmem;unfold rowC at hx
    by_cases hlt:i<(fs.flatMap D.cells).length
    ·rw[Zaj (by simpa using hlt),Zan]at hx;cases hy:(fs.flatMap D.cells)[i]? with
     |none=>simp[hy]at hx
     |some y=>
      simp[hy]at hx;subst hx;have hcx:cur.getD i undef=xs'.getD i undef:=by
       rw[q1f hfs,hfl]at hlt;rw[←htake,List.getD_eq_getElem?_getD,Zbc,if_pos hlt];simp
      exact⟨.d _ _ (by rw[hcx];exact hrd i y hy),h1c,(fun q hq=>by cases hq),(fun e he=>by cases he)⟩
    ·rw[Zam (by simpa using hlt)]at hx;have:x=.junk:=(List.mem_replicate.1 (Zaf hx)).2;subst this;exact⟨.junk _,h1c,(fun q hq=>by cases hq),(fun e he=>by cases he)⟩)
 refine h3.congr rfl (fun r=>?_);simp only[St.q1s];split
 ·rfl
 ·rename_i hne;cases r with
  |l t=>
   have:d≠t:=fun e=>hne (by rw[e])
   simp only[St.obj,q0O,if_neg this]
  |x k=>rfl
def z2l(P:Program)(e:TypeId):Bool:=
 match P.info? e with
 |some ti=>match ti.zero with
  |some z=>z.cells.size==ti.size&&z.cells.all fun x=>x.oneCell'
  |none=>false
 |none=>false
theorem z0U{e:TypeId}(h:z2l P e=true):∃i z,P.info? e=some i∧i.zero=some z∧z.cells.size=i.size∧∀x∈z.cells.toList,x.oneCell'=true:=by
 unfold z2l at h;split at h
 ·rename_i ti hi;split at h
  ·rename_i z hz;simp only[Zah,beq_iff_eq,Array.all_eq_true_iff_forall_mem]at h;exact⟨ti,z,hi,hz,h.1,fun x hx=>h.2 x (by simpa using hx)⟩
  ·cases h
 ·cases h
theorem z55{t e sz by_:Nat}(h:q45 P t=some (e,sz,by_)):∃i,P.underlying t=some (.slice e)∧P.info? e=some i∧i.size=sz∧i.bytes=by_:=by
 unfold q45 at h;split at h
 ·rename_i e0 ht;split at h
  ·rename_i ti hi;simp only[Zas,Prod.mk.injEq]at h;obtain⟨rfl,rfl,rfl⟩:=h;exact⟨ti,ht,hi,rfl,rfl⟩
  ·cases h
 ·cases h
theorem j1f{t:TypeId}(h:isSl P t=true):∃e,P.underlying t=some (.slice e):=by
 unfold isSl at h;split at h
 ·exact⟨_,by assumption⟩
 ·cases h
theorem SR.j7C(h:SR E n G σ ts w){d sz c:Nat}{fs:List D}(ho:σ.obj (.l d)=some (.cells (rowC sz fs c)))(hfs:∀y∈fs,y.cells.length=sz)(hc:fs.length≤c∧c≤maxLen):
  ∃el xs,w.ownsRow 0 el sz (.slice (some (at_ (G.b (.l d)) 0)) fs.length c) fs.length xs∧q7v w (.slice (some (at_ (G.b (.l d)) 0)) fs.length c)∧∀(i:Nat) (y:D),(fs.flatMap D.cells)[i]?=some y→RD G.f w y (xs.getD i undef):=by
 obtain⟨arr,el,h1,h2,h3⟩:=h.obj _ _ ho;have hl:=q9P hfs hc.1;rw[hl]at h2;have hle:fs.length*sz≤c*sz:=Zby _ hc.1;refine⟨el,arr.toList.take (fs.length*sz),⟨by rw[Zaw,show arr.toList.length=c*sz by simpa using h2];exact Nat.min_eq_left hle,.inr ⟨G.b (.l d),c,arr,rfl,Zay _,h1,hc.1,hc.2,h2,rfl⟩⟩,fun b a2 el2 fr hb hh x hx=>?_,fun i y hy=>?_⟩
 ·simp[Value.ownBlock,at_]at hb;subst hb;rw[h1]at hh;cases hh;obtain⟨i,hi,rfl⟩:=List.mem_iff_getElem.1 hx;have hi':i<arr.size:=by simpa using hi
  have:=(h3 i ((rowC sz fs c)[i]'(by rw[hl,←h2];exact hi')) (Zal _)).2.1;simpa[hi']using this
 ·have hi:i<fs.length*sz:=by rw[←q1f hfs];exact(Zac.1 hy).1
  have hx:(rowC sz fs c)[i]?=some (.d y):=by
   rw[rowC,Zaj (by rw[Zbn,q1f hfs];exact hi),Zan,hy];rfl
  have:=(h3 i _ hx).1.dinv;rw[List.getD_eq_getElem?_getD,Zbc,if_pos hi];simpa using this
theorem z6i{o:Oper}{ts:List TypeId}{os:List Operand}(h:q2w P o=some (.bi .append ts,os)):∃(al:Array Operand) (tt:Array TypeId),o.op=.call { callee:=.builtin .append,args:=al,argTypes:=tt }∧tt.toList=ts∧os=al.toList:=by
 unfold q2w at h;split at h
 ·split at h
  ·split at h<;>cases h
  ·cases h
 ·rename_i b al tt ho;split at h
  ·split at h
   ·cases h;exact⟨al,tt,ho,rfl,rfl⟩
   ·cases h
  ·split at h
   ·cases h
   ·cases h;exact⟨al,tt,ho,rfl,rfl⟩
 all_goals first|(cases h;done)|(split at h<;>cases h)
theorem j6z{S:Operand}(hX:q1o S=some (.k (.d (.list [])))):S=.const (.slice none 0 0):=by
 cases S with
 |tmp t=>simp[q1o]at hX
 |func f=>simp[q1o]at hX
 |global g=>simp[q1o]at hX
 |const v=>
  have hc:cst v=some (.list []):=by
   simp only[q1o]at hX;cases hc:cst v with
   |none=>simp[hc]at hX
   |some d=>simp[hc]at hX;rw[hX]
  unfold cst at hc;split at hc
  ·obtain⟨y,_,h2⟩:=Zbf.1 hc;cases h2
  ·obtain⟨y,_,h2⟩:=Zbf.1 hc;cases h2
  ·rw[z6z hc]
theorem j4l{S:Operand}{s:LX}(h:q1o S=some s)(hn:s≠.k (.d (.list []))):z0f S=some s:=by
 unfold z0f;split
 ·simp[q1o,cst,cst1]at h;exact absurd h.symm hn
 ·exact h
theorem q0e.j7n{d t tx e sz by_ c:Nat}{s x:LX}{N:St→Prop}{σ:St}{fs ys:List D}(hsl:q45 P t=some (e,sz,by_))(hz:z2l P e=true)(htx:isSl P tx=true)
  (hs:((σ.ev s=.ns∨s=.k (.d (.list [])))∧fs=[])∨(σ.ev s=.rs (.l d) fs.length c∧σ.obj (.l d)=some (.cells (rowC sz fs c))∧fs.length≤c∧c≤maxLen))
  (hx:σ.ev x=.d (.list ys)) (hys:ys≠[]) (hyc:∀y∈ys,y.cells.length=sz) (hfs:∀y∈fs,y.cells.length=sz) (hb:fs.length+ys.length≤maxLen∧(fs.length+ys.length)*by_≤140737488355328)
  (hK:∀c',fs.length+ys.length≤c'→c'≤maxLen→N (((σ.drop d).setObj (.l d) (.cells (rowC sz (fs++ys) c'))).put d (.rs (.l d) (fs.length+ys.length) c'))):
  q0e P (some d) (.bi .append [t,tx]) [s,x] N σ:=by
 intro E _ n G a w o os hp hl hdst hdn h;obtain⟨al,tt,hop,htt,rfl⟩:=z6i hp;obtain⟨S,X,hS,hX,he⟩:∃S X,al.toList=[S,X]∧q1o S=some s∧q1o X=some x:=by
  match has:al.toList,hl with
  |[S,X],hl=>
   obtain⟨u,v,h1,h2,h3⟩:=z4a hl;cases h3;exact⟨S,X,rfl,h1,h2⟩
  |[],hl=>simp[q2x]at hl
  |[S],hl=>simp only[q2x]at hl;split at hl<;>simp at hl;rename_i h2;cases h2;simp at hl
  |S::X::Y::r,hl=>
   simp only[q2x]at hl;split at hl
   ·rename_i h1 h2;split at h2
    ·rename_i h3 h4;split at h4
     ·cases h4;cases h2;simp at hl
     ·cases h4
    ·cases h2
   ·cases hl
 have has:al = #[S,X]:=by apply Zcl;exact hS
 have htt':tt = #[t,tx]:=by apply Zcl;exact htt
 subst has;subst htt';obtain⟨i,ht,hi,rfl,rfl⟩:=z55 hsl;obtain⟨i',z,hi',hz1,hz2,hz3⟩:=z0U hz;rw[hi]at hi';cases hi';obtain⟨e',hk⟩:=j1f htx;have rs:=h.ev hX;have rx:=h.ev he;rw[hx]at rx;obtain⟨news,hsd⟩:=SrcD.ofList (P:=P) hk rx.dinv hyc;have hyl:0<ys.length:=List.length_pos_iff.2 hys
 -- the row al it is owned
 have hrow:∃el xs,w.ownsRow 0 el i.size (a.eval S) fs.length xs∧q7v w (a.eval S)∧(∀(j:Nat) (y:D),(fs.flatMap D.cells)[j]?=some y→RD G.f w y (xs.getD j undef))∧j3a G σ d (a.eval S):=by
  rcases hs with⟨hs|hs,rfl⟩|⟨hs,ho,hc1,hc2⟩
  rotate_left
  ·subst hs;have hv:a.eval S=.slice none 0 0:=by
    rw[j6z hX];rfl
   rw[hv];exact⟨e,[],World.ownsRow_nil w 0 e i.size,(fun b _ _ _ hb=>by cases hb),(fun j y hy=>by simp at hy),.inl rfl⟩
  rotate_left
  ·rw[hs]at rs;generalize hv:a.eval S=v at rs;cases rs;exact⟨e,[],World.ownsRow_nil w 0 e i.size,(fun b _ _ _ hb=>by cases hb),(fun j y hy=>by simp at hy),.inl rfl⟩
  ·rw[hs]at rs;generalize hv:a.eval S=v at rs;cases rs;obtain⟨el,xs,g1,g2,g3⟩:=h.j7C ho hfs ⟨hc1,hc2⟩;exact⟨el,xs,g1,g2,g3,.inr ⟨_,_,_,ho,rfl⟩⟩
 obtain⟨el,xs,g1,g2,g3,g4⟩:=hrow;obtain⟨v',w',el',r1,r2,r3,r4⟩:=q7p w t tx o.type e el i z ht hi hz1 hz2 (a.eval S) fs.length xs g1 (a.eval X) ys.length news hsd.src hb.1 hb.2 (by omega) g2 hz3;have hr3:Grow w w' (a.eval S) v' 0:={ r3 with cells:=fun b hb j hj=>by omega };have hfy:∀y∈fs++ys,y.cells.length=i.size:=fun y hy=>by
  rcases Zaz.1 hy with hy|hy
  ·exact hfs y hy
  ·exact hyc y hy
 have hxl:xs.length=fs.length*i.size:=g1.1;have hf0:∀b,(a.eval S).ownBlock=some b→G.f b=0:=fun b hb=>by
  rcases g4 with hn|⟨o,k,c,h2,hn⟩
  ·rw[hn]at hb;cases hb
  ·rw[hn]at hb;simp[Value.ownBlock,at_]at hb;subst hb;exact h.objf _ _ h2
 have hext:Ext G.f w G.f w':=⟨r3.size,fun _=>Zak _,fun b j hj=>by
  by_cases hb:(a.eval S).ownBlock=some b
  ·rw[hf0 b hb]at hj;omega
  ·have hlt:b<w.heap.size:=by
    rcases Zbi b w.heap.size with h2|h2
    ·exact h2
    ·rw[h.top b h2]at hj;omega
   simp only[World.cell?,at_];rw[r3.block b hlt hb],fun b es c hb hm=>by rw[r3.block b (Zar.1 hm).1 (fun e=>by rw[hf0 b e]at hb;omega)];exact hm⟩
 have hrd:∀(j:Nat) (y:D),((fs++ys).flatMap D.cells)[j]?=some y→RD G.f w' y ((xs++news).getD j undef):=fun j y hy=>by
  rw[List.flatMap_append]at hy;have hfl:=q1f hfs
  by_cases hj:j<fs.length*i.size
  ·rw[Zaj (by omega)]at hy;rw[List.getD_eq_getElem?_getD,Zaj (by omega),←List.getD_eq_getElem?_getD];exact(g3 j y hy).ext hext
  ·rw[Zam (by omega),hfl]at hy;rw[List.getD_eq_getElem?_getD,Zam (by omega),←List.getD_eq_getElem?_getD,hxl];obtain⟨k,jj,f,h1,h2,h3,h4⟩:=j1c hyc hy;rw[h3];exact(hsd.rd k f jj y h1 h2).ext hext
 obtain⟨b,c',q1,q2,rfl,q3⟩:=h.j9E d g4 hr3 r2 (by omega) r4 (by simp) hfy hrd;refine .inl ⟨.slice (some (at_ b 0)) (fs.length+ys.length) c',w',?_,{ G with b:=updf G.b (.l d) b },_,⟨trivial,hK c' q1 q2⟩,?_⟩
 ·simp only[execOp,hop,resolve,invoke,builtin,Sem.run_bind,Sem.run_pure,Result.andThen_ok,List.map_toArray,Zbo,Zbs];rw[r1];rfl
 ·have hput:=q3.put (s:=d) (x:=.rs (.l d) (fs.length+ys.length) c') (v:=.slice (some (at_ b 0)) (fs.length+ys.length) c') (by
   have:=AVR.rs (G:={ G with b:=updf G.b (.l d) b }) (w:=w') (.l d) (fs.length+ys.length) c';simpa[q03]using this) (by simpa[q4p]using hdn)
  simpa[Act.put]using hput
theorem q0e.j85{d t tx e sz by_:Nat}{s x:LX}{N:St→Prop}{σ σ':St}(hsl:q45 P t=some (e,sz,by_))(hz:q3g P e=true)(htx:isSl P tx=true)(hap:appS σ d e sz by_ false (σ.ev s) (σ.ev x)=some σ')(hK:N σ'):
  q0e P (some d) (.bi .append [t,tx]) [s,x] N σ:=by
 intro E _ n G a w o os hp hl hdst hdn h;obtain⟨al,tt,hop,htt,rfl⟩:=z6i hp;obtain⟨e',hk⟩:=j1f htx;have hla:q2m P al.toList tt.toList=some (.app e sz by_ false s x):=by
  rw[htt];match has:al.toList,hl with
  |[S,X],hl=>
   obtain⟨u,v,h1,h2,h3⟩:=z4a hl;cases h3;have h1':=j4l h1 (fun e=>by rw[e]at hap;simp[appS,St.ev]at hap);simp only[q2m,z13,hsl,h1',h2,hz,if_true,hk]
  |[],hl=>simp[q2x]at hl
  |[S],hl=>simp only[q2x]at hl;split at hl<;>simp at hl;rename_i h2;cases h2;simp at hl
  |S::X::Y::r,hl=>
   simp only[q2x]at hl;split at hl
   ·rename_i h1 h2;split at h2
    ·rename_i h3 h4;split at h4
     ·cases h4;cases h2;simp at hl
     ·cases h4
    ·cases h2
   ·cases hl
 obtain⟨nx,v,w',G',r1,r2,r3⟩:=z7I h hdst (by simpa[q4p]using hdn) hop hla (by simpa[q90]using hap);rcases r2 with rfl|⟨rfl,rfl⟩
 ·exact .inl ⟨v,w',r1,G',σ',⟨trivial,hK⟩,hdst▸r3⟩
 ·exact .inr (.inl ⟨w',r1,G',σ',⟨trivial,hK⟩,hdst▸r3⟩)
end Go.Av
/- Functions that hand back a row that may be written; calls that take one. -/
namespace Go.Av
variable {E:Entry} {n:Nat} {G:q0s} {σ:St} {ts:Array Value} {w:World} {P:Program} [Inv P]
inductive XR where
 |nul (xs:List AV)
 |row (xs:List AV) (sz:Nat) (fs:List D) (c:Nat)
def AV.dns:AV→Bool
 |.d _|.ns=>true
 |_=>false
def AV.den1:AV→D
 |.d x=>x
 |_=>.list []
def XR.avAt(k:Nat):XR→AV
 |.nul xs=>.sx (xs++[.ns])
 |.row xs _ fs c=>.sx (xs++[.rs (.l k) fs.length c])
def XR.objs:XR→List (Nat×AObj)
 |.nul _=>[]
 |.row _ sz fs c=>[(0,.cells (rowC sz fs c))]
def XR.ok:XR→Prop
 |.nul xs=>∀x∈xs,x.dns=true
 |.row xs sz fs c=>(∀x∈xs,x.dns=true)∧(∀y∈fs,y.cells.length=sz)∧fs.length≤c∧c≤maxLen
def XR.data:XR→D
 |.nul xs=>.agg (xs.map AV.den1++[.list []])
 |.row xs _ fs _=>.agg (xs.map AV.den1++[.list fs])
def z79(f:Nat→Nat)(w:World):Entry:={ w0:=w,f0:=f,M:=fun _=>False,b0:=fun _=>0 }
def z9C(P:Program)[Inv P](fn:FuncId)(args:List D)(Post:XR→Prop):Prop:=
 ∀(f:Nat→Nat) (w:World) (vs:Array Value),Inv.inv P f w→(∀b,w.heap.size≤b→f b=0)→vs.size=args.length→(∀(i:Nat) (y:D),args[i]?=some y→RD f w y (vs.getD i undef))→
  Calls P fn vs w fun e w'=>∃r G' v,Post r∧r.ok∧e=.returned v∧SR (z79 f w) 1 G' ⟨[(0,r.avAt 0)],r.objs,[]⟩ #[v] w'
/-! ### The cells of a row do not hang on names -/
theorem AVR.j8H{G':q0s}{x:AV}{v:Value}(hf:G'.f=G.f)(hx:(∃y,x=.d y)∨x=.junk)(h:AVR G w x v):AVR G' w x v:=by
 rcases hx with⟨y,rfl⟩|rfl
 ·exact .d _ _ (hf▸h.dinv)
 ·exact .junk _
theorem j4W{sz c:Nat}{fs:List D}{x:AV}(h:x∈rowC sz fs c):(∃y,x=.d y)∨x=.junk:=by
 unfold rowC at h;rcases Zaz.1 h with h|h
 ·obtain⟨y,_,rfl⟩:=Zat.1 h;exact .inl ⟨y,rfl⟩
 ·exact .inr (List.mem_replicate.1 h).2
theorem ObjR.j4Z{G':q0s}{r r':Ref}{sz c:Nat}{fs:List D}(hf:G'.f=G.f)(hb:G'.b r'=G.b r)(h:ObjR G w r (.cells (rowC sz fs c))):ObjR G' w r' (.cells (rowC sz fs c)):=by
 obtain⟨arr,el,h1,h2,h3⟩:=h;refine⟨arr,el,by rw[hb];exact h1,h2,fun i x hx=>?_⟩;have hm:=j4W (Zaf hx);obtain⟨g1,g2,_,_⟩:=h3 i x hx;refine⟨g1.j8H hf hm,g2,fun q hq=>?_,fun e he=>?_⟩
 ·rcases hm with⟨y,rfl⟩|rfl<;>cases hq
 ·rcases hm with⟨y,rfl⟩|rfl<;>cases he
theorem AVR.j7Y{G':q0s}{x:AV}{v:Value}(hf:G'.f=G.f)(hx:x.dns=true)(h:AVR G w x v):AVR G' w x v:=by
 cases x<;>simp[AV.dns]at hx
 ·exact .d _ _ (hf▸h.dinv)
 ·cases h;exact .ns
theorem AVR.den1{x:AV}{v:Value}(hx:x.dns=true)(h:AVR G w x v):RD G.f w x.den1 v:=by
 cases x<;>simp[AV.dns]at hx
 ·exact h.dinv
 ·cases h;exact .nils
theorem AVR.j7E{G':q0s}{xs:List AV}{y y':AV}{v:Value}(hf:G'.f=G.f)(hxs:∀x∈xs,x.dns=true)(hs:y'.simple=true)(hy:∀u,AVR G w y u→AVR G' w y' u)(h:AVR G w (.sx (xs++[y])) v):AVR G' w (.sx (xs++[y'])) v:=by
 cases h with
 |sx _ vs hl hsim ho hh=>
  refine .sx _ vs (by simpa using hl) (fun x hx=>?_) (fun i hi=>ho i (by simpa using hi)) (fun i x hi=>?_)
  ·rcases Zaz.1 hx with hx|hx
   ·have:=hxs x hx;cases x<;>simp[AV.dns]at this<;>rfl
   ·simp at hx;subst hx;exact hs
  ·by_cases hlt:i<xs.length
   ·rw[Zaj hlt]at hi;exact(hh i x (by rw[Zaj hlt];exact hi)).j7Y hf (hxs x (Zaf hi))
   ·rw[Zam (by omega)]at hi;have hi0:i-xs.length=0:=by
     have:=(Zac.1 hi).1;simpa using this
    rw[hi0]at hi;simp at hi;subst hi;exact hy _ (hh i y (by rw[Zam (by omega),hi0];rfl))
theorem AVR.j7F{G':q0s}{r r':Ref}{k c:Nat}{xs:List AV}{v:Value}(hf:G'.f=G.f)(hxs:∀x∈xs,x.dns=true)(hb:G'.b r'=G.b r)(h:AVR G w (.sx (xs++[.rs r k c])) v):AVR G' w (.sx (xs++[.rs r' k c])) v:=
 h.j7E hf hxs rfl fun u hu=>by cases hu;rw[←hb];exact .rs r' k c
theorem AVR.j9N{G':q0s}{xs:List AV}{v:Value}(hf:G'.f=G.f)(hxs:∀x∈xs,x.dns=true)(h:AVR G w (.sx (xs++[.ns])) v):AVR G' w (.sx (xs++[.ns])) v:=
 h.j7E hf hxs rfl fun u hu=>by cases hu;exact .ns
theorem j5g{f:Nat→Nat}{xs:List AV}{y:AV}{z:D}{v:Value}(hxs:∀x∈xs,x.dns=true)(hf:∀x u,RD G.f w x u→RD f w x u)(hy:∀u,AVR G w y u→RD f w z u)(h:AVR G w (.sx (xs++[y])) v):RD f w (.agg (xs.map AV.den1++[z])) v:=by
 cases h with
 |sx _ vs hl hsim ho hh=>
  have hc:∀i e,(xs.map AV.den1++[z])[i]?=some e→RD f w e (vs.getD i undef):=fun i e hi=>by
   by_cases hlt:i<xs.length
   ·rw[Zaj (by simpa using hlt),Zan]at hi;obtain⟨x,hx,rfl⟩:=Zbf.1 hi;exact hf _ _ ((hh i x (by rw[Zaj hlt];exact hx)).den1 (hxs x (Zaf hx)))
   ·rw[Zam (by simpa using hlt)]at hi;have hi0:i-(xs.map AV.den1).length=0:=by
     have:=(Zac.1 hi).1;simpa using this
    rw[hi0]at hi;simp at hi;subst hi;exact hy _ (hh i y (by rw[Zam (by omega)];simp at hi0;simp[hi0]))
  refine .agg _ vs (by simpa using hl) (fun e he=>?_) hc;obtain⟨i,hi⟩:=Zbb he;exact(hc i e hi).z6h (ho i (by have:=(Zac.1 hi).1;simpa using this))
/-! ### Proving one -/
theorem j3r{x t:Nat}{d:TypeDesc}{m:Nat}{z:AV}{a:Act}(h:SR E n G σ a.tmps w)(hd:P.underlying t=some d)(hm:Program.sz P t=some m)(hz:fLd σ (aggT d) m (σ.get x)=some z):∃v,(q3M a (.cell x t)).run P w=.ok v w∧AVR G w z v:=by
 have hx:=h.get x;obtain⟨v,h1,h2⟩:=z9S h hd hm hx hz;refine⟨v,?_,h2⟩;simp only[Act.eval]at h1 hx;generalize hu0:a.tmps.getD x undef=u at h1 hx;have hu:∃ad,u=.pointer (some ad):=by
  unfold fLd at hz;split at hz
  ·rename_i r o he;rw[he]at hx;cases hx;exact⟨_,rfl⟩
  ·rename_i cs he;rw[he]at hx;obtain⟨b,o,rfl⟩:=hx.q4o;exact⟨_,rfl⟩
  ·rename_i cs he;rw[he]at hx;have hx:=hx.j0m;obtain⟨b,o,rfl⟩:=hx.q4o;exact⟨_,rfl⟩
  ·cases hz
 obtain⟨ad,rfl⟩:=hu;simp[Instr.loadAt,Instr.sureAddr]at h1;simp only[q3M,hu0,asAddr,Sem.run_bind,Sem.run_pure,Result.andThen_ok];exact h1
def retN(s m:Nat)(Post:XR→Prop):Exit→St→Prop
 |.normal,σ|.ret,σ=>∃r k,fLd σ true m (σ.get s)=some (r.avAt k)∧(∀xs sz fs c,r=.row xs sz fs c→aget σ.L k=some (.cells (rowC sz fs c)))∧r.ok∧Post r
 |_,_=>False
theorem SR.fin(h:SR E n G σ ts w){r:XR}{k:Nat}{v:Value}(hok:r.ok)(hr:AVR G w (r.avAt k) v)(ho:∀xs sz fs c,r=.row xs sz fs c→aget σ.L k=some (.cells (rowC sz fs c))):
  ∃G',SR E 1 G' ⟨[(0,r.avAt 0)],r.objs,[]⟩ #[v] w:=by
 cases r with
 |nul xs=>
  have hno:∀r o,St.obj ⟨[(0,(XR.nul xs).avAt 0)],(XR.nul xs).objs,[]⟩ r=some o→False:=fun r o ho=>by cases r<;>simp[St.obj,aget,XR.objs]at ho
  refine⟨{ G with lam:=fun _=>none },{ size:=rfl,slot:=fun s y hy=>?_,obj:=fun r o ho=>(hno r o ho).elim,objf:=fun r o ho=>(hno r o ho).elim,inj:=fun r _ o _ ho=>(hno r o ho).elim,lam:=fun _ _ _ _ h=>(by cases h),lamObj:=fun _ _ _ _ _ h=>(by cases h),lamInj:=fun _ _ _ _ _ _ _ h=>(by cases h),newObj:=fun r o ho=>(hno r o ho).elim,newLam:=fun _ _ _ _ _ h=>(by cases h),ext:=h.ext,fr:=h.fr,top:=h.top,ext0:=h.ext0,own0:=fun r cs x s ho=>(hno _ _ ho).elim,os:=h.os,tape:=h.tape,output:=h.output }⟩;simp only[aget]at hy
  split at hy
  ·rename_i e;subst e;cases hy;exact AVR.j9N (G:=G) rfl hok hr
  ·cases hy
 |row xs sz fs c=>
  have hk:σ.obj (.l k)=some (.cells (rowC sz fs c)):=ho xs sz fs c rfl;have hob:∀r o,St.obj ⟨[(0,(XR.row xs sz fs c).avAt 0)],(XR.row xs sz fs c).objs,[]⟩ r=some o→r=.l 0∧o=.cells (rowC sz fs c):=fun r o ho=>by
   cases r with
   |l t=>
    simp only[St.obj,XR.objs,aget]at ho;split at ho
    ·rename_i e;subst e;cases ho;exact⟨rfl,rfl⟩
    ·cases ho
   |x t=>simp[St.obj,aget]at ho
  refine⟨{ f:=G.f,b:=updf G.b (.l 0) (G.b (.l k)),lam:=fun _=>none },{ size:=rfl,slot:=fun s y hy=>?_,obj:=fun r o ho=>?_,objf:=fun r o ho=>?_,inj:=fun r r' o o' h1 h2 _=>?_,lam:=fun _ _ _ _ h=>(by cases h),lamObj:=fun _ _ _ _ _ h=>(by cases h),lamInj:=fun _ _ _ _ _ _ _ h=>(by cases h),newObj:=fun r o ho=>?_,newLam:=fun _ _ _ _ _ h=>(by cases h),ext:=h.ext,fr:=h.fr,top:=h.top,ext0:=fun r hx1=>?_,own0:=fun r cs x s ho=>?_,os:=h.os,tape:=h.tape,output:=h.output }⟩
  ·simp only[aget]at hy;split at hy
   ·rename_i e;subst e;cases hy;exact AVR.j7F (G:=G) rfl hok.1 (by simp) hr
   ·cases hy
  ·obtain⟨rfl,rfl⟩:=hob r o ho;exact ObjR.j4Z (G:=G) (r:=.l k) (r':=.l 0) rfl (by simp) (h.obj _ _ hk)
  ·obtain⟨rfl,rfl⟩:=hob r o ho;show G.f (updf G.b (.l 0) (G.b (.l k)) (.l 0))=0
   rw[q03];exact h.objf _ _ hk
  ·rw[(hob r o h1).1,(hob r' o' h2).1]
  ·obtain⟨rfl,rfl⟩:=hob r o ho;show _≤updf G.b (.l 0) (G.b (.l k)) (.l 0)∨E.M (updf G.b (.l 0) (G.b (.l k)) (.l 0))
   rw[q03];exact h.newObj _ _ hk
  ·show updf G.b (.l 0) (G.b (.l k)) (.x r)=_
   rw[q0J _ _ (by simp)];exact h.ext0 r hx1
  ·cases(hob _ _ ho).1
theorem j6x{f:FuncId}{fn:Func}{c:Code}{L:q0g}{args:List D}{s m:Nat}{Post:XR→Prop}(hf:P.funcs[f]?=some fn)(hb:fn.body=some c)(hL:q5y P fn.ntmps c=some L.strip)(hl:q1d P fn.results.toList=some [.cell s true m])(hn:args.length≤fn.ntmps)
  (h:LW P L (retN s m Post) ⟨z0D 0 args,[],[]⟩):z9C P f args Post:=by
 intro f0 w vs hI ht hsz hrd;refine calls_of_wp hf hb ?_
 haveI:HasInv P (z79 f0 w):=⟨hI,fun _ _ h=>h⟩
 let G0:q0s:={ f:=f0,b:=fun _=>0,lam:=fun _=>none }
 have h0:SR (z79 f0 w) fn.ntmps G0 ⟨z0D 0 args,[],[]⟩ (vs++Array.replicate (fn.ntmps-vs.size) undef) w:=by
  have hno:∀r o,St.obj ⟨z0D 0 args,[],[]⟩ r=some o→False:=fun r o ho=>by cases r<;>simp[St.obj,aget]at ho
  refine{ size:=by simp;omega,slot:=fun s x hx=>?_,obj:=fun r o ho=>(hno r o ho).elim,objf:=fun r o ho=>(hno r o ho).elim,inj:=fun r _ o _ ho=>(hno r o ho).elim,lam:=fun _ _ _ _ h=>(by cases h),lamObj:=fun _ _ _ _ _ h=>(by cases h),lamInj:=fun _ _ _ _ _ _ _ h=>(by cases h),newObj:=fun r o ho=>(hno r o ho).elim,newLam:=fun _ _ _ _ _ h=>(by cases h),ext:=Ext.refl _ _,fr:=fun _ _ _=>⟨rfl,rfl⟩,top:=ht,ext0:=fun _ _=>rfl,own0:=fun r cs x s ho=>(hno _ _ ho).elim,os:=rfl,tape:=rfl,output:=rfl }
  obtain⟨y,h1,rfl,_⟩:=z33 0 args s x hx;simp at h1;have hs:s<vs.size:=by rw[hsz];exact(Zac.1 h1).1
  have h2:=hrd s y h1;have:(vs++Array.replicate (fn.ntmps-vs.size) undef).getD s undef=vs.getD s undef:=by
   simp only[Zav];rw[Array.getElem?_append_left hs]
  rw[this];exact .d _ _ h2
 refine wp_mono (z60 (E:=z79 f0 w) (d:=[]) L hL h h0 rfl) fun e a' w' ⟨G',σ',h1,h2,h3⟩=>?_
 have fin:(∃r k,fLd σ' true m (σ'.get s)=some (r.avAt k)∧(∀xs sz fs c,r=.row xs sz fs c→aget σ'.L k=some (.cells (rowC sz fs c)))∧r.ok∧Post r)→∃v,(results fn a'.tmps).run P w'=.ok v w'∧∃r G' v',Post r∧r.ok∧Ending.returned v=.returned v'∧SR (z79 f0 w) 1 G' ⟨[(0,r.avAt 0)],r.objs,[]⟩ #[v'] w':=fun⟨r,k,g1,g2,g3,g4⟩=>by
  -- the one result's variable
  have hres:∃t d,fn.results.toList=[.cell s t]∧P.underlying t=some d∧Program.sz P t=some m∧aggT d=true:=by
   cases hrl:fn.results.toList with
   |nil=>rw[hrl]at hl;simp[q1d]at hl
   |cons rv rs=>
    rw[hrl]at hl;have tl:∀{l:List LRes},q1d P rs=some l→l=[]→rs=[]:=fun{l} h1 h2=>by
     cases rs with
     |nil=>rfl
     |cons r2 rs=>
      subst h2;cases r2 with
      |tmp t2=>simp only[q1d]at h1;obtain⟨_,_,h3⟩:=map_none h1;cases h3
      |cell c t2=>simp only[q1d]at h1;split at h1<;>cases h1
    cases rv with
    |tmp t=>simp only[q1d]at hl;obtain⟨_,_,h3⟩:=map_none hl;cases h3
    |cell x t=>
     simp only[q1d]at hl;split at hl
     ·rename_i d' m' l' q1 q2 q3;simp only[Zas,Zdh,LRes.cell.injEq]at hl;obtain⟨⟨rfl,e1,rfl⟩,e2⟩:=hl;exact⟨t,d',by rw[tl q3 e2],q1,q2,e1⟩
     ·cases hl
  obtain⟨t,d',k1,k2,k3,k4⟩:=hres;obtain⟨v,j1,j2⟩:=j3r h2 k2 k3 (by rw[k4];exact g1);have h5:(fn.results.mapM (q3M a')).run P w'=.ok #[v] w':=by
   rw[Array.mapM_eq_mapM_toList,k1];simp[j1]
  have h6:(results fn a'.tmps).run P w'=.ok v w':=by
   unfold results;simp only[Sem.run_bind]
   erw[h5]
   rfl
  obtain⟨G2,h7⟩:=h2.fin g3 j2 g2;exact⟨v,h6,r,G2,v,g4,g3,rfl,h7⟩
 cases e with
 |normal=>obtain⟨v,g1,g2⟩:=fin h1;exact⟨h3,v,g1,g2⟩
 |ret=>obtain⟨v,g1,g2⟩:=fin h1;exact⟨h3,v,g1,g2⟩
 |exit id=>exact h1.elim
 |goto l=>exact h1.elim
 |panic ch=>exact h1.elim
 |outgrown=>exact h1.elim
theorem q0n.j6w{f:FuncId}{n:Nat}{L:q0g}{s m:Nat}(h:q0n P f n L [.cell s true m]){args:List D}{Post:XR→Prop}(hn:Nat.ble args.length n=true)(hr:RUN P L [] (retN s m Post) ⟨z0D 0 args,[],[]⟩):z9C P f args Post:=by
 obtain⟨fn,c,h1,h2,h3,h4,rfl⟩:=h;exact j6x h1 h2 h3 h4 (Nat.le_of_ble_eq_true hn) hr
/-! ### As a contract of data -/
theorem j1N(h:SR E n G σ ts w){k sz c:Nat}{fs:List D}(ho:σ.obj (.l k)=some (.cells (rowC sz fs c)))(hfs:∀y∈fs,y.cells.length=sz)(hc:fs.length≤c):
  RD (updf G.f (G.b (.l k)) (rowC sz fs c).length) w (.list fs) (.slice (some (at_ (G.b (.l k)) 0)) fs.length c)∧∀y∈fs,y.flat:=by
 obtain⟨arr,el,h1,h2,h3⟩:=h.obj _ _ ho;have hl:=q9P hfs hc;have hle:fs.length*sz≤c*sz:=Zby _ hc;have hf0:=h.objf _ _ ho;have hext:Ext G.f w (updf G.f (G.b (.l k)) (rowC sz fs c).length) w:=⟨Zak _,fun b=>by
  by_cases e:b=G.b (.l k)
  ·rw[e,hf0];exact Zay _
  ·rw[q0J _ _ e];exact Zak _,fun _ _ _=>rfl,fun _ _ _ _ h=>h⟩
 have hcell:∀(i j:Nat) (e d:D),fs[i]?=some e→e.cells[j]?=some d→i*sz+j<c*sz∧RD G.f w d (arr.getD (i*sz+j) undef)∧(arr.getD (i*sz+j) undef).oneCell'=true:=fun i j e d he hd=>by
  have hx:=j3X hfs he hd;have hlt:i*sz+j<fs.length*sz:=by rw[←q1f hfs];exact(Zac.1 hx).1
  have hx2:(rowC sz fs c)[i*sz+j]?=some (.d d):=by
   rw[rowC,Zaj (by rw[Zbn,q1f hfs];exact hlt),Zan,hx];rfl
  obtain⟨g1,g2,_⟩:=h3 _ _ hx2;exact⟨by omega,g1.dinv,g2⟩
 have hflat:∀y∈fs,y.flat:=fun y hy e he=>by
  obtain⟨i,hi⟩:=Zbb hy;obtain⟨j,hj⟩:=Zbb he;obtain⟨_,g1,g2⟩:=hcell i j y e hi hj;exact g1.z6h g2
 refine⟨.list fs (G.b (.l k)) 0 c sz (fun i=>arr.getD i undef) hc (fun e he=>⟨hfs e he,hflat e he⟩) (by rw[q03,hl];omega) (fun i hi=>?_) (fun i e j d he hd=>(hcell i j e d he hd).2.1.ext hext),hflat⟩;rw[Zbg,cell_of_heap h1];have:i<arr.size:=by rw[h2,hl];omega
 simp[this]
theorem z9C.j8x{fn:FuncId}{args:List D}{Post:XR→Prop}{Post':Res→Prop}(h:z9C P fn args Post)(hp:∀r,Post r→Post' (.one r.data)):q0i P fn args Post':=by
 intro f w vs h0 h1 h2 h3;refine(h f w vs h0 h1 h2 h3).mono fun e w' ⟨r,G',v,p1,p2,p3,p4⟩=>?_
 have hv:AVR G' w' (r.avAt 0) v:=by simpa using p4.slot 0 _ (by simp[aget])
 cases r with
 |nul xs=>exact⟨_,v,G'.f,hp _ p1,p3,j5g p2 (fun _ _ h=>h) (fun u hu=>by cases hu;exact .nils) hv,⟨p4.ext.size,fun b hb=>p4.fr b hb (fun h=>h),p4.top,p4.os,p4.tape,p4.output⟩⟩
 |row xs sz fs c=>
  have ho:aget (⟨[(0,(XR.row xs sz fs c).avAt 0)],(XR.row xs sz fs c).objs,[]⟩:St).L 0=some (.cells (rowC sz fs c)):=by simp[XR.objs,aget]
  obtain⟨q1,q2⟩:=j1N p4 (k:=0) ho p2.2.1 p2.2.2.1;let a0:Act:={ tmps := #[v],defers:=[] }
  have p5:=SR.freeze (a:=a0) p4 ho;refine⟨_,v,_,hp _ p1,p3,?_,⟨p5.ext.size,fun b hb=>p5.fr b hb (fun h=>h),p5.top,p5.os,p5.tape,p5.output⟩⟩;have hf0:G'.f (G'.b (.l 0))=0:=p4.objf (.l 0) _ ho;have hext:Ext G'.f w' (updf G'.f (G'.b (.l 0)) (rowC sz fs c).length) w':=⟨Zak _,fun b=>by
   by_cases e:b=G'.b (.l 0)
   ·rw[e,hf0];exact Zay _
   ·rw[q0J _ _ e];exact Zak _,fun _ _ _=>rfl,fun _ _ _ _ h=>h⟩
  exact j5g p2.1 (fun _ _ h=>h.ext hext) (fun u hu=>by cases hu;exact q1) hv
/-! ### The caller's side -/
def XR.z9E(σ:St)(d:Nat):XR→St
 |.nul xs=>σ.put d (.sx (xs++[.ns]))
 |.row xs sz fs c=>((σ.drop d).setObj (.l d) (.cells (rowC sz fs c))).put d (.sx (xs++[.rs (.l d) fs.length c]))
theorem j39{E:Entry}[HasInv P E](h:SR E n G σ ts w):Inv.inv P G.f w:=
 Inv.ext (fun b hb=>h.fr b (Inv.lt (HasInv.holds (P:=P) (E:=E)) b hb) (HasInv.none b hb)) (HasInv.holds (P:=P) (E:=E))
theorem q7r.j6w{d f:Nat}{args:List LX}{K:St→Prop}{σ:St}{ds:List D}{Post:XR→Prop}(hc:z9C P f ds Post)(hds:q5N (evL σ args)=some ds)(hK:∀r,r.ok→Post r→K (r.z9E σ d)):q7r P (some d) f args K σ:=by
 intro E _ n G a w vs hdn h hvl hv;have hel:=z9Q σ args;obtain⟨k3,k4⟩:=z8Z (vs:=vs.toList) hds (by simp;omega) (fun i x hx=>by have:=hv i x hx;simpa[List.getD_eq_getElem?_getD,Zav,←Array.getElem?_toList]using this);refine(hc G.f w vs (j39 h) h.top (by simpa using k3) (fun i y hy=>by have:=k4 i y hy;simpa[List.getD_eq_getElem?_getD,Zav,←Array.getElem?_toList]using this)).mono fun e w' ⟨r,G1,v,p1,p2,p3,p4⟩=>?_
 have hv1:AVR G1 w' (r.avAt 0) v:=by simpa using p4.slot 0 _ (by simp[aget])
 have h1:SR E n { G with f:=G1.f } σ a.tmps w':=h.world p4.ext (fun b hb=>p4.fr b hb (fun h=>h)) p4.top p4.os p4.tape p4.output;refine⟨v,p3,?_⟩;cases r with
 |nul xs=>exact⟨_,_,hK _ p2 p1,by simpa[Act.put,XR.z9E]using h1.put (AVR.j9N (G:=G1) rfl p2 hv1) (by simpa[q4p]using hdn)⟩
 |row ds' sz fs c=>
  have ho:St.obj ⟨[(0,(XR.row ds' sz fs c).avAt 0)],(XR.row ds' sz fs c).objs,[]⟩ (.l 0)=some (.cells (rowC sz fs c)):=by simp[St.obj,XR.objs,aget]
  have hb:w.heap.size≤G1.b (.l 0):=by
   rcases p4.newObj _ _ ho with h2|h2
   ·exact h2
   ·exact h2.elim
  have h2:=h1.drop d;have hL:∀t cs x,aget (σ.drop d).L t=some (.cells cs)→x∈cs→x.has (.l d)=false:=fun t cs x hx hm=>by
   simp only[St.drop,q0G]at hx;cases hy:aget σ.L t with
   |none=>simp[hy]at hx
   |some o=>
    cases o with
    |siter s p=>simp[hy,q0P]at hx
    |miter l c=>simp[hy,q0P]at hx
    |mobj l c=>simp[hy,q0P]at hx
    |cells cs0=>
     simp[hy,q0P]at hx;subst hx;obtain⟨y,_,rfl⟩:=Zat.1 hm;exact AV.q2Q _ _
  have h3:=h2.z6v d (G1.b (.l 0)) (.cells (rowC sz fs c))
   (fun t x hx=>by
     simp only[St.drop,q0G]at hx;cases hy:aget σ.ρ t with
     |none=>simp[hy]at hx
     |some y=>simp[hy]at hx;subst hx;exact AV.q2Q _ _)
   hL (p4.objf _ _ ho)
   (fun r o hr=>by
     obtain⟨o2,h4,_⟩:=σ.q56 d r hr;have:=(h.obj r o2 h4).lt;show G.b r≠_
     omega)
   (fun q vq p hq hb'=>by
     obtain⟨e1,s1⟩:=p;have:=(h.lam q vq e1 s1 hq).lt hb';omega)
   (.inl (Zbr h.ext.size hb))
   (ObjR.j4Z (G:=G1) (r:=.l 0) (r':=.l d) rfl (q03 _ _ _) (p4.obj _ _ ho))
  have h5:AVR { f:=G1.f,b:=updf G.b (.l d) (G1.b (.l 0)),lam:=G.lam } w' (.sx (ds'++[.rs (.l d) fs.length c])) v:=AVR.j7F (G:=G1) (r:=.l 0) (r':=.l d) rfl p2.1 (by simp) hv1;have h4:=h3.put (s:=d) h5 (by simpa[q4p]using hdn);exact⟨_,_,hK _ p2 p1,by simpa[Act.put,XR.z9E]using h4⟩
/-! ### Calls that read a row: what comes back is no row -/
def z7m:D→Bool
 |.int _ _|.bool _|.str _|.nil=>true
 |_=>false
def j0E:AV→Bool
 |.d x=>z7m x
 |.tuple l=>l.all fun x=>match x with|.d y=>z7m y|_=>false
 |_=>false
theorem z4O{f f':Nat→Nat}{w w':World}{x:D}{v:Value}(hs:z7m x=true)(h:RD f w x v):RD f' w' x v:=by
 cases h<;>first|(simp[z7m]at hs;done)|skip
 ·exact .bool _
 ·exact .int _ _
 ·exact .str _
 ·exact .nil
theorem j0F{G':q0s}{w':World}{x:AV}{v:Value}(hs:j0E x=true)(h:AVR G w x v):AVR G' w' x v:=by
 cases x<;>simp only[j0E]at hs<;>try(cases hs;done)
 ·exact .d _ _ (z4O hs h.dinv)
 ·cases h with
  |tuple xs vs hl hsim hh=>
   refine .tuple _ vs hl hsim fun i x hi=>?_
   have h1:=Zbh.1 hs x (Zaf hi);cases x<;>simp only at h1<;>try(cases h1;done)
   exact .d _ _ (z4O h1 (hh i _ hi).dinv)
def j4L:AV→Bool
 |.d _=>true
 |.fn _ [] []=>true
 |_=>false
theorem j2I{G':q0s}{x:AV}{v:Value}(hs:j4L x=true)(hx:Ext G.f w G'.f w)(h:AVR G w x v):AVR G' w x v:=by
 cases x<;>simp only[j4L]at hs<;>try(cases hs;done)
 ·exact .d _ _ (h.dinv.ext hx)
 ·rename_i f a b;cases a<;>cases b<;>simp at hs;cases h with
  |fn _ _ _ us vs hl1 hs1 hh1 hl2 hs2 hh2=>exact .fn f [] [] us vs hl1 hs1 (fun i x hi=>by simp at hi) hl2 hs2 (fun i x hi=>by simp at hi)
end Go.Av
/- Calls that read a row; the call that puts an element into one. -/
namespace Go.Av
variable {E:Entry} {n:Nat} {G:q0s} {σ:St} {ts:Array Value} {w:World} {P:Program} [Inv P]
theorem z1x{o:Oper}{os:List Operand}{f:LX}{args:List LX}{g:FuncId}{a:Act}(h:SR E n G σ a.tmps w)(hp:q2w P o=some (.call,os))(hl:q2x os=some (f::args))(hf:σ.ev f=.fn (.func g) [] [])(hok:q5V P g=true):
  ∃vs:List Value,(execOp a.eval o).run P w=.ok (.enter g vs.toArray) w∧vs.length=(evL σ args).length∧∀(i:Nat) (x:AV),(evL σ args)[i]?=some x→AVR G w x (vs.getD i undef):=by
 obtain⟨fo,osa,tt,hop,rfl⟩:=z0N hp;simp only[q2x]at hl;split at hl
 ·rename_i x l hxf hxl;obtain⟨rfl,rfl⟩:x=f∧l=args:=by simpa using hl
  have rf:=h.ev hxf;rw[hf]at rf;generalize hfv:a.eval fo=fv at rf;cases rf with
  |fn _ _ _ us vs hl1 hs1 hh1 hl2 hs2 hh2=>
   have e1:us = #[]:=by cases us;simp_all
   have e2:vs = #[]:=by cases vs;simp_all
   subst e1;subst e2;obtain⟨k1,k2⟩:=q4t h hxl;refine⟨osa.toList.map a.eval,?_,by simpa using k1,k2⟩;simp only[execOp,hop,resolve,hfv,Deferred.ofValue,invoke,Sem.run_bind,Sem.run_pure,Result.andThen_ok,z5I hok];have:(#[]++osa.map a.eval ++ #[]:Array Value)=(osa.toList.map a.eval).toArray:=by
    apply Zcl;simp
   rw[this]
 ·cases hl
theorem q0e.j3q{dst:Option Nat}{f:LX}{args:List LX}{N:St→Prop}{σ:St}{g:FuncId}{k sz c:Nat}{fs:List D}{rest:List AV}{r:AV}(hf:σ.ev f=.fn (.func g) [] [])(hargs:evL σ args=.rs (.l k) fs.length c::rest)
  (hobj:σ.obj (.l k)=some (.cells (rowC sz fs c))) (hfs:∀y∈fs,y.cells.length=sz) (hc:fs.length≤c) (hrest:rest.all j4L=true)
  (hcall:q1r P g (.d (.list fs)::rest) [] r []) (hr:j0E r=true) (hK:N (putO σ dst r)):q0e P dst .call (f::args) N σ:=by
 intro E _ n G a w o os hp hl hdst hdn h;obtain⟨vs,hrun,hvl,hvs⟩:=z1x h hp hl hf hcall.1;rw[hargs]at hvl hvs;have hlt:=(h.obj _ _ hobj).lt;have hf0:=h.objf _ _ hobj;obtain⟨q1,_⟩:=j1N h hobj hfs hc;let fp:=updf G.f (G.b (.l k)) (rowC sz fs c).length
 have hext:Ext G.f w fp w:=⟨Zak _,fun b=>by
  by_cases e:b=G.b (.l k)
  ·rw[e,hf0];exact Zay _
  ·show _≤updf _ _ _ _;rw[q0J _ _ e];exact Zak _,fun _ _ _=>rfl,fun _ _ _ _ h=>h⟩
 let Gp:q0s:={ f:=fp,b:=fun _=>0,lam:=fun _=>none }
 have hvals:∀(i:Nat) (x:AV),(AV.d (.list fs)::rest)[i]?=some x→AVR Gp w x (vs.toArray.getD i undef):=fun i x hi=>by
  have hg:vs.toArray.getD i undef=vs.getD i undef:=by simp[List.getD_eq_getElem?_getD]
  rw[hg];cases i with
  |zero=>
   simp only[List.getElem?_cons_zero,Zas]at hi;subst hi;have:=hvs 0 _ rfl;generalize vs.getD 0 undef=v at this;cases this;exact .d _ _ q1
  |succ i=>
   have h2:=hvs (i+1) x (by simpa using hi);exact j2I (Zbh.1 hrest x (Zaf (by simpa using hi))) hext h2
 have hno:∀r' o,St.obj ⟨q9b 0 (.d (.list fs)::rest),[],numO 0 []⟩ r'=some o→False:=fun r' o ho=>by cases r'<;>simp[St.obj,aget,numO]at ho
 have hM:∀b,¬inM Gp [] b:=fun b hb=>by
  rcases hb with⟨i,o,h1,_⟩|⟨q,v,p,h1,_⟩
  ·simp at h1
  ·cases h1
 have htop:∀b,w.heap.size≤b→fp b=0:=fun b hb=>by
  have:b≠G.b (.l k):=fun e=>by rw[e]at hb;omega
  show updf _ _ _ _=0;rw[q0J _ _ this];exact h.top b hb
 have h0:SR (q5J Gp [] w) (AV.d (.list fs)::rest).length Gp ⟨q9b 0 (.d (.list fs)::rest),[],numO 0 []⟩ vs.toArray w:=by
  refine{ size:=by simpa using hvl,slot:=fun s x hx=>?_,obj:=fun r o ho=>(hno r o ho).elim,objf:=fun r o ho=>(hno r o ho).elim,inj:=fun r _ o _ ho=>(hno r o ho).elim,lam:=fun _ _ _ _ h=>(by cases h),lamObj:=fun _ _ _ _ _ h=>(by cases h),lamInj:=fun _ _ _ _ _ _ _ h=>(by cases h),newObj:=fun r o ho=>(hno r o ho).elim,newLam:=fun _ _ _ _ _ h=>(by cases h),ext:=Ext.refl _ _,fr:=fun _ _ _=>⟨rfl,rfl⟩,top:=htop,ext0:=fun _ _=>rfl,own0:=fun r cs x s ho=>(hno _ _ ho).elim,os:=rfl,tape:=rfl,output:=rfl };rw[q6p]at hx
  simp only[Zay,if_true,Nat.sub_zero]at hx;exact hvals s x hx
 have hInv:Inv.inv P fp w:=Inv.ext (fun b hb=>⟨rfl,by
  have hne:b≠G.b (.l k):=fun e=>by
   have hl2:=Inv.lt (HasInv.holds (P:=P) (E:=E)) b hb;rcases h.newObj _ _ hobj with h3|h3
   ·rw[←e]at h3;omega
   ·rw[←e]at h3;exact HasInv.none (P:=P) (E:=E) b hb h3
  show updf _ _ _ _=_;rw[q0J _ _ hne]⟩) (j39 (P:=P) h)
 refine .inr (.inr ⟨g,_,hrun,(hcall.2 Gp w vs.toArray hInv (fun b _=>hM b) h0).mono fun e w' ⟨r',hs',G2,v,p1,p2,p3,p4⟩=>⟨v,p2,?_⟩⟩);obtain⟨rfl,rfl⟩:=p1;have hv:AVR G2 w' r' v:=by simpa using p4.slot 0 _ (by simp[aget])
 let f2:Nat→Nat:=fun b=>if b<w.heap.size then G.f b else 0
 have hext2:Ext G.f w f2 w':=⟨p4.ext.size,fun b=>by
  show _≤if _ then _ else _
  split
  ·exact Zak _
  ·rw[h.top b (by omega)];exact Zay _,fun b i hi=>by
  have hb:b<w.heap.size:=by
   rcases Zbi b w.heap.size with h2|h2
   ·exact h2
   ·rw[h.top b h2]at hi;omega
  simp only[World.cell?,at_];rw[show w'.heap[b]?=w.heap[b]? from(p4.fr b hb (hM b)).1],fun b es c hb hm=>by rw[show w'.heap[b]?=w.heap[b]? from(p4.fr b (Zar.1 hm).1 (hM b)).1];exact hm⟩
 have h1:SR E n { G with f:=f2 } σ a.tmps w':=h.world hext2 (fun b hb=>⟨(p4.fr b hb (hM b)).1,by show(if _ then _ else _)=_;rw[if_pos hb]⟩) (fun b hb=>by
  have:=p4.ext.size;have hb2:¬b<w.heap.size:=by have hb':w.heap.size≤w'.heap.size:=this;omega
  show(if _ then _ else _)=_;rw[if_neg hb2]) p4.os p4.tape p4.output
 subst hdst;exact⟨_,_,⟨trivial,hK⟩,h1.putO hdn (j0F hr hv)⟩
/-! ### An element is put into a row -/
def j27(P:Program)(g:FuncId)(sz:Nat):Prop:=
 q5V P g=true∧∀(w:World) (el:TypeId) (v:Value) (m:Nat) (xs:List Value) (i:Nat) (vb voff vc:Nat) (news:List Value),w.ownsRow 0 el sz v m xs→q7v w v→i≤m→m≤1048576→v.ownBlock≠some vb→
  news.length=sz→(∀j u,news[j]?=some u→w.cell? (at_ vb (voff+j))=some u∧u.oneCell'=true)→
  Calls P g #[v,.int .i64 i,.slice (some (at_ vb voff)) 1 vc] w fun e w'=>∃v' el',e=.returned v'∧w'.ownsRow 0 el' sz v' (m+1) (xs.take (i*sz)++news++xs.drop (i*sz))∧Grow w w' v v' 0∧q7v w' v'
theorem z9r{sz:Nat}:∀{fs:List D} {i:Nat},(∀y∈fs,y.cells.length=sz)→(fs.take i).flatMap D.cells=(fs.flatMap D.cells).take (i*sz)
 |[],i,_=>by simp
 |f::fs,0,_=>by simp
 |f::fs,i+1,h=>by
  have hf:=h f (by simp);have e:(i+1)*sz=f.cells.length+i*sz:=by rw[Nat.add_mul];omega
  rw[Zcr,Zcv,Zcv,z9r (fun y hy=>h y (by simp[hy])),e,List.take_length_add_append]
theorem z7V{sz:Nat}:∀{fs:List D} {i:Nat},(∀y∈fs,y.cells.length=sz)→(fs.drop i).flatMap D.cells=(fs.flatMap D.cells).drop (i*sz)
 |[],i,_=>by simp
 |f::fs,0,_=>by simp
 |f::fs,i+1,h=>by
  have hf:=h f (by simp);have e:(i+1)*sz=f.cells.length+i*sz:=by rw[Nat.add_mul];omega
  rw[List.drop_succ_cons,Zcv,z7V (fun y hy=>h y (by simp[hy])),e,List.drop_length_add_append]
theorem q0e.insert{d k sz c i:Nat}{f s x y:LX}{N:St→Prop}{σ:St}{g:FuncId}{fs:List D}{z:D}(hI:j27 P g sz)(hf:σ.ev f=.fn (.func g) [] [])
  (hs:(σ.ev s=.ns∧fs=[])∨(σ.ev s=.rs (.l k) fs.length c∧σ.obj (.l k)=some (.cells (rowC sz fs c))∧fs.length≤c∧c≤maxLen))
  (hx:σ.ev x=.d (.int .i64 i)) (hy:σ.ev y=.d (.list [z])) (hz:z.cells.length=sz) (hsz:sz≠0) (hfs:∀y∈fs,y.cells.length=sz) (hi:i≤fs.length) (hb:fs.length≤1048576)
  (hK:∀c',fs.length+1≤c'→c'≤maxLen→N (((σ.drop k).setObj (.l k) (.cells (rowC sz (fs.take i++z::fs.drop i) c'))).put d (.rs (.l k) (fs.length+1) c'))):
  q0e P (some d) .call [f,s,x,y] N σ:=by
 intro E _ n G a w o os hp hl hdst hdn h;obtain⟨vs,hrun,hvl,hvs⟩:=z1x h hp hl hf hI.1;simp only[evL,Zae,Zag]at hvl;obtain⟨v0,v1,v2,rfl⟩:∃v0 v1 v2,vs=[v0,v1,v2]:=by
  match vs,hvl with
  |[a,b,c],_=>exact⟨a,b,c,rfl⟩
 have r0:AVR G w (σ.ev s) v0:=hvs 0 _ rfl;have r1:AVR G w (σ.ev x) v1:=hvs 1 _ rfl;have r2:AVR G w (σ.ev y) v2:=hvs 2 _ rfl;rw[hx]at r1;rw[hy]at r2;have r1:=r1.dinv;have r2:=r2.dinv;cases r1
 -- the element's cells
 obtain⟨vb,voff,vc,news,rfl,hnl,hnc,hnr,hvb⟩:∃(vb voff vc:Nat) (news:List Value),v2=.slice (some (at_ vb voff)) 1 vc∧news.length=sz∧(∀j u,news[j]?=some u→w.cell? (at_ vb (voff+j))=some u∧u.oneCell'=true)∧(∀j e,z.cells[j]?=some e→RD G.f w e (news.getD j undef))∧0<G.f vb:=by
  cases r2 with
  |list l b o cap sz' us hcap hsz' hbb hcell hr=>
   have e1:sz'=sz:=by rw[←(hsz' z (by simp)).1];exact hz
   subst e1;have hflat:=(hsz' z (by simp)).2;refine⟨b,o,cap,(List.range sz').map us,rfl,by simp,fun j u hj=>?_,fun j e he=>?_,by simp at hbb;omega⟩
   ·have hj':j<sz':=by have:=(Zac.1 hj).1;simpa using this
    simp[hj']at hj;subst hj;refine⟨hcell j (by simpa using hj'),?_⟩;have he:=Zal (l:=z.cells) (i:=j) (by omega);have:=hr 0 z j _ rfl he;rw[Nat.zero_mul,Zbg]at this;exact(this.one (hflat _ (List.getElem_mem _))).1
   ·have hj':j<sz':=by have:=(Zac.1 he).1;omega
    have:=hr 0 z j e rfl he;rw[Nat.zero_mul,Zbg]at this;simpa[List.getD_eq_getElem?_getD,hj']using this
 -- the row as it is owned
 have hrow:∃el xs,(w.ownsRow 0 el sz v0 fs.length xs∧q7v w v0∧(∀(j:Nat) (y:D),(fs.flatMap D.cells)[j]?=some y→RD G.f w y (xs.getD j undef))∧j3a G σ k v0):=by
  rcases hs with⟨hs,rfl⟩|⟨hs,ho,hc1,hc2⟩
  ·rw[hs]at r0;cases r0;exact⟨0,[],World.ownsRow_nil w 0 0 sz,(fun b _ _ _ hb=>by cases hb),(fun j y hy=>by simp at hy),.inl rfl⟩
  ·rw[hs]at r0;cases r0;obtain⟨el,xs,g1,g2,g3⟩:=h.j7C ho hfs ⟨hc1,hc2⟩;exact⟨el,xs,g1,g2,g3,.inr ⟨_,_,_,ho,rfl⟩⟩
 obtain⟨el,xs,g1,g2,g3,g4⟩:=hrow;have hf0:∀b,v0.ownBlock=some b→G.f b=0:=fun b hb=>by
  rcases g4 with hn|⟨o,k',c',h2,hn⟩
  ·rw[hn]at hb;cases hb
  ·rw[hn]at hb;simp[Value.ownBlock,at_]at hb;subst hb;exact h.objf _ _ h2
 have hne:v0.ownBlock≠some vb:=fun e=>by have:=hf0 vb e;omega
 refine .inr (.inr ⟨g,_,hrun,(hI.2 w el v0 fs.length xs i vb voff vc news g1 g2 hi hb hne hnl hnc).mono fun e w' ⟨v',el',p1,p2,p3,p4⟩=>⟨v',p1,?_⟩⟩);have hext:Ext G.f w G.f w':=⟨p3.size,fun _=>Zak _,fun b j hj=>by
  by_cases hb':v0.ownBlock=some b
  ·rw[hf0 b hb']at hj;omega
  ·have hlt:b<w.heap.size:=by
    rcases Zbi b w.heap.size with h2|h2
    ·exact h2
    ·rw[h.top b h2]at hj;omega
   simp only[World.cell?,at_];rw[p3.block b hlt hb'],fun b es c hb hm=>by rw[p3.block b (Zar.1 hm).1 (fun e=>by rw[hf0 b e]at hb;omega)];exact hm⟩
 have hnew:∀y∈fs.take i++z::fs.drop i,y.cells.length=sz:=fun y hy=>by
  rcases Zaz.1 hy with hy|hy
  ·exact hfs y (Zbk hy)
  ·rcases Zba.1 hy with rfl|hy
   ·exact hz
   ·exact hfs y (Zbv hy)
 have hfl:=q1f hfs;have hxl:xs.length=fs.length*sz:=g1.1;have hile:i*sz≤fs.length*sz:=Zby _ hi;have hrd:∀(j:Nat) (y:D),((fs.take i++z::fs.drop i).flatMap D.cells)[j]?=some y→RD G.f w' y ((xs.take (i*sz)++news++xs.drop (i*sz)).getD j undef):=fun j y hy=>by
  rw[List.flatMap_append,Zcv,z9r hfs,z7V hfs]at hy;have htl:((fs.flatMap D.cells).take (i*sz)).length=i*sz:=by rw[Zaw];omega
  have htl2:(xs.take (i*sz)).length=i*sz:=by rw[Zaw];omega
  rw[List.append_assoc]
  by_cases h1:j<i*sz
  ·rw[Zaj (by omega),Zbc,if_pos h1]at hy;rw[List.getD_eq_getElem?_getD,Zaj (by omega),Zbc,if_pos h1,←List.getD_eq_getElem?_getD];exact(g3 j y hy).ext hext
  ·rw[Zam (by omega),htl]at hy;rw[List.getD_eq_getElem?_getD,Zam (by omega),htl2]
   by_cases h2:j-i*sz<sz
   ·rw[Zaj (by omega)]at hy ⊢;rw[←List.getD_eq_getElem?_getD];exact(hnr _ y hy).ext hext
   ·rw[Zam (by omega),Zbx]at hy ⊢;rw[hz]at hy;rw[hnl,←List.getD_eq_getElem?_getD];exact(g3 _ y hy).ext hext
 obtain⟨b,c',q1,q2,rfl,q3⟩:=h.j9E k g4 p3 p2 (by omega) p4 (by simp;omega) hnew hrd;refine⟨{ G with b:=updf G.b (.l k) b },_,⟨trivial,hK c' q1 q2⟩,?_⟩;have hput:=q3.put (s:=d) (x:=.rs (.l k) (fs.length+1) c') (v:=.slice (some (at_ b 0)) (fs.length+1) c') (by
  have:=AVR.rs (G:={ G with b:=updf G.b (.l k) b }) (w:=w') (.l k) (fs.length+1) c';simpa[q03]using this) (by simpa[q4p]using hdn)
 simpa[Act.put]using hput
theorem q6J.j9v{f:FuncId}{xs:List AV}{hs:List AObj}{Post:AV→List AObj→Prop}(h:q6J P f (.d (.list [])::xs) hs Post):q6J P f (.ns::xs) hs Post:=by
 refine⟨h.1,fun G w vs hI hown hsr=>h.2 G w vs hI hown ?_⟩;refine{ hsr with slot:=fun s x hx=>?_ };rw[q6p]at hx;simp only[Zay,if_true,Nat.sub_zero]at hx;cases s with
 |zero=>
  simp at hx;subst hx;have:=hsr.slot 0 .ns (by rw[q6p];simp);generalize vs.getD 0 undef=v at this;cases this;exact .d _ _ .nils
 |succ s=>
  exact hsr.slot (s+1) x (by rw[q6p];simp only[Zay,if_true,Nat.sub_zero];simpa using hx)
/-! ### Cells of a row are written -/
theorem j8L{α:Type}(A C:List α)(b x:α):(A++b::C).set A.length x=A++x::C:=by
 induction A with
 |nil=>rfl
 |cons a A ih=>simp[ih]
theorem j1P:∀(B' B A C:List AV),B'.length=B.length→setA (A++(B++C)) A.length B'=A++(B'++C)
 |[],[],A,C,_=>rfl
 |x::B',b::B,A,C,h=>by
  have h':B'.length=B.length:=by simpa using h
  show setA ((A++(b::(B++C))).set A.length x) (A.length+1) B'=_
  rw[j8L];have:=j1P B' B (A++[x]) C h';simp only[Zad,Zae,Zag,List.append_assoc,Zbe,Zbj]at this;simpa using this
 |[],_::_,_,_,h=>by simp at h
 |_::_,[],_,_,h=>by simp at h
theorem j1K{sz c i:Nat}{fs:List D}{a:D}{xs ys:List D}(hfs:∀y∈fs,y.cells.length=sz)(hi:fs[i]?=some (.agg (a::xs)))(hl:ys.length=xs.length):
  setA (rowC sz fs c) (i*sz+1) (ys.map .d)=rowC sz (fs.set i (.agg (a::ys))) c:=by
 have hlt:=(Zac.1 hi).1;have hsplit:fs=fs.take i++.agg (a::xs)::fs.drop (i+1):=by
  conv=>lhs;rw[←List.take_append_drop i fs]
  rw[List.drop_eq_getElem_cons hlt];have:=(Zac.1 hi).2;rw[this]
 have hset:fs.set i (.agg (a::ys))=fs.take i++.agg (a::ys)::fs.drop (i+1):=by
  rw[List.set_eq_take_append_cons_drop,if_pos hlt]
 have htl:((fs.take i).flatMap D.cells).length=i*sz:=by
  rw[q1f (fun y hy=>hfs y (Zbk hy)),Zaw,Nat.min_eq_left (by omega)]
 have e1:rowC sz fs c=((((fs.take i).flatMap D.cells).map AV.d)++[.d a])++(xs.map .d++(((fs.drop (i+1)).flatMap D.cells).map .d++List.replicate ((c-fs.length)*sz) .junk)):=by
  unfold rowC;conv=>lhs;rw[hsplit]
  have hm:min i fs.length+(fs.length-(i+1)+1)=fs.length:=by omega
  simp[D.cells,Zaw,List.append_assoc,hm]
 have e2:rowC sz (fs.set i (.agg (a::ys))) c=((((fs.take i).flatMap D.cells).map AV.d)++[.d a])++(ys.map .d++(((fs.drop (i+1)).flatMap D.cells).map .d++List.replicate ((c-fs.length)*sz) .junk)):=by
  unfold rowC;rw[hset];have hm:min i fs.length+(fs.length-(i+1)+1)=fs.length:=by omega
  simp[D.cells,Zaw,List.append_assoc,hm]
 have hA:(((fs.take i).flatMap D.cells).map AV.d++[AV.d a]).length=i*sz+1:=by simp only[Zad,Zbn,htl,Zae,Zag]
 rw[e1,e2,←hA];exact j1P _ _ _ _ (by simp[hl])
theorem q0e.z3Q{d t tx e sz by_:Nat}{s x:LX}{N:St→Prop}{σ:St}{q:Lab}{l ys:List D}(hsl:q45 P t=some (e,sz,by_))(hz:q3g P e=true)(htx:isSl P tx=true)(hs:σ.ev s=.own q e sz l)(hx:srcL false sz (σ.ev x)=some ys)
  (hb:l.length+ys.length≤140737488355327∧(l.length+ys.length)*by_≤140737488355328) (hK:N (((σ.erase q).erase (.t d)).put d (.own (.t d) e sz (l++ys)))):q0e P (some d) (.bi .append [t,tx]) [s,x] N σ:=
 q0e.j85 hsl hz htx (by simp only[appS,hs,hx];rw[if_pos ⟨trivial,trivial,hb.1,hb.2⟩]) hK
end Go.Av
/- Arguments read as data, and how great these are. -/
namespace Go.Av
open Go.RowKit
mutual
def bkD:D→Nat
 |.str s=>s.length+1
 |.list l=>bkL l+1
 |.agg cs=>bkL cs
 |_=>1
def bkL:List D→Nat
 |[]=>0
 |x::r=>bkD x+bkL r
end
theorem j15(a b:List D):bkL (a++b)=bkL a+bkL b:=by
 induction a with
 |nil=>simp[bkL]
 |cons x r ih=>simp only[Zbe,bkL,ih];omega
theorem j7P(ds:List D):bkD (mkD ds)=bkL ds:=by
 unfold mkD;split
 ·simp[bkL]
 ·simp[bkD]
theorem j7Q(L:List (List D)):bkL (L.map mkD)=(L.map bkL).sum:=by
 induction L with
 |nil=>simp[bkL]
 |cons x r ih=>simp only[Zbo,bkL,ih,j7P,List.sum_cons]
theorem j7p:∀{L:List (List D)} {bs:List Nat},bs.length=L.length→(∀(i:Nat) (ds:List D),L[i]?=some ds→bkL ds≤bs.getD i 0)→(L.map bkL).sum≤bs.sum
 |[],_,_,_=>by simp
 |x::L,[],h,_=>by simp at h
 |x::L,b::bs,h,hb=>by
  have h0:=hb 0 x rfl;have ih:=j7p (L:=L) (bs:=bs) (by simpa using h) fun i ds hi=>by
   have:=hb (i+1) ds (by simpa using hi);simpa using this
  simp only[Zbo,List.sum_cons];simp at h0;omega
structure j0Y{H:Type}(bk:DataW H→Nat):Prop where
 str:∀bytes,bytes.length+1≤bk (.lit (.string bytes))
 lit:∀l,1≤bk (.lit l)
 map:∀es,1≤bk (.map es)
 nil:1≤bk .nil
 slice:∀el sp,(el.map bk).sum+1≤bk (.slice el sp)
 agg:∀ps,(ps.map bk).sum≤bk (.agg ps)
section
variable {H:Type} {enc:TypeId×Value→H} {P:Program} {w:World} {base:Nat} {spare:Nat→Bool} {held:Bool}
theorem z6w{n:Nat}{cs:List Value}:∀(fs:List Field) (bs:List Nat) (off tot:Nat),z8M P fs off tot=true→bs.length=fs.length→
  (∀(i:Nat) (f:Field),fs[i]?=some f→∃ds:List D,OfT P n f.type ds∧ds.length=P.cellsOf f.type∧(∀d∈ds,d.one=true)∧(∀(i:Nat) (d:D) (v:Value),ds[i]?=some d→cs[f.offset+i]?=some v→RD (front w) w d v)∧bkL ds≤bs.getD i 0)→
  ∃ds:List D,off+ds.length=tot∧(∀f∈fs,off≤f.offset∧OfT P n f.type ((ds.drop (f.offset-off)).take (P.cellsOf f.type)))∧(∀d∈ds,d.one=true)∧(∀(i:Nat) (d:D) (v:Value),ds[i]?=some d→cs[off+i]?=some v→RD (front w) w d v)∧bkL ds≤bs.sum:=by
 intro fs;induction fs with
 |nil=>intro bs off tot h _ _;simp[z8M]at h;exact⟨[],by simp[h],by simp,by simp,by simp,by simp[bkL]⟩
 |cons f r ih=>
  intro bs off tot h hbl hf;cases bs with
  |nil=>simp at hbl
  |cons bb bs=>
  simp only[z8M,Zah,beq_iff_eq]at h;obtain⟨h1,h2⟩:=h;obtain⟨da,a1,a2,a3,a4,a5⟩:=hf 0 f rfl;obtain⟨db,b1,b2,b3,b4,b5⟩:=ih bs _ _ h2 (by simpa using hbl) fun i g hg=>by
   obtain⟨ds,q1,q2,q3,q4,q5⟩:=hf (i+1) g (by simpa using hg);exact⟨ds,q1,q2,q3,q4,by simpa using q5⟩
  refine⟨da++db,by simp;omega,fun g hg=>?_,fun d hd=>?_,fun i d v hd hv=>?_,by rw[j15,List.sum_cons];simp at a5;omega⟩
  ·rcases Zba.1 hg with rfl|hg
   ·refine⟨by omega,?_⟩;rw[h1,Nat.sub_self,List.drop_zero,←a2,List.take_left']
    ·exact a1
    ·rfl
   ·obtain⟨c1,c2⟩:=b2 g hg;refine⟨by omega,?_⟩;have:(da++db).drop (g.offset-off)=db.drop (g.offset-(off+P.cellsOf f.type)):=by
     rw[List.drop_append,Zai (by omega),Zbj];congr 1;omega
    rw[this];exact c2
  ·rcases Zaz.1 hd with hd|hd
   ·exact a3 d hd
   ·exact b3 d hd
  ·by_cases hi:i<da.length
   ·rw[Zaj hi]at hd;exact a4 i d v hd (by rw[h1];exact hv)
   ·rw[Zam (by omega)]at hd;exact b4 _ d v hd (by rw[←hv];congr 1;omega)
theorem j7A{bk:DataW H→Nat}(hbk:j0Y bk){ts:List TypeId}(hts:okTs P ts=true):∀(fuel:Nat) (t:TypeId) (cs:List Value) (x:DataW H×List MemPlace),t∈ts→DataW.trod enc P w base spare held fuel t cs=some x→
  ∃ds,OfT P fuel t ds∧ds.length=cs.length∧cs.length=P.cellsOf t∧(∀d∈ds,d.one=true)∧(∀(i:Nat) (d:D) (v:Value),ds[i]?=some d→cs[i]?=some v→RD (front w) w d v)∧bkL ds≤bk x.1:=by
 intro fuel;induction fuel with
 |zero=>intro t cs x _ h;simp[DataW.trod]at h
 |succ n ih=>
  intro t cs x ht h;have hok:=Zbh.1 hts t ht;have one:∀{d:D} {v:Value},RD (front w) w d v→∀(i:Nat) (d':D) (v':Value),[d][i]?=some d'→[v][i]?=some v'→RD (front w) w d' v':=by
   intro d v hr i d' v' h1 h2;cases i with
   |zero=>simp at h1 h2;subst h1;subst h2;exact hr
   |succ i=>simp at h1
  unfold OfT;cases hu:P.underlying t with
  |none=>simp[hu]at hok
  |some T=>
   cases T with
   |bool=>
    simp only[hu,beq_iff_eq]at hok;obtain⟨b,rfl,rfl⟩:=DataW.trod_bool hu h;exact⟨[.bool b],⟨b,rfl⟩,rfl,by simp[hok],by simp[D.one],one (.bool b),hbk.lit _⟩
   |int k=>
    simp only[hu,beq_iff_eq]at hok;obtain⟨m,rfl,rfl,hw⟩:=DataW.trod_int hu h;exact⟨[.int k m],⟨m,rfl,hw⟩,rfl,by simp[hok],by simp[D.one],one (.int k m),hbk.lit _⟩
   |string=>
    simp only[hu,beq_iff_eq]at hok;obtain⟨s,rfl,rfl,hs⟩:=DataW.trod_string hu h;exact⟨[.str s.data.toList],⟨_,rfl,by simpa using hs⟩,rfl,by simp[hok],by simp[D.one],one (by cases s;exact .str _),by simpa[bkL,bkD]using hbk.str s.data.toList⟩
   |slice e=>
    simp only[hu,Zah,beq_iff_eq,bne_iff_ne,ne_eq,List.contains_iff_mem]at hok;obtain⟨h1,he,hz⟩:=hok;rcases DataW.trod_slice hu h with⟨rfl,rfl⟩|⟨a,len,cap,elems,rest,m,hm,rfl,rfl,_,hl,hc,hlen,hel,_,_⟩
    ·exact⟨[.list []],⟨[],rfl,by simp,by simp⟩,rfl,by simp[h1],by simp[D.one],one .nils,by simpa[bkL,bkD]using hbk.nil⟩
    ·have hm':m=n:=by omega
     subst hm'
     by_cases h0:len=0
     ·subst h0;exact⟨[.list []],⟨[],rfl,by simp,by simp⟩,rfl,by simp[h1],by simp[D.one],one (.emp _ _),by have:=hbk.slice (elems.map (·.1)) (rest.map (·.1));simp[bkL,bkD];omega⟩
     ·have key:∀i,i<len→∃ds:List D,(OfT P m e ds∧ds.length=P.cellsOf e∧(∀d∈ds,d.one=true)∧∀j,j<P.cellsOf e→∃d v,ds[j]?=some d∧w.cell? ((a.add (i*P.cellsOf e)).add j)=some v∧RD (front w) w d v)∧bkL ds≤(elems.map (fun y=>bk y.1)).getD i 0:=by
       intro i hi;have hx:=hel i hi;rw[Zal (by omega)]at hx;obtain⟨cs',hcs,ht'⟩:=Zch.1 hx;obtain⟨ds,o1,o2,o3,o4,o5,o6⟩:=ih e cs' _ he ht';obtain⟨c1,c2⟩:=j3t hcs;refine⟨ds,⟨o1,by omega,o4,fun j hj=>?_⟩,by
        have hi2:i<elems.length:=by omega
        rw[List.getD_eq_getElem?_getD,Zan,Zal hi2];exact o6⟩
       have q1:=Zal (l:=ds) (i:=j) (by omega);have q2:=Zal (l:=cs') (i:=j) (by omega);exact⟨_,_,q1,by rw[c2 j hj,q2],o5 j _ _ q1 q2⟩
      obtain⟨L,hL,hpB⟩:=z0u len key;have hp:=fun i ds h=>(hpB i ds h).1
      -- the address is plain
      have hspot:a.spot=none:=by
       obtain⟨ds,⟨_,_,_,h5⟩,_⟩:=key 0 (by omega);obtain⟨_,_,_,h6,_⟩:=h5 0 (by omega);rw[Nat.zero_mul]at h6;exact World.cell?_spot h6
      obtain⟨b,o,sp⟩:=a;simp only at hspot;subst hspot;have hadd:∀i j,((⟨b,o,none⟩:Addr).add i).add j=at_ b (o+(i+j)):=fun i j=>by
       rw[Go.WideShapes.add_plain,Go.WideShapes.add_plain];simp[at_];omega
      have hget:∀i,i<len→∃ds,L[i]?=some ds∧OfT P m e ds∧ds.length=P.cellsOf e∧(∀d∈ds,d.one=true)∧∀j,j<P.cellsOf e→∃d v,ds[j]?=some d∧w.cell? (at_ b (o+(i*P.cellsOf e+j)))=some v∧RD (front w) w d v:=by
       intro i hi;have q1:=Zal (l:=L) (i:=i) (by omega);obtain⟨p1,p2,p3,p4⟩:=hp i _ q1;refine⟨_,q1,p1,p2,p3,fun j hj=>?_⟩;obtain⟨d,v,r1,r2,r3⟩:=p4 j hj;rw[hadd]at r2;exact⟨d,v,r1,r2,r3⟩
      have hmem:∀ds∈L,OfT P m e ds∧ds.length=P.cellsOf e∧(∀d∈ds,d.one=true):=by
       intro ds hds;obtain⟨i,hi⟩:=Zbb hds;have hil:i<len:=by rw[←hL];exact(Zac.1 hi).1
       obtain⟨ds',g1,g2,g3,g4,_⟩:=hget i hil;rw[hi]at g1;cases g1;exact⟨g2,g3,g4⟩
      have hcell:∀k,k<len*P.cellsOf e→∃v,w.cell? (at_ b (o+k))=some v:=by
       intro k hk;have hpz:0<P.cellsOf e:=Nat.pos_of_ne_zero hz;have hi:k / P.cellsOf e<len:=Nat.div_lt_of_lt_mul (by rw[Nat.mul_comm];exact hk);obtain⟨ds,_,_,_,_,g5⟩:=hget _ hi;obtain⟨d,v,_,r2,_⟩:=g5 (k % P.cellsOf e) (Nat.mod_lt _ hpz);have:k / P.cellsOf e*P.cellsOf e+k % P.cellsOf e=k:=by rw[Nat.mul_comm];exact Nat.div_add_mod _ _
       rw[this]at r2;exact⟨v,r2⟩
      refine⟨[.list (L.map mkD)],⟨L.map mkD,rfl,by simp[hL];omega,fun x hx=>?_⟩,rfl,by simp[h1],by simp[D.one],one ?_,?_⟩
      ·obtain⟨ds,hds,rfl⟩:=Zat.1 hx;exact⟨ds,rfl,(hmem ds hds).1⟩
      ·have:=RD.list (f:=front w) (w:=w) (L.map mkD) b o cap (P.cellsOf e) (fun k=>(w.cell? (at_ b (o+k))).getD undef) (by simp[hL];exact hl) (fun x hx=>by
           obtain⟨ds,hds,rfl⟩:=Zat.1 hx;obtain⟨_,q2,q3⟩:=hmem ds hds;unfold D.flat;rw[z8z q3];exact⟨q2,q3⟩) (by
           rw[Zbn,hL];have hpos:0<len*P.cellsOf e:=Nat.mul_pos (by omega) (Nat.pos_of_ne_zero hz);obtain⟨v,hv⟩:=hcell (len*P.cellsOf e-1) (by omega);have:=j6r hv;omega) (fun k hk=>by
           rw[Zbn,hL]at hk;obtain⟨v,hv⟩:=hcell k hk;rw[hv];rfl) (fun i x j d hx hd=>by
           rw[Zan]at hx;cases hLi:L[i]? with
           |none=>simp[hLi]at hx
           |some ds=>
            simp[hLi]at hx;subst hx;obtain⟨_,q2,q3⟩:=hmem ds (Zaf hLi);rw[z8z q3]at hd;have hil:i<len:=by rw[←hL];exact(Zac.1 hLi).1
            obtain⟨ds',g1,_,_,_,g5⟩:=hget i hil;rw[hLi]at g1;cases g1;obtain⟨d',v,r1,r2,r3⟩:=g5 j (by rw[←q2];exact(Zac.1 hd).1);rw[hd]at r1;cases r1;rw[r2];exact r3)
       rw[Zbn,hL]at this;exact this
      ·have hb:=hbk.slice (elems.map (·.1)) (rest.map (·.1));have hsum:=j7p (L:=L) (bs:=elems.map (fun y=>bk y.1)) (by simp[hL,hlen]) (fun i ds hi=>(hpB i ds hi).2);rw[List.map_map]at hb;simp only[bkL,bkD,j7Q];have e:(elems.map (bk∘fun x=>x.1))=elems.map (fun y=>bk y.1):=rfl;rw[e]at hb;omega
   |map kt e=>
    simp only[hu,Zah,beq_iff_eq,List.contains_iff_mem]at hok;obtain⟨h1,he,hk,hv⟩:=hok;rcases j7d hu h with⟨rfl,hx⟩|⟨b,es,clock,⟨rfl,l,hx⟩,hb,hs,hc,hn,hm⟩
    ·exact⟨[.map [] []],⟨[],[],rfl,rfl,by simp,by simp,by simp⟩,rfl,by simp[h1],by simp[D.one],one .mapn,by simp only[bkL,bkD,hx];exact hbk.nil⟩
    ·obtain⟨ks,vs,q1,q2,q3,q4,q5⟩:=j9q hb hs hc hn hk hv fun m hmm=>by
      obtain⟨a1,a2,y,a3⟩:=hm m hmm;obtain⟨ds,o1,o2,o3,o4,o5,_⟩:=ih e _ y he a3;exact⟨a1,a2,ds,o1,o2,o3,o4,o5⟩
     exact⟨[.map ks vs],⟨ks,vs,rfl,q1,q2,q3,q4⟩,rfl,by simp[h1],by simp[D.one],one q5,by simp only[bkL,bkD,hx];exact hbk.map _⟩
   |struct fs=>
    simp only[hu,Zah]at hok;obtain⟨o1,o2⟩:=hok;obtain⟨xs,m,hm,rfl,hlen,hxl,hf⟩:=DataW.trod_struct hu h;have hm':m=n:=by omega
    subst hm';obtain⟨ds,c1,c2,c3,c4,c5⟩:=z6w (w:=w) (n:=m) (cs:=cs) fs.toList (xs.map (fun y=>bk y.1)) 0 (P.cellsOf t) o2 (by simp[hxl]) (fun i f hi=>by
     have hfm:=Zaf hi;have hfi:fs[i]?=some f:=by simpa using hi
     have hil:i<xs.length:=by rw[hxl];exact(Zar.1 hfi).1
     have hx:=hf i f hfi;rw[Zal hil]at hx;obtain⟨ds,p1,p2,p3,p4,p5,p6⟩:=ih _ _ _ (by have:=Zbh.1 o1 f hfm;simpa using this) hx;refine⟨ds,p1,by omega,p4,fun j d v hd hv=>p5 j d v hd ?_,by rw[List.getD_eq_getElem?_getD,Zan,Zal hil];exact p6⟩;have hj:j<ds.length:=(Zac.1 hd).1;rw[Zbc,if_pos (by omega),Zbx];exact hv)
    refine⟨ds,⟨by omega,fun i f hfi=>?_⟩,by omega,by omega,c3,fun i d v hd hv=>c4 i d v hd (by rw[Zbg];exact hv),by
     have:=hbk.agg (xs.map (·.1));rw[List.map_map]at this;exact Zbr c5 this⟩
    have:=(c2 f (by simpa using Zaf (l:=fs.toList) (i:=i) (by simpa using hfi))).2;rwa [Nat.sub_zero]at this
   |_=>simp[hu]at hok
theorem j9B{bk:DataW H→Nat}(hbk:j0Y bk){ts:List TypeId}(hts:okTs P ts=true){t:TypeId}(ht:t∈ts){vs:Array Value}{d:DataW H}{p:List MemPlace}(h:DataW.Trod enc P w base spare held t (.agg vs) d p):
  ∃k ds,OfT P k t ds∧RD (front w) w (.agg ds) (.agg vs)∧bkL ds≤bk d:=by
 obtain⟨fuel,hf⟩:=h;obtain⟨ds,h1,h2,h3,h4,h5,h6⟩:=j7A hbk hts fuel t _ _ ht hf;have hc:(Value.agg vs).cells=vs:=rfl;rw[hc]at h2 h5;refine⟨fuel,ds,h1,.agg ds vs (by simpa using h2.symm) h4 fun i e he=>h5 i e _ he ?_,h6⟩;have hi:i<vs.size:=by have:=(Zac.1 he).1;simp at h2;omega
 simp[Array.getD,hi]
end
end Go.Av
/- Maps as data: their length, what is found in them, walks through them and through strings. -/
namespace Go.Av
open Go.RowKit
variable {E:Entry} {n:Nat} {G:q0s} {σ:St} {ts:Array Value} {w:World} {P:Program} [Inv P]
def AObj.j7v:AObj→Bool
 |.cells _=>false
 |_=>true
theorem SR.setIter(h:SR E n G σ ts w){r:Ref}{o o':AObj}(hr:σ.obj r=some o)(hi:o'.j7v=true){w':World}(hs:w'.heap.size=w.heap.size)(hb:∀b,b≠G.b r→w'.heap[b]?=w.heap[b]?)
  (hos:w'.os=w.os) (htp:w'.tape=w.tape) (hout:w'.output=w.output) (ho':Ext G.f w G.f w'→ObjR G w' r o'):SR E n G (σ.setObj r o') ts w':=by
 have hf:=h.objf r _ hr;have hext:Ext G.f w G.f w':=by
  refine⟨by omega,fun _=>Zak _,fun b j hj=>?_,fun b es c h0 hm=>?_⟩
  ·have hne:b≠G.b r:=fun e=>by rw[e,hf]at hj;omega
   simp only[World.cell?,at_];rw[hb b hne]
  ·rw[hb b (fun e=>by rw[e,hf]at h0;omega)];exact hm
 have obj:∀r' o1,(σ.setObj r o').obj r'=some o1→(r'=r∧o1=o')∨(r'≠r∧σ.obj r'=some o1):=fun r' o1 h1=>by
  rw[St.q1s]at h1;split at h1
  ·rename_i e;exact .inl ⟨e.symm,by simpa using h1.symm⟩
  ·rename_i e;exact .inr ⟨fun e'=>e e'.symm,h1⟩
 have dom:∀r' o1,(σ.setObj r o').obj r'=some o1→∃o2,σ.obj r'=some o2:=fun r' o1 h1=>by
  rcases obj r' o1 h1 with⟨rfl,_⟩|⟨_,h1⟩
  ·exact⟨_,hr⟩
  ·exact⟨_,h1⟩
 refine⟨h.size,fun t y hy=>?_,fun r' o1 ho=>?_,fun r' o1 ho=>?_,fun r1 r2 o1 o2 h1 h2=>?_,fun q v' e sz hq=>?_,fun q v' e sz b hq hb' r' o1 ho=>?_,h.lamInj,fun r' o1 ho=>?_,h.newLam,h.ext.trans hext,fun b hb0 hM=>?_,fun b hb0=>h.top b (by omega),h.ext0,fun k cs' y s ho hy=>?_,
  hos.trans h.os,htp.trans h.tape,hout.trans h.output⟩
 ·have h2:aget σ.ρ t=some y:=by cases r<;>exact hy
  exact AVR.mono (G':=G) (h:=h.slot t y h2) hext (fun _ _=>rfl) (fun _ _ _ hp=>hp)
 ·rcases obj r' o1 ho with⟨rfl,rfl⟩|⟨hne,ho⟩
  ·exact ho' hext
  ·have hb1:G.b r'≠G.b r:=fun e=>hne (h.inj r' r _ _ ho hr e)
   exact(h.obj r' o1 ho).mono (G':=G) hext rfl (hb _ hb1) (fun _ _ _ _ _ _=>rfl) (fun _ _ hp=>hp)
 ·obtain⟨o2,h2⟩:=dom r' o1 ho;exact h.objf r' o2 h2
 ·obtain⟨o3,h3⟩:=dom r1 o1 h1;obtain⟨o4,h4⟩:=dom r2 o2 h2;exact h.inj r1 r2 o3 o4 h3 h4
 ·exact(h.lam q v' e sz hq).mono fun b hb1=>⟨hb b (fun e'=>h.lamObj q v' e sz b hq hb1 r _ hr e'.symm),rfl⟩
 ·obtain⟨o2,h2⟩:=dom r' o1 ho;exact h.lamObj q v' e sz b hq hb' r' o2 h2
 ·obtain⟨o2,h2⟩:=dom r' o1 ho;exact h.newObj r' o2 h2
 ·have hb':b≠G.b r:=fun e=>by
   rcases h.newObj r _ hr with h2|h2
   ·omega
   ·rw[e]at hM;exact hM h2
  exact⟨(hb b hb').trans (h.fr b hb0 hM).1,(h.fr b hb0 hM).2⟩
 ·rcases obj (.x k) _ ho with⟨e,h2⟩|⟨_,ho⟩
  ·subst h2;cases hi
  ·exact h.own0 k cs' y s ho hy
theorem SR.j4v(h:SR E n G σ ts w){d:Nat}(hn:d<n){o:Obj}{o':AObj}(hi:o'.j7v=true)
  (ho:∀G':q0s,G'.f=updf G.f w.heap.size 0→G'.b (.l d)=w.heap.size→Ext G.f w G'.f (w.alloc o)→ObjR G' (w.alloc o) (.l d) o'):
  ∃G',SR E n G' (((σ.drop d).setObj (.l d) o').put d (.ptr (.l d) 0)) (ts.setIfInBounds d (.pointer (some (at_ w.heap.size 0)))) (w.alloc o):=by
 have h1:=(h.drop d).alloc o 0;have hlt:∀r o,(σ.drop d).obj r=some o→G.b r<w.heap.size:=fun r o ho=>((h.drop d).obj r o ho).lt
 have hρ:∀t x,aget (σ.drop d).ρ t=some x→x.has (.l d)=false:=fun t x hx=>by
  simp only[St.drop,q0G]at hx;cases hy:aget σ.ρ t with
  |none=>simp[hy]at hx
  |some y=>simp[hy]at hx;subst hx;exact(AV.q2Q _ _)
 have hL:∀t cs x,aget (σ.drop d).L t=some (.cells cs)→x∈cs→x.has (.l d)=false:=fun t cs x hx hm=>by
  simp only[St.drop,q0G]at hx;cases hy:aget σ.L t with
  |none=>simp[hy]at hx
  |some y=>
   simp[hy]at hx;cases y with
   |siter s p=>simp[q0P]at hx
   |miter l c=>simp[q0P]at hx
   |mobj l c=>simp[q0P]at hx
   |cells cs'=>simp[q0P]at hx;subst hx;obtain⟨y,_,rfl⟩:=Zat.1 hm;exact AV.q2Q _ _
 have hext:Ext G.f w (updf G.f w.heap.size 0) (w.alloc o):=Ext.alloc w h.top _ 0;have h2:=h1.j0Z d w.heap.size o' hρ hL (by show updf G.f w.heap.size 0 w.heap.size=0;simp) (fun r o ho=>by have:=hlt r o ho;exact fun e'=>by have e'':G.b r=w.heap.size:=e';omega)
  (fun q v p hq hb=>by obtain⟨e1,s1⟩:=p;have:=(h.lam q v e1 s1 hq).lt hb;omega) h.ext.size
  (ho _ rfl (by simp) hext)
 have h3:=h2.put (s:=d) (x:=.ptr (.l d) 0) (v:=.pointer (some (at_ w.heap.size 0))) (by
  have:=AVR.ptr (G:={ f:=updf G.f w.heap.size 0,b:=updf G.b (.l d) w.heap.size,lam:=G.lam }) (w:=w.alloc o) (.l d) 0;simpa using this) hn
 exact⟨_,h3⟩
/-! ### Reading off the operation -/
theorem z8Y{o:Oper}{t:TypeId}{os:List Operand}(h:q2w P o=some (.range t,os)):∃x,o.op=.range t x∧os=[x]:=by
 unfold q2w at h;split at h;all_goals first
  |(cases h;done)
  |(rename_i ho;cases h;exact⟨_,ho,rfl⟩)
  |(split at h<;>(try cases h)<;>(split at h<;>cases h))
  |(split at h<;>cases h)
theorem j0t{o:Oper}{s:Bool}{t:TypeId}{os:List Operand}(h:q2w P o=some (.next s t,os)):∃x,o.op=.next x s∧os=[x]:=by
 unfold q2w at h;split at h;all_goals first
  |(cases h;done)
  |(rename_i ho;cases h;exact⟨_,ho,rfl⟩)
  |(split at h<;>(try cases h)<;>(split at h<;>cases h))
  |(split at h<;>cases h)
theorem z8V{o:Oper}{os:List Operand}(h:q2w P o=some (.entry,os)):∃x,o.op=.entry x∧os=[x]:=by
 unfold q2w at h;split at h;all_goals first
  |(cases h;done)
  |(rename_i ho;cases h;exact⟨_,ho,rfl⟩)
  |(split at h<;>(try cases h)<;>(split at h<;>cases h))
  |(split at h<;>cases h)
theorem q8n{o:Oper}{t:TypeId}{ok:Bool}{os:List Operand}(h:q2w P o=some (.lookup t ok,os)):∃x i,o.op=.lookup t x i ok∧os=[x,i]:=by
 unfold q2w at h;split at h;all_goals first
  |(cases h;done)
  |(rename_i ho;cases h;exact⟨_,_,ho,rfl⟩)
  |(split at h<;>(try cases h)<;>(split at h<;>cases h))
  |(split at h<;>cases h)
theorem z8t:∀{l:List Operand} {r:List LX},q2x l=some r→r.length=l.length
 |[],r,h=>by simp[q2x]at h;subst h;rfl
 |x::l,r,h=>by
  simp only[q2x]at h;split at h
  ·rename_i u v hu hv;cases h;simp[z8t hv]
  ·cases h
/-! ### Maps -/
def z8h:D→D→Bool
 |.int _ a,.int _ b=>a==b
 |.str a,.str b=>a==b
 |_,_=>false
def q7R:List D→List D→D→Option D
 |k::ks,v::vs,x=>if z8h x k then some v else q7R ks vs x
 |_,_,_=>none
def q17:TypeDesc→D→Bool
 |.int k,.int k' _=>k'==k
 |.string,.str _=>true
 |_,_=>false
theorem q1J{kd:TypeDesc}{x:D}{v:Value}{f:Nat→Nat}(h:q17 kd x=true)(hr:RD f w x v):MapKept.IsKey kd v:=by
 cases kd<;>cases x<;>simp[q17]at h<;>cases hr<;>simp[MapKept.IsKey,h]
theorem z8i{kd:TypeDesc}{x y:D}{u v:Value}{f f':Nat→Nat}{w':World}(hx:q17 kd x=true)(hy:q17 kd y=true)(hu:RD f w x u)(hv:RD f' w' y v):z8h x y=true↔u=v:=by
 cases kd<;>cases x<;>simp[q17]at hx<;>cases y<;>simp[q17]at hy<;>cases hu<;>cases hv<;>simp[z8h];all_goals first|(subst hx;subst hy;simp)|skip
theorem find_spec{kd:TypeDesc}{f:Nat→Nat}{key:D}{kv:Value}(hkey:q17 kd key=true)(hr:RD f w key kv):∀(es:List MapEntry) (ks vs:List D) (i:Nat),ks.length=es.length→vs.length=es.length→(∀k∈ks,q17 kd k=true)→
  (∀(i:Nat) k e,ks[i]?=some k→es[i]?=some e→RD f w k e.key)→(∀(i:Nat) v e,vs[i]?=some v→es[i]?=some e→RD f w v e.val)→
  (q7R ks vs key=none∧Instr.findNow kd kv es i=some none)∨∃v j u,q7R ks vs key=some v∧Instr.findNow kd kv es i=some (some (j,u))∧RD f w v u
 |[],[],[],i,_,_,_,_,_=>.inl ⟨rfl,rfl⟩
 |[],_::_,_,i,h,_,_,_,_=>by simp at h
 |[],_,_::_,i,_,h,_,_,_=>by simp at h
 |_::_,[],_,i,h,_,_,_,_=>by simp at h
 |_::_,_,[],i,_,h,_,_,_=>by simp at h
 |e::es,k::ks,v::vs,i,h1,h2,h3,h4,h5=>by
  have rk:=h4 0 k e rfl rfl;obtain⟨r,q1,q2⟩:=MapKept.sameNow_of_keys (q1J hkey hr) (q1J (h3 k (by simp)) rk);have q3:=z8i hkey (h3 k (by simp)) hr rk;simp only[q7R,Instr.findNow,q1];cases r with
  |true=>
   rw[if_pos (q3.2 (q2.1 rfl))];exact .inr ⟨v,i,e.val,rfl,rfl,h5 0 v e rfl rfl⟩
  |false=>
   rw[if_neg (fun h=>by have:=q2.2 (q3.1 h);cases this)];exact find_spec hkey hr es ks vs (i+1) (by simpa using h1) (by simpa using h2) (fun k hk=>h3 k (by simp[hk])) (fun i k e hk he=>h4 (i+1) k e (by simpa using hk) (by simpa using he)) (fun i k e hk he=>h5 (i+1) k e (by simpa using hk) (by simpa using he))
theorem q0e.lookup{d:Nat}{t kt e:TypeId}{kd:TypeDesc}{x i:LX}{K:St→Prop}{σ:St}{ks vs:List D}{key zero:D}(hx:σ.ev x=.d (.map ks vs))(hi:σ.ev i=.d key)(ht:P.underlying t=some (.map kt e))(hkt:P.underlying kt=some kd)
  (hkey:q17 kd key=true) (hks:∀k∈ks,q17 kd k=true) (hz:Program.zeroOf P e=some zero) (hK:K (σ.put d (.tuple [.d ((q7R ks vs key).getD zero),.d (.bool (q7R ks vs key).isSome)]))):q0e P (some d) (.lookup t true) [x,i] K σ:=by
 refine q0e.value _ (fun E _ n G a w o os hp hl hσ=>?_) hK;obtain⟨X,I,hop,rfl⟩:=q8n hp;obtain⟨x',i',hx',hi',he⟩:=z4a hl;cases he;have rx:=hσ.ev hx';have ri:=hσ.ev hi';rw[hx]at rx;rw[hi]at ri;have rx:=rx.dinv;have ri:=ri.dinv;generalize hv:a.eval X=v at rx;generalize hvi:a.eval I=vi at ri;obtain⟨zi,zv,hzi,hzv,hzc⟩:∃zi zv,P.info? e=some zi∧zi.zero=some zv∧cst zv=some zero:=by
  unfold Program.zeroOf at hz;obtain⟨zv,h1,h2⟩:=Zch.1 hz;obtain⟨zi,h3,h4⟩:=Zch.1 h1;exact⟨zi,zv,h3,h4,h2⟩
 have hzero:∀w,(zeroValue e).run P w=.ok zv w:=fun w=>by simp[zeroValue,typeInfo,hzi,hzv]
 have hkk:=q1J hkey ri;have tup:∀(u:D) (uv:Value) (b:Bool),RD G.f w u uv→AVR G w (.tuple [.d u,.d (.bool b)]) (.tuple #[uv,.bool b]):=fun u uv b hu=>
  .tuple _ _ rfl (by simp[AV.simple]) fun j y hj=>by
   match j,hj with
   |0,hj=>cases hj;exact .d _ _ hu
   |1,hj=>cases hj;exact .d _ _ (.bool _)
   |(j+2),hj=>simp at hj
 cases rx with
 |mapn=>
  refine⟨.tuple #[zv,.bool false],?_,tup _ _ _ (by simpa[q7R]using z0b hzc)⟩;simp only[execOp,hop,hv,hvi,Instr.lookup,Sem.run_bind,run_underlying ht,Result.andThen_ok,Sem.run_pure,MapKept.run_checkKey hkt hkk,MapKept.run_findKey hkt (show Instr.findNow kd vi (#[]:Array MapEntry).toList 0=some none from rfl),hzero];rfl
 |map _ _ b es clock hb hh hk hv' hn hc hr hr'=>
  rcases find_spec hkey ri es.toList ks vs 0 (by simpa using hk) (by simpa using hv') hks (fun i k e h1 h2=>hr i k e h1 (by simpa using h2)) (fun i k e h1 h2=>hr' i k e h1 (by simpa using h2))with⟨h1,h2⟩|⟨v,j,u,h1,h2,h3⟩
  ·rw[h1];refine⟨.tuple #[zv,.bool false],?_,tup _ _ _ (z0b hzc)⟩;simp only[execOp,hop,hv,hvi,Instr.lookup,Sem.run_bind,run_underlying ht,Result.andThen_ok,Sem.run_pure,MapKept.run_getObj_map hh,MapKept.run_checkKey hkt hkk,MapKept.run_findKey hkt h2,hzero,h1];rfl
  ·rw[h1];refine⟨.tuple #[u,.bool true],?_,tup _ _ _ h3⟩;simp only[execOp,hop,hv,hvi,Instr.lookup,Sem.run_bind,run_underlying ht,Result.andThen_ok,Sem.run_pure,MapKept.run_getObj_map hh,MapKept.run_checkKey hkt hkk,MapKept.run_findKey hkt h2,hzero,h1];rfl
/-! ### Walks through maps -/
theorem q86:∀(F:List MapEntry) (i:Nat) (e:MapEntry),(F.map (·.born)).Nodup→F[i]?=some e→F.filter (fun x => !(x.born==e.born))=F.eraseIdx i
 |[],i,e,_,h=>by simp at h
 |a::F,0,e,hn,h=>by
  simp at h;subst h;have hn':a.born∉F.map (·.born):=(Zcx.1 hn).1;simp only[List.filter_cons,beq_self_eq_true,Zcm,Zao,if_false,List.eraseIdx_cons_zero];refine List.filter_eq_self.2 fun x hx=>?_
  have:x.born≠a.born:=fun e=>hn' (Zat.2 ⟨x,hx,e⟩)
  simpa using this
 |a::F,i+1,e,hn,h=>by
  have h':F[i]?=some e:=by simpa using h
  have hn':=Zcx.1 hn;have hne:a.born≠e.born:=fun e1=>hn'.1 (Zat.2 ⟨e,Zaf h',e1.symm⟩)
  have e2:(a.born==e.born)=false:=by simpa using hne
  simp only[List.filter_cons,e2,Zcp,if_true,List.eraseIdx_cons_succ,q86 F i e hn'.2 h']
theorem z8l{es:List MapEntry}{seen:Array Nat}{i:Nat}{e:MapEntry}(hn:(es.map (·.born)).Nodup)(h:(es.filter fun e => !seen.contains e.born)[i]?=some e):
  (es.filter fun x => !(seen.push e.born).contains x.born)=(es.filter fun e => !seen.contains e.born).eraseIdx i:=by
 have h1:(fun x:MapEntry => !(seen.push e.born).contains x.born)=fun x => !(x.born==e.born) && !seen.contains x.born:=by
  funext x
  rw[Go.contains_push];cases seen.contains x.born<;>cases x.born==e.born<;>rfl
 rw[h1,←List.filter_filter];refine q86 _ i e ?_ h;exact List.Nodup.sublist (List.Sublist.map _ List.filter_sublist) hn
theorem z5t(w:World)(ty:TypeId)(r bm since c0:Nat)(seen:Array Nat)(es:Array MapEntry)(hr:w.heap[r]?=some (.mapIter (some bm) since seen c0))(hb:w.heap[bm]?=some (.map es c0))(hold:∀x∈es.toList,x.born<since)(hsc:since≤c0):
  ((es.toList.filter fun e => !seen.contains e.born)=[]∧(Instr.next (.pointer (some (at_ r 0))) false ty).run P w=.ok (.tuple #[.bool false]) w)∨
  ∃(i:Nat) (e:MapEntry) (w1:World),(es.toList.filter fun e => !seen.contains e.born)[i]?=some e∧w1.heap=w.heap∧w1.os=w.os∧w1.tape=w.tape∧w1.output=w.output∧
   (Instr.next (.pointer (some (at_ r 0))) false ty).run P w=.ok (.tuple #[.bool true,e.key,e.val]) { w1 with heap:=w1.heap.setIfInBounds r (.mapIter (some bm) since (seen.push e.born) c0) }:=by
 have ht:=Go.next_test_false seen es since c0 hold hsc;simp only[Instr.next,at_,getObj,Sem.run_bind,Sem.run,hr,hb,Result.andThen,ht,Zao,if_false];have hmem:∀x∈(Array.filter (fun e => !seen.contains e.born) es).toList,x.born<since:=fun x hx=>hold x (by simp at hx ⊢;exact hx.1)
 have hlist:(Array.filter (fun e => !seen.contains e.born) es).toList=es.toList.filter fun e => !seen.contains e.born:=by simp
 rw[←hlist];generalize Array.filter (fun e => !seen.contains e.born) es=L at hmem ⊢;have e1:L.filter (fun x=>decide (x.born<since))=L:=Array.filter_eq_self.2 (fun x hx=>by simpa using hmem x (by simpa using hx));have e2:L.filter (fun x=>decide (x.born≥since)) = #[]:=by
  rw[Array.filter_eq_empty_iff];intro x hx;have:=hmem x (by simpa using hx);simp;omega
 simp only[e1,e2,Array.append_empty]
 by_cases h0:L.size=0
 ·left
  have:L = #[]:=Array.eq_empty_of_size_eq_zero h0;subst this;refine⟨rfl,?_⟩;simp[choose,Sem.run,Question.forced]
 ·right
  have hne:L.isEmpty=false:=by simp[Array.isEmpty,h0]
  simp only[hne,Zao,if_false,Array.empty_append,Array.size_map];have hch:∃(j:Nat) (w1:World),j<L.size∧w1.heap=w.heap∧w1.os=w.os∧w1.tape=w.tape∧w1.output=w.output∧(choose (Question.mapNext L.size)).run P w=.ok j w1:=by
   by_cases hf:L.size≤1
   ·exact⟨0,w,by omega,rfl,rfl,rfl,rfl,by simp[choose,Sem.run,Question.forced,hf]⟩
   ·exact⟨_,w.drew,Nat.mod_lt _ (by omega),rfl,rfl,rfl,rfl,by
     simp only[choose,Sem.run,Question.forced,decide_eq_true_eq,hf,if_false,Question.cut];rfl⟩
  obtain⟨j,w1,hj,p1,p2,p3,p4,hrun⟩:=hch;refine⟨j,L[j],w1,by simp[hj],p1,p2,p3,p4,?_⟩;have hset:∀(o':Obj),(setObj r o').run P w1=.ok () { w1 with heap:=w1.heap.setIfInBounds r o' }:=fun o'=>by
   simp only[setObj,Sem.run];rw[p1,hr]
  simp only[hrun,Array.getElem?_map,Zck hj,Zax,Sem.run_bind,hset,Result.andThen];rfl
theorem z4L(w:World)(r bm since c0:Nat)(s:Array Nat)(es:Array MapEntry)(e:MapEntry)(hr:w.heap[r]?=some (.mapIter (some bm) since (s.push e.born) c0))(hb:w.heap[bm]?=some (.map es c0))(he:e∈es.toList)(hn:(es.toList.map (·.born)).Nodup):
  (Instr.entry (.pointer (some (at_ r 0)))).run P w=.ok (.tuple #[e.key,e.val]) w:=by
 have hf:es.find? (·.born==e.born)=some e:=by rw[←Array.find?_toList];exact Go.find_born e es.toList hn he
 simp only[Instr.entry,at_,getObj,Sem.run_bind,Sem.run,hr,hb,Result.andThen,Array.back?_push,bne_self_eq_false,Zao,if_false,hf];rfl
theorem q0e.rangeMap{d:Nat}{t k e:TypeId}{x:LX}{K:St→Prop}{σ:St}{ks vs:List D}(hx:σ.ev x=.d (.map ks vs))(ht:P.underlying t=some (.map k e))(hK:K (((σ.drop d).setObj (.l d) (.miter (ks.zip vs) [])).put d (.ptr (.l d) 0))):q0e P (some d) (.range t) [x] K σ:=by
 intro E _ n G a w o os hp hl hdst hd hσ;obtain⟨X,hop,rfl⟩:=z8Y hp;obtain⟨x',hx',he⟩:=z8s hl;cases he;have rx:=hσ.ev hx';rw[hx]at rx;have rx:=rx.dinv;generalize hv:a.eval X=v at rx;have hdn:d<n:=by simpa[q4p]using hd
 cases rx with
 |mapn=>
  obtain⟨G',h1⟩:=hσ.j4v hdn (o:=.mapIter none 0 #[] 0) (o':=.miter [] []) rfl fun G' h1 h2 h3=>⟨none,0,#[],0,by rw[h2];exact q1x _ _,rfl,rfl⟩
  exact .inl ⟨_,_,by simp[execOp,hop,hv,Go.run_range_nilMap w t k e ht,at_],G',_,⟨trivial,hK⟩,h1⟩
 |map _ _ b es clock hb hh hk hv' hn hc hr hr'=>
  obtain⟨G',h1⟩:=hσ.j4v hdn (o:=.mapIter (some b) clock #[] clock) (o':=.miter (ks.zip vs) []) rfl fun G' h1 h2 h3=>by
   have hall:(es.toList.filter fun e => !(#[]:Array Nat).contains e.born)=es.toList:=List.filter_eq_self.2 fun x _=>by simp
   refine⟨some b,clock,#[],clock,by rw[h2];exact q1x _ _,es,?_,h3.maps b es clock hb hh,hn,hc,Zak _,?_,fun i p e hp he=>?_,by simp⟩
   ·exact Zcf hb (h3.mono b)
   ·rw[hall];simp[hk,hv']
   ·rw[List.getElem?_zip_eq_some]at hp;have he':es[i]?=some e:=by rw[hall]at he;simpa using he
    exact⟨(hr i _ e hp.1 he').ext h3,(hr' i _ e hp.2 he').ext h3⟩
  exact .inl ⟨_,_,by simp[execOp,hop,hv,Go.run_range_map w t k e b es clock ht hh,at_],G',_,⟨trivial,hK⟩,h1⟩
theorem j4O{r:Ref}{v:Value}(h:AVR G w (.ptr r 0) v):v=.pointer (some (at_ (G.b r) 0)):=by cases h;rfl
theorem q0e.j0h{d s:Nat}{ty:TypeId}{x:LX}{K:St→Prop}{σ:St}{left cur:List (D×D)}(hx:σ.ev x=.ptr (.l s) 0)(ho:σ.obj (.l s)=some (.miter left cur))(h0:left=[]→K (σ.put d (.tuple [.d (.bool false)])))
  (h1:∀(i:Nat) (k v:D),left[i]?=some (k,v)→K ((σ.setObj (.l s) (.miter (left.eraseIdx i) [(k,v)])).put d (.tuple [.d (.bool true),.d k,.d v]))):q0e P (some d) (.next false ty) [x] K σ:=by
 intro E _ n G a w o os hp hl hdst hd hσ;obtain⟨X,hop,rfl⟩:=j0t hp;obtain⟨x',hx',he⟩:=z8s hl;cases he;have rx:=hσ.ev hx';rw[hx]at rx;have hv:=j4O rx;have hdn:d<n:=by simpa[q4p]using hd
 obtain⟨m,since,seen,c0,hh,hm⟩:=hσ.obj _ _ ho;have over:left=[]→(Instr.next (.pointer (some (at_ (G.b (.l s)) 0))) false o.type).run P w=.ok (.tuple #[.bool false]) w→z2v P (execOp a.eval o) w (fun v w'=>∃G' σ',ChkK [] K σ'∧SR E n G' σ' (a.put (some d) v).tmps w'):=fun hl hrun=>
  .inl ⟨.tuple #[.bool false],w,by simp only[execOp,hop,hv,Sem.run_bind,hrun];rfl,G,_,⟨trivial,h0 hl⟩,by
   simpa[Act.put]using hσ.put (x:=.tuple [.d (.bool false)]) (.tuple _ _ rfl (by simp[AV.simple]) fun j y hj=>by
    match j,hj with
    |0,hj=>cases hj;exact .d _ _ (.bool _)
    |(j+1),hj=>simp at hj) hdn⟩
 cases m with
 |none=>
  obtain⟨rfl,rfl⟩:=hm;refine over rfl ?_;simp only[Instr.next,at_,getObj,Sem.run_bind,Sem.run,hh,Result.andThen];rfl
 |some bm=>
  obtain⟨es,m1,m2,m3,m4,m5,m6,m7,m8⟩:=hm;rcases z5t (P:=P) w o.type (G.b (.l s)) bm since c0 seen es hh m2 m4 m5 with⟨q1,q2⟩|⟨i,e,w1,q1,q2,q3,q4,q5,q6⟩
  ·exact over (List.length_eq_zero_iff.1 (by rw[m6,q1];rfl)) q2
  ·have hi:i<left.length:=by rw[m6];exact(Zac.1 q1).1
   obtain⟨r1,r2⟩:=m7 i left[i] e (Zal hi) q1;have hne:bm≠G.b (.l s):=fun e'=>by rw[e',hh]at m2;cases m2
   refine .inl ⟨.tuple #[.bool true,e.key,e.val],_,by simp only[execOp,hop,hv,Sem.run_bind,q6];rfl,G,_,⟨trivial,h1 i left[i].1 left[i].2 (Zal hi)⟩,?_⟩;have hold:∀b,b≠G.b (.l s)→(w1.heap.setIfInBounds (G.b (.l s)) (Obj.mapIter (some bm) since (seen.push e.born) c0))[b]?=w.heap[b]?:=fun b hb=>by rw[q2];exact Zbp (Ne.symm hb)
   have hlt:=(hσ.obj _ _ ho).lt;have hS:=hσ.setIter (w':={ w1 with heap:=w1.heap.setIfInBounds (G.b (.l s)) (.mapIter (some bm) since (seen.push e.born) c0) }) ho (o':=.miter (left.eraseIdx i) [(left[i].1,left[i].2)]) rfl (by simp[q2]) hold q3 q4 q5 fun hext=>by
    refine⟨some bm,since,seen.push e.born,c0,by simp[q2,hlt],es,m1,by rw[hold bm hne];exact m2,m3,m4,m5,?_,fun j p e' hp he'=>?_,fun p hp=>?_⟩
    ·rw[z8l m3 q1,List.length_eraseIdx,List.length_eraseIdx,m6]
    ·rw[z8l m3 q1,List.getElem?_eraseIdx]at he';rw[List.getElem?_eraseIdx]at hp;split at hp
     ·rename_i hji;rw[if_pos hji]at he';exact⟨(m7 j p e' hp he').1.ext hext,(m7 j p e' hp he').2.ext hext⟩
     ·rename_i hji;rw[if_neg hji]at he';exact⟨(m7 (j+1) p e' hp he').1.ext hext,(m7 (j+1) p e' hp he').2.ext hext⟩
    ·simp at hp;subst hp;refine⟨e,(Zcd.1 (Zaf q1)).1,⟨seen,rfl⟩,r1.ext hext,r2.ext hext⟩
   have hext':Ext G.f w G.f { w1 with heap:=w1.heap.setIfInBounds (G.b (.l s)) (.mapIter (some bm) since (seen.push e.born) c0) }:=⟨by simp[q2],fun _=>Zak _,fun b j hj=>by
    have hb:b≠G.b (.l s):=fun e'=>by rw[e',hσ.objf _ _ ho]at hj;omega
    simp only[World.cell?,at_];rw[hold b hb],fun b es' c hb0 hm'=>by rw[hold b (fun e'=>by rw[e',hσ.objf _ _ ho]at hb0;omega)];exact hm'⟩
   simpa[Act.put]using hS.put (x:=.tuple [.d (.bool true),.d left[i].1,.d left[i].2]) (v:=.tuple #[.bool true,e.key,e.val]) (.tuple _ _ rfl (by simp[AV.simple]) fun j y hj=>by
    match j,hj with
    |0,hj=>cases hj;exact .d _ _ (.bool _)
    |1,hj=>cases hj;exact .d _ _ (r1.ext hext')
    |2,hj=>cases hj;exact .d _ _ (r2.ext hext')
    |(j+3),hj=>simp at hj) hdn
theorem q0e.j07{d s:Nat}{x:LX}{K:St→Prop}{σ:St}{left:List (D×D)}{k v:D}(hx:σ.ev x=.ptr (.l s) 0)(ho:σ.obj (.l s)=some (.miter left [(k,v)]))(hK:K (σ.put d (.tuple [.d k,.d v]))):q0e P (some d) .entry [x] K σ:=by
 refine q0e.value (.tuple [.d k,.d v]) (fun E _ n G a w o os hp hl hσ=>?_) hK;obtain⟨X,hop,rfl⟩:=z8V hp;obtain⟨x',hx',he⟩:=z8s hl;cases he;have rx:=hσ.ev hx';rw[hx]at rx;have hv:=j4O rx;obtain⟨m,since,seen,c0,hh,hm⟩:=hσ.obj _ _ ho;cases m with
 |none=>obtain⟨_,h⟩:=hm;cases h
 |some bm=>
  obtain⟨es,m1,m2,m3,m4,m5,m6,m7,m8⟩:=hm;obtain⟨e,e1,⟨s',rfl⟩,e3,e4⟩:=m8 (k,v) (by simp);refine⟨.tuple #[e.key,e.val],by simp only[execOp,hop,hv,Sem.run_bind,z4L w _ bm since c0 s' es e hh m2 e1 m3];rfl,.tuple _ _ rfl (by simp[AV.simple]) fun j y hj=>?_⟩;match j,hj with
  |0,hj=>cases hj;exact .d _ _ e3
  |1,hj=>cases hj;exact .d _ _ e4
  |(j+2),hj=>simp at hj
/-! ### Walks through strings -/
end Go.Av
/- Maps that a function makes for itself. -/
namespace Go.Av
open Go.RowKit
variable {E:Entry} {n:Nat} {G:q0s} {σ:St} {ts:Array Value} {w:World} {P:Program} [Inv P]
theorem z8X{o:Oper}{t:TypeId}{os:List Operand}(h:q2w P o=some (.mkMap t,os)):∃r,o.op=.makeMap t r∧os=r.toList:=by
 unfold q2w at h;split at h;all_goals first
  |(cases h;done)
  |(rename_i ho;cases h;exact⟨_,ho,rfl⟩)
  |(split at h<;>(try cases h)<;>(split at h<;>cases h))
  |(split at h<;>cases h)
theorem z1w{o:Oper}{t:TypeId}{os:List Operand}(h:q2w P o=some (.mapUpd t,os)):∃m k x,(o.op=.mapUpdate t m k x∨o.op=.insert t m k x)∧os=[m,k,x]:=by
 unfold q2w at h;split at h;all_goals first
  |(cases h;done)
  |(rename_i ho;cases h;exact⟨_,_,_,.inl ho,rfl⟩)
  |(rename_i ho;cases h;exact⟨_,_,_,.inr ho,rfl⟩)
  |(split at h<;>(try cases h)<;>(split at h<;>cases h))
  |(split at h<;>cases h)
theorem SR.j8l(h:SR E n G σ ts w){d:Nat}(hn:d<n){o:Obj}{o':AObj}{x:AV}{v:Value}
  (ho:∀G':q0s,G'.f=updf G.f w.heap.size 0→G'.b (.l d)=w.heap.size→Ext G.f w G'.f (w.alloc o)→ObjR G' (w.alloc o) (.l d) o')
  (hx:∀G':q0s,G'.b (.l d)=w.heap.size→AVR G' (w.alloc o) x v):
  ∃G',SR E n G' (((σ.drop d).setObj (.l d) o').put d x) (ts.setIfInBounds d v) (w.alloc o):=by
 have h1:=(h.drop d).alloc o 0;have hlt:∀r o,(σ.drop d).obj r=some o→G.b r<w.heap.size:=fun r o ho=>((h.drop d).obj r o ho).lt
 have hρ:∀t x,aget (σ.drop d).ρ t=some x→x.has (.l d)=false:=fun t x hx=>by
  simp only[St.drop,q0G]at hx;cases hy:aget σ.ρ t with
  |none=>simp[hy]at hx
  |some y=>simp[hy]at hx;subst hx;exact(AV.q2Q _ _)
 have hL:∀t cs x,aget (σ.drop d).L t=some (.cells cs)→x∈cs→x.has (.l d)=false:=fun t cs x hx hm=>by
  simp only[St.drop,q0G]at hx;cases hy:aget σ.L t with
  |none=>simp[hy]at hx
  |some y=>
   simp[hy]at hx;cases y with
   |siter s p=>simp[q0P]at hx
   |miter l c=>simp[q0P]at hx
   |mobj l c=>simp[q0P]at hx
   |cells cs'=>simp[q0P]at hx;subst hx;obtain⟨y,_,rfl⟩:=Zat.1 hm;exact AV.q2Q _ _
 have hext:Ext G.f w (updf G.f w.heap.size 0) (w.alloc o):=Ext.alloc w h.top _ 0;have h2:=h1.j0Z d w.heap.size o' hρ hL (by show updf G.f w.heap.size 0 w.heap.size=0;simp) (fun r o ho=>by have:=hlt r o ho;exact fun e'=>by have e'':G.b r=w.heap.size:=e';omega)
  (fun q v p hq hb=>by obtain⟨e1,s1⟩:=p;have:=(h.lam q v e1 s1 hq).lt hb;omega) h.ext.size
  (ho _ rfl (by simp) hext)
 exact⟨_,h2.put (hx _ (by simp)) hn⟩
theorem q0e.mkMap{d:Nat}{t k e:TypeId}{K:St→Prop}{σ:St}(ht:P.underlying t=some (.map k e))(hK:K (((σ.drop d).setObj (.l d) (.mobj [] [])).put d (.mp (.l d)))):q0e P (some d) (.mkMap t) [] K σ:=by
 intro E _ n G a w o os hp hl hdst hd hσ;obtain⟨r,hop,rfl⟩:=z8X hp;have hr:r=none:=by
  cases r with
  |none=>rfl
  |some r=>have:=z8t hl;simp at this
 subst hr;obtain⟨G',h1⟩:=hσ.j8l (by simpa[q4p]using hd) (o:=.map #[] 0) (o':=.mobj [] []) (x:=.mp (.l d)) (v:=.map (some w.heap.size))
  (fun G' h1 h2 h3=>⟨#[],0,by rw[h2];exact q1x _ _,rfl,rfl,by simp,by simp,by simp,by simp⟩) (fun G' h2=>by rw[←h2];exact .mp _)
 refine .inl ⟨_,_,?_,G',_,⟨trivial,hK⟩,h1⟩;simp[execOp,hop,Instr.makeMap,newObj,Sem.run]
theorem z8A{r:Ref}{v:Value}(h:AVR G w (.mp r) v):v=.map (some (G.b r)):=by cases h;rfl
theorem q0e.j7x{t kt e:TypeId}{kd:TypeDesc}{m i x:LX}{K:St→Prop}{σ:St}{ks vs:List D}{key v:D}{s:Ref}(hm:σ.ev m=.mp s)(ho:σ.obj s=some (.mobj ks vs))(hi:σ.ev i=.d key)(hx:(σ.ev x).rd=some v)
  (ht:P.underlying t=some (.map kt e)) (hkt:P.underlying kt=some kd) (hkey:q17 kd key=true) (hks:∀k∈ks,q17 kd k=true) (hnew:q7R ks vs key=none)
  (hK:K (σ.setObj s (.mobj (ks++[key]) (vs++[v])))):q0e P none (.mapUpd t) [m,i,x] K σ:=by
 intro E _ n G a w o os hp hl hdst hd hσ;obtain⟨M,I,X,hop,rfl⟩:=z1w hp;obtain⟨m',i',x',hm',hi',hx',he⟩:∃m' i' x',q1o M=some m'∧q1o I=some i'∧q1o X=some x'∧[m,i,x]=[m',i',x']:=by
  simp only[q2x]at hl;split at hl
  ·rename_i a b h1 h2;split at h2
   ·rename_i c d h3 h4;split at h4
    ·rename_i e f h5 h6;cases h6;cases h4;cases h2;exact⟨_,_,_,h1,h3,h5,(Option.some.inj hl).symm⟩
    ·cases h4
   ·cases h2
  ·cases hl
 cases he;have rm:=hσ.ev hm';have ri:=hσ.ev hi';have rx:=hσ.ev hx';rw[hm]at rm;rw[hi]at ri;have hmv:=z8A rm;have ri:=ri.dinv;have rx:=rx.rd hx;obtain⟨es,clock,hh,k1,k2,k3,k4,k5,k6⟩:=hσ.obj _ _ ho;have hkk:=q1J hkey ri;have hlt:=(hσ.obj _ _ ho).lt;rcases find_spec hkey ri es.toList ks vs 0 (by simpa using k1) (by simpa using k2) hks (fun i k e h1 h2=>k5 i k e h1 (by simpa using h2)) (fun i k e h1 h2=>k6 i k e h1 (by simpa using h2))with⟨_,h2⟩|⟨u,j,q,h1,_⟩
 ·have hrun:(Instr.mapUpdate t (.map (some (G.b s))) (a.eval I) (a.eval X)).run P w=.ok () { w with heap:=w.heap.setIfInBounds (G.b s) (.map (es.push { key:=a.eval I,val:=a.eval X,born:=clock }) (clock+1)) }:=by
   simp[Instr.mapUpdate,run_underlying ht,MapKept.run_getObj_map hh,MapKept.run_checkKey hkt hkk,MapKept.run_findKey hkt h2,MapKept.run_setObj_map _ hh,Result.andThen]
  have hS:=hσ.setIter (w':={ w with heap:=w.heap.setIfInBounds (G.b s) (.map (es.push { key:=a.eval I,val:=a.eval X,born:=clock }) (clock+1)) }) ho (o':=.mobj (ks++[key]) (vs++[v])) rfl (by simp)
   (fun b hb=>Zbp (Ne.symm hb)) rfl rfl rfl fun hext=>by
     refine⟨_,_,by simp[hlt];exact⟨rfl,rfl⟩,by simp[k1],by simp[k2],?_,fun e he=>?_,fun i k e hk he=>?_,fun i k e hk he=>?_⟩
     ·simp only[Array.toList_push,List.map_append,Zbo,Zbs];rw[List.nodup_append];refine⟨k3,by simp,fun a ha b hb=>?_⟩;simp at hb;subst hb;obtain⟨e,he,rfl⟩:=Zat.1 ha;have:=k4 e he;omega
     ·simp only[Array.toList_push,Zaz,Zci]at he;rcases he with he|rfl
      ·have:=k4 e he;omega
      ·simp
     ·rw[Array.getElem?_push]at he
      by_cases hi:i=es.size
      ·rw[if_pos hi]at he;cases he;rw[hi,←k1,Zam (Zak _)]at hk;simp at hk;subst hk;exact ri.ext hext
      ·rw[if_neg hi]at he;have hi2:=(Zar.1 he).1;rw[Zaj (by omega)]at hk;exact(k5 i k e hk he).ext hext
     ·rw[Array.getElem?_push]at he
      by_cases hi:i=es.size
      ·rw[if_pos hi]at he;cases he;rw[hi,←k2,Zam (Zak _)]at hk;simp at hk;subst hk;exact rx.ext hext
      ·rw[if_neg hi]at he;have hi2:=(Zar.1 he).1;rw[Zaj (by omega)]at hk;exact(k6 i k e hk he).ext hext
  refine .inr (.inl ⟨_,?_,G,_,⟨trivial,hK⟩,by simpa[Act.put]using hS⟩);rcases hop with hop|hop<;>simp only[execOp,hop,hmv,Sem.run_bind,hrun]<;>rfl
 ·rw[hnew]at h1;cases h1
theorem q0e.j4q{d:Nat}{t kt e:TypeId}{kd:TypeDesc}{x i:LX}{K:St→Prop}{σ:St}{ks vs:List D}{key zero:D}{s:Ref}(hx:σ.ev x=.mp s)(ho:σ.obj s=some (.mobj ks vs))(hi:σ.ev i=.d key)
  (ht:P.underlying t=some (.map kt e)) (hkt:P.underlying kt=some kd) (hkey:q17 kd key=true) (hks:∀k∈ks,q17 kd k=true) (hz:Program.zeroOf P e=some zero)
  (hK:K (σ.put d (.tuple [.d ((q7R ks vs key).getD zero),.d (.bool (q7R ks vs key).isSome)]))):q0e P (some d) (.lookup t true) [x,i] K σ:=by
 refine q0e.value _ (fun E _ n G a w o os hp hl hσ=>?_) hK;obtain⟨X,I,hop,rfl⟩:=q8n hp;obtain⟨x',i',hx',hi',he⟩:=z4a hl;cases he;have rx:=hσ.ev hx';have ri:=hσ.ev hi';rw[hx]at rx;rw[hi]at ri;have hv:=z8A rx;have ri:=ri.dinv;generalize hvi:a.eval I=vi at ri;obtain⟨zi,zv,hzi,hzv,hzc⟩:∃zi zv,P.info? e=some zi∧zi.zero=some zv∧cst zv=some zero:=by
  unfold Program.zeroOf at hz;obtain⟨zv,h1,h2⟩:=Zch.1 hz;obtain⟨zi,h3,h4⟩:=Zch.1 h1;exact⟨zi,zv,h3,h4,h2⟩
 have hzero:∀w,(zeroValue e).run P w=.ok zv w:=fun w=>by simp[zeroValue,typeInfo,hzi,hzv]
 have hkk:=q1J hkey ri;have tup:∀(u:D) (uv:Value) (b:Bool),RD G.f w u uv→AVR G w (.tuple [.d u,.d (.bool b)]) (.tuple #[uv,.bool b]):=fun u uv b hu=>
  .tuple _ _ rfl (by simp[AV.simple]) fun j y hj=>by
   match j,hj with
   |0,hj=>cases hj;exact .d _ _ hu
   |1,hj=>cases hj;exact .d _ _ (.bool _)
   |(j+2),hj=>simp at hj
 obtain⟨es,clock,hh,k1,k2,k3,k4,k5,k6⟩:=hσ.obj _ _ ho;rcases find_spec hkey ri es.toList ks vs 0 (by simpa using k1) (by simpa using k2) hks (fun i k e h1 h2=>k5 i k e h1 (by simpa using h2)) (fun i k e h1 h2=>k6 i k e h1 (by simpa using h2))with⟨h1,h2⟩|⟨v,j,u,h1,h2,h3⟩
 ·rw[h1];refine⟨.tuple #[zv,.bool false],?_,tup _ _ _ (z0b hzc)⟩;simp only[execOp,hop,hv,hvi,Instr.lookup,Sem.run_bind,run_underlying ht,Result.andThen_ok,Sem.run_pure,MapKept.run_getObj_map hh,MapKept.run_checkKey hkt hkk,MapKept.run_findKey hkt h2,hzero];rfl
 ·rw[h1];refine⟨.tuple #[u,.bool true],?_,tup _ _ _ h3⟩;simp only[execOp,hop,hv,hvi,Instr.lookup,Sem.run_bind,run_underlying ht,Result.andThen_ok,Sem.run_pure,MapKept.run_getObj_map hh,MapKept.run_checkKey hkt hkk,MapKept.run_findKey hkt h2];rfl
end Go.Av
