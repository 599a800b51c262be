import Derived.Test.YtfkdhlghpjbbpaaGreatDoorAvF
import Derived.MapKept
import Derived.Laws.IdiomRangeMap
set_option linter.unusedSectionVars false
/- Rows whose elements may be written in place: appending to them. -/
namespace Go.Av
variable {E:Entry} {n:Nat} {G:q0x} {σ:St} {ts:Array Value} {w:World} {P:Program} [Inv P]
def rowC(sz:Nat)(fs:List D)(c:Nat):List AV:=(fs.flatMap D.cells).map .d++List.replicate ((c-fs.length)*sz) .junk
theorem q0G{sz:Nat}:∀{fs:List D},(∀y∈fs,y.cells.length=sz)→(fs.flatMap D.cells).length=fs.length*sz
 |[],_=>by simp
 |f::fs,h=>by
  rw[List.flatMap_cons,Zaq,q0G (fun y hy=>h y (by simp[hy])),h f (by simp),Zad,Nat.add_mul];omega
theorem q4j{sz c:Nat}{fs:List D}(h:∀y∈fs,y.cells.length=sz)(hc:fs.length≤c):(rowC sz fs c).length=c*sz:=by
 rw[rowC,Zaq,Zas,q0G h,List.length_replicate,←Nat.add_mul];congr 1;omega
theorem z47{sz:Nat}:∀{fs:List D},(∀y∈fs,y.cells.length=sz)→∀{i:Nat} {y:D},(fs.flatMap D.cells)[i]?=some y→∃k j f,fs[k]?=some f∧f.cells[j]?=some y∧i=k*sz+j∧j<sz
 |[],_,i,y,h=>by simp at h
 |f::fs,hc,i,y,h=>by
  have hf:=hc f (by simp);rw[List.flatMap_cons]at h
  by_cases hi:i<sz
  ·rw[Zag (by omega)]at h;exact⟨0,i,f,rfl,h,by omega,hi⟩
  ·rw[Zao (by omega),hf]at h;obtain⟨k,j,g,h1,h2,h3,h4⟩:=z47 (fun y hy=>hc y (by simp[hy])) h;exact⟨k+1,j,g,by simpa using h1,h2,by rw[Nat.add_mul];omega,h4⟩
theorem j1T{sz:Nat}{fs:List D}(hc:∀y∈fs,y.cells.length=sz){k j:Nat}{f y:D}(hk:fs[k]?=some f)(hj:f.cells[j]?=some y):(fs.flatMap D.cells)[k*sz+j]?=some y:=by
 induction fs generalizing k with
 |nil=>simp at hk
 |cons g fs ih=>
  rw[List.flatMap_cons];have hg:=hc g (by simp);cases k with
  |zero=>
   simp at hk;subst hk;have:=(Zab.1 hj).1;rw[Zag (by omega)];simpa using hj
  |succ k=>
   simp at hk;rw[Zao (by rw[Nat.add_mul];omega),hg];have:=ih (fun y hy=>hc y (by simp[hy])) hk;rw[←this];congr 1;rw[Nat.add_mul];omega
def q9S(w:World)(v:Value):Prop:=∀b arr el fr,v.ownBlock=some b→w.heap[b]?=some (.cells arr el fr)→∀x∈arr.toList,x.oneCell'=true
theorem z5X{z:Array Value}{k:Nat}{x:Value}(h:x∈(Builtin.zeroCells z k).toList):x∈z.toList:=by
 unfold Builtin.zeroCells at h;simp only[Array.toList_map,Array.toList_range,Zak,Zcr]at h;obtain⟨i,hi,rfl⟩:=h
 have hz:0<z.size:=by rcases Nat.eq_zero_or_pos z.size with h|h;· rw[h]at hi;omega
                      ·exact h
 have:=Nat.mod_lt i hz;rw[getElem!_pos z (i % z.size) this];simp
theorem q9n(w:World)(t tx ty e el:TypeId)(i:TypeInfo)(z:Value)(ht:P.underlying t=some (.slice e))(hi:P.info? e=some i)(hz:i.zero=some z)(hzs:z.cells.size=i.size)
  (v:Value) (k:Nat) (xs:List Value) (hown:w.ownsRow 0 el i.size v k xs) (x:Value) (m:Nat) (news:List Value) (hs:Src P i.size tx x m news w)
  (h63:k+m≤maxLen) (hbytes:(k+m)*i.bytes≤140737488355328) (hm:m≠0) (ho:q9S w v) (hzo:∀x∈z.cells.toList,x.oneCell'=true):
  ∃v' w' el',(Builtin.append_ #[t,tx] ty #[v,x]).run P w=.ok v' w'∧w'.ownsRow 0 el' i.size v' (k+m) (xs++news)∧Grow w w' v v' (k*i.size)∧q9S w' v':=by
 have hsmall:k+m≤9223372036854775807:=by simp only[maxLen]at h63;omega
 have hlen:(xs++news).length=(k+m)*i.size:=by rw[Zaq,hown.1,hs.newsLen,Nat.add_mul]
 have hxs:∀x∈xs,x.oneCell'=true:=by
  rcases hown.2 with⟨_,rfl⟩|⟨g,cap,cur,rfl,hbg,hg,hnc,hcm,hcs,htake⟩
  ·have:xs=[]:=Zbt (by simpa using hown.1);subst this;simp
  ·intro x hx;rw[←htake]at hx;exact ho g cur _ _ rfl hg x (Zcd hx)
 have grown:∀(old:Nat),old<k+m→
   (w.drew.alloc (.cells ((xs++news).toArray++Builtin.zeroCells z.cells (grownCap w (k+m) old e-(k+m))) e)).ownsRow 0 e i.size
     (.slice (some ⟨w.heap.size,0,none⟩) (k+m) (grownCap w (k+m) old e)) (k+m) (xs++news)∧
   Grow w (w.drew.alloc (.cells ((xs++news).toArray++Builtin.zeroCells z.cells (grownCap w (k+m) old e-(k+m))) e)) v (.slice (some ⟨w.heap.size,0,none⟩) (k+m) (grownCap w (k+m) old e)) (k*i.size)∧
   q9S (w.drew.alloc (.cells ((xs++news).toArray++Builtin.zeroCells z.cells (grownCap w (k+m) old e-(k+m))) e)) (.slice (some ⟨w.heap.size,0,none⟩) (k+m) (grownCap w (k+m) old e)):=by
  intro old hold;have hge:=grownCap_ge w (k+m) old e;have hcm:grownCap w (k+m) old e≤maxLen:=grownCap_le_maxLen w (k+m) old e h63;have hnew:(w.drew.alloc (.cells ((xs++news).toArray++Builtin.zeroCells z.cells (grownCap w (k+m) old e-(k+m))) e)).heap[w.heap.size]?=_:=q1P w.drew _;refine⟨⟨hlen,.inr ⟨w.heap.size,_,_,rfl,Zar _,hnew,hge,hcm,?_,?_⟩⟩,⟨by simp,fun b hb _=>q26 w.drew _ hb,fun b hb j _=>?_,.inr ⟨_,rfl,Zal _⟩,rfl,rfl,rfl⟩,?_⟩
  ·simp only[Array.size_append,List.size_toArray,size_zeroCells,hzs,hlen,←Nat.add_mul];congr 1
   omega
  ·simp only[Array.toList_append];rw[←hlen];exact List.take_left
  ·have hlt:=hown.lt b hb;simp only[World.cell?,at_];rw[q26 w.drew _ hlt.2];rfl
  ·intro b arr el' fr hb hh x hx;simp only[Value.ownBlock,Zax]at hb;subst hb;rw[hnew]at hh;cases hh;simp only[Array.toList_append,Zbb]at hx;rcases hx with(hx|hx)|hx
   ·exact hxs x hx
   ·exact hs.one x hx
   ·exact hzo x (z5X hx)
 rcases hown.2 with⟨rfl,rfl⟩|⟨g,cap,cur,rfl,hbg,hg,hnc,hcm,hcs,htake⟩
 ·have hx:xs=[]:=Zbt (by simpa using hown.1);subst hx;have hr:=run_append_grow_src (P:=P) w t tx ty e i z ht hi hz none 0 0 [] (run_firstCells_none w.drew i.size 0 0 0) x m news hs (by omega) (by omega) (growslice_fits (by omega) hbytes);have hgr:=grown 0 (by omega);simp only[Zaw,Zbu]at hgr hr ⊢;exact⟨_,_,_,hr,hgr.1,hgr.2.1,hgr.2.2⟩
 ·by_cases hroom:k+m≤cap
  ·have hfit:k*i.size+0+news.length≤cur.size:=by rw[hs.newsLen,hcs,Zcn,←Nat.add_mul];exact Zbx _ hroom
   have hst:=run_storeCells_at P g (k*i.size) el news 0 cur w hg hfit hs.one;simp only[Zcn]at hst;have hr:(Builtin.append_ #[t,tx] ty #[.slice (some ⟨g,0,none⟩) k cap,x]).run P w=.ok (.slice (some ⟨g,0,none⟩) (k+m) cap) (w.setRow g (cur.toList.take (k*i.size)++news++cur.toList.drop (k*i.size+news.length)).toArray):=by
    rcases hs.kind with⟨e',hk⟩|hk<;>simp[Builtin.append_,run_underlying ht,run_underlying hk,sizeOf,typeInfo,hi,hs.len,hroom,hs.cells,Addr.add_lit,hst]
   have hheap:=setRow_heap w g cur (cur.toList.take (k*i.size)++news++cur.toList.drop (k*i.size+news.length)).toArray el _ hg;refine⟨_,_,_,hr,⟨hlen,.inr ⟨g,cap,_,rfl,Zar _,hheap,hroom,hcm,?_,?_⟩⟩,⟨by simp,fun b _ hb=>setRow_other w g b _ (fun e=>hb (by simp[Value.ownBlock,e])),fun b hb j hj=>?_,.inl rfl,rfl,rfl,rfl⟩,?_⟩
   ·simp only[List.size_toArray,Zaq,Zcb,Zby,Array.length_toList];omega
   ·rw[htake,←hlen];exact List.take_left
   ·simp[Value.ownBlock]at hb;subst hb;simp only[World.cell?,at_,hheap,hg];have h1:(cur.toList.take (k*i.size)).length=k*i.size:=by rw[htake];exact hown.1
    simp only[Zcg,Zan,if_false,List.getElem?_toArray,Zcs];rw[Zag (by omega),Zbi,if_pos hj];simp
   ·intro b arr el' fr hb hh y hy;simp only[Value.ownBlock,Zax]at hb;subst hb;rw[hheap]at hh;cases hh;simp only[Zbb]at hy;rcases hy with(hy|hy)|hy
    ·exact ho g cur _ _ rfl hg y (Zcd hy)
    ·exact hs.one y hy
    ·exact ho g cur _ _ rfl hg y (List.mem_of_mem_drop hy)
  ·have holds:(Builtin.firstCells i.size k (.slice (some ⟨g,0,none⟩) k cap)).run P w.drew=.ok xs.toArray w.drew:=
    run_firstCells_some w.drew i.size k ⟨g,0,none⟩ k cap xs hown.1 (hown.cells (g:=g) rfl)
   have hr:=run_append_grow_src (P:=P) w t tx ty e i z ht hi hz (some ⟨g,0,none⟩) k cap xs holds x m news hs (by omega) (by omega) (growslice_fits (by omega) hbytes);have hgr:=grown cap (by omega);exact⟨_,_,_,hr,hgr.1,hgr.2.1,hgr.2.2⟩
def j7L(G:q0x)(σ:St)(d:Nat)(v:Value):Prop:=v=.slice none 0 0∨∃o k c,σ.obj (.l d)=some o∧v=.slice (some (at_ (G.b (.l d)) 0)) k c
theorem SR.j9H(h:SR E n G σ ts w)(d:Nat){v v':Value}{w':World}{e sz m:Nat}{xs':List Value}{fs:List D}(hv:j7L G σ d v)
  (hg:Grow w w' v v' 0) (hown:w'.ownsRow 0 e sz v' m xs') (hm:m≠0) (hone:q9S w' v') (hfl:fs.length=m) (hfs:∀y∈fs,y.cells.length=sz)
  (hrd:∀(i:Nat) (y:D),(fs.flatMap D.cells)[i]?=some y→RD G.f w' y (xs'.getD i undef)):
  ∃b c,m≤c∧c≤maxLen∧v'=.slice (some (at_ b 0)) m c∧SR E n { G with b:=updf G.b (.l d) b } ((σ.drop d).setObj (.l d) (.cells (rowC sz fs c))) ts w':=by
 rcases hown.2 with⟨_,h0⟩|⟨g,cap,cur,rfl,hbg,hgg,hnc,hcm,hcs,htake⟩
 ·exact absurd h0 hm
 refine⟨g,cap,hnc,hcm,rfl,?_⟩;have hd:=h.drop d;have hobj1:∀r o,St.obj { σ.drop d with L:=adel (σ.drop d).L d } r=some o→r≠.l d∧(σ.drop d).obj r=some o:=fun r o hr=>by
  cases r with
  |l t=>
   simp only[St.obj,q0O]at hr;split at hr
   ·cases hr
   ·rename_i hne;exact⟨fun e=>hne (by injection e with e;exact e.symm),hr⟩
  |x k=>exact⟨by simp,hr⟩
 have h1:SR E n G { σ.drop d with L:=adel (σ.drop d).L d } ts w:=hd.wk ⟨fun _ _ h=>h,fun r o hr=>(hobj1 r o hr).2⟩;have old:∀b,v.ownBlock=some b→∃o,σ.obj (.l d)=some o∧b=G.b (.l d):=fun b hb=>by
  rcases hv with rfl|⟨o,k,c,h2,rfl⟩
  ·cases hb
  ·simp[Value.ownBlock,at_]at hb;exact⟨o,h2,hb.symm⟩
 have hX:∀b,v.ownBlock=some b→(∀r o,St.obj { σ.drop d with L:=adel (σ.drop d).L d } r=some o→G.b r≠b)∧(∀q v p,G.lam q=some (v,p)→v.ownBlock≠some b)∧(E.w0.heap.size≤b∨E.M b):=fun b hb=>by
  obtain⟨o,ho,rfl⟩:=old b hb;refine⟨fun r o' hr e=>?_,fun q vq p hq hvb=>?_,h.newObj _ _ ho⟩
  ·obtain⟨h2,h3⟩:=hobj1 r o' hr;obtain⟨o2,h4,_⟩:=σ.q7X d r h3;exact h2 (h.inj _ _ _ _ h4 ho e)
  ·obtain⟨e1,s1⟩:=p;exact h.lamObj q vq e1 s1 _ hq hvb _ _ ho rfl
 have hf0:∀b,v.ownBlock=some b→G.f b=0:=fun b hb=>by
  obtain⟨o,ho,rfl⟩:=old b hb;exact h.objf _ _ ho
 have hext:Ext G.f w G.f w':=⟨hg.size,fun _=>Zal _,fun b i hi=>by
  by_cases hb:v.ownBlock=some b
  ·rw[hf0 b hb]at hi;omega
  ·have hlt:b<w.heap.size:=by
    rcases Zbc b w.heap.size with h2|h2
    ·exact h2
    ·rw[h.top b h2]at hi;omega
   simp only[World.cell?,at_];rw[hg.block b hlt hb],fun b es c hb hm=>by rw[hg.block b (Zat.1 hm).1 (fun e=>by rw[hf0 b e]at hb;omega)];exact hm⟩
 have h2:SR E n { G with f:=G.f } { σ.drop d with L:=adel (σ.drop d).L d } ts w':=h1.z1I (fun b=>v.ownBlock=some b) hX hext (fun b hb hx=>⟨hg.block b hb hx,rfl⟩) (fun b hb=>h.top b (Zbw hg.size hb)) hg.os hg.tape hg.output;have hgn:v.ownBlock=some g∨w.heap.size≤g:=by
  rcases hg.own with h3|⟨b,h3,h4⟩
  ·exact .inl h3.symm
  ·simp[Value.ownBlock]at h3;subst h3;exact .inr h4
 have h3:=h2.z7q d g (.cells (rowC sz fs cap))
  (fun t x hx=>by
    have hx:aget (σ.drop d).ρ t=some x:=hx;simp only[St.drop,q0p]at hx;cases hy:aget σ.ρ t with
    |none=>simp[hy]at hx
    |some y=>simp[hy]at hx;subst hx;exact AV.q4Q _ _)
  (fun t cs x hx hm=>by
    have hx:aget (adel (σ.drop d).L d) t=some (.cells cs):=hx;simp only[q0O]at hx;split at hx
    ·cases hx
    ·simp only[St.drop,q0p]at hx;cases hy:aget σ.L t with
     |none=>simp[hy]at hx
     |some o=>
      cases o with
      |siter s p=>simp[hy,q0q]at hx
      |miter l c=>simp[hy,q0q]at hx
      |mobj l c=>simp[hy,q0q]at hx
      |cells cs0=>
       simp[hy,q0q]at hx;subst hx;obtain⟨y,_,rfl⟩:=Zak.1 hm;exact AV.q4Q _ _)
  (by rcases hgn with h4|h4
      ·exact hf0 g h4
      ·exact h.top g h4)
  (fun r o hr=>by
    rcases hgn with h4|h4
    ·exact(hX g h4).1 r o hr
    ·have:=(h1.obj r o hr).lt;exact fun e=>by rw[e]at this;omega)
  (fun q vq p hq=>by
    rcases hgn with h4|h4
    ·exact(hX g h4).2.1 q vq p hq
    ·intro hb;obtain⟨e1,s1⟩:=p;have:=(h.lam q vq e1 s1 hq).lt hb;omega)
  (by rcases hgn with h4|h4
      ·exact(hX g h4).2.2
      ·exact .inl (Zbw h.ext.size h4))
  (by
    have hl:=q4j hfs (c:=cap) (by omega);refine⟨cur,e,by show w'.heap[updf G.b (.l d) g (.l d)]?=_;rw[q0V];exact hgg,by rw[hcs,hl],fun i x hx=>?_⟩;have hi:i<cur.size:=by rw[hcs,←hl];exact(Zab.1 hx).1
    have hmem:cur.getD i undef∈cur.toList:=by simp[hi]
    have h1c:=hone g cur e _ rfl hgg _ hmem;unfold rowC at hx
    by_cases hlt:i<(fs.flatMap D.cells).length
    ·rw[Zag (by simpa using hlt),Zae]at hx;cases hy:(fs.flatMap D.cells)[i]? with
     |none=>simp[hy]at hx
     |some y=>
      simp[hy]at hx;subst hx;have hcx:cur.getD i undef=xs'.getD i undef:=by
       rw[q0G hfs,hfl]at hlt;rw[←htake,List.getD_eq_getElem?_getD,Zbi,if_pos hlt];simp
      exact⟨.d _ _ (by rw[hcx];exact hrd i y hy),h1c,(fun q hq=>by cases hq),(fun e he=>by cases he)⟩
    ·rw[Zao (by simpa using hlt)]at hx;have:x=.junk:=(Zcy.1 (Zaa hx)).2;subst this;exact⟨.junk _,h1c,(fun q hq=>by cases hq),(fun e he=>by cases he)⟩)
 refine h3.congr rfl (fun r=>?_);simp only[St.q0X];split
 ·rfl
 ·rename_i hne;cases r with
  |l t=>
   have:d≠t:=fun e=>hne (by rw[e])
   simp only[St.obj,q0O,if_neg this]
  |x k=>rfl
def q9N(P:Program)(e:TypeId):Bool:=
 match P.info? e with
 |some ti=>match ti.zero with
  |some z=>z.cells.size==ti.size&&z.cells.all fun x=>x.oneCell'
  |none=>false
 |none=>false
theorem z3E{e:TypeId}(h:q9N P e=true):∃i z,P.info? e=some i∧i.zero=some z∧z.cells.size=i.size∧∀x∈z.cells.toList,x.oneCell'=true:=by
 unfold q9N at h;split at h
 ·rename_i ti hi;split at h
  ·rename_i z hz;simp only[Zac,beq_iff_eq,Array.all_eq_true_iff_forall_mem]at h;exact⟨ti,z,hi,hz,h.1,fun x hx=>h.2 x (by simpa using hx)⟩
  ·cases h
 ·cases h
theorem z0Z{t e sz by_:Nat}(h:q3V P t=some (e,sz,by_)):∃i,P.underlying t=some (.slice e)∧P.info? e=some i∧i.size=sz∧i.bytes=by_:=by
 unfold q3V at h;split at h
 ·rename_i e0 ht;split at h
  ·rename_i ti hi;simp only[Zax,Prod.mk.injEq]at h;obtain⟨rfl,rfl,rfl⟩:=h;exact⟨ti,ht,hi,rfl,rfl⟩
  ·cases h
 ·cases h
theorem z9c{t:TypeId}(h:isSl P t=true):∃e,P.underlying t=some (.slice e):=by
 unfold isSl at h;split at h
 ·exact⟨_,by assumption⟩
 ·cases h
theorem SR.j8Y(h:SR E n G σ ts w){d sz c:Nat}{fs:List D}(ho:σ.obj (.l d)=some (.cells (rowC sz fs c)))(hfs:∀y∈fs,y.cells.length=sz)(hc:fs.length≤c∧c≤maxLen):
  ∃el xs,w.ownsRow 0 el sz (.slice (some (at_ (G.b (.l d)) 0)) fs.length c) fs.length xs∧q9S w (.slice (some (at_ (G.b (.l d)) 0)) fs.length c)∧∀(i:Nat) (y:D),(fs.flatMap D.cells)[i]?=some y→RD G.f w y (xs.getD i undef):=by
 obtain⟨arr,el,h1,h2,h3⟩:=h.obj _ _ ho;have hl:=q4j hfs hc.1;rw[hl]at h2;have hle:fs.length*sz≤c*sz:=Zbx _ hc.1;refine⟨el,arr.toList.take (fs.length*sz),⟨by rw[Zcb,show arr.toList.length=c*sz by simpa using h2];exact Nat.min_eq_left hle,.inr ⟨G.b (.l d),c,arr,rfl,Zar _,h1,hc.1,hc.2,h2,rfl⟩⟩,fun b a2 el2 fr hb hh x hx=>?_,fun i y hy=>?_⟩
 ·simp[Value.ownBlock,at_]at hb;subst hb;rw[h1]at hh;cases hh;obtain⟨i,hi,rfl⟩:=List.mem_iff_getElem.1 hx;have hi':i<arr.size:=by simpa using hi
  have:=(h3 i ((rowC sz fs c)[i]'(by rw[hl,←h2];exact hi')) (Zaf _)).2.1;simpa[hi']using this
 ·have hi:i<fs.length*sz:=by rw[←q0G hfs];exact(Zab.1 hy).1
  have hx:(rowC sz fs c)[i]?=some (.d y):=by
   rw[rowC,Zag (by rw[Zas,q0G hfs];exact hi),Zae,hy];rfl
  have:=(h3 i _ hx).1.dinv;rw[List.getD_eq_getElem?_getD,Zbi,if_pos hi];simpa using this
theorem z4D{o:Oper}{ts:List TypeId}{os:List Operand}(h:q2S P o=some (.bi .append ts,os)):∃(al:Array Operand) (tt:Array TypeId),o.op=.call { callee:=.builtin .append,args:=al,argTypes:=tt }∧tt.toList=ts∧os=al.toList:=by
 unfold q2S at h;split at h
 ·split at h
  ·split at h<;>cases h
  ·cases h
 ·rename_i b al tt ho;split at h
  ·split at h
   ·cases h;exact⟨al,tt,ho,rfl,rfl⟩
   ·cases h
  ·split at h
   ·cases h
   ·cases h;exact⟨al,tt,ho,rfl,rfl⟩
 all_goals first|(cases h;done)|(split at h<;>cases h)
theorem z9p{S:Operand}(hX:q1q S=some (.k (.d (.list [])))):S=.const (.slice none 0 0):=by
 cases S with
 |tmp t=>simp[q1q]at hX
 |func f=>simp[q1q]at hX
 |global g=>simp[q1q]at hX
 |const v=>
  have hc:cst v=some (.list []):=by
   simp only[q1q]at hX;cases hc:cst v with
   |none=>simp[hc]at hX
   |some d=>simp[hc]at hX;rw[hX]
  unfold cst at hc;split at hc
  ·obtain⟨y,_,h2⟩:=Zay.1 hc;cases h2
  ·obtain⟨y,_,h2⟩:=Zay.1 hc;cases h2
  ·rw[z4V hc]
theorem q0e.j5K{d t tx e sz by_ c:Nat}{s x:LX}{N:St→Prop}{σ:St}{fs ys:List D}(hsl:q3V P t=some (e,sz,by_))(hz:q9N P e=true)(htx:isSl P tx=true)
  (hs:((σ.ev s=.ns∨s=.k (.d (.list [])))∧fs=[])∨(σ.ev s=.rs (.l d) fs.length c∧σ.obj (.l d)=some (.cells (rowC sz fs c))∧fs.length≤c∧c≤maxLen))
  (hx:σ.ev x=.d (.list ys)) (hys:ys≠[]) (hyc:∀y∈ys,y.cells.length=sz) (hfs:∀y∈fs,y.cells.length=sz) (hb:fs.length+ys.length≤maxLen∧(fs.length+ys.length)*by_≤140737488355328)
  (hK:∀c',fs.length+ys.length≤c'→c'≤maxLen→N (((σ.drop d).setObj (.l d) (.cells (rowC sz (fs++ys) c'))).put d (.rs (.l d) (fs.length+ys.length) c'))):
  q0e P (some d) (.bi .append [t,tx]) [s,x] N σ:=by
 intro E _ n G a w o os hp hl hdst hdn h;obtain⟨al,tt,hop,htt,rfl⟩:=z4D hp;obtain⟨S,X,hS,hX,he⟩:∃S X,al.toList=[S,X]∧q1q S=some s∧q1q X=some x:=by
  match has:al.toList,hl with
  |[S,X],hl=>
   obtain⟨u,v,h1,h2,h3⟩:=z4t hl;cases h3;exact⟨S,X,rfl,h1,h2⟩
  |[],hl=>simp[q27]at hl
  |[S],hl=>simp only[q27]at hl;split at hl<;>simp at hl;rename_i h2;cases h2;simp at hl
  |S::X::Y::r,hl=>
   simp only[q27]at hl;split at hl
   ·rename_i h1 h2;split at h2
    ·rename_i h3 h4;split at h4
     ·cases h4;cases h2;simp at hl
     ·cases h4
    ·cases h2
   ·cases hl
 have has:al = #[S,X]:=by apply Zcm;exact hS
 have htt':tt = #[t,tx]:=by apply Zcm;exact htt
 subst has;subst htt';obtain⟨i,ht,hi,rfl,rfl⟩:=z0Z hsl;obtain⟨i',z,hi',hz1,hz2,hz3⟩:=z3E hz;rw[hi]at hi';cases hi';obtain⟨e',hk⟩:=z9c htx;have rs:=h.ev hX;have rx:=h.ev he;rw[hx]at rx;obtain⟨news,hsd⟩:=SrcD.ofList (P:=P) hk rx.dinv hyc;have hyl:0<ys.length:=Zcw.2 hys
 -- the row al it is owned
 have hrow:∃el xs,w.ownsRow 0 el i.size (a.eval S) fs.length xs∧q9S w (a.eval S)∧(∀(j:Nat) (y:D),(fs.flatMap D.cells)[j]?=some y→RD G.f w y (xs.getD j undef))∧j7L G σ d (a.eval S):=by
  rcases hs with⟨hs|hs,rfl⟩|⟨hs,ho,hc1,hc2⟩
  rotate_left
  ·subst hs;have hv:a.eval S=.slice none 0 0:=by
    rw[z9p hX];rfl
   rw[hv];exact⟨e,[],World.ownsRow_nil w 0 e i.size,(fun b _ _ _ hb=>by cases hb),(fun j y hy=>by simp at hy),.inl rfl⟩
  rotate_left
  ·rw[hs]at rs;generalize hv:a.eval S=v at rs;cases rs;exact⟨e,[],World.ownsRow_nil w 0 e i.size,(fun b _ _ _ hb=>by cases hb),(fun j y hy=>by simp at hy),.inl rfl⟩
  ·rw[hs]at rs;generalize hv:a.eval S=v at rs;cases rs;obtain⟨el,xs,g1,g2,g3⟩:=h.j8Y ho hfs ⟨hc1,hc2⟩;exact⟨el,xs,g1,g2,g3,.inr ⟨_,_,_,ho,rfl⟩⟩
 obtain⟨el,xs,g1,g2,g3,g4⟩:=hrow;obtain⟨v',w',el',r1,r2,r3,r4⟩:=q9n w t tx o.type e el i z ht hi hz1 hz2 (a.eval S) fs.length xs g1 (a.eval X) ys.length news hsd.src hb.1 hb.2 (by omega) g2 hz3;have hr3:Grow w w' (a.eval S) v' 0:={ r3 with cells:=fun b hb j hj=>by omega };have hfy:∀y∈fs++ys,y.cells.length=i.size:=fun y hy=>by
  rcases Zbb.1 hy with hy|hy
  ·exact hfs y hy
  ·exact hyc y hy
 have hxl:xs.length=fs.length*i.size:=g1.1;have hf0:∀b,(a.eval S).ownBlock=some b→G.f b=0:=fun b hb=>by
  rcases g4 with hn|⟨o,k,c,h2,hn⟩
  ·rw[hn]at hb;cases hb
  ·rw[hn]at hb;simp[Value.ownBlock,at_]at hb;subst hb;exact h.objf _ _ h2
 have hext:Ext G.f w G.f w':=⟨r3.size,fun _=>Zal _,fun b j hj=>by
  by_cases hb:(a.eval S).ownBlock=some b
  ·rw[hf0 b hb]at hj;omega
  ·have hlt:b<w.heap.size:=by
    rcases Zbc b w.heap.size with h2|h2
    ·exact h2
    ·rw[h.top b h2]at hj;omega
   simp only[World.cell?,at_];rw[r3.block b hlt hb],fun b es c hb hm=>by rw[r3.block b (Zat.1 hm).1 (fun e=>by rw[hf0 b e]at hb;omega)];exact hm⟩
 have hrd:∀(j:Nat) (y:D),((fs++ys).flatMap D.cells)[j]?=some y→RD G.f w' y ((xs++news).getD j undef):=fun j y hy=>by
  rw[Zde]at hy;have hfl:=q0G hfs
  by_cases hj:j<fs.length*i.size
  ·rw[Zag (by omega)]at hy;rw[List.getD_eq_getElem?_getD,Zag (by omega),←List.getD_eq_getElem?_getD];exact(g3 j y hy).ext hext
  ·rw[Zao (by omega),hfl]at hy;rw[List.getD_eq_getElem?_getD,Zao (by omega),←List.getD_eq_getElem?_getD,hxl];obtain⟨k,jj,f,h1,h2,h3,h4⟩:=z47 hyc hy;rw[h3];exact(hsd.rd k f jj y h1 h2).ext hext
 obtain⟨b,c',q1,q2,rfl,q3⟩:=h.j9H d g4 hr3 r2 (by omega) r4 (by simp) hfy hrd;refine .inl ⟨.slice (some (at_ b 0)) (fs.length+ys.length) c',w',?_,{ G with b:=updf G.b (.l d) b },_,⟨trivial,hK c' q1 q2⟩,?_⟩
 ·simp only[execOp,hop,resolve,invoke,builtin,Sem.run_bind,Sem.run_pure,Result.andThen_ok,List.map_toArray,Zai,Zbe];rw[r1];rfl
 ·have hput:=q3.put (s:=d) (x:=.rs (.l d) (fs.length+ys.length) c') (v:=.slice (some (at_ b 0)) (fs.length+ys.length) c') (by
   have:=AVR.rs (G:={ G with b:=updf G.b (.l d) b }) (w:=w') (.l d) (fs.length+ys.length) c';simpa[q0V]using this) (by simpa[q6z]using hdn)
  simpa[Act.put]using hput
end Go.Av
/- Functions that hand back a row that may be written; calls that take one. -/
namespace Go.Av
variable {E:Entry} {n:Nat} {G:q0x} {σ:St} {ts:Array Value} {w:World} {P:Program} [Inv P]
/-! ### The cells of a row do not hang on names -/
/-! ### Proving one -/
/-! ### As a contract of data -/
theorem j5j(h:SR E n G σ ts w){k sz c:Nat}{fs:List D}(ho:σ.obj (.l k)=some (.cells (rowC sz fs c)))(hfs:∀y∈fs,y.cells.length=sz)(hc:fs.length≤c):
  RD (updf G.f (G.b (.l k)) (rowC sz fs c).length) w (.list fs) (.slice (some (at_ (G.b (.l k)) 0)) fs.length c)∧∀y∈fs,y.flat:=by
 obtain⟨arr,el,h1,h2,h3⟩:=h.obj _ _ ho;have hl:=q4j hfs hc;have hle:fs.length*sz≤c*sz:=Zbx _ hc;have hf0:=h.objf _ _ ho;have hext:Ext G.f w (updf G.f (G.b (.l k)) (rowC sz fs c).length) w:=⟨Zal _,fun b=>by
  by_cases e:b=G.b (.l k)
  ·rw[e,hf0];exact Zar _
  ·rw[q0U _ _ e];exact Zal _,fun _ _ _=>rfl,fun _ _ _ _ h=>h⟩
 have hcell:∀(i j:Nat) (e d:D),fs[i]?=some e→e.cells[j]?=some d→i*sz+j<c*sz∧RD G.f w d (arr.getD (i*sz+j) undef)∧(arr.getD (i*sz+j) undef).oneCell'=true:=fun i j e d he hd=>by
  have hx:=j1T hfs he hd;have hlt:i*sz+j<fs.length*sz:=by rw[←q0G hfs];exact(Zab.1 hx).1
  have hx2:(rowC sz fs c)[i*sz+j]?=some (.d d):=by
   rw[rowC,Zag (by rw[Zas,q0G hfs];exact hlt),Zae,hx];rfl
  obtain⟨g1,g2,_⟩:=h3 _ _ hx2;exact⟨by omega,g1.dinv,g2⟩
 have hflat:∀y∈fs,y.flat:=fun y hy e he=>by
  obtain⟨i,hi⟩:=Zap hy;obtain⟨j,hj⟩:=Zap he;obtain⟨_,g1,g2⟩:=hcell i j y e hi hj;exact g1.z6V g2
 refine⟨.list fs (G.b (.l k)) 0 c sz (fun i=>arr.getD i undef) hc (fun e he=>⟨hfs e he,hflat e he⟩) (by rw[q0V,hl];omega) (fun i hi=>?_) (fun i e j d he hd=>(hcell i j e d he hd).2.1.ext hext),hflat⟩;rw[Zaw,cell_of_heap h1];have:i<arr.size:=by rw[h2,hl];omega
 simp[this]
/-! ### The caller's side -/
theorem j6T{E:Entry}[HasInv P E](h:SR E n G σ ts w):Inv.inv P G.f w:=
 Inv.ext (fun b hb=>h.fr b (Inv.lt (HasInv.holds (P:=P) (E:=E)) b hb) (HasInv.none b hb)) (HasInv.holds (P:=P) (E:=E))
/-! ### Calls that read a row: what comes back is no row -/
end Go.Av
/- Calls that read a row; the call that puts an element into one. -/
namespace Go.Av
variable {E:Entry} {n:Nat} {G:q0x} {σ:St} {ts:Array Value} {w:World} {P:Program} [Inv P]
/-! ### An element is put into a row -/
/-! ### Cells of a row are written -/
theorem z9H{fs:List D}{c i:Nat}{x:D}(h1:∀y∈fs,y.cells=[y])(hi:i<fs.length)(hx:x.cells=[x]):(rowC 1 fs c).set i (.d x)=rowC 1 (fs.set i x) c:=by
 have e:∀l:List D,(∀y∈l,y.cells=[y])→l.flatMap D.cells=l:=fun l=>by
  induction l with
  |nil=>intro _;rfl
  |cons a l ih=>intro h;simp only[List.flatMap_cons,h a (by simp),ih (fun y hy=>h y (by simp[hy]))];rfl
 have h2:∀y∈fs.set i x,y.cells=[y]:=fun y hy=>by
  rcases List.mem_or_eq_of_mem_set hy with h|h
  ·exact h1 y h
  ·rw[h];exact hx
 unfold rowC;rw[e fs h1,e _ h2,List.length_set,List.map_set,List.set_append_left _ _ (by simpa using hi)]
theorem z3F.frozen{dst:Option Nat}{f:Nat}{x:LX}{N:St→Prop}{σ:St}{k sz c:Nat}{fs:List D}{r:Res}(hx:σ.ev x=.rs (.l k) fs.length c)(ho:aget σ.L k=some (.cells (rowC sz fs c)))
  (hfs:∀y∈fs,y.cells.length=sz) (hc:fs.length≤c) (hcall:q0y P f [.list fs] (fun r'=>r'=r)) (hK:N (putO { σ with L:=adel σ.L k } dst r.av)):z3F P dst f [x] N σ:=by
 intro E _ n G a w vs hdn h hvl hv;have h0:=hv 0 _ (show(evL σ [x])[0]?=some (.rs (.l k) fs.length c) by simp[evL,hx]);obtain⟨q1,_⟩:=j5j h (k:=k) ho hfs hc;have h1:=h.freeze ho;have hsz:vs.size=1:=by simpa using hvl
 have hval:vs.getD 0 undef=.slice (some (at_ (G.b (.l k)) 0)) fs.length c:=by
  generalize vs.getD 0 undef=v at h0;cases h0;rfl
 refine(hcall _ w vs (j6T h1) h1.top (by simp[hsz]) (fun i y hy=>?_)).mono fun e w' ⟨r',v,f',p1,p2,p3,p4⟩=>?_
 ·match i,hy with
  |0,hy=>cases hy;rw[hval];exact q1
  |(i+1),hy=>simp at hy
 ·subst p1;refine⟨v,p2,?_⟩;have h2:SR E n { G with f:=f' } { σ with L:=adel σ.L k } a.tmps w':=h1.world (p4.ext h1.top) (fun b hb=>p4.block b hb) p4.top p4.os p4.tape p4.output;cases dst with
  |none=>exact⟨_,_,hK,by simpa[Act.put,putO]using h2⟩
  |some d=>
   refine⟨{ G with f:=f' },_,hK,?_⟩;have hr:AVR { G with f:=f' } w' r'.av v:=by
    cases r' with
    |one x=>exact .d _ _ p3
    |tup xs=>
     obtain⟨us,rfl,hl,hu⟩:=p3;refine .tuple _ _ (by simpa using hl) (fun y hy=>?_) fun i y hy=>?_
     ·obtain⟨z,_,rfl⟩:=Zak.1 hy;rfl
     ·rw[Zae]at hy;cases hz:xs[i]? with
      |none=>simp[hz]at hy
      |some z=>simp[hz]at hy;subst hy;exact .d _ _ (hu i z hz)
   simpa[Act.put,putO]using h2.put hr (by simpa[q6z]using hdn)
end Go.Av
/- Arguments read as data, and how great these are. -/
namespace Go.Av
open Go.RowKit
mutual
def bkD:D→Nat
 |.str s=>s.length+1
 |.list l=>bkL l+1
 |.agg cs=>bkL cs
 |_=>1
def bkL:List D→Nat
 |[]=>0
 |x::r=>bkD x+bkL r
end
theorem z90(a b:List D):bkL (a++b)=bkL a+bkL b:=by
 induction a with
 |nil=>simp[bkL]
 |cons x r ih=>simp only[Zbh,bkL,ih];omega
theorem j6s(ds:List D):bkD (mkD ds)=bkL ds:=by
 unfold mkD;split
 ·simp[bkL]
 ·simp[bkD]
theorem j6t(L:List (List D)):bkL (L.map mkD)=(L.map bkL).sum:=by
 induction L with
 |nil=>simp[bkL]
 |cons x r ih=>simp only[Zai,bkL,ih,j6s,List.sum_cons]
theorem j5O:∀{L:List (List D)} {bs:List Nat},bs.length=L.length→(∀(i:Nat) (ds:List D),L[i]?=some ds→bkL ds≤bs.getD i 0)→(L.map bkL).sum≤bs.sum
 |[],_,_,_=>by simp
 |x::L,[],h,_=>by simp at h
 |x::L,b::bs,h,hb=>by
  have h0:=hb 0 x rfl;have ih:=j5O (L:=L) (bs:=bs) (by simpa using h) fun i ds hi=>by
   have:=hb (i+1) ds (by simpa using hi);simpa using this
  simp only[Zai,List.sum_cons];simp at h0;omega
structure j0Y{H:Type}(bk:DataW H→Nat):Prop where
 str:∀bytes,bytes.length+1≤bk (.lit (.string bytes))
 lit:∀l,1≤bk (.lit l)
 map:∀es,1≤bk (.map es)
 nil:1≤bk .nil
 slice:∀el sp,(el.map bk).sum+1≤bk (.slice el sp)
 agg:∀ps,(ps.map bk).sum≤bk (.agg ps)
section
variable {H:Type} {enc:TypeId×Value→H} {P:Program} {w:World} {base:Nat} {spare:Nat→Bool} {held:Bool}
theorem z4S{n:Nat}{cs:List Value}:∀(fs:List Field) (bs:List Nat) (off tot:Nat),z6U P fs off tot=true→bs.length=fs.length→
  (∀(i:Nat) (f:Field),fs[i]?=some f→∃ds:List D,OfT P n f.type ds∧ds.length=P.cellsOf f.type∧(∀d∈ds,d.one=true)∧(∀(i:Nat) (d:D) (v:Value),ds[i]?=some d→cs[f.offset+i]?=some v→RD (front w) w d v)∧bkL ds≤bs.getD i 0)→
  ∃ds:List D,off+ds.length=tot∧(∀f∈fs,off≤f.offset∧OfT P n f.type ((ds.drop (f.offset-off)).take (P.cellsOf f.type)))∧(∀d∈ds,d.one=true)∧(∀(i:Nat) (d:D) (v:Value),ds[i]?=some d→cs[off+i]?=some v→RD (front w) w d v)∧bkL ds≤bs.sum:=by
 intro fs;induction fs with
 |nil=>intro bs off tot h _ _;simp[z6U]at h;exact⟨[],by simp[h],by simp,by simp,by simp,by simp[bkL]⟩
 |cons f r ih=>
  intro bs off tot h hbl hf;cases bs with
  |nil=>simp at hbl
  |cons bb bs=>
  simp only[z6U,Zac,beq_iff_eq]at h;obtain⟨h1,h2⟩:=h;obtain⟨da,a1,a2,a3,a4,a5⟩:=hf 0 f rfl;obtain⟨db,b1,b2,b3,b4,b5⟩:=ih bs _ _ h2 (by simpa using hbl) fun i g hg=>by
   obtain⟨ds,q1,q2,q3,q4,q5⟩:=hf (i+1) g (by simpa using hg);exact⟨ds,q1,q2,q3,q4,by simpa using q5⟩
  refine⟨da++db,by simp;omega,fun g hg=>?_,fun d hd=>?_,fun i d v hd hv=>?_,by rw[z90,List.sum_cons];simp at a5;omega⟩
  ·rcases Zau.1 hg with rfl|hg
   ·refine⟨by omega,?_⟩;rw[h1,Nat.sub_self,Zdf,←a2,List.take_left']
    ·exact a1
    ·rfl
   ·obtain⟨c1,c2⟩:=b2 g hg;refine⟨by omega,?_⟩;have:(da++db).drop (g.offset-off)=db.drop (g.offset-(off+P.cellsOf f.type)):=by
     rw[List.drop_append,Zah (by omega),Zbu];congr 1;omega
    rw[this];exact c2
  ·rcases Zbb.1 hd with hd|hd
   ·exact a3 d hd
   ·exact b3 d hd
  ·by_cases hi:i<da.length
   ·rw[Zag hi]at hd;exact a4 i d v hd (by rw[h1];exact hv)
   ·rw[Zao (by omega)]at hd;exact b4 _ d v hd (by rw[←hv];congr 1;omega)
theorem j8W{bk:DataW H→Nat}(hbk:j0Y bk){ts:List TypeId}(hts:okTs P ts=true):∀(fuel:Nat) (t:TypeId) (cs:List Value) (x:DataW H×List MemPlace),t∈ts→DataW.trod enc P w base spare held fuel t cs=some x→
  ∃ds,OfT P fuel t ds∧ds.length=cs.length∧cs.length=P.cellsOf t∧(∀d∈ds,d.one=true)∧(∀(i:Nat) (d:D) (v:Value),ds[i]?=some d→cs[i]?=some v→RD (front w) w d v)∧bkL ds≤bk x.1:=by
 intro fuel;induction fuel with
 |zero=>intro t cs x _ h;simp[DataW.trod]at h
 |succ n ih=>
  intro t cs x ht h;have hok:=Zaj.1 hts t ht;have one:∀{d:D} {v:Value},RD (front w) w d v→∀(i:Nat) (d':D) (v':Value),[d][i]?=some d'→[v][i]?=some v'→RD (front w) w d' v':=by
   intro d v hr i d' v' h1 h2;cases i with
   |zero=>simp at h1 h2;subst h1;subst h2;exact hr
   |succ i=>simp at h1
  unfold OfT;cases hu:P.underlying t with
  |none=>simp[hu]at hok
  |some T=>
   cases T with
   |bool=>
    simp only[hu,beq_iff_eq]at hok;obtain⟨b,rfl,rfl⟩:=DataW.trod_bool hu h;exact⟨[.bool b],⟨b,rfl⟩,rfl,by simp[hok],by simp[D.one],one (.bool b),hbk.lit _⟩
   |int k=>
    simp only[hu,beq_iff_eq]at hok;obtain⟨m,rfl,rfl,hw⟩:=DataW.trod_int hu h;exact⟨[.int k m],⟨m,rfl,hw⟩,rfl,by simp[hok],by simp[D.one],one (.int k m),hbk.lit _⟩
   |string=>
    simp only[hu,beq_iff_eq]at hok;obtain⟨s,rfl,rfl,hs⟩:=DataW.trod_string hu h;exact⟨[.str s.data.toList],⟨_,rfl,by simpa using hs⟩,rfl,by simp[hok],by simp[D.one],one (by cases s;exact .str _),by simpa[bkL,bkD]using hbk.str s.data.toList⟩
   |slice e=>
    simp only[hu,Zac,beq_iff_eq,bne_iff_ne,ne_eq,Zdk]at hok;obtain⟨h1,he,hz⟩:=hok;rcases DataW.trod_slice hu h with⟨rfl,rfl⟩|⟨a,len,cap,elems,rest,m,hm,rfl,rfl,_,hl,hc,hlen,hel,_,_⟩
    ·exact⟨[.list []],⟨[],rfl,by simp,by simp⟩,rfl,by simp[h1],by simp[D.one],one .nils,by simpa[bkL,bkD]using hbk.nil⟩
    ·have hm':m=n:=by omega
     subst hm'
     by_cases h0:len=0
     ·subst h0;exact⟨[.list []],⟨[],rfl,by simp,by simp⟩,rfl,by simp[h1],by simp[D.one],one (.emp _ _),by have:=hbk.slice (elems.map (·.1)) (rest.map (·.1));simp[bkL,bkD];omega⟩
     ·have key:∀i,i<len→∃ds:List D,(OfT P m e ds∧ds.length=P.cellsOf e∧(∀d∈ds,d.one=true)∧∀j,j<P.cellsOf e→∃d v,ds[j]?=some d∧w.cell? ((a.add (i*P.cellsOf e)).add j)=some v∧RD (front w) w d v)∧bkL ds≤(elems.map (fun y=>bk y.1)).getD i 0:=by
       intro i hi;have hx:=hel i hi;rw[Zaf (by omega)]at hx;obtain⟨cs',hcs,ht'⟩:=Zbv.1 hx;obtain⟨ds,o1,o2,o3,o4,o5,o6⟩:=ih e cs' _ he ht';obtain⟨c1,c2⟩:=j1r hcs;refine⟨ds,⟨o1,by omega,o4,fun j hj=>?_⟩,by
        have hi2:i<elems.length:=by omega
        rw[List.getD_eq_getElem?_getD,Zae,Zaf hi2];exact o6⟩
       have q1:=Zaf (l:=ds) (i:=j) (by omega);have q2:=Zaf (l:=cs') (i:=j) (by omega);exact⟨_,_,q1,by rw[c2 j hj,q2],o5 j _ _ q1 q2⟩
      obtain⟨L,hL,hpB⟩:=q9x len key;have hp:=fun i ds h=>(hpB i ds h).1
      -- the address is plain
      have hspot:a.spot=none:=by
       obtain⟨ds,⟨_,_,_,h5⟩,_⟩:=key 0 (by omega);obtain⟨_,_,_,h6,_⟩:=h5 0 (by omega);rw[Nat.zero_mul]at h6;exact World.cell?_spot h6
      obtain⟨b,o,sp⟩:=a;simp only at hspot;subst hspot;have hadd:∀i j,((⟨b,o,none⟩:Addr).add i).add j=at_ b (o+(i+j)):=fun i j=>by
       rw[Go.WideShapes.add_plain,Go.WideShapes.add_plain];simp[at_];omega
      have hget:∀i,i<len→∃ds,L[i]?=some ds∧OfT P m e ds∧ds.length=P.cellsOf e∧(∀d∈ds,d.one=true)∧∀j,j<P.cellsOf e→∃d v,ds[j]?=some d∧w.cell? (at_ b (o+(i*P.cellsOf e+j)))=some v∧RD (front w) w d v:=by
       intro i hi;have q1:=Zaf (l:=L) (i:=i) (by omega);obtain⟨p1,p2,p3,p4⟩:=hp i _ q1;refine⟨_,q1,p1,p2,p3,fun j hj=>?_⟩;obtain⟨d,v,r1,r2,r3⟩:=p4 j hj;rw[hadd]at r2;exact⟨d,v,r1,r2,r3⟩
      have hmem:∀ds∈L,OfT P m e ds∧ds.length=P.cellsOf e∧(∀d∈ds,d.one=true):=by
       intro ds hds;obtain⟨i,hi⟩:=Zap hds;have hil:i<len:=by rw[←hL];exact(Zab.1 hi).1
       obtain⟨ds',g1,g2,g3,g4,_⟩:=hget i hil;rw[hi]at g1;cases g1;exact⟨g2,g3,g4⟩
      have hcell:∀k,k<len*P.cellsOf e→∃v,w.cell? (at_ b (o+k))=some v:=by
       intro k hk;have hpz:0<P.cellsOf e:=Nat.pos_of_ne_zero hz;have hi:k / P.cellsOf e<len:=Nat.div_lt_of_lt_mul (by rw[Nat.mul_comm];exact hk);obtain⟨ds,_,_,_,_,g5⟩:=hget _ hi;obtain⟨d,v,_,r2,_⟩:=g5 (k % P.cellsOf e) (Nat.mod_lt _ hpz);have:k / P.cellsOf e*P.cellsOf e+k % P.cellsOf e=k:=by rw[Nat.mul_comm];exact Nat.div_add_mod _ _
       rw[this]at r2;exact⟨v,r2⟩
      refine⟨[.list (L.map mkD)],⟨L.map mkD,rfl,by simp[hL];omega,fun x hx=>?_⟩,rfl,by simp[h1],by simp[D.one],one ?_,?_⟩
      ·obtain⟨ds,hds,rfl⟩:=Zak.1 hx;exact⟨ds,rfl,(hmem ds hds).1⟩
      ·have:=RD.list (f:=front w) (w:=w) (L.map mkD) b o cap (P.cellsOf e) (fun k=>(w.cell? (at_ b (o+k))).getD undef) (by simp[hL];exact hl) (fun x hx=>by
           obtain⟨ds,hds,rfl⟩:=Zak.1 hx;obtain⟨_,q2,q3⟩:=hmem ds hds;unfold D.flat;rw[z6O q3];exact⟨q2,q3⟩) (by
           rw[Zas,hL];have hpos:0<len*P.cellsOf e:=Nat.mul_pos (by omega) (Nat.pos_of_ne_zero hz);obtain⟨v,hv⟩:=hcell (len*P.cellsOf e-1) (by omega);have:=j4B hv;omega) (fun k hk=>by
           rw[Zas,hL]at hk;obtain⟨v,hv⟩:=hcell k hk;rw[hv];rfl) (fun i x j d hx hd=>by
           rw[Zae]at hx;cases hLi:L[i]? with
           |none=>simp[hLi]at hx
           |some ds=>
            simp[hLi]at hx;subst hx;obtain⟨_,q2,q3⟩:=hmem ds (Zaa hLi);rw[z6O q3]at hd;have hil:i<len:=by rw[←hL];exact(Zab.1 hLi).1
            obtain⟨ds',g1,_,_,_,g5⟩:=hget i hil;rw[hLi]at g1;cases g1;obtain⟨d',v,r1,r2,r3⟩:=g5 j (by rw[←q2];exact(Zab.1 hd).1);rw[hd]at r1;cases r1;rw[r2];exact r3)
       rw[Zas,hL]at this;exact this
      ·have hb:=hbk.slice (elems.map (·.1)) (rest.map (·.1));have hsum:=j5O (L:=L) (bs:=elems.map (fun y=>bk y.1)) (by simp[hL,hlen]) (fun i ds hi=>(hpB i ds hi).2);rw[List.map_map]at hb;simp only[bkL,bkD,j6t];have e:(elems.map (bk∘fun x=>x.1))=elems.map (fun y=>bk y.1):=rfl;rw[e]at hb;omega
   |map kt e=>
    simp only[hu,Zac,beq_iff_eq,Zdk]at hok;obtain⟨h1,he,hk,hv⟩:=hok;rcases j5B hu h with⟨rfl,hx⟩|⟨b,es,clock,⟨rfl,l,hx⟩,hb,hs,hc,hn,hm⟩
    ·exact⟨[.map [] []],⟨[],[],rfl,rfl,by simp,by simp,by simp⟩,rfl,by simp[h1],by simp[D.one],one .mapn,by simp only[bkL,bkD,hx];exact hbk.nil⟩
    ·obtain⟨ks,vs,q1,q2,q3,q4,q5⟩:=j8n hb hs hc hn hk hv fun m hmm=>by
      obtain⟨a1,a2,y,a3⟩:=hm m hmm;obtain⟨ds,o1,o2,o3,o4,o5,_⟩:=ih e _ y he a3;exact⟨a1,a2,ds,o1,o2,o3,o4,o5⟩
     exact⟨[.map ks vs],⟨ks,vs,rfl,q1,q2,q3,q4⟩,rfl,by simp[h1],by simp[D.one],one q5,by simp only[bkL,bkD,hx];exact hbk.map _⟩
   |struct fs=>
    simp only[hu,Zac]at hok;obtain⟨o1,o2⟩:=hok;obtain⟨xs,m,hm,rfl,hlen,hxl,hf⟩:=DataW.trod_struct hu h;have hm':m=n:=by omega
    subst hm';obtain⟨ds,c1,c2,c3,c4,c5⟩:=z4S (w:=w) (n:=m) (cs:=cs) fs.toList (xs.map (fun y=>bk y.1)) 0 (P.cellsOf t) o2 (by simp[hxl]) (fun i f hi=>by
     have hfm:=Zaa hi;have hfi:fs[i]?=some f:=by simpa using hi
     have hil:i<xs.length:=by rw[hxl];exact(Zat.1 hfi).1
     have hx:=hf i f hfi;rw[Zaf hil]at hx;obtain⟨ds,p1,p2,p3,p4,p5,p6⟩:=ih _ _ _ (by have:=Zaj.1 o1 f hfm;simpa using this) hx;refine⟨ds,p1,by omega,p4,fun j d v hd hv=>p5 j d v hd ?_,by rw[List.getD_eq_getElem?_getD,Zae,Zaf hil];exact p6⟩;have hj:j<ds.length:=(Zab.1 hd).1;rw[Zbi,if_pos (by omega),Zbn];exact hv)
    refine⟨ds,⟨by omega,fun i f hfi=>?_⟩,by omega,by omega,c3,fun i d v hd hv=>c4 i d v hd (by rw[Zaw];exact hv),by
     have:=hbk.agg (xs.map (·.1));rw[List.map_map]at this;exact Zbw c5 this⟩
    have:=(c2 f (by simpa using Zaa (l:=fs.toList) (i:=i) (by simpa using hfi))).2;rwa [Nat.sub_zero]at this
   |_=>simp[hu]at hok
end
end Go.Av
/- Maps as data: their length, what is found in them, walks through them and through strings. -/
namespace Go.Av
open Go.RowKit
variable {E:Entry} {n:Nat} {G:q0x} {σ:St} {ts:Array Value} {w:World} {P:Program} [Inv P]
def AObj.j5Z:AObj→Bool
 |.cells _=>false
 |_=>true
theorem SR.setIter(h:SR E n G σ ts w){r:Ref}{o o':AObj}(hr:σ.obj r=some o)(hi:o'.j5Z=true){w':World}(hs:w'.heap.size=w.heap.size)(hb:∀b,b≠G.b r→w'.heap[b]?=w.heap[b]?)
  (hos:w'.os=w.os) (htp:w'.tape=w.tape) (hout:w'.output=w.output) (ho':Ext G.f w G.f w'→ObjR G w' r o'):SR E n G (σ.setObj r o') ts w':=by
 have hf:=h.objf r _ hr;have hext:Ext G.f w G.f w':=by
  refine⟨by omega,fun _=>Zal _,fun b j hj=>?_,fun b es c h0 hm=>?_⟩
  ·have hne:b≠G.b r:=fun e=>by rw[e,hf]at hj;omega
   simp only[World.cell?,at_];rw[hb b hne]
  ·rw[hb b (fun e=>by rw[e,hf]at h0;omega)];exact hm
 have obj:∀r' o1,(σ.setObj r o').obj r'=some o1→(r'=r∧o1=o')∨(r'≠r∧σ.obj r'=some o1):=fun r' o1 h1=>by
  rw[St.q0X]at h1;split at h1
  ·rename_i e;exact .inl ⟨e.symm,by simpa using h1.symm⟩
  ·rename_i e;exact .inr ⟨fun e'=>e e'.symm,h1⟩
 have dom:∀r' o1,(σ.setObj r o').obj r'=some o1→∃o2,σ.obj r'=some o2:=fun r' o1 h1=>by
  rcases obj r' o1 h1 with⟨rfl,_⟩|⟨_,h1⟩
  ·exact⟨_,hr⟩
  ·exact⟨_,h1⟩
 refine⟨h.size,fun t y hy=>?_,fun r' o1 ho=>?_,fun r' o1 ho=>?_,fun r1 r2 o1 o2 h1 h2=>?_,fun q v' e sz hq=>?_,fun q v' e sz b hq hb' r' o1 ho=>?_,h.lamInj,fun r' o1 ho=>?_,h.newLam,h.ext.trans hext,fun b hb0 hM=>?_,fun b hb0=>h.top b (by omega),h.ext0,fun k cs' y s ho hy=>?_,
  hos.trans h.os,htp.trans h.tape,hout.trans h.output⟩
 ·have h2:aget σ.ρ t=some y:=by cases r<;>exact hy
  exact AVR.mono (G':=G) (h:=h.slot t y h2) hext (fun _ _=>rfl) (fun _ _ _ hp=>hp)
 ·rcases obj r' o1 ho with⟨rfl,rfl⟩|⟨hne,ho⟩
  ·exact ho' hext
  ·have hb1:G.b r'≠G.b r:=fun e=>hne (h.inj r' r _ _ ho hr e)
   exact(h.obj r' o1 ho).mono (G':=G) hext rfl (hb _ hb1) (fun _ _ _ _ _ _=>rfl) (fun _ _ hp=>hp)
 ·obtain⟨o2,h2⟩:=dom r' o1 ho;exact h.objf r' o2 h2
 ·obtain⟨o3,h3⟩:=dom r1 o1 h1;obtain⟨o4,h4⟩:=dom r2 o2 h2;exact h.inj r1 r2 o3 o4 h3 h4
 ·exact(h.lam q v' e sz hq).mono fun b hb1=>⟨hb b (fun e'=>h.lamObj q v' e sz b hq hb1 r _ hr e'.symm),rfl⟩
 ·obtain⟨o2,h2⟩:=dom r' o1 ho;exact h.lamObj q v' e sz b hq hb' r' o2 h2
 ·obtain⟨o2,h2⟩:=dom r' o1 ho;exact h.newObj r' o2 h2
 ·have hb':b≠G.b r:=fun e=>by
   rcases h.newObj r _ hr with h2|h2
   ·omega
   ·rw[e]at hM;exact hM h2
  exact⟨(hb b hb').trans (h.fr b hb0 hM).1,(h.fr b hb0 hM).2⟩
 ·rcases obj (.x k) _ ho with⟨e,h2⟩|⟨_,ho⟩
  ·subst h2;cases hi
  ·exact h.own0 k cs' y s ho hy
theorem SR.j2x(h:SR E n G σ ts w){d:Nat}(hn:d<n){o:Obj}{o':AObj}(hi:o'.j5Z=true)
  (ho:∀G':q0x,G'.f=updf G.f w.heap.size 0→G'.b (.l d)=w.heap.size→Ext G.f w G'.f (w.alloc o)→ObjR G' (w.alloc o) (.l d) o'):
  ∃G',SR E n G' (((σ.drop d).setObj (.l d) o').put d (.ptr (.l d) 0)) (ts.setIfInBounds d (.pointer (some (at_ w.heap.size 0)))) (w.alloc o):=by
 have h1:=(h.drop d).alloc o 0;have hlt:∀r o,(σ.drop d).obj r=some o→G.b r<w.heap.size:=fun r o ho=>((h.drop d).obj r o ho).lt
 have hρ:∀t x,aget (σ.drop d).ρ t=some x→x.has (.l d)=false:=fun t x hx=>by
  simp only[St.drop,q0p]at hx;cases hy:aget σ.ρ t with
  |none=>simp[hy]at hx
  |some y=>simp[hy]at hx;subst hx;exact(AV.q4Q _ _)
 have hL:∀t cs x,aget (σ.drop d).L t=some (.cells cs)→x∈cs→x.has (.l d)=false:=fun t cs x hx hm=>by
  simp only[St.drop,q0p]at hx;cases hy:aget σ.L t with
  |none=>simp[hy]at hx
  |some y=>
   simp[hy]at hx;cases y with
   |siter s p=>simp[q0q]at hx
   |miter l c=>simp[q0q]at hx
   |mobj l c=>simp[q0q]at hx
   |cells cs'=>simp[q0q]at hx;subst hx;obtain⟨y,_,rfl⟩:=Zak.1 hm;exact AV.q4Q _ _
 have hext:Ext G.f w (updf G.f w.heap.size 0) (w.alloc o):=Ext.alloc w h.top _ 0;have h2:=h1.j09 d w.heap.size o' hρ hL (by show updf G.f w.heap.size 0 w.heap.size=0;simp) (fun r o ho=>by have:=hlt r o ho;exact fun e'=>by have e'':G.b r=w.heap.size:=e';omega)
  (fun q v p hq hb=>by obtain⟨e1,s1⟩:=p;have:=(h.lam q v e1 s1 hq).lt hb;omega) h.ext.size
  (ho _ rfl (by simp) hext)
 have h3:=h2.put (s:=d) (x:=.ptr (.l d) 0) (v:=.pointer (some (at_ w.heap.size 0))) (by
  have:=AVR.ptr (G:={ f:=updf G.f w.heap.size 0,b:=updf G.b (.l d) w.heap.size,lam:=G.lam }) (w:=w.alloc o) (.l d) 0;simpa using this) hn
 exact⟨_,h3⟩
/-! ### Reading off the operation -/
theorem z67{o:Oper}{t:TypeId}{os:List Operand}(h:q2S P o=some (.range t,os)):∃x,o.op=.range t x∧os=[x]:=by
 unfold q2S at h;split at h;all_goals first
  |(cases h;done)
  |(rename_i ho;cases h;exact⟨_,ho,rfl⟩)
  |(split at h<;>(try cases h)<;>(split at h<;>cases h))
  |(split at h<;>cases h)
theorem z8q{o:Oper}{s:Bool}{t:TypeId}{os:List Operand}(h:q2S P o=some (.next s t,os)):∃x,o.op=.next x s∧os=[x]:=by
 unfold q2S at h;split at h;all_goals first
  |(cases h;done)
  |(rename_i ho;cases h;exact⟨_,ho,rfl⟩)
  |(split at h<;>(try cases h)<;>(split at h<;>cases h))
  |(split at h<;>cases h)
theorem z65{o:Oper}{os:List Operand}(h:q2S P o=some (.entry,os)):∃x,o.op=.entry x∧os=[x]:=by
 unfold q2S at h;split at h;all_goals first
  |(cases h;done)
  |(rename_i ho;cases h;exact⟨_,ho,rfl⟩)
  |(split at h<;>(try cases h)<;>(split at h<;>cases h))
  |(split at h<;>cases h)
theorem z0u{o:Oper}{t:TypeId}{ok:Bool}{os:List Operand}(h:q2S P o=some (.lookup t ok,os)):∃x i,o.op=.lookup t x i ok∧os=[x,i]:=by
 unfold q2S at h;split at h;all_goals first
  |(cases h;done)
  |(rename_i ho;cases h;exact⟨_,_,ho,rfl⟩)
  |(split at h<;>(try cases h)<;>(split at h<;>cases h))
  |(split at h<;>cases h)
theorem j20{o:Oper}{b:Builtin}{ts:List TypeId}{os:List Operand}(h:q2S P o=some (.bi b ts,os)):∃args argTypes,o.op=.call { callee:=.builtin b,args:=args,argTypes:=argTypes }∧argTypes.toList=ts∧os=args.toList:=by
 unfold q2S at h;split at h;all_goals first
  |(cases h;done)
  |(rename_i ho
    split at h
    ·split at h
     ·cases h;exact⟨_,_,ho,rfl,rfl⟩
     ·cases h
    ·split at h
     ·cases h
     ·cases h;exact⟨_,_,ho,rfl,rfl⟩)
  |(split at h<;>(try cases h)<;>(split at h<;>cases h))
  |(split at h<;>cases h)
theorem z2G:∀{l:List Operand} {r:List LX},q27 l=some r→r.length=l.length
 |[],r,h=>by simp[q27]at h;subst h;rfl
 |x::l,r,h=>by
  simp only[q27]at h;split at h
  ·rename_i u v hu hv;cases h;simp[z2G hv]
  ·cases h
/-! ### Maps -/
theorem q0e.j54{d:Nat}{t k e:TypeId}{x:LX}{K:St→Prop}{σ:St}{ks vs:List D}(hx:σ.ev x=.d (.map ks vs))(ht:P.underlying t=some (.map k e))(hK:K (σ.put d (.d (.int .i64 ks.length)))):q0e P (some d) (.bi .len [t]) [x] K σ:=by
 refine q0e.value (.d (.int .i64 ks.length)) (fun E _ n G a w o os hp hl hσ=>?_) hK;obtain⟨args,ats,hop,hts,rfl⟩:=j20 hp;have hlen:=z2G hl;obtain⟨y,e1⟩:∃y,args.toList=[y]:=Zch.1 hlen.symm;rw[e1]at hl;obtain⟨x',hx',he⟩:=z9h hl;cases he;obtain rfl:args = #[y]:=by apply Zcm;exact e1
 obtain rfl:ats = #[t]:=by apply Zcm;exact hts
 have rx:=hσ.ev hx';rw[hx]at rx;have rx:=rx.dinv;generalize hv:a.eval y=v at rx;refine⟨.int .i64 ks.length,?_,.d _ _ (.int _ _)⟩;simp only[execOp,hop,resolve,invoke,builtin,Sem.run_bind,Sem.run_pure,Result.andThen_ok];cases rx with
 |mapn=>simp[hv,Builtin.len_,run_underlying ht,goInt]
 |map _ _ b es clock hb hh hk=>simp[hv,Builtin.len_,run_underlying ht,MapKept.run_getObj_map hh,hk,goInt]
def z0X:D→D→Bool
 |.int _ a,.int _ b=>a==b
 |.str a,.str b=>a==b
 |_,_=>false
def q3g:List D→List D→D→Option D
 |k::ks,v::vs,x=>if z0X x k then some v else q3g ks vs x
 |_,_,_=>none
def q0Y:TypeDesc→D→Bool
 |.int k,.int k' _=>k'==k
 |.string,.str _=>true
 |_,_=>false
theorem q2B{kd:TypeDesc}{x:D}{v:Value}{f:Nat→Nat}(h:q0Y kd x=true)(hr:RD f w x v):MapKept.IsKey kd v:=by
 cases kd<;>cases x<;>simp[q0Y]at h<;>cases hr<;>simp[MapKept.IsKey,h]
theorem z6w{kd:TypeDesc}{x y:D}{u v:Value}{f f':Nat→Nat}{w':World}(hx:q0Y kd x=true)(hy:q0Y kd y=true)(hu:RD f w x u)(hv:RD f' w' y v):z0X x y=true↔u=v:=by
 cases kd<;>cases x<;>simp[q0Y]at hx<;>cases y<;>simp[q0Y]at hy<;>cases hu<;>cases hv<;>simp[z0X];all_goals first|(subst hx;subst hy;simp)|skip
theorem find_spec{kd:TypeDesc}{f:Nat→Nat}{key:D}{kv:Value}(hkey:q0Y kd key=true)(hr:RD f w key kv):∀(es:List MapEntry) (ks vs:List D) (i:Nat),ks.length=es.length→vs.length=es.length→(∀k∈ks,q0Y kd k=true)→
  (∀(i:Nat) k e,ks[i]?=some k→es[i]?=some e→RD f w k e.key)→(∀(i:Nat) v e,vs[i]?=some v→es[i]?=some e→RD f w v e.val)→
  (q3g ks vs key=none∧Instr.findNow kd kv es i=some none)∨∃v j u,q3g ks vs key=some v∧Instr.findNow kd kv es i=some (some (j,u))∧RD f w v u
 |[],[],[],i,_,_,_,_,_=>.inl ⟨rfl,rfl⟩
 |[],_::_,_,i,h,_,_,_,_=>by simp at h
 |[],_,_::_,i,_,h,_,_,_=>by simp at h
 |_::_,[],_,i,h,_,_,_,_=>by simp at h
 |_::_,_,[],i,_,h,_,_,_=>by simp at h
 |e::es,k::ks,v::vs,i,h1,h2,h3,h4,h5=>by
  have rk:=h4 0 k e rfl rfl;obtain⟨r,q1,q2⟩:=MapKept.sameNow_of_keys (q2B hkey hr) (q2B (h3 k (by simp)) rk);have q3:=z6w hkey (h3 k (by simp)) hr rk;simp only[q3g,Instr.findNow,q1];cases r with
  |true=>
   rw[if_pos (q3.2 (q2.1 rfl))];exact .inr ⟨v,i,e.val,rfl,rfl,h5 0 v e rfl rfl⟩
  |false=>
   rw[if_neg (fun h=>by have:=q2.2 (q3.1 h);cases this)];exact find_spec hkey hr es ks vs (i+1) (by simpa using h1) (by simpa using h2) (fun k hk=>h3 k (by simp[hk])) (fun i k e hk he=>h4 (i+1) k e (by simpa using hk) (by simpa using he)) (fun i k e hk he=>h5 (i+1) k e (by simpa using hk) (by simpa using he))
theorem q0e.lookup{d:Nat}{t kt e:TypeId}{kd:TypeDesc}{x i:LX}{K:St→Prop}{σ:St}{ks vs:List D}{key zero:D}(hx:σ.ev x=.d (.map ks vs))(hi:σ.ev i=.d key)(ht:P.underlying t=some (.map kt e))(hkt:P.underlying kt=some kd)
  (hkey:q0Y kd key=true) (hks:∀k∈ks,q0Y kd k=true) (hz:Program.zeroOf P e=some zero) (hK:K (σ.put d (.tuple [.d ((q3g ks vs key).getD zero),.d (.bool (q3g ks vs key).isSome)]))):q0e P (some d) (.lookup t true) [x,i] K σ:=by
 refine q0e.value _ (fun E _ n G a w o os hp hl hσ=>?_) hK;obtain⟨X,I,hop,rfl⟩:=z0u hp;obtain⟨x',i',hx',hi',he⟩:=z4t hl;cases he;have rx:=hσ.ev hx';have ri:=hσ.ev hi';rw[hx]at rx;rw[hi]at ri;have rx:=rx.dinv;have ri:=ri.dinv;generalize hv:a.eval X=v at rx;generalize hvi:a.eval I=vi at ri;obtain⟨zi,zv,hzi,hzv,hzc⟩:∃zi zv,P.info? e=some zi∧zi.zero=some zv∧cst zv=some zero:=by
  unfold Program.zeroOf at hz;obtain⟨zv,h1,h2⟩:=Zbv.1 hz;obtain⟨zi,h3,h4⟩:=Zbv.1 h1;exact⟨zi,zv,h3,h4,h2⟩
 have hzero:∀w,(zeroValue e).run P w=.ok zv w:=fun w=>by simp[zeroValue,typeInfo,hzi,hzv]
 have hkk:=q2B hkey ri;have tup:∀(u:D) (uv:Value) (b:Bool),RD G.f w u uv→AVR G w (.tuple [.d u,.d (.bool b)]) (.tuple #[uv,.bool b]):=fun u uv b hu=>
  .tuple _ _ rfl (by simp[AV.simple]) fun j y hj=>by
   match j,hj with
   |0,hj=>cases hj;exact .d _ _ hu
   |1,hj=>cases hj;exact .d _ _ (.bool _)
   |(j+2),hj=>simp at hj
 cases rx with
 |mapn=>
  refine⟨.tuple #[zv,.bool false],?_,tup _ _ _ (by simpa[q3g]using z2r hzc)⟩;simp only[execOp,hop,hv,hvi,Instr.lookup,Sem.run_bind,run_underlying ht,Result.andThen_ok,Sem.run_pure,MapKept.run_checkKey hkt hkk,MapKept.run_findKey hkt (show Instr.findNow kd vi (#[]:Array MapEntry).toList 0=some none from rfl),hzero];rfl
 |map _ _ b es clock hb hh hk hv' hn hc hr hr'=>
  rcases find_spec hkey ri es.toList ks vs 0 (by simpa using hk) (by simpa using hv') hks (fun i k e h1 h2=>hr i k e h1 (by simpa using h2)) (fun i k e h1 h2=>hr' i k e h1 (by simpa using h2))with⟨h1,h2⟩|⟨v,j,u,h1,h2,h3⟩
  ·rw[h1];refine⟨.tuple #[zv,.bool false],?_,tup _ _ _ (z2r hzc)⟩;simp only[execOp,hop,hv,hvi,Instr.lookup,Sem.run_bind,run_underlying ht,Result.andThen_ok,Sem.run_pure,MapKept.run_getObj_map hh,MapKept.run_checkKey hkt hkk,MapKept.run_findKey hkt h2,hzero,h1];rfl
  ·rw[h1];refine⟨.tuple #[u,.bool true],?_,tup _ _ _ h3⟩;simp only[execOp,hop,hv,hvi,Instr.lookup,Sem.run_bind,run_underlying ht,Result.andThen_ok,Sem.run_pure,MapKept.run_getObj_map hh,MapKept.run_checkKey hkt hkk,MapKept.run_findKey hkt h2,hzero,h1];rfl
/-! ### Walks through maps -/
theorem q8w:∀(F:List MapEntry) (i:Nat) (e:MapEntry),(F.map (·.born)).Nodup→F[i]?=some e→F.filter (fun x => !(x.born==e.born))=F.eraseIdx i
 |[],i,e,_,h=>by simp at h
 |a::F,0,e,hn,h=>by
  simp at h;subst h;have hn':a.born∉F.map (·.born):=(Zbk.1 hn).1;simp only[List.filter_cons,beq_self_eq_true,Bool.not_true,Zan,if_false,List.eraseIdx_cons_zero];refine List.filter_eq_self.2 fun x hx=>?_
  have:x.born≠a.born:=fun e=>hn' (Zak.2 ⟨x,hx,e⟩)
  simpa using this
 |a::F,i+1,e,hn,h=>by
  have h':F[i]?=some e:=by simpa using h
  have hn':=Zbk.1 hn;have hne:a.born≠e.born:=fun e1=>hn'.1 (Zak.2 ⟨e,Zaa h',e1.symm⟩)
  have e2:(a.born==e.born)=false:=by simpa using hne
  simp only[List.filter_cons,e2,Bool.not_false,if_true,List.eraseIdx_cons_succ,q8w F i e hn'.2 h']
theorem z6z{es:List MapEntry}{seen:Array Nat}{i:Nat}{e:MapEntry}(hn:(es.map (·.born)).Nodup)(h:(es.filter fun e => !seen.contains e.born)[i]?=some e):
  (es.filter fun x => !(seen.push e.born).contains x.born)=(es.filter fun e => !seen.contains e.born).eraseIdx i:=by
 have h1:(fun x:MapEntry => !(seen.push e.born).contains x.born)=fun x => !(x.born==e.born) && !seen.contains x.born:=by
  funext x
  rw[Go.contains_push];cases seen.contains x.born<;>cases x.born==e.born<;>rfl
 rw[h1,←List.filter_filter];refine q8w _ i e ?_ h;exact List.Nodup.sublist (List.Sublist.map _ List.filter_sublist) hn
theorem z3Y(w:World)(ty:TypeId)(r bm since c0:Nat)(seen:Array Nat)(es:Array MapEntry)(hr:w.heap[r]?=some (.mapIter (some bm) since seen c0))(hb:w.heap[bm]?=some (.map es c0))(hold:∀x∈es.toList,x.born<since)(hsc:since≤c0):
  ((es.toList.filter fun e => !seen.contains e.born)=[]∧(Instr.next (.pointer (some (at_ r 0))) false ty).run P w=.ok (.tuple #[.bool false]) w)∨
  ∃(i:Nat) (e:MapEntry) (w1:World),(es.toList.filter fun e => !seen.contains e.born)[i]?=some e∧w1.heap=w.heap∧w1.os=w.os∧w1.tape=w.tape∧w1.output=w.output∧
   (Instr.next (.pointer (some (at_ r 0))) false ty).run P w=.ok (.tuple #[.bool true,e.key,e.val]) { w1 with heap:=w1.heap.setIfInBounds r (.mapIter (some bm) since (seen.push e.born) c0) }:=by
 have ht:=Go.next_test_false seen es since c0 hold hsc;simp only[Instr.next,at_,getObj,Sem.run_bind,Sem.run,hr,hb,Result.andThen,ht,Zan,if_false];have hmem:∀x∈(Array.filter (fun e => !seen.contains e.born) es).toList,x.born<since:=fun x hx=>hold x (by simp at hx ⊢;exact hx.1)
 have hlist:(Array.filter (fun e => !seen.contains e.born) es).toList=es.toList.filter fun e => !seen.contains e.born:=by simp
 rw[←hlist];generalize Array.filter (fun e => !seen.contains e.born) es=L at hmem ⊢;have e1:L.filter (fun x=>decide (x.born<since))=L:=Array.filter_eq_self.2 (fun x hx=>by simpa using hmem x (by simpa using hx));have e2:L.filter (fun x=>decide (x.born≥since)) = #[]:=by
  rw[Array.filter_eq_empty_iff];intro x hx;have:=hmem x (by simpa using hx);simp;omega
 simp only[e1,e2,Array.append_empty]
 by_cases h0:L.size=0
 ·left
  have:L = #[]:=Array.eq_empty_of_size_eq_zero h0;subst this;refine⟨rfl,?_⟩;simp[choose,Sem.run,Question.forced]
 ·right
  have hne:L.isEmpty=false:=by simp[Array.isEmpty,h0]
  simp only[hne,Zan,if_false,Array.empty_append,Array.size_map];have hch:∃(j:Nat) (w1:World),j<L.size∧w1.heap=w.heap∧w1.os=w.os∧w1.tape=w.tape∧w1.output=w.output∧(choose (Question.mapNext L.size)).run P w=.ok j w1:=by
   by_cases hf:L.size≤1
   ·exact⟨0,w,by omega,rfl,rfl,rfl,rfl,by simp[choose,Sem.run,Question.forced,hf]⟩
   ·exact⟨_,w.drew,Nat.mod_lt _ (by omega),rfl,rfl,rfl,rfl,by
     simp only[choose,Sem.run,Question.forced,decide_eq_true_eq,hf,if_false,Question.cut];rfl⟩
  obtain⟨j,w1,hj,p1,p2,p3,p4,hrun⟩:=hch;refine⟨j,L[j],w1,by simp[hj],p1,p2,p3,p4,?_⟩;have hset:∀(o':Obj),(setObj r o').run P w1=.ok () { w1 with heap:=w1.heap.setIfInBounds r o' }:=fun o'=>by
   simp only[setObj,Sem.run];rw[p1,hr]
  simp only[hrun,Array.getElem?_map,Zda hj,Zav,Sem.run_bind,hset,Result.andThen];rfl
theorem z3h(w:World)(r bm since c0:Nat)(s:Array Nat)(es:Array MapEntry)(e:MapEntry)(hr:w.heap[r]?=some (.mapIter (some bm) since (s.push e.born) c0))(hb:w.heap[bm]?=some (.map es c0))(he:e∈es.toList)(hn:(es.toList.map (·.born)).Nodup):
  (Instr.entry (.pointer (some (at_ r 0)))).run P w=.ok (.tuple #[e.key,e.val]) w:=by
 have hf:es.find? (·.born==e.born)=some e:=by rw[←Array.find?_toList];exact Go.find_born e es.toList hn he
 simp only[Instr.entry,at_,getObj,Sem.run_bind,Sem.run,hr,hb,Result.andThen,Array.back?_push,bne_self_eq_false,Zan,if_false,hf];rfl
theorem q0e.rangeMap{d:Nat}{t k e:TypeId}{x:LX}{K:St→Prop}{σ:St}{ks vs:List D}(hx:σ.ev x=.d (.map ks vs))(ht:P.underlying t=some (.map k e))(hK:K (((σ.drop d).setObj (.l d) (.miter (ks.zip vs) [])).put d (.ptr (.l d) 0))):q0e P (some d) (.range t) [x] K σ:=by
 intro E _ n G a w o os hp hl hdst hd hσ;obtain⟨X,hop,rfl⟩:=z67 hp;obtain⟨x',hx',he⟩:=z9h hl;cases he;have rx:=hσ.ev hx';rw[hx]at rx;have rx:=rx.dinv;generalize hv:a.eval X=v at rx;have hdn:d<n:=by simpa[q6z]using hd
 cases rx with
 |mapn=>
  obtain⟨G',h1⟩:=hσ.j2x hdn (o:=.mapIter none 0 #[] 0) (o':=.miter [] []) rfl fun G' h1 h2 h3=>⟨none,0,#[],0,by rw[h2];exact q1P _ _,rfl,rfl⟩
  exact .inl ⟨_,_,by simp[execOp,hop,hv,Go.run_range_nilMap w t k e ht,at_],G',_,⟨trivial,hK⟩,h1⟩
 |map _ _ b es clock hb hh hk hv' hn hc hr hr'=>
  obtain⟨G',h1⟩:=hσ.j2x hdn (o:=.mapIter (some b) clock #[] clock) (o':=.miter (ks.zip vs) []) rfl fun G' h1 h2 h3=>by
   have hall:(es.toList.filter fun e => !(#[]:Array Nat).contains e.born)=es.toList:=List.filter_eq_self.2 fun x _=>by simp
   refine⟨some b,clock,#[],clock,by rw[h2];exact q1P _ _,es,?_,h3.maps b es clock hb hh,hn,hc,Zal _,?_,fun i p e hp he=>?_,by simp⟩
   ·exact Zcu hb (h3.mono b)
   ·rw[hall];simp[hk,hv']
   ·rw[List.getElem?_zip_eq_some]at hp;have he':es[i]?=some e:=by rw[hall]at he;simpa using he
    exact⟨(hr i _ e hp.1 he').ext h3,(hr' i _ e hp.2 he').ext h3⟩
  exact .inl ⟨_,_,by simp[execOp,hop,hv,Go.run_range_map w t k e b es clock ht hh,at_],G',_,⟨trivial,hK⟩,h1⟩
theorem j24{r:Ref}{v:Value}(h:AVR G w (.ptr r 0) v):v=.pointer (some (at_ (G.b r) 0)):=by cases h;rfl
theorem q0e.j2C{d s:Nat}{ty:TypeId}{x:LX}{K:St→Prop}{σ:St}{left cur:List (D×D)}(hx:σ.ev x=.ptr (.l s) 0)(ho:σ.obj (.l s)=some (.miter left cur))(h0:left=[]→K (σ.put d (.tuple [.d (.bool false)])))
  (h1:∀(i:Nat) (k v:D),left[i]?=some (k,v)→K ((σ.setObj (.l s) (.miter (left.eraseIdx i) [(k,v)])).put d (.tuple [.d (.bool true),.d k,.d v]))):q0e P (some d) (.next false ty) [x] K σ:=by
 intro E _ n G a w o os hp hl hdst hd hσ;obtain⟨X,hop,rfl⟩:=z8q hp;obtain⟨x',hx',he⟩:=z9h hl;cases he;have rx:=hσ.ev hx';rw[hx]at rx;have hv:=j24 rx;have hdn:d<n:=by simpa[q6z]using hd
 obtain⟨m,since,seen,c0,hh,hm⟩:=hσ.obj _ _ ho;have over:left=[]→(Instr.next (.pointer (some (at_ (G.b (.l s)) 0))) false o.type).run P w=.ok (.tuple #[.bool false]) w→z1l P (execOp a.eval o) w (fun v w'=>∃G' σ',ChkK [] K σ'∧SR E n G' σ' (a.put (some d) v).tmps w'):=fun hl hrun=>
  .inl ⟨.tuple #[.bool false],w,by simp only[execOp,hop,hv,Sem.run_bind,hrun];rfl,G,_,⟨trivial,h0 hl⟩,by
   simpa[Act.put]using hσ.put (x:=.tuple [.d (.bool false)]) (.tuple _ _ rfl (by simp[AV.simple]) fun j y hj=>by
    match j,hj with
    |0,hj=>cases hj;exact .d _ _ (.bool _)
    |(j+1),hj=>simp at hj) hdn⟩
 cases m with
 |none=>
  obtain⟨rfl,rfl⟩:=hm;refine over rfl ?_;simp only[Instr.next,at_,getObj,Sem.run_bind,Sem.run,hh,Result.andThen];rfl
 |some bm=>
  obtain⟨es,m1,m2,m3,m4,m5,m6,m7,m8⟩:=hm;rcases z3Y (P:=P) w o.type (G.b (.l s)) bm since c0 seen es hh m2 m4 m5 with⟨q1,q2⟩|⟨i,e,w1,q1,q2,q3,q4,q5,q6⟩
  ·exact over (Zbq.1 (by rw[m6,q1];rfl)) q2
  ·have hi:i<left.length:=by rw[m6];exact(Zab.1 q1).1
   obtain⟨r1,r2⟩:=m7 i left[i] e (Zaf hi) q1;have hne:bm≠G.b (.l s):=fun e'=>by rw[e',hh]at m2;cases m2
   refine .inl ⟨.tuple #[.bool true,e.key,e.val],_,by simp only[execOp,hop,hv,Sem.run_bind,q6];rfl,G,_,⟨trivial,h1 i left[i].1 left[i].2 (Zaf hi)⟩,?_⟩;have hold:∀b,b≠G.b (.l s)→(w1.heap.setIfInBounds (G.b (.l s)) (Obj.mapIter (some bm) since (seen.push e.born) c0))[b]?=w.heap[b]?:=fun b hb=>by rw[q2];exact Zbl (Ne.symm hb)
   have hlt:=(hσ.obj _ _ ho).lt;have hS:=hσ.setIter (w':={ w1 with heap:=w1.heap.setIfInBounds (G.b (.l s)) (.mapIter (some bm) since (seen.push e.born) c0) }) ho (o':=.miter (left.eraseIdx i) [(left[i].1,left[i].2)]) rfl (by simp[q2]) hold q3 q4 q5 fun hext=>by
    refine⟨some bm,since,seen.push e.born,c0,by simp[q2,hlt],es,m1,by rw[hold bm hne];exact m2,m3,m4,m5,?_,fun j p e' hp he'=>?_,fun p hp=>?_⟩
    ·rw[z6z m3 q1,List.length_eraseIdx,List.length_eraseIdx,m6]
    ·rw[z6z m3 q1,List.getElem?_eraseIdx]at he';rw[List.getElem?_eraseIdx]at hp;split at hp
     ·rename_i hji;rw[if_pos hji]at he';exact⟨(m7 j p e' hp he').1.ext hext,(m7 j p e' hp he').2.ext hext⟩
     ·rename_i hji;rw[if_neg hji]at he';exact⟨(m7 (j+1) p e' hp he').1.ext hext,(m7 (j+1) p e' hp he').2.ext hext⟩
    ·simp at hp;subst hp;refine⟨e,(Zco.1 (Zaa q1)).1,⟨seen,rfl⟩,r1.ext hext,r2.ext hext⟩
   have hext':Ext G.f w G.f { w1 with heap:=w1.heap.setIfInBounds (G.b (.l s)) (.mapIter (some bm) since (seen.push e.born) c0) }:=⟨by simp[q2],fun _=>Zal _,fun b j hj=>by
    have hb:b≠G.b (.l s):=fun e'=>by rw[e',hσ.objf _ _ ho]at hj;omega
    simp only[World.cell?,at_];rw[hold b hb],fun b es' c hb0 hm'=>by rw[hold b (fun e'=>by rw[e',hσ.objf _ _ ho]at hb0;omega)];exact hm'⟩
   simpa[Act.put]using hS.put (x:=.tuple [.d (.bool true),.d left[i].1,.d left[i].2]) (v:=.tuple #[.bool true,e.key,e.val]) (.tuple _ _ rfl (by simp[AV.simple]) fun j y hj=>by
    match j,hj with
    |0,hj=>cases hj;exact .d _ _ (.bool _)
    |1,hj=>cases hj;exact .d _ _ (r1.ext hext')
    |2,hj=>cases hj;exact .d _ _ (r2.ext hext')
    |(j+3),hj=>simp at hj) hdn
theorem q0e.z83{d s:Nat}{x:LX}{K:St→Prop}{σ:St}{left:List (D×D)}{k v:D}(hx:σ.ev x=.ptr (.l s) 0)(ho:σ.obj (.l s)=some (.miter left [(k,v)]))(hK:K (σ.put d (.tuple [.d k,.d v]))):q0e P (some d) .entry [x] K σ:=by
 refine q0e.value (.tuple [.d k,.d v]) (fun E _ n G a w o os hp hl hσ=>?_) hK;obtain⟨X,hop,rfl⟩:=z65 hp;obtain⟨x',hx',he⟩:=z9h hl;cases he;have rx:=hσ.ev hx';rw[hx]at rx;have hv:=j24 rx;obtain⟨m,since,seen,c0,hh,hm⟩:=hσ.obj _ _ ho;cases m with
 |none=>obtain⟨_,h⟩:=hm;cases h
 |some bm=>
  obtain⟨es,m1,m2,m3,m4,m5,m6,m7,m8⟩:=hm;obtain⟨e,e1,⟨s',rfl⟩,e3,e4⟩:=m8 (k,v) (by simp);refine⟨.tuple #[e.key,e.val],by simp only[execOp,hop,hv,Sem.run_bind,z3h w _ bm since c0 s' es e hh m2 e1 m3];rfl,.tuple _ _ rfl (by simp[AV.simple]) fun j y hj=>?_⟩;match j,hj with
  |0,hj=>cases hj;exact .d _ _ e3
  |1,hj=>cases hj;exact .d _ _ e4
  |(j+2),hj=>simp at hj
/-! ### Walks through strings -/
end Go.Av
/- Maps that a function makes for itself. -/
namespace Go.Av
open Go.RowKit
variable {E:Entry} {n:Nat} {G:q0x} {σ:St} {ts:Array Value} {w:World} {P:Program} [Inv P]
theorem z66{o:Oper}{t:TypeId}{os:List Operand}(h:q2S P o=some (.mkMap t,os)):∃r,o.op=.makeMap t r∧os=r.toList:=by
 unfold q2S at h;split at h;all_goals first
  |(cases h;done)
  |(rename_i ho;cases h;exact⟨_,ho,rfl⟩)
  |(split at h<;>(try cases h)<;>(split at h<;>cases h))
  |(split at h<;>cases h)
theorem z0v{o:Oper}{t:TypeId}{os:List Operand}(h:q2S P o=some (.mapUpd t,os)):∃m k x,(o.op=.mapUpdate t m k x∨o.op=.insert t m k x)∧os=[m,k,x]:=by
 unfold q2S at h;split at h;all_goals first
  |(cases h;done)
  |(rename_i ho;cases h;exact⟨_,_,_,.inl ho,rfl⟩)
  |(rename_i ho;cases h;exact⟨_,_,_,.inr ho,rfl⟩)
  |(split at h<;>(try cases h)<;>(split at h<;>cases h))
  |(split at h<;>cases h)
theorem SR.j6Z(h:SR E n G σ ts w){d:Nat}(hn:d<n){o:Obj}{o':AObj}{x:AV}{v:Value}
  (ho:∀G':q0x,G'.f=updf G.f w.heap.size 0→G'.b (.l d)=w.heap.size→Ext G.f w G'.f (w.alloc o)→ObjR G' (w.alloc o) (.l d) o')
  (hx:∀G':q0x,G'.b (.l d)=w.heap.size→AVR G' (w.alloc o) x v):
  ∃G',SR E n G' (((σ.drop d).setObj (.l d) o').put d x) (ts.setIfInBounds d v) (w.alloc o):=by
 have h1:=(h.drop d).alloc o 0;have hlt:∀r o,(σ.drop d).obj r=some o→G.b r<w.heap.size:=fun r o ho=>((h.drop d).obj r o ho).lt
 have hρ:∀t x,aget (σ.drop d).ρ t=some x→x.has (.l d)=false:=fun t x hx=>by
  simp only[St.drop,q0p]at hx;cases hy:aget σ.ρ t with
  |none=>simp[hy]at hx
  |some y=>simp[hy]at hx;subst hx;exact(AV.q4Q _ _)
 have hL:∀t cs x,aget (σ.drop d).L t=some (.cells cs)→x∈cs→x.has (.l d)=false:=fun t cs x hx hm=>by
  simp only[St.drop,q0p]at hx;cases hy:aget σ.L t with
  |none=>simp[hy]at hx
  |some y=>
   simp[hy]at hx;cases y with
   |siter s p=>simp[q0q]at hx
   |miter l c=>simp[q0q]at hx
   |mobj l c=>simp[q0q]at hx
   |cells cs'=>simp[q0q]at hx;subst hx;obtain⟨y,_,rfl⟩:=Zak.1 hm;exact AV.q4Q _ _
 have hext:Ext G.f w (updf G.f w.heap.size 0) (w.alloc o):=Ext.alloc w h.top _ 0;have h2:=h1.j09 d w.heap.size o' hρ hL (by show updf G.f w.heap.size 0 w.heap.size=0;simp) (fun r o ho=>by have:=hlt r o ho;exact fun e'=>by have e'':G.b r=w.heap.size:=e';omega)
  (fun q v p hq hb=>by obtain⟨e1,s1⟩:=p;have:=(h.lam q v e1 s1 hq).lt hb;omega) h.ext.size
  (ho _ rfl (by simp) hext)
 exact⟨_,h2.put (hx _ (by simp)) hn⟩
theorem q0e.mkMap{d:Nat}{t k e:TypeId}{K:St→Prop}{σ:St}(ht:P.underlying t=some (.map k e))(hK:K (((σ.drop d).setObj (.l d) (.mobj [] [])).put d (.mp (.l d)))):q0e P (some d) (.mkMap t) [] K σ:=by
 intro E _ n G a w o os hp hl hdst hd hσ;obtain⟨r,hop,rfl⟩:=z66 hp;have hr:r=none:=by
  cases r with
  |none=>rfl
  |some r=>have:=z2G hl;simp at this
 subst hr;obtain⟨G',h1⟩:=hσ.j6Z (by simpa[q6z]using hd) (o:=.map #[] 0) (o':=.mobj [] []) (x:=.mp (.l d)) (v:=.map (some w.heap.size))
  (fun G' h1 h2 h3=>⟨#[],0,by rw[h2];exact q1P _ _,rfl,rfl,by simp,by simp,by simp,by simp⟩) (fun G' h2=>by rw[←h2];exact .mp _)
 refine .inl ⟨_,_,?_,G',_,⟨trivial,hK⟩,h1⟩;simp[execOp,hop,Instr.makeMap,newObj,Sem.run]
theorem z9n{r:Ref}{v:Value}(h:AVR G w (.mp r) v):v=.map (some (G.b r)):=by cases h;rfl
theorem q0e.z9l{t kt e:TypeId}{kd:TypeDesc}{m i x:LX}{K:St→Prop}{σ:St}{ks vs:List D}{key v:D}{s:Nat}(hm:σ.ev m=.mp (.l s))(ho:σ.obj (.l s)=some (.mobj ks vs))(hi:σ.ev i=.d key)(hx:(σ.ev x).rd=some v)
  (ht:P.underlying t=some (.map kt e)) (hkt:P.underlying kt=some kd) (hkey:q0Y kd key=true) (hks:∀k∈ks,q0Y kd k=true) (hnew:q3g ks vs key=none)
  (hK:K (σ.setObj (.l s) (.mobj (ks++[key]) (vs++[v])))):q0e P none (.mapUpd t) [m,i,x] K σ:=by
 intro E _ n G a w o os hp hl hdst hd hσ;obtain⟨M,I,X,hop,rfl⟩:=z0v hp;obtain⟨m',i',x',hm',hi',hx',he⟩:∃m' i' x',q1q M=some m'∧q1q I=some i'∧q1q X=some x'∧[m,i,x]=[m',i',x']:=by
  simp only[q27]at hl;split at hl
  ·rename_i a b h1 h2;split at h2
   ·rename_i c d h3 h4;split at h4
    ·rename_i e f h5 h6;cases h6;cases h4;cases h2;exact⟨_,_,_,h1,h3,h5,(Option.some.inj hl).symm⟩
    ·cases h4
   ·cases h2
  ·cases hl
 cases he;have rm:=hσ.ev hm';have ri:=hσ.ev hi';have rx:=hσ.ev hx';rw[hm]at rm;rw[hi]at ri;have hmv:=z9n rm;have ri:=ri.dinv;have rx:=rx.rd hx;obtain⟨es,clock,hh,k1,k2,k3,k4,k5,k6⟩:=hσ.obj _ _ ho;have hkk:=q2B hkey ri;have hlt:=(hσ.obj _ _ ho).lt;rcases find_spec hkey ri es.toList ks vs 0 (by simpa using k1) (by simpa using k2) hks (fun i k e h1 h2=>k5 i k e h1 (by simpa using h2)) (fun i k e h1 h2=>k6 i k e h1 (by simpa using h2))with⟨_,h2⟩|⟨u,j,q,h1,_⟩
 ·have hrun:(Instr.mapUpdate t (.map (some (G.b (.l s)))) (a.eval I) (a.eval X)).run P w=.ok () { w with heap:=w.heap.setIfInBounds (G.b (.l s)) (.map (es.push { key:=a.eval I,val:=a.eval X,born:=clock }) (clock+1)) }:=by
   simp[Instr.mapUpdate,run_underlying ht,MapKept.run_getObj_map hh,MapKept.run_checkKey hkt hkk,MapKept.run_findKey hkt h2,MapKept.run_setObj_map _ hh,Result.andThen]
  have hS:=hσ.setIter (w':={ w with heap:=w.heap.setIfInBounds (G.b (.l s)) (.map (es.push { key:=a.eval I,val:=a.eval X,born:=clock }) (clock+1)) }) ho (o':=.mobj (ks++[key]) (vs++[v])) rfl (by simp)
   (fun b hb=>Zbl (Ne.symm hb)) rfl rfl rfl fun hext=>by
     refine⟨_,_,by simp[hlt];exact⟨rfl,rfl⟩,by simp[k1],by simp[k2],?_,fun e he=>?_,fun i k e hk he=>?_,fun i k e hk he=>?_⟩
     ·simp only[Array.toList_push,List.map_append,Zai,Zbe];rw[List.nodup_append];refine⟨k3,by simp,fun a ha b hb=>?_⟩;simp at hb;subst hb;obtain⟨e,he,rfl⟩:=Zak.1 ha;have:=k4 e he;omega
     ·simp only[Array.toList_push,Zbb,List.mem_singleton]at he;rcases he with he|rfl
      ·have:=k4 e he;omega
      ·simp
     ·rw[Array.getElem?_push]at he
      by_cases hi:i=es.size
      ·rw[if_pos hi]at he;cases he;rw[hi,←k1,Zao (Zal _)]at hk;simp at hk;subst hk;exact ri.ext hext
      ·rw[if_neg hi]at he;have hi2:=(Zat.1 he).1;rw[Zag (by omega)]at hk;exact(k5 i k e hk he).ext hext
     ·rw[Array.getElem?_push]at he
      by_cases hi:i=es.size
      ·rw[if_pos hi]at he;cases he;rw[hi,←k2,Zao (Zal _)]at hk;simp at hk;subst hk;exact rx.ext hext
      ·rw[if_neg hi]at he;have hi2:=(Zat.1 he).1;rw[Zag (by omega)]at hk;exact(k6 i k e hk he).ext hext
  refine .inr (.inl ⟨_,?_,G,_,⟨trivial,hK⟩,by simpa[Act.put]using hS⟩);rcases hop with hop|hop<;>simp only[execOp,hop,hmv,Sem.run_bind,hrun]<;>rfl
 ·rw[hnew]at h1;cases h1
theorem q0e.z5v{d:Nat}{t kt e:TypeId}{kd:TypeDesc}{x i:LX}{K:St→Prop}{σ:St}{ks vs:List D}{key zero:D}{s:Nat}(hx:σ.ev x=.mp (.l s))(ho:σ.obj (.l s)=some (.mobj ks vs))(hi:σ.ev i=.d key)
  (ht:P.underlying t=some (.map kt e)) (hkt:P.underlying kt=some kd) (hkey:q0Y kd key=true) (hks:∀k∈ks,q0Y kd k=true) (hz:Program.zeroOf P e=some zero)
  (hK:K (σ.put d (.tuple [.d ((q3g ks vs key).getD zero),.d (.bool (q3g ks vs key).isSome)]))):q0e P (some d) (.lookup t true) [x,i] K σ:=by
 refine q0e.value _ (fun E _ n G a w o os hp hl hσ=>?_) hK;obtain⟨X,I,hop,rfl⟩:=z0u hp;obtain⟨x',i',hx',hi',he⟩:=z4t hl;cases he;have rx:=hσ.ev hx';have ri:=hσ.ev hi';rw[hx]at rx;rw[hi]at ri;have hv:=z9n rx;have ri:=ri.dinv;generalize hvi:a.eval I=vi at ri;obtain⟨zi,zv,hzi,hzv,hzc⟩:∃zi zv,P.info? e=some zi∧zi.zero=some zv∧cst zv=some zero:=by
  unfold Program.zeroOf at hz;obtain⟨zv,h1,h2⟩:=Zbv.1 hz;obtain⟨zi,h3,h4⟩:=Zbv.1 h1;exact⟨zi,zv,h3,h4,h2⟩
 have hzero:∀w,(zeroValue e).run P w=.ok zv w:=fun w=>by simp[zeroValue,typeInfo,hzi,hzv]
 have hkk:=q2B hkey ri;have tup:∀(u:D) (uv:Value) (b:Bool),RD G.f w u uv→AVR G w (.tuple [.d u,.d (.bool b)]) (.tuple #[uv,.bool b]):=fun u uv b hu=>
  .tuple _ _ rfl (by simp[AV.simple]) fun j y hj=>by
   match j,hj with
   |0,hj=>cases hj;exact .d _ _ hu
   |1,hj=>cases hj;exact .d _ _ (.bool _)
   |(j+2),hj=>simp at hj
 obtain⟨es,clock,hh,k1,k2,k3,k4,k5,k6⟩:=hσ.obj _ _ ho;rcases find_spec hkey ri es.toList ks vs 0 (by simpa using k1) (by simpa using k2) hks (fun i k e h1 h2=>k5 i k e h1 (by simpa using h2)) (fun i k e h1 h2=>k6 i k e h1 (by simpa using h2))with⟨h1,h2⟩|⟨v,j,u,h1,h2,h3⟩
 ·rw[h1];refine⟨.tuple #[zv,.bool false],?_,tup _ _ _ (z2r hzc)⟩;simp only[execOp,hop,hv,hvi,Instr.lookup,Sem.run_bind,run_underlying ht,Result.andThen_ok,Sem.run_pure,MapKept.run_getObj_map hh,MapKept.run_checkKey hkt hkk,MapKept.run_findKey hkt h2,hzero];rfl
 ·rw[h1];refine⟨.tuple #[u,.bool true],?_,tup _ _ _ h3⟩;simp only[execOp,hop,hv,hvi,Instr.lookup,Sem.run_bind,run_underlying ht,Result.andThen_ok,Sem.run_pure,MapKept.run_getObj_map hh,MapKept.run_checkKey hkt hkk,MapKept.run_findKey hkt h2];rfl
end Go.Av
