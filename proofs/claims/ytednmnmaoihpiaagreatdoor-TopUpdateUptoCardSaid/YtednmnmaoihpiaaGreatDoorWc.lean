import Derived.Test.YtednmnmaoihpiaaGreatDoorWa
import Derived.Test.YtednmnmaoihpiaaGreatDoorAvG
import Derived.Shelf.RegionOpenPlain
import Derived.WalkKit
import Derived.Lib.Walk
import Derived.Lib.SliceRun
import Derived.Lib.JoinLaws
import Derived.Lib.AppendZerosOnto
import Derived.Lib.Overlaps
import Derived.Laws.Externs
import Derived.Laws.IdiomCopy
import Derived.Laws.NewBlocks
import Derived.Test.YtednmnmaoihpiaaGreatDoorWb
import Derived.Shelf.Strings.Search3
import Derived.Shelf.LaysM
set_option linter.unusedVariables false
set_option linter.unusedSimpArgs false
set_option maxRecDepth 100000
namespace Go.Av.Tryz
open Go.Proofs Go.RowKit Go.Lib
section
variable {P:Program}
theorem q6i(w:World)(dT sT ty elem:TypeId)(sz k b o dLen dCap:Nat)(a:Addr)(sLen sCap:Nat)(cs:List Value)
  (hu:P.underlying dT=some (.slice elem)) (hs:(P.info? elem).map (·.size)=some sz) (hk:k=Nat.min sLen dLen) (hn:cs.length=k*sz)
  (hsrc:∀j v,cs[j]?=some v→w.cell? (a.add j)=some v) (hc:∀j,j<cs.length→(w.cell? ⟨b,o+j,none⟩).isSome=true) (hf:∀j,j<cs.length→w.frozen? ⟨b,o+j,none⟩=false) (h1:∀v∈cs,v.oneCell'=true):
  (Builtin.copy_ #[dT,sT] ty #[.slice (some ⟨b,o,none⟩) dLen dCap,.slice (some a) sLen sCap]).run P w=.ok (goInt k) (w.setCells b o cs):=by
 have hl:=run_loadCells_list (P:=P) w a cs hsrc;have hst:=run_storeCells_cells (P:=P) b o cs 0 w (by simpa using hc) (by simpa using hf) h1;cases hq:P.info? elem with
 |none=>simp[hq]at hs
 |some i=>
  have hi:i.size=sz:=by simpa[hq]using hs
  simp[Builtin.copy_,run_underlying hu,Builtin.lenOf,Builtin.firstCells,sizeOf,typeInfo,hq,hi,←hk,←hn,hl,hst]
theorem z6D(w:World){o:Oper}{a:Act}{K:Act→World→Prop}{Q:Exit→Act→World→Prop}(d s:Operand)(t t':TypeId)
  (ho:o.op=.call { callee:=.builtin .copy,args := #[d,s],argTypes := #[t,t'] }) (v u:Value) (hd:a.eval d=v) (hs:a.eval s=u) {v':Value} {w':World}
  (hr:(Builtin.copy_ #[t,t'] o.type #[v,u]).run P w=.ok v' w') (h:K (a.put o.dst v') w'):o.wp P a w K Q:=by
 unfold Oper.wp execOp;simp only[ho,resolve,invoke,builtin,Sem.run_bind,Sem.run_pure,Result.andThen_ok,List.map_toArray,Zbf,Zce,hd,hs,hr];exact h
theorem q4n(w:World){ops:Array Oper}{rest:List Oper}{o:Oper}{a:Act}{Q:Exit→Act→World→Prop}(hgd:o.guard=none)(d s:Operand)(t t':TypeId)
  (ho:o.op=.call { callee:=.builtin .copy,args := #[d,s],argTypes := #[t,t'] }) (v u:Value) (hd:a.eval d=v) (hs:a.eval s=u) {v':Value} {w':World}
  (hr:(Builtin.copy_ #[t,t'] o.type #[v,u]).run P w=.ok v' w') (h:wpList P ops Q rest (a.put o.dst v') w'):wpList P ops Q (o::rest) a w:=
 wpList_plain hgd fun _ hK=>z6D w d s t t' ho v u hd hs hr (hK _ _ h)
theorem q7O{ops:Array Oper}{o:Oper}{a:Act}{w:World}{K:Act→World→Prop}{Q:Exit→Act→World→Prop}{E:Prop}
  (hg:o.guard=none) (d x:Operand) (dT sT:TypeId) (hop:o.op=Op.call { callee:=Callee.builtin Builtin.copy,args := #[d,x],argTypes := #[dT,sT] })
  (v u:Value) (hd:a.eval d=v) (hx:a.eval x=u) {v':Value} {w':World} (hr:(Builtin.copy_ #[dT,sT] o.type #[v,u]).run P w=.ok v' w') (hK:K (a.put o.dst v') w'):
  if Region.wanted o (yielded ops a.tmps)=true then Oper.wp P o a w K Q else E:=by
 have hw:Region.wanted o (yielded ops a.tmps)=true:=by simp[Region.wanted,hg]
 rw[if_pos hw];unfold Oper.wp;simp[execOp,hop,resolve,invoke,builtin,hd,hx,hr,Result.andThen];exact hK
theorem q9e(w:World)(tS tR e:TypeId)(ht:P.underlying tS=some (.slice e))(size:Nat)(hz:∀w,(Go.sizeOf e).run P w=.ok size w)
  (a b:Addr) (la ca lb cb:Nat) (hne:a.block≠b.block) (tA:TypeId) (kA:Nat) (hsa:w.shape? a.block=some (tA,kA)) (hkA:kA≠0) {cs:Array Value} {el:TypeId} (hb:w.heap[b.block]?=some (.cells cs el (0,0))):
  (Extern.SlicesOverlaps.overlaps #[tS,tS] #[tR] #[.slice (some a) la ca,.slice (some b) lb cb]).run P w=.ok (.bool false) w:=by
 have hnb:(a.block != b.block)=true:=by simpa using hne
 have hnb':(a.block==b.block)=false:=by simpa using hne
 have hsb:w.shape? b.block=some (el,cs.size):=by simp[World.shape?,hb]
 have hfb:w.frozen? b=false:=by simp[World.frozen?,hb]
 have hfe:w.frozen? { block:=b.block,off:=cs.size }=false:=by simp[World.frozen?,hb]
 change Sem.run P (α:=Value) (do
  let some t := (#[tS, tS] : Array TypeId)[0]? | stuck "slices.overlaps: no parameter types"
  let .slice elem ← underlying t | stuck "slices.overlaps: slice type expected"
  let size ←sizeOf elem
  match(some a:Option Addr),(some b:Option Addr)with
  |some a,some b=>
   if la=0∨lb=0∨size=0 then pure (Value.bool false)
   else if a.block != b.block&&(←frozen a)&&(←frozen b)then unsupported .addressObserved
   else do
    if a.block != b.block then do
     noView a;noView b
     if ← mayBeOne a b then return Value.bool ((← choose (.extern "sameAddr.stringBytes" 2)) == 1)
    pure (Value.bool (a.block==b.block&&a.off<b.off+lb*size&&b.off<a.off+la*size))
  |_,_=>pure (Value.bool false)) w=_
 by_cases h0:la=0∨lb=0∨size=0
 ·simp[run_underlying ht,hz,h0]
 ·cases kA with
  |zero=>exact absurd rfl hkA
  |succ kA=>
   cases hfa:w.frozen? a<;>cases hf2:w.frozen? { block:=a.block,off:=kA+1 }<;>simp[run_underlying ht,hz,h0,hnb,hnb',frozen,noView,viewAt,mayBeOne,stringish,shape,Sem.run,hsa,hsb,hfa,hf2,hfb,hfe]
theorem q3p(b:Nat)(el:TypeId)(fr:Nat×Nat):∀(vs:List Value) (o:Nat) (w:World) (cur:Array Value),w.heap[b]?=some (.cells cur el fr)→o+vs.length≤cur.size→
  ∃cur',(w.setCells b o vs).heap[b]?=some (.cells cur' el fr)∧cur'.toList=cur.toList.take o++vs++cur.toList.drop (o+vs.length)
 |[],o,w,cur,h,_=>⟨cur,h,by simp⟩
 |v::r,o,w,cur,h,hl=>by
  simp only[Zaf]at hl;have h1:=q6V w b o v h;obtain⟨cur',h2,h3⟩:=q3p b el fr r (o+1) _ _ h1 (by simp;omega);refine⟨cur',h2,?_⟩;rw[h3];have ho:o<cur.toList.length:=by simp;omega
  simp only[Array.toList_setIfInBounds,Zaf];rw[Zcd,List.drop_set_of_lt (by omega),List.take_set_of_le (Zai _)];simp only[List.getElem?_set_self ho,Option.toList_some];simp[Zbn,Nat.add_comm 1]
theorem q2W(b k:Nat)(hk:k≠b):∀(vs:List Value) (o:Nat) (w:World),(w.setCells b o vs).heap[k]?=w.heap[k]?
 |[],_,_=>rfl
 |v::r,o,w=>by
  show((w.setCell (at_ b o) v).setCells b (o+1) r).heap[k]?=_
  rw[q2W b k hk r,q00 w b o k v hk]
theorem q3t(b:Nat):∀(vs:List Value) (o:Nat) (w:World),(w.setCells b o vs).heap.size=w.heap.size
 |[],_,_=>rfl
 |v::r,o,w=>by
  show((w.setCell (at_ b o) v).setCells b (o+1) r).heap.size=_
  rw[q3t b r];simp
end
theorem z55(w:World)(a b:Addr)(la ca lb cb:Nat)(hne:a.block≠b.block)(tA:TypeId)(kA:Nat)(hsa:w.shape? a.block=some (tA,kA))(hkA:kA≠0){cs:Array Value}{el:TypeId}(hb:w.heap[b.block]?=some (.cells cs el (0,0))):
  (callFunc 71 #[.slice (some a) la ca,.slice (some b) lb cb]).run Tryz.prog w=.ok (.value (.bool false)) w:=by
 rw[run_callFunc_extern Tryz.func71 (by kernel_rfl) (by kernel_rfl) (by kernel_rfl) (e:=Extern.SlicesOverlaps.overlaps #[38,38] #[4]) (by kernel_rfl),
  q9e w 38 4 51 Tryz.underlying38 6 (fun w=>by kernel_rfl) a b la ca lb cb hne tA kA hsa hkA hb]
 rfl
set_option maxHeartbeats 4000000 in
set_option maxRecDepth 100000 in
theorem z9C(v v':Value)(n:Nat)(vb voff vc:Nat)(w w':World)(base:Option Addr)(c:Nat)(hn:n≤c)(hc:c≤9223372036854775807)(hv:v=.slice base n c)(hb:base=none→n=0)
  (hr:(Builtin.append_ #[38,38] 38 #[v,.slice (some (at_ vb voff)) 1 vc]).run Tryz.prog w=.ok v' w'):
  Calls Tryz.prog 43 #[v,.int .i64 n,.slice (some (at_ vb voff)) 1 vc] w fun e W=>e=.returned v'∧W=w':=by
 subst hv
 go_enter Tryz.func43,Tryz.ntmps43
 cases base with
 |none=>
  have h0:=hb rfl;subst h0
  go_wp2_with (at_builtin;refine Lib.wpList_append_run _ rfl _ _ _ _ rfl _ _ rfl rfl _ _ hr ?_)
  go_ret
  exact⟨rfl,rfl⟩
 |some a=>
  obtain⟨ab,ao,asp⟩:=a
  go_wp2_with (at_builtin;refine Lib.wpList_append_run _ rfl _ _ _ _ rfl _ _ rfl rfl _ _ hr ?_)
  all_goals(go_ret;exact⟨rfl,rfl⟩)
theorem q6q(b:Nat)(vs:List Value)(o:Nat)(w:World)(h:∀j,j<vs.length→(w.cell? ⟨b,o+j,none⟩).isSome=true)(k:Nat)(hk:(w.cell? ⟨b,k,none⟩).isSome=true):((w.setCells b o vs).cell? ⟨b,k,none⟩).isSome=true:=by
 by_cases hin:o≤k∧k<o+vs.length
 ·have:=World.cell?_setCells_in b vs o w h (k-o) (by omega);rw[show o+(k-o)=k by omega]at this;rw[this];rfl
 ·rw[World.cell?_setCells_out b vs o w ⟨b,k,none⟩ (fun _ _=>by show k<o∨o+vs.length≤k;omega)];exact hk
set_option maxHeartbeats 4000000 in
set_option maxRecDepth 100000 in
theorem z5x(b n c i vb voff vc:Nat)(cs vs:List Value)(w:World)(hi:i<n)(hroom:n+1≤c)(hc63:c≤9223372036854775807)(hvb:vb≠b)(hcl:cs.length=n*6)(hvl:vs.length=6)
  (hcs:∀j v,cs[j]?=some v→w.cell? ⟨b,j,none⟩=some v) (hsp:∀j,j<(n+1)*6→(w.cell? ⟨b,j,none⟩).isSome=true) (hfz:∀j,w.frozen? ⟨b,j,none⟩=false)
  (hvs:∀j v,vs[j]?=some v→w.cell? ⟨vb,voff+j,none⟩=some v) (h1c:∀v∈cs,v.oneCell'=true) (h1v:∀v∈vs,v.oneCell'=true)
  (tA:TypeId) (kA:Nat) (hsa:w.shape? vb=some (tA,kA)) (hkA:kA≠0) {arr:Array Value} {el:TypeId} (hb:w.heap[b]?=some (.cells arr el (0,0))):
  Calls Tryz.prog 43 #[.slice (some ⟨b,0,none⟩) n c,.int .i64 i,.slice (some ⟨vb,voff,none⟩) 1 vc] w fun e w'=>
   e=.returned (.slice (some ⟨b,0,none⟩) (n+1) c)∧w'=(w.drew.setCells b ((i+1)*6) (cs.drop (i*6))).setCells b (i*6) vs:=by
 have hz2:¬((i:Int)=(n:Int)):=by omega
 have hsz:(Tryz.prog.info? 51).map (·.size)=some 6:=by kernel_rfl
 have hov:∀lb cb,(callFunc 71 #[.slice (some ⟨vb,voff,none⟩) 1 vc,.slice (some ⟨b,(i+1)*6,none⟩) lb cb]).run Tryz.prog w=.ok (.value (.bool false)) w:=fun lb cb=>
  z55 w ⟨vb,voff,none⟩ ⟨b,(i+1)*6,none⟩ 1 vc lb cb hvb tA kA hsa hkA hb
 have hdl:(cs.drop (i*6)).length=(n-i)*6:=by rw[Zay,hcl,Nat.sub_mul]
 have mixed:Tryz.prog.follows .mixedOrders=true:=by kernel_rfl
 have hcp1:∀ty dc sc,(Builtin.copy_ #[38,38] ty #[.slice (some ⟨b,(i+1)*6,none⟩) (n+1-(i+1)) dc,.slice (some ⟨b,i*6,none⟩) (n+1-i) sc]).run Tryz.prog w.drew=.ok (goInt ((n-i:Nat):Int)) (w.drew.setCells b ((i+1)*6) (cs.drop (i*6))):=fun ty dc sc=>
  q6i w.drew _ _ ty 51 6 (n-i) b ((i+1)*6) (n+1-(i+1)) dc ⟨b,i*6,none⟩ (n+1-i) sc (cs.drop (i*6)) Tryz.underlying38 hsz (by simp only[Nat.min_def];split<;>omega) hdl
   (fun j v hj=>by rw[Addr.add_lit];exact hcs (i*6+j) v (by rwa [Zbv]at hj))
   (fun j hj=>hsp _ (by omega)) (fun j hj=>hfz _) (fun v hv=>h1c v (Zbt hv))
 obtain⟨W1,hW1⟩:∃W1,W1=w.drew.setCells b ((i+1)*6) (cs.drop (i*6)):=⟨_,rfl⟩;have hsp1:∀k,k<(n+1)*6→(W1.cell? ⟨b,k,none⟩).isSome=true:=fun k hk=>by
  rw[hW1];exact q6q b (cs.drop (i*6)) ((i+1)*6) w.drew (fun j hj=>hsp _ (by rw[hdl]at hj;omega)) _ (hsp k hk)
 have hcp2:∀(W:World),(∀x,W.cell? x=W1.cell? x)→(∀x,W.frozen? x=W1.frozen? x)→∀ty dc,(Builtin.copy_ #[38,38] ty #[.slice (some ⟨b,i*6,none⟩) (n+1-i) dc,.slice (some ⟨vb,voff,none⟩) 1 vc]).run Tryz.prog W=.ok (goInt 1) (W.setCells b (i*6) vs):=fun W hWc hWf ty dc=>
  q6i W _ _ ty 51 6 1 b (i*6) (n+1-i) dc ⟨vb,voff,none⟩ 1 vc vs Tryz.underlying38 hsz (by simp only[Nat.min_def];split<;>omega) (by rw[hvl])
   (fun j v hj=>by
    rw[Addr.add_lit,hWc,hW1,World.cell?_setCells_out b _ _ _ _ (fun h _=>absurd h hvb)];exact hvs j v hj)
   (fun j hj=>by rw[hWc];exact hsp1 _ (by omega)) (fun j hj=>by rw[hWf,hW1,World.frozen?_setCells];exact hfz _) h1v
 rw[←hW1]at hcp1;have hw1:IntKind.i64.wrap ((i:Int)+1)=(i:Int)+1:=by rw[IntKind.wrap_i64];omega
 have hw2:IntKind.i64.wrap ((n:Int)+1)=(n:Int)+1:=by rw[IntKind.wrap_i64];omega
 have hb1:(0:Int)≤(i:Int)+1:=by omega
 have hin:i≤n:=by omega
 have htn:((i:Int)+1).toNat=i+1:=by omega
 have hb2:¬(c=i+1):=by omega
 have hb3:(i:Int)≤(n:Int)+1:=by omega
 have hb4:¬(c=i):=by omega
 go_enter Tryz.func43,Tryz.ntmps43
 go_wp2_with (simp only[hov])
 go_region_law_o (refine q7O rfl _ _ 38 38 rfl (.slice (some ⟨b,(i+1)*6,none⟩) (n+1-(i+1)) (c-(i+1))) (.slice (some ⟨b,i*6,none⟩) (n+1-i) (c-i)) (by simp[Act.eval,Act.put]) (by simp[Act.eval,Act.put]) (hcp1 3 (c-(i+1)) (c-i)) ?_)
 go_wp2_with (refine q4n _ rfl _ _ 38 38 rfl _ _ rfl rfl (hcp2 _ (fun _=>rfl) (fun _=>rfl) _ _) ?_)
 go_ret
 first|exact⟨rfl,rfl⟩|exact⟨rfl,by rw[hW1]⟩
set_option maxHeartbeats 4000000 in
set_option maxRecDepth 100000 in
theorem z7a(b n c i vb voff vc:Nat)(cs vs:List Value)(w:World)(hi:i<n)(hnc:n≤c)(hroom:c<n+1)(hn:n≤1048576)(hvb:vb≠b)(hcl:cs.length=n*6)(hvl:vs.length=6)
  (hcs:∀j v,cs[j]?=some v→w.cell? ⟨b,j,none⟩=some v)
  (hvs:∀j v,vs[j]?=some v→w.cell? ⟨vb,voff+j,none⟩=some v) (h1c:∀v∈cs,v.oneCell'=true) (h1v:∀v∈vs,v.oneCell'=true)
  {ti:TypeInfo} {z:Value} (hi0:Tryz.prog.info? 51=some ti) (hz0:ti.zero=some z) (hzs:z.cells.size=ti.size) (hzo:∀x∈z.cells.toList,x.oneCell'=true) (hsz6:ti.size=6) (hbz:ti.bytes=96):
  ∃ROW:Array Value,∃G:Nat,n+1≤G∧G≤maxLen∧ROW.size=G*6∧(∀x∈ROW.toList,x.oneCell'=true)∧ROW.toList.take (i*6)=cs.take (i*6)∧
  Calls Tryz.prog 43 #[.slice (some ⟨b,0,none⟩) n c,.int .i64 i,.slice (some ⟨vb,voff,none⟩) 1 vc] w fun e w'=>
   e=.returned (.slice (some ⟨w.heap.size,0,none⟩) (n+1) G)∧w'=(((w.alloc (.cells ROW 51)).drew.setCells w.heap.size (i*6) vs).drew).setCells w.heap.size ((i+1)*6) (cs.drop (i*6)):=by
 have hz2:¬((i:Int)=(n:Int)):=by omega
 have hz3:(c:Int)<(n:Int)+1:=by omega
 have hsz:(Tryz.prog.info? 51).map (·.size)=some 6:=by rw[hi0];simp[hsz6]
 have mixed:Tryz.prog.follows .mixedOrders=true:=by kernel_rfl
 have hbw:b<w.heap.size:=block_lt_of_cell (hcs 0 _ (Zak (by omega)));have hvw:vb<w.heap.size:=block_lt_of_cell (hvs 0 _ (Zak (by omega)));have hkk:(n:Int)+1-(i:Int)=((n+1-i:Nat):Int):=by omega
 have hik:i+(n+1-i)=n+1:=by omega
 have hold:(Builtin.firstCells ti.size i (.slice (some ⟨b,0,none⟩) i c)).run Tryz.prog w.drew=.ok (cs.take (i*6)).toArray w.drew:=by
  rw[hsz6];exact run_firstCells_some w.drew 6 i ⟨b,0,none⟩ i c (cs.take (i*6)) (by rw[Zaq];omega) (fun j v hj=>by
   rw[Addr.add_lit];rw[Zbg]at hj;split at hj
   ·rw[Zbh];exact hcs j v hj
   ·cases hj)
 have hrz:∀ty,(Builtin.append_ #[38,3] ty #[.slice (some ⟨b,0,none⟩) i c,.int .i64 ((n:Int)+1-(i:Int))]).run Tryz.prog w=
   .ok (.slice (some ⟨w.heap.size,0,none⟩) (n+1) (grownCap w (n+1) c 51)) (w.drew.alloc (.cells ((cs.take (i*6)).toArray++Builtin.zeroCells z.cells (n+1-i)++Builtin.zeroCells z.cells (grownCap w (n+1) c 51-(n+1))) 51)):=fun ty=>by
  have h:=Lib.run_append_grow_zeros w 38 3 ty 51 ti z .i64 .i64 Tryz.underlying38 Tryz.underlying3 hi0 hz0 (some ⟨b,0,none⟩) i c (cs.take (i*6)) hold (n+1-i) (by omega) (by omega) (by omega) (by omega) (by rw[hbz];omega) (by rw[hbz,hik];exact growslice_fits hroom (by omega));rw[hik]at h;rw[hkk];exact h
 obtain⟨G,hG⟩:∃G,G=grownCap w (n+1) c 51:=⟨_,rfl⟩;obtain⟨ROW,hROW⟩:∃ROW:Array Value,ROW=(cs.take (i*6)).toArray++Builtin.zeroCells z.cells (n+1-i)++Builtin.zeroCells z.cells (G-(n+1)):=⟨_,rfl⟩;rw[←hG]at hrz;rw[←hROW]at hrz;have hGn:n+1≤G:=by rw[hG];exact grownCap_ge w _ _ _
 have hGm:G≤maxLen:=by rw[hG];exact grownCap_le_maxLen w (n+1) c 51 (by unfold maxLen;omega)
 have hRs:ROW.size=G*6:=by
  rw[hROW];simp only[Array.size_append,List.size_toArray,size_zeroCells,hzs,hsz6,Zaq,hcl];omega
 have hRt:ROW.toList.take (i*6)=cs.take (i*6):=by
  rw[hROW];simp only[Array.toList_append,List.append_assoc];rw[List.take_append_of_le_length (by simp;omega),Zbs (by simp;omega)]
 have hRo:∀x∈ROW.toList,x.oneCell'=true:=fun x hx=>by
  rw[hROW]at hx;simp only[Array.toList_append,Zau]at hx;rcases hx with(hx|hx)|hx
  ·exact h1c x (Zbj hx)
  ·exact hzo x (q6m hx)
  ·exact hzo x (q6m hx)
 refine⟨ROW,G,hGn,hGm,hRs,hRo,hRt,?_⟩;obtain⟨W1,hW1⟩:∃W1,W1=w.drew.alloc (.cells ROW 51):=⟨_,rfl⟩;rw[←hW1]at hrz;have hN:∀j,j<(n+1)*6→(W1.cell? ⟨w.heap.size,j,none⟩).isSome=true:=fun j hj=>by
  rw[hW1,World.cell?_alloc_at (w:=w.drew) ROW _ w.heap.size j rfl,Zci (by omega)];rfl
 have hNf:∀j,W1.frozen? ⟨w.heap.size,j,none⟩=false:=fun j=>by rw[hW1];exact World.frozen?_alloc_at (w:=w.drew) ROW _ w.heap.size j rfl
 have hOb:∀j v,w.cell? ⟨b,j,none⟩=some v→W1.cell? ⟨b,j,none⟩=some v:=fun j v h=>by rw[hW1,World.cell?_alloc_past (w:=w.drew) _ b j hbw];exact h
 have hOv:∀j v,w.cell? ⟨vb,j,none⟩=some v→W1.cell? ⟨vb,j,none⟩=some v:=fun j v h=>by rw[hW1,World.cell?_alloc_past (w:=w.drew) _ vb j hvw];exact h
 have hcpA:∀(W:World),(∀x,W.cell? x=W1.cell? x)→(∀x,W.frozen? x=W1.frozen? x)→∀ty dc,(Builtin.copy_ #[38,38] ty #[.slice (some ⟨w.heap.size,i*6,none⟩) (n+1-i) dc,.slice (some ⟨vb,voff,none⟩) 1 vc]).run Tryz.prog W=.ok (goInt 1) (W.setCells w.heap.size (i*6) vs):=fun W hWc hWf ty dc=>
  q6i W _ _ ty 51 6 1 w.heap.size (i*6) (n+1-i) dc ⟨vb,voff,none⟩ 1 vc vs Tryz.underlying38 hsz (by simp only[Nat.min_def];split<;>omega) (by rw[hvl])
   (fun j v hj=>by rw[Addr.add_lit,hWc];exact hOv _ v (hvs j v hj))
   (fun j hj=>by rw[hWc];exact hN _ (by omega)) (fun j hj=>by rw[hWf];exact hNf _) h1v
 have hG63:G≤9223372036854775807:=by unfold maxLen at hGm;omega
 have hGi:¬(G=i):=by omega
 have hGim:¬(G=i+1):=by omega
 have hci:¬(c=i):=by omega
 have hbN:b≠w.heap.size:=by omega
 have hdl:(cs.drop (i*6)).length=(n-i)*6:=by rw[Zay,hcl,Nat.sub_mul]
 have hcpB:∀(W:World),(∀x,W.cell? x=(W1.setCells w.heap.size (i*6) vs).cell? x)→(∀x,W.frozen? x=(W1.setCells w.heap.size (i*6) vs).frozen? x)→∀ty dc sc,(Builtin.copy_ #[38,38] ty #[.slice (some ⟨w.heap.size,(i+1)*6,none⟩) (n+1-(i+1)) dc,.slice (some ⟨b,i*6,none⟩) (n-i) sc]).run Tryz.prog W=.ok (goInt ((n-i:Nat):Int)) (W.setCells w.heap.size ((i+1)*6) (cs.drop (i*6))):=fun W hWc hWf ty dc sc=>
  q6i W _ _ ty 51 6 (n-i) w.heap.size ((i+1)*6) (n+1-(i+1)) dc ⟨b,i*6,none⟩ (n-i) sc (cs.drop (i*6)) Tryz.underlying38 hsz (by simp only[Nat.min_def];split<;>omega) hdl
   (fun j v hj=>by
    rw[Addr.add_lit,hWc,World.cell?_setCells_out _ _ _ _ _ (fun h _=>absurd h hbN)];exact hOb _ v (hcs (i*6+j) v (by rwa [Zbv]at hj)))
   (fun j hj=>by rw[hWc];exact q6q _ _ _ _ (fun t ht=>hN _ (by omega)) _ (hN _ (by omega)))
   (fun j hj=>by rw[hWf,World.frozen?_setCells];exact hNf _) (fun v hv=>h1c v (Zbt hv))
 subst hW1;have hE1:∀x,((w.alloc (.cells ROW 51)).drew).cell? x=(w.drew.alloc (.cells ROW 51)).cell? x:=fun x=>rfl
 have hE2:∀x,((w.alloc (.cells ROW 51)).drew).frozen? x=(w.drew.alloc (.cells ROW 51)).frozen? x:=fun x=>rfl
 have hF1:∀x,(((w.alloc (.cells ROW 51)).drew.setCells w.heap.size (i*6) vs).drew).cell? x=((w.drew.alloc (.cells ROW 51)).setCells w.heap.size (i*6) vs).cell? x:=fun x=>rfl
 have hF2:∀x,(((w.alloc (.cells ROW 51)).drew.setCells w.heap.size (i*6) vs).drew).frozen? x=((w.drew.alloc (.cells ROW 51)).setCells w.heap.size (i*6) vs).frozen? x:=fun x=>rfl
 have hw1:IntKind.i64.wrap ((i:Int)+1)=(i:Int)+1:=by rw[IntKind.wrap_i64];omega
 have hw2:IntKind.i64.wrap ((n:Int)+1)=(n:Int)+1:=by rw[IntKind.wrap_i64];omega
 have hw3:IntKind.i64.wrap ((n:Int)+1-i)=(n:Int)+1-i:=by rw[IntKind.wrap_i64];omega
 have hb1:(0:Int)≤(i:Int)+1:=by omega
 have hin:i≤n:=by omega
 have htn:((i:Int)+1).toNat=i+1:=by omega
 have hb3:(i:Int)≤(n:Int):=by omega
 clear hkk hik hold hROW hG
 go_enter Tryz.func43,Tryz.ntmps43
 go_wp2_with (first
  |(at_builtin;refine Lib.wpList_append_run _ rfl _ _ _ _ rfl _ _ rfl rfl _ _ (hrz _) ?_)
  |(refine q4n _ rfl _ _ 38 38 rfl _ _ rfl rfl (hcpA _ hE1 hE2 _ _) ?_)
  |(refine q4n _ rfl _ _ 38 38 rfl _ _ rfl rfl (hcpB _ (fun _=>rfl) (fun _=>rfl) _ _ _) ?_))
 go_region_law_o (refine q7O rfl _ _ 38 38 rfl (.slice (some ⟨w.heap.size,(i+1)*6,none⟩) (n+1-(i+1)) (G-(i+1))) (.slice (some ⟨b,i*6,none⟩) (n-i) (c-i)) (by simp[Act.eval,Act.put]) (by simp[Act.eval,Act.put]) (hcpB _ hF1 hF2 3 (G-(i+1)) (c-i)) ?_)
 go_wp2
 go_ret
 exact⟨rfl,rfl⟩
theorem q0V(b:Nat):∀(vs:List Value) (o:Nat) (w:World),(w.setCells b o vs).os=w.os∧(w.setCells b o vs).tape=w.tape∧(w.setCells b o vs).output=w.output
 |[],_,_=>⟨rfl,rfl,rfl⟩
 |v::r,o,w=>by
  have:=q0V b r (o+1) (w.setCell (at_ b o) v);exact this
theorem z9h{w:World}{b o:Nat}{u:Value}(h:w.cell? (at_ b o)=some u):∃t k,w.shape? b=some (t,k)∧k≠0:=by
 simp only[World.cell?,at_]at h;split at h
 ·rename_i cs t fr hh;simp at h;have:=(Zan.1 h).1;exact⟨t,cs.size,by simp[World.shape?,hh],by omega⟩
 ·cases h
theorem fieldInfo:∃ti z,Tryz.prog.info? 51=some ti∧ti.zero=some z∧z.cells.size=ti.size∧(∀x∈z.cells.toList,x.oneCell'=true)∧ti.size=6∧ti.bytes=96:=by
 obtain⟨ti,z,h1,h2,h3,h4⟩:=q8q (P:=Tryz.prog) (e:=51) (by kernel_rfl);have h5:(Tryz.prog.info? 51).map (fun i=>(i.size,i.bytes))=some (6,96):=by kernel_rfl
 rw[h1]at h5;simp at h5;exact⟨ti,z,h1,h2,h3,h4,h5.1,h5.2⟩
theorem z95{C xs news:List Value}{m i:Nat}(hx:C.take (m*6)=xs)(hC:(m+1)*6≤C.length)(hn:news.length=6)(hi:i≤m){C1 C2:List Value}
  (h1:C1=C.take ((i+1)*6)++xs.drop (i*6)++C.drop ((i+1)*6+(xs.drop (i*6)).length)) (h2:C2=C1.take (i*6)++news++C1.drop (i*6+news.length)):
  C2.length=C.length∧C2.take ((m+1)*6)=xs.take (i*6)++news++xs.drop (i*6)∧∀x∈C2,x∈C∨x∈news:=by
 have hxl:xs.length=m*6:=by rw[←hx,Zaq];omega
 have hdl:(xs.drop (i*6)).length=(m-i)*6:=by rw[Zay,hxl,Nat.sub_mul]
 have hmi:(i+1)*6+(m-i)*6=(m+1)*6:=by omega
 have htl:(C.take ((i+1)*6)).length=(i+1)*6:=by rw[Zaq];omega
 have e1:C1.take (i*6)=xs.take (i*6):=by
  rw[h1,List.append_assoc,List.take_append_of_le_length (by omega),List.take_take,←hx,List.take_take];congr 1;omega
 have e2:C1.drop (i*6+news.length)=xs.drop (i*6)++C.drop ((m+1)*6):=by
  have:i*6+news.length=(C.take ((i+1)*6)).length:=by omega
  rw[this,h1,List.append_assoc,List.drop_left,hdl,hmi]
 rw[e1,e2]at h2;have htl2:(xs.take (i*6)).length=i*6:=by rw[Zaq];omega
 refine⟨?_,?_,fun x hx2=>?_⟩
 ·rw[h2];simp only[Zad,htl2,hn,hdl,Zay];omega
 ·have:(m+1)*6=(xs.take (i*6)++news++xs.drop (i*6)).length:=by simp only[Zad,htl2,hn,hdl];omega
  rw[h2,←List.append_assoc,this,Zdg]
 ·have hsub:∀y∈xs,y∈C:=fun y hy=>by rw[←hx]at hy;exact Zbj hy
  rw[h2]at hx2;simp only[Zau]at hx2;rcases hx2 with(h|h)|h|h
  ·exact .inl (hsub x (Zbj h))
  ·exact .inr h
  ·exact .inl (hsub x (Zbt h))
  ·exact .inl (Zbt h)
theorem j1p{R xs news:List Value}{m i:Nat}(hx:xs.length=m*6)(hR:R.take (i*6)=xs.take (i*6))(hRl:(m+1)*6≤R.length)(hn:news.length=6)(hi:i≤m){C1 C2:List Value}
  (h1:C1=R.take (i*6)++news++R.drop (i*6+news.length)) (h2:C2=C1.take ((i+1)*6)++xs.drop (i*6)++C1.drop ((i+1)*6+(xs.drop (i*6)).length)):
  C2.length=R.length∧C2.take ((m+1)*6)=xs.take (i*6)++news++xs.drop (i*6)∧∀x∈C2,x∈R∨x∈news∨x∈xs:=by
 have hdl:(xs.drop (i*6)).length=(m-i)*6:=by rw[Zay,hx,Nat.sub_mul]
 have htl:(xs.take (i*6)).length=i*6:=by rw[Zaq];omega
 rw[hR]at h1;have hc1:C1.length=R.length:=by rw[h1];simp only[Zad,htl,hn,Zay];omega
 have e1:C1.take ((i+1)*6)=xs.take (i*6)++news:=by
  have:(i+1)*6=(xs.take (i*6)++news).length:=by simp only[Zad,htl,hn];omega
  rw[h1,this,Zdg]
 rw[e1]at h2;refine⟨?_,?_,fun x hx2=>?_⟩
 ·rw[h2];simp only[Zad,htl,hn,hdl,Zay,hc1];omega
 ·have:(m+1)*6=(xs.take (i*6)++news++xs.drop (i*6)).length:=by simp only[Zad,htl,hn,hdl];omega
  rw[h2,this,Zdg]
 ·rw[h2]at hx2;simp only[Zau]at hx2;rcases hx2 with((h|h)|h)|h
  ·exact .inr (.inr (Zbj h))
  ·exact .inr (.inl h)
  ·exact .inr (.inr (Zbt h))
  ·have h:=Zbt h;rw[h1]at h;simp only[Zau]at h;rcases h with(h|h)|h
   ·exact .inr (.inr (Zbj h))
   ·exact .inr (.inl h)
   ·exact .inl (Zbt h)
theorem q6X:j0j Tryz.prog 43 6:=by
 refine⟨by kernel_rfl,fun w el v m xs i vb voff vc news hown ho hi hm hne hnl hnc=>?_⟩;obtain⟨ti,z,q1,q2,q3,q4,q5,q6⟩:=fieldInfo;have hxl:xs.length=m*6:=hown.1;have hnews:∀j u,news[j]?=some u→w.cell? ⟨vb,voff+j,none⟩=some u:=fun j u hj=>(hnc j u hj).1
 have h1v:∀u∈news,u.oneCell'=true:=fun u hu=>by
  obtain⟨j,hj⟩:=Zbl hu;exact(hnc j u hj).2
 have hmax:(1048577:Nat)≤maxLen:=by simp[maxLen]
 -- at the end
 have atEnd:∀base c,v=.slice base m c→m≤c→c≤9223372036854775807→(base=none→m=0)→i=m→
   Calls Tryz.prog 43 #[v,.int .i64 i,.slice (some (at_ vb voff)) 1 vc] w fun e w'=>∃v' el',e=.returned v'∧w'.ownsRow 0 el' 6 v' (m+1) (xs.take (i*6)++news++xs.drop (i*6))∧Grow w w' v v' 0∧q5E w' v':=fun base c hv hmc hc hb him=>by
  subst him;have hsrc:Src Tryz.prog ti.size 38 (.slice (some (at_ vb voff)) 1 vc) 1 news w:=Src.ofSlice w Tryz.underlying38 (at_ vb voff) 1 vc news (by rw[q5,hnl]) (fun j u hj=>by rw[q39];exact hnews j u hj) h1v;rw[←q5]at hown;obtain⟨v',w',el',r1,r2,r3,r4⟩:=q5B (P:=Tryz.prog) w 38 38 38 51 el ti z Tryz.underlying38 q1 q2 q3 v i xs hown _ 1 news hsrc (by omega) (by rw[q6];omega) (by omega) ho q4;refine(z9C v v' i vb voff vc w w' base c hmc hc hv hb r1).mono fun e W ⟨he,hW⟩=>?_
  subst he;subst hW;refine⟨v',el',rfl,?_,{ r3 with cells:=fun b hb j hj=>by omega },r4⟩;rw[Zbs (by omega),List.drop_of_length_le (by omega),Zco,←q5];exact r2
 rcases hown.2 with⟨rfl,rfl⟩|⟨g,cap,cur,rfl,_,hg,hnc2,hcm,hcs,htake⟩
 ·exact atEnd none 0 rfl (by omega) (by omega) (fun _=>rfl) (by omega)
 ·have hc63:cap≤9223372036854775807:=by simp only[maxLen]at hcm;omega
  by_cases him:i=m
  ·exact atEnd _ cap rfl hnc2 hc63 (fun h=>by cases h) him
  ·have hlt:i<m:=by omega
   have hgb:vb≠g:=fun e=>hne (by rw[e];rfl)
   have hcell:∀j u,xs[j]?=some u→w.cell? ⟨g,j,none⟩=some u:=fun j u hj=>by
    have:=hown.cells (g:=g) rfl j u hj;rw[q54]at this;exact this
   have h1c:∀u∈xs,u.oneCell'=true:=fun u hu=>by
    rw[←htake]at hu;exact ho g cur _ _ rfl hg u (Zbj hu)
   have hcl:cur.toList.length=cap*6:=by simpa using hcs
   by_cases hroom:m+1≤cap
   ·obtain⟨u,hu⟩:∃u,news[0]?=some u:=⟨_,Zak (by omega)⟩;obtain⟨tA,kA,s1,s2⟩:=z9h (hnc 0 u hu).1;refine(z5x g m cap i vb voff vc xs news w hlt hroom hc63 hgb hxl hnl hcell (fun j hj=>?_) (fun j=>by simp[World.frozen?,hg]) hnews h1c h1v tA kA s1 s2 hg).mono fun e W ⟨he,hW⟩=>?_
    ·simp only[World.cell?,hg];have:j<cur.size:=by rw[hcs];omega
     simp[this]
    ·subst he;have hdl:(xs.drop (i*6)).length=(m-i)*6:=by rw[Zay,hxl,Nat.sub_mul]
     obtain⟨c1,k1,k2⟩:=q3p g el (0,0) (xs.drop (i*6)) ((i+1)*6) w.drew cur hg (by rw[hdl,hcs];omega);have hc1:c1.size=cur.size:=by
      have:=congrArg List.length k2;simp only[Array.length_toList,Zad,Zaq,Zay,hdl]at this;have hxl':=hxl;omega
     obtain⟨c2,k3,k4⟩:=q3p g el (0,0) news (i*6) _ c1 k1 (by rw[hnl,hc1,hcs];omega);rw[←hW]at k3;obtain⟨l1,l2,l3⟩:=z95 (C:=cur.toList) (xs:=xs) (news:=news) (m:=m) (i:=i) htake (by rw[hcl];omega) hnl hi k2 k4;refine⟨_,el,rfl,⟨?_,.inr ⟨g,cap,c2,rfl,Zbb _,k3,hroom,hcm,?_,l2⟩⟩,⟨?_,fun b hb hbb=>?_,fun _ _ j hj=>by omega,.inl rfl,?_,?_,?_⟩,fun b arr e2 fr hb hh x hx=>?_⟩
     ·simp only[Zad,Zaq,hdl,hnl,hxl];omega
     ·have:c2.size=cur.size:=by simpa using l1
      rw[this,hcs]
     ·rw[hW,q3t,q3t];exact Zai _
     ·have:b≠g:=fun e=>hbb (by rw[e];rfl)
      rw[hW,q2W g b this,q2W g b this];rfl
     ·rw[hW,(q0V _ _ _ _).1,(q0V _ _ _ _).1];rfl
     ·rw[hW,(q0V _ _ _ _).2.1,(q0V _ _ _ _).2.1];rfl
     ·rw[hW,(q0V _ _ _ _).2.2,(q0V _ _ _ _).2.2];rfl
     ·simp[Value.ownBlock]at hb;subst hb;rw[k3]at hh;cases hh;rcases l3 x hx with h|h
      ·exact ho g cur _ _ rfl hg x h
      ·exact h1v x h
   ·obtain⟨ROW,G,g1,g2,g3,g4,g5,hcall⟩:=z7a g m cap i vb voff vc xs news w hlt hnc2 (by omega) hm hgb hxl hnl hcell hnews h1c h1v q1 q2 q3 q4 q5 q6;refine hcall.mono fun e W ⟨he,hW⟩=>?_
    subst he;have hdl:(xs.drop (i*6)).length=(m-i)*6:=by rw[Zay,hxl,Nat.sub_mul]
    have hnew:((w.alloc (.cells ROW 51)).drew).heap[w.heap.size]?=some (.cells ROW 51 (0,0)):=q1p w _;obtain⟨c1,k1,k2⟩:=q3p w.heap.size 51 (0,0) news (i*6) _ ROW hnew (by rw[hnl,g3];omega);have hc1:c1.size=ROW.size:=by
     have:=congrArg List.length k2;simp only[Array.length_toList,Zad,Zaq,Zay,hnl]at this;omega
    obtain⟨c2,k3,k4⟩:=q3p w.heap.size 51 (0,0) (xs.drop (i*6)) ((i+1)*6) _ c1 (show(((w.alloc (.cells ROW 51)).drew.setCells w.heap.size (i*6) news).drew).heap[w.heap.size]?=_ from k1) (by rw[hdl,hc1,g3];omega);rw[←hW]at k3;have hRl:ROW.toList.length=G*6:=by simpa using g3
    obtain⟨l1,l2,l3⟩:=j1p (R:=ROW.toList) (xs:=xs) (news:=news) (m:=m) (i:=i) hxl g5 (by rw[hRl];omega) hnl hi k2 k4;refine⟨_,51,rfl,⟨?_,.inr ⟨w.heap.size,G,c2,rfl,Zbb _,k3,g1,g2,?_,l2⟩⟩,⟨?_,fun b hb hbb=>?_,fun _ _ j hj=>by omega,.inr ⟨_,rfl,Zai _⟩,?_,?_,?_⟩,fun b arr e2 fr hb hh x hx=>?_⟩
    ·simp only[Zad,Zaq,hdl,hnl,hxl];omega
    ·have:c2.size=ROW.size:=by simpa using l1
     rw[this,g3]
    ·rw[hW,q3t];show _≤((w.alloc (.cells ROW 51)).drew.setCells w.heap.size (i*6) news).heap.size
     rw[q3t];show _≤(w.alloc (.cells ROW 51)).heap.size
     simp
    ·have hb':b≠w.heap.size:=by omega
     rw[hW,q2W _ b hb'];show((w.alloc (.cells ROW 51)).drew.setCells w.heap.size (i*6) news).heap[b]?=_
     rw[q2W _ b hb'];exact q1M w _ hb
    ·rw[hW,(q0V _ _ _ _).1];show((w.alloc (.cells ROW 51)).drew.setCells w.heap.size (i*6) news).os=_
     rw[(q0V _ _ _ _).1];rfl
    ·rw[hW,(q0V _ _ _ _).2.1];show((w.alloc (.cells ROW 51)).drew.setCells w.heap.size (i*6) news).tape=_
     rw[(q0V _ _ _ _).2.1];rfl
    ·rw[hW,(q0V _ _ _ _).2.2];show((w.alloc (.cells ROW 51)).drew.setCells w.heap.size (i*6) news).output=_
     rw[(q0V _ _ _ _).2.2];rfl
    ·simp[Value.ownBlock]at hb;subst hb;rw[k3]at hh;cases hh;rcases l3 x hx with h|h|h
     ·exact g4 x h
     ·exact h1v x h
     ·exact h1c x h
theorem j6E(v:Val)(hsm:v.sm 1048576=true):q0y Tryz.prog 39 [v.d] (fun r=>r=.one v.d):=
 (j5r _ v (Zai _) hsm).j4b fun r hr=>by rw[hr.data]
def setF(nm:List UInt8)(x:Val)(f:List Fld):List Fld:=if hasV nm f then f.set (posV nm f) (.mk nm x)else f.take (posV nm f)++.mk nm x::f.drop (posV nm f)
def setV(nm:List UInt8)(x v:Val):Val:=.mk v.kind v.n v.s v.l (setF nm x v.f)
theorem j1r{nm:List UInt8}{f:List Fld}(h:hasV nm f=true):∃y:Fld,f[posV nm f]?=some y∧y.name=nm:=by
 unfold hasV at h;split at h
 ·rename_i y hy;exact⟨y,hy,by simpa using h⟩
 ·cases h
theorem z8G(nm:List UInt8):posV nm []=0:=rfl
theorem z0P(nm:List UInt8):hasV nm []=false:=rfl
theorem z7H:srt []:=fun i j x y _ h=>by simp at h
theorem z8f(nm:List UInt8)(x:Val):(Fld.mk nm x).d=.agg [.str nm,.int .i64 x.kind,.int .i64 x.n,.str x.s,.list (q0u x.l),.list (q0k x.f)]:=by rw[Fld.d_eq];rfl
theorem z9t(l:List Fld)(i:Nat):q0k (l.take i)=(q0k l).take i:=by simp[q2I,List.map_take]
theorem z9s(l:List Fld)(i:Nat):q0k (l.drop i)=(q0k l).drop i:=by simp[q2I,List.map_drop]
theorem z0Y{nm:List UInt8}{x:Val}{f:List Fld}(h:hasV nm f=false):q0k (setF nm x f)=(q0k f).take (posV nm f)++.agg [.str nm,.int .i64 x.kind,.int .i64 x.n,.str x.s,.list (q0u x.l),.list (q0k x.f)]::(q0k f).drop (posV nm f):=by
 rw[setF,h,if_neg (by simp),q6U,q0k,z8f,z9t,z9s]
theorem z0Z{nm:List UInt8}{x:Val}{f:List Fld}(h:hasV nm f=true):q0k (setF nm x f)=(q0k f).set (posV nm f) (.agg [.str nm,.int .i64 x.kind,.int .i64 x.n,.str x.s,.list (q0u x.l),.list (q0k x.f)]):=by
 rw[setF,h,if_pos rfl,q2I,List.map_set,←q2I,z8f]
theorem z3D(nm:List UInt8)(x v:Val):(setV nm x v).d=.agg [.int .i64 v.kind,.int .i64 v.n,.str v.s,.list (q0u v.l),.list (q0k (setF nm x v.f))]:=by rw[Val.d_eq];rfl
def q7W:q0l:=
 .seq (.reg [⟨some 3,.box (.t 0),none⟩,⟨some 5,.box (.t 2),none⟩,⟨some 6,.allo [.int .i64 0,.int .i64 0,.str [],.list [],.list []],none⟩]) (.seq (.reg [Q 9 (.ld true 5 
 (.t 3)),⟨some 10,.call 39 [.t 9],none⟩,⟨none,.st 5 (.t 3) (.t 10),none⟩]) (.seq (.reg [Q 12 (.fa 4 (.t 3)),Q 13 (.ld false 1 (.t 12)),Qc 14 1,⟨some 15,.prim .call [.k 
 (.fn (.func 40) [] []),.t 13,.t 14,.k (.fn (.func 41) [] [])] [],none⟩,Qc 11 15,Q 16 (.ext 0 (.t 11)),Q 17 (.ext 1 (.t 11)),Qa 7 16,Qa 8 17]) (.seq (.seq (.reg [Qc 18 
 8]) (.cond (.t 18) (.dreg [Q 19 (.fa 4 (.t 3)),Q 20 (.ld false 1 (.t 19)),Qc 21 7,Q 22 (.ld true 5 (.t 5)),⟨some 23,.call 39 [.t 22],none⟩,Q 24 (.ia 6 (.t 20) (.t 21)),Q 
 25 (.fa 1 (.t 24)),⟨none,.st 5 (.t 25) (.t 23),none⟩]) (.dreg [Q 26 (.fa 4 (.t 3)),Q 27 (.ld false 1 (.t 26)),Qc 28 7,Qc 29 1,Q 30 (.ld true 5 (.t 5)),⟨some 31,.call 39 
 [.t 30],none⟩,Q 32 (.bld [(0,1),(1,5)] [.str [],.int .i64 0,.int .i64 0,.str [],.list [],.list []] [] [(0,.t 29),(1,.t 31)]),⟨some 33,.bsl 51 6 [.t 32],none⟩, 
 ⟨some 34,.prim .call [.k (.fn (.func 43) [] []),.t 27,.t 28,.t 33] [],none⟩,Q 35 (.fa 4 (.t 3)),⟨none,.st 1 (.t 35) (.t 34),none⟩]))) (.seq (.reg [Q 36 (.ld true 5 (.t 
 3)),⟨none,.st 5 (.t 6) (.t 36),none⟩]) .ret))))
def z6E:List LRes:=[.cell 6 true 5]
theorem q7J:q0E Tryz.prog 22 37 q7W z6E:=⟨_,_,Tryz.func22,rfl,by kernel_rfl,by kernel_rfl,rfl⟩
theorem j2v(v x:Val)(nm:List UInt8)(hs:srt v.f)(hv:v.sm 1048576=true)(hx:x.sm 1048576=true):q0y Tryz.prog 22 [v.d,.str nm,x.d] (fun r=>r=.one (setV nm x v).d):=by
 obtain⟨_,hll,hfl,hsl,hsf⟩:=Val.q1Q.1 hv;have hvl:=q0Z v.l;have hfl':=q0R v.f;have hcx:=j6E x hx;rw[Val.d_eq x]at hcx;refine z4V.j4b (Post:=fun r=>r.data=(setV nm x v).d) ?_ (fun r hr=>by rw[hr]);refine q7J.z9K rfl ?_;rw[Val.d_eq v,Val.d_eq x];simp only[go_sem,↓reduceIte,q7W];refine q0j.z9i (q40.z9K (j5r _ v (Zai _) hv) (by rw[Val.d_eq];rfl) (fun r hok hr=>?_));obtain⟨X,hX,hr⟩:=hr;rcases hr with⟨hf0,rfl⟩|⟨hf0,c,rfl⟩
 ·rcases hX with⟨rfl,hl0⟩|rfl
  ·simp only[go_sem,↓reduceIte,XR.z1d];refine q0b.q0G ([]) ([]) rfl ((q6j [] nm z7H (by simp)).j34) rfl rfl (by simp only[q1b,St.obj,aget,AObj.ren,AV.ren,AV.ren1,renL,q2u,renR,renQ,Zaw,Zax,and_true,and_self,Nat.reduceEqDiff,↓reduceIte,reduceCtorEq]) rfl rfl rfl ⟨rfl,rfl⟩ ?_;simp only[go_sem,↓reduceIte,z8G,z0P];refine q1I.of hcx ?_;simp(disch:=omega)only[go_sem,↓reduceIte]
   refine q0b.insert (k:=10) (c:=0) (i:=0) (fs:=[]) q6X rfl (.inl ⟨rfl,rfl⟩) rfl rfl rfl (by decide) (by simp) (by simp) (by simp) (fun c' h1 h2=>?_);simp(disch:=omega)only[go_sem,↓reduceIte,q2k];refine⟨.row [.d (.int .i64 v.kind),.d (.int .i64 v.n),.d (.str v.s),.ns] 6 [.agg [.str nm,.int .i64 x.kind,.int .i64 x.n,.str x.s,.list (q0u x.l),.list (q0k x.f)]] c',10,rfl,(fun _ _ _ _ h=>by cases h;rfl),⟨by simp[AV.dns],by simp[D.cells],by simpa using h1,h2⟩,?_⟩;rw[z3D,hf0,hl0,z0Y (z0P nm)];rfl
  ·simp only[go_sem,↓reduceIte,XR.z1d];refine q0b.q0G ([]) ([]) rfl ((q6j [] nm z7H (by simp)).j34) rfl rfl (by simp only[q1b,St.obj,aget,AObj.ren,AV.ren,AV.ren1,renL,q2u,renR,renQ,Zaw,Zax,and_true,and_self,Nat.reduceEqDiff,↓reduceIte,reduceCtorEq]) rfl rfl rfl ⟨rfl,rfl⟩ ?_;simp only[go_sem,↓reduceIte,z8G,z0P];refine q1I.of hcx ?_;simp(disch:=omega)only[go_sem,↓reduceIte]
   refine q0b.insert (k:=10) (c:=0) (i:=0) (fs:=[]) q6X rfl (.inl ⟨rfl,rfl⟩) rfl rfl rfl (by decide) (by simp) (by simp) (by simp) (fun c' h1 h2=>?_);simp(disch:=omega)only[go_sem,↓reduceIte,q2k];refine⟨.row [.d (.int .i64 v.kind),.d (.int .i64 v.n),.d (.str v.s),.d (.list (q0u v.l))] 6 [.agg [.str nm,.int .i64 x.kind,.int .i64 x.n,.str x.s,.list (q0u x.l),.list (q0k x.f)]] c',10,rfl,(fun _ _ _ _ h=>by cases h;rfl),⟨by simp[AV.dns],by simp[D.cells],by simpa using h1,h2⟩,?_⟩;rw[z3D,hf0,z0Y (z0P nm)];rfl
 ·rcases hX with⟨rfl,hl0⟩|rfl
  ·simp only[go_sem,↓reduceIte,XR.z1d];refine q0b.z3J (k:=10) (sz:=6) (c:=c) (fs:=q0k v.f) rfl rfl rfl (q0q _) hok.2.2.1 rfl (q6j v.f nm hs hfl) rfl ?_;simp only[go_sem,↓reduceIte];refine⟨fun hh=>?_,fun hh=>?_⟩
   ·refine q1I.of hcx ?_;simp(disch:=omega)only[go_sem,↓reduceIte];obtain⟨y,hy,hyn⟩:=j1r hh;have hlt:=(Zaa.1 hy).1;have hrow:=q5l (q0q v.f) hok.2.2.1;have hset:=z0V (sz:=6) (c:=c) (i:=posV nm v.f) (a:=.str nm) (xs:=[.int .i64 y.v.kind,.int .i64 y.v.n,.str y.v.s,.list (q0u y.v.l),.list (q0k y.v.f)]) (q0q v.f) (by rw[q07,hy];simp only[Zat];rw[Fld.d_eq,hyn]) (ys:=[.int .i64 x.kind,.int .i64 x.n,.str x.s,.list (q0u x.l),.list (q0k x.f)]) rfl
    refine⟨⟨by omega,by omega⟩,?_,?_⟩
    ·rw[hrow,Zcn];have:=hok.2.2.1;omega
    ·refine⟨.row [.d (.int .i64 v.kind),.d (.int .i64 v.n),.d (.str v.s),.ns] 6 ((q0k v.f).set (posV nm v.f) (.agg [.str nm,.int .i64 x.kind,.int .i64 x.n,.str x.s,.list (q0u x.l),.list (q0k x.f)])) c,10,?_,(fun _ _ _ _ h=>by cases h;rw[←hset];rfl),⟨by simp[AV.dns],?_,by rw[Zcz];exact hok.2.2.1,hok.2.2.2⟩,?_⟩
     ·show _=some (AV.sx _)
      rw[Zcz];rfl
     ·rw[←z0Z hh];exact q0q _
     ·rw[z3D,hl0,z0Z hh];rfl
   ·refine q1I.of hcx ?_;simp(disch:=omega)only[go_sem,↓reduceIte];refine q0b.insert (k:=10) (c:=c) (i:=posV nm v.f) (fs:=q0k v.f) q6X rfl (.inr ⟨rfl,rfl,hok.2.2.1,hok.2.2.2⟩) rfl rfl rfl (by decide) (q0q _) (by rw[hfl'];exact q8h _ _) (by omega) (fun c' h1 h2=>?_);simp(disch:=omega)only[go_sem,↓reduceIte,q2k];have hins:=z0Y (x:=x) hh
    refine⟨.row [.d (.int .i64 v.kind),.d (.int .i64 v.n),.d (.str v.s),.ns] 6 (q0k (setF nm x v.f)) c',10,?_,(fun _ _ _ _ h=>by cases h;rw[hins];rfl),⟨by simp[AV.dns],q0q _,?_,h2⟩,?_⟩
    ·have hl:(q0k (setF nm x v.f)).length=(q0k v.f).length+1:=by
      rw[hins,Zad,Zaf,Zaq,Zay];have:=q8h nm v.f;omega
     show _=some (AV.sx _)
     rw[hl];rfl
    ·rw[hins,Zad,Zaf,Zaq,Zay];have:=q8h nm v.f;omega
    ·rw[z3D,hl0];rfl
  ·simp only[go_sem,↓reduceIte,XR.z1d];refine q0b.z3J (k:=10) (sz:=6) (c:=c) (fs:=q0k v.f) rfl rfl rfl (q0q _) hok.2.2.1 rfl (q6j v.f nm hs hfl) rfl ?_;simp only[go_sem,↓reduceIte];refine⟨fun hh=>?_,fun hh=>?_⟩
   ·refine q1I.of hcx ?_;simp(disch:=omega)only[go_sem,↓reduceIte];obtain⟨y,hy,hyn⟩:=j1r hh;have hlt:=(Zaa.1 hy).1;have hrow:=q5l (q0q v.f) hok.2.2.1;have hset:=z0V (sz:=6) (c:=c) (i:=posV nm v.f) (a:=.str nm) (xs:=[.int .i64 y.v.kind,.int .i64 y.v.n,.str y.v.s,.list (q0u y.v.l),.list (q0k y.v.f)]) (q0q v.f) (by rw[q07,hy];simp only[Zat];rw[Fld.d_eq,hyn]) (ys:=[.int .i64 x.kind,.int .i64 x.n,.str x.s,.list (q0u x.l),.list (q0k x.f)]) rfl
    refine⟨⟨by omega,by omega⟩,?_,?_⟩
    ·rw[hrow,Zcn];have:=hok.2.2.1;omega
    ·refine⟨.row [.d (.int .i64 v.kind),.d (.int .i64 v.n),.d (.str v.s),.d (.list (q0u v.l))] 6 ((q0k v.f).set (posV nm v.f) (.agg [.str nm,.int .i64 x.kind,.int .i64 x.n,.str x.s,.list (q0u x.l),.list (q0k x.f)])) c,10,?_,(fun _ _ _ _ h=>by cases h;rw[←hset];rfl),⟨by simp[AV.dns],?_,by rw[Zcz];exact hok.2.2.1,hok.2.2.2⟩,?_⟩
     ·show _=some (AV.sx _)
      rw[Zcz];rfl
     ·rw[←z0Z hh];exact q0q _
     ·rw[z3D,z0Z hh];rfl
   ·refine q1I.of hcx ?_;simp(disch:=omega)only[go_sem,↓reduceIte];refine q0b.insert (k:=10) (c:=c) (i:=posV nm v.f) (fs:=q0k v.f) q6X rfl (.inr ⟨rfl,rfl,hok.2.2.1,hok.2.2.2⟩) rfl rfl rfl (by decide) (q0q _) (by rw[hfl'];exact q8h _ _) (by omega) (fun c' h1 h2=>?_);simp(disch:=omega)only[go_sem,↓reduceIte,q2k];have hins:=z0Y (x:=x) hh
    refine⟨.row [.d (.int .i64 v.kind),.d (.int .i64 v.n),.d (.str v.s),.d (.list (q0u v.l))] 6 (q0k (setF nm x v.f)) c',10,?_,(fun _ _ _ _ h=>by cases h;rw[hins];rfl),⟨by simp[AV.dns],q0q _,?_,h2⟩,?_⟩
    ·have hl:(q0k (setF nm x v.f)).length=(q0k v.f).length+1:=by
      rw[hins,Zad,Zaf,Zaq,Zay];have:=q8h nm v.f;omega
     show _=some (AV.sx _)
     rw[hl];rfl
    ·rw[hins,Zad,Zaf,Zaq,Zay];have:=q8h nm v.f;omega
    ·rw[z3D];rfl
def leqB(a b:List UInt8):Bool:=Op.bytesLess a b || decide (a=b)
theorem mk_d(k n:Int)(s:List UInt8)(l:List Val)(f:List Fld):(Val.mk k n s l f).d=.agg [.int .i64 k,.int .i64 n,.str s,.list (q0u l),.list (q0k f)]:=by rw[Val.d_eq];rfl
/-! ### Names, strings -/
def q3w:List UInt8→List UInt8→Option (List UInt8)
 |[],b=>some b
 |c::r,b=>
  if c.toNat=35 then
   match r with
   |x::y::q=>if hexI x.toNat<0∨hexI y.toNat<0 then none else q3w q (b++[q55 (16*hexI x.toNat+hexI y.toNat)])
   |_=>none
  else q3w r (b++[c])
def octB(c:UInt8):Bool:=decide (48≤c.toNat)&&decide (c.toNat≤55)
def oct1(e:UInt8):Int:=(e.toNat:Int)-48
def octG:Nat→Int→List UInt8→Nat→Int×Nat
 |0,v,_,k=>(v,k)
 |_+1,v,[],k=>(v,k)
 |m+1,v,x::q,k=>if octB x=true then octG m (8*v+oct1 x) q (k+1)else(v,k)
theorem z5Z{m:Nat}{v:Int}{t:List UInt8}{k:Nat}(h:∀x q,t=x::q→octB x=false):octG m v t k=(v,k):=by
 match m,t with
 |0,_=>rfl
 |m+1,[]=>rfl
 |m+1,x::q=>rw[octG,if_neg (by simp[h x q rfl])]
def octL(e:UInt8)(r:List UInt8):Option UInt8×Nat:=(some (q55 (octG 2 (oct1 e) r 1).1),(octG 2 (oct1 e) r 1).2)
def escL:List UInt8→Option UInt8×Nat
 |[]=>(none,1)
 |e::r=>
  if e.toNat=110 then(some 10,1)else if e.toNat=114 then(some 13,1)else if e.toNat=116 then(some 9,1)else if e.toNat=98 then(some 8,1)else if e.toNat=102 then(some 12,1)
  else if e.toNat=10 then(none,1)
  else if e.toNat=13 then(if r.head?.map UInt8.toNat=some 10 then(none,2)else(none,1))
  else if octB e=false then(some e,1)
  else octL e r
def litF:Nat→Nat→List UInt8→List UInt8→Nat→Option (List UInt8×Nat)
 |_,_,[],_,_=>none
 |k+1,d,_::r,b,p=>litF k d r b (p+1)
 |0,d,c::r,b,p=>
  if c.toNat=92 then(if r=[]then none else litF (escL r).2 d r (b++(escL r).1.toList) (p+1))
  else if c.toNat=41 then(if d≤1 then some (b,p+1)else litF 0 (d-1) r (b++[c]) (p+1))
  else if c.toNat=40 then litF 0 (d+1) r (b++[c]) (p+1)
  else litF 0 d r (b++[c]) (p+1)
theorem z5R:∀(k:Nat) {d:Nat} {t b:List UInt8} {p:Nat},k≤t.length→litF k d t b p=litF 0 d (t.drop k) b (p+k)
 |0,_,_,_,_,_=>rfl
 |k+1,d,[],b,p,h=>by simp at h
 |k+1,d,c::r,b,p,h=>by
  rw[litF,z5R k (by simpa using h),List.drop_succ_cons];congr 1;omega
/-! ### Values -/
inductive RV where
 |ok (v:Val) (k:Nat)
 |bad (e:Nat)
def numV(n:Int):Val:=.mk 2 n [] [] []
def strV(s:List UInt8):Val:=.mk 3 0 s [] []
def namV(s:List UInt8):Val:=.mk 4 0 s [] []
def lisV(l:List Val):Val:=.mk 5 0 [] l []
def dicV(f:List Fld):Val:=.mk 6 0 [] [] f
def digF:List UInt8→Nat→Option Nat
 |[],n=>some n
 |c::r,n=>if c.toNat<48∨57<c.toNat then none else digF r (10*n+(c.toNat-48))
def objF(w:List UInt8):Option Nat:=
 if w.length<1∨2<w.length∨w.head?.map UInt8.toNat=some 48 then none
 else match digF w 0 with
  |none=>none
  |some n=>if n≤60 then some n else none
def q7w(s:List UInt8)(at_:Nat):Option (Nat×Nat):=
 match objF (q08 s at_)with
 |none=>none
 |some n=>
  let i:=q0o s (at_+(q08 s at_).length)
  if q08 s i=[48]then
   let j:=q0o s (i+1)
   if q08 s j=[82]then some (n,j+1)else none
  else none
def z4h(s:List UInt8)(at_:Nat):RV:=
 match litF 0 1 (s.drop at_) [] at_ with
 |none=>.bad 5
 |some (b,k)=>if b.length≤200 then .ok (strV b) k else .bad 2
def z65(s:List UInt8)(at_:Nat):RV:=
 if(q2O (s.drop at_) (-1) []).2=0 then(if(q2O (s.drop at_) (-1) []).1.length≤200 then .ok (strV (q2O (s.drop at_) (-1) []).1) (at_+q9C (s.drop at_))else .bad 2)
 else .bad (q2O (s.drop at_) (-1) []).2
def q2V(s:List UInt8)(at_:Nat):Option (List UInt8×Nat):=
 match q3w (q08 s (at_+1)) []with
 |none=>none
 |some b=>if q1A b=true then some (b,at_+1+(q08 s (at_+1)).length)else none
def q7y(s:List UInt8)(at_:Nat):RV:=
 if q08 s at_=[110,117,108,108]then .ok zeroV (at_+4)
 else if q08 s at_=[116,114,117,101]then .ok (.mk 1 1 [] [] []) (at_+4)
 else if q08 s at_=[102,97,108,115,101]then .ok (.mk 1 0 [] [] []) (at_+5)
 else match q7w s at_ with
  |some (n,k)=>.ok (.mk 7 n [] [] []) k
  |none=>if(q5i (q08 s at_)).2=0 then .ok (numV (q5i (q08 s at_)).1) (at_+(q08 s at_).length)else .bad (q5i (q08 s at_)).2
def q4S(rd:Nat→RV)(s:List UInt8):Nat→List Val→Nat→RV
 |0,_,_=>.bad 2
 |m+1,acc,at_=>
  match s[q0o s at_]? with
  |none=>.bad 5
  |some c=>
   if c.toNat=93 then .ok (lisV acc) (q0o s at_+1)
   else match rd (q0o s at_)with
    |.bad e=>.bad e
    |.ok x k=>q4S rd s m (acc++[x]) k
def q4L(rd:Nat→RV)(s:List UInt8):Nat→List Fld→Nat→RV
 |0,_,_=>.bad 2
 |m+1,acc,at_=>
  match s[q0o s at_]? with
  |none=>.bad 5
  |some c=>
   if c.toNat=62∧s[q0o s at_+1]?=some 62 then .ok (dicV acc) (q0o s at_+2)
   else if c.toNat≠47 then .bad 4
   else match q2V s (q0o s at_)with
    |none=>.bad 4
    |some (nm,k)=>match rd k with
     |.bad e=>.bad e
     |.ok x k'=>if(getV nm acc).isSome=true then .bad 3 else q4L rd s m (setF nm x acc) k'
def q19:Nat→List UInt8→Nat→RV
 |d,s,at_=>
  match s[q0o s at_]? with
  |none=>.bad 5
  |some c=>
   match d with
   |0=>.bad 2
   |d+1=>
    if c.toNat=47 then(match q2V s (q0o s at_)with
     |none=>.bad 4
     |some (b,k)=>.ok (namV b) k)
    else if c.toNat=40 then z4h s (q0o s at_+1)
    else if c.toNat=60∧s[q0o s at_+1]?=some 60 then q4L (q19 d s) s 301 [] (q0o s at_+2)
    else if c.toNat=60 then z65 s (q0o s at_+1)
    else if c.toNat=91 then q4S (q19 d s) s 301 [] (q0o s at_+1)
    else if q3V c=true then .bad 4
    else q7y s (q0o s at_)
def z6B(s:List UInt8)(at_:Int):RV:=
 if 60000<s.length∨at_<0∨(s.length:Int)<at_ then .bad 1
 else match q19 8 s at_.toNat with
  |.bad e=>.bad e
  |.ok v k=>if q2i v=0 then .ok v k else .bad (q2i v)
def shRV(m:Nat):RV→RV
 |.ok v k=>.ok v (m+k)
 |.bad e=>.bad e
def shP{α:Type}(m:Nat)(x:Option (α×Nat)):Option (α×Nat):=x.map fun y=>(y.1,m+y.2)
section
variable {p s:List UInt8}
theorem z4F(k:Nat):(p++s).drop (p.length+k)=s.drop k:=by rw[List.drop_append,Zao (by omega),Zav];congr 1;omega
theorem z3E(k:Nat):(p++s)[p.length+k]?=s[k]?:=by rw[Zaj (by omega)];congr 1;omega
theorem q2G(k:Nat):q0o (p++s) (p.length+k)=p.length+q0o s k:=by unfold q0o;rw[z4F,q4X]
theorem q6k(k:Nat):q08 (p++s) (p.length+k)=q08 s k:=by unfold q08;rw[z4F]
theorem z7F(k:Nat):q2V (p++s) (p.length+k)=shP p.length (q2V s k):=by
 unfold q2V;rw[Zbn,q6k];cases q3w (q08 s (k+1)) []with
 |none=>rfl
 |some b=>
  simp only;split
  ·simp only[shP,Zat];congr 2;omega
  ·rfl
theorem q9J:∀(t:List UInt8) (k d:Nat) (b:List UInt8) (q m:Nat),litF k d t b (m+q)=shP m (litF k d t b q)
 |[],k,d,b,q,m=>by simp[litF,shP]
 |c::r,k+1,d,b,q,m=>by
  rw[litF,litF,Zbn];exact q9J r k d b (q+1) m
 |c::r,0,d,b,q,m=>by
  rw[litF,litF];simp only[Zbn];split
  ·split
   ·rfl
   ·exact q9J r _ _ _ _ _
  ·split
   ·split
    ·rfl
    ·exact q9J r _ _ _ _ _
   ·split
    ·exact q9J r _ _ _ _ _
    ·exact q9J r _ _ _ _ _
theorem j65(k:Nat):z4h (p++s) (p.length+k)=shRV p.length (z4h s k):=by
 unfold z4h;rw[z4F,q9J];cases litF 0 1 (s.drop k) [] k with
 |none=>rfl
 |some x=>
  obtain⟨b,n⟩:=x;simp only[shP,Zat];split<;>rfl
theorem j64(k:Nat):z65 (p++s) (p.length+k)=shRV p.length (z65 s k):=by
 unfold z65;rw[z4F];split
 ·split
  ·simp only[shRV,Zbn]
  ·rfl
 ·rfl
theorem j66(k:Nat):q7w (p++s) (p.length+k)=shP p.length (q7w s k):=by
 unfold q7w;rw[q6k];cases objF (q08 s k)with
 |none=>rfl
 |some n=>
  simp only;rw[Zbn,q2G,q6k,Zbn,q2G,q6k];split
  ·split
   ·simp only[shP,Zat,Zbn]
   ·rfl
  ·rfl
theorem j4v(k:Nat):q7y (p++s) (p.length+k)=shRV p.length (q7y s k):=by
 unfold q7y;rw[q6k,j66];split
 ·simp only[shRV,Zbn]
 ·split
  ·simp only[shRV,Zbn]
  ·split
   ·simp only[shRV,Zbn]
   ·cases q7w s k with
    |some x=>rfl
    |none=>
     simp only[shP,Option.map_none];split
     ·simp only[shRV,Zbn]
     ·rfl
theorem j2x{rd rd':Nat→RV}(h:∀k,rd' (p.length+k)=shRV p.length (rd k)):∀(m:Nat) (acc:List Val) (k:Nat),q4S rd' (p++s) m acc (p.length+k)=shRV p.length (q4S rd s m acc k)
 |0,_,_=>rfl
 |m+1,acc,k=>by
  rw[q4S,q4S,q2G,z3E];cases s[q0o s k]? with
  |none=>rfl
  |some c=>
   simp only;split
   ·simp only[shRV,Zbn]
   ·rw[h];cases rd (q0o s k)with
    |bad e=>rfl
    |ok x n=>exact j2x h m _ n
theorem j2w{rd rd':Nat→RV}(h:∀k,rd' (p.length+k)=shRV p.length (rd k)):∀(m:Nat) (acc:List Fld) (k:Nat),q4L rd' (p++s) m acc (p.length+k)=shRV p.length (q4L rd s m acc k)
 |0,_,_=>rfl
 |m+1,acc,k=>by
  rw[q4L,q4L,q2G,z3E];cases s[q0o s k]? with
  |none=>rfl
  |some c=>
   simp only;rw[Zbn,z3E];split
   ·simp only[shRV,Zbn]
   ·split
    ·rfl
    ·rw[z7F];cases q2V s (q0o s k)with
     |none=>rfl
     |some x=>
      obtain⟨nm,n⟩:=x;simp only[shP,Zat];rw[h];cases rd n with
      |bad e=>rfl
      |ok x n'=>
       simp only[shRV];split
       ·rfl
       ·exact j2w h m _ n'
theorem z2f:∀(d k:Nat),q19 d (p++s) (p.length+k)=shRV p.length (q19 d s k)
 |0,k=>by
  rw[q19,q19,q2G,z3E];cases s[q0o s k]?<;>rfl
 |d+1,k=>by
  rw[q19,q19,q2G,z3E];cases s[q0o s k]? with
  |none=>rfl
  |some c=>
   simp only;rw[z7F,Zbn,Zbn,j65,z3E,j2w (z2f d),j64,j2x (z2f d),j4v];split
   ·cases q2V s (q0o s k)<;>rfl
   ·split
    ·rfl
    ·split
     ·rfl
     ·split
      ·rfl
      ·split
       ·rfl
       ·split<;>rfl
end
theorem z3B{s:List UInt8}{a b:Nat}(h:q0o s a=q0o s b):∀d,q19 d s a=q19 d s b
 |0=>by rw[q19,q19,h]
 |d+1=>by rw[q19,q19,h]
open Go.Shelf
def z0y:Go.Shelf.Ren:=⟨fun|144=>74|143=>105|219=>126|217=>141|225=>142|224=>143|267=>144|266=>149|314=>150|n=>n,fun|9=>9|4=>4|3=>3|5=>5|46=>84|146=>134|51=>117|n=>n,fun|1=>0|n=>n⟩
theorem z0q:Go.Proofs.LaysM.n144 Tryz.prog z0y where
 mixed:=by kernel_rfl
 f143:=Tryz.func105.trans (congrArg some (by kernel_rfl))
 f144:=Tryz.func74.trans (congrArg some (by kernel_rfl))
 f217:=Tryz.func141.trans (congrArg some (by kernel_rfl))
 f219:=Tryz.func126.trans (congrArg some (by kernel_rfl))
 f224:=Tryz.func143.trans (congrArg some (by kernel_rfl))
 f225:=Tryz.func142.trans (congrArg some (by kernel_rfl))
 f266:=Tryz.func149.trans (congrArg some (by kernel_rfl))
 f267:=Tryz.func144.trans (congrArg some (by kernel_rfl))
 f314:=Tryz.func150.trans (congrArg some (by kernel_rfl))
 t3:=Tryz.underlying3
 a3:=Tryz.isAgg3
 z3:=Tryz.sizeOf3
 v3:=Tryz.zeroValue3
 t4:=Tryz.underlying4
 a4:=Tryz.isAgg4
 z4:=Tryz.sizeOf4
 v4:=Tryz.zeroValue4
 t5:=Tryz.underlying5
 a5:=Tryz.isAgg5
 z5:=Tryz.sizeOf5
 v5:=Tryz.zeroValue5
 t9:=Tryz.underlying9
 a9:=Tryz.isAgg9
 z9:=Tryz.sizeOf9
 v9:=Tryz.zeroValue9
 t46:=Tryz.underlying84
 a46:=Tryz.isAgg84
 z46:=Tryz.sizeOf84
 v46:=Tryz.zeroValue84
 t51:=Tryz.underlying117
 a51:=Tryz.isAgg117
 z51:=Tryz.sizeOf117
 v51:=Tryz.zeroValue117
 t146:=Tryz.underlying134
 a146:=Tryz.isAgg134
 z146:=Tryz.sizeOf134
 v146:=Tryz.zeroValue134
 g1:=by kernel_rfl
 i3:=by kernel_rfl
 i4:=by kernel_rfl
 i5:=by kernel_rfl
 i9:=by kernel_rfl
 i46:=by kernel_rfl
 i51:=by kernel_rfl
 i146:=by kernel_rfl
 m1:=by kernel_rfl
 s1_3:=fun w h=>Go.Proofs.cell_of_shapedOpen_int (zero := #[.int .i64 0]) (t:=3) h (of_decide_eq_true (by kernel_rfl)) (by kernel_rfl) rfl (by kernel_rfl) (by kernel_rfl) Tryz.underlying3
theorem z3M(s sub:List UInt8)(hs:s.length<4294967281):q0y Tryz.prog 74 [.str s,.str sub] (fun r=>r=.one (.bool (Lib.contains s sub))):=by
 intro f w vs hI ht hsz hrd;have hv:vs = #[.string ⟨s.toArray⟩,.string ⟨sub.toArray⟩]:=by
  have h1:=hrd 0 _ rfl;have h2:=hrd 1 _ rfl;match vs,hsz with
  |⟨[v,u]⟩,_=>cases h1;cases h2;rfl
 subst hv;obtain⟨m,hm⟩:=hI.2.1 0 (by kernel_rfl);refine(Any.strings_Contains z0q.ton144 ⟨s.toArray⟩ ⟨sub.toArray⟩ m w (by show s.toArray.size<_;simpa using hs) hm).mono fun e w' ⟨he,hw⟩=>?_
 subst hw;exact⟨_,_,f,rfl,he,.bool _,Zai _,fun b hb=>⟨rfl,rfl⟩,ht,rfl,rfl,rfl⟩
def q99:q0l:=
 .seq (.reg [Qx 2 KF]) (.seq (.reg [Qc 3 0,Q 4 (.cvI .i32 (.t 3)),Q 5 (.i2s (.t 4)),⟨some 6,.call 74 [.k (.d (.str [40,41,60,62,91,93,123,125,47,37])),.t 5],none⟩,Qc 
 7 6,Qd 8 0 7 true,Qg 9 (.bin .lss (.t 8) (Kb 128)) 7 true,Q 10 (.pick (.t 7) (.t 9) KF),Qa 2 10]) .ret)
def z0i:List LRes:=[.tmp 2]
theorem z1L:q0E Tryz.prog 49 11 q99 z0i:=⟨_,_,Tryz.func49,rfl,by kernel_rfl,by kernel_rfl,rfl⟩
theorem z6l(c:UInt8):q0y Tryz.prog 49 [.int .u8 c.toNat] (fun r=>r=.one (.bool (q3V c))):=by
 have hc8:=q4f c;refine z1L.call rfl ?_;simp only[go_sem,↓reduceIte,q99,z0i];rw[IntWalk.i32_in _ (by omega)]
 by_cases h:c.toNat<128
 ·rw[z9o h];refine q0j.of (q7E _ c) ?_;simp only[go_sem,↓reduceIte];refine⟨fun h1=>?_,fun h1=>?_⟩
  ·have h2:q3V c=true:=by simpa[q3V,z4G]using h1
   have h3:((c.toNat:Int)<128)=True:=eq_true (by omega);simp[h2,h3]
  ·have h2:q3V c=false:=by simpa[q3V,z4G]using h1
   rw[h2]
 ·have h2:q3V c=false:=by
   simp only[q3V,z4G,Zar,List.not_mem_nil,or_false,decide_eq_false_iff_not,←UInt8.toNat_inj];have:(40:UInt8).toNat=40:=rfl;rintro(e|e|e|e|e|e|e|e|e|e)<;>(rw[e]at h;exact h (by decide))
  have h3:((c.toNat:Int)<128)=False:=eq_false (by omega);rw[h2];refine q0j.of (z3M _ _ (by simp)) ?_;simp only[go_sem,↓reduceIte,h3]
theorem z7Z(s:List UInt8)(n:Int):(if(s.length:Int)<(if n<0 then 0 else n)then(s.length:Int)else if n<0 then 0 else n)=((q3M s n:Nat):Int):=by
 unfold q3M;split<;>split<;>omega
theorem z3L(s:List UInt8)(n:Int):q3M s n≤s.length:=by unfold q3M;omega
theorem q3X{s:List UInt8}{k:Nat}(h:k≤s.length):q3M s k=k:=by unfold q3M;omega
def q97:q0l:=
 .seq (.reg [Qx 4 (Ki 0)]) (.seq (.reg [Qc 5 1,Q 6 (.mm true (.t 5) (Ki 0)),Qc 7 0,Q 8 (.len true (.t 7)),Q 9 (.mm false (.t 6) (.t 8)),Qa 1 9]) (.seq (.block 0 (.loop (.seq 
 (.seq (.reg [Qc 10 1,Qc 11 0,Q 12 (.len true (.t 11)),Q 13 (.bin .lss (.t 10) (.t 12))]) (.cond (.t 13) .skip (.exit 0))) (.block 1 (.block 2 (.seq (.reg [Qc 16 0,Qc 17 1,Q 
 18 (.idxS (.t 16) (.t 17)),⟨some 19,.call 48 [.t 18],none⟩,Qa 15 19]) (.cond (.t 15) (.reg [Qc 20 1,Q 21 (.bin .add (.t 20) (Ki 1)),Qa 1 21]) (.seq (.reg [Qc 23 0,Qc 24 1, 
 Q 25 (.idxS (.t 23) (.t 24)),Q 26 (.bin .eql (.t 25) (Kb 37)),Qa 22 26]) (.cond (.t 22) (.block 3 (.loop (.seq (.seq (.reg [Qc 27 1,Qc 28 0,Q 29 (.len true (.t 28)),Q 30 
 (.bin .lss (.t 27) (.t 29)),Qc 31 30,Qd 32 0 31 true,Qd 33 1 31 true,Qg 34 (.idxS (.t 32) (.t 33)) 31 true,Qg 35 (.bin .neq (.t 34) (Kb 10)) 31 true,Q 36 (.pick (.t 31) (.t 
 35) KF),Qc 37 36,Qd 38 0 37 true,Qd 39 1 37 true,Qg 40 (.idxS (.t 38) (.t 39)) 37 true,Qg 41 (.bin .neq (.t 40) (Kb 13)) 37 true,Q 42 (.pick (.t 37) (.t 41) KF)]) (.cond 
 (.t 42) .skip (.exit 3))) (.block 4 (.reg [Qc 43 1,Q 44 (.bin .add (.t 43) (Ki 1)),Qa 1 44]))))) (.seq (.reg [Qc 14 1,Qa 4 14]) .ret)))))))))) (.seq (.reg [Qc 45 1,Qa 4 45]) 
 .ret)))
def z0g:List LRes:=[.tmp 4]
theorem z1J:q0E Tryz.prog 25 46 q97 z0g:=⟨_,_,Tryz.func25,rfl,by kernel_rfl,by kernel_rfl,rfl⟩
theorem q1f(s:List UInt8)(n:Int)(hs:s.length≤1000000000):q0y Tryz.prog 25 [.str s,.int .i64 n] (fun r=>r=.one (.int .i64 (q0o s (q3M s n)))):=by
 refine z1J.call rfl ?_;have hk:=z3L s n;have he:=z7Z s n;generalize q3M s n=k at *;generalize hR:q0o s k=R;unfold q0o at hR;simp only[go_sem,↓reduceIte,q97,z0g,he];refine q0n (fun i:Nat=>⟨[(0,.d (.str s)),(1,.d (.int .i64 i))],[],[]⟩)
  (fun i=>i≤s.length∧q3W false (s.drop i) i=R) (fun i=>s.length-i) k ?_ ?_ ?_
 ·refine q1m ?_ trivial;simp only[go_sem,↓reduceIte,Sub,Zab,Zac,he]
 ·exact⟨hk,hR⟩
 ·rintro i ⟨hi,hF⟩;simp only[go_sem,↓reduceIte];refine⟨fun hlt=>?_,fun hge=>?_⟩
  ·obtain⟨c,hc⟩:=get_some (l:=s) (i:=i) (by omega);have hc8:=q4f c;rw[z6T hc,q3W,if_neg (by decide)]at hF;simp only[go_sem,↓reduceIte,q0g,hc];refine q0j.of (q9v c.toNat) ?_;simp only[go_sem,↓reduceIte];refine⟨fun h2=>?_,fun h2=>?_⟩
   ·rw[if_neg (by intro e;rw[e]at h2;exact absurd h2 (by decide)),if_pos h2]at hF;simp(disch:=omega)only[IntWalk.i64_in,IntWalk.u8_in];refine⟨i+1,?_,⟨by omega,hF⟩,by omega⟩;refine q1m ?_ trivial;simp only[go_sem,↓reduceIte,Sub,Zab,Zac]
   ·simp only[go_sem,↓reduceIte,q0g,hc];refine⟨fun h3=>?_,fun h3=>?_⟩
    ·rw[if_pos (by omega)]at hF;have c37:c.toNat=37:=by omega
     refine q0n (fun j:Nat=>⟨[(0,.d (.str s)),(1,.d (.int .i64 j))],[],[]⟩)
      (fun j=>i≤j∧j≤s.length∧q3W true (s.drop j) j=R) (fun j=>s.length-j) i ?_ ?_ ?_
     ·refine q1m ?_ trivial;simp only[go_sem,↓reduceIte,Sub,Zab,Zac]
     ·refine⟨Zai _,hi,?_⟩;rw[z6T hc,q3W,if_pos rfl,c37];exact hF
     ·rintro j ⟨hij,hj,hG⟩;simp only[go_sem,↓reduceIte];refine⟨fun hlt2=>?_,fun hge2=>?_⟩
      ·obtain⟨x,hx⟩:=get_some (l:=s) (i:=j) (by omega);have hx8:=q4f x;rw[z6T hx,q3W,if_pos rfl]at hG;simp only[go_sem,↓reduceIte,q0g,hx];have end_:(x.toNat=10∨x.toNat=13)→i<j∧q3W false (s.drop j) j=R:=fun h=>by
        refine⟨?_,?_⟩
        ·rcases Zbq i j with q|q
         ·exact q
         ·have:i=j:=by omega
          subst this;rw[hc]at hx;cases hx;omega
        ·rw[z6T hx,q3W,if_neg (by decide),if_neg (by omega),if_pos (by rcases h with h|h<;>rw[h]<;>rfl)];rcases h with h|h<;>(rw[h]at hG;exact hG)
       refine⟨fun g1=>⟨fun g2=>?_,fun g2=>?_⟩,fun g1=>?_⟩
       ·simp(disch:=omega)only[IntWalk.i64_in,IntWalk.u8_in];have q:(decide (x.toNat≠10)&&decide (x.toNat≠13))=true:=by simp;omega
        rw[q]at hG;refine⟨j+1,?_,⟨by omega,by omega,hG⟩,by omega⟩;refine q1m ?_ trivial;simp only[go_sem,↓reduceIte,Sub,Zab,Zac]
       ·obtain⟨q1,q2⟩:=end_ (.inr (by omega));refine⟨j,?_,⟨hj,q2⟩,by omega⟩;refine q1m ?_ trivial;simp only[go_sem,↓reduceIte,Sub,Zab,Zac]
       ·obtain⟨q1,q2⟩:=end_ (.inl (by omega));refine⟨j,?_,⟨hj,q2⟩,by omega⟩;refine q1m ?_ trivial;simp only[go_sem,↓reduceIte,Sub,Zab,Zac]
      ·refine⟨j,?_,⟨hj,?_⟩,by omega⟩
       ·refine q1m ?_ trivial;simp only[go_sem,↓reduceIte,Sub,Zab,Zac]
       ·rw[Zao (by omega),q3W]at hG;rw[Zao (by omega),q3W];exact hG
    ·rw[if_neg (by omega),if_neg (by simp[h2])]at hF;subst hF;rfl
  ·rw[Zao (by omega),q3W]at hF;subst hF;simp only[go_sem,↓reduceIte]
/-! ### Words -/
theorem q1H(c:UInt8)(r:List UInt8):q2a (c::r)=if q2b c.toNat=false∧q3V c=false then c::q2a r else[]:=by
 unfold q2a;rw[List.takeWhile_cons]
 by_cases h:q2b c.toNat=false∧q3V c=false
 ·rw[if_pos h,if_pos (by simp[h.1,h.2])]
 ·rw[if_neg h,if_neg (by simpa using h)]
theorem j2Y{s:List UInt8}{k i:Nat}{c:UInt8}(hk:k≤i)(hc:s[i]?=some c)(h1:q2b c.toNat=false)(h2:q3V c=false)(h:q2a (s.drop k)=(s.drop k).take (i-k)++q2a (s.drop i)):
  q2a (s.drop k)=(s.drop k).take (i+1-k)++q2a (s.drop (i+1)):=by
 have hl:(s.drop k)[i-k]?=some c:=by rw[Zbv,show k+(i-k)=i by omega];exact hc
 rw[h,z6T hc,q1H,if_pos ⟨h1,h2⟩,show i+1-k=(i-k)+1 by omega,Zcd,hl];simp
def q98:q0l:=
 .seq (.reg [Qx 4 (.k (.d (.str [])))]) (.seq (.reg [Qc 6 1,Q 7 (.mm true (.t 6) (Ki 0)),Qc 8 0,Q 9 (.len true (.t 8)),Q 10 (.mm false (.t 7) (.t 9)),Qa 1 10]) (.seq (.reg [Qc 
 11 1,Qa 5 11]) (.seq (.block 0 (.loop (.seq (.seq (.reg [Qc 12 5,Qc 13 0,Q 14 (.len true (.t 13)),Q 15 (.bin .lss (.t 12) (.t 14)),Qc 16 15,Qd 17 0 16 true,Qd 18 5 16 
 true,Qg 19 (.idxS (.t 17) (.t 18)) 16 true,⟨some 20,.call 48 [.t 19],some (16,true)⟩,Qg 21 (.not (.t 20)) 16 true,Q 22 (.pick (.t 16) (.t 21) KF),Qc 23 22,Qd 24 0 23 
 true,Qd 25 5 23 true,Qg 26 (.idxS (.t 24) (.t 25)) 23 true,⟨some 27,.call 49 [.t 26],some (23,true)⟩,Qg 28 (.not (.t 27)) 23 true,Q 29 (.pick (.t 23) (.t 28) KF)]) (.cond 
 (.t 29) .skip (.exit 0))) (.block 1 (.reg [Qc 30 5,Q 31 (.bin .add (.t 30) (Ki 1)),Qa 5 31]))))) (.seq (.reg [Qc 32 0,Qc 33 1,Qc 34 5,Q 35 (.subS (.t 32) (some (.t 33)) 
 (some (.t 34))),Qa 4 35]) .ret))))
def z0h:List LRes:=[.tmp 4]
theorem z1K:q0E Tryz.prog 26 36 q98 z0h:=⟨_,_,Tryz.func26,rfl,by kernel_rfl,by kernel_rfl,rfl⟩
theorem q1g(s:List UInt8)(n:Int)(hs:s.length≤1000000000):q0y Tryz.prog 26 [.str s,.int .i64 n] (fun r=>r=.one (.str (q08 s (q3M s n)))):=by
 refine z1K.call rfl ?_;have hk:=z3L s n;have he:=z7Z s n;generalize q3M s n=k at *;unfold q08;simp only[go_sem,↓reduceIte,q98,z0h,he];refine q0n (fun i:Nat=>⟨[(0,.d (.str s)),(1,.d (.int .i64 k)),(5,.d (.int .i64 i))],[],[]⟩)
  (fun i=>k≤i∧i≤s.length∧q2a (s.drop k)=(s.drop k).take (i-k)++q2a (s.drop i)) (fun i=>s.length-i) k ?_ ?_ ?_
 ·refine q1m ?_ trivial;simp only[go_sem,↓reduceIte,Sub,Zab,Zac,he]
 ·exact⟨Zai _,hk,by simp⟩
 ·rintro i ⟨hki,hi,hF⟩;have fin:q2a (s.drop i)=[]→(s.drop k).take (i-k)=q2a (s.drop k):=fun h=>by rw[hF,h,Zco]
  have done:q2a (s.drop i)=[]→(0≤(k:Int)∧(k:Int)≤i∧(i:Int)≤s.length)∧Res.one (D.str (cutI s k i))=Res.one (D.str (q2a (s.drop k))):=fun h=>
   ⟨by omega,by rw[q56,List.drop_take,fin h]⟩
  simp only[go_sem,↓reduceIte];refine⟨fun hlt=>?_,fun hge=>?_⟩
  ·obtain⟨c,hc⟩:=get_some (l:=s) (i:=i) (by omega);simp only[go_sem,↓reduceIte,q0g,hc];refine q0j.of (q9v c.toNat) ?_;simp only[go_sem,↓reduceIte];refine⟨fun h1=>?_,fun h1=>?_⟩
   ·simp only[go_sem,↓reduceIte,q0g,hc];refine q0j.of (z6l c) ?_;simp only[go_sem,↓reduceIte];refine⟨fun h2=>?_,fun h2=>?_⟩
    ·simp(disch:=omega)only[IntWalk.i64_in,IntWalk.u8_in];refine⟨i+1,?_,⟨by omega,by omega,j2Y hki hc h1 h2 hF⟩,by omega⟩;refine q1m ?_ trivial;simp only[go_sem,↓reduceIte,Sub,Zab,Zac]
    ·exact done (by rw[z6T hc,q1H,if_neg (by simp[h2])])
   ·exact done (by rw[z6T hc,q1H,if_neg (by simp[h1])])
  ·exact done (by rw[Zao (by omega)];rfl)
def plW(w:List UInt8):Prop:=∀c∈w,q2b c.toNat=false∧q3V c=false
def dl:List UInt8→Prop
 |[]=>True
 |c::_=>q2b c.toNat=true∨q3V c=true
theorem j4N{p:List UInt8}(h:dl p):q2a p=[]:=by
 cases p with
 |nil=>rfl
 |cons c r=>
  rw[q1H,if_neg];rintro⟨h1,h2⟩;rcases h with h|h
  ·rw[h]at h1;cases h1
  ·rw[h]at h2;cases h2
theorem q1B:∀{w p:List UInt8},plW w→dl p→q2a (w++p)=w
 |[],p,_,hp=>j4N hp
 |c::w,p,hw,hp=>by
  rw[Zba,q1H,if_pos (hw c (by simp)),q1B (fun x hx=>hw x (by simp[hx])) hp]
theorem q8p(s:List UInt8):q08 s 0=q2a s:=by unfold q08;rw[Zcm]
theorem q26{c:UInt8}{r:List UInt8}(h1:c.toNat≠37)(h2:q2b c.toNat=false):q0o (c::r) 0=0:=by
 unfold q0o;rw[Zcm,q3W,if_neg (by decide),if_neg h1,if_neg (by simp[h2])]
theorem q5n(r:List UInt8):q0o (32::r) 0=1+q0o r 0:=by
 unfold q0o;rw[Zcm,Zcm,q3W,if_neg (by decide),if_neg (by decide),if_pos (by decide)];exact q4X r false 0 1
/-! ### Digits -/
def digB(c:UInt8):Prop:=45≤c.toNat∧c.toNat≤57∧c.toNat≠47
theorem j0Z:∀n:Fin 256,45≤n.val→n.val≤57→n.val≠47→q2b (UInt8.ofNat n.val).toNat=false∧q3V (UInt8.ofNat n.val)=false:=by decide +kernel
theorem z1h{c:UInt8}(h:digB c):q2b c.toNat=false∧q3V c=false:=by
 have hc:=q4f c;have:=j0Z ⟨c.toNat,hc⟩ h.1 h.2.1 h.2.2;simpa using this
theorem q72(m:Nat):∀c∈Lib.decDigits m,digB c:=by
 induction m using Nat.strongRecOn with
 |_ m ih=>
  rw[Lib.decDigits];have one:∀k,k<10→digB (UInt8.ofNat (48+k)):=fun k hk=>by unfold digB;rw[q7c hk];omega
  by_cases h:m<10
  ·rw[dif_pos h];intro c hc;simp only[Zbe]at hc;subst hc;exact one m h
  ·rw[dif_neg h];intro c hc;rw[Zau]at hc;rcases hc with hc|hc
   ·exact ih (m / 10) (by omega) c hc
   ·simp only[Zbe]at hc;subst hc;exact one _ (by omega)
theorem j2O{l:List UInt8}{c:UInt8}(h:c∈q47 l):c∈l:=by
 unfold q47 at h;rw[List.mem_reverse]at h;have:=(List.dropWhile_sublist (·==48) (l:=l.reverse)).mem h;simpa using this
theorem q51{n:Int}:∀c∈q4z n,digB c:=by
 intro c hc;unfold q4z at hc;rw[Zau,Zau]at hc;rcases hc with(hc|hc)|hc
 ·split at hc
  ·simp only[Zbe]at hc;subst hc;unfold digB;decide
  ·cases hc
 ·exact q72 _ c hc
 ·unfold z1t at hc;split at hc
  ·cases hc
  ·rcases Zar.1 hc with rfl|hc
   ·unfold digB;decide
   ·have:=j2O hc;have one:∀k,k<10→digB (UInt8.ofNat (48+k)):=fun k hk=>by unfold digB;rw[q7c hk];omega
    unfold q6s at this;simp only[Zar,List.not_mem_nil,or_false]at this;have hr:n.natAbs % 1000<1000:=Nat.mod_lt _ (by omega);rcases this with rfl|rfl|rfl
    ·exact one _ (by omega)
    ·exact one _ (by omega)
    ·exact one _ (by omega)
theorem z4J(n:Int):plW (q4z n):=fun c hc=>z1h (q51 c hc)
theorem j0U(m:Nat):plW (Lib.decDigits m):=fun c hc=>z1h (q72 m c hc)
theorem q6o(m:Nat):Lib.decDigits m≠[]:=by obtain⟨k,l,_,e⟩:=z3P m;rw[e];simp
theorem z89(n:Int):q4z n≠[]:=by
 unfold q4z;intro h;rw[List.append_eq_nil_iff,List.append_eq_nil_iff]at h;exact q6o _ h.1.2
theorem q5d{w:List UInt8}(hw:∀c∈w,digB c){c:UInt8}{r:List UInt8}(hc:57<c.toNat):w≠c::r:=fun e=>by
 have:=hw c (by rw[e];simp);unfold digB at this;omega
/-! ### Names -/
theorem z8E:∀n:Fin 256,z3y (UInt8.ofNat n.val)=true→(q2b (UInt8.ofNat n.val).toNat=false∧q3V (UInt8.ofNat n.val)=false)∧n.val≠35:=by decide +kernel
theorem z8k:∀n:Fin 16,(q2b (q4a.getD n.val 0).toNat=false∧q3V (q4a.getD n.val 0)=false)∧hexI (q4a.getD n.val 0).toNat=n.val:=by decide +kernel
theorem j3Y(c:UInt8):plW (q9K c):=by
 intro x hx;unfold q9K at hx;have hc:=q4f c;split at hx
 ·rename_i h;simp only[Zbe]at hx;subst hx;have:=z8E ⟨x.toNat,hc⟩ (by simpa using h);simpa using this.1
 ·simp only[Zar,List.not_mem_nil,or_false]at hx;rcases hx with rfl|rfl|rfl
  ·decide
  ·exact(z8k ⟨c.toNat / 16,by omega⟩).1
  ·exact(z8k ⟨c.toNat % 16,by omega⟩).1
theorem j3Z(s:List UInt8):plW (q1q s):=fun c hc=>by
 unfold q1q at hc;obtain⟨x,_,h⟩:=List.mem_flatMap.1 hc;exact j3Y x c h
theorem j6Q{c x y:UInt8}{r b:List UInt8}(h:c.toNat=35):q3w (c::x::y::r) b=if hexI x.toNat<0∨hexI y.toNat<0 then none else q3w r (b++[q55 (16*hexI x.toNat+hexI y.toNat)]):=by
 rw[q3w,if_pos h]
theorem j6P{c:UInt8}{r b:List UInt8}(h:c.toNat≠35):q3w (c::r) b=q3w r (b++[c]):=by
 cases r with
 |nil=>simp[q3w,h]
 |cons x r=>
  cases r with
  |nil=>rw[q3w,if_neg h];intro _ _ _ h;cases h
  |cons y r=>rw[q3w,if_neg h]
theorem q9L:∀(s b:List UInt8),q3w (q1q s) b=some (b++s)
 |[],b=>by simp[q1q,q3w]
 |c::s,b=>by
  have e:q1q (c::s)=q9K c++q1q s:=rfl;have hc:=q4f c;rw[e];unfold q9K;split
  ·rename_i h;have:=z8E ⟨c.toNat,hc⟩ (by simpa using h);rw[Zba,Zav,j6P this.2,q9L s,List.append_assoc];rfl
  ·have h1:=(z8k ⟨c.toNat / 16,by omega⟩).2;have h2:=(z8k ⟨c.toNat % 16,by omega⟩).2;simp only[Zba,Zav];rw[j6Q (by decide),if_neg (by rw[h1,h2];omega),h1,h2,q9L s,List.append_assoc];have:q55 (16*((c.toNat / 16:Nat):Int)+((c.toNat % 16:Nat):Int))=c:=by
    have e:(16*((c.toNat / 16:Nat):Int)+((c.toNat % 16:Nat):Int))=((c.toNat:Nat):Int):=by omega
    rw[e];apply UInt8.toNat_inj.1;simp[q55]
   rw[this];rfl
theorem z5W{s p:List UInt8}(hm:q1A s=true)(hp:dl p):q2V ([47]++q1q s++p) 0=some (s,1+(q1q s).length):=by
 have e:q08 ([47]++q1q s++p) (0+1)=q1q s:=by
  unfold q08;show q2a (q1q s++p)=_
  exact q1B (j3Z s) hp
 unfold q2V;rw[e,q9L];simp[hm]
/-! ### Strings -/
theorem j6V(a b c:Nat)(ha:a<4)(hb:b<8)(hc:c<8)(t:List UInt8):
  escL (UInt8.ofNat (48+a)::UInt8.ofNat (48+b)::UInt8.ofNat (48+c)::t)=(some (q55 (8*(8*(a:Int)+b)+c)),3):=by
 have ea:(UInt8.ofNat (48+a)).toNat=48+a:=q7c (by omega);have eb:(UInt8.ofNat (48+b)).toNat=48+b:=q7c (by omega);have ec:(UInt8.ofNat (48+c)).toNat=48+c:=q7c (by omega);have oa:octB (UInt8.ofNat (48+a))=true:=by unfold octB;rw[ea];simp;omega
 have ob:octB (UInt8.ofNat (48+b))=true:=by unfold octB;rw[eb];simp;omega
 have oc:octB (UInt8.ofNat (48+c))=true:=by unfold octB;rw[ec];simp;omega
 unfold escL;dsimp only;rw[ea,if_neg (by omega),if_neg (by omega),if_neg (by omega),if_neg (by omega),if_neg (by omega),if_neg (by omega),if_neg (by omega),oa,if_neg (by simp)];unfold octL;rw[octG,if_pos ob,octG,if_pos oc,octG];unfold oct1;rw[ea,eb,ec];simp only[Prod.mk.injEq,Zas,and_true];congr 1
 omega
theorem q82:∀(s p b:List UInt8) (k:Nat),litF 0 1 (strP s++41::p) b k=some (b++s,k+(strP s).length+1)
 |[],p,b,k=>by simp[strP,litF]
 |c::s,p,b,k=>by
  have e:strP (c::s)=strB c++strP s:=rfl;have hc:=q4f c;rw[e];unfold strB;split
  ·rename_i h;simp only[Zba,Zav];rw[litF,if_pos (by decide),if_neg (by simp)];have he:escL (c::(strP s++41::p))=(some c,1):=by
    unfold escL;rcases h with rfl|rfl|rfl<;>simp(decide:=true)only[if_false,if_true,octB]
   rw[he];simp only[Option.toList_some];rw[litF,q82 s p _ _,List.append_assoc];simp only[Zba,Zav,Zas,Prod.mk.injEq,true_and,Zaf];omega
  ·rename_i h;simp only[not_or]at h;split
   ·have h92:c.toNat≠92:=fun e=>h.2.2 (UInt8.toNat_inj.1 e)
    have h41:c.toNat≠41:=fun e=>h.2.1 (UInt8.toNat_inj.1 e)
    have h40:c.toNat≠40:=fun e=>h.1 (UInt8.toNat_inj.1 e)
    simp only[Zba,Zav];rw[litF,if_neg h92,if_neg h41,if_neg h40,q82 s p _ _,List.append_assoc];simp only[Zba,Zav,Zas,Prod.mk.injEq,true_and,Zaf];omega
   ·simp only[Zba,Zav];rw[litF,if_pos (by decide),if_neg (by simp),j6V _ _ _ (by omega) (by omega) (by omega)];simp only[Option.toList_some];rw[litF,litF,litF,q82 s p _ _,List.append_assoc];have:q55 (8*(8*((c.toNat / 64:Nat):Int)+((c.toNat / 8 % 8:Nat):Int))+((c.toNat % 8:Nat):Int))=c:=by
     have e:(8*(8*((c.toNat / 64:Nat):Int)+((c.toNat / 8 % 8:Nat):Int))+((c.toNat % 8:Nat):Int))=((c.toNat:Nat):Int):=by omega
     rw[e];apply UInt8.toNat_inj.1;simp[q55]
    rw[this];simp only[Zba,Zav,Zas,Prod.mk.injEq,true_and,Zaf];omega
/-! ### What is set is set as the document has it -/
theorem j4x{y:Fld}{r:List Fld}(h:srt (y::r)):srt r∧∀z∈r,Op.bytesLess y.name z.name=true:=
 ⟨fun i j a b hij ha hb=>h (i+1) (j+1) a b (by omega) (by simpa using ha) (by simpa using hb),fun z hz=>by
  obtain⟨i,hi⟩:=Zbl hz;exact h 0 (i+1) y z (by omega) rfl (by simpa using hi)⟩
theorem j3O(a b:List UInt8):leqB a b = !Op.bytesLess b a:=z0n a b
theorem z4D{nm:List UInt8}{x:Val}{f:List Fld}{y:Fld}(h:y∈setF nm x f):y=.mk nm x∨y∈f:=by
 unfold setF at h;split at h
 ·rcases List.mem_or_eq_of_mem_set h with h|h
  ·exact .inr h
  ·exact .inl h
 ·rcases Zau.1 h with h|h
  ·exact .inr (Zbj h)
  ·rcases Zar.1 h with h|h
   ·exact .inl h
   ·exact .inr (Zbt h)
/-! ### Fields put in, none of that name there -/
theorem z1v{nm:List UInt8}:∀{l:List Fld},(getV nm l).isSome=false→∀y∈l,y.name≠nm
 |[],_,y,hy=>by simp at hy
 |x::r,h,y,hy=>by
  rw[getV]at h
  by_cases e:x.name=nm
  ·rw[if_pos e]at h;cases h
  ·rw[if_neg e]at h;rcases Zar.1 hy with rfl|hy
   ·exact e
   ·exact z1v h y hy
theorem z5u{nm:List UInt8}{l:List Fld}(h:∀y∈l,y.name≠nm):hasV nm l=false:=by
 unfold hasV;cases hx:l[posV nm l]? with
 |none=>rfl
 |some x=>simpa using h x (Zae hx)
theorem z8W{nm:List UInt8}{x:Val}{y:Fld}{r:List Fld}(h:∀z∈y::r,z.name≠nm):
  setF nm x (y::r)=if Op.bytesLess y.name nm=true then y::setF nm x r else .mk nm x::y::r:=by
 have h1:=z5u h;have h2:=z5u (l:=r) fun z hz=>h z (by simp[hz])
 simp only[setF,h1,h2,posV,Zbc,if_false]
 by_cases hl:Op.bytesLess y.name nm=true
 ·rw[if_pos hl,if_pos hl];rfl
 ·rw[if_neg hl,if_neg hl];rfl
theorem z84{y:Fld}{r:List Fld}(h:srt r)(h2:∀z∈r,Op.bytesLess y.name z.name=true):srt (y::r):=by
 intro i j a b hij ha hb;cases j with
 |zero=>omega
 |succ j=>
  simp only[List.getElem?_cons_succ]at hb;cases i with
  |zero=>simp only[List.getElem?_cons_zero,Zas]at ha;subst ha;exact h2 b (Zae hb)
  |succ i=>exact h i j a b (by omega) (by simpa using ha) hb
theorem j2G{nm:List UInt8}{x:Val}:∀{l:List Fld},srt l→(∀z∈l,z.name≠nm)→srt (setF nm x l)
 |[],_,_=>by
  intro i j a b hij ha hb;simp[setF,hasV,posV]at ha hb;have:=(Zaa.1 ha).1;have:=(Zaa.1 hb).1;simp at *;omega
 |y::r,hs,hn=>by
  rw[z8W hn];obtain⟨h1,h2⟩:=j4x hs;have hn':∀z∈r,z.name≠nm:=fun z hz=>hn z (by simp[hz])
  by_cases hl:Op.bytesLess y.name nm=true
  ·rw[if_pos hl];refine z84 (j2G h1 hn') fun z hz=>?_
   rcases z4D hz with rfl|hz
   ·exact hl
   ·exact h2 z hz
  ·rw[if_neg hl];have hlt:Op.bytesLess nm y.name=true:=by
    have h3:=j3O nm y.name;have h4:Op.bytesLess y.name nm=false:=by simpa using hl
    rw[h4]at h3;simp only[leqB,Bool.not_false,Zca,decide_eq_true_eq]at h3;exact h3.resolve_right fun e=>hn y (by simp) e.symm
   refine z84 hs fun z hz=>?_
   rcases Zar.1 hz with rfl|hz
   ·exact hlt
   ·exact q5L hlt (h2 z hz)
theorem z4E{nm:List UInt8}{x:Val}:∀{l:List Fld},(∀z∈l,z.name≠nm)→(ptF (setF nm x l)).1=(ptF l).1+(ptV x).1∧(setF nm x l).length=l.length+1
 |[],_=>by simp[setF,hasV,posV,ptF]
 |y::r,hn=>by
  rw[z8W hn];have ih:=z4E (nm:=nm) (x:=x) (l:=r) fun z hz=>hn z (by simp[hz])
  split
  ·simp only[q9a,Zaf];omega
  ·rw[q9a (.mk nm x)];simp only[Zaf,Fld.v];exact⟨by omega,trivial⟩
theorem z3A:∀(a b:List Val),(ptL (a++b)).1=(ptL a).1+(ptL b).1
 |[],b=>by simp[ptL]
 |v::r,b=>by simp only[Zba,ptL,z3A r b];omega
mutual
theorem Val.z2i{m m':Nat}(h:m≤m'):∀v:Val,v.sm m=true→v.sm m'=true
 |.mk k n s l f,hv=>by
  simp only[Val.sm,Zah,decide_eq_true_eq]at hv ⊢;exact⟨by omega,by omega,by omega,z81 h l hv.2.2.2.1,z8Z h f hv.2.2.2.2⟩
theorem z81{m m':Nat}(h:m≤m'):∀l:List Val,smL m l=true→smL m' l=true
 |[],_=>rfl
 |v::r,hl=>by
  simp only[smL,Zah]at hl ⊢;exact⟨Val.z2i h v hl.1,z81 h r hl.2⟩
theorem z8Z{m m':Nat}(h:m≤m'):∀l:List Fld,smF m l=true→smF m' l=true
 |[],_=>rfl
 |.mk nm v::r,hl=>by
  simp only[smF,Fld.sm,Zah,decide_eq_true_eq]at hl ⊢;exact⟨⟨by omega,Val.z2i h v hl.1.2⟩,z8Z h r hl.2⟩
end
/-! ### Parts -/
theorem q8f{s:List UInt8}{at_ k:Nat}{b:List UInt8}(ha:at_<s.length)(h:q2V s at_=some (b,k)):at_<k∧k≤s.length∧b.length≤200∧q1A b=true:=by
 unfold q2V at h;have hw:=q4h s (at_+1);split at h
 ·cases h
 ·rename_i b' hb;split at h
  ·rename_i hm;cases h;refine⟨by omega,by omega,?_,hm⟩;simp only[q1A,Zah,decide_eq_true_eq]at hm;exact hm.2.1
  ·cases h
theorem z8j:∀t:List UInt8,q9C t≤t.length
 |[]=>by simp[q9C]
 |c::r=>by unfold q9C;have:=z8j r;split<;>simp<;>omega
theorem q4Y:∀(t:List UInt8) (h:Int) (b:List UInt8),(q2O t h b).2=0∨(q2O t h b).2=4∨(q2O t h b).2=5
 |[],_,_=>by simp[q2O]
 |c::r,h,b=>by
  unfold q2O;split
  ·simp
  ·split
   ·exact q4Y r _ _
   ·split
    ·simp
    ·split
     ·exact q4Y r _ _
     ·exact q4Y r _ _
theorem z9A{s:List UInt8}{at_:Nat}(ha:at_≤s.length):match z65 s at_ with
  |.ok v k=>at_<k∧k≤s.length∧v.sm 300=true∧(ptV v).1=1
  |.bad e=>1≤e∧e≤8:=by
 have hg:=z8j (s.drop at_);rw[Zay]at hg;unfold z65;have hc:=q4Y (s.drop at_) (-1) []
 by_cases h0:(q2O (s.drop at_) (-1) []).2=0
 ·rw[if_pos h0];have hne:s.drop at_≠[]:=fun e=>by rw[e]at h0;simp[q2O]at h0
  have hpos:1≤q9C (s.drop at_):=by
   cases hd:s.drop at_ with
   |nil=>exact absurd hd hne
   |cons c r=>unfold q9C;split<;>omega
  split
  ·rename_i v k e;split at e
   ·cases e;rename_i hl;refine⟨by omega,by omega,Val.q1Q.2 ⟨by simp only[strV,Val.s];omega,by simp[strV,Val.l],by simp[strV,Val.f],by simp[strV,Val.l],by simp[strV,Val.f]⟩,by simp[strV,ptV,ptL,ptF]⟩
   ·cases e
  ·rename_i e' e;split at e
   ·cases e
   ·cases e;omega
 ·rw[if_neg h0];simp only;omega
theorem q7h:∀(t:List UInt8) (k d:Nat) (b:List UInt8) (p:Nat) {q:List UInt8} {n:Nat},litF k d t b p=some (q,n)→p<n∧n≤p+t.length
 |[],_,_,_,_,_,_,h=>by simp[litF]at h
 |c::r,0,d,b,p,q,n,h=>by
  unfold litF at h;simp only[Zaf];split at h
  ·split at h
   ·cases h
   ·have:=q7h r _ _ _ _ h;omega
  ·split at h
   ·split at h
    ·cases h;omega
    ·have:=q7h r _ _ _ _ h;omega
   ·split at h
    ·have:=q7h r _ _ _ _ h;omega
    ·have:=q7h r _ _ _ _ h;omega
 |c::r,k+1,d,b,p,q,n,h=>by
  unfold litF at h;simp only[Zaf];have:=q7h r _ _ _ _ h;omega
theorem j2I{b:List UInt8}(h:b.length≤200):(strV b).sm 300=true∧(ptV (strV b)).1=1:=
 ⟨Val.q1Q.2 ⟨by simp only[strV,Val.s];omega,by simp[strV,Val.l],by simp[strV,Val.f],by simp[strV,Val.l],by simp[strV,Val.f]⟩,by simp[strV,ptV,ptL,ptF]⟩
theorem z9H{s:List UInt8}{at_:Nat}(ha:at_≤s.length):match z4h s at_ with
  |.ok v k=>at_<k∧k≤s.length∧v.sm 300=true∧(ptV v).1=1
  |.bad e=>1≤e∧e≤8:=by
 unfold z4h;cases h:litF 0 1 (s.drop at_) [] at_ with
 |none=>simp
 |some p=>
  obtain⟨b,k⟩:=p;have:=q7h _ _ _ _ _ h;rw[Zay]at this;simp only
  by_cases hb:b.length≤200
  ·rw[if_pos hb];obtain⟨h1,h2⟩:=j2I hb;exact⟨by omega,by omega,h1,h2⟩
  ·rw[if_neg hb];simp
theorem z9Z{s:List UInt8}{at_ n k:Nat}(ha:at_≤s.length)(h:q7w s at_=some (n,k)):at_<k∧k≤s.length∧1≤n∧n≤60:=by
 unfold q7w at h;have hw:=q4h s at_;split at h
 ·cases h
 ·rename_i m hm;have h1:=q2X (s:=s) (k:=at_+(q08 s at_).length) (by omega);simp only at h;split at h
  ·rename_i hq;have hw2:=q4h s (q0o s (at_+(q08 s at_).length));rw[hq]at hw2;simp only[Zaf,Zag]at hw2;have h2:=q2X (s:=s) (k:=q0o s (at_+(q08 s at_).length)+1) (by omega);split at h
   ·rename_i hr;have hw3:=q4h s (q0o s (q0o s (at_+(q08 s at_).length)+1));rw[hr]at hw3;simp only[Zaf,Zag]at hw3;cases h
    have hb:1≤n∧n≤60:=by
     unfold objF at hm;split at hm
     ·cases hm
     ·rename_i hc;generalize q08 s at_=w at hm hc;cases hd:digF w 0 with
      |none=>rw[hd]at hm;cases hm
      |some z=>
       rw[hd]at hm;simp only at hm;split at hm
       ·rename_i hz;cases hm;refine⟨?_,hz⟩;cases w with
        |nil=>simp at hc
        |cons a r=>
         have ha:a.toNat≠48:=fun e=>hc (.inr (.inr (by simp[e])))
         have mono:∀(t:List UInt8) (x y:Nat),digF t x=some y→x≤y:=fun t=>by
          induction t with
          |nil=>intro x y e;simp only[digF,Zas]at e;omega
          |cons c r ih=>
           intro x y e;unfold digF at e;split at e
           ·cases e
           ·have:=ih _ _ e;omega
         unfold digF at hd;split at hd
         ·cases hd
         ·have:=mono _ _ _ hd;omega
       ·cases hm
    exact⟨by omega,by omega,hb⟩
   ·cases h
  ·cases h
theorem z7s(w:List UInt8):(q5i w).2=0∨(q5i w).2=1∨(q5i w).2=4:=by
 unfold q5i finP;split
 ·simp
 ·split
  ·simp
  ·split<;>simp
theorem z9Q:(q5i []).2=4:=rfl
theorem j0f{s:List UInt8}{at_:Nat}(ha:at_≤s.length):match q7y s at_ with
  |.ok v k=>at_<k∧k≤s.length∧v.sm 300=true∧(ptV v).1=1
  |.bad e=>1≤e∧e≤8:=by
 have plain:∀(k n:Int),(Val.mk k n [] [] []).sm 300=true∧(ptV (Val.mk k n [] [] [])).1=1:=fun k n=>⟨by simp[Val.sm,smL,smF],by simp[ptV,ptL,ptF]⟩
 have hw:=q4h s at_;unfold q7y
 by_cases h1:q08 s at_=[110,117,108,108]
 ·rw[if_pos h1];rw[h1]at hw;simp only[Zaf,Zag]at hw;exact⟨by omega,by omega,plain 0 0⟩
 ·rw[if_neg h1]
  by_cases h2:q08 s at_=[116,114,117,101]
  ·rw[if_pos h2];rw[h2]at hw;simp only[Zaf,Zag]at hw;exact⟨by omega,by omega,plain 1 1⟩
  ·rw[if_neg h2]
   by_cases h3:q08 s at_=[102,97,108,115,101]
   ·rw[if_pos h3];rw[h3]at hw;simp only[Zaf,Zag]at hw;exact⟨by omega,by omega,plain 1 0⟩
   ·rw[if_neg h3];cases hr:q7w s at_ with
    |some p=>
     obtain⟨n,k⟩:=p;have:=z9Z ha hr;exact⟨by omega,by omega,plain 7 n⟩
    |none=>
     simp only;have hc:=z7s (q08 s at_)
     by_cases h4:(q5i (q08 s at_)).2=0
     ·rw[if_pos h4];have hne:(q08 s at_).length≠0:=fun e=>by
       rw[Zda.1 e,z9Q]at h4;cases h4
      exact⟨by omega,by omega,plain 2 _⟩
     ·rw[if_neg h4];simp only;omega
/-! ### Values -/
def z62(s:List UInt8)(at_:Nat):RV→Prop
 |.ok v k=>at_<k∧k≤s.length∧v.sm 300=true∧(ptV v).1+at_≤k
 |.bad e=>1≤e∧e≤8
theorem z3p{rd:Nat→RV}{s:List UInt8}(hr:∀k,k≤s.length→z62 s k (rd k)):∀(m:Nat) (acc:List Val) (at_:Nat),acc.length+m=301→at_≤s.length→(∀x∈acc,x.sm 300=true)→
  match q4S rd s m acc at_ with
  |.ok v k=>at_<k∧k≤s.length∧v.sm 300=true∧(ptV v).1+at_≤1+(ptL acc).1+k∧∃l,v=lisV l
  |.bad e=>1≤e∧e≤8
 |0,acc,at_,_,_,_=>by simp[q4S]
 |m+1,acc,at_,hm,ha,hacc=>by
  have hsk:=q2X ha;unfold q4S;cases hc:s[q0o s at_]? with
  |none=>simp
  |some c=>
   have hlt:q0o s at_<s.length:=(Zaa.1 hc).1;simp only
   by_cases h93:c.toNat=93
   ·rw[if_pos h93];refine⟨by omega,by omega,Val.q1Q.2 ⟨by simp[lisV,Val.s],by simp only[lisV,Val.l];omega,by simp[lisV,Val.f],hacc,by simp[lisV,Val.f]⟩,?_,acc,rfl⟩;simp only[lisV,ptV,ptF];omega
   ·rw[if_neg h93];have hg:=hr (q0o s at_) hsk.2;cases hx:rd (q0o s at_)with
    |bad e=>rw[hx]at hg;exact hg
    |ok x k=>
     rw[hx]at hg;obtain⟨g1,g2,g3,g4⟩:=hg;have ih:=z3p hr m (acc++[x]) k (by simp;omega) g2 (fun y hy=>by
      rcases Zau.1 hy with h|h
      ·exact hacc y h
      ·simp at h;subst h;exact g3)
     simp only;generalize q4S rd s m (acc++[x]) k=R at *;cases R with
     |bad e=>exact ih
     |ok v q=>
      obtain⟨i1,i2,i3,i4,i5⟩:=ih;rw[z3A]at i4;simp only[ptL]at i4;exact⟨by omega,i2,i3,by omega,i5⟩
theorem z3b{rd:Nat→RV}{s:List UInt8}(hr:∀k,k≤s.length→z62 s k (rd k)):∀(m:Nat) (acc:List Fld) (at_:Nat),acc.length+m=301→at_≤s.length→(∀x∈acc,x.sm 300=true)→
  match q4L rd s m acc at_ with
  |.ok v k=>at_<k∧k≤s.length∧v.sm 300=true∧(ptV v).1+at_≤1+(ptF acc).1+k∧∃l,v=dicV l
  |.bad e=>1≤e∧e≤8
 |0,acc,at_,_,_,_=>by simp[q4L]
 |m+1,acc,at_,hm,ha,hacc=>by
  have hsk:=q2X ha;unfold q4L;cases hc:s[q0o s at_]? with
  |none=>simp
  |some c=>
   have hlt:q0o s at_<s.length:=(Zaa.1 hc).1;simp only
   by_cases h62:c.toNat=62∧s[q0o s at_+1]?=some 62
   ·rw[if_pos h62];have:=(Zaa.1 h62.2).1;refine⟨by omega,by omega,Val.q1Q.2 ⟨by simp[dicV,Val.s],by simp[dicV,Val.l],by simp only[dicV,Val.f];omega,by simp[dicV,Val.l],hacc⟩,?_,acc,rfl⟩;simp only[dicV,ptV,ptL];omega
   ·rw[if_neg h62]
    by_cases h47:c.toNat≠47
    ·rw[if_pos h47];simp
    ·rw[if_neg h47];cases hn:q2V s (q0o s at_)with
     |none=>simp
     |some p=>
      obtain⟨nm,k⟩:=p;obtain⟨n1,n2,n3,_⟩:=q8f hlt hn;have hg:=hr k n2;simp only;cases hx:rd k with
      |bad e=>rw[hx]at hg;exact hg
      |ok x k'=>
       rw[hx]at hg;obtain⟨g1,g2,g3,g4⟩:=hg;simp only
       by_cases hd:(getV nm acc).isSome=true
       ·rw[if_pos hd];simp
       ·rw[if_neg hd];have hno:=z1v (by simpa using hd:(getV nm acc).isSome=false);obtain⟨p1,p2⟩:=z4E (x:=x) hno;have ih:=z3b hr m (setF nm x acc) k' (by omega) g2 (fun y hy=>by
         rcases z4D hy with rfl|h
         ·exact Fld.q1Q.2 ⟨by simp only[Fld.name];omega,g3⟩
         ·exact hacc y h)
        generalize q4L rd s m (setF nm x acc) k'=R at *;cases R with
        |bad e=>exact ih
        |ok v q=>
         obtain⟨i1,i2,i3,i4,i5⟩:=ih;exact⟨by omega,i2,i3,by omega,i5⟩
theorem q9T(s:List UInt8):∀(d at_:Nat),at_≤s.length→z62 s at_ (q19 d s at_)
 |d,at_,ha=>by
  have hsk:=q2X ha;unfold q19;cases hc:s[q0o s at_]? with
  |none=>exact⟨by decide,by decide⟩
  |some c=>
   have hlt:q0o s at_<s.length:=(Zaa.1 hc).1;cases d with
   |zero=>exact⟨by decide,by decide⟩
   |succ d=>
    have ih:∀k,k≤s.length→z62 s k (q19 d s k):=fun k hk=>q9T s d k hk
    have one:∀{R:RV} {q:Nat},at_≤q→(match R with
      |.ok v k=>q<k∧k≤s.length∧v.sm 300=true∧(ptV v).1=1
      |.bad e=>1≤e∧e≤8)→z62 s at_ R:=fun{R q} hq h=>by
     cases R with
     |bad e=>exact h
     |ok v k=>obtain⟨h1,h2,h3,h4⟩:=h;exact⟨by omega,h2,h3,by omega⟩
    simp only
    by_cases c47:c.toNat=47
    ·rw[if_pos c47];cases hn:q2V s (q0o s at_)with
     |none=>exact⟨by decide,by decide⟩
     |some p=>
      obtain⟨b,k⟩:=p;obtain⟨n1,n2,n3,_⟩:=q8f hlt hn;exact⟨by omega,n2,Val.q1Q.2 ⟨by simp only[namV,Val.s];omega,by simp[namV,Val.l],by simp[namV,Val.f],by simp[namV,Val.l],by simp[namV,Val.f]⟩,by simp only[namV,ptV,ptL,ptF];omega⟩
    ·rw[if_neg c47]
     by_cases c40:c.toNat=40
     ·rw[if_pos c40];exact one (by omega) (z9H (by omega))
     ·rw[if_neg c40]
      by_cases cd:c.toNat=60∧s[q0o s at_+1]?=some 60
      ·rw[if_pos cd];have:=(Zaa.1 cd.2).1;have hg:=z3b ih 301 [] (q0o s at_+2) rfl (by omega) (by simp);generalize q4L (q19 d s) s 301 [] (q0o s at_+2)=R at *;cases R with
       |bad e=>exact hg
       |ok v k=>obtain⟨g1,g2,g3,g4,_⟩:=hg;simp only[ptF]at g4;exact⟨by omega,g2,g3,by omega⟩
      ·rw[if_neg cd]
       by_cases c60:c.toNat=60
       ·rw[if_pos c60];exact one (by omega) (z9A (by omega))
       ·rw[if_neg c60]
        by_cases c91:c.toNat=91
        ·rw[if_pos c91];have hg:=z3p ih 301 [] (q0o s at_+1) rfl (by omega) (by simp);generalize q4S (q19 d s) s 301 [] (q0o s at_+1)=R at *;cases R with
         |bad e=>exact hg
         |ok v k=>obtain⟨g1,g2,g3,g4,_⟩:=hg;simp only[ptL]at g4;exact⟨by omega,g2,g3,by omega⟩
        ·rw[if_neg c91]
         by_cases hs:q3V c=true
         ·rw[if_pos hs];exact⟨by decide,by decide⟩
         ·rw[if_neg hs];exact one (by omega) (j0f (by omega))
/-! ### Rows alike so far -/
/-! ### Texts alike up to a place, where a blank follows -/
section
variable {s s':List UInt8} {K:Nat}
def rtP(s:List UInt8)(e:Nat):Option Nat:=
 if q08 s (q0o s e)=[48]then(if q08 s (q0o s (q0o s e+1))=[82]then some (q0o s (q0o s e+1)+1)else none)else none
theorem z8L(s:List UInt8)(a:Nat):q7w s a=match objF (q08 s a)with
  |none=>none
  |some n=>(rtP s (a+(q08 s a).length)).map fun k=>(n,k):=by
 unfold q7w rtP;cases objF (q08 s a)with
 |none=>rfl
 |some n=>
  simp only;split
  ·split<;>rfl
  ·rfl
end
theorem j4w{c:UInt8}{n:Nat}(h:c.toNat=n)(hn:n∈[47,40,60,91,93,62]):q3V c=true:=by
 have:c=UInt8.ofNat n:=by rw[←h];simp
 subst this;simp only[Zar,List.not_mem_nil,or_false]at hn;rcases hn with rfl|rfl|rfl|rfl|rfl|rfl<;>decide
section
variable {s s':List UInt8} {K:Nat}
end
theorem j67{q s:List UInt8}(k:Nat):rtP (q++s) (q.length+k)=(rtP s k).map fun x=>q.length+x:=by
 unfold rtP;rw[q2G,q6k,Zbn,q2G,q6k];split
 ·split
  ·simp only[Zat,Zbn]
  ·rfl
 ·rfl
def q7x(p:List UInt8):Prop:=rtP p 0=none
def d2(n:Nat):List UInt8:=if n<10 then[UInt8.ofNat (48+n)]else[UInt8.ofNat (48+n / 10),UInt8.ofNat (48+n % 10)]
theorem j6T:∀i:Fin 61,0<i.val→objF (d2 i.val)=some i.val:=by decide +kernel
theorem j6F{n:Nat}(h:n<100):Lib.decDigits n=d2 n:=by
 rw[Lib.decDigits];unfold d2
 by_cases h1:n<10
 ·rw[dif_pos h1,if_pos h1]
 ·rw[dif_neg h1,if_neg h1,Lib.decDigits,dif_pos (by omega)];rfl
theorem j11{n:Nat}(h1:1≤n)(h2:n≤60):objF (Lib.decDigits n)=some n:=by
 rw[j6F (by omega)];exact j6T ⟨n,by omega⟩ h1
theorem q7b{v:Val}(hw:q12 v=true):∃c t,q0F v=c::t∧c.toNat≠37∧q2b c.toNat=false∧c.toNat≠93:=by
 have dg:∀{w:List UInt8},w≠[]→(∀c∈w,digB c)→∃c t,w=c::t∧c.toNat≠37∧q2b c.toNat=false∧c.toNat≠93:=fun{w} hn hd=>by
  cases w with
  |nil=>exact absurd rfl hn
  |cons c t=>
   have h:=hd c (by simp);refine⟨c,t,rfl,?_,(z1h h).1,?_⟩<;>unfold digB at h<;>omega
 rw[z01];rcases z4Q hw with h|h|h|h|h|h|h|h<;>rw[h]
 ·exact⟨_,_,rfl,by decide,by decide,by decide⟩
 ·rw[if_pos rfl];split
  ·exact⟨_,_,rfl,by decide,by decide,by decide⟩
  ·exact⟨_,_,rfl,by decide,by decide,by decide⟩
 ·rw[if_neg (by decide),if_pos rfl];exact dg (z89 _) q51
 ·exact⟨_,_,rfl,by decide,by decide,by decide⟩
 ·exact⟨_,_,rfl,by decide,by decide,by decide⟩
 ·exact⟨_,_,rfl,by decide,by decide,by decide⟩
 ·exact⟨_,_,rfl,by decide,by decide,by decide⟩
 ·rw[if_neg (by decide),if_neg (by decide),if_neg (by decide),if_neg (by decide),if_neg (by decide),if_neg (by decide),if_pos rfl];obtain⟨c,t,e,h1⟩:=dg (q6o v.n.toNat) (q72 _);exact⟨c,t++[32,48,32,82],by rw[e];rfl,h1⟩
theorem z6z{v:Val}{p:List UInt8}(hw:q12 v=true)(hp:dl p):q2a (q0F v++p)≠[82]∧(q2a (q0F v++p)=[48]→q0F v=[48]):=by
 rw[z01];have sg:∀{c:UInt8} {t:List UInt8},q3V c=true→q2a (c::t)=[]:=fun{c t} h=>by rw[q1H,if_neg (by simp[h])]
 have no:∀{w:List UInt8},w=[]→w≠[82]∧(w=[48]→w=[48]):=fun h=>⟨by rw[h];simp,fun h=>h⟩
 rcases z4Q hw with h|h|h|h|h|h|h|h<;>rw[h]
 ·have e:q2a ([110,117,108,108]++p)=[110,117,108,108]:=q1B (by unfold plW;decide) hp;show q2a ([110,117,108,108]++p)≠_∧(q2a ([110,117,108,108]++p)=_→_)
  rw[e];exact⟨by decide,fun e=>by simp at e⟩
 ·rw[if_pos rfl];split
  ·rw[q1B (by unfold plW;decide) hp];exact⟨by decide,fun e=>by simp at e⟩
  ·rw[q1B (by unfold plW;decide) hp];exact⟨by decide,fun e=>by simp at e⟩
 ·rw[if_neg (by decide),if_pos rfl,q1B (z4J _) hp];exact⟨q5d q51 (by decide),fun e=>e⟩
 ·show q2a (40::_)≠_∧(q2a (40::_)=_→_)
  rw[sg (by decide)];exact⟨by simp,fun e=>by simp at e⟩
 ·show q2a (47::_)≠_∧(q2a (47::_)=_→_)
  rw[sg (by decide)];exact⟨by simp,fun e=>by simp at e⟩
 ·show q2a (91::_)≠_∧(q2a (91::_)=_→_)
  rw[sg (by decide)];exact⟨by simp,fun e=>by simp at e⟩
 ·show q2a (60::_)≠_∧(q2a (60::_)=_→_)
  rw[sg (by decide)];exact⟨by simp,fun e=>by simp at e⟩
 ·rw[if_neg (by decide),if_neg (by decide),if_neg (by decide),if_neg (by decide),if_neg (by decide),if_neg (by decide),if_pos rfl,List.append_assoc,q1B (j0U _) (p:=[32,48,32,82]++p) (show dl (32::_)from .inl (by decide))];have h7:=z7S hw h;refine⟨q5d (q72 _) (by decide),fun e=>?_⟩;have:=j11 (n:=v.n.toNat) (by omega) (by omega);rw[e]at this;exact absurd this (by simp[objF])
theorem j2B{c:UInt8}{r:List UInt8}(h:q3V c=true)(h37:c.toNat≠37)(hb:q2b c.toNat=false):q7x (c::r):=by
 unfold q7x rtP;rw[q26 h37 hb,q8p,q1H,if_neg (show ¬(q2b c.toNat=false∧q3V c=false) by simp[h])];rfl
theorem j2C{r:List UInt8}{c:UInt8}{t:List UInt8}(e:r=c::t)(h37:c.toNat≠37)(hb:q2b c.toNat=false)(h:q2a r=[48]→q08 r (q0o r 1)≠[82]):q7x (32::r):=by
 unfold q7x rtP;have e1:q0o (32::r) 0=1:=by rw[q5n,e,q26 h37 hb]
 have e2:q08 (32::r) 1=q2a r:=rfl;have e3:q0o (32::r) (1+1)=1+q0o r 1:=q2G (p:=[32]) 1;have e4:∀k,q08 (32::r) (1+k)=q08 r k:=fun k=>q6k (p:=[32]) k
 rw[e1,e2,e3,e4]
 by_cases hw:q2a r=[48]
 ·rw[if_pos hw,if_neg (h hw)]
 ·rw[if_neg hw]
theorem z6O(r:List Val)(q:List UInt8):dl (q1l true r++93::q):=by
 cases r with
 |nil=>exact .inr (by decide)
 |cons v r=>exact .inl (by decide)
theorem q9l{v:Val}(hw:q12 v=true)(p:List UInt8):q0o (q0F v++p) 0=0:=by
 obtain⟨c,t,h1,h2,h3,_⟩:=q7b hw;rw[h1];exact q26 h2 h3
theorem j2z{r:List Val}(q:List UInt8)(hr:∀x∈r,q12 x=true):q7x (q1l true r++93::q):=by
 cases r with
 |nil=>exact j2B (by decide) (by decide) (by decide)
 |cons v r=>
  have hv:=hr v (by simp);have e:q1l true (v::r)++93::q=32::(q0F v++(q1l true r++93::q)):=by simp[q1l]
  rw[e];obtain⟨c,t,h1,h2,h3,_⟩:=q7b hv;refine j2C (c:=c) (t:=t++(q1l true r++93::q)) (by rw[h1];rfl) h2 h3 fun hw=>?_
  have e0:=(z6z hv (z6O r q)).2 hw;rw[e0];have e1:q0o ([48]++(q1l true r++93::q)) 1=1+q0o (q1l true r++93::q) 0:=q2G (p:=[48]) 0;have e2:∀k,q08 ([48]++(q1l true r++93::q)) (1+k)=q08 (q1l true r++93::q) k:=fun k=>q6k (p:=[48]) k
  rw[e1,e2];cases r with
  |nil=>
   show q08 (93::q) (q0o (93::q) 0)≠_
   rw[q26 (by decide) (by decide),q8p,q1H,if_neg (by decide)];simp
  |cons x r=>
   have hx:=hr x (by simp);have e3:q1l true (x::r)++93::q=32::(q0F x++(q1l true r++93::q)):=by simp[q1l]
   obtain⟨c',t',g1,g2,g3,_⟩:=q7b hx;have e4:q0o (q0F x++(q1l true r++93::q)) 0=0:=by rw[g1];exact q26 g2 g3
   rw[e3,q5n,e4];show q08 (32::(q0F x++(q1l true r++93::q))) 1≠_
   have e5:q08 (32::(q0F x++(q1l true r++93::q))) 1=q2a (q0F x++(q1l true r++93::q)):=rfl;rw[e5];exact(z6z hx (z6O r q)).1
theorem z9Y{c:UInt8}{t:List UInt8}(d:Nat)(h:q2b c.toNat=false∧q3V c=false):q19 (d+1) (c::t) 0=q7y (c::t) 0:=by
 have hn:∀n∈[47,40,60,91,93,62],c.toNat≠n:=fun n hn e=>by
  have:=j4w e hn;rw[h.2]at this;cases this
 have h37:c.toNat≠37:=fun e=>by
  have:c=37:=UInt8.toNat_inj.1 e;rw[this]at h;exact absurd h.2 (by decide)
 rw[q19,q26 h37 h.1];simp only[List.getElem?_cons_zero];rw[if_neg (hn 47 (by simp)),if_neg (hn 40 (by simp)),if_neg (fun h'=>hn 60 (by simp) h'.1),if_neg (hn 60 (by simp)),if_neg (hn 91 (by simp)),if_neg (by rw[h.2];simp)]
theorem q4W{w p:List UInt8}(d:Nat)(hw:plW w)(hn:w≠[]):q19 (d+1) (w++p) 0=q7y (w++p) 0:=by
 cases w with
 |nil=>exact absurd rfl hn
 |cons c t=>exact z9Y d (hw c (by simp))
def z2S(d:Nat)(v:Val):Prop:=∀p,dl p→q7x p→q19 d (q0F v++p) 0=.ok v (q0F v).length
theorem z6y(d:Nat){s:List UInt8}(q:List UInt8):∀(r:List Val) (pre:List UInt8) (acc:List Val) (sep:Bool) (m:Nat),(∀x∈r,q12 x=true∧z2S d x)→s=pre++(q1l sep r++93::q)→r.length<m→
  q4S (q19 d s) s m acc pre.length=.ok (lisV (acc++r)) (pre.length+(q1l sep r).length+1)
 |_,_,_,_,0,_,_,hm=>by omega
 |[],pre,acc,sep,m+1,hr,hs,hm=>by
  have e0:q1l sep []=[]:=by simp[q1l]
  rw[e0]at hs ⊢;rw[Zav]at hs;have e1:q0o s pre.length=pre.length:=by
   have:=q2G (p:=pre) (s:=93::q) 0;rw[q26 (by decide) (by decide),←hs]at this;exact this
  have e2:s[pre.length]?=some 93:=by rw[hs];simp
  rw[q4S,e1,e2];simp
 |x::r,pre,acc,sep,m+1,hr,hs,hm=>by
  obtain⟨hx,hxt⟩:=hr x (by simp);obtain⟨c,t,h1,h2,h3,h93⟩:=q7b hx;obtain⟨sp,hsp⟩:∃sp:List UInt8,(if sep then[32]else[])=sp:=⟨_,rfl⟩;have e0:q1l sep (x::r)=sp++q0F x++q1l true r:=by simp only[q1l];rw[←hsp]
  have hs2:s=(pre++sp)++(q0F x++(q1l true r++93::q)):=by rw[hs,e0];simp
  have hsk:q0o (sp++(q0F x++(q1l true r++93::q))) 0=sp.length:=by
   rw[←hsp];cases sep with
   |true=>show q0o (32::(q0F x++(q1l true r++93::q))) 0=1;rw[q5n,q9l hx]
   |false=>exact q9l hx _
  have e1:q0o s pre.length=(pre++sp).length:=by
   have:=q2G (p:=pre) (s:=sp++(q0F x++(q1l true r++93::q))) 0;rw[hsk,←List.append_assoc,←hs2]at this;rw[Zad];exact this
  have e2:s[(pre++sp).length]?=some c:=by rw[hs2,Zaj (Zai _),h1];simp
  have e3:q19 d s (pre++sp).length=.ok x ((pre++sp).length+(q0F x).length):=by
   have:=z2f (p:=pre++sp) (s:=q0F x++(q1l true r++93::q)) d 0;rw[hxt _ (z6O r q) (j2z q fun y hy=>(hr y (by simp[hy])).1),←hs2]at this;exact this
  rw[q4S,e1,e2];simp only;rw[if_neg h93,e3];simp only;have ih:=z6y d (s:=s) q r (pre++sp++q0F x) (acc++[x]) true m (fun y hy=>hr y (by simp[hy])) (by rw[hs2];simp) (by simpa using hm);have el:(pre++sp++q0F x).length=(pre++sp).length+(q0F x).length:=by simp;omega
  rw[el]at ih;rw[ih,e0];simp only[RV.ok.injEq,List.append_assoc,List.singleton_append,true_and,Zad];omega
theorem j1C{a b:List UInt8}(h:Op.bytesLess a b=true):a≠b:=fun e=>by
 subst e;rw[z8r]at h;cases h
theorem z4s{nm:List UInt8}:∀{l:List Fld},(∀y∈l,Op.bytesLess y.name nm=true)→posV nm l=l.length
 |[],_=>rfl
 |y::r,h=>by rw[posV,if_pos (h y (by simp)),z4s fun z hz=>h z (by simp[hz])];rfl
theorem j4t{nm:List UInt8}{x:Val}{l:List Fld}(h:∀y∈l,Op.bytesLess y.name nm=true):setF nm x l=l++[.mk nm x]:=by
 unfold setF;have hh:hasV nm l=false:=by unfold hasV;rw[z4s h];simp
 rw[hh,z4s h];simp
theorem z8g{nm:List UInt8}:∀{l:List Fld},(∀y∈l,Op.bytesLess y.name nm=true)→getV nm l=none
 |[],_=>rfl
 |y::r,h=>by
  rw[getV,if_neg (j1C (h y (by simp))),z8g fun z hz=>h z (by simp[hz])]
theorem z4O:∀{p:Option (List UInt8)} {l:List Fld},q6z p l=true→(∀q,p=some q→∀x∈l,Op.bytesLess q x.name=true)∧l.Pairwise fun x y=>Op.bytesLess x.name y.name=true
 |p,[],_=>⟨fun _ _ x hx=>by simp at hx,.nil⟩
 |p,.mk nm v::r,h=>by
  simp only[q6z,Zah]at h;obtain⟨⟨h1,h2,h3⟩,h4⟩:=h;obtain⟨i1,i2⟩:=z4O h4;have i1':=i1 nm rfl;refine⟨fun q hq x hx=>?_,.cons (fun y hy=>i1' y hy) i2⟩;subst hq;rcases Zar.1 hx with rfl|hx
  ·exact h3
  ·exact q5L h3 (i1' x hx)
theorem z6k(r:List Fld)(q:List UInt8):dl (q2f r++32::62::62::q)∧q7x (q2f r++32::62::62::q):=by
 have key:∀(c:UInt8) (t:List UInt8),q3V c=true→c.toNat≠37→q2b c.toNat=false→dl (32::c::t)∧q7x (32::c::t):=fun c t h h37 hb=>
  ⟨.inl (by decide),j2C rfl h37 hb fun e=>by rw[q1H,if_neg (show ¬(q2b c.toNat=false∧q3V c=false) by simp[h])]at e;cases e⟩
 cases r with
 |nil=>exact key 62 _ (by decide) (by decide) (by decide)
 |cons x r=>
  cases x with
  |mk nm v=>
   have e:q2f (.mk nm v::r)++32::62::62::q=32::47::(q1q nm++[32]++q0F v++q2f r++32::62::62::q):=by simp[q2f]
   rw[e];exact key 47 _ (by decide) (by decide) (by decide)
theorem z6x(d:Nat){s:List UInt8}(q:List UInt8):∀(r:List Fld) (pre:List UInt8) (acc:List Fld) (m:Nat),(∀x∈r,q1A x.name=true∧q12 x.v=true∧z2S d x.v)→(∀y∈acc,∀x∈r,Op.bytesLess y.name x.name=true)→
  r.Pairwise (fun x y=>Op.bytesLess x.name y.name=true)→s=pre++(q2f r++32::62::62::q)→r.length<m→
  q4L (q19 d s) s m acc pre.length=.ok (dicV (acc++r)) (pre.length+(q2f r).length+3)
 |_,_,_,0,_,_,_,_,hm=>by omega
 |[],pre,acc,m+1,hr,ha,hp,hs,hm=>by
  have e0:q2f []=[]:=by simp[q2f]
  rw[e0]at hs ⊢;rw[Zav]at hs;have e1:q0o s pre.length=pre.length+1:=by
   have:=q2G (p:=pre) (s:=32::62::62::q) 0;rw[q5n,q26 (by decide) (by decide),←hs]at this;exact this
  have e2:s[pre.length+1]?=some 62:=by rw[hs,Zaj (by omega),Nat.add_sub_cancel_left];rfl
  have e3:s[pre.length+1+1]?=some 62:=by rw[hs,Zaj (by omega),show pre.length+1+1-pre.length=2 by omega];rfl
  rw[q4L,e1,e2];simp only;rw[if_pos ⟨by decide,e3⟩];simp
 |.mk nm v::r,pre,acc,m+1,hr,ha,hp,hs,hm=>by
  obtain⟨hn,hx,hxt⟩:=hr (.mk nm v) (by simp);have hn:q1A nm=true:=hn;have hx:q12 v=true:=hx;have hxt:z2S d v:=hxt;rw[Zcv]at hp;have hac:∀y∈acc,Op.bytesLess y.name nm=true:=fun y hy=>ha y hy (.mk nm v) (by simp)
  obtain⟨T,hT⟩:∃T,q2f r++32::62::62::q=T:=⟨_,rfl⟩;have e0:q2f (.mk nm v::r)=[32,47]++q1q nm++[32]++q0F v++q2f r:=by simp[q2f]
  have hs2:s=(pre++[32])++([47]++q1q nm++(32::(q0F v++T))):=by rw[hs,e0,←hT];simp
  have hs3:s=(pre++[32]++[47]++q1q nm++[32])++(q0F v++T):=by rw[hs2];simp
  have e1:q0o s pre.length=(pre++[32]).length:=by
   have:=q2G (p:=pre) (s:=32::([47]++q1q nm++(32::(q0F v++T)))) 0;rw[q5n]at this;have h0:q0o ([47]++q1q nm++(32::(q0F v++T))) 0=0:=q26 (by decide) (by decide);rw[h0]at this;have hh:pre++32::([47]++q1q nm++(32::(q0F v++T)))=s:=by rw[hs2];simp
   rw[hh]at this;simpa using this
  have e2:s[(pre++[32]).length]?=some 47:=by rw[hs2,Zaj (Zai _),Nat.sub_self];rfl
  have e3:q2V s (pre++[32]).length=some (nm,(pre++[32]).length+(1+(q1q nm).length)):=by
   have:=z7F (p:=pre++[32]) (s:=[47]++q1q nm++(32::(q0F v++T))) 0;rw[z5W hn (show dl (32::_)from .inl (by decide)),←hs2]at this;exact this
  have e4:q19 d s ((pre++[32]).length+(1+(q1q nm).length))=.ok v ((pre++[32]++[47]++q1q nm++[32]).length+(q0F v).length):=by
   have h1:=z2f (p:=pre++[32]++[47]++q1q nm++[32]) (s:=q0F v++T) d 0;rw[hxt T (hT▸(z6k r q).1) (hT▸(z6k r q).2),←hs3]at h1;have hl:(pre++[32]).length+(1+(q1q nm).length)=(pre++[32]++[47]++q1q nm).length:=by simp;omega
   have hk:q0o s ((pre++[32]).length+(1+(q1q nm).length))=q0o s ((pre++[32]++[47]++q1q nm++[32]).length+0):=by
    have k1:=q2G (p:=pre++[32]++[47]++q1q nm++[32]) (s:=q0F v++T) 0;rw[q9l hx,←hs3]at k1;have k2:=q2G (p:=pre++[32]++[47]++q1q nm) (s:=32::(q0F v++T)) 0;have hh:(pre++[32]++[47]++q1q nm)++32::(q0F v++T)=s:=by rw[hs3];simp
    rw[q5n,q9l hx,hh]at k2;rw[k1,hl];rw[Zck]at k2;rw[k2];simp;omega
   rw[z3B hk,h1];rfl
  rw[q4L,e1,e2];simp only;rw[if_neg (fun h=>absurd h.1 (by decide)),if_neg (by decide),e3];simp only;rw[e4];simp only;rw[if_neg (by rw[z8g hac];simp),j4t hac];have ih:=z6x d (s:=s) q r (pre++[32]++[47]++q1q nm++[32]++q0F v) (acc++[.mk nm v]) m (fun y hy=>hr y (by simp[hy])) (fun y hy x hx=>by
   rcases Zau.1 hy with hy|hy
   ·exact ha y hy x (by simp[hx])
   ·simp only[Zbe]at hy;subst hy;exact hp.1 x hx) hp.2 (by rw[hs3,←hT];simp) (by simpa using hm)
  have el:(pre++[32]++[47]++q1q nm++[32]++q0F v).length=(pre++[32]++[47]++q1q nm++[32]).length+(q0F v).length:=Zad;rw[el]at ih;rw[ih,e0];simp only[RV.ok.injEq,List.append_assoc,List.singleton_append,true_and,Zad,Zaf,Zag];omega
theorem z8I{x:Val}:∀{l:List Val},x∈l→(ptV x).2≤(ptL l).2
 |y::r,h=>by
  simp only[ptL];rcases Zar.1 h with rfl|h
  ·omega
  ·have:=z8I h;omega
theorem z8H{x:Fld}:∀{l:List Fld},x∈l→(ptV x.v).2≤(ptF l).2
 |y::r,h=>by
  rw[q9a];rcases Zar.1 h with rfl|h
  ·simp only;omega
  ·have:=z8H h;simp only;omega
theorem j2f:∀(l:List Val),l.length≤(ptL l).1
 |[]=>by simp
 |y::r=>by have:=j2f r;have:=(q8j y).1;simp only[ptL,Zaf];omega
theorem j2e:∀(l:List Fld),l.length≤(ptF l).1
 |[]=>by simp
 |y::r=>by have:=j2e r;have:=(q8j y.v).1;rw[q9a];simp only[Zaf];omega
theorem q9o{v:Val}:v=.mk v.kind v.n v.s v.l v.f:=by cases v;rfl
theorem j6f:∀(m:Nat) (v:Val) (d:Nat),SizeOf.sizeOf v≤m→q12 v=true→(ptV v).2≤d→(ptV v).1≤300→z2S d v:=by
 intro m;induction m with
 |zero=>intro v d h;cases v;simp at h
 |succ m ih=>
  intro v d hm hw hd hp p hdl hsh;obtain⟨d,rfl⟩:∃e,d=e+1:=⟨d-1,by have:=(q8j v).2;omega⟩;have hwe:=hw;rw[q2Y]at hwe;have hte:=z01 v;rcases z4Q hw with h|h|h|h|h|h|h|h<;>rw[h]at hwe hte
  ·simp at hwe hte;obtain⟨h1,h2,h3,h4⟩:=hwe;have hv:v=zeroV:=by rw[q9o (v:=v),h,h1,h2,h3,h4];rfl
   rw[hte,q4W d (by unfold plW;decide) (by simp)];unfold q7y;rw[q8p,q1B (by unfold plW;decide) hdl,if_pos rfl,hv];rfl
  ·simp at hwe hte;obtain⟨h1,h2,h3,h4⟩:=hwe;rw[hte]
   by_cases hn:v.n=1
   ·rw[if_pos hn,q4W d (by unfold plW;decide) (by simp)];have hv:v=.mk 1 1 [] [] []:=by rw[q9o (v:=v),h,hn,h2,h3,h4]
    unfold q7y;rw[q8p,q1B (by unfold plW;decide) hdl,if_neg (by decide),if_pos rfl,hv];rfl
   ·rw[if_neg hn,q4W d (by unfold plW;decide) (by simp)];have hn0:v.n=0:=h1.resolve_right hn;have hv:v=.mk 1 0 [] [] []:=by rw[q9o (v:=v),h,hn0,h2,h3,h4]
    unfold q7y;rw[q8p,q1B (by unfold plW;decide) hdl,if_neg (by decide),if_neg (by decide),if_pos rfl,hv];rfl
  ·simp at hwe hte;obtain⟨h1,h2,h3,h4⟩:=hwe;have hv:v=numV v.n:=by rw[q9o (v:=v),h,h2,h3,h4];rfl
   rw[hte,q4W d (z4J _) (z89 _)];have hwd:q08 (q4z v.n++p) 0=q4z v.n:=by rw[q8p,q1B (z4J _) hdl]
   have hra:q7w (q4z v.n++p) 0=none:=by
    rw[z8L,hwd,Zbh];have:=j67 (q:=q4z v.n) (s:=p) 0;rw[hsh,Zck]at this;rw[this];cases objF (q4z v.n)<;>rfl
   unfold q7y;rw[hwd,if_neg (q5d q51 (by decide)),if_neg (q5d q51 (by decide)),if_neg (q5d q51 (by decide)),hra];simp only;rw[z9S h1,if_pos rfl,Zbh];simp only;rw[←hv]
  ·simp at hwe hte;obtain⟨h1,h2,h3,h4⟩:=hwe;have hv:v=strV v.s:=by rw[q9o (v:=v),h,h1,h3,h4];rfl
   have hl:=q82 v.s p [] 1;rw[hte];rw[q19];have e1:q0o (40::(strP v.s++[41])++p) 0=0:=q26 (by decide) (by decide);rw[e1];show z4h _ 1=_
   unfold z4h;have e2:(40::(strP v.s++[41])++p).drop 1=strP v.s++41::p:=by simp
   rw[e2,hl];simp only[Zav];rw[if_pos h2,←hv];simp;omega
  ·simp at hwe hte;obtain⟨h1,h2,h3,h4⟩:=hwe;have hv:v=namV v.s:=by rw[q9o (v:=v),h,h1,h3,h4];rfl
   have hl:=z5W h2 hdl;rw[hte];rw[q19];have e1:q0o (47::q1q v.s++p) 0=0:=q26 (by decide) (by decide);rw[e1];show(match q2V (47::q1q v.s++p) 0 with|none=>RV.bad 4|some (b,k)=>.ok (namV b) k)=_
   have e2:q2V (47::q1q v.s++p) 0=_:=hl;rw[e2];simp only;rw[←hv];simp;omega
  ·simp at hwe hte;obtain⟨h1,h2,h3,h4⟩:=hwe;have hv:v=lisV v.l:=by rw[q9o (v:=v),h,h1,h2,h4];rfl
   have hpe:=j45 v;have hsz:SizeOf.sizeOf v.l<SizeOf.sizeOf v:=by cases v;simp[Val.l];omega
   rw[hte];have e1:q0o (91::(q1l false v.l++[93])++p) 0=0:=q26 (by decide) (by decide);rw[q19,e1];show q4S _ _ 301 [] 1=_
   have hall:∀x∈v.l,q12 x=true∧z2S d x:=fun x hx=>by
    have w:=z4P hw h hx;have q1:=z8I hx;have q2:=j50 hx;have q3:=List.sizeOf_lt_of_mem hx;exact⟨w,ih x d (by omega) w (by rw[hpe]at hd;simp only at hd;omega) (by rw[hpe]at hp;simp only at hp;omega)⟩
   have:=z6y d (s:=91::(q1l false v.l++[93])++p) p v.l [91] [] false 301 hall (by simp) (by have:=j2f v.l;rw[hpe]at hp;simp only at hp;omega);rw[show(1:Nat)=[(91:UInt8)].length from rfl,this,Zav,←hv];simp;omega
  ·simp at hwe hte;obtain⟨h1,h2,h3,h4⟩:=hwe;have hv:v=dicV v.f:=by rw[q9o (v:=v),h,h1,h2,h3];rfl
   have hpe:=j45 v;have hsz:SizeOf.sizeOf v.f<SizeOf.sizeOf v:=by cases v;simp[Val.f];omega
   rw[hte];have e1:q0o (60::60::(q2f v.f++[32,62,62])++p) 0=0:=q26 (by decide) (by decide);rw[q19,e1];show q4L _ _ 301 [] 2=_
   have hall:∀x∈v.f,q1A x.name=true∧q12 x.v=true∧z2S d x.v:=fun x hx=>by
    have w:=z9d hw h x hx;have q1:=z8H hx;have q2:=j5Z hx;have q3:=List.sizeOf_lt_of_mem hx;have q4:SizeOf.sizeOf x.v<SizeOf.sizeOf x:=by cases x;simp[Fld.v];omega
    exact⟨w.1,w.2,ih x.v d (by omega) w.2 (by rw[hpe]at hd;simp only at hd;omega) (by rw[hpe]at hp;simp only at hp;omega)⟩
   have:=z6x d (s:=60::60::(q2f v.f++[32,62,62])++p) p v.f [60,60] [] 301 hall (fun y hy=>by simp at hy) (z4O h4).2 (by simp) (by have:=j2e v.f;rw[hpe]at hp;simp only at hp;omega);rw[show(2:Nat)=[(60:UInt8),60].length from rfl,this,Zav,←hv];simp;omega
  ·simp at hwe hte;obtain⟨h1,h2,h3,h4⟩:=hwe;obtain⟨n,hn⟩:∃n:Nat,v.n=n:=⟨v.n.toNat,by omega⟩;have hv:v=.mk 7 n [] [] []:=by rw[q9o (v:=v),h,h2,h3,h4,hn]
   rw[hn,Zcn]at hte;rw[hte,List.append_assoc,q4W d (j0U _) (q6o _)];have hd2:dl ([32,48,32,82]++p):=.inl (by decide);have hwd:q08 (Lib.decDigits n++([32,48,32,82]++p)) 0=Lib.decDigits n:=by rw[q8p,q1B (j0U _) hd2]
   have hrt:rtP ([32,48,32,82]++p) 0=some 4:=by
    have a1:q0o ([32,48,32,82]++p) 0=1:=by
     show q0o (32::([48,32,82]++p)) 0=1
     rw[q5n];have:q0o ([48,32,82]++p) 0=0:=q26 (by decide) (by decide);rw[this]
    have a2:q08 ([32,48,32,82]++p) 1=[48]:=by
     show q2a ([48]++(32::82::p))=_
     exact q1B (by unfold plW;decide) (show dl (32::_)from .inl (by decide))
    have a3:q0o ([32,48,32,82]++p) (1+1)=3:=by
     have:=q2G (p:=[32,48]) (s:=32::82::p) 0;rw[q5n,q26 (by decide) (by decide)]at this;exact this
    have a4:q08 ([32,48,32,82]++p) 3=[82]:=by
     show q2a ([82]++p)=_
     exact q1B (by unfold plW;decide) hdl
    unfold rtP;rw[a1,a2,if_pos rfl,a3,a4,if_pos rfl]
   have hra:q7w (Lib.decDigits n++([32,48,32,82]++p)) 0=some (n,(Lib.decDigits n).length+4):=by
    rw[z8L,hwd,Zbh,j11 (by omega) (by omega)];have:=j67 (q:=Lib.decDigits n) (s:=[32,48,32,82]++p) 0;rw[hrt,Zck]at this;simp only;rw[this];rfl
   unfold q7y;rw[hwd,if_neg (q5d (q72 _) (by decide)),if_neg (q5d (q72 _) (by decide)),if_neg (q5d (q72 _) (by decide)),hra];simp only;rw[←hv];simp
theorem j1S{c x y:UInt8}{r b:List UInt8}(h:c.toNat=35):q3w (c::x::y::r) b=if hexI x.toNat<0∨hexI y.toNat<0 then none else q3w r (b++[q55 (16*hexI x.toNat+hexI y.toNat)]):=by
 rw[q3w,if_pos h]
theorem j1R{c:UInt8}{r b:List UInt8}(h:c.toNat=35)(hr:r.length<2):q3w (c::r) b=none:=by
 match r,hr with
 |[],_=>rw[q3w,if_pos h];intro x y q e;cases e
 |[x],_=>rw[q3w,if_pos h];intro x y q e;cases e
theorem j1T{c:UInt8}{r b:List UInt8}(h:c.toNat≠35):q3w (c::r) b=q3w r (b++[c]):=by
 match r with
 |[]=>simp[q3w,h]
 |[x]=>simp[q3w,h]
 |x::y::r=>rw[q3w,if_neg h]
end Go.Av.Tryz
