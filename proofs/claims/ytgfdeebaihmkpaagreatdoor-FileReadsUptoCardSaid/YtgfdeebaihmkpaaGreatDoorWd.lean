import Derived.Test.YtgfdeebaihmkpaaGreatDoorWc
import Derived.Test.YtgfdeebaihmkpaaGreatDoorWa
import Derived.Shelf.Strings.Search3
import Derived.Shelf.LaysM
set_option linter.unusedSimpArgs false
set_option maxRecDepth 100000
namespace Go.Av.Tryz
open Go.Proofs
/-! ### Fields put in, none of that name there -/
theorem z1m{nm:List UInt8}:∀{l:List Fld},(getV nm l).isSome=false→∀y∈l,y.name≠nm
 |[],_,y,hy=>by simp at hy
 |x::r,h,y,hy=>by
  rw[getV]at h
  by_cases e:x.name=nm
  ·rw[if_pos e]at h;cases h
  ·rw[if_neg e]at h;rcases Zba.1 hy with rfl|hy
   ·exact e
   ·exact z1m h y hy
theorem z8b{nm:List UInt8}{l:List Fld}(h:∀y∈l,y.name≠nm):hasV nm l=false:=by
 unfold hasV;cases hx:l[posV nm l]? with
 |none=>rfl
 |some x=>simpa using h x (Zaf hx)
theorem j1R{nm:List UInt8}{x:Val}{y:Fld}{r:List Fld}(h:∀z∈y::r,z.name≠nm):
  setF nm x (y::r)=if Op.bytesLess y.name nm=true then y::setF nm x r else .mk nm x::y::r:=by
 have h1:=z8b h;have h2:=z8b (l:=r) fun z hz=>h z (by simp[hz])
 simp only[setF,h1,h2,posV,Zao,if_false]
 by_cases hl:Op.bytesLess y.name nm=true
 ·rw[if_pos hl,if_pos hl];rfl
 ·rw[if_neg hl,if_neg hl];rfl
theorem j1X{y:Fld}{r:List Fld}(h:srt r)(h2:∀z∈r,Op.bytesLess y.name z.name=true):srt (y::r):=by
 intro i j a b hij ha hb;cases j with
 |zero=>omega
 |succ j=>
  simp only[List.getElem?_cons_succ]at hb;cases i with
  |zero=>simp only[List.getElem?_cons_zero,Zas]at ha;subst ha;exact h2 b (Zaf hb)
  |succ i=>exact h i j a b (by omega) (by simpa using ha) hb
theorem j0J{nm:List UInt8}{x:Val}:∀{l:List Fld},srt l→(∀z∈l,z.name≠nm)→srt (setF nm x l)
 |[],_,_=>by
  intro i j a b hij ha hb;simp[setF,hasV,posV]at ha hb;have:=(Zac.1 ha).1;have:=(Zac.1 hb).1;simp at *;omega
 |y::r,hs,hn=>by
  rw[j1R hn];obtain⟨h1,h2⟩:=j1Y hs;have hn':∀z∈r,z.name≠nm:=fun z hz=>hn z (by simp[hz])
  by_cases hl:Op.bytesLess y.name nm=true
  ·rw[if_pos hl];refine j1X (j0J h1 hn') fun z hz=>?_
   rcases z7n hz with rfl|hz
   ·exact hl
   ·exact h2 z hz
  ·rw[if_neg hl];have hlt:Op.bytesLess nm y.name=true:=by
    have h3:=j1i nm y.name;have h4:Op.bytesLess y.name nm=false:=by simpa using hl
    rw[h4]at h3;simp only[leqB,Zcp,Zcc,decide_eq_true_eq]at h3;exact h3.resolve_right fun e=>hn y (by simp) e.symm
   refine j1X hs fun z hz=>?_
   rcases Zba.1 hz with rfl|hz
   ·exact hlt
   ·exact q7E hlt (h2 z hz)
theorem z4Q{nm:List UInt8}{x:Val}:∀{l:List Fld},(∀z∈l,z.name≠nm)→(ptF (setF nm x l)).1=(ptF l).1+(ptV x).1∧(setF nm x l).length=l.length+1
 |[],_=>by simp[setF,hasV,posV,ptF]
 |y::r,hn=>by
  rw[j1R hn];have ih:=z4Q (nm:=nm) (x:=x) (l:=r) fun z hz=>hn z (by simp[hz])
  split
  ·simp only[q9M,Zae];omega
  ·rw[q9M (.mk nm x)];simp only[Zae,Fld.v];exact⟨by omega,trivial⟩
theorem z6k:∀(a b:List Val),(ptL (a++b)).1=(ptL a).1+(ptL b).1
 |[],b=>by simp[ptL]
 |v::r,b=>by simp only[Zbe,ptL,z6k r b];omega
mutual
theorem Val.z0Q{m m':Nat}(h:m≤m'):∀v:Val,v.sm m=true→v.sm m'=true
 |.mk k n s l f,hv=>by
  simp only[Val.sm,Zah,decide_eq_true_eq]at hv ⊢;exact⟨by omega,by omega,by omega,j1U h l hv.2.2.2.1,j1T h f hv.2.2.2.2⟩
theorem j1U{m m':Nat}(h:m≤m'):∀l:List Val,smL m l=true→smL m' l=true
 |[],_=>rfl
 |v::r,hl=>by
  simp only[smL,Zah]at hl ⊢;exact⟨Val.z0Q h v hl.1,j1U h r hl.2⟩
theorem j1T{m m':Nat}(h:m≤m'):∀l:List Fld,smF m l=true→smF m' l=true
 |[],_=>rfl
 |.mk nm v::r,hl=>by
  simp only[smF,Fld.sm,Zah,decide_eq_true_eq]at hl ⊢;exact⟨⟨by omega,Val.z0Q h v hl.1.2⟩,j1T h r hl.2⟩
end
/-! ### Parts -/
theorem q8h{s:List UInt8}{at_ k:Nat}{b:List UInt8}(ha:at_<s.length)(h:q5W s at_=some (b,k)):at_<k∧k≤s.length∧b.length≤200∧q1C b=true:=by
 unfold q5W at h;have hw:=q0I s (at_+1);split at h
 ·cases h
 ·rename_i b' hb;split at h
  ·rename_i hm;cases h;refine⟨by omega,by omega,?_,hm⟩;simp only[q1C,Zah,decide_eq_true_eq]at hm;exact hm.2.1
  ·cases h
theorem j1d:∀t:List UInt8,q89 t≤t.length
 |[]=>by simp[q89]
 |c::r=>by unfold q89;have:=j1d r;split<;>simp<;>omega
theorem q3N:∀(t:List UInt8) (h:Int) (b:List UInt8),(q1i t h b).2=0∨(q1i t h b).2=4∨(q1i t h b).2=5
 |[],_,_=>by simp[q1i]
 |c::r,h,b=>by
  unfold q1i;split
  ·simp
  ·split
   ·exact q3N r _ _
   ·split
    ·simp
    ·split
     ·exact q3N r _ _
     ·exact q3N r _ _
theorem j2r{s:List UInt8}{at_:Nat}(ha:at_≤s.length):match z9X s at_ with
  |.ok v k=>at_<k∧k≤s.length∧v.sm 300=true∧(ptV v).1=1
  |.bad e=>1≤e∧e≤8:=by
 have hg:=j1d (s.drop at_);rw[Zau]at hg;unfold z9X;have hc:=q3N (s.drop at_) (-1) []
 by_cases h0:(q1i (s.drop at_) (-1) []).2=0
 ·rw[if_pos h0];have hne:s.drop at_≠[]:=fun e=>by rw[e]at h0;simp[q1i]at h0
  have hpos:1≤q89 (s.drop at_):=by
   cases hd:s.drop at_ with
   |nil=>exact absurd hd hne
   |cons c r=>unfold q89;split<;>omega
  split
  ·rename_i v k e;split at e
   ·cases e;rename_i hl;refine⟨by omega,by omega,Val.q1e.2 ⟨by simp only[strV,Val.s];omega,by simp[strV,Val.l],by simp[strV,Val.f],by simp[strV,Val.l],by simp[strV,Val.f]⟩,by simp[strV,ptV,ptL,ptF]⟩
   ·cases e
  ·rename_i e' e;split at e
   ·cases e
   ·cases e;omega
 ·rw[if_neg h0];simp only;omega
theorem q9G:∀(t:List UInt8) (k d:Nat) (b:List UInt8) (p:Nat) {q:List UInt8} {n:Nat},litF k d t b p=some (q,n)→p<n∧n≤p+t.length
 |[],_,_,_,_,_,_,h=>by simp[litF]at h
 |c::r,0,d,b,p,q,n,h=>by
  unfold litF at h;simp only[Zae];split at h
  ·split at h
   ·cases h
   ·have:=q9G r _ _ _ _ h;omega
  ·split at h
   ·split at h
    ·cases h;omega
    ·have:=q9G r _ _ _ _ h;omega
   ·split at h
    ·have:=q9G r _ _ _ _ h;omega
    ·have:=q9G r _ _ _ _ h;omega
 |c::r,k+1,d,b,p,q,n,h=>by
  unfold litF at h;simp only[Zae];have:=q9G r _ _ _ _ h;omega
theorem j5f{b:List UInt8}(h:b.length≤200):(strV b).sm 300=true∧(ptV (strV b)).1=1:=
 ⟨Val.q1e.2 ⟨by simp only[strV,Val.s];omega,by simp[strV,Val.l],by simp[strV,Val.f],by simp[strV,Val.l],by simp[strV,Val.f]⟩,by simp[strV,ptV,ptL,ptF]⟩
theorem j2y{s:List UInt8}{at_:Nat}(ha:at_≤s.length):match j4m s at_ with
  |.ok v k=>at_<k∧k≤s.length∧v.sm 300=true∧(ptV v).1=1
  |.bad e=>1≤e∧e≤8:=by
 unfold j4m;cases h:litF 0 1 (s.drop at_) [] at_ with
 |none=>simp
 |some p=>
  obtain⟨b,k⟩:=p;have:=q9G _ _ _ _ _ h;rw[Zau]at this;simp only
  by_cases hb:b.length≤200
  ·rw[if_pos hb];obtain⟨h1,h2⟩:=j5f hb;exact⟨by omega,by omega,h1,h2⟩
  ·rw[if_neg hb];simp
theorem z6m{s:List UInt8}{at_ n k:Nat}(ha:at_≤s.length)(h:z3e s at_=some (n,k)):at_<k∧k≤s.length∧1≤n∧n≤60:=by
 unfold z3e at h;have hw:=q0I s at_;split at h
 ·cases h
 ·rename_i m hm;have h1:=q0r (s:=s) (k:=at_+(q0p s at_).length) (by omega);simp only at h;split at h
  ·rename_i hq;have hw2:=q0I s (q0l s (at_+(q0p s at_).length));rw[hq]at hw2;simp only[Zae,Zag]at hw2;have h2:=q0r (s:=s) (k:=q0l s (at_+(q0p s at_).length)+1) (by omega);split at h
   ·rename_i hr;have hw3:=q0I s (q0l s (q0l s (at_+(q0p s at_).length)+1));rw[hr]at hw3;simp only[Zae,Zag]at hw3;cases h
    have hb:1≤n∧n≤60:=by
     unfold objF at hm;split at hm
     ·cases hm
     ·rename_i hc;generalize q0p s at_=w at hm hc;cases hd:digF w 0 with
      |none=>rw[hd]at hm;cases hm
      |some z=>
       rw[hd]at hm;simp only at hm;split at hm
       ·rename_i hz;cases hm;refine⟨?_,hz⟩;cases w with
        |nil=>simp at hc
        |cons a r=>
         have ha:a.toNat≠48:=fun e=>hc (.inr (.inr (by simp[e])))
         have mono:∀(t:List UInt8) (x y:Nat),digF t x=some y→x≤y:=fun t=>by
          induction t with
          |nil=>intro x y e;simp only[digF,Zas]at e;omega
          |cons c r ih=>
           intro x y e;unfold digF at e;split at e
           ·cases e
           ·have:=ih _ _ e;omega
         unfold digF at hd;split at hd
         ·cases hd
         ·have:=mono _ _ _ hd;omega
       ·cases hm
    exact⟨by omega,by omega,hb⟩
   ·cases h
  ·cases h
theorem j0p(w:List UInt8):(q6E w).2=0∨(q6E w).2=1∨(q6E w).2=4:=by
 unfold q6E finP;split
 ·simp
 ·split
  ·simp
  ·split<;>simp
theorem j2F:(q6E []).2=4:=rfl
theorem j24{s:List UInt8}{at_:Nat}(ha:at_≤s.length):match j0X s at_ with
  |.ok v k=>at_<k∧k≤s.length∧v.sm 300=true∧(ptV v).1=1
  |.bad e=>1≤e∧e≤8:=by
 have plain:∀(k n:Int),(Val.mk k n [] [] []).sm 300=true∧(ptV (Val.mk k n [] [] [])).1=1:=fun k n=>⟨by simp[Val.sm,smL,smF],by simp[ptV,ptL,ptF]⟩
 have hw:=q0I s at_;unfold j0X
 by_cases h1:q0p s at_=[110,117,108,108]
 ·rw[if_pos h1];rw[h1]at hw;simp only[Zae,Zag]at hw;exact⟨by omega,by omega,plain 0 0⟩
 ·rw[if_neg h1]
  by_cases h2:q0p s at_=[116,114,117,101]
  ·rw[if_pos h2];rw[h2]at hw;simp only[Zae,Zag]at hw;exact⟨by omega,by omega,plain 1 1⟩
  ·rw[if_neg h2]
   by_cases h3:q0p s at_=[102,97,108,115,101]
   ·rw[if_pos h3];rw[h3]at hw;simp only[Zae,Zag]at hw;exact⟨by omega,by omega,plain 1 0⟩
   ·rw[if_neg h3];cases hr:z3e s at_ with
    |some p=>
     obtain⟨n,k⟩:=p;have:=z6m ha hr;exact⟨by omega,by omega,plain 7 n⟩
    |none=>
     simp only;have hc:=j0p (q0p s at_)
     by_cases h4:(q6E (q0p s at_)).2=0
     ·rw[if_pos h4];have hne:(q0p s at_).length≠0:=fun e=>by
       rw[List.length_eq_zero_iff.1 e,j2F]at h4;cases h4
      exact⟨by omega,by omega,plain 2 _⟩
     ·rw[if_neg h4];simp only;omega
/-! ### Values -/
def z6H(s:List UInt8)(at_:Nat):RV→Prop
 |.ok v k=>at_<k∧k≤s.length∧v.sm 300=true∧(ptV v).1+at_≤k
 |.bad e=>1≤e∧e≤8
theorem z56{rd:Nat→RV}{s:List UInt8}(hr:∀k,k≤s.length→z6H s k (rd k)):∀(m:Nat) (acc:List Val) (at_:Nat),acc.length+m=301→at_≤s.length→(∀x∈acc,x.sm 300=true)→
  match q7P rd s m acc at_ with
  |.ok v k=>at_<k∧k≤s.length∧v.sm 300=true∧(ptV v).1+at_≤1+(ptL acc).1+k∧∃l,v=lisV l
  |.bad e=>1≤e∧e≤8
 |0,acc,at_,_,_,_=>by simp[q7P]
 |m+1,acc,at_,hm,ha,hacc=>by
  have hsk:=q0r ha;unfold q7P;cases hc:s[q0l s at_]? with
  |none=>simp
  |some c=>
   have hlt:q0l s at_<s.length:=(Zac.1 hc).1;simp only
   by_cases h93:c.toNat=93
   ·rw[if_pos h93];refine⟨by omega,by omega,Val.q1e.2 ⟨by simp[lisV,Val.s],by simp only[lisV,Val.l];omega,by simp[lisV,Val.f],hacc,by simp[lisV,Val.f]⟩,?_,acc,rfl⟩;simp only[lisV,ptV,ptF];omega
   ·rw[if_neg h93];have hg:=hr (q0l s at_) hsk.2;cases hx:rd (q0l s at_)with
    |bad e=>rw[hx]at hg;exact hg
    |ok x k=>
     rw[hx]at hg;obtain⟨g1,g2,g3,g4⟩:=hg;have ih:=z56 hr m (acc++[x]) k (by simp;omega) g2 (fun y hy=>by
      rcases Zaz.1 hy with h|h
      ·exact hacc y h
      ·simp at h;subst h;exact g3)
     simp only;generalize q7P rd s m (acc++[x]) k=R at *;cases R with
     |bad e=>exact ih
     |ok v q=>
      obtain⟨i1,i2,i3,i4,i5⟩:=ih;rw[z6k]at i4;simp only[ptL]at i4;exact⟨by omega,i2,i3,by omega,i5⟩
theorem z5L{rd:Nat→RV}{s:List UInt8}(hr:∀k,k≤s.length→z6H s k (rd k)):∀(m:Nat) (acc:List Fld) (at_:Nat),acc.length+m=301→at_≤s.length→(∀x∈acc,x.sm 300=true)→
  match q7B rd s m acc at_ with
  |.ok v k=>at_<k∧k≤s.length∧v.sm 300=true∧(ptV v).1+at_≤1+(ptF acc).1+k∧∃l,v=dicV l
  |.bad e=>1≤e∧e≤8
 |0,acc,at_,_,_,_=>by simp[q7B]
 |m+1,acc,at_,hm,ha,hacc=>by
  have hsk:=q0r ha;unfold q7B;cases hc:s[q0l s at_]? with
  |none=>simp
  |some c=>
   have hlt:q0l s at_<s.length:=(Zac.1 hc).1;simp only
   by_cases h62:c.toNat=62∧s[q0l s at_+1]?=some 62
   ·rw[if_pos h62];have:=(Zac.1 h62.2).1;refine⟨by omega,by omega,Val.q1e.2 ⟨by simp[dicV,Val.s],by simp[dicV,Val.l],by simp only[dicV,Val.f];omega,by simp[dicV,Val.l],hacc⟩,?_,acc,rfl⟩;simp only[dicV,ptV,ptL];omega
   ·rw[if_neg h62]
    by_cases h47:c.toNat≠47
    ·rw[if_pos h47];simp
    ·rw[if_neg h47];cases hn:q5W s (q0l s at_)with
     |none=>simp
     |some p=>
      obtain⟨nm,k⟩:=p;obtain⟨n1,n2,n3,_⟩:=q8h hlt hn;have hg:=hr k n2;simp only;cases hx:rd k with
      |bad e=>rw[hx]at hg;exact hg
      |ok x k'=>
       rw[hx]at hg;obtain⟨g1,g2,g3,g4⟩:=hg;simp only
       by_cases hd:(getV nm acc).isSome=true
       ·rw[if_pos hd];simp
       ·rw[if_neg hd];have hno:=z1m (by simpa using hd:(getV nm acc).isSome=false);obtain⟨p1,p2⟩:=z4Q (x:=x) hno;have ih:=z5L hr m (setF nm x acc) k' (by omega) g2 (fun y hy=>by
         rcases z7n hy with rfl|h
         ·exact Fld.q1e.2 ⟨by simp only[Fld.name];omega,g3⟩
         ·exact hacc y h)
        generalize q7B rd s m (setF nm x acc) k'=R at *;cases R with
        |bad e=>exact ih
        |ok v q=>
         obtain⟨i1,i2,i3,i4,i5⟩:=ih;exact⟨by omega,i2,i3,by omega,i5⟩
theorem q4a(s:List UInt8):∀(d at_:Nat),at_≤s.length→z6H s at_ (q57 d s at_)
 |d,at_,ha=>by
  have hsk:=q0r ha;unfold q57;cases hc:s[q0l s at_]? with
  |none=>exact⟨by decide,by decide⟩
  |some c=>
   have hlt:q0l s at_<s.length:=(Zac.1 hc).1;cases d with
   |zero=>exact⟨by decide,by decide⟩
   |succ d=>
    have ih:∀k,k≤s.length→z6H s k (q57 d s k):=fun k hk=>q4a s d k hk
    have one:∀{R:RV} {q:Nat},at_≤q→(match R with
      |.ok v k=>q<k∧k≤s.length∧v.sm 300=true∧(ptV v).1=1
      |.bad e=>1≤e∧e≤8)→z6H s at_ R:=fun{R q} hq h=>by
     cases R with
     |bad e=>exact h
     |ok v k=>obtain⟨h1,h2,h3,h4⟩:=h;exact⟨by omega,h2,h3,by omega⟩
    simp only
    by_cases c47:c.toNat=47
    ·rw[if_pos c47];cases hn:q5W s (q0l s at_)with
     |none=>exact⟨by decide,by decide⟩
     |some p=>
      obtain⟨b,k⟩:=p;obtain⟨n1,n2,n3,_⟩:=q8h hlt hn;exact⟨by omega,n2,Val.q1e.2 ⟨by simp only[namV,Val.s];omega,by simp[namV,Val.l],by simp[namV,Val.f],by simp[namV,Val.l],by simp[namV,Val.f]⟩,by simp only[namV,ptV,ptL,ptF];omega⟩
    ·rw[if_neg c47]
     by_cases c40:c.toNat=40
     ·rw[if_pos c40];exact one (by omega) (j2y (by omega))
     ·rw[if_neg c40]
      by_cases cd:c.toNat=60∧s[q0l s at_+1]?=some 60
      ·rw[if_pos cd];have:=(Zac.1 cd.2).1;have hg:=z5L ih 301 [] (q0l s at_+2) rfl (by omega) (by simp);generalize q7B (q57 d s) s 301 [] (q0l s at_+2)=R at *;cases R with
       |bad e=>exact hg
       |ok v k=>obtain⟨g1,g2,g3,g4,_⟩:=hg;simp only[ptF]at g4;exact⟨by omega,g2,g3,by omega⟩
      ·rw[if_neg cd]
       by_cases c60:c.toNat=60
       ·rw[if_pos c60];exact one (by omega) (j2r (by omega))
       ·rw[if_neg c60]
        by_cases c91:c.toNat=91
        ·rw[if_pos c91];have hg:=z56 ih 301 [] (q0l s at_+1) rfl (by omega) (by simp);generalize q7P (q57 d s) s 301 [] (q0l s at_+1)=R at *;cases R with
         |bad e=>exact hg
         |ok v k=>obtain⟨g1,g2,g3,g4,_⟩:=hg;simp only[ptL]at g4;exact⟨by omega,g2,g3,by omega⟩
        ·rw[if_neg c91]
         by_cases hs:q9w c=true
         ·rw[if_pos hs];exact⟨by decide,by decide⟩
         ·rw[if_neg hs];exact one (by omega) (j24 (by omega))
open Go.Shelf
def z2U:Go.Shelf.Ren:=⟨fun|144=>82|143=>131|219=>171|217=>191|225=>192|224=>193|267=>194|266=>200|314=>201|n=>n,fun|9=>9|4=>4|3=>3|5=>5|46=>127|146=>145|51=>144|n=>n,fun|1=>0|n=>n⟩
theorem z2J:Go.Proofs.LaysM.n144 Tryz.prog z2U where
 mixed:=by kernel_rfl
 f143:=Tryz.func131.trans (congrArg some (by kernel_rfl))
 f144:=Tryz.func82.trans (congrArg some (by kernel_rfl))
 f217:=Tryz.func191.trans (congrArg some (by kernel_rfl))
 f219:=Tryz.func171.trans (congrArg some (by kernel_rfl))
 f224:=Tryz.func193.trans (congrArg some (by kernel_rfl))
 f225:=Tryz.func192.trans (congrArg some (by kernel_rfl))
 f266:=Tryz.func200.trans (congrArg some (by kernel_rfl))
 f267:=Tryz.func194.trans (congrArg some (by kernel_rfl))
 f314:=Tryz.func201.trans (congrArg some (by kernel_rfl))
 t3:=Tryz.underlying3
 a3:=Tryz.isAgg3
 z3:=Tryz.sizeOf3
 v3:=Tryz.zeroValue3
 t4:=Tryz.underlying4
 a4:=Tryz.isAgg4
 z4:=Tryz.sizeOf4
 v4:=Tryz.zeroValue4
 t5:=Tryz.underlying5
 a5:=Tryz.isAgg5
 z5:=Tryz.sizeOf5
 v5:=Tryz.zeroValue5
 t9:=Tryz.underlying9
 a9:=Tryz.isAgg9
 z9:=Tryz.sizeOf9
 v9:=Tryz.zeroValue9
 t46:=Tryz.underlying127
 a46:=Tryz.isAgg127
 z46:=Tryz.sizeOf127
 v46:=Tryz.zeroValue127
 t51:=Tryz.underlying144
 a51:=Tryz.isAgg144
 z51:=Tryz.sizeOf144
 v51:=Tryz.zeroValue144
 t146:=Tryz.underlying145
 a146:=Tryz.isAgg145
 z146:=Tryz.sizeOf145
 v146:=Tryz.zeroValue145
 g1:=by kernel_rfl
 i3:=by kernel_rfl
 i4:=by kernel_rfl
 i5:=by kernel_rfl
 i9:=by kernel_rfl
 i46:=by kernel_rfl
 i51:=by kernel_rfl
 i146:=by kernel_rfl
 m1:=by kernel_rfl
 s1_3:=fun w h=>Go.Proofs.cell_of_shapedOpen_int (zero := #[.int .i64 0]) (t:=3) h (of_decide_eq_true (by kernel_rfl)) (by kernel_rfl) rfl (by kernel_rfl) (by kernel_rfl) Tryz.underlying3
theorem z6y(s sub:List UInt8)(hs:s.length<4294967281):q0i Tryz.prog 82 [.str s,.str sub] (fun r=>r=.one (.bool (Lib.contains s sub))):=by
 intro f w vs hI ht hsz hrd;have hv:vs = #[.string ⟨s.toArray⟩,.string ⟨sub.toArray⟩]:=by
  have h1:=hrd 0 _ rfl;have h2:=hrd 1 _ rfl;match vs,hsz with
  |⟨[v,u]⟩,_=>cases h1;cases h2;rfl
 subst hv;obtain⟨m,hm⟩:=hI.2.1 0 (by kernel_rfl);refine(Any.strings_Contains z2J.ton144 ⟨s.toArray⟩ ⟨sub.toArray⟩ m w (by show s.toArray.size<_;simpa using hs) hm).mono fun e w' ⟨he,hw⟩=>?_
 subst hw;exact⟨_,_,f,rfl,he,.bool _,Zak _,fun b hb=>⟨rfl,rfl⟩,ht,rfl,rfl,rfl⟩
def q3V:q0g:=
 Qr [Qx 2 KF] (Qr [Qc 3 0,Q 4 (.bin .eql (.t 3) (Kb 40)),Qc 5 4,Qd 6 0 5 false,Qg 7 (.bin .eql (.t 6) (Kb 41)) 5 false,Qo 8 5 7,Qc 9 8,Qd 10 0 9 false,Qg 11 (.bin .eql (.t 
 10) (Kb 60)) 9 false,Qo 12 9 11,Qc 13 12,Qd 14 0 13 false,Qg 15 (.bin .eql (.t 14) (Kb 62)) 13 false,Qo 16 13 15,Qc 17 16,Qd 18 0 17 false,Qg 19 (.bin .eql (.t 18) (Kb 
 91)) 17 false,Qo 20 17 19,Qc 21 20,Qd 22 0 21 false,Qg 23 (.bin .eql (.t 22) (Kb 93)) 21 false,Qo 24 21 23,Qc 25 24,Qd 26 0 25 false,Qg 27 (.bin .eql (.t 26) (Kb 123)) 25 
 false,Qo 28 25 27,Qc 29 28,Qd 30 0 29 false,Qg 31 (.bin .eql (.t 30) (Kb 125)) 29 false,Qo 32 29 31,Qc 33 32,Qd 34 0 33 false,Qg 35 (.bin .eql (.t 34) (Kb 47)) 33 false, 
 Qo 36 33 35,Qc 37 36,Qd 38 0 37 false,Qg 39 (.bin .eql (.t 38) (Kb 37)) 37 false,Qo 40 37 39,Qa 2 40] .ret)
def q32:List LRes:=[.tmp 2]
theorem q6z:q0n Tryz.prog 69 41 q3V q32:=⟨_,_,Tryz.func69,rfl,by kernel_rfl,by kernel_rfl,rfl⟩
theorem z2Q(c:UInt8):q0i Tryz.prog 69 [.int .u8 c.toNat] (fun r=>r=.one (.bool (q9w c))):=by
 have e:∀b:Bool,(b=true↔c.toNat=40∨c.toNat=41∨c.toNat=60∨c.toNat=62∨c.toNat=91∨c.toNat=93∨c.toNat=123∨c.toNat=125∨c.toNat=47∨c.toNat=37)→Res.one (.bool b)=.one (.bool (q9w c)):=fun b hb=>by
  congr 2
  rw[Bool.eq_iff_iff,hb];simp only[q9w,z4S,Zba,List.not_mem_nil,or_false,decide_eq_true_eq,←UInt8.toNat_inj];rfl
 refine q6z.call rfl ?_;simp(maxSteps:=2000000)only[go_sem,↓reduceIte,q3V,q32];repeat' (first|apply And.intro|intro _)
 all_goals
  apply e;first
  |(simp only[true_iff];omega)
  |(simp only[Zao,false_iff];omega)
  |(simp only[decide_eq_true_eq];omega)
def z2s:q0g:=
 Qr [Qx 2 KF] (Qr [Qc 3 0,Q 4 (.cvI .i32 (.t 3)),Q 5 (.i2s (.t 4)),⟨some 6,.call 82 [.k (.d (.str [40,41,60,62,91,93,123,125,47,37])),.t 5],none⟩,Qc 7 6,Qd 8 0 7 
 true,Qg 9 (.bin .lss (.t 8) (Kb 128)) 7 true,Qp 10 7 9,Qa 2 10] .ret)
def z2B:List LRes:=[.tmp 2]
theorem z4k:q0n Tryz.prog 61 11 z2s z2B:=⟨_,_,Tryz.func61,rfl,by kernel_rfl,by kernel_rfl,rfl⟩
theorem z9e(c:UInt8):q0i Tryz.prog 61 [.int .u8 c.toNat] (fun r=>r=.one (.bool (q9w c))):=by
 have hc8:=q1Q c;refine z4k.call rfl ?_;simp(maxSteps:=2000000)only[go_sem,↓reduceIte,z2s,z2B];rw[IntWalk.i32_in _ (by omega)]
 by_cases h:c.toNat<128
 ·rw[j2d h];refine q0c.of (z0a _ c) ?_;simp(maxSteps:=2000000)only[go_sem,↓reduceIte];refine⟨fun h1=>?_,fun h1=>?_⟩
  ·have h2:q9w c=true:=by simpa[q9w,z4S]using h1
   have h3:((c.toNat:Int)<128)=True:=eq_true (by omega);simp[h2,h3]
  ·have h2:q9w c=false:=by simpa[q9w,z4S]using h1
   rw[h2]
 ·have h2:q9w c=false:=by
   simp only[q9w,z4S,Zba,List.not_mem_nil,or_false,decide_eq_false_iff_not,←UInt8.toNat_inj];have:(40:UInt8).toNat=40:=rfl;rintro(e|e|e|e|e|e|e|e|e|e)<;>(rw[e]at h;exact h (by decide))
  have h3:((c.toNat:Int)<128)=False:=eq_false (by omega);rw[h2];refine q0c.of (z6y _ _ (by simp)) ?_;simp(maxSteps:=2000000)only[go_sem,↓reduceIte,h3]
theorem z1d(s:List UInt8)(n:Int):(if(s.length:Int)<(if n<0 then 0 else n)then(s.length:Int)else if n<0 then 0 else n)=((q2y s n:Nat):Int):=by
 unfold q2y;split<;>split<;>omega
theorem q78(s:List UInt8)(n:Int):q2y s n≤s.length:=by unfold q2y;omega
theorem q0h{s:List UInt8}{k:Nat}(h:k≤s.length):q2y s k=k:=by unfold q2y;omega
def nlAt(s:List UInt8)(i:Nat):Bool:=decide (s[i]?=some 10) || decide (s[i]?=some 13)
def q5o:q0g:=
 Qr [Qx 4 (Ki 0)] (Qr [Qc 6 1,Q 7 (.mm true (.t 6) (Ki 0)),Qc 8 0,Qz 9 true 8,Q 10 (.mm false (.t 7) (.t 9)),Qa 1 10] (Qr [Qx 5 KF] (.seq (.block 0 (.loop (.seq (Qr [Qc 11 1, 
 Qc 12 0,Qz 13 true 12,Qb 14 .lss 11 13] (.cond (.t 14) .skip (.exit 0))) (.block 1 (.seq (Qr [Qc 15 5] (.cond (.t 15) (Qr [Qc 16 0,Qc 17 1,Q 18 (.idxS (.t 16) (.t 17)),Q 19 
 (.bin .neq (.t 18) (Kb 10)),Qc 20 19,Qd 21 0 20 true,Qd 22 1 20 true,Qg 23 (.idxS (.t 21) (.t 22)) 20 true,Qg 24 (.bin .neq (.t 23) (Kb 13)) 20 true,Qp 25 20 24,Qa 5 25] 
 (.seq (Qr [Qc 26 5] (.cond (.t 26) (.reg [Qc 27 1,Qk 28 .add 27 1,Qa 1 28]) .skip)) (.exit 1))) .skip)) (.seq (Qr [Qc 29 0,Qc 30 1,Q 31 (.idxS (.t 29) (.t 30)),Q 32 (.bin 
 .eql (.t 31) (Kb 37))] (.cond (.t 32) (Qr [Qx 5 KT] (.exit 1)) .skip)) (.seq (Qr [Qc 33 0,Qc 34 1,Q 35 (.idxS (.t 33) (.t 34)),Qj 36 68 [35],Qh 37 36] (.cond (.t 37) (Qr [Qc 
 38 1,Qa 4 38] .ret) .skip)) (.reg [Qc 39 1,Qk 40 .add 39 1,Qa 1 40])))))))) (Qr [Qc 41 1,Qa 4 41] .ret))))
def q5v:List LRes:=[.tmp 4]
theorem q7N:q0n Tryz.prog 48 42 q5o q5v:=⟨_,_,Tryz.func48,rfl,by kernel_rfl,by kernel_rfl,rfl⟩
theorem q1l(s:List UInt8)(n:Int)(hs:s.length≤1000000000):q0i Tryz.prog 48 [.str s,.int .i64 n] (fun r=>r=.one (.int .i64 (q0l s (q2y s n)))):=by
 refine q7N.call rfl ?_;have hk:=q78 s n;have he:=z1d s n;generalize q2y s n=k at *;generalize hR:q0l s k=R;unfold q0l at hR;simp(maxSteps:=2000000)only[go_sem,↓reduceIte,q5o,q5v,he];refine q0f (fun y:Nat×Bool=>⟨[(0,.d (.str s)),(1,.d (.int .i64 y.1)),(5,.d (.bool y.2))],[],[]⟩)
  (fun y=>y.1≤s.length∧q58 y.2 (s.drop y.1) y.1=R) (fun y=>3*(s.length-y.1)+(if y.2=true then(if nlAt s y.1=true then 2 else 0)else 1)) (k,false) ?_ ?_ ?_
 ·refine q0d ?_ trivial;simp(maxSteps:=2000000)only[go_sem,↓reduceIte,Sub,Zaa,Zab,he]
 ·exact⟨hk,hR⟩
 ·rintro⟨i,b⟩ ⟨hi,hF⟩;simp only at hi hF;simp(maxSteps:=2000000)only[go_sem,↓reduceIte];refine⟨fun hlt=>?_,fun hge=>?_⟩
  ·obtain⟨c,hc⟩:=get_some (l:=s) (i:=i) (by omega);have hc8:=q1Q c;rw[q9W hc,q58]at hF;have hnl:nlAt s i=decide (c.toNat=10∨c.toNat=13):=by
    simp only[nlAt,hc,Zas,←UInt8.toNat_inj,Bool.decide_or];rfl
   cases b
   ·rw[if_neg (by decide)]at hF;simp(maxSteps:=2000000)only[go_sem,↓reduceIte,q0a,hc];refine⟨fun h1=>⟨(i,true),?_,⟨hi,?_⟩,?_⟩,fun h1=>?_⟩
    ·refine q0d ?_ trivial;simp(maxSteps:=2000000)only[go_sem,↓reduceIte,Sub,Zaa,Zab]
    ·have h1':c.toNat=37:=by omega
     rw[if_pos h1']at hF;rw[q9W hc,q58,if_pos rfl,h1'];exact hF
    ·have h1':c.toNat=37:=by omega
     simp only[hnl,h1'];have:decide (37=10∨37=13)=false:=rfl;rw[this];simp
    ·rw[if_neg (by omega)]at hF;refine q0c.of (q8o c.toNat) ?_;simp(maxSteps:=2000000)only[go_sem,↓reduceIte];refine⟨fun h2=>?_,fun h2=>?_⟩
     ·rw[if_neg (by simp[h2])]at hF;subst hF;rfl
     ·rw[if_pos h2]at hF;simp(disch:=omega)only[IntWalk.i64_in,IntWalk.u8_in];refine⟨(i+1,false),?_,⟨by simp only;omega,hF⟩,by simp only[Zao,if_false];omega⟩;refine q0d ?_ trivial;simp(maxSteps:=2000000)only[go_sem,↓reduceIte,Sub,Zaa,Zab]
   ·rw[if_pos rfl]at hF;simp(maxSteps:=2000000)only[go_sem,↓reduceIte,q0a,hc];have end_:(c.toNat=10∨c.toNat=13)→q58 false (s.drop i) i=R:=fun h=>by
     rw[q9W hc,q58,if_neg (by decide),if_neg (by omega),if_pos (by rcases h with h|h<;>rw[h]<;>rfl)];rcases h with h|h<;>(rw[h]at hF;exact hF)
    refine⟨fun h1=>⟨fun h2=>?_,fun h2=>?_⟩,fun h1=>?_⟩
    ·simp(disch:=omega)only[IntWalk.i64_in,IntWalk.u8_in];have q:(decide (c.toNat≠10)&&decide (c.toNat≠13))=true:=by simp;omega
     rw[q]at hF;refine⟨(i+1,true),?_,⟨by simp only;omega,hF⟩,?_⟩
     ·have h3:decide ((c.toNat:Int)=13)=false:=by simpa using h2
      refine q0d ?_ trivial;simp(maxSteps:=2000000)only[go_sem,↓reduceIte,Sub,Zaa,Zab,h3]
     ·have q2:nlAt s i=false:=by rw[hnl];simp;omega
      rw[q2];simp only[if_true,Zao,if_false];split<;>omega
    ·have q:=end_ (.inr (by omega));refine⟨(i,false),?_,⟨hi,q⟩,?_⟩
     ·have h3:decide ((c.toNat:Int)=13)=true:=by simpa using h2
      refine q0d ?_ trivial;simp(maxSteps:=2000000)only[go_sem,↓reduceIte,Sub,Zaa,Zab,h3]
     ·have q2:nlAt s i=true:=by rw[hnl];simp;omega
      rw[q2];simp
    ·have q:=end_ (.inl (by omega));refine⟨(i,false),?_,⟨hi,q⟩,?_⟩
     ·have h3:decide ((c.toNat:Int)=10)=true:=by simpa using h1
      refine q0d ?_ trivial;simp(maxSteps:=2000000)only[go_sem,↓reduceIte,Sub,Zaa,Zab,h3]
     ·have q2:nlAt s i=true:=by rw[hnl];simp;omega
      rw[q2];simp
  ·rw[Zai (by omega),q58]at hF;subst hF;simp(maxSteps:=2000000)only[go_sem,↓reduceIte]
def z2q:q0g:=
 Qr [Qx 4 (Ki 0)] (Qr [Qc 5 1,Q 6 (.mm true (.t 5) (Ki 0)),Qc 7 0,Qz 8 true 7,Q 9 (.mm false (.t 6) (.t 8)),Qa 1 9] (.seq (.block 0 (.loop (.seq (Qr [Qc 10 1,Qc 11 0,Qz 12 
 true 11,Qb 13 .lss 10 12] (.cond (.t 13) .skip (.exit 0))) (.block 1 (.block 2 (Qr [Qc 16 0,Qc 17 1,Q 18 (.idxS (.t 16) (.t 17)),Qj 19 60 [18],Qa 15 19] (.cond (.t 15) (.reg 
 [Qc 20 1,Qk 21 .add 20 1,Qa 1 21]) (Qr [Qc 23 0,Qc 24 1,Q 25 (.idxS (.t 23) (.t 24)),Q 26 (.bin .eql (.t 25) (Kb 37)),Qa 22 26] (.cond (.t 22) (.block 3 (.loop (.seq (Qr 
 [Qc 27 1,Qc 28 0,Qz 29 true 28,Qb 30 .lss 27 29,Qc 31 30,Qd 32 0 31 true,Qd 33 1 31 true,Qg 34 (.idxS (.t 32) (.t 33)) 31 true,Qg 35 (.bin .neq (.t 34) (Kb 10)) 31 true, 
 Qp 36 31 35,Qc 37 36,Qd 38 0 37 true,Qd 39 1 37 true,Qg 40 (.idxS (.t 38) (.t 39)) 37 true,Qg 41 (.bin .neq (.t 40) (Kb 13)) 37 true,Qp 42 37 41] (.cond (.t 42) .skip 
 (.exit 3))) (.block 4 (.reg [Qc 43 1,Qk 44 .add 43 1,Qa 1 44]))))) (Qr [Qc 14 1,Qa 4 14] .ret)))))))))) (Qr [Qc 45 1,Qa 4 45] .ret)))
def z2z:List LRes:=[.tmp 4]
theorem z4i:q0n Tryz.prog 38 46 z2q z2z:=⟨_,_,Tryz.func38,rfl,by kernel_rfl,by kernel_rfl,rfl⟩
theorem q1G(s:List UInt8)(n:Int)(hs:s.length≤1000000000):q0i Tryz.prog 38 [.str s,.int .i64 n] (fun r=>r=.one (.int .i64 (q0l s (q2y s n)))):=by
 refine z4i.call rfl ?_;have hk:=q78 s n;have he:=z1d s n;generalize q2y s n=k at *;generalize hR:q0l s k=R;unfold q0l at hR;simp(maxSteps:=2000000)only[go_sem,↓reduceIte,z2q,z2z,he];refine q0f (fun i:Nat=>⟨[(0,.d (.str s)),(1,.d (.int .i64 i))],[],[]⟩)
  (fun i=>i≤s.length∧q58 false (s.drop i) i=R) (fun i=>s.length-i) k ?_ ?_ ?_
 ·refine q0d ?_ trivial;simp(maxSteps:=2000000)only[go_sem,↓reduceIte,Sub,Zaa,Zab,he]
 ·exact⟨hk,hR⟩
 ·rintro i ⟨hi,hF⟩;simp(maxSteps:=2000000)only[go_sem,↓reduceIte];refine⟨fun hlt=>?_,fun hge=>?_⟩
  ·obtain⟨c,hc⟩:=get_some (l:=s) (i:=i) (by omega);have hc8:=q1Q c;rw[q9W hc,q58,if_neg (by decide)]at hF;simp(maxSteps:=2000000)only[go_sem,↓reduceIte,q0a,hc];refine q0c.of (q7A c.toNat) ?_;simp(maxSteps:=2000000)only[go_sem,↓reduceIte];refine⟨fun h2=>?_,fun h2=>?_⟩
   ·rw[if_neg (by intro e;rw[e]at h2;exact absurd h2 (by decide)),if_pos h2]at hF;simp(disch:=omega)only[IntWalk.i64_in,IntWalk.u8_in];refine⟨i+1,?_,⟨by omega,hF⟩,by omega⟩;refine q0d ?_ trivial;simp(maxSteps:=2000000)only[go_sem,↓reduceIte,Sub,Zaa,Zab]
   ·simp(maxSteps:=2000000)only[go_sem,↓reduceIte,q0a,hc];refine⟨fun h3=>?_,fun h3=>?_⟩
    ·rw[if_pos (by omega)]at hF;have c37:c.toNat=37:=by omega
     refine q0f (fun j:Nat=>⟨[(0,.d (.str s)),(1,.d (.int .i64 j))],[],[]⟩)
      (fun j=>i≤j∧j≤s.length∧q58 true (s.drop j) j=R) (fun j=>s.length-j) i ?_ ?_ ?_
     ·refine q0d ?_ trivial;simp(maxSteps:=2000000)only[go_sem,↓reduceIte,Sub,Zaa,Zab]
     ·refine⟨Zak _,hi,?_⟩;rw[q9W hc,q58,if_pos rfl,c37];exact hF
     ·rintro j ⟨hij,hj,hG⟩;simp(maxSteps:=2000000)only[go_sem,↓reduceIte];refine⟨fun hlt2=>?_,fun hge2=>?_⟩
      ·obtain⟨x,hx⟩:=get_some (l:=s) (i:=j) (by omega);have hx8:=q1Q x;rw[q9W hx,q58,if_pos rfl]at hG;simp(maxSteps:=2000000)only[go_sem,↓reduceIte,q0a,hx];have end_:(x.toNat=10∨x.toNat=13)→i<j∧q58 false (s.drop j) j=R:=fun h=>by
        refine⟨?_,?_⟩
        ·rcases Zbi i j with q|q
         ·exact q
         ·have:i=j:=by omega
          subst this;rw[hc]at hx;cases hx;omega
        ·rw[q9W hx,q58,if_neg (by decide),if_neg (by omega),if_pos (by rcases h with h|h<;>rw[h]<;>rfl)];rcases h with h|h<;>(rw[h]at hG;exact hG)
       refine⟨fun g1=>⟨fun g2=>?_,fun g2=>?_⟩,fun g1=>?_⟩
       ·simp(disch:=omega)only[IntWalk.i64_in,IntWalk.u8_in];have q:(decide (x.toNat≠10)&&decide (x.toNat≠13))=true:=by simp;omega
        rw[q]at hG;refine⟨j+1,?_,⟨by omega,by omega,hG⟩,by omega⟩;refine q0d ?_ trivial;simp(maxSteps:=2000000)only[go_sem,↓reduceIte,Sub,Zaa,Zab]
       ·obtain⟨q1,q2⟩:=end_ (.inr (by omega));refine⟨j,?_,⟨hj,q2⟩,by omega⟩;refine q0d ?_ trivial;simp(maxSteps:=2000000)only[go_sem,↓reduceIte,Sub,Zaa,Zab]
       ·obtain⟨q1,q2⟩:=end_ (.inl (by omega));refine⟨j,?_,⟨hj,q2⟩,by omega⟩;refine q0d ?_ trivial;simp(maxSteps:=2000000)only[go_sem,↓reduceIte,Sub,Zaa,Zab]
      ·refine⟨j,?_,⟨hj,?_⟩,by omega⟩
       ·refine q0d ?_ trivial;simp(maxSteps:=2000000)only[go_sem,↓reduceIte,Sub,Zaa,Zab]
       ·rw[Zai (by omega),q58]at hG;rw[Zai (by omega),q58];exact hG
    ·rw[if_neg (by omega),if_neg (by simp[h2])]at hF;subst hF;rfl
  ·rw[Zai (by omega),q58]at hF;subst hF;simp(maxSteps:=2000000)only[go_sem,↓reduceIte]
/-! ### Words -/
theorem q72(c:UInt8)(r:List UInt8):q71 (c::r)=if q4m c.toNat=false∧q9w c=false then c::q71 r else[]:=by
 unfold q71;rw[List.takeWhile_cons]
 by_cases h:q4m c.toNat=false∧q9w c=false
 ·rw[if_pos h,if_pos (by simp[h.1,h.2])]
 ·rw[if_neg h,if_neg (by simpa using h)]
theorem z9A{s:List UInt8}{k i:Nat}{c:UInt8}(hk:k≤i)(hc:s[i]?=some c)(h1:q4m c.toNat=false)(h2:q9w c=false)(h:q71 (s.drop k)=(s.drop k).take (i-k)++q71 (s.drop i)):
  q71 (s.drop k)=(s.drop k).take (i+1-k)++q71 (s.drop (i+1)):=by
 have hl:(s.drop k)[i-k]?=some c:=by rw[Zbx,show k+(i-k)=i by omega];exact hc
 rw[h,q9W hc,q72,if_pos ⟨h1,h2⟩,show i+1-k=(i-k)+1 by omega,Zcu,hl];simp
def q5p:q0g:=
 Qr [Qx 4 (.k (.d (.str [])))] (Qr [Qc 6 1,Q 7 (.mm true (.t 6) (Ki 0)),Qc 8 0,Qz 9 true 8,Q 10 (.mm false (.t 7) (.t 9)),Qa 1 10] (Qr [Qc 11 1,Qa 5 11] (.seq (.block 0 (.loop 
 (.seq (Qr [Qc 12 5,Qc 13 0,Qz 14 true 13,Qb 15 .lss 12 14] (.cond (.t 15) .skip (.exit 0))) (.block 1 (.seq (Qr [Qc 16 0,Qc 17 5,Q 18 (.idxS (.t 16) (.t 17)),Qj 19 68 [18], 
 Qc 20 19,Qd 21 0 20 false,Qd 22 5 20 false,Qg 23 (.idxS (.t 21) (.t 22)) 20 false,⟨some 24,.call 69 [.t 23],some (20,false)⟩,Qo 25 20 24] (.cond (.t 25) (.exit 0) .skip)) 
 (.reg [Qc 26 5,Qk 27 .add 26 1,Qa 5 27])))))) (Qr [Qc 28 0,Qc 29 1,Qc 30 5,Q 31 (.subS (.t 28) (some (.t 29)) (some (.t 30))),Qa 4 31] .ret))))
def q5w:List LRes:=[.tmp 4]
theorem q7O:q0n Tryz.prog 49 32 q5p q5w:=⟨_,_,Tryz.func49,rfl,by kernel_rfl,by kernel_rfl,rfl⟩
theorem q1O(s:List UInt8)(n:Int)(hs:s.length≤1000000000):q0i Tryz.prog 49 [.str s,.int .i64 n] (fun r=>r=.one (.str (q0p s (q2y s n)))):=by
 refine q7O.call rfl ?_;have hk:=q78 s n;have he:=z1d s n;generalize q2y s n=k at *;unfold q0p;simp(maxSteps:=2000000)only[go_sem,↓reduceIte,q5p,q5w,he];refine q0f (fun i:Nat=>⟨[(0,.d (.str s)),(1,.d (.int .i64 k)),(5,.d (.int .i64 i))],[],[]⟩)
  (fun i=>k≤i∧i≤s.length∧q71 (s.drop k)=(s.drop k).take (i-k)++q71 (s.drop i)) (fun i=>s.length-i) k ?_ ?_ ?_
 ·refine q0d ?_ trivial;simp(maxSteps:=2000000)only[go_sem,↓reduceIte,Sub,Zaa,Zab,he]
 ·exact⟨Zak _,hk,by simp⟩
 ·rintro i ⟨hki,hi,hF⟩;have fin:q71 (s.drop i)=[]→(s.drop k).take (i-k)=q71 (s.drop k):=fun h=>by rw[hF,h,Zdi]
  have done:q71 (s.drop i)=[]→(0≤(k:Int)∧(k:Int)≤i∧(i:Int)≤s.length)∧Res.one (D.str (cutI s k i))=Res.one (D.str (q71 (s.drop k))):=fun h=>
   ⟨by omega,by rw[q4n,Zde,fin h]⟩
  simp(maxSteps:=2000000)only[go_sem,↓reduceIte];refine⟨fun hlt=>?_,fun hge=>?_⟩
  ·obtain⟨c,hc⟩:=get_some (l:=s) (i:=i) (by omega);simp(maxSteps:=2000000)only[go_sem,↓reduceIte,q0a,hc];refine q0c.of (q8o c.toNat) ?_;simp(maxSteps:=2000000)only[go_sem,↓reduceIte];refine⟨fun h1=>?_,fun h1=>?_⟩
   ·simp(maxSteps:=2000000)only[go_sem,↓reduceIte,q0a,hc];refine q0c.of (z2Q c) ?_;simp(maxSteps:=2000000)only[go_sem,↓reduceIte];refine⟨fun h2=>?_,fun h2=>?_⟩
    ·exact done (by rw[q9W hc,q72,if_neg (by simp[h2])])
    ·simp(disch:=omega)only[IntWalk.i64_in,IntWalk.u8_in];refine⟨i+1,?_,⟨by omega,by omega,z9A hki hc h1 h2 hF⟩,by omega⟩;refine q0d ?_ trivial;simp(maxSteps:=2000000)only[go_sem,↓reduceIte,Sub,Zaa,Zab]
   ·exact done (by rw[q9W hc,q72,if_neg (by simp[h1])])
  ·exact done (by rw[Zai (by omega)];rfl)
def z2r:q0g:=
 Qr [Qx 4 (.k (.d (.str [])))] (Qr [Qc 6 1,Q 7 (.mm true (.t 6) (Ki 0)),Qc 8 0,Qz 9 true 8,Q 10 (.mm false (.t 7) (.t 9)),Qa 1 10] (Qr [Qc 11 1,Qa 5 11] (.seq (.block 0 (.loop 
 (.seq (Qr [Qc 12 5,Qc 13 0,Qz 14 true 13,Qb 15 .lss 12 14,Qc 16 15,Qd 17 0 16 true,Qd 18 5 16 true,Qg 19 (.idxS (.t 17) (.t 18)) 16 true,⟨some 20,.call 60 [.t 19],some 
 (16,true)⟩,Qg 21 (.not (.t 20)) 16 true,Qp 22 16 21,Qc 23 22,Qd 24 0 23 true,Qd 25 5 23 true,Qg 26 (.idxS (.t 24) (.t 25)) 23 true,⟨some 27,.call 61 [.t 26],some (23, 
 true)⟩,Qg 28 (.not (.t 27)) 23 true,Qp 29 23 28] (.cond (.t 29) .skip (.exit 0))) (.block 1 (.reg [Qc 30 5,Qk 31 .add 30 1,Qa 5 31]))))) (Qr [Qc 32 0,Qc 33 1,Qc 34 5,Q 35 
 (.subS (.t 32) (some (.t 33)) (some (.t 34))),Qa 4 35] .ret))))
def z2A:List LRes:=[.tmp 4]
theorem z4j:q0n Tryz.prog 39 36 z2r z2A:=⟨_,_,Tryz.func39,rfl,by kernel_rfl,by kernel_rfl,rfl⟩
theorem q16(s:List UInt8)(n:Int)(hs:s.length≤1000000000):q0i Tryz.prog 39 [.str s,.int .i64 n] (fun r=>r=.one (.str (q0p s (q2y s n)))):=by
 refine z4j.call rfl ?_;have hk:=q78 s n;have he:=z1d s n;generalize q2y s n=k at *;unfold q0p;simp(maxSteps:=2000000)only[go_sem,↓reduceIte,z2r,z2A,he];refine q0f (fun i:Nat=>⟨[(0,.d (.str s)),(1,.d (.int .i64 k)),(5,.d (.int .i64 i))],[],[]⟩)
  (fun i=>k≤i∧i≤s.length∧q71 (s.drop k)=(s.drop k).take (i-k)++q71 (s.drop i)) (fun i=>s.length-i) k ?_ ?_ ?_
 ·refine q0d ?_ trivial;simp(maxSteps:=2000000)only[go_sem,↓reduceIte,Sub,Zaa,Zab,he]
 ·exact⟨Zak _,hk,by simp⟩
 ·rintro i ⟨hki,hi,hF⟩;have fin:q71 (s.drop i)=[]→(s.drop k).take (i-k)=q71 (s.drop k):=fun h=>by rw[hF,h,Zdi]
  have done:q71 (s.drop i)=[]→(0≤(k:Int)∧(k:Int)≤i∧(i:Int)≤s.length)∧Res.one (D.str (cutI s k i))=Res.one (D.str (q71 (s.drop k))):=fun h=>
   ⟨by omega,by rw[q4n,Zde,fin h]⟩
  simp(maxSteps:=2000000)only[go_sem,↓reduceIte];refine⟨fun hlt=>?_,fun hge=>?_⟩
  ·obtain⟨c,hc⟩:=get_some (l:=s) (i:=i) (by omega);simp(maxSteps:=2000000)only[go_sem,↓reduceIte,q0a,hc];refine q0c.of (q7A c.toNat) ?_;simp(maxSteps:=2000000)only[go_sem,↓reduceIte];refine⟨fun h1=>?_,fun h1=>?_⟩
   ·simp(maxSteps:=2000000)only[go_sem,↓reduceIte,q0a,hc];refine q0c.of (z9e c) ?_;simp(maxSteps:=2000000)only[go_sem,↓reduceIte];refine⟨fun h2=>?_,fun h2=>?_⟩
    ·simp(disch:=omega)only[IntWalk.i64_in,IntWalk.u8_in];refine⟨i+1,?_,⟨by omega,by omega,z9A hki hc h1 h2 hF⟩,by omega⟩;refine q0d ?_ trivial;simp(maxSteps:=2000000)only[go_sem,↓reduceIte,Sub,Zaa,Zab]
    ·exact done (by rw[q9W hc,q72,if_neg (by simp[h2])])
   ·exact done (by rw[q9W hc,q72,if_neg (by simp[h1])])
  ·exact done (by rw[Zai (by omega)];rfl)
theorem z8D{c x y:UInt8}{r b:List UInt8}(h:c.toNat=35):q7S (c::x::y::r) b=if hexI x.toNat<0∨hexI y.toNat<0 then none else q7S r (b++[q46 (16*hexI x.toNat+hexI y.toNat)]):=by
 rw[q7S,if_pos h]
theorem z8C{c:UInt8}{r b:List UInt8}(h:c.toNat=35)(hr:r.length<2):q7S (c::r) b=none:=by
 match r,hr with
 |[],_=>rw[q7S,if_pos h];intro x y q e;cases e
 |[x],_=>rw[q7S,if_pos h];intro x y q e;cases e
theorem z8E{c:UInt8}{r b:List UInt8}(h:c.toNat≠35):q7S (c::r) b=q7S r (b++[c]):=by
 match r with
 |[]=>simp[q7S,h]
 |[x]=>simp[q7S,h]
 |x::y::r=>rw[q7S,if_neg h]
def z0K(o:Option (List UInt8×Nat)):Res:=match o with
 |none=>.tup [.str [],.int .i64 0,.int .i64 4]
 |some (b,k)=>.tup [.str b,.int .i64 k,.int .i64 0]
def q3q:q0g:=
 Qr [Qx 4 (.k (.d (.str []))),Qx 5 (Ki 0),Qx 6 (Ki 0)] (Qr [Qc 14 0,Qc 15 1,Qk 16 .add 15 1,Qj 17 49 [14,16],Qa 7 17] (Qr [Qc 18 1,Qk 19 .add 18 1,Qc 20 7,Qz 21 true 20, 
 Qb 22 .add 19 21,Qa 8 22] (Qr [⟨some 9,.nils 5 1,none⟩] (.seq (Qr [Qx 10 (Ki 0)] (.block 0 (.loop (.seq (Qr [Qc 23 10,Qc 24 7,Qz 25 true 24,Qb 26 .lss 23 25] (.cond (.t 26) 
 .skip (.exit 0))) (.seq (.block 1 (Qr [Qc 29 7,Qc 30 10,Q 31 (.idxS (.t 29) (.t 30)),Q 32 (.bin .eql (.t 31) (Kb 35))] (.cond (.t 32) (.seq (Qr [Qc 33 10,Qk 34 .add 33 2,Qc 
 35 7,Qz 36 true 35,Qb 37 .geq 34 36] (.cond (.t 37) (Qr [Qx 4 (.k (.d (.str []))),Qx 5 (Ki 0),Qx 6 (Ki 4)] .ret) .skip)) (Qr [Qc 38 7,Qc 39 10,Qk 40 .add 39 1,Q 41 (.idxS 
 (.t 38) (.t 40)),Qj 42 140 [41],Qa 11 42] (Qr [Qc 43 7,Qc 44 10,Qk 45 .add 44 2,Q 46 (.idxS (.t 43) (.t 45)),Qj 47 140 [46],Qa 12 47] (.seq (Qr [Qc 48 11,Qk 49 .lss 48 0, 
 Qc 50 49,Qd 51 12 50 false,Qg 52 (.bin .lss (.t 51) (Ki 0)) 50 false,Qo 53 50 52] (.cond (.t 53) (Qr [Qx 4 (.k (.d (.str []))),Qx 5 (Ki 0),Qx 6 (Ki 4)] .ret) .skip)) (Qr [Qc 
 54 9,Qc 55 11,Q 56 (.bin .mul (Ki 16) (.t 55)),Qc 57 12,Qb 58 .add 56 57,Q 59 (.cvI .u8 (.t 58)),⟨some 60,.bsl 5 1 [.t 59],none⟩,⟨some 61,.app 5 1 1 false (.t 54) (.t 
 60),none⟩,Qa 9 61] (.reg [Qc 62 10,Qk 63 .add 62 2,Qa 10 63])))))) (.reg [Qc 64 9,Qc 65 7,Qc 66 10,Q 67 (.idxS (.t 65) (.t 66)),⟨some 68,.bsl 5 1 [.t 67],none⟩,⟨some 
 69,.app 5 1 1 false (.t 64) (.t 68),none⟩,Qa 9 69])))) (.reg [Qc 27 10,Qk 28 .add 27 1,Qa 10 28])))))) (Qr [Qc 70 9,Q 71 (.b2s (.t 70)),Qj 72 141 [71],Qa 13 72] (.seq (Qr 
 [Qc 73 13,Qh 74 73] (.cond (.t 74) (Qr [Qx 4 (.k (.d (.str []))),Qx 5 (Ki 0),Qx 6 (Ki 4)] .ret) .skip)) (Qr [Qc 75 9,Q 76 (.b2s (.t 75)),Qc 77 8,Qa 4 76,Qa 5 77,Qx 6 (Ki 
 0)] .ret)))))))
def q3x:List LRes:=[.tmp 4,.tmp 5,.tmp 6]
theorem q54:q0n Tryz.prog 95 78 q3q q3x:=⟨_,_,Tryz.func95,rfl,by kernel_rfl,by kernel_rfl,rfl⟩
theorem z1y(s:List UInt8)(k:Nat)(hs:s.length≤1000000000)(hk:k<s.length):q0i Tryz.prog 95 [.str s,.int .i64 k] (fun r=>r=z0K (q5W s k)):=by
 refine q54.call rfl ?_;have hw:=q1O s ((k+1:Nat):Int) hs;rw[q0h (by omega)]at hw;have hwl:=q0I s (k+1);generalize hR:q5W s k=R;unfold q5W at hR;generalize q0p s (k+1)=w at *;simp(maxSteps:=2000000)(disch:=omega)only[go_sem,↓reduceIte,q3q,q3x];refine q0c.of hw ?_;simp(maxSteps:=2000000)(disch:=omega)only[go_sem,↓reduceIte]
 refine q0f (fun y:Nat×List UInt8=>⟨[(7,.d (.str w)),(8,.d (.int .i64 ((k:Int)+1+w.length))),(9,.own (.t 9) 5 1 (q0v y.2)),(10,.d (.int .i64 y.1))],[],[]⟩)
  (fun y=>y.1≤w.length∧y.2.length≤y.1∧q7S (w.drop y.1) y.2=q7S w []) (fun y=>w.length-y.1) (0,[]) ?_ ?_ ?_
 ·refine q0d ?_ trivial;simp(maxSteps:=2000000)only[go_sem,↓reduceIte,Sub,Zaa,Zab,q0v]
 ·exact⟨by simp,by simp,by simp⟩
 ·rintro⟨i,b⟩ ⟨hi,hb,hF⟩;simp only at hi hb hF;have hblen:=q0o b;simp(maxSteps:=2000000)only[go_sem,↓reduceIte];refine⟨fun hlt=>?_,fun hge=>?_⟩
  ·obtain⟨c,hc⟩:=get_some (l:=w) (i:=i) (by omega);have hc8:=q1Q c;rw[q0W hc]at hF;have bad:R=none→Res.tup [D.str [],D.int .i64 0,D.int .i64 4]=z0K R:=fun e=>by rw[e];rfl
   simp(maxSteps:=2000000)only[go_sem,↓reduceIte,q0a,hc];refine⟨fun h1=>⟨fun h2=>?_,fun h2=>?_⟩,fun h1=>?_⟩
   ·rw[IntWalk.i64_in _ (by omega)]at h2;rw[z8C (by omega) (by rw[Zau];omega)]at hF;rw[←hF]at hR;exact bad hR.symm
   ·rw[IntWalk.i64_in _ (by omega)]at h2;obtain⟨x,hx⟩:=get_some (l:=w) (i:=i+1) (by omega);obtain⟨y,hy⟩:=get_some (l:=w) (i:=i+2) (by omega);have hx8:=q1Q x;have hy8:=q1Q y;have hxb:=q3F x.toNat;have hyb:=q3F y.toNat;rw[q0W hx,q0W hy,z8D (by omega)]at hF;have g1:getI w ((i:Int)+1)=some x:=by rw[q3z,hx]
    have g2:getI w ((i:Int)+2)=some y:=by rw[show(i:Int)+2=((i+2:Nat):Int) by omega,q0a,hy]
    simp(maxSteps:=2000000)(disch:=omega)only[go_sem,↓reduceIte,g1];refine q0c.of (z1Z x.toNat hx8) ?_;simp(maxSteps:=2000000)(disch:=omega)only[go_sem,↓reduceIte,g2];refine q0c.of (z1Z y.toNat hy8) ?_;simp(maxSteps:=2000000)(disch:=omega)only[go_sem,↓reduceIte];refine⟨fun h3=>⟨fun h4=>?_,fun h4=>?_⟩,fun h3=>?_⟩
    ·rw[if_pos (.inr h4)]at hF;rw[←hF]at hR;exact bad hR.symm
    ·rw[if_neg (by omega)]at hF;have hsn:=q1Z (b:=b) (n:=16*hexI x.toNat+hexI y.toNat) (by omega) (by omega);simp(disch:=omega)only[IntWalk.i64_in,IntWalk.u8_in];refine⟨by omega,(i+3,b++[q46 (16*hexI x.toNat+hexI y.toNat)]),?_,⟨by simp only;omega,by simp only[Zad,Zae,Zag];omega,hF⟩,by simp only;omega⟩;have e3:(((i+3:Nat):Nat):Int)=(i:Int)+2+1:=by omega
     refine q0d ?_ trivial;simp(maxSteps:=2000000)only[go_sem,↓reduceIte,Sub,Zaa,Zab,hsn,e3]
    ·rw[if_pos (.inl h3)]at hF;rw[←hF]at hR;exact bad hR.symm
   ·rw[z8E (by omega)]at hF;simp(disch:=omega)only[IntWalk.i64_in,IntWalk.u8_in];refine⟨by omega,(i+1,b++[c]),?_,⟨by simp only;omega,by simp only[Zad,Zae,Zag];omega,hF⟩,by simp only;omega⟩;refine q0d ?_ trivial;simp(maxSteps:=2000000)only[go_sem,↓reduceIte,Sub,Zaa,Zab,q0j,q0L,q06]
  ·rw[Zai (by omega),q7S]at hF;rw[←hF]at hR;simp(maxSteps:=2000000)only[go_sem,↓reduceIte,q0q];refine q0c.of (q6F b) ?_;simp(maxSteps:=2000000)only[go_sem,↓reduceIte];refine⟨fun h1=>?_,fun h1=>?_⟩
   ·rw[←hR];simp only[h1];rfl
   ·rw[←hR];simp(maxSteps:=2000000)only[go_sem,↓reduceIte,q0q,h1];simp only[z0K,Zaa,Zbz]
def z8x(o:Option (List UInt8×Nat)):Res:=match o with
 |none=>.tup [.str [],.int .i64 0,.int .i64 5]
 |some (b,k)=>.tup [.str b,.int .i64 k,.int .i64 0]
def q3T:q0g:=
 Qr [Qx 4 (.k (.d (.str []))),Qx 5 (Ki 0),Qx 6 (Ki 0)] (Qr [⟨some 7,.nils 5 1,none⟩] (Qr [Qx 8 (Ki 1)] (.seq (.block 0 (.loop (.seq (Qr [Qc 13 1,Qc 14 0,Qz 15 true 14,Qb 16 
 .lss 13 15] (.cond (.t 16) .skip (.exit 0))) (.block 1 (Qr [Qc 17 0,Qc 18 1,Q 19 (.idxS (.t 17) (.t 18)),Qa 9 19] (.seq (Qr [Qc 20 9,Q 21 (.bin .eql (.t 20) (Kb 41))] (.cond 
 (.t 21) (Qr [Qc 22 8,Qk 23 .sub 22 1,Qa 8 23] (Qr [Qc 24 8,Qk 25 .eql 24 0] (.cond (.t 25) (Qr [Qc 26 7,Q 27 (.b2s (.t 26)),Qc 28 1,Qk 29 .add 28 1,Qa 4 27,Qa 5 29,Qx 6 
 (Ki 0)] .ret) .skip))) .skip)) (.seq (Qr [Qc 30 9,Q 31 (.bin .eql (.t 30) (Kb 40))] (.cond (.t 31) (.reg [Qc 32 8,Qk 33 .add 32 1,Qa 8 33]) .skip)) (.seq (Qr [Qc 34 9,Q 35 
 (.bin .neq (.t 34) (Kb 92))] (.cond (.t 35) (Qr [Qc 36 7,Qc 37 9,⟨some 38,.bsl 5 1 [.t 37],none⟩,⟨some 39,.app 5 1 1 false (.t 36) (.t 38),none⟩,Qa 7 39] (Qr [Qc 40 1,Qk 
 41 .add 40 1,Qa 1 41] (.exit 1))) .skip)) (Qr [Qc 42 1,Qk 43 .add 42 1,Qa 1 43] (.seq (Qr [Qc 44 1,Qc 45 0,Qz 46 true 45,Qb 47 .eql 44 46] (.cond (.t 47) (.exit 0) .skip)) 
 (Qr [Qc 48 0,Qc 49 1,Q 50 (.idxS (.t 48) (.t 49)),Qa 10 50] (.seq (.block 2 (Qr [Qc 56 10,Q 57 (.bin .eql (.t 56) (Kb 110)),Qa 55 57] (.cond (.t 55) (.reg [Qc 58 7,⟨some 
 59,.bsl 5 1 [.k (.d (.int .u8 10))],none⟩,⟨some 60,.app 5 1 1 false (.t 58) (.t 59),none⟩,Qa 7 60]) (Qr [Qc 62 10,Q 63 (.bin .eql (.t 62) (Kb 114)),Qa 61 63] (.cond (.t 
 61) (.reg [Qc 64 7,⟨some 65,.bsl 5 1 [.k (.d (.int .u8 13))],none⟩,⟨some 66,.app 5 1 1 false (.t 64) (.t 65),none⟩,Qa 7 66]) (Qr [Qc 68 10,Q 69 (.bin .eql (.t 68) (Kb 
 116)),Qa 67 69] (.cond (.t 67) (.reg [Qc 70 7,⟨some 71,.bsl 5 1 [.k (.d (.int .u8 9))],none⟩,⟨some 72,.app 5 1 1 false (.t 70) (.t 71),none⟩,Qa 7 72]) (Qr [Qc 74 10,Q 75 
 (.bin .eql (.t 74) (Kb 98)),Qa 73 75] (.cond (.t 73) (.reg [Qc 76 7,⟨some 77,.bsl 5 1 [.k (.d (.int .u8 8))],none⟩,⟨some 78,.app 5 1 1 false (.t 76) (.t 77),none⟩,Qa 7 
 78]) (Qr [Qc 80 10,Q 81 (.bin .eql (.t 80) (Kb 102)),Qa 79 81] (.cond (.t 79) (.reg [Qc 82 7,⟨some 83,.bsl 5 1 [.k (.d (.int .u8 12))],none⟩,⟨some 84,.app 5 1 1 false (.t 
 82) (.t 83),none⟩,Qa 7 84]) (Qr [Qc 86 10,Q 87 (.bin .eql (.t 86) (Kb 10)),Qa 85 87] (.cond (.t 85) .skip (Qr [Qc 89 10,Q 90 (.bin .eql (.t 89) (Kb 13)),Qa 88 90] (.cond 
 (.t 88) (Qr [Qc 91 1,Qk 92 .add 91 1,Qc 93 0,Qz 94 true 93,Qb 95 .lss 92 94,Qc 96 95,Qd 97 0 96 true,Qd 98 1 96 true,Qg 99 (.bin .add (.t 98) (Ki 1)) 96 true,Qg 100 
 (.idxS (.t 97) (.t 99)) 96 true,Qg 101 (.bin .eql (.t 100) (Kb 10)) 96 true,Qp 102 96 101] (.cond (.t 102) (.reg [Qc 103 1,Qk 104 .add 103 1,Qa 1 104]) .skip)) (Qr [Qc 106 
 10,Q 107 (.bin .geq (.t 106) (Kb 48)),Qc 108 107,Qd 109 10 108 true,Qg 110 (.bin .leq (.t 109) (Kb 55)) 108 true,Qp 111 108 110,Qa 105 111] (.cond (.t 105) (Qr [Qc 112 10, 
 Q 113 (.bin .sub (.t 112) (Kb 48)),Q 114 (.cvI .i64 (.t 113)),Qa 11 114] (.seq (Qr [Qx 12 (Ki 0)] (.block 3 (.loop (.seq (Qr [Qc 115 12,Qk 116 .lss 115 2,Qc 117 116,Qd 118 1 
 117 true,Qg 119 (.bin .add (.t 118) (Ki 1)) 117 true,Qd 120 0 117 true,Qg 121 (.len true (.t 120)) 117 true,Qg 122 (.bin .lss (.t 119) (.t 121)) 117 true,Qp 123 117 122,Qc 
 124 123,Qd 125 0 124 true,Qd 126 1 124 true,Qg 127 (.bin .add (.t 126) (Ki 1)) 124 true,Qg 128 (.idxS (.t 125) (.t 127)) 124 true,Qg 129 (.bin .geq (.t 128) (Kb 48)) 124 
 true,Qp 130 124 129,Qc 131 130,Qd 132 0 131 true,Qd 133 1 131 true,Qg 134 (.bin .add (.t 133) (Ki 1)) 131 true,Qg 135 (.idxS (.t 132) (.t 134)) 131 true,Qg 136 (.bin .leq 
 (.t 135) (Kb 55)) 131 true,Qp 137 131 136] (.cond (.t 137) .skip (.exit 3))) (.seq (.block 4 (Qr [Qc 140 1,Qk 141 .add 140 1,Qa 1 141] (.reg [Qc 142 11,Q 143 (.bin .mul (Ki 
 8) (.t 142)),Qc 144 0,Qc 145 1,Q 146 (.idxS (.t 144) (.t 145)),Q 147 (.bin .sub (.t 146) (Kb 48)),Q 148 (.cvI .i64 (.t 147)),Qb 149 .add 143 148,Qa 11 149]))) (.reg [Qc 
 138 12,Qk 139 .add 138 1,Qa 12 139])))))) (.reg [Qc 150 7,Qc 151 11,Qk 152 .rem 151 256,Q 153 (.cvI .u8 (.t 152)),⟨some 154,.bsl 5 1 [.t 153],none⟩,⟨some 155,.app 5 1 1 
 false (.t 150) (.t 154),none⟩,Qa 7 155]))) (.reg [Qc 51 7,Qc 52 10,⟨some 53,.bsl 5 1 [.t 52],none⟩,⟨some 54,.app 5 1 1 false (.t 51) (.t 53),none⟩,Qa 7 
 54])))))))))))))))))) (.reg [Qc 156 1,Qk 157 .add 156 1,Qa 1 157]))))))))))))) (Qr [Qx 4 (.k (.d (.str []))),Qx 5 (Ki 0),Qx 6 (Ki 5)] .ret))))
def q30:List LRes:=[.tmp 4,.tmp 5,.tmp 6]
theorem q6x:q0n Tryz.prog 96 158 q3T q30:=⟨_,_,Tryz.func96,rfl,by kernel_rfl,by kernel_rfl,rfl⟩
theorem z8y(s:List UInt8)(k:Nat)(hs:s.length≤1000000000)(hk:k≤s.length):q0i Tryz.prog 96 [.str s,.int .i64 k] (fun r=>r=z8x (litF 0 1 (s.drop k) [] k)):=by
 refine q6x.call rfl ?_;generalize hR:litF 0 1 (s.drop k) [] k=R;simp(maxSteps:=2000000)(disch:=omega)only[go_sem,↓reduceIte,q3T,q30];refine q0f (fun y:Nat×Nat×List UInt8=>⟨[(0,.d (.str s)),(1,.d (.int .i64 y.1)),(7,.own (.t 7) 5 1 (q0v y.2.2)),(8,.d (.int .i64 y.2.1))],[],[]⟩)
  (fun y=>y.1≤s.length∧y.2.2.length≤y.1∧1≤y.2.1∧y.2.1≤y.1+1∧litF 0 y.2.1 (s.drop y.1) y.2.2 y.1=R) (fun y=>s.length-y.1) (k,1,[]) ?_ ?_ ?_
 ·refine q0d ?_ trivial;simp(maxSteps:=2000000)only[go_sem,↓reduceIte,Sub,Zaa,Zab,q0v]
 ·exact⟨hk,by simp,by simp,by simp,hR⟩
 ·rintro⟨i,d,b⟩ ⟨hi,hb,hd1,hd2,hF⟩;simp only at hi hb hd1 hd2 hF;have hblen:=q0o b;have bad:R=none→Res.tup [D.str [],D.int .i64 0,D.int .i64 5]=z8x R:=fun e=>by rw[e];rfl
  simp(maxSteps:=2000000)only[go_sem,↓reduceIte];refine⟨fun hlt=>?_,fun hge=>?_⟩
  ·obtain⟨c,hc⟩:=get_some (l:=s) (i:=i) (by omega);have hc8:=q1Q c;rw[q0W hc,litF]at hF
   by_cases h92:c.toNat=92
   ·rw[if_pos h92]at hF;have z1:((c.toNat:Int)=41)=False:=eq_false (by omega);have z2:((c.toNat:Int)=40)=False:=eq_false (by omega);have z3:((c.toNat:Int)=92)=True:=eq_true (by omega);simp(maxSteps:=2000000)(disch:=omega)only[go_sem,↓reduceIte,q0a,hc,z1,z2,z3];refine⟨fun he=>?_,fun he=>?_⟩
    ·rw[if_pos (Zai (by omega))]at hF;exact bad hF.symm
    ·obtain⟨e,hge⟩:=get_some (l:=s) (i:=i+1) (by omega);have he8:=q1Q e;rw[if_neg (by rw[q0W hge];simp)]at hF;have g1:getI s ((i:Int)+1)=some e:=by rw[q3z,hge]
     have fin:∀o n,escL (s.drop (i+1))=(o,n)→i+1+n≤s.length→litF 0 d (s.drop (i+1+n)) (b++o.toList) (i+1+n)=R:=fun o n he hn=>by
      rw[he]at hF;simp only at hF;rw[z4o n (by rw[Zau];omega),List.drop_drop]at hF;exact hF
     have e2:((i+2:Nat):Int)=(i:Int)+1+1:=by omega
     have e3:((i+3:Nat):Int)=(i:Int)+1+1+1:=by omega
     have e4:((i+4:Nat):Int)=(i:Int)+1+1+1+1:=by omega
     rw[q0W hge]at fin;simp(maxSteps:=2000000)(disch:=omega)only[go_sem,↓reduceIte,g1];refine⟨fun q1=>?_,fun q1=>⟨fun q2=>?_,fun q2=>⟨fun q3=>?_,fun q3=>⟨fun q4=>?_,fun q4=>⟨fun q5=>?_,fun q5=>⟨fun q6=>?_,fun q6=>⟨fun q7=>?_,fun q7=>?_⟩⟩⟩⟩⟩⟩⟩
     ·have z:q0v b++[D.int IntKind.u8 10]=q0v (b++[10]):=by rw[q0j];rfl
      have f:=fin (some 10) 1 (by rw[escL];simp[(by omega:e.toNat=110)]) (by omega);refine⟨by omega,(i+2,d,b++[10]),?_,⟨by simp only;omega,by simp only[Zad,Zae,Zag];omega,hd1,by simp only;omega,f⟩,by simp only;omega⟩;refine q0d ?_ trivial;simp(maxSteps:=2000000)only[go_sem,↓reduceIte,Sub,Zaa,Zab,z,e2]
     ·have z:q0v b++[D.int IntKind.u8 13]=q0v (b++[13]):=by rw[q0j];rfl
      have f:=fin (some 13) 1 (by rw[escL];simp[(by omega:e.toNat=114)]) (by omega);refine⟨by omega,(i+2,d,b++[13]),?_,⟨by simp only;omega,by simp only[Zad,Zae,Zag];omega,hd1,by simp only;omega,f⟩,by simp only;omega⟩;refine q0d ?_ trivial;simp(maxSteps:=2000000)only[go_sem,↓reduceIte,Sub,Zaa,Zab,z,e2]
     ·have z:q0v b++[D.int IntKind.u8 9]=q0v (b++[9]):=by rw[q0j];rfl
      have f:=fin (some 9) 1 (by rw[escL];simp[(by omega:e.toNat=116)]) (by omega);refine⟨by omega,(i+2,d,b++[9]),?_,⟨by simp only;omega,by simp only[Zad,Zae,Zag];omega,hd1,by simp only;omega,f⟩,by simp only;omega⟩;refine q0d ?_ trivial;simp(maxSteps:=2000000)only[go_sem,↓reduceIte,Sub,Zaa,Zab,z,e2]
     ·have z:q0v b++[D.int IntKind.u8 8]=q0v (b++[8]):=by rw[q0j];rfl
      have f:=fin (some 8) 1 (by rw[escL];simp[(by omega:e.toNat=98)]) (by omega);refine⟨by omega,(i+2,d,b++[8]),?_,⟨by simp only;omega,by simp only[Zad,Zae,Zag];omega,hd1,by simp only;omega,f⟩,by simp only;omega⟩;refine q0d ?_ trivial;simp(maxSteps:=2000000)only[go_sem,↓reduceIte,Sub,Zaa,Zab,z,e2]
     ·have z:q0v b++[D.int IntKind.u8 12]=q0v (b++[12]):=by rw[q0j];rfl
      have f:=fin (some 12) 1 (by rw[escL];simp[(by omega:e.toNat=102)]) (by omega);refine⟨by omega,(i+2,d,b++[12]),?_,⟨by simp only;omega,by simp only[Zad,Zae,Zag];omega,hd1,by simp only;omega,f⟩,by simp only;omega⟩;refine q0d ?_ trivial;simp(maxSteps:=2000000)only[go_sem,↓reduceIte,Sub,Zaa,Zab,z,e2]
     ·have f:=fin none 1 (by rw[escL];simp[(by omega:e.toNat=10)]) (by omega);refine⟨(i+2,d,b),?_,⟨by simp only;omega,by simp only;omega,hd1,by simp only;omega,by simpa using f⟩,by simp only;omega⟩;refine q0d ?_ trivial;simp(maxSteps:=2000000)only[go_sem,↓reduceIte,Sub,Zaa,Zab,e2]
     ·have esc:∀n,(if(s.drop (i+1+1)).head?.map UInt8.toNat=some 10 then((none:Option UInt8),2)else(none,1))=(none,n)→i+1+n≤s.length→litF 0 d (s.drop (i+1+n)) b (i+1+n)=R:=fun n hn hl=>by
       have:=fin none n (by rw[escL];simp only[(by omega:e.toNat=13)];exact hn) hl;simpa using this
      refine⟨fun q8=>?_,fun q8=>?_⟩
      ·obtain⟨x,hx⟩:=get_some (l:=s) (i:=i+2) (by omega);have hx8:=q1Q x;have g2:getI s ((i:Int)+1+1)=some x:=by rw[show(i:Int)+1+1=((i+2:Nat):Int) by omega,q0a,hx]
       have hh:(s.drop (i+1+1)).head?=some x:=by rw[q0W hx];rfl
       simp(maxSteps:=2000000)(disch:=omega)only[go_sem,↓reduceIte,g2];refine⟨fun q9=>?_,fun q9=>?_⟩
       ·have f:=esc 2 (by rw[hh];simp;omega) (by omega);refine⟨(i+3,d,b),?_,⟨by simp only;omega,by simp only;omega,hd1,by simp only;omega,f⟩,by simp only;omega⟩;have zz:decide ((x.toNat:Int)=10)=true:=by simpa using q9
        refine q0d ?_ trivial;simp(maxSteps:=2000000)only[go_sem,↓reduceIte,Sub,Zaa,Zab,e3,zz]
       ·have f:=esc 1 (by rw[hh];simp;omega) (by omega);refine⟨(i+2,d,b),?_,⟨by simp only;omega,by simp only;omega,hd1,by simp only;omega,f⟩,by simp only;omega⟩;have zz:decide ((x.toNat:Int)=10)=false:=by simpa using q9
        refine q0d ?_ trivial;simp(maxSteps:=2000000)only[go_sem,↓reduceIte,Sub,Zaa,Zab,e2,zz]
      ·have hh:(s.drop (i+1+1)).head?=none:=by rw[Zai (by omega)];rfl
       have f:=esc 1 (by rw[hh];simp) (by omega);refine⟨(i+2,d,b),?_,⟨by simp only;omega,by simp only;omega,hd1,by simp only;omega,f⟩,by simp only;omega⟩;refine q0d ?_ trivial;simp(maxSteps:=2000000)only[go_sem,↓reduceIte,Sub,Zaa,Zab,e2]
     ·have esc:∀o n,(if octB e=false then(some e,1)else octL e (s.drop (i+1+1)))=(o,n)→i+1+n≤s.length→litF 0 d (s.drop (i+1+n)) (b++o.toList) (i+1+n)=R:=fun o n hn hl=>by
       refine fin o n ?_ hl;rw[escL,if_neg (by omega),if_neg (by omega),if_neg (by omega),if_neg (by omega),if_neg (by omega),if_neg (by omega),if_neg (by omega)];exact hn
      have other:octB e=false→litF 0 d (s.drop (i+2)) (b++[e]) (i+2)=R:=fun h=>esc (some e) 1 (by rw[if_pos h]) (by omega)
      refine⟨fun q8=>⟨fun q9=>?_,fun q9=>?_⟩,fun q8=>?_⟩
      ·have ho:octB e=true:=by simp[octB];omega
       have oct:∀v n,octG 2 (oct1 e) (s.drop (i+2)) 1=(v,n)→i+1+n≤s.length→litF 0 d (s.drop (i+1+n)) (b++[q46 v]) (i+1+n)=R:=fun v n hn hl=>
        esc (some (q46 v)) n (by rw[if_neg (by simp[ho]),octL,hn]) hl
       refine q0f (fun y:Nat×Int=>⟨[(0,.d (.str s)),(1,.d (.int .i64 ((i+1+y.1:Nat):Int))),(7,.own (.t 7) 5 1 (q0v b)),(8,.d (.int .i64 d)),(11,.d (.int .i64 y.2)),(12,.d (.int .i64 y.1))],[],[]⟩)
        (fun y=>y.1≤2∧i+1+y.1<s.length∧0≤y.2∧y.2≤511∧(y.1=0→y.2≤7)∧(y.1=1→y.2≤63)∧octG (2-y.1) y.2 (s.drop (i+2+y.1)) (1+y.1)=octG 2 (oct1 e) (s.drop (i+2)) 1) (fun y=>2-y.1) (0,oct1 e) ?_ ?_ ?_
       ·refine q0d ?_ trivial;simp(maxSteps:=2000000)only[go_sem,↓reduceIte,Sub,Zaa,Zab,oct1,Int.add_zero]
       ·exact⟨by simp,by simp only;omega,by simp only[oct1];omega,by simp only[oct1];omega,by simp only[oct1];omega,by simp,rfl⟩
       ·rintro⟨j,v⟩ ⟨hj,hjl,hv0,hv1,hv2,hv3,hG⟩;simp only at hj hjl hv0 hv1 hv2 hv3 hG;have stop:(∀x q,s.drop (i+2+j)=x::q→octB x=false)→litF 0 d (s.drop (i+2+j)) (b++[q46 v]) (i+2+j)=R:=fun h=>by
         rw[z4v h]at hG;have:=oct v (1+j) hG.symm (by omega);rwa [show i+1+(1+j)=i+2+j by omega]at this
        have hmod:Int.tmod v 256=((v.toNat % 256:Nat):Int):=by rw[←x0e];congr 1;omega
        have hby:q46 (Int.tmod v 256)=q46 v:=by
         apply UInt8.toNat_inj.1;have h1:=z0t (n:=Int.tmod v 256) (by omega);have h2:=z0t (n:=v) hv0;omega
        have hsn:=q1Z (b:=b) (n:=Int.tmod v 256) (by omega) (by omega);rw[hby]at hsn;have ej:((i+1+j:Nat):Int)+1=((i+2+j:Nat):Int):=by omega
        simp(maxSteps:=2000000)(disch:=omega)only[go_sem,↓reduceIte,ej];refine⟨fun c1=>⟨fun c2=>?_,fun c2=>?_⟩,fun c1=>?_⟩
        ·obtain⟨x,hx⟩:=get_some (l:=s) (i:=i+2+j) (by omega);have hx8:=q1Q x;have gx:getI s (((i+1+j:Nat):Int)+1)=some x:=by rw[ej,q0a,hx]
         have stop2:octB x=false→litF 0 d (s.drop (i+2+j)) (b++[q46 v]) (i+2+j)=R:=fun h=>stop fun x' q h'=>by
          rw[q0W hx]at h';cases h';exact h
         simp(maxSteps:=2000000)(disch:=omega)only[go_sem,↓reduceIte,q0a,hx];refine⟨fun c3=>?_,fun c3=>?_⟩
         ·simp(maxSteps:=2000000)(disch:=omega)only[go_sem,↓reduceIte,gx];refine⟨fun c4=>?_,fun c4=>?_⟩
          ·have ox:octB x=true:=by simp[octB];omega
           rw[q0W hx,show 2-j=(2-(j+1))+1 by omega,octG,if_pos ox]at hG;refine⟨(j+1,8*v+oct1 x),?_,⟨by simp only;omega,by simp only;omega,by simp only[oct1];omega,by simp only[oct1];omega,by simp only;omega,by simp only[oct1];omega,?_⟩,by simp only;omega⟩
           ·have zz:decide ((x.toNat:Int)≤55)=true:=by simpa using c4
            have e5:((i+1+(j+1):Nat):Int)=((i+1+j:Nat):Int)+1:=by omega
            refine q0d ?_ trivial;simp(maxSteps:=2000000)only[go_sem,↓reduceIte,Sub,Zaa,Zab,oct1,e5,zz];all_goals((repeat' apply And.intro)<;>(congr 2<;>omega))
           ·simp only;rw[←hG];congr 1
          ·have f:=stop2 (by simp[octB];omega);simp(maxSteps:=2000000)(disch:=omega)only[go_sem,↓reduceIte,hsn];refine⟨by omega,(i+2+j,d,b++[q46 v]),?_,⟨by simp only;omega,by simp only[Zad,Zae,Zag];omega,hd1,by simp only;omega,f⟩,by simp only;omega⟩;refine q0d ?_ trivial;simp(maxSteps:=2000000)only[go_sem,↓reduceIte,Sub,Zaa,Zab];all_goals((repeat' apply And.intro)<;>(congr 2<;>omega))
         ·have f:=stop2 (by simp[octB];omega);simp(maxSteps:=2000000)(disch:=omega)only[go_sem,↓reduceIte,hsn];refine⟨by omega,(i+2+j,d,b++[q46 v]),?_,⟨by simp only;omega,by simp only[Zad,Zae,Zag];omega,hd1,by simp only;omega,f⟩,by simp only;omega⟩;refine q0d ?_ trivial;simp(maxSteps:=2000000)only[go_sem,↓reduceIte,Sub,Zaa,Zab];all_goals((repeat' apply And.intro)<;>(congr 2<;>omega))
        ·have f:=stop (fun x q h=>by rw[Zai (by omega)]at h;cases h);simp(maxSteps:=2000000)(disch:=omega)only[go_sem,↓reduceIte,hsn];refine⟨by omega,(i+2+j,d,b++[q46 v]),?_,⟨by simp only;omega,by simp only[Zad,Zae,Zag];omega,hd1,by simp only;omega,f⟩,by simp only;omega⟩;refine q0d ?_ trivial;simp(maxSteps:=2000000)only[go_sem,↓reduceIte,Sub,Zaa,Zab];all_goals((repeat' apply And.intro)<;>(congr 2<;>omega))
        ·have f:litF 0 d (s.drop (i+2+j)) (b++[q46 v]) (i+2+j)=R:=by
          have hj2:j=2:=by omega
          subst hj2;rw[show 2-2=0 from rfl,octG]at hG;have:=oct v (1+2) hG.symm (by omega);rwa [show i+1+(1+2)=i+2+2 by omega]at this
         simp(maxSteps:=2000000)(disch:=omega)only[go_sem,↓reduceIte,hsn];refine⟨by omega,(i+2+j,d,b++[q46 v]),?_,⟨by simp only;omega,by simp only[Zad,Zae,Zag];omega,hd1,by simp only;omega,f⟩,by simp only;omega⟩;refine q0d ?_ trivial;simp(maxSteps:=2000000)only[go_sem,↓reduceIte,Sub,Zaa,Zab];all_goals((repeat' apply And.intro)<;>(congr 2<;>omega))
      ·have f:=other (by simp[octB];omega);refine⟨by omega,(i+2,d,b++[e]),?_,⟨by simp only;omega,by simp only[Zad,Zae,Zag];omega,hd1,by simp only;omega,f⟩,by simp only;omega⟩;have zz:decide ((e.toNat:Int)≤55)=false:=by simpa using q9
       refine q0d ?_ trivial;simp(maxSteps:=2000000)only[go_sem,↓reduceIte,Sub,Zaa,Zab,q0j,q0L,q06,e2,zz]
      ·have f:=other (by simp[octB];omega);refine⟨by omega,(i+2,d,b++[e]),?_,⟨by simp only;omega,by simp only[Zad,Zae,Zag];omega,hd1,by simp only;omega,f⟩,by simp only;omega⟩;have zz:decide (48≤(e.toNat:Int))=false:=by simpa using q8
       refine q0d ?_ trivial;simp(maxSteps:=2000000)only[go_sem,↓reduceIte,Sub,Zaa,Zab,q0j,q0L,q06,e2,zz]
   ·rw[if_neg h92]at hF;have z3:((c.toNat:Int)=92)=False:=eq_false (by omega);simp(maxSteps:=2000000)(disch:=omega)only[go_sem,↓reduceIte,q0a,hc,z3];refine⟨fun h41=>⟨fun hd0=>?_,fun hd0=>?_⟩,fun h41=>⟨fun h40=>?_,fun h40=>?_⟩⟩
    ·rw[if_pos (by omega),if_pos (by omega)]at hF;subst hF;simp(maxSteps:=2000000)(disch:=omega)only[go_sem,↓reduceIte,q0q];simp only[z8x,Zaa,Zbz]
    ·rw[if_pos (by omega),if_neg (by omega)]at hF;have z2:((c.toNat:Int)=40)=False:=eq_false (by omega);simp(maxSteps:=2000000)(disch:=omega)only[go_sem,↓reduceIte,z2];refine⟨by omega,(i+1,d-1,b++[c]),?_,⟨by simp only;omega,by simp only[Zad,Zae,Zag];omega,by simp only;omega,by simp only;omega,hF⟩,by simp only;omega⟩;refine q0d ?_ trivial;simp(maxSteps:=2000000)only[go_sem,↓reduceIte,Sub,Zaa,Zab,q0j,q0L,q06]
     all_goals((repeat' apply And.intro)<;>(congr 2<;>omega))
    ·rw[if_neg (by omega),if_pos (by omega)]at hF;refine⟨by omega,(i+1,d+1,b++[c]),?_,⟨by simp only;omega,by simp only[Zad,Zae,Zag];omega,by simp only;omega,by simp only;omega,hF⟩,by simp only;omega⟩;refine q0d ?_ trivial;simp(maxSteps:=2000000)only[go_sem,↓reduceIte,Sub,Zaa,Zab,q0j,q0L,q06];all_goals((repeat' apply And.intro)<;>(congr 2<;>omega))
    ·rw[if_neg (by omega),if_neg (by omega)]at hF;refine⟨by omega,(i+1,d,b++[c]),?_,⟨by simp only;omega,by simp only[Zad,Zae,Zag];omega,by simp only;omega,by simp only;omega,hF⟩,by simp only;omega⟩;refine q0d ?_ trivial;simp(maxSteps:=2000000)only[go_sem,↓reduceIte,Sub,Zaa,Zab,q0j,q0L,q06];all_goals((repeat' apply And.intro)<;>(congr 2<;>omega))
  ·rw[Zai (by omega),litF]at hF;exact bad hF.symm
def z83(o:Option (Nat×Nat)):Res:=match o with
 |none=>.tup [.int .i64 0,.int .i64 0]
 |some (n,k)=>.tup [.int .i64 n,.int .i64 k]
def q3U:q0g:=
 Qr [Qx 6 (Ki 0),Qx 7 (Ki 0)] (Qr [Qx 8 (Ki 0)] (.seq (Qr [Qc 11 1,Qz 12 true 11,Qk 13 .lss 12 1,Qc 14 13,Qd 15 1 14 false,Qg 16 (.len true (.t 15)) 14 false,Qg 17 (.bin .gtr 
 (.t 16) (Ki 2)) 14 false,Qo 18 14 17,Qc 19 18,Qd 20 1 19 false,Qg 21 (.idxS (.t 20) (Ki 0)) 19 false,Qg 22 (.bin .eql (.t 21) (Kb 48)) 19 false,Qo 23 19 22] (.cond (.t 23) 
 (Qr [Qx 6 (Ki 0),Qx 7 (Ki 0)] .ret) .skip)) (.seq (Qr [Qx 9 (Ki 0)] (.block 0 (.loop (.seq (Qr [Qc 24 9,Qc 25 1,Qz 26 true 25,Qb 27 .lss 24 26] (.cond (.t 27) .skip (.exit 
 0))) (.seq (.block 1 (.seq (Qr [Qc 30 1,Qc 31 9,Q 32 (.idxS (.t 30) (.t 31)),Q 33 (.bin .lss (.t 32) (Kb 48)),Qc 34 33,Qd 35 1 34 false,Qd 36 9 34 false,Qg 37 (.idxS (.t 
 35) (.t 36)) 34 false,Qg 38 (.bin .gtr (.t 37) (Kb 57)) 34 false,Qo 39 34 38] (.cond (.t 39) (Qr [Qx 6 (Ki 0),Qx 7 (Ki 0)] .ret) .skip)) (.reg [Qc 40 8,Q 41 (.bin .mul (Ki 
 10) (.t 40)),Qc 42 1,Qc 43 9,Q 44 (.idxS (.t 42) (.t 43)),Q 45 (.bin .sub (.t 44) (Kb 48)),Q 46 (.cvI .i64 (.t 45)),Qb 47 .add 41 46,Qa 8 47]))) (.reg [Qc 28 9,Qk 29 .add 
 28 1,Qa 9 29])))))) (Qr [Qc 48 0,Qc 49 2,Qj 50 48 [48,49],Qa 10 50] (.seq (Qr [Qc 51 8,Qk 52 .gtr 51 60,Qc 53 52,Qd 54 0 53 false,Qd 55 10 53 false,⟨some 56,.call 49 
 [.t 54,.t 55],some (53,false)⟩,Qg 57 (.bin .neq (.t 56) (.k (.d (.str [48])))) 53 false,Qo 58 53 57] (.cond (.t 58) (Qr [Qx 6 (Ki 0),Qx 7 (Ki 0)] .ret) .skip)) (Qr [Qc 59 
 0,Qc 60 10,Qk 61 .add 60 1,Qj 62 48 [59,61],Qa 10 62] (.seq (Qr [Qc 63 0,Qc 64 10,Qj 65 49 [63,64],Q 66 (.bin .neq (.t 65) (.k (.d (.str [82]))))] (.cond (.t 66) (Qr [Qx 
 6 (Ki 0),Qx 7 (Ki 0)] .ret) .skip)) (Qr [Qc 67 8,Qc 68 10,Qk 69 .add 68 1,Qa 6 67,Qa 7 69] .ret))))))))
def q31:List LRes:=[.tmp 6,.tmp 7]
theorem q6y:q0n Tryz.prog 100 70 q3U q31:=⟨_,_,Tryz.func100,rfl,by kernel_rfl,by kernel_rfl,rfl⟩
theorem z82(s:List UInt8)(k:Nat)(hs:s.length≤1000000000)(hk:k≤s.length):q0i Tryz.prog 100 [.str s,.str (q0p s k),.int .i64 ((k+(q0p s k).length:Nat):Int)] (fun r=>r=z83 (z3e s k)):=by
 refine q6y.call rfl ?_;have hwl:=q0I s k;generalize hR:z3e s k=R;unfold z3e at hR;generalize q0p s k=w at *;have bad:R=none→Res.tup [D.int .i64 0,D.int .i64 0]=z83 R:=fun e=>by rw[e];rfl
 simp(maxSteps:=2000000)(disch:=omega)only[go_sem,↓reduceIte,q3U,q31];have none_:objF w=none→R=none:=fun e=>by rw[e]at hR;exact hR.symm
 refine⟨fun h1=>⟨fun h2=>?_,fun h2=>bad (none_ (by rw[objF,if_pos (by omega)]))⟩,fun h1=>bad (none_ (by rw[objF,if_pos (by omega)]))⟩;obtain⟨c0,hc0⟩:=get_some (l:=w) (i:=0) (by omega);have g0:getI w 0=some c0:=by rw[←hc0];exact q0a w 0
 have hd0:w.head?=some c0:=by rw[←hc0];cases w<;>rfl
 simp(maxSteps:=2000000)only[go_sem,↓reduceIte,g0];refine⟨fun h3=>bad (none_ (by rw[objF,if_pos (.inr (.inr (by rw[hd0];simp;omega)))])),fun h3=>?_⟩;have ho:objF w=match digF w 0 with
  |none=>none
  |some n=>if n≤60 then some n else none:=by rw[objF,if_neg (by rw[hd0];simp only[Zax,Zas];omega)];rfl
 refine q0f (fun y:Nat×Nat=>⟨[(0,.d (.str s)),(1,.d (.str w)),(2,.d (.int .i64 ((k+w.length:Nat):Int))),(8,.d (.int .i64 y.2)),(9,.d (.int .i64 y.1))],[],[]⟩)
  (fun y=>y.1≤w.length∧(y.1=0→y.2=0)∧(y.1=1→y.2≤9)∧y.2≤99∧digF (w.drop y.1) y.2=digF w 0) (fun y=>w.length-y.1) (0,0) ?_ ?_ ?_
 ·refine q0d ?_ trivial;simp(maxSteps:=2000000)only[go_sem,↓reduceIte,Sub,Zaa,Zab]
 ·exact⟨by simp,by simp,by simp,by simp,rfl⟩
 ·rintro⟨i,n⟩ ⟨hi,hn0,hn1,hn2,hF⟩;simp only at hi hn0 hn1 hn2 hF;simp(maxSteps:=2000000)only[go_sem,↓reduceIte];refine⟨fun hlt=>?_,fun hge=>?_⟩
  ·obtain⟨c,hc⟩:=get_some (l:=w) (i:=i) (by omega);have hc8:=q1Q c;rw[q0W hc,digF]at hF;have nodig:(c.toNat<48∨57<c.toNat)→R=none:=fun h=>by
    rw[if_pos h]at hF;exact none_ (by rw[ho,←hF])
   simp(maxSteps:=2000000)only[go_sem,↓reduceIte,q0a,hc];refine⟨fun h4=>?_,fun h4=>bad (nodig (by omega))⟩;refine⟨fun h5=>bad (nodig (by omega)),fun h5=>?_⟩;simp(maxSteps:=2000000)(disch:=omega)only[go_sem,↓reduceIte,q0a,hc];rw[if_neg (by omega)]at hF;refine⟨(i+1,10*n+(c.toNat-48)),?_,⟨by simp only;omega,by simp only;omega,by simp only;omega,by simp only;omega,hF⟩,by simp only;omega⟩;have zz:decide (57<(c.toNat:Int))=false:=by simpa using h5
   refine q0d ?_ trivial;simp(maxSteps:=2000000)only[go_sem,↓reduceIte,Sub,Zaa,Zab,zz];all_goals((repeat' apply And.intro)<;>(congr 2<;>omega))
  ·rw[Zai (by omega),digF]at hF;have hw1:=q1l s ((k+w.length:Nat):Int) hs;rw[q0h (by omega)]at hw1;refine q0c.of hw1 ?_;have hi1:=q0r (s:=s) (k:=k+w.length) (by omega);generalize q0l s (k+w.length)=q at *;simp(maxSteps:=2000000)only[go_sem,↓reduceIte];refine⟨fun h4=>?_,fun h4=>bad (none_ (by rw[ho,←hF];simp only;rw[if_neg (by omega)]))⟩;have hob:objF w=some n:=by rw[ho,←hF];simp only;rw[if_pos (by omega)]
   rw[hob]at hR;simp only at hR;have hw2:=q1O s ((q:Nat):Int) hs;rw[q0h (by omega)]at hw2;refine q0c.of hw2 ?_;simp(maxSteps:=2000000)only[go_sem,↓reduceIte];refine⟨fun h5=>bad (by rw[←hR,if_neg h5]),fun h5=>?_⟩;rw[if_pos h5]at hR;have hql:q<s.length:=by
    rcases Zbi q s.length with h|h
    ·exact h
    ·unfold q0p at h5;rw[Zai h]at h5;cases h5
   have hw3:=q1l s ((q:Int)+1) hs;rw[show(q:Int)+1=((q+1:Nat):Int) by omega,q0h (by omega)]at hw3;have hj1:=q0r (s:=s) (k:=q+1) (by omega);generalize q0l s (q+1)=j at *;rw[IntWalk.i64_in _ (by omega)];refine q0c.of hw3 ?_;have hw4:=q1O s ((j:Nat):Int) hs;rw[q0h (by omega)]at hw4;simp(maxSteps:=2000000)only[go_sem,↓reduceIte];refine q0c.of hw4 ?_;simp(maxSteps:=2000000)only[go_sem,↓reduceIte];refine⟨fun h6=>bad (by rw[←hR,if_neg h6]),fun h6=>?_⟩;rw[if_pos h6]at hR
   simp(disch:=omega)only[IntWalk.i64_in,IntWalk.u8_in];rw[←hR];simp only[z83,Zaa,Zbz]
def q5O:RV→Res→Prop
 |.ok v k,r=>r=.tup [v.d,.int .i64 k,.int .i64 0]
 |.bad e,r=>∃(v:Val) (n:Int),r=.tup [v.d,.int .i64 n,.int .i64 e]
theorem q6G{e:Nat}(v:Val)(n:Int){R:RV}(h:R=.bad e):q5O R (.tup [v.d,.int .i64 n,.int .i64 e]):=by subst h;exact⟨v,n,rfl⟩
theorem z3r{v:Val}{k:Nat}{R:RV}(h:R=.ok v k):q5O R (.tup [v.d,.int .i64 k,.int .i64 0]):=by subst h;rfl
def lrow(r:Ref)(off:Nat):List Val→AV
 |[]=>.ns
 |x::l=>.own (.c r off) 25 5 (q0m (x::l))
theorem z6b(r:Ref)(off:Nat)(l:List Val):(lrow r off l=.ns∧l=[])∨lrow r off l=.own (.c r off) 25 5 (q0m l):=by
 cases l with
 |nil=>exact .inl ⟨rfl,rfl⟩
 |cons x l=>exact .inr rfl
theorem z1t(r:Ref)(off:Nat)(l:List Val)(x:Val):lrow r off (l++[x])=.own (.c r off) 25 5 (q0m l++[x.d]):=by
 cases l with
 |nil=>rfl
 |cons y l=>simp[lrow,q0m,q5H]
def q3p:q0g:=
 Qr [Qv 6,Qx 7 (Ki 0),Qx 8 (Ki 0)] (Qr [Q 13 (.bld [(0,1),(1,1),(2,1),(3,1),(4,1)] [.int .i64 0,.int .i64 0,.str [],.list [],.list []] [false,false,false,true, 
 true] [(0,.k (.d (.int .i64 5)))]),Qv 9,Qs 5 9 13] (.block 0 (.loop (.block 1 (Qr [Qc 14 0,Qc 15 1,Qj 16 48 [14,15],Qa 1 16] (.seq (Qr [Qc 17 1,Qc 18 0,Qz 19 true 18,Qb 
 20 .eql 17 19] (.cond (.t 20) (Qr [Qm 21 5 9,Qs 5 6 21,Qx 7 (Ki 0),Qx 8 (Ki 5)] .ret) .skip)) (.seq (Qr [Qc 22 0,Qc 23 1,Q 24 (.idxS (.t 22) (.t 23)),Q 25 (.bin .eql (.t 
 24) (Kb 93))] (.cond (.t 25) (Qr [Qm 26 5 9,Qc 27 1,Qk 28 .add 27 1,Qs 5 6 26,Qa 7 28,Qx 8 (Ki 0)] .ret) .skip)) (Qr [Qc 30 0,Qc 31 1,Qc 32 2,Qk 33 .add 32 1,Qj 34 70 
 [30,31,33],Qc 29 34,Qe 35 0 29,Qe 36 1 29,Qe 37 2 29,Qv 10,Qs 5 10 35,Qa 11 36,Qa 12 37] (.seq (Qr [Qc 38 12,Qk 39 .gtr 38 0] (.cond (.t 39) (Qr [Qm 40 5 9,Qc 41 12, 
 Qs 5 6 40,Qx 7 (Ki 0),Qa 8 41] .ret) .skip)) (Qr [Qf 42 3 9,Ql 43 42,Qm 44 5 10,⟨some 45,.bsl 25 5 [.t 44],none⟩,⟨some 46,.app 25 5 80 false (.t 43) (.t 45),none⟩,Qf 
 47 3 9,Qs 1 47 46] (.seq (Qr [Qf 48 3 9,Ql 49 48,Qz 50 false 49,Qk 51 .gtr 50 300] (.cond (.t 51) (Qr [Qm 52 5 9,Qs 5 6 52,Qx 7 (Ki 0),Qx 8 (Ki 2)] .ret) .skip)) (.reg [Qc 
 53 11,Qa 1 53]))))))))))))
def q3w:List LRes:=[.cell 6 true 5,.tmp 7,.tmp 8]
theorem q53:q0n Tryz.prog 99 54 q3p q3w:=⟨_,_,Tryz.func99,rfl,by kernel_rfl,by kernel_rfl,rfl⟩
theorem j0x(s:List UInt8)(hs:s.length≤60000)(rd:Nat→RV)(deep:Int)(hd:0≤deep∧deep≤8)(hg:∀k,k≤s.length→z6H s k (rd k))
  (ih:∀k,k≤s.length→q0i Tryz.prog 70 [.str s,.int .i64 k,.int .i64 (deep+1)] (q5O (rd k))) (k:Nat) (hk:k≤s.length):
  q0i Tryz.prog 99 [.str s,.int .i64 k,.int .i64 deep] (q5O (q7P rd s 301 [] k)):=by
 refine q53.call rfl ?_;generalize hR:q7P rd s 301 [] k=R;simp(maxSteps:=2000000)(disch:=omega)only[go_sem,↓reduceIte,q3p,q3w];refine q0f (fun y:Nat×List Val=>⟨[(0,.d (.str s)),(1,.d (.int .i64 y.1)),(2,.d (.int .i64 deep)),(6,.ptr (.l 6) 0),(9,.ptr (.l 9) 0)],
   [(6,.cells [.d (.int .i64 0),.d (.int .i64 0),.d (.str []),.ns,.ns]),(9,.cells [.d (.int .i64 5),.d (.int .i64 0),.d (.str []),lrow (.l 9) 3 y.2,.ns])],[]⟩)
  (fun y=>y.1≤s.length∧y.2.length≤300∧q7P rd s (301-y.2.length) y.2 y.1=R) (fun y=>s.length-y.1) (k,[]) ?_ ?_ ?_
 ·refine Weak.mk ?_ ?_ ?_<;>simp(maxSteps:=2000000)only[go_sem,↓reduceIte,Sub,Zaa,Zab,lrow]
 ·exact⟨hk,by simp,hR⟩
 ·rintro⟨i,acc⟩ ⟨hi,ha,hF⟩;simp only at hi ha hF;obtain⟨m,hm⟩:∃m,301-acc.length=m+1:=⟨300-acc.length,by omega⟩;rw[hm,q7P]at hF;have hsk:=q0r hi;have hw:=q1l s ((i:Nat):Int) (by omega);rw[q0h hi]at hw;generalize q0l s i=q at *;have hal:=q0H acc;simp(maxSteps:=2000000)only[go_sem,↓reduceIte];refine q0c.of hw ?_
  have lis:q5O R (.tup [D.agg [.int .i64 5,.int .i64 0,.str [],.list (q0m acc),.list []],.int .i64 (q+1:Nat),.int .i64 0])↔q5O R (.tup [(lisV acc).d,.int .i64 (q+1:Nat),.int .i64 0]):=by
   rw[Val.d_eq];rfl
  have bad:∀(e:Nat),R=.bad e→q5O R (.tup [D.agg [.int .i64 5,.int .i64 0,.str [],.list (q0m acc),.list []],.int .i64 0,.int .i64 e]):=fun e he=>by
   have:=q6G (lisV acc) 0 he;rwa [Val.d_eq]at this
  rcases z6b (.l 9) 3 acc with⟨hl,hnil⟩|hl
  ·rw[hl];have hvn:q0m acc=[]:=by rw[hnil];rfl
   rw[hvn]at bad lis;simp(maxSteps:=2000000)only[go_sem,↓reduceIte];refine⟨fun h1=>?_,fun h1=>?_⟩
   ·rw[Zbm (by omega)]at hF;exact bad 5 hF.symm
   ·obtain⟨c,hc⟩:=get_some (l:=s) (i:=q) (by omega);have hc8:=q1Q c;rw[hc]at hF;simp only at hF;simp(maxSteps:=2000000)only[go_sem,↓reduceIte,q0a,hc];refine⟨fun h2=>?_,fun h2=>?_⟩
    ·rw[if_pos (by omega)]at hF;simp(maxSteps:=2000000)(disch:=omega)only[go_sem,↓reduceIte];have:=lis.2 (z3r hF.symm);simpa using this
    ·rw[if_neg (by omega)]at hF;have hgq:=hg q hsk.2;simp(disch:=omega)only[IntWalk.i64_in,IntWalk.u8_in];refine q0c.post (ih q hsk.2) (fun r hr=>?_);cases hx:rd q with
     |bad e=>
      rw[hx]at hF hr hgq;obtain⟨v,n,rfl⟩:=hr;rw[Val.d_eq v];simp(maxSteps:=2000000)only[go_sem,↓reduceIte];refine⟨fun h3=>bad e hF.symm,fun h3=>?_⟩;obtain⟨g1,_⟩:=hgq;omega
     |ok x k'=>
      rw[hx]at hF hr hgq;simp only[q5O]at hr;subst hr;obtain⟨g1,g2,g3,g4⟩:=hgq;rw[Val.d_eq x];simp(maxSteps:=2000000)only[go_sem,↓reduceIte];simp only at hF;have hm0:m=301-(acc++[x]).length:=by simp;omega
      rw[hm0]at hF;refine⟨(k',acc++[x]),?_,⟨g2,by rw[hnil];simp,hF⟩,by simp only;omega⟩;have hrow:lrow (.l 9) 3 (acc++[x])=.own (.c (.l 9) 3) 25 5 [D.agg [.int .i64 x.kind,.int .i64 x.n,.str x.s,.list (q0m x.l),.list (q0k x.f)]]:=by rw[z1t,hvn,Val.d_eq];rfl
      refine Weak.mk ?_ ?_ ?_<;>simp(maxSteps:=2000000)only[go_sem,↓reduceIte,Sub,Zaa,Zab,hrow]
  ·rw[hl];simp(maxSteps:=2000000)only[go_sem,↓reduceIte];refine⟨fun h1=>?_,fun h1=>?_⟩
   ·rw[Zbm (by omega)]at hF;exact bad 5 hF.symm
   ·obtain⟨c,hc⟩:=get_some (l:=s) (i:=q) (by omega);have hc8:=q1Q c;rw[hc]at hF;simp only at hF;simp(maxSteps:=2000000)only[go_sem,↓reduceIte,q0a,hc];refine⟨fun h2=>?_,fun h2=>?_⟩
    ·rw[if_pos (by omega)]at hF;simp(maxSteps:=2000000)(disch:=omega)only[go_sem,↓reduceIte];have:=lis.2 (z3r hF.symm);simpa using this
    ·rw[if_neg (by omega)]at hF;have hgq:=hg q hsk.2;simp(disch:=omega)only[IntWalk.i64_in,IntWalk.u8_in];refine q0c.post (ih q hsk.2) (fun r hr=>?_);cases hx:rd q with
     |bad e=>
      rw[hx]at hF hr hgq;obtain⟨v,n,rfl⟩:=hr;rw[Val.d_eq v];simp(maxSteps:=2000000)only[go_sem,↓reduceIte];refine⟨fun h3=>bad e hF.symm,fun h3=>?_⟩;obtain⟨g1,_⟩:=hgq;omega
     |ok x k'=>
      rw[hx]at hF hr hgq;simp only[q5O]at hr;subst hr;obtain⟨g1,g2,g3,g4⟩:=hgq;rw[Val.d_eq x];simp(maxSteps:=2000000)only[go_sem,↓reduceIte];simp only at hF;have hrow:lrow (.l 9) 3 (acc++[x])=.own (.c (.l 9) 3) 25 5 (q0m acc++[D.agg [.int .i64 x.kind,.int .i64 x.n,.str x.s,.list (q0m x.l),.list (q0k x.f)]]):=by rw[z1t,Val.d_eq]
      have hsn:q0m acc++[D.agg [.int .i64 x.kind,.int .i64 x.n,.str x.s,.list (q0m x.l),.list (q0k x.f)]]=q0m (acc++[x]):=by rw[q5H];simp[q0m,Val.d_eq]
      have hsl:=q0H (acc++[x]);simp only[Zad,Zae,Zag]at hsl;rw[hsn];refine⟨by omega,fun h3=>?_,fun h3=>?_⟩
      ·have hm0:m=0:=by omega
       rw[hm0,q7P]at hF;have:=q6G (lisV (acc++[x])) 0 hF.symm;rwa [Val.d_eq]at this
      ·have hm0:m=301-(acc++[x]).length:=by simp;omega
       rw[hm0]at hF;refine⟨(k',acc++[x]),?_,⟨g2,by simp;omega,hF⟩,by simp only;omega⟩;rw[hsn]at hrow;refine Weak.mk ?_ ?_ ?_<;>simp(maxSteps:=2000000)only[go_sem,↓reduceIte,Sub,Zaa,Zab,hrow]
def dobj:List Fld→AObj
 |[]=>.cells [.d (.int .i64 6),.d (.int .i64 0),.d (.str []),.ns,.ns]
 |x::l=>.cells [.d (.int .i64 6),.d (.int .i64 0),.d (.str []),.d (.list []),.d (.list (q0k (x::l)))]
theorem z5M(l:List Fld):(dobj l=.cells [.d (.int .i64 6),.d (.int .i64 0),.d (.str []),.ns,.ns]∧l=[])∨dobj l=.cells [.d (.int .i64 6),.d (.int .i64 0),.d (.str []),.d (.list []),.d (.list (q0k l))]:=by
 cases l with
 |nil=>exact .inl ⟨rfl,rfl⟩
 |cons x l=>exact .inr rfl
theorem j3C{l:List Fld}(h:l≠[]):dobj l=.cells [.d (.int .i64 6),.d (.int .i64 0),.d (.str []),.d (.list []),.d (.list (q0k l))]:=by
 cases l with
 |nil=>exact absurd rfl h
 |cons x l=>rfl
theorem j46(nm:List UInt8)(x:Val)(l:List Fld)(h:∀z∈l,z.name≠nm):setF nm x l≠[]:=fun e=>by
 have:=(z4Q (nm:=nm) (x:=x) h).2;rw[e]at this;simp at this
def q3o:q0g:=
 Qr [Qv 6,Qx 7 (Ki 0),Qx 8 (Ki 0)] (Qr [Q 16 (.bld [(0,1),(1,1),(2,1),(3,1),(4,1)] [.int .i64 0,.int .i64 0,.str [],.list [],.list []] [false,false,false,true, 
 true] [(0,.k (.d (.int .i64 6)))]),Qv 9,Qs 5 9 16] (.block 0 (.loop (.block 1 (Qr [Qc 17 0,Qc 18 1,Qj 19 48 [17,18],Qa 1 19] (.seq (Qr [Qc 20 1,Qc 21 0,Qz 22 true 21,Qb 
 23 .eql 20 22] (.cond (.t 23) (Qr [Qm 24 5 9,Qs 5 6 24,Qx 7 (Ki 0),Qx 8 (Ki 5)] .ret) .skip)) (.seq (Qr [Qc 25 0,Qc 26 1,Q 27 (.idxS (.t 25) (.t 26)),Q 28 (.bin .eql (.t 
 27) (Kb 62)),Qc 29 28,Qd 30 1 29 true,Qg 31 (.bin .add (.t 30) (Ki 1)) 29 true,Qd 32 0 29 true,Qg 33 (.len true (.t 32)) 29 true,Qg 34 (.bin .lss (.t 31) (.t 33)) 29 true, 
 Qp 35 29 34,Qc 36 35,Qd 37 0 36 true,Qd 38 1 36 true,Qg 39 (.bin .add (.t 38) (Ki 1)) 36 true,Qg 40 (.idxS (.t 37) (.t 39)) 36 true,Qg 41 (.bin .eql (.t 40) (Kb 62)) 36 
 true,Qp 42 36 41] (.cond (.t 42) (Qr [Qm 43 5 9,Qc 44 1,Qk 45 .add 44 2,Qs 5 6 43,Qa 7 45,Qx 8 (Ki 0)] .ret) .skip)) (.seq (Qr [Qc 46 0,Qc 47 1,Q 48 (.idxS (.t 46) (.t 
 47)),Q 49 (.bin .neq (.t 48) (Kb 47))] (.cond (.t 49) (Qr [Qm 50 5 9,Qs 5 6 50,Qx 7 (Ki 0),Qx 8 (Ki 4)] .ret) .skip)) (Qr [Qc 52 0,Qc 53 1,Qj 54 95 [52,53],Qc 51 54,Qe 
 55 0 51,Qe 56 1 51,Qe 57 2 51,Qa 10 55,Qa 11 56,Qa 12 57] (.seq (Qr [Qc 58 12,Qk 59 .gtr 58 0] (.cond (.t 59) (Qr [Qm 60 5 9,Qc 61 12,Qs 5 6 60,Qx 7 (Ki 0),Qa 8 61] 
 .ret) .skip)) (Qr [Qc 63 0,Qc 64 11,Qc 65 2,Qk 66 .add 65 1,Qj 67 70 [63,64,66],Qc 62 67,Qe 68 0 62,Qe 69 1 62,Qe 70 2 62,Qv 13,Qs 5 13 68,Qa 11 69,Qa 12 70] (.seq 
 (Qr [Qc 71 12,Qk 72 .gtr 71 0] (.cond (.t 72) (Qr [Qm 73 5 9,Qc 74 12,Qs 5 6 73,Qx 7 (Ki 0),Qa 8 74] .ret) .skip)) (Qr [Qm 76 5 9,Qc 77 10,Qj 78 21 [76,77],Qc 75 78,Qe 
 79 0 75,Qe 80 1 75,Qv 14,Qs 5 14 79,Qa 15 80] (.seq (Qr [Qc 81 15] (.cond (.t 81) (Qr [Qm 82 5 9,Qs 5 6 82,Qx 7 (Ki 0),Qx 8 (Ki 3)] .ret) .skip)) (Qr [Qm 83 5 9,Qc 84 10, 
 Qm 85 5 13,Qj 86 142 [83,84,85],Qs 5 9 86] (.seq (Qr [Qf 87 4 9,Ql 88 87,Qz 89 false 88,Qk 90 .gtr 89 300] (.cond (.t 90) (Qr [Qm 91 5 9,Qs 5 6 91,Qx 7 (Ki 0),Qx 8 (Ki 
 2)] .ret) .skip)) (.reg [Qc 92 11,Qa 1 92])))))))))))))))))
def q3v:List LRes:=[.cell 6 true 5,.tmp 7,.tmp 8]
theorem q52:q0n Tryz.prog 97 93 q3o q3v:=⟨_,_,Tryz.func97,rfl,by kernel_rfl,by kernel_rfl,rfl⟩
theorem j0w(s:List UInt8)(hs:s.length≤60000)(rd:Nat→RV)(deep:Int)(hd:0≤deep∧deep≤8)(hg:∀k,k≤s.length→z6H s k (rd k))
  (ih:∀k,k≤s.length→q0i Tryz.prog 70 [.str s,.int .i64 k,.int .i64 (deep+1)] (q5O (rd k))) (k:Nat) (hk:k≤s.length):
  q0i Tryz.prog 97 [.str s,.int .i64 k,.int .i64 deep] (q5O (q7B rd s 301 [] k)):=by
 refine q52.call rfl ?_;generalize hR:q7B rd s 301 [] k=R;simp(maxSteps:=2000000)(disch:=omega)only[go_sem,↓reduceIte,q3o,q3v];refine q0f (fun y:Nat×List Fld=>⟨[(0,.d (.str s)),(1,.d (.int .i64 y.1)),(2,.d (.int .i64 deep)),(6,.ptr (.l 6) 0),(9,.ptr (.l 9) 0)],
   [(6,.cells [.d (.int .i64 0),.d (.int .i64 0),.d (.str []),.ns,.ns]),(9,dobj y.2)],[]⟩)
  (fun y=>y.1≤s.length∧y.2.length≤300∧srt y.2∧q7B rd s (301-y.2.length) y.2 y.1=R) (fun y=>s.length-y.1) (k,[]) ?_ ?_ ?_
 ·refine Weak.mk ?_ ?_ ?_<;>simp(maxSteps:=2000000)only[go_sem,↓reduceIte,Sub,Zaa,Zab,dobj]
 ·exact⟨hk,by simp,z7r,hR⟩
 ·rintro⟨i,acc⟩ ⟨hi,ha,hsrt,hF⟩;simp only at hi ha hsrt hF;obtain⟨m,hm⟩:∃m,301-acc.length=m+1:=⟨300-acc.length,by omega⟩;rw[hm,q7B]at hF;have hsk:=q0r hi;have hw:=q1l s ((i:Nat):Int) (by omega);rw[q0h hi]at hw;generalize q0l s i=q at *;have hal:=q0D acc;have dd:(dicV acc).d=D.agg [.int .i64 6,.int .i64 0,.str [],.list [],.list (q0k acc)]:=by rw[Val.d_eq];rfl
  have lis:q5O R (.tup [(dicV acc).d,.int .i64 (q+2:Nat),.int .i64 0])→q5O R (.tup [D.agg [.int .i64 6,.int .i64 0,.str [],.list [],.list (q0k acc)],.int .i64 (q+2:Nat),.int .i64 0]):=fun h=>by rwa [dd]at h
  have bad:∀(e:Nat),R=.bad e→q5O R (.tup [D.agg [.int .i64 6,.int .i64 0,.str [],.list [],.list (q0k acc)],.int .i64 0,.int .i64 e]):=fun e he=>by
   have:=q6G (dicV acc) 0 he;rwa [dd]at this
  have hget:=fun nm=>q88 (dicV acc) nm (by show acc.length≤_;omega)
  have hset:=fun nm x=>j48 (dicV acc) x nm (by show acc.length≤_;omega)
  simp only[dd]at hget hset;have hcs:(dobj acc=.cells [.d (.int .i64 6),.d (.int .i64 0),.d (.str []),.ns,.ns]∧q0k acc=[])∨dobj acc=.cells [.d (.int .i64 6),.d (.int .i64 0),.d (.str []),.d (.list []),.d (.list (q0k acc))]:=by
   rcases z5M acc with⟨h,rfl⟩|h
   ·exact .inl ⟨h,rfl⟩
   ·exact .inr h
  generalize q0k acc=fd at bad lis hget hset hcs hal;simp(maxSteps:=2000000)only[go_sem,↓reduceIte];refine q0c.of hw ?_;rcases hcs with⟨hl,rfl⟩|hl<;>rw[hl];all_goals
   simp(maxSteps:=2000000)only[go_sem,↓reduceIte];refine⟨fun h1=>?_,fun h1=>?_⟩
   ·rw[Zbm (by omega)]at hF;exact bad 5 hF.symm
   ·obtain⟨c,hc⟩:=get_some (l:=s) (i:=q) (by omega);have hc8:=q1Q c;rw[hc]at hF;simp only at hF
    by_cases c62:c.toNat=62
    ·have z1:((c.toNat:Int)=62)=True:=eq_true (by omega);have z2:((c.toNat:Int)=47)=False:=eq_false (by omega);have nodd:¬s[q+1]?=some 62→R=.bad 4:=fun h=>by
      rw[if_neg (fun h'=>h h'.2),if_pos (by omega)]at hF;exact hF.symm
     simp(maxSteps:=2000000)(disch:=omega)only[go_sem,↓reduceIte,q0a,hc,z1];refine⟨fun h2=>?_,fun h2=>?_⟩
     ·obtain⟨e,he⟩:=get_some (l:=s) (i:=q+1) (by omega);have g1:getI s ((q:Int)+1)=some e:=by rw[q3z,he]
      simp(maxSteps:=2000000)(disch:=omega)only[go_sem,↓reduceIte,g1];refine⟨fun h3=>?_,fun h3=>?_⟩
      ·have e62:e=62:=UInt8.toNat_inj.1 (by have:(62:UInt8).toNat=62:=rfl;omega);rw[if_pos ⟨c62,by rw[he,e62]⟩]at hF;exact lis (z3r hF.symm)
      ·simp(maxSteps:=2000000)(disch:=omega)only[go_sem,↓reduceIte,q0a,hc,z2];exact bad 4 (nodd (by rw[he];intro e';cases e';exact h3 rfl))
     ·simp(maxSteps:=2000000)(disch:=omega)only[go_sem,↓reduceIte,q0a,hc,z2];exact bad 4 (nodd (by rw[Zbm (by omega)];simp))
    ·have z1:((c.toNat:Int)=62)=False:=eq_false (by omega);rw[if_neg (fun h=>c62 h.1)]at hF;simp(maxSteps:=2000000)(disch:=omega)only[go_sem,↓reduceIte,q0a,hc,z1];refine⟨fun h2=>?_,fun h2=>?_⟩
     ·rw[if_pos (by omega)]at hF;exact bad 4 hF.symm
     ·rw[if_neg (by omega)]at hF;have hlt:q<s.length:=(Zac.1 hc).1;refine q0c.of (z1y s q (by omega) hlt) ?_;cases hn:q5W s q with
      |none=>
       rw[hn]at hF;simp only[z0K];simp(maxSteps:=2000000)only[go_sem,↓reduceIte];exact bad 4 hF.symm
      |some p=>
       obtain⟨nm,kn⟩:=p;rw[hn]at hF;simp only at hF;obtain⟨n1,n2,n3,n4⟩:=q8h hlt hn;simp only[z0K];simp(maxSteps:=2000000)(disch:=omega)only[go_sem,↓reduceIte];have hgq:=hg kn n2;refine q0c.post (ih kn n2) (fun r hr=>?_);cases hx:rd kn with
       |bad e=>
        rw[hx]at hF hr hgq;obtain⟨v,n,rfl⟩:=hr;rw[Val.d_eq v];simp(maxSteps:=2000000)only[go_sem,↓reduceIte];refine⟨fun h3=>bad e hF.symm,fun h3=>?_⟩;obtain⟨g1,_⟩:=hgq;omega
       |ok x k'=>
        rw[hx]at hF hr hgq;simp only[q5O]at hr;subst hr;obtain⟨g1,g2,g3,g4⟩:=hgq;rw[Val.d_eq x];simp(maxSteps:=2000000)only[go_sem,↓reduceIte];have hgt:=hget nm;have eg:getR (getV nm (dicV acc).f)=.tup [((getV nm acc).getD zeroV).d,.bool (getV nm acc).isSome]:=rfl;rw[eg]at hgt;simp only at hF;have hnone:=z1m (nm:=nm) (l:=acc);have hst:=hset nm x;rw[z84 (l:=(dicV acc).f) hsrt]at hst
        have es:(Val.mk (dicV acc).kind (dicV acc).n (dicV acc).s (dicV acc).l (setF nm x (dicV acc).f)).d=.agg [.int .i64 6,.int .i64 0,.str [],.list [],.list (q0k (setF nm x acc))]:=by rw[mk_d];rfl
        rw[es,Val.d_eq x]at hst;generalize(getV nm acc).getD zeroV=gv at hgt;generalize(getV nm acc).isSome=gs at hgt hF hnone;rw[Val.d_eq gv]at hgt;refine q0c.of hgt ?_;cases gs with
        |true=>
         rw[if_pos rfl]at hF;simp(maxSteps:=2000000)only[go_sem,↓reduceIte];exact bad 3 hF.symm
        |false=>
         rw[if_neg (by decide)]at hF;have hno:=hnone rfl;simp(maxSteps:=2000000)only[go_sem,↓reduceIte];refine q0c.of hst ?_;obtain⟨p1,p2⟩:=z4Q (x:=x) hno;have hsl:=q0D (setF nm x acc);simp(maxSteps:=2000000)only[go_sem,↓reduceIte,hsl];refine⟨fun h3=>?_,fun h3=>?_⟩
         ·have hm0:m=0:=by omega
          rw[hm0,q7B]at hF;have:=q6G (dicV (setF nm x acc)) 0 hF.symm;rwa [Val.d_eq]at this
         ·have hm0:m=301-(setF nm x acc).length:=by omega
          rw[hm0]at hF;refine⟨(k',setF nm x acc),?_,⟨g2,by simp only;omega,j0J hsrt hno,hF⟩,by simp only;omega⟩;have hob:=j3C (j46 nm x acc hno);refine Weak.mk ?_ ?_ ?_<;>simp(maxSteps:=2000000)only[go_sem,↓reduceIte,Sub,Zaa,Zab,hob]
def Kp(p:Int):Nat:=if p≤0 then 1000 else if p=1 then 100 else if p=2 then 10 else 1
theorem j81(p:Int):10 ^ (3-p.toNat)=Kp p:=by
 unfold Kp
 by_cases h:p≤0
 ·rw[if_pos h,show p.toNat=0 by omega]
 ·rw[if_neg h]
  by_cases h1:p=1
  ·subst h1;rfl
  ·rw[if_neg h1]
   by_cases h2:p=2
   ·subst h2;rfl
   ·rw[if_neg h2,show 3-p.toNat=0 by omega]
def Rel(n:Nat)(p:Int)(w r t:Nat):Prop:=
 t=Kp p / 10∧w≤99999999∧r+10*t≤1000∧(p<0→r=0)∧(n*Kp p=1000*w+r∨(1000000000<n*Kp p∧1000000000<1000*w+r))
theorem j4S{n w r t:Nat}{p:Int}(h:Rel n p w r t)(hp:p<0):Rel n 0 w r t:=by
 obtain⟨h1,h2,h3,h4,h5⟩:=h;have e:Kp p=Kp 0:=by unfold Kp;rw[if_pos (by omega),if_pos (by omega)]
 rw[e]at h1 h5;exact⟨h1,h2,h3,fun h=>by omega,h5⟩
set_option maxRecDepth 10000 in
theorem j4T{n w r t k:Nat}{p:Int}(h:Rel n p w r t)(hp:p<0)(hk:k≤9):Rel (if p<3∧n≤1000000000 then 10*n+k else n) (if 0≤p then p+1 else p) (if w<10000000 then 10*w+k else w) r t:=by
 obtain⟨h1,h2,h3,h4,h5⟩:=h;have e:Kp p=1000:=by unfold Kp;rw[if_pos (by omega)]
 have h4:=h4 hp;rw[if_neg (by omega:¬0≤p)];unfold Rel;rw[e]at h1 h5 ⊢;refine⟨h1,?_,h3,fun _=>h4,?_⟩
 ·split<;>omega
 ·split<;>split<;>omega
set_option maxRecDepth 10000 in
theorem j6W{n w r t k:Nat}{p:Int}(h:Rel n p w r t)(hp:0≤p)(hk:k≤9):Rel (if p<3∧n≤1000000000 then 10*n+k else n) (if 0≤p then p+1 else p) w (r+t*k) (t / 10):=by
 obtain⟨h1,h2,h3,h4,h5⟩:=h;rw[if_pos hp];unfold Rel
 by_cases p0:p=0
 ·subst p0;have e:Kp 0=1000:=rfl;have e':Kp (0+1)=100:=rfl;rw[e]at h1 h5;rw[e'];have ht:t=100:=by omega
  subst ht;refine⟨by omega,h2,by omega,fun h=>by omega,?_⟩;split<;>omega
 ·by_cases p1:p=1
  ·subst p1;have e:Kp 1=100:=rfl;have e':Kp (1+1)=10:=rfl;rw[e]at h1 h5;rw[e'];have ht:t=10:=by omega
   subst ht;refine⟨by omega,h2,by omega,fun h=>by omega,?_⟩;split<;>omega
  ·by_cases p2:p=2
   ·subst p2;have e:Kp 2=10:=rfl;have e':Kp (2+1)=1:=rfl;rw[e]at h1 h5;rw[e'];have ht:t=1:=by omega
    subst ht;refine⟨by omega,h2,by omega,fun h=>by omega,?_⟩;split<;>omega
   ·have e:Kp p=1:=by unfold Kp;rw[if_neg (by omega),if_neg p1,if_neg p2]
    have e':Kp (p+1)=1:=by unfold Kp;rw[if_neg (by omega),if_neg (by omega),if_neg (by omega)]
    rw[e]at h1 h5;rw[e'];have ht:t=0:=by omega
    subst ht;rw[Nat.zero_mul,if_neg (by omega)];exact⟨by omega,h2,by omega,fun h=>by omega,h5⟩
def j2O(p:Int×Nat):Res:=.tup [.int .i64 p.1,.int .i64 p.2]
def q2o:q0g:=
 Qr [Qx 2 (Ki 0),Qx 3 (Ki 0)] (Qr [Qx 4 (Ki 0)] (Qr [Qx 5 (Ki 1)] (.seq (Qr [Qc 14 0,Qz 15 true 14,Qk 16 .gtr 15 0,Qc 17 16,Qd 18 0 17 true,Qg 19 (.idxS (.t 18) (Ki 0)) 17 
 true,Qg 20 (.bin .eql (.t 19) (Kb 45)) 17 true,Qd 21 20 17 true,Qd 22 0 21 false,Qg 23 (.idxS (.t 22) (Ki 0)) 21 false,Qg 24 (.bin .eql (.t 23) (Kb 43)) 21 false,Qg 25 
 (.pick (.t 21) KT (.t 24)) 17 true,Qp 26 17 25] (.cond (.t 26) (Qr [Qx 4 (Ki 1)] (Qr [Qc 27 0,Q 28 (.idxS (.t 27) (Ki 0)),Q 29 (.bin .eql (.t 28) (Kb 45))] (.cond (.t 29) 
 (.reg [Qx 5 (Ki (-1))]) .skip))) .skip)) (Qr [Qx 6 (Ki 0)] (Qr [Qx 7 (Ki 0)] (Qr [Qx 8 (Ki 100)] (Qr [Qx 9 (Ki 0)] (Qr [Qx 10 KF] (.seq (.block 0 (.loop (.seq (Qr [Qc 30 4,Qc 31 
 0,Qz 32 true 31,Qb 33 .lss 30 32] (.cond (.t 33) .skip (.exit 0))) (.seq (.block 1 (Qr [Qc 36 0,Qc 37 4,Q 38 (.idxS (.t 36) (.t 37)),Qa 11 38] (.seq (Qr [Qc 39 11,Q 40 
 (.bin .eql (.t 39) (Kb 46)),Qc 41 40,Qd 42 10 41 true,Qg 43 (.not (.t 42)) 41 true,Qp 44 41 43] (.cond (.t 44) (Qr [Qx 10 KT] (.exit 1)) .skip)) (.seq (Qr [Qc 45 11,Q 46 
 (.bin .lss (.t 45) (Kb 48)),Qc 47 46,Qd 48 11 47 false,Qg 49 (.bin .gtr (.t 48) (Kb 57)) 47 false,Qo 50 47 49] (.cond (.t 50) (Qr [Qx 2 (Ki 0),Qx 3 (Ki 4)] .ret) .skip)) (Qr 
 [Qc 51 9,Qk 52 .add 51 1,Qa 9 52] (Qr [Qc 53 11,Q 54 (.bin .sub (.t 53) (Kb 48)),Q 55 (.cvI .i64 (.t 54)),Qa 12 55] (Qr [Qc 56 10] (.cond (.t 56) (Qr [Qc 57 7,Qc 58 8,Qc 
 59 12,Qb 60 .mul 58 59,Qb 61 .add 57 60,Qa 7 61] (.reg [Qc 62 8,Qk 63 .quo 62 10,Qa 8 63])) (Qr [Qc 64 6,Qk 65 .lss 64 10000000] (.cond (.t 65) (.reg [Qc 66 6,Q 67 (.bin 
 .mul (Ki 10) (.t 66)),Qc 68 12,Qb 69 .add 67 68,Qa 6 69]) .skip)))))))))) (.reg [Qc 34 4,Qk 35 .add 34 1,Qa 4 35]))))) (.seq (Qr [Qc 70 9,Qk 71 .eql 70 0] (.cond (.t 71) 
 (Qr [Qx 2 (Ki 0),Qx 3 (Ki 4)] .ret) .skip)) (Qr [Qc 72 6,Q 73 (.bin .mul (Ki 1000) (.t 72)),Qc 74 7,Qb 75 .add 73 74,Qa 13 75] (.seq (Qr [Qc 76 13,Qk 77 .gtr 76 1000000000] 
 (.cond (.t 77) (Qr [Qx 2 (Ki 0),Qx 3 (Ki 1)] .ret) .skip)) (Qr [Qc 78 5,Qc 79 13,Qb 80 .mul 78 79,Qa 2 80,Qx 3 (Ki 0)] .ret)))))))))))))
def q2s:List LRes:=[.tmp 2,.tmp 3]
theorem q6v:q0n Tryz.prog 101 81 q2o q2s:=⟨_,_,Tryz.func101,rfl,by kernel_rfl,by kernel_rfl,rfl⟩
theorem z81(s:List UInt8)(hs:s.length≤1000000):q0i Tryz.prog 101 [.str s] (fun r=>r=j2O (q6E s)):=by
 refine q6v.call rfl ?_;unfold q6E;cases s with
 |nil=>
  have hs0:z9d []=(false,[]):=rfl;have hR:j2O (finP false (q60 [] 0 0 (-1)))=.tup [.int .i64 0,.int .i64 4]:=rfl;rw[hs0,hR];simp(maxSteps:=2000000)(disch:=omega)only[go_sem,↓reduceIte,q2o,q2s];refine q0X ?_;simp(maxSteps:=2000000)(disch:=omega)only[go_sem,↓reduceIte]
 |cons c r=>
  have hc8:=q1Q c;have hg0:getI (c::r) 0=some c:=rfl;have hlr:r.length+1≤1000000:=by simpa using hs
  have hlI:0<((r.length+1:Nat):Int):=by omega
  generalize hst:z9d (c::r)=st;dsimp only[z9d]at hst;obtain⟨R,hR⟩:∃R,finP st.1 (q60 st.2 0 0 (-1))=R:=⟨_,rfl⟩;rw[hR];have start:∃(A:Nat) (N:Bool) (G:Int),(if N=true then -1 else 1)=G∧A≤(c::r).length∧finP N (q60 ((c::r).drop A) 0 0 (-1))=R∧
    (c.toNat=45∧A=1∧N=true∧G = -1∨c.toNat≠45∧c.toNat=43∧A=1∧N=false∧G=1∨c.toNat≠45∧c.toNat≠43∧A=0∧N=false∧G=1):=by
   by_cases a1:c.toNat=45
   ·rw[if_pos a1]at hst;subst hst;exact⟨1,true,-1,rfl,by simp,hR,.inl ⟨a1,rfl,rfl,rfl⟩⟩
   ·rw[if_neg a1]at hst
    by_cases a2:c.toNat=43
    ·rw[if_pos a2]at hst;subst hst;exact⟨1,false,1,rfl,by simp,hR,.inr (.inl ⟨a1,a2,rfl,rfl,rfl⟩)⟩
    ·rw[if_neg a2]at hst;subst hst;exact⟨0,false,1,rfl,by simp,hR,.inr (.inr ⟨a1,a2,rfl,rfl,rfl⟩)⟩
  clear hst hR;obtain⟨A,N,G,hGN,hAl,hR,hc⟩:=start;rcases hc with⟨a1,hA,hN,hG⟩|⟨a1,a2,hA,hN,hG⟩|⟨a1,a2,hA,hN,hG⟩;have a2:c.toNat≠43:=by omega
  skip
  all_goals
   have b1:((c.toNat:Int)=45)=(c.toNat=45):=by simp only[eq_iff_iff];omega
   have b2:((c.toNat:Int)=43)=(c.toNat=43):=by simp only[eq_iff_iff];omega
   simp(maxSteps:=2000000)(disch:=omega)only[go_sem,↓reduceIte,q2o,q2s,hg0,hlI,b1,b2,a1,a2];obtain⟨T,hT⟩:∃T,c::r=T:=⟨_,rfl⟩;rw[hT]at hR hAl hs ⊢;refine q0f (fun y:Nat×Nat×Nat×Int×Nat×Nat×Nat=>⟨[(0,.d (.str T)),(4,.d (.int .i64 (y.1:Nat))),(5,.d (.int .i64 G)),(6,.d (.int .i64 (y.2.2.2.2.1:Nat))),(7,.d (.int .i64 (y.2.2.2.2.2.1:Nat))),(8,.d (.int .i64 (y.2.2.2.2.2.2:Nat))),(9,.d (.int .i64 (y.2.2.1:Nat))),(10,.d (.bool (decide (0≤y.2.2.2.1))))],[],[]⟩)
    (fun y=>y.1≤T.length∧y.2.2.1≤y.1∧Rel y.2.1 y.2.2.2.1 y.2.2.2.2.1 y.2.2.2.2.2.1 y.2.2.2.2.2.2∧finP N (q60 (T.drop y.1) y.2.1 y.2.2.1 y.2.2.2.1)=R) (fun y=>T.length-y.1) (A,0,0,-1,0,0,100) ?_ ?_ ?_
   ·refine q0d ?_ trivial;simp(maxSteps:=2000000)only[go_sem,↓reduceIte,Sub,Zaa,Zab,hA,hG];try simp
   ·exact⟨hAl,by simp,⟨by simp[Kp],by simp,by simp,by simp,by simp⟩,hR⟩
   ·rintro⟨i,n,d,p,w,q,t⟩ ⟨hi,hd,hr,hF⟩;simp only at hi hd hr hF;simp(maxSteps:=2000000)only[go_sem,↓reduceIte];refine⟨fun q1=>?_,fun q1=>?_⟩
    ·obtain⟨x,hx⟩:=get_some (l:=T) (i:=i) (by omega);have hx8:=q1Q x;rw[drop_cons hx]at hF;unfold q60 at hF
     by_cases e1:x.toNat=46∧p<0
     ·rw[if_pos e1]at hF;have e1a:(x.toNat:Int)=46:=by omega
      have e1b:¬(0≤p):=by omega
      simp(maxSteps:=2000000)(disch:=omega)only[go_sem,↓reduceIte,q0a,hx,e1a,e1b];refine⟨(i+1,n,d,0,w,q,t),?_,⟨by simp only;omega,by simp only;omega,j4S hr e1.2,hF⟩,by simp only;omega⟩;refine q0d ?_ trivial;simp(maxSteps:=2000000)only[go_sem,↓reduceIte,Sub,Zaa,Zab];try simp
     ·rw[if_neg e1]at hF
      by_cases e2:x.toNat<48∨57<x.toNat
      ·rw[if_pos e2]at hF;subst hF;have hres:j2O (finP N none)=.tup [.int .i64 0,.int .i64 4]:=rfl;rw[hres];simp(maxSteps:=2000000)only[go_sem,↓reduceIte,q0a,hx];refine⟨fun a=>⟨fun b=>by omega,fun b h1 h2=>by omega⟩,fun a h1 h2=>by omega⟩
      ·rw[if_neg e2]at hF;have hne46:¬((x.toNat:Int)=46):=by omega
       have h48:¬((x.toNat:Int)<48):=by omega
       have h57:¬(57<(x.toNat:Int)):=by omega
       obtain⟨k,hk⟩:∃k,x.toNat-48=k:=⟨_,rfl⟩;have hk':(x.toNat:Int)-48=(k:Int):=by omega
       rw[hk]at hF;have hk9:k≤9:=by omega
       have hr':=hr;obtain⟨r1,r2,r3,r4,r5⟩:=hr';have ht9:t≤100:=by omega
       have hm9:t*k≤900:=Nat.mul_le_mul ht9 hk9;have hq9:q≤1000:=by omega
       have hti:Int.tdiv (t:Int) 10=((t / 10:Nat):Int):=rfl;have hmi:(t:Int)*(k:Int)=((t*k:Nat):Int):=by rw[Zab]
       by_cases hp:0≤p
       ·simp(maxSteps:=2000000)(disch:=omega)only[go_sem,↓reduceIte,q0a,hx,hne46,h48,h57,hk',hp,hti,hmi];have hrp:=j6W hr hp hk9;have hp1:(if 0≤p then p+1 else p)=p+1:=if_pos hp;have hp2:decide (0≤p)=true:=by simp;omega
        have hp3:decide (0≤p+1)=true:=by simp;omega
        rw[hp1]at hF hrp;refine⟨(i+1,_,d+1,p+1,w,q+t*k,t / 10),?_,⟨by simp only;omega,by simp only;omega,hrp,hF⟩,by simp only;omega⟩;simp only[hp2,hp3];refine q0d ?_ trivial;simp(maxSteps:=2000000)only[go_sem,↓reduceIte,Sub,Zaa,Zab]
       ·simp(maxSteps:=2000000)(disch:=omega)only[go_sem,↓reduceIte,q0a,hx,hne46,h48,h57,hk',hp,hti,hmi];have hp1:(if 0≤p then p+1 else p)=p:=if_neg hp;have hp2:decide (0≤p)=false:=by simp;omega
        have hw:=j4T (k:=k) hr (by omega) hk9;rw[hp1]at hF hw;refine⟨fun c1=>?_,fun c1=>?_⟩
        ·rw[if_pos (by omega:w<10000000)]at hw;refine⟨(i+1,_,d+1,p,10*w+k,q,t),?_,⟨by simp only;omega,by simp only;omega,hw,hF⟩,by simp only;omega⟩;simp only[hp2];refine q0d ?_ trivial;simp(maxSteps:=2000000)only[go_sem,↓reduceIte,Sub,Zaa,Zab]
        ·rw[if_neg (by omega:¬w<10000000)]at hw;refine⟨(i+1,_,d+1,p,w,q,t),?_,⟨by simp only;omega,by simp only;omega,hw,hF⟩,by simp only;omega⟩;simp only[hp2];refine q0d ?_ trivial;simp(maxSteps:=2000000)only[go_sem,↓reduceIte,Sub,Zaa,Zab]
    ·rw[Zai (by omega)]at hF;unfold q60 at hF;dsimp only[finP]at hF;rw[j81]at hF;obtain⟨r1,r2,r3,r4,r5⟩:=hr;refine⟨fun c1=>?_,fun c1=>?_⟩
     ·rw[if_pos (by omega)]at hF;subst hF;simp[j2O]
     ·rw[if_neg (by omega)]at hF;generalize n*Kp p=M at hF r5;have hq9:q≤1000:=by omega
      simp(disch:=omega)only[IntWalk.i64_in,IntWalk.u8_in];refine⟨fun c3=>?_,fun c3=>?_⟩
      ·rw[if_pos (by omega)]at hF;subst hF;rfl
      ·rw[if_neg (by omega)]at hF;have hM:M=1000*w+q:=by omega
       subst hF;subst hM;rw[hG,hN];simp(disch:=omega)only[IntWalk.i64_in,IntWalk.u8_in];simp[j2O]
end Go.Av.Tryz
