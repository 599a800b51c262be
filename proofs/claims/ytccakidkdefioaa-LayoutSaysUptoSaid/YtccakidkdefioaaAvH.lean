import Derived.Test.YtccakidkdefioaaAvG
/- Calls that take objects, one of which (the row x1000) may come to stand elsewhere: contracts. -/
set_option linter.unusedSectionVars false
namespace Go.Av

variable {E : Entry} {n : Nat} {G : Ghost} {σ : St} {ts : Array Value} {w : World}

def mob : Option AObj → List (Nat × AObj)
  | none => []
  | some o => [(1000, o)]
def rowO : AObj → Bool
  | .cells cs => cs.all fun x => match x with | .d _ | .junk => true | _ => false
  | _ => false
def rowM : Option AObj → Bool
  | none => true
  | some o => rowO o

theorem rowO_inv {o : AObj} (h : rowO o = true) : ∃ cs, o = .cells cs ∧ ∀ x ∈ cs, (∃ d, x = .d d) ∨ x = .junk := by
  cases o with
  | cells cs =>
    refine ⟨cs, rfl, fun x hx => ?_⟩
    simp only [rowO, List.all_eq_true] at h
    have := h x hx
    cases x <;> simp at this
    · exact .inl ⟨_, rfl⟩
    · exact .inr rfl
  | _ => simp [rowO] at h

theorem ObjR.row {G' : Ghost} {r r' : Ref} {o : AObj} (ho : rowO o = true) (hf : G'.f = G.f) (hb : G'.b r' = G.b r) (h : ObjR G w r o) : ObjR G' w r' o := by
  obtain ⟨cs, rfl, hd⟩ := rowO_inv ho
  obtain ⟨arr, el, h1, h2, h3⟩ := h
  refine ⟨arr, el, by rw [hb]; exact h1, h2, fun i x hi => ?_⟩
  obtain ⟨k1, k2, k3, k4⟩ := h3 i x hi
  rcases hd x (List.mem_of_getElem? hi) with ⟨d, rfl⟩ | rfl
  · exact ⟨.d _ _ (by rw [hf]; exact k1.dinv), k2, fun q hq => by simp [AV.lab?] at hq, fun e he => by cases he⟩
  · exact ⟨.junk _, k2, fun q hq => by simp [AV.lab?] at hq, fun e he => by cases he⟩

theorem aget_append {α : Type} (l m : List (Nat × α)) (s : Nat) : aget (l ++ m) s = (aget l s).or (aget m s) := by
  induction l with
  | nil => simp [aget]
  | cons a l ih =>
    obtain ⟨k, v⟩ := a
    simp only [List.cons_append, aget]
    split
    · rfl
    · exact ih
def AV.labOK (n : Nat) : AV → Bool
  | .own q _ _ _ => match q with
    | .c r _ => wfR n r
    | .t _ => false
  | _ => true
def labL (n : Nat) : List AV → Bool
  | [] => true
  | x :: l => x.labOK n && labL n l
def AObj.wfM (n : Nat) : AObj → Bool
  | .cells cs => noLocL cs && labL n cs
  | _ => true
def wfMO (n : Nat) : List AObj → Bool
  | [] => true
  | o :: l => o.wfM n && wfMO n l
/-! ### The contract -/
def inMV (G : Ghost) (hs : List AObj) (m : Option AObj) (b : Nat) : Prop :=
  (∃ i o, hs[i]? = some o ∧ G.b (.x i) = b) ∨ (∃ o, m = some o ∧ G.b (.x 1000) = b) ∨ ∃ q v p, G.lam q = some (v, p) ∧ v.ownBlock = some b
def entryV (G : Ghost) (hs : List AObj) (m : Option AObj) (w : World) : Entry := { w0 := w, f0 := G.f, M := inMV G hs m, b0 := fun r => G.b (.x r) }
def MV (P : Program) [Inv P] (fn : FuncId) (xs : List AV) (hs : List AObj) (m : Option AObj) (Post : AV → List AObj → Option AObj → Prop) : Prop :=
  callOk P fn = true ∧ ∀ (G : Ghost) (w : World) (vs : Array Value), Inv.inv P G.f w → (∀ b, Inv.own P b → ¬ inMV G hs m b) →
    SR (entryV G hs m w) xs.length G ⟨initA 0 xs, [], numO 0 hs ++ mob m⟩ vs w →
    Calls P fn vs w fun e w' => ∃ r hs' m' G' v, Post r hs' m' ∧ e = .returned v ∧ hs'.length = hs.length ∧ rowM m' = true ∧ SR (entryV G hs m w) 1 G' ⟨[(0, r)], [], numO 0 hs' ++ mob m'⟩ #[v] w'
theorem MV.mono {P : Program} [Inv P] {fn : FuncId} {xs : List AV} {hs : List AObj} {m : Option AObj} {Post Post' : AV → List AObj → Option AObj → Prop} (h : MV P fn xs hs m Post) (hp : ∀ r hs' m', Post r hs' m' → Post' r hs' m') : MV P fn xs hs m Post' :=
  ⟨h.1, fun G w vs h0 h1 h2 => (h.2 G w vs h0 h1 h2).mono fun _ _ ⟨r, hs', m', G', v, a, b⟩ => ⟨r, hs', m', G', v, hp r hs' m' a, b⟩⟩

end Go.Av
/- Calls with a row that may come to stand elsewhere: what the caller has back. -/
set_option linter.unusedSectionVars false
namespace Go.Av

variable {E : Entry} {n : Nat} {G : Ghost} {σ : St} {ts : Array Value} {w : World}

/-! ### All names of the row are given up -/
def St.dropX (σ : St) : St := { ρ := amap (AV.drop (.x 1000)) σ.ρ, L := amap (dropObj (.x 1000)) σ.L, H := adel (amap (dropObj (.x 1000)) σ.H) 1000 }

theorem St.obj_dropX (σ : St) (r : Ref) {o : AObj} (h : σ.dropX.obj r = some o) : r ≠ .x 1000 ∧ ∃ o', σ.obj r = some o' ∧ o = dropObj (.x 1000) o' := by
  cases r with
  | l t =>
    simp only [St.dropX, St.obj, aget_amap] at h
    cases hx : aget σ.L t with
    | none => simp [hx] at h
    | some o' => simp [hx] at h; exact ⟨by simp, o', hx, h.symm⟩
  | x t =>
    simp only [St.dropX, St.obj, aget_adel, aget_amap] at h
    split at h
    · cases h
    · rename_i hne
      cases hx : aget σ.H t with
      | none => simp [hx] at h
      | some o' => simp [hx] at h; exact ⟨by simp; omega, o', hx, h.symm⟩
theorem SR.dropX (h : SR E n G σ ts w) (B : Nat) : SR E n { G with b := updf G.b (.x 1000) B } σ.dropX ts w := by
  have hbs : ∀ x : AV, ∀ r, (x.drop (.x 1000)).has r = true → updf G.b (.x 1000) B r = G.b r := fun x r hr => updf_ne _ _ (fun e => by rw [e, AV.drop_has] at hr; cases hr)
  have hne : ∀ r, r ≠ .x 1000 → updf G.b (.x 1000) B r = G.b r := fun r hr => updf_ne _ _ hr
  refine ⟨h.size, fun t x hx => ?_, fun r o ho => ?_, fun r o ho => ?_, fun r r' o o' ho ho' hb => ?_, h.lam, fun q v e sz b h1 h2 r o ho => ?_, h.lamInj, fun r o ho => ?_, h.newLam, h.ext, h.fr, h.top, fun r hr => ?_, fun r cs x t ho hx => ?_, h.os, h.tape, h.output⟩
  · simp only [St.dropX, aget_amap] at hx
    cases hy : aget σ.ρ t with
    | none => simp [hy] at hx
    | some y =>
      simp [hy] at hx; subst hx
      exact AVR.mono (G := G) (w := w) (h := (h.slot t y hy).drop _) (G' := { G with b := updf G.b (.x 1000) B }) (Ext.refl _ _) (hbs y) (fun _ _ _ hp => hp)
  · obtain ⟨hr, o', h1, rfl⟩ := σ.obj_dropX r ho
    refine ObjR.mono (G := G) (w := w) (h := (h.obj r o' h1).drop) (G' := { G with b := updf G.b (.x 1000) B }) (Ext.refl _ _) (hne r hr) rfl (fun cs x e hx => ?_) (fun _ _ hp => hp)
    cases o' with
    | cells cs' =>
      simp only [dropObj, AObj.cells.injEq] at e
      subst e
      obtain ⟨y, _, rfl⟩ := List.mem_map.1 hx
      exact hbs y
    | _ => simp [dropObj] at e
  · obtain ⟨hr, o', h1, _⟩ := σ.obj_dropX r ho
    show G.f (updf G.b (.x 1000) B r) = 0
    rw [hne r hr]; exact h.objf r o' h1
  · obtain ⟨hr, o1, h1, _⟩ := σ.obj_dropX r ho
    obtain ⟨hr', o2, h2, _⟩ := σ.obj_dropX r' ho'
    have hb : updf G.b (.x 1000) B r = updf G.b (.x 1000) B r' := hb
    rw [hne r hr, hne r' hr'] at hb
    exact h.inj r r' o1 o2 h1 h2 hb
  · obtain ⟨hr, o', h3, _⟩ := σ.obj_dropX r ho
    show updf G.b (.x 1000) B r ≠ b
    rw [hne r hr]; exact h.lamObj q v e sz b h1 h2 r o' h3
  · obtain ⟨hr, o', h1, _⟩ := σ.obj_dropX r ho
    show _ ≤ updf G.b (.x 1000) B r ∨ E.M (updf G.b (.x 1000) B r)
    rw [hne r hr]; exact h.newObj r o' h1
  · show updf G.b (.x 1000) B (.x r) = _
    rw [hne _ (by simpa using hr)]; exact h.ext0 r hr
  · obtain ⟨hr, o', h1, e⟩ := σ.obj_dropX _ ho
    cases o' with
    | cells cs' =>
      simp only [dropObj, AObj.cells.injEq] at e
      subst e
      obtain ⟨y, hy, rfl⟩ := List.mem_map.1 hx
      exact AV.has_drop _ _ _ (h.own0 r cs' y t h1 hy)
    | _ => simp [dropObj] at e

def backOKV (R : List Ref) (n : Nat) : List Ref → List AObj → Bool
  | [], [] => true
  | r :: rs, o :: os => (o.wfM n && (isLocal r || (o.ren R).noLoc)) && backOKV R n rs os
  | _, _ => false
def setM (σ : St) : Option AObj → St
  | none => σ
  | some o => σ.setObj (.x 1000) o
def backV (σ : St) (R : List Ref) (os : List AObj) (m : Option AObj) : St := setM (backS σ R os) m

end Go.Av
/- Calls with a row that may come to stand elsewhere: the rule of a call, and of a function; an element is put into such a row. -/
set_option linter.unusedSectionVars false
namespace Go.Av

variable {E : Entry} {n : Nat} {G : Ghost} {σ : St} {ts : Array Value} {w : World} {P : Program} [Inv P]

def RetV (x : Option (List AV)) (hs : Option (List AObj)) (m : Option AObj) (Post : AV → List AObj → Option AObj → Prop) : Prop := ∃ y h, x = some y ∧ hs = some h ∧ rowM m = true ∧ Post (mkA y) h m
theorem RetV_some {x : List AV} {hs : List AObj} {m : Option AObj} {Post : AV → List AObj → Option AObj → Prop} : RetV (some x) (some hs) m Post = (rowM m = true ∧ Post (mkA x) hs m) :=
  propext ⟨fun ⟨_, _, e, e', h⟩ => by cases e; cases e'; exact h, fun h => ⟨_, _, rfl, rfl, h⟩⟩
def retV (l : List LRes) (n : Nat) (Post : AV → List AObj → Option AObj → Prop) : Exit → St → Prop
  | .normal, σ => RetV (resAL σ n l) (objsOf σ 0 n) (aget σ.H 1000) Post
  | .ret, σ => RetV (resAL σ n l) (objsOf σ 0 n) (aget σ.H 1000) Post
  | _, _ => False
theorem retV_normal {l : List LRes} {n : Nat} {Post : AV → List AObj → Option AObj → Prop} {σ : St} : retV l n Post .normal σ = RetV (resAL σ n l) (objsOf σ 0 n) (aget σ.H 1000) Post := rfl
theorem retV_ret {l : List LRes} {n : Nat} {Post : AV → List AObj → Option AObj → Prop} {σ : St} : retV l n Post .ret σ = RetV (resAL σ n l) (objsOf σ 0 n) (aget σ.H 1000) Post := rfl

end Go.Av
/- An element is put into a row that may come to stand elsewhere. -/
set_option linter.unusedSectionVars false
namespace Go.Av

variable {E : Entry} {n : Nat} {G : Ghost} {σ : St} {ts : Array Value} {w : World} {P : Program} [Inv P]

attribute [go_sem] retV_normal retV_ret RetV_some mob rowM AV.noLoc AV.noLoc1 noLoc1L noLocL AObj.noLoc AV.labOK labL AObj.wfM wfMO backOKV setM backV St.dropX

end Go.Av
/- Calls in the midst of a reckoning whose arguments are rows that go over. -/
set_option linter.unusedSectionVars false
namespace Go.Av

variable {E : Entry} {n : Nat} {G : Ghost} {σ : St} {ts : Array Value} {w : World} {P : Program} [Inv P]

theorem CStep.mcall {dst : Option Nat} {g : Nat} {args : List LX} {K : St → Prop} {xs : List AV} {hs : List AObj} (R : List Ref) (Q : List (Nat × Lab)) {Post : AV → List AObj → Prop} (hc : MCall P g xs hs Post)
    (hx : passQ Q 0 (evL σ args) = renL R xs) (hwx : wfAL Q R.length 0 xs = true) (ho : objsAt σ R R hs) (hwo : wfO R.length hs = true) (hnd : nodupR R = true) (hq : okQ R Q = true)
    (hK : ∀ r hs', Post r hs' → hs'.length = hs.length → (retOK R.length r = true ∧ backOK R R.length R hs' = true) ∧ K (retO (backS (Go.Av.eraseL σ (labsQ Q)) R hs') dst R r)) : CStep P dst g args K σ := by
  intro E _ n G a w vs hd h hvl hvs
  obtain ⟨hn, hR⟩ := nodupR_iff hnd
  obtain ⟨hq1, hq2⟩ := okQ_iff hq
  have hsz : vs.size = xs.length := by
    have hlen : ∀ (k : Nat) (l : List AV), (passQ Q k l).length = l.length := fun k l => by
      induction l generalizing k with
      | nil => rfl
      | cons y l ih => simp [passQ, ih]
    have hev : ∀ l : List LX, (evL σ l).length = l.length := fun l => by
      induction l with
      | nil => rfl
      | cons y l ih => simp [evL, ih]
    have := congrArg List.length hx
    rw [hlen, renL_eq, hev] at this
    simp only [List.length_map] at this
    omega
  have hargs : ∀ (i : Nat) (x : AV), xs[i]? = some x → AVR (Gc G R Q) w x (vs.getD i undef) := by
    intro i x hi
    have e : (passQ Q 0 (evL σ args))[i]? = some (x.ren R) := by rw [hx, renL_eq, List.getElem?_map, hi]; rfl
    have hwx' := wfAL_get hwx hi
    rw [Nat.zero_add] at hwx'
    rw [passQ_get, Nat.zero_add] at e
    cases hy : (evL σ args)[i]? with
    | none => rw [hy] at e; simp at e
    | some y =>
      rw [hy] at e; simp only [Option.map_some, Option.some.injEq] at e
      have hyv : AVR G w y (vs.getD i undef) := hvs i y hy
      unfold passI at e
      cases hqi : aget Q i with
      | none =>
        rw [hqi] at e
        simp only at e
        have hw : x.wf R.length = true := by
          cases x with
          | own q e1 s1 l1 =>
            cases q with
            | t j => simp [AV.wfA, hqi] at hwx'
            | c r off => exact hwx'
          | _ => exact hwx'
        have := passA_run hyv
        rw [e] at this
        exact this.unren hw
      | some q =>
        rw [hqi] at e
        simp only at e
        split at e
        · rename_i q' e1 s1 l1
          split at e
          · rename_i hqq
            subst hqq
            have hx : x = .own (.t i) e1 s1 l1 := by
              cases x with
              | own q2 e2 s2 l2 =>
                simp only [AV.ren, AV.own.injEq] at e
                obtain ⟨g1, rfl, rfl, rfl⟩ := e
                cases q2 with
                | t j => simp only [renQ, Lab.t.injEq] at g1; rw [g1]
                | c r off => simp [renQ] at g1
              | _ => simp [AV.ren] at e
            subst hx
            cases hyv with
            | own _ _ _ _ _ hq' hv hs => exact .own _ _ _ _ _ (by simp only [Gc, hqi]; exact hq') hv hs
          · have hx : x = .junk := by
              cases x <;> simp [AV.ren] at e
              rfl
            subst hx; exact .junk _
        · have hx : x = .junk := by
            cases x <;> simp [AV.ren] at e
            rfl
          subst hx; exact .junk _
  have hent := h.enter (vs := vs) hsz hargs ho hwo hn hq
  have hInv : Inv.inv P G.f w := Inv.ext (fun b hb => h.fr b (Inv.lt (HasInv.holds (P := P) (E := E)) b hb) (HasInv.none b hb)) (HasInv.holds (P := P) (E := E))
  have hnew : ∀ b, inM (Gc G R Q) hs b → E.w0.heap.size ≤ b ∨ E.M b := fun b hM => by
    rcases inM_up ho hM with ⟨r', o', g1, g2, g3⟩ | ⟨q', v', p', g1, g2, g3⟩
    · rw [← g3]; exact h.newObj r' o' g2
    · obtain ⟨e2, s2⟩ := p'
      exact h.newLam _ v' e2 s2 b g2 g3
  have hown : ∀ b, Inv.own P b → ¬ inM (Gc G R Q) hs b := fun b hb hM => by
    have hlt := Inv.lt (HasInv.holds (P := P) (E := E)) b hb
    have hno := HasInv.none (P := P) (E := E) b hb
    rcases hnew b hM with h6 | h6
    · omega
    · exact hno h6
  obtain ⟨lam', h0, hlam⟩ := h.eraseL (labsQ Q)
  have ho0 := objsAt_erase hq2 ho
  have hout : Out E (entryOf (Gc G R Q) hs w) { G with lam := lam' } (Go.Av.eraseL σ (labsQ Q)) R := by
    refine ⟨fun r o hr hm hM => ?_, fun q v p b hq' hvb hqR hM => ?_, hnew⟩
    · obtain ⟨o2, hr2⟩ := eraseL_obj _ hr
      rcases inM_up ho hM with ⟨r', o', g1, g2, g3⟩ | ⟨q', v', p', g1, g2, g3⟩
      · exact hm (h.inj _ _ _ _ g2 hr2 g3 ▸ g1)
      · obtain ⟨e1, s1⟩ := p'
        exact h.lamObj _ v' e1 s1 _ g2 g3 r o2 hr2 rfl
    · obtain ⟨g4, g5⟩ := hlam q _ hq'
      rcases inM_up ho hM with ⟨r', o', g1, g2, g3⟩ | ⟨q', v', p', g1, g2, g3⟩
      · obtain ⟨e1, s1⟩ := p
        exact h.lamObj q v e1 s1 b g4 hvb r' o' g2 g3
      · have := h.lamInj _ _ _ _ _ _ b g4 g2 hvb g3
        subst this
        rcases g1 with ⟨r, off, rfl, hm⟩ | g1
        · exact hqR r off rfl hm
        · exact g5 g1
  refine (hc.2 (Gc G R Q) w vs hInv hown hent).mono fun e w' ⟨r, hs', G', v, p1, p2, p3, p4⟩ => ⟨v, p2, ?_⟩
  obtain ⟨⟨q1, q2⟩, q3⟩ := hK r hs' p1 p3
  have h5 := h0.leave (E1 := entryOf (Gc G R Q) hs w) rfl rfl (fun _ => rfl) hout ho0 hn hR p3 p4 q2
  have h6 : AVR G' w' r v := by simpa using p4.slot 0 r (by simp [aget])
  have gen : r.wf R.length = true → retO (backS (Go.Av.eraseL σ (labsQ Q)) R hs') dst R r = putO (backS (Go.Av.eraseL σ (labsQ Q)) R hs') dst (r.ren R) → ∃ G' σ', K σ' ∧ SR E n G' σ' (a.put dst v).tmps w' := fun hw he => by
    have h7 : AVR (Gb { G with lam := lam' } G' R) w' (r.ren R) v := AVR.reren (G := { G with lam := lam' }) hn (fun i hi => p4.ext0 i (by omega)) hw h6
    exact ⟨_, _, q3, by rw [he]; exact h5.putO hd h7⟩
  cases r with
  | own q e sz l =>
    cases q with
    | c r off => simp [retOK] at q1
    | t s =>
      have hs0 : s = 0 := by simpa [retOK] using q1
      subst hs0
      cases hdd : dst with
      | none =>
        rw [hdd] at q3
        exact ⟨_, _, q3, by simpa [retO, Act.put] using h5⟩
      | some d =>
        rw [hdd] at q3 hd
        obtain ⟨G2, h8⟩ := h0.leaveRow (E1 := entryOf (Gc G R Q) hs w) rfl rfl (fun _ => rfl) hout ho0 hn hR p3 p4 q2 d (by simpa [dstOk] using hd)
        exact ⟨_, _, q3, by simpa [retO, Act.put] using h8⟩
  | d _ => exact gen q1 rfl
  | ptr _ _ => exact gen q1 rfl
  | dptr _ => exact gen q1 rfl
  | tuple _ => exact gen q1 rfl
  | fn _ _ _ => exact gen q1 rfl
  | junk => exact gen q1 rfl
  | ns => exact gen q1 rfl
  | nt _ => exact gen q1 rfl
  | rs _ _ _ => exact gen q1 rfl
  | mp _ => exact gen q1 rfl
  | sx _ => exact gen q1 rfl
end Go.Av
/- A row that came to stand elsewhere is data from then on. -/
set_option linter.unusedSectionVars false
namespace Go.Av

variable {E : Entry} {n : Nat} {G : Ghost} {σ : St} {ts : Array Value} {w : World} {P : Program} [Inv P]

def Gh (σ τ : St) : Prop := ∀ (E : Entry) (n : Nat) (G : Ghost) (ts : Array Value) (w : World), SR E n G σ ts w → ∃ G', SR E n G' τ ts w
theorem Gho.wk {σ τ : St} (h : Weak τ σ) : Gho σ τ := fun _ _ G _ _ hr => ⟨G, hr.weak h⟩
theorem Gh.refl (σ : St) : Gh σ σ := fun _ _ G _ _ h => ⟨G, h⟩
theorem PrimG.ghost {dst : Option Nat} {p : Prim} {xs : List LX} {N : St → Prop} (h : PrimG P dst p xs (fun τ => ∃ τ', Gh τ τ' ∧ N τ') σ) : PrimG P dst p xs N σ :=
  fun E _ n G a w o os h1 h2 h3 h4 h5 => (h E n G a w o os h1 h2 h3 h4 h5).mono fun v w' ⟨G', σ', q1, q2⟩ => by
    obtain ⟨_, τ', g1, g2⟩ := q1
    obtain ⟨G2, g3⟩ := g1 _ _ _ _ _ q2
    exact ⟨G2, τ', ⟨trivial, g2⟩, g3⟩

def AV.frzX (fs : List D) (c : Nat) : AV → AV
  | .rs r n c' => if r = .x 1000 then (if n = fs.length ∧ c' = c then .d (.list fs) else .junk) else .rs r n c'
  | x => x
def frzO (fs : List D) (c : Nat) : AObj → AObj
  | .cells cs => .cells (cs.map (AV.frzX fs c))
  | o => o
def St.frzX (σ : St) (fs : List D) (c : Nat) : St := { ρ := amap (AV.frzX fs c) σ.ρ, L := amap (frzO fs c) σ.L, H := adel (amap (frzO fs c) σ.H) 1000 }

theorem St.obj_frzX (σ : St) (fs : List D) (c : Nat) (r : Ref) {o : AObj} (h : (σ.frzX fs c).obj r = some o) : r ≠ .x 1000 ∧ ∃ o', σ.obj r = some o' ∧ o = frzO fs c o' := by
  cases r with
  | l t =>
    simp only [St.frzX, St.obj, aget_amap] at h
    cases hx : aget σ.L t with
    | none => simp [hx] at h
    | some o' => simp [hx] at h; exact ⟨by simp, o', hx, h.symm⟩
  | x t =>
    simp only [St.frzX, St.obj, aget_adel, aget_amap] at h
    split at h
    · cases h
    · rename_i hne
      cases hx : aget σ.H t with
      | none => simp [hx] at h
      | some o' => simp [hx] at h; exact ⟨by simp; omega, o', hx, h.symm⟩

theorem rowX_list (h : SR E n G σ ts w) {sz c : Nat} {fs : List D} (ho : σ.obj (.x 1000) = some (.cells (rowC sz fs c))) (hfs : ∀ y ∈ fs, y.cells.length = sz) (hc : fs.length ≤ c) :
    RD (updf G.f (G.b (.x 1000)) (rowC sz fs c).length) w (.list fs) (.slice (some (at_ (G.b (.x 1000)) 0)) fs.length c) := by
  obtain ⟨arr, el, h1, h2, h3⟩ := h.obj _ _ ho
  have hl := rowC_len hfs hc
  have hle : fs.length * sz ≤ c * sz := Nat.mul_le_mul_right _ hc
  have hf0 := h.objf _ _ ho
  have hext : Ext G.f w (updf G.f (G.b (.x 1000)) (rowC sz fs c).length) w := ⟨Nat.le_refl _, fun b => by
    by_cases e : b = G.b (.x 1000)
    · rw [e, hf0]; exact Nat.zero_le _
    · rw [updf_ne _ _ e]; exact Nat.le_refl _, fun _ _ _ => rfl, fun _ _ _ _ h => h⟩
  have hcell : ∀ (i j : Nat) (e d : D), fs[i]? = some e → e.cells[j]? = some d → i * sz + j < c * sz ∧ RD G.f w d (arr.getD (i * sz + j) undef) ∧ (arr.getD (i * sz + j) undef).oneCell' = true := fun i j e d he hd => by
    have hx := flat_at hfs he hd
    have hlt : i * sz + j < fs.length * sz := by rw [← flatCells_len hfs]; exact (List.getElem?_eq_some_iff.1 hx).1
    have hx2 : (rowC sz fs c)[i * sz + j]? = some (.d d) := by
      rw [rowC, List.getElem?_append_left (by rw [List.length_map, flatCells_len hfs]; exact hlt), List.getElem?_map, hx]; rfl
    obtain ⟨g1, g2, _⟩ := h3 _ _ hx2
    exact ⟨by omega, g1.dinv, g2⟩
  have hflat : ∀ y ∈ fs, y.flat := fun y hy e he => by
    obtain ⟨i, hi⟩ := List.getElem?_of_mem hy
    obtain ⟨j, hj⟩ := List.getElem?_of_mem he
    obtain ⟨_, g1, g2⟩ := hcell i j y e hi hj
    exact g1.one_of g2
  refine .list fs (G.b (.x 1000)) 0 c sz (fun i => arr.getD i undef) hc (fun e he => ⟨hfs e he, hflat e he⟩) (by rw [updf_same, hl]; omega) (fun i hi => ?_) (fun i e j d he hd => (hcell i j e d he hd).2.1.ext hext)
  rw [Nat.zero_add, cell_of_heap h1]
  have : i < arr.size := by rw [h2, hl]; omega
  simp [this]

theorem AV.frzX_has (fs : List D) (c : Nat) (r : Ref) {x : AV} (h : x.has r = false) : (x.frzX fs c).has r = false := by
  cases x with
  | rs r' n c' =>
    simp only [AV.frzX]
    split
    · split <;> rfl
    · exact h
  | _ => exact h

theorem SR.frzX (h : SR E n G σ ts w) {sz c : Nat} {fs : List D} (ho : σ.obj (.x 1000) = some (.cells (rowC sz fs c))) (hfs : ∀ y ∈ fs, y.cells.length = sz) (hc : fs.length ≤ c) :
    SR E n { G with f := updf G.f (G.b (.x 1000)) (rowC sz fs c).length } (σ.frzX fs c) ts w := by
  have hl := rowX_list h ho hfs hc
  have hwk : Wk { σ with H := adel σ.H 1000 } σ := ⟨fun _ _ h => h, fun r o hr => by
    cases r with
    | l t => exact hr
    | x k =>
      simp only [St.obj, aget_adel] at hr
      split at hr
      · cases hr
      · exact hr⟩
  have h1 := h.wk hwk
  have hf0 : G.f (G.b (.x 1000)) = 0 := h.objf _ _ ho
  have hlt := (h.obj _ _ ho).lt
  have h2 : SR E n { G with f := updf G.f (G.b (.x 1000)) (rowC sz fs c).length } { σ with H := adel σ.H 1000 } ts w := by
    refine h1.world' (fun b => b = G.b (.x 1000)) (fun b hb => ?_) ⟨Nat.le_refl _, fun b => ?_, fun b i hi => rfl, fun _ _ _ _ h => h⟩ (fun b hb hx => ⟨rfl, updf_ne _ _ hx⟩) (fun b hb => ?_) rfl rfl rfl
    · subst hb
      refine ⟨fun r o hr e => ?_, fun q v p hq hv => ?_, h.newObj _ _ ho⟩
      · have := h.inj r (.x 1000) o _ (hwk.obj r o hr) ho e
        subst this
        simp [St.obj, aget_adel] at hr
      · obtain ⟨e, sz⟩ := p
        exact h.lamObj q v e sz _ hq hv _ _ ho rfl
    · by_cases e : b = G.b (.x 1000)
      · rw [e, hf0]; exact Nat.zero_le _
      · rw [updf_ne _ _ e]; exact Nat.le_refl _
    · have : b ≠ G.b (.x 1000) := fun e => by rw [e] at hb; omega
      rw [updf_ne _ _ this]; exact h.top b hb
  have hfz : ∀ {x : AV} {v : Value}, AVR { G with f := updf G.f (G.b (.x 1000)) (rowC sz fs c).length } w x v → AVR { G with f := updf G.f (G.b (.x 1000)) (rowC sz fs c).length } w (x.frzX fs c) v := fun {x v} hx => by
    cases x with
    | rs r n' c' =>
      simp only [AV.frzX]
      split
      · rename_i e
        subst e
        split
        · rename_i e
          obtain ⟨rfl, rfl⟩ := e
          cases hx
          exact .d _ _ hl
        · exact .junk _
      · exact hx
    | _ => exact hx
  have hob : ∀ r o, (σ.frzX fs c).obj r = some o → ∃ o', St.obj { σ with H := adel σ.H 1000 } r = some o' ∧ o = frzO fs c o' := fun r o hr => by
    obtain ⟨g1, o', g2, g3⟩ := σ.obj_frzX fs c r hr
    refine ⟨o', ?_, g3⟩
    cases r with
    | l t => exact g2
    | x k =>
      simp only [St.obj, aget_adel]
      rw [if_neg (fun e => g1 (by rw [e]))]
      exact g2
  refine { h2 with slot := fun s x hx => ?_, obj := fun r o hr => ?_, objf := fun r o hr => ?_, inj := fun r r' o o' hr hr' hb => ?_, lamObj := fun q v e sz b h1 h3 r o hr => ?_, newObj := fun r o hr => ?_, own0 := fun r cs x s hr hx => ?_ }
  · simp only [St.frzX, aget_amap] at hx
    cases hy : aget σ.ρ s with
    | none => simp [hy] at hx
    | some y =>
      simp [hy] at hx; subst hx
      exact hfz (h2.slot s y hy)
  · obtain ⟨o', g1, rfl⟩ := hob r o hr
    have g2 := h2.obj r o' g1
    cases o' with
    | cells cs =>
      obtain ⟨arr, el, k1, k2, k3⟩ := g2
      refine ⟨arr, el, k1, by rw [k2, List.length_map], fun i x hi => ?_⟩
      rw [List.getElem?_map] at hi
      cases hy : cs[i]? with
      | none => simp [hy] at hi
      | some y =>
        simp [hy] at hi; subst hi
        obtain ⟨m1, m2, m3, m4⟩ := k3 i y hy
        refine ⟨hfz m1, m2, fun q hq => ?_, fun e he => ?_⟩
        · cases y with
          | rs r' n' c' =>
            simp only [AV.frzX] at hq
            split at hq
            · split at hq <;> cases hq
            · cases hq
          | _ => exact m3 q hq
        · cases y with
          | rs r' n' c' =>
            simp only [AV.frzX] at he
            split at he
            · split at he <;> cases he
            · cases he
          | _ => exact m4 e he
    | _ => exact g2
  · obtain ⟨o', g1, _⟩ := hob r o hr
    exact h2.objf r o' g1
  · obtain ⟨o1, g1, _⟩ := hob r o hr
    obtain ⟨o2, g2, _⟩ := hob r' o' hr'
    exact h2.inj r r' o1 o2 g1 g2 hb
  · obtain ⟨o', g1, _⟩ := hob r o hr
    exact h2.lamObj q v e sz b h1 h3 r o' g1
  · obtain ⟨o', g1, _⟩ := hob r o hr
    exact h2.newObj r o' g1
  · obtain ⟨o', g1, g2⟩ := hob _ _ hr
    cases o' with
    | cells cs' =>
      simp only [frzO, AObj.cells.injEq] at g2
      subst g2
      obtain ⟨y, hy, rfl⟩ := List.mem_map.1 hx
      exact AV.frzX_has _ _ _ (h2.own0 r cs' y s g1 hy)
    | _ => simp [frzO] at g2

theorem Gh.frzX {sz c : Nat} {fs : List D} (ho : σ.obj (.x 1000) = some (.cells (rowC sz fs c))) (hfs : ∀ y ∈ fs, y.cells.length = sz) (hc : fs.length ≤ c) : Gh σ (σ.frzX fs c) := fun _ _ _ _ _ h => ⟨_, h.frzX ho hfs hc⟩
attribute [go_sem] St.frzX AV.frzX frzO
end Go.Av
