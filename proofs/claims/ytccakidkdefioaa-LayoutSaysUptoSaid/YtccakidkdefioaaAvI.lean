import Derived.Test.YtccakidkdefioaaAvH
import Derived.Laws.Cover4
import Derived.Laws.MakeOwn
import Derived.Laws.IdiomStrings
/- Rows told by rules of their own: their cells may be slices, too; each is an object with a name of our choosing. -/
set_option linter.unusedSectionVars false
namespace Go.Av

variable {E : Entry} {n : Nat} {G : Ghost} {σ : St} {ts : Array Value} {w : World} {P : Program} [Inv P]

theorem AStep.step {lo : LOper} {K : St → Prop} {σ' : St} (hg : lo.guard = none) (hne : ∀ p xs chk, lo.op ≠ .prim p xs chk) (h : step1 σ lo.dst lo.op = some σ') (hK : K σ') : AStep P lo K σ :=
  ⟨hg, fun E _ n G a w o h1 h2 h3 h4 => by
    obtain ⟨nx, v, w', G', r1, r2, r3⟩ := step1_sound h4 (o := o) (h2 ▸ h3) (liftOp_ne h1 hne) (h2 ▸ h)
    rw [h2] at r3
    rcases r2 with rfl | ⟨rfl, rfl⟩
    · exact .inl ⟨v, w', r1, G', σ', hK, r3⟩
    · exact .inr (.inl ⟨w', r1, G', σ', hK, r3⟩)⟩

theorem AStep.ghost {lo : LOper} {K : St → Prop} (h : AStep P lo (fun τ => ∃ τ', Gh τ τ' ∧ K τ') σ) : AStep P lo K σ :=
  ⟨h.1, fun E _ n G a w o h1 h2 h3 h4 => (h.2 E n G a w o h1 h2 h3 h4).mono fun v w' ⟨G', σ', ⟨τ', g1, g2⟩, q2⟩ =>
    let ⟨G2, q3⟩ := g1 _ _ _ _ _ q2
    ⟨G2, τ', g2, q3⟩⟩
theorem Gh.trans {σ τ υ : St} (h : Gh σ τ) (g : Gh τ υ) : Gh σ υ := fun E n G ts w q => let ⟨_, q1⟩ := h E n G ts w q; g E n _ ts w q1
theorem Gh.wk {σ τ : St} (h : Wk τ σ) : Gh σ τ := fun _ _ G _ _ q => ⟨G, q.wk h⟩

theorem AStep.nils {d e sz : Nat} {K : St → Prop} (hK : K (σ.put d .ns)) : AStep P ⟨some d, .nils e sz, none⟩ K σ :=
  ⟨rfl, fun E _ n G a w o h1 h2 h3 h4 => by
    have ho := liftE_nils (liftOp_ne h1 (fun p xs chk e => by cases e))
    refine .inl ⟨.slice none 0 0, w, ?_, G, _, hK, ?_⟩
    · simp only [execOp, ho, Act.eval]; rfl
    · exact h4.put (s := d) .ns (by simpa [dstOk] using h3)⟩

/-! ### Rows of cells -/
def rowA (cs : List AV) (c : Nat) : List AV := cs ++ List.replicate (c - cs.length) .junk
theorem rowA_len {cs : List AV} {c : Nat} (h : cs.length ≤ c) : (rowA cs c).length = c := by simp [rowA]; omega
theorem rowC_rowA {fs : List D} (h : ∀ y ∈ fs, y.cells = [y]) (c : Nat) : rowC 1 fs c = rowA (fs.map .d) c := by
  have : fs.flatMap D.cells = fs := by
    induction fs with
    | nil => rfl
    | cons y r ih => rw [List.flatMap_cons, h y (by simp), ih (fun z hz => h z (by simp [hz]))]; rfl
  simp [rowC, rowA, this]
def okCell (d : Nat) (y : AV) : Prop := y.simple = true ∧ y.has (.l d) = false ∧ ∀ e, y ≠ .nt e

theorem avr_name {d b : Nat} {y : AV} {v : Value} (hy : okCell d y) (h : AVR G w y v) : AVR { G with b := updf G.b (.l d) b } w y v :=
  AVR.mono (G := G) (w := w) (G' := { G with b := updf G.b (.l d) b }) (Ext.refl _ _) h (fun r hr => updf_ne _ _ (fun e => by rw [e, hy.2.1] at hr; cases hr)) (fun q p hq _ => by rw [AV.lab_of_simple hy.1] at hq; cases hq)

theorem rowA_obj {d b : Nat} {cs : List AV} {c : Nat} {arr : Array Value} {el : TypeId} (hheap : w.heap[b]? = some (.cells arr el (0, 0))) (hsz : arr.size = c) (hc : cs.length ≤ c) (hone : ∀ x ∈ arr.toList, x.oneCell' = true) (hcs : ∀ y ∈ cs, okCell d y)
    (hrd : ∀ (i : Nat) (y : AV), cs[i]? = some y → AVR G w y (arr.getD i undef)) : ObjR { G with b := updf G.b (.l d) b } w (.l d) (.cells (rowA cs c)) := by
  have hl := rowA_len hc
  refine ⟨arr, el, by show w.heap[updf G.b (.l d) b (.l d)]? = _; rw [updf_same]; exact hheap, by rw [hsz, hl], fun i x hx => ?_⟩
  have hi : i < arr.size := by rw [hsz, ← hl]; exact (List.getElem?_eq_some_iff.1 hx).1
  have h1c := hone (arr.getD i undef) (by simp [hi])
  unfold rowA at hx
  by_cases hlt : i < cs.length
  · rw [List.getElem?_append_left hlt] at hx
    have hm := List.mem_of_getElem? hx
    exact ⟨avr_name (hcs x hm) (hrd i x hx), h1c, (fun q hq => by rw [AV.lab_of_simple (hcs x hm).1] at hq; cases hq), fun e he => absurd he ((hcs x hm).2.2 e)⟩
  · rw [List.getElem?_append_right (by omega)] at hx
    have : x = .junk := (List.mem_replicate.1 (List.mem_of_getElem? hx)).2
    subst this
    exact ⟨.junk _, h1c, (fun q hq => by cases hq), (fun e he => by cases he)⟩

theorem noName (σ : St) (d : Nat) : (∀ t x, aget (σ.drop d).ρ t = some x → x.has (.l d) = false) ∧ (∀ t cs x, aget (adel (σ.drop d).L d) t = some (.cells cs) → x ∈ cs → x.has (.l d) = false) :=
  ⟨fun t x hx => by
      simp only [St.drop, aget_amap] at hx
      cases hy : aget σ.ρ t with
      | none => simp [hy] at hx
      | some y => simp [hy] at hx; subst hx; exact AV.drop_has _ _, fun t cs x hx hm => by
      simp only [aget_adel] at hx
      split at hx
      · cases hx
      · simp only [St.drop, aget_amap] at hx
        cases hy : aget σ.L t with
        | none => simp [hy] at hx
        | some o =>
          cases o with
          | siter s p => simp [hy, dropObj] at hx
          | miter l c => simp [hy, dropObj] at hx
          | mobj l c => simp [hy, dropObj] at hx
          | cells cs0 =>
            simp [hy, dropObj] at hx; subst hx
            obtain ⟨y, _, rfl⟩ := List.mem_map.1 hm
            exact AV.drop_has _ _⟩
theorem obj_off (σ : St) (d : Nat) : ∀ r o, St.obj { σ.drop d with L := adel (σ.drop d).L d } r = some o → r ≠ .l d ∧ (σ.drop d).obj r = some o := fun r o hr => by
  cases r with
  | l t =>
    simp only [St.obj, aget_adel] at hr
    split at hr
    · cases hr
    · rename_i hne; exact ⟨fun e => hne (by injection e with e; exact e.symm), hr⟩
  | x k => exact ⟨by simp, hr⟩
theorem setObj_off (σ : St) (d : Nat) (o : AObj) : ∀ r, ((σ.drop d).setObj (.l d) o).obj r = (St.setObj { σ.drop d with L := adel (σ.drop d).L d } (.l d) o).obj r := fun r => by
  simp only [St.obj_setObj]
  split
  · rfl
  · rename_i hne
    cases r with
    | l t =>
      have : d ≠ t := fun e => hne (by rw [e])
      simp only [St.obj, aget_adel, if_neg this]
    | x k => rfl

theorem SR.rowToA (h : SR E n G σ ts w) (d : Nat) {v v' : Value} {w' : World} {e m : Nat} {xs' : List Value} {cs : List AV} (hv : RowAt G σ d v)
    (hg : Grow w w' v v' 0) (hown : w'.ownsRow 0 e 1 v' m xs') (hm : m ≠ 0) (hone : OneAll w' v') (hfl : cs.length = m) (hcs : ∀ y ∈ cs, okCell d y)
    (hrd : ∀ (i : Nat) (y : AV), cs[i]? = some y → AVR G w' y (xs'.getD i undef)) :
    ∃ b c, m ≤ c ∧ c ≤ maxLen ∧ v' = .slice (some (at_ b 0)) m c ∧ SR E n { G with b := updf G.b (.l d) b } ((σ.drop d).setObj (.l d) (.cells (rowA cs c))) ts w' := by
  rcases hown.2 with ⟨_, h0⟩ | ⟨g, cap, cur, rfl, hbg, hgg, hnc, hcm, hsz, htake⟩
  · exact absurd h0 hm
  refine ⟨g, cap, hnc, hcm, rfl, ?_⟩
  have hd := h.drop d
  have hobj1 := obj_off σ d
  have h1 : SR E n G { σ.drop d with L := adel (σ.drop d).L d } ts w := hd.wk ⟨fun _ _ h => h, fun r o hr => (hobj1 r o hr).2⟩
  have old : ∀ b, v.ownBlock = some b → ∃ o, σ.obj (.l d) = some o ∧ b = G.b (.l d) := fun b hb => by
    rcases hv with rfl | ⟨o, k, c, h2, rfl⟩
    · cases hb
    · simp [Value.ownBlock, at_] at hb; exact ⟨o, h2, hb.symm⟩
  have hX : ∀ b, v.ownBlock = some b → (∀ r o, St.obj { σ.drop d with L := adel (σ.drop d).L d } r = some o → G.b r ≠ b) ∧ (∀ q v p, G.lam q = some (v, p) → v.ownBlock ≠ some b) ∧ (E.w0.heap.size ≤ b ∨ E.M b) := fun b hb => by
    obtain ⟨o, ho, rfl⟩ := old b hb
    refine ⟨fun r o' hr e => ?_, fun q vq p hq hvb => ?_, h.newObj _ _ ho⟩
    · obtain ⟨h2, h3⟩ := hobj1 r o' hr
      obtain ⟨o2, h4, _⟩ := σ.obj_drop d r h3
      exact h2 (h.inj _ _ _ _ h4 ho e)
    · obtain ⟨e1, s1⟩ := p
      exact h.lamObj q vq e1 s1 _ hq hvb _ _ ho rfl
  have hf0 : ∀ b, v.ownBlock = some b → G.f b = 0 := fun b hb => by
    obtain ⟨o, ho, rfl⟩ := old b hb
    exact h.objf _ _ ho
  have hext : Ext G.f w G.f w' := ⟨hg.size, fun _ => Nat.le_refl _, fun b i hi => by
    by_cases hb : v.ownBlock = some b
    · rw [hf0 b hb] at hi; omega
    · have hlt : b < w.heap.size := by
        rcases Nat.lt_or_ge b w.heap.size with h2 | h2
        · exact h2
        · rw [h.top b h2] at hi; omega
      simp only [World.cell?, at_]
      rw [hg.block b hlt hb], fun b es c hb hm => by rw [hg.block b (Array.getElem?_eq_some_iff.1 hm).1 (fun e => by rw [hf0 b e] at hb; omega)]; exact hm⟩
  have h2 : SR E n { G with f := G.f } { σ.drop d with L := adel (σ.drop d).L d } ts w' := h1.world' (fun b => v.ownBlock = some b) hX hext (fun b hb hx => ⟨hg.block b hb hx, rfl⟩) (fun b hb => h.top b (Nat.le_trans hg.size hb)) hg.os hg.tape hg.output
  have hgn : v.ownBlock = some g ∨ w.heap.size ≤ g := by
    rcases hg.own with h3 | ⟨b, h3, h4⟩
    · exact .inl h3.symm
    · simp [Value.ownBlock] at h3; subst h3; exact .inr h4
  have h3 := h2.addObj0 d g (.cells (rowA cs cap)) (noName σ d).1 (noName σ d).2
    (by rcases hgn with h4 | h4
        · exact hf0 g h4
        · exact h.top g h4)
    (fun r o hr => by
      rcases hgn with h4 | h4
      · exact (hX g h4).1 r o hr
      · have := (h1.obj r o hr).lt
        exact fun e => by rw [e] at this; omega)
    (fun q vq p hq => by
      rcases hgn with h4 | h4
      · exact (hX g h4).2.1 q vq p hq
      · intro hb
        obtain ⟨e1, s1⟩ := p
        have := (h.lam q vq e1 s1 hq).lt hb
        omega)
    (by rcases hgn with h4 | h4
        · exact (hX g h4).2.2
        · exact .inl (Nat.le_trans h.ext.size h4))
    (rowA_obj (G := G) hgg (by omega) (by omega) (fun x hx => hone g cur e _ rfl hgg x hx) hcs (fun i y hy => by
      have hi : i < m := by rw [← hfl]; exact (List.getElem?_eq_some_iff.1 hy).1
      have hcx : cur.getD i undef = xs'.getD i undef := by
        rw [← htake, List.getD_eq_getElem?_getD, List.getElem?_take, if_pos (by omega)]
        simp
      rw [hcx]; exact hrd i y hy))
  exact h3.congr rfl (setObj_off σ d _)

theorem SR.rowOwnA (h : SR E n G σ ts w) {d c : Nat} {cs : List AV} (ho : σ.obj (.l d) = some (.cells (rowA cs c))) (hc : cs.length ≤ c ∧ c ≤ maxLen) :
    ∃ el xs, w.ownsRow 0 el 1 (.slice (some (at_ (G.b (.l d)) 0)) cs.length c) cs.length xs ∧ OneAll w (.slice (some (at_ (G.b (.l d)) 0)) cs.length c) ∧ ∀ (i : Nat) (y : AV), cs[i]? = some y → AVR G w y (xs.getD i undef) := by
  obtain ⟨arr, el, h1, h2, h3⟩ := h.obj _ _ ho
  rw [rowA_len hc.1] at h2
  refine ⟨el, arr.toList.take (cs.length * 1), ⟨by rw [List.length_take, show arr.toList.length = c by simpa using h2]; omega, .inr ⟨G.b (.l d), c, arr, rfl, Nat.zero_le _, h1, hc.1, hc.2, by omega, rfl⟩⟩, fun b a2 el2 fr hb hh x hx => ?_, fun i y hy => ?_⟩
  · simp [Value.ownBlock, at_] at hb; subst hb
    rw [h1] at hh; cases hh
    obtain ⟨i, hi, rfl⟩ := List.mem_iff_getElem.1 hx
    have hi' : i < arr.size := by simpa using hi
    have := (h3 i ((rowA cs c)[i]'(by rw [rowA_len hc.1, ← h2]; exact hi')) (List.getElem?_eq_getElem _)).2.1
    simpa [hi'] using this
  · have hi : i < cs.length := (List.getElem?_eq_some_iff.1 hy).1
    have hx : (rowA cs c)[i]? = some y := by rw [rowA, List.getElem?_append_left hi, hy]
    have := (h3 i _ hx).1
    rw [List.getD_eq_getElem?_getD, List.getElem?_take, if_pos (by omega)]
    simpa using this

def Src1 (σ : St) (x y : AV) : Prop := (∃ z, y = .d z ∧ z.cells = [z] ∧ ((∃ q e, x = .own q e 1 [z]) ∨ x = .d (.list [z]))) ∨ ∃ r c cs, x = .rs r 1 c ∧ σ.obj r = some (.cells (y :: cs))
theorem Src1.own {q : Lab} {e : Nat} {z : D} (h : z.cells = [z]) : Src1 σ (.own q e 1 [z]) (.d z) := .inl ⟨z, rfl, h, .inl ⟨q, e, rfl⟩⟩
theorem Src1.rs {r : Ref} {c : Nat} {y : AV} {cs : List AV} (h : σ.obj r = some (.cells (y :: cs))) : Src1 σ (.rs r 1 c) y := .inr ⟨r, c, cs, rfl, h⟩

theorem Src1.src {x y : AV} {v : Value} {tx e' : TypeId} (hk : P.underlying tx = some (.slice e')) (hs : Src1 σ x y) (h : SR E n G σ ts w) (hx : AVR G w x v) : ∃ u, Src P 1 tx v 1 [u] w ∧ AVR G w y u ∧ u.oneCell' = true := by
  have hl : ∀ z : D, z.cells = [z] → RD G.f w (.list [z]) v → ∃ u, Src P 1 tx v 1 [u] w ∧ AVR G w (.d z) u ∧ u.oneCell' = true := fun z hz hr => by
    obtain ⟨news, k1, k2, k3⟩ := SrcD.ofList (P := P) hk (sz := 1) hr (fun y hy => by rw [List.mem_singleton.1 hy, hz]; rfl)
    have hlen := k1.newsLen
    obtain ⟨u, rfl⟩ : ∃ u, news = [u] := by
      match news, hlen with
      | [u], _ => exact ⟨u, rfl⟩
      | [], hlen => simp at hlen
      | _ :: _ :: _, hlen => simp at hlen
    have h2 := k3 0 z 0 z rfl (by rw [hz]; rfl)
    have h3 : RD G.f w z u := by simpa using h2
    refine ⟨u, k1, .d _ _ h3, (h3.one ?_).1⟩
    exact (k2 z (by simp)).2 z (by rw [hz]; simp)
  rcases hs with ⟨z, rfl, hz, ⟨q, e, rfl⟩ | rfl⟩ | ⟨r, c, cs, rfl, ho⟩
  · cases hx with
    | own _ _ _ _ _ hq hv hc => exact hl z hz hv
  · exact hl z hz hx.dinv
  · cases hx
    obtain ⟨arr, el, h1, h2, h3⟩ := h.obj _ _ ho
    have hcell := h3 0 y rfl
    have h0 : 0 < arr.size := by rw [h2]; simp
    refine ⟨arr.getD 0 undef, Src.ofSlice w hk _ 1 _ [arr.getD 0 undef] rfl (fun j u hj => ?_) (fun u hu => ?_), hcell.1, hcell.2.1⟩
    · have : j = 0 := by have := (List.getElem?_eq_some_iff.1 hj).1; simpa using this
      subst this
      simp at hj
      rw [at_add, cell_of_heap h1]
      simp [h0, ← hj]
    · rw [List.mem_singleton.1 hu]; exact hcell.2.1

theorem liftE_app {o : Oper} {e sz by_ : Nat} {s x : LX} (h : liftE P o = some (.app e sz by_ false s x)) : ∃ t tx S X e', o.op = .call { callee := .builtin .append, args := #[S, X], argTypes := #[t, tx] } ∧ liftSl P t = some (e, sz, by_) ∧ liftXs S = some s ∧ liftX X = some x ∧ zeroFits P e = true ∧ P.underlying tx = some (.slice e') := by
  have key : ∀ (args : Array Operand) (tt : Array TypeId), liftAppL P args.toList tt.toList = some (.app e sz by_ false s x) → ∃ t tx S X e', args = #[S, X] ∧ tt = #[t, tx] ∧ liftSl P t = some (e, sz, by_) ∧ liftXs S = some s ∧ liftX X = some x ∧ zeroFits P e = true ∧ P.underlying tx = some (.slice e') := fun args tt h => by
    unfold liftAppL at h
    split at h
    · rename_i S X t tx hA hT
      unfold liftApp at h
      split at h
      · rename_i e1 sz1 by1 s1 x1 q1 q2 q3
        split at h
        · rename_i hz
          split at h
          · rename_i e' hu
            cases h
            exact ⟨t, tx, S, X, e', Array.ext' (by simpa using hA), Array.ext' (by simpa using hT), q1, q2, q3, hz, hu⟩
          · cases h
          · cases h
        · cases h
      · cases h
    · cases h
  unfold liftE at h
  split at h
  · split at h
    · split at h <;> cases h
    · obtain ⟨_, _, h⟩ := map_none h; cases h
  · split at h <;> cases h
  · obtain ⟨_, _, h⟩ := map_none h; cases h
  · split at h <;> cases h
  · rename_i args tt ho
    obtain ⟨t, tx, S, X, e', rfl, rfl, q⟩ := key args tt h
    exact ⟨t, tx, S, X, e', ho, q⟩
  · split at h
    · obtain ⟨_, _, h⟩ := map_none h; cases h
    · cases h
  · split at h
    · split at h <;> cases h
    · cases h
  · split at h
    · split at h <;> cases h
    · obtain ⟨_, _, h⟩ := map_none h; cases h
  · obtain ⟨_, _, h⟩ := map_none h; cases h

theorem AStep.app1 {d r e by_ c : Nat} {s x : LX} {y : AV} {cs : List AV} {K : St → Prop} (hz : zeroOne P e = true)
    (hs : (σ.ev s = .ns ∧ cs = []) ∨ (σ.ev s = .rs (.l r) cs.length c ∧ σ.obj (.l r) = some (.cells (rowA cs c)) ∧ cs.length ≤ c ∧ c ≤ maxLen))
    (hx : Src1 σ (σ.ev x) y) (hcs : ∀ z ∈ cs, okCell r z) (hy : okCell r y) (hb : cs.length + 1 ≤ maxLen ∧ (cs.length + 1) * by_ ≤ 140737488355328)
    (hK : ∀ c', cs.length + 1 ≤ c' → c' ≤ maxLen → K (((σ.drop r).setObj (.l r) (.cells (rowA (cs ++ [y]) c'))).put d (.rs (.l r) (cs.length + 1) c'))) : AStep P ⟨some d, .app e 1 by_ false s x, none⟩ K σ :=
  ⟨rfl, fun E _ n G a w o h1 h2 h3 h => by
    obtain ⟨t, tx, S, X, e', hop, hsl, hS, hX, hzf, hk⟩ := liftE_app (liftOp_ne h1 (fun p xs chk e => by cases e))
    obtain ⟨i, ht, hi, hi1, rfl⟩ := liftSl_inv hsl
    obtain ⟨i', z, hi', hz1, hz2, hz3⟩ := zeroOne_inv hz
    rw [hi] at hi'; cases hi'
    have rs := h.evs hS
    have rx := h.ev hX
    obtain ⟨u, hsrc, hyu, hu1⟩ := Src1.src (P := P) hk hx h rx
    have hrow : ∃ el xs, w.ownsRow 0 el 1 (a.eval S) cs.length xs ∧ OneAll w (a.eval S) ∧ (∀ (j : Nat) (y : AV), cs[j]? = some y → AVR G w y (xs.getD j undef)) ∧ RowAt G σ r (a.eval S) := by
      rcases hs with ⟨hs, rfl⟩ | ⟨hs, ho, hc1, hc2⟩
      · rw [hs] at rs
        generalize hv : a.eval S = v at rs
        cases rs
        exact ⟨e, [], World.ownsRow_nil w 0 e 1, (fun b _ _ _ hb => by cases hb), (fun j y hy => by simp at hy), .inl rfl⟩
      · rw [hs] at rs
        generalize hv : a.eval S = v at rs
        cases rs
        obtain ⟨el, xs, g1, g2, g3⟩ := h.rowOwnA ho ⟨hc1, hc2⟩
        exact ⟨el, xs, g1, g2, g3, .inr ⟨_, _, _, ho, rfl⟩⟩
    obtain ⟨el, xs, g1, g2, g3, g4⟩ := hrow
    have hxl : xs.length = cs.length * 1 := g1.1
    rw [← hi1] at g1
    have hsrc : Src P i.size tx (a.eval X) 1 [u] w := by rw [hi1]; exact hsrc
    obtain ⟨v', w', el', r1, r2, r3, r4⟩ := run_append_one w t tx o.type e el i z ht hi hz1 hz2 (a.eval S) cs.length xs g1 (a.eval X) 1 [u] hsrc hb.1 hb.2 (by omega) g2 hz3
    rw [hi1] at r2 r3
    have hr3 : Grow w w' (a.eval S) v' 0 := { r3 with cells := fun b hb j hj => by omega }
    have hf0 : ∀ b, (a.eval S).ownBlock = some b → G.f b = 0 := fun b hb => by
      rcases g4 with hn | ⟨o, k, c, h2, hn⟩
      · rw [hn] at hb; cases hb
      · rw [hn] at hb; simp [Value.ownBlock, at_] at hb; subst hb; exact h.objf _ _ h2
    have hext : Ext G.f w G.f w' := ⟨r3.size, fun _ => Nat.le_refl _, fun b j hj => by
      by_cases hb : (a.eval S).ownBlock = some b
      · rw [hf0 b hb] at hj; omega
      · have hlt : b < w.heap.size := by
          rcases Nat.lt_or_ge b w.heap.size with h2 | h2
          · exact h2
          · rw [h.top b h2] at hj; omega
        simp only [World.cell?, at_]
        rw [r3.block b hlt hb], fun b es c hb hm => by rw [r3.block b (Array.getElem?_eq_some_iff.1 hm).1 (fun e => by rw [hf0 b e] at hb; omega)]; exact hm⟩
    have hup : ∀ {y : AV} {v : Value}, AVR G w y v → AVR G w' y v := fun h => AVR.mono (G := G) (w := w) (G' := G) hext h (fun _ _ => rfl) (fun _ _ _ hp => hp)
    have hrd : ∀ (j : Nat) (z : AV), (cs ++ [y])[j]? = some z → AVR G w' z ((xs ++ [u]).getD j undef) := fun j z hz => by
      by_cases hj : j < cs.length
      · rw [List.getElem?_append_left hj] at hz
        rw [List.getD_eq_getElem?_getD, List.getElem?_append_left (by omega), ← List.getD_eq_getElem?_getD]
        exact hup (g3 j z hz)
      · rw [List.getElem?_append_right (by omega)] at hz
        have hj0 : j - cs.length = 0 := by have := (List.getElem?_eq_some_iff.1 hz).1; simp at this; omega
        rw [hj0] at hz
        simp at hz; subst hz
        rw [List.getD_eq_getElem?_getD, List.getElem?_append_right (by omega), show j - xs.length = 0 by omega]
        exact hup hyu
    obtain ⟨b, c', q1, q2, rfl, q3⟩ := h.rowToA r g4 hr3 r2 (by omega) r4 (by simp) (fun z hz => by
      rcases List.mem_append.1 hz with hz | hz
      · exact hcs z hz
      · rw [List.mem_singleton.1 hz]; exact hy) hrd
    refine .inl ⟨.slice (some (at_ b 0)) (cs.length + 1) c', w', ?_, { G with b := updf G.b (.l r) b }, _, hK c' q1 q2, ?_⟩
    · simp only [execOp, hop, resolve, invoke, builtin, Sem.run_bind, Sem.run_pure, Result.andThen_ok, List.map_toArray, List.map_cons, List.map_nil]
      rw [r1]
      rfl
    · have hput := q3.put (s := d) (x := .rs (.l r) (cs.length + 1) c') (v := .slice (some (at_ b 0)) (cs.length + 1) c') (by
        have := AVR.rs (G := { G with b := updf G.b (.l r) b }) (w := w') (.l r) (cs.length + 1) c'
        simpa [updf_same] using this) (by simpa [dstOk] using h3)
      simpa [Act.put] using hput⟩

theorem AStep.bsl1 {d r e : Nat} {x : LX} {y : AV} {K : St → Prop} (hx : σ.ev x = y) (hy : okCell r y) (h1c : ∀ (G : Ghost) (w : World) (v : Value), AVR G w y v → v.cells = #[v] ∧ v.oneCell' = true)
    (hK : K (((σ.drop r).setObj (.l r) (.cells (rowA [y] 1))).put d (.rs (.l r) 1 1))) : AStep P ⟨some d, .bsl e 1 [x], none⟩ K σ :=
  ⟨rfl, fun E _ n G a w o h1 h2 h3 h => by
    obtain ⟨t, len, parts, by_, hop, hsl, hl, hio, hlen, hzf⟩ := liftE_bsl (liftOp_ne h1 (fun p xs chk e => by cases e))
    obtain ⟨i, ht, hi, hi1, rfl⟩ := liftSl_inv hsl
    obtain ⟨k1, k2⟩ := liftL_rel h hl
    have one : ∀ q : List Operand, liftL q = some [x] → ∃ X, q = [X] := fun q hl => by
      match q, hl with
      | [X], _ => exact ⟨X, rfl⟩
      | [], hl => simp [liftL] at hl
      | S :: T :: r, hl =>
        simp only [liftL] at hl
        split at hl
        · rename_i h1 h2
          split at h2
          · cases h2; simp at hl
          · cases h2
        · cases hl
    obtain ⟨X, hpl⟩ := one _ hl
    have hpp : parts = #[(0, X)] := by
      have e1 := inOrder_zip 0 parts.toList hio
      rw [hpl] at e1
      exact Array.ext' (by simpa using e1)
    subst hpp
    have hlen : len = 1 := by rw [← hlen]; rfl
    subst hlen
    have rx := k2 0 y (by simp [evL, hx])
    have rx : AVR G w y (a.eval X) := by simpa using rx
    obtain ⟨c1, c2⟩ := h1c _ _ _ rx
    unfold zeroFits at hzf
    rw [hi] at hzf
    simp only at hzf
    cases hzv : i.zero with
    | none => simp [hzv] at hzf
    | some zv =>
      obtain ⟨out, q1, q2, _, q4⟩ := fillS (size := 1) [a.eval X] 0 ((Array.range 1).map (fun k => zv.cells[k % zv.cells.size]!)) (fun v hv => by rw [List.mem_singleton.1 hv, c1]; rfl) (by simp)
      have hout : out.getD 0 undef = a.eval X := by
        have := q4 0 (a.eval X) 0 rfl (by omega)
        rw [c1] at this
        simpa using this
      have hsz : out.size = 1 := by rw [q2]; simp
      have hrun : (Instr.buildSlice t 1 #[(0, a.eval X)]).run P w = .ok (.slice (some (at_ w.heap.size 0)) 1 1) (w.alloc (.cells out e)) := by
        unfold Instr.buildSlice
        simp only [Sem.run_bind, run_underlying ht, Result.andThen_ok, sizeOf, typeInfo, run_program, hi, hi1, Sem.run_pure, zeroValue]
        simp [hi, hzv, newRow, at_, hi1]
        have q1' : Instr.fill (fun i => some (i, 1)) (Array.map (fun x => zv.cells[x % zv.cells.size]!) (Array.range 1)) [(0, a.eval X)] = some out := by simpa using q1
        rw [q1']
        simp
      have hd := h.drop r
      have hobj1 := obj_off σ r
      have h6 : SR E n G { σ.drop r with L := adel (σ.drop r).L r } a.tmps w := hd.wk ⟨fun _ _ h => h, fun r o hr => (hobj1 r o hr).2⟩
      have h7 := h6.alloc (.cells out e) 0
      have hnew := heap_alloc_at w (.cells out e)
      have hf : (updf G.f w.heap.size 0) = G.f := by
        funext b
        by_cases e : b = w.heap.size
        · rw [e, updf_same]; exact (h.top _ (Nat.le_refl _)).symm
        · rw [updf_ne _ _ e]
      rw [hf] at h7
      have hext : Ext G.f w G.f (w.alloc (.cells out e)) := by have := Ext.alloc w h.top (.cells out e) 0; rw [hf] at this; exact this
      have h8 := h7.addObj0 r w.heap.size (.cells (rowA [y] 1)) (noName σ r).1 (noName σ r).2 (h.top _ (Nat.le_refl _))
        (fun r' o hr => by have := (h6.obj r' o hr).lt; exact fun e => by have e' : G.b r' = w.heap.size := e; omega)
        (fun q vq p hq hb => by
          obtain ⟨e1, s1⟩ := p
          have := (h.lam q vq e1 s1 hq).lt hb
          omega)
        (.inl h.ext.size)
        (rowA_obj (G := G) hnew hsz (by simp) (fun v hv => by
          obtain ⟨j, hj, rfl⟩ := List.mem_iff_getElem.1 hv
          have hj' : j < out.size := by simpa using hj
          have : j = 0 := by omega
          subst this
          have e0 : out.toList[0] = out.getD 0 undef := by simp [hj']
          rw [e0, hout]; exact c2) (fun z hz => by rw [List.mem_singleton.1 hz]; exact hy) (fun j z hz => by
          have hj0 : j = 0 := by have := (List.getElem?_eq_some_iff.1 hz).1; simpa using this
          subst hj0
          simp at hz; subst hz
          rw [hout]
          exact AVR.mono (G := G) (w := w) (G' := G) hext rx (fun _ _ => rfl) (fun _ _ _ hp => hp)))
      have h9 := h8.congr (τ := (σ.drop r).setObj (.l r) (.cells (rowA [y] 1))) rfl (setObj_off σ r _)
      refine .inl ⟨.slice (some (at_ w.heap.size 0)) 1 1, w.alloc (.cells out e), ?_, { G with b := updf G.b (.l r) w.heap.size }, _, hK, ?_⟩
      · simp only [execOp, hop]
        simp only [List.map_toArray, List.map_cons, List.map_nil, Sem.run_bind, hrun, Result.andThen_ok]
        rfl
      · have hput := h9.put (s := d) (x := .rs (.l r) 1 1) (v := .slice (some (at_ w.heap.size 0)) 1 1) (by
          have := AVR.rs (G := { G with b := updf G.b (.l r) w.heap.size }) (w := w.alloc (.cells out e)) (.l r) 1 1
          simpa [updf_same] using this) (by simpa [dstOk] using h3)
        simpa [Act.put] using hput⟩
end Go.Av
/- Rows of rows: they go over into data. -/
set_option linter.unusedSectionVars false
namespace Go.Av

variable {E : Entry} {n : Nat} {G : Ghost} {σ : St} {ts : Array Value} {w : World}

def AV.frzL (a : Nat) (fs : List D) (c : Nat) : AV → AV
  | .rs r n c' => if r = .l a then (if n = fs.length ∧ c' = c then .d (.list fs) else .junk) else .rs r n c'
  | x => x
def frzLO (a : Nat) (fs : List D) (c : Nat) : AObj → AObj
  | .cells cs => .cells (cs.map (AV.frzL a fs c))
  | o => o
def St.frzL (σ : St) (a : Nat) (fs : List D) (c : Nat) : St := { ρ := amap (AV.frzL a fs c) σ.ρ, L := adel (amap (frzLO a fs c) σ.L) a, H := amap (frzLO a fs c) σ.H }

theorem St.obj_frzL (σ : St) (a : Nat) (fs : List D) (c : Nat) (r : Ref) {o : AObj} (h : (σ.frzL a fs c).obj r = some o) : r ≠ .l a ∧ ∃ o', σ.obj r = some o' ∧ o = frzLO a fs c o' := by
  cases r with
  | x t =>
    simp only [St.frzL, St.obj, aget_amap] at h
    cases hx : aget σ.H t with
    | none => simp [hx] at h
    | some o' => simp [hx] at h; exact ⟨by simp, o', hx, h.symm⟩
  | l t =>
    simp only [St.frzL, St.obj, aget_adel, aget_amap] at h
    split at h
    · cases h
    · rename_i hne
      cases hx : aget σ.L t with
      | none => simp [hx] at h
      | some o' => simp [hx] at h; exact ⟨by simp; omega, o', hx, h.symm⟩

theorem rowL_list (h : SR E n G σ ts w) {a sz c : Nat} {fs : List D} (ho : σ.obj (.l a) = some (.cells (rowC sz fs c))) (hfs : ∀ y ∈ fs, y.cells.length = sz) (hc : fs.length ≤ c) :
    RD (updf G.f (G.b (.l a)) (rowC sz fs c).length) w (.list fs) (.slice (some (at_ (G.b (.l a)) 0)) fs.length c) := by
  obtain ⟨arr, el, h1, h2, h3⟩ := h.obj _ _ ho
  have hl := rowC_len hfs hc
  have hle : fs.length * sz ≤ c * sz := Nat.mul_le_mul_right _ hc
  have hf0 := h.objf _ _ ho
  have hext : Ext G.f w (updf G.f (G.b (.l a)) (rowC sz fs c).length) w := ⟨Nat.le_refl _, fun b => by
    by_cases e : b = G.b (.l a)
    · rw [e, hf0]; exact Nat.zero_le _
    · rw [updf_ne _ _ e]; exact Nat.le_refl _, fun _ _ _ => rfl, fun _ _ _ _ h => h⟩
  have hcell : ∀ (i j : Nat) (e d : D), fs[i]? = some e → e.cells[j]? = some d → i * sz + j < c * sz ∧ RD G.f w d (arr.getD (i * sz + j) undef) ∧ (arr.getD (i * sz + j) undef).oneCell' = true := fun i j e d he hd => by
    have hx := flat_at hfs he hd
    have hlt : i * sz + j < fs.length * sz := by rw [← flatCells_len hfs]; exact (List.getElem?_eq_some_iff.1 hx).1
    have hx2 : (rowC sz fs c)[i * sz + j]? = some (.d d) := by
      rw [rowC, List.getElem?_append_left (by rw [List.length_map, flatCells_len hfs]; exact hlt), List.getElem?_map, hx]; rfl
    obtain ⟨g1, g2, _⟩ := h3 _ _ hx2
    exact ⟨by omega, g1.dinv, g2⟩
  have hflat : ∀ y ∈ fs, y.flat := fun y hy e he => by
    obtain ⟨i, hi⟩ := List.getElem?_of_mem hy
    obtain ⟨j, hj⟩ := List.getElem?_of_mem he
    obtain ⟨_, g1, g2⟩ := hcell i j y e hi hj
    exact g1.one_of g2
  refine .list fs (G.b (.l a)) 0 c sz (fun i => arr.getD i undef) hc (fun e he => ⟨hfs e he, hflat e he⟩) (by rw [updf_same, hl]; omega) (fun i hi => ?_) (fun i e j d he hd => (hcell i j e d he hd).2.1.ext hext)
  rw [Nat.zero_add, cell_of_heap h1]
  have : i < arr.size := by rw [h2, hl]; omega
  simp [this]

theorem AV.frzL_has (a : Nat) (fs : List D) (c : Nat) (r : Ref) {x : AV} (h : x.has r = false) : (x.frzL a fs c).has r = false := by
  cases x with
  | rs r' n c' =>
    simp only [AV.frzL]
    split
    · split <;> rfl
    · exact h
  | _ => exact h

theorem SR.frzL (h : SR E n G σ ts w) {a sz c : Nat} {fs : List D} (ho : σ.obj (.l a) = some (.cells (rowC sz fs c))) (hfs : ∀ y ∈ fs, y.cells.length = sz) (hc : fs.length ≤ c) :
    SR E n { G with f := updf G.f (G.b (.l a)) (rowC sz fs c).length } (σ.frzL a fs c) ts w := by
  have hl := rowL_list h ho hfs hc
  have hwk : Wk { σ with L := adel σ.L a } σ := ⟨fun _ _ h => h, fun r o hr => by
    cases r with
    | x t => exact hr
    | l k =>
      simp only [St.obj, aget_adel] at hr
      split at hr
      · cases hr
      · exact hr⟩
  have h1 := h.wk hwk
  have hf0 : G.f (G.b (.l a)) = 0 := h.objf _ _ ho
  have hlt := (h.obj _ _ ho).lt
  have h2 : SR E n { G with f := updf G.f (G.b (.l a)) (rowC sz fs c).length } { σ with L := adel σ.L a } ts w := by
    refine h1.world' (fun b => b = G.b (.l a)) (fun b hb => ?_) ⟨Nat.le_refl _, fun b => ?_, fun b i hi => rfl, fun _ _ _ _ h => h⟩ (fun b hb hx => ⟨rfl, updf_ne _ _ hx⟩) (fun b hb => ?_) rfl rfl rfl
    · subst hb
      refine ⟨fun r o hr e => ?_, fun q v p hq hv => ?_, h.newObj _ _ ho⟩
      · have := h.inj r (.l a) o _ (hwk.obj r o hr) ho e
        subst this
        simp [St.obj, aget_adel] at hr
      · obtain ⟨e, sz⟩ := p
        exact h.lamObj q v e sz _ hq hv _ _ ho rfl
    · by_cases e : b = G.b (.l a)
      · rw [e, hf0]; exact Nat.zero_le _
      · rw [updf_ne _ _ e]; exact Nat.le_refl _
    · have : b ≠ G.b (.l a) := fun e => by rw [e] at hb; omega
      rw [updf_ne _ _ this]; exact h.top b hb
  have hfz : ∀ {x : AV} {v : Value}, AVR { G with f := updf G.f (G.b (.l a)) (rowC sz fs c).length } w x v → AVR { G with f := updf G.f (G.b (.l a)) (rowC sz fs c).length } w (x.frzL a fs c) v := fun {x v} hx => by
    cases x with
    | rs r n' c' =>
      simp only [AV.frzL]
      split
      · rename_i e
        subst e
        split
        · rename_i e
          obtain ⟨rfl, rfl⟩ := e
          cases hx
          exact .d _ _ hl
        · exact .junk _
      · exact hx
    | _ => exact hx
  have hob : ∀ r o, (σ.frzL a fs c).obj r = some o → ∃ o', St.obj { σ with L := adel σ.L a } r = some o' ∧ o = frzLO a fs c o' := fun r o hr => by
    obtain ⟨g1, o', g2, g3⟩ := σ.obj_frzL a fs c r hr
    refine ⟨o', ?_, g3⟩
    cases r with
    | x t => exact g2
    | l k =>
      simp only [St.obj, aget_adel]
      rw [if_neg (fun e => g1 (by rw [e]))]
      exact g2
  refine { h2 with slot := fun s x hx => ?_, obj := fun r o hr => ?_, objf := fun r o hr => ?_, inj := fun r r' o o' hr hr' hb => ?_, lamObj := fun q v e sz b h1 h3 r o hr => ?_, newObj := fun r o hr => ?_, own0 := fun r cs x s hr hx => ?_ }
  · simp only [St.frzL, aget_amap] at hx
    cases hy : aget σ.ρ s with
    | none => simp [hy] at hx
    | some y =>
      simp [hy] at hx; subst hx
      exact hfz (h2.slot s y hy)
  · obtain ⟨o', g1, rfl⟩ := hob r o hr
    have g2 := h2.obj r o' g1
    cases o' with
    | cells cs =>
      obtain ⟨arr, el, k1, k2, k3⟩ := g2
      refine ⟨arr, el, k1, by rw [k2, List.length_map], fun i x hi => ?_⟩
      rw [List.getElem?_map] at hi
      cases hy : cs[i]? with
      | none => simp [hy] at hi
      | some y =>
        simp [hy] at hi; subst hi
        obtain ⟨m1, m2, m3, m4⟩ := k3 i y hy
        refine ⟨hfz m1, m2, fun q hq => ?_, fun e he => ?_⟩
        · cases y with
          | rs r' n' c' =>
            simp only [AV.frzL] at hq
            split at hq
            · split at hq <;> cases hq
            · cases hq
          | _ => exact m3 q hq
        · cases y with
          | rs r' n' c' =>
            simp only [AV.frzL] at he
            split at he
            · split at he <;> cases he
            · cases he
          | _ => exact m4 e he
    | _ => exact g2
  · obtain ⟨o', g1, _⟩ := hob r o hr
    exact h2.objf r o' g1
  · obtain ⟨o1, g1, _⟩ := hob r o hr
    obtain ⟨o2, g2, _⟩ := hob r' o' hr'
    exact h2.inj r r' o1 o2 g1 g2 hb
  · obtain ⟨o', g1, _⟩ := hob r o hr
    exact h2.lamObj q v e sz b h1 h3 r o' g1
  · obtain ⟨o', g1, _⟩ := hob r o hr
    exact h2.newObj r o' g1
  · obtain ⟨o', g1, g2⟩ := hob _ _ hr
    cases o' with
    | cells cs' =>
      simp only [frzLO, AObj.cells.injEq] at g2
      subst g2
      obtain ⟨y, hy, rfl⟩ := List.mem_map.1 hx
      exact AV.frzL_has _ _ _ _ (h2.own0 r cs' y s g1 hy)
    | _ => simp [frzLO] at g2

theorem Gh.frzL {a sz c : Nat} {fs : List D} (ho : σ.obj (.l a) = some (.cells (rowC sz fs c))) (hfs : ∀ y ∈ fs, y.cells.length = sz) (hc : fs.length ≤ c) : Gh σ (σ.frzL a fs c) := fun _ _ _ _ _ h => ⟨_, h.frzL ho hfs hc⟩

theorem St.obj_frzL_of {σ : St} {a : Nat} {fs : List D} {c : Nat} {r : Ref} {o : AObj} (h : σ.obj r = some o) (hr : r ≠ .l a) : (σ.frzL a fs c).obj r = some (frzLO a fs c o) := by
  cases r with
  | x t => simp only [St.frzL, St.obj, aget_amap] at h ⊢; rw [h]; rfl
  | l t =>
    have : a ≠ t := fun e => hr (by rw [e])
    simp only [St.frzL, St.obj, aget_adel, aget_amap] at h ⊢
    rw [if_neg this, h]; rfl
theorem St.ρ_frzL {σ : St} {a : Nat} {fs : List D} {c t : Nat} {x : AV} (h : aget σ.ρ t = some x) : aget (σ.frzL a fs c).ρ t = some (x.frzL a fs c) := by
  simp only [St.frzL, aget_amap, h]; rfl

/-! ### Rows of rows: the cells of the one are the others -/
def outC (a : Nat) : List (List D × Nat) → List AV
  | [] => []
  | p :: r => .rs (.l a) p.1.length p.2 :: outC (a + 1) r
theorem outC_len : ∀ (a : Nat) (l : List (List D × Nat)), (outC a l).length = l.length
  | _, [] => rfl
  | a, _ :: r => by rw [outC, List.length_cons, outC_len (a + 1) r, List.length_cons]
theorem outC_get : ∀ (a : Nat) (l : List (List D × Nat)) (k : Nat), (outC a l)[k]? = (l[k]?).map fun p => .rs (.l (a + k)) p.1.length p.2
  | _, [], _ => by simp [outC]
  | a, p :: r, 0 => by simp [outC]
  | a, p :: r, k + 1 => by
    rw [outC, List.getElem?_cons_succ, outC_get (a + 1) r k, List.getElem?_cons_succ, show a + 1 + k = a + (k + 1) by omega]
theorem outC_app : ∀ (a : Nat) (l m : List (List D × Nat)), outC a (l ++ m) = outC a l ++ outC (a + l.length) m
  | _, [], _ => by simp [outC]
  | a, p :: r, m => by rw [List.cons_append, outC, outC_app (a + 1) r m, outC, List.cons_append, List.length_cons, show a + 1 + r.length = a + (r.length + 1) by omega]
theorem outC_has {a b : Nat} : ∀ {l : List (List D × Nat)} {y : AV}, y ∈ outC a l → (b < a ∨ a + l.length ≤ b) → okCell b y := fun {l y} h hb => by
  obtain ⟨k, hk⟩ := List.getElem?_of_mem h
  rw [outC_get] at hk
  cases hl : l[k]? with
  | none => rw [hl] at hk; cases hk
  | some p =>
    rw [hl] at hk
    have hy := Option.some.inj hk
    subst hy
    have := (List.getElem?_eq_some_iff.1 hl).1
    exact ⟨rfl, by simp [AV.has]; omega, fun e he => by cases he⟩

def mixC (a j : Nat) (rows : List (List D × Nat)) : List AV := (rows.take j).map (fun p => .d (.list p.1)) ++ outC (a + j) (rows.drop j)
theorem frz_out {a b : Nat} {fs : List D} {c : Nat} (l : List (List D × Nat)) (h : b < a ∨ a + l.length ≤ b) : (outC a l).map (AV.frzL b fs c) = outC a l := by
  refine (List.map_congr_left fun y hy => ?_).trans (List.map_id _)
  obtain ⟨k, hk⟩ := List.getElem?_of_mem hy
  rw [outC_get] at hk
  cases hl : l[k]? with
  | none => rw [hl] at hk; cases hk
  | some p =>
    rw [hl] at hk
    have hy := Option.some.inj hk
    subst hy
    have := (List.getElem?_eq_some_iff.1 hl).1
    show (if Ref.l (a + k) = Ref.l b then _ else _) = _
    rw [if_neg (by intro e; injection e with e; omega)]
    rfl
theorem mixC_step {a j : Nat} {rows : List (List D × Nat)} {p : List D × Nat} (h : rows[j]? = some p) : (mixC a j rows).map (AV.frzL (a + j) p.1 p.2) = mixC a (j + 1) rows := by
  have hj := (List.getElem?_eq_some_iff.1 h).1
  have hd : rows.drop j = p :: rows.drop (j + 1) := by
    rw [List.drop_eq_getElem_cons hj]; congr 1; exact (List.getElem?_eq_some_iff.1 h).2
  have ht : rows.take (j + 1) = rows.take j ++ [p] := by
    rw [List.take_add_one, h]; rfl
  unfold mixC
  rw [hd, ht, outC, List.map_append, List.map_cons, List.map_map, List.map_append, List.append_assoc]
  have e1 : (AV.rs (Ref.l (a + j)) p.1.length p.2).frzL (a + j) p.1 p.2 = .d (.list p.1) := by simp [AV.frzL]
  have e2 : (outC (a + j + 1) (rows.drop (j + 1))).map (AV.frzL (a + j) p.1 p.2) = outC (a + j + 1) (rows.drop (j + 1)) := frz_out _ (.inl (by omega))
  rw [e1, e2]
  rfl
theorem rowA_frz {a : Nat} {fs : List D} {c k : Nat} {cs : List AV} : (rowA cs k).map (AV.frzL a fs c) = rowA (cs.map (AV.frzL a fs c)) k := by
  simp [rowA, AV.frzL]

def AV.noRs : AV → Prop
  | .rs _ _ _ => False
  | _ => True
theorem frz_noRs {a : Nat} {fs : List D} {c : Nat} {x : AV} (h : x.noRs) : x.frzL a fs c = x := by
  cases x <;> first | rfl | exact h.elim
def AObj.noRs : AObj → Prop
  | .cells cs => ∀ x ∈ cs, x.noRs
  | _ => True
theorem frzO_noRs {a : Nat} {fs : List D} {c : Nat} {o : AObj} (h : o.noRs) : frzLO a fs c o = o := by
  cases o with
  | cells cs => exact congrArg AObj.cells ((List.map_congr_left fun y hy => frz_noRs (h y hy)).trans (List.map_id _))
  | _ => rfl

structure Keep (τ : St) (o a N : Nat) (s : Nat) : Prop where
  ρ : ∀ t x, aget τ.ρ t = some x → t ≠ s → x.noRs
  obj : ∀ r ob, τ.obj r = some ob → ob.noRs ∧ r ≠ .l o ∧ ∀ k, k < N → r ≠ .l (a + k)

structure Stg (τ : St) (o a co s : Nat) (rows : List (List D × Nat)) (j : Nat) (σ : St) : Prop where
  slot : aget σ.ρ s = some (.rs (.l o) rows.length co)
  out : σ.obj (.l o) = some (.cells (rowA (mixC a j rows) co))
  row : ∀ k p, j ≤ k → rows[k]? = some p → σ.obj (.l (a + k)) = some (.cells (rowA (p.1.map .d) p.2))
  ρ : ∀ t x, aget τ.ρ t = some x → t ≠ s → aget σ.ρ t = some x
  obj : ∀ r ob, τ.obj r = some ob → σ.obj r = some ob

theorem Stg.all {τ : St} {o a co s : Nat} {rows : List (List D × Nat)} (hk : Keep τ o a rows.length s) (ho : o < a ∨ a + rows.length ≤ o) (h1 : ∀ p ∈ rows, (∀ y ∈ p.1, y.cells = [y]) ∧ p.1.length ≤ p.2) : ∀ (m j : Nat) (σ : St), j + m = rows.length → Stg τ o a co s rows j σ → ∃ σ', Gh σ σ' ∧ Stg τ o a co s rows rows.length σ'
  | 0, j, σ, hj, h => ⟨σ, Gh.refl σ, by rw [← hj]; exact h⟩
  | m + 1, j, σ, hj, h => by
    obtain ⟨p, hp⟩ : ∃ p, rows[j]? = some p := ⟨_, List.getElem?_eq_getElem (by omega)⟩
    have hpm := h1 p (List.mem_of_getElem? hp)
    have hr := h.row j p (Nat.le_refl _) hp
    rw [← rowC_rowA hpm.1] at hr
    have g := Gh.frzL hr (fun y hy => by rw [hpm.1 y hy]; rfl) hpm.2
    have hs : Stg τ o a co s rows (j + 1) (σ.frzL (a + j) p.1 p.2) := by
      refine ⟨?_, ?_, fun k q hkj hq => ?_, fun t x hx ht => ?_, fun r ob hb => ?_⟩
      · rw [St.ρ_frzL h.slot]
        show some (if Ref.l o = Ref.l (a + j) then _ else _) = _
        rw [if_neg (by intro e; injection e with e; omega)]
      · rw [St.obj_frzL_of h.out (by intro e; injection e with e; omega)]
        show some (AObj.cells _) = _
        rw [rowA_frz, mixC_step hp]
      · rw [St.obj_frzL_of (h.row k q (by omega) hq) (by intro e; injection e with e; omega)]
        show some (AObj.cells _) = _
        rw [rowA_frz, List.map_map]
        rfl
      · rw [St.ρ_frzL (h.ρ t x hx ht), frz_noRs (hk.ρ t x hx ht)]
      · obtain ⟨k1, k2, k3⟩ := hk.obj r ob hb
        rw [St.obj_frzL_of (h.obj r ob hb) (k3 j (by omega)), frzO_noRs k1]
    obtain ⟨σ', g2, h2⟩ := Stg.all hk ho h1 m (j + 1) _ (by omega) hs
    exact ⟨σ', g.trans g2, h2⟩

theorem Gh.rows {τ : St} {o a co s : Nat} {rows : List (List D × Nat)} (hk : Keep τ o a rows.length s) (ho : o < a ∨ a + rows.length ≤ o) (h1 : ∀ p ∈ rows, (∀ y ∈ p.1, y.cells = [y]) ∧ p.1.length ≤ p.2) (hc : rows.length ≤ co) (h : Stg τ o a co s rows 0 σ)
    (hs : aget τ.ρ s = some (.d (.list (rows.map fun p => .list p.1)))) : Gh σ τ := by
  obtain ⟨σ', g, h2⟩ := Stg.all hk ho h1 rows.length 0 σ (by omega) h
  refine g.trans ?_
  have e : mixC a rows.length rows = (rows.map fun p => D.list p.1).map .d := by
    simp [mixC, outC]
  have hout := h2.out
  have hone : ∀ y ∈ rows.map fun p => D.list p.1, y.cells = [y] := fun y hy => by
    obtain ⟨p, _, rfl⟩ := List.mem_map.1 hy
    rfl
  rw [e, ← rowC_rowA hone] at hout
  refine (Gh.frzL hout (fun y hy => by rw [hone y hy]; rfl) (by simpa using hc)).trans (Gh.wk ⟨fun t x hx => ?_, fun r ob hb => ?_⟩)
  · by_cases ht : t = s
    · subst ht
      rw [hs] at hx
      have hx := Option.some.inj hx
      subst hx
      rw [St.ρ_frzL h2.slot]
      simp [AV.frzL]
    · rw [St.ρ_frzL (h2.ρ t x hx ht), frz_noRs (hk.ρ t x hx ht)]
  · obtain ⟨k1, k2, k3⟩ := hk.obj r ob hb
    rw [St.obj_frzL_of (h2.obj r ob hb) k2, frzO_noRs k1]
end Go.Av
/- Calls that are handed two objects of data. -/
set_option linter.unusedSectionVars false
namespace Go.Av

variable {P : Program} [Inv P] {σ : St}

theorem rowO_ren {o : AObj} (h : rowO o = true) (R : List Ref) : o.ren R = o := by
  obtain ⟨cs, rfl, hc⟩ := rowO_inv h
  have : renL R cs = cs := by
    rw [renL_eq]
    refine (List.map_congr_left fun x hx => ?_).trans (List.map_id _)
    rcases hc x hx with ⟨d, rfl⟩ | rfl <;> rfl
  simp [AObj.ren, this]
theorem rowO_wf {o : AObj} (h : rowO o = true) (n : Nat) : o.wf n = true := by
  obtain ⟨cs, rfl, hc⟩ := rowO_inv h
  refine wfL_iff.2 fun x hx => ?_
  rcases hc x hx with ⟨d, rfl⟩ | rfl <;> rfl
theorem rowO_noLoc {o : AObj} (h : rowO o = true) : o.noLoc = true := by
  obtain ⟨cs, rfl, hc⟩ := rowO_inv h
  show noLocL cs = true
  clear h
  induction cs with
  | nil => rfl
  | cons x l ih =>
    rw [noLocL, ih (fun y hy => hc y (by simp [hy])), Bool.and_true]
    rcases hc x (by simp) with ⟨d, rfl⟩ | rfl <;> rfl

def St.unownL (σ : St) (R : List Ref) : St := { σ with ρ := amap (AV.unown R) σ.ρ }
theorem PrimG.mc2 {dst : Option Nat} {f : LX} {args : List LX} {K : St → Prop} {g : FuncId} {first cap : List AV} {xs : List AV} {h0 h1 k0 k1 : AObj} {ret : AV} (r0 r1 : Ref) (hf : σ.ev f = .fn (.func g) first cap) (hc : MCallE P g xs [h0, h1] ret [k0, k1])
    (hx : passQ [] 0 (first ++ (evL σ args ++ cap)) = renL [r0, r1] xs) (hwx : wfAL [] 2 0 xs = true) (o0 : σ.obj r0 = some h0) (o1 : σ.obj r1 = some h1) (hne : nodupR [r0, r1] = true) (d : rowO h0 = true ∧ rowO h1 = true ∧ rowO k0 = true ∧ rowO k1 = true)
    (hret : retOK 2 ret = true) (hK : K (retO (((σ.unownL [r0, r1]).setObj r0 k0).setObj r1 k1) dst [r0, r1] ret)) : PrimG P dst .call (f :: args) K σ := by
  refine PrimG.mcall [r0, r1] [] hf hc hx hwx ⟨by rw [rowO_ren d.1]; exact o0, by rw [rowO_ren d.2.1]; exact o1, trivial⟩ (by simp [wfO, rowO_wf d.1, rowO_wf d.2.1]) hne rfl ⟨hret, by
    simp [backOK, rowO_wf d.2.2.1, rowO_wf d.2.2.2, rowO_ren d.2.2.1, rowO_ren d.2.2.2, rowO_noLoc d.2.2.1, rowO_noLoc d.2.2.2]⟩ ?_
  have e : backS (eraseL σ (labsQ [])) [r0, r1] [k0, k1] = ((σ.unownL [r0, r1]).setObj r0 k0).setObj r1 k1 := by
    simp [backS, setObjs, labsQ, eraseL, rowO_ren d.2.2.1, rowO_ren d.2.2.2, St.unownL]
  rw [e]
  exact hK
attribute [go_sem] St.unownL run_alt run_alt_nil
end Go.Av
/- Rows that are made, signs as a string. -/
set_option linter.unusedSectionVars false
namespace Go.Av

variable {P : Program} [Inv P] {σ : St}

theorem PrimG.runesStr {d : Nat} {s t e : TypeId} {x : LX} {K : St → Prop} {ns : List Int} (hx : σ.ev x = .d (.list (ns.map (D.int .i32)))) (hs : P.underlying s = some (.slice e)) (he : P.underlying e = some (.int .i32)) (ht : P.underlying t = some .string)
    (hK : K (σ.put d (.d (.str (runesBytes ns).data.toList)))) : PrimG P (some d) (.conv s t) [x] K σ := by
  refine PrimG.value _ (fun E _ n G a w o os hp hl h => ?_) hK
  obtain ⟨y, hop, rfl⟩ := primOf_conv hp
  obtain ⟨u, h1, h2⟩ := liftL1 hl
  cases h2
  have rx := h.ev h1
  rw [hx] at rx
  have hr := rx.dinv
  generalize hv : a.eval y = v at hr
  have key : ∀ u, (Conv.runesToString v).run P w = .ok u w → (∃ a n c, v = .slice a n c) → (execOp a.eval o).run P w = .ok (.value u) w := fun u hu ⟨a', n', c', e'⟩ => by
    subst e'
    simp only [execOp, hop, hv, Sem.run_bind, run_convert_runes_string w s t e a' n' c' hs he ht, hu, Result.andThen_ok]
    rfl
  generalize hL : ns.map (D.int .i32) = L at hr
  cases hr with
  | nils =>
    have : ns = [] := by cases ns <;> simp_all
    subst this
    exact ⟨.string .empty, key _ (by simp [Conv.runesToString]) ⟨_, _, _, rfl⟩, .d _ _ (RD.str [])⟩
  | emp a' cap =>
    have : ns = [] := by cases ns <;> simp_all
    subst this
    have hload : (loadCells a' 0).run P w = .ok (([] : List Int).map (Value.int .i32)).toArray w := by
      have := run_loadCells_list (P := P) w a' [] (fun j v hj => by simp at hj)
      simpa using this
    exact ⟨_, key _ (run_runesToString w a' 0 cap [] hload) ⟨_, _, _, rfl⟩, .d _ _ (RD.str _)⟩
  | list _ b o' cap sz vs hcap hsz hbb hc hr =>
    subst hL
    have hv : ∀ (k : Nat) (m : Int), ns[k]? = some m → sz = 1 ∧ vs (k * sz) = .int .i32 m := fun k m hk => by
      have h1 : (ns.map (D.int .i32))[k]? = some (.int .i32 m) := by simp [hk]
      have h2 := (hsz _ (List.mem_of_getElem? h1)).1
      have h3 := hr k _ 0 _ h1 rfl
      refine ⟨h2.symm, ?_⟩
      rw [Nat.add_zero] at h3
      generalize vs (k * sz) = u at h3
      cases h3; rfl
    have hload : (loadCells (at_ b o') (ns.map (D.int .i32)).length).run P w = .ok (ns.map (Value.int .i32)).toArray w := by
      have := run_loadCells_list (P := P) w (at_ b o') (ns.map (Value.int .i32)) (fun j v hj => by
        simp only [List.getElem?_map] at hj
        cases hk : ns[j]? with
        | none => simp [hk] at hj
        | some m =>
          simp [hk] at hj; subst hj
          obtain ⟨e1, e2⟩ := hv j m hk
          subst e1
          rw [at_add, ← e2, Nat.mul_one]
          exact hc j (by have := (List.getElem?_eq_some_iff.1 hk).1; simpa using this))
      simpa using this
    exact ⟨_, key _ (run_runesToString w _ _ cap ns hload) ⟨_, _, _, rfl⟩, .d _ _ (RD.str _)⟩
end Go.Av
/- Rows of wide elements, appended to by a rule of their own; a string's signs. -/
set_option linter.unusedSectionVars false
namespace Go.Av

variable {P : Program} [Inv P] {σ : St}

theorem AStep.appRow {d r e sz by_ c : Nat} {s x : LX} {K : St → Prop} {fs ys : List D} (hz : zeroOne P e = true)
    (hs : (σ.ev s = .ns ∧ fs = []) ∨ (σ.ev s = .rs (.l r) fs.length c ∧ σ.obj (.l r) = some (.cells (rowC sz fs c)) ∧ fs.length ≤ c ∧ c ≤ maxLen))
    (hx : σ.ev x = .d (.list ys) ∨ ∃ q e', σ.ev x = .own q e' sz ys) (hys : ys ≠ []) (hyc : ∀ y ∈ ys, y.cells.length = sz) (hfs : ∀ y ∈ fs, y.cells.length = sz)
    (hb : fs.length + ys.length ≤ maxLen ∧ (fs.length + ys.length) * by_ ≤ 140737488355328)
    (hK : ∀ c', fs.length + ys.length ≤ c' → c' ≤ maxLen → K (((σ.drop r).setObj (.l r) (.cells (rowC sz (fs ++ ys) c'))).put d (.rs (.l r) (fs.length + ys.length) c'))) : AStep P ⟨some d, .app e sz by_ false s x, none⟩ K σ :=
  ⟨rfl, fun E _ n G a w o h1 h2 h3 h => by
    obtain ⟨t, tx, S, X, e', hop, hsl, hS, hX, hzf, hk⟩ := liftE_app (liftOp_ne h1 (fun p xs chk e => by cases e))
    obtain ⟨i, ht, hi, hi1, rfl⟩ := liftSl_inv hsl
    subst hi1
    obtain ⟨i', z, hi', hz1, hz2, hz3⟩ := zeroOne_inv hz
    rw [hi] at hi'; cases hi'
    have rs := h.evs hS
    have rx0 := h.ev hX
    have rx : RD G.f w (.list ys) (a.eval X) := by
      rcases hx with hx | ⟨q, e2, hx⟩
      · rw [hx] at rx0; exact rx0.dinv
      · rw [hx] at rx0
        generalize hv : a.eval X = v at rx0
        cases rx0 with
        | own _ _ _ _ _ hq hv hc => exact hv
    obtain ⟨news, hsd⟩ := SrcD.ofList (P := P) hk rx hyc
    have hyl : 0 < ys.length := List.length_pos_iff.2 hys
    have hrow : ∃ el xs, w.ownsRow 0 el i.size (a.eval S) fs.length xs ∧ OneAll w (a.eval S) ∧ (∀ (j : Nat) (y : D), (fs.flatMap D.cells)[j]? = some y → RD G.f w y (xs.getD j undef)) ∧ RowAt G σ r (a.eval S) := by
      rcases hs with ⟨hs, rfl⟩ | ⟨hs, ho, hc1, hc2⟩
      · rw [hs] at rs
        generalize hv : a.eval S = v at rs
        cases rs
        exact ⟨e, [], World.ownsRow_nil w 0 e i.size, (fun b _ _ _ hb => by cases hb), (fun j y hy => by simp at hy), .inl rfl⟩
      · rw [hs] at rs
        generalize hv : a.eval S = v at rs
        cases rs
        obtain ⟨el, xs, g1, g2, g3⟩ := h.rowOwn ho hfs ⟨hc1, hc2⟩
        exact ⟨el, xs, g1, g2, g3, .inr ⟨_, _, _, ho, rfl⟩⟩
    obtain ⟨el, xs, g1, g2, g3, g4⟩ := hrow
    obtain ⟨v', w', el', r1, r2, r3, r4⟩ := run_append_one w t tx o.type e el i z ht hi hz1 hz2 (a.eval S) fs.length xs g1 (a.eval X) ys.length news hsd.src hb.1 hb.2 (by omega) g2 hz3
    have hr3 : Grow w w' (a.eval S) v' 0 := { r3 with cells := fun b hb j hj => by omega }
    have hfy : ∀ y ∈ fs ++ ys, y.cells.length = i.size := fun y hy => by
      rcases List.mem_append.1 hy with hy | hy
      · exact hfs y hy
      · exact hyc y hy
    have hxl : xs.length = fs.length * i.size := g1.1
    have hf0 : ∀ b, (a.eval S).ownBlock = some b → G.f b = 0 := fun b hb => by
      rcases g4 with hn | ⟨o, k, c, h2, hn⟩
      · rw [hn] at hb; cases hb
      · rw [hn] at hb; simp [Value.ownBlock, at_] at hb; subst hb; exact h.objf _ _ h2
    have hext : Ext G.f w G.f w' := ⟨r3.size, fun _ => Nat.le_refl _, fun b j hj => by
      by_cases hb : (a.eval S).ownBlock = some b
      · rw [hf0 b hb] at hj; omega
      · have hlt : b < w.heap.size := by
          rcases Nat.lt_or_ge b w.heap.size with h2 | h2
          · exact h2
          · rw [h.top b h2] at hj; omega
        simp only [World.cell?, at_]
        rw [r3.block b hlt hb], fun b es c hb hm => by rw [r3.block b (Array.getElem?_eq_some_iff.1 hm).1 (fun e => by rw [hf0 b e] at hb; omega)]; exact hm⟩
    have hrd : ∀ (j : Nat) (y : D), ((fs ++ ys).flatMap D.cells)[j]? = some y → RD G.f w' y ((xs ++ news).getD j undef) := fun j y hy => by
      rw [List.flatMap_append] at hy
      have hfl := flatCells_len hfs
      by_cases hj : j < fs.length * i.size
      · rw [List.getElem?_append_left (by omega)] at hy
        rw [List.getD_eq_getElem?_getD, List.getElem?_append_left (by omega), ← List.getD_eq_getElem?_getD]
        exact (g3 j y hy).ext hext
      · rw [List.getElem?_append_right (by omega), hfl] at hy
        rw [List.getD_eq_getElem?_getD, List.getElem?_append_right (by omega), ← List.getD_eq_getElem?_getD, hxl]
        obtain ⟨k, jj, f, h1, h2, h3, h4⟩ := flat_get hyc hy
        rw [h3]
        exact (hsd.rd k f jj y h1 h2).ext hext
    obtain ⟨b, c', q1, q2, rfl, q3⟩ := h.rowTo r g4 hr3 r2 (by omega) r4 (by simp) hfy hrd
    refine .inl ⟨.slice (some (at_ b 0)) (fs.length + ys.length) c', w', ?_, { G with b := updf G.b (.l r) b }, _, hK c' q1 q2, ?_⟩
    · simp only [execOp, hop, resolve, invoke, builtin, Sem.run_bind, Sem.run_pure, Result.andThen_ok, List.map_toArray, List.map_cons, List.map_nil]
      rw [r1]
      rfl
    · have hput := q3.put (s := d) (x := .rs (.l r) (fs.length + ys.length) c') (v := .slice (some (at_ b 0)) (fs.length + ys.length) c') (by
        have := AVR.rs (G := { G with b := updf G.b (.l r) b }) (w := w') (.l r) (fs.length + ys.length) c'
        simpa [updf_same] using this) (by simpa [dstOk] using h3)
      simpa [Act.put] using hput⟩

end Go.Av
/- Regions drawn in any order, told by a family of states: what is done has its slot. -/
set_option linter.unusedSectionVars false
namespace Go.Av

variable {P : Program} [Inv P] {σ τ : St} {k : List Item} {K : Exit → St → Prop}

theorem run_fam {l : List LOper} {deps : List (List Nat)} : RUN P (.fam l deps) k K σ = FamW P l deps (POP P .normal k K) σ := rfl

theorem fam_val {d : Nat} {v : LV} {z : AV} {N : St → Prop} (hv : pev τ v = some z) (hK : N (τ.put d z)) : LOps P [⟨some d, .val v, none⟩] N τ :=
  ⟨τ.put d z, by simp [step1, stepD, putV, hv], hK⟩
theorem fam_asg {d : Nat} {x : LX} {N : St → Prop} (hK : N (asgS τ d (τ.ev x))) : LOps P [⟨some d, .asg x, none⟩] N τ := ⟨_, rfl, hK⟩
theorem fam_bsl {d e sz : Nat} {xs : List LX} {σ' : St} {N : St → Prop} (hv : bslS τ d e sz (evL τ xs) = some σ') (hK : N σ') : LOps P [⟨some d, .bsl e sz xs, none⟩] N τ :=
  ⟨σ', by simp [step1, stepD, hv], hK⟩
theorem fam_prim {d : Option Nat} {p : Prim} {xs : List LX} {N : St → Prop} (h : PrimG P d p xs N τ) : LOps P [⟨d, .prim p xs [], none⟩] N τ := h
def Facts (l : List (Nat × Nat × AV)) (done : Nat → Bool) (τ : St) : Prop := ∀ e ∈ l, done e.1 = true → aget τ.ρ e.2.1 = some e.2.2
theorem Facts.get {l : List (Nat × Nat × AV)} {done : Nat → Bool} (h : Facts l done τ) {i s : Nat} {z : AV} (hm : (i, s, z) ∈ l) (hd : done i = true) : aget τ.ρ s = some z := h _ hm hd
theorem Facts.slot {l : List (Nat × Nat × AV)} {done : Nat → Bool} (h : Facts l done τ) {i s : Nat} {z : AV} (hm : (i, s, z) ∈ l) (hd : done i = true) : τ.get s = z := by
  simp [St.get, h.get hm hd]
theorem nodup_inj {α β : Type} {f : α → β} : ∀ {l : List α}, (l.map f).Nodup → ∀ {a b : α}, a ∈ l → b ∈ l → f a = f b → a = b
  | [], _, _, _, h, _, _ => by cases h
  | x :: l, hn, a, b, ha, hb, e => by
    obtain ⟨h1, h2⟩ := List.nodup_cons.1 hn
    rcases List.mem_cons.1 ha with e1 | ha'
    · rcases List.mem_cons.1 hb with e2 | hb'
      · rw [e1, e2]
      · exact absurd (by rw [← e1, e]; exact List.mem_map_of_mem hb') h1
    · rcases List.mem_cons.1 hb with e2 | hb'
      · exact absurd (by rw [← e2, ← e]; exact List.mem_map_of_mem ha') h1
      · exact nodup_inj h2 ha' hb' e
def FactsOK (l : List (Nat × Nat × AV)) : Prop := (l.map (·.1)).Nodup ∧ (l.map (·.2.1)).Nodup
theorem facts_uniq {l : List (Nat × Nat × AV)} (h : FactsOK l) {e f : Nat × Nat × AV} (he : e ∈ l) (hf : f ∈ l) : (e.1 = f.1 ↔ e = f) ∧ (e.2.1 = f.2.1 ↔ e = f) := by
  obtain ⟨h1, h2⟩ := h
  constructor
  · refine ⟨fun e1 => ?_, fun e1 => by rw [e1]⟩
    exact nodup_inj h1 he hf e1
  · refine ⟨fun e1 => ?_, fun e1 => by rw [e1]⟩
    exact nodup_inj h2 he hf e1
theorem Facts.put {l : List (Nat × Nat × AV)} {done : Nat → Bool} (h : Facts l done τ) (hl : FactsOK l) {i d : Nat} {z : AV} (hm : (i, d, z) ∈ l) : Facts l (fun k => k == i || done k) (τ.put d z) := fun e he hd => by
  simp only [St.put, aget_acons]
  by_cases hs : d = e.2.1
  · have := (facts_uniq hl hm he).2.1 hs
    rw [← this, if_pos rfl]
  · rw [if_neg hs]
    refine h e he ?_
    simp only [Bool.or_eq_true, beq_iff_eq] at hd
    refine hd.resolve_left fun e1 => hs ?_
    have := (facts_uniq hl hm he).1.1 e1.symm
    rw [← this]
theorem Facts.other {l : List (Nat × Nat × AV)} {done : Nat → Bool} (h : Facts l done τ) {i d : Nat} {z : AV} (hi : ∀ e ∈ l, e.1 ≠ i) (hs : ∀ e ∈ l, e.2.1 ≠ d) : Facts l (fun k => k == i || done k) (τ.put d z) := fun e he hd => by
  simp only [St.put, aget_acons]
  rw [if_neg fun e1 => hs e he e1.symm]
  refine h e he ?_
  simp only [Bool.or_eq_true, beq_iff_eq] at hd
  exact hd.resolve_left (hi e he)
theorem Facts.drop {l : List (Nat × Nat × AV)} {done : Nat → Bool} (h : Facts l done τ) {r : Nat} (hn : ∀ e ∈ l, e.2.2.drop (.l r) = e.2.2) : Facts l done (τ.drop r) := fun e he hd => by
  simp only [St.drop, aget_amap, h e he hd, Option.map_some, hn e he]
theorem Facts.erase {l : List (Nat × Nat × AV)} {done : Nat → Bool} (h : Facts l done τ) {q : Lab} (hn : ∀ e ∈ l, done e.1 = true → e.2.2.erase q = e.2.2) : Facts l done (τ.erase q) := fun e he hd => by
  rw [erase_ρ, aget_amap, h e he hd, Option.map_some, hn e he hd]
theorem Facts.setObj {l : List (Nat × Nat × AV)} {done : Nat → Bool} (h : Facts l done τ) {r : Ref} {o : AObj} : Facts l done (τ.setObj r o) := fun e he hd => by
  have : (τ.setObj r o).ρ = τ.ρ := by cases r <;> rfl
  rw [this]; exact h e he hd
def OFacts (l : List (Ref × AObj)) (τ : St) : Prop := ∀ e ∈ l, τ.obj e.1 = some e.2
theorem OFacts.put {l : List (Ref × AObj)} (h : OFacts l τ) {d : Nat} {z : AV} : OFacts l (τ.put d z) := fun e he => by rw [St.obj_put]; exact h e he
theorem OFacts.setObj {l : List (Ref × AObj)} (h : OFacts l τ) {r : Ref} {o : AObj} (hr : ∀ e ∈ l, e.1 ≠ r) : OFacts l (τ.setObj r o) := fun e he => by
  rw [St.obj_setObj, if_neg fun e1 => hr e he e1.symm]; exact h e he
theorem obj_drop_of {r : Ref} {s : Nat} {o : AObj} (h : τ.obj r = some o) : (τ.drop s).obj r = some (dropObj (.l s) o) ∨ (τ.drop s).obj r = some o := by
  cases r with
  | l t =>
    left
    simp only [St.obj, St.drop, aget_amap] at h ⊢
    rw [h]; rfl
  | x t => right; exact h
theorem OFacts.drop {l : List (Ref × AObj)} (h : OFacts l τ) {s : Nat} (hn : ∀ e ∈ l, dropObj (.l s) e.2 = e.2) : OFacts l (τ.drop s) := fun e he => by
  rcases obj_drop_of (s := s) (h e he) with h1 | h1
  · rw [h1, hn e he]
  · exact h1
def BFacts (l : List (Nat × AV)) (τ : St) : Prop := ∀ e ∈ l, aget τ.ρ e.1 = some e.2
theorem BFacts.slot {l : List (Nat × AV)} (h : BFacts l τ) {s : Nat} {z : AV} (hm : (s, z) ∈ l) : τ.get s = z := by simp [St.get, h _ hm]
theorem BFacts.put {l : List (Nat × AV)} (h : BFacts l τ) {d : Nat} {z : AV} (hd : ∀ e ∈ l, e.1 ≠ d) : BFacts l (τ.put d z) := fun e he => by
  simp only [St.put, aget_acons]
  rw [if_neg fun e1 => hd e he e1.symm]; exact h e he
theorem BFacts.drop {l : List (Nat × AV)} (h : BFacts l τ) {r : Nat} (hn : ∀ e ∈ l, e.2.drop (.l r) = e.2) : BFacts l (τ.drop r) := fun e he => by
  simp only [St.drop, aget_amap, h e he, Option.map_some, hn e he]
theorem BFacts.erase {l : List (Nat × AV)} (h : BFacts l τ) {q : Lab} (hn : ∀ e ∈ l, e.2.erase q = e.2) : BFacts l (τ.erase q) := fun e he => by
  rw [erase_ρ, aget_amap, h e he, Option.map_some, hn e he]
theorem BFacts.setObj {l : List (Nat × AV)} (h : BFacts l τ) {r : Ref} {o : AObj} : BFacts l (τ.setObj r o) := fun e he => by
  have : (τ.setObj r o).ρ = τ.ρ := by cases r <;> rfl
  rw [this]; exact h e he
theorem OFacts.erase {l : List (Ref × AObj)} (h : OFacts l τ) {s : Nat} : OFacts l (τ.erase (.t s)) := fun e he => by
  have : (τ.erase (.t s)).obj e.1 = τ.obj e.1 := by cases e.1 <;> rfl
  rw [this]; exact h e he
end Go.Av
