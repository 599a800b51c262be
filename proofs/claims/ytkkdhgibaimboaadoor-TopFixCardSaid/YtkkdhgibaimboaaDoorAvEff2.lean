/- Operations over abstract states that write or make memory, continued: literals of slices, stores. -/
import Derived.Test.YtkkdhgibaimboaaDoorAvEff
namespace Go.Av

variable {E : Entry} {n : Nat} {G : Ghost} {σ σ' : St} {a : Act} {w : World} {P : Program}

theorem inOrder_zip : ∀ (k : Nat) (l : List (Nat × Operand)), inOrder k l = true → l = ((l.map (·.2)).zipIdx k).map fun p => (p.2, p.1)
  | _, [], _ => rfl
  | k, (i, o) :: r, h => by
    simp only [inOrder, Bool.and_eq_true, beq_iff_eq] at h
    have := inOrder_zip (k + 1) r h.2
    simp only [List.map_cons, List.zipIdx_cons, h.1]
    congr 1

theorem zipIdx_map_eval (a : Act) : ∀ (k : Nat) (l : List Operand), (((l.zipIdx k).map fun p => (p.2, p.1)).map fun p : Nat × Operand => (p.1, a.eval p.2)) = ((l.map a.eval).zipIdx k).map fun p => (p.2, p.1)
  | _, [] => rfl
  | k, o :: r => by
    have := zipIdx_map_eval a (k + 1) r
    simp only [List.zipIdx_cons, List.map_cons, this]

theorem bsl_sound (h : SR E n G σ a.tmps w) {o : Oper} {d : Nat} (hd : o.dst = some d) (hn : d < n) {t : TypeId} {len : Nat} {parts : Array (Nat × Operand)} (ho : o.op = .buildSlice t len parts) {e sz by_ : Nat} {l : List LX} (hsl : liftSl P t = some (e, sz, by_))
    (hl : liftL (parts.toList.map (·.2)) = some l) (hio : inOrder 0 parts.toList = true) (hlen : parts.size = len) (hz : zeroFits P e = true) (hs : bslS σ d e sz (evL σ l) = some σ') : Does P E n a w o σ' := by
  unfold bslS at hs
  split at hs
  · rename_i ds hrd
    split at hs
    · rename_i hb
      obtain ⟨b1, b2, b3⟩ := hb
      cases hs
      unfold liftSl at hsl
      split at hsl
      · rename_i e0 ht
        split at hsl
        · rename_i ti hi
          simp at hsl; obtain ⟨he0, hs0, hb0⟩ := hsl; subst hs0; subst hb0; subst he0
          unfold zeroFits at hz
          rw [hi] at hz
          simp only at hz
          cases hzv : ti.zero with
          | none => simp [hzv] at hz
          | some z =>
            obtain ⟨k1, k2⟩ := liftL_rel h hl
            have hvl : (evL σ l).length = ((parts.toList.map (·.2)).map a.eval).length := by rw [← k1]; simp
            have hpl : ((parts.toList.map (·.2)).map a.eval).length = len := by simp [hlen]
            obtain ⟨arr, r1, r2, r3, r4⟩ := bsl_run (P := P) (G := G) (w := w) ht hi hzv rfl (xs := evL σ l) (vs := (parts.toList.map (·.2)).map a.eval) hvl
              (fun i x v hx hv => by have := k2 i x hx; rw [List.getD_eq_getElem?_getD, hv] at this; exact this) hrd b1 (by rw [← hvl]; exact b2)
            have hparts : (parts.map fun (i, x) => (i, a.eval x)) = (((parts.toList.map (·.2)).map a.eval).zipIdx.map fun p => (p.2, p.1)).toArray := by
              apply Array.ext'
              have e1 := inOrder_zip 0 parts.toList hio
              simp only [Array.toList_map]
              rw [← zipIdx_map_eval a 0 (parts.toList.map (·.2)), ← e1]
            rw [hpl] at r1 r2 r3
            have hlen24 : len ≤ 16777216 := by
              rw [hvl, hpl] at b2
              exact Nat.le_trans (Nat.le_mul_of_pos_right len (Nat.pos_of_ne_zero b3)) b2
            have h1 := (h.erase (.t d)).alloc (.cells arr e0) (len * ti.size)
            have hext : Ext G.f w (updf G.f w.heap.size (len * ti.size)) (w.alloc (.cells arr e0)) := Ext.alloc w h.top _ _
            have hnew := heap_alloc_at w (.cells arr e0)
            have hOK : OwnOK (updf G.f w.heap.size (len * ti.size)) (w.alloc (.cells arr e0)) (.slice (some (at_ w.heap.size 0)) len len) e0 ti.size :=
              ⟨len, arr.toList, ⟨by rw [Array.length_toList]; exact r2, .inr ⟨w.heap.size, len, arr, rfl, Nat.zero_le _, hnew, Nat.le_refl _, by unfold maxLen; omega, r2, by rw [← r2, ← Array.length_toList]; exact List.take_length⟩⟩, fun b hb => by simp [Value.ownBlock, at_] at hb; subst hb; simp⟩
            have hobj : ∀ r o, (σ.erase (.t d)).obj r = some o → G.b r < w.heap.size := fun r o ho => ((h.erase (.t d)).obj r o ho).lt
            have h2 := h1.addLam (.t d) (by simp) hOK (fun b hb => by
              simp [Value.ownBlock, at_] at hb; subst hb
              exact ⟨fun r o ho => by have := hobj r o ho; exact fun e' => by have e'' : G.b r = w.heap.size := e'; omega,
                fun q' v' p hp hb' => by
                  obtain ⟨e1, s1⟩ := p
                  have hp' : updf G.lam (.t d) none q' = some (v', e1, s1) := hp
                  have := (((h.erase (.t d)).lam q' v' e1 s1 hp').lt hb')
                  omega, .inl h.ext.size⟩)
            have hds : ∀ y ∈ ds, y.cells.length = ti.size := allSz_iff.1 b1
            have hflat : ∀ (i : Nat) (y : D), ds[i]? = some y → y.flat := fun i y hy e he => by
              obtain ⟨j, hj⟩ := List.mem_iff_getElem?.1 he
              exact (r4 i y j e hy hj).1
            have hrd' : RD (updf G.f w.heap.size (len * ti.size)) (w.alloc (.cells arr e0)) (.list ds) (.slice (some (at_ w.heap.size 0)) len len) := by
              have := RD.list (f := updf G.f w.heap.size (len * ti.size)) (w := w.alloc (.cells arr e0)) ds w.heap.size 0 len ti.size (fun j => arr.getD j undef) (by omega)
                (fun y hy => by obtain ⟨i, hi'⟩ := List.mem_iff_getElem?.1 hy; exact ⟨hds y hy, hflat i y hi'⟩) (by rw [r3]; simp) (fun k hk => by
                  rw [Nat.zero_add, cell_of_heap hnew]
                  have hk' : k < arr.size := by rw [r2, ← r3]; exact hk
                  simp [hk']) (fun i y j e hy he => (r4 i y j e hy he).2.ext hext)
              rw [r3] at this; exact this
            have h3 := h2.put (s := d) (x := .own (.t d) e0 ti.size ds) (v := .slice (some (at_ w.heap.size 0)) len len) (.own _ _ _ _ _ (by simp) hrd' hds) hn
            refine Does.mk (s := Instr.buildSlice t len (parts.map fun (i, x) => (i, a.eval x))) hd (by simp only [execOp, ho]) ?_ h3
            rw [hparts]; exact r1
        · cases hsl
      · cases hsl
    · cases hs
  · cases hs

/-- The same, its row at once immutable. -/
theorem bsp_sound (h : SR E n G σ a.tmps w) {o : Oper} {d : Nat} (hd : o.dst = some d) (hn : d < n) {t : TypeId} {len : Nat} {parts : Array (Nat × Operand)} (ho : o.op = .buildSlice t len parts) {e sz by_ : Nat} {l : List LX} (hsl : liftSl P t = some (e, sz, by_))
    (hl : liftL (parts.toList.map (·.2)) = some l) (hio : inOrder 0 parts.toList = true) (hlen : parts.size = len) (hz : zeroFits P e = true) {ds : List D} (hrd : rdAll (evL σ l) = some ds) (hb : allSz sz ds = true ∧ (evL σ l).length * sz ≤ 16777216 ∧ sz ≠ 0) : Does P E n a w o (σ.put d (.d (.list ds))) := by
  · · obtain ⟨b1, b2, b3⟩ := hb
      unfold liftSl at hsl
      split at hsl
      · rename_i e0 ht
        split at hsl
        · rename_i ti hi
          simp at hsl; obtain ⟨he0, hs0, hb0⟩ := hsl; subst hs0; subst hb0; subst he0
          unfold zeroFits at hz
          rw [hi] at hz
          simp only at hz
          cases hzv : ti.zero with
          | none => simp [hzv] at hz
          | some z =>
            obtain ⟨k1, k2⟩ := liftL_rel h hl
            have hvl : (evL σ l).length = ((parts.toList.map (·.2)).map a.eval).length := by rw [← k1]; simp
            have hpl : ((parts.toList.map (·.2)).map a.eval).length = len := by simp [hlen]
            obtain ⟨arr, r1, r2, r3, r4⟩ := bsl_run (P := P) (G := G) (w := w) ht hi hzv rfl (xs := evL σ l) (vs := (parts.toList.map (·.2)).map a.eval) hvl
              (fun i x v hx hv => by have := k2 i x hx; rw [List.getD_eq_getElem?_getD, hv] at this; exact this) hrd b1 (by rw [← hvl]; exact b2)
            have hparts : (parts.map fun (i, x) => (i, a.eval x)) = (((parts.toList.map (·.2)).map a.eval).zipIdx.map fun p => (p.2, p.1)).toArray := by
              apply Array.ext'
              have e1 := inOrder_zip 0 parts.toList hio
              simp only [Array.toList_map]
              rw [← zipIdx_map_eval a 0 (parts.toList.map (·.2)), ← e1]
            rw [hpl] at r1 r2 r3
            have hlen24 : len ≤ 16777216 := by
              rw [hvl, hpl] at b2
              exact Nat.le_trans (Nat.le_mul_of_pos_right len (Nat.pos_of_ne_zero b3)) b2
            have h1 := h.alloc (.cells arr e0) (len * ti.size)
            have hext : Ext G.f w (updf G.f w.heap.size (len * ti.size)) (w.alloc (.cells arr e0)) := Ext.alloc w h.top _ _
            have hnew := heap_alloc_at w (.cells arr e0)
            have hds : ∀ y ∈ ds, y.cells.length = ti.size := allSz_iff.1 b1
            have hflat : ∀ (i : Nat) (y : D), ds[i]? = some y → y.flat := fun i y hy e he => by
              obtain ⟨j, hj⟩ := List.mem_iff_getElem?.1 he
              exact (r4 i y j e hy hj).1
            have hrd' : RD (updf G.f w.heap.size (len * ti.size)) (w.alloc (.cells arr e0)) (.list ds) (.slice (some (at_ w.heap.size 0)) len len) := by
              have := RD.list (f := updf G.f w.heap.size (len * ti.size)) (w := w.alloc (.cells arr e0)) ds w.heap.size 0 len ti.size (fun j => arr.getD j undef) (by omega)
                (fun y hy => by obtain ⟨i, hi'⟩ := List.mem_iff_getElem?.1 hy; exact ⟨hds y hy, hflat i y hi'⟩) (by rw [r3]; simp) (fun k hk => by
                  rw [Nat.zero_add, cell_of_heap hnew]
                  have hk' : k < arr.size := by rw [r2, ← r3]; exact hk
                  simp [hk']) (fun i y j e hy he => (r4 i y j e hy he).2.ext hext)
              rw [r3] at this; exact this
            have h3 := h1.put (s := d) (x := .d (.list ds)) (v := .slice (some (at_ w.heap.size 0)) len len) (.d _ _ hrd') hn
            refine Does.mk (s := Instr.buildSlice t len (parts.map fun (i, x) => (i, a.eval x))) hd (by simp only [execOp, ho]) ?_ h3
            rw [hparts]; exact r1
        · cases hsl
      · cases hsl

/-! ### Stores -/
theorem run_store_at {b o : Nat} {arr : Array Value} {el : TypeId} {v : Value} (hw : w.heap[b]? = some (.cells arr el (0, 0))) (ho : o < arr.size) (hv : v.oneCell' = true) : (store (at_ b o) v).run P w = .ok () (w.setCell (at_ b o) v) := by
  have hc : w.cell? (at_ b o) = some arr[o] := by rw [cell_of_heap hw]; simp [ho]
  have hf : w.frozen? (at_ b o) = false := by simp [World.frozen?, at_, hw]
  rw [run_store P w _ _ _ hv, hc]
  simp [hf]

theorem setA_len (xs : List AV) : ∀ (cs : List AV) (o : Nat), (setA cs o xs).length = cs.length := by
  induction xs with
  | nil => intro cs o; rfl
  | cons x r ih => intro cs o; simp [setA, ih]

theorem St.setObj_setObj (σ : St) (r : Ref) (o o' : AObj) (r' : Ref) : ((σ.setObj r o).setObj r o').obj r' = (σ.setObj r o').obj r' := by
  simp only [St.obj_setObj]; split <;> rfl

/-- Two states that know the same. -/
theorem SR.congr {ts : Array Value} {τ : St} (h : SR E n G σ ts w) (hρ : τ.ρ = σ.ρ) (ho : ∀ r, τ.obj r = σ.obj r) : SR E n G τ ts w :=
  ⟨h.size, fun s x hx => h.slot s x (by rw [← hρ]; exact hx), fun r o hr => h.obj r o (by rw [← ho]; exact hr), fun r o hr => h.objf r o (by rw [← ho]; exact hr), fun r r' o o' h1 h2 => h.inj r r' o o' (by rw [← ho]; exact h1) (by rw [← ho]; exact h2), h.lam,
    fun q v e sz b h1 h2 r o hr => h.lamObj q v e sz b h1 h2 r o (by rw [← ho]; exact hr), h.lamInj, fun r o hr => h.newObj r o (by rw [← ho]; exact hr), h.newLam, h.ext, h.fr, h.top, h.ext0, fun r cs x s hr => h.own0 r cs x s (by rw [← ho]; exact hr), h.os, h.tape, h.output⟩

theorem storeD_sr {ts : Array Value} {r : Ref} : ∀ (xs : List D) (vs : List Value) (cs : List AV) (o i : Nat) (σ : St) (w : World), SR E n G σ ts w → σ.obj r = some (.cells cs) → xs.length = vs.length → o + i + xs.length ≤ cs.length →
    (∀ (j : Nat) (x : D) (v : Value), xs[j]? = some x → vs[j]? = some v → x.one = true ∧ RD G.f w x v) →
    ∃ w', (storeCells (at_ (G.b r) o) vs i).run P w = .ok () w' ∧ SR E n G (σ.setObj r (.cells (setA cs (o + i) (xs.map .d)))) ts w'
  | [], vs, cs, o, i, σ, w, h, hr, hl, hle, hx => by
    have : vs = [] := by simpa using hl.symm
    subst this
    refine ⟨w, by simp [storeCells], h.congr (by cases r <;> rfl) (fun r' => ?_)⟩
    rw [St.obj_setObj]; split
    · rename_i e; subst e; exact hr.symm
    · rfl
  | x :: xs, vs, cs, o, i, σ, w, h, hr, hl, hle, hx => by
    cases vs with
    | nil => simp at hl
    | cons v vs =>
      obtain ⟨o1, r1⟩ := hx 0 x v rfl rfl
      simp at hl hle
      obtain ⟨arr, el, g1, g2, _⟩ := h.obj r _ hr
      have hone := (r1.one o1).1
      have hst := run_store_at (P := P) (o := o + i) g1 (by rw [g2]; omega) hone
      have h1 := h.setCell hr (i := o + i) (by omega) (.d _ _ r1) hone (fun q hq => by simp [AV.lab?] at hq) (fun k s _ => rfl)
      have hext : Ext G.f w G.f (w.setCell (at_ (G.b r) (o + i)) v) := ⟨by simp, fun _ => Nat.le_refl _, fun b j hj => by
        have hb : b ≠ G.b r := fun e => by rw [e, h.objf r _ hr] at hj; omega
        simp only [World.cell?, at_]
        rw [show (w.setCell ⟨G.b r, o + i, none⟩ v).heap[b]? = w.heap[b]? from heap_setCell_ne w _ _ b v hb]⟩
      obtain ⟨w', h2, h3⟩ := storeD_sr xs vs (cs.set (o + i) (.d x)) o (i + 1) _ _ h1 (by rw [St.obj_setObj, if_pos rfl]) hl (by simp; omega) (fun j x' v' hj hv => ⟨(hx (j + 1) x' v' hj hv).1, (hx (j + 1) x' v' hj hv).2.ext hext⟩)
      refine ⟨w', ?_, h3.congr (by cases r <;> rfl) (fun r' => ?_)⟩
      · simp only [storeCells, Sem.run_bind]
        rw [at_add, hst]
        exact h2
      · rw [St.setObj_setObj]
        simp [setA, Nat.add_assoc]

theorem storeVar_run {t : TypeId} {m b o : Nat} {v : Value} {w' : World} (hs : Program.sz P t = some m) (hv : v.cells.size = m) (h : (storeCells (at_ b o) v.cells.toList 0).run P w = .ok () w') : (Instr.storeAt t (.pointer (some (at_ b o))) v).run P w = .ok () w' := by
  unfold Program.sz at hs
  cases hi : P.info? t with
  | none => simp [hi] at hs
  | some ti =>
    simp [hi] at hs
    simp [Instr.storeAt, Instr.sureAddr, storeVar, sizeOf, typeInfo, hi, hs, hv, h]

theorem store1_run {t : TypeId} {b o : Nat} {arr : Array Value} {el : TypeId} {v : Value} (hs : Program.sz P t = some 1) (hw : w.heap[b]? = some (.cells arr el (0, 0))) (ho : o < arr.size) (hv : v.oneCell' = true) (hc : v.cells = #[v]) :
    (Instr.storeAt t (.pointer (some (at_ b o))) v).run P w = .ok () (w.setCell (at_ b o) v) := by
  refine storeVar_run hs (by rw [hc]; rfl) ?_
  have := run_store_at (P := P) hw ho hv
  simp only [hc, storeCells, Sem.run_bind, at_add, Nat.add_zero, this, Result.andThen_ok, Sem.run_pure]

theorem st_sound (h : SR E n G σ a.tmps w) {o : Oper} (hd : o.dst = none) {t : TypeId} {m : Nat} {addr x : Operand} {la lx : LX} (ho : o.op = .store t addr x) (hm : Program.sz P t = some m) (ha : liftX addr = some la) (hx : liftX x = some lx) (hs : stS σ m (σ.ev la) (σ.ev lx) = some σ') : Does P E n a w o σ' := by
  have ra := h.ev ha
  have rx := h.ev hx
  have fin : ∀ {w' G' σ'}, (Instr.storeAt t (a.eval addr) (a.eval x)).run P w = .ok () w' → SR E n G' σ' a.tmps w' → Does P E n a w o σ' := fun {w' G' σ'} hr hs => ⟨.skip, undef, w', G', by simp [execOp, ho, hr], .inr ⟨rfl, rfl⟩, by simpa [Act.put, hd] using hs⟩
  unfold stS at hs
  split at hs
  · rename_i r off hla
    rw [hla] at ra
    generalize hav : a.eval addr = av at ra fin
    cases ra
    split at hs
    · rename_i cs hcs
      obtain ⟨arr, el, g1, g2, g3⟩ := h.obj r _ hcs
      split at hs
      · rename_i y hy
        split at hs
        · rename_i hb; cases hs
          rw [hy] at rx
          have rx := rx.dinv
          have hvs : y.cells.length = (a.eval x).cells.toList.length := by rw [← rx.cells_size]; simp
          obtain ⟨w', h1, h2⟩ := storeD_sr (P := P) y.cells (a.eval x).cells.toList cs off 0 σ w h hcs hvs (by omega) (fun j z v hz hv => ⟨rx.flat z (List.mem_of_getElem? hz), by
            have := rx.cell hz
            rw [Array.getElem?_toList] at hv
            rwa [getD_of_getElem? hv] at this⟩)
          exact fin (storeVar_run hm (by rw [rx.cells_size]; exact hb.1) h1) h2
        · cases hs
      · rename_i s e sz l hy
        split at hs
        · rename_i hb
          obtain ⟨rfl, hlt⟩ := hb
          rw [hy] at rx
          -- the cell's label is given up; the slot's is renamed to it
          have h1 := h.erase (.c r off)
          have rx1 : AVR _ w (.own (.t s) e sz l) (a.eval x) := rx.erase_other (q := .c r off) (fun q' hq => by simp [AV.lab?] at hq; rw [← hq]; simp)
          have h2 := h1.rename s (.c r off) (by simp)
          have rx2 := rx1.rename s (.c r off) (by simp)
          simp only [AV.rename, if_true] at rx2
          simp only at hs
          split at hs
          · rename_i cs2 hcs2; cases hs
            have hlen : cs2.length = cs.length := by
              have : (σ.erase (.c r off)).obj r = some (.cells cs2) := by
                rw [← hcs2]; cases r <;> rfl
              rw [St.obj_erase, hcs] at this
              simp [eraseObj] at this
              rw [← this, amod_length]
            have hone : (a.eval x).oneCell' = true ∧ (a.eval x).cells = #[a.eval x] := by
              cases rx with | own _ _ _ _ v _ hv _ => exact hv.one rfl
            have h3 := h2.setCell hcs2 (i := off) (by omega) rx2 hone.1 (fun q hq => by simp [AV.lab?] at hq; exact hq.symm) (fun k s _ => rfl)
            exact fin (store1_run hm g1 (by omega) hone.1 hone.2) h3
          · cases hs
        · cases hs
      · rename_i r' o' e sz l hy
        split at hs
        · rename_i hb
          obtain ⟨rfl, hlt⟩ := hb; cases hs
          rw [hy] at rx
          have rx' : RD G.f w (.list l) (a.eval x) := rx.rd rfl
          have hone := rx'.one rfl
          exact fin (store1_run hm g1 (by omega) hone.1 hone.2) (h.setCell hcs hlt (.d _ _ rx') hone.1 (fun q hq => by simp [AV.lab?] at hq) (fun k s _ => rfl))
        · cases hs
      · rename_i r' o' hy
        split at hs
        · rename_i hb
          obtain ⟨rfl, hlt, hloc⟩ := hb; cases hs
          rw [hy] at rx
          generalize hxv : a.eval x = xv at rx fin
          cases rx
          refine fin (store1_run hm g1 (by omega) rfl rfl) (h.setCell hcs hlt (.ptr _ _) rfl (fun q hq => by simp [AV.lab?] at hq) (fun k s e => ?_))
          rcases hloc with h1 | h1
          · rw [e] at h1; cases h1
          · cases r' with
            | l t => cases h1
            | x t => simp [AV.has]
        · cases hs
      · cases hs
    · cases hs
  · cases hs

end Go.Av
