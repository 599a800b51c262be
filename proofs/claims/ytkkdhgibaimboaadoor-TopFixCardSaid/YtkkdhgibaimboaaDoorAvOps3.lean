/- Operations over abstract states, continued: addresses, loads, structs, interface values. -/
import Derived.Test.YtkkdhgibaimboaaDoorAvOps2
namespace Go.Av

variable {E : Entry} {n : Nat} {G : Ghost} {σ : St} {a : Act} {w : World} {P : Program}

/-! ### Addresses -/
def fFa (off : Nat) : AV → Option AV
  | .ptr r o => some (.ptr r (o + off))
  | .dptr cs => if off ≤ cs.length then some (.dptr (cs.drop off)) else none
  | _ => none

theorem AVR.dptr_drop {cs : List D} {b o off : Nat} (h : AVR G w (.dptr cs) (.pointer (some (at_ b o)))) (ho : off ≤ cs.length) : AVR G w (.dptr (cs.drop off)) (.pointer (some (at_ b (o + off)))) := by
  cases h with
  | dptr _ _ _ vs hb hc hr =>
    refine .dptr _ b (o + off) (fun k => vs (off + k)) (by simp; omega) (fun k hk => ?_) (fun j y hj => ?_)
    · simp at hk; rw [Nat.add_assoc]; exact hc (off + k) (by omega)
    · rw [List.getElem?_drop] at hj; exact hr (off + j) y hj

theorem AVR.dptr_inv {cs : List D} {v : Value} (h : AVR G w (.dptr cs) v) : ∃ b o, v = .pointer (some (at_ b o)) := by
  cases h; exact ⟨_, _, rfl⟩

theorem fFa_run {x z : AV} {v : Value} {t i off : Nat} {fs : Array Field} {f : Field} (ht : P.underlying t = some (.struct fs)) (hf : fs[i]? = some f) (ho : f.offset = off) (hs : P.cellsOf f.type ≠ 0) (hx : AVR G w x v) (h : fFa off x = some z) :
    ∃ r, (Instr.fieldAt t v i).run P w = .ok r w ∧ AVR G w z r := by
  have hinfo : ∃ ti, P.info? f.type = some ti ∧ ti.size ≠ 0 := by
    unfold Program.cellsOf at hs
    cases hi : P.info? f.type with
    | none => simp [hi] at hs
    | some ti => simp [hi] at hs; exact ⟨ti, rfl, hs⟩
  obtain ⟨ti, h1, h2⟩ := hinfo
  unfold fFa at h; split at h
  · cases h; cases hx
    refine ⟨_, ?_, .ptr _ _⟩
    simp [Instr.fieldAt, run_underlying ht, hf, Instr.sureAddr, fieldPlace, sizeOf, typeInfo, h1, h2, ho, at_add]
  · split at h
    · cases h
      rename_i ho'
      obtain ⟨b, o, rfl⟩ := hx.dptr_inv
      refine ⟨_, ?_, hx.dptr_drop ho'⟩
      simp [Instr.fieldAt, run_underlying ht, hf, Instr.sureAddr, fieldPlace, sizeOf, typeInfo, h1, h2, ho, at_add]
    · cases h
  · cases h

def fIa (sz : Nat) (x : AV) (i : AV) : Option AV :=
  match x.rd, i with
  | some (.list l), .d (.int _ i) => match getI l i with
    | some e => if e.cells.length = sz then some (.dptr e.cells) else none
    | none => none
  | _, _ => none

theorem getI_some {α : Type} {l : List α} {i : Int} {e : α} (h : getI l i = some e) : 0 ≤ i ∧ i < l.length ∧ l[i.toNat]? = some e := by
  unfold getI at h; split at h
  · rename_i h0
    have := (List.getElem?_eq_some_iff.1 h).1
    exact ⟨h0, by omega, h⟩
  · cases h

theorem fIa_run {x y z : AV} {v u : Value} {t e : TypeId} {sz : Nat} (ht : P.underlying t = some (.slice e)) (hs : (P.info? e).map (·.size) = some sz) (hx : AVR G w x v) (hy : AVR G w y u) (h : fIa sz x y = some z) :
    ∃ r, (Instr.indexAt t v u).run P w = .ok r w ∧ AVR G w z r := by
  unfold fIa at h; split at h
  · rename_i l k i hl
    split at h
    · rename_i el hg
      split at h
      · rename_i hsz; cases h
        obtain ⟨h0, h1, h2⟩ := getI_some hg
        have hr := hx.rd hl
        have hy := hy.dinv; cases hy
        cases hi : P.info? e with
        | none => simp [hi] at hs
        | some ti =>
          simp [hi] at hs
          cases hr with
          | nils => simp at h1; omega
          | emp _ _ => simp at h1; omega
          | list _ b o cap sz' vs hcap hsz' hb hc hr =>
            have hm := List.mem_of_getElem? h2
            have e1 : sz' = sz := by rw [← (hsz' el hm).1]; exact hsz
            subst e1
            have hlt : i.toNat < l.length := by omega
            have hle : i.toNat * sz' + sz' ≤ l.length * sz' := by have := Nat.mul_le_mul_right sz' hlt; rw [Nat.succ_mul] at this; exact this
            refine ⟨.pointer (some (at_ b (o + i.toNat * sz'))), ?_, .dptr _ b _ (fun k => vs (i.toNat * sz' + k)) (by rw [hsz]; omega) (fun k hk => ?_) (fun j y hj => ⟨(hsz' el hm).2 y (List.mem_of_getElem? hj), hr i.toNat el j y h2 hj⟩)⟩
            · simp [Instr.indexAt, asIntOf, run_underlying ht, h0, h1, sizeOf, typeInfo, hi, hs, at_add]
            · rw [hsz] at hk
              have := hc (i.toNat * sz' + k) (by omega)
              rw [Nat.add_assoc]; exact this
      · cases h
    · cases h
  · cases h

def fIaA (len sz : Nat) : AV → AV → Option AV
  | .ptr r o, .d (.int _ i) => if 0 ≤ i ∧ i < len then some (.ptr r (o + i.toNat * sz)) else none
  | .dptr cs, .d (.int _ i) => if 0 ≤ i ∧ i < len ∧ i.toNat * sz ≤ cs.length then some (.dptr (cs.drop (i.toNat * sz))) else none
  | _, _ => none

theorem fIaA_run {x y z : AV} {v u : Value} {t e : TypeId} {len sz : Nat} (ht : P.underlying t = some (.array len e)) (hs : (P.info? e).map (·.size) = some sz) (hx : AVR G w x v) (hy : AVR G w y u) (h : fIaA len sz x y = some z) :
    ∃ r, (Instr.indexAt t v u).run P w = .ok r w ∧ AVR G w z r := by
  cases hi : P.info? e with
  | none => simp [hi] at hs
  | some ti =>
    simp [hi] at hs
    unfold fIaA at h; split at h
    · split at h
      · rename_i hb; cases h; cases hx; have hy := hy.dinv; cases hy
        refine ⟨_, ?_, .ptr _ _⟩
        simp [Instr.indexAt, asIntOf, run_underlying ht, hb, Instr.sureAddr, sizeOf, typeInfo, hi, hs, at_add]
      · cases h
    · split at h
      · rename_i hb; cases h
        obtain ⟨b, o, rfl⟩ := hx.dptr_inv
        have hy := hy.dinv; cases hy
        refine ⟨_, ?_, hx.dptr_drop hb.2.2⟩
        simp [Instr.indexAt, asIntOf, run_underlying ht, hb.1, hb.2.1, Instr.sureAddr, sizeOf, typeInfo, hi, hs, at_add]
      · cases h
    · cases h

/-! ### Loads -/
def rdL : List AV → Option (List D)
  | [] => some []
  | x :: r => match x.rd, rdL r with
    | some y, some l => some (y :: l)
    | _, _ => none

def fLdP (agg : Bool) (m : Nat) (cs : List AV) (o : Nat) : Option AV :=
  if agg then (if o + m ≤ cs.length then (rdL ((cs.drop o).take m)).map fun l => .d (.agg l) else none) else cs[o]?

/-- What holds no address of a local object. -/
def AV.locFree : AV → Bool
  | .d _ | .own _ _ _ _ | .dptr _ | .junk | .ptr (.x _) _ => true
  | _ => false

def fLdX (r : Ref) (z : Option AV) : Option AV :=
  match r, z with
  | .x _, some z => if z.locFree then some z else none
  | _, z => z

theorem fLdX_some {r : Ref} {z : Option AV} {y : AV} (h : fLdX r z = some y) : z = some y := by
  unfold fLdX at h
  split at h
  · split at h
    · exact h
    · cases h
  · exact h

def fLd (σ : St) (agg : Bool) (m : Nat) : AV → Option AV
  | .ptr r o => match σ.obj r with
    | some (.cells cs) => fLdX r (fLdP agg m cs o)
    | _ => none
  | .dptr cs => if agg then (if m ≤ cs.length then some (.d (.agg (cs.take m))) else none) else (cs[0]?).map .d
  | _ => none

theorem rdL_get : ∀ {xs : List AV} {l : List D}, rdL xs = some l → xs.length = l.length ∧ ∀ (i : Nat) (y : D), l[i]? = some y → ∃ x, xs[i]? = some x ∧ x.rd = some y
  | [], l, h => by simp [rdL] at h; subst h; exact ⟨rfl, fun _ _ h => by simp at h⟩
  | x :: r, l, h => by
    simp only [rdL] at h
    split at h
    · rename_i y l' hy hl
      cases h
      obtain ⟨h1, h2⟩ := rdL_get hl
      refine ⟨by simp [h1], fun i z hz => ?_⟩
      cases i with
      | zero => simp at hz; subst hz; exact ⟨x, rfl, hy⟩
      | succ i => simp at hz; simpa using h2 i z hz
    · cases h

theorem cell_of_heap {w : World} {b : Nat} {arr : Array Value} {el : TypeId} {fr : Nat × Nat} (h : w.heap[b]? = some (.cells arr el fr)) (i : Nat) : w.cell? (at_ b i) = arr[i]? := by
  simp [World.cell?, at_, h]

def aggT (d : TypeDesc) : Bool := match d with | .struct _ | .array _ _ => true | _ => false

theorem isAgg_run {t : TypeId} {d : TypeDesc} (ht : P.underlying t = some d) : (isAgg t).run P w = .ok (aggT d) w := by
  simp only [isAgg, Sem.run_bind, run_underlying ht, Result.andThen_ok]
  cases d <;> rfl

theorem loadVar_agg {t : TypeId} {d : TypeDesc} {m b o : Nat} {vs : List Value} (ht : P.underlying t = some d) (hd : aggT d = true) (hs : (P.info? t).map (·.size) = some m) (hl : vs.length = m)
    (h : ∀ j v, vs[j]? = some v → w.cell? (at_ b (o + j)) = some v) : (loadVar t (at_ b o)).run P w = .ok (.agg vs.toArray) w := by
  cases hi : P.info? t with
  | none => simp [hi] at hs
  | some ti =>
    simp [hi] at hs
    have h1 := run_loadCells_list (P := P) w (at_ b o) vs (fun j v hj => by rw [at_add]; exact h j v hj)
    simp [loadVar, isAgg_run ht, hd, sizeOf, typeInfo, hi, hs, ← hl, h1]

theorem loadVar_one {t : TypeId} {d : TypeDesc} {b o : Nat} {v : Value} (ht : P.underlying t = some d) (hd : aggT d = false) (h : w.cell? (at_ b o) = some v) : (loadVar t (at_ b o)).run P w = .ok v w := by
  simp [loadVar, isAgg_run ht, hd, run_load, h]

theorem fLd_run (hσ : SR E n G σ a.tmps w) {x z : AV} {v : Value} {t : TypeId} {d : TypeDesc} {m : Nat} (ht : P.underlying t = some d) (hs : (P.info? t).map (·.size) = some m) (hx : AVR G w x v) (h : fLd σ (aggT d) m x = some z) :
    ∃ r, (Instr.loadAt t v).run P w = .ok r w ∧ AVR G w z r := by
  unfold fLd at h; split at h
  · rename_i r o
    cases hx
    split at h
    · rename_i cs hcs
      obtain ⟨arr, el, g1, g2, g3⟩ := hσ.obj r _ hcs
      have hcell := cell_of_heap g1
      have h := fLdX_some h
      unfold fLdP at h
      cases hd : aggT d with
      | true =>
        simp only [hd, if_true] at h
        split at h
        · rename_i hle
          cases hr : rdL ((cs.drop o).take m) with
          | none => simp [hr] at h
          | some l =>
            simp [hr] at h; subst h
            obtain ⟨k1, k2⟩ := rdL_get hr
            have hlen : l.length = m := by rw [← k1]; simp; omega
            have hget : ∀ j y, l[j]? = some y → o + j < arr.size ∧ RD G.f w y (arr.getD (o + j) undef) ∧ (arr.getD (o + j) undef).oneCell' = true := fun j y hj => by
              obtain ⟨xa, hxa, hrd⟩ := k2 j y hj
              have hj' : j < m := by have := (List.getElem?_eq_some_iff.1 hj).1; omega
              rw [List.getElem?_take, if_pos hj', List.getElem?_drop] at hxa
              obtain ⟨c1, c2, _⟩ := g3 (o + j) xa hxa
              exact ⟨by rw [g2]; exact (List.getElem?_eq_some_iff.1 hxa).1, c1.rd hrd, c2⟩
            refine ⟨.agg ((List.range m).map fun j => arr.getD (o + j) undef).toArray, ?_, .d _ _ (.agg l _ (by simp [hlen]) (fun y hy => ?_) (fun j y hj => ?_))⟩
            · simp only [Instr.loadAt, Sem.run_bind, Instr.sureAddr, Sem.run_pure, Result.andThen_ok]
              refine loadVar_agg ht hd hs (by simp) (fun j v hj => ?_)
              rw [hcell]
              have hj' : j < m := by have := (List.getElem?_eq_some_iff.1 hj).1; simpa using this
              simp [hj'] at hj
              rw [← hj]
              have hsz : o + j < arr.size := by rw [g2]; omega
              simp [hsz]
            · obtain ⟨j, hj⟩ := List.mem_iff_getElem?.1 hy
              obtain ⟨_, c2, c3⟩ := hget j y hj
              exact c2.one_of c3
            · have hj' : j < m := by have := (List.getElem?_eq_some_iff.1 hj).1; omega
              have := (hget j y hj).2.1
              simpa [hj'] using this
        · cases h
      | false =>
        simp only [hd, Bool.false_eq_true, if_false] at h
        obtain ⟨c1, _, _⟩ := g3 o z h
        have hsz : o < arr.size := by rw [g2]; exact (List.getElem?_eq_some_iff.1 h).1
        refine ⟨_, ?_, c1⟩
        simp only [Instr.loadAt, Sem.run_bind, Instr.sureAddr, Sem.run_pure, Result.andThen_ok]
        exact loadVar_one ht hd (by rw [hcell]; simp [hsz])
    · cases h
  · rename_i cs
    cases hx with | dptr _ b o vs hb hc hr => ?_
    cases hd : aggT d with
    | true =>
      simp only [hd, if_true] at h
      split at h
      · rename_i hle; cases h
        refine ⟨.agg ((List.range m).map vs).toArray, ?_, .d _ _ (.agg _ _ (by simp; omega) (fun y hy => ?_) (fun j y hj => ?_))⟩
        · simp only [Instr.loadAt, Sem.run_bind, Instr.sureAddr, Sem.run_pure, Result.andThen_ok]
          refine loadVar_agg ht hd hs (by simp) (fun j v hj => ?_)
          have hj' : j < m := by have := (List.getElem?_eq_some_iff.1 hj).1; simpa using this
          simp [hj'] at hj
          rw [← hj]; exact hc j (by omega)
        · obtain ⟨j, hj⟩ := List.mem_iff_getElem?.1 (List.mem_of_mem_take hy)
          exact (hr j y hj).1
        · have hj' : j < m := by have := (List.getElem?_eq_some_iff.1 hj).1; simp at this; omega
          rw [List.getElem?_take, if_pos hj'] at hj
          have := (hr j y hj).2
          simpa [hj'] using this
      · cases h
    | false =>
      simp only [hd, Bool.false_eq_true, if_false] at h
      cases hy : cs[0]? with
      | none => simp [hy] at h
      | some y =>
        simp [hy] at h; subst h
        refine ⟨_, ?_, .d _ _ (hr 0 y hy).2⟩
        simp only [Instr.loadAt, Sem.run_bind, Instr.sureAddr, Sem.run_pure, Result.andThen_ok]
        exact loadVar_one ht hd (by have := hc 0 (List.getElem?_eq_some_iff.1 hy).1; simpa using this)
  · cases h

end Go.Av
