import Derived.Test.YtkkdhgibaimboaaDoorEVal17
import Derived.Test.YtkkdhgibaimboaaDoorAvG
/- Values, as arguments are read. -/
set_option linter.constructorNameAsVariable false
set_option linter.unusedSimpArgs false
namespace Go.Av.Tryd
open Go.Proofs

theorem cells3 : Tryd.prog.cellsOf 3 = 1 := by kernel_rfl
theorem cells9 : Tryd.prog.cellsOf 9 = 1 := by kernel_rfl
theorem cells89 : Tryd.prog.cellsOf 89 = 1 := by kernel_rfl
theorem cells90 : Tryd.prog.cellsOf 90 = 1 := by kernel_rfl
theorem cells92 : Tryd.prog.cellsOf 92 = 5 := by kernel_rfl
theorem cells155 : Tryd.prog.cellsOf 155 = 6 := by kernel_rfl

theorem mkD_val (v : Val) : mkD v.d.cells = v.d := by rw [Val.d_eq]; rfl
theorem mkD_fld (x : Fld) : mkD x.d.cells = x.d := by rw [Fld.d_eq]; rfl

set_option maxRecDepth 100000 in
theorem val_of : ∀ k : Nat, (∀ ds, OfT Tryd.prog k 92 ds → ∃ v : Val, ds = v.d.cells) ∧ (∀ ds, OfT Tryd.prog k 155 ds → ∃ x : Fld, ds = x.d.cells) := by
  intro k
  induction k using Nat.strongRecOn with
  | _ k ih =>
    cases k with
    | zero => exact ⟨fun _ h => h.elim, fun _ h => h.elim⟩
    | succ k =>
      refine ⟨fun ds h => ?_, fun ds h => ?_⟩
      · unfold OfT at h
        rw [Tryd.underlying92] at h
        obtain ⟨h1, h2⟩ := h
        rw [cells92] at h1
        match ds, h1 with
        | [a, b, c, d, e], _ =>
          have f0 : OfT Tryd.prog k 3 (([a, b, c, d, e].drop 0).take (Tryd.prog.cellsOf 3)) := h2 0 _ rfl
          have f1 : OfT Tryd.prog k 3 (([a, b, c, d, e].drop 1).take (Tryd.prog.cellsOf 3)) := h2 1 _ rfl
          have f2 : OfT Tryd.prog k 9 (([a, b, c, d, e].drop 2).take (Tryd.prog.cellsOf 9)) := h2 2 _ rfl
          have f3 : OfT Tryd.prog k 89 (([a, b, c, d, e].drop 3).take (Tryd.prog.cellsOf 89)) := h2 3 _ rfl
          have f4 : OfT Tryd.prog k 90 (([a, b, c, d, e].drop 4).take (Tryd.prog.cellsOf 90)) := h2 4 _ rfl
          simp only [cells3, cells9, cells89, cells90, List.drop_zero, List.drop_succ_cons, List.take_succ_cons, List.take_zero] at f0 f1 f2 f3 f4
          obtain ⟨n0, e0, _⟩ := f0.int Tryd.underlying3
          obtain ⟨n1, e1, _⟩ := f1.int Tryd.underlying3
          obtain ⟨s, e2, _⟩ := f2.string Tryd.underlying9
          obtain ⟨l, m, hm, e3, _, hl⟩ := f3.slice Tryd.underlying89
          obtain ⟨f, m', hm', e4, _, hf⟩ := f4.slice Tryd.underlying90
          obtain ⟨ls, rfl⟩ := all_mapped (g := Val.d) (l := l) fun x hx => by
            obtain ⟨cs, q1, q2⟩ := hl x hx
            obtain ⟨v, rfl⟩ := (ih m (by omega)).1 cs q2
            exact ⟨v, by rw [q1, mkD_val]⟩
          obtain ⟨fs, rfl⟩ := all_mapped (g := Fld.d) (l := f) fun x hx => by
            obtain ⟨cs, q1, q2⟩ := hf x hx
            obtain ⟨y, rfl⟩ := (ih m' (by omega)).2 cs q2
            exact ⟨y, by rw [q1, mkD_fld]⟩
          simp only [List.cons.injEq, and_true] at e0 e1 e2 e3 e4
          refine ⟨.mk n0 n1 s ls fs, ?_⟩
          rw [mk_d, e0, e1, e2, e3, e4, valsD_eq, fldsD_eq]
          rfl
      · unfold OfT at h
        rw [Tryd.underlying155] at h
        obtain ⟨h1, h2⟩ := h
        rw [cells155] at h1
        match ds, h1 with
        | [a, b, c, d, e, f], _ =>
          have f0 : OfT Tryd.prog k 9 (([a, b, c, d, e, f].drop 0).take (Tryd.prog.cellsOf 9)) := h2 0 _ rfl
          have f1 : OfT Tryd.prog k 92 (([a, b, c, d, e, f].drop 1).take (Tryd.prog.cellsOf 92)) := h2 1 _ rfl
          simp only [cells9, cells92, List.drop_zero, List.drop_succ_cons, List.take_succ_cons, List.take_zero] at f0 f1
          obtain ⟨s, e0, _⟩ := f0.string Tryd.underlying9
          obtain ⟨v, e1⟩ := (ih k (by omega)).1 _ f1
          simp only [List.cons.injEq, and_true] at e0
          refine ⟨.mk s v, ?_⟩
          rw [e0, e1]
          rfl

mutual
theorem bkV : ∀ (v : Val) (N : Nat), bkD v.d ≤ N → v.sm N = true ∧ (ptV v).1 ≤ bkD v.d
  | .mk k n s l f, N, h => by
    rw [mk_d] at h ⊢
    simp only [bkD, bkL] at h ⊢
    obtain ⟨a1, a2, a3⟩ := bkVL l N (by omega)
    obtain ⟨b1, b2, b3⟩ := bkVF f N (by omega)
    simp only [Val.sm, ptV, Bool.and_eq_true, decide_eq_true_eq]
    exact ⟨⟨by omega, by omega, by omega, a1, b1⟩, by omega⟩
theorem bkVL : ∀ (l : List Val) (N : Nat), bkL (valsD l) ≤ N → smL N l = true ∧ l.length ≤ bkL (valsD l) ∧ (ptL l).1 ≤ bkL (valsD l)
  | [], N, h => by simp [smL, ptL, valsD, bkL]
  | v :: r, N, h => by
    simp only [valsD, bkL] at h ⊢
    obtain ⟨a1, a2⟩ := bkV v N (by omega)
    obtain ⟨b1, b2, b3⟩ := bkVL r N (by omega)
    have := (ptV_pos v).1
    simp only [smL, ptL, Bool.and_eq_true, List.length_cons]
    exact ⟨⟨a1, b1⟩, by omega, by omega⟩
theorem bkVF : ∀ (l : List Fld) (N : Nat), bkL (fldsD l) ≤ N → smF N l = true ∧ l.length ≤ bkL (fldsD l) ∧ (ptF l).1 ≤ bkL (fldsD l)
  | [], N, h => by simp [smF, ptF, fldsD, bkL]
  | .mk nm v :: r, N, h => by
    have hd : bkD (Fld.mk nm v).d = nm.length + 1 + bkD v.d := by
      rw [fld_mk, Val.d_eq v]; simp only [bkD, bkL]
    simp only [fldsD, bkL, hd] at h ⊢
    obtain ⟨a1, a2⟩ := bkV v N (by omega)
    obtain ⟨b1, b2, b3⟩ := bkVF r N (by omega)
    have := (ptV_pos v).1
    simp only [smF, Fld.sm, ptF, Bool.and_eq_true, List.length_cons, decide_eq_true_eq]
    exact ⟨⟨⟨by omega, a1⟩, b1⟩, by omega, by omega⟩
end
end Go.Av.Tryd
