import Derived.Test.YtbfljokjkcdbeaaEVal4
/- Values of a file: the document's parts, and how deep. -/
set_option linter.unusedSimpArgs false
namespace Go.Av.Try
open Go.Proofs

mutual
/-- Parts of a value, and how deep it is. -/
def ptV : Val → Nat × Nat
  | .mk _ _ _ l f => (1 + (ptL l).1 + (ptF f).1, max (ptL l).2 (ptF f).2 + 1)
def ptL : List Val → Nat × Nat
  | [] => (0, 0)
  | v :: r => ((ptV v).1 + (ptL r).1, max (ptV v).2 (ptL r).2)
def ptF : List Fld → Nat × Nat
  | [] => (0, 0)
  | .mk _ v :: r => ((ptV v).1 + (ptF r).1, max (ptV v).2 (ptF r).2)
end
theorem ptF_cons (x : Fld) (r : List Fld) : ptF (x :: r) = ((ptV x.v).1 + (ptF r).1, max (ptV x.v).2 (ptF r).2) := by cases x; simp only [ptF, Fld.v]

mutual
theorem ptV_pos : ∀ (v : Val), 1 ≤ (ptV v).1 ∧ 1 ≤ (ptV v).2
  | .mk k n s l f => by simp only [ptV]; omega
theorem ptL_z : ∀ (l : List Val), (ptL l).1 = 0 → (ptL l).2 = 0
  | [], _ => rfl
  | v :: r, h => by
    have := ptV_pos v
    simp only [ptL] at h; omega
theorem ptF_z : ∀ (l : List Fld), (ptF l).1 = 0 → (ptF l).2 = 0
  | [], _ => rfl
  | .mk _ v :: r, h => by
    have := ptV_pos v
    simp only [ptF] at h; omega
end

mutual
theorem szV_pt (deep : Nat) : ∀ (v : Val) (left : Int), 0 ≤ left → ((((ptV v).1 : Int) ≤ left ∧ deep + (ptV v).2 ≤ 9) → szV deep v left = (true, left - (ptV v).1)) ∧ (¬ (((ptV v).1 : Int) ≤ left ∧ deep + (ptV v).2 ≤ 9) → (szV deep v left).1 = false)
  | .mk k n s l f, left, h => by
    have hL := szL_pt (deep + 1) l
    have hF := szF_pt (deep + 1) f
    have e1 := ptL_z l
    have e2 := ptF_z f
    have e3 : ptV (.mk k n s l f) = (1 + (ptL l).1 + (ptF f).1, max (ptL l).2 (ptF f).2 + 1) := by simp only [ptV]
    rw [e3]
    generalize hA : ptL l = A at *
    generalize hB : ptF f = B at *
    obtain ⟨a1, a2⟩ := A
    obtain ⟨b1, b2⟩ := B
    simp only at *
    unfold szV
    by_cases h8 : 8 < deep
    · rw [if_pos h8]
      exact ⟨fun c => by exfalso; omega, fun _ => rfl⟩
    · rw [if_neg h8]
      by_cases h0 : left - 1 < 0
      · rw [if_pos h0]
        exact ⟨fun c => by exfalso; omega, fun _ => rfl⟩
      · rw [if_neg h0]
        obtain ⟨g1, g2⟩ := hL (left - 1) (by omega)
        by_cases c1 : ((a1 : Int) ≤ left - 1 ∧ (a1 = 0 ∨ deep + 1 + a2 ≤ 9))
        · rw [g1 c1]
          simp only
          obtain ⟨g3, g4⟩ := hF (left - 1 - a1) (by omega)
          by_cases c2 : ((b1 : Int) ≤ left - 1 - a1 ∧ (b1 = 0 ∨ deep + 1 + b2 ≤ 9))
          · refine ⟨fun _ => ?_, fun c => by exfalso; omega⟩
            rw [g3 c2]; congr 1; omega
          · exact ⟨fun c => by exfalso; omega, fun _ => g4 c2⟩
        · refine ⟨fun c => by exfalso; omega, fun _ => ?_⟩
          have := g2 c1
          generalize szL (deep + 1) l (left - 1) = Z at this
          obtain ⟨z1, z2⟩ := Z
          simp only at this
          subst this
          rfl
theorem szL_pt (deep : Nat) : ∀ (l : List Val) (left : Int), 0 ≤ left → ((((ptL l).1 : Int) ≤ left ∧ ((ptL l).1 = 0 ∨ deep + (ptL l).2 ≤ 9)) → szL deep l left = (true, left - (ptL l).1)) ∧ (¬ (((ptL l).1 : Int) ≤ left ∧ ((ptL l).1 = 0 ∨ deep + (ptL l).2 ≤ 9)) → (szL deep l left).1 = false)
  | [], left, h => by simp [szL, ptL]; omega
  | v :: r, left, h => by
    obtain ⟨g1, g2⟩ := szV_pt deep v left h
    have h2 := szL_pt deep r
    have hp := ptV_pos v
    have hz := ptL_z r
    have e3 : ptL (v :: r) = ((ptV v).1 + (ptL r).1, max (ptV v).2 (ptL r).2) := by simp only [ptL]
    rw [e3]
    generalize hA : ptV v = A at *
    generalize hB : ptL r = B at *
    obtain ⟨a1, a2⟩ := A
    obtain ⟨b1, b2⟩ := B
    simp only at *
    unfold szL
    by_cases c1 : ((a1 : Int) ≤ left ∧ deep + a2 ≤ 9)
    · rw [g1 c1]
      simp only
      obtain ⟨g3, g4⟩ := h2 (left - a1) (by omega)
      by_cases c2 : ((b1 : Int) ≤ left - a1 ∧ (b1 = 0 ∨ deep + b2 ≤ 9))
      · refine ⟨fun _ => ?_, fun c => by exfalso; omega⟩
        rw [g3 c2]; congr 1; omega
      · exact ⟨fun c => by exfalso; omega, fun _ => g4 c2⟩
    · refine ⟨fun c => by exfalso; omega, fun _ => ?_⟩
      have := g2 c1
      generalize szV deep v left = Z at this
      obtain ⟨z1, z2⟩ := Z
      simp only at this
      subst this
      rfl
theorem szF_pt (deep : Nat) : ∀ (l : List Fld) (left : Int), 0 ≤ left → ((((ptF l).1 : Int) ≤ left ∧ ((ptF l).1 = 0 ∨ deep + (ptF l).2 ≤ 9)) → szF deep l left = (true, left - (ptF l).1)) ∧ (¬ (((ptF l).1 : Int) ≤ left ∧ ((ptF l).1 = 0 ∨ deep + (ptF l).2 ≤ 9)) → (szF deep l left).1 = false)
  | [], left, h => by simp [szF, ptF]; omega
  | .mk nm v :: r, left, h => by
    obtain ⟨g1, g2⟩ := szV_pt deep v left h
    have h2 := szF_pt deep r
    have hp := ptV_pos v
    have hz := ptF_z r
    have e3 : ptF (.mk nm v :: r) = ((ptV v).1 + (ptF r).1, max (ptV v).2 (ptF r).2) := by simp only [ptF]
    rw [e3]
    generalize hA : ptV v = A at *
    generalize hB : ptF r = B at *
    obtain ⟨a1, a2⟩ := A
    obtain ⟨b1, b2⟩ := B
    simp only at *
    unfold szF
    by_cases c1 : ((a1 : Int) ≤ left ∧ deep + a2 ≤ 9)
    · rw [g1 c1]
      simp only
      obtain ⟨g3, g4⟩ := h2 (left - a1) (by omega)
      by_cases c2 : ((b1 : Int) ≤ left - a1 ∧ (b1 = 0 ∨ deep + b2 ≤ 9))
      · refine ⟨fun _ => ?_, fun c => by exfalso; omega⟩
        rw [g3 c2]; congr 1; omega
      · exact ⟨fun c => by exfalso; omega, fun _ => g4 c2⟩
    · refine ⟨fun c => by exfalso; omega, fun _ => ?_⟩
      have := g2 c1
      generalize szV deep v left = Z at this
      obtain ⟨z1, z2⟩ := Z
      simp only at this
      subst this
      rfl
end

/-- What is wrong with a value. -/
def faultV (v : Val) : Nat := if 300 < (ptV v).1 ∨ 8 < (ptV v).2 then 2 else if wellV v then 0 else 3

theorem szV_top (v : Val) : (szV 1 v 300).1 = !decide (300 < (ptV v).1 ∨ 8 < (ptV v).2) := by
  have h := szV_pt 1 v 300 (by omega)
  by_cases c : (((ptV v).1 : Int) ≤ 300 ∧ 1 + (ptV v).2 ≤ 9)
  · rw [h.1 c]
    have : ¬ (300 < (ptV v).1 ∨ 8 < (ptV v).2) := by omega
    simp [this]
  · rw [h.2 c]
    have : (300 < (ptV v).1 ∨ 8 < (ptV v).2) := by omega
    simp [this]

/-- value.Check -/
def L_value_Check : LCode :=
  .seq (.reg [⟨some 1, .box (.t 0), none⟩, ⟨some 2, .asg (.k (.d .nil)), none⟩]) (.seq (.reg [⟨some 3, .allo [.int .i64 0], none⟩, ⟨none, .st 1 (.t 3) (.k (.d (.int .i64 300))), 
  none⟩]) (.seq (.seq (.reg [⟨some 4, .val (.ld true 5 (.t 1)), none⟩, ⟨some 5, .prim .call [.k (.fn (.func 64) [] []), .t 4, .k (.d (.int .i64 1)), .t 3] [], none⟩, ⟨some 6, .val 
  (.not (.t 5)), none⟩]) (.cond (.t 6) (.seq (.reg [⟨some 7, .val (.mkI 76 (.k (.d (.int .i64 2)))), none⟩, ⟨some 2, .asg (.t 7), none⟩]) .ret) .skip)) (.seq (.seq (.reg [⟨some 8, 
  .val (.ld true 5 (.t 1)), none⟩, ⟨some 9, .call 65 [.t 8], none⟩, ⟨some 10, .val (.not (.t 9)), none⟩]) (.cond (.t 10) (.seq (.reg [⟨some 11, .val (.mkI 76 (.k (.d (.int .i64 
  3)))), none⟩, ⟨some 2, .asg (.t 11), none⟩]) .ret) .skip)) (.seq (.reg [⟨some 2, .asg (.k (.d .nil)), none⟩]) .ret))))
def R_value_Check : List LRes := [.tmp 2]
theorem lift_value_Check : Lifts Try.prog 41 12 L_value_Check R_value_Check := ⟨_, _, Try.func41, rfl, by kernel_rfl, by kernel_rfl, rfl⟩

theorem checkV_call (v : Val) (hsm : v.sm 1048576 = true) : PCall Try.prog 41 [v.d] (fun r => r = .one (errD (faultV v))) := by
  have h1 := size_call _ v (Nat.le_refl _) 1 300 (by omega) (by omega) (by omega) (by omega) hsm
  have h2 := well_call _ v (Nat.le_refl _) hsm
  rw [szV_top] at h1
  generalize (szV 1 v 300).2 = q at h1
  rw [Val.d_eq] at *
  refine lift_value_Check.call rfl ?_
  simp (maxSteps := 2000000) only [go_sem, ↓reduceIte, L_value_Check, R_value_Check]
  refine PrimG.mcall ([.l 3]) ([]) rfl (h1) rfl rfl (by simp only [objsAt, St.obj, aget, AObj.ren, AV.ren, AV.ren1, renL, ren1L, renR, renQ, List.getD_cons_zero, List.getD_cons_succ, and_true, and_self, Nat.reduceEqDiff, ↓reduceIte, reduceCtorEq]) rfl rfl rfl ⟨rfl, rfl⟩ ?_
  simp (maxSteps := 2000000) only [go_sem, ↓reduceIte]
  refine ⟨fun c => ?_, fun c => ?_⟩
  · simp only [faultV, if_pos c]; rfl
  · refine CallG.of h2 ?_
    simp (maxSteps := 2000000) only [go_sem, ↓reduceIte]
    simp only [faultV, if_neg c]
    cases wellV v <;> simp [errD]

theorem take_snoc {α : Type} {l : List α} {i : Nat} {x : α} (hx : l[i]? = some x) : l.take (i + 1) = l.take i ++ [x] := by
  rw [List.take_add_one, hx]; rfl
end Go.Av.Try
