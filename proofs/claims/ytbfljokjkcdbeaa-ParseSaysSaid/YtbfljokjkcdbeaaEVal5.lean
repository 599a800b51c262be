import Derived.Test.YtbfljokjkcdbeaaEVal4
/- Values of a file: the document's parts, and how deep. -/
set_option linter.unusedSimpArgs false
namespace Go.Av.Try
open Go.Proofs

mutual
/-- Parts of a value, and how deep it is. -/
def ptV : Val → Nat × Nat
  | .mk _ _ _ l f => (1 + (ptL l).1 + (ptF f).1, max (ptL l).2 (ptF f).2 + 1)
def ptL : List Val → Nat × Nat
  | [] => (0, 0)
  | v :: r => ((ptV v).1 + (ptL r).1, max (ptV v).2 (ptL r).2)
def ptF : List Fld → Nat × Nat
  | [] => (0, 0)
  | .mk _ v :: r => ((ptV v).1 + (ptF r).1, max (ptV v).2 (ptF r).2)
end
theorem ptV_eq (v : Val) : ptV v = (1 + (ptL v.l).1 + (ptF v.f).1, max (ptL v.l).2 (ptF v.f).2 + 1) := by cases v; simp only [ptV, Val.l, Val.f]
theorem ptF_cons (x : Fld) (r : List Fld) : ptF (x :: r) = ((ptV x.v).1 + (ptF r).1, max (ptV x.v).2 (ptF r).2) := by cases x; simp only [ptF, Fld.v]

mutual
theorem ptV_pos : ∀ (v : Val), 1 ≤ (ptV v).1 ∧ 1 ≤ (ptV v).2
  | .mk k n s l f => by simp only [ptV]; omega
theorem ptL_z : ∀ (l : List Val), (ptL l).1 = 0 → (ptL l).2 = 0
  | [], _ => rfl
  | v :: r, h => by
    have := ptV_pos v
    simp only [ptL] at h; omega
theorem ptF_z : ∀ (l : List Fld), (ptF l).1 = 0 → (ptF l).2 = 0
  | [], _ => rfl
  | .mk _ v :: r, h => by
    have := ptV_pos v
    simp only [ptF] at h; omega
end

mutual
theorem szV_pt (deep : Nat) : ∀ (v : Val) (left : Int), 0 ≤ left → ((((ptV v).1 : Int) ≤ left ∧ deep + (ptV v).2 ≤ 9) → szV deep v left = (true, left - (ptV v).1)) ∧ (¬ (((ptV v).1 : Int) ≤ left ∧ deep + (ptV v).2 ≤ 9) → (szV deep v left).1 = false)
  | .mk k n s l f, left, h => by
    have hL := szL_pt (deep + 1) l
    have hF := szF_pt (deep + 1) f
    have e1 := ptL_z l
    have e2 := ptF_z f
    have e3 : ptV (.mk k n s l f) = (1 + (ptL l).1 + (ptF f).1, max (ptL l).2 (ptF f).2 + 1) := by simp only [ptV]
    rw [e3]
    generalize hA : ptL l = A at *
    generalize hB : ptF f = B at *
    obtain ⟨a1, a2⟩ := A
    obtain ⟨b1, b2⟩ := B
    simp only at *
    unfold szV
    by_cases h8 : 8 < deep
    · rw [if_pos h8]
      exact ⟨fun c => by exfalso; omega, fun _ => rfl⟩
    · rw [if_neg h8]
      by_cases h0 : left - 1 < 0
      · rw [if_pos h0]
        exact ⟨fun c => by exfalso; omega, fun _ => rfl⟩
      · rw [if_neg h0]
        obtain ⟨g1, g2⟩ := hL (left - 1) (by omega)
        by_cases c1 : ((a1 : Int) ≤ left - 1 ∧ (a1 = 0 ∨ deep + 1 + a2 ≤ 9))
        · rw [g1 c1]
          simp only
          obtain ⟨g3, g4⟩ := hF (left - 1 - a1) (by omega)
          by_cases c2 : ((b1 : Int) ≤ left - 1 - a1 ∧ (b1 = 0 ∨ deep + 1 + b2 ≤ 9))
          · refine ⟨fun _ => ?_, fun c => by exfalso; omega⟩
            rw [g3 c2]; congr 1; omega
          · exact ⟨fun c => by exfalso; omega, fun _ => g4 c2⟩
        · refine ⟨fun c => by exfalso; omega, fun _ => ?_⟩
          have := g2 c1
          generalize szL (deep + 1) l (left - 1) = Z at this
          obtain ⟨z1, z2⟩ := Z
          simp only at this
          subst this
          rfl
theorem szL_pt (deep : Nat) : ∀ (l : List Val) (left : Int), 0 ≤ left → ((((ptL l).1 : Int) ≤ left ∧ ((ptL l).1 = 0 ∨ deep + (ptL l).2 ≤ 9)) → szL deep l left = (true, left - (ptL l).1)) ∧ (¬ (((ptL l).1 : Int) ≤ left ∧ ((ptL l).1 = 0 ∨ deep + (ptL l).2 ≤ 9)) → (szL deep l left).1 = false)
  | [], left, h => by simp [szL, ptL]; omega
  | v :: r, left, h => by
    obtain ⟨g1, g2⟩ := szV_pt deep v left h
    have h2 := szL_pt deep r
    have hp := ptV_pos v
    have hz := ptL_z r
    have e3 : ptL (v :: r) = ((ptV v).1 + (ptL r).1, max (ptV v).2 (ptL r).2) := by simp only [ptL]
    rw [e3]
    generalize hA : ptV v = A at *
    generalize hB : ptL r = B at *
    obtain ⟨a1, a2⟩ := A
    obtain ⟨b1, b2⟩ := B
    simp only at *
    unfold szL
    by_cases c1 : ((a1 : Int) ≤ left ∧ deep + a2 ≤ 9)
    · rw [g1 c1]
      simp only
      obtain ⟨g3, g4⟩ := h2 (left - a1) (by omega)
      by_cases c2 : ((b1 : Int) ≤ left - a1 ∧ (b1 = 0 ∨ deep + b2 ≤ 9))
      · refine ⟨fun _ => ?_, fun c => by exfalso; omega⟩
        rw [g3 c2]; congr 1; omega
      · exact ⟨fun c => by exfalso; omega, fun _ => g4 c2⟩
    · refine ⟨fun c => by exfalso; omega, fun _ => ?_⟩
      have := g2 c1
      generalize szV deep v left = Z at this
      obtain ⟨z1, z2⟩ := Z
      simp only at this
      subst this
      rfl
theorem szF_pt (deep : Nat) : ∀ (l : List Fld) (left : Int), 0 ≤ left → ((((ptF l).1 : Int) ≤ left ∧ ((ptF l).1 = 0 ∨ deep + (ptF l).2 ≤ 9)) → szF deep l left = (true, left - (ptF l).1)) ∧ (¬ (((ptF l).1 : Int) ≤ left ∧ ((ptF l).1 = 0 ∨ deep + (ptF l).2 ≤ 9)) → (szF deep l left).1 = false)
  | [], left, h => by simp [szF, ptF]; omega
  | .mk nm v :: r, left, h => by
    obtain ⟨g1, g2⟩ := szV_pt deep v left h
    have h2 := szF_pt deep r
    have hp := ptV_pos v
    have hz := ptF_z r
    have e3 : ptF (.mk nm v :: r) = ((ptV v).1 + (ptF r).1, max (ptV v).2 (ptF r).2) := by simp only [ptF]
    rw [e3]
    generalize hA : ptV v = A at *
    generalize hB : ptF r = B at *
    obtain ⟨a1, a2⟩ := A
    obtain ⟨b1, b2⟩ := B
    simp only at *
    unfold szF
    by_cases c1 : ((a1 : Int) ≤ left ∧ deep + a2 ≤ 9)
    · rw [g1 c1]
      simp only
      obtain ⟨g3, g4⟩ := h2 (left - a1) (by omega)
      by_cases c2 : ((b1 : Int) ≤ left - a1 ∧ (b1 = 0 ∨ deep + b2 ≤ 9))
      · refine ⟨fun _ => ?_, fun c => by exfalso; omega⟩
        rw [g3 c2]; congr 1; omega
      · exact ⟨fun c => by exfalso; omega, fun _ => g4 c2⟩
    · refine ⟨fun c => by exfalso; omega, fun _ => ?_⟩
      have := g2 c1
      generalize szV deep v left = Z at this
      obtain ⟨z1, z2⟩ := Z
      simp only at this
      subst this
      rfl
end

/-- What is wrong with a value. -/
def faultV (v : Val) : Nat := if 300 < (ptV v).1 ∨ 8 < (ptV v).2 then 2 else if wellV v then 0 else 3

theorem szV_top (v : Val) : (szV 1 v 300).1 = !decide (300 < (ptV v).1 ∨ 8 < (ptV v).2) := by
  have h := szV_pt 1 v 300 (by omega)
  by_cases c : (((ptV v).1 : Int) ≤ 300 ∧ 1 + (ptV v).2 ≤ 9)
  · rw [h.1 c]
    have : ¬ (300 < (ptV v).1 ∨ 8 < (ptV v).2) := by omega
    simp [this]
  · rw [h.2 c]
    have : (300 < (ptV v).1 ∨ 8 < (ptV v).2) := by omega
    simp [this]

/-- value.Check -/
def L_value_Check : LCode :=
  .seq (.reg [⟨some 1, .box (.t 0), none⟩, ⟨some 2, .asg (.k (.d .nil)), none⟩]) (.seq (.reg [⟨some 3, .allo [.int .i64 0], none⟩, ⟨none, .st 1 (.t 3) (.k (.d (.int .i64 300))), 
  none⟩]) (.seq (.seq (.reg [⟨some 4, .val (.ld true 5 (.t 1)), none⟩, ⟨some 5, .prim .call [.k (.fn (.func 64) [] []), .t 4, .k (.d (.int .i64 1)), .t 3] [], none⟩, ⟨some 6, .val 
  (.not (.t 5)), none⟩]) (.cond (.t 6) (.seq (.reg [⟨some 7, .val (.mkI 76 (.k (.d (.int .i64 2)))), none⟩, ⟨some 2, .asg (.t 7), none⟩]) .ret) .skip)) (.seq (.seq (.reg [⟨some 8, 
  .val (.ld true 5 (.t 1)), none⟩, ⟨some 9, .call 65 [.t 8], none⟩, ⟨some 10, .val (.not (.t 9)), none⟩]) (.cond (.t 10) (.seq (.reg [⟨some 11, .val (.mkI 76 (.k (.d (.int .i64 
  3)))), none⟩, ⟨some 2, .asg (.t 11), none⟩]) .ret) .skip)) (.seq (.reg [⟨some 2, .asg (.k (.d .nil)), none⟩]) .ret))))
def R_value_Check : List LRes := [.tmp 2]
theorem lift_value_Check : Lifts Try.prog 41 12 L_value_Check R_value_Check := ⟨_, _, Try.func41, rfl, by kernel_rfl, by kernel_rfl, rfl⟩

theorem checkV_call (v : Val) (hsm : v.sm 1048576 = true) : PCall Try.prog 41 [v.d] (fun r => r = .one (errD (faultV v))) := by
  have h1 := size_call _ v (Nat.le_refl _) 1 300 (by omega) (by omega) (by omega) (by omega) hsm
  have h2 := well_call _ v (Nat.le_refl _) hsm
  rw [szV_top] at h1
  generalize (szV 1 v 300).2 = q at h1
  rw [Val.d_eq] at *
  refine lift_value_Check.call rfl ?_
  simp (maxSteps := 2000000) only [go_sem, ↓reduceIte, L_value_Check, R_value_Check]
  refine PrimG.mcall ([.l 3]) ([]) rfl (h1) rfl rfl (by simp only [objsAt, St.obj, aget, AObj.ren, AV.ren, AV.ren1, renL, ren1L, renR, renQ, List.getD_cons_zero, List.getD_cons_succ, and_true, and_self, Nat.reduceEqDiff, ↓reduceIte, reduceCtorEq]) rfl rfl rfl ⟨rfl, rfl⟩ ?_
  simp (maxSteps := 2000000) only [go_sem, ↓reduceIte]
  refine ⟨fun c => ?_, fun c => ?_⟩
  · simp only [faultV, if_pos c]; rfl
  · refine CallG.of h2 ?_
    simp (maxSteps := 2000000) only [go_sem, ↓reduceIte]
    simp only [faultV, if_neg c]
    cases wellV v <;> simp [errD]

theorem ptL_snoc {l : List Val} {x : Val} : ptL (l ++ [x]) = ((ptL l).1 + (ptV x).1, max (ptL l).2 (ptV x).2) := by
  induction l with
  | nil => simp [ptL]
  | cons y r ih => simp only [List.cons_append, ptL, ih]; congr 1 <;> omega
theorem ptF_snoc {l : List Fld} {x : Fld} : ptF (l ++ [x]) = ((ptF l).1 + (ptV x.v).1, max (ptF l).2 (ptV x.v).2) := by
  induction l with
  | nil => simp [ptF, ptF_cons]
  | cons y r ih => simp only [List.cons_append, ptF_cons, ih]; congr 1 <;> omega
theorem maxI (a b : Nat) : (if (a : Int) < b then (b : Int) else a) = ((max a b : Nat) : Int) := by split <;> omega

theorem take_snoc {α : Type} {l : List α} {i : Nat} {x : α} (hx : l[i]? = some x) : l.take (i + 1) = l.take i ++ [x] := by
  rw [List.take_add_one, hx]; rfl
theorem ptL_take_le {l : List Val} {i : Nat} : (ptL (l.take i)).1 ≤ (ptL l).1 := by
  induction l generalizing i with
  | nil => simp
  | cons y r ih =>
    cases i with
    | zero => simp [ptL]
    | succ i => simp only [List.take_succ_cons, ptL]; have := ih (i := i); omega
theorem ptF_take_le {l : List Fld} {i : Nat} : (ptF (l.take i)).1 ≤ (ptF l).1 := by
  induction l generalizing i with
  | nil => simp
  | cons y r ih =>
    cases i with
    | zero => simp [ptF]
    | succ i => simp only [List.take_succ_cons, ptF_cons]; have := ih (i := i); omega
theorem ptL_mem {l : List Val} {x : Val} (h : x ∈ l) : (ptV x).1 ≤ (ptL l).1 := by
  induction l with
  | nil => simp at h
  | cons y r ih =>
    simp only [ptL]
    rcases List.mem_cons.1 h with rfl | h
    · omega
    · have := ih h; omega
theorem ptF_mem {l : List Fld} {x : Fld} (h : x ∈ l) : (ptV x.v).1 ≤ (ptF l).1 := by
  induction l with
  | nil => simp at h
  | cons y r ih =>
    simp only [ptF_cons]
    rcases List.mem_cons.1 h with rfl | h
    · omega
    · have := ih h; omega
mutual
theorem ptV_le : ∀ (v : Val), (ptV v).2 ≤ (ptV v).1
  | .mk k n s l f => by
    have h1 := ptL_le l
    have h2 := ptF_le f
    simp only [ptV]; omega
theorem ptL_le : ∀ (l : List Val), (ptL l).2 ≤ (ptL l).1
  | [] => Nat.le_refl _
  | v :: r => by
    have h1 := ptV_le v
    have h2 := ptL_le r
    simp only [ptL]; omega
theorem ptF_le : ∀ (l : List Fld), (ptF l).2 ≤ (ptF l).1
  | [] => Nat.le_refl _
  | .mk _ v :: r => by
    have h1 := ptV_le v
    have h2 := ptF_le r
    simp only [ptF]; omega
end

/-- foliowrightref.parts -/
def L_foliowrightref_parts : LCode :=
  .seq (.reg [⟨some 1, .box (.t 0), none⟩, ⟨some 2, .asg (.k (.d (.int .i64 0))), none⟩, ⟨some 3, .asg (.k (.d (.int .i64 0))), none⟩]) (.seq (.reg [⟨some 4, .asg (.k (.d (.int .i64 
  1))), none⟩]) (.seq (.reg [⟨some 5, .asg (.k (.d (.int .i64 0))), none⟩]) (.seq (.seq (.reg [⟨some 6, .asg (.k (.d (.int .i64 0))), none⟩]) (.block 0 (.loop (.seq (.seq (.reg 
  [⟨some 12, .val (.cp (.t 6)), none⟩, ⟨some 13, .val (.fa 3 (.t 1)), none⟩, ⟨some 14, .val (.ld false 1 (.t 13)), none⟩, ⟨some 15, .val (.len false (.t 14)), none⟩, ⟨some 16, .val 
  (.bin .lss (.t 12) (.t 15)), none⟩]) (.cond (.t 16) .skip (.exit 0))) (.seq (.block 1 (.seq (.reg [⟨some 20, .val (.fa 3 (.t 1)), none⟩, ⟨some 21, .val (.ld false 1 (.t 20)), 
  none⟩, ⟨some 22, .val (.cp (.t 6)), none⟩, ⟨some 23, .val (.ia 5 (.t 21) (.t 22)), none⟩, ⟨some 24, .val (.ld true 5 (.t 23)), none⟩, ⟨some 25, .call 73 [.t 24], none⟩, ⟨some 19, 
  .val (.cp (.t 25)), none⟩, ⟨some 26, .val (.ext 0 (.t 19)), none⟩, ⟨some 27, .val (.ext 1 (.t 19)), none⟩, ⟨some 7, .asg (.t 26), none⟩, ⟨some 8, .asg (.t 27), none⟩]) (.seq 
  (.reg [⟨some 28, .val (.cp (.t 4)), none⟩, ⟨some 29, .val (.cp (.t 7)), none⟩, ⟨some 30, .val (.bin .add (.t 28) (.t 29)), none⟩, ⟨some 4, .asg (.t 30), none⟩]) (.reg [⟨some 31, 
  .val (.cp (.t 5)), none⟩, ⟨some 32, .val (.cp (.t 8)), none⟩, ⟨some 33, .val (.mm true (.t 31) (.t 32)), none⟩, ⟨some 5, .asg (.t 33), none⟩])))) (.reg [⟨some 17, .val (.cp (.t 
  6)), none⟩, ⟨some 18, .val (.bin .add (.t 17) (.k (.d (.int .i64 1)))), none⟩, ⟨some 6, .asg (.t 18), none⟩])))))) (.seq (.seq (.reg [⟨some 9, .asg (.k (.d (.int .i64 0))), 
  none⟩]) (.block 2 (.loop (.seq (.seq (.reg [⟨some 34, .val (.cp (.t 9)), none⟩, ⟨some 35, .val (.fa 4 (.t 1)), none⟩, ⟨some 36, .val (.ld false 1 (.t 35)), none⟩, ⟨some 37, .val 
  (.len false (.t 36)), none⟩, ⟨some 38, .val (.bin .lss (.t 34) (.t 37)), none⟩]) (.cond (.t 38) .skip (.exit 2))) (.seq (.block 3 (.seq (.reg [⟨some 42, .val (.fa 4 (.t 1)), 
  none⟩, ⟨some 43, .val (.ld false 1 (.t 42)), none⟩, ⟨some 44, .val (.cp (.t 9)), none⟩, ⟨some 45, .val (.ia 6 (.t 43) (.t 44)), none⟩, ⟨some 46, .val (.fa 1 (.t 45)), none⟩, 
  ⟨some 47, .val (.ld true 5 (.t 46)), none⟩, ⟨some 48, .call 73 [.t 47], none⟩, ⟨some 41, .val (.cp (.t 48)), none⟩, ⟨some 49, .val (.ext 0 (.t 41)), none⟩, ⟨some 50, .val (.ext 1 
  (.t 41)), none⟩, ⟨some 10, .asg (.t 49), none⟩, ⟨some 11, .asg (.t 50), none⟩]) (.seq (.reg [⟨some 51, .val (.cp (.t 4)), none⟩, ⟨some 52, .val (.cp (.t 10)), none⟩, ⟨some 53, 
  .val (.bin .add (.t 51) (.t 52)), none⟩, ⟨some 4, .asg (.t 53), none⟩]) (.reg [⟨some 54, .val (.cp (.t 5)), none⟩, ⟨some 55, .val (.cp (.t 11)), none⟩, ⟨some 56, .val (.mm true 
  (.t 54) (.t 55)), none⟩, ⟨some 5, .asg (.t 56), none⟩])))) (.reg [⟨some 39, .val (.cp (.t 9)), none⟩, ⟨some 40, .val (.bin .add (.t 39) (.k (.d (.int .i64 1)))), none⟩, ⟨some 9, 
  .asg (.t 40), none⟩])))))) (.seq (.reg [⟨some 57, .val (.cp (.t 4)), none⟩, ⟨some 58, .val (.cp (.t 5)), none⟩, ⟨some 59, .val (.bin .add (.t 58) (.k (.d (.int .i64 1)))), none⟩, 
  ⟨some 2, .asg (.t 57), none⟩, ⟨some 3, .asg (.t 59), none⟩]) .ret)))))
def R_foliowrightref_parts : List LRes := [.tmp 2, .tmp 3]
theorem lift_foliowrightref_parts : Lifts Try.prog 73 60 L_foliowrightref_parts R_foliowrightref_parts := ⟨_, _, Try.func73, rfl, by kernel_rfl, by kernel_rfl, rfl⟩

theorem parts_call : ∀ (m : Nat) (v : Val), SizeOf.sizeOf v ≤ m → v.sm 1048576 = true → (ptV v).1 ≤ 1000000000 → PCall Try.prog 73 [v.d] (fun r => r = .tup [.int .i64 (ptV v).1, .int .i64 (ptV v).2]) := by
  intro m
  induction m with
  | zero => intro v h; cases v; simp at h
  | succ m ih =>
    intro v hv hsm hpt
    obtain ⟨_, hll, hfl, hsl, hsf⟩ := Val.sm_iff.1 hsm
    have hvl := valsD_length v.l
    have hfl' := fldsD_length v.f
    have hpe := ptV_eq v
    have hle := ptL_le v.l
    have hle2 := ptF_le v.f
    rw [hpe] at hpt
    simp only at hpt
    rw [hpe]
    rw [Val.d_eq]
    refine lift_foliowrightref_parts.call rfl ?_
    simp (maxSteps := 2000000) only [go_sem, ↓reduceIte, L_foliowrightref_parts, R_foliowrightref_parts]
    refine run_loop (fun i : Nat => ⟨[(1, .ptr (.l 1) 0), (4, .d (.int .i64 (1 + (ptL (v.l.take i)).1 : Nat))), (5, .d (.int .i64 (ptL (v.l.take i)).2)), (6, .d (.int .i64 i))],
        [(1, .cells [.d (.int .i64 v.kind), .d (.int .i64 v.n), .d (.str v.s), .d (.list (valsD v.l)), .d (.list (fldsD v.f))])], []⟩)
      (fun i => i ≤ v.l.length) (fun i => v.l.length - i) 0 ?_ ?_ ?_
    · refine Weak.mk ?_ ?_ ?_ <;> simp (maxSteps := 2000000) only [go_sem, ↓reduceIte, Sub, Int.natCast_add, Int.natCast_mul, List.take_zero, ptL]
    · omega
    · intro i hi
      simp (maxSteps := 2000000) only [go_sem, ↓reduceIte, hvl]
      refine ⟨fun hlt => ?_, fun hge => ?_⟩
      · obtain ⟨x, hx⟩ := get_some (l := v.l) (i := i) (by omega)
        have hm := List.mem_of_getElem? hx
        have hc := ih x (by have := size_l hm; omega) (hsl x hm) (by have := ptL_mem hm; omega)
        have ht := ptL_take_le (l := v.l) (i := i + 1)
        have hle3 := ptL_le (v.l.take (i + 1))
        rw [take_snoc hx, ptL_snoc] at ht hle3
        simp only at ht hle3
        rw [Val.d_eq] at hc
        simp (maxSteps := 2000000) (disch := omega) only [go_sem, ↓reduceIte, getI_nat, valsD_get, hx, Val.d_eq]
        refine CallG.of hc ?_
        simp (maxSteps := 2000000) (disch := omega) only [go_sem, ↓reduceIte]
        refine ⟨i + 1, ?_, by omega, by omega⟩
        rw [take_snoc hx, ptL_snoc]
        refine Weak.mk ?_ ?_ ?_ <;> simp (maxSteps := 2000000) only [go_sem, ↓reduceIte, Sub, Int.natCast_add, Int.natCast_mul, maxI, Int.add_assoc]
      · have ht : v.l.take i = v.l := List.take_of_length_le (by omega)
        rw [ht]
        refine run_loop (fun j : Nat => ⟨[(1, .ptr (.l 1) 0), (4, .d (.int .i64 (1 + (ptL v.l).1 + (ptF (v.f.take j)).1 : Nat))), (5, .d (.int .i64 (max (ptL v.l).2 (ptF (v.f.take j)).2 : Nat))), (9, .d (.int .i64 j))],
            [(1, .cells [.d (.int .i64 v.kind), .d (.int .i64 v.n), .d (.str v.s), .d (.list (valsD v.l)), .d (.list (fldsD v.f))])], []⟩)
          (fun j => j ≤ v.f.length) (fun j => v.f.length - j) 0 ?_ ?_ ?_
        · refine Weak.mk ?_ ?_ ?_ <;> simp (maxSteps := 2000000) only [go_sem, ↓reduceIte, Sub, Int.natCast_add, Int.natCast_mul, List.take_zero, ptF, Nat.add_zero, Nat.max_zero]
        · omega
        · intro j hj
          simp (maxSteps := 2000000) only [go_sem, ↓reduceIte, hfl']
          refine ⟨fun hlt => ?_, fun hge => ?_⟩
          · obtain ⟨x, hx⟩ := get_some (l := v.f) (i := j) (by omega)
            have hm := List.mem_of_getElem? hx
            have hc := ih x.v (by have := size_f hm; omega) (Fld.sm_iff.1 (hsf x hm)).2 (by have := ptF_mem hm; omega)
            have ht := ptF_take_le (l := v.f) (i := j + 1)
            have hle3 := ptF_le (v.f.take (j + 1))
            rw [take_snoc hx, ptF_snoc] at ht hle3
            simp only at ht hle3
            rw [Val.d_eq] at hc
            simp (maxSteps := 2000000) (disch := omega) only [go_sem, ↓reduceIte, getI_nat, fldsD_get, hx, Fld.d_eq]
            refine CallG.of hc ?_
            simp (maxSteps := 2000000) (disch := omega) only [go_sem, ↓reduceIte]
            refine ⟨j + 1, ?_, by omega, by omega⟩
            rw [take_snoc hx, ptF_snoc]
            refine Weak.mk ?_ ?_ ?_ <;> simp (maxSteps := 2000000) only [go_sem, ↓reduceIte, Sub, Int.natCast_add, Int.natCast_mul, maxI, Int.add_assoc, Nat.max_assoc]
          · have ht : v.f.take j = v.f := List.take_of_length_le (by omega)
            rw [ht]
            simp (maxSteps := 2000000) (disch := omega) only [go_sem, ↓reduceIte, Int.natCast_add, Int.natCast_one]
end Go.Av.Try
