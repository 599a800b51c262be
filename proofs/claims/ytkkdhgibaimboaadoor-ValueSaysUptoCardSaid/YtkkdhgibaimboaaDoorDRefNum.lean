import Derived.Test.YtkkdhgibaimboaaDoorDFix
set_option linter.unusedSimpArgs false
namespace Go.Av.Tryd
open Go.Proofs

/-- foliowrightref.FixFault -/
def L_foliowrightref_FixFault : LCode :=
  .seq (.reg [⟨some 2, .asg (.k (.d (.int .i64 0))), none⟩]) (.seq (.seq (.reg [⟨some 3, .val (.cp (.t 0)), none⟩, ⟨some 4, .val (.bin .lss (.t 3) (.k (.d (.int .i64 
  (-1000000000))))), none⟩, ⟨some 5, .val (.cp (.t 4)), none⟩, ⟨some 6, .val (.cp (.t 0)), some (5, false)⟩, ⟨some 7, .val (.bin .gtr (.t 6) (.k (.d (.int .i64 1000000000)))), some 
  (5, false)⟩, ⟨some 8, .val (.pick (.t 5) (.k (.d (.bool true))) (.t 7)), none⟩]) (.cond (.t 8) (.seq (.reg [⟨some 2, .asg (.k (.d (.int .i64 1))), none⟩]) .ret) .skip)) (.seq 
  (.reg [⟨some 2, .asg (.k (.d (.int .i64 0))), none⟩]) .ret))
def R_foliowrightref_FixFault : List LRes := [.tmp 2]
theorem lift_foliowrightref_FixFault : Lifts Tryd.prog 24 9 L_foliowrightref_FixFault R_foliowrightref_FixFault := ⟨_, _, Tryd.func24, rfl, by kernel_rfl, by kernel_rfl, rfl⟩

def fltI (n : Int) : Int := if Lim n then 0 else 1
theorem fault_call (n : Int) : PCall Tryd.prog 24 [.int .i64 n] (fun r => r = .one (.int .i64 (fltI n))) := by
  refine lift_foliowrightref_FixFault.call rfl ?_
  simp (maxSteps := 2000000) only [go_sem, Nat.reduceEqDiff, Nat.reduceBEq, Nat.reduceLT, Nat.reduceLeDiff, Nat.reduceAdd, Nat.reduceSub, Nat.reduceMul, ↓reduceIte, reduceCtorEq, Nat.reduceBNe, Nat.reduceSubDiff, Int.reduceLT, Int.reduceLE, Int.reduceEq, Int.reduceNeg, Int.reduceAdd, Int.reduceMul, Int.reduceSub, Int.reduceToNat, L_foliowrightref_FixFault, R_foliowrightref_FixFault]
  unfold fltI
  by_cases h : Lim n
  · rw [if_pos h]
    unfold Lim at h
    exact ⟨fun a => ⟨fun b => by omega, fun b => rfl⟩, fun a => by omega⟩
  · rw [if_neg h]
    unfold Lim at h
    exact ⟨fun a => ⟨fun b => rfl, fun b => by omega⟩, fun a => rfl⟩
theorem flt_pos {n : Int} (h : Lim n) : fltI n = 0 := if_pos h
theorem flt_neg {n : Int} (h : ¬ Lim n) : fltI n = 1 := if_neg h
theorem flt_bd (n : Int) : 0 ≤ fltI n ∧ fltI n ≤ 1 := by unfold fltI; split <;> omega

/-- foliowrightref.Floor -/
def L_foliowrightref_Floor : LCode :=
  .seq (.reg [⟨some 2, .asg (.k (.d (.int .i64 0))), none⟩]) (.seq (.reg [⟨some 4, .val (.cp (.t 0)), none⟩, ⟨some 5, .val (.bin .rem (.t 4) (.k (.d (.int .i64 1000)))), none⟩, ⟨some 
  3, .asg (.t 5), none⟩]) (.seq (.seq (.reg [⟨some 6, .val (.cp (.t 3)), none⟩, ⟨some 7, .val (.bin .lss (.t 6) (.k (.d (.int .i64 0)))), none⟩]) (.cond (.t 7) (.reg [⟨some 8, .val 
  (.cp (.t 3)), none⟩, ⟨some 9, .val (.bin .add (.t 8) (.k (.d (.int .i64 1000)))), none⟩, ⟨some 3, .asg (.t 9), none⟩]) .skip)) (.seq (.reg [⟨some 10, .val (.cp (.t 0)), none⟩, 
  ⟨some 11, .val (.cp (.t 3)), none⟩, ⟨some 12, .val (.bin .sub (.t 10) (.t 11)), none⟩, ⟨some 13, .val (.bin .quo (.t 12) (.k (.d (.int .i64 1000)))), none⟩, ⟨some 2, .asg (.t 
  13), none⟩]) .ret)))
def R_foliowrightref_Floor : List LRes := [.tmp 2]
theorem lift_foliowrightref_Floor : Lifts Tryd.prog 78 14 L_foliowrightref_Floor R_foliowrightref_Floor := ⟨_, _, Tryd.func78, rfl, by kernel_rfl, by kernel_rfl, rfl⟩

theorem rfloor_call {n : Int} (h : -4000000000000000000 ≤ n ∧ n ≤ 4000000000000000000) : PCall Tryd.prog 78 [.int .i64 n] (fun r => r = .one (.int .i64 (n / 1000))) := by
  refine lift_foliowrightref_Floor.call rfl ?_
  simp (maxSteps := 2000000) only [go_sem, Nat.reduceEqDiff, Nat.reduceBEq, Nat.reduceLT, Nat.reduceLeDiff, Nat.reduceAdd, Nat.reduceSub, Nat.reduceMul, ↓reduceIte, reduceCtorEq, Nat.reduceBNe, Nat.reduceSubDiff, Int.reduceLT, Int.reduceLE, Int.reduceEq, Int.reduceNeg, Int.reduceAdd, Int.reduceMul, Int.reduceSub, Int.reduceToNat, L_foliowrightref_Floor, R_foliowrightref_Floor]
  have h1 : ((1000 : Int).natAbs : Int) = 1000 := rfl
  have hm : ∃ m : Int, Int.tmod n 1000 = m ∧ (n - m) % 1000 = 0 ∧ -1000 < m ∧ m < 1000 ∧ (0 ≤ n → 0 ≤ m) ∧ (n ≤ 0 → m ≤ 0) := by
    refine ⟨_, rfl, ?_⟩
    rw [Int.tmod_eq_emod]
    by_cases hd : 0 ≤ n ∨ (1000 : Int) ∣ n
    · rw [if_pos hd]
      simp only [Int.natCast_zero, Int.sub_zero, Int.natCast_zero]
      omega
    · rw [if_neg hd, h1]; omega
  obtain ⟨m, e, q1, q2, q3, q4, q5⟩ := hm
  rw [e]
  refine ⟨fun a => ?_, fun a => ?_⟩
  · rw [IntWalk.i64_in (m + 1000) (by omega), IntWalk.i64_in (n - _) (by omega)]
    have e2 : n - (m + 1000) = 1000 * (n / 1000) := by omega
    rw [e2, Int.mul_tdiv_cancel_left _ (by decide), IntWalk.i64_in _ (by omega)]
  · rw [IntWalk.i64_in (n - _) (by omega)]
    have e2 : n - m = 1000 * (n / 1000) := by omega
    rw [e2, Int.mul_tdiv_cancel_left _ (by decide), IntWalk.i64_in _ (by omega)]

def intN : Option Int → Res
  | some n => .tup [I n, I 0]
  | none => .tup [I 0, I 1]

/-- foliowrightref.line -/
def L_foliowrightref_line : LCode :=
  .seq (.reg [⟨some 10, .asg (.k (.d (.int .i64 0))), none⟩, ⟨some 11, .asg (.k (.d (.int .i64 0))), none⟩]) (.seq (.seq (.reg [⟨some 13, .val (.cp (.t 0)), none⟩, ⟨some 14, .call 24 
  [.t 13], none⟩, ⟨some 15, .val (.cp (.t 1)), none⟩, ⟨some 16, .call 24 [.t 15], none⟩, ⟨some 17, .val (.bin .add (.t 14) (.t 16)), none⟩, ⟨some 18, .val (.cp (.t 2)), none⟩, 
  ⟨some 19, .call 24 [.t 18], none⟩, ⟨some 20, .val (.bin .add (.t 17) (.t 19)), none⟩, ⟨some 21, .val (.cp (.t 3)), none⟩, ⟨some 22, .call 24 [.t 21], none⟩, ⟨some 23, .val (.bin 
  .add (.t 20) (.t 22)), none⟩, ⟨some 24, .val (.cp (.t 4)), none⟩, ⟨some 25, .call 24 [.t 24], none⟩, ⟨some 26, .val (.bin .add (.t 23) (.t 25)), none⟩, ⟨some 27, .val (.bin .gtr 
  (.t 26) (.k (.d (.int .i64 0)))), none⟩]) (.cond (.t 27) (.seq (.reg [⟨some 10, .asg (.k (.d (.int .i64 0))), none⟩, ⟨some 11, .asg (.k (.d (.int .i64 1))), none⟩]) .ret) .skip)) 
  (.seq (.reg [⟨some 28, .val (.cp (.t 0)), none⟩, ⟨some 29, .val (.cp (.t 1)), none⟩, ⟨some 30, .val (.bin .mul (.t 28) (.t 29)), none⟩, ⟨some 31, .val (.cp (.t 2)), none⟩, ⟨some 
  32, .val (.cp (.t 3)), none⟩, ⟨some 33, .val (.bin .mul (.t 31) (.t 32)), none⟩, ⟨some 34, .val (.bin .add (.t 30) (.t 33)), none⟩, ⟨some 35, .call 78 [.t 34], none⟩, ⟨some 36, 
  .val (.cp (.t 4)), none⟩, ⟨some 37, .val (.bin .add (.t 35) (.t 36)), none⟩, ⟨some 12, .asg (.t 37), none⟩]) (.seq (.seq (.reg [⟨some 38, .val (.cp (.t 12)), none⟩, ⟨some 39, 
  .call 24 [.t 38], none⟩, ⟨some 40, .val (.bin .gtr (.t 39) (.k (.d (.int .i64 0)))), none⟩]) (.cond (.t 40) (.seq (.reg [⟨some 10, .asg (.k (.d (.int .i64 0))), none⟩, ⟨some 11, 
  .asg (.k (.d (.int .i64 1))), none⟩]) .ret) .skip)) (.seq (.reg [⟨some 41, .val (.cp (.t 12)), none⟩, ⟨some 10, .asg (.t 41), none⟩, ⟨some 11, .asg (.k (.d (.int .i64 0))), 
  none⟩]) .ret))))
def R_foliowrightref_line : List LRes := [.tmp 10, .tmp 11]
theorem lift_foliowrightref_line : Lifts Tryd.prog 80 42 L_foliowrightref_line R_foliowrightref_line := ⟨_, _, Tryd.func80, rfl, by kernel_rfl, by kernel_rfl, rfl⟩

theorem line_call (a x b y c : Int) : PCall Tryd.prog 80 [.int .i64 a, .int .i64 x, .int .i64 b, .int .i64 y, .int .i64 c] (fun r => r = intN (twoF a x b y c)) := by
  refine lift_foliowrightref_line.call rfl ?_
  have f1 := flt_bd a
  have f2 := flt_bd x
  have f3 := flt_bd b
  have f4 := flt_bd y
  have f5 := flt_bd c
  simp (maxSteps := 2000000) only [go_sem, Nat.reduceEqDiff, Nat.reduceBEq, Nat.reduceLT, Nat.reduceLeDiff, Nat.reduceAdd, Nat.reduceSub, Nat.reduceMul, ↓reduceIte, reduceCtorEq, Nat.reduceBNe, Nat.reduceSubDiff, Int.reduceLT, Int.reduceLE, Int.reduceEq, Int.reduceNeg, Int.reduceAdd, Int.reduceMul, Int.reduceSub, Int.reduceToNat, L_foliowrightref_line, R_foliowrightref_line]
  refine CallG.of (fault_call a) ?_
  simp (maxSteps := 2000000) only [go_sem, Nat.reduceEqDiff, Nat.reduceBEq, Nat.reduceLT, Nat.reduceLeDiff, Nat.reduceAdd, Nat.reduceSub, Nat.reduceMul, ↓reduceIte, reduceCtorEq, Nat.reduceBNe, Nat.reduceSubDiff, Int.reduceLT, Int.reduceLE, Int.reduceEq, Int.reduceNeg, Int.reduceAdd, Int.reduceMul, Int.reduceSub, Int.reduceToNat]
  refine CallG.of (fault_call x) ?_
  simp (maxSteps := 2000000) (disch := omega) only [go_sem, Nat.reduceEqDiff, Nat.reduceBEq, Nat.reduceLT, Nat.reduceLeDiff, Nat.reduceAdd, Nat.reduceSub, Nat.reduceMul, ↓reduceIte, reduceCtorEq, Nat.reduceBNe, Nat.reduceSubDiff, Int.reduceLT, Int.reduceLE, Int.reduceEq, Int.reduceNeg, Int.reduceAdd, Int.reduceMul, Int.reduceSub, Int.reduceToNat]
  refine CallG.of (fault_call b) ?_
  simp (maxSteps := 2000000) (disch := omega) only [go_sem, Nat.reduceEqDiff, Nat.reduceBEq, Nat.reduceLT, Nat.reduceLeDiff, Nat.reduceAdd, Nat.reduceSub, Nat.reduceMul, ↓reduceIte, reduceCtorEq, Nat.reduceBNe, Nat.reduceSubDiff, Int.reduceLT, Int.reduceLE, Int.reduceEq, Int.reduceNeg, Int.reduceAdd, Int.reduceMul, Int.reduceSub, Int.reduceToNat]
  refine CallG.of (fault_call y) ?_
  simp (maxSteps := 2000000) (disch := omega) only [go_sem, Nat.reduceEqDiff, Nat.reduceBEq, Nat.reduceLT, Nat.reduceLeDiff, Nat.reduceAdd, Nat.reduceSub, Nat.reduceMul, ↓reduceIte, reduceCtorEq, Nat.reduceBNe, Nat.reduceSubDiff, Int.reduceLT, Int.reduceLE, Int.reduceEq, Int.reduceNeg, Int.reduceAdd, Int.reduceMul, Int.reduceSub, Int.reduceToNat]
  refine CallG.of (fault_call c) ?_
  unfold twoF
  by_cases hb : Lim a ∧ Lim x ∧ Lim b ∧ Lim y ∧ Lim c
  · rw [if_pos hb]
    obtain ⟨l1, l2, l3, l4, l5⟩ := hb
    rw [flt_pos l1, flt_pos l2, flt_pos l3, flt_pos l4, flt_pos l5]
    have b1 := mul_bd l1.1 l1.2 l2.1 l2.2
    have b2 := mul_bd l3.1 l3.2 l4.1 l4.2
    unfold Lim at l5
    simp (maxSteps := 2000000) (disch := omega) only [go_sem, Nat.reduceEqDiff, Nat.reduceBEq, Nat.reduceLT, Nat.reduceLeDiff, Nat.reduceAdd, Nat.reduceSub, Nat.reduceMul, ↓reduceIte, reduceCtorEq, Nat.reduceBNe, Nat.reduceSubDiff, Int.reduceLT, Int.reduceLE, Int.reduceEq, Int.reduceNeg, Int.reduceAdd, Int.reduceMul, Int.reduceSub, Int.reduceToNat]
    refine CallG.of (rfloor_call (by omega)) ?_
    simp (maxSteps := 2000000) (disch := omega) only [go_sem, Nat.reduceEqDiff, Nat.reduceBEq, Nat.reduceLT, Nat.reduceLeDiff, Nat.reduceAdd, Nat.reduceSub, Nat.reduceMul, ↓reduceIte, reduceCtorEq, Nat.reduceBNe, Nat.reduceSubDiff, Int.reduceLT, Int.reduceLE, Int.reduceEq, Int.reduceNeg, Int.reduceAdd, Int.reduceMul, Int.reduceSub, Int.reduceToNat]
    refine CallG.of (fault_call _) ?_
    unfold okF
    by_cases hr : Lim ((a * x + b * y) / 1000 + c)
    · rw [if_pos hr, flt_pos hr]
      simp (maxSteps := 2000000) only [go_sem, Nat.reduceEqDiff, Nat.reduceBEq, Nat.reduceLT, Nat.reduceLeDiff, Nat.reduceAdd, Nat.reduceSub, Nat.reduceMul, ↓reduceIte, reduceCtorEq, Nat.reduceBNe, Nat.reduceSubDiff, Int.reduceLT, Int.reduceLE, Int.reduceEq, Int.reduceNeg, Int.reduceAdd, Int.reduceMul, Int.reduceSub, Int.reduceToNat, intN, I]
    · rw [if_neg hr, flt_neg hr]
      simp (maxSteps := 2000000) only [go_sem, Nat.reduceEqDiff, Nat.reduceBEq, Nat.reduceLT, Nat.reduceLeDiff, Nat.reduceAdd, Nat.reduceSub, Nat.reduceMul, ↓reduceIte, reduceCtorEq, Nat.reduceBNe, Nat.reduceSubDiff, Int.reduceLT, Int.reduceLE, Int.reduceEq, Int.reduceNeg, Int.reduceAdd, Int.reduceMul, Int.reduceSub, Int.reduceToNat, intN, I]
  · rw [if_neg hb]
    have hs : 0 < fltI a + fltI x + fltI b + fltI y + fltI c := by
      by_cases l1 : Lim a
      · by_cases l2 : Lim x
        · by_cases l3 : Lim b
          · by_cases l4 : Lim y
            · have l5 : ¬ Lim c := fun l5 => hb ⟨l1, l2, l3, l4, l5⟩
              have := flt_neg l5; omega
            · have := flt_neg l4; omega
          · have := flt_neg l3; omega
        · have := flt_neg l2; omega
      · have := flt_neg l1; omega
    simp (maxSteps := 2000000) (disch := omega) only [go_sem, Nat.reduceEqDiff, Nat.reduceBEq, Nat.reduceLT, Nat.reduceLeDiff, Nat.reduceAdd, Nat.reduceSub, Nat.reduceMul, ↓reduceIte, reduceCtorEq, Nat.reduceBNe, Nat.reduceSubDiff, Int.reduceLT, Int.reduceLE, Int.reduceEq, Int.reduceNeg, Int.reduceAdd, Int.reduceMul, Int.reduceSub, Int.reduceToNat, hs, intN, I]

/-- fix.Mul -/
def L_fix_Mul : LCode :=
  .seq (.reg [⟨some 4, .asg (.k (.d (.int .i64 0))), none⟩, ⟨some 5, .asg (.k (.d .nil)), none⟩]) (.seq (.seq (.reg [⟨some 7, .val (.cp (.t 0)), none⟩, ⟨some 8, .call 26 [.t 7], 
  none⟩, ⟨some 9, .val (.eqN 0 true (.t 8)), none⟩, ⟨some 10, .val (.cp (.t 9)), none⟩, ⟨some 11, .val (.cp (.t 1)), some (10, false)⟩, ⟨some 12, .call 26 [.t 11], some (10, 
  false)⟩, ⟨some 13, .val (.eqN 0 true (.t 12)), some (10, false)⟩, ⟨some 14, .val (.pick (.t 10) (.k (.d (.bool true))) (.t 13)), none⟩]) (.cond (.t 14) (.seq (.reg [⟨some 15, 
  .val (.mkI 42 (.k (.d (.int .i64 1)))), none⟩, ⟨some 4, .asg (.k (.d (.int .i64 0))), none⟩, ⟨some 5, .asg (.t 15), none⟩]) .ret) .skip)) (.seq (.reg [⟨some 16, .val (.cp (.t 
  0)), none⟩, ⟨some 17, .val (.cp (.t 1)), none⟩, ⟨some 18, .val (.bin .mul (.t 16) (.t 17)), none⟩, ⟨some 19, .call 76 [.t 18], none⟩, ⟨some 6, .asg (.t 19), none⟩]) (.seq (.reg 
  [⟨some 20, .val (.cp (.t 6)), none⟩, ⟨some 21, .call 77 [.t 20], none⟩, ⟨some 22, .val (.ext 0 (.t 21)), none⟩, ⟨some 23, .val (.ext 1 (.t 21)), none⟩, ⟨some 4, .asg (.t 22), 
  none⟩, ⟨some 5, .asg (.t 23), none⟩]) .ret)))
def R_fix_Mul : List LRes := [.tmp 4, .tmp 5]
theorem lift_fix_Mul : Lifts Tryd.prog 28 24 L_fix_Mul R_fix_Mul := ⟨_, _, Tryd.func28, rfl, by kernel_rfl, by kernel_rfl, rfl⟩

/-- fix.Add -/
def L_fix_Add : LCode :=
  .seq (.reg [⟨some 4, .asg (.k (.d (.int .i64 0))), none⟩, ⟨some 5, .asg (.k (.d .nil)), none⟩]) (.seq (.seq (.reg [⟨some 6, .val (.cp (.t 0)), none⟩, ⟨some 7, .call 26 [.t 6], 
  none⟩, ⟨some 8, .val (.eqN 0 true (.t 7)), none⟩, ⟨some 9, .val (.cp (.t 8)), none⟩, ⟨some 10, .val (.cp (.t 1)), some (9, false)⟩, ⟨some 11, .call 26 [.t 10], some (9, false)⟩, 
  ⟨some 12, .val (.eqN 0 true (.t 11)), some (9, false)⟩, ⟨some 13, .val (.pick (.t 9) (.k (.d (.bool true))) (.t 12)), none⟩]) (.cond (.t 13) (.seq (.reg [⟨some 14, .val (.mkI 42 
  (.k (.d (.int .i64 1)))), none⟩, ⟨some 4, .asg (.k (.d (.int .i64 0))), none⟩, ⟨some 5, .asg (.t 14), none⟩]) .ret) .skip)) (.seq (.reg [⟨some 15, .val (.cp (.t 0)), none⟩, ⟨some 
  16, .val (.cp (.t 1)), none⟩, ⟨some 17, .val (.bin .add (.t 15) (.t 16)), none⟩, ⟨some 18, .call 77 [.t 17], none⟩, ⟨some 19, .val (.ext 0 (.t 18)), none⟩, ⟨some 20, .val (.ext 1 
  (.t 18)), none⟩, ⟨some 4, .asg (.t 19), none⟩, ⟨some 5, .asg (.t 20), none⟩]) .ret))
def R_fix_Add : List LRes := [.tmp 4, .tmp 5]
theorem lift_fix_Add : Lifts Tryd.prog 30 21 L_fix_Add R_fix_Add := ⟨_, _, Tryd.func30, rfl, by kernel_rfl, by kernel_rfl, rfl⟩

/-- foliowrightref.Mul -/
def L_foliowrightref_Mul : LCode :=
  .seq (.reg [⟨some 4, .asg (.k (.d (.int .i64 0))), none⟩, ⟨some 5, .asg (.k (.d (.int .i64 0))), none⟩]) (.seq (.seq (.reg [⟨some 7, .val (.cp (.t 0)), none⟩, ⟨some 8, .call 24 [.t 
  7], none⟩, ⟨some 9, .val (.cp (.t 1)), none⟩, ⟨some 10, .call 24 [.t 9], none⟩, ⟨some 11, .val (.bin .add (.t 8) (.t 10)), none⟩, ⟨some 12, .val (.bin .gtr (.t 11) (.k (.d (.int 
  .i64 0)))), none⟩]) (.cond (.t 12) (.seq (.reg [⟨some 4, .asg (.k (.d (.int .i64 0))), none⟩, ⟨some 5, .asg (.k (.d (.int .i64 1))), none⟩]) .ret) .skip)) (.seq (.reg [⟨some 13, 
  .val (.cp (.t 0)), none⟩, ⟨some 14, .val (.cp (.t 1)), none⟩, ⟨some 15, .val (.bin .mul (.t 13) (.t 14)), none⟩, ⟨some 16, .call 78 [.t 15], none⟩, ⟨some 6, .asg (.t 16), none⟩]) 
  (.seq (.seq (.reg [⟨some 17, .val (.cp (.t 6)), none⟩, ⟨some 18, .call 24 [.t 17], none⟩, ⟨some 19, .val (.bin .gtr (.t 18) (.k (.d (.int .i64 0)))), none⟩]) (.cond (.t 19) (.seq 
  (.reg [⟨some 4, .asg (.k (.d (.int .i64 0))), none⟩, ⟨some 5, .asg (.k (.d (.int .i64 1))), none⟩]) .ret) .skip)) (.seq (.reg [⟨some 20, .val (.cp (.t 6)), none⟩, ⟨some 4, .asg 
  (.t 20), none⟩, ⟨some 5, .asg (.k (.d (.int .i64 0))), none⟩]) .ret))))
def R_foliowrightref_Mul : List LRes := [.tmp 4, .tmp 5]
theorem lift_foliowrightref_Mul : Lifts Tryd.prog 29 21 L_foliowrightref_Mul R_foliowrightref_Mul := ⟨_, _, Tryd.func29, rfl, by kernel_rfl, by kernel_rfl, rfl⟩

/-- foliowrightref.Add -/
def L_foliowrightref_Add : LCode :=
  .seq (.reg [⟨some 4, .asg (.k (.d (.int .i64 0))), none⟩, ⟨some 5, .asg (.k (.d (.int .i64 0))), none⟩]) (.seq (.seq (.reg [⟨some 6, .val (.cp (.t 0)), none⟩, ⟨some 7, .call 24 [.t 
  6], none⟩, ⟨some 8, .val (.cp (.t 1)), none⟩, ⟨some 9, .call 24 [.t 8], none⟩, ⟨some 10, .val (.bin .add (.t 7) (.t 9)), none⟩, ⟨some 11, .val (.bin .gtr (.t 10) (.k (.d (.int 
  .i64 0)))), none⟩, ⟨some 12, .val (.cp (.t 11)), none⟩, ⟨some 13, .val (.cp (.t 0)), some (12, false)⟩, ⟨some 14, .val (.cp (.t 1)), some (12, false)⟩, ⟨some 15, .val (.bin .add 
  (.t 13) (.t 14)), some (12, false)⟩, ⟨some 16, .call 24 [.t 15], some (12, false)⟩, ⟨some 17, .val (.bin .gtr (.t 16) (.k (.d (.int .i64 0)))), some (12, false)⟩, ⟨some 18, .val 
  (.pick (.t 12) (.k (.d (.bool true))) (.t 17)), none⟩]) (.cond (.t 18) (.seq (.reg [⟨some 4, .asg (.k (.d (.int .i64 0))), none⟩, ⟨some 5, .asg (.k (.d (.int .i64 1))), none⟩]) 
  .ret) .skip)) (.seq (.reg [⟨some 19, .val (.cp (.t 0)), none⟩, ⟨some 20, .val (.cp (.t 1)), none⟩, ⟨some 21, .val (.bin .add (.t 19) (.t 20)), none⟩, ⟨some 4, .asg (.t 21), 
  none⟩, ⟨some 5, .asg (.k (.d (.int .i64 0))), none⟩]) .ret))
def R_foliowrightref_Add : List LRes := [.tmp 4, .tmp 5]
theorem lift_foliowrightref_Add : Lifts Tryd.prog 31 22 L_foliowrightref_Add R_foliowrightref_Add := ⟨_, _, Tryd.func31, rfl, by kernel_rfl, by kernel_rfl, rfl⟩

def mulF (a b : Int) : Option Int := if Lim a ∧ Lim b then okF (a * b / 1000) else none
def addF (a b : Int) : Option Int := if Lim a ∧ Lim b then okF (a + b) else none

theorem mul_call (a b : Int) : PCall Tryd.prog 28 [.int .i64 a, .int .i64 b] (fun r => r = intE (mulF a b)) := by
  refine lift_fix_Mul.call rfl ?_
  simp (maxSteps := 2000000) only [go_sem, Nat.reduceEqDiff, Nat.reduceBEq, Nat.reduceLT, Nat.reduceLeDiff, Nat.reduceAdd, Nat.reduceSub, Nat.reduceMul, ↓reduceIte, reduceCtorEq, Nat.reduceBNe, Nat.reduceSubDiff, Int.reduceLT, Int.reduceLE, Int.reduceEq, Int.reduceNeg, Int.reduceAdd, Int.reduceMul, Int.reduceSub, Int.reduceToNat, L_fix_Mul, R_fix_Mul]
  unfold mulF
  by_cases ha : Lim a
  · refine CallG.of (check_ok ha) ?_
    simp (maxSteps := 2000000) only [go_sem, Nat.reduceEqDiff, Nat.reduceBEq, Nat.reduceLT, Nat.reduceLeDiff, Nat.reduceAdd, Nat.reduceSub, Nat.reduceMul, ↓reduceIte, reduceCtorEq, Nat.reduceBNe, Nat.reduceSubDiff, Int.reduceLT, Int.reduceLE, Int.reduceEq, Int.reduceNeg, Int.reduceAdd, Int.reduceMul, Int.reduceSub, Int.reduceToNat]
    by_cases hb : Lim b
    · refine CallG.of (check_ok hb) ?_
      rw [if_pos ⟨ha, hb⟩]
      have b1 := mul_bd ha.1 ha.2 hb.1 hb.2
      simp (maxSteps := 2000000) (disch := omega) only [go_sem, Nat.reduceEqDiff, Nat.reduceBEq, Nat.reduceLT, Nat.reduceLeDiff, Nat.reduceAdd, Nat.reduceSub, Nat.reduceMul, ↓reduceIte, reduceCtorEq, Nat.reduceBNe, Nat.reduceSubDiff, Int.reduceLT, Int.reduceLE, Int.reduceEq, Int.reduceNeg, Int.reduceAdd, Int.reduceMul, Int.reduceSub, Int.reduceToNat]
      refine CallG.of (floor_call (by unfold i64; omega)) ?_
      simp (maxSteps := 2000000) only [go_sem, Nat.reduceEqDiff, Nat.reduceBEq, Nat.reduceLT, Nat.reduceLeDiff, Nat.reduceAdd, Nat.reduceSub, Nat.reduceMul, ↓reduceIte, reduceCtorEq, Nat.reduceBNe, Nat.reduceSubDiff, Int.reduceLT, Int.reduceLE, Int.reduceEq, Int.reduceNeg, Int.reduceAdd, Int.reduceMul, Int.reduceSub, Int.reduceToNat, I]
      refine CallG.of (ok_call _) ?_
      cases okF (a * b / 1000) <;> simp (maxSteps := 2000000) only [go_sem, Nat.reduceEqDiff, Nat.reduceBEq, Nat.reduceLT, Nat.reduceLeDiff, Nat.reduceAdd, Nat.reduceSub, Nat.reduceMul, ↓reduceIte, reduceCtorEq, Nat.reduceBNe, Nat.reduceSubDiff, Int.reduceLT, Int.reduceLE, Int.reduceEq, Int.reduceNeg, Int.reduceAdd, Int.reduceMul, Int.reduceSub, Int.reduceToNat, intE, I, err]
    · refine CallG.of (check_bad hb) ?_
      rw [if_neg (fun h => hb h.2)]
      simp (maxSteps := 2000000) only [go_sem, Nat.reduceEqDiff, Nat.reduceBEq, Nat.reduceLT, Nat.reduceLeDiff, Nat.reduceAdd, Nat.reduceSub, Nat.reduceMul, ↓reduceIte, reduceCtorEq, Nat.reduceBNe, Nat.reduceSubDiff, Int.reduceLT, Int.reduceLE, Int.reduceEq, Int.reduceNeg, Int.reduceAdd, Int.reduceMul, Int.reduceSub, Int.reduceToNat, intE, I, err]
  · refine CallG.of (check_bad ha) ?_
    rw [if_neg (fun h => ha h.1)]
    simp (maxSteps := 2000000) only [go_sem, Nat.reduceEqDiff, Nat.reduceBEq, Nat.reduceLT, Nat.reduceLeDiff, Nat.reduceAdd, Nat.reduceSub, Nat.reduceMul, ↓reduceIte, reduceCtorEq, Nat.reduceBNe, Nat.reduceSubDiff, Int.reduceLT, Int.reduceLE, Int.reduceEq, Int.reduceNeg, Int.reduceAdd, Int.reduceMul, Int.reduceSub, Int.reduceToNat, intE, I, err]

theorem add_call (a b : Int) : PCall Tryd.prog 30 [.int .i64 a, .int .i64 b] (fun r => r = intE (addF a b)) := by
  refine lift_fix_Add.call rfl ?_
  simp (maxSteps := 2000000) only [go_sem, Nat.reduceEqDiff, Nat.reduceBEq, Nat.reduceLT, Nat.reduceLeDiff, Nat.reduceAdd, Nat.reduceSub, Nat.reduceMul, ↓reduceIte, reduceCtorEq, Nat.reduceBNe, Nat.reduceSubDiff, Int.reduceLT, Int.reduceLE, Int.reduceEq, Int.reduceNeg, Int.reduceAdd, Int.reduceMul, Int.reduceSub, Int.reduceToNat, L_fix_Add, R_fix_Add]
  unfold addF
  by_cases ha : Lim a
  · refine CallG.of (check_ok ha) ?_
    simp (maxSteps := 2000000) only [go_sem, Nat.reduceEqDiff, Nat.reduceBEq, Nat.reduceLT, Nat.reduceLeDiff, Nat.reduceAdd, Nat.reduceSub, Nat.reduceMul, ↓reduceIte, reduceCtorEq, Nat.reduceBNe, Nat.reduceSubDiff, Int.reduceLT, Int.reduceLE, Int.reduceEq, Int.reduceNeg, Int.reduceAdd, Int.reduceMul, Int.reduceSub, Int.reduceToNat]
    by_cases hb : Lim b
    · refine CallG.of (check_ok hb) ?_
      rw [if_pos ⟨ha, hb⟩]
      have w : IntKind.i64.wrap (a + b) = a + b := IntWalk.i64_in _ (by unfold Lim at ha hb; omega)
      simp (maxSteps := 2000000) only [go_sem, Nat.reduceEqDiff, Nat.reduceBEq, Nat.reduceLT, Nat.reduceLeDiff, Nat.reduceAdd, Nat.reduceSub, Nat.reduceMul, ↓reduceIte, reduceCtorEq, Nat.reduceBNe, Nat.reduceSubDiff, Int.reduceLT, Int.reduceLE, Int.reduceEq, Int.reduceNeg, Int.reduceAdd, Int.reduceMul, Int.reduceSub, Int.reduceToNat, w]
      refine CallG.of (ok_call _) ?_
      cases okF (a + b) <;> simp (maxSteps := 2000000) only [go_sem, Nat.reduceEqDiff, Nat.reduceBEq, Nat.reduceLT, Nat.reduceLeDiff, Nat.reduceAdd, Nat.reduceSub, Nat.reduceMul, ↓reduceIte, reduceCtorEq, Nat.reduceBNe, Nat.reduceSubDiff, Int.reduceLT, Int.reduceLE, Int.reduceEq, Int.reduceNeg, Int.reduceAdd, Int.reduceMul, Int.reduceSub, Int.reduceToNat, intE, I, err]
    · refine CallG.of (check_bad hb) ?_
      rw [if_neg (fun h => hb h.2)]
      simp (maxSteps := 2000000) only [go_sem, Nat.reduceEqDiff, Nat.reduceBEq, Nat.reduceLT, Nat.reduceLeDiff, Nat.reduceAdd, Nat.reduceSub, Nat.reduceMul, ↓reduceIte, reduceCtorEq, Nat.reduceBNe, Nat.reduceSubDiff, Int.reduceLT, Int.reduceLE, Int.reduceEq, Int.reduceNeg, Int.reduceAdd, Int.reduceMul, Int.reduceSub, Int.reduceToNat, intE, I, err]
  · refine CallG.of (check_bad ha) ?_
    rw [if_neg (fun h => ha h.1)]
    simp (maxSteps := 2000000) only [go_sem, Nat.reduceEqDiff, Nat.reduceBEq, Nat.reduceLT, Nat.reduceLeDiff, Nat.reduceAdd, Nat.reduceSub, Nat.reduceMul, ↓reduceIte, reduceCtorEq, Nat.reduceBNe, Nat.reduceSubDiff, Int.reduceLT, Int.reduceLE, Int.reduceEq, Int.reduceNeg, Int.reduceAdd, Int.reduceMul, Int.reduceSub, Int.reduceToNat, intE, I, err]

theorem rmul_call (a b : Int) : PCall Tryd.prog 29 [.int .i64 a, .int .i64 b] (fun r => r = intN (mulF a b)) := by
  refine lift_foliowrightref_Mul.call rfl ?_
  simp (maxSteps := 2000000) only [go_sem, Nat.reduceEqDiff, Nat.reduceBEq, Nat.reduceLT, Nat.reduceLeDiff, Nat.reduceAdd, Nat.reduceSub, Nat.reduceMul, ↓reduceIte, reduceCtorEq, Nat.reduceBNe, Nat.reduceSubDiff, Int.reduceLT, Int.reduceLE, Int.reduceEq, Int.reduceNeg, Int.reduceAdd, Int.reduceMul, Int.reduceSub, Int.reduceToNat, L_foliowrightref_Mul, R_foliowrightref_Mul]
  have f1 := flt_bd a
  have f2 := flt_bd b
  refine CallG.of (fault_call a) ?_
  simp (maxSteps := 2000000) only [go_sem, Nat.reduceEqDiff, Nat.reduceBEq, Nat.reduceLT, Nat.reduceLeDiff, Nat.reduceAdd, Nat.reduceSub, Nat.reduceMul, ↓reduceIte, reduceCtorEq, Nat.reduceBNe, Nat.reduceSubDiff, Int.reduceLT, Int.reduceLE, Int.reduceEq, Int.reduceNeg, Int.reduceAdd, Int.reduceMul, Int.reduceSub, Int.reduceToNat]
  refine CallG.of (fault_call b) ?_
  unfold mulF
  by_cases hb : Lim a ∧ Lim b
  · rw [if_pos hb]
    obtain ⟨l1, l2⟩ := hb
    rw [flt_pos l1, flt_pos l2]
    have b1 := mul_bd l1.1 l1.2 l2.1 l2.2
    simp (maxSteps := 2000000) (disch := omega) only [go_sem, Nat.reduceEqDiff, Nat.reduceBEq, Nat.reduceLT, Nat.reduceLeDiff, Nat.reduceAdd, Nat.reduceSub, Nat.reduceMul, ↓reduceIte, reduceCtorEq, Nat.reduceBNe, Nat.reduceSubDiff, Int.reduceLT, Int.reduceLE, Int.reduceEq, Int.reduceNeg, Int.reduceAdd, Int.reduceMul, Int.reduceSub, Int.reduceToNat]
    refine CallG.of (rfloor_call (by omega)) ?_
    simp (maxSteps := 2000000) (disch := omega) only [go_sem, Nat.reduceEqDiff, Nat.reduceBEq, Nat.reduceLT, Nat.reduceLeDiff, Nat.reduceAdd, Nat.reduceSub, Nat.reduceMul, ↓reduceIte, reduceCtorEq, Nat.reduceBNe, Nat.reduceSubDiff, Int.reduceLT, Int.reduceLE, Int.reduceEq, Int.reduceNeg, Int.reduceAdd, Int.reduceMul, Int.reduceSub, Int.reduceToNat]
    refine CallG.of (fault_call _) ?_
    unfold okF
    by_cases hr : Lim (a * b / 1000)
    · rw [if_pos hr, flt_pos hr]
      simp (maxSteps := 2000000) only [go_sem, Nat.reduceEqDiff, Nat.reduceBEq, Nat.reduceLT, Nat.reduceLeDiff, Nat.reduceAdd, Nat.reduceSub, Nat.reduceMul, ↓reduceIte, reduceCtorEq, Nat.reduceBNe, Nat.reduceSubDiff, Int.reduceLT, Int.reduceLE, Int.reduceEq, Int.reduceNeg, Int.reduceAdd, Int.reduceMul, Int.reduceSub, Int.reduceToNat, intN, I]
    · rw [if_neg hr, flt_neg hr]
      simp (maxSteps := 2000000) only [go_sem, Nat.reduceEqDiff, Nat.reduceBEq, Nat.reduceLT, Nat.reduceLeDiff, Nat.reduceAdd, Nat.reduceSub, Nat.reduceMul, ↓reduceIte, reduceCtorEq, Nat.reduceBNe, Nat.reduceSubDiff, Int.reduceLT, Int.reduceLE, Int.reduceEq, Int.reduceNeg, Int.reduceAdd, Int.reduceMul, Int.reduceSub, Int.reduceToNat, intN, I]
  · rw [if_neg hb]
    have hs : 0 < fltI a + fltI b := by
      by_cases l1 : Lim a
      · have l5 : ¬ Lim b := fun l5 => hb ⟨l1, l5⟩
        have := flt_neg l5; omega
      · have := flt_neg l1; omega
    simp (maxSteps := 2000000) (disch := omega) only [go_sem, Nat.reduceEqDiff, Nat.reduceBEq, Nat.reduceLT, Nat.reduceLeDiff, Nat.reduceAdd, Nat.reduceSub, Nat.reduceMul, ↓reduceIte, reduceCtorEq, Nat.reduceBNe, Nat.reduceSubDiff, Int.reduceLT, Int.reduceLE, Int.reduceEq, Int.reduceNeg, Int.reduceAdd, Int.reduceMul, Int.reduceSub, Int.reduceToNat, hs, intN, I]

theorem radd_call (a b : Int) (ha0 : i64 a) : PCall Tryd.prog 31 [.int .i64 a, .int .i64 b] (fun r => r = intN (addF a b)) := by
  refine lift_foliowrightref_Add.call rfl ?_
  simp (maxSteps := 2000000) only [go_sem, Nat.reduceEqDiff, Nat.reduceBEq, Nat.reduceLT, Nat.reduceLeDiff, Nat.reduceAdd, Nat.reduceSub, Nat.reduceMul, ↓reduceIte, reduceCtorEq, Nat.reduceBNe, Nat.reduceSubDiff, Int.reduceLT, Int.reduceLE, Int.reduceEq, Int.reduceNeg, Int.reduceAdd, Int.reduceMul, Int.reduceSub, Int.reduceToNat, L_foliowrightref_Add, R_foliowrightref_Add]
  have f1 := flt_bd a
  have f2 := flt_bd b
  refine CallG.of (fault_call a) ?_
  simp (maxSteps := 2000000) only [go_sem, Nat.reduceEqDiff, Nat.reduceBEq, Nat.reduceLT, Nat.reduceLeDiff, Nat.reduceAdd, Nat.reduceSub, Nat.reduceMul, ↓reduceIte, reduceCtorEq, Nat.reduceBNe, Nat.reduceSubDiff, Int.reduceLT, Int.reduceLE, Int.reduceEq, Int.reduceNeg, Int.reduceAdd, Int.reduceMul, Int.reduceSub, Int.reduceToNat]
  refine CallG.of (fault_call b) ?_
  unfold addF
  by_cases hb : Lim a ∧ Lim b
  · rw [if_pos hb]
    obtain ⟨l1, l2⟩ := hb
    rw [flt_pos l1, flt_pos l2]
    have w : IntKind.i64.wrap (a + b) = a + b := IntWalk.i64_in _ (by unfold Lim at l1 l2; omega)
    simp (maxSteps := 2000000) (disch := omega) only [go_sem, Nat.reduceEqDiff, Nat.reduceBEq, Nat.reduceLT, Nat.reduceLeDiff, Nat.reduceAdd, Nat.reduceSub, Nat.reduceMul, ↓reduceIte, reduceCtorEq, Nat.reduceBNe, Nat.reduceSubDiff, Int.reduceLT, Int.reduceLE, Int.reduceEq, Int.reduceNeg, Int.reduceAdd, Int.reduceMul, Int.reduceSub, Int.reduceToNat, w]
    refine CallG.of (fault_call _) ?_
    unfold okF
    by_cases hr : Lim (a + b)
    · rw [if_pos hr, flt_pos hr]
      simp (maxSteps := 2000000) only [go_sem, Nat.reduceEqDiff, Nat.reduceBEq, Nat.reduceLT, Nat.reduceLeDiff, Nat.reduceAdd, Nat.reduceSub, Nat.reduceMul, ↓reduceIte, reduceCtorEq, Nat.reduceBNe, Nat.reduceSubDiff, Int.reduceLT, Int.reduceLE, Int.reduceEq, Int.reduceNeg, Int.reduceAdd, Int.reduceMul, Int.reduceSub, Int.reduceToNat, intN, I, w]
    · rw [if_neg hr, flt_neg hr]
      simp (maxSteps := 2000000) only [go_sem, Nat.reduceEqDiff, Nat.reduceBEq, Nat.reduceLT, Nat.reduceLeDiff, Nat.reduceAdd, Nat.reduceSub, Nat.reduceMul, ↓reduceIte, reduceCtorEq, Nat.reduceBNe, Nat.reduceSubDiff, Int.reduceLT, Int.reduceLE, Int.reduceEq, Int.reduceNeg, Int.reduceAdd, Int.reduceMul, Int.reduceSub, Int.reduceToNat, intN, I, w]
  · rw [if_neg hb]
    have hs : 0 < fltI a + fltI b := by
      by_cases l1 : Lim a
      · have l5 : ¬ Lim b := fun l5 => hb ⟨l1, l5⟩
        have := flt_neg l5; omega
      · have := flt_neg l1; omega
    simp (maxSteps := 2000000) (disch := omega) only [go_sem, Nat.reduceEqDiff, Nat.reduceBEq, Nat.reduceLT, Nat.reduceLeDiff, Nat.reduceAdd, Nat.reduceSub, Nat.reduceMul, ↓reduceIte, reduceCtorEq, Nat.reduceBNe, Nat.reduceSubDiff, Int.reduceLT, Int.reduceLE, Int.reduceEq, Int.reduceNeg, Int.reduceAdd, Int.reduceMul, Int.reduceSub, Int.reduceToNat, hs, intN, I]
end Go.Av.Tryd
